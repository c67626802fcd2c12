/- Proved in this text: lemmas and contracts of functions that the claim uses (parts: AbsA, AbsB, AbsC, AbsD, AbsE, AbsF, AbsG, AbsH, AbsI, AbsJ, AbsK). No condition. -/
import Derived.WalkKit
import Derived.StillTail
import Derived.Lib.ConvBytes

/- Abstract values and what they say of memory: a relation between lists of abstract values and lists of cells, and its plain laws. No condition. -/
namespace Go.Abs
open Go
set_option linter.unusedVariables false
set_option linter.unusedSimpArgs false

/-- An abstract value. 'imm': a slice whose cells stay as they are; 'fre': a slice that its holder alone owns; 'own': a slice into object 'id'. -/
inductive AV where
  | any
  | sc (v : Value)
  | agg (cs : List AV)
  | tup (vs : List AV)
  | nilS
  | imm (size len : Nat) (cells : List AV)
  | fre (size len : Nat) (cells : List AV)
  | own (id ep off len : Nat)
  | ptr (id ep off : Nat)
  | iptr (cells : List AV) (off : Nat)
  | fn (f : FuncId) (caps : List AV)
  | ifc (t : TypeId) (v : AV)

instance : Inhabited AV := ⟨.any⟩

/-- An object of the call's own: its cells, how often it has been moved, the cells of an element, and (if known) the type of its block. -/
structure AObj where
  cells : List AV
  ep : Nat
  size : Nat
  ty : Option TypeId

/-- Where an object lies: its block and how many cells the block has; none: a nil slice. -/
abbrev Spot := Option (Nat × Nat)

def OwnAt : Spot → Nat → Nat → Nat → Value → Prop
  | none, _, off, len, x => x = .slice none 0 0 ∧ off = 0 ∧ len = 0
  | some (b, k), size, off, len, x => ∃ cap, x = .slice (some ⟨b, off, none⟩) len cap ∧ off + cap * size = k ∧ len ≤ cap ∧ cap ≤ maxLen

def PtrAt : Spot → Nat → Value → Prop
  | none, _, _ => False
  | some (b, _), off, x => x = .pointer (some ⟨b, off, none⟩)

inductive LRel (S : Nat → Prop) (w : World) (ι : Nat → Spot) : List AObj → List AV → List Value → List Nat → Prop
  | nil {O} : LRel S w ι O [] [] []
  | any {O v cs vs g} : LRel S w ι O cs vs g → LRel S w ι O (.any :: cs) (v :: vs) g
  | sc {O v cs vs g} : LRel S w ι O cs vs g → LRel S w ι O (.sc v :: cs) (v :: vs) g
  | agg {O ds us f cs vs g} : LRel S w ι O ds us f → LRel S w ι O cs vs g → LRel S w ι O (.agg ds :: cs) (.agg us.toArray :: vs) (f ++ g)
  | tup {O ds us f cs vs g} : LRel S w ι O ds us f → LRel S w ι O cs vs g → LRel S w ι O (.tup ds :: cs) (.tuple us.toArray :: vs) (f ++ g)
  | nilS {O cs vs g} : LRel S w ι O cs vs g → LRel S w ι O (.nilS :: cs) (.slice none 0 0 :: vs) g
  | imm0 {O size a cap cs vs g} : (a = none → cap = 0) ∧ cap ≤ maxLen → LRel S w ι O cs vs g → LRel S w ι O (.imm size 0 [] :: cs) (.slice a 0 cap :: vs) g
  | imm {O size b o len cap ds us cs vs g} : S b → (∀ i, i < us.length → w.cell? ⟨b, o + i, none⟩ = us[i]?) → LRel S w ι [] ds us [] →
      len * size = ds.length → len ≤ cap → cap ≤ maxLen → LRel S w ι O cs vs g → LRel S w ι O (.imm size len ds :: cs) (.slice (some ⟨b, o, none⟩) len cap :: vs) g
  | fre0 {O size cs vs g} : LRel S w ι O cs vs g → LRel S w ι O (.fre size 0 [] :: cs) (.slice none 0 0 :: vs) g
  | fre {O size b len cap cur t fz ds us f cs vs g} : (w.heap[b]? = some (.cells cur t fz) ∧ ∀ i, i < cur.size → ¬ (fz.1 ≤ i ∧ i < fz.2)) → cur.size = cap * size → us = cur.toList.take ds.length → LRel S w ι [] ds us f →
      len * size = ds.length → len ≤ cap → cap ≤ maxLen → LRel S w ι O cs vs g → LRel S w ι O (.fre size len ds :: cs) (.slice (some ⟨b, 0, none⟩) len cap :: vs) ((b :: f) ++ g)
  | own {O id ep off len ob x cs vs g} : O[id]? = some ob → ep ≤ ob.ep → (ep = ob.ep → OwnAt (ι id) ob.size off len x) → LRel S w ι O cs vs g → LRel S w ι O (.own id ep off len :: cs) (x :: vs) g
  | ptr {O id ep off ob x cs vs g} : O[id]? = some ob → ep ≤ ob.ep → (ep = ob.ep → PtrAt (ι id) off x) → LRel S w ι O cs vs g → LRel S w ι O (.ptr id ep off :: cs) (x :: vs) g
  | iptr {O b o off ds us cs vs g} : S b → (∀ i, i < us.length → w.cell? ⟨b, o + i, none⟩ = us[i]?) → LRel S w ι [] ds us [] → LRel S w ι O cs vs g → LRel S w ι O (.iptr ds off :: cs) (.pointer (some ⟨b, o + off, none⟩) :: vs) g
  | fn {O f ds us cs vs g} : LRel S w ι O ds us [] → LRel S w ι O cs vs g → LRel S w ι O (.fn f ds :: cs) (.func (.func f) #[] us.toArray :: vs) g
  | ifc {O t v x cs vs g} : LRel S w ι O [v] [x] [] → LRel S w ι O cs vs g → LRel S w ι O (.ifc t v :: cs) (.iface t x :: vs) g

/-- One value. -/
abbrev VRel (S : Nat → Prop) (w : World) (ι : Nat → Spot) (O : List AObj) (V : AV) (x : Value) (f : List Nat) : Prop := LRel S w ι O [V] [x] f

section
variable {S : Nat → Prop} {w : World} {ι : Nat → Spot} {O : List AObj}

theorem LRel.uncons {c cs ws h} (hr : LRel S w ι O (c :: cs) ws h) : ∃ v vs f g, ws = v :: vs ∧ VRel S w ι O c v f ∧ LRel S w ι O cs vs g ∧ h = f ++ g := by
  cases hr with
  | any r => exact ⟨_, _, [], _, rfl, .any .nil, r, rfl⟩
  | sc r => exact ⟨_, _, [], _, rfl, .sc .nil, r, rfl⟩
  | agg a r => exact ⟨_, _, _, _, rfl, by simpa using LRel.agg a .nil, r, rfl⟩
  | tup a r => exact ⟨_, _, _, _, rfl, by simpa using LRel.tup a .nil, r, rfl⟩
  | nilS r => exact ⟨_, _, [], _, rfl, .nilS .nil, r, rfl⟩
  | imm0 h0 r => exact ⟨_, _, [], _, rfl, .imm0 h0 .nil, r, rfl⟩
  | imm a b c d e f r => exact ⟨_, _, [], _, rfl, .imm a b c d e f .nil, r, rfl⟩
  | fre0 r => exact ⟨_, _, [], _, rfl, .fre0 .nil, r, rfl⟩
  | fre a b c d e f g r => exact ⟨_, _, _, _, rfl, by simpa using LRel.fre a b c d e f g .nil, r, rfl⟩
  | own a b c r => exact ⟨_, _, [], _, rfl, .own a b c .nil, r, rfl⟩
  | ptr a b c r => exact ⟨_, _, [], _, rfl, .ptr a b c .nil, r, rfl⟩
  | iptr a b c r => exact ⟨_, _, [], _, rfl, .iptr a b c .nil, r, rfl⟩
  | fn a r => exact ⟨_, _, [], _, rfl, .fn a .nil, r, rfl⟩
  | ifc a r => exact ⟨_, _, [], _, rfl, .ifc a .nil, r, rfl⟩

theorem LRel.len {cs vs f} (h : LRel S w ι O cs vs f) : cs.length = vs.length := by
  induction cs generalizing vs f with
  | nil => cases h; rfl
  | cons c cs ih =>
    obtain ⟨v, vs', f1, f2, rfl, hv, hr, rfl⟩ := h.uncons
    simp only [List.length_cons, ih hr]

theorem LRel.cons {c v f cs vs g} (h1 : VRel S w ι O c v f) (r : LRel S w ι O cs vs g) : LRel S w ι O (c :: cs) (v :: vs) (f ++ g) := by
  cases h1 with
  | any _ => rename_i hh; cases hh; exact .any r
  | sc _ => rename_i hh; cases hh; exact .sc r
  | agg a hh => cases hh; simpa using LRel.agg a r
  | tup a hh => cases hh; simpa using LRel.tup a r
  | nilS hh => cases hh; exact .nilS r
  | imm0 h0 hh => cases hh; exact .imm0 h0 r
  | imm a b c d e f hh => cases hh; exact .imm a b c d e f r
  | fre0 hh => cases hh; exact .fre0 r
  | fre a b c d e f g hh => cases hh; simpa using LRel.fre a b c d e f g r
  | own a b c hh => cases hh; exact .own a b c r
  | ptr a b c hh => cases hh; exact .ptr a b c r
  | iptr a b c hh => cases hh; exact .iptr a b c r
  | fn a hh => cases hh; exact .fn a r
  | ifc a hh => cases hh; exact .ifc a r

theorem LRel.append {as us f bs vs g} (h1 : LRel S w ι O as us f) (h2 : LRel S w ι O bs vs g) : LRel S w ι O (as ++ bs) (us ++ vs) (f ++ g) := by
  induction as generalizing us f with
  | nil => cases h1; exact h2
  | cons a as ih =>
    obtain ⟨v, vs', f1, f2, rfl, hv, hr, rfl⟩ := h1.uncons
    have := LRel.cons hv (ih hr)
    simpa using this

theorem LRel.split {as bs ws h} (hr : LRel S w ι O (as ++ bs) ws h) : ∃ us vs f g, ws = us ++ vs ∧ LRel S w ι O as us f ∧ LRel S w ι O bs vs g ∧ h = f ++ g := by
  induction as generalizing ws h with
  | nil => exact ⟨[], ws, [], h, rfl, .nil, hr, rfl⟩
  | cons a as ih =>
    obtain ⟨v, vs', f1, f2, rfl, hv, hr', rfl⟩ := LRel.uncons hr
    obtain ⟨us, vs, f, g, rfl, h1, h2, rfl⟩ := ih hr'
    exact ⟨v :: us, vs, f1 ++ f, g, rfl, LRel.cons hv h1, h2, by simp⟩

theorem LRel.take {cs vs f} (h : LRel S w ι O cs vs f) (n : Nat) : ∃ g, LRel S w ι O (cs.take n) (vs.take n) g ∧ (∀ b ∈ g, b ∈ f) ∧ (f.Nodup → g.Nodup) := by
  rw [← List.take_append_drop n cs] at h
  obtain ⟨us, vs', f1, f2, rfl, h1, h2, rfl⟩ := h.split
  have hl := h1.len
  by_cases hn : n ≤ cs.length
  · have : us.length = n := by rw [← hl]; simp [hn]
    refine ⟨f1, ?_, fun b hb => List.mem_append_left _ hb, fun h => (List.nodup_append.1 h).1⟩
    rw [List.take_left' this]; exact h1
  · have hd : cs.drop n = [] := List.drop_eq_nil_of_le (by omega)
    rw [hd] at h2
    cases h2
    have hu : us.length ≤ n := by rw [← hl]; simp; omega
    refine ⟨f1, ?_, fun b hb => List.mem_append_left _ hb, fun h => (List.nodup_append.1 h).1⟩
    simp [List.take_of_length_le hu]; exact h1

theorem LRel.drop {cs vs f} (h : LRel S w ι O cs vs f) (n : Nat) : ∃ g, LRel S w ι O (cs.drop n) (vs.drop n) g ∧ (∀ b ∈ g, b ∈ f) ∧ (f.Nodup → g.Nodup) := by
  rw [← List.take_append_drop n cs] at h
  obtain ⟨us, vs', f1, f2, rfl, h1, h2, rfl⟩ := h.split
  have hl := h1.len
  by_cases hn : n ≤ cs.length
  · have : us.length = n := by rw [← hl]; simp [hn]
    refine ⟨f2, ?_, fun b hb => List.mem_append_right _ hb, fun h => (List.nodup_append.1 h).2.1⟩
    rw [List.drop_left' this]; exact h2
  · have hd : cs.drop n = [] := List.drop_eq_nil_of_le (by omega)
    rw [hd] at h2 ⊢
    cases h2
    have hu : us.length ≤ n := by rw [← hl]; simp; omega
    refine ⟨[], ?_, by simp, by simp⟩
    simp [List.drop_eq_nil_of_le hu]; exact .nil

/-- One cell out of a list. -/
theorem LRel.get {cs vs f} (h : LRel S w ι O cs vs f) {i : Nat} {V : AV} (hi : cs[i]? = some V) : ∃ x g, vs[i]? = some x ∧ VRel S w ι O V x g ∧ (∀ b ∈ g, b ∈ f) := by
  induction cs generalizing vs f i with
  | nil => simp at hi
  | cons c cs ih =>
    obtain ⟨v, vs', f1, f2, rfl, hv, hr, rfl⟩ := h.uncons
    cases i with
    | zero =>
      simp at hi; subst hi
      exact ⟨v, f1, by simp, hv, fun b hb => List.mem_append_left _ hb⟩
    | succ i =>
      obtain ⟨x, g, hx, hV, hg⟩ := ih hr (by simpa using hi)
      exact ⟨x, g, by simpa using hx, hV, fun b hb => List.mem_append_right _ (hg b hb)⟩

/-- One cell is put in another's place. -/
theorem LRel.set {cs vs f} (h : LRel S w ι O cs vs f) {V : AV} {x : Value} {g : List Nat} (hv : VRel S w ι O V x g) (i : Nat) :
    ∃ e, LRel S w ι O (cs.set i V) (vs.set i x) e ∧ (∀ b ∈ e, b ∈ f ∨ b ∈ g) ∧ (f.Nodup → g.Nodup → (∀ b ∈ g, b ∉ f) → e.Nodup) := by
  induction cs generalizing vs f i with
  | nil => cases h; exact ⟨[], by simpa using .nil, by simp, by simp⟩
  | cons c cs ih =>
    obtain ⟨v, vs', f1, f2, rfl, hv1, hr, rfl⟩ := h.uncons
    cases i with
    | zero =>
      refine ⟨g ++ f2, by simpa using LRel.cons hv hr, ?_, ?_⟩
      · intro b hb
        rcases List.mem_append.1 hb with hb | hb
        · exact .inr hb
        · exact .inl (List.mem_append_right _ hb)
      · intro hf hg hd
        refine List.nodup_append.2 ⟨hg, (List.nodup_append.1 hf).2.1, ?_⟩
        intro a ha b hb he
        subst he
        exact hd a ha (List.mem_append_right _ hb)
    | succ i =>
      obtain ⟨e, he, hm, hnd⟩ := ih hr i
      refine ⟨f1 ++ e, by simpa using LRel.cons hv1 he, ?_, ?_⟩
      · intro b hb
        rcases List.mem_append.1 hb with hb | hb
        · exact .inl (List.mem_append_left _ hb)
        · rcases hm b hb with hb | hb
          · exact .inl (List.mem_append_right _ hb)
          · exact .inr hb
      · intro hf hg hd
        obtain ⟨n1, n2, n3⟩ := List.nodup_append.1 hf
        refine List.nodup_append.2 ⟨n1, hnd n2 hg (fun b hb hb' => hd b hb (List.mem_append_right _ hb')), ?_⟩
        intro a ha b hb he'
        subst he'
        rcases hm a hb with hb | hb
        · exact n3 a ha a hb rfl
        · exact hd a hb (List.mem_append_left _ ha)

end

/-- What must hold from one state to a later one for what is known of values to stay. -/
structure Later (S : Nat → Prop) (w : World) (ι : Nat → Spot) (O : List AObj) (S' : Nat → Prop) (w' : World) (ι' : Nat → Spot) (O' : List AObj) : Prop where
  sub : ∀ b, S b → S' b
  stays : ∀ b, S b → w'.heap[b]? = w.heap[b]?
  obj : ∀ id ob, O[id]? = some ob → ∃ ob', O'[id]? = some ob' ∧ (ob.ep < ob'.ep ∨ (ob'.ep = ob.ep ∧ ob'.size = ob.size ∧ ι' id = ι id))

theorem Later.refl (S w ι O) : Later S w ι O S w ι O := ⟨fun _ h => h, fun _ _ => rfl, fun _ ob h => ⟨ob, h, .inr ⟨rfl, rfl, rfl⟩⟩⟩

theorem Later.none {S w ι S' w' ι'} (O' : List AObj) (h1 : ∀ b, S b → S' b) (h2 : ∀ b, S b → w'.heap[b]? = w.heap[b]?) : Later S w ι [] S' w' ι' O' :=
  ⟨h1, h2, fun id ob h => by simp at h⟩

theorem LRel.mono {S w ι O S' w' ι' O'} (hl : Later S w ι O S' w' ι' O') {cs vs f} (h : LRel S w ι O cs vs f) (hf : ∀ b ∈ f, w'.heap[b]? = w.heap[b]?) : LRel S' w' ι' O' cs vs f := by
  induction h generalizing O' with
  | nil => exact .nil
  | any _ ih => exact .any (ih hl hf)
  | sc _ ih => exact .sc (ih hl hf)
  | agg _ _ ih1 ih2 => exact .agg (ih1 hl fun b hb => hf b (List.mem_append_left _ hb)) (ih2 hl fun b hb => hf b (List.mem_append_right _ hb))
  | tup _ _ ih1 ih2 => exact .tup (ih1 hl fun b hb => hf b (List.mem_append_left _ hb)) (ih2 hl fun b hb => hf b (List.mem_append_right _ hb))
  | nilS _ ih => exact .nilS (ih hl hf)
  | imm0 h0 _ ih => exact .imm0 h0 (ih hl hf)
  | imm hS hc _ h1 h2 h3 _ ih1 ih2 =>
    exact .imm (hl.sub _ hS) (fun i hi => by rw [← hc i hi]; exact World.cell?_of_block (hl.stays _ hS)) (ih1 (Later.none [] hl.sub hl.stays) (by simp)) h1 h2 h3 (ih2 hl hf)
  | fre0 _ ih => exact .fre0 (ih hl hf)
  | fre hb hs hu _ h1 h2 h3 _ ih1 ih2 =>
    exact .fre (by rw [hf _ (by simp)]; exact hb) hs hu (ih1 (Later.none [] hl.sub hl.stays) fun b hb => hf b (by simp [hb])) h1 h2 h3 (ih2 hl fun b hb => hf b (by simp [hb]))
  | own ho he hx _ ih =>
    obtain ⟨ob', h1, h2⟩ := hl.obj _ _ ho
    rcases h2 with h2 | ⟨h2, h3, h4⟩
    · exact .own h1 (by omega) (fun e => by omega) (ih hl hf)
    · exact .own h1 (by omega) (fun e => by rw [h4, h3]; exact hx (by omega)) (ih hl hf)
  | ptr ho he hx _ ih =>
    obtain ⟨ob', h1, h2⟩ := hl.obj _ _ ho
    rcases h2 with h2 | ⟨h2, h3, h4⟩
    · exact .ptr h1 (by omega) (fun e => by omega) (ih hl hf)
    · exact .ptr h1 (by omega) (fun e => by rw [h4]; exact hx (by omega)) (ih hl hf)
  | iptr hS hc _ _ ih1 ih2 =>
    exact .iptr (hl.sub _ hS) (fun i hi => by rw [← hc i hi]; exact World.cell?_of_block (hl.stays _ hS)) (ih1 (Later.none [] hl.sub hl.stays) (by simp)) (ih2 hl hf)
  | fn _ _ ih1 ih2 => exact .fn (ih1 hl (by simp)) (ih2 hl hf)
  | ifc _ _ ih1 ih2 => exact .ifc (ih1 hl (by simp)) (ih2 hl hf)

/-- What holds over no objects holds over any. -/
theorem LRel.lift {S w ι O cs vs f} (h : LRel S w ι [] cs vs f) : LRel S w ι O cs vs f := h.mono (Later.none O (fun _ h => h) (fun _ _ => rfl)) (fun _ _ => rfl)

end Go.Abs

/- States of abstract values, what they say of a frame and a world, and the rules of the control structures over them. No condition. -/
namespace Go.Abs
open Go
set_option linter.unusedVariables false
set_option linter.unusedSimpArgs false

def ObjAt (S : Nat → Prop) (w : World) (ι : Nat → Spot) (O : List AObj) (ob : AObj) (s : Spot) (f : List Nat) : Prop :=
  match s with
  | none => ob.cells = [] ∧ f = []
  | some (b, k) => ∃ cur t fz f', f = b :: f' ∧ w.heap[b]? = some (.cells cur t fz) ∧ cur.size = k ∧ ob.cells.length ≤ k ∧ (∀ i, i < k → ¬ (fz.1 ≤ i ∧ i < fz.2)) ∧
      (∀ e, ob.ty = some e → t = e ∧ fz = (0, 0)) ∧ LRel S w ι O ob.cells (cur.toList.take ob.cells.length) f'

structure ORel (S : Nat → Prop) (w : World) (ι : Nat → Spot) (O : List AObj) (F : Nat → List Nat) : Prop where
  obj : ∀ id ob, O[id]? = some ob → ObjAt S w ι O ob (ι id) (F id)
  nodup : ∀ id, id < O.length → (F id).Nodup
  apart : ∀ i j, i < O.length → j < O.length → i ≠ j → ∀ b, b ∈ F i → b ∉ F j

structure St where
  T : List (Nat × AV)
  O : List AObj

def look : List (Nat × AV) → Nat → AV
  | [], _ => .any
  | (k, V) :: r, t => match Nat.beq k t with | true => V | false => look r t

theorem look_cons_same (T : List (Nat × AV)) (t : Nat) (V : AV) : look ((t, V) :: T) t = V := by simp [look]
theorem look_cons_other (T : List (Nat × AV)) (k t : Nat) (V : AV) (h : k ≠ t) : look ((k, V) :: T) t = look T t := by
  have : Nat.beq k t = false := by
    cases hb : Nat.beq k t with
    | false => rfl
    | true => exact (h (Nat.eq_of_beq_eq_true hb)).elim
  simp [look, this]

/-- The call's beginning: its world, what was stable, the blocks that it was handed, where they lie. -/
structure Ctx where
  w0 : World
  S0 : Nat → Prop
  M0 : Nat → Prop
  ι0 : Nat → Spot

structure Keeps (w0 : World) (M0 : Nat → Prop) (w : World) : Prop where
  os : w.os = w0.os
  tape : w.tape = w0.tape
  output : w.output = w0.output
  size : w0.heap.size ≤ w.heap.size
  block : ∀ b, b < w0.heap.size → ¬ M0 b → w.heap[b]? = w0.heap[b]?

theorem Keeps.refl (w : World) (M0 : Nat → Prop) : Keeps w M0 w := ⟨rfl, rfl, rfl, Nat.le_refl _, fun _ _ _ => rfl⟩

structure RelAt (n m : Nat) (G : Ctx) (S : Nat → Prop) (ι : Nat → Spot) (F : Nat → List Nat) (σ : St) (a : Act) (w : World) : Prop where
  defers : a.defers = []
  size : a.tmps.size = n
  tmps : ∀ t, VRel S w ι σ.O (look σ.T t) (a.tmps.getD t undef) []
  objs : ORel S w ι σ.O F
  foot : ∀ id, id < σ.O.length → ∀ b, b ∈ F id → (G.M0 b ∨ G.w0.heap.size ≤ b) ∧ ¬ S b ∧ b < w.heap.size
  base : (∀ b, G.S0 b → S b) ∧ (∀ b, S b → G.S0 b ∨ G.w0.heap.size ≤ b)
  stable : ∀ b, S b → b < w.heap.size
  keeps : Keeps G.w0 G.M0 w
  spots : ∀ id, id < m → ι id = G.ι0 id
  mle : m ≤ σ.O.length

def Rel (n m : Nat) (G : Ctx) (σ : St) (a : Act) (w : World) : Prop := ∃ S ι F, RelAt n m G S ι F σ a w

def WpA (P : Program) (n m : Nat) (G : Ctx) (c : Code) (σ : St) (Q : Exit → St → Prop) : Prop :=
  ∀ a w, Rel n m G σ a w → c.wp P (fun e a' w' => ∃ σ', Q e σ' ∧ Rel n m G σ' a' w') a w

def Weak (m : Nat) (σ σ' : St) : Prop := ∀ n G a w, Rel n m G σ a w → Rel n m G σ' a w

def Seq (Y : St → Prop) (Q : Exit → St → Prop) : Exit → St → Prop
  | .normal, σ => Y σ
  | e, σ => Q e σ

theorem Seq.n {Y : St → Prop} {Q : Exit → St → Prop} {σ : St} (h : Y σ) : Seq Y Q .normal σ := h
theorem Seq.ret {Y : St → Prop} {Q : Exit → St → Prop} {σ : St} (h : Q .ret σ) : Seq Y Q .ret σ := h
theorem Seq.exit {Y : St → Prop} {Q : Exit → St → Prop} {σ : St} {id : Nat} (h : Q (.exit id) σ) : Seq Y Q (.exit id) σ := h

def Blk (id : Nat) (Q : Exit → St → Prop) : Exit → St → Prop
  | .exit id', σ => (id' = id ∧ Q .normal σ) ∨ (id' ≠ id ∧ Q (.exit id') σ)
  | e, σ => Q e σ

theorem Blk.n {id : Nat} {Q : Exit → St → Prop} {σ : St} (h : Q .normal σ) : Blk id Q .normal σ := h
theorem Blk.ret {id : Nat} {Q : Exit → St → Prop} {σ : St} (h : Q .ret σ) : Blk id Q .ret σ := h
theorem Blk.exitHere {id : Nat} {Q : Exit → St → Prop} {σ : St} (h : Q .normal σ) : Blk id Q (.exit id) σ := .inl ⟨rfl, h⟩
theorem Blk.exitOther {id id' : Nat} {Q : Exit → St → Prop} {σ : St} (hn : Nat.beq id' id = false) (h : Q (.exit id') σ) : Blk id Q (.exit id') σ :=
  .inr ⟨(fun e => by subst e; rw [Nat.beq_refl] at hn; cases hn), h⟩

section
variable {P : Program} {n m : Nat} {G : Ctx} {σ : St} {Q : Exit → St → Prop}

theorem WpA.mono {c : Code} {Q' : Exit → St → Prop} (h : WpA P n m G c σ Q) (hq : ∀ e σ, Q e σ → Q' e σ) : WpA P n m G c σ Q' :=
  fun a w hr => wp_mono (h a w hr) fun e a' w' ⟨σ', hQ, hR⟩ => ⟨σ', hq _ _ hQ, hR⟩

theorem WpA.weak {c : Code} {σ' : St} (hw : Weak m σ σ') (h : WpA P n m G c σ' Q) : WpA P n m G c σ Q :=
  fun a w hr => h a w (hw n G a w hr)

theorem WpA.skip (h : Q .normal σ) : WpA P n m G .skip σ Q := fun a w hr => wp_skip ⟨σ, h, hr⟩
theorem WpA.ret (h : Q .ret σ) : WpA P n m G .ret σ Q := fun a w hr => wp_ret ⟨σ, h, hr⟩
theorem WpA.exit {id : Nat} (h : Q (.exit id) σ) : WpA P n m G (.exit id) σ Q := fun a w hr => wp_exit ⟨σ, h, hr⟩

theorem WpA.seq {x y : Code} (h : WpA P n m G x σ (Seq (fun σ => WpA P n m G y σ Q) Q)) : WpA P n m G (.seq x y) σ Q := fun a w hr =>
  wp_seq (wp_mono (h a w hr) fun e a' w' ⟨σ', hQ, hR⟩ => by
    cases e with
    | normal => exact hQ a' w' hR
    | _ => exact ⟨σ', hQ, hR⟩)

theorem WpA.block {id : Nat} {c : Code} (h : WpA P n m G c σ (Blk id Q)) : WpA P n m G (.block id c) σ Q := fun a w hr =>
  wp_block (wp_mono (h a w hr) fun e a' w' ⟨σ', hQ, hR⟩ => by
    cases e with
    | exit id' =>
      rcases hQ with ⟨h1, h2⟩ | ⟨h1, h2⟩
      · simp only [Exit.inBlock, h1, if_true]; exact ⟨σ', h2, hR⟩
      · simp only [Exit.inBlock, h1, if_false]; exact ⟨σ', h2, hR⟩
    | _ => exact ⟨σ', hQ, hR⟩)

theorem VRel.sc_eq {S w ι O v x f} (h : VRel S w ι O (.sc v) x f) : x = v := by cases h; rfl

def zav : Value → AV
  | .slice none 0 0 => .nilS
  | v => .sc v

theorem vrel_zav {S w ι O} (v : Value) : VRel S w ι O (zav v) v [] := by
  unfold zav
  split
  · exact .nilS .nil
  · exact .sc .nil

def av (T : List (Nat × AV)) : Operand → AV
  | .tmp t => look T t
  | .const v => zav v
  | .func f => .fn f []
  | .global _ => .any

theorem RelAt.eval {S ι F a w} (h : RelAt n m G S ι F σ a w) (x : Operand) : VRel S w ι σ.O (av σ.T x) (a.eval x) [] := by
  cases x with
  | tmp t => exact h.tmps t
  | const v => exact vrel_zav v
  | func f => exact .fn (us := []) .nil .nil
  | global g => exact .any .nil

theorem Rel.eval_sc {a w} (h : Rel n m G σ a w) {x : Operand} {v : Value} (hx : av σ.T x = .sc v) : a.eval x = v := by
  obtain ⟨S, ι, F, h⟩ := h
  have := h.eval x
  rw [hx] at this
  exact this.sc_eq

theorem WpA.condT {x : Operand} {A B : Code} (hx : av σ.T x = .sc (.bool true)) (h : WpA P n m G A σ Q) : WpA P n m G (.cond x A B) σ Q :=
  fun a w hr => wp_cond_true (hr.eval_sc hx) (h a w hr)
theorem WpA.condF {x : Operand} {A B : Code} (hx : av σ.T x = .sc (.bool false)) (h : WpA P n m G B σ Q) : WpA P n m G (.cond x A B) σ Q :=
  fun a w hr => wp_cond_false (hr.eval_sc hx) (h a w hr)
theorem WpA.condS {x : Operand} {A B : Code} {b : Bool} (hx : av σ.T x = .sc (.bool b)) (h1 : b = true → WpA P n m G A σ Q) (h2 : b = false → WpA P n m G B σ Q) :
    WpA P n m G (.cond x A B) σ Q :=
  fun a w hr => wp_cond_split (hr.eval_sc hx) (fun e => h1 e a w hr) (fun e => h2 e a w hr)
theorem WpA.condD {x : Operand} {A B : Code} {p : Prop} [Decidable p] (hx : av σ.T x = .sc (.bool (decide p))) (h1 : p → WpA P n m G A σ Q) (h2 : ¬ p → WpA P n m G B σ Q) :
    WpA P n m G (.cond x A B) σ Q :=
  WpA.condS hx (fun e => h1 (of_decide_eq_true e)) (fun e => h2 (of_decide_eq_false e))
theorem WpA.condN {x : Operand} {A B : Code} {p : Prop} [Decidable p] (hx : av σ.T x = .sc (.bool (!decide p))) (h1 : ¬ p → WpA P n m G A σ Q) (h2 : p → WpA P n m G B σ Q) :
    WpA P n m G (.cond x A B) σ Q :=
  WpA.condS hx (fun e => h1 (by simpa using e)) (fun e => h2 (by simpa using e))

theorem wp_loop_ghost {P : Program} {c : Code} {Q : Exit → Act → World → Prop} {β : Type} (I : β → Act → World → Prop) (μ : β → Nat)
    (round : ∀ x a w, I x a w → c.wp P (Exit.then (fun a' w' => ∃ y, μ y < μ x ∧ I y a' w') Q) a w) : ∀ x a w, I x a w → (Code.loop c).wp P Q a w := by
  have key : ∀ k x a w, μ x = k → I x a w → ∀ (b : Frame) (kk : List Item) (cs : List Frame),
      ∃ e a' w', Q e a' w' ∧ Arrives P (lone (b.at a (.code c :: .inLoop c :: kk)) cs w) b kk cs e a' w' := by
    intro k
    induction k using Nat.strongRecOn with
    | _ k ih =>
      intro x a w hk hI b kk cs
      obtain ⟨e, a₁, w₁, hq, harr⟩ := round x a w hI b (.inLoop c :: kk) cs
      cases e with
      | normal =>
        obtain ⟨y, hlt, hI₁⟩ := hq
        obtain ⟨e₂, a₂, w₂, hq₂, harr₂⟩ := ih (μ y) (hk ▸ hlt) y a₁ w₁ rfl hI₁ b kk cs
        exact ⟨e₂, a₂, w₂, hq₂, .of_steps (Steps.trans harr (.one step_inLoop)) harr₂⟩
      | exit id => exact ⟨_, a₁, w₁, hq, .pass (x := .inLoop c) rfl (fun _ _ => .inl (by simp)) harr⟩
      | goto l => exact ⟨_, a₁, w₁, hq, .pass (x := .inLoop c) rfl (fun _ _ => .inl (by simp)) harr⟩
      | ret => exact ⟨_, a₁, w₁, hq, .pass (x := .inLoop c) rfl (fun _ _ => .inl (by simp)) harr⟩
      | panic ch => exact ⟨_, a₁, w₁, hq, .pass (x := .inLoop c) rfl (fun _ _ => .inl (by simp)) harr⟩
      | outgrown => exact ⟨_, a₁, w₁, hq, .pass (x := .inLoop c) rfl (fun _ _ => .inl (by simp)) harr⟩
  intro x a w hI b kk cs
  obtain ⟨e, a', w', hq, harr⟩ := key (μ x) x a w rfl hI b kk cs
  exact ⟨e, a', w', hq, .of_steps (.one step_loop) harr⟩

/-- What a round of a loop must come to. -/
def Rnd {β : Type} (m : Nat) (Inv : β → St) (C : β → Prop) (μ : β → Nat) (x : β) (Q : Exit → St → Prop) : Exit → St → Prop
  | .normal, σ => ∃ y, C y ∧ μ y < μ x ∧ Weak m σ (Inv y)
  | e, σ => Q e σ

theorem Rnd.go {β : Type} {m : Nat} {Inv : β → St} {C : β → Prop} {μ : β → Nat} {x : β} {Q : Exit → St → Prop} {σ : St} (y : β) (h1 : C y) (h2 : μ y < μ x) (h3 : Weak m σ (Inv y)) :
    Rnd m Inv C μ x Q .normal σ := ⟨y, h1, h2, h3⟩
theorem Rnd.ret {β : Type} {m : Nat} {Inv : β → St} {C : β → Prop} {μ : β → Nat} {x : β} {Q : Exit → St → Prop} {σ : St} (h : Q .ret σ) : Rnd m Inv C μ x Q .ret σ := h
theorem Rnd.exit {β : Type} {m : Nat} {Inv : β → St} {C : β → Prop} {μ : β → Nat} {x : β} {Q : Exit → St → Prop} {σ : St} {id : Nat} (h : Q (.exit id) σ) : Rnd m Inv C μ x Q (.exit id) σ := h

theorem WpA.loop {c : Code} {β : Type} (Inv : β → St) (C : β → Prop) (μ : β → Nat) (x0 : β) (hc : C x0) (h0 : Weak m σ (Inv x0))
    (round : ∀ x, C x → WpA P n m G c (Inv x) (Rnd m Inv C μ x Q)) : WpA P n m G (.loop c) σ Q := fun a w hr => by
  refine wp_loop_ghost (fun x a w => C x ∧ Rel n m G (Inv x) a w) μ ?_ x0 a w ⟨hc, h0 n G a w hr⟩
  rintro x a w ⟨hx, hR⟩
  refine wp_mono (round x hx a w hR) fun e a' w' ⟨σ', hQ, hR'⟩ => ?_
  cases e with
  | normal =>
    obtain ⟨y, h1, h2, h3⟩ := hQ
    exact ⟨y, h2, h1, h3 n G a' w' hR'⟩
  | _ => exact ⟨σ', hQ, hR'⟩

/-- A draw turns nothing. -/
theorem Rel.drew {a w} (h : Rel n m G σ a w) : Rel n m G σ a w.drew := by
  obtain ⟨S, ι, F, hr⟩ := h
  have hlat : Later S w ι σ.O S w.drew ι σ.O := ⟨fun _ h => h, fun _ _ => rfl, fun _ ob h => ⟨ob, h, .inr ⟨rfl, rfl, rfl⟩⟩⟩
  refine ⟨S, ι, F, hr.defers, hr.size, fun t => (hr.tmps t).mono hlat (fun _ _ => rfl), ⟨fun id ob h => ?_, hr.objs.nodup, hr.objs.apart⟩, hr.foot, hr.base, hr.stable, ⟨hr.keeps.os, hr.keeps.tape, hr.keeps.output, hr.keeps.size, hr.keeps.block⟩, hr.spots, hr.mle⟩
  have ho := hr.objs.obj id ob h
  unfold ObjAt at ho ⊢
  cases hs : ι id with
  | none => rw [hs] at ho; exact ho
  | some p =>
    obtain ⟨b, k⟩ := p
    rw [hs] at ho
    obtain ⟨cur', t', fz', f2, h1, h2, h3, h4, h5, h6, h7⟩ := ho
    exact ⟨cur', t', fz', f2, h1, h2, h3, h4, h5, h6, h7.mono hlat (fun _ _ => rfl)⟩

/-! ### Lists of operations -/

/-- 'md': false: one order, the world may turn; true: a region that draws its order and whose operations leave the world alone. -/
def WpL (P : Program) (n m : Nat) (G : Ctx) (md : Bool) (ops : Array Oper) (l : List Oper) (σ : St) (Q : Exit → St → Prop) : Prop :=
  ∀ a w, Rel n m G σ a w → match md with
    | false => wpList P ops (fun e a' w' => ∃ σ', Q e σ' ∧ Rel n m G σ' a' w') l a w
    | true => wpStill P ops w (fun a' => ∃ σ', Q .normal σ' ∧ Rel n m G σ' a' w) l a

variable {md : Bool}

theorem WpA.region {id : Nat} {l : List Oper} (h : WpL P n m G false l.toArray l σ Q) : WpA P n m G (.region id l.toArray false) σ Q :=
  fun a w hr => wp_region_lit (h a w hr)

theorem WpA.regionD {id : Nat} {l : List Oper} (hm : P.follows .mixedOrders = true) (hB : Region.lexB .any l.toArray = true) (h : WpL P n m G true l.toArray l σ Q) : WpA P n m G (.region id l.toArray true) σ Q :=
  fun a w hr => wp_region_still_lit hm hB (h a w.drew hr.drew)

theorem wpStill_mono {P : Program} {ops : Array Oper} {w : World} {Q Q' : Act → Prop} (hq : ∀ a, Q a → Q' a) : ∀ {l : List Oper} {a : Act}, wpStill P ops w Q l a → wpStill P ops w Q' l a
  | [], _, h => hq _ h
  | o :: l, a, h => by
    unfold wpStill at h ⊢
    split
    · rename_i hw; rw [if_pos hw] at h; exact Oper.still_mono (fun a h => wpStill_mono hq h) h
    · rename_i hw; rw [if_neg hw] at h; exact wpStill_mono hq h

/-- A region that draws its order, whose operations from the n-th on stand behind all others and one behind the other. -/
theorem WpA.regionT {id : Nat} {l : List Oper} (k : Nat) (hm : P.follows .mixedOrders = true) (hB : Region.lexTailB .any l.toArray k = true)
    (h : WpL P n m G true l.toArray (l.take k) σ (Seq (fun σ' => WpL P n m G false l.toArray (l.drop k) σ' Q) Q)) : WpA P n m G (.region id l.toArray true) σ Q :=
  fun a w hr => wp_region_still_tail k hm hB (wpStill_mono (fun a' ⟨σ', hq, hr'⟩ => hq a' _ hr') (h a w.drew hr.drew))

theorem WpL.nil {ops : Array Oper} (h : Q .normal σ) : WpL P n m G md ops [] σ Q := fun a w hr => by
  cases md with
  | false => exact wpList_nil ⟨σ, h, hr⟩
  | true => exact wpStill_nil ⟨σ, h, hr⟩

theorem WpL.weak {ops : Array Oper} {l : List Oper} {σ' : St} (hw : Weak m σ σ') (h : WpL P n m G md ops l σ' Q) : WpL P n m G md ops l σ Q :=
  fun a w hr => h a w (hw n G a w hr)

/-- An operation: whatever the frame and the world, it is carried out and leaves what the next state says. -/
theorem WpL.op {ops : Array Oper} {o : Oper} {l : List Oper} {σ' : St} (hg : o.guard = none)
    (hop : ∀ a w, Rel n m G σ a w → o.wp P a w (fun a' w' => Rel n m G σ' a' w') (fun _ _ _ => False)) (h : WpL P n m G false ops l σ' Q) : WpL P n m G false ops (o :: l) σ Q := fun a w hr =>
  wpList_plain hg fun K hK => by
    have h1 := hop a w hr
    have hm : ∀ r, o.upon P a (fun a' w' => Rel n m G σ' a' w') (fun _ _ _ => False) r → o.upon P a K (fun e a' w' => ∃ σ', Q e σ' ∧ Rel n m G σ' a' w') r := by
      intro r hr'
      cases r with
      | ok x w1 =>
        cases x <;> simp only [Oper.upon] at hr' ⊢
        case value v => exact hK _ _ (h _ _ hr')
        case skip => exact hK _ _ (h _ _ hr')
        case defer d => exact hK _ _ (h _ _ hr')
        case enter f args =>
          refine hr'.mono fun e w2 h2 => ?_
          cases e with
          | returned v => exact hK _ _ (h _ _ h2)
          | panicked c => exact h2.elim
          | outgrown => obtain ⟨_, _, hf⟩ := h2; exact hf.elim
        case row r ar => exact hr'.mono fun v w2 h2 => hK _ _ (h _ _ h2)
      | halt x w1 => cases x <;> exact hr'.elim
    exact hm _ h1

/-- The plain way: a value, in a world that may have turned. -/
theorem WpL.value {ops : Array Oper} {o : Oper} {l : List Oper} {σ' : St} (hg : o.guard = none)
    (hop : ∀ a w, Rel n m G σ a w → ∃ v w', (execOp a.eval o).run P w = .ok (.value v) w' ∧ Rel n m G σ' (a.put o.dst v) w') (h : WpL P n m G false ops l σ' Q) :
    WpL P n m G false ops (o :: l) σ Q :=
  WpL.op hg (fun a w hr => by obtain ⟨v, w', h1, h2⟩ := hop a w hr; unfold Oper.wp; rw [h1]; exact h2) h

/-- A guarded operation whose guard holds; one whose guard does not hold. -/
theorem WpL.guardT {ops : Array Oper} {o : Oper} {l : List Oper} {j t : Nat} {want : Bool} (hg : o.guard = some (j, want)) (hj : ((ops[j]?).bind (·.dst)) = some t) (htn : t < n)
    (ht : look σ.T t = .sc (.bool want)) (h : WpL P n m G md ops ({ o with guard := none } :: l) σ Q) : WpL P n m G md ops (o :: l) σ Q := fun a w hr => by
  have hv : a.tmps.getD t undef = .bool want := hr.eval_sc (x := .tmp t) ht
  have hsz : a.tmps.size = n := by obtain ⟨_, _, _, h⟩ := hr; exact h.size
  have h1 := h a w hr
  have hv' : a.tmps[t]? = some (.bool want) := by
    rw [Array.getD_eq_getD_getElem?] at hv
    rw [Array.getElem?_eq_getElem (by omega)] at hv ⊢
    simpa using hv
  have hw : Region.wanted o (yielded ops a.tmps) = true := by
    simp [Region.wanted, hg, yielded, hj, hv']
  cases md with
  | false =>
    simp only at h1 ⊢
    unfold wpList at h1 ⊢
    rw [if_pos hw]
    rw [if_pos (by simp [Region.wanted])] at h1
    exact h1
  | true =>
    simp only at h1 ⊢
    unfold wpStill at h1 ⊢
    rw [if_pos hw]
    rw [if_pos (by simp [Region.wanted])] at h1
    exact h1

theorem WpL.guardF {ops : Array Oper} {o : Oper} {l : List Oper} {j t d : Nat} {want : Bool} (hg : o.guard = some (j, want)) (hj : ((ops[j]?).bind (·.dst)) = some t) (htn : t < n)
    (ht : look σ.T t = .sc (.bool !want)) (hd : o.dst = some d) (h : WpL P n m G md ops l ⟨(d, .any) :: σ.T, σ.O⟩ Q) : WpL P n m G md ops (o :: l) σ Q := fun a w hr => by
  have hv : a.tmps.getD t undef = .bool !want := hr.eval_sc (x := .tmp t) ht
  have hsz : a.tmps.size = n := by obtain ⟨_, _, _, h⟩ := hr; exact h.size
  have hv' : a.tmps[t]? = some (.bool !want) := by
    rw [Array.getD_eq_getD_getElem?] at hv
    rw [Array.getElem?_eq_getElem (by omega)] at hv ⊢
    simpa using hv
  have hw : Region.wanted o (yielded ops a.tmps) = false := by
    simp [Region.wanted, hg, yielded, hj, hv']
  have hrel : Rel n m G ⟨(d, .any) :: σ.T, σ.O⟩ (a.put o.dst undef) w := ?_
  · cases md with
    | false =>
      simp only
      unfold wpList
      rw [if_neg (by simp [hw])]
      exact h _ _ hrel
    | true =>
      simp only
      unfold wpStill
      rw [if_neg (by simp [hw])]
      exact h _ _ hrel
  obtain ⟨S, ι, F, hr⟩ := hr
  refine ⟨S, ι, F, by simpa [Act.put, hd] using hr.defers, by simp [Act.put, hd, hr.size], fun t' => ?_, hr.objs, hr.foot, hr.base, hr.stable, hr.keeps, hr.spots, hr.mle⟩
  by_cases he : d = t'
  · subst he; rw [look_cons_same]; exact .any .nil
  · rw [look_cons_other _ _ _ _ he]
    have := hr.tmps t'
    simpa [Act.put, hd, Array.getD_eq_getD_getElem?, Array.getElem?_setIfInBounds, he] using this

/-- A boolean that is not known: both ways. -/
theorem WpL.splitB {ops : Array Oper} {l : List Oper} {t : Nat} {b : Bool} (ht : look σ.T t = .sc (.bool b))
    (h1 : b = true → WpL P n m G md ops l ⟨(t, .sc (.bool true)) :: σ.T, σ.O⟩ Q) (h2 : b = false → WpL P n m G md ops l ⟨(t, .sc (.bool false)) :: σ.T, σ.O⟩ Q) : WpL P n m G md ops l σ Q := by
  have key : ∀ c, b = c → Weak m σ ⟨(t, .sc (.bool c)) :: σ.T, σ.O⟩ := by
    rintro c rfl n' G' a w ⟨S, ι, F, hr⟩
    refine ⟨S, ι, F, hr.defers, hr.size, fun t' => ?_, hr.objs, hr.foot, hr.base, hr.stable, hr.keeps, hr.spots, hr.mle⟩
    by_cases he : t = t'
    · subst he; rw [look_cons_same, ← ht]; exact hr.tmps t
    · rw [look_cons_other _ _ _ _ he]; exact hr.tmps t'
  cases hb : b with
  | true => exact WpL.weak (key true hb) (h1 hb)
  | false => exact WpL.weak (key false hb) (h2 hb)
theorem WpL.guardS {ops : Array Oper} {o : Oper} {l : List Oper} {j t : Nat} {want b : Bool} (hg : o.guard = some (j, want)) (hj : ((ops[j]?).bind (·.dst)) = some t) (ht : look σ.T t = .sc (.bool b))
    (h1 : b = true → WpL P n m G md ops (o :: l) ⟨(t, .sc (.bool true)) :: σ.T, σ.O⟩ Q) (h2 : b = false → WpL P n m G md ops (o :: l) ⟨(t, .sc (.bool false)) :: σ.T, σ.O⟩ Q) : WpL P n m G md ops (o :: l) σ Q :=
  WpL.splitB ht h1 h2
theorem WpL.guardD {ops : Array Oper} {o : Oper} {l : List Oper} {j t : Nat} {want : Bool} {p : Prop} [Decidable p] (hg : o.guard = some (j, want)) (hj : ((ops[j]?).bind (·.dst)) = some t) (ht : look σ.T t = .sc (.bool (decide p)))
    (h1 : p → WpL P n m G md ops (o :: l) ⟨(t, .sc (.bool true)) :: σ.T, σ.O⟩ Q) (h2 : ¬ p → WpL P n m G md ops (o :: l) ⟨(t, .sc (.bool false)) :: σ.T, σ.O⟩ Q) : WpL P n m G md ops (o :: l) σ Q :=
  WpL.splitB ht (fun e => h1 (of_decide_eq_true e)) (fun e => h2 (of_decide_eq_false e))
theorem WpL.guardN {ops : Array Oper} {o : Oper} {l : List Oper} {j t : Nat} {want : Bool} {p : Prop} [Decidable p] (hg : o.guard = some (j, want)) (hj : ((ops[j]?).bind (·.dst)) = some t) (ht : look σ.T t = .sc (.bool (!decide p)))
    (h1 : ¬ p → WpL P n m G md ops (o :: l) ⟨(t, .sc (.bool true)) :: σ.T, σ.O⟩ Q) (h2 : p → WpL P n m G md ops (o :: l) ⟨(t, .sc (.bool false)) :: σ.T, σ.O⟩ Q) : WpL P n m G md ops (o :: l) σ Q :=
  WpL.splitB ht (fun e => h1 (by simpa using e)) (fun e => h2 (by simpa using e))
end

/-- A value is put into a slot, the world as it was. -/
theorem RelAt.put {n m G S ι F σ a w} (hr : RelAt n m G S ι F σ a w) {d : Nat} {V : AV} {v : Value} (hd : d < n) (hv : VRel S w ι σ.O V v []) :
    RelAt n m G S ι F ⟨(d, V) :: σ.T, σ.O⟩ (a.put (some d) v) w := by
  refine ⟨hr.defers, by simp [Act.put, hr.size], fun t' => ?_, hr.objs, hr.foot, hr.base, hr.stable, hr.keeps, hr.spots, hr.mle⟩
  by_cases he : d = t'
  · subst he; rw [look_cons_same]
    have : (a.put (some d) v).tmps.getD d undef = v := by
      have hs := hr.size
      have hlt : d < a.tmps.size := by omega
      simp [Act.put, Array.getD_eq_getD_getElem?, Array.getElem?_setIfInBounds, hlt]
    rw [this]; exact hv
  · rw [look_cons_other _ _ _ _ he]
    have := hr.tmps t'
    simpa [Act.put, Array.getD_eq_getD_getElem?, Array.getElem?_setIfInBounds, he] using this

theorem RelAt.put_none {n m G S ι F σ a w} (hr : RelAt n m G S ι F σ a w) (v : Value) : RelAt n m G S ι F σ (a.put none v) w := hr
end Go.Abs

/- The rules of the operations that leave the world alone. No condition. -/
namespace Go.Abs
open Go
set_option linter.unusedVariables false
set_option linter.unusedSimpArgs false

def AV.force : AV → Option AV
  | .any => some .any
  | .sc v => some (.sc v)
  | .agg cs => some (.agg cs)
  | .tup cs => some (.tup cs)
  | .nilS => some .nilS
  | .imm s l cs => some (.imm s l cs)
  | .fre s l cs => some (.fre s l cs)
  | .own i e o l => some (.own i e o l)
  | .ptr i e o => some (.ptr i e o)
  | .iptr cs o => some (.iptr cs o)
  | .fn f cs => some (.fn f cs)
  | .ifc t v => some (.ifc t v)

theorem AV.force_eq {V V' : AV} (h : V.force = some V') : V = V' := by cases V <;> exact Option.some.inj h

def aBin (op : BinOp) : Value → Value → Option Value
  | .int k a, .int k' b => match decide (k = k') with
    | false => none
    | true => match op with
      | .add => some (.int k (k.wrap (a + b)))
      | .sub => some (.int k (k.wrap (a - b)))
      | .mul => some (.int k (k.wrap (a * b)))
      | .and => some (.int k (k.wrap (BitVec.ofInt k.bits a &&& BitVec.ofInt k.bits b).toNat))
      | .or => some (.int k (k.wrap (BitVec.ofInt k.bits a ||| BitVec.ofInt k.bits b).toNat))
      | .xor => some (.int k (k.wrap (BitVec.ofInt k.bits a ^^^ BitVec.ofInt k.bits b).toNat))
      | .andNot => some (.int k (k.wrap (BitVec.ofInt k.bits a &&& ~~~ BitVec.ofInt k.bits b).toNat))
      | .eql => some (.bool (decide (a = b)))
      | .neq => some (.bool (!decide (a = b)))
      | .lss => some (.bool (decide (a < b)))
      | .leq => some (.bool (decide (a ≤ b)))
      | .gtr => some (.bool (decide (a > b)))
      | .geq => some (.bool (decide (a ≥ b)))
      | _ => none
  | .bool a, .bool b => none
  | _, _ => none

theorem run_aBin (P : Program) {op : BinOp} {x y v : Value} (h : aBin op x y = some v) (t : TypeId) (ox oy : Operand) (w : World) :
    (do eqGuard op t ox oy x y; binOp op t x y : Sem Value).run P w = .ok v w := by
  unfold aBin at h
  split at h
  · rename_i k a k' b
    split at h
    · simp at h
    · rename_i hk
      have hk := of_decide_eq_true hk
      subst hk
      cases op <;> simp at h <;> subst h <;> simp [eqGuard, binOp, Op.intArith, Op.intBits, Op.intCmp, Sem.run_bind]
      all_goals first | rfl | (rw [Bool.eq_iff_iff]; simp)
  · simp at h
  · simp at h

theorem eqGuard_str (op : BinOp) (t : TypeId) (ox oy : Operand) (x y : ByteArray) : eqGuard op t ox oy (.string x) (.string y) = pure () := by
  cases op <;> rfl
theorem eqGuard_bool (op : BinOp) (t : TypeId) (ox oy : Operand) (x y : Bool) : eqGuard op t ox oy (.bool x) (.bool y) = pure () := by
  cases op <;> rfl
theorem eqGuard_int (op : BinOp) (t : TypeId) (ox oy : Operand) (k k' : IntKind) (x y : Int) : eqGuard op t ox oy (.int k x) (.int k' y) = pure () := by
  cases op <;> rfl
theorem eqGuard_slice (op : BinOp) (t : TypeId) (ox oy : Operand) (a b : Option Addr) (l c l' c' : Nat) : eqGuard op t ox oy (.slice a l c) (.slice b l' c') = pure () := by
  cases op <;> rfl

section
variable {P : Program} {n m : Nat} {G : Ctx} {md : Bool} {T : List (Nat × AV)} {O : List AObj} {Q : Exit → St → Prop} {ops : Array Oper} {l : List Oper} {d : Nat} {tt : TypeId} {pos : String} {after : Array Edge}

theorem WpL.pure {o : Oper} {V : AV} (hg : o.guard = none) (hd : o.dst = some d) (hn : d < n)
    (hop : ∀ S ι F a w, RelAt n m G S ι F ⟨T, O⟩ a w → ∃ v, (execOp a.eval o).run P w = .ok (.value v) w ∧ VRel S w ι O V v [])
    (h : WpL P n m G md ops l ⟨(d, V) :: T, O⟩ Q) : WpL P n m G md ops (o :: l) ⟨T, O⟩ Q :=
  match md, h with
  | false, h => WpL.value hg (fun a w hr => by
    obtain ⟨S, ι, F, hr⟩ := hr
    obtain ⟨v, h1, h2⟩ := hop S ι F a w hr
    refine ⟨v, w, h1, S, ι, F, ?_⟩
    rw [hd]
    exact hr.put hn h2) h
  | true, h => fun a w hr => by
    obtain ⟨S, ι, F, hr⟩ := hr
    obtain ⟨v, h1, h2⟩ := hop S ι F a w hr
    have h3 := h _ w ⟨S, ι, F, hr.put hn h2⟩
    simp only at h3 ⊢
    unfold wpStill
    rw [if_pos (by simp [Region.wanted, hg])]
    unfold Oper.still
    rw [h1, Oper.stillUpon_value, hd]
    exact h3

theorem WpL.move {x : Operand} {V : AV} (hx : (av T x).force = some V) (hn : d < n) (h : WpL P n m G md ops l ⟨(d, V) :: T, O⟩ Q) :
    WpL P n m G md ops ({ dst := some d, op := .move x, type := tt, pos := pos, after := after, guard := none } :: l) ⟨T, O⟩ Q :=
  WpL.pure rfl rfl hn (fun S ι F a w hr => ⟨a.eval x, by simp [execOp], by rw [← AV.force_eq hx]; exact hr.eval x⟩) h

theorem WpL.assign {x : Operand} {V : AV} (hx : (av T x).force = some V) (hn : d < n) (h : WpL P n m G md ops l ⟨(d, V) :: T, O⟩ Q) :
    WpL P n m G md ops ({ dst := some d, op := .assign x, type := tt, pos := pos, after := after, guard := none } :: l) ⟨T, O⟩ Q :=
  WpL.pure rfl rfl hn (fun S ι F a w hr => ⟨a.eval x, by simp [execOp], by rw [← AV.force_eq hx]; exact hr.eval x⟩) h

theorem RelAt.sc {S ι F a w} (hr : RelAt n m G S ι F ⟨T, O⟩ a w) {x : Operand} {v : Value} (hx : av T x = .sc v) : a.eval x = v := by
  have := hr.eval x
  rw [show av (St.mk T O).T x = .sc v from hx] at this
  exact this.sc_eq

theorem WpL.pickT {c x y : Operand} {V : AV} (hc : av T c = .sc (.bool true)) (hx : (av T x).force = some V) (hn : d < n) (h : WpL P n m G md ops l ⟨(d, V) :: T, O⟩ Q) :
    WpL P n m G md ops ({ dst := some d, op := .pick c x y, type := tt, pos := pos, after := after, guard := none } :: l) ⟨T, O⟩ Q :=
  WpL.pure rfl rfl hn (fun S ι F a w hr => ⟨a.eval x, by simp [execOp, hr.sc hc, asBool], by rw [← AV.force_eq hx]; exact hr.eval x⟩) h
theorem WpL.pickF {c x y : Operand} {V : AV} (hc : av T c = .sc (.bool false)) (hy : (av T y).force = some V) (hn : d < n) (h : WpL P n m G md ops l ⟨(d, V) :: T, O⟩ Q) :
    WpL P n m G md ops ({ dst := some d, op := .pick c x y, type := tt, pos := pos, after := after, guard := none } :: l) ⟨T, O⟩ Q :=
  WpL.pure rfl rfl hn (fun S ι F a w hr => ⟨a.eval y, by simp [execOp, hr.sc hc, asBool], by rw [← AV.force_eq hy]; exact hr.eval y⟩) h

theorem WpL.bin {op : BinOp} {t ty : TypeId} {x y : Operand} {vx vy v : Value} (hx : av T x = .sc vx) (hy : av T y = .sc vy) (hv : aBin op vx vy = some v) (hn : d < n)
    (h : WpL P n m G md ops l ⟨(d, .sc v) :: T, O⟩ Q) :
    WpL P n m G md ops ({ dst := some d, op := .binOp op t x y ty, type := tt, pos := pos, after := after, guard := none } :: l) ⟨T, O⟩ Q :=
  WpL.pure rfl rfl hn (fun S ι F a w hr => ⟨v, by
    have := run_aBin P hv t x y w
    simp only [execOp, hr.sc hx, hr.sc hy, Sem.run_bind, this, Result.andThen_ok, Sem.run_pure], .sc .nil⟩) h

/-- The frame of a rule on two scalars. -/
theorem WpL.bin2 {op : BinOp} {t ty : TypeId} {x y : Operand} {vx vy v : Value} (hx : av T x = .sc vx) (hy : av T y = .sc vy)
    (hrun : ∀ w, (do eqGuard op t x y vx vy; binOp op t vx vy : Sem Value).run P w = .ok v w) (hn : d < n)
    (h : WpL P n m G md ops l ⟨(d, .sc v) :: T, O⟩ Q) :
    WpL P n m G md ops ({ dst := some d, op := .binOp op t x y ty, type := tt, pos := pos, after := after, guard := none } :: l) ⟨T, O⟩ Q :=
  WpL.pure rfl rfl hn (fun S ι F a w hr => ⟨v, by
    have := hrun w
    simp only [execOp, hr.sc hx, hr.sc hy, Sem.run_bind, this, Result.andThen_ok, Sem.run_pure], .sc .nil⟩) h

section
variable {t ty : TypeId} {x y : Operand} {k k' : IntKind} {p q : Int}
theorem WpL.add (hx : av T x = .sc (.int .i64 p)) (hy : av T y = .sc (.int .i64 q)) (hb : -9223372036854775808 ≤ p + q ∧ p + q ≤ 9223372036854775807) (hn : d < n)
    (h : WpL P n m G md ops l ⟨(d, .sc (.int .i64 (p + q))) :: T, O⟩ Q) :
    WpL P n m G md ops ({ dst := some d, op := .binOp .add t x y ty, type := tt, pos := pos, after := after, guard := none } :: l) ⟨T, O⟩ Q :=
  WpL.bin hx hy (show aBin .add (.int .i64 p) (.int .i64 q) = some (.int .i64 (p + q)) by simp [aBin, IntWalk.i64_in _ hb]) hn h
theorem WpL.sub (hx : av T x = .sc (.int .i64 p)) (hy : av T y = .sc (.int .i64 q)) (hb : -9223372036854775808 ≤ p - q ∧ p - q ≤ 9223372036854775807) (hn : d < n)
    (h : WpL P n m G md ops l ⟨(d, .sc (.int .i64 (p - q))) :: T, O⟩ Q) :
    WpL P n m G md ops ({ dst := some d, op := .binOp .sub t x y ty, type := tt, pos := pos, after := after, guard := none } :: l) ⟨T, O⟩ Q :=
  WpL.bin hx hy (show aBin .sub (.int .i64 p) (.int .i64 q) = some (.int .i64 (p - q)) by simp [aBin, IntWalk.i64_in _ hb]) hn h
theorem WpL.mul (hx : av T x = .sc (.int .i64 p)) (hy : av T y = .sc (.int .i64 q)) (hb : -9223372036854775808 ≤ p * q ∧ p * q ≤ 9223372036854775807) (hn : d < n)
    (h : WpL P n m G md ops l ⟨(d, .sc (.int .i64 (p * q))) :: T, O⟩ Q) :
    WpL P n m G md ops ({ dst := some d, op := .binOp .mul t x y ty, type := tt, pos := pos, after := after, guard := none } :: l) ⟨T, O⟩ Q :=
  WpL.bin hx hy (show aBin .mul (.int .i64 p) (.int .i64 q) = some (.int .i64 (p * q)) by simp [aBin, IntWalk.i64_in _ hb]) hn h

theorem run_quo (P : Program) (h0 : q ≠ 0) (ox oy : Operand) (w : World) :
    (do eqGuard .quo t ox oy (.int k p) (.int k q); binOp .quo t (.int k p) (.int k q) : Sem Value).run P w = .ok (.int k (k.wrap (p.tdiv q))) w := by
  simp [eqGuard, binOp, Op.intDiv, h0, Sem.run_bind]
theorem run_rem (P : Program) (h0 : q ≠ 0) (ox oy : Operand) (w : World) :
    (do eqGuard .rem t ox oy (.int k p) (.int k q); binOp .rem t (.int k p) (.int k q) : Sem Value).run P w = .ok (.int k (p.tmod q)) w := by
  simp [eqGuard, binOp, Op.intDiv, h0, Sem.run_bind]

/-- '/' and '%' of what is not negative; of anything by a number above 0. -/
theorem WpL.quo (hx : av T x = .sc (.int .i64 p)) (hy : av T y = .sc (.int .i64 q)) (hb : 0 ≤ p ∧ p ≤ 9223372036854775807 ∧ 1 ≤ q) (hn : d < n)
    (h : WpL P n m G md ops l ⟨(d, .sc (.int .i64 (p / q))) :: T, O⟩ Q) :
    WpL P n m G md ops ({ dst := some d, op := .binOp .quo t x y ty, type := tt, pos := pos, after := after, guard := none } :: l) ⟨T, O⟩ Q :=
  WpL.bin2 hx hy (fun w => by rw [run_quo P (by omega), IntWalk.i64_quo p q hb]) hn h
theorem WpL.quoT (hx : av T x = .sc (.int .i64 p)) (hy : av T y = .sc (.int .i64 q)) (hb : -9223372036854775808 ≤ p ∧ p ≤ 9223372036854775807 ∧ 1 ≤ q) (hn : d < n)
    (h : WpL P n m G md ops l ⟨(d, .sc (.int .i64 (p.tdiv q))) :: T, O⟩ Q) :
    WpL P n m G md ops ({ dst := some d, op := .binOp .quo t x y ty, type := tt, pos := pos, after := after, guard := none } :: l) ⟨T, O⟩ Q :=
  WpL.bin2 hx hy (fun w => by rw [run_quo P (by omega), IntWalk.i64_quo' p q hb]) hn h
theorem WpL.quoK (hx : av T x = .sc (.int k p)) (hy : av T y = .sc (.int k q)) (hb : q ≠ 0) (hn : d < n)
    (h : WpL P n m G md ops l ⟨(d, .sc (.int k (k.wrap (p.tdiv q)))) :: T, O⟩ Q) :
    WpL P n m G md ops ({ dst := some d, op := .binOp .quo t x y ty, type := tt, pos := pos, after := after, guard := none } :: l) ⟨T, O⟩ Q :=
  WpL.bin2 hx hy (fun w => by rw [run_quo P hb]) hn h
theorem WpL.rem (hx : av T x = .sc (.int k p)) (hy : av T y = .sc (.int k q)) (hb : 0 ≤ p ∧ 1 ≤ q) (hn : d < n)
    (h : WpL P n m G md ops l ⟨(d, .sc (.int k (p % q))) :: T, O⟩ Q) :
    WpL P n m G md ops ({ dst := some d, op := .binOp .rem t x y ty, type := tt, pos := pos, after := after, guard := none } :: l) ⟨T, O⟩ Q :=
  WpL.bin2 hx hy (fun w => by rw [run_rem P (by omega), IntWalk.rem_in p q hb.1]) hn h
theorem WpL.remT (hx : av T x = .sc (.int k p)) (hy : av T y = .sc (.int k q)) (hb : q ≠ 0) (hn : d < n)
    (h : WpL P n m G md ops l ⟨(d, .sc (.int k (p.tmod q))) :: T, O⟩ Q) :
    WpL P n m G md ops ({ dst := some d, op := .binOp .rem t x y ty, type := tt, pos := pos, after := after, guard := none } :: l) ⟨T, O⟩ Q :=
  WpL.bin2 hx hy (fun w => by rw [run_rem P hb]) hn h

/-- Shifts by a number that is not negative (and, for the plain forms, below 64). -/
theorem WpL.shr (hx : av T x = .sc (.int k p)) (hy : av T y = .sc (.int k' q)) (hb : 0 ≤ q ∧ q ≤ k.bits) (hn : d < n)
    (h : WpL P n m G md ops l ⟨(d, .sc (.int k (p / 2 ^ q.toNat))) :: T, O⟩ Q) :
    WpL P n m G md ops ({ dst := some d, op := .binOp .shr t x y ty, type := tt, pos := pos, after := after, guard := none } :: l) ⟨T, O⟩ Q :=
  WpL.bin2 hx hy (fun w => by
    have h1 : ¬ q < 0 := by omega
    have h2 : min q.toNat k.bits = q.toNat := by omega
    have h3 : p.fdiv (2 ^ q.toNat) = p / 2 ^ q.toNat := Int.fdiv_eq_ediv_of_nonneg _ (Int.pow_nonneg (by decide))
    simp [eqGuard_int, binOp, Op.shift, h1, h2, h3, Sem.run_bind]) hn h
theorem WpL.shl (hx : av T x = .sc (.int k p)) (hy : av T y = .sc (.int k' q)) (hb : 0 ≤ q ∧ q ≤ k.bits) (hn : d < n)
    (h : WpL P n m G md ops l ⟨(d, .sc (.int k (k.wrap (p * 2 ^ q.toNat)))) :: T, O⟩ Q) :
    WpL P n m G md ops ({ dst := some d, op := .binOp .shl t x y ty, type := tt, pos := pos, after := after, guard := none } :: l) ⟨T, O⟩ Q :=
  WpL.bin2 hx hy (fun w => by
    have h1 : ¬ q < 0 := by omega
    have h2 : min q.toNat k.bits = q.toNat := by omega
    simp [eqGuard_int, binOp, Op.shift, h1, h2, Sem.run_bind]) hn h
theorem WpL.shlIn (hx : av T x = .sc (.int .i64 p)) (hy : av T y = .sc (.int k' q)) (hb : 0 ≤ q ∧ q ≤ 63) (hw : -9223372036854775808 ≤ p * 2 ^ q.toNat ∧ p * 2 ^ q.toNat ≤ 9223372036854775807) (hn : d < n)
    (h : WpL P n m G md ops l ⟨(d, .sc (.int .i64 (p * 2 ^ q.toNat))) :: T, O⟩ Q) :
    WpL P n m G md ops ({ dst := some d, op := .binOp .shl t x y ty, type := tt, pos := pos, after := after, guard := none } :: l) ⟨T, O⟩ Q :=
  WpL.shl hx hy (by simp only [IntKind.bits]; omega) hn (by rw [IntWalk.i64_in _ hw]; exact h)
end

section
variable {t ty : TypeId} {x y : Operand} {p q : List UInt8}
theorem WpL.strAdd (hx : av T x = .sc (.string ⟨p.toArray⟩)) (hy : av T y = .sc (.string ⟨q.toArray⟩)) (hb : p.length + q.length ≤ 9223372036854775807) (hn : d < n)
    (h : WpL P n m G md ops l ⟨(d, .sc (.string ⟨(p ++ q).toArray⟩)) :: T, O⟩ Q) :
    WpL P n m G md ops ({ dst := some d, op := .binOp .add t x y ty, type := tt, pos := pos, after := after, guard := none } :: l) ⟨T, O⟩ Q :=
  WpL.bin2 hx hy (fun w => by
    have e : (ByteArray.mk p.toArray ++ ByteArray.mk q.toArray) = ByteArray.mk (p ++ q).toArray := by apply ByteArray.ext; simp
    have hs : ¬ (((ByteArray.mk p.toArray).size + (ByteArray.mk q.toArray).size : Nat) : Int) > IntKind.i64.max := by
      simp [ByteArray.size, IntKind.max, IntKind.signed, IntKind.bits]; omega
    simp only [eqGuard_str, binOp, Op.stringOp, if_neg hs, e, Sem.run_bind, Sem.run_pure, Result.andThen_ok]) hn h
theorem WpL.strEq (hx : av T x = .sc (.string ⟨p.toArray⟩)) (hy : av T y = .sc (.string ⟨q.toArray⟩)) (hn : d < n)
    (h : WpL P n m G md ops l ⟨(d, .sc (.bool (decide (p = q)))) :: T, O⟩ Q) :
    WpL P n m G md ops ({ dst := some d, op := .binOp .eql t x y ty, type := tt, pos := pos, after := after, guard := none } :: l) ⟨T, O⟩ Q :=
  WpL.bin2 hx hy (fun w => by
    have e : (p == q) = decide (p = q) := by rw [Bool.eq_iff_iff]; simp
    simp only [eqGuard_str, binOp, Op.stringOp, ByteArray.toList_mk, e, Sem.run_bind, Sem.run_pure, Result.andThen_ok]) hn h
theorem WpL.strNe (hx : av T x = .sc (.string ⟨p.toArray⟩)) (hy : av T y = .sc (.string ⟨q.toArray⟩)) (hn : d < n)
    (h : WpL P n m G md ops l ⟨(d, .sc (.bool (!decide (p = q)))) :: T, O⟩ Q) :
    WpL P n m G md ops ({ dst := some d, op := .binOp .neq t x y ty, type := tt, pos := pos, after := after, guard := none } :: l) ⟨T, O⟩ Q :=
  WpL.bin2 hx hy (fun w => by
    have e : (p == q) = decide (p = q) := by rw [Bool.eq_iff_iff]; simp
    simp only [eqGuard_str, binOp, Op.stringOp, ByteArray.toList_mk, e, Sem.run_bind, Sem.run_pure, Result.andThen_ok]) hn h
end

section
variable {t ty : TypeId} {x y : Operand} {p q : Bool}
theorem run_equal_bool (P : Program) (ht : P.underlying t = some .bool) (w : World) : (Op.equal t (.bool p) (.bool q)).run P w = .ok (decide (p = q)) w := by
  have e : (p == q) = decide (p = q) := by rw [Bool.eq_iff_iff]; simp
  show (Op.equalIn (9999 + 1) t (.bool p) (.bool q)).run P w = _
  rw [Op.equalIn]
  simp only [Sem.run_bind, run_underlying ht, Result.andThen_ok, e, Sem.run_pure]
theorem WpL.boolEq (ht : P.underlying t = some .bool) (hx : av T x = .sc (.bool p)) (hy : av T y = .sc (.bool q)) (hn : d < n)
    (h : WpL P n m G md ops l ⟨(d, .sc (.bool (decide (p = q)))) :: T, O⟩ Q) :
    WpL P n m G md ops ({ dst := some d, op := .binOp .eql t x y ty, type := tt, pos := pos, after := after, guard := none } :: l) ⟨T, O⟩ Q :=
  WpL.bin2 hx hy (fun w => by
    simp [eqGuard_bool, binOp, run_equal_bool P ht, Sem.run_bind]) hn h
theorem WpL.boolNe (ht : P.underlying t = some .bool) (hx : av T x = .sc (.bool p)) (hy : av T y = .sc (.bool q)) (hn : d < n)
    (h : WpL P n m G md ops l ⟨(d, .sc (.bool (!decide (p = q)))) :: T, O⟩ Q) :
    WpL P n m G md ops ({ dst := some d, op := .binOp .neq t x y ty, type := tt, pos := pos, after := after, guard := none } :: l) ⟨T, O⟩ Q :=
  WpL.bin2 hx hy (fun w => by
    simp [eqGuard_bool, binOp, run_equal_bool P ht, Sem.run_bind]) hn h
end

theorem WpL.not {t : TypeId} {x : Operand} {b : Bool} (hx : av T x = .sc (.bool b)) (hn : d < n) (h : WpL P n m G md ops l ⟨(d, .sc (.bool !b)) :: T, O⟩ Q) :
    WpL P n m G md ops ({ dst := some d, op := .unOp .not t x, type := tt, pos := pos, after := after, guard := none } :: l) ⟨T, O⟩ Q :=
  WpL.pure rfl rfl hn (fun S ι F a w hr => ⟨.bool !b, by simp [execOp, hr.sc hx, Op.unary], .sc .nil⟩) h
theorem WpL.neg {t : TypeId} {x : Operand} {p : Int} (hx : av T x = .sc (.int .i64 p)) (hb : -9223372036854775807 ≤ p ∧ p ≤ 9223372036854775807) (hn : d < n) (h : WpL P n m G md ops l ⟨(d, .sc (.int .i64 (-p))) :: T, O⟩ Q) :
    WpL P n m G md ops ({ dst := some d, op := .unOp .neg t x, type := tt, pos := pos, after := after, guard := none } :: l) ⟨T, O⟩ Q :=
  WpL.pure rfl rfl hn (fun S ι F a w hr => ⟨.int .i64 (-p), by
    have := IntWalk.i64_in (-p) (by omega)
    simp [execOp, hr.sc hx, Op.unary, Op.intArith, this], .sc .nil⟩) h
theorem WpL.negK {t : TypeId} {x : Operand} {k : IntKind} {p : Int} (hx : av T x = .sc (.int k p)) (hn : d < n) (h : WpL P n m G md ops l ⟨(d, .sc (.int k (k.wrap (0 - p)))) :: T, O⟩ Q) :
    WpL P n m G md ops ({ dst := some d, op := .unOp .neg t x, type := tt, pos := pos, after := after, guard := none } :: l) ⟨T, O⟩ Q :=
  WpL.pure rfl rfl hn (fun S ι F a w hr => ⟨.int k (k.wrap (0 - p)), by simp [execOp, hr.sc hx, Op.unary, Op.intArith], .sc .nil⟩) h

theorem WpL.conv {s t : TypeId} {x : Operand} {k k' : IntKind} {p : Int} (hs : (P.underlying s).isSome = true) (ht : P.underlying t = some (.int k)) (hx : av T x = .sc (.int k' p)) (hn : d < n)
    (h : WpL P n m G md ops l ⟨(d, .sc (.int k (k.wrap p))) :: T, O⟩ Q) :
    WpL P n m G md ops ({ dst := some d, op := .convert s t x, type := tt, pos := pos, after := after, guard := none } :: l) ⟨T, O⟩ Q :=
  WpL.pure rfl rfl hn (fun S ι F a w hr => ⟨.int k (k.wrap p), by
    obtain ⟨u, hu⟩ := Option.isSome_iff_exists.1 hs
    simp only [execOp, convert, hr.sc hx, Sem.run_bind, run_underlying hu, run_underlying ht, Result.andThen_ok]
    cases u <;> simp [Conv.intToInt], .sc .nil⟩) h
theorem WpL.convI {s t : TypeId} {x : Operand} {k' : IntKind} {p : Int} (hs : (P.underlying s).isSome = true) (ht : P.underlying t = some (.int .i64)) (hx : av T x = .sc (.int k' p))
    (hb : -9223372036854775808 ≤ p ∧ p ≤ 9223372036854775807) (hn : d < n) (h : WpL P n m G md ops l ⟨(d, .sc (.int .i64 p)) :: T, O⟩ Q) :
    WpL P n m G md ops ({ dst := some d, op := .convert s t x, type := tt, pos := pos, after := after, guard := none } :: l) ⟨T, O⟩ Q :=
  WpL.conv hs ht hx hn (by rw [IntWalk.i64_in _ hb]; exact h)

theorem LRel.tup_inv {S w ι O ds x f} (h : VRel S w ι O (.tup ds) x f) : ∃ us, x = .tuple us.toArray ∧ LRel S w ι O ds us f := by
  cases h with
  | tup a r => cases r; exact ⟨_, rfl, by simpa using a⟩
theorem LRel.agg_inv {S w ι O ds x f} (h : VRel S w ι O (.agg ds) x f) : ∃ us, x = .agg us.toArray ∧ LRel S w ι O ds us f := by
  cases h with
  | agg a r => cases r; exact ⟨_, rfl, by simpa using a⟩

theorem WpL.extract {x : Operand} {ds : List AV} {i : Nat} {V : AV} (hx : av T x = .tup ds) (hi : (ds.getD i .any).force = some V) (hil : i < ds.length) (hn : d < n) (h : WpL P n m G md ops l ⟨(d, V) :: T, O⟩ Q) :
    WpL P n m G md ops ({ dst := some d, op := .extract x i, type := tt, pos := pos, after := after, guard := none } :: l) ⟨T, O⟩ Q :=
  WpL.pure rfl rfl hn (fun S ι F a w hr => by
    have he := hr.eval x
    rw [show av (St.mk T O).T x = _ from hx] at he
    obtain ⟨us, hu, hl⟩ := LRel.tup_inv he
    have hg : ds[i]? = some V := by
      rw [← AV.force_eq hi, List.getD_eq_getElem?_getD, List.getElem?_eq_getElem hil]; rfl
    obtain ⟨v, g, hv, hV, hgm⟩ := hl.get hg
    have hg0 : g = [] := List.eq_nil_iff_forall_not_mem.2 fun b hb => by simpa using hgm b hb
    subst hg0
    exact ⟨v, by simp [execOp, hu, Instr.extract, hv], hV⟩) h

theorem LRel.slice_len {S w ι O V x f} (h : VRel S w ι O V x f) : (∀ id ep off len ob, V = .own id ep off len → O[id]? = some ob → ob.ep = ep → ∃ a c, x = .slice a len c) ∧
    (∀ s len cs, V = .imm s len cs → ∃ a c, x = .slice a len c) ∧ (V = .nilS → x = .slice none 0 0) := by
  refine ⟨?_, ?_, ?_⟩
  · rintro id ep off len ob rfl ho he
    cases h with
    | own a b c r =>
      rw [ho] at a
      cases a
      have := c he.symm
      cases hs : ι id with
      | none => rw [hs] at this; obtain ⟨h1, _, h3⟩ := this; subst h3; exact ⟨_, _, h1⟩
      | some p => obtain ⟨b', k⟩ := p; rw [hs] at this; obtain ⟨cap, h1, _⟩ := this; exact ⟨_, _, h1⟩
  · rintro s len cs rfl
    cases h with
    | imm0 _ r => exact ⟨_, _, rfl⟩
    | imm => exact ⟨_, _, rfl⟩
  · rintro rfl
    cases h; rfl

theorem run_len_slice (P : Program) (t : TypeId) (e : TypeId) (ht : P.underlying t = some (.slice e)) (ty : TypeId) (a : Option Addr) (len c : Nat) (w : World) :
    (Builtin.len_ #[t] ty #[.slice a len c]).run P w = .ok (.int .i64 len) w := by
  simp [Builtin.len_, run_underlying ht, goInt]

theorem WpL.lenOwn {t e : TypeId} {x : Operand} {id ep off len : Nat} {ob : AObj} (ht : P.underlying t = some (.slice e)) (hx : av T x = .own id ep off len) (ho : O[id]? = some ob) (he : ob.ep = ep) (hn : d < n)
    (h : WpL P n m G md ops l ⟨(d, .sc (.int .i64 len)) :: T, O⟩ Q) :
    WpL P n m G md ops ({ dst := some d, op := .call { callee := .builtin .len, args := #[x], argTypes := #[t] }, type := tt, pos := pos, after := after, guard := none } :: l) ⟨T, O⟩ Q :=
  WpL.pure rfl rfl hn (fun S ι F a w hr => by
    have hv := hr.eval x
    rw [show av (St.mk T O).T x = _ from hx] at hv
    obtain ⟨ad, c, hxe⟩ := (LRel.slice_len hv).1 _ _ _ _ ob rfl ho he
    refine ⟨.int .i64 len, ?_, .sc .nil⟩
    simp [execOp, resolve, invoke, builtin, hxe, run_len_slice P t e ht, Sem.run_bind]) h
theorem WpL.lenImm {t e : TypeId} {x : Operand} {s len : Nat} {cs : List AV} (ht : P.underlying t = some (.slice e)) (hx : av T x = .imm s len cs) (hn : d < n)
    (h : WpL P n m G md ops l ⟨(d, .sc (.int .i64 len)) :: T, O⟩ Q) :
    WpL P n m G md ops ({ dst := some d, op := .call { callee := .builtin .len, args := #[x], argTypes := #[t] }, type := tt, pos := pos, after := after, guard := none } :: l) ⟨T, O⟩ Q :=
  WpL.pure rfl rfl hn (fun S ι F a w hr => by
    have hv := hr.eval x
    rw [show av (St.mk T O).T x = _ from hx] at hv
    obtain ⟨ad, c, hxe⟩ := (LRel.slice_len hv).2.1 _ _ _ rfl
    refine ⟨.int .i64 len, ?_, .sc .nil⟩
    simp [execOp, resolve, invoke, builtin, hxe, run_len_slice P t e ht, Sem.run_bind]) h
theorem WpL.lenNil {t e : TypeId} {x : Operand} (ht : P.underlying t = some (.slice e)) (hx : av T x = .nilS) (hn : d < n)
    (h : WpL P n m G md ops l ⟨(d, .sc (.int .i64 0)) :: T, O⟩ Q) :
    WpL P n m G md ops ({ dst := some d, op := .call { callee := .builtin .len, args := #[x], argTypes := #[t] }, type := tt, pos := pos, after := after, guard := none } :: l) ⟨T, O⟩ Q :=
  WpL.pure rfl rfl hn (fun S ι F a w hr => by
    have hv := hr.eval x
    rw [show av (St.mk T O).T x = _ from hx] at hv
    have hxe := (LRel.slice_len hv).2.2 rfl
    refine ⟨.int .i64 0, ?_, .sc .nil⟩
    have := run_len_slice P t e ht tt none 0 0 w
    simp [execOp, resolve, invoke, builtin, hxe, this, Sem.run_bind]) h
theorem WpL.lenStr {t : TypeId} {x : Operand} {p : List UInt8} (ht : P.underlying t = some .string) (hx : av T x = .sc (.string ⟨p.toArray⟩)) (hn : d < n)
    (h : WpL P n m G md ops l ⟨(d, .sc (.int .i64 p.length)) :: T, O⟩ Q) :
    WpL P n m G md ops ({ dst := some d, op := .call { callee := .builtin .len, args := #[x], argTypes := #[t] }, type := tt, pos := pos, after := after, guard := none } :: l) ⟨T, O⟩ Q :=
  WpL.pure rfl rfl hn (fun S ι F a w hr => by
    refine ⟨.int .i64 p.length, ?_, .sc .nil⟩
    have hsz : (ByteArray.mk p.toArray).size = p.length := by simp [ByteArray.size]
    have hl : (Builtin.len_ #[t] tt #[.string ⟨p.toArray⟩]).run P w = .ok (.int .i64 p.length) w := by
      simp only [Builtin.len_, List.getElem?_toArray, List.getElem?_cons_zero, Sem.run_bind, run_underlying ht, Result.andThen_ok, goInt, hsz, Sem.run_pure]
    simp [execOp, resolve, invoke, builtin, hr.sc hx, hl, Sem.run_bind]) h

theorem WpL.min2 {t1 t2 : TypeId} {x y : Operand} {p q : Int} (hx : av T x = .sc (.int .i64 p)) (hy : av T y = .sc (.int .i64 q)) (hn : d < n)
    (h : WpL P n m G md ops l ⟨(d, .sc (.int .i64 (min p q))) :: T, O⟩ Q) :
    WpL P n m G md ops ({ dst := some d, op := .call { callee := .builtin .min, args := #[x, y], argTypes := #[t1, t2] }, type := tt, pos := pos, after := after, guard := none } :: l) ⟨T, O⟩ Q :=
  WpL.pure rfl rfl hn (fun S ι F a w hr => by
    refine ⟨.int .i64 (min p q), ?_, .sc .nil⟩
    have e : (if q < p then q else p) = min p q := by omega
    simp [execOp, resolve, invoke, builtin, hr.sc hx, hr.sc hy, Builtin.min_, Builtin.min2, e, Sem.run_bind]) h
theorem WpL.max2 {t1 t2 : TypeId} {x y : Operand} {p q : Int} (hx : av T x = .sc (.int .i64 p)) (hy : av T y = .sc (.int .i64 q)) (hn : d < n)
    (h : WpL P n m G md ops l ⟨(d, .sc (.int .i64 (max p q))) :: T, O⟩ Q) :
    WpL P n m G md ops ({ dst := some d, op := .call { callee := .builtin .max, args := #[x, y], argTypes := #[t1, t2] }, type := tt, pos := pos, after := after, guard := none } :: l) ⟨T, O⟩ Q :=
  WpL.pure rfl rfl hn (fun S ι F a w hr => by
    refine ⟨.int .i64 (max p q), ?_, .sc .nil⟩
    have e : (if p < q then q else p) = max p q := by omega
    simp [execOp, resolve, invoke, builtin, hr.sc hx, hr.sc hy, Builtin.max_, Builtin.max2, e, Sem.run_bind]) h

end
end Go.Abs

/- The table of types, and the rules of the operations that read memory. No condition. -/
namespace Go.Abs
open Go
set_option linter.unusedVariables false
set_option linter.unusedSimpArgs false

/-- What is needed of a type. slice: the element's type, its cells, its bytes, its zero cells. struct: the fields' places, the cells, the zero cells. -/
inductive Ty where
  | int (k : IntKind)
  | bool
  | string
  | slice (e k b : Nat) (zs : List AV)
  | struct (offs : List Nat) (k : Nat) (zs : List AV)
  | ptr
  | func
  | iface
  | other

def tlook : List (Nat × Ty) → Nat → Option Ty
  | [], _ => none
  | (k, V) :: r, t => match Nat.beq k t with | true => some V | false => tlook r t

def fieldB (P : Program) (fs : Array Field) (f : Nat) : Option Nat :=
  match fs[f]? with
  | some fl => match P.info? fl.type with
    | some i => if i.size = 0 then none else some fl.offset
    | none => none
  | none => none

def ScOk (P : Program) (t : TypeId) (v : Value) : Prop := (P.info? t).map (fun i => (i.zero, i.size)) = some (some v, 1)

def TyOk (P : Program) (t : TypeId) : Ty → Prop
  | .int k => P.underlying t = some (.int k) ∧ ScOk P t (.int k 0)
  | .bool => P.underlying t = some .bool ∧ ScOk P t (.bool false)
  | .string => P.underlying t = some .string ∧ ScOk P t (.string ⟨#[]⟩)
  | .slice e k b zs => P.underlying t = some (.slice e) ∧ ScOk P t (.slice none 0 0) ∧
      ∃ z, (P.info? e).map (fun i => (i.zero, i.size, i.bytes)) = some (some z, k, b) ∧ z.cells.size = k ∧ 0 < k ∧ zs = z.cells.toList.map zav
  | .struct offs k zs => ∃ fs, P.underlying t = some (.struct fs) ∧ (∃ z, (P.info? t).map (fun i => (i.zero, i.size)) = some (some z, k) ∧ z.cells.size = k ∧ zs = z.cells.toList.map zav) ∧
      ∀ f o, offs[f]? = some o → fieldB P fs f = some o
  | .ptr => (∃ e, P.underlying t = some (.pointer e)) ∧ ScOk P t (.pointer none)
  | .func => (∃ p r v, P.underlying t = some (.func p r v)) ∧ ScOk P t .nilFunc
  | .iface => (∃ ms, P.underlying t = some (.interface ms)) ∧ ScOk P t .nilIface
  | .other => True

def TabOk (P : Program) (tab : List (Nat × Ty)) : Prop := ∀ p, p ∈ tab → TyOk P p.1 p.2

theorem TabOk.ty {P tab} (h : TabOk P tab) {t : Nat} {ty : Ty} (ht : tlook tab t = some ty) : TyOk P t ty := by
  induction tab with
  | nil => simp [tlook] at ht
  | cons p r ih =>
    obtain ⟨k, V⟩ := p
    unfold tlook at ht
    cases hb : Nat.beq k t with
    | true =>
      rw [hb] at ht
      simp only [Option.some.injEq] at ht
      subst ht
      have := Nat.eq_of_beq_eq_true hb
      subst this
      exact h _ (List.mem_cons_self)
    | false =>
      rw [hb] at ht
      exact ih (fun p hp => h p (List.mem_cons_of_mem _ hp)) ht

theorem lrel_zav {S w ι O} (vs : List Value) : LRel S w ι O (vs.map zav) vs [] := by
  induction vs with
  | nil => exact .nil
  | cons v vs ih =>
    simp only [List.map_cons]
    unfold zav
    split
    · exact .nilS ih
    · exact .sc ih

def ints (xs : List Int) : List AV := xs.map fun n => .sc (.int .i64 n)
def u8s (xs : List Int) : List AV := xs.map fun n => .sc (.int .u8 n)
def bools (xs : List Bool) : List AV := xs.map fun b => .sc (.bool b)
def strs (xs : List (List UInt8)) : List AV := xs.map fun p => .sc (.string ⟨p.toArray⟩)
@[simp] theorem length_ints (xs : List Int) : (ints xs).length = xs.length := by simp [ints]
@[simp] theorem length_u8s (xs : List Int) : (u8s xs).length = xs.length := by simp [u8s]
@[simp] theorem length_bools (xs : List Bool) : (bools xs).length = xs.length := by simp [bools]
@[simp] theorem length_strs (xs : List (List UInt8)) : (strs xs).length = xs.length := by simp [strs]
theorem get_ints {xs : List Int} {i : Nat} (h : i < xs.length) : (ints xs)[i]? = some (.sc (.int .i64 (xs.getD i 0))) := by simp [ints, h]
theorem get_u8s {xs : List Int} {i : Nat} (h : i < xs.length) : (u8s xs)[i]? = some (.sc (.int .u8 (xs.getD i 0))) := by simp [u8s, h]
theorem get_bools {xs : List Bool} {i : Nat} (h : i < xs.length) : (bools xs)[i]? = some (.sc (.bool (xs.getD i false))) := by simp [bools, h]
theorem get_strs {xs : List (List UInt8)} {i : Nat} (h : i < xs.length) : (strs xs)[i]? = some (.sc (.string ⟨(xs.getD i []).toArray⟩)) := by simp [strs, h]

/-- The cells that a pointer points into, and where. -/
def reg (O : List AObj) : AV → Option (List AV × Nat)
  | .iptr cs off => some (cs, off)
  | .ptr id ep off => match O[id]? with
    | some ob => match Nat.beq ob.ep ep with
      | true => some (ob.cells, off)
      | false => none
    | none => none
  | _ => none

def AV.nofre : AV → Bool
  | .fre _ _ _ => false
  | .agg _ => false
  | .tup _ => false
  | _ => true

theorem nofre_nil {S w ι O V x f} (h : VRel S w ι O V x f) (hn : V.nofre = true) : f = [] := by
  cases h with
  | agg => simp [AV.nofre] at hn
  | tup => simp [AV.nofre] at hn
  | fre => simp [AV.nofre] at hn
  | _ => rename_i hh; cases hh; rfl

/-- What a pointer's value is, and the cells behind it. -/
theorem reg_cells {S w ι O F V x cells off} (ho : ORel S w ι O F) (hv : VRel S w ι O V x []) (hr : reg O V = some (cells, off)) :
    ∃ b o us g, x = .pointer (some ⟨b, o + off, none⟩) ∧ (∀ i, i < us.length → w.cell? ⟨b, o + i, none⟩ = us[i]?) ∧ LRel S w ι O cells us g := by
  unfold reg at hr
  split at hr
  · simp only [Option.some.injEq, Prod.mk.injEq] at hr
    obtain ⟨rfl, rfl⟩ := hr
    cases hv with
    | iptr hS hc hl r => exact ⟨_, _, _, _, rfl, hc, hl.lift⟩
  · rename_i id ep off'
    split at hr
    · rename_i ob hob
      split at hr
      · rename_i hep
        simp only [Option.some.injEq, Prod.mk.injEq] at hr
        obtain ⟨rfl, rfl⟩ := hr
        have hep := Nat.eq_of_beq_eq_true hep
        cases hv with
        | ptr a b c r =>
          rw [hob] at a
          cases a
          have hc := c hep.symm
          have hob' := ho.obj _ _ hob
          cases hs : ι id with
          | none => rw [hs] at hc; exact hc.elim
          | some p =>
            obtain ⟨b', k⟩ := p
            rw [hs] at hc hob'
            obtain ⟨cur, t, fz, f', _, hh, hk, hle, _, _, hl⟩ := hob'
            refine ⟨b', 0, _, _, by rw [Nat.zero_add]; exact hc, fun i hi => ?_, hl⟩
            rw [Nat.zero_add, cell_of_row w b' i cur t fz hh, List.getElem?_take]
            have : i < ob.cells.length := by
              have := hl.len; omega
            rw [if_pos this]; simp
      · simp at hr
    · simp at hr
  · simp at hr

section
variable {P : Program} {n m : Nat} {G : Ctx} {md : Bool} {T : List (Nat × AV)} {O : List AObj} {Q : Exit → St → Prop} {ops : Array Oper} {l : List Oper} {d : Nat} {tt : TypeId} {pos : String} {after : Array Edge} {tab : List (Nat × Ty)}

theorem run_sizeOf {P : Program} {t k : Nat} {i : TypeInfo} (hi : P.info? t = some i) (hk : i.size = k) (w : World) : (sizeOf t).run P w = .ok k w := by
  simp [sizeOf, typeInfo, hi, hk]

/-- Not a struct, not an array. -/
def Ty.plain : Ty → Bool
  | .struct _ _ _ => false
  | .other => false
  | _ => true

theorem run_isAgg_plain {t : Nat} {ty : Ty} (h : TyOk P t ty) (hp : ty.plain = true) (w : World) : (isAgg t).run P w = .ok false w := by
  cases ty <;> simp [Ty.plain] at hp
  case int k => simp [isAgg, run_underlying h.1]
  case bool => simp [isAgg, run_underlying h.1]
  case string => simp [isAgg, run_underlying h.1]
  case slice => simp [isAgg, run_underlying h.1]
  case ptr => obtain ⟨e, he⟩ := h.1; simp [isAgg, run_underlying he]
  case func => obtain ⟨p, r, v, he⟩ := h.1; simp [isAgg, run_underlying he]
  case iface => obtain ⟨ms, he⟩ := h.1; simp [isAgg, run_underlying he]

theorem RelAt.reg {S ι F a w} (hr : RelAt n m G S ι F ⟨T, O⟩ a w) {x : Operand} {cells : List AV} {off : Nat} (hm : reg O (av T x) = some (cells, off)) :
    ∃ b o us g, a.eval x = .pointer (some ⟨b, o + off, none⟩) ∧ (∀ i, i < us.length → w.cell? ⟨b, o + i, none⟩ = us[i]?) ∧ LRel S w ι O cells us g :=
  reg_cells hr.objs (hr.eval x) hm

theorem WpL.load1 (hP : TabOk P tab) {t : TypeId} {x : Operand} {ty : Ty} {cells : List AV} {off : Nat} {V : AV} (ht : tlook tab t = some ty) (hp : ty.plain = true) (hm : Abs.reg O (av T x) = some (cells, off))
    (hv : cells[off]? = some V) (hf : V.nofre = true) (hn : d < n) (h : WpL P n m G md ops l ⟨(d, V) :: T, O⟩ Q) :
    WpL P n m G md ops ({ dst := some d, op := .load t x, type := tt, pos := pos, after := after, guard := none } :: l) ⟨T, O⟩ Q :=
  WpL.pure rfl rfl hn (fun S ι F a w hr => by
    obtain ⟨b, o, us, g, hx, hc, hl⟩ := hr.reg hm
    obtain ⟨v, g', hv', hV, _⟩ := hl.get hv
    have := nofre_nil hV hf
    subst this
    refine ⟨v, ?_, hV⟩
    have hlt : off < us.length := (List.getElem?_eq_some_iff.1 hv').1
    have hcell : w.cell? ⟨b, o + off, none⟩ = some v := by rw [hc off hlt, hv']
    simp [execOp, Instr.loadAt, Instr.sureAddr, hx, loadVar, run_isAgg_plain (hP.ty ht) hp, load, hcell, Sem.run_bind, Sem.run]) h

theorem WpL.loadInts (hP : TabOk P tab) {t : TypeId} {x : Operand} {ty : Ty} {xs : List Int} {off : Nat} (ht : tlook tab t = some ty) (hp : ty.plain = true) (hm : Abs.reg O (av T x) = some (ints xs, off))
    (hb : off < xs.length) (hn : d < n) (h : WpL P n m G md ops l ⟨(d, .sc (.int .i64 (xs.getD off 0))) :: T, O⟩ Q) :
    WpL P n m G md ops ({ dst := some d, op := .load t x, type := tt, pos := pos, after := after, guard := none } :: l) ⟨T, O⟩ Q :=
  WpL.load1 hP ht hp hm (get_ints hb) rfl hn h
theorem WpL.loadU8s (hP : TabOk P tab) {t : TypeId} {x : Operand} {ty : Ty} {xs : List Int} {off : Nat} (ht : tlook tab t = some ty) (hp : ty.plain = true) (hm : Abs.reg O (av T x) = some (u8s xs, off))
    (hb : off < xs.length) (hn : d < n) (h : WpL P n m G md ops l ⟨(d, .sc (.int .u8 (xs.getD off 0))) :: T, O⟩ Q) :
    WpL P n m G md ops ({ dst := some d, op := .load t x, type := tt, pos := pos, after := after, guard := none } :: l) ⟨T, O⟩ Q :=
  WpL.load1 hP ht hp hm (get_u8s hb) rfl hn h
theorem WpL.loadBools (hP : TabOk P tab) {t : TypeId} {x : Operand} {ty : Ty} {xs : List Bool} {off : Nat} (ht : tlook tab t = some ty) (hp : ty.plain = true) (hm : Abs.reg O (av T x) = some (bools xs, off))
    (hb : off < xs.length) (hn : d < n) (h : WpL P n m G md ops l ⟨(d, .sc (.bool (xs.getD off false))) :: T, O⟩ Q) :
    WpL P n m G md ops ({ dst := some d, op := .load t x, type := tt, pos := pos, after := after, guard := none } :: l) ⟨T, O⟩ Q :=
  WpL.load1 hP ht hp hm (get_bools hb) rfl hn h
theorem WpL.loadStrs (hP : TabOk P tab) {t : TypeId} {x : Operand} {ty : Ty} {xs : List (List UInt8)} {off : Nat} (ht : tlook tab t = some ty) (hp : ty.plain = true) (hm : Abs.reg O (av T x) = some (strs xs, off))
    (hb : off < xs.length) (hn : d < n) (h : WpL P n m G md ops l ⟨(d, .sc (.string ⟨(xs.getD off []).toArray⟩)) :: T, O⟩ Q) :
    WpL P n m G md ops ({ dst := some d, op := .load t x, type := tt, pos := pos, after := after, guard := none } :: l) ⟨T, O⟩ Q :=
  WpL.load1 hP ht hp hm (get_strs hb) rfl hn h

theorem lrel_nofre_nil {S w ι O cs vs f} (h : LRel S w ι O cs vs f) (hn : cs.all AV.nofre = true) : f = [] := by
  induction cs generalizing vs f with
  | nil => cases h; rfl
  | cons c cs ih =>
    obtain ⟨v, vs', f1, f2, rfl, hv, hr, rfl⟩ := h.uncons
    simp only [List.all_cons, Bool.and_eq_true] at hn
    rw [nofre_nil hv hn.1, ih hr hn.2]; rfl

/-- A struct is loaded whole. -/
theorem WpL.loadAgg (hP : TabOk P tab) {t : TypeId} {x : Operand} {offs : List Nat} {k : Nat} {zs cells ds : List AV} {off : Nat} (ht : tlook tab t = some (.struct offs k zs)) (hm : Abs.reg O (av T x) = some (cells, off))
    (hv : (cells.drop off).take k = ds) (hk : ds.length = k) (hf : ds.all AV.nofre = true) (hn : d < n) (h : WpL P n m G md ops l ⟨(d, .agg ds) :: T, O⟩ Q) :
    WpL P n m G md ops ({ dst := some d, op := .load t x, type := tt, pos := pos, after := after, guard := none } :: l) ⟨T, O⟩ Q :=
  WpL.pure rfl rfl hn (fun S ι F a w hr => by
    obtain ⟨b, o, us, g, hx, hc, hl⟩ := hr.reg hm
    obtain ⟨g1, h1, _, _⟩ := hl.drop off
    obtain ⟨g2, h2, _, _⟩ := h1.take k
    rw [hv] at h2
    have := lrel_nofre_nil h2 hf
    subst this
    refine ⟨.agg ((us.drop off).take k).toArray, ?_, by simpa using LRel.agg h2 .nil⟩
    obtain ⟨fs, hu, ⟨z, hz, _⟩, _⟩ := hP.ty ht
    have hagg : (isAgg t).run P w = .ok true w := by simp [isAgg, run_underlying hu]
    obtain ⟨i, hi, hi2⟩ : ∃ i, P.info? t = some i ∧ i.size = k := by
      cases hh : P.info? t with
      | none => simp [hh] at hz
      | some i => rw [hh] at hz; simp at hz; exact ⟨i, rfl, hz.2⟩
    have hlen : ((us.drop off).take k).length = k := by rw [← h2.len, hk]
    have hcs : ∀ j v, ((us.drop off).take k)[j]? = some v → w.cell? ((⟨b, o + off, none⟩ : Addr).add j) = some v := by
      intro j v hj
      have hjk : j < ((us.drop off).take k).length := (List.getElem?_eq_some_iff.1 hj).1
      rw [hlen] at hjk
      rw [List.getElem?_take, if_pos hjk, List.getElem?_drop] at hj
      have hlt : off + j < us.length := (List.getElem?_eq_some_iff.1 hj).1
      have := hc (off + j) hlt
      rw [hj] at this
      unfold Addr.add
      split
      · rename_i h0; subst h0; simpa using this
      · simpa [Nat.add_assoc] using this
    have hld : (loadCells ⟨b, o + off, none⟩ k).run P w = .ok ((us.drop off).take k).toArray w := by
      have := run_loadCells_list (P := P) w ⟨b, o + off, none⟩ _ hcs
      rwa [hlen] at this
    simp [execOp, Instr.loadAt, Instr.sureAddr, hx, loadVar, hagg, run_sizeOf hi hi2, hld, Sem.run_bind]) h

end
end Go.Abs

/- The rules of addresses, indexes and slice expressions. No condition. -/
namespace Go.Abs
open Go
set_option linter.unusedVariables false
set_option linter.unusedSimpArgs false

theorem iptr_inv {S w ι O cs off x f} (h : VRel S w ι O (.iptr cs off) x f) : ∃ b o us, x = .pointer (some ⟨b, o + off, none⟩) ∧ S b ∧ (∀ i, i < us.length → w.cell? ⟨b, o + i, none⟩ = us[i]?) ∧ LRel S w ι [] cs us [] ∧ f = [] := by
  cases h with
  | iptr hS hc hl r => cases r; exact ⟨_, _, _, rfl, hS, hc, hl, rfl⟩
theorem imm_inv {S w ι O k len cs x f} (h : VRel S w ι O (.imm k len cs) x f) : f = [] ∧ ((∃ a cap, x = .slice a 0 cap ∧ ((a = none → cap = 0) ∧ cap ≤ maxLen) ∧ len = 0 ∧ cs = []) ∨
    ∃ b o cap us, x = .slice (some ⟨b, o, none⟩) len cap ∧ S b ∧ (∀ i, i < us.length → w.cell? ⟨b, o + i, none⟩ = us[i]?) ∧ LRel S w ι [] cs us [] ∧ len * k = cs.length ∧ len ≤ cap ∧ cap ≤ maxLen) := by
  cases h with
  | imm0 h0 r => cases r; exact ⟨rfl, .inl ⟨_, _, rfl, h0, rfl, rfl⟩⟩
  | imm hS hc hl h1 h2 h3 r => cases r; exact ⟨rfl, .inr ⟨_, _, _, _, rfl, hS, hc, hl, h1, h2, h3⟩⟩

section
variable {P : Program} {n m : Nat} {G : Ctx} {md : Bool} {T : List (Nat × AV)} {O : List AObj} {Q : Exit → St → Prop} {ops : Array Oper} {l : List Oper} {d : Nat} {tt : TypeId} {pos : String} {after : Array Edge} {tab : List (Nat × Ty)}

theorem addr_add (b o k : Nat) : ((⟨b, o, none⟩ : Addr).add k) = ⟨b, o + k, none⟩ := by
  unfold Addr.add
  split
  · rename_i h; subst h; rfl
  · rfl

theorem run_fieldPlace {P : Program} {fs : Array Field} {f o : Nat} (h : fieldB P fs f = some o) (b c : Nat) (w : World) :
    ∃ fl, fs[f]? = some fl ∧ (fieldPlace ⟨b, c, none⟩ fl).run P w = .ok ⟨b, c + o, none⟩ w := by
  unfold fieldB at h
  split at h
  · rename_i fl hfl
    split at h
    · rename_i i hi
      split at h
      · simp at h
      · rename_i h0
        simp only [Option.some.injEq] at h
        subst h
        exact ⟨fl, hfl, by simp [fieldPlace, run_sizeOf hi rfl, h0, addr_add, Sem.run_bind]⟩
    · simp at h
  · simp at h

theorem run_fieldAt (hP : TabOk P tab) {t f o k : Nat} {offs : List Nat} {zs : List AV} (ht : tlook tab t = some (.struct offs k zs)) (hf : offs[f]? = some o) (b c : Nat) (w : World) :
    (Instr.fieldAt t (.pointer (some ⟨b, c, none⟩)) f).run P w = .ok (.pointer (some ⟨b, c + o, none⟩)) w := by
  obtain ⟨fs, hu, _, hfs⟩ := hP.ty ht
  obtain ⟨fl, h1, h2⟩ := run_fieldPlace (hfs f o hf) b c w
  simp [Instr.fieldAt, run_underlying hu, h1, Instr.sureAddr, h2, Sem.run_bind]

theorem WpL.fieldP (hP : TabOk P tab) {t f o k : Nat} {offs : List Nat} {zs : List AV} {x : Operand} {id ep off : Nat} {ob : AObj} (ht : tlook tab t = some (.struct offs k zs)) (hf : offs[f]? = some o) (hx : av T x = .ptr id ep off)
    (ho : O[id]? = some ob) (he : ob.ep = ep) (hn : d < n) (h : WpL P n m G md ops l ⟨(d, .ptr id ep (off + o)) :: T, O⟩ Q) :
    WpL P n m G md ops ({ dst := some d, op := .fieldAddr t x f, type := tt, pos := pos, after := after, guard := none } :: l) ⟨T, O⟩ Q :=
  WpL.pure rfl rfl hn (fun S ι F a w hr => by
    have hv := hr.eval x
    rw [show av (St.mk T O).T x = _ from hx] at hv
    cases hv with
    | ptr q1 q2 q3 r =>
      rw [show (St.mk T O).O[id]? = some ob from ho] at q1
      cases q1
      have hc := q3 he.symm
      cases hs : ι id with
      | none => rw [hs] at hc; exact hc.elim
      | some p =>
        obtain ⟨b, kk⟩ := p
        rw [hs] at hc
        have hc : a.eval x = .pointer (some ⟨b, off, none⟩) := hc
        refine ⟨.pointer (some ⟨b, off + o, none⟩), by simp [execOp, hc, run_fieldAt hP ht hf, Sem.run_bind], .ptr ho q2 (fun _ => ?_) .nil⟩
        rw [hs]; rfl) h

theorem WpL.fieldI (hP : TabOk P tab) {t f o k : Nat} {offs : List Nat} {zs cs : List AV} {x : Operand} {off : Nat} (ht : tlook tab t = some (.struct offs k zs)) (hf : offs[f]? = some o) (hx : av T x = .iptr cs off) (hn : d < n)
    (h : WpL P n m G md ops l ⟨(d, .iptr cs (off + o)) :: T, O⟩ Q) :
    WpL P n m G md ops ({ dst := some d, op := .fieldAddr t x f, type := tt, pos := pos, after := after, guard := none } :: l) ⟨T, O⟩ Q :=
  WpL.pure rfl rfl hn (fun S ι F a w hr => by
    have hv := hr.eval x
    rw [show av (St.mk T O).T x = _ from hx] at hv
    obtain ⟨b, o', us, hpt, hS, hc, hl, _⟩ := iptr_inv hv
    exact ⟨.pointer (some ⟨b, o' + off + o, none⟩), by simp [execOp, hpt, run_fieldAt hP ht hf, Sem.run_bind], by
      have := LRel.iptr (O := O) (off := off + o) hS hc hl .nil
      rwa [← Nat.add_assoc] at this⟩) h

theorem WpL.nilCheckP {x : Operand} {id ep off : Nat} {ob : AObj} (hx : av T x = .ptr id ep off) (ho : O[id]? = some ob) (he : ob.ep = ep) (hn : d < n) (h : WpL P n m G md ops l ⟨(d, .ptr id ep off) :: T, O⟩ Q) :
    WpL P n m G md ops ({ dst := some d, op := .nilCheck x, type := tt, pos := pos, after := after, guard := none } :: l) ⟨T, O⟩ Q :=
  WpL.pure rfl rfl hn (fun S ι F a w hr => by
    have hv := hr.eval x
    have hv0 := hv
    rw [show av (St.mk T O).T x = _ from hx] at hv
    rw [show av (St.mk T O).T x = _ from hx] at hv0
    cases hv with
    | ptr q1 q2 q3 r =>
      rw [show (St.mk T O).O[id]? = some ob from ho] at q1
      cases q1
      have hc := q3 he.symm
      cases hs : ι id with
      | none => rw [hs] at hc; exact hc.elim
      | some p =>
        obtain ⟨b, kk⟩ := p
        rw [hs] at hc
        have hc : a.eval x = .pointer (some ⟨b, off, none⟩) := hc
        exact ⟨a.eval x, by simp [execOp, hc], hv0⟩) h
theorem WpL.nilCheckI {x : Operand} {cs : List AV} {off : Nat} (hx : av T x = .iptr cs off) (hn : d < n) (h : WpL P n m G md ops l ⟨(d, .iptr cs off) :: T, O⟩ Q) :
    WpL P n m G md ops ({ dst := some d, op := .nilCheck x, type := tt, pos := pos, after := after, guard := none } :: l) ⟨T, O⟩ Q :=
  WpL.pure rfl rfl hn (fun S ι F a w hr => by
    have hv := hr.eval x
    have hv0 := hv
    rw [show av (St.mk T O).T x = _ from hx] at hv
    rw [show av (St.mk T O).T x = _ from hx] at hv0
    obtain ⟨b, o', us, hpt, _⟩ := iptr_inv hv
    exact ⟨a.eval x, by simp [execOp, hpt], hv0⟩) h

theorem run_indexAt {P : Program} {t e k : Nat} {i : TypeInfo} (ht : P.underlying t = some (.slice e)) (hi : P.info? e = some i) (hk : i.size = k) (b o len cap : Nat) (kk : IntKind) (j : Int) (hj : 0 ≤ j ∧ j < len) (w : World) :
    (Instr.indexAt t (.slice (some ⟨b, o, none⟩) len cap) (.int kk j)).run P w = .ok (.pointer (some ⟨b, o + j.toNat * k, none⟩)) w := by
  simp [Instr.indexAt, asIntOf, run_underlying ht, run_sizeOf hi hk, hj, addr_add, Sem.run_bind]

theorem TabOk.slice (hP : TabOk P tab) {t e k b : Nat} {zs : List AV} (ht : tlook tab t = some (.slice e k b zs)) :
    P.underlying t = some (.slice e) ∧ ∃ i z, P.info? e = some i ∧ i.zero = some z ∧ i.size = k ∧ i.bytes = b ∧ z.cells.size = k ∧ 0 < k ∧ zs = z.cells.toList.map zav := by
  obtain ⟨h1, _, z, h2, h3, h4, h5⟩ := hP.ty ht
  refine ⟨h1, ?_⟩
  cases hh : P.info? e with
  | none => simp [hh] at h2
  | some i =>
    rw [hh] at h2
    simp at h2
    exact ⟨i, z, rfl, h2.1, h2.2.1, h2.2.2, h3, h4, h5⟩

/-- The address of an element of a slice that stays; the test on the index is a premise. -/
theorem WpL.idxI (hP : TabOk P tab) {t e k b : Nat} {zs cs : List AV} {x y : Operand} {len : Nat} {kk : IntKind} {j : Int} (ht : tlook tab t = some (.slice e k b zs)) (hx : av T x = .imm k len cs) (hy : av T y = .sc (.int kk j))
    (hj : 0 ≤ j ∧ j < len) (hn : d < n) (h : WpL P n m G md ops l ⟨(d, .iptr cs (j.toNat * k)) :: T, O⟩ Q) :
    WpL P n m G md ops ({ dst := some d, op := .indexAddr t x y, type := tt, pos := pos, after := after, guard := none } :: l) ⟨T, O⟩ Q :=
  WpL.pure rfl rfl hn (fun S ι F a w hr => by
    obtain ⟨hu, i, z, hi, _, hk, _⟩ := hP.slice ht
    have hv := hr.eval x
    rw [show av (St.mk T O).T x = _ from hx] at hv
    rcases (imm_inv hv).2 with ⟨_, _, _, _, h0, _⟩ | ⟨b', o, cap, us, hpt, hS, hc, hl, _⟩
    · omega
    · exact ⟨.pointer (some ⟨b', o + j.toNat * k, none⟩), by simp [execOp, hpt, hr.sc hy, run_indexAt hu hi hk _ _ _ _ _ _ hj, Sem.run_bind], .iptr hS hc hl .nil⟩) h

/-- The address of an element of a slice of the call's own. -/
theorem WpL.idxO (hP : TabOk P tab) {t e k b : Nat} {zs : List AV} {x y : Operand} {id ep off len : Nat} {ob : AObj} {kk : IntKind} {j : Int} (ht : tlook tab t = some (.slice e k b zs)) (hx : av T x = .own id ep off len)
    (ho : O[id]? = some ob) (he : ob.ep = ep) (hy : av T y = .sc (.int kk j))
    (hj : 0 ≤ j ∧ j < len) (hn : d < n) (h : WpL P n m G md ops l ⟨(d, .ptr id ep (off + j.toNat * k)) :: T, O⟩ Q) :
    WpL P n m G md ops ({ dst := some d, op := .indexAddr t x y, type := tt, pos := pos, after := after, guard := none } :: l) ⟨T, O⟩ Q :=
  WpL.pure rfl rfl hn (fun S ι F a w hr => by
    obtain ⟨hu, i, z, hi, _, hk, _⟩ := hP.slice ht
    have hv := hr.eval x
    rw [show av (St.mk T O).T x = _ from hx] at hv
    cases hv with
    | own q1 q2 q3 r =>
      rw [show (St.mk T O).O[id]? = some ob from ho] at q1
      cases q1
      have hc := q3 he.symm
      cases hs : ι id with
      | none => rw [hs] at hc; obtain ⟨_, _, h0⟩ := hc; omega
      | some p =>
        obtain ⟨b', kk'⟩ := p
        rw [hs] at hc
        obtain ⟨cap, hpt, _⟩ := hc
        refine ⟨.pointer (some ⟨b', off + j.toNat * k, none⟩), by simp [execOp, hpt, hr.sc hy, run_indexAt hu hi hk _ _ _ _ _ _ hj, Sem.run_bind], .ptr ho q2 (fun _ => ?_) .nil⟩
        rw [hs]; rfl) h

theorem WpL.idxStr (hP : TabOk P tab) {t : Nat} {x y : Operand} {p : List UInt8} {kk : IntKind} {j : Int} (ht : tlook tab t = some .string) (hx : av T x = .sc (.string ⟨p.toArray⟩)) (hy : av T y = .sc (.int kk j))
    (hj : 0 ≤ j ∧ j < p.length) (hn : d < n) (h : WpL P n m G md ops l ⟨(d, .sc (.int .u8 ((p.getD j.toNat 0).toNat))) :: T, O⟩ Q) :
    WpL P n m G md ops ({ dst := some d, op := .index t x y, type := tt, pos := pos, after := after, guard := none } :: l) ⟨T, O⟩ Q :=
  WpL.pure rfl rfl hn (fun S ι F a w hr => by
    have hu := (hP.ty ht).1
    have hlt : j.toNat < p.length := by omega
    have hg : (ByteArray.mk p.toArray)[(j.toNat : Nat)]? = some (p.getD j.toNat 0) := by
      have h1 : j.toNat < (ByteArray.mk p.toArray).size := by simp [ByteArray.size]; exact hlt
      rw [getElem?_pos (ByteArray.mk p.toArray) j.toNat h1]
      congr 1
      rw [ByteArray.getElem_eq_getElem_data]
      simp [hlt]
    refine ⟨_, ?_, .sc .nil⟩
    simp only [execOp, Instr.index, hr.sc hx, hr.sc hy, asIntOf, Sem.run_bind, Sem.run_pure, Result.andThen_ok, run_underlying hu, if_pos hj.1, hg]) h

/-- A part of a string. -/
theorem run_sliceStr {P : Program} {t : Nat} (hu : P.underlying t = some .string) (p : List UInt8) (lo hi : Option Value) (a b : Nat) (hlo : (lo = none ∧ a = 0) ∨ ∃ k, lo = some (.int k a)) (hhi : (hi = none ∧ b = p.length) ∨ ∃ k, hi = some (.int k b))
    (hab : a ≤ b ∧ b ≤ p.length) (w : World) : (Instr.sliceAt t (.string ⟨p.toArray⟩) lo hi none).run P w = .ok (.string ⟨((p.drop a).take (b - a)).toArray⟩) w := by
  have hsz : (ByteArray.mk p.toArray).size = p.length := by simp [ByteArray.size]
  have h1 : b ≤ p.length := hab.2
  have h2 : a ≤ b := hab.1
  rcases hlo with ⟨rfl, rfl⟩ | ⟨k1, rfl⟩ <;> rcases hhi with ⟨rfl, rfl⟩ | ⟨k2, rfl⟩ <;>
    simp [Instr.sliceAt, Instr.slice, run_underlying hu, Instr.sliceBounds, Instr.sliceBound, asIntOf, hsz, h1, h2, ByteArray.extract_mk, Sem.run_bind]

theorem WpL.subStr (hP : TabOk P tab) {t : Nat} {x : Operand} {lo hi : Option Operand} {p : List UInt8} {i j : Int} (ht : tlook tab t = some .string) (hx : av T x = .sc (.string ⟨p.toArray⟩))
    (hlo : (lo = none ∧ i = 0) ∨ ∃ y k, lo = some y ∧ av T y = .sc (.int k i)) (hhi : (hi = none ∧ j = p.length) ∨ ∃ y k, hi = some y ∧ av T y = .sc (.int k j))
    (hb : 0 ≤ i ∧ i ≤ j ∧ j ≤ p.length) (hn : d < n) (h : WpL P n m G md ops l ⟨(d, .sc (.string ⟨((p.drop i.toNat).take (j.toNat - i.toNat)).toArray⟩)) :: T, O⟩ Q) :
    WpL P n m G md ops ({ dst := some d, op := .slice t x lo hi none, type := tt, pos := pos, after := after, guard := none } :: l) ⟨T, O⟩ Q :=
  WpL.pure rfl rfl hn (fun S ι F a w hr => by
    have hu := (hP.ty ht).1
    refine ⟨_, ?_, .sc .nil⟩
    have hi' : (i.toNat : Int) = i := by omega
    have hj' : (j.toNat : Int) = j := by omega
    have := run_sliceStr hu p (lo.map a.eval) (hi.map a.eval) i.toNat j.toNat ?_ ?_ (by omega) w
    · simp [execOp, hr.sc hx, this, Sem.run_bind]
    · rcases hlo with ⟨rfl, rfl⟩ | ⟨y, k, rfl, hy⟩
      · exact .inl ⟨rfl, rfl⟩
      · exact .inr ⟨k, by simp [hr.sc hy, hi']⟩
    · rcases hhi with ⟨rfl, rfl⟩ | ⟨y, k, rfl, hy⟩
      · exact .inl ⟨rfl, by simp⟩
      · exact .inr ⟨k, by simp [hr.sc hy, hj']⟩) h

theorem run_sliceSl {P : Program} {t e k : Nat} {i : TypeInfo} (hu : P.underlying t = some (.slice e)) (hi : P.info? e = some i) (hk : i.size = k) (ad : Addr) (len cap : Nat) (lo hi' : Option Value) (a b : Nat)
    (hlo : (lo = none ∧ a = 0) ∨ ∃ k, lo = some (.int k a)) (hhi : (hi' = none ∧ b = len) ∨ ∃ k, hi' = some (.int k b)) (hab : a ≤ b ∧ b ≤ cap) (w : World) :
    (Instr.sliceAt t (.slice (some ad) len cap) lo hi' none).run P w = .ok (.slice (some (if cap = a then ad else ad.add (a * k))) (b - a) (cap - a)) w := by
  have h1 : b ≤ cap := hab.2
  have h2 : a ≤ b := hab.1
  rcases hlo with ⟨rfl, rfl⟩ | ⟨k1, rfl⟩ <;> rcases hhi with ⟨rfl, rfl⟩ | ⟨k2, rfl⟩ <;>
    simp [Instr.sliceAt, Instr.slice, run_underlying hu, Instr.sliceBounds, Instr.sliceBound, asIntOf, h1, h2, run_sizeOf hi hk, Sem.run_bind] <;> split <;> rfl

/-- A part of a slice that stays. -/
theorem WpL.subImm (hP : TabOk P tab) {t e k b : Nat} {zs cs : List AV} {x : Operand} {lo hi : Option Operand} {len : Nat} {i j : Int} (ht : tlook tab t = some (.slice e k b zs)) (hx : av T x = .imm k len cs)
    (hlo : (lo = none ∧ i = 0) ∨ ∃ y k, lo = some y ∧ av T y = .sc (.int k i)) (hhi : (hi = none ∧ j = len) ∨ ∃ y k, hi = some y ∧ av T y = .sc (.int k j))
    (hb : 0 ≤ i ∧ i ≤ j ∧ j ≤ len) (hn : d < n) (h : WpL P n m G md ops l ⟨(d, .imm k (j.toNat - i.toNat) ((cs.drop (i.toNat * k)).take ((j.toNat - i.toNat) * k))) :: T, O⟩ Q) :
    WpL P n m G md ops ({ dst := some d, op := .slice t x lo hi none, type := tt, pos := pos, after := after, guard := none } :: l) ⟨T, O⟩ Q :=
  WpL.pure rfl rfl hn (fun S ι F a w hr => by
    obtain ⟨hu, inf, z, hinf, _, hk, _, _, hk0, _⟩ := hP.slice ht
    have hi' : (i.toNat : Int) = i := by omega
    have hj' : (j.toNat : Int) = j := by omega
    have e1 : (lo.map a.eval = none ∧ i.toNat = 0) ∨ ∃ k, lo.map a.eval = some (.int k i.toNat) := by
      rcases hlo with ⟨rfl, rfl⟩ | ⟨y, k, rfl, hy⟩
      · exact .inl ⟨rfl, rfl⟩
      · exact .inr ⟨k, by simp [hr.sc hy, hi']⟩
    have e2 : (hi.map a.eval = none ∧ j.toNat = len) ∨ ∃ k, hi.map a.eval = some (.int k j.toNat) := by
      rcases hhi with ⟨rfl, rfl⟩ | ⟨y, k, rfl, hy⟩
      · exact .inl ⟨rfl, by simp⟩
      · exact .inr ⟨k, by simp [hr.sc hy, hj']⟩
    have hv := hr.eval x
    rw [show av (St.mk T O).T x = _ from hx] at hv
    rcases (imm_inv hv).2 with ⟨ad, cap, hpt, hca, h0, hcs0⟩ | ⟨b', o, cap, us, hpt, hS, hc, hl, h1, h2, h3⟩
    · subst hcs0
      have hi0 : i.toNat = 0 := by omega
      have hj0 : j.toNat = 0 := by omega
      cases ad with
      | some ad =>
        subst h0
        have hrun := run_sliceSl hu hinf hk ad 0 cap _ _ i.toNat j.toNat e1 e2 (by omega) w
        refine ⟨_, by simp [execOp, hpt, hrun, Sem.run_bind]; rfl, ?_⟩
        simp only [hi0, hj0, Nat.sub_zero, Nat.zero_mul, List.drop_zero, List.take_zero]
        exact .imm0 ⟨by simp, hca.2⟩ .nil
      | none =>
      obtain rfl := hca.1 rfl
      refine ⟨.slice none 0 0, ?_, ?_⟩
      · have hrun : (Instr.sliceAt t (.slice none 0 0) (lo.map a.eval) (hi.map a.eval) none).run P w = .ok (.slice none 0 0) w := by
          rcases e1 with ⟨h1, _⟩ | ⟨k1, h1⟩ <;> rcases e2 with ⟨h2, _⟩ | ⟨k2, h2⟩ <;>
            simp [h1, h2, hi0, hj0, Instr.sliceAt, Instr.slice, run_underlying hu, Instr.sliceBounds, Instr.sliceBound, asIntOf, run_sizeOf hinf hk, Sem.run_bind]
        simp [execOp, hpt, hrun, Sem.run_bind]
      · simp [hi0, hj0]; exact .imm0 (by simp) .nil
    · have hrun := run_sliceSl hu hinf hk ⟨b', o, none⟩ len cap _ _ i.toNat j.toNat e1 e2 (by omega) w
      refine ⟨_, by simp [execOp, hpt, hrun, Sem.run_bind]; rfl, ?_⟩
      have hsl : LRel S w ι [] ((cs.drop (i.toNat * k)).take ((j.toNat - i.toNat) * k)) ((us.drop (i.toNat * k)).take ((j.toNat - i.toNat) * k)) [] := by
        obtain ⟨g1, hd, hg1, _⟩ := hl.drop (i.toNat * k)
        obtain ⟨g2, ht', hg2, _⟩ := hd.take ((j.toNat - i.toNat) * k)
        have : g2 = [] := List.eq_nil_iff_forall_not_mem.2 fun x hx => by simpa using hg1 x (hg2 x hx)
        rw [this] at ht'; exact ht'
      have hlen : (j.toNat - i.toNat) * k = ((cs.drop (i.toNat * k)).take ((j.toNat - i.toNat) * k)).length := by
        rw [List.length_take, List.length_drop, ← h1, ← Nat.sub_mul]
        have : (j.toNat - i.toNat) * k ≤ (len - i.toNat) * k := Nat.mul_le_mul_right _ (by omega)
        omega
      by_cases hcap : cap = i.toNat
      · have hz : (j.toNat - i.toNat) = 0 := by omega
        have hcs : ((cs.drop (i.toNat * k)).take ((j.toNat - i.toNat) * k)) = [] := by rw [hz]; simp
        rw [if_pos hcap, hcs, hz]
        exact .imm (us := []) hS (by simp) .nil (by simp) (by omega) (by omega) .nil
      · rw [if_neg hcap, addr_add]
        refine .imm hS (fun q hq => ?_) hsl hlen (by omega) (by omega) .nil
        rw [List.length_take, List.length_drop] at hq
        have h4 := hc (i.toNat * k + q) (by omega)
        rw [← Nat.add_assoc] at h4
        rw [h4, List.getElem?_take, if_pos (by omega), List.getElem?_drop]) h

end
end Go.Abs

/- The rules of the operations that make memory or write to it. No condition. -/
namespace Go.Abs
open Go
set_option linter.unusedVariables false
set_option linter.unusedSimpArgs false

/-- A new block, and no other change but draws. -/
structure Adds (w w' : World) (o : Obj) : Prop where
  os : w'.os = w.os
  tape : w'.tape = w.tape
  output : w'.output = w.output
  size : w'.heap.size = w.heap.size + 1
  old : ∀ {b : Nat}, b < w.heap.size → w'.heap[b]? = w.heap[b]?
  new : w'.heap[w.heap.size]? = some o

theorem Adds.push {w w' : World} {o : Obj} (h1 : w'.os = w.os) (h2 : w'.tape = w.tape) (h3 : w'.output = w.output) (h : w'.heap = w.heap.push o) : Adds w w' o :=
  ⟨h1, h2, h3, by rw [h]; simp, fun hb => by rw [h, Array.getElem?_push, if_neg (by omega)], by rw [h, Array.getElem?_push, if_pos rfl]⟩
theorem Adds.alloc (w : World) (o : Obj) : Adds w (w.alloc o) o := .push rfl rfl rfl rfl

def upd {α : Type} (f : Nat → α) (i : Nat) (v : α) : Nat → α := fun j => if j = i then v else f j
theorem upd_same {α : Type} (f : Nat → α) (i : Nat) (v : α) : upd f i v i = v := if_pos rfl
theorem upd_other {α : Type} (f : Nat → α) {i j : Nat} (v : α) (h : j ≠ i) : upd f i v j = f j := if_neg h

theorem getElem?_snoc {α : Type} (O : List α) (ob x : α) (id : Nat) (h : (O ++ [ob])[id]? = some x) : (id < O.length ∧ O[id]? = some x) ∨ (id = O.length ∧ x = ob) := by
  rw [List.getElem?_append] at h
  split at h
  · rename_i hlt; exact .inl ⟨hlt, h⟩
  · rename_i hge
    have : id - O.length = 0 := by
      rcases Nat.eq_zero_or_pos (id - O.length) with h0 | h0
      · exact h0
      · rw [List.getElem?_eq_none (by simp; omega)] at h; simp at h
    rw [this] at h
    simp at h
    exact .inr ⟨by omega, h.symm⟩

theorem RelAt.alloc {n m G S ι F T O a w} (hr : RelAt n m G S ι F ⟨T, O⟩ a w) {w' : World} {ob : AObj} {cur : Array Value} {t : TypeId} {fz : Nat × Nat} (hw : Adds w w' (.cells cur t fz))
    (hl : LRel S w ι O ob.cells (cur.toList.take ob.cells.length) []) (hlen : ob.cells.length ≤ cur.size) (hfz : ∀ i, i < cur.size → ¬ (fz.1 ≤ i ∧ i < fz.2)) (hty : ∀ e, ob.ty = some e → t = e ∧ fz = (0, 0)) :
    RelAt n m G S (upd ι O.length (some (w.heap.size, cur.size))) (upd F O.length [w.heap.size]) ⟨T, O ++ [ob]⟩ a w' := by
  have hlat : Later S w ι O S w' (upd ι O.length (some (w.heap.size, cur.size))) (O ++ [ob]) := by
    refine ⟨fun _ h => h, fun b hb => hw.old (hr.stable b hb), fun id ob' h => ?_⟩
    have hlt : id < O.length := (List.getElem?_eq_some_iff.1 h).1
    exact ⟨ob', by rw [List.getElem?_append_left hlt]; exact h, .inr ⟨rfl, rfl, upd_other _ _ (by omega)⟩⟩
  refine ⟨hr.defers, hr.size, fun t' => (hr.tmps t').mono hlat (by simp), ⟨fun id ob' h => ?_, fun id h => ?_, fun i j hi hj hij b hb => ?_⟩, fun id h b hb => ?_, hr.base, fun b hb => ?_, ?_, fun id h => ?_, ?_⟩
  · rcases getElem?_snoc O ob ob' id h with ⟨hlt, h⟩ | ⟨rfl, rfl⟩
    · rw [upd_other _ _ (by omega), upd_other _ _ (by omega)]
      have ho := hr.objs.obj id ob' h
      have hf := hr.foot id hlt
      unfold ObjAt at ho ⊢
      cases hs : ι id with
      | none => rw [hs] at ho; exact ho
      | some p =>
        obtain ⟨b, k⟩ := p
        rw [hs] at ho
        obtain ⟨cur', t', fz', f', h1, h2, h3, h4, h5, h6, h7⟩ := ho
        refine ⟨cur', t', fz', f', h1, ?_, h3, h4, h5, h6, h7.mono hlat fun b' hb' => hw.old (hf b' (by rw [h1]; simp [hb'])).2.2⟩
        rw [hw.old (hf b (by rw [h1]; simp)).2.2]; exact h2
    · rw [upd_same, upd_same]
      exact ⟨cur, t, fz, [], rfl, hw.new, rfl, hlen, hfz, hty, hl.mono hlat (by simp)⟩
  · simp only [List.length_append, List.length_cons, List.length_nil] at h
    by_cases he : id = O.length
    · subst he; rw [upd_same]; simp
    · rw [upd_other _ _ he]; exact hr.objs.nodup id (by show id < O.length; omega)
  · simp only [List.length_append, List.length_cons, List.length_nil] at hi hj
    by_cases h1 : i = O.length
    · subst h1
      rw [upd_same] at hb
      have hb : b = w.heap.size := by simpa using hb
      rw [upd_other _ _ (by omega)]
      intro hb'
      have := (hr.foot j (by show j < O.length; omega) b hb').2.2
      omega
    · rw [upd_other _ _ h1] at hb
      have hbl := (hr.foot i (by show i < O.length; omega) b hb).2.2
      by_cases h2 : j = O.length
      · subst h2; rw [upd_same]; simp; omega
      · rw [upd_other _ _ h2]; exact hr.objs.apart i j (by show i < O.length; omega) (by show j < O.length; omega) hij b hb
  · simp only [List.length_append, List.length_cons, List.length_nil] at h
    by_cases he : id = O.length
    · subst he
      rw [upd_same] at hb
      have hb : b = w.heap.size := by simpa using hb
      subst hb
      exact ⟨.inr hr.keeps.size, fun hS => by have := hr.stable _ hS; omega, by rw [hw.size]; omega⟩
    · rw [upd_other _ _ he] at hb
      obtain ⟨h1, h2, h3⟩ := hr.foot id (by show id < O.length; omega) b hb
      exact ⟨h1, h2, by rw [hw.size]; omega⟩
  · rw [hw.size]; have := hr.stable b hb; omega
  · exact ⟨hw.os.trans hr.keeps.os, hw.tape.trans hr.keeps.tape, hw.output.trans hr.keeps.output, by rw [hw.size]; have := hr.keeps.size; omega, fun b hb hM => by
      rw [hw.old (by have := hr.keeps.size; omega)]; exact hr.keeps.block b hb hM⟩
  · have hm := hr.mle
    have hm : m ≤ O.length := hm
    rw [upd_other _ _ (by omega)]; exact hr.spots id h
  · have hm : m ≤ O.length := hr.mle
    show m ≤ (O ++ [ob]).length
    simp; omega

/-- The number of the next object. -/
def nid : List AObj → Nat → Option Nat
  | [], k => some k
  | _ :: r, k => nid r (k + 1)

theorem nid_eq {O : List AObj} {k id : Nat} (h : nid O k = some id) : id = k + O.length := by
  induction O generalizing k with
  | nil => simp [nid] at h; simp [h]
  | cons a O ih => rw [nid] at h; have := ih h; simp; omega

theorem ptr_new {S w ι O ob b k off} : VRel S w (upd ι O.length (some (b, k))) (O ++ [ob]) (.ptr O.length ob.ep off) (.pointer (some ⟨b, off, none⟩)) [] :=
  .ptr (by simp) (Nat.le_refl _) (fun _ => by rw [upd_same]; rfl) .nil

/-- A value's cells. -/
def oneB (O : List AObj) : AV → Bool
  | .sc v => v.oneCell'
  | .nilS => true
  | .imm _ _ _ => true
  | .iptr _ _ => true
  | .fn _ _ => true
  | .ifc _ _ => true
  | .own id ep _ _ => match O[id]? with
    | some ob => Nat.beq ob.ep ep
    | none => false
  | .ptr id ep _ => match O[id]? with
    | some ob => Nat.beq ob.ep ep
    | none => false
  | _ => false

theorem one_of {S w ι O V x f} (h : VRel S w ι O V x f) (h1 : oneB O V = true) : x.oneCell' = true ∧ x.cells = #[x] ∧ f = [] := by
  cases h with
  | any => simp [oneB] at h1
  | sc r => cases r; simp only [oneB] at h1; refine ⟨h1, ?_, rfl⟩; cases x <;> simp_all [Value.oneCell', Value.cells]
  | agg => simp [oneB] at h1
  | tup => simp [oneB] at h1
  | nilS r => cases r; exact ⟨rfl, rfl, rfl⟩
  | imm0 _ r => cases r; exact ⟨rfl, rfl, rfl⟩
  | imm _ _ _ _ _ _ r => cases r; exact ⟨rfl, rfl, rfl⟩
  | fre0 => simp [oneB] at h1
  | fre => simp [oneB] at h1
  | own a b c r =>
    cases r
    rename_i id ep off len ob
    simp only [oneB, a] at h1
    have hc := c (Nat.eq_of_beq_eq_true h1).symm
    cases hs : ι id with
    | none => rw [hs] at hc; obtain ⟨h2, _⟩ := hc; subst h2; exact ⟨rfl, rfl, rfl⟩
    | some p => obtain ⟨b', k⟩ := p; rw [hs] at hc; obtain ⟨cap, h2, _⟩ := hc; subst h2; exact ⟨rfl, rfl, rfl⟩
  | ptr a b c r =>
    cases r
    rename_i id ep off ob
    simp only [oneB, a] at h1
    have hc := c (Nat.eq_of_beq_eq_true h1).symm
    cases hs : ι id with
    | none => rw [hs] at hc; exact hc.elim
    | some p => obtain ⟨b', k⟩ := p; rw [hs] at hc; have h2 : x = _ := hc; subst h2; exact ⟨rfl, rfl, rfl⟩
  | iptr _ _ _ r => cases r; exact ⟨rfl, rfl, rfl⟩
  | fn _ r => cases r; exact ⟨rfl, rfl, rfl⟩
  | ifc _ r => cases r; exact ⟨rfl, rfl, rfl⟩

/-- The cells of a value: a struct's, or itself. -/
def cellsV (O : List AObj) : AV → Option (List AV)
  | .agg ds => some ds
  | V => match oneB O V with
    | true => some [V]
    | false => none

theorem cellsV_rel {S w ι O V x f ds} (h : VRel S w ι O V x f) (hc : cellsV O V = some ds) : LRel S w ι O ds x.cells.toList f := by
  by_cases ha : ∃ es, V = .agg es
  · obtain ⟨es, rfl⟩ := ha
    simp only [cellsV, Option.some.injEq] at hc
    subst hc
    obtain ⟨us, rfl, hl⟩ := LRel.agg_inv h
    simpa [Value.cells] using hl
  · have h1 : oneB O V = true ∧ ds = [V] := by
      cases V <;> simp_all [cellsV] <;> split at hc <;> simp_all
    obtain ⟨_, h2, rfl⟩ := one_of h h1.1
    rw [h1.2, h2]
    simpa using h

section
variable {P : Program} {n m : Nat} {G : Ctx} {T : List (Nat × AV)} {O : List AObj} {Q : Exit → St → Prop} {ops : Array Oper} {l : List Oper} {d : Nat} {tt : TypeId} {pos : String} {after : Array Edge} {tab : List (Nat × Ty)}

/-- A variable of its own for a value ('box'); one that holds the zero value ('alloc'). -/
theorem WpL.box {t : Nat} {x : Operand} {V : AV} {ds : List AV} {id : Nat} (hx : (av T x).force = some V) (hd : cellsV O V = some ds) (hid : nid O 0 = some id) (hn : d < n)
    (h : WpL P n m G false ops l ⟨(d, .ptr id 0 0) :: T, O ++ [⟨ds, 0, 0, none⟩]⟩ Q) :
    WpL P n m G false ops ({ dst := some d, op := .box t x, type := tt, pos := pos, after := after, guard := none } :: l) ⟨T, O⟩ Q :=
  WpL.value rfl (fun a w hr => by
    obtain ⟨S, ι, F, hr⟩ := hr
    have hid : id = O.length := by have := nid_eq hid; omega
    subst hid
    have hv := hr.eval x
    rw [show av (St.mk T O).T x = V from AV.force_eq hx] at hv
    have hl := cellsV_rel hv hd
    have hlen := hl.len
    have hr' := hr.alloc (ob := ⟨ds, 0, 0, none⟩) (Adds.alloc w (.cells (a.eval x).cells t)) (by
      have : (a.eval x).cells.toList.take ds.length = (a.eval x).cells.toList := List.take_of_length_le (by omega)
      rw [this]; exact hl) (by simp at hlen ⊢; omega) (by simp) (by simp)
    refine ⟨.pointer (some ⟨w.heap.size, 0, none⟩), w.alloc (.cells (a.eval x).cells t), ?_, _, _, _, hr'.put hn ptr_new⟩
    simp [execOp, Instr.box, newVar, newRow, newObj, Sem.run_bind, Sem.run]) h

theorem WpL.allocStruct (hP : TabOk P tab) {t k : Nat} {offs : List Nat} {zs : List AV} {id : Nat} (ht : tlook tab t = some (.struct offs k zs)) (hid : nid O 0 = some id) (hn : d < n)
    (h : WpL P n m G false ops l ⟨(d, .ptr id 0 0) :: T, O ++ [⟨zs, 0, 0, none⟩]⟩ Q) :
    WpL P n m G false ops ({ dst := some d, op := .alloc t, type := tt, pos := pos, after := after, guard := none } :: l) ⟨T, O⟩ Q :=
  WpL.value rfl (fun a w hr => by
    obtain ⟨S, ι, F, hr⟩ := hr
    have hid : id = O.length := by have := nid_eq hid; omega
    subst hid
    obtain ⟨fs, hu, ⟨z, hz, hk, rfl⟩, _⟩ := hP.ty ht
    obtain ⟨i, hi, hi2⟩ : ∃ i, P.info? t = some i ∧ i.zero = some z := by
      cases hh : P.info? t with
      | none => simp [hh] at hz
      | some i => rw [hh] at hz; simp at hz; exact ⟨i, rfl, hz.1⟩
    have hr' := hr.alloc (ob := ⟨z.cells.toList.map zav, 0, 0, none⟩) (Adds.alloc w (.cells z.cells t)) (by
      have : z.cells.toList.take (z.cells.toList.map zav).length = z.cells.toList := List.take_of_length_le (by simp)
      rw [this]; exact lrel_zav _) (by simp) (by simp) (by simp)
    refine ⟨.pointer (some ⟨w.heap.size, 0, none⟩), w.alloc (.cells z.cells t), ?_, _, _, _, hr'.put hn ptr_new⟩
    simp [execOp, Instr.alloc, zeroValue, typeInfo, hi, hi2, newVar, newRow, newObj, Sem.run_bind, Sem.run]) h

def Ty.zero : Ty → Option AV
  | .int k => some (.sc (.int k 0))
  | .bool => some (.sc (.bool false))
  | .string => some (.sc (.string ⟨[].toArray⟩))
  | .slice _ _ _ _ => some .nilS
  | .ptr => some (.sc (.pointer none))
  | .func => some (.sc .nilFunc)
  | .iface => some (.sc .nilIface)
  | _ => none

theorem Ty.zero_info {t : Nat} {ty : Ty} {V : AV} (h : TyOk P t ty) (hz : ty.zero = some V) : ∃ i v, P.info? t = some i ∧ i.zero = some v ∧ v.cells = #[v] ∧ i.size = 1 ∧ (∀ S w ι O, VRel S w ι O V v []) := by
  have key : ∀ v, ScOk P t v → ∃ i, P.info? t = some i ∧ i.zero = some v ∧ i.size = 1 := by
    intro v hv
    unfold ScOk at hv
    cases hh : P.info? t with
    | none => simp [hh] at hv
    | some i => rw [hh] at hv; simp at hv; exact ⟨i, rfl, hv.1, hv.2⟩
  cases ty <;> simp [Ty.zero] at hz <;> subst hz
  case int k => obtain ⟨i, a, b, c⟩ := key _ h.2; exact ⟨i, _, a, b, rfl, c, fun _ _ _ _ => .sc .nil⟩
  case bool => obtain ⟨i, a, b, c⟩ := key _ h.2; exact ⟨i, _, a, b, rfl, c, fun _ _ _ _ => .sc .nil⟩
  case string => obtain ⟨i, a, b, c⟩ := key _ h.2; exact ⟨i, _, a, b, rfl, c, fun _ _ _ _ => .sc .nil⟩
  case slice => obtain ⟨i, a, b, c⟩ := key _ h.2.1; exact ⟨i, _, a, b, rfl, c, fun _ _ _ _ => .nilS .nil⟩
  case ptr => obtain ⟨i, a, b, c⟩ := key _ h.2; exact ⟨i, _, a, b, rfl, c, fun _ _ _ _ => .sc .nil⟩
  case func => obtain ⟨i, a, b, c⟩ := key _ h.2; exact ⟨i, _, a, b, rfl, c, fun _ _ _ _ => .sc .nil⟩
  case iface => obtain ⟨i, a, b, c⟩ := key _ h.2; exact ⟨i, _, a, b, rfl, c, fun _ _ _ _ => .sc .nil⟩

theorem WpL.allocPlain (hP : TabOk P tab) {t : Nat} {ty : Ty} {V : AV} {id : Nat} (ht : tlook tab t = some ty) (hz : ty.zero = some V) (hid : nid O 0 = some id) (hn : d < n)
    (h : WpL P n m G false ops l ⟨(d, .ptr id 0 0) :: T, O ++ [⟨[V], 0, 0, none⟩]⟩ Q) :
    WpL P n m G false ops ({ dst := some d, op := .alloc t, type := tt, pos := pos, after := after, guard := none } :: l) ⟨T, O⟩ Q :=
  WpL.value rfl (fun a w hr => by
    obtain ⟨S, ι, F, hr⟩ := hr
    have hid : id = O.length := by have := nid_eq hid; omega
    subst hid
    obtain ⟨i, v, hi, hi2, hc, _, hV⟩ := Ty.zero_info (hP.ty ht) hz
    have hr' := hr.alloc (ob := ⟨[V], 0, 0, none⟩) (Adds.alloc w (.cells #[v] t)) (by simpa using hV _ _ _ _) (by simp) (by simp) (by simp)
    refine ⟨.pointer (some ⟨w.heap.size, 0, none⟩), w.alloc (.cells #[v] t), ?_, _, _, _, hr'.put hn ptr_new⟩
    simp [execOp, Instr.alloc, zeroValue, typeInfo, hi, hi2, newVar, newRow, newObj, hc, Sem.run_bind, Sem.run]) h
end
end Go.Abs

/- The rules of stores, slice literals, make and append. No condition. -/
namespace Go.Abs
open Go
set_option linter.unusedVariables false
set_option linter.unusedSimpArgs false

theorem RelAt.set {n m G S ι F T O a w} (hr : RelAt n m G S ι F ⟨T, O⟩ a w) {id b k off : Nat} {ob : AObj} {V : AV} {x : Value} (ho : O[id]? = some ob) (hs : ι id = some (b, k)) (hoff : off < ob.cells.length) (hv : VRel S w ι O V x []) :
    w.cell? ⟨b, off, none⟩ ≠ none ∧ w.frozen? ⟨b, off, none⟩ = false ∧ ∃ F', RelAt n m G S ι F' ⟨T, O.set id { ob with cells := ob.cells.set off V }⟩ a (w.setCell ⟨b, off, none⟩ x) := by
  have hid : id < O.length := (List.getElem?_eq_some_iff.1 ho).1
  have hob := hr.objs.obj id ob ho
  unfold ObjAt at hob
  rw [hs] at hob
  obtain ⟨cur, t, fz, f', hF, hh, hk, hle, hfz, hty, hl⟩ := hob
  have hoffk : off < cur.size := by omega
  refine ⟨by rw [cell_of_row w b off cur t fz hh]; simp [hoffk], ?_, ?_⟩
  · have := hfz off (by omega)
    simp only [World.frozen?, hh]
    simpa using this
  have hbF : b ∈ F id := by rw [hF]; simp
  have hnS : ¬ S b := (hr.foot id hid b hbF).2.1
  have hnd : (b :: f').Nodup := by rw [← hF]; exact hr.objs.nodup id hid
  have hbl : b < w.heap.size := (hr.foot id hid b hbF).2.2
  have hother : ∀ b', b' ≠ b → (w.setCell ⟨b, off, none⟩ x).heap[b']? = w.heap[b']? := fun b' hb' => heap_setCell_other w _ b' x hb'
  have hnew : (w.setCell ⟨b, off, none⟩ x).heap[b]? = some (.cells (cur.setIfInBounds off x) t fz) := by
    simp [World.setCell, Array.getElem?_modify, hh]
  have hlat : Later S w ι O S (w.setCell ⟨b, off, none⟩ x) ι (O.set id { ob with cells := ob.cells.set off V }) := by
    refine ⟨fun _ h => h, fun b' hb' => hother b' (fun e => hnS (e ▸ hb')), fun id' ob' h => ?_⟩
    by_cases he : id' = id
    · subst he
      rw [ho] at h; cases h
      exact ⟨{ ob with cells := ob.cells.set off V }, by rw [List.getElem?_set_self hid], .inr ⟨rfl, rfl, rfl⟩⟩
    · exact ⟨ob', by rw [List.getElem?_set_ne (by omega)]; exact h, .inr ⟨rfl, rfl, rfl⟩⟩
  obtain ⟨e, hle', hem, hend⟩ := hl.set hv off
  have hlen2 : (ob.cells.set off V).length = ob.cells.length := by simp
  have hnF : ∀ j, j < O.length → j ≠ id → b ∉ F j := fun j hj hji hb => hr.objs.apart id j hid hj (by omega) b hbF hb
  refine ⟨upd F id (b :: e), hr.defers, hr.size, fun t' => (hr.tmps t').mono hlat (by simp), ⟨fun id' ob' h => ?_, fun id' h => ?_, fun i j hi hj hij b' hb' => ?_⟩, fun id' h b' hb' => ?_, hr.base, fun b' hb' => ?_, ?_, hr.spots, ?_⟩
  · by_cases he : id' = id
    · subst he
      rw [upd_same]
      have h : (O.set id' { ob with cells := ob.cells.set off V })[id']? = some ob' := h
      rw [List.getElem?_set_self hid] at h
      cases h
      unfold ObjAt
      rw [hs]
      refine ⟨_, t, fz, e, rfl, hnew, by simpa using hk, by simpa using hle, hfz, hty, ?_⟩
      have e2 : (cur.setIfInBounds off x).toList.take (ob.cells.set off V).length = (cur.toList.take ob.cells.length).set off x := by
        rw [hlen2, Array.toList_setIfInBounds, List.take_set]
      rw [e2]
      refine LRel.mono hlat hle' fun b' hb' => hother b' ?_
      rintro rfl
      rcases hem b' hb' with h | h
      · exact (List.nodup_cons.1 hnd).1 h
      · simp at h
    · rw [upd_other _ _ he]
      have h : (O.set id { ob with cells := ob.cells.set off V })[id']? = some ob' := h
      rw [List.getElem?_set_ne (by omega)] at h
      have hlt : id' < O.length := (List.getElem?_eq_some_iff.1 h).1
      have ho' := hr.objs.obj id' ob' h
      unfold ObjAt at ho' ⊢
      cases hs' : ι id' with
      | none => rw [hs'] at ho'; exact ho'
      | some p =>
        obtain ⟨b2, k2⟩ := p
        rw [hs'] at ho'
        obtain ⟨cur', t', fz', f2, h1, h2, h3, h4, h5, h6, h7⟩ := ho'
        have hne : ∀ b', b' ∈ F id' → b' ≠ b := fun b' hb' e => hnF id' hlt he (e ▸ hb')
        exact ⟨cur', t', fz', f2, h1, by rw [hother b2 (hne b2 (by rw [h1]; simp))]; exact h2, h3, h4, h5, h6, h7.mono hlat fun b' hb' => hother b' (hne b' (by rw [h1]; simp [hb']))⟩
  · by_cases he : id' = id
    · subst he; rw [upd_same]
      refine List.nodup_cons.2 ⟨fun hb => ?_, hend (List.nodup_cons.1 hnd).2 (by simp) (by simp)⟩
      rcases hem b hb with h | h
      · exact (List.nodup_cons.1 hnd).1 h
      · simp at h
    · rw [upd_other _ _ he]; exact hr.objs.nodup id' (by simpa using h)
  · have sub : ∀ b2, b2 ∈ b :: e → b2 ∈ F id := by
      intro b2 hb2
      rw [hF]
      rcases List.mem_cons.1 hb2 with rfl | hb2
      · simp
      · rcases hem b2 hb2 with h | h
        · simp [h]
        · simp at h
    have hi2 : i < O.length := by simpa using hi
    have hj2 : j < O.length := by simpa using hj
    by_cases h1 : i = id
    · subst h1
      rw [upd_same] at hb'
      rw [upd_other _ _ (by omega)]
      exact hr.objs.apart i j hi2 hj2 hij b' (sub b' hb')
    · rw [upd_other _ _ h1] at hb'
      by_cases h2 : j = id
      · subst h2
        rw [upd_same]
        exact fun h => hr.objs.apart i j hi2 hj2 hij b' hb' (sub b' h)
      · rw [upd_other _ _ h2]; exact hr.objs.apart i j hi2 hj2 hij b' hb'
  · have h3 : id' < O.length := by simpa using h
    rw [World.size_setCell]
    by_cases he : id' = id
    · subst he
      rw [upd_same] at hb'
      refine hr.foot id' h3 b' ?_
      rw [hF]
      rcases List.mem_cons.1 hb' with rfl | hb2
      · simp
      · rcases hem b' hb2 with h | h
        · simp [h]
        · simp at h
    · rw [upd_other _ _ he] at hb'
      exact hr.foot id' h3 b' hb'
  · rw [World.size_setCell]; exact hr.stable b' hb'
  · refine ⟨hr.keeps.os, hr.keeps.tape, hr.keeps.output, by rw [World.size_setCell]; exact hr.keeps.size, fun b' hb' hM => ?_⟩
    rw [hother b' ?_]
    · exact hr.keeps.block b' hb' hM
    · rintro rfl
      rcases (hr.foot id hid b' hbF).1 with h | h
      · exact hM h
      · omega
  · have := hr.mle
    simpa using this

/-- Cells are put into a list of cells from a place on. -/
def setL (cs : List AV) (off : Nat) : List AV → List AV
  | [] => cs
  | V :: Vs => setL (cs.set off V) (off + 1) Vs

theorem length_setL (cs : List AV) (off : Nat) (Vs : List AV) : (setL cs off Vs).length = cs.length := by
  induction Vs generalizing cs off with
  | nil => rfl
  | cons V Vs ih => rw [setL, ih]; simp

theorem one_set {O : List AObj} {id : Nat} {ob : AObj} {cs : List AV} (ho : O[id]? = some ob) (V : AV) : oneB (O.set id { ob with cells := cs }) V = oneB O V := by
  have hid : id < O.length := (List.getElem?_eq_some_iff.1 ho).1
  have key : ∀ id' : Nat, ((O.set id { ob with cells := cs })[id']?).map AObj.ep = (O[id']?).map AObj.ep := by
    intro id'
    by_cases he : id' = id
    · subst he; rw [List.getElem?_set_self hid, ho]; rfl
    · rw [List.getElem?_set_ne (by omega)]
  cases V <;> simp only [oneB]
  case own id' ep off len =>
    have := key id'
    cases h1 : (O.set id { ob with cells := cs })[id']? <;> cases h2 : O[id']? <;> rw [h1, h2] at this <;> simp_all
  case ptr id' ep off =>
    have := key id'
    cases h1 : (O.set id { ob with cells := cs })[id']? <;> cases h2 : O[id']? <;> rw [h1, h2] at this <;> simp_all

theorem store_cells (P : Program) {n m G T a} {id b k : Nat} : ∀ (Vs : List AV) (vs : List Value) (i off : Nat) (O : List AObj) (ob : AObj) (S : Nat → Prop) (ι : Nat → Spot) (F : Nat → List Nat) (w : World),
    RelAt n m G S ι F ⟨T, O⟩ a w → O[id]? = some ob → ι id = some (b, k) → LRel S w ι O Vs vs [] → Vs.all (oneB O) = true → off + i + Vs.length ≤ ob.cells.length →
    ∃ w' F', (storeCells ⟨b, off, none⟩ vs i).run P w = .ok () w' ∧ RelAt n m G S ι F' ⟨T, O.set id { ob with cells := setL ob.cells (off + i) Vs }⟩ a w' := by
  intro Vs
  induction Vs with
  | nil =>
    intro vs i off O ob S ι F w hr ho hs hl hone hle
    cases hl
    refine ⟨w, F, by simp [storeCells], ?_⟩
    have : O.set id { ob with cells := setL ob.cells (off + i) [] } = O := by
      apply List.ext_getElem?
      intro j
      by_cases he : j = id
      · subst he; rw [List.getElem?_set_self (List.getElem?_eq_some_iff.1 ho).1, ho]; rfl
      · rw [List.getElem?_set_ne (by omega)]
    rw [this]; exact hr
  | cons V Vs ih =>
    intro vs i off O ob S ι F w hr ho hs hl hone hle
    obtain ⟨v, vs', f1, f2, rfl, hv, hl', hf⟩ := hl.uncons
    obtain ⟨rfl, rfl⟩ : f1 = [] ∧ f2 = [] := by simpa using hf
    simp only [List.all_cons, Bool.and_eq_true] at hone
    simp only [List.length_cons] at hle
    obtain ⟨hc, hfr, F1, hr1⟩ := hr.set ho hs (off := off + i) (by omega) hv
    have hid : id < O.length := (List.getElem?_eq_some_iff.1 ho).1
    have h1 := (one_of hv hone.1).1
    have hlat : Later S w ι O S (w.setCell ⟨b, off + i, none⟩ v) ι (O.set id { ob with cells := ob.cells.set (off + i) V }) := by
      refine ⟨fun _ h => h, fun b' hb' => heap_setCell_other w _ b' v ?_, fun id' ob' h => ?_⟩
      · rintro rfl
        have hob := hr.objs.obj id ob ho
        unfold ObjAt at hob
        rw [hs] at hob
        obtain ⟨_, _, _, f', hF, _⟩ := hob
        exact (hr.foot id hid b' (by rw [hF]; simp)).2.1 hb'
      · by_cases he : id' = id
        · subst he
          rw [ho] at h; cases h
          exact ⟨{ ob with cells := ob.cells.set (off + i) V }, by rw [List.getElem?_set_self hid], .inr ⟨rfl, rfl, rfl⟩⟩
        · exact ⟨ob', by rw [List.getElem?_set_ne (by omega)]; exact h, .inr ⟨rfl, rfl, rfl⟩⟩
    obtain ⟨w', F', hrun, hr'⟩ := ih vs' (i + 1) off (O.set id { ob with cells := ob.cells.set (off + i) V }) { ob with cells := ob.cells.set (off + i) V } S ι F1 _ hr1
      (by rw [List.getElem?_set_self hid]) hs (hl'.mono hlat (by simp)) (by
        rw [List.all_eq_true] at *
        intro x hx; rw [one_set ho]; exact hone.2 x hx) (by simp; omega)
    refine ⟨w', F', ?_, ?_⟩
    · obtain ⟨u, hu⟩ := Option.ne_none_iff_exists'.1 hc
      simp only [storeCells, addr_add, Sem.run_bind, run_store P w _ v .plain h1, hu, hfr, Result.andThen_ok]
      exact hrun
    · rw [List.set_set] at hr'
      rw [setL]
      rw [show off + (i + 1) = off + i + 1 from by omega] at hr'
      exact hr'

section
variable {P : Program} {n m : Nat} {G : Ctx} {T : List (Nat × AV)} {O : List AObj} {Q : Exit → St → Prop} {ops : Array Oper} {l : List Oper} {d : Nat} {tt : TypeId} {pos : String} {after : Array Edge} {tab : List (Nat × Ty)}

def Ty.cellsN : Ty → Option Nat
  | .struct _ k _ => some k
  | .other => none
  | _ => some 1

theorem Ty.cells_info {t k : Nat} {ty : Ty} (h : TyOk P t ty) (hz : ty.cellsN = some k) : ∃ i, P.info? t = some i ∧ i.size = k := by
  have key : ∀ v, ScOk P t v → ∃ i, P.info? t = some i ∧ i.size = 1 := by
    intro v hv
    unfold ScOk at hv
    cases hh : P.info? t with
    | none => simp [hh] at hv
    | some i => rw [hh] at hv; simp at hv; exact ⟨i, rfl, hv.2⟩
  cases ty <;> simp [Ty.cellsN] at hz <;> subst hz
  case int k => exact key _ h.2
  case bool => exact key _ h.2
  case string => exact key _ h.2
  case slice => exact key _ h.2.1
  case ptr => exact key _ h.2
  case func => exact key _ h.2
  case iface => exact key _ h.2
  case struct =>
    obtain ⟨fs, hu, ⟨z, hz, _⟩, _⟩ := h
    cases hh : P.info? t with
    | none => simp [hh] at hz
    | some i => rw [hh] at hz; simp at hz; exact ⟨i, rfl, hz.2⟩

/-- A store: into a variable or an element of the call's own. -/
theorem WpL.store (hP : TabOk P tab) {t : Nat} {ty : Ty} {x y : Operand} {id ep off : Nat} {ob : AObj} {V : AV} {Vs : List AV} (ht : tlook tab t = some ty) (hx : av T x = .ptr id ep off)
    (ho : O[id]? = some ob) (he : ob.ep = ep) (hy : (av T y).force = some V) (hV : cellsV O V = some Vs) (hk : ty.cellsN = some Vs.length) (hone : Vs.all (oneB O) = true) (hle : off + Vs.length ≤ ob.cells.length)
    (h : WpL P n m G false ops l ⟨T, O.set id { ob with cells := setL ob.cells off Vs }⟩ Q) :
    WpL P n m G false ops ({ dst := none, op := .store t x y, type := tt, pos := pos, after := after, guard := none } :: l) ⟨T, O⟩ Q :=
  WpL.op rfl (fun a w hr => by
    obtain ⟨S, ι, F, hr⟩ := hr
    have hv := hr.eval x
    rw [show av (St.mk T O).T x = _ from hx] at hv
    have hw := hr.eval y
    rw [show av (St.mk T O).T y = V from AV.force_eq hy] at hw
    have hl := cellsV_rel hw hV
    cases hv with
    | ptr q1 q2 q3 r =>
      rw [show (St.mk T O).O[id]? = some ob from ho] at q1
      cases q1
      have hc := q3 he.symm
      cases hs : ι id with
      | none => rw [hs] at hc; exact hc.elim
      | some p =>
        obtain ⟨b, kk⟩ := p
        rw [hs] at hc
        have hc : a.eval x = .pointer (some ⟨b, off, none⟩) := hc
        obtain ⟨w', F', hrun, hr'⟩ := store_cells P (id := id) (b := b) (k := kk) Vs (a.eval y).cells.toList 0 off O ob S ι F w hr ho hs hl hone (by omega)
        obtain ⟨i, hi, hik⟩ := Ty.cells_info (hP.ty ht) hk
        have hsz : (a.eval y).cells.size = Vs.length := by have := hl.len; simpa using this.symm
        have hex : (execOp a.eval { dst := none, op := .store t x y, type := tt, pos := pos, after := after, guard := none }).run P w = .ok .skip w' := by
          simp [execOp, Instr.storeAt, hc, Instr.sureAddr, storeVar, run_sizeOf hi hik, hsz, hrun, Sem.run_bind]
        unfold Oper.wp
        rw [hex]
        exact ⟨S, ι, F', hr'⟩) h
end
end Go.Abs

/- The rules of slice literals, make and append. No condition. -/
namespace Go.Abs
open Go
set_option linter.unusedVariables false
set_option linter.unusedSimpArgs false

/-- An object is changed, and perhaps moved: what must hold. -/
theorem RelAt.renew {n m G S ι F T O a w} (hr : RelAt n m G S ι F ⟨T, O⟩ a w) {w' : World} {id : Nat} {ob ob' : AObj} {s' : Spot} {f' : List Nat} (ho : O[id]? = some ob) (hm : m ≤ id) (hep : ob.ep < ob'.ep)
    (hos : w'.os = w.os) (htape : w'.tape = w.tape) (hout : w'.output = w.output) (hsize : w.heap.size ≤ w'.heap.size)
    (hold : ∀ b', b' < w.heap.size → b' ∉ F id ∨ b' ∈ f' ∧ (∀ k, s' ≠ some (b', k)) → w'.heap[b']? = w.heap[b']?)
    (hobj : Later S w ι O S w' (upd ι id s') (O.set id ob') → ObjAt S w' (upd ι id s') (O.set id ob') ob' s' f') (hnd : f'.Nodup)
    (hf : ∀ b', b' ∈ f' → b' ∈ F id ∨ (w.heap.size ≤ b' ∧ b' < w'.heap.size)) :
    Later S w ι O S w' (upd ι id s') (O.set id ob') ∧ RelAt n m G S (upd ι id s') (upd F id f') ⟨T, O.set id ob'⟩ a w' := by
  have hid : id < O.length := (List.getElem?_eq_some_iff.1 ho).1
  have hlat : Later S w ι O S w' (upd ι id s') (O.set id ob') := by
    refine ⟨fun _ h => h, fun b hb => hold b (hr.stable b hb) (.inl fun h => (hr.foot id hid b h).2.1 hb), fun id' ob2 h => ?_⟩
    by_cases he : id' = id
    · subst he
      rw [ho] at h; cases h
      exact ⟨ob', by rw [List.getElem?_set_self hid], .inl hep⟩
    · exact ⟨ob2, by rw [List.getElem?_set_ne (by omega)]; exact h, .inr ⟨rfl, rfl, upd_other _ _ he⟩⟩
  refine ⟨hlat, hr.defers, hr.size, fun t' => (hr.tmps t').mono hlat (by simp), ⟨fun id' ob2 h => ?_, fun id' h => ?_, fun i j hi hj hij b' hb' => ?_⟩, fun id' h b' hb' => ?_, hr.base, fun b' hb' => ?_, ?_, fun id' h => ?_, ?_⟩
  · by_cases he : id' = id
    · subst he
      rw [upd_same, upd_same]
      have h : (O.set id' ob')[id']? = some ob2 := h
      rw [List.getElem?_set_self hid] at h
      cases h
      exact hobj hlat
    · rw [upd_other _ _ he, upd_other _ _ he]
      have h : (O.set id ob')[id']? = some ob2 := h
      rw [List.getElem?_set_ne (by omega)] at h
      have hlt : id' < O.length := (List.getElem?_eq_some_iff.1 h).1
      have ho' := hr.objs.obj id' ob2 h
      unfold ObjAt at ho' ⊢
      cases hs' : ι id' with
      | none => rw [hs'] at ho'; exact ho'
      | some p =>
        obtain ⟨b2, k2⟩ := p
        rw [hs'] at ho'
        obtain ⟨cur', t', fz', f2, h1, h2, h3, h4, h5, h6, h7⟩ := ho'
        have key : ∀ b', b' ∈ F id' → w'.heap[b']? = w.heap[b']? := fun b' hb' =>
          hold b' (hr.foot id' hlt b' hb').2.2 (.inl fun h => hr.objs.apart id' id hlt hid he b' hb' h)
        exact ⟨cur', t', fz', f2, h1, by rw [key b2 (by rw [h1]; simp)]; exact h2, h3, h4, h5, h6, h7.mono hlat fun b' hb' => key b' (by rw [h1]; simp [hb'])⟩
  · by_cases he : id' = id
    · subst he; rw [upd_same]; exact hnd
    · rw [upd_other _ _ he]; exact hr.objs.nodup id' (by simpa using h)
  · have hi2 : i < O.length := by simpa using hi
    have hj2 : j < O.length := by simpa using hj
    have key : ∀ j, j < O.length → j ≠ id → ∀ b', b' ∈ f' → b' ∉ F j := by
      intro j hj hne b' hb' hbj
      rcases hf b' hb' with h | ⟨h, _⟩
      · exact hr.objs.apart id j hid hj (by omega) b' h hbj
      · have := (hr.foot j hj b' hbj).2.2; omega
    by_cases h1 : i = id
    · subst h1
      rw [upd_same] at hb'
      rw [upd_other _ _ (by omega)]
      exact key j hj2 (by omega) b' hb'
    · rw [upd_other _ _ h1] at hb'
      by_cases h2 : j = id
      · subst h2
        rw [upd_same]
        exact fun h => key i hi2 h1 b' h hb'
      · rw [upd_other _ _ h2]; exact hr.objs.apart i j hi2 hj2 hij b' hb'
  · have h3 : id' < O.length := by simpa using h
    by_cases he : id' = id
    · subst he
      rw [upd_same] at hb'
      rcases hf b' hb' with h | ⟨h, h'⟩
      · obtain ⟨q1, q2, q3⟩ := hr.foot id' h3 b' h
        exact ⟨q1, q2, by omega⟩
      · exact ⟨.inr (by have := hr.keeps.size; omega), fun hS => by have := hr.stable b' hS; omega, h'⟩
    · rw [upd_other _ _ he] at hb'
      obtain ⟨q1, q2, q3⟩ := hr.foot id' h3 b' hb'
      exact ⟨q1, q2, by omega⟩
  · have := hr.stable b' hb'; omega
  · refine ⟨hos.trans hr.keeps.os, htape.trans hr.keeps.tape, hout.trans hr.keeps.output, by have := hr.keeps.size; omega, fun b' hb' hM => ?_⟩
    rw [hold b' (by have := hr.keeps.size; omega) (.inl fun h => ?_)]
    · exact hr.keeps.block b' hb' hM
    · rcases (hr.foot id hid b' h).1 with h | h
      · exact hM h
      · omega
  · rw [upd_other _ _ (by omega)]; exact hr.spots id' h
  · have := hr.mle
    simpa using this

/-- The cells of a slice that is read whole, and how many elements it has. -/
def srcB (O : List AObj) : AV → Option (List AV × Nat)
  | .nilS => some ([], 0)
  | .imm _ len cs => some (cs, len)
  | .own id ep 0 len => match O[id]? with
    | some ob => match Nat.beq ob.ep ep with
      | true => some (ob.cells, len)
      | false => none
    | none => none
  | _ => none

theorem src_cells {S w ι O F V x ys c k} (ho : ORel S w ι O F) (hv : VRel S w ι O V x []) (hs : srcB O V = some (ys, c)) (hlen : ys.length = c * k) (hone : ys.all (oneB O) = true) :
    ∃ us, LRel S w ι O ys us [] ∧ (∀ u, u ∈ us → u.oneCell' = true) ∧ ((∃ ad cap, x = .slice ad 0 cap ∧ ((ad = none → cap = 0) ∧ cap ≤ maxLen) ∧ c = 0 ∧ us = []) ∨
      ∃ b o cap, x = .slice (some ⟨b, o, none⟩) c cap ∧ (∀ i, i < us.length → w.cell? ⟨b, o + i, none⟩ = us[i]?)) := by
  have ones : ∀ us f, LRel S w ι O ys us f → f = [] ∧ ∀ u, u ∈ us → u.oneCell' = true := by
    intro us f hl
    clear hs hlen
    induction ys generalizing us f with
    | nil => cases hl; exact ⟨rfl, by simp⟩
    | cons y ys ih =>
      obtain ⟨v, vs', f1, f2, rfl, hv, hr, rfl⟩ := hl.uncons
      simp only [List.all_cons, Bool.and_eq_true] at hone
      obtain ⟨h1, h2⟩ := ih hone.2 _ _ hr
      have h3 := one_of hv hone.1
      refine ⟨by rw [h3.2.2, h1]; rfl, fun u hu => ?_⟩
      rcases List.mem_cons.1 hu with rfl | hu
      · exact h3.1
      · exact h2 u hu
  unfold srcB at hs
  split at hs
  · simp only [Option.some.injEq, Prod.mk.injEq] at hs
    obtain ⟨rfl, rfl⟩ := hs
    exact ⟨[], .nil, by simp, .inl ⟨_, _, (LRel.slice_len hv).2.2 rfl, by simp, rfl, rfl⟩⟩
  · simp only [Option.some.injEq, Prod.mk.injEq] at hs
    obtain ⟨rfl, rfl⟩ := hs
    rcases (imm_inv hv).2 with ⟨ad, cp, h1, h0, h2, h3⟩ | ⟨b, o, cap, us, h1, hS, hc, hl, _⟩
    · subst h3; exact ⟨[], .nil, by simp, .inl ⟨_, _, h1, h0, h2, rfl⟩⟩
    · exact ⟨us, hl.lift, (ones _ _ hl.lift).2, .inr ⟨b, o, cap, h1, hc⟩⟩
  · rename_i id ep len
    split at hs
    · rename_i ob hob
      split at hs
      · rename_i hep
        simp only [Option.some.injEq, Prod.mk.injEq] at hs
        obtain ⟨rfl, rfl⟩ := hs
        have hep := Nat.eq_of_beq_eq_true hep
        cases hv with
        | own q1 q2 q3 r =>
          rw [hob] at q1
          cases q1
          have hc := q3 hep.symm
          have hob' := ho.obj _ _ hob
          unfold ObjAt at hob'
          cases hs : ι id with
          | none =>
            rw [hs] at hc hob'
            obtain ⟨h1, _, h3⟩ := hc
            refine ⟨[], by rw [hob'.1]; exact .nil, by simp, .inl ⟨_, _, h1, by simp, h3, rfl⟩⟩
          | some p =>
            obtain ⟨b, kk⟩ := p
            rw [hs] at hc hob'
            obtain ⟨cap, h1, _⟩ := hc
            obtain ⟨cur, t, fz, f', _, hh, hk, hle, _, _, hl⟩ := hob'
            obtain ⟨hf', h2⟩ := ones _ _ hl
            subst hf'
            refine ⟨_, hl, h2, .inr ⟨b, 0, cap, h1, fun i hi => ?_⟩⟩
            rw [Nat.zero_add, cell_of_row w b i cur t fz hh, List.getElem?_take, if_pos (by have := hl.len; omega)]
            simp
      · simp at hs
    · simp at hs
  · simp at hs

theorem own_new {S w ι O ob b k c cap} (hk : cap * ob.size = k) (hc : c ≤ cap) (hm : cap ≤ maxLen) : VRel S w (upd ι O.length (some (b, k))) (O ++ [ob]) (.own O.length ob.ep 0 c) (.slice (some ⟨b, 0, none⟩) c cap) [] :=
  .own (by simp) (Nat.le_refl _) (fun _ => by rw [upd_same]; exact ⟨cap, rfl, by omega, hc, hm⟩) .nil

theorem adds_drew_alloc (w : World) (o : Obj) : Adds w (w.drew.alloc o) o := .push rfl rfl rfl rfl

theorem zeroCells_size (z : Array Value) (n : Nat) : (Builtin.zeroCells z n).size = n * z.size := by simp [Builtin.zeroCells]

section
variable {P : Program} {n m : Nat} {G : Ctx} {T : List (Nat × AV)} {O : List AObj} {Q : Exit → St → Prop} {ops : Array Oper} {l : List Oper} {d : Nat} {tt : TypeId} {pos : String} {after : Array Edge} {tab : List (Nat × Ty)}

/-- append to a nil slice: a new object. -/
theorem WpL.appNil (hP : TabOk P tab) {t e k b : Nat} {zs ys : List AV} {x y : Operand} {c id : Nat} {Vy : AV} (ht : tlook tab t = some (.slice e k b zs)) (hx : av T x = .nilS) (hy : (av T y).force = some Vy) (hs : srcB O Vy = some (ys, c))
    (hlen : ys.length = c * k) (hone : ys.all (oneB O) = true) (hb : c * b ≤ 140737488355328 ∧ c ≤ 9223372036854775807) (hid : nid O 0 = some id) (hn : d < n)
    (h : WpL P n m G false ops l ⟨(d, .own id 0 0 c) :: T, O ++ [⟨ys, 0, k, some e⟩]⟩ Q) :
    WpL P n m G false ops ({ dst := some d, op := .call { callee := .builtin .append, args := #[x, y], argTypes := #[t, t] }, type := tt, pos := pos, after := after, guard := none } :: l) ⟨T, O⟩ Q :=
  WpL.value rfl (fun a w hr => by
    obtain ⟨S, ι, F, hr⟩ := hr
    have hid : id = O.length := by have := nid_eq hid; omega
    subst hid
    obtain ⟨hu, i, z, hi, hz, hk, hby, hzk, hk0, _⟩ := hP.slice ht
    have hv := hr.eval x
    rw [show av (St.mk T O).T x = _ from hx] at hv
    have hxe := (LRel.slice_len hv).2.2 rfl
    have hw := hr.eval y
    rw [show av (St.mk T O).T y = Vy from AV.force_eq hy] at hw
    obtain ⟨us, hl, hone', hcase⟩ := src_cells hr.objs hw hs hlen hone
    have huslen : us.length = c * k := by rw [← hl.len]; exact hlen
    by_cases hc0 : c = 0
    · subst hc0
      have hys : ys = [] := List.eq_nil_of_length_eq_zero (by simpa using hlen)
      subst hys
      cases hl
      have hrun : (Builtin.append_ #[t, t] tt #[a.eval x, a.eval y]).run P w = .ok (.slice none 0 0) w := by
        rcases hcase with ⟨ad, _, h1, _⟩ | ⟨b', o, cap, h1, _⟩
        · rw [hxe, h1]; cases ad <;> simp [loadCells, loadCellsFrom, Builtin.append_, run_underlying hu, sizeOf, typeInfo, hi, Builtin.lenOf, Builtin.firstCells]
        · rw [hxe, h1]; simp [Builtin.append_, run_underlying hu, sizeOf, typeInfo, hi, Builtin.lenOf, Builtin.firstCells, loadCells, loadCellsFrom]
      refine ⟨.slice none 0 0, w, by simp [execOp, resolve, invoke, builtin, hrun, Sem.run_bind], ?_⟩
      -- a virtual object
      have hlat : Later S w ι O S w (upd ι O.length none) (O ++ [⟨[], 0, k, some e⟩]) := by
        refine ⟨fun _ h => h, fun _ _ => rfl, fun id ob' h => ?_⟩
        have hlt : id < O.length := (List.getElem?_eq_some_iff.1 h).1
        exact ⟨ob', by rw [List.getElem?_append_left hlt]; exact h, .inr ⟨rfl, rfl, upd_other _ _ (by omega)⟩⟩
      have hr' : RelAt n m G S (upd ι O.length none) (upd F O.length []) ⟨T, O ++ [⟨[], 0, k, some e⟩]⟩ a w := by
        refine ⟨hr.defers, hr.size, fun t' => (hr.tmps t').mono hlat (by simp), ⟨fun id ob' h => ?_, fun id h => ?_, fun i j hi hj hij b hb => ?_⟩, fun id h b hb => ?_, hr.base, hr.stable, hr.keeps, fun id h => ?_, ?_⟩
        · rcases getElem?_snoc O _ ob' id h with ⟨hlt, h⟩ | ⟨rfl, rfl⟩
          · rw [upd_other _ _ (by omega), upd_other _ _ (by omega)]
            have ho := hr.objs.obj id ob' h
            unfold ObjAt at ho ⊢
            cases hs : ι id with
            | none => rw [hs] at ho; exact ho
            | some p =>
              obtain ⟨b, k⟩ := p
              rw [hs] at ho
              obtain ⟨cur', t', fz', f', h1, h2, h3, h4, h5, h6, h7⟩ := ho
              exact ⟨cur', t', fz', f', h1, h2, h3, h4, h5, h6, h7.mono hlat fun _ _ => rfl⟩
          · rw [upd_same, upd_same]; exact ⟨rfl, rfl⟩
        · simp only [List.length_append, List.length_cons, List.length_nil] at h
          by_cases he : id = O.length
          · subst he; rw [upd_same]; simp
          · rw [upd_other _ _ he]; exact hr.objs.nodup id (by show id < O.length; omega)
        · simp only [List.length_append, List.length_cons, List.length_nil] at hi hj
          by_cases h1 : i = O.length
          · subst h1; rw [upd_same] at hb; simp at hb
          · rw [upd_other _ _ h1] at hb
            by_cases h2 : j = O.length
            · subst h2; rw [upd_same]; simp
            · rw [upd_other _ _ h2]; exact hr.objs.apart i j (by show i < O.length; omega) (by show j < O.length; omega) hij b hb
        · simp only [List.length_append, List.length_cons, List.length_nil] at h
          by_cases he : id = O.length
          · subst he; rw [upd_same] at hb; simp at hb
          · rw [upd_other _ _ he] at hb; exact hr.foot id (by show id < O.length; omega) b hb
        · have hm : m ≤ O.length := hr.mle
          rw [upd_other _ _ (by omega)]; exact hr.spots id h
        · have hm : m ≤ O.length := hr.mle
          show m ≤ (O ++ [_]).length
          simp; omega
      exact ⟨_, _, _, hr'.put hn (.own (ob := ⟨[], 0, k, some e⟩) (by simp) (Nat.le_refl _) (fun _ => by rw [upd_same]; exact ⟨rfl, rfl, rfl⟩) .nil)⟩
    · rcases hcase with ⟨_, _, _, _, h0, _⟩ | ⟨b', o, cap, h1, hcell⟩
      · exact (hc0 h0).elim
      · have hrun := run_append_nil (P := P) w t tt e i z hu hi hz ⟨b', o, none⟩ c cap us (by rw [hk]; exact huslen) (by
          intro j v hj
          have hlt := (List.getElem?_eq_some_iff.1 hj).1
          rw [addr_add, hcell j hlt]; exact hj) (by omega) (by omega) (by rw [hby]; omega)
        have hcap := grownCap_ge w c 0 e
        have hcm := grownCap_le_maxLen w c 0 e (by simp only [maxLen]; omega)
        have hsz : (us.toArray ++ Builtin.zeroCells z.cells (grownCap w c 0 e - c)).size = grownCap w c 0 e * k := by
          simp only [Array.size_append, List.size_toArray, zeroCells_size, hzk, huslen, ← Nat.add_mul]
          congr 1; omega
        have hr' := hr.alloc (ob := ⟨ys, 0, k, some e⟩) (cur := us.toArray ++ Builtin.zeroCells z.cells (grownCap w c 0 e - c)) (t := e) (fz := (0, 0)) (adds_drew_alloc w _) (by
          have : (us.toArray ++ Builtin.zeroCells z.cells (grownCap w c 0 e - c)).toList.take ys.length = us := by
            rw [Array.toList_append]; exact List.take_left' (by simpa using hl.len.symm)
          rw [this]; exact hl) (by rw [hsz, hlen]; exact Nat.mul_le_mul_right _ hcap) (by simp) (by simp)
        refine ⟨.slice (some ⟨w.heap.size, 0, none⟩) c (grownCap w c 0 e), _, by simp only [execOp, resolve, invoke, builtin, Sem.run_bind, Sem.run_pure, Result.andThen_ok, List.map_toArray, List.map_cons, List.map_nil, hxe, h1, hrun], _, _, _, hr'.put hn ?_⟩
        exact own_new (ob := ⟨ys, 0, k, some e⟩) hsz.symm hcap hcm) h
/-- append to a slice of the call's own that is whole. -/
theorem WpL.appOwn (hP : TabOk P tab) {t e k b : Nat} {zs ys : List AV} {x y : Operand} {id ep len c : Nat} {ob : AObj} {Vy : AV} (ht : tlook tab t = some (.slice e k b zs)) (hx : av T x = .own id ep 0 len)
    (ho : O[id]? = some ob) (he : ob.ep = ep) (hty : ob.ty = some e) (hsz : ob.size = k) (hol : ob.cells.length = len * k) (hm : m ≤ id) (hy : (av T y).force = some Vy) (hs : srcB O Vy = some (ys, c))
    (hlen : ys.length = c * k) (hone : ys.all (oneB O) = true) (hb : (len + c) * b ≤ 140737488355328 ∧ len + c ≤ 9223372036854775807) (hn : d < n)
    (h : WpL P n m G false ops l ⟨(d, .own id (ep + 1) 0 (len + c)) :: T, O.set id ⟨ob.cells ++ ys, ep + 1, k, some e⟩⟩ Q) :
    WpL P n m G false ops ({ dst := some d, op := .call { callee := .builtin .append, args := #[x, y], argTypes := #[t, t] }, type := tt, pos := pos, after := after, guard := none } :: l) ⟨T, O⟩ Q :=
  WpL.value rfl (fun a w hr => by
    obtain ⟨S, ι, F, hr⟩ := hr
    obtain ⟨hu, i, z, hi, hz, hk, hby, hzk, hk0, _⟩ := hP.slice ht
    have hid : id < O.length := (List.getElem?_eq_some_iff.1 ho).1
    have hw := hr.eval y
    rw [show av (St.mk T O).T y = Vy from AV.force_eq hy] at hw
    obtain ⟨us, hl, hone', hcase⟩ := src_cells hr.objs hw hs hlen hone
    have huslen : us.length = c * k := by rw [← hl.len]; exact hlen
    have hv := hr.eval x
    rw [show av (St.mk T O).T x = _ from hx] at hv
    have hob := hr.objs.obj id ob ho
    unfold ObjAt at hob
    have hown : OwnAt (ι id) ob.size 0 len (a.eval x) := by
      cases hv with
      | own q1 q2 q3 r =>
        rw [show (St.mk T O).O[id]? = some ob from ho] at q1
        cases q1
        exact q3 he.symm
    have hlenA : (ob.cells ++ ys).length = (len + c) * k := by rw [List.length_append, hol, hlen, Nat.add_mul]
    -- what the end looks like
    have finish : ∀ (w' : World) (s' : Spot) (f' : List Nat) (v : Value), (Builtin.append_ #[t, t] tt #[a.eval x, a.eval y]).run P w = .ok v w' →
        Later S w ι O S w' (upd ι id s') (O.set id ⟨ob.cells ++ ys, ep + 1, k, some e⟩) ∧ RelAt n m G S (upd ι id s') (upd F id f') ⟨T, O.set id ⟨ob.cells ++ ys, ep + 1, k, some e⟩⟩ a w' → OwnAt s' k 0 (len + c) v →
        ∃ v w', (execOp a.eval { dst := some d, op := .call { callee := .builtin .append, args := #[x, y], argTypes := #[t, t] }, type := tt, pos := pos, after := after, guard := none }).run P w = .ok (.value v) w' ∧
          Rel n m G ⟨(d, .own id (ep + 1) 0 (len + c)) :: T, O.set id ⟨ob.cells ++ ys, ep + 1, k, some e⟩⟩ (a.put (some d) v) w' := by
      intro w' s' f' v hrun hr' hoa
      refine ⟨v, w', by simp only [execOp, resolve, invoke, builtin, Sem.run_bind, Sem.run_pure, Result.andThen_ok, List.map_toArray, List.map_cons, List.map_nil, hrun], _, _, _, hr'.2.put hn ?_⟩
      exact .own (ob := ⟨ob.cells ++ ys, ep + 1, k, some e⟩) (by rw [List.getElem?_set_self hid]) (Nat.le_refl _) (fun _ => by rw [upd_same]; exact hoa) .nil
    -- a new block
    have fresh : ∀ (oldc : Nat) (olds : List Value) (f0 : List Nat), LRel S w ι O ob.cells olds f0 → f0.Nodup → (∀ b, b ∈ f0 → b ∈ F id) → (∀ b0 k0, ι id = some (b0, k0) → b0 ∉ f0) → len + c ≤ grownCap w (len + c) oldc e →
        (Builtin.append_ #[t, t] tt #[a.eval x, a.eval y]).run P w = .ok (.slice (some ⟨w.heap.size, 0, none⟩) (len + c) (grownCap w (len + c) oldc e)) (w.drew.alloc (.cells (olds.toArray ++ us.toArray ++ Builtin.zeroCells z.cells (grownCap w (len + c) oldc e - (len + c))) e)) →
        ∃ v w', (execOp a.eval { dst := some d, op := .call { callee := .builtin .append, args := #[x, y], argTypes := #[t, t] }, type := tt, pos := pos, after := after, guard := none }).run P w = .ok (.value v) w' ∧
          Rel n m G ⟨(d, .own id (ep + 1) 0 (len + c)) :: T, O.set id ⟨ob.cells ++ ys, ep + 1, k, some e⟩⟩ (a.put (some d) v) w' := by
      intro oldc olds f0 hlo hnd0 hsub hnb hge hrun
      have hcm := grownCap_le_maxLen w (len + c) oldc e (by simp only [maxLen]; omega)
      have hA := adds_drew_alloc w (.cells (olds.toArray ++ us.toArray ++ Builtin.zeroCells z.cells (grownCap w (len + c) oldc e - (len + c))) e)
      have holds : olds.length = len * k := by rw [← hlo.len]; exact hol
      have hszc : (olds.toArray ++ us.toArray ++ Builtin.zeroCells z.cells (grownCap w (len + c) oldc e - (len + c))).size = grownCap w (len + c) oldc e * k := by
        simp only [Array.size_append, List.size_toArray, zeroCells_size, hzk, huslen, holds, ← Nat.add_mul]
        congr 1; omega
      refine finish _ (some (w.heap.size, grownCap w (len + c) oldc e * k)) (w.heap.size :: f0) _ hrun (hr.renew (ob := ob) ho hm (by simp [he]) rfl rfl rfl (by rw [hA.size]; omega) (fun b' hb' _ => hA.old hb') ?_ ?_ ?_) ⟨_, rfl, by omega, hge, hcm⟩
      · intro hlat
        refine ⟨_, e, (0, 0), f0, rfl, hA.new, hszc, by rw [hlenA]; exact Nat.mul_le_mul_right _ hge, by simp, by simp, ?_⟩
        have htk : (olds.toArray ++ us.toArray ++ Builtin.zeroCells z.cells (grownCap w (len + c) oldc e - (len + c))).toList.take (ob.cells ++ ys).length = olds ++ us := by
          rw [Array.toList_append, Array.toList_append]
          exact List.take_left' (by rw [hlenA, Nat.add_mul]; simp [holds, huslen])
        show LRel S _ _ _ (ob.cells ++ ys) _ f0
        rw [htk]
        have h1 := hlo.mono hlat (fun b' hb' => hA.old (hr.foot id hid b' (hsub b' hb')).2.2)
        have h2 := hl.mono hlat (by simp)
        simpa using h1.append h2
      · refine List.nodup_cons.2 ⟨fun hb => ?_, hnd0⟩
        have := (hr.foot id hid _ (hsub _ hb)).2.2
        omega
      · intro b' hb'
        rcases List.mem_cons.1 hb' with rfl | hb'
        · exact .inr ⟨Nat.le_refl _, by rw [hA.size]; omega⟩
        · exact .inl (hsub b' hb')
    cases hspot : ι id with
    | none =>
      rw [hspot] at hown hob
      obtain ⟨hxe, _, hlen0⟩ := hown
      subst hlen0
      obtain ⟨hcells, hFid⟩ := hob
      by_cases hc0 : c = 0
      · subst hc0
        have hys : ys = [] := List.eq_nil_of_length_eq_zero (by simpa using hlen)
        subst hys
        have hrun : (Builtin.append_ #[t, t] tt #[a.eval x, a.eval y]).run P w = .ok (.slice none 0 0) w := by
          rcases hcase with ⟨ad, _, h1, _⟩ | ⟨b', o, cap, h1, _⟩
          · rw [hxe, h1]; cases ad <;> simp [loadCells, loadCellsFrom, Builtin.append_, run_underlying hu, sizeOf, typeInfo, hi, Builtin.lenOf, Builtin.firstCells]
          · rw [hxe, h1]; simp [Builtin.append_, run_underlying hu, sizeOf, typeInfo, hi, Builtin.lenOf, Builtin.firstCells, loadCells, loadCellsFrom]
        refine finish w none [] _ hrun (hr.renew (ob := ob) ho hm (by simp [he]) rfl rfl rfl (Nat.le_refl _) (fun _ _ _ => rfl) (fun _ => ⟨by simp [hcells], rfl⟩) (by simp) (by simp)) ⟨rfl, rfl, rfl⟩
      · rcases hcase with ⟨_, _, _, _, h0, _⟩ | ⟨b', o, cap, h1, hcell⟩
        · exact (hc0 h0).elim
        · have hrun := run_append_nil (P := P) w t tt e i z hu hi hz ⟨b', o, none⟩ c cap us (by rw [hk]; exact huslen) (by
            intro j v hj
            have hlt := (List.getElem?_eq_some_iff.1 hj).1
            rw [addr_add, hcell j hlt]; exact hj) (by omega) (by omega) (by rw [hby]; have := hb.1; simp only [Nat.zero_add] at this; omega)
          refine fresh 0 [] [] (by rw [hcells]; exact .nil) (by simp) (by simp) (by simp) (grownCap_ge _ _ _ _) ?_
          simp only [Nat.zero_add, List.nil_append, Array.empty_append] at hrun ⊢
          rw [hxe, h1]; exact hrun
    | some p =>
      obtain ⟨b0, k0⟩ := p
      rw [hspot] at hown hob
      obtain ⟨cap, hxe, hcap0, hlc, hcm⟩ := hown
      obtain ⟨cur, t', fz, f', hF, hh, hcur, hle, hfz, htyp, hlo⟩ := hob
      obtain ⟨rfl, rfl⟩ := htyp e hty
      have hcurs : cur.size = cap * k := by rw [hcur, ← hcap0, hsz]; omega
      have hndF : (b0 :: f').Nodup := by rw [← hF]; exact hr.objs.nodup id hid
      have holdsl : (cur.toList.take ob.cells.length).length = len * k := by rw [← hlo.len]; exact hol
      by_cases hroom : len + c ≤ cap
      · -- in place
        obtain ⟨ad, mm, cc, hye, hnews⟩ : ∃ ad mm cc, a.eval y = .slice ad mm cc ∧ mm = c ∧ ((mm = 0 ∧ us = []) ∨ ∃ b' o, ad = some ⟨b', o, none⟩ ∧ ∀ i, i < us.length → w.cell? ⟨b', o + i, none⟩ = us[i]?) := by
          rcases hcase with ⟨ad, cp, h1, _, h2, h3⟩ | ⟨b', o, cap', h1, h2⟩
          · exact ⟨ad, 0, cp, h1, h2.symm, .inl ⟨rfl, h3⟩⟩
          · exact ⟨some ⟨b', o, none⟩, c, cap', h1, rfl, .inr ⟨b', o, rfl, h2⟩⟩
        obtain ⟨rfl, hnews⟩ := hnews
        have hfit : len * i.size + us.length ≤ cur.size := by rw [hk, huslen, hcurs, ← Nat.add_mul]; exact Nat.mul_le_mul_right _ hroom
        have hrun : (Builtin.append_ #[t, t] tt #[a.eval x, a.eval y]).run P w =
            .ok (.slice (some ⟨b0, 0, none⟩) (len + mm) cap) (w.setRow b0 (cur.toList.take (len * i.size) ++ us ++ cur.toList.drop (len * i.size + us.length)).toArray) := by
          rcases hnews with ⟨rfl, rfl⟩ | ⟨b', o, rfl, hcell⟩
          · have hself : w.setRow b0 (cur.toList.take (len * i.size) ++ [] ++ cur.toList.drop (len * i.size + ([] : List Value).length)).toArray = w := by
              have : (cur.toList.take (len * i.size) ++ [] ++ cur.toList.drop (len * i.size + ([] : List Value).length)).toArray = cur := by simp
              rw [this]; exact setRow_self w b0 cur _ _ hh
            rw [hself, hxe, hye]
            have : len + 0 ≤ cap := hroom
            cases ad <;> simp [Builtin.append_, run_underlying hu, sizeOf, typeInfo, hi, Builtin.lenOf, Builtin.firstCells, hlc, storeCells, loadCells, loadCellsFrom]
          · rw [hxe, hye]
            exact run_append_room (P := P) w t tt t' i hu hi b0 len cap cur hh ⟨b', o, none⟩ mm cc us (by rw [hk]; exact huslen) (by
              intro j v hj
              have hlt := (List.getElem?_eq_some_iff.1 hj).1
              rw [addr_add, hcell j hlt]; exact hj) hone' hroom hfit
        have hsr := setRow_heap w b0 cur (cur.toList.take (len * i.size) ++ us ++ cur.toList.drop (len * i.size + us.length)).toArray t' (0, 0) hh
        have hso : ∀ b', b' ≠ b0 → (w.setRow b0 (cur.toList.take (len * i.size) ++ us ++ cur.toList.drop (len * i.size + us.length)).toArray).heap[b']? = w.heap[b']? := fun b' hb' => setRow_other w b0 b' _ hb'
        refine finish _ (some (b0, k0)) (b0 :: f') _ hrun (hr.renew (ob := ob) ho hm (by simp [he]) rfl rfl rfl (by simp) ?_ ?_ hndF ?_) ⟨cap, rfl, by rw [← hcap0, hsz], hroom, hcm⟩
        · intro b' _ hb'
          refine hso b' ?_
          rintro rfl
          rcases hb' with hb' | ⟨_, hb'⟩
          · exact hb' (by rw [hF]; simp)
          · exact hb' k0 rfl
        · intro hlat
          have hlenk : ob.cells.length = len * i.size := by rw [hol, hk]
          refine ⟨_, t', (0, 0), f', rfl, hsr, ?_, ?_, by simp, by simp, ?_⟩
          · rw [← hcur]; simp; omega
          · show (ob.cells ++ ys).length ≤ k0
            rw [hlenA, ← hcur, hcurs]; exact Nat.mul_le_mul_right _ hroom
          · show LRel S _ _ _ (ob.cells ++ ys) _ f'
            have htk : (cur.toList.take (len * i.size) ++ us ++ cur.toList.drop (len * i.size + us.length)).take (ob.cells ++ ys).length = cur.toList.take (len * i.size) ++ us := by
              refine List.take_left' ?_
              rw [List.length_append, List.length_append, ← hl.len, ← hlenk, ← hlo.len]
            show LRel S _ _ _ (ob.cells ++ ys) ((cur.toList.take (len * i.size) ++ us ++ cur.toList.drop (len * i.size + us.length)).toArray.toList.take (ob.cells ++ ys).length) f'
            rw [show (cur.toList.take (len * i.size) ++ us ++ cur.toList.drop (len * i.size + us.length)).toArray.toList = cur.toList.take (len * i.size) ++ us ++ cur.toList.drop (len * i.size + us.length) from by simp, htk]
            have h1 := hlo.mono hlat (fun b' hb' => hso b' (by rintro rfl; exact (List.nodup_cons.1 hndF).1 hb'))
            have h2 := hl.mono hlat (by simp)
            rw [hlenk] at h1
            simpa using h1.append h2
        · intro b' hb'; exact .inl (by rw [hF]; exact hb')
      · -- a new block
        rcases hcase with ⟨_, _, _, _, h0, _⟩ | ⟨b', o, cap', h1, hcell⟩
        · omega
        · have hrun := run_append_grow (P := P) w t tt t' i z hu hi hz ⟨b0, 0, none⟩ len cap (cur.toList.take ob.cells.length) (by rw [hk]; exact holdsl) (by
            intro j v hj
            have hlt := (List.getElem?_eq_some_iff.1 hj).1
            rw [addr_add, Nat.zero_add, cell_of_row w b0 j cur _ _ hh]
            rw [List.getElem?_take] at hj
            split at hj
            · simpa using hj
            · simp at hj) ⟨b', o, none⟩ c cap' us (by rw [hk]; exact huslen) (by
            intro j v hj
            have hlt := (List.getElem?_eq_some_iff.1 hj).1
            rw [addr_add, hcell j hlt]; exact hj) (by omega) (by omega) (by rw [hby]; exact growslice_fits (by omega) hb.1)
          refine fresh cap _ f' hlo (List.nodup_cons.1 hndF).2 (fun b hb => by rw [hF]; simp [hb]) (fun b1 k1 hb1 => by rw [hspot] at hb1; cases hb1; exact (List.nodup_cons.1 hndF).1) (grownCap_ge _ _ _ _) ?_
          rw [hxe, h1]; exact hrun) h
end
end Go.Abs

/- The rules of slice literals, make, build and the conversions of bytes and strings. No condition. -/
namespace Go.Abs
open Go
set_option linter.unusedVariables false
set_option linter.unusedSimpArgs false

theorem fold_set (xs : List Value) : ∀ (s off : Nat) (arr : Array Value), off + s + xs.length ≤ arr.size →
    ((xs.zipIdx s).foldl (fun cs (c, j) => cs.setIfInBounds (off + j) c) arr).toList = arr.toList.take (off + s) ++ xs ++ arr.toList.drop (off + s + xs.length) := by
  induction xs with
  | nil => intro s off arr h; simp
  | cons x xs ih =>
    intro s off arr h
    simp only [List.length_cons] at h
    simp only [List.zipIdx_cons, List.foldl_cons]
    rw [ih (s + 1) off _ (by simp; omega)]
    rw [Array.toList_setIfInBounds]
    have hlt : off + s < arr.toList.length := by simp; omega
    rw [show off + (s + 1) = off + s + 1 from by omega, List.take_set, List.drop_set]
    rw [if_pos (by omega)]
    rw [List.take_succ_eq_append_getElem hlt, List.set_append_right _ _ (by simp; omega)]
    simp only [List.length_take, List.length_cons]
    rw [show off + s - min (off + s) arr.toList.length = 0 from by omega]
    simp only [List.set_cons_zero, List.append_assoc, List.cons_append, List.nil_append]
    rw [show off + s + (xs.length + 1) = off + s + 1 + xs.length from by omega]

theorem fill_in_order (k : Nat) : ∀ (vs : List Value) (j : Nat) (arr : Array Value), (∀ v, v ∈ vs → v.cells.size = k) → (j + vs.length) * k ≤ arr.size →
    ∃ out, Instr.fill (fun i => some (i * k, k)) arr ((vs.zipIdx j).map (fun (v, i) => (i, v))) = some out ∧
      out.toList = arr.toList.take (j * k) ++ (vs.flatMap fun v => v.cells.toList) ++ arr.toList.drop ((j + vs.length) * k) := by
  intro vs
  induction vs with
  | nil => intro j arr _ _; exact ⟨arr, by simp [Instr.fill], by simp⟩
  | cons v vs ih =>
    intro j arr hk hle
    simp only [List.length_cons] at hle
    have hv := hk v (by simp)
    have hjk : j * k + k ≤ arr.size := by
      have : (j + 1) * k ≤ (j + (vs.length + 1)) * k := Nat.mul_le_mul_right _ (by omega)
      rw [Nat.add_mul] at this; omega
    have hcl : v.cells.toList.length = k := by simpa using hv
    have hf := fold_set v.cells.toList 0 (j * k) arr (by rw [hcl]; omega)
    have hz : v.cells.zipIdx.foldl (fun cs (c, q) => cs.setIfInBounds (j * k + q) c) arr = (v.cells.toList.zipIdx 0).foldl (fun cs (c, q) => cs.setIfInBounds (j * k + q) c) arr := by
      rw [← Array.foldl_toList, Array.toList_zipIdx]
    generalize harr : (v.cells.toList.zipIdx 0).foldl (fun cs (c, q) => cs.setIfInBounds (j * k + q) c) arr = arr' at hf hz
    have hsz : arr'.size = arr.size := by
      have h := congrArg List.length hf
      rw [List.length_append, List.length_append, List.length_take, List.length_drop, hcl, Array.length_toList, Array.length_toList] at h
      omega
    obtain ⟨out, ho, hol⟩ := ih (j + 1) arr' (fun v hv => hk v (by simp [hv])) (by rw [hsz]; rw [show j + 1 + vs.length = j + (vs.length + 1) from by omega]; exact hle)
    refine ⟨out, ?_, ?_⟩
    · simp only [List.zipIdx_cons, List.map_cons]
      rw [Instr.fill]
      have hng : ¬ (j * k + k > arr.size) := by omega
      simp only [hv, ne_eq, not_true_eq_false, decide_false, hng, Bool.or_false, Bool.false_eq_true, if_false]
      exact hz ▸ ho
    · rw [hol, hf]
      simp only [Nat.add_zero, hcl]
      have h1 : (j + 1) * k = j * k + k := by rw [Nat.add_mul]; omega
      have htl : (arr.toList.take (j * k) ++ v.cells.toList).length = j * k + k := by simp [hcl]; omega
      rw [h1, List.take_left' htl]
      rw [List.flatMap_cons]
      have h2 : (j + 1 + vs.length) * k = (j * k + k) + vs.length * k := by rw [Nat.add_mul, Nat.add_mul]; omega
      have h3 : (j + (v :: vs).length) * k = j * k + k + vs.length * k := by rw [List.length_cons, Nat.add_mul, Nat.add_mul]; omega
      have hd : List.drop ((j + 1 + vs.length) * k) (List.take (j * k) arr.toList ++ v.cells.toList ++ List.drop (j * k + k) arr.toList) = List.drop ((j + (v :: vs).length) * k) arr.toList := by
        rw [h2, h3, List.drop_append, htl, List.drop_eq_nil_of_le (by rw [htl]; omega), List.nil_append, List.drop_drop]
        congr 1; omega
      rw [hd]
      simp only [List.append_assoc]

theorem RelAt.evals {n m G S ι F T O a w} (hr : RelAt n m G S ι F ⟨T, O⟩ a w) (xs : List Operand) : LRel S w ι O (xs.map (av T)) (xs.map a.eval) [] := by
  induction xs with
  | nil => exact .nil
  | cons x xs ih => simpa using LRel.cons (hr.eval x) ih

/-- The cells of the elements of a literal. -/
inductive Lit (T : List (Nat × AV)) (O : List AObj) (k : Nat) : List Operand → List AV → Prop
  | nil : Lit T O k [] []
  | cons {x xs V ds cs} (hx : (av T x).force = some V) (hV : cellsV O V = some ds) (hk : ds.length = k) (h : Lit T O k xs cs) : Lit T O k (x :: xs) (ds ++ cs)
  | one {x xs V cs} (hx : (av T x).force = some V) (hV : oneB O V = true) (hk : k = 1) (h : Lit T O k xs cs) : Lit T O k (x :: xs) (V :: cs)

theorem Lit.rel {n m G S ι F T O a w k} (hr : RelAt n m G S ι F ⟨T, O⟩ a w) {xs cs} (h : Lit T O k xs cs) :
    LRel S w ι O cs ((xs.map a.eval).flatMap fun v => v.cells.toList) [] ∧ (∀ v, v ∈ xs.map a.eval → v.cells.size = k) ∧ cs.length = xs.length * k := by
  induction h with
  | nil => exact ⟨.nil, by simp, by simp⟩
  | cons hx hV hk _ ih =>
    rename_i x xs V ds cs _
    have hv := hr.eval x
    rw [show av (St.mk T O).T x = V from AV.force_eq hx] at hv
    obtain ⟨h1, h2, h3⟩ := ih
    have hc := cellsV_rel hv hV
    refine ⟨by simpa using hc.append h1, ?_, ?_⟩
    · intro u hu
      rcases List.mem_cons.1 hu with rfl | hu
      · have := hc.len; simp at this; omega
      · exact h2 u hu
    · rw [List.length_append, h3, hk, List.length_cons, Nat.add_mul]; omega
  | one hx hV hk _ ih =>
    rename_i x xs V cs _
    have hv := hr.eval x
    rw [show av (St.mk T O).T x = V from AV.force_eq hx] at hv
    obtain ⟨h1, h2, h3⟩ := ih
    have hc := (one_of hv hV).2.1
    refine ⟨by simpa [hc] using LRel.cons hv h1, ?_, ?_⟩
    · intro u hu
      rcases List.mem_cons.1 hu with rfl | hu
      · rw [hc, hk]; rfl
      · exact h2 u hu
    · subst hk; simp only [List.length_cons, h3]; omega

section
variable {P : Program} {n m : Nat} {G : Ctx} {T : List (Nat × AV)} {O : List AObj} {Q : Exit → St → Prop} {ops : Array Oper} {l : List Oper} {d : Nat} {tt : TypeId} {pos : String} {after : Array Edge} {tab : List (Nat × Ty)}

theorem zip_parts (ρ : Operand → Value) : ∀ (parts : List (Nat × Operand)) (j : Nat), parts.map (·.1) = List.range' j parts.length →
    parts.map (fun (i, x) => (i, ρ x)) = (((parts.map (·.2)).map ρ).zipIdx j).map (fun (v, i) => (i, v)) := by
  intro parts
  induction parts with
  | nil => intro j _; rfl
  | cons p parts ih =>
    intro j h
    simp only [List.map_cons, List.length_cons, List.range'_succ, List.cons.injEq] at h
    simp only [List.map_cons, List.zipIdx_cons]
    rw [ih (j + 1) h.2, h.1]

/-- A slice literal whose elements are given in order. -/
theorem WpL.lit (hP : TabOk P tab) {t e k b len id : Nat} {zs cs : List AV} {parts : List (Nat × Operand)} (ht : tlook tab t = some (.slice e k b zs)) (hidx : parts.map (·.1) = List.range' 0 parts.length) (hlen : parts.length = len)
    (hlit : Lit T O k (parts.map (·.2)) cs) (hsm : len * k ≤ 16777216) (hid : nid O 0 = some id) (hn : d < n)
    (h : WpL P n m G false ops l ⟨(d, .own id 0 0 len) :: T, O ++ [⟨cs, 0, k, some e⟩]⟩ Q) :
    WpL P n m G false ops ({ dst := some d, op := .buildSlice t len parts.toArray, type := tt, pos := pos, after := after, guard := none } :: l) ⟨T, O⟩ Q :=
  WpL.value rfl (fun a w hr => by
    obtain ⟨S, ι, F, hr⟩ := hr
    have hid : id = O.length := by have := nid_eq hid; omega
    subst hid
    obtain ⟨hu, i, z, hi, hz, hk, hby, hzk, hk0, _⟩ := hP.slice ht
    obtain ⟨h1, h2, h3⟩ := hlit.rel hr
    have hvl : (parts.map (·.2)).length = len := by simpa using hlen
    obtain ⟨out, ho, hol⟩ := fill_in_order k ((parts.map (·.2)).map a.eval) 0 ((Array.range (len * k)).map (z.cells[· % z.cells.size]!)) h2 (by simp [hlen])
    have hout : out.toList = ((parts.map (·.2)).map a.eval).flatMap fun v => v.cells.toList := by
      rw [hol]; simp [hlen]
    have hosz : out.size = len * k := by
      have := congrArg List.length hout
      rw [← h1.len, h3, hvl] at this
      simpa using this
    have hrun : (Instr.buildSlice t len (parts.toArray.map fun (i, x) => (i, a.eval x))).run P w = .ok (.slice (some ⟨w.heap.size, 0, none⟩) len len) (w.alloc (.cells out e)) := by
      have hpl : (parts.toArray.map fun (i, x) => (i, a.eval x)).toList = (((parts.map (·.2)).map a.eval).zipIdx 0).map fun (v, i) => (i, v) := by
        rw [Array.toList_map]; exact zip_parts a.eval parts 0 hidx
      unfold Instr.buildSlice
      simp only [Sem.run_bind, run_underlying hu, Result.andThen_ok, run_sizeOf hi hk]
      rw [if_neg (by omega)]
      by_cases hlk : len * k = 0
      · have hr0 : (Array.range (len * k)) = #[] := by rw [hlk]; rfl
        simp only [hlk, if_true, Sem.run_pure, Result.andThen_ok]
        simp only [hlk, Array.range_zero', Array.map_empty] at ho
        rw [hpl]
        have hr1 : Array.range 0 = #[] := rfl
        simp only [hr1, Array.map_empty, ho, newRow, newObj, Sem.run_bind, Sem.run, Result.andThen_ok, Sem.run_pure]
        rfl
      · simp only [hlk, if_false, Sem.run_bind, zeroValue, typeInfo, hi, hz, Sem.run_pure, Result.andThen_ok, program, Sem.run]
        rw [hpl, ho]
        simp only [newRow, newObj, Sem.run_bind, Sem.run, Result.andThen_ok, Sem.run_pure]
        rfl
    have hr' := hr.alloc (ob := ⟨cs, 0, k, some e⟩) (cur := out) (t := e) (fz := (0, 0)) (Adds.alloc w _) (by
      have : out.toList.take cs.length = out.toList := List.take_of_length_le (by simp [hosz, h3, hvl])
      show LRel _ _ _ _ cs (out.toList.take cs.length) []
      rw [this, hout]; exact h1) (by show cs.length ≤ _; rw [h3, hvl, hosz]; exact Nat.le_refl _) (by simp) (by simp)
    refine ⟨.slice (some ⟨w.heap.size, 0, none⟩) len len, w.alloc (.cells out e), by simp only [execOp, Sem.run_bind, hrun, Result.andThen_ok, Sem.run_pure], _, _, _, hr'.put hn ?_⟩
    exact own_new (ob := ⟨cs, 0, k, some e⟩) hosz.symm (Nat.le_refl _) (by have : len ≤ len * k := Nat.le_mul_of_pos_right _ hk0; simp only [maxLen]; omega)) h


theorem made_flat (z : Array Value) (n : Nat) : (madeCells z (n * z.size)).toList = (List.replicate n z.toList).flatten := by
  induction n with
  | zero => simp [madeCells]
  | succ n ih =>
    rw [List.replicate_succ', List.flatten_append, ← ih]
    simp only [madeCells, Array.toList_map, Array.toList_range]
    rw [Nat.add_mul, Nat.one_mul, List.range_add, List.map_append]
    congr 1
    simp only [List.flatten_cons, List.flatten_nil, List.append_nil, List.map_map]
    apply List.ext_getElem
    · simp
    · intro i h1 h2
      have hi : i < z.size := by simpa using h1
      simp [Nat.mul_add_mod_self_right, Nat.mod_eq_of_lt hi, hi, Nat.add_comm (n * z.size) i, Nat.add_mul_mod_self_right]

theorem lrel_flat {S w ι O} (vs : List Value) (n : Nat) : LRel S w ι O (List.replicate n (vs.map zav)).flatten (List.replicate n vs).flatten [] := by
  induction n with
  | zero => exact .nil
  | succ n ih =>
    rw [List.replicate_succ, List.replicate_succ, List.flatten_cons, List.flatten_cons]
    simpa using (lrel_zav vs).append ih

theorem WpL.make (hP : TabOk P tab) {t e k b id : Nat} {zs : List AV} {x y : Operand} {kl kc : IntKind} {p : Int} (ht : tlook tab t = some (.slice e k b zs)) (hx : av T x = .sc (.int kl p)) (hy : av T y = .sc (.int kc p))
    (hp : 0 ≤ p) (hb : (b : Int) * p ≤ 281474976710656 ∧ p ≤ 9223372036854775807) (hid : nid O 0 = some id) (hn : d < n)
    (h : WpL P n m G false ops l ⟨(d, .own id 0 0 p.toNat) :: T, O ++ [⟨(List.replicate p.toNat zs).flatten, 0, k, some e⟩]⟩ Q) :
    WpL P n m G false ops ({ dst := some d, op := .makeSlice t x y, type := tt, pos := pos, after := after, guard := none } :: l) ⟨T, O⟩ Q :=
  WpL.value rfl (fun a w hr => by
    obtain ⟨S, ι, F, hr⟩ := hr
    have hid : id = O.length := by have := nid_eq hid; omega
    subst hid
    obtain ⟨hu, i, z, hi, hz, hk, hby, hzk, hk0, rfl⟩ := hP.slice ht
    have hrun := run_make (P := P) w t e i z hu hi hz kl kc p p hp (Int.le_refl _) (by rw [hby]; exact hb.1) hb.2
    have hcl : (madeCells z.cells (p.toNat * i.size)).toList = (List.replicate p.toNat z.cells.toList).flatten := by rw [hk, ← hzk]; exact made_flat _ _
    have hsz : (madeCells z.cells (p.toNat * i.size)).size = p.toNat * k := by rw [size_madeCells, hk]
    have hlen : (List.replicate p.toNat (z.cells.toList.map zav)).flatten.length = p.toNat * k := by simp [hzk]
    have hr' := hr.alloc (ob := ⟨(List.replicate p.toNat (z.cells.toList.map zav)).flatten, 0, k, some e⟩) (cur := madeCells z.cells (p.toNat * i.size)) (t := e) (fz := (0, 0)) (Adds.alloc w _) (by
      show LRel _ _ _ _ (List.replicate p.toNat (z.cells.toList.map zav)).flatten ((madeCells z.cells (p.toNat * i.size)).toList.take _) []
      rw [hcl, List.take_of_length_le (by rw [hlen]; simp [hzk])]
      exact lrel_flat _ _) (by rw [hsz]; show (List.replicate p.toNat (z.cells.toList.map zav)).flatten.length ≤ _; rw [hlen]; exact Nat.le_refl _) (by simp) (by simp)
    refine ⟨.slice (some ⟨w.heap.size, 0, none⟩) p.toNat p.toNat, _, by simp only [execOp, hr.sc hx, hr.sc hy, Sem.run_bind, hrun, Result.andThen_ok, Sem.run_pure], _, _, _, hr'.put hn ?_⟩
    exact own_new (ob := ⟨(List.replicate p.toNat (z.cells.toList.map zav)).flatten, 0, k, some e⟩) hsz.symm (Nat.le_refl _) (by simp only [maxLen]; omega)) h

theorem flat_ints (n : Nat) : (List.replicate n [AV.sc (.int .i64 0)]).flatten = ints (List.replicate n 0) := by
  induction n with
  | zero => rfl
  | succ n ih => rw [List.replicate_succ, List.flatten_cons, ih, List.replicate_succ]; rfl
theorem flat_u8s (n : Nat) : (List.replicate n [AV.sc (.int .u8 0)]).flatten = u8s (List.replicate n 0) := by
  induction n with
  | zero => rfl
  | succ n ih => rw [List.replicate_succ, List.flatten_cons, ih, List.replicate_succ]; rfl

theorem WpL.makeInts (hP : TabOk P tab) {t e b id : Nat} {x y : Operand} {kl kc : IntKind} {p : Int} (ht : tlook tab t = some (.slice e 1 b [.sc (.int .i64 0)])) (hx : av T x = .sc (.int kl p)) (hy : av T y = .sc (.int kc p))
    (hp : 0 ≤ p) (hb : (b : Int) * p ≤ 281474976710656 ∧ p ≤ 9223372036854775807) (hid : nid O 0 = some id) (hn : d < n)
    (h : WpL P n m G false ops l ⟨(d, .own id 0 0 p.toNat) :: T, O ++ [⟨ints (List.replicate p.toNat 0), 0, 1, some e⟩]⟩ Q) :
    WpL P n m G false ops ({ dst := some d, op := .makeSlice t x y, type := tt, pos := pos, after := after, guard := none } :: l) ⟨T, O⟩ Q :=
  WpL.make hP ht hx hy hp hb hid hn (by rw [flat_ints]; exact h)
theorem WpL.makeU8s (hP : TabOk P tab) {t e b id : Nat} {x y : Operand} {kl kc : IntKind} {p : Int} (ht : tlook tab t = some (.slice e 1 b [.sc (.int .u8 0)])) (hx : av T x = .sc (.int kl p)) (hy : av T y = .sc (.int kc p))
    (hp : 0 ≤ p) (hb : (b : Int) * p ≤ 281474976710656 ∧ p ≤ 9223372036854775807) (hid : nid O 0 = some id) (hn : d < n)
    (h : WpL P n m G false ops l ⟨(d, .own id 0 0 p.toNat) :: T, O ++ [⟨u8s (List.replicate p.toNat 0), 0, 1, some e⟩]⟩ Q) :
    WpL P n m G false ops ({ dst := some d, op := .makeSlice t x y, type := tt, pos := pos, after := after, guard := none } :: l) ⟨T, O⟩ Q :=
  WpL.make hP ht hx hy hp hb hid hn (by rw [flat_u8s]; exact h)

theorem all_u8s (O : List AObj) (xs : List Int) : (u8s xs).all (oneB O) = true := by
  rw [List.all_eq_true]; intro V hV; simp only [u8s, List.mem_map] at hV; obtain ⟨x, _, rfl⟩ := hV; rfl
theorem all_ints (O : List AObj) (xs : List Int) : (ints xs).all (oneB O) = true := by
  rw [List.all_eq_true]; intro V hV; simp only [ints, List.mem_map] at hV; obtain ⟨x, _, rfl⟩ := hV; rfl
theorem all_bools (O : List AObj) (xs : List Bool) : (bools xs).all (oneB O) = true := by
  rw [List.all_eq_true]; intro V hV; simp only [bools, List.mem_map] at hV; obtain ⟨x, _, rfl⟩ := hV; rfl
theorem all_strs (O : List AObj) (xs : List (List UInt8)) : (strs xs).all (oneB O) = true := by
  rw [List.all_eq_true]; intro V hV; simp only [strs, List.mem_map] at hV; obtain ⟨x, _, rfl⟩ := hV; rfl
theorem lrel_u8s {S w ι O xs us f} (hl : LRel S w ι O (u8s xs) us f) : us = xs.map (Value.int .u8) := by
  induction xs generalizing us f with
  | nil => cases hl; rfl
  | cons x xs ih =>
    obtain ⟨v, vs', f1, f2, rfl, hv, hr, hf⟩ := LRel.uncons hl
    rw [hv.sc_eq, ih hr]; rfl

/-- '[]byte(s)'. -/
theorem WpL.toBytes (hP : TabOk P tab) {s t e b id : Nat} {zs : List AV} {x : Operand} {p : List UInt8} (hs : tlook tab s = some .string) (ht : tlook tab t = some (.slice e 1 b zs)) (he : tlook tab e = some (.int .u8))
    (hx : av T x = .sc (.string ⟨p.toArray⟩)) (hb : p.length ≤ 9223372036854775807) (hid : nid O 0 = some id) (hn : d < n)
    (h : WpL P n m G false ops l ⟨(d, .own id 0 0 p.length) :: T, O ++ [⟨u8s (p.map fun b => (b.toNat : Int)), 0, 1, none⟩]⟩ Q) :
    WpL P n m G false ops ({ dst := some d, op := .convert s t x, type := tt, pos := pos, after := after, guard := none } :: l) ⟨T, O⟩ Q :=
  WpL.value rfl (fun a w hr => by
    obtain ⟨S, ι, F, hr⟩ := hr
    have hid : id = O.length := by have := nid_eq hid; omega
    subst hid
    have hsu := (hP.ty hs).1
    have htu := (hP.slice ht).1
    have heu := (hP.ty he).1
    have hrun := Lib.run_convert_string_bytes (P := P) w s t e ⟨p.toArray⟩ hsu htu heu
    have hpl : (ByteArray.mk p.toArray).size = p.length := by simp [ByteArray.size]
    rw [hpl] at hrun
    have hA : Adds w (Lib.bytesWorld w e ⟨p.toArray⟩) (.cells (Lib.bytesCells w e ⟨p.toArray⟩) e ((Lib.bytesCells w e ⟨p.toArray⟩).size, (Lib.bytesCells w e ⟨p.toArray⟩).size + 1)) :=
      ⟨rfl, rfl, rfl, Lib.bytesWorld_size _ _ _, fun hb => Lib.bytesWorld_at_old _ _ _ _ hb, Lib.bytesWorld_at_new _ _ _⟩
    have hge := grownCap_ge w p.length 0 e
    have hsz : (Lib.bytesCells w e ⟨p.toArray⟩).size = grownCap w p.length 0 e := by
      simp [Lib.bytesCells, hpl]; omega
    have hl : ∀ q : List UInt8, LRel S w ι O (u8s (q.map fun b => (b.toNat : Int))) (q.map fun b => Value.int .u8 b.toNat) [] := by
      intro q
      induction q with
      | nil => exact .nil
      | cons c q ih => exact .sc ih
    have hr' := hr.alloc (ob := ⟨u8s (p.map fun b => (b.toNat : Int)), 0, 1, none⟩) hA (by
      have htk : (Lib.bytesCells w e ⟨p.toArray⟩).toList.take (u8s (p.map fun b => (b.toNat : Int))).length = p.map fun b => Value.int .u8 b.toNat := by
        simp only [Lib.bytesCells, Array.toList_append, Array.toList_map]
        refine List.take_left' (by simp)
      show LRel _ _ _ _ (u8s _) _ []
      rw [htk]; exact hl p) (by show (u8s _).length ≤ _; rw [hsz]; simp; exact hge) (by intro i hi; simp; omega) (by simp)
    refine ⟨.slice (some ⟨w.heap.size, 0, none⟩) p.length (grownCap w p.length 0 e), _, by simp only [execOp, hr.sc hx, Sem.run_bind, hrun, Result.andThen_ok, Sem.run_pure], _, _, _, hr'.put hn ?_⟩
    exact own_new (ob := ⟨u8s (p.map fun b => (b.toNat : Int)), 0, 1, none⟩) (k := (Lib.bytesCells w e ⟨p.toArray⟩).size) (by rw [hsz]; exact Nat.mul_one _) hge (grownCap_le_maxLen w p.length 0 e (by simp only [maxLen]; omega))) h

/-- 'string(b)'. -/
theorem WpL.ofBytes (hP : TabOk P tab) {s t e b c : Nat} {zs : List AV} {x : Operand} {Vx : AV} {xs : List Int} (hs : tlook tab s = some (.slice e 1 b zs)) (ht : tlook tab t = some .string) (he : tlook tab e = some (.int .u8))
    (hx : (av T x).force = some Vx) (hsrc : srcB O Vx = some (u8s xs, c)) (hc : xs.length = c) (hn : d < n)
    (h : WpL P n m G false ops l ⟨(d, .sc (.string ⟨(xs.map fun n => UInt8.ofNat n.toNat).toArray⟩)) :: T, O⟩ Q) :
    WpL P n m G false ops ({ dst := some d, op := .convert s t x, type := tt, pos := pos, after := after, guard := none } :: l) ⟨T, O⟩ Q :=
  WpL.pure rfl rfl hn (fun S ι F a w hr => by
    have hsu := (hP.slice hs).1
    have htu := (hP.ty ht).1
    have heu := (hP.ty he).1
    have hv := hr.eval x
    rw [show av (St.mk T O).T x = Vx from AV.force_eq hx] at hv
    have hone : (u8s xs).all (oneB O) = true := all_u8s O xs
    obtain ⟨us, hl, _, hcase⟩ := src_cells (k := 1) hr.objs hv hsrc (by simp [hc]) hone
    have hus : us = xs.map (Value.int .u8) := lrel_u8s hl
    refine ⟨_, ?_, .sc .nil⟩
    rcases hcase with ⟨ad, cp, h1, _, h2, h3⟩ | ⟨b', o, cap, h1, hcell⟩
    · subst h3
      have hx0 : xs = [] := by cases xs with | nil => rfl | cons x xs => simp at hus
      subst hx0
      have hrun : ∀ dst, P.underlying dst = some .string → (convert s dst (.slice ad 0 cp)).run P w = .ok (.string ByteArray.empty) w := by
        intro dst hd
        cases ad with
        | none => exact run_convert_bytes_nil (P := P) w s e hsu heu 0 cp dst hd
        | some ad =>
          rw [run_convert_bytes_string w s dst e _ 0 cp hsu heu hd]
          simp [Conv.bytesToString, loadCells, loadCellsFrom]
      have := hrun
      simp only [execOp, h1, Sem.run_bind, this t htu, Result.andThen_ok, Sem.run_pure]
      rfl
    · have := run_convert_bytes_arg (P := P) w s e hsu heu b' o c cap xs hc (by
        intro i hi
        rw [hcell i (by rw [hus]; simp; omega), hus]
        simp [hc, hi, List.getD]) t htu
      simp only [execOp, h1, Sem.run_bind, this, Result.andThen_ok, Sem.run_pure]
      rfl) h
end
end Go.Abs

/- Weaker states, contracts of functions, calls and returns. No condition. -/
namespace Go.Abs
open Go
set_option linter.unusedVariables false
set_option linter.unusedSimpArgs false

/-- No object is named in it (at its top). -/
def AV.still : AV → Bool
  | .own _ _ _ _ => false
  | .ptr _ _ _ => false
  | .agg _ => false
  | .tup _ => false
  | .fn _ (_ :: _) => false
  | .ifc _ (.sc _) => true
  | .ifc _ _ => false
  | _ => true

theorem still_any {S w ι O S' w' ι' V x f} (h : VRel S w ι O V x f) (hs : V.still = true) (O' : List AObj) (h1 : ∀ b, S b → S' b) (h2 : ∀ b, S b → w'.heap[b]? = w.heap[b]?) (hf : ∀ b ∈ f, w'.heap[b]? = w.heap[b]?) : VRel S' w' ι' O' V x f := by
  have hn : Later S w ι [] S' w' ι' O' := Later.none O' h1 h2
  cases h with
  | any r => cases r; exact .any .nil
  | sc r => cases r; exact .sc .nil
  | agg => simp [AV.still] at hs
  | tup => simp [AV.still] at hs
  | nilS r => cases r; exact .nilS .nil
  | imm0 h0 r => cases r; exact .imm0 h0 .nil
  | imm a b c d e g r => cases r; exact LRel.mono hn (.imm (O := []) a b c d e g .nil) hf
  | fre0 r => cases r; exact .fre0 .nil
  | fre a b c d e g i r => cases r; exact LRel.mono hn (.fre (O := []) a b c d e g i .nil) hf
  | own => simp [AV.still] at hs
  | ptr => simp [AV.still] at hs
  | iptr a b c r => cases r; exact LRel.mono hn (.iptr (O := []) a b c .nil) hf
  | fn a r =>
    rename_i ff ds us
    cases r
    cases ds with
    | nil => cases a; exact .fn .nil .nil
    | cons d ds => simp [AV.still] at hs
  | ifc a r =>
    rename_i t v x
    cases r
    cases v <;> simp [AV.still] at hs
    cases a with
    | sc r => cases r; exact .ifc (.sc .nil) .nil

/-- Values that lean on no object. -/
def AV.simple : AV → Bool
  | .sc _ => true
  | .nilS => true
  | .imm _ _ _ => true
  | .iptr _ _ => true
  | _ => false
theorem simple_all {S w ι O O'} : ∀ {ds : List AV} {us f}, LRel S w ι O ds us f → ds.all AV.simple = true → LRel S w ι O' ds us f
  | [], us, f, h, _ => by cases h; exact .nil
  | d :: ds, us, f, h, hs => by
    simp only [List.all_cons, Bool.and_eq_true] at hs
    obtain ⟨v, vs', f1, f2, rfl, hv, hr, rfl⟩ := h.uncons
    have hst : d.still = true := by cases d <;> simp_all [AV.simple, AV.still]
    exact LRel.cons (still_any hv hst O' (fun _ h => h) (fun _ _ => rfl) (fun _ _ => rfl)) (simple_all hr hs.2)
/-- The same values, less known of them, over other objects. -/
inductive Re (O O' : List AObj) : List AV → List AV → Prop
  | nil : Re O O' [] []
  | any {V vs us} : Re O O' vs us → Re O O' (V :: vs) (.any :: us)
  | keep {V V' vs us} : V = V' → V'.still = true → Re O O' vs us → Re O O' (V :: vs) (V' :: us)
  | fn {f ds vs us} : ds.all AV.simple = true → Re O O' vs us → Re O O' (.fn f ds :: vs) (.fn f ds :: us)
  | own {id ep ep' off len len' ob ob' vs us} : O[id]? = some ob → O'[id]? = some ob' → ob.ep = ep → ob'.ep = ep' → ob'.size = ob.size → len = len' → Re O O' vs us → Re O O' (.own id ep off len :: vs) (.own id ep' off len' :: us)
  | ptr {id ep ep' off ob ob' vs us} : O[id]? = some ob → O'[id]? = some ob' → ob.ep = ep → ob'.ep = ep' → Re O O' vs us → Re O O' (.ptr id ep off :: vs) (.ptr id ep' off :: us)
  | agg {ds es vs us} : Re O O' ds es → Re O O' vs us → Re O O' (.agg ds :: vs) (.agg es :: us)
  | tup {ds es vs us} : Re O O' ds es → Re O O' vs us → Re O O' (.tup ds :: vs) (.tup es :: us)

theorem Re.same {O O' : List AObj} {cs cs' : List AV} (h : cs = cs') (hs : cs'.all AV.still = true) : Re O O' cs cs' := by
  subst h
  induction cs with
  | nil => exact .nil
  | cons c cs ih =>
    simp only [List.all_cons, Bool.and_eq_true] at hs
    exact .keep rfl hs.1 (ih hs.2)

theorem still_ints (xs : List Int) : (ints xs).all AV.still = true := by
  rw [List.all_eq_true]; intro V hV; simp only [ints, List.mem_map] at hV; obtain ⟨x, _, rfl⟩ := hV; rfl
theorem still_u8s (xs : List Int) : (u8s xs).all AV.still = true := by
  rw [List.all_eq_true]; intro V hV; simp only [u8s, List.mem_map] at hV; obtain ⟨x, _, rfl⟩ := hV; rfl
theorem still_bools (xs : List Bool) : (bools xs).all AV.still = true := by
  rw [List.all_eq_true]; intro V hV; simp only [bools, List.mem_map] at hV; obtain ⟨x, _, rfl⟩ := hV; rfl
theorem still_strs (xs : List (List UInt8)) : (strs xs).all AV.still = true := by
  rw [List.all_eq_true]; intro V hV; simp only [strs, List.mem_map] at hV; obtain ⟨x, _, rfl⟩ := hV; rfl

/-- Over the same world and places the weaker list is met; what it owns was owned. -/
theorem Re.rel {O O' : List AObj} {S w ι} {vs us : List AV} (h : Re O O' vs us) : ∀ {xs f}, LRel S w ι O vs xs f → ∃ f', LRel S w ι O' us xs f' ∧ (∀ b ∈ f', b ∈ f) ∧ (f.Nodup → f'.Nodup) := by
  induction h with
  | nil => intro xs f hl; cases hl; exact ⟨[], .nil, by simp, by simp⟩
  | any _ ih =>
    intro xs f hl
    obtain ⟨v, vs', f1, f2, rfl, hv, hr, rfl⟩ := hl.uncons
    obtain ⟨f', h1, h2, h3⟩ := ih hr
    exact ⟨f', .any h1, fun b hb => List.mem_append_right _ (h2 b hb), fun hn => h3 (List.nodup_append.1 hn).2.1⟩
  | keep he hs _ ih =>
    intro xs f hl
    subst he
    obtain ⟨v, vs', f1, f2, rfl, hv, hr, rfl⟩ := hl.uncons
    obtain ⟨f', h1, h2, h3⟩ := ih hr
    refine ⟨f1 ++ f', LRel.cons (still_any hv hs O' (fun _ h => h) (fun _ _ => rfl) (fun _ _ => rfl)) h1, ?_, ?_⟩
    · intro b hb
      rcases List.mem_append.1 hb with hb | hb
      · exact List.mem_append_left _ hb
      · exact List.mem_append_right _ (h2 b hb)
    · intro hn
      obtain ⟨n1, n2, n3⟩ := List.nodup_append.1 hn
      exact List.nodup_append.2 ⟨n1, h3 n2, fun a ha b hb => n3 a ha b (h2 b hb)⟩
  | fn hs _ ih =>
    intro xs f hl
    obtain ⟨v, vs', f1, f2, rfl, hv, hr, rfl⟩ := hl.uncons
    obtain ⟨f', h1, h2, h3⟩ := ih hr
    refine ⟨f', ?_, fun b hb => List.mem_append_right _ (h2 b hb), fun hn => h3 (List.nodup_append.1 hn).2.1⟩
    cases hv with
    | fn a r => cases r; exact .fn (simple_all a hs) h1
  | own ho ho' he he' hsz hln _ ih =>
    intro xs f hl
    subst hln
    obtain ⟨v, vs', f1, f2, rfl, hv, hr, rfl⟩ := hl.uncons
    obtain ⟨f', h1, h2, h3⟩ := ih hr
    refine ⟨f', ?_, fun b hb => List.mem_append_right _ (h2 b hb), fun hn => h3 (List.nodup_append.1 hn).2.1⟩
    cases hv with
    | own q1 q2 q3 r =>
      rw [ho] at q1; cases q1
      exact .own ho' (by omega) (fun _ => by rw [hsz]; exact q3 he.symm) h1
  | ptr ho ho' he he' _ ih =>
    intro xs f hl
    obtain ⟨v, vs', f1, f2, rfl, hv, hr, rfl⟩ := hl.uncons
    obtain ⟨f', h1, h2, h3⟩ := ih hr
    refine ⟨f', ?_, fun b hb => List.mem_append_right _ (h2 b hb), fun hn => h3 (List.nodup_append.1 hn).2.1⟩
    cases hv with
    | ptr q1 q2 q3 r =>
      rw [ho] at q1; cases q1
      exact .ptr ho' (by omega) (fun _ => q3 he.symm) h1
  | agg _ _ ih1 ih2 =>
    intro xs f hl
    obtain ⟨v, vs', f1, f2, rfl, hv, hr, rfl⟩ := hl.uncons
    obtain ⟨us', rfl, ha⟩ := LRel.agg_inv hv
    obtain ⟨g', a1, a2, a3⟩ := ih1 ha
    obtain ⟨f', h1, h2, h3⟩ := ih2 hr
    refine ⟨g' ++ f', .agg a1 h1, ?_, ?_⟩
    · intro b hb
      rcases List.mem_append.1 hb with hb | hb
      · exact List.mem_append_left _ (a2 b hb)
      · exact List.mem_append_right _ (h2 b hb)
    · intro hn
      obtain ⟨n1, n2, n3⟩ := List.nodup_append.1 hn
      exact List.nodup_append.2 ⟨a3 n1, h3 n2, fun a ha b hb => n3 a (a2 a ha) b (h2 b hb)⟩
  | tup _ _ ih1 ih2 =>
    intro xs f hl
    obtain ⟨v, vs', f1, f2, rfl, hv, hr, rfl⟩ := hl.uncons
    obtain ⟨us', rfl, ha⟩ := LRel.tup_inv hv
    obtain ⟨g', a1, a2, a3⟩ := ih1 ha
    obtain ⟨f', h1, h2, h3⟩ := ih2 hr
    refine ⟨g' ++ f', .tup a1 h1, ?_, ?_⟩
    · intro b hb
      rcases List.mem_append.1 hb with hb | hb
      · exact List.mem_append_left _ (a2 b hb)
      · exact List.mem_append_right _ (h2 b hb)
    · intro hn
      obtain ⟨n1, n2, n3⟩ := List.nodup_append.1 hn
      exact List.nodup_append.2 ⟨a3 n1, h3 n2, fun a ha b hb => n3 a (a2 a ha) b (h2 b hb)⟩

inductive ReT (O O' : List AObj) (T : List (Nat × AV)) : List (Nat × AV) → Prop
  | nil : ReT O O' T []
  | cons {t V T'} : Re O O' [look T t] [V] → ReT O O' T T' → ReT O O' T ((t, V) :: T')

theorem ReT.at {O O' T T'} (h : ReT O O' T T') (t : Nat) : Re O O' [look T t] [look T' t] := by
  induction h with
  | nil => exact .any .nil
  | @cons k V T' hk _ ih =>
    by_cases he : k = t
    · subst he; rw [look_cons_same]; exact hk
    · rw [look_cons_other _ _ _ _ he]; exact ih

/-- The objects that are kept, from the first on. -/
inductive ReO (O O' : List AObj) : List AObj → List AObj → Prop
  | nil {os} : ReO O O' os []
  | cons {ob ob' os os'} : Re O O' ob.cells ob'.cells → (ob'.ty = none ∨ ob'.ty = ob.ty) → ReO O O' os os' → ReO O O' (ob :: os) (ob' :: os')

theorem ReO.at {O O' os os'} (h : ReO O O' os os') {id : Nat} {ob' : AObj} (hi : os'[id]? = some ob') : ∃ ob, os[id]? = some ob ∧ Re O O' ob.cells ob'.cells ∧ (ob'.ty = none ∨ ob'.ty = ob.ty) := by
  induction h generalizing id with
  | nil => simp at hi
  | cons h1 h2 _ ih =>
    cases id with
    | zero => simp at hi; subst hi; exact ⟨_, by simp, h1, h2⟩
    | succ id => simpa using ih (by simpa using hi)

theorem Weak.mk {m : Nat} {T T' : List (Nat × AV)} {O O' : List AObj} (hT : ReT O O' T T') (hO : ReO O O' O O') (hm : m ≤ O'.length) : Weak m ⟨T, O⟩ ⟨T', O'⟩ := by
  rintro n G a w ⟨S, ι, F, hr⟩
  have hex : ∀ id, ∃ f, ∀ ob', O'[id]? = some ob' → ObjAt S w ι O' ob' (ι id) f ∧ (∀ b ∈ f, b ∈ F id) ∧ f.Nodup := by
    intro id
    cases hi : O'[id]? with
    | none => exact ⟨[], by simp⟩
    | some ob' =>
      obtain ⟨ob, ho, hre, hty⟩ := hO.at hi
      have hid : id < O.length := (List.getElem?_eq_some_iff.1 ho).1
      have hob := hr.objs.obj id ob ho
      unfold ObjAt at hob
      cases hs : ι id with
      | none =>
        rw [hs] at hob
        refine ⟨[], fun ob2 h2 => ?_⟩
        cases h2
        refine ⟨?_, by simp, by simp⟩
        rw [hob.1] at hre
        unfold ObjAt
        cases hc : ob'.cells with
        | nil => exact ⟨rfl, rfl⟩
        | cons c cs => rw [hc] at hre; cases hre
      | some p =>
        obtain ⟨b, k⟩ := p
        rw [hs] at hob
        obtain ⟨cur, t, fz, f', hF, h1, h2, h3, h4, h5, h6⟩ := hob
        obtain ⟨g, g1, g2, g3⟩ := hre.rel h6
        have hnd : (b :: f').Nodup := by rw [← hF]; exact hr.objs.nodup id hid
        have hlen : ob'.cells.length = ob.cells.length := by
          have e1 := g1.len
          have e2 := h6.len
          omega
        refine ⟨b :: g, fun ob2 hh => ?_⟩
        cases hh
        refine ⟨⟨cur, t, fz, g, rfl, h1, h2, by omega, h4, fun e he => ?_, by rw [hlen]; exact g1⟩, ?_, ?_⟩
        · rcases hty with hty | hty
          · rw [hty] at he; cases he
          · exact h5 e (by rw [← hty]; exact he)
        · intro b' hb'
          rw [hF]
          rcases List.mem_cons.1 hb' with rfl | hb'
          · simp
          · simp [g2 b' hb']
        · exact List.nodup_cons.2 ⟨fun hb => (List.nodup_cons.1 hnd).1 (g2 b hb), g3 (List.nodup_cons.1 hnd).2⟩
  have hFx : ∃ F' : Nat → List Nat, ∀ id ob', O'[id]? = some ob' → ObjAt S w ι O' ob' (ι id) (F' id) ∧ (∀ b ∈ F' id, b ∈ F id) ∧ (F' id).Nodup :=
    ⟨fun id => (hex id).choose, fun id => (hex id).choose_spec⟩
  obtain ⟨F', hF'⟩ := hFx
  have hle : ∀ id, id < O'.length → id < O.length := by
    intro id hid
    obtain ⟨ob, ho, _⟩ := hO.at (List.getElem?_eq_getElem hid)
    exact (List.getElem?_eq_some_iff.1 ho).1
  refine ⟨S, ι, F', hr.defers, hr.size, fun t => ?_, ⟨fun id ob' h => (hF' id ob' h).1, fun id h => (hF' id _ (List.getElem?_eq_getElem h)).2.2, fun i j hi hj hij b hb hb' => ?_⟩, fun id h b hb => ?_, hr.base, hr.stable, hr.keeps, hr.spots, hm⟩
  · obtain ⟨f', h1, h2, _⟩ := (hT.at t).rel (hr.tmps t)
    have : f' = [] := List.eq_nil_iff_forall_not_mem.2 fun b hb => by simpa using h2 b hb
    subst this
    exact h1
  · have hi : i < O'.length := hi
    have hj : j < O'.length := hj
    exact hr.objs.apart i j (hle i hi) (hle j hj) hij b ((hF' i _ (List.getElem?_eq_getElem hi)).2.1 b hb) ((hF' j _ (List.getElem?_eq_getElem hj)).2.1 b hb')
  · have h : id < O'.length := h
    exact hr.foot id (hle id h) b ((hF' id _ (List.getElem?_eq_getElem h)).2.1 b hb)

/-! ### Contracts -/

/-- The function has a body and is entered. -/
def Runs (P : Program) (f : FuncId) : Prop := ∃ fn, P.funcs[f]? = some fn ∧ fn.body.isNone = false ∧ (fn.name == "runtime.NumGoroutine") = false

/-- CALLED WITH SUCH ARGUMENTS IT RETURNS 'r', its objects 'N' in new memory; nothing that was there turns. -/
def FnC (P : Program) (f : FuncId) (args : List AV) (N : List AObj) (r : AV) : Prop :=
  Runs P f ∧ ∀ (w : World) (S : Nat → Prop) (vs : List Value), (∀ b, S b → b < w.heap.size) → LRel S w (fun _ => none) [] args vs [] →
    Calls P f vs.toArray w fun e w' => ∃ v S' ι F, e = .returned v ∧ (∀ b, S b → S' b) ∧ (∀ b, S' b → S b ∨ w.heap.size ≤ b) ∧ (∀ b, S' b → b < w'.heap.size) ∧ ORel S' w' ι N F ∧
      (∀ id, id < N.length → ∀ b ∈ F id, w.heap.size ≤ b ∧ ¬ S' b ∧ b < w'.heap.size) ∧ VRel S' w' ι N r v [] ∧ Keeps w (fun _ => False) w'

/-- What an own value is to a callee that only reads. -/
inductive Snap (O : List AObj) : List AV → List AV → Prop
  | nil : Snap O [] []
  | any {V vs us} : Snap O vs us → Snap O (V :: vs) (.any :: us)
  | keep {V vs us} : V.still = true → V.nofre = true → Snap O vs us → Snap O (V :: vs) (V :: us)
  | nilI {s vs us} : Snap O vs us → Snap O (.nilS :: vs) (.imm s 0 [] :: us)
  | own {id ep len len' sz ob es vs us} : O[id]? = some ob → ob.ep = ep → ob.size = sz → len * ob.size = ob.cells.length → len = len' → Snap O ob.cells es → Snap O vs us → Snap O (.own id ep 0 len :: vs) (.imm sz len' es :: us)
  | fre {s l ds es vs us} : Snap O ds es → Snap O vs us → Snap O (.fre s l ds :: vs) (.imm s l es :: us)
  | ptr {id ep off ob es vs us} : O[id]? = some ob → ob.ep = ep → Snap O ob.cells es → Snap O vs us → Snap O (.ptr id ep off :: vs) (.iptr es off :: us)
  | agg {ds es vs us} : Snap O ds es → Snap O vs us → Snap O (.agg ds :: vs) (.agg es :: us)
  | fn {f ds es vs us} : Snap O ds es → Snap O vs us → Snap O (.fn f ds :: vs) (.fn f es :: us)

theorem Snap.same {O : List AObj} {cs cs' : List AV} (h : cs = cs') (hs : cs'.all AV.still = true) (hf : cs'.all AV.nofre = true) : Snap O cs cs' := by
  subst h
  induction cs with
  | nil => exact .nil
  | cons c cs ih =>
    simp only [List.all_cons, Bool.and_eq_true] at hs hf
    exact .keep hs.1 hf.1 (ih hs.2 hf.2)

theorem nofre_ints (xs : List Int) : (ints xs).all AV.nofre = true := by
  rw [List.all_eq_true]; intro V hV; simp only [ints, List.mem_map] at hV; obtain ⟨x, _, rfl⟩ := hV; rfl
theorem nofre_u8s (xs : List Int) : (u8s xs).all AV.nofre = true := by
  rw [List.all_eq_true]; intro V hV; simp only [u8s, List.mem_map] at hV; obtain ⟨x, _, rfl⟩ := hV; rfl
theorem nofre_bools (xs : List Bool) : (bools xs).all AV.nofre = true := by
  rw [List.all_eq_true]; intro V hV; simp only [bools, List.mem_map] at hV; obtain ⟨x, _, rfl⟩ := hV; rfl
theorem nofre_strs (xs : List (List UInt8)) : (strs xs).all AV.nofre = true := by
  rw [List.all_eq_true]; intro V hV; simp only [strs, List.mem_map] at hV; obtain ⟨x, _, rfl⟩ := hV; rfl

theorem cell_of_heap {w : World} {b : Nat} {cur : Array Value} {t : TypeId} {fz : Nat × Nat} (h : w.heap[b]? = some (.cells cur t fz)) (n i : Nat) (hi : i < (cur.toList.take n).length) : w.cell? ⟨b, 0 + i, none⟩ = (cur.toList.take n)[i]? := by
  rw [Nat.zero_add, cell_of_row w b i cur t fz h, List.getElem?_take, if_pos (by simp at hi; omega)]
  simp

theorem Snap.rel {O : List AObj} {S w ι ι'} {vs us : List AV} (h : Snap O vs us) : ∀ {F xs f}, ORel S w ι O F → (∀ b, S b → b < w.heap.size) → LRel S w ι O vs xs f → LRel (fun b => b < w.heap.size) w ι' [] us xs [] := by
  have blk : ∀ {b : Nat} {o : Obj}, w.heap[b]? = some o → b < w.heap.size := fun h => (Array.getElem?_eq_some_iff.1 h).1
  induction h with
  | nil => intro F xs f _ _ hl; cases hl; exact .nil
  | any _ ih =>
    intro F xs f ho hS hl
    obtain ⟨v, vs', f1, f2, rfl, hv, hr, rfl⟩ := hl.uncons
    exact .any (ih ho hS hr)
  | keep hs hn _ ih =>
    intro F xs f ho hS hl
    obtain ⟨v, vs', f1, f2, rfl, hv, hr, rfl⟩ := hl.uncons
    have := nofre_nil hv hn
    subst this
    have := LRel.cons (still_any hv hs [] hS (fun _ _ => rfl) (by simp)) (ih ho hS hr)
    simpa using this
  | fn _ _ ih1 ih2 =>
    intro F xs f ho hS hl
    obtain ⟨v, vs', f1, f2, rfl, hv, hr, rfl⟩ := hl.uncons
    cases hv with | fn a r => cases r; exact .fn (ih1 ho hS a) (ih2 ho hS hr)
  | nilI _ ih =>
    intro F xs f ho hS hl
    obtain ⟨v, vs', f1, f2, rfl, hv, hr, rfl⟩ := hl.uncons
    have := (LRel.slice_len hv).2.2 rfl
    subst this
    exact .imm0 (by simp) (ih ho hS hr)
  | @own id ep len len' sz ob es vs us hob hep hsz hlen hll _ _ ih1 ih2 =>
    intro F xs f ho hS hl
    subst hll hsz
    obtain ⟨v, vs', f1, f2, rfl, hv, hr, rfl⟩ := hl.uncons
    have hoa := ho.obj id ob hob
    unfold ObjAt at hoa
    cases hv with
    | own q1 q2 q3 r =>
      rw [hob] at q1; cases q1
      have hc := q3 hep.symm
      cases hs : ι id with
      | none =>
        rw [hs] at hc hoa
        obtain ⟨h1, _, h3⟩ := hc
        subst h1; subst h3
        have : es = [] := by
          have := ih1 (xs := []) (f := []) ho hS (by rw [hoa.1]; exact .nil)
          cases this; rfl
        subst this
        exact .imm0 (by simp) (ih2 ho hS hr)
      | some p =>
        obtain ⟨b, k⟩ := p
        rw [hs] at hc hoa
        obtain ⟨cap, h1, _, h3, h4⟩ := hc
        obtain ⟨cur, t, fz, f', _, hh, _, _, _, _, hl'⟩ := hoa
        subst h1
        have hi := ih1 ho hS hl'
        refine .imm (us := cur.toList.take ob.cells.length) (blk hh) (fun i hi => cell_of_heap hh _ i hi) hi ?_ h3 h4 (ih2 ho hS hr)
        rw [hlen, hl'.len, hi.len]
  | @fre s l ds es vs us _ _ ih1 ih2 =>
    intro F xs f ho hS hl
    obtain ⟨v, vs', f1, f2, rfl, hv, hr, rfl⟩ := hl.uncons
    cases hv with
    | fre0 r =>
      have := ih1 (xs := []) (f := []) ho hS .nil
      cases this
      exact .imm0 (by simp) (ih2 ho hS hr)
    | @fre _ _ b _ cap cur t fz _ us' f' _ _ _ hh0 hsz hu hl' h1 h2 h3 r =>
      have hh := hh0.1
      have hi := ih1 ho hS hl'.lift
      subst hu
      refine .imm (us := cur.toList.take ds.length) (blk hh) (fun i hi => cell_of_heap hh _ i hi) hi ?_ h2 h3 (ih2 ho hS hr)
      rw [h1, hl'.len, hi.len]
  | @ptr id ep off ob es vs us hob hep _ _ ih1 ih2 =>
    intro F xs f ho hS hl
    obtain ⟨v, vs', f1, f2, rfl, hv, hr, rfl⟩ := hl.uncons
    have hoa := ho.obj id ob hob
    unfold ObjAt at hoa
    cases hv with
    | ptr q1 q2 q3 r =>
      rw [hob] at q1; cases q1
      have hc := q3 hep.symm
      cases hs : ι id with
      | none => rw [hs] at hc; exact hc.elim
      | some p =>
        obtain ⟨b, k⟩ := p
        rw [hs] at hc hoa
        obtain ⟨cur, t, fz, f', _, hh, _, _, _, _, hl'⟩ := hoa
        have h1 : _ = Value.pointer (some ⟨b, off, none⟩) := hc
        subst h1
        have := LRel.iptr (O := []) (ι := ι') (off := off) (S := fun b => b < w.heap.size) (us := cur.toList.take ob.cells.length) (blk hh) (fun i hi => cell_of_heap hh _ i hi) (ih1 ho hS hl') (ih2 ho hS hr)
        rwa [Nat.zero_add] at this
  | agg _ _ ih1 ih2 =>
    intro F xs f ho hS hl
    obtain ⟨v, vs', f1, f2, rfl, hv, hr, rfl⟩ := hl.uncons
    obtain ⟨us', rfl, ha⟩ := LRel.agg_inv hv
    have := LRel.agg (ih1 ho hS ha) (ih2 ho hS hr)
    simpa using this

end Go.Abs

/- Calls under a contract, and a function's own contract out of its body. No condition. -/
namespace Go.Abs
open Go
set_option linter.unusedVariables false
set_option linter.unusedSimpArgs false

/-- Nothing that stays in old memory is named. -/
inductive Loc : List AV → Prop
  | nil : Loc []
  | any {vs} : Loc vs → Loc (.any :: vs)
  | sc {v vs} : Loc vs → Loc (.sc v :: vs)
  | nilS {vs} : Loc vs → Loc (.nilS :: vs)
  | own {id ep off len vs} : Loc vs → Loc (.own id ep off len :: vs)
  | fre {s l ds vs} : Loc ds → Loc vs → Loc (.fre s l ds :: vs)
  | agg {ds vs} : Loc ds → Loc vs → Loc (.agg ds :: vs)
  | tup {ds vs} : Loc ds → Loc vs → Loc (.tup ds :: vs)

theorem Loc.scs {cs : List AV} (h : ∀ V ∈ cs, ∃ v, V = .sc v) : Loc cs := by
  induction cs with
  | nil => exact .nil
  | cons c cs ih =>
    obtain ⟨v, rfl⟩ := h c (by simp)
    exact .sc (ih fun V hV => h V (by simp [hV]))
theorem Loc.ints (xs : List Int) : Loc (ints xs) := Loc.scs fun V hV => by simp only [Abs.ints, List.mem_map] at hV; obtain ⟨x, _, rfl⟩ := hV; exact ⟨_, rfl⟩
theorem Loc.u8s (xs : List Int) : Loc (u8s xs) := Loc.scs fun V hV => by simp only [Abs.u8s, List.mem_map] at hV; obtain ⟨x, _, rfl⟩ := hV; exact ⟨_, rfl⟩
theorem Loc.bools (xs : List Bool) : Loc (bools xs) := Loc.scs fun V hV => by simp only [Abs.bools, List.mem_map] at hV; obtain ⟨x, _, rfl⟩ := hV; exact ⟨_, rfl⟩
theorem Loc.strs (xs : List (List UInt8)) : Loc (strs xs) := Loc.scs fun V hV => by simp only [Abs.strs, List.mem_map] at hV; obtain ⟨x, _, rfl⟩ := hV; exact ⟨_, rfl⟩

/-- The same with all objects' numbers raised by k. -/
inductive Sh (k : Nat) : List AV → List AV → Prop
  | nil : Sh k [] []
  | keep {V vs us} : V.still = true → Sh k vs us → Sh k (V :: vs) (V :: us)
  | own {id ep off len vs us} : Sh k vs us → Sh k (.own id ep off len :: vs) (.own (id + k) ep off len :: us)
  | agg {ds es vs us} : Sh k ds es → Sh k vs us → Sh k (.agg ds :: vs) (.agg es :: us)
  | tup {ds es vs us} : Sh k ds es → Sh k vs us → Sh k (.tup ds :: vs) (.tup es :: us)

theorem Loc.rel {S1 S2 : Nat → Prop} {w ι cs} (hL : Loc cs) : ∀ {O vs f}, LRel S1 w ι O cs vs f → LRel S2 w ι O cs vs f := by
  induction hL with
  | nil => intro O vs f h; cases h; exact .nil
  | any _ ih => intro O vs f h; cases h with | any r => exact .any (ih r)
  | sc _ ih => intro O vs f h; cases h with | sc r => exact .sc (ih r)
  | nilS _ ih => intro O vs f h; cases h with | nilS r => exact .nilS (ih r)
  | own _ ih => intro O vs f h; cases h with | own a b c r => exact .own a b c (ih r)
  | fre _ _ ih1 ih2 =>
    intro O vs f h
    cases h with
    | fre0 r => exact .fre0 (ih2 r)
    | fre a b c d e g i r => exact .fre a b c (ih1 d) e g i (ih2 r)
  | agg _ _ ih1 ih2 => intro O vs f h; cases h with | agg a r => exact .agg (ih1 a) (ih2 r)
  | tup _ _ ih1 ih2 => intro O vs f h; cases h with | tup a r => exact .tup (ih1 a) (ih2 r)

theorem Sh.rel {k : Nat} {S w ι ι2} {N O2 : List AObj} (hι : ∀ id, ι2 (id + k) = ι id) (hO : ∀ id ob, N[id]? = some ob → O2[id + k]? = some ob) {vs us} (h : Sh k vs us) :
    ∀ {xs f}, LRel S w ι N vs xs f → LRel S w ι2 O2 us xs f := by
  induction h with
  | nil => intro xs f hl; cases hl; exact .nil
  | keep hs _ ih =>
    intro xs f hl
    obtain ⟨v, vs', f1, f2, rfl, hv, hr, rfl⟩ := hl.uncons
    exact LRel.cons (still_any hv hs O2 (fun _ h => h) (fun _ _ => rfl) (fun _ _ => rfl)) (ih hr)
  | own _ ih =>
    intro xs f hl
    cases hl with
    | own a b c r => exact .own (hO _ _ a) b (fun e => by rw [hι]; exact c e) (ih r)
  | agg _ _ ih1 ih2 => intro xs f hl; cases hl with | agg a r => exact .agg (ih1 a) (ih2 r)
  | tup _ _ ih1 ih2 => intro xs f hl; cases hl with | tup a r => exact .tup (ih1 a) (ih2 r)

theorem Sh.same (k : Nat) {cs : List AV} (h : cs.all AV.still = true) : Sh k cs cs := by
  induction cs with
  | nil => exact .nil
  | cons c cs ih =>
    simp only [List.all_cons, Bool.and_eq_true] at h
    exact .keep h.1 (ih h.2)

mutual
def AV.sh (k : Nat) : AV → AV
  | .own id ep off len => .own (id + k) ep off len
  | .agg ds => .agg (AV.shL k ds)
  | .tup ds => .tup (AV.shL k ds)
  | .any => .any
  | .sc v => .sc v
  | .nilS => .nilS
  | .imm s l ds => .imm s l ds
  | .fre s l ds => .fre s l ds
  | .ptr id ep off => .ptr id ep off
  | .iptr ds off => .iptr ds off
  | .fn f ds => .fn f ds
  | .ifc t v => .ifc t v
def AV.shL (k : Nat) : List AV → List AV
  | [] => []
  | V :: Vs => V.sh k :: AV.shL k Vs
end
mutual
def AV.shOk : AV → Bool
  | .own _ _ _ _ => true
  | .agg ds => AV.shOkL ds
  | .tup ds => AV.shOkL ds
  | V => V.still
def AV.shOkL : List AV → Bool
  | [] => true
  | V :: Vs => V.shOk && AV.shOkL Vs
end
theorem AV.sh_still (k : Nat) {V : AV} (h : V.still = true) : V.sh k = V := by
  cases V <;> simp_all [AV.still, AV.sh]
mutual
theorem Sh.of1 (k : Nat) : ∀ (V : AV), V.shOk = true → ∀ {vs us : List AV}, Sh k vs us → Sh k (V :: vs) (V.sh k :: us)
  | .own id ep off len, _, _, _, hr => by rw [AV.sh]; exact .own hr
  | .agg ds, h, _, _, hr => by rw [AV.sh]; exact .agg (Sh.ofL k ds (by simpa [AV.shOk] using h)) hr
  | .tup ds, h, _, _, hr => by rw [AV.sh]; exact .tup (Sh.ofL k ds (by simpa [AV.shOk] using h)) hr
  | .any, h, _, _, hr => by rw [AV.sh]; exact .keep rfl hr
  | .sc v, h, _, _, hr => by rw [AV.sh]; exact .keep rfl hr
  | .nilS, h, _, _, hr => by rw [AV.sh]; exact .keep rfl hr
  | .imm s l ds, h, _, _, hr => by rw [AV.sh]; exact .keep rfl hr
  | .fre s l ds, h, _, _, hr => by rw [AV.sh]; exact .keep rfl hr
  | .ptr id ep off, h, _, _, hr => by simp [AV.shOk, AV.still] at h
  | .iptr ds off, h, _, _, hr => by rw [AV.sh]; exact .keep rfl hr
  | .fn f ds, h, _, _, hr => by rw [AV.sh]; exact .keep (by simpa [AV.shOk] using h) hr
  | .ifc t v, h, _, _, hr => by rw [AV.sh]; exact .keep (by simpa [AV.shOk] using h) hr
theorem Sh.ofL (k : Nat) : ∀ (Vs : List AV), AV.shOkL Vs = true → Sh k Vs (AV.shL k Vs)
  | [], _ => by rw [AV.shL]; exact .nil
  | V :: Vs, h => by
    rw [AV.shL]
    simp only [AV.shOkL, Bool.and_eq_true] at h
    exact Sh.of1 k V h.1 (Sh.ofL k Vs h.2)
end

/-- Objects that a callee hands back: their cells name no object and no old memory. -/
inductive Out : List AObj → Prop
  | nil : Out []
  | cons {ob N} : ob.cells.all AV.still = true → Loc ob.cells → Out N → Out (ob :: N)

theorem Out.at {N} (h : Out N) {id : Nat} {ob : AObj} (hi : N[id]? = some ob) : ob.cells.all AV.still = true ∧ Loc ob.cells := by
  induction h generalizing id with
  | nil => simp at hi
  | cons h1 h2 _ ih =>
    cases id with
    | zero => simp at hi; subst hi; exact ⟨h1, h2⟩
    | succ id => exact ih (by simpa using hi)

theorem Out.ints {xs : List Int} {ty : Option TypeId} : Out [⟨ints xs, 0, 1, ty⟩] := .cons (still_ints xs) (Loc.ints xs) .nil
theorem Out.u8s {xs : List Int} {ty : Option TypeId} : Out [⟨u8s xs, 0, 1, ty⟩] := .cons (still_u8s xs) (Loc.u8s xs) .nil
theorem Out.bools {xs : List Bool} {ty : Option TypeId} : Out [⟨bools xs, 0, 1, ty⟩] := .cons (still_bools xs) (Loc.bools xs) .nil
theorem Out.strs {xs : List (List UInt8)} {ty : Option TypeId} : Out [⟨strs xs, 0, 1, ty⟩] := .cons (still_strs xs) (Loc.strs xs) .nil

section
variable {P : Program} {n m : Nat} {G : Ctx} {T : List (Nat × AV)} {O : List AObj} {Q : Exit → St → Prop} {ops : Array Oper} {l : List Oper} {d : Nat} {tt : TypeId} {pos : String} {after : Array Edge} {tab : List (Nat × Ty)}

/-- A call under a contract; what the caller owns the callee reads. -/
theorem WpL.callX {f : FuncId} {o : Oper} {Vs : List AV} {As : List AV} {N : List AObj} {r r' : AV} {id : Nat} (hg : o.guard = none) (hd : o.dst = some d) (hc : FnC P f As N r) (hs : Snap O Vs As) (hloc : Loc [r]) (hN : Out N)
    (hex0 : Runs P f → ∀ S ι F a w, RelAt n m G S ι F ⟨T, O⟩ a w → ∃ vs, LRel S w ι O Vs vs [] ∧ (execOp a.eval o).run P w = .ok (.enter f vs.toArray) w)
    (hid : nid O 0 = some id) (hok : r.shOk = true) (hre : (r.sh id).force = some r') (hn : d < n) (h : WpL P n m G false ops l ⟨(d, r') :: T, O ++ N⟩ Q) :
    WpL P n m G false ops (o :: l) ⟨T, O⟩ Q :=
  WpL.op hg (fun a w hr => by
    obtain ⟨S, ι, F, hr⟩ := hr
    have hid : id = O.length := by have := nid_eq hid; omega
    subst hid
    have hr' : Sh O.length [r] [r'] := by rw [← AV.force_eq hre]; exact Sh.of1 _ r hok .nil
    obtain ⟨hruns, hcall⟩ := hc
    obtain ⟨vs, hl, hex⟩ := hex0 hruns S ι F a w hr
    have hsn := hs.rel (ι' := fun _ => none) hr.objs hr.stable hl
    unfold Oper.wp
    rw [hex]
    refine (hcall w (fun b => b < w.heap.size) vs (fun _ h => h) hsn).mono fun e w' he => ?_
    obtain ⟨v, S', ι', F', rfl, hS1, hS2, hS3, hO', hF', hv, hk⟩ := he
    show Rel n m G ⟨(d, r') :: T, O ++ N⟩ (a.put o.dst v) w'
    rw [hd]
    have hold : ∀ b, b < w.heap.size → w'.heap[b]? = w.heap[b]? := fun b hb => hk.block b hb (fun h => h)
    let S2 : Nat → Prop := fun b => S b ∨ (S' b ∧ w.heap.size ≤ b)
    let ι2 : Nat → Spot := fun id => if id < O.length then ι id else ι' (id - O.length)
    let F2 : Nat → List Nat := fun id => if id < O.length then F id else F' (id - O.length)
    have hι : ∀ id, ι2 (id + O.length) = ι' id := fun id => by
      show (if _ then _ else _) = _
      rw [if_neg (by omega), Nat.add_sub_cancel]
    have hFn : ∀ id, F2 (id + O.length) = F' id := fun id => by
      show (if _ then _ else _) = _
      rw [if_neg (by omega), Nat.add_sub_cancel]
    have hON : ∀ id ob, N[id]? = some ob → (O ++ N)[id + O.length]? = some ob := fun id ob h => by
      rw [List.getElem?_append_right (by omega), Nat.add_sub_cancel]; exact h
    have hlat : Later S w ι O S2 w' ι2 (O ++ N) := by
      refine ⟨fun b h => .inl h, fun b hb => hold b (hr.stable b hb), fun id ob h => ?_⟩
      have hlt : id < O.length := (List.getElem?_eq_some_iff.1 h).1
      exact ⟨ob, by rw [List.getElem?_append_left hlt]; exact h, .inr ⟨rfl, rfl, by show (if _ then _ else _) = _; rw [if_pos hlt]⟩⟩
    have hnewF : ∀ id, id < N.length → ∀ b, b ∈ F' id → w.heap.size ≤ b ∧ ¬ S2 b ∧ b < w'.heap.size := by
      intro id hid b hb
      obtain ⟨h1, h2, h3⟩ := hF' id hid b hb
      refine ⟨h1, ?_, h3⟩
      rintro (h | ⟨h, _⟩)
      · have := hr.stable b h; omega
      · exact h2 h
    have hcell : ∀ (id : Nat) (ob : AObj), N[id]? = some ob → ∀ us g, LRel S' w' ι' N ob.cells us g → LRel S2 w' ι2 (O ++ N) ob.cells us g := fun id ob hi us g hl =>
      Loc.rel (hN.at hi).2 ((Sh.same O.length (hN.at hi).1).rel hι hON hl)
    have hrel : RelAt n m G S2 ι2 F2 ⟨T, O ++ N⟩ a w' := by
      refine ⟨hr.defers, hr.size, fun t => (hr.tmps t).mono hlat (by simp), ⟨fun id ob h => ?_, fun id h => ?_, fun i j hi hj hij b hb => ?_⟩, fun id h b hb => ?_, ⟨fun b hb => .inl (hr.base.1 b hb), ?_⟩, ?_, ?_, fun id h => ?_, ?_⟩
      · have h : (O ++ N)[id]? = some ob := h
        by_cases hlt : id < O.length
        · rw [List.getElem?_append_left hlt] at h
          rw [show ι2 id = ι id from if_pos hlt, show F2 id = F id from if_pos hlt]
          have ho := hr.objs.obj id ob h
          unfold ObjAt at ho ⊢
          cases hs : ι id with
          | none => rw [hs] at ho; exact ho
          | some p =>
            obtain ⟨b, k⟩ := p
            rw [hs] at ho
            obtain ⟨cur', t', fz', f2, h1, h2, h3, h4, h5, h6, h7⟩ := ho
            have key : ∀ b', b' ∈ F id → w'.heap[b']? = w.heap[b']? := fun b' hb' => hold b' (hr.foot id hlt b' hb').2.2
            exact ⟨cur', t', fz', f2, h1, by rw [key b (by rw [h1]; simp)]; exact h2, h3, h4, h5, h6, h7.mono hlat fun b' hb' => key b' (by rw [h1]; simp [hb'])⟩
        · rw [List.getElem?_append_right (by omega)] at h
          rw [show ι2 id = ι' (id - O.length) from if_neg hlt, show F2 id = F' (id - O.length) from if_neg hlt]
          have ho := hO'.obj _ ob h
          unfold ObjAt at ho ⊢
          cases hs : ι' (id - O.length) with
          | none => rw [hs] at ho; exact ho
          | some p =>
            obtain ⟨b, k⟩ := p
            rw [hs] at ho
            obtain ⟨cur', t', fz', f2, h1, h2, h3, h4, h5, h6, h7⟩ := ho
            exact ⟨cur', t', fz', f2, h1, h2, h3, h4, h5, h6, hcell _ ob h _ _ h7⟩
      · have h : id < (O ++ N).length := h
        rw [List.length_append] at h
        by_cases hlt : id < O.length
        · rw [show F2 id = F id from if_pos hlt]; exact hr.objs.nodup id hlt
        · rw [show F2 id = F' (id - O.length) from if_neg hlt]; exact hO'.nodup _ (by omega)
      · have hi : i < (O ++ N).length := hi
        have hj : j < (O ++ N).length := hj
        rw [List.length_append] at hi hj
        by_cases h1 : i < O.length <;> by_cases h2 : j < O.length
        · rw [show F2 i = F i from if_pos h1] at hb; rw [show F2 j = F j from if_pos h2]
          exact hr.objs.apart i j h1 h2 hij b hb
        · rw [show F2 i = F i from if_pos h1] at hb; rw [show F2 j = F' (j - O.length) from if_neg h2]
          intro hb'
          have := (hr.foot i h1 b hb).2.2
          have := (hF' _ (by omega) b hb').1
          omega
        · rw [show F2 i = F' (i - O.length) from if_neg h1] at hb; rw [show F2 j = F j from if_pos h2]
          intro hb'
          have := (hr.foot j h2 b hb').2.2
          have := (hF' _ (by omega) b hb).1
          omega
        · rw [show F2 i = F' (i - O.length) from if_neg h1] at hb; rw [show F2 j = F' (j - O.length) from if_neg h2]
          exact hO'.apart _ _ (by omega) (by omega) (by omega) b hb
      · have h : id < (O ++ N).length := h
        rw [List.length_append] at h
        by_cases hlt : id < O.length
        · rw [show F2 id = F id from if_pos hlt] at hb
          obtain ⟨q1, q2, q3⟩ := hr.foot id hlt b hb
          refine ⟨q1, ?_, by have := hk.size; omega⟩
          rintro (h' | ⟨_, h'⟩)
          · exact q2 h'
          · omega
        · rw [show F2 id = F' (id - O.length) from if_neg hlt] at hb
          obtain ⟨q1, q2, q3⟩ := hnewF _ (by omega) b hb
          exact ⟨.inr (by have := hr.keeps.size; omega), q2, q3⟩
      · rintro b (h' | ⟨_, h'⟩)
        · exact hr.base.2 b h'
        · exact .inr (by have := hr.keeps.size; omega)
      · rintro b (h' | ⟨h', _⟩)
        · have := hr.stable b h'; have := hk.size; omega
        · exact hS3 b h'
      · exact ⟨hk.os.trans hr.keeps.os, hk.tape.trans hr.keeps.tape, hk.output.trans hr.keeps.output, by have := hr.keeps.size; have := hk.size; omega, fun b hb hM => by
          rw [hold b (by have := hr.keeps.size; omega)]; exact hr.keeps.block b hb hM⟩
      · have hm : m ≤ O.length := hr.mle
        rw [show ι2 id = ι id from if_pos (by omega)]; exact hr.spots id h
      · have hm : m ≤ O.length := hr.mle
        show m ≤ (O ++ N).length
        rw [List.length_append]; omega
    exact ⟨S2, ι2, F2, hrel.put hn (Loc.rel (S1 := S') (S2 := S2) (by
      -- the shifted value names no old memory either
      have : ∀ {vs us}, Sh O.length vs us → Loc vs → Loc us := by
        intro vs us hsh
        induction hsh with
        | nil => intro h; exact h
        | keep hs _ ih =>
          intro h
          cases h with
          | any h => exact .any (ih h)
          | sc h => exact .sc (ih h)
          | nilS h => exact .nilS (ih h)
          | own h => simp [AV.still] at hs
          | fre h1 h2 => exact .fre h1 (ih h2)
          | agg => simp [AV.still] at hs
          | tup => simp [AV.still] at hs
        | own _ ih => intro h; cases h with | own h => exact .own (ih h)
        | agg _ _ ih1 ih2 => intro h; cases h with | agg a b => exact .agg (ih1 a) (ih2 b)
        | tup _ _ ih1 ih2 => intro h; cases h with | tup a b => exact .tup (ih1 a) (ih2 b)
      exact this hr' hloc) (hr'.rel hι hON hv))⟩) h

theorem WpL.call {f : FuncId} {xs : List Operand} {ats : Array TypeId} {As : List AV} {N : List AObj} {r r' : AV} {id : Nat} (hc : FnC P f As N r) (hs : Snap O (xs.map (av T)) As) (hloc : Loc [r]) (hN : Out N)
    (hid : nid O 0 = some id) (hok : r.shOk = true) (hre : (r.sh id).force = some r') (hn : d < n) (h : WpL P n m G false ops l ⟨(d, r') :: T, O ++ N⟩ Q) :
    WpL P n m G false ops ({ dst := some d, op := .call { callee := .value (.func f), args := xs.toArray, argTypes := ats }, type := tt, pos := pos, after := after, guard := none } :: l) ⟨T, O⟩ Q :=
  WpL.callX rfl rfl hc hs hloc hN (fun ⟨fn, hf, hb, hnm⟩ S ι F a w hr => by
    refine ⟨xs.map a.eval, hr.evals xs, ?_⟩
    simp only [execOp, resolve, Act.eval, Deferred.ofValue, invoke, callFunc, Sem.run_bind, Sem.run_pure, Result.andThen_ok, program, Sem.run, hf, hnm, hb, Bool.false_eq_true, if_false]
    simp) hid hok hre hn h
/-- A call of a function value. -/
theorem WpL.callV {f : FuncId} {x : Operand} {caps : List AV} {xs : List Operand} {ats : Array TypeId} {As : List AV} {N : List AObj} {r r' : AV} {id : Nat} (hx : av T x = .fn f caps) (hc : FnC P f As N r) (hs : Snap O (xs.map (av T) ++ caps) As) (hloc : Loc [r]) (hN : Out N)
    (hid : nid O 0 = some id) (hok : r.shOk = true) (hre : (r.sh id).force = some r') (hn : d < n) (h : WpL P n m G false ops l ⟨(d, r') :: T, O ++ N⟩ Q) :
    WpL P n m G false ops ({ dst := some d, op := .call { callee := .value x, args := xs.toArray, argTypes := ats }, type := tt, pos := pos, after := after, guard := none } :: l) ⟨T, O⟩ Q :=
  WpL.callX rfl rfl hc hs hloc hN (fun ⟨fn, hf, hb, hnm⟩ S ι F a w hr => by
    have hv := hr.eval x
    rw [show av (St.mk T O).T x = _ from hx] at hv
    obtain ⟨us, hu, hxe⟩ : ∃ us : List Value, LRel S w ι O caps us [] ∧ a.eval x = .func (.func f) #[] us.toArray := by
      generalize a.eval x = y at hv
      cases hv with | fn p q => exact ⟨_, p, rfl⟩
    refine ⟨xs.map a.eval ++ us, by simpa using (hr.evals xs).append hu, ?_⟩
    have hxe' : Act.eval a x = .func (.func f) #[] us.toArray := hxe
    simp only [execOp, resolve, hxe', Deferred.ofValue, invoke, callFunc, Sem.run_bind, Sem.run_pure, Result.andThen_ok, program, Sem.run, hf, hnm, hb, Bool.false_eq_true, if_false]
    simp) hid hok hre hn h

/-! ### Returns -/

def resSem (tmps : Array Value) : ResultVar → Sem Value
  | .tmp t => pure (tmps.getD t undef)
  | .cell a t => do loadVar t (← asAddr (tmps.getD a undef))

theorem results_eq (fn : Func) (tmps : Array Value) : results fn tmps = (do let vs ← fn.results.mapM (resSem tmps); pure (if h : vs.size = 1 then vs[0] else .tuple vs)) := by
  have : (fun r => match r with
    | ResultVar.tmp t => pure (tmps.getD t undef)
    | ResultVar.cell a t => do loadVar t (← asAddr (tmps.getD a undef))) = resSem tmps := by
    funext r; cases r <;> rfl
  unfold results
  rw [← this]
  rfl

theorem run_results1 {fn : Func} {tmps : Array Value} {r1 : ResultVar} {v1 : Value} {w : World} (h : fn.results = #[r1]) (h1 : (resSem tmps r1).run P w = .ok v1 w) : (results fn tmps).run P w = .ok v1 w := by
  rw [results_eq, h]; simp [Sem.run_bind, h1]
theorem run_results2 {fn : Func} {tmps : Array Value} {r1 r2 : ResultVar} {v1 v2 : Value} {w : World} (h : fn.results = #[r1, r2]) (h1 : (resSem tmps r1).run P w = .ok v1 w) (h2 : (resSem tmps r2).run P w = .ok v2 w) :
    (results fn tmps).run P w = .ok (.tuple #[v1, v2]) w := by
  rw [results_eq, h]; simp [Sem.run_bind, h1, h2]
theorem run_results3 {fn : Func} {tmps : Array Value} {r1 r2 r3 : ResultVar} {v1 v2 v3 : Value} {w : World} (h : fn.results = #[r1, r2, r3]) (h1 : (resSem tmps r1).run P w = .ok v1 w) (h2 : (resSem tmps r2).run P w = .ok v2 w) (h3 : (resSem tmps r3).run P w = .ok v3 w) :
    (results fn tmps).run P w = .ok (.tuple #[v1, v2, v3]) w := by
  rw [results_eq, h]; simp [Sem.run_bind, h1, h2, h3]

/-- What a result variable holds. -/
inductive ResV (tab : List (Nat × Ty)) (T : List (Nat × AV)) (O : List AObj) : ResultVar → AV → Prop
  | tmp {t V} : (look T t).force = some V → ResV tab T O (.tmp t) V
  | cell {t ty offs k zs cells off ds} : tlook tab ty = some (.struct offs k zs) → reg O (look T t) = some (cells, off) → (cells.drop off).take k = ds → ds.length = k → ds.all AV.nofre = true → ResV tab T O (.cell t ty) (.agg ds)
  | cellP {t ty tp cells off V} : tlook tab ty = some tp → tp.plain = true → reg O (look T t) = some (cells, off) → cells[off]? = some V → V.nofre = true → ResV tab T O (.cell t ty) V

theorem load_agg (hP : TabOk P tab) {S ι F σ a w} (hr : RelAt n m G S ι F σ a w) {V : AV} {x : Value} (hv : VRel S w ι σ.O V x []) {t : Nat} {offs : List Nat} {k : Nat} {zs cells ds : List AV} {off : Nat} (ht : tlook tab t = some (.struct offs k zs))
    (hm : reg σ.O V = some (cells, off)) (hd : (cells.drop off).take k = ds) (hk : ds.length = k) (hf : ds.all AV.nofre = true) : ∃ b o v, x = .pointer (some ⟨b, o, none⟩) ∧ (loadVar t ⟨b, o, none⟩).run P w = .ok v w ∧ VRel S w ι σ.O (.agg ds) v [] := by
  obtain ⟨b, o, us, g, hx, hc, hl⟩ := reg_cells hr.objs hv hm
  obtain ⟨g1, h1, _, _⟩ := hl.drop off
  obtain ⟨g2, h2, _, _⟩ := h1.take k
  rw [hd] at h2
  have := lrel_nofre_nil h2 hf
  subst this
  refine ⟨b, o + off, .agg ((us.drop off).take k).toArray, hx, ?_, by simpa using LRel.agg h2 .nil⟩
  obtain ⟨fs, hu, ⟨z, hz, _⟩, _⟩ := hP.ty ht
  have hagg : (isAgg t).run P w = .ok true w := by simp [isAgg, run_underlying hu]
  obtain ⟨i, hi, hi2⟩ : ∃ i, P.info? t = some i ∧ i.size = k := by
    cases hh : P.info? t with
    | none => simp [hh] at hz
    | some i => rw [hh] at hz; simp at hz; exact ⟨i, rfl, hz.2⟩
  have hlen : ((us.drop off).take k).length = k := by rw [← h2.len, hk]
  have hcs : ∀ j v, ((us.drop off).take k)[j]? = some v → w.cell? ((⟨b, o + off, none⟩ : Addr).add j) = some v := by
    intro j v hj
    have hjk : j < ((us.drop off).take k).length := (List.getElem?_eq_some_iff.1 hj).1
    rw [hlen] at hjk
    rw [List.getElem?_take, if_pos hjk, List.getElem?_drop] at hj
    have hlt : off + j < us.length := (List.getElem?_eq_some_iff.1 hj).1
    have := hc (off + j) hlt
    rw [hj] at this
    rw [addr_add, Nat.add_assoc]; exact this
  have hld : (loadCells ⟨b, o + off, none⟩ k).run P w = .ok ((us.drop off).take k).toArray w := by
    have := run_loadCells_list (P := P) w ⟨b, o + off, none⟩ _ hcs
    rwa [hlen] at this
  simp [loadVar, hagg, run_sizeOf hi hi2, hld, Sem.run_bind]

theorem load_plain (hP : TabOk P tab) {S ι F σ a w} (hr : RelAt n m G S ι F σ a w) {V0 : AV} {x : Value} (hv0 : VRel S w ι σ.O V0 x []) {t : Nat} {tp : Ty} {cells : List AV} {V : AV} {off : Nat} (ht : tlook tab t = some tp) (hp : tp.plain = true)
    (hm : reg σ.O V0 = some (cells, off)) (hv : cells[off]? = some V) (hf : V.nofre = true) : ∃ b o v, x = .pointer (some ⟨b, o, none⟩) ∧ (loadVar t ⟨b, o, none⟩).run P w = .ok v w ∧ VRel S w ι σ.O V v [] := by
  obtain ⟨b, o, us, g, hx, hc, hl⟩ := reg_cells hr.objs hv0 hm
  obtain ⟨v, g', hv', hV, _⟩ := hl.get hv
  have := nofre_nil hV hf
  subst this
  refine ⟨b, o + off, v, hx, ?_, hV⟩
  have hlt : off < us.length := (List.getElem?_eq_some_iff.1 hv').1
  have hcell : w.cell? ⟨b, o + off, none⟩ = some v := by rw [hc off hlt, hv']
  simp [loadVar, run_isAgg_plain (hP.ty ht) hp, load, hcell, Sem.run_bind, Sem.run]

theorem ResV.rel (hP : TabOk P tab) {S ι F a w} (hr : RelAt n m G S ι F ⟨T, O⟩ a w) {r : ResultVar} {V : AV} (h : ResV tab T O r V) : ∃ v, (resSem a.tmps r).run P w = .ok v w ∧ VRel S w ι O V v [] := by
  cases h with
  | tmp ht => exact ⟨_, rfl, by rw [← AV.force_eq ht]; exact hr.tmps _⟩
  | cell ht hm hd hk hf =>
    obtain ⟨b, o, v, hx, hl, hv⟩ := load_agg hP hr (hr.tmps _) ht hm hd hk hf
    refine ⟨v, ?_, hv⟩
    simp only [resSem, Sem.run_bind]
    rw [hx]
    simp [asAddr, hl]
  | cellP ht hp hm hd hf =>
    obtain ⟨b, o, v, hx, hl, hv⟩ := load_plain hP hr (hr.tmps _) ht hp hm hd hf
    refine ⟨v, ?_, hv⟩
    simp only [resSem, Sem.run_bind]
    rw [hx]
    simp [asAddr, hl]

/-- Values handed out: objects by their place in 'ids'; 'none': a nil slice. -/
inductive Ex (O : List AObj) (ids : List (Option Nat)) : List AV → List AV → Prop
  | nil : Ex O ids [] []
  | keep {V V' vs us} : V = V' → V'.still = true → V'.nofre = true → Ex O ids vs us → Ex O ids (V :: vs) (V' :: us)
  | own {id ep off len len' j ob vs us} : ids[j]? = some (some id) → O[id]? = some ob → ob.ep = ep → len = len' → Ex O ids vs us → Ex O ids (.own id ep off len :: vs) (.own j 0 off len' :: us)
  | nilO {j vs us} : ids[j]? = some none → Ex O ids vs us → Ex O ids (.nilS :: vs) (.own j 0 0 0 :: us)
  | agg {ds es vs us} : Ex O ids ds es → Ex O ids vs us → Ex O ids (.agg ds :: vs) (.agg es :: us)
  | tup {ds es vs us} : Ex O ids ds es → Ex O ids vs us → Ex O ids (.tup ds :: vs) (.tup es :: us)

inductive NEx (O : List AObj) : List (Option Nat) → List AObj → Prop
  | nil : NEx O [] []
  | gone {ids N ob'} : ob'.cells = [] → ob'.ep = 0 → NEx O ids N → NEx O (none :: ids) (ob' :: N)
  | obj {id ids N ob ob'} : O[id]? = some ob → ob.cells = ob'.cells → ob'.cells.all AV.still = true → ob'.ep = 0 → ob'.size = ob.size → (ob'.ty = none ∨ ob'.ty = ob.ty) → NEx O ids N → NEx O (some id :: ids) (ob' :: N)

theorem NEx.len {O ids N} (h : NEx O ids N) : ids.length = N.length := by induction h <;> simp_all

theorem NEx.at {O ids N} (h : NEx O ids N) {j : Nat} {ob' : AObj} (hj : N[j]? = some ob') : ob'.ep = 0 ∧ ((ids[j]? = some none ∧ ob'.cells = []) ∨
    ∃ id ob, ids[j]? = some (some id) ∧ O[id]? = some ob ∧ ob.cells = ob'.cells ∧ ob'.cells.all AV.still = true ∧ ob'.size = ob.size ∧ (ob'.ty = none ∨ ob'.ty = ob.ty)) := by
  induction h generalizing j with
  | nil => simp at hj
  | gone h1 h2 _ ih =>
    cases j with
    | zero => simp at hj; subst hj; exact ⟨h2, .inl ⟨by simp, h1⟩⟩
    | succ j => simpa using ih (by simpa using hj)
  | obj h1 h2 h3 h4 h5 h6 _ ih =>
    cases j with
    | zero => simp at hj; subst hj; exact ⟨h4, .inr ⟨_, _, by simp, h1, h2, h3, h5, h6⟩⟩
    | succ j => simpa using ih (by simpa using hj)

def exSpot (ι : Nat → Spot) (ids : List (Option Nat)) : Nat → Spot := fun j => match ids[j]? with | some (some id) => ι id | _ => none
def exF (F : Nat → List Nat) (ids : List (Option Nat)) : Nat → List Nat := fun j => match ids[j]? with | some (some id) => F id | _ => []

theorem Ex.rel {O N : List AObj} {ids : List (Option Nat)} {S w ι} (hN : NEx O ids N) {vs us} (h : Ex O ids vs us) : ∀ {xs}, LRel S w ι O vs xs [] → LRel S w (exSpot ι ids) N us xs [] := by
  induction h with
  | nil => intro xs hl; cases hl; exact .nil
  | keep he hs hn _ ih =>
    intro xs hl
    subst he
    obtain ⟨v, vs', f1, f2, rfl, hv, hr, hf⟩ := hl.uncons
    obtain ⟨rfl, rfl⟩ : f1 = [] ∧ f2 = [] := by simpa using hf
    exact LRel.cons (still_any hv hs N (fun _ h => h) (fun _ _ => rfl) (fun _ _ => rfl)) (ih hr)
  | @own id ep off len len' j ob vs us hj ho he hlen _ ih =>
    intro xs hl
    subst hlen
    cases hl with
    | own a b c r =>
      rw [ho] at a; cases a
      have hjl : j < N.length := by rw [← hN.len]; exact (List.getElem?_eq_some_iff.1 hj).1
      obtain ⟨h0, hc⟩ := hN.at (List.getElem?_eq_getElem hjl)
      rcases hc with ⟨h1, _⟩ | ⟨id2, ob2, h1, h2, h3, _, h5, _⟩
      · rw [hj] at h1; cases h1
      · rw [hj] at h1; cases h1
        rw [ho] at h2; cases h2
        exact .own (List.getElem?_eq_getElem hjl) (by omega) (fun _ => by
          rw [h5]
          show OwnAt (exSpot ι ids j) _ _ _ _
          unfold exSpot; rw [hj]; exact c he.symm) (ih r)
  | @nilO j vs us hj _ ih =>
    intro xs hl
    cases hl with
    | nilS r =>
      have hjl : j < N.length := by rw [← hN.len]; exact (List.getElem?_eq_some_iff.1 hj).1
      obtain ⟨h0, _⟩ := hN.at (List.getElem?_eq_getElem hjl)
      exact .own (List.getElem?_eq_getElem hjl) (by omega) (fun _ => by
        show OwnAt (exSpot ι ids j) _ _ _ _
        unfold exSpot; rw [hj]; exact ⟨rfl, rfl, rfl⟩) (ih r)
  | agg _ _ ih1 ih2 =>
    intro xs hl
    obtain ⟨v, vs', f1, f2, rfl, hv, hr, hf⟩ := hl.uncons
    obtain ⟨rfl, rfl⟩ : f1 = [] ∧ f2 = [] := by simpa using hf
    obtain ⟨us', rfl, ha⟩ := LRel.agg_inv hv
    simpa using LRel.agg (ih1 ha) (ih2 hr)
  | tup _ _ ih1 ih2 =>
    intro xs hl
    obtain ⟨v, vs', f1, f2, rfl, hv, hr, hf⟩ := hl.uncons
    obtain ⟨rfl, rfl⟩ : f1 = [] ∧ f2 = [] := by simpa using hf
    obtain ⟨us', rfl, ha⟩ := LRel.tup_inv hv
    simpa using LRel.tup (ih1 ha) (ih2 hr)

/-- The results of a state: what they are, and what they are outside. -/
inductive Res (tab : List (Nat × Ty)) (N : List AObj) (r : AV) : Array ResultVar → St → Prop
  | one {r1 V1 T O ids} : ResV tab T O r1 V1 → NEx O ids N → (ids.filterMap id).Nodup → Ex O ids [V1] [r] → Res tab N r #[r1] ⟨T, O⟩
  | two {r1 r2 V1 V2 T O ids} : ResV tab T O r1 V1 → ResV tab T O r2 V2 → NEx O ids N → (ids.filterMap id).Nodup → Ex O ids [.tup [V1, V2]] [r] → Res tab N r #[r1, r2] ⟨T, O⟩
  | three {r1 r2 r3 V1 V2 V3 T O ids} : ResV tab T O r1 V1 → ResV tab T O r2 V2 → ResV tab T O r3 V3 → NEx O ids N → (ids.filterMap id).Nodup → Ex O ids [.tup [V1, V2, V3]] [r] → Res tab N r #[r1, r2, r3] ⟨T, O⟩

/-- The end of a body. -/
def Fin (tab : List (Nat × Ty)) (rs : Array ResultVar) (N : List AObj) (r : AV) : Exit → St → Prop
  | .ret, σ => Res tab N r rs σ
  | .normal, σ => Res tab N r rs σ
  | _, _ => False

theorem Fin.ret {rs : Array ResultVar} {N : List AObj} {r : AV} {σ : St} (h : Res tab N r rs σ) : Fin tab rs N r .ret σ := h
theorem Fin.go {rs : Array ResultVar} {N : List AObj} {r : AV} {σ : St} (h : Res tab N r rs σ) : Fin tab rs N r .normal σ := h

def enumT : Nat → List AV → List (Nat × AV)
  | _, [] => []
  | k, V :: Vs => (k, V) :: enumT (k + 1) Vs

theorem look_enumT (Vs : List AV) (k t : Nat) : look (enumT k Vs) t = if k ≤ t then Vs.getD (t - k) .any else .any := by
  induction Vs generalizing k with
  | nil => simp [enumT, look]
  | cons V Vs ih =>
    unfold enumT
    by_cases h : k = t
    · subst h; rw [look_cons_same]; simp
    · rw [look_cons_other _ _ _ _ h, ih]
      by_cases h2 : k ≤ t
      · rw [if_pos (by omega), if_pos h2]
        rw [show t - k = (t - (k + 1)) + 1 from by omega]
        simp
      · rw [if_neg (by omega), if_neg h2]

theorem Res.out (hP : TabOk P tab) {w0 : World} {S0 : Nat → Prop} {rs : Array ResultVar} {N : List AObj} {r : AV} {σ : St} {a : Act} {w : World} {fn : Func} (hfr : fn.results = rs) (h : Res tab N r rs σ)
    (hr : Rel n 0 ⟨w0, S0, fun _ => False, fun _ => none⟩ σ a w) :
    ∃ v, (results fn a.tmps).run P w = .ok v w ∧ ∃ S' ι F, (∀ b, S0 b → S' b) ∧ (∀ b, S' b → S0 b ∨ w0.heap.size ≤ b) ∧ (∀ b, S' b → b < w.heap.size) ∧ ORel S' w ι N F ∧
      (∀ id, id < N.length → ∀ b ∈ F id, w0.heap.size ≤ b ∧ ¬ S' b ∧ b < w.heap.size) ∧ VRel S' w ι N r v [] ∧ Keeps w0 (fun _ => False) w := by
  obtain ⟨S, ι, F, hr⟩ := hr
  have fin : ∀ {T O ids V v}, σ = ⟨T, O⟩ → NEx O ids N → (ids.filterMap id).Nodup → Ex O ids [V] [r] → VRel S w ι O V v [] →
      ∃ S' ι F, (∀ b, S0 b → S' b) ∧ (∀ b, S' b → S0 b ∨ w0.heap.size ≤ b) ∧ (∀ b, S' b → b < w.heap.size) ∧ ORel S' w ι N F ∧
      (∀ id, id < N.length → ∀ b ∈ F id, w0.heap.size ≤ b ∧ ¬ S' b ∧ b < w.heap.size) ∧ VRel S' w ι N r v [] ∧ Keeps w0 (fun _ => False) w := by
    rintro T O ids V v rfl hN hnd hex hv
    have hids : ∀ (i j id : Nat), ids[i]? = some (some id) → ids[j]? = some (some id) → i = j := by
      clear hN hex hv
      induction ids with
      | nil => intro i j id h; simp at h
      | cons x ids ih =>
        intro i j id hi hj
        cases x with
        | none =>
          cases i with
          | zero => simp at hi
          | succ i => cases j with
            | zero => simp at hj
            | succ j => rw [ih (by simpa using hnd) i j id (by simpa using hi) (by simpa using hj)]
        | some y =>
          have hnd' : y ∉ ids.filterMap _root_.id ∧ (ids.filterMap _root_.id).Nodup := by simpa using hnd
          have mem : ∀ k : Nat, ids[k]? = some (some id) → id ∈ ids.filterMap _root_.id := fun k hk => List.mem_filterMap.2 ⟨some id, List.mem_of_getElem? hk, rfl⟩
          cases i with
          | zero =>
            simp at hi; subst hi
            cases j with
            | zero => rfl
            | succ j => exact (hnd'.1 (mem j (by simpa using hj))).elim
          | succ i => cases j with
            | zero => simp at hj; subst hj; exact (hnd'.1 (mem i (by simpa using hi))).elim
            | succ j => rw [ih hnd'.2 i j id (by simpa using hi) (by simpa using hj)]
    have hcase : ∀ j : Nat, (∃ id, ids[j]? = some (some id) ∧ exSpot ι ids j = ι id ∧ exF F ids j = F id) ∨ ((∀ id, ids[j]? ≠ some (some id)) ∧ exSpot ι ids j = none ∧ exF F ids j = []) := by
      intro j
      unfold exSpot exF
      cases h : ids[j]? with
      | none => exact .inr ⟨by simp, rfl, rfl⟩
      | some o => cases o with
        | none => exact .inr ⟨by simp, rfl, rfl⟩
        | some id => exact .inl ⟨id, rfl, rfl, rfl⟩
    have hlt : ∀ (j id : Nat), j < N.length → ids[j]? = some (some id) → id < O.length := by
      intro j id hj hi
      obtain ⟨_, h1 | ⟨id2, ob2, h1, h2, _⟩⟩ := hN.at (List.getElem?_eq_getElem hj)
      · rw [hi] at h1; cases h1.1
      · rw [hi] at h1; cases h1; exact (List.getElem?_eq_some_iff.1 h2).1
    refine ⟨S, exSpot ι ids, exF F ids, hr.base.1, hr.base.2, hr.stable, ⟨fun j ob' hj => ?_, fun j hj => ?_, fun i j hi hj hij b hb => ?_⟩, fun j hj b hb => ?_, hex.rel hN hv, hr.keeps⟩
    · obtain ⟨h0, h1 | ⟨id2, ob2, h1, h2, h3, h4, h5, h6⟩⟩ := hN.at hj
      · rcases hcase j with ⟨id, h, _⟩ | ⟨_, h, h'⟩
        · rw [h1.1] at h; cases h
        · rw [h, h']; exact ⟨h1.2, rfl⟩
      · rcases hcase j with ⟨id, h, e1, e2⟩ | ⟨h, h'⟩
        · rw [h1] at h; cases h
          rw [e1, e2]
          have ho := hr.objs.obj _ ob2 h2
          unfold ObjAt at ho ⊢
          cases hs : ι id2 with
          | none => rw [hs] at ho; rw [← h3]; exact ho
          | some p =>
            obtain ⟨b, k⟩ := p
            rw [hs] at ho
            obtain ⟨cur', t', fz', f2, q1, q2, q3, q4, q5, q6, q7⟩ := ho
            have q8 : LRel S w (exSpot ι ids) N ob'.cells (cur'.toList.take ob'.cells.length) f2 := by
              rw [h3] at q7
              have hre := Re.same (O := O) (O' := N) (rfl : ob'.cells = ob'.cells) h4
              clear h3
              generalize ob'.cells = cs at *
              generalize (cur'.toList.take cs.length) = xs at *
              clear hre
              have key : ∀ {cs : List AV} {xs f}, cs.all AV.still = true → LRel S w ι O cs xs f → LRel S w (exSpot ι ids) N cs xs f := by
                intro cs
                induction cs with
                | nil => intro xs f _ hl; cases hl; exact .nil
                | cons c cs ih =>
                  intro xs f hs hl
                  simp only [List.all_cons, Bool.and_eq_true] at hs
                  obtain ⟨v, vs', f1, f2, rfl, hv, hr, rfl⟩ := hl.uncons
                  exact LRel.cons (still_any hv hs.1 N (fun _ h => h) (fun _ _ => rfl) (fun _ _ => rfl)) (ih hs.2 hr)
              exact key h4 q7
            refine ⟨cur', t', fz', f2, q1, q2, q3, by rw [← h3]; exact q4, q5, fun e he => ?_, q8⟩
            rcases h6 with h6 | h6
            · rw [h6] at he; cases he
            · exact q6 e (by rw [← h6]; exact he)
        · exact (h _ h1).elim
    · rcases hcase j with ⟨id, h, _, e2⟩ | ⟨_, _, e2⟩
      · rw [e2]; exact hr.objs.nodup id (hlt j id hj h)
      · rw [e2]; simp
    · rcases hcase i with ⟨id1, h1, _, e1⟩ | ⟨_, _, e1⟩ <;> rcases hcase j with ⟨id2, h2, _, e2⟩ | ⟨_, _, e2⟩ <;> rw [e1] at hb <;> rw [e2]
      · exact hr.objs.apart id1 id2 (hlt i id1 hi h1) (hlt j id2 hj h2) (fun e => hij (hids i j id1 h1 (e ▸ h2))) b hb
      · simp
      · simp at hb
      · simp
    · rcases hcase j with ⟨id, h, _, e2⟩ | ⟨_, _, e2⟩
      · rw [e2] at hb
        obtain ⟨q1, q2, q3⟩ := hr.foot id (hlt j id hj h) b hb
        exact ⟨q1.resolve_left (fun h => h), q2, q3⟩
      · rw [e2] at hb; simp at hb
  cases h with
  | one h1 hN hnd hex =>
    obtain ⟨v, hv, hV⟩ := ResV.rel hP hr h1
    exact ⟨v, run_results1 hfr hv, fin rfl hN hnd hex hV⟩
  | two h1 h2 hN hnd hex =>
    obtain ⟨v1, hv1, hV1⟩ := ResV.rel hP hr h1
    obtain ⟨v2, hv2, hV2⟩ := ResV.rel hP hr h2
    exact ⟨_, run_results2 hfr hv1 hv2, fin rfl hN hnd hex (by simpa using LRel.tup (LRel.cons hV1 hV2) .nil)⟩
  | three h1 h2 h3 hN hnd hex =>
    obtain ⟨v1, hv1, hV1⟩ := ResV.rel hP hr h1
    obtain ⟨v2, hv2, hV2⟩ := ResV.rel hP hr h2
    obtain ⟨v3, hv3, hV3⟩ := ResV.rel hP hr h3
    exact ⟨_, run_results3 hfr hv1 hv2 hv3, fin rfl hN hnd hex (by simpa using LRel.tup (LRel.cons hV1 (LRel.cons hV2 hV3)) .nil)⟩

/-- A FUNCTION's CONTRACT OUT OF ITS BODY. -/
theorem FnC.of_body (hP : TabOk P tab) {f : FuncId} {fn : Func} {c : Code} {args : List AV} {N : List AObj} {r : AV} {k : Nat} (hf : P.funcs[f]? = some fn) (hnt : fn.ntmps = k) (hb : fn.body = some c) (hnm : (fn.name == "runtime.NumGoroutine") = false)
    (hal : args.length ≤ k) (h : ∀ G, WpA P k 0 G c ⟨enumT 0 args, []⟩ (Fin tab fn.results N r)) : FnC P f args N r := by
  refine ⟨⟨fn, hf, by rw [hb]; rfl, hnm⟩, fun w S vs hS hl => ?_⟩
  have hvl : vs.length = args.length := hl.len.symm
  refine calls_of_wp hf hb ?_
  have hrel : Rel k 0 ⟨w, S, fun _ => False, fun _ => none⟩ ⟨enumT 0 args, []⟩ { tmps := vs.toArray ++ Array.replicate (fn.ntmps - vs.toArray.size) undef, defers := [] } w := by
    refine ⟨S, fun _ => none, fun _ => [], rfl, ?_, fun t => ?_, ⟨by simp, by simp, by simp⟩, by simp, ⟨fun _ h => h, fun _ h => .inl h⟩, hS, Keeps.refl _ _, by simp, by simp⟩
    · simp [hnt]; omega
    · show VRel S w _ [] (look (enumT 0 args) t) _ []
      rw [look_enumT]
      simp only [Nat.zero_le, if_true, Nat.sub_zero]
      by_cases ht : t < args.length
      · obtain ⟨x, g, hx, hV, hg⟩ := hl.get (List.getElem?_eq_getElem ht)
        have hg0 : g = [] := List.eq_nil_iff_forall_not_mem.2 fun b hb => by simpa using hg b hb
        subst hg0
        have e1 : args.getD t .any = args[t] := by simp [ht]
        have e2 : (vs.toArray ++ Array.replicate (fn.ntmps - vs.toArray.size) undef).getD t undef = x := by
          have : t < vs.length := by omega
          rw [List.getElem?_eq_getElem this] at hx
          simp only [Option.some.injEq] at hx
          simp [Array.getD_eq_getD_getElem?, Array.getElem?_append, this, hx]
        rw [e1, e2]; exact hV
      · have e1 : args.getD t .any = .any := by simp [List.getElem?_eq_none (Nat.le_of_not_lt ht)]
        rw [e1]; exact .any .nil
  refine wp_mono (h _ _ _ hrel) fun e a' w' ⟨σ', hq, hr'⟩ => ?_
  have hdef : a'.defers = [] := by obtain ⟨_, _, _, h⟩ := hr'; exact h.defers
  cases e with
  | normal =>
    obtain ⟨v, hv, S', ι, F, q⟩ := Res.out hP rfl hq hr'
    exact ⟨hdef, v, hv, v, S', ι, F, rfl, q⟩
  | ret =>
    obtain ⟨v, hv, S', ι, F, q⟩ := Res.out hP rfl hq hr'
    exact ⟨hdef, v, hv, v, S', ι, F, rfl, q⟩
  | _ => exact hq.elim
end
end Go.Abs
