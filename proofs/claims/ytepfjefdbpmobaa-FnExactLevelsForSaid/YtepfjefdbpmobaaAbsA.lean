/- Abstract values and what they say of memory: a relation between lists of abstract values and lists of cells, and its plain laws. No condition. -/
import Derived.WalkKit
namespace Go.Abs
open Go
set_option linter.unusedVariables false
set_option linter.unusedSimpArgs false

/-- An abstract value. 'imm': a slice whose cells stay as they are; 'fre': a slice that its holder alone owns; 'own': a slice into object 'id'. -/
inductive AV where
  | any
  | sc (v : Value)
  | agg (cs : List AV)
  | tup (vs : List AV)
  | nilS
  | imm (size len : Nat) (cells : List AV)
  | fre (size len : Nat) (cells : List AV)
  | own (id ep off len : Nat)
  | ptr (id ep off : Nat)
  | iptr (cells : List AV) (off : Nat)
  | fn (f : FuncId) (caps : List AV)
  | ifc (t : TypeId) (v : AV)

instance : Inhabited AV := ⟨.any⟩

/-- An object of the call's own: its cells, how often it has been moved, the cells of an element, and (if known) the type of its block. -/
structure AObj where
  cells : List AV
  ep : Nat
  size : Nat
  ty : Option TypeId

/-- Where an object lies: its block and how many cells the block has; none: a nil slice. -/
abbrev Spot := Option (Nat × Nat)

def OwnAt : Spot → Nat → Nat → Nat → Value → Prop
  | none, _, off, len, x => x = .slice none 0 0 ∧ off = 0 ∧ len = 0
  | some (b, k), size, off, len, x => ∃ cap, x = .slice (some ⟨b, off, none⟩) len cap ∧ off + cap * size = k ∧ len ≤ cap ∧ cap ≤ maxLen

def PtrAt : Spot → Nat → Value → Prop
  | none, _, _ => False
  | some (b, _), off, x => x = .pointer (some ⟨b, off, none⟩)

inductive LRel (S : Nat → Prop) (w : World) (ι : Nat → Spot) : List AObj → List AV → List Value → List Nat → Prop
  | nil {O} : LRel S w ι O [] [] []
  | any {O v cs vs g} : LRel S w ι O cs vs g → LRel S w ι O (.any :: cs) (v :: vs) g
  | sc {O v cs vs g} : LRel S w ι O cs vs g → LRel S w ι O (.sc v :: cs) (v :: vs) g
  | agg {O ds us f cs vs g} : LRel S w ι O ds us f → LRel S w ι O cs vs g → LRel S w ι O (.agg ds :: cs) (.agg us.toArray :: vs) (f ++ g)
  | tup {O ds us f cs vs g} : LRel S w ι O ds us f → LRel S w ι O cs vs g → LRel S w ι O (.tup ds :: cs) (.tuple us.toArray :: vs) (f ++ g)
  | nilS {O cs vs g} : LRel S w ι O cs vs g → LRel S w ι O (.nilS :: cs) (.slice none 0 0 :: vs) g
  | imm0 {O size a cap cs vs g} : (a = none → cap = 0) ∧ cap ≤ maxLen → LRel S w ι O cs vs g → LRel S w ι O (.imm size 0 [] :: cs) (.slice a 0 cap :: vs) g
  | imm {O size b o len cap ds us cs vs g} : S b → (∀ i, i < us.length → w.cell? ⟨b, o + i, none⟩ = us[i]?) → LRel S w ι [] ds us [] →
      len * size = ds.length → len ≤ cap → cap ≤ maxLen → LRel S w ι O cs vs g → LRel S w ι O (.imm size len ds :: cs) (.slice (some ⟨b, o, none⟩) len cap :: vs) g
  | fre0 {O size cs vs g} : LRel S w ι O cs vs g → LRel S w ι O (.fre size 0 [] :: cs) (.slice none 0 0 :: vs) g
  | fre {O size b len cap cur t fz ds us f cs vs g} : (w.heap[b]? = some (.cells cur t fz) ∧ ∀ i, i < cur.size → ¬ (fz.1 ≤ i ∧ i < fz.2)) → cur.size = cap * size → us = cur.toList.take ds.length → LRel S w ι [] ds us f →
      len * size = ds.length → len ≤ cap → cap ≤ maxLen → LRel S w ι O cs vs g → LRel S w ι O (.fre size len ds :: cs) (.slice (some ⟨b, 0, none⟩) len cap :: vs) ((b :: f) ++ g)
  | own {O id ep off len ob x cs vs g} : O[id]? = some ob → ep ≤ ob.ep → (ep = ob.ep → OwnAt (ι id) ob.size off len x) → LRel S w ι O cs vs g → LRel S w ι O (.own id ep off len :: cs) (x :: vs) g
  | ptr {O id ep off ob x cs vs g} : O[id]? = some ob → ep ≤ ob.ep → (ep = ob.ep → PtrAt (ι id) off x) → LRel S w ι O cs vs g → LRel S w ι O (.ptr id ep off :: cs) (x :: vs) g
  | iptr {O b o off ds us cs vs g} : S b → (∀ i, i < us.length → w.cell? ⟨b, o + i, none⟩ = us[i]?) → LRel S w ι [] ds us [] → LRel S w ι O cs vs g → LRel S w ι O (.iptr ds off :: cs) (.pointer (some ⟨b, o + off, none⟩) :: vs) g
  | fn {O f ds us cs vs g} : LRel S w ι O ds us [] → LRel S w ι O cs vs g → LRel S w ι O (.fn f ds :: cs) (.func (.func f) #[] us.toArray :: vs) g
  | ifc {O t v x cs vs g} : LRel S w ι O [v] [x] [] → LRel S w ι O cs vs g → LRel S w ι O (.ifc t v :: cs) (.iface t x :: vs) g

/-- One value. -/
abbrev VRel (S : Nat → Prop) (w : World) (ι : Nat → Spot) (O : List AObj) (V : AV) (x : Value) (f : List Nat) : Prop := LRel S w ι O [V] [x] f

section
variable {S : Nat → Prop} {w : World} {ι : Nat → Spot} {O : List AObj}

theorem LRel.uncons {c cs ws h} (hr : LRel S w ι O (c :: cs) ws h) : ∃ v vs f g, ws = v :: vs ∧ VRel S w ι O c v f ∧ LRel S w ι O cs vs g ∧ h = f ++ g := by
  cases hr with
  | any r => exact ⟨_, _, [], _, rfl, .any .nil, r, rfl⟩
  | sc r => exact ⟨_, _, [], _, rfl, .sc .nil, r, rfl⟩
  | agg a r => exact ⟨_, _, _, _, rfl, by simpa using LRel.agg a .nil, r, rfl⟩
  | tup a r => exact ⟨_, _, _, _, rfl, by simpa using LRel.tup a .nil, r, rfl⟩
  | nilS r => exact ⟨_, _, [], _, rfl, .nilS .nil, r, rfl⟩
  | imm0 h0 r => exact ⟨_, _, [], _, rfl, .imm0 h0 .nil, r, rfl⟩
  | imm a b c d e f r => exact ⟨_, _, [], _, rfl, .imm a b c d e f .nil, r, rfl⟩
  | fre0 r => exact ⟨_, _, [], _, rfl, .fre0 .nil, r, rfl⟩
  | fre a b c d e f g r => exact ⟨_, _, _, _, rfl, by simpa using LRel.fre a b c d e f g .nil, r, rfl⟩
  | own a b c r => exact ⟨_, _, [], _, rfl, .own a b c .nil, r, rfl⟩
  | ptr a b c r => exact ⟨_, _, [], _, rfl, .ptr a b c .nil, r, rfl⟩
  | iptr a b c r => exact ⟨_, _, [], _, rfl, .iptr a b c .nil, r, rfl⟩
  | fn a r => exact ⟨_, _, [], _, rfl, .fn a .nil, r, rfl⟩
  | ifc a r => exact ⟨_, _, [], _, rfl, .ifc a .nil, r, rfl⟩

theorem LRel.len {cs vs f} (h : LRel S w ι O cs vs f) : cs.length = vs.length := by
  induction cs generalizing vs f with
  | nil => cases h; rfl
  | cons c cs ih =>
    obtain ⟨v, vs', f1, f2, rfl, hv, hr, rfl⟩ := h.uncons
    simp only [List.length_cons, ih hr]

theorem LRel.cons {c v f cs vs g} (h1 : VRel S w ι O c v f) (r : LRel S w ι O cs vs g) : LRel S w ι O (c :: cs) (v :: vs) (f ++ g) := by
  cases h1 with
  | any _ => rename_i hh; cases hh; exact .any r
  | sc _ => rename_i hh; cases hh; exact .sc r
  | agg a hh => cases hh; simpa using LRel.agg a r
  | tup a hh => cases hh; simpa using LRel.tup a r
  | nilS hh => cases hh; exact .nilS r
  | imm0 h0 hh => cases hh; exact .imm0 h0 r
  | imm a b c d e f hh => cases hh; exact .imm a b c d e f r
  | fre0 hh => cases hh; exact .fre0 r
  | fre a b c d e f g hh => cases hh; simpa using LRel.fre a b c d e f g r
  | own a b c hh => cases hh; exact .own a b c r
  | ptr a b c hh => cases hh; exact .ptr a b c r
  | iptr a b c hh => cases hh; exact .iptr a b c r
  | fn a hh => cases hh; exact .fn a r
  | ifc a hh => cases hh; exact .ifc a r

theorem LRel.append {as us f bs vs g} (h1 : LRel S w ι O as us f) (h2 : LRel S w ι O bs vs g) : LRel S w ι O (as ++ bs) (us ++ vs) (f ++ g) := by
  induction as generalizing us f with
  | nil => cases h1; exact h2
  | cons a as ih =>
    obtain ⟨v, vs', f1, f2, rfl, hv, hr, rfl⟩ := h1.uncons
    have := LRel.cons hv (ih hr)
    simpa using this

theorem LRel.split {as bs ws h} (hr : LRel S w ι O (as ++ bs) ws h) : ∃ us vs f g, ws = us ++ vs ∧ LRel S w ι O as us f ∧ LRel S w ι O bs vs g ∧ h = f ++ g := by
  induction as generalizing ws h with
  | nil => exact ⟨[], ws, [], h, rfl, .nil, hr, rfl⟩
  | cons a as ih =>
    obtain ⟨v, vs', f1, f2, rfl, hv, hr', rfl⟩ := LRel.uncons hr
    obtain ⟨us, vs, f, g, rfl, h1, h2, rfl⟩ := ih hr'
    exact ⟨v :: us, vs, f1 ++ f, g, rfl, LRel.cons hv h1, h2, by simp⟩

theorem LRel.take {cs vs f} (h : LRel S w ι O cs vs f) (n : Nat) : ∃ g, LRel S w ι O (cs.take n) (vs.take n) g ∧ (∀ b ∈ g, b ∈ f) ∧ (f.Nodup → g.Nodup) := by
  rw [← List.take_append_drop n cs] at h
  obtain ⟨us, vs', f1, f2, rfl, h1, h2, rfl⟩ := h.split
  have hl := h1.len
  by_cases hn : n ≤ cs.length
  · have : us.length = n := by rw [← hl]; simp [hn]
    refine ⟨f1, ?_, fun b hb => List.mem_append_left _ hb, fun h => (List.nodup_append.1 h).1⟩
    rw [List.take_left' this]; exact h1
  · have hd : cs.drop n = [] := List.drop_eq_nil_of_le (by omega)
    rw [hd] at h2
    cases h2
    have hu : us.length ≤ n := by rw [← hl]; simp; omega
    refine ⟨f1, ?_, fun b hb => List.mem_append_left _ hb, fun h => (List.nodup_append.1 h).1⟩
    simp [List.take_of_length_le hu]; exact h1

theorem LRel.drop {cs vs f} (h : LRel S w ι O cs vs f) (n : Nat) : ∃ g, LRel S w ι O (cs.drop n) (vs.drop n) g ∧ (∀ b ∈ g, b ∈ f) ∧ (f.Nodup → g.Nodup) := by
  rw [← List.take_append_drop n cs] at h
  obtain ⟨us, vs', f1, f2, rfl, h1, h2, rfl⟩ := h.split
  have hl := h1.len
  by_cases hn : n ≤ cs.length
  · have : us.length = n := by rw [← hl]; simp [hn]
    refine ⟨f2, ?_, fun b hb => List.mem_append_right _ hb, fun h => (List.nodup_append.1 h).2.1⟩
    rw [List.drop_left' this]; exact h2
  · have hd : cs.drop n = [] := List.drop_eq_nil_of_le (by omega)
    rw [hd] at h2 ⊢
    cases h2
    have hu : us.length ≤ n := by rw [← hl]; simp; omega
    refine ⟨[], ?_, by simp, by simp⟩
    simp [List.drop_eq_nil_of_le hu]; exact .nil

/-- One cell out of a list. -/
theorem LRel.get {cs vs f} (h : LRel S w ι O cs vs f) {i : Nat} {V : AV} (hi : cs[i]? = some V) : ∃ x g, vs[i]? = some x ∧ VRel S w ι O V x g ∧ (∀ b ∈ g, b ∈ f) := by
  induction cs generalizing vs f i with
  | nil => simp at hi
  | cons c cs ih =>
    obtain ⟨v, vs', f1, f2, rfl, hv, hr, rfl⟩ := h.uncons
    cases i with
    | zero =>
      simp at hi; subst hi
      exact ⟨v, f1, by simp, hv, fun b hb => List.mem_append_left _ hb⟩
    | succ i =>
      obtain ⟨x, g, hx, hV, hg⟩ := ih hr (by simpa using hi)
      exact ⟨x, g, by simpa using hx, hV, fun b hb => List.mem_append_right _ (hg b hb)⟩

/-- One cell is put in another's place. -/
theorem LRel.set {cs vs f} (h : LRel S w ι O cs vs f) {V : AV} {x : Value} {g : List Nat} (hv : VRel S w ι O V x g) (i : Nat) :
    ∃ e, LRel S w ι O (cs.set i V) (vs.set i x) e ∧ (∀ b ∈ e, b ∈ f ∨ b ∈ g) ∧ (f.Nodup → g.Nodup → (∀ b ∈ g, b ∉ f) → e.Nodup) := by
  induction cs generalizing vs f i with
  | nil => cases h; exact ⟨[], by simpa using .nil, by simp, by simp⟩
  | cons c cs ih =>
    obtain ⟨v, vs', f1, f2, rfl, hv1, hr, rfl⟩ := h.uncons
    cases i with
    | zero =>
      refine ⟨g ++ f2, by simpa using LRel.cons hv hr, ?_, ?_⟩
      · intro b hb
        rcases List.mem_append.1 hb with hb | hb
        · exact .inr hb
        · exact .inl (List.mem_append_right _ hb)
      · intro hf hg hd
        refine List.nodup_append.2 ⟨hg, (List.nodup_append.1 hf).2.1, ?_⟩
        intro a ha b hb he
        subst he
        exact hd a ha (List.mem_append_right _ hb)
    | succ i =>
      obtain ⟨e, he, hm, hnd⟩ := ih hr i
      refine ⟨f1 ++ e, by simpa using LRel.cons hv1 he, ?_, ?_⟩
      · intro b hb
        rcases List.mem_append.1 hb with hb | hb
        · exact .inl (List.mem_append_left _ hb)
        · rcases hm b hb with hb | hb
          · exact .inl (List.mem_append_right _ hb)
          · exact .inr hb
      · intro hf hg hd
        obtain ⟨n1, n2, n3⟩ := List.nodup_append.1 hf
        refine List.nodup_append.2 ⟨n1, hnd n2 hg (fun b hb hb' => hd b hb (List.mem_append_right _ hb')), ?_⟩
        intro a ha b hb he'
        subst he'
        rcases hm a hb with hb | hb
        · exact n3 a ha a hb rfl
        · exact hd a hb (List.mem_append_left _ ha)

end

/-- What must hold from one state to a later one for what is known of values to stay. -/
structure Later (S : Nat → Prop) (w : World) (ι : Nat → Spot) (O : List AObj) (S' : Nat → Prop) (w' : World) (ι' : Nat → Spot) (O' : List AObj) : Prop where
  sub : ∀ b, S b → S' b
  stays : ∀ b, S b → w'.heap[b]? = w.heap[b]?
  obj : ∀ id ob, O[id]? = some ob → ∃ ob', O'[id]? = some ob' ∧ (ob.ep < ob'.ep ∨ (ob'.ep = ob.ep ∧ ob'.size = ob.size ∧ ι' id = ι id))

theorem Later.refl (S w ι O) : Later S w ι O S w ι O := ⟨fun _ h => h, fun _ _ => rfl, fun _ ob h => ⟨ob, h, .inr ⟨rfl, rfl, rfl⟩⟩⟩

theorem Later.none {S w ι S' w' ι'} (O' : List AObj) (h1 : ∀ b, S b → S' b) (h2 : ∀ b, S b → w'.heap[b]? = w.heap[b]?) : Later S w ι [] S' w' ι' O' :=
  ⟨h1, h2, fun id ob h => by simp at h⟩

theorem LRel.mono {S w ι O S' w' ι' O'} (hl : Later S w ι O S' w' ι' O') {cs vs f} (h : LRel S w ι O cs vs f) (hf : ∀ b ∈ f, w'.heap[b]? = w.heap[b]?) : LRel S' w' ι' O' cs vs f := by
  induction h generalizing O' with
  | nil => exact .nil
  | any _ ih => exact .any (ih hl hf)
  | sc _ ih => exact .sc (ih hl hf)
  | agg _ _ ih1 ih2 => exact .agg (ih1 hl fun b hb => hf b (List.mem_append_left _ hb)) (ih2 hl fun b hb => hf b (List.mem_append_right _ hb))
  | tup _ _ ih1 ih2 => exact .tup (ih1 hl fun b hb => hf b (List.mem_append_left _ hb)) (ih2 hl fun b hb => hf b (List.mem_append_right _ hb))
  | nilS _ ih => exact .nilS (ih hl hf)
  | imm0 h0 _ ih => exact .imm0 h0 (ih hl hf)
  | imm hS hc _ h1 h2 h3 _ ih1 ih2 =>
    exact .imm (hl.sub _ hS) (fun i hi => by rw [← hc i hi]; exact World.cell?_of_block (hl.stays _ hS)) (ih1 (Later.none [] hl.sub hl.stays) (by simp)) h1 h2 h3 (ih2 hl hf)
  | fre0 _ ih => exact .fre0 (ih hl hf)
  | fre hb hs hu _ h1 h2 h3 _ ih1 ih2 =>
    exact .fre (by rw [hf _ (by simp)]; exact hb) hs hu (ih1 (Later.none [] hl.sub hl.stays) fun b hb => hf b (by simp [hb])) h1 h2 h3 (ih2 hl fun b hb => hf b (by simp [hb]))
  | own ho he hx _ ih =>
    obtain ⟨ob', h1, h2⟩ := hl.obj _ _ ho
    rcases h2 with h2 | ⟨h2, h3, h4⟩
    · exact .own h1 (by omega) (fun e => by omega) (ih hl hf)
    · exact .own h1 (by omega) (fun e => by rw [h4, h3]; exact hx (by omega)) (ih hl hf)
  | ptr ho he hx _ ih =>
    obtain ⟨ob', h1, h2⟩ := hl.obj _ _ ho
    rcases h2 with h2 | ⟨h2, h3, h4⟩
    · exact .ptr h1 (by omega) (fun e => by omega) (ih hl hf)
    · exact .ptr h1 (by omega) (fun e => by rw [h4]; exact hx (by omega)) (ih hl hf)
  | iptr hS hc _ _ ih1 ih2 =>
    exact .iptr (hl.sub _ hS) (fun i hi => by rw [← hc i hi]; exact World.cell?_of_block (hl.stays _ hS)) (ih1 (Later.none [] hl.sub hl.stays) (by simp)) (ih2 hl hf)
  | fn _ _ ih1 ih2 => exact .fn (ih1 hl (by simp)) (ih2 hl hf)
  | ifc _ _ ih1 ih2 => exact .ifc (ih1 hl (by simp)) (ih2 hl hf)

/-- What holds over no objects holds over any. -/
theorem LRel.lift {S w ι O cs vs f} (h : LRel S w ι [] cs vs f) : LRel S w ι O cs vs f := h.mono (Later.none O (fun _ h => h) (fun _ _ => rfl)) (fun _ _ => rfl)

end Go.Abs
