/- Proved in this text: lemmas and contracts of functions that the claim uses (parts: AbsA, AbsGl, AbsB, AbsC, AbsD, AbsE). No condition. -/
import Derived.WalkKit
import Derived.StillTail
set_option linter.unusedVariables false
set_option linter.unusedSimpArgs false
set_option maxRecDepth 100000
set_option maxHeartbeats 4000000


namespace Go.Abs
open Go
inductive AV where
  | any
  | sc (v : Value)
  | agg (cs : List AV)
  | tup (vs : List AV)
  | nilS
  | imm (size len : Nat) (cells : List AV)
  | fre (size len : Nat) (cells : List AV)
  | own (id ep off len : Nat)
  | ptr (id ep off : Nat)
  | iptr (cells : List AV) (off : Nat)
  | fn (f : FuncId) (caps : List AV)
  | ifc (t : TypeId) (v : AV)
instance : Inhabited AV := ⟨.any⟩
structure AObj where
  cells : List AV
  ep : Nat
  size : Nat
  ty : Option TypeId
abbrev Spot := Option (Nat × Nat)
def OwnAt : Spot → Nat → Nat → Nat → Value → Prop
  | none, _, off, len, x => x = .slice none 0 0 ∧ off = 0 ∧ len = 0
  | some (b, k), size, off, len, x => ∃ cap, x = .slice (some ⟨b, off, none⟩) len cap ∧ off + cap * size = k ∧ len ≤ cap ∧ cap ≤ maxLen
def PtrAt : Spot → Nat → Value → Prop
  | none, _, _ => False
  | some (b, _), off, x => x = .pointer (some ⟨b, off, none⟩)
inductive LRel (S : Nat → Prop) (w : World) (ι : Nat → Spot) : List AObj → List AV → List Value → List Nat → Prop
  | nil {O} : LRel S w ι O [] [] []
  | any {O v cs vs g} : LRel S w ι O cs vs g → LRel S w ι O (.any :: cs) (v :: vs) g
  | sc {O v cs vs g} : LRel S w ι O cs vs g → LRel S w ι O (.sc v :: cs) (v :: vs) g
  | agg {O ds us f cs vs g} : LRel S w ι O ds us f → LRel S w ι O cs vs g → LRel S w ι O (.agg ds :: cs) (.agg us.toArray :: vs) (f ++ g)
  | tup {O ds us f cs vs g} : LRel S w ι O ds us f → LRel S w ι O cs vs g → LRel S w ι O (.tup ds :: cs) (.tuple us.toArray :: vs) (f ++ g)
  | nilS {O cs vs g} : LRel S w ι O cs vs g → LRel S w ι O (.nilS :: cs) (.slice none 0 0 :: vs) g
  | imm0 {O size a cap cs vs g} : (a = none → cap = 0) ∧ cap ≤ maxLen → LRel S w ι O cs vs g → LRel S w ι O (.imm size 0 [] :: cs) (.slice a 0 cap :: vs) g
  | imm {O size b o len cap ds us cs vs g} : S b → (∀ i, i < us.length → w.cell? ⟨b, o + i, none⟩ = us[i]?) → LRel S w ι [] ds us [] →
      len * size = ds.length → len ≤ cap → cap ≤ maxLen → LRel S w ι O cs vs g → LRel S w ι O (.imm size len ds :: cs) (.slice (some ⟨b, o, none⟩) len cap :: vs) g
  | fre0 {O size cs vs g} : LRel S w ι O cs vs g → LRel S w ι O (.fre size 0 [] :: cs) (.slice none 0 0 :: vs) g
  | fre {O size b len cap cur t fz ds us f cs vs g} : (w.heap[b]? = some (.cells cur t fz) ∧ ∀ i, i < cur.size → ¬ (fz.1 ≤ i ∧ i < fz.2)) → cur.size = cap * size → us = cur.toList.take ds.length → LRel S w ι [] ds us f →
      len * size = ds.length → len ≤ cap → cap ≤ maxLen → LRel S w ι O cs vs g → LRel S w ι O (.fre size len ds :: cs) (.slice (some ⟨b, 0, none⟩) len cap :: vs) ((b :: f) ++ g)
  | own {O id ep off len ob x cs vs g} : O[id]? = some ob → ep ≤ ob.ep → (ep = ob.ep → OwnAt (ι id) ob.size off len x) → LRel S w ι O cs vs g → LRel S w ι O (.own id ep off len :: cs) (x :: vs) g
  | ptr {O id ep off ob x cs vs g} : O[id]? = some ob → ep ≤ ob.ep → (ep = ob.ep → PtrAt (ι id) off x) → LRel S w ι O cs vs g → LRel S w ι O (.ptr id ep off :: cs) (x :: vs) g
  | iptr {O b o off ds us cs vs g} : S b → (∀ i, i < us.length → w.cell? ⟨b, o + i, none⟩ = us[i]?) → LRel S w ι [] ds us [] → LRel S w ι O cs vs g → LRel S w ι O (.iptr ds off :: cs) (.pointer (some ⟨b, o + off, none⟩) :: vs) g
  | fn {O f ds us cs vs g} : LRel S w ι O ds us [] → LRel S w ι O cs vs g → LRel S w ι O (.fn f ds :: cs) (.func (.func f) #[] us.toArray :: vs) g
  | ifc {O t v x cs vs g} : LRel S w ι O [v] [x] [] → LRel S w ι O cs vs g → LRel S w ι O (.ifc t v :: cs) (.iface t x :: vs) g
abbrev VRel (S : Nat → Prop) (w : World) (ι : Nat → Spot) (O : List AObj) (V : AV) (x : Value) (f : List Nat) : Prop := LRel S w ι O [V] [x] f
section
variable {S : Nat → Prop} {w : World} {ι : Nat → Spot} {O : List AObj}
theorem LRel.uncons {c cs ws h} (hr : LRel S w ι O (c :: cs) ws h) : ∃ v vs f g, ws = v :: vs ∧ VRel S w ι O c v f ∧ LRel S w ι O cs vs g ∧ h = f ++ g := by
  cases hr with
  | any r => exact ⟨_, _, [], _, rfl, .any .nil, r, rfl⟩
  | sc r => exact ⟨_, _, [], _, rfl, .sc .nil, r, rfl⟩
  | agg a r => exact ⟨_, _, _, _, rfl, by simpa using LRel.agg a .nil, r, rfl⟩
  | tup a r => exact ⟨_, _, _, _, rfl, by simpa using LRel.tup a .nil, r, rfl⟩
  | nilS r => exact ⟨_, _, [], _, rfl, .nilS .nil, r, rfl⟩
  | imm0 h0 r => exact ⟨_, _, [], _, rfl, .imm0 h0 .nil, r, rfl⟩
  | imm a b c d e f r => exact ⟨_, _, [], _, rfl, .imm a b c d e f .nil, r, rfl⟩
  | fre0 r => exact ⟨_, _, [], _, rfl, .fre0 .nil, r, rfl⟩
  | fre a b c d e f g r => exact ⟨_, _, _, _, rfl, by simpa using LRel.fre a b c d e f g .nil, r, rfl⟩
  | own a b c r => exact ⟨_, _, [], _, rfl, .own a b c .nil, r, rfl⟩
  | ptr a b c r => exact ⟨_, _, [], _, rfl, .ptr a b c .nil, r, rfl⟩
  | iptr a b c r => exact ⟨_, _, [], _, rfl, .iptr a b c .nil, r, rfl⟩
  | fn a r => exact ⟨_, _, [], _, rfl, .fn a .nil, r, rfl⟩
  | ifc a r => exact ⟨_, _, [], _, rfl, .ifc a .nil, r, rfl⟩
theorem LRel.len {cs vs f} (h : LRel S w ι O cs vs f) : cs.length = vs.length := by
  induction cs generalizing vs f with
  | nil => cases h; rfl
  | cons c cs ih =>
    obtain ⟨v, vs', f1, f2, rfl, hv, hr, rfl⟩ := h.uncons
    simp only [List.length_cons, ih hr]
theorem LRel.cons {c v f cs vs g} (h1 : VRel S w ι O c v f) (r : LRel S w ι O cs vs g) : LRel S w ι O (c :: cs) (v :: vs) (f ++ g) := by
  cases h1 with
  | any _ => rename_i hh; cases hh; exact .any r
  | sc _ => rename_i hh; cases hh; exact .sc r
  | agg a hh => cases hh; simpa using LRel.agg a r
  | tup a hh => cases hh; simpa using LRel.tup a r
  | nilS hh => cases hh; exact .nilS r
  | imm0 h0 hh => cases hh; exact .imm0 h0 r
  | imm a b c d e f hh => cases hh; exact .imm a b c d e f r
  | fre0 hh => cases hh; exact .fre0 r
  | fre a b c d e f g hh => cases hh; simpa using LRel.fre a b c d e f g r
  | own a b c hh => cases hh; exact .own a b c r
  | ptr a b c hh => cases hh; exact .ptr a b c r
  | iptr a b c hh => cases hh; exact .iptr a b c r
  | fn a hh => cases hh; exact .fn a r
  | ifc a hh => cases hh; exact .ifc a r
theorem LRel.append {as1 us f bs vs g} (h1 : LRel S w ι O as1 us f) (h2 : LRel S w ι O bs vs g) : LRel S w ι O (as1 ++ bs) (us ++ vs) (f ++ g) := by
  induction as1 generalizing us f with
  | nil => cases h1; exact h2
  | cons a as1 ih =>
    obtain ⟨v, vs', f1, f2, rfl, hv, hr, rfl⟩ := h1.uncons
    have := LRel.cons hv (ih hr)
    simpa using this
theorem LRel.split {as1 bs ws h} (hr : LRel S w ι O (as1 ++ bs) ws h) : ∃ us vs f g, ws = us ++ vs ∧ LRel S w ι O as1 us f ∧ LRel S w ι O bs vs g ∧ h = f ++ g := by
  induction as1 generalizing ws h with
  | nil => exact ⟨[], ws, [], h, rfl, .nil, hr, rfl⟩
  | cons a as1 ih =>
    obtain ⟨v, vs', f1, f2, rfl, hv, hr', rfl⟩ := LRel.uncons hr
    obtain ⟨us, vs, f, g, rfl, h1, h2, rfl⟩ := ih hr'
    exact ⟨v :: us, vs, f1 ++ f, g, rfl, LRel.cons hv h1, h2, by simp⟩
theorem LRel.take {cs vs f} (h : LRel S w ι O cs vs f) (n : Nat) : ∃ g, LRel S w ι O (cs.take n) (vs.take n) g ∧ (∀ b ∈ g, b ∈ f) ∧ (f.Nodup → g.Nodup) := by
  rw [← List.take_append_drop n cs] at h
  obtain ⟨us, vs', f1, f2, rfl, h1, h2, rfl⟩ := h.split
  have hl := h1.len
  by_cases hn : n ≤ cs.length
  · have : us.length = n := by rw [← hl]; simp [hn]
    refine ⟨f1, ?_, fun b hb => List.mem_append_left _ hb, fun h => (List.nodup_append.1 h).1⟩
    rw [List.take_left' this]; exact h1
  · have hd : cs.drop n = [] := List.drop_eq_nil_of_le (by omega)
    rw [hd] at h2
    cases h2
    have hu : us.length ≤ n := by rw [← hl]; simp; omega
    refine ⟨f1, ?_, fun b hb => List.mem_append_left _ hb, fun h => (List.nodup_append.1 h).1⟩
    simp [List.take_of_length_le hu]; exact h1
theorem LRel.drop {cs vs f} (h : LRel S w ι O cs vs f) (n : Nat) : ∃ g, LRel S w ι O (cs.drop n) (vs.drop n) g ∧ (∀ b ∈ g, b ∈ f) ∧ (f.Nodup → g.Nodup) := by
  rw [← List.take_append_drop n cs] at h
  obtain ⟨us, vs', f1, f2, rfl, h1, h2, rfl⟩ := h.split
  have hl := h1.len
  by_cases hn : n ≤ cs.length
  · have : us.length = n := by rw [← hl]; simp [hn]
    refine ⟨f2, ?_, fun b hb => List.mem_append_right _ hb, fun h => (List.nodup_append.1 h).2.1⟩
    rw [List.drop_left' this]; exact h2
  · have hd : cs.drop n = [] := List.drop_eq_nil_of_le (by omega)
    rw [hd] at h2 ⊢
    cases h2
    have hu : us.length ≤ n := by rw [← hl]; simp; omega
    refine ⟨[], ?_, by simp, by simp⟩
    simp [List.drop_eq_nil_of_le hu]; exact .nil
theorem LRel.get {cs vs f} (h : LRel S w ι O cs vs f) {i : Nat} {V : AV} (hi : cs[i]? = some V) : ∃ x g, vs[i]? = some x ∧ VRel S w ι O V x g ∧ (∀ b ∈ g, b ∈ f) := by
  induction cs generalizing vs f i with
  | nil => simp at hi
  | cons c cs ih =>
    obtain ⟨v, vs', f1, f2, rfl, hv, hr, rfl⟩ := h.uncons
    cases i with
    | zero =>
      simp at hi; subst hi
      exact ⟨v, f1, by simp, hv, fun b hb => List.mem_append_left _ hb⟩
    | succ i =>
      obtain ⟨x, g, hx, hV, hg⟩ := ih hr (by simpa using hi)
      exact ⟨x, g, by simpa using hx, hV, fun b hb => List.mem_append_right _ (hg b hb)⟩
theorem LRel.set {cs vs f} (h : LRel S w ι O cs vs f) {V : AV} {x : Value} {g : List Nat} (hv : VRel S w ι O V x g) (i : Nat) :
    ∃ e, LRel S w ι O (cs.set i V) (vs.set i x) e ∧ (∀ b ∈ e, b ∈ f ∨ b ∈ g) ∧ (f.Nodup → g.Nodup → (∀ b ∈ g, b ∉ f) → e.Nodup) := by
  induction cs generalizing vs f i with
  | nil => cases h; exact ⟨[], by simpa using .nil, by simp, by simp⟩
  | cons c cs ih =>
    obtain ⟨v, vs', f1, f2, rfl, hv1, hr, rfl⟩ := h.uncons
    cases i with
    | zero =>
      refine ⟨g ++ f2, by simpa using LRel.cons hv hr, ?_, ?_⟩
      · intro b hb
        rcases List.mem_append.1 hb with hb | hb
        · exact .inr hb
        · exact .inl (List.mem_append_right _ hb)
      · intro hf hg hd
        refine List.nodup_append.2 ⟨hg, (List.nodup_append.1 hf).2.1, ?_⟩
        intro a ha b hb he
        subst he
        exact hd a ha (List.mem_append_right _ hb)
    | succ i =>
      obtain ⟨e, he, hm, hnd⟩ := ih hr i
      refine ⟨f1 ++ e, by simpa using LRel.cons hv1 he, ?_, ?_⟩
      · intro b hb
        rcases List.mem_append.1 hb with hb | hb
        · exact .inl (List.mem_append_left _ hb)
        · rcases hm b hb with hb | hb
          · exact .inl (List.mem_append_right _ hb)
          · exact .inr hb
      · intro hf hg hd
        obtain ⟨n1, n2, n3⟩ := List.nodup_append.1 hf
        refine List.nodup_append.2 ⟨n1, hnd n2 hg (fun b hb hb' => hd b hb (List.mem_append_right _ hb')), ?_⟩
        intro a ha b hb he'
        subst he'
        rcases hm a hb with hb | hb
        · exact n3 a ha a hb rfl
        · exact hd a hb (List.mem_append_left _ ha)
end
structure Later (S : Nat → Prop) (w : World) (ι : Nat → Spot) (O : List AObj) (S' : Nat → Prop) (w' : World) (ι' : Nat → Spot) (O' : List AObj) : Prop where
  sub : ∀ b, S b → S' b
  stays : ∀ b, S b → w'.heap[b]? = w.heap[b]?
  obj : ∀ id ob, O[id]? = some ob → ∃ ob', O'[id]? = some ob' ∧ (ob.ep < ob'.ep ∨ (ob'.ep = ob.ep ∧ ob'.size = ob.size ∧ ι' id = ι id))
theorem Later.none {S w ι S' w' ι'} (O' : List AObj) (h1 : ∀ b, S b → S' b) (h2 : ∀ b, S b → w'.heap[b]? = w.heap[b]?) : Later S w ι [] S' w' ι' O' :=
  ⟨h1, h2, fun id ob h => by simp at h⟩
theorem LRel.mono {S w ι O S' w' ι' O'} (hl : Later S w ι O S' w' ι' O') {cs vs f} (h : LRel S w ι O cs vs f) (hf : ∀ b ∈ f, w'.heap[b]? = w.heap[b]?) : LRel S' w' ι' O' cs vs f := by
  induction h generalizing O' with
  | nil => exact .nil
  | any _ ih => exact .any (ih hl hf)
  | sc _ ih => exact .sc (ih hl hf)
  | agg _ _ ih1 ih2 => exact .agg (ih1 hl fun b hb => hf b (List.mem_append_left _ hb)) (ih2 hl fun b hb => hf b (List.mem_append_right _ hb))
  | tup _ _ ih1 ih2 => exact .tup (ih1 hl fun b hb => hf b (List.mem_append_left _ hb)) (ih2 hl fun b hb => hf b (List.mem_append_right _ hb))
  | nilS _ ih => exact .nilS (ih hl hf)
  | imm0 h0 _ ih => exact .imm0 h0 (ih hl hf)
  | imm hS hc _ h1 h2 h3 _ ih1 ih2 =>
    exact .imm (hl.sub _ hS) (fun i hi => by rw [← hc i hi]; exact World.cell?_of_block (hl.stays _ hS)) (ih1 (Later.none [] hl.sub hl.stays) (by simp)) h1 h2 h3 (ih2 hl hf)
  | fre0 _ ih => exact .fre0 (ih hl hf)
  | fre hb hs hu _ h1 h2 h3 _ ih1 ih2 =>
    exact .fre (by rw [hf _ (by simp)]; exact hb) hs hu (ih1 (Later.none [] hl.sub hl.stays) fun b hb => hf b (by simp [hb])) h1 h2 h3 (ih2 hl fun b hb => hf b (by simp [hb]))
  | own ho he hx _ ih =>
    obtain ⟨ob', h1, h2⟩ := hl.obj _ _ ho
    rcases h2 with h2 | ⟨h2, h3, h4⟩
    · exact .own h1 (by omega) (fun e => by omega) (ih hl hf)
    · exact .own h1 (by omega) (fun e => by rw [h4, h3]; exact hx (by omega)) (ih hl hf)
  | ptr ho he hx _ ih =>
    obtain ⟨ob', h1, h2⟩ := hl.obj _ _ ho
    rcases h2 with h2 | ⟨h2, h3, h4⟩
    · exact .ptr h1 (by omega) (fun e => by omega) (ih hl hf)
    · exact .ptr h1 (by omega) (fun e => by rw [h4]; exact hx (by omega)) (ih hl hf)
  | iptr hS hc _ _ ih1 ih2 =>
    exact .iptr (hl.sub _ hS) (fun i hi => by rw [← hc i hi]; exact World.cell?_of_block (hl.stays _ hS)) (ih1 (Later.none [] hl.sub hl.stays) (by simp)) (ih2 hl hf)
  | fn _ _ ih1 ih2 => exact .fn (ih1 hl (by simp)) (ih2 hl hf)
  | ifc _ _ ih1 ih2 => exact .ifc (ih1 hl (by simp)) (ih2 hl hf)
theorem LRel.lift {S w ι O cs vs f} (h : LRel S w ι [] cs vs f) : LRel S w ι O cs vs f := h.mono (Later.none O (fun _ h => h) (fun _ _ => rfl)) (fun _ _ => rfl)
end Go.Abs


namespace Go.Abs
open Go
def NGlb : Nat := 6
structure Laid (W : World) : Prop where
  pow : ∃ t fz, W.heap[(5 : Nat)]? = some (.cells ((List.range 20).map fun i => Value.int .u64 ((10 ^ i : Nat) : Int)).toArray t fz)
  max : ∃ m, W.cell? ⟨0, 0, none⟩ = some (.int .i64 m)
  errS : ∃ ev, W.cell? ⟨3, 0, none⟩ = some ev ∧ (ev = .nilIface ∨ ∃ te pe, ev = .iface te pe)
  errR : ∃ ev, W.cell? ⟨4, 0, none⟩ = some ev ∧ (ev = .nilIface ∨ ∃ te pe, ev = .iface te pe)
def GlbOk (S : Nat → Prop) (w : World) : Prop := ∃ W : World, Laid W ∧ ∀ b, b < NGlb → S b ∧ w.heap[b]? = W.heap[b]?
theorem GlbOk.mono {S S2 : Nat → Prop} {w : World} (h : GlbOk S w) (hs : ∀ b, S b → S2 b) : GlbOk S2 w := by
  obtain ⟨W, h1, h2⟩ := h
  exact ⟨W, h1, fun b hb => ⟨hs b (h2 b hb).1, (h2 b hb).2⟩⟩
theorem GlbOk.ctx {S M0 : Nat → Prop} {w : World} (h : GlbOk S w) (hS : ∀ b, S b → b < w.heap.size) (hM : ∀ b, M0 b → ¬ S b) : ∃ W : World, Laid W ∧ ∀ b, b < NGlb → S b ∧ ¬ M0 b ∧ b < w.heap.size ∧ w.heap[b]? = W.heap[b]? := by
  obtain ⟨W, h1, h2⟩ := h
  exact ⟨W, h1, fun b hb => ⟨(h2 b hb).1, fun hm => hM b hm (h2 b hb).1, hS b (h2 b hb).1, (h2 b hb).2⟩⟩
end Go.Abs


namespace Go.Abs
open Go
def ObjAt (S : Nat → Prop) (w : World) (ι : Nat → Spot) (O : List AObj) (ob : AObj) (s : Spot) (f : List Nat) : Prop :=
  match s with
  | none => ob.cells = [] ∧ f = []
  | some (b, k) => ∃ cur t fz f', f = b :: f' ∧ w.heap[b]? = some (.cells cur t fz) ∧ cur.size = k ∧ ob.cells.length ≤ k ∧ (∀ i, i < k → ¬ (fz.1 ≤ i ∧ i < fz.2)) ∧
      (∀ e, ob.ty = some e → t = e ∧ fz = (0, 0)) ∧ LRel S w ι O ob.cells (cur.toList.take ob.cells.length) f'
structure ORel (S : Nat → Prop) (w : World) (ι : Nat → Spot) (O : List AObj) (F : Nat → List Nat) : Prop where
  obj : ∀ id ob, O[id]? = some ob → ObjAt S w ι O ob (ι id) (F id)
  nodup : ∀ id, id < O.length → (F id).Nodup
  apart : ∀ i j, i < O.length → j < O.length → i ≠ j → ∀ b, b ∈ F i → b ∉ F j
structure St where
  T : List (Nat × AV)
  O : List AObj
def look : List (Nat × AV) → Nat → AV
  | [], _ => .any
  | (k, V) :: r, t => match Nat.beq k t with | true => V | false => look r t
theorem look_cons_same (T : List (Nat × AV)) (t : Nat) (V : AV) : look ((t, V) :: T) t = V := by simp [look]
theorem look_cons_other (T : List (Nat × AV)) (k t : Nat) (V : AV) (h : k ≠ t) : look ((k, V) :: T) t = look T t := by
  have : Nat.beq k t = false := by
    cases hb : Nat.beq k t with
    | false => rfl
    | true => exact (h (Nat.eq_of_beq_eq_true hb)).elim
  simp [look, this]
structure Ctx where
  w0 : World
  S0 : Nat → Prop
  M0 : Nat → Prop
  ι0 : Nat → Spot
  glb : ∃ W : World, Laid W ∧ ∀ b, b < NGlb → S0 b ∧ ¬ M0 b ∧ b < w0.heap.size ∧ w0.heap[b]? = W.heap[b]?
structure Keeps (w0 : World) (M0 : Nat → Prop) (w : World) : Prop where
  os : w.os = w0.os
  tape : w.tape = w0.tape
  output : w.output = w0.output
  size : w0.heap.size ≤ w.heap.size
  block : ∀ b, b < w0.heap.size → ¬ M0 b → w.heap[b]? = w0.heap[b]?
theorem Keeps.refl (w : World) (M0 : Nat → Prop) : Keeps w M0 w := ⟨rfl, rfl, rfl, Nat.le_refl _, fun _ _ _ => rfl⟩
structure RelAt (n m : Nat) (G : Ctx) (S : Nat → Prop) (ι : Nat → Spot) (F : Nat → List Nat) (σ : St) (a : Act) (w : World) : Prop where
  defers : a.defers = []
  size : a.tmps.size = n
  tmps : ∀ t, VRel S w ι σ.O (look σ.T t) (a.tmps.getD t undef) []
  objs : ORel S w ι σ.O F
  foot : ∀ id, id < σ.O.length → ∀ b, b ∈ F id → (G.M0 b ∨ G.w0.heap.size ≤ b) ∧ ¬ S b ∧ b < w.heap.size
  base : (∀ b, G.S0 b → S b) ∧ (∀ b, S b → G.S0 b ∨ G.w0.heap.size ≤ b)
  stable : ∀ b, S b → b < w.heap.size
  keeps : Keeps G.w0 G.M0 w
  spots : ∀ id, id < m → ι id = G.ι0 id
  mle : m ≤ σ.O.length
theorem RelAt.glb {n m G S ι F σ a w} (hr : RelAt n m G S ι F σ a w) : GlbOk S w := by
  obtain ⟨W, h1, h2⟩ := G.glb
  exact ⟨W, h1, fun b hb => ⟨hr.base.1 b (h2 b hb).1, (hr.keeps.block b (h2 b hb).2.2.1 (h2 b hb).2.1).trans (h2 b hb).2.2.2⟩⟩
def Rel (n m : Nat) (G : Ctx) (σ : St) (a : Act) (w : World) : Prop := ∃ S ι F, RelAt n m G S ι F σ a w
def WpA (P : Program) (n m : Nat) (G : Ctx) (c : Code) (σ : St) (Q : Exit → St → Prop) : Prop :=
  ∀ a w, Rel n m G σ a w → c.wp P (fun e a' w' => ∃ σ', Q e σ' ∧ Rel n m G σ' a' w') a w
def Weak (m : Nat) (σ σ' : St) : Prop := ∀ n G a w, Rel n m G σ a w → Rel n m G σ' a w
def Seq (Y : St → Prop) (Q : Exit → St → Prop) : Exit → St → Prop
  | .normal, σ => Y σ
  | e, σ => Q e σ
theorem Seq.n {Y : St → Prop} {Q : Exit → St → Prop} {σ : St} (h : Y σ) : Seq Y Q .normal σ := h
theorem Seq.ret {Y : St → Prop} {Q : Exit → St → Prop} {σ : St} (h : Q .ret σ) : Seq Y Q .ret σ := h
theorem Seq.exit {Y : St → Prop} {Q : Exit → St → Prop} {σ : St} {id : Nat} (h : Q (.exit id) σ) : Seq Y Q (.exit id) σ := h
def Blk (id : Nat) (Q : Exit → St → Prop) : Exit → St → Prop
  | .exit id', σ => (id' = id ∧ Q .normal σ) ∨ (id' ≠ id ∧ Q (.exit id') σ)
  | e, σ => Q e σ
theorem Blk.n {id : Nat} {Q : Exit → St → Prop} {σ : St} (h : Q .normal σ) : Blk id Q .normal σ := h
theorem Blk.ret {id : Nat} {Q : Exit → St → Prop} {σ : St} (h : Q .ret σ) : Blk id Q .ret σ := h
theorem Blk.exitHere {id : Nat} {Q : Exit → St → Prop} {σ : St} (h : Q .normal σ) : Blk id Q (.exit id) σ := .inl ⟨rfl, h⟩
section
variable {P : Program} {n m : Nat} {G : Ctx} {σ : St} {Q : Exit → St → Prop}
theorem WpA.mono {c : Code} {Q' : Exit → St → Prop} (h : WpA P n m G c σ Q) (hq : ∀ e σ, Q e σ → Q' e σ) : WpA P n m G c σ Q' :=
  fun a w hr => wp_mono (h a w hr) fun e a' w' ⟨σ', hQ, hR⟩ => ⟨σ', hq _ _ hQ, hR⟩
theorem WpA.weak {c : Code} {σ' : St} (hw : Weak m σ σ') (h : WpA P n m G c σ' Q) : WpA P n m G c σ Q :=
  fun a w hr => h a w (hw n G a w hr)
theorem WpA.skip (h : Q .normal σ) : WpA P n m G .skip σ Q := fun a w hr => wp_skip ⟨σ, h, hr⟩
theorem WpA.ret (h : Q .ret σ) : WpA P n m G .ret σ Q := fun a w hr => wp_ret ⟨σ, h, hr⟩
theorem WpA.exit {id : Nat} (h : Q (.exit id) σ) : WpA P n m G (.exit id) σ Q := fun a w hr => wp_exit ⟨σ, h, hr⟩
theorem WpA.seq {x y : Code} (h : WpA P n m G x σ (Seq (fun σ => WpA P n m G y σ Q) Q)) : WpA P n m G (.seq x y) σ Q := fun a w hr =>
  wp_seq (wp_mono (h a w hr) fun e a' w' ⟨σ', hQ, hR⟩ => by
    cases e with
    | normal => exact hQ a' w' hR
    | _ => exact ⟨σ', hQ, hR⟩)
theorem WpA.block {id : Nat} {c : Code} (h : WpA P n m G c σ (Blk id Q)) : WpA P n m G (.block id c) σ Q := fun a w hr =>
  wp_block (wp_mono (h a w hr) fun e a' w' ⟨σ', hQ, hR⟩ => by
    cases e with
    | exit id' =>
      rcases hQ with ⟨h1, h2⟩ | ⟨h1, h2⟩
      · simp only [Exit.inBlock, h1, if_true]; exact ⟨σ', h2, hR⟩
      · simp only [Exit.inBlock, h1, if_false]; exact ⟨σ', h2, hR⟩
    | _ => exact ⟨σ', hQ, hR⟩)
theorem VRel.sc_eq {S w ι O v x f} (h : VRel S w ι O (.sc v) x f) : x = v := by cases h; rfl
def zav : Value → AV
  | .slice none 0 0 => .nilS
  | v => .sc v
theorem vrel_zav {S w ι O} (v : Value) : VRel S w ι O (zav v) v [] := by
  unfold zav
  split
  · exact .nilS .nil
  · exact .sc .nil
def av (T : List (Nat × AV)) : Operand → AV
  | .tmp t => look T t
  | .const v => zav v
  | .func f => .fn f []
  | .global _ => .any
theorem RelAt.eval {S ι F a w} (h : RelAt n m G S ι F σ a w) (x : Operand) : VRel S w ι σ.O (av σ.T x) (a.eval x) [] := by
  cases x with
  | tmp t => exact h.tmps t
  | const v => exact vrel_zav v
  | func f => exact .fn (us := []) .nil .nil
  | global g => exact .any .nil
theorem Rel.eval_sc {a w} (h : Rel n m G σ a w) {x : Operand} {v : Value} (hx : av σ.T x = .sc v) : a.eval x = v := by
  obtain ⟨S, ι, F, h⟩ := h
  have := h.eval x
  rw [hx] at this
  exact this.sc_eq
theorem WpA.condT {x : Operand} {A B : Code} (hx : av σ.T x = .sc (.bool true)) (h : WpA P n m G A σ Q) : WpA P n m G (.cond x A B) σ Q :=
  fun a w hr => wp_cond_true (hr.eval_sc hx) (h a w hr)
theorem WpA.condF {x : Operand} {A B : Code} (hx : av σ.T x = .sc (.bool false)) (h : WpA P n m G B σ Q) : WpA P n m G (.cond x A B) σ Q :=
  fun a w hr => wp_cond_false (hr.eval_sc hx) (h a w hr)
theorem WpA.condS {x : Operand} {A B : Code} {b : Bool} (hx : av σ.T x = .sc (.bool b)) (h1 : b = true → WpA P n m G A σ Q) (h2 : b = false → WpA P n m G B σ Q) :
    WpA P n m G (.cond x A B) σ Q :=
  fun a w hr => wp_cond_split (hr.eval_sc hx) (fun e => h1 e a w hr) (fun e => h2 e a w hr)
theorem WpA.condD {x : Operand} {A B : Code} {p : Prop} [Decidable p] (hx : av σ.T x = .sc (.bool (decide p))) (h1 : p → WpA P n m G A σ Q) (h2 : ¬ p → WpA P n m G B σ Q) :
    WpA P n m G (.cond x A B) σ Q :=
  WpA.condS hx (fun e => h1 (of_decide_eq_true e)) (fun e => h2 (of_decide_eq_false e))
theorem WpA.condN {x : Operand} {A B : Code} {p : Prop} [Decidable p] (hx : av σ.T x = .sc (.bool (!decide p))) (h1 : ¬ p → WpA P n m G A σ Q) (h2 : p → WpA P n m G B σ Q) :
    WpA P n m G (.cond x A B) σ Q :=
  WpA.condS hx (fun e => h1 (by simpa using e)) (fun e => h2 (by simpa using e))
theorem wp_loop_ghost {P : Program} {c : Code} {Q : Exit → Act → World → Prop} {β : Type} (I : β → Act → World → Prop) (μ : β → Nat)
    (round : ∀ x a w, I x a w → c.wp P (Exit.then (fun a' w' => ∃ y, μ y < μ x ∧ I y a' w') Q) a w) : ∀ x a w, I x a w → (Code.loop c).wp P Q a w := by
  have key : ∀ k x a w, μ x = k → I x a w → ∀ (b : Frame) (kk : List Item) (cs : List Frame),
      ∃ e a' w', Q e a' w' ∧ Arrives P (lone (b.at a (.code c :: .inLoop c :: kk)) cs w) b kk cs e a' w' := by
    intro k
    induction k using Nat.strongRecOn with
    | _ k ih =>
      intro x a w hk hI b kk cs
      obtain ⟨e, a₁, w₁, hq, harr⟩ := round x a w hI b (.inLoop c :: kk) cs
      cases e with
      | normal =>
        obtain ⟨y, hlt, hI₁⟩ := hq
        obtain ⟨e₂, a₂, w₂, hq₂, harr₂⟩ := ih (μ y) (hk ▸ hlt) y a₁ w₁ rfl hI₁ b kk cs
        exact ⟨e₂, a₂, w₂, hq₂, .of_steps (Steps.trans harr (.one step_inLoop)) harr₂⟩
      | exit id => exact ⟨_, a₁, w₁, hq, .pass (x := .inLoop c) rfl (fun _ _ => .inl (by simp)) harr⟩
      | goto l => exact ⟨_, a₁, w₁, hq, .pass (x := .inLoop c) rfl (fun _ _ => .inl (by simp)) harr⟩
      | ret => exact ⟨_, a₁, w₁, hq, .pass (x := .inLoop c) rfl (fun _ _ => .inl (by simp)) harr⟩
      | panic ch => exact ⟨_, a₁, w₁, hq, .pass (x := .inLoop c) rfl (fun _ _ => .inl (by simp)) harr⟩
      | outgrown => exact ⟨_, a₁, w₁, hq, .pass (x := .inLoop c) rfl (fun _ _ => .inl (by simp)) harr⟩
  intro x a w hI b kk cs
  obtain ⟨e, a', w', hq, harr⟩ := key (μ x) x a w rfl hI b kk cs
  exact ⟨e, a', w', hq, .of_steps (.one step_loop) harr⟩
def Rnd {β : Type} (m : Nat) (Inv : β → St) (C : β → Prop) (μ : β → Nat) (x : β) (Q : Exit → St → Prop) : Exit → St → Prop
  | .normal, σ => ∃ y, C y ∧ μ y < μ x ∧ Weak m σ (Inv y)
  | e, σ => Q e σ
theorem Rnd.go {β : Type} {m : Nat} {Inv : β → St} {C : β → Prop} {μ : β → Nat} {x : β} {Q : Exit → St → Prop} {σ : St} (y : β) (h1 : C y) (h2 : μ y < μ x) (h3 : Weak m σ (Inv y)) :
    Rnd m Inv C μ x Q .normal σ := ⟨y, h1, h2, h3⟩
theorem Rnd.ret {β : Type} {m : Nat} {Inv : β → St} {C : β → Prop} {μ : β → Nat} {x : β} {Q : Exit → St → Prop} {σ : St} (h : Q .ret σ) : Rnd m Inv C μ x Q .ret σ := h
theorem Rnd.exit {β : Type} {m : Nat} {Inv : β → St} {C : β → Prop} {μ : β → Nat} {x : β} {Q : Exit → St → Prop} {σ : St} {id : Nat} (h : Q (.exit id) σ) : Rnd m Inv C μ x Q (.exit id) σ := h
theorem WpA.loop {c : Code} {β : Type} (Inv : β → St) (C : β → Prop) (μ : β → Nat) (x0 : β) (hc : C x0) (h0 : Weak m σ (Inv x0))
    (round : ∀ x, C x → WpA P n m G c (Inv x) (Rnd m Inv C μ x Q)) : WpA P n m G (.loop c) σ Q := fun a w hr => by
  refine wp_loop_ghost (fun x a w => C x ∧ Rel n m G (Inv x) a w) μ ?_ x0 a w ⟨hc, h0 n G a w hr⟩
  rintro x a w ⟨hx, hR⟩
  refine wp_mono (round x hx a w hR) fun e a' w' ⟨σ', hQ, hR'⟩ => ?_
  cases e with
  | normal =>
    obtain ⟨y, h1, h2, h3⟩ := hQ
    exact ⟨y, h2, h1, h3 n G a' w' hR'⟩
  | _ => exact ⟨σ', hQ, hR'⟩
theorem Rel.drew {a w} (h : Rel n m G σ a w) : Rel n m G σ a w.drew := by
  obtain ⟨S, ι, F, hr⟩ := h
  have hlat : Later S w ι σ.O S w.drew ι σ.O := ⟨fun _ h => h, fun _ _ => rfl, fun _ ob h => ⟨ob, h, .inr ⟨rfl, rfl, rfl⟩⟩⟩
  refine ⟨S, ι, F, hr.defers, hr.size, fun t => (hr.tmps t).mono hlat (fun _ _ => rfl), ⟨fun id ob h => ?_, hr.objs.nodup, hr.objs.apart⟩, hr.foot, hr.base, hr.stable, ⟨hr.keeps.os, hr.keeps.tape, hr.keeps.output, hr.keeps.size, hr.keeps.block⟩, hr.spots, hr.mle⟩
  have ho := hr.objs.obj id ob h
  unfold ObjAt at ho ⊢
  cases hs : ι id with
  | none => rw [hs] at ho; exact ho
  | some p =>
    obtain ⟨b, k⟩ := p
    rw [hs] at ho
    obtain ⟨cur', t', fz', f2, h1, h2, h3, h4, h5, h6, h7⟩ := ho
    exact ⟨cur', t', fz', f2, h1, h2, h3, h4, h5, h6, h7.mono hlat (fun _ _ => rfl)⟩
def WpL (P : Program) (n m : Nat) (G : Ctx) (md : Bool) (ops : Array Oper) (l : List Oper) (σ : St) (Q : Exit → St → Prop) : Prop :=
  ∀ a w, Rel n m G σ a w → match md with
    | false => wpList P ops (fun e a' w' => ∃ σ', Q e σ' ∧ Rel n m G σ' a' w') l a w
    | true => wpStill P ops w (fun a' => ∃ σ', Q .normal σ' ∧ Rel n m G σ' a' w) l a
variable {md : Bool}
theorem WpA.region {id : Nat} {l : List Oper} (h : WpL P n m G false l.toArray l σ Q) : WpA P n m G (.region id l.toArray false) σ Q :=
  fun a w hr => wp_region_lit (h a w hr)
theorem WpL.nil {ops : Array Oper} (h : Q .normal σ) : WpL P n m G md ops [] σ Q := fun a w hr => by
  cases md with
  | false => exact wpList_nil ⟨σ, h, hr⟩
  | true => exact wpStill_nil ⟨σ, h, hr⟩
theorem WpL.weak {ops : Array Oper} {l : List Oper} {σ' : St} (hw : Weak m σ σ') (h : WpL P n m G md ops l σ' Q) : WpL P n m G md ops l σ Q :=
  fun a w hr => h a w (hw n G a w hr)
theorem WpL.op {ops : Array Oper} {o : Oper} {l : List Oper} {σ' : St} (hg : o.guard = none)
    (hop : ∀ a w, Rel n m G σ a w → o.wp P a w (fun a' w' => Rel n m G σ' a' w') (fun _ _ _ => False)) (h : WpL P n m G false ops l σ' Q) : WpL P n m G false ops (o :: l) σ Q := fun a w hr =>
  wpList_plain hg fun K hK => by
    have h1 := hop a w hr
    have hm : ∀ r, o.upon P a (fun a' w' => Rel n m G σ' a' w') (fun _ _ _ => False) r → o.upon P a K (fun e a' w' => ∃ σ', Q e σ' ∧ Rel n m G σ' a' w') r := by
      intro r hr'
      cases r with
      | ok x w1 =>
        cases x <;> simp only [Oper.upon] at hr' ⊢
        case value v => exact hK _ _ (h _ _ hr')
        case skip => exact hK _ _ (h _ _ hr')
        case defer d => exact hK _ _ (h _ _ hr')
        case enter f args =>
          refine hr'.mono fun e w2 h2 => ?_
          cases e with
          | returned v => exact hK _ _ (h _ _ h2)
          | panicked c => exact h2.elim
          | outgrown => obtain ⟨_, _, hf⟩ := h2; exact hf.elim
        case row r ar => exact hr'.mono fun v w2 h2 => hK _ _ (h _ _ h2)
      | halt x w1 => cases x <;> exact hr'.elim
    exact hm _ h1
theorem WpL.value {ops : Array Oper} {o : Oper} {l : List Oper} {σ' : St} (hg : o.guard = none)
    (hop : ∀ a w, Rel n m G σ a w → ∃ v w', (execOp a.eval o).run P w = .ok (.value v) w' ∧ Rel n m G σ' (a.put o.dst v) w') (h : WpL P n m G false ops l σ' Q) :
    WpL P n m G false ops (o :: l) σ Q :=
  WpL.op hg (fun a w hr => by obtain ⟨v, w', h1, h2⟩ := hop a w hr; unfold Oper.wp; rw [h1]; exact h2) h
theorem WpL.guardT {ops : Array Oper} {o : Oper} {l : List Oper} {j t : Nat} {want : Bool} (hg : o.guard = some (j, want)) (hj : ((ops[j]?).bind (·.dst)) = some t) (htn : t < n)
    (ht : look σ.T t = .sc (.bool want)) (h : WpL P n m G md ops ({ o with guard := none } :: l) σ Q) : WpL P n m G md ops (o :: l) σ Q := fun a w hr => by
  have hv : a.tmps.getD t undef = .bool want := hr.eval_sc (x := .tmp t) ht
  have hsz : a.tmps.size = n := by obtain ⟨_, _, _, h⟩ := hr; exact h.size
  have h1 := h a w hr
  have hv' : a.tmps[t]? = some (.bool want) := by
    rw [Array.getD_eq_getD_getElem?] at hv
    rw [Array.getElem?_eq_getElem (by omega)] at hv ⊢
    simpa using hv
  have hw : Region.wanted o (yielded ops a.tmps) = true := by
    simp [Region.wanted, hg, yielded, hj, hv']
  cases md with
  | false =>
    simp only at h1 ⊢
    unfold wpList at h1 ⊢
    rw [if_pos hw]
    rw [if_pos (by simp [Region.wanted])] at h1
    exact h1
  | true =>
    simp only at h1 ⊢
    unfold wpStill at h1 ⊢
    rw [if_pos hw]
    rw [if_pos (by simp [Region.wanted])] at h1
    exact h1
theorem WpL.guardF {ops : Array Oper} {o : Oper} {l : List Oper} {j t d : Nat} {want : Bool} (hg : o.guard = some (j, want)) (hj : ((ops[j]?).bind (·.dst)) = some t) (htn : t < n)
    (ht : look σ.T t = .sc (.bool !want)) (hd : o.dst = some d) (h : WpL P n m G md ops l ⟨(d, .any) :: σ.T, σ.O⟩ Q) : WpL P n m G md ops (o :: l) σ Q := fun a w hr => by
  have hv : a.tmps.getD t undef = .bool !want := hr.eval_sc (x := .tmp t) ht
  have hsz : a.tmps.size = n := by obtain ⟨_, _, _, h⟩ := hr; exact h.size
  have hv' : a.tmps[t]? = some (.bool !want) := by
    rw [Array.getD_eq_getD_getElem?] at hv
    rw [Array.getElem?_eq_getElem (by omega)] at hv ⊢
    simpa using hv
  have hw : Region.wanted o (yielded ops a.tmps) = false := by
    simp [Region.wanted, hg, yielded, hj, hv']
  have hrel : Rel n m G ⟨(d, .any) :: σ.T, σ.O⟩ (a.put o.dst undef) w := ?_
  · cases md with
    | false =>
      simp only
      unfold wpList
      rw [if_neg (by simp [hw])]
      exact h _ _ hrel
    | true =>
      simp only
      unfold wpStill
      rw [if_neg (by simp [hw])]
      exact h _ _ hrel
  obtain ⟨S, ι, F, hr⟩ := hr
  refine ⟨S, ι, F, by simpa [Act.put, hd] using hr.defers, by simp [Act.put, hd, hr.size], fun t' => ?_, hr.objs, hr.foot, hr.base, hr.stable, hr.keeps, hr.spots, hr.mle⟩
  by_cases he : d = t'
  · subst he; rw [look_cons_same]; exact .any .nil
  · rw [look_cons_other _ _ _ _ he]
    have := hr.tmps t'
    simpa [Act.put, hd, Array.getD_eq_getD_getElem?, Array.getElem?_setIfInBounds, he] using this
theorem WpL.splitB {ops : Array Oper} {l : List Oper} {t : Nat} {b : Bool} (ht : look σ.T t = .sc (.bool b))
    (h1 : b = true → WpL P n m G md ops l ⟨(t, .sc (.bool true)) :: σ.T, σ.O⟩ Q) (h2 : b = false → WpL P n m G md ops l ⟨(t, .sc (.bool false)) :: σ.T, σ.O⟩ Q) : WpL P n m G md ops l σ Q := by
  have key : ∀ c, b = c → Weak m σ ⟨(t, .sc (.bool c)) :: σ.T, σ.O⟩ := by
    rintro c rfl n' G' a w ⟨S, ι, F, hr⟩
    refine ⟨S, ι, F, hr.defers, hr.size, fun t' => ?_, hr.objs, hr.foot, hr.base, hr.stable, hr.keeps, hr.spots, hr.mle⟩
    by_cases he : t = t'
    · subst he; rw [look_cons_same, ← ht]; exact hr.tmps t
    · rw [look_cons_other _ _ _ _ he]; exact hr.tmps t'
  cases hb : b with
  | true => exact WpL.weak (key true hb) (h1 hb)
  | false => exact WpL.weak (key false hb) (h2 hb)
theorem WpL.guardS {ops : Array Oper} {o : Oper} {l : List Oper} {j t : Nat} {want b : Bool} (hg : o.guard = some (j, want)) (hj : ((ops[j]?).bind (·.dst)) = some t) (ht : look σ.T t = .sc (.bool b))
    (h1 : b = true → WpL P n m G md ops (o :: l) ⟨(t, .sc (.bool true)) :: σ.T, σ.O⟩ Q) (h2 : b = false → WpL P n m G md ops (o :: l) ⟨(t, .sc (.bool false)) :: σ.T, σ.O⟩ Q) : WpL P n m G md ops (o :: l) σ Q :=
  WpL.splitB ht h1 h2
theorem WpL.guardD {ops : Array Oper} {o : Oper} {l : List Oper} {j t : Nat} {want : Bool} {p : Prop} [Decidable p] (hg : o.guard = some (j, want)) (hj : ((ops[j]?).bind (·.dst)) = some t) (ht : look σ.T t = .sc (.bool (decide p)))
    (h1 : p → WpL P n m G md ops (o :: l) ⟨(t, .sc (.bool true)) :: σ.T, σ.O⟩ Q) (h2 : ¬ p → WpL P n m G md ops (o :: l) ⟨(t, .sc (.bool false)) :: σ.T, σ.O⟩ Q) : WpL P n m G md ops (o :: l) σ Q :=
  WpL.splitB ht (fun e => h1 (of_decide_eq_true e)) (fun e => h2 (of_decide_eq_false e))
theorem WpL.guardN {ops : Array Oper} {o : Oper} {l : List Oper} {j t : Nat} {want : Bool} {p : Prop} [Decidable p] (hg : o.guard = some (j, want)) (hj : ((ops[j]?).bind (·.dst)) = some t) (ht : look σ.T t = .sc (.bool (!decide p)))
    (h1 : ¬ p → WpL P n m G md ops (o :: l) ⟨(t, .sc (.bool true)) :: σ.T, σ.O⟩ Q) (h2 : p → WpL P n m G md ops (o :: l) ⟨(t, .sc (.bool false)) :: σ.T, σ.O⟩ Q) : WpL P n m G md ops (o :: l) σ Q :=
  WpL.splitB ht (fun e => h1 (by simpa using e)) (fun e => h2 (by simpa using e))
end
theorem RelAt.put {n m G S ι F σ a w} (hr : RelAt n m G S ι F σ a w) {d : Nat} {V : AV} {v : Value} (hd : d < n) (hv : VRel S w ι σ.O V v []) :
    RelAt n m G S ι F ⟨(d, V) :: σ.T, σ.O⟩ (a.put (some d) v) w := by
  refine ⟨hr.defers, by simp [Act.put, hr.size], fun t' => ?_, hr.objs, hr.foot, hr.base, hr.stable, hr.keeps, hr.spots, hr.mle⟩
  by_cases he : d = t'
  · subst he; rw [look_cons_same]
    have : (a.put (some d) v).tmps.getD d undef = v := by
      have hs := hr.size
      have hlt : d < a.tmps.size := by omega
      simp [Act.put, Array.getD_eq_getD_getElem?, Array.getElem?_setIfInBounds, hlt]
    rw [this]; exact hv
  · rw [look_cons_other _ _ _ _ he]
    have := hr.tmps t'
    simpa [Act.put, Array.getD_eq_getD_getElem?, Array.getElem?_setIfInBounds, he] using this
end Go.Abs


namespace Go.Abs
open Go
def AV.force : AV → Option AV
  | .any => some .any
  | .sc v => some (.sc v)
  | .agg cs => some (.agg cs)
  | .tup cs => some (.tup cs)
  | .nilS => some .nilS
  | .imm s l cs => some (.imm s l cs)
  | .fre s l cs => some (.fre s l cs)
  | .own i e o l => some (.own i e o l)
  | .ptr i e o => some (.ptr i e o)
  | .iptr cs o => some (.iptr cs o)
  | .fn f cs => some (.fn f cs)
  | .ifc t v => some (.ifc t v)
theorem AV.force_eq {V V' : AV} (h : V.force = some V') : V = V' := by cases V <;> exact Option.some.inj h
def aBin (op : BinOp) : Value → Value → Option Value
  | .int k a, .int k' b => match decide (k = k') with
    | false => none
    | true => match op with
      | .add => some (.int k (k.wrap (a + b)))
      | .sub => some (.int k (k.wrap (a - b)))
      | .mul => some (.int k (k.wrap (a * b)))
      | .and => some (.int k (k.wrap (BitVec.ofInt k.bits a &&& BitVec.ofInt k.bits b).toNat))
      | .or => some (.int k (k.wrap (BitVec.ofInt k.bits a ||| BitVec.ofInt k.bits b).toNat))
      | .xor => some (.int k (k.wrap (BitVec.ofInt k.bits a ^^^ BitVec.ofInt k.bits b).toNat))
      | .andNot => some (.int k (k.wrap (BitVec.ofInt k.bits a &&& ~~~ BitVec.ofInt k.bits b).toNat))
      | .eql => some (.bool (decide (a = b)))
      | .neq => some (.bool (!decide (a = b)))
      | .lss => some (.bool (decide (a < b)))
      | .leq => some (.bool (decide (a ≤ b)))
      | .gtr => some (.bool (decide (a > b)))
      | .geq => some (.bool (decide (a ≥ b)))
      | _ => none
  | .bool a, .bool b => none
  | _, _ => none
theorem run_aBin (P : Program) {op : BinOp} {x y v : Value} (h : aBin op x y = some v) (t : TypeId) (ox oy : Operand) (w : World) :
    (do eqGuard op t ox oy x y; binOp op t x y : Sem Value).run P w = .ok v w := by
  unfold aBin at h
  split at h
  · rename_i k a k' b
    split at h
    · simp at h
    · rename_i hk
      have hk := of_decide_eq_true hk
      subst hk
      cases op <;> simp at h <;> subst h <;> simp [eqGuard, binOp, Op.intArith, Op.intBits, Op.intCmp, Sem.run_bind]
      all_goals first | rfl | (rw [Bool.eq_iff_iff]; simp)
  · simp at h
  · simp at h
theorem eqGuard_str (op : BinOp) (t : TypeId) (ox oy : Operand) (x y : ByteArray) : eqGuard op t ox oy (.string x) (.string y) = pure () := by
  cases op <;> rfl
theorem eqGuard_bool (op : BinOp) (t : TypeId) (ox oy : Operand) (x y : Bool) : eqGuard op t ox oy (.bool x) (.bool y) = pure () := by
  cases op <;> rfl
theorem eqGuard_int (op : BinOp) (t : TypeId) (ox oy : Operand) (k k' : IntKind) (x y : Int) : eqGuard op t ox oy (.int k x) (.int k' y) = pure () := by
  cases op <;> rfl
section
variable {P : Program} {n m : Nat} {G : Ctx} {md : Bool} {T : List (Nat × AV)} {O : List AObj} {Q : Exit → St → Prop} {ops : Array Oper} {l : List Oper} {d : Nat} {tt : TypeId} {pos : String} {after : Array Edge}
theorem WpL.pure {o : Oper} {V : AV} (hg : o.guard = none) (hd : o.dst = some d) (hn : d < n)
    (hop : ∀ S ι F a w, RelAt n m G S ι F ⟨T, O⟩ a w → ∃ v, (execOp a.eval o).run P w = .ok (.value v) w ∧ VRel S w ι O V v [])
    (h : WpL P n m G md ops l ⟨(d, V) :: T, O⟩ Q) : WpL P n m G md ops (o :: l) ⟨T, O⟩ Q :=
  match md, h with
  | false, h => WpL.value hg (fun a w hr => by
    obtain ⟨S, ι, F, hr⟩ := hr
    obtain ⟨v, h1, h2⟩ := hop S ι F a w hr
    refine ⟨v, w, h1, S, ι, F, ?_⟩
    rw [hd]
    exact hr.put hn h2) h
  | true, h => fun a w hr => by
    obtain ⟨S, ι, F, hr⟩ := hr
    obtain ⟨v, h1, h2⟩ := hop S ι F a w hr
    have h3 := h _ w ⟨S, ι, F, hr.put hn h2⟩
    simp only at h3 ⊢
    unfold wpStill
    rw [if_pos (by simp [Region.wanted, hg])]
    unfold Oper.still
    rw [h1, Oper.stillUpon_value, hd]
    exact h3
theorem WpL.move {x : Operand} {V : AV} (hx : (av T x).force = some V) (hn : d < n) (h : WpL P n m G md ops l ⟨(d, V) :: T, O⟩ Q) :
    WpL P n m G md ops ({ dst := some d, op := .move x, type := tt, pos := pos, after := after, guard := none } :: l) ⟨T, O⟩ Q :=
  WpL.pure rfl rfl hn (fun S ι F a w hr => ⟨a.eval x, by simp [execOp], by rw [← AV.force_eq hx]; exact hr.eval x⟩) h
theorem WpL.assign {x : Operand} {V : AV} (hx : (av T x).force = some V) (hn : d < n) (h : WpL P n m G md ops l ⟨(d, V) :: T, O⟩ Q) :
    WpL P n m G md ops ({ dst := some d, op := .assign x, type := tt, pos := pos, after := after, guard := none } :: l) ⟨T, O⟩ Q :=
  WpL.pure rfl rfl hn (fun S ι F a w hr => ⟨a.eval x, by simp [execOp], by rw [← AV.force_eq hx]; exact hr.eval x⟩) h
theorem RelAt.sc {S ι F a w} (hr : RelAt n m G S ι F ⟨T, O⟩ a w) {x : Operand} {v : Value} (hx : av T x = .sc v) : a.eval x = v := by
  have := hr.eval x
  rw [show av (St.mk T O).T x = .sc v from hx] at this
  exact this.sc_eq
theorem WpL.pickT {c x y : Operand} {V : AV} (hc : av T c = .sc (.bool true)) (hx : (av T x).force = some V) (hn : d < n) (h : WpL P n m G md ops l ⟨(d, V) :: T, O⟩ Q) :
    WpL P n m G md ops ({ dst := some d, op := .pick c x y, type := tt, pos := pos, after := after, guard := none } :: l) ⟨T, O⟩ Q :=
  WpL.pure rfl rfl hn (fun S ι F a w hr => ⟨a.eval x, by simp [execOp, hr.sc hc, asBool], by rw [← AV.force_eq hx]; exact hr.eval x⟩) h
theorem WpL.pickF {c x y : Operand} {V : AV} (hc : av T c = .sc (.bool false)) (hy : (av T y).force = some V) (hn : d < n) (h : WpL P n m G md ops l ⟨(d, V) :: T, O⟩ Q) :
    WpL P n m G md ops ({ dst := some d, op := .pick c x y, type := tt, pos := pos, after := after, guard := none } :: l) ⟨T, O⟩ Q :=
  WpL.pure rfl rfl hn (fun S ι F a w hr => ⟨a.eval y, by simp [execOp, hr.sc hc, asBool], by rw [← AV.force_eq hy]; exact hr.eval y⟩) h
theorem WpL.bin {op : BinOp} {t ty : TypeId} {x y : Operand} {vx vy v : Value} (hx : av T x = .sc vx) (hy : av T y = .sc vy) (hv : aBin op vx vy = some v) (hn : d < n)
    (h : WpL P n m G md ops l ⟨(d, .sc v) :: T, O⟩ Q) :
    WpL P n m G md ops ({ dst := some d, op := .binOp op t x y ty, type := tt, pos := pos, after := after, guard := none } :: l) ⟨T, O⟩ Q :=
  WpL.pure rfl rfl hn (fun S ι F a w hr => ⟨v, by
    have := run_aBin P hv t x y w
    simp only [execOp, hr.sc hx, hr.sc hy, Sem.run_bind, this, Result.andThen_ok, Sem.run_pure], .sc .nil⟩) h
theorem WpL.bin2 {op : BinOp} {t ty : TypeId} {x y : Operand} {vx vy v : Value} (hx : av T x = .sc vx) (hy : av T y = .sc vy)
    (hrun : ∀ w, (do eqGuard op t x y vx vy; binOp op t vx vy : Sem Value).run P w = .ok v w) (hn : d < n)
    (h : WpL P n m G md ops l ⟨(d, .sc v) :: T, O⟩ Q) :
    WpL P n m G md ops ({ dst := some d, op := .binOp op t x y ty, type := tt, pos := pos, after := after, guard := none } :: l) ⟨T, O⟩ Q :=
  WpL.pure rfl rfl hn (fun S ι F a w hr => ⟨v, by
    have := hrun w
    simp only [execOp, hr.sc hx, hr.sc hy, Sem.run_bind, this, Result.andThen_ok, Sem.run_pure], .sc .nil⟩) h
section
variable {t ty : TypeId} {x y : Operand} {k k' : IntKind} {p q : Int}
theorem WpL.add (hx : av T x = .sc (.int .i64 p)) (hy : av T y = .sc (.int .i64 q)) (hb : -9223372036854775808 ≤ p + q ∧ p + q ≤ 9223372036854775807) (hn : d < n)
    (h : WpL P n m G md ops l ⟨(d, .sc (.int .i64 (p + q))) :: T, O⟩ Q) :
    WpL P n m G md ops ({ dst := some d, op := .binOp .add t x y ty, type := tt, pos := pos, after := after, guard := none } :: l) ⟨T, O⟩ Q :=
  WpL.bin hx hy (show aBin .add (.int .i64 p) (.int .i64 q) = some (.int .i64 (p + q)) by simp [aBin, IntWalk.i64_in _ hb]) hn h
theorem WpL.sub (hx : av T x = .sc (.int .i64 p)) (hy : av T y = .sc (.int .i64 q)) (hb : -9223372036854775808 ≤ p - q ∧ p - q ≤ 9223372036854775807) (hn : d < n)
    (h : WpL P n m G md ops l ⟨(d, .sc (.int .i64 (p - q))) :: T, O⟩ Q) :
    WpL P n m G md ops ({ dst := some d, op := .binOp .sub t x y ty, type := tt, pos := pos, after := after, guard := none } :: l) ⟨T, O⟩ Q :=
  WpL.bin hx hy (show aBin .sub (.int .i64 p) (.int .i64 q) = some (.int .i64 (p - q)) by simp [aBin, IntWalk.i64_in _ hb]) hn h
theorem run_quo (P : Program) (h0 : q ≠ 0) (ox oy : Operand) (w : World) :
    (do eqGuard .quo t ox oy (.int k p) (.int k q); binOp .quo t (.int k p) (.int k q) : Sem Value).run P w = .ok (.int k (k.wrap (p.tdiv q))) w := by
  simp [eqGuard, binOp, Op.intDiv, h0, Sem.run_bind]
theorem run_rem (P : Program) (h0 : q ≠ 0) (ox oy : Operand) (w : World) :
    (do eqGuard .rem t ox oy (.int k p) (.int k q); binOp .rem t (.int k p) (.int k q) : Sem Value).run P w = .ok (.int k (p.tmod q)) w := by
  simp [eqGuard, binOp, Op.intDiv, h0, Sem.run_bind]
theorem WpL.quo (hx : av T x = .sc (.int .i64 p)) (hy : av T y = .sc (.int .i64 q)) (hb : 0 ≤ p ∧ p ≤ 9223372036854775807 ∧ 1 ≤ q) (hn : d < n)
    (h : WpL P n m G md ops l ⟨(d, .sc (.int .i64 (p / q))) :: T, O⟩ Q) :
    WpL P n m G md ops ({ dst := some d, op := .binOp .quo t x y ty, type := tt, pos := pos, after := after, guard := none } :: l) ⟨T, O⟩ Q :=
  WpL.bin2 hx hy (fun w => by rw [run_quo P (by omega), IntWalk.i64_quo p q hb]) hn h
theorem WpL.quoT (hx : av T x = .sc (.int .i64 p)) (hy : av T y = .sc (.int .i64 q)) (hb : -9223372036854775808 ≤ p ∧ p ≤ 9223372036854775807 ∧ 1 ≤ q) (hn : d < n)
    (h : WpL P n m G md ops l ⟨(d, .sc (.int .i64 (p.tdiv q))) :: T, O⟩ Q) :
    WpL P n m G md ops ({ dst := some d, op := .binOp .quo t x y ty, type := tt, pos := pos, after := after, guard := none } :: l) ⟨T, O⟩ Q :=
  WpL.bin2 hx hy (fun w => by rw [run_quo P (by omega), IntWalk.i64_quo' p q hb]) hn h
theorem WpL.rem (hx : av T x = .sc (.int k p)) (hy : av T y = .sc (.int k q)) (hb : 0 ≤ p ∧ 1 ≤ q) (hn : d < n)
    (h : WpL P n m G md ops l ⟨(d, .sc (.int k (p % q))) :: T, O⟩ Q) :
    WpL P n m G md ops ({ dst := some d, op := .binOp .rem t x y ty, type := tt, pos := pos, after := after, guard := none } :: l) ⟨T, O⟩ Q :=
  WpL.bin2 hx hy (fun w => by rw [run_rem P (by omega), IntWalk.rem_in p q hb.1]) hn h
theorem WpL.remT (hx : av T x = .sc (.int k p)) (hy : av T y = .sc (.int k q)) (hb : q ≠ 0) (hn : d < n)
    (h : WpL P n m G md ops l ⟨(d, .sc (.int k (p.tmod q))) :: T, O⟩ Q) :
    WpL P n m G md ops ({ dst := some d, op := .binOp .rem t x y ty, type := tt, pos := pos, after := after, guard := none } :: l) ⟨T, O⟩ Q :=
  WpL.bin2 hx hy (fun w => by rw [run_rem P hb]) hn h
theorem WpL.shl (hx : av T x = .sc (.int k p)) (hy : av T y = .sc (.int k' q)) (hb : 0 ≤ q ∧ q ≤ k.bits) (hn : d < n)
    (h : WpL P n m G md ops l ⟨(d, .sc (.int k (k.wrap (p * 2 ^ q.toNat)))) :: T, O⟩ Q) :
    WpL P n m G md ops ({ dst := some d, op := .binOp .shl t x y ty, type := tt, pos := pos, after := after, guard := none } :: l) ⟨T, O⟩ Q :=
  WpL.bin2 hx hy (fun w => by
    have h1 : ¬ q < 0 := by omega
    have h2 : min q.toNat k.bits = q.toNat := by omega
    simp [eqGuard_int, binOp, Op.shift, h1, h2, Sem.run_bind]) hn h
end
section
variable {t ty : TypeId} {x y : Operand} {p q : List UInt8}
theorem WpL.strAdd (hx : av T x = .sc (.string ⟨p.toArray⟩)) (hy : av T y = .sc (.string ⟨q.toArray⟩)) (hb : p.length + q.length ≤ 9223372036854775807) (hn : d < n)
    (h : WpL P n m G md ops l ⟨(d, .sc (.string ⟨(p ++ q).toArray⟩)) :: T, O⟩ Q) :
    WpL P n m G md ops ({ dst := some d, op := .binOp .add t x y ty, type := tt, pos := pos, after := after, guard := none } :: l) ⟨T, O⟩ Q :=
  WpL.bin2 hx hy (fun w => by
    have e : (ByteArray.mk p.toArray ++ ByteArray.mk q.toArray) = ByteArray.mk (p ++ q).toArray := by apply ByteArray.ext; simp
    have hs : ¬ (((ByteArray.mk p.toArray).size + (ByteArray.mk q.toArray).size : Nat) : Int) > IntKind.i64.max := by
      simp [ByteArray.size, IntKind.max, IntKind.signed, IntKind.bits]; omega
    simp only [eqGuard_str, binOp, Op.stringOp, if_neg hs, e, Sem.run_bind, Sem.run_pure, Result.andThen_ok]) hn h
theorem WpL.strEq (hx : av T x = .sc (.string ⟨p.toArray⟩)) (hy : av T y = .sc (.string ⟨q.toArray⟩)) (hn : d < n)
    (h : WpL P n m G md ops l ⟨(d, .sc (.bool (decide (p = q)))) :: T, O⟩ Q) :
    WpL P n m G md ops ({ dst := some d, op := .binOp .eql t x y ty, type := tt, pos := pos, after := after, guard := none } :: l) ⟨T, O⟩ Q :=
  WpL.bin2 hx hy (fun w => by
    have e : (p == q) = decide (p = q) := by rw [Bool.eq_iff_iff]; simp
    simp only [eqGuard_str, binOp, Op.stringOp, ByteArray.toList_mk, e, Sem.run_bind, Sem.run_pure, Result.andThen_ok]) hn h
theorem WpL.strNe (hx : av T x = .sc (.string ⟨p.toArray⟩)) (hy : av T y = .sc (.string ⟨q.toArray⟩)) (hn : d < n)
    (h : WpL P n m G md ops l ⟨(d, .sc (.bool (!decide (p = q)))) :: T, O⟩ Q) :
    WpL P n m G md ops ({ dst := some d, op := .binOp .neq t x y ty, type := tt, pos := pos, after := after, guard := none } :: l) ⟨T, O⟩ Q :=
  WpL.bin2 hx hy (fun w => by
    have e : (p == q) = decide (p = q) := by rw [Bool.eq_iff_iff]; simp
    simp only [eqGuard_str, binOp, Op.stringOp, ByteArray.toList_mk, e, Sem.run_bind, Sem.run_pure, Result.andThen_ok]) hn h
end
section
variable {t ty : TypeId} {x y : Operand} {p q : Bool}
theorem run_equal_bool (P : Program) (ht : P.underlying t = some .bool) (w : World) : (Op.equal t (.bool p) (.bool q)).run P w = .ok (decide (p = q)) w := by
  have e : (p == q) = decide (p = q) := by rw [Bool.eq_iff_iff]; simp
  show (Op.equalIn (9999 + 1) t (.bool p) (.bool q)).run P w = _
  rw [Op.equalIn]
  simp only [Sem.run_bind, run_underlying ht, Result.andThen_ok, e, Sem.run_pure]
theorem WpL.boolNe (ht : P.underlying t = some .bool) (hx : av T x = .sc (.bool p)) (hy : av T y = .sc (.bool q)) (hn : d < n)
    (h : WpL P n m G md ops l ⟨(d, .sc (.bool (!decide (p = q)))) :: T, O⟩ Q) :
    WpL P n m G md ops ({ dst := some d, op := .binOp .neq t x y ty, type := tt, pos := pos, after := after, guard := none } :: l) ⟨T, O⟩ Q :=
  WpL.bin2 hx hy (fun w => by
    simp [eqGuard_bool, binOp, run_equal_bool P ht, Sem.run_bind]) hn h
end
theorem WpL.not {t : TypeId} {x : Operand} {b : Bool} (hx : av T x = .sc (.bool b)) (hn : d < n) (h : WpL P n m G md ops l ⟨(d, .sc (.bool !b)) :: T, O⟩ Q) :
    WpL P n m G md ops ({ dst := some d, op := .unOp .not t x, type := tt, pos := pos, after := after, guard := none } :: l) ⟨T, O⟩ Q :=
  WpL.pure rfl rfl hn (fun S ι F a w hr => ⟨.bool !b, by simp [execOp, hr.sc hx, Op.unary], .sc .nil⟩) h
theorem WpL.neg {t : TypeId} {x : Operand} {p : Int} (hx : av T x = .sc (.int .i64 p)) (hb : -9223372036854775807 ≤ p ∧ p ≤ 9223372036854775807) (hn : d < n) (h : WpL P n m G md ops l ⟨(d, .sc (.int .i64 (-p))) :: T, O⟩ Q) :
    WpL P n m G md ops ({ dst := some d, op := .unOp .neg t x, type := tt, pos := pos, after := after, guard := none } :: l) ⟨T, O⟩ Q :=
  WpL.pure rfl rfl hn (fun S ι F a w hr => ⟨.int .i64 (-p), by
    have := IntWalk.i64_in (-p) (by omega)
    simp [execOp, hr.sc hx, Op.unary, Op.intArith, this], .sc .nil⟩) h
theorem WpL.conv {s t : TypeId} {x : Operand} {k k' : IntKind} {p : Int} (hs : (P.underlying s).isSome = true) (ht : P.underlying t = some (.int k)) (hx : av T x = .sc (.int k' p)) (hn : d < n)
    (h : WpL P n m G md ops l ⟨(d, .sc (.int k (k.wrap p))) :: T, O⟩ Q) :
    WpL P n m G md ops ({ dst := some d, op := .convert s t x, type := tt, pos := pos, after := after, guard := none } :: l) ⟨T, O⟩ Q :=
  WpL.pure rfl rfl hn (fun S ι F a w hr => ⟨.int k (k.wrap p), by
    obtain ⟨u, hu⟩ := Option.isSome_iff_exists.1 hs
    simp only [execOp, convert, hr.sc hx, Sem.run_bind, run_underlying hu, run_underlying ht, Result.andThen_ok]
    cases u <;> simp [Conv.intToInt], .sc .nil⟩) h
theorem WpL.convI {s t : TypeId} {x : Operand} {k' : IntKind} {p : Int} (hs : (P.underlying s).isSome = true) (ht : P.underlying t = some (.int .i64)) (hx : av T x = .sc (.int k' p))
    (hb : -9223372036854775808 ≤ p ∧ p ≤ 9223372036854775807) (hn : d < n) (h : WpL P n m G md ops l ⟨(d, .sc (.int .i64 p)) :: T, O⟩ Q) :
    WpL P n m G md ops ({ dst := some d, op := .convert s t x, type := tt, pos := pos, after := after, guard := none } :: l) ⟨T, O⟩ Q :=
  WpL.conv hs ht hx hn (by rw [IntWalk.i64_in _ hb]; exact h)
theorem LRel.tup_inv {S w ι O ds x f} (h : VRel S w ι O (.tup ds) x f) : ∃ us, x = .tuple us.toArray ∧ LRel S w ι O ds us f := by
  cases h with
  | tup a r => cases r; exact ⟨_, rfl, by simpa using a⟩
theorem LRel.agg_inv {S w ι O ds x f} (h : VRel S w ι O (.agg ds) x f) : ∃ us, x = .agg us.toArray ∧ LRel S w ι O ds us f := by
  cases h with
  | agg a r => cases r; exact ⟨_, rfl, by simpa using a⟩
theorem WpL.extract {x : Operand} {ds : List AV} {i : Nat} {V : AV} (hx : av T x = .tup ds) (hi : (ds.getD i .any).force = some V) (hil : i < ds.length) (hn : d < n) (h : WpL P n m G md ops l ⟨(d, V) :: T, O⟩ Q) :
    WpL P n m G md ops ({ dst := some d, op := .extract x i, type := tt, pos := pos, after := after, guard := none } :: l) ⟨T, O⟩ Q :=
  WpL.pure rfl rfl hn (fun S ι F a w hr => by
    have he := hr.eval x
    rw [show av (St.mk T O).T x = _ from hx] at he
    obtain ⟨us, hu, hl⟩ := LRel.tup_inv he
    have hg : ds[i]? = some V := by
      rw [← AV.force_eq hi, List.getD_eq_getElem?_getD, List.getElem?_eq_getElem hil]; rfl
    obtain ⟨v, g, hv, hV, hgm⟩ := hl.get hg
    have hg0 : g = [] := List.eq_nil_iff_forall_not_mem.2 fun b hb => by simpa using hgm b hb
    subst hg0
    exact ⟨v, by simp [execOp, hu, Instr.extract, hv], hV⟩) h
theorem LRel.slice_len {S w ι O V x f} (h : VRel S w ι O V x f) : (∀ id ep off len ob, V = .own id ep off len → O[id]? = some ob → ob.ep = ep → ∃ a c, x = .slice a len c) ∧
    (∀ s len cs, V = .imm s len cs → ∃ a c, x = .slice a len c) ∧ (V = .nilS → x = .slice none 0 0) := by
  refine ⟨?_, ?_, ?_⟩
  · rintro id ep off len ob rfl ho he
    cases h with
    | own a b c r =>
      rw [ho] at a
      cases a
      have := c he.symm
      cases hs : ι id with
      | none => rw [hs] at this; obtain ⟨h1, _, h3⟩ := this; subst h3; exact ⟨_, _, h1⟩
      | some p => obtain ⟨b', k⟩ := p; rw [hs] at this; obtain ⟨cap, h1, _⟩ := this; exact ⟨_, _, h1⟩
  · rintro s len cs rfl
    cases h with
    | imm0 _ r => exact ⟨_, _, rfl⟩
    | imm => exact ⟨_, _, rfl⟩
  · rintro rfl
    cases h; rfl
theorem run_len_slice (P : Program) (t : TypeId) (e : TypeId) (ht : P.underlying t = some (.slice e)) (ty : TypeId) (a : Option Addr) (len c : Nat) (w : World) :
    (Builtin.len_ #[t] ty #[.slice a len c]).run P w = .ok (.int .i64 len) w := by
  simp [Builtin.len_, run_underlying ht, goInt]
theorem WpL.lenOwn {t e : TypeId} {x : Operand} {id ep off len : Nat} {ob : AObj} (ht : P.underlying t = some (.slice e)) (hx : av T x = .own id ep off len) (ho : O[id]? = some ob) (he : ob.ep = ep) (hn : d < n)
    (h : WpL P n m G md ops l ⟨(d, .sc (.int .i64 len)) :: T, O⟩ Q) :
    WpL P n m G md ops ({ dst := some d, op := .call { callee := .builtin .len, args := #[x], argTypes := #[t] }, type := tt, pos := pos, after := after, guard := none } :: l) ⟨T, O⟩ Q :=
  WpL.pure rfl rfl hn (fun S ι F a w hr => by
    have hv := hr.eval x
    rw [show av (St.mk T O).T x = _ from hx] at hv
    obtain ⟨ad, c, hxe⟩ := (LRel.slice_len hv).1 _ _ _ _ ob rfl ho he
    refine ⟨.int .i64 len, ?_, .sc .nil⟩
    simp [execOp, resolve, invoke, builtin, hxe, run_len_slice P t e ht, Sem.run_bind]) h
theorem WpL.lenImm {t e : TypeId} {x : Operand} {s len : Nat} {cs : List AV} (ht : P.underlying t = some (.slice e)) (hx : av T x = .imm s len cs) (hn : d < n)
    (h : WpL P n m G md ops l ⟨(d, .sc (.int .i64 len)) :: T, O⟩ Q) :
    WpL P n m G md ops ({ dst := some d, op := .call { callee := .builtin .len, args := #[x], argTypes := #[t] }, type := tt, pos := pos, after := after, guard := none } :: l) ⟨T, O⟩ Q :=
  WpL.pure rfl rfl hn (fun S ι F a w hr => by
    have hv := hr.eval x
    rw [show av (St.mk T O).T x = _ from hx] at hv
    obtain ⟨ad, c, hxe⟩ := (LRel.slice_len hv).2.1 _ _ _ rfl
    refine ⟨.int .i64 len, ?_, .sc .nil⟩
    simp [execOp, resolve, invoke, builtin, hxe, run_len_slice P t e ht, Sem.run_bind]) h
theorem WpL.lenStr {t : TypeId} {x : Operand} {p : List UInt8} (ht : P.underlying t = some .string) (hx : av T x = .sc (.string ⟨p.toArray⟩)) (hn : d < n)
    (h : WpL P n m G md ops l ⟨(d, .sc (.int .i64 p.length)) :: T, O⟩ Q) :
    WpL P n m G md ops ({ dst := some d, op := .call { callee := .builtin .len, args := #[x], argTypes := #[t] }, type := tt, pos := pos, after := after, guard := none } :: l) ⟨T, O⟩ Q :=
  WpL.pure rfl rfl hn (fun S ι F a w hr => by
    refine ⟨.int .i64 p.length, ?_, .sc .nil⟩
    have hsz : (ByteArray.mk p.toArray).size = p.length := by simp [ByteArray.size]
    have hl : (Builtin.len_ #[t] tt #[.string ⟨p.toArray⟩]).run P w = .ok (.int .i64 p.length) w := by
      simp only [Builtin.len_, List.getElem?_toArray, List.getElem?_cons_zero, Sem.run_bind, run_underlying ht, Result.andThen_ok, goInt, hsz, Sem.run_pure]
    simp [execOp, resolve, invoke, builtin, hr.sc hx, hl, Sem.run_bind]) h
end
end Go.Abs


namespace Go.Abs
open Go
inductive Ty where
  | int (k : IntKind)
  | bool
  | string
  | slice (e k b : Nat) (zs : List AV)
  | struct (offs : List Nat) (k : Nat) (zs : List AV)
  | ptr
  | func
  | iface
  | other
def tlook : List (Nat × Ty) → Nat → Option Ty
  | [], _ => none
  | (k, V) :: r, t => match Nat.beq k t with | true => some V | false => tlook r t
def fieldB (P : Program) (fs : Array Field) (f : Nat) : Option Nat :=
  match fs[f]? with
  | some fl => match P.info? fl.type with
    | some i => if i.size = 0 then none else some fl.offset
    | none => none
  | none => none
def ScOk (P : Program) (t : TypeId) (v : Value) : Prop := (P.info? t).map (fun i => (i.zero, i.size)) = some (some v, 1)
def TyOk (P : Program) (t : TypeId) : Ty → Prop
  | .int k => P.underlying t = some (.int k) ∧ ScOk P t (.int k 0)
  | .bool => P.underlying t = some .bool ∧ ScOk P t (.bool false)
  | .string => P.underlying t = some .string ∧ ScOk P t (.string ⟨#[]⟩)
  | .slice e k b zs => P.underlying t = some (.slice e) ∧ ScOk P t (.slice none 0 0) ∧
      ∃ z, (P.info? e).map (fun i => (i.zero, i.size, i.bytes)) = some (some z, k, b) ∧ z.cells.size = k ∧ 0 < k ∧ zs = z.cells.toList.map zav
  | .struct offs k zs => ∃ fs, P.underlying t = some (.struct fs) ∧ (∃ z, (P.info? t).map (fun i => (i.zero, i.size)) = some (some z, k) ∧ z.cells.size = k ∧ zs = z.cells.toList.map zav) ∧
      ∀ f o, offs[f]? = some o → fieldB P fs f = some o
  | .ptr => (∃ e, P.underlying t = some (.pointer e)) ∧ ScOk P t (.pointer none)
  | .func => (∃ p r v, P.underlying t = some (.func p r v)) ∧ ScOk P t .nilFunc
  | .iface => (∃ ms, P.underlying t = some (.interface ms)) ∧ ScOk P t .nilIface
  | .other => True
def TabOk (P : Program) (tab : List (Nat × Ty)) : Prop := ∀ p, p ∈ tab → TyOk P p.1 p.2
theorem TabOk.ty {P tab} (h : TabOk P tab) {t : Nat} {ty : Ty} (ht : tlook tab t = some ty) : TyOk P t ty := by
  induction tab with
  | nil => simp [tlook] at ht
  | cons p r ih =>
    obtain ⟨k, V⟩ := p
    unfold tlook at ht
    cases hb : Nat.beq k t with
    | true =>
      rw [hb] at ht
      simp only [Option.some.injEq] at ht
      subst ht
      have := Nat.eq_of_beq_eq_true hb
      subst this
      exact h _ (List.mem_cons_self)
    | false =>
      rw [hb] at ht
      exact ih (fun p hp => h p (List.mem_cons_of_mem _ hp)) ht
theorem lrel_zav {S w ι O} (vs : List Value) : LRel S w ι O (vs.map zav) vs [] := by
  induction vs with
  | nil => exact .nil
  | cons v vs ih =>
    simp only [List.map_cons]
    unfold zav
    split
    · exact .nilS ih
    · exact .sc ih
def ints (xs : List Int) : List AV := xs.map fun n => .sc (.int .i64 n)
def u8s (xs : List Int) : List AV := xs.map fun n => .sc (.int .u8 n)
def bools (xs : List Bool) : List AV := xs.map fun b => .sc (.bool b)
def strs (xs : List (List UInt8)) : List AV := xs.map fun p => .sc (.string ⟨p.toArray⟩)
@[simp] theorem length_ints (xs : List Int) : (ints xs).length = xs.length := by simp [ints]
@[simp] theorem length_u8s (xs : List Int) : (u8s xs).length = xs.length := by simp [u8s]
@[simp] theorem length_bools (xs : List Bool) : (bools xs).length = xs.length := by simp [bools]
@[simp] theorem length_strs (xs : List (List UInt8)) : (strs xs).length = xs.length := by simp [strs]
theorem get_ints {xs : List Int} {i : Nat} (h : i < xs.length) : (ints xs)[i]? = some (.sc (.int .i64 (xs.getD i 0))) := by simp [ints, h]
theorem get_strs {xs : List (List UInt8)} {i : Nat} (h : i < xs.length) : (strs xs)[i]? = some (.sc (.string ⟨(xs.getD i []).toArray⟩)) := by simp [strs, h]
def reg (O : List AObj) : AV → Option (List AV × Nat)
  | .iptr cs off => some (cs, off)
  | .ptr id ep off => match O[id]? with
    | some ob => match Nat.beq ob.ep ep with
      | true => some (ob.cells, off)
      | false => none
    | none => none
  | _ => none
def AV.nofre : AV → Bool
  | .fre _ _ _ => false
  | .agg _ => false
  | .tup _ => false
  | _ => true
theorem nofre_nil {S w ι O V x f} (h : VRel S w ι O V x f) (hn : V.nofre = true) : f = [] := by
  cases h with
  | agg => simp [AV.nofre] at hn
  | tup => simp [AV.nofre] at hn
  | fre => simp [AV.nofre] at hn
  | _ => rename_i hh; cases hh; rfl
theorem reg_cells {S w ι O F V x cells off} (ho : ORel S w ι O F) (hv : VRel S w ι O V x []) (hr : reg O V = some (cells, off)) :
    ∃ b o us g, x = .pointer (some ⟨b, o + off, none⟩) ∧ (∀ i, i < us.length → w.cell? ⟨b, o + i, none⟩ = us[i]?) ∧ LRel S w ι O cells us g := by
  unfold reg at hr
  split at hr
  · simp only [Option.some.injEq, Prod.mk.injEq] at hr
    obtain ⟨rfl, rfl⟩ := hr
    cases hv with
    | iptr hS hc hl r => exact ⟨_, _, _, _, rfl, hc, hl.lift⟩
  · rename_i id ep off'
    split at hr
    · rename_i ob hob
      split at hr
      · rename_i hep
        simp only [Option.some.injEq, Prod.mk.injEq] at hr
        obtain ⟨rfl, rfl⟩ := hr
        have hep := Nat.eq_of_beq_eq_true hep
        cases hv with
        | ptr a b c r =>
          rw [hob] at a
          cases a
          have hc := c hep.symm
          have hob' := ho.obj _ _ hob
          cases hs : ι id with
          | none => rw [hs] at hc; exact hc.elim
          | some p =>
            obtain ⟨b', k⟩ := p
            rw [hs] at hc hob'
            obtain ⟨cur, t, fz, f', _, hh, hk, hle, _, _, hl⟩ := hob'
            refine ⟨b', 0, _, _, by rw [Nat.zero_add]; exact hc, fun i hi => ?_, hl⟩
            rw [Nat.zero_add, cell_of_row w b' i cur t fz hh, List.getElem?_take]
            have : i < ob.cells.length := by
              have := hl.len; omega
            rw [if_pos this]; simp
      · simp at hr
    · simp at hr
  · simp at hr
section
variable {P : Program} {n m : Nat} {G : Ctx} {md : Bool} {T : List (Nat × AV)} {O : List AObj} {Q : Exit → St → Prop} {ops : Array Oper} {l : List Oper} {d : Nat} {tt : TypeId} {pos : String} {after : Array Edge} {tab : List (Nat × Ty)}
theorem run_sizeOf {P : Program} {t k : Nat} {i : TypeInfo} (hi : P.info? t = some i) (hk : i.size = k) (w : World) : (sizeOf t).run P w = .ok k w := by
  simp [sizeOf, typeInfo, hi, hk]
def Ty.plain : Ty → Bool
  | .struct _ _ _ => false
  | .other => false
  | _ => true
theorem run_isAgg_plain {t : Nat} {ty : Ty} (h : TyOk P t ty) (hp : ty.plain = true) (w : World) : (isAgg t).run P w = .ok false w := by
  cases ty <;> simp [Ty.plain] at hp
  case int k => simp [isAgg, run_underlying h.1]
  case bool => simp [isAgg, run_underlying h.1]
  case string => simp [isAgg, run_underlying h.1]
  case slice => simp [isAgg, run_underlying h.1]
  case ptr => obtain ⟨e, he⟩ := h.1; simp [isAgg, run_underlying he]
  case func => obtain ⟨p, r, v, he⟩ := h.1; simp [isAgg, run_underlying he]
  case iface => obtain ⟨ms, he⟩ := h.1; simp [isAgg, run_underlying he]
theorem RelAt.reg {S ι F a w} (hr : RelAt n m G S ι F ⟨T, O⟩ a w) {x : Operand} {cells : List AV} {off : Nat} (hm : reg O (av T x) = some (cells, off)) :
    ∃ b o us g, a.eval x = .pointer (some ⟨b, o + off, none⟩) ∧ (∀ i, i < us.length → w.cell? ⟨b, o + i, none⟩ = us[i]?) ∧ LRel S w ι O cells us g :=
  reg_cells hr.objs (hr.eval x) hm
theorem WpL.load1 (hP : TabOk P tab) {t : TypeId} {x : Operand} {ty : Ty} {cells : List AV} {off : Nat} {V : AV} (ht : tlook tab t = some ty) (hp : ty.plain = true) (hm : Abs.reg O (av T x) = some (cells, off))
    (hv : cells[off]? = some V) (hf : V.nofre = true) (hn : d < n) (h : WpL P n m G md ops l ⟨(d, V) :: T, O⟩ Q) :
    WpL P n m G md ops ({ dst := some d, op := .load t x, type := tt, pos := pos, after := after, guard := none } :: l) ⟨T, O⟩ Q :=
  WpL.pure rfl rfl hn (fun S ι F a w hr => by
    obtain ⟨b, o, us, g, hx, hc, hl⟩ := hr.reg hm
    obtain ⟨v, g', hv', hV, _⟩ := hl.get hv
    have := nofre_nil hV hf
    subst this
    refine ⟨v, ?_, hV⟩
    have hlt : off < us.length := (List.getElem?_eq_some_iff.1 hv').1
    have hcell : w.cell? ⟨b, o + off, none⟩ = some v := by rw [hc off hlt, hv']
    simp [execOp, Instr.loadAt, Instr.sureAddr, hx, loadVar, run_isAgg_plain (hP.ty ht) hp, load, hcell, Sem.run_bind, Sem.run]) h
theorem WpL.loadInts (hP : TabOk P tab) {t : TypeId} {x : Operand} {ty : Ty} {xs : List Int} {off : Nat} (ht : tlook tab t = some ty) (hp : ty.plain = true) (hm : Abs.reg O (av T x) = some (ints xs, off))
    (hb : off < xs.length) (hn : d < n) (h : WpL P n m G md ops l ⟨(d, .sc (.int .i64 (xs.getD off 0))) :: T, O⟩ Q) :
    WpL P n m G md ops ({ dst := some d, op := .load t x, type := tt, pos := pos, after := after, guard := none } :: l) ⟨T, O⟩ Q :=
  WpL.load1 hP ht hp hm (get_ints hb) rfl hn h
theorem WpL.loadStrs (hP : TabOk P tab) {t : TypeId} {x : Operand} {ty : Ty} {xs : List (List UInt8)} {off : Nat} (ht : tlook tab t = some ty) (hp : ty.plain = true) (hm : Abs.reg O (av T x) = some (strs xs, off))
    (hb : off < xs.length) (hn : d < n) (h : WpL P n m G md ops l ⟨(d, .sc (.string ⟨(xs.getD off []).toArray⟩)) :: T, O⟩ Q) :
    WpL P n m G md ops ({ dst := some d, op := .load t x, type := tt, pos := pos, after := after, guard := none } :: l) ⟨T, O⟩ Q :=
  WpL.load1 hP ht hp hm (get_strs hb) rfl hn h
theorem lrel_nofre_nil {S w ι O cs vs f} (h : LRel S w ι O cs vs f) (hn : cs.all AV.nofre = true) : f = [] := by
  induction cs generalizing vs f with
  | nil => cases h; rfl
  | cons c cs ih =>
    obtain ⟨v, vs', f1, f2, rfl, hv, hr, rfl⟩ := h.uncons
    simp only [List.all_cons, Bool.and_eq_true] at hn
    rw [nofre_nil hv hn.1, ih hr hn.2]; rfl
theorem WpL.loadAgg (hP : TabOk P tab) {t : TypeId} {x : Operand} {offs : List Nat} {k : Nat} {zs cells ds : List AV} {off : Nat} (ht : tlook tab t = some (.struct offs k zs)) (hm : Abs.reg O (av T x) = some (cells, off))
    (hv : (cells.drop off).take k = ds) (hk : ds.length = k) (hf : ds.all AV.nofre = true) (hn : d < n) (h : WpL P n m G md ops l ⟨(d, .agg ds) :: T, O⟩ Q) :
    WpL P n m G md ops ({ dst := some d, op := .load t x, type := tt, pos := pos, after := after, guard := none } :: l) ⟨T, O⟩ Q :=
  WpL.pure rfl rfl hn (fun S ι F a w hr => by
    obtain ⟨b, o, us, g, hx, hc, hl⟩ := hr.reg hm
    obtain ⟨g1, h1, _, _⟩ := hl.drop off
    obtain ⟨g2, h2, _, _⟩ := h1.take k
    rw [hv] at h2
    have := lrel_nofre_nil h2 hf
    subst this
    refine ⟨.agg ((us.drop off).take k).toArray, ?_, by simpa using LRel.agg h2 .nil⟩
    obtain ⟨fs, hu, ⟨z, hz, _⟩, _⟩ := hP.ty ht
    have hagg : (isAgg t).run P w = .ok true w := by simp [isAgg, run_underlying hu]
    obtain ⟨i, hi, hi2⟩ : ∃ i, P.info? t = some i ∧ i.size = k := by
      cases hh : P.info? t with
      | none => simp [hh] at hz
      | some i => rw [hh] at hz; simp at hz; exact ⟨i, rfl, hz.2⟩
    have hlen : ((us.drop off).take k).length = k := by rw [← h2.len, hk]
    have hcs : ∀ j v, ((us.drop off).take k)[j]? = some v → w.cell? ((⟨b, o + off, none⟩ : Addr).add j) = some v := by
      intro j v hj
      have hjk : j < ((us.drop off).take k).length := (List.getElem?_eq_some_iff.1 hj).1
      rw [hlen] at hjk
      rw [List.getElem?_take, if_pos hjk, List.getElem?_drop] at hj
      have hlt : off + j < us.length := (List.getElem?_eq_some_iff.1 hj).1
      have := hc (off + j) hlt
      rw [hj] at this
      unfold Addr.add
      split
      · rename_i h0; subst h0; simpa using this
      · simpa [Nat.add_assoc] using this
    have hld : (loadCells ⟨b, o + off, none⟩ k).run P w = .ok ((us.drop off).take k).toArray w := by
      have := run_loadCells_list (P := P) w ⟨b, o + off, none⟩ _ hcs
      rwa [hlen] at this
    simp [execOp, Instr.loadAt, Instr.sureAddr, hx, loadVar, hagg, run_sizeOf hi hi2, hld, Sem.run_bind]) h
end
end Go.Abs


namespace Go.Abs
open Go
theorem imm_inv {S w ι O k len cs x f} (h : VRel S w ι O (.imm k len cs) x f) : f = [] ∧ ((∃ a cap, x = .slice a 0 cap ∧ ((a = none → cap = 0) ∧ cap ≤ maxLen) ∧ len = 0 ∧ cs = []) ∨
    ∃ b o cap us, x = .slice (some ⟨b, o, none⟩) len cap ∧ S b ∧ (∀ i, i < us.length → w.cell? ⟨b, o + i, none⟩ = us[i]?) ∧ LRel S w ι [] cs us [] ∧ len * k = cs.length ∧ len ≤ cap ∧ cap ≤ maxLen) := by
  cases h with
  | imm0 h0 r => cases r; exact ⟨rfl, .inl ⟨_, _, rfl, h0, rfl, rfl⟩⟩
  | imm hS hc hl h1 h2 h3 r => cases r; exact ⟨rfl, .inr ⟨_, _, _, _, rfl, hS, hc, hl, h1, h2, h3⟩⟩
section
variable {P : Program} {n m : Nat} {G : Ctx} {md : Bool} {T : List (Nat × AV)} {O : List AObj} {Q : Exit → St → Prop} {ops : Array Oper} {l : List Oper} {d : Nat} {tt : TypeId} {pos : String} {after : Array Edge} {tab : List (Nat × Ty)}
theorem addr_add (b o k : Nat) : ((⟨b, o, none⟩ : Addr).add k) = ⟨b, o + k, none⟩ := by
  unfold Addr.add
  split
  · rename_i h; subst h; rfl
  · rfl
theorem run_fieldPlace {P : Program} {fs : Array Field} {f o : Nat} (h : fieldB P fs f = some o) (b c : Nat) (w : World) :
    ∃ fl, fs[f]? = some fl ∧ (fieldPlace ⟨b, c, none⟩ fl).run P w = .ok ⟨b, c + o, none⟩ w := by
  unfold fieldB at h
  split at h
  · rename_i fl hfl
    split at h
    · rename_i i hi
      split at h
      · simp at h
      · rename_i h0
        simp only [Option.some.injEq] at h
        subst h
        exact ⟨fl, hfl, by simp [fieldPlace, run_sizeOf hi rfl, h0, addr_add, Sem.run_bind]⟩
    · simp at h
  · simp at h
theorem run_fieldAt (hP : TabOk P tab) {t f o k : Nat} {offs : List Nat} {zs : List AV} (ht : tlook tab t = some (.struct offs k zs)) (hf : offs[f]? = some o) (b c : Nat) (w : World) :
    (Instr.fieldAt t (.pointer (some ⟨b, c, none⟩)) f).run P w = .ok (.pointer (some ⟨b, c + o, none⟩)) w := by
  obtain ⟨fs, hu, _, hfs⟩ := hP.ty ht
  obtain ⟨fl, h1, h2⟩ := run_fieldPlace (hfs f o hf) b c w
  simp [Instr.fieldAt, run_underlying hu, h1, Instr.sureAddr, h2, Sem.run_bind]
theorem WpL.fieldP (hP : TabOk P tab) {t f o k : Nat} {offs : List Nat} {zs : List AV} {x : Operand} {id ep off : Nat} {ob : AObj} (ht : tlook tab t = some (.struct offs k zs)) (hf : offs[f]? = some o) (hx : av T x = .ptr id ep off)
    (ho : O[id]? = some ob) (he : ob.ep = ep) (hn : d < n) (h : WpL P n m G md ops l ⟨(d, .ptr id ep (off + o)) :: T, O⟩ Q) :
    WpL P n m G md ops ({ dst := some d, op := .fieldAddr t x f, type := tt, pos := pos, after := after, guard := none } :: l) ⟨T, O⟩ Q :=
  WpL.pure rfl rfl hn (fun S ι F a w hr => by
    have hv := hr.eval x
    rw [show av (St.mk T O).T x = _ from hx] at hv
    cases hv with
    | ptr q1 q2 q3 r =>
      rw [show (St.mk T O).O[id]? = some ob from ho] at q1
      cases q1
      have hc := q3 he.symm
      cases hs : ι id with
      | none => rw [hs] at hc; exact hc.elim
      | some p =>
        obtain ⟨b, kk⟩ := p
        rw [hs] at hc
        have hc : a.eval x = .pointer (some ⟨b, off, none⟩) := hc
        refine ⟨.pointer (some ⟨b, off + o, none⟩), by simp [execOp, hc, run_fieldAt hP ht hf, Sem.run_bind], .ptr ho q2 (fun _ => ?_) .nil⟩
        rw [hs]; rfl) h
theorem run_indexAt {P : Program} {t e k : Nat} {i : TypeInfo} (ht : P.underlying t = some (.slice e)) (hi : P.info? e = some i) (hk : i.size = k) (b o len cap : Nat) (kk : IntKind) (j : Int) (hj : 0 ≤ j ∧ j < len) (w : World) :
    (Instr.indexAt t (.slice (some ⟨b, o, none⟩) len cap) (.int kk j)).run P w = .ok (.pointer (some ⟨b, o + j.toNat * k, none⟩)) w := by
  simp [Instr.indexAt, asIntOf, run_underlying ht, run_sizeOf hi hk, hj, addr_add, Sem.run_bind]
theorem TabOk.slice (hP : TabOk P tab) {t e k b : Nat} {zs : List AV} (ht : tlook tab t = some (.slice e k b zs)) :
    P.underlying t = some (.slice e) ∧ ∃ i z, P.info? e = some i ∧ i.zero = some z ∧ i.size = k ∧ i.bytes = b ∧ z.cells.size = k ∧ 0 < k ∧ zs = z.cells.toList.map zav := by
  obtain ⟨h1, _, z, h2, h3, h4, h5⟩ := hP.ty ht
  refine ⟨h1, ?_⟩
  cases hh : P.info? e with
  | none => simp [hh] at h2
  | some i =>
    rw [hh] at h2
    simp at h2
    exact ⟨i, z, rfl, h2.1, h2.2.1, h2.2.2, h3, h4, h5⟩
theorem WpL.idxI (hP : TabOk P tab) {t e k b : Nat} {zs cs : List AV} {x y : Operand} {len : Nat} {kk : IntKind} {j : Int} (ht : tlook tab t = some (.slice e k b zs)) (hx : av T x = .imm k len cs) (hy : av T y = .sc (.int kk j))
    (hj : 0 ≤ j ∧ j < len) (hn : d < n) (h : WpL P n m G md ops l ⟨(d, .iptr cs (j.toNat * k)) :: T, O⟩ Q) :
    WpL P n m G md ops ({ dst := some d, op := .indexAddr t x y, type := tt, pos := pos, after := after, guard := none } :: l) ⟨T, O⟩ Q :=
  WpL.pure rfl rfl hn (fun S ι F a w hr => by
    obtain ⟨hu, i, z, hi, _, hk, _⟩ := hP.slice ht
    have hv := hr.eval x
    rw [show av (St.mk T O).T x = _ from hx] at hv
    rcases (imm_inv hv).2 with ⟨_, _, _, _, h0, _⟩ | ⟨b', o, cap, us, hpt, hS, hc, hl, _⟩
    · omega
    · exact ⟨.pointer (some ⟨b', o + j.toNat * k, none⟩), by simp [execOp, hpt, hr.sc hy, run_indexAt hu hi hk _ _ _ _ _ _ hj, Sem.run_bind], .iptr hS hc hl .nil⟩) h
theorem WpL.idxO (hP : TabOk P tab) {t e k b : Nat} {zs : List AV} {x y : Operand} {id ep off len : Nat} {ob : AObj} {kk : IntKind} {j : Int} (ht : tlook tab t = some (.slice e k b zs)) (hx : av T x = .own id ep off len)
    (ho : O[id]? = some ob) (he : ob.ep = ep) (hy : av T y = .sc (.int kk j))
    (hj : 0 ≤ j ∧ j < len) (hn : d < n) (h : WpL P n m G md ops l ⟨(d, .ptr id ep (off + j.toNat * k)) :: T, O⟩ Q) :
    WpL P n m G md ops ({ dst := some d, op := .indexAddr t x y, type := tt, pos := pos, after := after, guard := none } :: l) ⟨T, O⟩ Q :=
  WpL.pure rfl rfl hn (fun S ι F a w hr => by
    obtain ⟨hu, i, z, hi, _, hk, _⟩ := hP.slice ht
    have hv := hr.eval x
    rw [show av (St.mk T O).T x = _ from hx] at hv
    cases hv with
    | own q1 q2 q3 r =>
      rw [show (St.mk T O).O[id]? = some ob from ho] at q1
      cases q1
      have hc := q3 he.symm
      cases hs : ι id with
      | none => rw [hs] at hc; obtain ⟨_, _, h0⟩ := hc; omega
      | some p =>
        obtain ⟨b', kk'⟩ := p
        rw [hs] at hc
        obtain ⟨cap, hpt, _⟩ := hc
        refine ⟨.pointer (some ⟨b', off + j.toNat * k, none⟩), by simp [execOp, hpt, hr.sc hy, run_indexAt hu hi hk _ _ _ _ _ _ hj, Sem.run_bind], .ptr ho q2 (fun _ => ?_) .nil⟩
        rw [hs]; rfl) h
theorem WpL.idxStr (hP : TabOk P tab) {t : Nat} {x y : Operand} {p : List UInt8} {kk : IntKind} {j : Int} (ht : tlook tab t = some .string) (hx : av T x = .sc (.string ⟨p.toArray⟩)) (hy : av T y = .sc (.int kk j))
    (hj : 0 ≤ j ∧ j < p.length) (hn : d < n) (h : WpL P n m G md ops l ⟨(d, .sc (.int .u8 ((p.getD j.toNat 0).toNat))) :: T, O⟩ Q) :
    WpL P n m G md ops ({ dst := some d, op := .index t x y, type := tt, pos := pos, after := after, guard := none } :: l) ⟨T, O⟩ Q :=
  WpL.pure rfl rfl hn (fun S ι F a w hr => by
    have hu := (hP.ty ht).1
    have hlt : j.toNat < p.length := by omega
    have hg : (ByteArray.mk p.toArray)[(j.toNat : Nat)]? = some (p.getD j.toNat 0) := by
      have h1 : j.toNat < (ByteArray.mk p.toArray).size := by simp [ByteArray.size]; exact hlt
      rw [getElem?_pos (ByteArray.mk p.toArray) j.toNat h1]
      congr 1
      rw [ByteArray.getElem_eq_getElem_data]
      simp [hlt]
    refine ⟨_, ?_, .sc .nil⟩
    simp only [execOp, Instr.index, hr.sc hx, hr.sc hy, asIntOf, Sem.run_bind, Sem.run_pure, Result.andThen_ok, run_underlying hu, if_pos hj.1, hg]) h
theorem run_sliceStr {P : Program} {t : Nat} (hu : P.underlying t = some .string) (p : List UInt8) (lo hi : Option Value) (a b : Nat) (hlo : (lo = none ∧ a = 0) ∨ ∃ k, lo = some (.int k a)) (hhi : (hi = none ∧ b = p.length) ∨ ∃ k, hi = some (.int k b))
    (hab : a ≤ b ∧ b ≤ p.length) (w : World) : (Instr.sliceAt t (.string ⟨p.toArray⟩) lo hi none).run P w = .ok (.string ⟨((p.drop a).take (b - a)).toArray⟩) w := by
  have hsz : (ByteArray.mk p.toArray).size = p.length := by simp [ByteArray.size]
  have h1 : b ≤ p.length := hab.2
  have h2 : a ≤ b := hab.1
  rcases hlo with ⟨rfl, rfl⟩ | ⟨k1, rfl⟩ <;> rcases hhi with ⟨rfl, rfl⟩ | ⟨k2, rfl⟩ <;>
    simp [Instr.sliceAt, Instr.slice, run_underlying hu, Instr.sliceBounds, Instr.sliceBound, asIntOf, hsz, h1, h2, ByteArray.extract_mk, Sem.run_bind]
theorem WpL.subStr (hP : TabOk P tab) {t : Nat} {x : Operand} {lo hi : Option Operand} {p : List UInt8} {i j : Int} (ht : tlook tab t = some .string) (hx : av T x = .sc (.string ⟨p.toArray⟩))
    (hlo : (lo = none ∧ i = 0) ∨ ∃ y k, lo = some y ∧ av T y = .sc (.int k i)) (hhi : (hi = none ∧ j = p.length) ∨ ∃ y k, hi = some y ∧ av T y = .sc (.int k j))
    (hb : 0 ≤ i ∧ i ≤ j ∧ j ≤ p.length) (hn : d < n) (h : WpL P n m G md ops l ⟨(d, .sc (.string ⟨((p.drop i.toNat).take (j.toNat - i.toNat)).toArray⟩)) :: T, O⟩ Q) :
    WpL P n m G md ops ({ dst := some d, op := .slice t x lo hi none, type := tt, pos := pos, after := after, guard := none } :: l) ⟨T, O⟩ Q :=
  WpL.pure rfl rfl hn (fun S ι F a w hr => by
    have hu := (hP.ty ht).1
    refine ⟨_, ?_, .sc .nil⟩
    have hi' : (i.toNat : Int) = i := by omega
    have hj' : (j.toNat : Int) = j := by omega
    have := run_sliceStr hu p (lo.map a.eval) (hi.map a.eval) i.toNat j.toNat ?_ ?_ (by omega) w
    · simp [execOp, hr.sc hx, this, Sem.run_bind]
    · rcases hlo with ⟨rfl, rfl⟩ | ⟨y, k, rfl, hy⟩
      · exact .inl ⟨rfl, rfl⟩
      · exact .inr ⟨k, by simp [hr.sc hy, hi']⟩
    · rcases hhi with ⟨rfl, rfl⟩ | ⟨y, k, rfl, hy⟩
      · exact .inl ⟨rfl, by simp⟩
      · exact .inr ⟨k, by simp [hr.sc hy, hj']⟩) h
theorem run_sliceSl {P : Program} {t e k : Nat} {i : TypeInfo} (hu : P.underlying t = some (.slice e)) (hi : P.info? e = some i) (hk : i.size = k) (ad : Addr) (len cap : Nat) (lo hi' : Option Value) (a b : Nat)
    (hlo : (lo = none ∧ a = 0) ∨ ∃ k, lo = some (.int k a)) (hhi : (hi' = none ∧ b = len) ∨ ∃ k, hi' = some (.int k b)) (hab : a ≤ b ∧ b ≤ cap) (w : World) :
    (Instr.sliceAt t (.slice (some ad) len cap) lo hi' none).run P w = .ok (.slice (some (if cap = a then ad else ad.add (a * k))) (b - a) (cap - a)) w := by
  have h1 : b ≤ cap := hab.2
  have h2 : a ≤ b := hab.1
  rcases hlo with ⟨rfl, rfl⟩ | ⟨k1, rfl⟩ <;> rcases hhi with ⟨rfl, rfl⟩ | ⟨k2, rfl⟩ <;>
    simp [Instr.sliceAt, Instr.slice, run_underlying hu, Instr.sliceBounds, Instr.sliceBound, asIntOf, h1, h2, run_sizeOf hi hk, Sem.run_bind] <;> split <;> rfl
theorem WpL.subImm (hP : TabOk P tab) {t e k b : Nat} {zs cs : List AV} {x : Operand} {lo hi : Option Operand} {len : Nat} {i j : Int} (ht : tlook tab t = some (.slice e k b zs)) (hx : av T x = .imm k len cs)
    (hlo : (lo = none ∧ i = 0) ∨ ∃ y k, lo = some y ∧ av T y = .sc (.int k i)) (hhi : (hi = none ∧ j = len) ∨ ∃ y k, hi = some y ∧ av T y = .sc (.int k j))
    (hb : 0 ≤ i ∧ i ≤ j ∧ j ≤ len) (hn : d < n) (h : WpL P n m G md ops l ⟨(d, .imm k (j.toNat - i.toNat) ((cs.drop (i.toNat * k)).take ((j.toNat - i.toNat) * k))) :: T, O⟩ Q) :
    WpL P n m G md ops ({ dst := some d, op := .slice t x lo hi none, type := tt, pos := pos, after := after, guard := none } :: l) ⟨T, O⟩ Q :=
  WpL.pure rfl rfl hn (fun S ι F a w hr => by
    obtain ⟨hu, inf, z, hinf, _, hk, _, _, hk0, _⟩ := hP.slice ht
    have hi' : (i.toNat : Int) = i := by omega
    have hj' : (j.toNat : Int) = j := by omega
    have e1 : (lo.map a.eval = none ∧ i.toNat = 0) ∨ ∃ k, lo.map a.eval = some (.int k i.toNat) := by
      rcases hlo with ⟨rfl, rfl⟩ | ⟨y, k, rfl, hy⟩
      · exact .inl ⟨rfl, rfl⟩
      · exact .inr ⟨k, by simp [hr.sc hy, hi']⟩
    have e2 : (hi.map a.eval = none ∧ j.toNat = len) ∨ ∃ k, hi.map a.eval = some (.int k j.toNat) := by
      rcases hhi with ⟨rfl, rfl⟩ | ⟨y, k, rfl, hy⟩
      · exact .inl ⟨rfl, by simp⟩
      · exact .inr ⟨k, by simp [hr.sc hy, hj']⟩
    have hv := hr.eval x
    rw [show av (St.mk T O).T x = _ from hx] at hv
    rcases (imm_inv hv).2 with ⟨ad, cap, hpt, hca, h0, hcs0⟩ | ⟨b', o, cap, us, hpt, hS, hc, hl, h1, h2, h3⟩
    · subst hcs0
      have hi0 : i.toNat = 0 := by omega
      have hj0 : j.toNat = 0 := by omega
      cases ad with
      | some ad =>
        subst h0
        have hrun := run_sliceSl hu hinf hk ad 0 cap _ _ i.toNat j.toNat e1 e2 (by omega) w
        refine ⟨_, by simp [execOp, hpt, hrun, Sem.run_bind]; rfl, ?_⟩
        simp only [hi0, hj0, Nat.sub_zero, Nat.zero_mul, List.drop_zero, List.take_zero]
        exact .imm0 ⟨by simp, hca.2⟩ .nil
      | none =>
      obtain rfl := hca.1 rfl
      refine ⟨.slice none 0 0, ?_, ?_⟩
      · have hrun : (Instr.sliceAt t (.slice none 0 0) (lo.map a.eval) (hi.map a.eval) none).run P w = .ok (.slice none 0 0) w := by
          rcases e1 with ⟨h1, _⟩ | ⟨k1, h1⟩ <;> rcases e2 with ⟨h2, _⟩ | ⟨k2, h2⟩ <;>
            simp [h1, h2, hi0, hj0, Instr.sliceAt, Instr.slice, run_underlying hu, Instr.sliceBounds, Instr.sliceBound, asIntOf, run_sizeOf hinf hk, Sem.run_bind]
        simp [execOp, hpt, hrun, Sem.run_bind]
      · simp [hi0, hj0]; exact .imm0 (by simp) .nil
    · have hrun := run_sliceSl hu hinf hk ⟨b', o, none⟩ len cap _ _ i.toNat j.toNat e1 e2 (by omega) w
      refine ⟨_, by simp [execOp, hpt, hrun, Sem.run_bind]; rfl, ?_⟩
      have hsl : LRel S w ι [] ((cs.drop (i.toNat * k)).take ((j.toNat - i.toNat) * k)) ((us.drop (i.toNat * k)).take ((j.toNat - i.toNat) * k)) [] := by
        obtain ⟨g1, hd, hg1, _⟩ := hl.drop (i.toNat * k)
        obtain ⟨g2, ht', hg2, _⟩ := hd.take ((j.toNat - i.toNat) * k)
        have : g2 = [] := List.eq_nil_iff_forall_not_mem.2 fun x hx => by simpa using hg1 x (hg2 x hx)
        rw [this] at ht'; exact ht'
      have hlen : (j.toNat - i.toNat) * k = ((cs.drop (i.toNat * k)).take ((j.toNat - i.toNat) * k)).length := by
        rw [List.length_take, List.length_drop, ← h1, ← Nat.sub_mul]
        have : (j.toNat - i.toNat) * k ≤ (len - i.toNat) * k := Nat.mul_le_mul_right _ (by omega)
        omega
      by_cases hcap : cap = i.toNat
      · have hz : (j.toNat - i.toNat) = 0 := by omega
        have hcs : ((cs.drop (i.toNat * k)).take ((j.toNat - i.toNat) * k)) = [] := by rw [hz]; simp
        rw [if_pos hcap, hcs, hz]
        exact .imm (us := []) hS (by simp) .nil (by simp) (by omega) (by omega) .nil
      · rw [if_neg hcap, addr_add]
        refine .imm hS (fun q hq => ?_) hsl hlen (by omega) (by omega) .nil
        rw [List.length_take, List.length_drop] at hq
        have h4 := hc (i.toNat * k + q) (by omega)
        rw [← Nat.add_assoc] at h4
        rw [h4, List.getElem?_take, if_pos (by omega), List.getElem?_drop]) h
end
end Go.Abs
