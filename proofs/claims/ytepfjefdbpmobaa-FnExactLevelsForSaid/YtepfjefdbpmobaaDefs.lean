/- Names of abstract values and plain laws of lists. No condition. -/
import Derived.Test.YtepfjefdbpmobaaTab
namespace Go.Proofs.Ytepfjefdbpmobaa
open Go Go.Abs
set_option linter.unusedVariables false
set_option linter.unusedSimpArgs false

/-! Lists, place by place. -/
theorem mark_step {α : Type} (f : Nat → α) (l : List α) (i : Nat) (h : i < l.length) : ((List.range i).map f ++ l.drop i).set i (f i) = (List.range (i + 1)).map f ++ l.drop (i + 1) := by
  rw [List.set_append_right _ _ (by simp), List.range_succ, List.drop_eq_getElem_cons h]; simp; rw [List.drop_eq_getElem_cons h]; rfl
theorem held_step {α : Type} (f : Nat → α) (z : α) (l : List α) (i : Nat) (h : i < l.length) (h1 : l.take i = (List.range i).map f) (h2 : l.getD i z = f i) : l.take (i + 1) = (List.range (i + 1)).map f := by
  rw [List.take_succ_eq_append_getElem h, h1, List.range_succ]; simp [h] at h2 ⊢; exact h2
theorem held_not {α : Type} (f : Nat → α) (z : α) (l : List α) (i : Nat) (h : i < l.length) (h2 : ¬ l.getD i z = f i) : ¬ l = (List.range l.length).map f := by
  intro e; apply h2; rw [e]; simp [h]
theorem eq_all {α : Type} (z : α) {xs ys : List α} (hl : xs.length = ys.length) (h : ∀ j < xs.length, xs.getD j z = ys.getD j z) : xs = ys := by
  apply List.ext_getElem hl
  intro i h1 h2
  have := h i h1
  simpa [h1, h2] using this
def tk {α : Type} (f : α → Nat) (l : List α) (i : Nat) : Nat := ((l.take i).map f).sum
theorem tk_zero {α : Type} (f : α → Nat) (l : List α) : tk f l 0 = 0 := by simp [tk]
theorem tk_succ {α : Type} [Inhabited α] (f : α → Nat) (l : List α) (i : Nat) (h : i < l.length) : tk f l (i + 1) = tk f l i + f (l.getD i default) := by
  unfold tk; rw [List.take_succ_eq_append_getElem h, List.map_append, List.sum_append]; simp [h]
theorem tk_all {α : Type} (f : α → Nat) (l : List α) : tk f l l.length = (l.map f).sum := by simp [tk]
theorem tk_le {α : Type} (f : α → Nat) (l : List α) (i : Nat) : tk f l i ≤ (l.map f).sum := by
  unfold tk
  conv => rhs; rw [← List.take_append_drop i l, List.map_append, List.sum_append]
  exact Nat.le_add_right _ _

/-! Numbers and truth values. -/
abbrev IN (l : List Int) : AObj := ⟨ints l, 0, 1, none⟩
abbrev BN (l : List Bool) : AObj := ⟨bools l, 0, 1, none⟩
abbrev BO (l : List Bool) : AObj := ⟨bools l, 0, 1, some 4⟩
abbrev BL (xs : List Bool) : AV := .imm 1 xs.length (bools xs)
abbrev OpA (q : Int) (b d : Bool) (l m : List Int) (e : List Bool) : AV := .agg [I q, B b, B d, IL l, IL m, BL e]
abbrev HdA (w h q : Int) (b d : Bool) (l : List Int) : AV := .agg [I w, I h, I q, B b, B d, IL l]
abbrev StA (w h q : Int) (b d : Bool) (l : List Int) (M : List Mbk) : AV := .agg [I w, I h, I q, B b, B d, IL l, .imm 2 M.length (rows mbI M)]
abbrev BkL (l : List Blok) : AV := .imm 2 l.length (rows blkI l)
abbrev MbL (l : List Mbk) : AV := .imm 2 l.length (rows mbI l)
abbrev BkO (l : List Blok) : AObj := ⟨rows blkF l, 0, 2, some 95⟩
abbrev MbO (l : List Mbk) : AObj := ⟨rows mbF l, 0, 2, some 93⟩
abbrev BkN (l : List Blok) : AObj := ⟨rows blkF l, 0, 2, none⟩
abbrev MbN (l : List Mbk) : AObj := ⟨rows mbF l, 0, 2, none⟩

/-! How much they hold. -/
def bn (b : Blok) : Nat := b.2.length
def bw (l : List Blok) : Nat := l.length + (l.map bn).sum
def mn (m : Mbk) : Nat := bw m.2
def mw (l : List Mbk) : Nat := l.length + (l.map mn).sum
@[irreducible] def SmB (c : Nat) (l : List Blok) : Prop := ∀ b ∈ l, b.2.length ≤ c
@[irreducible] def SmM (c : Nat) (l : List Mbk) : Prop := ∀ m ∈ l, m.2.length ≤ c ∧ SmB c m.2
theorem smB_get {c : Nat} {l : List Blok} (h : SmB c l) {k : Nat} (hk : k < l.length) : (l.getD k default).2.length ≤ c := by
  unfold SmB at h; exact h _ (by simp [hk])
theorem smM_get {c : Nat} {l : List Mbk} (h : SmM c l) {k : Nat} (hk : k < l.length) : (l.getD k default).2.length ≤ c ∧ SmB c (l.getD k default).2 := by
  unfold SmM at h; exact h _ (by simp [hk])
theorem sum_mem {α : Type} (f : α → Nat) {l : List α} {a : α} (h : a ∈ l) : f a ≤ (l.map f).sum := by
  induction l with
  | nil => cases h
  | cons b l ih =>
    rw [List.map_cons, List.sum_cons]
    rcases List.mem_cons.1 h with rfl | h
    · omega
    · have := ih h; omega
theorem smB_of {c : Nat} {l : List Blok} (h : bw l ≤ c) : SmB c l := by
  unfold SmB bw at *
  intro b hb
  have : bn b ≤ _ := sum_mem bn hb
  unfold bn at this; unfold bn at h; omega
theorem smM_of {c : Nat} {l : List Mbk} (h : mw l ≤ c) : SmM c l := by
  unfold SmM mw at *
  intro m hm
  have h1 : mn m ≤ _ := sum_mem mn hm
  have h2 : bw m.2 ≤ c := by unfold mn at *; omega
  exact ⟨by unfold bw at h2; omega, smB_of h2⟩

theorem take_snoc {α : Type} [Inhabited α] (l : List α) (i : Nat) (h : i < l.length) : l.take (i + 1) = l.take i ++ [l.getD i default] := by
  rw [List.take_succ_eq_append_getElem h]; simp [h]
abbrev XI (l : List Int) : AObj := ⟨ints l, 0, 1, some 3⟩
end Go.Proofs.Ytepfjefdbpmobaa
