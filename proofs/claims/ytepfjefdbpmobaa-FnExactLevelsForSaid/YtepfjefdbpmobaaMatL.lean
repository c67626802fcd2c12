/- Plain laws: squares of numbers filled place by place, sums of products. No condition. -/
import Derived.Test.YtepfjefdbpmobaaCode
namespace Go.Proofs.Ytepfjefdbpmobaa
open Go Go.Abs
set_option linter.unusedVariables false
set_option linter.unusedSimpArgs false

/-- The places before j have their number, place j has v, all behind are 0. -/
def part (f : Nat → Int) (N j : Nat) (v : Int) : List Int := (List.range N).map fun q => if q < j then f q else if q = j then v else 0
def tabL (f : Nat → Int) (N : Nat) : List Int := (List.range N).map f
theorem part_len (f : Nat → Int) (N j : Nat) (v : Int) : (part f N j v).length = N := by simp [part]
theorem tabL_len (f : Nat → Int) (N : Nat) : (tabL f N).length = N := by simp [tabL]
theorem map_getD {f : Nat → Int} {N j : Nat} (h : j < N) : ((List.range N).map f).getD j 0 = f j := by
  simp only [List.getD_eq_getElem?_getD, List.getElem?_map, List.getElem?_range h, Option.map_some, Option.getD_some]
theorem part_get {f : Nat → Int} {N j : Nat} {v : Int} (h : j < N) : (part f N j v).getD j 0 = v := by
  unfold part; rw [map_getD h, if_neg (by omega), if_pos rfl]
theorem tabL_get {f : Nat → Int} {N j : Nat} (h : j < N) : (tabL f N).getD j 0 = f j := map_getD h
theorem list_ext {xs ys : List Int} {N : Nat} (h1 : xs.length = N) (h2 : ys.length = N) (h : ∀ j, j < N → xs.getD j 0 = ys.getD j 0) : xs = ys :=
  eq_all 0 (by omega) (fun j hj => h j (by omega))
theorem getD_set2 {c : List Int} {i j : Nat} {v : Int} (h : i < c.length) : (c.set i v).getD j 0 = if j = i then v else c.getD j 0 := by
  rw [List.getD_eq_getElem?_getD, List.getElem?_set]
  by_cases e : i = j
  · subst e; simp [h]
  · have : ¬ j = i := fun h => e h.symm
    simp [e, this]
theorem part_set {f : Nat → Int} {N j : Nat} {v u : Int} (h : j < N) : (part f N j v).set j u = part f N j u := by
  refine list_ext (N := N) (by simp [part]) (part_len _ _ _ _) fun q hq => ?_
  rw [getD_set2 (by rw [part_len]; exact h)]
  unfold part
  rw [map_getD hq, map_getD hq]
  by_cases e : q = j
  · rw [if_pos e, if_neg (by omega), if_pos e]
  · rw [if_neg e, if_neg e, if_neg e]
theorem part_next {f : Nat → Int} {N j : Nat} {v : Int} (h : v = f j) : part f N j v = part f N (j + 1) 0 := by
  refine list_ext (N := N) (part_len _ _ _ _) (part_len _ _ _ _) fun q hq => ?_
  unfold part
  rw [map_getD hq, map_getD hq]
  by_cases e : q < j
  · rw [if_pos e, if_pos (by omega)]
  · by_cases e2 : q = j
    · rw [if_neg e, if_pos e2, if_pos (by omega), h, e2]
    · rw [if_neg e, if_neg e2, if_neg (by omega)]; split <;> rfl
theorem part_zero (f : Nat → Int) (N : Nat) : part f N 0 0 = List.replicate N 0 := by
  refine list_ext (N := N) (part_len _ _ _ _) (by simp) fun q hq => ?_
  unfold part
  rw [map_getD hq, if_neg (by omega)]
  simp [hq]
theorem part_all (f : Nat → Int) (N : Nat) (v : Int) : part f N N v = tabL f N := by
  refine list_ext (N := N) (part_len _ _ _ _) (tabL_len _ _) fun q hq => ?_
  unfold part
  rw [map_getD hq, tabL_get hq, if_pos hq]

/-- The places that p tells have their number, the others are 0. -/
def msk (p : Nat → Bool) (f : Nat → Int) (N : Nat) : List Int := (List.range N).map fun q => if p q = true then f q else 0
theorem msk_len (p : Nat → Bool) (f : Nat → Int) (N : Nat) : (msk p f N).length = N := by simp [msk]
theorem msk_set {p r : Nat → Bool} {f : Nat → Int} {N j : Nat} {u : Int} (h : j < N) (hu : u = f j) (hr : ∀ q, q < N → (r q = true ↔ p q = true ∨ q = j)) : (msk p f N).set j u = msk r f N := by
  refine list_ext (N := N) (by simp [msk]) (msk_len _ _ _) fun q hq => ?_
  rw [getD_set2 (by rw [msk_len]; exact h)]
  unfold msk
  rw [map_getD hq, map_getD hq]
  have := hr q hq
  by_cases e : q = j
  · rw [if_pos e, if_pos (this.2 (.inr e)), hu, e]
  · rw [if_neg e]
    by_cases hp : p q = true
    · rw [if_pos hp, if_pos (this.2 (.inl hp))]
    · rw [if_neg hp, if_neg (fun hh => (this.1 hh).elim hp e)]
theorem msk_same {p r : Nat → Bool} {f : Nat → Int} {N : Nat} (hr : ∀ q, q < N → (r q = true ↔ p q = true)) : msk p f N = msk r f N := by
  refine list_ext (N := N) (msk_len _ _ _) (msk_len _ _ _) fun q hq => ?_
  unfold msk
  rw [map_getD hq, map_getD hq]
  have := hr q hq
  by_cases hp : p q = true
  · rw [if_pos hp, if_pos (this.2 hp)]
  · rw [if_neg hp, if_neg (fun h => hp (this.1 h))]
theorem msk_none {p : Nat → Bool} {f : Nat → Int} {N : Nat} (h : ∀ q, q < N → ¬ p q = true) : msk p f N = List.replicate N 0 := by
  refine list_ext (N := N) (msk_len _ _ _) (by simp) fun q hq => ?_
  unfold msk
  rw [map_getD hq, if_neg (h q hq)]; simp [hq]
theorem msk_all {p : Nat → Bool} {f : Nat → Int} {N : Nat} (h : ∀ q, q < N → p q = true) : msk p f N = tabL f N := by
  refine list_ext (N := N) (msk_len _ _ _) (tabL_len _ _) fun q hq => ?_
  unfold msk
  rw [map_getD hq, tabL_get hq, if_pos (h q hq)]

/-! Sums. -/
def sumF (f : Nat → Int) : Nat → Int
  | 0 => 0
  | k + 1 => sumF f k + f k
theorem sumF_bd {f : Nat → Int} {c : Int} (hc : 0 ≤ c) : ∀ k, (∀ i, i < k → -c ≤ f i ∧ f i ≤ c) → -(k * c) ≤ sumF f k ∧ sumF f k ≤ k * c
  | 0, h => by simp [sumF]
  | k + 1, h => by
    have h1 := sumF_bd hc k (fun i hi => h i (by omega))
    have h2 := h k (by omega)
    have e : ((k + 1 : Nat) : Int) * c = k * c + c := by rw [Int.natCast_add, Int.add_mul]; simp
    rw [sumF, e]; omega
theorem mul2 {a b c : Int} (ha : a = -2 ∨ a = -1 ∨ a = 0 ∨ a = 1 ∨ a = 2) (hb : -c ≤ b ∧ b ≤ c) (hc : 0 ≤ c) : -(2 * c) ≤ a * b ∧ a * b ≤ 2 * c := by
  rcases ha with rfl | rfl | rfl | rfl | rfl <;> omega

/-! The matrices. -/
def A4 : List (List Int) := [[1, 1, 1, 1], [2, 1, -1, -2], [1, -1, -1, 1], [1, -2, 2, -1]]
def par (b : Nat) : Int := if (b % 2 + b / 2 % 2 + b / 4 % 2) % 2 = 0 then 1 else -1
def mx (n r i : Nat) : Int := if n = 4 then (A4.getD r []).getD i 0 else par (r &&& i)
theorem mx_val (n r i : Nat) : mx n r i = -2 ∨ mx n r i = -1 ∨ mx n r i = 0 ∨ mx n r i = 1 ∨ mx n r i = 2 := by
  unfold mx
  split
  · rcases Nat.lt_or_ge r 4 with h | h
    · rcases Nat.lt_or_ge i 4 with h2 | h2
      · have key : ∀ r i : Fin 4, (A4.getD r.val []).getD i.val 0 = -2 ∨ (A4.getD r.val []).getD i.val 0 = -1 ∨ (A4.getD r.val []).getD i.val 0 = 0 ∨ (A4.getD r.val []).getD i.val 0 = 1 ∨ (A4.getD r.val []).getD i.val 0 = 2 := by decide
        exact key ⟨r, h⟩ ⟨i, h2⟩
      · have key : ∀ r : Fin 4, (A4.getD r.val []).length = 4 := by decide
        have := key ⟨r, h⟩
        right; right; left
        rw [List.getD_eq_getElem?_getD, List.getElem?_eq_none (by simp only at this; omega)]; rfl
    · right; right; left
      have : A4.getD r [] = [] := by rw [List.getD_eq_getElem?_getD, List.getElem?_eq_none (by show 4 ≤ r; exact h)]; rfl
      rw [this]; rfl
  · unfold par; split <;> omega
theorem mx_bd (n r i : Nat) : -2 ≤ mx n r i ∧ mx n r i ≤ 2 := by have := mx_val n r i; omega
theorem par_one {b : Nat} (h : b < 8) : par b = 1 ∨ par b = -1 := by unfold par; split <;> simp
theorem par_odd {b : Nat} (h : b < 8) (h1 : b % 2 = 1) : par b = - par (b / 2) := by
  have key : ∀ b : Fin 8, b.val % 2 = 1 → par b.val = - par (b.val / 2) := by decide
  exact key ⟨b, h⟩ h1
theorem par_even {b : Nat} (h : b < 8) (h1 : b % 2 = 0) : par b = par (b / 2) := by
  have key : ∀ b : Fin 8, b.val % 2 = 0 → par b.val = par (b.val / 2) := by decide
  exact key ⟨b, h⟩ h1
theorem andw (p q : Nat) (h : p < 2 ^ 62) (h2 : q < 2 ^ 62) : IntKind.i64.wrap ((BitVec.ofInt IntKind.i64.bits (p : Int) &&& BitVec.ofInt IntKind.i64.bits (q : Int)).toNat : Nat) = ((p &&& q : Nat) : Int) := by
  have e1 : (BitVec.ofInt IntKind.i64.bits (p : Int)).toNat = p := by simp only [IntKind.bits, BitVec.toNat_ofInt]; omega
  have e2 : (BitVec.ofInt IntKind.i64.bits (q : Int)).toNat = q := by simp only [IntKind.bits, BitVec.toNat_ofInt]; omega
  rw [BitVec.toNat_and, e1, e2]
  have := Nat.and_le_left (n := p) (m := q)
  exact wrap64 _ (by omega)
/-- The square times the matrix, straight or turned, from both sides. -/
def mg (n : Nat) (back : Bool) (r i : Nat) : Int := if back then mx n i r else mx n r i
theorem mg_val (n : Nat) (back : Bool) (r i : Nat) : mg n back r i = -2 ∨ mg n back r i = -1 ∨ mg n back r i = 0 ∨ mg n back r i = 1 ∨ mg n back r i = 2 := by unfold mg; split <;> exact mx_val _ _ _
def halfM (n : Nat) (g : Nat → Nat → Int) (l : List Int) (r k : Nat) : Int := sumF (fun i => g r i * l.getD (i * n + k) 0) n
def fullM (n : Nat) (g : Nat → Nat → Int) (l : List Int) (r k : Nat) : Int := sumF (fun i => halfM n g l r i * g k i) n
def mulM (n : Nat) (g : Nat → Nat → Int) (l : List Int) : List Int := tabL (fun q => fullM n g l (q / n) (q % n)) (n * n)
theorem in_getZ {l : List Int} {c : Int} (h : In l (-c) c) (hc : 0 ≤ c) (k : Nat) : -c ≤ l.getD k 0 ∧ l.getD k 0 ≤ c := by
  rcases Nat.lt_or_ge k l.length with h1 | h1
  · exact in_get h h1
  · rw [List.getD_eq_getElem?_getD, List.getElem?_eq_none h1, Option.getD_none]; omega
theorem half_bd {n : Nat} {g : Nat → Nat → Int} {l : List Int} {c : Int} (hg : ∀ r i, g r i = -2 ∨ g r i = -1 ∨ g r i = 0 ∨ g r i = 1 ∨ g r i = 2) (h : In l (-c) c) (hc : 0 ≤ c) (r k i : Nat) :
    -(i * (2 * c)) ≤ sumF (fun i => g r i * l.getD (i * n + k) 0) i ∧ sumF (fun i => g r i * l.getD (i * n + k) 0) i ≤ i * (2 * c) :=
  sumF_bd (by omega) i fun j _ => mul2 (hg r j) (in_getZ h hc _) hc
end Go.Proofs.Ytepfjefdbpmobaa
