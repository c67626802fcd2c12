/- Plain laws: whole predictions, residuals, the best mode. No condition. -/
import Derived.Test.YtepfjefdbpmobaaPredAt
import Derived.Test.YtepfjefdbpmobaaSym
namespace Go.Proofs.Ytepfjefdbpmobaa
open Go Go.Abs
set_option linter.unusedVariables false
set_option linter.unusedSimpArgs false

abbrev PF (m : Int) (t l : List Int) (c : Int) (a b : Bool) (n : Nat) (i : Nat) : Int := predL m t l c a b n ((i % n : Nat) : Int) ((i / n : Nat) : Int)
def prK (m : Int) (t l : List Int) (c : Int) (a b : Bool) (n k : Nat) : List Int := (List.range k).map (PF m t l c a b n)
theorem prK_len (m : Int) (t l : List Int) (c : Int) (a b : Bool) (n k : Nat) : (prK m t l c a b n k).length = k := by simp [prK]
theorem prK_snoc (m : Int) (t l : List Int) (c : Int) (a b : Bool) (n k : Nat) : prK m t l c a b n (k + 1) = prK m t l c a b n k ++ [PF m t l c a b n k] := by simp [prK, List.range_succ]
def predS (m : Int) (t l : List Int) (c : Int) (a b : Bool) (n : Int) : List Int := if NbOk t l c n ∧ 0 ≤ m ∧ m ≤ 5 then prK m t l c a b n.toNat (n.toNat * n.toNat) else []
theorem mod_div_in {n i : Nat} (h : i < n * n) : i % n < n ∧ i / n < n := by
  have hn : 0 < n := by rcases Nat.eq_zero_or_pos n with rfl | h0
                        · simp at h
                        · exact h0
  exact ⟨Nat.mod_lt _ hn, Nat.div_lt_of_lt_mul h⟩
theorem pred_in {m : Int} {t l : List Int} {c : Int} (a b : Bool) {n x y : Int} (h : NbOk t l c n) (hm : 0 ≤ m ∧ m ≤ 5) (hx : 0 ≤ x ∧ x ≤ n - 1) (hy : 0 ≤ y ∧ y ≤ n - 1) : 0 ≤ predL m t l c a b n x y ∧ predL m t l c a b n x y ≤ 255 := by
  unfold predL
  rw [if_pos ⟨h, hx, hy⟩]
  have hme := mean_in a b h
  have hbl := bord_len h
  have hbi := bord_in h
  obtain ⟨h1, h2, h3, h4, h5, h6⟩ := h
  have g1 := in_get h4 (k := x.toNat) (by omega)
  have g2 := in_get h5 (k := y.toNat) (by omega)
  have g3 := in_get h4 (k := (x + y).toNat) (by omega)
  have g4 := in_get h4 (k := (min (2 * n - 1) (x + y + 1)).toNat) (by omega)
  have g5 := in_get h4 (k := (min (2 * n - 1) (x + y + 2)).toNat) (by omega)
  have g6 := in_get hbi (k := (x - y + n - 1).toNat) (by omega)
  have g7 := in_get hbi (k := (x - y + n).toNat) (by omega)
  have g8 := in_get hbi (k := (x - y + n + 1).toNat) (by omega)
  have s1 := soft_in ⟨g3, g4, g5⟩
  have s2 := soft_in ⟨g6, g7, g8⟩
  repeat' split
  all_goals omega
theorem predS_len (m : Int) (t l : List Int) (c : Int) (a b : Bool) (n : Int) : (predS m t l c a b n).length = if NbOk t l c n ∧ 0 ≤ m ∧ m ≤ 5 then n.toNat * n.toNat else 0 := by
  unfold predS; split
  · rw [prK_len]
  · rfl
theorem predS_in (m : Int) (t l : List Int) (c : Int) (a b : Bool) (n : Int) : In (predS m t l c a b n) 0 255 := by
  unfold predS; split
  · rename_i h
    have h1 := h.1.1
    unfold In prK
    intro v hv
    obtain ⟨i, hi, rfl⟩ := List.mem_map.1 hv
    have hi := List.mem_range.1 hi
    have hmd := mod_div_in hi
    have e : ((n.toNat : Nat) : Int) = n := by omega
    have hx1 : ((i % n.toNat : Nat) : Int) ≤ n - 1 := by have := Int.ofNat_lt.2 hmd.1; rw [e] at this; exact Int.le_sub_one_of_lt this
    have hy1 : ((i / n.toNat : Nat) : Int) ≤ n - 1 := by have := Int.ofNat_lt.2 hmd.2; rw [e] at this; exact Int.le_sub_one_of_lt this
    have := pred_in a b (x := ((i % n.toNat : Nat) : Int)) (y := ((i / n.toNat : Nat) : Int)) h.1 h.2 ⟨Int.natCast_nonneg _, hx1⟩ ⟨Int.natCast_nonneg _, hy1⟩
    unfold PF; rw [e]; exact this
  · unfold In; intro v hv; cases hv

/-! Residuals. -/
def rsK (f p : List Int) (k : Nat) : List Int := (List.range k).map fun i => f.getD i 0 - p.getD i 0
theorem rsK_len (f p : List Int) (k : Nat) : (rsK f p k).length = k := by simp [rsK]
theorem rsK_snoc (f p : List Int) (k : Nat) : rsK f p (k + 1) = rsK f p k ++ [f.getD k 0 - p.getD k 0] := by simp [rsK, List.range_succ]
def ResOk (f p : List Int) : Prop := (f.length = 16 ∨ f.length = 64) ∧ p.length = f.length ∧ In f 0 255 ∧ In p 0 255
instance (f p : List Int) : Decidable (ResOk f p) := by unfold ResOk; infer_instance
def resS (f p : List Int) : List Int := if ResOk f p then rsK f p f.length else []
theorem resS_len (f p : List Int) : (resS f p).length = if ResOk f p then f.length else 0 := by
  unfold resS; split
  · rw [rsK_len]
  · rfl
theorem resS_small (f p : List Int) : (resS f p).length ≤ 64 := by
  rw [resS_len]; split
  · rename_i h; have := h.1; omega
  · omega

/-! The best mode. -/
def bmS (l t le : List Int) (c : Int) (a b : Bool) (n : Int) (lens : List Int) : Nat → Int × Int
  | 0 => (-1, 0)
  | m + 1 => if HasC lens m then
      (if (bmS l t le c a b n lens m).1 < 0 ∨ costs (resS l (predS m t le c a b n)) < (bmS l t le c a b n lens m).2 then ((m : Int), costs (resS l (predS m t le c a b n))) else bmS l t le c a b n lens m)
    else bmS l t le c a b n lens m
def BmOk (l t le : List Int) (c n : Int) : Prop := NbOk t le c n ∧ (l.length : Int) = n * n ∧ In l 0 255
instance (l t le : List Int) (c n : Int) : Decidable (BmOk l t le c n) := by unfold BmOk; infer_instance
def bestM (l t le : List Int) (c : Int) (a b : Bool) (n : Int) (lens : List Int) : Int := if BmOk l t le c n then (bmS l t le c a b n lens 6).1 else -1
theorem bm_bd (l t le : List Int) (c : Int) (a b : Bool) (n : Int) (lens : List Int) : ∀ m : Nat, -1 ≤ (bmS l t le c a b n lens m).1 ∧ (bmS l t le c a b n lens m).1 < m ∧ 0 ≤ (bmS l t le c a b n lens m).2 ∧ (bmS l t le c a b n lens m).2 ≤ 64000000
  | 0 => by simp [bmS]
  | m + 1 => by
    have h := bm_bd l t le c a b n lens m
    have hc := costs_bd (resS l (predS m t le c a b n))
    have hl := resS_small l (predS m t le c a b n)
    rw [bmS]
    split
    · split
      · simp only; omega
      · omega
    · omega
end Go.Proofs.Ytepfjefdbpmobaa
