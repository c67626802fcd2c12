/- Contracts: the matrices, their products with a square. No condition. -/
import Derived.Test.YtepfjefdbpmobaaMatL
import Derived.Test.YtepfjefdbpmobaaAbsX
namespace Go.Proofs.Ytepfjefdbpmobaa
open Go Go.Abs
set_option linter.unusedVariables false
set_option linter.unusedSimpArgs false
set_option maxRecDepth 100000
set_option maxHeartbeats 4000000
attribute [local irreducible] WpA WpL Rnd Blk Abs.Seq Abs.Fin Abs.FinG FnC FnG Only

theorem halve (b j : Nat) : b / 2 ^ (j + 1) = b / 2 ^ j / 2 := by rw [Nat.pow_succ, Nat.div_div_eq_div_mul]
theorem half_int (x : Nat) : (x : Int) / 2 ^ Int.toNat 1 = ((x / 2 : Nat) : Int) := by
  rw [show (2 : Int) ^ Int.toNat 1 = 2 from rfl]; omega
theorem par_zero : par 0 = 1 := rfl
theorem tabL_snoc (f : Nat → Int) (k : Nat) : tabL f (k + 1) = tabL f k ++ [f k] := by simp [tabL, List.range_succ]
instance l12Row_s : Con 178 (∀ n r : Nat, (n = 4 ∨ n = 8) ∧ r < n → Fn 178 [I n, I r] [IN (tabL (mx n r) n)] (.own 0 0 0 n)) := ⟨fun n r h => by
  rcases h with ⟨rfl | rfl, hr⟩
  · rcases (by omega : r = 0 ∨ r = 1 ∨ r = 2 ∨ r = 3) with rfl | rfl | rfl | rfl
    all_goals refine FnC.of_body tabOk Try.func178 Try.ntmps178 rfl (by decide +kernel) (by simp) fun G => ?_
    · refine go (r := ?_); and_intros <;> intros <;> try exact True.intro
      refine WpL.loadOwnLi tabOk rfl rfl rfl rfl (by decide) (by decide) rfl ?_
      refine go (r := ?_); and_intros <;> intros <;> try exact True.intro
      all_goals first | decide | rfl
    · refine go (r := ?_); and_intros <;> intros <;> try exact True.intro
      refine WpL.loadOwnLi tabOk rfl rfl rfl rfl (by decide) (by decide) rfl ?_
      refine go (r := ?_); and_intros <;> intros <;> try exact True.intro
      all_goals first | decide | rfl
    · refine go (r := ?_); and_intros <;> intros <;> try exact True.intro
      refine WpL.loadOwnLi tabOk rfl rfl rfl rfl (by decide) (by decide) rfl ?_
      refine go (r := ?_); and_intros <;> intros <;> try exact True.intro
      all_goals first | decide | rfl
    · refine go (r := ?_); and_intros <;> intros <;> try exact True.intro
      refine WpL.loadOwnLi tabOk rfl rfl rfl rfl (by decide) (by decide) rfl ?_
      refine go (r := ?_); and_intros <;> intros <;> try exact True.intro
      all_goals first | decide | rfl
  · refine FnC.of_body tabOk Try.func178 Try.ntmps178 rfl (by decide +kernel) (by simp) fun G => ?_
    refine go (r := ?_); and_intros <;> intros <;> try exact True.intro
    refine WpA.loop (fun k : Nat => ⟨[(1, I r), (5, .own 0 0 0 k), (6, I k)], [XI (tabL (mx 8 r) k)]⟩) (fun k => k ≤ 8) (fun k => 8 - k) 0 (by omega) (go (r := ?_)) (fun k hk => ?_)
    · simp [tabL]
    have hkl := tabL_len (mx 8 r) k
    have hand := andw r k (by omega) (by omega)
    have hlt : r &&& k < 8 := by have := Nat.and_le_left (n := r) (m := k); omega
    have hmx : mx 8 r k = par (r &&& k) := rfl
    generalize hb : r &&& k = b at hand hlt hmx
    refine go (r := ?_); and_intros <;> intros <;> try exact True.intro
    · refine WpA.loop (fun j : Nat => ⟨[(1, I r), (5, .own 0 0 0 k), (6, I k), (7, I (par b * par (b / 2 ^ j))), (8, I ((b / 2 ^ j : Nat) : Int))], [XI (tabL (mx 8 r) k)]⟩) (fun j => j ≤ 3) (fun j => 3 - j) 0 (by omega) (go (r := ?_)) (fun j hj => ?_)
      · rw [Nat.pow_zero, Nat.div_one]
        refine ⟨?_, ?_⟩
        · rcases par_one hlt with h | h <;> rw [h] <;> rfl
        · first | trivial | (rw [hand]) | (rw [hand]; trivial) | exact ⟨hand, trivial⟩
      have hj3 : j = 3 → b / 2 ^ j = 0 := by rintro rfl; omega
      have hxl : b / 2 ^ j < 8 := Nat.lt_of_le_of_lt (Nat.div_le_self _ _) hlt
      have hhal := halve b j
      generalize b / 2 ^ j = x at hj3 hxl hhal
      have hlo := low1 x (by omega)
      have hpo := par_one hlt
      have hpx := par_one hxl
      have ho := par_odd hxl
      have he := par_even hxl
      have hi2 := half_int x
      have hbb : -1 ≤ par b * par x ∧ par b * par x ≤ 1 := by rcases hpo with h | h <;> rcases hpx with h2 | h2 <;> rw [h, h2] <;> decide
      refine go (r := ?_); and_intros <;> intros <;> try exact True.intro
      · rename_i hc; rw [hlo] at hc; rw [hhal, ho (by omega), Int.mul_neg, Int.neg_neg]
      · rename_i hc; rw [hlo] at hc; rw [hhal, he (by omega)]
      · have : x = 0 := by omega
        subst this; rw [par_zero, Int.mul_one, tabL_snoc, hmx]
    all_goals (have e : k = 8 := by omega); rw [e]⟩
def H8 : List (List Int) := (List.range 8).map fun r => tabL (mx 8 r) 8
instance matrixA_c : Con 129 (Fn 129 [] [⟨rows liF A4, 0, 1, some 22⟩] (.own 0 0 0 4)) := ⟨by
  refine FnC.of_body tabOk Try.func129 Try.ntmps129 rfl (by decide +kernel) (by simp) fun G => ?_
  refine go (r := ?_); and_intros <;> intros <;> try exact True.intro
  all_goals rfl⟩
end Go.Proofs.Ytepfjefdbpmobaa
