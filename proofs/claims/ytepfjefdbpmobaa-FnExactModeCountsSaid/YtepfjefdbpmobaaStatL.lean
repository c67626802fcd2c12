/- The law FnExactModeCounts. No condition. -/
import Derived.Test.YtepfjefdbpmobaaStat
namespace Go.Proofs.Ytepfjefdbpmobaa
open Go Go.Abs
set_option linter.unusedVariables false
set_option linter.unusedSimpArgs false
set_option maxRecDepth 100000
set_option maxHeartbeats 4000000
attribute [local irreducible] WpA WpL Rnd Blk Abs.Seq Abs.Fin Abs.FinG FnC FnG Only

theorem FnExactModeCounts_c (w h q : Int) (b d : Bool) (l : List Int) (M : List Mbk) (hl : l.length ≤ 9223372036854775807 ∧ M.length ≤ 9223372036854775807 ∧ SmM 9223372036854775807 M) : Fn 7 [StA w h q b d l M] [] (B true) := by
  refine FnC.of_body tabOk Try.func7 Try.ntmps7 rfl (by decide +kernel) (by simp) fun G => ?_
  have hl6 := mcM_len M M.length
  have hmw : mw M = M.length + (M.map mn).sum := rfl
  by_cases hM : mw M ≤ 1048576
  · have hsm : SmM 1099511627776 M := smM_of (by omega)
    refine go (r := ?_); and_intros <;> intros <;> try (first | exact True.intro | (simp_all; done))
    all_goals first | omega | (simp_all; omega) | trace_state
  · refine go (r := ?_); and_intros <;> intros <;> try (first | exact True.intro | (simp_all; done))
    all_goals omega
end Go.Proofs.Ytepfjefdbpmobaa
