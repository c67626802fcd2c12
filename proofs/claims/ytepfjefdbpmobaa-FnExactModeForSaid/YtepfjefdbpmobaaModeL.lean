/- The law FnExactModeFor. No condition. -/
import Derived.Test.YtepfjefdbpmobaaSym
import Derived.Test.YtepfjefdbpmobaaLw
namespace Go.Proofs.Ytepfjefdbpmobaa
open Go Go.Abs
set_option linter.unusedVariables false
set_option linter.unusedSimpArgs false
set_option maxRecDepth 100000
set_option maxHeartbeats 4000000
attribute [local irreducible] WpA WpL Rnd Blk Abs.Seq Abs.Fin Abs.FinG FnC FnG Only

theorem FnExactModeFor_c (q : Int) (b d : Bool) (l m : List Int) (e : List Bool) (k : Int) (hl : l.length ≤ 9223372036854775807 ∧ m.length ≤ 9223372036854775807 ∧ e.length ≤ 9223372036854775807) : Fn 6 [OpA q b d l m e, I k] [] (B true) := by
  refine FnC.of_body tabOk Try.func6 Try.ntmps6 rfl (by decide +kernel) (by simp) fun G => ?_
  refine go (r := ?_); and_intros <;> intros <;> try (first | exact True.intro | (simp_all; done))
end Go.Proofs.Ytepfjefdbpmobaa
