/- The laws' own functions over what lies around a square; the law FnExactBestMode. No condition. -/
import Derived.Test.YtepfjefdbpmobaaBest
import Derived.Test.YtepfjefdbpmobaaLw
namespace Go.Proofs.Ytepfjefdbpmobaa
open Go Go.Abs
set_option linter.unusedVariables false
set_option linter.unusedSimpArgs false
set_option maxRecDepth 100000
set_option maxHeartbeats 4000000
attribute [local irreducible] WpA WpL Rnd Blk Abs.Seq Abs.Fin Abs.FinG FnC FnG Only

instance szNb_c : Con 35 (∀ (t l : List Int) (c : Int) (a b : Bool) (left : Int), t.length ≤ 9223372036854775807 ∧ l.length ≤ 9223372036854775807 ∧ 0 ≤ left ∧ left ≤ 1048576 →
    Fn 35 [NbA t l c a b, I left] [] (I (max (-1) (left - t.length - l.length)))) := ⟨fun t l c a b left hl => by
  refine FnC.of_body tabOk Try.func35 Try.ntmps35 rfl (by decide +kernel) (by simp) fun G => ?_
  refine go (r := ?_); and_intros <;> intros <;> try exact True.intro⟩
instance toNb_c : Con 38 (∀ (t l : List Int) (c : Int) (a b : Bool), t.length ≤ 1099511627776 ∧ l.length ≤ 1099511627776 →
    Fn 38 [NbA t l c a b] [XI t, XI l] (.agg [.own 0 0 0 t.length, .own 1 0 0 l.length, I c, B a, B b])) := ⟨fun t l c a b hl => by
  refine FnC.of_body tabOk Try.func38 Try.ntmps38 rfl (by decide +kernel) (by simp) fun G => ?_
  refine go (r := ?_); and_intros <;> intros <;> try exact True.intro⟩
instance eqNb_c : Con 40 (∀ (t l : List Int) (c : Int) (a b : Bool) (t2 l2 : List Int) (c2 : Int) (a2 b2 : Bool), t.length ≤ 1099511627776 ∧ l.length ≤ 1099511627776 ∧ t2.length ≤ 1099511627776 ∧ l2.length ≤ 1099511627776 →
    Fn 40 [NbA t l c a b, NbA t2 l2 c2 a2 b2] [] (B (decide (t = t2 ∧ l = l2 ∧ c = c2 ∧ a = a2 ∧ b = b2)))) := ⟨fun t l c a b t2 l2 c2 a2 b2 hl => by
  refine FnC.of_body tabOk Try.func40 Try.ntmps40 rfl (by decide +kernel) (by simp) fun G => ?_
  refine go (r := ?_); and_intros <;> intros <;> try exact True.intro
  all_goals simp_all⟩
theorem FnExactBestMode_c (l t le : List Int) (c : Int) (a b : Bool) (n : Int) (lens : List Int) (hl : l.length ≤ 9223372036854775807 ∧ t.length ≤ 9223372036854775807 ∧ le.length ≤ 9223372036854775807 ∧ lens.length ≤ 9223372036854775807) : Fn 8 [IL l, NbA t le c a b, I n, IL lens] [] (B true) := by
  refine FnC.of_body tabOk Try.func8 Try.ntmps8 rfl (by decide +kernel) (by simp) fun G => ?_
  refine go (r := ?_); and_intros <;> intros <;> try (first | exact True.intro | (simp_all; done))
end Go.Proofs.Ytepfjefdbpmobaa
