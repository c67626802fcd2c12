/- Contracts: the work of a stream by the program; the law FnExactWorkOf. No condition. -/
import Derived.Test.YtepfjefdbpmobaaWork
import Derived.Test.YtepfjefdbpmobaaLn
namespace Go.Proofs.Ytepfjefdbpmobaa
open Go Go.Abs
set_option linter.unusedVariables false
set_option linter.unusedSimpArgs false
set_option maxRecDepth 100000
set_option maxHeartbeats 4000000
attribute [local irreducible] WpA WpL Rnd Blk Abs.Seq Abs.Fin Abs.FinG FnC FnG Only

instance WorkOf_c : Con 45 (∀ (w h q : Int) (b d : Bool) (l : List Int) (M : List Mbk), l.length ≤ 1099511627776 ∧ mw M ≤ 1048576 → Fn 45 [StA w h q b d l M] [] (I (workL w h q l M))) := ⟨fun w h q b d l M hM => by
  have hmw : mw M = M.length + (M.map mn).sum := rfl
  have hsm : SmM 1099511627776 M := smM_of (by omega)
  have hwk := wk_bd M
  refine FnC.of_body tabOk Try.func45 Try.ntmps45 rfl (by decide +kernel) (by simp) fun G => ?_
  by_cases h0 : StOk w h q l M
  · have hres : workL w h q l M = 7 + ((M.map wkM).sum : Nat) := by rw [workL, if_pos h0]
    refine go (r := ?_); and_intros <;> intros <;> try exact True.intro
    all_goals first | exact hsm | (exact absurd h0 (by assumption)) | skip
    refine WpA.loop (fun i : Nat => ⟨[(3, I (7 + (tk wkM M i : Nat))), (13, MbL M), (14, I M.length), (15, I i)], []⟩) (fun i => i ≤ M.length) (fun i => M.length - i) 0 (by omega) (go (r := ?_)) (fun i hi => ?_)
    · simp [tk_zero]
    have hs1 := fun h => tk_succ wkM M i h
    have hle1 := tk_le wkM M i
    have hle2 := tk_le wkM M (i + 1)
    have hg := fun h => smM_get hsm (k := i) h
    have hok := fun h => ok_blk h0 (i := i) h
    have e3 : wkM (M.getD i default) = 1 + ((M.getD i default).2.map wkB).sum := rfl
    refine go (r := ?_); and_intros <;> intros <;> try exact True.intro
    · have hs1 := hs1 (by omega)
      have hg := hg (by omega)
      have hok := hok (by omega)
      refine WpA.loop (fun k : Nat => ⟨[(3, I (7 + (tk wkM M i : Nat) + 1 + (tk wkB (M.getD i default).2 k : Nat))), (13, MbL M), (14, I M.length), (15, I i), (22, BkL (M.getD i default).2), (23, I (M.getD i default).2.length), (24, I k)], []⟩) (fun k => k ≤ (M.getD i default).2.length) (fun k => (M.getD i default).2.length - k) 0 (by omega) (go (r := ?_)) (fun k hk => ?_)
      · simp [tk_zero]
      have hs3 := fun h => tk_succ wkB (M.getD i default).2 k h
      have hle3 := tk_le wkB (M.getD i default).2 k
      have hle4 := tk_le wkB (M.getD i default).2 (k + 1)
      have hsk := fun h => smB_get hg.2 (k := k) h
      have hlv := fun h => prs_nz (ok_lv hok (k := k) h).2.2.2
      have e6 : nzB ((M.getD i default).2.getD k default) = (((M.getD i default).2.getD k default).2.map nz1).sum := rfl
      have e7 : (nzB ((M.getD i default).2.getD k default) = 0 → wkB ((M.getD i default).2.getD k default) = 2) ∧ (nzB ((M.getD i default).2.getD k default) ≠ 0 → wkB ((M.getD i default).2.getD k default) = 3 + 2 * nzB ((M.getD i default).2.getD k default)) := by
        unfold wkB; constructor <;> intro hz
        · rw [if_pos hz]
        · rw [if_neg hz]; omega
      have e8 := nzB_bd ((M.getD i default).2.getD k default)
      have e9 : bn ((M.getD i default).2.getD k default) = ((M.getD i default).2.getD k default).2.length := rfl
      refine go (r := ?_); and_intros <;> intros <;> try exact True.intro
      all_goals have e : k = (M.getD i default).2.length := by omega
      all_goals have e10 := tk_all wkB (M.getD i default).2
      all_goals rw [← e] at e10
      all_goals omega
    all_goals have e : i = M.length := by omega
    all_goals subst e
    all_goals rw [hres, tk_all]
  · have hres : workL w h q l M = 0 := by rw [workL, if_neg h0]
    refine go (r := ?_); and_intros <;> intros <;> try exact True.intro
    all_goals first | exact hsm | (exact absurd (by assumption) h0) | (rw [hres]; done) | trace_state⟩

theorem FnExactWorkOf_c (w h q : Int) (b d : Bool) (l : List Int) (M : List Mbk) (hl : l.length ≤ 9223372036854775807 ∧ M.length ≤ 9223372036854775807 ∧ SmM 9223372036854775807 M) : Fn 10 [StA w h q b d l M] [] (B true) := by
  refine FnC.of_body tabOk Try.func10 Try.ntmps10 rfl (by decide +kernel) (by simp) fun G => ?_
  have hmw : mw M = M.length + (M.map mn).sum := rfl
  by_cases hM : mw M ≤ 1048576
  · have hsm : SmM 1099511627776 M := smM_of (by omega)
    refine go (r := ?_); and_intros <;> intros <;> try (first | exact True.intro | (simp_all; done))
  · refine go (r := ?_); and_intros <;> intros <;> try (first | exact True.intro | (simp_all; done))
    all_goals omega
end Go.Proofs.Ytepfjefdbpmobaa
