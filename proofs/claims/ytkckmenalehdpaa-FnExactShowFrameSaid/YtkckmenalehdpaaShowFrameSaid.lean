/- What is proved: for every input the law FnExactShowFrame answers true and its arguments read behind the call as before. Conditions: none. -/
import Derived.Test.YtkckmenalehdpaaRows
import Derived.Test.YtkckmenalehdpaaShM7
import Derived.WalkKit
import Derived.ProofKit
import Derived.OpenShut
import Derived.ShutString
import Derived.ChangeOld
import Derived.Below
namespace Go.Proofs.Ytkckmenalehdpaa.fnExactShowFrame
open Go.ChangeShapes Go.WideShapes Go.ChangeAt Go.RowKit
open Go.ChangeMaps (open_string shut_string)
set_option linter.unusedVariables false

theorem own : ownKnob Try.prog.godebug = none := by kernel_rfl
theorem laidOut : laidOutB Try.prog = true := by kernel_rfl

theorem shape0 : Go.Abs.SpOk Try.prog 24 (.struct [.int .i64, .int .i64, .slice 1 (.int .i64)]) := .struct Try.underlying24 (by kernel_rfl) (.cons (c := 1) rfl (by kernel_rfl) (.int Try.underlying3) (.cons (c := 1) rfl (by kernel_rfl) (.int Try.underlying3) (.cons (c := 1) rfl (by kernel_rfl) (.slice Try.underlying22 (by kernel_rfl) (by decide) (.int Try.underlying3)) (.nil))))

set_option maxRecDepth 100000 in
theorem lifted (os : Os) (started : os.Started) (H : Type) (enc : TypeId × Value → H) :
    ReturnsInHanded {} Try.checked os 3 .any (Rows.fnExactShowFrameSpec.pre6 enc Try.prog Try.f3 Rows.fnExactShowFrameRow.domain false) (Rows.fnExactShowFrameSpec.post enc Try.prog Try.f3 false true false false) := by
  refine returnsInHanded_of_change (C := Try.checked) own started (by kernel_rfl) Try.func3
    (ChangeSpec.witness6 (enc := enc) (C := Try.checked) false ⟨#[], #[.agg #[Value.int .i64 0, Value.int .i64 0, .slice none 0 0]], []⟩ 8 (by kernel_rfl) (by kernel_rfl) (by kernel_rfl) (by kernel_rfl)) ?_
  intro W base args ds gs before hval0 hW hcnd _
  have hval : ∀ (j : Nat) t v, Try.f3.params[j]? = some t → args[j]? = some v → Value.okWide Try.prog W .any base t v := hval0
  have hW' := hW
  obtain ⟨p, q, hA0, hV, rfl, hfz, hnd⟩ := hW
  have hA : DataW.TrodAll enc Try.prog W 0 (fun _ => true) true Try.f3.params.toList args.toList ds p := hA0
  rw [Try.params3] at hA hval
  obtain ⟨v0, vs0, d0, ds0, p0, q0, hargs, rfl, rfl, h0, r0⟩ := trodAll_cons hA
  obtain ⟨rfl, rfl, rfl⟩ := trodAll_nil r0
  obtain rfl : args = #[v0] := by cases args; simp_all
  obtain ⟨rfl, rfl⟩ := trodVars_none hV
  obtain ⟨cs0, rfl, _⟩ := okWide_struct Try.underlying24 (hval 0 24 v0 rfl rfl)
  have k0 := h0
  have lt0 : ∀ x ∈ p0, x.block < W.heap.size := by obtain ⟨m, hm⟩ := k0; exact DataW.trod_lt m _ _ _ hm
  obtain ⟨fuel0, hf0⟩ := h0
  obtain ⟨es0, rd0, hl0⟩ := Go.Abs.read (S := fun b => b < W.heap.size) (ι := fun _ => none) (fun _ h => h) fuel0 24 _ _ _ shape0 hf0
  obtain ⟨x0_0, x0_1, x0_2, rfl, e0_0, e0_1, e0_2, e0_3⟩ := Go.Abs.rd_frame rd0
  clear hA0 hval0
  refine (Go.Abs.FnC.walk (FnExactShowFrame_c x0_0 x0_1 x0_2 (by and_intros <;> first | assumption | omega)) (fun _ h => h) ⟨W, trivial, fun _ h => absurd h (Nat.not_lt_zero _)⟩ (Go.Abs.lrel_cons0 (Go.Abs.lrel_agg (hl0 [])) Go.Abs.LRel.nil)).mono fun e W' ⟨he, bel⟩ => ?_
  subst he
  exact ⟨_, rfl, _, _, _, [], _, [], hW', trodAll_mk1 (shut_bool Try.underlying4 _), (trodAll_cons_mk (Below.trod laidOut (by kernel_rfl) (of_decide_eq_true (by kernel_rfl)) k0 bel lt0) trodAll_mk0), rfl, bel.frame _, fun h => by cases h⟩

theorem over : Rows.fnExactShowFrameRow.holds Try.pinned (OpenSpec.ofChange Rows.fnExactShowFrameSpec) :=
  OpenClaim.holds_of_wide 3 Try.f3 rfl rfl rfl rfl rfl rfl rfl ⟨rfl, rfl, rfl, rfl, rfl⟩ rfl rfl rfl rfl rfl (by kernel_rfl) Try.func3 (by kernel_rfl)
    (of_decide_eq_true (by kernel_rfl)) (by unfold Func.isWrapper; first | (rw [if_pos (by decide +kernel)]; kernel_rfl) | (rw [if_neg (by decide +kernel)]; exact ⟨rfl, rfl⟩))
    (fun os started H enc _ => lifted os started H enc)

/-- The statement. -/
theorem proved : Rows.FnExactShowFrameSaid := over
#print axioms proved
end Go.Proofs.Ytkckmenalehdpaa.fnExactShowFrame
