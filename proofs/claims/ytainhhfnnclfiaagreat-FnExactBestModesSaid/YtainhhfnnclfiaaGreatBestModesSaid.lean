/- What is proved: for every input the law FnExactBestModes answers true and its arguments read behind the call as before. Conditions: none. -/
import Derived.Test.YtainhhfnnclfiaaGreatRows
import Derived.Test.YtainhhfnnclfiaaGreatBmM16
import Derived.WalkKit
import Derived.ProofKit
import Derived.OpenShut
import Derived.ShutString
import Derived.ChangeOld
import Derived.Below
namespace Go.Proofs.YtainhhfnnclfiaaGreat.fnExactBestModes
open Go.ChangeShapes Go.WideShapes Go.ChangeAt Go.RowKit
open Go.ChangeMaps (open_string shut_string)
set_option linter.unusedVariables false

theorem own : ownKnob Tryz.prog.godebug = none := by kernel_rfl
theorem laidOut : laidOutB Tryz.prog = true := by kernel_rfl

theorem shape0 : Go.Abs.SpOk Tryz.prog 59 (.struct [.int .i64, .int .i64, .slice 1 (.int .i64)]) := .struct Tryz.underlying59 (by kernel_rfl) (.cons (c := 1) rfl (by kernel_rfl) (.int Tryz.underlying3) (.cons (c := 1) rfl (by kernel_rfl) (.int Tryz.underlying3) (.cons (c := 1) rfl (by kernel_rfl) (.slice Tryz.underlying32 (by kernel_rfl) (by decide) (.int Tryz.underlying3)) (.nil))))
theorem shape1 : Go.Abs.SpOk Tryz.prog 60 (.struct [.int .i64, .bool, .bool, .slice 1 (.int .i64), .slice 1 (.int .i64), .slice 1 (.bool)]) := .struct Tryz.underlying60 (by kernel_rfl) (.cons (c := 1) rfl (by kernel_rfl) (.int Tryz.underlying3) (.cons (c := 1) rfl (by kernel_rfl) (.bool Tryz.underlying4) (.cons (c := 1) rfl (by kernel_rfl) (.bool Tryz.underlying4) (.cons (c := 1) rfl (by kernel_rfl) (.slice Tryz.underlying32 (by kernel_rfl) (by decide) (.int Tryz.underlying3)) (.cons (c := 1) rfl (by kernel_rfl) (.slice Tryz.underlying32 (by kernel_rfl) (by decide) (.int Tryz.underlying3)) (.cons (c := 1) rfl (by kernel_rfl) (.slice Tryz.underlying40 (by kernel_rfl) (by decide) (.bool Tryz.underlying4)) (.nil)))))))

set_option maxRecDepth 100000 in
theorem lifted (os : Os) (started : os.Started) (H : Type) (enc : TypeId × Value → H) :
    ReturnsInHanded {} Tryz.checked os 9 .any (Rows.fnExactBestModesSpec.pre6 enc Tryz.prog Tryz.f9 Rows.fnExactBestModesRow.domain false) (Rows.fnExactBestModesSpec.post enc Tryz.prog Tryz.f9 false true false false) := by
  refine returnsInHanded_of_change (C := Tryz.checked) own started (by kernel_rfl) Tryz.func9
    (ChangeSpec.witness6 (enc := enc) (C := Tryz.checked) false ⟨#[], #[.agg #[Value.int .i64 0, Value.int .i64 0, .slice none 0 0], .agg #[Value.int .i64 0, .bool false, .bool false, .slice none 0 0, .slice none 0 0, .slice none 0 0]], []⟩ 8 (by kernel_rfl) (by kernel_rfl) (by kernel_rfl) (by kernel_rfl)) ?_
  intro W base args ds gs before hval0 hW hcnd _
  have hval : ∀ (j : Nat) t v, Tryz.f9.params[j]? = some t → args[j]? = some v → Value.okWide Tryz.prog W .any base t v := hval0
  have hW' := hW
  obtain ⟨p, q, hA0, hV, rfl, hfz, hnd⟩ := hW
  have hA : DataW.TrodAll enc Tryz.prog W 0 (fun _ => true) true Tryz.f9.params.toList args.toList ds p := hA0
  rw [Tryz.params9] at hA hval
  obtain ⟨v0, vs0, d0, ds0, p0, q0, hargs, rfl, rfl, h0, r0⟩ := trodAll_cons hA
  obtain ⟨v1, vs1, d1, ds1, p1, q1, rfl, rfl, rfl, h1, r1⟩ := trodAll_cons r0
  obtain ⟨rfl, rfl, rfl⟩ := trodAll_nil r1
  obtain rfl : args = #[v0, v1] := by cases args; simp_all
  obtain ⟨rfl, rfl⟩ := trodVars_none hV
  obtain ⟨cs0, rfl, _⟩ := okWide_struct Tryz.underlying59 (hval 0 59 v0 rfl rfl)
  obtain ⟨cs1, rfl, _⟩ := okWide_struct Tryz.underlying60 (hval 1 60 v1 rfl rfl)
  have k0 := h0
  have lt0 : ∀ x ∈ p0, x.block < W.heap.size := by obtain ⟨m, hm⟩ := k0; exact DataW.trod_lt m _ _ _ hm
  have k1 := h1
  have lt1 : ∀ x ∈ p1, x.block < W.heap.size := by obtain ⟨m, hm⟩ := k1; exact DataW.trod_lt m _ _ _ hm
  obtain ⟨fuel0, hf0⟩ := h0
  obtain ⟨es0, rd0, hl0⟩ := Go.Abs.read (S := fun b => b < W.heap.size) (ι := fun _ => none) (fun _ h => h) fuel0 59 _ _ _ shape0 hf0
  obtain ⟨x0_0, x0_1, x0_2, rfl, e0_0, e0_1, e0_2, e0_3⟩ := Go.Abs.rd_frame rd0
  obtain ⟨fuel1, hf1⟩ := h1
  obtain ⟨es1, rd1, hl1⟩ := Go.Abs.read (S := fun b => b < W.heap.size) (ι := fun _ => none) (fun _ h => h) fuel1 60 _ _ _ shape1 hf1
  obtain ⟨x1_0, x1_1, x1_2, x1_3, x1_4, x1_5, rfl, e1_0, e1_1, e1_2, e1_3, e1_4, e1_5⟩ := rd_options rd1
  clear hA0 hval0
  refine (Go.Abs.FnC.walk (FnExactBestModes_c x0_0 x0_1 x0_2 x1_0 x1_1 x1_2 x1_3 x1_4 x1_5 (by and_intros <;> first | assumption | omega)) (fun _ h => h) (Go.Abs.lrel_cons0 (Go.Abs.lrel_agg (hl0 [])) (Go.Abs.lrel_cons0 (Go.Abs.lrel_agg (hl1 [])) Go.Abs.LRel.nil))).mono fun e W' ⟨he, bel⟩ => ?_
  subst he
  exact ⟨_, rfl, _, _, _, [], _, [], hW', trodAll_mk1 (shut_bool Tryz.underlying4 _), (trodAll_cons_mk (Below.trod laidOut (by kernel_rfl) (of_decide_eq_true (by kernel_rfl)) k0 bel lt0) (trodAll_cons_mk (Below.trod laidOut (by kernel_rfl) (of_decide_eq_true (by kernel_rfl)) k1 bel lt1) trodAll_mk0)), rfl, bel.frame _, fun h => by cases h⟩

theorem over : Rows.fnExactBestModesRow.holds Tryz.pinned (OpenSpec.ofChange Rows.fnExactBestModesSpec) :=
  OpenClaim.holds_of_wide 9 Tryz.f9 rfl rfl rfl rfl rfl rfl rfl ⟨rfl, rfl, rfl, rfl, rfl⟩ rfl rfl rfl rfl rfl (by kernel_rfl) Tryz.func9 (by kernel_rfl)
    (of_decide_eq_true (by kernel_rfl)) (by unfold Func.isWrapper; first | (rw [if_pos (by decide +kernel)]; kernel_rfl) | (rw [if_neg (by decide +kernel)]; exact ⟨rfl, rfl⟩))
    (fun os started H enc _ => lifted os started H enc)

/-- The statement. -/
theorem proved : Rows.FnExactBestModesSaid := over
#print axioms proved
end Go.Proofs.YtainhhfnnclfiaaGreat.fnExactBestModes
