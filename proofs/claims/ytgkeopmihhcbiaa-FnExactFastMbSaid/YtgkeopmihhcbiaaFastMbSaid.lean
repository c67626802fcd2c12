/- What is proved: for every input the law FnExactFastMb answers true and its arguments read behind the call as before. Conditions: none. -/
import Derived.Test.YtgkeopmihhcbiaaRows
import Derived.Test.YtgkeopmihhcbiaaPkM15
import Derived.WalkKit
import Derived.ProofKit
import Derived.OpenShut
import Derived.ShutString
import Derived.ChangeOld
import Derived.Below
namespace Go.Proofs.Ytgkeopmihhcbiaa.fnExactFastMb
open Go.ChangeShapes Go.WideShapes Go.ChangeAt Go.RowKit
open Go.ChangeMaps (open_string shut_string)
set_option linter.unusedVariables false

theorem own : ownKnob Try.prog.godebug = none := by kernel_rfl
theorem laidOut : laidOutB Try.prog = true := by kernel_rfl

theorem shape0 : Go.Abs.SpOk Try.prog 23 (.struct [.str, .int .i64, .int .i64, .int .i64]) := .struct Try.underlying23 (by kernel_rfl) (.cons (c := 1) rfl (by kernel_rfl) (.str Try.underlying9) (.cons (c := 1) rfl (by kernel_rfl) (.int Try.underlying3) (.cons (c := 1) rfl (by kernel_rfl) (.int Try.underlying3) (.cons (c := 1) rfl (by kernel_rfl) (.int Try.underlying3) (.nil)))))
theorem shape1 : Go.Abs.SpOk Try.prog 24 (.slice 2 (.struct [.int .i64, .int .i64])) := .slice Try.underlying24 (by kernel_rfl) (by decide) (.struct Try.underlying99 (by kernel_rfl) (.cons (c := 1) rfl (by kernel_rfl) (.int Try.underlying3) (.cons (c := 1) rfl (by kernel_rfl) (.int Try.underlying3) (.nil))))
theorem shape2 : Go.Abs.SpOk Try.prog 24 (.slice 2 (.struct [.int .i64, .int .i64])) := .slice Try.underlying24 (by kernel_rfl) (by decide) (.struct Try.underlying99 (by kernel_rfl) (.cons (c := 1) rfl (by kernel_rfl) (.int Try.underlying3) (.cons (c := 1) rfl (by kernel_rfl) (.int Try.underlying3) (.nil))))

set_option maxRecDepth 100000 in
theorem lifted (os : Os) (started : os.Started) (H : Type) (enc : TypeId × Value → H) :
    ReturnsInHanded {} Try.checked os 3 .any (Rows.fnExactFastMbSpec.pre6 enc Try.prog Try.f3 Rows.fnExactFastMbRow.domain false) (Rows.fnExactFastMbSpec.post enc Try.prog Try.f3 false true false false) := by
  refine returnsInHanded_of_change (C := Try.checked) own started (by kernel_rfl) Try.func3
    (ChangeSpec.witness6 (enc := enc) (C := Try.checked) false ⟨#[], #[.agg #[.string ByteArray.empty, Value.int .i64 0, Value.int .i64 0, Value.int .i64 0], .slice none 0 0, .slice none 0 0], []⟩ 8 (by kernel_rfl) (by kernel_rfl) (by kernel_rfl) (by kernel_rfl)) ?_
  intro W base args ds gs before hval0 hW hcnd _
  have hval : ∀ (j : Nat) t v, Try.f3.params[j]? = some t → args[j]? = some v → Value.okWide Try.prog W .any base t v := hval0
  have hW' := hW
  obtain ⟨p, q, hA0, hV, rfl, hfz, hnd⟩ := hW
  have hA : DataW.TrodAll enc Try.prog W 0 (fun _ => true) true Try.f3.params.toList args.toList ds p := hA0
  rw [Try.params3] at hA hval
  obtain ⟨v0, vs0, d0, ds0, p0, q0, hargs, rfl, rfl, h0, r0⟩ := trodAll_cons hA
  obtain ⟨v1, vs1, d1, ds1, p1, q1, rfl, rfl, rfl, h1, r1⟩ := trodAll_cons r0
  obtain ⟨v2, vs2, d2, ds2, p2, q2, rfl, rfl, rfl, h2, r2⟩ := trodAll_cons r1
  obtain ⟨rfl, rfl, rfl⟩ := trodAll_nil r2
  obtain rfl : args = #[v0, v1, v2] := by cases args; simp_all
  obtain ⟨rfl, rfl⟩ := trodVars_none hV
  obtain ⟨cs0, rfl, _⟩ := okWide_struct Try.underlying23 (hval 0 23 v0 rfl rfl)
  obtain ⟨a1, len1, cap1, rfl⟩ := okWide_slice Try.underlying24 (hval 1 24 v1 rfl rfl)
  obtain ⟨a2, len2, cap2, rfl⟩ := okWide_slice Try.underlying24 (hval 2 24 v2 rfl rfl)
  have k0 := h0
  have lt0 : ∀ x ∈ p0, x.block < W.heap.size := by obtain ⟨m, hm⟩ := k0; exact DataW.trod_lt m _ _ _ hm
  have k1 := h1
  have lt1 : ∀ x ∈ p1, x.block < W.heap.size := by obtain ⟨m, hm⟩ := k1; exact DataW.trod_lt m _ _ _ hm
  have k2 := h2
  have lt2 : ∀ x ∈ p2, x.block < W.heap.size := by obtain ⟨m, hm⟩ := k2; exact DataW.trod_lt m _ _ _ hm
  obtain ⟨fuel0, hf0⟩ := h0
  obtain ⟨es0, rd0, hl0⟩ := Go.Abs.read (S := fun b => b < W.heap.size) (ι := fun _ => none) (fun _ h => h) fuel0 23 _ _ _ shape0 hf0
  obtain ⟨x0_0, x0_1, x0_2, x0_3, rfl, e0_0, e0_1, e0_2, e0_3⟩ := rd_cache rd0
  obtain ⟨fuel1, hf1⟩ := h1
  obtain ⟨es1, rd1, hl1⟩ := Go.Abs.read (S := fun b => b < W.heap.size) (ι := fun _ => none) (fun _ h => h) fuel1 24 _ _ _ shape1 hf1
  obtain ⟨x1_0, rfl, e1_0, e1_1⟩ := rd_entries rd1
  obtain ⟨fuel2, hf2⟩ := h2
  obtain ⟨es2, rd2, hl2⟩ := Go.Abs.read (S := fun b => b < W.heap.size) (ι := fun _ => none) (fun _ h => h) fuel2 24 _ _ _ shape2 hf2
  obtain ⟨x2_0, rfl, e2_0, e2_1⟩ := rd_entries rd2
  clear hA0 hval0
  refine (Go.Abs.FnC.walk (FnExactFastMb_c x0_0 x0_1 x0_2 x0_3 x1_0 x2_0 (by and_intros <;> first | assumption | omega)) (fun _ h => h) (Go.Abs.lrel_cons0 (Go.Abs.lrel_agg (hl0 [])) (Go.Abs.lrel_cons0 (hl1 []) (Go.Abs.lrel_cons0 (hl2 []) Go.Abs.LRel.nil)))).mono fun e W' ⟨he, bel⟩ => ?_
  subst he
  exact ⟨_, rfl, _, _, _, [], _, [], hW', trodAll_mk1 (shut_bool Try.underlying4 _), (trodAll_cons_mk (Below.trod laidOut (by kernel_rfl) (of_decide_eq_true (by kernel_rfl)) k0 bel lt0) (trodAll_cons_mk (Below.trod laidOut (by kernel_rfl) (of_decide_eq_true (by kernel_rfl)) k1 bel lt1) (trodAll_cons_mk (Below.trod laidOut (by kernel_rfl) (of_decide_eq_true (by kernel_rfl)) k2 bel lt2) trodAll_mk0))), rfl, bel.frame _, fun h => by cases h⟩

theorem over : Rows.fnExactFastMbRow.holds Try.pinned (OpenSpec.ofChange Rows.fnExactFastMbSpec) :=
  OpenClaim.holds_of_wide 3 Try.f3 rfl rfl rfl rfl rfl rfl rfl ⟨rfl, rfl, rfl, rfl, rfl⟩ rfl rfl rfl rfl rfl (by kernel_rfl) Try.func3 (by kernel_rfl)
    (of_decide_eq_true (by kernel_rfl)) (by unfold Func.isWrapper; first | (rw [if_pos (by decide +kernel)]; kernel_rfl) | (rw [if_neg (by decide +kernel)]; exact ⟨rfl, rfl⟩))
    (fun os started H enc _ => lifted os started H enc)

/-- The statement. -/
theorem proved : Rows.FnExactFastMbSaid := over
#print axioms proved
end Go.Proofs.Ytgkeopmihhcbiaa.fnExactFastMb
