/- What is proved: for every input the law FnExactPackReel answers true and its arguments read behind the call as before. Conditions: none. -/
import Derived.Test.YtlioigidpeofnaaRows
import Derived.Test.YtlioigidpeofnaaPackLaw
import Derived.Test.YtlioigidpeofnaaRead
import Derived.WalkKit
import Derived.ProofKit
import Derived.OpenShut
import Derived.ShutString
import Derived.ChangeOld
import Derived.Below
namespace Go.Proofs.Ytlioigidpeofnaa.fnExactPackReel
open Go.ChangeShapes Go.WideShapes Go.ChangeAt Go.RowKit
open Go.ChangeMaps (open_string shut_string)
set_option linter.unusedVariables false

theorem own : ownKnob Try.prog.godebug = none := by kernel_rfl
theorem laidOut : laidOutB Try.prog = true := by kernel_rfl

theorem shape : Go.Abs.SpOk Try.prog 30 (.slice 1 .str) := .slice Try.underlying30 (by kernel_rfl) (by decide) (.str Try.underlying9)
/-! The walk. -/
theorem walk (xs : List (List UInt8)) (v : Value) (w : World) (h1 : xs.length ≤ 9223372036854775807) (h2 : ∀ x ∈ xs, x.length ≤ 9223372036854775807)
    (hl : Go.Abs.LRel (fun b => b < w.heap.size) w (fun _ => none) [] [.imm 1 xs.length (Go.Abs.strs xs)] [v] []) :
    Calls Try.prog 6 #[v] w fun e w' => e = .returned (.bool true) ∧ Below w.heap.size w w' :=
  Go.Abs.FnC.walk (FnExactPackReel_c xs h1 h2) (fun _ h => h) hl

/-! ### THE ROW's STEP: WRITTEN OUT: LEAVE IT -/
set_option maxRecDepth 100000 in
theorem lifted (os : Os) (started : os.Started) (H : Type) (enc : TypeId × Value → H) :
    ReturnsInHanded {} Try.checked os 6 .any (Rows.fnExactPackReelSpec.pre6 enc Try.prog Try.f6 Rows.fnExactPackReelRow.domain false) (Rows.fnExactPackReelSpec.post enc Try.prog Try.f6 false true false false) := by
  refine returnsInHanded_of_change (C := Try.checked) own started (by kernel_rfl) Try.func6
    (ChangeSpec.witness6 (enc := enc) (C := Try.checked) false ⟨#[], #[.slice none 0 0], []⟩ 8 (by kernel_rfl) (by kernel_rfl) (by kernel_rfl) (by kernel_rfl)) ?_
  intro W base args ds gs before hval0 hW hcnd _
  have hval : ∀ (j : Nat) t v, Try.f6.params[j]? = some t → args[j]? = some v → Value.okWide Try.prog W .any base t v := hval0
  have hW' := hW
  obtain ⟨p, q, hA0, hV, rfl, hfz, hnd⟩ := hW
  have hA : DataW.TrodAll enc Try.prog W 0 (fun _ => true) true Try.f6.params.toList args.toList ds p := hA0
  rw [Try.params6] at hA hval
  obtain ⟨v0, vs0, d0, ds0, p0, q0, hargs, rfl, rfl, h0, r0⟩ := trodAll_cons hA
  obtain ⟨rfl, rfl, rfl⟩ := trodAll_nil r0
  obtain rfl : args = #[v0] := by cases args; simp_all
  obtain ⟨rfl, rfl⟩ := trodVars_none hV
  obtain ⟨a0, len0, cap0, rfl⟩ := okWide_slice Try.underlying30 (hval 0 30 v0 rfl rfl)
  have k0 := h0
  have lt0 : ∀ x ∈ p0, x.block < W.heap.size := by obtain ⟨m, hm⟩ := k0; exact DataW.trod_lt m _ _ _ hm
  obtain ⟨xs, h1, h2, hl⟩ : ∃ xs : List (List UInt8), xs.length ≤ 9223372036854775807 ∧ (∀ x ∈ xs, x.length ≤ 9223372036854775807) ∧
      Go.Abs.LRel (fun b => b < W.heap.size) W (fun _ => none) [] [.imm 1 xs.length (Go.Abs.strs xs)] [.slice a0 len0 cap0] [] := by
    obtain ⟨fuel, hf⟩ := h0
    obtain ⟨ds, rd, hl⟩ := Go.Abs.read (S := fun b => b < W.heap.size) (ι := fun _ => none) (fun _ h => h) fuel 30 _ _ _ shape hf
    obtain ⟨xs, rfl, h1, h2⟩ := Go.Abs.rd_strs rd
    exact ⟨xs, h1, h2, hl []⟩
  clear hA0 hval0
  refine (walk xs _ W h1 h2 hl).mono fun e W' ⟨he, bel⟩ => ?_
  subst he
  exact ⟨_, rfl, _, _, _, [], _, [], hW', trodAll_mk1 (shut_bool Try.underlying4 _), (trodAll_cons_mk (Below.trod laidOut (by kernel_rfl) (of_decide_eq_true (by kernel_rfl)) k0 bel lt0) trodAll_mk0), rfl, bel.frame _, fun h => by cases h⟩

theorem over : Rows.fnExactPackReelRow.holds Try.pinned (OpenSpec.ofChange Rows.fnExactPackReelSpec) :=
  OpenClaim.holds_of_wide 6 Try.f6 rfl rfl rfl rfl rfl rfl rfl ⟨rfl, rfl, rfl, rfl, rfl⟩ rfl rfl rfl rfl rfl (by kernel_rfl) Try.func6 (by kernel_rfl)
    (of_decide_eq_true (by kernel_rfl)) (by unfold Func.isWrapper; first | (rw [if_pos (by decide +kernel)]; kernel_rfl) | (rw [if_neg (by decide +kernel)]; exact ⟨rfl, rfl⟩))
    (fun os started H enc _ => lifted os started H enc)

/-- ████ THE STATEMENT ████ -/
theorem proved : Rows.FnExactPackReelSaid := over
#print axioms proved
end Go.Proofs.Ytlioigidpeofnaa.fnExactPackReel
