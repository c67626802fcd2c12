/- A loop rolled out round by round. No condition. -/
import Derived.LoopN
import Derived.Test.YtepfjefdbpmobaaAbsZ
namespace Go.Abs
open Go
set_option linter.unusedVariables false
set_option linter.unusedSimpArgs false

def RollN (P : Program) (n m : Nat) (G : Ctx) (c : Code) (Q : Exit → St → Prop) : Nat → St → Prop
  | 0, _ => False
  | k + 1, σ => WpA P n m G c σ (Seq (RollN P n m G c Q k) Q)
section
variable {P : Program} {n m : Nat} {G : Ctx} {c : Code} {Q : Exit → St → Prop} {σ : St}
theorem RollN.s {k : Nat} (h : WpA P n m G c σ (Seq (RollN P n m G c Q k) Q)) : RollN P n m G c Q (k + 1) σ := h
theorem WpA.roll (k : Nat) (h : RollN P n m G c Q k σ) : WpA P n m G (.loop c) σ Q := by
  have key : ∀ k σ a w, RollN P n m G c Q k σ → Rel n m G σ a w → Code.rounds P c (fun e a' w' => ∃ σ', Q e σ' ∧ Rel n m G σ' a' w') k a w := by
    intro k
    induction k with
    | zero => intro σ a w h _; exact h.elim
    | succ k ih =>
      intro σ a w h hr
      have h1 : c.wp P (fun e a' w' => ∃ σ', Seq (RollN P n m G c Q k) Q e σ' ∧ Rel n m G σ' a' w') a w := h a w hr
      exact wp_mono h1 fun e a' w' ⟨σ', hQ, hR⟩ => by
        cases e with
        | normal => exact ih σ' a' w' hQ hR
        | _ => exact ⟨σ', hQ, hR⟩
  exact fun a w hr => wp_loop_rounds k (key k σ a w h hr)
end
end Go.Abs
