/- Contracts of small functions. No condition. -/
import Derived.Test.YtepfjefdbpmobaaGo
namespace Go.Proofs.Ytepfjefdbpmobaa
open Go Go.Abs
set_option linter.unusedVariables false
set_option linter.unusedSimpArgs false
set_option maxRecDepth 100000
attribute [local irreducible] WpA WpL Rnd Blk Abs.Seq Abs.Fin FnC Only

instance within_c : Con 53 (∀ n lo hi : Int, Fn 53 [I n, I lo, I hi] [] (B (decide (lo ≤ n ∧ n ≤ hi)))) := ⟨fun n lo hi => by
  refine FnC.of_body tabOk Try.func53 Try.ntmps53 rfl (by decide +kernel) (by simp) fun G => ?_
  refine go (r := ?_); and_intros <;> intros
  all_goals first | exact True.intro | (simp_all; done) | (simp; omega)⟩

instance l1In_c : Con 105 (∀ n lo hi : Int, Fn 105 [I n, I lo, I hi] [] (B (decide (lo ≤ n ∧ n ≤ hi)))) := ⟨fun n lo hi => by
  refine FnC.of_body tabOk Try.func105 Try.ntmps105 rfl (by decide +kernel) (by simp) fun G => ?_
  refine go (r := ?_); and_intros <;> intros
  all_goals first | exact True.intro | (simp_all; done) | (simp; omega)⟩

instance limited_c : Con 93 (∀ n lo hi : Int, Fn 93 [I n, I lo, I hi] [] (I (max lo (min n hi)))) := ⟨fun n lo hi => by
  refine FnC.of_body tabOk Try.func93 Try.ntmps93 rfl (by decide +kernel) (by simp) fun G => ?_
  exact go (r := trivial)⟩
instance l20Abs_c : Con 118 (∀ n : Int, -9223372036854775807 ≤ n ∧ n ≤ 9223372036854775807 → Fn 118 [I n] [] (I (max n (-n)))) := ⟨fun n h => by
  refine FnC.of_body tabOk Try.func118 Try.ntmps118 rfl (by decide +kernel) (by simp) fun G => ?_
  exact go (r := trivial)⟩

def clampM (v : Int) : Int := max (-1000000) (min v 1000000)
def costs (xs : List Int) : Int := (xs.map fun v => max (clampM v) (- clampM v)).sum
theorem costs_bd (xs : List Int) : 0 ≤ costs xs ∧ costs xs ≤ 1000000 * xs.length := by
  induction xs with
  | nil => simp [costs]
  | cons x xs ih => simp only [costs, List.map_cons, List.sum_cons, List.length_cons, clampM] at ih ⊢; omega
theorem costs_snoc (xs : List Int) (k : Nat) (h : k < xs.length) : costs (xs.take (k + 1)) = costs (xs.take k) + max (clampM (xs.getD k 0)) (- clampM (xs.getD k 0)) := by
  unfold costs; rw [List.take_succ_eq_append_getElem h, List.map_append, List.sum_append]; simp [List.getElem?_eq_getElem h]

instance CostOf_c : Con 82 (∀ xs : List Int, xs.length ≤ 1099511627776 → Fn 82 [IL xs] [] (I (costs xs))) := ⟨fun xs hl => by
  refine FnC.of_body tabOk Try.func82 Try.ntmps82 rfl (by decide +kernel) (by simp) fun G => ?_
  refine go (r := ?_); and_intros <;> intros <;> try exact True.intro
  refine WpA.loop (fun k : Nat => ⟨[(3, I (costs (xs.take k))), (6, IL xs), (7, I xs.length), (8, I k)], []⟩) (fun k => k ≤ xs.length) (fun k => xs.length - k) 0 (by omega) (go (r := trivial)) (fun k hk => ?_)
  have hb := costs_bd (xs.take k)
  have hlt := List.length_take_le k xs
  refine go (r := ?_); and_intros <;> intros <;> try exact True.intro
  · rw [costs_snoc _ _ (by omega)]; simp [clampM]
  · have : k = xs.length := by omega
    subst this; simp⟩

instance CostOf_s : Con 77 (∀ xs : List Int, xs.length ≤ 1099511627776 → Fn 77 [IL xs] [] (I (costs xs))) := ⟨fun xs hl => by
  refine FnC.of_body tabOk Try.func77 Try.ntmps77 rfl (by decide +kernel) (by simp) fun G => ?_
  refine go (r := ?_); and_intros <;> intros <;> try exact True.intro
  refine WpA.loop (fun k : Nat => ⟨[(0, IL xs), (3, I (costs (xs.take k))), (4, I k)], []⟩) (fun k => k ≤ xs.length) (fun k => xs.length - k) 0 (by omega) (go (r := trivial)) (fun k hk => ?_)
  have hb := costs_bd (xs.take k)
  have hlt := List.length_take_le k xs
  refine go (r := ?_); and_intros <;> intros <;> try exact True.intro
  · rw [costs_snoc _ _ (by omega)]; simp [clampM, Int.min_comm]
  · have : k = xs.length := by omega
    subst this; simp⟩

theorem fill_step {α : Type} (z : α) (xs : List α) (k : Nat) (h : k < xs.length) : (xs.take k ++ List.replicate (xs.length - k) z).set k (xs.getD k z) = xs.take (k + 1) ++ List.replicate (xs.length - (k + 1)) z := by
  have e := List.take_succ_eq_append_getElem h
  rw [List.set_append_right _ _ (by simp; omega), e]
  obtain ⟨m, hm⟩ : ∃ m, xs.length - k = m + 1 := ⟨xs.length - k - 1, by omega⟩
  rw [hm, show xs.length - (k + 1) = m from by omega, List.replicate_succ]
  simp only [List.length_take, show min k xs.length = k from by omega, Nat.sub_self, List.set_cons_zero, List.getD_eq_getElem?_getD, List.getElem?_eq_getElem h, Option.getD_some, List.append_assoc, List.cons_append, List.nil_append]

instance toIntS_c : Con 37 (∀ xs : List Int, xs.length ≤ 1099511627776 → Fn 37 [IL xs] [⟨ints xs, 0, 1, some 3⟩] (.own 0 0 0 xs.length)) := ⟨fun xs hl => by
  refine FnC.of_body tabOk Try.func37 Try.ntmps37 rfl (by decide +kernel) (by simp) fun G => ?_
  refine go (r := ?_); and_intros <;> intros <;> try exact True.intro
  refine WpA.loop (fun k : Nat => ⟨[(0, IL xs), (3, .own 0 0 0 xs.length), (4, I k)], [⟨ints (xs.take k ++ List.replicate (xs.length - k) 0), 0, 1, some 3⟩]⟩) (fun k => k ≤ xs.length) (fun k => xs.length - k) 0 (by omega) (go (r := ?_)) (fun k hk => ?_)
  · simp
  refine go (r := ?_); and_intros <;> intros <;> try exact True.intro
  · rw [← fill_step _ _ _ (by omega)]; simp
  · have : k = xs.length := by omega
    subst this; simp⟩

instance eqIntS_c : Con 31 (∀ xs ys : List Int, xs.length ≤ 1099511627776 ∧ ys.length ≤ 1099511627776 → Fn 31 [IL xs, IL ys] [] (B (decide (xs = ys)))) := ⟨fun xs ys hl => by
  refine FnC.of_body tabOk Try.func31 Try.ntmps31 rfl (by decide +kernel) (by simp) fun G => ?_
  refine go (r := ?_); and_intros <;> intros <;> try exact True.intro
  · simp; intro h; subst h; contradiction
  · have hll : xs.length = ys.length := by omega
    refine WpA.loop (fun k : Nat => ⟨[(0, IL xs), (1, IL ys), (5, I k)], []⟩) (fun k => k ≤ xs.length ∧ ∀ j < k, xs.getD j 0 = ys.getD j 0) (fun k => xs.length - k) 0 (by simp) (go (r := trivial)) (fun k hk => ?_)
    refine go (r := ?_); and_intros <;> intros <;> try exact True.intro
    · simp; rintro rfl; contradiction
    · rename_i j hj; by_cases h : j = k
      · subst h; simp_all
      · exact hk.2 j (by omega)
    · have : xs = ys := by
        apply List.ext_getElem hll
        intro i h1 h2
        have := hk.2 i (by omega)
        simpa [h1, h2] using this
      simp [this]⟩
end Go.Proofs.Ytepfjefdbpmobaa
