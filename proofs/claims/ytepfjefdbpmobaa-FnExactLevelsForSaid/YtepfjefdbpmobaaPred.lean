/- Contracts: what lies around a square, the predictions, residuals. No condition. -/
import Derived.Test.YtepfjefdbpmobaaCode
namespace Go.Proofs.Ytepfjefdbpmobaa
open Go Go.Abs
set_option linter.unusedVariables false
set_option linter.unusedSimpArgs false
set_option maxRecDepth 100000
set_option maxHeartbeats 4000000
attribute [local irreducible] WpA WpL Rnd Blk Abs.Seq Abs.Fin Abs.FinG FnC FnG Only

/-! Sides. -/
def side (k : Nat) : Int := if k = 16 then 4 else if k = 64 then 8 else 0
theorem side_pos (k : Nat) : 0 < side k ↔ k = 16 ∨ k = 64 := by unfold side; split <;> (try split) <;> omega
theorem side_cases (k : Nat) : (k = 16 ∧ side k = 4) ∨ (k = 64 ∧ side k = 8) ∨ (k ≠ 16 ∧ k ≠ 64 ∧ side k = 0) := by unfold side; split <;> (try split) <;> omega
instance SizeOk_s : Con 117 (∀ n : Int, Fn 117 [I n] [] (B (decide (n = 4 ∨ n = 8)))) := ⟨fun n => by
  refine FnC.of_body tabOk Try.func117 Try.ntmps117 rfl (by decide +kernel) (by simp) fun G => ?_
  refine go (r := ?_); and_intros <;> intros <;> try exact True.intro
  all_goals simp_all⟩
instance SizeOk_c : Con 121 (∀ n : Int, Fn 121 [I n] [] (B (decide (n = 4 ∨ n = 8)))) := ⟨fun n => by
  refine FnC.of_body tabOk Try.func121 Try.ntmps121 rfl (by decide +kernel) (by simp) fun G => ?_
  refine go (r := ?_); and_intros <;> intros <;> try exact True.intro
  all_goals simp_all⟩
instance l9Side_s : Con 85 (∀ l : List Int, l.length ≤ 9223372036854775807 → Fn 85 [IL l] [] (I (side l.length))) := ⟨fun l hl => by
  refine FnC.of_body tabOk Try.func85 Try.ntmps85 rfl (by decide +kernel) (by simp) fun G => ?_
  have h := side_cases l.length
  refine go (r := ?_); and_intros <;> intros <;> try exact True.intro⟩
instance sizeOf_c : Con 91 (∀ k : Nat, Fn 91 [I k] [] (I (side k))) := ⟨fun k => by
  refine FnC.of_body tabOk Try.func91 Try.ntmps91 rfl (by decide +kernel) (by simp) fun G => ?_
  have h := side_cases k
  refine go (r := ?_); and_intros <;> intros <;> try exact True.intro⟩

/-! Sums. -/
def psum (l : List Int) (k : Nat) : Int := (l.take k).sum
theorem psum_zero (l : List Int) : psum l 0 = 0 := by simp [psum]
theorem psum_succ (l : List Int) (k : Nat) (h : k < l.length) : psum l (k + 1) = psum l k + l.getD k 0 := by
  unfold psum; rw [List.take_succ_eq_append_getElem h, List.sum_append]; simp [h]
theorem psum_all (l : List Int) : psum l l.length = l.sum := by simp [psum]
theorem psum_bd {l : List Int} (h : In l 0 255) (k : Nat) (hk : k ≤ l.length) : 0 ≤ psum l k ∧ psum l k ≤ 255 * k := by
  induction k with
  | zero => simp [psum]
  | succ k ih =>
    have h1 := in_get h (k := k) (by omega)
    have h2 := ih (by omega)
    rw [psum_succ l k (by omega)]; omega
theorem in_take {l : List Int} {lo hi : Int} (h : In l lo hi) (k : Nat) : In (l.take k) lo hi := by unfold In at *; intro v hv; exact h v (List.mem_of_mem_take hv)
instance l14Sum_s : Con 176 (∀ l : List Int, l.length ≤ 1099511627776 ∧ In l 0 255 → Fn 176 [IL l] [] (I l.sum)) := ⟨fun l hl => by
  refine FnC.of_body tabOk Try.func176 Try.ntmps176 rfl (by decide +kernel) (by simp) fun G => ?_
  refine go (r := ?_); and_intros <;> intros <;> try exact True.intro
  refine WpA.loop (fun k : Nat => ⟨[(0, IL l), (3, I (psum l k)), (4, I k)], []⟩) (fun k => k ≤ l.length) (fun k => l.length - k) 0 (by omega) (go (r := ?_)) (fun k hk => ?_)
  · simp [psum_zero]
  have hb := psum_bd hl.2 k hk
  have hg := fun h => in_get hl.2 (k := k) h
  have hs := fun h => psum_succ l k h
  refine go (r := ?_); and_intros <;> intros <;> try exact True.intro
  · have e : k = l.length := by omega
    subst e; rw [psum_all]⟩
instance Clone_c : Con 92 (∀ l : List Int, l.length ≤ 1099511627776 → Fn 92 [IL l] [XI l] (.own 0 0 0 l.length)) := ⟨fun l hl => by
  refine FnC.of_body tabOk Try.func92 Try.ntmps92 rfl (by decide +kernel) (by simp) fun G => ?_
  refine go (r := ?_); and_intros <;> intros <;> try exact True.intro
  all_goals (have e : l = [] := List.eq_nil_of_length_eq_zero (by omega)); subst e; rfl⟩
/-- The first i and the last i turned. -/
def revp (l : List Int) (i : Nat) : List Int := (List.range l.length).map fun k => if k < i ∨ l.length - 1 - k < i then l.getD (l.length - 1 - k) 0 else l.getD k 0
theorem revp_len (l : List Int) (i : Nat) : (revp l i).length = l.length := by simp [revp]
theorem revp_zero (l : List Int) : revp l 0 = l := by
  apply eq_all 0 (by rw [revp_len])
  intro j hj
  rw [revp_len] at hj
  simp [revp, hj]
theorem revp_get (l : List Int) (i j : Nat) (hj : j < l.length) : (revp l i).getD j 0 = if j < i ∨ l.length - 1 - j < i then l.getD (l.length - 1 - j) 0 else l.getD j 0 := by
  simp only [revp, List.getD_eq_getElem?_getD, List.getElem?_map, List.getElem?_range hj, Option.map_some, Option.getD_some]
theorem rev_get (l : List Int) (j : Nat) (hj : j < l.length) : l.reverse.getD j 0 = l.getD (l.length - 1 - j) 0 := by
  simp only [List.getD_eq_getElem?_getD, List.getElem?_reverse hj]
theorem revp_end (l : List Int) (i : Nat) (h : l.length ≤ 2 * i + 1) : revp l i = l.reverse := by
  apply eq_all 0 (by rw [revp_len, List.length_reverse])
  intro j hj
  rw [revp_len] at hj
  rw [revp_get l i j hj, rev_get l j hj]
  split
  · rfl
  · have : l.length - 1 - j = j := by omega
    rw [this]
theorem revp_step (l : List Int) (i : Nat) (h : 2 * i + 1 < l.length) : ((revp l i).set i ((revp l i).getD (l.length - 1 - i) 0)).set (l.length - 1 - i) ((revp l i).getD i 0) = revp l (i + 1) := by
  have e1 : (revp l i).getD (l.length - 1 - i) 0 = l.getD (l.length - 1 - i) 0 := by
    rw [revp_get l i _ (by omega), if_neg (by omega)]
  have e2 : (revp l i).getD i 0 = l.getD i 0 := by
    rw [revp_get l i _ (by omega), if_neg (by omega)]
  rw [e1, e2]
  apply eq_all 0 (by simp [revp_len])
  intro j hj
  simp only [List.length_set, revp_len] at hj
  rw [revp_get l (i + 1) j hj, List.getD_eq_getElem?_getD, List.getElem?_set, List.getElem?_set]
  simp only [List.length_set, revp_len]
  by_cases c1 : l.length - 1 - i = j
  · rw [if_pos c1, if_pos (by omega), if_pos (by omega), Option.getD_some]; congr 1; omega
  · rw [if_neg c1]
    by_cases c2 : i = j
    · rw [if_pos c2, if_pos (by omega), if_pos (by omega), Option.getD_some, c2]
    · rw [if_neg c2, ← List.getD_eq_getElem?_getD, revp_get l i j hj]
      by_cases c3 : j < i ∨ l.length - 1 - j < i
      · rw [if_pos c3, if_pos (by omega)]
      · rw [if_neg c3, if_neg (by omega)]
instance Reverse_c : ConG 177 (∀ l : List Int, 1 ≤ l.length ∧ l.length ≤ 1099511627776 → Gn 177 [.own 0 0 0 l.length] [XI l] [XI l.reverse] [] (.tup [])) := ⟨fun l hl => by
  refine FnG.of_bodyF tabOk Try.func177 Try.ntmps177 rfl (by decide +kernel) (by simp) rfl rfl fun G => ?_
  refine go (r := ?_); and_intros <;> intros <;> try exact True.intro
  refine WpA.loop (fun i : Nat => ⟨[(0, .own 0 0 0 l.length), (2, I i), (3, I ((l.length : Int) - 1 - i))], [XI (revp l i)]⟩) (fun i => 2 * i ≤ l.length) (fun i => l.length - i) 0 (by omega) (go (r := ?_)) (fun i hi => ?_)
  · simp [revp_zero]
  have hl2 := revp_len l i
  refine go (r := ?_); and_intros <;> intros <;> try exact True.intro
  · have e1 : ((l.length : Int) - 1 - (i : Int)).toNat = l.length - 1 - i := by omega
    rw [e1, Int.toNat_natCast]; exact revp_step l i (by omega)
  · exact revp_end l i (by omega)⟩
end Go.Proofs.Ytepfjefdbpmobaa
