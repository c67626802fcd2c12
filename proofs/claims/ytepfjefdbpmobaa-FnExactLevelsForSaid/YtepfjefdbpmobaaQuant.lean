/- Contracts: quantization, scanning. No condition. -/
import Derived.Test.YtepfjefdbpmobaaScan
namespace Go.Proofs.Ytepfjefdbpmobaa
open Go Go.Abs
set_option linter.unusedVariables false
set_option linter.unusedSimpArgs false
set_option maxRecDepth 100000
set_option maxHeartbeats 4000000
attribute [local irreducible] WpA WpL Rnd Blk Abs.Seq Abs.Fin Abs.FinG FnC FnG Only

def nearL (s v : Int) : Int := if v < 0 then -((-v * 2 + s) / (2 * s)) else (v * 2 + s) / (2 * s)
def qz (s v : Int) : Int := max (-16383) (min 16383 (nearL s (clampM v)))
def quantL (l : List Int) (q : Int) : List Int := if 0 < side l.length ∧ 0 < stepL q then l.map (qz (stepL q)) else []
theorem near_bd {s v : Int} (hs : 1 ≤ s ∧ s ≤ 500) (hv : -1000000 ≤ v ∧ v ≤ 1000000) : -2000000 ≤ nearL s v ∧ nearL s v ≤ 2000000 := by
  unfold nearL
  have h1 : ∀ a : Int, 0 ≤ a → a ≤ 2000500 → 0 ≤ a / (2 * s) ∧ a / (2 * s) ≤ a / 2 := by
    intro a h0 h1
    refine ⟨Int.ediv_nonneg h0 (by omega), ?_⟩
    rw [Int.mul_comm, ← Int.ediv_ediv_of_nonneg (by omega)]
    have := Int.ediv_le_self s (show 0 ≤ a by omega)
    exact Int.ediv_le_ediv (by decide) this
  split
  · have := h1 (-v * 2 + s) (by omega) (by omega); omega
  · have := h1 (v * 2 + s) (by omega) (by omega); omega
instance l11Near_s : Con 124 (∀ v s : Int, (1 ≤ s ∧ s ≤ 500) ∧ -1000000 ≤ v ∧ v ≤ 1000000 → Fn 124 [I v, I s] [] (I (nearL s v))) := ⟨fun v s h => by
  have hb := near_bd h.1 h.2
  unfold nearL at hb
  by_cases hv : v < 0
  · rw [if_pos hv] at hb
    refine FnC.of_body tabOk Try.func124 Try.ntmps124 rfl (by decide +kernel) (by simp) fun G => ?_
    refine go (r := ?_); and_intros <;> intros <;> try exact True.intro
    rw [nearL, if_pos hv]
  · rw [if_neg hv] at hb
    refine FnC.of_body tabOk Try.func124 Try.ntmps124 rfl (by decide +kernel) (by simp) fun G => ?_
    refine go (r := ?_); and_intros <;> intros <;> try exact True.intro
    rw [nearL, if_neg hv]⟩
theorem qz_snoc (f : Int → Int) (l : List Int) (k : Nat) (h : k < l.length) : (l.take k).map f ++ [f (l.getD k 0)] = (l.take (k + 1)).map f := by
  rw [take_snoc l k h, List.map_append]; rfl
theorem clamp_bd (v : Int) : -1000000 ≤ clampM v ∧ clampM v ≤ 1000000 := by unfold clampM; omega
instance Quantized_s : Con 88 (∀ (l : List Int) (q : Int), l.length ≤ 1099511627776 → Fn 88 [IL l, I q] [XI (quantL l q)] (.own 0 0 0 (quantL l q).length)) := ⟨fun l q hl => by
  have hsl := stepL_pos q
  refine FnC.of_body tabOk Try.func88 Try.ntmps88 rfl (by decide +kernel) (by simp) fun G => ?_
  by_cases h : 0 < side l.length ∧ 0 < stepL q
  · have hs := stepL_in q (hsl.1 h.2)
    refine go (r := ?_); and_intros <;> intros <;> try exact True.intro
    refine WpA.loop (fun k : Nat => ⟨[(0, IL l), (1, I q), (5, .own 0 0 0 k), (6, I k)], [XI ((l.take k).map (qz (stepL q)))]⟩) (fun k => k ≤ l.length) (fun k => l.length - k) 0 (by omega) (go (r := ?_)) (fun k hk => ?_)
    · simp
    have hlk : ((l.take k).map (qz (stepL q))).length = k := by simp; omega
    have hcl := clamp_bd (l.getD k 0)
    unfold clampM at hcl
    refine go (r := ?_); and_intros <;> intros <;> try exact True.intro
    · rw [← qz_snoc _ l k (by omega)]; simp only [qz, clampM, Int.min_comm]
    all_goals have e : k = l.length := by omega
    all_goals subst e
    · rw [quantL, if_pos h, List.length_map]
    · rw [quantL, if_pos h, List.take_length]
  · have e : quantL l q = [] := by rw [quantL, if_neg h]
    refine go (r := ?_); and_intros <;> intros <;> try exact True.intro
    refine WpA.loop (fun k : Nat => ⟨[(0, IL l), (1, I q), (5, .own 0 0 0 0), (6, I 0)], [XI []]⟩) (fun k => k ≤ 0) (fun k => l.length - k) 0 (by omega) (go (r := trivial)) (fun k hk => ?_)
    have hx : 0 < side l.length → ¬ 0 < stepL q := fun a b => h ⟨a, b⟩
    by_cases h1 : 0 < side l.length
    · have h2 := hx h1
      refine go (r := ?_); and_intros <;> intros <;> try exact True.intro
      all_goals first | (rw [e]; done) | (rw [e]; rfl)
    · refine go (r := ?_); and_intros <;> intros <;> try exact True.intro
      all_goals first | (rw [e]; done) | (rw [e]; rfl)⟩
instance Quantized_c : Con 95 (∀ (l : List Int) (q : Int), l.length ≤ 1099511627776 → Fn 95 [IL l, I q] [XI (quantL l q)] (.own 0 0 0 (quantL l q).length)) := ⟨fun l q hl => by
  have hsl := stepL_pos q
  have hsd := side_cases l.length
  have hsn : ¬ 0 < stepL q → stepL q = 0 := fun hh => by
    rw [stepL]; split
    · rename_i hq; exact absurd (hsl.2 hq) hh
    · rfl
  refine FnC.of_body tabOk Try.func95 Try.ntmps95 rfl (by decide +kernel) (by simp) fun G => ?_
  by_cases h : 0 < side l.length ∧ 0 < stepL q
  · have hs := stepL_in q (hsl.1 h.2)
    refine go (r := ?_); and_intros <;> intros <;> try exact True.intro
    refine WpA.loop (fun k : Nat => ⟨[(5, I (stepL q)), (6, .own 0 0 0 k), (21, IL l), (22, I l.length), (23, I k)], [XI ((l.take k).map (qz (stepL q)))]⟩) (fun k => k ≤ l.length) (fun k => l.length - k) 0 (by omega) (go (r := ?_)) (fun k hk => ?_)
    · simp
    have hlk : ((l.take k).map (qz (stepL q))).length = k := by simp; omega
    have hcl := clamp_bd (l.getD k 0)
    have hnb := near_bd hs hcl
    unfold clampM at hcl hnb
    have hq2 : 2 * max (max (-1000000) (min (l.getD k 0) 1000000)) (-max (-1000000) (min (l.getD k 0) 1000000)) + stepL q = (if max (-1000000) (min (l.getD k 0) 1000000) < 0 then -max (-1000000) (min (l.getD k 0) 1000000) * 2 + stepL q else max (-1000000) (min (l.getD k 0) 1000000) * 2 + stepL q) := by split <;> omega
    by_cases hneg : max (-1000000) (min (l.getD k 0) 1000000) < 0
    · rw [if_pos hneg] at hq2
      rw [nearL, if_pos hneg, ← hq2] at hnb
      refine go (r := ?_); and_intros <;> intros <;> try exact True.intro
      · rw [← qz_snoc _ l k (by omega)]; simp only [qz, nearL, clampM, if_pos hneg, ← hq2, Int.min_comm]
      all_goals have e : k = l.length := by omega
      all_goals subst e
      · rw [quantL, if_pos h, List.length_map]
      · rw [quantL, if_pos h, List.take_length]
    · rw [if_neg hneg] at hq2
      rw [nearL, if_neg hneg, ← hq2] at hnb
      refine go (r := ?_); and_intros <;> intros <;> try exact True.intro
      · rw [← qz_snoc _ l k (by omega)]; simp only [qz, nearL, clampM, if_neg hneg, ← hq2, Int.min_comm]
      all_goals have e : k = l.length := by omega
      all_goals subst e
      · rw [quantL, if_pos h, List.length_map]
      · rw [quantL, if_pos h, List.take_length]
  · have e : quantL l q = [] := by rw [quantL, if_neg h]
    by_cases h1 : 0 < side l.length
    · have h2 : stepL q = 0 := hsn (fun hh => h ⟨h1, hh⟩)
      refine go (r := ?_); and_intros <;> intros <;> try exact True.intro
      all_goals first | (rw [e]; done) | (rw [e]; rfl)
    · have h2 : side l.length = 0 := by omega
      refine go (r := ?_); and_intros <;> intros <;> try exact True.intro
      all_goals first | (rw [e]; done) | (rw [e]; rfl)⟩
end Go.Proofs.Ytepfjefdbpmobaa
