/- Contracts: what lies around a square, the predictions out of it. No condition. -/
import Derived.Test.YtepfjefdbpmobaaPred
namespace Go.Proofs.Ytepfjefdbpmobaa
open Go Go.Abs
set_option linter.unusedVariables false
set_option linter.unusedSimpArgs false
set_option maxRecDepth 100000
set_option maxHeartbeats 4000000
attribute [local irreducible] WpA WpL Rnd Blk Abs.Seq Abs.Fin Abs.FinG FnC FnG Only

abbrev NbA (t l : List Int) (c : Int) (a b : Bool) : AV := .agg [IL t, IL l, I c, B a, B b]
abbrev NbO (t l : List Int) (c : Int) (a b : Bool) : AObj := ⟨[IL t, IL l, I c, B a, B b], 0, 0, none⟩
abbrev NbOk (t l : List Int) (c n : Int) : Prop := (n = 4 ∨ n = 8) ∧ (t.length : Int) = 2 * n ∧ (l.length : Int) = n ∧ In t 0 255 ∧ In l 0 255 ∧ 0 ≤ c ∧ c ≤ 255
instance NbOk_s : Con 75 (∀ (t l : List Int) (c : Int) (a b : Bool) (n : Int), t.length ≤ 1099511627776 ∧ l.length ≤ 1099511627776 → Fn 75 [NbA t l c a b, I n] [] (B (decide (NbOk t l c n)))) := ⟨fun t l c a b n hl => by
  refine FnC.of_body tabOk Try.func75 Try.ntmps75 rfl (by decide +kernel) (by simp) fun G => ?_
  refine go (r := ?_); and_intros <;> intros <;> try exact True.intro
  all_goals simp_all⟩
instance NbOk_c : Con 80 (∀ (t l : List Int) (c : Int) (a b : Bool) (n : Int), t.length ≤ 1099511627776 ∧ l.length ≤ 1099511627776 → Fn 80 [NbA t l c a b, I n] [] (B (decide (NbOk t l c n)))) := ⟨fun t l c a b n hl => by
  refine FnC.of_body tabOk Try.func80 Try.ntmps80 rfl (by decide +kernel) (by simp) fun G => ?_
  refine go (r := ?_); and_intros <;> intros <;> try exact True.intro
  all_goals simp_all⟩
def bordL (t l : List Int) (c n : Int) : List Int := if NbOk t l c n then l.reverse ++ [c] ++ t.take n.toNat else []
theorem bord_len {t l : List Int} {c n : Int} (h : NbOk t l c n) : ((bordL t l c n).length : Int) = 2 * n + 1 := by
  rw [bordL, if_pos h]; obtain ⟨h1, h2, h3, _⟩ := h; simp; omega
instance Border_s : Con 152 (∀ (t l : List Int) (c : Int) (a b : Bool) (n : Int), t.length ≤ 1099511627776 ∧ l.length ≤ 1099511627776 → Fn 152 [NbA t l c a b, I n] [XI (bordL t l c n)] (.own 0 0 0 (bordL t l c n).length)) := ⟨fun t l c a b n hl => by
  refine FnC.of_body tabOk Try.func152 Try.ntmps152 rfl (by decide +kernel) (by simp) fun G => ?_
  refine go (r := ?_); and_intros <;> intros <;> try exact True.intro
  · rw [bordL, if_neg (by assumption)]; rfl
  · rw [bordL, if_neg (by assumption)]
  have h : NbOk t l c n := ‹_›
  obtain ⟨h1, h2, h3, h4, h5, h6⟩ := id h
  have htk : (t.take n.toNat).length = n.toNat := by simp; omega
  have hbl := bord_len h
  refine WpA.loop (fun k : Nat => ⟨[(1, I n), (2, .ptr 0 0 0), (5, .own 1 0 0 k), (6, I (n - 1 - k))], [NbO t l c a b, XI (l.reverse.take k)]⟩) (fun k => k ≤ l.length) (fun k => l.length - k) 0 (by omega) (go (r := ?_)) (fun k hk => ?_)
  · simp
  have hlk : (l.reverse.take k).length = k := by simp; omega
  refine go (r := ?_); and_intros <;> intros <;> try exact True.intro
  · rw [take_snoc _ k (by simp; omega)]; congr 2; rw [show (default : Int) = 0 from rfl, rev_get l k (by omega)]; congr 1; omega
  all_goals have e : k = l.length := by omega
  all_goals subst e
  rw [List.take_of_length_le (by simp), bordL, if_pos h]⟩
instance Border_c : Con 158 (∀ (t l : List Int) (c : Int) (a b : Bool) (n : Int), t.length ≤ 1099511627776 ∧ l.length ≤ 1099511627776 → Fn 158 [NbA t l c a b, I n] [XI (bordL t l c n)] (.own 0 0 0 (bordL t l c n).length)) := ⟨fun t l c a b n hl => by
  by_cases h : NbOk t l c n
  · have hbl := bord_len h
    obtain ⟨h1, h2, h3, h4, h5, h6⟩ := id h
    have htk : (t.take n.toNat).length = n.toNat := by simp; omega
    have hlr : l.reverse.length = l.length := List.length_reverse
    refine FnC.of_body tabOk Try.func158 Try.ntmps158 rfl (by decide +kernel) (by simp) fun G => ?_
    refine go (r := ?_); and_intros <;> intros <;> try exact True.intro
    all_goals first | (exact absurd h ‹¬ NbOk t l c n›) | skip
    rw [bordL, if_pos h]
  · refine FnC.of_body tabOk Try.func158 Try.ntmps158 rfl (by decide +kernel) (by simp) fun G => ?_
    refine go (r := ?_); and_intros <;> intros <;> try exact True.intro
    all_goals first | (exact absurd ‹NbOk t l c n› h) | skip
    · rw [bordL, if_neg h]; rfl
    · rw [bordL, if_neg h]⟩
def meanL (t l : List Int) (c : Int) (a b : Bool) (n : Int) : Int := if NbOk t l c n then (match a, b with
  | true, true => ((t.take n.toNat).sum + l.sum + n) / (2 * n)
  | true, false => ((t.take n.toNat).sum + n / 2) / n
  | false, true => (l.sum + n / 2) / n
  | false, false => 128) else 0
theorem sum_bd255 {l : List Int} (h : In l 0 255) : 0 ≤ l.sum ∧ l.sum ≤ 255 * l.length := by
  have := psum_bd h l.length (Nat.le_refl _)
  rw [psum_all] at this; exact this
theorem mean_in {t l : List Int} {c n : Int} (a b : Bool) (h : NbOk t l c n) : 0 ≤ meanL t l c a b n ∧ meanL t l c a b n ≤ 255 := by
  unfold meanL
  rw [if_pos h]
  obtain ⟨h1, h2, h3, h4, h5, h6⟩ := h
  have htk : (t.take n.toNat).length = n.toNat := by simp; omega
  have s1 := sum_bd255 (in_take h4 n.toNat)
  have s2 := sum_bd255 h5
  rw [htk] at s1
  rcases h1 with rfl | rfl <;> cases a <;> cases b <;> simp only <;> omega
instance Mean_s : Con 153 (∀ (t l : List Int) (c : Int) (a b : Bool) (n : Int), t.length ≤ 1099511627776 ∧ l.length ≤ 1099511627776 → Fn 153 [NbA t l c a b, I n] [] (I (meanL t l c a b n))) := ⟨fun t l c a b n hl => by
  by_cases h : NbOk t l c n
  · obtain ⟨h1, h2, h3, h4, h5, h6⟩ := id h
    have htk : (t.take n.toNat).length = n.toNat := by simp; omega
    have s0 := in_take h4 n.toNat
    have s1 := sum_bd255 s0
    have s2 := sum_bd255 h5
    rw [htk] at s1
    cases a <;> cases b
    all_goals refine FnC.of_body tabOk Try.func153 Try.ntmps153 rfl (by decide +kernel) (by simp) fun G => ?_
    · refine go (r := ?_); and_intros <;> intros <;> try exact True.intro
      all_goals first | (exact absurd h ‹¬ NbOk t l c n›) | (unfold meanL; rw [if_pos h]; done) | (unfold meanL; rw [if_pos h]; rfl)
    · refine go (r := ?_); and_intros <;> intros <;> try exact True.intro
      all_goals first | (exact absurd h ‹¬ NbOk t l c n›) | (unfold meanL; rw [if_pos h]; done) | (unfold meanL; rw [if_pos h]; rfl)
    · refine go (r := ?_); and_intros <;> intros <;> try exact True.intro
      all_goals first | (exact absurd h ‹¬ NbOk t l c n›) | (unfold meanL; rw [if_pos h]; done) | (unfold meanL; rw [if_pos h]; rfl)
    · refine go (r := ?_); and_intros <;> intros <;> try exact True.intro
      all_goals first | (exact absurd h ‹¬ NbOk t l c n›) | (unfold meanL; rw [if_pos h]; done) | (unfold meanL; rw [if_pos h]; rfl)
  · refine FnC.of_body tabOk Try.func153 Try.ntmps153 rfl (by decide +kernel) (by simp) fun G => ?_
    refine go (r := ?_); and_intros <;> intros <;> try exact True.intro
    all_goals first | (exact absurd ‹NbOk t l c n› h) | skip
    all_goals (unfold meanL; rw [if_neg h])⟩
instance Mean_c : Con 156 (∀ (t l : List Int) (c : Int) (a b : Bool) (n : Int), t.length ≤ 1099511627776 ∧ l.length ≤ 1099511627776 → Fn 156 [NbA t l c a b, I n] [] (I (meanL t l c a b n))) := ⟨fun t l c a b n hl => by
  by_cases h : NbOk t l c n
  · obtain ⟨h1, h2, h3, h4, h5, h6⟩ := id h
    have htk : (t.take n.toNat).length = n.toNat := by simp; omega
    have s0 := in_take h4 n.toNat
    have s1 := sum_bd255 s0
    have s2 := sum_bd255 h5
    rw [htk] at s1
    cases a <;> cases b
    · refine FnC.of_body tabOk Try.func156 Try.ntmps156 rfl (by decide +kernel) (by simp) fun G => ?_
      refine go (r := ?_); and_intros <;> intros <;> try exact True.intro
      all_goals first | (exact absurd h ‹¬ NbOk t l c n›) | skip
      unfold meanL; rw [if_pos h]
    · refine FnC.of_body tabOk Try.func156 Try.ntmps156 rfl (by decide +kernel) (by simp) fun G => ?_
      refine go (r := ?_); and_intros <;> intros <;> try exact True.intro
      all_goals first | (exact absurd h ‹¬ NbOk t l c n›) | skip
      refine WpA.loop (fun k : Nat => ⟨[(1, I n), (5, I (psum l k)), (6, I 0), (36, IL l), (37, I l.length), (38, I k)], [NbO t l c false true]⟩) (fun k => k ≤ l.length) (fun k => l.length - k) 0 (by omega) (go (r := ?_)) (fun k hk => ?_)
      · simp [psum_zero]
      have hb := psum_bd h5 k hk
      have hg := fun h => in_get h5 (k := k) h
      have hs := fun h => psum_succ l k h
      refine go (r := ?_); and_intros <;> intros <;> try exact True.intro
      all_goals have e : k = l.length := by omega
      all_goals subst e
      all_goals rw [psum_all]
      unfold meanL; rw [if_pos h]; rcases h1 with rfl | rfl <;> simp <;> omega
    · refine FnC.of_body tabOk Try.func156 Try.ntmps156 rfl (by decide +kernel) (by simp) fun G => ?_
      refine go (r := ?_); and_intros <;> intros <;> try exact True.intro
      all_goals first | (exact absurd h ‹¬ NbOk t l c n›) | skip
      refine WpA.loop (fun k : Nat => ⟨[(1, I n), (2, .ptr 0 0 0), (5, I (psum (t.take n.toNat) k)), (6, I 0), (20, IL (t.take n.toNat)), (21, I (t.take n.toNat).length), (22, I k)], [NbO t l c true false]⟩) (fun k => k ≤ (t.take n.toNat).length) (fun k => (t.take n.toNat).length - k) 0 (by omega) (go (r := ?_)) (fun k hk => ?_)
      · simp [psum_zero]
      have hb := psum_bd s0 k hk
      have hg := fun h => in_get s0 (k := k) h
      have hs := fun h => psum_succ (t.take n.toNat) k h
      refine go (r := ?_); and_intros <;> intros <;> try exact True.intro
      all_goals have e : k = (t.take n.toNat).length := by omega
      all_goals subst e
      all_goals rw [psum_all]
      unfold meanL; rw [if_pos h]; rcases h1 with rfl | rfl <;> simp <;> omega
    · refine FnC.of_body tabOk Try.func156 Try.ntmps156 rfl (by decide +kernel) (by simp) fun G => ?_
      refine go (r := ?_); and_intros <;> intros <;> try exact True.intro
      all_goals first | (exact absurd h ‹¬ NbOk t l c n›) | skip
      refine WpA.loop (fun k : Nat => ⟨[(1, I n), (2, .ptr 0 0 0), (5, I (psum (t.take n.toNat) k)), (6, I 0), (20, IL (t.take n.toNat)), (21, I (t.take n.toNat).length), (22, I k)], [NbO t l c true true]⟩) (fun k => k ≤ (t.take n.toNat).length) (fun k => (t.take n.toNat).length - k) 0 (by omega) (go (r := ?_)) (fun k hk => ?_)
      · simp [psum_zero]
      have hb := psum_bd s0 k hk
      have hg := fun h => in_get s0 (k := k) h
      have hs := fun h => psum_succ (t.take n.toNat) k h
      refine go (r := ?_); and_intros <;> intros <;> try exact True.intro
      have e : k = (t.take n.toNat).length := by omega
      subst e
      refine WpA.loop (fun k : Nat => ⟨[(1, I n), (5, I ((t.take n.toNat).sum + psum l k)), (6, I n), (36, IL l), (37, I l.length), (38, I k)], [NbO t l c true true]⟩) (fun k => k ≤ l.length) (fun k => l.length - k) 0 (by omega) (go (r := ?_)) (fun k hk => ?_)
      · refine ⟨?_, trivial⟩; rw [psum_all, psum_zero]; omega
      have hb := psum_bd h5 k hk
      have hg := fun h => in_get h5 (k := k) h
      have hs := fun h => psum_succ l k h
      refine go (r := ?_); and_intros <;> intros <;> try exact True.intro
      all_goals have e : k = l.length := by omega
      all_goals subst e
      all_goals rw [psum_all]
      unfold meanL; rw [if_pos h]; rcases h1 with rfl | rfl <;> simp <;> omega
  · refine FnC.of_body tabOk Try.func156 Try.ntmps156 rfl (by decide +kernel) (by simp) fun G => ?_
    refine go (r := ?_); and_intros <;> intros <;> try exact True.intro
    all_goals first | (exact absurd ‹NbOk t l c n› h) | skip
    all_goals (unfold meanL; rw [if_neg h])⟩
end Go.Proofs.Ytepfjefdbpmobaa
