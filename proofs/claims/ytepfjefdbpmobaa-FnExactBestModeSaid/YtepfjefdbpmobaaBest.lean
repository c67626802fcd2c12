/- Contracts: whole predictions, residuals, the best mode; the law FnExactBestMode. No condition. -/
import Derived.Test.YtepfjefdbpmobaaPredL
import Derived.Test.YtepfjefdbpmobaaStat
namespace Go.Proofs.Ytepfjefdbpmobaa
open Go Go.Abs
set_option linter.unusedVariables false
set_option linter.unusedSimpArgs false
set_option maxRecDepth 100000
set_option maxHeartbeats 4000000
attribute [local irreducible] WpA WpL Rnd Blk Abs.Seq Abs.Fin Abs.FinG FnC FnG Only

instance Pred_s : Con 79 (∀ (m : Int) (t l : List Int) (c : Int) (a b : Bool) (n : Int), t.length ≤ 1099511627776 ∧ l.length ≤ 1099511627776 ∧ -9223372036854775807 ≤ n → Fn 79 [I m, NbA t l c a b, I n] [XI (predS m t l c a b n)] (.own 0 0 0 (predS m t l c a b n).length)) := ⟨fun m t l c a b n hl => by
  have hnw := modeW_nil m
  by_cases h : NbOk t l c n ∧ 0 ≤ m ∧ m ≤ 5
  · obtain ⟨h0, hm⟩ := id h
    have h1 := h0.1
    have hnw2 : ¬ modeW m = [] := fun hh => (hnw.1 hh) hm
    rcases h1 with rfl | rfl
    · have e : predS m t l c a b 4 = prK m t l c a b 4 16 := by rw [predS, if_pos h]; rfl
      refine FnC.of_body tabOk Try.func79 Try.ntmps79 rfl (by decide +kernel) (by simp) fun G => ?_
      refine go (r := ?_); and_intros <;> intros <;> try exact True.intro
      refine WpA.loop (fun y : Nat => ⟨[(0, I m), (2, I 4), (4, .ptr 0 0 0), (7, .own 1 0 0 (y * 4)), (8, I y)], [NbO t l c a b, XI (prK m t l c a b 4 (y * 4))]⟩) (fun y => y ≤ 4) (fun y => 4 - y) 0 (by omega) (go (r := ?_)) (fun y hy => ?_)
      · simp [prK]
      refine go (r := ?_); and_intros <;> intros <;> try exact True.intro
      · refine WpA.loop (fun x : Nat => ⟨[(0, I m), (2, I 4), (4, .ptr 0 0 0), (7, .own 1 0 0 (y * 4 + x)), (8, I y), (9, I x)], [NbO t l c a b, XI (prK m t l c a b 4 (y * 4 + x))]⟩) (fun x => x ≤ 4) (fun x => 4 - x) 0 (by omega) (go (r := ?_)) (fun x hx => ?_)
        · trivial
        have hkl := prK_len m t l c a b 4 (y * 4 + x)
        have hpf : x < 4 → predL m t l c a b 4 x y = PF m t l c a b 4 (y * 4 + x) := by intro hh; unfold PF; congr 1 <;> omega
        refine go (r := ?_); and_intros <;> intros <;> try exact True.intro
        · rw [show y * 4 + (x + 1) = (y * 4 + x) + 1 by omega, prK_snoc, hpf (by omega)]
        all_goals have ex : x = 4 := by omega
        all_goals subst ex
        all_goals first | omega | (congr 1; omega)
      all_goals have ey : y = 4 := by omega
      all_goals subst ey
      all_goals rw [e]
      rw [prK_len]
    · have e : predS m t l c a b 8 = prK m t l c a b 8 64 := by rw [predS, if_pos h]; rfl
      refine FnC.of_body tabOk Try.func79 Try.ntmps79 rfl (by decide +kernel) (by simp) fun G => ?_
      refine go (r := ?_); and_intros <;> intros <;> try exact True.intro
      refine WpA.loop (fun y : Nat => ⟨[(0, I m), (2, I 8), (4, .ptr 0 0 0), (7, .own 1 0 0 (y * 8)), (8, I y)], [NbO t l c a b, XI (prK m t l c a b 8 (y * 8))]⟩) (fun y => y ≤ 8) (fun y => 8 - y) 0 (by omega) (go (r := ?_)) (fun y hy => ?_)
      · simp [prK]
      refine go (r := ?_); and_intros <;> intros <;> try exact True.intro
      · refine WpA.loop (fun x : Nat => ⟨[(0, I m), (2, I 8), (4, .ptr 0 0 0), (7, .own 1 0 0 (y * 8 + x)), (8, I y), (9, I x)], [NbO t l c a b, XI (prK m t l c a b 8 (y * 8 + x))]⟩) (fun x => x ≤ 8) (fun x => 8 - x) 0 (by omega) (go (r := ?_)) (fun x hx => ?_)
        · trivial
        have hkl := prK_len m t l c a b 8 (y * 8 + x)
        have hpf : x < 8 → predL m t l c a b 8 x y = PF m t l c a b 8 (y * 8 + x) := by intro hh; unfold PF; congr 1 <;> omega
        refine go (r := ?_); and_intros <;> intros <;> try exact True.intro
        · rw [show y * 8 + (x + 1) = (y * 8 + x) + 1 by omega, prK_snoc, hpf (by omega)]
        all_goals have ex : x = 8 := by omega
        all_goals subst ex
        all_goals first | omega | (congr 1; omega)
      all_goals have ey : y = 8 := by omega
      all_goals subst ey
      all_goals rw [e]
      rw [prK_len]
  · have e : predS m t l c a b n = [] := by rw [predS, if_neg h]
    refine FnC.of_body tabOk Try.func79 Try.ntmps79 rfl (by decide +kernel) (by simp) fun G => ?_
    refine go (r := ?_); and_intros <;> intros <;> try exact True.intro
    refine WpA.loop (fun y : Nat => ⟨[(0, I m), (2, I n), (4, .ptr 0 0 0), (7, .own 1 0 0 0), (8, I 0)], [NbO t l c a b, XI []]⟩) (fun y => y ≤ 0) (fun y => 0) 0 (by omega) (go (r := trivial)) (fun y hy => ?_)
    by_cases h0 : NbOk t l c n
    · have h3 : modeW m = [] := hnw.2 fun hm => h ⟨h0, hm⟩
      refine go (r := ?_); and_intros <;> intros <;> try exact True.intro
      all_goals first | (rw [e]; done) | (rw [e]; rfl)
    · refine go (r := ?_); and_intros <;> intros <;> try exact True.intro
      all_goals first | (rw [e]; done) | (rw [e]; rfl)⟩
instance Pred_c : Con 84 (∀ (m : Int) (t l : List Int) (c : Int) (a b : Bool) (n : Int), t.length ≤ 1099511627776 ∧ l.length ≤ 1099511627776 ∧ -9223372036854775807 ≤ n → Fn 84 [I m, NbA t l c a b, I n] [XI (predS m t l c a b n)] (.own 0 0 0 (predS m t l c a b n).length)) := ⟨fun m t l c a b n hl => by
  by_cases h : NbOk t l c n ∧ 0 ≤ m ∧ m ≤ 5
  · obtain ⟨h0, hm⟩ := id h
    have h1 := h0.1
    rcases h1 with rfl | rfl
    · have e : predS m t l c a b 4 = prK m t l c a b 4 16 := by rw [predS, if_pos h]; rfl
      refine FnC.of_body tabOk Try.func84 Try.ntmps84 rfl (by decide +kernel) (by simp) fun G => ?_
      refine go (r := ?_); and_intros <;> intros <;> try exact True.intro
      refine WpA.loop (fun k : Nat => ⟨[(0, I m), (2, I 4), (4, .ptr 0 0 0), (7, .own 1 0 0 k), (21, I 16), (22, I k)], [NbO t l c a b, XI (prK m t l c a b 4 k)]⟩) (fun k => k ≤ 16) (fun k => 16 - k) 0 (by omega) (go (r := ?_)) (fun k hk => ?_)
      · simp [prK]
      have hkl := prK_len m t l c a b 4 k
      refine go (r := ?_); and_intros <;> intros <;> try exact True.intro
      · rw [prK_snoc]; rfl
      all_goals have ey : k = 16 := by omega
      all_goals subst ey
      all_goals rw [e]
      rw [prK_len]
    · have e : predS m t l c a b 8 = prK m t l c a b 8 64 := by rw [predS, if_pos h]; rfl
      refine FnC.of_body tabOk Try.func84 Try.ntmps84 rfl (by decide +kernel) (by simp) fun G => ?_
      refine go (r := ?_); and_intros <;> intros <;> try exact True.intro
      refine WpA.loop (fun k : Nat => ⟨[(0, I m), (2, I 8), (4, .ptr 0 0 0), (7, .own 1 0 0 k), (21, I 64), (22, I k)], [NbO t l c a b, XI (prK m t l c a b 8 k)]⟩) (fun k => k ≤ 64) (fun k => 64 - k) 0 (by omega) (go (r := ?_)) (fun k hk => ?_)
      · simp [prK]
      have hkl := prK_len m t l c a b 8 k
      refine go (r := ?_); and_intros <;> intros <;> try exact True.intro
      · rw [prK_snoc]; rfl
      all_goals have ey : k = 64 := by omega
      all_goals subst ey
      all_goals rw [e]
      rw [prK_len]
  · have e : predS m t l c a b n = [] := by rw [predS, if_neg h]
    refine FnC.of_body tabOk Try.func84 Try.ntmps84 rfl (by decide +kernel) (by simp) fun G => ?_
    refine go (r := ?_); and_intros <;> intros <;> try exact True.intro
    all_goals first | (exact absurd ⟨‹_›, ‹_›⟩ h) | (rw [e]; done) | (rw [e]; rfl)⟩
instance l19Two_s : Con 119 (∀ p f : List Int, p.length ≤ 1099511627776 ∧ f.length ≤ 1099511627776 → Fn 119 [IL p, IL f] [] (B (decide (0 < side p.length ∧ p.length = f.length ∧ In p 0 255)))) := ⟨fun p f hl => by
  refine FnC.of_body tabOk Try.func119 Try.ntmps119 rfl (by decide +kernel) (by simp) fun G => ?_
  refine go (r := ?_); and_intros <;> intros <;> try exact True.intro
  all_goals first | (rw [Bool.eq_iff_iff]; simp_all; omega) | (simp_all; omega) | simp_all⟩
instance Residual_s : Con 78 (∀ f p : List Int, f.length ≤ 1099511627776 ∧ p.length ≤ 1099511627776 → Fn 78 [IL f, IL p] [XI (resS f p)] (.own 0 0 0 (resS f p).length)) := ⟨fun f p hl => by
  have hsp := side_pos p.length
  by_cases h : ResOk f p
  · obtain ⟨h1, h2, h3, h4⟩ := id h
    have h5 : 0 < side p.length ∧ p.length = f.length ∧ In p 0 255 := ⟨hsp.2 (by omega), h2, h4⟩
    refine FnC.of_body tabOk Try.func78 Try.ntmps78 rfl (by decide +kernel) (by simp) fun G => ?_
    refine go (r := ?_); and_intros <;> intros <;> try exact True.intro
    refine WpA.loop (fun k : Nat => ⟨[(0, IL f), (1, IL p), (5, .own 0 0 0 k), (6, I k)], [XI (rsK f p k)]⟩) (fun k => k ≤ p.length) (fun k => p.length - k) 0 (by omega) (go (r := ?_)) (fun k hk => ?_)
    · simp [rsK]
    have hkl := rsK_len f p k
    have g1 := fun hh => in_get h3 (k := k) hh
    have g2 := fun hh => in_get h4 (k := k) hh
    refine go (r := ?_); and_intros <;> intros <;> try exact True.intro
    · rw [rsK_snoc]
    all_goals have e : k = f.length := by omega
    all_goals subst e
    · rw [resS_len, if_pos h]
    · rw [resS, if_pos h]
  · have e : resS f p = [] := by rw [resS, if_neg h]
    have e2 : resS f p = [] := e
    have hno : ∀ (h5 : 0 < side p.length ∧ p.length = f.length ∧ In p 0 255), ¬ In f 0 255 := fun h5 h6 => h ⟨by have := hsp.1 h5.1; omega, h5.2.1, h6, h5.2.2⟩
    refine FnC.of_body tabOk Try.func78 Try.ntmps78 rfl (by decide +kernel) (by simp) fun G => ?_
    refine go (r := ?_); and_intros <;> intros <;> try exact True.intro
    refine WpA.loop (fun k : Nat => ⟨[(0, IL f), (1, IL p), (5, .own 0 0 0 0), (6, I 0)], [XI []]⟩) (fun k => k ≤ 0) (fun k => 0) 0 (by omega) (go (r := trivial)) (fun k hk => ?_)
    by_cases h5 : 0 < side p.length ∧ p.length = f.length ∧ In p 0 255
    · have h6 := hno h5
      refine go (r := ?_); and_intros <;> intros <;> try exact True.intro
      all_goals first | (rw [e]; done) | (rw [e]; rfl)
    · refine go (r := ?_); and_intros <;> intros <;> try exact True.intro
      all_goals first | (rw [e]; done) | (rw [e]; rfl)⟩
instance Residual_c : Con 83 (∀ f p : List Int, f.length ≤ 1099511627776 ∧ p.length ≤ 1099511627776 → Fn 83 [IL f, IL p] [XI (resS f p)] (.own 0 0 0 (resS f p).length)) := ⟨fun f p hl => by
  have hsd := side_cases f.length
  by_cases h : ResOk f p
  · obtain ⟨h1, h2, h3, h4⟩ := id h
    refine FnC.of_body tabOk Try.func83 Try.ntmps83 rfl (by decide +kernel) (by simp) fun G => ?_
    refine go (r := ?_); and_intros <;> intros <;> try exact True.intro
    refine WpA.loop (fun k : Nat => ⟨[(1, IL p), (5, .own 0 0 0 k), (30, IL f), (31, I f.length), (32, I k)], [XI (rsK f p k)]⟩) (fun k => k ≤ f.length) (fun k => f.length - k) 0 (by omega) (go (r := ?_)) (fun k hk => ?_)
    · simp [rsK]
    have hkl := rsK_len f p k
    have g1 := fun hh => in_get h3 (k := k) hh
    have g2 := fun hh => in_get h4 (k := k) hh
    refine go (r := ?_); and_intros <;> intros <;> try exact True.intro
    · rw [rsK_snoc]
    all_goals have e : k = f.length := by omega
    all_goals subst e
    · rw [resS_len, if_pos h]
    · rw [resS, if_pos h]
  · have e : resS f p = [] := by rw [resS, if_neg h]
    refine FnC.of_body tabOk Try.func83 Try.ntmps83 rfl (by decide +kernel) (by simp) fun G => ?_
    refine go (r := ?_); and_intros <;> intros <;> try exact True.intro
    all_goals first | (rw [e]; done) | (rw [e]; rfl) | (exact absurd ⟨by omega, by omega, ‹_›, ‹_›⟩ h)⟩
instance BestMode_s : Con 36 (∀ (l t le : List Int) (c : Int) (a b : Bool) (n : Int) (lens : List Int), l.length ≤ 1099511627776 ∧ t.length ≤ 1099511627776 ∧ le.length ≤ 1099511627776 ∧ lens.length ≤ 1099511627776 → Fn 36 [IL l, NbA t le c a b, I n, IL lens] [] (I (bestM l t le c a b n lens))) := ⟨fun l t le c a b n lens hl => by
  by_cases h : BmOk l t le c n
  · obtain ⟨h0, h2, h3⟩ := id h
    have h1 := h0.1
    have hnn : 0 ≤ n * n ∧ n * n ≤ 64 := by rcases h1 with rfl | rfl <;> decide
    have hl64 : l.length ≤ 64 := by omega
    refine FnC.of_body tabOk Try.func36 Try.ntmps36 rfl (by decide +kernel) (by simp) fun G => ?_
    refine go (r := ?_); and_intros <;> intros <;> try exact True.intro
    all_goals first | (exact absurd h0 ‹¬ NbOk t le c n›) | (exact absurd h3 ‹¬ In l 0 255›) | skip
    refine WpA.loop (fun m : Nat => ⟨[(0, IL l), (2, I n), (3, IL lens), (5, .ptr 0 0 0), (9, I (bmS l t le c a b n lens m).1), (10, I (bmS l t le c a b n lens m).2), (11, I m)], [NbO t le c a b]⟩) (fun m => m ≤ 6) (fun m => 6 - m) 0 (by omega) (go (r := ?_)) (fun m hm => ?_)
    · simp [bmS]
    have hb := bm_bd l t le c a b n lens m
    have hb1 := bm_bd l t le c a b n lens (m + 1)
    have hsl := symL_pos lens m
    have hc := costs_bd (resS l (predS m t le c a b n))
    have hrl := resS_small l (predS m t le c a b n)
    have hpl := predS_len m t le c a b n
    have hpl2 : (predS m t le c a b n).length ≤ 64 := by
      rw [hpl]; split
      · rcases h1 with rfl | rfl <;> decide
      · omega
    have hst := bmS.eq_2 l t le c a b n lens m
    by_cases hh : HasC lens m
    · rw [if_pos hh] at hst
      have hsl2 := hsl.2 hh
      by_cases h5 : (bmS l t le c a b n lens m).1 < 0 ∨ costs (resS l (predS m t le c a b n)) < (bmS l t le c a b n lens m).2
      · rw [if_pos h5] at hst
        refine go (r := ?_); and_intros <;> intros <;> try exact True.intro
        all_goals first | (rw [hst]; done) | (exfalso; omega) | skip
        all_goals (have e : m = 6 := by omega); subst e; rw [bestM, if_pos h]
      · rw [if_neg h5] at hst
        refine go (r := ?_); and_intros <;> intros <;> try exact True.intro
        all_goals first | (rw [hst]; done) | (exfalso; omega) | skip
        all_goals (have e : m = 6 := by omega); subst e; rw [bestM, if_pos h]
    · rw [if_neg hh] at hst
      have hsl2 : ¬ 0 < (symL lens m).length := fun h => hh (hsl.1 h)
      refine go (r := ?_); and_intros <;> intros <;> try exact True.intro
      all_goals first | (rw [hst]; done) | (exfalso; omega) | skip
      all_goals (have e : m = 6 := by omega); subst e; rw [bestM, if_pos h]
  · have e : bestM l t le c a b n lens = -1 := by rw [bestM, if_neg h]
    by_cases h0 : NbOk t le c n
    · have h1 := h0.1
      have hnn : 0 ≤ n * n ∧ n * n ≤ 64 := by rcases h1 with rfl | rfl <;> decide
      have h8 : ∀ h7 : (l.length : Int) = n * n, ¬ In l 0 255 := fun h7 h6 => h ⟨h0, h7, h6⟩
      by_cases h7 : (l.length : Int) = n * n
      · have h9 := h8 h7
        refine FnC.of_body tabOk Try.func36 Try.ntmps36 rfl (by decide +kernel) (by simp) fun G => ?_
        refine go (r := ?_); and_intros <;> intros <;> try exact True.intro
        all_goals first | (rw [e]; done) | (exfalso; omega)
      · refine FnC.of_body tabOk Try.func36 Try.ntmps36 rfl (by decide +kernel) (by simp) fun G => ?_
        refine go (r := ?_); and_intros <;> intros <;> try exact True.intro
        all_goals first | (rw [e]; done) | (exfalso; omega)
    · refine FnC.of_body tabOk Try.func36 Try.ntmps36 rfl (by decide +kernel) (by simp) fun G => ?_
      refine go (r := ?_); and_intros <;> intros <;> try exact True.intro
      all_goals first | (rw [e]; done) | (exfalso; omega)⟩
instance BestMode_c : Con 39 (∀ (l t le : List Int) (c : Int) (a b : Bool) (n : Int) (lens : List Int), l.length ≤ 1099511627776 ∧ t.length ≤ 1099511627776 ∧ le.length ≤ 1099511627776 ∧ lens.length ≤ 1099511627776 → Fn 39 [IL l, NbA t le c a b, I n, IL lens] [] (I (bestM l t le c a b n lens))) := ⟨fun l t le c a b n lens hl => by
  by_cases h : BmOk l t le c n
  · obtain ⟨h0, h2, h3⟩ := id h
    have h1 := h0.1
    have hnn : 0 ≤ n * n ∧ n * n ≤ 64 := by rcases h1 with rfl | rfl <;> decide
    have hl64 : l.length ≤ 64 := by omega
    refine FnC.of_body tabOk Try.func39 Try.ntmps39 rfl (by decide +kernel) (by simp) fun G => ?_
    refine go (r := ?_); and_intros <;> intros <;> try exact True.intro
    all_goals first | (exact absurd h0 ‹¬ NbOk t le c n›) | (exact absurd h3 ‹¬ In l 0 255›) | skip
    refine WpA.loop (fun m : Nat => ⟨[(0, IL l), (2, I n), (3, IL lens), (5, .ptr 0 0 0), (9, I (bmS l t le c a b n lens m).1), (10, I (bmS l t le c a b n lens m).2), (30, I m)], [NbO t le c a b]⟩) (fun m => m ≤ 6) (fun m => 6 - m) 0 (by omega) (go (r := ?_)) (fun m hm => ?_)
    · simp [bmS]
    have hb := bm_bd l t le c a b n lens m
    have hb1 := bm_bd l t le c a b n lens (m + 1)
    have hsl := symL_pos lens m
    have hc := costs_bd (resS l (predS m t le c a b n))
    have hrl := resS_small l (predS m t le c a b n)
    have hpl := predS_len m t le c a b n
    have hpl2 : (predS m t le c a b n).length ≤ 64 := by
      rw [hpl]; split
      · rcases h1 with rfl | rfl <;> decide
      · omega
    have hst := bmS.eq_2 l t le c a b n lens m
    by_cases hh : HasC lens m
    · rw [if_pos hh] at hst
      have hsl2 := hsl.2 hh
      by_cases h5 : (bmS l t le c a b n lens m).1 < 0 ∨ costs (resS l (predS m t le c a b n)) < (bmS l t le c a b n lens m).2
      · rw [if_pos h5] at hst
        refine go (r := ?_); and_intros <;> intros <;> try exact True.intro
        all_goals first | (rw [hst]; done) | (exfalso; omega) | skip
        all_goals (have e : m = 6 := by omega); subst e; rw [bestM, if_pos h]
      · rw [if_neg h5] at hst
        refine go (r := ?_); and_intros <;> intros <;> try exact True.intro
        all_goals first | (rw [hst]; done) | (exfalso; omega) | skip
        all_goals (have e : m = 6 := by omega); subst e; rw [bestM, if_pos h]
    · rw [if_neg hh] at hst
      have hsl2 : ¬ 0 < (symL lens m).length := fun h => hh (hsl.1 h)
      refine go (r := ?_); and_intros <;> intros <;> try exact True.intro
      all_goals first | (rw [hst]; done) | (exfalso; omega) | skip
      all_goals (have e : m = 6 := by omega); subst e; rw [bestM, if_pos h]
  · have e : bestM l t le c a b n lens = -1 := by rw [bestM, if_neg h]
    by_cases h0 : NbOk t le c n
    · have h1 := h0.1
      have hnn : 0 ≤ n * n ∧ n * n ≤ 64 := by rcases h1 with rfl | rfl <;> decide
      have h8 : ∀ h7 : (l.length : Int) = n * n, ¬ In l 0 255 := fun h7 h6 => h ⟨h0, h7, h6⟩
      by_cases h7 : (l.length : Int) = n * n
      · have h9 := h8 h7
        refine FnC.of_body tabOk Try.func39 Try.ntmps39 rfl (by decide +kernel) (by simp) fun G => ?_
        refine go (r := ?_); and_intros <;> intros <;> try exact True.intro
        all_goals first | (rw [e]; done) | (exfalso; omega)
      · refine FnC.of_body tabOk Try.func39 Try.ntmps39 rfl (by decide +kernel) (by simp) fun G => ?_
        refine go (r := ?_); and_intros <;> intros <;> try exact True.intro
        all_goals first | (rw [e]; done) | (exfalso; omega)
    · refine FnC.of_body tabOk Try.func39 Try.ntmps39 rfl (by decide +kernel) (by simp) fun G => ?_
      refine go (r := ?_); and_intros <;> intros <;> try exact True.intro
      all_goals first | (rw [e]; done) | (exfalso; omega)⟩
end Go.Proofs.Ytepfjefdbpmobaa
