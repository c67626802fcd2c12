/- Proved in this text: lemmas and contracts of functions that the claim uses (parts: Nba, Res, Res2, Res3, Putc, Nbs). No condition. -/
import Derived.Test.YtjhejgamjlokdaaGreatQuM16
import Derived.Test.YtjhejgamjlokdaaGreatQuM14
import Derived.Test.YtjhejgamjlokdaaGreatQuM11
import Derived.Test.YtjhejgamjlokdaaGreatQuM10
import Derived.Test.YtjhejgamjlokdaaGreatQuM13
set_option linter.unusedVariables false
set_option linter.unusedSimpArgs false
set_option maxRecDepth 100000
set_option maxHeartbeats 16000000


namespace Go.Proofs.YtjhejgamjlokdaaGreat
open Go Go.Abs
attribute [local irreducible] WpA WpL Rnd Blk Abs.Seq Abs.Fin Abs.FinG FnC FnG Only
theorem topF_eq (W : Int) (p : List Int) (x y n : Int) (hn : 0 < n) (k : Nat) : topF W p x y n k = if y = 0 then 128 else if (k : Int) < n ∨ (y % 8 = 0 ∧ x + k < W) then p.getD ((y - 1) * W + x + k).toNat 0 else topF W p x y n (k - 1) := by
  cases k with
  | zero =>
    rw [topF]
    split
    · rfl
    · rw [if_pos (.inl (by simpa using hn))]
  | succ k => rw [topF]; rfl
theorem nb_ix {W H : Int} {p : List Int} {x y n : Int} (h : Fits W H p x y n) {k : Nat} (hk : (k : Int) < 2 * n) (hy : y ≠ 0) (hc : (k : Int) < n ∨ (y % 8 = 0 ∧ x + k < W)) : 0 ≤ (y - 1) * W ∧ (y - 1) * W ≤ 1024 ∧ (y - 1) * W + x + k < p.length := by
  obtain ⟨h0, h1, hx, hy2, _⟩ := h
  have := ix_in h0 (a := y - 1) (b := x + k) (by omega) (by omega)
  omega
theorem nb_lx {W H : Int} {p : List Int} {x y n : Int} (h : Fits W H p x y n) {k : Nat} (hk : (k : Int) < n) (hx0 : 0 < x) : 0 ≤ (y + k) * W ∧ (y + k) * W ≤ 1024 ∧ (y + k) * W + x - 1 < p.length := by
  obtain ⟨h0, h1, hx, hy2, _⟩ := h
  have := ix_in h0 (a := y + k) (b := x - 1) (by omega) (by omega)
  omega
theorem nb_cx {W H : Int} {p : List Int} {x y n : Int} (h : Fits W H p x y n) (hx0 : 0 < x) (hy0 : 0 < y) : 0 ≤ (y - 1) * W ∧ (y - 1) * W ≤ 1024 ∧ (y - 1) * W + x - 1 < p.length := by
  obtain ⟨h0, h1, hx, hy2, _⟩ := h
  have := ix_in h0 (a := y - 1) (b := x - 1) (by omega) (by omega)
  omega
abbrev NbOwn (W H : Int) (p : List Int) (x y n : Int) : AV := .agg [.own 0 0 0 (topL W H p x y n).length, .own 1 0 0 (lefL W H p x y n).length, I (corL W H p x y n), B (hasT W H p x y n), B (hasE W H p x y n)]
abbrev Nb0 : AObj := ⟨[.nilS, .nilS, I 0, B false, B false], 0, 0, none⟩
attribute [local irreducible] topF lefF
instance NbAt_c : Con 55 (∀ (W H : Int) (p : List Int) (x y n : Int), p.length ≤ 1099511627776 → Fn 55 [FrA W H p, I x, I y, I n] [XI (topL W H p x y n), XI (lefL W H p x y n)] (NbOwn W H p x y n)) := ⟨fun W H p x y n hl => by
  by_cases h : Fits W H p x y n
  · have ht : topL W H p x y n = tabL (topF W p x y n) (2 * n).toNat := by unfold topL; rw [if_pos h]
    have hle : lefL W H p x y n = tabL (lefF W p x y) n.toNat := by unfold lefL; rw [if_pos h]
    have hco : corL W H p x y n = if 0 < x ∧ 0 < y then p.getD ((y - 1) * W + x - 1).toNat 0 else 128 := by unfold corL; rw [if_pos h]
    have hhT : hasT W H p x y n = decide (0 < y) := by unfold hasT; rw [Bool.eq_iff_iff]; simp only [decide_eq_true_eq]; exact ⟨fun hh => hh.2, fun hh => ⟨h, hh⟩⟩
    have hhE : hasE W H p x y n = decide (0 < x) := by unfold hasE; rw [Bool.eq_iff_iff]; simp only [decide_eq_true_eq]; exact ⟨fun hh => hh.2, fun hh => ⟨h, hh⟩⟩
    unfold NbOwn
    rw [ht, hle, hco, hhT, hhE, tabL_len, tabL_len]
    have hd := decide_eq_true h
    obtain ⟨h0, h1, hx, hy, _⟩ := id h
    refine FnC.of_body tabOk Tryz.func55 Tryz.ntmps55 rfl (by decide +kernel) (by simp) fun G => ?_
    refine go (r := ?_); and_intros <;> intros <;> try exact True.intro
    all_goals first | contradiction | (exact absurd h (by assumption)) | skip
    refine WpA.loop (fun k : Nat => ⟨[(1, I x), (2, I y), (3, I n), (4, .ptr 0 0 0), (8, .ptr 1 0 0), (9, .ptr 2 0 0), (27, I (2 * n)), (28, I k)], [FrO W H p, Nb0, ⟨[.own 3 0 0 k, .nilS, I 128, B (decide (0 < y)), B (decide (0 < x))], 0, 0, none⟩, XI (tabL (topF W p x y n) k)]⟩) (fun k => (k : Int) ≤ 2 * n) (fun k => (2 * n).toNat - k) 0 (by omega) ?_ ?_
    · exact Weak.nil1 (by first | (show 0 ≤ _; exact Nat.zero_le _) | (repeat' (first | exact RzT.nil | refine RzT.cons ?_ ?_ | exact Rz.nil | refine Rz.keep rfl rfl ?_ | refine Rz.own rfl rfl rfl rfl rfl (by first | rfl | omega | (simp; done)) ?_ | refine Rz.ptr rfl rfl rfl rfl ?_ | refine Rz.nilO rfl rfl rfl (by first | rfl | omega | (simp; done)) ?_ | refine Rz.agg ?_ ?_ | exact RzO.last rfl | (refine RzO.cons ?_ (.inr rfl) ?_) | exact Rz.same rfl (still_ints _) | exact Rz.same rfl (still_rows (fun _ => rfl) _)))) (by first | (show 0 ≤ _; exact Nat.zero_le _) | (repeat' (first | exact RzT.nil | refine RzT.cons ?_ ?_ | exact Rz.nil | refine Rz.keep rfl rfl ?_ | refine Rz.own rfl rfl rfl rfl rfl (by first | rfl | omega | (simp; done)) ?_ | refine Rz.ptr rfl rfl rfl rfl ?_ | refine Rz.nilO rfl rfl rfl (by first | rfl | omega | (simp; done)) ?_ | refine Rz.agg ?_ ?_ | exact RzO.last rfl | (refine RzO.cons ?_ (.inr rfl) ?_) | exact Rz.same rfl (still_ints _) | exact Rz.same rfl (still_rows (fun _ => rfl) _)))) (Nat.le_of_ble_eq_true rfl)
    intro k hk
    try simp only at hk ⊢
    have hkl := tabL_len (topF W p x y n) k
    by_cases hlt : (k : Int) < 2 * n
    · have hq := topF_eq W p x y n (by omega) k
      have hsn := tabL_snoc (topF W p x y n) k
      by_cases hy0 : y = 0
      · rw [if_pos hy0] at hq
        rw [hq] at hsn
        refine go (r := ?_); and_intros <;> intros <;> try exact True.intro
        all_goals first | contradiction | omega | exact hsn.symm | trace_state
      · rw [if_neg hy0] at hq
        by_cases hc : (k : Int) < n ∨ (y % 8 = 0 ∧ x + k < W)
        · rw [if_pos hc] at hq
          rw [hq] at hsn
          obtain ⟨b1, b2, b3⟩ := nb_ix h hlt hy0 hc
          by_cases hc0 : (k : Int) < n
          · refine go (r := ?_); and_intros <;> intros <;> try exact True.intro
            refine WpL.openAny (t := 48) rfl (fun v0 => ?_)
            by_cases hv : v0 = .bool true
            · subst hv
              refine go (r := ?_); and_intros <;> intros <;> try exact True.intro
              all_goals first | contradiction | omega | exact hsn.symm | trace_state
            · repeat (refine WpL.guardV (σ := ⟨_, _⟩) rfl rfl (by decide) rfl hv rfl ?_)
              refine go (r := ?_); and_intros <;> intros <;> try exact True.intro
              all_goals first | contradiction | omega | exact hsn.symm | trace_state
          · obtain ⟨hc1, hc2⟩ : y % 8 = 0 ∧ x + k < W := hc.resolve_left hc0
            refine go (r := ?_); and_intros <;> intros <;> try exact True.intro
            all_goals first | contradiction | omega | exact hsn.symm | trace_state
        · rw [if_neg hc] at hq
          rw [hq] at hsn
          have hk0 : 0 < k := by omega
          have ek : ((k : Int) - 1).toNat = k - 1 := by omega
          have hge : (tabL (topF W p x y n) k).getD (k - 1) 0 = topF W p x y n (k - 1) := tabL_get (by omega)
          by_cases hc0 : (k : Int) < n
          · exact absurd (.inl hc0) hc
          by_cases hc1 : y % 8 = 0
          · have hc2 : ¬ x + k < W := fun hh => hc (.inr ⟨hc1, hh⟩)
            refine go (r := ?_); and_intros <;> intros <;> try exact True.intro
            all_goals first | contradiction | omega | (rw [ek, hge]; exact hsn.symm) | trace_state
          · refine go (r := ?_); and_intros <;> intros <;> try exact True.intro
            all_goals first | contradiction | omega | (rw [ek, hge]; exact hsn.symm) | trace_state
    · have hke : k = (2 * n).toNat := by omega
      subst hke
      refine go (r := ?_); and_intros <;> intros <;> try exact True.intro
      all_goals first | contradiction | omega | skip
      refine WpA.loop (fun k : Nat => ⟨[(1, I x), (2, I y), (4, .ptr 0 0 0), (8, .ptr 1 0 0), (9, .ptr 2 0 0), (77, I n), (78, I k)], [FrO W H p, Nb0, ⟨[.own 3 0 0 (2 * n).toNat, .own 4 0 0 k, I 128, B (decide (0 < y)), B (decide (0 < x))], 0, 0, none⟩, XI (tabL (topF W p x y n) (2 * n).toNat), XI (tabL (lefF W p x y) k)]⟩) (fun k => (k : Int) ≤ n) (fun k => n.toNat - k) 0 (by omega) ?_ ?_
      · exact Weak.nil1 (by first | (show 0 ≤ _; exact Nat.zero_le _) | (repeat' (first | exact RzT.nil | refine RzT.cons ?_ ?_ | exact Rz.nil | refine Rz.keep rfl rfl ?_ | refine Rz.own rfl rfl rfl rfl rfl (by first | rfl | omega | (simp; done)) ?_ | refine Rz.ptr rfl rfl rfl rfl ?_ | refine Rz.nilO rfl rfl rfl (by first | rfl | omega | (simp; done)) ?_ | refine Rz.agg ?_ ?_ | exact RzO.last rfl | (refine RzO.cons ?_ (.inr rfl) ?_) | exact Rz.same rfl (still_ints _) | exact Rz.same rfl (still_rows (fun _ => rfl) _)))) (by first | (show 0 ≤ _; exact Nat.zero_le _) | (repeat' (first | exact RzT.nil | refine RzT.cons ?_ ?_ | exact Rz.nil | refine Rz.keep rfl rfl ?_ | refine Rz.own rfl rfl rfl rfl rfl (by first | rfl | omega | (simp; done)) ?_ | refine Rz.ptr rfl rfl rfl rfl ?_ | refine Rz.nilO rfl rfl rfl (by first | rfl | omega | (simp; done)) ?_ | refine Rz.agg ?_ ?_ | exact RzO.last rfl | (refine RzO.cons ?_ (.inr rfl) ?_) | exact Rz.same rfl (still_ints _) | exact Rz.same rfl (still_rows (fun _ => rfl) _)))) (Nat.le_of_ble_eq_true rfl)
      intro k hk
      try simp only at hk ⊢
      have hkl2 := tabL_len (lefF W p x y) k
      by_cases hlt2 : (k : Int) < n
      · have hsn := tabL_snoc (lefF W p x y) k
        by_cases hx0 : 0 < x
        · obtain ⟨b1, b2, b3⟩ := nb_lx h hlt2 hx0
          have hq : lefF W p x y k = p.getD ((y + k) * W + x - 1).toNat 0 := by unfold lefF; rw [if_pos hx0]
          rw [hq] at hsn
          refine go (r := ?_); and_intros <;> intros <;> try exact True.intro
          all_goals first | contradiction | omega | exact hsn.symm | trace_state
        · have hq : lefF W p x y k = 128 := by unfold lefF; rw [if_neg hx0]
          rw [hq] at hsn
          refine go (r := ?_); and_intros <;> intros <;> try exact True.intro
          all_goals first | contradiction | omega | exact hsn.symm | trace_state
      · have hke : k = n.toNat := by omega
        subst hke
        by_cases hx0 : 0 < x
        · by_cases hy0 : 0 < y
          · obtain ⟨b1, b2, b3⟩ := nb_cx h hx0 hy0
            rw [if_pos ⟨hx0, hy0⟩]
            refine go (r := ?_); and_intros <;> intros <;> try exact True.intro
            all_goals first | contradiction | omega | trace_state
          · rw [if_neg (fun hh => hy0 hh.2)]
            refine go (r := ?_); and_intros <;> intros <;> try exact True.intro
            all_goals first | contradiction | omega | trace_state
        · rw [if_neg (fun hh => hx0 hh.1)]
          refine go (r := ?_); and_intros <;> intros <;> try exact True.intro
          all_goals first | contradiction | omega | trace_state
  · have ht : topL W H p x y n = [] := by unfold topL; rw [if_neg h]
    have hle : lefL W H p x y n = [] := by unfold lefL; rw [if_neg h]
    have hco : corL W H p x y n = 0 := by unfold corL; rw [if_neg h]
    have hhT : hasT W H p x y n = false := by unfold hasT; rw [decide_eq_false_iff_not]; exact fun hh => h hh.1
    have hhE : hasE W H p x y n = false := by unfold hasE; rw [decide_eq_false_iff_not]; exact fun hh => h hh.1
    unfold NbOwn
    rw [ht, hle, hco, hhT, hhE]
    have hd := decide_eq_false h
    refine FnC.of_body tabOk Tryz.func55 Tryz.ntmps55 rfl (by decide +kernel) (by simp) fun G => ?_
    refine go (r := ?_); and_intros <;> intros <;> try exact True.intro
    all_goals first | contradiction | omega | trace_state⟩
end Go.Proofs.YtjhejgamjlokdaaGreat


namespace Go.Proofs.YtjhejgamjlokdaaGreat
open Go Go.Abs
attribute [local irreducible] WpA WpL Rnd Blk Abs.Seq Abs.Fin Abs.FinG FnC FnG Only
theorem scan_own (k : Nat) : In (scanL (side k)) 0 (((scanL (side k)).length : Int) - 1) := by
  have h := scan_rg (side k) (by unfold side; split <;> (try split) <;> simp)
  rw [h.2]; exact h.1
instance Placed_s : Con 64 (∀ l : List Int, l.length ≤ 1099511627776 → Fn 64 [IL l] [XI (plcL l)] (.own 0 0 0 (plcL l).length)) := ⟨fun l hl => by
  obtain ⟨_, hs2⟩ := scan_fit l
  have hs1 := scan_own l.length
  have hsc := side_cases l.length
  have hpl := plcL_len l
  have hle : (scanL (side l.length)).length ≤ l.length := by
    rcases hsc with ⟨h, e⟩ | ⟨h, e⟩ | ⟨_, _, e⟩
    · rw [(scan_facts (.inl h)).1]; exact Nat.le_refl _
    · rw [(scan_facts (.inr h)).1]; exact Nat.le_refl _
    · rw [e]; exact Nat.zero_le _
  refine FnC.of_body tabOk Tryz.func64 Tryz.ntmps64 rfl (by decide +kernel) (by simp) fun G => ?_
  refine go (r := ?_); and_intros <;> intros <;> try exact True.intro
  refine WpA.loop (fun k : Nat => ⟨[(0, IL l), (3, .own 0 0 0 (scanL (side l.length)).length), (4, .own 1 0 0 (scanL (side l.length)).length), (5, I k)], [XI (scanL (side l.length)), XI (plcK (scanL (side l.length)) l k)]⟩) (fun k => k ≤ (scanL (side l.length)).length) (fun k => (scanL (side l.length)).length - k) 0 (by omega) (go (r := ?_)) (fun k hk => ?_)
  · simp [plcK]
  have hln := plcK_len (scanL (side l.length)) l k
  have hg := fun h => in_get hs1 (k := k) h
  have hg2 := fun h => in_get hs1 (k := ((k : Int)).toNat) h
  refine go (r := ?_); and_intros <;> intros <;> try exact True.intro
  have e : k = (scanL (side l.length)).length := by omega
  rw [e]; rfl⟩
instance Placed_c : Con 85 (∀ l : List Int, l.length ≤ 1099511627776 → Fn 85 [IL l] [XI (plcL l)] (.own 0 0 0 (plcL l).length)) := ⟨fun l hl => by
  obtain ⟨_, hs2⟩ := scan_fit l
  have hs1 := scan_own l.length
  have hsc := side_cases l.length
  have hpl := plcL_len l
  have hle : (scanL (side l.length)).length ≤ l.length := by
    rcases hsc with ⟨h, e⟩ | ⟨h, e⟩ | ⟨_, _, e⟩
    · rw [(scan_facts (.inl h)).1]; exact Nat.le_refl _
    · rw [(scan_facts (.inr h)).1]; exact Nat.le_refl _
    · rw [e]; exact Nat.zero_le _
  refine FnC.of_body tabOk Tryz.func85 Tryz.ntmps85 rfl (by decide +kernel) (by simp) fun G => ?_
  refine go (r := ?_); and_intros <;> intros <;> try exact True.intro
  refine WpA.loop (fun k : Nat => ⟨[(0, IL l), (4, .own 1 0 0 (scanL (side l.length)).length), (14, .own 0 0 0 (scanL (side l.length)).length), (15, I (scanL (side l.length)).length), (16, I k)], [XI (scanL (side l.length)), XI (plcK (scanL (side l.length)) l k)]⟩) (fun k => k ≤ (scanL (side l.length)).length) (fun k => (scanL (side l.length)).length - k) 0 (by omega) (go (r := ?_)) (fun k hk => ?_)
  · simp [plcK]
  have hln := plcK_len (scanL (side l.length)) l k
  have hg := fun h => in_get hs1 (k := k) h
  have hg2 := fun h => in_get hs1 (k := ((k : Int)).toNat) h
  refine go (r := ?_); and_intros <;> intros <;> try exact True.intro
  have e : k = (scanL (side l.length)).length := by omega
  rw [e]; rfl⟩
instance NormAt_s : Con 103 (∀ n i : Int, (n = 0 ∨ n = 4 ∨ n = 8) ∧ 0 ≤ i ∧ i ≤ 1000 → Fn 103 [I n, I i] [] (I (normL n i))) := ⟨fun n i h => by
  obtain ⟨rfl | rfl | rfl, h0, h1⟩ := h
  · refine FnC.of_body tabOk Tryz.func103 Tryz.ntmps103 rfl (by decide +kernel) (by simp) fun G => ?_
    refine go (r := ?_); and_intros <;> intros <;> try exact True.intro
    all_goals first | rfl | (unfold normL; rw [if_neg (by omega)]; done) | trace_state
  · refine FnC.of_body tabOk Tryz.func103 Tryz.ntmps103 rfl (by decide +kernel) (by simp) fun G => ?_
    have hc : i / 4 % 2 + i % 4 % 2 = 0 ∨ i / 4 % 2 + i % 4 % 2 = 1 ∨ i / 4 % 2 + i % 4 % 2 = 2 := by omega
    refine go (r := ?_); and_intros <;> intros <;> try exact True.intro
    all_goals first | rfl | (unfold normL; rw [if_neg (by omega)]; done) | skip
    rw [normL, if_pos (by omega), if_neg (by decide)]
    rcases hc with e | e | e
    · rw [if_pos e, e]; rfl
    · rw [if_neg (by omega), if_neg (by omega), e]; rfl
    · rw [if_neg (by omega), if_pos e, e]; rfl
  · refine FnC.of_body tabOk Tryz.func103 Tryz.ntmps103 rfl (by decide +kernel) (by simp) fun G => ?_
    refine go (r := ?_); and_intros <;> intros <;> try exact True.intro
    all_goals first | rfl | (unfold normL; rw [if_neg (by omega)]; done) | (rw [normL, if_pos (by omega), if_pos rfl]; done) | trace_state⟩
instance NormAt_c : Con 114 (∀ n i : Int, (n = 0 ∨ n = 4 ∨ n = 8) ∧ 0 ≤ i ∧ i ≤ 1000 → Fn 114 [I n, I i] [] (I (normL n i))) := ⟨fun n i h => by
  obtain ⟨rfl | rfl | rfl, h0, h1⟩ := h
  · refine FnC.of_body tabOk Tryz.func114 Tryz.ntmps114 rfl (by decide +kernel) (by simp) fun G => ?_
    refine go (r := ?_); and_intros <;> intros <;> try exact True.intro
    all_goals first | rfl | (unfold normL; rw [if_neg (by omega)]; done) | trace_state
  · refine FnC.of_body tabOk Tryz.func114 Tryz.ntmps114 rfl (by decide +kernel) (by simp) fun G => ?_
    refine go (r := ?_); and_intros <;> intros <;> try exact True.intro
    all_goals first | rfl | (unfold normL; rw [if_neg (by omega)]; done) | (rw [normL, if_pos (by omega), if_neg (by decide), if_pos (by omega)]; done) | (rw [normL, if_pos (by omega), if_neg (by decide), if_neg (by omega), if_pos (by omega)]; done) | (rw [normL, if_pos (by omega), if_neg (by decide), if_neg (by omega), if_neg (by omega)]; done) | trace_state
  · refine FnC.of_body tabOk Tryz.func114 Tryz.ntmps114 rfl (by decide +kernel) (by simp) fun G => ?_
    refine go (r := ?_); and_intros <;> intros <;> try exact True.intro
    all_goals first | rfl | (unfold normL; rw [if_neg (by omega)]; done) | (rw [normL, if_pos (by omega), if_pos rfl]; done) | trace_state⟩
theorem side_048 (k : Nat) : side k = 0 ∨ side k = 4 ∨ side k = 8 := by unfold side; split <;> (try split) <;> simp
theorem sca_snoc (l : List Int) (q : Int) (k : Nat) : tabL (scaF l q) (k + 1) = tabL (scaF l q) k ++ [l.getD k 0 * stepL q * normL (side l.length) k] := by rw [tabL_snoc]; rfl
instance Scaled_s : Con 67 (∀ (l : List Int) (q : Int), l.length ≤ 1099511627776 → Fn 67 [IL l, I q] [XI (scaL l q)] (.own 0 0 0 (scaL l q).length)) := ⟨fun l q hl => by
  have hsl := stepL_pos q
  have hsd := side_048 l.length
  refine FnC.of_body tabOk Tryz.func67 Tryz.ntmps67 rfl (by decide +kernel) (by simp) fun G => ?_
  by_cases h : LvOk l ∧ 0 < stepL q
  · have h1 := h.1
    have h2 := h.2
    have hin := h.1.1
    have hlen := h.1.2
    have hs := stepL_in q (hsl.1 h.2)
    have he : scaL l q = tabL (scaF l q) l.length := by unfold scaL; rw [if_pos h]
    refine go (r := ?_); and_intros <;> intros <;> try exact True.intro
    refine WpA.loop (fun k : Nat => ⟨[(0, IL l), (1, I q), (5, .own 0 0 0 k), (6, I k)], [XI (tabL (scaF l q) k)]⟩) (fun k => k ≤ l.length) (fun k => l.length - k) 0 (by omega) (go (r := ?_)) (fun k hk => ?_)
    · simp [tabL]
    have hlk := tabL_len (scaF l q) k
    have b1 := sca1_bd hin q k
    have b2 := scaF_bd hin q k
    have b3 := in_getZ (c := 16383) hin (by decide) k
    have b4 := normL_bd (side l.length) k
    unfold scaF at b2
    have hsn := sca_snoc l q k
    refine go (r := ?_); and_intros <;> intros <;> try exact True.intro
    all_goals first | (rw [hsn]; done) | skip
    all_goals have e : k = l.length := by omega
    all_goals subst e
    · rw [he, tabL_len]
    · rw [he]
  · have e : scaL l q = [] := by unfold scaL; rw [if_neg h]
    refine go (r := ?_); and_intros <;> intros <;> try exact True.intro
    refine WpA.loop (fun k : Nat => ⟨[(0, IL l), (1, I q), (5, .own 0 0 0 0), (6, I 0)], [XI []]⟩) (fun k => k ≤ 0) (fun k => l.length - k) 0 (by omega) (go (r := trivial)) (fun k hk => ?_)
    have hx : LvOk l → ¬ 0 < stepL q := fun a b => h ⟨a, b⟩
    by_cases h1 : LvOk l
    · have h2 := hx h1
      refine go (r := ?_); and_intros <;> intros <;> try exact True.intro
      all_goals first | (rw [e]; done) | (rw [e]; rfl) | trace_state
    · refine go (r := ?_); and_intros <;> intros <;> try exact True.intro
      all_goals first | (rw [e]; done) | (rw [e]; rfl) | trace_state⟩
instance Scaled_c : Con 86 (∀ (l : List Int) (q : Int), l.length ≤ 1099511627776 → Fn 86 [IL l, I q] [XI (scaL l q)] (.own 0 0 0 (scaL l q).length)) := ⟨fun l q hl => by
  have hsl := stepL_pos q
  have hsd := side_048 l.length
  have hsn : ¬ 0 < stepL q → stepL q = 0 := fun hh => by have := (stepL_bd q).1; omega
  refine FnC.of_body tabOk Tryz.func86 Tryz.ntmps86 rfl (by decide +kernel) (by simp) fun G => ?_
  by_cases h : LvOk l ∧ 0 < stepL q
  · have h1 := h.1
    have h2 := h.2
    have hin := h.1.1
    have hlen := h.1.2
    have hs := stepL_in q (hsl.1 h.2)
    have he : scaL l q = tabL (scaF l q) l.length := by unfold scaL; rw [if_pos h]
    refine go (r := ?_); and_intros <;> intros <;> try exact True.intro
    refine WpA.loop (fun k : Nat => ⟨[(0, IL l), (1, I q), (5, .own 0 0 0 k), (17, IL l), (18, I l.length), (19, I k)], [XI (tabL (scaF l q) k)]⟩) (fun k => k ≤ l.length) (fun k => l.length - k) 0 (by omega) (go (r := ?_)) (fun k hk => ?_)
    · simp [tabL]
    have hlk := tabL_len (scaF l q) k
    have b1 := sca1_bd hin q k
    have b2 := scaF_bd hin q k
    have b3 := in_getZ (c := 16383) hin (by decide) k
    have b4 := normL_bd (side l.length) k
    unfold scaF at b2
    have hsn := sca_snoc l q k
    refine go (r := ?_); and_intros <;> intros <;> try exact True.intro
    all_goals first | (rw [hsn]; done) | skip
    all_goals have e : k = l.length := by omega
    all_goals subst e
    · rw [he, tabL_len]
    · rw [he]
  · have e : scaL l q = [] := by unfold scaL; rw [if_neg h]
    by_cases h1 : LvOk l
    · have h2 : stepL q = 0 := hsn (fun hh => h ⟨h1, hh⟩)
      refine go (r := ?_); and_intros <;> intros <;> try exact True.intro
      all_goals first | (rw [e]; done) | (rw [e]; rfl) | trace_state
    · refine go (r := ?_); and_intros <;> intros <;> try exact True.intro
      all_goals first | (rw [e]; done) | (rw [e]; rfl) | trace_state⟩
abbrev Flo (v d : Int) : Prop := (-2000000000000 ≤ v ∧ v ≤ 2000000000000) ∧ 1 ≤ d ∧ d ≤ 2000
theorem flo_bd {v d : Int} (h : Flo v d) : -2000000000000 ≤ v / d ∧ v / d ≤ 2000000000000 := by
  obtain ⟨⟨h1, h2⟩, h3, h4⟩ := h
  constructor
  · exact Int.le_ediv_of_mul_le (by omega) (by omega)
  · rcases Int.lt_or_le v 0 with h | h
    · have := Int.ediv_neg_of_neg_of_pos h (show 0 < d by omega); omega
    · have := Int.ediv_le_self d h; omega
instance l12Floor_s : Con 101 (∀ v d : Int, Flo v d → Fn 101 [I v, I d] [] (I (v / d))) := ⟨fun v d h => by
  have hb := flo_bd h
  by_cases hv : v < 0
  · have he := floor_neg hv (show 0 < d by omega)
    refine FnC.of_body tabOk Tryz.func101 Tryz.ntmps101 rfl (by decide +kernel) (by simp) fun G => ?_
    refine go (r := ?_); and_intros <;> intros <;> try exact True.intro
    all_goals first | exact he | exact he.symm | trace_state
  · refine FnC.of_body tabOk Tryz.func101 Tryz.ntmps101 rfl (by decide +kernel) (by simp) fun G => ?_
    refine go (r := ?_); and_intros <;> intros <;> try exact True.intro
    all_goals trace_state⟩
theorem flo_t {v d : Int} (h : Flo v d) (hv : v < 0) : -2000000000000 ≤ v.tdiv d ∧ v.tdiv d ≤ 0 := by
  have h0 : (-v).tdiv d = -(v.tdiv d) := Int.neg_tdiv ..
  have h1 := Int.tdiv_eq_ediv_of_nonneg (a := -v) (b := d) (by omega)
  have h2 := Int.ediv_le_self d (show 0 ≤ -v by omega)
  have h3 := Int.ediv_nonneg (show 0 ≤ -v by omega) (show 0 ≤ d by omega)
  omega
instance floorDiv_c : Con 115 (∀ v d : Int, Flo v d → Fn 115 [I v, I d] [] (I (v / d))) := ⟨fun v d h => by
  have hb := flo_bd h
  have he := floor_t (a := v) (b := d) (by omega)
  by_cases hv : v < 0
  · have ht := flo_t h hv
    refine FnC.of_body tabOk Tryz.func115 Tryz.ntmps115 rfl (by decide +kernel) (by simp) fun G => ?_
    refine go (r := ?_); and_intros <;> intros <;> try exact True.intro
    refine WpL.quoT rfl rfl (by omega) (by decide) ?_
    refine go (r := ?_); and_intros <;> intros <;> try exact True.intro
    refine WpL.remT rfl rfl (by omega) (by decide) ?_
    by_cases hr : v.tmod d < 0
    · rw [if_pos hr] at he
      refine go (r := ?_); and_intros <;> intros <;> try exact True.intro
      all_goals first | exact he | exact he.symm | contradiction | omega | trace_state
    · rw [if_neg hr] at he
      refine go (r := ?_); and_intros <;> intros <;> try exact True.intro
      all_goals first | exact he | exact he.symm | contradiction | omega | trace_state
  · refine FnC.of_body tabOk Tryz.func115 Tryz.ntmps115 rfl (by decide +kernel) (by simp) fun G => ?_
    have h0 := Int.emod_nonneg v (show d ≠ 0 by omega)
    refine go (r := ?_); and_intros <;> intros <;> try exact True.intro
    all_goals trace_state⟩
end Go.Proofs.YtjhejgamjlokdaaGreat


namespace Go.Proofs.YtjhejgamjlokdaaGreat
open Go Go.Abs
attribute [local irreducible] WpA WpL Rnd Blk Abs.Seq Abs.Fin Abs.FinG FnC FnG Only
theorem rnd_snoc (f : Int → Int) (l : List Int) (k : Nat) (h : k < l.length) : (l.take k).map f ++ [f (l.getD k 0)] = (l.take (k + 1)).map f := qz_snoc f l k h
instance Rounded_s : Con 65 (∀ (l : List Int), l.length ≤ 1099511627776 → Fn 65 [IL l] [XI (rndL l)] (.own 0 0 0 (rndL l).length)) := ⟨fun l hl => by
  have hsd := side_cases l.length
  refine FnC.of_body tabOk Tryz.func65 Tryz.ntmps65 rfl (by decide +kernel) (by simp) fun G => ?_
  by_cases h : 0 < side l.length
  · have he : rndL l = l.map (rnd1 l.length) := by unfold rndL; rw [if_pos h]
    by_cases h16 : l.length = 16
    · refine go (r := ?_); and_intros <;> intros <;> try exact True.intro
      refine WpA.loop (fun k : Nat => ⟨[(0, IL l), (3, .own 0 0 0 k), (4, I k)], [XI ((l.take k).map (rnd1 l.length))]⟩) (fun k => k ≤ l.length) (fun k => l.length - k) 0 (by omega) (go (r := ?_)) (fun k hk => ?_)
      · simp
      have hlk : ((l.take k).map (rnd1 l.length)).length = k := by simp; omega
      have hsn := rnd_snoc (rnd1 l.length) l k
      have e1 : rnd1 l.length (l.getD k 0) = (max (-1000000000000) (min 1000000000000 (l.getD k 0)) + 800) / 1600 := by unfold rnd1; rw [if_pos h16]
      refine go (r := ?_); and_intros <;> intros <;> try exact True.intro
      all_goals first | (rw [← hsn (by omega), e1]; done) | (rw [← hsn (by omega), e1]; rfl) | skip
      all_goals have e : k = l.length := by omega
      all_goals subst e
      · rw [he, List.length_map]
      · rw [he, List.take_length]
    · refine go (r := ?_); and_intros <;> intros <;> try exact True.intro
      refine WpA.loop (fun k : Nat => ⟨[(0, IL l), (3, .own 0 0 0 k), (4, I k)], [XI ((l.take k).map (rnd1 l.length))]⟩) (fun k => k ≤ l.length) (fun k => l.length - k) 0 (by omega) (go (r := ?_)) (fun k hk => ?_)
      · simp
      have hlk : ((l.take k).map (rnd1 l.length)).length = k := by simp; omega
      have hsn := rnd_snoc (rnd1 l.length) l k
      have e1 : rnd1 l.length (l.getD k 0) = (max (-1000000000000) (min 1000000000000 (l.getD k 0)) + 32) / 64 := by unfold rnd1; rw [if_neg h16]
      refine go (r := ?_); and_intros <;> intros <;> try exact True.intro
      all_goals first | (rw [← hsn (by omega), e1]; done) | (rw [← hsn (by omega), e1]; rfl) | skip
      all_goals have e : k = l.length := by omega
      all_goals subst e
      · rw [he, List.length_map]
      · rw [he, List.take_length]
  · have e : rndL l = [] := by unfold rndL; rw [if_neg h]
    refine go (r := ?_); and_intros <;> intros <;> try exact True.intro
    refine WpA.loop (fun k : Nat => ⟨[(0, IL l), (3, .own 0 0 0 0), (4, I 0)], [XI []]⟩) (fun k => k ≤ 0) (fun k => l.length - k) 0 (by omega) (go (r := trivial)) (fun k hk => ?_)
    refine go (r := ?_); and_intros <;> intros <;> try exact True.intro
    all_goals first | (rw [e]; done) | (rw [e]; rfl) | trace_state⟩
instance Rounded_c : Con 87 (∀ (l : List Int), l.length ≤ 1099511627776 → Fn 87 [IL l] [XI (rndL l)] (.own 0 0 0 (rndL l).length)) := ⟨fun l hl => by
  have hsd := side_cases l.length
  refine FnC.of_body tabOk Tryz.func87 Tryz.ntmps87 rfl (by decide +kernel) (by simp) fun G => ?_
  by_cases h : 0 < side l.length
  · have he : rndL l = l.map (rnd1 l.length) := by unfold rndL; rw [if_pos h]
    by_cases h16 : l.length = 16
    · have e4 : side l.length = 4 := by omega
      refine go (r := ?_); and_intros <;> intros <;> try exact True.intro
      refine WpA.loop (fun k : Nat => ⟨[(3, I 1600), (4, .own 0 0 0 k), (15, IL l), (16, I l.length), (17, I k)], [XI ((l.take k).map (rnd1 l.length))]⟩) (fun k => k ≤ l.length) (fun k => l.length - k) 0 (by omega) (go (r := ?_)) (fun k hk => ?_)
      · simp
      have hlk : ((l.take k).map (rnd1 l.length)).length = k := by simp; omega
      have hsn := rnd_snoc (rnd1 l.length) l k
      have e1 : rnd1 l.length (l.getD k 0) = (max (-1000000000000) (min (l.getD k 0) 1000000000000) + 800) / 1600 := by unfold rnd1; rw [if_pos h16, Int.min_comm]
      refine go (r := ?_); and_intros <;> intros <;> try exact True.intro
      all_goals first | (rw [← hsn (by omega), e1]; done) | (rw [← hsn (by omega), e1]; rfl) | skip
      all_goals have e : k = l.length := by omega
      all_goals subst e
      · rw [he, List.length_map]
      · rw [he, List.take_length]
    · have e8 : side l.length = 8 := by omega
      refine go (r := ?_); and_intros <;> intros <;> try exact True.intro
      refine WpA.loop (fun k : Nat => ⟨[(3, I 64), (4, .own 0 0 0 k), (15, IL l), (16, I l.length), (17, I k)], [XI ((l.take k).map (rnd1 l.length))]⟩) (fun k => k ≤ l.length) (fun k => l.length - k) 0 (by omega) (go (r := ?_)) (fun k hk => ?_)
      · simp
      have hlk : ((l.take k).map (rnd1 l.length)).length = k := by simp; omega
      have hsn := rnd_snoc (rnd1 l.length) l k
      have e1 : rnd1 l.length (l.getD k 0) = (max (-1000000000000) (min (l.getD k 0) 1000000000000) + 32) / 64 := by unfold rnd1; rw [if_neg h16, Int.min_comm]
      refine go (r := ?_); and_intros <;> intros <;> try exact True.intro
      all_goals first | (rw [← hsn (by omega), e1]; done) | (rw [← hsn (by omega), e1]; rfl) | skip
      all_goals have e : k = l.length := by omega
      all_goals subst e
      · rw [he, List.length_map]
      · rw [he, List.take_length]
  · have e : rndL l = [] := by unfold rndL; rw [if_neg h]
    have e0 : side l.length = 0 := by omega
    refine go (r := ?_); and_intros <;> intros <;> try exact True.intro
    all_goals first | (rw [e]; done) | (rw [e]; rfl) | trace_state⟩
def tA (r k : Nat) : Int := mx 4 k r
def T4 : List (List Int) := (List.range 4).map fun r => tabL (tA r) 4
def cellsT (r : Nat) : List AV := (List.range 4).map fun q => if q < r then .fre 1 4 (ints (tabL (tA q) 4)) else .nilS
def invT (r : Nat) : Nat → List AObj
  | 0 => [⟨(cellsT r).set r .nilS, 0, 1, some 22⟩]
  | k + 1 => [⟨(cellsT r).set r (.own 2 0 0 (k + 1)), 0, 1, some 22⟩, ⟨[.any], 0, 1, none⟩, XI (tabL (tA r) (k + 1))]
theorem cellsT_nil {r : Nat} (h : r < 4) : cellsT r = (cellsT r).set r .nilS := by
  rcases (by omega : r = 0 ∨ r = 1 ∨ r = 2 ∨ r = 3) with rfl | rfl | rfl | rfl <;> rfl
theorem cellsT_succ {r : Nat} (h : r < 4) (X : AV) : ((cellsT r).set r X).set r (.fre 1 4 (ints (tabL (tA r) 4))) = cellsT (r + 1) := by
  rcases (by omega : r = 0 ∨ r = 1 ∨ r = 2 ∨ r = 3) with rfl | rfl | rfl | rfl <;> rfl
theorem tnest {r : Nat} (h : r < 4) : flatO [⟨((cellsT r).set r (.own 2 0 0 4)).set r (.fre 1 4 (ints (tabL (tA r) 4))), 0, 1, some 22⟩, ⟨[.any], 0, 1, none⟩, ⟨[], 1, 0, none⟩] = some [⟨cellsT (r + 1), 0, 1, some 22⟩, ⟨[.any], 0, 1, none⟩, ⟨[], 1, 0, none⟩] := by
  rw [cellsT_succ h]; rfl
theorem cellsT_still (r : Nat) : (cellsT r).all AV.still = true := by
  rw [List.all_eq_true]; intro V hV; simp only [cellsT, List.mem_map] at hV; obtain ⟨q, _, rfl⟩ := hV
  split <;> rfl
theorem cellsT_len (r : Nat) : (cellsT r).length = 4 := by simp [cellsT]
theorem cellsT_4 : cellsT 4 = rows liF T4 := rfl
theorem cellsT_0 : cellsT 0 = [.nilS, .nilS, .nilS, .nilS] := rfl
section
attribute [local irreducible] cellsT
instance turned_c : Con 117 (Fn 117 [LLn 4 A4] [⟨rows liF T4, 0, 1, some 22⟩] (.own 0 0 0 4)) := ⟨by
  refine FnC.of_body tabOk Tryz.func117 Tryz.ntmps117 rfl (by decide +kernel) (by simp) fun G => ?_
  refine K.A ?_
  refine WpA.seq ?_
  refine WpA.regionF rfl ?_
  refine WpL.assign rfl (by decide) ?_
  refine WpL.nil ?_
  refine Abs.Seq.n ?_
  refine WpA.seq ?_
  refine WpA.regionF rfl ?_
  refine WpL.move rfl (by decide) ?_
  refine WpL.lenImm (TabOk.slice tabOk rfl).1 rfl (by decide) ?_
  refine WpL.make tabOk rfl rfl rfl (by decide) (by decide) rfl (by decide) ?_
  refine go (r := ?_); and_intros <;> intros <;> try exact True.intro
  refine WpA.loop (fun r : Nat => ⟨[(0, LLn 4 A4), (3, .own 0 0 0 4), (10, I 4), (11, I r)], [⟨cellsT r, 0, 1, some 22⟩]⟩) (fun r => r ≤ 4) (fun r => 4 - r) 0 (by omega) (go (r := ?_)) (fun r hr => ?_)
  · and_intros <;> first | trivial | rfl | exact .nil | exact .inr rfl | exact Re.same cellsT_0.symm (cellsT_still 0) | trace_state
  by_cases h8 : r = 4
  · subst h8
    refine go (r := ?_); and_intros <;> intros <;> try exact True.intro
    all_goals first | exact cellsT_4 | trace_state
  have hr8 : r < 4 := by omega
  have hcl := cellsT_len r
  have hst := cellsT_still r
  have hc0 := cellsT_nil hr8
  refine go (r := ?_); and_intros <;> intros <;> try exact True.intro
  refine WpA.loop (fun k : Nat => ⟨[(0, LLn 4 A4), (3, .own 0 0 0 4), (4, I r), (10, I 4), (11, I r), (15, I 4), (16, I k)], invT r k⟩) (fun k => k ≤ 4) (fun k => 4 - k) 0 (by omega) (go (r := ?_)) (fun k hk => ?_)
  · and_intros <;> first | trivial | rfl | exact .nil | exact .inr rfl | (exact hc0) | exact Re.same hc0 (by rw [← hc0]; exact hst) | trace_state
  by_cases hk8 : k = 4
  · subst hk8
    refine WpA.weak (NestC.weak (id := 0) (offs := [r]) (O2 := [⟨cellsT (r + 1), 0, 1, some 22⟩, ⟨[.any], 0, 1, none⟩, ⟨[], 1, 0, none⟩]) ?_) ?_
    · apply NestC.cons (off := r) (j := 2) (O1 := [⟨cellsT (r + 1), 0, 1, some 22⟩, ⟨[.any], 0, 1, none⟩, ⟨[], 1, 0, none⟩])
      · exact rfl
      · exact List.getElem?_set_self (by omega)
      · exact rfl
      · exact rfl
      · decide
      · exact rfl
      · exact still_ints _
      · exact rfl
      · exact tnest hr8
      · exact .nil
    have hst1 := cellsT_still (r + 1)
    refine go (r := ?_); and_intros <;> intros <;> try exact True.intro
    all_goals first | exact Re.same rfl hst1 | trace_state
  have hA := A4_ok.2.1 k (by omega)
  have hkl := tabL_len (tA r) k
  have hval : (A4.getD k default).getD r 0 = tA r k := rfl
  have hA2 : (A4.getD ((k : Nat) : Int).toNat default).length = 4 := hA
  have hAl : A4.length = 4 := rfl
  have hval2 : (A4.getD ((k : Nat) : Int).toNat default).getD ((r : Nat) : Int).toNat 0 = tA r k := rfl
  rcases k with _ | k
  · refine go (r := ?_); and_intros <;> intros <;> try exact True.intro
    all_goals first | exact Re.any Re.nil | exact .inl rfl | (rw [hval]; rfl) | (rw [hval2]; rfl) | (apply Re.setA (c := cellsT r) (V := .own 2 _ 0 _) (V' := .own 2 _ 0 _); (· apply Re.own (id := 2) <;> first | exact rfl | exact .nil); exact hst) | exact Re.same rfl hst | trace_state
  · refine go (r := ?_); and_intros <;> intros <;> try exact True.intro
    all_goals first | (rw [tabL_snoc _ (k + 1), hval]; done) | (rw [tabL_snoc _ (k + 1), hval2]; done) | (rw [tabL_snoc _ (k + 1), ← hval2]; rfl) | exact Re.any Re.nil | (apply Re.setA (c := cellsT r) (V := .own 2 _ 0 _) (V' := .own 2 _ 0 _); (· apply Re.own (id := 2) <;> first | exact rfl | exact .nil); exact hst) | trace_state⟩
end
end Go.Proofs.YtjhejgamjlokdaaGreat


namespace Go.Proofs.YtjhejgamjlokdaaGreat
open Go Go.Abs
attribute [local irreducible] WpA WpL Rnd Blk Abs.Seq Abs.Fin Abs.FinG FnC FnG Only
theorem T4_row {r : Nat} (h : r < 4) : T4.getD r default = tabL (tA r) 4 := by simp [T4, h]
theorem gOf_T4 {r i : Nat} (h : r < 4) (h2 : i < 4) : gOf T4 r i = mx 4 i r := by rw [gOf, T4_row h, tabL_get h2]; rfl
theorem T4_ok : MatOk 4 T4 := by
  refine ⟨by simp [T4], fun r hr => by rw [T4_row hr, tabL_len], fun r i => ?_⟩
  by_cases h : r < 4
  · by_cases h2 : i < 4
    · rw [gOf_T4 h h2]; exact mx_val 4 i r
    · right; right; left
      rw [gOf, T4_row h, List.getD_eq_getElem?_getD, List.getElem?_eq_none (by rw [tabL_len]; omega)]; rfl
  · right; right; left
    have : T4.getD r default = [] := by rw [List.getD_eq_getElem?_getD, List.getElem?_eq_none (by simp [T4]; omega)]; rfl
    rw [gOf, this]; rfl
theorem trT4 (l : List Int) : prodL 4 (gOf T4) l = trL 4 true l := prodL_congr (by decide) fun r i hr hi => gOf_T4 hr hi
theorem trH8b (l : List Int) : prodL 8 (gOf H8) l = trL 8 true l := prodL_congr (by decide) fun r i hr hi => by
  rw [gOf_H8 hr hi]
  show par (r &&& i) = par (i &&& r)
  rw [Nat.and_comm]
instance Inverse4_c : Con 88 (∀ l : List Int, l.length ≤ 1099511627776 → Fn 88 [IL l] [XI (trL 4 true l)] (.own 0 0 0 (trL 4 true l).length)) := ⟨fun l h => by
  have hA := T4_ok
  rw [← trT4]
  refine FnC.of_body tabOk Tryz.func88 Tryz.ntmps88 rfl (by decide +kernel) (by simp) fun G => ?_
  refine go (r := ?_); and_intros <;> intros <;> try exact True.intro
  refine K.call ?_
  refine K.con (fun hcon => ?_)
  refine WpL.callF (hcon 4 T4 l ⟨by decide, hA, h⟩) snapA locA outA rfl rfl rfl (by decide) ?_
  refine go (r := ?_); and_intros <;> intros <;> try exact True.intro⟩
instance Inverse8_c : Con 89 (∀ l : List Int, l.length ≤ 1099511627776 → Fn 89 [IL l] [XI (trL 8 true l)] (.own 0 0 0 (trL 8 true l).length)) := ⟨fun l h => by
  have hA := H8_ok
  rw [← trH8b]
  refine FnC.of_body tabOk Tryz.func89 Tryz.ntmps89 rfl (by decide +kernel) (by simp) fun G => ?_
  refine go (r := ?_); and_intros <;> intros <;> try exact True.intro
  refine K.call ?_
  refine K.con (fun hcon => ?_)
  refine WpL.callF (hcon 8 H8 l ⟨by decide, hA, h⟩) snapA locA outA rfl rfl rfl (by decide) ?_
  refine go (r := ?_); and_intros <;> intros <;> try exact True.intro⟩
theorem resL_b {q : Int} {l : List Int} (h : LvOk l ∧ 0 < stepL q) : resL true q l = plcL l := by unfold resL; rw [if_pos h, if_pos rfl]
theorem resL_t {q : Int} {l : List Int} (h : LvOk l ∧ 0 < stepL q) : resL false q l = rndL (trL (side l.length) true (scaL (plcL l) q)) := by unfold resL; rw [if_pos h, if_neg (by decide)]
theorem resL_n {b : Bool} {q : Int} {l : List Int} (h : ¬ (LvOk l ∧ 0 < stepL q)) : resL b q l = [] := by unfold resL; rw [if_neg h]
theorem trLe4 (b : Bool) (l : List Int) : (trL 4 b l).length ≤ 64 := trL_le (by decide)
theorem trLe8 (b : Bool) (l : List Int) : (trL 8 b l).length ≤ 64 := trL_le (by decide)
instance ResidualOf_c : Con 47 (∀ (w h q : Int) (b d : Bool) (lens l : List Int), l.length ≤ 1099511627776 → Fn 47 [HdA w h q b d lens, IL l] [XI (resL b q l)] (.own 0 0 0 (resL b q l).length)) := ⟨fun w h q b d lens l hl => by
  have hsl := stepL_pos q
  by_cases hok : LvOk l ∧ 0 < stepL q
  · have h1 := hok.1
    have h2 := hok.2
    have h3 := hsl.1 h2
    have hlen := hok.1.2
    have hp := plcL_len2 hlen
    have hsc := scaL_len (plcL l) q
    rw [if_pos ⟨plcL_ok h1, h2⟩, hp] at hsc
    have t4 := trLe4 true (scaL (plcL l) q)
    have t8 := trLe8 true (scaL (plcL l) q)
    cases b with
    | true =>
      rw [resL_b hok]
      refine FnC.of_body tabOk Tryz.func47 Tryz.ntmps47 rfl (by decide +kernel) (by simp) fun G => ?_
      refine go (r := ?_); and_intros <;> intros <;> try exact True.intro
      all_goals trace_state
    | false =>
      rw [resL_t hok]
      rcases hlen with e | e
      · have e4 : side l.length = 4 := by rw [e]; rfl
        have e5 : side (scaL (plcL l) q).length = 4 := by rw [hsc]; exact e4
        rw [e4]
        refine FnC.of_body tabOk Tryz.func47 Tryz.ntmps47 rfl (by decide +kernel) (by simp) fun G => ?_
        refine go (r := ?_); and_intros <;> intros <;> try exact True.intro
        all_goals trace_state
      · have e8 : side l.length = 8 := by rw [e]; rfl
        have e5 : side (scaL (plcL l) q).length = 8 := by rw [hsc]; exact e8
        rw [e8]
        refine FnC.of_body tabOk Tryz.func47 Tryz.ntmps47 rfl (by decide +kernel) (by simp) fun G => ?_
        refine go (r := ?_); and_intros <;> intros <;> try exact True.intro
        all_goals trace_state
  · rw [resL_n hok]
    refine FnC.of_body tabOk Tryz.func47 Tryz.ntmps47 rfl (by decide +kernel) (by simp) fun G => ?_
    have hx : LvOk l → ¬ (0 ≤ q ∧ q ≤ 51) := fun a b => hok ⟨a, hsl.2 b⟩
    by_cases h1 : LvOk l
    · have h2 := hx h1
      refine go (r := ?_); and_intros <;> intros <;> try exact True.intro
      all_goals trace_state
    · refine go (r := ?_); and_intros <;> intros <;> try exact True.intro
      all_goals trace_state⟩
end Go.Proofs.YtjhejgamjlokdaaGreat


namespace Go.Proofs.YtjhejgamjlokdaaGreat
open Go Go.Abs
attribute [local irreducible] WpA WpL Rnd Blk Abs.Seq Abs.Fin Abs.FinG FnC FnG Only
theorem nb_lens {W H : Int} {p : List Int} {x y n : Int} (h : Fits W H p x y n) : (topL W H p x y n).length ≤ 1099511627776 ∧ (lefL W H p x y n).length ≤ 1099511627776 := by
  obtain ⟨h1, h2, h3, _⟩ := nb_ok h
  omega
theorem put_eq {W H : Int} {p : List Int} {q x y m : Int} {b : Bool} {lv : List Int} (h : PutOk W H p q x y m lv) : putL W H p q b x y m lv = setL W H p x y (recL (predS m (topL W H p x y (side lv.length)) (lefL W H p x y (side lv.length)) (corL W H p x y (side lv.length)) (hasT W H p x y (side lv.length)) (hasE W H p x y (side lv.length)) (side lv.length)) (resL b q lv)) := if_pos h
theorem put_no {W H : Int} {p : List Int} {q x y m : Int} {b : Bool} {lv : List Int} (h : ¬ PutOk W H p q x y m lv) : putL W H p q b x y m lv = p := if_neg h
theorem fit0 {W H : Int} {p : List Int} {x y : Int} : ¬ Fits W H p x y (side 0) := fun h => by
  have h1 : side 0 = 0 := rfl
  have := h.2.1
  omega
section
attribute [-instance] ResidualOf_c
instance PutRef_c : Con 23 (∀ (W H : Int) (p : List Int) (w h q : Int) (b d : Bool) (lens : List Int) (x y m : Int) (lv : List Int), p.length ≤ 1099511627776 ∧ lv.length ≤ 1099511627776 → Fn 23 [FrA W H p, HdA w h q b d lens, I x, I y, .agg [I m, IL lv]] [XI (putL W H p q b x y m lv)] (.tup [FrOwn 0 W H p.length, B (decide (PutOk W H p q x y m lv))])) := ⟨fun W H p w h q b d lens x y m lv hl => by
  obtain ⟨hpl, hll⟩ := hl
  have hrl := resL_le b q lv
  have hmw := modeW_nil m
  by_cases hok : LvOk lv ∧ 0 < stepL q
  · have hrn := resL_len (b := b) hok
    have hr0 : ¬ (resL b q lv).length = 0 := by have := hok.1.2; omega
    by_cases hf : Fits W H p x y (side lv.length)
    · by_cases hm : 0 ≤ m ∧ m ≤ 5
      · have hp : PutOk W H p q x y m lv := ⟨hf, hok, hm⟩
        have hd := decide_eq_true hp
        have hds := decide_eq_true (put_set (b := b) hp)
        unfold nbP at hds
        have hmw2 : ¬ modeW m = [] := fun hh => (hmw.1 hh) hm
        have htw := put_two (b := b) hp
        unfold nbP at htw
        obtain ⟨hn1, hn2⟩ := nb_lens hf
        have hn3 := hf.2.1
        have hn4 := nb_ok hf
        have hpr : (predS m (topL W H p x y (side lv.length)) (lefL W H p x y (side lv.length)) (corL W H p x y (side lv.length)) (hasT W H p x y (side lv.length)) (hasE W H p x y (side lv.length)) (side lv.length)).length ≤ 64 := by have := htw.2; have := hok.1.2; omega
        have hre := recL_len (predS m (topL W H p x y (side lv.length)) (lefL W H p x y (side lv.length)) (corL W H p x y (side lv.length)) (hasT W H p x y (side lv.length)) (hasE W H p x y (side lv.length)) (side lv.length)) (resL b q lv)
        have hsl := setL_len W H p x y (recL (predS m (topL W H p x y (side lv.length)) (lefL W H p x y (side lv.length)) (corL W H p x y (side lv.length)) (hasT W H p x y (side lv.length)) (hasE W H p x y (side lv.length)) (side lv.length)) (resL b q lv))
        rw [if_pos htw.1] at hre
        rw [put_eq hp, hd]
        rw [← hrn] at hf hds hn1 hn2 hn3 hn4 hpr hre hsl htw ⊢
        refine FnC.of_body tabOk Tryz.func23 Tryz.ntmps23 rfl (by decide +kernel) (by simp) fun G => ?_
        refine goR (r := ?_); and_intros <;> intros <;> try exact True.intro
        all_goals first | contradiction | omega | skip
        refine K.call ?_
        apply WpL.callI (ResidualOf_c.ok w h q b d lens lv hll)
        · exact snapA
        · exact locA
        · exact outA
        · exact frzA
        · decide
        refine goR (r := ?_); and_intros <;> intros <;> try exact True.intro
        all_goals first | contradiction | omega | skip
        try dsimp only [List.append]
        apply WpA.regionNO 17 mixed (by decide +kernel)
        · exact rfl
        · exact rfl
        · exact headNI
        · exact trueA
        · exact trueA
        · exact rfl
        · exact rfl
        · exact rfl
        refine go (r := ?_); and_intros <;> intros <;> try exact True.intro
        all_goals first | contradiction | omega | exact hds | trace_state
      · have hd := decide_eq_false (fun hh : PutOk W H p q x y m lv => hm hh.2.2)
        have hmw2 : modeW m = [] := hmw.2 hm
        rw [put_no (of_decide_eq_false hd), hd]
        refine FnC.of_body tabOk Tryz.func23 Tryz.ntmps23 rfl (by decide +kernel) (by simp) fun G => ?_
        refine goR (r := ?_); and_intros <;> intros <;> try exact True.intro
        all_goals first | contradiction | omega | skip
        refine K.call ?_
        apply WpL.callI (ResidualOf_c.ok w h q b d lens lv hll)
        · exact snapA
        · exact locA
        · exact outA
        · exact frzA
        · decide
        refine goR (r := ?_); and_intros <;> intros <;> try exact True.intro
        all_goals first | contradiction | omega | trace_state
    · have hd := decide_eq_false (fun hh : PutOk W H p q x y m lv => hf hh.1)
      rw [put_no (of_decide_eq_false hd), hd]
      rw [← hrn] at hf
      refine FnC.of_body tabOk Tryz.func23 Tryz.ntmps23 rfl (by decide +kernel) (by simp) fun G => ?_
      refine goR (r := ?_); and_intros <;> intros <;> try exact True.intro
      all_goals first | contradiction | omega | skip
      refine K.call ?_
      apply WpL.callI (ResidualOf_c.ok w h q b d lens lv hll)
      · exact snapA
      · exact locA
      · exact outA
      · exact frzA
      · decide
      refine goR (r := ?_); and_intros <;> intros <;> try exact True.intro
      all_goals first | contradiction | omega | trace_state
  · have hd := decide_eq_false (fun hh : PutOk W H p q x y m lv => hok hh.2.1)
    have hrn := resL_n (b := b) hok
    have hr0 : (resL b q lv).length = 0 := by rw [hrn]; rfl
    have hf0 : ¬ Fits W H p x y (side 0) := fit0
    rw [put_no (of_decide_eq_false hd), hd]
    refine FnC.of_body tabOk Tryz.func23 Tryz.ntmps23 rfl (by decide +kernel) (by simp) fun G => ?_
    refine goR (r := ?_); and_intros <;> intros <;> try exact True.intro
    all_goals first | contradiction | omega | skip
    refine K.call ?_
    apply WpL.callI (ResidualOf_c.ok w h q b d lens lv hll)
    · exact snapA
    · exact locA
    · exact outA
    · exact frzA
    · decide
    rw [hrn]
    refine goR (r := ?_); and_intros <;> intros <;> try exact True.intro
    all_goals first | contradiction | omega | trace_state
  ⟩
end
end Go.Proofs.YtjhejgamjlokdaaGreat


namespace Go.Proofs.YtjhejgamjlokdaaGreat
open Go Go.Abs
attribute [local irreducible] WpA WpL Rnd Blk Abs.Seq Abs.Fin Abs.FinG FnC FnG Only
attribute [local irreducible] topF lefF
attribute [local simp] Abs.setL
instance NbAt_s : Con 31 (∀ (W H : Int) (p : List Int) (x y n : Int), p.length ≤ 1099511627776 → Fn 31 [FrA W H p, I x, I y, I n] [XI (topL W H p x y n), XI (lefL W H p x y n)] (NbOwn W H p x y n)) := ⟨fun W H p x y n hl => by
  by_cases h : Fits W H p x y n
  · have ht : topL W H p x y n = tabL (topF W p x y n) (2 * n).toNat := by unfold topL; rw [if_pos h]
    have hle : lefL W H p x y n = tabL (lefF W p x y) n.toNat := by unfold lefL; rw [if_pos h]
    have hco : corL W H p x y n = if 0 < x ∧ 0 < y then p.getD ((y - 1) * W + x - 1).toNat 0 else 128 := by unfold corL; rw [if_pos h]
    have hhT : hasT W H p x y n = decide (0 < y) := by unfold hasT; rw [Bool.eq_iff_iff]; simp only [decide_eq_true_eq]; exact ⟨fun hh => hh.2, fun hh => ⟨h, hh⟩⟩
    have hhE : hasE W H p x y n = decide (0 < x) := by unfold hasE; rw [Bool.eq_iff_iff]; simp only [decide_eq_true_eq]; exact ⟨fun hh => hh.2, fun hh => ⟨h, hh⟩⟩
    unfold NbOwn
    rw [ht, hle, hco, hhT, hhE, tabL_len, tabL_len]
    have hd := decide_eq_true h
    obtain ⟨h0, h1, hx, hy, _⟩ := id h
    by_cases hx0 : 0 < x
    · by_cases hy0 : 0 < y
      · obtain ⟨b1, b2, b3⟩ := nb_cx h hx0 hy0
        rw [if_pos ⟨hx0, hy0⟩]
        refine FnC.of_body tabOk Tryz.func31 Tryz.ntmps31 rfl (by decide +kernel) (by simp) fun G => ?_
        refine go (r := ?_); and_intros <;> intros <;> try exact True.intro
        all_goals first | contradiction | (exact absurd h (by assumption)) | omega | skip
        refine WpA.loop (fun k : Nat => ⟨[(1, I x), (2, I y), (3, I n), (4, .ptr 0 0 0), (8, .ptr 1 0 0), (9, .ptr 2 0 0), (10, I k)], [FrO W H p, Nb0, ⟨[.nilS, .own 3 0 0 k, I (p.getD ((y - 1) * W + x - 1).toNat 0), B (decide (0 < y)), B (decide (0 < x))], 0, 0, none⟩, XI (tabL (lefF W p x y) k)]⟩) (fun k => (k : Int) ≤ n) (fun k => n.toNat - k) 0 (by omega) ?_ ?_
        · exact Weak.nil1 (by first | (show 0 ≤ _; exact Nat.zero_le _) | (repeat' (first | exact RzT.nil | refine RzT.cons ?_ ?_ | exact Rz.nil | refine Rz.keep rfl rfl ?_ | refine Rz.own rfl rfl rfl rfl rfl (by first | rfl | omega | (simp; done)) ?_ | refine Rz.ptr rfl rfl rfl rfl ?_ | refine Rz.nilO rfl rfl rfl (by first | rfl | omega | (simp; done)) ?_ | refine Rz.agg ?_ ?_ | exact RzO.last rfl | (refine RzO.cons ?_ (.inr rfl) ?_) | exact Rz.same rfl (still_ints _) | exact Rz.same rfl (still_rows (fun _ => rfl) _)))) (by first | (show 0 ≤ _; exact Nat.zero_le _) | (repeat' (first | exact RzT.nil | refine RzT.cons ?_ ?_ | exact Rz.nil | refine Rz.keep rfl rfl ?_ | refine Rz.own rfl rfl rfl rfl rfl (by first | rfl | omega | (simp; done)) ?_ | refine Rz.ptr rfl rfl rfl rfl ?_ | refine Rz.nilO rfl rfl rfl (by first | rfl | omega | (simp; done)) ?_ | refine Rz.agg ?_ ?_ | exact RzO.last rfl | (refine RzO.cons ?_ (.inr rfl) ?_) | exact Rz.same rfl (still_ints _) | exact Rz.same rfl (still_rows (fun _ => rfl) _)))) (Nat.le_of_ble_eq_true rfl)
        intro k hk
        try simp only at hk ⊢
        have hkl2 := tabL_len (lefF W p x y) k
        by_cases hlt2 : (k : Int) < n
        · have hsn := tabL_snoc (lefF W p x y) k
          by_cases hx0 : 0 < x
          · obtain ⟨b1, b2, b3⟩ := nb_lx h hlt2 hx0
            have hq : lefF W p x y k = p.getD ((y + k) * W + x - 1).toNat 0 := by unfold lefF; rw [if_pos hx0]
            rw [hq] at hsn
            refine go (r := ?_); and_intros <;> intros <;> try exact True.intro
            all_goals first | contradiction | omega | exact hsn.symm | trace_state
          · have hq : lefF W p x y k = 128 := by unfold lefF; rw [if_neg hx0]
            rw [hq] at hsn
            refine go (r := ?_); and_intros <;> intros <;> try exact True.intro
            all_goals first | contradiction | omega | exact hsn.symm | trace_state
        have hke : k = n.toNat := by omega
        subst hke
        refine go (r := ?_); and_intros <;> intros <;> try exact True.intro
        all_goals first | contradiction | omega | skip
        refine WpA.loop (fun k : Nat => ⟨[(1, I x), (2, I y), (3, I n), (4, .ptr 0 0 0), (8, .ptr 1 0 0), (9, .ptr 2 0 0), (12, I k)], [FrO W H p, Nb0, ⟨[.own 4 0 0 k, .own 3 0 0 n.toNat, I (p.getD ((y - 1) * W + x - 1).toNat 0), B (decide (0 < y)), B (decide (0 < x))], 0, 0, none⟩, XI (tabL (lefF W p x y) n.toNat), XI (tabL (topF W p x y n) k)]⟩) (fun k => (k : Int) ≤ 2 * n) (fun k => (2 * n).toNat - k) 0 (by omega) ?_ ?_
        · exact Weak.nil1 (by first | (show 0 ≤ _; exact Nat.zero_le _) | (repeat' (first | exact RzT.nil | refine RzT.cons ?_ ?_ | exact Rz.nil | refine Rz.keep rfl rfl ?_ | refine Rz.own rfl rfl rfl rfl rfl (by first | rfl | omega | (simp; done)) ?_ | refine Rz.ptr rfl rfl rfl rfl ?_ | refine Rz.nilO rfl rfl rfl (by first | rfl | omega | (simp; done)) ?_ | refine Rz.agg ?_ ?_ | exact RzO.last rfl | (refine RzO.cons ?_ (.inr rfl) ?_) | exact Rz.same rfl (still_ints _) | exact Rz.same rfl (still_rows (fun _ => rfl) _)))) (by first | (show 0 ≤ _; exact Nat.zero_le _) | (repeat' (first | exact RzT.nil | refine RzT.cons ?_ ?_ | exact Rz.nil | refine Rz.keep rfl rfl ?_ | refine Rz.own rfl rfl rfl rfl rfl (by first | rfl | omega | (simp; done)) ?_ | refine Rz.ptr rfl rfl rfl rfl ?_ | refine Rz.nilO rfl rfl rfl (by first | rfl | omega | (simp; done)) ?_ | refine Rz.agg ?_ ?_ | exact RzO.last rfl | (refine RzO.cons ?_ (.inr rfl) ?_) | exact Rz.same rfl (still_ints _) | exact Rz.same rfl (still_rows (fun _ => rfl) _)))) (Nat.le_of_ble_eq_true rfl)
        intro k hk
        try simp only at hk ⊢
        have hkl := tabL_len (topF W p x y n) k
        by_cases hlt : (k : Int) < 2 * n
        · have hq := topF_eq W p x y n (by omega) k
          have hsn := tabL_snoc (topF W p x y n) k
          by_cases hy0 : y = 0
          · rw [if_pos hy0] at hq
            rw [hq] at hsn
            refine go (r := ?_); and_intros <;> intros <;> try exact True.intro
            all_goals first | contradiction | omega | skip
            all_goals
              refine WpL.openAny (t := 83) rfl (fun v0 => ?_)
              by_cases hv : v0 = .bool false
              · subst hv
                refine go (r := ?_); and_intros <;> intros <;> try exact True.intro
                all_goals first | contradiction | omega | exact hsn.symm | trace_state
              · repeat (refine WpL.guardV (σ := ⟨_, _⟩) rfl rfl (by decide) rfl hv rfl ?_)
                refine WpL.openAny (t := 87) rfl (fun v1 => ?_)
                by_cases hv1 : v1 = .bool true
                · subst hv1
                  refine go (r := ?_); and_intros <;> intros <;> try exact True.intro
                  all_goals first | contradiction | omega | skip
                  all_goals
                    refine WpL.guardV (σ := ⟨_, _⟩) rfl rfl (by decide) rfl hv rfl ?_
                    refine go (r := ?_); and_intros <;> intros <;> try exact True.intro
                    all_goals first | contradiction | omega | exact hsn.symm | trace_state
                · repeat (refine WpL.guardV (σ := ⟨_, _⟩) rfl rfl (by decide) rfl hv1 rfl ?_)
                  refine WpL.guardV (σ := ⟨_, _⟩) rfl rfl (by decide) rfl hv rfl ?_
                  refine go (r := ?_); and_intros <;> intros <;> try exact True.intro
                  all_goals first | contradiction | omega | exact hsn.symm | trace_state
          · rw [if_neg hy0] at hq
            by_cases hc : (k : Int) < n ∨ (y % 8 = 0 ∧ x + k < W)
            · rw [if_pos hc] at hq
              rw [hq] at hsn
              obtain ⟨b1, b2, b3⟩ := nb_ix h hlt hy0 hc
              by_cases hc0 : (k : Int) < n
              · refine go (r := ?_); and_intros <;> intros <;> try exact True.intro
                all_goals first | contradiction | omega | skip
                all_goals
                  refine WpL.openAny (t := 87) rfl (fun v0 => ?_)
                  by_cases hv : v0 = .bool true
                  · subst hv
                    refine go (r := ?_); and_intros <;> intros <;> try exact True.intro
                    all_goals first | contradiction | omega | exact hsn.symm | trace_state
                  · repeat (refine WpL.guardV (σ := ⟨_, _⟩) rfl rfl (by decide) rfl hv rfl ?_)
                    refine go (r := ?_); and_intros <;> intros <;> try exact True.intro
                    all_goals first | contradiction | omega | exact hsn.symm | trace_state
              · obtain ⟨hc1, hc2⟩ : y % 8 = 0 ∧ x + k < W := hc.resolve_left hc0
                refine go (r := ?_); and_intros <;> intros <;> try exact True.intro
                all_goals first | contradiction | omega | exact hsn.symm | trace_state
            · rw [if_neg hc] at hq
              rw [hq] at hsn
              have hk0 : 0 < k := by omega
              have ek : ((k : Int) - 1).toNat = k - 1 := by omega
              have hge : (tabL (topF W p x y n) k).getD (k - 1) 0 = topF W p x y n (k - 1) := tabL_get (by omega)
              by_cases hc0 : (k : Int) < n
              · exact absurd (.inl hc0) hc
              by_cases hc1 : y % 8 = 0
              · have hc2 : ¬ x + k < W := fun hh => hc (.inr ⟨hc1, hh⟩)
                refine go (r := ?_); and_intros <;> intros <;> try exact True.intro
                all_goals first | contradiction | omega | (rw [ek, hge]; exact hsn.symm) | trace_state
              · refine go (r := ?_); and_intros <;> intros <;> try exact True.intro
                all_goals first | contradiction | omega | (rw [ek, hge]; exact hsn.symm) | trace_state
        have hke : k = (2 * n).toNat := by omega
        subst hke
        refine go (r := ?_); and_intros <;> intros <;> try exact True.intro
        all_goals first | contradiction | omega | trace_state
      · rw [if_neg (fun hh => hy0 hh.2)]
        refine FnC.of_body tabOk Tryz.func31 Tryz.ntmps31 rfl (by decide +kernel) (by simp) fun G => ?_
        refine go (r := ?_); and_intros <;> intros <;> try exact True.intro
        all_goals first | contradiction | (exact absurd h (by assumption)) | omega | skip
        refine WpA.loop (fun k : Nat => ⟨[(1, I x), (2, I y), (3, I n), (4, .ptr 0 0 0), (8, .ptr 1 0 0), (9, .ptr 2 0 0), (10, I k)], [FrO W H p, Nb0, ⟨[.nilS, .own 3 0 0 k, I (128), B (decide (0 < y)), B (decide (0 < x))], 0, 0, none⟩, XI (tabL (lefF W p x y) k)]⟩) (fun k => (k : Int) ≤ n) (fun k => n.toNat - k) 0 (by omega) ?_ ?_
        · exact Weak.nil1 (by first | (show 0 ≤ _; exact Nat.zero_le _) | (repeat' (first | exact RzT.nil | refine RzT.cons ?_ ?_ | exact Rz.nil | refine Rz.keep rfl rfl ?_ | refine Rz.own rfl rfl rfl rfl rfl (by first | rfl | omega | (simp; done)) ?_ | refine Rz.ptr rfl rfl rfl rfl ?_ | refine Rz.nilO rfl rfl rfl (by first | rfl | omega | (simp; done)) ?_ | refine Rz.agg ?_ ?_ | exact RzO.last rfl | (refine RzO.cons ?_ (.inr rfl) ?_) | exact Rz.same rfl (still_ints _) | exact Rz.same rfl (still_rows (fun _ => rfl) _)))) (by first | (show 0 ≤ _; exact Nat.zero_le _) | (repeat' (first | exact RzT.nil | refine RzT.cons ?_ ?_ | exact Rz.nil | refine Rz.keep rfl rfl ?_ | refine Rz.own rfl rfl rfl rfl rfl (by first | rfl | omega | (simp; done)) ?_ | refine Rz.ptr rfl rfl rfl rfl ?_ | refine Rz.nilO rfl rfl rfl (by first | rfl | omega | (simp; done)) ?_ | refine Rz.agg ?_ ?_ | exact RzO.last rfl | (refine RzO.cons ?_ (.inr rfl) ?_) | exact Rz.same rfl (still_ints _) | exact Rz.same rfl (still_rows (fun _ => rfl) _)))) (Nat.le_of_ble_eq_true rfl)
        intro k hk
        try simp only at hk ⊢
        have hkl2 := tabL_len (lefF W p x y) k
        by_cases hlt2 : (k : Int) < n
        · have hsn := tabL_snoc (lefF W p x y) k
          by_cases hx0 : 0 < x
          · obtain ⟨b1, b2, b3⟩ := nb_lx h hlt2 hx0
            have hq : lefF W p x y k = p.getD ((y + k) * W + x - 1).toNat 0 := by unfold lefF; rw [if_pos hx0]
            rw [hq] at hsn
            refine go (r := ?_); and_intros <;> intros <;> try exact True.intro
            all_goals first | contradiction | omega | exact hsn.symm | trace_state
          · have hq : lefF W p x y k = 128 := by unfold lefF; rw [if_neg hx0]
            rw [hq] at hsn
            refine go (r := ?_); and_intros <;> intros <;> try exact True.intro
            all_goals first | contradiction | omega | exact hsn.symm | trace_state
        have hke : k = n.toNat := by omega
        subst hke
        refine go (r := ?_); and_intros <;> intros <;> try exact True.intro
        all_goals first | contradiction | omega | skip
        refine WpA.loop (fun k : Nat => ⟨[(1, I x), (2, I y), (3, I n), (4, .ptr 0 0 0), (8, .ptr 1 0 0), (9, .ptr 2 0 0), (12, I k)], [FrO W H p, Nb0, ⟨[.own 4 0 0 k, .own 3 0 0 n.toNat, I (128), B (decide (0 < y)), B (decide (0 < x))], 0, 0, none⟩, XI (tabL (lefF W p x y) n.toNat), XI (tabL (topF W p x y n) k)]⟩) (fun k => (k : Int) ≤ 2 * n) (fun k => (2 * n).toNat - k) 0 (by omega) ?_ ?_
        · exact Weak.nil1 (by first | (show 0 ≤ _; exact Nat.zero_le _) | (repeat' (first | exact RzT.nil | refine RzT.cons ?_ ?_ | exact Rz.nil | refine Rz.keep rfl rfl ?_ | refine Rz.own rfl rfl rfl rfl rfl (by first | rfl | omega | (simp; done)) ?_ | refine Rz.ptr rfl rfl rfl rfl ?_ | refine Rz.nilO rfl rfl rfl (by first | rfl | omega | (simp; done)) ?_ | refine Rz.agg ?_ ?_ | exact RzO.last rfl | (refine RzO.cons ?_ (.inr rfl) ?_) | exact Rz.same rfl (still_ints _) | exact Rz.same rfl (still_rows (fun _ => rfl) _)))) (by first | (show 0 ≤ _; exact Nat.zero_le _) | (repeat' (first | exact RzT.nil | refine RzT.cons ?_ ?_ | exact Rz.nil | refine Rz.keep rfl rfl ?_ | refine Rz.own rfl rfl rfl rfl rfl (by first | rfl | omega | (simp; done)) ?_ | refine Rz.ptr rfl rfl rfl rfl ?_ | refine Rz.nilO rfl rfl rfl (by first | rfl | omega | (simp; done)) ?_ | refine Rz.agg ?_ ?_ | exact RzO.last rfl | (refine RzO.cons ?_ (.inr rfl) ?_) | exact Rz.same rfl (still_ints _) | exact Rz.same rfl (still_rows (fun _ => rfl) _)))) (Nat.le_of_ble_eq_true rfl)
        intro k hk
        try simp only at hk ⊢
        have hkl := tabL_len (topF W p x y n) k
        by_cases hlt : (k : Int) < 2 * n
        · have hq := topF_eq W p x y n (by omega) k
          have hsn := tabL_snoc (topF W p x y n) k
          by_cases hy0 : y = 0
          · rw [if_pos hy0] at hq
            rw [hq] at hsn
            refine go (r := ?_); and_intros <;> intros <;> try exact True.intro
            all_goals first | contradiction | omega | skip
            all_goals
              refine WpL.openAny (t := 83) rfl (fun v0 => ?_)
              by_cases hv : v0 = .bool false
              · subst hv
                refine go (r := ?_); and_intros <;> intros <;> try exact True.intro
                all_goals first | contradiction | omega | exact hsn.symm | trace_state
              · repeat (refine WpL.guardV (σ := ⟨_, _⟩) rfl rfl (by decide) rfl hv rfl ?_)
                refine WpL.openAny (t := 87) rfl (fun v1 => ?_)
                by_cases hv1 : v1 = .bool true
                · subst hv1
                  refine go (r := ?_); and_intros <;> intros <;> try exact True.intro
                  all_goals first | contradiction | omega | skip
                  all_goals
                    refine WpL.guardV (σ := ⟨_, _⟩) rfl rfl (by decide) rfl hv rfl ?_
                    refine go (r := ?_); and_intros <;> intros <;> try exact True.intro
                    all_goals first | contradiction | omega | exact hsn.symm | trace_state
                · repeat (refine WpL.guardV (σ := ⟨_, _⟩) rfl rfl (by decide) rfl hv1 rfl ?_)
                  refine WpL.guardV (σ := ⟨_, _⟩) rfl rfl (by decide) rfl hv rfl ?_
                  refine go (r := ?_); and_intros <;> intros <;> try exact True.intro
                  all_goals first | contradiction | omega | exact hsn.symm | trace_state
          · rw [if_neg hy0] at hq
            by_cases hc : (k : Int) < n ∨ (y % 8 = 0 ∧ x + k < W)
            · rw [if_pos hc] at hq
              rw [hq] at hsn
              obtain ⟨b1, b2, b3⟩ := nb_ix h hlt hy0 hc
              by_cases hc0 : (k : Int) < n
              · refine go (r := ?_); and_intros <;> intros <;> try exact True.intro
                all_goals first | contradiction | omega | skip
                all_goals
                  refine WpL.openAny (t := 87) rfl (fun v0 => ?_)
                  by_cases hv : v0 = .bool true
                  · subst hv
                    refine go (r := ?_); and_intros <;> intros <;> try exact True.intro
                    all_goals first | contradiction | omega | exact hsn.symm | trace_state
                  · repeat (refine WpL.guardV (σ := ⟨_, _⟩) rfl rfl (by decide) rfl hv rfl ?_)
                    refine go (r := ?_); and_intros <;> intros <;> try exact True.intro
                    all_goals first | contradiction | omega | exact hsn.symm | trace_state
              · obtain ⟨hc1, hc2⟩ : y % 8 = 0 ∧ x + k < W := hc.resolve_left hc0
                refine go (r := ?_); and_intros <;> intros <;> try exact True.intro
                all_goals first | contradiction | omega | exact hsn.symm | trace_state
            · rw [if_neg hc] at hq
              rw [hq] at hsn
              have hk0 : 0 < k := by omega
              have ek : ((k : Int) - 1).toNat = k - 1 := by omega
              have hge : (tabL (topF W p x y n) k).getD (k - 1) 0 = topF W p x y n (k - 1) := tabL_get (by omega)
              by_cases hc0 : (k : Int) < n
              · exact absurd (.inl hc0) hc
              by_cases hc1 : y % 8 = 0
              · have hc2 : ¬ x + k < W := fun hh => hc (.inr ⟨hc1, hh⟩)
                refine go (r := ?_); and_intros <;> intros <;> try exact True.intro
                all_goals first | contradiction | omega | (rw [ek, hge]; exact hsn.symm) | trace_state
              · refine go (r := ?_); and_intros <;> intros <;> try exact True.intro
                all_goals first | contradiction | omega | (rw [ek, hge]; exact hsn.symm) | trace_state
        have hke : k = (2 * n).toNat := by omega
        subst hke
        refine go (r := ?_); and_intros <;> intros <;> try exact True.intro
        all_goals first | contradiction | omega | trace_state
    · rw [if_neg (fun hh => hx0 hh.1)]
      refine FnC.of_body tabOk Tryz.func31 Tryz.ntmps31 rfl (by decide +kernel) (by simp) fun G => ?_
      refine go (r := ?_); and_intros <;> intros <;> try exact True.intro
      all_goals first | contradiction | (exact absurd h (by assumption)) | omega | skip
      refine WpA.loop (fun k : Nat => ⟨[(1, I x), (2, I y), (3, I n), (4, .ptr 0 0 0), (8, .ptr 1 0 0), (9, .ptr 2 0 0), (10, I k)], [FrO W H p, Nb0, ⟨[.nilS, .own 3 0 0 k, I (128), B (decide (0 < y)), B (decide (0 < x))], 0, 0, none⟩, XI (tabL (lefF W p x y) k)]⟩) (fun k => (k : Int) ≤ n) (fun k => n.toNat - k) 0 (by omega) ?_ ?_
      · exact Weak.nil1 (by first | (show 0 ≤ _; exact Nat.zero_le _) | (repeat' (first | exact RzT.nil | refine RzT.cons ?_ ?_ | exact Rz.nil | refine Rz.keep rfl rfl ?_ | refine Rz.own rfl rfl rfl rfl rfl (by first | rfl | omega | (simp; done)) ?_ | refine Rz.ptr rfl rfl rfl rfl ?_ | refine Rz.nilO rfl rfl rfl (by first | rfl | omega | (simp; done)) ?_ | refine Rz.agg ?_ ?_ | exact RzO.last rfl | (refine RzO.cons ?_ (.inr rfl) ?_) | exact Rz.same rfl (still_ints _) | exact Rz.same rfl (still_rows (fun _ => rfl) _)))) (by first | (show 0 ≤ _; exact Nat.zero_le _) | (repeat' (first | exact RzT.nil | refine RzT.cons ?_ ?_ | exact Rz.nil | refine Rz.keep rfl rfl ?_ | refine Rz.own rfl rfl rfl rfl rfl (by first | rfl | omega | (simp; done)) ?_ | refine Rz.ptr rfl rfl rfl rfl ?_ | refine Rz.nilO rfl rfl rfl (by first | rfl | omega | (simp; done)) ?_ | refine Rz.agg ?_ ?_ | exact RzO.last rfl | (refine RzO.cons ?_ (.inr rfl) ?_) | exact Rz.same rfl (still_ints _) | exact Rz.same rfl (still_rows (fun _ => rfl) _)))) (Nat.le_of_ble_eq_true rfl)
      intro k hk
      try simp only at hk ⊢
      have hkl2 := tabL_len (lefF W p x y) k
      by_cases hlt2 : (k : Int) < n
      · have hsn := tabL_snoc (lefF W p x y) k
        by_cases hx0 : 0 < x
        · obtain ⟨b1, b2, b3⟩ := nb_lx h hlt2 hx0
          have hq : lefF W p x y k = p.getD ((y + k) * W + x - 1).toNat 0 := by unfold lefF; rw [if_pos hx0]
          rw [hq] at hsn
          refine go (r := ?_); and_intros <;> intros <;> try exact True.intro
          all_goals first | contradiction | omega | exact hsn.symm | trace_state
        · have hq : lefF W p x y k = 128 := by unfold lefF; rw [if_neg hx0]
          rw [hq] at hsn
          refine go (r := ?_); and_intros <;> intros <;> try exact True.intro
          all_goals first | contradiction | omega | exact hsn.symm | trace_state
      have hke : k = n.toNat := by omega
      subst hke
      refine go (r := ?_); and_intros <;> intros <;> try exact True.intro
      all_goals first | contradiction | omega | skip
      refine WpA.loop (fun k : Nat => ⟨[(1, I x), (2, I y), (3, I n), (4, .ptr 0 0 0), (8, .ptr 1 0 0), (9, .ptr 2 0 0), (12, I k)], [FrO W H p, Nb0, ⟨[.own 4 0 0 k, .own 3 0 0 n.toNat, I (128), B (decide (0 < y)), B (decide (0 < x))], 0, 0, none⟩, XI (tabL (lefF W p x y) n.toNat), XI (tabL (topF W p x y n) k)]⟩) (fun k => (k : Int) ≤ 2 * n) (fun k => (2 * n).toNat - k) 0 (by omega) ?_ ?_
      · exact Weak.nil1 (by first | (show 0 ≤ _; exact Nat.zero_le _) | (repeat' (first | exact RzT.nil | refine RzT.cons ?_ ?_ | exact Rz.nil | refine Rz.keep rfl rfl ?_ | refine Rz.own rfl rfl rfl rfl rfl (by first | rfl | omega | (simp; done)) ?_ | refine Rz.ptr rfl rfl rfl rfl ?_ | refine Rz.nilO rfl rfl rfl (by first | rfl | omega | (simp; done)) ?_ | refine Rz.agg ?_ ?_ | exact RzO.last rfl | (refine RzO.cons ?_ (.inr rfl) ?_) | exact Rz.same rfl (still_ints _) | exact Rz.same rfl (still_rows (fun _ => rfl) _)))) (by first | (show 0 ≤ _; exact Nat.zero_le _) | (repeat' (first | exact RzT.nil | refine RzT.cons ?_ ?_ | exact Rz.nil | refine Rz.keep rfl rfl ?_ | refine Rz.own rfl rfl rfl rfl rfl (by first | rfl | omega | (simp; done)) ?_ | refine Rz.ptr rfl rfl rfl rfl ?_ | refine Rz.nilO rfl rfl rfl (by first | rfl | omega | (simp; done)) ?_ | refine Rz.agg ?_ ?_ | exact RzO.last rfl | (refine RzO.cons ?_ (.inr rfl) ?_) | exact Rz.same rfl (still_ints _) | exact Rz.same rfl (still_rows (fun _ => rfl) _)))) (Nat.le_of_ble_eq_true rfl)
      intro k hk
      try simp only at hk ⊢
      have hkl := tabL_len (topF W p x y n) k
      by_cases hlt : (k : Int) < 2 * n
      · have hq := topF_eq W p x y n (by omega) k
        have hsn := tabL_snoc (topF W p x y n) k
        by_cases hy0 : y = 0
        · rw [if_pos hy0] at hq
          rw [hq] at hsn
          refine go (r := ?_); and_intros <;> intros <;> try exact True.intro
          all_goals first | contradiction | omega | skip
          all_goals
            refine WpL.openAny (t := 83) rfl (fun v0 => ?_)
            by_cases hv : v0 = .bool false
            · subst hv
              refine go (r := ?_); and_intros <;> intros <;> try exact True.intro
              all_goals first | contradiction | omega | exact hsn.symm | trace_state
            · repeat (refine WpL.guardV (σ := ⟨_, _⟩) rfl rfl (by decide) rfl hv rfl ?_)
              refine WpL.openAny (t := 87) rfl (fun v1 => ?_)
              by_cases hv1 : v1 = .bool true
              · subst hv1
                refine go (r := ?_); and_intros <;> intros <;> try exact True.intro
                all_goals first | contradiction | omega | skip
                all_goals
                  refine WpL.guardV (σ := ⟨_, _⟩) rfl rfl (by decide) rfl hv rfl ?_
                  refine go (r := ?_); and_intros <;> intros <;> try exact True.intro
                  all_goals first | contradiction | omega | exact hsn.symm | trace_state
              · repeat (refine WpL.guardV (σ := ⟨_, _⟩) rfl rfl (by decide) rfl hv1 rfl ?_)
                refine WpL.guardV (σ := ⟨_, _⟩) rfl rfl (by decide) rfl hv rfl ?_
                refine go (r := ?_); and_intros <;> intros <;> try exact True.intro
                all_goals first | contradiction | omega | exact hsn.symm | trace_state
        · rw [if_neg hy0] at hq
          by_cases hc : (k : Int) < n ∨ (y % 8 = 0 ∧ x + k < W)
          · rw [if_pos hc] at hq
            rw [hq] at hsn
            obtain ⟨b1, b2, b3⟩ := nb_ix h hlt hy0 hc
            by_cases hc0 : (k : Int) < n
            · refine go (r := ?_); and_intros <;> intros <;> try exact True.intro
              all_goals first | contradiction | omega | skip
              all_goals
                refine WpL.openAny (t := 87) rfl (fun v0 => ?_)
                by_cases hv : v0 = .bool true
                · subst hv
                  refine go (r := ?_); and_intros <;> intros <;> try exact True.intro
                  all_goals first | contradiction | omega | exact hsn.symm | trace_state
                · repeat (refine WpL.guardV (σ := ⟨_, _⟩) rfl rfl (by decide) rfl hv rfl ?_)
                  refine go (r := ?_); and_intros <;> intros <;> try exact True.intro
                  all_goals first | contradiction | omega | exact hsn.symm | trace_state
            · obtain ⟨hc1, hc2⟩ : y % 8 = 0 ∧ x + k < W := hc.resolve_left hc0
              refine go (r := ?_); and_intros <;> intros <;> try exact True.intro
              all_goals first | contradiction | omega | exact hsn.symm | trace_state
          · rw [if_neg hc] at hq
            rw [hq] at hsn
            have hk0 : 0 < k := by omega
            have ek : ((k : Int) - 1).toNat = k - 1 := by omega
            have hge : (tabL (topF W p x y n) k).getD (k - 1) 0 = topF W p x y n (k - 1) := tabL_get (by omega)
            by_cases hc0 : (k : Int) < n
            · exact absurd (.inl hc0) hc
            by_cases hc1 : y % 8 = 0
            · have hc2 : ¬ x + k < W := fun hh => hc (.inr ⟨hc1, hh⟩)
              refine go (r := ?_); and_intros <;> intros <;> try exact True.intro
              all_goals first | contradiction | omega | (rw [ek, hge]; exact hsn.symm) | trace_state
            · refine go (r := ?_); and_intros <;> intros <;> try exact True.intro
              all_goals first | contradiction | omega | (rw [ek, hge]; exact hsn.symm) | trace_state
      have hke : k = (2 * n).toNat := by omega
      subst hke
      refine go (r := ?_); and_intros <;> intros <;> try exact True.intro
      all_goals first | contradiction | omega | trace_state
  · have ht : topL W H p x y n = [] := by unfold topL; rw [if_neg h]
    have hle : lefL W H p x y n = [] := by unfold lefL; rw [if_neg h]
    have hco : corL W H p x y n = 0 := by unfold corL; rw [if_neg h]
    have hhT : hasT W H p x y n = false := by unfold hasT; rw [decide_eq_false_iff_not]; exact fun hh => h hh.1
    have hhE : hasE W H p x y n = false := by unfold hasE; rw [decide_eq_false_iff_not]; exact fun hh => h hh.1
    unfold NbOwn
    rw [ht, hle, hco, hhT, hhE]
    have hd := decide_eq_false h
    refine FnC.of_body tabOk Tryz.func31 Tryz.ntmps31 rfl (by decide +kernel) (by simp) fun G => ?_
    refine go (r := ?_); and_intros <;> intros <;> try exact True.intro
    all_goals first | contradiction | omega | trace_state⟩
end Go.Proofs.YtjhejgamjlokdaaGreat
