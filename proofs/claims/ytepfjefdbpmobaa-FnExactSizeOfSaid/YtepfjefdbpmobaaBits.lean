/- Contracts: pairs by the program; bits of blocks, macroblocks, headers. No condition. -/
import Derived.Test.YtepfjefdbpmobaaUe
import Derived.Test.YtepfjefdbpmobaaDefsQ
import Derived.Test.YtepfjefdbpmobaaWork
namespace Go.Proofs.Ytepfjefdbpmobaa
open Go Go.Abs
set_option linter.unusedVariables false
set_option linter.unusedSimpArgs false
set_option maxRecDepth 100000
set_option maxHeartbeats 4000000
attribute [local irreducible] WpA WpL Rnd Blk Abs.Seq Abs.Fin Abs.FinG FnC FnG Only

/-! Lists joined. -/
theorem fm_snoc {α β : Type} [Inhabited α] (f : α → List β) (l : List α) (k : Nat) (h : k < l.length) : (l.take (k + 1)).flatMap f = (l.take k).flatMap f ++ f (l.getD k default) := by
  rw [take_snoc l k h, List.flatMap_append]; simp
theorem fm_bd {α β : Type} (f : α → List β) (c : Nat) (h : ∀ a, (f a).length ≤ c) : ∀ l : List α, (l.flatMap f).length ≤ c * l.length
  | [] => by simp
  | a :: l => by
    have := fm_bd f c h l
    have h1 := h a
    rw [List.flatMap_cons, List.length_append, List.length_cons, Nat.mul_add]; omega

/-! Pairs. -/
theorem pk_in (l : List Int) : ∀ k, k ≤ l.length → ∀ p ∈ (pk l k).1, (0 ≤ p.1 ∧ p.1 ≤ k) ∧ p.2 ≠ 0 ∧ p.2 ∈ l
  | 0, _, p, hp => by simp [pk] at hp
  | k + 1, hk, p, hp => by
    have ih := pk_in l k (by omega)
    have hb := pk_bd l k
    rw [pk] at hp
    split at hp
    · obtain ⟨a, b, c⟩ := ih p hp; exact ⟨by omega, b, c⟩
    · rename_i hz
      rcases List.mem_append.1 hp with hp | hp
      · obtain ⟨a, b, c⟩ := ih p hp; exact ⟨by omega, b, c⟩
      · simp only [List.mem_singleton] at hp
        subst hp
        refine ⟨by omega, hz, ?_⟩
        have e : l.getD k 0 = l[k]'(by omega) := by simp [show k < l.length by omega]
        simp only [e]; exact List.getElem_mem _
theorem in_mem {l : List Int} {lo hi : Int} (h : In l lo hi) {x : Int} (hx : x ∈ l) : lo ≤ x ∧ x ≤ hi := by
  unfold In at h; exact h x hx
theorem prs_in {l : List Int} (h : LvOk l) {k : Nat} (hk : k < (prsL l).length) : (0 ≤ ((prsL l).getD k default).1 ∧ ((prsL l).getD k default).1 ≤ 64) ∧ ((prsL l).getD k default).2 ≠ 0 ∧ -16383 ≤ ((prsL l).getD k default).2 ∧ ((prsL l).getD k default).2 ≤ 16383 := by
  have hm : (prsL l).getD k default ∈ (prsL l) := by simp [hk]
  generalize (prsL l).getD k default = p at hm
  rw [prsL, if_pos h] at hm
  obtain ⟨h1, h2, h3⟩ := pk_in l l.length (Nat.le_refl _) p hm
  have h4 := in_mem h.1 h3
  have h5 : l.length ≤ 64 := by rcases h.2 with h | h <;> omega
  refine ⟨by omega, h2, h4⟩
theorem prs_len (l : List Int) : (prsL l).length ≤ 64 := by
  unfold prsL; split
  · rename_i h
    have := (pk_bd l l.length).1
    rcases h.2 with h | h <;> omega
  · simp
theorem nolL_in {v : Int} (h : v ≠ 0 ∧ -16383 ≤ v ∧ v ≤ 16383) : 0 ≤ nolL v ∧ nolL v ≤ 65534 := by unfold nolL; split <;> (try split) <;> omega
instance PairsOf_c : Con 185 (∀ l : List Int, LvOk l → Fn 185 [IL l] [XP (prsL l)] (.own 0 0 0 (prsL l).length)) := ⟨fun l h => by
  have hl : l.length ≤ 64 := by rcases h.2 with h | h <;> omega
  refine FnC.of_body tabOk Try.func185 Try.ntmps185 rfl (by decide +kernel) (by simp) fun G => ?_
  refine go (r := ?_); and_intros <;> intros <;> try exact True.intro
  all_goals first | (exact absurd h (by assumption)) | skip
  refine WpA.loop (fun k : Nat => ⟨[(3, .own 0 0 0 (pk l k).1.length), (4, I (pk l k).2), (11, IL l), (12, I l.length), (13, I k)], [XP (pk l k).1]⟩) (fun k => k ≤ l.length) (fun k => l.length - k) 0 (by simp) (go (r := ?_)) (fun k hk => ?_)
  · simp [pk]
  have hb := pk_bd l k
  have hend : k = l.length → (pk l k).1 = prsL l := by rintro rfl; rw [prsL, if_pos h]
  by_cases hz : l.getD k 0 = 0
  · have e1 : pk l (k + 1) = ((pk l k).1, (pk l k).2 + 1) := by rw [pk, if_pos hz]
    have e2 : (pk l (k + 1)).1.length = (pk l k).1.length := by rw [e1]
    refine go (r := ?_); and_intros <;> intros <;> try exact True.intro
    all_goals first | (rw [e1]; done) | (rw [hend (by omega)]; done)
  · have e1 : pk l (k + 1) = ((pk l k).1 ++ [((pk l k).2, l.getD k 0)], 0) := by rw [pk, if_neg hz]
    have e2 : (pk l (k + 1)).1.length = (pk l k).1.length + 1 := by rw [e1, List.length_append, List.length_singleton]
    refine go (r := ?_); and_intros <;> intros <;> try exact True.intro
    all_goals first | (rw [e1]; done) | (rw [e1]; rfl) | (rw [hend (by omega)]; done) | trace_state⟩

/-! Bits of blocks. -/
def prB (p : Int × Int) : List Int := ueL p.1 ++ ueL (nolL p.2)
theorem prB_len (p : Int × Int) : (prB p).length ≤ 128 := by
  have h1 := ueL_len p.1
  have h2 := ueL_len (nolL p.2)
  unfold prB; rw [List.length_append]; omega
def bkK (m : Int) (lv lens : List Int) (k : Nat) : List Int := (symL lens m ++ [1] ++ ueL ((prsL lv).length - 1)) ++ ((prsL lv).take k).flatMap prB
def bkL (m : Int) (lv lens : List Int) (n : Int) : List Int := if BlkOk m lv lens n then (if (prsL lv).length = 0 then symL lens m ++ [0] else bkK m lv lens (prsL lv).length) else []
theorem symL_len7 (l : List Int) (m : Int) : (symL l m).length ≤ 48 := by
  unfold symL; split
  · exact bitsL_len _ _
  · simp
theorem bkK_len (m : Int) (lv lens : List Int) (k : Nat) : (bkK m lv lens k).length ≤ 113 + 128 * k := by
  have h1 := symL_len7 lens m
  have h2 := ueL_len ((prsL lv).length - 1)
  have h3 := fm_bd prB 128 prB_len ((prsL lv).take k)
  have h4 : ((prsL lv).take k).length ≤ k := by simp; omega
  unfold bkK; simp only [List.length_append, List.length_cons, List.length_nil]; omega
theorem bkK_zero (m : Int) (lv lens : List Int) : bkK m lv lens 0 = symL lens m ++ [1] ++ ueL ((prsL lv).length - 1) := by simp [bkK]
theorem bkK_succ (m : Int) (lv lens : List Int) (k : Nat) (h : k < (prsL lv).length) : bkK m lv lens (k + 1) = bkK m lv lens k ++ ueL ((prsL lv).getD k default).1 ++ ueL (nolL ((prsL lv).getD k default).2) := by
  unfold bkK; rw [fm_snoc prB _ k h, ← List.append_assoc, prB, ← List.append_assoc]
theorem bkL_len (m : Int) (lv lens : List Int) (n : Int) : (bkL m lv lens n).length ≤ 8400 := by
  have h1 := symL_len7 lens m
  have h2 := bkK_len m lv lens (prsL lv).length
  have h3 := prs_len lv
  unfold bkL; split
  · split
    · simp; omega
    · omega
  · simp
instance BlockBits_s : Con 142 (∀ (m : Int) (lv lens : List Int) (n : Int), lv.length ≤ 1099511627776 ∧ lens.length ≤ 1099511627776 → Fn 142 [.agg [I m, IL lv], IL lens, I n] [XI (bkL m lv lens n)] (.own 0 0 0 (bkL m lv lens n).length)) := ⟨fun m lv lens n hl => by
  have hs := symL_len7 lens m
  have hu := ueL_len ((prsL lv).length - 1)
  have hp := prs_len lv
  refine FnC.of_body tabOk Try.func142 Try.ntmps142 rfl (by decide +kernel) (by simp) fun G => ?_
  by_cases h : BlkOk m lv lens n
  · by_cases h0 : (prsL lv).length = 0
    · have e : bkL m lv lens n = symL lens m ++ [0] := by rw [bkL, if_pos h, if_pos h0]
      refine go (r := ?_); and_intros <;> intros <;> try exact True.intro
      all_goals first | (exact absurd h (by assumption)) | (rw [e]; done) | (rw [e]; simp; done) | trace_state
    · have e : bkL m lv lens n = bkK m lv lens (prsL lv).length := by rw [bkL, if_pos h, if_neg h0]
      have e0 := bkK_zero m lv lens
      have el0 : (symL lens m).length + 1 + (ueL ((prsL lv).length - 1)).length = (bkK m lv lens 0).length := by rw [e0]; simp; omega
      refine go (r := ?_); and_intros <;> intros <;> try exact True.intro
      all_goals first | (exact absurd h (by assumption)) | (exact absurd (by omega) h0) | skip
      refine WpA.loop (fun k : Nat => ⟨[(7, .own 2 0 0 (bkK m lv lens k).length), (8, .own 3 0 0 (prsL lv).length), (9, I k)], [⟨[I m, IL lv], 0, 0, none⟩, XI [], XI (bkK m lv lens k), XP (prsL lv)]⟩) (fun k => k ≤ (prsL lv).length) (fun k => (prsL lv).length - k) 0 (by omega) (go (r := ?_)) (fun k hk => ?_)
      · exact ⟨e0.symm, trivial⟩
      have hb := bkK_len m lv lens k
      have hsc := fun h => bkK_succ m lv lens k h
      refine goR (r := ?_); and_intros <;> intros <;> try exact True.intro
      · have hk2 : k < (prsL lv).length := by omega
        have hpi := prs_in h.2.2.2 hk2
        have hsc := hsc hk2
        have hsl : (bkK m lv lens (k + 1)).length = (bkK m lv lens k).length + (ueL ((prsL lv).getD k default).1).length + (ueL (nolL ((prsL lv).getD k default).2)).length := by rw [hsc]; simp only [List.length_append]
        have ha := ueL_len ((prsL lv).getD k default).1
        have hbb := ueL_len (nolL ((prsL lv).getD k default).2)
        apply WpA.regionQF (O := [⟨[I m, IL lv], 0, 0, none⟩, XI []]) (Or := [XI (bkK m lv lens k), XP (prsL lv)]) (O1 := [⟨[I m, IL lv], 0, 0, none⟩, XI [], XD (bkK m lv lens k ++ ueL ((prsL lv).getD k default).1), XP (prsL lv), XD (ueL ((prsL lv).getD k default).1), XD (ueL (nolL ((prsL lv).getD k default).2)), deadO, deadO]) 15 2 [1] rfl mixed (by decide +kernel)
        · exact rfl
        · apply HeadQ.consF .none rfl
          · exact rfl
          · exact in1
          · exact rfl
          · exact rfl
          apply HeadQ.consF .none rfl
          · exact rfl
          · exact in1
          · exact rfl
          · exact rfl
          apply HeadQ.consF .none rfl
          · exact rfl
          · exact in1
          · exact rfl
          · exact rfl
          apply HeadQ.consF .none rfl
          · exact rfl
          · intro Tv Ov hc hp hd hk
            obtain ⟨A, Ov', rfl⟩ := split2 (hk 1 rfl)
            exact in1
          · exact rfl
          · exact rfl
          apply HeadQ.consF .none rfl
          · exact rfl
          · intro Tv Ov hc hp hd hk
            obtain ⟨A, Ov', rfl⟩ := split2 (hk 1 rfl)
            exact in1
          · exact rfl
          · exact rfl
          apply HeadQ.consF .none rfl
          · exact rfl
          · intro Tv Ov hc hp hd hk
            obtain ⟨A, Ov', rfl⟩ := split2 (hk 1 rfl)
            exact in1
          · exact rfl
          · exact rfl
          apply HeadQ.consF (V := .own 4 1 0 (ueL ((prsL lv).getD k default).1).length) (.put 2 (XD (ueL ((prsL lv).getD k default).1))) rfl
          · exact rfl
          · intro Tv Ov hc hp hd hk
            refine K.call ?_
            refine K.con (fun hcon => ?_)
            refine WpL.callF (hcon _) snapA locA outA (cnt_some _ 0) rfl rfl (by decide) ?_
            rw [Nat.zero_add]
            apply WpL.putNil (p := 2)
            · exact hp 2 _ rfl
            · exact Nat.zero_le _
            · exact rfl
            · first | exact still_ints _ | exact still_rows (fun _ => rfl) _ | rfl
          · exact rfl
          · exact rfl
          apply HeadQ.consF (V := .own 2 1 0 ((bkK m lv lens k).length + (ueL ((prsL lv).getD k default).1).length)) (.step 0 (XD (bkK m lv lens k ++ ueL ((prsL lv).getD k default).1))) rfl
          · exact rfl
          · intro Tv Ov hc hp hd hk
            refine WpL.appInts tabOk rfl rfl (fill_at (O := [⟨[I m, IL lv], 0, 0, none⟩, XI []]) (hp 0 _ rfl)) (Nat.zero_le _) rfl (srcB_own (fill_at (O := [⟨[I m, IL lv], 0, 0, none⟩, XI []]) (hd 6 _ 2 _ (by decide) rfl rfl)) rfl) (by first | rfl | omega) (by first | rfl | omega) (by omega) (by decide) ?_
            exact WpL.nil (Only.mk (congrArg (St.mk _) (step_eq (O := [⟨[I m, IL lv], 0, 0, none⟩, XI []]) Ov (p := 0) _)))
          · exact rfl
          · exact rfl
          apply HeadQ.consF .none rfl
          · exact rfl
          · exact in1
          · exact rfl
          · exact rfl
          apply HeadQ.consF .none rfl
          · exact rfl
          · exact in1
          · exact rfl
          · exact rfl
          apply HeadQ.consF .none rfl
          · exact rfl
          · intro Tv Ov hc hp hd hk
            obtain ⟨A, Ov', rfl⟩ := split2 (hk 1 rfl)
            exact in1
          · exact rfl
          · exact rfl
          apply HeadQ.consF .none rfl
          · exact rfl
          · intro Tv Ov hc hp hd hk
            obtain ⟨A, Ov', rfl⟩ := split2 (hk 1 rfl)
            exact in1
          · exact rfl
          · exact rfl
          apply HeadQ.consF .none rfl
          · exact rfl
          · intro Tv Ov hc hp hd hk
            obtain ⟨A, Ov', rfl⟩ := split2 (hk 1 rfl)
            exact in1
          · exact rfl
          · exact rfl
          apply HeadQ.consF .none rfl
          · exact rfl
          · exact in0
          · exact rfl
          · exact rfl
          apply HeadQ.consF (V := .own 5 1 0 (ueL (nolL ((prsL lv).getD k default).2)).length) (.put 3 (XD (ueL (nolL ((prsL lv).getD k default).2)))) rfl
          · exact rfl
          · intro Tv Ov hc hp hd hk
            refine K.call ?_
            refine K.con (fun hcon => ?_)
            refine WpL.callF (hcon _) snapA locA outA (cnt_some _ 0) rfl rfl (by decide) ?_
            rw [Nat.zero_add]
            apply WpL.putNil (p := 3)
            · exact hp 3 _ rfl
            · exact Nat.zero_le _
            · exact rfl
            · first | exact still_ints _ | exact still_rows (fun _ => rfl) _ | rfl
          · exact rfl
          · exact rfl
          exact HeadQ.nil
        · exact rfl
        · exact rfl
        · exact rfl
        · exact rfl
        · exact rfl
        · exact rfl
        · exact rfl
        refine go (r := ?_); and_intros <;> intros <;> try exact True.intro
        all_goals first | (rw [hsc]; done) | trace_state
      all_goals have ek : k = (prsL lv).length := by omega
      all_goals subst ek
      all_goals rw [e]
  · have e : bkL m lv lens n = [] := by rw [bkL, if_neg h]
    refine go (r := ?_); and_intros <;> intros <;> try exact True.intro
    all_goals first | (exact absurd (by assumption) h) | (rw [e]; done) | (rw [e]; rfl)⟩
abbrev BoxB (m : Int) (lv : List Int) : AObj := ⟨[I m, IL lv], 0, 0, none⟩
instance BlockBits_c : Con 172 (∀ (m : Int) (lv lens : List Int) (n : Int), lv.length ≤ 1099511627776 ∧ lens.length ≤ 1099511627776 ∧ BlkOk m lv lens n → Fn 172 [.agg [I m, IL lv], IL lens, I n] [XI (bkL m lv lens n)] (.own 0 0 0 (bkL m lv lens n).length)) := ⟨fun m lv lens n hl => by
  have hs := symL_len7 lens m
  have hu := ueL_len ((prsL lv).length - 1)
  have hp := prs_len lv
  have h := hl.2.2
  refine FnC.of_body tabOk Try.func172 Try.ntmps172 rfl (by decide +kernel) (by simp) fun G => ?_
  refine goR (r := ?_); and_intros <;> intros <;> try exact True.intro
  all_goals first | (exact absurd h (by assumption)) | skip
  apply WpA.regionQF (O := [BoxB m lv]) (Or := []) (O1 := [BoxB m lv, XD (symL lens m), XQ (prsL lv), deadO, deadO]) 7 2 [] rfl mixed (by decide +kernel)
  · exact rfl
  · apply HeadQ.consF .none rfl
    · exact rfl
    · exact in1
    · exact rfl
    · exact rfl
    apply HeadQ.consF .none rfl
    · exact rfl
    · exact in1
    · exact rfl
    · exact rfl
    apply HeadQ.consF .none rfl
    · exact rfl
    · exact in1
    · exact rfl
    · exact rfl
    apply HeadQ.consF (V := .own 1 1 0 (symL lens m).length) (.put 0 (XD (symL lens m))) rfl
    · exact rfl
    · intro Tv Ov hc hp hd hk
      refine K.call ?_
      refine K.con (fun hcon => ?_)
      refine WpL.callF (hcon _ _ hl.2.1) snapA locA outA (cnt_some _ 0) rfl rfl (by decide) ?_
      rw [Nat.zero_add]
      apply WpL.putNil (p := 0)
      · exact hp 0 _ rfl
      · exact Nat.zero_le _
      · exact rfl
      · first | exact still_ints _ | exact still_rows (fun _ => rfl) _ | rfl
    · exact rfl
    · exact rfl
    apply HeadQ.consF .none rfl
    · exact rfl
    · exact in1
    · exact rfl
    · exact rfl
    apply HeadQ.consF .none rfl
    · exact rfl
    · exact in1
    · exact rfl
    · exact rfl
    apply HeadQ.consF (V := .own 2 1 0 (prsL lv).length) (.put 1 (XQ (prsL lv))) rfl
    · exact rfl
    · intro Tv Ov hc hp hd hk
      refine K.call ?_
      refine K.con (fun hcon => ?_)
      refine WpL.callF (hcon _ h.2.2.2) snapA locA outA (cnt_some _ 0) rfl rfl (by decide) ?_
      rw [Nat.zero_add]
      apply WpL.putNil (p := 1)
      · exact hp 1 _ rfl
      · exact Nat.zero_le _
      · exact rfl
      · first | exact still_ints _ | exact still_rows (fun _ => rfl) _ | rfl
    · exact rfl
    · exact rfl
    exact HeadQ.nil
  · exact rfl
  · exact rfl
  · exact rfl
  · exact rfl
  · exact rfl
  · exact rfl
  · exact rfl
  by_cases h0 : (prsL lv).length = 0
  · have e : bkL m lv lens n = symL lens m ++ [0] := by rw [bkL, if_pos h, if_pos h0]
    refine go (r := ?_); and_intros <;> intros <;> try exact True.intro
    all_goals first | (rw [e]; done) | (rw [e]; simp; done) | trace_state
  · have e : bkL m lv lens n = bkK m lv lens (prsL lv).length := by rw [bkL, if_pos h, if_neg h0]
    have e0 := bkK_zero m lv lens
    have el0 : (symL lens m).length + 1 + (ueL ((prsL lv).length - 1)).length = (bkK m lv lens 0).length := by rw [e0]; simp; omega
    refine goR (r := ?_); and_intros <;> intros <;> try exact True.intro
    (apply WpL.nestLis (id := 7) (cs2 := [.fre 1 _ _, .fre 1 _ _, .fre 1 _ _]) [0, 1, 2]
     · repeat' (first
         | exact NestC.nil
         | (apply NestC.consF
            · exact rfl
            · exact rfl
            · exact rfl
            · exact rfl
            · first | exact Nat.zero_le _ | exact Nat.le_of_ble_eq_true rfl
            · exact still_ints _
            · first | (simp; done) | rfl
            · exact rfl
            · exact rfl))
     · exact rfl
     · repeat' (first
         | exact ToLis.nil
         | (apply ToLis.cons
            · exact rfl
            · first | rfl | (simp; done)))
     · exact rfl)
    refine go (r := ?_); and_intros <;> intros <;> try exact True.intro
    · simp
    · exact smL_cons (by omega) (smL_cons (by decide) (smL_cons (by omega) (smL_nil _)))
    have ef : [symL lens m, [1], ueL ((prsL lv).length - 1)].flatten = bkK m lv lens 0 := by rw [e0]; simp
    refine WpA.loop (fun k : Nat => ⟨[(7, .own 8 0 0 (bkK m lv lens k).length), (37, .own 2 1 0 (prsL lv).length), (38, I (prsL lv).length), (39, I k)], [BoxB m lv, ⟨[], 2, 0, none⟩, XQ (prsL lv), deadO, deadO, deadO, deadO, ⟨rows liF [symL lens m, [1], ueL ((prsL lv).length - 1)], 0, 1, some 22⟩, XI (bkK m lv lens k)]⟩) (fun k => k ≤ (prsL lv).length) (fun k => (prsL lv).length - k) 0 (by omega) (go (r := ?_)) (fun k hk => ?_)
    · trivial
    have hb := bkK_len m lv lens k
    have hsc := fun h => bkK_succ m lv lens k h
    refine goR (r := ?_); and_intros <;> intros <;> try exact True.intro
    · have hk2 : k < (prsL lv).length := by omega
      have hpi := prs_in h.2.2.2 hk2
      have hni := nolL_in (v := ((prsL lv).getD k default).2) (by omega)
      have hsc := hsc hk2
      have ha := ueL_len ((prsL lv).getD k default).1
      have hbb := ueL_len (nolL ((prsL lv).getD k default).2)
      have hfl : [bkK m lv lens k, ueL ((prsL lv).getD k default).1, ueL (nolL ((prsL lv).getD k default).2)].flatten = bkK m lv lens (k + 1) := by rw [hsc]; simp
      have hsm : [bkK m lv lens k, ueL ((prsL lv).getD k default).1, ueL (nolL ((prsL lv).getD k default).2)].length ≤ 1024 ∧ SmL 1048576 [bkK m lv lens k, ueL ((prsL lv).getD k default).1, ueL (nolL ((prsL lv).getD k default).2)] := ⟨by simp, smL_cons (by omega) (smL_cons (by omega) (smL_cons (by omega) (smL_nil _)))⟩
      apply WpA.regionQ0 8 2 mixed (by decide +kernel)
      · exact rfl
      · apply HeadQ.consF .none rfl
        · exact rfl
        · exact in1
        · exact rfl
        · exact rfl
        apply HeadQ.consF .none rfl
        · exact rfl
        · exact in1
        · exact rfl
        · exact rfl
        apply HeadQ.consF .none rfl
        · exact rfl
        · exact in1
        · exact rfl
        · exact rfl
        apply HeadQ.consF (V := .own 10 1 0 (ueL ((prsL lv).getD k default).1).length) (.put 0 (XD (ueL ((prsL lv).getD k default).1))) rfl
        · exact rfl
        · intro Tv Ov hc hp hd hk
          refine K.call ?_
          refine K.con (fun hcon => ?_)
          refine WpL.callF (hcon ((prsL lv).getD k default).1 (by omega)) snapA locA outA (cnt_some _ 0) rfl rfl (by decide) ?_
          rw [Nat.zero_add]
          apply WpL.putNil (p := 0)
          · exact hp 0 _ rfl
          · exact Nat.zero_le _
          · exact rfl
          · first | exact still_ints _ | exact still_rows (fun _ => rfl) _ | rfl
        · exact rfl
        · exact rfl
        apply HeadQ.consF .none rfl
        · exact rfl
        · exact in1
        · exact rfl
        · exact rfl
        apply HeadQ.consF .none rfl
        · exact rfl
        · exact in1
        · exact rfl
        · exact rfl
        apply HeadQ.consF .none rfl
        · exact rfl
        · exact in0
        · exact rfl
        · exact rfl
        apply HeadQ.consF (V := .own 11 1 0 (ueL (nolL ((prsL lv).getD k default).2)).length) (.put 1 (XD (ueL (nolL ((prsL lv).getD k default).2)))) rfl
        · exact rfl
        · intro Tv Ov hc hp hd hk
          refine K.call ?_
          refine K.con (fun hcon => ?_)
          refine WpL.callF (hcon (nolL ((prsL lv).getD k default).2) hni) snapA locA outA (cnt_some _ 0) rfl rfl (by decide) ?_
          rw [Nat.zero_add]
          apply WpL.putNil (p := 1)
          · exact hp 1 _ rfl
          · exact Nat.zero_le _
          · exact rfl
          · first | exact still_ints _ | exact still_rows (fun _ => rfl) _ | rfl
        · exact rfl
        · exact rfl
        exact HeadQ.nil
      · exact rfl
      · exact rfl
      · exact rfl
      · exact rfl
      · exact rfl
      · exact rfl
      refine goR (r := ?_); and_intros <;> intros <;> try exact True.intro
      (apply WpL.nestLis (id := 14) (cs2 := [.fre 1 _ _, .fre 1 _ _, .fre 1 _ _]) [0, 1, 2]
       · repeat' (first
           | exact NestC.nil
           | (apply NestC.consF
              · exact rfl
              · exact rfl
              · exact rfl
              · exact rfl
              · first | exact Nat.zero_le _ | exact Nat.le_of_ble_eq_true rfl
              · exact still_ints _
              · first | (simp; done) | rfl
              · exact rfl
              · exact rfl))
       · exact rfl
       · repeat' (first
           | exact ToLis.nil
           | (apply ToLis.cons
              · exact rfl
              · first | rfl | (simp; done)))
       · exact rfl)
      refine K.call ?_
      refine K.con (fun hcon => ?_)
      refine WpL.callF (hcon [bkK m lv lens k, ueL ((prsL lv).getD k default).1, ueL (nolL ((prsL lv).getD k default).2)] hsm) snapA locA outA rfl rfl rfl (by decide) ?_
      clear hcon
      refine WpL.weak (Weak.fillF (j := 8) rfl rfl rfl (Nat.zero_le _) rfl (still_ints _) rfl rfl) ?_
      rw [hfl]
      refine go (r := ?_); and_intros <;> intros <;> try exact True.intro
      all_goals trace_state
    all_goals have ek : k = (prsL lv).length := by omega
    all_goals subst ek
    all_goals rw [e]⟩
end Go.Proofs.Ytepfjefdbpmobaa
