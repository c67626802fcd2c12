/- Proved in this text: lemmas and contracts of functions that the claim uses (parts: Db). No condition. -/
import Derived.Test.YtjhejgamjlokdaaGreatPlM11
import Derived.Test.YtjhejgamjlokdaaGreatPlM13
import Derived.Test.YtjhejgamjlokdaaGreatPlM14
set_option linter.unusedVariables false
set_option linter.unusedSimpArgs false
set_option maxRecDepth 100000
set_option maxHeartbeats 16000000


namespace Go.Proofs.YtjhejgamjlokdaaGreat
open Go Go.Abs
attribute [local irreducible] WpA WpL Rnd Blk Abs.Seq Abs.Fin Abs.FinG FnC FnG FnX FnP FinX Only
attribute [local irreducible] belowD onceD pickD modeD l8D l8AnyD optD anyD seedD headD headAnyD symL HasC
theorem split04 {Ov : List AObj} {x y : AObj} (h0 : Ov[0]? = some x) (h : Ov[4]? = some y) : ∃ a b c R, Ov = x :: a :: b :: c :: y :: R := by
  match Ov, h0, h with
  | x' :: a :: b :: c :: y' :: R, h0, h => simp at h0 h; exact ⟨a, b, c, R, by rw [h0, h]⟩
  | [], h0, h => simp at h
  | [_], h0, h => simp at h
  | [_, _], h0, h => simp at h
  | [_, _, _], h0, h => simp at h
  | [_, _, _, _], h0, h => simp at h
theorem split05 {Ov : List AObj} {x y : AObj} (h0 : Ov[0]? = some x) (h : Ov[5]? = some y) : ∃ a b c d R, Ov = x :: a :: b :: c :: d :: y :: R := by
  match Ov, h0, h with
  | x' :: a :: b :: c :: d :: y' :: R, h0, h => simp at h0 h; exact ⟨a, b, c, d, R, by rw [h0, h]⟩
  | [], h0, h => simp at h
  | [_], h0, h => simp at h
  | [_, _], h0, h => simp at h
  | [_, _, _], h0, h => simp at h
  | [_, _, _, _], h0, h => simp at h
  | [_, _, _, _, _], h0, h => simp at h
theorem dvS_eq {l : List Int} {n : Int} {s : Cr × List Int} : dvS l n s = ((pickD l (belowD l (pickD l (belowD l s.1 (n * n)).1 (ixs n (belowD l s.1 (n * n)).2)).1 400).1 (lvs (belowD l (pickD l (belowD l s.1 (n * n)).1 (ixs n (belowD l s.1 (n * n)).2)).1 400).2)).1,
    s.2.set (pickD l (belowD l s.1 (n * n)).1 (ixs n (belowD l s.1 (n * n)).2)).2.toNat (pickD l (belowD l (pickD l (belowD l s.1 (n * n)).1 (ixs n (belowD l s.1 (n * n)).2)).1 400).1 (lvs (belowD l (pickD l (belowD l s.1 (n * n)).1 (ixs n (belowD l s.1 (n * n)).2)).1 400).2)).2) := rfl
abbrev eB (l : List Int) (n : Int) (c : Cr) : Cr × Int := belowD l c (n * n)
abbrev eI (l : List Int) (n : Int) (c : Cr) : Cr × Int := pickD l (eB l n c).1 (ixs n (eB l n c).2)
abbrev eQ (l : List Int) (n : Int) (c : Cr) : Cr × Int := belowD l (eI l n c).1 400
abbrev eW (l : List Int) (n : Int) (c : Cr) : Cr × Int := pickD l (eQ l n c).1 (lvs (eQ l n c).2)
instance l23Block_p : ConP 83 (∀ (v : Value) (l : List Int) (c : Cr) (lens : List Int) (n : Int), CrOk l c ∧ (n = 4 ∨ n = 8) ∧ lens.length ≤ 1099511627776 → Pn 83 v l c [IL lens, I n] (blkD l lens n c).1 [XI (blkD l lens n c).2.2] (.agg [I (blkD l lens n c).2.1, .own 1 0 0 (blkD l lens n c).2.2.length])) := ⟨fun v l c lens n hh => by
  have h := hh.1
  have hn := hh.2.1
  have hlens := hh.2.2
  have hnn : n * n = 16 ∨ n * n = 64 := by rcases hn with rfl | rfl <;> decide
  have hn8 : 0 ≤ n ∧ n ≤ 8 := by omega
  have hmul := mul_in (a := n) (b := n) (by omega) (by omega)
  have hsp := fun m => symL_pos lens m
  have hs7 := fun m => symL_len7 lens m
  have hA := bmA_ok (lens := lens) 8 true (s := (c, 0)) h ⟨Int.le_refl 0, by show (0 : Int) ≤ 5; omega⟩
  have hM := blkM_ok (lens := lens) h
  have hb5 := belowD_ok 5 hM
  have hb50 := hb5.2.1
  have hb51 := hb5.2.2.1 (by decide)
  have hMc1 := hM.2.1
  have hMc2 := hM.2.2
  unfold blkD
  generalize hL : dvK l n _ _ = L
  generalize hBM : (blkM l lens c).2 = BM
  have hBM1 : (blkM l lens c).1 = (bmA l lens 8 true (c, 0)).1 := rfl
  have hBM2 : BM = bmC lens (bmB lens (6 - (bmA l lens 8 true (c, 0)).2).toNat (bmA l lens 8 true (c, 0)).2) := hBM.symm
  rw [hBM1] at hL hb5 hb50 hb51 hMc1 hMc2
  generalize hS : bmA l lens 8 true (c, 0) = S at *
  refine FnP.of_body tabOk Tryz.func83 Tryz.ntmps83 rfl (by decide +kernel) (by simp) rfl rfl rfl fun G hp => ?_
  refine go (r := ?_); and_intros <;> intros <;> try exact True.intro
  refine WpA.loop (fun x : Nat × Cr × Int => ⟨[(0, .ptr 0 0 0), (1, IL lens), (2, I n), (6, .ptr 1 0 0), (7, .ptr 3 0 0), (8, I x.1)], [CurO v x.2.1, ⟨[I 0, .nilS], 0, 0, none⟩, XI (List.replicate (n * n).toNat 0), ⟨[I x.2.2, .own 2 0 0 (n * n).toNat], 0, 0, none⟩]⟩) (fun x => x.1 ≤ 8 ∧ CrOk l x.2.1 ∧ bmA l lens (8 - x.1) (decide (x.1 = 0)) x.2 = S) (fun x => 8 - x.1) (0, c, 0) ⟨Nat.zero_le _, h, hS⟩ (go (r := ?_)) ?_
  · and_intros <;> first | exact True.intro | rfl | trace_state
  rintro ⟨k, c1, m1⟩ ⟨hk, hc1, hK⟩
  simp only at hk hc1 hK ⊢
  have hb6 := belowD_ok 6 hc1
  have hc11 := hc1.2.1
  have hc12 := hc1.2.2
  have hsp1 := hsp m1
  have hs71 := hs7 m1
  by_cases hgg : k < 8 ∧ (k = 0 ∨ ¬ HasC lens m1)
  · obtain ⟨hk8, hgg⟩ := hgg
    have hE : bmA l lens (8 - (k + 1)) (decide (k + 1 = 0)) (belowD l c1 6) = S := by
      rw [show 8 - k = (8 - (k + 1)) + 1 by omega, bmA_go (hgg.imp (fun h0 => by simp [h0]) id)] at hK
      rw [show decide (k + 1 = 0) = false by simp]; exact hK
    by_cases hk0 : k = 0
    · subst hk0
      refine go (r := ?_); and_intros <;> intros <;> try exact True.intro
      all_goals first | contradiction | omega | skip
      refine Rnd.go (0 + 1, (belowD l c1 6).1, (belowD l c1 6).2) ⟨by omega, hb6.1, hE⟩ ?_ ?_
      · show 8 - (0 + 1) < 8 - 0; omega
      · exact Weak.mk (by repeat (first | exact ReT.nil | refine ReT.cons (.keep rfl rfl .nil) ?_ | refine ReT.cons (.own rfl rfl rfl rfl rfl rfl .nil) ?_ | refine ReT.cons (.ptr rfl rfl rfl rfl .nil) ?_ | refine ReT.cons (.keep (congrArg (fun z => AV.sc (Value.int .i64 z)) (by first | omega | (skip))) rfl .nil) ?_ | refine ReT.cons (.keep (congrArg (fun z : List UInt8 => AV.sc (Value.string ⟨z.toArray⟩)) (by skip)) rfl .nil) ?_ | refine ReT.cons (.own rfl rfl rfl rfl rfl (by first | omega | (simp; done) | (simp; omega)) .nil) ?_)) (by repeat (first | exact ReO.nil | refine ReO.cons (Re.same rfl rfl) (.inr rfl) ?_ | refine ReO.cons (Re.same rfl (still_ints _)) (.inr rfl) ?_ | refine ReO.cons (.keep rfl rfl (.own rfl rfl rfl rfl rfl rfl .nil)) (.inr rfl) ?_)) (Nat.le_of_ble_eq_true rfl)
    · have hnh := hgg.resolve_left hk0
      have hzero : (symL lens m1).length = 0 := Nat.eq_zero_of_not_pos fun h0 => hnh (hsp1.1 h0)
      refine go (r := ?_); and_intros <;> intros <;> try exact True.intro
      all_goals first | contradiction | omega | skip
      refine Rnd.go (k + 1, (belowD l c1 6).1, (belowD l c1 6).2) ⟨by omega, hb6.1, hE⟩ ?_ ?_
      · show 8 - (k + 1) < 8 - k; omega
      · exact Weak.mk (by repeat (first | exact ReT.nil | refine ReT.cons (.keep rfl rfl .nil) ?_ | refine ReT.cons (.own rfl rfl rfl rfl rfl rfl .nil) ?_ | refine ReT.cons (.ptr rfl rfl rfl rfl .nil) ?_ | refine ReT.cons (.keep (congrArg (fun z => AV.sc (Value.int .i64 z)) (by first | omega | (skip))) rfl .nil) ?_ | refine ReT.cons (.keep (congrArg (fun z : List UInt8 => AV.sc (Value.string ⟨z.toArray⟩)) (by skip)) rfl .nil) ?_ | refine ReT.cons (.own rfl rfl rfl rfl rfl (by first | omega | (simp; done) | (simp; omega)) .nil) ?_)) (by repeat (first | exact ReO.nil | refine ReO.cons (Re.same rfl rfl) (.inr rfl) ?_ | refine ReO.cons (Re.same rfl (still_ints _)) (.inr rfl) ?_ | refine ReO.cons (.keep rfl rfl (.own rfl rfl rfl rfl rfl rfl .nil)) (.inr rfl) ?_)) (Nat.le_of_ble_eq_true rfl)
  · have hSe : (c1, m1) = S := by
      by_cases hk8 : k = 8
      · subst hk8; exact hK
      · have h2 : k ≠ 0 ∧ HasC lens m1 := by
          constructor
          · rintro rfl; exact hgg ⟨by omega, .inl rfl⟩
          · exact Decidable.byContradiction fun h0 => hgg ⟨by omega, .inr h0⟩
        rw [show decide (k = 0) = false by simp [h2.1], bmA_stop h2.2] at hK
        exact hK
    have hcase : k = 8 ∨ (k < 8 ∧ k ≠ 0 ∧ 0 < (symL lens m1).length) := by
      by_cases hk8 : k = 8
      · exact .inl hk8
      · refine .inr ⟨by omega, fun h0 => hgg ⟨by omega, .inl h0⟩, hsp1.2 (Decidable.byContradiction fun h0 => hgg ⟨by omega, .inr h0⟩)⟩
    clear hgg hK
    subst hSe
    try simp only at hBM2 hA hMc1 hMc2 hL hb5 hb50 hb51
    have hb5c : 0 ≤ c1.1 ∧ c1.1 ≤ (l.length : Int) := ⟨hc11, hc12⟩
    generalize hS2 : bmB lens (6 - m1).toNat m1 = S2 at hBM2
    rcases hcase with hk8 | ⟨hk8, hk0, hpos1⟩
    · refine go (r := ?_); and_intros <;> intros <;> try exact True.intro
      all_goals first | contradiction | omega | skip
      refine WpL.openAny (t := 20) rfl (fun v0 => ?_)
      by_cases hv : v0 = .bool false
      · subst hv
        refine go (r := ?_); and_intros <;> intros <;> try exact True.intro
        all_goals first | contradiction | omega | skip
        refine WpA.loop (fun m : Int => ⟨[(0, .ptr 0 0 0), (1, IL lens), (2, I n), (6, .ptr 1 0 0), (7, .ptr 3 0 0)], [CurO v c1, ⟨[I 0, .nilS], 0, 0, none⟩, XI (List.replicate (n * n).toNat 0), ⟨[I m, .own 2 0 0 (n * n).toNat], 0, 0, none⟩]⟩) (fun m => 0 ≤ m ∧ m ≤ 6 ∧ bmB lens (6 - m).toNat m = S2) (fun m => (6 - m).toNat) m1 ⟨hA.2.1, by omega, hS2⟩ ?_ ?_
        · exact Weak.mk (by repeat (first | exact ReT.nil | refine ReT.cons (.keep rfl rfl .nil) ?_ | refine ReT.cons (.own rfl rfl rfl rfl rfl rfl .nil) ?_ | refine ReT.cons (.ptr rfl rfl rfl rfl .nil) ?_ | refine ReT.cons (.keep (congrArg (fun z => AV.sc (Value.int .i64 z)) (by first | omega | (skip))) rfl .nil) ?_ | refine ReT.cons (.keep (congrArg (fun z : List UInt8 => AV.sc (Value.string ⟨z.toArray⟩)) (by skip)) rfl .nil) ?_ | refine ReT.cons (.own rfl rfl rfl rfl rfl (by first | omega | (simp; done) | (simp; omega)) .nil) ?_)) (by repeat (first | exact ReO.nil | refine ReO.cons (Re.same rfl rfl) (.inr rfl) ?_ | refine ReO.cons (Re.same rfl (still_ints _)) (.inr rfl) ?_ | refine ReO.cons (.keep rfl rfl (.own rfl rfl rfl rfl rfl rfl .nil)) (.inr rfl) ?_)) (Nat.le_of_ble_eq_true rfl)
        rintro m ⟨hm0, hm6, hmB⟩
        try simp only at hm0 hm6 hmB ⊢
        have hspm := hsp m
        have hs7m := hs7 m
        by_cases hmm : HasC lens m ∨ ¬ m < 6
        · rw [bmB_stop hmm] at hmB
          subst hmB
          by_cases hh2 : HasC lens m
          · have hpos := hspm.2 hh2
            have hbc : bmC lens m = m := by unfold bmC; rw [if_pos hh2]
            rw [hbc] at hBM2
            refine go (r := ?_); and_intros <;> intros <;> try exact True.intro
            all_goals first | contradiction | omega | exact hb5c.1 | exact hb5c.2 | skip
            subst hBM2
            refine WpA.loop (fun x : Nat × Cr × List Int => ⟨[(0, .ptr 0 0 0), (2, I n), (6, .ptr 1 0 0), (7, .ptr 3 0 0), (9, I x.1)], [CurO v x.2.1, ⟨[I 0, .nilS], 0, 0, none⟩, XI x.2.2, ⟨[I BM, .own 2 0 0 x.2.2.length], 0, 0, none⟩]⟩) (fun x => CrOk l x.2.1 ∧ x.2.2.length = (n * n).toNat ∧ dvK l n x.1 x.2 = L ∧ x.1 ≤ 4) (fun x => x.1) ((belowD l c1 5).2.toNat, (belowD l c1 5).1, List.replicate (n * n).toNat 0) ⟨hb5.1, by simp, hL, by simp only; omega⟩ ?_ ?_
            · have ez : (((belowD l c1 5).2.toNat : Nat) : Int) = (belowD l c1 5).2 := by omega
              simp only [ez, List.length_replicate]
              exact Weak.mk (by repeat (first | exact ReT.nil | refine ReT.cons (.keep rfl rfl .nil) ?_ | refine ReT.cons (.own rfl rfl rfl rfl rfl rfl .nil) ?_ | refine ReT.cons (.ptr rfl rfl rfl rfl .nil) ?_ | refine ReT.cons (.keep (congrArg (fun z => AV.sc (Value.int .i64 z)) (by first | omega | (skip))) rfl .nil) ?_ | refine ReT.cons (.keep (congrArg (fun z : List UInt8 => AV.sc (Value.string ⟨z.toArray⟩)) (by skip)) rfl .nil) ?_ | refine ReT.cons (.own rfl rfl rfl rfl rfl (by first | omega | (simp; done) | (simp; omega)) .nil) ?_)) (by repeat (first | exact ReO.nil | refine ReO.cons (Re.same rfl rfl) (.inr rfl) ?_ | refine ReO.cons (Re.same rfl (still_ints _)) (.inr rfl) ?_ | refine ReO.cons (.keep rfl rfl (.own rfl rfl rfl rfl rfl rfl .nil)) (.inr rfl) ?_)) (Nat.le_of_ble_eq_true rfl)
            rintro ⟨k3, c3, xs⟩ ⟨hc3, hxl, hL3, hk4⟩
            try simp only at hc3 hxl hL3 hk4 ⊢
            by_cases hk3 : k3 = 0
            · subst hk3
              have hLe : (c3, xs) = L := hL3
              subst hLe
              refine go (r := ?_); and_intros <;> intros <;> try exact True.intro
              all_goals trace_state
            · have hE : dvK l n (k3 - 1) (dvS l n (c3, xs)) = L := by
                obtain ⟨j, rfl⟩ : ∃ j, k3 = j + 1 := ⟨k3 - 1, by omega⟩
                exact hL3
              have hfacts := dvS_facts (s := (c3, xs)) hn hc3
              rw [dvS_eq] at hE hfacts
              obtain ⟨f1, f2, ⟨f3, f4⟩, f5, f6, f7⟩ := hfacts
              have f3' : 0 ≤ (eI l n c3).2 := f3
              have f4' : (eI l n c3).2 < n * n := f4
              have hq4 := belowD_ok 400 f2
              have hq40 : 0 ≤ (eQ l n c3).2 := hq4.2.1
              have hq41 : (eQ l n c3).2 < 400 := hq4.2.2.1 (by decide)
              refine goR (r := ?_); and_intros <;> intros <;> try exact True.intro
              all_goals first | contradiction | omega | skip
              apply WpA.regionSF (O := []) (Or := [CurO v c3, ⟨[I 0, .nilS], 0, 0, none⟩, XI xs, ⟨[I BM, .own 2 0 0 xs.length], 0, 0, none⟩]) (O1 := [CurO v (eW l n c3).1, ⟨[I 0, .nilS], 0, 0, none⟩, XI xs, ⟨[I BM, .own 2 0 0 xs.length], 0, 0, none⟩, ⟨ints (ixs n (eB l n c3).2), 1, 1, some 3⟩, ⟨ints (lvs (eQ l n c3).2), 1, 1, some 3⟩, deadO, deadO]) 20 2 [3] [0] rfl mixed (by decide +kernel)
              · exact rfl
              · apply HeadS.consF .none rfl
                · exact rfl
                · exact rfl
                · intro Tv Ov hc hp' hd hk
                  obtain ⟨x0, x1, x2, R, rfl⟩ := Abs.split4 (hk 3 rfl)
                  exact in1
                · exact rfl
                · exact rfl
                apply HeadS.consF .none rfl
                · exact rfl
                · exact rfl
                · intro Tv Ov hc hp' hd hk
                  obtain ⟨x0, x1, x2, R, rfl⟩ := Abs.split4 (hk 3 rfl)
                  exact in1
                · exact rfl
                · exact rfl
                apply HeadS.consF .none rfl
                · exact rfl
                · exact rfl
                · exact in1
                · exact rfl
                · exact rfl
                apply HeadS.consF .none rfl
                · exact rfl
                · exact rfl
                · exact in1
                · exact rfl
                · exact rfl
                apply HeadS.consF .none rfl
                · exact rfl
                · exact rfl
                · exact in1
                · exact rfl
                · exact rfl
                apply HeadS.consF .none rfl
                · exact rfl
                · exact rfl
                · exact in1
                · exact rfl
                · exact rfl
                apply HeadS.consF .none rfl
                · exact rfl
                · exact rfl
                · exact in1
                · exact rfl
                · exact rfl
                apply HeadS.consF .none rfl
                · exact rfl
                · exact rfl
                · exact in1
                · exact rfl
                · exact rfl
                apply HeadS.consF .none rfl
                · exact rfl
                · exact rfl
                · exact in1
                · exact rfl
                · exact rfl
                apply HeadS.consF .none rfl
                · exact rfl
                · exact rfl
                · exact in1
                · exact rfl
                · exact rfl
                apply HeadS.consF .none rfl
                · exact rfl
                · exact rfl
                · exact in1
                · exact rfl
                · exact rfl
                apply HeadS.consF (V := I (eB l n c3).2) (.step 0 (CurO v (eB l n c3).1)) rfl
                · exact rfl
                · exact rfl
                · intro Tv Ov hc hp' hd hk
                  obtain ⟨R, rfl⟩ := split1 (hp' 0 _ rfl)
                  refine K.call ?_
                  refine K.conP (fun hcon => ?_)
                  refine WpL.callP1 (hcon v l c3 (n * n) hc3) hp handA handOA rfl (.cons rfl (.sc (.sc (.sc .nil))) .nil) (by decide) ?_
                  exact WpL.nil (Only.mk rfl)
                · exact rfl
                · exact rfl
                apply HeadS.consF (V := .own 4 1 0 6) (.put 4 (⟨ints (ixs n (eB l n c3).2), 1, 1, some 3⟩)) rfl
                · exact rfl
                · exact rfl
                · intro Tv Ov hc hp' hd hk
                  refine WpL.litInts tabOk rfl rfl rfl rfl rfl (by decide) (by rw [nid_len, Nat.zero_add]) (by decide) ?_
                  apply WpL.putNil (p := 4)
                  · exact hp' 4 _ rfl
                  · exact Nat.le_of_ble_eq_true rfl
                  · exact rfl
                  · first | exact still_ints _ | exact still_rows (fun _ => rfl) _ | rfl
                · exact rfl
                · exact rfl
                apply HeadS.consF (V := I (eI l n c3).2) (.step 0 (CurO v (eI l n c3).1)) rfl
                · exact rfl
                · exact rfl
                · intro Tv Ov hc hp' hd hk
                  obtain ⟨a1, a2, a3, R, rfl⟩ := split04 (hp' 0 _ rfl) (hd 12 _ 4 _ (by decide) rfl rfl rfl)
                  refine K.call ?_
                  refine K.conP (fun hcon => ?_)
                  refine WpL.callP1 (hcon v l (eB l n c3).1 (ixs n (eB l n c3).2) ⟨f1, by simp, by simp⟩) hp handA handOA rfl (.cons rfl (.sc (.sc (.sc .nil))) .nil) (by decide) ?_
                  exact WpL.nil (Only.mk rfl)
                · exact rfl
                · exact rfl
                apply HeadS.consF .none rfl
                · exact rfl
                · exact rfl
                · exact in1
                · exact rfl
                · exact rfl
                apply HeadS.consF .none rfl
                · exact rfl
                · exact rfl
                · exact in1
                · exact rfl
                · exact rfl
                apply HeadS.consF (V := I (eQ l n c3).2) (.step 0 (CurO v (eQ l n c3).1)) rfl
                · exact rfl
                · exact rfl
                · intro Tv Ov hc hp' hd hk
                  obtain ⟨R, rfl⟩ := split1 (hp' 0 _ rfl)
                  refine K.call ?_
                  refine K.conP (fun hcon => ?_)
                  refine WpL.callP1 (hcon v l (eI l n c3).1 400 f2) hp handA handOA rfl (.cons rfl (.sc (.sc (.sc .nil))) .nil) (by decide) ?_
                  exact WpL.nil (Only.mk rfl)
                · exact rfl
                · exact rfl
                apply HeadS.consF .none rfl
                · exact rfl
                · exact rfl
                · exact in1
                · exact rfl
                · exact rfl
                apply HeadS.consF (V := .own 5 1 0 6) (.put 5 (⟨ints (lvs (eQ l n c3).2), 1, 1, some 3⟩)) rfl
                · exact rfl
                · exact rfl
                · intro Tv Ov hc hp' hd hk
                  refine WpL.litInts tabOk rfl rfl rfl rfl rfl (by decide) (by rw [nid_len, Nat.zero_add]) (by decide) ?_
                  apply WpL.putNil (p := 5)
                  · exact hp' 5 _ rfl
                  · exact Nat.le_of_ble_eq_true rfl
                  · exact rfl
                  · first | exact still_ints _ | exact still_rows (fun _ => rfl) _ | rfl
                · exact rfl
                · exact rfl
                apply HeadS.consF (V := I (eW l n c3).2) (.step 0 (CurO v (eW l n c3).1)) rfl
                · exact rfl
                · exact rfl
                · intro Tv Ov hc hp' hd hk
                  obtain ⟨a1, a2, a3, a4, R, rfl⟩ := split05 (hp' 0 _ rfl) (hd 18 _ 5 _ (by decide) rfl rfl rfl)
                  refine K.call ?_
                  refine K.conP (fun hcon => ?_)
                  refine WpL.callP1 (hcon v l (eQ l n c3).1 (lvs (eQ l n c3).2) ⟨f5, by simp, by simp⟩) hp handA handOA rfl (.cons rfl (.sc (.sc (.sc .nil))) .nil) (by decide) ?_
                  exact WpL.nil (Only.mk rfl)
                · exact rfl
                · exact rfl
                exact HeadS.nil
              · exact rfl
              · exact rfl
              · exact rfl
              · exact rfl
              · exact rfl
              · exact rfl
              · exact rfl
              refine go (r := ?_); and_intros <;> intros <;> try exact True.intro
              all_goals first | contradiction | omega | skip
              refine Rnd.go (k3 - 1, (eW l n c3).1, xs.set (eI l n c3).2.toNat (eW l n c3).2) ⟨f6, by rw [List.length_set]; exact hxl, hE, by simp only; omega⟩ ?_ ?_
              · show k3 - 1 < k3; omega
              · simp only [List.length_set]
                exact Weak.mk (by repeat (first | exact ReT.nil | refine ReT.cons (.keep rfl rfl .nil) ?_ | refine ReT.cons (.own rfl rfl rfl rfl rfl rfl .nil) ?_ | refine ReT.cons (.ptr rfl rfl rfl rfl .nil) ?_ | refine ReT.cons (.keep (congrArg (fun z => AV.sc (Value.int .i64 z)) (by first | omega | (skip))) rfl .nil) ?_ | refine ReT.cons (.keep (congrArg (fun z : List UInt8 => AV.sc (Value.string ⟨z.toArray⟩)) (by skip)) rfl .nil) ?_ | refine ReT.cons (.own rfl rfl rfl rfl rfl (by first | omega | (simp; done) | (simp; omega)) .nil) ?_)) (by repeat (first | exact ReO.nil | refine ReO.cons (Re.same rfl rfl) (.inr rfl) ?_ | refine ReO.cons (Re.same rfl (still_ints _)) (.inr rfl) ?_ | refine ReO.cons (.keep rfl rfl (.own rfl rfl rfl rfl rfl rfl .nil)) (.inr rfl) ?_)) (Nat.le_of_ble_eq_true rfl)
          · have hzero : (symL lens m).length = 0 := Nat.eq_zero_of_not_pos fun h0 => hh2 (hspm.1 h0)
            have hm6b := hmm.resolve_left hh2
            have hbc : bmC lens m = 1 := by unfold bmC; rw [if_neg hh2]
            rw [hbc] at hBM2
            refine go (r := ?_); and_intros <;> intros <;> try exact True.intro
            all_goals first | contradiction | omega | exact hb5c.1 | exact hb5c.2 | skip
            subst hBM2
            refine WpA.loop (fun x : Nat × Cr × List Int => ⟨[(0, .ptr 0 0 0), (2, I n), (6, .ptr 1 0 0), (7, .ptr 3 0 0), (9, I x.1)], [CurO v x.2.1, ⟨[I 0, .nilS], 0, 0, none⟩, XI x.2.2, ⟨[I 1, .own 2 0 0 x.2.2.length], 0, 0, none⟩]⟩) (fun x => CrOk l x.2.1 ∧ x.2.2.length = (n * n).toNat ∧ dvK l n x.1 x.2 = L ∧ x.1 ≤ 4) (fun x => x.1) ((belowD l c1 5).2.toNat, (belowD l c1 5).1, List.replicate (n * n).toNat 0) ⟨hb5.1, by simp, hL, by simp only; omega⟩ ?_ ?_
            · have ez : (((belowD l c1 5).2.toNat : Nat) : Int) = (belowD l c1 5).2 := by omega
              simp only [ez, List.length_replicate]
              exact Weak.mk (by repeat (first | exact ReT.nil | refine ReT.cons (.keep rfl rfl .nil) ?_ | refine ReT.cons (.own rfl rfl rfl rfl rfl rfl .nil) ?_ | refine ReT.cons (.ptr rfl rfl rfl rfl .nil) ?_ | refine ReT.cons (.keep (congrArg (fun z => AV.sc (Value.int .i64 z)) (by first | omega | (skip))) rfl .nil) ?_ | refine ReT.cons (.keep (congrArg (fun z : List UInt8 => AV.sc (Value.string ⟨z.toArray⟩)) (by skip)) rfl .nil) ?_ | refine ReT.cons (.own rfl rfl rfl rfl rfl (by first | omega | (simp; done) | (simp; omega)) .nil) ?_)) (by repeat (first | exact ReO.nil | refine ReO.cons (Re.same rfl rfl) (.inr rfl) ?_ | refine ReO.cons (Re.same rfl (still_ints _)) (.inr rfl) ?_ | refine ReO.cons (.keep rfl rfl (.own rfl rfl rfl rfl rfl rfl .nil)) (.inr rfl) ?_)) (Nat.le_of_ble_eq_true rfl)
            rintro ⟨k3, c3, xs⟩ ⟨hc3, hxl, hL3, hk4⟩
            try simp only at hc3 hxl hL3 hk4 ⊢
            by_cases hk3 : k3 = 0
            · subst hk3
              have hLe : (c3, xs) = L := hL3
              subst hLe
              refine go (r := ?_); and_intros <;> intros <;> try exact True.intro
              all_goals trace_state
            · have hE : dvK l n (k3 - 1) (dvS l n (c3, xs)) = L := by
                obtain ⟨j, rfl⟩ : ∃ j, k3 = j + 1 := ⟨k3 - 1, by omega⟩
                exact hL3
              have hfacts := dvS_facts (s := (c3, xs)) hn hc3
              rw [dvS_eq] at hE hfacts
              obtain ⟨f1, f2, ⟨f3, f4⟩, f5, f6, f7⟩ := hfacts
              have f3' : 0 ≤ (eI l n c3).2 := f3
              have f4' : (eI l n c3).2 < n * n := f4
              have hq4 := belowD_ok 400 f2
              have hq40 : 0 ≤ (eQ l n c3).2 := hq4.2.1
              have hq41 : (eQ l n c3).2 < 400 := hq4.2.2.1 (by decide)
              refine goR (r := ?_); and_intros <;> intros <;> try exact True.intro
              all_goals first | contradiction | omega | skip
              apply WpA.regionSF (O := []) (Or := [CurO v c3, ⟨[I 0, .nilS], 0, 0, none⟩, XI xs, ⟨[I 1, .own 2 0 0 xs.length], 0, 0, none⟩]) (O1 := [CurO v (eW l n c3).1, ⟨[I 0, .nilS], 0, 0, none⟩, XI xs, ⟨[I 1, .own 2 0 0 xs.length], 0, 0, none⟩, ⟨ints (ixs n (eB l n c3).2), 1, 1, some 3⟩, ⟨ints (lvs (eQ l n c3).2), 1, 1, some 3⟩, deadO, deadO]) 20 2 [3] [0] rfl mixed (by decide +kernel)
              · exact rfl
              · apply HeadS.consF .none rfl
                · exact rfl
                · exact rfl
                · intro Tv Ov hc hp' hd hk
                  obtain ⟨x0, x1, x2, R, rfl⟩ := Abs.split4 (hk 3 rfl)
                  exact in1
                · exact rfl
                · exact rfl
                apply HeadS.consF .none rfl
                · exact rfl
                · exact rfl
                · intro Tv Ov hc hp' hd hk
                  obtain ⟨x0, x1, x2, R, rfl⟩ := Abs.split4 (hk 3 rfl)
                  exact in1
                · exact rfl
                · exact rfl
                apply HeadS.consF .none rfl
                · exact rfl
                · exact rfl
                · exact in1
                · exact rfl
                · exact rfl
                apply HeadS.consF .none rfl
                · exact rfl
                · exact rfl
                · exact in1
                · exact rfl
                · exact rfl
                apply HeadS.consF .none rfl
                · exact rfl
                · exact rfl
                · exact in1
                · exact rfl
                · exact rfl
                apply HeadS.consF .none rfl
                · exact rfl
                · exact rfl
                · exact in1
                · exact rfl
                · exact rfl
                apply HeadS.consF .none rfl
                · exact rfl
                · exact rfl
                · exact in1
                · exact rfl
                · exact rfl
                apply HeadS.consF .none rfl
                · exact rfl
                · exact rfl
                · exact in1
                · exact rfl
                · exact rfl
                apply HeadS.consF .none rfl
                · exact rfl
                · exact rfl
                · exact in1
                · exact rfl
                · exact rfl
                apply HeadS.consF .none rfl
                · exact rfl
                · exact rfl
                · exact in1
                · exact rfl
                · exact rfl
                apply HeadS.consF .none rfl
                · exact rfl
                · exact rfl
                · exact in1
                · exact rfl
                · exact rfl
                apply HeadS.consF (V := I (eB l n c3).2) (.step 0 (CurO v (eB l n c3).1)) rfl
                · exact rfl
                · exact rfl
                · intro Tv Ov hc hp' hd hk
                  obtain ⟨R, rfl⟩ := split1 (hp' 0 _ rfl)
                  refine K.call ?_
                  refine K.conP (fun hcon => ?_)
                  refine WpL.callP1 (hcon v l c3 (n * n) hc3) hp handA handOA rfl (.cons rfl (.sc (.sc (.sc .nil))) .nil) (by decide) ?_
                  exact WpL.nil (Only.mk rfl)
                · exact rfl
                · exact rfl
                apply HeadS.consF (V := .own 4 1 0 6) (.put 4 (⟨ints (ixs n (eB l n c3).2), 1, 1, some 3⟩)) rfl
                · exact rfl
                · exact rfl
                · intro Tv Ov hc hp' hd hk
                  refine WpL.litInts tabOk rfl rfl rfl rfl rfl (by decide) (by rw [nid_len, Nat.zero_add]) (by decide) ?_
                  apply WpL.putNil (p := 4)
                  · exact hp' 4 _ rfl
                  · exact Nat.le_of_ble_eq_true rfl
                  · exact rfl
                  · first | exact still_ints _ | exact still_rows (fun _ => rfl) _ | rfl
                · exact rfl
                · exact rfl
                apply HeadS.consF (V := I (eI l n c3).2) (.step 0 (CurO v (eI l n c3).1)) rfl
                · exact rfl
                · exact rfl
                · intro Tv Ov hc hp' hd hk
                  obtain ⟨a1, a2, a3, R, rfl⟩ := split04 (hp' 0 _ rfl) (hd 12 _ 4 _ (by decide) rfl rfl rfl)
                  refine K.call ?_
                  refine K.conP (fun hcon => ?_)
                  refine WpL.callP1 (hcon v l (eB l n c3).1 (ixs n (eB l n c3).2) ⟨f1, by simp, by simp⟩) hp handA handOA rfl (.cons rfl (.sc (.sc (.sc .nil))) .nil) (by decide) ?_
                  exact WpL.nil (Only.mk rfl)
                · exact rfl
                · exact rfl
                apply HeadS.consF .none rfl
                · exact rfl
                · exact rfl
                · exact in1
                · exact rfl
                · exact rfl
                apply HeadS.consF .none rfl
                · exact rfl
                · exact rfl
                · exact in1
                · exact rfl
                · exact rfl
                apply HeadS.consF (V := I (eQ l n c3).2) (.step 0 (CurO v (eQ l n c3).1)) rfl
                · exact rfl
                · exact rfl
                · intro Tv Ov hc hp' hd hk
                  obtain ⟨R, rfl⟩ := split1 (hp' 0 _ rfl)
                  refine K.call ?_
                  refine K.conP (fun hcon => ?_)
                  refine WpL.callP1 (hcon v l (eI l n c3).1 400 f2) hp handA handOA rfl (.cons rfl (.sc (.sc (.sc .nil))) .nil) (by decide) ?_
                  exact WpL.nil (Only.mk rfl)
                · exact rfl
                · exact rfl
                apply HeadS.consF .none rfl
                · exact rfl
                · exact rfl
                · exact in1
                · exact rfl
                · exact rfl
                apply HeadS.consF (V := .own 5 1 0 6) (.put 5 (⟨ints (lvs (eQ l n c3).2), 1, 1, some 3⟩)) rfl
                · exact rfl
                · exact rfl
                · intro Tv Ov hc hp' hd hk
                  refine WpL.litInts tabOk rfl rfl rfl rfl rfl (by decide) (by rw [nid_len, Nat.zero_add]) (by decide) ?_
                  apply WpL.putNil (p := 5)
                  · exact hp' 5 _ rfl
                  · exact Nat.le_of_ble_eq_true rfl
                  · exact rfl
                  · first | exact still_ints _ | exact still_rows (fun _ => rfl) _ | rfl
                · exact rfl
                · exact rfl
                apply HeadS.consF (V := I (eW l n c3).2) (.step 0 (CurO v (eW l n c3).1)) rfl
                · exact rfl
                · exact rfl
                · intro Tv Ov hc hp' hd hk
                  obtain ⟨a1, a2, a3, a4, R, rfl⟩ := split05 (hp' 0 _ rfl) (hd 18 _ 5 _ (by decide) rfl rfl rfl)
                  refine K.call ?_
                  refine K.conP (fun hcon => ?_)
                  refine WpL.callP1 (hcon v l (eQ l n c3).1 (lvs (eQ l n c3).2) ⟨f5, by simp, by simp⟩) hp handA handOA rfl (.cons rfl (.sc (.sc (.sc .nil))) .nil) (by decide) ?_
                  exact WpL.nil (Only.mk rfl)
                · exact rfl
                · exact rfl
                exact HeadS.nil
              · exact rfl
              · exact rfl
              · exact rfl
              · exact rfl
              · exact rfl
              · exact rfl
              · exact rfl
              refine go (r := ?_); and_intros <;> intros <;> try exact True.intro
              all_goals first | contradiction | omega | skip
              refine Rnd.go (k3 - 1, (eW l n c3).1, xs.set (eI l n c3).2.toNat (eW l n c3).2) ⟨f6, by rw [List.length_set]; exact hxl, hE, by simp only; omega⟩ ?_ ?_
              · show k3 - 1 < k3; omega
              · simp only [List.length_set]
                exact Weak.mk (by repeat (first | exact ReT.nil | refine ReT.cons (.keep rfl rfl .nil) ?_ | refine ReT.cons (.own rfl rfl rfl rfl rfl rfl .nil) ?_ | refine ReT.cons (.ptr rfl rfl rfl rfl .nil) ?_ | refine ReT.cons (.keep (congrArg (fun z => AV.sc (Value.int .i64 z)) (by first | omega | (skip))) rfl .nil) ?_ | refine ReT.cons (.keep (congrArg (fun z : List UInt8 => AV.sc (Value.string ⟨z.toArray⟩)) (by skip)) rfl .nil) ?_ | refine ReT.cons (.own rfl rfl rfl rfl rfl (by first | omega | (simp; done) | (simp; omega)) .nil) ?_)) (by repeat (first | exact ReO.nil | refine ReO.cons (Re.same rfl rfl) (.inr rfl) ?_ | refine ReO.cons (Re.same rfl (still_ints _)) (.inr rfl) ?_ | refine ReO.cons (.keep rfl rfl (.own rfl rfl rfl rfl rfl rfl .nil)) (.inr rfl) ?_)) (Nat.le_of_ble_eq_true rfl)
        · have hh2 : ¬ HasC lens m := fun h0 => hmm (.inl h0)
          have hm6b : m < 6 := Decidable.byContradiction fun h0 => hmm (.inr h0)
          have hzero : (symL lens m).length = 0 := Nat.eq_zero_of_not_pos fun h0 => hh2 (hspm.1 h0)
          rw [bmB_go hm6b hh2] at hmB
          refine go (r := ?_); and_intros <;> intros <;> try exact True.intro
          all_goals first | contradiction | omega | skip
          refine Rnd.go (m + 1) ⟨by omega, by omega, hmB⟩ ?_ ?_
          · show (6 - (m + 1)).toNat < (6 - m).toNat; omega
          · exact Weak.mk (by repeat (first | exact ReT.nil | refine ReT.cons (.keep rfl rfl .nil) ?_ | refine ReT.cons (.own rfl rfl rfl rfl rfl rfl .nil) ?_ | refine ReT.cons (.ptr rfl rfl rfl rfl .nil) ?_ | refine ReT.cons (.keep (congrArg (fun z => AV.sc (Value.int .i64 z)) (by first | omega | (skip))) rfl .nil) ?_ | refine ReT.cons (.keep (congrArg (fun z : List UInt8 => AV.sc (Value.string ⟨z.toArray⟩)) (by skip)) rfl .nil) ?_ | refine ReT.cons (.own rfl rfl rfl rfl rfl (by first | omega | (simp; done) | (simp; omega)) .nil) ?_)) (by repeat (first | exact ReO.nil | refine ReO.cons (Re.same rfl rfl) (.inr rfl) ?_ | refine ReO.cons (Re.same rfl (still_ints _)) (.inr rfl) ?_ | refine ReO.cons (.keep rfl rfl (.own rfl rfl rfl rfl rfl rfl .nil)) (.inr rfl) ?_)) (Nat.le_of_ble_eq_true rfl)
      · refine WpL.guardV (σ := ⟨_, _⟩) rfl rfl (by decide) rfl hv rfl ?_
        refine WpL.guardV (σ := ⟨_, _⟩) rfl rfl (by decide) rfl hv rfl ?_
        refine WpL.guardV (σ := ⟨_, _⟩) rfl rfl (by decide) rfl hv rfl ?_
        refine WpL.guardV (σ := ⟨_, _⟩) rfl rfl (by decide) rfl hv rfl ?_
        refine WpL.guardV (σ := ⟨_, _⟩) rfl rfl (by decide) rfl hv rfl ?_
        refine WpL.guardV (σ := ⟨_, _⟩) rfl rfl (by decide) rfl hv rfl ?_
        refine go (r := ?_); and_intros <;> intros <;> try exact True.intro
        all_goals first | contradiction | omega | skip
        refine WpA.loop (fun m : Int => ⟨[(0, .ptr 0 0 0), (1, IL lens), (2, I n), (6, .ptr 1 0 0), (7, .ptr 3 0 0)], [CurO v c1, ⟨[I 0, .nilS], 0, 0, none⟩, XI (List.replicate (n * n).toNat 0), ⟨[I m, .own 2 0 0 (n * n).toNat], 0, 0, none⟩]⟩) (fun m => 0 ≤ m ∧ m ≤ 6 ∧ bmB lens (6 - m).toNat m = S2) (fun m => (6 - m).toNat) m1 ⟨hA.2.1, by omega, hS2⟩ ?_ ?_
        · exact Weak.mk (by repeat (first | exact ReT.nil | refine ReT.cons (.keep rfl rfl .nil) ?_ | refine ReT.cons (.own rfl rfl rfl rfl rfl rfl .nil) ?_ | refine ReT.cons (.ptr rfl rfl rfl rfl .nil) ?_ | refine ReT.cons (.keep (congrArg (fun z => AV.sc (Value.int .i64 z)) (by first | omega | (skip))) rfl .nil) ?_ | refine ReT.cons (.keep (congrArg (fun z : List UInt8 => AV.sc (Value.string ⟨z.toArray⟩)) (by skip)) rfl .nil) ?_ | refine ReT.cons (.own rfl rfl rfl rfl rfl (by first | omega | (simp; done) | (simp; omega)) .nil) ?_)) (by repeat (first | exact ReO.nil | refine ReO.cons (Re.same rfl rfl) (.inr rfl) ?_ | refine ReO.cons (Re.same rfl (still_ints _)) (.inr rfl) ?_ | refine ReO.cons (.keep rfl rfl (.own rfl rfl rfl rfl rfl rfl .nil)) (.inr rfl) ?_)) (Nat.le_of_ble_eq_true rfl)
        rintro m ⟨hm0, hm6, hmB⟩
        try simp only at hm0 hm6 hmB ⊢
        have hspm := hsp m
        have hs7m := hs7 m
        by_cases hmm : HasC lens m ∨ ¬ m < 6
        · rw [bmB_stop hmm] at hmB
          subst hmB
          by_cases hh2 : HasC lens m
          · have hpos := hspm.2 hh2
            have hbc : bmC lens m = m := by unfold bmC; rw [if_pos hh2]
            rw [hbc] at hBM2
            refine go (r := ?_); and_intros <;> intros <;> try exact True.intro
            all_goals first | contradiction | omega | exact hb5c.1 | exact hb5c.2 | skip
            subst hBM2
            refine WpA.loop (fun x : Nat × Cr × List Int => ⟨[(0, .ptr 0 0 0), (2, I n), (6, .ptr 1 0 0), (7, .ptr 3 0 0), (9, I x.1)], [CurO v x.2.1, ⟨[I 0, .nilS], 0, 0, none⟩, XI x.2.2, ⟨[I BM, .own 2 0 0 x.2.2.length], 0, 0, none⟩]⟩) (fun x => CrOk l x.2.1 ∧ x.2.2.length = (n * n).toNat ∧ dvK l n x.1 x.2 = L ∧ x.1 ≤ 4) (fun x => x.1) ((belowD l c1 5).2.toNat, (belowD l c1 5).1, List.replicate (n * n).toNat 0) ⟨hb5.1, by simp, hL, by simp only; omega⟩ ?_ ?_
            · have ez : (((belowD l c1 5).2.toNat : Nat) : Int) = (belowD l c1 5).2 := by omega
              simp only [ez, List.length_replicate]
              exact Weak.mk (by repeat (first | exact ReT.nil | refine ReT.cons (.keep rfl rfl .nil) ?_ | refine ReT.cons (.own rfl rfl rfl rfl rfl rfl .nil) ?_ | refine ReT.cons (.ptr rfl rfl rfl rfl .nil) ?_ | refine ReT.cons (.keep (congrArg (fun z => AV.sc (Value.int .i64 z)) (by first | omega | (skip))) rfl .nil) ?_ | refine ReT.cons (.keep (congrArg (fun z : List UInt8 => AV.sc (Value.string ⟨z.toArray⟩)) (by skip)) rfl .nil) ?_ | refine ReT.cons (.own rfl rfl rfl rfl rfl (by first | omega | (simp; done) | (simp; omega)) .nil) ?_)) (by repeat (first | exact ReO.nil | refine ReO.cons (Re.same rfl rfl) (.inr rfl) ?_ | refine ReO.cons (Re.same rfl (still_ints _)) (.inr rfl) ?_ | refine ReO.cons (.keep rfl rfl (.own rfl rfl rfl rfl rfl rfl .nil)) (.inr rfl) ?_)) (Nat.le_of_ble_eq_true rfl)
            rintro ⟨k3, c3, xs⟩ ⟨hc3, hxl, hL3, hk4⟩
            try simp only at hc3 hxl hL3 hk4 ⊢
            by_cases hk3 : k3 = 0
            · subst hk3
              have hLe : (c3, xs) = L := hL3
              subst hLe
              refine go (r := ?_); and_intros <;> intros <;> try exact True.intro
              all_goals trace_state
            · have hE : dvK l n (k3 - 1) (dvS l n (c3, xs)) = L := by
                obtain ⟨j, rfl⟩ : ∃ j, k3 = j + 1 := ⟨k3 - 1, by omega⟩
                exact hL3
              have hfacts := dvS_facts (s := (c3, xs)) hn hc3
              rw [dvS_eq] at hE hfacts
              obtain ⟨f1, f2, ⟨f3, f4⟩, f5, f6, f7⟩ := hfacts
              have f3' : 0 ≤ (eI l n c3).2 := f3
              have f4' : (eI l n c3).2 < n * n := f4
              have hq4 := belowD_ok 400 f2
              have hq40 : 0 ≤ (eQ l n c3).2 := hq4.2.1
              have hq41 : (eQ l n c3).2 < 400 := hq4.2.2.1 (by decide)
              refine goR (r := ?_); and_intros <;> intros <;> try exact True.intro
              all_goals first | contradiction | omega | skip
              apply WpA.regionSF (O := []) (Or := [CurO v c3, ⟨[I 0, .nilS], 0, 0, none⟩, XI xs, ⟨[I BM, .own 2 0 0 xs.length], 0, 0, none⟩]) (O1 := [CurO v (eW l n c3).1, ⟨[I 0, .nilS], 0, 0, none⟩, XI xs, ⟨[I BM, .own 2 0 0 xs.length], 0, 0, none⟩, ⟨ints (ixs n (eB l n c3).2), 1, 1, some 3⟩, ⟨ints (lvs (eQ l n c3).2), 1, 1, some 3⟩, deadO, deadO]) 20 2 [3] [0] rfl mixed (by decide +kernel)
              · exact rfl
              · apply HeadS.consF .none rfl
                · exact rfl
                · exact rfl
                · intro Tv Ov hc hp' hd hk
                  obtain ⟨x0, x1, x2, R, rfl⟩ := Abs.split4 (hk 3 rfl)
                  exact in1
                · exact rfl
                · exact rfl
                apply HeadS.consF .none rfl
                · exact rfl
                · exact rfl
                · intro Tv Ov hc hp' hd hk
                  obtain ⟨x0, x1, x2, R, rfl⟩ := Abs.split4 (hk 3 rfl)
                  exact in1
                · exact rfl
                · exact rfl
                apply HeadS.consF .none rfl
                · exact rfl
                · exact rfl
                · exact in1
                · exact rfl
                · exact rfl
                apply HeadS.consF .none rfl
                · exact rfl
                · exact rfl
                · exact in1
                · exact rfl
                · exact rfl
                apply HeadS.consF .none rfl
                · exact rfl
                · exact rfl
                · exact in1
                · exact rfl
                · exact rfl
                apply HeadS.consF .none rfl
                · exact rfl
                · exact rfl
                · exact in1
                · exact rfl
                · exact rfl
                apply HeadS.consF .none rfl
                · exact rfl
                · exact rfl
                · exact in1
                · exact rfl
                · exact rfl
                apply HeadS.consF .none rfl
                · exact rfl
                · exact rfl
                · exact in1
                · exact rfl
                · exact rfl
                apply HeadS.consF .none rfl
                · exact rfl
                · exact rfl
                · exact in1
                · exact rfl
                · exact rfl
                apply HeadS.consF .none rfl
                · exact rfl
                · exact rfl
                · exact in1
                · exact rfl
                · exact rfl
                apply HeadS.consF .none rfl
                · exact rfl
                · exact rfl
                · exact in1
                · exact rfl
                · exact rfl
                apply HeadS.consF (V := I (eB l n c3).2) (.step 0 (CurO v (eB l n c3).1)) rfl
                · exact rfl
                · exact rfl
                · intro Tv Ov hc hp' hd hk
                  obtain ⟨R, rfl⟩ := split1 (hp' 0 _ rfl)
                  refine K.call ?_
                  refine K.conP (fun hcon => ?_)
                  refine WpL.callP1 (hcon v l c3 (n * n) hc3) hp handA handOA rfl (.cons rfl (.sc (.sc (.sc .nil))) .nil) (by decide) ?_
                  exact WpL.nil (Only.mk rfl)
                · exact rfl
                · exact rfl
                apply HeadS.consF (V := .own 4 1 0 6) (.put 4 (⟨ints (ixs n (eB l n c3).2), 1, 1, some 3⟩)) rfl
                · exact rfl
                · exact rfl
                · intro Tv Ov hc hp' hd hk
                  refine WpL.litInts tabOk rfl rfl rfl rfl rfl (by decide) (by rw [nid_len, Nat.zero_add]) (by decide) ?_
                  apply WpL.putNil (p := 4)
                  · exact hp' 4 _ rfl
                  · exact Nat.le_of_ble_eq_true rfl
                  · exact rfl
                  · first | exact still_ints _ | exact still_rows (fun _ => rfl) _ | rfl
                · exact rfl
                · exact rfl
                apply HeadS.consF (V := I (eI l n c3).2) (.step 0 (CurO v (eI l n c3).1)) rfl
                · exact rfl
                · exact rfl
                · intro Tv Ov hc hp' hd hk
                  obtain ⟨a1, a2, a3, R, rfl⟩ := split04 (hp' 0 _ rfl) (hd 12 _ 4 _ (by decide) rfl rfl rfl)
                  refine K.call ?_
                  refine K.conP (fun hcon => ?_)
                  refine WpL.callP1 (hcon v l (eB l n c3).1 (ixs n (eB l n c3).2) ⟨f1, by simp, by simp⟩) hp handA handOA rfl (.cons rfl (.sc (.sc (.sc .nil))) .nil) (by decide) ?_
                  exact WpL.nil (Only.mk rfl)
                · exact rfl
                · exact rfl
                apply HeadS.consF .none rfl
                · exact rfl
                · exact rfl
                · exact in1
                · exact rfl
                · exact rfl
                apply HeadS.consF .none rfl
                · exact rfl
                · exact rfl
                · exact in1
                · exact rfl
                · exact rfl
                apply HeadS.consF (V := I (eQ l n c3).2) (.step 0 (CurO v (eQ l n c3).1)) rfl
                · exact rfl
                · exact rfl
                · intro Tv Ov hc hp' hd hk
                  obtain ⟨R, rfl⟩ := split1 (hp' 0 _ rfl)
                  refine K.call ?_
                  refine K.conP (fun hcon => ?_)
                  refine WpL.callP1 (hcon v l (eI l n c3).1 400 f2) hp handA handOA rfl (.cons rfl (.sc (.sc (.sc .nil))) .nil) (by decide) ?_
                  exact WpL.nil (Only.mk rfl)
                · exact rfl
                · exact rfl
                apply HeadS.consF .none rfl
                · exact rfl
                · exact rfl
                · exact in1
                · exact rfl
                · exact rfl
                apply HeadS.consF (V := .own 5 1 0 6) (.put 5 (⟨ints (lvs (eQ l n c3).2), 1, 1, some 3⟩)) rfl
                · exact rfl
                · exact rfl
                · intro Tv Ov hc hp' hd hk
                  refine WpL.litInts tabOk rfl rfl rfl rfl rfl (by decide) (by rw [nid_len, Nat.zero_add]) (by decide) ?_
                  apply WpL.putNil (p := 5)
                  · exact hp' 5 _ rfl
                  · exact Nat.le_of_ble_eq_true rfl
                  · exact rfl
                  · first | exact still_ints _ | exact still_rows (fun _ => rfl) _ | rfl
                · exact rfl
                · exact rfl
                apply HeadS.consF (V := I (eW l n c3).2) (.step 0 (CurO v (eW l n c3).1)) rfl
                · exact rfl
                · exact rfl
                · intro Tv Ov hc hp' hd hk
                  obtain ⟨a1, a2, a3, a4, R, rfl⟩ := split05 (hp' 0 _ rfl) (hd 18 _ 5 _ (by decide) rfl rfl rfl)
                  refine K.call ?_
                  refine K.conP (fun hcon => ?_)
                  refine WpL.callP1 (hcon v l (eQ l n c3).1 (lvs (eQ l n c3).2) ⟨f5, by simp, by simp⟩) hp handA handOA rfl (.cons rfl (.sc (.sc (.sc .nil))) .nil) (by decide) ?_
                  exact WpL.nil (Only.mk rfl)
                · exact rfl
                · exact rfl
                exact HeadS.nil
              · exact rfl
              · exact rfl
              · exact rfl
              · exact rfl
              · exact rfl
              · exact rfl
              · exact rfl
              refine go (r := ?_); and_intros <;> intros <;> try exact True.intro
              all_goals first | contradiction | omega | skip
              refine Rnd.go (k3 - 1, (eW l n c3).1, xs.set (eI l n c3).2.toNat (eW l n c3).2) ⟨f6, by rw [List.length_set]; exact hxl, hE, by simp only; omega⟩ ?_ ?_
              · show k3 - 1 < k3; omega
              · simp only [List.length_set]
                exact Weak.mk (by repeat (first | exact ReT.nil | refine ReT.cons (.keep rfl rfl .nil) ?_ | refine ReT.cons (.own rfl rfl rfl rfl rfl rfl .nil) ?_ | refine ReT.cons (.ptr rfl rfl rfl rfl .nil) ?_ | refine ReT.cons (.keep (congrArg (fun z => AV.sc (Value.int .i64 z)) (by first | omega | (skip))) rfl .nil) ?_ | refine ReT.cons (.keep (congrArg (fun z : List UInt8 => AV.sc (Value.string ⟨z.toArray⟩)) (by skip)) rfl .nil) ?_ | refine ReT.cons (.own rfl rfl rfl rfl rfl (by first | omega | (simp; done) | (simp; omega)) .nil) ?_)) (by repeat (first | exact ReO.nil | refine ReO.cons (Re.same rfl rfl) (.inr rfl) ?_ | refine ReO.cons (Re.same rfl (still_ints _)) (.inr rfl) ?_ | refine ReO.cons (.keep rfl rfl (.own rfl rfl rfl rfl rfl rfl .nil)) (.inr rfl) ?_)) (Nat.le_of_ble_eq_true rfl)
          · have hzero : (symL lens m).length = 0 := Nat.eq_zero_of_not_pos fun h0 => hh2 (hspm.1 h0)
            have hm6b := hmm.resolve_left hh2
            have hbc : bmC lens m = 1 := by unfold bmC; rw [if_neg hh2]
            rw [hbc] at hBM2
            refine go (r := ?_); and_intros <;> intros <;> try exact True.intro
            all_goals first | contradiction | omega | exact hb5c.1 | exact hb5c.2 | skip
            subst hBM2
            refine WpA.loop (fun x : Nat × Cr × List Int => ⟨[(0, .ptr 0 0 0), (2, I n), (6, .ptr 1 0 0), (7, .ptr 3 0 0), (9, I x.1)], [CurO v x.2.1, ⟨[I 0, .nilS], 0, 0, none⟩, XI x.2.2, ⟨[I 1, .own 2 0 0 x.2.2.length], 0, 0, none⟩]⟩) (fun x => CrOk l x.2.1 ∧ x.2.2.length = (n * n).toNat ∧ dvK l n x.1 x.2 = L ∧ x.1 ≤ 4) (fun x => x.1) ((belowD l c1 5).2.toNat, (belowD l c1 5).1, List.replicate (n * n).toNat 0) ⟨hb5.1, by simp, hL, by simp only; omega⟩ ?_ ?_
            · have ez : (((belowD l c1 5).2.toNat : Nat) : Int) = (belowD l c1 5).2 := by omega
              simp only [ez, List.length_replicate]
              exact Weak.mk (by repeat (first | exact ReT.nil | refine ReT.cons (.keep rfl rfl .nil) ?_ | refine ReT.cons (.own rfl rfl rfl rfl rfl rfl .nil) ?_ | refine ReT.cons (.ptr rfl rfl rfl rfl .nil) ?_ | refine ReT.cons (.keep (congrArg (fun z => AV.sc (Value.int .i64 z)) (by first | omega | (skip))) rfl .nil) ?_ | refine ReT.cons (.keep (congrArg (fun z : List UInt8 => AV.sc (Value.string ⟨z.toArray⟩)) (by skip)) rfl .nil) ?_ | refine ReT.cons (.own rfl rfl rfl rfl rfl (by first | omega | (simp; done) | (simp; omega)) .nil) ?_)) (by repeat (first | exact ReO.nil | refine ReO.cons (Re.same rfl rfl) (.inr rfl) ?_ | refine ReO.cons (Re.same rfl (still_ints _)) (.inr rfl) ?_ | refine ReO.cons (.keep rfl rfl (.own rfl rfl rfl rfl rfl rfl .nil)) (.inr rfl) ?_)) (Nat.le_of_ble_eq_true rfl)
            rintro ⟨k3, c3, xs⟩ ⟨hc3, hxl, hL3, hk4⟩
            try simp only at hc3 hxl hL3 hk4 ⊢
            by_cases hk3 : k3 = 0
            · subst hk3
              have hLe : (c3, xs) = L := hL3
              subst hLe
              refine go (r := ?_); and_intros <;> intros <;> try exact True.intro
              all_goals trace_state
            · have hE : dvK l n (k3 - 1) (dvS l n (c3, xs)) = L := by
                obtain ⟨j, rfl⟩ : ∃ j, k3 = j + 1 := ⟨k3 - 1, by omega⟩
                exact hL3
              have hfacts := dvS_facts (s := (c3, xs)) hn hc3
              rw [dvS_eq] at hE hfacts
              obtain ⟨f1, f2, ⟨f3, f4⟩, f5, f6, f7⟩ := hfacts
              have f3' : 0 ≤ (eI l n c3).2 := f3
              have f4' : (eI l n c3).2 < n * n := f4
              have hq4 := belowD_ok 400 f2
              have hq40 : 0 ≤ (eQ l n c3).2 := hq4.2.1
              have hq41 : (eQ l n c3).2 < 400 := hq4.2.2.1 (by decide)
              refine goR (r := ?_); and_intros <;> intros <;> try exact True.intro
              all_goals first | contradiction | omega | skip
              apply WpA.regionSF (O := []) (Or := [CurO v c3, ⟨[I 0, .nilS], 0, 0, none⟩, XI xs, ⟨[I 1, .own 2 0 0 xs.length], 0, 0, none⟩]) (O1 := [CurO v (eW l n c3).1, ⟨[I 0, .nilS], 0, 0, none⟩, XI xs, ⟨[I 1, .own 2 0 0 xs.length], 0, 0, none⟩, ⟨ints (ixs n (eB l n c3).2), 1, 1, some 3⟩, ⟨ints (lvs (eQ l n c3).2), 1, 1, some 3⟩, deadO, deadO]) 20 2 [3] [0] rfl mixed (by decide +kernel)
              · exact rfl
              · apply HeadS.consF .none rfl
                · exact rfl
                · exact rfl
                · intro Tv Ov hc hp' hd hk
                  obtain ⟨x0, x1, x2, R, rfl⟩ := Abs.split4 (hk 3 rfl)
                  exact in1
                · exact rfl
                · exact rfl
                apply HeadS.consF .none rfl
                · exact rfl
                · exact rfl
                · intro Tv Ov hc hp' hd hk
                  obtain ⟨x0, x1, x2, R, rfl⟩ := Abs.split4 (hk 3 rfl)
                  exact in1
                · exact rfl
                · exact rfl
                apply HeadS.consF .none rfl
                · exact rfl
                · exact rfl
                · exact in1
                · exact rfl
                · exact rfl
                apply HeadS.consF .none rfl
                · exact rfl
                · exact rfl
                · exact in1
                · exact rfl
                · exact rfl
                apply HeadS.consF .none rfl
                · exact rfl
                · exact rfl
                · exact in1
                · exact rfl
                · exact rfl
                apply HeadS.consF .none rfl
                · exact rfl
                · exact rfl
                · exact in1
                · exact rfl
                · exact rfl
                apply HeadS.consF .none rfl
                · exact rfl
                · exact rfl
                · exact in1
                · exact rfl
                · exact rfl
                apply HeadS.consF .none rfl
                · exact rfl
                · exact rfl
                · exact in1
                · exact rfl
                · exact rfl
                apply HeadS.consF .none rfl
                · exact rfl
                · exact rfl
                · exact in1
                · exact rfl
                · exact rfl
                apply HeadS.consF .none rfl
                · exact rfl
                · exact rfl
                · exact in1
                · exact rfl
                · exact rfl
                apply HeadS.consF .none rfl
                · exact rfl
                · exact rfl
                · exact in1
                · exact rfl
                · exact rfl
                apply HeadS.consF (V := I (eB l n c3).2) (.step 0 (CurO v (eB l n c3).1)) rfl
                · exact rfl
                · exact rfl
                · intro Tv Ov hc hp' hd hk
                  obtain ⟨R, rfl⟩ := split1 (hp' 0 _ rfl)
                  refine K.call ?_
                  refine K.conP (fun hcon => ?_)
                  refine WpL.callP1 (hcon v l c3 (n * n) hc3) hp handA handOA rfl (.cons rfl (.sc (.sc (.sc .nil))) .nil) (by decide) ?_
                  exact WpL.nil (Only.mk rfl)
                · exact rfl
                · exact rfl
                apply HeadS.consF (V := .own 4 1 0 6) (.put 4 (⟨ints (ixs n (eB l n c3).2), 1, 1, some 3⟩)) rfl
                · exact rfl
                · exact rfl
                · intro Tv Ov hc hp' hd hk
                  refine WpL.litInts tabOk rfl rfl rfl rfl rfl (by decide) (by rw [nid_len, Nat.zero_add]) (by decide) ?_
                  apply WpL.putNil (p := 4)
                  · exact hp' 4 _ rfl
                  · exact Nat.le_of_ble_eq_true rfl
                  · exact rfl
                  · first | exact still_ints _ | exact still_rows (fun _ => rfl) _ | rfl
                · exact rfl
                · exact rfl
                apply HeadS.consF (V := I (eI l n c3).2) (.step 0 (CurO v (eI l n c3).1)) rfl
                · exact rfl
                · exact rfl
                · intro Tv Ov hc hp' hd hk
                  obtain ⟨a1, a2, a3, R, rfl⟩ := split04 (hp' 0 _ rfl) (hd 12 _ 4 _ (by decide) rfl rfl rfl)
                  refine K.call ?_
                  refine K.conP (fun hcon => ?_)
                  refine WpL.callP1 (hcon v l (eB l n c3).1 (ixs n (eB l n c3).2) ⟨f1, by simp, by simp⟩) hp handA handOA rfl (.cons rfl (.sc (.sc (.sc .nil))) .nil) (by decide) ?_
                  exact WpL.nil (Only.mk rfl)
                · exact rfl
                · exact rfl
                apply HeadS.consF .none rfl
                · exact rfl
                · exact rfl
                · exact in1
                · exact rfl
                · exact rfl
                apply HeadS.consF .none rfl
                · exact rfl
                · exact rfl
                · exact in1
                · exact rfl
                · exact rfl
                apply HeadS.consF (V := I (eQ l n c3).2) (.step 0 (CurO v (eQ l n c3).1)) rfl
                · exact rfl
                · exact rfl
                · intro Tv Ov hc hp' hd hk
                  obtain ⟨R, rfl⟩ := split1 (hp' 0 _ rfl)
                  refine K.call ?_
                  refine K.conP (fun hcon => ?_)
                  refine WpL.callP1 (hcon v l (eI l n c3).1 400 f2) hp handA handOA rfl (.cons rfl (.sc (.sc (.sc .nil))) .nil) (by decide) ?_
                  exact WpL.nil (Only.mk rfl)
                · exact rfl
                · exact rfl
                apply HeadS.consF .none rfl
                · exact rfl
                · exact rfl
                · exact in1
                · exact rfl
                · exact rfl
                apply HeadS.consF (V := .own 5 1 0 6) (.put 5 (⟨ints (lvs (eQ l n c3).2), 1, 1, some 3⟩)) rfl
                · exact rfl
                · exact rfl
                · intro Tv Ov hc hp' hd hk
                  refine WpL.litInts tabOk rfl rfl rfl rfl rfl (by decide) (by rw [nid_len, Nat.zero_add]) (by decide) ?_
                  apply WpL.putNil (p := 5)
                  · exact hp' 5 _ rfl
                  · exact Nat.le_of_ble_eq_true rfl
                  · exact rfl
                  · first | exact still_ints _ | exact still_rows (fun _ => rfl) _ | rfl
                · exact rfl
                · exact rfl
                apply HeadS.consF (V := I (eW l n c3).2) (.step 0 (CurO v (eW l n c3).1)) rfl
                · exact rfl
                · exact rfl
                · intro Tv Ov hc hp' hd hk
                  obtain ⟨a1, a2, a3, a4, R, rfl⟩ := split05 (hp' 0 _ rfl) (hd 18 _ 5 _ (by decide) rfl rfl rfl)
                  refine K.call ?_
                  refine K.conP (fun hcon => ?_)
                  refine WpL.callP1 (hcon v l (eQ l n c3).1 (lvs (eQ l n c3).2) ⟨f5, by simp, by simp⟩) hp handA handOA rfl (.cons rfl (.sc (.sc (.sc .nil))) .nil) (by decide) ?_
                  exact WpL.nil (Only.mk rfl)
                · exact rfl
                · exact rfl
                exact HeadS.nil
              · exact rfl
              · exact rfl
              · exact rfl
              · exact rfl
              · exact rfl
              · exact rfl
              · exact rfl
              refine go (r := ?_); and_intros <;> intros <;> try exact True.intro
              all_goals first | contradiction | omega | skip
              refine Rnd.go (k3 - 1, (eW l n c3).1, xs.set (eI l n c3).2.toNat (eW l n c3).2) ⟨f6, by rw [List.length_set]; exact hxl, hE, by simp only; omega⟩ ?_ ?_
              · show k3 - 1 < k3; omega
              · simp only [List.length_set]
                exact Weak.mk (by repeat (first | exact ReT.nil | refine ReT.cons (.keep rfl rfl .nil) ?_ | refine ReT.cons (.own rfl rfl rfl rfl rfl rfl .nil) ?_ | refine ReT.cons (.ptr rfl rfl rfl rfl .nil) ?_ | refine ReT.cons (.keep (congrArg (fun z => AV.sc (Value.int .i64 z)) (by first | omega | (skip))) rfl .nil) ?_ | refine ReT.cons (.keep (congrArg (fun z : List UInt8 => AV.sc (Value.string ⟨z.toArray⟩)) (by skip)) rfl .nil) ?_ | refine ReT.cons (.own rfl rfl rfl rfl rfl (by first | omega | (simp; done) | (simp; omega)) .nil) ?_)) (by repeat (first | exact ReO.nil | refine ReO.cons (Re.same rfl rfl) (.inr rfl) ?_ | refine ReO.cons (Re.same rfl (still_ints _)) (.inr rfl) ?_ | refine ReO.cons (.keep rfl rfl (.own rfl rfl rfl rfl rfl rfl .nil)) (.inr rfl) ?_)) (Nat.le_of_ble_eq_true rfl)
        · have hh2 : ¬ HasC lens m := fun h0 => hmm (.inl h0)
          have hm6b : m < 6 := Decidable.byContradiction fun h0 => hmm (.inr h0)
          have hzero : (symL lens m).length = 0 := Nat.eq_zero_of_not_pos fun h0 => hh2 (hspm.1 h0)
          rw [bmB_go hm6b hh2] at hmB
          refine go (r := ?_); and_intros <;> intros <;> try exact True.intro
          all_goals first | contradiction | omega | skip
          refine Rnd.go (m + 1) ⟨by omega, by omega, hmB⟩ ?_ ?_
          · show (6 - (m + 1)).toNat < (6 - m).toNat; omega
          · exact Weak.mk (by repeat (first | exact ReT.nil | refine ReT.cons (.keep rfl rfl .nil) ?_ | refine ReT.cons (.own rfl rfl rfl rfl rfl rfl .nil) ?_ | refine ReT.cons (.ptr rfl rfl rfl rfl .nil) ?_ | refine ReT.cons (.keep (congrArg (fun z => AV.sc (Value.int .i64 z)) (by first | omega | (skip))) rfl .nil) ?_ | refine ReT.cons (.keep (congrArg (fun z : List UInt8 => AV.sc (Value.string ⟨z.toArray⟩)) (by skip)) rfl .nil) ?_ | refine ReT.cons (.own rfl rfl rfl rfl rfl (by first | omega | (simp; done) | (simp; omega)) .nil) ?_)) (by repeat (first | exact ReO.nil | refine ReO.cons (Re.same rfl rfl) (.inr rfl) ?_ | refine ReO.cons (Re.same rfl (still_ints _)) (.inr rfl) ?_ | refine ReO.cons (.keep rfl rfl (.own rfl rfl rfl rfl rfl rfl .nil)) (.inr rfl) ?_)) (Nat.le_of_ble_eq_true rfl)
    · refine go (r := ?_); and_intros <;> intros <;> try exact True.intro
      all_goals first | contradiction | omega | skip
      refine WpA.loop (fun m : Int => ⟨[(0, .ptr 0 0 0), (1, IL lens), (2, I n), (6, .ptr 1 0 0), (7, .ptr 3 0 0)], [CurO v c1, ⟨[I 0, .nilS], 0, 0, none⟩, XI (List.replicate (n * n).toNat 0), ⟨[I m, .own 2 0 0 (n * n).toNat], 0, 0, none⟩]⟩) (fun m => 0 ≤ m ∧ m ≤ 6 ∧ bmB lens (6 - m).toNat m = S2) (fun m => (6 - m).toNat) m1 ⟨hA.2.1, by omega, hS2⟩ ?_ ?_
      · exact Weak.mk (by repeat (first | exact ReT.nil | refine ReT.cons (.keep rfl rfl .nil) ?_ | refine ReT.cons (.own rfl rfl rfl rfl rfl rfl .nil) ?_ | refine ReT.cons (.ptr rfl rfl rfl rfl .nil) ?_ | refine ReT.cons (.keep (congrArg (fun z => AV.sc (Value.int .i64 z)) (by first | omega | (skip))) rfl .nil) ?_ | refine ReT.cons (.keep (congrArg (fun z : List UInt8 => AV.sc (Value.string ⟨z.toArray⟩)) (by skip)) rfl .nil) ?_ | refine ReT.cons (.own rfl rfl rfl rfl rfl (by first | omega | (simp; done) | (simp; omega)) .nil) ?_)) (by repeat (first | exact ReO.nil | refine ReO.cons (Re.same rfl rfl) (.inr rfl) ?_ | refine ReO.cons (Re.same rfl (still_ints _)) (.inr rfl) ?_ | refine ReO.cons (.keep rfl rfl (.own rfl rfl rfl rfl rfl rfl .nil)) (.inr rfl) ?_)) (Nat.le_of_ble_eq_true rfl)
      rintro m ⟨hm0, hm6, hmB⟩
      try simp only at hm0 hm6 hmB ⊢
      have hspm := hsp m
      have hs7m := hs7 m
      by_cases hmm : HasC lens m ∨ ¬ m < 6
      · rw [bmB_stop hmm] at hmB
        subst hmB
        by_cases hh2 : HasC lens m
        · have hpos := hspm.2 hh2
          have hbc : bmC lens m = m := by unfold bmC; rw [if_pos hh2]
          rw [hbc] at hBM2
          refine go (r := ?_); and_intros <;> intros <;> try exact True.intro
          all_goals first | contradiction | omega | exact hb5c.1 | exact hb5c.2 | skip
          subst hBM2
          refine WpA.loop (fun x : Nat × Cr × List Int => ⟨[(0, .ptr 0 0 0), (2, I n), (6, .ptr 1 0 0), (7, .ptr 3 0 0), (9, I x.1)], [CurO v x.2.1, ⟨[I 0, .nilS], 0, 0, none⟩, XI x.2.2, ⟨[I BM, .own 2 0 0 x.2.2.length], 0, 0, none⟩]⟩) (fun x => CrOk l x.2.1 ∧ x.2.2.length = (n * n).toNat ∧ dvK l n x.1 x.2 = L ∧ x.1 ≤ 4) (fun x => x.1) ((belowD l c1 5).2.toNat, (belowD l c1 5).1, List.replicate (n * n).toNat 0) ⟨hb5.1, by simp, hL, by simp only; omega⟩ ?_ ?_
          · have ez : (((belowD l c1 5).2.toNat : Nat) : Int) = (belowD l c1 5).2 := by omega
            simp only [ez, List.length_replicate]
            exact Weak.mk (by repeat (first | exact ReT.nil | refine ReT.cons (.keep rfl rfl .nil) ?_ | refine ReT.cons (.own rfl rfl rfl rfl rfl rfl .nil) ?_ | refine ReT.cons (.ptr rfl rfl rfl rfl .nil) ?_ | refine ReT.cons (.keep (congrArg (fun z => AV.sc (Value.int .i64 z)) (by first | omega | (skip))) rfl .nil) ?_ | refine ReT.cons (.keep (congrArg (fun z : List UInt8 => AV.sc (Value.string ⟨z.toArray⟩)) (by skip)) rfl .nil) ?_ | refine ReT.cons (.own rfl rfl rfl rfl rfl (by first | omega | (simp; done) | (simp; omega)) .nil) ?_)) (by repeat (first | exact ReO.nil | refine ReO.cons (Re.same rfl rfl) (.inr rfl) ?_ | refine ReO.cons (Re.same rfl (still_ints _)) (.inr rfl) ?_ | refine ReO.cons (.keep rfl rfl (.own rfl rfl rfl rfl rfl rfl .nil)) (.inr rfl) ?_)) (Nat.le_of_ble_eq_true rfl)
          rintro ⟨k3, c3, xs⟩ ⟨hc3, hxl, hL3, hk4⟩
          try simp only at hc3 hxl hL3 hk4 ⊢
          by_cases hk3 : k3 = 0
          · subst hk3
            have hLe : (c3, xs) = L := hL3
            subst hLe
            refine go (r := ?_); and_intros <;> intros <;> try exact True.intro
            all_goals trace_state
          · have hE : dvK l n (k3 - 1) (dvS l n (c3, xs)) = L := by
              obtain ⟨j, rfl⟩ : ∃ j, k3 = j + 1 := ⟨k3 - 1, by omega⟩
              exact hL3
            have hfacts := dvS_facts (s := (c3, xs)) hn hc3
            rw [dvS_eq] at hE hfacts
            obtain ⟨f1, f2, ⟨f3, f4⟩, f5, f6, f7⟩ := hfacts
            have f3' : 0 ≤ (eI l n c3).2 := f3
            have f4' : (eI l n c3).2 < n * n := f4
            have hq4 := belowD_ok 400 f2
            have hq40 : 0 ≤ (eQ l n c3).2 := hq4.2.1
            have hq41 : (eQ l n c3).2 < 400 := hq4.2.2.1 (by decide)
            refine goR (r := ?_); and_intros <;> intros <;> try exact True.intro
            all_goals first | contradiction | omega | skip
            apply WpA.regionSF (O := []) (Or := [CurO v c3, ⟨[I 0, .nilS], 0, 0, none⟩, XI xs, ⟨[I BM, .own 2 0 0 xs.length], 0, 0, none⟩]) (O1 := [CurO v (eW l n c3).1, ⟨[I 0, .nilS], 0, 0, none⟩, XI xs, ⟨[I BM, .own 2 0 0 xs.length], 0, 0, none⟩, ⟨ints (ixs n (eB l n c3).2), 1, 1, some 3⟩, ⟨ints (lvs (eQ l n c3).2), 1, 1, some 3⟩, deadO, deadO]) 20 2 [3] [0] rfl mixed (by decide +kernel)
            · exact rfl
            · apply HeadS.consF .none rfl
              · exact rfl
              · exact rfl
              · intro Tv Ov hc hp' hd hk
                obtain ⟨x0, x1, x2, R, rfl⟩ := Abs.split4 (hk 3 rfl)
                exact in1
              · exact rfl
              · exact rfl
              apply HeadS.consF .none rfl
              · exact rfl
              · exact rfl
              · intro Tv Ov hc hp' hd hk
                obtain ⟨x0, x1, x2, R, rfl⟩ := Abs.split4 (hk 3 rfl)
                exact in1
              · exact rfl
              · exact rfl
              apply HeadS.consF .none rfl
              · exact rfl
              · exact rfl
              · exact in1
              · exact rfl
              · exact rfl
              apply HeadS.consF .none rfl
              · exact rfl
              · exact rfl
              · exact in1
              · exact rfl
              · exact rfl
              apply HeadS.consF .none rfl
              · exact rfl
              · exact rfl
              · exact in1
              · exact rfl
              · exact rfl
              apply HeadS.consF .none rfl
              · exact rfl
              · exact rfl
              · exact in1
              · exact rfl
              · exact rfl
              apply HeadS.consF .none rfl
              · exact rfl
              · exact rfl
              · exact in1
              · exact rfl
              · exact rfl
              apply HeadS.consF .none rfl
              · exact rfl
              · exact rfl
              · exact in1
              · exact rfl
              · exact rfl
              apply HeadS.consF .none rfl
              · exact rfl
              · exact rfl
              · exact in1
              · exact rfl
              · exact rfl
              apply HeadS.consF .none rfl
              · exact rfl
              · exact rfl
              · exact in1
              · exact rfl
              · exact rfl
              apply HeadS.consF .none rfl
              · exact rfl
              · exact rfl
              · exact in1
              · exact rfl
              · exact rfl
              apply HeadS.consF (V := I (eB l n c3).2) (.step 0 (CurO v (eB l n c3).1)) rfl
              · exact rfl
              · exact rfl
              · intro Tv Ov hc hp' hd hk
                obtain ⟨R, rfl⟩ := split1 (hp' 0 _ rfl)
                refine K.call ?_
                refine K.conP (fun hcon => ?_)
                refine WpL.callP1 (hcon v l c3 (n * n) hc3) hp handA handOA rfl (.cons rfl (.sc (.sc (.sc .nil))) .nil) (by decide) ?_
                exact WpL.nil (Only.mk rfl)
              · exact rfl
              · exact rfl
              apply HeadS.consF (V := .own 4 1 0 6) (.put 4 (⟨ints (ixs n (eB l n c3).2), 1, 1, some 3⟩)) rfl
              · exact rfl
              · exact rfl
              · intro Tv Ov hc hp' hd hk
                refine WpL.litInts tabOk rfl rfl rfl rfl rfl (by decide) (by rw [nid_len, Nat.zero_add]) (by decide) ?_
                apply WpL.putNil (p := 4)
                · exact hp' 4 _ rfl
                · exact Nat.le_of_ble_eq_true rfl
                · exact rfl
                · first | exact still_ints _ | exact still_rows (fun _ => rfl) _ | rfl
              · exact rfl
              · exact rfl
              apply HeadS.consF (V := I (eI l n c3).2) (.step 0 (CurO v (eI l n c3).1)) rfl
              · exact rfl
              · exact rfl
              · intro Tv Ov hc hp' hd hk
                obtain ⟨a1, a2, a3, R, rfl⟩ := split04 (hp' 0 _ rfl) (hd 12 _ 4 _ (by decide) rfl rfl rfl)
                refine K.call ?_
                refine K.conP (fun hcon => ?_)
                refine WpL.callP1 (hcon v l (eB l n c3).1 (ixs n (eB l n c3).2) ⟨f1, by simp, by simp⟩) hp handA handOA rfl (.cons rfl (.sc (.sc (.sc .nil))) .nil) (by decide) ?_
                exact WpL.nil (Only.mk rfl)
              · exact rfl
              · exact rfl
              apply HeadS.consF .none rfl
              · exact rfl
              · exact rfl
              · exact in1
              · exact rfl
              · exact rfl
              apply HeadS.consF .none rfl
              · exact rfl
              · exact rfl
              · exact in1
              · exact rfl
              · exact rfl
              apply HeadS.consF (V := I (eQ l n c3).2) (.step 0 (CurO v (eQ l n c3).1)) rfl
              · exact rfl
              · exact rfl
              · intro Tv Ov hc hp' hd hk
                obtain ⟨R, rfl⟩ := split1 (hp' 0 _ rfl)
                refine K.call ?_
                refine K.conP (fun hcon => ?_)
                refine WpL.callP1 (hcon v l (eI l n c3).1 400 f2) hp handA handOA rfl (.cons rfl (.sc (.sc (.sc .nil))) .nil) (by decide) ?_
                exact WpL.nil (Only.mk rfl)
              · exact rfl
              · exact rfl
              apply HeadS.consF .none rfl
              · exact rfl
              · exact rfl
              · exact in1
              · exact rfl
              · exact rfl
              apply HeadS.consF (V := .own 5 1 0 6) (.put 5 (⟨ints (lvs (eQ l n c3).2), 1, 1, some 3⟩)) rfl
              · exact rfl
              · exact rfl
              · intro Tv Ov hc hp' hd hk
                refine WpL.litInts tabOk rfl rfl rfl rfl rfl (by decide) (by rw [nid_len, Nat.zero_add]) (by decide) ?_
                apply WpL.putNil (p := 5)
                · exact hp' 5 _ rfl
                · exact Nat.le_of_ble_eq_true rfl
                · exact rfl
                · first | exact still_ints _ | exact still_rows (fun _ => rfl) _ | rfl
              · exact rfl
              · exact rfl
              apply HeadS.consF (V := I (eW l n c3).2) (.step 0 (CurO v (eW l n c3).1)) rfl
              · exact rfl
              · exact rfl
              · intro Tv Ov hc hp' hd hk
                obtain ⟨a1, a2, a3, a4, R, rfl⟩ := split05 (hp' 0 _ rfl) (hd 18 _ 5 _ (by decide) rfl rfl rfl)
                refine K.call ?_
                refine K.conP (fun hcon => ?_)
                refine WpL.callP1 (hcon v l (eQ l n c3).1 (lvs (eQ l n c3).2) ⟨f5, by simp, by simp⟩) hp handA handOA rfl (.cons rfl (.sc (.sc (.sc .nil))) .nil) (by decide) ?_
                exact WpL.nil (Only.mk rfl)
              · exact rfl
              · exact rfl
              exact HeadS.nil
            · exact rfl
            · exact rfl
            · exact rfl
            · exact rfl
            · exact rfl
            · exact rfl
            · exact rfl
            refine go (r := ?_); and_intros <;> intros <;> try exact True.intro
            all_goals first | contradiction | omega | skip
            refine Rnd.go (k3 - 1, (eW l n c3).1, xs.set (eI l n c3).2.toNat (eW l n c3).2) ⟨f6, by rw [List.length_set]; exact hxl, hE, by simp only; omega⟩ ?_ ?_
            · show k3 - 1 < k3; omega
            · simp only [List.length_set]
              exact Weak.mk (by repeat (first | exact ReT.nil | refine ReT.cons (.keep rfl rfl .nil) ?_ | refine ReT.cons (.own rfl rfl rfl rfl rfl rfl .nil) ?_ | refine ReT.cons (.ptr rfl rfl rfl rfl .nil) ?_ | refine ReT.cons (.keep (congrArg (fun z => AV.sc (Value.int .i64 z)) (by first | omega | (skip))) rfl .nil) ?_ | refine ReT.cons (.keep (congrArg (fun z : List UInt8 => AV.sc (Value.string ⟨z.toArray⟩)) (by skip)) rfl .nil) ?_ | refine ReT.cons (.own rfl rfl rfl rfl rfl (by first | omega | (simp; done) | (simp; omega)) .nil) ?_)) (by repeat (first | exact ReO.nil | refine ReO.cons (Re.same rfl rfl) (.inr rfl) ?_ | refine ReO.cons (Re.same rfl (still_ints _)) (.inr rfl) ?_ | refine ReO.cons (.keep rfl rfl (.own rfl rfl rfl rfl rfl rfl .nil)) (.inr rfl) ?_)) (Nat.le_of_ble_eq_true rfl)
        · have hzero : (symL lens m).length = 0 := Nat.eq_zero_of_not_pos fun h0 => hh2 (hspm.1 h0)
          have hm6b := hmm.resolve_left hh2
          have hbc : bmC lens m = 1 := by unfold bmC; rw [if_neg hh2]
          rw [hbc] at hBM2
          refine go (r := ?_); and_intros <;> intros <;> try exact True.intro
          all_goals first | contradiction | omega | exact hb5c.1 | exact hb5c.2 | skip
          subst hBM2
          refine WpA.loop (fun x : Nat × Cr × List Int => ⟨[(0, .ptr 0 0 0), (2, I n), (6, .ptr 1 0 0), (7, .ptr 3 0 0), (9, I x.1)], [CurO v x.2.1, ⟨[I 0, .nilS], 0, 0, none⟩, XI x.2.2, ⟨[I 1, .own 2 0 0 x.2.2.length], 0, 0, none⟩]⟩) (fun x => CrOk l x.2.1 ∧ x.2.2.length = (n * n).toNat ∧ dvK l n x.1 x.2 = L ∧ x.1 ≤ 4) (fun x => x.1) ((belowD l c1 5).2.toNat, (belowD l c1 5).1, List.replicate (n * n).toNat 0) ⟨hb5.1, by simp, hL, by simp only; omega⟩ ?_ ?_
          · have ez : (((belowD l c1 5).2.toNat : Nat) : Int) = (belowD l c1 5).2 := by omega
            simp only [ez, List.length_replicate]
            exact Weak.mk (by repeat (first | exact ReT.nil | refine ReT.cons (.keep rfl rfl .nil) ?_ | refine ReT.cons (.own rfl rfl rfl rfl rfl rfl .nil) ?_ | refine ReT.cons (.ptr rfl rfl rfl rfl .nil) ?_ | refine ReT.cons (.keep (congrArg (fun z => AV.sc (Value.int .i64 z)) (by first | omega | (skip))) rfl .nil) ?_ | refine ReT.cons (.keep (congrArg (fun z : List UInt8 => AV.sc (Value.string ⟨z.toArray⟩)) (by skip)) rfl .nil) ?_ | refine ReT.cons (.own rfl rfl rfl rfl rfl (by first | omega | (simp; done) | (simp; omega)) .nil) ?_)) (by repeat (first | exact ReO.nil | refine ReO.cons (Re.same rfl rfl) (.inr rfl) ?_ | refine ReO.cons (Re.same rfl (still_ints _)) (.inr rfl) ?_ | refine ReO.cons (.keep rfl rfl (.own rfl rfl rfl rfl rfl rfl .nil)) (.inr rfl) ?_)) (Nat.le_of_ble_eq_true rfl)
          rintro ⟨k3, c3, xs⟩ ⟨hc3, hxl, hL3, hk4⟩
          try simp only at hc3 hxl hL3 hk4 ⊢
          by_cases hk3 : k3 = 0
          · subst hk3
            have hLe : (c3, xs) = L := hL3
            subst hLe
            refine go (r := ?_); and_intros <;> intros <;> try exact True.intro
            all_goals trace_state
          · have hE : dvK l n (k3 - 1) (dvS l n (c3, xs)) = L := by
              obtain ⟨j, rfl⟩ : ∃ j, k3 = j + 1 := ⟨k3 - 1, by omega⟩
              exact hL3
            have hfacts := dvS_facts (s := (c3, xs)) hn hc3
            rw [dvS_eq] at hE hfacts
            obtain ⟨f1, f2, ⟨f3, f4⟩, f5, f6, f7⟩ := hfacts
            have f3' : 0 ≤ (eI l n c3).2 := f3
            have f4' : (eI l n c3).2 < n * n := f4
            have hq4 := belowD_ok 400 f2
            have hq40 : 0 ≤ (eQ l n c3).2 := hq4.2.1
            have hq41 : (eQ l n c3).2 < 400 := hq4.2.2.1 (by decide)
            refine goR (r := ?_); and_intros <;> intros <;> try exact True.intro
            all_goals first | contradiction | omega | skip
            apply WpA.regionSF (O := []) (Or := [CurO v c3, ⟨[I 0, .nilS], 0, 0, none⟩, XI xs, ⟨[I 1, .own 2 0 0 xs.length], 0, 0, none⟩]) (O1 := [CurO v (eW l n c3).1, ⟨[I 0, .nilS], 0, 0, none⟩, XI xs, ⟨[I 1, .own 2 0 0 xs.length], 0, 0, none⟩, ⟨ints (ixs n (eB l n c3).2), 1, 1, some 3⟩, ⟨ints (lvs (eQ l n c3).2), 1, 1, some 3⟩, deadO, deadO]) 20 2 [3] [0] rfl mixed (by decide +kernel)
            · exact rfl
            · apply HeadS.consF .none rfl
              · exact rfl
              · exact rfl
              · intro Tv Ov hc hp' hd hk
                obtain ⟨x0, x1, x2, R, rfl⟩ := Abs.split4 (hk 3 rfl)
                exact in1
              · exact rfl
              · exact rfl
              apply HeadS.consF .none rfl
              · exact rfl
              · exact rfl
              · intro Tv Ov hc hp' hd hk
                obtain ⟨x0, x1, x2, R, rfl⟩ := Abs.split4 (hk 3 rfl)
                exact in1
              · exact rfl
              · exact rfl
              apply HeadS.consF .none rfl
              · exact rfl
              · exact rfl
              · exact in1
              · exact rfl
              · exact rfl
              apply HeadS.consF .none rfl
              · exact rfl
              · exact rfl
              · exact in1
              · exact rfl
              · exact rfl
              apply HeadS.consF .none rfl
              · exact rfl
              · exact rfl
              · exact in1
              · exact rfl
              · exact rfl
              apply HeadS.consF .none rfl
              · exact rfl
              · exact rfl
              · exact in1
              · exact rfl
              · exact rfl
              apply HeadS.consF .none rfl
              · exact rfl
              · exact rfl
              · exact in1
              · exact rfl
              · exact rfl
              apply HeadS.consF .none rfl
              · exact rfl
              · exact rfl
              · exact in1
              · exact rfl
              · exact rfl
              apply HeadS.consF .none rfl
              · exact rfl
              · exact rfl
              · exact in1
              · exact rfl
              · exact rfl
              apply HeadS.consF .none rfl
              · exact rfl
              · exact rfl
              · exact in1
              · exact rfl
              · exact rfl
              apply HeadS.consF .none rfl
              · exact rfl
              · exact rfl
              · exact in1
              · exact rfl
              · exact rfl
              apply HeadS.consF (V := I (eB l n c3).2) (.step 0 (CurO v (eB l n c3).1)) rfl
              · exact rfl
              · exact rfl
              · intro Tv Ov hc hp' hd hk
                obtain ⟨R, rfl⟩ := split1 (hp' 0 _ rfl)
                refine K.call ?_
                refine K.conP (fun hcon => ?_)
                refine WpL.callP1 (hcon v l c3 (n * n) hc3) hp handA handOA rfl (.cons rfl (.sc (.sc (.sc .nil))) .nil) (by decide) ?_
                exact WpL.nil (Only.mk rfl)
              · exact rfl
              · exact rfl
              apply HeadS.consF (V := .own 4 1 0 6) (.put 4 (⟨ints (ixs n (eB l n c3).2), 1, 1, some 3⟩)) rfl
              · exact rfl
              · exact rfl
              · intro Tv Ov hc hp' hd hk
                refine WpL.litInts tabOk rfl rfl rfl rfl rfl (by decide) (by rw [nid_len, Nat.zero_add]) (by decide) ?_
                apply WpL.putNil (p := 4)
                · exact hp' 4 _ rfl
                · exact Nat.le_of_ble_eq_true rfl
                · exact rfl
                · first | exact still_ints _ | exact still_rows (fun _ => rfl) _ | rfl
              · exact rfl
              · exact rfl
              apply HeadS.consF (V := I (eI l n c3).2) (.step 0 (CurO v (eI l n c3).1)) rfl
              · exact rfl
              · exact rfl
              · intro Tv Ov hc hp' hd hk
                obtain ⟨a1, a2, a3, R, rfl⟩ := split04 (hp' 0 _ rfl) (hd 12 _ 4 _ (by decide) rfl rfl rfl)
                refine K.call ?_
                refine K.conP (fun hcon => ?_)
                refine WpL.callP1 (hcon v l (eB l n c3).1 (ixs n (eB l n c3).2) ⟨f1, by simp, by simp⟩) hp handA handOA rfl (.cons rfl (.sc (.sc (.sc .nil))) .nil) (by decide) ?_
                exact WpL.nil (Only.mk rfl)
              · exact rfl
              · exact rfl
              apply HeadS.consF .none rfl
              · exact rfl
              · exact rfl
              · exact in1
              · exact rfl
              · exact rfl
              apply HeadS.consF .none rfl
              · exact rfl
              · exact rfl
              · exact in1
              · exact rfl
              · exact rfl
              apply HeadS.consF (V := I (eQ l n c3).2) (.step 0 (CurO v (eQ l n c3).1)) rfl
              · exact rfl
              · exact rfl
              · intro Tv Ov hc hp' hd hk
                obtain ⟨R, rfl⟩ := split1 (hp' 0 _ rfl)
                refine K.call ?_
                refine K.conP (fun hcon => ?_)
                refine WpL.callP1 (hcon v l (eI l n c3).1 400 f2) hp handA handOA rfl (.cons rfl (.sc (.sc (.sc .nil))) .nil) (by decide) ?_
                exact WpL.nil (Only.mk rfl)
              · exact rfl
              · exact rfl
              apply HeadS.consF .none rfl
              · exact rfl
              · exact rfl
              · exact in1
              · exact rfl
              · exact rfl
              apply HeadS.consF (V := .own 5 1 0 6) (.put 5 (⟨ints (lvs (eQ l n c3).2), 1, 1, some 3⟩)) rfl
              · exact rfl
              · exact rfl
              · intro Tv Ov hc hp' hd hk
                refine WpL.litInts tabOk rfl rfl rfl rfl rfl (by decide) (by rw [nid_len, Nat.zero_add]) (by decide) ?_
                apply WpL.putNil (p := 5)
                · exact hp' 5 _ rfl
                · exact Nat.le_of_ble_eq_true rfl
                · exact rfl
                · first | exact still_ints _ | exact still_rows (fun _ => rfl) _ | rfl
              · exact rfl
              · exact rfl
              apply HeadS.consF (V := I (eW l n c3).2) (.step 0 (CurO v (eW l n c3).1)) rfl
              · exact rfl
              · exact rfl
              · intro Tv Ov hc hp' hd hk
                obtain ⟨a1, a2, a3, a4, R, rfl⟩ := split05 (hp' 0 _ rfl) (hd 18 _ 5 _ (by decide) rfl rfl rfl)
                refine K.call ?_
                refine K.conP (fun hcon => ?_)
                refine WpL.callP1 (hcon v l (eQ l n c3).1 (lvs (eQ l n c3).2) ⟨f5, by simp, by simp⟩) hp handA handOA rfl (.cons rfl (.sc (.sc (.sc .nil))) .nil) (by decide) ?_
                exact WpL.nil (Only.mk rfl)
              · exact rfl
              · exact rfl
              exact HeadS.nil
            · exact rfl
            · exact rfl
            · exact rfl
            · exact rfl
            · exact rfl
            · exact rfl
            · exact rfl
            refine go (r := ?_); and_intros <;> intros <;> try exact True.intro
            all_goals first | contradiction | omega | skip
            refine Rnd.go (k3 - 1, (eW l n c3).1, xs.set (eI l n c3).2.toNat (eW l n c3).2) ⟨f6, by rw [List.length_set]; exact hxl, hE, by simp only; omega⟩ ?_ ?_
            · show k3 - 1 < k3; omega
            · simp only [List.length_set]
              exact Weak.mk (by repeat (first | exact ReT.nil | refine ReT.cons (.keep rfl rfl .nil) ?_ | refine ReT.cons (.own rfl rfl rfl rfl rfl rfl .nil) ?_ | refine ReT.cons (.ptr rfl rfl rfl rfl .nil) ?_ | refine ReT.cons (.keep (congrArg (fun z => AV.sc (Value.int .i64 z)) (by first | omega | (skip))) rfl .nil) ?_ | refine ReT.cons (.keep (congrArg (fun z : List UInt8 => AV.sc (Value.string ⟨z.toArray⟩)) (by skip)) rfl .nil) ?_ | refine ReT.cons (.own rfl rfl rfl rfl rfl (by first | omega | (simp; done) | (simp; omega)) .nil) ?_)) (by repeat (first | exact ReO.nil | refine ReO.cons (Re.same rfl rfl) (.inr rfl) ?_ | refine ReO.cons (Re.same rfl (still_ints _)) (.inr rfl) ?_ | refine ReO.cons (.keep rfl rfl (.own rfl rfl rfl rfl rfl rfl .nil)) (.inr rfl) ?_)) (Nat.le_of_ble_eq_true rfl)
      · have hh2 : ¬ HasC lens m := fun h0 => hmm (.inl h0)
        have hm6b : m < 6 := Decidable.byContradiction fun h0 => hmm (.inr h0)
        have hzero : (symL lens m).length = 0 := Nat.eq_zero_of_not_pos fun h0 => hh2 (hspm.1 h0)
        rw [bmB_go hm6b hh2] at hmB
        refine go (r := ?_); and_intros <;> intros <;> try exact True.intro
        all_goals first | contradiction | omega | skip
        refine Rnd.go (m + 1) ⟨by omega, by omega, hmB⟩ ?_ ?_
        · show (6 - (m + 1)).toNat < (6 - m).toNat; omega
        · exact Weak.mk (by repeat (first | exact ReT.nil | refine ReT.cons (.keep rfl rfl .nil) ?_ | refine ReT.cons (.own rfl rfl rfl rfl rfl rfl .nil) ?_ | refine ReT.cons (.ptr rfl rfl rfl rfl .nil) ?_ | refine ReT.cons (.keep (congrArg (fun z => AV.sc (Value.int .i64 z)) (by first | omega | (skip))) rfl .nil) ?_ | refine ReT.cons (.keep (congrArg (fun z : List UInt8 => AV.sc (Value.string ⟨z.toArray⟩)) (by skip)) rfl .nil) ?_ | refine ReT.cons (.own rfl rfl rfl rfl rfl (by first | omega | (simp; done) | (simp; omega)) .nil) ?_)) (by repeat (first | exact ReO.nil | refine ReO.cons (Re.same rfl rfl) (.inr rfl) ?_ | refine ReO.cons (Re.same rfl (still_ints _)) (.inr rfl) ?_ | refine ReO.cons (.keep rfl rfl (.own rfl rfl rfl rfl rfl rfl .nil)) (.inr rfl) ?_)) (Nat.le_of_ble_eq_true rfl)
  ⟩
end Go.Proofs.YtjhejgamjlokdaaGreat
