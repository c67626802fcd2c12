/- Proved in this text: lemmas and contracts of functions that the claim uses (parts: Dm, DrR, Dst, BitsM, BitsH, Ln, SizeL, Unp, RdL, RdM, Rd). No condition. -/
import Derived.Test.YtgkeopmihhcbiaaPpM13
import Derived.Test.YtgkeopmihhcbiaaPpM11
import Derived.Test.YtgkeopmihhcbiaaPpM12
import Derived.Test.YtgkeopmihhcbiaaPpM10

/- What is drawn: macroblocks. No condition. -/
namespace Go.Proofs.Ytgkeopmihhcbiaa
open Go Go.Abs
set_option linter.unusedVariables false
set_option linter.unusedSimpArgs false
set_option maxRecDepth 100000
set_option maxHeartbeats 4000000
attribute [local irreducible] WpA WpL Rnd Blk Abs.Seq Abs.Fin Abs.FinG FnC FnG FnX FnP FinX Only
attribute [local irreducible] belowD onceD pickD modeD l8D l8AnyD optD anyD seedD headD headAnyD symL HasC blkD

theorem split345 {Ov : List AObj} {x y z : AObj} (h3 : Ov[3]? = some x) (h4 : Ov[4]? = some y) (h5 : Ov[5]? = some z) : ∃ a b c R, Ov = a :: b :: c :: x :: y :: z :: R := by
  match Ov, h3, h4, h5 with
  | a :: b :: c :: x' :: y' :: z' :: R, h3, h4, h5 => simp at h3 h4 h5; exact ⟨a, b, c, R, by rw [h3, h4, h5]⟩
  | [], h3, h4, h5 => simp at h5
  | [_], h3, h4, h5 => simp at h5
  | [_, _], h3, h4, h5 => simp at h5
  | [_, _, _], h3, h4, h5 => simp at h5
  | [_, _, _, _], h3, h4, h5 => simp at h5
  | [_, _, _, _, _], h3, h4, h5 => simp at h5
theorem sz_nm (e : Bool) : 64 / (sz8 e * sz8 e) = nm8 e ∧ 1 ≤ sz8 e * sz8 e ∧ sz8 e * sz8 e ≤ 64 ∧ 0 ≤ nm8 e ∧ nm8 e ≤ 4 := by cases e <;> decide
instance l23Mb_p : ConP 230 (∀ (v : Value) (l : List Int) (c : Cr) (lens : List Int), CrOk l c ∧ lens.length ≤ 1099511627776 → Pn 230 v l c [IL lens] (mbD l lens c).1 [BkO (mbD l lens c).2.2] (.agg [B (mbD l lens c).2.1, .own 1 0 0 (mbD l lens c).2.2.length])) := ⟨fun v l c lens hh => by
  have h := hh.1
  have hlens := hh.2
  have ho := onceD_ok 3 h
  have ho1 := ho.2.1
  have ho2 := ho.2.2
  have hsz := sz8_48 (onceD l c 3).2
  have hnm := sz_nm (onceD l c 3).2
  have hn1 := hnm.1
  have hn2 := hnm.2.1
  have hn3 := hnm.2.2.1
  have hn4 := hnm.2.2.2.1
  have hn5 := hnm.2.2.2.2
  have hmul := mul_in (a := sz8 (onceD l c 3).2) (b := sz8 (onceD l c 3).2) (by omega) (by omega)
  unfold mbD
  generalize hS : mbsK l lens _ _ _ = S
  generalize he : (onceD l c 3).2 = e at hS hsz hn1 hn2 hn3 hn4 hn5 hmul
  generalize hcc : (onceD l c 3).1 = c0 at hS ho ho1 ho2
  refine FnP.of_body tabOk Try.func230 Try.ntmps230 rfl (by decide +kernel) (by simp) rfl rfl rfl fun G hp => ?_
  refine goR (r := ?_); and_intros <;> intros <;> try exact True.intro
  all_goals first | contradiction | omega | exact h.2.1 | exact h.2.2 | skip
  rw [he, hcc]
  refine WpA.loop (fun x : Nat × Cr × List Blok => ⟨[(0, .ptr 0 0 0), (1, IL lens), (4, .ptr 1 0 0), (5, .ptr 2 0 0), (6, I (sz8 e)), (7, I (nm8 e - x.1))], [CurO v x.2.1, ⟨[B false, .nilS], 0, 0, none⟩, ⟨[B e, .own 3 0 0 x.2.2.length], 0, 0, none⟩, BkO x.2.2]⟩) (fun x => CrOk l x.2.1 ∧ (x.1 : Int) ≤ nm8 e ∧ x.1 + x.2.2.length ≤ 4 ∧ mbsK l lens (sz8 e) x.1 x.2 = S) (fun x => x.1) ((nm8 e).toNat, c0, []) ⟨ho, by simp only; omega, by simp only [List.length_nil]; omega, hS⟩ ?_ ?_
  · have ez : nm8 e - ((nm8 e).toNat : Nat) = 0 := by omega
    simp only [ez]
    exact Weak.nil1 (by first | (show 0 ≤ _; exact Nat.zero_le _) | (repeat' (first | exact RzT.nil | refine RzT.cons ?_ ?_ | exact Rz.nil | refine Rz.keep rfl rfl ?_ | refine Rz.own rfl rfl rfl rfl rfl (by first | rfl | omega | (simp; done)) ?_ | refine Rz.ptr rfl rfl rfl rfl ?_ | refine Rz.nilO rfl rfl rfl (by first | rfl | omega | (simp; done)) ?_ | refine Rz.agg ?_ ?_ | exact RzO.last rfl | (refine RzO.cons ?_ (.inr rfl) ?_) | exact Rz.same rfl (still_ints _) | exact Rz.same rfl (still_rows (fun _ => rfl) _)))) (by first | (show 0 ≤ _; exact Nat.zero_le _) | (repeat' (first | exact RzT.nil | refine RzT.cons ?_ ?_ | exact Rz.nil | refine Rz.keep rfl rfl ?_ | refine Rz.own rfl rfl rfl rfl rfl (by first | rfl | omega | (simp; done)) ?_ | refine Rz.ptr rfl rfl rfl rfl ?_ | refine Rz.nilO rfl rfl rfl (by first | rfl | omega | (simp; done)) ?_ | refine Rz.agg ?_ ?_ | exact RzO.last rfl | (refine RzO.cons ?_ (.inr rfl) ?_) | exact Rz.same rfl (still_ints _) | exact Rz.same rfl (still_rows (fun _ => rfl) _)))) (Nat.le_of_ble_eq_true rfl)
  rintro ⟨k, c1, bs⟩ ⟨hc1, hk, hkl, hK⟩
  try simp only at hc1 hk hkl hK ⊢
  by_cases hk0 : k = 0
  · subst hk0
    have hSe : (c1, bs) = S := hK
    subst hSe
    refine go (r := ?_); and_intros <;> intros <;> try exact True.intro
    all_goals trace_state
  · have hE : mbsK l lens (sz8 e) (k - 1) ((blkD l lens (sz8 e) c1).1, bs ++ [(blkD l lens (sz8 e) c1).2]) = S := by
      obtain ⟨j, rfl⟩ : ∃ j, k = j + 1 := ⟨k - 1, by omega⟩
      exact hK
    have hb := blkD_ok (lens := lens) hsz hc1
    refine goR (r := ?_); and_intros <;> intros <;> try exact True.intro
    all_goals first | contradiction | omega | skip
    apply WpA.regionSF (O := []) (Or := [CurO v c1, ⟨[B false, .nilS], 0, 0, none⟩, ⟨[B e, .own 3 0 0 bs.length], 0, 0, none⟩, BkO bs]) (O1 := [CurO v (blkD l lens (sz8 e) c1).1, ⟨[B false, .nilS], 0, 0, none⟩, ⟨[B e, .own 3 0 0 bs.length], 0, 0, none⟩, ⟨rows blkF (bs ++ [(blkD l lens (sz8 e) c1).2]), 1, 2, some 85⟩, ⟨[], 2, 0, none⟩, ⟨[I (blkD l lens (sz8 e) c1).2.1, .own 4 1 0 (blkD l lens (sz8 e) c1).2.2.length], 1, 2, some 85⟩, deadO, deadO]) 8 2 [2] [4] rfl mixed (by decide +kernel)
    · exact rfl
    · apply HeadS.consF .none rfl
      · exact rfl
      · exact rfl
      · intro Tv Ov hc hp' hd hk
        obtain ⟨A0, A1, R0, rfl⟩ := split3 (hk 2 rfl)
        exact in1
      · exact rfl
      · exact rfl
      apply HeadS.consF .none rfl
      · exact rfl
      · exact rfl
      · intro Tv Ov hc hp' hd hk
        obtain ⟨A0, A1, R0, rfl⟩ := split3 (hk 2 rfl)
        exact in1
      · exact rfl
      · exact rfl
      apply HeadS.consF .none rfl
      · exact rfl
      · exact rfl
      · exact in1
      · exact rfl
      · exact rfl
      apply HeadS.consF .none rfl
      · exact rfl
      · exact rfl
      · exact in1
      · exact rfl
      · exact rfl
      apply HeadS.consF .none rfl
      · exact rfl
      · exact rfl
      · exact in1
      · exact rfl
      · exact rfl
      apply HeadS.consF (V := .agg [I (blkD l lens (sz8 e) c1).2.1, .own 4 1 0 (blkD l lens (sz8 e) c1).2.2.length]) (.both 0 (CurO v (blkD l lens (sz8 e) c1).1) 4 ⟨ints (blkD l lens (sz8 e) c1).2.2, 1, 1, some 3⟩) rfl
      · exact rfl
      · exact rfl
      · intro Tv Ov hc hp' hd hk
        obtain ⟨R, rfl⟩ := split1 (hp' 0 _ rfl)
        have h3 := hp' 4 _ rfl
        refine K.call ?_
        refine K.conP (fun hcon => ?_)
        refine WpL.callP1N (A := []) (hcon v l c1 lens (sz8 e) ⟨hc1, hsz, hlens⟩) hp rfl handA handOA rfl (.cons rfl (.sc (.sc (.sc .nil))) .nil) outA rfl (by decide) ?_
        apply WpL.putV (O := []) (p := 4) (Ov := CurO v (blkD l lens (sz8 e) c1).1 :: R)
        · exact .agg (.keep rfl rfl (.own (by first | rfl | simp) .nil)) .nil
        · exact h3
        · exact Nat.le_of_ble_eq_true rfl
        · exact rfl
        · exact still_ints _
      · exact rfl
      · exact rfl
      apply HeadS.consF (V := .own 5 1 0 1) (.put 5 (⟨[I (blkD l lens (sz8 e) c1).2.1, .own 4 1 0 (blkD l lens (sz8 e) c1).2.2.length], 1, 2, some 85⟩)) rfl
      · exact rfl
      · exact rfl
      · intro Tv Ov hc hp' hd hk
        refine WpL.litF (cs := [I (blkD l lens (sz8 e) c1).2.1, .own 4 1 0 (blkD l lens (sz8 e) c1).2.2.length]) tabOk rfl rfl rfl rfl (by decide) (by rw [nid_len, Nat.zero_add]) (by decide) ?_
        apply WpL.putA (p := 5)
        · exact .own rfl .nil
        · exact hp' 5 _ rfl
        · exact Nat.le_of_ble_eq_true rfl
        · exact rfl
      · exact rfl
      · exact rfl
      apply HeadS.consF (V := .own 3 1 0 (bs.length + 1)) (⟨[(4, ⟨[], 2, 0, none⟩), (3, ⟨rows blkF (bs ++ [(blkD l lens (sz8 e) c1).2]), 1, 2, some 85⟩)], false⟩) rfl
      · exact rfl
      · exact rfl
      · intro Tv Ov hc hp' hd hk
        obtain ⟨a0, a1, a2, R, rfl⟩ := split345 (hp' 3 _ rfl) (hp' 4 _ rfl) (hd 6 _ 5 _ (by decide) rfl rfl rfl)
        refine K.bi ?_
        refine WpL.appBlk (j := 4) (c := (blkD l lens (sz8 e) c1).2.1) (lv := (blkD l lens (sz8 e) c1).2.2) tabOk rfl rfl rfl (Nat.le_of_ble_eq_true rfl) rfl rfl rfl rfl rfl (Nat.le_of_ble_eq_true rfl) rfl rfl (by omega) (by decide) ?_
        exact WpL.nil (Only.mk rfl)
      · exact rfl
      · exact rfl
      exact HeadS.nil
    · exact rfl
    · exact rfl
    · exact rfl
    · exact rfl
    · exact rfl
    · exact rfl
    · exact rfl
    refine go (r := ?_); and_intros <;> intros <;> try exact True.intro
    all_goals first | contradiction | omega | skip
    have e1 : nm8 e - ((k - 1 : Nat) : Int) = nm8 e - k + 1 := by omega
    refine Rnd.go (k - 1, (blkD l lens (sz8 e) c1).1, bs ++ [(blkD l lens (sz8 e) c1).2]) ⟨hb.1, by simp only; omega, by simp only [List.length_append, List.length_singleton]; omega, hE⟩ ?_ ?_
    · show k - 1 < k; omega
    · simp only [e1, List.length_append, List.length_singleton]
      exact Weak.mk (by repeat (first | exact ReT.nil | refine ReT.cons (.keep rfl rfl .nil) ?_ | refine ReT.cons (.own rfl rfl rfl rfl rfl rfl .nil) ?_ | refine ReT.cons (.ptr rfl rfl rfl rfl .nil) ?_ | refine ReT.cons (.keep (congrArg (fun z => AV.sc (Value.int .i64 z)) (by first | omega | (skip))) rfl .nil) ?_ | refine ReT.cons (.keep (congrArg (fun z : List UInt8 => AV.sc (Value.string ⟨z.toArray⟩)) (by skip)) rfl .nil) ?_ | refine ReT.cons (.own rfl rfl rfl rfl rfl (by first | omega | (simp; done) | (simp; omega)) .nil) ?_)) (by repeat (first
          | exact ReO.nil
          | refine ReO.cons (Re.same rfl rfl) (.inr rfl) ?_
          | refine ReO.cons (Re.same rfl (still_rows (fun _ => rfl) _)) (.inr rfl) ?_
          | refine ReO.cons (.keep rfl rfl (.own rfl rfl rfl rfl rfl rfl .nil)) (.inr rfl) ?_)) (Nat.le_of_ble_eq_true rfl)⟩
end Go.Proofs.Ytgkeopmihhcbiaa

/- What is drawn: headers, squares of numbers, levels. No condition. -/
namespace Go.Proofs.Ytgkeopmihhcbiaa
open Go Go.Abs
set_option linter.unusedVariables false
set_option linter.unusedSimpArgs false
set_option maxRecDepth 100000
set_option maxHeartbeats 4000000
attribute [local irreducible] WpA WpL Rnd Blk Abs.Seq Abs.Fin Abs.FinG FnC FnG FnX FnP FinX Only
attribute [local irreducible] belowD onceD pickD modeD l8D l8AnyD optD anyD seedD

abbrev HdOwn (k : Nat) (x : Hd6) : AV := .agg [I x.w, I x.h, I x.q, B x.b, B x.d, .own k 0 0 x.lens.length]
instance l22Header_p : ConP 192 (∀ (v : Value) (l : List Int) (c : Cr), CrOk l c → Pn 192 v l c [] (headD l c).1 [XI (headD l c).2.lens] (HdOwn 1 (headD l c).2)) := ⟨fun v l c h => by
  have h1 := belowD_ok 2 h
  have h2 := belowD_ok 2 h1.1
  have h3 := pickD_ok (xs := quant6) h2.1 (by decide)
  have h4 := onceD_ok 4 h3.1
  have h5 := onceD_ok 2 h4
  have h6 := l8D_ok h5
  have a1 := h1.2.1
  have a2 := h1.2.2.1 (by decide)
  have a3 := h2.2.1
  have a4 := h2.2.2.1 (by decide)
  unfold headD
  simp only
  refine FnP.of_body tabOk Try.func192 Try.ntmps192 rfl (by decide +kernel) (by simp) rfl rfl rfl fun G hp => ?_
  refine go (r := ?_); and_intros <;> intros <;> try exact True.intro
  all_goals first | exact h | exact h.1 | exact h.2.1 | exact h.2.2 | exact h1.1.2.1 | exact h1.1.2.2 | exact h2.1.2.1 | exact h2.1.2.2 | exact h3.1.2.1 | exact h3.1.2.2 | exact h4.2.1 | exact h4.2.2 | exact h5.2.1 | exact h5.2.2 | decide | skip⟩
/-! Squares. -/
end Go.Proofs.Ytgkeopmihhcbiaa

/- What is drawn: streams. No condition. -/
namespace Go.Proofs.Ytgkeopmihhcbiaa
open Go Go.Abs
set_option linter.unusedVariables false
set_option linter.unusedSimpArgs false
set_option maxRecDepth 100000
set_option maxHeartbeats 4000000
attribute [local irreducible] WpA WpL Rnd Blk Abs.Seq Abs.Fin Abs.FinG FnC FnG FnX FnP FinX Only
attribute [local irreducible] belowD onceD pickD modeD l8D l8AnyD optD anyD seedD headD headAnyD symL HasC blkD mbD

theorem split02 {Ov : List AObj} {x y : AObj} (h0 : Ov[0]? = some x) (h : Ov[2]? = some y) : ∃ a R, Ov = x :: a :: y :: R := by
  match Ov, h0, h with
  | x' :: a :: y' :: R, h0, h => simp at h0 h; exact ⟨a, R, by rw [h0, h]⟩
  | [], h0, h => simp at h
  | [_], h0, h => simp at h
  | [_, _], h0, h => simp at h
theorem split456 {Ov : List AObj} {x y z : AObj} (h4 : Ov[4]? = some x) (h5 : Ov[5]? = some y) (h6 : Ov[6]? = some z) : ∃ a b c d R, Ov = a :: b :: c :: d :: x :: y :: z :: R := by
  match Ov, h4, h5, h6 with
  | a :: b :: c :: d :: x' :: y' :: z' :: R, h4, h5, h6 => simp at h4 h5 h6; exact ⟨a, b, c, d, R, by rw [h4, h5, h6]⟩
  | [], h4, h5, h6 => simp at h6
  | [_], h4, h5, h6 => simp at h6
  | [_, _], h4, h5, h6 => simp at h6
  | [_, _, _], h4, h5, h6 => simp at h6
  | [_, _, _, _], h4, h5, h6 => simp at h6
  | [_, _, _, _, _], h4, h5, h6 => simp at h6
  | [_, _, _, _, _, _], h4, h5, h6 => simp at h6
abbrev StOwn (s : Str8) : AV := .agg [I s.hd.w, I s.hd.h, I s.hd.q, B s.hd.b, B s.hd.d, .own 1 0 0 s.hd.lens.length, .own 2 0 0 s.ms.length]
abbrev Z7 : AObj := ⟨[I 0, I 0, I 0, B false, B false, .nilS, .nilS], 0, 0, none⟩
instance l24Stream_p : ConP 163 (∀ (v : Value) (l : List Int) (c : Cr), CrOk l c → Pn 163 v l c [] (strD l c).1 [XI (strD l c).2.hd.lens, MbO (strD l c).2.ms] (StOwn (strD l c).2)) := ⟨fun v l c h => by
  have hx := headD_ok h
  have hx1 := hx.1
  have hx2 := hx.2.1
  have hx3 := hx.2.2
  have hcm := cntM_bd hx3
  have hcm1 := hcm.2.2.1
  have hcm2 := hcm.2.2.2
  unfold strD
  generalize hS : strK l _ _ _ = S
  generalize hX : (headD l c).2 = X at *
  generalize hC : (headD l c).1 = c0 at *
  obtain ⟨w0, h0, q0, b0, d0, lens⟩ := X
  simp only at hx2 hx3 hcm hcm1 hcm2 hS
  refine FnP.of_body tabOk Try.func163 Try.ntmps163 rfl (by decide +kernel) (by simp) rfl rfl rfl fun G hp => ?_
  refine goR (r := ?_); and_intros <;> intros <;> try exact True.intro
  all_goals first | contradiction | omega | exact h.2.1 | exact h.2.2 | skip
  rw [hX, hC]
  refine WpA.loop (fun x : Nat × Cr × List Mbk => ⟨[(0, .ptr 0 0 0), (2, .ptr 1 0 0), (3, .ptr 3 0 0), (4, I (cntM w0 h0 - x.1))], [CurO v x.2.1, Z7, XI lens, ⟨[I w0, I h0, I q0, B b0, B d0, .own 2 0 0 lens.length, .own 4 0 0 x.2.2.length], 0, 0, none⟩, MbO x.2.2]⟩) (fun x => CrOk l x.2.1 ∧ (x.1 : Int) ≤ cntM w0 h0 ∧ x.1 + x.2.2.length ≤ 16 ∧ strK l lens x.1 x.2 = S) (fun x => x.1) ((cntM w0 h0).toNat, c0, []) ⟨hx1, by simp only; omega, by simp only [List.length_nil]; omega, hS⟩ ?_ ?_
  · have ez : cntM w0 h0 - ((cntM w0 h0).toNat : Nat) = 0 := by omega
    simp only [ez]
    exact Weak.nil1 (by first | (show 0 ≤ _; exact Nat.zero_le _) | (repeat' (first | exact RzT.nil | refine RzT.cons ?_ ?_ | exact Rz.nil | refine Rz.keep rfl rfl ?_ | refine Rz.own rfl rfl rfl rfl rfl (by first | rfl | omega | (simp; done)) ?_ | refine Rz.ptr rfl rfl rfl rfl ?_ | refine Rz.nilO rfl rfl rfl (by first | rfl | omega | (simp; done)) ?_ | refine Rz.agg ?_ ?_ | exact RzO.last rfl | (refine RzO.cons ?_ (.inr rfl) ?_) | exact Rz.same rfl (still_ints _) | exact Rz.same rfl (still_rows (fun _ => rfl) _)))) (by first | (show 0 ≤ _; exact Nat.zero_le _) | (repeat' (first | exact RzT.nil | refine RzT.cons ?_ ?_ | exact Rz.nil | refine Rz.keep rfl rfl ?_ | refine Rz.own rfl rfl rfl rfl rfl (by first | rfl | omega | (simp; done)) ?_ | refine Rz.ptr rfl rfl rfl rfl ?_ | refine Rz.nilO rfl rfl rfl (by first | rfl | omega | (simp; done)) ?_ | refine Rz.agg ?_ ?_ | exact RzO.last rfl | (refine RzO.cons ?_ (.inr rfl) ?_) | exact Rz.same rfl (still_ints _) | exact Rz.same rfl (still_rows (fun _ => rfl) _)))) (Nat.le_of_ble_eq_true rfl)
  rintro ⟨k, c1, ms⟩ ⟨hc1, hk, hkl, hK⟩
  try simp only at hc1 hk hkl hK ⊢
  by_cases hk0 : k = 0
  · subst hk0
    have hSe : (c1, ms) = S := hK
    subst hSe
    refine go (r := ?_); and_intros <;> intros <;> try exact True.intro
    all_goals first | exact hx3 | skip
    exact FinG.oI [some 0, some 2, some 4] rfl (ResV.cell (ds := [_, _, _, _, _, _, _]) rfl rfl rfl rfl rfl) (.agg (.keep rfl rfl rfl (.keep rfl rfl rfl (.keep rfl rfl rfl (.keep rfl rfl rfl (.keep rfl rfl rfl (.own rfl rfl rfl rfl (.own rfl rfl rfl rfl .nil))))))) .nil) (.obj rfl rfl rfl rfl rfl (.inr rfl) (.obj rfl rfl (still_ints _) rfl rfl (.inr rfl) (.obj rfl rfl (still_rows (fun _ => rfl) _) rfl rfl (.inr rfl) .nil))) rfl rfl
  · have hE : strK l lens (k - 1) ((mbD l lens c1).1, ms ++ [(mbD l lens c1).2]) = S := by
      obtain ⟨j, rfl⟩ : ∃ j, k = j + 1 := ⟨k - 1, by omega⟩
      exact hK
    have hb := mbD_ok (lens := lens) hc1
    refine goR (r := ?_); and_intros <;> intros <;> try exact True.intro
    all_goals first | contradiction | omega | exact hx3 | skip
    apply WpA.regionSF (O := []) (Or := [CurO v c1, Z7, XI lens, ⟨[I w0, I h0, I q0, B b0, B d0, .own 2 0 0 lens.length, .own 4 0 0 ms.length], 0, 0, none⟩, MbO ms]) (O1 := [CurO v (mbD l lens c1).1, Z7, XI lens, ⟨[I w0, I h0, I q0, B b0, B d0, .own 2 0 0 lens.length, .own 4 0 0 ms.length], 0, 0, none⟩, ⟨rows Go.Abs.mbF (ms ++ [(mbD l lens c1).2]), 1, 2, some 30⟩, ⟨[], 2, 0, none⟩, ⟨[B (mbD l lens c1).2.1, .own 5 1 0 (mbD l lens c1).2.2.length], 1, 2, some 30⟩, deadO, deadO]) 9 2 [2, 3] [5] rfl mixed (by decide +kernel)
    · exact rfl
    · apply HeadS.consF .none rfl
      · exact rfl
      · exact rfl
      · intro Tv Ov hc hp' hd hk
        obtain ⟨x0, x1, x2, R, rfl⟩ := Abs.split4 (hk 3 rfl)
        exact in1
      · exact rfl
      · exact rfl
      apply HeadS.consF .none rfl
      · exact rfl
      · exact rfl
      · intro Tv Ov hc hp' hd hk
        obtain ⟨x0, x1, x2, R, rfl⟩ := Abs.split4 (hk 3 rfl)
        exact in1
      · exact rfl
      · exact rfl
      apply HeadS.consF .none rfl
      · exact rfl
      · exact rfl
      · exact in1
      · exact rfl
      · exact rfl
      apply HeadS.consF .none rfl
      · exact rfl
      · exact rfl
      · intro Tv Ov hc hp' hd hk
        obtain ⟨x0, x1, x2, R, rfl⟩ := Abs.split4 (hk 3 rfl)
        exact in1
      · exact rfl
      · exact rfl
      apply HeadS.consF .none rfl
      · exact rfl
      · exact rfl
      · intro Tv Ov hc hp' hd hk
        obtain ⟨x0, x1, x2, R, rfl⟩ := Abs.split4 (hk 3 rfl)
        exact in1
      · exact rfl
      · exact rfl
      apply HeadS.consF .none rfl
      · exact rfl
      · exact rfl
      · intro Tv Ov hc hp' hd hk
        obtain ⟨x0, x1, x2, R, rfl⟩ := Abs.split4 (hk 3 rfl)
        exact in1
      · exact rfl
      · exact rfl
      apply HeadS.consF (V := .agg [B (mbD l lens c1).2.1, .own 5 1 0 (mbD l lens c1).2.2.length]) (.both 0 (CurO v (mbD l lens c1).1) 5 ⟨rows blkF (mbD l lens c1).2.2, 1, 2, some 85⟩) rfl
      · exact rfl
      · exact rfl
      · intro Tv Ov hc hp' hd hk
        have h3 := hp' 5 _ rfl
        obtain ⟨a0, R, rfl⟩ := split02 (hp' 0 _ rfl) (hk 2 rfl)
        refine K.call ?_
        refine K.conP (fun hcon => ?_)
        refine WpL.callP1N (A := []) (hcon v l c1 lens ⟨hc1, by omega⟩) hp rfl handA handOA rfl (.cons rfl (.sc (.sc (.sc .nil))) .nil) outA rfl (by decide) ?_
        apply WpL.putV (O := []) (p := 5) (Ov := CurO v (mbD l lens c1).1 :: a0 :: XI lens :: R)
        · exact .agg (.keep rfl rfl (.own (by first | rfl | simp) .nil)) .nil
        · exact h3
        · exact Nat.le_of_ble_eq_true rfl
        · exact rfl
        · exact still_rows (fun _ => rfl) _
      · exact rfl
      · exact rfl
      apply HeadS.consF (V := .own 6 1 0 1) (.put 6 (⟨[B (mbD l lens c1).2.1, .own 5 1 0 (mbD l lens c1).2.2.length], 1, 2, some 30⟩)) rfl
      · exact rfl
      · exact rfl
      · intro Tv Ov hc hp' hd hk
        refine WpL.litF (cs := [B (mbD l lens c1).2.1, .own 5 1 0 (mbD l lens c1).2.2.length]) tabOk rfl rfl rfl rfl (by decide) (by rw [nid_len, Nat.zero_add]) (by decide) ?_
        apply WpL.putA (p := 6)
        · exact .own rfl .nil
        · exact hp' 6 _ rfl
        · exact Nat.le_of_ble_eq_true rfl
        · exact rfl
      · exact rfl
      · exact rfl
      apply HeadS.consF (V := .own 4 1 0 (ms.length + 1)) (⟨[(5, ⟨[], 2, 0, none⟩), (4, ⟨rows Go.Abs.mbF (ms ++ [(mbD l lens c1).2]), 1, 2, some 30⟩)], false⟩) rfl
      · exact rfl
      · exact rfl
      · intro Tv Ov hc hp' hd hk
        obtain ⟨a0, a1, a2, a3, R, rfl⟩ := split456 (hp' 4 _ rfl) (hp' 5 _ rfl) (hd 7 _ 6 _ (by decide) rfl rfl rfl)
        refine K.bi ?_
        refine WpL.appMb (j := 5) (c := (mbD l lens c1).2.1) (lv := (mbD l lens c1).2.2) tabOk rfl rfl rfl (Nat.le_of_ble_eq_true rfl) rfl rfl rfl rfl rfl (Nat.le_of_ble_eq_true rfl) rfl rfl (by omega) (by decide) ?_
        exact WpL.nil (Only.mk rfl)
      · exact rfl
      · exact rfl
      exact HeadS.nil
    · exact rfl
    · exact rfl
    · exact rfl
    · exact rfl
    · exact rfl
    · exact rfl
    · exact rfl
    refine go (r := ?_); and_intros <;> intros <;> try exact True.intro
    all_goals first | contradiction | omega | exact hx3 | skip
    have e1 : cntM w0 h0 - ((k - 1 : Nat) : Int) = cntM w0 h0 - k + 1 := by omega
    refine Rnd.go (k - 1, (mbD l lens c1).1, ms ++ [(mbD l lens c1).2]) ⟨hb.1, by simp only; omega, by simp only [List.length_append, List.length_singleton]; omega, hE⟩ ?_ ?_
    · show k - 1 < k; omega
    · simp only [e1, List.length_append, List.length_singleton]
      exact Weak.mk (by repeat (first | exact ReT.nil | refine ReT.cons (.keep rfl rfl .nil) ?_ | refine ReT.cons (.own rfl rfl rfl rfl rfl rfl .nil) ?_ | refine ReT.cons (.ptr rfl rfl rfl rfl .nil) ?_ | refine ReT.cons (.keep (congrArg (fun z => AV.sc (Value.int .i64 z)) (by first | omega | (skip))) rfl .nil) ?_ | refine ReT.cons (.keep (congrArg (fun z : List UInt8 => AV.sc (Value.string ⟨z.toArray⟩)) (by skip)) rfl .nil) ?_ | refine ReT.cons (.own rfl rfl rfl rfl rfl (by first | omega | (simp; done) | (simp; omega)) .nil) ?_)) (by repeat (first
          | exact ReO.nil
          | refine ReO.cons (Re.same rfl rfl) (.inr rfl) ?_
          | refine ReO.cons (Re.same rfl (still_ints _)) (.inr rfl) ?_
          | refine ReO.cons (Re.same rfl (still_rows (fun _ => rfl) _)) (.inr rfl) ?_
          | refine ReO.cons (.keep rfl rfl (.keep rfl rfl (.keep rfl rfl (.keep rfl rfl (.keep rfl rfl (.own rfl rfl rfl rfl rfl rfl (.own rfl rfl rfl rfl rfl rfl .nil))))))) (.inr rfl) ?_)) (Nat.le_of_ble_eq_true rfl)⟩
end Go.Proofs.Ytgkeopmihhcbiaa

/- Contracts: bits of macroblocks; bits of headers by the laws' own program. No condition. -/
namespace Go.Proofs.Ytgkeopmihhcbiaa
open Go Go.Abs
set_option linter.unusedVariables false
set_option linter.unusedSimpArgs false
set_option maxRecDepth 100000
set_option maxHeartbeats 4000000
attribute [local irreducible] WpA WpL Rnd Blk Abs.Seq Abs.Fin Abs.FinG FnC FnG Only

/-! Macroblocks. -/
def mbK (e : Bool) (bs : List Blok) (lens : List Int) (k : Nat) : List Int := [bif e then 1 else 0] ++ (bs.take k).flatMap fun b => bkL b.1 b.2 lens (sz8 e)
def mbbL (e : Bool) (bs : List Blok) (lens : List Int) : List Int := if MbkOk e bs lens then mbK e bs lens bs.length else []
theorem mbK_len (e : Bool) (bs : List Blok) (lens : List Int) (k : Nat) : (mbK e bs lens k).length ≤ 1 + 8400 * k := by
  have h3 := fm_bd (fun b : Blok => bkL b.1 b.2 lens (sz8 e)) 8400 (fun b => bkL_len _ _ _ _) (bs.take k)
  have h4 : (bs.take k).length ≤ k := by simp; omega
  unfold mbK; simp only [List.length_append, List.length_cons, List.length_nil]; omega
theorem mbK_succ (e : Bool) (bs : List Blok) (lens : List Int) (k : Nat) (h : k < bs.length) : mbK e bs lens (k + 1) = mbK e bs lens k ++ bkL (bs.getD k default).1 (bs.getD k default).2 lens (sz8 e) := by
  unfold mbK; rw [fm_snoc _ _ k h, ← List.append_assoc]
theorem mbbL_len (e : Bool) (bs : List Blok) (lens : List Int) : (mbbL e bs lens).length ≤ 33601 := by
  unfold mbbL; split
  · rename_i h
    have h1 := mbK_len e bs lens bs.length
    have h2 := sz8_cases e
    have h3 := h.1
    omega
  · simp
abbrev BoxM (e : Bool) (bs : List Blok) : AObj := ⟨[B e, BkL bs], 0, 0, none⟩
instance MbBits_s : Con 85 (∀ (e : Bool) (bs : List Blok) (lens : List Int), bs.length ≤ 1099511627776 ∧ SmB 1099511627776 bs ∧ lens.length ≤ 1099511627776 → Fn 85 [.agg [B e, BkL bs], IL lens] [XI (mbbL e bs lens)] (.own 0 0 0 (mbbL e bs lens).length)) := ⟨fun e bs lens hl => by
  have hc := sz8_cases e
  refine FnC.of_body tabOk Try.func85 Try.ntmps85 rfl (by decide +kernel) (by simp) fun G => ?_
  by_cases h : MbkOk e bs lens
  · have he : mbbL e bs lens = mbK e bs lens bs.length := by rw [mbbL, if_pos h]
    have hz : [bif e then (1 : Int) else 0] = mbK e bs lens 0 := by simp [mbK]
    have hn := h.1
    refine go (r := ?_); and_intros <;> intros <;> try exact True.intro
    all_goals first | exact hl.2.1 | (exact absurd h (by assumption)) | skip
    refine WpA.loop (fun k : Nat => ⟨[(1, IL lens), (2, .ptr 0 0 0), (5, .own 1 0 0 (mbK e bs lens k).length), (6, I k)], [BoxM e bs, XI (mbK e bs lens k)]⟩) (fun k => k ≤ bs.length) (fun k => bs.length - k) 0 (by omega) (go (r := ?_)) (fun k hk => ?_)
    · trivial
    have hb := mbK_len e bs lens k
    have hsc := fun h => mbK_succ e bs lens k h
    have hbl := bkL_len (bs.getD k default).1 (bs.getD k default).2 lens (sz8 e)
    have hsl : k < bs.length → (mbK e bs lens (k + 1)).length = (mbK e bs lens k).length + (bkL (bs.getD k default).1 (bs.getD k default).2 lens (sz8 e)).length := fun h => by rw [hsc h]; simp only [List.length_append]
    have hg := fun h => smB_get hl.2.1 (k := k) h
    refine go (r := ?_); and_intros <;> intros <;> try exact True.intro
    all_goals first | (rw [hsc (by omega)]; done) | skip
    all_goals have ek : k = bs.length := by omega
    all_goals subst ek
    all_goals rw [he]
  · have he : mbbL e bs lens = [] := by rw [mbbL, if_neg h]
    refine go (r := ?_); and_intros <;> intros <;> try exact True.intro
    all_goals first | exact hl.2.1 | (exact absurd (by assumption) h) | (rw [he]; done) | (rw [he]; rfl)⟩
/-! Headers. -/
def hdB (w h q : Int) (b d : Bool) : List Int := bitsL 183 8 ++ ueL (w / 8 - 1) ++ ueL (h / 8 - 1) ++ bitsL q 6 ++ [bif b then 1 else 0, bif d then 1 else 0]
def hdK (w h q : Int) (b d : Bool) (l : List Int) (k : Nat) : List Int := hdB w h q b d ++ (l.take k).flatMap fun n => bitsL n 3
def hdL (w h q : Int) (b d : Bool) (l : List Int) : List Int := if HdOk w h q l then hdK w h q b d l l.length else []
theorem hdB_len (w h q : Int) (b d : Bool) : (hdB w h q b d).length ≤ 226 := by
  have h1 := bitsL_len 183 8
  have h2 := ueL_len (w / 8 - 1)
  have h3 := ueL_len (h / 8 - 1)
  have h4 := bitsL_len q 6
  unfold hdB; simp only [List.length_append, List.length_cons, List.length_nil]; omega
theorem hdK_len (w h q : Int) (b d : Bool) (l : List Int) (k : Nat) : (hdK w h q b d l k).length ≤ 226 + 48 * k := by
  have h1 := hdB_len w h q b d
  have h3 := fm_bd (fun n : Int => bitsL n 3) 48 (fun n => bitsL_len _ _) (l.take k)
  have h4 : (l.take k).length ≤ k := by simp; omega
  unfold hdK; simp only [List.length_append]; omega
theorem hdK_succ (w h q : Int) (b d : Bool) (l : List Int) (k : Nat) (hk : k < l.length) : hdK w h q b d l (k + 1) = hdK w h q b d l k ++ bitsL (l.getD k 0) 3 := by
  unfold hdK; rw [fm_snoc _ _ k hk, ← List.append_assoc]; rfl
theorem hdL_len (w h q : Int) (b d : Bool) (l : List Int) : (hdL w h q b d l).length ≤ 600 := by
  unfold hdL; split
  · rename_i hh
    have h1 := hdK_len w h q b d l l.length
    have h6 := hh.2.2.2.1
    omega
  · simp
theorem in_getH {l : List Int} {lo hi : Int} (h : In l lo hi) {k : Nat} (hk : k < l.length) : lo ≤ l.getD k 0 ∧ l.getD k 0 ≤ hi := by
  have e : l.getD k 0 = l[k] := by simp [hk]
  rw [e]; exact in_mem h (List.getElem_mem _)
abbrev BoxH (w h q : Int) (b d : Bool) (l : List Int) : AObj := ⟨[I w, I h, I q, B b, B d, IL l], 0, 0, none⟩
instance HeaderBits_s : Con 84 (∀ (w h q : Int) (b d : Bool) (l : List Int), l.length ≤ 1099511627776 → Fn 84 [HdA w h q b d l] [XI (hdL w h q b d l)] (.own 0 0 0 (hdL w h q b d l).length)) := ⟨fun w h q b d l hl => by
  have h1 := bitsL_len 183 8
  have h2 := ueL_len (w / 8 - 1)
  have h3 := ueL_len (h / 8 - 1)
  have h4 := bitsL_len q 6
  refine FnC.of_body tabOk Try.func84 Try.ntmps84 rfl (by decide +kernel) (by simp) fun G => ?_
  by_cases h0 : HdOk w h q l
  · have he : hdL w h q b d l = hdK w h q b d l l.length := by rw [hdL, if_pos h0]
    have hz : bitsL 183 8 ++ ueL (w / 8 - 1) ++ ueL (h / 8 - 1) ++ bitsL q 6 ++ [bif b then 1 else 0, bif d then 1 else 0] = hdK w h q b d l 0 := by simp [hdK, hdB]
    have h6 := h0.2.2.2.1
    have hs := h0.1
    have hq := h0.2.1
    have hzl : (bitsL 183 8).length + (ueL (w / 8 - 1)).length + (ueL (h / 8 - 1)).length + (bitsL q 6).length + 2 = (hdK w h q b d l 0).length := by rw [← hz]; simp only [List.length_append, List.length_cons, List.length_nil]
    refine go (r := ?_); and_intros <;> intros <;> try exact True.intro
    all_goals first | (exact absurd h0 (by assumption)) | skip
    refine WpA.loop (fun k : Nat => ⟨[(1, .ptr 0 0 0), (3, .own 1 0 0 (hdK w h q b d l k).length), (4, I k)], [BoxH w h q b d l, XI (hdK w h q b d l k)]⟩) (fun k => k ≤ l.length) (fun k => l.length - k) 0 (by omega) (go (r := ?_)) (fun k hk => ?_)
    · trivial
    have hb := hdK_len w h q b d l k
    have hsc := fun hk => hdK_succ w h q b d l k hk
    have hbl := bitsL_len (l.getD k 0) 3
    have hin := fun hk => in_getH h0.2.2.1 (k := k) hk
    have hsl : k < l.length → (hdK w h q b d l (k + 1)).length = (hdK w h q b d l k).length + (bitsL (l.getD k 0) 3).length := fun hk => by rw [hsc hk]; simp only [List.length_append]
    refine go (r := ?_); and_intros <;> intros <;> try exact True.intro
    all_goals first | (rw [hsc (by omega)]; done) | skip
    all_goals have ek : k = l.length := by omega
    all_goals subst ek
    all_goals rw [he]
  · have he : hdL w h q b d l = [] := by rw [hdL, if_neg h0]
    refine go (r := ?_); and_intros <;> intros <;> try exact True.intro
    all_goals first | (exact absurd (by assumption) h0) | (rw [he]; done) | (rw [he]; rfl)⟩
end Go.Proofs.Ytgkeopmihhcbiaa

/- Contract: bits of headers by the program. No condition. -/
namespace Go.Proofs.Ytgkeopmihhcbiaa
open Go Go.Abs
set_option linter.unusedVariables false
set_option linter.unusedSimpArgs false
set_option maxRecDepth 100000
set_option maxHeartbeats 4000000
attribute [local irreducible] WpA WpL Rnd Blk Abs.Seq Abs.Fin Abs.FinG FnC FnG Only

attribute [local irreducible] bitsL ueL
end Go.Proofs.Ytgkeopmihhcbiaa

/- Contracts of the laws' own functions over headers, blocks, macroblocks and streams. No condition. -/
namespace Go.Proofs.Ytgkeopmihhcbiaa
open Go Go.Abs
set_option linter.unusedVariables false
set_option linter.unusedSimpArgs false
set_option maxRecDepth 100000
set_option maxHeartbeats 4000000
attribute [local irreducible] WpA WpL Rnd Blk Abs.Seq Abs.Fin Abs.FinG FnC FnG Only

/-! Headers. -/
/-! Blocks. -/
def endB (k : Int) (l : List Blok) : Int := k + bw l
def markB : Int → List Blok → List Blok
  | _, [] => []
  | k, b :: l => (k, marksI (k + 1) b.2.length) :: markB (k + 1 + b.2.length) l
theorem bw_nil : bw [] = 0 := rfl
theorem bw_cons (b : Blok) (l : List Blok) : bw (b :: l) = bw l + 1 + b.2.length := by unfold bw; rw [List.map_cons, List.sum_cons, List.length_cons]; unfold bn; omega
@[simp] theorem markB_len : ∀ (l : List Blok) (k : Int), (markB k l).length = l.length
  | [], k => rfl
  | b :: l, k => by rw [markB, List.length_cons, List.length_cons, markB_len l]
/-! Macroblocks. -/
def markM : Int → List Mbk → List Mbk
  | _, [] => []
  | k, m :: l => (decide (k % 3 = 0), markB (k + 1) m.2) :: markM (k + 1 + bw m.2) l
theorem mw_nil : mw [] = 0 := rfl
theorem mw_cons (b : Mbk) (l : List Mbk) : mw (b :: l) = mw l + 1 + bw b.2 := by unfold mw; rw [List.map_cons, List.sum_cons, List.length_cons]; unfold mn; omega
@[simp] theorem markM_len : ∀ (l : List Mbk) (k : Int), (markM k l).length = l.length
  | [], k => rfl
  | b :: l, k => by rw [markM, List.length_cons, List.length_cons, markM_len l]
/-! Streams. -/
end Go.Proofs.Ytgkeopmihhcbiaa

/- Contracts: bits of streams, how many bits a stream has; the law FnExactSizeOf. No condition. -/
namespace Go.Proofs.Ytgkeopmihhcbiaa
open Go Go.Abs
set_option linter.unusedVariables false
set_option linter.unusedSimpArgs false
set_option maxRecDepth 100000
set_option maxHeartbeats 4000000
attribute [local irreducible] WpA WpL Rnd Blk Abs.Seq Abs.Fin Abs.FinG FnC FnG Only

/-! Streams. -/
def mbF (l : List Int) (m : Mbk) : List Int := mbbL m.1 m.2 l
def stK (w h q : Int) (b d : Bool) (l : List Int) (M : List Mbk) (k : Nat) : List Int := hdL w h q b d l ++ (M.take k).flatMap (mbF l)
theorem stK_len (w h q : Int) (b d : Bool) (l : List Int) (M : List Mbk) (k : Nat) : (stK w h q b d l M k).length ≤ 600 + 33601 * k := by
  have h1 := hdL_len w h q b d l
  have h3 := fm_bd (mbF l) 33601 (fun m => mbbL_len _ _ _) (M.take k)
  have h4 : (M.take k).length ≤ k := by simp; omega
  unfold stK; simp only [List.length_append]; omega
theorem stK_succ (w h q : Int) (b d : Bool) (l : List Int) (M : List Mbk) (k : Nat) (hk : k < M.length) : stK w h q b d l M (k + 1) = stK w h q b d l M k ++ mbF l (M.getD k default) := by
  unfold stK; rw [fm_snoc _ _ k hk, ← List.append_assoc]
def sizeL (w h q : Int) (b d : Bool) (l : List Int) (M : List Mbk) : Int := if StOk w h q l M then ((stK w h q b d l M M.length).length : Int) else 0
end Go.Proofs.Ytgkeopmihhcbiaa

/- Contracts: streams written, by the specification. No condition. -/
namespace Go.Proofs.Ytgkeopmihhcbiaa
open Go Go.Abs
set_option linter.unusedVariables false
set_option linter.unusedSimpArgs false
set_option maxRecDepth 100000
set_option maxHeartbeats 4000000
attribute [local irreducible] WpA WpL Rnd Blk Abs.Seq Abs.Fin Abs.FinG FnC FnG Only

def Bit01 (l : List Int) : Prop := ∀ x ∈ l, x = 0 ∨ x = 1
theorem b01_app {a b : List Int} (h1 : Bit01 a) (h2 : Bit01 b) : Bit01 (a ++ b) := fun x hx => (List.mem_append.1 hx).elim (h1 x) (h2 x)
theorem b01_nil : Bit01 [] := fun x hx => by cases hx
theorem b01_rep (n : Nat) : Bit01 (List.replicate n 0) := fun x hx => .inl (List.mem_replicate.1 hx).2
theorem b01_bits (n w : Int) : Bit01 (bitsL n w) := by
  unfold bitsL; split
  · intro x hx
    unfold bitsR at hx
    obtain ⟨k, _, rfl⟩ := List.mem_map.1 hx
    omega
  · exact b01_nil
theorem b01_ue (n : Int) : Bit01 (ueL n) := by
  unfold ueL; split
  · exact b01_app (b01_rep _) (b01_bits _ _)
  · exact b01_nil
theorem b01_sym (l : List Int) (m : Int) : Bit01 (symL l m) := by
  unfold symL; split
  · exact b01_bits _ _
  · exact b01_nil
theorem b01_one (b : Bool) : (bif b then (1 : Int) else 0) = 0 ∨ (bif b then (1 : Int) else 0) = 1 := by cases b <;> simp
theorem b01_fm {α : Type} (f : α → List Int) (h : ∀ a, Bit01 (f a)) : ∀ l : List α, Bit01 (l.flatMap f) := fun l x hx => by
  obtain ⟨a, _, hx⟩ := List.mem_flatMap.1 hx
  exact h a x hx
theorem b01_prB (p : Int × Int) : Bit01 (prB p) := b01_app (b01_ue _) (b01_ue _)
theorem b01_bk (m : Int) (lv lens : List Int) (n : Int) : Bit01 (bkL m lv lens n) := by
  unfold bkL; split
  · split
    · exact b01_app (b01_sym _ _) (fun x hx => by simp at hx; exact .inl hx)
    · unfold bkK
      exact b01_app (b01_app (b01_app (b01_sym _ _) (fun x hx => by simp at hx; exact .inr hx)) (b01_ue _)) (b01_fm _ b01_prB _)
  · exact b01_nil
theorem b01_mb (e : Bool) (bs : List Blok) (lens : List Int) : Bit01 (mbbL e bs lens) := by
  unfold mbbL; split
  · unfold mbK
    exact b01_app (fun x hx => by simp only [List.mem_singleton] at hx; rw [hx]; exact b01_one e) (b01_fm _ (fun b => b01_bk _ _ _ _) _)
  · exact b01_nil
theorem b01_hd (w h q : Int) (b d : Bool) (l : List Int) : Bit01 (hdL w h q b d l) := by
  unfold hdL; split
  · unfold hdK hdB
    refine b01_app (b01_app (b01_app (b01_app (b01_app (b01_bits _ _) (b01_ue _)) (b01_ue _)) (b01_bits _ _)) ?_) (b01_fm _ (fun n => b01_bits _ _) _)
    intro x hx
    simp only [List.mem_cons, List.not_mem_nil, or_false] at hx
    rcases hx with rfl | rfl
    · exact b01_one b
    · exact b01_one d
  · exact b01_nil
theorem b01_st (w h q : Int) (b d : Bool) (l : List Int) (M : List Mbk) (k : Nat) : Bit01 (stK w h q b d l M k) := by
  unfold stK
  exact b01_app (b01_hd _ _ _ _ _ _) (b01_fm _ (fun m => b01_mb _ _ _) _)
/-! Numbers of bits. -/
def numS (l : List Int) (k : Nat) : Int := (l.take k).foldl (fun n b => n * 2 + b) 0
theorem numS_succ {l : List Int} {k : Nat} (h : k < l.length) : numS l (k + 1) = numS l k * 2 + l.getD k 0 := by
  unfold numS; rw [List.take_succ_eq_append_getElem h, List.foldl_append]; simp [h]
theorem b01_get {l : List Int} (h : Bit01 l) (k : Nat) : l.getD k 0 = 0 ∨ l.getD k 0 = 1 := by
  rcases Nat.lt_or_ge k l.length with h1 | h1
  · exact h _ (by simp [h1])
  · left; rw [List.getD_eq_getElem?_getD, List.getElem?_eq_none h1]; rfl
theorem numS_bd {l : List Int} (h : Bit01 l) : ∀ k, k ≤ 8 → 0 ≤ numS l k ∧ numS l k < 2 ^ k
  | 0, _ => by simp [numS]
  | k + 1, hk => by
    have ih := numS_bd h k (by omega)
    rcases Nat.lt_or_ge k l.length with h1 | h1
    · rw [numS_succ h1]
      have := b01_get h k
      have e : (2 : Int) ^ (k + 1) = 2 ^ k * 2 := by rw [Int.pow_succ]
      omega
    · have e : numS l (k + 1) = numS l k := by unfold numS; rw [List.take_of_length_le (by omega), List.take_of_length_le (by omega)]
      have e2 : (2 : Int) ^ (k + 1) = 2 ^ k * 2 := by rw [Int.pow_succ]
      omega
theorem numS_256 {l : List Int} (h : Bit01 l) {k : Nat} (hk : k ≤ 8) : 0 ≤ numS l k ∧ numS l k < 256 := by
  have h1 := numS_bd h k hk
  have h2 : (2 : Int) ^ k ≤ 2 ^ 8 := by
    have := Nat.pow_le_pow_right (n := 2) (by decide) hk
    exact_mod_cast this
  have h3 : (2 : Int) ^ 8 = 256 := by decide
  omega
instance NumOf_s : Con 236 (∀ l : List Int, l.length = 8 ∧ Bit01 l → Fn 236 [IL l] [] (.tup [I (numS l 8), B true])) := ⟨fun l hl => by
  have h8 := hl.1
  refine FnC.of_body tabOk Try.func236 Try.ntmps236 rfl (by decide +kernel) (by simp) fun G => ?_
  refine go (r := ?_); and_intros <;> intros <;> try exact True.intro
  refine WpA.loop (fun k : Nat => ⟨[(0, IL l), (4, I (numS l k)), (5, I k)], []⟩) (fun k => k ≤ 8) (fun k => 8 - k) 0 (by omega) (go (r := ?_)) (fun k hk => ?_)
  · simp [numS]
  have hb := b01_get hl.2 k
  have hn := numS_256 hl.2 hk
  have hs := fun h => numS_succ (l := l) (k := k) h
  refine go (r := ?_); and_intros <;> intros <;> try exact True.intro
  all_goals first | (exact (hs (by omega)).symm) | (rw [show k = 8 by omega]; done) | trace_state⟩
def byI (x : List Int) (k : Nat) : List Int := (List.range k).map fun i => numS ((x.drop (8 * i)).take 8) 8
def strS (x : List Int) : List UInt8 := (byI x (x.length / 8)).map fun n : Int => UInt8.ofNat n.toNat
theorem byI_len (x : List Int) (k : Nat) : (byI x k).length = k := by simp [byI]
theorem byI_succ (x : List Int) (k : Nat) : byI x (k + 1) = byI x k ++ [numS ((x.drop (8 * k)).take 8) 8] := by simp [byI, List.range_succ]
theorem strS_len (x : List Int) : (strS x).length = x.length / 8 := by unfold strS; rw [List.length_map, byI_len]
theorem b01_mid {x : List Int} (h : Bit01 x) (i : Nat) : Bit01 ((x.drop i).take 8) := fun y hy => h y (List.mem_of_mem_drop (List.mem_of_mem_take hy))
instance BytesOf_s : Con 174 (∀ l : List Int, l.length ≤ 1099511627776 ∧ l.length % 8 = 0 ∧ Bit01 l → Fn 174 [IL l] [] (.tup [Z (strS l), B true])) := ⟨fun l hl => by
  have h8 := hl.2.1
  refine FnC.of_body tabOk Try.func174 Try.ntmps174 rfl (by decide +kernel) (by simp) fun G => ?_
  refine go (r := ?_); and_intros <;> intros <;> try exact True.intro
  all_goals first | contradiction | omega | skip
  refine WpA.loop (fun k : Nat => ⟨[(0, IL l), (4, .own 0 0 0 k), (5, I (8 * (k : Int)))], [⟨u8s (byI l k), 0, 1, some 5⟩]⟩) (fun k => k ≤ l.length / 8) (fun k => l.length / 8 - k) 0 (by omega) (go (r := ?_)) (fun k hk => ?_)
  · and_intros <;> first | exact True.intro | rfl | trace_state
  have hln := byI_len l k
  have hs := byI_succ l k
  have hm := b01_mid hl.2.2 (8 * k)
  have hn := numS_256 hm (k := 8) (by omega)
  by_cases hlt : k < l.length / 8
  · have hml : ((l.drop (8 * k)).take 8).length = 8 := by simp; omega
    have e1 : (8 * (k : Int) + 8).toNat - (8 * (k : Int)).toNat = 8 := by omega
    have e2 : (8 * (k : Int)).toNat = 8 * k := by omega
    refine go (r := ?_); and_intros <;> intros <;> try exact True.intro
    all_goals first | contradiction | omega | skip
    · rename_i y hy
      rw [e1, e2] at hy; exact hm y hy
    · rw [e1, e2, u8_in (by omega), hs]
  · obtain rfl : k = l.length / 8 := by omega
    refine go (r := ?_); and_intros <;> intros <;> try exact True.intro
    refine K.cv ?_
    refine WpL.ofBytes tabOk rfl rfl rfl rfl rfl (by simp [u8s, hln]) (by decide) ?_
    refine go (r := ?_); and_intros <;> intros <;> try exact True.intro
    all_goals trace_state⟩
/-! Bits with their end. -/
def padN (n : Nat) : Nat := (8 - (n + 1) % 8) % 8
def padL (b : List Int) (j : Nat) : List Int := b ++ [1] ++ List.replicate j 0
theorem padL_len (b : List Int) (j : Nat) : (padL b j).length = b.length + 1 + j := by simp [padL]; omega
theorem padL_succ (b : List Int) (j : Nat) : padL b (j + 1) = padL b j ++ [0] := by unfold padL; rw [List.replicate_succ', ← List.append_assoc]
theorem b01_pad {b : List Int} (h : Bit01 b) (j : Nat) : Bit01 (padL b j) := b01_app (b01_app h (fun x hx => by simp at hx; exact .inr hx)) (b01_rep j)
def stopS (b : List Int) : List UInt8 := strS (padL b (padN b.length))
theorem stopS_len (b : List Int) : (stopS b).length = (b.length + 8) / 8 := by
  unfold stopS; rw [strS_len, padL_len]; unfold padN; omega
instance Stopped_s : Con 86 (∀ b : List Int, b.length ≤ 1073741824 ∧ Bit01 b → Fn 86 [IL b] [] (Z (stopS b))) := ⟨fun b hl => by
  have h0 := hl.1
  refine FnC.of_body tabOk Try.func86 Try.ntmps86 rfl (by decide +kernel) (by simp) fun G => ?_
  refine go (r := ?_); and_intros <;> intros <;> try exact True.intro
  all_goals first | contradiction | omega | skip
  refine WpA.loop (fun j : Nat => ⟨[(3, .own 0 0 0 (b.length + 1 + j))], [XI (padL b j)]⟩) (fun j => j ≤ padN b.length) (fun j => padN b.length - j) 0 (Nat.zero_le _) ?_ (fun j hj => ?_)
  · exact Weak.mk (by repeat (first | exact ReT.nil | refine ReT.cons (.keep rfl rfl .nil) ?_ | refine ReT.cons (.own rfl rfl rfl rfl rfl rfl .nil) ?_ | refine ReT.cons (.ptr rfl rfl rfl rfl .nil) ?_ | refine ReT.cons (.keep (congrArg (fun z => AV.sc (Value.int .i64 z)) (by first | omega | (skip))) rfl .nil) ?_ | refine ReT.cons (.keep (congrArg (fun z : List UInt8 => AV.sc (Value.string ⟨z.toArray⟩)) (by skip)) rfl .nil) ?_ | refine ReT.cons (.own rfl rfl rfl rfl rfl (by first | omega | (simp; done) | (simp; omega)) .nil) ?_)) (by exact ReO.cons (Re.same (by simp [padL]) (still_ints _)) (.inr rfl) .nil) (Nat.zero_le _)
  have hpl := padL_len b j
  have hps := padL_succ b j
  have hcond : j < padN b.length ↔ (b.length + 1 + j) % 8 ≠ 0 := by unfold padN at hj ⊢; omega
  have hp8 : padN b.length ≤ 7 := by unfold padN; omega
  by_cases hlt : j < padN b.length
  · have hc := hcond.1 hlt
    refine go (r := ?_); and_intros <;> intros <;> try exact True.intro
    all_goals first | contradiction | omega | exact hps.symm | trace_state
  · obtain rfl : j = padN b.length := by omega
    have hc : (b.length + 1 + padN b.length) % 8 = 0 := Decidable.byContradiction fun h => hlt (hcond.2 h)
    have hb := b01_pad hl.2 (padN b.length)
    refine go (r := ?_); and_intros <;> intros <;> try exact True.intro
    all_goals first | contradiction | omega | exact hb | exact hb _ (by assumption) | trace_state⟩
def unpS (w h q : Int) (b d : Bool) (l : List Int) (M : List Mbk) : List UInt8 := if StOk w h q l M then stopS (stK w h q b d l M M.length) else []
theorem stK_small {w h q : Int} {b d : Bool} {l : List Int} {M : List Mbk} (h0 : StOk w h q l M) : (stK w h q b d l M M.length).length ≤ 600000 := by
  have h1 := stK_len w h q b d l M M.length
  have h2 := cntM_bd h0.1.1
  have h3 := h0.2.1
  omega
theorem unpS_len (w h q : Int) (b d : Bool) (l : List Int) (M : List Mbk) : (unpS w h q b d l M).length ≤ 100000 := by
  unfold unpS; split
  · rename_i h0
    rw [stopS_len]
    have := stK_small (b := b) (d := d) h0
    omega
  · simp
instance Unparse_s : Con 29 (∀ (w h q : Int) (b d : Bool) (l : List Int) (M : List Mbk), l.length ≤ 1099511627776 ∧ mw M ≤ 1048576 → Fn 29 [StA w h q b d l M] [] (Z (unpS w h q b d l M))) := ⟨fun w h q b d l M hM => by
  have hmw : mw M = M.length + (M.map mn).sum := rfl
  have hsm : SmM 1099511627776 M := smM_of (by omega)
  have hhl := hdL_len w h q b d l
  refine FnC.of_body tabOk Try.func29 Try.ntmps29 rfl (by decide +kernel) (by simp) fun G => ?_
  by_cases h0 : StOk w h q l M
  · have hres : unpS w h q b d l M = stopS (stK w h q b d l M M.length) := by rw [unpS, if_pos h0]
    have hz : (hdL w h q b d l).length = (stK w h q b d l M 0).length := by simp [stK]
    have hz0 : hdL w h q b d l = stK w h q b d l M 0 := by simp [stK]
    refine go (r := ?_); and_intros <;> intros <;> try exact True.intro
    all_goals first | exact hsm | (exact absurd h0 (by assumption)) | skip
    refine WpA.loop (fun i : Nat => ⟨[(1, .ptr 0 0 0), (3, .own 1 0 0 (stK w h q b d l M i).length), (4, I i)], [⟨StC w h q b d l M, 0, 0, none⟩, XI (stK w h q b d l M i)]⟩) (fun i => i ≤ M.length) (fun i => M.length - i) 0 (by omega) (go (r := ?_)) (fun i hi => ?_)
    · and_intros <;> first | exact True.intro | exact hz | exact hz0 | exact hz.symm | trace_state
    have hb := stK_len w h q b d l M i
    have hsc := fun hk => stK_succ w h q b d l M i hk
    have hbl := mbbL_len (M.getD i default).1 (M.getD i default).2 l
    have hsl : i < M.length → (stK w h q b d l M (i + 1)).length = (stK w h q b d l M i).length + (mbbL (M.getD i default).1 (M.getD i default).2 l).length := fun hk => by rw [hsc hk, List.length_append]; rfl
    by_cases hi2 : i < M.length
    · obtain ⟨hg1, hg2⟩ := smM_get hsm hi2
      have hsl := hsl hi2
      refine go (r := ?_); and_intros <;> intros <;> try exact True.intro
      all_goals first | (rw [hsc hi2]; rfl) | trace_state
    · have ek : i = M.length := by omega
      subst ek
      have hst := stK_small (b := b) (d := d) h0
      have h01 := b01_st w h q b d l M M.length
      refine go (r := ?_); and_intros <;> intros <;> try exact True.intro
      all_goals first | exact h01 | exact h01 _ (by assumption) | (rw [hres]; done) | trace_state
  · have hres : unpS w h q b d l M = [] := by rw [unpS, if_neg h0]
    refine go (r := ?_); and_intros <;> intros <;> try exact True.intro
    all_goals first | exact hsm | (exact absurd (by assumption) h0) | (rw [hres]; done) | trace_state⟩
end Go.Proofs.Ytgkeopmihhcbiaa

/- Plain laws: bits of a text, numbers of bits, what is read of them. No condition. -/
namespace Go.Proofs.Ytgkeopmihhcbiaa
open Go Go.Abs
set_option linter.unusedVariables false
set_option linter.unusedSimpArgs false

def bit1 (y : Int) : Int := IntKind.i64.wrap ((BitVec.ofInt IntKind.i64.bits y &&& BitVec.ofInt IntKind.i64.bits 1).toNat : Nat)
theorem bit1_bd (y : Int) : 0 ≤ bit1 y ∧ bit1 y ≤ 1 := by
  have h : (BitVec.ofInt IntKind.i64.bits y &&& BitVec.ofInt IntKind.i64.bits 1).toNat ≤ 1 := by
    rw [BitVec.toNat_and]
    exact Nat.le_trans Nat.and_le_right (by decide)
  unfold bit1
  rw [wrap64 _ (by omega)]
  omega
/-- Bit i of a text, -1 where there is none. -/
def btA (p : List UInt8) (i : Int) : Int := if i < 0 ∨ 8 * (p.length : Int) ≤ i then -1 else bit1 (((p.getD (i / 8).toNat 0).toNat : Int) / 2 ^ (7 - i % 8).toNat)
theorem btA_out (p : List UInt8) (i : Int) : btA p i < 0 ↔ (i < 0 ∨ 8 * (p.length : Int) ≤ i) := by
  unfold btA
  have := bit1_bd (((p.getD (i / 8).toNat 0).toNat : Int) / 2 ^ (7 - i % 8).toNat)
  split <;> omega
theorem btA_bd (p : List UInt8) (i : Int) : -1 ≤ btA p i ∧ btA p i ≤ 1 := by
  unfold btA
  have := bit1_bd (((p.getD (i / 8).toNat 0).toNat : Int) / 2 ^ (7 - i % 8).toNat)
  split <;> omega
/-- The same, 0 where there is none. -/
def bv (p : List UInt8) (i : Int) : Int := max (btA p i) 0
theorem bv_bd (p : List UInt8) (i : Int) : 0 ≤ bv p i ∧ bv p i ≤ 1 := by have := btA_bd p i; unfold bv; omega
/-- So many bits as a number. -/
def numB (p : List UInt8) (s : Int) : Nat → Int
  | 0 => 0
  | k + 1 => numB p s k * 2 + bv p (s + k)
theorem numB_bd (p : List UInt8) (s : Int) : ∀ k, 0 ≤ numB p s k ∧ numB p s k < 2 ^ k
  | 0 => by simp [numB]
  | k + 1 => by
    have h1 := numB_bd p s k
    have h2 := bv_bd p (s + k)
    rw [numB, Int.pow_succ]; omega
theorem numB_le (p : List UInt8) (s : Int) {k j : Nat} (h : k ≤ j) : numB p s k < 2 ^ j := by
  have h1 := numB_bd p s k
  have h2 : (2 : Int) ^ k ≤ 2 ^ j := by exact_mod_cast Nat.pow_le_pow_right (by decide) h
  omega
theorem numB_add (p : List UInt8) (s : Int) (a : Nat) : ∀ b, numB p s (a + b) = numB p s a * 2 ^ b + numB p (s + a) b
  | 0 => by simp [numB]
  | b + 1 => by
    rw [← Nat.add_assoc, numB, numB_add p s a b, numB, Int.pow_succ, Int.natCast_add, ← Int.add_assoc, Int.add_mul, Int.mul_assoc, Int.add_assoc]
abbrev RdOk (p : List UInt8) (s : Int) : Prop := 0 ≤ s ∧ s ≤ 8 * (p.length : Int)
def lft (p : List UInt8) (s : Int) : Int := if RdOk p s then 8 * (p.length : Int) - s else 0
theorem lft_bd (p : List UInt8) (s : Int) : 0 ≤ lft p s ∧ lft p s ≤ 8 * (p.length : Int) := by unfold lft; split <;> omega
theorem lft_ok {p : List UInt8} {s : Int} (h : RdOk p s) : lft p s = 8 * (p.length : Int) - s := by rw [lft, if_pos h]
theorem lft_no {p : List UInt8} {s : Int} (h : ¬ RdOk p s) : lft p s = 0 := by rw [lft, if_neg h]
abbrev RbOk (p : List UInt8) (s n : Int) : Prop := RdOk p s ∧ (0 ≤ n ∧ n ≤ 32) ∧ n ≤ lft p s
def rbA (p : List UInt8) (s n : Int) : Int := if RbOk p s n then s + n else s
def rbV (p : List UInt8) (s n : Int) : Int := if RbOk p s n then numB p s n.toNat else 0
theorem rbV_bd (p : List UInt8) (s n : Int) : 0 ≤ rbV p s n ∧ rbV p s n < 4294967296 := by
  unfold rbV; split
  · rename_i h
    have h1 := numB_bd p s n.toNat
    have h2 := numB_le p s (k := n.toNat) (j := 32) (by omega)
    omega
  · omega
theorem rb_yes {p : List UInt8} {s n : Int} (h : RbOk p s n) : rbA p s n = s + n ∧ rbV p s n = numB p s n.toNat := ⟨if_pos h, if_pos h⟩
theorem rb_no {p : List UInt8} {s n : Int} (h : ¬ RbOk p s n) : rbA p s n = s ∧ rbV p s n = 0 := ⟨if_neg h, if_neg h⟩

/-! Zeros ahead. -/
def zrW (p : List UInt8) (s : Int) : Nat → Nat → Nat
  | 0, n => n
  | f + 1, n => if btA p (s + n) = 0 then zrW p s f (n + 1) else n
def zrs (p : List UInt8) (s : Int) : Nat := zrW p s (lft p s).toNat 0
theorem zrW_le (p : List UInt8) (s : Int) : ∀ f n, n ≤ zrW p s f n ∧ zrW p s f n ≤ n + f
  | 0, n => by simp [zrW]
  | f + 1, n => by
    rw [zrW]; split
    · have := zrW_le p s f (n + 1); omega
    · omega
theorem zrs_le (p : List UInt8) (s : Int) : (zrs p s : Int) ≤ lft p s := by
  have := zrW_le p s (lft p s).toNat 0
  have := lft_bd p s
  unfold zrs; omega
theorem zrW_eq (p : List UInt8) (s : Int) : ∀ (f n k : Nat), k ≤ f → (∀ j < k, btA p (s + (n + j : Nat)) = 0) → (k = f ∨ btA p (s + (n + k : Nat)) ≠ 0) → zrW p s f n = n + k
  | 0, n, k, h1, _, _ => by have : k = 0 := by omega
                            subst this; rfl
  | f + 1, n, 0, _, _, h3 => by
    rw [zrW]
    rcases h3 with h3 | h3
    · omega
    · rw [if_neg (by simpa using h3)]; rfl
  | f + 1, n, k + 1, h1, h2, h3 => by
    have h0 := h2 0 (by omega)
    rw [zrW, if_pos (by simpa using h0), zrW_eq p s f (n + 1) k (by omega) (fun j hj => by have := h2 (j + 1) (by omega); rw [show n + 1 + j = n + (j + 1) by omega]; exact this)
      (by rcases h3 with h3 | h3; exact .inl (by omega); exact .inr (by rw [show n + 1 + k = n + (k + 1) by omega]; exact h3))]
    omega
theorem zrs_eq {p : List UInt8} {s : Int} {k : Nat} (h1 : (k : Int) ≤ lft p s) (h2 : ∀ j < k, btA p (s + (j : Nat)) = 0) (h3 : (k : Int) = lft p s ∨ btA p (s + (k : Nat)) ≠ 0) : zrs p s = k := by
  have h0 := lft_bd p s
  unfold zrs
  rw [zrW_eq p s _ 0 k (by omega) (fun j hj => by rw [Nat.zero_add]; exact h2 j hj) (by rw [Nat.zero_add]; rcases h3 with h3 | h3; exact .inl (by omega); exact .inr h3)]
  omega

theorem zrW_zero (p : List UInt8) (s : Int) : ∀ (f n j : Nat), n ≤ j → j < zrW p s f n → btA p (s + (j : Nat)) = 0
  | 0, n, j, h1, h2 => by rw [zrW] at h2; omega
  | f + 1, n, j, h1, h2 => by
    rw [zrW] at h2
    split at h2
    · rename_i h0
      rcases Nat.lt_or_ge n j with h | h
      · exact zrW_zero p s f (n + 1) j (by omega) h2
      · have : n = j := by omega
        subst this; exact h0
    · omega
theorem zrs_zero {p : List UInt8} {s : Int} {j : Nat} (h : j < zrs p s) : btA p (s + (j : Nat)) = 0 := zrW_zero p s _ 0 j (Nat.zero_le _) h
theorem numB_zero (p : List UInt8) (s : Int) : ∀ k, numB p s k = 0 ↔ ∀ j < k, bv p (s + (j : Nat)) = 0
  | 0 => by simp [numB]
  | k + 1 => by
    have ih := numB_zero p s k
    have h1 := numB_bd p s k
    have h2 := bv_bd p (s + k)
    rw [numB]
    constructor
    · intro h j hj
      rcases Nat.lt_or_ge j k with hj2 | hj2
      · exact ih.1 (by omega) j hj2
      · have : j = k := by omega
        subst this; omega
    · intro h
      have h3 := ih.2 fun j hj => h j (by omega)
      have h4 := h k (by omega)
      omega
/-- What is left is a 1 and 0. -/
theorem end_iff {p : List UInt8} {s : Int} (h : RdOk p s) (h1 : 1 ≤ lft p s) : numB p s (lft p s).toNat = 2 ^ (lft p s - 1).toNat ↔ btA p s = 1 ∧ (zrs p (s + 1) : Int) = lft p (s + 1) := by
  have e1 := lft_ok h
  have h2 : RdOk p (s + 1) := by omega
  have e2 := lft_ok h2
  obtain ⟨k, hk⟩ : ∃ k : Nat, lft p (s + 1) = k := ⟨(lft p (s + 1)).toNat, by omega⟩
  have e3 : (lft p s).toNat = 1 + k := by omega
  have e4 : (lft p s - 1).toNat = k := by omega
  have e5 := numB_add p s 1 k
  have e6 : numB p s 1 = bv p s := by simp [numB]
  have e7 := numB_bd p (s + 1) k
  have e8 := bv_bd p s
  have e9 := btA_bd p s
  have e10 : bv p s = max (btA p s) 0 := rfl
  have hp : (0 : Int) < 2 ^ k := by exact_mod_cast Nat.pow_pos (by decide)
  have hz := numB_zero p (s + 1) k
  rw [e3, e4, e5, e6, hk]
  have e11 : (s : Int) + ((1 : Nat) : Int) = s + 1 := rfl
  rw [e11]
  generalize (2 : Int) ^ k = q at *
  have hzr : ((zrs p (s + 1) : Int) = k) ↔ ∀ j < k, bv p (s + 1 + (j : Nat)) = 0 := by
    constructor
    · intro hh j hj
      have := zrs_zero (p := p) (s := s + 1) (j := j) (by omega)
      unfold bv; omega
    · intro hh
      have := zrs_eq (p := p) (s := s + 1) (k := k) (by omega) (fun j hj => by
        have a := hh j hj
        have b := btA_out p (s + 1 + (j : Nat))
        have c := btA_bd p (s + 1 + (j : Nat))
        unfold bv at a; omega) (.inl hk.symm)
      omega
  rw [hzr, ← hz]
  rcases (by omega : bv p s = 0 ∨ bv p s = 1) with hb | hb
  · rw [hb]; constructor
    · intro hh; omega
    · rintro ⟨hh, _⟩; omega
  · rw [hb]; constructor
    · intro hh; exact ⟨by omega, by omega⟩
    · rintro ⟨_, hh⟩; omega

/-! Numbers behind zeros. -/
def ueA (p : List UInt8) (s : Int) : Int := if zrs p s ≤ 15 then rbA p s (2 * (zrs p s : Int) + 1) else s
def ueC (p : List UInt8) (s : Int) : Int := if zrs p s ≤ 15 then (if RbOk p s (2 * (zrs p s : Int) + 1) then 0 else 1) else 4
def ueV (p : List UInt8) (s : Int) : Int := if ueC p s = 0 then rbV p s (2 * (zrs p s : Int) + 1) - 1 else 0
def lvOf (n : Int) : Int := if n < 0 then 0 else if n % 2 = 0 then n / 2 + 1 else -(n / 2) - 1

theorem ue_yes {p : List UInt8} {s : Int} (h : zrs p s ≤ 15) (h2 : RbOk p s (2 * (zrs p s : Int) + 1)) : ueA p s = s + (2 * (zrs p s : Int) + 1) ∧ ueC p s = 0 ∧ ueV p s = numB p s (2 * (zrs p s : Int) + 1).toNat - 1 := by
  have e : ueC p s = 0 := by rw [ueC, if_pos h, if_pos h2]
  exact ⟨by rw [ueA, if_pos h, (rb_yes h2).1], e, by rw [ueV, if_pos e, (rb_yes h2).2]⟩
theorem ue_short {p : List UInt8} {s : Int} (h : zrs p s ≤ 15) (h2 : ¬ RbOk p s (2 * (zrs p s : Int) + 1)) : ueA p s = s ∧ ueC p s = 1 ∧ ueV p s = 0 := by
  have e : ueC p s = 1 := by rw [ueC, if_pos h, if_neg h2]
  exact ⟨by rw [ueA, if_pos h, (rb_no h2).1], e, by rw [ueV, if_neg (by omega)]⟩
theorem ue_code {p : List UInt8} {s : Int} (h : ¬ zrs p s ≤ 15) : ueA p s = s ∧ ueC p s = 4 ∧ ueV p s = 0 := by
  have e : ueC p s = 4 := by rw [ueC, if_neg h]
  exact ⟨by rw [ueA, if_neg h], e, by rw [ueV, if_neg (by omega)]⟩

/-! Symbols. -/
abbrev SymAt (p : List UInt8) (s : Int) (l : List Int) (m : Nat) : Prop := 0 < l.getD m 0 ∧ RbOk p s (l.getD m 0) ∧ numB p s (l.getD m 0).toNat = (codes l).getD m 0
theorem sym_hit {p : List UInt8} {s : Int} {l : List Int} {m : Nat} (hl : CodeOk l) (hm : m < 6) (h : SymAt p s l m) : hit (codes l) l m (numB p s 7) := by
  have hb := code_in hl hm
  obtain ⟨w, hw⟩ : ∃ w : Nat, l.getD m 0 = w := ⟨(l.getD m 0).toNat, by omega⟩
  have hw7 : w ≤ 7 := by omega
  have h1 := numB_add p s w (7 - w)
  have h2 := numB_bd p (s + w) (7 - w)
  have h3 := h.2.2
  have h5 := h.1
  rw [show w + (7 - w) = 7 by omega] at h1
  rw [hw] at h3
  have h4 : numB p s w = (codes l).getD m 0 := by simpa using h3
  unfold hit
  rw [hw]
  have hcw : cw (w : Int) = 2 ^ (7 - w) := by
    rcases (by omega : w = 1 ∨ w = 2 ∨ w = 3 ∨ w = 4 ∨ w = 5 ∨ w = 6 ∨ w = 7) with rfl | rfl | rfl | rfl | rfl | rfl | rfl <;> rfl
  rw [hcw, h1, h4, Int.add_mul]
  omega
theorem sym_uni {p : List UInt8} {s : Int} {l : List Int} {m m' : Nat} (hl : CodeOk l) (hm : m < 6) (hm' : m' < 6) (h : SymAt p s l m) (h' : SymAt p s l m') : m = m' :=
  code_uni hl hm hm' (by omega) (by omega) (sym_hit hl hm h) (sym_hit hl hm' h')
theorem sym_cov {p : List UInt8} {s : Int} {l : List Int} (hl : CodeOk l) (h : RbOk p s 7) : ∃ m, m < 6 ∧ SymAt p s l m := by
  have hb := numB_bd p s 7
  obtain ⟨m, hm, h0, h1, h2⟩ := code_cov hl (v := numB p s 7) hb.1 hb.2
  have hb2 := code_in hl hm
  refine ⟨m, hm, by omega, ⟨h.1, by omega, by omega⟩, ?_⟩
  obtain ⟨w, hw⟩ : ∃ w : Nat, l.getD m 0 = w := ⟨(l.getD m 0).toNat, by omega⟩
  have hw7 : w ≤ 7 := by omega
  have h3 := numB_add p s w (7 - w)
  have h4 := numB_bd p (s + w) (7 - w)
  rw [show w + (7 - w) = 7 by omega] at h3
  have hcw : cw (w : Int) = 2 ^ (7 - w) := by
    rcases (by omega : w = 1 ∨ w = 2 ∨ w = 3 ∨ w = 4 ∨ w = 5 ∨ w = 6 ∨ w = 7) with rfl | rfl | rfl | rfl | rfl | rfl | rfl <;> rfl
  rw [hw, hcw] at h1 h2
  rw [hw, show ((w : Int)).toNat = w by simp]
  rw [h3] at h1 h2
  have hp : (0 : Int) < 2 ^ (7 - w) := by exact_mod_cast Nat.pow_pos (by decide)
  generalize (2 : Int) ^ (7 - w) = q at *
  have e1 : (codes l).getD m 0 * q ≤ numB p s w * q + numB p (s + w) (7 - w) := h1
  have e2 : numB p s w * q + numB p (s + w) (7 - w) < ((codes l).getD m 0 + 1) * q := h2
  have a1 : (codes l).getD m 0 < numB p s w + 1 := by
    apply Int.lt_of_mul_lt_mul_right (a := q) _ (by omega)
    rw [Int.add_mul]; omega
  have a2 : numB p s w < (codes l).getD m 0 + 1 := by
    apply Int.lt_of_mul_lt_mul_right (a := q) _ (by omega)
    omega
  omega
/-- The symbol that is read, 6 where there is none. -/
def symM (p : List UInt8) (s : Int) (l : List Int) : Nat := ((List.range 6).find? fun m => decide (SymAt p s l m)).getD 6
theorem symM_eq {p : List UInt8} {s : Int} {l : List Int} {m : Nat} (hl : CodeOk l) (hm : m < 6) (h : SymAt p s l m) : symM p s l = m := by
  unfold symM
  cases hf : (List.range 6).find? fun m => decide (SymAt p s l m) with
  | none =>
    have := List.find?_eq_none.1 hf m (by simp [hm])
    exact absurd (decide_eq_true h) this
  | some m' =>
    have h1 := List.find?_some hf
    have h2 := List.mem_of_find?_eq_some hf
    exact (sym_uni hl (by simpa using h2) hm (of_decide_eq_true h1) h)
theorem symM_none {p : List UInt8} {s : Int} {l : List Int} (h : ∀ m, m < 6 → ¬ SymAt p s l m) : symM p s l = 6 := by
  unfold symM
  have : (List.range 6).find? (fun m => decide (SymAt p s l m)) = none := List.find?_eq_none.2 fun m hm => by simpa using h m (by simpa using hm)
  rw [this]; rfl
theorem symM_lt {p : List UInt8} {s : Int} {l : List Int} (h : symM p s l < 6) : SymAt p s l (symM p s l) := by
  unfold symM at *
  cases hf : (List.range 6).find? fun m => decide (SymAt p s l m) with
  | none => rw [hf] at h; simp at h
  | some m' =>
    have h1 := List.find?_some hf
    exact of_decide_eq_true (p := SymAt p s l m') h1
def smC (p : List UInt8) (s : Int) (l : List Int) : Int := if CodeOk l then (if symM p s l < 6 then 0 else 1) else 4
def smA (p : List UInt8) (s : Int) (l : List Int) : Int := if smC p s l = 0 then s + l.getD (symM p s l) 0 else s
def smV (p : List UInt8) (s : Int) (l : List Int) : Int := if smC p s l = 0 then symM p s l else 0
theorem sm_yes {p : List UInt8} {s : Int} {l : List Int} {m : Nat} (hl : CodeOk l) (hm : m < 6) (h : SymAt p s l m) : smA p s l = s + l.getD m 0 ∧ smV p s l = m ∧ smC p s l = 0 := by
  have e := symM_eq hl hm h
  have c : smC p s l = 0 := by rw [smC, if_pos hl, if_pos (by omega)]
  exact ⟨by rw [smA, if_pos c, e], by rw [smV, if_pos c, e], c⟩
theorem sm_none {p : List UInt8} {s : Int} {l : List Int} (hl : CodeOk l) (h : ∀ m, m < 6 → ¬ SymAt p s l m) : smA p s l = s ∧ smV p s l = 0 ∧ smC p s l = 1 := by
  have e := symM_none h
  have c : smC p s l = 1 := by rw [smC, if_pos hl, if_neg (by omega)]
  exact ⟨by rw [smA, if_neg (by omega)], by rw [smV, if_neg (by omega)], c⟩
theorem sm_bad {p : List UInt8} {s : Int} {l : List Int} (hl : ¬ CodeOk l) : smA p s l = s ∧ smV p s l = 0 ∧ smC p s l = 4 := by
  have c : smC p s l = 4 := by rw [smC, if_neg hl]
  exact ⟨by rw [smA, if_neg (by omega)], by rw [smV, if_neg (by omega)], c⟩
end Go.Proofs.Ytgkeopmihhcbiaa

/- Plain laws: fields read one behind the other; headers, levels, blocks, macroblocks, streams that are read. No condition. -/
namespace Go.Proofs.Ytgkeopmihhcbiaa
open Go Go.Abs
set_option linter.unusedVariables false
set_option linter.unusedSimpArgs false

/-! A field: bits, or a number behind zeros; a check may refuse it; behind a fault nothing is read. -/
def fbC (p : List UInt8) (s c n : Int) (k : Int → Int) : Int := if c = 0 then (if RbOk p s n then k (rbV p s n) else 1) else c
def fbA (p : List UInt8) (s c n : Int) (k : Int → Int) : Int := if c = 0 ∧ fbC p s c n k = 0 then rbA p s n else s
def fbV (p : List UInt8) (s c n : Int) (k : Int → Int) : Int := if fbC p s c n k = 0 then rbV p s n else 0
def fuC (p : List UInt8) (s c : Int) (k : Int → Int) : Int := if c = 0 then (if ueC p s = 0 then k (ueV p s) else ueC p s) else c
def fuA (p : List UInt8) (s c : Int) (k : Int → Int) : Int := if fuC p s c k = 0 then ueA p s else s
def fuV (p : List UInt8) (s c : Int) (k : Int → Int) : Int := if fuC p s c k = 0 then ueV p s else 0
def ifE (b : Prop) [Decidable b] (e : Int) : Int := bif decide b then 0 else e
theorem ifE_yes {b : Prop} [Decidable b] {e : Int} (h : b) : ifE b e = 0 := by rw [ifE, decide_eq_true h]; rfl
theorem ifE_no {b : Prop} [Decidable b] {e : Int} (h : ¬ b) : ifE b e = e := by rw [ifE, decide_eq_false h]; rfl

/-! Headers. -/
def lenAt (v : Int) (i : Nat) : Int := v / 2 ^ (3 * i) % 8
def lensV (v : Int) : List Int := [lenAt v 5, lenAt v 4, lenAt v 3, lenAt v 2, lenAt v 1, lenAt v 0]
structure HdS where
  a : Int
  c : Int
  w : Int
  h : Int
  q : Int
  f : Int
  l : Int
abbrev hk1 (x : Int) : Int := ifE (x = 183) 2
abbrev hk2 (x : Int) : Int := ifE (x ≤ 3) 3
abbrev hk3 (x : Int) : Int := ifE (x ≤ 51) 3
abbrev hk4 (x : Int) : Int := 0
abbrev hk5 (x : Int) : Int := ifE (CodeOk (lensV x)) 4
def hdS (p : List UInt8) (s : Int) : HdS :=
  let a1 := fbA p s 0 8 hk1
  let c1 := fbC p s 0 8 hk1
  let a2 := fuA p a1 c1 hk2
  let c2 := fuC p a1 c1 hk2
  let a3 := fuA p a2 c2 hk2
  let c3 := fuC p a2 c2 hk2
  let a4 := fbA p a3 c3 6 hk3
  let c4 := fbC p a3 c3 6 hk3
  let a5 := fbA p a4 c4 2 hk4
  let c5 := fbC p a4 c4 2 hk4
  let a6 := fbA p a5 c5 18 hk5
  let c6 := fbC p a5 c5 18 hk5
  ⟨a6, c6, fuV p a1 c1 hk2, fuV p a2 c2 hk2, fbV p a3 c3 6 hk3, fbV p a4 c4 2 hk4, fbV p a5 c5 18 hk5⟩
def HdS.W (x : HdS) : Int := if x.c = 0 then 8 * (x.w + 1) else 0
def HdS.H (x : HdS) : Int := if x.c = 0 then 8 * (x.h + 1) else 0
def HdS.Q (x : HdS) : Int := if x.c = 0 then x.q else 0
def HdS.B (x : HdS) : Bool := decide (x.c = 0 ∧ x.f ≥ 2)
def HdS.D (x : HdS) : Bool := decide (x.c = 0 ∧ x.f % 2 = 1)
def HdS.L (x : HdS) : List Int := if x.c = 0 then lensV x.l else []

/-! Levels. -/
structure LvS where
  a : Int
  c : Int
  at_ : Int
  out : List Int
def lvStep (p : List UInt8) (nn : Int) (x : LvS) : LvS :=
  if x.c = 0 then
    let k1 := fun y : Int => ifE (y < nn - x.at_) 5
    let k2 := fun y : Int => ifE (-16383 ≤ lvOf y ∧ lvOf y ≤ 16383) 5
    let a1 := fuA p x.a 0 k1
    let c1 := fuC p x.a 0 k1
    let t1 := x.at_ + fuV p x.a 0 k1
    let a2 := fuA p a1 c1 k2
    let c2 := fuC p a1 c1 k2
    if c2 = 0 then ⟨a2, c2, t1 + 1, x.out.set t1.toNat (lvOf (fuV p a1 c1 k2))⟩ else ⟨a2, c2, t1, x.out⟩
  else x
def lvRun (p : List UInt8) (nn : Int) (x : LvS) : Nat → LvS
  | 0 => x
  | k + 1 => lvStep p nn (lvRun p nn x k)
def lvS (p : List UInt8) (s n : Int) : LvS :=
  let nn := n * n
  let z := List.replicate nn.toNat 0
  let k0 := fun _ : Int => 0
  let k1 := fun y : Int => ifE (y < nn) 5
  let a1 := fbA p s 0 1 k0
  let c1 := fbC p s 0 1 k0
  if fbV p s 0 1 k0 = 0 then ⟨a1, c1, 0, z⟩ else
    let a2 := fuA p a1 c1 k1
    let c2 := fuC p a1 c1 k1
    lvRun p nn ⟨a2, c2, 0, z⟩ (1 + fuV p a1 c1 k1).toNat
theorem lvStep_len (p : List UInt8) (nn : Int) (x : LvS) : (lvStep p nn x).out.length = x.out.length := by
  unfold lvStep; split
  · simp only; split
    · simp
    · rfl
  · rfl
theorem lvRun_len (p : List UInt8) (nn : Int) (x : LvS) : ∀ k, (lvRun p nn x k).out.length = x.out.length
  | 0 => rfl
  | k + 1 => by rw [lvRun, lvStep_len, lvRun_len p nn x k]
theorem lvS_len (p : List UInt8) (s n : Int) : (lvS p s n).out.length = (n * n).toNat := by
  unfold lvS; simp only; split
  · simp
  · rw [lvRun_len]; simp

/-! Blocks. -/
structure BlS where
  a : Int
  c : Int
  m : Int
  l : List Int
def blS (p : List UInt8) (s : Int) (lens : List Int) (n : Int) : BlS :=
  if n = 4 ∨ n = 8 then
    if smC p s lens = 0 then
      let x := lvS p (smA p s lens) n
      if x.c = 0 then ⟨x.a, 0, smV p s lens, x.out⟩ else ⟨x.a, x.c, 0, []⟩
    else ⟨s, smC p s lens, 0, []⟩
  else ⟨s, 5, 0, []⟩
theorem blS_len (p : List UInt8) (s : Int) (lens : List Int) (n : Int) : (blS p s lens n).l.length ≤ 64 := by
  unfold blS; split
  · rename_i h
    split
    · simp only; split
      · have := lvS_len p (smA p s lens) n
        rcases h with rfl | rfl
        · have h2 : ((4 : Int) * 4).toNat = 16 := rfl
          show (lvS p (smA p s lens) 4).out.length ≤ 64
          omega
        · have h2 : ((8 : Int) * 8).toNat = 64 := rfl
          show (lvS p (smA p s lens) 8).out.length ≤ 64
          omega
      · simp
    · simp
  · simp

/-! Macroblocks: so many blocks, up to the first fault. -/
structure MbS where
  a : Int
  c : Int
  bs : List Blok
def mbRun (p : List UInt8) (s : Int) (lens : List Int) (n : Int) : Nat → MbS
  | 0 => ⟨s, 0, []⟩
  | k + 1 =>
    let x := mbRun p s lens n k
    if x.c = 0 then
      let b := blS p x.a lens n
      if b.c = 0 then ⟨b.a, 0, x.bs ++ [(b.m, b.l)]⟩ else ⟨b.a, b.c, []⟩
    else x
def sz8' (e : Bool) : Int := bif e then 8 else 4
def mbS (p : List UInt8) (s : Int) (lens : List Int) : MbS × Bool :=
  if RbOk p s 1 then
    let e := decide (rbV p s 1 = 1)
    let x := mbRun p (s + 1) lens (bif e then 8 else 4) (bif e then 1 else 4)
    (x, bif decide (x.c = 0) then e else false)
  else (⟨s, 1, []⟩, false)

/-! Streams. -/
structure StS where
  a : Int
  c : Int
  ms : List Mbk
def stRun (p : List UInt8) (s : Int) (lens : List Int) : Nat → StS
  | 0 => ⟨s, 0, []⟩
  | k + 1 =>
    let x := stRun p s lens k
    if x.c = 0 then
      let m := mbS p x.a lens
      if m.1.c = 0 then ⟨m.1.a, 0, x.ms ++ [(m.2, m.1.bs)]⟩ else ⟨m.1.a, m.1.c, []⟩
    else x
/-- The fault of what is left: a 1, and as many 0 as fill a byte. -/
def endC (p : List UInt8) (s : Int) : Int := if lft p s = 0 then 1 else if lft p s ≤ 8 ∧ numB p s (lft p s).toNat = 2 ^ (lft p s - 1).toNat then 0 else 6
end Go.Proofs.Ytgkeopmihhcbiaa

/- Contracts: bits of a text, readers, numbers behind zeros, symbols. No condition. -/
namespace Go.Proofs.Ytgkeopmihhcbiaa
open Go Go.Abs
set_option linter.unusedVariables false
set_option linter.unusedSimpArgs false
set_option maxRecDepth 100000
set_option maxHeartbeats 4000000
attribute [local irreducible] WpA WpL Rnd Blk Abs.Seq Abs.Fin Abs.FinG FnC FnG Only

theorem shr8_in (x : UInt8) (k : Nat) : IntKind.i64.wrap ((x.toNat : Int) / 2 ^ k) = (x.toNat : Int) / 2 ^ k := by
  have h1 : (x.toNat : Int) / 2 ^ k ≤ x.toNat := Int.ediv_le_self _ (by omega)
  have h2 : 0 ≤ (x.toNat : Int) / 2 ^ k := Int.ediv_nonneg (by omega) (Int.pow_nonneg (by decide))
  have := x.toNat_lt
  exact wrap64 _ (by omega)
instance BitAt_c : Con 228 (∀ (p : List UInt8) (i : Int), p.length ≤ 1099511627776 → Fn 228 [Z p, I i] [] (I (btA p i))) := ⟨fun p i hl => by
  refine FnC.of_body tabOk Try.func228 Try.ntmps228 rfl (by decide +kernel) (by simp) fun G => ?_
  refine go (r := ?_); and_intros <;> intros <;> try exact True.intro
  · rw [btA, if_pos (by omega)]
  · rw [btA, if_pos (by omega)]
  · rw [btA, if_neg (by omega), bit1, shr8_in]⟩
instance BitAt_s : Con 152 (∀ (p : List UInt8) (i : Int), p.length ≤ 1099511627776 → Fn 152 [Z p, I i] [] (I (btA p i))) := ⟨fun p i hl => by
  refine FnC.of_body tabOk Try.func152 Try.ntmps152 rfl (by decide +kernel) (by simp) fun G => ?_
  refine go (r := ?_); and_intros <;> intros <;> try exact True.intro
  · rw [btA, if_pos (by omega)]
  · rw [btA, if_pos (by omega)]
  · have := (p.getD (i / 8).toNat 0).toNat_lt
    rw [btA, if_neg (by omega), bit1]⟩
abbrev RA (p : List UInt8) (s : Int) : AV := .agg [Z p, I s]
theorem or1 (x b : Int) (h : 0 ≤ x ∧ x < 2 ^ 61) (hb : 0 ≤ b ∧ b ≤ 1) : IntKind.i64.wrap ((BitVec.ofInt IntKind.i64.bits (IntKind.i64.wrap (x * 2 ^ Int.toNat 1)) ||| BitVec.ofInt IntKind.i64.bits b).toNat : Nat) = x * 2 + b := by
  have e0 : x * 2 ^ Int.toNat 1 = x * 2 := rfl
  rw [e0, wrap64 (x * 2) (by omega)]
  obtain ⟨a, rfl⟩ : ∃ a : Nat, x = a := ⟨x.toNat, by omega⟩
  obtain ⟨c, rfl⟩ : ∃ c : Nat, b = c := ⟨b.toNat, by omega⟩
  have h1 : (BitVec.ofInt IntKind.i64.bits ((a : Int) * 2)).toNat = 2 * a := by simp only [IntKind.bits, BitVec.toNat_ofInt]; omega
  have h2 : (BitVec.ofInt IntKind.i64.bits (c : Int)).toNat = c := by simp only [IntKind.bits, BitVec.toNat_ofInt]; omega
  rw [BitVec.toNat_or, h1, h2]
  have h3 := Nat.two_pow_add_eq_or_of_lt (i := 1) (b := c) (by omega) a
  rw [show 2 * a = 2 ^ 1 * a by omega, ← h3, wrap64 _ (by omega)]
  omega
instance bits_c : Con 159 (∀ (p : List UInt8) (s n : Int), p.length ≤ 1099511627776 ∧ (-1125899906842624 ≤ s ∧ s ≤ 1125899906842624) ∧ 0 ≤ n ∧ n ≤ 56 → Fn 159 [Z p, I s, I n] [] (I (numB p s n.toNat))) := ⟨fun p s n hl => by
  obtain ⟨N, rfl⟩ : ∃ N : Nat, n = N := ⟨n.toNat, by omega⟩
  refine FnC.of_body tabOk Try.func159 Try.ntmps159 rfl (by decide +kernel) (by simp) fun G => ?_
  refine go (r := ?_); and_intros <;> intros <;> try exact True.intro
  refine WpA.loop (fun k : Nat => ⟨[(0, Z p), (1, I s), (7, I (numB p s k)), (9, I N), (10, I k)], []⟩) (fun k => k ≤ N) (fun k => N - k) 0 (by omega) (go (r := ?_)) (fun k hk => ?_)
  · trivial
  have hb := numB_bd p s k
  have hb2 := numB_le p s (k := k) (j := 60) (by omega)
  have h1 := or1 (numB p s k) (max (btA p (s + k)) 0) (by omega) (bv_bd p (s + k))
  have h2 : numB p s (k + 1) = numB p s k * 2 + max (btA p (s + k)) 0 := rfl
  refine go (r := ?_); and_intros <;> intros <;> try exact True.intro
  all_goals first | (rw [h2, ← h1]; done) | (have e : k = N := by omega); (first | (rw [e, Int.toNat_natCast]; done) | (subst e; rfl)) | trace_state⟩
abbrev BoxR (p : List UInt8) (s : Int) : AObj := ⟨[Z p, I s], 0, 0, none⟩
instance ReaderOk_c : Con 214 (∀ (p : List UInt8) (s : Int), p.length ≤ 1099511627776 → Fn 214 [RA p s] [] (B (decide (RdOk p s)))) := ⟨fun p s hl => by
  refine FnC.of_body tabOk Try.func214 Try.ntmps214 rfl (by decide +kernel) (by simp) fun G => ?_
  refine go (r := ?_); and_intros <;> intros <;> try exact True.intro⟩
instance ReaderOk_s : Con 189 (∀ (p : List UInt8) (s : Int), p.length ≤ 1099511627776 → Fn 189 [RA p s] [] (B (decide (RdOk p s)))) := ⟨fun p s hl => by
  refine FnC.of_body tabOk Try.func189 Try.ntmps189 rfl (by decide +kernel) (by simp) fun G => ?_
  refine go (r := ?_); and_intros <;> intros <;> try exact True.intro⟩
instance Left_c : Con 186 (∀ (p : List UInt8) (s : Int), p.length ≤ 1099511627776 → Fn 186 [RA p s] [] (I (lft p s))) := ⟨fun p s hl => by
  refine FnC.of_body tabOk Try.func186 Try.ntmps186 rfl (by decide +kernel) (by simp) fun G => ?_
  refine go (r := ?_); and_intros <;> intros <;> try exact True.intro
  all_goals first | (rw [lft_no (by assumption)]; done) | (rw [lft_ok (by assumption)]; done) | trace_state⟩
instance Left_s : Con 190 (∀ (p : List UInt8) (s : Int), p.length ≤ 1099511627776 → Fn 190 [RA p s] [] (I (lft p s))) := ⟨fun p s hl => by
  refine FnC.of_body tabOk Try.func190 Try.ntmps190 rfl (by decide +kernel) (by simp) fun G => ?_
  refine go (r := ?_); and_intros <;> intros <;> try exact True.intro
  all_goals first | (rw [lft_no (by assumption)]; done) | (rw [lft_ok (by assumption)]; done) | trace_state⟩
instance ReadBits_c : Con 135 (∀ (p : List UInt8) (s n : Int), p.length ≤ 1099511627776 → Fn 135 [RA p s, I n] [] (.tup [RA p (rbA p s n), I (rbV p s n), B (decide (RbOk p s n))])) := ⟨fun p s n hl => by
  have hb := lft_bd p s
  refine FnC.of_body tabOk Try.func135 Try.ntmps135 rfl (by decide +kernel) (by simp) fun G => ?_
  by_cases hok : RbOk p s n
  · obtain ⟨e1, e2⟩ := rb_yes hok
    obtain ⟨h1, h2, h3⟩ := id hok
    refine go (r := ?_); and_intros <;> intros <;> try exact True.intro
    all_goals first | (exact absurd (by assumption) (by assumption)) | (rw [e1]; done) | (rw [e2]; done) | (simp [hok]; done) | (exfalso; omega) | trace_state
  · obtain ⟨e1, e2⟩ := rb_no hok
    refine go (r := ?_); and_intros <;> intros <;> try exact True.intro
    all_goals first | (exact absurd ⟨by assumption, by assumption, by omega⟩ hok) | (rw [e1]; done) | (rw [e2]; done) | (simp [hok]; done) | trace_state⟩
instance ReadBits_s : Con 154 (∀ (p : List UInt8) (s n : Int), p.length ≤ 1099511627776 → Fn 154 [RA p s, I n] [] (.tup [RA p (rbA p s n), I (rbV p s n), B (decide (RbOk p s n))])) := ⟨fun p s n hl => by
  have hb := lft_bd p s
  refine FnC.of_body tabOk Try.func154 Try.ntmps154 rfl (by decide +kernel) (by simp) fun G => ?_
  by_cases hok : RbOk p s n
  · obtain ⟨e1, e2⟩ := rb_yes hok
    obtain ⟨h1, h2, h3⟩ := id hok
    have hlo := lft_ok h1
    obtain ⟨N, rfl⟩ : ∃ N : Nat, n = N := ⟨n.toNat, by omega⟩
    refine go (r := ?_); and_intros <;> intros <;> try exact True.intro
    all_goals first | (exact absurd (by assumption) (by assumption)) | (exfalso; omega) | skip
    refine WpA.loop (fun k : Nat => ⟨[(1, I N), (2, .ptr 0 0 0), (4, .ptr 1 0 0), (7, I (numB p s k)), (8, I k)], [BoxR p s, ⟨[Z [], I 0], 0, 0, none⟩]⟩) (fun k => k ≤ N) (fun k => N - k) 0 (by omega) (go (r := ?_)) (fun k hk => ?_)
    · trivial
    have hbk := numB_bd p s k
    have hb2 := numB_le p s (k := k) (j := 33) (by omega)
    have hbt := btA_bd p (s + k)
    have hbo := btA_out p (s + k)
    have h2 : numB p s (k + 1) = numB p s k * 2 + max (btA p (s + k)) 0 := rfl
    refine go (r := ?_); and_intros <;> intros <;> try exact True.intro
    all_goals first | (rw [h2]; omega) | (rw [e1]; done) | (rw [e2, Int.toNat_natCast, show k = N by omega]; done) | (simp [hok]; done) | trace_state
  · obtain ⟨e1, e2⟩ := rb_no hok
    refine go (r := ?_); and_intros <;> intros <;> try exact True.intro
    all_goals first | (exact absurd ⟨by assumption, by assumption, by omega⟩ hok) | (rw [e1]; done) | (rw [e2]; done) | (simp [hok]; done) | trace_state⟩
instance ZerosAhead_c : Con 216 (∀ (p : List UInt8) (s : Int), p.length ≤ 1099511627776 → Fn 216 [RA p s] [] (I (zrs p s))) := ⟨fun p s hl => by
  have hb := lft_bd p s
  refine FnC.of_body tabOk Try.func216 Try.ntmps216 rfl (by decide +kernel) (by simp) fun G => ?_
  by_cases hok : RdOk p s
  · have hlo := lft_ok hok
    refine go (r := ?_); and_intros <;> intros <;> try exact True.intro
    all_goals first | (exact absurd hok (by assumption)) | skip
    refine WpA.loop (fun k : Nat => ⟨[(1, .ptr 0 0 0), (3, I k)], [BoxR p s]⟩) (fun k => (k : Int) ≤ lft p s ∧ ∀ j < k, btA p (s + (j : Nat)) = 0) (fun k => (lft p s).toNat - k) 0 ⟨by omega, fun j hj => by omega⟩ (go (r := ?_)) (fun k hk => ?_)
    · trivial
    have hbo := btA_out p (s + k)
    have hz := fun h3 => zrs_eq hk.1 hk.2 h3
    refine go (r := ?_); and_intros <;> intros <;> try exact True.intro
    all_goals first | (rename_i h1 j hj; rcases Nat.lt_succ_iff_lt_or_eq.1 hj with h | h; (exact hk.2 j h); (subst h; assumption)) | (rw [hz (.inr (by assumption))]; done) | trace_state
  · have hz : zrs p s = 0 := by have := zrs_le p s; rw [lft_no hok] at this; omega
    refine go (r := ?_); and_intros <;> intros <;> try exact True.intro
    all_goals first | (exact absurd (by assumption) hok) | (rw [hz]; done) | (rw [hz]; rfl) | trace_state⟩
instance ZerosAhead_s : Con 191 (∀ (p : List UInt8) (s : Int), p.length ≤ 1099511627776 → Fn 191 [RA p s] [] (I (zrs p s))) := ⟨fun p s hl => by
  have hb := lft_bd p s
  refine FnC.of_body tabOk Try.func191 Try.ntmps191 rfl (by decide +kernel) (by simp) fun G => ?_
  have hlo := fun h : RdOk p s => lft_ok h
  have hln := fun h : ¬ RdOk p s => lft_no h
  refine go (r := ?_); and_intros <;> intros <;> try exact True.intro
  refine WpA.loop (fun k : Nat => ⟨[(1, .ptr 0 0 0), (3, I k)], [BoxR p s]⟩) (fun k => (k : Int) ≤ lft p s ∧ ∀ j < k, btA p (s + (j : Nat)) = 0) (fun k => (lft p s).toNat - k) 0 ⟨by omega, fun j hj => by omega⟩ (go (r := ?_)) (fun k hk => ?_)
  · trivial
  have hbo := btA_out p (s + k)
  have hz := fun h3 => zrs_eq hk.1 hk.2 h3
  by_cases hok : RdOk p s
  · have hlo := lft_ok hok
    refine go (r := ?_); and_intros <;> intros <;> try exact True.intro
    all_goals first | (rename_i h1 h2 j hj; rcases Nat.lt_succ_iff_lt_or_eq.1 hj with h | h; (exact hk.2 j h); (subst h; assumption)) | (rw [hz (.inr (by assumption))]; done) | (rw [hz (.inl (by omega))]; done) | trace_state
  · have hln := lft_no hok
    refine go (r := ?_); and_intros <;> intros <;> try exact True.intro
    all_goals first | (rw [hz (.inl (by omega))]; done) | trace_state⟩
instance ReadUe_c : Con 139 (∀ (p : List UInt8) (s : Int), p.length ≤ 1099511627776 → Fn 139 [RA p s] [] (.tup [RA p (ueA p s), I (ueV p s), I (ueC p s)])) := ⟨fun p s hl => by
  have hb := lft_bd p s
  have hz := zrs_le p s
  have hv := rbV_bd p s (2 * (zrs p s : Int) + 1)
  refine FnC.of_body tabOk Try.func139 Try.ntmps139 rfl (by decide +kernel) (by simp) fun G => ?_
  by_cases h15 : zrs p s ≤ 15
  · by_cases hok : RbOk p s (2 * (zrs p s : Int) + 1)
    · obtain ⟨e1, e2, e3⟩ := ue_yes h15 hok
      obtain ⟨e4, e5⟩ := rb_yes hok
      refine go (r := ?_); and_intros <;> intros <;> try exact True.intro
      all_goals first | (exact absurd hok (by assumption)) | (exfalso; omega) | (rw [e1, e4]; done) | (rw [e3, e5]; done) | (rw [e2]; done) | trace_state
    · obtain ⟨e1, e2, e3⟩ := ue_short h15 hok
      refine go (r := ?_); and_intros <;> intros <;> try exact True.intro
      all_goals first | (exact absurd (by assumption) hok) | (exfalso; omega) | (rw [e1]; done) | (rw [e3]; done) | (rw [e2]; done) | trace_state
  · obtain ⟨e1, e2, e3⟩ := ue_code (s := s) (p := p) h15
    refine go (r := ?_); and_intros <;> intros <;> try exact True.intro
    all_goals first | (exfalso; omega) | (rw [e1]; done) | (rw [e3]; done) | (rw [e2]; done) | trace_state⟩
instance ReadUe_s : Con 237 (∀ (p : List UInt8) (s : Int), p.length ≤ 1099511627776 → Fn 237 [RA p s] [] (.tup [RA p (ueA p s), I (ueV p s), I (ueC p s)])) := ⟨fun p s hl => by
  have hb := lft_bd p s
  have hz := zrs_le p s
  have hv := rbV_bd p s (2 * (zrs p s : Int) + 1)
  refine FnC.of_body tabOk Try.func237 Try.ntmps237 rfl (by decide +kernel) (by simp) fun G => ?_
  by_cases h15 : zrs p s ≤ 15
  · by_cases hok : RbOk p s (2 * (zrs p s : Int) + 1)
    · obtain ⟨e1, e2, e3⟩ := ue_yes h15 hok
      obtain ⟨e4, e5⟩ := rb_yes hok
      refine go (r := ?_); and_intros <;> intros <;> try exact True.intro
      all_goals first | (exact absurd hok (by assumption)) | (exfalso; omega) | (rw [e1, e4]; done) | (rw [e3, e5]; done) | (rw [e2]; done) | trace_state
    · obtain ⟨e1, e2, e3⟩ := ue_short h15 hok
      refine go (r := ?_); and_intros <;> intros <;> try exact True.intro
      all_goals first | (exact absurd (by assumption) hok) | (exfalso; omega) | (rw [e1]; done) | (rw [e3]; done) | (rw [e2]; done) | trace_state
  · obtain ⟨e1, e2, e3⟩ := ue_code (s := s) (p := p) h15
    refine go (r := ?_); and_intros <;> intros <;> try exact True.intro
    all_goals first | (exfalso; omega) | (rw [e1]; done) | (rw [e3]; done) | (rw [e2]; done) | trace_state⟩
instance LevelOf_c : Con 220 (∀ n : Int, -4611686018427387904 ≤ n ∧ n ≤ 4611686018427387904 → Fn 220 [I n] [] (I (lvOf n))) := ⟨fun n h => by
  refine FnC.of_body tabOk Try.func220 Try.ntmps220 rfl (by decide +kernel) (by simp) fun G => ?_
  refine go (r := ?_); and_intros <;> intros <;> try exact True.intro
  · rw [lvOf, if_pos (by assumption)]
  · rw [lvOf, if_neg (by omega), if_pos (by assumption)]
  · rw [lvOf, if_neg (by omega), if_neg (by assumption)]; omega⟩
instance LevelOf_s : Con 251 (∀ n : Int, -4611686018427387904 ≤ n ∧ n ≤ 4611686018427387904 → Fn 251 [I n] [] (I (lvOf n))) := ⟨fun n h => by
  refine FnC.of_body tabOk Try.func251 Try.ntmps251 rfl (by decide +kernel) (by simp) fun G => ?_
  refine go (r := ?_); and_intros <;> intros <;> try exact True.intro
  · rw [lvOf, if_pos (by assumption)]
  · rw [lvOf, if_neg (by omega), if_pos (by assumption)]
  · rw [lvOf, if_neg (by omega), if_neg (by assumption)]⟩
end Go.Proofs.Ytgkeopmihhcbiaa
