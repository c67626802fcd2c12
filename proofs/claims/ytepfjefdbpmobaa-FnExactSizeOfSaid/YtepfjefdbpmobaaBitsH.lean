/- Contract: bits of headers by the program. No condition. -/
import Derived.Test.YtepfjefdbpmobaaBitsM
namespace Go.Proofs.Ytepfjefdbpmobaa
open Go Go.Abs
set_option linter.unusedVariables false
set_option linter.unusedSimpArgs false
set_option maxRecDepth 100000
set_option maxHeartbeats 4000000
attribute [local irreducible] WpA WpL Rnd Blk Abs.Seq Abs.Fin Abs.FinG FnC FnG Only

attribute [local irreducible] bitsL ueL
theorem hd_ws {w h : Int} (hs : SidesOk w h) : (0 ≤ w / 8 - 1 ∧ w / 8 - 1 ≤ 65534) ∧ (0 ≤ h / 8 - 1 ∧ h / 8 - 1 ≤ 65534) := by
  have := hs; unfold SidesOk at this; omega
instance HeaderBits_c : Con 144 (∀ (w h q : Int) (b d : Bool) (l : List Int), l.length ≤ 1099511627776 ∧ HdOk w h q l → Fn 144 [HdA w h q b d l] [XI (hdL w h q b d l)] (.own 0 0 0 (hdL w h q b d l).length)) := ⟨fun w h q b d l hl => by
  have h1 := bitsL_len 183 8
  have h2 := ueL_len (w / 8 - 1)
  have h3 := ueL_len (h / 8 - 1)
  have h4 := bitsL_len q 6
  have h0 := hl.2
  have he : hdL w h q b d l = hdK w h q b d l l.length := by rw [hdL, if_pos h0]
  have h6 := h0.2.2.2.1
  have hs := h0.1
  have hq := h0.2.1
  have hws := hd_ws hs
  have hfl : [bitsL 183 8, ueL (w / 8 - 1), ueL (h / 8 - 1), bitsL q 6, [bif b then 1 else 0, bif d then 1 else 0]].flatten = hdK w h q b d l 0 := by simp [hdK, hdB]
  have hsm : [bitsL 183 8, ueL (w / 8 - 1), ueL (h / 8 - 1), bitsL q 6, [bif b then (1 : Int) else 0, bif d then 1 else 0]].length ≤ 1024 ∧ SmL 1048576 [bitsL 183 8, ueL (w / 8 - 1), ueL (h / 8 - 1), bitsL q 6, [bif b then (1 : Int) else 0, bif d then 1 else 0]] := ⟨by simp, smL_cons (by omega) (smL_cons (by omega) (smL_cons (by omega) (smL_cons (by omega) (smL_cons (by simp) (smL_nil _)))))⟩
  refine FnC.of_body tabOk Try.func144 Try.ntmps144 rfl (by decide +kernel) (by simp) fun G => ?_
  refine goR (r := ?_); and_intros <;> intros <;> try exact True.intro
  all_goals first | (exact absurd h0 (by assumption)) | skip
  apply WpA.regionQ1 21 5 mixed (by decide +kernel)
  · exact rfl
  · apply HeadQ.consF (V := .own 1 1 0 (bitsL 183 8).length) (.put 0 (XD (bitsL 183 8))) rfl
    · exact rfl
    · intro Tv Ov hc hp hd hk
      refine K.call ?_
      refine K.con (fun hcon => ?_)
      refine WpL.callF (hcon 183 8 (by decide)) snapA locA outA (cnt_some _ 0) rfl rfl (by decide) ?_
      rw [Nat.zero_add]
      apply WpL.putNil (p := 0)
      · exact hp 0 _ rfl
      · exact Nat.zero_le _
      · exact rfl
      · first | exact still_ints _ | exact still_rows (fun _ => rfl) _ | rfl
    · exact rfl
    · exact rfl
    apply HeadQ.consF .none rfl
    · exact rfl
    · exact in1
    · exact rfl
    · exact rfl
    apply HeadQ.consF .none rfl
    · exact rfl
    · exact in1
    · exact rfl
    · exact rfl
    apply HeadQ.consF .none rfl
    · exact rfl
    · exact in1
    · exact rfl
    · exact rfl
    apply HeadQ.consF .none rfl
    · exact rfl
    · exact in1
    · exact rfl
    · exact rfl
    apply HeadQ.consF (V := .own 2 1 0 (ueL (w / 8 - 1)).length) (.put 1 (XD (ueL (w / 8 - 1)))) rfl
    · exact rfl
    · intro Tv Ov hc hp hd hk
      refine K.call ?_
      refine K.con (fun hcon => ?_)
      refine WpL.callF (hcon (w / 8 - 1) hws.1) snapA locA outA (cnt_some _ 0) rfl rfl (by decide) ?_
      rw [Nat.zero_add]
      apply WpL.putNil (p := 1)
      · exact hp 1 _ rfl
      · exact Nat.zero_le _
      · exact rfl
      · first | exact still_ints _ | exact still_rows (fun _ => rfl) _ | rfl
    · exact rfl
    · exact rfl
    apply HeadQ.consF .none rfl
    · exact rfl
    · exact in1
    · exact rfl
    · exact rfl
    apply HeadQ.consF .none rfl
    · exact rfl
    · exact in1
    · exact rfl
    · exact rfl
    apply HeadQ.consF .none rfl
    · exact rfl
    · exact in1
    · exact rfl
    · exact rfl
    apply HeadQ.consF .none rfl
    · exact rfl
    · exact in1
    · exact rfl
    · exact rfl
    apply HeadQ.consF (V := .own 3 1 0 (ueL (h / 8 - 1)).length) (.put 2 (XD (ueL (h / 8 - 1)))) rfl
    · exact rfl
    · intro Tv Ov hc hp hd hk
      refine K.call ?_
      refine K.con (fun hcon => ?_)
      refine WpL.callF (hcon (h / 8 - 1) hws.2) snapA locA outA (cnt_some _ 0) rfl rfl (by decide) ?_
      rw [Nat.zero_add]
      apply WpL.putNil (p := 2)
      · exact hp 2 _ rfl
      · exact Nat.zero_le _
      · exact rfl
      · first | exact still_ints _ | exact still_rows (fun _ => rfl) _ | rfl
    · exact rfl
    · exact rfl
    apply HeadQ.consF .none rfl
    · exact rfl
    · exact in1
    · exact rfl
    · exact rfl
    apply HeadQ.consF .none rfl
    · exact rfl
    · exact in1
    · exact rfl
    · exact rfl
    apply HeadQ.consF (V := .own 4 1 0 (bitsL q 6).length) (.put 3 (XD (bitsL q 6))) rfl
    · exact rfl
    · intro Tv Ov hc hp hd hk
      refine K.call ?_
      refine K.con (fun hcon => ?_)
      refine WpL.callF (hcon q 6 (by omega)) snapA locA outA (cnt_some _ 0) rfl rfl (by decide) ?_
      rw [Nat.zero_add]
      apply WpL.putNil (p := 3)
      · exact hp 3 _ rfl
      · exact Nat.zero_le _
      · exact rfl
      · first | exact still_ints _ | exact still_rows (fun _ => rfl) _ | rfl
    · exact rfl
    · exact rfl
    apply HeadQ.consF .none rfl
    · exact rfl
    · exact in1
    · exact rfl
    · exact rfl
    apply HeadQ.consF .none rfl
    · exact rfl
    · exact in1
    · exact rfl
    · exact rfl
    apply HeadQ.consF .none rfl
    · exact rfl
    · exact in0
    · exact rfl
    · exact rfl
    apply HeadQ.consF .none rfl
    · exact rfl
    · exact in1
    · exact rfl
    · exact rfl
    apply HeadQ.consF .none rfl
    · exact rfl
    · exact in1
    · exact rfl
    · exact rfl
    apply HeadQ.consF .none rfl
    · exact rfl
    · exact in0
    · exact rfl
    · exact rfl
    apply HeadQ.consF (V := .own 5 1 0 2) (.put 4 (XD [bif b then 1 else 0, bif d then 1 else 0])) rfl
    · exact rfl
    · intro Tv Ov hc hp hd hk
      refine WpL.litInts tabOk rfl rfl rfl rfl rfl (by decide) (by rw [nid_len, Nat.zero_add]) (by decide) ?_
      apply WpL.putNil (p := 4)
      · exact hp 4 _ rfl
      · exact Nat.zero_le _
      · exact rfl
      · first | exact still_ints _ | exact still_rows (fun _ => rfl) _ | rfl
    · exact rfl
    · exact rfl
    exact HeadQ.nil
  · exact rfl
  · exact rfl
  · exact rfl
  · exact rfl
  · exact rfl
  · exact rfl
  · exact rfl
  · exact rfl
  generalize bitsL 183 8 = L1 at *
  generalize ueL (w / 8 - 1) = L2 at *
  generalize ueL (h / 8 - 1) = L3 at *
  generalize bitsL q 6 = L4 at *
  refine goR (r := ?_); and_intros <;> intros <;> try exact True.intro
  (apply WpL.nestLis (id := 11) (cs2 := [.fre 1 _ _, .fre 1 _ _, .fre 1 _ _, .fre 1 _ _, .fre 1 _ _]) (O3 := [BoxH w h q b d l, DD, DD, DD, DD, DD, deadO, deadO, deadO, deadO, deadO, ⟨rows liF [L1, L2, L3, L4, [bif b then 1 else 0, bif d then 1 else 0]], 0, 1, some 22⟩]) [0, 1, 2, 3, 4]
   · repeat' (first
       | exact NestC.nil
       | (apply NestC.consF
          · exact rfl
          · exact rfl
          · exact rfl
          · exact rfl
          · first | exact Nat.zero_le _ | exact Nat.le_of_ble_eq_true rfl
          · exact still_ints _
          · first | (simp; done) | rfl
          · exact rfl
          · exact rfl))
   · exact rfl
   · repeat' (first
       | exact ToLis.nil
       | (apply ToLis.cons
          · exact rfl
          · first | rfl | (simp; done)))
   · exact rfl)
  refine K.call ?_
  refine K.con (fun hcon => ?_)
  refine WpL.callF (hcon [L1, L2, L3, L4, [bif b then 1 else 0, bif d then 1 else 0]] hsm) snapA locA outA rfl rfl rfl (by decide) ?_
  clear hcon
  refine WpL.weak (Weak.fillF (j := 1) (O3 := [BoxH w h q b d l, ⟨ints [L1, L2, L3, L4, [bif b then 1 else 0, bif d then 1 else 0]].flatten, 3, 1, some 3⟩, DD, DD, DD, DD, deadO, deadO, deadO, deadO, deadO, ⟨rows liF [L1, L2, L3, L4, [bif b then 1 else 0, bif d then 1 else 0]], 0, 1, some 22⟩, deadO]) rfl rfl rfl (Nat.zero_le _) rfl (still_ints _) rfl rfl) ?_
  rw [hfl]
  refine go (r := ?_); and_intros <;> intros <;> try exact True.intro
  refine WpA.loop (fun k : Nat => ⟨[(3, .own 1 0 0 (hdK w h q b d l k).length), (33, IL l), (34, I l.length), (35, I k)], [BoxH w h q b d l, XI (hdK w h q b d l k)]⟩) (fun k => k ≤ l.length) (fun k => l.length - k) 0 (by omega) (go (r := ?_)) (fun k hk => ?_)
  · trivial
  have hb := hdK_len w h q b d l k
  have hsc := fun hk => hdK_succ w h q b d l k hk
  have hbl := bitsL_len (l.getD k 0) 3
  have hin := fun hk => in_getH h0.2.2.1 (k := k) hk
  have hsl : k < l.length → (hdK w h q b d l (k + 1)).length = (hdK w h q b d l k).length + (bitsL (l.getD k 0) 3).length := fun hk => by rw [hsc hk]; simp only [List.length_append]
  refine go (r := ?_); and_intros <;> intros <;> try exact True.intro
  all_goals first | (rw [hsc (by omega)]; done) | skip
  all_goals have ek : k = l.length := by omega
  all_goals subst ek
  all_goals rw [he]⟩

end Go.Proofs.Ytepfjefdbpmobaa
