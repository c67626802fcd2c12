/- Proved in this text: lemmas and contracts of functions that the claim uses (parts: WkX, Bridge, Read, Read2, Read3). No condition. -/
import Derived.Test.YtpokokcgoebbhaaPwM14
import Derived.Test.YtpokokcgoebbhaaPwM15
import Derived.Test.YtpokokcgoebbhaaPwM2
import Derived.Below
import Derived.ChangeArms
import Derived.Test.YtpokokcgoebbhaaPwM3
import Derived.Test.YtpokokcgoebbhaaPwM9

/- The law FnWork: a stream has at most as many fields as bits, and as its macroblocks allow. No condition. -/
namespace Go.Proofs.Ytpokokcgoebbhaa
open Go Go.Abs
set_option linter.unusedVariables false
set_option linter.unusedSimpArgs false
set_option maxRecDepth 100000
set_option maxHeartbeats 4000000
attribute [local irreducible] WpA WpL Rnd Blk Abs.Seq Abs.Fin Abs.FinG FnC FnG FnX FnP FinX Only
attribute [local irreducible] belowD onceD pickD modeD l8D l8AnyD optD anyD seedD headD headAnyD symL HasC blkD mbD mbAnyD strD anySD

/-- What there is to see of a drawn stream. -/
abbrev StOz (s : Str8) (o : Bool) : AV := .agg [I s.hd.w, I s.hd.h, I s.hd.q, B s.hd.b, B s.hd.d, .own 0 0 0 s.hd.lens.length, drV 1 o s.ms.length]
def visM (x : Str8 × Bool) : List Mbk := bif x.2 then x.1.ms.drop 1 else x.1.ms
theorem bw_sml {l : List Blok} (h : ∀ b ∈ l, b.2.length ≤ 64) : bw l ≤ 65 * l.length := by
  induction l with
  | nil => simp [bw_nil]
  | cons b l ih =>
    have h1 := h b (by simp)
    have h2 := ih fun x hx => h x (by simp [hx])
    rw [bw_cons, List.length_cons]; omega
theorem mw_sml {l : List Mbk} (h : ∀ m ∈ l, MbG m) : mw l ≤ 261 * l.length := by
  induction l with
  | nil => simp [mw_nil]
  | cons m l ih =>
    have h1 := h m (by simp)
    have h2 := ih fun x hx => h x (by simp [hx])
    have h3 := bw_sml h1.2
    have h4 := h1.1
    rw [mw_cons, List.length_cons]; omega
theorem mw_seen {M : List Mbk} (h : ∀ m ∈ M, MbG m) (hl : M.length ≤ 16) : mw M ≤ 1048576 := by
  have := mw_sml h; omega
theorem anySD_ok {l : List Int} {c : Cr} (h : CrOk l c) : CrOk l (anySD l c).1 ∧ (anySD l c).2.1.hd.lens.length ≤ 6 ∧ (anySD l c).2.1.ms.length ≤ 16 ∧ (∀ m ∈ (anySD l c).2.1.ms, MbG m) ∧
    ((anySD l c).2.2 = true → 0 < (anySD l c).2.1.ms.length ∧ ¬ StOk (anySD l c).2.1.hd.w (anySD l c).2.1.hd.h (anySD l c).2.1.hd.q (anySD l c).2.1.hd.lens ((anySD l c).2.1.ms.drop 1)) := by
  have hs := strD_ok h
  have hk := belowD_ok 14 hs.1
  have hcm := cntM_bd hs.2.2.1
  have h16 : (strD l c).2.ms.length ≤ 16 := by have := hs.2.2.2.1; omega
  have h6 : (strD l c).2.hd.lens.length ≤ 6 := by have := hs.2.1; omega
  have hpos : 0 < (strD l c).2.ms.length := by
    have h8 := hs.2.2.1
    have hln := hs.2.2.2.1
    have h9 := Int.mul_pos (show 0 < (strD l c).2.hd.w / 8 by omega) (show 0 < (strD l c).2.hd.h / 8 by omega)
    unfold cntM at hln
    omega
  unfold anySD
  split
  · have ha := headAnyD_ok hk.1
    exact ⟨ha.1, ha.2, h16, hs.2.2.2.2, fun hh => by cases hh⟩
  split
  · have hm := mbAnyD_ok (lens := (strD l c).2.hd.lens) hk.1
    refine ⟨hm.1, h6, by simp only [List.length_set]; exact h16, fun m hm2 => ?_, fun hh => by cases hh⟩
    rcases List.mem_or_eq_of_mem_set hm2 with h1 | h1
    · exact hs.2.2.2.2 m h1
    · rw [h1]; exact hm.2
  split
  · refine ⟨hk.1, h6, h16, hs.2.2.2.2, fun _ => ⟨hpos, fun ho => ?_⟩⟩
    have h1 : (((strD l c).2.ms.drop 1).length : Int) = cntM (strD l c).2.hd.w (strD l c).2.hd.h := ho.2.1
    have h2 := hs.2.2.2.1
    simp only [List.length_drop] at h1
    omega
  · exact ⟨hk.1, h6, h16, hs.2.2.2.2, fun hh => by cases hh⟩
theorem mcB_in2 {bs : List Blok} : ∀ (k : Nat), k ≤ bs.length → ∀ {c : List Int} {n : Int}, c.length = 6 → In c 0 n → In (mcB c bs k) 0 (n + k)
  | 0, _, c, n, _, h => by simpa [mcB] using h
  | k + 1, hk, c, n, hc, h => by
    rw [mcB_succ c bs k (by omega)]
    have := addAt_in (m := (bs.getD k default).1) (mcB_in2 (bs := bs) k (by omega) hc h) (by rw [mcB_len]; exact hc)
    have e : n + ((k + 1 : Nat) : Int) = n + k + 1 := by omega
    rw [e]; exact this
theorem mcM_in2 {M : List Mbk} (h : ∀ m ∈ M, MbG m) : ∀ k, k ≤ M.length → In (mcM M k) 0 (4 * k)
  | 0, _ => by simp [mcM, In]
  | k + 1, hk => by
    have hm : M.getD k default ∈ M := by
      rw [List.getD_eq_getElem?_getD, List.getElem?_eq_getElem (by omega : k < M.length)]; exact List.getElem_mem _
    have h4 := (h _ hm).1
    rw [mcM_succ M k (by omega)]
    have := mcB_in2 (bs := (M.getD k default).2) _ (Nat.le_refl _) (mcM_len M k) (mcM_in2 h k (by omega))
    unfold In at *
    intro v hv
    have := this v hv; omega
theorem ps_bd {l : List Int} {c : Int} (h : In l 0 c) (hc : 0 ≤ c) : ∀ k, k ≤ l.length → 0 ≤ psum l k ∧ psum l k ≤ c * k
  | 0, _ => by simp [psum]
  | k + 1, hk => by
    have h1 := in_get h (k := k) (by omega)
    have h2 := ps_bd h hc k (by omega)
    have e : c * ((k + 1 : Nat) : Int) = c * k + c := by rw [Int.natCast_add, Int.mul_add]; simp
    rw [psum_succ l k (by omega), e]; omega
theorem bk_bd {M : List Mbk} (h : ∀ m ∈ M, MbG m) : ∀ k, k ≤ M.length → tk (fun m : Mbk => m.2.length) M k ≤ 4 * k
  | 0, _ => by simp [tk]
  | k + 1, hk => by
    have hm : M.getD k default ∈ M := by
      rw [List.getD_eq_getElem?_getD, List.getElem?_eq_getElem (by omega : k < M.length)]; exact List.getElem_mem _
    have h4 := (h _ hm).1
    have := bk_bd h k (by omega)
    rw [tk_succ _ M k (by omega)]
    omega
theorem DrawWorkOf_p (v : Value) (l : List Int) (hl : l.length ≤ 1048576) : FnP Try.prog 6 [.sc v] [] [v] [CodA l] [] [XI (anySD l (newD l)).2.1.hd.lens, MbO (anySD l (newD l)).2.1.ms] (StOz (anySD l (newD l)).2.1 (anySD l (newD l)).2.2) := by
  have hn := newD_ok hl
  have hany := l24Any_p.ok v l (newD l) hn
  generalize anySD l (newD l) = A at *
  obtain ⟨c0, s, o⟩ := A
  unfold Pn StO at hany
  unfold StOz
  dsimp only at hany ⊢
  have key : ∀ V2 V1, drV 2 o s.ms.length = V2 → drV 1 o s.ms.length = V1 → ((V2 = .own 2 0 0 s.ms.length ∧ V1 = .own 1 0 0 s.ms.length) ∨ (V2 = .own 2 0 2 (s.ms.length - 1) ∧ V1 = .own 1 0 2 (s.ms.length - 1)) ∨ (V2 = .imm 2 ([] : List Mbk).length (rows mbI []) ∧ V1 = .imm 2 ([] : List Mbk).length (rows mbI []))) := by
    rintro V2 V1 rfl rfl
    cases o with
    | false => exact .inl ⟨rfl, rfl⟩
    | true =>
      by_cases hle : s.ms.length ≤ 1
      · rw [drV_1 hle, drV_1 hle]; exact .inr (.inr ⟨rfl, rfl⟩)
      · rw [drV_2 hle, drV_2 hle]; exact .inr (.inl ⟨rfl, rfl⟩)
  generalize h2 : drV 2 o s.ms.length = V2 at hany
  generalize h1 : drV 1 o s.ms.length = V1
  have hk := key V2 V1 h2 h1
  clear key h1 h2
  rcases hk with ⟨rfl, rfl⟩ | ⟨rfl, rfl⟩ | ⟨rfl, rfl⟩
  all_goals refine FnP.of_body tabOk Try.func6 Try.ntmps6 rfl (by decide +kernel) (by simp) rfl rfl rfl fun G hp => ?_
  all_goals refine goR (r := ?_); and_intros <;> intros <;> try exact True.intro
  all_goals
    refine K.call ?_
    refine WpL.callN (l1New_p v l hl) hp handA (.cons rfl (.sc (.sc (.sc .nil))) .nil) rfl rfl (by decide) ?_
    refine goR (r := ?_); and_intros <;> intros <;> try exact True.intro
    refine K.call ?_
    refine WpL.callP (hs := [1]) hany (by assumption) handA handOA rfl rfl (.cons rfl (.sc (.sc (.sc .nil))) .nil) outA rfl rfl rfl rfl (by decide) ?_
    refine goR (r := ?_); and_intros <;> intros <;> try exact True.intro
    all_goals first | contradiction | omega | exact hn.2.1 | exact hn.2.2 | skip
    first
      | exact FinG.oI [some 2, some 3] rfl (ResV.cell (ds := [_, _, _, _, _, _, _]) rfl rfl rfl rfl rfl) (.agg (.keep rfl rfl rfl (.keep rfl rfl rfl (.keep rfl rfl rfl (.keep rfl rfl rfl (.keep rfl rfl rfl (.own rfl rfl rfl rfl (.own rfl rfl rfl rfl .nil))))))) .nil) (.obj rfl rfl (still_ints _) rfl rfl (.inr rfl) (.obj rfl rfl (still_rows (fun _ => rfl) _) rfl rfl (.inr rfl) .nil)) rfl rfl
      | exact FinG.oI [some 2, some 3] rfl (ResV.cell (ds := [_, _, _, _, _, _, _]) rfl rfl rfl rfl rfl) (.agg (.keep rfl rfl rfl (.keep rfl rfl rfl (.keep rfl rfl rfl (.keep rfl rfl rfl (.keep rfl rfl rfl (.own rfl rfl rfl rfl (.keep rfl rfl rfl .nil))))))) .nil) (.obj rfl rfl (still_ints _) rfl rfl (.inr rfl) (.obj rfl rfl (still_rows (fun _ => rfl) _) rfl rfl (.inr rfl) .nil)) rfl rfl
      | trace_state
instance DrawWorkOf_c : Con 6 (∀ l : List Int, l.length ≤ 1048576 → Fn 6 [CodA l] [XI (anySD l (newD l)).2.1.hd.lens, MbO (anySD l (newD l)).2.1.ms] (StOz (anySD l (newD l)).2.1 (anySD l (newD l)).2.2)) := ⟨fun l hl => FnC.of_pin fun v => DrawWorkOf_p v l hl⟩
/-- What is drawn nobody turns. -/
theorem any_i {f : Nat} {l : List Int} {s : Str8} {o : Bool} (hc : Fn f [CodA l] [XI s.hd.lens, MbO s.ms] (StOz s o)) : Fn f [CodA l] [] (StA s.hd.w s.hd.h s.hd.q s.hd.b s.hd.d s.hd.lens (visM (s, o))) := by
  have hlen : ∀ m : List Mbk, m.length * 2 = (rows Abs.mbF m).length := fun m => (rows_len (f := Abs.mbF) (k := 2) (fun _ => rfl) m).symm
  refine FnC.still hc (.agg (.keep rfl rfl (.keep rfl rfl (.keep rfl rfl (.keep rfl rfl (.keep rfl rfl (.own rfl rfl rfl (by simp) rfl (Snap.same rfl (still_ints _) (nofre_ints _)) ?_)))))) .nil)
  cases o with
  | false => exact .own rfl rfl rfl (hlen _) rfl (Snap.rows snap_mb _) .nil
  | true =>
    by_cases hle : s.ms.length ≤ 1
    · rw [drV_1 hle]
      have e : s.ms.drop 1 = [] := List.drop_eq_nil_of_le hle
      show Snap _ _ [.imm 2 (s.ms.drop 1).length (rows mbI (s.ms.drop 1))]
      rw [e]
      exact .keep rfl rfl .nil
    · rw [drV_2 hle]
      exact Snap.ownR1 rfl (fun _ => rfl) snap_mb (by simp) (by show _ = (s.ms.drop 1).length; simp) .nil
theorem vis_ok {s : Str8} {o : Bool} (h16 : s.ms.length ≤ 16) (hmg : ∀ m ∈ s.ms, MbG m) : (visM (s, o)).length ≤ 16 ∧ (∀ m ∈ visM (s, o), MbG m) ∧ mw (visM (s, o)) ≤ 1048576 ∧ SmM 1099511627776 (visM (s, o)) := by
  have h1 : (visM (s, o)).length ≤ 16 := by
    cases o with
    | false => exact h16
    | true => show (s.ms.drop 1).length ≤ 16; simp; omega
  have h2 : ∀ m ∈ visM (s, o), MbG m := by
    cases o with
    | false => exact hmg
    | true => exact fun m hm => hmg m (List.mem_of_mem_drop hm)
  have h3 := mw_seen h2 h1
  exact ⟨h1, h2, h3, smM_of (by omega)⟩
theorem FnWork_c (l : List Int) (hl : l.length ≤ 9223372036854775807) : Fn 3 [CodA l] [] (B true) := by
  by_cases hb : (l.length : Int) > 1048576
  · refine FnC.of_body tabOk Try.func3 Try.ntmps3 rfl (by decide +kernel) (by simp) fun G => ?_
    refine go (r := ?_); and_intros <;> intros <;> try exact True.intro
  · have hl2 : l.length ≤ 1048576 := by omega
    obtain ⟨_, h6, h16, hmg, hdr⟩ := anySD_ok (newD_ok hl2)
    have hdc := any_i (DrawWorkOf_c.ok l hl2)
    have hv := vis_ok (o := (anySD l (newD l)).2.2) h16 hmg
    refine FnC.of_body tabOk Try.func3 Try.ntmps3 rfl (by decide +kernel) (by simp) fun G => ?_
    generalize anySD l (newD l) = A at *
    obtain ⟨c0, ⟨⟨w, h, q, b, d, L⟩, M0⟩, o⟩ := A
    simp only at h6 hdc hv
    clear h16 hmg hdr
    generalize visM ({ hd := { w := w, h := h, q := q, b := b, d := d, lens := L }, ms := M0 }, o) = M at *
    obtain ⟨h16, hmg, hmw, hsm⟩ := hv
    by_cases hok : StOk w h q L M
    · have hd := decide_eq_true hok
      have hm6 := mcM_len M M.length
      have hmi : In (mcM M M.length) 0 64 := by
        have := mcM_in2 hmg M.length (Nat.le_refl _)
        unfold In at *
        intro v hv
        have := this v hv; omega
      have hmc := modes_all hok
      have hbd := bk_bd hmg M.length (Nat.le_refl _)
      rw [tk_all] at hbd
      have hbs : (bks M : Nat) ≤ 64 := by unfold bks; omega
      have w1 := work_size (b := b) (d := d) hok
      have w2 := work_mbs (w := w) (h := h) (q := q) (l := L) (M := M)
      have w3 := nz_pix hok
      have w4 : (sizeL w h q b d L M + 8) / 8 = ((unpS w h q b d L M).length : Int) := by
        unfold sizeL unpS
        rw [if_pos hok, if_pos hok, stopS_len]; omega
      have hwl : 0 ≤ workL w h q L M ∧ workL w h q L M ≤ sizeL w h q b d L M := ⟨by unfold workL; rw [if_pos hok]; omega, w1⟩
      have hsz : sizeL w h q b d L M ≤ 600000 := by
        have := stK_small (b := b) (d := d) hok
        unfold sizeL; rw [if_pos hok]; omega
      have hsd := hok.1.1
      refine goR (r := ?_); and_intros <;> intros <;> try exact True.intro
      all_goals first | contradiction | omega | skip
      refine K.call ?_
      apply WpL.callK hdc
      · exact .keep rfl rfl .nil
      · decide
      refine goR (r := ?_); and_intros <;> intros <;> try exact True.intro
      all_goals first | contradiction | omega | exact hsm | skip
      refine WpA.loop (fun k : Nat => ⟨[(3, .ptr 0 0 0), (4, I (workL w h q L M)), (5, .own 1 0 0 6), (6, I (psum (mcM M M.length) k)), (7, I k)], [⟨[I w, I h, I q, B b, B d, IL L, MbL M], 0, 0, none⟩, XI (mcM M M.length)]⟩) (fun k => k ≤ 6) (fun k => 6 - k) 0 (by omega) (go (r := ?_)) (fun k hk => ?_)
      · and_intros <;> first | exact True.intro | rfl | exact (psum_zero _).symm | trace_state
      have hps := ps_bd hmi (by omega) k (by omega)
      have hps1 := fun hh => psum_succ (mcM M M.length) k hh
      by_cases hlt : k < 6
      · have hg := in_get hmi (k := k) (by omega)
        refine goR (r := ?_); and_intros <;> intros <;> try exact True.intro
        all_goals first | contradiction | omega | (rw [Int.toNat_natCast, wrap64 _ (by omega)]; exact (hps1 (by omega)).symm) | trace_state
      · obtain rfl : k = 6 := by omega
        have hpa : psum (mcM M M.length) 6 = (bks M : Nat) := by
          have := psum_all (mcM M M.length)
          rw [hm6] at this
          rw [this, hmc]
        rw [hpa]
        refine goR (r := ?_); and_intros <;> intros <;> try exact True.intro
        all_goals first | contradiction | omega | skip
        refine WpA.loop (fun k : Nat => ⟨[(3, .ptr 0 0 0), (4, I (workL w h q L M)), (6, I (bks M : Nat)), (8, I (tk (fun m : Mbk => m.2.length) M k : Nat)), (9, I k)], [⟨[I w, I h, I q, B b, B d, IL L, MbL M], 0, 0, none⟩]⟩) (fun k => k ≤ M.length) (fun k => M.length - k) 0 (by omega) (go (r := ?_)) (fun k hk => ?_)
        · and_intros <;> first | exact True.intro | rfl | trace_state
        have hbk := bk_bd hmg k hk
        have htk := fun hh => tk_succ (fun m : Mbk => m.2.length) M k hh
        by_cases hlt : k < M.length
        · have hm4 : (M.getD k default).2.length ≤ 4 := (hmg _ (by rw [List.getD_eq_getElem?_getD, List.getElem?_eq_getElem hlt]; exact List.getElem_mem _)).1
          have htk := htk hlt
          refine goR (r := ?_); and_intros <;> intros <;> try exact True.intro
          all_goals first | contradiction | omega | (rw [wrap64 _ (by omega), htk]; omega) | trace_state
        · obtain rfl : k = M.length := by omega
          have hta : tk (fun m : Mbk => m.2.length) M M.length = bks M := tk_all _ _
          rw [hta]
          refine goR (r := ?_); and_intros <;> intros <;> try exact True.intro
          all_goals first | contradiction | omega | skip
          have w2b : workL w h q L M ≤ 7 + M.length * 9 + (bks M : Nat) * 3 + 2 * ((M.map nzM).sum : Nat) := w2
          have w3b : (((M.map nzM).sum : Nat) : Int) ≤ w * h := w3
          have hwh : 0 ≤ w * h ∧ w * h ≤ 1024 := ⟨Int.mul_nonneg (by omega) (by omega), by have := Int.mul_le_mul (show w ≤ 32 by omega) (show h ≤ 32 by omega) (by omega) (by omega); omega⟩
          try dsimp only [List.append]
          apply WpA.regionMG 52 mixed (by decide +kernel)
          · exact rfl
          · exact headG
          · exact trueA
          · exact trueA
          · exact rfl
          · exact rfl
          refine go (r := ?_); and_intros <;> intros <;> try exact True.intro
          all_goals trace_state
    · have hd := decide_eq_false hok
      have hw0 : workL w h q L M = 0 := by unfold workL; rw [if_neg hok]
      have hs0 : sizeL w h q b d L M = 0 := by unfold sizeL; rw [if_neg hok]
      refine goR (r := ?_); and_intros <;> intros <;> try exact True.intro
      all_goals first | contradiction | omega | skip
      refine K.call ?_
      apply WpL.callK hdc
      · exact .keep rfl rfl .nil
      · decide
      refine goR (r := ?_); and_intros <;> intros <;> try exact True.intro
      all_goals first | contradiction | omega | exact hsm | (rw [hw0]; rfl) | (rw [hs0]; rfl) | trace_state
end Go.Proofs.Ytpokokcgoebbhaa

/- From a contract to the form that a row's shell asks for. No condition. -/
namespace Go.Abs
open Go Go.RowKit
set_option linter.unusedVariables false

theorem FnC.walk {P : Program} {f : FuncId} {args : List AV} {N : List AObj} {x : Value} (hc : FnC P f args N (.sc x)) {w : World} {S : Nat → Prop} {vs : List Value} (hS : ∀ b, S b → b < w.heap.size)
    (hl : LRel S w (fun _ => none) [] args vs []) : Calls P f vs.toArray w fun e w' => e = .returned x ∧ Below w.heap.size w w' := by
  refine (hc.2 w S vs hS hl).mono fun e w' h => ?_
  obtain ⟨v, S', ι, F, rfl, _, _, _, _, _, hv, hk⟩ := h
  cases hv with
  | sc r => exact ⟨rfl, hk.os, hk.tape, hk.output, hk.size, fun b hb => hk.block b hb (fun h => h)⟩

theorem spot_none {w : World} {x : Addr} {n : Nat} (h : 0 < n) (hc : ∀ i, i < n → ∃ v, w.cell? (x.add i) = some v) : x.spot = none := by
  obtain ⟨v, hv⟩ := hc 0 h
  simpa [Addr.add] using World.cell?_spot hv

end Go.Abs

/- Reading what came in: a value of a plain shape (numbers, bools, strings, structs and slices of them) as an abstract value. No condition. -/
namespace Go.Abs
open Go Go.RowKit
set_option linter.unusedVariables false

inductive Sp where
  | int (k : IntKind) | bool | str | struct (fs : List Sp) | slice (k : Nat) (e : Sp)

mutual
inductive SpOk (P : Program) : TypeId → Sp → Prop
  | int {t k} : P.underlying t = some (.int k) → SpOk P t (.int k)
  | bool {t} : P.underlying t = some .bool → SpOk P t .bool
  | str {t} : P.underlying t = some .string → SpOk P t .str
  | struct {t fs sps n} : P.underlying t = some (.struct fs) → P.cellsOf t = n → SpF P 0 fs.toList sps n → SpOk P t (.struct sps)
  | slice {t e k sp} : P.underlying t = some (.slice e) → P.cellsOf e = k → 0 < k → SpOk P e sp → SpOk P t (.slice k sp)
inductive SpF (P : Program) : Nat → List Field → List Sp → Nat → Prop
  | nil {k} : SpF P k [] [] k
  | cons {k c f fs sp sps n} : f.offset = k → P.cellsOf f.type = c → SpOk P f.type sp → SpF P (k + c) fs sps n → SpF P k (f :: fs) (sp :: sps) n
end

mutual
inductive Rd : Sp → List AV → Prop
  | int {k n} : (Lit.int k n).wf = true → Rd (.int k) [.sc (.int k n)]
  | bool {b} : Rd .bool [.sc (.bool b)]
  | str {p : List UInt8} : p.length ≤ maxLen → Rd .str [.sc (.string ⟨p.toArray⟩)]
  | struct {sps cs} : RdF sps cs → Rd (.struct sps) cs
  | slice {sp len k cs} : len ≤ maxLen → RdN sp len k cs → Rd (.slice k sp) [.imm k len cs]
inductive RdF : List Sp → List AV → Prop
  | nil : RdF [] []
  | cons {sp sps a b} : Rd sp a → RdF sps b → RdF (sp :: sps) (a ++ b)
inductive RdN : Sp → Nat → Nat → List AV → Prop
  | nil {sp k} : RdN sp 0 k []
  | snoc {sp n k a b} : RdN sp n k a → Rd sp b → b.length = k → RdN sp (n + 1) k (a ++ b)
end

theorem RdN.len {sp n k cs} (h : RdN sp n k cs) : cs.length = n * k := by
  induction n generalizing cs with
  | zero => cases h; simp
  | succ n ih => cases h with | snoc h1 h2 h3 => rw [List.length_append, ih h1, h3, Nat.add_mul]; omega

section
variable {H : Type} {enc : TypeId × Value → H} {P : Program} {w : World} {base : Nat} {spare : Nat → Bool} {held : Bool}

theorem read {S : Nat → Prop} {ι : Nat → Spot} (hS : ∀ b, b < w.heap.size → S b) : ∀ (fuel : Nat) (t : TypeId) (sp : Sp) (cs : List Value) (x : DataW H × List MemPlace), SpOk P t sp →
    DataW.trod enc P w base spare held fuel t cs = some x → ∃ ds, Rd sp ds ∧ ∀ O, LRel S w ι O ds cs [] := by
  intro fuel
  induction fuel with
  | zero => intro t sp cs x _ h; simp [DataW.trod] at h
  | succ fuel ih =>
    intro t sp cs x hsp h
    cases hsp with
    | int ht =>
      obtain ⟨n, rfl, _, hw⟩ := DataW.trod_int ht h
      exact ⟨_, .int hw, fun O => .sc .nil⟩
    | bool ht =>
      obtain ⟨b, rfl, _⟩ := DataW.trod_bool ht h
      exact ⟨_, .bool, fun O => .sc .nil⟩
    | str ht =>
      obtain ⟨s, rfl, _, hs⟩ := DataW.trod_string ht h
      exact ⟨[.sc (.string ⟨s.data.toList.toArray⟩)], .str (by have : s.data.toList.length = s.size := rfl; omega), fun O => .sc .nil⟩
    | @struct _ fs sps n ht hn hf =>
      obtain ⟨xs, m, hm, _, hlen, hxl, hel⟩ := DataW.trod_struct ht h
      obtain rfl : fuel = m := by omega
      have key : ∀ (fl : List Field) (k : Nat) (sps : List Sp), SpF P k fl sps n → (∀ f ∈ fl, ∃ x, DataW.trod enc P w base spare held fuel f.type ((cs.drop f.offset).take (P.cellsOf f.type)) = some x) →
          k ≤ n → ∃ ds, RdF sps ds ∧ ∀ O, LRel S w ι O ds (cs.drop k) [] := by
        intro fl
        induction fl with
        | nil =>
          intro k sps hF _ _
          cases hF
          exact ⟨[], .nil, fun O => by rw [List.drop_eq_nil_of_le (by omega)]; exact .nil⟩
        | cons f fl ihf =>
          intro k sps hF hx hk
          cases hF with
          | cons h1 h2 h3 h4 =>
            obtain ⟨y, hy⟩ := hx f (by simp)
            obtain ⟨d1, r1, l1⟩ := ih _ _ _ _ h3 hy
            have hkn : ∀ {k fl sps}, SpF P k fl sps n → k ≤ n := by
              intro k fl
              induction fl generalizing k with
              | nil => intro sps h; cases h; exact Nat.le_refl _
              | cons f fl ih2 => intro sps h; cases h with | cons _ _ _ h => have := ih2 h; omega
            obtain ⟨d2, r2, l2⟩ := ihf _ _ h4 (fun g hg => hx g (by simp [hg])) (hkn h4)
            refine ⟨d1 ++ d2, .cons r1 r2, fun O => ?_⟩
            have e : cs.drop k = (cs.drop f.offset).take (P.cellsOf f.type) ++ cs.drop (k + P.cellsOf f.type) := by
              rw [h1, ← List.drop_drop, List.take_append_drop]
            rw [e, h2]
            rw [h2] at l1
            simpa using (l1 O).append (l2 O)
      obtain ⟨ds, r, l⟩ := key fs.toList 0 sps hf (fun f hf' => by
        obtain ⟨i, hi⟩ := List.getElem?_of_mem hf'
        have hi' : fs[i]? = some f := by simpa using hi
        have := hel i f hi'
        have hlt : i < xs.length := by have := (Array.getElem?_eq_some_iff.1 hi').1; omega
        exact ⟨xs[i], by rw [this]; simp [hlt]⟩) (Nat.zero_le _)
      exact ⟨ds, .struct r, fun O => by simpa using l O⟩
    | @slice _ e k sp ht hk hk0 he =>
      rcases DataW.trod_slice ht h with ⟨rfl, _⟩ | ⟨a, len, cap, elems, rest, m, hm, rfl, _, hb, hl, hc, hlen, hel, _, _⟩
      · exact ⟨[.imm k 0 []], .slice (by simp) .nil, fun O => .imm0 (by simp) .nil⟩
      obtain rfl : fuel = m := by omega
      have cells : ∀ j, j ≤ len → ∃ ds us, RdN sp j k ds ∧ us.length = j * k ∧ (∀ i, i < us.length → w.cell? (a.add i) = us[i]?) ∧ LRel S w ι [] ds us [] := by
        intro j
        induction j with
        | zero => intro _; exact ⟨[], [], .nil, by simp, by simp, .nil⟩
        | succ j ihj =>
          intro hj
          obtain ⟨ds, us, h1, h2, h3, h4⟩ := ihj (by omega)
          have hx := hel j (by omega)
          have hlt : j < elems.length := by omega
          rw [List.getElem?_eq_getElem hlt, Option.bind_eq_some_iff, hk] at hx
          obtain ⟨us2, hu, ht2⟩ := hx
          obtain ⟨d2, r2, l2⟩ := ih _ _ _ _ he ht2
          obtain ⟨_, c2, c3⟩ := World.cells?_some hu
          have l2' := l2 []
          have hd2 : d2.length = k := by rw [l2'.len, c2]
          refine ⟨ds ++ d2, us ++ us2, .snoc h1 r2 hd2, by rw [List.length_append, h2, c2, Nat.add_mul]; omega, fun i hi => ?_, by simpa using h4.append l2'⟩
          rw [List.length_append] at hi
          by_cases hlt2 : i < us.length
          · rw [h3 i hlt2, List.getElem?_append_left hlt2]
          · have hadd : a.add i = (a.add (j * k)).add (i - j * k) := by
              unfold Addr.add
              by_cases hz : j * k = 0
              · simp [hz]
              · by_cases hz2 : i - j * k = 0
                · have : i = j * k := by omega
                  simp [this]
                · rw [if_neg (by omega), if_neg hz, if_neg hz2]
                  simp only [Addr.mk.injEq, true_and, and_true]
                  omega
            rw [hadd, c3 (i - j * k) (by omega), List.getElem?_append_right (by omega), h2]
      obtain ⟨ds, us, h1, h2, h3, h4⟩ := cells len (Nat.le_refl _)
      refine ⟨[.imm k len ds], .slice (by omega) h1, fun O => ?_⟩
      by_cases h0 : len = 0
      · subst h0
        cases h1
        exact .imm0 ⟨by simp, hc⟩ .nil
      · have hul : 0 < us.length := by rw [h2]; exact Nat.mul_pos (by omega) hk0
        have hsp := spot_none (w := w) (x := a) (n := us.length) hul fun i hi => ⟨us[i], by rw [h3 i hi]; simp [hi]⟩
        obtain ⟨b, o, q⟩ := a
        simp only at hsp
        subst hsp
        have hcell : ∀ i, i < us.length → w.cell? ⟨b, o + i, none⟩ = us[i]? := fun i hi => by have := h3 i hi; rwa [addr_add] at this
        refine .imm (us := us) (hS _ ?_) hcell h4 (by rw [h1.len]) hl hc .nil
        by_cases hb' : b < w.heap.size
        · exact hb'
        · have := hcell 0 hul
          simp [World.cell?, Array.getElem?_eq_none (Nat.le_of_not_lt hb'), hul] at this
end
end Go.Abs

/- What a value that came in is: inversions of the readings by shape. No condition. -/
namespace Go.Abs
open Go Go.RowKit
set_option linter.unusedVariables false

abbrev i64 (n : Int) : Prop := -9223372036854775808 ≤ n ∧ n ≤ 9223372036854775807
abbrev spI : Sp := .int .i64
abbrev spIs : Sp := .slice 1 (.int .i64)
theorem lrel_cons0 {S : Nat → Prop} {w : World} {ι : Nat → Spot} {O : List AObj} {V : AV} {v : Value} {cs : List AV} {vs : List Value} (h1 : VRel S w ι O V v []) (h2 : LRel S w ι O cs vs []) : LRel S w ι O (V :: cs) (v :: vs) [] := LRel.cons h1 h2
end Go.Abs

/- What a value that came in is, further: options, headers, blocks, streams, neighbours, caches, entries, bytes. No condition. -/
namespace Go.Proofs.Ytpokokcgoebbhaa
open Go Go.Abs Go.RowKit
set_option linter.unusedVariables false

@[irreducible] def WfI (l : List Int) : Prop := ∀ x ∈ l, i64 x
abbrev spBs : Sp := .slice 1 .bool
abbrev spBk : Sp := .struct [spI, spIs]
abbrev spMb : Sp := .struct [.bool, .slice 2 spBk]
abbrev spHd : Sp := .struct [spI, spI, spI, .bool, .bool, spIs]
def CBk (b : Blok) : Prop := b.2.length ≤ 9223372036854775807 ∧ i64 b.1 ∧ WfI b.2
def CMb (m : Mbk) : Prop := m.2.length ≤ 9223372036854775807 ∧ ∀ b ∈ m.2, CBk b
@[irreducible] def WfM (M : List Mbk) : Prop := ∀ m ∈ M, ∀ b ∈ m.2, i64 b.1 ∧ WfI b.2
def CPr (a : Int × Int) : Prop := i64 a.1 ∧ i64 a.2
@[irreducible] def WfP (l : List (Int × Int)) : Prop := ∀ a ∈ l, CPr a
theorem rdN_u8s {n : Nat} {cs : List AV} (h : RdN (.int .u8) n 1 cs) : ∃ xs : List Int, cs = u8s xs ∧ xs.length = n ∧ ∀ x ∈ xs, 0 ≤ x ∧ x ≤ 255 := by
  induction n generalizing cs with
  | zero => cases h; exact ⟨[], rfl, rfl, by simp⟩
  | succ n ih =>
    cases h with
    | snoc h1 h2 h3 =>
      obtain ⟨xs, rfl, h5, h6⟩ := ih h1
      cases h2 with
      | @int k m hw =>
        refine ⟨xs ++ [m], by simp [u8s], by simp [h5], fun x hx => ?_⟩
        rcases List.mem_append.1 hx with hx | hx
        · exact h6 x hx
        · have : x = m := by simpa using hx
          subst this
          simpa [Lit.wf, show IntKind.u8.min = 0 from rfl, show IntKind.u8.max = 255 from rfl] using hw
theorem rd_u8s {ds : List AV} (h : Rd (.slice 1 (.int .u8)) ds) : ∃ xs : List Int, ds = [.imm 1 xs.length (u8s xs)] ∧ xs.length ≤ 9223372036854775807 ∧ ∀ x ∈ xs, 0 ≤ x ∧ x ≤ 255 := by
  cases h with
  | slice hl hn =>
    obtain ⟨xs, rfl, h1, h2⟩ := rdN_u8s hn
    subst h1
    exact ⟨xs, rfl, by simp only [maxLen] at hl; omega, h2⟩
end Go.Proofs.Ytpokokcgoebbhaa
