/- Proved in this text: lemmas and contracts of functions that the claim uses (parts: SizeL, WkP, WorkL, StatL, Unp, ScrB, AbsXg, AbsXk, GoK). No condition. -/
import Derived.Test.YtpokokcgoebbhaaPwM14
import Derived.Test.YtpokokcgoebbhaaPwM11
import Derived.Test.YtpokokcgoebbhaaPwM10
import Derived.Test.YtpokokcgoebbhaaPwM7
import Derived.Test.YtpokokcgoebbhaaPwM8

/- Contracts: bits of streams, how many bits a stream has; the law FnExactSizeOf. No condition. -/
namespace Go.Proofs.Ytpokokcgoebbhaa
open Go Go.Abs
set_option linter.unusedVariables false
set_option linter.unusedSimpArgs false
set_option maxRecDepth 100000
set_option maxHeartbeats 4000000
attribute [local irreducible] WpA WpL Rnd Blk Abs.Seq Abs.Fin Abs.FinG FnC FnG Only

/-! Streams. -/
def mbF (l : List Int) (m : Mbk) : List Int := mbbL m.1 m.2 l
def stK (w h q : Int) (b d : Bool) (l : List Int) (M : List Mbk) (k : Nat) : List Int := hdL w h q b d l ++ (M.take k).flatMap (mbF l)
theorem stK_len (w h q : Int) (b d : Bool) (l : List Int) (M : List Mbk) (k : Nat) : (stK w h q b d l M k).length ≤ 600 + 33601 * k := by
  have h1 := hdL_len w h q b d l
  have h3 := fm_bd (mbF l) 33601 (fun m => mbbL_len _ _ _) (M.take k)
  have h4 : (M.take k).length ≤ k := by simp; omega
  unfold stK; simp only [List.length_append]; omega
theorem stK_succ (w h q : Int) (b d : Bool) (l : List Int) (M : List Mbk) (k : Nat) (hk : k < M.length) : stK w h q b d l M (k + 1) = stK w h q b d l M k ++ mbF l (M.getD k default) := by
  unfold stK; rw [fm_snoc _ _ k hk, ← List.append_assoc]
def sizeL (w h q : Int) (b d : Bool) (l : List Int) (M : List Mbk) : Int := if StOk w h q l M then ((stK w h q b d l M M.length).length : Int) else 0
instance stBits_c : Con 37 (∀ (w h q : Int) (b d : Bool) (l : List Int) (M : List Mbk), l.length ≤ 1099511627776 ∧ SmM 1099511627776 M ∧ StOk w h q l M → Fn 37 [StA w h q b d l M] [XI (stK w h q b d l M M.length)] (.own 0 0 0 (stK w h q b d l M M.length).length)) := ⟨fun w h q b d l M hl => by
  have h0 := hl.2.2
  have x1 := h0.1.1
  have x2 := h0.1.2.1
  have x3 := h0.1.2.2.1
  have x4 := h0.1.2.2.2.1
  have x5 := h0.1.2.2.2.2
  have hcm := cntM_bd h0.1.1
  have hmn := h0.2.1
  have hz : hdL w h q b d l = stK w h q b d l M 0 := by simp [stK]
  have hzl := hdL_len w h q b d l
  have hz2 : (hdL w h q b d l).length = (stK w h q b d l M 0).length := by rw [hz]
  refine FnC.of_body tabOk Try.func37 Try.ntmps37 rfl (by decide +kernel) (by simp) fun G => ?_
  refine go (r := ?_); and_intros <;> intros <;> try exact True.intro
  refine WpA.loop (fun i : Nat => ⟨[(1, .ptr 0 0 0), (3, .own 1 0 0 (stK w h q b d l M i).length), (10, MbL M), (11, I M.length), (12, I i)], [⟨StC w h q b d l M, 0, 0, none⟩, XI (stK w h q b d l M i)]⟩) (fun i => i ≤ M.length) (fun i => M.length - i) 0 (by omega) (go (r := ?_)) (fun i hi => ?_)
  · trivial
  have hb := stK_len w h q b d l M i
  have hsc := fun hk => stK_succ w h q b d l M i hk
  have hbl := mbbL_len (M.getD i default).1 (M.getD i default).2 l
  have hsl : i < M.length → (stK w h q b d l M (i + 1)).length = (stK w h q b d l M i).length + (mbbL (M.getD i default).1 (M.getD i default).2 l).length := fun hk => by rw [hsc hk, List.length_append]; rfl
  by_cases hi2 : i < M.length
  · obtain ⟨hg1, hg2⟩ := smM_get hl.2.1 hi2
    have hok := (ok_blk h0 hi2).2
    have hok1 := (ok_blk h0 hi2).1
    have hsl := hsl hi2
    refine go (r := ?_); and_intros <;> intros <;> try exact True.intro
    all_goals first | (rw [hsc hi2]; rfl) | trace_state
  · have ek : i = M.length := by omega
    subst ek
    refine go (r := ?_); and_intros <;> intros <;> try exact True.intro
    all_goals trace_state⟩
instance SizeOf_c : Con 9 (∀ (w h q : Int) (b d : Bool) (l : List Int) (M : List Mbk), l.length ≤ 1099511627776 ∧ mw M ≤ 1048576 → Fn 9 [StA w h q b d l M] [] (I (sizeL w h q b d l M))) := ⟨fun w h q b d l M hM => by
  have hmw : mw M = M.length + (M.map mn).sum := rfl
  have hsm : SmM 1099511627776 M := smM_of (by omega)
  refine FnC.of_body tabOk Try.func9 Try.ntmps9 rfl (by decide +kernel) (by simp) fun G => ?_
  by_cases h0 : StOk w h q l M
  · have hres : sizeL w h q b d l M = (stK w h q b d l M M.length).length := by rw [sizeL, if_pos h0]
    refine go (r := ?_); and_intros <;> intros <;> try exact True.intro
    all_goals first | exact hsm | exact h0 | exact h0.1.2.2.1 | exact h0.1.2.2.2.1 | exact h0.1.2.2.2.2 | exact h0.2.2 | (exact absurd h0 (by assumption)) | (rw [hres]; done) | trace_state
  · have hres : sizeL w h q b d l M = 0 := by rw [sizeL, if_neg h0]
    refine go (r := ?_); and_intros <;> intros <;> try exact True.intro
    all_goals first | exact hsm | (exact absurd (by assumption) h0) | (rw [hres]; done) | trace_state⟩

end Go.Proofs.Ytpokokcgoebbhaa

/- Plain: a stream has at most as many fields as bits, and as its macroblocks allow. No condition. -/
namespace Go.Proofs.Ytpokokcgoebbhaa
open Go Go.Abs
set_option linter.unusedVariables false
set_option linter.unusedSimpArgs false
set_option maxRecDepth 100000

theorem ueL_ge {n : Int} (h : 0 ≤ n ∧ n ≤ 65534) : 1 ≤ (ueL n).length := by
  have h2 : bitOk (n + 1) ((Nat.log2 (n.toNat + 1) : Nat) + 1) := by
    have h16 := lg_16 (x := n.toNat + 1) (by omega) (by omega)
    have hh := lg_end (n.toNat + 1)
    generalize Nat.log2 (n.toNat + 1) = z at h16 hh
    refine ⟨by omega, by omega, ?_⟩
    have e : ((z : Int) + 1).toNat = z + 1 := by omega
    have e2 : (2 : Int) ^ (z + 1) = ((2 ^ (z + 1) : Nat) : Int) := by simp
    have e3 : n + 1 = ((n.toNat + 1 : Nat) : Int) := by omega
    rw [e, e2, e3, ← Int.natCast_ediv, hh]; rfl
  unfold ueL
  rw [if_pos h, List.length_append, bitsL, if_pos h2, bitsR_len]
  omega
theorem pk_ok {l : List Int} (h : In l (-16383) 16383) : ∀ k, k ≤ l.length → ∀ p ∈ (pk l k).1, (0 ≤ p.1 ∧ p.1 ≤ k) ∧ p.2 ≠ 0 ∧ -16383 ≤ p.2 ∧ p.2 ≤ 16383
  | 0, _, p, hp => by simp [pk] at hp
  | k + 1, hk, p, hp => by
    have hb := pk_bd l k
    have hg := in_get h (k := k) (by omega)
    rw [pk] at hp
    split at hp
    · have := pk_ok h k (by omega) p hp; omega
    · rename_i hz
      simp only [List.mem_append, List.mem_singleton] at hp
      rcases hp with hp | rfl
      · have := pk_ok h k (by omega) p hp; omega
      · exact ⟨⟨hb.2.1, by show (pk l k).2 ≤ ((k + 1 : Nat) : Int); omega⟩, hz, hg.1, hg.2⟩
theorem fm_ge {α : Type} (f : α → List Int) (c : Nat) : ∀ (l : List α), (∀ a ∈ l, c ≤ (f a).length) → c * l.length ≤ (l.flatMap f).length
  | [], _ => by simp
  | a :: l, h => by
    have h1 := h a (by simp)
    have h2 := fm_ge f c l fun x hx => h x (by simp [hx])
    rw [List.flatMap_cons, List.length_append, List.length_cons, Nat.mul_succ]; omega
theorem fm_sum {α : Type} (f : α → List Int) (g : α → Nat) : ∀ (l : List α), (∀ a ∈ l, g a ≤ (f a).length) → (l.map g).sum ≤ (l.flatMap f).length
  | [], _ => by simp
  | a :: l, h => by
    have h1 := h a (by simp)
    have h2 := fm_sum f g l fun x hx => h x (by simp [hx])
    rw [List.flatMap_cons, List.length_append, List.map_cons, List.sum_cons]; omega
theorem bk_ge {b : Blok} {lens : List Int} {n : Int} (h : BlkOk b.1 b.2 lens n) : wkB b ≤ (bkL b.1 b.2 lens n).length := by
  have hs := (symL_pos lens b.1).2 h.2.1
  have hn := prs_nz h.2.2.2
  have e : nzB b = (prsL b.2).length := by rw [hn]; rfl
  have h64 : b.2.length ≤ 64 := by have := h.2.2.2.2; omega
  unfold bkL wkB
  rw [if_pos h, e]
  split
  · rw [List.length_append, List.length_singleton]; omega
  · have hp : ∀ p ∈ prsL b.2, 2 ≤ (prB p).length := by
      intro p hp
      rw [prsL, if_pos h.2.2.2] at hp
      have := pk_ok h.2.2.2.1 _ (Nat.le_refl _) p hp
      have h1 := ueL_ge (n := p.1) (by omega)
      have h2 := ueL_ge (n := nolL p.2) (by unfold nolL; split <;> (try split) <;> omega)
      unfold prB; rw [List.length_append]; omega
    have h2 := fm_ge prB 2 (prsL b.2) hp
    have hl : (prsL b.2).length ≤ 64 := by
      rw [prsL, if_pos h.2.2.2]; have := (pk_bd b.2 b.2.length).1; omega
    have h3 := ueL_ge (n := ((prsL b.2).length : Int) - 1) (by omega)
    unfold bkK
    rw [List.take_length]
    simp only [List.length_append, List.length_singleton]; omega
theorem mb_ge {m : Mbk} {lens : List Int} (h : MbkOk m.1 m.2 lens) : wkM m ≤ (mbbL m.1 m.2 lens).length := by
  unfold mbbL
  rw [if_pos h]
  unfold mbK wkM
  rw [List.take_length, List.length_append, List.length_singleton]
  have := fm_sum (fun b : Blok => bkL b.1 b.2 lens (sz8 m.1)) wkB m.2 fun b hb => by
    obtain ⟨i, hi, rfl⟩ := List.getElem_of_mem hb
    have := ok_lv h hi
    have e : m.2.getD i default = m.2[i] := by simp [hi]
    rw [e] at this
    exact bk_ge this
  omega
theorem hd_ge {w h q : Int} {b d : Bool} {l : List Int} (hh : HdOk w h q l) : 7 ≤ (hdL w h q b d l).length := by
  have h1 := ueL_ge (n := w / 8 - 1) (by have := hh.1; omega)
  have h2 := ueL_ge (n := h / 8 - 1) (by have := hh.1; omega)
  have e8 : (bitsL 183 8).length = 8 := by decide +kernel
  unfold hdL
  rw [if_pos hh]
  unfold hdK hdB
  simp only [List.length_append, List.length_cons, List.length_nil, e8]; omega
theorem mem_ok {w h q : Int} {l : List Int} {M : List Mbk} (hs : StOk w h q l M) {m : Mbk} (hm : m ∈ M) : MbkOk m.1 m.2 l := by
  obtain ⟨i, hi, rfl⟩ := List.getElem_of_mem hm
  have := ok_blk hs hi
  have e : M.getD i default = M[i] := by simp [hi]
  rw [e] at this; exact this
theorem memb_ok {e : Bool} {bs : List Blok} {l : List Int} (hs : MbkOk e bs l) {b : Blok} (hb : b ∈ bs) : BlkOk b.1 b.2 l (sz8 e) := by
  obtain ⟨i, hi, rfl⟩ := List.getElem_of_mem hb
  have := ok_lv hs hi
  have e : bs.getD i default = bs[i] := by simp [hi]
  rw [e] at this; exact this
/-- Fields and bits. -/
theorem work_size {w h q : Int} {b d : Bool} {l : List Int} {M : List Mbk} (hs : StOk w h q l M) : workL w h q l M ≤ sizeL w h q b d l M := by
  have h1 := hd_ge (b := b) (d := d) hs.1
  have h3 := fm_sum (Go.Proofs.Ytpokokcgoebbhaa.mbF l) wkM M fun m hm => mb_ge (mem_ok hs hm)
  unfold workL sizeL
  rw [if_pos hs, if_pos hs]
  unfold stK
  rw [List.take_length, List.length_append]
  omega
def bks (M : List Mbk) : Nat := (M.map fun m => m.2.length).sum
def nzS (M : List Mbk) : Nat := (M.map nzM).sum
theorem wkB_le (b : Blok) : wkB b ≤ 3 + 2 * nzB b := by unfold wkB; split <;> omega
theorem wkBs_le : ∀ l : List Blok, (l.map wkB).sum ≤ 3 * l.length + 2 * (l.map nzB).sum
  | [] => by simp
  | b :: l => by have := wkB_le b; have := wkBs_le l; simp only [List.map_cons, List.sum_cons, List.length_cons]; omega
theorem wkMs_le : ∀ M : List Mbk, (M.map wkM).sum ≤ M.length + 3 * bks M + 2 * nzS M
  | [] => by simp [bks, nzS]
  | m :: M => by
    have h1 := wkBs_le m.2
    have h2 := wkMs_le M
    unfold bks nzS at h2 ⊢
    simp only [List.map_cons, List.sum_cons, List.length_cons]
    have e1 : wkM m = 1 + (m.2.map wkB).sum := rfl
    have e2 : nzM m = (m.2.map nzB).sum := rfl
    omega
theorem work_mbs {w h q : Int} {l : List Int} {M : List Mbk} : workL w h q l M ≤ 7 + M.length * 9 + bks M * 3 + 2 * (nzS M : Nat) := by
  have := wkMs_le M
  unfold workL; split <;> omega
/-- Levels and pixels. -/
theorem nzB_len (b : Blok) : nzB b ≤ b.2.length := by
  unfold nzB
  have : ∀ l : List Int, (l.map nz1).sum ≤ l.length := fun l => by
    induction l with
    | nil => simp
    | cons a l ih => simp only [List.map_cons, List.sum_cons, List.length_cons]; have : nz1 a ≤ 1 := by unfold nz1; split <;> omega
                     omega
  exact this b.2
theorem sum_le {α : Type} (f : α → Nat) (c : Nat) : ∀ l : List α, (∀ a ∈ l, f a ≤ c) → (l.map f).sum ≤ c * l.length
  | [], _ => by simp
  | a :: l, h => by
    have h1 := h a (by simp)
    have h2 := sum_le f c l fun x hx => h x (by simp [hx])
    simp only [List.map_cons, List.sum_cons, List.length_cons, Nat.mul_succ]; omega
theorem nzM_le {m : Mbk} {l : List Int} (h : MbkOk m.1 m.2 l) : nzM m ≤ 64 := by
  have hc := sz8_cases m.1
  have h1 := h.1
  rcases hc with ⟨e1, e2⟩ | ⟨e1, e2⟩
  · have := sum_le nzB 16 m.2 fun b hb => by
      have hk := (memb_ok h hb).2.2.1
      rw [e1] at hk
      have := nzB_len b; omega
    unfold nzM; omega
  · have := sum_le nzB 64 m.2 fun b hb => by
      have hk := (memb_ok h hb).2.2.1
      rw [e1] at hk
      have := nzB_len b; omega
    unfold nzM; omega
theorem nz_pix {w h q : Int} {l : List Int} {M : List Mbk} (hs : StOk w h q l M) : (nzS M : Int) ≤ w * h := by
  have h1 := sum_le nzM 64 M fun m hm => nzM_le (mem_ok hs hm)
  have h2 := hs.2.1
  have h3 := hs.1.1
  unfold cntM at h2
  obtain ⟨a, rfl⟩ : ∃ a, w = 8 * a := ⟨w / 8, by omega⟩
  obtain ⟨c, rfl⟩ : ∃ c, h = 8 * c := ⟨h / 8, by omega⟩
  have e1 : 8 * a / 8 = a := by omega
  have e2 : 8 * c / 8 = c := by omega
  rw [e1, e2] at h2
  have e3 : 8 * a * (8 * c) = 64 * (a * c) := by rw [Int.mul_assoc, Int.mul_left_comm a 8 c, ← Int.mul_assoc]; rfl
  rw [e3, ← h2]
  unfold nzS; omega
/-- Modes and blocks. -/
theorem sum_set {c : List Int} {i : Nat} (h : i < c.length) : (c.set i (c.getD i 0 + 1)).sum = c.sum + 1 := by
  induction c generalizing i with
  | nil => simp at h
  | cons a c ih =>
    cases i with
    | zero => simp; omega
    | succ i =>
      have := ih (i := i) (by simpa using h)
      simp only [List.set_cons_succ, List.getD_cons_succ, List.sum_cons, this]; omega
theorem addAt_sum {c : List Int} (hc : c.length = 6) {m : Int} (h : 0 ≤ m ∧ m ≤ 5) : (addAt c m).sum = c.sum + 1 := by
  rw [addAt_yes h]; exact sum_set (by omega)
theorem mcB_sum {bs : List Blok} (h : ∀ b ∈ bs, 0 ≤ b.1 ∧ b.1 ≤ 5) : ∀ (k : Nat), k ≤ bs.length → ∀ c : List Int, c.length = 6 → (mcB c bs k).sum = c.sum + k
  | 0, _, c, hc => by simp [mcB]
  | k + 1, hk, c, hc => by
    rw [mcB_succ c bs k (by omega), addAt_sum (by rw [mcB_len]; exact hc) ?_, mcB_sum h k (by omega) c hc]
    · omega
    · have : bs.getD k default ∈ bs := by
        rw [List.getD_eq_getElem?_getD, List.getElem?_eq_getElem (by omega : k < bs.length)]; exact List.getElem_mem _
      exact h _ this
theorem mcM_sum {M : List Mbk} (h : ∀ m ∈ M, ∀ b ∈ m.2, 0 ≤ b.1 ∧ b.1 ≤ 5) : ∀ k, k ≤ M.length → (mcM M k).sum = (tk (fun m : Mbk => m.2.length) M k : Nat)
  | 0, _ => by simp [mcM, tk]
  | k + 1, hk => by
    have hm : M.getD k default ∈ M := by
      rw [List.getD_eq_getElem?_getD, List.getElem?_eq_getElem (by omega : k < M.length)]; exact List.getElem_mem _
    rw [mcM_succ M k (by omega), mcB_sum (h _ hm) _ (Nat.le_refl _) _ (mcM_len M k), mcM_sum h k (by omega), tk_succ _ M k (by omega)]
    omega
theorem modes_all {w h q : Int} {l : List Int} {M : List Mbk} (hs : StOk w h q l M) : (mcM M M.length).sum = (bks M : Nat) := by
  rw [mcM_sum (fun m hm b hb => ((memb_ok (mem_ok hs hm) hb).2.1.2.1)) _ (Nat.le_refl _), tk_all]
  rfl
end Go.Proofs.Ytpokokcgoebbhaa

/- Contracts: the work of a stream by the program; the law FnExactWorkOf. No condition. -/
namespace Go.Proofs.Ytpokokcgoebbhaa
open Go Go.Abs
set_option linter.unusedVariables false
set_option linter.unusedSimpArgs false
set_option maxRecDepth 100000
set_option maxHeartbeats 4000000
attribute [local irreducible] WpA WpL Rnd Blk Abs.Seq Abs.Fin Abs.FinG FnC FnG Only

instance WorkOf_c : Con 7 (∀ (w h q : Int) (b d : Bool) (l : List Int) (M : List Mbk), l.length ≤ 1099511627776 ∧ mw M ≤ 1048576 → Fn 7 [StA w h q b d l M] [] (I (workL w h q l M))) := ⟨fun w h q b d l M hM => by
  have hmw : mw M = M.length + (M.map mn).sum := rfl
  have hsm : SmM 1099511627776 M := smM_of (by omega)
  have hwk := wk_bd M
  refine FnC.of_body tabOk Try.func7 Try.ntmps7 rfl (by decide +kernel) (by simp) fun G => ?_
  by_cases h0 : StOk w h q l M
  · have hres : workL w h q l M = 7 + ((M.map wkM).sum : Nat) := by rw [workL, if_pos h0]
    refine go (r := ?_); and_intros <;> intros <;> try exact True.intro
    all_goals first | exact hsm | (exact absurd h0 (by assumption)) | skip
    refine WpA.loop (fun i : Nat => ⟨[(3, I (7 + (tk wkM M i : Nat))), (13, MbL M), (14, I M.length), (15, I i)], []⟩) (fun i => i ≤ M.length) (fun i => M.length - i) 0 (by omega) (go (r := ?_)) (fun i hi => ?_)
    · simp [tk_zero]
    have hs1 := fun h => tk_succ wkM M i h
    have hle1 := tk_le wkM M i
    have hle2 := tk_le wkM M (i + 1)
    have hg := fun h => smM_get hsm (k := i) h
    have hok := fun h => ok_blk h0 (i := i) h
    have e3 : wkM (M.getD i default) = 1 + ((M.getD i default).2.map wkB).sum := rfl
    refine go (r := ?_); and_intros <;> intros <;> try exact True.intro
    · have hs1 := hs1 (by omega)
      have hg := hg (by omega)
      have hok := hok (by omega)
      refine WpA.loop (fun k : Nat => ⟨[(3, I (7 + (tk wkM M i : Nat) + 1 + (tk wkB (M.getD i default).2 k : Nat))), (13, MbL M), (14, I M.length), (15, I i), (22, BkL (M.getD i default).2), (23, I (M.getD i default).2.length), (24, I k)], []⟩) (fun k => k ≤ (M.getD i default).2.length) (fun k => (M.getD i default).2.length - k) 0 (by omega) (go (r := ?_)) (fun k hk => ?_)
      · simp [tk_zero]
      have hs3 := fun h => tk_succ wkB (M.getD i default).2 k h
      have hle3 := tk_le wkB (M.getD i default).2 k
      have hle4 := tk_le wkB (M.getD i default).2 (k + 1)
      have hsk := fun h => smB_get hg.2 (k := k) h
      have hlv := fun h => prs_nz (ok_lv hok (k := k) h).2.2.2
      have e6 : nzB ((M.getD i default).2.getD k default) = (((M.getD i default).2.getD k default).2.map nz1).sum := rfl
      have e7 : (nzB ((M.getD i default).2.getD k default) = 0 → wkB ((M.getD i default).2.getD k default) = 2) ∧ (nzB ((M.getD i default).2.getD k default) ≠ 0 → wkB ((M.getD i default).2.getD k default) = 3 + 2 * nzB ((M.getD i default).2.getD k default)) := by
        unfold wkB; constructor <;> intro hz
        · rw [if_pos hz]
        · rw [if_neg hz]; omega
      have e8 := nzB_bd ((M.getD i default).2.getD k default)
      have e9 : bn ((M.getD i default).2.getD k default) = ((M.getD i default).2.getD k default).2.length := rfl
      refine go (r := ?_); and_intros <;> intros <;> try exact True.intro
      all_goals have e : k = (M.getD i default).2.length := by omega
      all_goals have e10 := tk_all wkB (M.getD i default).2
      all_goals rw [← e] at e10
      all_goals omega
    all_goals have e : i = M.length := by omega
    all_goals subst e
    all_goals rw [hres, tk_all]
  · have hres : workL w h q l M = 0 := by rw [workL, if_neg h0]
    refine go (r := ?_); and_intros <;> intros <;> try exact True.intro
    all_goals first | exact hsm | (exact absurd (by assumption) h0) | (rw [hres]; done) | trace_state⟩

end Go.Proofs.Ytpokokcgoebbhaa

/- The laws FnExactNonZeros and FnExactModeCounts. No condition. -/
namespace Go.Proofs.Ytpokokcgoebbhaa
open Go Go.Abs
set_option linter.unusedVariables false
set_option linter.unusedSimpArgs false
set_option maxRecDepth 100000
set_option maxHeartbeats 4000000
attribute [local irreducible] WpA WpL Rnd Blk Abs.Seq Abs.Fin Abs.FinG FnC FnG Only

end Go.Proofs.Ytpokokcgoebbhaa

/- Contracts: streams written, by the specification. No condition. -/
namespace Go.Proofs.Ytpokokcgoebbhaa
open Go Go.Abs
set_option linter.unusedVariables false
set_option linter.unusedSimpArgs false
set_option maxRecDepth 100000
set_option maxHeartbeats 4000000
attribute [local irreducible] WpA WpL Rnd Blk Abs.Seq Abs.Fin Abs.FinG FnC FnG Only

def Bit01 (l : List Int) : Prop := ∀ x ∈ l, x = 0 ∨ x = 1
theorem b01_app {a b : List Int} (h1 : Bit01 a) (h2 : Bit01 b) : Bit01 (a ++ b) := fun x hx => (List.mem_append.1 hx).elim (h1 x) (h2 x)
theorem b01_nil : Bit01 [] := fun x hx => by cases hx
theorem b01_rep (n : Nat) : Bit01 (List.replicate n 0) := fun x hx => .inl (List.mem_replicate.1 hx).2
theorem b01_bits (n w : Int) : Bit01 (bitsL n w) := by
  unfold bitsL; split
  · intro x hx
    unfold bitsR at hx
    obtain ⟨k, _, rfl⟩ := List.mem_map.1 hx
    omega
  · exact b01_nil
theorem b01_ue (n : Int) : Bit01 (ueL n) := by
  unfold ueL; split
  · exact b01_app (b01_rep _) (b01_bits _ _)
  · exact b01_nil
theorem b01_sym (l : List Int) (m : Int) : Bit01 (symL l m) := by
  unfold symL; split
  · exact b01_bits _ _
  · exact b01_nil
theorem b01_one (b : Bool) : (bif b then (1 : Int) else 0) = 0 ∨ (bif b then (1 : Int) else 0) = 1 := by cases b <;> simp
theorem b01_fm {α : Type} (f : α → List Int) (h : ∀ a, Bit01 (f a)) : ∀ l : List α, Bit01 (l.flatMap f) := fun l x hx => by
  obtain ⟨a, _, hx⟩ := List.mem_flatMap.1 hx
  exact h a x hx
theorem b01_prB (p : Int × Int) : Bit01 (prB p) := b01_app (b01_ue _) (b01_ue _)
theorem b01_bk (m : Int) (lv lens : List Int) (n : Int) : Bit01 (bkL m lv lens n) := by
  unfold bkL; split
  · split
    · exact b01_app (b01_sym _ _) (fun x hx => by simp at hx; exact .inl hx)
    · unfold bkK
      exact b01_app (b01_app (b01_app (b01_sym _ _) (fun x hx => by simp at hx; exact .inr hx)) (b01_ue _)) (b01_fm _ b01_prB _)
  · exact b01_nil
theorem b01_mb (e : Bool) (bs : List Blok) (lens : List Int) : Bit01 (mbbL e bs lens) := by
  unfold mbbL; split
  · unfold mbK
    exact b01_app (fun x hx => by simp only [List.mem_singleton] at hx; rw [hx]; exact b01_one e) (b01_fm _ (fun b => b01_bk _ _ _ _) _)
  · exact b01_nil
theorem b01_hd (w h q : Int) (b d : Bool) (l : List Int) : Bit01 (hdL w h q b d l) := by
  unfold hdL; split
  · unfold hdK hdB
    refine b01_app (b01_app (b01_app (b01_app (b01_app (b01_bits _ _) (b01_ue _)) (b01_ue _)) (b01_bits _ _)) ?_) (b01_fm _ (fun n => b01_bits _ _) _)
    intro x hx
    simp only [List.mem_cons, List.not_mem_nil, or_false] at hx
    rcases hx with rfl | rfl
    · exact b01_one b
    · exact b01_one d
  · exact b01_nil
theorem b01_st (w h q : Int) (b d : Bool) (l : List Int) (M : List Mbk) (k : Nat) : Bit01 (stK w h q b d l M k) := by
  unfold stK
  exact b01_app (b01_hd _ _ _ _ _ _) (b01_fm _ (fun m => b01_mb _ _ _) _)
/-! Numbers of bits. -/
def numS (l : List Int) (k : Nat) : Int := (l.take k).foldl (fun n b => n * 2 + b) 0
theorem numS_succ {l : List Int} {k : Nat} (h : k < l.length) : numS l (k + 1) = numS l k * 2 + l.getD k 0 := by
  unfold numS; rw [List.take_succ_eq_append_getElem h, List.foldl_append]; simp [h]
theorem b01_get {l : List Int} (h : Bit01 l) (k : Nat) : l.getD k 0 = 0 ∨ l.getD k 0 = 1 := by
  rcases Nat.lt_or_ge k l.length with h1 | h1
  · exact h _ (by simp [h1])
  · left; rw [List.getD_eq_getElem?_getD, List.getElem?_eq_none h1]; rfl
theorem numS_bd {l : List Int} (h : Bit01 l) : ∀ k, k ≤ 8 → 0 ≤ numS l k ∧ numS l k < 2 ^ k
  | 0, _ => by simp [numS]
  | k + 1, hk => by
    have ih := numS_bd h k (by omega)
    rcases Nat.lt_or_ge k l.length with h1 | h1
    · rw [numS_succ h1]
      have := b01_get h k
      have e : (2 : Int) ^ (k + 1) = 2 ^ k * 2 := by rw [Int.pow_succ]
      omega
    · have e : numS l (k + 1) = numS l k := by unfold numS; rw [List.take_of_length_le (by omega), List.take_of_length_le (by omega)]
      have e2 : (2 : Int) ^ (k + 1) = 2 ^ k * 2 := by rw [Int.pow_succ]
      omega
theorem numS_256 {l : List Int} (h : Bit01 l) {k : Nat} (hk : k ≤ 8) : 0 ≤ numS l k ∧ numS l k < 256 := by
  have h1 := numS_bd h k hk
  have h2 : (2 : Int) ^ k ≤ 2 ^ 8 := by
    have := Nat.pow_le_pow_right (n := 2) (by decide) hk
    exact_mod_cast this
  have h3 : (2 : Int) ^ 8 = 256 := by decide
  omega
instance NumOf_s : Con 122 (∀ l : List Int, l.length = 8 ∧ Bit01 l → Fn 122 [IL l] [] (.tup [I (numS l 8), B true])) := ⟨fun l hl => by
  have h8 := hl.1
  refine FnC.of_body tabOk Try.func122 Try.ntmps122 rfl (by decide +kernel) (by simp) fun G => ?_
  refine go (r := ?_); and_intros <;> intros <;> try exact True.intro
  refine WpA.loop (fun k : Nat => ⟨[(0, IL l), (4, I (numS l k)), (5, I k)], []⟩) (fun k => k ≤ 8) (fun k => 8 - k) 0 (by omega) (go (r := ?_)) (fun k hk => ?_)
  · simp [numS]
  have hb := b01_get hl.2 k
  have hn := numS_256 hl.2 hk
  have hs := fun h => numS_succ (l := l) (k := k) h
  refine go (r := ?_); and_intros <;> intros <;> try exact True.intro
  all_goals first | (exact (hs (by omega)).symm) | (rw [show k = 8 by omega]; done) | trace_state⟩
def byI (x : List Int) (k : Nat) : List Int := (List.range k).map fun i => numS ((x.drop (8 * i)).take 8) 8
def strS (x : List Int) : List UInt8 := (byI x (x.length / 8)).map fun n : Int => UInt8.ofNat n.toNat
theorem byI_len (x : List Int) (k : Nat) : (byI x k).length = k := by simp [byI]
theorem byI_succ (x : List Int) (k : Nat) : byI x (k + 1) = byI x k ++ [numS ((x.drop (8 * k)).take 8) 8] := by simp [byI, List.range_succ]
theorem strS_len (x : List Int) : (strS x).length = x.length / 8 := by unfold strS; rw [List.length_map, byI_len]
theorem b01_mid {x : List Int} (h : Bit01 x) (i : Nat) : Bit01 ((x.drop i).take 8) := fun y hy => h y (List.mem_of_mem_drop (List.mem_of_mem_take hy))
instance BytesOf_s : Con 88 (∀ l : List Int, l.length ≤ 1099511627776 ∧ l.length % 8 = 0 ∧ Bit01 l → Fn 88 [IL l] [] (.tup [Z (strS l), B true])) := ⟨fun l hl => by
  have h8 := hl.2.1
  refine FnC.of_body tabOk Try.func88 Try.ntmps88 rfl (by decide +kernel) (by simp) fun G => ?_
  refine go (r := ?_); and_intros <;> intros <;> try exact True.intro
  all_goals first | contradiction | omega | skip
  refine WpA.loop (fun k : Nat => ⟨[(0, IL l), (4, .own 0 0 0 k), (5, I (8 * (k : Int)))], [⟨u8s (byI l k), 0, 1, some 5⟩]⟩) (fun k => k ≤ l.length / 8) (fun k => l.length / 8 - k) 0 (by omega) (go (r := ?_)) (fun k hk => ?_)
  · and_intros <;> first | exact True.intro | rfl | trace_state
  have hln := byI_len l k
  have hs := byI_succ l k
  have hm := b01_mid hl.2.2 (8 * k)
  have hn := numS_256 hm (k := 8) (by omega)
  by_cases hlt : k < l.length / 8
  · have hml : ((l.drop (8 * k)).take 8).length = 8 := by simp; omega
    have e1 : (8 * (k : Int) + 8).toNat - (8 * (k : Int)).toNat = 8 := by omega
    have e2 : (8 * (k : Int)).toNat = 8 * k := by omega
    refine go (r := ?_); and_intros <;> intros <;> try exact True.intro
    all_goals first | contradiction | omega | skip
    · rename_i y hy
      rw [e1, e2] at hy; exact hm y hy
    · rw [e1, e2, u8_in (by omega), hs]
  · obtain rfl : k = l.length / 8 := by omega
    refine go (r := ?_); and_intros <;> intros <;> try exact True.intro
    refine K.cv ?_
    refine WpL.ofBytes tabOk rfl rfl rfl rfl rfl (by simp [u8s, hln]) (by decide) ?_
    refine go (r := ?_); and_intros <;> intros <;> try exact True.intro
    all_goals trace_state⟩
/-! Bits with their end. -/
def padN (n : Nat) : Nat := (8 - (n + 1) % 8) % 8
def padL (b : List Int) (j : Nat) : List Int := b ++ [1] ++ List.replicate j 0
theorem padL_len (b : List Int) (j : Nat) : (padL b j).length = b.length + 1 + j := by simp [padL]; omega
theorem padL_succ (b : List Int) (j : Nat) : padL b (j + 1) = padL b j ++ [0] := by unfold padL; rw [List.replicate_succ', ← List.append_assoc]
theorem b01_pad {b : List Int} (h : Bit01 b) (j : Nat) : Bit01 (padL b j) := b01_app (b01_app h (fun x hx => by simp at hx; exact .inr hx)) (b01_rep j)
def stopS (b : List Int) : List UInt8 := strS (padL b (padN b.length))
theorem stopS_len (b : List Int) : (stopS b).length = (b.length + 8) / 8 := by
  unfold stopS; rw [strS_len, padL_len]; unfold padN; omega
instance Stopped_s : Con 41 (∀ b : List Int, b.length ≤ 1073741824 ∧ Bit01 b → Fn 41 [IL b] [] (Z (stopS b))) := ⟨fun b hl => by
  have h0 := hl.1
  refine FnC.of_body tabOk Try.func41 Try.ntmps41 rfl (by decide +kernel) (by simp) fun G => ?_
  refine go (r := ?_); and_intros <;> intros <;> try exact True.intro
  all_goals first | contradiction | omega | skip
  refine WpA.loop (fun j : Nat => ⟨[(3, .own 0 0 0 (b.length + 1 + j))], [XI (padL b j)]⟩) (fun j => j ≤ padN b.length) (fun j => padN b.length - j) 0 (Nat.zero_le _) ?_ (fun j hj => ?_)
  · exact Weak.mk (by repeat (first | exact ReT.nil | refine ReT.cons (.keep rfl rfl .nil) ?_ | refine ReT.cons (.own rfl rfl rfl rfl rfl rfl .nil) ?_ | refine ReT.cons (.ptr rfl rfl rfl rfl .nil) ?_ | refine ReT.cons (.keep (congrArg (fun z => AV.sc (Value.int .i64 z)) (by first | omega | (skip))) rfl .nil) ?_ | refine ReT.cons (.keep (congrArg (fun z : List UInt8 => AV.sc (Value.string ⟨z.toArray⟩)) (by skip)) rfl .nil) ?_ | refine ReT.cons (.own rfl rfl rfl rfl rfl (by first | omega | (simp; done) | (simp; omega)) .nil) ?_)) (by exact ReO.cons (Re.same (by simp [padL]) (still_ints _)) (.inr rfl) .nil) (Nat.zero_le _)
  have hpl := padL_len b j
  have hps := padL_succ b j
  have hcond : j < padN b.length ↔ (b.length + 1 + j) % 8 ≠ 0 := by unfold padN at hj ⊢; omega
  have hp8 : padN b.length ≤ 7 := by unfold padN; omega
  by_cases hlt : j < padN b.length
  · have hc := hcond.1 hlt
    refine go (r := ?_); and_intros <;> intros <;> try exact True.intro
    all_goals first | contradiction | omega | exact hps.symm | trace_state
  · obtain rfl : j = padN b.length := by omega
    have hc : (b.length + 1 + padN b.length) % 8 = 0 := Decidable.byContradiction fun h => hlt (hcond.2 h)
    have hb := b01_pad hl.2 (padN b.length)
    refine go (r := ?_); and_intros <;> intros <;> try exact True.intro
    all_goals first | contradiction | omega | exact hb | exact hb _ (by assumption) | trace_state⟩
def unpS (w h q : Int) (b d : Bool) (l : List Int) (M : List Mbk) : List UInt8 := if StOk w h q l M then stopS (stK w h q b d l M M.length) else []
theorem stK_small {w h q : Int} {b d : Bool} {l : List Int} {M : List Mbk} (h0 : StOk w h q l M) : (stK w h q b d l M M.length).length ≤ 600000 := by
  have h1 := stK_len w h q b d l M M.length
  have h2 := cntM_bd h0.1.1
  have h3 := h0.2.1
  omega
instance Unparse_s : Con 13 (∀ (w h q : Int) (b d : Bool) (l : List Int) (M : List Mbk), l.length ≤ 1099511627776 ∧ mw M ≤ 1048576 → Fn 13 [StA w h q b d l M] [] (Z (unpS w h q b d l M))) := ⟨fun w h q b d l M hM => by
  have hmw : mw M = M.length + (M.map mn).sum := rfl
  have hsm : SmM 1099511627776 M := smM_of (by omega)
  have hhl := hdL_len w h q b d l
  refine FnC.of_body tabOk Try.func13 Try.ntmps13 rfl (by decide +kernel) (by simp) fun G => ?_
  by_cases h0 : StOk w h q l M
  · have hres : unpS w h q b d l M = stopS (stK w h q b d l M M.length) := by rw [unpS, if_pos h0]
    have hz : (hdL w h q b d l).length = (stK w h q b d l M 0).length := by simp [stK]
    have hz0 : hdL w h q b d l = stK w h q b d l M 0 := by simp [stK]
    refine go (r := ?_); and_intros <;> intros <;> try exact True.intro
    all_goals first | exact hsm | (exact absurd h0 (by assumption)) | skip
    refine WpA.loop (fun i : Nat => ⟨[(1, .ptr 0 0 0), (3, .own 1 0 0 (stK w h q b d l M i).length), (4, I i)], [⟨StC w h q b d l M, 0, 0, none⟩, XI (stK w h q b d l M i)]⟩) (fun i => i ≤ M.length) (fun i => M.length - i) 0 (by omega) (go (r := ?_)) (fun i hi => ?_)
    · and_intros <;> first | exact True.intro | exact hz | exact hz0 | exact hz.symm | trace_state
    have hb := stK_len w h q b d l M i
    have hsc := fun hk => stK_succ w h q b d l M i hk
    have hbl := mbbL_len (M.getD i default).1 (M.getD i default).2 l
    have hsl : i < M.length → (stK w h q b d l M (i + 1)).length = (stK w h q b d l M i).length + (mbbL (M.getD i default).1 (M.getD i default).2 l).length := fun hk => by rw [hsc hk, List.length_append]; rfl
    by_cases hi2 : i < M.length
    · obtain ⟨hg1, hg2⟩ := smM_get hsm hi2
      have hsl := hsl hi2
      refine go (r := ?_); and_intros <;> intros <;> try exact True.intro
      all_goals first | (rw [hsc hi2]; rfl) | trace_state
    · have ek : i = M.length := by omega
      subst ek
      have hst := stK_small (b := b) (d := d) h0
      have h01 := b01_st w h q b d l M M.length
      refine go (r := ?_); and_intros <;> intros <;> try exact True.intro
      all_goals first | exact h01 | exact h01 _ (by assumption) | (rw [hres]; done) | trace_state
  · have hres : unpS w h q b d l M = [] := by rw [unpS, if_neg h0]
    refine go (r := ?_); and_intros <;> intros <;> try exact True.intro
    all_goals first | exact hsm | (exact absurd (by assumption) h0) | (rw [hres]; done) | trace_state⟩
end Go.Proofs.Ytpokokcgoebbhaa

/- Contract: codes that are too long. No condition. -/
namespace Go.Proofs.Ytpokokcgoebbhaa
open Go Go.Abs
set_option linter.unusedVariables false
set_option linter.unusedSimpArgs false
set_option maxRecDepth 100000
set_option maxHeartbeats 4000000
attribute [local irreducible] WpA WpL Rnd Blk Abs.Seq Abs.Fin Abs.FinG FnC FnG FnX FnP FinX Only

instance big_c : Con 5 (∀ l : List Int, l.length ≤ 9223372036854775807 → Fn 5 [CodA l] [] (B (decide ((l.length : Int) > 1048576)))) := ⟨fun l hl => by
  refine FnC.of_body tabOk Try.func5 Try.ntmps5 rfl (by decide +kernel) (by simp) fun G => ?_
  refine go (r := ?_); and_intros <;> intros <;> try exact True.intro⟩
end Go.Proofs.Ytpokokcgoebbhaa

/- Regions that draw their order and whose operations bear guards that are known to hold: a boolean that is known is noted as true. No condition. -/
namespace Go.Abs
open Go
set_option linter.unusedVariables false
set_option linter.unusedSimpArgs false

section
variable {P : Program} {n m : Nat} {G : Ctx} {ops : Array Oper} {T0 : List (Nat × AV)} {O : List AObj} {fs fs2 out : List (Nat × AV)} {o : Oper} {l : List Oper} {d : Nat} {F : List (Nat × AV)}
theorem HeadJ.consB {b : Bool} (hd : o.dst = some d) (hF : depsF fs o.after.toList = some F)
    (h : ∀ Tv, WpL P n m G false ops [o] ⟨F ++ (T0 ++ Tv), O⟩ (Only ⟨(d, .sc (.bool b)) :: (F ++ (T0 ++ Tv)), O⟩)) (hb : b = true) (hs : catF fs [(d, .sc (.bool true))] = some fs2) (r : HeadJ P n m G ops T0 O fs2 l out) : HeadJ P n m G ops T0 O fs (o :: l) out := by
  subst hb
  exact HeadJ.consF hd hF h hs r
theorem WpA.regionMG {l l1 l2 : List Oper} {id : Nat} {T1 : List (Nat × AV)} {Q : Exit → St → Prop} (k : Nat) (hm : P.follows .mixedOrders = true) (hB : mixB l.toArray k = true)
    (hl : takeF k l = some l1) (hJ : HeadJ P n m G l.toArray T0 O [] l1 out) (hnd : TrueB (nodupB (out.map (·.1)))) (hfr : TrueB (out.all fun p => !has T0 p.1))
    (hT1 : catF out T0 = some T1) (h2 : l.drop k = l2) (h : WpL P n m G false l.toArray l2 ⟨T1, O⟩ Q) : WpA P n m G (.region id l.toArray true) ⟨T0, O⟩ Q := by
  have := takeF_eq hl; subst this; subst h2
  exact WpA.regionM k hm hB hJ hnd.e hfr.e (catF_eq hT1) h
end
end Go.Abs
namespace Go.Abs.K
open Go Go.Abs
section
variable {P : Program} {n m : Nat} {G : Ctx} {ops : Array Oper} {T0 : List (Nat × AV)} {O : List AObj} {fs out : List (Nat × AV)} {l : List Oper} {dd : Option Nat} {tt : TypeId} {pos : String} {after : Array Edge} {gd : Option (Nat × Bool)}
theorem jbin {b : BinOp} {t u : TypeId} {x y : Operand} (h : HeadJ P n m G ops T0 O fs ({ dst := dd, op := .binOp b t x y u, type := tt, pos := pos, after := after, guard := gd } :: l) out) : HeadJ P n m G ops T0 O fs ({ dst := dd, op := .binOp b t x y u, type := tt, pos := pos, after := after, guard := gd } :: l) out := h
theorem jun {b : UnOp} {t : TypeId} {x : Operand} (h : HeadJ P n m G ops T0 O fs ({ dst := dd, op := .unOp b t x, type := tt, pos := pos, after := after, guard := gd } :: l) out) : HeadJ P n m G ops T0 O fs ({ dst := dd, op := .unOp b t x, type := tt, pos := pos, after := after, guard := gd } :: l) out := h
theorem jcall {f : FuncId} {xs : Array Operand} {ats : Array TypeId} (h : HeadJ P n m G ops T0 O fs ({ dst := dd, op := .call { callee := .value (.func f), args := xs, argTypes := ats }, type := tt, pos := pos, after := after, guard := gd } :: l) out) : HeadJ P n m G ops T0 O fs ({ dst := dd, op := .call { callee := .value (.func f), args := xs, argTypes := ats }, type := tt, pos := pos, after := after, guard := gd } :: l) out := h
end
end Go.Abs.K

/- What is never turned again becomes memory that stays; calls whose arguments all lie in memory that stays may return parts of it; whether an own slice is nil. No condition. -/
namespace Go.Abs
open Go
set_option linter.unusedVariables false
set_option linter.unusedSimpArgs false

section
variable {P : Program} {n m : Nat} {G : Ctx} {T : List (Nat × AV)} {O : List AObj} {Q : Exit → St → Prop} {ops : Array Oper} {l : List Oper} {d : Nat} {tt : TypeId} {pos : String} {after : Array Edge}

/-- Values that lie in memory that stays, or of which nothing is told. -/
inductive KeepL : List AV → List AV → Prop
  | nil : KeepL [] []
  | any {V vs us} : KeepL vs us → KeepL (V :: vs) (.any :: us)
  | keep {V vs us} : V.still = true → V.nofre = true → KeepL vs us → KeepL (V :: vs) (V :: us)
  | agg {ds es vs us} : KeepL ds es → KeepL vs us → KeepL (.agg ds :: vs) (.agg es :: us)
theorem KeepL.rel {S : Nat → Prop} {w : World} {ι ι' : Nat → Spot} {vs us : List AV} (h : KeepL vs us) : ∀ {xs f}, LRel S w ι O vs xs f → LRel S w ι' [] us xs [] := by
  induction h with
  | nil => intro xs f hl; cases hl; exact .nil
  | any _ ih =>
    intro xs f hl
    obtain ⟨v, vs', f1, f2, rfl, hv, hr, rfl⟩ := hl.uncons
    exact .any (ih hr)
  | keep hs hn _ ih =>
    intro xs f hl
    obtain ⟨v, vs', f1, f2, rfl, hv, hr, rfl⟩ := hl.uncons
    have := nofre_nil hv hn
    subst this
    have := LRel.cons (still_any hv hs [] (fun _ h => h) (fun _ _ => rfl) (by simp)) (ih hr)
    simpa using this
  | agg _ _ ih1 ih2 =>
    intro xs f hl
    obtain ⟨v, vs', f1, f2, rfl, hv, hr, rfl⟩ := hl.uncons
    obtain ⟨us', rfl, ha⟩ := LRel.agg_inv hv
    have := LRel.agg (ih1 ha) (ih2 hr)
    simpa using this
/-- A call whose arguments all stay: what it returns may be a part of them. -/
theorem WpL.callK {f : FuncId} {xs : List Operand} {ats : Array TypeId} {As : List AV} {r : AV} (hc : FnC P f As [] r) (hs : KeepL (xs.map (av T)) As) (hn : d < n) (h : WpL P n m G false ops l ⟨(d, r) :: T, O⟩ Q) :
    WpL P n m G false ops ({ dst := some d, op := .call { callee := .value (.func f), args := xs.toArray, argTypes := ats }, type := tt, pos := pos, after := after, guard := none } :: l) ⟨T, O⟩ Q :=
  WpL.op rfl (fun a w hr => by
    obtain ⟨S, ι, F, hr⟩ := hr
    obtain ⟨⟨fn, hf, hb, hnm⟩, hcall⟩ := hc
    have hl : LRel S w (fun _ => none) [] As (xs.map a.eval) [] := hs.rel (hr.evals xs)
    have hex : (execOp a.eval { dst := some d, op := .call { callee := .value (.func f), args := xs.toArray, argTypes := ats }, type := tt, pos := pos, after := after, guard := none }).run P w = .ok (.enter f (xs.map a.eval).toArray) w := by
      simp only [execOp, resolve, Act.eval, Deferred.ofValue, invoke, callFunc, Sem.run_bind, Sem.run_pure, Result.andThen_ok, program, Sem.run, hf, hnm, hb, Bool.false_eq_true, if_false]
      simp
    unfold Oper.wp
    rw [hex]
    refine (hcall w S (xs.map a.eval) hr.stable hl).mono fun e w' he => ?_
    obtain ⟨v, S', ι', F', rfl, hS1, hS2, hS3, hO', hF', hv, hk⟩ := he
    show Rel n m G ⟨(d, r) :: T, O⟩ (a.put (some d) v) w'
    have hold : ∀ b, b < w.heap.size → w'.heap[b]? = w.heap[b]? := fun b hb => hk.block b hb (fun h => h)
    have hlat : Later S w ι O S' w' ι O := ⟨hS1, fun b hb => hold b (hr.stable b hb), fun id ob h => ⟨ob, h, .inr ⟨rfl, rfl, rfl⟩⟩⟩
    have hrel : RelAt n m G S' ι F ⟨T, O⟩ a w' := by
      refine ⟨hr.defers, hr.size, fun t => (hr.tmps t).mono hlat (by simp), ⟨fun id ob h => ?_, hr.objs.nodup, hr.objs.apart⟩, fun id h b hb => ?_, ⟨fun b hb => hS1 b (hr.base.1 b hb), fun b hb => ?_⟩, hS3, ?_, hr.spots, hr.mle⟩
      · have h : O[id]? = some ob := h
        have hlt : id < O.length := (List.getElem?_eq_some_iff.1 h).1
        have ho := hr.objs.obj id ob h
        unfold ObjAt at ho ⊢
        cases hs : ι id with
        | none => rw [hs] at ho; exact ho
        | some p =>
          obtain ⟨b, k⟩ := p
          rw [hs] at ho
          obtain ⟨cur', t', fz', f2, h1, h2, h3, h4, h5, h6, h7⟩ := ho
          have key : ∀ b', b' ∈ F id → w'.heap[b']? = w.heap[b']? := fun b' hb' => hold b' (hr.foot id hlt b' hb').2.2
          exact ⟨cur', t', fz', f2, h1, by rw [key b (by rw [h1]; simp)]; exact h2, h3, h4, h5, h6, h7.mono hlat fun b' hb' => key b' (by rw [h1]; simp [hb'])⟩
      · obtain ⟨q1, q2, q3⟩ := hr.foot id h b hb
        refine ⟨q1, fun h' => ?_, by have := hk.size; omega⟩
        rcases hS2 b h' with h2 | h2
        · exact q2 h2
        · omega
      · rcases hS2 b hb with h2 | h2
        · exact hr.base.2 b h2
        · exact .inr (by have := hr.keeps.size; omega)
      · exact ⟨hk.os.trans hr.keeps.os, hk.tape.trans hr.keeps.tape, hk.output.trans hr.keeps.output, by have := hr.keeps.size; have := hk.size; omega, fun b hb hM => by
          rw [hold b (by have := hr.keeps.size; omega)]; exact hr.keeps.block b hb hM⟩
    exact ⟨S', ι, F, hrel.put hn (hv.mono (Later.none O (fun _ h => h) (fun _ _ => rfl)) (by simp))⟩) h
end
/-- What is seen of objects, where all their blocks stay. -/
theorem Snap.relG {O : List AObj} {S S2 : Nat → Prop} {w : World} {ι ι' : Nat → Spot} {vs us : List AV} (h : Snap O vs us) : ∀ {F xs f}, ORel S w ι O F → (∀ b, S b → S2 b) → (∀ id, id < O.length → ∀ b ∈ F id, S2 b) → (∀ b ∈ f, S2 b) → LRel S w ι O vs xs f → LRel S2 w ι' [] us xs [] := by
  induction h with
  | nil => intro F xs f _ _ _ _ hl; cases hl; exact .nil
  | any _ ih =>
    intro F xs f ho hS hF hf hl
    obtain ⟨v, vs', f1, f2, rfl, hv, hr, rfl⟩ := hl.uncons
    exact .any (ih ho hS hF (fun b hb => hf b (List.mem_append_right _ hb)) hr)
  | keep hs hn _ ih =>
    intro F xs f ho hS hF hf hl
    obtain ⟨v, vs', f1, f2, rfl, hv, hr, rfl⟩ := hl.uncons
    have := nofre_nil hv hn
    subst this
    have := LRel.cons (still_any hv hs [] hS (fun _ _ => rfl) (by simp)) (ih ho hS hF (fun b hb => hf b (List.mem_append_right _ hb)) hr)
    simpa using this
  | fn _ _ ih1 ih2 =>
    intro F xs f ho hS hF hf hl
    obtain ⟨v, vs', f1, f2, rfl, hv, hr, rfl⟩ := hl.uncons
    cases hv with | fn a r => cases r; exact .fn (ih1 ho hS hF (by simp) a) (ih2 ho hS hF (fun b hb => hf b (List.mem_append_right _ hb)) hr)
  | nilI _ ih =>
    intro F xs f ho hS hF hf hl
    obtain ⟨v, vs', f1, f2, rfl, hv, hr, rfl⟩ := hl.uncons
    have := (LRel.slice_len hv).2.2 rfl
    subst this
    exact .imm0 (by simp) (ih ho hS hF (fun b hb => hf b (List.mem_append_right _ hb)) hr)
  | @own id ep len len' sz ob es vs us hob hep hsz hlen hll _ _ ih1 ih2 =>
    intro F xs f ho hS hF hf hl
    subst hll hsz
    obtain ⟨v, vs', f1, f2, rfl, hv, hr, rfl⟩ := hl.uncons
    have hr2 := ih2 ho hS hF (fun b hb => hf b (List.mem_append_right _ hb)) hr
    have hidl := (List.getElem?_eq_some_iff.1 hob).1
    have hoa := ho.obj id ob hob
    unfold ObjAt at hoa
    cases hv with
    | own q1 q2 q3 r =>
      rw [hob] at q1; cases q1
      have hc := q3 hep.symm
      cases hs : ι id with
      | none =>
        rw [hs] at hc hoa
        obtain ⟨h1, _, h3⟩ := hc
        subst h1; subst h3
        have : es = [] := by
          have := ih1 (xs := []) (f := []) ho hS hF (by simp) (by rw [hoa.1]; exact .nil)
          cases this; rfl
        subst this
        exact .imm0 (by simp) hr2
      | some p =>
        obtain ⟨b, k⟩ := p
        rw [hs] at hc hoa
        obtain ⟨cap, h1, _, h3, h4⟩ := hc
        obtain ⟨cur, t, fz, f', hFe, hh, _, _, _, _, hl'⟩ := hoa
        subst h1
        have hi := ih1 ho hS hF (fun b' hb' => hF id hidl b' (by rw [hFe]; simp [hb'])) hl'
        refine .imm (us := cur.toList.take ob.cells.length) (hF id hidl b (by rw [hFe]; simp)) (fun i hi => cell_of_heap hh _ i hi) hi ?_ h3 h4 hr2
        rw [hlen, hl'.len, hi.len]
  | @ownO id ep off len len' sz ob ds es vs us hob hep hsz hds hlen hll _ _ ih1 ih2 =>
    intro F xs f ho hS hF hf hl
    subst hll hsz hds
    obtain ⟨v, vs', f1, f2, rfl, hv, hr, rfl⟩ := hl.uncons
    have hr2 := ih2 ho hS hF (fun b hb => hf b (List.mem_append_right _ hb)) hr
    have hidl := (List.getElem?_eq_some_iff.1 hob).1
    have hoa := ho.obj id ob hob
    unfold ObjAt at hoa
    cases hv with
    | own q1 q2 q3 r =>
      rw [hob] at q1; cases q1
      have hc := q3 hep.symm
      cases hs : ι id with
      | none =>
        rw [hs] at hc hoa
        obtain ⟨h1, h2, h3⟩ := hc
        subst h1; subst h3
        have : es = [] := by
          have := ih1 (xs := []) (f := []) ho hS hF (by simp) (by rw [hoa.1]; simpa using .nil)
          cases this; rfl
        subst this
        exact .imm0 (by simp) hr2
      | some p =>
        obtain ⟨b, k⟩ := p
        rw [hs] at hc hoa
        obtain ⟨cap, h1, _, h3, h4⟩ := hc
        obtain ⟨cur, t, fz, f', hFe, hh, _, _, _, _, hl'⟩ := hoa
        subst h1
        obtain ⟨g, hld, hgm, _⟩ := hl'.drop off
        have hi := ih1 ho hS hF (fun b' hb' => hF id hidl b' (by rw [hFe]; simp [hgm b' hb'])) hld
        refine .imm (us := (cur.toList.take ob.cells.length).drop off) (hF id hidl b (by rw [hFe]; simp)) (fun i hi => ?_) hi ?_ h3 h4 hr2
        · have := cell_of_heap hh ob.cells.length (off + i) (by simp only [List.length_drop] at hi; omega)
          rw [Nat.zero_add] at this
          rw [this, List.getElem?_drop]
        · rw [hlen, hld.len, hi.len]
  | @fre s l ds es vs us _ _ ih1 ih2 =>
    intro F xs f ho hS hF hf hl
    obtain ⟨v, vs', f1, f2, rfl, hv, hr, rfl⟩ := hl.uncons
    have hr2 := ih2 ho hS hF (fun b hb => hf b (List.mem_append_right _ hb)) hr
    cases hv with
    | fre0 r =>
      have := ih1 (xs := []) (f := []) ho hS hF (by simp) .nil
      cases this
      exact .imm0 (by simp) hr2
    | @fre _ _ b _ cap cur t fz _ us' f' _ _ _ hh0 hsz hu hl' h1 h2 h3 r =>
      have hh := hh0.1
      cases r
      have hi := ih1 ho hS hF (fun b' hb' => hf b' (by simp [hb'])) hl'.lift
      subst hu
      refine .imm (us := cur.toList.take ds.length) (hf b (by simp)) (fun i hi => cell_of_heap hh _ i hi) hi ?_ h2 h3 hr2
      rw [h1, hl'.len, hi.len]
  | @ptr id ep off ob es vs us hob hep _ _ ih1 ih2 =>
    intro F xs f ho hS hF hf hl
    obtain ⟨v, vs', f1, f2, rfl, hv, hr, rfl⟩ := hl.uncons
    have hr2 := ih2 ho hS hF (fun b hb => hf b (List.mem_append_right _ hb)) hr
    have hidl := (List.getElem?_eq_some_iff.1 hob).1
    have hoa := ho.obj id ob hob
    unfold ObjAt at hoa
    cases hv with
    | ptr q1 q2 q3 r =>
      rw [hob] at q1; cases q1
      have hc := q3 hep.symm
      cases hs : ι id with
      | none => rw [hs] at hc; exact hc.elim
      | some p =>
        obtain ⟨b, k⟩ := p
        rw [hs] at hc hoa
        obtain ⟨cur, t, fz, f', hFe, hh, _, _, _, _, hl'⟩ := hoa
        have h1 : _ = Value.pointer (some ⟨b, off, none⟩) := hc
        subst h1
        have := LRel.iptr (O := []) (ι := ι') (off := off) (S := S2) (us := cur.toList.take ob.cells.length) (hF id hidl b (by rw [hFe]; simp)) (fun i hi => cell_of_heap hh _ i hi) (ih1 ho hS hF (fun b' hb' => hF id hidl b' (by rw [hFe]; simp [hb'])) hl') hr2
        rwa [Nat.zero_add] at this
  | agg _ _ ih1 ih2 =>
    intro F xs f ho hS hF hf hl
    obtain ⟨v, vs', f1, f2, rfl, hv, hr, rfl⟩ := hl.uncons
    obtain ⟨us', rfl, ha⟩ := LRel.agg_inv hv
    have := LRel.agg (ih1 ho hS hF (fun b hb => hf b (List.mem_append_left _ hb)) ha) (ih2 ho hS hF (fun b hb => hf b (List.mem_append_right _ hb)) hr)
    simpa using this
/-- What a function made, if nobody turns it, lies in memory that stays: one value. -/
theorem FnC.still {P : Program} {f : FuncId} {args : List AV} {N : List AObj} {r r' : AV} (hc : FnC P f args N r) (hs : Snap N [r] [r']) : FnC P f args [] r' := by
  refine ⟨hc.1, fun w S vs hS hl => (hc.2 w S vs hS hl).mono fun e w' he => ?_⟩
  obtain ⟨v, S', ι, F, rfl, h1, h2, h3, ho, hF, hv, hk⟩ := he
  refine ⟨v, fun b => S' b ∨ ∃ id, id < N.length ∧ b ∈ F id, fun _ => none, fun _ => [], rfl, fun b hb => .inl (h1 b hb), ?_, ?_, ⟨by simp, by simp, by simp⟩, by simp, ?_, hk⟩
  · rintro b (hb | ⟨id, hid, hb⟩)
    · exact h2 b hb
    · exact .inr (hF id hid b hb).1
  · rintro b (hb | ⟨id, hid, hb⟩)
    · exact h3 b hb
    · exact (hF id hid b hb).2.2
  · exact hs.relG ho (fun b hb => .inl hb) (fun id hid b hb => .inr ⟨id, hid, hb⟩) (by simp) hv
theorem ORel.bare {S' : Nat → Prop} {w' : World} {ι' : Nat → Spot} {N : List AObj} {F' : Nat → List Nat} (hO : ORel S' w' ι' N F') (hN : Out N) : ORel (fun _ => False) w' ι' N F' := by
  refine ⟨fun id ob h => ?_, hO.nodup, hO.apart⟩
  have ho := hO.obj id ob h
  unfold ObjAt at ho ⊢
  cases hs : ι' id with
  | none => rw [hs] at ho; exact ho
  | some p =>
    obtain ⟨b, k⟩ := p
    rw [hs] at ho
    obtain ⟨cur', t', fz', f2, h1, h2, h3, h4, h5, h6, h7⟩ := ho
    exact ⟨cur', t', fz', f2, h1, h2, h3, h4, h5, h6, Loc.rel (hN.at h).2 h7⟩
/-- What is seen of a result. -/
inductive FrzR (N : List AObj) : AV → AV → Prop
  | tup {rs rs' : List AV} : Snap N rs rs' → FrzR N (.tup rs) (.tup rs')
  | one {r r' : AV} : Snap N [r] [r'] → FrzR N r r'
theorem FrzR.rel {O : List AObj} {S S2 : Nat → Prop} {w : World} {ι ι' : Nat → Spot} {F : Nat → List Nat} {r r' : AV} {v : Value} (h : FrzR O r r') (ho : ORel S w ι O F) (hS : ∀ b, S b → S2 b) (hF : ∀ id, id < O.length → ∀ b ∈ F id, S2 b) (hl : VRel S w ι O r v []) : VRel S2 w ι' [] r' v [] := by
  cases h with
  | tup hs =>
    obtain ⟨us, rfl, hl'⟩ := LRel.tup_inv hl
    have h9 : LRel S2 w ι' [] _ us [] := hs.relG ho hS hF (by simp) hl'
    have := LRel.tup h9 .nil
    simpa using this
  | one hs => exact hs.relG ho hS hF (by simp) hl
section
variable {P : Program} {n m : Nat} {G : Ctx} {T : List (Nat × AV)} {O : List AObj} {Q : Exit → St → Prop} {ops : Array Oper} {l : List Oper} {d : Nat} {tt : TypeId} {pos : String} {after : Array Edge}
end
end Go.Abs

/- Heads of regions: operations that bear guards that hold, calls whose results stay. Written by a program of mine (mkgo.py). No condition. -/
namespace Go.Proofs.Ytpokokcgoebbhaa
open Go Go.Abs
set_option linter.unusedVariables false
set_option linter.unusedSimpArgs false
set_option maxRecDepth 100000
theorem inG {X : Prop} (h : X := by
  (repeat' (first
     | refine fun hgo => ?_
     | exact Only.mk rfl
     | refine WpL.nil ?_
     | (refine K.L ?_; first
       | (refine K.gd ?_; first
         | refine K.gT rfl (by decide) rfl ?_
         | refine K.gF rfl (by decide) rfl ?_)
       | (refine K.mv ?_; refine WpL.move rfl (by decide) ?_)
       | (refine K.asg ?_; refine WpL.assign rfl (by decide) ?_)
       | (refine K.bin ?_; first
         | refine WpL.add rfl rfl (by omega) (by decide) ?_
         | refine WpL.sub rfl rfl (by omega) (by decide) ?_
         | refine WpL.mul rfl rfl (by first | omega | exact mul_in (by omega) (by omega) | assumption) (by decide) ?_
         | refine WpL.quo rfl rfl (by omega) (by decide) ?_
         | refine WpL.rem rfl rfl (by omega) (by decide) ?_
         | refine WpL.bin rfl rfl rfl (by decide) ?_
         | refine WpL.nilEq (TabOk.slice tabOk rfl).1 rfl rfl (by decide) ?_
         | refine WpL.ownEq (TabOk.slice tabOk rfl).1 rfl rfl rfl (by first | rfl | omega | (simp; done) | (simp; omega)) rfl (by decide) ?_
         | refine WpL.shl rfl rfl (by first | decide | (simp only [IntKind.bits]; omega)) (by decide) ?_
         | refine WpL.shr rfl rfl (by first | decide | (simp only [IntKind.bits]; omega)) (by decide) ?_)
       | (refine K.ld ?_; first
         | refine WpL.loadInts tabOk rfl rfl rfl (by first | omega | (simp; omega)) (by decide) ?_
         | refine WpL.loadU8s tabOk rfl rfl rfl (by first | omega | (simp; omega)) (by decide) ?_
         | refine WpL.loadRow tabOk rfl rfl (fun _ => rfl) (fun _ => rfl) (by first | rfl | omega | (simp; done) | (simp; omega)) (by decide) rfl ?_
         | refine WpL.loadField tabOk rfl rfl rfl (fun _ => rfl) rfl rfl (by first | rfl | omega | (simp; done) | (simp; omega)) (by decide) ?_
         | refine WpL.loadOwn tabOk rfl rfl rfl rfl (fun _ => rfl) rfl (by first | rfl | omega | (simp; done) | (simp; omega)) (by decide) rfl ?_
         | refine WpL.load1 tabOk rfl rfl rfl rfl rfl (by decide) ?_
         | refine WpL.loadAgg (ds := [_]) tabOk rfl rfl rfl rfl rfl (by decide) ?_
         | refine WpL.loadAgg (ds := [_, _]) tabOk rfl rfl rfl rfl rfl (by decide) ?_
         | refine WpL.loadAgg (ds := [_, _, _]) tabOk rfl rfl rfl rfl rfl (by decide) ?_
         | refine WpL.loadAgg (ds := [_, _, _, _]) tabOk rfl rfl rfl rfl rfl (by decide) ?_
         | refine WpL.loadAgg (ds := [_, _, _, _, _]) tabOk rfl rfl rfl rfl rfl (by decide) ?_
         | refine WpL.loadAgg (ds := [_, _, _, _, _, _]) tabOk rfl rfl rfl rfl rfl (by decide) ?_
         | refine WpL.loadAgg (ds := [_, _, _, _, _, _, _]) tabOk rfl rfl rfl rfl rfl (by decide) ?_
         | refine WpL.loadAgg (ds := [_, _, _, _, _, _, _, _]) tabOk rfl rfl rfl rfl rfl (by decide) ?_
         | refine WpL.loadLi tabOk rfl rfl rfl (by first | rfl | omega | (simp; done) | (simp; omega)) (by decide) ?_)
       | (refine K.fld ?_; first
         | refine WpL.fieldI tabOk rfl rfl rfl (by decide) ?_
         | refine WpL.fieldP tabOk rfl rfl rfl rfl rfl (by decide) ?_)
       | (refine K.ixa ?_; first
         | refine WpL.idxI1 tabOk rfl rfl rfl (by omega) (by decide) ?_
         | refine WpL.idxIJ tabOk rfl rfl rfl (by omega) (by decide) ?_
         | refine WpL.idxOJ tabOk rfl rfl rfl rfl rfl (by omega) (by decide) ?_
         | refine WpL.idxIN tabOk rfl rfl rfl (by omega) (by decide) ?_
         | refine WpL.idxON tabOk rfl rfl rfl rfl rfl (by omega) (by decide) ?_
         | refine WpL.idxI tabOk rfl rfl rfl (by omega) (by decide) ?_
         | refine WpL.idxO tabOk rfl rfl rfl rfl rfl (by omega) (by decide) ?_)
       | (refine K.call ?_; refine K.con (fun hcon => ?_); first
         | (refine WpL.callF (hcon ?_) snapA locA outA rfl rfl rfl (by decide) ?_ <;> clear hcon)
         | (refine WpL.callF (hcon) snapA locA outA rfl rfl rfl (by decide) ?_ <;> clear hcon)
         | (refine WpL.callF (hcon _ ?_) snapA locA outA rfl rfl rfl (by decide) ?_ <;> clear hcon)
         | (refine WpL.callF (hcon _) snapA locA outA rfl rfl rfl (by decide) ?_ <;> clear hcon)
         | (refine WpL.callF (hcon _ _ ?_) snapA locA outA rfl rfl rfl (by decide) ?_ <;> clear hcon)
         | (refine WpL.callF (hcon _ _) snapA locA outA rfl rfl rfl (by decide) ?_ <;> clear hcon)
         | (refine WpL.callF (hcon _ _ _ ?_) snapA locA outA rfl rfl rfl (by decide) ?_ <;> clear hcon)
         | (refine WpL.callF (hcon _ _ _) snapA locA outA rfl rfl rfl (by decide) ?_ <;> clear hcon)
         | (refine WpL.callF (hcon _ _ _ _ ?_) snapA locA outA rfl rfl rfl (by decide) ?_ <;> clear hcon)
         | (refine WpL.callF (hcon _ _ _ _) snapA locA outA rfl rfl rfl (by decide) ?_ <;> clear hcon)
         | (refine WpL.callF (hcon _ _ _ _ _ ?_) snapA locA outA rfl rfl rfl (by decide) ?_ <;> clear hcon)
         | (refine WpL.callF (hcon _ _ _ _ _) snapA locA outA rfl rfl rfl (by decide) ?_ <;> clear hcon)
         | (refine WpL.callF (hcon _ _ _ _ _ _ ?_) snapA locA outA rfl rfl rfl (by decide) ?_ <;> clear hcon)
         | (refine WpL.callF (hcon _ _ _ _ _ _) snapA locA outA rfl rfl rfl (by decide) ?_ <;> clear hcon)
         | (refine WpL.callF (hcon _ _ _ _ _ _ _ ?_) snapA locA outA rfl rfl rfl (by decide) ?_ <;> clear hcon)
         | (refine WpL.callF (hcon _ _ _ _ _ _ _) snapA locA outA rfl rfl rfl (by decide) ?_ <;> clear hcon)
         | (refine WpL.callF (hcon _ _ _ _ _ _ _ _ ?_) snapA locA outA rfl rfl rfl (by decide) ?_ <;> clear hcon)
         | (refine WpL.callF (hcon _ _ _ _ _ _ _ _) snapA locA outA rfl rfl rfl (by decide) ?_ <;> clear hcon)
         | (refine WpL.callF (hcon _ _ _ _ _ _ _ _ _ ?_) snapA locA outA rfl rfl rfl (by decide) ?_ <;> clear hcon)
         | (refine WpL.callF (hcon _ _ _ _ _ _ _ _ _) snapA locA outA rfl rfl rfl (by decide) ?_ <;> clear hcon)
         | (refine WpL.callF (hcon _ _ _ _ _ _ _ _ _ _ ?_) snapA locA outA rfl rfl rfl (by decide) ?_ <;> clear hcon)
         | (refine WpL.callF (hcon _ _ _ _ _ _ _ _ _ _) snapA locA outA rfl rfl rfl (by decide) ?_ <;> clear hcon)
         | (refine WpL.callF (hcon _ _ _ _ _ _ _ _ _ _ _ ?_) snapA locA outA rfl rfl rfl (by decide) ?_ <;> clear hcon)
         | (refine WpL.callF (hcon _ _ _ _ _ _ _ _ _ _ _) snapA locA outA rfl rfl rfl (by decide) ?_ <;> clear hcon)
         | (refine WpL.callF (hcon _ _ _ _ _ _ _ _ _ _ _ _ ?_) snapA locA outA rfl rfl rfl (by decide) ?_ <;> clear hcon)
         | (refine WpL.callF (hcon _ _ _ _ _ _ _ _ _ _ _ _) snapA locA outA rfl rfl rfl (by decide) ?_ <;> clear hcon)
         | (refine WpL.callF (hcon _ _ _ _ _ _ _ _ _ _ _ _ _ ?_) snapA locA outA rfl rfl rfl (by decide) ?_ <;> clear hcon)
         | (refine WpL.callF (hcon _ _ _ _ _ _ _ _ _ _ _ _ _) snapA locA outA rfl rfl rfl (by decide) ?_ <;> clear hcon)
         | (refine WpL.callF (hcon _ _ _ _ _ _ _ _ _ _ _ _ _ _ ?_) snapA locA outA rfl rfl rfl (by decide) ?_ <;> clear hcon)
         | (refine WpL.callF (hcon _ _ _ _ _ _ _ _ _ _ _ _ _ _) snapA locA outA rfl rfl rfl (by decide) ?_ <;> clear hcon)
         | (refine WpL.callF (hcon _ _ _ _ _ _ _ _ _ _ _ _ _ _ _ ?_) snapA locA outA rfl rfl rfl (by decide) ?_ <;> clear hcon)
         | (refine WpL.callF (hcon _ _ _ _ _ _ _ _ _ _ _ _ _ _ _) snapA locA outA rfl rfl rfl (by decide) ?_ <;> clear hcon)
         | (refine WpL.callF (hcon _ _ _ _ _ _ _ _ _ _ _ _ _ _ _ _ ?_) snapA locA outA rfl rfl rfl (by decide) ?_ <;> clear hcon)
         | (refine WpL.callF (hcon _ _ _ _ _ _ _ _ _ _ _ _ _ _ _ _) snapA locA outA rfl rfl rfl (by decide) ?_ <;> clear hcon)
         | (refine WpL.callF (hcon _ _ _ _ _ _ _ _ _ _ _ _ _ _ _ _ _ ?_) snapA locA outA rfl rfl rfl (by decide) ?_ <;> clear hcon)
         | (refine WpL.callF (hcon _ _ _ _ _ _ _ _ _ _ _ _ _ _ _ _ _) snapA locA outA rfl rfl rfl (by decide) ?_ <;> clear hcon)
         | (refine WpL.callF (hcon _ _ _ _ _ _ _ _ _ _ _ _ _ _ _ _ _ _ ?_) snapA locA outA rfl rfl rfl (by decide) ?_ <;> clear hcon)
         | (refine WpL.callF (hcon _ _ _ _ _ _ _ _ _ _ _ _ _ _ _ _ _ _) snapA locA outA rfl rfl rfl (by decide) ?_ <;> clear hcon))
       | (refine K.call ?_; refine K.conG (fun hcon => ?_); first
         | (refine WpL.callM0 (hs := [_, _, _, _]) (hcon _ _ _ _ _ _ _ _) handA handOA rfl rfl outA outA rfl rfl rfl rfl ?_ <;> clear hcon))
       | (refine K.call ?_; refine K.conB (fun hcon => ?_); first
         | (refine WpL.callB (hcon ?_) snapA locA outA locA outA rfl rfl rfl rfl rfl (by decide) ?_ ?_ <;> clear hcon)
         | (refine WpL.callB (hcon) snapA locA outA locA outA rfl rfl rfl rfl rfl (by decide) ?_ ?_ <;> clear hcon)
         | (refine WpL.callB (hcon _ ?_) snapA locA outA locA outA rfl rfl rfl rfl rfl (by decide) ?_ ?_ <;> clear hcon)
         | (refine WpL.callB (hcon _) snapA locA outA locA outA rfl rfl rfl rfl rfl (by decide) ?_ ?_ <;> clear hcon)
         | (refine WpL.callB (hcon _ _ ?_) snapA locA outA locA outA rfl rfl rfl rfl rfl (by decide) ?_ ?_ <;> clear hcon)
         | (refine WpL.callB (hcon _ _) snapA locA outA locA outA rfl rfl rfl rfl rfl (by decide) ?_ ?_ <;> clear hcon)
         | (refine WpL.callB (hcon _ _ _ ?_) snapA locA outA locA outA rfl rfl rfl rfl rfl (by decide) ?_ ?_ <;> clear hcon)
         | (refine WpL.callB (hcon _ _ _) snapA locA outA locA outA rfl rfl rfl rfl rfl (by decide) ?_ ?_ <;> clear hcon)
         | (refine WpL.callB (hcon _ _ _ _ ?_) snapA locA outA locA outA rfl rfl rfl rfl rfl (by decide) ?_ ?_ <;> clear hcon)
         | (refine WpL.callB (hcon _ _ _ _) snapA locA outA locA outA rfl rfl rfl rfl rfl (by decide) ?_ ?_ <;> clear hcon)
         | (refine WpL.callB (hcon _ _ _ _ _ ?_) snapA locA outA locA outA rfl rfl rfl rfl rfl (by decide) ?_ ?_ <;> clear hcon)
         | (refine WpL.callB (hcon _ _ _ _ _) snapA locA outA locA outA rfl rfl rfl rfl rfl (by decide) ?_ ?_ <;> clear hcon)
         | (refine WpL.callB (hcon _ _ _ _ _ _ ?_) snapA locA outA locA outA rfl rfl rfl rfl rfl (by decide) ?_ ?_ <;> clear hcon)
         | (refine WpL.callB (hcon _ _ _ _ _ _) snapA locA outA locA outA rfl rfl rfl rfl rfl (by decide) ?_ ?_ <;> clear hcon)
         | (refine WpL.callB (hcon _ _ _ _ _ _ _ ?_) snapA locA outA locA outA rfl rfl rfl rfl rfl (by decide) ?_ ?_ <;> clear hcon)
         | (refine WpL.callB (hcon _ _ _ _ _ _ _) snapA locA outA locA outA rfl rfl rfl rfl rfl (by decide) ?_ ?_ <;> clear hcon)
         | (refine WpL.callB (hcon _ _ _ _ _ _ _ _ ?_) snapA locA outA locA outA rfl rfl rfl rfl rfl (by decide) ?_ ?_ <;> clear hcon)
         | (refine WpL.callB (hcon _ _ _ _ _ _ _ _) snapA locA outA locA outA rfl rfl rfl rfl rfl (by decide) ?_ ?_ <;> clear hcon))
       | (refine K.call ?_; refine K.conP (fun hcon => ?_); first
         | (refine WpL.callP (hs := [_]) (hcon ?_) (by assumption) handA handOA rfl rfl (.cons rfl (.sc (.sc (.sc .nil))) .nil) outA rfl rfl rfl rfl (by decide) ?_ <;> clear hcon)
         | (refine WpL.callP (hs := [_]) (hcon) (by assumption) handA handOA rfl rfl (.cons rfl (.sc (.sc (.sc .nil))) .nil) outA rfl rfl rfl rfl (by decide) ?_ <;> clear hcon)
         | (refine WpL.callP (hs := [_]) (hcon _ ?_) (by assumption) handA handOA rfl rfl (.cons rfl (.sc (.sc (.sc .nil))) .nil) outA rfl rfl rfl rfl (by decide) ?_ <;> clear hcon)
         | (refine WpL.callP (hs := [_]) (hcon _) (by assumption) handA handOA rfl rfl (.cons rfl (.sc (.sc (.sc .nil))) .nil) outA rfl rfl rfl rfl (by decide) ?_ <;> clear hcon)
         | (refine WpL.callP (hs := [_]) (hcon _ _ ?_) (by assumption) handA handOA rfl rfl (.cons rfl (.sc (.sc (.sc .nil))) .nil) outA rfl rfl rfl rfl (by decide) ?_ <;> clear hcon)
         | (refine WpL.callP (hs := [_]) (hcon _ _) (by assumption) handA handOA rfl rfl (.cons rfl (.sc (.sc (.sc .nil))) .nil) outA rfl rfl rfl rfl (by decide) ?_ <;> clear hcon)
         | (refine WpL.callP (hs := [_]) (hcon _ _ _ ?_) (by assumption) handA handOA rfl rfl (.cons rfl (.sc (.sc (.sc .nil))) .nil) outA rfl rfl rfl rfl (by decide) ?_ <;> clear hcon)
         | (refine WpL.callP (hs := [_]) (hcon _ _ _) (by assumption) handA handOA rfl rfl (.cons rfl (.sc (.sc (.sc .nil))) .nil) outA rfl rfl rfl rfl (by decide) ?_ <;> clear hcon)
         | (refine WpL.callP (hs := [_]) (hcon _ _ _ _ ?_) (by assumption) handA handOA rfl rfl (.cons rfl (.sc (.sc (.sc .nil))) .nil) outA rfl rfl rfl rfl (by decide) ?_ <;> clear hcon)
         | (refine WpL.callP (hs := [_]) (hcon _ _ _ _) (by assumption) handA handOA rfl rfl (.cons rfl (.sc (.sc (.sc .nil))) .nil) outA rfl rfl rfl rfl (by decide) ?_ <;> clear hcon)
         | (refine WpL.callP (hs := [_]) (hcon _ _ _ _ _ ?_) (by assumption) handA handOA rfl rfl (.cons rfl (.sc (.sc (.sc .nil))) .nil) outA rfl rfl rfl rfl (by decide) ?_ <;> clear hcon)
         | (refine WpL.callP (hs := [_]) (hcon _ _ _ _ _) (by assumption) handA handOA rfl rfl (.cons rfl (.sc (.sc (.sc .nil))) .nil) outA rfl rfl rfl rfl (by decide) ?_ <;> clear hcon)
         | (refine WpL.callP (hs := [_]) (hcon _ _ _ _ _ _ ?_) (by assumption) handA handOA rfl rfl (.cons rfl (.sc (.sc (.sc .nil))) .nil) outA rfl rfl rfl rfl (by decide) ?_ <;> clear hcon)
         | (refine WpL.callP (hs := [_]) (hcon _ _ _ _ _ _) (by assumption) handA handOA rfl rfl (.cons rfl (.sc (.sc (.sc .nil))) .nil) outA rfl rfl rfl rfl (by decide) ?_ <;> clear hcon)
         | (refine WpL.callP (hs := [_]) (hcon _ _ _ _ _ _ _ ?_) (by assumption) handA handOA rfl rfl (.cons rfl (.sc (.sc (.sc .nil))) .nil) outA rfl rfl rfl rfl (by decide) ?_ <;> clear hcon)
         | (refine WpL.callP (hs := [_]) (hcon _ _ _ _ _ _ _) (by assumption) handA handOA rfl rfl (.cons rfl (.sc (.sc (.sc .nil))) .nil) outA rfl rfl rfl rfl (by decide) ?_ <;> clear hcon)
         | (refine WpL.callP (hs := [_]) (hcon _ _ _ _ _ _ _ _ ?_) (by assumption) handA handOA rfl rfl (.cons rfl (.sc (.sc (.sc .nil))) .nil) outA rfl rfl rfl rfl (by decide) ?_ <;> clear hcon)
         | (refine WpL.callP (hs := [_]) (hcon _ _ _ _ _ _ _ _) (by assumption) handA handOA rfl rfl (.cons rfl (.sc (.sc (.sc .nil))) .nil) outA rfl rfl rfl rfl (by decide) ?_ <;> clear hcon)
         | (refine WpL.callP (hs := [_]) (hcon _ _ _ _ _ _ _ _ _ ?_) (by assumption) handA handOA rfl rfl (.cons rfl (.sc (.sc (.sc .nil))) .nil) outA rfl rfl rfl rfl (by decide) ?_ <;> clear hcon)
         | (refine WpL.callP (hs := [_]) (hcon _ _ _ _ _ _ _ _ _) (by assumption) handA handOA rfl rfl (.cons rfl (.sc (.sc (.sc .nil))) .nil) outA rfl rfl rfl rfl (by decide) ?_ <;> clear hcon)
         | (refine WpL.callP (hs := [_]) (hcon _ _ _ _ _ _ _ _ _ _ ?_) (by assumption) handA handOA rfl rfl (.cons rfl (.sc (.sc (.sc .nil))) .nil) outA rfl rfl rfl rfl (by decide) ?_ <;> clear hcon)
         | (refine WpL.callP (hs := [_]) (hcon _ _ _ _ _ _ _ _ _ _) (by assumption) handA handOA rfl rfl (.cons rfl (.sc (.sc (.sc .nil))) .nil) outA rfl rfl rfl rfl (by decide) ?_ <;> clear hcon))
       | (refine K.callT ?_; refine K.conV rfl (fun hcon => ?_); first
         | (refine WpL.callVF rfl (hcon ?_) rfl snapA locA outA rfl rfl rfl (by decide) ?_ <;> clear hcon)
         | (refine WpL.callVF rfl (hcon) rfl snapA locA outA rfl rfl rfl (by decide) ?_ <;> clear hcon)
         | (refine WpL.callVF rfl (hcon _ ?_) rfl snapA locA outA rfl rfl rfl (by decide) ?_ <;> clear hcon)
         | (refine WpL.callVF rfl (hcon _) rfl snapA locA outA rfl rfl rfl (by decide) ?_ <;> clear hcon)
         | (refine WpL.callVF rfl (hcon _ _ ?_) rfl snapA locA outA rfl rfl rfl (by decide) ?_ <;> clear hcon)
         | (refine WpL.callVF rfl (hcon _ _) rfl snapA locA outA rfl rfl rfl (by decide) ?_ <;> clear hcon)
         | (refine WpL.callVF rfl (hcon _ _ _ ?_) rfl snapA locA outA rfl rfl rfl (by decide) ?_ <;> clear hcon)
         | (refine WpL.callVF rfl (hcon _ _ _) rfl snapA locA outA rfl rfl rfl (by decide) ?_ <;> clear hcon)
         | (refine WpL.callVF rfl (hcon _ _ _ _ ?_) rfl snapA locA outA rfl rfl rfl (by decide) ?_ <;> clear hcon)
         | (refine WpL.callVF rfl (hcon _ _ _ _) rfl snapA locA outA rfl rfl rfl (by decide) ?_ <;> clear hcon)
         | (refine WpL.callVF rfl (hcon _ _ _ _ _ ?_) rfl snapA locA outA rfl rfl rfl (by decide) ?_ <;> clear hcon)
         | (refine WpL.callVF rfl (hcon _ _ _ _ _) rfl snapA locA outA rfl rfl rfl (by decide) ?_ <;> clear hcon)
         | (refine WpL.callVF rfl (hcon _ _ _ _ _ _ ?_) rfl snapA locA outA rfl rfl rfl (by decide) ?_ <;> clear hcon)
         | (refine WpL.callVF rfl (hcon _ _ _ _ _ _) rfl snapA locA outA rfl rfl rfl (by decide) ?_ <;> clear hcon)
         | (refine WpL.callVF rfl (hcon _ _ _ _ _ _ _ ?_) rfl snapA locA outA rfl rfl rfl (by decide) ?_ <;> clear hcon)
         | (refine WpL.callVF rfl (hcon _ _ _ _ _ _ _) rfl snapA locA outA rfl rfl rfl (by decide) ?_ <;> clear hcon)
         | (refine WpL.callVF rfl (hcon _ _ _ _ _ _ _ _ ?_) rfl snapA locA outA rfl rfl rfl (by decide) ?_ <;> clear hcon)
         | (refine WpL.callVF rfl (hcon _ _ _ _ _ _ _ _) rfl snapA locA outA rfl rfl rfl (by decide) ?_ <;> clear hcon)
         | (refine WpL.callVF rfl (hcon _ _ _ _ _ _ _ _ _ ?_) rfl snapA locA outA rfl rfl rfl (by decide) ?_ <;> clear hcon)
         | (refine WpL.callVF rfl (hcon _ _ _ _ _ _ _ _ _) rfl snapA locA outA rfl rfl rfl (by decide) ?_ <;> clear hcon)
         | (refine WpL.callVF rfl (hcon _ _ _ _ _ _ _ _ _ _ ?_) rfl snapA locA outA rfl rfl rfl (by decide) ?_ <;> clear hcon)
         | (refine WpL.callVF rfl (hcon _ _ _ _ _ _ _ _ _ _) rfl snapA locA outA rfl rfl rfl (by decide) ?_ <;> clear hcon)
         | (refine WpL.callVF rfl (hcon _ _ _ _ _ _ _ _ _ _ _ ?_) rfl snapA locA outA rfl rfl rfl (by decide) ?_ <;> clear hcon)
         | (refine WpL.callVF rfl (hcon _ _ _ _ _ _ _ _ _ _ _) rfl snapA locA outA rfl rfl rfl (by decide) ?_ <;> clear hcon)
         | (refine WpL.callVF rfl (hcon _ _ _ _ _ _ _ _ _ _ _ _ ?_) rfl snapA locA outA rfl rfl rfl (by decide) ?_ <;> clear hcon)
         | (refine WpL.callVF rfl (hcon _ _ _ _ _ _ _ _ _ _ _ _) rfl snapA locA outA rfl rfl rfl (by decide) ?_ <;> clear hcon))
       | (refine K.mkF ?_; refine WpL.makeFunc rfl (by decide) ?_)
       | (refine K.bi ?_; first
         | (refine K.blen ?_; first
           | refine WpL.lenImm (TabOk.slice tabOk rfl).1 rfl (by decide) ?_
           | refine WpL.lenOwn (TabOk.slice tabOk rfl).1 rfl rfl rfl (by decide) ?_
           | refine WpL.lenNil (TabOk.slice tabOk rfl).1 rfl (by decide) ?_
           | refine WpL.lenStr (K.tyStr tabOk rfl) rfl (by decide) ?_)
         | (refine K.bapp ?_; first
           | refine WpL.app1Ints tabOk rfl rfl rfl (by first | exact Nat.zero_le _ | exact Nat.le_of_ble_eq_true rfl) rfl rfl (by first | rfl | omega | (simp; done) | (simp; omega)) (by omega) (by decide) ?_
           | refine WpL.appInts tabOk rfl rfl rfl (by first | exact Nat.zero_le _ | exact Nat.le_of_ble_eq_true rfl) rfl rfl (by first | rfl | omega | (simp; done) | (simp; omega)) (by first | rfl | omega | (simp; done) | (simp; omega)) (by omega) (by decide) ?_
           | refine WpL.app1U8s tabOk rfl rfl rfl (by first | exact Nat.zero_le _ | exact Nat.le_of_ble_eq_true rfl) rfl rfl (by first | rfl | omega | (simp; done) | (simp; omega)) (by omega) (by decide) ?_
           | refine WpL.appRow (f := prF) (v := (_, _)) tabOk rfl rfl rfl (by first | exact Nat.zero_le _ | exact Nat.le_of_ble_eq_true rfl) rfl rfl (fun _ => rfl) rfl rfl (by first | rfl | omega | (simp; done) | (simp; omega)) (by omega) (by decide) ?_
           | refine WpL.appRow (f := plF) (v := (_, _, _)) tabOk rfl rfl rfl (by first | exact Nat.zero_le _ | exact Nat.le_of_ble_eq_true rfl) rfl rfl (fun _ => rfl) rfl rfl (by first | rfl | omega | (simp; done) | (simp; omega)) (by omega) (by decide) ?_
           | refine WpL.appBlk tabOk rfl rfl rfl (by first | exact Nat.zero_le _ | exact Nat.le_of_ble_eq_true rfl) rfl rfl rfl rfl rfl (by first | exact Nat.zero_le _ | exact Nat.le_of_ble_eq_true rfl) (by first | rfl | omega | (simp; done) | (simp; omega)) (by first | rfl | omega | (simp; done) | (simp; omega)) (by omega) (by decide) ?_
           | refine WpL.appMb tabOk rfl rfl rfl (by first | exact Nat.zero_le _ | exact Nat.le_of_ble_eq_true rfl) rfl rfl rfl rfl rfl (by first | exact Nat.zero_le _ | exact Nat.le_of_ble_eq_true rfl) (by first | rfl | omega | (simp; done) | (simp; omega)) (by first | rfl | omega | (simp; done) | (simp; omega)) (by omega) (by decide) ?_
           | refine WpL.appOwn tabOk rfl rfl rfl rfl rfl rfl (by simp) (by first | exact Nat.zero_le _ | exact Nat.le_of_ble_eq_true rfl) rfl rfl (by simp) (by simp [all_ints, all_u8s, all_strs, oneB, Value.oneCell']) (by omega) (by decide) ?_))
       | (refine K.un ?_; first
         | refine WpL.not rfl (by decide) ?_)
       | (refine K.pick ?_; first
         | refine WpL.pickT rfl rfl (by decide) ?_
         | refine WpL.pickF rfl rfl (by decide) ?_)
       | (refine K.bld ?_; refine WpL.build tabOk rfl rfl (by kernel_rfl) (by decide) ?_)
       | (refine K.ext ?_; refine WpL.extract rfl rfl (by first | decide | simp [AV.shL]) (by decide) ?_)
       | (refine K.cv ?_; first
         | refine WpL.convI (P := Try.prog) (by rfl) (K.tyInt tabOk rfl) rfl (by omega) (by decide) ?_
         | refine WpL.conv (P := Try.prog) (by rfl) (K.tyInt tabOk rfl) rfl (by decide) ?_
         | refine WpL.ofBytes tabOk rfl rfl rfl rfl rfl (by simp) (by decide) ?_)
       | (refine K.lit ?_; first
         | refine WpL.lit0U8s tabOk rfl rfl rfl (by decide) ?_
         | refine WpL.lit0Ints tabOk rfl rfl rfl (by decide) ?_
         | refine WpL.litInts tabOk rfl rfl rfl rfl rfl (by decide) rfl (by decide) ?_
         | refine WpL.litU8s tabOk rfl rfl rfl rfl rfl (by decide) rfl (by decide) ?_
         | (apply WpL.litLis tabOk
            · exact rfl
            · exact rfl
            · exact rfl
            · exact rfl
            · decide
            · exact rfl
            · exact rfl
            · exact rfl
            · decide
            · repeat' (first
                | exact NestC.nil
                | (apply NestC.cons
                   · exact rfl
                   · exact rfl
                   · exact rfl
                   · exact rfl
                   · first | exact Nat.zero_le _ | exact Nat.le_of_ble_eq_true rfl
                   · exact rfl
                   · first | rfl | exact still_ints _
                   · first | rfl | simp
                   · exact rfl))
            · exact rfl
            · exact rfl)
         | refine WpL.litF tabOk rfl rfl rfl rfl (by decide) rfl (by decide) ?_)
       | (refine K.ms ?_; first
         | refine WpL.makeInts tabOk rfl rfl rfl (by omega) (by omega) rfl (by decide) ?_)
       | (refine K.st ?_; first
         | refine WpL.storeInts tabOk rfl rfl rfl rfl rfl (by first | omega | (simp; omega)) ?_
         | refine WpL.storeMb tabOk rfl rfl rfl rfl rfl rfl rfl (by first | exact Nat.zero_le _ | exact Nat.le_of_ble_eq_true rfl) (by first | rfl | omega | (simp; done) | (simp; omega)) (by first | rfl | omega | (simp; done) | (simp; omega)) ?_
         | refine WpL.storeS tabOk rfl rfl rfl rfl rfl rfl rfl rfl (by first | decide | omega | (simp; omega) | (simp; done)) (by first | (simp only [setL, List.set_cons_zero, List.set_cons_succ, Nat.zero_add, Nat.reduceAdd]; exact rfl) | exact rfl) ?_)
       | (refine K.all ?_; first
         | refine WpL.allocStruct tabOk rfl rfl (by decide) ?_
         | refine WpL.allocPlain tabOk rfl rfl rfl (by decide) ?_)
       | (refine K.box ?_; refine WpL.box rfl rfl rfl (by decide) ?_)
       | (refine K.nc ?_; first
         | refine WpL.nilCheckP rfl rfl rfl (by decide) ?_)
       | (refine K.sl ?_; first
         | refine WpL.subInts tabOk rfl rfl rfl rfl (by first | rfl | omega | (simp; done) | (simp; omega)) (by omega) (by decide) ?_
         | refine WpL.subImm tabOk rfl rfl (by first | exact .inl ⟨rfl, rfl⟩ | exact .inr ⟨_, _, rfl, rfl⟩) (by first | exact .inl ⟨rfl, rfl⟩ | exact .inr ⟨_, _, rfl, rfl⟩) (by omega) (by decide) ?_))
     | (refine K.le ?_; first | omega | (simp; omega) | assumption)
     | (refine K.lt ?_; first | omega | (simp; omega) | assumption)
     | refine And.intro ?_ ?_
     | omega
     | assumption
     | (simp; done)))
  first | done | fail) : X := h
theorem headG {X : Prop} (h : X := by
  (repeat' (first
  | exact Abs.HeadJ.nil
  | (apply K.jbin; apply HeadJ.consB rfl
     · exact rfl
     · exact inG
     · (first | rfl | exact decide_eq_true (by first | rfl | assumption | omega) | assumption)
     · exact rfl)
  | (apply K.jun; apply HeadJ.consB rfl
     · exact rfl
     · exact inG
     · (first | rfl | exact decide_eq_true (by first | rfl | assumption | omega) | assumption)
     · exact rfl)
  | (apply K.jcall; apply HeadJ.consB rfl
     · exact rfl
     · exact inG
     · (first | rfl | exact decide_eq_true (by first | rfl | assumption | omega) | assumption)
     · exact rfl)
  | (apply HeadJ.consF rfl
     · exact rfl
     · exact inG
     · exact rfl)))
  first | done | fail) : X := h
end Go.Proofs.Ytpokokcgoebbhaa
