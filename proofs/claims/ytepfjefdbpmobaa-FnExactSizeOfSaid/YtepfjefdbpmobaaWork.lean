/- Contracts: macroblocks and streams that are right, pairs, the work of a stream. No condition. -/
import Derived.Test.YtepfjefdbpmobaaSid
namespace Go.Proofs.Ytepfjefdbpmobaa
open Go Go.Abs
set_option linter.unusedVariables false
set_option linter.unusedSimpArgs false
set_option maxRecDepth 100000
set_option maxHeartbeats 4000000
attribute [local irreducible] WpA WpL Rnd Blk Abs.Seq Abs.Fin Abs.FinG FnC FnG Only

theorem any_at {α : Type} [Inhabited α] {p : α → Bool} {l : List α} {i : Nat} (hi : i < l.length) (h : p (l.getD i default) = true) : l.any p = true :=
  List.any_eq_true.2 ⟨l.getD i default, by simp [hi], h⟩
theorem any_none {α : Type} [Inhabited α] {p : α → Bool} {l : List α} (h : ∀ j < l.length, p (l.getD j default) = false) : l.any p = false := by
  rw [List.any_eq_false]
  intro x hx
  obtain ⟨j, hj, rfl⟩ := List.getElem_of_mem hx
  have := h j hj
  have e : l.getD j default = l[j] := by simp [hj]
  rw [e] at this; simp [this]
theorem any_get {α : Type} [Inhabited α] {p : α → Bool} {l : List α} (h : l.any p = false) {i : Nat} (hi : i < l.length) : p (l.getD i default) = false := by
  cases hp : p (l.getD i default) with
  | false => rfl
  | true => rw [any_at hi hp] at h; cases h
instance ContainsFuncB_c : Con 164 (∀ (l : List Blok) (lens : List Int) (n : Int), l.length ≤ 1099511627776 ∧ SmB 1099511627776 l ∧ lens.length ≤ 1099511627776 → Fn 164 [BkL l, fB lens n] [] (B (l.any (badB lens n)))) := ⟨fun l lens n hl => by
  have hge := ixF_ge (badB lens n) l
  refine FnC.of_body tabOk Try.func164 Try.ntmps164 rfl (by decide +kernel) (by simp) fun G => ?_
  refine go (r := ?_); and_intros <;> intros <;> try exact True.intro
  all_goals first | exact hl.2.1 | (rw [Bool.eq_iff_iff, ← hge]; simp)⟩
def sz8 (e : Bool) : Int := bif e then 8 else 4
def nm8 (e : Bool) : Int := bif e then 1 else 4
theorem sz8_cases (e : Bool) : (sz8 e = 4 ∧ nm8 e = 4) ∨ (sz8 e = 8 ∧ nm8 e = 1) := by cases e <;> simp [sz8, nm8]
instance l23Side_s : Con 143 (∀ e : Bool, Fn 143 [B e] [] (I (sz8 e))) := ⟨fun e => by
  cases e
  · refine FnC.of_body tabOk Try.func143 Try.ntmps143 rfl (by decide +kernel) (by simp) fun G => ?_
    refine go (r := ?_); and_intros <;> intros <;> try exact True.intro
    all_goals rfl
  · refine FnC.of_body tabOk Try.func143 Try.ntmps143 rfl (by decide +kernel) (by simp) fun G => ?_
    refine go (r := ?_); and_intros <;> intros <;> try exact True.intro
    all_goals rfl⟩
instance shape_c : Con 163 (∀ e : Bool, Fn 163 [B e] [] (.tup [I (nm8 e), I (sz8 e)])) := ⟨fun e => by
  cases e
  · refine FnC.of_body tabOk Try.func163 Try.ntmps163 rfl (by decide +kernel) (by simp) fun G => ?_
    refine go (r := ?_); and_intros <;> intros <;> try exact True.intro
    all_goals rfl
  · refine FnC.of_body tabOk Try.func163 Try.ntmps163 rfl (by decide +kernel) (by simp) fun G => ?_
    refine go (r := ?_); and_intros <;> intros <;> try exact True.intro
    all_goals rfl⟩
abbrev MbkOk (e : Bool) (bs : List Blok) (lens : List Int) : Prop := (bs.length : Int) = nm8 e ∧ bs.any (badB lens (sz8 e)) = false
instance MbOk_s : Con 132 (∀ (e : Bool) (bs : List Blok) (lens : List Int), bs.length ≤ 1099511627776 ∧ SmB 1099511627776 bs ∧ lens.length ≤ 1099511627776 → Fn 132 [.agg [B e, BkL bs], IL lens] [] (B (decide (MbkOk e bs lens)))) := ⟨fun e bs lens hl => by
  have hc := sz8_cases e
  refine FnC.of_body tabOk Try.func132 Try.ntmps132 rfl (by decide +kernel) (by simp) fun G => ?_
  refine go (r := ?_); and_intros <;> intros <;> try exact True.intro
  refine WpA.loop (fun k : Nat => ⟨[(1, IL lens), (2, .ptr 0 0 0), (5, I (sz8 e)), (6, I k)], [⟨[B e, BkL bs], 0, 0, none⟩]⟩) (fun k => k ≤ bs.length ∧ ∀ j < k, badB lens (sz8 e) (bs.getD j default) = false) (fun k => bs.length - k) 0 (by simp) (go (r := ?_)) (fun k hk => ?_)
  · trivial
  have hg := fun h => smB_get hl.2.1 (k := k) h
  have hnn : sz8 e * sz8 e = 16 ∨ sz8 e * sz8 e = 64 := by rcases hc with ⟨h, _⟩ | ⟨h, _⟩ <;> rw [h] <;> decide
  have hq : 64 / (sz8 e * sz8 e) = nm8 e := by rcases hc with ⟨h, h2⟩ | ⟨h, h2⟩ <;> rw [h, h2] <;> decide
  refine go (r := ?_); and_intros <;> intros <;> try exact True.intro
  · have : bs.any (badB lens (sz8 e)) = true := any_at (i := k) (by omega) (by unfold badB; exact decide_eq_true ‹_›)
    simp [this]
  · rename_i j hj; by_cases h : j = k
    · subst h; unfold badB; exact decide_eq_false (fun hh => hh ‹BlkOk _ _ _ _›)
    · exact hk.2 j (by omega)
  all_goals have e2 : k = bs.length := by omega
  all_goals subst e2
  have := any_none (p := badB lens (sz8 e)) hk.2
  rw [hq]; simp [this]⟩
instance MbOk_c : Con 139 (∀ (e : Bool) (bs : List Blok) (lens : List Int), bs.length ≤ 1099511627776 ∧ SmB 1099511627776 bs ∧ lens.length ≤ 1099511627776 → Fn 139 [.agg [B e, BkL bs], IL lens] [] (B (decide (MbkOk e bs lens)))) := ⟨fun e bs lens hl => by
  have hc := sz8_cases e
  refine FnC.of_body tabOk Try.func139 Try.ntmps139 rfl (by decide +kernel) (by simp) fun G => ?_
  refine go (r := ?_); and_intros <;> intros <;> try exact True.intro
  all_goals simp_all⟩

/-! Streams. -/
def badM (lens : List Int) (m : Mbk) : Bool := decide (¬ MbkOk m.1 m.2 lens)
abbrev StC (w h q : Int) (b d : Bool) (l : List Int) (M : List Mbk) : List AV := [I w, I h, I q, B b, B d, IL l, MbL M]
abbrev fM (w h q : Int) (b d : Bool) (l : List Int) (M : List Mbk) : AV := .fn 138 [.iptr (StC w h q b d l M) 0]
instance StreamOk1_c : Con 138 (∀ (e : Bool) (bs : List Blok) (w h q : Int) (b d : Bool) (l : List Int) (M : List Mbk), bs.length ≤ 1099511627776 ∧ SmB 1099511627776 bs ∧ l.length ≤ 1099511627776 → Fn 138 [.agg [B e, BkL bs], .iptr (StC w h q b d l M) 0] [] (B (badM l (e, bs)))) := ⟨fun e bs w h q b d l M hl => by
  unfold badM
  refine FnC.of_body tabOk Try.func138 Try.ntmps138 rfl (by decide +kernel) (by simp) fun G => ?_
  refine go (r := ?_); and_intros <;> intros <;> try exact True.intro
  all_goals simp_all⟩
instance IndexFuncM_c : Con 162 (∀ (w h q : Int) (b d : Bool) (l : List Int) (M N : List Mbk), N.length ≤ 1099511627776 ∧ SmM 1099511627776 N ∧ l.length ≤ 1099511627776 → Fn 162 [MbL N, fM w h q b d l M] [] (I (ixF (badM l) N))) := ⟨fun w h q b d l M N hl => by
  refine FnC.of_body tabOk Try.func162 Try.ntmps162 rfl (by decide +kernel) (by simp) fun G => ?_
  refine go (r := ?_); and_intros <;> intros <;> try exact True.intro
  refine WpA.loop (fun k : Nat => ⟨[(0, MbL N), (1, fM w h q b d l M), (7, I N.length), (8, I k)], []⟩) (fun k => k ≤ N.length ∧ ∀ j < k, badM l (N.getD j default) = false) (fun k => N.length - k) 0 (by simp) (go (r := ?_)) (fun k hk => ?_)
  · trivial
  have hg := fun h => (smM_get hl.2.1 (k := k) h).1
  have hg2 := fun h => (smM_get hl.2.1 (k := k) h).2
  refine go (r := ?_); and_intros <;> intros <;> try exact True.intro
  all_goals first | exact hg2 (by omega) | skip
  · exact ixF_at (by omega) hk.2 (by unfold badM; exact decide_eq_true ‹_›)
  · rename_i j hj; by_cases h : j = k
    · subst h; unfold badM; exact decide_eq_false ‹_›
    · exact hk.2 j (by omega)
  all_goals (have e : k = N.length := by omega); subst e; exact ixF_no hk.2⟩
instance ContainsFuncM_c : Con 137 (∀ (w h q : Int) (b d : Bool) (l : List Int) (M N : List Mbk), N.length ≤ 1099511627776 ∧ SmM 1099511627776 N ∧ l.length ≤ 1099511627776 → Fn 137 [MbL N, fM w h q b d l M] [] (B (N.any (badM l)))) := ⟨fun w h q b d l M N hl => by
  have hge := ixF_ge (badM l) N
  refine FnC.of_body tabOk Try.func137 Try.ntmps137 rfl (by decide +kernel) (by simp) fun G => ?_
  refine go (r := ?_); and_intros <;> intros <;> try exact True.intro
  all_goals first | exact hl.2.1 | (rw [Bool.eq_iff_iff, ← hge]; simp)⟩
abbrev StOk (w h q : Int) (l : List Int) (M : List Mbk) : Prop := HdOk w h q l ∧ (M.length : Int) = cntM w h ∧ M.any (badM l) = false
instance StreamOk_s : Con 99 (∀ (w h q : Int) (b d : Bool) (l : List Int) (M : List Mbk), l.length ≤ 1099511627776 ∧ M.length ≤ 1099511627776 ∧ SmM 1099511627776 M → Fn 99 [StA w h q b d l M] [] (B (decide (StOk w h q l M)))) := ⟨fun w h q b d l M hl => by
  refine FnC.of_body tabOk Try.func99 Try.ntmps99 rfl (by decide +kernel) (by simp) fun G => ?_
  by_cases h0 : HdOk w h q l
  · have hcb := cntM_bd h0.1
    refine go (r := ?_); and_intros <;> intros <;> try exact True.intro
    all_goals first | (exact absurd h0 (by assumption)) | skip
    refine WpA.loop (fun k : Nat => ⟨[(1, .ptr 0 0 0), (3, I k)], [⟨StC w h q b d l M, 0, 0, none⟩]⟩) (fun k => k ≤ M.length ∧ ∀ j < k, badM l (M.getD j default) = false) (fun k => M.length - k) 0 (by simp) (go (r := ?_)) (fun k hk => ?_)
    · trivial
    have hg := fun h => (smM_get hl.2.2 (k := k) h).1
    have hg2 := fun h => (smM_get hl.2.2 (k := k) h).2
    refine go (r := ?_); and_intros <;> intros <;> try exact True.intro
    · exact hg2 (by omega)
    · have : M.any (badM l) = true := any_at (i := k) (by omega) (by unfold badM; exact decide_eq_true ‹_›)
      simp [this]
    · rename_i j hj; by_cases h : j = k
      · subst h; unfold badM; exact decide_eq_false (fun hh => hh ‹MbkOk _ _ _›)
      · exact hk.2 j (by omega)
    all_goals have e2 : k = M.length := by omega
    all_goals subst e2
    have := any_none (p := badM l) hk.2
    simp [this, h0]
  · refine go (r := ?_); and_intros <;> intros <;> try exact True.intro
    all_goals simp [StOk, h0]⟩
theorem Weak.eqv {m d : Nat} {V V' : AV} {T : List (Nat × AV)} {O : List AObj} (h : V = V') : Weak m ⟨(d, V) :: T, O⟩ ⟨(d, V') :: T, O⟩ := by subst h; exact fun n G a w h => h
instance StreamOk_c : Con 101 (∀ (w h q : Int) (b d : Bool) (l : List Int) (M : List Mbk), l.length ≤ 1099511627776 ∧ M.length ≤ 1099511627776 ∧ SmM 1099511627776 M → Fn 101 [StA w h q b d l M] [] (B (decide (StOk w h q l M)))) := ⟨fun w h q b d l M hl => by
  refine FnC.of_body tabOk Try.func101 Try.ntmps101 rfl (by decide +kernel) (by simp) fun G => ?_
  refine K.A ?_
  refine WpA.seq ?_
  refine WpA.regionF rfl ?_
  refine WpL.box rfl rfl rfl (by decide) ?_
  refine WpL.assign rfl (by decide) ?_
  refine WpL.nil ?_
  refine Abs.Seq.n ?_
  refine WpA.seq ?_
  by_cases h0 : HdOk w h q l
  · have e0 : decide (HdOk w h q l) = true := decide_eq_true h0
    by_cases h1 : (M.length : Int) = cntM w h
    · have e1 : decide ((M.length : Int) = cntM w h) = true := decide_eq_true h1
      apply WpA.regionM 16 mixed (by decide +kernel)
      · apply HeadJ.consF rfl
        · exact rfl
        · exact in1
        · exact rfl
        apply HeadJ.consF rfl
        · exact rfl
        · exact in1
        · exact rfl
        apply HeadJ.consF rfl
        · exact rfl
        · (refine fun Tv => ?_; refine K.call ?_; refine K.con (fun hcon => ?_); refine WpL.call0 (hcon _ _ _ _ _ _ ?_) snapA locA rfl rfl (by decide) ?_; (· exact hl.1); refine WpL.weak (Weak.eqv (V' := B true) (by rw [e0])) ?_; exact WpL.nil (Only.mk rfl))
        · exact rfl
        apply HeadJ.consF rfl
        · exact rfl
        · exact in1
        · exact rfl
        apply HeadJ.consF rfl
        · exact rfl
        · (refine fun Tv => ?_; refine K.gT rfl (by decide) rfl ?_; exact in1)
        · exact rfl
        apply HeadJ.consF rfl
        · exact rfl
        · (refine fun Tv => ?_; refine K.gT rfl (by decide) rfl ?_; exact in1)
        · exact rfl
        apply HeadJ.consF rfl
        · exact rfl
        · (refine fun Tv => ?_; refine K.gT rfl (by decide) rfl ?_; exact in1)
        · exact rfl
        apply HeadJ.consF rfl
        · exact rfl
        · (refine fun Tv => ?_; refine K.gT rfl (by decide) rfl ?_; exact in1)
        · exact rfl
        apply HeadJ.consF rfl
        · exact rfl
        · (refine fun Tv => ?_; refine K.gT rfl (by decide) rfl ?_; exact in1)
        · exact rfl
        apply HeadJ.consF rfl
        · exact rfl
        · (refine fun Tv => ?_; refine K.gT rfl (by decide) rfl ?_; refine K.call ?_; refine K.con (fun hcon => ?_); refine WpL.call0 (hcon _ _ _ _ _ _ h0.1) snapA locA rfl rfl (by decide) ?_; exact WpL.nil (Only.mk rfl))
        · exact rfl
        apply HeadJ.consF rfl
        · exact rfl
        · (refine fun Tv => ?_; refine K.gT rfl (by decide) rfl ?_; refine WpL.bin rfl rfl rfl (by decide) ?_; refine WpL.weak (Weak.eqv (V' := B true) (by simp only [e1])) ?_; exact WpL.nil (Only.mk rfl))
        · exact rfl
        apply HeadJ.consF rfl
        · exact rfl
        · exact in1
        · exact rfl
        apply HeadJ.consF rfl
        · exact rfl
        · exact in1
        · exact rfl
        apply HeadJ.consF rfl
        · exact rfl
        · (refine fun Tv => ?_; refine K.gT rfl (by decide) rfl ?_; exact in1)
        · exact rfl
        apply HeadJ.consF rfl
        · exact rfl
        · (refine fun Tv => ?_; refine K.gT rfl (by decide) rfl ?_; exact in1)
        · exact rfl
        apply HeadJ.consF rfl
        · exact rfl
        · (refine fun Tv => ?_; refine K.gT rfl (by decide) rfl ?_; refine WpL.makeFunc (cs := [.ptr 0 0 0]) rfl (by decide) ?_; exact WpL.nil (Only.mk rfl))
        · exact rfl
        exact HeadJ.nil
      · kernel_rfl
      · kernel_rfl
      · exact rfl
      refine go (r := ?_); and_intros <;> intros <;> try exact True.intro
      all_goals first | exact hl.2.2 | (simp [StOk, h0, h1]; done) | trace_state
    · have e1 : decide ((M.length : Int) = cntM w h) = false := decide_eq_false h1
      apply WpA.regionM 16 mixed (by decide +kernel)
      · apply HeadJ.consF rfl
        · exact rfl
        · exact in1
        · exact rfl
        apply HeadJ.consF rfl
        · exact rfl
        · exact in1
        · exact rfl
        apply HeadJ.consF rfl
        · exact rfl
        · (refine fun Tv => ?_; refine K.call ?_; refine K.con (fun hcon => ?_); refine WpL.call0 (hcon _ _ _ _ _ _ ?_) snapA locA rfl rfl (by decide) ?_; (· exact hl.1); refine WpL.weak (Weak.eqv (V' := B true) (by rw [e0])) ?_; exact WpL.nil (Only.mk rfl))
        · exact rfl
        apply HeadJ.consF rfl
        · exact rfl
        · exact in1
        · exact rfl
        apply HeadJ.consF rfl
        · exact rfl
        · (refine fun Tv => ?_; refine K.gT rfl (by decide) rfl ?_; exact in1)
        · exact rfl
        apply HeadJ.consF rfl
        · exact rfl
        · (refine fun Tv => ?_; refine K.gT rfl (by decide) rfl ?_; exact in1)
        · exact rfl
        apply HeadJ.consF rfl
        · exact rfl
        · (refine fun Tv => ?_; refine K.gT rfl (by decide) rfl ?_; exact in1)
        · exact rfl
        apply HeadJ.consF rfl
        · exact rfl
        · (refine fun Tv => ?_; refine K.gT rfl (by decide) rfl ?_; exact in1)
        · exact rfl
        apply HeadJ.consF rfl
        · exact rfl
        · (refine fun Tv => ?_; refine K.gT rfl (by decide) rfl ?_; exact in1)
        · exact rfl
        apply HeadJ.consF rfl
        · exact rfl
        · (refine fun Tv => ?_; refine K.gT rfl (by decide) rfl ?_; refine K.call ?_; refine K.con (fun hcon => ?_); refine WpL.call0 (hcon _ _ _ _ _ _ h0.1) snapA locA rfl rfl (by decide) ?_; exact WpL.nil (Only.mk rfl))
        · exact rfl
        apply HeadJ.consF rfl
        · exact rfl
        · (refine fun Tv => ?_; refine K.gT rfl (by decide) rfl ?_; refine WpL.bin rfl rfl rfl (by decide) ?_; refine WpL.weak (Weak.eqv (V' := B false) (by simp only [e1])) ?_; exact WpL.nil (Only.mk rfl))
        · exact rfl
        apply HeadJ.consF rfl
        · exact rfl
        · exact in1
        · exact rfl
        apply HeadJ.consF rfl
        · exact rfl
        · exact in1
        · exact rfl
        apply HeadJ.consF rfl
        · exact rfl
        · (refine fun Tv => ?_; refine K.gF rfl (by decide) rfl ?_; exact WpL.nil (Only.mk rfl))
        · exact rfl
        apply HeadJ.consF rfl
        · exact rfl
        · (refine fun Tv => ?_; refine K.gF rfl (by decide) rfl ?_; exact WpL.nil (Only.mk rfl))
        · exact rfl
        apply HeadJ.consF rfl
        · exact rfl
        · (refine fun Tv => ?_; refine K.gF rfl (by decide) rfl ?_; exact WpL.nil (Only.mk rfl))
        · exact rfl
        exact HeadJ.nil
      · kernel_rfl
      · kernel_rfl
      · exact rfl
      refine go (r := ?_); and_intros <;> intros <;> try exact True.intro
      all_goals simp [StOk, h1]
  · have e0 : decide (HdOk w h q l) = false := decide_eq_false h0
    apply WpA.regionM 16 mixed (by decide +kernel)
    · apply HeadJ.consF rfl
      · exact rfl
      · exact in1
      · exact rfl
      apply HeadJ.consF rfl
      · exact rfl
      · exact in1
      · exact rfl
      apply HeadJ.consF rfl
      · exact rfl
      · (refine fun Tv => ?_; refine K.call ?_; refine K.con (fun hcon => ?_); refine WpL.call0 (hcon _ _ _ _ _ _ ?_) snapA locA rfl rfl (by decide) ?_; (· exact hl.1); refine WpL.weak (Weak.eqv (V' := B false) (by rw [e0])) ?_; exact WpL.nil (Only.mk rfl))
      · exact rfl
      apply HeadJ.consF rfl
      · exact rfl
      · exact in1
      · exact rfl
      apply HeadJ.consF rfl
      · exact rfl
      · (refine fun Tv => ?_; refine K.gF rfl (by decide) rfl ?_; exact WpL.nil (Only.mk rfl))
      · exact rfl
      apply HeadJ.consF rfl
      · exact rfl
      · (refine fun Tv => ?_; refine K.gF rfl (by decide) rfl ?_; exact WpL.nil (Only.mk rfl))
      · exact rfl
      apply HeadJ.consF rfl
      · exact rfl
      · (refine fun Tv => ?_; refine K.gF rfl (by decide) rfl ?_; exact WpL.nil (Only.mk rfl))
      · exact rfl
      apply HeadJ.consF rfl
      · exact rfl
      · (refine fun Tv => ?_; refine K.gF rfl (by decide) rfl ?_; exact WpL.nil (Only.mk rfl))
      · exact rfl
      apply HeadJ.consF rfl
      · exact rfl
      · (refine fun Tv => ?_; refine K.gF rfl (by decide) rfl ?_; exact WpL.nil (Only.mk rfl))
      · exact rfl
      apply HeadJ.consF rfl
      · exact rfl
      · (refine fun Tv => ?_; refine K.gF rfl (by decide) rfl ?_; exact WpL.nil (Only.mk rfl))
      · exact rfl
      apply HeadJ.consF rfl
      · exact rfl
      · (refine fun Tv => ?_; refine K.gF rfl (by decide) rfl ?_; exact WpL.nil (Only.mk rfl))
      · exact rfl
      apply HeadJ.consF rfl
      · exact rfl
      · exact in1
      · exact rfl
      apply HeadJ.consF rfl
      · exact rfl
      · exact in1
      · exact rfl
      apply HeadJ.consF rfl
      · exact rfl
      · (refine fun Tv => ?_; refine K.gF rfl (by decide) rfl ?_; exact WpL.nil (Only.mk rfl))
      · exact rfl
      apply HeadJ.consF rfl
      · exact rfl
      · (refine fun Tv => ?_; refine K.gF rfl (by decide) rfl ?_; exact WpL.nil (Only.mk rfl))
      · exact rfl
      apply HeadJ.consF rfl
      · exact rfl
      · (refine fun Tv => ?_; refine K.gF rfl (by decide) rfl ?_; exact WpL.nil (Only.mk rfl))
      · exact rfl
      exact HeadJ.nil
    · kernel_rfl
    · kernel_rfl
    · exact rfl
    refine go (r := ?_); and_intros <;> intros <;> try exact True.intro
    all_goals simp [StOk, h0]⟩

/-! Pairs. -/
def pk (l : List Int) : Nat → List (Int × Int) × Int
  | 0 => ([], 0)
  | k + 1 => if l.getD k 0 = 0 then ((pk l k).1, (pk l k).2 + 1) else ((pk l k).1 ++ [((pk l k).2, l.getD k 0)], 0)
def prsL (l : List Int) : List (Int × Int) := if LvOk l then (pk l l.length).1 else []
theorem pk_bd (l : List Int) : ∀ k, (pk l k).1.length ≤ k ∧ 0 ≤ (pk l k).2 ∧ (pk l k).2 ≤ k
  | 0 => by simp [pk]
  | k + 1 => by have := pk_bd l k; rw [pk]; split <;> simp <;> omega
theorem pk_nz (l : List Int) : ∀ k, k ≤ l.length → (pk l k).1.length = ((l.take k).map nz1).sum
  | 0, _ => by simp [pk]
  | k + 1, hk => by
    have ih := pk_nz l k (by omega)
    rw [take_snoc l k (by omega), List.map_append, List.sum_append, pk]
    have e : l.getD k default = l.getD k 0 := rfl
    rw [e]
    split
    · rename_i h; rw [h]; simp [nz1, ih]
    · rename_i h; have e2 : nz1 (l.getD k 0) = 1 := if_neg h
      simp only [List.map_cons, List.map_nil, List.sum_cons, List.sum_nil, e2, List.length_append, List.length_singleton, ih, Nat.add_zero]
theorem prs_nz {l : List Int} (h : LvOk l) : (prsL l).length = (l.map nz1).sum := by
  rw [prsL, if_pos h, pk_nz l _ (Nat.le_refl _), List.take_length]
abbrev XP (l : List (Int × Int)) : AObj := ⟨rows prF l, 0, 2, some 142⟩
instance PairsOf_s : Con 100 (∀ l : List Int, l.length ≤ 1099511627776 → Fn 100 [IL l] [XP (prsL l)] (.own 0 0 0 (prsL l).length)) := ⟨fun l hl => by
  refine FnC.of_body tabOk Try.func100 Try.ntmps100 rfl (by decide +kernel) (by simp) fun G => ?_
  by_cases h : LvOk l
  · refine go (r := ?_); and_intros <;> intros <;> try exact True.intro
    refine WpA.loop (fun k : Nat => ⟨[(0, IL l), (3, .own 0 0 0 (pk l k).1.length), (4, I (pk l k).2), (5, I k)], [XP (pk l k).1]⟩) (fun k => k ≤ l.length) (fun k => l.length - k) 0 (by simp) (go (r := ?_)) (fun k hk => ?_)
    · simp [pk]
    have hb := pk_bd l k
    have hend : k = l.length → (pk l k).1 = prsL l := by rintro rfl; rw [prsL, if_pos h]
    by_cases hz : l.getD k 0 = 0
    · have e1 : pk l (k + 1) = ((pk l k).1, (pk l k).2 + 1) := by rw [pk, if_pos hz]
      have e2 : (pk l (k + 1)).1.length = (pk l k).1.length := by rw [e1]
      refine go (r := ?_); and_intros <;> intros <;> try exact True.intro
      all_goals first | (rw [e1]; done) | (rw [hend (by omega)]; done)
    · have e1 : pk l (k + 1) = ((pk l k).1 ++ [((pk l k).2, l.getD k 0)], 0) := by rw [pk, if_neg hz]
      have e2 : (pk l (k + 1)).1.length = (pk l k).1.length + 1 := by rw [e1, List.length_append, List.length_singleton]
      refine go (r := ?_); and_intros <;> intros <;> try exact True.intro
      all_goals first | (rw [e1]; done) | (rw [e1]; rfl) | (rw [hend (by omega)]; done) | trace_state
  · have e : prsL l = [] := by rw [prsL, if_neg h]
    refine go (r := ?_); and_intros <;> intros <;> try exact True.intro
    refine WpA.loop (fun k : Nat => ⟨[(0, IL l), (3, .own 0 0 0 0), (4, I 0), (5, I 0)], [XP []]⟩) (fun k => k ≤ 0) (fun k => 0) 0 (by omega) (go (r := ?_)) (fun k hk => ?_)
    · first | trivial | (refine ⟨?_, ?_⟩ <;> trivial) | skip
    refine go (r := ?_); and_intros <;> intros <;> try exact True.intro
    all_goals first | (rw [e]; done) | (rw [e]; rfl)⟩

/-! The work of a stream. -/
def wkB (b : Blok) : Nat := 2 + (if nzB b = 0 then 0 else 1 + 2 * nzB b)
def wkM (m : Mbk) : Nat := 1 + (m.2.map wkB).sum
def workL (w h q : Int) (l : List Int) (M : List Mbk) : Int := if StOk w h q l M then 7 + ((M.map wkM).sum : Nat) else 0
theorem sum_mul {α : Type} (f g : α → Nat) (h : ∀ a, f a ≤ 3 * g a) (l : List α) : (l.map f).sum ≤ 3 * (l.map g).sum := by
  induction l with
  | nil => simp
  | cons a l ih => simp only [List.map_cons, List.sum_cons]; have := h a; omega
theorem sum_one_add {α : Type} (g : α → Nat) (l : List α) : (l.map fun a => 1 + g a).sum = l.length + (l.map g).sum := by
  induction l with
  | nil => simp
  | cons a l ih => simp only [List.map_cons, List.sum_cons, List.length_cons, ih]; omega
theorem wkB_bd (b : Blok) : wkB b ≤ 3 * (1 + bn b) := by have := nzB_bd b; unfold wkB; split <;> omega
theorem wkM_bd (m : Mbk) : wkM m ≤ 3 * (1 + mn m) := by
  have h := sum_mul wkB (fun b => 1 + bn b) wkB_bd m.2
  rw [sum_one_add] at h
  unfold wkM mn bw; omega
theorem wk_bd (M : List Mbk) : (M.map wkM).sum ≤ 3 * mw M := by
  have h := sum_mul wkM (fun m => 1 + mn m) wkM_bd M
  rw [sum_one_add] at h
  unfold mw; omega
theorem ok_blk {w h q : Int} {l : List Int} {M : List Mbk} (hs : StOk w h q l M) {i : Nat} (hi : i < M.length) : MbkOk (M.getD i default).1 (M.getD i default).2 l := by
  have := any_get hs.2.2 hi
  unfold badM at this
  exact Decidable.not_not.1 (of_decide_eq_false this)
theorem ok_lv {e : Bool} {bs : List Blok} {l : List Int} (hs : MbkOk e bs l) {k : Nat} (hk : k < bs.length) : BlkOk (bs.getD k default).1 (bs.getD k default).2 l (sz8 e) := by
  have := any_get hs.2 hk
  unfold badB at this
  exact Decidable.not_not.1 (of_decide_eq_false this)
instance WorkOf_s : Con 44 (∀ (w h q : Int) (b d : Bool) (l : List Int) (M : List Mbk), l.length ≤ 1099511627776 ∧ mw M ≤ 1048576 → Fn 44 [StA w h q b d l M] [] (I (workL w h q l M))) := ⟨fun w h q b d l M hM => by
  have hmw : mw M = M.length + (M.map mn).sum := rfl
  have hsm : SmM 1099511627776 M := smM_of (by omega)
  have hwk := wk_bd M
  refine FnC.of_body tabOk Try.func44 Try.ntmps44 rfl (by decide +kernel) (by simp) fun G => ?_
  by_cases h0 : StOk w h q l M
  · have hres : workL w h q l M = 7 + ((M.map wkM).sum : Nat) := by rw [workL, if_pos h0]
    refine go (r := ?_); and_intros <;> intros <;> try exact True.intro
    all_goals first | exact hsm | (exact absurd h0 (by assumption)) | skip
    refine WpA.loop (fun i : Nat => ⟨[(1, .ptr 0 0 0), (3, I (7 + (tk wkM M i : Nat))), (4, I i)], [⟨StC w h q b d l M, 0, 0, none⟩]⟩) (fun i => i ≤ M.length) (fun i => M.length - i) 0 (by omega) (go (r := ?_)) (fun i hi => ?_)
    · simp [tk_zero]
    have hs1 := fun h => tk_succ wkM M i h
    have hle1 := tk_le wkM M i
    have hle2 := tk_le wkM M (i + 1)
    have hg := fun h => smM_get hsm (k := i) h
    have hok := fun h => ok_blk h0 (i := i) h
    have e3 : wkM (M.getD i default) = 1 + ((M.getD i default).2.map wkB).sum := rfl
    refine go (r := ?_); and_intros <;> intros <;> try exact True.intro
    · have hs1 := hs1 (by omega)
      have hg := hg (by omega)
      have hok := hok (by omega)
      refine WpA.loop (fun k : Nat => ⟨[(1, .ptr 0 0 0), (3, I (7 + (tk wkM M i : Nat) + 1 + (tk wkB (M.getD i default).2 k : Nat))), (4, I i), (5, I k)], [⟨StC w h q b d l M, 0, 0, none⟩]⟩) (fun k => k ≤ (M.getD i default).2.length) (fun k => (M.getD i default).2.length - k) 0 (by omega) (go (r := ?_)) (fun k hk => ?_)
      · simp [tk_zero]
      have hs3 := fun h => tk_succ wkB (M.getD i default).2 k h
      have hle3 := tk_le wkB (M.getD i default).2 k
      have hle4 := tk_le wkB (M.getD i default).2 (k + 1)
      have hsk := fun h => smB_get hg.2 (k := k) h
      have hlv := fun h => prs_nz (ok_lv hok (k := k) h).2.2.2
      have e6 : nzB ((M.getD i default).2.getD k default) = (((M.getD i default).2.getD k default).2.map nz1).sum := rfl
      have e7 : (nzB ((M.getD i default).2.getD k default) = 0 → wkB ((M.getD i default).2.getD k default) = 2) ∧ (nzB ((M.getD i default).2.getD k default) ≠ 0 → wkB ((M.getD i default).2.getD k default) = 3 + 2 * nzB ((M.getD i default).2.getD k default)) := by
        unfold wkB; constructor <;> intro hz
        · rw [if_pos hz]
        · rw [if_neg hz]; omega
      have e8 := nzB_bd ((M.getD i default).2.getD k default)
      have e9 : bn ((M.getD i default).2.getD k default) = ((M.getD i default).2.getD k default).2.length := rfl
      refine go (r := ?_); and_intros <;> intros <;> try exact True.intro
      all_goals have e : k = (M.getD i default).2.length := by omega
      all_goals have e10 := tk_all wkB (M.getD i default).2
      all_goals rw [← e] at e10
      all_goals omega
    all_goals have e : i = M.length := by omega
    all_goals subst e
    all_goals rw [hres, tk_all]
  · have hres : workL w h q l M = 0 := by rw [workL, if_neg h0]
    refine go (r := ?_); and_intros <;> intros <;> try exact True.intro
    all_goals first | exact hsm | (exact absurd (by assumption) h0) | (rw [hres]; done) | trace_state⟩
end Go.Proofs.Ytepfjefdbpmobaa
