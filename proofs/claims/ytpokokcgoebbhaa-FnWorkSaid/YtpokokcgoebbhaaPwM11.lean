/- Proved in this text: lemmas and contracts of functions that the claim uses (parts: DrP, Work, DbP, AbsEq, AbsFl, AbsYr). No condition. -/
import Derived.Test.YtpokokcgoebbhaaPwM10
import Derived.Test.YtpokokcgoebbhaaPwM6
import Derived.Laws.StructEq

/- Plain: headers, squares of numbers, levels and residuals as they are drawn. No condition. -/
namespace Go.Proofs.Ytpokokcgoebbhaa
open Go Go.Abs
set_option linter.unusedVariables false
set_option linter.unusedSimpArgs false
set_option maxRecDepth 100000
attribute [local irreducible] belowD onceD pickD modeD l8D l8AnyD optD anyD seedD

structure Hd6 where
  w : Int
  h : Int
  q : Int
  b : Bool
  d : Bool
  lens : List Int
abbrev quant6 : List Int := [0, 6, 12, 20, 36, 51]
def headD (l : List Int) (c : Cr) : Cr × Hd6 :=
  let w := belowD l c 2
  let h := belowD l w.1 2
  let q := pickD l h.1 quant6
  let b := onceD l q.1 4
  let d := onceD l b.1 2
  let e := l8D l d.1
  (e.1, ⟨8 * (1 + w.2), 8 * (1 + h.2), q.2, b.2, d.2, e.2⟩)
theorem headD_ok {l : List Int} {c : Cr} (h : CrOk l c) : CrOk l (headD l c).1 ∧ (headD l c).2.lens.length = 6 ∧ SidesOk (headD l c).2.w (headD l c).2.h := by
  have h1 := belowD_ok 2 h
  have h2 := belowD_ok 2 h1.1
  have h3 := pickD_ok (xs := quant6) h2.1 (by decide)
  have h4 := onceD_ok 4 h3.1
  have h5 := onceD_ok 2 h4
  have h6 := l8D_ok h5
  have a1 := h1.2.1
  have a2 := h1.2.2.1 (by decide)
  have a3 := h2.2.1
  have a4 := h2.2.2.1 (by decide)
  refine ⟨h6.1, h6.2, ?_⟩
  show SidesOk (8 * (1 + (belowD l c 2).2)) (8 * (1 + (belowD l (belowD l c 2).1 2).2))
  refine ⟨?_, ?_, ?_, ?_, ?_, ?_⟩ <;> omega
def headAnyD (l : List Int) (c : Cr) : Cr × Hd6 :=
  let x := headD l c
  let s := belowD l x.1 12
  if s.2 = 0 then
    let p := pickD l s.1 [0, 40, 12, 32]
    (p.1, { x.2 with w := p.2 })
  else if s.2 = 1 then
    let p := pickD l s.1 [-1, 52, 51]
    (p.1, { x.2 with q := p.2 })
  else if s.2 = 2 then
    let y := l8AnyD l s.1
    (y.1, { x.2 with lens := y.2 })
  else (s.1, x.2)
theorem headAnyD_0 {l : List Int} {c : Cr} (h : (belowD l (headD l c).1 12).2 = 0) : headAnyD l c = ((pickD l (belowD l (headD l c).1 12).1 [0, 40, 12, 32]).1, { (headD l c).2 with w := (pickD l (belowD l (headD l c).1 12).1 [0, 40, 12, 32]).2 }) := by
  unfold headAnyD; simp only; rw [if_pos h]
theorem headAnyD_1 {l : List Int} {c : Cr} (h : (belowD l (headD l c).1 12).2 = 1) : headAnyD l c = ((pickD l (belowD l (headD l c).1 12).1 [-1, 52, 51]).1, { (headD l c).2 with q := (pickD l (belowD l (headD l c).1 12).1 [-1, 52, 51]).2 }) := by
  unfold headAnyD; simp only; rw [if_neg (by omega), if_pos h]
theorem headAnyD_2 {l : List Int} {c : Cr} (h : (belowD l (headD l c).1 12).2 = 2) : headAnyD l c = ((l8AnyD l (belowD l (headD l c).1 12).1).1, { (headD l c).2 with lens := (l8AnyD l (belowD l (headD l c).1 12).1).2 }) := by
  unfold headAnyD; simp only; rw [if_neg (by omega), if_neg (by omega), if_pos h]
theorem headAnyD_3 {l : List Int} {c : Cr} (h : (belowD l (headD l c).1 12).2 ≠ 0) (h1 : (belowD l (headD l c).1 12).2 ≠ 1) (h2 : (belowD l (headD l c).1 12).2 ≠ 2) : headAnyD l c = ((belowD l (headD l c).1 12).1, (headD l c).2) := by
  unfold headAnyD; simp only; rw [if_neg h, if_neg h1, if_neg h2]
theorem headAnyD_ok {l : List Int} {c : Cr} (h : CrOk l c) : CrOk l (headAnyD l c).1 ∧ (headAnyD l c).2.lens.length ≤ 6 := by
  have ho := headD_ok h
  have hs := belowD_ok 12 ho.1
  by_cases h0 : (belowD l (headD l c).1 12).2 = 0
  · rw [headAnyD_0 h0]; exact ⟨(pickD_ok hs.1 (by decide)).1, Nat.le_of_eq ho.2.1⟩
  · by_cases h1 : (belowD l (headD l c).1 12).2 = 1
    · rw [headAnyD_1 h1]; exact ⟨(pickD_ok hs.1 (by decide)).1, Nat.le_of_eq ho.2.1⟩
    · by_cases h2 : (belowD l (headD l c).1 12).2 = 2
      · rw [headAnyD_2 h2]; exact ⟨(l8AnyD_ok hs.1).1, (l8AnyD_ok hs.1).2⟩
      · rw [headAnyD_3 h0 h1 h2]; exact ⟨hs.1, Nat.le_of_eq ho.2.1⟩
/-! Squares of numbers. -/
def sqS (l : List Int) (most : Int) (s : Cr × List Int) : Cr × List Int :=
  if (onceD l s.1 2).2 = true then ((belowD l (onceD l s.1 2).1 (2 * most + 1)).1, s.2 ++ [(belowD l (onceD l s.1 2).1 (2 * most + 1)).2 - most]) else ((onceD l s.1 2).1, s.2 ++ [0])
def sqK (l : List Int) (most : Int) : Nat → Cr × List Int → Cr × List Int
  | 0, s => s
  | n + 1, s => sqK l most n (sqS l most s)
abbrev odd3 : List Int := [0, 15, 63]
def sqN0 (l : List Int) (c : Cr) : Int := if (onceD l c 3).2 = true then 64 else 16
def sqN (l : List Int) (c : Cr) : Cr × Int := if (onceD l (onceD l c 3).1 14).2 = true then pickD l (onceD l (onceD l c 3).1 14).1 odd3 else ((onceD l (onceD l c 3).1 14).1, sqN0 l c)
def squareD (l : List Int) (c : Cr) (most : Int) : Cr × List Int := sqK l most (sqN l c).2.toNat ((sqN l c).1, [])
/-! Levels. -/
abbrev big4 : List Int := [16383, -16383, 16384, 5000]
def lvA (l : List Int) (s : Cr × List Int) : Cr × List Int :=
  if (onceD l s.1 6).2 = true then ((pickD l (belowD l (onceD l s.1 6).1 s.2.length).1 big4).1, s.2.set (belowD l (onceD l s.1 6).1 s.2.length).2.toNat (pickD l (belowD l (onceD l s.1 6).1 s.2.length).1 big4).2) else ((onceD l s.1 6).1, s.2)
def lvB (l : List Int) (s : Cr × List Int) : Cr × List Int := if s.2.length = 0 then s else lvA l s
def tail3 (x : List Int) : List Int := x.take 3 ++ List.replicate (x.length - 3) 0
def lev10D (l : List Int) (c : Cr) : Cr × List Int :=
  ((onceD l (lvB l (squareD l c 30)).1 4).1, if (onceD l (lvB l (squareD l c 30)).1 4).2 = true then tail3 (lvB l (squareD l c 30)).2 else (lvB l (squareD l c 30)).2)
def lim3 (v : Int) : Int := max (-300) (min 300 v)
def lev25D (l : List Int) (c : Cr) : Cr × List Int := ((onceD l (lev10D l c).1 2).1, if (onceD l (lev10D l c).1 2).2 = true then (lev10D l c).2.map lim3 else (lev10D l c).2)
def resD (l : List Int) : Hd6 × List Int := ((headAnyD l (newD l)).2, (lev25D l (headAnyD l (newD l)).1).2)
/-! Residuals. -/
def rsS (l : List Int) (s : Cr × List Int) : Cr × List Int := ((pickD l (belowD l s.1 511).1 [0, 1, -1, (belowD l s.1 511).2 - 255]).1, s.2 ++ [(pickD l (belowD l s.1 511).1 [0, 1, -1, (belowD l s.1 511).2 - 255]).2])
def rsK (l : List Int) : Nat → Cr × List Int → Cr × List Int
  | 0, s => s
  | n + 1, s => rsK l n (rsS l s)
abbrev len4 : List Int := [16, 16, 64, 15]
def lvlD (l : List Int) : Op6 × List Int := ((anyD l (newD l)).2, (rsK l (pickD l (anyD l (newD l)).1 len4).2.toNat ((pickD l (anyD l (newD l)).1 len4).1, [])).2)
end Go.Proofs.Ytpokokcgoebbhaa

/- Contracts: macroblocks and streams that are right, pairs, the work of a stream. No condition. -/
namespace Go.Proofs.Ytpokokcgoebbhaa
open Go Go.Abs
set_option linter.unusedVariables false
set_option linter.unusedSimpArgs false
set_option maxRecDepth 100000
set_option maxHeartbeats 4000000
attribute [local irreducible] WpA WpL Rnd Blk Abs.Seq Abs.Fin Abs.FinG FnC FnG Only

theorem any_at {α : Type} [Inhabited α] {p : α → Bool} {l : List α} {i : Nat} (hi : i < l.length) (h : p (l.getD i default) = true) : l.any p = true :=
  List.any_eq_true.2 ⟨l.getD i default, by simp [hi], h⟩
theorem any_none {α : Type} [Inhabited α] {p : α → Bool} {l : List α} (h : ∀ j < l.length, p (l.getD j default) = false) : l.any p = false := by
  rw [List.any_eq_false]
  intro x hx
  obtain ⟨j, hj, rfl⟩ := List.getElem_of_mem hx
  have := h j hj
  have e : l.getD j default = l[j] := by simp [hj]
  rw [e] at this; simp [this]
theorem any_get {α : Type} [Inhabited α] {p : α → Bool} {l : List α} (h : l.any p = false) {i : Nat} (hi : i < l.length) : p (l.getD i default) = false := by
  cases hp : p (l.getD i default) with
  | false => rfl
  | true => rw [any_at hi hp] at h; cases h
instance ContainsFuncB_c : Con 47 (∀ (l : List Blok) (lens : List Int) (n : Int), l.length ≤ 1099511627776 ∧ SmB 1099511627776 l ∧ lens.length ≤ 1099511627776 → Fn 47 [BkL l, fB lens n] [] (B (l.any (badB lens n)))) := ⟨fun l lens n hl => by
  have hge := ixF_ge (badB lens n) l
  refine FnC.of_body tabOk Try.func47 Try.ntmps47 rfl (by decide +kernel) (by simp) fun G => ?_
  refine go (r := ?_); and_intros <;> intros <;> try exact True.intro
  all_goals first | exact hl.2.1 | (rw [Bool.eq_iff_iff, ← hge]; simp)⟩
def sz8 (e : Bool) : Int := bif e then 8 else 4
def nm8 (e : Bool) : Int := bif e then 1 else 4
theorem sz8_cases (e : Bool) : (sz8 e = 4 ∧ nm8 e = 4) ∨ (sz8 e = 8 ∧ nm8 e = 1) := by cases e <;> simp [sz8, nm8]
instance l23Side_s : Con 45 (∀ e : Bool, Fn 45 [B e] [] (I (sz8 e))) := ⟨fun e => by
  cases e
  · refine FnC.of_body tabOk Try.func45 Try.ntmps45 rfl (by decide +kernel) (by simp) fun G => ?_
    refine go (r := ?_); and_intros <;> intros <;> try exact True.intro
    all_goals rfl
  · refine FnC.of_body tabOk Try.func45 Try.ntmps45 rfl (by decide +kernel) (by simp) fun G => ?_
    refine go (r := ?_); and_intros <;> intros <;> try exact True.intro
    all_goals rfl⟩
instance shape_c : Con 43 (∀ e : Bool, Fn 43 [B e] [] (.tup [I (nm8 e), I (sz8 e)])) := ⟨fun e => by
  cases e
  · refine FnC.of_body tabOk Try.func43 Try.ntmps43 rfl (by decide +kernel) (by simp) fun G => ?_
    refine go (r := ?_); and_intros <;> intros <;> try exact True.intro
    all_goals rfl
  · refine FnC.of_body tabOk Try.func43 Try.ntmps43 rfl (by decide +kernel) (by simp) fun G => ?_
    refine go (r := ?_); and_intros <;> intros <;> try exact True.intro
    all_goals rfl⟩
abbrev MbkOk (e : Bool) (bs : List Blok) (lens : List Int) : Prop := (bs.length : Int) = nm8 e ∧ bs.any (badB lens (sz8 e)) = false
instance MbOk_s : Con 16 (∀ (e : Bool) (bs : List Blok) (lens : List Int), bs.length ≤ 1099511627776 ∧ SmB 1099511627776 bs ∧ lens.length ≤ 1099511627776 → Fn 16 [.agg [B e, BkL bs], IL lens] [] (B (decide (MbkOk e bs lens)))) := ⟨fun e bs lens hl => by
  have hc := sz8_cases e
  refine FnC.of_body tabOk Try.func16 Try.ntmps16 rfl (by decide +kernel) (by simp) fun G => ?_
  refine go (r := ?_); and_intros <;> intros <;> try exact True.intro
  refine WpA.loop (fun k : Nat => ⟨[(1, IL lens), (2, .ptr 0 0 0), (5, I (sz8 e)), (6, I k)], [⟨[B e, BkL bs], 0, 0, none⟩]⟩) (fun k => k ≤ bs.length ∧ ∀ j < k, badB lens (sz8 e) (bs.getD j default) = false) (fun k => bs.length - k) 0 (by simp) (go (r := ?_)) (fun k hk => ?_)
  · trivial
  have hg := fun h => smB_get hl.2.1 (k := k) h
  have hnn : sz8 e * sz8 e = 16 ∨ sz8 e * sz8 e = 64 := by rcases hc with ⟨h, _⟩ | ⟨h, _⟩ <;> rw [h] <;> decide
  have hq : 64 / (sz8 e * sz8 e) = nm8 e := by rcases hc with ⟨h, h2⟩ | ⟨h, h2⟩ <;> rw [h, h2] <;> decide
  refine go (r := ?_); and_intros <;> intros <;> try exact True.intro
  · have : bs.any (badB lens (sz8 e)) = true := any_at (i := k) (by omega) (by unfold badB; exact decide_eq_true ‹_›)
    simp [this]
  · rename_i j hj; by_cases h : j = k
    · subst h; unfold badB; exact decide_eq_false (fun hh => hh ‹BlkOk _ _ _ _›)
    · exact hk.2 j (by omega)
  all_goals have e2 : k = bs.length := by omega
  all_goals subst e2
  have := any_none (p := badB lens (sz8 e)) hk.2
  rw [hq]; simp [this]⟩
instance MbOk_c : Con 17 (∀ (e : Bool) (bs : List Blok) (lens : List Int), bs.length ≤ 1099511627776 ∧ SmB 1099511627776 bs ∧ lens.length ≤ 1099511627776 → Fn 17 [.agg [B e, BkL bs], IL lens] [] (B (decide (MbkOk e bs lens)))) := ⟨fun e bs lens hl => by
  have hc := sz8_cases e
  refine FnC.of_body tabOk Try.func17 Try.ntmps17 rfl (by decide +kernel) (by simp) fun G => ?_
  refine go (r := ?_); and_intros <;> intros <;> try exact True.intro
  all_goals simp_all⟩

/-! Streams. -/
def badM (lens : List Int) (m : Mbk) : Bool := decide (¬ MbkOk m.1 m.2 lens)
abbrev StC (w h q : Int) (b d : Bool) (l : List Int) (M : List Mbk) : List AV := [I w, I h, I q, B b, B d, IL l, MbL M]
abbrev fM (w h q : Int) (b d : Bool) (l : List Int) (M : List Mbk) : AV := .fn 79 [.iptr (StC w h q b d l M) 0]
instance StreamOk1_c : Con 79 (∀ (e : Bool) (bs : List Blok) (w h q : Int) (b d : Bool) (l : List Int) (M : List Mbk), bs.length ≤ 1099511627776 ∧ SmB 1099511627776 bs ∧ l.length ≤ 1099511627776 → Fn 79 [.agg [B e, BkL bs], .iptr (StC w h q b d l M) 0] [] (B (badM l (e, bs)))) := ⟨fun e bs w h q b d l M hl => by
  unfold badM
  refine FnC.of_body tabOk Try.func79 Try.ntmps79 rfl (by decide +kernel) (by simp) fun G => ?_
  refine go (r := ?_); and_intros <;> intros <;> try exact True.intro
  all_goals simp_all⟩
instance IndexFuncM_c : Con 117 (∀ (w h q : Int) (b d : Bool) (l : List Int) (M N : List Mbk), N.length ≤ 1099511627776 ∧ SmM 1099511627776 N ∧ l.length ≤ 1099511627776 → Fn 117 [MbL N, fM w h q b d l M] [] (I (ixF (badM l) N))) := ⟨fun w h q b d l M N hl => by
  refine FnC.of_body tabOk Try.func117 Try.ntmps117 rfl (by decide +kernel) (by simp) fun G => ?_
  refine go (r := ?_); and_intros <;> intros <;> try exact True.intro
  refine WpA.loop (fun k : Nat => ⟨[(0, MbL N), (1, fM w h q b d l M), (7, I N.length), (8, I k)], []⟩) (fun k => k ≤ N.length ∧ ∀ j < k, badM l (N.getD j default) = false) (fun k => N.length - k) 0 (by simp) (go (r := ?_)) (fun k hk => ?_)
  · trivial
  have hg := fun h => (smM_get hl.2.1 (k := k) h).1
  have hg2 := fun h => (smM_get hl.2.1 (k := k) h).2
  refine go (r := ?_); and_intros <;> intros <;> try exact True.intro
  all_goals first | exact hg2 (by omega) | skip
  · exact ixF_at (by omega) hk.2 (by unfold badM; exact decide_eq_true ‹_›)
  · rename_i j hj; by_cases h : j = k
    · subst h; unfold badM; exact decide_eq_false ‹_›
    · exact hk.2 j (by omega)
  all_goals (have e : k = N.length := by omega); subst e; exact ixF_no hk.2⟩
instance ContainsFuncM_c : Con 78 (∀ (w h q : Int) (b d : Bool) (l : List Int) (M N : List Mbk), N.length ≤ 1099511627776 ∧ SmM 1099511627776 N ∧ l.length ≤ 1099511627776 → Fn 78 [MbL N, fM w h q b d l M] [] (B (N.any (badM l)))) := ⟨fun w h q b d l M N hl => by
  have hge := ixF_ge (badM l) N
  refine FnC.of_body tabOk Try.func78 Try.ntmps78 rfl (by decide +kernel) (by simp) fun G => ?_
  refine go (r := ?_); and_intros <;> intros <;> try exact True.intro
  all_goals first | exact hl.2.1 | (rw [Bool.eq_iff_iff, ← hge]; simp)⟩
abbrev StOk (w h q : Int) (l : List Int) (M : List Mbk) : Prop := HdOk w h q l ∧ (M.length : Int) = cntM w h ∧ M.any (badM l) = false
instance StreamOk_s : Con 8 (∀ (w h q : Int) (b d : Bool) (l : List Int) (M : List Mbk), l.length ≤ 1099511627776 ∧ M.length ≤ 1099511627776 ∧ SmM 1099511627776 M → Fn 8 [StA w h q b d l M] [] (B (decide (StOk w h q l M)))) := ⟨fun w h q b d l M hl => by
  refine FnC.of_body tabOk Try.func8 Try.ntmps8 rfl (by decide +kernel) (by simp) fun G => ?_
  by_cases h0 : HdOk w h q l
  · have hcb := cntM_bd h0.1
    refine go (r := ?_); and_intros <;> intros <;> try exact True.intro
    all_goals first | (exact absurd h0 (by assumption)) | skip
    refine WpA.loop (fun k : Nat => ⟨[(1, .ptr 0 0 0), (3, I k)], [⟨StC w h q b d l M, 0, 0, none⟩]⟩) (fun k => k ≤ M.length ∧ ∀ j < k, badM l (M.getD j default) = false) (fun k => M.length - k) 0 (by simp) (go (r := ?_)) (fun k hk => ?_)
    · trivial
    have hg := fun h => (smM_get hl.2.2 (k := k) h).1
    have hg2 := fun h => (smM_get hl.2.2 (k := k) h).2
    refine go (r := ?_); and_intros <;> intros <;> try exact True.intro
    · exact hg2 (by omega)
    · have : M.any (badM l) = true := any_at (i := k) (by omega) (by unfold badM; exact decide_eq_true ‹_›)
      simp [this]
    · rename_i j hj; by_cases h : j = k
      · subst h; unfold badM; exact decide_eq_false (fun hh => hh ‹MbkOk _ _ _›)
      · exact hk.2 j (by omega)
    all_goals have e2 : k = M.length := by omega
    all_goals subst e2
    have := any_none (p := badM l) hk.2
    simp [this, h0]
  · refine go (r := ?_); and_intros <;> intros <;> try exact True.intro
    all_goals simp [StOk, h0]⟩
theorem Weak.eqv {m d : Nat} {V V' : AV} {T : List (Nat × AV)} {O : List AObj} (h : V = V') : Weak m ⟨(d, V) :: T, O⟩ ⟨(d, V') :: T, O⟩ := by subst h; exact fun n G a w h => h
instance StreamOk_c : Con 33 (∀ (w h q : Int) (b d : Bool) (l : List Int) (M : List Mbk), l.length ≤ 1099511627776 ∧ M.length ≤ 1099511627776 ∧ SmM 1099511627776 M → Fn 33 [StA w h q b d l M] [] (B (decide (StOk w h q l M)))) := ⟨fun w h q b d l M hl => by
  refine FnC.of_body tabOk Try.func33 Try.ntmps33 rfl (by decide +kernel) (by simp) fun G => ?_
  refine K.A ?_
  refine WpA.seq ?_
  refine WpA.regionF rfl ?_
  refine WpL.box rfl rfl rfl (by decide) ?_
  refine WpL.assign rfl (by decide) ?_
  refine WpL.nil ?_
  refine Abs.Seq.n ?_
  refine WpA.seq ?_
  by_cases h0 : HdOk w h q l
  · have e0 : decide (HdOk w h q l) = true := decide_eq_true h0
    by_cases h1 : (M.length : Int) = cntM w h
    · have e1 : decide ((M.length : Int) = cntM w h) = true := decide_eq_true h1
      apply WpA.regionM 16 mixed (by decide +kernel)
      · apply HeadJ.consF rfl
        · exact rfl
        · exact in1
        · exact rfl
        apply HeadJ.consF rfl
        · exact rfl
        · exact in1
        · exact rfl
        apply HeadJ.consF rfl
        · exact rfl
        · (refine fun Tv => ?_; refine K.call ?_; refine K.con (fun hcon => ?_); refine WpL.call0 (hcon _ _ _ _ _ _ ?_) snapA locA rfl rfl (by decide) ?_; (· exact hl.1); refine WpL.weak (Weak.eqv (V' := B true) (by rw [e0])) ?_; exact WpL.nil (Only.mk rfl))
        · exact rfl
        apply HeadJ.consF rfl
        · exact rfl
        · exact in1
        · exact rfl
        apply HeadJ.consF rfl
        · exact rfl
        · (refine fun Tv => ?_; refine K.gT rfl (by decide) rfl ?_; exact in1)
        · exact rfl
        apply HeadJ.consF rfl
        · exact rfl
        · (refine fun Tv => ?_; refine K.gT rfl (by decide) rfl ?_; exact in1)
        · exact rfl
        apply HeadJ.consF rfl
        · exact rfl
        · (refine fun Tv => ?_; refine K.gT rfl (by decide) rfl ?_; exact in1)
        · exact rfl
        apply HeadJ.consF rfl
        · exact rfl
        · (refine fun Tv => ?_; refine K.gT rfl (by decide) rfl ?_; exact in1)
        · exact rfl
        apply HeadJ.consF rfl
        · exact rfl
        · (refine fun Tv => ?_; refine K.gT rfl (by decide) rfl ?_; exact in1)
        · exact rfl
        apply HeadJ.consF rfl
        · exact rfl
        · (refine fun Tv => ?_; refine K.gT rfl (by decide) rfl ?_; refine K.call ?_; refine K.con (fun hcon => ?_); refine WpL.call0 (hcon _ _ _ _ _ _ h0.1) snapA locA rfl rfl (by decide) ?_; exact WpL.nil (Only.mk rfl))
        · exact rfl
        apply HeadJ.consF rfl
        · exact rfl
        · (refine fun Tv => ?_; refine K.gT rfl (by decide) rfl ?_; refine WpL.bin rfl rfl rfl (by decide) ?_; refine WpL.weak (Weak.eqv (V' := B true) (by simp only [e1])) ?_; exact WpL.nil (Only.mk rfl))
        · exact rfl
        apply HeadJ.consF rfl
        · exact rfl
        · exact in1
        · exact rfl
        apply HeadJ.consF rfl
        · exact rfl
        · exact in1
        · exact rfl
        apply HeadJ.consF rfl
        · exact rfl
        · (refine fun Tv => ?_; refine K.gT rfl (by decide) rfl ?_; exact in1)
        · exact rfl
        apply HeadJ.consF rfl
        · exact rfl
        · (refine fun Tv => ?_; refine K.gT rfl (by decide) rfl ?_; exact in1)
        · exact rfl
        apply HeadJ.consF rfl
        · exact rfl
        · (refine fun Tv => ?_; refine K.gT rfl (by decide) rfl ?_; refine WpL.makeFunc (cs := [.ptr 0 0 0]) rfl (by decide) ?_; exact WpL.nil (Only.mk rfl))
        · exact rfl
        exact HeadJ.nil
      · kernel_rfl
      · kernel_rfl
      · exact rfl
      refine go (r := ?_); and_intros <;> intros <;> try exact True.intro
      all_goals first | exact hl.2.2 | (simp [StOk, h0, h1]; done) | trace_state
    · have e1 : decide ((M.length : Int) = cntM w h) = false := decide_eq_false h1
      apply WpA.regionM 16 mixed (by decide +kernel)
      · apply HeadJ.consF rfl
        · exact rfl
        · exact in1
        · exact rfl
        apply HeadJ.consF rfl
        · exact rfl
        · exact in1
        · exact rfl
        apply HeadJ.consF rfl
        · exact rfl
        · (refine fun Tv => ?_; refine K.call ?_; refine K.con (fun hcon => ?_); refine WpL.call0 (hcon _ _ _ _ _ _ ?_) snapA locA rfl rfl (by decide) ?_; (· exact hl.1); refine WpL.weak (Weak.eqv (V' := B true) (by rw [e0])) ?_; exact WpL.nil (Only.mk rfl))
        · exact rfl
        apply HeadJ.consF rfl
        · exact rfl
        · exact in1
        · exact rfl
        apply HeadJ.consF rfl
        · exact rfl
        · (refine fun Tv => ?_; refine K.gT rfl (by decide) rfl ?_; exact in1)
        · exact rfl
        apply HeadJ.consF rfl
        · exact rfl
        · (refine fun Tv => ?_; refine K.gT rfl (by decide) rfl ?_; exact in1)
        · exact rfl
        apply HeadJ.consF rfl
        · exact rfl
        · (refine fun Tv => ?_; refine K.gT rfl (by decide) rfl ?_; exact in1)
        · exact rfl
        apply HeadJ.consF rfl
        · exact rfl
        · (refine fun Tv => ?_; refine K.gT rfl (by decide) rfl ?_; exact in1)
        · exact rfl
        apply HeadJ.consF rfl
        · exact rfl
        · (refine fun Tv => ?_; refine K.gT rfl (by decide) rfl ?_; exact in1)
        · exact rfl
        apply HeadJ.consF rfl
        · exact rfl
        · (refine fun Tv => ?_; refine K.gT rfl (by decide) rfl ?_; refine K.call ?_; refine K.con (fun hcon => ?_); refine WpL.call0 (hcon _ _ _ _ _ _ h0.1) snapA locA rfl rfl (by decide) ?_; exact WpL.nil (Only.mk rfl))
        · exact rfl
        apply HeadJ.consF rfl
        · exact rfl
        · (refine fun Tv => ?_; refine K.gT rfl (by decide) rfl ?_; refine WpL.bin rfl rfl rfl (by decide) ?_; refine WpL.weak (Weak.eqv (V' := B false) (by simp only [e1])) ?_; exact WpL.nil (Only.mk rfl))
        · exact rfl
        apply HeadJ.consF rfl
        · exact rfl
        · exact in1
        · exact rfl
        apply HeadJ.consF rfl
        · exact rfl
        · exact in1
        · exact rfl
        apply HeadJ.consF rfl
        · exact rfl
        · (refine fun Tv => ?_; refine K.gF rfl (by decide) rfl ?_; exact WpL.nil (Only.mk rfl))
        · exact rfl
        apply HeadJ.consF rfl
        · exact rfl
        · (refine fun Tv => ?_; refine K.gF rfl (by decide) rfl ?_; exact WpL.nil (Only.mk rfl))
        · exact rfl
        apply HeadJ.consF rfl
        · exact rfl
        · (refine fun Tv => ?_; refine K.gF rfl (by decide) rfl ?_; exact WpL.nil (Only.mk rfl))
        · exact rfl
        exact HeadJ.nil
      · kernel_rfl
      · kernel_rfl
      · exact rfl
      refine go (r := ?_); and_intros <;> intros <;> try exact True.intro
      all_goals simp [StOk, h1]
  · have e0 : decide (HdOk w h q l) = false := decide_eq_false h0
    apply WpA.regionM 16 mixed (by decide +kernel)
    · apply HeadJ.consF rfl
      · exact rfl
      · exact in1
      · exact rfl
      apply HeadJ.consF rfl
      · exact rfl
      · exact in1
      · exact rfl
      apply HeadJ.consF rfl
      · exact rfl
      · (refine fun Tv => ?_; refine K.call ?_; refine K.con (fun hcon => ?_); refine WpL.call0 (hcon _ _ _ _ _ _ ?_) snapA locA rfl rfl (by decide) ?_; (· exact hl.1); refine WpL.weak (Weak.eqv (V' := B false) (by rw [e0])) ?_; exact WpL.nil (Only.mk rfl))
      · exact rfl
      apply HeadJ.consF rfl
      · exact rfl
      · exact in1
      · exact rfl
      apply HeadJ.consF rfl
      · exact rfl
      · (refine fun Tv => ?_; refine K.gF rfl (by decide) rfl ?_; exact WpL.nil (Only.mk rfl))
      · exact rfl
      apply HeadJ.consF rfl
      · exact rfl
      · (refine fun Tv => ?_; refine K.gF rfl (by decide) rfl ?_; exact WpL.nil (Only.mk rfl))
      · exact rfl
      apply HeadJ.consF rfl
      · exact rfl
      · (refine fun Tv => ?_; refine K.gF rfl (by decide) rfl ?_; exact WpL.nil (Only.mk rfl))
      · exact rfl
      apply HeadJ.consF rfl
      · exact rfl
      · (refine fun Tv => ?_; refine K.gF rfl (by decide) rfl ?_; exact WpL.nil (Only.mk rfl))
      · exact rfl
      apply HeadJ.consF rfl
      · exact rfl
      · (refine fun Tv => ?_; refine K.gF rfl (by decide) rfl ?_; exact WpL.nil (Only.mk rfl))
      · exact rfl
      apply HeadJ.consF rfl
      · exact rfl
      · (refine fun Tv => ?_; refine K.gF rfl (by decide) rfl ?_; exact WpL.nil (Only.mk rfl))
      · exact rfl
      apply HeadJ.consF rfl
      · exact rfl
      · (refine fun Tv => ?_; refine K.gF rfl (by decide) rfl ?_; exact WpL.nil (Only.mk rfl))
      · exact rfl
      apply HeadJ.consF rfl
      · exact rfl
      · exact in1
      · exact rfl
      apply HeadJ.consF rfl
      · exact rfl
      · exact in1
      · exact rfl
      apply HeadJ.consF rfl
      · exact rfl
      · (refine fun Tv => ?_; refine K.gF rfl (by decide) rfl ?_; exact WpL.nil (Only.mk rfl))
      · exact rfl
      apply HeadJ.consF rfl
      · exact rfl
      · (refine fun Tv => ?_; refine K.gF rfl (by decide) rfl ?_; exact WpL.nil (Only.mk rfl))
      · exact rfl
      apply HeadJ.consF rfl
      · exact rfl
      · (refine fun Tv => ?_; refine K.gF rfl (by decide) rfl ?_; exact WpL.nil (Only.mk rfl))
      · exact rfl
      exact HeadJ.nil
    · kernel_rfl
    · kernel_rfl
    · exact rfl
    refine go (r := ?_); and_intros <;> intros <;> try exact True.intro
    all_goals simp [StOk, h0]⟩

/-! Pairs. -/
def pk (l : List Int) : Nat → List (Int × Int) × Int
  | 0 => ([], 0)
  | k + 1 => if l.getD k 0 = 0 then ((pk l k).1, (pk l k).2 + 1) else ((pk l k).1 ++ [((pk l k).2, l.getD k 0)], 0)
def prsL (l : List Int) : List (Int × Int) := if LvOk l then (pk l l.length).1 else []
theorem pk_bd (l : List Int) : ∀ k, (pk l k).1.length ≤ k ∧ 0 ≤ (pk l k).2 ∧ (pk l k).2 ≤ k
  | 0 => by simp [pk]
  | k + 1 => by have := pk_bd l k; rw [pk]; split <;> simp <;> omega
theorem pk_nz (l : List Int) : ∀ k, k ≤ l.length → (pk l k).1.length = ((l.take k).map nz1).sum
  | 0, _ => by simp [pk]
  | k + 1, hk => by
    have ih := pk_nz l k (by omega)
    rw [take_snoc l k (by omega), List.map_append, List.sum_append, pk]
    have e : l.getD k default = l.getD k 0 := rfl
    rw [e]
    split
    · rename_i h; rw [h]; simp [nz1, ih]
    · rename_i h; have e2 : nz1 (l.getD k 0) = 1 := if_neg h
      simp only [List.map_cons, List.map_nil, List.sum_cons, List.sum_nil, e2, List.length_append, List.length_singleton, ih, Nat.add_zero]
theorem prs_nz {l : List Int} (h : LvOk l) : (prsL l).length = (l.map nz1).sum := by
  rw [prsL, if_pos h, pk_nz l _ (Nat.le_refl _), List.take_length]
abbrev XP (l : List (Int × Int)) : AObj := ⟨rows prF l, 0, 2, some 108⟩
instance PairsOf_s : Con 120 (∀ l : List Int, l.length ≤ 1099511627776 → Fn 120 [IL l] [XP (prsL l)] (.own 0 0 0 (prsL l).length)) := ⟨fun l hl => by
  refine FnC.of_body tabOk Try.func120 Try.ntmps120 rfl (by decide +kernel) (by simp) fun G => ?_
  by_cases h : LvOk l
  · refine go (r := ?_); and_intros <;> intros <;> try exact True.intro
    refine WpA.loop (fun k : Nat => ⟨[(0, IL l), (3, .own 0 0 0 (pk l k).1.length), (4, I (pk l k).2), (5, I k)], [XP (pk l k).1]⟩) (fun k => k ≤ l.length) (fun k => l.length - k) 0 (by simp) (go (r := ?_)) (fun k hk => ?_)
    · simp [pk]
    have hb := pk_bd l k
    have hend : k = l.length → (pk l k).1 = prsL l := by rintro rfl; rw [prsL, if_pos h]
    by_cases hz : l.getD k 0 = 0
    · have e1 : pk l (k + 1) = ((pk l k).1, (pk l k).2 + 1) := by rw [pk, if_pos hz]
      have e2 : (pk l (k + 1)).1.length = (pk l k).1.length := by rw [e1]
      refine go (r := ?_); and_intros <;> intros <;> try exact True.intro
      all_goals first | (rw [e1]; done) | (rw [hend (by omega)]; done)
    · have e1 : pk l (k + 1) = ((pk l k).1 ++ [((pk l k).2, l.getD k 0)], 0) := by rw [pk, if_neg hz]
      have e2 : (pk l (k + 1)).1.length = (pk l k).1.length + 1 := by rw [e1, List.length_append, List.length_singleton]
      refine go (r := ?_); and_intros <;> intros <;> try exact True.intro
      all_goals first | (rw [e1]; done) | (rw [e1]; rfl) | (rw [hend (by omega)]; done) | trace_state
  · have e : prsL l = [] := by rw [prsL, if_neg h]
    refine go (r := ?_); and_intros <;> intros <;> try exact True.intro
    refine WpA.loop (fun k : Nat => ⟨[(0, IL l), (3, .own 0 0 0 0), (4, I 0), (5, I 0)], [XP []]⟩) (fun k => k ≤ 0) (fun k => 0) 0 (by omega) (go (r := ?_)) (fun k hk => ?_)
    · first | trivial | (refine ⟨?_, ?_⟩ <;> trivial) | skip
    refine go (r := ?_); and_intros <;> intros <;> try exact True.intro
    all_goals first | (rw [e]; done) | (rw [e]; rfl)⟩

/-! The work of a stream. -/
def wkB (b : Blok) : Nat := 2 + (if nzB b = 0 then 0 else 1 + 2 * nzB b)
def wkM (m : Mbk) : Nat := 1 + (m.2.map wkB).sum
def workL (w h q : Int) (l : List Int) (M : List Mbk) : Int := if StOk w h q l M then 7 + ((M.map wkM).sum : Nat) else 0
theorem sum_mul {α : Type} (f g : α → Nat) (h : ∀ a, f a ≤ 3 * g a) (l : List α) : (l.map f).sum ≤ 3 * (l.map g).sum := by
  induction l with
  | nil => simp
  | cons a l ih => simp only [List.map_cons, List.sum_cons]; have := h a; omega
theorem sum_one_add {α : Type} (g : α → Nat) (l : List α) : (l.map fun a => 1 + g a).sum = l.length + (l.map g).sum := by
  induction l with
  | nil => simp
  | cons a l ih => simp only [List.map_cons, List.sum_cons, List.length_cons, ih]; omega
theorem wkB_bd (b : Blok) : wkB b ≤ 3 * (1 + bn b) := by have := nzB_bd b; unfold wkB; split <;> omega
theorem wkM_bd (m : Mbk) : wkM m ≤ 3 * (1 + mn m) := by
  have h := sum_mul wkB (fun b => 1 + bn b) wkB_bd m.2
  rw [sum_one_add] at h
  unfold wkM mn bw; omega
theorem wk_bd (M : List Mbk) : (M.map wkM).sum ≤ 3 * mw M := by
  have h := sum_mul wkM (fun m => 1 + mn m) wkM_bd M
  rw [sum_one_add] at h
  unfold mw; omega
theorem ok_blk {w h q : Int} {l : List Int} {M : List Mbk} (hs : StOk w h q l M) {i : Nat} (hi : i < M.length) : MbkOk (M.getD i default).1 (M.getD i default).2 l := by
  have := any_get hs.2.2 hi
  unfold badM at this
  exact Decidable.not_not.1 (of_decide_eq_false this)
theorem ok_lv {e : Bool} {bs : List Blok} {l : List Int} (hs : MbkOk e bs l) {k : Nat} (hk : k < bs.length) : BlkOk (bs.getD k default).1 (bs.getD k default).2 l (sz8 e) := by
  have := any_get hs.2 hk
  unfold badB at this
  exact Decidable.not_not.1 (of_decide_eq_false this)
end Go.Proofs.Ytpokokcgoebbhaa

/- Plain: blocks, macroblocks, streams as they are drawn. No condition. -/
namespace Go.Proofs.Ytpokokcgoebbhaa
open Go Go.Abs
set_option linter.unusedVariables false
set_option linter.unusedSimpArgs false
set_option maxRecDepth 100000
attribute [local irreducible] belowD onceD pickD modeD l8D l8AnyD optD anyD seedD headD headAnyD

/-! Blocks. -/
/-- So many tries at a mode; the first one is always made. -/
def bmA (l lens : List Int) : Nat → Bool → Cr × Int → Cr × Int
  | 0, _, s => s
  | n + 1, f, s => if f = true ∨ ¬ HasC lens s.2 then bmA l lens n false (belowD l s.1 6) else s
def bmB (lens : List Int) : Nat → Int → Int
  | 0, m => m
  | n + 1, m => if ¬ HasC lens m then bmB lens n (m + 1) else m
def bmC (lens : List Int) (m : Int) : Int := if HasC lens m then m else 1
theorem bmA_ok {l lens : List Int} : ∀ (n : Nat) (f : Bool) {s : Cr × Int}, CrOk l s.1 → 0 ≤ s.2 ∧ s.2 ≤ 5 → CrOk l (bmA l lens n f s).1 ∧ 0 ≤ (bmA l lens n f s).2 ∧ (bmA l lens n f s).2 ≤ 5
  | 0, _, s, h, hb => ⟨h, hb⟩
  | n + 1, f, s, h, hb => by
    rw [bmA]; split
    · have h1 := belowD_ok 6 h
      have h2 := h1.2.1
      have h3 := h1.2.2.1 (by decide)
      exact bmA_ok n false h1.1 ⟨h2, by omega⟩
    · exact ⟨h, hb⟩
theorem bmA_go {l lens : List Int} {n : Nat} {f : Bool} {s : Cr × Int} (h : f = true ∨ ¬ HasC lens s.2) : bmA l lens (n + 1) f s = bmA l lens n false (belowD l s.1 6) := by rw [bmA, if_pos h]
theorem bmA_stop {l lens : List Int} {n : Nat} {s : Cr × Int} (h : HasC lens s.2) : bmA l lens n false s = s := by
  cases n with
  | zero => rfl
  | succ n => rw [bmA, if_neg]; rintro (h1 | h1); cases h1; exact h1 h
theorem bmB_go {lens : List Int} {m : Int} (hm : m < 6) (h : ¬ HasC lens m) : bmB lens (6 - m).toNat m = bmB lens (6 - (m + 1)).toNat (m + 1) := by
  rw [show (6 - m).toNat = (6 - (m + 1)).toNat + 1 by omega, bmB, if_pos h]
theorem bmB_stop {lens : List Int} {m : Int} (h : HasC lens m ∨ ¬ m < 6) : bmB lens (6 - m).toNat m = m := by
  by_cases hm : m < 6
  · rw [show (6 - m).toNat = (6 - (m + 1)).toNat + 1 by omega, bmB, if_neg]
    rcases h with h | h
    · exact fun h1 => h1 h
    · exact absurd hm h
  · rw [show (6 - m).toNat = 0 by omega]; rfl
def blkM (l lens : List Int) (c : Cr) : Cr × Int := ((bmA l lens 8 true (c, 0)).1, bmC lens (bmB lens (6 - (bmA l lens 8 true (c, 0)).2).toNat (bmA l lens 8 true (c, 0)).2))
theorem blkM_ok {l lens : List Int} {c : Cr} (h : CrOk l c) : CrOk l (blkM l lens c).1 := (bmA_ok 8 true (s := (c, 0)) h ⟨Int.le_refl 0, by show (0 : Int) ≤ 5; omega⟩).1
abbrev ixs (n : Int) (x : Int) : List Int := [0, 0, 1, 2, n * n - 1, x]
abbrev lvs (x : Int) : List Int := [1, -1, 3, -20, 90, x - 200]
def dvS (l : List Int) (n : Int) (s : Cr × List Int) : Cr × List Int :=
  ((pickD l (belowD l (pickD l (belowD l s.1 (n * n)).1 (ixs n (belowD l s.1 (n * n)).2)).1 400).1 (lvs (belowD l (pickD l (belowD l s.1 (n * n)).1 (ixs n (belowD l s.1 (n * n)).2)).1 400).2)).1,
    s.2.set (pickD l (belowD l s.1 (n * n)).1 (ixs n (belowD l s.1 (n * n)).2)).2.toNat (pickD l (belowD l (pickD l (belowD l s.1 (n * n)).1 (ixs n (belowD l s.1 (n * n)).2)).1 400).1 (lvs (belowD l (pickD l (belowD l s.1 (n * n)).1 (ixs n (belowD l s.1 (n * n)).2)).1 400).2)).2)
def dvK (l : List Int) (n : Int) : Nat → Cr × List Int → Cr × List Int
  | 0, s => s
  | k + 1, s => dvK l n k (dvS l n s)
structure LvSt (l : List Int) (n : Int) (s : Cr × List Int) where
  b : Cr × Int
  i : Cr × Int
  q : Cr × Int
  v : Cr × Int
  hb : b = belowD l s.1 (n * n)
  hi : i = pickD l b.1 (ixs n b.2)
  hq : q = belowD l i.1 400
  hv : v = pickD l q.1 (lvs q.2)
theorem dvS_facts {l : List Int} {n : Int} {s : Cr × List Int} (hn : n = 4 ∨ n = 8) (h : CrOk l s.1) : CrOk l (belowD l s.1 (n * n)).1 ∧ CrOk l (pickD l (belowD l s.1 (n * n)).1 (ixs n (belowD l s.1 (n * n)).2)).1 ∧
    (0 ≤ (pickD l (belowD l s.1 (n * n)).1 (ixs n (belowD l s.1 (n * n)).2)).2 ∧ (pickD l (belowD l s.1 (n * n)).1 (ixs n (belowD l s.1 (n * n)).2)).2 < n * n) ∧
    CrOk l (belowD l (pickD l (belowD l s.1 (n * n)).1 (ixs n (belowD l s.1 (n * n)).2)).1 400).1 ∧ CrOk l (dvS l n s).1 ∧ (dvS l n s).2.length = s.2.length := by
  have hnn : n * n = 16 ∨ n * n = 64 := by rcases hn with rfl | rfl <;> decide
  have h1 := belowD_ok (n * n) h
  have h2 := pickD_ok (xs := ixs n (belowD l s.1 (n * n)).2) h1.1 (by simp)
  have h3 := belowD_ok 400 h2.1
  have h4 := pickD_ok (xs := lvs (belowD l (pickD l (belowD l s.1 (n * n)).1 (ixs n (belowD l s.1 (n * n)).2)).1 400).2) h3.1 (by simp)
  have a := h1.2.1
  have b := h1.2.2.1 (by omega)
  have e := h2.2
  simp only [List.mem_cons, List.not_mem_nil, or_false] at e
  exact ⟨h1.1, h2.1, by omega, h3.1, h4.1, by unfold dvS; rw [List.length_set]⟩
theorem dvK_ok {l : List Int} {n : Int} (hn : n = 4 ∨ n = 8) : ∀ (k : Nat) {s : Cr × List Int}, CrOk l s.1 → CrOk l (dvK l n k s).1 ∧ (dvK l n k s).2.length = s.2.length
  | 0, s, h => ⟨h, rfl⟩
  | k + 1, s, h => by
    have h1 := dvS_facts hn h
    have h2 := dvK_ok hn k h1.2.2.2.2.1
    exact ⟨h2.1, by rw [dvK, h2.2, h1.2.2.2.2.2]⟩
def blkD (l lens : List Int) (n : Int) (c : Cr) : Cr × Blok :=
  ((dvK l n (belowD l (blkM l lens c).1 5).2.toNat ((belowD l (blkM l lens c).1 5).1, List.replicate (n * n).toNat 0)).1,
    ((blkM l lens c).2, (dvK l n (belowD l (blkM l lens c).1 5).2.toNat ((belowD l (blkM l lens c).1 5).1, List.replicate (n * n).toNat 0)).2))
theorem blkD_ok {l lens : List Int} {n : Int} {c : Cr} (hn : n = 4 ∨ n = 8) (h : CrOk l c) : CrOk l (blkD l lens n c).1 ∧ ((blkD l lens n c).2.2.length : Int) = n * n := by
  have h1 := belowD_ok 5 (blkM_ok (lens := lens) h)
  have h2 := dvK_ok hn (belowD l (blkM l lens c).1 5).2.toNat (s := ((belowD l (blkM l lens c).1 5).1, List.replicate (n * n).toNat 0)) h1.1
  refine ⟨h2.1, ?_⟩
  unfold blkD
  simp only
  rw [h2.2, List.length_replicate]
  rcases hn with rfl | rfl <;> decide
/-! Macroblocks. -/
def mbsK (l lens : List Int) (n : Int) : Nat → Cr × List Blok → Cr × List Blok
  | 0, s => s
  | k + 1, s => mbsK l lens n k ((blkD l lens n s.1).1, s.2 ++ [(blkD l lens n s.1).2])
def SqB (n : Int) (bs : List Blok) : Prop := ∀ b ∈ bs, (b.2.length : Int) = n * n
theorem mbsK_ok {l lens : List Int} {n : Int} (hn : n = 4 ∨ n = 8) : ∀ (k : Nat) {s : Cr × List Blok}, CrOk l s.1 → SqB n s.2 → CrOk l (mbsK l lens n k s).1 ∧ (mbsK l lens n k s).2.length = s.2.length + k ∧ SqB n (mbsK l lens n k s).2
  | 0, s, h, hb => ⟨h, rfl, hb⟩
  | k + 1, s, h, hb => by
    have h1 := blkD_ok (lens := lens) hn h
    have h2 := mbsK_ok (lens := lens) hn k (s := ((blkD l lens n s.1).1, s.2 ++ [(blkD l lens n s.1).2])) h1.1 (by
      intro b hb2
      rcases List.mem_append.1 hb2 with hb2 | hb2
      · exact hb b hb2
      · rw [List.mem_singleton.1 hb2]; exact h1.2)
    exact ⟨h2.1, by rw [mbsK, h2.2.1]; simp; omega, h2.2.2⟩
def mbD (l lens : List Int) (c : Cr) : Cr × Mbk :=
  ((mbsK l lens (sz8 (onceD l c 3).2) (nm8 (onceD l c 3).2).toNat ((onceD l c 3).1, [])).1, ((onceD l c 3).2, (mbsK l lens (sz8 (onceD l c 3).2) (nm8 (onceD l c 3).2).toNat ((onceD l c 3).1, [])).2))
theorem sz8_48 (e : Bool) : sz8 e = 4 ∨ sz8 e = 8 := by cases e <;> simp [sz8]
theorem mbD_ok {l lens : List Int} {c : Cr} (h : CrOk l c) : CrOk l (mbD l lens c).1 ∧ ((mbD l lens c).2.2.length : Int) = nm8 (mbD l lens c).2.1 ∧ SqB (sz8 (mbD l lens c).2.1) (mbD l lens c).2.2 := by
  have h1 := onceD_ok 3 h
  have h2 := mbsK_ok (lens := lens) (sz8_48 (onceD l c 3).2) (nm8 (onceD l c 3).2).toNat (s := ((onceD l c 3).1, [])) h1 (fun b hb => by cases hb)
  refine ⟨h2.1, ?_, h2.2.2⟩
  have := h2.2.1
  simp only [List.length_nil, Nat.zero_add] at this
  show ((mbsK l lens _ _ _).2.length : Int) = nm8 (onceD l c 3).2
  rw [this]
  cases (onceD l c 3).2 <;> decide
theorem sq_small {e : Bool} {bs : List Blok} (h : SqB (sz8 e) bs) : ∀ b ∈ bs, b.2.length ≤ 64 := fun b hb => by
  have := h b hb
  rcases sz8_48 e with e2 | e2 <;> rw [e2] at this <;> omega
/-! Streams. -/
def strK (l lens : List Int) : Nat → Cr × List Mbk → Cr × List Mbk
  | 0, s => s
  | k + 1, s => strK l lens k ((mbD l lens s.1).1, s.2 ++ [(mbD l lens s.1).2])
def MbG (m : Mbk) : Prop := m.2.length ≤ 4 ∧ ∀ b ∈ m.2, b.2.length ≤ 64
theorem mbD_g {l lens : List Int} {c : Cr} (h : CrOk l c) : MbG (mbD l lens c).2 := by
  have h1 := mbD_ok (lens := lens) h
  refine ⟨?_, sq_small h1.2.2⟩
  have := h1.2.1
  cases hx : (mbD l lens c).2.1 <;> rw [hx] at this <;> simp [nm8] at this <;> omega
theorem strK_ok {l lens : List Int} : ∀ (k : Nat) {s : Cr × List Mbk}, CrOk l s.1 → (∀ m ∈ s.2, MbG m) → CrOk l (strK l lens k s).1 ∧ (strK l lens k s).2.length = s.2.length + k ∧ ∀ m ∈ (strK l lens k s).2, MbG m
  | 0, s, h, hb => ⟨h, rfl, hb⟩
  | k + 1, s, h, hb => by
    have h1 := mbD_ok (lens := lens) h
    have h2 := strK_ok (lens := lens) k (s := ((mbD l lens s.1).1, s.2 ++ [(mbD l lens s.1).2])) h1.1 (by
      intro b hb2
      rcases List.mem_append.1 hb2 with hb2 | hb2
      · exact hb b hb2
      · rw [List.mem_singleton.1 hb2]; exact mbD_g h)
    exact ⟨h2.1, by rw [strK, h2.2.1]; simp; omega, h2.2.2⟩
structure Str8 where
  hd : Hd6
  ms : List Mbk
def strD (l : List Int) (c : Cr) : Cr × Str8 :=
  ((strK l (headD l c).2.lens (cntM (headD l c).2.w (headD l c).2.h).toNat ((headD l c).1, [])).1, ⟨(headD l c).2, (strK l (headD l c).2.lens (cntM (headD l c).2.w (headD l c).2.h).toNat ((headD l c).1, [])).2⟩)
theorem strD_ok {l : List Int} {c : Cr} (h : CrOk l c) : CrOk l (strD l c).1 ∧ (strD l c).2.hd.lens.length = 6 ∧ SidesOk (strD l c).2.hd.w (strD l c).2.hd.h ∧ ((strD l c).2.ms.length : Int) = cntM (strD l c).2.hd.w (strD l c).2.hd.h ∧ ∀ m ∈ (strD l c).2.ms, MbG m := by
  have h1 := headD_ok h
  have h2 := strK_ok (lens := (headD l c).2.lens) (cntM (headD l c).2.w (headD l c).2.h).toNat (s := ((headD l c).1, [])) h1.1 (fun m hm => by cases hm)
  have h3 := cntM_bd h1.2.2
  refine ⟨h2.1, h1.2.1, h1.2.2, ?_, h2.2.2⟩
  have := h2.2.1
  simp only [List.length_nil, Nat.zero_add] at this
  show ((strK l _ _ _).2.length : Int) = cntM (headD l c).2.w (headD l c).2.h
  rw [this]; omega
end Go.Proofs.Ytpokokcgoebbhaa

/- Comparisons of structs of two numbers. No condition. -/
namespace Go.Abs
open Go
set_option linter.unusedVariables false
set_option linter.unusedSimpArgs false

/-- A type whose values are two numbers that are compared one by one. -/
class EqPr (P : Program) (t : TypeId) : Prop where
  eq : ∀ (w : World) (a b c d : Int), (Op.equalIn 10000 t (.agg #[.int .i64 a, .int .i64 b]) (.agg #[.int .i64 c, .int .i64 d])).run P w = .ok (decide (a = c ∧ b = d)) w
  gd : P.eqGuardType P.depth t = false
section
variable {P : Program} {n m : Nat} {G : Ctx} {T : List (Nat × AV)} {O : List AObj} {Q : Exit → St → Prop} {md : Bool} {ops : Array Oper} {l : List Oper} {d : Nat} {tt : TypeId} {pos : String} {after : Array Edge}
end
end Go.Abs

/- What an operation makes, whatever names it, is laid into a place kept for it. No condition. -/
namespace Go.Abs
open Go
set_option linter.unusedVariables false
set_option linter.unusedSimpArgs false

/-- The same values; what names the object 'k' (new) names 'j'. -/
inductive Rf (k j e : Nat) : List AV → List AV → Prop
  | nil : Rf k j e [] []
  | keep {V vs us} : V.still = true → V.nofre = true → Rf k j e vs us → Rf k j e (V :: vs) (V :: us)
  | own {k' off len vs us} : k' = k → Rf k j e vs us → Rf k j e (.own k' 0 off len :: vs) (.own j e off len :: us)
  | ptr {k' off vs us} : k' = k → Rf k j e vs us → Rf k j e (.ptr k' 0 off :: vs) (.ptr j e off :: us)
  | agg {ds es vs us} : Rf k j e ds es → Rf k j e vs us → Rf k j e (.agg ds :: vs) (.agg es :: us)
  | tup {ds es vs us} : Rf k j e ds es → Rf k j e vs us → Rf k j e (.tup ds :: vs) (.tup es :: us)
theorem Rf.rel {k j e : Nat} {S w} {ι ι' : Nat → Spot} {O O' : List AObj} {ob ob' : AObj} (ho : O[k]? = some ob) (ho' : O'[j]? = some ob') (he : ob.ep = 0) (he' : ob'.ep = e) (hsz : ob'.size = ob.size) (hι : ι' j = ι k) {vs us : List AV} (h : Rf k j e vs us) : ∀ {xs}, LRel S w ι O vs xs [] → LRel S w ι' O' us xs [] := by
  induction h with
  | nil => intro xs hl; cases hl; exact .nil
  | keep hs hn _ ih =>
    intro xs hl
    obtain ⟨v, vs', f1, f2, rfl, hv, hr, hf⟩ := hl.uncons
    obtain ⟨rfl, rfl⟩ : f1 = [] ∧ f2 = [] := by simpa using hf
    exact LRel.cons (still_any hv hs O' (fun _ h => h) (fun _ _ => rfl) (fun _ _ => rfl)) (ih hr)
  | own hk _ ih =>
    intro xs hl
    subst hk
    cases hl with
    | own q1 q2 q3 r =>
      rw [ho] at q1; cases q1
      exact .own ho' (by omega) (fun _ => by rw [hsz, hι]; exact q3 he.symm) (ih r)
  | ptr hk _ ih =>
    intro xs hl
    subst hk
    cases hl with
    | ptr q1 q2 q3 r =>
      rw [ho] at q1; cases q1
      exact .ptr ho' (by omega) (fun _ => by rw [hι]; exact q3 he.symm) (ih r)
  | agg _ _ ih1 ih2 =>
    intro xs hl
    obtain ⟨v, vs', f1, f2, rfl, hv, hr, hf⟩ := hl.uncons
    obtain ⟨rfl, rfl⟩ : f1 = [] ∧ f2 = [] := by simpa using hf
    obtain ⟨us', rfl, ha⟩ := LRel.agg_inv hv
    simpa using LRel.agg (ih1 ha) (ih2 hr)
  | tup _ _ ih1 ih2 =>
    intro xs hl
    obtain ⟨v, vs', f1, f2, rfl, hv, hr, hf⟩ := hl.uncons
    obtain ⟨rfl, rfl⟩ : f1 = [] ∧ f2 = [] := by simpa using hf
    obtain ⟨us', rfl, ha⟩ := LRel.tup_inv hv
    simpa using LRel.tup (ih1 ha) (ih2 hr)
theorem RelAt.fillV {n m G S ι F T O a w} {d j : Nat} {V V' : AV} {ob oj : AObj} (hV : Rf O.length j (oj.ep + 1) [V] [V']) (hr : RelAt n m G S ι F ⟨(d, V) :: T, O ++ [ob]⟩ a w) (hj : O[j]? = some oj) (hm : m ≤ j) (hob : ob.ep = 0) :
    ∃ ι' F', RelAt n m G S ι' F' ⟨(d, V') :: T, O.set j (ob.putE (oj.ep + 1)) ++ [deadO]⟩ a w := by
  have hjl : j < O.length := (List.getElem?_eq_some_iff.1 hj).1
  have hlast : (O ++ [ob])[O.length]? = some ob := List.getElem?_concat_length
  have hO2 : ∀ i : Nat, (O.set j (ob.putE (oj.ep + 1)) ++ [deadO])[i]? = if i = j then some (ob.putE (oj.ep + 1)) else if i = O.length then some deadO else O[i]? := by
    intro i
    by_cases h1 : i = j
    · subst h1; rw [if_pos rfl, List.getElem?_append_left (by simpa using hjl)]; simp [hjl]
    · rw [if_neg h1]
      have h1' : ¬ j = i := fun e => h1 e.symm
      by_cases h2 : i = O.length
      · subst h2; rw [if_pos rfl, List.getElem?_append_right (by simp)]; simp
      · rw [if_neg h2]
        rcases Nat.lt_or_ge i O.length with h | h
        · rw [List.getElem?_append_left (by simpa using h)]; simp [List.getElem?_set, h1']
        · rw [List.getElem?_eq_none (by simp; omega), List.getElem?_eq_none h]
  have hO1 : ∀ i : Nat, i ≠ O.length → (O ++ [ob])[i]? = O[i]? := by
    intro i hi
    rcases Nat.lt_or_ge i O.length with h | h
    · rw [List.getElem?_append_left h]
    · rw [List.getElem?_eq_none (by simp; omega), List.getElem?_eq_none h]
  have hjn : j ≠ O.length := by omega
  have hlat : Later S w ι (O ++ [ob]) S w (upd (upd ι j (ι O.length)) O.length none) (O.set j (ob.putE (oj.ep + 1)) ++ [deadO]) := by
    refine ⟨fun _ h => h, fun _ _ => rfl, fun i obi hi => ?_⟩
    by_cases h1 : i = j
    · subst h1; rw [hO1 _ hjn, hj] at hi; cases hi
      exact ⟨(ob.putE (oj.ep + 1)), by rw [hO2, if_pos rfl], .inl (Nat.lt_succ_self _)⟩
    · by_cases h2 : i = O.length
      · subst h2; rw [hlast] at hi; cases hi
        exact ⟨deadO, by rw [hO2, if_neg h1, if_pos rfl], .inl (by rw [hob]; exact Nat.lt_succ_self _)⟩
      · rw [hO1 _ h2] at hi
        exact ⟨obi, by rw [hO2, if_neg h1, if_neg h2]; exact hi, .inr ⟨rfl, rfl, by rw [upd_other _ _ h2, upd_other _ _ h1]⟩⟩
  have hn := hr.objs.obj O.length ob hlast
  refine ⟨upd (upd ι j (ι O.length)) O.length none, upd (upd F j (F O.length)) O.length [], hr.defers, hr.size, fun t' => ?_, ⟨fun i obi hi => ?_, fun i hi => ?_, fun i i' hi hi' hii c hcm => ?_⟩, fun i hi c hcm => ?_, hr.base, hr.stable, hr.keeps, fun i hi => ?_, ?_⟩
  · have ht := hr.tmps t'
    by_cases e : d = t'
    · subst e
      have ht : VRel S w ι (O ++ [ob]) (look ((d, V) :: T) d) (a.tmps.getD d undef) [] := ht
      show VRel _ _ _ _ (look ((d, V') :: T) d) _ _
      rw [look_cons_same] at ht ⊢
      exact hV.rel (ob' := ob.putE (oj.ep + 1)) hlast (by rw [hO2, if_pos rfl]) hob rfl rfl (by rw [upd_other _ _ hjn, upd_same]) ht
    · have ht : VRel S w ι (O ++ [ob]) (look ((d, V) :: T) t') (a.tmps.getD t' undef) [] := ht
      show VRel _ _ _ _ (look ((d, V') :: T) t') _ _
      rw [look_cons_other _ _ _ _ e] at ht ⊢
      exact ht.mono hlat (fun _ _ => rfl)
  · have hi : (O.set j (ob.putE (oj.ep + 1)) ++ [deadO])[i]? = some obi := hi
    rw [hO2] at hi
    by_cases e1 : i = j
    · subst e1
      rw [if_pos rfl] at hi; cases hi
      rw [upd_other _ _ hjn, upd_other _ _ hjn, upd_same, upd_same]
      unfold ObjAt at hn ⊢
      cases hs : ι O.length with
      | none => rw [hs] at hn; exact hn
      | some p =>
        obtain ⟨b, k⟩ := p
        rw [hs] at hn
        obtain ⟨cur, t, fz, f', h1, h2, h3, h4, h5, h6, h7⟩ := hn
        have h8 := h7.mono hlat (fun _ _ => rfl)
        rw [hs] at h8
        exact ⟨cur, t, fz, f', h1, h2, h3, h4, h5, h6, h8⟩
    · rw [if_neg e1] at hi
      by_cases e2 : i = O.length
      · subst e2
        rw [if_pos rfl] at hi; cases hi
        rw [upd_same, upd_same]; exact ⟨rfl, rfl⟩
      · rw [if_neg e2] at hi
        rw [upd_other _ _ e2, upd_other _ _ e2, upd_other _ _ e1, upd_other _ _ e1]
        have ho := hr.objs.obj i obi (by show (O ++ [ob])[i]? = _; rw [hO1 _ e2]; exact hi)
        unfold ObjAt at ho ⊢
        cases hs : ι i with
        | none => rw [hs] at ho; exact ho
        | some p =>
          obtain ⟨b, k⟩ := p
          rw [hs] at ho
          obtain ⟨cur, t, fz, f', h1, h2, h3, h4, h5, h6, h7⟩ := ho
          exact ⟨cur, t, fz, f', h1, h2, h3, h4, h5, h6, h7.mono hlat (fun _ _ => rfl)⟩
  · have hi : i < (O.set j (ob.putE (oj.ep + 1)) ++ [deadO]).length := hi
    simp only [List.length_append, List.length_set, List.length_singleton] at hi
    by_cases e2 : i = O.length
    · subst e2; rw [upd_same]; exact List.nodup_nil
    · rw [upd_other _ _ e2]
      by_cases e1 : i = j
      · subst e1; rw [upd_same]; exact hr.objs.nodup O.length (by show O.length < (O ++ [ob]).length; simp)
      · rw [upd_other _ _ e1]; exact hr.objs.nodup i (by show i < (O ++ [ob]).length; simp; omega)
  · have hi : i < (O.set j (ob.putE (oj.ep + 1)) ++ [deadO]).length := hi
    have hi' : i' < (O.set j (ob.putE (oj.ep + 1)) ++ [deadO]).length := hi'
    simp only [List.length_append, List.length_set, List.length_singleton] at hi hi'
    by_cases e2 : i = O.length
    · subst e2; rw [upd_same] at hcm; cases hcm
    · rw [upd_other _ _ e2] at hcm
      by_cases e3 : i' = O.length
      · subst e3; rw [upd_same]; intro h; cases h
      · rw [upd_other _ _ e3]
        have hL : (O ++ [ob]).length = O.length + 1 := by simp
        by_cases e1 : i = j
        · subst e1
          rw [upd_same] at hcm
          rw [upd_other _ _ (fun e => hii e.symm)]
          exact hr.objs.apart O.length i' (by show O.length < (O ++ [ob]).length; omega) (by show i' < (O ++ [ob]).length; omega) (fun e => e3 e.symm) c hcm
        · rw [upd_other _ _ e1] at hcm
          by_cases e4 : i' = j
          · subst e4; rw [upd_same]
            exact hr.objs.apart i O.length (by show i < (O ++ [ob]).length; omega) (by show O.length < (O ++ [ob]).length; omega) e2 c hcm
          · rw [upd_other _ _ e4]
            exact hr.objs.apart i i' (by show i < (O ++ [ob]).length; omega) (by show i' < (O ++ [ob]).length; omega) hii c hcm
  · have hi : i < (O.set j (ob.putE (oj.ep + 1)) ++ [deadO]).length := hi
    simp only [List.length_append, List.length_set, List.length_singleton] at hi
    have hL : (O ++ [ob]).length = O.length + 1 := by simp
    by_cases e2 : i = O.length
    · subst e2; rw [upd_same] at hcm; cases hcm
    · rw [upd_other _ _ e2] at hcm
      by_cases e1 : i = j
      · subst e1; rw [upd_same] at hcm; exact hr.foot O.length (by show O.length < (O ++ [ob]).length; omega) c hcm
      · rw [upd_other _ _ e1] at hcm; exact hr.foot i (by show i < (O ++ [ob]).length; omega) c hcm
  · rw [upd_other _ _ (by omega), upd_other _ _ (by omega)]; exact hr.spots i hi
  · show m ≤ (O.set j (ob.putE (oj.ep + 1)) ++ [deadO]).length
    simp only [List.length_append, List.length_set, List.length_singleton]; omega

section
variable {P : Program} {n m : Nat} {G : Ctx} {O : List AObj} {Q : Exit → St → Prop} {ops : Array Oper}
theorem WpL.putV {T : List (Nat × AV)} {Ov : List AObj} {p d : Nat} {V V' : AV} {ob : AObj} (hV : Rf (O ++ Ov).length (O.length + p) 1 [V] [V']) (hp : Ov[p]? = some roomO) (hm : m ≤ O.length + p) (hob : ob.ep = 0) (hst : ob.cells.all AV.still = true) :
    WpL P n m G false ops [] ⟨(d, V) :: T, O ++ Ov ++ [ob]⟩ (Only ⟨(d, V') :: T, O ++ (Fil.put p ob.put1).run Ov⟩) := by
  refine WpL.weak (σ' := ⟨(d, V') :: T, (O ++ Ov).set (O.length + p) (ob.putE 1) ++ [deadO]⟩) ?_ ?_
  · rintro n' G' a w ⟨S, ι, F, hr⟩
    obtain ⟨ι', F', h⟩ := hr.fillV (V := V) (V' := V') (j := O.length + p) (oj := roomO) hV (fill_at hp) hm hob
    exact ⟨S, ι', F', h⟩
  · refine WpL.nil (Only.mk ?_)
    rw [fill_eq]; rfl
/-- The same of any object. -/
theorem WpL.putA {T : List (Nat × AV)} {Ov : List AObj} {p d : Nat} {V V' : AV} {ob : AObj} (hV : Rf (O ++ Ov).length (O.length + p) 1 [V] [V']) (hp : Ov[p]? = some roomO) (hm : m ≤ O.length + p) (hob : ob.ep = 0) :
    WpL P n m G false ops [] ⟨(d, V) :: T, O ++ Ov ++ [ob]⟩ (Only ⟨(d, V') :: T, O ++ (Fil.put p ob.put1).run Ov⟩) := by
  refine WpL.weak (σ' := ⟨(d, V') :: T, (O ++ Ov).set (O.length + p) (ob.putE 1) ++ [deadO]⟩) ?_ ?_
  · rintro n' G' a w ⟨S, ι, F, hr⟩
    obtain ⟨ι', F', h⟩ := hr.fillV (V := V) (V' := V') (j := O.length + p) (oj := roomO) hV (fill_at hp) hm hob
    exact ⟨S, ι', F', h⟩
  · refine WpL.nil (Only.mk ?_)
    rw [fill_eq]; rfl
end
end Go.Abs

/- Regions that draw their order, further: operations that yield nothing (stores), and places that several operations touch, each waiting for those before it. No condition. -/
namespace Go.Abs
open Go
set_option linter.unusedVariables false
set_option linter.unusedSimpArgs false

inductive HeadR (P : Program) (n m : Nat) (G : Ctx) (ops : Array Oper) (T0 : List (Nat × AV)) (O Oi : List AObj) (keep sh : List Nat) : List (Nat × AV) → List Fil → List Oper → List (Nat × AV) → List Fil → Prop
  | nil {fs gs} : HeadR P n m G ops T0 O Oi keep sh fs gs [] fs gs
  | cons {fs out : List (Nat × AV)} {gs : List Fil} {o : Oper} {l : List Oper} {d : Nat} {V : AV} {F : List (Nat × AV)} {ks : List Fil} (k : Fil) (hF : deps fs o = F)
      (h : ∀ Tv Ov, Oi.length ≤ Ov.length → (∀ p ob, k.spot = some (p, ob) → Ov[p]? = (fillAll gs Oi)[p]?) → (∀ j f p ob, waits o j = true → gs[j]? = some f → f.spot = some (p, ob) → memB p sh = false → Ov[p]? = some ob) → (∀ q, memB q keep = true → Ov[q]? = Oi[q]?) →
        WpL P n m G false ops [o] ⟨F ++ (T0 ++ Tv), O ++ Ov⟩ (Only ⟨(d, V) :: (F ++ (T0 ++ Tv)), O ++ k.run Ov⟩)) (r : HeadR P n m G ops T0 O Oi keep sh (fs ++ [(d, V)]) (gs ++ [k]) l out ks) : HeadR P n m G ops T0 O Oi keep sh fs gs (o :: l) out ks

section
variable {P : Program} {n m : Nat} {G : Ctx} {ops : Array Oper} {T0 : List (Nat × AV)} {O Oi : List AObj} {keep sh : List Nat}

theorem HeadR.pre {fs gs l out ks} (h : HeadR P n m G ops T0 O Oi keep sh fs gs l out ks) : ∃ r s, out = fs ++ r ∧ r.length = l.length ∧ ks = gs ++ s ∧ s.length = l.length := by
  induction h with
  | nil => exact ⟨[], [], by simp, rfl, by simp, rfl⟩
  | @cons fs out gs o l d V F ks k _ _ _ ih => obtain ⟨r, s, h1, h2, h3, h4⟩ := ih; exact ⟨(d, V) :: r, k :: s, by rw [h1]; simp, by simp [h2], by rw [h3]; simp, by simp [h4]⟩

theorem HeadR.at {fs gs l out ks} (h : HeadR P n m G ops T0 O Oi keep sh fs gs l out ks) (hg : gs.length = fs.length) : ∀ {j : Nat} {o : Oper}, l[j]? = some o → ∃ d V k, out[fs.length + j]? = some (d, V) ∧ ks[fs.length + j]? = some k ∧
    ∀ Tv Ov, Oi.length ≤ Ov.length → (∀ p ob, k.spot = some (p, ob) → Ov[p]? = (fillAll (ks.take (fs.length + j)) Oi)[p]?) → (∀ i f p ob, waits o i = true → (ks.take (fs.length + j))[i]? = some f → f.spot = some (p, ob) → memB p sh = false → Ov[p]? = some ob) → (∀ q, memB q keep = true → Ov[q]? = Oi[q]?) →
      WpL P n m G false ops [o] ⟨deps (out.take (fs.length + j)) o ++ (T0 ++ Tv), O ++ Ov⟩ (Only ⟨(d, V) :: (deps (out.take (fs.length + j)) o ++ (T0 ++ Tv)), O ++ k.run Ov⟩) := by
  induction h with
  | nil => intro j o h; simp at h
  | @cons fs out gs o l d V F ks k hF h r ih =>
    intro j o' hj
    obtain ⟨r', s', h1, h2, h3, h4⟩ := r.pre
    cases j with
    | zero =>
      simp only [List.getElem?_cons_zero, Option.some.injEq] at hj
      subst hj
      refine ⟨d, V, k, by rw [h1]; simp, by rw [h3]; simp [hg], ?_⟩
      have : out.take (fs.length + 0) = fs := by rw [h1, Nat.add_zero, List.append_assoc, List.take_left']; rfl
      have e2 : ks.take (fs.length + 0) = gs := by rw [h3, Nat.add_zero, List.append_assoc, List.take_left']; exact hg
      rw [this, hF, e2]; exact h
    | succ j =>
      have := ih (by simp [hg]) (j := j) (o := o') (by simpa using hj)
      rw [List.length_append, List.length_singleton, Nat.add_assoc, Nat.add_comm 1 j] at this
      simpa using this

/-- What a place holds: what the last operation that touches it left, or what was there. -/
theorem fillAll_cases : ∀ (L : List Fil) (Oi : List AObj) (q : Nat), q < Oi.length → (∃ (i : Nat) (f : Fil) (ob : AObj), L[i]? = some f ∧ f.spot = some (q, ob) ∧ (∀ (j : Nat) (g : Fil) (oc : AObj), i < j → L[j]? = some g → g.spot ≠ some (q, oc)) ∧ (fillAll L Oi)[q]? = some ob) ∨
    ((∀ (j : Nat) (g : Fil) (oc : AObj), L[j]? = some g → g.spot ≠ some (q, oc)) ∧ (fillAll L Oi)[q]? = Oi[q]?)
  | [], Oi, q, hq => .inr ⟨fun j g oc h => by simp at h, rfl⟩
  | f :: L, Oi, q, hq => by
    rw [fillAll]
    cases hs : f.spot with
    | none =>
      rcases fillAll_cases L Oi q hq with ⟨i, g, ob, h1, h2, h3, h4⟩ | ⟨h1, h2⟩
      · refine .inl ⟨i + 1, g, ob, by simpa using h1, h2, fun j g' oc hj hg => ?_, h4⟩
        cases j with
        | zero => omega
        | succ j => exact h3 j g' oc (by omega) (by simpa using hg)
      · refine .inr ⟨fun j g oc hg => ?_, h2⟩
        cases j with
        | zero => simp at hg; subst hg; rw [hs]; simp
        | succ j => exact h1 j g oc (by simpa using hg)
    | some x =>
      obtain ⟨p, ob0⟩ := x
      simp only
      rcases fillAll_cases L (Oi.set p ob0) q (by simpa using hq) with ⟨i, g, ob, h1, h2, h3, h4⟩ | ⟨h1, h2⟩
      · refine .inl ⟨i + 1, g, ob, by simpa using h1, h2, fun j g' oc hj hg => ?_, h4⟩
        cases j with
        | zero => omega
        | succ j => exact h3 j g' oc (by omega) (by simpa using hg)
      · by_cases e : p = q
        · subst e
          refine .inl ⟨0, f, ob0, by simp, hs, fun j g' oc hj hg => ?_, by rw [h2, List.getElem?_set_self hq]⟩
          cases j with
          | zero => omega
          | succ j => exact h1 j g' oc (by simpa using hg)
        · refine .inr ⟨fun j g oc hg => ?_, by rw [h2, List.getElem?_set, if_neg e]⟩
          cases j with
          | zero => simp at hg; subst hg; rw [hs]; intro h; cases h; exact e rfl
          | succ j => exact h1 j g oc (by simpa using hg)

structure RoomR (ks : List Fil) (Oi : List AObj) (k : Nat) (listed : Array Bool) (Ov : List AObj) : Prop where
  len : Ov.length = Oi.length + ((List.range k).filter fun i => listed.getD i false && isPut ks i).length
  cur : ∀ q, q < Oi.length → (∃ i f ob, i < k ∧ listed.getD i false = true ∧ ks[i]? = some f ∧ f.spot = some (q, ob) ∧ (∀ j g oc, i < j → j < k → listed.getD j false = true → ks[j]? = some g → g.spot ≠ some (q, oc)) ∧ Ov[q]? = some ob) ∨
    ((∀ j g oc, j < k → listed.getD j false = true → ks[j]? = some g → g.spot ≠ some (q, oc)) ∧ Ov[q]? = Oi[q]?)
  dead : ∀ q, Oi.length ≤ q → q < Ov.length → Ov[q]? = some deadO
/-- Every place lies among the places; what touches a place touched before is shared and waits for that. -/
structure RoomROk (ops : Array Oper) (sh : List Nat) (ks : List Fil) (c k : Nat) : Prop where
  lt : ∀ i f p ob, i < k → ks[i]? = some f → f.spot = some (p, ob) → p < c
  chain : ∀ i j f g p ob oc, i < j → j < k → ks[i]? = some f → ks[j]? = some g → f.spot = some (p, ob) → g.spot = some (p, oc) → memB p sh = true ∧ ∃ o, ops[j]? = some o ∧ waits o i = true

theorem waits_spec {o : Oper} {j : Nat} (h : waits o j = true) : ∃ e ∈ o.after, Region.binds .any e = true ∧ e.on = j := by
  obtain ⟨e, he, hb⟩ := List.any_eq_true.1 h
  rw [Bool.and_eq_true] at hb
  exact ⟨e, by simpa using he, hb.1, Nat.eq_of_beq_eq_true hb.2⟩

theorem RoomR.before {ks : List Fil} {k i : Nat} {listed : Array Bool} {Ov : List AObj} {f : Fil} {o : Oper} (h : RoomR ks Oi k listed Ov) (ok : RoomROk ops sh ks Oi.length k) (inv : HeadInv .any ops k listed) (hik : i < k) (hu : listed.getD i false = false) (hall : ∀ e ∈ o.after, Region.binds .any e = true → listed.getD e.on false = true) (ho : ops[i]? = some o) (hf : ks[i]? = some f) {p : Nat} {ob : AObj} (hsp : f.spot = some (p, ob)) :
    Ov[p]? = (fillAll (ks.take i) Oi)[p]? := by
  have hp := ok.lt i f p ob hik hf hsp
  -- what touches the place before it is listed, what touches it behind is not
  have hbef : ∀ j g oc, j < i → ks[j]? = some g → g.spot = some (p, oc) → listed.getD j false = true := by
    intro j g oc hj hg hs
    obtain ⟨_, o', ho', hw⟩ := ok.chain j i g f p oc ob hj hik hg hf hs hsp
    rw [ho] at ho'; cases ho'
    obtain ⟨e, he, hb, rfl⟩ := waits_spec hw
    exact hall e he hb
  have haft : ∀ j g oc, i < j → j < k → ks[j]? = some g → g.spot = some (p, oc) → listed.getD j false = false := by
    intro j g oc hj hjk hg hs
    obtain ⟨_, o', ho', hw⟩ := ok.chain i j f g p ob oc hj hjk hf hg hsp hs
    cases hl : listed.getD j false with
    | false => rfl
    | true =>
      obtain ⟨e, he, hb, rfl⟩ := waits_spec hw
      have := inv.closed j o' ho' hl e he hb
      rw [hu] at this; cases this
  have htk : ∀ j g, (ks.take i)[j]? = some g → j < i ∧ ks[j]? = some g := by
    intro j g hg
    rw [List.getElem?_take] at hg
    split at hg
    · rename_i hj; exact ⟨hj, hg⟩
    · cases hg
  rcases h.cur p hp with ⟨j, g, oc, hjk, hl, hg, hs, hlast, hv⟩ | ⟨hno, hv⟩ <;> rcases fillAll_cases (ks.take i) Oi p hp with ⟨j2, g2, oc2, hg2, hs2, hlast2, hv2⟩ | ⟨hno2, hv2⟩
  · obtain ⟨hj2, hg2⟩ := htk j2 g2 hg2
    have hji : j < i := by
      rcases Nat.lt_trichotomy j i with h1 | h1 | h1
      · exact h1
      · subst h1; rw [hu] at hl; cases hl
      · rw [haft j g oc h1 hjk hg hs] at hl; cases hl
    have : j = j2 := by
      rcases Nat.lt_trichotomy j j2 with h1 | h1 | h1
      · exact absurd hs2 (hlast j2 g2 oc2 h1 (by omega) (hbef j2 g2 oc2 hj2 hg2 hs2) hg2)
      · exact h1
      · exact absurd hs (hlast2 j g oc h1 (by rw [List.getElem?_take, if_pos hji]; exact hg))
    subst this
    rw [hg] at hg2; cases hg2
    rw [hs] at hs2; cases hs2
    rw [hv, hv2]
  · have hji : j < i := by
      rcases Nat.lt_trichotomy j i with h1 | h1 | h1
      · exact h1
      · subst h1; rw [hu] at hl; cases hl
      · rw [haft j g oc h1 hjk hg hs] at hl; cases hl
    exact absurd hs (hno2 j g oc (by rw [List.getElem?_take, if_pos hji]; exact hg))
  · obtain ⟨hj2, hg2⟩ := htk j2 g2 hg2
    exact absurd hs2 (hno j2 g2 oc2 (by omega) (hbef j2 g2 oc2 hj2 hg2 hs2) hg2)
  · rw [hv, hv2]

theorem RoomR.step {ks : List Fil} {k i : Nat} {listed : Array Bool} {Ov : List AObj} {f : Fil} (h : RoomR ks Oi k listed Ov) (ok : RoomROk ops sh ks Oi.length k) (inv : HeadInv .any ops k listed) (hik : i < k) (hs : i < listed.size) (hu : listed.getD i false = false) (hf : ks[i]? = some f) :
    RoomR ks Oi k (listed.setIfInBounds i true) (f.run Ov) := by
  have hself : (listed.setIfInBounds i true).getD i false = true := by simp [hs]
  have hcnt := count_set (f := isPut ks) hik hs hu
  have hlen := h.len
  have hp : isPut ks i = f.isPut := by unfold isPut; rw [hf]; rfl
  rw [hp] at hcnt
  have hrl : (f.run Ov).length = Ov.length + (if f.isPut = true then 1 else 0) := by cases f <;> simp [Fil.run, Fil.isPut]
  have hle : Oi.length ≤ Ov.length := by omega
  have hoth : ∀ q, q < Ov.length → (∀ p ob, f.spot = some (p, ob) → p ≠ q) → (f.run Ov)[q]? = Ov[q]? := by
    intro q hq hne
    cases f with
    | none => rfl
    | put p ob =>
      have := hne p ob rfl
      unfold Fil.run
      rw [List.getElem?_append_left (by simpa using hq), List.getElem?_set, if_neg this]
    | step p ob =>
      have := hne p ob rfl
      unfold Fil.run
      rw [List.getElem?_set, if_neg this]
  have hown : ∀ p ob, f.spot = some (p, ob) → (f.run Ov)[p]? = some ob := by
    intro p ob e
    have hpc := ok.lt i f p ob hik hf e
    cases f with
    | none => cases e
    | put p' ob' =>
      cases e
      unfold Fil.run
      rw [List.getElem?_append_left (by rw [List.length_set]; omega), List.getElem?_set_self (by omega)]
    | step p' ob' =>
      cases e
      unfold Fil.run
      rw [List.getElem?_set_self (by omega)]
  refine ⟨by rw [hrl, hcnt, hlen]; split <;> omega, fun q hq => ?_, fun q h1 h2 => ?_⟩
  · by_cases hq2 : ∃ ob, f.spot = some (q, ob)
    · obtain ⟨ob, hsp⟩ := hq2
      refine .inl ⟨i, f, ob, hik, hself, hf, hsp, fun j g oc hj hjk hl hg hs2 => ?_, hown q ob hsp⟩
      rw [getD_set_ne false (by omega)] at hl
      obtain ⟨_, o', ho', hw⟩ := ok.chain i j f g q ob oc hj hjk hf hg hsp hs2
      obtain ⟨e, he, hb, rfl⟩ := waits_spec hw
      have := inv.closed j o' ho' hl e he hb
      rw [hu] at this; cases this
    · have hne : ∀ p ob, f.spot = some (p, ob) → p ≠ q := fun p ob hsp e => hq2 ⟨ob, e ▸ hsp⟩
      rw [hoth q (by omega) hne]
      rcases h.cur q hq with ⟨j, g, oc, hjk, hl, hg, hs2, hlast, hv⟩ | ⟨hno, hv⟩
      · have hij : i ≠ j := by rintro rfl; rw [hu] at hl; cases hl
        refine .inl ⟨j, g, oc, hjk, by rw [getD_set_ne false hij]; exact hl, hg, hs2, fun j2 g2 oc2 h1 h2 h3 h4 => ?_, hv⟩
        by_cases e : i = j2
        · subst e; rw [hf] at h4; cases h4; exact fun h5 => hq2 ⟨_, h5⟩
        · rw [getD_set_ne false e] at h3; exact hlast j2 g2 oc2 h1 h2 h3 h4
      · refine .inr ⟨fun j2 g2 oc2 h2 h3 h4 => ?_, hv⟩
        by_cases e : i = j2
        · subst e; rw [hf] at h4; cases h4; exact fun h5 => hq2 ⟨_, h5⟩
        · rw [getD_set_ne false e] at h3; exact hno j2 g2 oc2 h2 h3 h4
  · rcases Nat.lt_or_ge q Ov.length with h3 | h3
    · rw [hoth q h3 (fun p ob e1 => by have := ok.lt i f p ob hik hf e1; omega)]
      exact h.dead q h1 h3
    · cases f with
      | none => exact absurd h2 (by simp [Fil.run]; omega)
      | step p ob => exact absurd h2 (by simp [Fil.run]; omega)
      | put p ob =>
        simp [Fil.run] at h2
        have e : q = Ov.length := by omega
        subst e
        unfold Fil.run
        rw [List.getElem?_append_right (by simp)]; simp

def GoodR (n m : Nat) (G : Ctx) (T0 out : List (Nat × AV)) (O Oi : List AObj) (k : Nat) (ks : List Fil) (listed : Array Bool) (a : Act) (w : World) : Prop :=
  ∃ T Ov, Rel n m G ⟨T, O ++ Ov⟩ a w ∧ RoomR ks Oi k listed Ov ∧ (∀ (i d : Nat) (V : AV), out[i]? = some (d, V) → listed.getD i false = true → look T d = V) ∧ ∀ t, has out t = false → look T t = look T0 t
/-- Every place lies among c places; the shared ones are touched in order. -/
def chainR (ops : Array Oper) (sh : List Nat) (c : Nat) : Nat → List (Nat × Nat) → List Fil → Bool
  | _, _, [] => true
  | j, seen, f :: ks => match f.spot with
    | none => chainR ops sh c (j + 1) seen ks
    | some (p, _) => Nat.blt p c && (seen.all fun s => !Nat.beq s.1 p || (memB p sh && match ops[j]? with | some o => waits o s.2 | none => false)) && chainR ops sh c (j + 1) ((p, j) :: seen) ks
theorem HeadR.consF {fs fs2 out : List (Nat × AV)} {gs gs2 : List Fil} {o : Oper} {l : List Oper} {d : Nat} {V : AV} {F : List (Nat × AV)} {ks : List Fil} {cur : List AObj} (k : Fil) (hd : o.dst = some d) (hF : depsF fs o.after.toList = some F) (hcur : fillAll gs Oi = cur)
    (h : ∀ Tv Ov, Oi.length ≤ Ov.length → (∀ p ob, k.spot = some (p, ob) → Ov[p]? = cur[p]?) → (∀ j f p ob, waits o j = true → gs[j]? = some f → f.spot = some (p, ob) → memB p sh = false → Ov[p]? = some ob) → (∀ q, memB q keep = true → Ov[q]? = Oi[q]?) → WpL P n m G false ops [o] ⟨F ++ (T0 ++ Tv), O ++ Ov⟩ (Only ⟨(d, V) :: (F ++ (T0 ++ Tv)), O ++ k.run Ov⟩)) (hs : catF fs [(d, V)] = some fs2) (hg : catF gs [k] = some gs2) (r : HeadR P n m G ops T0 O Oi keep sh fs2 gs2 l out ks) : HeadR P n m G ops T0 O Oi keep sh fs gs (o :: l) out ks := by
  have := catF_eq hs; subst this; have := catF_eq hg; subst this; subst hcur
  exact .cons k (depsF_eq hF) h r
end
end Go.Abs
