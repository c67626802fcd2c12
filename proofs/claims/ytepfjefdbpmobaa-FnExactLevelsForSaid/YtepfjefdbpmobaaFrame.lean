/- Contracts of the functions of frames and of the law FnExactSse. No condition. -/
import Derived.Test.YtepfjefdbpmobaaBase
namespace Go.Proofs.Ytepfjefdbpmobaa
open Go Go.Abs
set_option linter.unusedVariables false
set_option linter.unusedSimpArgs false
set_option maxRecDepth 100000
set_option maxHeartbeats 2000000
attribute [local irreducible] WpA WpL Rnd Blk Abs.Seq Abs.Fin FnC Only

abbrev FrA (W H : Int) (p : List Int) : AV := .agg [I W, I H, IL p]
abbrev XO (p : List Int) : AObj := ⟨ints p, 0, 1, some 3⟩

@[irreducible] def In (l : List Int) (lo hi : Int) : Prop := ∀ v ∈ l, lo ≤ v ∧ v ≤ hi
instance (l : List Int) (lo hi : Int) : Decidable (In l lo hi) := by unfold In; exact List.decidableBAll _ l
theorem in_get {l : List Int} {lo hi : Int} (h : In l lo hi) {k : Nat} (hk : k < l.length) : lo ≤ l.getD k 0 ∧ l.getD k 0 ≤ hi := by
  unfold In at h
  have := h (l.getD k 0) (by simp [List.getElem?_eq_getElem hk])
  exact this
theorem in_all {l : List Int} {lo hi : Int} (h : ∀ j < l.length, lo ≤ l.getD j 0 ∧ l.getD j 0 ≤ hi) : In l lo hi := by
  unfold In
  intro v hv
  obtain ⟨i, hi, rfl⟩ := List.getElem_of_mem hv
  simpa [List.getElem?_eq_getElem hi] using h i hi
theorem notin {l : List Int} {lo hi : Int} {k : Nat} (hk : k < l.length) (h : ¬ (lo ≤ l.getD k 0 ∧ l.getD k 0 ≤ hi)) : false = decide (In l lo hi) := by
  symm; rw [decide_eq_false_iff_not]; exact fun hh => h (in_get hh hk)

theorem in_snoc {l : List Int} {lo hi : Int} {k : Nat} (hk : k < l.length) : In (l.take (k + 1)) lo hi ↔ In (l.take k) lo hi ∧ lo ≤ l.getD k 0 ∧ l.getD k 0 ≤ hi := by
  unfold In; rw [List.take_succ_eq_append_getElem hk, List.forall_mem_append]; simp [List.getElem?_eq_getElem hk]
theorem in_nil (lo hi : Int) : In [] lo hi := by unfold In; intro v hv; cases hv

instance allWithin_c : Con 81 (∀ (l : List Int) (lo hi : Int), l.length ≤ 1099511627776 → Fn 81 [IL l, I lo, I hi] [] (B (decide (In l lo hi)))) := ⟨fun l lo hi hl => by
  refine FnC.of_body tabOk Try.func81 Try.ntmps81 rfl (by decide +kernel) (by simp) fun G => ?_
  refine go (r := ?_); and_intros <;> intros <;> try exact True.intro
  refine WpA.loop (fun k : Nat => ⟨[(1, I lo), (2, I hi), (9, IL l), (10, I l.length), (11, I k)], []⟩) (fun k => k ≤ l.length ∧ In (l.take k) lo hi) (fun k => l.length - k) 0 (by simp [in_nil]) (go (r := trivial)) (fun k hk => ?_)
  refine go (r := ?_); and_intros <;> intros <;> try exact True.intro
  · exact notin (k := k) (by omega) ‹_›
  · rw [in_snoc (by omega)]; simp_all
  · have e : k = l.length := by omega
    subst e; simp_all⟩

instance l14Pix_c : Con 76 (∀ l : List Int, l.length ≤ 1099511627776 → Fn 76 [IL l] [] (B (decide (In l 0 255)))) := ⟨fun l hl => by
  refine FnC.of_body tabOk Try.func76 Try.ntmps76 rfl (by decide +kernel) (by simp) fun G => ?_
  refine go (r := ?_); and_intros <;> intros <;> try exact True.intro
  refine WpA.loop (fun k : Nat => ⟨[(0, IL l), (3, I k)], []⟩) (fun k => k ≤ l.length ∧ In (l.take k) 0 255) (fun k => l.length - k) 0 (by simp [in_nil]) (go (r := trivial)) (fun k hk => ?_)
  refine go (r := ?_); and_intros <;> intros <;> try exact True.intro
  · exact notin (k := k) (by omega) ‹_›
  · rw [in_snoc (by omega)]; simp_all
  · have e : k = l.length := by omega
    subst e; simp_all⟩

abbrev SidesOk (w h : Int) : Prop := 8 ≤ w ∧ w ≤ 32 ∧ 8 ≤ h ∧ h ≤ 32 ∧ w % 8 = 0 ∧ h % 8 = 0
instance SidesOk_c : Con 108 (∀ w h : Int, Fn 108 [I w, I h] [] (B (decide (SidesOk w h)))) := ⟨fun w h => by
  refine FnC.of_body tabOk Try.func108 Try.ntmps108 rfl (by decide +kernel) (by simp) fun G => ?_
  refine go (r := ?_); and_intros <;> intros <;> try exact True.intro
  all_goals first | (simp_all; done) | (rw [Bool.eq_iff_iff]; simp only [decide_eq_true_eq, Bool.not_eq_true', decide_eq_false_iff_not, Bool.false_eq_true, true_iff, false_iff, iff_true, iff_false, Bool.not_eq_eq_eq_not, Bool.not_true]; omega)⟩
instance SidesOk_s : Con 106 (∀ w h : Int, Fn 106 [I w, I h] [] (B (decide (SidesOk w h)))) := ⟨fun w h => by
  refine FnC.of_body tabOk Try.func106 Try.ntmps106 rfl (by decide +kernel) (by simp) fun G => ?_
  refine go (r := ?_); and_intros <;> intros <;> try exact True.intro
  all_goals first | (simp_all; done) | (rw [Bool.eq_iff_iff]; simp only [decide_eq_true_eq, Bool.not_eq_true', decide_eq_false_iff_not, Bool.false_eq_true, true_iff, false_iff, iff_true, iff_false, Bool.not_eq_eq_eq_not, Bool.not_true]; omega)⟩
abbrev FrameOk (W H : Int) (p : List Int) : Prop := SidesOk W H ∧ (p.length : Int) = W * H ∧ In p 0 255
instance FrameOk_c : Con 58 (∀ (W H : Int) (p : List Int), p.length ≤ 1099511627776 → Fn 58 [FrA W H p] [] (B (decide (FrameOk W H p)))) := ⟨fun W H p hl => by
  refine FnC.of_body tabOk Try.func58 Try.ntmps58 rfl (by decide +kernel) (by simp) fun G => ?_
  refine go (r := ?_); and_intros <;> intros <;> try exact True.intro
  all_goals simp_all⟩
instance FrameOk_s : Con 56 (∀ (W H : Int) (p : List Int), p.length ≤ 1099511627776 → Fn 56 [FrA W H p] [] (B (decide (FrameOk W H p)))) := ⟨fun W H p hl => by
  refine FnC.of_body tabOk Try.func56 Try.ntmps56 rfl (by decide +kernel) (by simp) fun G => ?_
  refine go (r := ?_); and_intros <;> intros <;> try exact True.intro
  all_goals simp_all⟩

instance szIntS_c : Con 48 (∀ (p : List Int) (left : Int), p.length ≤ 9223372036854775807 ∧ 0 ≤ left ∧ left ≤ 1048576 → Fn 48 [IL p, I left] [] (I (max (-1) (left - p.length)))) := ⟨fun p left hl => by
  refine FnC.of_body tabOk Try.func48 Try.ntmps48 rfl (by decide +kernel) (by simp) fun G => ?_
  exact go (r := trivial)⟩

instance szFrame_c : Con 17 (∀ (W H : Int) (p : List Int) (left : Int), p.length ≤ 9223372036854775807 ∧ 0 ≤ left ∧ left ≤ 1048576 → Fn 17 [FrA W H p, I left] [] (I (max (-1) (left - p.length)))) := ⟨fun W H p left hl => by
  refine FnC.of_body tabOk Try.func17 Try.ntmps17 rfl (by decide +kernel) (by simp) fun G => ?_
  exact go (r := trivial)⟩
instance toFrame_c : Con 19 (∀ (W H : Int) (p : List Int), p.length ≤ 1099511627776 → Fn 19 [FrA W H p] [XO p] (.agg [I W, I H, .own 0 0 0 p.length])) := ⟨fun W H p hl => by
  refine FnC.of_body tabOk Try.func19 Try.ntmps19 rfl (by decide +kernel) (by simp) fun G => ?_
  refine go (r := ?_); and_intros <;> intros <;> try exact True.intro⟩
instance eqFrame_c : Con 21 (∀ (W H W2 H2 : Int) (p q : List Int), p.length ≤ 1099511627776 ∧ q.length ≤ 1099511627776 → Fn 21 [FrA W H p, FrA W2 H2 q] [] (B (decide (W = W2 ∧ H = H2 ∧ p = q)))) := ⟨fun W H W2 H2 p q hl => by
  refine FnC.of_body tabOk Try.func21 Try.ntmps21 rfl (by decide +kernel) (by simp) fun G => ?_
  refine go (r := ?_); and_intros <;> intros <;> try exact True.intro
  all_goals first | (simp_all; done) | (rw [Bool.eq_iff_iff]; simp only [decide_eq_true_eq, Bool.not_eq_true', decide_eq_false_iff_not, Bool.false_eq_true, true_iff, false_iff, iff_true, iff_false, Bool.not_eq_eq_eq_not, Bool.not_true]; omega)⟩
def sse (p q : List Int) (k : Nat) : Int := ((List.range k).map fun i => (p.getD i 0 - q.getD i 0) * (p.getD i 0 - q.getD i 0)).sum
theorem sse_snoc (p q : List Int) (k : Nat) : sse p q (k + 1) = sse p q k + (p.getD k 0 - q.getD k 0) * (p.getD k 0 - q.getD k 0) := by
  unfold sse; rw [List.range_succ, List.map_append, List.sum_append]; simp
def sseR (W H : Int) (p : List Int) (W2 H2 : Int) (q : List Int) : Int := if FrameOk W H p ∧ FrameOk W2 H2 q ∧ W = W2 ∧ H = H2 then sse p q p.length else -1
theorem in_getD {l : List Int} (h : In l 0 255) (k : Nat) : 0 ≤ l.getD k 0 ∧ l.getD k 0 ≤ 255 := by
  by_cases hk : k < l.length
  · exact in_get h hk
  · simp [List.getElem?_eq_none (Nat.le_of_not_lt hk)]
theorem sq_bd {a b : Int} (ha : 0 ≤ a ∧ a ≤ 255) (hb : 0 ≤ b ∧ b ≤ 255) : 0 ≤ (a - b) * (a - b) ∧ (a - b) * (a - b) ≤ 65025 ∧ 0 ≤ a ∧ a ≤ 255 ∧ 0 ≤ b ∧ b ≤ 255 := by
  have h1 : (a - b).natAbs ≤ 255 := by omega
  have h4 := Nat.mul_le_mul h1 h1
  rw [← Int.natAbs_mul] at h4
  have h5 : 0 ≤ (a - b) * (a - b) := by
    rcases Int.le_total 0 (a - b) with h | h
    · exact Int.mul_nonneg h h
    · exact Int.mul_nonneg_of_nonpos_of_nonpos h h
  omega
theorem sse_bd {p q : List Int} (h1 : In p 0 255) (h2 : In q 0 255) (k : Nat) : 0 ≤ sse p q k ∧ sse p q k ≤ 65025 * k := by
  induction k with
  | zero => simp [sse]
  | succ k ih =>
    have := sq_bd (in_getD h1 k) (in_getD h2 k)
    rw [sse_snoc]; omega
theorem frame_len {W H : Int} {p : List Int} (h : FrameOk W H p) : p.length ≤ 1024 := by
  obtain ⟨⟨h1, h2, h3, h4, _⟩, h5, _⟩ := h
  have : W * H ≤ 32 * 32 := Int.mul_le_mul h2 h4 (by omega) (by omega)
  omega
end Go.Proofs.Ytepfjefdbpmobaa
