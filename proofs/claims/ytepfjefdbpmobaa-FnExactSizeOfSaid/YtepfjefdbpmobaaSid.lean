/- Contracts: headers, levels, blocks, macroblocks, streams that are right. No condition. -/
import Derived.Test.YtepfjefdbpmobaaSym
import Derived.Test.YtepfjefdbpmobaaStat
import Derived.Test.YtepfjefdbpmobaaPred
namespace Go.Proofs.Ytepfjefdbpmobaa
open Go Go.Abs
set_option linter.unusedVariables false
set_option linter.unusedSimpArgs false
set_option maxRecDepth 100000
set_option maxHeartbeats 4000000
attribute [local irreducible] WpA WpL Rnd Blk Abs.Seq Abs.Fin Abs.FinG FnC FnG Only

/-! Headers. -/
abbrev HdOk (w h q : Int) (l : List Int) : Prop := SidesOk w h ∧ (0 ≤ q ∧ q ≤ 51) ∧ CodeOk l
instance HeaderOk_s : Con 131 (∀ (w h q : Int) (b d : Bool) (l : List Int), l.length ≤ 1099511627776 → Fn 131 [HdA w h q b d l] [] (B (decide (HdOk w h q l)))) := ⟨fun w h q b d l hl => by
  have hs := stepL_pos q
  refine FnC.of_body tabOk Try.func131 Try.ntmps131 rfl (by decide +kernel) (by simp) fun G => ?_
  refine go (r := ?_); and_intros <;> intros <;> try exact True.intro
  all_goals simp_all⟩
instance HeaderOk_c : Con 135 (∀ (w h q : Int) (b d : Bool) (l : List Int), l.length ≤ 1099511627776 → Fn 135 [HdA w h q b d l] [] (B (decide (HdOk w h q l)))) := ⟨fun w h q b d l hl => by
  refine FnC.of_body tabOk Try.func135 Try.ntmps135 rfl (by decide +kernel) (by simp) fun G => ?_
  refine go (r := ?_); and_intros <;> intros <;> try exact True.intro
  all_goals simp_all⟩
def cntM (w h : Int) : Int := w / 8 * (h / 8)
theorem cntM_bd {w h : Int} (hs : SidesOk w h) : (0 ≤ w / 8 ∧ w / 8 ≤ 4) ∧ (0 ≤ h / 8 ∧ h / 8 ≤ 4) ∧ 0 ≤ cntM w h ∧ cntM w h ≤ 16 := by
  have h1 : 0 ≤ w / 8 ∧ w / 8 ≤ 4 := by omega
  have h2 : 0 ≤ h / 8 ∧ h / 8 ≤ 4 := by omega
  refine ⟨h1, h2, Int.mul_nonneg h1.1 h2.1, ?_⟩
  have := Int.mul_le_mul h1.2 h2.2 h2.1 (by decide)
  exact this
instance l24Count_s : Con 133 (∀ (w h q : Int) (b d : Bool) (l : List Int), SidesOk w h → Fn 133 [HdA w h q b d l] [] (I (cntM w h))) := ⟨fun w h q b d l hs => by
  have := cntM_bd hs
  unfold cntM at *
  refine FnC.of_body tabOk Try.func133 Try.ntmps133 rfl (by decide +kernel) (by simp) fun G => ?_
  refine go (r := ?_); and_intros <;> intros <;> try exact True.intro⟩
instance many_c : Con 136 (∀ (w h q : Int) (b d : Bool) (l : List Int), SidesOk w h → Fn 136 [HdA w h q b d l] [] (I (cntM w h))) := ⟨fun w h q b d l hs => by
  have := cntM_bd hs
  unfold cntM at *
  refine FnC.of_body tabOk Try.func136 Try.ntmps136 rfl (by decide +kernel) (by simp) fun G => ?_
  refine go (r := ?_); and_intros <;> intros <;> try exact True.intro⟩

/-! Levels. -/
abbrev LvOk (l : List Int) : Prop := In l (-16383) 16383 ∧ (l.length = 16 ∨ l.length = 64)
instance LevelsOk_s : Con 134 (∀ l : List Int, l.length ≤ 1099511627776 → Fn 134 [IL l] [] (B (decide (LvOk l)))) := ⟨fun l hl => by
  have hsp := side_pos l.length
  refine FnC.of_body tabOk Try.func134 Try.ntmps134 rfl (by decide +kernel) (by simp) fun G => ?_
  refine go (r := ?_); and_intros <;> intros <;> try exact True.intro
  refine WpA.loop (fun k : Nat => ⟨[(0, IL l), (3, I k)], []⟩) (fun k => k ≤ l.length ∧ In (l.take k) (-16383) 16383) (fun k => l.length - k) 0 (by simp [in_nil]) (go (r := ?_)) (fun k hk => ?_)
  · trivial
  have hi := fun h => in_snoc (lo := -16383) (hi := 16383) (l := l) (k := k) h
  refine go (r := ?_); and_intros <;> intros <;> try exact True.intro
  · have := notin (k := k) (by omega) ‹¬ (-16383 ≤ l.getD k 0 ∧ _)›; rw [eq_comm, decide_eq_false_iff_not] at *; exact fun h => this h.1
  · rw [hi (by omega)]; exact ⟨hk.2, ‹_›⟩
  all_goals have e : k = l.length := by omega
  all_goals subst e
  all_goals rw [List.take_length] at *
  simp [hk.2, hsp]⟩
instance LevelsOk_c : Con 182 (∀ l : List Int, l.length ≤ 1099511627776 → Fn 182 [IL l] [] (B (decide (LvOk l)))) := ⟨fun l hl => by
  have hsp := side_pos l.length
  refine FnC.of_body tabOk Try.func182 Try.ntmps182 rfl (by decide +kernel) (by simp) fun G => ?_
  refine go (r := ?_); and_intros <;> intros <;> try exact True.intro
  refine WpA.loop (fun k : Nat => ⟨[(0, IL l), (5, IL l), (6, I l.length), (7, I k)], []⟩) (fun k => k ≤ l.length ∧ In (l.take k) (-16383) 16383) (fun k => l.length - k) 0 (by simp [in_nil]) (go (r := ?_)) (fun k hk => ?_)
  · trivial
  have hi := fun h => in_snoc (lo := -16383) (hi := 16383) (l := l) (k := k) h
  refine go (r := ?_); and_intros <;> intros <;> try exact True.intro
  · have := notin (k := k) (by omega) ‹¬ (-16383 ≤ l.getD k 0 ∧ _)›; rw [eq_comm, decide_eq_false_iff_not] at *; exact fun h => this h.1
  · rw [hi (by omega)]; exact ⟨hk.2, ‹_›⟩
  all_goals have e : k = l.length := by omega
  all_goals subst e
  all_goals rw [List.take_length] at *
  simp [hk.2, hsp]⟩

/-! Blocks. -/
abbrev BlkOk (m : Int) (lv : List Int) (lens : List Int) (n : Int) : Prop := (n = 4 ∨ n = 8) ∧ HasC lens m ∧ (lv.length : Int) = n * n ∧ LvOk lv
instance BlockOk_s : Con 161 (∀ (m : Int) (lv lens : List Int) (n : Int), lv.length ≤ 1099511627776 ∧ lens.length ≤ 1099511627776 → Fn 161 [.agg [I m, IL lv], IL lens, I n] [] (B (decide (BlkOk m lv lens n)))) := ⟨fun m lv lens n hl => by
  have hp := symL_pos lens m
  have hnn : n = 4 ∨ n = 8 → 0 ≤ n * n ∧ n * n ≤ 64 := by rintro (rfl | rfl) <;> decide
  refine FnC.of_body tabOk Try.func161 Try.ntmps161 rfl (by decide +kernel) (by simp) fun G => ?_
  refine go (r := ?_); and_intros <;> intros <;> try exact True.intro
  all_goals simp_all⟩
instance BlockOk_c : Con 166 (∀ (m : Int) (lv lens : List Int) (n : Int), lv.length ≤ 1099511627776 ∧ lens.length ≤ 1099511627776 → Fn 166 [.agg [I m, IL lv], IL lens, I n] [] (B (decide (BlkOk m lv lens n)))) := ⟨fun m lv lens n hl => by
  have hp := symL_pos lens m
  have hnn : n = 4 ∨ n = 8 → 0 ≤ n * n ∧ n * n ≤ 64 := by rintro (rfl | rfl) <;> decide
  refine FnC.of_body tabOk Try.func166 Try.ntmps166 rfl (by decide +kernel) (by simp) fun G => ?_
  refine go (r := ?_); and_intros <;> intros <;> try exact True.intro
  all_goals simp_all⟩

/-! The first place that passes a test. -/
def ixF {α : Type} (p : α → Bool) (l : List α) : Int := if l.any p = true then (l.findIdx p : Int) else -1
theorem ixF_at {α : Type} [Inhabited α] {p : α → Bool} {l : List α} {i : Nat} (hi : i < l.length) (h0 : ∀ j < i, p (l.getD j default) = false) (h1 : p (l.getD i default) = true) : (i : Int) = ixF p l := by
  have hg : ∀ j (hj : j < l.length), l.getD j default = l[j] := fun j hj => by simp [hj]
  unfold ixF
  rw [if_pos (List.any_eq_true.2 ⟨l[i], List.getElem_mem hi, by rw [← hg i hi]; exact h1⟩)]
  congr 1
  rw [eq_comm, List.findIdx_eq hi]
  exact ⟨by rw [← hg i hi]; exact h1, fun j hj => by rw [← hg j (by omega)]; exact h0 j hj⟩
theorem ixF_no {α : Type} [Inhabited α] {p : α → Bool} {l : List α} (h0 : ∀ j < l.length, p (l.getD j default) = false) : -1 = ixF p l := by
  have hg : ∀ j (hj : j < l.length), l.getD j default = l[j] := fun j hj => by simp [hj]
  unfold ixF
  rw [if_neg]
  intro h
  obtain ⟨x, hx, hp⟩ := List.any_eq_true.1 h
  obtain ⟨j, hj, rfl⟩ := List.getElem_of_mem hx
  have := h0 j hj
  rw [hg j hj, hp] at this; cases this
theorem ixF_bd {α : Type} (p : α → Bool) (l : List α) : -1 ≤ ixF p l ∧ ixF p l ≤ l.length := by
  unfold ixF; split
  · have := List.findIdx_le_length (p := p) (xs := l); omega
  · omega
theorem ixF_ge {α : Type} (p : α → Bool) (l : List α) : ixF p l ≥ 0 ↔ l.any p = true := by
  unfold ixF; split
  · rename_i h; simp [h]
  · rename_i h; simp [h]
theorem any_not {α : Type} (q : α → Prop) [DecidablePred q] (l : List α) : (l.any fun a => decide (¬ q a)) = true ↔ ¬ ∀ a ∈ l, q a := by
  rw [List.any_eq_true]
  constructor
  · rintro ⟨a, ha, h⟩ hh; exact (of_decide_eq_true h) (hh a ha)
  · intro h
    exact Decidable.byContradiction fun hh => h fun a ha => Decidable.byContradiction fun hq => hh ⟨a, ha, decide_eq_true hq⟩

/-! Macroblocks. -/
def badB (lens : List Int) (n : Int) (b : Blok) : Bool := decide (¬ BlkOk b.1 b.2 lens n)
abbrev fB (lens : List Int) (n : Int) : AV := .fn 165 [.iptr [IL lens] 0, .iptr [I n] 0]
instance MbOk1_c : Con 165 (∀ (m : Int) (lv lens : List Int) (n : Int), lv.length ≤ 1099511627776 ∧ lens.length ≤ 1099511627776 → Fn 165 [.agg [I m, IL lv], .iptr [IL lens] 0, .iptr [I n] 0] [] (B (badB lens n (m, lv)))) := ⟨fun m lv lens n hl => by
  unfold badB
  refine FnC.of_body tabOk Try.func165 Try.ntmps165 rfl (by decide +kernel) (by simp) fun G => ?_
  refine go (r := ?_); and_intros <;> intros <;> try exact True.intro
  all_goals simp_all⟩
instance IndexFuncB_c : Con 181 (∀ (l : List Blok) (lens : List Int) (n : Int), l.length ≤ 1099511627776 ∧ SmB 1099511627776 l ∧ lens.length ≤ 1099511627776 → Fn 181 [BkL l, fB lens n] [] (I (ixF (badB lens n) l))) := ⟨fun l lens n hl => by
  refine FnC.of_body tabOk Try.func181 Try.ntmps181 rfl (by decide +kernel) (by simp) fun G => ?_
  refine go (r := ?_); and_intros <;> intros <;> try exact True.intro
  refine WpA.loop (fun k : Nat => ⟨[(0, BkL l), (1, fB lens n), (7, I l.length), (8, I k)], []⟩) (fun k => k ≤ l.length ∧ ∀ j < k, badB lens n (l.getD j default) = false) (fun k => l.length - k) 0 (by simp) (go (r := ?_)) (fun k hk => ?_)
  · trivial
  have hg := fun h => smB_get hl.2.1 (k := k) h
  refine go (r := ?_); and_intros <;> intros <;> try exact True.intro
  · exact ixF_at (by omega) hk.2 (by unfold badB; exact decide_eq_true ‹_›)
  · rename_i j hj; by_cases h : j = k
    · subst h; unfold badB; exact decide_eq_false ‹_›
    · exact hk.2 j (by omega)
  all_goals (have e : k = l.length := by omega); subst e; exact ixF_no hk.2⟩
end Go.Proofs.Ytepfjefdbpmobaa
