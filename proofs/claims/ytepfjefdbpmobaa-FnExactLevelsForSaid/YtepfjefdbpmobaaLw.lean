/- Contracts of the laws' own functions over numbers, truth values, options, headers, blocks, macroblocks, streams: sizes, copies, comparisons, marks. No condition. -/
import Derived.Test.YtepfjefdbpmobaaBase
import Derived.Test.YtepfjefdbpmobaaDefs
namespace Go.Proofs.Ytepfjefdbpmobaa
open Go Go.Abs
set_option linter.unusedVariables false
set_option linter.unusedSimpArgs false
set_option maxRecDepth 100000
set_option maxHeartbeats 4000000
attribute [local irreducible] WpA WpL Rnd Blk Abs.Seq Abs.Fin Abs.FinG FnC FnG Only

def marksI (k : Int) (n : Nat) : List Int := (List.range n).map fun i : Nat => k + (i : Int)
@[simp] theorem marksI_len (k : Int) (n : Nat) : (marksI k n).length = n := by simp [marksI]
instance markIntS_c : ConG 33 (∀ (l : List Int) (k : Int), l.length ≤ 1099511627776 ∧ 0 ≤ k ∧ k ≤ 1099511627776 → Gn 33 [.own 0 0 0 l.length, I k] [IN l] [IN (marksI k l.length)] [] (I (k + l.length))) := ⟨fun l k hk => by
  refine FnG.of_bodyF tabOk Try.func33 Try.ntmps33 rfl (by decide +kernel) (by simp) rfl rfl fun G => ?_
  refine go (r := ?_); and_intros <;> intros <;> try exact True.intro
  refine WpA.loop (fun i : Nat => ⟨[(0, .own 0 0 0 l.length), (1, I (k + i)), (5, I i)], [IN (marksI k i ++ l.drop i)]⟩) (fun i => i ≤ l.length) (fun i => l.length - i) 0 (by simp) (go (r := ?_)) (fun i hi => ?_)
  · simp [marksI]
  have hml := marksI_len k i
  refine go (r := ?_); and_intros <;> intros <;> try exact True.intro
  · first | exact mark_step (fun i : Nat => k + (i : Int)) l i (by omega) | (simp only [Nat.mul_one, Int.toNat_natCast]; exact mark_step (fun i : Nat => k + (i : Int)) l i (by omega))
  · have : i = l.length := by omega
    subst this; simp⟩
instance heldIntS_c : Con 34 (∀ (l : List Int) (k : Int), l.length ≤ 1099511627776 ∧ 0 ≤ k ∧ k ≤ 1099511627776 → Fn 34 [IL l, I k] [] (I (if l = marksI k l.length then k + l.length else -1))) := ⟨fun l k hk => by
  refine FnC.of_body tabOk Try.func34 Try.ntmps34 rfl (by decide +kernel) (by simp) fun G => ?_
  refine go (r := ?_); and_intros <;> intros <;> try exact True.intro
  refine WpA.loop (fun i : Nat => ⟨[(0, IL l), (1, I (k + i)), (5, I i)], []⟩) (fun i => i ≤ l.length ∧ l.take i = marksI k i) (fun i => l.length - i) 0 (by simp [marksI]) (go (r := ?_)) (fun i hi => ?_)
  · simp
  refine go (r := ?_); and_intros <;> intros <;> try exact True.intro
  · rw [if_neg]; exact held_not (fun i : Nat => k + (i : Int)) 0 l i (by omega) ‹_›
  · exact held_step (fun i : Nat => k + (i : Int)) 0 l i (by omega) hi.2 ‹_›
  · have : i = l.length := by omega
    subst this; rw [if_pos (by simpa using hi.2)]⟩
instance toBoolS_c : Con 52 (∀ xs : List Bool, xs.length ≤ 1099511627776 → Fn 52 [BL xs] [BO xs] (.own 0 0 0 xs.length)) := ⟨fun xs hl => by
  refine FnC.of_body tabOk Try.func52 Try.ntmps52 rfl (by decide +kernel) (by simp) fun G => ?_
  refine go (r := ?_); and_intros <;> intros <;> try exact True.intro
  refine WpA.loop (fun k : Nat => ⟨[(0, BL xs), (3, .own 0 0 0 xs.length), (4, I k)], [BO (xs.take k ++ List.replicate (xs.length - k) false)]⟩) (fun k => k ≤ xs.length) (fun k => xs.length - k) 0 (by omega) (go (r := ?_)) (fun k hk => ?_)
  · simp
  refine go (r := ?_); and_intros <;> intros <;> try exact True.intro
  · rw [← fill_step _ _ _ (by omega)]; simp
  · have : k = xs.length := by omega
    subst this; simp⟩
instance eqBoolS_c : Con 55 (∀ xs ys : List Bool, xs.length ≤ 1099511627776 ∧ ys.length ≤ 1099511627776 → Fn 55 [BL xs, BL ys] [] (B (decide (xs = ys)))) := ⟨fun xs ys hl => by
  refine FnC.of_body tabOk Try.func55 Try.ntmps55 rfl (by decide +kernel) (by simp) fun G => ?_
  refine go (r := ?_); and_intros <;> intros <;> try exact True.intro
  · simp; intro h; subst h; contradiction
  · refine WpA.loop (fun k : Nat => ⟨[(0, BL xs), (1, BL ys), (5, I k)], []⟩) (fun k => k ≤ xs.length ∧ ∀ j < k, xs.getD j false = ys.getD j false) (fun k => xs.length - k) 0 (by simp) (go (r := trivial)) (fun k hk => ?_)
    refine go (r := ?_); and_intros <;> intros <;> try exact True.intro
    · simp; rintro rfl; contradiction
    · rename_i j hj; by_cases h : j = k
      · subst h; simp_all
      · exact hk.2 j (by omega)
    · have := eq_all false (xs := xs) (ys := ys) (by omega) (fun j hj => hk.2 j (by omega))
      simp [this]⟩
instance szBoolS_c : Con 49 (∀ (p : List Bool) (left : Int), p.length ≤ 9223372036854775807 ∧ 0 ≤ left ∧ left ≤ 1048576 → Fn 49 [BL p, I left] [] (I (max (-1) (left - p.length)))) := ⟨fun p left hl => by
  refine FnC.of_body tabOk Try.func49 Try.ntmps49 rfl (by decide +kernel) (by simp) fun G => ?_
  exact go (r := trivial)⟩
def marksB (k : Int) (n : Nat) : List Bool := (List.range n).map fun i : Nat => decide ((k + (i : Int)) % 3 = 0)
@[simp] theorem marksB_len (k : Int) (n : Nat) : (marksB k n).length = n := by simp [marksB]
instance markBoolS_c : ConG 98 (∀ (l : List Bool) (k : Int), l.length ≤ 1099511627776 ∧ 0 ≤ k ∧ k ≤ 1099511627776 → Gn 98 [.own 0 0 0 l.length, I k] [BN l] [BN (marksB k l.length)] [] (I (k + l.length))) := ⟨fun l k hk => by
  refine FnG.of_bodyF tabOk Try.func98 Try.ntmps98 rfl (by decide +kernel) (by simp) rfl rfl fun G => ?_
  refine go (r := ?_); and_intros <;> intros <;> try exact True.intro
  refine WpA.loop (fun i : Nat => ⟨[(0, .own 0 0 0 l.length), (1, I (k + i)), (5, I i)], [BN (marksB k i ++ l.drop i)]⟩) (fun i => i ≤ l.length) (fun i => l.length - i) 0 (by simp) (go (r := ?_)) (fun i hi => ?_)
  · simp [marksB]
  have hml := marksB_len k i
  refine go (r := ?_); and_intros <;> intros <;> try exact True.intro
  · first | exact mark_step (fun i : Nat => decide ((k + (i : Int)) % 3 = 0)) l i (by omega) | (simp only [Nat.mul_one, Int.toNat_natCast]; exact mark_step (fun i : Nat => decide ((k + (i : Int)) % 3 = 0)) l i (by omega))
  · have : i = l.length := by omega
    subst this; simp⟩
instance szIntS_c : Con 48 (∀ (p : List Int) (left : Int), p.length ≤ 9223372036854775807 ∧ 0 ≤ left ∧ left ≤ 1048576 → Fn 48 [IL p, I left] [] (I (max (-1) (left - p.length)))) := ⟨fun p left hl => by
  refine FnC.of_body tabOk Try.func48 Try.ntmps48 rfl (by decide +kernel) (by simp) fun G => ?_
  exact go (r := trivial)⟩

/-! Options. -/
instance szOptions_c : Con 12 (∀ (q : Int) (b d : Bool) (l m : List Int) (e : List Bool) (left : Int), l.length ≤ 9223372036854775807 ∧ m.length ≤ 9223372036854775807 ∧ e.length ≤ 9223372036854775807 ∧ 0 ≤ left ∧ left ≤ 1048576 →
    Fn 12 [OpA q b d l m e, I left] [] (I (max (-1) (left - l.length - m.length - e.length)))) := ⟨fun q b d l m e left hl => by
  refine FnC.of_body tabOk Try.func12 Try.ntmps12 rfl (by decide +kernel) (by simp) fun G => ?_
  refine go (r := ?_); and_intros <;> intros <;> try exact True.intro⟩
instance toOptions_c : Con 14 (∀ (q : Int) (b d : Bool) (l m : List Int) (e : List Bool), l.length ≤ 1099511627776 ∧ m.length ≤ 1099511627776 ∧ e.length ≤ 1099511627776 →
    Fn 14 [OpA q b d l m e] [⟨ints l, 0, 1, some 3⟩, ⟨ints m, 0, 1, some 3⟩, BO e] (.agg [I q, B b, B d, .own 0 0 0 l.length, .own 1 0 0 m.length, .own 2 0 0 e.length])) := ⟨fun q b d l m e hl => by
  refine FnC.of_body tabOk Try.func14 Try.ntmps14 rfl (by decide +kernel) (by simp) fun G => ?_
  refine go (r := ?_); and_intros <;> intros <;> try exact True.intro⟩
instance eqOptions_c : Con 16 (∀ (q : Int) (b d : Bool) (l m : List Int) (e : List Bool) (q2 : Int) (b2 d2 : Bool) (l2 m2 : List Int) (e2 : List Bool), l.length ≤ 1099511627776 ∧ m.length ≤ 1099511627776 ∧ e.length ≤ 1099511627776 ∧ l2.length ≤ 1099511627776 ∧ m2.length ≤ 1099511627776 ∧ e2.length ≤ 1099511627776 →
    Fn 16 [OpA q b d l m e, OpA q2 b2 d2 l2 m2 e2] [] (B (decide (q = q2 ∧ b = b2 ∧ d = d2 ∧ l = l2 ∧ m = m2 ∧ e = e2)))) := ⟨fun q b d l m e q2 b2 d2 l2 m2 e2 hl => by
  refine FnC.of_body tabOk Try.func16 Try.ntmps16 rfl (by decide +kernel) (by simp) fun G => ?_
  refine go (r := ?_); and_intros <;> intros <;> try exact True.intro
  all_goals simp_all⟩
instance markOptions_c : ConG 43 (∀ (q : Int) (b d : Bool) (l m : List Int) (e : List Bool) (k : Int), l.length ≤ 1048576 ∧ m.length ≤ 1048576 ∧ e.length ≤ 1048576 ∧ 0 ≤ k ∧ k ≤ 1073741824 →
    Gn 43 [.agg [I q, B b, B d, .own 0 0 0 l.length, .own 1 0 0 m.length, .own 2 0 0 e.length], I k] [IN l, IN m, BN e] [IN (marksI k l.length), IN (marksI (k + l.length) m.length), BN (marksB (k + l.length + m.length) e.length)] [] (I (k + l.length + m.length + e.length))) := ⟨fun q b d l m e k hk => by
  refine FnG.of_bodyF tabOk Try.func43 Try.ntmps43 rfl (by decide +kernel) (by simp) rfl rfl fun G => ?_
  have h1 := marksI_len k l.length
  have h2 := marksI_len (k + l.length) m.length
  refine go (r := ?_); and_intros <;> intros <;> try exact True.intro⟩
end Go.Proofs.Ytepfjefdbpmobaa
