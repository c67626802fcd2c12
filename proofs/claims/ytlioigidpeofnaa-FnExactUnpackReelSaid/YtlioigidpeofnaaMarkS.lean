/- Contracts of the marks of texts and of the law FnExactUnpackReel. No condition. -/
import Derived.Test.YtlioigidpeofnaaReel
namespace Go.Proofs.Ytlioigidpeofnaa
open Go Go.Abs
set_option linter.unusedVariables false
set_option linter.unusedSimpArgs false
set_option maxRecDepth 100000
set_option maxHeartbeats 2000000
attribute [local irreducible] WpA WpL Rnd Blk Abs.Seq Abs.Fin Abs.FinG FnC FnG Only

def dg (n : Nat) : List UInt8 := if n = 0 then [] else dg (n / 10) ++ bytes [48 + (n : Int) % 10]
theorem dg_zero : dg 0 = [] := by unfold dg; rfl
theorem dg_step (n : Nat) (h : n ≠ 0) : dg n = dg (n / 10) ++ bytes [48 + (n : Int) % 10] := by rw [dg, if_neg h]
theorem dg_len (j : Nat) : ∀ n, n < 10 ^ j → (dg n).length ≤ j := by
  induction j with
  | zero => intro n h; have : n = 0 := by simpa using h
            subst this; simp [dg_zero]
  | succ j ih =>
    intro n h
    by_cases h0 : n = 0
    · subst h0; simp [dg_zero]
    · rw [dg_step n h0]
      have := ih (n / 10) (by rw [Nat.div_lt_iff_lt_mul (by decide)]; rw [Nat.pow_succ] at h; exact h)
      simp [bytes]; omega
def markT (k : Int) : List UInt8 := if k ≤ 0 then [109, 48] else 109 :: dg k.toNat
instance markText_c : Con 44 (∀ k : Int, k ≤ 1000000000 → Fn 44 [I k] [] (Z (markT k))) := ⟨fun k hk => by
  refine FnC.of_body tabOk Try.func44 Try.ntmps44 rfl (by decide +kernel) (by simp) fun G => ?_
  refine go (r := ?_); and_intros <;> intros <;> try exact True.intro
  · rw [markT, if_pos (by omega)]
  have hl := dg_len 10 k.toNat (by omega)
  refine WpA.loop (fun x : Nat × List UInt8 => ⟨[(0, I x.1), (3, Z x.2)], []⟩) (fun x => x.1 ≤ 1000000000 ∧ dg x.1 ++ x.2 = dg k.toNat) (fun x => x.1) (k.toNat, []) (by simp; omega) (go (r := trivial)) (fun x hx => ?_)
  obtain ⟨n, out⟩ := x
  obtain ⟨hx0, hx⟩ := hx
  simp only at hx0 hx ⊢
  have hlo : out.length ≤ 10 := by have := congrArg List.length hx; simp at this; omega
  refine go (r := ?_); and_intros <;> intros <;> try exact True.intro
  · refine Rnd.go (n / 10, bytes [48 + (n : Int) % 10] ++ out) ⟨by simp only; omega, by simp only; rw [← hx, dg_step n (by omega), List.append_assoc]⟩ (by simp only; omega) (go (r := ?_))
    and_intros <;> try exact True.intro
    rw [u8_wrap _ (by omega)]; rfl
  · have : n = 0 := by omega
    subst this
    rw [markT, if_neg (by omega), ← hx, dg_zero]; rfl⟩

theorem mark_step {α : Type} (f : Nat → α) (l : List α) (i : Nat) (h : i < l.length) : ((List.range i).map f ++ l.drop i).set i (f i) = (List.range (i + 1)).map f ++ l.drop (i + 1) := by
  rw [List.set_append_right _ _ (by simp), List.range_succ, List.drop_eq_getElem_cons h]; simp; rw [List.drop_eq_getElem_cons h]; rfl
theorem held_step {α : Type} (f : Nat → α) (z : α) (l : List α) (i : Nat) (h : i < l.length) (h1 : l.take i = (List.range i).map f) (h2 : l.getD i z = f i) : l.take (i + 1) = (List.range (i + 1)).map f := by
  rw [List.take_succ_eq_append_getElem h, h1, List.range_succ]; simp [h] at h2 ⊢; exact h2
theorem held_not {α : Type} (f : Nat → α) (z : α) (l : List α) (i : Nat) (h : i < l.length) (h2 : ¬ l.getD i z = f i) : ¬ l = (List.range l.length).map f := by
  intro e; apply h2; rw [e]; simp [h]
def marks (k : Int) (n : Nat) : List (List UInt8) := (List.range n).map fun i : Nat => markT (k + (i : Int))
theorem marks_len (k : Int) (n : Nat) : (marks k n).length = n := by simp [marks]
instance markStringS_c : ConG 29 (∀ (l : List (List UInt8)) (k : Int), l.length ≤ 1000000 ∧ 0 ≤ k ∧ k ≤ 1000000 → Gn 29 [.own 0 0 0 l.length, I k] [SO l] [SO (marks k l.length)] [] (I (k + l.length))) := ⟨fun l k hk => by
  refine FnG.of_bodyF tabOk Try.func29 Try.ntmps29 rfl (by decide +kernel) (by simp) rfl rfl fun G => ?_
  refine go (r := ?_); and_intros <;> intros <;> try exact True.intro
  refine WpA.loop (fun i : Nat => ⟨[(0, .own 0 0 0 l.length), (1, I (k + i)), (5, I i)], [SO (marks k i ++ l.drop i)]⟩) (fun i => i ≤ l.length) (fun i => l.length - i) 0 (by simp) (go (r := ?_)) (fun i hi => ?_)
  · simp [marks]
  have hml := marks_len k i
  refine go (r := ?_); and_intros <;> intros <;> try exact True.intro
  · rw [Nat.zero_add, Nat.mul_one]; exact mark_step (fun i : Nat => markT (k + (i : Int))) l i (by omega)
  · have : i = l.length := by omega
    subst this; simp⟩
instance heldStringS_c : Con 30 (∀ (l : List (List UInt8)) (k : Int), l.length ≤ 1000000 ∧ 0 ≤ k ∧ k ≤ 1000000 → Fn 30 [.imm 1 l.length (strs l), I k] [] (I (if l = marks k l.length then k + l.length else -1))) := ⟨fun l k hk => by
  refine FnC.of_body tabOk Try.func30 Try.ntmps30 rfl (by decide +kernel) (by simp) fun G => ?_
  refine go (r := ?_); and_intros <;> intros <;> try exact True.intro
  refine WpA.loop (fun i : Nat => ⟨[(0, .imm 1 l.length (strs l)), (1, I (k + i)), (5, I i)], []⟩) (fun i => i ≤ l.length ∧ l.take i = marks k i) (fun i => l.length - i) 0 (by simp [marks]) (go (r := ?_)) (fun i hi => ?_)
  · simp
  refine go (r := ?_); and_intros <;> intros <;> try exact True.intro
  · rw [if_neg]; exact held_not (fun i : Nat => markT (k + (i : Int))) [] l i (by omega) ‹_›
  · exact held_step (fun i : Nat => markT (k + (i : Int))) [] l i (by omega) hi.2 ‹_›
  · have : i = l.length := by omega
    subst this; rw [if_pos (by simpa using hi.2)]⟩
instance eqStringS_c : Con 21 (∀ xs ys : List (List UInt8), xs.length ≤ 1099511627776 ∧ ys.length ≤ 1099511627776 → Fn 21 [.imm 1 xs.length (strs xs), .imm 1 ys.length (strs ys)] [] (B (decide (xs = ys)))) := ⟨fun xs ys hl => by
  refine FnC.of_body tabOk Try.func21 Try.ntmps21 rfl (by decide +kernel) (by simp) fun G => ?_
  refine go (r := ?_); and_intros <;> intros <;> try exact True.intro
  · simp; intro h; subst h; contradiction
  · have hll : xs.length = ys.length := by omega
    refine WpA.loop (fun k : Nat => ⟨[(0, .imm 1 xs.length (strs xs)), (1, .imm 1 ys.length (strs ys)), (5, I k)], []⟩) (fun k => k ≤ xs.length ∧ ∀ j < k, xs.getD j [] = ys.getD j []) (fun k => xs.length - k) 0 (by simp) (go (r := trivial)) (fun k hk => ?_)
    refine go (r := ?_); and_intros <;> intros <;> try exact True.intro
    · simp; rintro rfl; contradiction
    · rename_i j hj; by_cases h : j = k
      · subst h; simp_all
      · exact hk.2 j (by omega)
    · have : xs = ys := by
        apply List.ext_getElem hll
        intro i h1 h2
        have := hk.2 i (by omega)
        simpa [h1, h2] using this
      simp [this]⟩
theorem unp_len : ∀ (r : Nat) (s : List UInt8) (l : List (List UInt8)), unp r s = some l → l.length ≤ r
  | _, [], l, h => by rw [unp_nil] at h; cases h; simp
  | 0, _ :: _, l, h => by simp [unp] at h
  | r + 1, b :: s, l, h => by
    rw [unp] at h
    split at h
    · cases h
    · cases hq : unp r ((b :: s).drop ((rv (b :: s)).2 + (rv (b :: s)).1).toNat) with
      | none => rw [hq] at h; cases h
      | some q => rw [hq] at h; have := unp_len r _ q hq; cases h; simp; omega
theorem unL_len (s : List UInt8) : (unL s).length ≤ 8 := by
  unfold unL
  cases h : unp 8 s with
  | none => simp
  | some l => exact unp_len 8 s l h
theorem FnExactUnpackReel_c (s : List UInt8) (hl : s.length ≤ 9223372036854775807) : Fn 8 [Z s] [] (B true) := by
  refine FnC.of_body tabOk Try.func8 Try.ntmps8 rfl (by decide +kernel) (by simp) fun G => ?_
  have h8 := unL_len s
  have h9 := marks_len 1 (unL s).length
  refine go (r := ?_); and_intros <;> intros <;> try exact True.intro
  all_goals first | omega | (simp_all; done) | (simp_all; omega)
end Go.Proofs.Ytlioigidpeofnaa
