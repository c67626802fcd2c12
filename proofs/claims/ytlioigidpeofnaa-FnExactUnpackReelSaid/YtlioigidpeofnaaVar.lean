/- Contracts of the numbers of a reel: Var and ReadVar. No condition. -/
import Derived.Test.YtlioigidpeofnaaBase
namespace Go.Proofs.Ytlioigidpeofnaa
open Go Go.Abs
set_option linter.unusedVariables false
set_option linter.unusedSimpArgs false
set_option maxRecDepth 100000
set_option maxHeartbeats 2000000
attribute [local irreducible] WpA WpL Rnd Blk Abs.Seq Abs.Fin Abs.FinG FnC FnG Only

theorem wrap_in (p : Int) (h : -9223372036854775808 ≤ p ∧ p ≤ 9223372036854775807) : IntKind.i64.wrap p = p := IntWalk.i64_in p h
theorem u8_wrap (v : Int) (h : 0 ≤ v ∧ v ≤ 255) : IntKind.u8.wrap v = v := by
  simp only [IntKind.wrap, IntKind.bits, IntKind.signed]; simp; omega
theorem ofInt_nat (k : Nat) (h : k < 9223372036854775808) : (BitVec.ofInt IntKind.i64.bits (k : Int)).toNat = k := by
  simp only [IntKind.bits, BitVec.toNat_ofInt]; omega

/-- The bytes of a number below 128, or its low seven bits and the rest. -/
def vb (n : Nat) : List Int := if n < 128 then [(n : Int)] else (128 + (n : Int) % 128) :: vb (n / 128)
theorem vb_len (j : Nat) : ∀ n, n < 128 ^ (j + 1) → (vb n).length ≤ j + 1 := by
  induction j with
  | zero => intro n h; unfold vb; rw [if_pos (by simpa using h)]; simp
  | succ j ih =>
    intro n h
    unfold vb
    split
    · simp
    · have := ih (n / 128) (by rw [Nat.div_lt_iff_lt_mul (by decide)]; rw [Nat.pow_succ] at h; exact h)
      simp; omega
theorem vb_len7 (n : Nat) (h : n ≤ 562949953421311) : (vb n).length ≤ 7 := vb_len 6 n (by rw [show (128 : Nat) ^ (6 + 1) = 562949953421312 from by decide]; omega)
theorem vb_step (n : Nat) (h : 128 ≤ n) : vb n = (128 + (n : Int) % 128) :: vb (n / 128) := by rw [vb, if_neg (by omega)]
theorem vb_end (n : Nat) (h : n < 128) : vb n = [(n : Int)] := by rw [vb, if_pos h]
def bytes (l : List Int) : List UInt8 := l.map fun v : Int => UInt8.ofNat v.toNat
def vars (n : Int) : List UInt8 := if 0 ≤ n ∧ n ≤ 562949953421311 then bytes (vb n.toNat) else []
theorem vars_len (n : Int) : (vars n).length ≤ 7 := by
  unfold vars
  split
  · have := vb_len7 n.toNat (by omega); simpa [bytes] using this
  · simp
theorem or128 : ∀ r : Fin 128, (r.val ||| 128) = 128 + r.val := by decide
theorem low7 (k : Nat) (h : k ≤ 562949953421311) : IntKind.i64.wrap ((BitVec.ofInt IntKind.i64.bits (k : Int) &&& BitVec.ofInt IntKind.i64.bits 127).toNat : Nat) = (k : Int) % 128 := by
  have e : (BitVec.ofInt IntKind.i64.bits (k : Int) &&& BitVec.ofInt IntKind.i64.bits 127).toNat = k % 128 := by
    rw [BitVec.toNat_and, ofInt_nat k (by omega), show (BitVec.ofInt IntKind.i64.bits (127 : Int)).toNat = 2 ^ 7 - 1 from ofInt_nat 127 (by decide), Nat.and_two_pow_sub_one_eq_mod]
  rw [e, wrap_in _ (by omega)]; omega
theorem hi1 (k : Nat) : IntKind.i64.wrap ((BitVec.ofInt IntKind.i64.bits ((k : Int) % 128) ||| BitVec.ofInt IntKind.i64.bits 128).toNat : Nat) = 128 + (k : Int) % 128 := by
  have e : (BitVec.ofInt IntKind.i64.bits ((k : Int) % 128) ||| BitVec.ofInt IntKind.i64.bits 128).toNat = 128 + k % 128 := by
    rw [BitVec.toNat_or, show ((k : Int) % 128) = ((k % 128 : Nat) : Int) from by omega, ofInt_nat _ (by omega), show (BitVec.ofInt IntKind.i64.bits (128 : Int)).toNat = 128 from ofInt_nat 128 (by decide)]
    exact or128 ⟨k % 128, by omega⟩
  rw [e, wrap_in _ (by omega)]; omega

instance Var_s : Con 37 (∀ n : Int, Fn 37 [I n] [] (Z (vars n))) := ⟨fun n => by
  refine FnC.of_body tabOk Try.func37 Try.ntmps37 rfl (by decide +kernel) (by simp) fun G => ?_
  refine go (r := ?_); and_intros <;> intros <;> try exact True.intro
  · rw [vars, if_neg (by assumption)]
  have hn : 0 ≤ n ∧ n ≤ 562949953421311 := by assumption
  have h7 := vb_len7 n.toNat (by omega)
  refine WpA.loop (fun x : List Int × Nat => ⟨[(0, I x.2), (3, .own 0 0 0 x.1.length)], [⟨u8s x.1, 0, 1, some 5⟩]⟩) (fun x => x.1 ++ vb x.2 = vb n.toNat ∧ x.2 ≤ 562949953421311) (fun x => x.2) ([], n.toNat) (by simp; omega) (go (r := trivial)) (fun x hx => ?_)
  obtain ⟨acc, k⟩ := x
  obtain ⟨hx1, hx2⟩ := hx
  simp only at hx1 hx2 ⊢
  have hla : acc.length ≤ 7 := by have := congrArg List.length hx1; simp at this; omega
  refine go (r := ?_); and_intros <;> intros <;> try exact True.intro
  · have hk : 128 ≤ k := by omega
    refine Rnd.go (acc ++ [128 + (k : Int) % 128], k / 128) ⟨by simp only; rw [← hx1, vb_step k hk]; simp, by simp only; omega⟩ (by simp only; omega) (go (r := ?_))
    and_intros <;> try exact True.intro
    rw [u8_wrap _ (by omega)]
  · have e := vb_end k (by omega)
    rw [vars, if_pos hn, ← hx1, e, u8_wrap _ (by omega), bytes]⟩

instance Var_c : Con 38 (∀ n : Int, Fn 38 [I n] [] (Z (vars n))) := ⟨fun n => by
  refine FnC.of_body tabOk Try.func38 Try.ntmps38 rfl (by decide +kernel) (by simp) fun G => ?_
  refine go (r := ?_); and_intros <;> intros <;> try exact True.intro
  · rw [vars, if_neg (by assumption)]
  have hn : 0 ≤ n ∧ n ≤ 562949953421311 := by assumption
  have h7 := vb_len7 n.toNat (by omega)
  refine WpA.loop (fun x : List Int × Nat => ⟨[(0, I x.2), (3, .own 0 0 0 x.1.length)], [⟨u8s x.1, 0, 1, some 5⟩]⟩) (fun x => x.1 ++ vb x.2 = vb n.toNat ∧ x.2 ≤ 562949953421311) (fun x => x.2) ([], n.toNat) (by simp; omega) (go (r := trivial)) (fun x hx => ?_)
  obtain ⟨acc, k⟩ := x
  obtain ⟨hx1, hx2⟩ := hx
  simp only at hx1 hx2 ⊢
  have hla : acc.length ≤ 7 := by have := congrArg List.length hx1; simp at this; omega
  refine go (r := ?_); and_intros <;> intros <;> try exact True.intro
  · have hk : 128 ≤ k := by omega
    refine Rnd.go (acc ++ [128 + (k : Int) % 128], k / 128) ⟨by simp only; rw [← hx1, vb_step k hk]; simp, by simp only; omega⟩ (by simp only; omega) (go (r := ?_))
    and_intros <;> try exact True.intro
    rw [low7 k hx2, hi1, u8_wrap _ (by omega)]
  · have e := vb_end k (by omega)
    rw [vars, if_pos hn, ← hx1, e, u8_wrap _ (by omega), bytes]⟩
end Go.Proofs.Ytlioigidpeofnaa
