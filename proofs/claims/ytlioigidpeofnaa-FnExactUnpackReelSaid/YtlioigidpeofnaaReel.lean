/- Contracts of the functions of reels and of the law FnExactUnpackReel. No condition. -/
import Derived.Test.YtlioigidpeofnaaVar
namespace Go.Proofs.Ytlioigidpeofnaa
open Go Go.Abs
set_option linter.unusedVariables false
set_option linter.unusedSimpArgs false
set_option maxRecDepth 100000
set_option maxHeartbeats 2000000
attribute [local irreducible] WpA WpL Rnd Blk Abs.Seq Abs.Fin Abs.FinG FnC FnG Only

def num : List UInt8 → Int
  | [] => 0
  | b :: l => num l * 128 + (b.toNat : Int) % 128
theorem num_bd : ∀ l : List UInt8, 0 ≤ num l ∧ num l < 128 ^ l.length
  | [] => by simp [num]
  | b :: l => by
    have := num_bd l
    rw [num, List.length_cons, Int.pow_succ]
    omega
theorem num_snoc : ∀ (l : List UInt8) (b : UInt8), num (l ++ [b]) = num l + ((b.toNat : Int) % 128) * 128 ^ l.length
  | [], b => by simp [num]
  | a :: l, b => by
    rw [List.cons_append, num, num_snoc l b, num, List.length_cons, Int.pow_succ]
    rw [Int.add_mul, Int.mul_assoc]; omega

theorem vb_at (n : Nat) : ∀ j, j < (vb n).length → (j + 1 < (vb n).length → 128 ≤ (vb n).getD j 0 ∧ (vb n).getD j 0 < 256) ∧ (j + 1 = (vb n).length → 0 ≤ (vb n).getD j 0 ∧ (vb n).getD j 0 < 128) := by
  induction n using Nat.strongRecOn with
  | _ n ih =>
    intro j hj
    by_cases h : n < 128
    · rw [vb_end n h] at hj ⊢
      have : j = 0 := by simpa using hj
      subst this
      simp; omega
    · rw [vb_step n (by omega)] at hj ⊢
      have hpos : 0 < (vb (n / 128)).length := by unfold vb; split <;> simp
      cases j with
      | zero => simp only [List.length_cons, List.getD_cons_zero]; omega
      | succ j =>
        have := ih (n / 128) (by omega) j (by simpa using hj)
        simp only [List.length_cons, List.getD_cons_succ] at hj ⊢
        omega
theorem bytes_getD (l : List Int) (j : Nat) (h : j < l.length) (hb : 0 ≤ l.getD j 0 ∧ l.getD j 0 < 256) : ((bytes l).getD j 0).toNat = (l.getD j 0).toNat := by
  have e : (bytes l).getD j 0 = UInt8.ofNat (l.getD j 0).toNat := by simp [bytes, h]
  rw [e, UInt8.toNat_ofNat']; omega
theorem vars_at {m : Int} {l : List UInt8} (hv : vars m = l) (hl : l ≠ []) : ∀ j, j < l.length → (j + 1 < l.length → 128 ≤ (l.getD j 0).toNat) ∧ (j + 1 = l.length → (l.getD j 0).toNat < 128) := by
  intro j hj
  unfold vars at hv
  split at hv
  · have hlen : l.length = (vb m.toNat).length := by rw [← hv]; simp [bytes]
    have h1 := vb_at m.toNat j (by omega)
    rw [← hv]
    constructor
    · intro h
      have h2 := h1.1 (by rw [hv] at h; omega)
      rw [bytes_getD _ _ (by omega) (by omega)]; omega
    · intro h
      have h2 := h1.2 (by rw [hv] at h; omega)
      rw [bytes_getD _ _ (by omega) (by omega)]; omega
  · exact (hl hv.symm).elim

def fst7 (s : List UInt8) : Option Nat := (List.range (min 7 s.length)).find? fun i => decide ((s.getD i 0).toNat < 128)
theorem fst7_some {s : List UInt8} {i : Nat} (h1 : i < 7) (h2 : i < s.length) (h3 : (s.getD i 0).toNat < 128) (h4 : ∀ j, j < i → 128 ≤ (s.getD j 0).toNat) : fst7 s = some i := by
  unfold fst7
  rw [List.find?_range_eq_some]
  refine ⟨by simpa using h3, by simp; omega, fun j hj => ?_⟩
  have := h4 j hj
  simp; simpa using this
theorem fst7_none {s : List UInt8} (h : ∀ j, j < 7 → j < s.length → 128 ≤ (s.getD j 0).toNat) : fst7 s = none := by
  unfold fst7
  rw [List.find?_range_eq_none]
  intro j hj
  have := h j (by omega) (by omega)
  simp; simpa using this
theorem fst7_inv {s : List UInt8} {i : Nat} (h : fst7 s = some i) : i < 7 ∧ i < s.length := by
  unfold fst7 at h
  rw [List.find?_range_eq_some] at h
  have := h.2.1
  simp at this; omega
def rvOk (s : List UInt8) (k : Nat) : Prop := vars (num (s.take k)) = s.take k
instance (s : List UInt8) (k : Nat) : Decidable (rvOk s k) := by unfold rvOk; infer_instance
def rv (s : List UInt8) : Int × Int := match fst7 s with
  | some i => if rvOk s (i + 1) then (num (s.take (i + 1)), (i : Int) + 1) else (0, 0)
  | none => (0, 0)
theorem rv_bd (s : List UInt8) : 0 ≤ (rv s).1 ∧ (rv s).1 ≤ 562949953421311 ∧ 0 ≤ (rv s).2 ∧ (rv s).2 ≤ 7 ∧ (rv s).2 ≤ s.length := by
  unfold rv
  split
  · rename_i i hi
    have h1 := fst7_inv hi
    have h2 := num_bd (s.take (i + 1))
    have h3 : (s.take (i + 1)).length = i + 1 := by simp; omega
    rw [h3] at h2
    have h4 : (128 : Int) ^ (i + 1) ≤ 128 ^ 7 := by
      have := Nat.pow_le_pow_right (n := 128) (by decide) (show i + 1 ≤ 7 from by omega)
      exact_mod_cast this
    split
    · refine ⟨h2.1, ?_, ?_, ?_, ?_⟩ <;> simp only <;> omega
    · simp
  · simp
theorem rvOk_fst {s : List UInt8} {k : Nat} (h : rvOk s (k + 1)) (hk : k < s.length) (h7 : k < 7) : fst7 s = some k := by
  unfold rvOk at h
  have hl : (s.take (k + 1)).length = k + 1 := by simp; omega
  have h1 := vars_at h (by intro e; rw [e] at hl; simp at hl)
  have hg : ∀ j, j < k + 1 → (s.take (k + 1)).getD j 0 = s.getD j 0 := fun j hj => by simp [List.getElem?_take, hj]
  refine fst7_some h7 hk ?_ fun j hj => ?_
  · have := (h1 k (by omega)).2 (by omega); rwa [hg k (by omega)] at this
  · have := (h1 j (by omega)).1 (by omega); rwa [hg j (by omega)] at this

theorem and127 (x : Nat) (h : x < 256) : IntKind.u8.wrap ((BitVec.ofInt IntKind.u8.bits (x : Int) &&& BitVec.ofInt IntKind.u8.bits 127).toNat : Nat) = (x : Int) % 128 := by
  have e1 : (BitVec.ofInt IntKind.u8.bits (x : Int)).toNat = x := by simp only [IntKind.bits, BitVec.toNat_ofInt]; omega
  have e : (BitVec.ofInt IntKind.u8.bits (x : Int) &&& BitVec.ofInt IntKind.u8.bits 127).toNat = x % 128 := by
    rw [BitVec.toNat_and, e1, show (BitVec.ofInt IntKind.u8.bits (127 : Int)).toNat = 2 ^ 7 - 1 from by decide, Nat.and_two_pow_sub_one_eq_mod]
  rw [e, u8_wrap _ (by omega)]; omega
theorem or_shift (a y k : Nat) (ha : a < 2 ^ k) (h : a + y * 2 ^ k < 9223372036854775808) : IntKind.i64.wrap ((BitVec.ofInt IntKind.i64.bits (a : Int) ||| BitVec.ofInt IntKind.i64.bits ((y * 2 ^ k : Nat) : Int)).toNat : Nat) = a + (y : Int) * 2 ^ k := by
  rw [BitVec.toNat_or, ofInt_nat _ (by omega), ofInt_nat _ (by omega), Nat.or_comm, Nat.mul_comm, ← Nat.two_pow_add_eq_or_of_lt ha, wrap_in _ (by rw [Nat.mul_comm] at h; omega)]
  rw [Int.natCast_add, Int.natCast_mul, Int.natCast_pow, Int.mul_comm]
  simp only [Int.cast_ofNat_Int]
  omega
theorem step7 (s : List UInt8) (i : Nat) (h7 : i < 7) (hi : i < s.length) : IntKind.i64.wrap (BitVec.ofInt IntKind.i64.bits (num (s.take i)) ||| BitVec.ofInt IntKind.i64.bits (IntKind.i64.wrap (IntKind.i64.wrap (IntKind.u8.wrap ((BitVec.ofInt IntKind.u8.bits ((s.getD i 0).toNat : Int) &&& BitVec.ofInt IntKind.u8.bits 127).toNat : Nat)) * 2 ^ (7 * (i : Int)).toNat))).toNat = num (s.take (i + 1)) := by
  have hb := num_bd (s.take i)
  have hl : (s.take i).length = i := by simp; omega
  rw [hl] at hb
  have hx := (s.getD i 0).toNat_lt
  have hp : (128 : Int) ^ i = 2 ^ (7 * i) := by rw [Int.pow_mul]; rfl
  have hle : (2 : Nat) ^ (7 * i) ≤ 2 ^ 42 := Nat.pow_le_pow_right (by decide) (by omega)
  have hm : ((s.getD i 0).toNat % 128) * 2 ^ (7 * i) ≤ 127 * 2 ^ 42 := Nat.mul_le_mul (by omega) hle
  rw [and127 _ hx, show (7 * (i : Int)).toNat = 7 * i from by omega, wrap_in (((s.getD i 0).toNat : Int) % 128) (by omega)]
  have e1 : (((s.getD i 0).toNat : Int) % 128) * 2 ^ (7 * i) = ((((s.getD i 0).toNat % 128) * 2 ^ (7 * i) : Nat) : Int) := by rw [Int.natCast_mul, Int.natCast_pow]; rfl
  have e2 : num (s.take i) = ((num (s.take i)).toNat : Int) := by omega
  have hn : (num (s.take i)).toNat < 2 ^ (7 * i) := by
    rw [hp] at hb
    have : ((2 : Int) ^ (7 * i)) = ((2 ^ (7 * i) : Nat) : Int) := by rw [Int.natCast_pow]; rfl
    omega
  rw [e1, wrap_in (((((s.getD i 0).toNat % 128) * 2 ^ (7 * i) : Nat) : Int)) (by omega), e2, or_shift _ _ _ hn (by omega)]
  rw [List.take_succ_eq_append_getElem hi, num_snoc, hl, hp, ← e2]
  have : s.getD i 0 = s[i] := by simp [hi]
  rw [this]; rfl

instance ReadVar_c : Con 43 (∀ s : List UInt8, s.length ≤ 1048576 → Fn 43 [Z s] [] (.tup [I (rv s).1, I (rv s).2])) := ⟨fun s hl => by
  refine FnC.of_body tabOk Try.func43 Try.ntmps43 rfl (by decide +kernel) (by simp) fun G => ?_
  refine go (r := ?_); and_intros <;> intros <;> try exact True.intro
  refine WpA.loop (fun i : Nat => ⟨[(0, Z s), (4, I (num (s.take i))), (5, I i)], []⟩) (fun i => i ≤ 7 ∧ i ≤ s.length ∧ ∀ j, j < i → 128 ≤ (s.getD j 0).toNat) (fun i => 7 - i) 0 (by simp) (go (r := trivial)) (fun i hi => ?_)
  have e : i < s.length → i < 7 → _ := fun h1 h2 => step7 s i h2 h1
  have hrv : i < s.length → i < 7 → (s.getD i 0).toNat < 128 → rv s = if rvOk s (i + 1) then (num (s.take (i + 1)), (i : Int) + 1) else (0, 0) := fun h1 h2 h3 => by
    unfold rv; rw [fst7_some h2 h1 h3 hi.2.2]
  have hno : (¬ (i : Int) < s.length ∨ ¬ (i : Int) < 7) → rv s = (0, 0) := fun h => by
    unfold rv; rw [fst7_none fun j h1 h2 => hi.2.2 j (by omega)]
  refine go (r := ?_); and_intros <;> intros <;> try exact True.intro
  · rename_i h4
    rw [e (by omega) (by omega)] at h4
    rw [hrv (by omega) (by omega) (by omega), if_neg (show ¬ rvOk s (i + 1) from h4)]
  · rename_i h4
    rw [e (by omega) (by omega)] at h4
    rw [hrv (by omega) (by omega) (by omega), if_neg (show ¬ rvOk s (i + 1) from h4)]
  · rename_i h4
    rw [e (by omega) (by omega)] at h4
    rw [e (by omega) (by omega), hrv (by omega) (by omega) (by omega), if_pos (show rvOk s (i + 1) from h4)]
  · rename_i h4
    rw [e (by omega) (by omega)] at h4
    rw [hrv (by omega) (by omega) (by omega), if_pos (show rvOk s (i + 1) from h4)]
  · rename_i j hj
    by_cases hji : j = i
    · subst hji; omega
    · exact hi.2.2 j (by omega)
  all_goals first | exact e (by omega) (by omega) | rw [hno (by omega)]⟩

theorem num_drop {l : List UInt8} {i : Nat} (h : i < l.length) : num (l.drop i) = num (l.drop (i + 1)) * 128 + ((l.getD i 0).toNat : Int) % 128 := by
  rw [List.drop_eq_getElem_cons h, num]; simp [h]
instance ReadVar_s : Con 42 (∀ s : List UInt8, s.length ≤ 1048576 → Fn 42 [Z s] [] (.tup [I (rv s).1, I (rv s).2])) := ⟨fun s hl => by
  refine FnC.of_body tabOk Try.func42 Try.ntmps42 rfl (by decide +kernel) (by simp) fun G => ?_
  refine go (r := ?_); and_intros <;> intros <;> try exact True.intro
  refine WpA.loop (fun k : Nat => ⟨[(0, Z s), (4, I k)], []⟩) (fun k => 1 ≤ k ∧ k ≤ 8 ∧ k ≤ s.length + 1 ∧ ∀ j, 1 ≤ j → j < k → ¬ rvOk s j) (fun k => 8 - k) 1 (by simp; omega) (go (r := trivial)) (fun k hk => ?_)
  have hno : (¬ (k : Int) ≤ 7 ∨ ¬ (k : Int) ≤ s.length) → rv s = (0, 0) := fun h => by
    unfold rv
    split
    · rename_i i hi
      have := fst7_inv hi
      rw [if_neg (hk.2.2.2 (i + 1) (by omega) (by omega))]
    · rfl
  refine go (r := ?_); and_intros <;> intros <;> try exact True.intro
  · refine WpA.loop (fun q : Nat => ⟨[(0, Z s), (4, I k), (5, I (num ((s.take k).drop (k - q)))), (6, I ((k : Int) - 1 - q))], []⟩) (fun q => q ≤ k) (fun q => k - q) 0 (by omega) (go (r := ?_)) (fun q hq => ?_)
    · have : (s.take k).drop k = [] := List.drop_eq_nil_of_le (by simp; omega)
      simp [this, num]
    have hb := num_bd ((s.take k).drop (k - q))
    have hlq : ((s.take k).drop (k - q)).length = q := by simp; omega
    have hle : (128 : Int) ^ q ≤ 128 ^ 7 := by
      have := Nat.pow_le_pow_right (n := 128) (by decide) (show q ≤ 7 from by omega)
      exact_mod_cast this
    rw [hlq] at hb
    refine go (r := ?_); and_intros <;> intros <;> try exact True.intro
    · have h1 : k - q = (k - (q + 1)) + 1 := by omega
      have h2 : ((k : Int) - 1 - q).toNat = k - (q + 1) := by omega
      rw [num_drop (l := s.take k) (i := k - (q + 1)) (by simp; omega), h1, h2]
      simp [List.getElem?_take, show k - (q + 1) < k from by omega]
    all_goals have hqk : q = k := by omega
    all_goals subst hqk
    all_goals simp only [Nat.sub_self, List.drop_zero] at *
    · rename_i h
      obtain ⟨i, rfl⟩ : ∃ i, q = i + 1 := ⟨q - 1, by omega⟩
      unfold rv; rw [rvOk_fst h (by omega) (by omega)]; simp only []; rw [if_pos (show rvOk s (i + 1) from h)]
    · rename_i h
      obtain ⟨i, rfl⟩ : ∃ i, q = i + 1 := ⟨q - 1, by omega⟩
      unfold rv; rw [rvOk_fst h (by omega) (by omega)]; simp only []; rw [if_pos (show rvOk s (i + 1) from h)]; simp
    · rename_i j hj1 hjr h7 hsl hneg hjq hne
      by_cases h : j = q
      · subst h; exact hne hjr
      · exact hk.2.2.2 j hj1 (by omega) hjr
  all_goals rw [hno (by omega)]⟩

/-- What a reel holds, if there is room for so many. -/
def unp : Nat → List UInt8 → Option (List (List UInt8))
  | _, [] => some []
  | 0, _ :: _ => none
  | r + 1, b :: s => if (rv (b :: s)).2 = 0 ∨ (rv (b :: s)).1 > (b :: s).length - (rv (b :: s)).2 then none
    else (unp r ((b :: s).drop ((rv (b :: s)).2 + (rv (b :: s)).1).toNat)).map ((((b :: s).drop (rv (b :: s)).2.toNat).take (rv (b :: s)).1.toNat) :: ·)
theorem unp_nil (r : Nat) : unp r [] = some [] := by cases r <;> rfl
theorem unp_zero {s : List UInt8} (h : s ≠ []) : unp 0 s = none := by
  cases s with
  | nil => exact (h rfl).elim
  | cons b s => rfl
theorem unp_bad {r : Nat} {s : List UInt8} (h : s ≠ []) (h2 : (rv s).2 = 0 ∨ (rv s).1 > s.length - (rv s).2) : unp (r + 1) s = none := by
  cases s with
  | nil => exact (h rfl).elim
  | cons b s => rw [unp, if_pos h2]
theorem unp_step {r : Nat} {s : List UInt8} (h : s ≠ []) (h2 : ¬ ((rv s).2 = 0 ∨ (rv s).1 > s.length - (rv s).2)) :
    unp (r + 1) s = (unp r (s.drop ((rv s).2 + (rv s).1).toNat)).map (((s.drop (rv s).2.toNat).take (rv s).1.toNat) :: ·) := by
  cases s with
  | nil => exact (h rfl).elim
  | cons b s => rw [unp, if_neg h2]
def unL (s : List UInt8) : List (List UInt8) := (unp 8 s).getD []
def unOk (s : List UInt8) : Bool := (unp 8 s).isSome

abbrev SO (l : List (List UInt8)) : AObj := ⟨strs l, 0, 1, some 9⟩
theorem unp_fail {s t : List UInt8} {l : List (List UInt8)} (hx1 : l.length ≤ 8) (hx3 : unp 8 s = (unp (8 - l.length) t).map (l ++ ·)) (h1 : ¬ t = []) (h2 : (rv t).2 = 0 ∨ (rv t).1 > t.length - (rv t).2 ∨ (l.length : Int) = 8) : unL s = [] ∧ unOk s = false := by
  have : unp (8 - l.length) t = none := by
    by_cases h8 : l.length = 8
    · rw [h8]; exact unp_zero h1
    · obtain ⟨r, hr⟩ : ∃ r, 8 - l.length = r + 1 := ⟨7 - l.length, by omega⟩
      rw [hr]; exact unp_bad h1 (by omega)
  rw [this] at hx3
  simp [unL, unOk, hx3]
theorem unp_done {s t : List UInt8} {l : List (List UInt8)} (hx3 : unp 8 s = (unp (8 - l.length) t).map (l ++ ·)) (h : t = []) : unL s = l ∧ unOk s = true := by
  subst h; rw [unp_nil] at hx3; simp [unL, unOk, hx3]
theorem unp_next {s t : List UInt8} {l : List (List UInt8)} (hx1 : l.length < 8) (hx3 : unp 8 s = (unp (8 - l.length) t).map (l ++ ·)) (h1 : ¬ t = []) (h2 : ¬ ((rv t).2 = 0 ∨ (rv t).1 > t.length - (rv t).2)) :
    unp 8 s = (unp (8 - (l ++ [((t.drop (rv t).2.toNat).take (rv t).1.toNat)]).length) (t.drop ((rv t).2 + (rv t).1).toNat)).map ((l ++ [((t.drop (rv t).2.toNat).take (rv t).1.toNat)]) ++ ·) := by
  obtain ⟨r, hr⟩ : ∃ r, 8 - l.length = r + 1 := ⟨7 - l.length, by omega⟩
  rw [hx3, hr, unp_step h1 h2, show 8 - (l ++ [((t.drop (rv t).2.toNat).take (rv t).1.toNat)]).length = r from by simp; omega]
  cases unp r (t.drop ((rv t).2 + (rv t).1).toNat) <;> simp
instance UnpackReel_c : Con 28 (∀ s : List UInt8, s.length ≤ 1048576 → Fn 28 [Z s] [SO (unL s)] (.tup [.own 0 0 0 (unL s).length, B (unOk s)])) := ⟨fun s hl => by
  refine FnC.of_body tabOk Try.func28 Try.ntmps28 rfl (by decide +kernel) (by simp) fun G => ?_
  refine go (r := ?_); and_intros <;> intros <;> try exact True.intro
  refine WpA.loop (fun x : List (List UInt8) × List UInt8 => ⟨[(0, Z x.2), (4, .own 0 0 0 x.1.length)], [SO x.1]⟩) (fun x => x.1.length ≤ 8 ∧ x.2.length ≤ s.length ∧ unp 8 s = (unp (8 - x.1.length) x.2).map (x.1 ++ ·)) (fun x => x.2.length) ([], s) (by simp) (go (r := trivial)) (fun x hx => ?_)
  obtain ⟨l, t⟩ := x
  obtain ⟨hx1, hx2, hx3⟩ := hx
  simp only at hx1 hx2 hx3 ⊢
  have hb := rv_bd t
  refine go (r := ?_); and_intros <;> intros <;> try exact True.intro
  all_goals first | (have := unp_fail hx1 hx3 ‹_› (by omega); simp [this]; done) | (have := unp_done hx3 ‹_›; simp [this]; done) | skip
  have hne : ¬ t = [] := ‹_›
  refine Rnd.go (l ++ [((t.drop (rv t).2.toNat).take (rv t).1.toNat)], t.drop ((rv t).2 + (rv t).1).toNat) ⟨by simp; omega, by simp; omega, unp_next (by omega) hx3 hne (by omega)⟩ (by have := List.length_pos_iff.2 hne; simp; omega) (go (r := ?_))
  and_intros <;> try exact True.intro
  rw [List.take_of_length_le (by simp)]⟩

instance UnpackReel_s : Con 27 (∀ s : List UInt8, s.length ≤ 1048576 → Fn 27 [Z s] [SO (unL s)] (.tup [.own 0 0 0 (unL s).length, B (unOk s)])) := ⟨fun s hl => by
  refine FnC.of_body tabOk Try.func27 Try.ntmps27 rfl (by decide +kernel) (by simp) fun G => ?_
  refine go (r := ?_); and_intros <;> intros <;> try exact True.intro
  refine WpA.loop (fun x : List (List UInt8) × Nat => ⟨[(0, Z s), (4, .own 0 0 0 x.1.length), (5, I x.2)], [SO x.1]⟩) (fun x => x.1.length ≤ 8 ∧ x.2 ≤ s.length ∧ unp 8 s = (unp (8 - x.1.length) (s.drop x.2)).map (x.1 ++ ·)) (fun x => s.length - x.2) ([], 0) (by simp) (go (r := trivial)) (fun x hx => ?_)
  obtain ⟨l, a⟩ := x
  obtain ⟨hx1, hx2, hx3⟩ := hx
  simp only at hx1 hx2 hx3 ⊢
  have hb := rv_bd (s.drop a)
  have hlen : (s.drop a).length = s.length - a := by simp
  have hne : a < s.length → ¬ s.drop a = [] := fun h e => by have := congrArg List.length e; simp at this; omega
  refine go (r := ?_); and_intros <;> intros <;> try exact True.intro
  all_goals first | (have := unp_fail hx1 hx3 (hne (by omega)) (by omega); simp [this]; done) | (have := unp_done hx3 (List.drop_eq_nil_of_le (by omega)); simp [this]; done) | skip
  have hn := unp_next (by omega) hx3 (hne (by omega)) (by omega)
  simp only [List.drop_drop] at hn
  refine Rnd.go (l ++ [((s.drop (a + (rv (s.drop a)).2.toNat)).take (rv (s.drop a)).1.toNat)], a + ((rv (s.drop a)).2 + (rv (s.drop a)).1).toNat) ⟨by simp; omega, by simp; omega, hn⟩ (by simp; omega) (go (r := ?_))
  and_intros <;> try exact True.intro
  have e1 : ((a : Int) + (rv (s.drop a)).2).toNat = a + (rv (s.drop a)).2.toNat := by omega
  have e2 : ((a : Int) + (rv (s.drop a)).2 + (rv (s.drop a)).1).toNat - (a + (rv (s.drop a)).2.toNat) = (rv (s.drop a)).1.toNat := by omega
  rw [e1, e2]⟩
end Go.Proofs.Ytlioigidpeofnaa
