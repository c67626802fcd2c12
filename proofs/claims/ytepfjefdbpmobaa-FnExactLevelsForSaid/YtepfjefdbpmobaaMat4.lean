/- Contracts: the laws' own products, the transforms straight on. No condition. -/
import Derived.Test.YtepfjefdbpmobaaMat3
namespace Go.Proofs.Ytepfjefdbpmobaa
open Go Go.Abs
set_option linter.unusedVariables false
set_option linter.unusedSimpArgs false
set_option maxRecDepth 100000
set_option maxHeartbeats 4000000
attribute [local irreducible] WpA WpL Rnd Blk Abs.Seq Abs.Fin Abs.FinG FnC FnG Only

def pm (n : Nat) (back : Bool) (r i q : Nat) : Bool := if back then decide (q % n < r ∨ (q % n = r ∧ q / n < i)) else decide (q / n < r ∨ (q / n = r ∧ q % n < i))
abbrev fm (n : Nat) (back : Bool) (q : Nat) : Int := mg n back (q / n) (q % n)
theorem pmset_4 (back : Bool) (r i : Nat) (hr : r < 4) (hi : i < 4) : (msk (pm 4 back r i) (fm 4 back) 16).set (if back then i * 4 + r else r * 4 + i) (mx 4 r i) = msk (pm 4 back r (i + 1)) (fm 4 back) 16 := by
  cases back with
  | true =>
    refine msk_set (by show i * 4 + r < 16; omega) ?_ fun q hq => ?_
    · show mx 4 r i = mx 4 ((i * 4 + r) % 4) ((i * 4 + r) / 4); rw [(divmod hr).1, (divmod hr).2]
    · simp only [pm, if_true, decide_eq_true_eq]; omega
  | false =>
    refine msk_set (by show r * 4 + i < 16; omega) ?_ fun q hq => ?_
    · show mx 4 r i = mx 4 ((r * 4 + i) / 4) ((r * 4 + i) % 4); rw [(divmod hi).1, (divmod hi).2]
    · simp only [pm, Bool.false_eq_true, if_false, decide_eq_true_eq]; omega
theorem pmnext_4 (back : Bool) (r : Nat) : msk (pm 4 back r 4) (fm 4 back) 16 = msk (pm 4 back (r + 1) 0) (fm 4 back) 16 := by
  refine msk_same fun q hq => ?_
  cases back <;> simp only [pm, if_true, Bool.false_eq_true, if_false, decide_eq_true_eq] <;> omega
theorem pmzero_4 (back : Bool) : msk (pm 4 back 0 0) (fm 4 back) 16 = List.replicate 16 0 := by
  refine msk_none fun q hq => ?_
  cases back <;> simp [pm]
theorem pmall_4 (back : Bool) : msk (pm 4 back 4 0) (fm 4 back) 16 = tabL (fm 4 back) 16 := by
  refine msk_all fun q hq => ?_
  cases back <;> simp only [pm, if_true, Bool.false_eq_true, if_false, decide_eq_true_eq] <;> omega
theorem fmget_4 (back : Bool) (r i : Nat) (hr : r < 4) (hi : i < 4) : (tabL (fm 4 back) 16).getD (r * 4 + i) 0 = mg 4 back r i := by
  rw [tabL_get (by omega)]; show mg 4 back ((r * 4 + i) / 4) ((r * 4 + i) % 4) = _; rw [(divmod hi).1, (divmod hi).2]
theorem l12Mul_4 (back : Bool) (l : List Int) (h : l.length = 16 ∧ In l (-1000000000) 1000000000) : Fn 159 [IL l, I 4, B back] [XI (mulM 4 (mg 4 back) l)] (.own 0 0 0 16) := by
  obtain ⟨h1, h2⟩ := h
  have hg : Sgn (mg 4 back) := fun r i => mg_val 4 back r i
  have e : mulM 4 (mg 4 back) l = tabL (fo 4 (mg 4 back) l) 16 := rfl
  refine FnC.of_body tabOk Try.func159 Try.ntmps159 rfl (by decide +kernel) (by simp) fun G => ?_
  refine go (r := ?_); and_intros <;> intros <;> try exact True.intro
  refine WpA.loop (fun r : Nat => ⟨[(0, IL l), (1, I 4), (2, B back), (7, .own 0 0 0 16), (8, I r)], [XI (msk (pm 4 back r 0) (fm 4 back) 16)]⟩) (fun r => r ≤ 4) (fun r => 4 - r) 0 (by omega) (go (r := ?_)) (fun r hr => ?_)
  · rw [pmzero_4]; and_intros <;> first | trivial | rfl
  have hpl1 := msk_len (pm 4 back r 0) (fm 4 back) 16
  have hrl := tabL_len (mx 4 r) 4
  refine go (r := ?_); and_intros <;> intros <;> try exact True.intro
  · refine WpA.loop (fun i : Nat => ⟨[(0, IL l), (1, I 4), (2, B back), (7, .own 0 0 0 16), (8, I r), (9, .own 1 0 0 4), (10, I i)], [XI (msk (pm 4 back r i) (fm 4 back) 16), IN (tabL (mx 4 r) 4)]⟩) (fun i => i ≤ 4) (fun i => 4 - i) 0 (by omega) (go (r := ?_)) (fun i hi => ?_)
    · trivial
    have hpl2 := msk_len (pm 4 back r i) (fm 4 back) 16
    have hps := pmset_4 back r i
    have hrg : i < 4 → (tabL (mx 4 r) 4).getD i 0 = mx 4 r i := fun h => tabL_get h
    refine go (r := ?_); and_intros <;> intros <;> try exact True.intro
    · rename_i hb
      subst hb
      rw [Int.toNat_natCast, hrg (by omega), show ((i : Int) * 4 + r).toNat = i * 4 + r by omega]; exact hps (by omega) (by omega)
    · rename_i hb
      subst hb
      rw [Int.toNat_natCast, hrg (by omega), show ((r : Int) * 4 + i).toNat = r * 4 + i by omega]; exact hps (by omega) (by omega)
    · have hi1 : i = 4 := by omega
      subst hi1; exact pmnext_4 back r
  have hr1 : r = 4 := by omega
  subst hr1
  rw [pmall_4]
  have hplh := tabL_len (fm 4 back) 16
  refine WpA.loop (fun r : Nat => ⟨[(0, IL l), (1, I 4), (7, .own 0 0 0 16), (11, .own 1 0 0 16), (12, .own 2 0 0 16), (13, I r)], [XI (tabL (fm 4 back) 16), XI (part (fh 4 (mg 4 back) l) 16 (r * 4) 0), XI (List.replicate 16 0)]⟩) (fun r => r ≤ 4) (fun r => 4 - r) 0 (by omega) (go (r := ?_)) (fun r hr => ?_)
  · simp [part_zero]
  have hpl1 := part_len (fh 4 (mg 4 back) l) 16 (r * 4) 0
  refine go (r := ?_); and_intros <;> intros <;> try exact True.intro
  · refine WpA.loop (fun k : Nat => ⟨[(0, IL l), (1, I 4), (7, .own 0 0 0 16), (11, .own 1 0 0 16), (12, .own 2 0 0 16), (13, I r), (14, I k)], [XI (tabL (fm 4 back) 16), XI (part (fh 4 (mg 4 back) l) 16 (r * 4 + k) 0), XI (List.replicate 16 0)]⟩) (fun k => k ≤ 4) (fun k => 4 - k) 0 (by omega) (go (r := ?_)) (fun k hk => ?_)
    · trivial
    have hpl2 := part_len (fh 4 (mg 4 back) l) 16 (r * 4 + k) 0
    refine go (r := ?_); and_intros <;> intros <;> try exact True.intro
    · refine WpA.loop (fun i : Nat => ⟨[(0, IL l), (1, I 4), (7, .own 0 0 0 16), (11, .own 1 0 0 16), (12, .own 2 0 0 16), (13, I r), (14, I k), (15, I i)], [XI (tabL (fm 4 back) 16), XI (part (fh 4 (mg 4 back) l) 16 (r * 4 + k) (sh 4 (mg 4 back) l r k i)), XI (List.replicate 16 0)]⟩) (fun i => i ≤ 4) (fun i => 4 - i) 0 (by omega) (go (r := ?_)) (fun i hi => ?_)
      · simp [sumF]
      have hpl3 := part_len (fh 4 (mg 4 back) l) 16 (r * 4 + k) (sh 4 (mg 4 back) l r k i)
      have hsb : -((i : Int) * (2 * 1000000000)) ≤ sh 4 (mg 4 back) l r k i ∧ sh 4 (mg 4 back) l r k i ≤ (i : Int) * (2 * 1000000000) := half_bd (n := 4) (g := (mg 4 back)) (l := l) (c := 1000000000) hg h2 (by omega) r k i
      have hdm := divmod (n := 4) (r := r) (k := k)
      have hgl := in_getZ h2 (by decide) (i * 4 + k)
      have hgg := mul2 (hg r i) hgl (by decide)
      have hst : sh 4 (mg 4 back) l r k (i + 1) = sh 4 (mg 4 back) l r k i + (mg 4 back) r i * l.getD (i * 4 + k) 0 := rfl
      refine go (r := ?_); and_intros <;> intros <;> try exact True.intro
      · rename_i hi1
        have e1 : ((r : Int) * 4 + k).toNat = r * 4 + k := by omega
        have e2 : ((i : Int) * 4 + k).toNat = i * 4 + k := by omega
        have e4 : ((r : Int) * 4 + i).toNat = r * 4 + i := by omega
        rw [e1, e2, e4, fmget_4 back r i (by omega) (by omega), part_get (by omega), part_set (by omega), wrap64 ((mg 4 back) r i * l.getD (i * 4 + k) 0) (by omega), wrap64 _ (by omega), hst]
      · have hi1 : i = 4 := by omega
        subst hi1
        rw [← Nat.add_assoc]; exact part_next (by show sh 4 (mg 4 back) l r k 4 = halfM 4 (mg 4 back) l ((r * 4 + k) / 4) ((r * 4 + k) % 4); rw [(hdm (by omega)).1, (hdm (by omega)).2]; rfl)
    · have hk1 : k = 4 := by omega
      rw [hk1, Nat.succ_mul]
  have hr1 : r = 4 := by omega
  subst hr1
  have ep : part (fh 4 (mg 4 back) l) 16 (4 * 4) 0 = tabL (fh 4 (mg 4 back) l) 16 := part_all _ _ _
  rw [ep]
  have hplh2 := tabL_len (fh 4 (mg 4 back) l) 16
  refine WpA.loop (fun r : Nat => ⟨[(1, I 4), (7, .own 0 0 0 16), (11, .own 1 0 0 16), (12, .own 2 0 0 16), (16, I r)], [XI (tabL (fm 4 back) 16), XI (tabL (fh 4 (mg 4 back) l) 16), XI (part (fo 4 (mg 4 back) l) 16 (r * 4) 0)]⟩) (fun r => r ≤ 4) (fun r => 4 - r) 0 (by omega) (go (r := ?_)) (fun r hr => ?_)
  · simp [part_zero]
  have hpl1 := part_len (fo 4 (mg 4 back) l) 16 (r * 4) 0
  refine go (r := ?_); and_intros <;> intros <;> try exact True.intro
  · refine WpA.loop (fun k : Nat => ⟨[(1, I 4), (7, .own 0 0 0 16), (11, .own 1 0 0 16), (12, .own 2 0 0 16), (16, I r), (17, I k)], [XI (tabL (fm 4 back) 16), XI (tabL (fh 4 (mg 4 back) l) 16), XI (part (fo 4 (mg 4 back) l) 16 (r * 4 + k) 0)]⟩) (fun k => k ≤ 4) (fun k => 4 - k) 0 (by omega) (go (r := ?_)) (fun k hk => ?_)
    · trivial
    have hpl2 := part_len (fo 4 (mg 4 back) l) 16 (r * 4 + k) 0
    refine go (r := ?_); and_intros <;> intros <;> try exact True.intro
    · refine WpA.loop (fun i : Nat => ⟨[(1, I 4), (7, .own 0 0 0 16), (11, .own 1 0 0 16), (12, .own 2 0 0 16), (16, I r), (17, I k), (18, I i)], [XI (tabL (fm 4 back) 16), XI (tabL (fh 4 (mg 4 back) l) 16), XI (part (fo 4 (mg 4 back) l) 16 (r * 4 + k) (so 4 (mg 4 back) l r k i))]⟩) (fun i => i ≤ 4) (fun i => 4 - i) 0 (by omega) (go (r := ?_)) (fun i hi => ?_)
      · simp [sumF]
      have hpl3 := part_len (fo 4 (mg 4 back) l) 16 (r * 4 + k) (so 4 (mg 4 back) l r k i)
      have hsb := so_bd (n := 4) hg h2 (by omega) r k i
      have hdm := divmod (n := 4) (r := r) (k := k)
      have hdi := divmod (n := 4) (r := r) (k := i)
      have hgl := half_in (n := 4) hg h2 (by omega) r i
      have hgg := mul_huge hgl (hg k i)
      have hst : so 4 (mg 4 back) l r k (i + 1) = so 4 (mg 4 back) l r k i + halfM 4 (mg 4 back) l r i * (mg 4 back) k i := rfl
      refine go (r := ?_); and_intros <;> intros <;> try exact True.intro
      · rename_i hi1
        have e1 : ((r : Int) * 4 + k).toNat = r * 4 + k := by omega
        have e2 : ((r : Int) * 4 + i).toNat = r * 4 + i := by omega
        have e3 : ((k : Int) * 4 + i).toNat = k * 4 + i := by omega
        have e4 : (tabL (fh 4 (mg 4 back) l) 16).getD (r * 4 + i) 0 = halfM 4 (mg 4 back) l r i := by rw [tabL_get (by omega)]; show halfM 4 (mg 4 back) l ((r * 4 + i) / 4) ((r * 4 + i) % 4) = _; rw [(hdi (by omega)).1, (hdi (by omega)).2]
        rw [e1, e2, e3, e4, fmget_4 back k i (by omega) (by omega), part_get (by omega), part_set (by omega), wrap64 (halfM 4 (mg 4 back) l r i * (mg 4 back) k i) (by omega), wrap64 _ (by omega), hst]
      · have hi1 : i = 4 := by omega
        subst hi1
        rw [← Nat.add_assoc]; exact part_next (by show so 4 (mg 4 back) l r k 4 = fullM 4 (mg 4 back) l ((r * 4 + k) / 4) ((r * 4 + k) % 4); rw [(hdm (by omega)).1, (hdm (by omega)).2]; rfl)
    · have hk1 : k = 4 := by omega
      rw [hk1, Nat.succ_mul]
  all_goals have hr1 : r = 4 := by omega
  all_goals subst hr1
  all_goals first | (rw [e]; exact congrArg _ (part_all _ _ _)) | (rw [e]; exact part_all _ _ _) | trace_state
theorem pmset_8 (back : Bool) (r i : Nat) (hr : r < 8) (hi : i < 8) : (msk (pm 8 back r i) (fm 8 back) 64).set (if back then i * 8 + r else r * 8 + i) (mx 8 r i) = msk (pm 8 back r (i + 1)) (fm 8 back) 64 := by
  cases back with
  | true =>
    refine msk_set (by show i * 8 + r < 64; omega) ?_ fun q hq => ?_
    · show mx 8 r i = mx 8 ((i * 8 + r) % 8) ((i * 8 + r) / 8); rw [(divmod hr).1, (divmod hr).2]
    · simp only [pm, if_true, decide_eq_true_eq]; omega
  | false =>
    refine msk_set (by show r * 8 + i < 64; omega) ?_ fun q hq => ?_
    · show mx 8 r i = mx 8 ((r * 8 + i) / 8) ((r * 8 + i) % 8); rw [(divmod hi).1, (divmod hi).2]
    · simp only [pm, Bool.false_eq_true, if_false, decide_eq_true_eq]; omega
theorem pmnext_8 (back : Bool) (r : Nat) : msk (pm 8 back r 8) (fm 8 back) 64 = msk (pm 8 back (r + 1) 0) (fm 8 back) 64 := by
  refine msk_same fun q hq => ?_
  cases back <;> simp only [pm, if_true, Bool.false_eq_true, if_false, decide_eq_true_eq] <;> omega
theorem pmzero_8 (back : Bool) : msk (pm 8 back 0 0) (fm 8 back) 64 = List.replicate 64 0 := by
  refine msk_none fun q hq => ?_
  cases back <;> simp [pm]
theorem pmall_8 (back : Bool) : msk (pm 8 back 8 0) (fm 8 back) 64 = tabL (fm 8 back) 64 := by
  refine msk_all fun q hq => ?_
  cases back <;> simp only [pm, if_true, Bool.false_eq_true, if_false, decide_eq_true_eq] <;> omega
theorem fmget_8 (back : Bool) (r i : Nat) (hr : r < 8) (hi : i < 8) : (tabL (fm 8 back) 64).getD (r * 8 + i) 0 = mg 8 back r i := by
  rw [tabL_get (by omega)]; show mg 8 back ((r * 8 + i) / 8) ((r * 8 + i) % 8) = _; rw [(divmod hi).1, (divmod hi).2]
theorem l12Mul_8 (back : Bool) (l : List Int) (h : l.length = 64 ∧ In l (-1000000000) 1000000000) : Fn 159 [IL l, I 8, B back] [XI (mulM 8 (mg 8 back) l)] (.own 0 0 0 64) := by
  obtain ⟨h1, h2⟩ := h
  have hg : Sgn (mg 8 back) := fun r i => mg_val 8 back r i
  have e : mulM 8 (mg 8 back) l = tabL (fo 8 (mg 8 back) l) 64 := rfl
  refine FnC.of_body tabOk Try.func159 Try.ntmps159 rfl (by decide +kernel) (by simp) fun G => ?_
  refine go (r := ?_); and_intros <;> intros <;> try exact True.intro
  refine WpA.loop (fun r : Nat => ⟨[(0, IL l), (1, I 8), (2, B back), (7, .own 0 0 0 64), (8, I r)], [XI (msk (pm 8 back r 0) (fm 8 back) 64)]⟩) (fun r => r ≤ 8) (fun r => 8 - r) 0 (by omega) (go (r := ?_)) (fun r hr => ?_)
  · rw [pmzero_8]; and_intros <;> first | trivial | rfl
  have hpl1 := msk_len (pm 8 back r 0) (fm 8 back) 64
  have hrl := tabL_len (mx 8 r) 8
  refine go (r := ?_); and_intros <;> intros <;> try exact True.intro
  · refine WpA.loop (fun i : Nat => ⟨[(0, IL l), (1, I 8), (2, B back), (7, .own 0 0 0 64), (8, I r), (9, .own 1 0 0 8), (10, I i)], [XI (msk (pm 8 back r i) (fm 8 back) 64), IN (tabL (mx 8 r) 8)]⟩) (fun i => i ≤ 8) (fun i => 8 - i) 0 (by omega) (go (r := ?_)) (fun i hi => ?_)
    · trivial
    have hpl2 := msk_len (pm 8 back r i) (fm 8 back) 64
    have hps := pmset_8 back r i
    have hrg : i < 8 → (tabL (mx 8 r) 8).getD i 0 = mx 8 r i := fun h => tabL_get h
    refine go (r := ?_); and_intros <;> intros <;> try exact True.intro
    · rename_i hb
      subst hb
      rw [Int.toNat_natCast, hrg (by omega), show ((i : Int) * 8 + r).toNat = i * 8 + r by omega]; exact hps (by omega) (by omega)
    · rename_i hb
      subst hb
      rw [Int.toNat_natCast, hrg (by omega), show ((r : Int) * 8 + i).toNat = r * 8 + i by omega]; exact hps (by omega) (by omega)
    · have hi1 : i = 8 := by omega
      subst hi1; exact pmnext_8 back r
  have hr1 : r = 8 := by omega
  subst hr1
  rw [pmall_8]
  have hplh := tabL_len (fm 8 back) 64
  refine WpA.loop (fun r : Nat => ⟨[(0, IL l), (1, I 8), (7, .own 0 0 0 64), (11, .own 1 0 0 64), (12, .own 2 0 0 64), (13, I r)], [XI (tabL (fm 8 back) 64), XI (part (fh 8 (mg 8 back) l) 64 (r * 8) 0), XI (List.replicate 64 0)]⟩) (fun r => r ≤ 8) (fun r => 8 - r) 0 (by omega) (go (r := ?_)) (fun r hr => ?_)
  · simp [part_zero]
  have hpl1 := part_len (fh 8 (mg 8 back) l) 64 (r * 8) 0
  refine go (r := ?_); and_intros <;> intros <;> try exact True.intro
  · refine WpA.loop (fun k : Nat => ⟨[(0, IL l), (1, I 8), (7, .own 0 0 0 64), (11, .own 1 0 0 64), (12, .own 2 0 0 64), (13, I r), (14, I k)], [XI (tabL (fm 8 back) 64), XI (part (fh 8 (mg 8 back) l) 64 (r * 8 + k) 0), XI (List.replicate 64 0)]⟩) (fun k => k ≤ 8) (fun k => 8 - k) 0 (by omega) (go (r := ?_)) (fun k hk => ?_)
    · trivial
    have hpl2 := part_len (fh 8 (mg 8 back) l) 64 (r * 8 + k) 0
    refine go (r := ?_); and_intros <;> intros <;> try exact True.intro
    · refine WpA.loop (fun i : Nat => ⟨[(0, IL l), (1, I 8), (7, .own 0 0 0 64), (11, .own 1 0 0 64), (12, .own 2 0 0 64), (13, I r), (14, I k), (15, I i)], [XI (tabL (fm 8 back) 64), XI (part (fh 8 (mg 8 back) l) 64 (r * 8 + k) (sh 8 (mg 8 back) l r k i)), XI (List.replicate 64 0)]⟩) (fun i => i ≤ 8) (fun i => 8 - i) 0 (by omega) (go (r := ?_)) (fun i hi => ?_)
      · simp [sumF]
      have hpl3 := part_len (fh 8 (mg 8 back) l) 64 (r * 8 + k) (sh 8 (mg 8 back) l r k i)
      have hsb : -((i : Int) * (2 * 1000000000)) ≤ sh 8 (mg 8 back) l r k i ∧ sh 8 (mg 8 back) l r k i ≤ (i : Int) * (2 * 1000000000) := half_bd (n := 8) (g := (mg 8 back)) (l := l) (c := 1000000000) hg h2 (by omega) r k i
      have hdm := divmod (n := 8) (r := r) (k := k)
      have hgl := in_getZ h2 (by decide) (i * 8 + k)
      have hgg := mul2 (hg r i) hgl (by decide)
      have hst : sh 8 (mg 8 back) l r k (i + 1) = sh 8 (mg 8 back) l r k i + (mg 8 back) r i * l.getD (i * 8 + k) 0 := rfl
      refine go (r := ?_); and_intros <;> intros <;> try exact True.intro
      · rename_i hi1
        have e1 : ((r : Int) * 8 + k).toNat = r * 8 + k := by omega
        have e2 : ((i : Int) * 8 + k).toNat = i * 8 + k := by omega
        have e4 : ((r : Int) * 8 + i).toNat = r * 8 + i := by omega
        rw [e1, e2, e4, fmget_8 back r i (by omega) (by omega), part_get (by omega), part_set (by omega), wrap64 ((mg 8 back) r i * l.getD (i * 8 + k) 0) (by omega), wrap64 _ (by omega), hst]
      · have hi1 : i = 8 := by omega
        subst hi1
        rw [← Nat.add_assoc]; exact part_next (by show sh 8 (mg 8 back) l r k 8 = halfM 8 (mg 8 back) l ((r * 8 + k) / 8) ((r * 8 + k) % 8); rw [(hdm (by omega)).1, (hdm (by omega)).2]; rfl)
    · have hk1 : k = 8 := by omega
      rw [hk1, Nat.succ_mul]
  have hr1 : r = 8 := by omega
  subst hr1
  have ep : part (fh 8 (mg 8 back) l) 64 (8 * 8) 0 = tabL (fh 8 (mg 8 back) l) 64 := part_all _ _ _
  rw [ep]
  have hplh2 := tabL_len (fh 8 (mg 8 back) l) 64
  refine WpA.loop (fun r : Nat => ⟨[(1, I 8), (7, .own 0 0 0 64), (11, .own 1 0 0 64), (12, .own 2 0 0 64), (16, I r)], [XI (tabL (fm 8 back) 64), XI (tabL (fh 8 (mg 8 back) l) 64), XI (part (fo 8 (mg 8 back) l) 64 (r * 8) 0)]⟩) (fun r => r ≤ 8) (fun r => 8 - r) 0 (by omega) (go (r := ?_)) (fun r hr => ?_)
  · simp [part_zero]
  have hpl1 := part_len (fo 8 (mg 8 back) l) 64 (r * 8) 0
  refine go (r := ?_); and_intros <;> intros <;> try exact True.intro
  · refine WpA.loop (fun k : Nat => ⟨[(1, I 8), (7, .own 0 0 0 64), (11, .own 1 0 0 64), (12, .own 2 0 0 64), (16, I r), (17, I k)], [XI (tabL (fm 8 back) 64), XI (tabL (fh 8 (mg 8 back) l) 64), XI (part (fo 8 (mg 8 back) l) 64 (r * 8 + k) 0)]⟩) (fun k => k ≤ 8) (fun k => 8 - k) 0 (by omega) (go (r := ?_)) (fun k hk => ?_)
    · trivial
    have hpl2 := part_len (fo 8 (mg 8 back) l) 64 (r * 8 + k) 0
    refine go (r := ?_); and_intros <;> intros <;> try exact True.intro
    · refine WpA.loop (fun i : Nat => ⟨[(1, I 8), (7, .own 0 0 0 64), (11, .own 1 0 0 64), (12, .own 2 0 0 64), (16, I r), (17, I k), (18, I i)], [XI (tabL (fm 8 back) 64), XI (tabL (fh 8 (mg 8 back) l) 64), XI (part (fo 8 (mg 8 back) l) 64 (r * 8 + k) (so 8 (mg 8 back) l r k i))]⟩) (fun i => i ≤ 8) (fun i => 8 - i) 0 (by omega) (go (r := ?_)) (fun i hi => ?_)
      · simp [sumF]
      have hpl3 := part_len (fo 8 (mg 8 back) l) 64 (r * 8 + k) (so 8 (mg 8 back) l r k i)
      have hsb := so_bd (n := 8) hg h2 (by omega) r k i
      have hdm := divmod (n := 8) (r := r) (k := k)
      have hdi := divmod (n := 8) (r := r) (k := i)
      have hgl := half_in (n := 8) hg h2 (by omega) r i
      have hgg := mul_huge hgl (hg k i)
      have hst : so 8 (mg 8 back) l r k (i + 1) = so 8 (mg 8 back) l r k i + halfM 8 (mg 8 back) l r i * (mg 8 back) k i := rfl
      refine go (r := ?_); and_intros <;> intros <;> try exact True.intro
      · rename_i hi1
        have e1 : ((r : Int) * 8 + k).toNat = r * 8 + k := by omega
        have e2 : ((r : Int) * 8 + i).toNat = r * 8 + i := by omega
        have e3 : ((k : Int) * 8 + i).toNat = k * 8 + i := by omega
        have e4 : (tabL (fh 8 (mg 8 back) l) 64).getD (r * 8 + i) 0 = halfM 8 (mg 8 back) l r i := by rw [tabL_get (by omega)]; show halfM 8 (mg 8 back) l ((r * 8 + i) / 8) ((r * 8 + i) % 8) = _; rw [(hdi (by omega)).1, (hdi (by omega)).2]
        rw [e1, e2, e3, e4, fmget_8 back k i (by omega) (by omega), part_get (by omega), part_set (by omega), wrap64 (halfM 8 (mg 8 back) l r i * (mg 8 back) k i) (by omega), wrap64 _ (by omega), hst]
      · have hi1 : i = 8 := by omega
        subst hi1
        rw [← Nat.add_assoc]; exact part_next (by show so 8 (mg 8 back) l r k 8 = fullM 8 (mg 8 back) l ((r * 8 + k) / 8) ((r * 8 + k) % 8); rw [(hdm (by omega)).1, (hdm (by omega)).2]; rfl)
    · have hk1 : k = 8 := by omega
      rw [hk1, Nat.succ_mul]
  all_goals have hr1 : r = 8 := by omega
  all_goals subst hr1
  all_goals first | (rw [e]; exact congrArg _ (part_all _ _ _)) | (rw [e]; exact part_all _ _ _) | trace_state
end Go.Proofs.Ytepfjefdbpmobaa
