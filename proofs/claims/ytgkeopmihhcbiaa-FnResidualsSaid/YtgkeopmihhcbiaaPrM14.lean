/- Proved in this text: lemmas and contracts of functions that the claim uses (parts: Mat4, Pred, Scan, Quant, Scn, Lw, Lev, Stat, Sid, ResL). No condition. -/
import Derived.Test.YtgkeopmihhcbiaaPrM13
import Derived.Test.YtgkeopmihhcbiaaPrM12

/- Contracts: the laws' own products, the transforms straight on. No condition. -/
namespace Go.Proofs.Ytgkeopmihhcbiaa
open Go Go.Abs
set_option linter.unusedVariables false
set_option linter.unusedSimpArgs false
set_option maxRecDepth 100000
set_option maxHeartbeats 4000000
attribute [local irreducible] WpA WpL Rnd Blk Abs.Seq Abs.Fin Abs.FinG FnC FnG Only

def pm (n : Nat) (back : Bool) (r i q : Nat) : Bool := if back then decide (q % n < r ∨ (q % n = r ∧ q / n < i)) else decide (q / n < r ∨ (q / n = r ∧ q % n < i))
abbrev fm (n : Nat) (back : Bool) (q : Nat) : Int := mg n back (q / n) (q % n)
theorem pmset_4 (back : Bool) (r i : Nat) (hr : r < 4) (hi : i < 4) : (msk (pm 4 back r i) (fm 4 back) 16).set (if back then i * 4 + r else r * 4 + i) (mx 4 r i) = msk (pm 4 back r (i + 1)) (fm 4 back) 16 := by
  cases back with
  | true =>
    refine msk_set (by show i * 4 + r < 16; omega) ?_ fun q hq => ?_
    · show mx 4 r i = mx 4 ((i * 4 + r) % 4) ((i * 4 + r) / 4); rw [(divmod hr).1, (divmod hr).2]
    · simp only [pm, if_true, decide_eq_true_eq]; omega
  | false =>
    refine msk_set (by show r * 4 + i < 16; omega) ?_ fun q hq => ?_
    · show mx 4 r i = mx 4 ((r * 4 + i) / 4) ((r * 4 + i) % 4); rw [(divmod hi).1, (divmod hi).2]
    · simp only [pm, Bool.false_eq_true, if_false, decide_eq_true_eq]; omega
theorem pmnext_4 (back : Bool) (r : Nat) : msk (pm 4 back r 4) (fm 4 back) 16 = msk (pm 4 back (r + 1) 0) (fm 4 back) 16 := by
  refine msk_same fun q hq => ?_
  cases back <;> simp only [pm, if_true, Bool.false_eq_true, if_false, decide_eq_true_eq] <;> omega
theorem pmzero_4 (back : Bool) : msk (pm 4 back 0 0) (fm 4 back) 16 = List.replicate 16 0 := by
  refine msk_none fun q hq => ?_
  cases back <;> simp [pm]
theorem pmall_4 (back : Bool) : msk (pm 4 back 4 0) (fm 4 back) 16 = tabL (fm 4 back) 16 := by
  refine msk_all fun q hq => ?_
  cases back <;> simp only [pm, if_true, Bool.false_eq_true, if_false, decide_eq_true_eq] <;> omega
theorem fmget_4 (back : Bool) (r i : Nat) (hr : r < 4) (hi : i < 4) : (tabL (fm 4 back) 16).getD (r * 4 + i) 0 = mg 4 back r i := by
  rw [tabL_get (by omega)]; show mg 4 back ((r * 4 + i) / 4) ((r * 4 + i) % 4) = _; rw [(divmod hi).1, (divmod hi).2]
theorem l12Mul_4 (back : Bool) (l : List Int) (h : l.length = 16 ∧ In l (-1000000000) 1000000000) : Fn 241 [IL l, I 4, B back] [XI (mulM 4 (mg 4 back) l)] (.own 0 0 0 16) := by
  obtain ⟨h1, h2⟩ := h
  have hg : Sgn (mg 4 back) := fun r i => mg_val 4 back r i
  have e : mulM 4 (mg 4 back) l = tabL (fo 4 (mg 4 back) l) 16 := rfl
  refine FnC.of_body tabOk Try.func241 Try.ntmps241 rfl (by decide +kernel) (by simp) fun G => ?_
  refine go (r := ?_); and_intros <;> intros <;> try exact True.intro
  refine WpA.loop (fun r : Nat => ⟨[(0, IL l), (1, I 4), (2, B back), (7, .own 0 0 0 16), (8, I r)], [XI (msk (pm 4 back r 0) (fm 4 back) 16)]⟩) (fun r => r ≤ 4) (fun r => 4 - r) 0 (by omega) (go (r := ?_)) (fun r hr => ?_)
  · rw [pmzero_4]; and_intros <;> first | trivial | rfl
  have hpl1 := msk_len (pm 4 back r 0) (fm 4 back) 16
  have hrl := tabL_len (mx 4 r) 4
  refine go (r := ?_); and_intros <;> intros <;> try exact True.intro
  · refine WpA.loop (fun i : Nat => ⟨[(0, IL l), (1, I 4), (2, B back), (7, .own 0 0 0 16), (8, I r), (9, .own 1 0 0 4), (10, I i)], [XI (msk (pm 4 back r i) (fm 4 back) 16), IN (tabL (mx 4 r) 4)]⟩) (fun i => i ≤ 4) (fun i => 4 - i) 0 (by omega) (go (r := ?_)) (fun i hi => ?_)
    · trivial
    have hpl2 := msk_len (pm 4 back r i) (fm 4 back) 16
    have hps := pmset_4 back r i
    have hrg : i < 4 → (tabL (mx 4 r) 4).getD i 0 = mx 4 r i := fun h => tabL_get h
    refine go (r := ?_); and_intros <;> intros <;> try exact True.intro
    · rename_i hb
      subst hb
      rw [Int.toNat_natCast, hrg (by omega), show ((i : Int) * 4 + r).toNat = i * 4 + r by omega]; exact hps (by omega) (by omega)
    · rename_i hb
      subst hb
      rw [Int.toNat_natCast, hrg (by omega), show ((r : Int) * 4 + i).toNat = r * 4 + i by omega]; exact hps (by omega) (by omega)
    · have hi1 : i = 4 := by omega
      subst hi1; exact pmnext_4 back r
  have hr1 : r = 4 := by omega
  subst hr1
  rw [pmall_4]
  have hplh := tabL_len (fm 4 back) 16
  refine WpA.loop (fun r : Nat => ⟨[(0, IL l), (1, I 4), (7, .own 0 0 0 16), (11, .own 1 0 0 16), (12, .own 2 0 0 16), (13, I r)], [XI (tabL (fm 4 back) 16), XI (part (fh 4 (mg 4 back) l) 16 (r * 4) 0), XI (List.replicate 16 0)]⟩) (fun r => r ≤ 4) (fun r => 4 - r) 0 (by omega) (go (r := ?_)) (fun r hr => ?_)
  · simp [part_zero]
  have hpl1 := part_len (fh 4 (mg 4 back) l) 16 (r * 4) 0
  refine go (r := ?_); and_intros <;> intros <;> try exact True.intro
  · refine WpA.loop (fun k : Nat => ⟨[(0, IL l), (1, I 4), (7, .own 0 0 0 16), (11, .own 1 0 0 16), (12, .own 2 0 0 16), (13, I r), (14, I k)], [XI (tabL (fm 4 back) 16), XI (part (fh 4 (mg 4 back) l) 16 (r * 4 + k) 0), XI (List.replicate 16 0)]⟩) (fun k => k ≤ 4) (fun k => 4 - k) 0 (by omega) (go (r := ?_)) (fun k hk => ?_)
    · trivial
    have hpl2 := part_len (fh 4 (mg 4 back) l) 16 (r * 4 + k) 0
    refine go (r := ?_); and_intros <;> intros <;> try exact True.intro
    · refine WpA.loop (fun i : Nat => ⟨[(0, IL l), (1, I 4), (7, .own 0 0 0 16), (11, .own 1 0 0 16), (12, .own 2 0 0 16), (13, I r), (14, I k), (15, I i)], [XI (tabL (fm 4 back) 16), XI (part (fh 4 (mg 4 back) l) 16 (r * 4 + k) (sh 4 (mg 4 back) l r k i)), XI (List.replicate 16 0)]⟩) (fun i => i ≤ 4) (fun i => 4 - i) 0 (by omega) (go (r := ?_)) (fun i hi => ?_)
      · simp [sumF]
      have hpl3 := part_len (fh 4 (mg 4 back) l) 16 (r * 4 + k) (sh 4 (mg 4 back) l r k i)
      have hsb : -((i : Int) * (2 * 1000000000)) ≤ sh 4 (mg 4 back) l r k i ∧ sh 4 (mg 4 back) l r k i ≤ (i : Int) * (2 * 1000000000) := half_bd (n := 4) (g := (mg 4 back)) (l := l) (c := 1000000000) hg h2 (by omega) r k i
      have hdm := divmod (n := 4) (r := r) (k := k)
      have hgl := in_getZ h2 (by decide) (i * 4 + k)
      have hgg := mul2 (hg r i) hgl (by decide)
      have hst : sh 4 (mg 4 back) l r k (i + 1) = sh 4 (mg 4 back) l r k i + (mg 4 back) r i * l.getD (i * 4 + k) 0 := rfl
      refine go (r := ?_); and_intros <;> intros <;> try exact True.intro
      · rename_i hi1
        have e1 : ((r : Int) * 4 + k).toNat = r * 4 + k := by omega
        have e2 : ((i : Int) * 4 + k).toNat = i * 4 + k := by omega
        have e4 : ((r : Int) * 4 + i).toNat = r * 4 + i := by omega
        rw [e1, e2, e4, fmget_4 back r i (by omega) (by omega), part_get (by omega), part_set (by omega), wrap64 ((mg 4 back) r i * l.getD (i * 4 + k) 0) (by omega), wrap64 _ (by omega), hst]
      · have hi1 : i = 4 := by omega
        subst hi1
        rw [← Nat.add_assoc]; exact part_next (by show sh 4 (mg 4 back) l r k 4 = halfM 4 (mg 4 back) l ((r * 4 + k) / 4) ((r * 4 + k) % 4); rw [(hdm (by omega)).1, (hdm (by omega)).2]; rfl)
    · have hk1 : k = 4 := by omega
      rw [hk1, Nat.succ_mul]
  have hr1 : r = 4 := by omega
  subst hr1
  have ep : part (fh 4 (mg 4 back) l) 16 (4 * 4) 0 = tabL (fh 4 (mg 4 back) l) 16 := part_all _ _ _
  rw [ep]
  have hplh2 := tabL_len (fh 4 (mg 4 back) l) 16
  refine WpA.loop (fun r : Nat => ⟨[(1, I 4), (7, .own 0 0 0 16), (11, .own 1 0 0 16), (12, .own 2 0 0 16), (16, I r)], [XI (tabL (fm 4 back) 16), XI (tabL (fh 4 (mg 4 back) l) 16), XI (part (fo 4 (mg 4 back) l) 16 (r * 4) 0)]⟩) (fun r => r ≤ 4) (fun r => 4 - r) 0 (by omega) (go (r := ?_)) (fun r hr => ?_)
  · simp [part_zero]
  have hpl1 := part_len (fo 4 (mg 4 back) l) 16 (r * 4) 0
  refine go (r := ?_); and_intros <;> intros <;> try exact True.intro
  · refine WpA.loop (fun k : Nat => ⟨[(1, I 4), (7, .own 0 0 0 16), (11, .own 1 0 0 16), (12, .own 2 0 0 16), (16, I r), (17, I k)], [XI (tabL (fm 4 back) 16), XI (tabL (fh 4 (mg 4 back) l) 16), XI (part (fo 4 (mg 4 back) l) 16 (r * 4 + k) 0)]⟩) (fun k => k ≤ 4) (fun k => 4 - k) 0 (by omega) (go (r := ?_)) (fun k hk => ?_)
    · trivial
    have hpl2 := part_len (fo 4 (mg 4 back) l) 16 (r * 4 + k) 0
    refine go (r := ?_); and_intros <;> intros <;> try exact True.intro
    · refine WpA.loop (fun i : Nat => ⟨[(1, I 4), (7, .own 0 0 0 16), (11, .own 1 0 0 16), (12, .own 2 0 0 16), (16, I r), (17, I k), (18, I i)], [XI (tabL (fm 4 back) 16), XI (tabL (fh 4 (mg 4 back) l) 16), XI (part (fo 4 (mg 4 back) l) 16 (r * 4 + k) (so 4 (mg 4 back) l r k i))]⟩) (fun i => i ≤ 4) (fun i => 4 - i) 0 (by omega) (go (r := ?_)) (fun i hi => ?_)
      · simp [sumF]
      have hpl3 := part_len (fo 4 (mg 4 back) l) 16 (r * 4 + k) (so 4 (mg 4 back) l r k i)
      have hsb := so_bd (n := 4) hg h2 (by omega) r k i
      have hdm := divmod (n := 4) (r := r) (k := k)
      have hdi := divmod (n := 4) (r := r) (k := i)
      have hgl := half_in (n := 4) hg h2 (by omega) r i
      have hgg := mul_huge hgl (hg k i)
      have hst : so 4 (mg 4 back) l r k (i + 1) = so 4 (mg 4 back) l r k i + halfM 4 (mg 4 back) l r i * (mg 4 back) k i := rfl
      refine go (r := ?_); and_intros <;> intros <;> try exact True.intro
      · rename_i hi1
        have e1 : ((r : Int) * 4 + k).toNat = r * 4 + k := by omega
        have e2 : ((r : Int) * 4 + i).toNat = r * 4 + i := by omega
        have e3 : ((k : Int) * 4 + i).toNat = k * 4 + i := by omega
        have e4 : (tabL (fh 4 (mg 4 back) l) 16).getD (r * 4 + i) 0 = halfM 4 (mg 4 back) l r i := by rw [tabL_get (by omega)]; show halfM 4 (mg 4 back) l ((r * 4 + i) / 4) ((r * 4 + i) % 4) = _; rw [(hdi (by omega)).1, (hdi (by omega)).2]
        rw [e1, e2, e3, e4, fmget_4 back k i (by omega) (by omega), part_get (by omega), part_set (by omega), wrap64 (halfM 4 (mg 4 back) l r i * (mg 4 back) k i) (by omega), wrap64 _ (by omega), hst]
      · have hi1 : i = 4 := by omega
        subst hi1
        rw [← Nat.add_assoc]; exact part_next (by show so 4 (mg 4 back) l r k 4 = fullM 4 (mg 4 back) l ((r * 4 + k) / 4) ((r * 4 + k) % 4); rw [(hdm (by omega)).1, (hdm (by omega)).2]; rfl)
    · have hk1 : k = 4 := by omega
      rw [hk1, Nat.succ_mul]
  all_goals have hr1 : r = 4 := by omega
  all_goals subst hr1
  all_goals first | (rw [e]; exact congrArg _ (part_all _ _ _)) | (rw [e]; exact part_all _ _ _) | trace_state
theorem pmset_8 (back : Bool) (r i : Nat) (hr : r < 8) (hi : i < 8) : (msk (pm 8 back r i) (fm 8 back) 64).set (if back then i * 8 + r else r * 8 + i) (mx 8 r i) = msk (pm 8 back r (i + 1)) (fm 8 back) 64 := by
  cases back with
  | true =>
    refine msk_set (by show i * 8 + r < 64; omega) ?_ fun q hq => ?_
    · show mx 8 r i = mx 8 ((i * 8 + r) % 8) ((i * 8 + r) / 8); rw [(divmod hr).1, (divmod hr).2]
    · simp only [pm, if_true, decide_eq_true_eq]; omega
  | false =>
    refine msk_set (by show r * 8 + i < 64; omega) ?_ fun q hq => ?_
    · show mx 8 r i = mx 8 ((r * 8 + i) / 8) ((r * 8 + i) % 8); rw [(divmod hi).1, (divmod hi).2]
    · simp only [pm, Bool.false_eq_true, if_false, decide_eq_true_eq]; omega
theorem pmnext_8 (back : Bool) (r : Nat) : msk (pm 8 back r 8) (fm 8 back) 64 = msk (pm 8 back (r + 1) 0) (fm 8 back) 64 := by
  refine msk_same fun q hq => ?_
  cases back <;> simp only [pm, if_true, Bool.false_eq_true, if_false, decide_eq_true_eq] <;> omega
theorem pmzero_8 (back : Bool) : msk (pm 8 back 0 0) (fm 8 back) 64 = List.replicate 64 0 := by
  refine msk_none fun q hq => ?_
  cases back <;> simp [pm]
theorem pmall_8 (back : Bool) : msk (pm 8 back 8 0) (fm 8 back) 64 = tabL (fm 8 back) 64 := by
  refine msk_all fun q hq => ?_
  cases back <;> simp only [pm, if_true, Bool.false_eq_true, if_false, decide_eq_true_eq] <;> omega
theorem fmget_8 (back : Bool) (r i : Nat) (hr : r < 8) (hi : i < 8) : (tabL (fm 8 back) 64).getD (r * 8 + i) 0 = mg 8 back r i := by
  rw [tabL_get (by omega)]; show mg 8 back ((r * 8 + i) / 8) ((r * 8 + i) % 8) = _; rw [(divmod hi).1, (divmod hi).2]
theorem l12Mul_8 (back : Bool) (l : List Int) (h : l.length = 64 ∧ In l (-1000000000) 1000000000) : Fn 241 [IL l, I 8, B back] [XI (mulM 8 (mg 8 back) l)] (.own 0 0 0 64) := by
  obtain ⟨h1, h2⟩ := h
  have hg : Sgn (mg 8 back) := fun r i => mg_val 8 back r i
  have e : mulM 8 (mg 8 back) l = tabL (fo 8 (mg 8 back) l) 64 := rfl
  refine FnC.of_body tabOk Try.func241 Try.ntmps241 rfl (by decide +kernel) (by simp) fun G => ?_
  refine go (r := ?_); and_intros <;> intros <;> try exact True.intro
  refine WpA.loop (fun r : Nat => ⟨[(0, IL l), (1, I 8), (2, B back), (7, .own 0 0 0 64), (8, I r)], [XI (msk (pm 8 back r 0) (fm 8 back) 64)]⟩) (fun r => r ≤ 8) (fun r => 8 - r) 0 (by omega) (go (r := ?_)) (fun r hr => ?_)
  · rw [pmzero_8]; and_intros <;> first | trivial | rfl
  have hpl1 := msk_len (pm 8 back r 0) (fm 8 back) 64
  have hrl := tabL_len (mx 8 r) 8
  refine go (r := ?_); and_intros <;> intros <;> try exact True.intro
  · refine WpA.loop (fun i : Nat => ⟨[(0, IL l), (1, I 8), (2, B back), (7, .own 0 0 0 64), (8, I r), (9, .own 1 0 0 8), (10, I i)], [XI (msk (pm 8 back r i) (fm 8 back) 64), IN (tabL (mx 8 r) 8)]⟩) (fun i => i ≤ 8) (fun i => 8 - i) 0 (by omega) (go (r := ?_)) (fun i hi => ?_)
    · trivial
    have hpl2 := msk_len (pm 8 back r i) (fm 8 back) 64
    have hps := pmset_8 back r i
    have hrg : i < 8 → (tabL (mx 8 r) 8).getD i 0 = mx 8 r i := fun h => tabL_get h
    refine go (r := ?_); and_intros <;> intros <;> try exact True.intro
    · rename_i hb
      subst hb
      rw [Int.toNat_natCast, hrg (by omega), show ((i : Int) * 8 + r).toNat = i * 8 + r by omega]; exact hps (by omega) (by omega)
    · rename_i hb
      subst hb
      rw [Int.toNat_natCast, hrg (by omega), show ((r : Int) * 8 + i).toNat = r * 8 + i by omega]; exact hps (by omega) (by omega)
    · have hi1 : i = 8 := by omega
      subst hi1; exact pmnext_8 back r
  have hr1 : r = 8 := by omega
  subst hr1
  rw [pmall_8]
  have hplh := tabL_len (fm 8 back) 64
  refine WpA.loop (fun r : Nat => ⟨[(0, IL l), (1, I 8), (7, .own 0 0 0 64), (11, .own 1 0 0 64), (12, .own 2 0 0 64), (13, I r)], [XI (tabL (fm 8 back) 64), XI (part (fh 8 (mg 8 back) l) 64 (r * 8) 0), XI (List.replicate 64 0)]⟩) (fun r => r ≤ 8) (fun r => 8 - r) 0 (by omega) (go (r := ?_)) (fun r hr => ?_)
  · simp [part_zero]
  have hpl1 := part_len (fh 8 (mg 8 back) l) 64 (r * 8) 0
  refine go (r := ?_); and_intros <;> intros <;> try exact True.intro
  · refine WpA.loop (fun k : Nat => ⟨[(0, IL l), (1, I 8), (7, .own 0 0 0 64), (11, .own 1 0 0 64), (12, .own 2 0 0 64), (13, I r), (14, I k)], [XI (tabL (fm 8 back) 64), XI (part (fh 8 (mg 8 back) l) 64 (r * 8 + k) 0), XI (List.replicate 64 0)]⟩) (fun k => k ≤ 8) (fun k => 8 - k) 0 (by omega) (go (r := ?_)) (fun k hk => ?_)
    · trivial
    have hpl2 := part_len (fh 8 (mg 8 back) l) 64 (r * 8 + k) 0
    refine go (r := ?_); and_intros <;> intros <;> try exact True.intro
    · refine WpA.loop (fun i : Nat => ⟨[(0, IL l), (1, I 8), (7, .own 0 0 0 64), (11, .own 1 0 0 64), (12, .own 2 0 0 64), (13, I r), (14, I k), (15, I i)], [XI (tabL (fm 8 back) 64), XI (part (fh 8 (mg 8 back) l) 64 (r * 8 + k) (sh 8 (mg 8 back) l r k i)), XI (List.replicate 64 0)]⟩) (fun i => i ≤ 8) (fun i => 8 - i) 0 (by omega) (go (r := ?_)) (fun i hi => ?_)
      · simp [sumF]
      have hpl3 := part_len (fh 8 (mg 8 back) l) 64 (r * 8 + k) (sh 8 (mg 8 back) l r k i)
      have hsb : -((i : Int) * (2 * 1000000000)) ≤ sh 8 (mg 8 back) l r k i ∧ sh 8 (mg 8 back) l r k i ≤ (i : Int) * (2 * 1000000000) := half_bd (n := 8) (g := (mg 8 back)) (l := l) (c := 1000000000) hg h2 (by omega) r k i
      have hdm := divmod (n := 8) (r := r) (k := k)
      have hgl := in_getZ h2 (by decide) (i * 8 + k)
      have hgg := mul2 (hg r i) hgl (by decide)
      have hst : sh 8 (mg 8 back) l r k (i + 1) = sh 8 (mg 8 back) l r k i + (mg 8 back) r i * l.getD (i * 8 + k) 0 := rfl
      refine go (r := ?_); and_intros <;> intros <;> try exact True.intro
      · rename_i hi1
        have e1 : ((r : Int) * 8 + k).toNat = r * 8 + k := by omega
        have e2 : ((i : Int) * 8 + k).toNat = i * 8 + k := by omega
        have e4 : ((r : Int) * 8 + i).toNat = r * 8 + i := by omega
        rw [e1, e2, e4, fmget_8 back r i (by omega) (by omega), part_get (by omega), part_set (by omega), wrap64 ((mg 8 back) r i * l.getD (i * 8 + k) 0) (by omega), wrap64 _ (by omega), hst]
      · have hi1 : i = 8 := by omega
        subst hi1
        rw [← Nat.add_assoc]; exact part_next (by show sh 8 (mg 8 back) l r k 8 = halfM 8 (mg 8 back) l ((r * 8 + k) / 8) ((r * 8 + k) % 8); rw [(hdm (by omega)).1, (hdm (by omega)).2]; rfl)
    · have hk1 : k = 8 := by omega
      rw [hk1, Nat.succ_mul]
  have hr1 : r = 8 := by omega
  subst hr1
  have ep : part (fh 8 (mg 8 back) l) 64 (8 * 8) 0 = tabL (fh 8 (mg 8 back) l) 64 := part_all _ _ _
  rw [ep]
  have hplh2 := tabL_len (fh 8 (mg 8 back) l) 64
  refine WpA.loop (fun r : Nat => ⟨[(1, I 8), (7, .own 0 0 0 64), (11, .own 1 0 0 64), (12, .own 2 0 0 64), (16, I r)], [XI (tabL (fm 8 back) 64), XI (tabL (fh 8 (mg 8 back) l) 64), XI (part (fo 8 (mg 8 back) l) 64 (r * 8) 0)]⟩) (fun r => r ≤ 8) (fun r => 8 - r) 0 (by omega) (go (r := ?_)) (fun r hr => ?_)
  · simp [part_zero]
  have hpl1 := part_len (fo 8 (mg 8 back) l) 64 (r * 8) 0
  refine go (r := ?_); and_intros <;> intros <;> try exact True.intro
  · refine WpA.loop (fun k : Nat => ⟨[(1, I 8), (7, .own 0 0 0 64), (11, .own 1 0 0 64), (12, .own 2 0 0 64), (16, I r), (17, I k)], [XI (tabL (fm 8 back) 64), XI (tabL (fh 8 (mg 8 back) l) 64), XI (part (fo 8 (mg 8 back) l) 64 (r * 8 + k) 0)]⟩) (fun k => k ≤ 8) (fun k => 8 - k) 0 (by omega) (go (r := ?_)) (fun k hk => ?_)
    · trivial
    have hpl2 := part_len (fo 8 (mg 8 back) l) 64 (r * 8 + k) 0
    refine go (r := ?_); and_intros <;> intros <;> try exact True.intro
    · refine WpA.loop (fun i : Nat => ⟨[(1, I 8), (7, .own 0 0 0 64), (11, .own 1 0 0 64), (12, .own 2 0 0 64), (16, I r), (17, I k), (18, I i)], [XI (tabL (fm 8 back) 64), XI (tabL (fh 8 (mg 8 back) l) 64), XI (part (fo 8 (mg 8 back) l) 64 (r * 8 + k) (so 8 (mg 8 back) l r k i))]⟩) (fun i => i ≤ 8) (fun i => 8 - i) 0 (by omega) (go (r := ?_)) (fun i hi => ?_)
      · simp [sumF]
      have hpl3 := part_len (fo 8 (mg 8 back) l) 64 (r * 8 + k) (so 8 (mg 8 back) l r k i)
      have hsb := so_bd (n := 8) hg h2 (by omega) r k i
      have hdm := divmod (n := 8) (r := r) (k := k)
      have hdi := divmod (n := 8) (r := r) (k := i)
      have hgl := half_in (n := 8) hg h2 (by omega) r i
      have hgg := mul_huge hgl (hg k i)
      have hst : so 8 (mg 8 back) l r k (i + 1) = so 8 (mg 8 back) l r k i + halfM 8 (mg 8 back) l r i * (mg 8 back) k i := rfl
      refine go (r := ?_); and_intros <;> intros <;> try exact True.intro
      · rename_i hi1
        have e1 : ((r : Int) * 8 + k).toNat = r * 8 + k := by omega
        have e2 : ((r : Int) * 8 + i).toNat = r * 8 + i := by omega
        have e3 : ((k : Int) * 8 + i).toNat = k * 8 + i := by omega
        have e4 : (tabL (fh 8 (mg 8 back) l) 64).getD (r * 8 + i) 0 = halfM 8 (mg 8 back) l r i := by rw [tabL_get (by omega)]; show halfM 8 (mg 8 back) l ((r * 8 + i) / 8) ((r * 8 + i) % 8) = _; rw [(hdi (by omega)).1, (hdi (by omega)).2]
        rw [e1, e2, e3, e4, fmget_8 back k i (by omega) (by omega), part_get (by omega), part_set (by omega), wrap64 (halfM 8 (mg 8 back) l r i * (mg 8 back) k i) (by omega), wrap64 _ (by omega), hst]
      · have hi1 : i = 8 := by omega
        subst hi1
        rw [← Nat.add_assoc]; exact part_next (by show so 8 (mg 8 back) l r k 8 = fullM 8 (mg 8 back) l ((r * 8 + k) / 8) ((r * 8 + k) % 8); rw [(hdm (by omega)).1, (hdm (by omega)).2]; rfl)
    · have hk1 : k = 8 := by omega
      rw [hk1, Nat.succ_mul]
  all_goals have hr1 : r = 8 := by omega
  all_goals subst hr1
  all_goals first | (rw [e]; exact congrArg _ (part_all _ _ _)) | (rw [e]; exact part_all _ _ _) | trace_state
end Go.Proofs.Ytgkeopmihhcbiaa

/- Contracts: what lies around a square, the predictions, residuals. No condition. -/
namespace Go.Proofs.Ytgkeopmihhcbiaa
open Go Go.Abs
set_option linter.unusedVariables false
set_option linter.unusedSimpArgs false
set_option maxRecDepth 100000
set_option maxHeartbeats 4000000
attribute [local irreducible] WpA WpL Rnd Blk Abs.Seq Abs.Fin Abs.FinG FnC FnG Only

/-! Sides. -/
def side (k : Nat) : Int := if k = 16 then 4 else if k = 64 then 8 else 0
theorem side_pos (k : Nat) : 0 < side k ↔ k = 16 ∨ k = 64 := by unfold side; split <;> (try split) <;> omega
theorem side_cases (k : Nat) : (k = 16 ∧ side k = 4) ∨ (k = 64 ∧ side k = 8) ∨ (k ≠ 16 ∧ k ≠ 64 ∧ side k = 0) := by unfold side; split <;> (try split) <;> omega
instance SizeOk_s : Con 210 (∀ n : Int, Fn 210 [I n] [] (B (decide (n = 4 ∨ n = 8)))) := ⟨fun n => by
  refine FnC.of_body tabOk Try.func210 Try.ntmps210 rfl (by decide +kernel) (by simp) fun G => ?_
  refine go (r := ?_); and_intros <;> intros <;> try exact True.intro
  all_goals simp_all⟩
instance SizeOk_c : Con 140 (∀ n : Int, Fn 140 [I n] [] (B (decide (n = 4 ∨ n = 8)))) := ⟨fun n => by
  refine FnC.of_body tabOk Try.func140 Try.ntmps140 rfl (by decide +kernel) (by simp) fun G => ?_
  refine go (r := ?_); and_intros <;> intros <;> try exact True.intro
  all_goals simp_all⟩
instance l9Side_s : Con 120 (∀ l : List Int, l.length ≤ 9223372036854775807 → Fn 120 [IL l] [] (I (side l.length))) := ⟨fun l hl => by
  refine FnC.of_body tabOk Try.func120 Try.ntmps120 rfl (by decide +kernel) (by simp) fun G => ?_
  have h := side_cases l.length
  refine go (r := ?_); and_intros <;> intros <;> try exact True.intro⟩
instance sizeOf_c : Con 98 (∀ k : Nat, Fn 98 [I k] [] (I (side k))) := ⟨fun k => by
  refine FnC.of_body tabOk Try.func98 Try.ntmps98 rfl (by decide +kernel) (by simp) fun G => ?_
  have h := side_cases k
  refine go (r := ?_); and_intros <;> intros <;> try exact True.intro⟩

/-! Sums. -/
def psum (l : List Int) (k : Nat) : Int := (l.take k).sum
instance Clone_c : Con 115 (∀ l : List Int, l.length ≤ 1099511627776 → Fn 115 [IL l] [XI l] (.own 0 0 0 l.length)) := ⟨fun l hl => by
  refine FnC.of_body tabOk Try.func115 Try.ntmps115 rfl (by decide +kernel) (by simp) fun G => ?_
  refine go (r := ?_); and_intros <;> intros <;> try exact True.intro
  all_goals (have e : l = [] := List.eq_nil_of_length_eq_zero (by omega)); subst e; rfl⟩
/-- The first i and the last i turned. -/
def revp (l : List Int) (i : Nat) : List Int := (List.range l.length).map fun k => if k < i ∨ l.length - 1 - k < i then l.getD (l.length - 1 - k) 0 else l.getD k 0
end Go.Proofs.Ytgkeopmihhcbiaa

/- Contracts: the order of a square's numbers, quantization. No condition. -/
namespace Go.Proofs.Ytgkeopmihhcbiaa
open Go Go.Abs
set_option linter.unusedVariables false
set_option linter.unusedSimpArgs false
set_option maxRecDepth 100000
set_option maxHeartbeats 4000000
attribute [local irreducible] WpA WpL Rnd Blk Abs.Seq Abs.Fin Abs.FinG FnC FnG Only

def scX (d k : Nat) : Int := if (d : Int) % 2 = 0 then (d : Int) - k else k
def scIn (n : Int) (d : Nat) : Nat → List Int → List Int
  | 0, o => o
  | k + 1, o => if scX d k < n ∧ (d : Int) - scX d k < n then scIn n d k o ++ [((d : Int) - scX d k) * n + scX d k] else scIn n d k o
def scOut (n : Int) : Nat → List Int
  | 0 => []
  | d + 1 => scIn n d (d + 1) (scOut n d)
def scanL (n : Int) : List Int := if n = 4 ∨ n = 8 then scOut n (2 * n - 1).toNat else []
theorem scIn_yes {n : Int} {d k : Nat} {o : List Int} {x v : Int} (hx : scX d k = x) (h1 : x < n) (h2 : (d : Int) - x < n) (hv : v = ((d : Int) - x) * n + x) : scIn n d k o ++ [v] = scIn n d (k + 1) o := by
  rw [scIn, hx, if_pos ⟨h1, h2⟩, hv]
theorem scIn_no {n : Int} {d k : Nat} {o : List Int} {x : Int} (hx : scX d k = x) (h : ¬ (x < n ∧ (d : Int) - x < n)) : scIn n d k o = scIn n d (k + 1) o := by
  rw [scIn, hx, if_neg h]
theorem scIn_len (n : Int) (d : Nat) (o : List Int) : ∀ k, (scIn n d k o).length ≤ o.length + k
  | 0 => by simp [scIn]
  | k + 1 => by rw [scIn]; have := scIn_len n d o k; split <;> (try rw [List.length_append, List.length_singleton]) <;> omega
theorem scOut_len (n : Int) : ∀ d, d ≤ 16 → (scOut n d).length ≤ 16 * d
  | 0, _ => by simp [scOut]
  | d + 1, h => by rw [scOut]; have := scIn_len n d (scOut n d) (d + 1); have := scOut_len n d (by omega); omega
theorem scX_even {d k : Nat} (h : (d : Int) % 2 = 0) : scX d k = d - k := by rw [scX, if_pos h]
theorem scX_odd {d k : Nat} (h : ¬ (d : Int) % 2 = 0) : scX d k = k := by rw [scX, if_neg h]
theorem scIn_l1 {n : Int} {d k : Nat} {o : List Int} (h : scX d k < n ∧ (d : Int) - scX d k < n) : (scIn n d (k + 1) o).length = (scIn n d k o).length + 1 := by rw [scIn, if_pos h, List.length_append, List.length_singleton]
theorem scIn_l0 {n : Int} {d k : Nat} {o : List Int} (h : ¬ (scX d k < n ∧ (d : Int) - scX d k < n)) : (scIn n d (k + 1) o).length = (scIn n d k o).length := by rw [scIn, if_neg h]
instance ScanOrder_s : Con 203 (∀ n : Int, n = 0 ∨ n = 4 ∨ n = 8 → Fn 203 [I n] [XI (scanL n)] (.own 0 0 0 (scanL n).length)) := ⟨fun n hn => by
  refine FnC.of_body tabOk Try.func203 Try.ntmps203 rfl (by decide +kernel) (by simp) fun G => ?_
  have key : n = 0 → scanL n = [] := by rintro rfl; decide
  have k4 : n = 4 → scanL n = scOut 4 7 := by rintro rfl; rfl
  have k8 : n = 8 → scanL n = scOut 8 15 := by rintro rfl; rfl
  rcases hn with rfl | rfl | rfl
  · refine go (r := ?_); and_intros <;> intros <;> try exact True.intro
    refine WpA.loop (fun d : Nat => ⟨[(0, I 0), (3, .own 0 0 0 0), (4, I 0)], [XI []]⟩) (fun d => d ≤ 0) (fun d => 16 - d) 0 (by simp) (go (r := trivial)) (fun d hd => ?_)
    refine go (r := ?_); and_intros <;> intros <;> try exact True.intro
    all_goals rfl
  · refine go (r := ?_); and_intros <;> intros <;> try exact True.intro
    refine WpA.loop (fun d : Nat => ⟨[(0, I 4), (3, .own 0 0 0 (scOut 4 d).length), (4, I d)], [XI (scOut 4 d)]⟩) (fun d => d ≤ 7) (fun d => 7 - d) 0 (by simp) (go (r := ?_)) (fun d hd => ?_)
    · simp [scOut]
    have hol := scOut_len 4 d (by omega)
    have hso : (scOut 4 (d + 1)) = scIn 4 d (d + 1) (scOut 4 d) := rfl
    refine go (r := ?_); and_intros <;> intros <;> try exact True.intro
    · refine WpA.loop (fun k : Nat => ⟨[(0, I 4), (3, .own 0 0 0 (scIn 4 d k (scOut 4 d)).length), (4, I d), (5, I k)], [XI (scIn 4 d k (scOut 4 d))]⟩) (fun k => k ≤ d + 1) (fun k => d + 1 - k) 0 (by omega) (go (r := ?_)) (fun k hk => ?_)
      · simp [scIn]
      have hil := scIn_len 4 d (scOut 4 d) k
      have he := scX_even (d := d) (k := k)
      have hod := scX_odd (d := d) (k := k)
      have hl1 := scIn_l1 (n := 4) (d := d) (k := k) (o := scOut 4 d)
      have hl0 := scIn_l0 (n := 4) (d := d) (k := k) (o := scOut 4 d)
      have hso2 : k = d + 1 → (scOut 4 (d + 1)).length = (scIn 4 d k (scOut 4 d)).length := by rintro rfl; rfl
      refine go (r := ?_); and_intros <;> intros <;> try exact True.intro
      all_goals first
        | (exact scIn_yes (he ‹_›) (by omega) (by omega) (by omega))
        | (exact scIn_yes (hod ‹_›) (by omega) (by omega) (by omega))
        | (exact scIn_no (he ‹_›) (by omega))
        | (exact scIn_no (hod ‹_›) (by omega))
        | skip
      all_goals have e : k = d + 1 := by omega
      all_goals subst e
      all_goals rw [hso]
    all_goals have e : d = 7 := by omega
    all_goals subst e
    all_goals first | rfl | (rw [k4 rfl])
  · refine go (r := ?_); and_intros <;> intros <;> try exact True.intro
    refine WpA.loop (fun d : Nat => ⟨[(0, I 8), (3, .own 0 0 0 (scOut 8 d).length), (4, I d)], [XI (scOut 8 d)]⟩) (fun d => d ≤ 15) (fun d => 15 - d) 0 (by simp) (go (r := ?_)) (fun d hd => ?_)
    · simp [scOut]
    have hol := scOut_len 8 d (by omega)
    have hso : (scOut 8 (d + 1)) = scIn 8 d (d + 1) (scOut 8 d) := rfl
    refine go (r := ?_); and_intros <;> intros <;> try exact True.intro
    · refine WpA.loop (fun k : Nat => ⟨[(0, I 8), (3, .own 0 0 0 (scIn 8 d k (scOut 8 d)).length), (4, I d), (5, I k)], [XI (scIn 8 d k (scOut 8 d))]⟩) (fun k => k ≤ d + 1) (fun k => d + 1 - k) 0 (by omega) (go (r := ?_)) (fun k hk => ?_)
      · simp [scIn]
      have hil := scIn_len 8 d (scOut 8 d) k
      have he := scX_even (d := d) (k := k)
      have hod := scX_odd (d := d) (k := k)
      have hl1 := scIn_l1 (n := 8) (d := d) (k := k) (o := scOut 8 d)
      have hl0 := scIn_l0 (n := 8) (d := d) (k := k) (o := scOut 8 d)
      have hso2 : k = d + 1 → (scOut 8 (d + 1)).length = (scIn 8 d k (scOut 8 d)).length := by rintro rfl; rfl
      refine go (r := ?_); and_intros <;> intros <;> try exact True.intro
      all_goals first
        | (exact scIn_yes (he ‹_›) (by omega) (by omega) (by omega))
        | (exact scIn_yes (hod ‹_›) (by omega) (by omega) (by omega))
        | (exact scIn_no (he ‹_›) (by omega))
        | (exact scIn_no (hod ‹_›) (by omega))
        | skip
      all_goals have e : k = d + 1 := by omega
      all_goals subst e
      all_goals rw [hso]
    all_goals have e : d = 15 := by omega
    all_goals subst e
    all_goals first | rfl | (rw [k8 rfl])⟩
instance ScanOrder_c : Con 109 (∀ n : Int, n = 0 ∨ n = 4 ∨ n = 8 → Fn 109 [I n] [XI (scanL n)] (.own 0 0 0 (scanL n).length)) := ⟨fun n hn => by
  refine FnC.of_body tabOk Try.func109 Try.ntmps109 rfl (by decide +kernel) (by simp) fun G => ?_
  have k4 : n = 4 → scanL n = scOut 4 7 := by rintro rfl; rfl
  have k8 : n = 8 → scanL n = scOut 8 15 := by rintro rfl; rfl
  rcases hn with rfl | rfl | rfl
  · refine go (r := ?_); and_intros <;> intros <;> try exact True.intro
    all_goals rfl
  · refine go (r := ?_); and_intros <;> intros <;> try exact True.intro
    refine WpA.loop (fun d : Nat => ⟨[(0, I 4), (3, .own 0 0 0 (scOut 4 d).length), (14, I 7), (15, I d)], [XI (scOut 4 d)]⟩) (fun d => d ≤ 7) (fun d => 7 - d) 0 (by simp) (go (r := ?_)) (fun d hd => ?_)
    · simp [scOut]
    have hol := scOut_len 4 d (by omega)
    have hso : (scOut 4 (d + 1)) = scIn 4 d (d + 1) (scOut 4 d) := rfl
    refine go (r := ?_); and_intros <;> intros <;> try exact True.intro
    · refine WpA.loop (fun k : Nat => ⟨[(0, I 4), (3, .own 0 0 0 (scIn 4 d k (scOut 4 d)).length), (4, I d), (14, I 7), (15, I d), (19, I ((d : Int) + 1)), (20, I k)], [XI (scIn 4 d k (scOut 4 d))]⟩) (fun k => k ≤ d + 1) (fun k => d + 1 - k) 0 (by omega) (go (r := ?_)) (fun k hk => ?_)
      · simp [scIn]
      have hil := scIn_len 4 d (scOut 4 d) k
      have he := scX_even (d := d) (k := k)
      have hod := scX_odd (d := d) (k := k)
      have hl1 := scIn_l1 (n := 4) (d := d) (k := k) (o := scOut 4 d)
      have hl0 := scIn_l0 (n := 4) (d := d) (k := k) (o := scOut 4 d)
      have hso2 : k = d + 1 → (scOut 4 (d + 1)).length = (scIn 4 d k (scOut 4 d)).length := by rintro rfl; rfl
      refine go (r := ?_); and_intros <;> intros <;> try exact True.intro
      all_goals first
        | (exact scIn_yes (he ‹_›) (by omega) (by omega) (by omega))
        | (exact scIn_yes (hod ‹_›) (by omega) (by omega) (by omega))
        | (exact scIn_no (he ‹_›) (by omega))
        | (exact scIn_no (hod ‹_›) (by omega))
        | skip
      all_goals have e : k = d + 1 := by omega
      all_goals subst e
      all_goals rw [hso]
    all_goals have e : d = 7 := by omega
    all_goals subst e
    all_goals first | rfl | (rw [k4 rfl])
  · refine go (r := ?_); and_intros <;> intros <;> try exact True.intro
    refine WpA.loop (fun d : Nat => ⟨[(0, I 8), (3, .own 0 0 0 (scOut 8 d).length), (14, I 15), (15, I d)], [XI (scOut 8 d)]⟩) (fun d => d ≤ 15) (fun d => 15 - d) 0 (by simp) (go (r := ?_)) (fun d hd => ?_)
    · simp [scOut]
    have hol := scOut_len 8 d (by omega)
    have hso : (scOut 8 (d + 1)) = scIn 8 d (d + 1) (scOut 8 d) := rfl
    refine go (r := ?_); and_intros <;> intros <;> try exact True.intro
    · refine WpA.loop (fun k : Nat => ⟨[(0, I 8), (3, .own 0 0 0 (scIn 8 d k (scOut 8 d)).length), (4, I d), (14, I 15), (15, I d), (19, I ((d : Int) + 1)), (20, I k)], [XI (scIn 8 d k (scOut 8 d))]⟩) (fun k => k ≤ d + 1) (fun k => d + 1 - k) 0 (by omega) (go (r := ?_)) (fun k hk => ?_)
      · simp [scIn]
      have hil := scIn_len 8 d (scOut 8 d) k
      have he := scX_even (d := d) (k := k)
      have hod := scX_odd (d := d) (k := k)
      have hl1 := scIn_l1 (n := 8) (d := d) (k := k) (o := scOut 8 d)
      have hl0 := scIn_l0 (n := 8) (d := d) (k := k) (o := scOut 8 d)
      have hso2 : k = d + 1 → (scOut 8 (d + 1)).length = (scIn 8 d k (scOut 8 d)).length := by rintro rfl; rfl
      refine go (r := ?_); and_intros <;> intros <;> try exact True.intro
      all_goals first
        | (exact scIn_yes (he ‹_›) (by omega) (by omega) (by omega))
        | (exact scIn_yes (hod ‹_›) (by omega) (by omega) (by omega))
        | (exact scIn_no (he ‹_›) (by omega))
        | (exact scIn_no (hod ‹_›) (by omega))
        | skip
      all_goals have e : k = d + 1 := by omega
      all_goals subst e
      all_goals rw [hso]
    all_goals have e : d = 15 := by omega
    all_goals subst e
    all_goals first | rfl | (rw [k8 rfl])⟩
theorem scan_rg (n : Int) (h : n = 0 ∨ n = 4 ∨ n = 8) : In (scanL n) 0 (n * n - 1) ∧ ((scanL n).length : Int) = n * n := by
  rcases h with rfl | rfl | rfl <;> decide +kernel
end Go.Proofs.Ytgkeopmihhcbiaa

/- Contracts: quantization, scanning. No condition. -/
namespace Go.Proofs.Ytgkeopmihhcbiaa
open Go Go.Abs
set_option linter.unusedVariables false
set_option linter.unusedSimpArgs false
set_option maxRecDepth 100000
set_option maxHeartbeats 4000000
attribute [local irreducible] WpA WpL Rnd Blk Abs.Seq Abs.Fin Abs.FinG FnC FnG Only

def nearL (s v : Int) : Int := if v < 0 then -((-v * 2 + s) / (2 * s)) else (v * 2 + s) / (2 * s)
def qz (s v : Int) : Int := max (-16383) (min 16383 (nearL s (clampM v)))
def quantL (l : List Int) (q : Int) : List Int := if 0 < side l.length ∧ 0 < stepL q then l.map (qz (stepL q)) else []
theorem near_bd {s v : Int} (hs : 1 ≤ s ∧ s ≤ 500) (hv : -1000000 ≤ v ∧ v ≤ 1000000) : -2000000 ≤ nearL s v ∧ nearL s v ≤ 2000000 := by
  unfold nearL
  have h1 : ∀ a : Int, 0 ≤ a → a ≤ 2000500 → 0 ≤ a / (2 * s) ∧ a / (2 * s) ≤ a / 2 := by
    intro a h0 h1
    refine ⟨Int.ediv_nonneg h0 (by omega), ?_⟩
    rw [Int.mul_comm, ← Int.ediv_ediv_of_nonneg (by omega)]
    have := Int.ediv_le_self s (show 0 ≤ a by omega)
    exact Int.ediv_le_ediv (by decide) this
  split
  · have := h1 (-v * 2 + s) (by omega) (by omega); omega
  · have := h1 (v * 2 + s) (by omega) (by omega); omega
instance l11Near_s : Con 209 (∀ v s : Int, (1 ≤ s ∧ s ≤ 500) ∧ -1000000 ≤ v ∧ v ≤ 1000000 → Fn 209 [I v, I s] [] (I (nearL s v))) := ⟨fun v s h => by
  have hb := near_bd h.1 h.2
  unfold nearL at hb
  by_cases hv : v < 0
  · rw [if_pos hv] at hb
    refine FnC.of_body tabOk Try.func209 Try.ntmps209 rfl (by decide +kernel) (by simp) fun G => ?_
    refine go (r := ?_); and_intros <;> intros <;> try exact True.intro
    rw [nearL, if_pos hv]
  · rw [if_neg hv] at hb
    refine FnC.of_body tabOk Try.func209 Try.ntmps209 rfl (by decide +kernel) (by simp) fun G => ?_
    refine go (r := ?_); and_intros <;> intros <;> try exact True.intro
    rw [nearL, if_neg hv]⟩
theorem qz_snoc (f : Int → Int) (l : List Int) (k : Nat) (h : k < l.length) : (l.take k).map f ++ [f (l.getD k 0)] = (l.take (k + 1)).map f := by
  rw [take_snoc l k h, List.map_append]; rfl
theorem clamp_bd (v : Int) : -1000000 ≤ clampM v ∧ clampM v ≤ 1000000 := by unfold clampM; omega
instance Quantized_s : Con 123 (∀ (l : List Int) (q : Int), l.length ≤ 1099511627776 → Fn 123 [IL l, I q] [XI (quantL l q)] (.own 0 0 0 (quantL l q).length)) := ⟨fun l q hl => by
  have hsl := stepL_pos q
  refine FnC.of_body tabOk Try.func123 Try.ntmps123 rfl (by decide +kernel) (by simp) fun G => ?_
  by_cases h : 0 < side l.length ∧ 0 < stepL q
  · have hs := stepL_in q (hsl.1 h.2)
    refine go (r := ?_); and_intros <;> intros <;> try exact True.intro
    refine WpA.loop (fun k : Nat => ⟨[(0, IL l), (1, I q), (5, .own 0 0 0 k), (6, I k)], [XI ((l.take k).map (qz (stepL q)))]⟩) (fun k => k ≤ l.length) (fun k => l.length - k) 0 (by omega) (go (r := ?_)) (fun k hk => ?_)
    · simp
    have hlk : ((l.take k).map (qz (stepL q))).length = k := by simp; omega
    have hcl := clamp_bd (l.getD k 0)
    unfold clampM at hcl
    refine go (r := ?_); and_intros <;> intros <;> try exact True.intro
    · rw [← qz_snoc _ l k (by omega)]; simp only [qz, clampM, Int.min_comm]
    all_goals have e : k = l.length := by omega
    all_goals subst e
    · rw [quantL, if_pos h, List.length_map]
    · rw [quantL, if_pos h, List.take_length]
  · have e : quantL l q = [] := by rw [quantL, if_neg h]
    refine go (r := ?_); and_intros <;> intros <;> try exact True.intro
    refine WpA.loop (fun k : Nat => ⟨[(0, IL l), (1, I q), (5, .own 0 0 0 0), (6, I 0)], [XI []]⟩) (fun k => k ≤ 0) (fun k => l.length - k) 0 (by omega) (go (r := trivial)) (fun k hk => ?_)
    have hx : 0 < side l.length → ¬ 0 < stepL q := fun a b => h ⟨a, b⟩
    by_cases h1 : 0 < side l.length
    · have h2 := hx h1
      refine go (r := ?_); and_intros <;> intros <;> try exact True.intro
      all_goals first | (rw [e]; done) | (rw [e]; rfl)
    · refine go (r := ?_); and_intros <;> intros <;> try exact True.intro
      all_goals first | (rw [e]; done) | (rw [e]; rfl)⟩
instance Quantized_c : Con 117 (∀ (l : List Int) (q : Int), l.length ≤ 1099511627776 → Fn 117 [IL l, I q] [XI (quantL l q)] (.own 0 0 0 (quantL l q).length)) := ⟨fun l q hl => by
  have hsl := stepL_pos q
  have hsd := side_cases l.length
  have hsn : ¬ 0 < stepL q → stepL q = 0 := fun hh => by
    rw [stepL]; split
    · rename_i hq; exact absurd (hsl.2 hq) hh
    · rfl
  refine FnC.of_body tabOk Try.func117 Try.ntmps117 rfl (by decide +kernel) (by simp) fun G => ?_
  by_cases h : 0 < side l.length ∧ 0 < stepL q
  · have hs := stepL_in q (hsl.1 h.2)
    refine go (r := ?_); and_intros <;> intros <;> try exact True.intro
    refine WpA.loop (fun k : Nat => ⟨[(5, I (stepL q)), (6, .own 0 0 0 k), (21, IL l), (22, I l.length), (23, I k)], [XI ((l.take k).map (qz (stepL q)))]⟩) (fun k => k ≤ l.length) (fun k => l.length - k) 0 (by omega) (go (r := ?_)) (fun k hk => ?_)
    · simp
    have hlk : ((l.take k).map (qz (stepL q))).length = k := by simp; omega
    have hcl := clamp_bd (l.getD k 0)
    have hnb := near_bd hs hcl
    unfold clampM at hcl hnb
    have hq2 : 2 * max (max (-1000000) (min (l.getD k 0) 1000000)) (-max (-1000000) (min (l.getD k 0) 1000000)) + stepL q = (if max (-1000000) (min (l.getD k 0) 1000000) < 0 then -max (-1000000) (min (l.getD k 0) 1000000) * 2 + stepL q else max (-1000000) (min (l.getD k 0) 1000000) * 2 + stepL q) := by split <;> omega
    by_cases hneg : max (-1000000) (min (l.getD k 0) 1000000) < 0
    · rw [if_pos hneg] at hq2
      rw [nearL, if_pos hneg, ← hq2] at hnb
      refine go (r := ?_); and_intros <;> intros <;> try exact True.intro
      · rw [← qz_snoc _ l k (by omega)]; simp only [qz, nearL, clampM, if_pos hneg, ← hq2, Int.min_comm]
      all_goals have e : k = l.length := by omega
      all_goals subst e
      · rw [quantL, if_pos h, List.length_map]
      · rw [quantL, if_pos h, List.take_length]
    · rw [if_neg hneg] at hq2
      rw [nearL, if_neg hneg, ← hq2] at hnb
      refine go (r := ?_); and_intros <;> intros <;> try exact True.intro
      · rw [← qz_snoc _ l k (by omega)]; simp only [qz, nearL, clampM, if_neg hneg, ← hq2, Int.min_comm]
      all_goals have e : k = l.length := by omega
      all_goals subst e
      · rw [quantL, if_pos h, List.length_map]
      · rw [quantL, if_pos h, List.take_length]
  · have e : quantL l q = [] := by rw [quantL, if_neg h]
    by_cases h1 : 0 < side l.length
    · have h2 : stepL q = 0 := hsn (fun hh => h ⟨h1, hh⟩)
      refine go (r := ?_); and_intros <;> intros <;> try exact True.intro
      all_goals first | (rw [e]; done) | (rw [e]; rfl)
    · have h2 : side l.length = 0 := by omega
      refine go (r := ?_); and_intros <;> intros <;> try exact True.intro
      all_goals first | (rw [e]; done) | (rw [e]; rfl)⟩
end Go.Proofs.Ytgkeopmihhcbiaa

/- Contracts: numbers in the order of the scan. No condition. -/
namespace Go.Proofs.Ytgkeopmihhcbiaa
open Go Go.Abs
set_option linter.unusedVariables false
set_option linter.unusedSimpArgs false
set_option maxRecDepth 100000
set_option maxHeartbeats 4000000
attribute [local irreducible] WpA WpL Rnd Blk Abs.Seq Abs.Fin Abs.FinG FnC FnG Only

def scnL (l : List Int) : List Int := (scanL (side l.length)).map fun p => l.getD p.toNat 0
theorem scnL_len (l : List Int) : (scnL l).length = (scanL (side l.length)).length := by simp [scnL]
theorem scan_fit (l : List Int) : In (scanL (side l.length)) 0 (l.length - 1) ∧ (scanL (side l.length)).length ≤ 64 := by
  rcases side_cases l.length with ⟨h, e⟩ | ⟨h, e⟩ | ⟨_, _, e⟩
  · have h2 := (scan_rg 4 (by omega)).2
    have h1 := (scan_rg 4 (by omega)).1
    rw [e, h]; exact ⟨h1, by omega⟩
  · have h2 := (scan_rg 8 (by omega)).2
    have h1 := (scan_rg 8 (by omega)).1
    rw [e, h]; exact ⟨h1, by omega⟩
  · rw [e]
    have h0 : scanL 0 = [] := rfl
    rw [h0]
    refine ⟨?_, by simp⟩
    unfold In; intro x hx; cases hx
instance Scanned_s : Con 122 (∀ l : List Int, l.length ≤ 1099511627776 → Fn 122 [IL l] [XI (scnL l)] (.own 0 0 0 (scnL l).length)) := ⟨fun l hl => by
  obtain ⟨hs1, hs2⟩ := scan_fit l
  have hsc := side_cases l.length
  have hsl := scnL_len l
  refine FnC.of_body tabOk Try.func122 Try.ntmps122 rfl (by decide +kernel) (by simp) fun G => ?_
  refine go (r := ?_); and_intros <;> intros <;> try exact True.intro
  refine WpA.loop (fun k : Nat => ⟨[(0, IL l), (3, .own 0 0 0 k), (4, .own 1 0 0 (scanL (side l.length)).length), (5, I k)], [XI (((scanL (side l.length)).take k).map fun p => l.getD p.toNat 0), XI (scanL (side l.length))]⟩) (fun k => k ≤ (scanL (side l.length)).length) (fun k => (scanL (side l.length)).length - k) 0 (by omega) (go (r := ?_)) (fun k hk => ?_)
  · simp
  have hg := fun h => in_get hs1 (k := ((k : Int)).toNat) h
  have hq := fun h => qz_snoc (fun p : Int => l.getD p.toNat 0) (scanL (side l.length)) k h
  have hkl : (((scanL (side l.length)).take k).map fun p => l.getD p.toNat 0).length = k := by simp; omega
  refine go (r := ?_); and_intros <;> intros <;> try exact True.intro
  · rename_i hk1
    rw [← hq (by omega)]; rfl
  · have e : k = (scanL (side l.length)).length := by omega
    rw [e, List.take_length]; rfl⟩
instance Scanned_c : Con 40 (∀ l : List Int, l.length ≤ 1099511627776 → Fn 40 [IL l] [XI (scnL l)] (.own 0 0 0 (scnL l).length)) := ⟨fun l hl => by
  obtain ⟨hs1, hs2⟩ := scan_fit l
  have hsc := side_cases l.length
  have hsl := scnL_len l
  refine FnC.of_body tabOk Try.func40 Try.ntmps40 rfl (by decide +kernel) (by simp) fun G => ?_
  refine go (r := ?_); and_intros <;> intros <;> try exact True.intro
  refine WpA.loop (fun k : Nat => ⟨[(0, IL l), (3, .own 0 0 0 k), (10, .own 1 0 0 (scanL (side l.length)).length), (11, I (scanL (side l.length)).length), (12, I k)], [XI (((scanL (side l.length)).take k).map fun p => l.getD p.toNat 0), XI (scanL (side l.length))]⟩) (fun k => k ≤ (scanL (side l.length)).length) (fun k => (scanL (side l.length)).length - k) 0 (by omega) (go (r := ?_)) (fun k hk => ?_)
  · simp
  have hg := fun h => in_get hs1 (k := ((k : Int)).toNat) h
  have hg2 := fun h => in_get hs1 (k := k) h
  have hq := fun h => qz_snoc (fun p : Int => l.getD p.toNat 0) (scanL (side l.length)) k h
  have hkl : (((scanL (side l.length)).take k).map fun p => l.getD p.toNat 0).length = k := by simp; omega
  refine go (r := ?_); and_intros <;> intros <;> try exact True.intro
  · rename_i hk1
    rw [← hq (by omega)]; rfl
  · have e : k = (scanL (side l.length)).length := by omega
    rw [e, List.take_length]; rfl⟩
end Go.Proofs.Ytgkeopmihhcbiaa

/- Contracts of the laws' own functions over numbers, truth values, options, headers, blocks, macroblocks, streams: sizes, copies, comparisons, marks. No condition. -/
namespace Go.Proofs.Ytgkeopmihhcbiaa
open Go Go.Abs
set_option linter.unusedVariables false
set_option linter.unusedSimpArgs false
set_option maxRecDepth 100000
set_option maxHeartbeats 4000000
attribute [local irreducible] WpA WpL Rnd Blk Abs.Seq Abs.Fin Abs.FinG FnC FnG Only

def marksI (k : Int) (n : Nat) : List Int := (List.range n).map fun i : Nat => k + (i : Int)
@[simp] theorem marksI_len (k : Int) (n : Nat) : (marksI k n).length = n := by simp [marksI]
def marksB (k : Int) (n : Nat) : List Bool := (List.range n).map fun i : Nat => decide ((k + (i : Int)) % 3 = 0)
@[simp] theorem marksB_len (k : Int) (n : Nat) : (marksB k n).length = n := by simp [marksB]
/-! Options. -/
end Go.Proofs.Ytgkeopmihhcbiaa

/- Contracts: the transforms straight on; the levels of a residual; the law FnExactLevelsFor. No condition. -/
namespace Go.Proofs.Ytgkeopmihhcbiaa
open Go Go.Abs
set_option linter.unusedVariables false
set_option linter.unusedSimpArgs false
set_option maxRecDepth 100000
set_option maxHeartbeats 4000000
attribute [local irreducible] WpA WpL Rnd Blk Abs.Seq Abs.Fin Abs.FinG FnC FnG Only

abbrev FitM (l : List Int) : Prop := In l (-1000000000) 1000000000
instance l12Fits_s : Con 121 (∀ (l : List Int) (n : Int), l.length ≤ 1099511627776 ∧ 0 ≤ n ∧ n ≤ 8 → Fn 121 [IL l, I n] [] (B (decide (FitM l ∧ (l.length : Int) = n * n)))) := ⟨fun l n hl => by
  have hnn := mul_in (a := n) (b := n) (by omega) (by omega)
  refine FnC.of_body tabOk Try.func121 Try.ntmps121 rfl (by decide +kernel) (by simp) fun G => ?_
  refine go (r := ?_); and_intros <;> intros <;> try exact True.intro
  refine WpA.loop (fun k : Nat => ⟨[(0, IL l), (1, I n), (5, I k)], []⟩) (fun k => k ≤ l.length ∧ In (l.take k) (-1000000000) 1000000000) (fun k => l.length - k) 0 (by simp [in_nil]) (go (r := ?_)) (fun k hk => ?_)
  · trivial
  refine go (r := ?_); and_intros <;> intros <;> try exact True.intro
  · rename_i h1 h2
    symm; rw [decide_eq_false_iff_not]; exact fun hh => h2 (in_get hh.1 (by omega))
  · rw [in_snoc (by omega)]; simp_all
  · have e : k = l.length := by omega
    subst e
    have h3 := hk.2
    rw [List.take_length] at h3
    simp [h3]⟩
instance l12Mul_s : Con 241 (∀ (l : List Int) (n : Int) (b : Bool), (n = 4 ∨ n = 8) ∧ (l.length : Int) = n * n ∧ FitM l → Fn 241 [IL l, I n, B b] [XI (mulM n.toNat (mg n.toNat b) l)] (.own 0 0 0 (mulM n.toNat (mg n.toNat b) l).length)) := ⟨fun l n b h => by
  obtain ⟨rfl | rfl, h1, h2⟩ := h
  · exact l12Mul_4 b l ⟨by omega, h2⟩
  · exact l12Mul_8 b l ⟨by omega, h2⟩⟩
theorem prodL_le {n : Nat} {g : Nat → Nat → Int} {l : List Int} (h : n ≤ 8) : (prodL n g l).length ≤ 64 := by
  have := prodL_len n g l
  have h2 : n * n ≤ 8 * 8 := Nat.mul_le_mul h h
  split at this <;> omega
def trL (n : Int) (b : Bool) (l : List Int) : List Int := prodL n.toNat (mg n.toNat b) l
theorem trL_le {n : Int} {b : Bool} {l : List Int} (h : n ≤ 8) : (trL n b l).length ≤ 64 := prodL_le (by omega)
theorem trL_yes {n : Int} {b : Bool} {l : List Int} (h : n = 4 ∨ n = 8) (h1 : FitM l ∧ (l.length : Int) = n * n) : trL n b l = mulM n.toNat (mg n.toNat b) l := by
  rw [trL, prodL, if_pos]
  refine ⟨?_, h1.1⟩
  have := h1.2
  rcases h with rfl | rfl
  · show l.length = 16; omega
  · show l.length = 64; omega
theorem trL_no {n : Int} {b : Bool} {l : List Int} (h : n = 4 ∨ n = 8) (h1 : ¬ (FitM l ∧ (l.length : Int) = n * n)) : trL n b l = [] := by
  rw [trL, prodL, if_neg]
  intro hh; apply h1
  refine ⟨hh.2, ?_⟩
  rcases h with rfl | rfl
  · have : l.length = 16 := hh.1
    omega
  · have : l.length = 64 := hh.1
    omega
instance l12Some_s : Con 205 (∀ (l : List Int) (n : Int) (b : Bool), (n = 4 ∨ n = 8) ∧ l.length ≤ 1099511627776 → Fn 205 [IL l, I n, B b] [XI (trL n b l)] (.own 0 0 0 (trL n b l).length)) := ⟨fun l n b h => by
  have hn := h.1
  have hfl := trL_yes (b := b) (l := l) hn
  refine FnC.of_body tabOk Try.func205 Try.ntmps205 rfl (by decide +kernel) (by simp) fun G => ?_
  refine go (r := ?_); and_intros <;> intros <;> try exact True.intro
  all_goals first | (rw [trL_no h.1 (by assumption)]; done) | (rw [trL_no h.1 (by assumption)]; rfl) | (rw [hfl (by assumption)]; done) | (exact (‹_ ∧ _›).1) | trace_state⟩
instance Forward4_s : Con 124 (∀ l : List Int, l.length ≤ 1099511627776 → Fn 124 [IL l] [XI (trL 4 false l)] (.own 0 0 0 (trL 4 false l).length)) := ⟨fun l h => by
  refine FnC.of_body tabOk Try.func124 Try.ntmps124 rfl (by decide +kernel) (by simp) fun G => ?_
  refine go (r := ?_); and_intros <;> intros <;> try exact True.intro⟩
instance Forward8_s : Con 125 (∀ l : List Int, l.length ≤ 1099511627776 → Fn 125 [IL l] [XI (trL 8 false l)] (.own 0 0 0 (trL 8 false l).length)) := ⟨fun l h => by
  refine FnC.of_body tabOk Try.func125 Try.ntmps125 rfl (by decide +kernel) (by simp) fun G => ?_
  refine go (r := ?_); and_intros <;> intros <;> try exact True.intro⟩
instance Inverse4_s : Con 106 (∀ l : List Int, l.length ≤ 1099511627776 → Fn 106 [IL l] [XI (trL 4 true l)] (.own 0 0 0 (trL 4 true l).length)) := ⟨fun l h => by
  refine FnC.of_body tabOk Try.func106 Try.ntmps106 rfl (by decide +kernel) (by simp) fun G => ?_
  refine go (r := ?_); and_intros <;> intros <;> try exact True.intro⟩
instance Inverse8_s : Con 108 (∀ l : List Int, l.length ≤ 1099511627776 → Fn 108 [IL l] [XI (trL 8 true l)] (.own 0 0 0 (trL 8 true l).length)) := ⟨fun l h => by
  refine FnC.of_body tabOk Try.func108 Try.ntmps108 rfl (by decide +kernel) (by simp) fun G => ?_
  refine go (r := ?_); and_intros <;> intros <;> try exact True.intro⟩

/-! By the program. -/
def gOf (M : List (List Int)) (r i : Nat) : Int := (M.getD r default).getD i 0
def MatOk (n : Nat) (M : List (List Int)) : Prop := M.length = n ∧ (∀ r, r < n → (M.getD r default).length = n) ∧ Sgn (gOf M)
instance product_c : Con 199 (∀ (n : Nat) (M : List (List Int)) (l : List Int), (n = 4 ∨ n = 8) ∧ MatOk n M ∧ l.length ≤ 1099511627776 → Fn 199 [LLn n M, IL l] [XI (prodL n (gOf M) l)] (.own 0 0 0 (prodL n (gOf M) l).length)) := ⟨fun n M l h => by
  obtain ⟨rfl | rfl, h1, h2⟩ := h
  · exact product_4 (gOf M) M l h1.2.2 ⟨h1.1, h1.2.1, fun _ _ _ _ => rfl⟩ h2
  · exact product_8 (gOf M) M l h1.2.2 ⟨h1.1, h1.2.1, fun _ _ _ _ => rfl⟩ h2⟩
theorem sumF_congr {f g : Nat → Int} : ∀ k, (∀ i, i < k → f i = g i) → sumF f k = sumF g k
  | 0, _ => rfl
  | k + 1, h => by rw [sumF, sumF, sumF_congr k (fun i hi => h i (by omega)), h k (by omega)]
theorem prodL_congr {n : Nat} {f g : Nat → Nat → Int} {l : List Int} (hn : 0 < n) (h : ∀ r i, r < n → i < n → f r i = g r i) : prodL n f l = prodL n g l := by
  have hm : mulM n f l = mulM n g l := by
    refine list_ext (N := n * n) (tabL_len _ _) (tabL_len _ _) fun q hq => ?_
    unfold mulM
    rw [tabL_get hq, tabL_get hq]
    have h1 : q / n < n := Nat.div_lt_of_lt_mul hq
    have h2 : q % n < n := Nat.mod_lt _ hn
    refine sumF_congr n fun i hi => ?_
    rw [h _ _ h2 hi]
    congr 1
    exact sumF_congr n fun j hj => by rw [h _ _ h1 hj]
  unfold prodL; rw [hm]
theorem A4_ok : MatOk 4 A4 := by
  refine ⟨rfl, ?_, fun r i => mx_val 4 r i⟩
  intro r hr
  rcases (by omega : r = 0 ∨ r = 1 ∨ r = 2 ∨ r = 3) with rfl | rfl | rfl | rfl <;> rfl
theorem H8_row {r : Nat} (h : r < 8) : H8.getD r default = tabL (mx 8 r) 8 := by
  simp [H8, h]
theorem gOf_H8 {r i : Nat} (h : r < 8) (h2 : i < 8) : gOf H8 r i = mx 8 r i := by
  rw [gOf, H8_row h, tabL_get h2]
theorem H8_ok : MatOk 8 H8 := by
  refine ⟨by simp [H8], fun r hr => by rw [H8_row hr, tabL_len], fun r i => ?_⟩
  by_cases h : r < 8
  · by_cases h2 : i < 8
    · rw [gOf_H8 h h2]; exact mx_val 8 r i
    · right; right; left
      rw [gOf, H8_row h, List.getD_eq_getElem?_getD, List.getElem?_eq_none (by rw [tabL_len]; omega)]; rfl
  · right; right; left
    have : H8.getD r default = [] := by rw [List.getD_eq_getElem?_getD, List.getElem?_eq_none (by simp [H8]; omega)]; rfl
    rw [gOf, this]; rfl
theorem trA4 (l : List Int) : prodL 4 (gOf A4) l = trL 4 false l := rfl
theorem trH8 (l : List Int) : prodL 8 (gOf H8) l = trL 8 false l := prodL_congr (by decide) fun r i hr hi => gOf_H8 hr hi
instance Forward4_c : Con 118 (∀ l : List Int, l.length ≤ 1099511627776 → Fn 118 [IL l] [XI (trL 4 false l)] (.own 0 0 0 (trL 4 false l).length)) := ⟨fun l h => by
  have hA := A4_ok
  rw [← trA4]
  refine FnC.of_body tabOk Try.func118 Try.ntmps118 rfl (by decide +kernel) (by simp) fun G => ?_
  refine go (r := ?_); and_intros <;> intros <;> try exact True.intro
  refine K.call ?_
  refine K.con (fun hcon => ?_)
  refine WpL.callF (hcon 4 A4 l ⟨by decide, hA, h⟩) snapA locA outA rfl rfl rfl (by decide) ?_
  refine go (r := ?_); and_intros <;> intros <;> try exact True.intro⟩
instance Forward8_c : Con 119 (∀ l : List Int, l.length ≤ 1099511627776 → Fn 119 [IL l] [XI (trL 8 false l)] (.own 0 0 0 (trL 8 false l).length)) := ⟨fun l h => by
  have hA := H8_ok
  rw [← trH8]
  refine FnC.of_body tabOk Try.func119 Try.ntmps119 rfl (by decide +kernel) (by simp) fun G => ?_
  refine go (r := ?_); and_intros <;> intros <;> try exact True.intro
  refine K.call ?_
  refine K.con (fun hcon => ?_)
  refine WpL.callF (hcon 8 H8 l ⟨by decide, hA, h⟩) snapA locA outA rfl rfl rfl (by decide) ?_
  refine go (r := ?_); and_intros <;> intros <;> try exact True.intro⟩

/-! Levels. -/
def clampL (v : Int) : Int := max (-16383) (min 16383 v)
def levL (b : Bool) (q : Int) (l r : List Int) : List Int := if OptOk q l ∧ 0 < side r.length ∧ FitM r then
  (if b = true then scnL (r.map clampL) else scnL (quantL (trL (side r.length) false r) q)) else []
theorem quantL_le (l : List Int) (q : Int) : (quantL l q).length ≤ l.length := by unfold quantL; split <;> simp
theorem scn_le (l : List Int) : (scnL l).length ≤ 64 := by rw [scnL_len]; exact (scan_fit l).2
theorem levL_le (b : Bool) (q : Int) (l r : List Int) : (levL b q l r).length ≤ 64 := by
  unfold levL; split
  · split <;> exact scn_le _
  · simp
theorem clampL_snoc (l : List Int) (k : Nat) (h : k < l.length) : (l.take k).map clampL ++ [clampL (l.getD k 0)] = (l.take (k + 1)).map clampL := qz_snoc clampL l k h
instance LevelsFor_s : Con 43 (∀ (q : Int) (b d : Bool) (l m : List Int) (e : List Bool) (r : List Int), l.length ≤ 1099511627776 ∧ r.length ≤ 1099511627776 → Fn 43 [OpA q b d l m e, IL r] [XI (levL b q l r)] (.own 0 0 0 (levL b q l r).length)) := ⟨fun q b d l m e r hl => by
  have hsc := side_cases r.length
  have ht4 := trL_le (n := 4) (b := false) (l := r) (by decide)
  have ht8 := trL_le (n := 8) (b := false) (l := r) (by decide)
  have hq4 := quantL_le (trL 4 false r) q
  have hq8 := quantL_le (trL 8 false r) q
  refine FnC.of_body tabOk Try.func43 Try.ntmps43 rfl (by decide +kernel) (by simp) fun G => ?_
  by_cases h : OptOk q l ∧ 0 < side r.length ∧ FitM r
  · obtain ⟨h1, h2, h3⟩ := id h
    have h4 : (r.length : Int) = side r.length * side r.length := by rcases hsc with ⟨a, b⟩ | ⟨a, b⟩ | ⟨_, _, b⟩ <;> rw [b] <;> omega
    have h5 := And.intro h3 h4
    have he : levL b q l r = if b = true then scnL (r.map clampL) else scnL (quantL (trL (side r.length) false r) q) := by rw [levL, if_pos h]
    have hb1 : b = true → levL b q l r = scnL (r.map clampL) := fun h => by rw [he, if_pos h]
    have hb4 : b = false → (r.length : Int) = 16 → levL b q l r = scnL (quantL (trL 4 false r) q) := fun h hh => by
      have hs4 : side r.length = 4 := by omega
      rw [he, if_neg (by simp [h]), hs4]
    have hb8 : b = false → ¬ (r.length : Int) = 16 → levL b q l r = scnL (quantL (trL 8 false r) q) := fun h hh => by
      have hs4 : side r.length = 8 := by omega
      rw [he, if_neg (by simp [h]), hs4]
    refine go (r := ?_); and_intros <;> intros <;> try exact True.intro
    · rename_i hb
      refine WpA.loop (fun k : Nat => ⟨[(1, IL r), (5, .own 1 0 0 k), (6, I k)], [OpO q b d l m e, XI ((r.take k).map clampL)]⟩) (fun k => k ≤ r.length) (fun k => r.length - k) 0 (by omega) (go (r := ?_)) (fun k hk => ?_)
      · simp
      have hkl : ((r.take k).map clampL).length = k := by simp; omega
      have hcs := clampL_snoc r k
      refine go (r := ?_); and_intros <;> intros <;> try exact True.intro
      · rw [← hcs (by omega)]; rfl
      all_goals have ek : k = r.length := by omega
      all_goals subst ek
      all_goals rw [hb1 hb, List.take_length]
    all_goals first | (rw [hb4 (by assumption) (by assumption)]; done) | (rw [hb8 (by assumption) (by assumption)]; done) | trace_state
  · have he : levL b q l r = [] := by rw [levL, if_neg h]
    refine go (r := ?_); and_intros <;> intros <;> try exact True.intro
    all_goals first | (rw [he]; done) | (rw [he]; rfl) | (exact absurd ⟨by assumption, by omega, And.left (by assumption)⟩ h) | trace_state⟩
theorem clampL_map (r : List Int) : (List.range r.length).map (fun i => clampL (r.getD i 0)) = r.map clampL := by
  apply List.ext_getElem (by simp)
  intro i h1 h2
  simp at h1
  simp [h1]
theorem clampL_min (v : Int) : max (-16383) (min v 16383) = clampL v := by unfold clampL; rw [Int.min_comm]
instance LevelsFor_c : Con 42 (∀ (q : Int) (b d : Bool) (l m : List Int) (e : List Bool) (r : List Int), l.length ≤ 1099511627776 ∧ r.length ≤ 1099511627776 → Fn 42 [OpA q b d l m e, IL r] [XI (levL b q l r)] (.own 0 0 0 (levL b q l r).length)) := ⟨fun q b d l m e r hl => by
  have hsc := side_cases r.length
  have ht4 := trL_le (n := 4) (b := false) (l := r) (by decide)
  have ht8 := trL_le (n := 8) (b := false) (l := r) (by decide)
  have hq4 := quantL_le (trL 4 false r) q
  have hq8 := quantL_le (trL 8 false r) q
  refine FnC.of_body tabOk Try.func42 Try.ntmps42 rfl (by decide +kernel) (by simp) fun G => ?_
  by_cases h : OptOk q l ∧ 0 < side r.length ∧ FitM r
  · obtain ⟨h1, h2, h3⟩ := id h
    have he : levL b q l r = if b = true then scnL (r.map clampL) else scnL (quantL (trL (side r.length) false r) q) := by rw [levL, if_pos h]
    have hb1 : b = true → levL b q l r = scnL (r.map clampL) := fun h => by rw [he, if_pos h]
    have hb4 : b = false → (r.length : Int) = 16 → levL b q l r = scnL (quantL (trL 4 false r) q) := fun h hh => by
      have hs4 : side r.length = 4 := by omega
      rw [he, if_neg (by simp [h]), hs4]
    have hb8 : b = false → ¬ (r.length : Int) = 16 → levL b q l r = scnL (quantL (trL 8 false r) q) := fun h hh => by
      have hs4 : side r.length = 8 := by omega
      rw [he, if_neg (by simp [h]), hs4]
    refine go (r := ?_); and_intros <;> intros <;> try exact True.intro
    · rename_i hb
      refine WpA.loop (fun k : Nat => ⟨[(5, .own 1 0 0 r.length), (26, .own 1 0 0 r.length), (27, I r.length), (28, I k)], [OpO q b d l m e, XI ((List.range k).map (fun i => clampL (r.getD i 0)) ++ r.drop k)]⟩) (fun k => k ≤ r.length) (fun k => r.length - k) 0 (by omega) (go (r := ?_)) (fun k hk => ?_)
      · simp
      have hkl : ((List.range k).map (fun i => clampL (r.getD i 0)) ++ r.drop k).length = r.length := by simp; omega
      have hms := mark_step (fun i => clampL (r.getD i 0)) r k
      refine go (r := ?_); and_intros <;> intros <;> try exact True.intro
      · rename_i hk1
        have hk2 : k < r.length := by omega
        have hgd : ((List.range k).map (fun i => clampL (r.getD i 0)) ++ r.drop k).getD k 0 = r.getD k 0 := by
          rw [List.getD_eq_getElem?_getD, List.getElem?_append_right (by simp), List.getElem?_drop]; simp
        rw [Int.toNat_natCast, hgd, clampL_min]; exact hms hk2
      all_goals have ek : k = r.length := by omega
      all_goals rw [ek, clampL_map, List.drop_length, List.append_nil, hb1 hb]
    all_goals first | (rw [hb4 (by assumption) (by assumption)]; done) | (rw [hb8 (by assumption) (by assumption)]; done) | trace_state
  · have he : levL b q l r = [] := by rw [levL, if_neg h]
    refine go (r := ?_); and_intros <;> intros <;> try exact True.intro
    all_goals first | (rw [he]; done) | (rw [he]; rfl) | (exact absurd ⟨by assumption, by omega, by assumption⟩ h) | trace_state⟩
end Go.Proofs.Ytgkeopmihhcbiaa

/- Contracts of the counts over a stream, and of the laws FnExactNonZeros and FnExactModeCounts. No condition. -/
namespace Go.Proofs.Ytgkeopmihhcbiaa
open Go Go.Abs
set_option linter.unusedVariables false
set_option linter.unusedSimpArgs false
set_option maxRecDepth 100000
set_option maxHeartbeats 4000000
attribute [local irreducible] WpA WpL Rnd Blk Abs.Seq Abs.Fin Abs.FinG FnC FnG Only

def nz1 (x : Int) : Nat := if x = 0 then 0 else 1
def nzB (b : Blok) : Nat := (b.2.map nz1).sum
def nzM (m : Mbk) : Nat := (m.2.map nzB).sum
/-! How often each mode occurs. -/
def modeNames : List (List UInt8) := [[109, 101, 97, 110], [100, 111, 119, 110], [97, 99, 114, 111, 115, 115], [115, 108, 111, 112, 101], [108, 101, 102, 116], [114, 105, 103, 104, 116]]
def modeW (m : Int) : List UInt8 := if 0 ≤ m ∧ m ≤ 5 then modeNames.getD m.toNat [] else []
def addAt (c : List Int) (m : Int) : List Int := if 0 ≤ m ∧ m ≤ 5 then c.set m.toNat (c.getD m.toNat 0 + 1) else c
def mcB (c : List Int) (bs : List Blok) (k : Nat) : List Int := (bs.take k).foldl (fun c b => addAt c b.1) c
def mcM (M : List Mbk) (i : Nat) : List Int := (M.take i).foldl (fun c m => mcB c m.2 m.2.length) [0, 0, 0, 0, 0, 0]
end Go.Proofs.Ytgkeopmihhcbiaa

/- Contracts: headers, levels, blocks, macroblocks, streams that are right. No condition. -/
namespace Go.Proofs.Ytgkeopmihhcbiaa
open Go Go.Abs
set_option linter.unusedVariables false
set_option linter.unusedSimpArgs false
set_option maxRecDepth 100000
set_option maxHeartbeats 4000000
attribute [local irreducible] WpA WpL Rnd Blk Abs.Seq Abs.Fin Abs.FinG FnC FnG Only

/-! Headers. -/
abbrev HdOk (w h q : Int) (l : List Int) : Prop := SidesOk w h ∧ (0 ≤ q ∧ q ≤ 51) ∧ CodeOk l
def cntM (w h : Int) : Int := w / 8 * (h / 8)
/-! Levels. -/
abbrev LvOk (l : List Int) : Prop := In l (-16383) 16383 ∧ (l.length = 16 ∨ l.length = 64)
instance LevelsOk_s : Con 102 (∀ l : List Int, l.length ≤ 1099511627776 → Fn 102 [IL l] [] (B (decide (LvOk l)))) := ⟨fun l hl => by
  have hsp := side_pos l.length
  refine FnC.of_body tabOk Try.func102 Try.ntmps102 rfl (by decide +kernel) (by simp) fun G => ?_
  refine go (r := ?_); and_intros <;> intros <;> try exact True.intro
  refine WpA.loop (fun k : Nat => ⟨[(0, IL l), (3, I k)], []⟩) (fun k => k ≤ l.length ∧ In (l.take k) (-16383) 16383) (fun k => l.length - k) 0 (by simp [in_nil]) (go (r := ?_)) (fun k hk => ?_)
  · trivial
  have hi := fun h => in_snoc (lo := -16383) (hi := 16383) (l := l) (k := k) h
  refine go (r := ?_); and_intros <;> intros <;> try exact True.intro
  · have := notin (k := k) (by omega) ‹¬ (-16383 ≤ l.getD k 0 ∧ _)›; rw [eq_comm, decide_eq_false_iff_not] at *; exact fun h => this h.1
  · rw [hi (by omega)]; exact ⟨hk.2, ‹_›⟩
  all_goals have e : k = l.length := by omega
  all_goals subst e
  all_goals rw [List.take_length] at *
  simp [hk.2, hsp]⟩
instance LevelsOk_c : Con 45 (∀ l : List Int, l.length ≤ 1099511627776 → Fn 45 [IL l] [] (B (decide (LvOk l)))) := ⟨fun l hl => by
  have hsp := side_pos l.length
  refine FnC.of_body tabOk Try.func45 Try.ntmps45 rfl (by decide +kernel) (by simp) fun G => ?_
  refine go (r := ?_); and_intros <;> intros <;> try exact True.intro
  refine WpA.loop (fun k : Nat => ⟨[(0, IL l), (5, IL l), (6, I l.length), (7, I k)], []⟩) (fun k => k ≤ l.length ∧ In (l.take k) (-16383) 16383) (fun k => l.length - k) 0 (by simp [in_nil]) (go (r := ?_)) (fun k hk => ?_)
  · trivial
  have hi := fun h => in_snoc (lo := -16383) (hi := 16383) (l := l) (k := k) h
  refine go (r := ?_); and_intros <;> intros <;> try exact True.intro
  · have := notin (k := k) (by omega) ‹¬ (-16383 ≤ l.getD k 0 ∧ _)›; rw [eq_comm, decide_eq_false_iff_not] at *; exact fun h => this h.1
  · rw [hi (by omega)]; exact ⟨hk.2, ‹_›⟩
  all_goals have e : k = l.length := by omega
  all_goals subst e
  all_goals rw [List.take_length] at *
  simp [hk.2, hsp]⟩

/-! Blocks. -/
abbrev BlkOk (m : Int) (lv : List Int) (lens : List Int) (n : Int) : Prop := (n = 4 ∨ n = 8) ∧ HasC lens m ∧ (lv.length : Int) = n * n ∧ LvOk lv
/-! The first place that passes a test. -/
def ixF {α : Type} (p : α → Bool) (l : List α) : Int := if l.any p = true then (l.findIdx p : Int) else -1
/-! Macroblocks. -/
def badB (lens : List Int) (n : Int) (b : Blok) : Bool := decide (¬ BlkOk b.1 b.2 lens n)
abbrev fB (lens : List Int) (n : Int) : AV := .fn 133 [.iptr [IL lens] 0, .iptr [I n] 0]
end Go.Proofs.Ytgkeopmihhcbiaa

/- Plain: levels placed in a square, scaled, rounded; residuals. No condition. -/
namespace Go.Proofs.Ytgkeopmihhcbiaa
open Go Go.Abs
set_option linter.unusedVariables false
set_option linter.unusedSimpArgs false
set_option maxRecDepth 100000

/-- So many levels placed. -/
def plcK (o l : List Int) : Nat → List Int
  | 0 => List.replicate o.length 0
  | k + 1 => (plcK o l k).set (o.getD k 0).toNat (l.getD k 0)
def plcL (l : List Int) : List Int := plcK (scanL (side l.length)) l (scanL (side l.length)).length
theorem plcK_len (o l : List Int) : ∀ k, (plcK o l k).length = o.length
  | 0 => by simp [plcK]
  | k + 1 => by rw [plcK, List.length_set]; exact plcK_len o l k
theorem plcL_len (l : List Int) : (plcL l).length = (scanL (side l.length)).length := plcK_len _ _ _
theorem plcK_in {o l : List Int} {c : Int} (hc : 0 ≤ c) (h : In l (-c) c) : ∀ k, In (plcK o l k) (-c) c
  | 0 => in_all fun j hj => by
    rw [plcK, List.getD_eq_getElem?_getD, List.getElem?_replicate]
    split <;> simp <;> omega
  | k + 1 => in_all fun j hj => by
    rw [plcK, List.getD_eq_getElem?_getD, List.getElem?_set]
    split
    · split
      · exact in_getZ h hc k
      · simp; omega
    · have := in_getZ (plcK_in (o := o) hc h k) hc j
      rw [List.getD_eq_getElem?_getD] at this; exact this
theorem plcL_ok {l : List Int} (h : LvOk l) : LvOk (plcL l) := by
  refine ⟨plcK_in (by decide) h.1 _, ?_⟩
  rw [plcL_len]
  rcases h.2 with e | e
  · rw [e]; exact .inl (by have := (scan_rg 4 (by omega)).2; show (scanL 4).length = 16; omega)
  · rw [e]; exact .inr (by have := (scan_rg 8 (by omega)).2; show (scanL 8).length = 64; omega)
theorem plcL_len2 {l : List Int} (h : l.length = 16 ∨ l.length = 64) : (plcL l).length = l.length := by
  rw [plcL_len]
  rcases h with e | e
  · rw [e]; have := (scan_rg 4 (by omega)).2; show (scanL 4).length = 16; omega
  · rw [e]; have := (scan_rg 8 (by omega)).2; show (scanL 8).length = 64; omega
/-- By what a place is scaled. -/
def normL (n i : Int) : Int := if (n = 4 ∨ n = 8) ∧ 0 ≤ i ∧ i ≤ n * n - 1 then (if n = 8 then 1 else if i / 4 % 2 + i % 4 % 2 = 0 then 100 else if i / 4 % 2 + i % 4 % 2 = 2 then 16 else 40) else 0
theorem normL_bd (n i : Int) : 0 ≤ normL n i ∧ normL n i ≤ 100 := by unfold normL; split <;> (try split) <;> (try split) <;> (try split) <;> omega
def scaF (l : List Int) (q : Int) (i : Nat) : Int := l.getD i 0 * stepL q * normL (side l.length) i
def scaL (l : List Int) (q : Int) : List Int := if LvOk l ∧ 0 < stepL q then tabL (scaF l q) l.length else []
theorem stepL_bd (q : Int) : 0 ≤ stepL q ∧ stepL q ≤ 500 := by
  by_cases h : 0 ≤ q ∧ q ≤ 51
  · have := stepL_in q h; omega
  · unfold stepL; rw [if_neg h]; omega
theorem mul_bds {a b A B : Int} (ha : -A ≤ a ∧ a ≤ A) (hb : 0 ≤ b ∧ b ≤ B) (hA : 0 ≤ A) : -(A * B) ≤ a * b ∧ a * b ≤ A * B := by
  have h1 : a * b ≤ A * b := Int.mul_le_mul_of_nonneg_right ha.2 hb.1
  have h2 : A * b ≤ A * B := Int.mul_le_mul_of_nonneg_left hb.2 hA
  have h3 : -A * b ≤ a * b := Int.mul_le_mul_of_nonneg_right ha.1 hb.1
  rw [Int.neg_mul] at h3
  omega
theorem sca1_bd {l : List Int} (h : In l (-16383) 16383) (q : Int) (i : Nat) : -8191500 ≤ l.getD i 0 * stepL q ∧ l.getD i 0 * stepL q ≤ 8191500 := by
  have := mul_bds (in_getZ (c := 16383) h (by decide) i) (stepL_bd q) (by decide)
  omega
theorem scaF_bd {l : List Int} (h : In l (-16383) 16383) (q : Int) (i : Nat) : -819150000 ≤ scaF l q i ∧ scaF l q i ≤ 819150000 := by
  have := mul_bds (sca1_bd h q i) (normL_bd (side l.length) i) (by decide)
  unfold scaF; omega
theorem scaL_len (l : List Int) (q : Int) : (scaL l q).length = if LvOk l ∧ 0 < stepL q then l.length else 0 := by
  unfold scaL; split <;> simp [tabL_len]
theorem scaL_fit (l : List Int) (q : Int) : FitM (scaL l q) := by
  unfold FitM In
  intro x hx
  unfold scaL at hx
  split at hx
  · rename_i h
    unfold tabL at hx
    obtain ⟨i, _, rfl⟩ := List.mem_map.1 hx
    have := scaF_bd h.1.1 q i
    omega
  · cases hx
/-- Divided by the norm, to the nearest. -/
def rnd1 (k : Nat) (v : Int) : Int := if k = 16 then (max (-1000000000000) (min 1000000000000 v) + 800) / 1600 else (max (-1000000000000) (min 1000000000000 v) + 32) / 64
def rndL (l : List Int) : List Int := if 0 < side l.length then l.map (rnd1 l.length) else []
theorem rndL_le (l : List Int) : (rndL l).length ≤ 64 := by
  unfold rndL; split
  · rename_i h; rw [List.length_map]; have := (side_pos l.length).1 h; omega
  · simp
theorem floor_neg {v d : Int} (hv : v < 0) (hd : 0 < d) : -((-v + d - 1) / d) = v / d := by
  have h1 := Int.mul_ediv_add_emod v d
  have h2 := Int.emod_nonneg v (by omega : d ≠ 0)
  have h3 := Int.emod_lt_of_pos v hd
  have e : (-v + d - 1) / d = - (v / d) := by
    have e2 : -v + d - 1 = (d - 1 - v % d) + d * (-(v / d)) := by rw [Int.mul_neg]; omega
    rw [e2, Int.add_mul_ediv_left _ _ (by omega), Int.ediv_eq_zero_of_lt (by omega) (by omega), Int.zero_add]
  omega
theorem floor_t {a b : Int} (hb : 0 < b) : (if a.tmod b < 0 then a.tdiv b - 1 else a.tdiv b) = a / b := by
  have h1 := Int.mul_ediv_add_emod a b
  have h2 := Int.emod_nonneg a (by omega : b ≠ 0)
  have h3 := Int.emod_lt_of_pos a hb
  have h4 := Int.mul_tdiv_add_tmod a b
  rcases Int.lt_or_le a 0 with h | h
  · have h0 : (-a).tmod b = -(a.tmod b) := Int.neg_tmod ..
    have h5 := Int.tmod_nonneg b (show 0 ≤ -a by omega)
    have h6 := Int.tmod_lt_of_pos (-a) hb
    rw [h0] at h5 h6
    split
    · rename_i h7
      have : b * (a.tdiv b - 1 - a / b) = - (a.tmod b + b) + a % b := by rw [Int.mul_sub, Int.mul_sub]; omega
      have h8 : a.tdiv b - 1 - a / b = 0 := by
        rcases Int.lt_trichotomy (a.tdiv b - 1 - a / b) 0 with h9 | h9 | h9
        · have := Int.mul_le_mul_of_nonneg_left (show a.tdiv b - 1 - a / b ≤ -1 by omega) (Int.le_of_lt hb); omega
        · exact h9
        · have := Int.mul_le_mul_of_nonneg_left (show 1 ≤ a.tdiv b - 1 - a / b by omega) (Int.le_of_lt hb); omega
      omega
    · have : b * (a.tdiv b - a / b) = a % b - a.tmod b := by rw [Int.mul_sub]; omega
      have h8 : a.tdiv b - a / b = 0 := by
        rcases Int.lt_trichotomy (a.tdiv b - a / b) 0 with h9 | h9 | h9
        · have := Int.mul_le_mul_of_nonneg_left (show a.tdiv b - a / b ≤ -1 by omega) (Int.le_of_lt hb); omega
        · exact h9
        · have := Int.mul_le_mul_of_nonneg_left (show 1 ≤ a.tdiv b - a / b by omega) (Int.le_of_lt hb); omega
      omega
  · rw [Int.tdiv_eq_ediv_of_nonneg h, Int.tmod_eq_emod_of_nonneg h]
    rw [if_neg (by omega)]
/-- What levels come to. -/
def resL (b : Bool) (q : Int) (l : List Int) : List Int := if LvOk l ∧ 0 < stepL q then (if b = true then plcL l else rndL (trL (side l.length) true (scaL (plcL l) q))) else []
theorem resL_le (b : Bool) (q : Int) (l : List Int) : (resL b q l).length ≤ 64 := by
  unfold resL; split
  · rename_i h
    split
    · rw [plcL_len]; exact (scan_fit l).2
    · exact rndL_le _
  · simp
/-- The order of the scan goes to every place once. -/
theorem scan4_all (p : Nat) (hp : p < 16) : ∃ k, k < 16 ∧ (scanL 4).getD k 0 = (p : Int) := by
  have key : ∀ p : Fin 16, ∃ k : Fin 16, (scanL 4).getD k.val 0 = ((p.val : Nat) : Int) := by decide +kernel
  obtain ⟨k, hk⟩ := key ⟨p, hp⟩
  exact ⟨k.val, k.isLt, hk⟩
theorem scan8_all (p : Nat) (hp : p < 64) : ∃ k, k < 64 ∧ (scanL 8).getD k 0 = (p : Int) := by
  have key : ∀ p : Fin 64, ∃ k : Fin 64, (scanL 8).getD k.val 0 = ((p.val : Nat) : Int) := by decide +kernel
  obtain ⟨k, hk⟩ := key ⟨p, hp⟩
  exact ⟨k.val, k.isLt, hk⟩
theorem scan4_inj (i : Nat) (hi : i < 16) (j : Nat) (hj : j < 16) (h : (scanL 4).getD i 0 = (scanL 4).getD j 0) : i = j := by
  have key : ∀ i j : Fin 16, (scanL 4).getD i.val 0 = (scanL 4).getD j.val 0 → i = j := by decide +kernel
  exact congrArg Fin.val (key ⟨i, hi⟩ ⟨j, hj⟩ h)
theorem scan8_inj (i : Nat) (hi : i < 64) (j : Nat) (hj : j < 64) (h : (scanL 8).getD i 0 = (scanL 8).getD j 0) : i = j := by
  have key : ∀ i j : Fin 64, (scanL 8).getD i.val 0 = (scanL 8).getD j.val 0 → i = j := by decide +kernel
  exact congrArg Fin.val (key ⟨i, hi⟩ ⟨j, hj⟩ h)
theorem plcK_at {o l : List Int} (h0 : In o 0 (o.length - 1)) (hi : ∀ i, i < o.length → ∀ j, j < o.length → o.getD i 0 = o.getD j 0 → i = j) : ∀ k, k ≤ o.length → ∀ j, j < k → (plcK o l k).getD (o.getD j 0).toNat 0 = l.getD j 0
  | 0, _, j, hj => by omega
  | k + 1, hk, j, hj => by
    have hlen := plcK_len o l k
    have hb := in_get h0 (k := k) (by omega)
    rw [plcK, getD_set2 (by rw [hlen]; omega)]
    by_cases e : j = k
    · subst e; rw [if_pos rfl]
    · have hbj := in_get h0 (k := j) (by omega)
      rw [if_neg (fun h => e (hi j (by omega) k (by omega) (by omega)))]
      exact plcK_at h0 hi k (by omega) j (by omega)
theorem scan_facts {l : List Int} (h : l.length = 16 ∨ l.length = 64) : (scanL (side l.length)).length = l.length ∧ In (scanL (side l.length)) 0 (l.length - 1) ∧ (∀ i, i < l.length → ∀ j, j < l.length → (scanL (side l.length)).getD i 0 = (scanL (side l.length)).getD j 0 → i = j) ∧ ∀ p, p < l.length → ∃ k, k < l.length ∧ (scanL (side l.length)).getD k 0 = (p : Int) := by
  rcases h with e | e
  · rw [e]
    have h1 := scan_rg 4 (by omega)
    exact ⟨by show (scanL 4).length = 16; omega, h1.1, scan4_inj, scan4_all⟩
  · rw [e]
    have h1 := scan_rg 8 (by omega)
    exact ⟨by show (scanL 8).length = 64; omega, h1.1, scan8_inj, scan8_all⟩
theorem scn_plc {l : List Int} (h : l.length = 16 ∨ l.length = 64) : scnL (plcL l) = l := by
  obtain ⟨h1, h2, h3, h4⟩ := scan_facts h
  have hl := plcL_len2 h
  refine list_ext (N := l.length) (by rw [scnL_len, hl, h1]) rfl fun j hj => ?_
  unfold scnL
  rw [hl]
  have := plcK_at (l := l) (o := scanL (side l.length)) (by rw [h1]; exact h2) (by rw [h1]; exact h3) (scanL (side l.length)).length (Nat.le_refl _) j (by omega)
  have e : ((scanL (side l.length)).map fun p => (plcL l).getD p.toNat 0).getD j 0 = (plcL l).getD ((scanL (side l.length)).getD j 0).toNat 0 := by
    rw [List.getD_eq_getElem?_getD, List.getElem?_map, List.getD_eq_getElem?_getD (l := scanL (side l.length)), List.getElem?_eq_getElem (by omega : j < (scanL (side l.length)).length)]; rfl
  rw [e]; exact this
theorem plc_scn {x : List Int} (h : x.length = 16 ∨ x.length = 64) : plcL (scnL x) = x := by
  obtain ⟨h1, h2, h3, h4⟩ := scan_facts h
  have hs : (scnL x).length = x.length := by rw [scnL_len, h1]
  refine list_ext (N := x.length) (by rw [plcL_len2 (by rw [hs]; exact h), hs]) rfl fun p hp => ?_
  obtain ⟨k, hk, hkp⟩ := h4 p hp
  have := plcK_at (l := scnL x) (o := scanL (side x.length)) (by rw [h1]; exact h2) (by rw [h1]; exact h3) (scanL (side x.length)).length (Nat.le_refl _) k (by omega)
  rw [hkp, Int.toNat_natCast] at this
  unfold plcL
  rw [hs, this]
  unfold scnL
  rw [List.getD_eq_getElem?_getD, List.getElem?_map, List.getElem?_eq_getElem (by omega : k < (scanL (side x.length)).length)]
  rw [List.getD_eq_getElem?_getD, List.getElem?_eq_getElem (by omega : k < (scanL (side x.length)).length)] at hkp
  simp only [Option.getD_some] at hkp
  simp only [Option.map_some, Option.getD_some, hkp, Int.toNat_natCast]
end Go.Proofs.Ytgkeopmihhcbiaa
