/- Proved in this text: lemmas and contracts of functions that the claim uses (parts: Mat4, Pred, Scan, Quant, Scn, Lw, Lev, Stat, Sid, ResL, LevP, DrP, Work, DbP, FrP). No condition. -/
import Derived.Test.YtjhejgamjlokdaaGreatPlM10
import Derived.Test.YtjhejgamjlokdaaGreatPlM9
set_option linter.unusedVariables false
set_option linter.unusedSimpArgs false
set_option maxRecDepth 100000
set_option maxHeartbeats 16000000


namespace Go.Proofs.YtjhejgamjlokdaaGreat
open Go Go.Abs
attribute [local irreducible] WpA WpL Rnd Blk Abs.Seq Abs.Fin Abs.FinG FnC FnG Only
def pm (n : Nat) (back : Bool) (r i q : Nat) : Bool := if back then decide (q % n < r ∨ (q % n = r ∧ q / n < i)) else decide (q / n < r ∨ (q / n = r ∧ q % n < i))
abbrev fm (n : Nat) (back : Bool) (q : Nat) : Int := mg n back (q / n) (q % n)
theorem pmset_4 (back : Bool) (r i : Nat) (hr : r < 4) (hi : i < 4) : (msk (pm 4 back r i) (fm 4 back) 16).set (if back then i * 4 + r else r * 4 + i) (mx 4 r i) = msk (pm 4 back r (i + 1)) (fm 4 back) 16 := by
  cases back with
  | true =>
    refine msk_set (by show i * 4 + r < 16; omega) ?_ fun q hq => ?_
    · show mx 4 r i = mx 4 ((i * 4 + r) % 4) ((i * 4 + r) / 4); rw [(divmod hr).1, (divmod hr).2]
    · simp only [pm, if_true, decide_eq_true_eq]; omega
  | false =>
    refine msk_set (by show r * 4 + i < 16; omega) ?_ fun q hq => ?_
    · show mx 4 r i = mx 4 ((r * 4 + i) / 4) ((r * 4 + i) % 4); rw [(divmod hi).1, (divmod hi).2]
    · simp only [pm, Bool.false_eq_true, if_false, decide_eq_true_eq]; omega
theorem pmnext_4 (back : Bool) (r : Nat) : msk (pm 4 back r 4) (fm 4 back) 16 = msk (pm 4 back (r + 1) 0) (fm 4 back) 16 := by
  refine msk_same fun q hq => ?_
  cases back <;> simp only [pm, if_true, Bool.false_eq_true, if_false, decide_eq_true_eq] <;> omega
theorem pmzero_4 (back : Bool) : msk (pm 4 back 0 0) (fm 4 back) 16 = List.replicate 16 0 := by
  refine msk_none fun q hq => ?_
  cases back <;> simp [pm]
theorem pmall_4 (back : Bool) : msk (pm 4 back 4 0) (fm 4 back) 16 = tabL (fm 4 back) 16 := by
  refine msk_all fun q hq => ?_
  cases back <;> simp only [pm, if_true, Bool.false_eq_true, if_false, decide_eq_true_eq] <;> omega
theorem fmget_4 (back : Bool) (r i : Nat) (hr : r < 4) (hi : i < 4) : (tabL (fm 4 back) 16).getD (r * 4 + i) 0 = mg 4 back r i := by
  rw [tabL_get (by omega)]; show mg 4 back ((r * 4 + i) / 4) ((r * 4 + i) % 4) = _; rw [(divmod hi).1, (divmod hi).2]
theorem l12Mul_4 (back : Bool) (l : List Int) (h : l.length = 16 ∧ In l (-1000000000) 1000000000) : Fn 136 [IL l, I 4, B back] [XI (mulM 4 (mg 4 back) l)] (.own 0 0 0 16) := by
  obtain ⟨h1, h2⟩ := h
  have hg : Sgn (mg 4 back) := fun r i => mg_val 4 back r i
  have e : mulM 4 (mg 4 back) l = tabL (fo 4 (mg 4 back) l) 16 := rfl
  refine FnC.of_body tabOk Tryz.func136 Tryz.ntmps136 rfl (by decide +kernel) (by simp) fun G => ?_
  refine go (r := ?_); and_intros <;> intros <;> try exact True.intro
  refine WpA.loop (fun r : Nat => ⟨[(0, IL l), (1, I 4), (2, B back), (7, .own 0 0 0 16), (8, I r)], [XI (msk (pm 4 back r 0) (fm 4 back) 16)]⟩) (fun r => r ≤ 4) (fun r => 4 - r) 0 (by omega) (go (r := ?_)) (fun r hr => ?_)
  · rw [pmzero_4]; and_intros <;> first | trivial | rfl
  have hpl1 := msk_len (pm 4 back r 0) (fm 4 back) 16
  have hrl := tabL_len (mx 4 r) 4
  refine go (r := ?_); and_intros <;> intros <;> try exact True.intro
  · refine WpA.loop (fun i : Nat => ⟨[(0, IL l), (1, I 4), (2, B back), (7, .own 0 0 0 16), (8, I r), (9, .own 1 0 0 4), (10, I i)], [XI (msk (pm 4 back r i) (fm 4 back) 16), IN (tabL (mx 4 r) 4)]⟩) (fun i => i ≤ 4) (fun i => 4 - i) 0 (by omega) (go (r := ?_)) (fun i hi => ?_)
    · trivial
    have hpl2 := msk_len (pm 4 back r i) (fm 4 back) 16
    have hps := pmset_4 back r i
    have hrg : i < 4 → (tabL (mx 4 r) 4).getD i 0 = mx 4 r i := fun h => tabL_get h
    refine go (r := ?_); and_intros <;> intros <;> try exact True.intro
    · rename_i hb
      subst hb
      rw [Int.toNat_natCast, hrg (by omega), show ((i : Int) * 4 + r).toNat = i * 4 + r by omega]; exact hps (by omega) (by omega)
    · rename_i hb
      subst hb
      rw [Int.toNat_natCast, hrg (by omega), show ((r : Int) * 4 + i).toNat = r * 4 + i by omega]; exact hps (by omega) (by omega)
    · have hi1 : i = 4 := by omega
      subst hi1; exact pmnext_4 back r
  have hr1 : r = 4 := by omega
  subst hr1
  rw [pmall_4]
  have hplh := tabL_len (fm 4 back) 16
  refine WpA.loop (fun r : Nat => ⟨[(0, IL l), (1, I 4), (7, .own 0 0 0 16), (11, .own 1 0 0 16), (12, .own 2 0 0 16), (13, I r)], [XI (tabL (fm 4 back) 16), XI (part (fh 4 (mg 4 back) l) 16 (r * 4) 0), XI (List.replicate 16 0)]⟩) (fun r => r ≤ 4) (fun r => 4 - r) 0 (by omega) (go (r := ?_)) (fun r hr => ?_)
  · simp [part_zero]
  have hpl1 := part_len (fh 4 (mg 4 back) l) 16 (r * 4) 0
  refine go (r := ?_); and_intros <;> intros <;> try exact True.intro
  · refine WpA.loop (fun k : Nat => ⟨[(0, IL l), (1, I 4), (7, .own 0 0 0 16), (11, .own 1 0 0 16), (12, .own 2 0 0 16), (13, I r), (14, I k)], [XI (tabL (fm 4 back) 16), XI (part (fh 4 (mg 4 back) l) 16 (r * 4 + k) 0), XI (List.replicate 16 0)]⟩) (fun k => k ≤ 4) (fun k => 4 - k) 0 (by omega) (go (r := ?_)) (fun k hk => ?_)
    · trivial
    have hpl2 := part_len (fh 4 (mg 4 back) l) 16 (r * 4 + k) 0
    refine go (r := ?_); and_intros <;> intros <;> try exact True.intro
    · refine WpA.loop (fun i : Nat => ⟨[(0, IL l), (1, I 4), (7, .own 0 0 0 16), (11, .own 1 0 0 16), (12, .own 2 0 0 16), (13, I r), (14, I k), (15, I i)], [XI (tabL (fm 4 back) 16), XI (part (fh 4 (mg 4 back) l) 16 (r * 4 + k) (sh 4 (mg 4 back) l r k i)), XI (List.replicate 16 0)]⟩) (fun i => i ≤ 4) (fun i => 4 - i) 0 (by omega) (go (r := ?_)) (fun i hi => ?_)
      · simp [sumF]
      have hpl3 := part_len (fh 4 (mg 4 back) l) 16 (r * 4 + k) (sh 4 (mg 4 back) l r k i)
      have hsb : -((i : Int) * (2 * 1000000000)) ≤ sh 4 (mg 4 back) l r k i ∧ sh 4 (mg 4 back) l r k i ≤ (i : Int) * (2 * 1000000000) := half_bd (n := 4) (g := (mg 4 back)) (l := l) (c := 1000000000) hg h2 (by omega) r k i
      have hdm := divmod (n := 4) (r := r) (k := k)
      have hgl := in_getZ h2 (by decide) (i * 4 + k)
      have hgg := mul2 (hg r i) hgl (by decide)
      have hst : sh 4 (mg 4 back) l r k (i + 1) = sh 4 (mg 4 back) l r k i + (mg 4 back) r i * l.getD (i * 4 + k) 0 := rfl
      refine go (r := ?_); and_intros <;> intros <;> try exact True.intro
      · rename_i hi1
        have e1 : ((r : Int) * 4 + k).toNat = r * 4 + k := by omega
        have e2 : ((i : Int) * 4 + k).toNat = i * 4 + k := by omega
        have e4 : ((r : Int) * 4 + i).toNat = r * 4 + i := by omega
        rw [e1, e2, e4, fmget_4 back r i (by omega) (by omega), part_get (by omega), part_set (by omega), wrap64 ((mg 4 back) r i * l.getD (i * 4 + k) 0) (by omega), wrap64 _ (by omega), hst]
      · have hi1 : i = 4 := by omega
        subst hi1
        rw [← Nat.add_assoc]; exact part_next (by show sh 4 (mg 4 back) l r k 4 = halfM 4 (mg 4 back) l ((r * 4 + k) / 4) ((r * 4 + k) % 4); rw [(hdm (by omega)).1, (hdm (by omega)).2]; rfl)
    · have hk1 : k = 4 := by omega
      rw [hk1, Nat.succ_mul]
  have hr1 : r = 4 := by omega
  subst hr1
  have ep : part (fh 4 (mg 4 back) l) 16 (4 * 4) 0 = tabL (fh 4 (mg 4 back) l) 16 := part_all _ _ _
  rw [ep]
  have hplh2 := tabL_len (fh 4 (mg 4 back) l) 16
  refine WpA.loop (fun r : Nat => ⟨[(1, I 4), (7, .own 0 0 0 16), (11, .own 1 0 0 16), (12, .own 2 0 0 16), (16, I r)], [XI (tabL (fm 4 back) 16), XI (tabL (fh 4 (mg 4 back) l) 16), XI (part (fo 4 (mg 4 back) l) 16 (r * 4) 0)]⟩) (fun r => r ≤ 4) (fun r => 4 - r) 0 (by omega) (go (r := ?_)) (fun r hr => ?_)
  · simp [part_zero]
  have hpl1 := part_len (fo 4 (mg 4 back) l) 16 (r * 4) 0
  refine go (r := ?_); and_intros <;> intros <;> try exact True.intro
  · refine WpA.loop (fun k : Nat => ⟨[(1, I 4), (7, .own 0 0 0 16), (11, .own 1 0 0 16), (12, .own 2 0 0 16), (16, I r), (17, I k)], [XI (tabL (fm 4 back) 16), XI (tabL (fh 4 (mg 4 back) l) 16), XI (part (fo 4 (mg 4 back) l) 16 (r * 4 + k) 0)]⟩) (fun k => k ≤ 4) (fun k => 4 - k) 0 (by omega) (go (r := ?_)) (fun k hk => ?_)
    · trivial
    have hpl2 := part_len (fo 4 (mg 4 back) l) 16 (r * 4 + k) 0
    refine go (r := ?_); and_intros <;> intros <;> try exact True.intro
    · refine WpA.loop (fun i : Nat => ⟨[(1, I 4), (7, .own 0 0 0 16), (11, .own 1 0 0 16), (12, .own 2 0 0 16), (16, I r), (17, I k), (18, I i)], [XI (tabL (fm 4 back) 16), XI (tabL (fh 4 (mg 4 back) l) 16), XI (part (fo 4 (mg 4 back) l) 16 (r * 4 + k) (so 4 (mg 4 back) l r k i))]⟩) (fun i => i ≤ 4) (fun i => 4 - i) 0 (by omega) (go (r := ?_)) (fun i hi => ?_)
      · simp [sumF]
      have hpl3 := part_len (fo 4 (mg 4 back) l) 16 (r * 4 + k) (so 4 (mg 4 back) l r k i)
      have hsb := so_bd (n := 4) hg h2 (by omega) r k i
      have hdm := divmod (n := 4) (r := r) (k := k)
      have hdi := divmod (n := 4) (r := r) (k := i)
      have hgl := half_in (n := 4) hg h2 (by omega) r i
      have hgg := mul_huge hgl (hg k i)
      have hst : so 4 (mg 4 back) l r k (i + 1) = so 4 (mg 4 back) l r k i + halfM 4 (mg 4 back) l r i * (mg 4 back) k i := rfl
      refine go (r := ?_); and_intros <;> intros <;> try exact True.intro
      · rename_i hi1
        have e1 : ((r : Int) * 4 + k).toNat = r * 4 + k := by omega
        have e2 : ((r : Int) * 4 + i).toNat = r * 4 + i := by omega
        have e3 : ((k : Int) * 4 + i).toNat = k * 4 + i := by omega
        have e4 : (tabL (fh 4 (mg 4 back) l) 16).getD (r * 4 + i) 0 = halfM 4 (mg 4 back) l r i := by rw [tabL_get (by omega)]; show halfM 4 (mg 4 back) l ((r * 4 + i) / 4) ((r * 4 + i) % 4) = _; rw [(hdi (by omega)).1, (hdi (by omega)).2]
        rw [e1, e2, e3, e4, fmget_4 back k i (by omega) (by omega), part_get (by omega), part_set (by omega), wrap64 (halfM 4 (mg 4 back) l r i * (mg 4 back) k i) (by omega), wrap64 _ (by omega), hst]
      · have hi1 : i = 4 := by omega
        subst hi1
        rw [← Nat.add_assoc]; exact part_next (by show so 4 (mg 4 back) l r k 4 = fullM 4 (mg 4 back) l ((r * 4 + k) / 4) ((r * 4 + k) % 4); rw [(hdm (by omega)).1, (hdm (by omega)).2]; rfl)
    · have hk1 : k = 4 := by omega
      rw [hk1, Nat.succ_mul]
  all_goals have hr1 : r = 4 := by omega
  all_goals subst hr1
  all_goals first | (rw [e]; exact congrArg _ (part_all _ _ _)) | (rw [e]; exact part_all _ _ _) | trace_state
theorem pmset_8 (back : Bool) (r i : Nat) (hr : r < 8) (hi : i < 8) : (msk (pm 8 back r i) (fm 8 back) 64).set (if back then i * 8 + r else r * 8 + i) (mx 8 r i) = msk (pm 8 back r (i + 1)) (fm 8 back) 64 := by
  cases back with
  | true =>
    refine msk_set (by show i * 8 + r < 64; omega) ?_ fun q hq => ?_
    · show mx 8 r i = mx 8 ((i * 8 + r) % 8) ((i * 8 + r) / 8); rw [(divmod hr).1, (divmod hr).2]
    · simp only [pm, if_true, decide_eq_true_eq]; omega
  | false =>
    refine msk_set (by show r * 8 + i < 64; omega) ?_ fun q hq => ?_
    · show mx 8 r i = mx 8 ((r * 8 + i) / 8) ((r * 8 + i) % 8); rw [(divmod hi).1, (divmod hi).2]
    · simp only [pm, Bool.false_eq_true, if_false, decide_eq_true_eq]; omega
theorem pmnext_8 (back : Bool) (r : Nat) : msk (pm 8 back r 8) (fm 8 back) 64 = msk (pm 8 back (r + 1) 0) (fm 8 back) 64 := by
  refine msk_same fun q hq => ?_
  cases back <;> simp only [pm, if_true, Bool.false_eq_true, if_false, decide_eq_true_eq] <;> omega
theorem pmzero_8 (back : Bool) : msk (pm 8 back 0 0) (fm 8 back) 64 = List.replicate 64 0 := by
  refine msk_none fun q hq => ?_
  cases back <;> simp [pm]
theorem pmall_8 (back : Bool) : msk (pm 8 back 8 0) (fm 8 back) 64 = tabL (fm 8 back) 64 := by
  refine msk_all fun q hq => ?_
  cases back <;> simp only [pm, if_true, Bool.false_eq_true, if_false, decide_eq_true_eq] <;> omega
theorem fmget_8 (back : Bool) (r i : Nat) (hr : r < 8) (hi : i < 8) : (tabL (fm 8 back) 64).getD (r * 8 + i) 0 = mg 8 back r i := by
  rw [tabL_get (by omega)]; show mg 8 back ((r * 8 + i) / 8) ((r * 8 + i) % 8) = _; rw [(divmod hi).1, (divmod hi).2]
theorem l12Mul_8 (back : Bool) (l : List Int) (h : l.length = 64 ∧ In l (-1000000000) 1000000000) : Fn 136 [IL l, I 8, B back] [XI (mulM 8 (mg 8 back) l)] (.own 0 0 0 64) := by
  obtain ⟨h1, h2⟩ := h
  have hg : Sgn (mg 8 back) := fun r i => mg_val 8 back r i
  have e : mulM 8 (mg 8 back) l = tabL (fo 8 (mg 8 back) l) 64 := rfl
  refine FnC.of_body tabOk Tryz.func136 Tryz.ntmps136 rfl (by decide +kernel) (by simp) fun G => ?_
  refine go (r := ?_); and_intros <;> intros <;> try exact True.intro
  refine WpA.loop (fun r : Nat => ⟨[(0, IL l), (1, I 8), (2, B back), (7, .own 0 0 0 64), (8, I r)], [XI (msk (pm 8 back r 0) (fm 8 back) 64)]⟩) (fun r => r ≤ 8) (fun r => 8 - r) 0 (by omega) (go (r := ?_)) (fun r hr => ?_)
  · rw [pmzero_8]; and_intros <;> first | trivial | rfl
  have hpl1 := msk_len (pm 8 back r 0) (fm 8 back) 64
  have hrl := tabL_len (mx 8 r) 8
  refine go (r := ?_); and_intros <;> intros <;> try exact True.intro
  · refine WpA.loop (fun i : Nat => ⟨[(0, IL l), (1, I 8), (2, B back), (7, .own 0 0 0 64), (8, I r), (9, .own 1 0 0 8), (10, I i)], [XI (msk (pm 8 back r i) (fm 8 back) 64), IN (tabL (mx 8 r) 8)]⟩) (fun i => i ≤ 8) (fun i => 8 - i) 0 (by omega) (go (r := ?_)) (fun i hi => ?_)
    · trivial
    have hpl2 := msk_len (pm 8 back r i) (fm 8 back) 64
    have hps := pmset_8 back r i
    have hrg : i < 8 → (tabL (mx 8 r) 8).getD i 0 = mx 8 r i := fun h => tabL_get h
    refine go (r := ?_); and_intros <;> intros <;> try exact True.intro
    · rename_i hb
      subst hb
      rw [Int.toNat_natCast, hrg (by omega), show ((i : Int) * 8 + r).toNat = i * 8 + r by omega]; exact hps (by omega) (by omega)
    · rename_i hb
      subst hb
      rw [Int.toNat_natCast, hrg (by omega), show ((r : Int) * 8 + i).toNat = r * 8 + i by omega]; exact hps (by omega) (by omega)
    · have hi1 : i = 8 := by omega
      subst hi1; exact pmnext_8 back r
  have hr1 : r = 8 := by omega
  subst hr1
  rw [pmall_8]
  have hplh := tabL_len (fm 8 back) 64
  refine WpA.loop (fun r : Nat => ⟨[(0, IL l), (1, I 8), (7, .own 0 0 0 64), (11, .own 1 0 0 64), (12, .own 2 0 0 64), (13, I r)], [XI (tabL (fm 8 back) 64), XI (part (fh 8 (mg 8 back) l) 64 (r * 8) 0), XI (List.replicate 64 0)]⟩) (fun r => r ≤ 8) (fun r => 8 - r) 0 (by omega) (go (r := ?_)) (fun r hr => ?_)
  · simp [part_zero]
  have hpl1 := part_len (fh 8 (mg 8 back) l) 64 (r * 8) 0
  refine go (r := ?_); and_intros <;> intros <;> try exact True.intro
  · refine WpA.loop (fun k : Nat => ⟨[(0, IL l), (1, I 8), (7, .own 0 0 0 64), (11, .own 1 0 0 64), (12, .own 2 0 0 64), (13, I r), (14, I k)], [XI (tabL (fm 8 back) 64), XI (part (fh 8 (mg 8 back) l) 64 (r * 8 + k) 0), XI (List.replicate 64 0)]⟩) (fun k => k ≤ 8) (fun k => 8 - k) 0 (by omega) (go (r := ?_)) (fun k hk => ?_)
    · trivial
    have hpl2 := part_len (fh 8 (mg 8 back) l) 64 (r * 8 + k) 0
    refine go (r := ?_); and_intros <;> intros <;> try exact True.intro
    · refine WpA.loop (fun i : Nat => ⟨[(0, IL l), (1, I 8), (7, .own 0 0 0 64), (11, .own 1 0 0 64), (12, .own 2 0 0 64), (13, I r), (14, I k), (15, I i)], [XI (tabL (fm 8 back) 64), XI (part (fh 8 (mg 8 back) l) 64 (r * 8 + k) (sh 8 (mg 8 back) l r k i)), XI (List.replicate 64 0)]⟩) (fun i => i ≤ 8) (fun i => 8 - i) 0 (by omega) (go (r := ?_)) (fun i hi => ?_)
      · simp [sumF]
      have hpl3 := part_len (fh 8 (mg 8 back) l) 64 (r * 8 + k) (sh 8 (mg 8 back) l r k i)
      have hsb : -((i : Int) * (2 * 1000000000)) ≤ sh 8 (mg 8 back) l r k i ∧ sh 8 (mg 8 back) l r k i ≤ (i : Int) * (2 * 1000000000) := half_bd (n := 8) (g := (mg 8 back)) (l := l) (c := 1000000000) hg h2 (by omega) r k i
      have hdm := divmod (n := 8) (r := r) (k := k)
      have hgl := in_getZ h2 (by decide) (i * 8 + k)
      have hgg := mul2 (hg r i) hgl (by decide)
      have hst : sh 8 (mg 8 back) l r k (i + 1) = sh 8 (mg 8 back) l r k i + (mg 8 back) r i * l.getD (i * 8 + k) 0 := rfl
      refine go (r := ?_); and_intros <;> intros <;> try exact True.intro
      · rename_i hi1
        have e1 : ((r : Int) * 8 + k).toNat = r * 8 + k := by omega
        have e2 : ((i : Int) * 8 + k).toNat = i * 8 + k := by omega
        have e4 : ((r : Int) * 8 + i).toNat = r * 8 + i := by omega
        rw [e1, e2, e4, fmget_8 back r i (by omega) (by omega), part_get (by omega), part_set (by omega), wrap64 ((mg 8 back) r i * l.getD (i * 8 + k) 0) (by omega), wrap64 _ (by omega), hst]
      · have hi1 : i = 8 := by omega
        subst hi1
        rw [← Nat.add_assoc]; exact part_next (by show sh 8 (mg 8 back) l r k 8 = halfM 8 (mg 8 back) l ((r * 8 + k) / 8) ((r * 8 + k) % 8); rw [(hdm (by omega)).1, (hdm (by omega)).2]; rfl)
    · have hk1 : k = 8 := by omega
      rw [hk1, Nat.succ_mul]
  have hr1 : r = 8 := by omega
  subst hr1
  have ep : part (fh 8 (mg 8 back) l) 64 (8 * 8) 0 = tabL (fh 8 (mg 8 back) l) 64 := part_all _ _ _
  rw [ep]
  have hplh2 := tabL_len (fh 8 (mg 8 back) l) 64
  refine WpA.loop (fun r : Nat => ⟨[(1, I 8), (7, .own 0 0 0 64), (11, .own 1 0 0 64), (12, .own 2 0 0 64), (16, I r)], [XI (tabL (fm 8 back) 64), XI (tabL (fh 8 (mg 8 back) l) 64), XI (part (fo 8 (mg 8 back) l) 64 (r * 8) 0)]⟩) (fun r => r ≤ 8) (fun r => 8 - r) 0 (by omega) (go (r := ?_)) (fun r hr => ?_)
  · simp [part_zero]
  have hpl1 := part_len (fo 8 (mg 8 back) l) 64 (r * 8) 0
  refine go (r := ?_); and_intros <;> intros <;> try exact True.intro
  · refine WpA.loop (fun k : Nat => ⟨[(1, I 8), (7, .own 0 0 0 64), (11, .own 1 0 0 64), (12, .own 2 0 0 64), (16, I r), (17, I k)], [XI (tabL (fm 8 back) 64), XI (tabL (fh 8 (mg 8 back) l) 64), XI (part (fo 8 (mg 8 back) l) 64 (r * 8 + k) 0)]⟩) (fun k => k ≤ 8) (fun k => 8 - k) 0 (by omega) (go (r := ?_)) (fun k hk => ?_)
    · trivial
    have hpl2 := part_len (fo 8 (mg 8 back) l) 64 (r * 8 + k) 0
    refine go (r := ?_); and_intros <;> intros <;> try exact True.intro
    · refine WpA.loop (fun i : Nat => ⟨[(1, I 8), (7, .own 0 0 0 64), (11, .own 1 0 0 64), (12, .own 2 0 0 64), (16, I r), (17, I k), (18, I i)], [XI (tabL (fm 8 back) 64), XI (tabL (fh 8 (mg 8 back) l) 64), XI (part (fo 8 (mg 8 back) l) 64 (r * 8 + k) (so 8 (mg 8 back) l r k i))]⟩) (fun i => i ≤ 8) (fun i => 8 - i) 0 (by omega) (go (r := ?_)) (fun i hi => ?_)
      · simp [sumF]
      have hpl3 := part_len (fo 8 (mg 8 back) l) 64 (r * 8 + k) (so 8 (mg 8 back) l r k i)
      have hsb := so_bd (n := 8) hg h2 (by omega) r k i
      have hdm := divmod (n := 8) (r := r) (k := k)
      have hdi := divmod (n := 8) (r := r) (k := i)
      have hgl := half_in (n := 8) hg h2 (by omega) r i
      have hgg := mul_huge hgl (hg k i)
      have hst : so 8 (mg 8 back) l r k (i + 1) = so 8 (mg 8 back) l r k i + halfM 8 (mg 8 back) l r i * (mg 8 back) k i := rfl
      refine go (r := ?_); and_intros <;> intros <;> try exact True.intro
      · rename_i hi1
        have e1 : ((r : Int) * 8 + k).toNat = r * 8 + k := by omega
        have e2 : ((r : Int) * 8 + i).toNat = r * 8 + i := by omega
        have e3 : ((k : Int) * 8 + i).toNat = k * 8 + i := by omega
        have e4 : (tabL (fh 8 (mg 8 back) l) 64).getD (r * 8 + i) 0 = halfM 8 (mg 8 back) l r i := by rw [tabL_get (by omega)]; show halfM 8 (mg 8 back) l ((r * 8 + i) / 8) ((r * 8 + i) % 8) = _; rw [(hdi (by omega)).1, (hdi (by omega)).2]
        rw [e1, e2, e3, e4, fmget_8 back k i (by omega) (by omega), part_get (by omega), part_set (by omega), wrap64 (halfM 8 (mg 8 back) l r i * (mg 8 back) k i) (by omega), wrap64 _ (by omega), hst]
      · have hi1 : i = 8 := by omega
        subst hi1
        rw [← Nat.add_assoc]; exact part_next (by show so 8 (mg 8 back) l r k 8 = fullM 8 (mg 8 back) l ((r * 8 + k) / 8) ((r * 8 + k) % 8); rw [(hdm (by omega)).1, (hdm (by omega)).2]; rfl)
    · have hk1 : k = 8 := by omega
      rw [hk1, Nat.succ_mul]
  all_goals have hr1 : r = 8 := by omega
  all_goals subst hr1
  all_goals first | (rw [e]; exact congrArg _ (part_all _ _ _)) | (rw [e]; exact part_all _ _ _) | trace_state
end Go.Proofs.YtjhejgamjlokdaaGreat


namespace Go.Proofs.YtjhejgamjlokdaaGreat
open Go Go.Abs
attribute [local irreducible] WpA WpL Rnd Blk Abs.Seq Abs.Fin Abs.FinG FnC FnG Only
def side (k : Nat) : Int := if k = 16 then 4 else if k = 64 then 8 else 0
theorem side_pos (k : Nat) : 0 < side k ↔ k = 16 ∨ k = 64 := by unfold side; split <;> (try split) <;> omega
theorem side_cases (k : Nat) : (k = 16 ∧ side k = 4) ∨ (k = 64 ∧ side k = 8) ∨ (k ≠ 16 ∧ k ≠ 64 ∧ side k = 0) := by unfold side; split <;> (try split) <;> omega
instance SizeOk_s : Con 70 (∀ n : Int, Fn 70 [I n] [] (B (decide (n = 4 ∨ n = 8)))) := ⟨fun n => by
  refine FnC.of_body tabOk Tryz.func70 Tryz.ntmps70 rfl (by decide +kernel) (by simp) fun G => ?_
  refine go (r := ?_); and_intros <;> intros <;> try exact True.intro
  all_goals simp_all⟩
instance SizeOk_c : Con 90 (∀ n : Int, Fn 90 [I n] [] (B (decide (n = 4 ∨ n = 8)))) := ⟨fun n => by
  refine FnC.of_body tabOk Tryz.func90 Tryz.ntmps90 rfl (by decide +kernel) (by simp) fun G => ?_
  refine go (r := ?_); and_intros <;> intros <;> try exact True.intro
  all_goals simp_all⟩
instance l9Side_s : Con 33 (∀ l : List Int, l.length ≤ 9223372036854775807 → Fn 33 [IL l] [] (I (side l.length))) := ⟨fun l hl => by
  refine FnC.of_body tabOk Tryz.func33 Tryz.ntmps33 rfl (by decide +kernel) (by simp) fun G => ?_
  have h := side_cases l.length
  refine go (r := ?_); and_intros <;> intros <;> try exact True.intro⟩
instance sizeOf_c : Con 48 (∀ k : Nat, Fn 48 [I k] [] (I (side k))) := ⟨fun k => by
  refine FnC.of_body tabOk Tryz.func48 Tryz.ntmps48 rfl (by decide +kernel) (by simp) fun G => ?_
  have h := side_cases k
  refine go (r := ?_); and_intros <;> intros <;> try exact True.intro⟩
def psum (l : List Int) (k : Nat) : Int := (l.take k).sum
theorem psum_zero (l : List Int) : psum l 0 = 0 := by simp [psum]
theorem psum_succ (l : List Int) (k : Nat) (h : k < l.length) : psum l (k + 1) = psum l k + l.getD k 0 := by
  unfold psum; rw [List.take_succ_eq_append_getElem h, List.sum_append]; simp [h]
theorem psum_all (l : List Int) : psum l l.length = l.sum := by simp [psum]
theorem psum_bd {l : List Int} (h : In l 0 255) (k : Nat) (hk : k ≤ l.length) : 0 ≤ psum l k ∧ psum l k ≤ 255 * k := by
  induction k with
  | zero => simp [psum]
  | succ k ih =>
    have h1 := in_get h (k := k) (by omega)
    have h2 := ih (by omega)
    rw [psum_succ l k (by omega)]; omega
theorem in_take {l : List Int} {lo hi : Int} (h : In l lo hi) (k : Nat) : In (l.take k) lo hi := by unfold In at *; intro v hv; exact h v (List.mem_of_mem_take hv)
instance l14Sum_s : Con 124 (∀ l : List Int, l.length ≤ 1099511627776 ∧ In l 0 255 → Fn 124 [IL l] [] (I l.sum)) := ⟨fun l hl => by
  refine FnC.of_body tabOk Tryz.func124 Tryz.ntmps124 rfl (by decide +kernel) (by simp) fun G => ?_
  refine go (r := ?_); and_intros <;> intros <;> try exact True.intro
  refine WpA.loop (fun k : Nat => ⟨[(0, IL l), (3, I (psum l k)), (4, I k)], []⟩) (fun k => k ≤ l.length) (fun k => l.length - k) 0 (by omega) (go (r := ?_)) (fun k hk => ?_)
  · simp [psum_zero]
  have hb := psum_bd hl.2 k hk
  have hg := fun h => in_get hl.2 (k := k) h
  have hs := fun h => psum_succ l k h
  refine go (r := ?_); and_intros <;> intros <;> try exact True.intro
  · have e : k = l.length := by omega
    subst e; rw [psum_all]⟩
instance Clone_c : Con 91 (∀ l : List Int, l.length ≤ 1099511627776 → Fn 91 [IL l] [XI l] (.own 0 0 0 l.length)) := ⟨fun l hl => by
  refine FnC.of_body tabOk Tryz.func91 Tryz.ntmps91 rfl (by decide +kernel) (by simp) fun G => ?_
  refine go (r := ?_); and_intros <;> intros <;> try exact True.intro
  all_goals (have e : l = [] := List.eq_nil_of_length_eq_zero (by omega)); subst e; rfl⟩
def revp (l : List Int) (i : Nat) : List Int := (List.range l.length).map fun k => if k < i ∨ l.length - 1 - k < i then l.getD (l.length - 1 - k) 0 else l.getD k 0
theorem revp_len (l : List Int) (i : Nat) : (revp l i).length = l.length := by simp [revp]
theorem revp_zero (l : List Int) : revp l 0 = l := by
  apply eq_all 0 (by rw [revp_len])
  intro j hj
  rw [revp_len] at hj
  simp [revp, hj]
theorem revp_get (l : List Int) (i j : Nat) (hj : j < l.length) : (revp l i).getD j 0 = if j < i ∨ l.length - 1 - j < i then l.getD (l.length - 1 - j) 0 else l.getD j 0 := by
  simp only [revp, List.getD_eq_getElem?_getD, List.getElem?_map, List.getElem?_range hj, Option.map_some, Option.getD_some]
theorem rev_get (l : List Int) (j : Nat) (hj : j < l.length) : l.reverse.getD j 0 = l.getD (l.length - 1 - j) 0 := by
  simp only [List.getD_eq_getElem?_getD, List.getElem?_reverse hj]
theorem revp_end (l : List Int) (i : Nat) (h : l.length ≤ 2 * i + 1) : revp l i = l.reverse := by
  apply eq_all 0 (by rw [revp_len, List.length_reverse])
  intro j hj
  rw [revp_len] at hj
  rw [revp_get l i j hj, rev_get l j hj]
  split
  · rfl
  · have : l.length - 1 - j = j := by omega
    rw [this]
theorem revp_step (l : List Int) (i : Nat) (h : 2 * i + 1 < l.length) : ((revp l i).set i ((revp l i).getD (l.length - 1 - i) 0)).set (l.length - 1 - i) ((revp l i).getD i 0) = revp l (i + 1) := by
  have e1 : (revp l i).getD (l.length - 1 - i) 0 = l.getD (l.length - 1 - i) 0 := by
    rw [revp_get l i _ (by omega), if_neg (by omega)]
  have e2 : (revp l i).getD i 0 = l.getD i 0 := by
    rw [revp_get l i _ (by omega), if_neg (by omega)]
  rw [e1, e2]
  apply eq_all 0 (by simp [revp_len])
  intro j hj
  simp only [List.length_set, revp_len] at hj
  rw [revp_get l (i + 1) j hj, List.getD_eq_getElem?_getD, List.getElem?_set, List.getElem?_set]
  simp only [List.length_set, revp_len]
  by_cases c1 : l.length - 1 - i = j
  · rw [if_pos c1, if_pos (by omega), if_pos (by omega), Option.getD_some]; congr 1; omega
  · rw [if_neg c1]
    by_cases c2 : i = j
    · rw [if_pos c2, if_pos (by omega), if_pos (by omega), Option.getD_some, c2]
    · rw [if_neg c2, ← List.getD_eq_getElem?_getD, revp_get l i j hj]
      by_cases c3 : j < i ∨ l.length - 1 - j < i
      · rw [if_pos c3, if_pos (by omega)]
      · rw [if_neg c3, if_neg (by omega)]
instance Reverse_c : ConG 135 (∀ l : List Int, 1 ≤ l.length ∧ l.length ≤ 1099511627776 → Gn 135 [.own 0 0 0 l.length] [XI l] [XI l.reverse] [] (.tup [])) := ⟨fun l hl => by
  refine FnG.of_bodyF tabOk Tryz.func135 Tryz.ntmps135 rfl (by decide +kernel) (by simp) rfl rfl fun G => ?_
  refine go (r := ?_); and_intros <;> intros <;> try exact True.intro
  refine WpA.loop (fun i : Nat => ⟨[(0, .own 0 0 0 l.length), (2, I i), (3, I ((l.length : Int) - 1 - i))], [XI (revp l i)]⟩) (fun i => 2 * i ≤ l.length) (fun i => l.length - i) 0 (by omega) (go (r := ?_)) (fun i hi => ?_)
  · simp [revp_zero]
  have hl2 := revp_len l i
  refine go (r := ?_); and_intros <;> intros <;> try exact True.intro
  · have e1 : ((l.length : Int) - 1 - (i : Int)).toNat = l.length - 1 - i := by omega
    rw [e1, Int.toNat_natCast]; exact revp_step l i (by omega)
  · exact revp_end l i (by omega)⟩
end Go.Proofs.YtjhejgamjlokdaaGreat


namespace Go.Proofs.YtjhejgamjlokdaaGreat
open Go Go.Abs
attribute [local irreducible] WpA WpL Rnd Blk Abs.Seq Abs.Fin Abs.FinG FnC FnG Only
def scX (d k : Nat) : Int := if (d : Int) % 2 = 0 then (d : Int) - k else k
def scIn (n : Int) (d : Nat) : Nat → List Int → List Int
  | 0, o => o
  | k + 1, o => if scX d k < n ∧ (d : Int) - scX d k < n then scIn n d k o ++ [((d : Int) - scX d k) * n + scX d k] else scIn n d k o
def scOut (n : Int) : Nat → List Int
  | 0 => []
  | d + 1 => scIn n d (d + 1) (scOut n d)
def scanL (n : Int) : List Int := if n = 4 ∨ n = 8 then scOut n (2 * n - 1).toNat else []
theorem scIn_yes {n : Int} {d k : Nat} {o : List Int} {x v : Int} (hx : scX d k = x) (h1 : x < n) (h2 : (d : Int) - x < n) (hv : v = ((d : Int) - x) * n + x) : scIn n d k o ++ [v] = scIn n d (k + 1) o := by
  rw [scIn, hx, if_pos ⟨h1, h2⟩, hv]
theorem scIn_no {n : Int} {d k : Nat} {o : List Int} {x : Int} (hx : scX d k = x) (h : ¬ (x < n ∧ (d : Int) - x < n)) : scIn n d k o = scIn n d (k + 1) o := by
  rw [scIn, hx, if_neg h]
theorem scIn_len (n : Int) (d : Nat) (o : List Int) : ∀ k, (scIn n d k o).length ≤ o.length + k
  | 0 => by simp [scIn]
  | k + 1 => by rw [scIn]; have := scIn_len n d o k; split <;> (try rw [List.length_append, List.length_singleton]) <;> omega
theorem scOut_len (n : Int) : ∀ d, d ≤ 16 → (scOut n d).length ≤ 16 * d
  | 0, _ => by simp [scOut]
  | d + 1, h => by rw [scOut]; have := scIn_len n d (scOut n d) (d + 1); have := scOut_len n d (by omega); omega
theorem scX_even {d k : Nat} (h : (d : Int) % 2 = 0) : scX d k = d - k := by rw [scX, if_pos h]
theorem scX_odd {d k : Nat} (h : ¬ (d : Int) % 2 = 0) : scX d k = k := by rw [scX, if_neg h]
theorem scIn_l1 {n : Int} {d k : Nat} {o : List Int} (h : scX d k < n ∧ (d : Int) - scX d k < n) : (scIn n d (k + 1) o).length = (scIn n d k o).length + 1 := by rw [scIn, if_pos h, List.length_append, List.length_singleton]
theorem scIn_l0 {n : Int} {d k : Nat} {o : List Int} (h : ¬ (scX d k < n ∧ (d : Int) - scX d k < n)) : (scIn n d (k + 1) o).length = (scIn n d k o).length := by rw [scIn, if_neg h]
instance ScanOrder_s : Con 100 (∀ n : Int, n = 0 ∨ n = 4 ∨ n = 8 → Fn 100 [I n] [XI (scanL n)] (.own 0 0 0 (scanL n).length)) := ⟨fun n hn => by
  refine FnC.of_body tabOk Tryz.func100 Tryz.ntmps100 rfl (by decide +kernel) (by simp) fun G => ?_
  have key : n = 0 → scanL n = [] := by rintro rfl; decide
  have k4 : n = 4 → scanL n = scOut 4 7 := by rintro rfl; rfl
  have k8 : n = 8 → scanL n = scOut 8 15 := by rintro rfl; rfl
  rcases hn with rfl | rfl | rfl
  · refine go (r := ?_); and_intros <;> intros <;> try exact True.intro
    refine WpA.loop (fun d : Nat => ⟨[(0, I 0), (3, .own 0 0 0 0), (4, I 0)], [XI []]⟩) (fun d => d ≤ 0) (fun d => 16 - d) 0 (by simp) (go (r := trivial)) (fun d hd => ?_)
    refine go (r := ?_); and_intros <;> intros <;> try exact True.intro
    all_goals rfl
  · refine go (r := ?_); and_intros <;> intros <;> try exact True.intro
    refine WpA.loop (fun d : Nat => ⟨[(0, I 4), (3, .own 0 0 0 (scOut 4 d).length), (4, I d)], [XI (scOut 4 d)]⟩) (fun d => d ≤ 7) (fun d => 7 - d) 0 (by simp) (go (r := ?_)) (fun d hd => ?_)
    · simp [scOut]
    have hol := scOut_len 4 d (by omega)
    have hso : (scOut 4 (d + 1)) = scIn 4 d (d + 1) (scOut 4 d) := rfl
    refine go (r := ?_); and_intros <;> intros <;> try exact True.intro
    · refine WpA.loop (fun k : Nat => ⟨[(0, I 4), (3, .own 0 0 0 (scIn 4 d k (scOut 4 d)).length), (4, I d), (5, I k)], [XI (scIn 4 d k (scOut 4 d))]⟩) (fun k => k ≤ d + 1) (fun k => d + 1 - k) 0 (by omega) (go (r := ?_)) (fun k hk => ?_)
      · simp [scIn]
      have hil := scIn_len 4 d (scOut 4 d) k
      have he := scX_even (d := d) (k := k)
      have hod := scX_odd (d := d) (k := k)
      have hl1 := scIn_l1 (n := 4) (d := d) (k := k) (o := scOut 4 d)
      have hl0 := scIn_l0 (n := 4) (d := d) (k := k) (o := scOut 4 d)
      have hso2 : k = d + 1 → (scOut 4 (d + 1)).length = (scIn 4 d k (scOut 4 d)).length := by rintro rfl; rfl
      refine go (r := ?_); and_intros <;> intros <;> try exact True.intro
      all_goals first
        | (exact scIn_yes (he ‹_›) (by omega) (by omega) (by omega))
        | (exact scIn_yes (hod ‹_›) (by omega) (by omega) (by omega))
        | (exact scIn_no (he ‹_›) (by omega))
        | (exact scIn_no (hod ‹_›) (by omega))
        | skip
      all_goals have e : k = d + 1 := by omega
      all_goals subst e
      all_goals rw [hso]
    all_goals have e : d = 7 := by omega
    all_goals subst e
    all_goals first | rfl | (rw [k4 rfl])
  · refine go (r := ?_); and_intros <;> intros <;> try exact True.intro
    refine WpA.loop (fun d : Nat => ⟨[(0, I 8), (3, .own 0 0 0 (scOut 8 d).length), (4, I d)], [XI (scOut 8 d)]⟩) (fun d => d ≤ 15) (fun d => 15 - d) 0 (by simp) (go (r := ?_)) (fun d hd => ?_)
    · simp [scOut]
    have hol := scOut_len 8 d (by omega)
    have hso : (scOut 8 (d + 1)) = scIn 8 d (d + 1) (scOut 8 d) := rfl
    refine go (r := ?_); and_intros <;> intros <;> try exact True.intro
    · refine WpA.loop (fun k : Nat => ⟨[(0, I 8), (3, .own 0 0 0 (scIn 8 d k (scOut 8 d)).length), (4, I d), (5, I k)], [XI (scIn 8 d k (scOut 8 d))]⟩) (fun k => k ≤ d + 1) (fun k => d + 1 - k) 0 (by omega) (go (r := ?_)) (fun k hk => ?_)
      · simp [scIn]
      have hil := scIn_len 8 d (scOut 8 d) k
      have he := scX_even (d := d) (k := k)
      have hod := scX_odd (d := d) (k := k)
      have hl1 := scIn_l1 (n := 8) (d := d) (k := k) (o := scOut 8 d)
      have hl0 := scIn_l0 (n := 8) (d := d) (k := k) (o := scOut 8 d)
      have hso2 : k = d + 1 → (scOut 8 (d + 1)).length = (scIn 8 d k (scOut 8 d)).length := by rintro rfl; rfl
      refine go (r := ?_); and_intros <;> intros <;> try exact True.intro
      all_goals first
        | (exact scIn_yes (he ‹_›) (by omega) (by omega) (by omega))
        | (exact scIn_yes (hod ‹_›) (by omega) (by omega) (by omega))
        | (exact scIn_no (he ‹_›) (by omega))
        | (exact scIn_no (hod ‹_›) (by omega))
        | skip
      all_goals have e : k = d + 1 := by omega
      all_goals subst e
      all_goals rw [hso]
    all_goals have e : d = 15 := by omega
    all_goals subst e
    all_goals first | rfl | (rw [k8 rfl])⟩
instance ScanOrder_c : Con 112 (∀ n : Int, n = 0 ∨ n = 4 ∨ n = 8 → Fn 112 [I n] [XI (scanL n)] (.own 0 0 0 (scanL n).length)) := ⟨fun n hn => by
  refine FnC.of_body tabOk Tryz.func112 Tryz.ntmps112 rfl (by decide +kernel) (by simp) fun G => ?_
  have k4 : n = 4 → scanL n = scOut 4 7 := by rintro rfl; rfl
  have k8 : n = 8 → scanL n = scOut 8 15 := by rintro rfl; rfl
  rcases hn with rfl | rfl | rfl
  · refine go (r := ?_); and_intros <;> intros <;> try exact True.intro
    all_goals rfl
  · refine go (r := ?_); and_intros <;> intros <;> try exact True.intro
    refine WpA.loop (fun d : Nat => ⟨[(0, I 4), (3, .own 0 0 0 (scOut 4 d).length), (14, I 7), (15, I d)], [XI (scOut 4 d)]⟩) (fun d => d ≤ 7) (fun d => 7 - d) 0 (by simp) (go (r := ?_)) (fun d hd => ?_)
    · simp [scOut]
    have hol := scOut_len 4 d (by omega)
    have hso : (scOut 4 (d + 1)) = scIn 4 d (d + 1) (scOut 4 d) := rfl
    refine go (r := ?_); and_intros <;> intros <;> try exact True.intro
    · refine WpA.loop (fun k : Nat => ⟨[(0, I 4), (3, .own 0 0 0 (scIn 4 d k (scOut 4 d)).length), (4, I d), (14, I 7), (15, I d), (19, I ((d : Int) + 1)), (20, I k)], [XI (scIn 4 d k (scOut 4 d))]⟩) (fun k => k ≤ d + 1) (fun k => d + 1 - k) 0 (by omega) (go (r := ?_)) (fun k hk => ?_)
      · simp [scIn]
      have hil := scIn_len 4 d (scOut 4 d) k
      have he := scX_even (d := d) (k := k)
      have hod := scX_odd (d := d) (k := k)
      have hl1 := scIn_l1 (n := 4) (d := d) (k := k) (o := scOut 4 d)
      have hl0 := scIn_l0 (n := 4) (d := d) (k := k) (o := scOut 4 d)
      have hso2 : k = d + 1 → (scOut 4 (d + 1)).length = (scIn 4 d k (scOut 4 d)).length := by rintro rfl; rfl
      refine go (r := ?_); and_intros <;> intros <;> try exact True.intro
      all_goals first
        | (exact scIn_yes (he ‹_›) (by omega) (by omega) (by omega))
        | (exact scIn_yes (hod ‹_›) (by omega) (by omega) (by omega))
        | (exact scIn_no (he ‹_›) (by omega))
        | (exact scIn_no (hod ‹_›) (by omega))
        | skip
      all_goals have e : k = d + 1 := by omega
      all_goals subst e
      all_goals rw [hso]
    all_goals have e : d = 7 := by omega
    all_goals subst e
    all_goals first | rfl | (rw [k4 rfl])
  · refine go (r := ?_); and_intros <;> intros <;> try exact True.intro
    refine WpA.loop (fun d : Nat => ⟨[(0, I 8), (3, .own 0 0 0 (scOut 8 d).length), (14, I 15), (15, I d)], [XI (scOut 8 d)]⟩) (fun d => d ≤ 15) (fun d => 15 - d) 0 (by simp) (go (r := ?_)) (fun d hd => ?_)
    · simp [scOut]
    have hol := scOut_len 8 d (by omega)
    have hso : (scOut 8 (d + 1)) = scIn 8 d (d + 1) (scOut 8 d) := rfl
    refine go (r := ?_); and_intros <;> intros <;> try exact True.intro
    · refine WpA.loop (fun k : Nat => ⟨[(0, I 8), (3, .own 0 0 0 (scIn 8 d k (scOut 8 d)).length), (4, I d), (14, I 15), (15, I d), (19, I ((d : Int) + 1)), (20, I k)], [XI (scIn 8 d k (scOut 8 d))]⟩) (fun k => k ≤ d + 1) (fun k => d + 1 - k) 0 (by omega) (go (r := ?_)) (fun k hk => ?_)
      · simp [scIn]
      have hil := scIn_len 8 d (scOut 8 d) k
      have he := scX_even (d := d) (k := k)
      have hod := scX_odd (d := d) (k := k)
      have hl1 := scIn_l1 (n := 8) (d := d) (k := k) (o := scOut 8 d)
      have hl0 := scIn_l0 (n := 8) (d := d) (k := k) (o := scOut 8 d)
      have hso2 : k = d + 1 → (scOut 8 (d + 1)).length = (scIn 8 d k (scOut 8 d)).length := by rintro rfl; rfl
      refine go (r := ?_); and_intros <;> intros <;> try exact True.intro
      all_goals first
        | (exact scIn_yes (he ‹_›) (by omega) (by omega) (by omega))
        | (exact scIn_yes (hod ‹_›) (by omega) (by omega) (by omega))
        | (exact scIn_no (he ‹_›) (by omega))
        | (exact scIn_no (hod ‹_›) (by omega))
        | skip
      all_goals have e : k = d + 1 := by omega
      all_goals subst e
      all_goals rw [hso]
    all_goals have e : d = 15 := by omega
    all_goals subst e
    all_goals first | rfl | (rw [k8 rfl])⟩
theorem scan_rg (n : Int) (h : n = 0 ∨ n = 4 ∨ n = 8) : In (scanL n) 0 (n * n - 1) ∧ ((scanL n).length : Int) = n * n := by
  rcases h with rfl | rfl | rfl <;> decide +kernel
end Go.Proofs.YtjhejgamjlokdaaGreat


namespace Go.Proofs.YtjhejgamjlokdaaGreat
open Go Go.Abs
attribute [local irreducible] WpA WpL Rnd Blk Abs.Seq Abs.Fin Abs.FinG FnC FnG Only
theorem qz_snoc (f : Int → Int) (l : List Int) (k : Nat) (h : k < l.length) : (l.take k).map f ++ [f (l.getD k 0)] = (l.take (k + 1)).map f := by
  rw [take_snoc l k h, List.map_append]; rfl
end Go.Proofs.YtjhejgamjlokdaaGreat


namespace Go.Proofs.YtjhejgamjlokdaaGreat
open Go Go.Abs
attribute [local irreducible] WpA WpL Rnd Blk Abs.Seq Abs.Fin Abs.FinG FnC FnG Only
theorem scan_fit (l : List Int) : In (scanL (side l.length)) 0 (l.length - 1) ∧ (scanL (side l.length)).length ≤ 64 := by
  rcases side_cases l.length with ⟨h, e⟩ | ⟨h, e⟩ | ⟨_, _, e⟩
  · have h2 := (scan_rg 4 (by omega)).2
    have h1 := (scan_rg 4 (by omega)).1
    rw [e, h]; exact ⟨h1, by omega⟩
  · have h2 := (scan_rg 8 (by omega)).2
    have h1 := (scan_rg 8 (by omega)).1
    rw [e, h]; exact ⟨h1, by omega⟩
  · rw [e]
    have h0 : scanL 0 = [] := rfl
    rw [h0]
    refine ⟨?_, by simp⟩
    unfold In; intro x hx; cases hx
end Go.Proofs.YtjhejgamjlokdaaGreat


namespace Go.Proofs.YtjhejgamjlokdaaGreat
open Go Go.Abs
attribute [local irreducible] WpA WpL Rnd Blk Abs.Seq Abs.Fin Abs.FinG FnC FnG Only
def marksI (k : Int) (n : Nat) : List Int := (List.range n).map fun i : Nat => k + (i : Int)
@[simp] theorem marksI_len (k : Int) (n : Nat) : (marksI k n).length = n := by simp [marksI]
def marksB (k : Int) (n : Nat) : List Bool := (List.range n).map fun i : Nat => decide ((k + (i : Int)) % 3 = 0)
@[simp] theorem marksB_len (k : Int) (n : Nat) : (marksB k n).length = n := by simp [marksB]
end Go.Proofs.YtjhejgamjlokdaaGreat


namespace Go.Proofs.YtjhejgamjlokdaaGreat
open Go Go.Abs
attribute [local irreducible] WpA WpL Rnd Blk Abs.Seq Abs.Fin Abs.FinG FnC FnG Only
abbrev FitM (l : List Int) : Prop := In l (-1000000000) 1000000000
instance l12Fits_s : Con 125 (∀ (l : List Int) (n : Int), l.length ≤ 1099511627776 ∧ 0 ≤ n ∧ n ≤ 8 → Fn 125 [IL l, I n] [] (B (decide (FitM l ∧ (l.length : Int) = n * n)))) := ⟨fun l n hl => by
  have hnn := mul_in (a := n) (b := n) (by omega) (by omega)
  refine FnC.of_body tabOk Tryz.func125 Tryz.ntmps125 rfl (by decide +kernel) (by simp) fun G => ?_
  refine go (r := ?_); and_intros <;> intros <;> try exact True.intro
  refine WpA.loop (fun k : Nat => ⟨[(0, IL l), (1, I n), (5, I k)], []⟩) (fun k => k ≤ l.length ∧ In (l.take k) (-1000000000) 1000000000) (fun k => l.length - k) 0 (by simp [in_nil]) (go (r := ?_)) (fun k hk => ?_)
  · trivial
  refine go (r := ?_); and_intros <;> intros <;> try exact True.intro
  · rename_i h1 h2
    symm; rw [decide_eq_false_iff_not]; exact fun hh => h2 (in_get hh.1 (by omega))
  · rw [in_snoc (by omega)]; simp_all
  · have e : k = l.length := by omega
    subst e
    have h3 := hk.2
    rw [List.take_length] at h3
    simp [h3]⟩
instance l12Mul_s : Con 136 (∀ (l : List Int) (n : Int) (b : Bool), (n = 4 ∨ n = 8) ∧ (l.length : Int) = n * n ∧ FitM l → Fn 136 [IL l, I n, B b] [XI (mulM n.toNat (mg n.toNat b) l)] (.own 0 0 0 (mulM n.toNat (mg n.toNat b) l).length)) := ⟨fun l n b h => by
  obtain ⟨rfl | rfl, h1, h2⟩ := h
  · exact l12Mul_4 b l ⟨by omega, h2⟩
  · exact l12Mul_8 b l ⟨by omega, h2⟩⟩
theorem prodL_le {n : Nat} {g : Nat → Nat → Int} {l : List Int} (h : n ≤ 8) : (prodL n g l).length ≤ 64 := by
  have := prodL_len n g l
  have h2 : n * n ≤ 8 * 8 := Nat.mul_le_mul h h
  split at this <;> omega
def trL (n : Int) (b : Bool) (l : List Int) : List Int := prodL n.toNat (mg n.toNat b) l
theorem trL_le {n : Int} {b : Bool} {l : List Int} (h : n ≤ 8) : (trL n b l).length ≤ 64 := prodL_le (by omega)
theorem trL_yes {n : Int} {b : Bool} {l : List Int} (h : n = 4 ∨ n = 8) (h1 : FitM l ∧ (l.length : Int) = n * n) : trL n b l = mulM n.toNat (mg n.toNat b) l := by
  rw [trL, prodL, if_pos]
  refine ⟨?_, h1.1⟩
  have := h1.2
  rcases h with rfl | rfl
  · show l.length = 16; omega
  · show l.length = 64; omega
theorem trL_no {n : Int} {b : Bool} {l : List Int} (h : n = 4 ∨ n = 8) (h1 : ¬ (FitM l ∧ (l.length : Int) = n * n)) : trL n b l = [] := by
  rw [trL, prodL, if_neg]
  intro hh; apply h1
  refine ⟨hh.2, ?_⟩
  rcases h with rfl | rfl
  · have : l.length = 16 := hh.1
    omega
  · have : l.length = 64 := hh.1
    omega
instance l12Some_s : Con 123 (∀ (l : List Int) (n : Int) (b : Bool), (n = 4 ∨ n = 8) ∧ l.length ≤ 1099511627776 → Fn 123 [IL l, I n, B b] [XI (trL n b l)] (.own 0 0 0 (trL n b l).length)) := ⟨fun l n b h => by
  have hn := h.1
  have hfl := trL_yes (b := b) (l := l) hn
  refine FnC.of_body tabOk Tryz.func123 Tryz.ntmps123 rfl (by decide +kernel) (by simp) fun G => ?_
  refine go (r := ?_); and_intros <;> intros <;> try exact True.intro
  all_goals first | (rw [trL_no h.1 (by assumption)]; done) | (rw [trL_no h.1 (by assumption)]; rfl) | (rw [hfl (by assumption)]; done) | (exact (‹_ ∧ _›).1) | trace_state⟩
instance Inverse4_s : Con 95 (∀ l : List Int, l.length ≤ 1099511627776 → Fn 95 [IL l] [XI (trL 4 true l)] (.own 0 0 0 (trL 4 true l).length)) := ⟨fun l h => by
  refine FnC.of_body tabOk Tryz.func95 Tryz.ntmps95 rfl (by decide +kernel) (by simp) fun G => ?_
  refine go (r := ?_); and_intros <;> intros <;> try exact True.intro⟩
instance Inverse8_s : Con 96 (∀ l : List Int, l.length ≤ 1099511627776 → Fn 96 [IL l] [XI (trL 8 true l)] (.own 0 0 0 (trL 8 true l).length)) := ⟨fun l h => by
  refine FnC.of_body tabOk Tryz.func96 Tryz.ntmps96 rfl (by decide +kernel) (by simp) fun G => ?_
  refine go (r := ?_); and_intros <;> intros <;> try exact True.intro⟩
def gOf (M : List (List Int)) (r i : Nat) : Int := (M.getD r default).getD i 0
def MatOk (n : Nat) (M : List (List Int)) : Prop := M.length = n ∧ (∀ r, r < n → (M.getD r default).length = n) ∧ Sgn (gOf M)
instance product_c : Con 116 (∀ (n : Nat) (M : List (List Int)) (l : List Int), (n = 4 ∨ n = 8) ∧ MatOk n M ∧ l.length ≤ 1099511627776 → Fn 116 [LLn n M, IL l] [XI (prodL n (gOf M) l)] (.own 0 0 0 (prodL n (gOf M) l).length)) := ⟨fun n M l h => by
  obtain ⟨rfl | rfl, h1, h2⟩ := h
  · exact product_4 (gOf M) M l h1.2.2 ⟨h1.1, h1.2.1, fun _ _ _ _ => rfl⟩ h2
  · exact product_8 (gOf M) M l h1.2.2 ⟨h1.1, h1.2.1, fun _ _ _ _ => rfl⟩ h2⟩
theorem sumF_congr {f g : Nat → Int} : ∀ k, (∀ i, i < k → f i = g i) → sumF f k = sumF g k
  | 0, _ => rfl
  | k + 1, h => by rw [sumF, sumF, sumF_congr k (fun i hi => h i (by omega)), h k (by omega)]
theorem prodL_congr {n : Nat} {f g : Nat → Nat → Int} {l : List Int} (hn : 0 < n) (h : ∀ r i, r < n → i < n → f r i = g r i) : prodL n f l = prodL n g l := by
  have hm : mulM n f l = mulM n g l := by
    refine list_ext (N := n * n) (tabL_len _ _) (tabL_len _ _) fun q hq => ?_
    unfold mulM
    rw [tabL_get hq, tabL_get hq]
    have h1 : q / n < n := Nat.div_lt_of_lt_mul hq
    have h2 : q % n < n := Nat.mod_lt _ hn
    refine sumF_congr n fun i hi => ?_
    rw [h _ _ h2 hi]
    congr 1
    exact sumF_congr n fun j hj => by rw [h _ _ h1 hj]
  unfold prodL; rw [hm]
theorem A4_ok : MatOk 4 A4 := by
  refine ⟨rfl, ?_, fun r i => mx_val 4 r i⟩
  intro r hr
  rcases (by omega : r = 0 ∨ r = 1 ∨ r = 2 ∨ r = 3) with rfl | rfl | rfl | rfl <;> rfl
theorem H8_row {r : Nat} (h : r < 8) : H8.getD r default = tabL (mx 8 r) 8 := by
  simp [H8, h]
theorem gOf_H8 {r i : Nat} (h : r < 8) (h2 : i < 8) : gOf H8 r i = mx 8 r i := by
  rw [gOf, H8_row h, tabL_get h2]
theorem H8_ok : MatOk 8 H8 := by
  refine ⟨by simp [H8], fun r hr => by rw [H8_row hr, tabL_len], fun r i => ?_⟩
  by_cases h : r < 8
  · by_cases h2 : i < 8
    · rw [gOf_H8 h h2]; exact mx_val 8 r i
    · right; right; left
      rw [gOf, H8_row h, List.getD_eq_getElem?_getD, List.getElem?_eq_none (by rw [tabL_len]; omega)]; rfl
  · right; right; left
    have : H8.getD r default = [] := by rw [List.getD_eq_getElem?_getD, List.getElem?_eq_none (by simp [H8]; omega)]; rfl
    rw [gOf, this]; rfl
end Go.Proofs.YtjhejgamjlokdaaGreat


namespace Go.Proofs.YtjhejgamjlokdaaGreat
open Go Go.Abs
attribute [local irreducible] WpA WpL Rnd Blk Abs.Seq Abs.Fin Abs.FinG FnC FnG Only
def modeNames : List (List UInt8) := [[109, 101, 97, 110], [100, 111, 119, 110], [97, 99, 114, 111, 115, 115], [115, 108, 111, 112, 101], [108, 101, 102, 116], [114, 105, 103, 104, 116]]
def modeW (m : Int) : List UInt8 := if 0 ≤ m ∧ m ≤ 5 then modeNames.getD m.toNat [] else []
theorem modeW_nil (m : Int) : modeW m = [] ↔ ¬ (0 ≤ m ∧ m ≤ 5) := by
  have key : ∀ k : Fin 6, modeNames.getD k.val [] ≠ [] := by decide
  unfold modeW
  constructor
  · intro h hm
    rw [if_pos hm] at h
    exact key ⟨m.toNat, by omega⟩ h
  · intro h; rw [if_neg h]
instance ModeWord_s : Con 36 (∀ m : Int, Fn 36 [I m] [] (Z (modeW m))) := ⟨fun m => by
  refine FnC.of_body tabOk Tryz.func36 Tryz.ntmps36 rfl (by decide +kernel) (by simp) fun G => ?_
  refine go (r := ?_); and_intros <;> intros <;> try exact True.intro
  all_goals first | (rw [modeW, if_neg (by assumption)]; done) | (rw [modeW, if_pos (by assumption)]; rfl)⟩
end Go.Proofs.YtjhejgamjlokdaaGreat


namespace Go.Proofs.YtjhejgamjlokdaaGreat
open Go Go.Abs
attribute [local irreducible] WpA WpL Rnd Blk Abs.Seq Abs.Fin Abs.FinG FnC FnG Only
abbrev LvOk (l : List Int) : Prop := In l (-16383) 16383 ∧ (l.length = 16 ∨ l.length = 64)
instance LevelsOk_s : Con 62 (∀ l : List Int, l.length ≤ 1099511627776 → Fn 62 [IL l] [] (B (decide (LvOk l)))) := ⟨fun l hl => by
  have hsp := side_pos l.length
  refine FnC.of_body tabOk Tryz.func62 Tryz.ntmps62 rfl (by decide +kernel) (by simp) fun G => ?_
  refine go (r := ?_); and_intros <;> intros <;> try exact True.intro
  refine WpA.loop (fun k : Nat => ⟨[(0, IL l), (3, I k)], []⟩) (fun k => k ≤ l.length ∧ In (l.take k) (-16383) 16383) (fun k => l.length - k) 0 (by simp [in_nil]) (go (r := ?_)) (fun k hk => ?_)
  · trivial
  have hi := fun h => in_snoc (lo := -16383) (hi := 16383) (l := l) (k := k) h
  refine go (r := ?_); and_intros <;> intros <;> try exact True.intro
  · have := notin (k := k) (by omega) ‹¬ (-16383 ≤ l.getD k 0 ∧ _)›; rw [eq_comm, decide_eq_false_iff_not] at *; exact fun h => this h.1
  · rw [hi (by omega)]; exact ⟨hk.2, ‹_›⟩
  all_goals have e : k = l.length := by omega
  all_goals subst e
  all_goals rw [List.take_length] at *
  simp [hk.2, hsp]⟩
instance LevelsOk_c : Con 84 (∀ l : List Int, l.length ≤ 1099511627776 → Fn 84 [IL l] [] (B (decide (LvOk l)))) := ⟨fun l hl => by
  have hsp := side_pos l.length
  refine FnC.of_body tabOk Tryz.func84 Tryz.ntmps84 rfl (by decide +kernel) (by simp) fun G => ?_
  refine go (r := ?_); and_intros <;> intros <;> try exact True.intro
  refine WpA.loop (fun k : Nat => ⟨[(0, IL l), (5, IL l), (6, I l.length), (7, I k)], []⟩) (fun k => k ≤ l.length ∧ In (l.take k) (-16383) 16383) (fun k => l.length - k) 0 (by simp [in_nil]) (go (r := ?_)) (fun k hk => ?_)
  · trivial
  have hi := fun h => in_snoc (lo := -16383) (hi := 16383) (l := l) (k := k) h
  refine go (r := ?_); and_intros <;> intros <;> try exact True.intro
  · have := notin (k := k) (by omega) ‹¬ (-16383 ≤ l.getD k 0 ∧ _)›; rw [eq_comm, decide_eq_false_iff_not] at *; exact fun h => this h.1
  · rw [hi (by omega)]; exact ⟨hk.2, ‹_›⟩
  all_goals have e : k = l.length := by omega
  all_goals subst e
  all_goals rw [List.take_length] at *
  simp [hk.2, hsp]⟩
end Go.Proofs.YtjhejgamjlokdaaGreat


namespace Go.Proofs.YtjhejgamjlokdaaGreat
open Go Go.Abs
def plcK (o l : List Int) : Nat → List Int
  | 0 => List.replicate o.length 0
  | k + 1 => (plcK o l k).set (o.getD k 0).toNat (l.getD k 0)
def plcL (l : List Int) : List Int := plcK (scanL (side l.length)) l (scanL (side l.length)).length
theorem plcK_len (o l : List Int) : ∀ k, (plcK o l k).length = o.length
  | 0 => by simp [plcK]
  | k + 1 => by rw [plcK, List.length_set]; exact plcK_len o l k
theorem plcL_len (l : List Int) : (plcL l).length = (scanL (side l.length)).length := plcK_len _ _ _
theorem plcK_in {o l : List Int} {c : Int} (hc : 0 ≤ c) (h : In l (-c) c) : ∀ k, In (plcK o l k) (-c) c
  | 0 => in_all fun j hj => by
    rw [plcK, List.getD_eq_getElem?_getD, List.getElem?_replicate]
    split <;> simp <;> omega
  | k + 1 => in_all fun j hj => by
    rw [plcK, List.getD_eq_getElem?_getD, List.getElem?_set]
    split
    · split
      · exact in_getZ h hc k
      · simp; omega
    · have := in_getZ (plcK_in (o := o) hc h k) hc j
      rw [List.getD_eq_getElem?_getD] at this; exact this
theorem plcL_ok {l : List Int} (h : LvOk l) : LvOk (plcL l) := by
  refine ⟨plcK_in (by decide) h.1 _, ?_⟩
  rw [plcL_len]
  rcases h.2 with e | e
  · rw [e]; exact .inl (by have := (scan_rg 4 (by omega)).2; show (scanL 4).length = 16; omega)
  · rw [e]; exact .inr (by have := (scan_rg 8 (by omega)).2; show (scanL 8).length = 64; omega)
theorem plcL_len2 {l : List Int} (h : l.length = 16 ∨ l.length = 64) : (plcL l).length = l.length := by
  rw [plcL_len]
  rcases h with e | e
  · rw [e]; have := (scan_rg 4 (by omega)).2; show (scanL 4).length = 16; omega
  · rw [e]; have := (scan_rg 8 (by omega)).2; show (scanL 8).length = 64; omega
def normL (n i : Int) : Int := if (n = 4 ∨ n = 8) ∧ 0 ≤ i ∧ i ≤ n * n - 1 then (if n = 8 then 1 else if i / 4 % 2 + i % 4 % 2 = 0 then 100 else if i / 4 % 2 + i % 4 % 2 = 2 then 16 else 40) else 0
theorem normL_bd (n i : Int) : 0 ≤ normL n i ∧ normL n i ≤ 100 := by unfold normL; split <;> (try split) <;> (try split) <;> (try split) <;> omega
def scaF (l : List Int) (q : Int) (i : Nat) : Int := l.getD i 0 * stepL q * normL (side l.length) i
def scaL (l : List Int) (q : Int) : List Int := if LvOk l ∧ 0 < stepL q then tabL (scaF l q) l.length else []
theorem stepL_bd (q : Int) : 0 ≤ stepL q ∧ stepL q ≤ 500 := by
  by_cases h : 0 ≤ q ∧ q ≤ 51
  · have := stepL_in q h; omega
  · unfold stepL; rw [if_neg h]; omega
theorem mul_bds {a b A B : Int} (ha : -A ≤ a ∧ a ≤ A) (hb : 0 ≤ b ∧ b ≤ B) (hA : 0 ≤ A) : -(A * B) ≤ a * b ∧ a * b ≤ A * B := by
  have h1 : a * b ≤ A * b := Int.mul_le_mul_of_nonneg_right ha.2 hb.1
  have h2 : A * b ≤ A * B := Int.mul_le_mul_of_nonneg_left hb.2 hA
  have h3 : -A * b ≤ a * b := Int.mul_le_mul_of_nonneg_right ha.1 hb.1
  rw [Int.neg_mul] at h3
  omega
theorem sca1_bd {l : List Int} (h : In l (-16383) 16383) (q : Int) (i : Nat) : -8191500 ≤ l.getD i 0 * stepL q ∧ l.getD i 0 * stepL q ≤ 8191500 := by
  have := mul_bds (in_getZ (c := 16383) h (by decide) i) (stepL_bd q) (by decide)
  omega
theorem scaF_bd {l : List Int} (h : In l (-16383) 16383) (q : Int) (i : Nat) : -819150000 ≤ scaF l q i ∧ scaF l q i ≤ 819150000 := by
  have := mul_bds (sca1_bd h q i) (normL_bd (side l.length) i) (by decide)
  unfold scaF; omega
theorem scaL_len (l : List Int) (q : Int) : (scaL l q).length = if LvOk l ∧ 0 < stepL q then l.length else 0 := by
  unfold scaL; split <;> simp [tabL_len]
theorem scaL_fit (l : List Int) (q : Int) : FitM (scaL l q) := by
  unfold FitM In
  intro x hx
  unfold scaL at hx
  split at hx
  · rename_i h
    unfold tabL at hx
    obtain ⟨i, _, rfl⟩ := List.mem_map.1 hx
    have := scaF_bd h.1.1 q i
    omega
  · cases hx
def rnd1 (k : Nat) (v : Int) : Int := if k = 16 then (max (-1000000000000) (min 1000000000000 v) + 800) / 1600 else (max (-1000000000000) (min 1000000000000 v) + 32) / 64
def rndL (l : List Int) : List Int := if 0 < side l.length then l.map (rnd1 l.length) else []
theorem rndL_le (l : List Int) : (rndL l).length ≤ 64 := by
  unfold rndL; split
  · rename_i h; rw [List.length_map]; have := (side_pos l.length).1 h; omega
  · simp
theorem floor_neg {v d : Int} (hv : v < 0) (hd : 0 < d) : -((-v + d - 1) / d) = v / d := by
  have h1 := Int.mul_ediv_add_emod v d
  have h2 := Int.emod_nonneg v (by omega : d ≠ 0)
  have h3 := Int.emod_lt_of_pos v hd
  have e : (-v + d - 1) / d = - (v / d) := by
    have e2 : -v + d - 1 = (d - 1 - v % d) + d * (-(v / d)) := by rw [Int.mul_neg]; omega
    rw [e2, Int.add_mul_ediv_left _ _ (by omega), Int.ediv_eq_zero_of_lt (by omega) (by omega), Int.zero_add]
  omega
theorem floor_t {a b : Int} (hb : 0 < b) : (if a.tmod b < 0 then a.tdiv b - 1 else a.tdiv b) = a / b := by
  have h1 := Int.mul_ediv_add_emod a b
  have h2 := Int.emod_nonneg a (by omega : b ≠ 0)
  have h3 := Int.emod_lt_of_pos a hb
  have h4 := Int.mul_tdiv_add_tmod a b
  rcases Int.lt_or_le a 0 with h | h
  · have h0 : (-a).tmod b = -(a.tmod b) := Int.neg_tmod ..
    have h5 := Int.tmod_nonneg b (show 0 ≤ -a by omega)
    have h6 := Int.tmod_lt_of_pos (-a) hb
    rw [h0] at h5 h6
    split
    · rename_i h7
      have : b * (a.tdiv b - 1 - a / b) = - (a.tmod b + b) + a % b := by rw [Int.mul_sub, Int.mul_sub]; omega
      have h8 : a.tdiv b - 1 - a / b = 0 := by
        rcases Int.lt_trichotomy (a.tdiv b - 1 - a / b) 0 with h9 | h9 | h9
        · have := Int.mul_le_mul_of_nonneg_left (show a.tdiv b - 1 - a / b ≤ -1 by omega) (Int.le_of_lt hb); omega
        · exact h9
        · have := Int.mul_le_mul_of_nonneg_left (show 1 ≤ a.tdiv b - 1 - a / b by omega) (Int.le_of_lt hb); omega
      omega
    · have : b * (a.tdiv b - a / b) = a % b - a.tmod b := by rw [Int.mul_sub]; omega
      have h8 : a.tdiv b - a / b = 0 := by
        rcases Int.lt_trichotomy (a.tdiv b - a / b) 0 with h9 | h9 | h9
        · have := Int.mul_le_mul_of_nonneg_left (show a.tdiv b - a / b ≤ -1 by omega) (Int.le_of_lt hb); omega
        · exact h9
        · have := Int.mul_le_mul_of_nonneg_left (show 1 ≤ a.tdiv b - a / b by omega) (Int.le_of_lt hb); omega
      omega
  · rw [Int.tdiv_eq_ediv_of_nonneg h, Int.tmod_eq_emod_of_nonneg h]
    rw [if_neg (by omega)]
def resL (b : Bool) (q : Int) (l : List Int) : List Int := if LvOk l ∧ 0 < stepL q then (if b = true then plcL l else rndL (trL (side l.length) true (scaL (plcL l) q))) else []
theorem resL_le (b : Bool) (q : Int) (l : List Int) : (resL b q l).length ≤ 64 := by
  unfold resL; split
  · rename_i h
    split
    · rw [plcL_len]; exact (scan_fit l).2
    · exact rndL_le _
  · simp
theorem scan4_all (p : Nat) (hp : p < 16) : ∃ k, k < 16 ∧ (scanL 4).getD k 0 = (p : Int) := by
  have key : ∀ p : Fin 16, ∃ k : Fin 16, (scanL 4).getD k.val 0 = ((p.val : Nat) : Int) := by decide +kernel
  obtain ⟨k, hk⟩ := key ⟨p, hp⟩
  exact ⟨k.val, k.isLt, hk⟩
theorem scan8_all (p : Nat) (hp : p < 64) : ∃ k, k < 64 ∧ (scanL 8).getD k 0 = (p : Int) := by
  have key : ∀ p : Fin 64, ∃ k : Fin 64, (scanL 8).getD k.val 0 = ((p.val : Nat) : Int) := by decide +kernel
  obtain ⟨k, hk⟩ := key ⟨p, hp⟩
  exact ⟨k.val, k.isLt, hk⟩
theorem scan4_inj (i : Nat) (hi : i < 16) (j : Nat) (hj : j < 16) (h : (scanL 4).getD i 0 = (scanL 4).getD j 0) : i = j := by
  have key : ∀ i j : Fin 16, (scanL 4).getD i.val 0 = (scanL 4).getD j.val 0 → i = j := by decide +kernel
  exact congrArg Fin.val (key ⟨i, hi⟩ ⟨j, hj⟩ h)
theorem scan8_inj (i : Nat) (hi : i < 64) (j : Nat) (hj : j < 64) (h : (scanL 8).getD i 0 = (scanL 8).getD j 0) : i = j := by
  have key : ∀ i j : Fin 64, (scanL 8).getD i.val 0 = (scanL 8).getD j.val 0 → i = j := by decide +kernel
  exact congrArg Fin.val (key ⟨i, hi⟩ ⟨j, hj⟩ h)
theorem scan_facts {l : List Int} (h : l.length = 16 ∨ l.length = 64) : (scanL (side l.length)).length = l.length ∧ In (scanL (side l.length)) 0 (l.length - 1) ∧ (∀ i, i < l.length → ∀ j, j < l.length → (scanL (side l.length)).getD i 0 = (scanL (side l.length)).getD j 0 → i = j) ∧ ∀ p, p < l.length → ∃ k, k < l.length ∧ (scanL (side l.length)).getD k 0 = (p : Int) := by
  rcases h with e | e
  · rw [e]
    have h1 := scan_rg 4 (by omega)
    exact ⟨by show (scanL 4).length = 16; omega, h1.1, scan4_inj, scan4_all⟩
  · rw [e]
    have h1 := scan_rg 8 (by omega)
    exact ⟨by show (scanL 8).length = 64; omega, h1.1, scan8_inj, scan8_all⟩
end Go.Proofs.YtjhejgamjlokdaaGreat


namespace Go.Proofs.YtjhejgamjlokdaaGreat
open Go Go.Abs
end Go.Proofs.YtjhejgamjlokdaaGreat


namespace Go.Proofs.YtjhejgamjlokdaaGreat
open Go Go.Abs
attribute [local irreducible] belowD onceD pickD modeD l8D l8AnyD optD anyD seedD
structure Hd6 where
  w : Int
  h : Int
  q : Int
  b : Bool
  d : Bool
  lens : List Int
abbrev quant6 : List Int := [0, 6, 12, 20, 36, 51]
def headD (l : List Int) (c : Cr) : Cr × Hd6 :=
  let w := belowD l c 2
  let h := belowD l w.1 2
  let q := pickD l h.1 quant6
  let b := onceD l q.1 4
  let d := onceD l b.1 2
  let e := l8D l d.1
  (e.1, ⟨8 * (1 + w.2), 8 * (1 + h.2), q.2, b.2, d.2, e.2⟩)
theorem headD_ok {l : List Int} {c : Cr} (h : CrOk l c) : CrOk l (headD l c).1 ∧ (headD l c).2.lens.length = 6 ∧ SidesOk (headD l c).2.w (headD l c).2.h := by
  have h1 := belowD_ok 2 h
  have h2 := belowD_ok 2 h1.1
  have h3 := pickD_ok (xs := quant6) h2.1 (by decide)
  have h4 := onceD_ok 4 h3.1
  have h5 := onceD_ok 2 h4
  have h6 := l8D_ok h5
  have a1 := h1.2.1
  have a2 := h1.2.2.1 (by decide)
  have a3 := h2.2.1
  have a4 := h2.2.2.1 (by decide)
  refine ⟨h6.1, h6.2, ?_⟩
  show SidesOk (8 * (1 + (belowD l c 2).2)) (8 * (1 + (belowD l (belowD l c 2).1 2).2))
  refine ⟨?_, ?_, ?_, ?_, ?_, ?_⟩ <;> omega
def headAnyD (l : List Int) (c : Cr) : Cr × Hd6 :=
  let x := headD l c
  let s := belowD l x.1 12
  if s.2 = 0 then
    let p := pickD l s.1 [0, 40, 12, 32]
    (p.1, { x.2 with w := p.2 })
  else if s.2 = 1 then
    let p := pickD l s.1 [-1, 52, 51]
    (p.1, { x.2 with q := p.2 })
  else if s.2 = 2 then
    let y := l8AnyD l s.1
    (y.1, { x.2 with lens := y.2 })
  else (s.1, x.2)
def sqS (l : List Int) (most : Int) (s : Cr × List Int) : Cr × List Int :=
  if (onceD l s.1 2).2 = true then ((belowD l (onceD l s.1 2).1 (2 * most + 1)).1, s.2 ++ [(belowD l (onceD l s.1 2).1 (2 * most + 1)).2 - most]) else ((onceD l s.1 2).1, s.2 ++ [0])
def sqK (l : List Int) (most : Int) : Nat → Cr × List Int → Cr × List Int
  | 0, s => s
  | n + 1, s => sqK l most n (sqS l most s)
theorem sqS_ok {l : List Int} {most : Int} {s : Cr × List Int} (h : CrOk l s.1) : CrOk l (sqS l most s).1 ∧ (sqS l most s).2.length = s.2.length + 1 := by
  have h1 := onceD_ok 2 h
  unfold sqS; split
  · exact ⟨(belowD_ok _ h1).1, by simp⟩
  · exact ⟨h1, by simp⟩
theorem sqK_ok {l : List Int} {most : Int} : ∀ (n : Nat) {s : Cr × List Int}, CrOk l s.1 → CrOk l (sqK l most n s).1 ∧ (sqK l most n s).2.length = s.2.length + n
  | 0, s, h => ⟨h, rfl⟩
  | n + 1, s, h => by
    have h1 := sqS_ok (most := most) h
    have h2 := sqK_ok (most := most) n h1.1
    exact ⟨h2.1, by rw [sqK, h2.2, h1.2]; omega⟩
abbrev odd3 : List Int := [0, 15, 63]
def sqN0 (l : List Int) (c : Cr) : Int := if (onceD l c 3).2 = true then 64 else 16
def sqN (l : List Int) (c : Cr) : Cr × Int := if (onceD l (onceD l c 3).1 14).2 = true then pickD l (onceD l (onceD l c 3).1 14).1 odd3 else ((onceD l (onceD l c 3).1 14).1, sqN0 l c)
theorem sqN_ok {l : List Int} {c : Cr} (h : CrOk l c) : CrOk l (sqN l c).1 ∧ 0 ≤ (sqN l c).2 ∧ (sqN l c).2 ≤ 64 := by
  have h1 := onceD_ok 3 h
  have h2 := onceD_ok 14 h1
  unfold sqN; split
  · have h3 := pickD_ok (xs := odd3) h2 (by decide)
    refine ⟨h3.1, ?_⟩
    have := h3.2
    simp only [List.mem_cons, List.not_mem_nil, or_false] at this
    omega
  · refine ⟨h2, ?_⟩
    show 0 ≤ sqN0 l c ∧ sqN0 l c ≤ 64
    unfold sqN0; split <;> omega
def squareD (l : List Int) (c : Cr) (most : Int) : Cr × List Int := sqK l most (sqN l c).2.toNat ((sqN l c).1, [])
theorem squareD_ok {l : List Int} {c : Cr} (most : Int) (h : CrOk l c) : CrOk l (squareD l c most).1 ∧ (squareD l c most).2.length ≤ 64 := by
  have h1 := sqN_ok h
  have h2 := sqK_ok (most := most) (sqN l c).2.toNat (s := ((sqN l c).1, [])) h1.1
  refine ⟨h2.1, ?_⟩
  unfold squareD
  rw [h2.2]; simp only [List.length_nil]; omega
abbrev big4 : List Int := [16383, -16383, 16384, 5000]
def lvA (l : List Int) (s : Cr × List Int) : Cr × List Int :=
  if (onceD l s.1 6).2 = true then ((pickD l (belowD l (onceD l s.1 6).1 s.2.length).1 big4).1, s.2.set (belowD l (onceD l s.1 6).1 s.2.length).2.toNat (pickD l (belowD l (onceD l s.1 6).1 s.2.length).1 big4).2) else ((onceD l s.1 6).1, s.2)
def lvB (l : List Int) (s : Cr × List Int) : Cr × List Int := if s.2.length = 0 then s else lvA l s
def tail3 (x : List Int) : List Int := x.take 3 ++ List.replicate (x.length - 3) 0
def lev10D (l : List Int) (c : Cr) : Cr × List Int :=
  ((onceD l (lvB l (squareD l c 30)).1 4).1, if (onceD l (lvB l (squareD l c 30)).1 4).2 = true then tail3 (lvB l (squareD l c 30)).2 else (lvB l (squareD l c 30)).2)
theorem lvA_ok {l : List Int} {s : Cr × List Int} (h : CrOk l s.1) : CrOk l (lvA l s).1 ∧ (lvA l s).2.length = s.2.length := by
  have h1 := onceD_ok 6 h
  have h2 := belowD_ok s.2.length h1
  unfold lvA; split
  · exact ⟨(pickD_ok h2.1 (by decide)).1, by simp⟩
  · exact ⟨h1, rfl⟩
theorem lvB_ok {l : List Int} {s : Cr × List Int} (h : CrOk l s.1) : CrOk l (lvB l s).1 ∧ (lvB l s).2.length = s.2.length := by
  unfold lvB; split
  · exact ⟨h, rfl⟩
  · exact lvA_ok h
theorem tail3_len (x : List Int) : (tail3 x).length = x.length := by simp [tail3]; omega
theorem lev10D_ok {l : List Int} {c : Cr} (h : CrOk l c) : CrOk l (lev10D l c).1 ∧ (lev10D l c).2.length ≤ 64 := by
  have h1 := squareD_ok 30 h
  have h2 := lvB_ok h1.1
  refine ⟨onceD_ok 4 h2.1, ?_⟩
  unfold lev10D
  simp only
  split
  · rw [tail3_len]; omega
  · omega
def lim3 (v : Int) : Int := max (-300) (min 300 v)
def lev25D (l : List Int) (c : Cr) : Cr × List Int := ((onceD l (lev10D l c).1 2).1, if (onceD l (lev10D l c).1 2).2 = true then (lev10D l c).2.map lim3 else (lev10D l c).2)
theorem lev25D_ok {l : List Int} {c : Cr} (h : CrOk l c) : CrOk l (lev25D l c).1 ∧ (lev25D l c).2.length ≤ 64 := by
  have h1 := lev10D_ok h
  refine ⟨onceD_ok 2 h1.1, ?_⟩
  unfold lev25D
  simp only
  split
  · rw [List.length_map]; exact h1.2
  · exact h1.2
end Go.Proofs.YtjhejgamjlokdaaGreat


namespace Go.Proofs.YtjhejgamjlokdaaGreat
open Go Go.Abs
attribute [local irreducible] WpA WpL Rnd Blk Abs.Seq Abs.Fin Abs.FinG FnC FnG Only
end Go.Proofs.YtjhejgamjlokdaaGreat


namespace Go.Proofs.YtjhejgamjlokdaaGreat
open Go Go.Abs
attribute [local irreducible] belowD onceD pickD modeD l8D l8AnyD optD anyD seedD headD headAnyD
def bmA (l lens : List Int) : Nat → Bool → Cr × Int → Cr × Int
  | 0, _, s => s
  | n + 1, f, s => if f = true ∨ ¬ HasC lens s.2 then bmA l lens n false (belowD l s.1 6) else s
def bmB (lens : List Int) : Nat → Int → Int
  | 0, m => m
  | n + 1, m => if ¬ HasC lens m then bmB lens n (m + 1) else m
def bmC (lens : List Int) (m : Int) : Int := if HasC lens m then m else 1
theorem bmA_ok {l lens : List Int} : ∀ (n : Nat) (f : Bool) {s : Cr × Int}, CrOk l s.1 → 0 ≤ s.2 ∧ s.2 ≤ 5 → CrOk l (bmA l lens n f s).1 ∧ 0 ≤ (bmA l lens n f s).2 ∧ (bmA l lens n f s).2 ≤ 5
  | 0, _, s, h, hb => ⟨h, hb⟩
  | n + 1, f, s, h, hb => by
    rw [bmA]; split
    · have h1 := belowD_ok 6 h
      have h2 := h1.2.1
      have h3 := h1.2.2.1 (by decide)
      exact bmA_ok n false h1.1 ⟨h2, by omega⟩
    · exact ⟨h, hb⟩
theorem bmA_go {l lens : List Int} {n : Nat} {f : Bool} {s : Cr × Int} (h : f = true ∨ ¬ HasC lens s.2) : bmA l lens (n + 1) f s = bmA l lens n false (belowD l s.1 6) := by rw [bmA, if_pos h]
theorem bmA_stop {l lens : List Int} {n : Nat} {s : Cr × Int} (h : HasC lens s.2) : bmA l lens n false s = s := by
  cases n with
  | zero => rfl
  | succ n => rw [bmA, if_neg]; rintro (h1 | h1); cases h1; exact h1 h
theorem bmB_go {lens : List Int} {m : Int} (hm : m < 6) (h : ¬ HasC lens m) : bmB lens (6 - m).toNat m = bmB lens (6 - (m + 1)).toNat (m + 1) := by
  rw [show (6 - m).toNat = (6 - (m + 1)).toNat + 1 by omega, bmB, if_pos h]
theorem bmB_stop {lens : List Int} {m : Int} (h : HasC lens m ∨ ¬ m < 6) : bmB lens (6 - m).toNat m = m := by
  by_cases hm : m < 6
  · rw [show (6 - m).toNat = (6 - (m + 1)).toNat + 1 by omega, bmB, if_neg]
    rcases h with h | h
    · exact fun h1 => h1 h
    · exact absurd hm h
  · rw [show (6 - m).toNat = 0 by omega]; rfl
def blkM (l lens : List Int) (c : Cr) : Cr × Int := ((bmA l lens 8 true (c, 0)).1, bmC lens (bmB lens (6 - (bmA l lens 8 true (c, 0)).2).toNat (bmA l lens 8 true (c, 0)).2))
theorem blkM_ok {l lens : List Int} {c : Cr} (h : CrOk l c) : CrOk l (blkM l lens c).1 := (bmA_ok 8 true (s := (c, 0)) h ⟨Int.le_refl 0, by show (0 : Int) ≤ 5; omega⟩).1
abbrev ixs (n : Int) (x : Int) : List Int := [0, 0, 1, 2, n * n - 1, x]
abbrev lvs (x : Int) : List Int := [1, -1, 3, -20, 90, x - 200]
def dvS (l : List Int) (n : Int) (s : Cr × List Int) : Cr × List Int :=
  ((pickD l (belowD l (pickD l (belowD l s.1 (n * n)).1 (ixs n (belowD l s.1 (n * n)).2)).1 400).1 (lvs (belowD l (pickD l (belowD l s.1 (n * n)).1 (ixs n (belowD l s.1 (n * n)).2)).1 400).2)).1,
    s.2.set (pickD l (belowD l s.1 (n * n)).1 (ixs n (belowD l s.1 (n * n)).2)).2.toNat (pickD l (belowD l (pickD l (belowD l s.1 (n * n)).1 (ixs n (belowD l s.1 (n * n)).2)).1 400).1 (lvs (belowD l (pickD l (belowD l s.1 (n * n)).1 (ixs n (belowD l s.1 (n * n)).2)).1 400).2)).2)
def dvK (l : List Int) (n : Int) : Nat → Cr × List Int → Cr × List Int
  | 0, s => s
  | k + 1, s => dvK l n k (dvS l n s)
structure LvSt (l : List Int) (n : Int) (s : Cr × List Int) where
  b : Cr × Int
  i : Cr × Int
  q : Cr × Int
  v : Cr × Int
  hb : b = belowD l s.1 (n * n)
  hi : i = pickD l b.1 (ixs n b.2)
  hq : q = belowD l i.1 400
  hv : v = pickD l q.1 (lvs q.2)
theorem dvS_facts {l : List Int} {n : Int} {s : Cr × List Int} (hn : n = 4 ∨ n = 8) (h : CrOk l s.1) : CrOk l (belowD l s.1 (n * n)).1 ∧ CrOk l (pickD l (belowD l s.1 (n * n)).1 (ixs n (belowD l s.1 (n * n)).2)).1 ∧
    (0 ≤ (pickD l (belowD l s.1 (n * n)).1 (ixs n (belowD l s.1 (n * n)).2)).2 ∧ (pickD l (belowD l s.1 (n * n)).1 (ixs n (belowD l s.1 (n * n)).2)).2 < n * n) ∧
    CrOk l (belowD l (pickD l (belowD l s.1 (n * n)).1 (ixs n (belowD l s.1 (n * n)).2)).1 400).1 ∧ CrOk l (dvS l n s).1 ∧ (dvS l n s).2.length = s.2.length := by
  have hnn : n * n = 16 ∨ n * n = 64 := by rcases hn with rfl | rfl <;> decide
  have h1 := belowD_ok (n * n) h
  have h2 := pickD_ok (xs := ixs n (belowD l s.1 (n * n)).2) h1.1 (by simp)
  have h3 := belowD_ok 400 h2.1
  have h4 := pickD_ok (xs := lvs (belowD l (pickD l (belowD l s.1 (n * n)).1 (ixs n (belowD l s.1 (n * n)).2)).1 400).2) h3.1 (by simp)
  have a := h1.2.1
  have b := h1.2.2.1 (by omega)
  have e := h2.2
  simp only [List.mem_cons, List.not_mem_nil, or_false] at e
  exact ⟨h1.1, h2.1, by omega, h3.1, h4.1, by unfold dvS; rw [List.length_set]⟩
theorem dvK_ok {l : List Int} {n : Int} (hn : n = 4 ∨ n = 8) : ∀ (k : Nat) {s : Cr × List Int}, CrOk l s.1 → CrOk l (dvK l n k s).1 ∧ (dvK l n k s).2.length = s.2.length
  | 0, s, h => ⟨h, rfl⟩
  | k + 1, s, h => by
    have h1 := dvS_facts hn h
    have h2 := dvK_ok hn k h1.2.2.2.2.1
    exact ⟨h2.1, by rw [dvK, h2.2, h1.2.2.2.2.2]⟩
def blkD (l lens : List Int) (n : Int) (c : Cr) : Cr × Blok :=
  ((dvK l n (belowD l (blkM l lens c).1 5).2.toNat ((belowD l (blkM l lens c).1 5).1, List.replicate (n * n).toNat 0)).1,
    ((blkM l lens c).2, (dvK l n (belowD l (blkM l lens c).1 5).2.toNat ((belowD l (blkM l lens c).1 5).1, List.replicate (n * n).toNat 0)).2))
theorem blkD_ok {l lens : List Int} {n : Int} {c : Cr} (hn : n = 4 ∨ n = 8) (h : CrOk l c) : CrOk l (blkD l lens n c).1 ∧ ((blkD l lens n c).2.2.length : Int) = n * n := by
  have h1 := belowD_ok 5 (blkM_ok (lens := lens) h)
  have h2 := dvK_ok hn (belowD l (blkM l lens c).1 5).2.toNat (s := ((belowD l (blkM l lens c).1 5).1, List.replicate (n * n).toNat 0)) h1.1
  refine ⟨h2.1, ?_⟩
  unfold blkD
  simp only
  rw [h2.2, List.length_replicate]
  rcases hn with rfl | rfl <;> decide
structure Str8 where
  hd : Hd6
  ms : List Mbk
end Go.Proofs.YtjhejgamjlokdaaGreat


namespace Go.Proofs.YtjhejgamjlokdaaGreat
open Go Go.Abs
attribute [local irreducible] belowD onceD pickD modeD l8D l8AnyD optD anyD seedD headD headAnyD symL HasC blkD lev25D
structure Fr3 where
  w : Int
  h : Int
  p : List Int
  o : Nat
abbrev noise5 : List Int := [1, 1, 3, 40, 256]
def frS (l : List Int) (w b dx dy nz : Int) (i : Nat) (s : Cr × List Int) : Cr × List Int :=
  ((belowD l s.1 nz).1, s.2.set i (max 0 (min 255 (b + dx * ((i : Int) % w) + dy * ((i : Int) / w) + (belowD l s.1 nz).2))))
def frK (l : List Int) (w b dx dy nz : Int) : Nat → Nat → Cr × List Int → Cr × List Int
  | 0, _, s => s
  | n + 1, i, s => frK l w b dx dy nz n (i + 1) (frS l w b dx dy nz i s)
theorem frK_succ (l : List Int) (w b dx dy nz : Int) (n i : Nat) (s : Cr × List Int) : frK l w b dx dy nz (n + 1) i s = frK l w b dx dy nz n (i + 1) (frS l w b dx dy nz i s) := rfl
theorem frK_zero (l : List Int) (w b dx dy nz : Int) (i : Nat) (s : Cr × List Int) : frK l w b dx dy nz 0 i s = s := rfl
theorem noise_in {x : Int} (h : x ∈ noise5) : 1 ≤ x ∧ x ≤ 256 := by
  simp only [List.mem_cons, List.not_mem_nil, or_false] at h
  omega
theorem frS_ok {l : List Int} {w b dx dy nz : Int} {i : Nat} {s : Cr × List Int} (h : CrOk l s.1) : CrOk l (frS l w b dx dy nz i s).1 ∧ (frS l w b dx dy nz i s).2.length = s.2.length := by
  refine ⟨(belowD_ok nz h).1, ?_⟩
  unfold frS; simp
theorem frK_ok {l : List Int} {w b dx dy nz : Int} : ∀ (n i : Nat) {s : Cr × List Int}, CrOk l s.1 → CrOk l (frK l w b dx dy nz n i s).1 ∧ (frK l w b dx dy nz n i s).2.length = s.2.length
  | 0, i, s, h => ⟨h, rfl⟩
  | n + 1, i, s, h => by
    have h1 := frS_ok (w := w) (b := b) (dx := dx) (dy := dy) (nz := nz) (i := i) h
    have h2 := frK_ok (w := w) (b := b) (dx := dx) (dy := dy) (nz := nz) n (i + 1) h1.1
    exact ⟨h2.1, by rw [frK, h2.2, h1.2]⟩
abbrev fW (l : List Int) (c : Cr) : Cr × Int := belowD l c 3
abbrev fH (l : List Int) (c : Cr) : Cr × Int := belowD l (fW l c).1 2
abbrev fB (l : List Int) (c : Cr) : Cr × Int := belowD l (fH l c).1 256
abbrev fX (l : List Int) (c : Cr) : Cr × Int := belowD l (fB l c).1 9
abbrev fY (l : List Int) (c : Cr) : Cr × Int := belowD l (fX l c).1 9
abbrev fN (l : List Int) (c : Cr) : Cr × Int := pickD l (fY l c).1 noise5
abbrev frW (l : List Int) (c : Cr) : Int := 8 * (1 + (fW l c).2)
abbrev frH (l : List Int) (c : Cr) : Int := 8 * (1 + (fH l c).2)
def frD (l : List Int) (c : Cr) : Cr × Fr3 :=
  let r := frK l (frW l c) (fB l c).2 ((fX l c).2 - 4) ((fY l c).2 - 4) (fN l c).2 (frW l c * frH l c).toNat 0 ((fN l c).1, List.replicate (frW l c * frH l c).toNat 0)
  (r.1, ⟨frW l c, frH l c, r.2, 0⟩)
theorem frD_ok {l : List Int} {c : Cr} (h : CrOk l c) : CrOk l (frD l c).1 ∧ (8 ≤ (frD l c).2.w ∧ (frD l c).2.w ≤ 24) ∧ (8 ≤ (frD l c).2.h ∧ (frD l c).2.h ≤ 16) ∧ 64 ≤ (frD l c).2.p.length ∧ (frD l c).2.p.length ≤ 384 ∧ (frD l c).2.o = 0 := by
  have h1 := belowD_ok 3 h
  have h2 := belowD_ok 2 h1.1
  have h3 := belowD_ok 256 h2.1
  have h4 := belowD_ok 9 h3.1
  have h5 := belowD_ok 9 h4.1
  have h6 := pickD_ok (xs := noise5) h5.1 (by decide)
  have a1 := h1.2.1
  have a2 := h1.2.2.1 (by decide)
  have b1 := h2.2.1
  have b2 := h2.2.2.1 (by decide)
  have hk := frK_ok (w := frW l c) (b := (fB l c).2) (dx := (fX l c).2 - 4) (dy := (fY l c).2 - 4) (nz := (fN l c).2) (frW l c * frH l c).toNat 0 (s := ((fN l c).1, List.replicate (frW l c * frH l c).toNat 0)) h6.1
  have hm : 64 ≤ frW l c * frH l c ∧ frW l c * frH l c ≤ 384 := by
    have e1 : (fW l c).2 = 0 ∨ (fW l c).2 = 1 ∨ (fW l c).2 = 2 := by show (belowD l c 3).2 = 0 ∨ (belowD l c 3).2 = 1 ∨ (belowD l c 3).2 = 2; omega
    have e2 : (fH l c).2 = 0 ∨ (fH l c).2 = 1 := by show (belowD l (belowD l c 3).1 2).2 = 0 ∨ (belowD l (belowD l c 3).1 2).2 = 1; omega
    unfold frW frH
    rcases e1 with e1 | e1 | e1 <;> rcases e2 with e2 | e2 <;> rw [e1, e2] <;> decide
  refine ⟨hk.1, ?_, ?_, ?_⟩
  · show 8 ≤ 8 * (1 + (belowD l c 3).2) ∧ 8 * (1 + (belowD l c 3).2) ≤ 24; omega
  · show 8 ≤ 8 * (1 + (belowD l (belowD l c 3).1 2).2) ∧ 8 * (1 + (belowD l (belowD l c 3).1 2).2) ≤ 16; omega
  · have e : (frD l c).2.p.length = (frW l c * frH l c).toNat := by
      show (frK l _ _ _ _ _ _ 0 _).2.length = _
      rw [hk.2, List.length_replicate]
    rw [e]; exact ⟨by omega, by omega, rfl⟩
def frAnyD (l : List Int) (c : Cr) : Cr × Fr3 :=
  let x := frD l c
  let s := belowD l x.1 16
  if s.2 = 0 then
    let i := belowD l s.1 x.2.p.length
    let v := pickD l i.1 [-1, 256]
    (v.1, { x.2 with p := x.2.p.set i.2.toNat v.2 })
  else if s.2 = 1 then
    let v := pickD l s.1 [0, 7, 40, x.2.w + 8]
    (v.1, { x.2 with w := v.2 })
  else if s.2 = 2 then (s.1, { x.2 with o := 1 })
  else (s.1, x.2)
theorem frAnyD_0 {l : List Int} {c : Cr} (h : (belowD l (frD l c).1 16).2 = 0) : frAnyD l c = ((pickD l (belowD l (belowD l (frD l c).1 16).1 (frD l c).2.p.length).1 [-1, 256]).1, ⟨(frD l c).2.w, (frD l c).2.h, (frD l c).2.p.set (belowD l (belowD l (frD l c).1 16).1 (frD l c).2.p.length).2.toNat (pickD l (belowD l (belowD l (frD l c).1 16).1 (frD l c).2.p.length).1 [-1, 256]).2, (frD l c).2.o⟩) := by
  unfold frAnyD; simp only; rw [if_pos h]
theorem frAnyD_1 {l : List Int} {c : Cr} (h : (belowD l (frD l c).1 16).2 = 1) : frAnyD l c = ((pickD l (belowD l (frD l c).1 16).1 [0, 7, 40, (frD l c).2.w + 8]).1, ⟨(pickD l (belowD l (frD l c).1 16).1 [0, 7, 40, (frD l c).2.w + 8]).2, (frD l c).2.h, (frD l c).2.p, (frD l c).2.o⟩) := by
  unfold frAnyD; simp only; rw [if_neg (by omega), if_pos h]
theorem frAnyD_2 {l : List Int} {c : Cr} (h : (belowD l (frD l c).1 16).2 = 2) : frAnyD l c = ((belowD l (frD l c).1 16).1, ⟨(frD l c).2.w, (frD l c).2.h, (frD l c).2.p, 1⟩) := by
  unfold frAnyD; simp only; rw [if_neg (by omega), if_neg (by omega), if_pos h]
theorem frAnyD_3 {l : List Int} {c : Cr} (h : (belowD l (frD l c).1 16).2 ≠ 0) (h1 : (belowD l (frD l c).1 16).2 ≠ 1) (h2 : (belowD l (frD l c).1 16).2 ≠ 2) : frAnyD l c = ((belowD l (frD l c).1 16).1, (frD l c).2) := by
  unfold frAnyD; simp only; rw [if_neg h, if_neg h1, if_neg h2]
theorem frAnyD_ok {l : List Int} {c : Cr} (h : CrOk l c) : CrOk l (frAnyD l c).1 ∧ (0 ≤ (frAnyD l c).2.w ∧ (frAnyD l c).2.w ≤ 40) ∧ (8 ≤ (frAnyD l c).2.h ∧ (frAnyD l c).2.h ≤ 16) ∧ (frAnyD l c).2.p.length ≤ 384 ∧ (frAnyD l c).2.o ≤ (frAnyD l c).2.p.length := by
  have ho := frD_ok h
  have hs := belowD_ok 16 ho.1
  obtain ⟨hp64, hp384, hoo⟩ := ho.2.2.2
  by_cases h0 : (belowD l (frD l c).1 16).2 = 0
  · rw [frAnyD_0 h0]
    have hi := belowD_ok (frD l c).2.p.length hs.1
    refine ⟨(pickD_ok hi.1 (by decide)).1, ?_, ho.2.2.1, ?_, ?_⟩
    · show 0 ≤ (frD l c).2.w ∧ (frD l c).2.w ≤ 40; omega
    · show ((frD l c).2.p.set _ _).length ≤ 384; rw [List.length_set]; omega
    · show (frD l c).2.o ≤ ((frD l c).2.p.set _ _).length; rw [List.length_set]; omega
  · by_cases h1 : (belowD l (frD l c).1 16).2 = 1
    · rw [frAnyD_1 h1]
      have hp := pickD_ok (xs := [0, 7, 40, (frD l c).2.w + 8]) hs.1 (by simp)
      have hm := hp.2
      simp only [List.mem_cons, List.not_mem_nil, or_false] at hm
      refine ⟨hp.1, ?_, ho.2.2.1, hp384, by show (frD l c).2.o ≤ (frD l c).2.p.length; omega⟩
      show 0 ≤ (pickD l _ _).2 ∧ (pickD l _ _).2 ≤ 40
      omega
    · by_cases h2 : (belowD l (frD l c).1 16).2 = 2
      · rw [frAnyD_2 h2]
        refine ⟨hs.1, ?_, ho.2.2.1, hp384, by show 1 ≤ (frD l c).2.p.length; omega⟩
        show 0 ≤ (frD l c).2.w ∧ (frD l c).2.w ≤ 40; omega
      · rw [frAnyD_3 h0 h1 h2]
        refine ⟨hs.1, ?_, ho.2.2.1, hp384, by show (frD l c).2.o ≤ (frD l c).2.p.length; omega⟩
        show 0 ≤ (frD l c).2.w ∧ (frD l c).2.w ≤ 40
        omega
structure Spt where
  f : Fr3
  x : Int
  y : Int
  n : Int
abbrev sN (l : List Int) (c : Cr) : Cr × Int := pickD l (frAnyD l c).1 [4, 4, 8]
abbrev sX (l : List Int) (c : Cr) : Cr × Int := belowD l (sN l c).1 (max 1 ((frAnyD l c).2.w / (sN l c).2))
abbrev sY (l : List Int) (c : Cr) : Cr × Int := belowD l (sX l c).1 (max 1 ((frAnyD l c).2.h / (sN l c).2))
abbrev sK (l : List Int) (c : Cr) : Cr × Int := belowD l (sY l c).1 14
def spotD (l : List Int) (c : Cr) : Cr × Spt :=
  if (sK l c).2 = 0 then ((pickD l (sK l c).1 [-4, 1, (frAnyD l c).2.w]).1, ⟨(frAnyD l c).2, (pickD l (sK l c).1 [-4, 1, (frAnyD l c).2.w]).2, (sN l c).2 * (sY l c).2, (sN l c).2⟩)
  else if (sK l c).2 = 1 then ((pickD l (sK l c).1 [0, 5, 16]).1, ⟨(frAnyD l c).2, (sN l c).2 * (sX l c).2, (sN l c).2 * (sY l c).2, (pickD l (sK l c).1 [0, 5, 16]).2⟩)
  else ((sK l c).1, ⟨(frAnyD l c).2, (sN l c).2 * (sX l c).2, (sN l c).2 * (sY l c).2, (sN l c).2⟩)
theorem spotD_0 {l : List Int} {c : Cr} (h : (sK l c).2 = 0) : spotD l c = ((pickD l (sK l c).1 [-4, 1, (frAnyD l c).2.w]).1, ⟨(frAnyD l c).2, (pickD l (sK l c).1 [-4, 1, (frAnyD l c).2.w]).2, (sN l c).2 * (sY l c).2, (sN l c).2⟩) := by unfold spotD; rw [if_pos h]
theorem spotD_1 {l : List Int} {c : Cr} (h : (sK l c).2 = 1) : spotD l c = ((pickD l (sK l c).1 [0, 5, 16]).1, ⟨(frAnyD l c).2, (sN l c).2 * (sX l c).2, (sN l c).2 * (sY l c).2, (pickD l (sK l c).1 [0, 5, 16]).2⟩) := by unfold spotD; rw [if_neg (by omega), if_pos h]
theorem spotD_2 {l : List Int} {c : Cr} (h : (sK l c).2 ≠ 0) (h1 : (sK l c).2 ≠ 1) : spotD l c = ((sK l c).1, ⟨(frAnyD l c).2, (sN l c).2 * (sX l c).2, (sN l c).2 * (sY l c).2, (sN l c).2⟩) := by unfold spotD; rw [if_neg h, if_neg h1]
theorem spotD_crs {l : List Int} {c : Cr} (h : CrOk l c) : CrOk l (frAnyD l c).1 ∧ CrOk l (sN l c).1 ∧ CrOk l (sX l c).1 ∧ CrOk l (sY l c).1 ∧ CrOk l (sK l c).1 ∧ ((sN l c).2 = 4 ∨ (sN l c).2 = 8) := by
  have h1 := frAnyD_ok h
  have h2 := pickD_ok (xs := [4, 4, 8]) h1.1 (by decide)
  have h3 := belowD_ok (max 1 ((frAnyD l c).2.w / (sN l c).2)) h2.1
  have h4 := belowD_ok (max 1 ((frAnyD l c).2.h / (sN l c).2)) h3.1
  have h5 := belowD_ok 14 h4.1
  refine ⟨h1.1, h2.1, h3.1, h4.1, h5.1, ?_⟩
  have hm := h2.2
  simp only [List.mem_cons, List.not_mem_nil, or_false] at hm
  show (pickD l _ _).2 = 4 ∨ (pickD l _ _).2 = 8
  omega
theorem spotD_f {l : List Int} {c : Cr} : (spotD l c).2.f = (frAnyD l c).2 := by
  unfold spotD; split
  · rfl
  · split <;> rfl
theorem spotD_ok {l : List Int} {c : Cr} (h : CrOk l c) : CrOk l (spotD l c).1 ∧ ((spotD l c).2.n = 0 ∨ (spotD l c).2.n = 4 ∨ (spotD l c).2.n = 5 ∨ (spotD l c).2.n = 8 ∨ (spotD l c).2.n = 16) ∧ (spotD l c).2.f.p.length ≤ 384 ∧ (spotD l c).2.f.o ≤ (spotD l c).2.f.p.length := by
  have hc := spotD_crs h
  have h5 := hc.2.2.2.2
  refine ⟨?_, ?_, by rw [spotD_f]; exact (frAnyD_ok h).2.2.2⟩
  · unfold spotD; split
    · exact (pickD_ok h5.1 (by simp)).1
    · split
      · exact (pickD_ok h5.1 (by decide)).1
      · exact h5.1
  · have h6 := h5.2
    unfold spotD; split
    · show (sN l c).2 = 0 ∨ (sN l c).2 = 4 ∨ (sN l c).2 = 5 ∨ (sN l c).2 = 8 ∨ (sN l c).2 = 16; omega
    · split
      · have hm := (pickD_ok (xs := [0, 5, 16]) h5.1 (by decide)).2
        simp only [List.mem_cons, List.not_mem_nil, or_false] at hm
        show (pickD l _ _).2 = 0 ∨ (pickD l _ _).2 = 4 ∨ (pickD l _ _).2 = 5 ∨ (pickD l _ _).2 = 8 ∨ (pickD l _ _).2 = 16
        omega
      · show (sN l c).2 = 0 ∨ (sN l c).2 = 4 ∨ (sN l c).2 = 5 ∨ (sN l c).2 = 8 ∨ (sN l c).2 = 16; omega
structure Put8 where
  s : Spt
  hd : Hd6
  m : Int
  lv : List Int
abbrev pS (l : List Int) (c : Cr) : Cr × Spt := spotD l c
abbrev pH (l : List Int) (c : Cr) : Cr × Hd6 := headD l (pS l c).1
abbrev pM (l : List Int) (c : Cr) : Cr × Int := modeD l (pH l c).1
abbrev pL (l : List Int) (c : Cr) : Cr × List Int := lev25D l (pM l c).1
abbrev pO (l : List Int) (c : Cr) : Cr × Bool := onceD l (pL l c).1 6
abbrev lens6 : List Int := [3, 3, 3, 3, 2, 2]
def putD (l : List Int) (c : Cr) : Cr × Put8 :=
  if (pS l c).2.n = 4 ∨ (pS l c).2.n = 8 then
    if (pO l c).2 = true then ((pO l c).1, ⟨(pS l c).2, (pH l c).2, (pM l c).2, (pL l c).2⟩)
    else ((blkD l lens6 (pS l c).2.n (pO l c).1).1, ⟨(pS l c).2, (pH l c).2, (pM l c).2, (blkD l lens6 (pS l c).2.n (pO l c).1).2.2⟩)
  else ((pL l c).1, ⟨(pS l c).2, (pH l c).2, (pM l c).2, (pL l c).2⟩)
theorem putD_crs {l : List Int} {c : Cr} (h : CrOk l c) : CrOk l (pS l c).1 ∧ CrOk l (pH l c).1 ∧ CrOk l (pM l c).1 ∧ CrOk l (pL l c).1 ∧ CrOk l (pO l c).1 ∧ (pH l c).2.lens.length = 6 ∧ (pL l c).2.length ≤ 64 := by
  have h1 := spotD_ok h
  have h2 := headD_ok h1.1
  have h3 := modeD_ok h2.1
  have h4 := lev25D_ok h3
  have h5 := onceD_ok 6 h4.1
  exact ⟨h1.1, h2.1, h3, h4.1, h5, h2.2.1, h4.2⟩
theorem putD_0 {l : List Int} {c : Cr} (h : ¬ ((pS l c).2.n = 4 ∨ (pS l c).2.n = 8)) : putD l c = ((pL l c).1, ⟨(pS l c).2, (pH l c).2, (pM l c).2, (pL l c).2⟩) := by unfold putD; rw [if_neg h]
theorem putD_1 {l : List Int} {c : Cr} (h : (pS l c).2.n = 4 ∨ (pS l c).2.n = 8) (h1 : (pO l c).2 = true) : putD l c = ((pO l c).1, ⟨(pS l c).2, (pH l c).2, (pM l c).2, (pL l c).2⟩) := by unfold putD; rw [if_pos h, if_pos h1]
theorem putD_2 {l : List Int} {c : Cr} (h : (pS l c).2.n = 4 ∨ (pS l c).2.n = 8) (h1 : ¬ (pO l c).2 = true) : putD l c = ((blkD l lens6 (pS l c).2.n (pO l c).1).1, ⟨(pS l c).2, (pH l c).2, (pM l c).2, (blkD l lens6 (pS l c).2.n (pO l c).1).2.2⟩) := by unfold putD; rw [if_pos h, if_neg h1]
theorem putD_ok {l : List Int} {c : Cr} (h : CrOk l c) : CrOk l (putD l c).1 ∧ ((putD l c).2.s.f.p.length ≤ 384 ∧ (putD l c).2.s.f.o ≤ (putD l c).2.s.f.p.length) ∧ (putD l c).2.hd.lens.length = 6 ∧ (putD l c).2.lv.length ≤ 64 := by
  have hs := putD_crs h
  have hp := (spotD_ok h).2.2
  unfold putD; split
  · rename_i hn
    split
    · exact ⟨hs.2.2.2.2.1, hp, hs.2.2.2.2.2.1, hs.2.2.2.2.2.2⟩
    · have hb := blkD_ok (lens := lens6) hn hs.2.2.2.2.1
      refine ⟨hb.1, hp, hs.2.2.2.2.2.1, ?_⟩
      show (blkD l lens6 (pS l c).2.n (pO l c).1).2.2.length ≤ 64
      have := hb.2
      rcases hn with e | e <;> rw [e] at this ⊢ <;> omega
  · exact ⟨hs.2.2.2.1, hp, hs.2.2.2.2.2.1, hs.2.2.2.2.2.2⟩
end Go.Proofs.YtjhejgamjlokdaaGreat
