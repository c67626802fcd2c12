/- Contracts: the products of a matrix with a square, from both sides. No condition. -/
import Derived.Test.YtepfjefdbpmobaaMat
import Derived.Test.YtepfjefdbpmobaaDefsQ
namespace Go.Proofs.Ytepfjefdbpmobaa
open Go Go.Abs
set_option linter.unusedVariables false
set_option linter.unusedSimpArgs false
set_option maxRecDepth 100000
set_option maxHeartbeats 4000000
attribute [local irreducible] WpA WpL Rnd Blk Abs.Seq Abs.Fin Abs.FinG FnC FnG Only

abbrev fh (n : Nat) (g : Nat → Nat → Int) (l : List Int) (q : Nat) : Int := halfM n g l (q / n) (q % n)
abbrev fo (n : Nat) (g : Nat → Nat → Int) (l : List Int) (q : Nat) : Int := fullM n g l (q / n) (q % n)
abbrev sh (n : Nat) (g : Nat → Nat → Int) (l : List Int) (r k i : Nat) : Int := sumF (fun i => g r i * l.getD (i * n + k) 0) i
abbrev so (n : Nat) (g : Nat → Nat → Int) (l : List Int) (r k i : Nat) : Int := sumF (fun i => halfM n g l r i * g k i) i
theorem divmod {n r k : Nat} (h : k < n) : (r * n + k) / n = r ∧ (r * n + k) % n = k := by
  have hn : 0 < n := by omega
  constructor
  · rw [Nat.mul_comm, Nat.mul_add_div hn, Nat.div_eq_of_lt h, Nat.add_zero]
  · rw [Nat.mul_comm, Nat.mul_add_mod, Nat.mod_eq_of_lt h]
theorem mul_huge {a b : Int} (h : -17000000000 ≤ a ∧ a ≤ 17000000000) (h2 : b = -2 ∨ b = -1 ∨ b = 0 ∨ b = 1 ∨ b = 2) : -34000000000 ≤ a * b ∧ a * b ≤ 34000000000 := by
  rcases h2 with rfl | rfl | rfl | rfl | rfl <;> omega
abbrev Sgn (g : Nat → Nat → Int) : Prop := ∀ r i, g r i = -2 ∨ g r i = -1 ∨ g r i = 0 ∨ g r i = 1 ∨ g r i = 2
theorem half_in {n : Nat} {g : Nat → Nat → Int} {l : List Int} (hg : Sgn g) (hl : In l (-1000000000) 1000000000) (hn : n ≤ 8) (r k : Nat) : -17000000000 ≤ halfM n g l r k ∧ halfM n g l r k ≤ 17000000000 := by
  have := half_bd (n := n) (g := g) (l := l) (c := 1000000000) hg hl (by omega) r k n
  unfold halfM; omega
theorem so_bd {n : Nat} {g : Nat → Nat → Int} {l : List Int} (hg : Sgn g) (hl : In l (-1000000000) 1000000000) (hn : n ≤ 8) (r k i : Nat) : -(i * 34000000000) ≤ so n g l r k i ∧ so n g l r k i ≤ i * 34000000000 :=
  sumF_bd (by omega) i fun j _ => mul_huge (half_in hg hl hn r j) (hg k j)
abbrev RowsOk (n : Nat) (g : Nat → Nat → Int) (M : List (List Int)) : Prop := M.length = n ∧ (∀ r, r < n → (M.getD r default).length = n) ∧ ∀ r i, r < n → i < n → (M.getD r default).getD i 0 = g r i
def prodL (n : Nat) (g : Nat → Nat → Int) (l : List Int) : List Int := if l.length = n * n ∧ In l (-1000000000) 1000000000 then mulM n g l else []
theorem prodL_len (n : Nat) (g : Nat → Nat → Int) (l : List Int) : (prodL n g l).length = if l.length = n * n ∧ In l (-1000000000) 1000000000 then n * n else 0 := by
  unfold prodL; split
  · exact tabL_len _ _
  · rfl
abbrev LLn (n : Nat) (M : List (List Int)) : AV := .imm 1 n (rows liI M)
theorem product_4 (g : Nat → Nat → Int) (M : List (List Int)) (l : List Int) (hg : Sgn g) (hM : RowsOk 4 g M) (hl : l.length ≤ 1099511627776) : Fn 128 [LLn 4 M, IL l] [XI (prodL 4 g l)] (.own 0 0 0 (prodL 4 g l).length) := by
  obtain ⟨hM1, hM2, hM3⟩ := hM
  have hpl := prodL_len 4 g l
  by_cases h : l.length = 16 ∧ In l (-1000000000) 1000000000
  · obtain ⟨h1, h2⟩ := id h
    have e : prodL 4 g l = tabL (fo 4 g l) 16 := by rw [prodL, if_pos h]; rfl
    refine FnC.of_body tabOk Try.func128 Try.ntmps128 rfl (by decide +kernel) (by simp) fun G => ?_
    refine goR (r := ?_); and_intros <;> intros <;> try exact True.intro
    all_goals first | (exfalso; omega) | (exact absurd h2 (by assumption)) | skip
    apply WpA.regionQ0 (O1 := [XD (List.replicate 16 0), XD (List.replicate 16 0), deadO, deadO]) 9 2 mixed (by decide +kernel)
    · exact rfl
    · apply HeadQ.consF .none rfl
      · exact rfl
      · exact in1
      · exact rfl
      · exact rfl
      apply HeadQ.consF .none rfl
      · exact rfl
      · exact in1
      · exact rfl
      · exact rfl
      apply HeadQ.consF .none rfl
      · exact rfl
      · exact in1
      · exact rfl
      · exact rfl
      apply HeadQ.consF (V := .own 0 1 0 16) (.put 0 (XD (List.replicate 16 0))) rfl
      · exact rfl
      · intro Tv Ov hc hp hd hk
        refine WpL.makeInts tabOk rfl rfl rfl (by decide) (by decide) (by rw [nid_len, Nat.zero_add]) (by decide) ?_
        apply WpL.putNil (p := 0)
        · exact hp 0 _ rfl
        · exact Nat.zero_le _
        · exact rfl
        · first | exact still_ints _ | exact still_rows (fun _ => rfl) _ | rfl
      · exact rfl
      · exact rfl
      apply HeadQ.consF .none rfl
      · exact rfl
      · exact in1
      · exact rfl
      · exact rfl
      apply HeadQ.consF .none rfl
      · exact rfl
      · exact in1
      · exact rfl
      · exact rfl
      apply HeadQ.consF .none rfl
      · exact rfl
      · exact in1
      · exact rfl
      · exact rfl
      apply HeadQ.consF (V := .own 1 1 0 16) (.put 1 (XD (List.replicate 16 0))) rfl
      · exact rfl
      · intro Tv Ov hc hp hd hk
        refine WpL.makeInts tabOk rfl rfl rfl (by decide) (by decide) (by rw [nid_len, Nat.zero_add]) (by decide) ?_
        apply WpL.putNil (p := 1)
        · exact hp 1 _ rfl
        · exact Nat.zero_le _
        · exact rfl
        · first | exact still_ints _ | exact still_rows (fun _ => rfl) _ | rfl
      · exact rfl
      · exact rfl
      apply HeadQ.consF .none rfl
      · exact rfl
      · exact in1
      · exact rfl
      · exact rfl
      exact HeadQ.nil
    · exact rfl
    · exact rfl
    · exact rfl
    · exact rfl
    · exact rfl
    · exact rfl
    refine go (r := ?_); and_intros <;> intros <;> try exact True.intro
    refine WpA.loop (fun r : Nat => ⟨[(0, LLn 4 M), (1, IL l), (5, I 4), (6, .own 0 1 0 16), (7, .own 1 1 0 16), (35, I 4), (36, I r)], [XD (part (fh 4 g l) 16 (r * 4) 0), XD (List.replicate 16 0)]⟩) (fun r => r ≤ 4) (fun r => 4 - r) 0 (by omega) (go (r := ?_)) (fun r hr => ?_)
    · simp [part_zero]
    have hpl1 := part_len (fh 4 g l) 16 (r * 4) 0
    refine go (r := ?_); and_intros <;> intros <;> try exact True.intro
    · refine WpA.loop (fun k : Nat => ⟨[(0, LLn 4 M), (1, IL l), (5, I 4), (6, .own 0 1 0 16), (7, .own 1 1 0 16), (8, I r), (35, I 4), (36, I r), (39, I 4), (40, I k)], [XD (part (fh 4 g l) 16 (r * 4 + k) 0), XD (List.replicate 16 0)]⟩) (fun k => k ≤ 4) (fun k => 4 - k) 0 (by omega) (go (r := ?_)) (fun k hk => ?_)
      · trivial
      have hpl2 := part_len (fh 4 g l) 16 (r * 4 + k) 0
      refine go (r := ?_); and_intros <;> intros <;> try exact True.intro
      · refine WpA.loop (fun i : Nat => ⟨[(0, LLn 4 M), (1, IL l), (5, I 4), (6, .own 0 1 0 16), (7, .own 1 1 0 16), (8, I r), (9, I k), (35, I 4), (36, I r), (39, I 4), (40, I k), (43, I 4), (44, I i)], [XD (part (fh 4 g l) 16 (r * 4 + k) (sh 4 g l r k i)), XD (List.replicate 16 0)]⟩) (fun i => i ≤ 4) (fun i => 4 - i) 0 (by omega) (go (r := ?_)) (fun i hi => ?_)
        · simp [sumF]
        have hpl3 := part_len (fh 4 g l) 16 (r * 4 + k) (sh 4 g l r k i)
        have hM2r := hM2 r
        have hsb : -((i : Int) * (2 * 1000000000)) ≤ sh 4 g l r k i ∧ sh 4 g l r k i ≤ (i : Int) * (2 * 1000000000) := half_bd (n := 4) (g := g) (l := l) (c := 1000000000) hg h2 (by omega) r k i
        have hdm := divmod (n := 4) (r := r) (k := k)
        have hgl := in_getZ h2 (by decide) (i * 4 + k)
        have hgg := mul2 (hg r i) hgl (by decide)
        have hst : sh 4 g l r k (i + 1) = sh 4 g l r k i + g r i * l.getD (i * 4 + k) 0 := rfl
        refine go (r := ?_); and_intros <;> intros <;> try exact True.intro
        · rename_i hi1
          have hr1 : r < 4 := by omega
          have hk1 : k < 4 := by omega
          have e1 : ((r : Int) * 4 + k).toNat = r * 4 + k := by omega
          have e2 : ((i : Int) * 4 + k).toNat = i * 4 + k := by omega
          have e3 : (M.getD r default).getD i 0 = g r i := hM3 r i hr1 (by omega)
          rw [e1, e2, e3, part_get (by omega), part_set (by omega), wrap64 (g r i * l.getD (i * 4 + k) 0) (by omega), wrap64 _ (by omega), hst]
        · have hi1 : i = 4 := by omega
          subst hi1
          rw [← Nat.add_assoc]; exact part_next (by show sh 4 g l r k 4 = halfM 4 g l ((r * 4 + k) / 4) ((r * 4 + k) % 4); rw [(hdm (by omega)).1, (hdm (by omega)).2]; rfl)
      · have hk1 : k = 4 := by omega
        rw [hk1, Nat.succ_mul]
    have hr1 : r = 4 := by omega
    subst hr1
    have ep : part (fh 4 g l) 16 (4 * 4) 0 = tabL (fh 4 g l) 16 := part_all _ _ _
    rw [ep]
    have hplh := tabL_len (fh 4 g l) 16
    refine WpA.loop (fun r : Nat => ⟨[(0, LLn 4 M), (5, I 4), (6, .own 0 1 0 16), (7, .own 1 1 0 16), (76, I 4), (77, I r)], [XD (tabL (fh 4 g l) 16), XD (part (fo 4 g l) 16 (r * 4) 0)]⟩) (fun r => r ≤ 4) (fun r => 4 - r) 0 (by omega) (go (r := ?_)) (fun r hr => ?_)
    · simp [part_zero]
    have hpl1 := part_len (fo 4 g l) 16 (r * 4) 0
    refine go (r := ?_); and_intros <;> intros <;> try exact True.intro
    · refine WpA.loop (fun k : Nat => ⟨[(0, LLn 4 M), (5, I 4), (6, .own 0 1 0 16), (7, .own 1 1 0 16), (11, I r), (76, I 4), (77, I r), (80, I 4), (81, I k)], [XD (tabL (fh 4 g l) 16), XD (part (fo 4 g l) 16 (r * 4 + k) 0)]⟩) (fun k => k ≤ 4) (fun k => 4 - k) 0 (by omega) (go (r := ?_)) (fun k hk => ?_)
      · trivial
      have hpl2 := part_len (fo 4 g l) 16 (r * 4 + k) 0
      refine go (r := ?_); and_intros <;> intros <;> try exact True.intro
      · refine WpA.loop (fun i : Nat => ⟨[(0, LLn 4 M), (5, I 4), (6, .own 0 1 0 16), (7, .own 1 1 0 16), (11, I r), (12, I k), (76, I 4), (77, I r), (80, I 4), (81, I k), (84, I 4), (85, I i)], [XD (tabL (fh 4 g l) 16), XD (part (fo 4 g l) 16 (r * 4 + k) (so 4 g l r k i))]⟩) (fun i => i ≤ 4) (fun i => 4 - i) 0 (by omega) (go (r := ?_)) (fun i hi => ?_)
        · simp [sumF]
        have hpl3 := part_len (fo 4 g l) 16 (r * 4 + k) (so 4 g l r k i)
        have hM2r := hM2 k
        have hsb := so_bd (n := 4) hg h2 (by omega) r k i
        have hdm := divmod (n := 4) (r := r) (k := k)
        have hdi := divmod (n := 4) (r := r) (k := i)
        have hgl := half_in (n := 4) hg h2 (by omega) r i
        have hgg := mul_huge hgl (hg k i)
        have hst : so 4 g l r k (i + 1) = so 4 g l r k i + halfM 4 g l r i * g k i := rfl
        refine go (r := ?_); and_intros <;> intros <;> try exact True.intro
        · rename_i hi1
          have hr1 : r < 4 := by omega
          have hk1 : k < 4 := by omega
          have e1 : ((r : Int) * 4 + k).toNat = r * 4 + k := by omega
          have e2 : ((r : Int) * 4 + i).toNat = r * 4 + i := by omega
          have e3 : (M.getD k default).getD i 0 = g k i := hM3 k i hk1 (by omega)
          have e4 : (tabL (fh 4 g l) 16).getD (r * 4 + i) 0 = halfM 4 g l r i := by rw [tabL_get (by omega)]; show halfM 4 g l ((r * 4 + i) / 4) ((r * 4 + i) % 4) = _; rw [(hdi (by omega)).1, (hdi (by omega)).2]
          rw [e1, e2, e3, e4, part_get (by omega), part_set (by omega), wrap64 (halfM 4 g l r i * g k i) (by omega), wrap64 _ (by omega), hst]
        · have hi1 : i = 4 := by omega
          subst hi1
          rw [← Nat.add_assoc]; exact part_next (by show so 4 g l r k 4 = fullM 4 g l ((r * 4 + k) / 4) ((r * 4 + k) % 4); rw [(hdm (by omega)).1, (hdm (by omega)).2]; rfl)
      · have hk1 : k = 4 := by omega
        rw [hk1, Nat.succ_mul]
    all_goals have hr1 : r = 4 := by omega
    all_goals subst hr1
    all_goals first | (rw [e, tabL_len]; done) | (rw [e]; exact congrArg _ (part_all _ _ _)) | (rw [e]; exact part_all _ _ _) | trace_state
  · have e : prodL 4 g l = [] := by rw [prodL, if_neg h]
    refine FnC.of_body tabOk Try.func128 Try.ntmps128 rfl (by decide +kernel) (by simp) fun G => ?_
    refine goR (r := ?_); and_intros <;> intros <;> try exact True.intro
    all_goals first | (rw [e]; done) | (rw [e]; rfl) | (exact absurd ⟨by omega, by assumption⟩ h) | trace_state
theorem product_8 (g : Nat → Nat → Int) (M : List (List Int)) (l : List Int) (hg : Sgn g) (hM : RowsOk 8 g M) (hl : l.length ≤ 1099511627776) : Fn 128 [LLn 8 M, IL l] [XI (prodL 8 g l)] (.own 0 0 0 (prodL 8 g l).length) := by
  obtain ⟨hM1, hM2, hM3⟩ := hM
  have hpl := prodL_len 8 g l
  by_cases h : l.length = 64 ∧ In l (-1000000000) 1000000000
  · obtain ⟨h1, h2⟩ := id h
    have e : prodL 8 g l = tabL (fo 8 g l) 64 := by rw [prodL, if_pos h]; rfl
    refine FnC.of_body tabOk Try.func128 Try.ntmps128 rfl (by decide +kernel) (by simp) fun G => ?_
    refine goR (r := ?_); and_intros <;> intros <;> try exact True.intro
    all_goals first | (exfalso; omega) | (exact absurd h2 (by assumption)) | skip
    apply WpA.regionQ0 (O1 := [XD (List.replicate 64 0), XD (List.replicate 64 0), deadO, deadO]) 9 2 mixed (by decide +kernel)
    · exact rfl
    · apply HeadQ.consF .none rfl
      · exact rfl
      · exact in1
      · exact rfl
      · exact rfl
      apply HeadQ.consF .none rfl
      · exact rfl
      · exact in1
      · exact rfl
      · exact rfl
      apply HeadQ.consF .none rfl
      · exact rfl
      · exact in1
      · exact rfl
      · exact rfl
      apply HeadQ.consF (V := .own 0 1 0 64) (.put 0 (XD (List.replicate 64 0))) rfl
      · exact rfl
      · intro Tv Ov hc hp hd hk
        refine WpL.makeInts tabOk rfl rfl rfl (by decide) (by decide) (by rw [nid_len, Nat.zero_add]) (by decide) ?_
        apply WpL.putNil (p := 0)
        · exact hp 0 _ rfl
        · exact Nat.zero_le _
        · exact rfl
        · first | exact still_ints _ | exact still_rows (fun _ => rfl) _ | rfl
      · exact rfl
      · exact rfl
      apply HeadQ.consF .none rfl
      · exact rfl
      · exact in1
      · exact rfl
      · exact rfl
      apply HeadQ.consF .none rfl
      · exact rfl
      · exact in1
      · exact rfl
      · exact rfl
      apply HeadQ.consF .none rfl
      · exact rfl
      · exact in1
      · exact rfl
      · exact rfl
      apply HeadQ.consF (V := .own 1 1 0 64) (.put 1 (XD (List.replicate 64 0))) rfl
      · exact rfl
      · intro Tv Ov hc hp hd hk
        refine WpL.makeInts tabOk rfl rfl rfl (by decide) (by decide) (by rw [nid_len, Nat.zero_add]) (by decide) ?_
        apply WpL.putNil (p := 1)
        · exact hp 1 _ rfl
        · exact Nat.zero_le _
        · exact rfl
        · first | exact still_ints _ | exact still_rows (fun _ => rfl) _ | rfl
      · exact rfl
      · exact rfl
      apply HeadQ.consF .none rfl
      · exact rfl
      · exact in1
      · exact rfl
      · exact rfl
      exact HeadQ.nil
    · exact rfl
    · exact rfl
    · exact rfl
    · exact rfl
    · exact rfl
    · exact rfl
    refine go (r := ?_); and_intros <;> intros <;> try exact True.intro
    refine WpA.loop (fun r : Nat => ⟨[(0, LLn 8 M), (1, IL l), (5, I 8), (6, .own 0 1 0 64), (7, .own 1 1 0 64), (35, I 8), (36, I r)], [XD (part (fh 8 g l) 64 (r * 8) 0), XD (List.replicate 64 0)]⟩) (fun r => r ≤ 8) (fun r => 8 - r) 0 (by omega) (go (r := ?_)) (fun r hr => ?_)
    · simp [part_zero]
    have hpl1 := part_len (fh 8 g l) 64 (r * 8) 0
    refine go (r := ?_); and_intros <;> intros <;> try exact True.intro
    · refine WpA.loop (fun k : Nat => ⟨[(0, LLn 8 M), (1, IL l), (5, I 8), (6, .own 0 1 0 64), (7, .own 1 1 0 64), (8, I r), (35, I 8), (36, I r), (39, I 8), (40, I k)], [XD (part (fh 8 g l) 64 (r * 8 + k) 0), XD (List.replicate 64 0)]⟩) (fun k => k ≤ 8) (fun k => 8 - k) 0 (by omega) (go (r := ?_)) (fun k hk => ?_)
      · trivial
      have hpl2 := part_len (fh 8 g l) 64 (r * 8 + k) 0
      refine go (r := ?_); and_intros <;> intros <;> try exact True.intro
      · refine WpA.loop (fun i : Nat => ⟨[(0, LLn 8 M), (1, IL l), (5, I 8), (6, .own 0 1 0 64), (7, .own 1 1 0 64), (8, I r), (9, I k), (35, I 8), (36, I r), (39, I 8), (40, I k), (43, I 8), (44, I i)], [XD (part (fh 8 g l) 64 (r * 8 + k) (sh 8 g l r k i)), XD (List.replicate 64 0)]⟩) (fun i => i ≤ 8) (fun i => 8 - i) 0 (by omega) (go (r := ?_)) (fun i hi => ?_)
        · simp [sumF]
        have hpl3 := part_len (fh 8 g l) 64 (r * 8 + k) (sh 8 g l r k i)
        have hM2r := hM2 r
        have hsb : -((i : Int) * (2 * 1000000000)) ≤ sh 8 g l r k i ∧ sh 8 g l r k i ≤ (i : Int) * (2 * 1000000000) := half_bd (n := 8) (g := g) (l := l) (c := 1000000000) hg h2 (by omega) r k i
        have hdm := divmod (n := 8) (r := r) (k := k)
        have hgl := in_getZ h2 (by decide) (i * 8 + k)
        have hgg := mul2 (hg r i) hgl (by decide)
        have hst : sh 8 g l r k (i + 1) = sh 8 g l r k i + g r i * l.getD (i * 8 + k) 0 := rfl
        refine go (r := ?_); and_intros <;> intros <;> try exact True.intro
        · rename_i hi1
          have hr1 : r < 8 := by omega
          have hk1 : k < 8 := by omega
          have e1 : ((r : Int) * 8 + k).toNat = r * 8 + k := by omega
          have e2 : ((i : Int) * 8 + k).toNat = i * 8 + k := by omega
          have e3 : (M.getD r default).getD i 0 = g r i := hM3 r i hr1 (by omega)
          rw [e1, e2, e3, part_get (by omega), part_set (by omega), wrap64 (g r i * l.getD (i * 8 + k) 0) (by omega), wrap64 _ (by omega), hst]
        · have hi1 : i = 8 := by omega
          subst hi1
          rw [← Nat.add_assoc]; exact part_next (by show sh 8 g l r k 8 = halfM 8 g l ((r * 8 + k) / 8) ((r * 8 + k) % 8); rw [(hdm (by omega)).1, (hdm (by omega)).2]; rfl)
      · have hk1 : k = 8 := by omega
        rw [hk1, Nat.succ_mul]
    have hr1 : r = 8 := by omega
    subst hr1
    have ep : part (fh 8 g l) 64 (8 * 8) 0 = tabL (fh 8 g l) 64 := part_all _ _ _
    rw [ep]
    have hplh := tabL_len (fh 8 g l) 64
    refine WpA.loop (fun r : Nat => ⟨[(0, LLn 8 M), (5, I 8), (6, .own 0 1 0 64), (7, .own 1 1 0 64), (76, I 8), (77, I r)], [XD (tabL (fh 8 g l) 64), XD (part (fo 8 g l) 64 (r * 8) 0)]⟩) (fun r => r ≤ 8) (fun r => 8 - r) 0 (by omega) (go (r := ?_)) (fun r hr => ?_)
    · simp [part_zero]
    have hpl1 := part_len (fo 8 g l) 64 (r * 8) 0
    refine go (r := ?_); and_intros <;> intros <;> try exact True.intro
    · refine WpA.loop (fun k : Nat => ⟨[(0, LLn 8 M), (5, I 8), (6, .own 0 1 0 64), (7, .own 1 1 0 64), (11, I r), (76, I 8), (77, I r), (80, I 8), (81, I k)], [XD (tabL (fh 8 g l) 64), XD (part (fo 8 g l) 64 (r * 8 + k) 0)]⟩) (fun k => k ≤ 8) (fun k => 8 - k) 0 (by omega) (go (r := ?_)) (fun k hk => ?_)
      · trivial
      have hpl2 := part_len (fo 8 g l) 64 (r * 8 + k) 0
      refine go (r := ?_); and_intros <;> intros <;> try exact True.intro
      · refine WpA.loop (fun i : Nat => ⟨[(0, LLn 8 M), (5, I 8), (6, .own 0 1 0 64), (7, .own 1 1 0 64), (11, I r), (12, I k), (76, I 8), (77, I r), (80, I 8), (81, I k), (84, I 8), (85, I i)], [XD (tabL (fh 8 g l) 64), XD (part (fo 8 g l) 64 (r * 8 + k) (so 8 g l r k i))]⟩) (fun i => i ≤ 8) (fun i => 8 - i) 0 (by omega) (go (r := ?_)) (fun i hi => ?_)
        · simp [sumF]
        have hpl3 := part_len (fo 8 g l) 64 (r * 8 + k) (so 8 g l r k i)
        have hM2r := hM2 k
        have hsb := so_bd (n := 8) hg h2 (by omega) r k i
        have hdm := divmod (n := 8) (r := r) (k := k)
        have hdi := divmod (n := 8) (r := r) (k := i)
        have hgl := half_in (n := 8) hg h2 (by omega) r i
        have hgg := mul_huge hgl (hg k i)
        have hst : so 8 g l r k (i + 1) = so 8 g l r k i + halfM 8 g l r i * g k i := rfl
        refine go (r := ?_); and_intros <;> intros <;> try exact True.intro
        · rename_i hi1
          have hr1 : r < 8 := by omega
          have hk1 : k < 8 := by omega
          have e1 : ((r : Int) * 8 + k).toNat = r * 8 + k := by omega
          have e2 : ((r : Int) * 8 + i).toNat = r * 8 + i := by omega
          have e3 : (M.getD k default).getD i 0 = g k i := hM3 k i hk1 (by omega)
          have e4 : (tabL (fh 8 g l) 64).getD (r * 8 + i) 0 = halfM 8 g l r i := by rw [tabL_get (by omega)]; show halfM 8 g l ((r * 8 + i) / 8) ((r * 8 + i) % 8) = _; rw [(hdi (by omega)).1, (hdi (by omega)).2]
          rw [e1, e2, e3, e4, part_get (by omega), part_set (by omega), wrap64 (halfM 8 g l r i * g k i) (by omega), wrap64 _ (by omega), hst]
        · have hi1 : i = 8 := by omega
          subst hi1
          rw [← Nat.add_assoc]; exact part_next (by show so 8 g l r k 8 = fullM 8 g l ((r * 8 + k) / 8) ((r * 8 + k) % 8); rw [(hdm (by omega)).1, (hdm (by omega)).2]; rfl)
      · have hk1 : k = 8 := by omega
        rw [hk1, Nat.succ_mul]
    all_goals have hr1 : r = 8 := by omega
    all_goals subst hr1
    all_goals first | (rw [e, tabL_len]; done) | (rw [e]; exact congrArg _ (part_all _ _ _)) | (rw [e]; exact part_all _ _ _) | trace_state
  · have e : prodL 8 g l = [] := by rw [prodL, if_neg h]
    refine FnC.of_body tabOk Try.func128 Try.ntmps128 rfl (by decide +kernel) (by simp) fun G => ?_
    refine goR (r := ?_); and_intros <;> intros <;> try exact True.intro
    all_goals first | (rw [e]; done) | (rw [e]; rfl) | (exact absurd ⟨by omega, by assumption⟩ h) | trace_state
end Go.Proofs.Ytepfjefdbpmobaa
