/- Contracts: bits of streams, how many bits a stream has; the law FnExactSizeOf. No condition. -/
import Derived.Test.YtepfjefdbpmobaaBitsH
import Derived.Test.YtepfjefdbpmobaaLn
namespace Go.Proofs.Ytepfjefdbpmobaa
open Go Go.Abs
set_option linter.unusedVariables false
set_option linter.unusedSimpArgs false
set_option maxRecDepth 100000
set_option maxHeartbeats 4000000
attribute [local irreducible] WpA WpL Rnd Blk Abs.Seq Abs.Fin Abs.FinG FnC FnG Only

/-! Streams. -/
def mbF (l : List Int) (m : Mbk) : List Int := mbbL m.1 m.2 l
def stK (w h q : Int) (b d : Bool) (l : List Int) (M : List Mbk) (k : Nat) : List Int := hdL w h q b d l ++ (M.take k).flatMap (mbF l)
theorem stK_len (w h q : Int) (b d : Bool) (l : List Int) (M : List Mbk) (k : Nat) : (stK w h q b d l M k).length ≤ 600 + 33601 * k := by
  have h1 := hdL_len w h q b d l
  have h3 := fm_bd (mbF l) 33601 (fun m => mbbL_len _ _ _) (M.take k)
  have h4 : (M.take k).length ≤ k := by simp; omega
  unfold stK; simp only [List.length_append]; omega
theorem stK_succ (w h q : Int) (b d : Bool) (l : List Int) (M : List Mbk) (k : Nat) (hk : k < M.length) : stK w h q b d l M (k + 1) = stK w h q b d l M k ++ mbF l (M.getD k default) := by
  unfold stK; rw [fm_snoc _ _ k hk, ← List.append_assoc]
def sizeL (w h q : Int) (b d : Bool) (l : List Int) (M : List Mbk) : Int := if StOk w h q l M then ((stK w h q b d l M M.length).length : Int) else 0
instance bits_c : Con 104 (∀ (w h q : Int) (b d : Bool) (l : List Int) (M : List Mbk), l.length ≤ 1099511627776 ∧ SmM 1099511627776 M ∧ StOk w h q l M → Fn 104 [StA w h q b d l M] [XI (stK w h q b d l M M.length)] (.own 0 0 0 (stK w h q b d l M M.length).length)) := ⟨fun w h q b d l M hl => by
  have h0 := hl.2.2
  have x1 := h0.1.1
  have x2 := h0.1.2.1
  have x3 := h0.1.2.2.1
  have x4 := h0.1.2.2.2.1
  have x5 := h0.1.2.2.2.2
  have hcm := cntM_bd h0.1.1
  have hmn := h0.2.1
  have hz : hdL w h q b d l = stK w h q b d l M 0 := by simp [stK]
  have hzl := hdL_len w h q b d l
  have hz2 : (hdL w h q b d l).length = (stK w h q b d l M 0).length := by rw [hz]
  refine FnC.of_body tabOk Try.func104 Try.ntmps104 rfl (by decide +kernel) (by simp) fun G => ?_
  refine go (r := ?_); and_intros <;> intros <;> try exact True.intro
  refine WpA.loop (fun i : Nat => ⟨[(1, .ptr 0 0 0), (3, .own 1 0 0 (stK w h q b d l M i).length), (10, MbL M), (11, I M.length), (12, I i)], [⟨StC w h q b d l M, 0, 0, none⟩, XI (stK w h q b d l M i)]⟩) (fun i => i ≤ M.length) (fun i => M.length - i) 0 (by omega) (go (r := ?_)) (fun i hi => ?_)
  · trivial
  have hb := stK_len w h q b d l M i
  have hsc := fun hk => stK_succ w h q b d l M i hk
  have hbl := mbbL_len (M.getD i default).1 (M.getD i default).2 l
  have hsl : i < M.length → (stK w h q b d l M (i + 1)).length = (stK w h q b d l M i).length + (mbbL (M.getD i default).1 (M.getD i default).2 l).length := fun hk => by rw [hsc hk, List.length_append]; rfl
  by_cases hi2 : i < M.length
  · obtain ⟨hg1, hg2⟩ := smM_get hl.2.1 hi2
    have hok := (ok_blk h0 hi2).2
    have hok1 := (ok_blk h0 hi2).1
    have hsl := hsl hi2
    refine go (r := ?_); and_intros <;> intros <;> try exact True.intro
    all_goals first | (rw [hsc hi2]; rfl) | trace_state
  · have ek : i = M.length := by omega
    subst ek
    refine go (r := ?_); and_intros <;> intros <;> try exact True.intro
    all_goals trace_state⟩
instance SizeOf_s : Con 46 (∀ (w h q : Int) (b d : Bool) (l : List Int) (M : List Mbk), l.length ≤ 1099511627776 ∧ mw M ≤ 1048576 → Fn 46 [StA w h q b d l M] [] (I (sizeL w h q b d l M))) := ⟨fun w h q b d l M hM => by
  have hmw : mw M = M.length + (M.map mn).sum := rfl
  have hsm : SmM 1099511627776 M := smM_of (by omega)
  have hhl := hdL_len w h q b d l
  refine FnC.of_body tabOk Try.func46 Try.ntmps46 rfl (by decide +kernel) (by simp) fun G => ?_
  by_cases h0 : StOk w h q l M
  · have hres : sizeL w h q b d l M = (stK w h q b d l M M.length).length := by rw [sizeL, if_pos h0]
    have hz : (hdL w h q b d l).length = (stK w h q b d l M 0).length := by simp [stK]
    refine go (r := ?_); and_intros <;> intros <;> try exact True.intro
    all_goals first | exact hsm | (exact absurd h0 (by assumption)) | skip
    refine WpA.loop (fun i : Nat => ⟨[(1, .ptr 0 0 0), (3, I (stK w h q b d l M i).length), (4, I i)], [⟨StC w h q b d l M, 0, 0, none⟩]⟩) (fun i => i ≤ M.length) (fun i => M.length - i) 0 (by omega) (go (r := ?_)) (fun i hi => ?_)
    · trivial
    have hb := stK_len w h q b d l M i
    have hsc := fun hk => stK_succ w h q b d l M i hk
    have hbl := mbbL_len (M.getD i default).1 (M.getD i default).2 l
    have hsl : i < M.length → (stK w h q b d l M (i + 1)).length = (stK w h q b d l M i).length + (mbbL (M.getD i default).1 (M.getD i default).2 l).length := fun hk => by rw [hsc hk, List.length_append]; rfl
    by_cases hi2 : i < M.length
    · obtain ⟨hg1, hg2⟩ := smM_get hsm hi2
      have hsl := hsl hi2
      refine go (r := ?_); and_intros <;> intros <;> try exact True.intro
      all_goals trace_state
    · have ek : i = M.length := by omega
      subst ek
      refine go (r := ?_); and_intros <;> intros <;> try exact True.intro
      all_goals trace_state
  · have hres : sizeL w h q b d l M = 0 := by rw [sizeL, if_neg h0]
    refine go (r := ?_); and_intros <;> intros <;> try exact True.intro
    all_goals first | exact hsm | (exact absurd (by assumption) h0) | (rw [hres]; done) | trace_state⟩
instance SizeOf_c : Con 47 (∀ (w h q : Int) (b d : Bool) (l : List Int) (M : List Mbk), l.length ≤ 1099511627776 ∧ mw M ≤ 1048576 → Fn 47 [StA w h q b d l M] [] (I (sizeL w h q b d l M))) := ⟨fun w h q b d l M hM => by
  have hmw : mw M = M.length + (M.map mn).sum := rfl
  have hsm : SmM 1099511627776 M := smM_of (by omega)
  refine FnC.of_body tabOk Try.func47 Try.ntmps47 rfl (by decide +kernel) (by simp) fun G => ?_
  by_cases h0 : StOk w h q l M
  · have hres : sizeL w h q b d l M = (stK w h q b d l M M.length).length := by rw [sizeL, if_pos h0]
    refine go (r := ?_); and_intros <;> intros <;> try exact True.intro
    all_goals first | exact hsm | exact h0 | exact h0.1.2.2.1 | exact h0.1.2.2.2.1 | exact h0.1.2.2.2.2 | exact h0.2.2 | (exact absurd h0 (by assumption)) | (rw [hres]; done) | trace_state
  · have hres : sizeL w h q b d l M = 0 := by rw [sizeL, if_neg h0]
    refine go (r := ?_); and_intros <;> intros <;> try exact True.intro
    all_goals first | exact hsm | (exact absurd (by assumption) h0) | (rw [hres]; done) | trace_state⟩

theorem FnExactSizeOf_c (w h q : Int) (b d : Bool) (l : List Int) (M : List Mbk) (hl : l.length ≤ 9223372036854775807 ∧ M.length ≤ 9223372036854775807 ∧ SmM 9223372036854775807 M) : Fn 11 [StA w h q b d l M] [] (B true) := by
  refine FnC.of_body tabOk Try.func11 Try.ntmps11 rfl (by decide +kernel) (by simp) fun G => ?_
  have hmw : mw M = M.length + (M.map mn).sum := rfl
  by_cases hM : mw M ≤ 1048576
  · have hsm : SmM 1099511627776 M := smM_of (by omega)
    refine go (r := ?_); and_intros <;> intros <;> try (first | exact True.intro | (simp_all; done))
  · refine go (r := ?_); and_intros <;> intros <;> try (first | exact True.intro | (simp_all; done))
    all_goals omega
end Go.Proofs.Ytepfjefdbpmobaa
