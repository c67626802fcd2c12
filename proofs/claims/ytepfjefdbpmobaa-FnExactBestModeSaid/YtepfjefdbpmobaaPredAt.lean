/- Contracts: predictions, number by number and whole. No condition. -/
import Derived.Test.YtepfjefdbpmobaaNb
namespace Go.Proofs.Ytepfjefdbpmobaa
open Go Go.Abs
set_option linter.unusedVariables false
set_option linter.unusedSimpArgs false
set_option maxRecDepth 100000
set_option maxHeartbeats 4000000
attribute [local irreducible] WpA WpL Rnd Blk Abs.Seq Abs.Fin Abs.FinG FnC FnG Only

theorem in_append {l m : List Int} {lo hi : Int} (h1 : In l lo hi) (h2 : In m lo hi) : In (l ++ m) lo hi := by
  unfold In at *; intro v hv
  rcases List.mem_append.1 hv with h | h
  · exact h1 v h
  · exact h2 v h
theorem in_one {v lo hi : Int} (h : lo ≤ v ∧ v ≤ hi) : In [v] lo hi := by unfold In; intro x hx; have : x = v := by simpa using hx
                                                                          subst this; exact h
theorem in_rev {l : List Int} {lo hi : Int} (h : In l lo hi) : In l.reverse lo hi := by unfold In at *; intro v hv; exact h v (by simpa using hv)
theorem bord_in {t l : List Int} {c n : Int} (h : NbOk t l c n) : In (bordL t l c n) 0 255 := by
  rw [bordL, if_pos h]
  obtain ⟨h1, h2, h3, h4, h5, h6⟩ := h
  exact in_append (in_append (in_rev h5) (in_one h6)) (in_take h4 _)
instance l15Clip_s : Con 154 (∀ v : Int, Fn 154 [I v] [] (I (max 0 (min 255 v)))) := ⟨fun v => by
  refine FnC.of_body tabOk Try.func154 Try.ntmps154 rfl (by decide +kernel) (by simp) fun G => ?_
  exact go (r := trivial)⟩
def soft (a b c : Int) : Int := (a + 2 * b + c + 2) / 4
instance l15Soft_s : Con 155 (∀ a b c : Int, (0 ≤ a ∧ a ≤ 255) ∧ (0 ≤ b ∧ b ≤ 255) ∧ 0 ≤ c ∧ c ≤ 255 → Fn 155 [I a, I b, I c] [] (I (soft a b c))) := ⟨fun a b c h => by
  refine FnC.of_body tabOk Try.func155 Try.ntmps155 rfl (by decide +kernel) (by simp) fun G => ?_
  refine go (r := ?_); and_intros <;> intros <;> try exact True.intro
  all_goals rfl⟩
instance smoothed_c : Con 157 (∀ a b c : Int, (0 ≤ a ∧ a ≤ 255) ∧ (0 ≤ b ∧ b ≤ 255) ∧ 0 ≤ c ∧ c ≤ 255 → Fn 157 [I a, I b, I c] [] (I (soft a b c))) := ⟨fun a b c h => by
  refine FnC.of_body tabOk Try.func157 Try.ntmps157 rfl (by decide +kernel) (by simp) fun G => ?_
  refine go (r := ?_); and_intros <;> intros <;> try exact True.intro
  all_goals rfl⟩
theorem soft_in {a b c : Int} (h : (0 ≤ a ∧ a ≤ 255) ∧ (0 ≤ b ∧ b ≤ 255) ∧ 0 ≤ c ∧ c ≤ 255) : 0 ≤ soft a b c ∧ soft a b c ≤ 255 := by unfold soft; omega
def predL (m : Int) (t l : List Int) (c : Int) (a b : Bool) (n x y : Int) : Int := if NbOk t l c n ∧ (0 ≤ x ∧ x ≤ n - 1) ∧ 0 ≤ y ∧ y ≤ n - 1 then
  (if m = 0 then meanL t l c a b n else if m = 1 then t.getD x.toNat 0 else if m = 2 then l.getD y.toNat 0 else if m = 3 then max 0 (min 255 (l.getD y.toNat 0 + t.getD x.toNat 0 - c))
    else if m = 4 then soft (t.getD (x + y).toNat 0) (t.getD (min (2 * n - 1) (x + y + 1)).toNat 0) (t.getD (min (2 * n - 1) (x + y + 2)).toNat 0)
    else if m = 5 then soft ((bordL t l c n).getD (x - y + n - 1).toNat 0) ((bordL t l c n).getD (x - y + n).toNat 0) ((bordL t l c n).getD (x - y + n + 1).toNat 0) else -1) else -1
theorem predL_no {m : Int} {t l : List Int} {c : Int} {a b : Bool} {n x y : Int} (h : ¬ (NbOk t l c n ∧ (0 ≤ x ∧ x ≤ n - 1) ∧ 0 ≤ y ∧ y ≤ n - 1)) : -1 = predL m t l c a b n x y := by unfold predL; rw [if_neg h]
instance PredAt_s : Con 120 (∀ (m : Int) (t l : List Int) (c : Int) (a b : Bool) (n x y : Int), t.length ≤ 1099511627776 ∧ l.length ≤ 1099511627776 ∧ -9223372036854775807 ≤ n → Fn 120 [I m, NbA t l c a b, I n, I x, I y] [] (I (predL m t l c a b n x y))) := ⟨fun m t l c a b n x y hl => by
  by_cases h : NbOk t l c n ∧ (0 ≤ x ∧ x ≤ n - 1) ∧ 0 ≤ y ∧ y ≤ n - 1
  · obtain ⟨h0, hx, hy⟩ := id h
    obtain ⟨h1, h2, h3, h4, h5, h6⟩ := id h0
    have hbl := bord_len h0
    have hbi := bord_in h0
    have g1 := in_get h4 (k := x.toNat) (by omega)
    have g2 := in_get h5 (k := y.toNat) (by omega)
    have g3 := in_get h4 (k := (x + y).toNat) (by omega)
    have g4 := in_get h4 (k := (min (2 * n - 1) (x + y + 1)).toNat) (by omega)
    have g5 := in_get h4 (k := (min (2 * n - 1) (x + y + 2)).toNat) (by omega)
    have g6 := in_get hbi (k := (x - y + n - 1).toNat) (by omega)
    have g7 := in_get hbi (k := (x - y + n).toNat) (by omega)
    have g8 := in_get hbi (k := (x - y + n + 1).toNat) (by omega)
    refine FnC.of_body tabOk Try.func120 Try.ntmps120 rfl (by decide +kernel) (by simp) fun G => ?_
    refine go (r := ?_); and_intros <;> intros <;> try exact True.intro
    all_goals first | (exact absurd h0 ‹¬ NbOk t l c n›) | (exact absurd hx (by assumption)) | (exact absurd hy (by assumption)) | skip
    all_goals (unfold predL; rw [if_pos h]; first | (subst_vars; rfl) | (simp_all; done))
  · by_cases h0 : NbOk t l c n
    · by_cases hx : 0 ≤ x ∧ x ≤ n - 1
      · have hy : ¬ (0 ≤ y ∧ y ≤ n - 1) := fun hh => h ⟨h0, hx, hh⟩
        refine FnC.of_body tabOk Try.func120 Try.ntmps120 rfl (by decide +kernel) (by simp) fun G => ?_
        refine go (r := ?_); and_intros <;> intros <;> try exact True.intro
        all_goals exact predL_no h
      · refine FnC.of_body tabOk Try.func120 Try.ntmps120 rfl (by decide +kernel) (by simp) fun G => ?_
        refine go (r := ?_); and_intros <;> intros <;> try exact True.intro
        all_goals exact predL_no h
    · refine FnC.of_body tabOk Try.func120 Try.ntmps120 rfl (by decide +kernel) (by simp) fun G => ?_
      refine go (r := ?_); and_intros <;> intros <;> try exact True.intro
      all_goals exact predL_no h⟩
instance PredAt_c : Con 122 (∀ (m : Int) (t l : List Int) (c : Int) (a b : Bool) (n x y : Int), t.length ≤ 1099511627776 ∧ l.length ≤ 1099511627776 ∧ -9223372036854775807 ≤ n → Fn 122 [I m, NbA t l c a b, I n, I x, I y] [] (I (predL m t l c a b n x y))) := ⟨fun m t l c a b n x y hl => by
  by_cases h : NbOk t l c n ∧ (0 ≤ x ∧ x ≤ n - 1) ∧ 0 ≤ y ∧ y ≤ n - 1
  · obtain ⟨h0, hx, hy⟩ := id h
    obtain ⟨h1, h2, h3, h4, h5, h6⟩ := id h0
    have hbl := bord_len h0
    have hbi := bord_in h0
    have g1 := in_get h4 (k := x.toNat) (by omega)
    have g2 := in_get h5 (k := y.toNat) (by omega)
    have g3 := in_get h4 (k := (x + y).toNat) (by omega)
    have g4 := in_get h4 (k := (min (x + y + 1) (2 * n - 1)).toNat) (by omega)
    have g5 := in_get h4 (k := (min (x + y + 2) (2 * n - 1)).toNat) (by omega)
    have g6 := in_get hbi (k := (x - y + n - 1).toNat) (by omega)
    have g7 := in_get hbi (k := (x - y + n).toNat) (by omega)
    have g8 := in_get hbi (k := (x - y + n + 1).toNat) (by omega)
    refine FnC.of_body tabOk Try.func122 Try.ntmps122 rfl (by decide +kernel) (by simp) fun G => ?_
    refine go (r := ?_); and_intros <;> intros <;> try exact True.intro
    all_goals (unfold predL; rw [if_pos h]; first | (subst_vars; rfl) | (simp_all [Int.min_comm]; done))
  · by_cases h0 : NbOk t l c n
    · by_cases hx : 0 ≤ x ∧ x ≤ n - 1
      · have hy : ¬ (0 ≤ y ∧ y ≤ n - 1) := fun hh => h ⟨h0, hx, hh⟩
        refine FnC.of_body tabOk Try.func122 Try.ntmps122 rfl (by decide +kernel) (by simp) fun G => ?_
        refine go (r := ?_); and_intros <;> intros <;> try exact True.intro
        all_goals exact predL_no h
      · refine FnC.of_body tabOk Try.func122 Try.ntmps122 rfl (by decide +kernel) (by simp) fun G => ?_
        refine go (r := ?_); and_intros <;> intros <;> try exact True.intro
        all_goals exact predL_no h
    · refine FnC.of_body tabOk Try.func122 Try.ntmps122 rfl (by decide +kernel) (by simp) fun G => ?_
      refine go (r := ?_); and_intros <;> intros <;> try exact True.intro
      all_goals exact predL_no h⟩
end Go.Proofs.Ytepfjefdbpmobaa
