/- Contracts: slices joined. No condition. -/
import Derived.Test.YtepfjefdbpmobaaCode
import Derived.Test.YtepfjefdbpmobaaAbsX
namespace Go.Proofs.Ytepfjefdbpmobaa
open Go Go.Abs
set_option linter.unusedVariables false
set_option linter.unusedSimpArgs false
set_option maxRecDepth 100000
set_option maxHeartbeats 4000000
attribute [local irreducible] WpA WpL Rnd Blk Abs.Seq Abs.Fin Abs.FinG FnC FnG Only

abbrev LL (M : List (List Int)) : AV := .imm 1 M.length (rows liI M)
instance Grow_c : Con 183 (∀ n : Nat, n ≤ 1099511627776 → Fn 183 [.nilS, I n] [XI []] (.own 0 0 0 0)) := ⟨fun n hn => by
  refine FnC.of_body tabOk Try.func183 Try.ntmps183 rfl (by decide +kernel) (by simp) fun G => ?_
  by_cases h0 : n = 0
  · subst h0
    refine go (r := ?_); and_intros <;> intros <;> try exact True.intro
    refine WpL.capNil (TabOk.slice tabOk rfl).1 rfl (by decide) ?_
    refine go (r := ?_); and_intros <;> intros <;> try exact True.intro
    all_goals rfl
  · refine go (r := ?_); and_intros <;> intros <;> try exact True.intro
    refine WpL.capNil (TabOk.slice tabOk rfl).1 rfl (by decide) ?_
    refine go (r := ?_); and_intros <;> intros <;> try exact True.intro
    refine WpL.capNil (TabOk.slice tabOk rfl).1 rfl (by decide) ?_
    refine WpL.subNil tabOk rfl rfl rfl (by decide) ?_
    refine WpL.move rfl (by decide) ?_
    refine WpL.appZeros (p := n) tabOk rfl rfl rfl (show AV.sc (Value.int .i64 ((n : Int) - (0 - 0))) = _ by congr 2) (by omega) (by omega) rfl (by decide) ?_
    refine go (r := ?_); and_intros <;> intros <;> try exact True.intro
    refine WpL.subOwn0 tabOk rfl rfl rfl rfl rfl (by decide) ?_
    refine go (r := ?_); and_intros <;> intros <;> try exact True.intro
    all_goals rfl⟩
theorem flat_snoc (M : List (List Int)) (k : Nat) (h : k < M.length) : (M.take (k + 1)).flatten = (M.take k).flatten ++ M.getD k default := by
  rw [take_snoc M k h, List.flatten_append]; simp
@[irreducible] def SmL (c : Nat) (M : List (List Int)) : Prop := ∀ r ∈ M, r.length ≤ c
theorem smL_get {c : Nat} {M : List (List Int)} (h : SmL c M) {k : Nat} (hk : k < M.length) : (M.getD k default).length ≤ c := by
  unfold SmL at h; exact h _ (by simp [hk])
theorem smL_bd {c : Nat} {M : List (List Int)} (h : SmL c M) : ∀ k, k ≤ M.length → (M.take k).flatten.length ≤ k * c
  | 0, _ => by simp
  | k + 1, hk => by
    have h1 := smL_bd h k (by omega)
    have h2 := smL_get h (k := k) (by omega)
    rw [flat_snoc M k (by omega), List.length_append, Nat.add_mul, Nat.one_mul]; omega
theorem smL_nil (c : Nat) : SmL c [] := by unfold SmL; intro r hr; cases hr
theorem smL_cons {c : Nat} {a : List Int} {M : List (List Int)} (h : a.length ≤ c) (r : SmL c M) : SmL c (a :: M) := by
  unfold SmL at *; intro x hx
  rcases List.mem_cons.1 hx with rfl | hx
  · exact h
  · exact r x hx
instance Concat_c : Con 169 (∀ M : List (List Int), M.length ≤ 1024 ∧ SmL 1048576 M → Fn 169 [LL M] [XI M.flatten] (.own 0 0 0 M.flatten.length)) := ⟨fun M hM => by
  refine FnC.of_body tabOk Try.func169 Try.ntmps169 rfl (by decide +kernel) (by simp) fun G => ?_
  refine go (r := ?_); and_intros <;> intros <;> try exact True.intro
  refine WpA.loop (fun k : Nat => ⟨[(0, LL M), (3, I (M.take k).flatten.length), (9, LL M), (10, I M.length), (11, I k)], []⟩) (fun k => k ≤ M.length) (fun k => M.length - k) 0 (by omega) (go (r := ?_)) (fun k hk => ?_)
  · simp
  have hb := smL_bd hM.2 k hk
  have hg := fun h => smL_get hM.2 (k := k) h
  have hs := fun h => flat_snoc M k h
  refine go (r := ?_); and_intros <;> intros <;> try exact True.intro
  · rw [hs (by omega), List.length_append]; omega
  have e : k = M.length := by omega
  subst e
  rw [List.take_length] at *
  refine go (r := ?_); and_intros <;> intros <;> try exact True.intro
  refine WpA.loop (fun k : Nat => ⟨[(6, .own 0 0 0 (M.take k).flatten.length), (25, LL M), (26, I M.length), (27, I k)], [XI (M.take k).flatten]⟩) (fun k => k ≤ M.length) (fun k => M.length - k) 0 (by omega) (go (r := ?_)) (fun k hk => ?_)
  · simp
  have hb2 := smL_bd hM.2 k hk
  have hg2 := fun h => smL_get hM.2 (k := k) h
  have hs2 := fun h => flat_snoc M k h
  have hln : k < M.length → (M.take (k + 1)).flatten.length = (M.take k).flatten.length + (M.getD k default).length := fun h => by rw [hs2 h, List.length_append]
  refine go (r := ?_); and_intros <;> intros <;> try exact True.intro
  · rw [hs2 (by omega)]
  all_goals have e : k = M.length := by omega
  all_goals subst e
  all_goals rw [List.take_length]⟩
end Go.Proofs.Ytepfjefdbpmobaa
