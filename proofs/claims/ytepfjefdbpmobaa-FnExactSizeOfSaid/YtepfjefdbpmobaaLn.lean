/- Contracts of the laws' own functions over headers, blocks, macroblocks and streams. No condition. -/
import Derived.Test.YtepfjefdbpmobaaLw
namespace Go.Proofs.Ytepfjefdbpmobaa
open Go Go.Abs
set_option linter.unusedVariables false
set_option linter.unusedSimpArgs false
set_option maxRecDepth 100000
set_option maxHeartbeats 4000000
attribute [local irreducible] WpA WpL Rnd Blk Abs.Seq Abs.Fin Abs.FinG FnC FnG Only

/-! Headers. -/
instance szHeader_c : Con 63 (∀ (w h q : Int) (b d : Bool) (l : List Int) (left : Int), l.length ≤ 9223372036854775807 ∧ 0 ≤ left ∧ left ≤ 1048576 → Fn 63 [HdA w h q b d l, I left] [] (I (max (-1) (left - l.length)))) := ⟨fun w h q b d l left hl => by
  refine FnC.of_body tabOk Try.func63 Try.ntmps63 rfl (by decide +kernel) (by simp) fun G => ?_
  refine go (r := ?_); and_intros <;> intros <;> try exact True.intro⟩
instance toHeader_c : Con 65 (∀ (w h q : Int) (b d : Bool) (l : List Int), l.length ≤ 1099511627776 → Fn 65 [HdA w h q b d l] [⟨ints l, 0, 1, some 3⟩] (.agg [I w, I h, I q, B b, B d, .own 0 0 0 l.length])) := ⟨fun w h q b d l hl => by
  refine FnC.of_body tabOk Try.func65 Try.ntmps65 rfl (by decide +kernel) (by simp) fun G => ?_
  refine go (r := ?_); and_intros <;> intros <;> try exact True.intro⟩
instance eqHeader_c : Con 68 (∀ (w h q : Int) (b d : Bool) (l : List Int) (w2 h2 q2 : Int) (b2 d2 : Bool) (l2 : List Int), l.length ≤ 1099511627776 ∧ l2.length ≤ 1099511627776 →
    Fn 68 [HdA w h q b d l, HdA w2 h2 q2 b2 d2 l2] [] (B (decide (w = w2 ∧ h = h2 ∧ q = q2 ∧ b = b2 ∧ d = d2 ∧ l = l2)))) := ⟨fun w h q b d l w2 h2 q2 b2 d2 l2 hl => by
  refine FnC.of_body tabOk Try.func68 Try.ntmps68 rfl (by decide +kernel) (by simp) fun G => ?_
  refine go (r := ?_); and_intros <;> intros <;> try exact True.intro
  all_goals simp_all⟩
instance markHeader_c : ConG 73 (∀ (w h q : Int) (b d : Bool) (l : List Int) (k : Int), l.length ≤ 1048576 ∧ 0 ≤ k ∧ k ≤ 1073741824 →
    Gn 73 [.agg [I w, I h, I q, B b, B d, .own 0 0 0 l.length], I k] [IN l] [IN (marksI k l.length)] [] (I (k + l.length))) := ⟨fun w h q b d l k hk => by
  refine FnG.of_bodyF tabOk Try.func73 Try.ntmps73 rfl (by decide +kernel) (by simp) rfl rfl fun G => ?_
  refine go (r := ?_); and_intros <;> intros <;> try exact True.intro⟩

/-! Blocks. -/
instance szBlock_c : Con 173 (∀ (m : Int) (l : List Int) (left : Int), l.length ≤ 9223372036854775807 ∧ 0 ≤ left ∧ left ≤ 1048576 → Fn 173 [.agg [I m, IL l], I left] [] (I (max (-1) (left - l.length)))) := ⟨fun m l left hl => by
  refine FnC.of_body tabOk Try.func173 Try.ntmps173 rfl (by decide +kernel) (by simp) fun G => ?_
  refine go (r := ?_); and_intros <;> intros <;> try exact True.intro⟩
instance szBlockS_c : Con 147 (∀ (l : List Blok) (left : Int), l.length ≤ 9223372036854775807 ∧ SmB 9223372036854775807 l ∧ 0 ≤ left ∧ left ≤ 1048576 → Fn 147 [BkL l, I left] [] (I (max (-1) (left - bw l)))) := ⟨fun l left hl => by
  refine FnC.of_body tabOk Try.func147 Try.ntmps147 rfl (by decide +kernel) (by simp) fun G => ?_
  have hbw : bw l = l.length + (l.map bn).sum := rfl
  refine go (r := ?_); and_intros <;> intros <;> try exact True.intro
  refine WpA.loop (fun k : Nat => ⟨[(0, BkL l), (1, I (left - l.length - tk bn l k)), (5, I k)], []⟩) (fun k => k ≤ l.length ∧ 0 ≤ left - l.length - tk bn l k) (fun k => l.length - k) 0 (by rw [tk_zero]; omega) (go (r := ?_)) (fun k hk => ?_)
  · simp [tk_zero]
  have hs := fun h => tk_succ bn l k h
  have hg := fun h => smB_get hl.2.1 (k := k) h
  have he : bn (l.getD k default) = (l.getD k default).2.length := rfl
  have hle := tk_le bn l (k + 1)
  refine go (r := ?_); and_intros <;> intros <;> try exact True.intro
  all_goals first | (have e : k = l.length := by omega); subst e; rw [tk_all] at *; omega | skip
  all_goals have hs := hs (by omega)
  all_goals omega⟩
instance toBlock_c : Con 174 (∀ (m : Int) (l : List Int), l.length ≤ 1099511627776 → Fn 174 [.agg [I m, IL l]] [⟨ints l, 0, 1, some 3⟩] (.agg [I m, .own 0 0 0 l.length])) := ⟨fun m l hl => by
  refine FnC.of_body tabOk Try.func174 Try.ntmps174 rfl (by decide +kernel) (by simp) fun G => ?_
  refine go (r := ?_); and_intros <;> intros <;> try exact True.intro⟩
theorem fill_def {α : Type} [Inhabited α] (z : α) (xs : List α) (k : Nat) (h : k < xs.length) : (xs.take k ++ List.replicate (xs.length - k) z).set k (xs.getD k default) = xs.take (k + 1) ++ List.replicate (xs.length - (k + 1)) z := by
  have e : xs.getD k default = xs.getD k z := by simp [h]
  rw [e]; exact fill_step z xs k h
instance toBlockS_c : Con 148 (∀ l : List Blok, l.length ≤ 1099511627776 ∧ SmB 1099511627776 l → Fn 148 [BkL l] [BkO l] (.own 0 0 0 l.length)) := ⟨fun l hl => by
  refine FnC.of_body tabOk Try.func148 Try.ntmps148 rfl (by decide +kernel) (by simp) fun G => ?_
  refine go (r := ?_); and_intros <;> intros <;> try exact True.intro
  refine WpA.loop (fun k : Nat => ⟨[(0, BkL l), (3, .own 0 0 0 l.length), (4, I k)], [BkO (l.take k ++ List.replicate (l.length - k) (0, []))]⟩) (fun k => k ≤ l.length) (fun k => l.length - k) 0 (by omega) (go (r := ?_)) (fun k hk => ?_)
  · simp
  have hg := fun h => smB_get hl.2 (k := k) h
  refine go (r := ?_); and_intros <;> intros <;> try exact True.intro
  · exact fill_def (0, []) l k (by omega)
  · have : k = l.length := by omega
    subst this; simp⟩
instance eqBlock_c : Con 175 (∀ (m : Int) (l : List Int) (m2 : Int) (l2 : List Int), l.length ≤ 1099511627776 ∧ l2.length ≤ 1099511627776 → Fn 175 [.agg [I m, IL l], .agg [I m2, IL l2]] [] (B (decide (m = m2 ∧ l = l2)))) := ⟨fun m l m2 l2 hl => by
  refine FnC.of_body tabOk Try.func175 Try.ntmps175 rfl (by decide +kernel) (by simp) fun G => ?_
  refine go (r := ?_); and_intros <;> intros <;> try exact True.intro
  all_goals simp_all⟩
instance eqBlockS_c : Con 149 (∀ xs ys : List Blok, xs.length ≤ 1099511627776 ∧ ys.length ≤ 1099511627776 ∧ SmB 1099511627776 xs ∧ SmB 1099511627776 ys → Fn 149 [BkL xs, BkL ys] [] (B (decide (xs = ys)))) := ⟨fun xs ys hl => by
  refine FnC.of_body tabOk Try.func149 Try.ntmps149 rfl (by decide +kernel) (by simp) fun G => ?_
  refine go (r := ?_); and_intros <;> intros <;> try exact True.intro
  · simp; intro h; subst h; simp_all
  · refine WpA.loop (fun k : Nat => ⟨[(0, BkL xs), (1, BkL ys), (5, I k)], []⟩) (fun k => k ≤ xs.length ∧ ∀ j < k, xs.getD j default = ys.getD j default) (fun k => xs.length - k) 0 (by simp) (go (r := trivial)) (fun k hk => ?_)
    have hg := fun h => smB_get hl.2.2.1 (k := k) h
    have hg2 := fun h => smB_get hl.2.2.2 (k := k) h
    refine go (r := ?_); and_intros <;> intros <;> try exact True.intro
    · simp; rintro rfl; simp_all
    · rename_i j hj; by_cases h : j = k
      · subst h; apply Prod.ext <;> simp_all
      · exact hk.2 j (by omega)
    · have := eq_all default (xs := xs) (ys := ys) (by omega) (fun j hj => hk.2 j (by omega))
      simp [this]⟩
def endB (k : Int) (l : List Blok) : Int := k + bw l
def markB : Int → List Blok → List Blok
  | _, [] => []
  | k, b :: l => (k, marksI (k + 1) b.2.length) :: markB (k + 1 + b.2.length) l
theorem bw_nil : bw [] = 0 := rfl
theorem bw_cons (b : Blok) (l : List Blok) : bw (b :: l) = bw l + 1 + b.2.length := by unfold bw; rw [List.map_cons, List.sum_cons, List.length_cons]; unfold bn; omega
theorem bw_append (a b : List Blok) : bw (a ++ b) = bw a + bw b := by unfold bw; rw [List.map_append, List.sum_append, List.length_append]; omega
theorem markB_append : ∀ (a b : List Blok) (k : Int), markB k (a ++ b) = markB k a ++ markB (k + bw a) b
  | [], b, k => by simp [markB, bw_nil]
  | x :: a, b, k => by
    rw [List.cons_append, markB, markB, markB_append a b, bw_cons, List.cons_append]
    congr 3; omega
@[simp] theorem markB_len : ∀ (l : List Blok) (k : Int), (markB k l).length = l.length
  | [], k => rfl
  | b :: l, k => by rw [markB, List.length_cons, List.length_cons, markB_len l]
theorem markB_bw : ∀ (l : List Blok) (k : Int), bw (markB k l) = bw l
  | [], k => rfl
  | b :: l, k => by rw [markB, bw_cons, bw_cons, markB_bw l, marksI_len]
theorem bw_take (l : List Blok) (i : Nat) (h : i < l.length) : bw (l.take (i + 1)) = bw (l.take i) + 1 + (l.getD i default).2.length := by
  rw [take_snoc l i h, bw_append, bw_cons, bw_nil]; omega
theorem bw_take_le (l : List Blok) (i : Nat) : bw (l.take i) ≤ bw l := by
  conv => rhs; rw [← List.take_append_drop i l, bw_append]
  exact Nat.le_add_right _ _
theorem markB_take (l : List Blok) (i : Nat) (h : i < l.length) (k : Int) : markB k (l.take (i + 1)) = markB k (l.take i) ++ [(k + bw (l.take i), marksI (k + bw (l.take i) + 1) (l.getD i default).2.length)] := by
  rw [take_snoc l i h, markB_append]; rfl
theorem getD_mid {α : Type} [Inhabited α] (A : List α) (l : List α) (i : Nat) (hA : A.length = i) (h : i < l.length) : (A ++ l.drop i).getD i default = l.getD i default := by
  simp [List.getElem?_append_right, hA, h]
theorem set_mid {α : Type} (A : List α) (l : List α) (i : Nat) (hA : A.length = i) (h : i < l.length) (v : α) : (A ++ l.drop i).set i v = (A ++ [v]) ++ l.drop (i + 1) := by
  rw [List.set_append_right _ _ (by omega), hA, Nat.sub_self, List.drop_eq_getElem_cons h]; simp; rw [List.drop_eq_getElem_cons h]; rfl

instance markBlockS_c : ConG 116 (∀ (l : List Blok) (k : Int), bw l ≤ 1048576 ∧ 0 ≤ k ∧ k ≤ 1073741824 → Gn 116 [.own 0 0 0 l.length, I k] [BkN l] [BkN (markB k l)] [] (I (k + bw l))) := ⟨fun l k hk => by
  refine FnG.of_bodyF tabOk Try.func116 Try.ntmps116 rfl (by decide +kernel) (by simp) rfl rfl fun G => ?_
  have hbw : bw l = l.length + (l.map bn).sum := rfl
  refine go (r := ?_); and_intros <;> intros <;> try exact True.intro
  refine WpA.loop (fun i : Nat => ⟨[(0, .own 0 0 0 l.length), (1, I (k + bw (l.take i))), (5, I i)], [BkN (markB k (l.take i) ++ l.drop i)]⟩) (fun i => i ≤ l.length) (fun i => l.length - i) 0 (by simp) (go (r := ?_)) (fun i hi => ?_)
  · simp [markB, bw_nil]
  have hml := markB_len (l.take i) k
  have hlt : i ≤ l.length → (l.take i).length = i := fun h => by simp; omega
  have hsm := smB_of hk.1
  have hle := bw_take_le l i
  have hlen : i ≤ l.length → (markB k (l.take i) ++ l.drop i).length = l.length := fun h => by rw [List.length_append, hml]; simp; omega
  have hget : i < l.length → ∀ v, ((markB k (l.take i) ++ l.drop i).set i v).getD i default = v := fun h v => by simp [hlen (by omega), h]
  have hg := fun h => smB_get hsm (k := i) h
  have hmid := fun h => getD_mid (markB k (l.take i)) l i (by rw [hml, hlt (by omega)]) h
  have hbt := fun h => bw_take l i h
  refine go (r := ?_); and_intros <;> intros <;> try exact True.intro
  · rw [hget (by omega)]; simp only; rw [hmid (by omega)]; exact Nat.le_trans (hg (by omega)) (by decide)
  · rw [hget (by omega)]; simp only; rw [hmid (by omega), hbt (by omega)]; generalize l.getD i default = x; obtain ⟨m0, lv⟩ := x; simp only; omega
  · rw [List.set_set, hget (by omega)]; simp only; rw [hmid (by omega), set_mid _ _ _ (by rw [hml, hlt (by omega)]) (by omega), markB_take _ _ (by omega)]
  all_goals have e : i = l.length := by omega
  all_goals subst e; simp⟩
theorem markB_self (l : List Blok) (i : Nat) (h : i < l.length) (k : Int) (h1 : l.take i = markB k (l.take i)) (h2 : (l.getD i default).1 = k + bw (l.take i)) (h3 : (l.getD i default).2 = marksI (k + bw (l.take i) + 1) (l.getD i default).2.length) : l.take (i + 1) = markB k (l.take (i + 1)) := by
  rw [markB_take l i h, take_snoc l i h]
  conv => lhs; rw [h1]
  exact congrArg (fun x => markB k (l.take i) ++ [x]) (Prod.ext h2 h3)
theorem markB_get (l : List Blok) (i : Nat) (h : i < l.length) (k : Int) (e : l = markB k l) : (l.getD i default).1 = k + bw (l.take i) ∧ (l.getD i default).2 = marksI (k + bw (l.take i) + 1) (l.getD i default).2.length := by
  have h0 : l = (l.take i ++ [l.getD i default]) ++ l.drop (i + 1) := by rw [← take_snoc l i h, List.take_append_drop]
  have h1 : markB k l = (markB k (l.take i) ++ [(k + bw (l.take i), marksI (k + bw (l.take i) + 1) (l.getD i default).2.length)]) ++ markB (k + bw (l.take (i + 1))) (l.drop (i + 1)) := by
    rw [← markB_take l i h, ← markB_append, List.take_append_drop]
  have h2 : (markB k l).getD i default = (k + bw (l.take i), marksI (k + bw (l.take i) + 1) (l.getD i default).2.length) := by
    rw [h1]
    have : (markB k (l.take i)).length = i := by simp; omega
    simp [List.getElem?_append, this]
  have h3 : l.getD i default = (markB k l).getD i default := by rw [← e]
  rw [h2] at h3
  exact ⟨congrArg Prod.fst h3, congrArg Prod.snd h3⟩
/-! Macroblocks. -/
instance szMb_c : Con 110 (∀ (e : Bool) (l : List Blok) (left : Int), l.length ≤ 9223372036854775807 ∧ SmB 9223372036854775807 l ∧ 0 ≤ left ∧ left ≤ 1048576 → Fn 110 [.agg [B e, BkL l], I left] [] (I (max (-1) (left - bw l)))) := ⟨fun e l left hl => by
  refine FnC.of_body tabOk Try.func110 Try.ntmps110 rfl (by decide +kernel) (by simp) fun G => ?_
  refine go (r := ?_); and_intros <;> intros <;> try (first | exact True.intro | (simp_all; done))⟩
instance szMbS_c : Con 64 (∀ (l : List Mbk) (left : Int), l.length ≤ 9223372036854775807 ∧ SmM 9223372036854775807 l ∧ 0 ≤ left ∧ left ≤ 1048576 → Fn 64 [MbL l, I left] [] (I (max (-1) (left - mw l)))) := ⟨fun l left hl => by
  refine FnC.of_body tabOk Try.func64 Try.ntmps64 rfl (by decide +kernel) (by simp) fun G => ?_
  have hmw : mw l = l.length + (l.map mn).sum := rfl
  refine go (r := ?_); and_intros <;> intros <;> try exact True.intro
  refine WpA.loop (fun k : Nat => ⟨[(0, MbL l), (1, I (left - l.length - tk mn l k)), (5, I k)], []⟩) (fun k => k ≤ l.length ∧ 0 ≤ left - l.length - tk mn l k) (fun k => l.length - k) 0 (by rw [tk_zero]; omega) (go (r := ?_)) (fun k hk => ?_)
  · simp [tk_zero]
  have hs := fun h => tk_succ mn l k h
  have hg := fun h => smM_get hl.2.1 (k := k) h
  have he : mn (l.getD k default) = bw (l.getD k default).2 := rfl
  have hle := tk_le mn l (k + 1)
  refine go (r := ?_); and_intros <;> intros <;> try exact True.intro
  all_goals first | (have e : k = l.length := by omega); subst e; rw [tk_all] at *; omega | skip
  all_goals first | (have hs := hs (by omega); omega) | exact (hg (by omega)).1 | exact (hg (by omega)).2 | trace_state⟩
instance toMb_c : Con 111 (∀ (e : Bool) (l : List Blok), l.length ≤ 1099511627776 ∧ SmB 1099511627776 l → Fn 111 [.agg [B e, BkL l]] [BkO l] (.agg [B e, .own 0 0 0 l.length])) := ⟨fun e l hl => by
  refine FnC.of_body tabOk Try.func111 Try.ntmps111 rfl (by decide +kernel) (by simp) fun G => ?_
  refine go (r := ?_); and_intros <;> intros <;> try (first | exact True.intro | (simp_all; done))⟩
instance toMbS_c : Con 66 (∀ l : List Mbk, l.length ≤ 1099511627776 ∧ SmM 1099511627776 l → Fn 66 [MbL l] [MbO l] (.own 0 0 0 l.length)) := ⟨fun l hl => by
  refine FnC.of_body tabOk Try.func66 Try.ntmps66 rfl (by decide +kernel) (by simp) fun G => ?_
  refine go (r := ?_); and_intros <;> intros <;> try exact True.intro
  refine WpA.loop (fun k : Nat => ⟨[(0, MbL l), (3, .own 0 0 0 l.length), (4, I k)], [MbO (l.take k ++ List.replicate (l.length - k) (false, []))]⟩) (fun k => k ≤ l.length) (fun k => l.length - k) 0 (by omega) (go (r := ?_)) (fun k hk => ?_)
  · simp
  have hg := fun h => smM_get hl.2 (k := k) h
  refine go (r := ?_); and_intros <;> intros <;> try exact True.intro
  all_goals first | exact fill_def (false, []) l k (by omega) | exact (hg (by omega)).1 | exact (hg (by omega)).2 | ((have : k = l.length := by omega); subst this; simp; done) | trace_state⟩
instance eqMb_c : Con 112 (∀ (e : Bool) (l : List Blok) (e2 : Bool) (l2 : List Blok), l.length ≤ 1099511627776 ∧ l2.length ≤ 1099511627776 ∧ SmB 1099511627776 l ∧ SmB 1099511627776 l2 → Fn 112 [.agg [B e, BkL l], .agg [B e2, BkL l2]] [] (B (decide (e = e2 ∧ l = l2)))) := ⟨fun e l e2 l2 hl => by
  refine FnC.of_body tabOk Try.func112 Try.ntmps112 rfl (by decide +kernel) (by simp) fun G => ?_
  refine go (r := ?_); and_intros <;> intros <;> try exact True.intro
  all_goals simp_all⟩
instance eqMbS_c : Con 69 (∀ xs ys : List Mbk, xs.length ≤ 1099511627776 ∧ ys.length ≤ 1099511627776 ∧ SmM 1099511627776 xs ∧ SmM 1099511627776 ys → Fn 69 [MbL xs, MbL ys] [] (B (decide (xs = ys)))) := ⟨fun xs ys hl => by
  refine FnC.of_body tabOk Try.func69 Try.ntmps69 rfl (by decide +kernel) (by simp) fun G => ?_
  refine go (r := ?_); and_intros <;> intros <;> try exact True.intro
  · simp; intro h; subst h; simp_all
  · refine WpA.loop (fun k : Nat => ⟨[(0, MbL xs), (1, MbL ys), (5, I k)], []⟩) (fun k => k ≤ xs.length ∧ ∀ j < k, xs.getD j default = ys.getD j default) (fun k => xs.length - k) 0 (by simp) (go (r := trivial)) (fun k hk => ?_)
    have hg := fun h => smM_get hl.2.2.1 (k := k) h
    have hg2 := fun h => smM_get hl.2.2.2 (k := k) h
    refine go (r := ?_); and_intros <;> intros <;> try exact True.intro
    all_goals first | exact (hg (by omega)).1 | exact (hg (by omega)).2 | exact (hg2 (by omega)).1 | exact (hg2 (by omega)).2 | skip
    · simp; rintro rfl; simp_all
    · rename_i j hj; by_cases h : j = k
      · subst h; apply Prod.ext <;> simp_all
      · exact hk.2 j (by omega)
    · have := eq_all default (xs := xs) (ys := ys) (by omega) (fun j hj => hk.2 j (by omega))
      simp [this]⟩
def markM : Int → List Mbk → List Mbk
  | _, [] => []
  | k, m :: l => (decide (k % 3 = 0), markB (k + 1) m.2) :: markM (k + 1 + bw m.2) l
theorem mw_nil : mw [] = 0 := rfl
theorem mw_cons (b : Mbk) (l : List Mbk) : mw (b :: l) = mw l + 1 + bw b.2 := by unfold mw; rw [List.map_cons, List.sum_cons, List.length_cons]; unfold mn; omega
theorem mw_append (a b : List Mbk) : mw (a ++ b) = mw a + mw b := by unfold mw; rw [List.map_append, List.sum_append, List.length_append]; omega
theorem markM_append : ∀ (a b : List Mbk) (k : Int), markM k (a ++ b) = markM k a ++ markM (k + mw a) b
  | [], b, k => by simp [markM, mw_nil]
  | x :: a, b, k => by
    rw [List.cons_append, markM, markM, markM_append a b, mw_cons, List.cons_append]
    congr 3; omega
@[simp] theorem markM_len : ∀ (l : List Mbk) (k : Int), (markM k l).length = l.length
  | [], k => rfl
  | b :: l, k => by rw [markM, List.length_cons, List.length_cons, markM_len l]
theorem mw_take (l : List Mbk) (i : Nat) (h : i < l.length) : mw (l.take (i + 1)) = mw (l.take i) + 1 + bw (l.getD i default).2 := by
  rw [take_snoc l i h, mw_append, mw_cons, mw_nil]; omega
theorem mw_take_le (l : List Mbk) (i : Nat) : mw (l.take i) ≤ mw l := by
  conv => rhs; rw [← List.take_append_drop i l, mw_append]
  exact Nat.le_add_right _ _
theorem markM_take (l : List Mbk) (i : Nat) (h : i < l.length) (k : Int) : markM k (l.take (i + 1)) = markM k (l.take i) ++ [(decide ((k + mw (l.take i)) % 3 = 0), markB (k + mw (l.take i) + 1) (l.getD i default).2)] := by
  rw [take_snoc l i h, markM_append]; rfl
instance markMbS_c : ConG 74 (∀ (l : List Mbk) (k : Int), mw l ≤ 1048576 ∧ 0 ≤ k ∧ k ≤ 536870912 → Gn 74 [.own 0 0 0 l.length, I k] [MbN l] [MbN (markM k l)] [] (I (k + mw l))) := ⟨fun l k hk => by
  refine FnG.of_bodyF tabOk Try.func74 Try.ntmps74 rfl (by decide +kernel) (by simp) rfl rfl fun G => ?_
  have hmw : mw l = l.length + (l.map mn).sum := rfl
  refine go (r := ?_); and_intros <;> intros <;> try exact True.intro
  refine WpA.loop (fun i : Nat => ⟨[(0, .own 0 0 0 l.length), (1, I (k + mw (l.take i))), (5, I i)], [MbN (markM k (l.take i) ++ l.drop i)]⟩) (fun i => i ≤ l.length) (fun i => l.length - i) 0 (by simp) (go (r := ?_)) (fun i hi => ?_)
  · simp [markM, mw_nil]
  have hml := markM_len (l.take i) k
  have hlt : i ≤ l.length → (l.take i).length = i := fun h => by simp; omega
  have hle := mw_take_le l i
  have hle1 := mw_take_le l (i + 1)
  have hlen : i ≤ l.length → (markM k (l.take i) ++ l.drop i).length = l.length := fun h => by rw [List.length_append, hml]; simp; omega
  have hget : i < l.length → ∀ v, ((markM k (l.take i) ++ l.drop i).set i v).getD i default = v := fun h v => by simp [hlen (by omega), h]
  have hmid := fun h => getD_mid (markM k (l.take i)) l i (by rw [hml, hlt (by omega)]) h
  have hbt := fun h => mw_take l i h
  refine go (r := ?_); and_intros <;> intros <;> try exact True.intro
  · rw [hget (by omega)]; simp only; rw [hmid (by omega)]; have := hbt (by omega); generalize l.getD i default = x at *; obtain ⟨m0, lv⟩ := x; simp only at *; omega
  · rw [hget (by omega)]; simp only; rw [hmid (by omega), hbt (by omega)]; generalize l.getD i default = x; obtain ⟨m0, lv⟩ := x; simp only; omega
  · rw [List.set_set, hget (by omega)]; simp only; rw [hmid (by omega), set_mid _ _ _ (by rw [hml, hlt (by omega)]) (by omega), markM_take _ _ (by omega)]
  all_goals have e : i = l.length := by omega
  all_goals subst e; simp⟩

/-! Streams. -/
instance szStream_c : Con 22 (∀ (w h q : Int) (b d : Bool) (l : List Int) (M : List Mbk) (left : Int), l.length ≤ 9223372036854775807 ∧ M.length ≤ 9223372036854775807 ∧ SmM 9223372036854775807 M ∧ 0 ≤ left ∧ left ≤ 1048576 →
    Fn 22 [StA w h q b d l M, I left] [] (I (max (-1) (left - l.length - mw M)))) := ⟨fun w h q b d l M left hl => by
  refine FnC.of_body tabOk Try.func22 Try.ntmps22 rfl (by decide +kernel) (by simp) fun G => ?_
  refine go (r := ?_); and_intros <;> intros <;> try (first | exact True.intro | (simp_all; done))⟩
instance toStream_c : Con 24 (∀ (w h q : Int) (b d : Bool) (l : List Int) (M : List Mbk), l.length ≤ 1099511627776 ∧ M.length ≤ 1099511627776 ∧ SmM 1099511627776 M →
    Fn 24 [StA w h q b d l M] [⟨ints l, 0, 1, some 3⟩, MbO M] (.agg [I w, I h, I q, B b, B d, .own 0 0 0 l.length, .own 1 0 0 M.length])) := ⟨fun w h q b d l M hl => by
  refine FnC.of_body tabOk Try.func24 Try.ntmps24 rfl (by decide +kernel) (by simp) fun G => ?_
  refine go (r := ?_); and_intros <;> intros <;> try (first | exact True.intro | (simp_all; done))⟩
instance eqStream_c : Con 26 (∀ (w h q : Int) (b d : Bool) (l : List Int) (M : List Mbk) (w2 h2 q2 : Int) (b2 d2 : Bool) (l2 : List Int) (M2 : List Mbk), l.length ≤ 1099511627776 ∧ l2.length ≤ 1099511627776 ∧ M.length ≤ 1099511627776 ∧ M2.length ≤ 1099511627776 ∧ SmM 1099511627776 M ∧ SmM 1099511627776 M2 →
    Fn 26 [StA w h q b d l M, StA w2 h2 q2 b2 d2 l2 M2] [] (B (decide ((w = w2 ∧ h = h2 ∧ q = q2 ∧ b = b2 ∧ d = d2 ∧ l = l2) ∧ M = M2)))) := ⟨fun w h q b d l M w2 h2 q2 b2 d2 l2 M2 hl => by
  refine FnC.of_body tabOk Try.func26 Try.ntmps26 rfl (by decide +kernel) (by simp) fun G => ?_
  refine go (r := ?_); and_intros <;> intros <;> try (first | exact True.intro | (simp_all; done))⟩
instance markStream_c : ConG 32 (∀ (w h q : Int) (b d : Bool) (l : List Int) (M : List Mbk) (k : Int), l.length + mw M ≤ 1048576 ∧ 0 ≤ k ∧ k ≤ 1024 →
    Gn 32 [.agg [I w, I h, I q, B b, B d, .own 0 0 0 l.length, .own 1 0 0 M.length], I k] [IN l, MbN M] [IN (marksI k l.length), MbN (markM (k + l.length) M)] [] (I (k + l.length + mw M))) := ⟨fun w h q b d l M k hk => by
  refine FnG.of_bodyF tabOk Try.func32 Try.ntmps32 rfl (by decide +kernel) (by simp) rfl rfl fun G => ?_
  refine go (r := ?_); and_intros <;> intros <;> try exact True.intro⟩
end Go.Proofs.Ytepfjefdbpmobaa
