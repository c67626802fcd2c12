/- Proved in this text: lemmas and contracts of functions that the claim uses (parts: DrS, Cat, Ue, Bits, AbsUn). No condition. -/
import Derived.Test.YtjhejgamjlokdaaGreatQuM13
import Derived.Test.YtjhejgamjlokdaaGreatQuM9
import Derived.Test.YtjhejgamjlokdaaGreatQuM5
import Derived.Test.YtjhejgamjlokdaaGreatQuM6
import Derived.Test.YtjhejgamjlokdaaGreatQuM10
import Derived.Test.YtjhejgamjlokdaaGreatQuM11
import Derived.Test.YtjhejgamjlokdaaGreatQuM7
set_option linter.unusedVariables false
set_option linter.unusedSimpArgs false
set_option maxRecDepth 100000
set_option maxHeartbeats 16000000


namespace Go.Proofs.YtjhejgamjlokdaaGreat
open Go Go.Abs
attribute [local irreducible] WpA WpL Rnd Blk Abs.Seq Abs.Fin Abs.FinG FnC FnG FnX FnP FinX Only
attribute [local irreducible] belowD onceD pickD modeD l8D l8AnyD optD anyD seedD squareD headD headAnyD
theorem tf {P : Prop} {b : Bool} (h : b = true) (h' : b = false) : P := by rw [h] at h'; cases h'
def zerK (x : List Int) (j : Nat) : List Int := x.take 3 ++ List.replicate (j - 3) 0 ++ x.drop j
theorem zer_len (x : List Int) (j : Nat) (h : 3 ≤ j) (h2 : j ≤ x.length ∨ j = 3) : (zerK x j).length = x.length := by
  simp [zerK]; omega
theorem zer_3 (x : List Int) : zerK x 3 = x := by simp [zerK]
theorem zer_step (x : List Int) (j : Nat) (h : 3 ≤ j) (h2 : j < x.length) : (zerK x j).set j 0 = zerK x (j + 1) := by
  have e : (x.take 3 ++ List.replicate (j - 3) (0 : Int)).length = j := by simp; omega
  unfold zerK
  rw [List.set_append_right _ _ (by rw [e]; exact Nat.le_refl _), e, Nat.sub_self, List.drop_eq_getElem_cons h2, List.set_cons_zero, show j + 1 - 3 = (j - 3) + 1 by omega, List.replicate_succ']
  simp
theorem zer_end (x : List Int) (j : Nat) (h : 3 ≤ j) (h1 : ¬ j < x.length) (h2 : j ≤ x.length ∨ j = 3) : zerK x j = tail3 x := by
  unfold zerK tail3
  rw [List.drop_eq_nil_of_le (by omega), List.append_nil]
  congr 2
  omega
theorem lvB_z {l : List Int} {s : Cr × List Int} (h : s.2.length = 0) : lvB l s = s := by unfold lvB; rw [if_pos h]
theorem lvB_1 {l : List Int} {s : Cr × List Int} (h : ¬ s.2.length = 0) (h6 : (onceD l s.1 6).2 = true) : lvB l s = ((pickD l (belowD l (onceD l s.1 6).1 s.2.length).1 big4).1, s.2.set (belowD l (onceD l s.1 6).1 s.2.length).2.toNat (pickD l (belowD l (onceD l s.1 6).1 s.2.length).1 big4).2) := by
  unfold lvB lvA; rw [if_neg h, if_pos h6]
theorem lvB_0 {l : List Int} {s : Cr × List Int} (h : ¬ s.2.length = 0) (h6 : ¬ (onceD l s.1 6).2 = true) : lvB l s = ((onceD l s.1 6).1, s.2) := by
  unfold lvB lvA; rw [if_neg h, if_neg h6]
theorem lev10_1 {l : List Int} {c : Cr} {y : Cr × List Int} (hy : lvB l (squareD l c 30) = y) (h : (onceD l y.1 4).2 = true) : lev10D l c = ((onceD l y.1 4).1, tail3 y.2) := by
  unfold lev10D; rw [hy, if_pos h]
theorem lev10_0 {l : List Int} {c : Cr} {y : Cr × List Int} (hy : lvB l (squareD l c 30) = y) (h : ¬ (onceD l y.1 4).2 = true) : lev10D l c = ((onceD l y.1 4).1, y.2) := by
  unfold lev10D; rw [hy, if_neg h]
theorem squareD_ok' {l : List Int} {c : Cr} (most : Int) (h : CrOk l c) : CrOk l (squareD l c most).1 ∧ (squareD l c most).2.length ≤ 64 := squareD_ok most h
instance l10Levels_p : ConP 110 (∀ (v : Value) (l : List Int) (c : Cr), CrOk l c → Pn 110 v l c [] (lev10D l c).1 [XI (lev10D l c).2] (.own 1 0 0 (lev10D l c).2.length)) := ⟨fun v l c h => by
  have hs := squareD_ok' 30 h
  have hs1 := hs.1
  have hs2 := hs.2
  have h6o := onceD_ok 6 hs1
  by_cases hz : (squareD l c 30).2.length = 0
  · by_cases h4 : (onceD l (squareD l c 30).1 4).2 = true
    · rw [lev10_1 (lvB_z hz) h4, tail3_len]
      refine FnP.of_body tabOk Tryz.func110 Tryz.ntmps110 rfl (by decide +kernel) (by simp) rfl rfl rfl fun G hp => ?_
      refine go (r := ?_); and_intros <;> intros <;> try exact True.intro
      all_goals first | exact tf h4 (by assumption) | exact h | exact h.2.1 | exact h.2.2 | exact hs1.2.1 | exact hs1.2.2 | exact h6o.2.1 | exact h6o.2.2 | decide | omega | skip
      refine WpA.loop (fun j : Nat => ⟨[(3, .own 1 0 0 (((squareD l c 30).2).length)), (4, I j)], [CurO v (onceD l (squareD l c 30).1 4).1, XI (zerK (squareD l c 30).2 j)]⟩) (fun j => 3 ≤ j ∧ (j ≤ ((squareD l c 30).2).length ∨ j = 3)) (fun j => ((squareD l c 30).2).length - j) 3 ⟨Nat.le_refl 3, .inr rfl⟩ (go (r := ?_)) (fun j hj => ?_)
      · and_intros <;> first | exact True.intro | rfl | exact (zer_3 _).symm | exact zer_3 _ | trace_state
      have hln := zer_len ((squareD l c 30).2) j hj.1 hj.2
      have hls : ((squareD l c 30).2).length = ((squareD l c 30).2).length := by first | rfl | exact List.length_set ..
      have hzs := fun h => zer_step ((squareD l c 30).2) j hj.1 h
      have hze := fun h => zer_end ((squareD l c 30).2) j hj.1 h hj.2
      refine go (r := ?_); and_intros <;> intros <;> try exact True.intro
      all_goals first | exact hzs (by omega) | exact hze (by omega) | trace_state
    · rw [lev10_0 (lvB_z hz) h4]
      refine FnP.of_body tabOk Tryz.func110 Tryz.ntmps110 rfl (by decide +kernel) (by simp) rfl rfl rfl fun G hp => ?_
      refine go (r := ?_); and_intros <;> intros <;> try exact True.intro
      all_goals first | exact (h4 (by assumption)).elim | exact h | exact h.2.1 | exact h.2.2 | exact hs1.2.1 | exact hs1.2.2 | exact h6o.2.1 | exact h6o.2.2 | decide | trace_state
  · by_cases h6 : (onceD l (squareD l c 30).1 6).2 = true
    · have hb := belowD_ok (squareD l c 30).2.length h6o
      have hb0 := hb.2.1
      have hb1 := hb.2.2.1 (by omega)
      have hp := pickD_ok (xs := [16383, -16383, 16384, 5000]) hb.1 (by decide)
      have hp1 := hp.1.2.1
      have hp2 := hp.1.2.2
      by_cases h4 : (onceD l (pickD l (belowD l (onceD l (squareD l c 30).1 6).1 (squareD l c 30).2.length).1 big4).1 4).2 = true
      · rw [lev10_1 (lvB_1 hz h6) h4, tail3_len, List.length_set]
        refine FnP.of_body tabOk Tryz.func110 Tryz.ntmps110 rfl (by decide +kernel) (by simp) rfl rfl rfl fun G hp => ?_
        refine go (r := ?_); and_intros <;> intros <;> try exact True.intro
        all_goals first | exact tf h6 (by assumption) | exact tf h4 (by assumption) | exact h | exact h.2.1 | exact h.2.2 | exact hs1.2.1 | exact hs1.2.2 | exact h6o.2.1 | exact h6o.2.2 | exact hb.1.2.1 | exact hb.1.2.2 | exact hp.1.2.1 | exact hp.1.2.2 | decide | omega | skip
        refine WpA.loop (fun j : Nat => ⟨[(3, .own 1 0 0 ((squareD l c 30).2.length)), (4, I j)], [CurO v (onceD l (pickD l (belowD l (onceD l (squareD l c 30).1 6).1 (squareD l c 30).2.length).1 big4).1 4).1, XI (zerK ((squareD l c 30).2.set (belowD l (onceD l (squareD l c 30).1 6).1 (squareD l c 30).2.length).2.toNat (pickD l (belowD l (onceD l (squareD l c 30).1 6).1 (squareD l c 30).2.length).1 big4).2) j), XI big4]⟩) (fun j => 3 ≤ j ∧ (j ≤ (((squareD l c 30).2.set (belowD l (onceD l (squareD l c 30).1 6).1 (squareD l c 30).2.length).2.toNat (pickD l (belowD l (onceD l (squareD l c 30).1 6).1 (squareD l c 30).2.length).1 big4).2)).length ∨ j = 3)) (fun j => (((squareD l c 30).2.set (belowD l (onceD l (squareD l c 30).1 6).1 (squareD l c 30).2.length).2.toNat (pickD l (belowD l (onceD l (squareD l c 30).1 6).1 (squareD l c 30).2.length).1 big4).2)).length - j) 3 ⟨Nat.le_refl 3, .inr rfl⟩ (go (r := ?_)) (fun j hj => ?_)
        · and_intros <;> first | exact True.intro | rfl | exact (zer_3 _).symm | exact zer_3 _ | trace_state
        have hln := zer_len (((squareD l c 30).2.set (belowD l (onceD l (squareD l c 30).1 6).1 (squareD l c 30).2.length).2.toNat (pickD l (belowD l (onceD l (squareD l c 30).1 6).1 (squareD l c 30).2.length).1 big4).2)) j hj.1 hj.2
        have hls : (((squareD l c 30).2.set (belowD l (onceD l (squareD l c 30).1 6).1 (squareD l c 30).2.length).2.toNat (pickD l (belowD l (onceD l (squareD l c 30).1 6).1 (squareD l c 30).2.length).1 big4).2)).length = (squareD l c 30).2.length := by first | rfl | exact List.length_set ..
        have hzs := fun h => zer_step (((squareD l c 30).2.set (belowD l (onceD l (squareD l c 30).1 6).1 (squareD l c 30).2.length).2.toNat (pickD l (belowD l (onceD l (squareD l c 30).1 6).1 (squareD l c 30).2.length).1 big4).2)) j hj.1 h
        have hze := fun h => zer_end (((squareD l c 30).2.set (belowD l (onceD l (squareD l c 30).1 6).1 (squareD l c 30).2.length).2.toNat (pickD l (belowD l (onceD l (squareD l c 30).1 6).1 (squareD l c 30).2.length).1 big4).2)) j hj.1 h hj.2
        refine go (r := ?_); and_intros <;> intros <;> try exact True.intro
        all_goals first | exact hzs (by omega) | exact hze (by omega) | trace_state
      · rw [lev10_0 (lvB_1 hz h6) h4, List.length_set]
        refine FnP.of_body tabOk Tryz.func110 Tryz.ntmps110 rfl (by decide +kernel) (by simp) rfl rfl rfl fun G hp => ?_
        refine go (r := ?_); and_intros <;> intros <;> try exact True.intro
        all_goals first | exact tf h6 (by assumption) | exact (h4 (by assumption)).elim | exact h | exact h.2.1 | exact h.2.2 | exact hs1.2.1 | exact hs1.2.2 | exact h6o.2.1 | exact h6o.2.2 | exact hb.1.2.1 | exact hb.1.2.2 | exact hp.1.2.1 | exact hp.1.2.2 | decide | trace_state
    · by_cases h4 : (onceD l (onceD l (squareD l c 30).1 6).1 4).2 = true
      · rw [lev10_1 (lvB_0 hz h6) h4, tail3_len]
        refine FnP.of_body tabOk Tryz.func110 Tryz.ntmps110 rfl (by decide +kernel) (by simp) rfl rfl rfl fun G hp => ?_
        refine go (r := ?_); and_intros <;> intros <;> try exact True.intro
        all_goals first | exact (h6 (by assumption)).elim | exact tf h4 (by assumption) | exact h | exact h.2.1 | exact h.2.2 | exact hs1.2.1 | exact hs1.2.2 | exact h6o.2.1 | exact h6o.2.2 | decide | omega | skip
        refine WpA.loop (fun j : Nat => ⟨[(3, .own 1 0 0 (((squareD l c 30).2).length)), (4, I j)], [CurO v (onceD l (onceD l (squareD l c 30).1 6).1 4).1, XI (zerK (squareD l c 30).2 j)]⟩) (fun j => 3 ≤ j ∧ (j ≤ ((squareD l c 30).2).length ∨ j = 3)) (fun j => ((squareD l c 30).2).length - j) 3 ⟨Nat.le_refl 3, .inr rfl⟩ (go (r := ?_)) (fun j hj => ?_)
        · and_intros <;> first | exact True.intro | rfl | exact (zer_3 _).symm | exact zer_3 _ | trace_state
        have hln := zer_len ((squareD l c 30).2) j hj.1 hj.2
        have hls : ((squareD l c 30).2).length = ((squareD l c 30).2).length := by first | rfl | exact List.length_set ..
        have hzs := fun h => zer_step ((squareD l c 30).2) j hj.1 h
        have hze := fun h => zer_end ((squareD l c 30).2) j hj.1 h hj.2
        refine go (r := ?_); and_intros <;> intros <;> try exact True.intro
        all_goals first | exact hzs (by omega) | exact hze (by omega) | trace_state
      · rw [lev10_0 (lvB_0 hz h6) h4]
        refine FnP.of_body tabOk Tryz.func110 Tryz.ntmps110 rfl (by decide +kernel) (by simp) rfl rfl rfl fun G hp => ?_
        refine go (r := ?_); and_intros <;> intros <;> try exact True.intro
        all_goals first | exact (h6 (by assumption)).elim | exact (h4 (by assumption)).elim | exact h | exact h.2.1 | exact h.2.2 | exact hs1.2.1 | exact hs1.2.2 | exact h6o.2.1 | exact h6o.2.2 | decide | trace_state
  ⟩
section
attribute [local irreducible] lev10D
theorem lim_map (r : List Int) : (List.range r.length).map (fun i => lim3 (r.getD i 0)) = r.map lim3 := by
  apply List.ext_getElem (by simp)
  intro i h1 h2
  simp at h1
  simp [h1]
theorem lev25_1 {l : List Int} {c : Cr} (h : (onceD l (lev10D l c).1 2).2 = true) : lev25D l c = ((onceD l (lev10D l c).1 2).1, (lev10D l c).2.map lim3) := by unfold lev25D; rw [if_pos h]
theorem lev25_0 {l : List Int} {c : Cr} (h : ¬ (onceD l (lev10D l c).1 2).2 = true) : lev25D l c = ((onceD l (lev10D l c).1 2).1, (lev10D l c).2) := by unfold lev25D; rw [if_neg h]
instance l25Levels_p : ConP 81 (∀ (v : Value) (l : List Int) (c : Cr), CrOk l c → Pn 81 v l c [] (lev25D l c).1 [XI (lev25D l c).2] (.own 1 0 0 (lev25D l c).2.length)) := ⟨fun v l c h => by
  have hs := lev10D_ok h
  have hs1 := hs.1
  have hs2 := hs.2
  by_cases h2 : (onceD l (lev10D l c).1 2).2 = true
  · rw [lev25_1 h2, List.length_map]
    refine FnP.of_body tabOk Tryz.func81 Tryz.ntmps81 rfl (by decide +kernel) (by simp) rfl rfl rfl fun G hp => ?_
    refine go (r := ?_); and_intros <;> intros <;> try exact True.intro
    all_goals first | exact tf h2 (by assumption) | exact h | exact h.2.1 | exact h.2.2 | exact hs1.2.1 | exact hs1.2.2 | decide | omega | skip
    refine WpA.loop (fun k : Nat => ⟨[(3, .own 1 0 0 (lev10D l c).2.length), (4, I k)], [CurO v (onceD l (lev10D l c).1 2).1, XI ((List.range k).map (fun i => lim3 ((lev10D l c).2.getD i 0)) ++ (lev10D l c).2.drop k)]⟩) (fun k => k ≤ (lev10D l c).2.length) (fun k => (lev10D l c).2.length - k) 0 (by omega) (go (r := ?_)) (fun k hk => ?_)
    · simp
    have hkl : ((List.range k).map (fun i => lim3 ((lev10D l c).2.getD i 0)) ++ (lev10D l c).2.drop k).length = (lev10D l c).2.length := by simp; omega
    have hms := mark_step (fun i => lim3 ((lev10D l c).2.getD i 0)) (lev10D l c).2 k
    have hgd : k < (lev10D l c).2.length → ((List.range k).map (fun i => lim3 ((lev10D l c).2.getD i 0)) ++ (lev10D l c).2.drop k).getD k 0 = (lev10D l c).2.getD k 0 := fun _ => by
      rw [List.getD_eq_getElem?_getD, List.getElem?_append_right (by simp), List.getElem?_drop]; simp
    refine go (r := ?_); and_intros <;> intros <;> try exact True.intro
    · rename_i hk1
      rw [Int.toNat_natCast, hgd (by omega)]; exact hms (by omega)
    · have ek : k = (lev10D l c).2.length := by omega
      rw [ek, lim_map, List.drop_length, List.append_nil]
  · rw [lev25_0 h2]
    refine FnP.of_body tabOk Tryz.func81 Tryz.ntmps81 rfl (by decide +kernel) (by simp) rfl rfl rfl fun G hp => ?_
    refine go (r := ?_); and_intros <;> intros <;> try exact True.intro
    all_goals first | exact (h2 (by assumption)).elim | exact h | exact h.2.1 | exact h.2.2 | exact hs1.2.1 | exact hs1.2.2 | decide | trace_state⟩
end
section
attribute [local irreducible] lev25D
end
end Go.Proofs.YtjhejgamjlokdaaGreat


namespace Go.Proofs.YtjhejgamjlokdaaGreat
open Go Go.Abs
attribute [local irreducible] WpA WpL Rnd Blk Abs.Seq Abs.Fin Abs.FinG FnC FnG Only
end Go.Proofs.YtjhejgamjlokdaaGreat


namespace Go.Proofs.YtjhejgamjlokdaaGreat
open Go Go.Abs
attribute [local irreducible] WpA WpL Rnd Blk Abs.Seq Abs.Fin Abs.FinG FnC FnG Only
end Go.Proofs.YtjhejgamjlokdaaGreat


namespace Go.Proofs.YtjhejgamjlokdaaGreat
open Go Go.Abs
attribute [local irreducible] WpA WpL Rnd Blk Abs.Seq Abs.Fin Abs.FinG FnC FnG Only
theorem symL_len7 (l : List Int) (m : Int) : (symL l m).length ≤ 48 := by
  unfold symL; split
  · exact bitsL_len _ _
  · simp
end Go.Proofs.YtjhejgamjlokdaaGreat


namespace Go.Abs
open Go
section
variable {P : Program} {n m : Nat} {G : Ctx} {md : Bool} {σ : St} {Q : Exit → St → Prop} {T : List (Nat × AV)} {O : List AObj}
theorem WpL.guardV {v0 : Value} {ops : Array Oper} {o : Oper} {l : List Oper} {j t d : Nat} {want : Bool} (hg : o.guard = some (j, want)) (hj : ((ops[j]?).bind (·.dst)) = some t) (htn : t < n)
    (ht : look σ.T t = .sc v0) (hne : v0 ≠ .bool want) (hd : o.dst = some d) (h : WpL P n m G md ops l ⟨(d, .any) :: σ.T, σ.O⟩ Q) : WpL P n m G md ops (o :: l) σ Q := fun a w hr => by
  have hv : a.tmps.getD t undef = v0 := hr.eval_sc (x := .tmp t) ht
  have hsz : a.tmps.size = n := by obtain ⟨_, _, _, h⟩ := hr; exact h.size
  have hv' : a.tmps[t]? = some v0 := by
    rw [Array.getD_eq_getD_getElem?] at hv
    rw [Array.getElem?_eq_getElem (by omega)] at hv ⊢
    simpa using hv
  have hw : Region.wanted o (yielded ops a.tmps) = false := by
    simp only [Region.wanted, hg, yielded, hj, Option.bind_some, hv']
    cases v0 <;> first | rfl | skip
    rename_i b
    cases b <;> cases want <;> first | rfl | exact absurd rfl hne
  have hrel : Rel n m G ⟨(d, .any) :: σ.T, σ.O⟩ (a.put o.dst undef) w := ?_
  · cases md with
    | false =>
      simp only
      unfold wpList
      rw [if_neg (by simp [hw])]
      exact h _ _ hrel
    | true =>
      simp only
      unfold wpStill
      rw [if_neg (by simp [hw])]
      exact h _ _ hrel
  obtain ⟨S, ι, F, hr⟩ := hr
  refine ⟨S, ι, F, by simpa [Act.put, hd] using hr.defers, by simp [Act.put, hd, hr.size], fun t' => ?_, hr.objs, hr.foot, hr.base, hr.stable, hr.keeps, hr.spots, hr.mle⟩
  by_cases he : d = t'
  · subst he; rw [look_cons_same]; exact .any .nil
  · rw [look_cons_other _ _ _ _ he]
    have := hr.tmps t'
    simpa [Act.put, hd, Array.getD_eq_getD_getElem?, Array.getElem?_setIfInBounds, he] using this
theorem WpL.openAny {ops : Array Oper} {l : List Oper} {t : Nat} (hx : look T t = .any) (h : ∀ v0, WpL P n m G md ops l ⟨(t, .sc v0) :: T, O⟩ Q) : WpL P n m G md ops l ⟨T, O⟩ Q := fun a w hr => by
  refine h (a.tmps.getD t undef) a w ?_
  obtain ⟨S, ι, F, hr⟩ := hr
  refine ⟨S, ι, F, hr.defers, hr.size, fun u => ?_, hr.objs, hr.foot, hr.base, hr.stable, hr.keeps, hr.spots, hr.mle⟩
  show VRel S w ι O (look ((t, .sc _) :: T) u) _ []
  by_cases he : t = u
  · subst he; rw [look_cons_same]; exact .sc .nil
  · rw [look_cons_other _ _ _ _ he]; exact hr.tmps u
end
end Go.Abs
