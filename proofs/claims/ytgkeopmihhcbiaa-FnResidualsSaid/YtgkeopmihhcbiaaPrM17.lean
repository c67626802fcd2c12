/- Proved in this text: lemmas and contracts of functions that the claim uses (parts: ScrB, AbsUn, ResX, Bridge, Read, Read2, Read3). No condition. -/
import Derived.Test.YtgkeopmihhcbiaaPrM13
import Derived.Test.YtgkeopmihhcbiaaPrM9
import Derived.Test.YtgkeopmihhcbiaaPrM16
import Derived.Test.YtgkeopmihhcbiaaPrM3
import Derived.Below
import Derived.ChangeArms
import Derived.Test.YtgkeopmihhcbiaaPrM4
import Derived.Test.YtgkeopmihhcbiaaPrM12

/- Contract: codes that are too long. No condition. -/
namespace Go.Proofs.Ytgkeopmihhcbiaa
open Go Go.Abs
set_option linter.unusedVariables false
set_option linter.unusedSimpArgs false
set_option maxRecDepth 100000
set_option maxHeartbeats 4000000
attribute [local irreducible] WpA WpL Rnd Blk Abs.Seq Abs.Fin Abs.FinG FnC FnG FnX FnP FinX Only

instance big_c : Con 21 (∀ l : List Int, l.length ≤ 9223372036854775807 → Fn 21 [CodA l] [] (B (decide ((l.length : Int) > 1048576)))) := ⟨fun l hl => by
  refine FnC.of_body tabOk Try.func21 Try.ntmps21 rfl (by decide +kernel) (by simp) fun G => ?_
  refine go (r := ?_); and_intros <;> intros <;> try exact True.intro⟩
end Go.Proofs.Ytgkeopmihhcbiaa

/- Guards over slots of which nothing is known. No condition. -/
namespace Go.Abs
open Go
set_option linter.unusedVariables false
set_option linter.unusedSimpArgs false

section
variable {P : Program} {n m : Nat} {G : Ctx} {md : Bool} {σ : St} {Q : Exit → St → Prop} {T : List (Nat × AV)} {O : List AObj}
theorem WpL.guardV {v0 : Value} {ops : Array Oper} {o : Oper} {l : List Oper} {j t d : Nat} {want : Bool} (hg : o.guard = some (j, want)) (hj : ((ops[j]?).bind (·.dst)) = some t) (htn : t < n)
    (ht : look σ.T t = .sc v0) (hne : v0 ≠ .bool want) (hd : o.dst = some d) (h : WpL P n m G md ops l ⟨(d, .any) :: σ.T, σ.O⟩ Q) : WpL P n m G md ops (o :: l) σ Q := fun a w hr => by
  have hv : a.tmps.getD t undef = v0 := hr.eval_sc (x := .tmp t) ht
  have hsz : a.tmps.size = n := by obtain ⟨_, _, _, h⟩ := hr; exact h.size
  have hv' : a.tmps[t]? = some v0 := by
    rw [Array.getD_eq_getD_getElem?] at hv
    rw [Array.getElem?_eq_getElem (by omega)] at hv ⊢
    simpa using hv
  have hw : Region.wanted o (yielded ops a.tmps) = false := by
    simp only [Region.wanted, hg, yielded, hj, Option.bind_some, hv']
    cases v0 <;> first | rfl | skip
    rename_i b
    cases b <;> cases want <;> first | rfl | exact absurd rfl hne
  have hrel : Rel n m G ⟨(d, .any) :: σ.T, σ.O⟩ (a.put o.dst undef) w := ?_
  · cases md with
    | false =>
      simp only
      unfold wpList
      rw [if_neg (by simp [hw])]
      exact h _ _ hrel
    | true =>
      simp only
      unfold wpStill
      rw [if_neg (by simp [hw])]
      exact h _ _ hrel
  obtain ⟨S, ι, F, hr⟩ := hr
  refine ⟨S, ι, F, by simpa [Act.put, hd] using hr.defers, by simp [Act.put, hd, hr.size], fun t' => ?_, hr.objs, hr.foot, hr.base, hr.stable, hr.keeps, hr.spots, hr.mle⟩
  by_cases he : d = t'
  · subst he; rw [look_cons_same]; exact .any .nil
  · rw [look_cons_other _ _ _ _ he]
    have := hr.tmps t'
    simpa [Act.put, hd, Array.getD_eq_getD_getElem?, Array.getElem?_setIfInBounds, he] using this

/-- A boolean that is not known: both ways. -/
theorem WpL.openAny {ops : Array Oper} {l : List Oper} {t : Nat} (hx : look T t = .any) (h : ∀ v0, WpL P n m G md ops l ⟨(t, .sc v0) :: T, O⟩ Q) : WpL P n m G md ops l ⟨T, O⟩ Q := fun a w hr => by
  refine h (a.tmps.getD t undef) a w ?_
  obtain ⟨S, ι, F, hr⟩ := hr
  refine ⟨S, ι, F, hr.defers, hr.size, fun u => ?_, hr.objs, hr.foot, hr.base, hr.stable, hr.keeps, hr.spots, hr.mle⟩
  show VRel S w ι O (look ((t, .sc _) :: T) u) _ []
  by_cases he : t = u
  · subst he; rw [look_cons_same]; exact .sc .nil
  · rw [look_cons_other _ _ _ _ he]; exact hr.tmps u
end
end Go.Abs

/- The laws FnResiduals and FnLevels; levels drawn. No condition. -/
namespace Go.Proofs.Ytgkeopmihhcbiaa
open Go Go.Abs
set_option linter.unusedVariables false
set_option linter.unusedSimpArgs false
set_option maxRecDepth 100000
set_option maxHeartbeats 4000000
attribute [local irreducible] WpA WpL Rnd Blk Abs.Seq Abs.Fin Abs.FinG FnC FnG FnX FnP FinX Only
attribute [local irreducible] belowD onceD pickD modeD l8D l8AnyD optD anyD seedD squareD headD headAnyD lev10D lev25D

theorem rsS_eq {l : List Int} {s : Cr × List Int} : rsS l s = ((pickD l (belowD l s.1 511).1 [0, 1, -1, (belowD l s.1 511).2 - 255]).1, s.2 ++ [(pickD l (belowD l s.1 511).1 [0, 1, -1, (belowD l s.1 511).2 - 255]).2]) := rfl
theorem DrawLevelsFor_p (v : Value) (l : List Int) (hl : l.length ≤ 1048576) : FnP Try.prog 41 [.sc v] [] [v] [CodA l] [] [XI (lvlD l).1.lens, XI (lvlD l).1.ms, ⟨bools (lvlD l).1.es, 0, 1, some 4⟩, XI (lvlD l).2] (.tup [.agg [I (lvlD l).1.q, B (lvlD l).1.b, B (lvlD l).1.d, .own 0 0 0 (lvlD l).1.lens.length, .own 1 0 0 (lvlD l).1.ms.length, .own 2 0 0 (lvlD l).1.es.length], .own 3 0 0 (lvlD l).2.length]) := by
  have hn := newD_ok hl
  have ha := anyD_ok hn
  have hp4 := pickD_ok (xs := [16, 16, 64, 15]) ha.1 (by decide)
  have hm := hp4.2
  simp only [List.mem_cons, List.not_mem_nil, or_false] at hm
  unfold lvlD
  generalize hS : rsK l _ _ = S
  refine FnP.of_body tabOk Try.func41 Try.ntmps41 rfl (by decide +kernel) (by simp) rfl rfl rfl fun G hp => ?_
  refine goR (r := ?_); and_intros <;> intros <;> try exact True.intro
  refine K.call ?_
  refine WpL.callN (l1New_p v l hl) hp handA (.cons rfl (.sc (.sc (.sc .nil))) .nil) rfl rfl (by decide) ?_
  refine go (r := ?_); and_intros <;> intros <;> try exact True.intro
  all_goals first | exact hl | exact hn.2.1 | exact hn.2.2 | exact ha.1.2.1 | exact ha.1.2.2 | exact hp4.1.2.1 | exact hp4.1.2.2 | decide | omega | skip
  generalize pickD l (anyD l (newD l)).1 _ = N at *
  generalize (anyD l (newD l)).2 = o at *
  refine WpA.loop (fun x : Nat × Cr × List Int => ⟨[(2, .ptr 0 0 0), (4, .ptr 1 0 0), (5, .ptr 5 0 0), (6, .own 6 0 0 x.2.2.length), (7, I N.2)], [⟨[I 0, B false, B false, .nilS, .nilS, .nilS], 0, 0, none⟩, CurO v x.2.1, XI o.lens, XI o.ms, ⟨bools o.es, 0, 1, some 4⟩, ⟨[I o.q, B o.b, B o.d, .own 2 0 0 o.lens.length, .own 3 0 0 o.ms.length, .own 4 0 0 o.es.length], 0, 0, none⟩, XI x.2.2, XI [16, 16, 64, 15]]⟩) (fun x => CrOk l x.2.1 ∧ rsK l x.1 x.2 = S ∧ (x.2.2.length : Int) + x.1 = N.2) (fun x => x.1) (N.2.toNat, N.1, []) ?_ (go (r := ?_)) ?_
  · exact ⟨hp4.1, hS, by simp only [List.length_nil]; omega⟩
  · and_intros <;> first | exact True.intro | rfl | trace_state
  · rintro ⟨k, c1, xs⟩ ⟨hc1, hK, hlen⟩
    simp only at hc1 hK hlen ⊢
    by_cases hkz : k = 0
    · subst hkz
      have hSe : (c1, xs) = S := hK
      subst hSe
      refine go (r := ?_); and_intros <;> intros <;> try exact True.intro
      exact FinG.tI [some 2, some 3, some 4, some 6] rfl (ResV.cell (ds := [_, _, _, _, _, _]) rfl rfl rfl rfl rfl) (ResV.tmp rfl) (.tup (.agg (.keep rfl rfl rfl (.keep rfl rfl rfl (.keep rfl rfl rfl (.own rfl rfl rfl rfl (.own rfl rfl rfl rfl (.own rfl rfl rfl rfl .nil)))))) (.own rfl rfl rfl rfl .nil)) .nil) (.obj rfl rfl (still_ints _) rfl rfl (.inr rfl) (.obj rfl rfl (still_ints _) rfl rfl (.inr rfl) (.obj rfl rfl (still_bools _) rfl rfl (.inr rfl) (.obj rfl rfl (still_ints _) rfl rfl (.inr rfl) .nil)))) rfl rfl
    · have hE : rsK l (k - 1) (rsS l (c1, xs)) = S := by
        obtain ⟨j, rfl⟩ : ∃ j, k = j + 1 := ⟨k - 1, by omega⟩
        exact hK
      have hB := belowD_ok 511 hc1
      have hB0 := hB.2.1
      have hB1 := hB.2.2.1 (by decide)
      have hP := pickD_ok (xs := [0, 1, -1, (belowD l c1 511).2 - 255]) hB.1 (by simp)
      have hP1 := hP.1
      have hP2 := hP.1.2.1
      have hP3 := hP.1.2.2
      have hc2 := hc1.2.1
      have hc3 := hc1.2.2
      have hB2 := hB.1.2.1
      have hB3 := hB.1.2.2
      rw [rsS_eq] at hE
      simp only at hE
      refine go (r := ?_); and_intros <;> intros <;> try exact True.intro
      all_goals first | omega | assumption | (simp; done) | skip
      refine Rnd.go (k - 1, (pickD l (belowD l c1 511).1 [0, 1, -1, (belowD l c1 511).2 - 255]).1, xs ++ [(pickD l (belowD l c1 511).1 [0, 1, -1, (belowD l c1 511).2 - 255]).2]) ⟨hP1, hE, ?_⟩ ?_ ?_
      · simp only [List.length_append, List.length_singleton]; omega
      · show k - 1 < k; omega
      · simp only [List.length_append, List.length_singleton]
        exact Weak.mk (by repeat (first | exact ReT.nil | refine ReT.cons (.keep rfl rfl .nil) ?_ | refine ReT.cons (.own rfl rfl rfl rfl rfl rfl .nil) ?_ | refine ReT.cons (.ptr rfl rfl rfl rfl .nil) ?_ | refine ReT.cons (.keep (congrArg (fun z => AV.sc (Value.int .i64 z)) (by first | omega | (skip))) rfl .nil) ?_ | refine ReT.cons (.keep (congrArg (fun z : List UInt8 => AV.sc (Value.string ⟨z.toArray⟩)) (by skip)) rfl .nil) ?_ | refine ReT.cons (.own rfl rfl rfl rfl rfl (by first | omega | (simp; done) | (simp; omega)) .nil) ?_)) (by repeat (first
          | exact ReO.nil
          | refine ReO.cons (Re.same rfl rfl) (.inr rfl) ?_
          | refine ReO.cons (Re.same rfl (still_ints _)) (.inr rfl) ?_
          | refine ReO.cons (Re.same rfl (still_bools _)) (.inr rfl) ?_
          | refine ReO.cons (.keep rfl rfl (.keep rfl rfl (.keep rfl rfl (.own rfl rfl rfl rfl rfl rfl (.own rfl rfl rfl rfl rfl rfl (.own rfl rfl rfl rfl rfl rfl .nil)))))) (.inr rfl) ?_)) (Nat.le_of_ble_eq_true rfl)
instance DrawLevelsFor_c : Con 41 (∀ l : List Int, l.length ≤ 1048576 → Fn 41 [CodA l] [XI (lvlD l).1.lens, XI (lvlD l).1.ms, ⟨bools (lvlD l).1.es, 0, 1, some 4⟩, XI (lvlD l).2] (.tup [.agg [I (lvlD l).1.q, B (lvlD l).1.b, B (lvlD l).1.d, .own 0 0 0 (lvlD l).1.lens.length, .own 1 0 0 (lvlD l).1.ms.length, .own 2 0 0 (lvlD l).1.es.length], .own 3 0 0 (lvlD l).2.length])) := ⟨fun l hl => FnC.of_pin fun v => DrawLevelsFor_p v l hl⟩
instance DrawResidualOf_c : Con 35 (∀ l : List Int, l.length ≤ 1048576 → Fn 35 [CodA l] [XI (resD l).1.lens, XI (resD l).2] (.tup [HdOwn 0 (resD l).1, .own 1 0 0 (resD l).2.length])) := ⟨fun l hl => FnC.of_pin fun v => DrawResidualOf_p v l hl⟩
instance sameInts_c : Con 38 (∀ a b : List Int, a.length ≤ 1099511627776 ∧ b.length ≤ 1099511627776 → Fn 38 [IL a, IL b] [] (B (decide (a = b)))) := ⟨fun a b hl => by
  refine FnC.of_body tabOk Try.func38 Try.ntmps38 rfl (by decide +kernel) (by simp) fun G => ?_
  refine go (r := ?_); and_intros <;> intros <;> try exact True.intro
  · symm; rw [decide_eq_false_iff_not]; rintro rfl; omega
  · refine WpA.loop (fun k : Nat => ⟨[(0, IL a), (1, IL b), (5, I k)], []⟩) (fun k => k ≤ a.length ∧ ∀ j < k, a.getD j 0 = b.getD j 0) (fun k => a.length - k) 0 (by simp) (go (r := trivial)) (fun k hk => ?_)
    refine go (r := ?_); and_intros <;> intros <;> try exact True.intro
    · symm; rw [decide_eq_false_iff_not]; rintro rfl; simp_all
    · rename_i j hj; by_cases h : j = k
      · subst h; simp_all
      · exact hk.2 j (by omega)
    · have := eq_all 0 (xs := a) (ys := b) (by omega) (fun j hj => hk.2 j (by omega))
      simp [this]⟩
section
attribute [local irreducible] resD resL scnL plcL levL lvlD
set_option maxRecDepth 100000
theorem FnResiduals_c (l : List Int) (hl : l.length ≤ 9223372036854775807) : Fn 6 [CodA l] [] (B true) := by
  by_cases hb : (l.length : Int) > 1048576
  · refine FnC.of_body tabOk Try.func6 Try.ntmps6 rfl (by decide +kernel) (by simp) fun G => ?_
    refine go (r := ?_); and_intros <;> intros <;> try exact True.intro
  · have hl2 : l.length ≤ 1048576 := by omega
    have hd := resD_ok hl2
    have h1 := hd.1
    have h2 := hd.2
    have r1 := resL_le (resD l).1.b (resD l).1.q (resD l).2
    have r2 := resL_le true (resD l).1.q (resD l).2
    have s1 := scn_le (resL true (resD l).1.q (resD l).2)
    have key : (resL true (resD l).1.q (resD l).2).length ≠ 0 → scnL (resL true (resD l).1.q (resD l).2) = (resD l).2 := fun h => by
      by_cases hok : LvOk (resD l).2 ∧ 0 < stepL (resD l).1.q
      · rw [resL_b hok]; exact scn_plc hok.1.2
      · rw [resL_n hok] at h; exact absurd rfl h
    refine FnC.of_body tabOk Try.func6 Try.ntmps6 rfl (by decide +kernel) (by simp) fun G => ?_
    refine go (r := ?_); and_intros <;> intros <;> try exact True.intro
    all_goals first | contradiction | omega | (exact decide_eq_true (key (by omega))) | (exact (decide_eq_true (key (by omega))).symm) | trace_state
theorem FnLevels_c (l : List Int) (hl : l.length ≤ 9223372036854775807) : Fn 7 [CodA l] [] (B true) := by
  by_cases hb : (l.length : Int) > 1048576
  · refine FnC.of_body tabOk Try.func7 Try.ntmps7 rfl (by decide +kernel) (by simp) fun G => ?_
    refine go (r := ?_); and_intros <;> intros <;> try exact True.intro
  · have hl2 : l.length ≤ 1048576 := by omega
    obtain ⟨h1, h2, h3, h4⟩ := lvlD_ok hl2
    have r1 := levL_le (lvlD l).1.b (lvlD l).1.q (lvlD l).1.lens (lvlD l).2
    have r0 := levL_le (lvlD l).1.b 0 (lvlD l).1.lens (lvlD l).2
    have s1 := resL_le (lvlD l).1.b 0 (levL (lvlD l).1.b 0 (lvlD l).1.lens (lvlD l).2)
    by_cases hz : (levL (lvlD l).1.b (lvlD l).1.q (lvlD l).1.lens (lvlD l).2).length = 0
    · have hn := lev_none (b := (lvlD l).1.b) (q := (lvlD l).1.q) (l := (lvlD l).1.lens) h4 hz
      by_cases ho : OptOk (lvlD l).1.q (lvlD l).1.lens
      · have hn2 := hn.resolve_left (fun h => h ho)
        have hn3 := hn2.1
        have hn4 := hn2.2
        refine FnC.of_body tabOk Try.func7 Try.ntmps7 rfl (by decide +kernel) (by simp) fun G => ?_
        refine go (r := ?_); and_intros <;> intros <;> try exact True.intro
        all_goals first | contradiction | omega | trace_state
      · refine FnC.of_body tabOk Try.func7 Try.ntmps7 rfl (by decide +kernel) (by simp) fun G => ?_
        refine go (r := ?_); and_intros <;> intros <;> try exact True.intro
        all_goals first | contradiction | omega | skip
        refine WpL.openAny (t := 33) rfl (fun v0 => ?_)
        by_cases hv : v0 = .bool true
        · subst hv
          refine go (r := ?_); and_intros <;> intros <;> try exact True.intro
          all_goals first | contradiction | omega | trace_state
        · refine WpL.guardV (σ := ⟨_, _⟩) rfl rfl (by decide) rfl hv rfl ?_
          refine WpL.guardV (σ := ⟨_, _⟩) rfl rfl (by decide) rfl hv rfl ?_
          refine WpL.guardV (σ := ⟨_, _⟩) rfl rfl (by decide) rfl hv rfl ?_
          refine go (r := ?_); and_intros <;> intros <;> try exact True.intro
          all_goals first | contradiction | omega | trace_state
    · have ho : OptOk (lvlD l).1.q (lvlD l).1.lens ∧ ((lvlD l).2.length = 16 ∨ (lvlD l).2.length = 64) := by
        by_cases ho : OptOk (lvlD l).1.q (lvlD l).1.lens ∧ 0 < side (lvlD l).2.length ∧ FitM (lvlD l).2
        · exact ⟨ho.1, (side_pos _).1 ho.2.1⟩
        · exact absurd (by unfold levL; rw [if_neg ho]; rfl) hz
      have hlv := lev_ok (b := (lvlD l).1.b) ho.1 ho.2 h4
      have hbk := lev_back (b := (lvlD l).1.b) (l := (lvlD l).1.lens) ⟨by omega, ho.1.2⟩ ho.2 h4
      have hd1 : decide (LvOk (levL (lvlD l).1.b (lvlD l).1.q (lvlD l).1.lens (lvlD l).2)) = true := decide_eq_true hlv
      have hd2 : decide (resL (lvlD l).1.b 0 (levL (lvlD l).1.b 0 (lvlD l).1.lens (lvlD l).2) = (lvlD l).2) = true := decide_eq_true hbk
      refine FnC.of_body tabOk Try.func7 Try.ntmps7 rfl (by decide +kernel) (by simp) fun G => ?_
      refine goR (r := ?_); and_intros <;> intros <;> try exact True.intro
      all_goals first | contradiction | omega | skip
      apply WpA.regionSF (O := [XI (lvlD l).1.lens, XI (lvlD l).1.ms, ⟨bools (lvlD l).1.es, 0, 1, some 4⟩, XI (lvlD l).2, ⟨[I 0, B (lvlD l).1.b, B (lvlD l).1.d, .own 0 0 0 (lvlD l).1.lens.length, .own 1 0 0 (lvlD l).1.ms.length, .own 2 0 0 (lvlD l).1.es.length], 0, 0, none⟩, XI (levL (lvlD l).1.b (lvlD l).1.q (lvlD l).1.lens (lvlD l).2), XI (levL (lvlD l).1.b (lvlD l).1.q (lvlD l).1.lens (lvlD l).2), ⟨[I 0, I 0, I 0, B (lvlD l).1.b, B false, .nilS], 0, 0, none⟩]) (Or := []) (O1 := [XI (lvlD l).1.lens, XI (lvlD l).1.ms, ⟨bools (lvlD l).1.es, 0, 1, some 4⟩, XI (lvlD l).2, ⟨[I 0, B (lvlD l).1.b, B (lvlD l).1.d, .own 0 0 0 (lvlD l).1.lens.length, .own 1 0 0 (lvlD l).1.ms.length, .own 2 0 0 (lvlD l).1.es.length], 0, 0, none⟩, XI (levL (lvlD l).1.b (lvlD l).1.q (lvlD l).1.lens (lvlD l).2), XI (levL (lvlD l).1.b (lvlD l).1.q (lvlD l).1.lens (lvlD l).2), ⟨[I 0, I 0, I 0, B (lvlD l).1.b, B false, .nilS], 0, 0, none⟩, ⟨ints (levL (lvlD l).1.b 0 (lvlD l).1.lens (lvlD l).2), 1, 1, some 3⟩, ⟨ints (resL (lvlD l).1.b 0 (levL (lvlD l).1.b 0 (lvlD l).1.lens (lvlD l).2)), 1, 1, some 3⟩, deadO, deadO]) 11 2 [] [] rfl mixed (by decide +kernel)
      · exact rfl
      · apply HeadS.consF .none rfl
        · exact rfl
        · exact rfl
        · exact in1
        · exact rfl
        · exact rfl
        apply HeadS.consF (V := B true) .none rfl
        · exact rfl
        · exact rfl
        · intro Tv Ov hc hp' hd hk
          refine K.call ?_
          refine K.con (fun hcon => ?_)
          refine WpL.call0 (hcon (levL (lvlD l).1.b (lvlD l).1.q (lvlD l).1.lens (lvlD l).2) (by omega)) snapA locA rfl rfl (by decide) ?_
          rw [hd1]
          exact WpL.nil (Only.mk rfl)
        · exact rfl
        · exact rfl
        apply HeadS.consF .none rfl
        · exact rfl
        · exact rfl
        · exact in1
        · exact rfl
        · exact rfl
        apply HeadS.consF .none rfl
        · exact rfl
        · exact rfl
        · intro Tv Ov hc hp' hd hk
          refine K.gd ?_
          refine K.gT rfl (by decide) rfl ?_
          exact in1
        · exact rfl
        · exact rfl
        apply HeadS.consF .none rfl
        · exact rfl
        · exact rfl
        · intro Tv Ov hc hp' hd hk
          refine K.gd ?_
          refine K.gT rfl (by decide) rfl ?_
          exact in1
        · exact rfl
        · exact rfl
        apply HeadS.consF .none rfl
        · exact rfl
        · exact rfl
        · intro Tv Ov hc hp' hd hk
          refine K.gd ?_
          refine K.gT rfl (by decide) rfl ?_
          exact in1
        · exact rfl
        · exact rfl
        apply HeadS.consF (V := .own 8 1 0 (levL (lvlD l).1.b 0 (lvlD l).1.lens (lvlD l).2).length) (.put 0 (⟨ints (levL (lvlD l).1.b 0 (lvlD l).1.lens (lvlD l).2), 1, 1, some 3⟩)) rfl
        · exact rfl
        · exact rfl
        · intro Tv Ov hc hp' hd hk
          skip
          refine K.gd ?_
          refine K.gT rfl (by decide) rfl ?_
          refine K.call ?_
          refine K.con (fun hcon => ?_)
          refine WpL.callF (hcon 0 (lvlD l).1.b (lvlD l).1.d (lvlD l).1.lens (lvlD l).1.ms (lvlD l).1.es (lvlD l).2 (by omega)) snapA locA outA (cnt_some _ 0) rfl rfl (by decide) ?_
          rw [Nat.zero_add]
          apply WpL.putNil (p := 0)
          · exact hp' 0 _ rfl
          · exact Nat.zero_le _
          · exact rfl
          · first | exact still_ints _ | exact still_rows (fun _ => rfl) _ | rfl
        · exact rfl
        · exact rfl
        apply HeadS.consF (V := .own 9 1 0 (resL (lvlD l).1.b 0 (levL (lvlD l).1.b 0 (lvlD l).1.lens (lvlD l).2)).length) (.put 1 (⟨ints (resL (lvlD l).1.b 0 (levL (lvlD l).1.b 0 (lvlD l).1.lens (lvlD l).2)), 1, 1, some 3⟩)) rfl
        · exact rfl
        · exact rfl
        · intro Tv Ov hc hp' hd hk
          obtain ⟨R, rfl⟩ := split1 (hd 6 _ 0 _ (by decide) rfl rfl rfl)
          refine K.gd ?_
          refine K.gT rfl (by decide) rfl ?_
          refine K.call ?_
          refine K.con (fun hcon => ?_)
          refine WpL.callF (hcon 0 0 0 (lvlD l).1.b false [] (levL (lvlD l).1.b 0 (lvlD l).1.lens (lvlD l).2) (by omega)) snapA locA outA (cnt_some _ 0) rfl rfl (by decide) ?_
          rw [Nat.zero_add]
          apply WpL.putNil (p := 1)
          · exact hp' 1 _ rfl
          · exact Nat.zero_le _
          · exact rfl
          · first | exact still_ints _ | exact still_rows (fun _ => rfl) _ | rfl
        · exact rfl
        · exact rfl
        apply HeadS.consF .none rfl
        · exact rfl
        · exact rfl
        · intro Tv Ov hc hp' hd hk
          refine K.gd ?_
          refine K.gT rfl (by decide) rfl ?_
          exact in1
        · exact rfl
        · exact rfl
        apply HeadS.consF (V := B true) .none rfl
        · exact rfl
        · exact rfl
        · intro Tv Ov hc hp' hd hk
          obtain ⟨a0, R, rfl⟩ := split2 (hd 7 _ 1 _ (by decide) rfl rfl rfl)
          refine K.gd ?_
          refine K.gT rfl (by decide) rfl ?_
          refine K.call ?_
          refine K.con (fun hcon => ?_)
          refine WpL.call0 (hcon (resL (lvlD l).1.b 0 (levL (lvlD l).1.b 0 (lvlD l).1.lens (lvlD l).2)) (lvlD l).2 (by omega)) snapA locA rfl rfl (by decide) ?_
          rw [hd2]
          exact WpL.nil (Only.mk rfl)
        · exact rfl
        · exact rfl
        apply HeadS.consF .none rfl
        · exact rfl
        · exact rfl
        · exact in1
        · exact rfl
        · exact rfl
        exact HeadS.nil
      · exact rfl
      · exact rfl
      · exact rfl
      · exact rfl
      · exact rfl
      · exact rfl
      · exact rfl
      refine go (r := ?_); and_intros <;> intros <;> try exact True.intro
      all_goals first | contradiction | omega | trace_state
end
end Go.Proofs.Ytgkeopmihhcbiaa

/- From a contract to the form that a row's shell asks for. No condition. -/
namespace Go.Abs
open Go Go.RowKit
set_option linter.unusedVariables false

theorem FnC.walk {P : Program} {f : FuncId} {args : List AV} {N : List AObj} {x : Value} (hc : FnC P f args N (.sc x)) {w : World} {S : Nat → Prop} {vs : List Value} (hS : ∀ b, S b → b < w.heap.size)
    (hl : LRel S w (fun _ => none) [] args vs []) : Calls P f vs.toArray w fun e w' => e = .returned x ∧ Below w.heap.size w w' := by
  refine (hc.2 w S vs hS hl).mono fun e w' h => ?_
  obtain ⟨v, S', ι, F, rfl, _, _, _, _, _, hv, hk⟩ := h
  cases hv with
  | sc r => exact ⟨rfl, hk.os, hk.tape, hk.output, hk.size, fun b hb => hk.block b hb (fun h => h)⟩

theorem spot_none {w : World} {x : Addr} {n : Nat} (h : 0 < n) (hc : ∀ i, i < n → ∃ v, w.cell? (x.add i) = some v) : x.spot = none := by
  obtain ⟨v, hv⟩ := hc 0 h
  simpa [Addr.add] using World.cell?_spot hv

end Go.Abs

/- Reading what came in: a value of a plain shape (numbers, bools, strings, structs and slices of them) as an abstract value. No condition. -/
namespace Go.Abs
open Go Go.RowKit
set_option linter.unusedVariables false

inductive Sp where
  | int (k : IntKind) | bool | str | struct (fs : List Sp) | slice (k : Nat) (e : Sp)

mutual
inductive SpOk (P : Program) : TypeId → Sp → Prop
  | int {t k} : P.underlying t = some (.int k) → SpOk P t (.int k)
  | bool {t} : P.underlying t = some .bool → SpOk P t .bool
  | str {t} : P.underlying t = some .string → SpOk P t .str
  | struct {t fs sps n} : P.underlying t = some (.struct fs) → P.cellsOf t = n → SpF P 0 fs.toList sps n → SpOk P t (.struct sps)
  | slice {t e k sp} : P.underlying t = some (.slice e) → P.cellsOf e = k → 0 < k → SpOk P e sp → SpOk P t (.slice k sp)
inductive SpF (P : Program) : Nat → List Field → List Sp → Nat → Prop
  | nil {k} : SpF P k [] [] k
  | cons {k c f fs sp sps n} : f.offset = k → P.cellsOf f.type = c → SpOk P f.type sp → SpF P (k + c) fs sps n → SpF P k (f :: fs) (sp :: sps) n
end

mutual
inductive Rd : Sp → List AV → Prop
  | int {k n} : (Lit.int k n).wf = true → Rd (.int k) [.sc (.int k n)]
  | bool {b} : Rd .bool [.sc (.bool b)]
  | str {p : List UInt8} : p.length ≤ maxLen → Rd .str [.sc (.string ⟨p.toArray⟩)]
  | struct {sps cs} : RdF sps cs → Rd (.struct sps) cs
  | slice {sp len k cs} : len ≤ maxLen → RdN sp len k cs → Rd (.slice k sp) [.imm k len cs]
inductive RdF : List Sp → List AV → Prop
  | nil : RdF [] []
  | cons {sp sps a b} : Rd sp a → RdF sps b → RdF (sp :: sps) (a ++ b)
inductive RdN : Sp → Nat → Nat → List AV → Prop
  | nil {sp k} : RdN sp 0 k []
  | snoc {sp n k a b} : RdN sp n k a → Rd sp b → b.length = k → RdN sp (n + 1) k (a ++ b)
end

theorem RdN.len {sp n k cs} (h : RdN sp n k cs) : cs.length = n * k := by
  induction n generalizing cs with
  | zero => cases h; simp
  | succ n ih => cases h with | snoc h1 h2 h3 => rw [List.length_append, ih h1, h3, Nat.add_mul]; omega

section
variable {H : Type} {enc : TypeId × Value → H} {P : Program} {w : World} {base : Nat} {spare : Nat → Bool} {held : Bool}

theorem read {S : Nat → Prop} {ι : Nat → Spot} (hS : ∀ b, b < w.heap.size → S b) : ∀ (fuel : Nat) (t : TypeId) (sp : Sp) (cs : List Value) (x : DataW H × List MemPlace), SpOk P t sp →
    DataW.trod enc P w base spare held fuel t cs = some x → ∃ ds, Rd sp ds ∧ ∀ O, LRel S w ι O ds cs [] := by
  intro fuel
  induction fuel with
  | zero => intro t sp cs x _ h; simp [DataW.trod] at h
  | succ fuel ih =>
    intro t sp cs x hsp h
    cases hsp with
    | int ht =>
      obtain ⟨n, rfl, _, hw⟩ := DataW.trod_int ht h
      exact ⟨_, .int hw, fun O => .sc .nil⟩
    | bool ht =>
      obtain ⟨b, rfl, _⟩ := DataW.trod_bool ht h
      exact ⟨_, .bool, fun O => .sc .nil⟩
    | str ht =>
      obtain ⟨s, rfl, _, hs⟩ := DataW.trod_string ht h
      exact ⟨[.sc (.string ⟨s.data.toList.toArray⟩)], .str (by have : s.data.toList.length = s.size := rfl; omega), fun O => .sc .nil⟩
    | @struct _ fs sps n ht hn hf =>
      obtain ⟨xs, m, hm, _, hlen, hxl, hel⟩ := DataW.trod_struct ht h
      obtain rfl : fuel = m := by omega
      have key : ∀ (fl : List Field) (k : Nat) (sps : List Sp), SpF P k fl sps n → (∀ f ∈ fl, ∃ x, DataW.trod enc P w base spare held fuel f.type ((cs.drop f.offset).take (P.cellsOf f.type)) = some x) →
          k ≤ n → ∃ ds, RdF sps ds ∧ ∀ O, LRel S w ι O ds (cs.drop k) [] := by
        intro fl
        induction fl with
        | nil =>
          intro k sps hF _ _
          cases hF
          exact ⟨[], .nil, fun O => by rw [List.drop_eq_nil_of_le (by omega)]; exact .nil⟩
        | cons f fl ihf =>
          intro k sps hF hx hk
          cases hF with
          | cons h1 h2 h3 h4 =>
            obtain ⟨y, hy⟩ := hx f (by simp)
            obtain ⟨d1, r1, l1⟩ := ih _ _ _ _ h3 hy
            have hkn : ∀ {k fl sps}, SpF P k fl sps n → k ≤ n := by
              intro k fl
              induction fl generalizing k with
              | nil => intro sps h; cases h; exact Nat.le_refl _
              | cons f fl ih2 => intro sps h; cases h with | cons _ _ _ h => have := ih2 h; omega
            obtain ⟨d2, r2, l2⟩ := ihf _ _ h4 (fun g hg => hx g (by simp [hg])) (hkn h4)
            refine ⟨d1 ++ d2, .cons r1 r2, fun O => ?_⟩
            have e : cs.drop k = (cs.drop f.offset).take (P.cellsOf f.type) ++ cs.drop (k + P.cellsOf f.type) := by
              rw [h1, ← List.drop_drop, List.take_append_drop]
            rw [e, h2]
            rw [h2] at l1
            simpa using (l1 O).append (l2 O)
      obtain ⟨ds, r, l⟩ := key fs.toList 0 sps hf (fun f hf' => by
        obtain ⟨i, hi⟩ := List.getElem?_of_mem hf'
        have hi' : fs[i]? = some f := by simpa using hi
        have := hel i f hi'
        have hlt : i < xs.length := by have := (Array.getElem?_eq_some_iff.1 hi').1; omega
        exact ⟨xs[i], by rw [this]; simp [hlt]⟩) (Nat.zero_le _)
      exact ⟨ds, .struct r, fun O => by simpa using l O⟩
    | @slice _ e k sp ht hk hk0 he =>
      rcases DataW.trod_slice ht h with ⟨rfl, _⟩ | ⟨a, len, cap, elems, rest, m, hm, rfl, _, hb, hl, hc, hlen, hel, _, _⟩
      · exact ⟨[.imm k 0 []], .slice (by simp) .nil, fun O => .imm0 (by simp) .nil⟩
      obtain rfl : fuel = m := by omega
      have cells : ∀ j, j ≤ len → ∃ ds us, RdN sp j k ds ∧ us.length = j * k ∧ (∀ i, i < us.length → w.cell? (a.add i) = us[i]?) ∧ LRel S w ι [] ds us [] := by
        intro j
        induction j with
        | zero => intro _; exact ⟨[], [], .nil, by simp, by simp, .nil⟩
        | succ j ihj =>
          intro hj
          obtain ⟨ds, us, h1, h2, h3, h4⟩ := ihj (by omega)
          have hx := hel j (by omega)
          have hlt : j < elems.length := by omega
          rw [List.getElem?_eq_getElem hlt, Option.bind_eq_some_iff, hk] at hx
          obtain ⟨us2, hu, ht2⟩ := hx
          obtain ⟨d2, r2, l2⟩ := ih _ _ _ _ he ht2
          obtain ⟨_, c2, c3⟩ := World.cells?_some hu
          have l2' := l2 []
          have hd2 : d2.length = k := by rw [l2'.len, c2]
          refine ⟨ds ++ d2, us ++ us2, .snoc h1 r2 hd2, by rw [List.length_append, h2, c2, Nat.add_mul]; omega, fun i hi => ?_, by simpa using h4.append l2'⟩
          rw [List.length_append] at hi
          by_cases hlt2 : i < us.length
          · rw [h3 i hlt2, List.getElem?_append_left hlt2]
          · have hadd : a.add i = (a.add (j * k)).add (i - j * k) := by
              unfold Addr.add
              by_cases hz : j * k = 0
              · simp [hz]
              · by_cases hz2 : i - j * k = 0
                · have : i = j * k := by omega
                  simp [this]
                · rw [if_neg (by omega), if_neg hz, if_neg hz2]
                  simp only [Addr.mk.injEq, true_and, and_true]
                  omega
            rw [hadd, c3 (i - j * k) (by omega), List.getElem?_append_right (by omega), h2]
      obtain ⟨ds, us, h1, h2, h3, h4⟩ := cells len (Nat.le_refl _)
      refine ⟨[.imm k len ds], .slice (by omega) h1, fun O => ?_⟩
      by_cases h0 : len = 0
      · subst h0
        cases h1
        exact .imm0 ⟨by simp, hc⟩ .nil
      · have hul : 0 < us.length := by rw [h2]; exact Nat.mul_pos (by omega) hk0
        have hsp := spot_none (w := w) (x := a) (n := us.length) hul fun i hi => ⟨us[i], by rw [h3 i hi]; simp [hi]⟩
        obtain ⟨b, o, q⟩ := a
        simp only at hsp
        subst hsp
        have hcell : ∀ i, i < us.length → w.cell? ⟨b, o + i, none⟩ = us[i]? := fun i hi => by have := h3 i hi; rwa [addr_add] at this
        refine .imm (us := us) (hS _ ?_) hcell h4 (by rw [h1.len]) hl hc .nil
        by_cases hb' : b < w.heap.size
        · exact hb'
        · have := hcell 0 hul
          simp [World.cell?, Array.getElem?_eq_none (Nat.le_of_not_lt hb'), hul] at this
end
end Go.Abs

/- What a value that came in is: inversions of the readings by shape. No condition. -/
namespace Go.Abs
open Go Go.RowKit
set_option linter.unusedVariables false

abbrev i64 (n : Int) : Prop := -9223372036854775808 ≤ n ∧ n ≤ 9223372036854775807
abbrev spI : Sp := .int .i64
abbrev spIs : Sp := .slice 1 (.int .i64)
theorem lrel_cons0 {S : Nat → Prop} {w : World} {ι : Nat → Spot} {O : List AObj} {V : AV} {v : Value} {cs : List AV} {vs : List Value} (h1 : VRel S w ι O V v []) (h2 : LRel S w ι O cs vs []) : LRel S w ι O (V :: cs) (v :: vs) [] := LRel.cons h1 h2
end Go.Abs

/- What a value that came in is, further: options, headers, blocks, streams, neighbours, caches, entries, bytes. No condition. -/
namespace Go.Proofs.Ytgkeopmihhcbiaa
open Go Go.Abs Go.RowKit
set_option linter.unusedVariables false

@[irreducible] def WfI (l : List Int) : Prop := ∀ x ∈ l, i64 x
abbrev spBs : Sp := .slice 1 .bool
abbrev spBk : Sp := .struct [spI, spIs]
abbrev spMb : Sp := .struct [.bool, .slice 2 spBk]
abbrev spHd : Sp := .struct [spI, spI, spI, .bool, .bool, spIs]
def CBk (b : Blok) : Prop := b.2.length ≤ 9223372036854775807 ∧ i64 b.1 ∧ WfI b.2
def CMb (m : Mbk) : Prop := m.2.length ≤ 9223372036854775807 ∧ ∀ b ∈ m.2, CBk b
@[irreducible] def WfM (M : List Mbk) : Prop := ∀ m ∈ M, ∀ b ∈ m.2, i64 b.1 ∧ WfI b.2
def CPr (a : Int × Int) : Prop := i64 a.1 ∧ i64 a.2
@[irreducible] def WfP (l : List (Int × Int)) : Prop := ∀ a ∈ l, CPr a
theorem rdN_u8s {n : Nat} {cs : List AV} (h : RdN (.int .u8) n 1 cs) : ∃ xs : List Int, cs = u8s xs ∧ xs.length = n ∧ ∀ x ∈ xs, 0 ≤ x ∧ x ≤ 255 := by
  induction n generalizing cs with
  | zero => cases h; exact ⟨[], rfl, rfl, by simp⟩
  | succ n ih =>
    cases h with
    | snoc h1 h2 h3 =>
      obtain ⟨xs, rfl, h5, h6⟩ := ih h1
      cases h2 with
      | @int k m hw =>
        refine ⟨xs ++ [m], by simp [u8s], by simp [h5], fun x hx => ?_⟩
        rcases List.mem_append.1 hx with hx | hx
        · exact h6 x hx
        · have : x = m := by simpa using hx
          subst this
          simpa [Lit.wf, show IntKind.u8.min = 0 from rfl, show IntKind.u8.max = 255 from rfl] using hw
theorem rd_u8s {ds : List AV} (h : Rd (.slice 1 (.int .u8)) ds) : ∃ xs : List Int, ds = [.imm 1 xs.length (u8s xs)] ∧ xs.length ≤ 9223372036854775807 ∧ ∀ x ∈ xs, 0 ≤ x ∧ x ≤ 255 := by
  cases h with
  | slice hl hn =>
    obtain ⟨xs, rfl, h1, h2⟩ := rdN_u8s hn
    subst h1
    exact ⟨xs, rfl, by simp only [maxLen] at hl; omega, h2⟩
end Go.Proofs.Ytgkeopmihhcbiaa
