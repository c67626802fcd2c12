/- Proved in this text: lemmas and contracts of functions that the claim uses (parts: Rec, DrR, DrS, Cat, Ue, Bits, AbsUn). No condition. -/
import Derived.Test.YtjhejgamjlokdaaGreatPlM12
import Derived.Test.YtjhejgamjlokdaaGreatPlM9
import Derived.Test.YtjhejgamjlokdaaGreatPlM6
import Derived.Test.YtjhejgamjlokdaaGreatPlM13
import Derived.Test.YtjhejgamjlokdaaGreatPlM11
import Derived.Test.YtjhejgamjlokdaaGreatPlM5
import Derived.Test.YtjhejgamjlokdaaGreatPlM10
import Derived.Test.YtjhejgamjlokdaaGreatPlM7
set_option linter.unusedVariables false
set_option linter.unusedSimpArgs false
set_option maxRecDepth 100000
set_option maxHeartbeats 16000000


namespace Go.Proofs.YtjhejgamjlokdaaGreat
open Go Go.Abs
attribute [local irreducible] WpA WpL Rnd Blk Abs.Seq Abs.Fin Abs.FinG FnC FnG Only
abbrev FrO (W H : Int) (p : List Int) : AObj := ⟨[I W, I H, IL p], 0, 0, none⟩
abbrev FrOwn (k : Nat) (W H : Int) (len : Nat) : AV := .agg [I W, I H, .own k 0 0 len]
instance fits_c : Con 50 (∀ (W H : Int) (p : List Int) (x y n : Int), p.length ≤ 1099511627776 → Fn 50 [FrA W H p, I x, I y, I n] [] (B (decide (Fits W H p x y n)))) := ⟨fun W H p x y n hl => by
  refine FnC.of_body tabOk Tryz.func50 Tryz.ntmps50 rfl (by decide +kernel) (by simp) fun G => ?_
  by_cases h0 : FrameOk W H p
  · have h1 := h0.1
    by_cases h2 : n = 4 ∨ n = 8
    · refine go (r := ?_); and_intros <;> intros <;> try exact True.intro
      all_goals first | (simp_all; done) | (rw [Bool.eq_iff_iff]; simp only [decide_eq_true_eq, Bool.not_eq_true', decide_eq_false_iff_not, Bool.false_eq_true, true_iff, false_iff, iff_true, iff_false, Bool.not_eq_eq_eq_not, Bool.not_true]; omega)
    · refine go (r := ?_); and_intros <;> intros <;> try exact True.intro
      all_goals first | (simp_all; done) | (rw [Bool.eq_iff_iff]; simp only [decide_eq_true_eq, Bool.not_eq_true', decide_eq_false_iff_not, Bool.false_eq_true, true_iff, false_iff, iff_true, iff_false, Bool.not_eq_eq_eq_not, Bool.not_true]; omega)
  · refine go (r := ?_); and_intros <;> intros <;> try exact True.intro
    all_goals first | (simp_all; done) | (rw [Bool.eq_iff_iff]; simp only [decide_eq_true_eq, Bool.not_eq_true', decide_eq_false_iff_not, Bool.false_eq_true, true_iff, false_iff, iff_true, iff_false, Bool.not_eq_eq_eq_not, Bool.not_true]; omega)⟩
instance l18In_s : Con 35 (∀ (W H : Int) (p : List Int) (x y n : Int), p.length ≤ 1099511627776 → Fn 35 [FrA W H p, I x, I y, I n] [] (B (decide (Fits W H p x y n)))) := ⟨fun W H p x y n hl => by
  refine FnC.of_body tabOk Tryz.func35 Tryz.ntmps35 rfl (by decide +kernel) (by simp) fun G => ?_
  by_cases h0 : FrameOk W H p
  · have h1 := h0.1
    by_cases h2 : n = 4 ∨ n = 8
    · refine go (r := ?_); and_intros <;> intros <;> try exact True.intro
      all_goals first | (simp_all; done) | (rw [Bool.eq_iff_iff]; simp only [decide_eq_true_eq, Bool.not_eq_true', decide_eq_false_iff_not, Bool.false_eq_true, true_iff, false_iff, iff_true, iff_false, Bool.not_eq_eq_eq_not, Bool.not_true]; omega)
    · refine go (r := ?_); and_intros <;> intros <;> try exact True.intro
      all_goals first | (simp_all; done) | (rw [Bool.eq_iff_iff]; simp only [decide_eq_true_eq, Bool.not_eq_true', decide_eq_false_iff_not, Bool.false_eq_true, true_iff, false_iff, iff_true, iff_false, Bool.not_eq_eq_eq_not, Bool.not_true]; omega)
  · refine go (r := ?_); and_intros <;> intros <;> try exact True.intro
    all_goals first | (simp_all; done) | (rw [Bool.eq_iff_iff]; simp only [decide_eq_true_eq, Bool.not_eq_true', decide_eq_false_iff_not, Bool.false_eq_true, true_iff, false_iff, iff_true, iff_false, Bool.not_eq_eq_eq_not, Bool.not_true]; omega)⟩
instance own_c : Con 51 (∀ (W H : Int) (p : List Int), p.length ≤ 1099511627776 → Fn 51 [FrA W H p] [XI p] (FrOwn 0 W H p.length)) := ⟨fun W H p hl => by
  refine FnC.of_body tabOk Tryz.func51 Tryz.ntmps51 rfl (by decide +kernel) (by simp) fun G => ?_
  refine go (r := ?_); and_intros <;> intros <;> try exact True.intro
  all_goals trace_state⟩
instance l18Copy_s : Con 37 (∀ (W H : Int) (p : List Int), p.length ≤ 1099511627776 → Fn 37 [FrA W H p] [XI p] (FrOwn 0 W H p.length)) := ⟨fun W H p hl => by
  refine FnC.of_body tabOk Tryz.func37 Tryz.ntmps37 rfl (by decide +kernel) (by simp) fun G => ?_
  refine go (r := ?_); and_intros <;> intros <;> try exact True.intro
  all_goals trace_state⟩
end Go.Proofs.YtjhejgamjlokdaaGreat


namespace Go.Proofs.YtjhejgamjlokdaaGreat
open Go Go.Abs
attribute [local irreducible] WpA WpL Rnd Blk Abs.Seq Abs.Fin Abs.FinG FnC FnG FnX FnP FinX Only
attribute [local irreducible] belowD onceD pickD modeD l8D l8AnyD optD anyD seedD
abbrev HdOwn (k : Nat) (x : Hd6) : AV := .agg [I x.w, I x.h, I x.q, B x.b, B x.d, .own k 0 0 x.lens.length]
instance l22Header_p : ConP 79 (∀ (v : Value) (l : List Int) (c : Cr), CrOk l c → Pn 79 v l c [] (headD l c).1 [XI (headD l c).2.lens] (HdOwn 1 (headD l c).2)) := ⟨fun v l c h => by
  have h1 := belowD_ok 2 h
  have h2 := belowD_ok 2 h1.1
  have h3 := pickD_ok (xs := quant6) h2.1 (by decide)
  have h4 := onceD_ok 4 h3.1
  have h5 := onceD_ok 2 h4
  have h6 := l8D_ok h5
  have a1 := h1.2.1
  have a2 := h1.2.2.1 (by decide)
  have a3 := h2.2.1
  have a4 := h2.2.2.1 (by decide)
  unfold headD
  simp only
  refine FnP.of_body tabOk Tryz.func79 Tryz.ntmps79 rfl (by decide +kernel) (by simp) rfl rfl rfl fun G hp => ?_
  refine go (r := ?_); and_intros <;> intros <;> try exact True.intro
  all_goals first | exact h | exact h.1 | exact h.2.1 | exact h.2.2 | exact h1.1.2.1 | exact h1.1.2.2 | exact h2.1.2.1 | exact h2.1.2.2 | exact h3.1.2.1 | exact h3.1.2.2 | exact h4.2.1 | exact h4.2.2 | exact h5.2.1 | exact h5.2.2 | decide | skip⟩
theorem sqS_1 {l : List Int} {most : Int} {s : Cr × List Int} (h : (onceD l s.1 2).2 = true) : sqS l most s = ((belowD l (onceD l s.1 2).1 (2 * most + 1)).1, s.2 ++ [(belowD l (onceD l s.1 2).1 (2 * most + 1)).2 - most]) := by unfold sqS; rw [if_pos h]
theorem sqS_0 {l : List Int} {most : Int} {s : Cr × List Int} (h : ¬ (onceD l s.1 2).2 = true) : sqS l most s = ((onceD l s.1 2).1, s.2 ++ [0]) := by unfold sqS; rw [if_neg h]
instance l9Square_p : ConP 130 (∀ (v : Value) (l : List Int) (c : Cr) (most : Int), CrOk l c ∧ 0 ≤ most ∧ most ≤ 1000000 → Pn 130 v l c [I most] (squareD l c most).1 [XI (squareD l c most).2] (.own 1 0 0 (squareD l c most).2.length)) := ⟨fun v l c most hm => by
  have h := hm.1
  have hm0 := hm.2.1
  have hm1 := hm.2.2
  have h1 := onceD_ok 3 h
  have h2 := onceD_ok 14 h1
  have hn := sqN_ok h
  have hn1 := hn.2
  have hP := pickD_ok (xs := odd3) h2 (by decide)
  unfold squareD
  generalize hS : sqK l most (sqN l c).2.toNat ((sqN l c).1, []) = S
  by_cases h14 : (onceD l (onceD l c 3).1 14).2 = true
  · have e : sqN l c = pickD l (onceD l (onceD l c 3).1 14).1 odd3 := by unfold sqN; rw [if_pos h14]
    rw [e] at hS hn1
    by_cases h3 : (onceD l c 3).2 = true
    · refine FnP.of_body tabOk Tryz.func130 Tryz.ntmps130 rfl (by decide +kernel) (by simp) rfl rfl rfl fun G hp => ?_
      refine go (r := ?_); and_intros <;> intros <;> try exact True.intro
      all_goals first | contradiction | exact h.2.1 | exact h.2.2 | exact h1.2.1 | exact h1.2.2 | exact h2 | (simp_all; done) | skip
      generalize pickD l (onceD l (onceD l c 3).1 14).1 odd3 = N at *
      refine WpA.loop (fun x : Nat × Cr × List Int => ⟨[(0, .ptr 0 0 0), (1, I most), (5, I (N.2)), (6, .own 2 0 0 x.2.2.length)], [CurO v x.2.1, XI odd3, XI x.2.2]⟩) (fun x => CrOk l x.2.1 ∧ sqK l most x.1 x.2 = S ∧ (x.2.2.length : Int) + x.1 = N.2) (fun x => x.1) (N.2.toNat, N.1, []) ?_ (go (r := ?_)) ?_
      · exact ⟨hP.1, hS, by simp only [List.length_nil]; omega⟩
      · and_intros <;> first | exact True.intro | rfl | trace_state
      · rintro ⟨k, c1, xs⟩ ⟨hc1, hK, hlen⟩
        simp only at hc1 hK hlen ⊢
        have ho := onceD_ok 2 hc1
        by_cases hkz : k = 0
        · subst hkz
          have hSe : (c1, xs) = S := hK
          subst hSe
          refine go (r := ?_); and_intros <;> intros <;> try exact True.intro
          all_goals trace_state
        · have hE : sqK l most (k - 1) (sqS l most (c1, xs)) = S := by
            obtain ⟨j, rfl⟩ : ∃ j, k = j + 1 := ⟨k - 1, by omega⟩
            exact hK
          have hok := sqS_ok (most := most) (s := (c1, xs)) hc1
          have hB := belowD_ok (2 * most + 1) ho
          have hB0 := hB.2.1
          have hB1 := hB.2.2.1 (by omega)
          by_cases ho2 : (onceD l c1 2).2 = true
          · have e := sqS_1 (most := most) (s := (c1, xs)) ho2
            rw [e] at hE hok
            refine go (r := ?_); and_intros <;> intros <;> try exact True.intro
            all_goals first | (rename_i hg; rw [ho2] at hg; cases hg; done) | exact hc1.2.1 | exact hc1.2.2 | exact ho.2.1 | exact ho.2.2 | skip
            refine Rnd.go (k - 1, _, _) ⟨hok.1, hE, ?_⟩ ?_ ?_
            · have := hok.2; simp only at this ⊢; omega
            · show k - 1 < k; omega
            · have e2 : (xs ++ [(belowD l (onceD l c1 2).1 (2 * most + 1)).2 - most]).length = xs.length + 1 := by simp
              simp only [e2]
              exact Weak.mk (by repeat (first | exact ReT.nil | refine ReT.cons (.keep rfl rfl .nil) ?_ | refine ReT.cons (.own rfl rfl rfl rfl rfl rfl .nil) ?_ | refine ReT.cons (.ptr rfl rfl rfl rfl .nil) ?_ | refine ReT.cons (.keep (congrArg (fun z => AV.sc (Value.int .i64 z)) (by first | omega | (skip))) rfl .nil) ?_ | refine ReT.cons (.keep (congrArg (fun z : List UInt8 => AV.sc (Value.string ⟨z.toArray⟩)) (by skip)) rfl .nil) ?_ | refine ReT.cons (.own rfl rfl rfl rfl rfl (by first | omega | (simp; done) | (simp; omega)) .nil) ?_)) (by repeat (first | exact ReO.nil | refine ReO.cons (Re.same rfl rfl) (.inr rfl) ?_ | refine ReO.cons (Re.same rfl (still_ints _)) (.inr rfl) ?_ | refine ReO.cons (Re.same rfl (still_bools _)) (.inr rfl) ?_ | refine ReO.cons (Re.same rfl (still_rows (fun _ => rfl) _)) (.inr rfl) ?_)) (Nat.le_of_ble_eq_true rfl)
          · have e := sqS_0 (most := most) (s := (c1, xs)) ho2
            rw [e] at hE hok
            refine go (r := ?_); and_intros <;> intros <;> try exact True.intro
            all_goals first | (rename_i hg; exact absurd hg ho2) | exact hc1.2.1 | exact hc1.2.2 | exact ho.2.1 | exact ho.2.2 | skip
            refine Rnd.go (k - 1, _, _) ⟨hok.1, hE, ?_⟩ ?_ ?_
            · have := hok.2; simp only at this ⊢; omega
            · show k - 1 < k; omega
            · have e2 : (xs ++ [(0 : Int)]).length = xs.length + 1 := by simp
              simp only [e2]
              exact Weak.mk (by repeat (first | exact ReT.nil | refine ReT.cons (.keep rfl rfl .nil) ?_ | refine ReT.cons (.own rfl rfl rfl rfl rfl rfl .nil) ?_ | refine ReT.cons (.ptr rfl rfl rfl rfl .nil) ?_ | refine ReT.cons (.keep (congrArg (fun z => AV.sc (Value.int .i64 z)) (by first | omega | (skip))) rfl .nil) ?_ | refine ReT.cons (.keep (congrArg (fun z : List UInt8 => AV.sc (Value.string ⟨z.toArray⟩)) (by skip)) rfl .nil) ?_ | refine ReT.cons (.own rfl rfl rfl rfl rfl (by first | omega | (simp; done) | (simp; omega)) .nil) ?_)) (by repeat (first | exact ReO.nil | refine ReO.cons (Re.same rfl rfl) (.inr rfl) ?_ | refine ReO.cons (Re.same rfl (still_ints _)) (.inr rfl) ?_ | refine ReO.cons (Re.same rfl (still_bools _)) (.inr rfl) ?_ | refine ReO.cons (Re.same rfl (still_rows (fun _ => rfl) _)) (.inr rfl) ?_)) (Nat.le_of_ble_eq_true rfl)
    · refine FnP.of_body tabOk Tryz.func130 Tryz.ntmps130 rfl (by decide +kernel) (by simp) rfl rfl rfl fun G hp => ?_
      refine go (r := ?_); and_intros <;> intros <;> try exact True.intro
      all_goals first | contradiction | exact h.2.1 | exact h.2.2 | exact h1.2.1 | exact h1.2.2 | exact h2 | (simp_all; done) | skip
      generalize pickD l (onceD l (onceD l c 3).1 14).1 odd3 = N at *
      refine WpA.loop (fun x : Nat × Cr × List Int => ⟨[(0, .ptr 0 0 0), (1, I most), (5, I (N.2)), (6, .own 2 0 0 x.2.2.length)], [CurO v x.2.1, XI odd3, XI x.2.2]⟩) (fun x => CrOk l x.2.1 ∧ sqK l most x.1 x.2 = S ∧ (x.2.2.length : Int) + x.1 = N.2) (fun x => x.1) (N.2.toNat, N.1, []) ?_ (go (r := ?_)) ?_
      · exact ⟨hP.1, hS, by simp only [List.length_nil]; omega⟩
      · and_intros <;> first | exact True.intro | rfl | trace_state
      · rintro ⟨k, c1, xs⟩ ⟨hc1, hK, hlen⟩
        simp only at hc1 hK hlen ⊢
        have ho := onceD_ok 2 hc1
        by_cases hkz : k = 0
        · subst hkz
          have hSe : (c1, xs) = S := hK
          subst hSe
          refine go (r := ?_); and_intros <;> intros <;> try exact True.intro
          all_goals trace_state
        · have hE : sqK l most (k - 1) (sqS l most (c1, xs)) = S := by
            obtain ⟨j, rfl⟩ : ∃ j, k = j + 1 := ⟨k - 1, by omega⟩
            exact hK
          have hok := sqS_ok (most := most) (s := (c1, xs)) hc1
          have hB := belowD_ok (2 * most + 1) ho
          have hB0 := hB.2.1
          have hB1 := hB.2.2.1 (by omega)
          by_cases ho2 : (onceD l c1 2).2 = true
          · have e := sqS_1 (most := most) (s := (c1, xs)) ho2
            rw [e] at hE hok
            refine go (r := ?_); and_intros <;> intros <;> try exact True.intro
            all_goals first | (rename_i hg; rw [ho2] at hg; cases hg; done) | exact hc1.2.1 | exact hc1.2.2 | exact ho.2.1 | exact ho.2.2 | skip
            refine Rnd.go (k - 1, _, _) ⟨hok.1, hE, ?_⟩ ?_ ?_
            · have := hok.2; simp only at this ⊢; omega
            · show k - 1 < k; omega
            · have e2 : (xs ++ [(belowD l (onceD l c1 2).1 (2 * most + 1)).2 - most]).length = xs.length + 1 := by simp
              simp only [e2]
              exact Weak.mk (by repeat (first | exact ReT.nil | refine ReT.cons (.keep rfl rfl .nil) ?_ | refine ReT.cons (.own rfl rfl rfl rfl rfl rfl .nil) ?_ | refine ReT.cons (.ptr rfl rfl rfl rfl .nil) ?_ | refine ReT.cons (.keep (congrArg (fun z => AV.sc (Value.int .i64 z)) (by first | omega | (skip))) rfl .nil) ?_ | refine ReT.cons (.keep (congrArg (fun z : List UInt8 => AV.sc (Value.string ⟨z.toArray⟩)) (by skip)) rfl .nil) ?_ | refine ReT.cons (.own rfl rfl rfl rfl rfl (by first | omega | (simp; done) | (simp; omega)) .nil) ?_)) (by repeat (first | exact ReO.nil | refine ReO.cons (Re.same rfl rfl) (.inr rfl) ?_ | refine ReO.cons (Re.same rfl (still_ints _)) (.inr rfl) ?_ | refine ReO.cons (Re.same rfl (still_bools _)) (.inr rfl) ?_ | refine ReO.cons (Re.same rfl (still_rows (fun _ => rfl) _)) (.inr rfl) ?_)) (Nat.le_of_ble_eq_true rfl)
          · have e := sqS_0 (most := most) (s := (c1, xs)) ho2
            rw [e] at hE hok
            refine go (r := ?_); and_intros <;> intros <;> try exact True.intro
            all_goals first | (rename_i hg; exact absurd hg ho2) | exact hc1.2.1 | exact hc1.2.2 | exact ho.2.1 | exact ho.2.2 | skip
            refine Rnd.go (k - 1, _, _) ⟨hok.1, hE, ?_⟩ ?_ ?_
            · have := hok.2; simp only at this ⊢; omega
            · show k - 1 < k; omega
            · have e2 : (xs ++ [(0 : Int)]).length = xs.length + 1 := by simp
              simp only [e2]
              exact Weak.mk (by repeat (first | exact ReT.nil | refine ReT.cons (.keep rfl rfl .nil) ?_ | refine ReT.cons (.own rfl rfl rfl rfl rfl rfl .nil) ?_ | refine ReT.cons (.ptr rfl rfl rfl rfl .nil) ?_ | refine ReT.cons (.keep (congrArg (fun z => AV.sc (Value.int .i64 z)) (by first | omega | (skip))) rfl .nil) ?_ | refine ReT.cons (.keep (congrArg (fun z : List UInt8 => AV.sc (Value.string ⟨z.toArray⟩)) (by skip)) rfl .nil) ?_ | refine ReT.cons (.own rfl rfl rfl rfl rfl (by first | omega | (simp; done) | (simp; omega)) .nil) ?_)) (by repeat (first | exact ReO.nil | refine ReO.cons (Re.same rfl rfl) (.inr rfl) ?_ | refine ReO.cons (Re.same rfl (still_ints _)) (.inr rfl) ?_ | refine ReO.cons (Re.same rfl (still_bools _)) (.inr rfl) ?_ | refine ReO.cons (Re.same rfl (still_rows (fun _ => rfl) _)) (.inr rfl) ?_)) (Nat.le_of_ble_eq_true rfl)
  · have e : sqN l c = ((onceD l (onceD l c 3).1 14).1, sqN0 l c) := by unfold sqN; rw [if_neg h14]
    rw [e] at hS hn1
    by_cases h3 : (onceD l c 3).2 = true
    · have e2 : sqN0 l c = 64 := by unfold sqN0; rw [if_pos h3]
      simp only [e2] at hS hn1
      refine FnP.of_body tabOk Tryz.func130 Tryz.ntmps130 rfl (by decide +kernel) (by simp) rfl rfl rfl fun G hp => ?_
      refine go (r := ?_); and_intros <;> intros <;> try exact True.intro
      all_goals first | contradiction | exact h.2.1 | exact h.2.2 | exact h1.2.1 | exact h1.2.2 | exact h2 | (simp_all; done) | skip
      refine WpA.loop (fun x : Nat × Cr × List Int => ⟨[(0, .ptr 0 0 0), (1, I most), (5, I (64)), (6, .own 1 0 0 x.2.2.length)], [CurO v x.2.1, XI x.2.2]⟩) (fun x => CrOk l x.2.1 ∧ sqK l most x.1 x.2 = S ∧ (x.2.2.length : Int) + x.1 = 64) (fun x => x.1) (64, (onceD l (onceD l c 3).1 14).1, []) ?_ (go (r := ?_)) ?_
      · exact ⟨h2, hS, by simp only [List.length_nil]; omega⟩
      · and_intros <;> first | exact True.intro | rfl | trace_state
      · rintro ⟨k, c1, xs⟩ ⟨hc1, hK, hlen⟩
        simp only at hc1 hK hlen ⊢
        have ho := onceD_ok 2 hc1
        by_cases hkz : k = 0
        · subst hkz
          have hSe : (c1, xs) = S := hK
          subst hSe
          refine go (r := ?_); and_intros <;> intros <;> try exact True.intro
          all_goals trace_state
        · have hE : sqK l most (k - 1) (sqS l most (c1, xs)) = S := by
            obtain ⟨j, rfl⟩ : ∃ j, k = j + 1 := ⟨k - 1, by omega⟩
            exact hK
          have hok := sqS_ok (most := most) (s := (c1, xs)) hc1
          have hB := belowD_ok (2 * most + 1) ho
          have hB0 := hB.2.1
          have hB1 := hB.2.2.1 (by omega)
          by_cases ho2 : (onceD l c1 2).2 = true
          · have e := sqS_1 (most := most) (s := (c1, xs)) ho2
            rw [e] at hE hok
            refine go (r := ?_); and_intros <;> intros <;> try exact True.intro
            all_goals first | (rename_i hg; rw [ho2] at hg; cases hg; done) | exact hc1.2.1 | exact hc1.2.2 | exact ho.2.1 | exact ho.2.2 | skip
            refine Rnd.go (k - 1, _, _) ⟨hok.1, hE, ?_⟩ ?_ ?_
            · have := hok.2; simp only at this ⊢; omega
            · show k - 1 < k; omega
            · have e2 : (xs ++ [(belowD l (onceD l c1 2).1 (2 * most + 1)).2 - most]).length = xs.length + 1 := by simp
              simp only [e2]
              exact Weak.mk (by repeat (first | exact ReT.nil | refine ReT.cons (.keep rfl rfl .nil) ?_ | refine ReT.cons (.own rfl rfl rfl rfl rfl rfl .nil) ?_ | refine ReT.cons (.ptr rfl rfl rfl rfl .nil) ?_ | refine ReT.cons (.keep (congrArg (fun z => AV.sc (Value.int .i64 z)) (by first | omega | (skip))) rfl .nil) ?_ | refine ReT.cons (.keep (congrArg (fun z : List UInt8 => AV.sc (Value.string ⟨z.toArray⟩)) (by skip)) rfl .nil) ?_ | refine ReT.cons (.own rfl rfl rfl rfl rfl (by first | omega | (simp; done) | (simp; omega)) .nil) ?_)) (by repeat (first | exact ReO.nil | refine ReO.cons (Re.same rfl rfl) (.inr rfl) ?_ | refine ReO.cons (Re.same rfl (still_ints _)) (.inr rfl) ?_ | refine ReO.cons (Re.same rfl (still_bools _)) (.inr rfl) ?_ | refine ReO.cons (Re.same rfl (still_rows (fun _ => rfl) _)) (.inr rfl) ?_)) (Nat.le_of_ble_eq_true rfl)
          · have e := sqS_0 (most := most) (s := (c1, xs)) ho2
            rw [e] at hE hok
            refine go (r := ?_); and_intros <;> intros <;> try exact True.intro
            all_goals first | (rename_i hg; exact absurd hg ho2) | exact hc1.2.1 | exact hc1.2.2 | exact ho.2.1 | exact ho.2.2 | skip
            refine Rnd.go (k - 1, _, _) ⟨hok.1, hE, ?_⟩ ?_ ?_
            · have := hok.2; simp only at this ⊢; omega
            · show k - 1 < k; omega
            · have e2 : (xs ++ [(0 : Int)]).length = xs.length + 1 := by simp
              simp only [e2]
              exact Weak.mk (by repeat (first | exact ReT.nil | refine ReT.cons (.keep rfl rfl .nil) ?_ | refine ReT.cons (.own rfl rfl rfl rfl rfl rfl .nil) ?_ | refine ReT.cons (.ptr rfl rfl rfl rfl .nil) ?_ | refine ReT.cons (.keep (congrArg (fun z => AV.sc (Value.int .i64 z)) (by first | omega | (skip))) rfl .nil) ?_ | refine ReT.cons (.keep (congrArg (fun z : List UInt8 => AV.sc (Value.string ⟨z.toArray⟩)) (by skip)) rfl .nil) ?_ | refine ReT.cons (.own rfl rfl rfl rfl rfl (by first | omega | (simp; done) | (simp; omega)) .nil) ?_)) (by repeat (first | exact ReO.nil | refine ReO.cons (Re.same rfl rfl) (.inr rfl) ?_ | refine ReO.cons (Re.same rfl (still_ints _)) (.inr rfl) ?_ | refine ReO.cons (Re.same rfl (still_bools _)) (.inr rfl) ?_ | refine ReO.cons (Re.same rfl (still_rows (fun _ => rfl) _)) (.inr rfl) ?_)) (Nat.le_of_ble_eq_true rfl)
    · have e2 : sqN0 l c = 16 := by unfold sqN0; rw [if_neg h3]
      simp only [e2] at hS hn1
      refine FnP.of_body tabOk Tryz.func130 Tryz.ntmps130 rfl (by decide +kernel) (by simp) rfl rfl rfl fun G hp => ?_
      refine go (r := ?_); and_intros <;> intros <;> try exact True.intro
      all_goals first | contradiction | exact h.2.1 | exact h.2.2 | exact h1.2.1 | exact h1.2.2 | exact h2 | (simp_all; done) | skip
      refine WpA.loop (fun x : Nat × Cr × List Int => ⟨[(0, .ptr 0 0 0), (1, I most), (5, I (16)), (6, .own 1 0 0 x.2.2.length)], [CurO v x.2.1, XI x.2.2]⟩) (fun x => CrOk l x.2.1 ∧ sqK l most x.1 x.2 = S ∧ (x.2.2.length : Int) + x.1 = 16) (fun x => x.1) (16, (onceD l (onceD l c 3).1 14).1, []) ?_ (go (r := ?_)) ?_
      · exact ⟨h2, hS, by simp only [List.length_nil]; omega⟩
      · and_intros <;> first | exact True.intro | rfl | trace_state
      · rintro ⟨k, c1, xs⟩ ⟨hc1, hK, hlen⟩
        simp only at hc1 hK hlen ⊢
        have ho := onceD_ok 2 hc1
        by_cases hkz : k = 0
        · subst hkz
          have hSe : (c1, xs) = S := hK
          subst hSe
          refine go (r := ?_); and_intros <;> intros <;> try exact True.intro
          all_goals trace_state
        · have hE : sqK l most (k - 1) (sqS l most (c1, xs)) = S := by
            obtain ⟨j, rfl⟩ : ∃ j, k = j + 1 := ⟨k - 1, by omega⟩
            exact hK
          have hok := sqS_ok (most := most) (s := (c1, xs)) hc1
          have hB := belowD_ok (2 * most + 1) ho
          have hB0 := hB.2.1
          have hB1 := hB.2.2.1 (by omega)
          by_cases ho2 : (onceD l c1 2).2 = true
          · have e := sqS_1 (most := most) (s := (c1, xs)) ho2
            rw [e] at hE hok
            refine go (r := ?_); and_intros <;> intros <;> try exact True.intro
            all_goals first | (rename_i hg; rw [ho2] at hg; cases hg; done) | exact hc1.2.1 | exact hc1.2.2 | exact ho.2.1 | exact ho.2.2 | skip
            refine Rnd.go (k - 1, _, _) ⟨hok.1, hE, ?_⟩ ?_ ?_
            · have := hok.2; simp only at this ⊢; omega
            · show k - 1 < k; omega
            · have e2 : (xs ++ [(belowD l (onceD l c1 2).1 (2 * most + 1)).2 - most]).length = xs.length + 1 := by simp
              simp only [e2]
              exact Weak.mk (by repeat (first | exact ReT.nil | refine ReT.cons (.keep rfl rfl .nil) ?_ | refine ReT.cons (.own rfl rfl rfl rfl rfl rfl .nil) ?_ | refine ReT.cons (.ptr rfl rfl rfl rfl .nil) ?_ | refine ReT.cons (.keep (congrArg (fun z => AV.sc (Value.int .i64 z)) (by first | omega | (skip))) rfl .nil) ?_ | refine ReT.cons (.keep (congrArg (fun z : List UInt8 => AV.sc (Value.string ⟨z.toArray⟩)) (by skip)) rfl .nil) ?_ | refine ReT.cons (.own rfl rfl rfl rfl rfl (by first | omega | (simp; done) | (simp; omega)) .nil) ?_)) (by repeat (first | exact ReO.nil | refine ReO.cons (Re.same rfl rfl) (.inr rfl) ?_ | refine ReO.cons (Re.same rfl (still_ints _)) (.inr rfl) ?_ | refine ReO.cons (Re.same rfl (still_bools _)) (.inr rfl) ?_ | refine ReO.cons (Re.same rfl (still_rows (fun _ => rfl) _)) (.inr rfl) ?_)) (Nat.le_of_ble_eq_true rfl)
          · have e := sqS_0 (most := most) (s := (c1, xs)) ho2
            rw [e] at hE hok
            refine go (r := ?_); and_intros <;> intros <;> try exact True.intro
            all_goals first | (rename_i hg; exact absurd hg ho2) | exact hc1.2.1 | exact hc1.2.2 | exact ho.2.1 | exact ho.2.2 | skip
            refine Rnd.go (k - 1, _, _) ⟨hok.1, hE, ?_⟩ ?_ ?_
            · have := hok.2; simp only at this ⊢; omega
            · show k - 1 < k; omega
            · have e2 : (xs ++ [(0 : Int)]).length = xs.length + 1 := by simp
              simp only [e2]
              exact Weak.mk (by repeat (first | exact ReT.nil | refine ReT.cons (.keep rfl rfl .nil) ?_ | refine ReT.cons (.own rfl rfl rfl rfl rfl rfl .nil) ?_ | refine ReT.cons (.ptr rfl rfl rfl rfl .nil) ?_ | refine ReT.cons (.keep (congrArg (fun z => AV.sc (Value.int .i64 z)) (by first | omega | (skip))) rfl .nil) ?_ | refine ReT.cons (.keep (congrArg (fun z : List UInt8 => AV.sc (Value.string ⟨z.toArray⟩)) (by skip)) rfl .nil) ?_ | refine ReT.cons (.own rfl rfl rfl rfl rfl (by first | omega | (simp; done) | (simp; omega)) .nil) ?_)) (by repeat (first | exact ReO.nil | refine ReO.cons (Re.same rfl rfl) (.inr rfl) ?_ | refine ReO.cons (Re.same rfl (still_ints _)) (.inr rfl) ?_ | refine ReO.cons (Re.same rfl (still_bools _)) (.inr rfl) ?_ | refine ReO.cons (Re.same rfl (still_rows (fun _ => rfl) _)) (.inr rfl) ?_)) (Nat.le_of_ble_eq_true rfl)
  ⟩
end Go.Proofs.YtjhejgamjlokdaaGreat


namespace Go.Proofs.YtjhejgamjlokdaaGreat
open Go Go.Abs
attribute [local irreducible] WpA WpL Rnd Blk Abs.Seq Abs.Fin Abs.FinG FnC FnG FnX FnP FinX Only
attribute [local irreducible] belowD onceD pickD modeD l8D l8AnyD optD anyD seedD squareD headD headAnyD
theorem tf {P : Prop} {b : Bool} (h : b = true) (h' : b = false) : P := by rw [h] at h'; cases h'
def zerK (x : List Int) (j : Nat) : List Int := x.take 3 ++ List.replicate (j - 3) 0 ++ x.drop j
theorem zer_len (x : List Int) (j : Nat) (h : 3 ≤ j) (h2 : j ≤ x.length ∨ j = 3) : (zerK x j).length = x.length := by
  simp [zerK]; omega
theorem zer_3 (x : List Int) : zerK x 3 = x := by simp [zerK]
theorem zer_step (x : List Int) (j : Nat) (h : 3 ≤ j) (h2 : j < x.length) : (zerK x j).set j 0 = zerK x (j + 1) := by
  have e : (x.take 3 ++ List.replicate (j - 3) (0 : Int)).length = j := by simp; omega
  unfold zerK
  rw [List.set_append_right _ _ (by rw [e]; exact Nat.le_refl _), e, Nat.sub_self, List.drop_eq_getElem_cons h2, List.set_cons_zero, show j + 1 - 3 = (j - 3) + 1 by omega, List.replicate_succ']
  simp
theorem zer_end (x : List Int) (j : Nat) (h : 3 ≤ j) (h1 : ¬ j < x.length) (h2 : j ≤ x.length ∨ j = 3) : zerK x j = tail3 x := by
  unfold zerK tail3
  rw [List.drop_eq_nil_of_le (by omega), List.append_nil]
  congr 2
  omega
theorem lvB_z {l : List Int} {s : Cr × List Int} (h : s.2.length = 0) : lvB l s = s := by unfold lvB; rw [if_pos h]
theorem lvB_1 {l : List Int} {s : Cr × List Int} (h : ¬ s.2.length = 0) (h6 : (onceD l s.1 6).2 = true) : lvB l s = ((pickD l (belowD l (onceD l s.1 6).1 s.2.length).1 big4).1, s.2.set (belowD l (onceD l s.1 6).1 s.2.length).2.toNat (pickD l (belowD l (onceD l s.1 6).1 s.2.length).1 big4).2) := by
  unfold lvB lvA; rw [if_neg h, if_pos h6]
theorem lvB_0 {l : List Int} {s : Cr × List Int} (h : ¬ s.2.length = 0) (h6 : ¬ (onceD l s.1 6).2 = true) : lvB l s = ((onceD l s.1 6).1, s.2) := by
  unfold lvB lvA; rw [if_neg h, if_neg h6]
theorem lev10_1 {l : List Int} {c : Cr} {y : Cr × List Int} (hy : lvB l (squareD l c 30) = y) (h : (onceD l y.1 4).2 = true) : lev10D l c = ((onceD l y.1 4).1, tail3 y.2) := by
  unfold lev10D; rw [hy, if_pos h]
theorem lev10_0 {l : List Int} {c : Cr} {y : Cr × List Int} (hy : lvB l (squareD l c 30) = y) (h : ¬ (onceD l y.1 4).2 = true) : lev10D l c = ((onceD l y.1 4).1, y.2) := by
  unfold lev10D; rw [hy, if_neg h]
theorem squareD_ok' {l : List Int} {c : Cr} (most : Int) (h : CrOk l c) : CrOk l (squareD l c most).1 ∧ (squareD l c most).2.length ≤ 64 := squareD_ok most h
instance l10Levels_p : ConP 110 (∀ (v : Value) (l : List Int) (c : Cr), CrOk l c → Pn 110 v l c [] (lev10D l c).1 [XI (lev10D l c).2] (.own 1 0 0 (lev10D l c).2.length)) := ⟨fun v l c h => by
  have hs := squareD_ok' 30 h
  have hs1 := hs.1
  have hs2 := hs.2
  have h6o := onceD_ok 6 hs1
  by_cases hz : (squareD l c 30).2.length = 0
  · by_cases h4 : (onceD l (squareD l c 30).1 4).2 = true
    · rw [lev10_1 (lvB_z hz) h4, tail3_len]
      refine FnP.of_body tabOk Tryz.func110 Tryz.ntmps110 rfl (by decide +kernel) (by simp) rfl rfl rfl fun G hp => ?_
      refine go (r := ?_); and_intros <;> intros <;> try exact True.intro
      all_goals first | exact tf h4 (by assumption) | exact h | exact h.2.1 | exact h.2.2 | exact hs1.2.1 | exact hs1.2.2 | exact h6o.2.1 | exact h6o.2.2 | decide | omega | skip
      refine WpA.loop (fun j : Nat => ⟨[(3, .own 1 0 0 (((squareD l c 30).2).length)), (4, I j)], [CurO v (onceD l (squareD l c 30).1 4).1, XI (zerK (squareD l c 30).2 j)]⟩) (fun j => 3 ≤ j ∧ (j ≤ ((squareD l c 30).2).length ∨ j = 3)) (fun j => ((squareD l c 30).2).length - j) 3 ⟨Nat.le_refl 3, .inr rfl⟩ (go (r := ?_)) (fun j hj => ?_)
      · and_intros <;> first | exact True.intro | rfl | exact (zer_3 _).symm | exact zer_3 _ | trace_state
      have hln := zer_len ((squareD l c 30).2) j hj.1 hj.2
      have hls : ((squareD l c 30).2).length = ((squareD l c 30).2).length := by first | rfl | exact List.length_set ..
      have hzs := fun h => zer_step ((squareD l c 30).2) j hj.1 h
      have hze := fun h => zer_end ((squareD l c 30).2) j hj.1 h hj.2
      refine go (r := ?_); and_intros <;> intros <;> try exact True.intro
      all_goals first | exact hzs (by omega) | exact hze (by omega) | trace_state
    · rw [lev10_0 (lvB_z hz) h4]
      refine FnP.of_body tabOk Tryz.func110 Tryz.ntmps110 rfl (by decide +kernel) (by simp) rfl rfl rfl fun G hp => ?_
      refine go (r := ?_); and_intros <;> intros <;> try exact True.intro
      all_goals first | exact (h4 (by assumption)).elim | exact h | exact h.2.1 | exact h.2.2 | exact hs1.2.1 | exact hs1.2.2 | exact h6o.2.1 | exact h6o.2.2 | decide | trace_state
  · by_cases h6 : (onceD l (squareD l c 30).1 6).2 = true
    · have hb := belowD_ok (squareD l c 30).2.length h6o
      have hb0 := hb.2.1
      have hb1 := hb.2.2.1 (by omega)
      have hp := pickD_ok (xs := [16383, -16383, 16384, 5000]) hb.1 (by decide)
      have hp1 := hp.1.2.1
      have hp2 := hp.1.2.2
      by_cases h4 : (onceD l (pickD l (belowD l (onceD l (squareD l c 30).1 6).1 (squareD l c 30).2.length).1 big4).1 4).2 = true
      · rw [lev10_1 (lvB_1 hz h6) h4, tail3_len, List.length_set]
        refine FnP.of_body tabOk Tryz.func110 Tryz.ntmps110 rfl (by decide +kernel) (by simp) rfl rfl rfl fun G hp => ?_
        refine go (r := ?_); and_intros <;> intros <;> try exact True.intro
        all_goals first | exact tf h6 (by assumption) | exact tf h4 (by assumption) | exact h | exact h.2.1 | exact h.2.2 | exact hs1.2.1 | exact hs1.2.2 | exact h6o.2.1 | exact h6o.2.2 | exact hb.1.2.1 | exact hb.1.2.2 | exact hp.1.2.1 | exact hp.1.2.2 | decide | omega | skip
        refine WpA.loop (fun j : Nat => ⟨[(3, .own 1 0 0 ((squareD l c 30).2.length)), (4, I j)], [CurO v (onceD l (pickD l (belowD l (onceD l (squareD l c 30).1 6).1 (squareD l c 30).2.length).1 big4).1 4).1, XI (zerK ((squareD l c 30).2.set (belowD l (onceD l (squareD l c 30).1 6).1 (squareD l c 30).2.length).2.toNat (pickD l (belowD l (onceD l (squareD l c 30).1 6).1 (squareD l c 30).2.length).1 big4).2) j), XI big4]⟩) (fun j => 3 ≤ j ∧ (j ≤ (((squareD l c 30).2.set (belowD l (onceD l (squareD l c 30).1 6).1 (squareD l c 30).2.length).2.toNat (pickD l (belowD l (onceD l (squareD l c 30).1 6).1 (squareD l c 30).2.length).1 big4).2)).length ∨ j = 3)) (fun j => (((squareD l c 30).2.set (belowD l (onceD l (squareD l c 30).1 6).1 (squareD l c 30).2.length).2.toNat (pickD l (belowD l (onceD l (squareD l c 30).1 6).1 (squareD l c 30).2.length).1 big4).2)).length - j) 3 ⟨Nat.le_refl 3, .inr rfl⟩ (go (r := ?_)) (fun j hj => ?_)
        · and_intros <;> first | exact True.intro | rfl | exact (zer_3 _).symm | exact zer_3 _ | trace_state
        have hln := zer_len (((squareD l c 30).2.set (belowD l (onceD l (squareD l c 30).1 6).1 (squareD l c 30).2.length).2.toNat (pickD l (belowD l (onceD l (squareD l c 30).1 6).1 (squareD l c 30).2.length).1 big4).2)) j hj.1 hj.2
        have hls : (((squareD l c 30).2.set (belowD l (onceD l (squareD l c 30).1 6).1 (squareD l c 30).2.length).2.toNat (pickD l (belowD l (onceD l (squareD l c 30).1 6).1 (squareD l c 30).2.length).1 big4).2)).length = (squareD l c 30).2.length := by first | rfl | exact List.length_set ..
        have hzs := fun h => zer_step (((squareD l c 30).2.set (belowD l (onceD l (squareD l c 30).1 6).1 (squareD l c 30).2.length).2.toNat (pickD l (belowD l (onceD l (squareD l c 30).1 6).1 (squareD l c 30).2.length).1 big4).2)) j hj.1 h
        have hze := fun h => zer_end (((squareD l c 30).2.set (belowD l (onceD l (squareD l c 30).1 6).1 (squareD l c 30).2.length).2.toNat (pickD l (belowD l (onceD l (squareD l c 30).1 6).1 (squareD l c 30).2.length).1 big4).2)) j hj.1 h hj.2
        refine go (r := ?_); and_intros <;> intros <;> try exact True.intro
        all_goals first | exact hzs (by omega) | exact hze (by omega) | trace_state
      · rw [lev10_0 (lvB_1 hz h6) h4, List.length_set]
        refine FnP.of_body tabOk Tryz.func110 Tryz.ntmps110 rfl (by decide +kernel) (by simp) rfl rfl rfl fun G hp => ?_
        refine go (r := ?_); and_intros <;> intros <;> try exact True.intro
        all_goals first | exact tf h6 (by assumption) | exact (h4 (by assumption)).elim | exact h | exact h.2.1 | exact h.2.2 | exact hs1.2.1 | exact hs1.2.2 | exact h6o.2.1 | exact h6o.2.2 | exact hb.1.2.1 | exact hb.1.2.2 | exact hp.1.2.1 | exact hp.1.2.2 | decide | trace_state
    · by_cases h4 : (onceD l (onceD l (squareD l c 30).1 6).1 4).2 = true
      · rw [lev10_1 (lvB_0 hz h6) h4, tail3_len]
        refine FnP.of_body tabOk Tryz.func110 Tryz.ntmps110 rfl (by decide +kernel) (by simp) rfl rfl rfl fun G hp => ?_
        refine go (r := ?_); and_intros <;> intros <;> try exact True.intro
        all_goals first | exact (h6 (by assumption)).elim | exact tf h4 (by assumption) | exact h | exact h.2.1 | exact h.2.2 | exact hs1.2.1 | exact hs1.2.2 | exact h6o.2.1 | exact h6o.2.2 | decide | omega | skip
        refine WpA.loop (fun j : Nat => ⟨[(3, .own 1 0 0 (((squareD l c 30).2).length)), (4, I j)], [CurO v (onceD l (onceD l (squareD l c 30).1 6).1 4).1, XI (zerK (squareD l c 30).2 j)]⟩) (fun j => 3 ≤ j ∧ (j ≤ ((squareD l c 30).2).length ∨ j = 3)) (fun j => ((squareD l c 30).2).length - j) 3 ⟨Nat.le_refl 3, .inr rfl⟩ (go (r := ?_)) (fun j hj => ?_)
        · and_intros <;> first | exact True.intro | rfl | exact (zer_3 _).symm | exact zer_3 _ | trace_state
        have hln := zer_len ((squareD l c 30).2) j hj.1 hj.2
        have hls : ((squareD l c 30).2).length = ((squareD l c 30).2).length := by first | rfl | exact List.length_set ..
        have hzs := fun h => zer_step ((squareD l c 30).2) j hj.1 h
        have hze := fun h => zer_end ((squareD l c 30).2) j hj.1 h hj.2
        refine go (r := ?_); and_intros <;> intros <;> try exact True.intro
        all_goals first | exact hzs (by omega) | exact hze (by omega) | trace_state
      · rw [lev10_0 (lvB_0 hz h6) h4]
        refine FnP.of_body tabOk Tryz.func110 Tryz.ntmps110 rfl (by decide +kernel) (by simp) rfl rfl rfl fun G hp => ?_
        refine go (r := ?_); and_intros <;> intros <;> try exact True.intro
        all_goals first | exact (h6 (by assumption)).elim | exact (h4 (by assumption)).elim | exact h | exact h.2.1 | exact h.2.2 | exact hs1.2.1 | exact hs1.2.2 | exact h6o.2.1 | exact h6o.2.2 | decide | trace_state
  ⟩
section
attribute [local irreducible] lev10D
theorem lim_map (r : List Int) : (List.range r.length).map (fun i => lim3 (r.getD i 0)) = r.map lim3 := by
  apply List.ext_getElem (by simp)
  intro i h1 h2
  simp at h1
  simp [h1]
theorem lev25_1 {l : List Int} {c : Cr} (h : (onceD l (lev10D l c).1 2).2 = true) : lev25D l c = ((onceD l (lev10D l c).1 2).1, (lev10D l c).2.map lim3) := by unfold lev25D; rw [if_pos h]
theorem lev25_0 {l : List Int} {c : Cr} (h : ¬ (onceD l (lev10D l c).1 2).2 = true) : lev25D l c = ((onceD l (lev10D l c).1 2).1, (lev10D l c).2) := by unfold lev25D; rw [if_neg h]
instance l25Levels_p : ConP 81 (∀ (v : Value) (l : List Int) (c : Cr), CrOk l c → Pn 81 v l c [] (lev25D l c).1 [XI (lev25D l c).2] (.own 1 0 0 (lev25D l c).2.length)) := ⟨fun v l c h => by
  have hs := lev10D_ok h
  have hs1 := hs.1
  have hs2 := hs.2
  by_cases h2 : (onceD l (lev10D l c).1 2).2 = true
  · rw [lev25_1 h2, List.length_map]
    refine FnP.of_body tabOk Tryz.func81 Tryz.ntmps81 rfl (by decide +kernel) (by simp) rfl rfl rfl fun G hp => ?_
    refine go (r := ?_); and_intros <;> intros <;> try exact True.intro
    all_goals first | exact tf h2 (by assumption) | exact h | exact h.2.1 | exact h.2.2 | exact hs1.2.1 | exact hs1.2.2 | decide | omega | skip
    refine WpA.loop (fun k : Nat => ⟨[(3, .own 1 0 0 (lev10D l c).2.length), (4, I k)], [CurO v (onceD l (lev10D l c).1 2).1, XI ((List.range k).map (fun i => lim3 ((lev10D l c).2.getD i 0)) ++ (lev10D l c).2.drop k)]⟩) (fun k => k ≤ (lev10D l c).2.length) (fun k => (lev10D l c).2.length - k) 0 (by omega) (go (r := ?_)) (fun k hk => ?_)
    · simp
    have hkl : ((List.range k).map (fun i => lim3 ((lev10D l c).2.getD i 0)) ++ (lev10D l c).2.drop k).length = (lev10D l c).2.length := by simp; omega
    have hms := mark_step (fun i => lim3 ((lev10D l c).2.getD i 0)) (lev10D l c).2 k
    have hgd : k < (lev10D l c).2.length → ((List.range k).map (fun i => lim3 ((lev10D l c).2.getD i 0)) ++ (lev10D l c).2.drop k).getD k 0 = (lev10D l c).2.getD k 0 := fun _ => by
      rw [List.getD_eq_getElem?_getD, List.getElem?_append_right (by simp), List.getElem?_drop]; simp
    refine go (r := ?_); and_intros <;> intros <;> try exact True.intro
    · rename_i hk1
      rw [Int.toNat_natCast, hgd (by omega)]; exact hms (by omega)
    · have ek : k = (lev10D l c).2.length := by omega
      rw [ek, lim_map, List.drop_length, List.append_nil]
  · rw [lev25_0 h2]
    refine FnP.of_body tabOk Tryz.func81 Tryz.ntmps81 rfl (by decide +kernel) (by simp) rfl rfl rfl fun G hp => ?_
    refine go (r := ?_); and_intros <;> intros <;> try exact True.intro
    all_goals first | exact (h2 (by assumption)).elim | exact h | exact h.2.1 | exact h.2.2 | exact hs1.2.1 | exact hs1.2.2 | decide | trace_state⟩
end
section
attribute [local irreducible] lev25D
end
end Go.Proofs.YtjhejgamjlokdaaGreat


namespace Go.Proofs.YtjhejgamjlokdaaGreat
open Go Go.Abs
attribute [local irreducible] WpA WpL Rnd Blk Abs.Seq Abs.Fin Abs.FinG FnC FnG Only
end Go.Proofs.YtjhejgamjlokdaaGreat


namespace Go.Proofs.YtjhejgamjlokdaaGreat
open Go Go.Abs
attribute [local irreducible] WpA WpL Rnd Blk Abs.Seq Abs.Fin Abs.FinG FnC FnG Only
end Go.Proofs.YtjhejgamjlokdaaGreat


namespace Go.Proofs.YtjhejgamjlokdaaGreat
open Go Go.Abs
attribute [local irreducible] WpA WpL Rnd Blk Abs.Seq Abs.Fin Abs.FinG FnC FnG Only
theorem symL_len7 (l : List Int) (m : Int) : (symL l m).length ≤ 48 := by
  unfold symL; split
  · exact bitsL_len _ _
  · simp
end Go.Proofs.YtjhejgamjlokdaaGreat


namespace Go.Abs
open Go
section
variable {P : Program} {n m : Nat} {G : Ctx} {md : Bool} {σ : St} {Q : Exit → St → Prop} {T : List (Nat × AV)} {O : List AObj}
theorem WpL.guardV {v0 : Value} {ops : Array Oper} {o : Oper} {l : List Oper} {j t d : Nat} {want : Bool} (hg : o.guard = some (j, want)) (hj : ((ops[j]?).bind (·.dst)) = some t) (htn : t < n)
    (ht : look σ.T t = .sc v0) (hne : v0 ≠ .bool want) (hd : o.dst = some d) (h : WpL P n m G md ops l ⟨(d, .any) :: σ.T, σ.O⟩ Q) : WpL P n m G md ops (o :: l) σ Q := fun a w hr => by
  have hv : a.tmps.getD t undef = v0 := hr.eval_sc (x := .tmp t) ht
  have hsz : a.tmps.size = n := by obtain ⟨_, _, _, h⟩ := hr; exact h.size
  have hv' : a.tmps[t]? = some v0 := by
    rw [Array.getD_eq_getD_getElem?] at hv
    rw [Array.getElem?_eq_getElem (by omega)] at hv ⊢
    simpa using hv
  have hw : Region.wanted o (yielded ops a.tmps) = false := by
    simp only [Region.wanted, hg, yielded, hj, Option.bind_some, hv']
    cases v0 <;> first | rfl | skip
    rename_i b
    cases b <;> cases want <;> first | rfl | exact absurd rfl hne
  have hrel : Rel n m G ⟨(d, .any) :: σ.T, σ.O⟩ (a.put o.dst undef) w := ?_
  · cases md with
    | false =>
      simp only
      unfold wpList
      rw [if_neg (by simp [hw])]
      exact h _ _ hrel
    | true =>
      simp only
      unfold wpStill
      rw [if_neg (by simp [hw])]
      exact h _ _ hrel
  obtain ⟨S, ι, F, hr⟩ := hr
  refine ⟨S, ι, F, by simpa [Act.put, hd] using hr.defers, by simp [Act.put, hd, hr.size], fun t' => ?_, hr.objs, hr.foot, hr.base, hr.stable, hr.keeps, hr.spots, hr.mle⟩
  by_cases he : d = t'
  · subst he; rw [look_cons_same]; exact .any .nil
  · rw [look_cons_other _ _ _ _ he]
    have := hr.tmps t'
    simpa [Act.put, hd, Array.getD_eq_getD_getElem?, Array.getElem?_setIfInBounds, he] using this
theorem WpL.openAny {ops : Array Oper} {l : List Oper} {t : Nat} (hx : look T t = .any) (h : ∀ v0, WpL P n m G md ops l ⟨(t, .sc v0) :: T, O⟩ Q) : WpL P n m G md ops l ⟨T, O⟩ Q := fun a w hr => by
  refine h (a.tmps.getD t undef) a w ?_
  obtain ⟨S, ι, F, hr⟩ := hr
  refine ⟨S, ι, F, hr.defers, hr.size, fun u => ?_, hr.objs, hr.foot, hr.base, hr.stable, hr.keeps, hr.spots, hr.mle⟩
  show VRel S w ι O (look ((t, .sc _) :: T) u) _ []
  by_cases he : t = u
  · subst he; rw [look_cons_same]; exact .sc .nil
  · rw [look_cons_other _ _ _ _ he]; exact hr.tmps u
end
end Go.Abs
