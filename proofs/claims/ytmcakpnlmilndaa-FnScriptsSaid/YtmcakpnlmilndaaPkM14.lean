/- Proved in this text: lemmas and contracts of functions that the claim uses (parts: Draw3, AbsXn, Draw4, Draw5, ScrL, Bridge, Read, Read2). No condition. -/
import Derived.Test.YtmcakpnlmilndaaPkM13
import Derived.Test.YtmcakpnlmilndaaPkM3
import Derived.Below
import Derived.ChangeArms
import Derived.Test.YtmcakpnlmilndaaPkM4

/- What is drawn out of a cursor: options. No condition. -/
namespace Go.Proofs.Ytmcakpnlmilndaa
open Go Go.Abs
set_option linter.unusedVariables false
set_option linter.unusedSimpArgs false
set_option maxRecDepth 100000
set_option maxHeartbeats 4000000
attribute [local irreducible] WpA WpL Rnd Blk Abs.Seq Abs.Fin Abs.FinG FnC FnG FnX FnP FinX Only
attribute [local irreducible] belowD onceD pickD modeD l8D l8AnyD

def modesD (l : List Int) : Nat → Cr × List Int → Cr × List Int
  | 0, s => s
  | n + 1, s => modesD l n ((modeD l s.1).1, s.2 ++ [(modeD l s.1).2])
def onesD (l : List Int) : Nat → Cr × List Bool → Cr × List Bool
  | 0, s => s
  | n + 1, s => onesD l n ((onceD l s.1 2).1, s.2 ++ [(onceD l s.1 2).2])
theorem modeD_ok {l : List Int} {c : Cr} (h : CrOk l c) : CrOk l (modeD l c).1 := by
  unfold modeD; exact (pickD_ok h (by decide)).1
theorem modesD_ok {l : List Int} : ∀ (n : Nat) (s : Cr × List Int), CrOk l s.1 → CrOk l (modesD l n s).1 ∧ (modesD l n s).2.length = s.2.length + n
  | 0, s, h => ⟨h, rfl⟩
  | n + 1, s, h => by
    have := modesD_ok n ((modeD l s.1).1, s.2 ++ [(modeD l s.1).2]) (modeD_ok h)
    exact ⟨this.1, by rw [modesD, this.2]; simp; omega⟩
theorem onesD_ok {l : List Int} : ∀ (n : Nat) (s : Cr × List Bool), CrOk l s.1 → CrOk l (onesD l n s).1 ∧ (onesD l n s).2.length = s.2.length + n
  | 0, s, h => ⟨h, rfl⟩
  | n + 1, s, h => by
    have := onesD_ok n ((onceD l s.1 2).1, s.2 ++ [(onceD l s.1 2).2]) (onceD_ok 2 h)
    exact ⟨this.1, by rw [onesD, this.2]; simp; omega⟩
structure Op6 where
  q : Int
  b : Bool
  d : Bool
  lens : List Int
  ms : List Int
  es : List Bool
abbrev quant7 : List Int := [0, 0, 6, 12, 24, 36, 51]
def optD (l : List Int) (c : Cr) : Cr × Op6 :=
  let q := pickD l c quant7
  let b := onceD l q.1 4
  let d := onceD l b.1 2
  let e := l8D l d.1
  let n := belowD l e.1 5
  let m := modesD l n.2.toNat (n.1, [])
  let k := belowD l m.1 4
  let s := onesD l k.2.toNat (k.1, [])
  (s.1, ⟨q.2, b.2, d.2, e.2, m.2, s.2⟩)
abbrev OpOwn (o : Op6) : AV := .agg [I o.q, B o.b, B o.d, .own 1 0 0 o.lens.length, .own 2 0 0 o.ms.length, .own 3 0 0 o.es.length]
instance l27Options_p : ConP 22 (∀ (v : Value) (l : List Int) (c : Cr), CrOk l c → Pn 22 v l c [] (optD l c).1 [XI (optD l c).2.lens, XI (optD l c).2.ms, ⟨bools (optD l c).2.es, 0, 1, some 4⟩] (OpOwn (optD l c).2)) := ⟨fun v l c h => by
  have hq := pickD_ok (xs := quant7) h (by decide)
  have hb := onceD_ok 4 hq.1
  have hd := onceD_ok 2 hb
  have h8 := l8D_ok hd
  have hn := belowD_ok 5 h8.1
  have hn0 := hn.2.1
  have hn1 := hn.2.2.1 (by decide)
  have hm := modesD_ok (l := l) (belowD l (l8D l (onceD l (onceD l (pickD l c quant7).1 4).1 2).1).1 5).2.toNat ((belowD l (l8D l (onceD l (onceD l (pickD l c quant7).1 4).1 2).1).1 5).1, []) hn.1
  have hm0 := hm.1
  have hm1 := hm.2
  have hk := belowD_ok 4 hm0
  have hk0 := hk.2.1
  have hk1 := hk.2.2.1 (by decide)
  have hs := onesD_ok (l := l) (belowD l (modesD l (belowD l (l8D l (onceD l (onceD l (pickD l c quant7).1 4).1 2).1).1 5).2.toNat ((belowD l (l8D l (onceD l (onceD l (pickD l c quant7).1 4).1 2).1).1 5).1, [])).1 4).2.toNat ((belowD l (modesD l (belowD l (l8D l (onceD l (onceD l (pickD l c quant7).1 4).1 2).1).1 5).2.toNat ((belowD l (l8D l (onceD l (onceD l (pickD l c quant7).1 4).1 2).1).1 5).1, [])).1 4).1, []) hk.1
  show Pn _ v l c [] _ [XI _, XI _, ⟨bools _, 0, 1, _⟩] (OpOwn _)
  unfold optD
  simp only
  generalize hS : onesD l _ _ = S at hs ⊢
  refine FnP.of_body tabOk Try.func22 Try.ntmps22 rfl (by decide +kernel) (by simp) rfl rfl rfl fun G hp => ?_
  refine go (r := ?_); and_intros <;> intros <;> try exact True.intro
  all_goals first | exact h.1 | exact h.2.1 | exact h.2.2 | exact hq.1.2.1 | exact hq.1.2.2 | exact hb.2.1 | exact hb.2.2 | exact hd.2.1 | exact hd.2.2 | exact h8.1.2.1 | exact h8.1.2.2 | decide | skip
  generalize hM : modesD l _ _ = M at *
  generalize (pickD l c quant7).2 = q0
  generalize (onceD l (onceD l (pickD l c quant7).1 4).1 2).2 = d0
  generalize (onceD l (pickD l c quant7).1 4).2 = b0
  generalize (l8D l (onceD l (onceD l (pickD l c quant7).1 4).1 2).1).2 = L0
  generalize belowD l (l8D l (onceD l (onceD l (pickD l c quant7).1 4).1 2).1).1 5 = n0 at *
  refine WpA.loop (fun x : Nat × Cr × List Int => ⟨[(0, .ptr 0 0 0), (2, .ptr 1 0 0), (3, .ptr 4 0 0), (4, I x.1)], [CurO v x.2.1, ⟨[I 0, B false, B false, .nilS, .nilS, .nilS], 0, 0, none⟩, XI quant7, XI L0, ⟨[I q0, B b0, B d0, .own 3 0 0 L0.length, .own 5 0 0 x.2.2.length, .nilS], 0, 0, none⟩, XI x.2.2]⟩) (fun x => CrOk l x.2.1 ∧ modesD l x.1 x.2 = M ∧ x.1 + x.2.2.length ≤ 5) (fun x => x.1) (n0.2.toNat, n0.1, []) ?_ ?_ ?_
  · exact ⟨hn.1, hM, by show _ + 0 ≤ _; omega⟩
  · have ez : ((n0.2.toNat : Nat) : Int) = n0.2 := by omega
    simp only [ez]
    exact Weak.nil1 (by first | (show 0 ≤ _; exact Nat.zero_le _) | (repeat' (first | exact RzT.nil | refine RzT.cons ?_ ?_ | exact Rz.nil | refine Rz.keep rfl rfl ?_ | refine Rz.own rfl rfl rfl rfl rfl (by first | rfl | omega | (simp; done)) ?_ | refine Rz.ptr rfl rfl rfl rfl ?_ | refine Rz.nilO rfl rfl rfl (by first | rfl | omega | (simp; done)) ?_ | refine Rz.agg ?_ ?_ | exact RzO.last rfl | (refine RzO.cons ?_ (.inr rfl) ?_) | exact Rz.same rfl (still_ints _) | exact Rz.same rfl (still_rows (fun _ => rfl) _)))) (by first | (show 0 ≤ _; exact Nat.zero_le _) | (repeat' (first | exact RzT.nil | refine RzT.cons ?_ ?_ | exact Rz.nil | refine Rz.keep rfl rfl ?_ | refine Rz.own rfl rfl rfl rfl rfl (by first | rfl | omega | (simp; done)) ?_ | refine Rz.ptr rfl rfl rfl rfl ?_ | refine Rz.nilO rfl rfl rfl (by first | rfl | omega | (simp; done)) ?_ | refine Rz.agg ?_ ?_ | exact RzO.last rfl | (refine RzO.cons ?_ (.inr rfl) ?_) | exact Rz.same rfl (still_ints _) | exact Rz.same rfl (still_rows (fun _ => rfl) _)))) (Nat.le_of_ble_eq_true rfl)
  · rintro ⟨k, c1, ms⟩ ⟨hc1, hM1, hlen⟩
    simp only at hc1 hM1 hlen ⊢
    have hmk := modeD_ok hc1
    by_cases hkz : k = 0
    · subst hkz
      have hMe : (c1, ms) = M := hM1
      subst hMe
      refine go (r := ?_); and_intros <;> intros <;> try exact True.intro
      all_goals first | exact hc1.2.1 | exact hc1.2.2 | skip
      generalize belowD l c1 4 = n1 at *
      refine WpA.loop (fun x : Nat × Cr × List Bool => ⟨[(0, .ptr 0 0 0), (2, .ptr 1 0 0), (3, .ptr 4 0 0), (5, I x.1)], [CurO v x.2.1, ⟨[I 0, B false, B false, .nilS, .nilS, .nilS], 0, 0, none⟩, XI quant7, XI L0, ⟨[I q0, B b0, B d0, .own 3 0 0 L0.length, .own 5 0 0 ms.length, .own 6 0 0 x.2.2.length], 0, 0, none⟩, XI ms, ⟨bools x.2.2, 0, 1, some 4⟩]⟩) (fun x => CrOk l x.2.1 ∧ onesD l x.1 x.2 = S ∧ x.1 + x.2.2.length ≤ 4) (fun x => x.1) (n1.2.toNat, n1.1, []) ?_ ?_ ?_
      · exact ⟨hk.1, hS, by show _ + 0 ≤ _; omega⟩
      · have ez : ((n1.2.toNat : Nat) : Int) = n1.2 := by omega
        simp only [ez]
        exact Weak.nil1 (by first | (show 0 ≤ _; exact Nat.zero_le _) | (repeat' (first | exact RzT.nil | refine RzT.cons ?_ ?_ | exact Rz.nil | refine Rz.keep rfl rfl ?_ | refine Rz.own rfl rfl rfl rfl rfl (by first | rfl | omega | (simp; done)) ?_ | refine Rz.ptr rfl rfl rfl rfl ?_ | refine Rz.nilO rfl rfl rfl (by first | rfl | omega | (simp; done)) ?_ | refine Rz.agg ?_ ?_ | exact RzO.last rfl | (refine RzO.cons ?_ (.inr rfl) ?_) | exact Rz.same rfl (still_ints _) | exact Rz.same rfl (still_rows (fun _ => rfl) _)))) (by first | (show 0 ≤ _; exact Nat.zero_le _) | (repeat' (first | exact RzT.nil | refine RzT.cons ?_ ?_ | exact Rz.nil | refine Rz.keep rfl rfl ?_ | refine Rz.own rfl rfl rfl rfl rfl (by first | rfl | omega | (simp; done)) ?_ | refine Rz.ptr rfl rfl rfl rfl ?_ | refine Rz.nilO rfl rfl rfl (by first | rfl | omega | (simp; done)) ?_ | refine Rz.agg ?_ ?_ | exact RzO.last rfl | (refine RzO.cons ?_ (.inr rfl) ?_) | exact Rz.same rfl (still_ints _) | exact Rz.same rfl (still_rows (fun _ => rfl) _)))) (Nat.le_of_ble_eq_true rfl)
      · rintro ⟨k, c2, es⟩ ⟨hc2, hS1, hlen2⟩
        simp only at hc2 hS1 hlen2 ⊢
        have hok := onceD_ok 2 hc2
        by_cases hkz : k = 0
        · subst hkz
          have hSe : (c2, es) = S := hS1
          subst hSe
          refine go (r := ?_); and_intros <;> intros <;> try exact True.intro
          exact FinG.oI [some 0, some 3, some 5, some 6] rfl (ResV.cell (ds := [_, _, _, _, _, _]) rfl rfl rfl rfl rfl) (.agg (.keep rfl rfl rfl (.keep rfl rfl rfl (.keep rfl rfl rfl (.own rfl rfl rfl rfl (.own rfl rfl rfl rfl (.own rfl rfl rfl rfl .nil)))))) .nil) (.obj rfl rfl rfl rfl rfl (.inr rfl) (.obj rfl rfl (still_ints _) rfl rfl (.inr rfl) (.obj rfl rfl (still_ints _) rfl rfl (.inr rfl) (.obj rfl rfl (still_bools _) rfl rfl (.inr rfl) .nil)))) rfl rfl
        · have hE : onesD l (k - 1) ((onceD l c2 2).1, es ++ [(onceD l c2 2).2]) = S := by
            obtain ⟨j, rfl⟩ : ∃ j, k = j + 1 := ⟨k - 1, by omega⟩
            exact hS1
          refine goR (r := ?_); and_intros <;> intros <;> try exact True.intro
          · apply WpA.regionQF (O := []) (Or := [CurO v c2, ⟨[I 0, B false, B false, .nilS, .nilS, .nilS], 0, 0, none⟩, XI quant7, XI L0, ⟨[I q0, B b0, B d0, .own 3 0 0 L0.length, .own 5 0 0 ms.length, .own 6 0 0 es.length], 0, 0, none⟩, XI ms, ⟨bools es, 0, 1, some 4⟩]) (O1 := [CurO v (onceD l c2 2).1, ⟨[I 0, B false, B false, .nilS, .nilS, .nilS], 0, 0, none⟩, XI quant7, XI L0, ⟨[I q0, B b0, B d0, .own 3 0 0 L0.length, .own 5 0 0 ms.length, .own 6 0 0 es.length], 0, 0, none⟩, XI ms, ⟨bools (es ++ [(onceD l c2 2).2]), 1, 1, some 4⟩, ⟨bools [(onceD l c2 2).2], 1, 1, some 4⟩, deadO]) 7 1 [4] rfl mixed (by decide +kernel)
            · exact rfl
            · apply HeadQ.consF .none rfl
              · exact rfl
              · intro Tv Ov hc hp hd hk
                obtain ⟨x0, x1, x2, x3, R, rfl⟩ := split5 (hk 4 rfl)
                exact in1
              · exact rfl
              · exact rfl
              apply HeadQ.consF .none rfl
              · exact rfl
              · intro Tv Ov hc hp hd hk
                obtain ⟨x0, x1, x2, x3, R, rfl⟩ := split5 (hk 4 rfl)
                exact in1
              · exact rfl
              · exact rfl
              apply HeadQ.consF .none rfl
              · exact rfl
              · exact in1
              · exact rfl
              · exact rfl
              apply HeadQ.consF (V := B (onceD l c2 2).2) (.step 0 (CurO v (onceD l c2 2).1)) rfl
              · exact rfl
              · intro Tv Ov hc hp' hd hk
                obtain ⟨R, rfl⟩ := split1 (hp' 0 _ rfl)
                refine K.call ?_
                refine K.conP (fun hcon => ?_)
                refine WpL.callP1 (hcon v l c2 2 hc2) hp handA handOA rfl (.cons rfl (.sc (.sc (.sc .nil))) .nil) (by decide) ?_
                exact WpL.nil (Only.mk rfl)
              · exact rfl
              · exact rfl
              apply HeadQ.consF (V := .own 7 1 0 1) (.put 7 (⟨bools [(onceD l c2 2).2], 1, 1, some 4⟩)) rfl
              · exact rfl
              · intro Tv Ov hc hp hd hk
                refine WpL.litF (cs := bools [(onceD l c2 2).2]) tabOk rfl rfl rfl rfl (by decide) (by rw [nid_len, Nat.zero_add]) (by decide) ?_
                apply WpL.putNil (p := 7)
                · exact hp 7 _ rfl
                · exact Nat.le_of_ble_eq_true rfl
                · exact rfl
                · first | exact still_ints _ | exact still_rows (fun _ => rfl) _ | rfl
              · exact rfl
              · exact rfl
              apply HeadQ.consF (V := .own 6 1 0 (es.length + 1)) (.step 6 ⟨bools (es ++ [(onceD l c2 2).2]), 1, 1, some 4⟩) rfl
              · exact rfl
              · intro Tv Ov hc hp hd hk
                refine WpL.appBools tabOk rfl rfl (fill_at (O := []) (hp 6 _ rfl)) (Nat.le_of_ble_eq_true rfl) rfl (srcB_own (fill_at (O := []) (hd 4 _ 7 _ (by decide) rfl rfl)) rfl) rfl rfl (by omega) (by decide) ?_
                exact WpL.nil (Only.mk (congrArg (St.mk _) (step_eq (O := []) Ov (p := 6) _)))
              · exact rfl
              · exact rfl
              apply HeadQ.consF .none rfl
              · exact rfl
              · intro Tv Ov hc hp hd hk
                obtain ⟨x0, x1, x2, x3, R, rfl⟩ := split5 (hk 4 rfl)
                exact in1
              · exact rfl
              · exact rfl
              exact HeadQ.nil
            · exact rfl
            · exact rfl
            · exact rfl
            · exact rfl
            · exact rfl
            · exact rfl
            · exact rfl
            refine go (r := ?_); and_intros <;> intros <;> try exact True.intro
            have e1 : ((k - 1 : Nat) : Int) = (k : Int) - 1 := by omega
            have e2 : (es ++ [(onceD l c2 2).2]).length = es.length + 1 := by simp
            refine Rnd.go (k - 1, (onceD l c2 2).1, es ++ [(onceD l c2 2).2]) ?_ ?_ ?_
            · exact ⟨hok, hE, by simp only [e2]; omega⟩
            · show k - 1 < k; omega
            · simp only [e1, e2]
              exact Weak.mk (.cons (.ptr rfl rfl rfl rfl .nil) (.cons (.ptr rfl rfl rfl rfl .nil) (.cons (.ptr rfl rfl rfl rfl .nil) (.cons (.keep rfl rfl .nil) .nil)))) (.cons (Re.same rfl rfl) (.inr rfl) (.cons (Re.same rfl rfl) (.inr rfl) (.cons (Re.same rfl rfl) (.inr rfl) (.cons (Re.same rfl (still_ints _)) (.inr rfl) (.cons (.keep rfl rfl (.keep rfl rfl (.keep rfl rfl (.own rfl rfl rfl rfl rfl rfl (.own rfl rfl rfl rfl rfl rfl (.own rfl rfl rfl rfl rfl rfl .nil)))))) (.inr rfl) (.cons (Re.same rfl (still_ints _)) (.inr rfl) (.cons (Re.same rfl (still_bools _)) (.inr rfl) .nil))))))) (Nat.le_of_ble_eq_true rfl)
    · have hE : modesD l (k - 1) ((modeD l c1).1, ms ++ [(modeD l c1).2]) = M := by
        obtain ⟨j, rfl⟩ : ∃ j, k = j + 1 := ⟨k - 1, by omega⟩
        exact hM1
      refine goR (r := ?_); and_intros <;> intros <;> try exact True.intro
      · apply WpA.regionQF (O := []) (Or := [CurO v c1, ⟨[I 0, B false, B false, .nilS, .nilS, .nilS], 0, 0, none⟩, XI quant7, XI L0, ⟨[I q0, B b0, B d0, .own 3 0 0 L0.length, .own 5 0 0 ms.length, .nilS], 0, 0, none⟩, XI ms]) (O1 := [CurO v (modeD l c1).1, ⟨[I 0, B false, B false, .nilS, .nilS, .nilS], 0, 0, none⟩, XI quant7, XI L0, ⟨[I q0, B b0, B d0, .own 3 0 0 L0.length, .own 5 0 0 ms.length, .nilS], 0, 0, none⟩, ⟨ints (ms ++ [(modeD l c1).2]), 1, 1, some 3⟩, ⟨ints [(modeD l c1).2], 1, 1, some 3⟩, deadO]) 7 1 [4] rfl mixed (by decide +kernel)
        · exact rfl
        · apply HeadQ.consF .none rfl
          · exact rfl
          · intro Tv Ov hc hp hd hk
            obtain ⟨x0, x1, x2, x3, R, rfl⟩ := split5 (hk 4 rfl)
            exact in1
          · exact rfl
          · exact rfl
          apply HeadQ.consF .none rfl
          · exact rfl
          · intro Tv Ov hc hp hd hk
            obtain ⟨x0, x1, x2, x3, R, rfl⟩ := split5 (hk 4 rfl)
            exact in1
          · exact rfl
          · exact rfl
          apply HeadQ.consF .none rfl
          · exact rfl
          · exact in1
          · exact rfl
          · exact rfl
          apply HeadQ.consF (V := I (modeD l c1).2) (.step 0 (CurO v (modeD l c1).1)) rfl
          · exact rfl
          · intro Tv Ov hc hp' hd hk
            obtain ⟨R, rfl⟩ := split1 (hp' 0 _ rfl)
            refine K.call ?_
            refine K.conP (fun hcon => ?_)
            refine WpL.callP1 (hcon v l c1 hc1) hp handA handOA rfl (.cons rfl (.sc (.sc (.sc .nil))) .nil) (by decide) ?_
            exact WpL.nil (Only.mk rfl)
          · exact rfl
          · exact rfl
          apply HeadQ.consF (V := .own 6 1 0 1) (.put 6 (⟨ints [(modeD l c1).2], 1, 1, some 3⟩)) rfl
          · exact rfl
          · intro Tv Ov hc hp hd hk
            refine WpL.litInts tabOk rfl rfl rfl rfl rfl (by decide) (by rw [nid_len, Nat.zero_add]) (by decide) ?_
            apply WpL.putNil (p := 6)
            · exact hp 6 _ rfl
            · exact Nat.le_of_ble_eq_true rfl
            · exact rfl
            · first | exact still_ints _ | exact still_rows (fun _ => rfl) _ | rfl
          · exact rfl
          · exact rfl
          apply HeadQ.consF (V := .own 5 1 0 (ms.length + 1)) (.step 5 ⟨ints (ms ++ [(modeD l c1).2]), 1, 1, some 3⟩) rfl
          · exact rfl
          · intro Tv Ov hc hp hd hk
            refine WpL.appInts tabOk rfl rfl (fill_at (O := []) (hp 5 _ rfl)) (Nat.le_of_ble_eq_true rfl) rfl (srcB_own (fill_at (O := []) (hd 4 _ 6 _ (by decide) rfl rfl)) rfl) rfl rfl (by omega) (by decide) ?_
            exact WpL.nil (Only.mk (congrArg (St.mk _) (step_eq (O := []) Ov (p := 5) _)))
          · exact rfl
          · exact rfl
          apply HeadQ.consF .none rfl
          · exact rfl
          · intro Tv Ov hc hp hd hk
            obtain ⟨x0, x1, x2, x3, R, rfl⟩ := split5 (hk 4 rfl)
            exact in1
          · exact rfl
          · exact rfl
          exact HeadQ.nil
        · exact rfl
        · exact rfl
        · exact rfl
        · exact rfl
        · exact rfl
        · exact rfl
        · exact rfl
        refine go (r := ?_); and_intros <;> intros <;> try exact True.intro
        have e1 : ((k - 1 : Nat) : Int) = (k : Int) - 1 := by omega
        have e2 : (ms ++ [(modeD l c1).2]).length = ms.length + 1 := by simp
        refine Rnd.go (k - 1, (modeD l c1).1, ms ++ [(modeD l c1).2]) ?_ ?_ ?_
        · exact ⟨hmk, hE, by simp only [e2]; omega⟩
        · show k - 1 < k; omega
        · simp only [e1, e2]
          exact Weak.mk (.cons (.ptr rfl rfl rfl rfl .nil) (.cons (.ptr rfl rfl rfl rfl .nil) (.cons (.ptr rfl rfl rfl rfl .nil) (.cons (.keep rfl rfl .nil) .nil)))) (.cons (Re.same rfl rfl) (.inr rfl) (.cons (Re.same rfl rfl) (.inr rfl) (.cons (Re.same rfl rfl) (.inr rfl) (.cons (Re.same rfl (still_ints _)) (.inr rfl) (.cons (.keep rfl rfl (.keep rfl rfl (.keep rfl rfl (.own rfl rfl rfl rfl rfl rfl (.own rfl rfl rfl rfl rfl rfl (.keep rfl rfl .nil)))))) (.inr rfl) (.cons (Re.same rfl (still_ints _)) (.inr rfl) .nil)))))) (Nat.le_of_ble_eq_true rfl)⟩
end Go.Proofs.Ytmcakpnlmilndaa

/- Functions that return a pointer to the one thing they made; calls of them. No condition. -/
namespace Go.Abs
open Go
set_option linter.unusedVariables false
set_option linter.unusedSimpArgs false

/-- What stands for a value when its objects lie behind others. -/
structure Moves (k base : Nat) (V W : AV) : Prop where
  rel : ∀ {S S3 : Nat → Prop} {w : World} {ι ι3 : Nat → Spot} {O O3 : List AObj} {x : Value}, (∀ id, k ≤ id → ι3 (id - k + base) = ι id) → (∀ id ob, k ≤ id → O[id]? = some ob → O3[id - k + base]? = some ob) → VRel S w ι O V x [] → VRel S3 w ι3 O3 W x []
theorem Moves.ptr {k base id ep off : Nat} (h : k ≤ id) : Moves k base (.ptr id ep off) (.ptr (id - k + base) ep off) := by
  refine ⟨fun h1 h2 hv => ?_⟩
  cases hv with
  | ptr a b c r => cases r; exact .ptr (h2 _ _ h a) b (fun e => by rw [h1 _ h]; exact c e) .nil
section
variable {P : Program} {n m : Nat} {G : Ctx} {T : List (Nat × AV)} {O : List AObj} {Q : Exit → St → Prop} {ops : Array Oper} {l : List Oper} {tt : TypeId} {pos : String} {after : Array Edge} {tab : List (Nat × Ty)}
theorem callXm_rel {β : Type} {f : FuncId} {xs : List Operand} {As : List AV} {M : List AObj} {MX NX : β → List AObj} {rX rX' : β → AV} {C : β → Prop} {hs : List Nat} {pv : List Value} {pa : List AV} (hc : FnX P f As M pv pa β C MX NX rX) (hp : Pin G pv pa) (hh : Hand O hs (xs.map (av T)) As) (hM : HandO O hs M) (hnd : hs.Nodup) (hlenX : ∀ y, (MX y).length = M.length)
    (hszX : ∀ (y : β) (j : Nat) (a b : AObj), M[j]? = some a → (MX y)[j]? = some b → b.size = a.size) (hMX' : ∀ y, Out (MX y)) (hNX : ∀ y, Out (NX y)) (hreX : ∀ y, Moves M.length O.length (rX y) (rX' y)) {a : Act} {w : World} (hr : Rel n m G ⟨T, O⟩ a w) :
    Calls P f (xs.map a.eval).toArray w fun e w' => ∃ y, C y ∧ ∃ v, e = .returned v ∧ ∃ S ι F, RelAt n m G S ι F ⟨T, newO hs (MX y) 0 O ++ NX y⟩ a w' ∧ VRel S w' ι (newO hs (MX y) 0 O ++ NX y) (rX' y) v [] := by
  obtain ⟨S, ι, F, hr⟩ := hr
  obtain ⟨⟨fn, hf, hb, hnm⟩, hcall⟩ := hc
  obtain ⟨hlM, hatM⟩ := hM.at
  let S2 : Nat → Prop := fun b => b < w.heap.size ∧ ∀ id ∈ hs, b ∉ F id
  let ιM : Nat → Spot := fun j => match hs[j]? with | some id => ι id | none => none
  let FM : Nat → List Nat := fun j => match hs[j]? with | some id => F id | none => []
  have hιM : ∀ (j id : Nat), hs[j]? = some id → ιM j = ι id := fun j id h => by show (match hs[j]? with | some id => ι id | none => none) = _; rw [h]
  have hFM : ∀ (j id : Nat), hs[j]? = some id → FM j = F id := fun j id h => by show (match hs[j]? with | some id => F id | none => []) = _; rw [h]
  have hidl : ∀ (j id : Nat), hs[j]? = some id → id < O.length := fun j id h => by
    have hj : j < M.length := by rw [← hlM]; exact (List.getElem?_eq_some_iff.1 h).1
    obtain ⟨id', ob, e1, e2, _⟩ := hatM j _ (List.getElem?_eq_getElem hj)
    rw [h] at e1; cases e1; exact (List.getElem?_eq_some_iff.1 e2).1
  have hmem : ∀ id ∈ hs, ∃ j, j < M.length ∧ hs[j]? = some id := fun id h => by
    obtain ⟨j, hj, e⟩ := List.getElem_of_mem h
    exact ⟨j, by omega, by rw [List.getElem?_eq_getElem hj, e]⟩
  have hex : ∀ j, j < M.length → ∃ id, hs[j]? = some id := fun j hj => ⟨hs[j], List.getElem?_eq_getElem (by omega)⟩
  have hSS : ∀ b, S b → S2 b := fun b hb => ⟨hr.stable b hb, fun id hid hbf => by
    obtain ⟨j, hj, e⟩ := hmem id hid
    exact (hr.foot id (hidl j id e) b hbf).2.1 hb⟩
  have hOM : ORel S2 w ιM M FM := by
    refine ⟨fun j mb hj => ?_, fun j hj => ?_, fun i j hi hj hij b hb => ?_⟩
    · obtain ⟨id, ob, e1, e2, e3, e4, e5, e6, e7⟩ := hatM j mb hj
      rw [hιM j id e1, hFM j id e1]
      have ho := hr.objs.obj id ob e2
      unfold ObjAt at ho ⊢
      cases hs' : ι id with
      | none => rw [hs'] at ho; rw [← e3]; exact ho
      | some p =>
        obtain ⟨b, k⟩ := p
        rw [hs'] at ho
        obtain ⟨cur', t', fz', f2, q1, q2, q3, q4, q5, q6, q7⟩ := ho
        refine ⟨cur', t', fz', f2, q1, q2, q3, by rw [← e3]; exact q4, q5, fun e he => ?_, ?_⟩
        · rcases e7 with e7 | e7
          · rw [e7] at he; cases he
          · exact q6 e (by rw [← e7]; exact he)
        · rw [← e3]
          exact still_all (by rw [e3]; exact e4) q7 hSS (fun _ _ => rfl) (fun _ _ => rfl)
    · obtain ⟨id, e⟩ := hex j hj
      rw [hFM j id e]; exact hr.objs.nodup id (hidl j id e)
    · obtain ⟨id1, e1⟩ := hex i hi
      obtain ⟨id2, e2⟩ := hex j hj
      rw [hFM i id1 e1] at hb; rw [hFM j id2 e2]
      exact hr.objs.apart id1 id2 (hidl i id1 e1) (hidl j id2 e2) (fun e => hij (nodup_get hnd e1 (e ▸ e2))) b hb
  have hl := hr.evals xs
  obtain ⟨f', hl2, hf'⟩ := hh.rel (S2 := S2) (ιM := ιM) hM hιM hSS hr.objs (fun b h1 h2 => ⟨h1, h2⟩) (fun id hid => by obtain ⟨j, hj, e⟩ := hmem id hid; exact hidl j id e) hl (by simp)
  have hf0 : f' = [] := List.eq_nil_iff_forall_not_mem.2 fun b hb => by simpa using hf' b hb
  subst hf0
  refine (hcall w S2 ιM FM (xs.map a.eval) (fun b h => h.1) hOM (fun j hj b hb => ?_) hl2 (hp.at hr hSS [] (fun _ => none))).mono fun e w' he => ?_
  · obtain ⟨id, e⟩ := hex j hj
    rw [hFM j id e] at hb
    exact ⟨fun h => h.2 id (List.mem_of_getElem? e) hb, (hr.foot id (hidl j id e) b hb).2.2⟩
  obtain ⟨y, hy, v, S', ι', F', rfl, hS1, hS2, hS3, hι', hO', hF', hv, hk⟩ := he
  refine ⟨y, hy, v, rfl, ?_⟩
  have hlen := hlenX y
  have hsz := hszX y
  have hM' := hMX' y
  have hN := hNX y
  have hre := hreX y
  generalize MX y = M' at hlen hsz hM' hO' hF' hv ⊢
  generalize NX y = N at hN hO' hF' hv ⊢
  generalize rX y = r at hre hv
  generalize rX' y = r' at hre ⊢
  have hold : ∀ b, b < w.heap.size → (∀ id ∈ hs, b ∉ F id) → w'.heap[b]? = w.heap[b]? := fun b hb hn => hk.block b hb (by
    rintro ⟨i, hi, hbf⟩
    obtain ⟨id, e⟩ := hex i hi
    rw [hFM i id e] at hbf
    exact hn id (List.mem_of_getElem? e) hbf)
  let S3 : Nat → Prop := fun b => S b ∨ (S' b ∧ w.heap.size ≤ b)
  let ι3 : Nat → Spot := fun i => if i < O.length then ι i else ι' (M.length + (i - O.length))
  let F3 : Nat → List Nat := fun i => if i < O.length then (match findN hs i 0 with | some j => F' j | none => F i) else F' (M.length + (i - O.length))
  let O3 := newO hs M' 0 O ++ N
  have hl3 : (newO hs M' 0 O).length = O.length := newO_len hs M' 0 O
  have hO3lt : ∀ i, i < O.length → O3[i]? = (O[i]?).map (newOb hs M' i) := fun i hi => by
    show (newO hs M' 0 O ++ N)[i]? = _
    rw [List.getElem?_append_left (by omega), newO_at, Nat.zero_add]
  have hO3ge : ∀ i, O.length ≤ i → O3[i]? = N[i - O.length]? := fun i hi => by
    show (newO hs M' 0 O ++ N)[i]? = _
    rw [List.getElem?_append_right (by omega), hl3]
  have hob : ∀ i ob, O[i]? = some ob → (newOb hs M' i ob).ep = ob.ep ∧ (newOb hs M' i ob).size = ob.size := fun i ob h => by
    unfold newOb
    cases hfd : findN hs i 0 with
    | none => exact ⟨rfl, rfl⟩
    | some j =>
      cases hmj : M'[j]? with
      | none => exact ⟨by simp [hmj], by simp [hmj]⟩
      | some mb =>
        obtain ⟨q, rfl, hq⟩ := findN_some hfd
        rw [Nat.zero_add] at hmj
        have hqm : q < M.length := by rw [← hlM]; exact (List.getElem?_eq_some_iff.1 hq).1
        obtain ⟨id', ob', e1, e2, _, _, _, e6, _⟩ := hatM q _ (List.getElem?_eq_getElem hqm)
        rw [hq] at e1; cases e1
        rw [h] at e2; cases e2
        simp only [Nat.zero_add, hmj, true_and]
        exact (hsz q _ _ (List.getElem?_eq_getElem hqm) hmj).trans e6
  have hlat : Later S w ι O S3 w' ι3 O3 := by
    refine ⟨fun b h => .inl h, fun b hb => hold b (hr.stable b hb) (hSS b hb).2, fun id ob h => ?_⟩
    have hlt : id < O.length := (List.getElem?_eq_some_iff.1 h).1
    obtain ⟨h1, h2⟩ := hob id ob h
    exact ⟨newOb hs M' id ob, by rw [hO3lt id hlt, h]; rfl, .inr ⟨h1, h2, by show (if _ then _ else _) = _; rw [if_pos hlt]⟩⟩
  have hF3f : ∀ (i j : Nat), i < O.length → findN hs i 0 = some j → F3 i = F' j := fun i j hi h => by show (if _ then _ else _) = _; rw [if_pos hi, h]
  have hF3n : ∀ (i : Nat), i < O.length → findN hs i 0 = none → F3 i = F i := fun i hi h => by show (if _ then _ else _) = _; rw [if_pos hi, h]
  have hF3g : ∀ (i : Nat), O.length ≤ i → F3 i = F' (M.length + (i - O.length)) := fun i hi => by show (if _ then _ else _) = _; rw [if_neg (by omega)]
  have hlMN : (M' ++ N).length = M.length + N.length := by rw [List.length_append, hlen]
  have hfind : ∀ (i j : Nat), findN hs i 0 = some j → j < M.length ∧ hs[j]? = some i := fun i j h => by
    obtain ⟨q, rfl, hq⟩ := findN_some h
    rw [Nat.zero_add]
    exact ⟨by rw [← hlM]; exact (List.getElem?_eq_some_iff.1 hq).1, hq⟩
  have hl3' : O3.length = O.length + N.length := by show (newO hs M' 0 O ++ N).length = _; rw [List.length_append, hl3]
  -- each place's blocks: where they come from
  have hsrc : ∀ k, k < (M' ++ N).length → ∀ b ∈ F' k, ((∃ id, id ∈ hs ∧ id < O.length ∧ b ∈ F id) ∨ w.heap.size ≤ b) ∧ ¬ S' b ∧ b < w'.heap.size := fun k hk' b hb => by
    obtain ⟨q1, q2, q3⟩ := hF' k hk' b hb
    refine ⟨?_, q2, q3⟩
    rcases q1 with ⟨i, hi, hbf⟩ | q1
    · obtain ⟨id, e⟩ := hex i hi
      rw [hFM i id e] at hbf
      exact .inl ⟨id, List.mem_of_getElem? e, hidl i id e, hbf⟩
    · exact .inr q1
  have hnoS : ∀ k, k < (M' ++ N).length → ∀ b ∈ F' k, (G.M0 b ∨ G.w0.heap.size ≤ b) ∧ ¬ S3 b ∧ b < w'.heap.size := fun k hk' b hb => by
    obtain ⟨q1, q2, q3⟩ := hsrc k hk' b hb
    rcases q1 with ⟨id, hid, hlt, hbf⟩ | q1
    · obtain ⟨p1, p2, p3⟩ := hr.foot id hlt b hbf
      refine ⟨p1, ?_, q3⟩
      rintro (h | ⟨h, _⟩)
      · exact p2 h
      · exact q2 h
    · refine ⟨.inr (by have := hr.keeps.size; omega), ?_, q3⟩
      rintro (h | ⟨h, _⟩)
      · have := hr.stable b h; omega
      · exact q2 h
  have hnotin : ∀ i, i < O.length → findN hs i 0 = none → ∀ b ∈ F i, w'.heap[b]? = w.heap[b]? := fun i hi h b hb => hold b (hr.foot i hi b hb).2.2 fun id hid hbf => by
    obtain ⟨j, hj, e⟩ := hmem id hid
    have hne : i ≠ id := by rintro rfl; exact findN_none h hid
    exact hr.objs.apart i id hi (hidl j id e) hne b hb hbf
  have hcells : ∀ {cs : List AV} {us g}, cs.all AV.still = true → Loc cs → LRel S' w' ι' (M' ++ N) cs us g → LRel S3 w' ι3 O3 cs us g := fun h1 h2 hl =>
    Loc.rel h2 (still_all (S' := S') h1 hl (fun _ h => h) (fun _ _ => rfl) (fun _ _ => rfl))
  refine ⟨S3, ι3, F3, ⟨hr.defers, hr.size, fun t => (hr.tmps t).mono hlat (by simp), ⟨fun i ob h => ?_, fun i h => ?_, fun i j hi hj hij b hb => ?_⟩, fun i h b hb => ?_, ⟨fun b hb => .inl (hr.base.1 b hb), ?_⟩, ?_, ?_, fun i h => ?_, ?_⟩, ?_⟩
  · have h : O3[i]? = some ob := h
    by_cases hlt : i < O.length
    · rw [hO3lt i hlt, List.getElem?_eq_getElem hlt] at h
      simp only [Option.map_some, Option.some.injEq] at h
      rw [show ι3 i = ι i from if_pos hlt]
      cases hfd : findN hs i 0 with
      | some j =>
        obtain ⟨hjm, hji⟩ := hfind i j hfd
        rw [hF3f i j hlt hfd]
        have hjM' : j < M'.length := by omega
        have hmb : M'[j]? = some M'[j] := List.getElem?_eq_getElem hjM'
        have h' : ob = ⟨M'[j].cells, (O[i]).ep, M'[j].size, M'[j].ty⟩ := by
          rw [← h]; unfold newOb; rw [hfd]; simp only [hmb]
        have ho := hO'.obj j M'[j] (by rw [List.getElem?_append_left hjM']; exact hmb)
        rw [hι' j hjm, hιM j i hji] at ho
        have hout := hM'.at hmb
        rw [h']
        unfold ObjAt at ho ⊢
        cases hs' : ι i with
        | none => rw [hs'] at ho; exact ho
        | some p =>
          obtain ⟨b, k⟩ := p
          rw [hs'] at ho
          obtain ⟨cur', t', fz', f2, q1, q2, q3, q4, q5, q6, q7⟩ := ho
          exact ⟨cur', t', fz', f2, q1, q2, q3, q4, q5, q6, hcells hout.1 hout.2 q7⟩
      | none =>
        rw [hF3n i hlt hfd]
        have h' : ob = O[i] := by rw [← h]; unfold newOb; rw [hfd]
        subst h'
        have ho := hr.objs.obj i O[i] (List.getElem?_eq_getElem hlt)
        have key := hnotin i hlt hfd
        unfold ObjAt at ho ⊢
        cases hs' : ι i with
        | none => rw [hs'] at ho; exact ho
        | some p =>
          obtain ⟨b, k⟩ := p
          rw [hs'] at ho
          obtain ⟨cur', t', fz', f2, q1, q2, q3, q4, q5, q6, q7⟩ := ho
          exact ⟨cur', t', fz', f2, q1, by rw [key b (by rw [q1]; simp)]; exact q2, q3, q4, q5, q6, q7.mono hlat fun b' hb' => key b' (by rw [q1]; simp [hb'])⟩
    · rw [hO3ge i (by omega)] at h
      rw [show ι3 i = ι' (M.length + (i - O.length)) from if_neg hlt, hF3g i (by omega)]
      have ho := hO'.obj (M.length + (i - O.length)) ob (by rw [List.getElem?_append_right (by omega), hlen, Nat.add_sub_cancel_left]; exact h)
      have hout := hN.at h
      unfold ObjAt at ho ⊢
      cases hs' : ι' (M.length + (i - O.length)) with
      | none => rw [hs'] at ho; exact ho
      | some p =>
        obtain ⟨b, k⟩ := p
        rw [hs'] at ho
        obtain ⟨cur', t', fz', f2, q1, q2, q3, q4, q5, q6, q7⟩ := ho
        exact ⟨cur', t', fz', f2, q1, q2, q3, q4, q5, q6, hcells hout.1 hout.2 q7⟩
  · have h : i < O3.length := h
    by_cases hlt : i < O.length
    · cases hfd : findN hs i 0 with
      | some j => rw [hF3f i j hlt hfd]; exact hO'.nodup j (by have := (hfind i j hfd).1; omega)
      | none => rw [hF3n i hlt hfd]; exact hr.objs.nodup i hlt
    · rw [hF3g i (by omega)]; exact hO'.nodup _ (by omega)
  · have hi : i < O3.length := hi
    have hj : j < O3.length := hj
    -- the place in the callee's list, if there is one
    have hpl : ∀ k, k < O3.length → (∃ q, q < (M' ++ N).length ∧ F3 k = F' q ∧ ((q < M.length ∧ hs[q]? = some k) ∨ (O.length ≤ k ∧ q = M.length + (k - O.length)))) ∨ (k < O.length ∧ findN hs k 0 = none ∧ F3 k = F k) := fun k hk' => by
      by_cases hlt : k < O.length
      · cases hfd : findN hs k 0 with
        | some q => obtain ⟨h1, h2⟩ := hfind k q hfd; exact .inl ⟨q, by omega, hF3f k q hlt hfd, .inl ⟨h1, h2⟩⟩
        | none => exact .inr ⟨hlt, rfl, hF3n k hlt hfd⟩
      · exact .inl ⟨_, by omega, hF3g k (by omega), .inr ⟨by omega, rfl⟩⟩
    have hcross : ∀ k q, k < O.length → findN hs k 0 = none → q < (M' ++ N).length → ∀ b ∈ F k, b ∉ F' q := fun k q hk' hn hq b hb hb' => by
      rcases (hsrc q hq b hb').1 with ⟨id, hid, hlt, hbf⟩ | h
      · have hne : k ≠ id := by rintro rfl; exact findN_none hn hid
        exact hr.objs.apart k id hk' hlt hne b hb hbf
      · have := (hr.foot k hk' b hb).2.2; omega
    rcases hpl i hi with ⟨q1, p1, p2, p3⟩ | ⟨p1, p2, p3⟩ <;> rcases hpl j hj with ⟨q2, r1, r2, r3⟩ | ⟨r1, r2, r3⟩
    · rw [p2] at hb; rw [r2]
      refine hO'.apart q1 q2 p1 r1 (fun e => ?_) b hb
      subst e
      rcases p3 with ⟨a1, a2⟩ | ⟨a1, a2⟩ <;> rcases r3 with ⟨b1, b2⟩ | ⟨b1, b2⟩
      · rw [a2] at b2; cases b2; exact hij rfl
      · omega
      · omega
      · omega
    · rw [p2] at hb; rw [r3]; intro hb'; exact hcross j q1 r1 r2 p1 b hb' hb
    · rw [p3] at hb; rw [r2]; exact hcross i q2 p1 p2 r1 b hb
    · rw [p3] at hb; rw [r3]; exact hr.objs.apart i j p1 r1 hij b hb
  · have h : i < O3.length := h
    by_cases hlt : i < O.length
    · cases hfd : findN hs i 0 with
      | some j => rw [hF3f i j hlt hfd] at hb; exact hnoS j (by have := (hfind i j hfd).1; omega) b hb
      | none =>
        rw [hF3n i hlt hfd] at hb
        obtain ⟨q1, q2, q3⟩ := hr.foot i hlt b hb
        refine ⟨q1, ?_, by have := hk.size; omega⟩
        rintro (h' | ⟨_, h'⟩)
        · exact q2 h'
        · omega
    · rw [hF3g i (by omega)] at hb; exact hnoS _ (by omega) b hb
  · rintro b (h' | ⟨_, h'⟩)
    · exact hr.base.2 b h'
    · exact .inr (by have := hr.keeps.size; omega)
  · rintro b (h' | ⟨h', _⟩)
    · have := hr.stable b h'; have := hk.size; omega
    · exact hS3 b h'
  · refine ⟨hk.os.trans hr.keeps.os, hk.tape.trans hr.keeps.tape, hk.output.trans hr.keeps.output, by have := hr.keeps.size; have := hk.size; omega, fun b hb hM0 => ?_⟩
    rw [hold b (by have := hr.keeps.size; omega) fun id hid hbf => ?_]
    · exact hr.keeps.block b hb hM0
    · obtain ⟨j, hj, e⟩ := hmem id hid
      rcases (hr.foot id (hidl j id e) b hbf).1 with h | h
      · exact hM0 h
      · omega
  · have hm : m ≤ O.length := hr.mle
    rw [show ι3 i = ι i from if_pos (by omega)]; exact hr.spots i h
  · have hm : m ≤ O.length := hr.mle
    show m ≤ O3.length
    omega
  · refine hre.rel (S := S') (ι := ι') (O := M' ++ N) (fun id hid => ?_) (fun id ob hid h => ?_) hv
    · show (if _ then _ else _) = _
      rw [if_neg (by omega)]; congr 1; omega
    · show O3[id - M.length + O.length]? = some ob
      rw [hO3ge _ (by omega), Nat.add_sub_cancel]
      rw [List.getElem?_append_right (by omega), hlen] at h
      exact h


theorem FnP.of_new (hP : TabOk P tab) {f : FuncId} {fn : Func} {c : Code} {args : List AV} {pv : List Value} {pa : List AV} {k t sz : Nat} {cells : List AV} {ty : Option TypeId} (hf : P.funcs[f]? = some fn) (hnt : fn.ntmps = k) (hb : fn.body = some c) (hnm : (fn.name == "runtime.NumGoroutine") = false)
    (hal : args.length ≤ k) (hres : fn.results = #[.tmp t]) (hps : pa.all AV.still = true) (hst : cells.all AV.still = true) (h : ∀ G, Pin G pv pa → WpA P k 0 G c ⟨enumT 0 args, []⟩ (fun e σ => endB e = true ∧ ∃ id ep ob, look σ.T t = .ptr id ep 0 ∧ σ.O[id]? = some ob ∧ ob.ep = ep ∧ ob.cells = cells ∧ ob.size = sz ∧ (ty = none ∨ ty = ob.ty))) :
    FnP P f args [] pv pa [] [⟨cells, 0, sz, ty⟩] (.ptr 0 0 0) := by
  refine ⟨⟨fn, hf, by rw [hb]; rfl, hnm⟩, fun w S ι F vs hS hO hF hl hpin => ?_⟩
  have hvl : vs.length = args.length := hl.len.symm
  refine calls_of_wp hf hb ?_
  have hrel : Rel k 0 ⟨w, S, fun b => ∃ i, i < ([] : List AObj).length ∧ b ∈ F i, ι⟩ ⟨enumT 0 args, []⟩ { tmps := vs.toArray ++ Array.replicate (fn.ntmps - vs.toArray.size) undef, defers := [] } w := by
    refine ⟨S, ι, F, rfl, ?_, fun t => ?_, hO, fun id hid b hb => ⟨.inl ⟨id, hid, hb⟩, hF id hid b hb⟩, ⟨fun _ h => h, fun _ h => .inl h⟩, hS, Keeps.refl _ _, fun _ _ => rfl, Nat.zero_le _⟩
    · simp [hnt]; omega
    · show VRel S w ι [] (look (enumT 0 args) t) _ []
      rw [look_enumT]
      simp only [Nat.zero_le, if_true, Nat.sub_zero]
      by_cases ht : t < args.length
      · obtain ⟨x, g, hx, hV, hg⟩ := hl.get (List.getElem?_eq_getElem ht)
        have hg0 : g = [] := List.eq_nil_iff_forall_not_mem.2 fun b hb => by simpa using hg b hb
        subst hg0
        have e1 : args.getD t .any = args[t] := by simp [ht]
        have e2 : (vs.toArray ++ Array.replicate (fn.ntmps - vs.toArray.size) undef).getD t undef = x := by
          have : t < vs.length := by omega
          rw [List.getElem?_eq_getElem this] at hx
          simp only [Option.some.injEq] at hx
          simp [Array.getD_eq_getD_getElem?, Array.getElem?_append, this, hx]
        rw [e1, e2]; exact hV
      · have e1 : args.getD t .any = .any := by simp [List.getElem?_eq_none (Nat.le_of_not_lt ht)]
        rw [e1]; exact .any .nil
  refine wp_mono (h ⟨w, S, fun b => ∃ i, i < ([] : List AObj).length ∧ b ∈ F i, ι⟩ ⟨hpin, hps, fun b hb => ⟨fun ⟨i, hi, hbf⟩ => (hF i hi b hbf).1 hb, hS b hb⟩⟩ _ _ hrel) fun e a' w' ⟨σ', hq, hr'⟩ => ?_
  obtain ⟨he, id, ep, ob, h1, h2, h3, h4, h5, h6⟩ := hq
  obtain ⟨S2, ι2, F2, hr⟩ := hr'
  have hrun : (results fn a'.tmps).run P w' = .ok (a'.tmps.getD t undef) w' := run_results1 hres (by simp [resSem])
  have ht := hr.tmps t
  rw [h1] at ht
  have hid : id < σ'.O.length := (List.getElem?_eq_some_iff.1 h2).1
  have hobj := hr.objs.obj id ob h2
  have hfin : ∃ v S' ι' F', a'.tmps.getD t undef = v ∧ (∀ b, S b → S' b) ∧ (∀ b, S' b → S b ∨ w.heap.size ≤ b) ∧ (∀ b, S' b → b < w'.heap.size) ∧ (∀ id, id < ([] : List AObj).length → ι' id = ι id) ∧ ORel S' w' ι' ([] ++ [⟨cells, 0, sz, ty⟩]) F' ∧
      (∀ id, id < ([] ++ [(⟨cells, 0, sz, ty⟩ : AObj)]).length → ∀ b ∈ F' id, ((∃ i, i < ([] : List AObj).length ∧ b ∈ F i) ∨ w.heap.size ≤ b) ∧ ¬ S' b ∧ b < w'.heap.size) ∧ VRel S' w' ι' ([] ++ [⟨cells, 0, sz, ty⟩]) (.ptr 0 0 0) v [] ∧ Keeps w (fun b => ∃ i, i < ([] : List AObj).length ∧ b ∈ F i) w' := by
    refine ⟨_, S2, fun j => if j = 0 then ι2 id else none, fun j => if j = 0 then F2 id else [], rfl, hr.base.1, hr.base.2, hr.stable, fun i hi => by simp at hi, ⟨fun i ob' hi => ?_, fun i hi => ?_, fun i j hi hj hij => ?_⟩, fun i hi b hb => ?_, ?_, hr.keeps⟩
    · cases i with
      | succ i => simp at hi
      | zero =>
        simp at hi; subst hi
        simp only [if_true]
        unfold ObjAt at hobj ⊢
        cases hs : ι2 id with
        | none => rw [hs, h4] at hobj; exact hobj
        | some p =>
          obtain ⟨b, kk⟩ := p
          rw [hs, h4] at hobj
          obtain ⟨cur', t', fz', f2, q1, q2, q3, q4, q5, q6, q7⟩ := hobj
          refine ⟨cur', t', fz', f2, q1, q2, q3, q4, q5, fun e he => ?_, still_all hst q7 (fun _ h => h) (fun _ _ => rfl) (fun _ _ => rfl)⟩
          rcases h6 with h6 | h6
          · rw [h6] at he; cases he
          · exact q6 e (by rw [← h6]; exact he)
    · have : i = 0 := by simpa using hi
      subst this; simpa using hr.objs.nodup id hid
    · have e1 : i = 0 := by simpa using hi
      have e2 : j = 0 := by simpa using hj
      omega
    · have e1 : i = 0 := by simpa using hi
      subst e1
      obtain ⟨q1, q2, q3⟩ := hr.foot id hid b (by simpa using hb)
      exact ⟨q1, q2, q3⟩
    · cases ht with
      | ptr a b c r => rw [h2] at a; cases a; exact .ptr (ob := ⟨cells, 0, sz, ty⟩) rfl (Nat.le_refl _) (fun _ => by simpa using c h3.symm) .nil
  obtain ⟨v, S', ι', F', hv, q⟩ := hfin
  cases e with
  | normal => exact ⟨hr.defers, _, hrun, (), trivial, _, S', ι', F', rfl, hv ▸ q⟩
  | ret => exact ⟨hr.defers, _, hrun, (), trivial, _, S', ι', F', rfl, hv ▸ q⟩
  | _ => cases he
theorem WpL.callN {f : FuncId} {xs : List Operand} {ats : Array TypeId} {As : List AV} {ob : AObj} {O2 : List AObj} {pv : List Value} {pa : List AV} {base d : Nat} (hc : FnP P f As [] pv pa [] [ob] (.ptr 0 0 0)) (hp : Pin G pv pa) (hh : HandM O [] [] (xs.map (av T)) As) (hN : Out [ob]) (hb : cnt O.length 0 = some base) (hO2 : newF [] [] 0 O [ob] = some O2) (hn : d < n)
    (h : WpL P n m G false ops l ⟨(d, .ptr base 0 0) :: T, O2⟩ Q) :
    WpL P n m G false ops ({ dst := some d, op := .call { callee := .value (.func f), args := xs.toArray, argTypes := ats }, type := tt, pos := pos, after := after, guard := none } :: l) ⟨T, O⟩ Q := by
  refine WpL.opX (β := Unit) (C := fun _ => True) (σX := fun _ => ⟨(d, .ptr base 0 0) :: T, O2⟩) rfl (fun a w hr => ?_) (fun _ _ => h)
  have e2 := cnt_eq hb; rw [Nat.add_zero] at e2; subst e2
  have hcl := callXm_rel hc hp hh .nil (by simp) (fun _ => rfl) (fun _ j x y hx hy => by simp at hx) (fun _ => .nil) (fun _ => hN) (rX' := fun _ => .ptr O.length 0 0) (fun _ => by have := Moves.ptr (k := 0) (base := O.length) (id := 0) (ep := 0) (off := 0) (Nat.le_refl 0); rw [Nat.sub_zero, Nat.zero_add] at this; exact this) hr
  obtain ⟨⟨fn, hf, hbd, hnm⟩, _⟩ := hc
  have hex : (execOp a.eval { dst := some d, op := .call { callee := .value (.func f), args := xs.toArray, argTypes := ats }, type := tt, pos := pos, after := after, guard := none }).run P w = .ok (.enter f (xs.map a.eval).toArray) w := by
    simp only [execOp, resolve, Act.eval, Deferred.ofValue, invoke, callFunc, Sem.run_bind, Sem.run_pure, Result.andThen_ok, program, Sem.run, hf, hnm, hbd, Bool.false_eq_true, if_false]
    simp
  unfold Oper.wp
  rw [hex]
  refine hcl.mono fun e' w' ⟨y, hy, v', he, S, ι, F, hr', hv⟩ => ?_
  subst he
  rw [newF_eq hO2] at hr' hv
  exact ⟨y, hy, S, ι, F, hr'.put hn hv⟩
/-- Where what is pinned is an argument of its own, it is as good as known. -/
theorem FnC.of_pin {f : FuncId} {A : AV} {args : List AV} {N : List AObj} {r : AV} (h : ∀ v, FnP P f (.sc v :: args) [] [v] [A] [] N r) : FnC P f (A :: args) N r := by
  refine ⟨(h undef).1, fun w S vs hS hl => ?_⟩
  obtain ⟨v, vs', f1, f2, e, hv, hr, hf⟩ := hl.uncons
  obtain ⟨rfl, rfl⟩ : f1 = [] ∧ f2 = [] := by simpa using hf
  subst e
  refine ((h v).2 w S (fun _ => none) (fun _ => []) (v :: vs') hS ⟨fun id ob h => by simp at h, fun id h => by simp at h, fun i j h => by simp at h⟩ (fun id h => by simp at h) (.sc hr) (by simpa using LRel.cons hv .nil)).mono fun e w' ⟨y, _, v2, S', ι', F', h1, h2, h3, h4, h5, h6, h7, h8, h9⟩ => ?_
  refine ⟨v2, S', ι', F', h1, h2, h3, h4, by simpa using h6, fun id hid b hb => ?_, by simpa using h8, ?_⟩
  · obtain ⟨q1, q2, q3⟩ := h7 id (by simpa using hid) b hb
    refine ⟨?_, q2, q3⟩
    rcases q1 with ⟨i, hi, _⟩ | q1
    · simp at hi
    · exact q1
  · have : (fun b => ∃ i, i < ([] : List AObj).length ∧ b ∈ ((fun _ => []) : Nat → List Nat) i) = fun _ => False := by
      funext b; simp
    rw [this] at h9; exact h9
end
end Go.Abs

/- What is drawn: cursors, options in any state, options with a place. No condition. -/
namespace Go.Proofs.Ytmcakpnlmilndaa
open Go Go.Abs
set_option linter.unusedVariables false
set_option linter.unusedSimpArgs false
set_option maxRecDepth 100000
set_option maxHeartbeats 4000000
attribute [local irreducible] WpA WpL Rnd Blk Abs.Seq Abs.Fin Abs.FinG FnC FnG FnX FnP FinX Only
attribute [local irreducible] belowD onceD pickD modeD l8D l8AnyD optD

def seedS (k x : Int) : Int := IntKind.i64.wrap ((BitVec.ofInt IntKind.i64.bits (IntKind.i64.wrap (IntKind.i64.wrap (k * 131 + IntKind.i64.wrap x) + 7)) &&& BitVec.ofInt IntKind.i64.bits 1073741823).toNat : Nat)
def seedD (l : List Int) (i : Nat) : Int := (l.take i).foldl seedS (10101 + l.length)
theorem and30 (y : Int) : 0 ≤ IntKind.i64.wrap ((BitVec.ofInt IntKind.i64.bits y &&& BitVec.ofInt IntKind.i64.bits 1073741823).toNat : Nat) ∧ IntKind.i64.wrap ((BitVec.ofInt IntKind.i64.bits y &&& BitVec.ofInt IntKind.i64.bits 1073741823).toNat : Nat) ≤ 1073741823 := by
  have h : (BitVec.ofInt IntKind.i64.bits y &&& BitVec.ofInt IntKind.i64.bits 1073741823).toNat ≤ 1073741823 := by
    rw [BitVec.toNat_and]
    exact Nat.le_trans Nat.and_le_right (by decide)
  rw [IntWalk.i64_in _ (by omega)]
  omega
theorem seedD_succ {l : List Int} {i : Nat} (h : i < l.length) : seedD l (i + 1) = seedS (seedD l i) (l.getD i 0) := by
  unfold seedD; rw [List.take_succ_eq_append_getElem h, List.foldl_append]; simp [h]
theorem seedD_bd {l : List Int} (hl : l.length ≤ 1048576) : ∀ i, 0 ≤ seedD l i ∧ seedD l i ≤ 1073741823
  | 0 => by simp [seedD]; omega
  | i + 1 => by
    by_cases h : i < l.length
    · rw [seedD_succ h]; exact and30 _
    · have e : seedD l (i + 1) = seedD l i := by unfold seedD; rw [List.take_of_length_le (by omega), List.take_of_length_le (by omega)]
      rw [e]; exact seedD_bd hl i
abbrev newD (l : List Int) : Cr := (0, seedD l (min l.length 4000))
theorem pin_slice {G : Ctx} {v : Value} {l : List Int} (hp : Pin G [v] [CodA l]) : ∃ p q r, v = .slice p q r := by
  obtain ⟨a, c, e⟩ := (LRel.slice_len hp.rel).2.1 _ _ _ rfl
  exact ⟨_, _, _, e⟩
section
attribute [local irreducible] IntKind.wrap
theorem l1New_p (v : Value) (l : List Int) (hl : l.length ≤ 1048576) : FnP Try.prog 11 [.sc v] [] [v] [CodA l] [] [CurO v (newD l)] (.ptr 0 0 0) := by
  refine FnP.of_new (t := 2) tabOk Try.func11 Try.ntmps11 rfl (by decide +kernel) (by simp) rfl rfl rfl fun G hp => ?_
  refine go (r := ?_); and_intros <;> intros <;> try exact True.intro
  refine WpL.pin (d := 5) hp rfl ?_
  refine go (r := ?_); and_intros <;> intros <;> try exact True.intro
  refine WpA.loop (fun i : Nat => ⟨[(0, .sc v), (3, I (seedD l i)), (4, I i)], []⟩) (fun i => i ≤ min l.length 4000) (fun i => min l.length 4000 - i) 0 (Nat.zero_le _) (go (r := ?_)) (fun i hi => ?_)
  · exact trivial
  · have hb := seedD_bd hl i
    have hs := fun h => seedD_succ (l := l) (i := i) h
    unfold seedS at hs
    refine go (r := ?_); and_intros <;> intros <;> try exact True.intro
    refine WpL.pin (d := 9) hp rfl ?_
    refine go (r := ?_); and_intros <;> intros <;> try exact True.intro
    · refine WpL.pin (d := 20) hp rfl ?_
      have hs := hs (by omega)
      refine go (r := ?_); and_intros <;> intros <;> try exact True.intro
      all_goals first | exact hs.symm | trace_state
    all_goals obtain ⟨p, q, r, rfl⟩ := pin_slice hp
    · have e : i = min l.length 4000 := by omega
      subst e
      refine go (r := ?_); and_intros <;> intros <;> try exact True.intro
      exact ⟨_, _, _, rfl, rfl, rfl, rfl, rfl, .inl rfl⟩
    · have e : i = min l.length 4000 := by omega
      subst e
      refine go (r := ?_); and_intros <;> intros <;> try exact True.intro
      exact ⟨_, _, _, rfl, rfl, rfl, rfl, rfl, .inl rfl⟩
end
def anyD (l : List Int) (c : Cr) : Cr × Op6 :=
  let o := optD l c
  let s := belowD l o.1 14
  if s.2 = 0 then
    let p := pickD l s.1 [-1, 52]
    (p.1, { o.2 with q := p.2 })
  else if s.2 = 1 then
    let y := l8AnyD l s.1
    (y.1, { o.2 with lens := y.2 })
  else (s.1, o.2)
theorem anyD_0 {l : List Int} {c : Cr} (h : (belowD l (optD l c).1 14).2 = 0) : anyD l c = ((pickD l (belowD l (optD l c).1 14).1 [-1, 52]).1, { (optD l c).2 with q := (pickD l (belowD l (optD l c).1 14).1 [-1, 52]).2 }) := by
  unfold anyD; simp only; rw [if_pos h]
theorem anyD_1 {l : List Int} {c : Cr} (h : (belowD l (optD l c).1 14).2 = 1) : anyD l c = ((l8AnyD l (belowD l (optD l c).1 14).1).1, { (optD l c).2 with lens := (l8AnyD l (belowD l (optD l c).1 14).1).2 }) := by
  unfold anyD; simp only; rw [if_neg (by omega), if_pos h]
theorem anyD_2 {l : List Int} {c : Cr} (h : (belowD l (optD l c).1 14).2 ≠ 0) (h1 : (belowD l (optD l c).1 14).2 ≠ 1) : anyD l c = ((belowD l (optD l c).1 14).1, (optD l c).2) := by
  unfold anyD; simp only; rw [if_neg h, if_neg h1]
theorem optD_ok {l : List Int} {c : Cr} (h : CrOk l c) : CrOk l (optD l c).1 ∧ (optD l c).2.lens.length = 6 ∧ (optD l c).2.ms.length ≤ 4 := by
  have hq := pickD_ok (xs := quant7) h (by decide)
  have hb := onceD_ok 4 hq.1
  have hd := onceD_ok 2 hb
  have h8 := l8D_ok hd
  have hn := belowD_ok 5 h8.1
  have hn0 := hn.2.1
  have hn1 := hn.2.2.1 (by decide)
  have hm := modesD_ok (l := l) (belowD l (l8D l (onceD l (onceD l (pickD l c quant7).1 4).1 2).1).1 5).2.toNat ((belowD l (l8D l (onceD l (onceD l (pickD l c quant7).1 4).1 2).1).1 5).1, []) hn.1
  have hk := belowD_ok 4 hm.1
  have hs := onesD_ok (l := l) (belowD l (modesD l (belowD l (l8D l (onceD l (onceD l (pickD l c quant7).1 4).1 2).1).1 5).2.toNat ((belowD l (l8D l (onceD l (onceD l (pickD l c quant7).1 4).1 2).1).1 5).1, [])).1 4).2.toNat ((belowD l (modesD l (belowD l (l8D l (onceD l (onceD l (pickD l c quant7).1 4).1 2).1).1 5).2.toNat ((belowD l (l8D l (onceD l (onceD l (pickD l c quant7).1 4).1 2).1).1 5).1, [])).1 4).1, []) hk.1
  unfold optD
  exact ⟨hs.1, h8.2, Nat.le_trans (Nat.le_of_eq hm.2) (by simp only [List.length_nil]; omega)⟩
theorem anyD_ok {l : List Int} {c : Cr} (h : CrOk l c) : CrOk l (anyD l c).1 ∧ (anyD l c).2.lens.length ≤ 6 ∧ (anyD l c).2.ms.length ≤ 4 := by
  have ho := optD_ok h
  have hs := belowD_ok 14 ho.1
  by_cases h0 : (belowD l (optD l c).1 14).2 = 0
  · rw [anyD_0 h0]; exact ⟨(pickD_ok hs.1 (by decide)).1, Nat.le_of_eq ho.2.1, ho.2.2⟩
  · by_cases h1 : (belowD l (optD l c).1 14).2 = 1
    · rw [anyD_1 h1]; exact ⟨(l8AnyD_ok hs.1).1, (l8AnyD_ok hs.1).2, ho.2.2⟩
    · rw [anyD_2 h0 h1]; exact ⟨hs.1, Nat.le_of_eq ho.2.1, ho.2.2⟩
instance l27Any_p : ConP 12 (∀ (v : Value) (l : List Int) (c : Cr), CrOk l c → Pn 12 v l c [] (anyD l c).1 [XI (anyD l c).2.lens, XI (anyD l c).2.ms, ⟨bools (anyD l c).2.es, 0, 1, some 4⟩] (OpOwn (anyD l c).2)) := ⟨fun v l c h => by
  have ho := optD_ok h
  have hs := belowD_ok 14 ho.1
  by_cases h0 : (belowD l (optD l c).1 14).2 = 0
  · rw [anyD_0 h0]
    refine FnP.of_body tabOk Try.func12 Try.ntmps12 rfl (by decide +kernel) (by simp) rfl rfl rfl fun G hp => ?_
    refine go (r := ?_); and_intros <;> intros <;> try exact True.intro
    all_goals first | exact hs.1 | exact hs.1.2.1 | exact hs.1.2.2 | exact ho.1.2.1 | exact ho.1.2.2 | exact h | exact h.2.1 | exact h.2.2 | decide | skip
    refine FinG.oI [some 0, some 2, some 3, some 4] rfl (ResV.cell (ds := [_, _, _, _, _, _]) rfl rfl rfl rfl rfl) (.agg (.keep rfl rfl rfl (.keep rfl rfl rfl (.keep rfl rfl rfl (.own rfl rfl rfl rfl (.own rfl rfl rfl rfl (.own rfl rfl rfl rfl .nil)))))) .nil) (.obj rfl rfl rfl rfl rfl (.inr rfl) (.obj rfl rfl (still_ints _) rfl rfl (.inr rfl) (.obj rfl rfl (still_ints _) rfl rfl (.inr rfl) (.obj rfl rfl (still_bools _) rfl rfl (.inr rfl) .nil)))) rfl rfl
  · by_cases h1 : (belowD l (optD l c).1 14).2 = 1
    · rw [anyD_1 h1]
      refine FnP.of_body tabOk Try.func12 Try.ntmps12 rfl (by decide +kernel) (by simp) rfl rfl rfl fun G hp => ?_
      refine go (r := ?_); and_intros <;> intros <;> try exact True.intro
      all_goals first | exact hs.1 | exact hs.1.2.1 | exact hs.1.2.2 | exact ho.1.2.1 | exact ho.1.2.2 | exact h | exact h.2.1 | exact h.2.2 | decide | skip
      refine FinG.oI [some 0, some 6, some 3, some 4] rfl (ResV.cell (ds := [_, _, _, _, _, _]) rfl rfl rfl rfl rfl) (.agg (.keep rfl rfl rfl (.keep rfl rfl rfl (.keep rfl rfl rfl (.own rfl rfl rfl rfl (.own rfl rfl rfl rfl (.own rfl rfl rfl rfl .nil)))))) .nil) (.obj rfl rfl rfl rfl rfl (.inr rfl) (.obj rfl rfl (still_ints _) rfl rfl (.inr rfl) (.obj rfl rfl (still_ints _) rfl rfl (.inr rfl) (.obj rfl rfl (still_bools _) rfl rfl (.inr rfl) .nil)))) rfl rfl
    · rw [anyD_2 h0 h1]
      refine FnP.of_body tabOk Try.func12 Try.ntmps12 rfl (by decide +kernel) (by simp) rfl rfl rfl fun G hp => ?_
      refine go (r := ?_); and_intros <;> intros <;> try exact True.intro
      all_goals first | exact hs.1 | exact hs.1.2.1 | exact hs.1.2.2 | exact ho.1.2.1 | exact ho.1.2.2 | exact h | exact h.2.1 | exact h.2.2 | decide | skip
      refine FinG.oI [some 0, some 2, some 3, some 4] rfl (ResV.cell (ds := [_, _, _, _, _, _]) rfl rfl rfl rfl rfl) (.agg (.keep rfl rfl rfl (.keep rfl rfl rfl (.keep rfl rfl rfl (.own rfl rfl rfl rfl (.own rfl rfl rfl rfl (.own rfl rfl rfl rfl .nil)))))) .nil) (.obj rfl rfl rfl rfl rfl (.inr rfl) (.obj rfl rfl (still_ints _) rfl rfl (.inr rfl) (.obj rfl rfl (still_ints _) rfl rfl (.inr rfl) (.obj rfl rfl (still_bools _) rfl rfl (.inr rfl) .nil)))) rfl rfl⟩
end Go.Proofs.Ytmcakpnlmilndaa

/- Options and a place, drawn; the law of modes. No condition. -/
namespace Go.Proofs.Ytmcakpnlmilndaa
open Go Go.Abs
set_option linter.unusedVariables false
set_option linter.unusedSimpArgs false
set_option maxRecDepth 100000
set_option maxHeartbeats 4000000
attribute [local irreducible] WpA WpL Rnd Blk Abs.Seq Abs.Fin Abs.FinG FnC FnG FnX FnP FinX Only
attribute [local irreducible] belowD onceD pickD modeD l8D l8AnyD optD anyD seedD

theorem newD_ok {l : List Int} (hl : l.length ≤ 1048576) : CrOk l (newD l) := ⟨hl, Int.le_refl 0, by show (0 : Int) ≤ _; omega⟩
def dmfD (l : List Int) : Op6 × Int := ((anyD l (newD l)).2, (belowD l (anyD l (newD l)).1 20).2 - 1)
theorem dmfD_ok {l : List Int} (hl : l.length ≤ 1048576) : (dmfD l).1.lens.length ≤ 6 ∧ (dmfD l).1.ms.length ≤ 4 ∧ -1 ≤ (dmfD l).2 ∧ (dmfD l).2 ≤ 18 := by
  have ha := anyD_ok (newD_ok hl)
  have hb := belowD_ok 20 ha.1
  have h1 := hb.2.1
  have h2 := hb.2.2.1 (by decide)
  refine ⟨ha.2.1, ha.2.2, ?_, ?_⟩ <;> simp only [dmfD] <;> omega
theorem DrawModeFor_p (v : Value) (l : List Int) (hl : l.length ≤ 1048576) : FnP Try.prog 5 [.sc v] [] [v] [CodA l] [] [XI (dmfD l).1.lens, XI (dmfD l).1.ms, ⟨bools (dmfD l).1.es, 0, 1, some 4⟩] (.tup [.agg [I (dmfD l).1.q, B (dmfD l).1.b, B (dmfD l).1.d, .own 0 0 0 (dmfD l).1.lens.length, .own 1 0 0 (dmfD l).1.ms.length, .own 2 0 0 (dmfD l).1.es.length], I (dmfD l).2]) := by
  have hn := newD_ok hl
  have ha := anyD_ok hn
  have hb := belowD_ok 20 ha.1
  have h1 := hb.2.1
  have h2 := hb.2.2.1 (by decide)
  unfold dmfD
  refine FnP.of_body tabOk Try.func5 Try.ntmps5 rfl (by decide +kernel) (by simp) rfl rfl rfl fun G hp => ?_
  refine go (r := ?_); and_intros <;> intros <;> try exact True.intro
  refine K.call ?_
  refine WpL.callN (l1New_p v l hl) hp handA (.cons rfl (.sc (.sc (.sc .nil))) .nil) rfl rfl (by decide) ?_
  refine go (r := ?_); and_intros <;> intros <;> try exact True.intro
  all_goals first | exact hl | exact hn.2.1 | exact hn.2.2 | exact ha.1.2.1 | exact ha.1.2.2 | skip
  exact FinG.tI [some 2, some 3, some 4] rfl (ResV.cell (ds := [_, _, _, _, _, _]) rfl rfl rfl rfl rfl) (ResV.tmp rfl) (.tup (.agg (.keep rfl rfl rfl (.keep rfl rfl rfl (.keep rfl rfl rfl (.own rfl rfl rfl rfl (.own rfl rfl rfl rfl (.own rfl rfl rfl rfl .nil)))))) (.keep rfl rfl rfl .nil)) .nil) (.obj rfl rfl (still_ints _) rfl rfl (.inr rfl) (.obj rfl rfl (still_ints _) rfl rfl (.inr rfl) (.obj rfl rfl (still_bools _) rfl rfl (.inr rfl) .nil))) rfl rfl
instance DrawModeFor_c : Con 5 (∀ l : List Int, l.length ≤ 1048576 → Fn 5 [CodA l] [XI (dmfD l).1.lens, XI (dmfD l).1.ms, ⟨bools (dmfD l).1.es, 0, 1, some 4⟩] (.tup [.agg [I (dmfD l).1.q, B (dmfD l).1.b, B (dmfD l).1.d, .own 0 0 0 (dmfD l).1.lens.length, .own 1 0 0 (dmfD l).1.ms.length, .own 2 0 0 (dmfD l).1.es.length], I (dmfD l).2])) := ⟨fun l hl => FnC.of_pin fun v => DrawModeFor_p v l hl⟩
end Go.Proofs.Ytmcakpnlmilndaa

/- The law FnScripts. No condition. -/
namespace Go.Proofs.Ytmcakpnlmilndaa
open Go Go.Abs
set_option linter.unusedVariables false
set_option linter.unusedSimpArgs false
set_option maxRecDepth 100000
set_option maxHeartbeats 4000000
attribute [local irreducible] WpA WpL Rnd Blk Abs.Seq Abs.Fin Abs.FinG FnC FnG FnX FnP FinX Only
attribute [local irreducible] dmfD modeF symL

theorem modeF_has {q : Int} {l ms : List Int} {k : Int} (h : OptOk q l ∧ 0 ≤ k) : HasC l (modeF q l ms k) := by
  unfold modeF
  rw [if_pos h]
  have hf := firstM_has h.1.2
  have h1 := (has_code h.1.2 hf.1).2 hf.2
  split
  · rename_i h2; exact h2.2
  · exact h1
theorem modeF_no {q : Int} {l ms : List Int} {k : Int} (h : ¬ (OptOk q l ∧ 0 ≤ k)) : modeF q l ms k = -1 := by
  unfold modeF; rw [if_neg h]
theorem modeF_more {q : Int} {l ms : List Int} {k : Int} (h : 0 ≤ k) : modeF q l ms (k + ms.length) = modeF q l ms k := by
  have e : (k + (ms.length : Int)) % (ms.length : Int) = k % ms.length := Int.add_emod_right _ _
  have e2 : (OptOk q l ∧ 0 ≤ k + (ms.length : Int)) ↔ (OptOk q l ∧ 0 ≤ k) := by
    constructor
    · exact fun h1 => ⟨h1.1, h⟩
    · exact fun h1 => ⟨h1.1, by omega⟩
  unfold modeF
  rw [e]
  by_cases h3 : OptOk q l ∧ 0 ≤ k
  · rw [if_pos h3, if_pos (e2.2 h3)]
  · rw [if_neg h3, if_neg (fun h => h3 (e2.1 h))]
instance big_c : Con 4 (∀ l : List Int, l.length ≤ 9223372036854775807 → Fn 4 [CodA l] [] (B (decide ((l.length : Int) > 1048576)))) := ⟨fun l hl => by
  refine FnC.of_body tabOk Try.func4 Try.ntmps4 rfl (by decide +kernel) (by simp) fun G => ?_
  refine go (r := ?_); and_intros <;> intros <;> try exact True.intro⟩
theorem FnScripts_c (l : List Int) (hl : l.length ≤ 9223372036854775807) : Fn 3 [CodA l] [] (B true) := by
  by_cases hb : (l.length : Int) > 1048576
  · refine FnC.of_body tabOk Try.func3 Try.ntmps3 rfl (by decide +kernel) (by simp) fun G => ?_
    refine go (r := ?_); and_intros <;> intros <;> try exact True.intro
  · have hl2 : l.length ≤ 1048576 := by omega
    have hd := dmfD_ok hl2
    have h1 := hd.1
    have h2 := hd.2.1
    have h3 := hd.2.2.1
    have h4 := hd.2.2.2
    by_cases hk : OptOk (dmfD l).1.q (dmfD l).1.lens ∧ 0 ≤ (dmfD l).2
    · have hh := modeF_has (ms := (dmfD l).1.ms) hk
      have hp := (symL_pos (dmfD l).1.lens (modeF (dmfD l).1.q (dmfD l).1.lens (dmfD l).1.ms (dmfD l).2)).2 hh
      have hm := modeF_more (q := (dmfD l).1.q) (l := (dmfD l).1.lens) (ms := (dmfD l).1.ms) hk.2
      have hk1 := hk.1
      have hk2 := hk.2
      refine FnC.of_body tabOk Try.func3 Try.ntmps3 rfl (by decide +kernel) (by simp) fun G => ?_
      refine go (r := ?_); and_intros <;> intros <;> try exact True.intro
    · have hm := modeF_no (ms := (dmfD l).1.ms) hk
      have hcase : ¬ OptOk (dmfD l).1.q (dmfD l).1.lens ∨ (OptOk (dmfD l).1.q (dmfD l).1.lens ∧ (dmfD l).2 < 0) := by
        by_cases ho : OptOk (dmfD l).1.q (dmfD l).1.lens
        · by_cases h0 : 0 ≤ (dmfD l).2
          · exact absurd ⟨ho, h0⟩ hk
          · exact .inr ⟨ho, by omega⟩
        · exact .inl ho
      rcases hcase with hcase | ⟨ho, hcase⟩
      · refine FnC.of_body tabOk Try.func3 Try.ntmps3 rfl (by decide +kernel) (by simp) fun G => ?_
        refine goR (r := ?_); and_intros <;> intros <;> try exact True.intro
        simp only [hm]
        apply WpA.regionQ0 6 0 mixed (by decide +kernel)
        · exact rfl
        · apply HeadQ.consF .none rfl
          · exact rfl
          · exact in1
          · exact rfl
          · exact rfl
          apply HeadQ.consF .none rfl
          · exact rfl
          · exact in1
          · exact rfl
          · exact rfl
          apply HeadQ.consF .none rfl
          · exact rfl
          · exact in1
          · exact rfl
          · exact rfl
          apply HeadQ.consF .none rfl
          · exact rfl
          · intro Tv Ov hc hp hd hk
            refine K.gd ?_
            refine K.gT rfl (by decide) rfl ?_
            exact in1
          · exact rfl
          · exact rfl
          apply HeadQ.consF .none rfl
          · exact rfl
          · intro Tv Ov hc hp hd hk
            refine K.gd ?_
            refine K.gT rfl (by decide) rfl ?_
            exact in0
          · exact rfl
          · exact rfl
          apply HeadQ.consF .none rfl
          · exact rfl
          · intro Tv Ov hc hp hd hk
            refine K.gd ?_
            refine K.gT rfl (by decide) rfl ?_
            exact in1
          · exact rfl
          · exact rfl
          exact HeadQ.nil
        · exact rfl
        · exact rfl
        · exact rfl
        · exact rfl
        · exact rfl
        · exact rfl
        refine go (r := ?_); and_intros <;> intros <;> try exact True.intro
        all_goals trace_state
      · refine FnC.of_body tabOk Try.func3 Try.ntmps3 rfl (by decide +kernel) (by simp) fun G => ?_
        refine goR (r := ?_); and_intros <;> intros <;> try exact True.intro
        simp only [hm]
        apply WpA.regionQ0 6 0 mixed (by decide +kernel)
        · exact rfl
        · apply HeadQ.consF .none rfl
          · exact rfl
          · exact in1
          · exact rfl
          · exact rfl
          apply HeadQ.consF .none rfl
          · exact rfl
          · exact in1
          · exact rfl
          · exact rfl
          apply HeadQ.consF .none rfl
          · exact rfl
          · exact in1
          · exact rfl
          · exact rfl
          apply HeadQ.consF .none rfl
          · exact rfl
          · intro Tv Ov hc hp hd hk
            refine K.gd ?_
            refine K.gT rfl (by decide) rfl ?_
            exact in1
          · exact rfl
          · exact rfl
          apply HeadQ.consF .none rfl
          · exact rfl
          · intro Tv Ov hc hp hd hk
            refine K.gd ?_
            refine K.gT rfl (by decide) rfl ?_
            exact in0
          · exact rfl
          · exact rfl
          apply HeadQ.consF .none rfl
          · exact rfl
          · intro Tv Ov hc hp hd hk
            refine K.gd ?_
            refine K.gT rfl (by decide) rfl ?_
            exact in1
          · exact rfl
          · exact rfl
          exact HeadQ.nil
        · exact rfl
        · exact rfl
        · exact rfl
        · exact rfl
        · exact rfl
        · exact rfl
        refine go (r := ?_); and_intros <;> intros <;> try exact True.intro
        all_goals trace_state
end Go.Proofs.Ytmcakpnlmilndaa

/- From a contract to the form that a row's shell asks for. No condition. -/
namespace Go.Abs
open Go Go.RowKit
set_option linter.unusedVariables false

theorem FnC.walk {P : Program} {f : FuncId} {args : List AV} {N : List AObj} {x : Value} (hc : FnC P f args N (.sc x)) {w : World} {S : Nat → Prop} {vs : List Value} (hS : ∀ b, S b → b < w.heap.size)
    (hl : LRel S w (fun _ => none) [] args vs []) : Calls P f vs.toArray w fun e w' => e = .returned x ∧ Below w.heap.size w w' := by
  refine (hc.2 w S vs hS hl).mono fun e w' h => ?_
  obtain ⟨v, S', ι, F, rfl, _, _, _, _, _, hv, hk⟩ := h
  cases hv with
  | sc r => exact ⟨rfl, hk.os, hk.tape, hk.output, hk.size, fun b hb => hk.block b hb (fun h => h)⟩

theorem bytes_eq (s : ByteArray) : s = ⟨s.data.toList.toArray⟩ := rfl
theorem bytes_len (s : ByteArray) (h : s.size ≤ maxLen) : s.data.toList.length ≤ 9223372036854775807 := by
  have : s.data.toList.length = s.size := rfl
  simp only [maxLen] at h; omega

theorem spot_none {w : World} {x : Addr} {n : Nat} (h : 0 < n) (hc : ∀ i, i < n → ∃ v, w.cell? (x.add i) = some v) : x.spot = none := by
  obtain ⟨v, hv⟩ := hc 0 h
  simpa [Addr.add] using World.cell?_spot hv

/-- A slice of integers that came in. -/
theorem vrel_ints {S : Nat → Prop} {w : World} {ι : Nat → Spot} {O : List AObj} {k : IntKind} {a : Option Addr} {len cap : Nat} {zs : List Int}
    (h : (a = none ∧ len = 0 ∧ cap = 0 ∧ zs = []) ∨ ∃ x, a = some x ∧ len ≤ cap ∧ cap ≤ maxLen ∧ zs.length = cap ∧ (∀ i, i < zs.length → w.cell? (x.add i) = some (.int k (zs.getD i 0))) ∧ ∀ n ∈ zs, (Lit.int k n).wf = true)
    (hS : ∀ b, b < w.heap.size → S b) : VRel S w ι O (.imm 1 len ((zs.take len).map fun n => .sc (.int k n))) (.slice a len cap) [] ∧ (zs.take len).length = len ∧ len ≤ maxLen ∧ ∀ n ∈ zs.take len, (Lit.int k n).wf = true := by
  rcases h with ⟨rfl, rfl, rfl, rfl⟩ | ⟨x, rfl, h1, h2, h3, h4, h5⟩
  · exact ⟨.imm0 (by simp) .nil, rfl, by simp, by simp⟩
  · have hlen : (zs.take len).length = len := by simp; omega
    refine ⟨?_, hlen, by omega, fun n hn => h5 n (List.mem_of_mem_take hn)⟩
    by_cases h0 : len = 0
    · subst h0; simp; exact .imm0 ⟨by simp, h2⟩ .nil
    · have hsp := spot_none (w := w) (x := x) (n := zs.length) (by omega) fun i hi => ⟨_, h4 i hi⟩
      obtain ⟨b, o, sp⟩ := x
      simp only at hsp
      subst hsp
      refine .imm (us := (zs.take len).map (Value.int k)) ?_ (fun i hi => ?_) ?_ (by simp; omega) h1 h2 .nil
      · have := h4 0 (by omega)
        refine hS _ ?_
        by_cases hb : b < w.heap.size
        · exact hb
        · simp [Addr.add, World.cell?, Array.getElem?_eq_none (Nat.le_of_not_lt hb)] at this
      · have hi' : i < len := by simp at hi; omega
        have := h4 i (by omega)
        rw [addr_add] at this
        rw [this]
        simp [hi', show i < zs.length from by omega]
      · generalize zs.take len = l
        induction l with
        | nil => exact .nil
        | cons y l ih => exact .sc ih
end Go.Abs

/- Reading what came in: a value of a plain shape (numbers, bools, strings, structs and slices of them) as an abstract value. No condition. -/
namespace Go.Abs
open Go Go.RowKit
set_option linter.unusedVariables false

inductive Sp where
  | int (k : IntKind) | bool | str | struct (fs : List Sp) | slice (k : Nat) (e : Sp)

mutual
inductive SpOk (P : Program) : TypeId → Sp → Prop
  | int {t k} : P.underlying t = some (.int k) → SpOk P t (.int k)
  | bool {t} : P.underlying t = some .bool → SpOk P t .bool
  | str {t} : P.underlying t = some .string → SpOk P t .str
  | struct {t fs sps n} : P.underlying t = some (.struct fs) → P.cellsOf t = n → SpF P 0 fs.toList sps n → SpOk P t (.struct sps)
  | slice {t e k sp} : P.underlying t = some (.slice e) → P.cellsOf e = k → 0 < k → SpOk P e sp → SpOk P t (.slice k sp)
inductive SpF (P : Program) : Nat → List Field → List Sp → Nat → Prop
  | nil {k} : SpF P k [] [] k
  | cons {k c f fs sp sps n} : f.offset = k → P.cellsOf f.type = c → SpOk P f.type sp → SpF P (k + c) fs sps n → SpF P k (f :: fs) (sp :: sps) n
end

mutual
inductive Rd : Sp → List AV → Prop
  | int {k n} : (Lit.int k n).wf = true → Rd (.int k) [.sc (.int k n)]
  | bool {b} : Rd .bool [.sc (.bool b)]
  | str {p : List UInt8} : p.length ≤ maxLen → Rd .str [.sc (.string ⟨p.toArray⟩)]
  | struct {sps cs} : RdF sps cs → Rd (.struct sps) cs
  | slice {sp len k cs} : len ≤ maxLen → RdN sp len k cs → Rd (.slice k sp) [.imm k len cs]
inductive RdF : List Sp → List AV → Prop
  | nil : RdF [] []
  | cons {sp sps a b} : Rd sp a → RdF sps b → RdF (sp :: sps) (a ++ b)
inductive RdN : Sp → Nat → Nat → List AV → Prop
  | nil {sp k} : RdN sp 0 k []
  | snoc {sp n k a b} : RdN sp n k a → Rd sp b → b.length = k → RdN sp (n + 1) k (a ++ b)
end

theorem RdN.len {sp n k cs} (h : RdN sp n k cs) : cs.length = n * k := by
  induction n generalizing cs with
  | zero => cases h; simp
  | succ n ih => cases h with | snoc h1 h2 h3 => rw [List.length_append, ih h1, h3, Nat.add_mul]; omega

theorem rdN_strs {n : Nat} {cs : List AV} (h : RdN .str n 1 cs) : ∃ xs : List (List UInt8), cs = strs xs ∧ xs.length = n ∧ ∀ x ∈ xs, x.length ≤ 9223372036854775807 := by
  induction n generalizing cs with
  | zero => cases h; exact ⟨[], rfl, rfl, by simp⟩
  | succ n ih =>
    cases h with
    | snoc h1 h2 h3 =>
      obtain ⟨xs, rfl, h5, h6⟩ := ih h1
      cases h2 with
      | @str p hp =>
        refine ⟨xs ++ [p], by simp [strs], by simp [h5], fun x hx => ?_⟩
        rcases List.mem_append.1 hx with hx | hx
        · exact h6 x hx
        · have : x = p := by simpa using hx
          subst this; simp only [maxLen] at hp; omega
theorem rd_strs {cs : List AV} (h : Rd (.slice 1 .str) cs) : ∃ xs : List (List UInt8), cs = [.imm 1 xs.length (strs xs)] ∧ xs.length ≤ 9223372036854775807 ∧ ∀ x ∈ xs, x.length ≤ 9223372036854775807 := by
  cases h with
  | slice hl hn =>
    obtain ⟨xs, rfl, h1, h2⟩ := rdN_strs hn
    subst h1
    exact ⟨xs, rfl, by simp only [maxLen] at hl; omega, h2⟩

section
variable {H : Type} {enc : TypeId × Value → H} {P : Program} {w : World} {base : Nat} {spare : Nat → Bool} {held : Bool}

theorem read {S : Nat → Prop} {ι : Nat → Spot} (hS : ∀ b, b < w.heap.size → S b) : ∀ (fuel : Nat) (t : TypeId) (sp : Sp) (cs : List Value) (x : DataW H × List MemPlace), SpOk P t sp →
    DataW.trod enc P w base spare held fuel t cs = some x → ∃ ds, Rd sp ds ∧ ∀ O, LRel S w ι O ds cs [] := by
  intro fuel
  induction fuel with
  | zero => intro t sp cs x _ h; simp [DataW.trod] at h
  | succ fuel ih =>
    intro t sp cs x hsp h
    cases hsp with
    | int ht =>
      obtain ⟨n, rfl, _, hw⟩ := DataW.trod_int ht h
      exact ⟨_, .int hw, fun O => .sc .nil⟩
    | bool ht =>
      obtain ⟨b, rfl, _⟩ := DataW.trod_bool ht h
      exact ⟨_, .bool, fun O => .sc .nil⟩
    | str ht =>
      obtain ⟨s, rfl, _, hs⟩ := DataW.trod_string ht h
      exact ⟨[.sc (.string ⟨s.data.toList.toArray⟩)], .str (by have : s.data.toList.length = s.size := rfl; omega), fun O => .sc .nil⟩
    | @struct _ fs sps n ht hn hf =>
      obtain ⟨xs, m, hm, _, hlen, hxl, hel⟩ := DataW.trod_struct ht h
      obtain rfl : fuel = m := by omega
      have key : ∀ (fl : List Field) (k : Nat) (sps : List Sp), SpF P k fl sps n → (∀ f ∈ fl, ∃ x, DataW.trod enc P w base spare held fuel f.type ((cs.drop f.offset).take (P.cellsOf f.type)) = some x) →
          k ≤ n → ∃ ds, RdF sps ds ∧ ∀ O, LRel S w ι O ds (cs.drop k) [] := by
        intro fl
        induction fl with
        | nil =>
          intro k sps hF _ _
          cases hF
          exact ⟨[], .nil, fun O => by rw [List.drop_eq_nil_of_le (by omega)]; exact .nil⟩
        | cons f fl ihf =>
          intro k sps hF hx hk
          cases hF with
          | cons h1 h2 h3 h4 =>
            obtain ⟨y, hy⟩ := hx f (by simp)
            obtain ⟨d1, r1, l1⟩ := ih _ _ _ _ h3 hy
            have hkn : ∀ {k fl sps}, SpF P k fl sps n → k ≤ n := by
              intro k fl
              induction fl generalizing k with
              | nil => intro sps h; cases h; exact Nat.le_refl _
              | cons f fl ih2 => intro sps h; cases h with | cons _ _ _ h => have := ih2 h; omega
            obtain ⟨d2, r2, l2⟩ := ihf _ _ h4 (fun g hg => hx g (by simp [hg])) (hkn h4)
            refine ⟨d1 ++ d2, .cons r1 r2, fun O => ?_⟩
            have e : cs.drop k = (cs.drop f.offset).take (P.cellsOf f.type) ++ cs.drop (k + P.cellsOf f.type) := by
              rw [h1, ← List.drop_drop, List.take_append_drop]
            rw [e, h2]
            rw [h2] at l1
            simpa using (l1 O).append (l2 O)
      obtain ⟨ds, r, l⟩ := key fs.toList 0 sps hf (fun f hf' => by
        obtain ⟨i, hi⟩ := List.getElem?_of_mem hf'
        have hi' : fs[i]? = some f := by simpa using hi
        have := hel i f hi'
        have hlt : i < xs.length := by have := (Array.getElem?_eq_some_iff.1 hi').1; omega
        exact ⟨xs[i], by rw [this]; simp [hlt]⟩) (Nat.zero_le _)
      exact ⟨ds, .struct r, fun O => by simpa using l O⟩
    | @slice _ e k sp ht hk hk0 he =>
      rcases DataW.trod_slice ht h with ⟨rfl, _⟩ | ⟨a, len, cap, elems, rest, m, hm, rfl, _, hb, hl, hc, hlen, hel, _, _⟩
      · exact ⟨[.imm k 0 []], .slice (by simp) .nil, fun O => .imm0 (by simp) .nil⟩
      obtain rfl : fuel = m := by omega
      have cells : ∀ j, j ≤ len → ∃ ds us, RdN sp j k ds ∧ us.length = j * k ∧ (∀ i, i < us.length → w.cell? (a.add i) = us[i]?) ∧ LRel S w ι [] ds us [] := by
        intro j
        induction j with
        | zero => intro _; exact ⟨[], [], .nil, by simp, by simp, .nil⟩
        | succ j ihj =>
          intro hj
          obtain ⟨ds, us, h1, h2, h3, h4⟩ := ihj (by omega)
          have hx := hel j (by omega)
          have hlt : j < elems.length := by omega
          rw [List.getElem?_eq_getElem hlt, Option.bind_eq_some_iff, hk] at hx
          obtain ⟨us2, hu, ht2⟩ := hx
          obtain ⟨d2, r2, l2⟩ := ih _ _ _ _ he ht2
          obtain ⟨_, c2, c3⟩ := World.cells?_some hu
          have l2' := l2 []
          have hd2 : d2.length = k := by rw [l2'.len, c2]
          refine ⟨ds ++ d2, us ++ us2, .snoc h1 r2 hd2, by rw [List.length_append, h2, c2, Nat.add_mul]; omega, fun i hi => ?_, by simpa using h4.append l2'⟩
          rw [List.length_append] at hi
          by_cases hlt2 : i < us.length
          · rw [h3 i hlt2, List.getElem?_append_left hlt2]
          · have hadd : a.add i = (a.add (j * k)).add (i - j * k) := by
              unfold Addr.add
              by_cases hz : j * k = 0
              · simp [hz]
              · by_cases hz2 : i - j * k = 0
                · have : i = j * k := by omega
                  simp [this]
                · rw [if_neg (by omega), if_neg hz, if_neg hz2]
                  simp only [Addr.mk.injEq, true_and, and_true]
                  omega
            rw [hadd, c3 (i - j * k) (by omega), List.getElem?_append_right (by omega), h2]
      obtain ⟨ds, us, h1, h2, h3, h4⟩ := cells len (Nat.le_refl _)
      refine ⟨[.imm k len ds], .slice (by omega) h1, fun O => ?_⟩
      by_cases h0 : len = 0
      · subst h0
        cases h1
        exact .imm0 ⟨by simp, hc⟩ .nil
      · have hul : 0 < us.length := by rw [h2]; exact Nat.mul_pos (by omega) hk0
        have hsp := spot_none (w := w) (x := a) (n := us.length) hul fun i hi => ⟨us[i], by rw [h3 i hi]; simp [hi]⟩
        obtain ⟨b, o, q⟩ := a
        simp only at hsp
        subst hsp
        have hcell : ∀ i, i < us.length → w.cell? ⟨b, o + i, none⟩ = us[i]? := fun i hi => by have := h3 i hi; rwa [addr_add] at this
        refine .imm (us := us) (hS _ ?_) hcell h4 (by rw [h1.len]) hl hc .nil
        by_cases hb' : b < w.heap.size
        · exact hb'
        · have := hcell 0 hul
          simp [World.cell?, Array.getElem?_eq_none (Nat.le_of_not_lt hb'), hul] at this
end
end Go.Abs

/- What a value that came in is: inversions of the readings by shape. No condition. -/
namespace Go.Abs
open Go Go.RowKit
set_option linter.unusedVariables false

abbrev i64 (n : Int) : Prop := -9223372036854775808 ≤ n ∧ n ≤ 9223372036854775807
theorem i64_wf {n : Int} (h : (Lit.int .i64 n).wf = true) : i64 n := by
  simp only [Lit.wf, Bool.and_eq_true, decide_eq_true_eq, show IntKind.i64.min = -9223372036854775808 from rfl, show IntKind.i64.max = 9223372036854775807 from rfl] at h
  exact h
theorem rd_int {ds : List AV} (h : Rd (.int .i64) ds) : ∃ n : Int, ds = [I n] ∧ i64 n := by
  cases h with | int hw => exact ⟨_, rfl, i64_wf hw⟩
theorem rd_bool {ds : List AV} (h : Rd .bool ds) : ∃ b : Bool, ds = [B b] := by
  cases h with | bool => exact ⟨_, rfl⟩
theorem rd_str {ds : List AV} (h : Rd .str ds) : ∃ p : List UInt8, ds = [Z p] ∧ p.length ≤ 9223372036854775807 := by
  cases h with | str hp => exact ⟨_, rfl, by simp only [maxLen] at hp; omega⟩
theorem rdN_ints {n : Nat} {cs : List AV} (h : RdN (.int .i64) n 1 cs) : ∃ xs : List Int, cs = ints xs ∧ xs.length = n ∧ ∀ x ∈ xs, i64 x := by
  induction n generalizing cs with
  | zero => cases h; exact ⟨[], rfl, rfl, by simp⟩
  | succ n ih =>
    cases h with
    | snoc h1 h2 h3 =>
      obtain ⟨xs, rfl, h5, h6⟩ := ih h1
      obtain ⟨m, rfl, hm⟩ := rd_int h2
      refine ⟨xs ++ [m], by simp [ints], by simp [h5], fun x hx => ?_⟩
      rcases List.mem_append.1 hx with hx | hx
      · exact h6 x hx
      · have : x = m := by simpa using hx
        subst this; exact hm
theorem rd_ints {ds : List AV} (h : Rd (.slice 1 (.int .i64)) ds) : ∃ xs : List Int, ds = [IL xs] ∧ xs.length ≤ 9223372036854775807 ∧ ∀ x ∈ xs, i64 x := by
  cases h with
  | slice hl hn =>
    obtain ⟨xs, rfl, h1, h2⟩ := rdN_ints hn
    subst h1
    exact ⟨xs, rfl, by simp only [maxLen] at hl; omega, h2⟩
theorem rdN_bools {n : Nat} {cs : List AV} (h : RdN .bool n 1 cs) : ∃ xs : List Bool, cs = bools xs ∧ xs.length = n := by
  induction n generalizing cs with
  | zero => cases h; exact ⟨[], rfl, rfl⟩
  | succ n ih =>
    cases h with
    | snoc h1 h2 h3 =>
      obtain ⟨xs, rfl, h5⟩ := ih h1
      obtain ⟨m, rfl⟩ := rd_bool h2
      exact ⟨xs ++ [m], by simp [bools], by simp [h5]⟩
theorem rd_bools {ds : List AV} (h : Rd (.slice 1 .bool) ds) : ∃ xs : List Bool, ds = [.imm 1 xs.length (bools xs)] ∧ xs.length ≤ 9223372036854775807 := by
  cases h with
  | slice hl hn =>
    obtain ⟨xs, rfl, h1⟩ := rdN_bools hn
    subst h1
    exact ⟨xs, rfl, by simp only [maxLen] at hl; omega⟩
theorem rd_struct {sps : List Sp} {ds : List AV} (h : Rd (.struct sps) ds) : RdF sps ds := by
  cases h with | struct h => exact h
theorem rdF_cons {sp : Sp} {sps : List Sp} {ds : List AV} (h : RdF (sp :: sps) ds) : ∃ a b, ds = a ++ b ∧ Rd sp a ∧ RdF sps b := by
  cases h with | cons h1 h2 => exact ⟨_, _, rfl, h1, h2⟩
theorem rdF_nil {ds : List AV} (h : RdF [] ds) : ds = [] := by cases h; rfl

abbrev spI : Sp := .int .i64
abbrev spIs : Sp := .slice 1 (.int .i64)
theorem rd_frame {ds : List AV} (h : Rd (.struct [spI, spI, spIs]) ds) : ∃ (W H : Int) (p : List Int), ds = [I W, I H, IL p] ∧ i64 W ∧ i64 H ∧ p.length ≤ 9223372036854775807 ∧ ∀ x ∈ p, i64 x := by
  obtain ⟨_, _, rfl, h1, h⟩ := rdF_cons (rd_struct h)
  obtain ⟨_, _, rfl, h2, h⟩ := rdF_cons h
  obtain ⟨_, _, rfl, h3, h⟩ := rdF_cons h
  obtain rfl := rdF_nil h
  obtain ⟨W, rfl, a1⟩ := rd_int h1
  obtain ⟨H, rfl, a2⟩ := rd_int h2
  obtain ⟨p, rfl, a3, a4⟩ := rd_ints h3
  exact ⟨W, H, p, rfl, a1, a2, a3, a4⟩
theorem lrel_agg {S : Nat → Prop} {w : World} {ι : Nat → Spot} {O : List AObj} {ds : List AV} {cs : Array Value} (h : LRel S w ι O ds cs.toList []) : VRel S w ι O (.agg ds) (.agg cs) [] := by
  simpa using LRel.agg h .nil
theorem lrel_cons0 {S : Nat → Prop} {w : World} {ι : Nat → Spot} {O : List AObj} {V : AV} {v : Value} {cs : List AV} {vs : List Value} (h1 : VRel S w ι O V v []) (h2 : LRel S w ι O cs vs []) : LRel S w ι O (V :: cs) (v :: vs) [] := LRel.cons h1 h2
end Go.Abs
