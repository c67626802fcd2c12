/- Proved in this text: lemmas and contracts of functions that the claim uses (parts: RdV, Sym, Stat, Pred, Sid, Work, AbsNil, RdB, RdT). No condition. -/
import Derived.Test.YtgbahnaejajdgaaPkM13
import Derived.Test.YtgbahnaejajdgaaPkM12
import Derived.Test.YtgbahnaejajdgaaPkM10

/- Plain laws: where levels are read to. Contracts: levels that are read by the program. No condition. -/
namespace Go.Proofs.Ytgbahnaejajdgaa
open Go Go.Abs
set_option linter.unusedVariables false
set_option linter.unusedSimpArgs false
set_option maxRecDepth 100000
set_option maxHeartbeats 4000000

theorem zrW_stop (p : List UInt8) (s : Int) : ∀ (f n : Nat), zrW p s f n = n + f ∨ btA p (s + (zrW p s f n : Nat)) ≠ 0
  | 0, n => .inl rfl
  | f + 1, n => by
    rw [zrW]; split
    · rcases zrW_stop p s f (n + 1) with h | h
      · exact .inl (by omega)
      · exact .inr h
    · rename_i h; exact .inr h
theorem zrs_stop (p : List UInt8) (s : Int) : (zrs p s : Int) = lft p s ∨ btA p (s + (zrs p s : Nat)) ≠ 0 := by
  have hb := lft_bd p s
  rcases zrW_stop p s (lft p s).toNat 0 with h | h
  · exact .inl (by unfold zrs; omega)
  · exact .inr h
theorem ueV_nn (p : List UInt8) (s : Int) : 0 ≤ ueV p s := by
  unfold ueV; split
  · rename_i h
    by_cases h15 : zrs p s ≤ 15
    · by_cases hok : RbOk p s (2 * (zrs p s : Int) + 1)
      · rw [(rb_yes hok).2]
        have hlo := lft_ok hok.1
        have hst := zrs_stop p s
        have hbo := btA_out p (s + (zrs p s : Nat))
        have hbd := btA_bd p (s + (zrs p s : Nat))
        have hb1 : btA p (s + (zrs p s : Nat)) = 1 := by
          rcases hst with h | h
          · omega
          · omega
        have e := numB_add p s (zrs p s + 1) (zrs p s)
        have h1 := numB_bd p (s + ((zrs p s + 1 : Nat) : Int)) (zrs p s)
        have h2 := numB_bd p s (zrs p s)
        have h3 : numB p s (zrs p s + 1) = numB p s (zrs p s) * 2 + bv p (s + (zrs p s : Nat)) := rfl
        have h4 : bv p (s + (zrs p s : Nat)) = 1 := by unfold bv; omega
        have hp : (0 : Int) < 2 ^ zrs p s := by exact_mod_cast Nat.pow_pos (by decide)
        have h5 : 1 * 2 ^ zrs p s ≤ numB p s (zrs p s + 1) * 2 ^ zrs p s := Int.mul_le_mul_of_nonneg_right (by omega) (by omega)
        rw [show (2 * (zrs p s : Int) + 1).toNat = zrs p s + 1 + zrs p s by omega, e]
        omega
      · rw [(ue_short h15 hok).2.1] at h; omega
    · rw [(ue_code (s := s) (p := p) h15).2.1] at h; omega
  · omega
theorem fuV_nn (p : List UInt8) (s c : Int) (k : Int → Int) : 0 ≤ fuV p s c k := by
  have := ueV_nn p s
  unfold fuV; split <;> omega
/-- What a check lets through. -/
theorem fuV_lt {p : List UInt8} {s c b e : Int} (he : e ≠ 0) (h : 0 < b) : fuV p s c (fun y => ifE (y < b) e) < b := by
  unfold fuV; split
  · rename_i h1
    unfold fuC at h1
    split at h1
    · split at h1
      · by_cases hlt : ueV p s < b
        · exact hlt
        · have h1 : ifE (ueV p s < b) e = 0 := h1
          rw [ifE_no hlt] at h1; exact absurd h1 he
      · omega
    · omega
  · omega
theorem fuV_zero {p : List UInt8} {s c : Int} {k : Int → Int} (h : fuC p s c k ≠ 0) : fuV p s c k = 0 := by rw [fuV, if_neg h]
abbrev kR (b : Int) : Int → Int := fun y => ifE (y < b) 5
abbrev kL : Int → Int := fun y => ifE (-16383 ≤ lvOf y ∧ lvOf y ≤ 16383) 5
theorem lvStep_yes {p : List UInt8} {nn : Int} {x : LvS} (hc : x.c = 0) : lvStep p nn x =
    (if fuC p (fuA p x.a 0 (kR (nn - x.at_))) (fuC p x.a 0 (kR (nn - x.at_))) kL = 0 then
      ⟨fuA p (fuA p x.a 0 (kR (nn - x.at_))) (fuC p x.a 0 (kR (nn - x.at_))) kL, fuC p (fuA p x.a 0 (kR (nn - x.at_))) (fuC p x.a 0 (kR (nn - x.at_))) kL, x.at_ + fuV p x.a 0 (kR (nn - x.at_)) + 1,
        x.out.set (x.at_ + fuV p x.a 0 (kR (nn - x.at_))).toNat (lvOf (fuV p (fuA p x.a 0 (kR (nn - x.at_))) (fuC p x.a 0 (kR (nn - x.at_))) kL))⟩
    else ⟨fuA p (fuA p x.a 0 (kR (nn - x.at_))) (fuC p x.a 0 (kR (nn - x.at_))) kL, fuC p (fuA p x.a 0 (kR (nn - x.at_))) (fuC p x.a 0 (kR (nn - x.at_))) kL, x.at_ + fuV p x.a 0 (kR (nn - x.at_)), x.out⟩) := by
  rw [lvStep, if_pos hc]
theorem lvStep_no {p : List UInt8} {nn : Int} {x : LvS} (hc : x.c ≠ 0) : lvStep p nn x = x := by rw [lvStep, if_neg hc]
theorem fuC_keep {p : List UInt8} {s c : Int} {k : Int → Int} (h : c ≠ 0) : fuC p s c k = c := by rw [fuC, if_neg h]
theorem lvStep_at {p : List UInt8} {nn : Int} {x : LvS} (h : 0 ≤ x.at_ ∧ x.at_ ≤ nn) : 0 ≤ (lvStep p nn x).at_ ∧ (lvStep p nn x).at_ ≤ nn := by
  by_cases hc : x.c = 0
  · rw [lvStep_yes hc]
    have h1 := fuV_nn p x.a 0 (kR (nn - x.at_))
    by_cases hr : fuC p x.a 0 (kR (nn - x.at_)) = 0
    · have h2 : fuV p x.a 0 (kR (nn - x.at_)) < nn - x.at_ := by
        rcases Int.lt_or_le 0 (nn - x.at_) with hp | hp
        · exact fuV_lt (by decide) hp
        · exfalso
          have hv := ueV_nn p x.a
          unfold fuC at hr
          simp only [if_true] at hr
          split at hr
          · have hr : ifE (ueV p x.a < nn - x.at_) 5 = 0 := hr
            rw [ifE_no (by omega)] at hr; cases hr
          · rename_i hh; exact hh hr
      split
      · show 0 ≤ x.at_ + _ + 1 ∧ x.at_ + _ + 1 ≤ nn; omega
      · show 0 ≤ x.at_ + _ ∧ x.at_ + _ ≤ nn; omega
    · rw [if_neg (by rw [fuC_keep hr]; exact hr)]
      show 0 ≤ x.at_ + _ ∧ x.at_ + _ ≤ nn
      rw [fuV_zero hr]; omega
  · rw [lvStep_no hc]; exact h
theorem lvRun_at {p : List UInt8} {nn : Int} {x : LvS} (h : 0 ≤ x.at_ ∧ x.at_ ≤ nn) : ∀ k, 0 ≤ (lvRun p nn x k).at_ ∧ (lvRun p nn x k).at_ ≤ nn
  | 0 => h
  | k + 1 => by rw [lvRun]; exact lvStep_at (lvRun_at h k)
theorem lvRun_stop {p : List UInt8} {nn : Int} {x : LvS} {k : Nat} (h : (lvRun p nn x k).c ≠ 0) : ∀ j, k ≤ j → lvRun p nn x j = lvRun p nn x k
  | 0, hj => by have : k = 0 := by omega
                subst this; rfl
  | j + 1, hj => by
    rcases Nat.lt_or_ge j k with h2 | h2
    · have : k = j + 1 := by omega
      subst this; rfl
    · have e := lvRun_stop h j h2
      rw [lvRun, e, lvStep_no h]

/-! One object is turned, the others stay. -/
theorem newO_tail (mb : AObj) : ∀ (k : Nat) (R : List AObj), 0 < k → newO [0] [mb] k R = R
  | _, [], _ => rfl
  | k, ob :: R, hk => by
    rw [newO, newO_tail mb (k + 1) R (by omega)]
    have : findN [0] k 0 = none := by
      rw [findN]
      have : Nat.beq 0 k = false := by cases k with | zero => omega | succ k => rfl
      rw [this]; rfl
    unfold newOb; rw [this]
theorem split4 {Ov : List AObj} {a b c d : AObj} (h0 : Ov[0]? = some a) (h1 : Ov[1]? = some b) (h2 : Ov[2]? = some c) (h3 : Ov[3]? = some d) : ∃ R, Ov = a :: b :: c :: d :: R := by
  match Ov, h3 with
  | a' :: b' :: c' :: d' :: R, h3 => simp at h0 h1 h2 h3; exact ⟨R, by rw [h0, h1, h2, h3]⟩
  | [], h => simp at h
  | [_], h => simp at h
  | [_, _], h => simp at h
  | [_, _, _], h => simp at h
theorem split3 {Ov : List AObj} {b c d : AObj} (hc : 4 ≤ Ov.length) (h1 : Ov[1]? = some b) (h2 : Ov[2]? = some c) (h3 : Ov[3]? = some d) : ∃ x R, Ov = x :: b :: c :: d :: R := by
  match Ov, h3 with
  | a' :: b' :: c' :: d' :: R, h3 => simp at h1 h2 h3; exact ⟨a', R, by rw [h1, h2, h3]⟩
  | [], h => simp at h
  | [_], h => simp at h
  | [_, _], h => simp at h
  | [_, _, _], h => simp at h
section
variable {P : Program} {n m : Nat} {G : Ctx} {T : List (Nat × AV)} {R : List AObj} {Q : Exit → St → Prop} {ops : Array Oper} {l : List Oper} {tt : TypeId} {pos : String} {after : Array Edge}
theorem callM1 {f : FuncId} {xs : List Operand} {ats : Array TypeId} {As : List AV} {ob mb0 mb : AObj} {v : Int} {d : Nat} (hc : FnG P f As [mb0] [mb] [] (I v)) (hh : HandM (ob :: R) [0] [mb0] (xs.map (av T)) As) (hM : HandO (ob :: R) [0] [mb0]) (hsz : mb.size = mb0.size) (hM' : Out [mb]) (hn : d < n)
    (h : WpL P n m G false ops l ⟨(d, I v) :: T, ⟨mb.cells, ob.ep, mb.size, mb.ty⟩ :: R⟩ Q) :
    WpL P n m G false ops ({ dst := some d, op := .call { callee := .value (.func f), args := xs.toArray, argTypes := ats }, type := tt, pos := pos, after := after, guard := none } :: l) ⟨T, ob :: R⟩ Q := by
  refine WpL.op rfl (fun a w hr => ?_) h
  have hcl := callG_rel hc hh hM (by simp) rfl (fun j x y hx hy => by
    cases j with
    | zero => simp at hx hy; subst hx hy; exact hsz
    | succ j => simp at hx) hM' .nil (r' := I v) rfl hr
  have e : newO [0] [mb] 0 (ob :: R) ++ [] = ⟨mb.cells, ob.ep, mb.size, mb.ty⟩ :: R := by
    rw [List.append_nil, newO, newO_tail mb 1 R (by omega)]; rfl
  rw [e] at hcl
  obtain ⟨⟨fn, hf, hbd, hnm⟩, _⟩ := hc
  have hex : (execOp a.eval { dst := some d, op := .call { callee := .value (.func f), args := xs.toArray, argTypes := ats }, type := tt, pos := pos, after := after, guard := none }).run P w = .ok (.enter f (xs.map a.eval).toArray) w := by
    simp only [execOp, resolve, Act.eval, Deferred.ofValue, invoke, callFunc, Sem.run_bind, Sem.run_pure, Result.andThen_ok, program, Sem.run, hf, hnm, hbd, Bool.false_eq_true, if_false]
    simp
  unfold Oper.wp
  rw [hex]
  refine hcl.mono fun e w' ⟨v, he, S, ι, F, hr', hv⟩ => ?_
  subst he
  exact ⟨S, ι, F, hr'.put hn hv⟩
end
attribute [local irreducible] WpA WpL Rnd Blk Abs.Seq Abs.Fin Abs.FinG FnC FnG Only
abbrev k0C : Int → Int := fun _ => 0
theorem lvS_no {p : List UInt8} {s n : Int} (h : fbV p s 0 1 k0C = 0) : lvS p s n = ⟨fbA p s 0 1 k0C, fbC p s 0 1 k0C, 0, List.replicate (n * n).toNat 0⟩ := by
  unfold lvS; simp only; rw [if_pos h]
theorem lvS_yes {p : List UInt8} {s n : Int} (h : fbV p s 0 1 k0C ≠ 0) : lvS p s n = lvRun p (n * n) ⟨fuA p (fbA p s 0 1 k0C) (fbC p s 0 1 k0C) (kR (n * n)), fuC p (fbA p s 0 1 k0C) (fbC p s 0 1 k0C) (kR (n * n)), 0, List.replicate (n * n).toNat 0⟩ (1 + fuV p (fbA p s 0 1 k0C) (fbC p s 0 1 k0C) (kR (n * n))).toNat := by
  unfold lvS; simp only; rw [if_neg h]
theorem lv_room {p : List UInt8} {s nn t : Int} (ht : 0 ≤ t ∧ t ≤ nn) (h : fuC p s 0 (kR (nn - t)) = 0) : t + fuV p s 0 (kR (nn - t)) < nn := by
  have h2 : fuV p s 0 (kR (nn - t)) < nn - t := by
    rcases Int.lt_or_le 0 (nn - t) with hp | hp
    · exact fuV_lt (by decide) hp
    · exfalso
      have hv := ueV_nn p s
      unfold fuC at h
      simp only [if_true] at h
      split at h
      · have h : ifE (ueV p s < nn - t) 5 = 0 := h
        rw [ifE_no (by omega)] at h; cases h
      · rename_i hh; exact hh h
  omega
theorem flv_c (p : List UInt8) (s n : Int) (hl : p.length ≤ 1099511627776) (hn : n = 4 ∨ n = 8) : Gn 56 [.ptr 0 0 0, I n] [FldO p s 0] [FldO p (lvS p s n).a (lvS p s n).c] [XI (lvS p s n).out] (.own 1 0 0 (lvS p s n).out.length) := by
  have hnn : 16 ≤ n * n ∧ n * n ≤ 64 := by rcases hn with rfl | rfl <;> decide
  have hn2 := mul_in (a := n) (b := n) (by omega) (by omega)
  generalize hx : lvS p s n = x
  refine FnG.of_bodyF tabOk Try.func56 Try.ntmps56 rfl (by decide +kernel) (by simp) rfl rfl fun G => ?_
  refine go (r := ?_); and_intros <;> intros <;> try exact True.intro
  refine K.call ?_
  refine WpL.callM (hs := [0]) (fbits_c p s 0 1 123 [] k0C hl ⟨rfl, rfl, fun x _ => levels1_c.ok x⟩) handA handOA rfl rfl (.cons rfl (.sc (.sc (.sc .nil))) .nil) outA rfl rfl rfl rfl (by decide) ?_
  have b1 := fbV_bd p s 0 1 k0C
  by_cases hv : fbV p s 0 1 k0C = 0
  · rw [lvS_no hv] at hx
    subst hx
    refine go (r := ?_); and_intros <;> intros <;> try exact True.intro
    all_goals first | (exact absurd hv (by assumption)) | trace_state
  · rw [lvS_yes hv] at hx
    generalize hv1 : fbV p s 0 1 k0C = v1 at b1 hv ⊢
    generalize ha1 : fbA p s 0 1 k0C = a1 at hx
    generalize hc1 : fbC p s 0 1 k0C = c1 at hx
    refine go (r := ?_); and_intros <;> intros <;> try exact True.intro
    all_goals first | (exact absurd (by assumption) hv) | skip
    refine K.call ?_
    refine WpL.callM (hs := [0]) (fue_c p a1 c1 125 [.iptr [I n] 0] (kR (n * n)) hl ⟨rfl, rfl, fun x _ => levels2_c.ok x n (by omega)⟩) handA handOA rfl rfl (.cons rfl (.sc (.sc (.sc .nil))) .nil) outA rfl rfl rfl rfl (by decide) ?_
    have b2 := fuV_bd p a1 c1 (kR (n * n))
    have b3 := fuV_nn p a1 c1 (kR (n * n))
    generalize hv2 : fuV p a1 c1 (kR (n * n)) = v2 at b2 b3 hx ⊢
    generalize ha2 : fuA p a1 c1 (kR (n * n)) = a2 at hx ⊢
    generalize hc2 : fuC p a1 c1 (kR (n * n)) = c2 at hx ⊢
    have hr0 := lvRun_at (p := p) (nn := n * n) (x := ⟨a2, c2, 0, List.replicate (n * n).toNat 0⟩) (show (0 : Int) ≤ 0 ∧ (0 : Int) ≤ n * n by omega)
    have hln := lvRun_len p (n * n) ⟨a2, c2, 0, List.replicate (n * n).toNat 0⟩
    have hst : ∀ k, lvRun p (n * n) ⟨a2, c2, 0, List.replicate (n * n).toNat 0⟩ (k + 1) = lvStep p (n * n) (lvRun p (n * n) ⟨a2, c2, 0, List.replicate (n * n).toNat 0⟩ k) := fun _ => rfl
    have hsp := fun k => lvRun_stop (p := p) (nn := n * n) (x := ⟨a2, c2, 0, List.replicate (n * n).toNat 0⟩) (k := k)
    have hz : lvRun p (n * n) ⟨a2, c2, 0, List.replicate (n * n).toNat 0⟩ 0 = ⟨a2, c2, 0, List.replicate (n * n).toNat 0⟩ := rfl
    generalize lvRun p (n * n) ⟨a2, c2, 0, List.replicate (n * n).toNat 0⟩ = X at hr0 hln hst hsp hz hx
    refine goR (r := ?_); and_intros <;> intros <;> try exact True.intro
    refine WpA.loop (fun k : Nat => ⟨[(0, .ptr 0 0 0), (3, .ptr 1 0 0), (5, .own 2 0 0 (n * n).toNat), (6, .ptr 3 0 0), (7, I (1 + v2)), (8, I k)], [FldO p (X k).a (X k).c, ⟨[I n], 0, 0, none⟩, XI (X k).out, ⟨[I (X k).at_], 0, 0, none⟩]⟩) (fun k => (k : Int) ≤ 1 + v2) (fun k => (1 + v2).toNat - k) 0 (by omega) (go (r := ?_)) (fun k hk => ?_)
    · rw [hz]; and_intros <;> first | exact True.intro | rfl | trace_state
    have hr0 := hr0 k
    have hln := hln k
    have hst := hst k
    have hsp := hsp k
    generalize hy : X k = y at hr0 hln hst hsp ⊢
    have hln : y.out.length = (n * n).toNat := by simpa using hln
    have hfin : (y.c ≠ 0 ∨ ¬ (k : Int) < 1 + v2) → y = x := by
      rintro (h | h)
      · rw [← hx, hsp h (1 + v2).toNat (by omega)]
      · have : k = (1 + v2).toNat := by omega
        rw [← hx, ← this, hy]
    refine goR (r := ?_); and_intros <;> intros <;> try exact True.intro
    · have hyc : y.c = 0 := by assumption
      have b4 := fuV_bd p y.a y.c (kR (n * n - y.at_))
      have b5 := fuV_nn p y.a y.c (kR (n * n - y.at_))
      have hkb : ∀ x : Int, -1 ≤ x ∧ x ≤ 4294967296 → Fn 127 (I x :: [.iptr [I n] 0, .iptr [I y.at_] 0]) [] (I (kR (n * n - y.at_) x)) := fun x _ => levels3_c.ok x n y.at_ (by omega)
      apply WpA.regionQF (O := []) (Or := [FldO p y.a y.c, ⟨[I n], 0, 0, none⟩, XI y.out, ⟨[I y.at_], 0, 0, none⟩]) (O1 := [FldO p (fuA p y.a y.c (kR (n * n - y.at_))) (fuC p y.a y.c (kR (n * n - y.at_))), ⟨[I n], 0, 0, none⟩, XI y.out, ⟨[I y.at_], 0, 0, none⟩]) 5 0 [1, 2, 3] rfl mixed (by decide +kernel)
      · exact rfl
      · apply HeadQ.consF (V := I y.at_) .none rfl
        · exact rfl
        · intro Tv Ov hc hp hd hk
          obtain ⟨x0, R, rfl⟩ := split3 hc (hk 1 rfl) (hk 2 rfl) (hk 3 rfl)
          exact in0
        · exact rfl
        · exact rfl
        apply HeadQ.consF .none rfl
        · exact rfl
        · exact in1
        · exact rfl
        · exact rfl
        apply HeadQ.consF (V := .fn 127 [.ptr 1 0 0, .ptr 3 0 0]) .none rfl
        · exact rfl
        · exact in1
        · exact rfl
        · exact rfl
        apply HeadQ.consF (V := I (fuV p y.a y.c (kR (n * n - y.at_)))) (.step 0 (FldO p (fuA p y.a y.c (kR (n * n - y.at_))) (fuC p y.a y.c (kR (n * n - y.at_))))) rfl
        · exact rfl
        · intro Tv Ov hc hp hd hk
          obtain ⟨R, rfl⟩ := split4 (hp 0 _ rfl) (hk 1 rfl) (hk 2 rfl) (hk 3 rfl)
          refine K.call ?_
          refine callM1 (fue_c p y.a y.c 127 [.iptr [I n] 0, .iptr [I y.at_] 0] (kR (n * n - y.at_)) hl ⟨rfl, rfl, hkb⟩) handA handOA rfl (.cons rfl (.sc (.sc (.sc .nil))) .nil) (by decide) ?_
          exact WpL.nil (Only.mk rfl)
        · exact rfl
        · exact rfl
        apply HeadQ.consF .none rfl
        · exact rfl
        · exact in1
        · exact rfl
        · exact rfl
        exact HeadQ.nil
      · exact rfl
      · exact rfl
      · exact rfl
      · exact rfl
      · exact rfl
      · exact rfl
      · exact rfl
      generalize hA1 : fuA p y.a y.c (kR (n * n - y.at_)) = A1
      generalize hC1 : fuC p y.a y.c (kR (n * n - y.at_)) = C1
      generalize hV1 : fuV p y.a y.c (kR (n * n - y.at_)) = w1 at b4 b5 ⊢
      rw [hyc] at hA1 hC1 hV1
      have hroom := lv_room (p := p) (s := y.a) hr0
      rw [hC1, hV1] at hroom
      rw [lvStep_yes hyc, hA1, hC1, hV1] at hst
      have hkeep := fun h => fuC_keep (p := p) (s := A1) (c := C1) (k := kL) h
      refine go (r := ?_); and_intros <;> intros <;> try exact True.intro
      refine K.call ?_
      refine WpL.callM (hs := [0]) (fue_c p A1 C1 129 [] kL hl ⟨rfl, rfl, fun x h => levels4_c.ok x (by omega)⟩) handA handOA rfl rfl (.cons rfl (.sc (.sc (.sc .nil))) .nil) outA rfl rfl rfl rfl (by decide) ?_
      have b6 := fuV_bd p A1 C1 kL
      by_cases hc2 : fuC p A1 C1 kL = 0
      · have h10 : C1 = 0 := by
          by_cases h : C1 = 0
          · exact h
          · exact absurd (hkeep h ▸ hc2) h
        have hroom := hroom h10
        rw [if_pos hc2] at hst
        refine go (r := ?_); and_intros <;> intros <;> try exact True.intro
        all_goals first | (exact absurd hc2 (by assumption)) | (rw [hst]; done) | (rw [hst]; rfl) | (rw [hst]; simp only; omega) | trace_state
      · rw [if_neg hc2] at hst
        refine go (r := ?_); and_intros <;> intros <;> try exact True.intro
        all_goals first | (exact absurd (by assumption) hc2) | (rw [hst]; done) | (rw [hst]; rfl) | trace_state
    all_goals first | (obtain rfl := hfin (by first | exact .inl (by assumption) | exact .inr (by assumption)); first | rfl | exact hln.symm | trace_state) | trace_state
end Go.Proofs.Ytgbahnaejajdgaa

/- Contracts: the bits of a mode, whether it has a code, which mode a block gets; the law FnExactModeFor. No condition. -/
namespace Go.Proofs.Ytgbahnaejajdgaa
open Go Go.Abs
set_option linter.unusedVariables false
set_option linter.unusedSimpArgs false
set_option maxRecDepth 100000
set_option maxHeartbeats 4000000
attribute [local irreducible] WpA WpL Rnd Blk Abs.Seq Abs.Fin Abs.FinG FnC FnG Only

def HasC (l : List Int) (m : Int) : Prop := CodeOk l ∧ (0 ≤ m ∧ m ≤ 5) ∧ l.getD m.toNat 0 ≠ 0
instance (l : List Int) (m : Int) : Decidable (HasC l m) := by unfold HasC; infer_instance
def symL (l : List Int) (m : Int) : List Int := if HasC l m then bitsL ((codes l).getD m.toNat 0) (l.getD m.toNat 0) else []
theorem sym_fit {l : List Int} {m : Int} (h : HasC l m) : (1 ≤ l.getD m.toNat 0 ∧ l.getD m.toNat 0 ≤ 7) ∧ 0 ≤ (codes l).getD m.toNat 0 ∧ (codes l).getD m.toNat 0 ≤ 127 ∧ bitOk ((codes l).getD m.toNat 0) (l.getD m.toNat 0) := by
  obtain ⟨h1, h2, h3⟩ := h
  have a := code_in h1 (m := m.toNat) (by omega)
  have b := code_fit h1 (m := m.toNat) (by omega) h3
  have c := code_lt h1 (m := m.toNat) (by omega) h3
  have d : (codes l).getD m.toNat 0 ≤ 127 := by
    have : (2 : Int) ^ (l.getD m.toNat 0).toNat ≤ 2 ^ 7 := by
      have := Nat.pow_le_pow_right (n := 2) (by decide) (show (l.getD m.toNat 0).toNat ≤ 7 by omega)
      exact_mod_cast this
    omega
  exact ⟨by omega, b.1, d, by omega, b.1, Int.ediv_eq_zero_of_lt b.1 c⟩
theorem symL_len (l : List Int) (m : Int) : ((symL l m).length : Int) = if HasC l m then l.getD m.toNat 0 else 0 := by
  unfold symL
  split
  · rename_i h
    obtain ⟨h1, h2, h3, h4⟩ := sym_fit h
    rw [bitsL, if_pos h4, bitsR_len]; omega
  · rfl
theorem symL_pos (l : List Int) (m : Int) : 0 < (symL l m).length ↔ HasC l m := by
  have := symL_len l m
  split at this
  · rename_i h; have := (sym_fit h).1; constructor <;> intro _ <;> first | assumption | omega
  · rename_i h; constructor
    · intro h'; omega
    · intro h'; exact absurd h' h
/-! The first mode with a code. -/
def firstM (l : List Int) : Nat := l.findIdx (fun x => decide (x ≠ 0))
theorem firstM_eq {l : List Int} {k : Nat} (hk : k < l.length) (h0 : ∀ j < k, l.getD j 0 = 0) (h1 : l.getD k 0 ≠ 0) : firstM l = k := by
  unfold firstM
  rw [List.findIdx_eq hk]
  refine ⟨by simpa [hk] using h1, fun j hj => ?_⟩
  have := h0 j hj
  simpa [show j < l.length by omega] using this
theorem code_some {l : List Int} (h : CodeOk l) : ∃ m, m < 6 ∧ l.getD m 0 ≠ 0 := by
  obtain ⟨m, a, b, _⟩ := code_cov h (v := 0) (by omega) (by omega)
  exact ⟨m, a, b⟩
theorem firstM_has {l : List Int} (h : CodeOk l) : firstM l < 6 ∧ l.getD (firstM l) 0 ≠ 0 := by
  obtain ⟨m, a, b⟩ := code_some h
  have h6 := h.2.1
  have hx : ∃ x ∈ l, decide (x ≠ 0) = true := ⟨l.getD m 0, by simp [show m < l.length by omega], by simpa using b⟩
  have := List.findIdx_lt_length_of_exists hx
  have h2 := List.findIdx_getElem (w := this)
  unfold firstM
  refine ⟨by omega, ?_⟩
  rw [List.getD_eq_getElem?_getD, List.getElem?_eq_getElem this]; simpa using h2
def modeF (q : Int) (l ms : List Int) (k : Int) : Int := if OptOk q l ∧ 0 ≤ k then
  (if ms ≠ [] ∧ HasC l (ms.getD (k % ms.length).toNat 0) then ms.getD (k % ms.length).toNat 0 else firstM l) else -1
theorem has_code {l : List Int} (h : CodeOk l) {k : Nat} (hk : k < 6) : HasC l (k : Int) ↔ l.getD k 0 ≠ 0 := by
  unfold HasC; simp only [Int.toNat_natCast]
  constructor
  · rintro ⟨_, _, h⟩; exact h
  · intro h'; exact ⟨h, by omega, h'⟩
abbrev OpO (q : Int) (b d : Bool) (l m : List Int) (e : List Bool) : AObj := ⟨[I q, B b, B d, IL l, IL m, BL e], 0, 0, none⟩
theorem modeF_own {q : Int} {l ms : List Int} {k : Int} (h : OptOk q l ∧ 0 ≤ k) (h1 : (ms.length : Int) > 0) (h2 : HasC l (ms.getD (k % ms.length).toNat 0)) : ms.getD (k % ms.length).toNat 0 = modeF q l ms k := by
  rw [modeF, if_pos h, if_pos ⟨by rintro rfl; simp at h1, h2⟩]
theorem modeF_first {q : Int} {l ms : List Int} {k : Int} {i : Nat} (h : OptOk q l ∧ 0 ≤ k) (h1 : ¬ ((ms.length : Int) > 0) ∨ ¬ HasC l (ms.getD (k % ms.length).toNat 0)) (hi : i < 6) (h2 : ∀ j < i, l.getD j 0 = 0) (h3 : l.getD i 0 ≠ 0) : (i : Int) = modeF q l ms k := by
  have h6 := h.1.2.2.1
  rw [modeF, if_pos h, if_neg, firstM_eq (by omega) h2 h3]
  rintro ⟨a, b⟩
  rcases h1 with h1 | h1
  · exact a (List.eq_nil_of_length_eq_zero (by omega))
  · exact h1 b
theorem first_go {l : List Int} (h : CodeOk l) {i : Nat} (hi : i < 6) (h1 : ∀ j < i, l.getD j 0 = 0) (h2 : l.getD i 0 = 0) : i + 1 < 6 ∧ ∀ j < i + 1, l.getD j 0 = 0 := by
  have key : ∀ j < i + 1, l.getD j 0 = 0 := by
    intro j hj
    by_cases e : j = i
    · subst e; exact h2
    · exact h1 j (by omega)
  refine ⟨?_, key⟩
  obtain ⟨m, a, b⟩ := code_some h
  rcases Nat.lt_or_ge (i + 1) 6 with h' | h'
  · exact h'
  · exact absurd (key m (by omega)) b
end Go.Proofs.Ytgbahnaejajdgaa

/- Contracts of the counts over a stream, and of the laws FnExactNonZeros and FnExactModeCounts. No condition. -/
namespace Go.Proofs.Ytgbahnaejajdgaa
open Go Go.Abs
set_option linter.unusedVariables false
set_option linter.unusedSimpArgs false
set_option maxRecDepth 100000
set_option maxHeartbeats 4000000
attribute [local irreducible] WpA WpL Rnd Blk Abs.Seq Abs.Fin Abs.FinG FnC FnG Only

def nz1 (x : Int) : Nat := if x = 0 then 0 else 1
def nzB (b : Blok) : Nat := (b.2.map nz1).sum
def nzM (m : Mbk) : Nat := (m.2.map nzB).sum
theorem sum_bd {α : Type} (f g : α → Nat) (h : ∀ a, f a ≤ g a) (l : List α) : (l.map f).sum ≤ (l.map g).sum := by
  induction l with
  | nil => simp
  | cons a l ih => simp only [List.map_cons, List.sum_cons]; have := h a; omega
theorem sum_ones {α : Type} (f : α → Nat) (h : ∀ a, f a ≤ 1) (l : List α) : (l.map f).sum ≤ l.length := by
  induction l with
  | nil => simp
  | cons a l ih => simp only [List.map_cons, List.sum_cons, List.length_cons]; have := h a; omega
theorem nz1_bd (x : Int) : nz1 x ≤ 1 := by unfold nz1; split <;> omega
theorem nzB_bd (b : Blok) : nzB b ≤ bn b := sum_ones nz1 nz1_bd b.2
theorem nzM_bd (m : Mbk) : nzM m ≤ mn m := by
  have := sum_bd nzB bn nzB_bd m.2
  unfold nzM mn bw; omega
theorem nzAll_bd (M : List Mbk) : (M.map nzM).sum ≤ mw M := by
  have := sum_bd nzM mn nzM_bd M
  unfold mw; omega
/-! How often each mode occurs. -/
def modeNames : List (List UInt8) := [[109, 101, 97, 110], [100, 111, 119, 110], [97, 99, 114, 111, 115, 115], [115, 108, 111, 112, 101], [108, 101, 102, 116], [114, 105, 103, 104, 116]]
def modeW (m : Int) : List UInt8 := if 0 ≤ m ∧ m ≤ 5 then modeNames.getD m.toNat [] else []
theorem modeW_nil (m : Int) : modeW m = [] ↔ ¬ (0 ≤ m ∧ m ≤ 5) := by
  have key : ∀ k : Fin 6, modeNames.getD k.val [] ≠ [] := by decide
  unfold modeW
  constructor
  · intro h hm
    rw [if_pos hm] at h
    exact key ⟨m.toNat, by omega⟩ h
  · intro h; rw [if_neg h]
def addAt (c : List Int) (m : Int) : List Int := if 0 ≤ m ∧ m ≤ 5 then c.set m.toNat (c.getD m.toNat 0 + 1) else c
def mcB (c : List Int) (bs : List Blok) (k : Nat) : List Int := (bs.take k).foldl (fun c b => addAt c b.1) c
def mcM (M : List Mbk) (i : Nat) : List Int := (M.take i).foldl (fun c m => mcB c m.2 m.2.length) [0, 0, 0, 0, 0, 0]
theorem mcB_succ (c : List Int) (bs : List Blok) (k : Nat) (h : k < bs.length) : mcB c bs (k + 1) = addAt (mcB c bs k) (bs.getD k default).1 := by unfold mcB; rw [take_snoc bs k h, List.foldl_append]; rfl
theorem mcM_succ (M : List Mbk) (i : Nat) (h : i < M.length) : mcM M (i + 1) = mcB (mcM M i) (M.getD i default).2 (M.getD i default).2.length := by unfold mcM; rw [take_snoc M i h, List.foldl_append]; rfl
theorem addAt_len (c : List Int) (m : Int) : (addAt c m).length = c.length := by unfold addAt; split <;> simp
theorem mcB_len (c : List Int) (bs : List Blok) (k : Nat) : (mcB c bs k).length = c.length := by
  unfold mcB
  generalize bs.take k = l
  induction l generalizing c with
  | nil => rfl
  | cons b l ih => rw [List.foldl_cons, ih, addAt_len]
theorem mcM_len (M : List Mbk) (i : Nat) : (mcM M i).length = 6 := by
  have key : ∀ (l : List Mbk) (c : List Int), (l.foldl (fun c m => mcB c m.2 m.2.length) c).length = c.length := by
    intro l
    induction l with
    | nil => intro c; rfl
    | cons b l ih => intro c; rw [List.foldl_cons, ih, mcB_len]
  unfold mcM; rw [key]; rfl
theorem in_mono {l : List Int} {lo hi hi2 : Int} (h : In l lo hi) (hh : hi ≤ hi2) : In l lo hi2 := by unfold In at *; intro v hv; have := h v hv; omega
theorem in_set {l : List Int} {lo hi v : Int} (h : In l lo hi) (hv : lo ≤ v ∧ v ≤ hi) (i : Nat) : In (l.set i v) lo hi := by
  unfold In at *; intro x hx
  rcases List.mem_or_eq_of_mem_set hx with hx | hx
  · exact h x hx
  · subst hx; exact hv
theorem addAt_in {c : List Int} {m n : Int} (h : In c 0 n) (hc : c.length = 6) : In (addAt c m) 0 (n + 1) := by
  unfold addAt; split
  · rename_i hm
    have := in_get h (k := m.toNat) (by omega)
    exact in_set (in_mono h (by omega)) (by omega) _
  · exact in_mono h (by omega)
theorem addAt_yes {c : List Int} {m : Int} (h : 0 ≤ m ∧ m ≤ 5) : addAt c m = c.set m.toNat (c.getD m.toNat 0 + 1) := if_pos h
theorem addAt_no {c : List Int} {m : Int} (h : ¬ (0 ≤ m ∧ m ≤ 5)) : addAt c m = c := if_neg h
end Go.Proofs.Ytgbahnaejajdgaa

/- Contracts: what lies around a square, the predictions, residuals. No condition. -/
namespace Go.Proofs.Ytgbahnaejajdgaa
open Go Go.Abs
set_option linter.unusedVariables false
set_option linter.unusedSimpArgs false
set_option maxRecDepth 100000
set_option maxHeartbeats 4000000
attribute [local irreducible] WpA WpL Rnd Blk Abs.Seq Abs.Fin Abs.FinG FnC FnG Only

/-! Sides. -/
def side (k : Nat) : Int := if k = 16 then 4 else if k = 64 then 8 else 0
theorem side_pos (k : Nat) : 0 < side k ↔ k = 16 ∨ k = 64 := by unfold side; split <;> (try split) <;> omega
theorem side_cases (k : Nat) : (k = 16 ∧ side k = 4) ∨ (k = 64 ∧ side k = 8) ∨ (k ≠ 16 ∧ k ≠ 64 ∧ side k = 0) := by unfold side; split <;> (try split) <;> omega
instance SizeOk_s : Con 47 (∀ n : Int, Fn 47 [I n] [] (B (decide (n = 4 ∨ n = 8)))) := ⟨fun n => by
  refine FnC.of_body tabOk Try.func47 Try.ntmps47 rfl (by decide +kernel) (by simp) fun G => ?_
  refine go (r := ?_); and_intros <;> intros <;> try exact True.intro
  all_goals simp_all⟩
instance SizeOk_c : Con 54 (∀ n : Int, Fn 54 [I n] [] (B (decide (n = 4 ∨ n = 8)))) := ⟨fun n => by
  refine FnC.of_body tabOk Try.func54 Try.ntmps54 rfl (by decide +kernel) (by simp) fun G => ?_
  refine go (r := ?_); and_intros <;> intros <;> try exact True.intro
  all_goals simp_all⟩
instance l9Side_s : Con 88 (∀ l : List Int, l.length ≤ 9223372036854775807 → Fn 88 [IL l] [] (I (side l.length))) := ⟨fun l hl => by
  refine FnC.of_body tabOk Try.func88 Try.ntmps88 rfl (by decide +kernel) (by simp) fun G => ?_
  have h := side_cases l.length
  refine go (r := ?_); and_intros <;> intros <;> try exact True.intro⟩
instance sizeOf_c : Con 81 (∀ k : Nat, Fn 81 [I k] [] (I (side k))) := ⟨fun k => by
  refine FnC.of_body tabOk Try.func81 Try.ntmps81 rfl (by decide +kernel) (by simp) fun G => ?_
  have h := side_cases k
  refine go (r := ?_); and_intros <;> intros <;> try exact True.intro⟩

/-! Sums. -/
def psum (l : List Int) (k : Nat) : Int := (l.take k).sum
theorem psum_zero (l : List Int) : psum l 0 = 0 := by simp [psum]
theorem psum_succ (l : List Int) (k : Nat) (h : k < l.length) : psum l (k + 1) = psum l k + l.getD k 0 := by
  unfold psum; rw [List.take_succ_eq_append_getElem h, List.sum_append]; simp [h]
theorem psum_all (l : List Int) : psum l l.length = l.sum := by simp [psum]
theorem psum_bd {l : List Int} (h : In l 0 255) (k : Nat) (hk : k ≤ l.length) : 0 ≤ psum l k ∧ psum l k ≤ 255 * k := by
  induction k with
  | zero => simp [psum]
  | succ k ih =>
    have h1 := in_get h (k := k) (by omega)
    have h2 := ih (by omega)
    rw [psum_succ l k (by omega)]; omega
theorem in_take {l : List Int} {lo hi : Int} (h : In l lo hi) (k : Nat) : In (l.take k) lo hi := by unfold In at *; intro v hv; exact h v (List.mem_of_mem_take hv)
instance Clone_c : Con 83 (∀ l : List Int, l.length ≤ 1099511627776 → Fn 83 [IL l] [XI l] (.own 0 0 0 l.length)) := ⟨fun l hl => by
  refine FnC.of_body tabOk Try.func83 Try.ntmps83 rfl (by decide +kernel) (by simp) fun G => ?_
  refine go (r := ?_); and_intros <;> intros <;> try exact True.intro
  all_goals (have e : l = [] := List.eq_nil_of_length_eq_zero (by omega)); subst e; rfl⟩
/-- The first i and the last i turned. -/
def revp (l : List Int) (i : Nat) : List Int := (List.range l.length).map fun k => if k < i ∨ l.length - 1 - k < i then l.getD (l.length - 1 - k) 0 else l.getD k 0
theorem revp_len (l : List Int) (i : Nat) : (revp l i).length = l.length := by simp [revp]
theorem revp_zero (l : List Int) : revp l 0 = l := by
  apply eq_all 0 (by rw [revp_len])
  intro j hj
  rw [revp_len] at hj
  simp [revp, hj]
theorem revp_get (l : List Int) (i j : Nat) (hj : j < l.length) : (revp l i).getD j 0 = if j < i ∨ l.length - 1 - j < i then l.getD (l.length - 1 - j) 0 else l.getD j 0 := by
  simp only [revp, List.getD_eq_getElem?_getD, List.getElem?_map, List.getElem?_range hj, Option.map_some, Option.getD_some]
theorem rev_get (l : List Int) (j : Nat) (hj : j < l.length) : l.reverse.getD j 0 = l.getD (l.length - 1 - j) 0 := by
  simp only [List.getD_eq_getElem?_getD, List.getElem?_reverse hj]
theorem revp_end (l : List Int) (i : Nat) (h : l.length ≤ 2 * i + 1) : revp l i = l.reverse := by
  apply eq_all 0 (by rw [revp_len, List.length_reverse])
  intro j hj
  rw [revp_len] at hj
  rw [revp_get l i j hj, rev_get l j hj]
  split
  · rfl
  · have : l.length - 1 - j = j := by omega
    rw [this]
theorem revp_step (l : List Int) (i : Nat) (h : 2 * i + 1 < l.length) : ((revp l i).set i ((revp l i).getD (l.length - 1 - i) 0)).set (l.length - 1 - i) ((revp l i).getD i 0) = revp l (i + 1) := by
  have e1 : (revp l i).getD (l.length - 1 - i) 0 = l.getD (l.length - 1 - i) 0 := by
    rw [revp_get l i _ (by omega), if_neg (by omega)]
  have e2 : (revp l i).getD i 0 = l.getD i 0 := by
    rw [revp_get l i _ (by omega), if_neg (by omega)]
  rw [e1, e2]
  apply eq_all 0 (by simp [revp_len])
  intro j hj
  simp only [List.length_set, revp_len] at hj
  rw [revp_get l (i + 1) j hj, List.getD_eq_getElem?_getD, List.getElem?_set, List.getElem?_set]
  simp only [List.length_set, revp_len]
  by_cases c1 : l.length - 1 - i = j
  · rw [if_pos c1, if_pos (by omega), if_pos (by omega), Option.getD_some]; congr 1; omega
  · rw [if_neg c1]
    by_cases c2 : i = j
    · rw [if_pos c2, if_pos (by omega), if_pos (by omega), Option.getD_some, c2]
    · rw [if_neg c2, ← List.getD_eq_getElem?_getD, revp_get l i j hj]
      by_cases c3 : j < i ∨ l.length - 1 - j < i
      · rw [if_pos c3, if_pos (by omega)]
      · rw [if_neg c3, if_neg (by omega)]
end Go.Proofs.Ytgbahnaejajdgaa

/- Contracts: headers, levels, blocks, macroblocks, streams that are right. No condition. -/
namespace Go.Proofs.Ytgbahnaejajdgaa
open Go Go.Abs
set_option linter.unusedVariables false
set_option linter.unusedSimpArgs false
set_option maxRecDepth 100000
set_option maxHeartbeats 4000000
attribute [local irreducible] WpA WpL Rnd Blk Abs.Seq Abs.Fin Abs.FinG FnC FnG Only

/-! Headers. -/
abbrev HdOk (w h q : Int) (l : List Int) : Prop := SidesOk w h ∧ (0 ≤ q ∧ q ≤ 51) ∧ CodeOk l
def cntM (w h : Int) : Int := w / 8 * (h / 8)
theorem cntM_bd {w h : Int} (hs : SidesOk w h) : (0 ≤ w / 8 ∧ w / 8 ≤ 4) ∧ (0 ≤ h / 8 ∧ h / 8 ≤ 4) ∧ 0 ≤ cntM w h ∧ cntM w h ≤ 16 := by
  have h1 : 0 ≤ w / 8 ∧ w / 8 ≤ 4 := by omega
  have h2 : 0 ≤ h / 8 ∧ h / 8 ≤ 4 := by omega
  refine ⟨h1, h2, Int.mul_nonneg h1.1 h2.1, ?_⟩
  have := Int.mul_le_mul h1.2 h2.2 h2.1 (by decide)
  exact this
instance l24Count_s : Con 131 (∀ (w h q : Int) (b d : Bool) (l : List Int), SidesOk w h → Fn 131 [HdA w h q b d l] [] (I (cntM w h))) := ⟨fun w h q b d l hs => by
  have := cntM_bd hs
  unfold cntM at *
  refine FnC.of_body tabOk Try.func131 Try.ntmps131 rfl (by decide +kernel) (by simp) fun G => ?_
  refine go (r := ?_); and_intros <;> intros <;> try exact True.intro⟩
instance many_c : Con 135 (∀ (w h q : Int) (b d : Bool) (l : List Int), SidesOk w h → Fn 135 [HdA w h q b d l] [] (I (cntM w h))) := ⟨fun w h q b d l hs => by
  have := cntM_bd hs
  unfold cntM at *
  refine FnC.of_body tabOk Try.func135 Try.ntmps135 rfl (by decide +kernel) (by simp) fun G => ?_
  refine go (r := ?_); and_intros <;> intros <;> try exact True.intro⟩

/-! Levels. -/
abbrev LvOk (l : List Int) : Prop := In l (-16383) 16383 ∧ (l.length = 16 ∨ l.length = 64)
instance LevelsOk_s : Con 104 (∀ l : List Int, l.length ≤ 1099511627776 → Fn 104 [IL l] [] (B (decide (LvOk l)))) := ⟨fun l hl => by
  have hsp := side_pos l.length
  refine FnC.of_body tabOk Try.func104 Try.ntmps104 rfl (by decide +kernel) (by simp) fun G => ?_
  refine go (r := ?_); and_intros <;> intros <;> try exact True.intro
  refine WpA.loop (fun k : Nat => ⟨[(0, IL l), (3, I k)], []⟩) (fun k => k ≤ l.length ∧ In (l.take k) (-16383) 16383) (fun k => l.length - k) 0 (by simp [in_nil]) (go (r := ?_)) (fun k hk => ?_)
  · trivial
  have hi := fun h => in_snoc (lo := -16383) (hi := 16383) (l := l) (k := k) h
  refine go (r := ?_); and_intros <;> intros <;> try exact True.intro
  · have := notin (k := k) (by omega) ‹¬ (-16383 ≤ l.getD k 0 ∧ _)›; rw [eq_comm, decide_eq_false_iff_not] at *; exact fun h => this h.1
  · rw [hi (by omega)]; exact ⟨hk.2, ‹_›⟩
  all_goals have e : k = l.length := by omega
  all_goals subst e
  all_goals rw [List.take_length] at *
  simp [hk.2, hsp]⟩
instance LevelsOk_c : Con 39 (∀ l : List Int, l.length ≤ 1099511627776 → Fn 39 [IL l] [] (B (decide (LvOk l)))) := ⟨fun l hl => by
  have hsp := side_pos l.length
  refine FnC.of_body tabOk Try.func39 Try.ntmps39 rfl (by decide +kernel) (by simp) fun G => ?_
  refine go (r := ?_); and_intros <;> intros <;> try exact True.intro
  refine WpA.loop (fun k : Nat => ⟨[(0, IL l), (5, IL l), (6, I l.length), (7, I k)], []⟩) (fun k => k ≤ l.length ∧ In (l.take k) (-16383) 16383) (fun k => l.length - k) 0 (by simp [in_nil]) (go (r := ?_)) (fun k hk => ?_)
  · trivial
  have hi := fun h => in_snoc (lo := -16383) (hi := 16383) (l := l) (k := k) h
  refine go (r := ?_); and_intros <;> intros <;> try exact True.intro
  · have := notin (k := k) (by omega) ‹¬ (-16383 ≤ l.getD k 0 ∧ _)›; rw [eq_comm, decide_eq_false_iff_not] at *; exact fun h => this h.1
  · rw [hi (by omega)]; exact ⟨hk.2, ‹_›⟩
  all_goals have e : k = l.length := by omega
  all_goals subst e
  all_goals rw [List.take_length] at *
  simp [hk.2, hsp]⟩

/-! Blocks. -/
abbrev BlkOk (m : Int) (lv : List Int) (lens : List Int) (n : Int) : Prop := (n = 4 ∨ n = 8) ∧ HasC lens m ∧ (lv.length : Int) = n * n ∧ LvOk lv
/-! The first place that passes a test. -/
def ixF {α : Type} (p : α → Bool) (l : List α) : Int := if l.any p = true then (l.findIdx p : Int) else -1
theorem ixF_at {α : Type} [Inhabited α] {p : α → Bool} {l : List α} {i : Nat} (hi : i < l.length) (h0 : ∀ j < i, p (l.getD j default) = false) (h1 : p (l.getD i default) = true) : (i : Int) = ixF p l := by
  have hg : ∀ j (hj : j < l.length), l.getD j default = l[j] := fun j hj => by simp [hj]
  unfold ixF
  rw [if_pos (List.any_eq_true.2 ⟨l[i], List.getElem_mem hi, by rw [← hg i hi]; exact h1⟩)]
  congr 1
  rw [eq_comm, List.findIdx_eq hi]
  exact ⟨by rw [← hg i hi]; exact h1, fun j hj => by rw [← hg j (by omega)]; exact h0 j hj⟩
theorem ixF_no {α : Type} [Inhabited α] {p : α → Bool} {l : List α} (h0 : ∀ j < l.length, p (l.getD j default) = false) : -1 = ixF p l := by
  have hg : ∀ j (hj : j < l.length), l.getD j default = l[j] := fun j hj => by simp [hj]
  unfold ixF
  rw [if_neg]
  intro h
  obtain ⟨x, hx, hp⟩ := List.any_eq_true.1 h
  obtain ⟨j, hj, rfl⟩ := List.getElem_of_mem hx
  have := h0 j hj
  rw [hg j hj, hp] at this; cases this
theorem ixF_bd {α : Type} (p : α → Bool) (l : List α) : -1 ≤ ixF p l ∧ ixF p l ≤ l.length := by
  unfold ixF; split
  · have := List.findIdx_le_length (p := p) (xs := l); omega
  · omega
theorem ixF_ge {α : Type} (p : α → Bool) (l : List α) : ixF p l ≥ 0 ↔ l.any p = true := by
  unfold ixF; split
  · rename_i h; simp [h]
  · rename_i h; simp [h]
theorem any_not {α : Type} (q : α → Prop) [DecidablePred q] (l : List α) : (l.any fun a => decide (¬ q a)) = true ↔ ¬ ∀ a ∈ l, q a := by
  rw [List.any_eq_true]
  constructor
  · rintro ⟨a, ha, h⟩ hh; exact (of_decide_eq_true h) (hh a ha)
  · intro h
    exact Decidable.byContradiction fun hh => h fun a ha => Decidable.byContradiction fun hq => hh ⟨a, ha, decide_eq_true hq⟩

/-! Macroblocks. -/
def badB (lens : List Int) (n : Int) (b : Blok) : Bool := decide (¬ BlkOk b.1 b.2 lens n)
end Go.Proofs.Ytgbahnaejajdgaa

/- Contracts: macroblocks and streams that are right, pairs, the work of a stream. No condition. -/
namespace Go.Proofs.Ytgbahnaejajdgaa
open Go Go.Abs
set_option linter.unusedVariables false
set_option linter.unusedSimpArgs false
set_option maxRecDepth 100000
set_option maxHeartbeats 4000000
attribute [local irreducible] WpA WpL Rnd Blk Abs.Seq Abs.Fin Abs.FinG FnC FnG Only

theorem any_at {α : Type} [Inhabited α] {p : α → Bool} {l : List α} {i : Nat} (hi : i < l.length) (h : p (l.getD i default) = true) : l.any p = true :=
  List.any_eq_true.2 ⟨l.getD i default, by simp [hi], h⟩
theorem any_none {α : Type} [Inhabited α] {p : α → Bool} {l : List α} (h : ∀ j < l.length, p (l.getD j default) = false) : l.any p = false := by
  rw [List.any_eq_false]
  intro x hx
  obtain ⟨j, hj, rfl⟩ := List.getElem_of_mem hx
  have := h j hj
  have e : l.getD j default = l[j] := by simp [hj]
  rw [e] at this; simp [this]
theorem any_get {α : Type} [Inhabited α] {p : α → Bool} {l : List α} (h : l.any p = false) {i : Nat} (hi : i < l.length) : p (l.getD i default) = false := by
  cases hp : p (l.getD i default) with
  | false => rfl
  | true => rw [any_at hi hp] at h; cases h
def sz8 (e : Bool) : Int := bif e then 8 else 4
def nm8 (e : Bool) : Int := bif e then 1 else 4
theorem sz8_cases (e : Bool) : (sz8 e = 4 ∧ nm8 e = 4) ∨ (sz8 e = 8 ∧ nm8 e = 1) := by cases e <;> simp [sz8, nm8]
instance l23Side_s : Con 138 (∀ e : Bool, Fn 138 [B e] [] (I (sz8 e))) := ⟨fun e => by
  cases e
  · refine FnC.of_body tabOk Try.func138 Try.ntmps138 rfl (by decide +kernel) (by simp) fun G => ?_
    refine go (r := ?_); and_intros <;> intros <;> try exact True.intro
    all_goals rfl
  · refine FnC.of_body tabOk Try.func138 Try.ntmps138 rfl (by decide +kernel) (by simp) fun G => ?_
    refine go (r := ?_); and_intros <;> intros <;> try exact True.intro
    all_goals rfl⟩
instance shape_c : Con 143 (∀ e : Bool, Fn 143 [B e] [] (.tup [I (nm8 e), I (sz8 e)])) := ⟨fun e => by
  cases e
  · refine FnC.of_body tabOk Try.func143 Try.ntmps143 rfl (by decide +kernel) (by simp) fun G => ?_
    refine go (r := ?_); and_intros <;> intros <;> try exact True.intro
    all_goals rfl
  · refine FnC.of_body tabOk Try.func143 Try.ntmps143 rfl (by decide +kernel) (by simp) fun G => ?_
    refine go (r := ?_); and_intros <;> intros <;> try exact True.intro
    all_goals rfl⟩
abbrev MbkOk (e : Bool) (bs : List Blok) (lens : List Int) : Prop := (bs.length : Int) = nm8 e ∧ bs.any (badB lens (sz8 e)) = false
/-! Streams. -/
def badM (lens : List Int) (m : Mbk) : Bool := decide (¬ MbkOk m.1 m.2 lens)
abbrev StC (w h q : Int) (b d : Bool) (l : List Int) (M : List Mbk) : List AV := [I w, I h, I q, B b, B d, IL l, MbL M]
abbrev StOk (w h q : Int) (l : List Int) (M : List Mbk) : Prop := HdOk w h q l ∧ (M.length : Int) = cntM w h ∧ M.any (badM l) = false
theorem Weak.eqv {m d : Nat} {V V' : AV} {T : List (Nat × AV)} {O : List AObj} (h : V = V') : Weak m ⟨(d, V) :: T, O⟩ ⟨(d, V') :: T, O⟩ := by subst h; exact fun n G a w h => h
/-! Pairs. -/
def pk (l : List Int) : Nat → List (Int × Int) × Int
  | 0 => ([], 0)
  | k + 1 => if l.getD k 0 = 0 then ((pk l k).1, (pk l k).2 + 1) else ((pk l k).1 ++ [((pk l k).2, l.getD k 0)], 0)
def prsL (l : List Int) : List (Int × Int) := if LvOk l then (pk l l.length).1 else []
theorem pk_bd (l : List Int) : ∀ k, (pk l k).1.length ≤ k ∧ 0 ≤ (pk l k).2 ∧ (pk l k).2 ≤ k
  | 0 => by simp [pk]
  | k + 1 => by have := pk_bd l k; rw [pk]; split <;> simp <;> omega
theorem pk_nz (l : List Int) : ∀ k, k ≤ l.length → (pk l k).1.length = ((l.take k).map nz1).sum
  | 0, _ => by simp [pk]
  | k + 1, hk => by
    have ih := pk_nz l k (by omega)
    rw [take_snoc l k (by omega), List.map_append, List.sum_append, pk]
    have e : l.getD k default = l.getD k 0 := rfl
    rw [e]
    split
    · rename_i h; rw [h]; simp [nz1, ih]
    · rename_i h; have e2 : nz1 (l.getD k 0) = 1 := if_neg h
      simp only [List.map_cons, List.map_nil, List.sum_cons, List.sum_nil, e2, List.length_append, List.length_singleton, ih, Nat.add_zero]
theorem prs_nz {l : List Int} (h : LvOk l) : (prsL l).length = (l.map nz1).sum := by
  rw [prsL, if_pos h, pk_nz l _ (Nat.le_refl _), List.take_length]
abbrev XP (l : List (Int × Int)) : AObj := ⟨rows prF l, 0, 2, some 127⟩
/-! The work of a stream. -/
def wkB (b : Blok) : Nat := 2 + (if nzB b = 0 then 0 else 1 + 2 * nzB b)
def wkM (m : Mbk) : Nat := 1 + (m.2.map wkB).sum
def workL (w h q : Int) (l : List Int) (M : List Mbk) : Int := if StOk w h q l M then 7 + ((M.map wkM).sum : Nat) else 0
theorem sum_mul {α : Type} (f g : α → Nat) (h : ∀ a, f a ≤ 3 * g a) (l : List α) : (l.map f).sum ≤ 3 * (l.map g).sum := by
  induction l with
  | nil => simp
  | cons a l ih => simp only [List.map_cons, List.sum_cons]; have := h a; omega
theorem sum_one_add {α : Type} (g : α → Nat) (l : List α) : (l.map fun a => 1 + g a).sum = l.length + (l.map g).sum := by
  induction l with
  | nil => simp
  | cons a l ih => simp only [List.map_cons, List.sum_cons, List.length_cons, ih]; omega
theorem wkB_bd (b : Blok) : wkB b ≤ 3 * (1 + bn b) := by have := nzB_bd b; unfold wkB; split <;> omega
theorem wkM_bd (m : Mbk) : wkM m ≤ 3 * (1 + mn m) := by
  have h := sum_mul wkB (fun b => 1 + bn b) wkB_bd m.2
  rw [sum_one_add] at h
  unfold wkM mn bw; omega
theorem wk_bd (M : List Mbk) : (M.map wkM).sum ≤ 3 * mw M := by
  have h := sum_mul wkM (fun m => 1 + mn m) wkM_bd M
  rw [sum_one_add] at h
  unfold mw; omega
theorem ok_blk {w h q : Int} {l : List Int} {M : List Mbk} (hs : StOk w h q l M) {i : Nat} (hi : i < M.length) : MbkOk (M.getD i default).1 (M.getD i default).2 l := by
  have := any_get hs.2.2 hi
  unfold badM at this
  exact Decidable.not_not.1 (of_decide_eq_false this)
theorem ok_lv {e : Bool} {bs : List Blok} {l : List Int} (hs : MbkOk e bs l) {k : Nat} (hk : k < bs.length) : BlkOk (bs.getD k default).1 (bs.getD k default).2 l (sz8 e) := by
  have := any_get hs.2 hk
  unfold badB at this
  exact Decidable.not_not.1 (of_decide_eq_false this)
end Go.Proofs.Ytgbahnaejajdgaa

/- A nil slice as an owned slice of an object that has no place yet. No condition. -/
namespace Go.Abs
open Go
set_option linter.unusedVariables false
set_option linter.unusedSimpArgs false

/-- The same values; a nil slice may stand as the beginning of the object 'j'. -/
inductive Rz (O O' : List AObj) (j : Nat) : List AV → List AV → Prop
  | nil : Rz O O' j [] []
  | any {V vs us} : Rz O O' j vs us → Rz O O' j (V :: vs) (.any :: us)
  | keep {V V' vs us} : V = V' → V'.still = true → Rz O O' j vs us → Rz O O' j (V :: vs) (V' :: us)
  | own {id ep ep' off len len' ob ob' vs us} : O[id]? = some ob → O'[id]? = some ob' → ob.ep = ep → ob'.ep = ep' → ob'.size = ob.size → len = len' → Rz O O' j vs us → Rz O O' j (.own id ep off len :: vs) (.own id ep' off len' :: us)
  | ptr {id ep ep' off ob ob' vs us} : O[id]? = some ob → O'[id]? = some ob' → ob.ep = ep → ob'.ep = ep' → Rz O O' j vs us → Rz O O' j (.ptr id ep off :: vs) (.ptr id ep' off :: us)
  | agg {ds es vs us} : Rz O O' j ds es → Rz O O' j vs us → Rz O O' j (.agg ds :: vs) (.agg es :: us)
  | nilO {ob' k len vs us} : O'[k]? = some ob' → k = j → ob'.ep = 0 → 0 = len → Rz O O' j vs us → Rz O O' j (.nilS :: vs) (.own k 0 0 len :: us)

theorem Rz.same {O O' : List AObj} {j : Nat} {cs cs' : List AV} (h : cs = cs') (hs : cs'.all AV.still = true) : Rz O O' j cs cs' := by
  subst h
  induction cs with
  | nil => exact .nil
  | cons c cs ih =>
    simp only [List.all_cons, Bool.and_eq_true] at hs
    exact .keep rfl hs.1 (ih hs.2)

theorem Rz.rel {O O' : List AObj} {j : Nat} {S w} {ι ι' : Nat → Spot} (hj : ι' j = none) (hι : ∀ id, id < O.length → ι' id = ι id) {vs us : List AV} (h : Rz O O' j vs us) : ∀ {xs f}, LRel S w ι O vs xs f → ∃ f', LRel S w ι' O' us xs f' ∧ (∀ b ∈ f', b ∈ f) ∧ (f.Nodup → f'.Nodup) := by
  induction h with
  | nil => intro xs f hl; cases hl; exact ⟨[], .nil, by simp, by simp⟩
  | any _ ih =>
    intro xs f hl
    obtain ⟨v, vs', f1, f2, rfl, hv, hr, rfl⟩ := hl.uncons
    obtain ⟨f', h1, h2, h3⟩ := ih hr
    exact ⟨f', .any h1, fun b hb => List.mem_append_right _ (h2 b hb), fun hn => h3 (List.nodup_append.1 hn).2.1⟩
  | keep he hs _ ih =>
    intro xs f hl
    subst he
    obtain ⟨v, vs', f1, f2, rfl, hv, hr, rfl⟩ := hl.uncons
    obtain ⟨f', h1, h2, h3⟩ := ih hr
    refine ⟨f1 ++ f', LRel.cons (still_any hv hs O' (fun _ h => h) (fun _ _ => rfl) (fun _ _ => rfl)) h1, ?_, ?_⟩
    · intro b hb
      rcases List.mem_append.1 hb with hb | hb
      · exact List.mem_append_left _ hb
      · exact List.mem_append_right _ (h2 b hb)
    · intro hn
      obtain ⟨n1, n2, n3⟩ := List.nodup_append.1 hn
      exact List.nodup_append.2 ⟨n1, h3 n2, fun a ha b hb => n3 a ha b (h2 b hb)⟩
  | own ho ho' he he' hsz hln _ ih =>
    intro xs f hl
    subst hln
    obtain ⟨v, vs', f1, f2, rfl, hv, hr, rfl⟩ := hl.uncons
    obtain ⟨f', h1, h2, h3⟩ := ih hr
    refine ⟨f', ?_, fun b hb => List.mem_append_right _ (h2 b hb), fun hn => h3 (List.nodup_append.1 hn).2.1⟩
    cases hv with
    | own q1 q2 q3 r =>
      rw [ho] at q1; cases q1
      exact .own ho' (by omega) (fun _ => by rw [hsz, hι _ (List.getElem?_eq_some_iff.1 ho).1]; exact q3 he.symm) h1
  | ptr ho ho' he he' _ ih =>
    intro xs f hl
    obtain ⟨v, vs', f1, f2, rfl, hv, hr, rfl⟩ := hl.uncons
    obtain ⟨f', h1, h2, h3⟩ := ih hr
    refine ⟨f', ?_, fun b hb => List.mem_append_right _ (h2 b hb), fun hn => h3 (List.nodup_append.1 hn).2.1⟩
    cases hv with
    | ptr q1 q2 q3 r =>
      rw [ho] at q1; cases q1
      exact .ptr ho' (by omega) (fun _ => by rw [hι _ (List.getElem?_eq_some_iff.1 ho).1]; exact q3 he.symm) h1
  | agg _ _ ih1 ih2 =>
    intro xs f hl
    obtain ⟨v, vs', f1, f2, rfl, hv, hr, rfl⟩ := hl.uncons
    obtain ⟨us', rfl, ha⟩ := LRel.agg_inv hv
    obtain ⟨g', a1, a2, a3⟩ := ih1 ha
    obtain ⟨f', h1, h2, h3⟩ := ih2 hr
    refine ⟨g' ++ f', .agg a1 h1, ?_, ?_⟩
    · intro b hb
      rcases List.mem_append.1 hb with hb | hb
      · exact List.mem_append_left _ (a2 b hb)
      · exact List.mem_append_right _ (h2 b hb)
    · intro hn
      obtain ⟨n1, n2, n3⟩ := List.nodup_append.1 hn
      exact List.nodup_append.2 ⟨a3 n1, h3 n2, fun a ha b hb => n3 a (a2 a ha) b (h2 b hb)⟩
  | nilO hk hkj hep hlen _ ih =>
    intro xs f hl
    subst hkj; subst hlen
    obtain ⟨v, vs', f1, f2, rfl, hv, hr, rfl⟩ := hl.uncons
    obtain ⟨f', h1, h2, h3⟩ := ih hr
    refine ⟨f', ?_, fun b hb => List.mem_append_right _ (h2 b hb), fun hn => h3 (List.nodup_append.1 hn).2.1⟩
    cases hv with
    | nilS r => exact .own hk (by omega) (fun _ => by rw [hj]; exact ⟨rfl, rfl, rfl⟩) h1

inductive RzT (O O' : List AObj) (j : Nat) (T : List (Nat × AV)) : List (Nat × AV) → Prop
  | nil : RzT O O' j T []
  | cons {t V T'} : Rz O O' j [look T t] [V] → RzT O O' j T T' → RzT O O' j T ((t, V) :: T')
theorem RzT.at {O O' j T T'} (h : RzT O O' j T T') (t : Nat) : Rz O O' j [look T t] [look T' t] := by
  induction h with
  | nil => exact .any .nil
  | @cons k V T' hk _ ih =>
    by_cases he : k = t
    · subst he; rw [look_cons_same]; exact hk
    · rw [look_cons_other _ _ _ _ he]; exact ih
inductive RzO (O O' : List AObj) (j : Nat) : List AObj → List AObj → Prop
  | last {ob'} : ob'.cells = [] → RzO O O' j [] [ob']
  | cons {ob ob' os os'} : Rz O O' j ob.cells ob'.cells → (ob'.ty = none ∨ ob'.ty = ob.ty) → RzO O O' j os os' → RzO O O' j (ob :: os) (ob' :: os')
theorem RzO.len {O O' j os os'} (h : RzO O O' j os os') : os'.length = os.length + 1 := by
  induction h with
  | last => rfl
  | cons _ _ _ ih => simp [ih]
theorem RzO.at {O O' j os os'} (h : RzO O O' j os os') {id : Nat} {ob' : AObj} (hi : os'[id]? = some ob') : (id = os.length ∧ ob'.cells = []) ∨ ∃ ob, os[id]? = some ob ∧ Rz O O' j ob.cells ob'.cells ∧ (ob'.ty = none ∨ ob'.ty = ob.ty) := by
  induction h generalizing id with
  | last h =>
    cases id with
    | zero => simp at hi; subst hi; exact .inl ⟨rfl, h⟩
    | succ id => simp at hi
  | cons h1 h2 _ ih =>
    cases id with
    | zero => simp at hi; subst hi; exact .inr ⟨_, by simp, h1, h2⟩
    | succ id =>
      rcases ih (by simpa using hi) with ⟨h3, h4⟩ | ⟨ob, h3, h4⟩
      · exact .inl ⟨by simp [h3], h4⟩
      · exact .inr ⟨ob, by simpa using h3, h4⟩

theorem Weak.nil1 {m : Nat} {T T' : List (Nat × AV)} {O O' : List AObj} (hT : RzT O O' O.length T T') (hO : RzO O O' O.length O O') (hm : m ≤ O.length) : Weak m ⟨T, O⟩ ⟨T', O'⟩ := by
  rintro n G a w ⟨S, ι, F, hr⟩
  have hlen := hO.len
  have hι0 : (fun id => if id < O.length then ι id else none) O.length = none := by simp
  have hι1 : ∀ id, id < O.length → (fun id => if id < O.length then ι id else none) id = ι id := fun id h => by simp [h]
  generalize (fun id => if id < O.length then ι id else none) = ι' at hι0 hι1
  have hex : ∀ id, ∃ f, ∀ ob', O'[id]? = some ob' → ObjAt S w ι' O' ob' (ι' id) f ∧ (∀ b ∈ f, id < O.length ∧ b ∈ F id) ∧ f.Nodup := by
    intro id
    cases hi : O'[id]? with
    | none => exact ⟨[], by simp⟩
    | some ob' =>
      rcases hO.at hi with ⟨h1, h2⟩ | ⟨ob, ho, hre, hty⟩
      · refine ⟨[], fun ob2 h3 => ?_⟩
        cases h3
        refine ⟨?_, by simp, by simp⟩
        rw [h1, hι0]
        unfold ObjAt
        exact ⟨h2, rfl⟩
      have hid : id < O.length := (List.getElem?_eq_some_iff.1 ho).1
      have hob := hr.objs.obj id ob ho
      unfold ObjAt at hob
      cases hs : ι id with
      | none =>
        rw [hs] at hob
        refine ⟨[], fun ob2 h2 => ?_⟩
        cases h2
        refine ⟨?_, by simp, by simp⟩
        rw [hob.1] at hre
        unfold ObjAt
        rw [hι1 id hid, hs]
        cases hc : ob'.cells with
        | nil => exact ⟨rfl, rfl⟩
        | cons c cs => rw [hc] at hre; cases hre
      | some p =>
        obtain ⟨b, k⟩ := p
        rw [hs] at hob
        obtain ⟨cur, t, fz, f', hF, h1, h2, h3, h4, h5, h6⟩ := hob
        obtain ⟨g, g1, g2, g3⟩ := hre.rel hι0 hι1 h6
        have hnd : (b :: f').Nodup := by rw [← hF]; exact hr.objs.nodup id hid
        have hlen : ob'.cells.length = ob.cells.length := by
          have e1 := g1.len
          have e2 := h6.len
          omega
        refine ⟨b :: g, fun ob2 hh => ?_⟩
        cases hh
        rw [hι1 id hid, hs]
        refine ⟨⟨cur, t, fz, g, rfl, h1, h2, by omega, h4, fun e he => ?_, by rw [hlen]; exact g1⟩, ?_, ?_⟩
        · rcases hty with hty | hty
          · rw [hty] at he; cases he
          · exact h5 e (by rw [← hty]; exact he)
        · intro b' hb'
          rw [hF]
          rcases List.mem_cons.1 hb' with rfl | hb'
          · simp [hid]
          · simp [g2 b' hb', hid]
        · exact List.nodup_cons.2 ⟨fun hb => (List.nodup_cons.1 hnd).1 (g2 b hb), g3 (List.nodup_cons.1 hnd).2⟩
  have hFx : ∃ F' : Nat → List Nat, ∀ id ob', O'[id]? = some ob' → ObjAt S w ι' O' ob' (ι' id) (F' id) ∧ (∀ b ∈ F' id, id < O.length ∧ b ∈ F id) ∧ (F' id).Nodup :=
    ⟨fun id => (hex id).choose, fun id => (hex id).choose_spec⟩
  obtain ⟨F', hF'⟩ := hFx
  refine ⟨S, ι', F', hr.defers, hr.size, fun t => ?_, ⟨fun id ob' h => (hF' id ob' h).1, fun id h => (hF' id _ (List.getElem?_eq_getElem h)).2.2, fun i j hi hj hij b hb hb' => ?_⟩, fun id h b hb => ?_, hr.base, hr.stable, hr.keeps, fun id h => ?_, by show m ≤ O'.length; omega⟩
  · obtain ⟨f', h1, h2, _⟩ := (hT.at t).rel hι0 hι1 (hr.tmps t)
    have : f' = [] := List.eq_nil_iff_forall_not_mem.2 fun b hb => by simpa using h2 b hb
    subst this
    exact h1
  · have hi : i < O'.length := hi
    have hj : j < O'.length := hj
    obtain ⟨a1, a2⟩ := (hF' i _ (List.getElem?_eq_getElem hi)).2.1 b hb
    obtain ⟨b1, b2⟩ := (hF' j _ (List.getElem?_eq_getElem hj)).2.1 b hb'
    exact hr.objs.apart i j a1 b1 hij b a2 b2
  · have h : id < O'.length := h
    obtain ⟨a1, a2⟩ := (hF' id _ (List.getElem?_eq_getElem h)).2.1 b hb
    exact hr.foot id a1 b a2
  · rw [hι1 id (by omega)]; exact hr.spots id h
end Go.Abs

/- Contracts: blocks, macroblocks and streams that are read by the program. No condition. -/
namespace Go.Proofs.Ytgbahnaejajdgaa
open Go Go.Abs
set_option linter.unusedVariables false
set_option linter.unusedSimpArgs false
set_option maxRecDepth 100000
set_option maxHeartbeats 4000000
attribute [local irreducible] WpA WpL Rnd Blk Abs.Seq Abs.Fin Abs.FinG FnC FnG Only

abbrev BkV (m : Int) (l : List Int) : AV := .agg [I m, .own 0 0 0 l.length]
theorem blS_1 {p : List UInt8} {s : Int} {lens : List Int} {n : Int} (hn : n = 4 ∨ n = 8) (hs : smC p s lens = 0) (hc : (lvS p (smA p s lens) n).c = 0) : blS p s lens n = ⟨(lvS p (smA p s lens) n).a, 0, smV p s lens, (lvS p (smA p s lens) n).out⟩ := by
  unfold blS; rw [if_pos hn, if_pos hs]; simp only; rw [if_pos hc]
theorem blS_2 {p : List UInt8} {s : Int} {lens : List Int} {n : Int} (hn : n = 4 ∨ n = 8) (hs : smC p s lens = 0) (hc : (lvS p (smA p s lens) n).c ≠ 0) : blS p s lens n = ⟨(lvS p (smA p s lens) n).a, (lvS p (smA p s lens) n).c, 0, []⟩ := by
  unfold blS; rw [if_pos hn, if_pos hs]; simp only; rw [if_neg hc]
theorem blS_3 {p : List UInt8} {s : Int} {lens : List Int} {n : Int} (hn : n = 4 ∨ n = 8) (hs : smC p s lens ≠ 0) : blS p s lens n = ⟨s, smC p s lens, 0, []⟩ := by
  unfold blS; rw [if_pos hn, if_neg hs]
theorem blS_4 {p : List UInt8} {s : Int} {lens : List Int} {n : Int} (hn : ¬ (n = 4 ∨ n = 8)) : blS p s lens n = ⟨s, 5, 0, []⟩ := by
  unfold blS; rw [if_neg hn]
theorem smA_bad {p : List UInt8} {s : Int} {l : List Int} (h : smC p s l ≠ 0) : smA p s l = s := by rw [smA, if_neg h]
instance ReadBlock_c : Con 144 (∀ (p : List UInt8) (s : Int) (lens : List Int) (n : Int), p.length ≤ 1099511627776 ∧ lens.length ≤ 1099511627776 → Fn 144 [RA p s, IL lens, I n] [XI (blS p s lens n).l] (.tup [RA p (blS p s lens n).a, BkV (blS p s lens n).m (blS p s lens n).l, I (blS p s lens n).c])) := ⟨fun p s lens n hl => by
  refine FnC.of_body tabOk Try.func144 Try.ntmps144 rfl (by decide +kernel) (by simp) fun G => ?_
  by_cases hn : n = 4 ∨ n = 8
  · by_cases hs : smC p s lens = 0
    · refine go (r := ?_); and_intros <;> intros <;> try exact True.intro
      all_goals first | (exact absurd hs (by assumption)) | (exact absurd hn (by assumption)) | skip
      refine K.call ?_
      refine WpL.callM (hs := [3]) (flv_c p (smA p s lens) n hl.1 hn) handA handOA rfl rfl (.cons rfl (.sc (.sc (.sc .nil))) .nil) outA rfl rfl rfl rfl (by decide) ?_
      have e1 := blS_1 (p := p) (s := s) (lens := lens) hn hs
      have e2 := blS_2 (p := p) (s := s) (lens := lens) hn hs
      generalize lvS p (smA p s lens) n = y at e1 e2 ⊢
      by_cases hy : y.c = 0
      · rw [e1 hy]
        refine go (r := ?_); and_intros <;> intros <;> try exact True.intro
      · rw [e2 hy]
        refine go (r := ?_); and_intros <;> intros <;> try exact True.intro
    · rw [blS_3 hn hs]
      have ea := smA_bad hs
      refine go (r := ?_); and_intros <;> intros <;> try exact True.intro
  · rw [blS_4 hn]
    refine go (r := ?_); and_intros <;> intros <;> try exact True.intro⟩
/-! Macroblocks. -/
theorem mbRun_len (p : List UInt8) (s : Int) (lens : List Int) (n : Int) : ∀ k, (mbRun p s lens n k).c = 0 → (mbRun p s lens n k).bs.length = k
  | 0, _ => rfl
  | k + 1, h => by
    have ih := mbRun_len p s lens n k
    rw [mbRun] at h ⊢
    simp only at h ⊢
    split at h
    · rename_i hx
      rw [if_pos hx]
      split at h
      · rename_i hb; rw [if_pos hb]; simp [ih hx]
      · rename_i hb; exact absurd h hb
    · rename_i hx; exact absurd h hx
theorem mbRun_stop {p : List UInt8} {s : Int} {lens : List Int} {n : Int} {k : Nat} (h : (mbRun p s lens n k).c ≠ 0) : ∀ j, k ≤ j → mbRun p s lens n j = mbRun p s lens n k
  | 0, hj => by have : k = 0 := by omega
                subst this; rfl
  | j + 1, hj => by
    rcases Nat.lt_or_ge j k with h2 | h2
    · have : k = j + 1 := by omega
      subst this; rfl
    · have e := mbRun_stop h j h2
      rw [mbRun]; simp only; rw [e, if_neg h]
theorem mbS_no {p : List UInt8} {s : Int} {lens : List Int} (h : ¬ RbOk p s 1) : mbS p s lens = (⟨s, 1, []⟩, false) := by unfold mbS; rw [if_neg h]
theorem nm8_nat (e : Bool) : (bif e then 1 else 4 : Nat) = (nm8 e).toNat := by cases e <;> rfl
theorem mbS_yes {p : List UInt8} {s : Int} {lens : List Int} {E : Bool} (h : RbOk p s 1) (hE : decide (rbV p s 1 = 1) = E) : mbS p s lens = (mbRun p (s + 1) lens (sz8 E) (nm8 E).toNat, bif decide ((mbRun p (s + 1) lens (sz8 E) (nm8 E).toNat).c = 0) then E else false) := by
  unfold mbS; rw [if_pos h, hE]; simp only; rw [nm8_nat]; rfl
theorem mbRun_bad {p : List UInt8} {s : Int} {lens : List Int} {n : Int} {k : Nat} (h : (mbRun p s lens n k).c = 0) (hb : (blS p (mbRun p s lens n k).a lens n).c ≠ 0) : ∀ j, k < j → mbRun p s lens n j = ⟨(blS p (mbRun p s lens n k).a lens n).a, (blS p (mbRun p s lens n k).a lens n).c, []⟩ := by
  intro j hj
  have e : mbRun p s lens n (k + 1) = ⟨(blS p (mbRun p s lens n k).a lens n).a, (blS p (mbRun p s lens n k).a lens n).c, []⟩ := by
    rw [mbRun]; simp only; rw [if_pos h, if_neg hb]
  rw [mbRun_stop (k := k + 1) (by rw [e]; exact hb) j hj, e]
theorem mbRun_next {p : List UInt8} {s : Int} {lens : List Int} {n : Int} {k : Nat} (h : (mbRun p s lens n k).c = 0) (hb : (blS p (mbRun p s lens n k).a lens n).c = 0) : mbRun p s lens n (k + 1) = ⟨(blS p (mbRun p s lens n k).a lens n).a, 0, (mbRun p s lens n k).bs ++ [((blS p (mbRun p s lens n k).a lens n).m, (blS p (mbRun p s lens n k).a lens n).l)]⟩ := by
  rw [mbRun]; simp only; rw [if_pos h, if_pos hb]
abbrev MbV (e : Bool) (n : Nat) : AV := .agg [B e, .own 0 0 0 n]
instance ReadMb_c : Con 72 (∀ (p : List UInt8) (s : Int) (lens : List Int), p.length ≤ 1099511627776 ∧ lens.length ≤ 1099511627776 → Fn 72 [RA p s, IL lens] [BkO (mbS p s lens).1.bs] (.tup [RA p (mbS p s lens).1.a, MbV (mbS p s lens).2 (mbS p s lens).1.bs.length, I (mbS p s lens).1.c])) := ⟨fun p s lens hl => by
  refine FnC.of_body tabOk Try.func72 Try.ntmps72 rfl (by decide +kernel) (by simp) fun G => ?_
  by_cases ho : RbOk p s 1
  · have ea := (rb_yes ho).1
    generalize hE : decide (rbV p s 1 = 1) = E
    rw [mbS_yes ho hE]
    have hc8 := sz8_cases E
    refine go (r := ?_); and_intros <;> intros <;> try exact True.intro
    all_goals first | contradiction | skip
    rw [hE, ea]
    have hz : (mbRun p (s + 1) lens (sz8 E) 0) = ⟨s + 1, 0, []⟩ := rfl
    have hln := fun k h => mbRun_len p (s + 1) lens (sz8 E) k h
    have hnx := fun k h hb => mbRun_next (p := p) (s := s + 1) (lens := lens) (n := sz8 E) (k := k) h hb
    have hbd := fun k h hb j hj => mbRun_bad (p := p) (s := s + 1) (lens := lens) (n := sz8 E) (k := k) h hb j hj
    generalize mbRun p (s + 1) lens (sz8 E) = X at hz hln hnx hbd ⊢
    refine WpA.loop (fun k : Nat => ⟨[(1, IL lens), (2, .ptr 0 0 0), (4, .ptr 1 0 0), (5, .ptr 2 0 0), (9, .ptr 3 0 0), (11, I (sz8 E)), (34, I (nm8 E)), (35, I k)], [⟨[Z p, I (X k).a], 0, 0, none⟩, R0, ⟨[B false, .nilS], 0, 0, none⟩, ⟨[B E, .own 4 0 0 k], 0, 0, none⟩, BkO (X k).bs]⟩) (fun k => (k : Int) ≤ nm8 E ∧ (X k).c = 0) (fun k => (nm8 E).toNat - k) 0 (by rw [hz]; exact ⟨by omega, rfl⟩) ?_ (fun k hk => ?_)
    · rw [hz]; exact Weak.nil1 (by first | (show 0 ≤ _; exact Nat.zero_le _) | (repeat' (first | exact RzT.nil | refine RzT.cons ?_ ?_ | exact Rz.nil | refine Rz.keep rfl rfl ?_ | refine Rz.own rfl rfl rfl rfl rfl (by first | rfl | omega | (simp; done)) ?_ | refine Rz.ptr rfl rfl rfl rfl ?_ | refine Rz.nilO rfl rfl rfl (by first | rfl | omega | (simp; done)) ?_ | refine Rz.agg ?_ ?_ | exact RzO.last rfl | (refine RzO.cons ?_ (.inr rfl) ?_) | exact Rz.same rfl (still_ints _) | exact Rz.same rfl (still_rows (fun _ => rfl) _)))) (by first | (show 0 ≤ _; exact Nat.zero_le _) | (repeat' (first | exact RzT.nil | refine RzT.cons ?_ ?_ | exact Rz.nil | refine Rz.keep rfl rfl ?_ | refine Rz.own rfl rfl rfl rfl rfl (by first | rfl | omega | (simp; done)) ?_ | refine Rz.ptr rfl rfl rfl rfl ?_ | refine Rz.nilO rfl rfl rfl (by first | rfl | omega | (simp; done)) ?_ | refine Rz.agg ?_ ?_ | exact RzO.last rfl | (refine RzO.cons ?_ (.inr rfl) ?_) | exact Rz.same rfl (still_ints _) | exact Rz.same rfl (still_rows (fun _ => rfl) _)))) (Nat.zero_le _)
    have hln := hln k hk.2
    have hnx := hnx k hk.2
    have hbd := hbd k hk.2
    have hfin : ¬ (k : Int) < nm8 E → X (nm8 E).toNat = X k := fun h => by rw [show (nm8 E).toNat = k by omega]
    generalize hy : X k = y at hk hln hnx hbd hfin ⊢
    have hln : y.bs.length = k := hln
    by_cases hb : (blS p y.a lens (sz8 E)).c = 0
    · have hnx := hnx hb
      clear hbd
      refine go (r := ?_); and_intros <;> intros <;> try exact True.intro
      all_goals first | contradiction | (rw [hnx]; done) | (rw [hfin (by assumption)]; first | done | omega | (simp [hk.2]; done) | (simp only; omega)) | trace_state
    · have hbd := hbd hb
      clear hnx
      refine go (r := ?_); and_intros <;> intros <;> try exact True.intro
      all_goals first | contradiction | (rw [hbd _ (by omega)]; first | done | (simp [hb]; done)) | (rw [hfin (by assumption)]; first | done | omega | (simp [hk.2]; done) | (simp only; omega)) | trace_state
  · rw [mbS_no ho]
    have ea := (rb_no ho).1
    refine go (r := ?_); and_intros <;> intros <;> try exact True.intro
    all_goals first | contradiction | trace_state⟩
end Go.Proofs.Ytgbahnaejajdgaa

/- Plain laws: where a reader stands stays in its text; how much is read; streams as they are parsed. No condition. -/
namespace Go.Proofs.Ytgbahnaejajdgaa
open Go Go.Abs
set_option linter.unusedVariables false
set_option linter.unusedSimpArgs false

theorem rbA_ok {p : List UInt8} {s n : Int} (h : RdOk p s) : RdOk p (rbA p s n) := by
  by_cases ho : RbOk p s n
  · rw [(rb_yes ho).1]
    have h1 := lft_ok h
    have h2 := ho.2.2
    have h3 := ho.2.1
    have h4 := h.1
    constructor <;> omega
  · rw [(rb_no ho).1]; exact h
theorem ueA_ok {p : List UInt8} {s : Int} (h : RdOk p s) : RdOk p (ueA p s) := by
  unfold ueA; split
  · exact rbA_ok h
  · exact h
theorem fuA_ok {p : List UInt8} {s c : Int} {k : Int → Int} (h : RdOk p s) : RdOk p (fuA p s c k) := by
  unfold fuA; split
  · exact ueA_ok h
  · exact h
theorem fbA_ok {p : List UInt8} {s c n : Int} {k : Int → Int} (h : RdOk p s) : RdOk p (fbA p s c n k) := by
  unfold fbA; split
  · exact rbA_ok h
  · exact h
theorem smA_ok {p : List UInt8} {s : Int} {l : List Int} (h : RdOk p s) : RdOk p (smA p s l) := by
  by_cases hc : smC p s l = 0
  · rw [smA, if_pos hc]
    have hm : symM p s l < 6 := by
      unfold smC at hc
      split at hc
      · split at hc
        · assumption
        · exact absurd hc (by decide)
      · exact absurd hc (by decide)
    have h0 := symM_lt hm
    have h1 := lft_ok h
    have h2 := h0.2.1.2.2
    have h3 := h0.1
    have h4 := h.1
    constructor <;> omega
  · rw [smA, if_neg hc]; exact h
theorem lvStep_ok {p : List UInt8} {nn : Int} {x : LvS} (h : RdOk p x.a) : RdOk p (lvStep p nn x).a := by
  unfold lvStep; split
  · simp only; split <;> exact fuA_ok (fuA_ok h)
  · exact h
theorem lvRun_ok {p : List UInt8} {nn : Int} {x : LvS} (h : RdOk p x.a) : ∀ k, RdOk p (lvRun p nn x k).a
  | 0 => h
  | k + 1 => by rw [lvRun]; exact lvStep_ok (lvRun_ok h k)
theorem lvS_ok {p : List UInt8} {s n : Int} (h : RdOk p s) : RdOk p (lvS p s n).a := by
  unfold lvS; simp only; split
  · exact fbA_ok h
  · exact lvRun_ok (x := ⟨_, _, _, _⟩) (fuA_ok (fbA_ok h)) _
theorem blS_ok {p : List UInt8} {s : Int} {lens : List Int} {n : Int} (h : RdOk p s) : RdOk p (blS p s lens n).a := by
  unfold blS; split
  · split
    · simp only; split <;> exact lvS_ok (smA_ok h)
    · exact h
  · exact h
theorem mbRun_ok {p : List UInt8} {s : Int} {lens : List Int} {n : Int} (h : RdOk p s) : ∀ k, RdOk p (mbRun p s lens n k).a
  | 0 => h
  | k + 1 => by
    have ih := mbRun_ok (lens := lens) (n := n) h k
    rw [mbRun]; simp only; split
    · split <;> exact blS_ok ih
    · exact ih
theorem mbS_ok {p : List UInt8} {s : Int} {lens : List Int} (h : RdOk p s) : RdOk p (mbS p s lens).1.a := by
  unfold mbS; split
  · rename_i ho
    have : RdOk p (s + 1) := by have := rbA_ok (n := 1) h; rwa [(rb_yes ho).1] at this
    exact mbRun_ok this _
  · exact h
theorem stRun_ok {p : List UInt8} {s : Int} {lens : List Int} (h : RdOk p s) : ∀ k, RdOk p (stRun p s lens k).a
  | 0 => h
  | k + 1 => by
    have ih := stRun_ok (lens := lens) h k
    rw [stRun]; simp only; split
    · split <;> exact mbS_ok ih
    · exact ih
theorem hdS_ok {p : List UInt8} {s : Int} (h : RdOk p s) : RdOk p (hdS p s).a := by
  unfold hdS; simp only; exact fbA_ok (fbA_ok (fbA_ok (fuA_ok (fuA_ok (fbA_ok h)))))
/-! How much is read. -/
theorem mbRun_sm {p : List UInt8} {s : Int} {lens : List Int} {n : Int} : ∀ k, ∀ b ∈ (mbRun p s lens n k).bs, b.2.length ≤ 64
  | 0, b, hb => by simp [mbRun] at hb
  | k + 1, b, hb => by
    have ih := mbRun_sm (p := p) (s := s) (lens := lens) (n := n) k
    rw [mbRun] at hb; simp only at hb
    split at hb
    · split at hb
      · simp at hb
        rcases hb with hb | hb
        · exact ih b hb
        · rw [hb]; exact blS_len _ _ _ _
      · simp at hb
    · exact ih b hb
theorem mbRun_le {p : List UInt8} {s : Int} {lens : List Int} {n : Int} : ∀ k, (mbRun p s lens n k).bs.length ≤ k
  | 0 => by simp [mbRun]
  | k + 1 => by
    have ih := mbRun_le (p := p) (s := s) (lens := lens) (n := n) k
    rw [mbRun]; simp only
    split
    · split
      · simp; exact ih
      · simp
    · omega
theorem mbS_sm {p : List UInt8} {s : Int} {lens : List Int} : (mbS p s lens).1.bs.length ≤ 4 ∧ ∀ b ∈ (mbS p s lens).1.bs, b.2.length ≤ 64 := by
  unfold mbS; split
  · refine ⟨Nat.le_trans (mbRun_le _) ?_, mbRun_sm _⟩
    cases decide (rbV p s 1 = 1) <;> decide
  · simp
theorem stRun_sm {p : List UInt8} {s : Int} {lens : List Int} : ∀ k, (stRun p s lens k).ms.length ≤ k ∧ ∀ m ∈ (stRun p s lens k).ms, m.2.length ≤ 4 ∧ ∀ b ∈ m.2, b.2.length ≤ 64
  | 0 => by simp [stRun]
  | k + 1 => by
    have ih := stRun_sm (p := p) (s := s) (lens := lens) k
    rw [stRun]; simp only
    split
    · split
      · simp only [List.length_append, List.length_singleton, List.mem_append, List.mem_singleton]
        refine ⟨by have := ih.1; omega, fun m hm => ?_⟩
        rcases hm with hm | hm
        · exact ih.2 m hm
        · rw [hm]; exact mbS_sm
      · simp
    · exact ⟨by have := ih.1; omega, ih.2⟩
theorem stRun_stop {p : List UInt8} {s : Int} {lens : List Int} {k : Nat} (h : (stRun p s lens k).c ≠ 0) : ∀ j, k ≤ j → stRun p s lens j = stRun p s lens k
  | 0, hj => by have : k = 0 := by omega
                subst this; rfl
  | j + 1, hj => by
    rcases Nat.lt_or_ge j k with h2 | h2
    · have : k = j + 1 := by omega
      subst this; rfl
    · have e := stRun_stop h j h2
      rw [stRun]; simp only; rw [e, if_neg h]
theorem stRun_len (p : List UInt8) (s : Int) (lens : List Int) : ∀ k, (stRun p s lens k).c = 0 → (stRun p s lens k).ms.length = k
  | 0, _ => rfl
  | k + 1, h => by
    have ih := stRun_len p s lens k
    rw [stRun] at h ⊢
    simp only at h ⊢
    split at h
    · rename_i hx
      rw [if_pos hx]
      split at h
      · rename_i hb; rw [if_pos hb]; simp [ih hx]
      · rename_i hb; exact absurd h hb
    · rename_i hx; exact absurd h hx

/-! Streams that are parsed. -/
structure PrS where
  W : Int
  H : Int
  Q : Int
  B : Bool
  D : Bool
  L : List Int
  ms : List Mbk
  a : Int
  c : Int
def prS (p : List UInt8) : PrS :=
  let x := hdS p 0
  if x.c = 0 then
    let y := stRun p x.a x.L (cntM x.W x.H).toNat
    if y.c = 0 then
      if endC p y.a = 0 then ⟨x.W, x.H, x.Q, x.B, x.D, x.L, y.ms, y.a, 0⟩ else ⟨0, 0, 0, false, false, [], [], y.a, endC p y.a⟩
    else ⟨0, 0, 0, false, false, [], [], y.a, y.c⟩
  else ⟨0, 0, 0, false, false, [], [], x.a, x.c⟩
theorem fuV_max {p : List UInt8} {s c : Int} : 0 ≤ fuV p s c hk2 ∧ fuV p s c hk2 ≤ 3 := by
  refine ⟨fuV_nn _ _ _ _, ?_⟩
  unfold fuV; split
  · rename_i h
    unfold fuC at h
    split at h
    · split at h
      · by_cases hlt : ueV p s ≤ 3
        · exact hlt
        · have h : ifE (ueV p s ≤ 3) 3 = 0 := h
          rw [ifE_no hlt] at h; exact absurd h (by decide)
      · rename_i hu; exact absurd h hu
    · rename_i hc; exact absurd h hc
  · omega
theorem hdS_sides {p : List UInt8} {s : Int} (h : (hdS p s).c = 0) : SidesOk (hdS p s).W (hdS p s).H := by
  have hw : 0 ≤ (hdS p s).w ∧ (hdS p s).w ≤ 3 := by unfold hdS; exact fuV_max
  have hh : 0 ≤ (hdS p s).h ∧ (hdS p s).h ≤ 3 := by unfold hdS; exact fuV_max
  rw [HdS.W, if_pos h, HdS.H, if_pos h]
  omega
end Go.Proofs.Ytgbahnaejajdgaa
