/- Proved in this text: lemmas and contracts of functions that the claim uses (parts: RdS, Fld, RdH, AbsZ, AbsRoll, AbsHa, RdV, Sym, Stat, Pred, Sid, Work, AbsNil, RdB, RdT, RdW, RdHs, RdP, Lw, Ln, ParL, Bridge). No condition. -/
import Derived.Test.YtgbahnaejajdgaaFpM4
import Derived.LoopN
import Derived.Test.YtgbahnaejajdgaaFpM3
import Derived.Test.YtgbahnaejajdgaaFpM1
import Derived.Below

/- Contracts: symbols that are read; what is left of a text. No condition. -/
namespace Go.Proofs.Ytgbahnaejajdgaa
open Go Go.Abs
set_option linter.unusedVariables false
set_option linter.unusedSimpArgs false
set_option maxRecDepth 100000
set_option maxHeartbeats 4000000
attribute [local irreducible] WpA WpL Rnd Blk Abs.Seq Abs.Fin Abs.FinG FnC FnG Only

abbrev R0 : AObj := ⟨[Z [], I 0], 0, 0, none⟩
theorem rb_ok_le {p : List UInt8} {s n m : Int} (h : RbOk p s n) (h0 : 0 ≤ m) (h1 : m ≤ n) : RbOk p s m := ⟨h.1, by omega, by omega⟩
instance ReadSym_c : Con 183 (∀ (p : List UInt8) (s : Int) (l : List Int), p.length ≤ 1099511627776 ∧ l.length ≤ 1099511627776 → Fn 183 [RA p s, IL l] [] (.tup [RA p (smA p s l), I (smV p s l), I (smC p s l)])) := ⟨fun p s l hl => by
  have hb := lft_bd p s
  refine FnC.of_body tabOk Try.func183 Try.ntmps183 rfl (by decide +kernel) (by simp) fun G => ?_
  by_cases hok : CodeOk l
  · have h6 := hok.2.1
    have hcr := codesR_ok l hok
    have hcl := codes_len l
    have hcn := codesR_len l hok
    refine go (r := ?_); and_intros <;> intros <;> try exact True.intro
    all_goals first | (exact absurd hok (by assumption)) | skip
    refine WpA.loop (fun k : Nat => ⟨[(2, .ptr 0 0 0), (4, .ptr 1 0 0), (7, .own 2 0 0 6), (18, IL l), (19, I l.length), (20, I k)], [BoxR p s, R0, XI (codes l)]⟩) (fun k => k ≤ 6 ∧ ∀ m < k, ¬ SymAt p s l m) (fun k => 6 - k) 0 ⟨by omega, fun j hj => by omega⟩ (go (r := ?_)) (fun k hk => ?_)
    · trivial
    have hcb := code_in hok (m := k)
    have hy := fun h => rb_yes (p := p) (s := s) (n := l.getD k 0) h
    refine go (r := ?_); and_intros <;> intros <;> try exact True.intro
    all_goals first
      | (have hsy : SymAt p s l k := ⟨by omega, by assumption, by rw [← (hy (by assumption)).2]; simpa using ‹rbV p s (l.getD k 0) = _›⟩
         obtain ⟨e1, e2, e3⟩ := sm_yes hok (by omega) hsy
         first | (rw [e1, (hy hsy.2.1).1]; done) | (rw [e2]; done) | (rw [e3]; done))
      | (rename_i j hj hs
         rcases Nat.lt_succ_iff_lt_or_eq.1 hj with h | h
         · exact hk.2 j h hs
         · subst h
           obtain ⟨a, b, c⟩ := hs
           first | omega | exact absurd b (by assumption) | (have hv := (hy b).2; rw [c] at hv; rw [Int.toNat_natCast] at *; exact absurd hv (by assumption)))
      | (obtain ⟨e1, e2, e3⟩ := sm_none hok (fun m hm => hk.2 m (by omega))
         first | (rw [e1]; done) | (rw [e2]; done) | (rw [e3]; done))
      | trace_state
  · obtain ⟨e1, e2, e3⟩ := sm_bad (p := p) (s := s) hok
    have hcr := codesR_no l hok
    refine go (r := ?_); and_intros <;> intros <;> try exact True.intro
    all_goals first | (exact absurd (by assumption) hok) | (rw [e1]; done) | (rw [e2]; done) | (rw [e3]; done) | trace_state⟩
instance ReadSym_s : Con 182 (∀ (p : List UInt8) (s : Int) (l : List Int), p.length ≤ 1099511627776 ∧ l.length ≤ 1099511627776 → Fn 182 [RA p s, IL l] [] (.tup [RA p (smA p s l), I (smV p s l), I (smC p s l)])) := ⟨fun p s l hl => by
  have hb := lft_bd p s
  refine FnC.of_body tabOk Try.func182 Try.ntmps182 rfl (by decide +kernel) (by simp) fun G => ?_
  by_cases hok : CodeOk l
  · have h6 := hok.2.1
    have hcr := codesR_ok l hok
    have hcl := codes_len l
    have hcn := codesR_len l hok
    refine go (r := ?_); and_intros <;> intros <;> try exact True.intro
    all_goals first | (exact absurd hok (by assumption)) | (exfalso; omega) | skip
    rw [hcr]
    refine WpA.loop (fun w : Nat => ⟨[(1, IL l), (2, .ptr 0 0 0), (4, .ptr 1 0 0), (7, .own 2 0 0 6), (8, I ((w : Int) + 1))], [BoxR p s, R0, XI (codes l)]⟩) (fun w => w ≤ 7 ∧ (w = 0 ∨ RbOk p s w) ∧ ∀ m < 6, l.getD m 0 ≤ w → ¬ SymAt p s l m) (fun w => 7 - w) 0 ⟨by omega, .inl rfl, fun m hm h1 h2 => by have := h2.1; omega⟩ (go (r := ?_)) (fun w hw => ?_)
    · and_intros <;> first | trivial | (rw [hcr]; done) | trace_state
    have hy := fun h => rb_yes (p := p) (s := s) (n := (w : Int) + 1) h
    obtain ⟨hw1, hw2, hw3⟩ := hw
    have hno : w < 7 → ¬ RbOk p s ((w : Int) + 1) → ∀ m < 6, ¬ SymAt p s l m := fun h7 h m hm hs => by
      by_cases hle : l.getD m 0 ≤ w
      · exact hw3 m hm hle hs
      · exact h (rb_ok_le hs.2.1 (by omega) (by omega))
    have hall : w = 7 → False := fun h7 => by
      subst h7
      obtain ⟨m, hm, hs⟩ := sym_cov (p := p) (s := s) hok (by rcases hw2 with h | h; omega; exact h)
      have := code_in hok hm
      exact hw3 m hm (by omega) hs
    refine go (r := ?_); and_intros <;> intros <;> try exact True.intro
    all_goals first
      | (exact (hall (by omega)).elim)
      | (have hh : ¬ RbOk p s ((w : Int) + 1) := by assumption
         obtain ⟨e1, e2, e3⟩ := sm_none hok (hno (by omega) hh)
         first | (rw [e1]; done) | (rw [e2]; done) | (rw [e3]; done))
      | skip
    refine WpA.loop (fun m : Nat => ⟨[(1, IL l), (2, .ptr 0 0 0), (4, .ptr 1 0 0), (7, .own 2 0 0 6), (8, I ((w : Int) + 1)), (9, .ptr 3 0 0), (10, I (rbV p s ((w : Int) + 1))), (12, I m)], [BoxR p s, R0, XI (codes l), ⟨[Z p, I (rbA p s ((w : Int) + 1))], 0, 0, none⟩]⟩) (fun m => m ≤ 6 ∧ ∀ j < m, l.getD j 0 = (w : Int) + 1 → ¬ SymAt p s l j) (fun m => 6 - m) 0 ⟨by omega, fun j hj => by omega⟩ (go (r := ?_)) (fun m hm => ?_)
    · trivial
    obtain ⟨hm1, hm2⟩ := hm
    have hrb : RbOk p s ((w : Int) + 1) := by assumption
    obtain ⟨e4, e5⟩ := hy hrb
    refine go (r := ?_); and_intros <;> intros <;> try exact True.intro
    all_goals first
      | (have hlm : l.getD m 0 = (w : Int) + 1 := by assumption
         have hcm : (codes l).getD ((m : Int)).toNat 0 = rbV p s ((w : Int) + 1) := by assumption
         have hsy : SymAt p s l m := by
           rw [Int.toNat_natCast] at hcm
           refine ⟨by omega, by rw [hlm]; exact hrb, by rw [hlm, ← e5, hcm]⟩
         obtain ⟨e1, e2, e3⟩ := sm_yes hok (by omega) hsy
         first | (rw [e1, e4, hlm]; done) | (rw [e2]; done) | (rw [e3]; done))
      | (rename_i j hj hlj hs
         rcases Nat.lt_succ_iff_lt_or_eq.1 hj with h | h
         · exact hm2 j h hlj hs
         · subst h
           obtain ⟨a, b, c⟩ := hs
           first | (exact absurd hlj (by assumption)) | (rw [hlj, ← e5] at c; rw [Int.toNat_natCast] at *; exact absurd c.symm (by assumption)))
      | (rename_i j hj hlj hs
         have : m = 6 := by omega
         subst this
         by_cases hle : l.getD j 0 = (w : Int) + 1
         · exact hm2 j hj hle hs
         · exact hw3 j hj (by omega) hs)
      | trace_state
  · obtain ⟨e1, e2, e3⟩ := sm_bad (p := p) (s := s) hok
    have hcr := codesR_no l hok
    have hcr2 : (codesR l).length = 0 := by rw [hcr]; rfl
    refine go (r := ?_); and_intros <;> intros <;> try exact True.intro
    all_goals first | (exact absurd (by assumption) hok) | (exfalso; omega) | (rw [e1]; done) | (rw [e2]; done) | (rw [e3]; done) | trace_state⟩
theorem _root_.Go.Abs.WpA.regionMB0 {P : Program} {n m : Nat} {G : Ctx} {T0 : List (Nat × AV)} {O : List AObj} {l l1 l2 : List Oper} {id : Nat} {out T1 : List (Nat × AV)} {Q : Exit → St → Prop} (k : Nat) (hm : P.follows .mixedOrders = true) (hB : mixB l.toArray k = true)
    (hl : takeF k l = some l1) (hJ : HeadJ P n m G l.toArray T0 O [] l1 out) (hnd : TrueB (nodupB (out.map (·.1)))) (hfr : TrueB (out.all fun p => !has T0 p.1))
    (hT1 : catF out T0 = some T1) (h2 : l.drop k = l2) (h : WpL P n m G false l.toArray l2 ⟨T1, O⟩ Q) : WpA P n m G (.region id l.toArray true) ⟨T0, O⟩ Q := by
  have := takeF_eq hl; subst this; subst h2
  exact WpA.regionM k hm hB hJ hnd.e hfr.e (catF_eq hT1) h
theorem end0 {p : List UInt8} {s : Int} (h : lft p s = 0) : endC p s = 1 := by rw [endC, if_pos h]
instance StopOk_c : Con 136 (∀ (p : List UInt8) (s : Int), p.length ≤ 1099511627776 ∧ RdOk p s → Fn 136 [RA p s] [] (I (endC p s))) := ⟨fun p s hl => by
  have hb := lft_bd p s
  obtain ⟨hl, h1, h2⟩ := hl
  refine FnC.of_body tabOk Try.func136 Try.ntmps136 rfl (by decide +kernel) (by simp) fun G => ?_
  refine goR (r := ?_); and_intros <;> intros <;> try exact True.intro
  · rw [end0 (by assumption)]
  rename_i h0
  by_cases h8 : lft p s ≤ 8
  · apply WpA.regionMB0 14 mixed (by decide +kernel)
    · exact rfl
    · skip
      apply HeadJ.consF rfl
      · exact rfl
      · exact in0
      · exact rfl
      apply HeadJ.consF (V := B true) rfl
      · exact rfl
      · intro Tv
        refine K.L ?_
        refine K.bin ?_
        refine WpL.bin rfl rfl rfl (by decide) ?_
        exact WpL.nil (Only.mk (by rw [decide_eq_true h8]))
      · exact rfl
      apply HeadJ.consF rfl
      · exact rfl
      · exact in0
      · exact rfl
      apply HeadJ.consF rfl
      · exact rfl
      · (intro Tv; refine K.L ?_; refine K.gd ?_; refine K.gT rfl (by decide) rfl ?_; exact in0)
      · exact rfl
      apply HeadJ.consF rfl
      · exact rfl
      · (intro Tv; refine K.L ?_; refine K.gd ?_; refine K.gT rfl (by decide) rfl ?_; exact in0)
      · exact rfl
      apply HeadJ.consF rfl
      · exact rfl
      · (intro Tv; refine K.L ?_; refine K.gd ?_; refine K.gT rfl (by decide) rfl ?_; exact in0)
      · exact rfl
      apply HeadJ.consF rfl
      · exact rfl
      · (intro Tv; refine K.L ?_; refine K.gd ?_; refine K.gT rfl (by decide) rfl ?_; exact in0)
      · exact rfl
      apply HeadJ.consF rfl
      · exact rfl
      · (intro Tv; refine K.L ?_; refine K.gd ?_; refine K.gT rfl (by decide) rfl ?_; exact in0)
      · exact rfl
      apply HeadJ.consF rfl
      · exact rfl
      · (intro Tv; refine K.L ?_; refine K.gd ?_; refine K.gT rfl (by decide) rfl ?_; exact in0)
      · exact rfl
      apply HeadJ.consF rfl
      · exact rfl
      · (intro Tv; refine K.L ?_; refine K.gd ?_; refine K.gT rfl (by decide) rfl ?_; exact in0)
      · exact rfl
      apply HeadJ.consF rfl
      · exact rfl
      · (intro Tv; refine K.L ?_; refine K.gd ?_; refine K.gT rfl (by decide) rfl ?_; exact in0)
      · exact rfl
      apply HeadJ.consF rfl
      · exact rfl
      · (intro Tv; refine K.L ?_; refine K.gd ?_; refine K.gT rfl (by decide) rfl ?_; exact in0)
      · exact rfl
      apply HeadJ.consF rfl
      · exact rfl
      · (intro Tv; refine K.L ?_; refine K.gd ?_; refine K.gT rfl (by decide) rfl ?_; exact in0)
      · exact rfl
      apply HeadJ.consF rfl
      · exact rfl
      · exact in0
      · exact rfl
      exact HeadJ.nil
    · exact trueA
    · exact trueA
    · exact rfl
    · exact rfl
    have hw1 : IntKind.i64.wrap (1 * 2 ^ (lft p s - 1).toNat) = 2 ^ (lft p s - 1).toNat := by
      have e : ((1 : Int) * 2 ^ (lft p s - 1).toNat) = 2 ^ (lft p s - 1).toNat := Int.one_mul _
      have h4 : (2 : Int) ^ (lft p s - 1).toNat ≤ 2 ^ 8 := by exact_mod_cast Nat.pow_le_pow_right (by decide) (by omega)
      have h5 : (0 : Int) < 2 ^ (lft p s - 1).toNat := by exact_mod_cast Nat.pow_pos (by decide)
      rw [e]; exact wrap64 _ (by omega)
    refine go (r := ?_); and_intros <;> intros <;> try exact True.intro
    · rename_i hn
      rw [hw1] at hn
      rw [endC, if_neg h0, if_pos ⟨h8, hn⟩]
    · rename_i hn
      rw [hw1] at hn
      rw [endC, if_neg h0, if_neg fun h => hn h.2]
  · apply WpA.regionMB0 14 mixed (by decide +kernel)
    · exact rfl
    · skip
      apply HeadJ.consF rfl
      · exact rfl
      · exact in0
      · exact rfl
      apply HeadJ.consF (V := B false) rfl
      · exact rfl
      · intro Tv
        refine K.L ?_
        refine K.bin ?_
        refine WpL.bin rfl rfl rfl (by decide) ?_
        exact WpL.nil (Only.mk (by rw [decide_eq_false h8]))
      · exact rfl
      apply HeadJ.consF rfl
      · exact rfl
      · exact in0
      · exact rfl
      apply HeadJ.consF rfl
      · exact rfl
      · (intro Tv; refine K.L ?_; refine K.gd ?_; refine K.gF rfl (by decide) rfl ?_; exact WpL.nil (Only.mk rfl))
      · exact rfl
      apply HeadJ.consF rfl
      · exact rfl
      · (intro Tv; refine K.L ?_; refine K.gd ?_; refine K.gF rfl (by decide) rfl ?_; exact WpL.nil (Only.mk rfl))
      · exact rfl
      apply HeadJ.consF rfl
      · exact rfl
      · (intro Tv; refine K.L ?_; refine K.gd ?_; refine K.gF rfl (by decide) rfl ?_; exact WpL.nil (Only.mk rfl))
      · exact rfl
      apply HeadJ.consF rfl
      · exact rfl
      · (intro Tv; refine K.L ?_; refine K.gd ?_; refine K.gF rfl (by decide) rfl ?_; exact WpL.nil (Only.mk rfl))
      · exact rfl
      apply HeadJ.consF rfl
      · exact rfl
      · (intro Tv; refine K.L ?_; refine K.gd ?_; refine K.gF rfl (by decide) rfl ?_; exact WpL.nil (Only.mk rfl))
      · exact rfl
      apply HeadJ.consF rfl
      · exact rfl
      · (intro Tv; refine K.L ?_; refine K.gd ?_; refine K.gF rfl (by decide) rfl ?_; exact WpL.nil (Only.mk rfl))
      · exact rfl
      apply HeadJ.consF rfl
      · exact rfl
      · (intro Tv; refine K.L ?_; refine K.gd ?_; refine K.gF rfl (by decide) rfl ?_; exact WpL.nil (Only.mk rfl))
      · exact rfl
      apply HeadJ.consF rfl
      · exact rfl
      · (intro Tv; refine K.L ?_; refine K.gd ?_; refine K.gF rfl (by decide) rfl ?_; exact WpL.nil (Only.mk rfl))
      · exact rfl
      apply HeadJ.consF rfl
      · exact rfl
      · (intro Tv; refine K.L ?_; refine K.gd ?_; refine K.gF rfl (by decide) rfl ?_; exact WpL.nil (Only.mk rfl))
      · exact rfl
      apply HeadJ.consF rfl
      · exact rfl
      · (intro Tv; refine K.L ?_; refine K.gd ?_; refine K.gF rfl (by decide) rfl ?_; exact WpL.nil (Only.mk rfl))
      · exact rfl
      apply HeadJ.consF rfl
      · exact rfl
      · exact in0
      · exact rfl
      exact HeadJ.nil
    · exact trueA
    · exact trueA
    · exact rfl
    · exact rfl
    refine go (r := ?_); and_intros <;> intros <;> try exact True.intro
    rw [endC, if_neg h0, if_neg fun h => h8 h.1]⟩
instance StopOk_s : Con 132 (∀ (p : List UInt8) (s : Int), p.length ≤ 1099511627776 ∧ RdOk p s → Fn 132 [RA p s] [] (I (endC p s))) := ⟨fun p s hl => by
  have hb := lft_bd p s
  have hei := end_iff (p := p) (s := s) hl.2
  refine FnC.of_body tabOk Try.func132 Try.ntmps132 rfl (by decide +kernel) (by simp) fun G => ?_
  refine go (r := ?_); and_intros <;> intros <;> try exact True.intro
  · rw [end0 (by assumption)]
  · rename_i h0 h1
    rw [endC, if_neg h0, if_neg]; exact fun h => h1 ((hei (by omega)).1 h.2).1
  · rename_i h0 _ h1
    rw [endC, if_neg h0, if_neg]; omega
  · rename_i h0 _ _ h1
    rw [endC, if_neg h0, if_neg]; exact fun h => h1 ((hei (by omega)).1 h.2).2
  · rename_i h0 h1 h2 h3
    rw [endC, if_neg h0, if_pos]; exact ⟨by omega, (hei (by omega)).2 ⟨h1, h3⟩⟩⟩
end Go.Proofs.Ytgbahnaejajdgaa

/- Contracts: fields that are read one behind the other, and the checks handed to them. No condition. -/
namespace Go.Proofs.Ytgbahnaejajdgaa
open Go Go.Abs
set_option linter.unusedVariables false
set_option linter.unusedSimpArgs false
set_option maxRecDepth 100000
set_option maxHeartbeats 4000000
attribute [local irreducible] WpA WpL Rnd Blk Abs.Seq Abs.Fin Abs.FinG FnC FnG Only

instance unless_c : Con 126 (∀ (b : Bool) (c : Int), Fn 126 [B b, I c] [] (I (bif b then 0 else c))) := ⟨fun b c => by
  cases b
  · refine FnC.of_body tabOk Try.func126 Try.ntmps126 rfl (by decide +kernel) (by simp) fun G => ?_
    refine go (r := ?_); and_intros <;> intros <;> try exact True.intro
    all_goals rfl
  · refine FnC.of_body tabOk Try.func126 Try.ntmps126 rfl (by decide +kernel) (by simp) fun G => ?_
    refine go (r := ?_); and_intros <;> intros <;> try exact True.intro
    all_goals rfl⟩
instance levels1_c : Con 123 (∀ x : Int, Fn 123 [I x] [] (I 0)) := ⟨fun x => by
  refine FnC.of_body tabOk Try.func123 Try.ntmps123 rfl (by decide +kernel) (by simp) fun G => ?_
  refine go (r := ?_); and_intros <;> intros <;> try exact True.intro⟩
instance levels2_c : Con 125 (∀ x n : Int, 0 ≤ n ∧ n ≤ 8 → Fn 125 [I x, .iptr [I n] 0] [] (I (ifE (x < n * n) 5))) := ⟨fun x n h => by
  have hnn := mul_in (a := n) (b := n) (by omega) (by omega)
  refine FnC.of_body tabOk Try.func125 Try.ntmps125 rfl (by decide +kernel) (by simp) fun G => ?_
  refine go (r := ?_); and_intros <;> intros <;> try exact True.intro⟩
instance levels3_c : Con 127 (∀ x n t : Int, (0 ≤ n ∧ n ≤ 8) ∧ 0 ≤ t ∧ t ≤ 1099511627776 → Fn 127 [I x, .iptr [I n] 0, .iptr [I t] 0] [] (I (ifE (x < n * n - t) 5))) := ⟨fun x n t h => by
  have hnn : 0 ≤ n * n ∧ n * n ≤ 64 := ⟨Int.mul_nonneg h.1.1 h.1.1, by have := Int.mul_le_mul h.1.2 h.1.2 h.1.1 (by decide); omega⟩
  have hn2 := mul_in (a := n) (b := n) (by omega) (by omega)
  refine FnC.of_body tabOk Try.func127 Try.ntmps127 rfl (by decide +kernel) (by simp) fun G => ?_
  refine go (r := ?_); and_intros <;> intros <;> try exact True.intro⟩
instance levels4_c : Con 129 (∀ x : Int, -4611686018427387904 ≤ x ∧ x ≤ 4611686018427387904 → Fn 129 [I x] [] (I (ifE (-16383 ≤ lvOf x ∧ lvOf x ≤ 16383) 5))) := ⟨fun x h => by
  refine FnC.of_body tabOk Try.func129 Try.ntmps129 rfl (by decide +kernel) (by simp) fun G => ?_
  refine go (r := ?_); and_intros <;> intros <;> try exact True.intro⟩
abbrev FldO (p : List UInt8) (s c : Int) : AObj := ⟨[Z p, I s, I c], 0, 0, none⟩
/-- A check that is handed over. -/
abbrev Chk (g : Nat) (caps : List AV) (k : Int → Int) : Prop := caps.all AV.still = true ∧ caps.all AV.nofre = true ∧ ∀ x : Int, -1 ≤ x ∧ x ≤ 4294967296 → Fn g (I x :: caps) [] (I (k x))
abbrev ChkB (g : Nat) (caps : List AV) (k : Int → Int) : Prop := caps.all AV.still = true ∧ caps.all AV.nofre = true ∧ ∀ x : Int, 0 ≤ x ∧ x ≤ 4294967296 → Fn g (I x :: caps) [] (I (k x))
theorem fbits_c (p : List UInt8) (s c n : Int) (g : Nat) (caps : List AV) (k : Int → Int) (hl : p.length ≤ 1099511627776) (hk : ChkB g caps k) : Gn 122 [.ptr 0 0 0, I n, .fn g caps] [FldO p s c] [FldO p (fbA p s c n k) (fbC p s c n k)] [] (I (fbV p s c n k)) := by
  obtain ⟨hc1, hc2, hg⟩ := hk
  have hv := rbV_bd p s n
  refine FnG.of_bodyF tabOk Try.func122 Try.ntmps122 rfl (by decide +kernel) (by simp) rfl rfl fun G => ?_
  by_cases hc : c = 0
  · by_cases hok : RbOk p s n
    · have e1 : fbC p s c n k = k (rbV p s n) := by rw [fbC, if_pos hc, if_pos hok]
      refine go (r := ?_); and_intros <;> intros <;> try exact True.intro
      refine K.callT ?_
      refine WpL.callV0 rfl (hg (rbV p s n) ⟨by omega, by omega⟩) rfl (.keep rfl rfl (Snap.same rfl hc1 hc2)) (.sc .nil) rfl rfl (by decide) ?_
      by_cases hk0 : k (rbV p s n) = 0
      · have e2 : fbA p s c n k = rbA p s n := by rw [fbA, if_pos ⟨hc, by rw [e1, hk0]⟩]
        have e3 : fbV p s c n k = rbV p s n := by rw [fbV, if_pos (by rw [e1, hk0])]
        refine go (r := ?_); and_intros <;> intros <;> try exact True.intro
        all_goals first | (exact absurd hk0 (by assumption)) | (rw [e1]; done) | (rw [e2]; done) | (rw [e3]; done) | trace_state
      · have e2 : fbA p s c n k = s := by rw [fbA, if_neg (by rw [e1]; exact fun h => hk0 h.2)]
        have e3 : fbV p s c n k = 0 := by rw [fbV, if_neg (by rw [e1]; exact hk0)]
        refine go (r := ?_); and_intros <;> intros <;> try exact True.intro
        all_goals first | (exact absurd (by assumption) hk0) | (rw [e1]; done) | (rw [e2]; done) | (rw [e3]; done) | trace_state
    · have e1 : fbC p s c n k = 1 := by rw [fbC, if_pos hc, if_neg hok]
      have e2 : fbA p s c n k = s := by rw [fbA, if_neg (by rw [e1]; omega)]
      have e3 : fbV p s c n k = 0 := by rw [fbV, if_neg (by rw [e1]; omega)]
      refine go (r := ?_); and_intros <;> intros <;> try exact True.intro
      all_goals first | (exact absurd (by assumption) hok) | (rw [e1]; done) | (rw [e2]; done) | (rw [e3]; done) | trace_state
  · have e1 : fbC p s c n k = c := by rw [fbC, if_neg hc]
    have e2 : fbA p s c n k = s := by rw [fbA, if_neg (by omega)]
    have e3 : fbV p s c n k = 0 := by rw [fbV, if_neg (by rw [e1]; omega)]
    refine go (r := ?_); and_intros <;> intros <;> try exact True.intro
    all_goals first | (exact absurd (by assumption) hc) | (rw [e1]; done) | (rw [e2]; done) | (rw [e3]; done) | trace_state
theorem ueV_bd (p : List UInt8) (s : Int) : -1 ≤ ueV p s ∧ ueV p s ≤ 4294967296 := by
  have h := rbV_bd p s (2 * (zrs p s : Int) + 1)
  unfold ueV; split <;> omega
theorem fue_c (p : List UInt8) (s c : Int) (g : Nat) (caps : List AV) (k : Int → Int) (hl : p.length ≤ 1099511627776) (hk : Chk g caps k) : Gn 124 [.ptr 0 0 0, .fn g caps] [FldO p s c] [FldO p (fuA p s c k) (fuC p s c k)] [] (I (fuV p s c k)) := by
  obtain ⟨hc1, hc2, hg⟩ := hk
  have hv := ueV_bd p s
  refine FnG.of_bodyF tabOk Try.func124 Try.ntmps124 rfl (by decide +kernel) (by simp) rfl rfl fun G => ?_
  by_cases hc : c = 0
  · by_cases hok : ueC p s = 0
    · have e1 : fuC p s c k = k (ueV p s) := by rw [fuC, if_pos hc, if_pos hok]
      refine go (r := ?_); and_intros <;> intros <;> try exact True.intro
      all_goals first | (exact absurd hok (by assumption)) | skip
      refine K.callT ?_
      refine WpL.callV0 rfl (hg (ueV p s) hv) rfl (.keep rfl rfl (Snap.same rfl hc1 hc2)) (.sc .nil) rfl rfl (by decide) ?_
      by_cases hk0 : k (ueV p s) = 0
      · have e2 : fuA p s c k = ueA p s := by rw [fuA, if_pos (by rw [e1, hk0])]
        have e3 : fuV p s c k = ueV p s := by rw [fuV, if_pos (by rw [e1, hk0])]
        refine go (r := ?_); and_intros <;> intros <;> try exact True.intro
        all_goals first | (exact absurd hk0 (by assumption)) | (rw [e1]; done) | (rw [e2]; done) | (rw [e3]; done) | trace_state
      · have e2 : fuA p s c k = s := by rw [fuA, if_neg (by rw [e1]; exact hk0)]
        have e3 : fuV p s c k = 0 := by rw [fuV, if_neg (by rw [e1]; exact hk0)]
        refine go (r := ?_); and_intros <;> intros <;> try exact True.intro
        all_goals first | (exact absurd (by assumption) hk0) | (rw [e1]; done) | (rw [e2]; done) | (rw [e3]; done) | trace_state
    · have e1 : fuC p s c k = ueC p s := by rw [fuC, if_pos hc, if_neg hok]
      have e2 : fuA p s c k = s := by rw [fuA, if_neg (by rw [e1]; exact hok)]
      have e3 : fuV p s c k = 0 := by rw [fuV, if_neg (by rw [e1]; exact hok)]
      refine go (r := ?_); and_intros <;> intros <;> try exact True.intro
      all_goals first | (exact absurd (by assumption) hok) | (rw [e1]; done) | (rw [e2]; done) | (rw [e3]; done) | trace_state
  · have e1 : fuC p s c k = c := by rw [fuC, if_neg hc]
    have e2 : fuA p s c k = s := by rw [fuA, if_neg (by rw [e1]; exact hc)]
    have e3 : fuV p s c k = 0 := by rw [fuV, if_neg (by rw [e1]; exact hc)]
    refine go (r := ?_); and_intros <;> intros <;> try exact True.intro
    all_goals first | (exact absurd (by assumption) hc) | (rw [e1]; done) | (rw [e2]; done) | (rw [e3]; done) | trace_state

/-! The checks of headers. -/
instance rh1_c : Con 174 (∀ x : Int, Fn 174 [I x] [] (I 0)) := ⟨fun x => by
  refine FnC.of_body tabOk Try.func174 Try.ntmps174 rfl (by decide +kernel) (by simp) fun G => ?_
  refine go (r := ?_); and_intros <;> intros <;> try exact True.intro⟩
instance rh2_c : Con 175 (∀ x : Int, Fn 175 [I x] [] (I (ifE (x ≤ 3) 3))) := ⟨fun x => by
  refine FnC.of_body tabOk Try.func175 Try.ntmps175 rfl (by decide +kernel) (by simp) fun G => ?_
  refine go (r := ?_); and_intros <;> intros <;> try exact True.intro⟩
instance rh4_c : Con 177 (∀ x : Int, Fn 177 [I x] [] (I (ifE (x = 183) 2))) := ⟨fun x => by
  refine FnC.of_body tabOk Try.func177 Try.ntmps177 rfl (by decide +kernel) (by simp) fun G => ?_
  refine go (r := ?_); and_intros <;> intros <;> try exact True.intro⟩
instance rh5_c : Con 178 (∀ x : Int, Fn 178 [I x] [] (I (ifE (x ≤ 51) 3))) := ⟨fun x => by
  refine FnC.of_body tabOk Try.func178 Try.ntmps178 rfl (by decide +kernel) (by simp) fun G => ?_
  refine go (r := ?_); and_intros <;> intros <;> try exact True.intro⟩
theorem and7 (a : Int) (h : 0 ≤ a ∧ a ≤ 4611686018427387904) : IntKind.i64.wrap ((BitVec.ofInt IntKind.i64.bits a &&& BitVec.ofInt IntKind.i64.bits 7).toNat : Nat) = a % 8 := by
  obtain ⟨x, rfl⟩ : ∃ x : Nat, a = x := ⟨a.toNat, by omega⟩
  have h1 : (BitVec.ofInt IntKind.i64.bits (x : Int)).toNat = x := by simp only [IntKind.bits, BitVec.toNat_ofInt]; omega
  have h2 : (BitVec.ofInt IntKind.i64.bits (7 : Int)).toNat = 2 ^ 3 - 1 := by decide
  rw [BitVec.toNat_and, h1, h2, Nat.and_two_pow_sub_one_eq_mod, wrap64 _ (by omega)]
  omega
def lensK (v : Int) (k : Nat) : List Int := (List.range k).map fun j => lenAt v (5 - j)
theorem lensK_6 (v : Int) : lensK v 6 = lensV v := rfl
theorem lensK_succ (v : Int) (k : Nat) : lensK v (k + 1) = lensK v k ++ [lenAt v (5 - k)] := by simp [lensK, List.range_succ]
theorem lensK_len (v : Int) (k : Nat) : (lensK v k).length = k := by simp [lensK]
instance rh3_c : Con 176 (∀ x : Int, 0 ≤ x ∧ x ≤ 4294967296 → Fn 176 [I x] [XI (lensV x)] (.own 0 0 0 6)) := ⟨fun x hx => by
  refine FnC.of_body tabOk Try.func176 Try.ntmps176 rfl (by decide +kernel) (by simp) fun G => ?_
  refine go (r := ?_); and_intros <;> intros <;> try exact True.intro
  refine WpA.loop (fun k : Nat => ⟨[(0, I x), (3, .own 0 0 0 k), (4, I (5 - (k : Int)))], [XI (lensK x k)]⟩) (fun k => k ≤ 6) (fun k => 6 - k) 0 (by omega) (go (r := ?_)) (fun k hk => ?_)
  · simp [lensK]
  have hkl := lensK_len x k
  have hks := lensK_succ x k
  have hd0 := Int.ediv_nonneg (a := x) (b := 2 ^ (3 * (5 - (k : Int))).toNat) hx.1 (Int.pow_nonneg (by decide))
  have hd1 := Int.ediv_le_self (a := x) (2 ^ (3 * (5 - (k : Int))).toNat) hx.1
  have hla : lenAt x (5 - k) = x / 2 ^ (3 * (5 - k)) % 8 := rfl
  refine go (r := ?_); and_intros <;> intros <;> try exact True.intro
  · rw [hks, and7 _ ⟨hd0, by omega⟩, hla, show (3 * (5 - (k : Int))).toNat = 3 * (5 - k) by omega]
  · rw [show k = 6 by omega, lensK_6]⟩
instance rh6_c : Con 179 (∀ x : Int, 0 ≤ x ∧ x ≤ 4294967296 → Fn 179 [I x, .iptr [.fn 176 []] 0] [] (I (ifE (CodeOk (lensV x)) 4))) := ⟨fun x hx => by
  have hll : (lensV x).length = 6 := rfl
  refine FnC.of_body tabOk Try.func179 Try.ntmps179 rfl (by decide +kernel) (by simp) fun G => ?_
  refine go (r := ?_); and_intros <;> intros <;> try exact True.intro⟩
end Go.Proofs.Ytgbahnaejajdgaa

/- Contracts: headers that are read. No condition. -/
namespace Go.Proofs.Ytgbahnaejajdgaa
open Go Go.Abs
set_option linter.unusedVariables false
set_option linter.unusedSimpArgs false
set_option maxRecDepth 100000
set_option maxHeartbeats 4000000
attribute [local irreducible] WpA WpL Rnd Blk Abs.Seq Abs.Fin Abs.FinG FnC FnG Only

theorem fuV_bd (p : List UInt8) (s c : Int) (k : Int → Int) : -1 ≤ fuV p s c k ∧ fuV p s c k ≤ 4294967296 := by
  have := ueV_bd p s
  unfold fuV; split <;> omega
theorem fbV_bd (p : List UInt8) (s c n : Int) (k : Int → Int) : 0 ≤ fbV p s c n k ∧ fbV p s c n k ≤ 4294967296 := by
  have := rbV_bd p s n
  unfold fbV; split <;> omega
abbrev HdV (x : HdS) : AV := .agg [I x.W, I x.H, I x.Q, B x.B, B x.D, .own 0 0 0 x.L.length]
instance ReadHeader_c : Con 134 (∀ (p : List UInt8) (s : Int), p.length ≤ 1099511627776 → Fn 134 [RA p s] [XI (hdS p s).L] (.tup [RA p (hdS p s).a, HdV (hdS p s), I (hdS p s).c])) := ⟨fun p s hl => by
  refine FnC.of_body tabOk Try.func134 Try.ntmps134 rfl (by decide +kernel) (by simp) fun G => ?_
  refine go (r := ?_); and_intros <;> intros <;> try exact True.intro
  refine K.call ?_
  refine WpL.callM (hs := [3]) (fbits_c p s 0 8 177 [] hk1 hl ⟨rfl, rfl, fun x _ => rh4_c.ok x⟩) handA handOA rfl rfl (.cons rfl (.sc (.sc (.sc .nil))) .nil) outA rfl rfl rfl rfl (by decide) ?_
  have b1 := fbV_bd p s 0 8 hk1
  generalize hv1 : fbV p s 0 8 hk1 = v1 at b1 ⊢
  generalize ha1 : fbA p s 0 8 hk1 = a1
  generalize hc1 : fbC p s 0 8 hk1 = c1
  refine go (r := ?_); and_intros <;> intros <;> try exact True.intro
  refine K.call ?_
  refine WpL.callM (hs := [3]) (fue_c p a1 c1 175 [] hk2 hl ⟨rfl, rfl, fun x _ => rh2_c.ok x⟩) handA handOA rfl rfl (.cons rfl (.sc (.sc (.sc .nil))) .nil) outA rfl rfl rfl rfl (by decide) ?_
  have b2 := fuV_bd p a1 c1 hk2
  generalize hv2 : fuV p a1 c1 hk2 = v2 at b2 ⊢
  generalize ha2 : fuA p a1 c1 hk2 = a2
  generalize hc2 : fuC p a1 c1 hk2 = c2
  refine go (r := ?_); and_intros <;> intros <;> try exact True.intro
  refine K.call ?_
  refine WpL.callM (hs := [3]) (fue_c p a2 c2 175 [] hk2 hl ⟨rfl, rfl, fun x _ => rh2_c.ok x⟩) handA handOA rfl rfl (.cons rfl (.sc (.sc (.sc .nil))) .nil) outA rfl rfl rfl rfl (by decide) ?_
  have b3 := fuV_bd p a2 c2 hk2
  generalize hv3 : fuV p a2 c2 hk2 = v3 at b3 ⊢
  generalize ha3 : fuA p a2 c2 hk2 = a3
  generalize hc3 : fuC p a2 c2 hk2 = c3
  refine go (r := ?_); and_intros <;> intros <;> try exact True.intro
  refine K.call ?_
  refine WpL.callM (hs := [3]) (fbits_c p a3 c3 6 178 [] hk3 hl ⟨rfl, rfl, fun x _ => rh5_c.ok x⟩) handA handOA rfl rfl (.cons rfl (.sc (.sc (.sc .nil))) .nil) outA rfl rfl rfl rfl (by decide) ?_
  have b4 := fbV_bd p a3 c3 6 hk3
  generalize hv4 : fbV p a3 c3 6 hk3 = v4 at b4 ⊢
  generalize ha4 : fbA p a3 c3 6 hk3 = a4
  generalize hc4 : fbC p a3 c3 6 hk3 = c4
  refine go (r := ?_); and_intros <;> intros <;> try exact True.intro
  refine K.call ?_
  refine WpL.callM (hs := [3]) (fbits_c p a4 c4 2 174 [] hk4 hl ⟨rfl, rfl, fun x _ => rh1_c.ok x⟩) handA handOA rfl rfl (.cons rfl (.sc (.sc (.sc .nil))) .nil) outA rfl rfl rfl rfl (by decide) ?_
  have b5 := fbV_bd p a4 c4 2 hk4
  generalize hv5 : fbV p a4 c4 2 hk4 = v5 at b5 ⊢
  generalize ha5 : fbA p a4 c4 2 hk4 = a5
  generalize hc5 : fbC p a4 c4 2 hk4 = c5
  refine go (r := ?_); and_intros <;> intros <;> try exact True.intro
  refine K.call ?_
  refine WpL.callM (hs := [3]) (fbits_c p a5 c5 18 179 [.iptr [.fn 176 []] 0] hk5 hl ⟨rfl, rfl, fun x h => rh6_c.ok x h⟩) handA handOA rfl rfl (.cons rfl (.sc (.sc (.sc .nil))) .nil) outA rfl rfl rfl rfl (by decide) ?_
  have b6 := fbV_bd p a5 c5 18 hk5
  generalize hv6 : fbV p a5 c5 18 hk5 = v6 at b6 ⊢
  generalize ha6 : fbA p a5 c5 18 hk5 = a6
  generalize hc6 : fbC p a5 c5 18 hk5 = c6
  have hS : hdS p s = ⟨a6, c6, v2, v3, v4, v5, v6⟩ := by simp only [hdS, ha1, hc1, ha2, hc2, ha3, hc3, ha4, hc4, ha5, hc5, ha6, hc6, hv2, hv3, hv4, hv5, hv6]
  rw [hS]
  clear hS ha1 hc1 ha2 hc2 ha3 hc3 ha4 hc4 ha5 hc5 ha6 hc6 hv1 hv2 hv3 hv4 hv5 hv6
  have hll : (lensV v6).length = 6 := rfl
  by_cases h0 : c6 = 0
  · have eW : HdS.W ⟨a6, c6, v2, v3, v4, v5, v6⟩ = 8 * (v2 + 1) := if_pos h0
    have eH : HdS.H ⟨a6, c6, v2, v3, v4, v5, v6⟩ = 8 * (v3 + 1) := if_pos h0
    have eQ : HdS.Q ⟨a6, c6, v2, v3, v4, v5, v6⟩ = v4 := if_pos h0
    have eL : HdS.L ⟨a6, c6, v2, v3, v4, v5, v6⟩ = lensV v6 := if_pos h0
    have eB : HdS.B ⟨a6, c6, v2, v3, v4, v5, v6⟩ = decide (v5 ≥ 2) := by unfold HdS.B; simp [h0]
    have eD : HdS.D ⟨a6, c6, v2, v3, v4, v5, v6⟩ = decide (v5 % 2 = 1) := by unfold HdS.D; simp [h0]
    have eV : ∀ y : HdS, HdV y = .agg [I y.W, I y.H, I y.Q, B y.B, B y.D, .own 0 0 0 y.L.length] := fun _ => rfl
    rw [eV, eL, eW, eH, eQ, eB, eD]
    refine go (r := ?_); and_intros <;> intros <;> try exact True.intro
  · have eW : HdS.W ⟨a6, c6, v2, v3, v4, v5, v6⟩ = 0 := if_neg h0
    have eH : HdS.H ⟨a6, c6, v2, v3, v4, v5, v6⟩ = 0 := if_neg h0
    have eQ : HdS.Q ⟨a6, c6, v2, v3, v4, v5, v6⟩ = 0 := if_neg h0
    have eL : HdS.L ⟨a6, c6, v2, v3, v4, v5, v6⟩ = [] := if_neg h0
    have eB : HdS.B ⟨a6, c6, v2, v3, v4, v5, v6⟩ = false := by unfold HdS.B; simp [h0]
    have eD : HdS.D ⟨a6, c6, v2, v3, v4, v5, v6⟩ = false := by unfold HdS.D; simp [h0]
    have eV : ∀ y : HdS, HdV y = .agg [I y.W, I y.H, I y.Q, B y.B, B y.D, .own 0 0 0 y.L.length] := fun _ => rfl
    rw [eV, eL, eW, eH, eQ, eB, eD]
    refine go (r := ?_); and_intros <;> intros <;> try exact True.intro⟩
end Go.Proofs.Ytgbahnaejajdgaa

/- Nests of slices written out, step by step in plain form. No condition. -/
namespace Go.Abs
open Go
set_option linter.unusedVariables false
set_option linter.unusedSimpArgs false

def flatV : List AV → Option (List AV)
  | [] => some []
  | c :: O => match flatV O with
    | some r => some (c :: r)
    | none => none
theorem flatV_eq : ∀ {O O2 : List AV}, flatV O = some O2 → O = O2
  | [], O2, h => by simp [flatV] at h; exact h.symm
  | c :: O, O2, h => by
    rw [flatV] at h
    cases hr : flatV O with
    | none => rw [hr] at h; cases h
    | some r => rw [hr] at h; have := flatV_eq hr; subst this; simpa using h
theorem NestC.consF {m id off j len e s ej sj : Nat} {t tj : Option TypeId} {offs : List Nat} {O O1 O2 : List AObj} {c cj cs2 : List AV} (ho : O[id]? = some ⟨c, e, s, t⟩) (hc : c[off]? = some (.own j ej 0 len)) (hj : O[j]? = some ⟨cj, ej, sj, tj⟩) (hne : Nat.beq id j = false) (hm : m ≤ j)
    (hst : cj.all AV.still = true) (hlen : len * sj = cj.length) (hcs : flatV (c.set off (.fre sj len cj)) = some cs2) (h1 : flatO ((O.set id ⟨cs2, e, s, t⟩).set j ⟨[], ej + 1, 0, none⟩) = some O1) (r : NestC m id offs O1 O2) : NestC m id (off :: offs) O O2 := by
  have := flatV_eq hcs; subst this
  exact .cons ho hc hj hne hm rfl hst hlen h1 r
/-- How many places are filled. -/
def cntP : List Fil → Nat
  | [] => 0
  | f :: ks => match f.isPut with
    | true => cntP ks + 1
    | false => cntP ks
theorem isPut_zero (f : Fil) (ks : List Fil) : isPut (f :: ks) 0 = f.isPut := by simp [isPut]
theorem isPut_succ (f : Fil) (ks : List Fil) (i : Nat) : isPut (f :: ks) (i + 1) = isPut ks i := by simp [isPut]
theorem isPut_nil (i : Nat) : isPut [] i = false := by simp [isPut]
theorem cntP_eq : ∀ (ks : List Fil) (k : Nat), ks.length ≤ k → ((List.range k).filter fun i => isPut ks i).length = cntP ks
  | [], k, _ => by
    simp only [isPut_nil, cntP]
    induction List.range k with
    | nil => rfl
    | cons a l ih => simp
  | f :: ks, 0, h => by simp at h
  | f :: ks, k + 1, h => by
    have ih := cntP_eq ks k (by simpa using h)
    rw [List.range_succ_eq_map, List.filter_cons, isPut_zero, List.filter_map]
    have e : ((fun i => isPut (f :: ks) i) ∘ Nat.succ) = fun i => isPut ks i := by funext i; exact isPut_succ f ks i
    rw [e]
    cases hf : f.isPut with
    | true => simp only [if_true, List.length_cons, List.length_map, ih, cntP, hf]
    | false => simp only [Bool.false_eq_true, if_false, List.length_map, ih, cntP, hf]
section
variable {P : Program} {n m : Nat} {G : Ctx} {T0 : List (Nat × AV)} {O : List AObj}
theorem WpA.regionQ1 {l l1 l2 : List Oper} {id : Nat} {out T1 : List (Nat × AV)} {ks : List Fil} {O1 F D : List AObj} {Q : Exit → St → Prop} (k c : Nat) (hm : P.follows .mixedOrders = true) (hB : mixB l.toArray k = true)
    (hl : takeF k l = some l1) (hJ : HeadQ P n m G l.toArray T0 O (List.replicate c roomO) [] [] [] l1 out ks) (hok : spotsB c (spots ks) = true) (hnd : nodupB (out.map (·.1)) = true) (hfr : (out.all fun p => !has T0 p.1) = true)
    (hT1 : catF out T0 = some T1) (h2 : l.drop k = l2) (hF : flatO (fillAll ks (List.replicate c roomO)) = some F) (hD : flatO (List.replicate (cntP ks) deadO) = some D) (hO : flatO (catO O (catO F D)) = some O1) (h : WpL P n m G false l.toArray l2 ⟨T1, O1⟩ Q) : WpA P n m G (.region id l.toArray true) ⟨T0, O⟩ Q := by
  have hkl : ks.length ≤ k := by
    obtain ⟨_, s, _, _, h3, h4⟩ := hJ.pre
    have e := takeF_eq hl
    have e2 : l1.length ≤ k := by rw [← e]; simp; omega
    rw [h3]; simp [h4]; omega
  refine WpA.regionQ0 k c hm hB hl hJ hok hnd hfr hT1 h2 ?_ h
  rw [cntP_eq ks k hkl, flatO_eq hF, flatO_eq hD, flatO_eq hO]
end
end Go.Abs

/- A loop rolled out round by round. No condition. -/
namespace Go.Abs
open Go
set_option linter.unusedVariables false
set_option linter.unusedSimpArgs false

def RollN (P : Program) (n m : Nat) (G : Ctx) (c : Code) (Q : Exit → St → Prop) : Nat → St → Prop
  | 0, _ => False
  | k + 1, σ => WpA P n m G c σ (Seq (RollN P n m G c Q k) Q)
section
variable {P : Program} {n m : Nat} {G : Ctx} {c : Code} {Q : Exit → St → Prop} {σ : St}
theorem RollN.s {k : Nat} (h : WpA P n m G c σ (Seq (RollN P n m G c Q k) Q)) : RollN P n m G c Q (k + 1) σ := h
theorem WpA.roll (k : Nat) (h : RollN P n m G c Q k σ) : WpA P n m G (.loop c) σ Q := by
  have key : ∀ k σ a w, RollN P n m G c Q k σ → Rel n m G σ a w → Code.rounds P c (fun e a' w' => ∃ σ', Q e σ' ∧ Rel n m G σ' a' w') k a w := by
    intro k
    induction k with
    | zero => intro σ a w h _; exact h.elim
    | succ k ih =>
      intro σ a w h hr
      have h1 : c.wp P (fun e a' w' => ∃ σ', Seq (RollN P n m G c Q k) Q e σ' ∧ Rel n m G σ' a' w') a w := h a w hr
      exact wp_mono h1 fun e a' w' ⟨σ', hQ, hR⟩ => by
        cases e with
        | normal => exact ih σ' a' w' hQ hR
        | _ => exact ⟨σ', hQ, hR⟩
  exact fun a w hr => wp_loop_rounds k (key k σ a w h hr)
end
end Go.Abs

/- Contracts of functions that turn and move what they are handed; handed objects that name each other; calls under them. No condition. -/
namespace Go.Abs
open Go
set_option linter.unusedVariables false
set_option linter.unusedSimpArgs false

/-- CALLED WITH SUCH ARGUMENTS, WHICH NAME THE OBJECTS 'M', IT RETURNS 'r'; the objects are then 'OO': the first k of M in their places, turned; the others of M may be gone; nothing else turns. -/
def FnH (P : Program) (f : FuncId) (args : List AV) (k : Nat) (M OO : List AObj) (r : AV) : Prop :=
  Runs P f ∧ k ≤ M.length ∧ k ≤ OO.length ∧ ∀ (w : World) (S : Nat → Prop) (ι : Nat → Spot) (F : Nat → List Nat) (vs : List Value), (∀ b, S b → b < w.heap.size) → ORel S w ι M F → (∀ id, id < M.length → ∀ b ∈ F id, ¬ S b ∧ b < w.heap.size) →
    LRel S w ι M args vs [] → Calls P f vs.toArray w fun e w' => ∃ v S' ι' F', e = .returned v ∧ (∀ b, S b → S' b) ∧ (∀ b, S' b → S b ∨ w.heap.size ≤ b) ∧ (∀ b, S' b → b < w'.heap.size) ∧ (∀ id, id < k → ι' id = ι id) ∧
      ORel S' w' ι' OO F' ∧ (∀ id, id < OO.length → ∀ b ∈ F' id, ((∃ i, i < M.length ∧ b ∈ F i) ∨ w.heap.size ≤ b) ∧ ¬ S' b ∧ b < w'.heap.size) ∧ VRel S' w' ι' OO r v [] ∧
      Keeps w (fun b => ∃ i, i < M.length ∧ b ∈ F i) w'

inductive ResH (tab : List (Nat × Ty)) (OO : List AObj) (r : AV) : Array ResultVar → St → Prop
  | zero {T} : r = .tup [] → ResH tab OO r #[] ⟨T, OO⟩
  | one {r1 T} : ResV tab T OO r1 r → ResH tab OO r #[r1] ⟨T, OO⟩
  | two {r1 r2 V1 V2 T} : ResV tab T OO r1 V1 → ResV tab T OO r2 V2 → r = .tup [V1, V2] → ResH tab OO r #[r1, r2] ⟨T, OO⟩
def FinH (tab : List (Nat × Ty)) (rs : Array ResultVar) (OO : List AObj) (r : AV) : Exit → St → Prop
  | .ret, σ => ResH tab OO r rs σ
  | .normal, σ => ResH tab OO r rs σ
  | _, _ => False
section
variable {P : Program} {n m : Nat} {G : Ctx} {T : List (Nat × AV)} {O : List AObj} {Q : Exit → St → Prop} {ops : Array Oper} {l : List Oper} {d : Nat} {tt : TypeId} {pos : String} {after : Array Edge} {tab : List (Nat × Ty)}
theorem FinH.ret {rs : Array ResultVar} {OO : List AObj} {r : AV} {σ : St} (h : ResH tab OO r rs σ) : FinH tab rs OO r .ret σ := h
theorem FinH.normal {rs : Array ResultVar} {OO : List AObj} {r : AV} {σ : St} (h : ResH tab OO r rs σ) : FinH tab rs OO r .normal σ := h
theorem ResH.out (hP : TabOk P tab) {rs : Array ResultVar} {OO : List AObj} {r : AV} {σ : St} {a : Act} {w : World} {fn : Func} (hfr : fn.results = rs) (h : ResH tab OO r rs σ) (hr : Rel n m G σ a w) :
    ∃ v, (results fn a.tmps).run P w = .ok v w ∧ ∃ S' ι F, (∀ b, G.S0 b → S' b) ∧ (∀ b, S' b → G.S0 b ∨ G.w0.heap.size ≤ b) ∧ (∀ b, S' b → b < w.heap.size) ∧ (∀ id, id < m → ι id = G.ι0 id) ∧ ORel S' w ι OO F ∧
      (∀ id, id < OO.length → ∀ b ∈ F id, (G.M0 b ∨ G.w0.heap.size ≤ b) ∧ ¬ S' b ∧ b < w.heap.size) ∧ VRel S' w ι OO r v [] ∧ Keeps G.w0 G.M0 w := by
  obtain ⟨S, ι, F, hr⟩ := hr
  cases h with
  | zero e => subst e; exact ⟨_, run_results0 hfr, S, ι, F, hr.base.1, hr.base.2, hr.stable, hr.spots, hr.objs, hr.foot, by simpa using LRel.tup LRel.nil LRel.nil, hr.keeps⟩
  | one h1 =>
    obtain ⟨v, hv, hV⟩ := ResV.rel hP hr h1
    exact ⟨v, run_results1 hfr hv, S, ι, F, hr.base.1, hr.base.2, hr.stable, hr.spots, hr.objs, hr.foot, hV, hr.keeps⟩
  | two h1 h2 e =>
    subst e
    obtain ⟨v1, hv1, hV1⟩ := ResV.rel hP hr h1
    obtain ⟨v2, hv2, hV2⟩ := ResV.rel hP hr h2
    exact ⟨_, run_results2 hfr hv1 hv2, S, ι, F, hr.base.1, hr.base.2, hr.stable, hr.spots, hr.objs, hr.foot, by simpa using LRel.tup (LRel.cons hV1 hV2) .nil, hr.keeps⟩
theorem FnH.of_body (hP : TabOk P tab) {f : FuncId} {fn : Func} {c : Code} {args : List AV} {M OO : List AObj} {r : AV} {k m : Nat} (hf : P.funcs[f]? = some fn) (hnt : fn.ntmps = k) (hb : fn.body = some c) (hnm : (fn.name == "runtime.NumGoroutine") = false)
    (hal : args.length ≤ k) (hml : m ≤ M.length) (hmo : m ≤ OO.length) (h : ∀ G, WpA P k m G c ⟨enumT 0 args, M⟩ (FinH tab fn.results OO r)) : FnH P f args m M OO r := by
  refine ⟨⟨fn, hf, by rw [hb]; rfl, hnm⟩, hml, hmo, fun w S ι F vs hS hO hF hl => ?_⟩
  have hvl : vs.length = args.length := hl.len.symm
  refine calls_of_wp hf hb ?_
  have hrel : Rel k m ⟨w, S, fun b => ∃ i, i < M.length ∧ b ∈ F i, ι⟩ ⟨enumT 0 args, M⟩ { tmps := vs.toArray ++ Array.replicate (fn.ntmps - vs.toArray.size) undef, defers := [] } w := by
    refine ⟨S, ι, F, rfl, ?_, fun t => ?_, hO, fun id hid b hb => ⟨.inl ⟨id, hid, hb⟩, hF id hid b hb⟩, ⟨fun _ h => h, fun _ h => .inl h⟩, hS, Keeps.refl _ _, fun _ _ => rfl, by show m ≤ M.length; omega⟩
    · simp [hnt]; omega
    · show VRel S w ι M (look (enumT 0 args) t) _ []
      rw [look_enumT]
      simp only [Nat.zero_le, if_true, Nat.sub_zero]
      by_cases ht : t < args.length
      · obtain ⟨x, g, hx, hV, hg⟩ := hl.get (List.getElem?_eq_getElem ht)
        have hg0 : g = [] := List.eq_nil_iff_forall_not_mem.2 fun b hb => by simpa using hg b hb
        subst hg0
        have e1 : args.getD t .any = args[t] := by simp [ht]
        have e2 : (vs.toArray ++ Array.replicate (fn.ntmps - vs.toArray.size) undef).getD t undef = x := by
          have : t < vs.length := by omega
          rw [List.getElem?_eq_getElem this] at hx
          simp only [Option.some.injEq] at hx
          simp [Array.getD_eq_getD_getElem?, Array.getElem?_append, this, hx]
        rw [e1, e2]; exact hV
      · have e1 : args.getD t .any = .any := by simp [List.getElem?_eq_none (Nat.le_of_not_lt ht)]
        rw [e1]; exact .any .nil
  refine wp_mono (h _ _ _ hrel) fun e a' w' ⟨σ', hq, hr'⟩ => ?_
  have hdef : a'.defers = [] := by obtain ⟨_, _, _, h⟩ := hr'; exact h.defers
  cases e with
  | normal =>
    obtain ⟨v, hv, S', ι', F', q1, q2, q3, q4, q5⟩ := ResH.out hP rfl hq hr'
    exact ⟨hdef, v, hv, v, S', ι', F', rfl, q1, q2, q3, q4, q5⟩
  | ret =>
    obtain ⟨v, hv, S', ι', F', q1, q2, q3, q4, q5⟩ := ResH.out hP rfl hq hr'
    exact ⟨hdef, v, hv, v, S', ι', F', rfl, q1, q2, q3, q4, q5⟩
  | _ => exact hq.elim
end

/-! Handing over. -/
/-- The objects handed over: their cells as they are (still ones), or told by the places among those handed. -/
inductive HandH (O : List AObj) (hs0 : List Nat) : List Nat → List AObj → Prop
  | nil : HandH O hs0 [] []
  | still {id hs ob mb M} : O[id]? = some ob → ob.cells = mb.cells → mb.cells.all AV.still = true → mb.ep = 0 → mb.size = ob.size → (mb.ty = none ∨ mb.ty = ob.ty) → HandH O hs0 hs M → HandH O hs0 (id :: hs) (mb :: M)
  | hand {id hs ob mb M} : O[id]? = some ob → Hand O hs0 ob.cells mb.cells → ob.cells.all AV.nofre = true → mb.ep = 0 → mb.size = ob.size → (mb.ty = none ∨ mb.ty = ob.ty) → HandH O hs0 hs M → HandH O hs0 (id :: hs) (mb :: M)
theorem HandH.at {O hs0 hs M} (h : HandH O hs0 hs M) : hs.length = M.length ∧ ∀ (j : Nat) (mb : AObj), M[j]? = some mb → ∃ id ob, hs[j]? = some id ∧ O[id]? = some ob ∧ ((ob.cells = mb.cells ∧ mb.cells.all AV.still = true) ∨ (Hand O hs0 ob.cells mb.cells ∧ ob.cells.all AV.nofre = true)) ∧ mb.ep = 0 ∧ mb.size = ob.size ∧ (mb.ty = none ∨ mb.ty = ob.ty) := by
  induction h with
  | nil => exact ⟨rfl, by simp⟩
  | still h1 h2 h3 h4 h5 h6 _ ih =>
    refine ⟨by simp [ih.1], fun j mb hj => ?_⟩
    cases j with
    | zero => simp at hj; subst hj; exact ⟨_, _, by simp, h1, .inl ⟨h2, h3⟩, h4, h5, h6⟩
    | succ j => simpa using ih.2 j mb (by simpa using hj)
  | hand h1 h2 h3 h4 h5 h6 _ ih =>
    refine ⟨by simp [ih.1], fun j mb hj => ?_⟩
    cases j with
    | zero => simp at hj; subst hj; exact ⟨_, _, by simp, h1, .inr ⟨h2, h3⟩, h4, h5, h6⟩
    | succ j => simpa using ih.2 j mb (by simpa using hj)
theorem nofre_list {S w ι O} : ∀ {cs : List AV} {xs f}, LRel S w ι O cs xs f → cs.all AV.nofre = true → f = []
  | [], xs, f, h, _ => by cases h; rfl
  | c :: cs, xs, f, h, hn => by
    rw [List.all_cons, Bool.and_eq_true] at hn
    obtain ⟨v, vs', f1, f2, rfl, hv, hr, rfl⟩ := h.uncons
    rw [nofre_nil hv hn.1, nofre_list hr hn.2]; rfl
theorem Hand.relH {O : List AObj} {hs : List Nat} {M : List AObj} {S S2 : Nat → Prop} {w ι ιM} (hM : hs.length = M.length ∧ ∀ (j : Nat) (mb : AObj), M[j]? = some mb → ∃ id ob, hs[j]? = some id ∧ O[id]? = some ob ∧ mb.ep = 0 ∧ mb.size = ob.size) (hι : ∀ (j id : Nat), hs[j]? = some id → ιM j = ι id) (hS : ∀ b, S b → S2 b)
    {F : Nat → List Nat} (hO : ORel S w ι O F) (hS2 : ∀ b, b < w.heap.size → (∀ id ∈ hs, b ∉ F id) → S2 b) (hlt : ∀ id ∈ hs, id < O.length) {vs us} (h : Hand O hs vs us) : ∀ {xs}, LRel S w ι O vs xs [] → LRel S2 w ιM M us xs [] := by
  induction h with
  | nil => intro xs hl; cases hl; exact .nil
  | any _ ih =>
    intro xs hl
    obtain ⟨v, vs', f1, f2, rfl, hv, hr, hf⟩ := hl.uncons
    obtain ⟨rfl, rfl⟩ : f1 = [] ∧ f2 = [] := by simpa using hf
    exact .any (ih hr)
  | keep hs hn _ ih =>
    intro xs hl
    obtain ⟨v, vs', f1, f2, rfl, hv, hr, hf⟩ := hl.uncons
    obtain ⟨rfl, rfl⟩ : f1 = [] ∧ f2 = [] := by simpa using hf
    exact LRel.cons (still_any hv hs M hS (fun _ _ => rfl) (by simp)) (ih hr)
  | @own id ep off len len' j ob vs us hj ho he hln _ ih =>
    intro xs hl
    subst hln
    obtain ⟨v, vs', f1, f2, rfl, hv, hr, hf⟩ := hl.uncons
    obtain ⟨rfl, rfl⟩ : f1 = [] ∧ f2 = [] := by simpa using hf
    cases hv with
    | own q1 q2 q3 r =>
      rw [ho] at q1; cases q1
      have hjl : j < M.length := by rw [← hM.1]; exact (List.getElem?_eq_some_iff.1 hj).1
      obtain ⟨id', ob', e1, e2, e5, e6⟩ := hM.2 j _ (List.getElem?_eq_getElem hjl)
      rw [hj] at e1; cases e1
      rw [ho] at e2; cases e2
      exact .own (List.getElem?_eq_getElem hjl) (by omega) (fun _ => by rw [hι j _ hj, e6]; exact q3 he.symm) (ih hr)
  | @ptr id ep off j ob vs us hj ho he _ ih =>
    intro xs hl
    obtain ⟨v, vs', f1, f2, rfl, hv, hr, hf⟩ := hl.uncons
    obtain ⟨rfl, rfl⟩ : f1 = [] ∧ f2 = [] := by simpa using hf
    cases hv with
    | ptr q1 q2 q3 r =>
      rw [ho] at q1; cases q1
      have hjl : j < M.length := by rw [← hM.1]; exact (List.getElem?_eq_some_iff.1 hj).1
      obtain ⟨id', ob', e1, e2, e5, e6⟩ := hM.2 j _ (List.getElem?_eq_getElem hjl)
      rw [hj] at e1; cases e1
      rw [ho] at e2; cases e2
      exact .ptr (List.getElem?_eq_getElem hjl) (by omega) (fun _ => by rw [hι j _ hj]; exact q3 he.symm) (ih hr)
  | agg _ _ ih1 ih2 =>
    intro xs hl
    obtain ⟨v, vs', f1, f2, rfl, hv, hr, hf⟩ := hl.uncons
    obtain ⟨rfl, rfl⟩ : f1 = [] ∧ f2 = [] := by simpa using hf
    obtain ⟨us', rfl, ha⟩ := LRel.agg_inv hv
    simpa using LRel.agg (ih1 ha) (ih2 hr)
  | snap hx _ ih =>
    intro xs hl
    obtain ⟨v, vs', f1, f2, rfl, hv, hr, hf⟩ := hl.uncons
    obtain ⟨rfl, rfl⟩ : f1 = [] ∧ f2 = [] := by simpa using hf
    have := SnapX.rel (ιM := ιM) hO hS hS2 hlt hx hv (by simp)
    simpa using LRel.cons this.lift (ih hr)

/-! What the callee's objects are to the caller. -/
inductive Back (O : List AObj) (hs : List Nat) (m base : Nat) : List AV → List AV → Prop
  | nil : Back O hs m base [] []
  | loc {V vs us} : V.still = true → Loc [V] → Back O hs m base vs us → Back O hs m base (V :: vs) (V :: us)
  | old {j off len id ob vs us} : j < m → hs[j]? = some id → O[id]? = some ob → Back O hs m base vs us → Back O hs m base (.own j 0 off len :: vs) (.own id ob.ep off len :: us)
  | new {j i ep off len vs us} : m ≤ j → i = j - m + base → Back O hs m base vs us → Back O hs m base (.own j ep off len :: vs) (.own i ep off len :: us)
  | pold {j off id ob vs us} : j < m → hs[j]? = some id → O[id]? = some ob → Back O hs m base vs us → Back O hs m base (.ptr j 0 off :: vs) (.ptr id ob.ep off :: us)
  | pnew {j i ep off vs us} : m ≤ j → i = j - m + base → Back O hs m base vs us → Back O hs m base (.ptr j ep off :: vs) (.ptr i ep off :: us)
  | agg {ds es vs us} : Back O hs m base ds es → Back O hs m base vs us → Back O hs m base (.agg ds :: vs) (.agg es :: us)
  | tup {ds es vs us} : Back O hs m base ds es → Back O hs m base vs us → Back O hs m base (.tup ds :: vs) (.tup es :: us)
theorem Back.all {O : List AObj} {hs : List Nat} {m base : Nat} {cs cs' : List AV} (he : cs = cs') (h1 : cs'.all AV.still = true) (h2 : Loc cs') : Back O hs m base cs cs' := by
  subst he
  induction cs with
  | nil => exact .nil
  | cons c cs ih =>
    rw [List.all_cons, Bool.and_eq_true] at h1
    cases h2 with
    | any r => exact .loc rfl (.any .nil) (ih h1.2 r)
    | sc r => exact .loc rfl (.sc .nil) (ih h1.2 r)
    | nilS r => exact .loc rfl (.nilS .nil) (ih h1.2 r)
    | own r => simp [AV.still] at h1
    | fre a r => exact .loc rfl (.fre a .nil) (ih h1.2 r)
    | agg => simp [AV.still] at h1
    | tup => simp [AV.still] at h1
theorem Back.rel {O OO O3 : List AObj} {hs : List Nat} {m base : Nat} {S' S3 : Nat → Prop} {w' ι' ι3} (hold : ∀ (j id : Nat) (ob : AObj), j < m → hs[j]? = some id → O[id]? = some ob → ∃ oj o3, OO[j]? = some oj ∧ oj.ep = 0 ∧ O3[id]? = some o3 ∧ o3.ep = ob.ep ∧ o3.size = oj.size ∧ ι3 id = ι' j)
    (hnew : ∀ (j : Nat) (oj : AObj), m ≤ j → OO[j]? = some oj → ∃ o3, O3[j - m + base]? = some o3 ∧ o3.ep = oj.ep ∧ o3.size = oj.size ∧ ι3 (j - m + base) = ι' j) {vs us} (h : Back O hs m base vs us) :
    ∀ {xs f}, LRel S' w' ι' OO vs xs f → LRel S3 w' ι3 O3 us xs f := by
  induction h with
  | nil => intro xs f hl; cases hl; exact .nil
  | loc hs1 hL _ ih =>
    intro xs f hl
    obtain ⟨v, vs', f1, f2, rfl, hv, hr, rfl⟩ := hl.uncons
    exact LRel.cons (Loc.rel hL (still_any (S' := S') hv hs1 O3 (fun _ h => h) (fun _ _ => rfl) (fun _ _ => rfl))) (ih hr)
  | @old j off len id ob vs us hj hjs ho _ ih =>
    intro xs f hl
    obtain ⟨oj, o3, e1, e2, e3, e4, e5, e6⟩ := hold j id ob hj hjs ho
    cases hl with
    | own q1 q2 q3 r =>
      rw [e1] at q1; cases q1
      exact .own e3 (by omega) (fun _ => by rw [e6, e5]; exact q3 e2.symm) (ih r)
  | @new j i ep off len vs us hj hi _ ih =>
    intro xs f hl
    subst hi
    cases hl with
    | own q1 q2 q3 r =>
      obtain ⟨o3, e1, e2, e3, e4⟩ := hnew j _ hj q1
      exact .own e1 (by omega) (fun e => by rw [e4, e3]; exact q3 (by omega)) (ih r)
  | @pold j off id ob vs us hj hjs ho _ ih =>
    intro xs f hl
    obtain ⟨oj, o3, e1, e2, e3, e4, e5, e6⟩ := hold j id ob hj hjs ho
    cases hl with
    | ptr q1 q2 q3 r =>
      rw [e1] at q1; cases q1
      exact .ptr e3 (by omega) (fun _ => by rw [e6]; exact q3 e2.symm) (ih r)
  | @pnew j i ep off vs us hj hi _ ih =>
    intro xs f hl
    subst hi
    cases hl with
    | ptr q1 q2 q3 r =>
      obtain ⟨o3, e1, e2, e3, e4⟩ := hnew j _ hj q1
      exact .ptr e1 (by omega) (fun e => by rw [e4]; exact q3 (by omega)) (ih r)
  | agg _ _ ih1 ih2 =>
    intro xs f hl
    obtain ⟨v, vs', f1, f2, rfl, hv, hr, rfl⟩ := hl.uncons
    obtain ⟨us', rfl, ha⟩ := LRel.agg_inv hv
    exact .agg (ih1 ha) (ih2 hr)
  | tup _ _ ih1 ih2 =>
    intro xs f hl
    obtain ⟨v, vs', f1, f2, rfl, hv, hr, rfl⟩ := hl.uncons
    obtain ⟨us', rfl, ha⟩ := LRel.tup_inv hv
    exact .tup (ih1 ha) (ih2 hr)
theorem Back.len {O : List AObj} {hs : List Nat} {m base : Nat} {vs us : List AV} (h : Back O hs m base vs us) : us.length = vs.length := by
  induction h <;> simp_all
/-- The caller's objects behind the call. -/
inductive AftO (O : List AObj) (hs : List Nat) (m base : Nat) (OO : List AObj) : Nat → List AObj → List AObj → Prop
  | nil {k} : AftO O hs m base OO k [] []
  | keep {k ob os us} : findN hs k 0 = none → AftO O hs m base OO (k + 1) os us → AftO O hs m base OO k (ob :: os) (ob :: us)
  | turn {k c e s t os us j cj sj tj cs} : findN hs k 0 = some j → j < m → OO[j]? = some ⟨cj, 0, sj, tj⟩ → sj = s → Back O hs m base cj cs → AftO O hs m base OO (k + 1) os us → AftO O hs m base OO k (⟨c, e, s, t⟩ :: os) (⟨cs, e, sj, tj⟩ :: us)
  | dead {k c e s t os us j} : findN hs k 0 = some j → m ≤ j → AftO O hs m base OO (k + 1) os us → AftO O hs m base OO k (⟨c, e, s, t⟩ :: os) (⟨[], e + 1, 0, none⟩ :: us)
inductive AftN (O : List AObj) (hs : List Nat) (m base : Nat) : List AObj → List AObj → Prop
  | nil : AftN O hs m base [] []
  | cons {c e s t cs os us} : Back O hs m base c cs → AftN O hs m base os us → AftN O hs m base (⟨c, e, s, t⟩ :: os) (⟨cs, e, s, t⟩ :: us)
theorem AftN.at {O hs m base os us} (h : AftN O hs m base os us) : us.length = os.length ∧ ∀ (i : Nat) (oj : AObj), os[i]? = some oj → ∃ cs, us[i]? = some ⟨cs, oj.ep, oj.size, oj.ty⟩ ∧ Back O hs m base oj.cells cs := by
  induction h with
  | nil => exact ⟨rfl, by simp⟩
  | @cons c e s t cs os us hb _ ih =>
    refine ⟨by simp [ih.1], fun i oj hi => ?_⟩
    cases i with
    | zero => simp at hi; subst hi; exact ⟨cs, by simp, hb⟩
    | succ i => simpa using ih.2 i oj (by simpa using hi)
theorem AftO.at {O hs m base OO k os us} (h : AftO O hs m base OO k os us) : us.length = os.length ∧ ∀ (i : Nat) (ob : AObj), os[i]? = some ob →
    (findN hs (k + i) 0 = none ∧ us[i]? = some ob) ∨ (∃ j oj cs, findN hs (k + i) 0 = some j ∧ j < m ∧ OO[j]? = some oj ∧ oj.ep = 0 ∧ oj.size = ob.size ∧ us[i]? = some ⟨cs, ob.ep, oj.size, oj.ty⟩ ∧ Back O hs m base oj.cells cs) ∨
      (∃ j, findN hs (k + i) 0 = some j ∧ m ≤ j ∧ us[i]? = some ⟨[], ob.ep + 1, 0, none⟩) := by
  induction h with
  | nil => exact ⟨rfl, by simp⟩
  | @keep k ob os us hf _ ih =>
    refine ⟨by simp [ih.1], fun i o hi => ?_⟩
    cases i with
    | zero => simp at hi; subst hi; exact .inl ⟨hf, by simp⟩
    | succ i => have := ih.2 i o (by simpa using hi); rw [show k + 1 + i = k + (i + 1) by omega] at this; simpa using this
  | @turn k c e s t os us j cj sj tj cs hf hj hoj hsz hb _ ih =>
    refine ⟨by simp [ih.1], fun i o hi => ?_⟩
    cases i with
    | zero => simp at hi; subst hi; exact .inr (.inl ⟨j, _, cs, hf, hj, hoj, rfl, hsz, by simp, hb⟩)
    | succ i => have := ih.2 i o (by simpa using hi); rw [show k + 1 + i = k + (i + 1) by omega] at this; simpa using this
  | @dead k c e s t os us j hf hj _ ih =>
    refine ⟨by simp [ih.1], fun i o hi => ?_⟩
    cases i with
    | zero => simp at hi; subst hi; exact .inr (.inr ⟨j, hf, hj, by simp⟩)
    | succ i => have := ih.2 i o (by simpa using hi); rw [show k + 1 + i = k + (i + 1) by omega] at this; simpa using this
section
variable {P : Program} {n m : Nat} {G : Ctx} {T : List (Nat × AV)} {O : List AObj} {Q : Exit → St → Prop} {ops : Array Oper} {l : List Oper} {tt : TypeId} {pos : String} {after : Array Edge} {tab : List (Nat × Ty)}
theorem callH_rel {f : FuncId} {xs : List Operand} {As : List AV} {M OO A B : List AObj} {r r' : AV} {hs : List Nat} {k : Nat} (hc : FnH P f As k M OO r) (hh : Hand O hs (xs.map (av T)) As) (hM : HandH O hs hs M) (hnd : hs.Nodup) (hmk : ∀ (j id : Nat), k ≤ j → hs[j]? = some id → m ≤ id)
    (hA : AftO O hs k O.length OO 0 O A) (hB : AftN O hs k O.length (OO.drop k) B) (hre : Back O hs k O.length [r] [r']) {a : Act} {w : World} (hr : Rel n m G ⟨T, O⟩ a w) :
    Calls P f (xs.map a.eval).toArray w fun e w' => ∃ v, e = .returned v ∧ ∃ S ι F, RelAt n m G S ι F ⟨T, A ++ B⟩ a w' ∧ VRel S w' ι (A ++ B) r' v [] := by
  obtain ⟨S, ι, F, hr⟩ := hr
  obtain ⟨⟨fn, hf, hb, hnm⟩, hkM, hkO, hcall⟩ := hc
  obtain ⟨hlM, hatM⟩ := hM.at
  let S2 : Nat → Prop := fun b => b < w.heap.size ∧ ∀ id ∈ hs, b ∉ F id
  let ιM : Nat → Spot := fun j => match hs[j]? with | some id => ι id | none => none
  let FM : Nat → List Nat := fun j => match hs[j]? with | some id => F id | none => []
  have hιM : ∀ (j id : Nat), hs[j]? = some id → ιM j = ι id := fun j id h => by show (match hs[j]? with | some id => ι id | none => none) = _; rw [h]
  have hFM : ∀ (j id : Nat), hs[j]? = some id → FM j = F id := fun j id h => by show (match hs[j]? with | some id => F id | none => []) = _; rw [h]
  have hidl : ∀ (j id : Nat), hs[j]? = some id → id < O.length := fun j id h => by
    have hj : j < M.length := by rw [← hlM]; exact (List.getElem?_eq_some_iff.1 h).1
    obtain ⟨id', ob, e1, e2, _⟩ := hatM j _ (List.getElem?_eq_getElem hj)
    rw [h] at e1; cases e1; exact (List.getElem?_eq_some_iff.1 e2).1
  have hmem : ∀ id ∈ hs, ∃ j, j < M.length ∧ hs[j]? = some id := fun id h => by
    obtain ⟨j, hj, e⟩ := List.getElem_of_mem h
    exact ⟨j, by omega, by rw [List.getElem?_eq_getElem hj, e]⟩
  have hex : ∀ j, j < M.length → ∃ id, hs[j]? = some id := fun j hj => ⟨hs[j], List.getElem?_eq_getElem (by omega)⟩
  have hidm : ∀ id ∈ hs, id < O.length := fun id hid => by obtain ⟨j, hj, e⟩ := hmem id hid; exact hidl j id e
  have hSS : ∀ b, S b → S2 b := fun b hb => ⟨hr.stable b hb, fun id hid hbf => by
    obtain ⟨j, hj, e⟩ := hmem id hid
    exact (hr.foot id (hidl j id e) b hbf).2.1 hb⟩
  have hMw : hs.length = M.length ∧ ∀ (j : Nat) (mb : AObj), M[j]? = some mb → ∃ id ob, hs[j]? = some id ∧ O[id]? = some ob ∧ mb.ep = 0 ∧ mb.size = ob.size := ⟨hlM, fun j mb hj => by
    obtain ⟨id, ob, e1, e2, _, e4, e5, _⟩ := hatM j mb hj; exact ⟨id, ob, e1, e2, e4, e5⟩⟩
  have hOM : ORel S2 w ιM M FM := by
    refine ⟨fun j mb hj => ?_, fun j hj => ?_, fun i j hi hj hij b hb => ?_⟩
    · obtain ⟨id, ob, e1, e2, e3, e4, e5, e7⟩ := hatM j mb hj
      rw [hιM j id e1, hFM j id e1]
      have ho := hr.objs.obj id ob e2
      unfold ObjAt at ho ⊢
      cases hs' : ι id with
      | none =>
        rw [hs'] at ho
        rcases e3 with ⟨e3, _⟩ | ⟨e3, _⟩
        · rw [← e3]; exact ho
        · rw [ho.1] at e3; generalize mb.cells = z at e3; cases e3; exact ⟨rfl, ho.2⟩
      | some p =>
        obtain ⟨b, k⟩ := p
        rw [hs'] at ho
        obtain ⟨cur', t', fz', f2, q1, q2, q3, q4, q5, q6, q7⟩ := ho
        have hty : ∀ e, mb.ty = some e → t' = e ∧ fz' = (0, 0) := fun e he => by
          rcases e7 with e7 | e7
          · rw [e7] at he; cases he
          · exact q6 e (by rw [← e7]; exact he)
        rcases e3 with ⟨e3, e3'⟩ | ⟨e3, e3'⟩
        · refine ⟨cur', t', fz', f2, q1, q2, q3, by rw [← e3]; exact q4, q5, hty, ?_⟩
          rw [← e3]
          exact still_all (by rw [e3]; exact e3') q7 hSS (fun _ _ => rfl) (fun _ _ => rfl)
        · have hf2 := nofre_list q7 e3'
          subst hf2
          have hl2 := Hand.relH (S2 := S2) (ιM := ιM) hMw hιM hSS hr.objs (fun b h1 h2 => ⟨h1, h2⟩) hidm e3 q7
          have hlen : mb.cells.length = ob.cells.length := by have := hl2.len; have := q7.len; omega
          refine ⟨cur', t', fz', [], q1, q2, q3, by omega, q5, hty, ?_⟩
          rw [hlen]; exact hl2
    · obtain ⟨id, e⟩ := hex j hj
      rw [hFM j id e]; exact hr.objs.nodup id (hidl j id e)
    · obtain ⟨id1, e1⟩ := hex i hi
      obtain ⟨id2, e2⟩ := hex j hj
      rw [hFM i id1 e1] at hb; rw [hFM j id2 e2]
      exact hr.objs.apart id1 id2 (hidl i id1 e1) (hidl j id2 e2) (fun e => hij (nodup_get hnd e1 (e ▸ e2))) b hb
  have hl := hr.evals xs
  have hl2 := Hand.relH (S2 := S2) (ιM := ιM) hMw hιM hSS hr.objs (fun b h1 h2 => ⟨h1, h2⟩) hidm hh hl
  refine (hcall w S2 ιM FM (xs.map a.eval) (fun b h => h.1) hOM (fun j hj b hb => ?_) hl2).mono fun e w' he => ?_
  · obtain ⟨id, e⟩ := hex j hj
    rw [hFM j id e] at hb
    exact ⟨fun h => h.2 id (List.mem_of_getElem? e) hb, (hr.foot id (hidl j id e) b hb).2.2⟩
  obtain ⟨v, S', ι', F', rfl, hS1, hS2, hS3, hι', hO', hF', hv, hk⟩ := he
  refine ⟨v, rfl, ?_⟩
  have hold : ∀ b, b < w.heap.size → (∀ id ∈ hs, b ∉ F id) → w'.heap[b]? = w.heap[b]? := fun b hb hn => hk.block b hb (by
    rintro ⟨i, hi, hbf⟩
    obtain ⟨id, e⟩ := hex i hi
    rw [hFM i id e] at hbf
    exact hn id (List.mem_of_getElem? e) hbf)
  obtain ⟨hAl, hAt⟩ := hA.at
  obtain ⟨hBl, hBt⟩ := hB.at
  have hBl2 : B.length = OO.length - k := by rw [hBl, List.length_drop]
  have hfind : ∀ (i j : Nat), findN hs i 0 = some j → j < M.length ∧ hs[j]? = some i := fun i j h => by
    obtain ⟨q, rfl, hq⟩ := findN_some h
    rw [Nat.zero_add]
    exact ⟨by rw [← hlM]; exact (List.getElem?_eq_some_iff.1 hq).1, hq⟩
  have hfound : ∀ (i j : Nat), hs[j]? = some i → findN hs i 0 = some j := fun i j h => by
    cases hfd : findN hs i 0 with
    | none => exact absurd (List.mem_of_getElem? h) (findN_none hfd)
    | some q => obtain ⟨_, h2⟩ := hfind i q hfd; rw [nodup_get hnd h2 h]
  let S3 : Nat → Prop := fun b => S b ∨ (S' b ∧ w.heap.size ≤ b)
  let ι3 : Nat → Spot := fun i => if i < O.length then (match findN hs i 0 with | some j => if j < k then ι i else none | none => ι i) else ι' (k + (i - O.length))
  let F3 : Nat → List Nat := fun i => if i < O.length then (match findN hs i 0 with | some j => if j < k then F' j else [] | none => F i) else F' (k + (i - O.length))
  let O3 := A ++ B
  have hlO3 : O3.length = O.length + (OO.length - k) := by show (A ++ B).length = _; rw [List.length_append, hAl, hBl2]
  have hι3n : ∀ i, i < O.length → findN hs i 0 = none → ι3 i = ι i := fun i hi h => by show (if _ then _ else _) = _; rw [if_pos hi, h]
  have hι3t : ∀ i j, i < O.length → findN hs i 0 = some j → j < k → ι3 i = ι i := fun i j hi h hj => by show (if _ then _ else _) = _; rw [if_pos hi, h]; exact if_pos hj
  have hι3d : ∀ i j, i < O.length → findN hs i 0 = some j → k ≤ j → ι3 i = none := fun i j hi h hj => by show (if _ then _ else _) = _; rw [if_pos hi, h]; exact if_neg (by omega)
  have hι3g : ∀ i, O.length ≤ i → ι3 i = ι' (k + (i - O.length)) := fun i hi => if_neg (by omega)
  have hF3n : ∀ i, i < O.length → findN hs i 0 = none → F3 i = F i := fun i hi h => by show (if _ then _ else _) = _; rw [if_pos hi, h]
  have hF3t : ∀ i j, i < O.length → findN hs i 0 = some j → j < k → F3 i = F' j := fun i j hi h hj => by show (if _ then _ else _) = _; rw [if_pos hi, h]; exact if_pos hj
  have hF3d : ∀ i j, i < O.length → findN hs i 0 = some j → k ≤ j → F3 i = [] := fun i j hi h hj => by show (if _ then _ else _) = _; rw [if_pos hi, h]; exact if_neg (by omega)
  have hF3g : ∀ i, O.length ≤ i → F3 i = F' (k + (i - O.length)) := fun i hi => if_neg (by omega)
  have hO3lt : ∀ i : Nat, i < O.length → O3[i]? = A[i]? := fun i hi => by show (A ++ B)[i]? = _; rw [List.getElem?_append_left (by omega)]
  have hO3ge : ∀ i : Nat, O.length ≤ i → O3[i]? = B[i - O.length]? := fun i hi => by show (A ++ B)[i]? = _; rw [List.getElem?_append_right (by omega), hAl]
  have hB3 : ∀ (j : Nat) (oj : AObj), k ≤ j → OO[j]? = some oj → ∃ cs, B[j - k]? = some ⟨cs, oj.ep, oj.size, oj.ty⟩ ∧ Back O hs k O.length oj.cells cs := fun j oj hj h => by
    refine hBt (j - k) oj ?_
    rw [List.getElem?_drop, show k + (j - k) = j by omega]; exact h
  have bkold : ∀ (j id : Nat) (ob : AObj), j < k → hs[j]? = some id → O[id]? = some ob → ∃ oj o3, OO[j]? = some oj ∧ oj.ep = 0 ∧ O3[id]? = some o3 ∧ o3.ep = ob.ep ∧ o3.size = oj.size ∧ ι3 id = ι' j := fun j id ob hj hjs ho => by
    have hlt := hidl j id hjs
    have hfd := hfound id j hjs
    rcases hAt id ob ho with ⟨h1, _⟩ | ⟨j', oj, cs, h1, h2, h3, h4, h5, h6, h7⟩ | ⟨j', h1, h2, _⟩
    · rw [Nat.zero_add, hfd] at h1; cases h1
    · rw [Nat.zero_add, hfd] at h1; cases h1
      exact ⟨oj, ⟨cs, ob.ep, oj.size, oj.ty⟩, h3, h4, by rw [hO3lt id hlt]; exact h6, rfl, rfl, by rw [hι3t id j hlt hfd hj, hι' j hj, hιM j id hjs]⟩
    · rw [Nat.zero_add, hfd] at h1; cases h1; omega
  have bknew : ∀ (j : Nat) (oj : AObj), k ≤ j → OO[j]? = some oj → ∃ o3, O3[j - k + O.length]? = some o3 ∧ o3.ep = oj.ep ∧ o3.size = oj.size ∧ ι3 (j - k + O.length) = ι' j := fun j oj hj h => by
    obtain ⟨cs, h1, h2⟩ := hB3 j oj hj h
    refine ⟨⟨cs, oj.ep, oj.size, oj.ty⟩, by rw [hO3ge _ (by omega), Nat.add_sub_cancel]; exact h1, rfl, rfl, ?_⟩
    rw [hι3g _ (by omega), Nat.add_sub_cancel]; congr 1; omega
  have hlat : Later S w ι O S3 w' ι3 O3 := by
    refine ⟨fun b h => .inl h, fun b hb => hold b (hr.stable b hb) (hSS b hb).2, fun id ob h => ?_⟩
    have hlt : id < O.length := (List.getElem?_eq_some_iff.1 h).1
    rcases hAt id ob h with ⟨h1, h2⟩ | ⟨j, oj, cs, h1, h2, h3, h4, h5, h6, h7⟩ | ⟨j, h1, h2, h3⟩
    · rw [Nat.zero_add] at h1
      exact ⟨ob, by rw [hO3lt id hlt]; exact h2, .inr ⟨rfl, rfl, hι3n id hlt h1⟩⟩
    · rw [Nat.zero_add] at h1
      exact ⟨⟨cs, ob.ep, oj.size, oj.ty⟩, by rw [hO3lt id hlt]; exact h6, .inr ⟨rfl, h5, hι3t id j hlt h1 h2⟩⟩
    · exact ⟨⟨[], ob.ep + 1, 0, none⟩, by rw [hO3lt id hlt]; exact h3, .inl (Nat.lt_succ_self _)⟩
  have hsrc : ∀ q, q < OO.length → ∀ b ∈ F' q, ((∃ id, id ∈ hs ∧ id < O.length ∧ b ∈ F id) ∨ w.heap.size ≤ b) ∧ ¬ S' b ∧ b < w'.heap.size := fun q hq b hb => by
    obtain ⟨q1, q2, q3⟩ := hF' q hq b hb
    refine ⟨?_, q2, q3⟩
    rcases q1 with ⟨i, hi, hbf⟩ | q1
    · obtain ⟨id, e⟩ := hex i hi
      rw [hFM i id e] at hbf
      exact .inl ⟨id, List.mem_of_getElem? e, hidl i id e, hbf⟩
    · exact .inr q1
  have hnoS : ∀ q, q < OO.length → ∀ b ∈ F' q, (G.M0 b ∨ G.w0.heap.size ≤ b) ∧ ¬ S3 b ∧ b < w'.heap.size := fun q hq b hb => by
    obtain ⟨q1, q2, q3⟩ := hsrc q hq b hb
    rcases q1 with ⟨id, hid, hlt, hbf⟩ | q1
    · obtain ⟨p1, p2, p3⟩ := hr.foot id hlt b hbf
      refine ⟨p1, ?_, q3⟩
      rintro (h | ⟨h, _⟩)
      · exact p2 h
      · exact q2 h
    · refine ⟨.inr (by have := hr.keeps.size; omega), ?_, q3⟩
      rintro (h | ⟨h, _⟩)
      · have := hr.stable b h; omega
      · exact q2 h
  have hnotin : ∀ i, i < O.length → findN hs i 0 = none → ∀ b ∈ F i, w'.heap[b]? = w.heap[b]? := fun i hi h b hb => hold b (hr.foot i hi b hb).2.2 fun id hid hbf => by
    obtain ⟨j, hj, e⟩ := hmem id hid
    have hne : i ≠ id := by rintro rfl; exact findN_none h hid
    exact hr.objs.apart i id hi (hidl j id e) hne b hb hbf
  have hback : ∀ {cs cs' : List AV}, Back O hs k O.length cs cs' → ∀ {ys g}, LRel S' w' ι' OO cs ys g → LRel S3 w' ι3 O3 cs' ys g := fun hb => Back.rel bkold bknew hb
  -- an object of the callee's, in its place
  have hobj : ∀ (q : Nat) (oj : AObj) (cs : List AV) (e : Nat), OO[q]? = some oj → Back O hs k O.length oj.cells cs → ObjAt S3 w' ι3 O3 ⟨cs, e, oj.size, oj.ty⟩ (ι' q) (F' q) := fun q oj cs e hq hb => by
    have ho := hO'.obj q oj hq
    have hl := hb.len
    unfold ObjAt at ho ⊢
    cases hs' : ι' q with
    | none =>
      rw [hs'] at ho
      refine ⟨List.length_eq_zero_iff.1 ?_, ho.2⟩
      rw [hl, ho.1]; rfl
    | some p =>
      obtain ⟨b, kk⟩ := p
      rw [hs'] at ho
      obtain ⟨cur', t', fz', f2, q1, q2, q3, q4, q5, q6, q7⟩ := ho
      refine ⟨cur', t', fz', f2, q1, q2, q3, by show cs.length ≤ kk; omega, q5, q6, ?_⟩
      show LRel S3 w' ι3 O3 cs (cur'.toList.take cs.length) f2
      rw [hl]; exact hback hb q7
  -- whence a place's blocks come
  have hpl : ∀ i, i < O3.length → (∃ q, q < OO.length ∧ F3 i = F' q ∧ ((q < k ∧ hs[q]? = some i) ∨ (O.length ≤ i ∧ q = k + (i - O.length)))) ∨ (i < O.length ∧ findN hs i 0 = none ∧ F3 i = F i) ∨ F3 i = [] := fun i hi => by
    by_cases hlt : i < O.length
    · cases hfd : findN hs i 0 with
      | some j =>
        by_cases hj : j < k
        · exact .inl ⟨j, by omega, hF3t i j hlt hfd hj, .inl ⟨hj, (hfind i j hfd).2⟩⟩
        · exact .inr (.inr (hF3d i j hlt hfd (by omega)))
      | none => exact .inr (.inl ⟨hlt, rfl, hF3n i hlt hfd⟩)
    · exact .inl ⟨_, by omega, hF3g i (by omega), .inr ⟨by omega, rfl⟩⟩
  refine ⟨S3, ι3, F3, ⟨hr.defers, hr.size, fun t => (hr.tmps t).mono hlat (by simp), ⟨fun i ob h => ?_, fun i h => ?_, fun i j hi hj hij b hb => ?_⟩, fun i h b hb => ?_, ⟨fun b hb => .inl (hr.base.1 b hb), ?_⟩, ?_, ?_, fun i h => ?_, ?_⟩, ?_⟩
  · have h : O3[i]? = some ob := h
    by_cases hlt : i < O.length
    · rw [hO3lt i hlt] at h
      rcases hAt i O[i] (List.getElem?_eq_getElem hlt) with ⟨h1, h2⟩ | ⟨j, oj, cs, h1, h2, h3, h4, h5, h6, h7⟩ | ⟨j, h1, h2, h3⟩
      · rw [Nat.zero_add] at h1
        rw [h2] at h; cases h
        rw [hι3n i hlt h1, hF3n i hlt h1]
        have ho := hr.objs.obj i O[i] (List.getElem?_eq_getElem hlt)
        have key := hnotin i hlt h1
        unfold ObjAt at ho ⊢
        cases hs' : ι i with
        | none => rw [hs'] at ho; exact ho
        | some p =>
          obtain ⟨b, kk⟩ := p
          rw [hs'] at ho
          obtain ⟨cur', t', fz', f2, q1, q2, q3, q4, q5, q6, q7⟩ := ho
          exact ⟨cur', t', fz', f2, q1, by rw [key b (by rw [q1]; simp)]; exact q2, q3, q4, q5, q6, q7.mono hlat fun b' hb' => key b' (by rw [q1]; simp [hb'])⟩
      · rw [Nat.zero_add] at h1
        rw [h6] at h; cases h
        have e : ι i = ι' j := by rw [hι' j h2, hιM j i (hfind i j h1).2]
        rw [hι3t i j hlt h1 h2, hF3t i j hlt h1 h2, e]
        exact hobj j oj cs _ h3 h7
      · rw [Nat.zero_add] at h1
        rw [h3] at h; cases h
        rw [hι3d i j hlt h1 h2, hF3d i j hlt h1 h2]
        exact ⟨rfl, rfl⟩
    · have hil : i < O3.length := (List.getElem?_eq_some_iff.1 h).1
      rw [hO3ge i (by omega)] at h
      have hq : k + (i - O.length) < OO.length := by omega
      obtain ⟨cs, h1, h2⟩ := hB3 (k + (i - O.length)) _ (by omega) (List.getElem?_eq_getElem hq)
      rw [show k + (i - O.length) - k = i - O.length by omega] at h1
      rw [h1] at h; cases h
      rw [hι3g i (by omega), hF3g i (by omega)]
      exact hobj _ _ cs _ (List.getElem?_eq_getElem hq) h2
  · rcases hpl i h with ⟨q, h1, h2, _⟩ | ⟨h1, _, h2⟩ | h2
    · rw [h2]; exact hO'.nodup q h1
    · rw [h2]; exact hr.objs.nodup i h1
    · rw [h2]; exact List.nodup_nil
  · have hcross : ∀ i q, i < O.length → findN hs i 0 = none → q < OO.length → ∀ b ∈ F i, b ∉ F' q := fun i q hi hn hq b hb hb' => by
      rcases (hsrc q hq b hb').1 with ⟨id, hid, hlt, hbf⟩ | h
      · have hne : i ≠ id := by rintro rfl; exact findN_none hn hid
        exact hr.objs.apart i id hi hlt hne b hb hbf
      · have := (hr.foot i hi b hb).2.2; omega
    rcases hpl i hi with ⟨q1, p1, p2, p3⟩ | ⟨p1, p2, p3⟩ | p3 <;> rcases hpl j hj with ⟨q2, r1, r2, r3⟩ | ⟨r1, r2, r3⟩ | r3
    · rw [p2] at hb; rw [r2]
      refine hO'.apart q1 q2 p1 r1 (fun e => ?_) b hb
      subst e
      rcases p3 with ⟨a1, a2⟩ | ⟨a1, a2⟩ <;> rcases r3 with ⟨b1, b2⟩ | ⟨b1, b2⟩
      · rw [a2] at b2; cases b2; exact hij rfl
      · omega
      · omega
      · omega
    · rw [p2] at hb; rw [r3]; intro hb'; exact hcross j q1 r1 r2 p1 b hb' hb
    · rw [r3]; simp
    · rw [p3] at hb; rw [r2]; exact hcross i q2 p1 p2 r1 b hb
    · rw [p3] at hb; rw [r3]; exact hr.objs.apart i j p1 r1 hij b hb
    · rw [r3]; simp
    · rw [p3] at hb; simp at hb
    · rw [p3] at hb; simp at hb
    · rw [p3] at hb; simp at hb
  · rcases hpl i h with ⟨q, h1, h2, _⟩ | ⟨h1, _, h2⟩ | h2
    · rw [h2] at hb; exact hnoS q h1 b hb
    · rw [h2] at hb
      obtain ⟨q1, q2, q3⟩ := hr.foot i h1 b hb
      refine ⟨q1, ?_, by have := hk.size; omega⟩
      rintro (h' | ⟨_, h'⟩)
      · exact q2 h'
      · omega
    · rw [h2] at hb; simp at hb
  · rintro b (h' | ⟨_, h'⟩)
    · exact hr.base.2 b h'
    · exact .inr (by have := hr.keeps.size; omega)
  · rintro b (h' | ⟨h', _⟩)
    · have := hr.stable b h'; have := hk.size; omega
    · exact hS3 b h'
  · refine ⟨hk.os.trans hr.keeps.os, hk.tape.trans hr.keeps.tape, hk.output.trans hr.keeps.output, by have := hr.keeps.size; have := hk.size; omega, fun b hb hM0 => ?_⟩
    rw [hold b (by have := hr.keeps.size; omega) fun id hid hbf => ?_]
    · exact hr.keeps.block b hb hM0
    · obtain ⟨j, hj, e⟩ := hmem id hid
      rcases (hr.foot id (hidl j id e) b hbf).1 with h | h
      · exact hM0 h
      · omega
  · have hm : m ≤ O.length := hr.mle
    have hlt : i < O.length := by omega
    have e : ι3 i = ι i := by
      cases hfd : findN hs i 0 with
      | none => exact hι3n i hlt hfd
      | some j =>
        by_cases hj : j < k
        · exact hι3t i j hlt hfd hj
        · have := hmk j i (by omega) (hfind i j hfd).2; omega
    rw [e]; exact hr.spots i h
  · have hm : m ≤ O.length := hr.mle
    show m ≤ O3.length
    omega
  · exact hback hre hv
theorem WpL.callH {f : FuncId} {xs : List Operand} {ats : Array TypeId} {As : List AV} {M OO A B O2 : List AObj} {r r' : AV} {hs : List Nat} {k base d : Nat} (hc : FnH P f As k M OO r) (hh : Hand O hs (xs.map (av T)) As) (hM : HandH O hs hs M) (hnd : nodupB hs = true) (hmk : ∀ (j id : Nat), k ≤ j → hs[j]? = some id → m ≤ id)
    (hb : nid O 0 = some base) (hA : AftO O hs k base OO 0 O A) (hB : AftN O hs k base (OO.drop k) B) (hre : Back O hs k base [r] [r']) (hO2 : catF A B = some O2) (hn : d < n) (h : WpL P n m G false ops l ⟨(d, r') :: T, O2⟩ Q) :
    WpL P n m G false ops ({ dst := some d, op := .call { callee := .value (.func f), args := xs.toArray, argTypes := ats }, type := tt, pos := pos, after := after, guard := none } :: l) ⟨T, O⟩ Q :=
  WpL.op rfl (fun a w hr => by
    have := catF_eq hO2; subst this
    have e2 : base = O.length := by rw [nid_len, Nat.zero_add] at hb; exact (Option.some.inj hb).symm
    subst e2
    have hcl := callH_rel hc hh hM (nodupB_spec hnd) hmk hA hB hre hr
    obtain ⟨⟨fn, hf, hbd, hnm⟩, _⟩ := hc
    have hex : (execOp a.eval { dst := some d, op := .call { callee := .value (.func f), args := xs.toArray, argTypes := ats }, type := tt, pos := pos, after := after, guard := none }).run P w = .ok (.enter f (xs.map a.eval).toArray) w := by
      simp only [execOp, resolve, Act.eval, Deferred.ofValue, invoke, callFunc, Sem.run_bind, Sem.run_pure, Result.andThen_ok, program, Sem.run, hf, hnm, hbd, Bool.false_eq_true, if_false]
      simp
    unfold Oper.wp
    rw [hex]
    refine hcl.mono fun e w' ⟨v, he, S, ι, F, hr', hv⟩ => ?_
    subst he
    exact ⟨S, ι, F, hr'.put hn hv⟩) h
theorem WpL.callH0 {f : FuncId} {xs : List Operand} {ats : Array TypeId} {As : List AV} {M OO A B O2 : List AObj} {r r' : AV} {hs : List Nat} {k base : Nat} (hc : FnH P f As k M OO r) (hh : Hand O hs (xs.map (av T)) As) (hM : HandH O hs hs M) (hnd : nodupB hs = true) (hmk : ∀ (j id : Nat), k ≤ j → hs[j]? = some id → m ≤ id)
    (hb : nid O 0 = some base) (hA : AftO O hs k base OO 0 O A) (hB : AftN O hs k base (OO.drop k) B) (hre : Back O hs k base [r] [r']) (hO2 : catF A B = some O2) (h : WpL P n m G false ops l ⟨T, O2⟩ Q) :
    WpL P n m G false ops ({ dst := none, op := .call { callee := .value (.func f), args := xs.toArray, argTypes := ats }, type := tt, pos := pos, after := after, guard := none } :: l) ⟨T, O⟩ Q :=
  WpL.op rfl (fun a w hr => by
    have := catF_eq hO2; subst this
    have e2 : base = O.length := by rw [nid_len, Nat.zero_add] at hb; exact (Option.some.inj hb).symm
    subst e2
    have hcl := callH_rel hc hh hM (nodupB_spec hnd) hmk hA hB hre hr
    obtain ⟨⟨fn, hf, hbd, hnm⟩, _⟩ := hc
    have hex : (execOp a.eval { dst := none, op := .call { callee := .value (.func f), args := xs.toArray, argTypes := ats }, type := tt, pos := pos, after := after, guard := none }).run P w = .ok (.enter f (xs.map a.eval).toArray) w := by
      simp only [execOp, resolve, Act.eval, Deferred.ofValue, invoke, callFunc, Sem.run_bind, Sem.run_pure, Result.andThen_ok, program, Sem.run, hf, hnm, hbd, Bool.false_eq_true, if_false]
      simp
    unfold Oper.wp
    rw [hex]
    refine hcl.mono fun e w' ⟨v, he, S, ι, F, hr', hv⟩ => ?_
    subst he
    exact ⟨S, ι, F, hr'.put_none v⟩) h
end
end Go.Abs

/- Plain laws: where levels are read to. Contracts: levels that are read by the program. No condition. -/
namespace Go.Proofs.Ytgbahnaejajdgaa
open Go Go.Abs
set_option linter.unusedVariables false
set_option linter.unusedSimpArgs false
set_option maxRecDepth 100000
set_option maxHeartbeats 4000000

theorem zrW_stop (p : List UInt8) (s : Int) : ∀ (f n : Nat), zrW p s f n = n + f ∨ btA p (s + (zrW p s f n : Nat)) ≠ 0
  | 0, n => .inl rfl
  | f + 1, n => by
    rw [zrW]; split
    · rcases zrW_stop p s f (n + 1) with h | h
      · exact .inl (by omega)
      · exact .inr h
    · rename_i h; exact .inr h
theorem zrs_stop (p : List UInt8) (s : Int) : (zrs p s : Int) = lft p s ∨ btA p (s + (zrs p s : Nat)) ≠ 0 := by
  have hb := lft_bd p s
  rcases zrW_stop p s (lft p s).toNat 0 with h | h
  · exact .inl (by unfold zrs; omega)
  · exact .inr h
theorem ueV_nn (p : List UInt8) (s : Int) : 0 ≤ ueV p s := by
  unfold ueV; split
  · rename_i h
    by_cases h15 : zrs p s ≤ 15
    · by_cases hok : RbOk p s (2 * (zrs p s : Int) + 1)
      · rw [(rb_yes hok).2]
        have hlo := lft_ok hok.1
        have hst := zrs_stop p s
        have hbo := btA_out p (s + (zrs p s : Nat))
        have hbd := btA_bd p (s + (zrs p s : Nat))
        have hb1 : btA p (s + (zrs p s : Nat)) = 1 := by
          rcases hst with h | h
          · omega
          · omega
        have e := numB_add p s (zrs p s + 1) (zrs p s)
        have h1 := numB_bd p (s + ((zrs p s + 1 : Nat) : Int)) (zrs p s)
        have h2 := numB_bd p s (zrs p s)
        have h3 : numB p s (zrs p s + 1) = numB p s (zrs p s) * 2 + bv p (s + (zrs p s : Nat)) := rfl
        have h4 : bv p (s + (zrs p s : Nat)) = 1 := by unfold bv; omega
        have hp : (0 : Int) < 2 ^ zrs p s := by exact_mod_cast Nat.pow_pos (by decide)
        have h5 : 1 * 2 ^ zrs p s ≤ numB p s (zrs p s + 1) * 2 ^ zrs p s := Int.mul_le_mul_of_nonneg_right (by omega) (by omega)
        rw [show (2 * (zrs p s : Int) + 1).toNat = zrs p s + 1 + zrs p s by omega, e]
        omega
      · rw [(ue_short h15 hok).2.1] at h; omega
    · rw [(ue_code (s := s) (p := p) h15).2.1] at h; omega
  · omega
theorem fuV_nn (p : List UInt8) (s c : Int) (k : Int → Int) : 0 ≤ fuV p s c k := by
  have := ueV_nn p s
  unfold fuV; split <;> omega
/-- What a check lets through. -/
theorem fuV_lt {p : List UInt8} {s c b e : Int} (he : e ≠ 0) (h : 0 < b) : fuV p s c (fun y => ifE (y < b) e) < b := by
  unfold fuV; split
  · rename_i h1
    unfold fuC at h1
    split at h1
    · split at h1
      · by_cases hlt : ueV p s < b
        · exact hlt
        · have h1 : ifE (ueV p s < b) e = 0 := h1
          rw [ifE_no hlt] at h1; exact absurd h1 he
      · omega
    · omega
  · omega
theorem fuV_zero {p : List UInt8} {s c : Int} {k : Int → Int} (h : fuC p s c k ≠ 0) : fuV p s c k = 0 := by rw [fuV, if_neg h]
abbrev kR (b : Int) : Int → Int := fun y => ifE (y < b) 5
abbrev kL : Int → Int := fun y => ifE (-16383 ≤ lvOf y ∧ lvOf y ≤ 16383) 5
theorem lvStep_yes {p : List UInt8} {nn : Int} {x : LvS} (hc : x.c = 0) : lvStep p nn x =
    (if fuC p (fuA p x.a 0 (kR (nn - x.at_))) (fuC p x.a 0 (kR (nn - x.at_))) kL = 0 then
      ⟨fuA p (fuA p x.a 0 (kR (nn - x.at_))) (fuC p x.a 0 (kR (nn - x.at_))) kL, fuC p (fuA p x.a 0 (kR (nn - x.at_))) (fuC p x.a 0 (kR (nn - x.at_))) kL, x.at_ + fuV p x.a 0 (kR (nn - x.at_)) + 1,
        x.out.set (x.at_ + fuV p x.a 0 (kR (nn - x.at_))).toNat (lvOf (fuV p (fuA p x.a 0 (kR (nn - x.at_))) (fuC p x.a 0 (kR (nn - x.at_))) kL))⟩
    else ⟨fuA p (fuA p x.a 0 (kR (nn - x.at_))) (fuC p x.a 0 (kR (nn - x.at_))) kL, fuC p (fuA p x.a 0 (kR (nn - x.at_))) (fuC p x.a 0 (kR (nn - x.at_))) kL, x.at_ + fuV p x.a 0 (kR (nn - x.at_)), x.out⟩) := by
  rw [lvStep, if_pos hc]
theorem lvStep_no {p : List UInt8} {nn : Int} {x : LvS} (hc : x.c ≠ 0) : lvStep p nn x = x := by rw [lvStep, if_neg hc]
theorem fuC_keep {p : List UInt8} {s c : Int} {k : Int → Int} (h : c ≠ 0) : fuC p s c k = c := by rw [fuC, if_neg h]
theorem lvStep_at {p : List UInt8} {nn : Int} {x : LvS} (h : 0 ≤ x.at_ ∧ x.at_ ≤ nn) : 0 ≤ (lvStep p nn x).at_ ∧ (lvStep p nn x).at_ ≤ nn := by
  by_cases hc : x.c = 0
  · rw [lvStep_yes hc]
    have h1 := fuV_nn p x.a 0 (kR (nn - x.at_))
    by_cases hr : fuC p x.a 0 (kR (nn - x.at_)) = 0
    · have h2 : fuV p x.a 0 (kR (nn - x.at_)) < nn - x.at_ := by
        rcases Int.lt_or_le 0 (nn - x.at_) with hp | hp
        · exact fuV_lt (by decide) hp
        · exfalso
          have hv := ueV_nn p x.a
          unfold fuC at hr
          simp only [if_true] at hr
          split at hr
          · have hr : ifE (ueV p x.a < nn - x.at_) 5 = 0 := hr
            rw [ifE_no (by omega)] at hr; cases hr
          · rename_i hh; exact hh hr
      split
      · show 0 ≤ x.at_ + _ + 1 ∧ x.at_ + _ + 1 ≤ nn; omega
      · show 0 ≤ x.at_ + _ ∧ x.at_ + _ ≤ nn; omega
    · rw [if_neg (by rw [fuC_keep hr]; exact hr)]
      show 0 ≤ x.at_ + _ ∧ x.at_ + _ ≤ nn
      rw [fuV_zero hr]; omega
  · rw [lvStep_no hc]; exact h
theorem lvRun_at {p : List UInt8} {nn : Int} {x : LvS} (h : 0 ≤ x.at_ ∧ x.at_ ≤ nn) : ∀ k, 0 ≤ (lvRun p nn x k).at_ ∧ (lvRun p nn x k).at_ ≤ nn
  | 0 => h
  | k + 1 => by rw [lvRun]; exact lvStep_at (lvRun_at h k)
theorem lvRun_stop {p : List UInt8} {nn : Int} {x : LvS} {k : Nat} (h : (lvRun p nn x k).c ≠ 0) : ∀ j, k ≤ j → lvRun p nn x j = lvRun p nn x k
  | 0, hj => by have : k = 0 := by omega
                subst this; rfl
  | j + 1, hj => by
    rcases Nat.lt_or_ge j k with h2 | h2
    · have : k = j + 1 := by omega
      subst this; rfl
    · have e := lvRun_stop h j h2
      rw [lvRun, e, lvStep_no h]

/-! One object is turned, the others stay. -/
theorem newO_tail (mb : AObj) : ∀ (k : Nat) (R : List AObj), 0 < k → newO [0] [mb] k R = R
  | _, [], _ => rfl
  | k, ob :: R, hk => by
    rw [newO, newO_tail mb (k + 1) R (by omega)]
    have : findN [0] k 0 = none := by
      rw [findN]
      have : Nat.beq 0 k = false := by cases k with | zero => omega | succ k => rfl
      rw [this]; rfl
    unfold newOb; rw [this]
theorem split4 {Ov : List AObj} {a b c d : AObj} (h0 : Ov[0]? = some a) (h1 : Ov[1]? = some b) (h2 : Ov[2]? = some c) (h3 : Ov[3]? = some d) : ∃ R, Ov = a :: b :: c :: d :: R := by
  match Ov, h3 with
  | a' :: b' :: c' :: d' :: R, h3 => simp at h0 h1 h2 h3; exact ⟨R, by rw [h0, h1, h2, h3]⟩
  | [], h => simp at h
  | [_], h => simp at h
  | [_, _], h => simp at h
  | [_, _, _], h => simp at h
theorem split3 {Ov : List AObj} {b c d : AObj} (hc : 4 ≤ Ov.length) (h1 : Ov[1]? = some b) (h2 : Ov[2]? = some c) (h3 : Ov[3]? = some d) : ∃ x R, Ov = x :: b :: c :: d :: R := by
  match Ov, h3 with
  | a' :: b' :: c' :: d' :: R, h3 => simp at h1 h2 h3; exact ⟨a', R, by rw [h1, h2, h3]⟩
  | [], h => simp at h
  | [_], h => simp at h
  | [_, _], h => simp at h
  | [_, _, _], h => simp at h
section
variable {P : Program} {n m : Nat} {G : Ctx} {T : List (Nat × AV)} {R : List AObj} {Q : Exit → St → Prop} {ops : Array Oper} {l : List Oper} {tt : TypeId} {pos : String} {after : Array Edge}
theorem callM1 {f : FuncId} {xs : List Operand} {ats : Array TypeId} {As : List AV} {ob mb0 mb : AObj} {v : Int} {d : Nat} (hc : FnG P f As [mb0] [mb] [] (I v)) (hh : HandM (ob :: R) [0] [mb0] (xs.map (av T)) As) (hM : HandO (ob :: R) [0] [mb0]) (hsz : mb.size = mb0.size) (hM' : Out [mb]) (hn : d < n)
    (h : WpL P n m G false ops l ⟨(d, I v) :: T, ⟨mb.cells, ob.ep, mb.size, mb.ty⟩ :: R⟩ Q) :
    WpL P n m G false ops ({ dst := some d, op := .call { callee := .value (.func f), args := xs.toArray, argTypes := ats }, type := tt, pos := pos, after := after, guard := none } :: l) ⟨T, ob :: R⟩ Q := by
  refine WpL.op rfl (fun a w hr => ?_) h
  have hcl := callG_rel hc hh hM (by simp) rfl (fun j x y hx hy => by
    cases j with
    | zero => simp at hx hy; subst hx hy; exact hsz
    | succ j => simp at hx) hM' .nil (r' := I v) rfl hr
  have e : newO [0] [mb] 0 (ob :: R) ++ [] = ⟨mb.cells, ob.ep, mb.size, mb.ty⟩ :: R := by
    rw [List.append_nil, newO, newO_tail mb 1 R (by omega)]; rfl
  rw [e] at hcl
  obtain ⟨⟨fn, hf, hbd, hnm⟩, _⟩ := hc
  have hex : (execOp a.eval { dst := some d, op := .call { callee := .value (.func f), args := xs.toArray, argTypes := ats }, type := tt, pos := pos, after := after, guard := none }).run P w = .ok (.enter f (xs.map a.eval).toArray) w := by
    simp only [execOp, resolve, Act.eval, Deferred.ofValue, invoke, callFunc, Sem.run_bind, Sem.run_pure, Result.andThen_ok, program, Sem.run, hf, hnm, hbd, Bool.false_eq_true, if_false]
    simp
  unfold Oper.wp
  rw [hex]
  refine hcl.mono fun e w' ⟨v, he, S, ι, F, hr', hv⟩ => ?_
  subst he
  exact ⟨S, ι, F, hr'.put hn hv⟩
end
attribute [local irreducible] WpA WpL Rnd Blk Abs.Seq Abs.Fin Abs.FinG FnC FnG Only
abbrev k0C : Int → Int := fun _ => 0
theorem lvS_no {p : List UInt8} {s n : Int} (h : fbV p s 0 1 k0C = 0) : lvS p s n = ⟨fbA p s 0 1 k0C, fbC p s 0 1 k0C, 0, List.replicate (n * n).toNat 0⟩ := by
  unfold lvS; simp only; rw [if_pos h]
theorem lvS_yes {p : List UInt8} {s n : Int} (h : fbV p s 0 1 k0C ≠ 0) : lvS p s n = lvRun p (n * n) ⟨fuA p (fbA p s 0 1 k0C) (fbC p s 0 1 k0C) (kR (n * n)), fuC p (fbA p s 0 1 k0C) (fbC p s 0 1 k0C) (kR (n * n)), 0, List.replicate (n * n).toNat 0⟩ (1 + fuV p (fbA p s 0 1 k0C) (fbC p s 0 1 k0C) (kR (n * n))).toNat := by
  unfold lvS; simp only; rw [if_neg h]
theorem lv_room {p : List UInt8} {s nn t : Int} (ht : 0 ≤ t ∧ t ≤ nn) (h : fuC p s 0 (kR (nn - t)) = 0) : t + fuV p s 0 (kR (nn - t)) < nn := by
  have h2 : fuV p s 0 (kR (nn - t)) < nn - t := by
    rcases Int.lt_or_le 0 (nn - t) with hp | hp
    · exact fuV_lt (by decide) hp
    · exfalso
      have hv := ueV_nn p s
      unfold fuC at h
      simp only [if_true] at h
      split at h
      · have h : ifE (ueV p s < nn - t) 5 = 0 := h
        rw [ifE_no (by omega)] at h; cases h
      · rename_i hh; exact hh h
  omega
theorem flv_c (p : List UInt8) (s n : Int) (hl : p.length ≤ 1099511627776) (hn : n = 4 ∨ n = 8) : Gn 56 [.ptr 0 0 0, I n] [FldO p s 0] [FldO p (lvS p s n).a (lvS p s n).c] [XI (lvS p s n).out] (.own 1 0 0 (lvS p s n).out.length) := by
  have hnn : 16 ≤ n * n ∧ n * n ≤ 64 := by rcases hn with rfl | rfl <;> decide
  have hn2 := mul_in (a := n) (b := n) (by omega) (by omega)
  generalize hx : lvS p s n = x
  refine FnG.of_bodyF tabOk Try.func56 Try.ntmps56 rfl (by decide +kernel) (by simp) rfl rfl fun G => ?_
  refine go (r := ?_); and_intros <;> intros <;> try exact True.intro
  refine K.call ?_
  refine WpL.callM (hs := [0]) (fbits_c p s 0 1 123 [] k0C hl ⟨rfl, rfl, fun x _ => levels1_c.ok x⟩) handA handOA rfl rfl (.cons rfl (.sc (.sc (.sc .nil))) .nil) outA rfl rfl rfl rfl (by decide) ?_
  have b1 := fbV_bd p s 0 1 k0C
  by_cases hv : fbV p s 0 1 k0C = 0
  · rw [lvS_no hv] at hx
    subst hx
    refine go (r := ?_); and_intros <;> intros <;> try exact True.intro
    all_goals first | (exact absurd hv (by assumption)) | trace_state
  · rw [lvS_yes hv] at hx
    generalize hv1 : fbV p s 0 1 k0C = v1 at b1 hv ⊢
    generalize ha1 : fbA p s 0 1 k0C = a1 at hx
    generalize hc1 : fbC p s 0 1 k0C = c1 at hx
    refine go (r := ?_); and_intros <;> intros <;> try exact True.intro
    all_goals first | (exact absurd (by assumption) hv) | skip
    refine K.call ?_
    refine WpL.callM (hs := [0]) (fue_c p a1 c1 125 [.iptr [I n] 0] (kR (n * n)) hl ⟨rfl, rfl, fun x _ => levels2_c.ok x n (by omega)⟩) handA handOA rfl rfl (.cons rfl (.sc (.sc (.sc .nil))) .nil) outA rfl rfl rfl rfl (by decide) ?_
    have b2 := fuV_bd p a1 c1 (kR (n * n))
    have b3 := fuV_nn p a1 c1 (kR (n * n))
    generalize hv2 : fuV p a1 c1 (kR (n * n)) = v2 at b2 b3 hx ⊢
    generalize ha2 : fuA p a1 c1 (kR (n * n)) = a2 at hx ⊢
    generalize hc2 : fuC p a1 c1 (kR (n * n)) = c2 at hx ⊢
    have hr0 := lvRun_at (p := p) (nn := n * n) (x := ⟨a2, c2, 0, List.replicate (n * n).toNat 0⟩) (show (0 : Int) ≤ 0 ∧ (0 : Int) ≤ n * n by omega)
    have hln := lvRun_len p (n * n) ⟨a2, c2, 0, List.replicate (n * n).toNat 0⟩
    have hst : ∀ k, lvRun p (n * n) ⟨a2, c2, 0, List.replicate (n * n).toNat 0⟩ (k + 1) = lvStep p (n * n) (lvRun p (n * n) ⟨a2, c2, 0, List.replicate (n * n).toNat 0⟩ k) := fun _ => rfl
    have hsp := fun k => lvRun_stop (p := p) (nn := n * n) (x := ⟨a2, c2, 0, List.replicate (n * n).toNat 0⟩) (k := k)
    have hz : lvRun p (n * n) ⟨a2, c2, 0, List.replicate (n * n).toNat 0⟩ 0 = ⟨a2, c2, 0, List.replicate (n * n).toNat 0⟩ := rfl
    generalize lvRun p (n * n) ⟨a2, c2, 0, List.replicate (n * n).toNat 0⟩ = X at hr0 hln hst hsp hz hx
    refine goR (r := ?_); and_intros <;> intros <;> try exact True.intro
    refine WpA.loop (fun k : Nat => ⟨[(0, .ptr 0 0 0), (3, .ptr 1 0 0), (5, .own 2 0 0 (n * n).toNat), (6, .ptr 3 0 0), (7, I (1 + v2)), (8, I k)], [FldO p (X k).a (X k).c, ⟨[I n], 0, 0, none⟩, XI (X k).out, ⟨[I (X k).at_], 0, 0, none⟩]⟩) (fun k => (k : Int) ≤ 1 + v2) (fun k => (1 + v2).toNat - k) 0 (by omega) (go (r := ?_)) (fun k hk => ?_)
    · rw [hz]; and_intros <;> first | exact True.intro | rfl | trace_state
    have hr0 := hr0 k
    have hln := hln k
    have hst := hst k
    have hsp := hsp k
    generalize hy : X k = y at hr0 hln hst hsp ⊢
    have hln : y.out.length = (n * n).toNat := by simpa using hln
    have hfin : (y.c ≠ 0 ∨ ¬ (k : Int) < 1 + v2) → y = x := by
      rintro (h | h)
      · rw [← hx, hsp h (1 + v2).toNat (by omega)]
      · have : k = (1 + v2).toNat := by omega
        rw [← hx, ← this, hy]
    refine goR (r := ?_); and_intros <;> intros <;> try exact True.intro
    · have hyc : y.c = 0 := by assumption
      have b4 := fuV_bd p y.a y.c (kR (n * n - y.at_))
      have b5 := fuV_nn p y.a y.c (kR (n * n - y.at_))
      have hkb : ∀ x : Int, -1 ≤ x ∧ x ≤ 4294967296 → Fn 127 (I x :: [.iptr [I n] 0, .iptr [I y.at_] 0]) [] (I (kR (n * n - y.at_) x)) := fun x _ => levels3_c.ok x n y.at_ (by omega)
      apply WpA.regionQF (O := []) (Or := [FldO p y.a y.c, ⟨[I n], 0, 0, none⟩, XI y.out, ⟨[I y.at_], 0, 0, none⟩]) (O1 := [FldO p (fuA p y.a y.c (kR (n * n - y.at_))) (fuC p y.a y.c (kR (n * n - y.at_))), ⟨[I n], 0, 0, none⟩, XI y.out, ⟨[I y.at_], 0, 0, none⟩]) 5 0 [1, 2, 3] rfl mixed (by decide +kernel)
      · exact rfl
      · apply HeadQ.consF (V := I y.at_) .none rfl
        · exact rfl
        · intro Tv Ov hc hp hd hk
          obtain ⟨x0, R, rfl⟩ := split3 hc (hk 1 rfl) (hk 2 rfl) (hk 3 rfl)
          exact in0
        · exact rfl
        · exact rfl
        apply HeadQ.consF .none rfl
        · exact rfl
        · exact in1
        · exact rfl
        · exact rfl
        apply HeadQ.consF (V := .fn 127 [.ptr 1 0 0, .ptr 3 0 0]) .none rfl
        · exact rfl
        · exact in1
        · exact rfl
        · exact rfl
        apply HeadQ.consF (V := I (fuV p y.a y.c (kR (n * n - y.at_)))) (.step 0 (FldO p (fuA p y.a y.c (kR (n * n - y.at_))) (fuC p y.a y.c (kR (n * n - y.at_))))) rfl
        · exact rfl
        · intro Tv Ov hc hp hd hk
          obtain ⟨R, rfl⟩ := split4 (hp 0 _ rfl) (hk 1 rfl) (hk 2 rfl) (hk 3 rfl)
          refine K.call ?_
          refine callM1 (fue_c p y.a y.c 127 [.iptr [I n] 0, .iptr [I y.at_] 0] (kR (n * n - y.at_)) hl ⟨rfl, rfl, hkb⟩) handA handOA rfl (.cons rfl (.sc (.sc (.sc .nil))) .nil) (by decide) ?_
          exact WpL.nil (Only.mk rfl)
        · exact rfl
        · exact rfl
        apply HeadQ.consF .none rfl
        · exact rfl
        · exact in1
        · exact rfl
        · exact rfl
        exact HeadQ.nil
      · exact rfl
      · exact rfl
      · exact rfl
      · exact rfl
      · exact rfl
      · exact rfl
      · exact rfl
      generalize hA1 : fuA p y.a y.c (kR (n * n - y.at_)) = A1
      generalize hC1 : fuC p y.a y.c (kR (n * n - y.at_)) = C1
      generalize hV1 : fuV p y.a y.c (kR (n * n - y.at_)) = w1 at b4 b5 ⊢
      rw [hyc] at hA1 hC1 hV1
      have hroom := lv_room (p := p) (s := y.a) hr0
      rw [hC1, hV1] at hroom
      rw [lvStep_yes hyc, hA1, hC1, hV1] at hst
      have hkeep := fun h => fuC_keep (p := p) (s := A1) (c := C1) (k := kL) h
      refine go (r := ?_); and_intros <;> intros <;> try exact True.intro
      refine K.call ?_
      refine WpL.callM (hs := [0]) (fue_c p A1 C1 129 [] kL hl ⟨rfl, rfl, fun x h => levels4_c.ok x (by omega)⟩) handA handOA rfl rfl (.cons rfl (.sc (.sc (.sc .nil))) .nil) outA rfl rfl rfl rfl (by decide) ?_
      have b6 := fuV_bd p A1 C1 kL
      by_cases hc2 : fuC p A1 C1 kL = 0
      · have h10 : C1 = 0 := by
          by_cases h : C1 = 0
          · exact h
          · exact absurd (hkeep h ▸ hc2) h
        have hroom := hroom h10
        rw [if_pos hc2] at hst
        refine go (r := ?_); and_intros <;> intros <;> try exact True.intro
        all_goals first | (exact absurd hc2 (by assumption)) | (rw [hst]; done) | (rw [hst]; rfl) | (rw [hst]; simp only; omega) | trace_state
      · rw [if_neg hc2] at hst
        refine go (r := ?_); and_intros <;> intros <;> try exact True.intro
        all_goals first | (exact absurd (by assumption) hc2) | (rw [hst]; done) | (rw [hst]; rfl) | trace_state
    all_goals first | (obtain rfl := hfin (by first | exact .inl (by assumption) | exact .inr (by assumption)); first | rfl | exact hln.symm | trace_state) | trace_state
end Go.Proofs.Ytgbahnaejajdgaa

/- Contracts: the bits of a mode, whether it has a code, which mode a block gets; the law FnExactModeFor. No condition. -/
namespace Go.Proofs.Ytgbahnaejajdgaa
open Go Go.Abs
set_option linter.unusedVariables false
set_option linter.unusedSimpArgs false
set_option maxRecDepth 100000
set_option maxHeartbeats 4000000
attribute [local irreducible] WpA WpL Rnd Blk Abs.Seq Abs.Fin Abs.FinG FnC FnG Only

def HasC (l : List Int) (m : Int) : Prop := CodeOk l ∧ (0 ≤ m ∧ m ≤ 5) ∧ l.getD m.toNat 0 ≠ 0
instance (l : List Int) (m : Int) : Decidable (HasC l m) := by unfold HasC; infer_instance
def symL (l : List Int) (m : Int) : List Int := if HasC l m then bitsL ((codes l).getD m.toNat 0) (l.getD m.toNat 0) else []
theorem sym_fit {l : List Int} {m : Int} (h : HasC l m) : (1 ≤ l.getD m.toNat 0 ∧ l.getD m.toNat 0 ≤ 7) ∧ 0 ≤ (codes l).getD m.toNat 0 ∧ (codes l).getD m.toNat 0 ≤ 127 ∧ bitOk ((codes l).getD m.toNat 0) (l.getD m.toNat 0) := by
  obtain ⟨h1, h2, h3⟩ := h
  have a := code_in h1 (m := m.toNat) (by omega)
  have b := code_fit h1 (m := m.toNat) (by omega) h3
  have c := code_lt h1 (m := m.toNat) (by omega) h3
  have d : (codes l).getD m.toNat 0 ≤ 127 := by
    have : (2 : Int) ^ (l.getD m.toNat 0).toNat ≤ 2 ^ 7 := by
      have := Nat.pow_le_pow_right (n := 2) (by decide) (show (l.getD m.toNat 0).toNat ≤ 7 by omega)
      exact_mod_cast this
    omega
  exact ⟨by omega, b.1, d, by omega, b.1, Int.ediv_eq_zero_of_lt b.1 c⟩
theorem symL_len (l : List Int) (m : Int) : ((symL l m).length : Int) = if HasC l m then l.getD m.toNat 0 else 0 := by
  unfold symL
  split
  · rename_i h
    obtain ⟨h1, h2, h3, h4⟩ := sym_fit h
    rw [bitsL, if_pos h4, bitsR_len]; omega
  · rfl
theorem symL_pos (l : List Int) (m : Int) : 0 < (symL l m).length ↔ HasC l m := by
  have := symL_len l m
  split at this
  · rename_i h; have := (sym_fit h).1; constructor <;> intro _ <;> first | assumption | omega
  · rename_i h; constructor
    · intro h'; omega
    · intro h'; exact absurd h' h
/-! The first mode with a code. -/
def firstM (l : List Int) : Nat := l.findIdx (fun x => decide (x ≠ 0))
theorem firstM_eq {l : List Int} {k : Nat} (hk : k < l.length) (h0 : ∀ j < k, l.getD j 0 = 0) (h1 : l.getD k 0 ≠ 0) : firstM l = k := by
  unfold firstM
  rw [List.findIdx_eq hk]
  refine ⟨by simpa [hk] using h1, fun j hj => ?_⟩
  have := h0 j hj
  simpa [show j < l.length by omega] using this
theorem code_some {l : List Int} (h : CodeOk l) : ∃ m, m < 6 ∧ l.getD m 0 ≠ 0 := by
  obtain ⟨m, a, b, _⟩ := code_cov h (v := 0) (by omega) (by omega)
  exact ⟨m, a, b⟩
theorem firstM_has {l : List Int} (h : CodeOk l) : firstM l < 6 ∧ l.getD (firstM l) 0 ≠ 0 := by
  obtain ⟨m, a, b⟩ := code_some h
  have h6 := h.2.1
  have hx : ∃ x ∈ l, decide (x ≠ 0) = true := ⟨l.getD m 0, by simp [show m < l.length by omega], by simpa using b⟩
  have := List.findIdx_lt_length_of_exists hx
  have h2 := List.findIdx_getElem (w := this)
  unfold firstM
  refine ⟨by omega, ?_⟩
  rw [List.getD_eq_getElem?_getD, List.getElem?_eq_getElem this]; simpa using h2
def modeF (q : Int) (l ms : List Int) (k : Int) : Int := if OptOk q l ∧ 0 ≤ k then
  (if ms ≠ [] ∧ HasC l (ms.getD (k % ms.length).toNat 0) then ms.getD (k % ms.length).toNat 0 else firstM l) else -1
theorem has_code {l : List Int} (h : CodeOk l) {k : Nat} (hk : k < 6) : HasC l (k : Int) ↔ l.getD k 0 ≠ 0 := by
  unfold HasC; simp only [Int.toNat_natCast]
  constructor
  · rintro ⟨_, _, h⟩; exact h
  · intro h'; exact ⟨h, by omega, h'⟩
abbrev OpO (q : Int) (b d : Bool) (l m : List Int) (e : List Bool) : AObj := ⟨[I q, B b, B d, IL l, IL m, BL e], 0, 0, none⟩
theorem modeF_own {q : Int} {l ms : List Int} {k : Int} (h : OptOk q l ∧ 0 ≤ k) (h1 : (ms.length : Int) > 0) (h2 : HasC l (ms.getD (k % ms.length).toNat 0)) : ms.getD (k % ms.length).toNat 0 = modeF q l ms k := by
  rw [modeF, if_pos h, if_pos ⟨by rintro rfl; simp at h1, h2⟩]
theorem modeF_first {q : Int} {l ms : List Int} {k : Int} {i : Nat} (h : OptOk q l ∧ 0 ≤ k) (h1 : ¬ ((ms.length : Int) > 0) ∨ ¬ HasC l (ms.getD (k % ms.length).toNat 0)) (hi : i < 6) (h2 : ∀ j < i, l.getD j 0 = 0) (h3 : l.getD i 0 ≠ 0) : (i : Int) = modeF q l ms k := by
  have h6 := h.1.2.2.1
  rw [modeF, if_pos h, if_neg, firstM_eq (by omega) h2 h3]
  rintro ⟨a, b⟩
  rcases h1 with h1 | h1
  · exact a (List.eq_nil_of_length_eq_zero (by omega))
  · exact h1 b
theorem first_go {l : List Int} (h : CodeOk l) {i : Nat} (hi : i < 6) (h1 : ∀ j < i, l.getD j 0 = 0) (h2 : l.getD i 0 = 0) : i + 1 < 6 ∧ ∀ j < i + 1, l.getD j 0 = 0 := by
  have key : ∀ j < i + 1, l.getD j 0 = 0 := by
    intro j hj
    by_cases e : j = i
    · subst e; exact h2
    · exact h1 j (by omega)
  refine ⟨?_, key⟩
  obtain ⟨m, a, b⟩ := code_some h
  rcases Nat.lt_or_ge (i + 1) 6 with h' | h'
  · exact h'
  · exact absurd (key m (by omega)) b
end Go.Proofs.Ytgbahnaejajdgaa

/- Contracts of the counts over a stream, and of the laws FnExactNonZeros and FnExactModeCounts. No condition. -/
namespace Go.Proofs.Ytgbahnaejajdgaa
open Go Go.Abs
set_option linter.unusedVariables false
set_option linter.unusedSimpArgs false
set_option maxRecDepth 100000
set_option maxHeartbeats 4000000
attribute [local irreducible] WpA WpL Rnd Blk Abs.Seq Abs.Fin Abs.FinG FnC FnG Only

def nz1 (x : Int) : Nat := if x = 0 then 0 else 1
def nzB (b : Blok) : Nat := (b.2.map nz1).sum
def nzM (m : Mbk) : Nat := (m.2.map nzB).sum
theorem sum_bd {α : Type} (f g : α → Nat) (h : ∀ a, f a ≤ g a) (l : List α) : (l.map f).sum ≤ (l.map g).sum := by
  induction l with
  | nil => simp
  | cons a l ih => simp only [List.map_cons, List.sum_cons]; have := h a; omega
theorem sum_ones {α : Type} (f : α → Nat) (h : ∀ a, f a ≤ 1) (l : List α) : (l.map f).sum ≤ l.length := by
  induction l with
  | nil => simp
  | cons a l ih => simp only [List.map_cons, List.sum_cons, List.length_cons]; have := h a; omega
theorem nz1_bd (x : Int) : nz1 x ≤ 1 := by unfold nz1; split <;> omega
theorem nzB_bd (b : Blok) : nzB b ≤ bn b := sum_ones nz1 nz1_bd b.2
theorem nzM_bd (m : Mbk) : nzM m ≤ mn m := by
  have := sum_bd nzB bn nzB_bd m.2
  unfold nzM mn bw; omega
theorem nzAll_bd (M : List Mbk) : (M.map nzM).sum ≤ mw M := by
  have := sum_bd nzM mn nzM_bd M
  unfold mw; omega
/-! How often each mode occurs. -/
def modeNames : List (List UInt8) := [[109, 101, 97, 110], [100, 111, 119, 110], [97, 99, 114, 111, 115, 115], [115, 108, 111, 112, 101], [108, 101, 102, 116], [114, 105, 103, 104, 116]]
def modeW (m : Int) : List UInt8 := if 0 ≤ m ∧ m ≤ 5 then modeNames.getD m.toNat [] else []
theorem modeW_nil (m : Int) : modeW m = [] ↔ ¬ (0 ≤ m ∧ m ≤ 5) := by
  have key : ∀ k : Fin 6, modeNames.getD k.val [] ≠ [] := by decide
  unfold modeW
  constructor
  · intro h hm
    rw [if_pos hm] at h
    exact key ⟨m.toNat, by omega⟩ h
  · intro h; rw [if_neg h]
def addAt (c : List Int) (m : Int) : List Int := if 0 ≤ m ∧ m ≤ 5 then c.set m.toNat (c.getD m.toNat 0 + 1) else c
def mcB (c : List Int) (bs : List Blok) (k : Nat) : List Int := (bs.take k).foldl (fun c b => addAt c b.1) c
def mcM (M : List Mbk) (i : Nat) : List Int := (M.take i).foldl (fun c m => mcB c m.2 m.2.length) [0, 0, 0, 0, 0, 0]
theorem mcB_succ (c : List Int) (bs : List Blok) (k : Nat) (h : k < bs.length) : mcB c bs (k + 1) = addAt (mcB c bs k) (bs.getD k default).1 := by unfold mcB; rw [take_snoc bs k h, List.foldl_append]; rfl
theorem mcM_succ (M : List Mbk) (i : Nat) (h : i < M.length) : mcM M (i + 1) = mcB (mcM M i) (M.getD i default).2 (M.getD i default).2.length := by unfold mcM; rw [take_snoc M i h, List.foldl_append]; rfl
theorem addAt_len (c : List Int) (m : Int) : (addAt c m).length = c.length := by unfold addAt; split <;> simp
theorem mcB_len (c : List Int) (bs : List Blok) (k : Nat) : (mcB c bs k).length = c.length := by
  unfold mcB
  generalize bs.take k = l
  induction l generalizing c with
  | nil => rfl
  | cons b l ih => rw [List.foldl_cons, ih, addAt_len]
theorem mcM_len (M : List Mbk) (i : Nat) : (mcM M i).length = 6 := by
  have key : ∀ (l : List Mbk) (c : List Int), (l.foldl (fun c m => mcB c m.2 m.2.length) c).length = c.length := by
    intro l
    induction l with
    | nil => intro c; rfl
    | cons b l ih => intro c; rw [List.foldl_cons, ih, mcB_len]
  unfold mcM; rw [key]; rfl
theorem in_mono {l : List Int} {lo hi hi2 : Int} (h : In l lo hi) (hh : hi ≤ hi2) : In l lo hi2 := by unfold In at *; intro v hv; have := h v hv; omega
theorem in_set {l : List Int} {lo hi v : Int} (h : In l lo hi) (hv : lo ≤ v ∧ v ≤ hi) (i : Nat) : In (l.set i v) lo hi := by
  unfold In at *; intro x hx
  rcases List.mem_or_eq_of_mem_set hx with hx | hx
  · exact h x hx
  · subst hx; exact hv
theorem addAt_in {c : List Int} {m n : Int} (h : In c 0 n) (hc : c.length = 6) : In (addAt c m) 0 (n + 1) := by
  unfold addAt; split
  · rename_i hm
    have := in_get h (k := m.toNat) (by omega)
    exact in_set (in_mono h (by omega)) (by omega) _
  · exact in_mono h (by omega)
theorem addAt_yes {c : List Int} {m : Int} (h : 0 ≤ m ∧ m ≤ 5) : addAt c m = c.set m.toNat (c.getD m.toNat 0 + 1) := if_pos h
theorem addAt_no {c : List Int} {m : Int} (h : ¬ (0 ≤ m ∧ m ≤ 5)) : addAt c m = c := if_neg h
end Go.Proofs.Ytgbahnaejajdgaa

/- Contracts: what lies around a square, the predictions, residuals. No condition. -/
namespace Go.Proofs.Ytgbahnaejajdgaa
open Go Go.Abs
set_option linter.unusedVariables false
set_option linter.unusedSimpArgs false
set_option maxRecDepth 100000
set_option maxHeartbeats 4000000
attribute [local irreducible] WpA WpL Rnd Blk Abs.Seq Abs.Fin Abs.FinG FnC FnG Only

/-! Sides. -/
def side (k : Nat) : Int := if k = 16 then 4 else if k = 64 then 8 else 0
theorem side_pos (k : Nat) : 0 < side k ↔ k = 16 ∨ k = 64 := by unfold side; split <;> (try split) <;> omega
theorem side_cases (k : Nat) : (k = 16 ∧ side k = 4) ∨ (k = 64 ∧ side k = 8) ∨ (k ≠ 16 ∧ k ≠ 64 ∧ side k = 0) := by unfold side; split <;> (try split) <;> omega
instance SizeOk_s : Con 47 (∀ n : Int, Fn 47 [I n] [] (B (decide (n = 4 ∨ n = 8)))) := ⟨fun n => by
  refine FnC.of_body tabOk Try.func47 Try.ntmps47 rfl (by decide +kernel) (by simp) fun G => ?_
  refine go (r := ?_); and_intros <;> intros <;> try exact True.intro
  all_goals simp_all⟩
instance SizeOk_c : Con 54 (∀ n : Int, Fn 54 [I n] [] (B (decide (n = 4 ∨ n = 8)))) := ⟨fun n => by
  refine FnC.of_body tabOk Try.func54 Try.ntmps54 rfl (by decide +kernel) (by simp) fun G => ?_
  refine go (r := ?_); and_intros <;> intros <;> try exact True.intro
  all_goals simp_all⟩
instance l9Side_s : Con 88 (∀ l : List Int, l.length ≤ 9223372036854775807 → Fn 88 [IL l] [] (I (side l.length))) := ⟨fun l hl => by
  refine FnC.of_body tabOk Try.func88 Try.ntmps88 rfl (by decide +kernel) (by simp) fun G => ?_
  have h := side_cases l.length
  refine go (r := ?_); and_intros <;> intros <;> try exact True.intro⟩
instance sizeOf_c : Con 81 (∀ k : Nat, Fn 81 [I k] [] (I (side k))) := ⟨fun k => by
  refine FnC.of_body tabOk Try.func81 Try.ntmps81 rfl (by decide +kernel) (by simp) fun G => ?_
  have h := side_cases k
  refine go (r := ?_); and_intros <;> intros <;> try exact True.intro⟩

/-! Sums. -/
def psum (l : List Int) (k : Nat) : Int := (l.take k).sum
theorem psum_zero (l : List Int) : psum l 0 = 0 := by simp [psum]
theorem psum_succ (l : List Int) (k : Nat) (h : k < l.length) : psum l (k + 1) = psum l k + l.getD k 0 := by
  unfold psum; rw [List.take_succ_eq_append_getElem h, List.sum_append]; simp [h]
theorem psum_all (l : List Int) : psum l l.length = l.sum := by simp [psum]
theorem psum_bd {l : List Int} (h : In l 0 255) (k : Nat) (hk : k ≤ l.length) : 0 ≤ psum l k ∧ psum l k ≤ 255 * k := by
  induction k with
  | zero => simp [psum]
  | succ k ih =>
    have h1 := in_get h (k := k) (by omega)
    have h2 := ih (by omega)
    rw [psum_succ l k (by omega)]; omega
theorem in_take {l : List Int} {lo hi : Int} (h : In l lo hi) (k : Nat) : In (l.take k) lo hi := by unfold In at *; intro v hv; exact h v (List.mem_of_mem_take hv)
instance Clone_c : Con 83 (∀ l : List Int, l.length ≤ 1099511627776 → Fn 83 [IL l] [XI l] (.own 0 0 0 l.length)) := ⟨fun l hl => by
  refine FnC.of_body tabOk Try.func83 Try.ntmps83 rfl (by decide +kernel) (by simp) fun G => ?_
  refine go (r := ?_); and_intros <;> intros <;> try exact True.intro
  all_goals (have e : l = [] := List.eq_nil_of_length_eq_zero (by omega)); subst e; rfl⟩
/-- The first i and the last i turned. -/
def revp (l : List Int) (i : Nat) : List Int := (List.range l.length).map fun k => if k < i ∨ l.length - 1 - k < i then l.getD (l.length - 1 - k) 0 else l.getD k 0
theorem revp_len (l : List Int) (i : Nat) : (revp l i).length = l.length := by simp [revp]
theorem revp_zero (l : List Int) : revp l 0 = l := by
  apply eq_all 0 (by rw [revp_len])
  intro j hj
  rw [revp_len] at hj
  simp [revp, hj]
theorem revp_get (l : List Int) (i j : Nat) (hj : j < l.length) : (revp l i).getD j 0 = if j < i ∨ l.length - 1 - j < i then l.getD (l.length - 1 - j) 0 else l.getD j 0 := by
  simp only [revp, List.getD_eq_getElem?_getD, List.getElem?_map, List.getElem?_range hj, Option.map_some, Option.getD_some]
theorem rev_get (l : List Int) (j : Nat) (hj : j < l.length) : l.reverse.getD j 0 = l.getD (l.length - 1 - j) 0 := by
  simp only [List.getD_eq_getElem?_getD, List.getElem?_reverse hj]
theorem revp_end (l : List Int) (i : Nat) (h : l.length ≤ 2 * i + 1) : revp l i = l.reverse := by
  apply eq_all 0 (by rw [revp_len, List.length_reverse])
  intro j hj
  rw [revp_len] at hj
  rw [revp_get l i j hj, rev_get l j hj]
  split
  · rfl
  · have : l.length - 1 - j = j := by omega
    rw [this]
theorem revp_step (l : List Int) (i : Nat) (h : 2 * i + 1 < l.length) : ((revp l i).set i ((revp l i).getD (l.length - 1 - i) 0)).set (l.length - 1 - i) ((revp l i).getD i 0) = revp l (i + 1) := by
  have e1 : (revp l i).getD (l.length - 1 - i) 0 = l.getD (l.length - 1 - i) 0 := by
    rw [revp_get l i _ (by omega), if_neg (by omega)]
  have e2 : (revp l i).getD i 0 = l.getD i 0 := by
    rw [revp_get l i _ (by omega), if_neg (by omega)]
  rw [e1, e2]
  apply eq_all 0 (by simp [revp_len])
  intro j hj
  simp only [List.length_set, revp_len] at hj
  rw [revp_get l (i + 1) j hj, List.getD_eq_getElem?_getD, List.getElem?_set, List.getElem?_set]
  simp only [List.length_set, revp_len]
  by_cases c1 : l.length - 1 - i = j
  · rw [if_pos c1, if_pos (by omega), if_pos (by omega), Option.getD_some]; congr 1; omega
  · rw [if_neg c1]
    by_cases c2 : i = j
    · rw [if_pos c2, if_pos (by omega), if_pos (by omega), Option.getD_some, c2]
    · rw [if_neg c2, ← List.getD_eq_getElem?_getD, revp_get l i j hj]
      by_cases c3 : j < i ∨ l.length - 1 - j < i
      · rw [if_pos c3, if_pos (by omega)]
      · rw [if_neg c3, if_neg (by omega)]
end Go.Proofs.Ytgbahnaejajdgaa

/- Contracts: headers, levels, blocks, macroblocks, streams that are right. No condition. -/
namespace Go.Proofs.Ytgbahnaejajdgaa
open Go Go.Abs
set_option linter.unusedVariables false
set_option linter.unusedSimpArgs false
set_option maxRecDepth 100000
set_option maxHeartbeats 4000000
attribute [local irreducible] WpA WpL Rnd Blk Abs.Seq Abs.Fin Abs.FinG FnC FnG Only

/-! Headers. -/
abbrev HdOk (w h q : Int) (l : List Int) : Prop := SidesOk w h ∧ (0 ≤ q ∧ q ≤ 51) ∧ CodeOk l
def cntM (w h : Int) : Int := w / 8 * (h / 8)
theorem cntM_bd {w h : Int} (hs : SidesOk w h) : (0 ≤ w / 8 ∧ w / 8 ≤ 4) ∧ (0 ≤ h / 8 ∧ h / 8 ≤ 4) ∧ 0 ≤ cntM w h ∧ cntM w h ≤ 16 := by
  have h1 : 0 ≤ w / 8 ∧ w / 8 ≤ 4 := by omega
  have h2 : 0 ≤ h / 8 ∧ h / 8 ≤ 4 := by omega
  refine ⟨h1, h2, Int.mul_nonneg h1.1 h2.1, ?_⟩
  have := Int.mul_le_mul h1.2 h2.2 h2.1 (by decide)
  exact this
instance l24Count_s : Con 131 (∀ (w h q : Int) (b d : Bool) (l : List Int), SidesOk w h → Fn 131 [HdA w h q b d l] [] (I (cntM w h))) := ⟨fun w h q b d l hs => by
  have := cntM_bd hs
  unfold cntM at *
  refine FnC.of_body tabOk Try.func131 Try.ntmps131 rfl (by decide +kernel) (by simp) fun G => ?_
  refine go (r := ?_); and_intros <;> intros <;> try exact True.intro⟩
instance many_c : Con 135 (∀ (w h q : Int) (b d : Bool) (l : List Int), SidesOk w h → Fn 135 [HdA w h q b d l] [] (I (cntM w h))) := ⟨fun w h q b d l hs => by
  have := cntM_bd hs
  unfold cntM at *
  refine FnC.of_body tabOk Try.func135 Try.ntmps135 rfl (by decide +kernel) (by simp) fun G => ?_
  refine go (r := ?_); and_intros <;> intros <;> try exact True.intro⟩

/-! Levels. -/
abbrev LvOk (l : List Int) : Prop := In l (-16383) 16383 ∧ (l.length = 16 ∨ l.length = 64)
instance LevelsOk_s : Con 104 (∀ l : List Int, l.length ≤ 1099511627776 → Fn 104 [IL l] [] (B (decide (LvOk l)))) := ⟨fun l hl => by
  have hsp := side_pos l.length
  refine FnC.of_body tabOk Try.func104 Try.ntmps104 rfl (by decide +kernel) (by simp) fun G => ?_
  refine go (r := ?_); and_intros <;> intros <;> try exact True.intro
  refine WpA.loop (fun k : Nat => ⟨[(0, IL l), (3, I k)], []⟩) (fun k => k ≤ l.length ∧ In (l.take k) (-16383) 16383) (fun k => l.length - k) 0 (by simp [in_nil]) (go (r := ?_)) (fun k hk => ?_)
  · trivial
  have hi := fun h => in_snoc (lo := -16383) (hi := 16383) (l := l) (k := k) h
  refine go (r := ?_); and_intros <;> intros <;> try exact True.intro
  · have := notin (k := k) (by omega) ‹¬ (-16383 ≤ l.getD k 0 ∧ _)›; rw [eq_comm, decide_eq_false_iff_not] at *; exact fun h => this h.1
  · rw [hi (by omega)]; exact ⟨hk.2, ‹_›⟩
  all_goals have e : k = l.length := by omega
  all_goals subst e
  all_goals rw [List.take_length] at *
  simp [hk.2, hsp]⟩
instance LevelsOk_c : Con 39 (∀ l : List Int, l.length ≤ 1099511627776 → Fn 39 [IL l] [] (B (decide (LvOk l)))) := ⟨fun l hl => by
  have hsp := side_pos l.length
  refine FnC.of_body tabOk Try.func39 Try.ntmps39 rfl (by decide +kernel) (by simp) fun G => ?_
  refine go (r := ?_); and_intros <;> intros <;> try exact True.intro
  refine WpA.loop (fun k : Nat => ⟨[(0, IL l), (5, IL l), (6, I l.length), (7, I k)], []⟩) (fun k => k ≤ l.length ∧ In (l.take k) (-16383) 16383) (fun k => l.length - k) 0 (by simp [in_nil]) (go (r := ?_)) (fun k hk => ?_)
  · trivial
  have hi := fun h => in_snoc (lo := -16383) (hi := 16383) (l := l) (k := k) h
  refine go (r := ?_); and_intros <;> intros <;> try exact True.intro
  · have := notin (k := k) (by omega) ‹¬ (-16383 ≤ l.getD k 0 ∧ _)›; rw [eq_comm, decide_eq_false_iff_not] at *; exact fun h => this h.1
  · rw [hi (by omega)]; exact ⟨hk.2, ‹_›⟩
  all_goals have e : k = l.length := by omega
  all_goals subst e
  all_goals rw [List.take_length] at *
  simp [hk.2, hsp]⟩

/-! Blocks. -/
abbrev BlkOk (m : Int) (lv : List Int) (lens : List Int) (n : Int) : Prop := (n = 4 ∨ n = 8) ∧ HasC lens m ∧ (lv.length : Int) = n * n ∧ LvOk lv
/-! The first place that passes a test. -/
def ixF {α : Type} (p : α → Bool) (l : List α) : Int := if l.any p = true then (l.findIdx p : Int) else -1
theorem ixF_at {α : Type} [Inhabited α] {p : α → Bool} {l : List α} {i : Nat} (hi : i < l.length) (h0 : ∀ j < i, p (l.getD j default) = false) (h1 : p (l.getD i default) = true) : (i : Int) = ixF p l := by
  have hg : ∀ j (hj : j < l.length), l.getD j default = l[j] := fun j hj => by simp [hj]
  unfold ixF
  rw [if_pos (List.any_eq_true.2 ⟨l[i], List.getElem_mem hi, by rw [← hg i hi]; exact h1⟩)]
  congr 1
  rw [eq_comm, List.findIdx_eq hi]
  exact ⟨by rw [← hg i hi]; exact h1, fun j hj => by rw [← hg j (by omega)]; exact h0 j hj⟩
theorem ixF_no {α : Type} [Inhabited α] {p : α → Bool} {l : List α} (h0 : ∀ j < l.length, p (l.getD j default) = false) : -1 = ixF p l := by
  have hg : ∀ j (hj : j < l.length), l.getD j default = l[j] := fun j hj => by simp [hj]
  unfold ixF
  rw [if_neg]
  intro h
  obtain ⟨x, hx, hp⟩ := List.any_eq_true.1 h
  obtain ⟨j, hj, rfl⟩ := List.getElem_of_mem hx
  have := h0 j hj
  rw [hg j hj, hp] at this; cases this
theorem ixF_bd {α : Type} (p : α → Bool) (l : List α) : -1 ≤ ixF p l ∧ ixF p l ≤ l.length := by
  unfold ixF; split
  · have := List.findIdx_le_length (p := p) (xs := l); omega
  · omega
theorem ixF_ge {α : Type} (p : α → Bool) (l : List α) : ixF p l ≥ 0 ↔ l.any p = true := by
  unfold ixF; split
  · rename_i h; simp [h]
  · rename_i h; simp [h]
theorem any_not {α : Type} (q : α → Prop) [DecidablePred q] (l : List α) : (l.any fun a => decide (¬ q a)) = true ↔ ¬ ∀ a ∈ l, q a := by
  rw [List.any_eq_true]
  constructor
  · rintro ⟨a, ha, h⟩ hh; exact (of_decide_eq_true h) (hh a ha)
  · intro h
    exact Decidable.byContradiction fun hh => h fun a ha => Decidable.byContradiction fun hq => hh ⟨a, ha, decide_eq_true hq⟩

/-! Macroblocks. -/
def badB (lens : List Int) (n : Int) (b : Blok) : Bool := decide (¬ BlkOk b.1 b.2 lens n)
end Go.Proofs.Ytgbahnaejajdgaa

/- Contracts: macroblocks and streams that are right, pairs, the work of a stream. No condition. -/
namespace Go.Proofs.Ytgbahnaejajdgaa
open Go Go.Abs
set_option linter.unusedVariables false
set_option linter.unusedSimpArgs false
set_option maxRecDepth 100000
set_option maxHeartbeats 4000000
attribute [local irreducible] WpA WpL Rnd Blk Abs.Seq Abs.Fin Abs.FinG FnC FnG Only

theorem any_at {α : Type} [Inhabited α] {p : α → Bool} {l : List α} {i : Nat} (hi : i < l.length) (h : p (l.getD i default) = true) : l.any p = true :=
  List.any_eq_true.2 ⟨l.getD i default, by simp [hi], h⟩
theorem any_none {α : Type} [Inhabited α] {p : α → Bool} {l : List α} (h : ∀ j < l.length, p (l.getD j default) = false) : l.any p = false := by
  rw [List.any_eq_false]
  intro x hx
  obtain ⟨j, hj, rfl⟩ := List.getElem_of_mem hx
  have := h j hj
  have e : l.getD j default = l[j] := by simp [hj]
  rw [e] at this; simp [this]
theorem any_get {α : Type} [Inhabited α] {p : α → Bool} {l : List α} (h : l.any p = false) {i : Nat} (hi : i < l.length) : p (l.getD i default) = false := by
  cases hp : p (l.getD i default) with
  | false => rfl
  | true => rw [any_at hi hp] at h; cases h
def sz8 (e : Bool) : Int := bif e then 8 else 4
def nm8 (e : Bool) : Int := bif e then 1 else 4
theorem sz8_cases (e : Bool) : (sz8 e = 4 ∧ nm8 e = 4) ∨ (sz8 e = 8 ∧ nm8 e = 1) := by cases e <;> simp [sz8, nm8]
instance l23Side_s : Con 138 (∀ e : Bool, Fn 138 [B e] [] (I (sz8 e))) := ⟨fun e => by
  cases e
  · refine FnC.of_body tabOk Try.func138 Try.ntmps138 rfl (by decide +kernel) (by simp) fun G => ?_
    refine go (r := ?_); and_intros <;> intros <;> try exact True.intro
    all_goals rfl
  · refine FnC.of_body tabOk Try.func138 Try.ntmps138 rfl (by decide +kernel) (by simp) fun G => ?_
    refine go (r := ?_); and_intros <;> intros <;> try exact True.intro
    all_goals rfl⟩
instance shape_c : Con 143 (∀ e : Bool, Fn 143 [B e] [] (.tup [I (nm8 e), I (sz8 e)])) := ⟨fun e => by
  cases e
  · refine FnC.of_body tabOk Try.func143 Try.ntmps143 rfl (by decide +kernel) (by simp) fun G => ?_
    refine go (r := ?_); and_intros <;> intros <;> try exact True.intro
    all_goals rfl
  · refine FnC.of_body tabOk Try.func143 Try.ntmps143 rfl (by decide +kernel) (by simp) fun G => ?_
    refine go (r := ?_); and_intros <;> intros <;> try exact True.intro
    all_goals rfl⟩
abbrev MbkOk (e : Bool) (bs : List Blok) (lens : List Int) : Prop := (bs.length : Int) = nm8 e ∧ bs.any (badB lens (sz8 e)) = false
/-! Streams. -/
def badM (lens : List Int) (m : Mbk) : Bool := decide (¬ MbkOk m.1 m.2 lens)
abbrev StC (w h q : Int) (b d : Bool) (l : List Int) (M : List Mbk) : List AV := [I w, I h, I q, B b, B d, IL l, MbL M]
abbrev StOk (w h q : Int) (l : List Int) (M : List Mbk) : Prop := HdOk w h q l ∧ (M.length : Int) = cntM w h ∧ M.any (badM l) = false
theorem Weak.eqv {m d : Nat} {V V' : AV} {T : List (Nat × AV)} {O : List AObj} (h : V = V') : Weak m ⟨(d, V) :: T, O⟩ ⟨(d, V') :: T, O⟩ := by subst h; exact fun n G a w h => h
/-! Pairs. -/
def pk (l : List Int) : Nat → List (Int × Int) × Int
  | 0 => ([], 0)
  | k + 1 => if l.getD k 0 = 0 then ((pk l k).1, (pk l k).2 + 1) else ((pk l k).1 ++ [((pk l k).2, l.getD k 0)], 0)
def prsL (l : List Int) : List (Int × Int) := if LvOk l then (pk l l.length).1 else []
theorem pk_bd (l : List Int) : ∀ k, (pk l k).1.length ≤ k ∧ 0 ≤ (pk l k).2 ∧ (pk l k).2 ≤ k
  | 0 => by simp [pk]
  | k + 1 => by have := pk_bd l k; rw [pk]; split <;> simp <;> omega
theorem pk_nz (l : List Int) : ∀ k, k ≤ l.length → (pk l k).1.length = ((l.take k).map nz1).sum
  | 0, _ => by simp [pk]
  | k + 1, hk => by
    have ih := pk_nz l k (by omega)
    rw [take_snoc l k (by omega), List.map_append, List.sum_append, pk]
    have e : l.getD k default = l.getD k 0 := rfl
    rw [e]
    split
    · rename_i h; rw [h]; simp [nz1, ih]
    · rename_i h; have e2 : nz1 (l.getD k 0) = 1 := if_neg h
      simp only [List.map_cons, List.map_nil, List.sum_cons, List.sum_nil, e2, List.length_append, List.length_singleton, ih, Nat.add_zero]
theorem prs_nz {l : List Int} (h : LvOk l) : (prsL l).length = (l.map nz1).sum := by
  rw [prsL, if_pos h, pk_nz l _ (Nat.le_refl _), List.take_length]
abbrev XP (l : List (Int × Int)) : AObj := ⟨rows prF l, 0, 2, some 127⟩
/-! The work of a stream. -/
def wkB (b : Blok) : Nat := 2 + (if nzB b = 0 then 0 else 1 + 2 * nzB b)
def wkM (m : Mbk) : Nat := 1 + (m.2.map wkB).sum
def workL (w h q : Int) (l : List Int) (M : List Mbk) : Int := if StOk w h q l M then 7 + ((M.map wkM).sum : Nat) else 0
theorem sum_mul {α : Type} (f g : α → Nat) (h : ∀ a, f a ≤ 3 * g a) (l : List α) : (l.map f).sum ≤ 3 * (l.map g).sum := by
  induction l with
  | nil => simp
  | cons a l ih => simp only [List.map_cons, List.sum_cons]; have := h a; omega
theorem sum_one_add {α : Type} (g : α → Nat) (l : List α) : (l.map fun a => 1 + g a).sum = l.length + (l.map g).sum := by
  induction l with
  | nil => simp
  | cons a l ih => simp only [List.map_cons, List.sum_cons, List.length_cons, ih]; omega
theorem wkB_bd (b : Blok) : wkB b ≤ 3 * (1 + bn b) := by have := nzB_bd b; unfold wkB; split <;> omega
theorem wkM_bd (m : Mbk) : wkM m ≤ 3 * (1 + mn m) := by
  have h := sum_mul wkB (fun b => 1 + bn b) wkB_bd m.2
  rw [sum_one_add] at h
  unfold wkM mn bw; omega
theorem wk_bd (M : List Mbk) : (M.map wkM).sum ≤ 3 * mw M := by
  have h := sum_mul wkM (fun m => 1 + mn m) wkM_bd M
  rw [sum_one_add] at h
  unfold mw; omega
theorem ok_blk {w h q : Int} {l : List Int} {M : List Mbk} (hs : StOk w h q l M) {i : Nat} (hi : i < M.length) : MbkOk (M.getD i default).1 (M.getD i default).2 l := by
  have := any_get hs.2.2 hi
  unfold badM at this
  exact Decidable.not_not.1 (of_decide_eq_false this)
theorem ok_lv {e : Bool} {bs : List Blok} {l : List Int} (hs : MbkOk e bs l) {k : Nat} (hk : k < bs.length) : BlkOk (bs.getD k default).1 (bs.getD k default).2 l (sz8 e) := by
  have := any_get hs.2 hk
  unfold badB at this
  exact Decidable.not_not.1 (of_decide_eq_false this)
end Go.Proofs.Ytgbahnaejajdgaa

/- A nil slice as an owned slice of an object that has no place yet. No condition. -/
namespace Go.Abs
open Go
set_option linter.unusedVariables false
set_option linter.unusedSimpArgs false

/-- The same values; a nil slice may stand as the beginning of the object 'j'. -/
inductive Rz (O O' : List AObj) (j : Nat) : List AV → List AV → Prop
  | nil : Rz O O' j [] []
  | any {V vs us} : Rz O O' j vs us → Rz O O' j (V :: vs) (.any :: us)
  | keep {V V' vs us} : V = V' → V'.still = true → Rz O O' j vs us → Rz O O' j (V :: vs) (V' :: us)
  | own {id ep ep' off len len' ob ob' vs us} : O[id]? = some ob → O'[id]? = some ob' → ob.ep = ep → ob'.ep = ep' → ob'.size = ob.size → len = len' → Rz O O' j vs us → Rz O O' j (.own id ep off len :: vs) (.own id ep' off len' :: us)
  | ptr {id ep ep' off ob ob' vs us} : O[id]? = some ob → O'[id]? = some ob' → ob.ep = ep → ob'.ep = ep' → Rz O O' j vs us → Rz O O' j (.ptr id ep off :: vs) (.ptr id ep' off :: us)
  | agg {ds es vs us} : Rz O O' j ds es → Rz O O' j vs us → Rz O O' j (.agg ds :: vs) (.agg es :: us)
  | nilO {ob' k len vs us} : O'[k]? = some ob' → k = j → ob'.ep = 0 → 0 = len → Rz O O' j vs us → Rz O O' j (.nilS :: vs) (.own k 0 0 len :: us)

theorem Rz.same {O O' : List AObj} {j : Nat} {cs cs' : List AV} (h : cs = cs') (hs : cs'.all AV.still = true) : Rz O O' j cs cs' := by
  subst h
  induction cs with
  | nil => exact .nil
  | cons c cs ih =>
    simp only [List.all_cons, Bool.and_eq_true] at hs
    exact .keep rfl hs.1 (ih hs.2)

theorem Rz.rel {O O' : List AObj} {j : Nat} {S w} {ι ι' : Nat → Spot} (hj : ι' j = none) (hι : ∀ id, id < O.length → ι' id = ι id) {vs us : List AV} (h : Rz O O' j vs us) : ∀ {xs f}, LRel S w ι O vs xs f → ∃ f', LRel S w ι' O' us xs f' ∧ (∀ b ∈ f', b ∈ f) ∧ (f.Nodup → f'.Nodup) := by
  induction h with
  | nil => intro xs f hl; cases hl; exact ⟨[], .nil, by simp, by simp⟩
  | any _ ih =>
    intro xs f hl
    obtain ⟨v, vs', f1, f2, rfl, hv, hr, rfl⟩ := hl.uncons
    obtain ⟨f', h1, h2, h3⟩ := ih hr
    exact ⟨f', .any h1, fun b hb => List.mem_append_right _ (h2 b hb), fun hn => h3 (List.nodup_append.1 hn).2.1⟩
  | keep he hs _ ih =>
    intro xs f hl
    subst he
    obtain ⟨v, vs', f1, f2, rfl, hv, hr, rfl⟩ := hl.uncons
    obtain ⟨f', h1, h2, h3⟩ := ih hr
    refine ⟨f1 ++ f', LRel.cons (still_any hv hs O' (fun _ h => h) (fun _ _ => rfl) (fun _ _ => rfl)) h1, ?_, ?_⟩
    · intro b hb
      rcases List.mem_append.1 hb with hb | hb
      · exact List.mem_append_left _ hb
      · exact List.mem_append_right _ (h2 b hb)
    · intro hn
      obtain ⟨n1, n2, n3⟩ := List.nodup_append.1 hn
      exact List.nodup_append.2 ⟨n1, h3 n2, fun a ha b hb => n3 a ha b (h2 b hb)⟩
  | own ho ho' he he' hsz hln _ ih =>
    intro xs f hl
    subst hln
    obtain ⟨v, vs', f1, f2, rfl, hv, hr, rfl⟩ := hl.uncons
    obtain ⟨f', h1, h2, h3⟩ := ih hr
    refine ⟨f', ?_, fun b hb => List.mem_append_right _ (h2 b hb), fun hn => h3 (List.nodup_append.1 hn).2.1⟩
    cases hv with
    | own q1 q2 q3 r =>
      rw [ho] at q1; cases q1
      exact .own ho' (by omega) (fun _ => by rw [hsz, hι _ (List.getElem?_eq_some_iff.1 ho).1]; exact q3 he.symm) h1
  | ptr ho ho' he he' _ ih =>
    intro xs f hl
    obtain ⟨v, vs', f1, f2, rfl, hv, hr, rfl⟩ := hl.uncons
    obtain ⟨f', h1, h2, h3⟩ := ih hr
    refine ⟨f', ?_, fun b hb => List.mem_append_right _ (h2 b hb), fun hn => h3 (List.nodup_append.1 hn).2.1⟩
    cases hv with
    | ptr q1 q2 q3 r =>
      rw [ho] at q1; cases q1
      exact .ptr ho' (by omega) (fun _ => by rw [hι _ (List.getElem?_eq_some_iff.1 ho).1]; exact q3 he.symm) h1
  | agg _ _ ih1 ih2 =>
    intro xs f hl
    obtain ⟨v, vs', f1, f2, rfl, hv, hr, rfl⟩ := hl.uncons
    obtain ⟨us', rfl, ha⟩ := LRel.agg_inv hv
    obtain ⟨g', a1, a2, a3⟩ := ih1 ha
    obtain ⟨f', h1, h2, h3⟩ := ih2 hr
    refine ⟨g' ++ f', .agg a1 h1, ?_, ?_⟩
    · intro b hb
      rcases List.mem_append.1 hb with hb | hb
      · exact List.mem_append_left _ (a2 b hb)
      · exact List.mem_append_right _ (h2 b hb)
    · intro hn
      obtain ⟨n1, n2, n3⟩ := List.nodup_append.1 hn
      exact List.nodup_append.2 ⟨a3 n1, h3 n2, fun a ha b hb => n3 a (a2 a ha) b (h2 b hb)⟩
  | nilO hk hkj hep hlen _ ih =>
    intro xs f hl
    subst hkj; subst hlen
    obtain ⟨v, vs', f1, f2, rfl, hv, hr, rfl⟩ := hl.uncons
    obtain ⟨f', h1, h2, h3⟩ := ih hr
    refine ⟨f', ?_, fun b hb => List.mem_append_right _ (h2 b hb), fun hn => h3 (List.nodup_append.1 hn).2.1⟩
    cases hv with
    | nilS r => exact .own hk (by omega) (fun _ => by rw [hj]; exact ⟨rfl, rfl, rfl⟩) h1

inductive RzT (O O' : List AObj) (j : Nat) (T : List (Nat × AV)) : List (Nat × AV) → Prop
  | nil : RzT O O' j T []
  | cons {t V T'} : Rz O O' j [look T t] [V] → RzT O O' j T T' → RzT O O' j T ((t, V) :: T')
theorem RzT.at {O O' j T T'} (h : RzT O O' j T T') (t : Nat) : Rz O O' j [look T t] [look T' t] := by
  induction h with
  | nil => exact .any .nil
  | @cons k V T' hk _ ih =>
    by_cases he : k = t
    · subst he; rw [look_cons_same]; exact hk
    · rw [look_cons_other _ _ _ _ he]; exact ih
inductive RzO (O O' : List AObj) (j : Nat) : List AObj → List AObj → Prop
  | last {ob'} : ob'.cells = [] → RzO O O' j [] [ob']
  | cons {ob ob' os os'} : Rz O O' j ob.cells ob'.cells → (ob'.ty = none ∨ ob'.ty = ob.ty) → RzO O O' j os os' → RzO O O' j (ob :: os) (ob' :: os')
theorem RzO.len {O O' j os os'} (h : RzO O O' j os os') : os'.length = os.length + 1 := by
  induction h with
  | last => rfl
  | cons _ _ _ ih => simp [ih]
theorem RzO.at {O O' j os os'} (h : RzO O O' j os os') {id : Nat} {ob' : AObj} (hi : os'[id]? = some ob') : (id = os.length ∧ ob'.cells = []) ∨ ∃ ob, os[id]? = some ob ∧ Rz O O' j ob.cells ob'.cells ∧ (ob'.ty = none ∨ ob'.ty = ob.ty) := by
  induction h generalizing id with
  | last h =>
    cases id with
    | zero => simp at hi; subst hi; exact .inl ⟨rfl, h⟩
    | succ id => simp at hi
  | cons h1 h2 _ ih =>
    cases id with
    | zero => simp at hi; subst hi; exact .inr ⟨_, by simp, h1, h2⟩
    | succ id =>
      rcases ih (by simpa using hi) with ⟨h3, h4⟩ | ⟨ob, h3, h4⟩
      · exact .inl ⟨by simp [h3], h4⟩
      · exact .inr ⟨ob, by simpa using h3, h4⟩

theorem Weak.nil1 {m : Nat} {T T' : List (Nat × AV)} {O O' : List AObj} (hT : RzT O O' O.length T T') (hO : RzO O O' O.length O O') (hm : m ≤ O.length) : Weak m ⟨T, O⟩ ⟨T', O'⟩ := by
  rintro n G a w ⟨S, ι, F, hr⟩
  have hlen := hO.len
  have hι0 : (fun id => if id < O.length then ι id else none) O.length = none := by simp
  have hι1 : ∀ id, id < O.length → (fun id => if id < O.length then ι id else none) id = ι id := fun id h => by simp [h]
  generalize (fun id => if id < O.length then ι id else none) = ι' at hι0 hι1
  have hex : ∀ id, ∃ f, ∀ ob', O'[id]? = some ob' → ObjAt S w ι' O' ob' (ι' id) f ∧ (∀ b ∈ f, id < O.length ∧ b ∈ F id) ∧ f.Nodup := by
    intro id
    cases hi : O'[id]? with
    | none => exact ⟨[], by simp⟩
    | some ob' =>
      rcases hO.at hi with ⟨h1, h2⟩ | ⟨ob, ho, hre, hty⟩
      · refine ⟨[], fun ob2 h3 => ?_⟩
        cases h3
        refine ⟨?_, by simp, by simp⟩
        rw [h1, hι0]
        unfold ObjAt
        exact ⟨h2, rfl⟩
      have hid : id < O.length := (List.getElem?_eq_some_iff.1 ho).1
      have hob := hr.objs.obj id ob ho
      unfold ObjAt at hob
      cases hs : ι id with
      | none =>
        rw [hs] at hob
        refine ⟨[], fun ob2 h2 => ?_⟩
        cases h2
        refine ⟨?_, by simp, by simp⟩
        rw [hob.1] at hre
        unfold ObjAt
        rw [hι1 id hid, hs]
        cases hc : ob'.cells with
        | nil => exact ⟨rfl, rfl⟩
        | cons c cs => rw [hc] at hre; cases hre
      | some p =>
        obtain ⟨b, k⟩ := p
        rw [hs] at hob
        obtain ⟨cur, t, fz, f', hF, h1, h2, h3, h4, h5, h6⟩ := hob
        obtain ⟨g, g1, g2, g3⟩ := hre.rel hι0 hι1 h6
        have hnd : (b :: f').Nodup := by rw [← hF]; exact hr.objs.nodup id hid
        have hlen : ob'.cells.length = ob.cells.length := by
          have e1 := g1.len
          have e2 := h6.len
          omega
        refine ⟨b :: g, fun ob2 hh => ?_⟩
        cases hh
        rw [hι1 id hid, hs]
        refine ⟨⟨cur, t, fz, g, rfl, h1, h2, by omega, h4, fun e he => ?_, by rw [hlen]; exact g1⟩, ?_, ?_⟩
        · rcases hty with hty | hty
          · rw [hty] at he; cases he
          · exact h5 e (by rw [← hty]; exact he)
        · intro b' hb'
          rw [hF]
          rcases List.mem_cons.1 hb' with rfl | hb'
          · simp [hid]
          · simp [g2 b' hb', hid]
        · exact List.nodup_cons.2 ⟨fun hb => (List.nodup_cons.1 hnd).1 (g2 b hb), g3 (List.nodup_cons.1 hnd).2⟩
  have hFx : ∃ F' : Nat → List Nat, ∀ id ob', O'[id]? = some ob' → ObjAt S w ι' O' ob' (ι' id) (F' id) ∧ (∀ b ∈ F' id, id < O.length ∧ b ∈ F id) ∧ (F' id).Nodup :=
    ⟨fun id => (hex id).choose, fun id => (hex id).choose_spec⟩
  obtain ⟨F', hF'⟩ := hFx
  refine ⟨S, ι', F', hr.defers, hr.size, fun t => ?_, ⟨fun id ob' h => (hF' id ob' h).1, fun id h => (hF' id _ (List.getElem?_eq_getElem h)).2.2, fun i j hi hj hij b hb hb' => ?_⟩, fun id h b hb => ?_, hr.base, hr.stable, hr.keeps, fun id h => ?_, by show m ≤ O'.length; omega⟩
  · obtain ⟨f', h1, h2, _⟩ := (hT.at t).rel hι0 hι1 (hr.tmps t)
    have : f' = [] := List.eq_nil_iff_forall_not_mem.2 fun b hb => by simpa using h2 b hb
    subst this
    exact h1
  · have hi : i < O'.length := hi
    have hj : j < O'.length := hj
    obtain ⟨a1, a2⟩ := (hF' i _ (List.getElem?_eq_getElem hi)).2.1 b hb
    obtain ⟨b1, b2⟩ := (hF' j _ (List.getElem?_eq_getElem hj)).2.1 b hb'
    exact hr.objs.apart i j a1 b1 hij b a2 b2
  · have h : id < O'.length := h
    obtain ⟨a1, a2⟩ := (hF' id _ (List.getElem?_eq_getElem h)).2.1 b hb
    exact hr.foot id a1 b a2
  · rw [hι1 id (by omega)]; exact hr.spots id h
end Go.Abs

/- Contracts: blocks, macroblocks and streams that are read by the program. No condition. -/
namespace Go.Proofs.Ytgbahnaejajdgaa
open Go Go.Abs
set_option linter.unusedVariables false
set_option linter.unusedSimpArgs false
set_option maxRecDepth 100000
set_option maxHeartbeats 4000000
attribute [local irreducible] WpA WpL Rnd Blk Abs.Seq Abs.Fin Abs.FinG FnC FnG Only

abbrev BkV (m : Int) (l : List Int) : AV := .agg [I m, .own 0 0 0 l.length]
theorem blS_1 {p : List UInt8} {s : Int} {lens : List Int} {n : Int} (hn : n = 4 ∨ n = 8) (hs : smC p s lens = 0) (hc : (lvS p (smA p s lens) n).c = 0) : blS p s lens n = ⟨(lvS p (smA p s lens) n).a, 0, smV p s lens, (lvS p (smA p s lens) n).out⟩ := by
  unfold blS; rw [if_pos hn, if_pos hs]; simp only; rw [if_pos hc]
theorem blS_2 {p : List UInt8} {s : Int} {lens : List Int} {n : Int} (hn : n = 4 ∨ n = 8) (hs : smC p s lens = 0) (hc : (lvS p (smA p s lens) n).c ≠ 0) : blS p s lens n = ⟨(lvS p (smA p s lens) n).a, (lvS p (smA p s lens) n).c, 0, []⟩ := by
  unfold blS; rw [if_pos hn, if_pos hs]; simp only; rw [if_neg hc]
theorem blS_3 {p : List UInt8} {s : Int} {lens : List Int} {n : Int} (hn : n = 4 ∨ n = 8) (hs : smC p s lens ≠ 0) : blS p s lens n = ⟨s, smC p s lens, 0, []⟩ := by
  unfold blS; rw [if_pos hn, if_neg hs]
theorem blS_4 {p : List UInt8} {s : Int} {lens : List Int} {n : Int} (hn : ¬ (n = 4 ∨ n = 8)) : blS p s lens n = ⟨s, 5, 0, []⟩ := by
  unfold blS; rw [if_neg hn]
theorem smA_bad {p : List UInt8} {s : Int} {l : List Int} (h : smC p s l ≠ 0) : smA p s l = s := by rw [smA, if_neg h]
instance ReadBlock_c : Con 144 (∀ (p : List UInt8) (s : Int) (lens : List Int) (n : Int), p.length ≤ 1099511627776 ∧ lens.length ≤ 1099511627776 → Fn 144 [RA p s, IL lens, I n] [XI (blS p s lens n).l] (.tup [RA p (blS p s lens n).a, BkV (blS p s lens n).m (blS p s lens n).l, I (blS p s lens n).c])) := ⟨fun p s lens n hl => by
  refine FnC.of_body tabOk Try.func144 Try.ntmps144 rfl (by decide +kernel) (by simp) fun G => ?_
  by_cases hn : n = 4 ∨ n = 8
  · by_cases hs : smC p s lens = 0
    · refine go (r := ?_); and_intros <;> intros <;> try exact True.intro
      all_goals first | (exact absurd hs (by assumption)) | (exact absurd hn (by assumption)) | skip
      refine K.call ?_
      refine WpL.callM (hs := [3]) (flv_c p (smA p s lens) n hl.1 hn) handA handOA rfl rfl (.cons rfl (.sc (.sc (.sc .nil))) .nil) outA rfl rfl rfl rfl (by decide) ?_
      have e1 := blS_1 (p := p) (s := s) (lens := lens) hn hs
      have e2 := blS_2 (p := p) (s := s) (lens := lens) hn hs
      generalize lvS p (smA p s lens) n = y at e1 e2 ⊢
      by_cases hy : y.c = 0
      · rw [e1 hy]
        refine go (r := ?_); and_intros <;> intros <;> try exact True.intro
      · rw [e2 hy]
        refine go (r := ?_); and_intros <;> intros <;> try exact True.intro
    · rw [blS_3 hn hs]
      have ea := smA_bad hs
      refine go (r := ?_); and_intros <;> intros <;> try exact True.intro
  · rw [blS_4 hn]
    refine go (r := ?_); and_intros <;> intros <;> try exact True.intro⟩
/-! Macroblocks. -/
theorem mbRun_len (p : List UInt8) (s : Int) (lens : List Int) (n : Int) : ∀ k, (mbRun p s lens n k).c = 0 → (mbRun p s lens n k).bs.length = k
  | 0, _ => rfl
  | k + 1, h => by
    have ih := mbRun_len p s lens n k
    rw [mbRun] at h ⊢
    simp only at h ⊢
    split at h
    · rename_i hx
      rw [if_pos hx]
      split at h
      · rename_i hb; rw [if_pos hb]; simp [ih hx]
      · rename_i hb; exact absurd h hb
    · rename_i hx; exact absurd h hx
theorem mbRun_stop {p : List UInt8} {s : Int} {lens : List Int} {n : Int} {k : Nat} (h : (mbRun p s lens n k).c ≠ 0) : ∀ j, k ≤ j → mbRun p s lens n j = mbRun p s lens n k
  | 0, hj => by have : k = 0 := by omega
                subst this; rfl
  | j + 1, hj => by
    rcases Nat.lt_or_ge j k with h2 | h2
    · have : k = j + 1 := by omega
      subst this; rfl
    · have e := mbRun_stop h j h2
      rw [mbRun]; simp only; rw [e, if_neg h]
theorem mbS_no {p : List UInt8} {s : Int} {lens : List Int} (h : ¬ RbOk p s 1) : mbS p s lens = (⟨s, 1, []⟩, false) := by unfold mbS; rw [if_neg h]
theorem nm8_nat (e : Bool) : (bif e then 1 else 4 : Nat) = (nm8 e).toNat := by cases e <;> rfl
theorem mbS_yes {p : List UInt8} {s : Int} {lens : List Int} {E : Bool} (h : RbOk p s 1) (hE : decide (rbV p s 1 = 1) = E) : mbS p s lens = (mbRun p (s + 1) lens (sz8 E) (nm8 E).toNat, bif decide ((mbRun p (s + 1) lens (sz8 E) (nm8 E).toNat).c = 0) then E else false) := by
  unfold mbS; rw [if_pos h, hE]; simp only; rw [nm8_nat]; rfl
theorem mbRun_bad {p : List UInt8} {s : Int} {lens : List Int} {n : Int} {k : Nat} (h : (mbRun p s lens n k).c = 0) (hb : (blS p (mbRun p s lens n k).a lens n).c ≠ 0) : ∀ j, k < j → mbRun p s lens n j = ⟨(blS p (mbRun p s lens n k).a lens n).a, (blS p (mbRun p s lens n k).a lens n).c, []⟩ := by
  intro j hj
  have e : mbRun p s lens n (k + 1) = ⟨(blS p (mbRun p s lens n k).a lens n).a, (blS p (mbRun p s lens n k).a lens n).c, []⟩ := by
    rw [mbRun]; simp only; rw [if_pos h, if_neg hb]
  rw [mbRun_stop (k := k + 1) (by rw [e]; exact hb) j hj, e]
theorem mbRun_next {p : List UInt8} {s : Int} {lens : List Int} {n : Int} {k : Nat} (h : (mbRun p s lens n k).c = 0) (hb : (blS p (mbRun p s lens n k).a lens n).c = 0) : mbRun p s lens n (k + 1) = ⟨(blS p (mbRun p s lens n k).a lens n).a, 0, (mbRun p s lens n k).bs ++ [((blS p (mbRun p s lens n k).a lens n).m, (blS p (mbRun p s lens n k).a lens n).l)]⟩ := by
  rw [mbRun]; simp only; rw [if_pos h, if_pos hb]
abbrev MbV (e : Bool) (n : Nat) : AV := .agg [B e, .own 0 0 0 n]
instance ReadMb_c : Con 72 (∀ (p : List UInt8) (s : Int) (lens : List Int), p.length ≤ 1099511627776 ∧ lens.length ≤ 1099511627776 → Fn 72 [RA p s, IL lens] [BkO (mbS p s lens).1.bs] (.tup [RA p (mbS p s lens).1.a, MbV (mbS p s lens).2 (mbS p s lens).1.bs.length, I (mbS p s lens).1.c])) := ⟨fun p s lens hl => by
  refine FnC.of_body tabOk Try.func72 Try.ntmps72 rfl (by decide +kernel) (by simp) fun G => ?_
  by_cases ho : RbOk p s 1
  · have ea := (rb_yes ho).1
    generalize hE : decide (rbV p s 1 = 1) = E
    rw [mbS_yes ho hE]
    have hc8 := sz8_cases E
    refine go (r := ?_); and_intros <;> intros <;> try exact True.intro
    all_goals first | contradiction | skip
    rw [hE, ea]
    have hz : (mbRun p (s + 1) lens (sz8 E) 0) = ⟨s + 1, 0, []⟩ := rfl
    have hln := fun k h => mbRun_len p (s + 1) lens (sz8 E) k h
    have hnx := fun k h hb => mbRun_next (p := p) (s := s + 1) (lens := lens) (n := sz8 E) (k := k) h hb
    have hbd := fun k h hb j hj => mbRun_bad (p := p) (s := s + 1) (lens := lens) (n := sz8 E) (k := k) h hb j hj
    generalize mbRun p (s + 1) lens (sz8 E) = X at hz hln hnx hbd ⊢
    refine WpA.loop (fun k : Nat => ⟨[(1, IL lens), (2, .ptr 0 0 0), (4, .ptr 1 0 0), (5, .ptr 2 0 0), (9, .ptr 3 0 0), (11, I (sz8 E)), (34, I (nm8 E)), (35, I k)], [⟨[Z p, I (X k).a], 0, 0, none⟩, R0, ⟨[B false, .nilS], 0, 0, none⟩, ⟨[B E, .own 4 0 0 k], 0, 0, none⟩, BkO (X k).bs]⟩) (fun k => (k : Int) ≤ nm8 E ∧ (X k).c = 0) (fun k => (nm8 E).toNat - k) 0 (by rw [hz]; exact ⟨by omega, rfl⟩) ?_ (fun k hk => ?_)
    · rw [hz]; exact Weak.nil1 (by first | (show 0 ≤ _; exact Nat.zero_le _) | (repeat' (first | exact RzT.nil | refine RzT.cons ?_ ?_ | exact Rz.nil | refine Rz.keep rfl rfl ?_ | refine Rz.own rfl rfl rfl rfl rfl (by first | rfl | omega | (simp; done)) ?_ | refine Rz.ptr rfl rfl rfl rfl ?_ | refine Rz.nilO rfl rfl rfl (by first | rfl | omega | (simp; done)) ?_ | refine Rz.agg ?_ ?_ | exact RzO.last rfl | (refine RzO.cons ?_ (.inr rfl) ?_) | exact Rz.same rfl (still_ints _) | exact Rz.same rfl (still_rows (fun _ => rfl) _)))) (by first | (show 0 ≤ _; exact Nat.zero_le _) | (repeat' (first | exact RzT.nil | refine RzT.cons ?_ ?_ | exact Rz.nil | refine Rz.keep rfl rfl ?_ | refine Rz.own rfl rfl rfl rfl rfl (by first | rfl | omega | (simp; done)) ?_ | refine Rz.ptr rfl rfl rfl rfl ?_ | refine Rz.nilO rfl rfl rfl (by first | rfl | omega | (simp; done)) ?_ | refine Rz.agg ?_ ?_ | exact RzO.last rfl | (refine RzO.cons ?_ (.inr rfl) ?_) | exact Rz.same rfl (still_ints _) | exact Rz.same rfl (still_rows (fun _ => rfl) _)))) (Nat.zero_le _)
    have hln := hln k hk.2
    have hnx := hnx k hk.2
    have hbd := hbd k hk.2
    have hfin : ¬ (k : Int) < nm8 E → X (nm8 E).toNat = X k := fun h => by rw [show (nm8 E).toNat = k by omega]
    generalize hy : X k = y at hk hln hnx hbd hfin ⊢
    have hln : y.bs.length = k := hln
    by_cases hb : (blS p y.a lens (sz8 E)).c = 0
    · have hnx := hnx hb
      clear hbd
      refine go (r := ?_); and_intros <;> intros <;> try exact True.intro
      all_goals first | contradiction | (rw [hnx]; done) | (rw [hfin (by assumption)]; first | done | omega | (simp [hk.2]; done) | (simp only; omega)) | trace_state
    · have hbd := hbd hb
      clear hnx
      refine go (r := ?_); and_intros <;> intros <;> try exact True.intro
      all_goals first | contradiction | (rw [hbd _ (by omega)]; first | done | (simp [hb]; done)) | (rw [hfin (by assumption)]; first | done | omega | (simp [hk.2]; done) | (simp only; omega)) | trace_state
  · rw [mbS_no ho]
    have ea := (rb_no ho).1
    refine go (r := ?_); and_intros <;> intros <;> try exact True.intro
    all_goals first | contradiction | trace_state⟩
end Go.Proofs.Ytgbahnaejajdgaa

/- Plain laws: where a reader stands stays in its text; how much is read; streams as they are parsed. No condition. -/
namespace Go.Proofs.Ytgbahnaejajdgaa
open Go Go.Abs
set_option linter.unusedVariables false
set_option linter.unusedSimpArgs false

theorem rbA_ok {p : List UInt8} {s n : Int} (h : RdOk p s) : RdOk p (rbA p s n) := by
  by_cases ho : RbOk p s n
  · rw [(rb_yes ho).1]
    have h1 := lft_ok h
    have h2 := ho.2.2
    have h3 := ho.2.1
    have h4 := h.1
    constructor <;> omega
  · rw [(rb_no ho).1]; exact h
theorem ueA_ok {p : List UInt8} {s : Int} (h : RdOk p s) : RdOk p (ueA p s) := by
  unfold ueA; split
  · exact rbA_ok h
  · exact h
theorem fuA_ok {p : List UInt8} {s c : Int} {k : Int → Int} (h : RdOk p s) : RdOk p (fuA p s c k) := by
  unfold fuA; split
  · exact ueA_ok h
  · exact h
theorem fbA_ok {p : List UInt8} {s c n : Int} {k : Int → Int} (h : RdOk p s) : RdOk p (fbA p s c n k) := by
  unfold fbA; split
  · exact rbA_ok h
  · exact h
theorem smA_ok {p : List UInt8} {s : Int} {l : List Int} (h : RdOk p s) : RdOk p (smA p s l) := by
  by_cases hc : smC p s l = 0
  · rw [smA, if_pos hc]
    have hm : symM p s l < 6 := by
      unfold smC at hc
      split at hc
      · split at hc
        · assumption
        · exact absurd hc (by decide)
      · exact absurd hc (by decide)
    have h0 := symM_lt hm
    have h1 := lft_ok h
    have h2 := h0.2.1.2.2
    have h3 := h0.1
    have h4 := h.1
    constructor <;> omega
  · rw [smA, if_neg hc]; exact h
theorem lvStep_ok {p : List UInt8} {nn : Int} {x : LvS} (h : RdOk p x.a) : RdOk p (lvStep p nn x).a := by
  unfold lvStep; split
  · simp only; split <;> exact fuA_ok (fuA_ok h)
  · exact h
theorem lvRun_ok {p : List UInt8} {nn : Int} {x : LvS} (h : RdOk p x.a) : ∀ k, RdOk p (lvRun p nn x k).a
  | 0 => h
  | k + 1 => by rw [lvRun]; exact lvStep_ok (lvRun_ok h k)
theorem lvS_ok {p : List UInt8} {s n : Int} (h : RdOk p s) : RdOk p (lvS p s n).a := by
  unfold lvS; simp only; split
  · exact fbA_ok h
  · exact lvRun_ok (x := ⟨_, _, _, _⟩) (fuA_ok (fbA_ok h)) _
theorem blS_ok {p : List UInt8} {s : Int} {lens : List Int} {n : Int} (h : RdOk p s) : RdOk p (blS p s lens n).a := by
  unfold blS; split
  · split
    · simp only; split <;> exact lvS_ok (smA_ok h)
    · exact h
  · exact h
theorem mbRun_ok {p : List UInt8} {s : Int} {lens : List Int} {n : Int} (h : RdOk p s) : ∀ k, RdOk p (mbRun p s lens n k).a
  | 0 => h
  | k + 1 => by
    have ih := mbRun_ok (lens := lens) (n := n) h k
    rw [mbRun]; simp only; split
    · split <;> exact blS_ok ih
    · exact ih
theorem mbS_ok {p : List UInt8} {s : Int} {lens : List Int} (h : RdOk p s) : RdOk p (mbS p s lens).1.a := by
  unfold mbS; split
  · rename_i ho
    have : RdOk p (s + 1) := by have := rbA_ok (n := 1) h; rwa [(rb_yes ho).1] at this
    exact mbRun_ok this _
  · exact h
theorem stRun_ok {p : List UInt8} {s : Int} {lens : List Int} (h : RdOk p s) : ∀ k, RdOk p (stRun p s lens k).a
  | 0 => h
  | k + 1 => by
    have ih := stRun_ok (lens := lens) h k
    rw [stRun]; simp only; split
    · split <;> exact mbS_ok ih
    · exact ih
theorem hdS_ok {p : List UInt8} {s : Int} (h : RdOk p s) : RdOk p (hdS p s).a := by
  unfold hdS; simp only; exact fbA_ok (fbA_ok (fbA_ok (fuA_ok (fuA_ok (fbA_ok h)))))
/-! How much is read. -/
theorem mbRun_sm {p : List UInt8} {s : Int} {lens : List Int} {n : Int} : ∀ k, ∀ b ∈ (mbRun p s lens n k).bs, b.2.length ≤ 64
  | 0, b, hb => by simp [mbRun] at hb
  | k + 1, b, hb => by
    have ih := mbRun_sm (p := p) (s := s) (lens := lens) (n := n) k
    rw [mbRun] at hb; simp only at hb
    split at hb
    · split at hb
      · simp at hb
        rcases hb with hb | hb
        · exact ih b hb
        · rw [hb]; exact blS_len _ _ _ _
      · simp at hb
    · exact ih b hb
theorem mbRun_le {p : List UInt8} {s : Int} {lens : List Int} {n : Int} : ∀ k, (mbRun p s lens n k).bs.length ≤ k
  | 0 => by simp [mbRun]
  | k + 1 => by
    have ih := mbRun_le (p := p) (s := s) (lens := lens) (n := n) k
    rw [mbRun]; simp only
    split
    · split
      · simp; exact ih
      · simp
    · omega
theorem mbS_sm {p : List UInt8} {s : Int} {lens : List Int} : (mbS p s lens).1.bs.length ≤ 4 ∧ ∀ b ∈ (mbS p s lens).1.bs, b.2.length ≤ 64 := by
  unfold mbS; split
  · refine ⟨Nat.le_trans (mbRun_le _) ?_, mbRun_sm _⟩
    cases decide (rbV p s 1 = 1) <;> decide
  · simp
theorem stRun_sm {p : List UInt8} {s : Int} {lens : List Int} : ∀ k, (stRun p s lens k).ms.length ≤ k ∧ ∀ m ∈ (stRun p s lens k).ms, m.2.length ≤ 4 ∧ ∀ b ∈ m.2, b.2.length ≤ 64
  | 0 => by simp [stRun]
  | k + 1 => by
    have ih := stRun_sm (p := p) (s := s) (lens := lens) k
    rw [stRun]; simp only
    split
    · split
      · simp only [List.length_append, List.length_singleton, List.mem_append, List.mem_singleton]
        refine ⟨by have := ih.1; omega, fun m hm => ?_⟩
        rcases hm with hm | hm
        · exact ih.2 m hm
        · rw [hm]; exact mbS_sm
      · simp
    · exact ⟨by have := ih.1; omega, ih.2⟩
theorem stRun_stop {p : List UInt8} {s : Int} {lens : List Int} {k : Nat} (h : (stRun p s lens k).c ≠ 0) : ∀ j, k ≤ j → stRun p s lens j = stRun p s lens k
  | 0, hj => by have : k = 0 := by omega
                subst this; rfl
  | j + 1, hj => by
    rcases Nat.lt_or_ge j k with h2 | h2
    · have : k = j + 1 := by omega
      subst this; rfl
    · have e := stRun_stop h j h2
      rw [stRun]; simp only; rw [e, if_neg h]
theorem stRun_len (p : List UInt8) (s : Int) (lens : List Int) : ∀ k, (stRun p s lens k).c = 0 → (stRun p s lens k).ms.length = k
  | 0, _ => rfl
  | k + 1, h => by
    have ih := stRun_len p s lens k
    rw [stRun] at h ⊢
    simp only at h ⊢
    split at h
    · rename_i hx
      rw [if_pos hx]
      split at h
      · rename_i hb; rw [if_pos hb]; simp [ih hx]
      · rename_i hb; exact absurd h hb
    · rename_i hx; exact absurd h hx

/-! Streams that are parsed. -/
structure PrS where
  W : Int
  H : Int
  Q : Int
  B : Bool
  D : Bool
  L : List Int
  ms : List Mbk
  a : Int
  c : Int
def prS (p : List UInt8) : PrS :=
  let x := hdS p 0
  if x.c = 0 then
    let y := stRun p x.a x.L (cntM x.W x.H).toNat
    if y.c = 0 then
      if endC p y.a = 0 then ⟨x.W, x.H, x.Q, x.B, x.D, x.L, y.ms, y.a, 0⟩ else ⟨0, 0, 0, false, false, [], [], y.a, endC p y.a⟩
    else ⟨0, 0, 0, false, false, [], [], y.a, y.c⟩
  else ⟨0, 0, 0, false, false, [], [], x.a, x.c⟩
theorem fuV_max {p : List UInt8} {s c : Int} : 0 ≤ fuV p s c hk2 ∧ fuV p s c hk2 ≤ 3 := by
  refine ⟨fuV_nn _ _ _ _, ?_⟩
  unfold fuV; split
  · rename_i h
    unfold fuC at h
    split at h
    · split at h
      · by_cases hlt : ueV p s ≤ 3
        · exact hlt
        · have h : ifE (ueV p s ≤ 3) 3 = 0 := h
          rw [ifE_no hlt] at h; exact absurd h (by decide)
      · rename_i hu; exact absurd h hu
    · rename_i hc; exact absurd h hc
  · omega
theorem hdS_sides {p : List UInt8} {s : Int} (h : (hdS p s).c = 0) : SidesOk (hdS p s).W (hdS p s).H := by
  have hw : 0 ≤ (hdS p s).w ∧ (hdS p s).w ≤ 3 := by unfold hdS; exact fuV_max
  have hh : 0 ≤ (hdS p s).h ∧ (hdS p s).h ≤ 3 := by unfold hdS; exact fuV_max
  rw [HdS.W, if_pos h, HdS.H, if_pos h]
  omega
end Go.Proofs.Ytgbahnaejajdgaa

/- Contracts: levels, blocks and macroblocks that are read by the specification. No condition. -/
namespace Go.Proofs.Ytgbahnaejajdgaa
open Go Go.Abs
set_option linter.unusedVariables false
set_option linter.unusedSimpArgs false
set_option maxRecDepth 100000
set_option maxHeartbeats 4000000
attribute [local irreducible] WpA WpL Rnd Blk Abs.Seq Abs.Fin Abs.FinG FnC FnG Only

theorem ueA_bad {p : List UInt8} {s : Int} (h : ueC p s ≠ 0) : ueA p s = s := by
  by_cases h15 : zrs p s ≤ 15
  · by_cases hok : RbOk p s (2 * (zrs p s : Int) + 1)
    · exact absurd (ue_yes h15 hok).2.1 h
    · exact (ue_short h15 hok).1
  · exact (ue_code (s := s) (p := p) h15).1
def pvC (p : List UInt8) (s room : Int) : Int := fuC p (fuA p s 0 (kR room)) (fuC p s 0 (kR room)) kL
def pvA (p : List UInt8) (s room : Int) : Int := fuA p (fuA p s 0 (kR room)) (fuC p s 0 (kR room)) kL
def pvR (p : List UInt8) (s room : Int) : Int := if pvC p s room = 0 then fuV p s 0 (kR room) else 0
def pvL (p : List UInt8) (s room : Int) : Int := if pvC p s room = 0 then lvOf (fuV p (fuA p s 0 (kR room)) (fuC p s 0 (kR room)) kL) else 0
theorem fu_bad {p : List UInt8} {s : Int} {k : Int → Int} (h : ueC p s ≠ 0) : fuC p s 0 k = ueC p s ∧ fuA p s 0 k = s := by
  have e : fuC p s 0 k = ueC p s := by rw [fuC, if_pos rfl, if_neg h]
  exact ⟨e, by rw [fuA, if_neg (by rw [e]; exact h)]⟩
theorem fu_chk {p : List UInt8} {s c : Int} {k : Int → Int} (h : ueC p s = 0) (hk : k (ueV p s) = c) (hc : c ≠ 0) : fuC p s 0 k = c ∧ fuA p s 0 k = s := by
  have e : fuC p s 0 k = c := by rw [fuC, if_pos rfl, if_pos h, hk]
  exact ⟨e, by rw [fuA, if_neg (by rw [e]; exact hc)]⟩
theorem fu_yes {p : List UInt8} {s : Int} {k : Int → Int} (h : ueC p s = 0) (hk : k (ueV p s) = 0) : fuC p s 0 k = 0 ∧ fuA p s 0 k = ueA p s ∧ fuV p s 0 k = ueV p s := by
  have e : fuC p s 0 k = 0 := by rw [fuC, if_pos rfl, if_pos h, hk]
  exact ⟨e, by rw [fuA, if_pos e], by rw [fuV, if_pos e]⟩
theorem fu_off {p : List UInt8} {s c : Int} {k : Int → Int} (h : c ≠ 0) : fuC p s c k = c ∧ fuA p s c k = s := by
  have e : fuC p s c k = c := by rw [fuC, if_neg h]
  exact ⟨e, by rw [fuA, if_neg (by rw [e]; exact h)]⟩
theorem pv_1 {p : List UInt8} {s room : Int} (h : ueC p s ≠ 0) : pvA p s room = s ∧ pvC p s room = ueC p s ∧ pvR p s room = 0 ∧ pvL p s room = 0 := by
  have e := fu_bad (k := kR room) h
  have e2 : pvC p s room = ueC p s := by rw [pvC, e.1, e.2, (fu_off h).1]
  exact ⟨by rw [pvA, e.1, e.2, (fu_off h).2], e2, by rw [pvR, if_neg (by rw [e2]; exact h)], by rw [pvL, if_neg (by rw [e2]; exact h)]⟩
theorem pv_2 {p : List UInt8} {s room : Int} (h : ueC p s = 0) (h2 : ¬ ueV p s < room) : pvA p s room = s ∧ pvC p s room = 5 ∧ pvR p s room = 0 ∧ pvL p s room = 0 := by
  have e := fu_chk (k := kR room) h (ifE_no h2) (by decide)
  have e2 : pvC p s room = 5 := by rw [pvC, e.1, e.2, (fu_off (by decide)).1]
  exact ⟨by rw [pvA, e.1, e.2, (fu_off (by decide)).2], e2, by rw [pvR, if_neg (by rw [e2]; decide)], by rw [pvL, if_neg (by rw [e2]; decide)]⟩
theorem pv_3 {p : List UInt8} {s room : Int} (h : ueC p s = 0) (h2 : ueV p s < room) (h3 : ueC p (ueA p s) ≠ 0) : pvA p s room = ueA p s ∧ pvC p s room = ueC p (ueA p s) ∧ pvR p s room = 0 ∧ pvL p s room = 0 := by
  have e := fu_yes (k := kR room) h (ifE_yes h2)
  have f := fu_bad (k := kL) h3
  have e2 : pvC p s room = ueC p (ueA p s) := by rw [pvC, e.1, e.2.1, f.1]
  exact ⟨by rw [pvA, e.1, e.2.1, f.2], e2, by rw [pvR, if_neg (by rw [e2]; exact h3)], by rw [pvL, if_neg (by rw [e2]; exact h3)]⟩
theorem pv_4 {p : List UInt8} {s room : Int} (h : ueC p s = 0) (h2 : ueV p s < room) (h3 : ueC p (ueA p s) = 0) (h4 : ¬ (-16383 ≤ lvOf (ueV p (ueA p s)) ∧ lvOf (ueV p (ueA p s)) ≤ 16383)) : pvA p s room = ueA p s ∧ pvC p s room = 5 ∧ pvR p s room = 0 ∧ pvL p s room = 0 := by
  have e := fu_yes (k := kR room) h (ifE_yes h2)
  have f := fu_chk (k := kL) h3 (ifE_no h4) (by decide)
  have e2 : pvC p s room = 5 := by rw [pvC, e.1, e.2.1, f.1]
  exact ⟨by rw [pvA, e.1, e.2.1, f.2], e2, by rw [pvR, if_neg (by rw [e2]; decide)], by rw [pvL, if_neg (by rw [e2]; decide)]⟩
theorem pv_5 {p : List UInt8} {s room : Int} (h : ueC p s = 0) (h2 : ueV p s < room) (h3 : ueC p (ueA p s) = 0) (h4 : -16383 ≤ lvOf (ueV p (ueA p s)) ∧ lvOf (ueV p (ueA p s)) ≤ 16383) : pvA p s room = ueA p (ueA p s) ∧ pvC p s room = 0 ∧ pvR p s room = ueV p s ∧ pvL p s room = lvOf (ueV p (ueA p s)) := by
  have e := fu_yes (k := kR room) h (ifE_yes h2)
  have f := fu_yes (k := kL) h3 (ifE_yes h4)
  have e2 : pvC p s room = 0 := by rw [pvC, e.1, e.2.1, f.1]
  exact ⟨by rw [pvA, e.1, e.2.1, f.2.1], e2, by rw [pvR, if_pos e2, e.2.2], by rw [pvL, if_pos e2, e.1, e.2.1, f.2.2]⟩
theorem lvStep_pv0 {p : List UInt8} {nn : Int} {x : LvS} (hc : x.c = 0) (h : pvC p x.a (nn - x.at_) = 0) : lvStep p nn x = ⟨pvA p x.a (nn - x.at_), 0, x.at_ + pvR p x.a (nn - x.at_) + 1, x.out.set (x.at_ + pvR p x.a (nn - x.at_)).toNat (pvL p x.a (nn - x.at_))⟩ := by
  have h' := h
  rw [pvC] at h'
  have e3 : pvR p x.a (nn - x.at_) = fuV p x.a 0 (kR (nn - x.at_)) := by rw [pvR, if_pos h]
  have e4 : pvL p x.a (nn - x.at_) = lvOf (fuV p (fuA p x.a 0 (kR (nn - x.at_))) (fuC p x.a 0 (kR (nn - x.at_))) kL) := by rw [pvL, if_pos h]
  rw [lvStep_yes hc, if_pos h', e3, e4, h']; rfl
theorem lvStep_pv1 {p : List UInt8} {nn : Int} {x : LvS} (hc : x.c = 0) (h : pvC p x.a (nn - x.at_) ≠ 0) : (lvStep p nn x).a = pvA p x.a (nn - x.at_) ∧ (lvStep p nn x).c = pvC p x.a (nn - x.at_) ∧ (lvStep p nn x).out = x.out := by
  have h' := h
  rw [pvC] at h'
  rw [lvStep_yes hc, if_neg h']; exact ⟨rfl, rfl, rfl⟩
theorem pvR_bd {p : List UInt8} {s room : Int} (h : pvC p s room = 0) : 0 ≤ pvR p s room ∧ pvR p s room < room := by
  have h1 : fuC p s 0 (kR room) = 0 := by
    by_cases h0 : fuC p s 0 (kR room) = 0
    · exact h0
    · rw [pvC, fuC_keep h0] at h; exact absurd h h0
  rw [pvR, if_pos h]
  refine ⟨fuV_nn _ _ _ _, ?_⟩
  have hu := ueV_nn p s
  rw [fuV, if_pos h1]
  rw [fuC, if_pos rfl] at h1
  split at h1
  · by_cases hlt : ueV p s < room
    · exact hlt
    · have h1 : ifE (ueV p s < room) 5 = 0 := h1
      rw [ifE_no hlt] at h1; cases h1
  · rename_i hh; exact absurd h1 hh
section
attribute [local irreducible] ueA ueV ueC pvC pvA pvR pvL lvOf
instance l23Pair_s : Con 116 (∀ (p : List UInt8) (s room : Int), p.length ≤ 1099511627776 → Fn 116 [RA p s, I room] [] (.tup [RA p (pvA p s room), .agg [I (pvR p s room), I (pvL p s room)], I (pvC p s room)])) := ⟨fun p s room hl => by
  have hb := ueV_bd p s
  have hb2 := ueV_bd p (ueA p s)
  refine FnC.of_body tabOk Try.func116 Try.ntmps116 rfl (by decide +kernel) (by simp) fun G => ?_
  by_cases h1 : ueC p s = 0
  rotate_left
  · obtain ⟨e1, e2, e3, e4⟩ := pv_1 (room := room) h1
    rw [e1, e2, e3, e4]
    refine go (r := ?_); and_intros <;> intros <;> try exact True.intro
    all_goals first | contradiction | trace_state
  by_cases h2 : ueV p s < room
  rotate_left
  · obtain ⟨e1, e2, e3, e4⟩ := pv_2 (room := room) h1 h2
    rw [e1, e2, e3, e4]
    refine go (r := ?_); and_intros <;> intros <;> try exact True.intro
    all_goals first | contradiction | omega | trace_state
  by_cases h3 : ueC p (ueA p s) = 0
  rotate_left
  · obtain ⟨e1, e2, e3, e4⟩ := pv_3 (room := room) h1 h2 h3
    rw [e1, e2, e3, e4]
    refine go (r := ?_); and_intros <;> intros <;> try exact True.intro
    all_goals first | contradiction | omega | trace_state
  by_cases h4 : -16383 ≤ lvOf (ueV p (ueA p s)) ∧ lvOf (ueV p (ueA p s)) ≤ 16383
  rotate_left
  · obtain ⟨e1, e2, e3, e4⟩ := pv_4 (room := room) h1 h2 h3 h4
    rw [e1, e2, e3, e4]
    refine go (r := ?_); and_intros <;> intros <;> try exact True.intro
    all_goals first | contradiction | omega | trace_state
  obtain ⟨e1, e2, e3, e4⟩ := pv_5 (room := room) h1 h2 h3 h4
  rw [e1, e2, e3, e4]
  refine go (r := ?_); and_intros <;> intros <;> try exact True.intro
  all_goals first | contradiction | omega | trace_state⟩
end
theorem lv_1 {p : List UInt8} {s n : Int} (h : ¬ RbOk p s 1) : lvS p s n = ⟨s, 1, 0, List.replicate (n * n).toNat 0⟩ := by
  have e1 : fbC p s 0 1 k0C = 1 := by rw [fbC, if_pos rfl, if_neg h]
  have e2 : fbA p s 0 1 k0C = s := by rw [fbA, if_neg (by rw [e1]; decide)]
  rw [lvS_no (by rw [fbV, if_neg (by rw [e1]; decide)]), e1, e2]
theorem k0_ok {p : List UInt8} {s : Int} (h : RbOk p s 1) : fbC p s 0 1 k0C = 0 ∧ fbA p s 0 1 k0C = rbA p s 1 ∧ fbV p s 0 1 k0C = rbV p s 1 := by
  have e1 : fbC p s 0 1 k0C = 0 := by rw [fbC, if_pos rfl, if_pos h]
  exact ⟨e1, by rw [fbA, if_pos ⟨rfl, e1⟩], by rw [fbV, if_pos e1]⟩
theorem lv_2 {p : List UInt8} {s n : Int} (h : RbOk p s 1) (hv : rbV p s 1 = 0) : lvS p s n = ⟨rbA p s 1, 0, 0, List.replicate (n * n).toNat 0⟩ := by
  obtain ⟨e1, e2, e3⟩ := k0_ok h
  rw [lvS_no (by rw [e3]; exact hv), e1, e2]
theorem lvRun_c {p : List UInt8} {nn : Int} {x : LvS} (h : x.c ≠ 0) (j : Nat) : lvRun p nn x j = x := lvRun_stop (k := 0) h j (Nat.zero_le _)
theorem lv_3 {p : List UInt8} {s n : Int} (h : RbOk p s 1) (hv : rbV p s 1 ≠ 0) (hu : ueC p (rbA p s 1) ≠ 0) : lvS p s n = ⟨rbA p s 1, ueC p (rbA p s 1), 0, List.replicate (n * n).toNat 0⟩ := by
  obtain ⟨e1, e2, e3⟩ := k0_ok h
  have f := fu_bad (k := kR (n * n)) hu
  rw [lvS_yes (by rw [e3]; exact hv), e1, e2, f.1, f.2, lvRun_c hu]
theorem lv_4 {p : List UInt8} {s n : Int} (h : RbOk p s 1) (hv : rbV p s 1 ≠ 0) (hu : ueC p (rbA p s 1) = 0) (h2 : ¬ ueV p (rbA p s 1) < n * n) : lvS p s n = ⟨rbA p s 1, 5, 0, List.replicate (n * n).toNat 0⟩ := by
  obtain ⟨e1, e2, e3⟩ := k0_ok h
  have f := fu_chk (k := kR (n * n)) hu (ifE_no h2) (by decide)
  rw [lvS_yes (by rw [e3]; exact hv), e1, e2, f.1, f.2, lvRun_c (show (5 : Int) ≠ 0 by decide)]
theorem lv_5 {p : List UInt8} {s n : Int} (h : RbOk p s 1) (hv : rbV p s 1 ≠ 0) (hu : ueC p (rbA p s 1) = 0) (h2 : ueV p (rbA p s 1) < n * n) : lvS p s n = lvRun p (n * n) ⟨ueA p (rbA p s 1), 0, 0, List.replicate (n * n).toNat 0⟩ (1 + ueV p (rbA p s 1)).toNat := by
  obtain ⟨e1, e2, e3⟩ := k0_ok h
  have f := fu_yes (k := kR (n * n)) hu (ifE_yes h2)
  rw [lvS_yes (by rw [e3]; exact hv), e1, e2, f.1, f.2.1, f.2.2]
section
attribute [local irreducible] rbA rbV ueA ueV ueC pvC pvA pvR pvL lvOf lvS lvRun
instance l23Levels_s : Con 48 (∀ (p : List UInt8) (s n : Int), p.length ≤ 1099511627776 ∧ (n = 4 ∨ n = 8) → Fn 48 [RA p s, I n] [XI (lvS p s n).out] (.tup [RA p (lvS p s n).a, .own 0 0 0 (lvS p s n).out.length, I (lvS p s n).c])) := ⟨fun p s n hl => by
  obtain ⟨hl, hn⟩ := hl
  have hnn : 16 ≤ n * n ∧ n * n ≤ 64 := by rcases hn with rfl | rfl <;> decide
  have hn2 := mul_in (a := n) (b := n) (by omega) (by omega)
  refine FnC.of_body tabOk Try.func48 Try.ntmps48 rfl (by decide +kernel) (by simp) fun G => ?_
  by_cases h1 : RbOk p s 1
  rotate_left
  · rw [lv_1 h1]
    refine go (r := ?_); and_intros <;> intros <;> try exact True.intro
    all_goals first | contradiction | trace_state
  by_cases h2 : rbV p s 1 = 0
  · rw [lv_2 h1 h2]
    refine go (r := ?_); and_intros <;> intros <;> try exact True.intro
    all_goals first | contradiction | trace_state
  have hb := ueV_bd p (rbA p s 1)
  have hb2 := ueV_nn p (rbA p s 1)
  by_cases h3 : ueC p (rbA p s 1) = 0
  rotate_left
  · rw [lv_3 h1 h2 h3]
    refine go (r := ?_); and_intros <;> intros <;> try exact True.intro
    all_goals first | contradiction | trace_state
  by_cases h4 : ueV p (rbA p s 1) < n * n
  rotate_left
  · rw [lv_4 h1 h2 h3 h4]
    refine go (r := ?_); and_intros <;> intros <;> try exact True.intro
    all_goals first | contradiction | omega | trace_state
  rw [lv_5 h1 h2 h3 h4]
  have hr0 := lvRun_at (p := p) (nn := n * n) (x := ⟨ueA p (rbA p s 1), 0, 0, List.replicate (n * n).toNat 0⟩) (show (0 : Int) ≤ 0 ∧ (0 : Int) ≤ n * n by omega)
  have hln := lvRun_len p (n * n) ⟨ueA p (rbA p s 1), 0, 0, List.replicate (n * n).toNat 0⟩
  have hst : ∀ k, lvRun p (n * n) ⟨ueA p (rbA p s 1), 0, 0, List.replicate (n * n).toNat 0⟩ (k + 1) = lvStep p (n * n) (lvRun p (n * n) ⟨ueA p (rbA p s 1), 0, 0, List.replicate (n * n).toNat 0⟩ k) := fun _ => by rw [lvRun]
  have hsp := fun k => lvRun_stop (p := p) (nn := n * n) (x := ⟨ueA p (rbA p s 1), 0, 0, List.replicate (n * n).toNat 0⟩) (k := k)
  have hz : lvRun p (n * n) ⟨ueA p (rbA p s 1), 0, 0, List.replicate (n * n).toNat 0⟩ 0 = ⟨ueA p (rbA p s 1), 0, 0, List.replicate (n * n).toNat 0⟩ := by rw [lvRun]
  generalize lvRun p (n * n) ⟨ueA p (rbA p s 1), 0, 0, List.replicate (n * n).toNat 0⟩ = X at hr0 hln hst hsp hz ⊢
  have hz2 : (X (1 + ueV p (rbA p s 1)).toNat).out.length = (n * n).toNat := by rw [hln]; simp
  refine go (r := ?_); and_intros <;> intros <;> try exact True.intro
  all_goals first | contradiction | omega | skip
  generalize ueV p (rbA p s 1) = u at hb hb2 h4 hz2 ⊢
  refine WpA.loop (fun k : Nat => ⟨[(1, I n), (4, .ptr 1 0 0), (7, .own 2 0 0 (n * n).toNat), (11, .ptr 4 0 0), (12, I u), (14, I (X k).at_), (15, I k)], [BoxR p s, R0, XI (X k).out, ⟨[Z p, I (rbA p s 1)], 0, 0, none⟩, ⟨[Z p, I (X k).a], 0, 0, none⟩]⟩) (fun k => (k : Int) ≤ 1 + u ∧ (X k).c = 0) (fun k => (1 + u).toNat - k) 0 (by rw [hz]; exact ⟨by omega, rfl⟩) (go (r := ?_)) (fun k hk => ?_)
  · rw [hz]; and_intros <;> first | exact True.intro | rfl | trace_state
  have hr0 := hr0 k
  have hln := hln k
  have hst := hst k
  have hsp1 := fun h => hsp (k + 1) h (1 + u).toNat
  have hfin : ¬ (k : Int) ≤ u → X (1 + u).toNat = X k := fun h => by rw [show (1 + u).toNat = k by omega]
  generalize hy : X k = y at hr0 hln hst hsp1 hk hfin ⊢
  have hln : y.out.length = (n * n).toNat := by simpa using hln
  have hrm := pvR_bd (p := p) (s := y.a) (room := n * n - y.at_)
  by_cases hp : pvC p y.a (n * n - y.at_) = 0
  · have hrm := hrm hp
    rw [lvStep_pv0 hk.2 hp] at hst
    clear hsp1
    refine go (r := ?_); and_intros <;> intros <;> try exact True.intro
    all_goals first | contradiction | (rw [hst]; done) | (rw [hfin (by assumption)]; first | done | exact hk.2.symm) | trace_state
  · have e := lvStep_pv1 (p := p) (nn := n * n) hk.2 hp
    rw [← hst] at e
    have hNk := hsp1 (by rw [e.2.1]; exact hp)
    clear hst hrm
    refine go (r := ?_); and_intros <;> intros <;> try exact True.intro
    all_goals first | contradiction | (rw [hfin (by assumption)]; first | done | exact hk.2.symm) | (rw [hNk (by omega)]; first | exact e.1.symm | exact e.2.1.symm | exact e.1 | exact e.2.1 | rw [e.1] | rw [e.2.1] | rw [e.2.2]) | trace_state⟩
end
section
attribute [local irreducible] lvS smA smV smC blS
instance ReadBlock_s : Con 139 (∀ (p : List UInt8) (s : Int) (lens : List Int) (n : Int), p.length ≤ 1099511627776 ∧ lens.length ≤ 1099511627776 → Fn 139 [RA p s, IL lens, I n] [XI (blS p s lens n).l] (.tup [RA p (blS p s lens n).a, BkV (blS p s lens n).m (blS p s lens n).l, I (blS p s lens n).c])) := ⟨fun p s lens n hl => by
  refine FnC.of_body tabOk Try.func139 Try.ntmps139 rfl (by decide +kernel) (by simp) fun G => ?_
  by_cases hn : n = 4 ∨ n = 8
  rotate_left
  · rw [blS_4 hn]
    refine go (r := ?_); and_intros <;> intros <;> try exact True.intro
    all_goals first | contradiction | trace_state
  by_cases hs : smC p s lens = 0
  rotate_left
  · rw [blS_3 hn hs]
    have ea := smA_bad hs
    refine go (r := ?_); and_intros <;> intros <;> try exact True.intro
    all_goals first | contradiction | trace_state
  by_cases hy : (lvS p (smA p s lens) n).c = 0
  · rw [blS_1 hn hs hy]
    refine go (r := ?_); and_intros <;> intros <;> try exact True.intro
    all_goals first | contradiction | trace_state
  · rw [blS_2 hn hs hy]
    refine go (r := ?_); and_intros <;> intros <;> try exact True.intro
    all_goals first | contradiction | trace_state⟩
end
section
attribute [local irreducible] rbA rbV blS mbS mbRun sz8 nm8
instance ReadMb_s : Con 70 (∀ (p : List UInt8) (s : Int) (lens : List Int), p.length ≤ 1099511627776 ∧ lens.length ≤ 1099511627776 → Fn 70 [RA p s, IL lens] [BkO (mbS p s lens).1.bs] (.tup [RA p (mbS p s lens).1.a, MbV (mbS p s lens).2 (mbS p s lens).1.bs.length, I (mbS p s lens).1.c])) := ⟨fun p s lens hl => by
  refine FnC.of_body tabOk Try.func70 Try.ntmps70 rfl (by decide +kernel) (by simp) fun G => ?_
  by_cases ho : RbOk p s 1
  rotate_left
  · rw [mbS_no ho]
    refine go (r := ?_); and_intros <;> intros <;> try exact True.intro
    all_goals first | contradiction | trace_state
  have ea := (rb_yes ho).1
  generalize hE : decide (rbV p s 1 = 1) = E
  rw [mbS_yes ho hE]
  have hc8 := sz8_cases E
  have hnn : sz8 E * sz8 E = 16 ∨ sz8 E * sz8 E = 64 := by rcases hc8 with ⟨h, _⟩ | ⟨h, _⟩ <;> rw [h] <;> decide
  have hq : 64 / (sz8 E * sz8 E) = nm8 E := by rcases hc8 with ⟨h, h2⟩ | ⟨h, h2⟩ <;> rw [h, h2] <;> decide
  refine go (r := ?_); and_intros <;> intros <;> try exact True.intro
  all_goals first | contradiction | skip
  rw [hE, ea]
  have hz : (mbRun p (s + 1) lens (sz8 E) 0) = ⟨s + 1, 0, []⟩ := by rw [mbRun]
  have hln := fun k h => mbRun_len p (s + 1) lens (sz8 E) k h
  have hnx := fun k h hb => mbRun_next (p := p) (s := s + 1) (lens := lens) (n := sz8 E) (k := k) h hb
  have hbd := fun k h hb j hj => mbRun_bad (p := p) (s := s + 1) (lens := lens) (n := sz8 E) (k := k) h hb j hj
  generalize mbRun p (s + 1) lens (sz8 E) = X at hz hln hnx hbd ⊢
  refine WpA.loop (fun k : Nat => ⟨[(1, IL lens), (4, .ptr 1 0 0), (5, .ptr 2 0 0), (7, .ptr 3 0 0), (10, .ptr 4 0 0), (11, I (sz8 E)), (12, I k)], [BoxR p s, R0, ⟨[B false, .nilS], 0, 0, none⟩, ⟨[Z p, I (X k).a], 0, 0, none⟩, ⟨[B E, .own 5 0 0 k], 0, 0, none⟩, BkO (X k).bs]⟩) (fun k => (k : Int) ≤ nm8 E ∧ (X k).c = 0) (fun k => (nm8 E).toNat - k) 0 (by rw [hz]; exact ⟨by omega, rfl⟩) ?_ (fun k hk => ?_)
  · rw [hz]; exact Weak.nil1 (by first | (show 0 ≤ _; exact Nat.zero_le _) | (repeat' (first | exact RzT.nil | refine RzT.cons ?_ ?_ | exact Rz.nil | refine Rz.keep rfl rfl ?_ | refine Rz.own rfl rfl rfl rfl rfl (by first | rfl | omega | (simp; done)) ?_ | refine Rz.ptr rfl rfl rfl rfl ?_ | refine Rz.nilO rfl rfl rfl (by first | rfl | omega | (simp; done)) ?_ | refine Rz.agg ?_ ?_ | exact RzO.last rfl | (refine RzO.cons ?_ (.inr rfl) ?_) | exact Rz.same rfl (still_ints _) | exact Rz.same rfl (still_rows (fun _ => rfl) _)))) (by first | (show 0 ≤ _; exact Nat.zero_le _) | (repeat' (first | exact RzT.nil | refine RzT.cons ?_ ?_ | exact Rz.nil | refine Rz.keep rfl rfl ?_ | refine Rz.own rfl rfl rfl rfl rfl (by first | rfl | omega | (simp; done)) ?_ | refine Rz.ptr rfl rfl rfl rfl ?_ | refine Rz.nilO rfl rfl rfl (by first | rfl | omega | (simp; done)) ?_ | refine Rz.agg ?_ ?_ | exact RzO.last rfl | (refine RzO.cons ?_ (.inr rfl) ?_) | exact Rz.same rfl (still_ints _) | exact Rz.same rfl (still_rows (fun _ => rfl) _)))) (Nat.zero_le _)
  have hln := hln k hk.2
  have hnx := hnx k hk.2
  have hbd := hbd k hk.2
  have hfin : ¬ (k : Int) < nm8 E → X (nm8 E).toNat = X k := fun h => by rw [show (nm8 E).toNat = k by omega]
  generalize hy : X k = y at hk hln hnx hbd hfin ⊢
  have hln : y.bs.length = k := hln
  by_cases hb : (blS p y.a lens (sz8 E)).c = 0
  · have hnx := hnx hb
    clear hbd
    refine go (r := ?_); and_intros <;> intros <;> try exact True.intro
    all_goals rw [hq] at *
    all_goals first | contradiction | omega | (rw [hnx]; done) | (rw [hfin (by assumption)]; first | done | omega | (simp [hk.2]; done) | (simp only; omega)) | trace_state
  · have hbd := hbd hb
    clear hnx
    refine go (r := ?_); and_intros <;> intros <;> try exact True.intro
    all_goals rw [hq] at *
    all_goals first | contradiction | omega | (rw [hbd _ (by omega)]; first | done | (simp [hb]; done)) | (rw [hfin (by assumption)]; first | done | omega | (simp [hk.2]; done) | (simp only; omega)) | trace_state⟩
end
end Go.Proofs.Ytgbahnaejajdgaa

/- Contracts: headers that are read by the specification. No condition. -/
namespace Go.Proofs.Ytgbahnaejajdgaa
open Go Go.Abs
set_option linter.unusedVariables false
set_option linter.unusedSimpArgs false
set_option maxRecDepth 100000
set_option maxHeartbeats 4000000
attribute [local irreducible] WpA WpL Rnd Blk Abs.Seq Abs.Fin Abs.FinG FnC FnG Only

theorem ueA_bad {p : List UInt8} {s : Int} (h : ueC p s ≠ 0) : ueA p s = s := by
  by_cases h15 : zrs p s ≤ 15
  · by_cases hok : RbOk p s (2 * (zrs p s : Int) + 1)
    · exact absurd (ue_yes h15 hok).2.1 h
    · exact (ue_short h15 hok).1
  · exact (ue_code (s := s) (p := p) h15).1
theorem L_bad {x : HdS} (h : x.c ≠ 0) : x.L = [] := if_neg h
theorem HdV_bad {x : HdS} (h : x.c ≠ 0) : HdV x = .agg [I 0, I 0, I 0, B false, B false, .own 0 0 0 0] := by
  have eV : HdV x = .agg [I x.W, I x.H, I x.Q, B x.B, B x.D, .own 0 0 0 x.L.length] := rfl
  rw [eV, L_bad h, show x.W = 0 from if_neg h, show x.H = 0 from if_neg h, show x.Q = 0 from if_neg h, show x.B = false by unfold HdS.B; simp [h], show x.D = false by unfold HdS.D; simp [h]]; rfl
theorem fuC_k {p : List UInt8} {s c : Int} {k : Int → Int} (h : c ≠ 0) : fuC p s c k = c := by rw [fuC, if_neg h]
theorem fuA_k {p : List UInt8} {s c : Int} {k : Int → Int} (h : c ≠ 0) : fuA p s c k = s := by rw [fuA, if_neg (by rw [fuC_k h]; exact h)]
theorem fbC_k {p : List UInt8} {s c n : Int} {k : Int → Int} (h : c ≠ 0) : fbC p s c n k = c := by rw [fbC, if_neg h]
theorem fbA_k {p : List UInt8} {s c n : Int} {k : Int → Int} (h : c ≠ 0) : fbA p s c n k = s := by rw [fbA, if_neg (fun hh => h hh.1)]
theorem fbA_b {p : List UInt8} {s n : Int} {k : Int → Int} (h : fbC p s 0 n k ≠ 0) : fbA p s 0 n k = s := by rw [fbA, if_neg (fun hh => h hh.2)]
theorem fuA_b {p : List UInt8} {s : Int} {k : Int → Int} (h : fuC p s 0 k ≠ 0) : fuA p s 0 k = s := by rw [fuA, if_neg h]
/-! Where a header fails. -/
theorem hd_f1 {p : List UInt8} {s : Int} (h : fbC p s 0 8 hk1 ≠ 0) : (hdS p s).a = s ∧ (hdS p s).c = fbC p s 0 8 hk1 := by
  constructor
  · simp only [hdS, fuA_k h, fuC_k h, fbA_k h, fbC_k h]; exact fbA_b h
  · simp only [hdS, fuA_k h, fuC_k h, fbA_k h, fbC_k h]
theorem hd_f2 {p : List UInt8} {s A1 : Int} (h1 : fbC p s 0 8 hk1 = 0) (e1 : fbA p s 0 8 hk1 = A1) (h : fuC p A1 0 hk2 ≠ 0) : (hdS p s).a = A1 ∧ (hdS p s).c = fuC p A1 0 hk2 := by
  constructor
  · simp only [hdS, h1, e1, fuA_k h, fuC_k h, fbA_k h, fbC_k h]; exact fuA_b h
  · simp only [hdS, h1, e1, fuA_k h, fuC_k h, fbA_k h, fbC_k h]
theorem hd_f3 {p : List UInt8} {s A1 A2 : Int} (h1 : fbC p s 0 8 hk1 = 0) (e1 : fbA p s 0 8 hk1 = A1) (h2 : fuC p A1 0 hk2 = 0) (e2 : fuA p A1 0 hk2 = A2) (h : fuC p A2 0 hk2 ≠ 0) : (hdS p s).a = A2 ∧ (hdS p s).c = fuC p A2 0 hk2 := by
  constructor
  · simp only [hdS, h1, e1, h2, e2, fuA_k h, fuC_k h, fbA_k h, fbC_k h]; exact fuA_b h
  · simp only [hdS, h1, e1, h2, e2, fuA_k h, fuC_k h, fbA_k h, fbC_k h]
theorem hd_f4 {p : List UInt8} {s A1 A2 A3 : Int} (h1 : fbC p s 0 8 hk1 = 0) (e1 : fbA p s 0 8 hk1 = A1) (h2 : fuC p A1 0 hk2 = 0) (e2 : fuA p A1 0 hk2 = A2) (h3 : fuC p A2 0 hk2 = 0) (e3 : fuA p A2 0 hk2 = A3) (h : fbC p A3 0 6 hk3 ≠ 0) : (hdS p s).a = A3 ∧ (hdS p s).c = fbC p A3 0 6 hk3 := by
  constructor
  · simp only [hdS, h1, e1, h2, e2, h3, e3, fuA_k h, fuC_k h, fbA_k h, fbC_k h]; exact fbA_b h
  · simp only [hdS, h1, e1, h2, e2, h3, e3, fuA_k h, fuC_k h, fbA_k h, fbC_k h]
theorem hd_f5 {p : List UInt8} {s A1 A2 A3 A4 : Int} (h1 : fbC p s 0 8 hk1 = 0) (e1 : fbA p s 0 8 hk1 = A1) (h2 : fuC p A1 0 hk2 = 0) (e2 : fuA p A1 0 hk2 = A2) (h3 : fuC p A2 0 hk2 = 0) (e3 : fuA p A2 0 hk2 = A3) (h4 : fbC p A3 0 6 hk3 = 0) (e4 : fbA p A3 0 6 hk3 = A4) (h : fbC p A4 0 2 hk4 ≠ 0) : (hdS p s).a = A4 ∧ (hdS p s).c = fbC p A4 0 2 hk4 := by
  constructor
  · simp only [hdS, h1, e1, h2, e2, h3, e3, h4, e4, fuA_k h, fuC_k h, fbA_k h, fbC_k h]; exact fbA_b h
  · simp only [hdS, h1, e1, h2, e2, h3, e3, h4, e4, fuA_k h, fuC_k h, fbA_k h, fbC_k h]
theorem hd_f6 {p : List UInt8} {s A1 A2 A3 A4 A5 : Int} (h1 : fbC p s 0 8 hk1 = 0) (e1 : fbA p s 0 8 hk1 = A1) (h2 : fuC p A1 0 hk2 = 0) (e2 : fuA p A1 0 hk2 = A2) (h3 : fuC p A2 0 hk2 = 0) (e3 : fuA p A2 0 hk2 = A3) (h4 : fbC p A3 0 6 hk3 = 0) (e4 : fbA p A3 0 6 hk3 = A4) (h5 : fbC p A4 0 2 hk4 = 0) (e5 : fbA p A4 0 2 hk4 = A5) :
    hdS p s = ⟨fbA p A5 0 18 hk5, fbC p A5 0 18 hk5, fuV p A1 0 hk2, fuV p A2 0 hk2, fbV p A3 0 6 hk3, fbV p A4 0 2 hk4, fbV p A5 0 18 hk5⟩ := by
  simp only [hdS, h1, e1, h2, e2, h3, e3, h4, e4, h5, e5]
def sdV (p : List UInt8) (s : Int) : Int := if ueC p s = 0 ∧ ueV p s > 3 then 0 else 8 * ueV p s + 8
instance l22Side_s : Con 172 (∀ (p : List UInt8) (s : Int), p.length ≤ 1099511627776 → Fn 172 [RA p s] [] (.tup [RA p (fuA p s 0 hk2), I (sdV p s), I (fuC p s 0 hk2)])) := ⟨fun p s hl => by
  have hb := ueV_bd p s
  refine FnC.of_body tabOk Try.func172 Try.ntmps172 rfl (by decide +kernel) (by simp) fun G => ?_
  by_cases hc : ueC p s = 0
  · by_cases hv : ueV p s ≤ 3
    · have e1 : fuC p s 0 hk2 = 0 := by rw [fuC, if_pos rfl, if_pos hc]; exact ifE_yes hv
      have e2 : fuA p s 0 hk2 = ueA p s := by rw [fuA, if_pos e1]
      have e3 : sdV p s = 8 * ueV p s + 8 := by rw [sdV, if_neg (by omega)]
      rw [e1, e2, e3]
      refine go (r := ?_); and_intros <;> intros <;> try exact True.intro
      all_goals first | (exact absurd hc (by assumption)) | omega | trace_state
    · have e1 : fuC p s 0 hk2 = 3 := by rw [fuC, if_pos rfl, if_pos hc]; exact ifE_no hv
      have e2 : fuA p s 0 hk2 = s := by rw [fuA, if_neg (by omega)]
      have e3 : sdV p s = 0 := by rw [sdV, if_pos (by omega)]
      rw [e1, e2, e3]
      refine go (r := ?_); and_intros <;> intros <;> try exact True.intro
      all_goals first | (exact absurd hc (by assumption)) | omega | trace_state
  · have e1 : fuC p s 0 hk2 = ueC p s := by rw [fuC, if_pos rfl, if_neg hc]
    have e2 : fuA p s 0 hk2 = ueA p s := by rw [fuA, if_neg (by omega), ueA_bad hc]
    have e3 : sdV p s = 8 * ueV p s + 8 := by rw [sdV, if_neg (by omega)]
    rw [e1, e2, e3]
    refine go (r := ?_); and_intros <;> intros <;> try exact True.intro
    all_goals first | (exact absurd (by assumption) hc) | omega | trace_state⟩
def lnL (p : List UInt8) (s : Int) : List Int := if RbOk p s 18 then lensV (rbV p s 18) else []
instance l22Lens_s : Con 173 (∀ (p : List UInt8) (s : Int), p.length ≤ 1099511627776 → Fn 173 [RA p s] [XI (lnL p s)] (.tup [RA p (fbA p s 0 18 hk5), .own 0 0 0 (lnL p s).length, I (fbC p s 0 18 hk5)])) := ⟨fun p s hl => by
  have hb := rbV_bd p s 18
  refine FnC.of_body tabOk Try.func173 Try.ntmps173 rfl (by decide +kernel) (by simp) fun G => ?_
  by_cases hok : RbOk p s 18
  · have eL : lnL p s = lensV (rbV p s 18) := if_pos hok
    have e1 : fbC p s 0 18 hk5 = ifE (CodeOk (lensV (rbV p s 18))) 4 := by rw [fbC, if_pos rfl, if_pos hok]
    have e2 : fbA p s 0 18 hk5 = if CodeOk (lensV (rbV p s 18)) then rbA p s 18 else s := by
      rw [fbA, e1]
      by_cases h : CodeOk (lensV (rbV p s 18))
      · rw [if_pos ⟨rfl, ifE_yes h⟩, if_pos h]
      · rw [if_neg (by rw [ifE_no h]; decide), if_neg h]
    rw [eL, e1, e2]
    refine go (r := ?_); and_intros <;> intros <;> try exact True.intro
    refine WpA.loop (fun k : Nat => ⟨[(1, .ptr 0 0 0), (2, .ptr 1 0 0), (5, .own 2 0 0 k), (6, .ptr 3 0 0), (7, I (rbV p s 18)), (9, I (5 - (k : Int)))], [⟨[Z p, I s], 0, 0, none⟩, ⟨[Z [], I 0], 0, 0, none⟩, XI (lensK (rbV p s 18) k), ⟨[Z p, I (rbA p s 18)], 0, 0, none⟩]⟩) (fun k => k ≤ 6) (fun k => 6 - k) 0 (by omega) (go (r := ?_)) (fun k hk => ?_)
    · simp [lensK]
    have hkl := lensK_len (rbV p s 18) k
    have hks := lensK_succ (rbV p s 18) k
    have hd0 := Int.ediv_nonneg (a := rbV p s 18) (b := 2 ^ (3 * (5 - (k : Int))).toNat) hb.1 (Int.pow_nonneg (by decide))
    have hd1 := Int.ediv_le_self (a := rbV p s 18) (2 ^ (3 * (5 - (k : Int))).toNat) hb.1
    have hla : lenAt (rbV p s 18) (5 - k) = rbV p s 18 / 2 ^ (3 * (5 - k)) % 8 := rfl
    refine go (r := ?_); and_intros <;> intros <;> try exact True.intro
    all_goals first | ((have ek : k = 6 := by omega); subst ek; exact lensK_6 _) | (rw [hks, and7 _ ⟨hd0, by omega⟩, hla, show (3 * (5 - (k : Int))).toNat = 3 * (5 - k) by omega]; done) | ((have ek : k = 6 := by omega); subst ek; rw [lensK_6] at *; first | rfl | (simp_all [ifE]; done)) | trace_state
  · have eL : lnL p s = [] := if_neg hok
    have e1 : fbC p s 0 18 hk5 = 1 := by rw [fbC, if_pos rfl, if_neg hok]
    have e2 : fbA p s 0 18 hk5 = s := by rw [fbA, if_neg (by rw [e1]; decide)]
    rw [eL, e1, e2]
    refine go (r := ?_); and_intros <;> intros <;> try exact True.intro
    all_goals first | (exact absurd (by assumption) hok) | trace_state⟩
theorem fb_yes {p : List UInt8} {s n : Int} {k : Int → Int} (h : RbOk p s n) (hv : k (rbV p s n) = 0) : fbC p s 0 n k = 0 ∧ fbA p s 0 n k = rbA p s n ∧ fbV p s 0 n k = rbV p s n := by
  have e : fbC p s 0 n k = 0 := by rw [fbC, if_pos rfl, if_pos h, hv]
  exact ⟨e, by rw [fbA, if_pos ⟨rfl, e⟩], by rw [fbV, if_pos e]⟩
theorem fb_no1 {p : List UInt8} {s n : Int} {k : Int → Int} (h : ¬ RbOk p s n) : fbC p s 0 n k = 1 := by rw [fbC, if_pos rfl, if_neg h]
theorem fb_no2 {p : List UInt8} {s n : Int} {k : Int → Int} (h : RbOk p s n) {c : Int} (hv : k (rbV p s n) = c) : fbC p s 0 n k = c := by rw [fbC, if_pos rfl, if_pos h, hv]
theorem sdV_ok {p : List UInt8} {s : Int} (h : fuC p s 0 hk2 = 0) : sdV p s = 8 * (fuV p s 0 hk2 + 1) := by
  have hu : ueC p s = 0 := by
    by_cases hu : ueC p s = 0
    · exact hu
    · rw [fuC, if_pos rfl, if_neg hu] at h; exact h
  have hv : ueV p s ≤ 3 := by
    by_cases hv : ueV p s ≤ 3
    · exact hv
    · rw [fuC, if_pos rfl, if_pos hu] at h
      have h : ifE (ueV p s ≤ 3) 3 = 0 := h
      rw [ifE_no hv] at h; exact absurd h (by decide)
  rw [fuV, if_pos h, sdV, if_neg (by omega)]; omega
attribute [local irreducible] rbA rbV ueA ueV ueC fuA fuC fuV fbA fbC fbV sdV lnL zrs numB lft hdS lensV
theorem WpA.hide {P : Program} {n m : Nat} {G : Ctx} {c : Code} {σ : St} {Q : Exit → St → Prop} (h : ∀ Q', Q' = Q → WpA P n m G c σ Q') : WpA P n m G c σ Q := h Q rfl
theorem bad_all {x : HdS} (h : x.c ≠ 0) : x.W = 0 ∧ x.H = 0 ∧ x.Q = 0 ∧ x.B = false ∧ x.D = false ∧ x.L = [] :=
  ⟨if_neg h, if_neg h, if_neg h, by unfold HdS.B; simp [h], by unfold HdS.D; simp [h], if_neg h⟩
instance ReadHeader_s : Con 130 (∀ (p : List UInt8) (s : Int), p.length ≤ 1099511627776 → Fn 130 [RA p s] [XI (hdS p s).L] (.tup [RA p (hdS p s).a, HdV (hdS p s), I (hdS p s).c])) := ⟨fun p s hl => by
  have eV : ∀ y : HdS, HdV y = .agg [I y.W, I y.H, I y.Q, B y.B, B y.D, .own 0 0 0 y.L.length] := fun _ => rfl
  rw [eV]
  have b5 := rbV_bd p (rbA p (fuA p (fuA p (rbA p s 8) 0 hk2) 0 hk2) 6) 2
  generalize hx : hdS p s = x
  refine FnC.of_body tabOk Try.func130 Try.ntmps130 rfl (by decide +kernel) (by simp) fun G => ?_
  refine WpA.hide fun Q' hQ' => ?_
  refine go (r := ?_); and_intros <;> intros <;> try exact True.intro
  · rename_i o1
    have f := fb_no1 (k := hk1) o1
    have e : x.a = s ∧ x.c = 1 := by have := hd_f1 (p := p) (s := s) (by rw [f]; decide); rw [f, hx] at this; exact this
    have hc0 : x.c ≠ 0 := by rw [e.2]; first | decide | assumption
    obtain ⟨q1, q2, q3, q4, q5, q6⟩ := bad_all hc0
    subst hQ'
    rw [q1, q2, q3, q4, q5, q6, e.1, e.2]
    refine go (r := ?_); and_intros <;> intros <;> try exact True.intro
    all_goals first | rfl | exact fuA_b (by assumption) | trace_state
  · rename_i o1 v1
    have f := fb_no2 (k := hk1) o1 (c := 2) (ifE_no v1)
    have e : x.a = s ∧ x.c = 2 := by have := hd_f1 (p := p) (s := s) (by rw [f]; decide); rw [f, hx] at this; exact this
    have hc0 : x.c ≠ 0 := by rw [e.2]; first | decide | assumption
    obtain ⟨q1, q2, q3, q4, q5, q6⟩ := bad_all hc0
    subst hQ'
    rw [q1, q2, q3, q4, q5, q6, e.1, e.2]
    refine go (r := ?_); and_intros <;> intros <;> try exact True.intro
    all_goals first | rfl | exact fuA_b (by assumption) | trace_state
  · rename_i o1 v1 c2
    obtain ⟨c1, e1, -⟩ := fb_yes (k := hk1) o1 (ifE_yes v1)
    have e : x.a = rbA p s 8 ∧ x.c = fuC p (rbA p s 8) 0 hk2 := by have := hd_f2 c1 e1 c2; rw [hx] at this; exact this
    have hc0 : x.c ≠ 0 := by rw [e.2]; first | decide | assumption
    obtain ⟨q1, q2, q3, q4, q5, q6⟩ := bad_all hc0
    subst hQ'
    rw [q1, q2, q3, q4, q5, q6, e.1, e.2]
    refine go (r := ?_); and_intros <;> intros <;> try exact True.intro
    all_goals first | rfl | exact fuA_b (by assumption) | trace_state
  · rename_i o1 v1 c2 c3
    obtain ⟨c1, e1, -⟩ := fb_yes (k := hk1) o1 (ifE_yes v1)
    have e : x.a = (fuA p (rbA p s 8) 0 hk2) ∧ x.c = fuC p (fuA p (rbA p s 8) 0 hk2) 0 hk2 := by have := hd_f3 c1 e1 c2 rfl c3; rw [hx] at this; exact this
    have hc0 : x.c ≠ 0 := by rw [e.2]; first | decide | assumption
    obtain ⟨q1, q2, q3, q4, q5, q6⟩ := bad_all hc0
    subst hQ'
    rw [q1, q2, q3, q4, q5, q6, e.1, e.2]
    refine go (r := ?_); and_intros <;> intros <;> try exact True.intro
    all_goals first | rfl | exact fuA_b (by assumption) | trace_state
  · rename_i o1 v1 c2 c3 o4
    obtain ⟨c1, e1, -⟩ := fb_yes (k := hk1) o1 (ifE_yes v1)
    have f := fb_no1 (k := hk3) o4
    have e : x.a = (fuA p (fuA p (rbA p s 8) 0 hk2) 0 hk2) ∧ x.c = 1 := by have := hd_f4 c1 e1 c2 rfl c3 rfl (by rw [f]; decide); rw [f, hx] at this; exact this
    have hc0 : x.c ≠ 0 := by rw [e.2]; first | decide | assumption
    obtain ⟨q1, q2, q3, q4, q5, q6⟩ := bad_all hc0
    subst hQ'
    rw [q1, q2, q3, q4, q5, q6, e.1, e.2]
    refine go (r := ?_); and_intros <;> intros <;> try exact True.intro
    all_goals first | rfl | exact fuA_b (by assumption) | trace_state
  · rename_i o1 v1 c2 c3 o4 v4
    obtain ⟨c1, e1, -⟩ := fb_yes (k := hk1) o1 (ifE_yes v1)
    have f := fb_no2 (k := hk3) o4 (c := 3) (ifE_no (by omega))
    have e : x.a = (fuA p (fuA p (rbA p s 8) 0 hk2) 0 hk2) ∧ x.c = 3 := by have := hd_f4 c1 e1 c2 rfl c3 rfl (by rw [f]; decide); rw [f, hx] at this; exact this
    have hc0 : x.c ≠ 0 := by rw [e.2]; first | decide | assumption
    obtain ⟨q1, q2, q3, q4, q5, q6⟩ := bad_all hc0
    subst hQ'
    rw [q1, q2, q3, q4, q5, q6, e.1, e.2]
    refine go (r := ?_); and_intros <;> intros <;> try exact True.intro
    all_goals first | rfl | exact fuA_b (by assumption) | trace_state
  · rename_i o1 v1 c2 c3 o4 v4 o5
    obtain ⟨c1, e1, -⟩ := fb_yes (k := hk1) o1 (ifE_yes v1)
    obtain ⟨c4, e4, g4⟩ := fb_yes (k := hk3) o4 (ifE_yes (by omega))
    have f := fb_no1 (k := hk4) o5
    have e : x.a = (rbA p (fuA p (fuA p (rbA p s 8) 0 hk2) 0 hk2) 6) ∧ x.c = 1 := by have := hd_f5 c1 e1 c2 rfl c3 rfl c4 e4 (by rw [f]; decide); rw [f, hx] at this; exact this
    have hc0 : x.c ≠ 0 := by rw [e.2]; first | decide | assumption
    obtain ⟨q1, q2, q3, q4, q5, q6⟩ := bad_all hc0
    subst hQ'
    rw [q1, q2, q3, q4, q5, q6, e.1, e.2]
    refine go (r := ?_); and_intros <;> intros <;> try exact True.intro
    all_goals first | rfl | exact fuA_b (by assumption) | trace_state
  · rename_i o1 v1 c2 c3 o4 v4 o5 c6
    obtain ⟨c1, e1, -⟩ := fb_yes (k := hk1) o1 (ifE_yes v1)
    obtain ⟨c4, e4, g4⟩ := fb_yes (k := hk3) o4 (ifE_yes (by omega))
    obtain ⟨c5, e5, g5⟩ := fb_yes (k := hk4) o5 (show hk4 (rbV p (rbA p (fuA p (fuA p (rbA p s 8) 0 hk2) 0 hk2) 6) 2) = 0 from rfl)
    have hS := hd_f6 c1 e1 c2 rfl c3 rfl c4 e4 c5 e5
    rw [g4, g5, hx] at hS
    have e : x.a = fbA p (rbA p (rbA p (fuA p (fuA p (rbA p s 8) 0 hk2) 0 hk2) 6) 2) 0 18 hk5 ∧ x.c = fbC p (rbA p (rbA p (fuA p (fuA p (rbA p s 8) 0 hk2) 0 hk2) 6) 2) 0 18 hk5 := ⟨by rw [hS], by rw [hS]⟩
    have hc0 : x.c ≠ 0 := by rw [e.2]; first | decide | assumption
    obtain ⟨q1, q2, q3, q4, q5, q6⟩ := bad_all hc0
    subst hQ'
    rw [q1, q2, q3, q4, q5, q6, e.1, e.2]
    refine go (r := ?_); and_intros <;> intros <;> try exact True.intro
    all_goals first | rfl | exact fuA_b (by assumption) | trace_state
  · rename_i o1 v1 c2 c3 o4 v4 o5 c6
    obtain ⟨c1, e1, -⟩ := fb_yes (k := hk1) o1 (ifE_yes v1)
    obtain ⟨c4, e4, g4⟩ := fb_yes (k := hk3) o4 (ifE_yes (by omega))
    obtain ⟨c5, e5, g5⟩ := fb_yes (k := hk4) o5 (show hk4 (rbV p (rbA p (fuA p (fuA p (rbA p s 8) 0 hk2) 0 hk2) 6) 2) = 0 from rfl)
    have hS := hd_f6 c1 e1 c2 rfl c3 rfl c4 e4 c5 e5
    rw [g4, g5, hx] at hS
    have s2 := sdV_ok c2
    have s3 := sdV_ok c3
    have o6 : RbOk p (rbA p (rbA p (fuA p (fuA p (rbA p s 8) 0 hk2) 0 hk2) 6) 2) 18 := by
      by_cases o6 : RbOk p (rbA p (rbA p (fuA p (fuA p (rbA p s 8) 0 hk2) 0 hk2) 6) 2) 18
      · exact o6
      · rw [fb_no1 o6] at c6; exact absurd c6 (by decide)
    have g6 : fbV p (rbA p (rbA p (fuA p (fuA p (rbA p s 8) 0 hk2) 0 hk2) 6) 2) 0 18 hk5 = rbV p (rbA p (rbA p (fuA p (fuA p (rbA p s 8) 0 hk2) 0 hk2) 6) 2) 18 := by rw [fbV, if_pos c6]
    have eL : lnL p (rbA p (rbA p (fuA p (fuA p (rbA p s 8) 0 hk2) 0 hk2) 6) 2) = lensV (rbV p (rbA p (rbA p (fuA p (fuA p (rbA p s 8) 0 hk2) 0 hk2) 6) 2) 18) := by rw [lnL, if_pos o6]
    rw [g6] at hS
    have h0 : x.c = 0 := by rw [hS]; exact c6
    have q1 : x.W = sdV p (rbA p s 8) := by rw [s2, HdS.W, if_pos h0, hS]
    have q2 : x.H = sdV p (fuA p (rbA p s 8) 0 hk2) := by rw [s3, HdS.H, if_pos h0, hS]
    have q3 : x.Q = rbV p (fuA p (fuA p (rbA p s 8) 0 hk2) 0 hk2) 6 := by rw [HdS.Q, if_pos h0, hS]
    have q6 : x.L = lnL p (rbA p (rbA p (fuA p (fuA p (rbA p s 8) 0 hk2) 0 hk2) 6) 2) := by rw [eL, HdS.L, if_pos h0, hS]
    have q4 : x.B = decide (rbV p (rbA p (fuA p (fuA p (rbA p s 8) 0 hk2) 0 hk2) 6) 2 > 1) := by unfold HdS.B; rw [hS]; simp [c6]; omega
    have q5 : x.D = decide (rbV p (rbA p (fuA p (fuA p (rbA p s 8) 0 hk2) 0 hk2) 6) 2 % 2 = 1) := by unfold HdS.D; rw [hS]; simp [c6]
    have ea : x.a = fbA p (rbA p (rbA p (fuA p (fuA p (rbA p s 8) 0 hk2) 0 hk2) 6) 2) 0 18 hk5 := by rw [hS]
    subst hQ'
    rw [q1, q2, q3, q4, q5, q6, ea, h0]
    refine go (r := ?_); and_intros <;> intros <;> try exact True.intro
    all_goals first | rfl | trace_state⟩
end Go.Proofs.Ytgbahnaejajdgaa

/- Contracts: streams that are parsed by the program and by the specification. No condition. -/
namespace Go.Proofs.Ytgbahnaejajdgaa
open Go Go.Abs
set_option linter.unusedVariables false
set_option linter.unusedSimpArgs false
set_option maxRecDepth 100000
set_option maxHeartbeats 4000000
attribute [local irreducible] WpA WpL Rnd Blk Abs.Seq Abs.Fin Abs.FinG FnC FnG Only

theorem hdL_len (x : HdS) : x.L.length ≤ 6 := by
  unfold HdS.L; split
  · exact Nat.le_refl 6
  · exact Nat.zero_le _
abbrev StV (x : PrS) : AV := .agg [I x.W, I x.H, I x.Q, B x.B, B x.D, .own 0 0 0 x.L.length, .own 1 0 0 x.ms.length]
def PrN (a c : Int) : PrS := ⟨0, 0, 0, false, false, [], [], a, c⟩
theorem prS_1 {p : List UInt8} (h : (hdS p 0).c ≠ 0) : prS p = PrN (hdS p 0).a (hdS p 0).c := by unfold prS; simp only; rw [if_neg h]; rfl
theorem prS_2 {p : List UInt8} (h : (hdS p 0).c = 0) (h2 : (stRun p (hdS p 0).a (hdS p 0).L (cntM (hdS p 0).W (hdS p 0).H).toNat).c ≠ 0) : prS p = PrN (stRun p (hdS p 0).a (hdS p 0).L (cntM (hdS p 0).W (hdS p 0).H).toNat).a (stRun p (hdS p 0).a (hdS p 0).L (cntM (hdS p 0).W (hdS p 0).H).toNat).c := by
  unfold prS; simp only; rw [if_pos h, if_neg h2]; rfl
theorem prS_3 {p : List UInt8} (h : (hdS p 0).c = 0) (h2 : (stRun p (hdS p 0).a (hdS p 0).L (cntM (hdS p 0).W (hdS p 0).H).toNat).c = 0) (h3 : endC p (stRun p (hdS p 0).a (hdS p 0).L (cntM (hdS p 0).W (hdS p 0).H).toNat).a ≠ 0) : prS p = PrN (stRun p (hdS p 0).a (hdS p 0).L (cntM (hdS p 0).W (hdS p 0).H).toNat).a (endC p (stRun p (hdS p 0).a (hdS p 0).L (cntM (hdS p 0).W (hdS p 0).H).toNat).a) := by
  unfold prS; simp only; rw [if_pos h, if_pos h2, if_neg h3]; rfl
theorem prS_4 {p : List UInt8} (h : (hdS p 0).c = 0) (h2 : (stRun p (hdS p 0).a (hdS p 0).L (cntM (hdS p 0).W (hdS p 0).H).toNat).c = 0) (h3 : endC p (stRun p (hdS p 0).a (hdS p 0).L (cntM (hdS p 0).W (hdS p 0).H).toNat).a = 0) : prS p = ⟨(hdS p 0).W, (hdS p 0).H, (hdS p 0).Q, (hdS p 0).B, (hdS p 0).D, (hdS p 0).L, (stRun p (hdS p 0).a (hdS p 0).L (cntM (hdS p 0).W (hdS p 0).H).toNat).ms, (stRun p (hdS p 0).a (hdS p 0).L (cntM (hdS p 0).W (hdS p 0).H).toNat).a, 0⟩ := by
  unfold prS; simp only; rw [if_pos h, if_pos h2, if_pos h3]
theorem stRun_next {p : List UInt8} {s : Int} {lens : List Int} {k : Nat} (h : (stRun p s lens k).c = 0) (hb : (mbS p (stRun p s lens k).a lens).1.c = 0) : stRun p s lens (k + 1) = ⟨(mbS p (stRun p s lens k).a lens).1.a, 0, (stRun p s lens k).ms ++ [((mbS p (stRun p s lens k).a lens).2, (mbS p (stRun p s lens k).a lens).1.bs)]⟩ := by
  rw [stRun]; simp only; rw [if_pos h, if_pos hb]
theorem stRun_bad {p : List UInt8} {s : Int} {lens : List Int} {k : Nat} (h : (stRun p s lens k).c = 0) (hb : (mbS p (stRun p s lens k).a lens).1.c ≠ 0) : ∀ j, k < j → stRun p s lens j = ⟨(mbS p (stRun p s lens k).a lens).1.a, (mbS p (stRun p s lens k).a lens).1.c, []⟩ := by
  intro j hj
  have e : stRun p s lens (k + 1) = ⟨(mbS p (stRun p s lens k).a lens).1.a, (mbS p (stRun p s lens k).a lens).1.c, []⟩ := by
    rw [stRun]; simp only; rw [if_pos h, if_neg hb]
  rw [stRun_stop (k := k + 1) (by rw [e]; exact hb) j hj, e]
abbrev HdC (W H Q : Int) (b d : Bool) (l : AV) : List AV := [I W, I H, I Q, B b, B d, l]
theorem hdV_eq (x : HdS) : HdV x = .agg [I x.W, I x.H, I x.Q, B x.B, B x.D, .own 0 0 0 x.L.length] := rfl
theorem mbS_bad {p : List UInt8} {s : Int} {lens : List Int} (h : (mbS p s lens).1.c ≠ 0) : True := trivial
section
attribute [local irreducible] hdS stRun mbS endC cntM
instance Parse_c : Con 62 (∀ (p : List UInt8), p.length ≤ 1099511627776 → Fn 62 [Z p] [XI (prS p).L, MbO (prS p).ms] (.tup [StV (prS p), I (prS p).a, I (prS p).c])) := ⟨fun p hl => by
  have hr0 : RdOk p 0 := ⟨by omega, by omega⟩
  have hok := hdS_ok hr0
  refine FnC.of_body tabOk Try.func62 Try.ntmps62 rfl (by decide +kernel) (by simp) fun G => ?_
  by_cases hc : (hdS p 0).c = 0
  · have hs := hdS_sides hc
    have hL := hdL_len (hdS p 0)
    have e2 := prS_2 hc
    have e3 := prS_3 hc
    have e4 := prS_4 hc
    have hbd := cntM_bd hs
    refine go (r := ?_); and_intros <;> intros <;> try exact True.intro
    all_goals first | contradiction | skip
    generalize hx : hdS p 0 = x at hc hs hL e2 e3 e4 hbd hok ⊢
    have hz : stRun p x.a x.L 0 = ⟨x.a, 0, []⟩ := by rw [stRun]
    have hln := fun k h => stRun_len p x.a x.L k h
    have hok := fun k => stRun_ok (lens := x.L) hok k
    have hnx := fun k h hb => stRun_next (p := p) (s := x.a) (lens := x.L) (k := k) h hb
    have hbd2 := fun k h hb j hj => stRun_bad (p := p) (s := x.a) (lens := x.L) (k := k) h hb j hj
    generalize hN : cntM x.W x.H = N at hbd e2 e3 e4 ⊢
    generalize stRun p x.a x.L = X at hz hln hnx hbd2 hok e2 e3 e4 ⊢
    refine WpA.loop (fun k : Nat => ⟨[(2, .ptr 0 0 0), (5, .ptr 2 0 0), (6, .ptr 3 0 0), (8, .ptr 4 0 0), (29, I N), (30, I k)], [⟨[I 0, I 0, I 0, B false, B false, .nilS, .nilS], 0, 0, none⟩, XI x.L, ⟨[Z p, I (X k).a], 0, 0, none⟩, ⟨[I x.W, I x.H, I x.Q, B x.B, B x.D, .own 1 0 0 x.L.length], 0, 0, none⟩, ⟨[I x.W, I x.H, I x.Q, B x.B, B x.D, .own 1 0 0 x.L.length, .own 5 0 0 k], 0, 0, none⟩, MbO (X k).ms]⟩) (fun k => (k : Int) ≤ N ∧ (X k).c = 0) (fun k => N.toNat - k) 0 (by rw [hz]; exact ⟨by omega, rfl⟩) ?_ (fun k hk => ?_)
    · rw [hz]; exact Weak.nil1 (by first | (show 0 ≤ _; exact Nat.zero_le _) | (repeat' (first | exact RzT.nil | refine RzT.cons ?_ ?_ | exact Rz.nil | refine Rz.keep rfl rfl ?_ | refine Rz.own rfl rfl rfl rfl rfl (by first | rfl | omega | (simp; done)) ?_ | refine Rz.ptr rfl rfl rfl rfl ?_ | refine Rz.nilO rfl rfl rfl (by first | rfl | omega | (simp; done)) ?_ | refine Rz.agg ?_ ?_ | exact RzO.last rfl | (refine RzO.cons ?_ (.inr rfl) ?_) | exact Rz.same rfl (still_ints _) | exact Rz.same rfl (still_rows (fun _ => rfl) _)))) (by first | (show 0 ≤ _; exact Nat.zero_le _) | (repeat' (first | exact RzT.nil | refine RzT.cons ?_ ?_ | exact Rz.nil | refine Rz.keep rfl rfl ?_ | refine Rz.own rfl rfl rfl rfl rfl (by first | rfl | omega | (simp; done)) ?_ | refine Rz.ptr rfl rfl rfl rfl ?_ | refine Rz.nilO rfl rfl rfl (by first | rfl | omega | (simp; done)) ?_ | refine Rz.agg ?_ ?_ | exact RzO.last rfl | (refine RzO.cons ?_ (.inr rfl) ?_) | exact Rz.same rfl (still_ints _) | exact Rz.same rfl (still_rows (fun _ => rfl) _)))) (Nat.zero_le _)
    have hln := hln k hk.2
    have hnx := hnx k hk.2
    have hbd2 := hbd2 k hk.2
    have hok := hok k
    have hfin : ¬ (k : Int) < N → X N.toNat = X k := fun h => by rw [show N.toNat = k by omega]
    generalize hy : X k = y at hk hln hnx hbd2 hfin hok ⊢
    have hln : y.ms.length = k := hln
    by_cases hlt : (k : Int) < N
    · by_cases hb : (mbS p y.a x.L).1.c = 0
      · have hnx := hnx hb
        clear hbd2 e2 e3 e4
        refine go (r := ?_); and_intros <;> intros <;> try exact True.intro
        all_goals first | contradiction | (rw [hnx]; done) | trace_state
      · have hbd2 := hbd2 hb
        have e := hbd2 N.toNat (by omega)
        rw [e2 (by rw [e]; exact hb), e]
        clear hnx hbd2 e2 e3 e4
        refine go (r := ?_); and_intros <;> intros <;> try exact True.intro
        all_goals first | contradiction | trace_state
    · have hfin := hfin hlt
      have hc2 : (X N.toNat).c = 0 := by rw [hfin]; exact hk.2
      by_cases he : endC p y.a = 0
      · rw [e4 hc2 (by rw [hfin]; exact he), hfin]
        clear e2 e3 e4 hnx hbd2
        refine go (r := ?_); and_intros <;> intros <;> try exact True.intro
        all_goals first | contradiction | exact hok | trace_state
      · rw [e3 hc2 (by rw [hfin]; exact he), hfin]
        clear e2 e3 e4 hnx hbd2
        refine go (r := ?_); and_intros <;> intros <;> try exact True.intro
        all_goals first | contradiction | exact hok | trace_state
  · rw [prS_1 hc]
    refine goR (r := ?_); and_intros <;> intros <;> try exact True.intro
    refine WpA.weak (σ' := ⟨[(2, .ptr 0 0 0), (5, .ptr 2 0 0), (7, I (hdS p 0).c)], [⟨[I 0, I 0, I 0, B false, B false, .nilS, .nilS], 0, 0, none⟩, XI (hdS p 0).L, ⟨[Z p, I (hdS p 0).a], 0, 0, none⟩]⟩) (Weak.mk (by repeat (first | exact ReT.nil | refine ReT.cons (.keep rfl rfl .nil) ?_ | refine ReT.cons (.own rfl rfl rfl rfl rfl rfl .nil) ?_ | refine ReT.cons (.ptr rfl rfl rfl rfl .nil) ?_ | refine ReT.cons (.keep (congrArg (fun z => AV.sc (Value.int .i64 z)) (by first | omega | (skip))) rfl .nil) ?_ | refine ReT.cons (.keep (congrArg (fun z : List UInt8 => AV.sc (Value.string ⟨z.toArray⟩)) (by skip)) rfl .nil) ?_ | refine ReT.cons (.own rfl rfl rfl rfl rfl (by first | omega | (simp; done) | (simp; omega)) .nil) ?_)) (by repeat (first | exact ReO.nil | refine ReO.cons (Re.same rfl (still_ints _)) (by simp) ?_ | refine ReO.cons (Re.same rfl rfl) (by simp) ?_)) (Nat.zero_le _)) ?_
    refine go (r := ?_); and_intros <;> intros <;> try exact True.intro
    all_goals first | contradiction | trace_state⟩
instance Parse_s : Con 60 (∀ (p : List UInt8), p.length ≤ 1099511627776 → Fn 60 [Z p] [XI (prS p).L, MbO (prS p).ms] (.tup [StV (prS p), I (prS p).a, I (prS p).c])) := ⟨fun p hl => by
  have hr0 : RdOk p 0 := ⟨by omega, by omega⟩
  have hok := hdS_ok hr0
  refine FnC.of_body tabOk Try.func60 Try.ntmps60 rfl (by decide +kernel) (by simp) fun G => ?_
  by_cases hc : (hdS p 0).c = 0
  · have hs := hdS_sides hc
    have hL := hdL_len (hdS p 0)
    have e2 := prS_2 hc
    have e3 := prS_3 hc
    have e4 := prS_4 hc
    have hbd := cntM_bd hs
    refine go (r := ?_); and_intros <;> intros <;> try exact True.intro
    all_goals first | contradiction | skip
    generalize hx : hdS p 0 = x at hc hs hL e2 e3 e4 hbd hok ⊢
    have hz : stRun p x.a x.L 0 = ⟨x.a, 0, []⟩ := by rw [stRun]
    have hln := fun k h => stRun_len p x.a x.L k h
    have hok := fun k => stRun_ok (lens := x.L) hok k
    have hnx := fun k h hb => stRun_next (p := p) (s := x.a) (lens := x.L) (k := k) h hb
    have hbd2 := fun k h hb j hj => stRun_bad (p := p) (s := x.a) (lens := x.L) (k := k) h hb j hj
    generalize hN : cntM x.W x.H = N at hbd e2 e3 e4 ⊢
    generalize stRun p x.a x.L = X at hz hln hnx hbd2 hok e2 e3 e4 ⊢
    refine WpA.loop (fun k : Nat => ⟨[(2, .ptr 0 0 0), (5, .ptr 2 0 0), (6, .ptr 3 0 0), (8, .ptr 4 0 0), (9, I k)], [⟨[I 0, I 0, I 0, B false, B false, .nilS, .nilS], 0, 0, none⟩, XI x.L, ⟨[Z p, I (X k).a], 0, 0, none⟩, ⟨[I x.W, I x.H, I x.Q, B x.B, B x.D, .own 1 0 0 x.L.length], 0, 0, none⟩, ⟨[I x.W, I x.H, I x.Q, B x.B, B x.D, .own 1 0 0 x.L.length, .own 5 0 0 k], 0, 0, none⟩, MbO (X k).ms]⟩) (fun k => (k : Int) ≤ N ∧ (X k).c = 0) (fun k => N.toNat - k) 0 (by rw [hz]; exact ⟨by omega, rfl⟩) ?_ (fun k hk => ?_)
    · rw [hz]; exact Weak.nil1 (by first | (show 0 ≤ _; exact Nat.zero_le _) | (repeat' (first | exact RzT.nil | refine RzT.cons ?_ ?_ | exact Rz.nil | refine Rz.keep rfl rfl ?_ | refine Rz.own rfl rfl rfl rfl rfl (by first | rfl | omega | (simp; done)) ?_ | refine Rz.ptr rfl rfl rfl rfl ?_ | refine Rz.nilO rfl rfl rfl (by first | rfl | omega | (simp; done)) ?_ | refine Rz.agg ?_ ?_ | exact RzO.last rfl | (refine RzO.cons ?_ (.inr rfl) ?_) | exact Rz.same rfl (still_ints _) | exact Rz.same rfl (still_rows (fun _ => rfl) _)))) (by first | (show 0 ≤ _; exact Nat.zero_le _) | (repeat' (first | exact RzT.nil | refine RzT.cons ?_ ?_ | exact Rz.nil | refine Rz.keep rfl rfl ?_ | refine Rz.own rfl rfl rfl rfl rfl (by first | rfl | omega | (simp; done)) ?_ | refine Rz.ptr rfl rfl rfl rfl ?_ | refine Rz.nilO rfl rfl rfl (by first | rfl | omega | (simp; done)) ?_ | refine Rz.agg ?_ ?_ | exact RzO.last rfl | (refine RzO.cons ?_ (.inr rfl) ?_) | exact Rz.same rfl (still_ints _) | exact Rz.same rfl (still_rows (fun _ => rfl) _)))) (Nat.zero_le _)
    have hln := hln k hk.2
    have hnx := hnx k hk.2
    have hbd2 := hbd2 k hk.2
    have hok := hok k
    have hfin : ¬ (k : Int) < N → X N.toNat = X k := fun h => by rw [show N.toNat = k by omega]
    generalize hy : X k = y at hk hln hnx hbd2 hfin hok ⊢
    have hln : y.ms.length = k := hln
    by_cases hlt : (k : Int) < N
    · by_cases hb : (mbS p y.a x.L).1.c = 0
      · have hnx := hnx hb
        clear hbd2 e2 e3 e4
        refine go (r := ?_); and_intros <;> intros <;> try exact True.intro
        all_goals first | contradiction | (rw [hnx]; done) | trace_state
      · have hbd2 := hbd2 hb
        have e := hbd2 N.toNat (by omega)
        rw [e2 (by rw [e]; exact hb), e]
        clear hnx hbd2 e2 e3 e4
        refine go (r := ?_); and_intros <;> intros <;> try exact True.intro
        all_goals first | contradiction | trace_state
    · have hfin := hfin hlt
      have hc2 : (X N.toNat).c = 0 := by rw [hfin]; exact hk.2
      by_cases he : endC p y.a = 0
      · rw [e4 hc2 (by rw [hfin]; exact he), hfin]
        clear e2 e3 e4 hnx hbd2
        refine go (r := ?_); and_intros <;> intros <;> try exact True.intro
        all_goals first | contradiction | exact hok | trace_state
      · rw [e3 hc2 (by rw [hfin]; exact he), hfin]
        clear e2 e3 e4 hnx hbd2
        refine go (r := ?_); and_intros <;> intros <;> try exact True.intro
        all_goals first | contradiction | exact hok | trace_state
  · rw [prS_1 hc]
    refine goR (r := ?_); and_intros <;> intros <;> try exact True.intro
    refine WpA.weak (σ' := ⟨[(2, .ptr 0 0 0), (5, .ptr 2 0 0), (7, I (hdS p 0).c)], [⟨[I 0, I 0, I 0, B false, B false, .nilS, .nilS], 0, 0, none⟩, XI (hdS p 0).L, ⟨[Z p, I (hdS p 0).a], 0, 0, none⟩]⟩) (Weak.mk (by repeat (first | exact ReT.nil | refine ReT.cons (.keep rfl rfl .nil) ?_ | refine ReT.cons (.own rfl rfl rfl rfl rfl rfl .nil) ?_ | refine ReT.cons (.ptr rfl rfl rfl rfl .nil) ?_ | refine ReT.cons (.keep (congrArg (fun z => AV.sc (Value.int .i64 z)) (by first | omega | (skip))) rfl .nil) ?_ | refine ReT.cons (.keep (congrArg (fun z : List UInt8 => AV.sc (Value.string ⟨z.toArray⟩)) (by skip)) rfl .nil) ?_ | refine ReT.cons (.own rfl rfl rfl rfl rfl (by first | omega | (simp; done) | (simp; omega)) .nil) ?_)) (by repeat (first | exact ReO.nil | refine ReO.cons (Re.same rfl (still_ints _)) (by simp) ?_ | refine ReO.cons (Re.same rfl rfl) (by simp) ?_)) (Nat.zero_le _)) ?_
    refine go (r := ?_); and_intros <;> intros <;> try exact True.intro
    all_goals first | contradiction | trace_state⟩
end
end Go.Proofs.Ytgbahnaejajdgaa

/- Contracts of the laws' own functions over numbers, truth values, options, headers, blocks, macroblocks, streams: sizes, copies, comparisons, marks. No condition. -/
namespace Go.Proofs.Ytgbahnaejajdgaa
open Go Go.Abs
set_option linter.unusedVariables false
set_option linter.unusedSimpArgs false
set_option maxRecDepth 100000
set_option maxHeartbeats 4000000
attribute [local irreducible] WpA WpL Rnd Blk Abs.Seq Abs.Fin Abs.FinG FnC FnG Only

def marksI (k : Int) (n : Nat) : List Int := (List.range n).map fun i : Nat => k + (i : Int)
@[simp] theorem marksI_len (k : Int) (n : Nat) : (marksI k n).length = n := by simp [marksI]
instance markIntS_c : ConG 19 (∀ (l : List Int) (k : Int), l.length ≤ 1099511627776 ∧ 0 ≤ k ∧ k ≤ 1099511627776 → Gn 19 [.own 0 0 0 l.length, I k] [IN l] [IN (marksI k l.length)] [] (I (k + l.length))) := ⟨fun l k hk => by
  refine FnG.of_bodyF tabOk Try.func19 Try.ntmps19 rfl (by decide +kernel) (by simp) rfl rfl fun G => ?_
  refine go (r := ?_); and_intros <;> intros <;> try exact True.intro
  refine WpA.loop (fun i : Nat => ⟨[(0, .own 0 0 0 l.length), (1, I (k + i)), (5, I i)], [IN (marksI k i ++ l.drop i)]⟩) (fun i => i ≤ l.length) (fun i => l.length - i) 0 (by simp) (go (r := ?_)) (fun i hi => ?_)
  · simp [marksI]
  have hml := marksI_len k i
  refine go (r := ?_); and_intros <;> intros <;> try exact True.intro
  · first | exact mark_step (fun i : Nat => k + (i : Int)) l i (by omega) | (simp only [Nat.mul_one, Int.toNat_natCast]; exact mark_step (fun i : Nat => k + (i : Int)) l i (by omega))
  · have : i = l.length := by omega
    subst this; simp⟩
instance heldIntS_c : Con 20 (∀ (l : List Int) (k : Int), l.length ≤ 1099511627776 ∧ 0 ≤ k ∧ k ≤ 1099511627776 → Fn 20 [IL l, I k] [] (I (if l = marksI k l.length then k + l.length else -1))) := ⟨fun l k hk => by
  refine FnC.of_body tabOk Try.func20 Try.ntmps20 rfl (by decide +kernel) (by simp) fun G => ?_
  refine go (r := ?_); and_intros <;> intros <;> try exact True.intro
  refine WpA.loop (fun i : Nat => ⟨[(0, IL l), (1, I (k + i)), (5, I i)], []⟩) (fun i => i ≤ l.length ∧ l.take i = marksI k i) (fun i => l.length - i) 0 (by simp [marksI]) (go (r := ?_)) (fun i hi => ?_)
  · simp
  refine go (r := ?_); and_intros <;> intros <;> try exact True.intro
  · rw [if_neg]; exact held_not (fun i : Nat => k + (i : Int)) 0 l i (by omega) ‹_›
  · exact held_step (fun i : Nat => k + (i : Int)) 0 l i (by omega) hi.2 ‹_›
  · have : i = l.length := by omega
    subst this; rw [if_pos (by simpa using hi.2)]⟩
def marksB (k : Int) (n : Nat) : List Bool := (List.range n).map fun i : Nat => decide ((k + (i : Int)) % 3 = 0)
@[simp] theorem marksB_len (k : Int) (n : Nat) : (marksB k n).length = n := by simp [marksB]
/-! Options. -/
end Go.Proofs.Ytgbahnaejajdgaa

/- Contracts of the laws' own functions over headers, blocks, macroblocks and streams. No condition. -/
namespace Go.Proofs.Ytgbahnaejajdgaa
open Go Go.Abs
set_option linter.unusedVariables false
set_option linter.unusedSimpArgs false
set_option maxRecDepth 100000
set_option maxHeartbeats 4000000
attribute [local irreducible] WpA WpL Rnd Blk Abs.Seq Abs.Fin Abs.FinG FnC FnG Only

/-! Headers. -/
instance eqHeader_c : Con 63 (∀ (w h q : Int) (b d : Bool) (l : List Int) (w2 h2 q2 : Int) (b2 d2 : Bool) (l2 : List Int), l.length ≤ 1099511627776 ∧ l2.length ≤ 1099511627776 →
    Fn 63 [HdA w h q b d l, HdA w2 h2 q2 b2 d2 l2] [] (B (decide (w = w2 ∧ h = h2 ∧ q = q2 ∧ b = b2 ∧ d = d2 ∧ l = l2)))) := ⟨fun w h q b d l w2 h2 q2 b2 d2 l2 hl => by
  refine FnC.of_body tabOk Try.func63 Try.ntmps63 rfl (by decide +kernel) (by simp) fun G => ?_
  refine go (r := ?_); and_intros <;> intros <;> try exact True.intro
  all_goals simp_all⟩
instance markHeader_c : ConG 65 (∀ (w h q : Int) (b d : Bool) (l : List Int) (k : Int), l.length ≤ 1048576 ∧ 0 ≤ k ∧ k ≤ 1073741824 →
    Gn 65 [.agg [I w, I h, I q, B b, B d, .own 0 0 0 l.length], I k] [IN l] [IN (marksI k l.length)] [] (I (k + l.length))) := ⟨fun w h q b d l k hk => by
  refine FnG.of_bodyF tabOk Try.func65 Try.ntmps65 rfl (by decide +kernel) (by simp) rfl rfl fun G => ?_
  refine go (r := ?_); and_intros <;> intros <;> try exact True.intro⟩

/-! Blocks. -/
theorem fill_def {α : Type} [Inhabited α] (z : α) (xs : List α) (k : Nat) (h : k < xs.length) : (xs.take k ++ List.replicate (xs.length - k) z).set k (xs.getD k default) = xs.take (k + 1) ++ List.replicate (xs.length - (k + 1)) z := by
  have e : xs.getD k default = xs.getD k z := by simp [h]
  rw [e]; exact fill_step z xs k h
instance eqBlock_c : Con 145 (∀ (m : Int) (l : List Int) (m2 : Int) (l2 : List Int), l.length ≤ 1099511627776 ∧ l2.length ≤ 1099511627776 → Fn 145 [.agg [I m, IL l], .agg [I m2, IL l2]] [] (B (decide (m = m2 ∧ l = l2)))) := ⟨fun m l m2 l2 hl => by
  refine FnC.of_body tabOk Try.func145 Try.ntmps145 rfl (by decide +kernel) (by simp) fun G => ?_
  refine go (r := ?_); and_intros <;> intros <;> try exact True.intro
  all_goals simp_all⟩
instance eqBlockS_c : Con 73 (∀ xs ys : List Blok, xs.length ≤ 1099511627776 ∧ ys.length ≤ 1099511627776 ∧ SmB 1099511627776 xs ∧ SmB 1099511627776 ys → Fn 73 [BkL xs, BkL ys] [] (B (decide (xs = ys)))) := ⟨fun xs ys hl => by
  refine FnC.of_body tabOk Try.func73 Try.ntmps73 rfl (by decide +kernel) (by simp) fun G => ?_
  refine go (r := ?_); and_intros <;> intros <;> try exact True.intro
  · simp; intro h; subst h; simp_all
  · refine WpA.loop (fun k : Nat => ⟨[(0, BkL xs), (1, BkL ys), (5, I k)], []⟩) (fun k => k ≤ xs.length ∧ ∀ j < k, xs.getD j default = ys.getD j default) (fun k => xs.length - k) 0 (by simp) (go (r := trivial)) (fun k hk => ?_)
    have hg := fun h => smB_get hl.2.2.1 (k := k) h
    have hg2 := fun h => smB_get hl.2.2.2 (k := k) h
    refine go (r := ?_); and_intros <;> intros <;> try exact True.intro
    · simp; rintro rfl; simp_all
    · rename_i j hj; by_cases h : j = k
      · subst h; apply Prod.ext <;> simp_all
      · exact hk.2 j (by omega)
    · have := eq_all default (xs := xs) (ys := ys) (by omega) (fun j hj => hk.2 j (by omega))
      simp [this]⟩
def endB (k : Int) (l : List Blok) : Int := k + bw l
def markB : Int → List Blok → List Blok
  | _, [] => []
  | k, b :: l => (k, marksI (k + 1) b.2.length) :: markB (k + 1 + b.2.length) l
theorem bw_nil : bw [] = 0 := rfl
theorem bw_cons (b : Blok) (l : List Blok) : bw (b :: l) = bw l + 1 + b.2.length := by unfold bw; rw [List.map_cons, List.sum_cons, List.length_cons]; unfold bn; omega
theorem bw_append (a b : List Blok) : bw (a ++ b) = bw a + bw b := by unfold bw; rw [List.map_append, List.sum_append, List.length_append]; omega
theorem markB_append : ∀ (a b : List Blok) (k : Int), markB k (a ++ b) = markB k a ++ markB (k + bw a) b
  | [], b, k => by simp [markB, bw_nil]
  | x :: a, b, k => by
    rw [List.cons_append, markB, markB, markB_append a b, bw_cons, List.cons_append]
    congr 3; omega
@[simp] theorem markB_len : ∀ (l : List Blok) (k : Int), (markB k l).length = l.length
  | [], k => rfl
  | b :: l, k => by rw [markB, List.length_cons, List.length_cons, markB_len l]
theorem markB_bw : ∀ (l : List Blok) (k : Int), bw (markB k l) = bw l
  | [], k => rfl
  | b :: l, k => by rw [markB, bw_cons, bw_cons, markB_bw l, marksI_len]
theorem bw_take (l : List Blok) (i : Nat) (h : i < l.length) : bw (l.take (i + 1)) = bw (l.take i) + 1 + (l.getD i default).2.length := by
  rw [take_snoc l i h, bw_append, bw_cons, bw_nil]; omega
theorem bw_take_le (l : List Blok) (i : Nat) : bw (l.take i) ≤ bw l := by
  conv => rhs; rw [← List.take_append_drop i l, bw_append]
  exact Nat.le_add_right _ _
theorem markB_take (l : List Blok) (i : Nat) (h : i < l.length) (k : Int) : markB k (l.take (i + 1)) = markB k (l.take i) ++ [(k + bw (l.take i), marksI (k + bw (l.take i) + 1) (l.getD i default).2.length)] := by
  rw [take_snoc l i h, markB_append]; rfl
theorem getD_mid {α : Type} [Inhabited α] (A : List α) (l : List α) (i : Nat) (hA : A.length = i) (h : i < l.length) : (A ++ l.drop i).getD i default = l.getD i default := by
  simp [List.getElem?_append_right, hA, h]
theorem set_mid {α : Type} (A : List α) (l : List α) (i : Nat) (hA : A.length = i) (h : i < l.length) (v : α) : (A ++ l.drop i).set i v = (A ++ [v]) ++ l.drop (i + 1) := by
  rw [List.set_append_right _ _ (by omega), hA, Nat.sub_self, List.drop_eq_getElem_cons h]; simp; rw [List.drop_eq_getElem_cons h]; rfl

instance markBlockS_c : ConG 74 (∀ (l : List Blok) (k : Int), bw l ≤ 1048576 ∧ 0 ≤ k ∧ k ≤ 1073741824 → Gn 74 [.own 0 0 0 l.length, I k] [BkN l] [BkN (markB k l)] [] (I (k + bw l))) := ⟨fun l k hk => by
  refine FnG.of_bodyF tabOk Try.func74 Try.ntmps74 rfl (by decide +kernel) (by simp) rfl rfl fun G => ?_
  have hbw : bw l = l.length + (l.map bn).sum := rfl
  refine go (r := ?_); and_intros <;> intros <;> try exact True.intro
  refine WpA.loop (fun i : Nat => ⟨[(0, .own 0 0 0 l.length), (1, I (k + bw (l.take i))), (5, I i)], [BkN (markB k (l.take i) ++ l.drop i)]⟩) (fun i => i ≤ l.length) (fun i => l.length - i) 0 (by simp) (go (r := ?_)) (fun i hi => ?_)
  · simp [markB, bw_nil]
  have hml := markB_len (l.take i) k
  have hlt : i ≤ l.length → (l.take i).length = i := fun h => by simp; omega
  have hsm := smB_of hk.1
  have hle := bw_take_le l i
  have hlen : i ≤ l.length → (markB k (l.take i) ++ l.drop i).length = l.length := fun h => by rw [List.length_append, hml]; simp; omega
  have hget : i < l.length → ∀ v, ((markB k (l.take i) ++ l.drop i).set i v).getD i default = v := fun h v => by simp [hlen (by omega), h]
  have hg := fun h => smB_get hsm (k := i) h
  have hmid := fun h => getD_mid (markB k (l.take i)) l i (by rw [hml, hlt (by omega)]) h
  have hbt := fun h => bw_take l i h
  refine go (r := ?_); and_intros <;> intros <;> try exact True.intro
  · rw [hget (by omega)]; simp only; rw [hmid (by omega)]; exact Nat.le_trans (hg (by omega)) (by decide)
  · rw [hget (by omega)]; simp only; rw [hmid (by omega), hbt (by omega)]; generalize l.getD i default = x; obtain ⟨m0, lv⟩ := x; simp only; omega
  · rw [List.set_set, hget (by omega)]; simp only; rw [hmid (by omega), set_mid _ _ _ (by rw [hml, hlt (by omega)]) (by omega), markB_take _ _ (by omega)]
  all_goals have e : i = l.length := by omega
  all_goals subst e; simp⟩
theorem markB_self (l : List Blok) (i : Nat) (h : i < l.length) (k : Int) (h1 : l.take i = markB k (l.take i)) (h2 : (l.getD i default).1 = k + bw (l.take i)) (h3 : (l.getD i default).2 = marksI (k + bw (l.take i) + 1) (l.getD i default).2.length) : l.take (i + 1) = markB k (l.take (i + 1)) := by
  rw [markB_take l i h, take_snoc l i h]
  conv => lhs; rw [h1]
  exact congrArg (fun x => markB k (l.take i) ++ [x]) (Prod.ext h2 h3)
theorem markB_get (l : List Blok) (i : Nat) (h : i < l.length) (k : Int) (e : l = markB k l) : (l.getD i default).1 = k + bw (l.take i) ∧ (l.getD i default).2 = marksI (k + bw (l.take i) + 1) (l.getD i default).2.length := by
  have h0 : l = (l.take i ++ [l.getD i default]) ++ l.drop (i + 1) := by rw [← take_snoc l i h, List.take_append_drop]
  have h1 : markB k l = (markB k (l.take i) ++ [(k + bw (l.take i), marksI (k + bw (l.take i) + 1) (l.getD i default).2.length)]) ++ markB (k + bw (l.take (i + 1))) (l.drop (i + 1)) := by
    rw [← markB_take l i h, ← markB_append, List.take_append_drop]
  have h2 : (markB k l).getD i default = (k + bw (l.take i), marksI (k + bw (l.take i) + 1) (l.getD i default).2.length) := by
    rw [h1]
    have : (markB k (l.take i)).length = i := by simp; omega
    simp [List.getElem?_append, this]
  have h3 : l.getD i default = (markB k l).getD i default := by rw [← e]
  rw [h2] at h3
  exact ⟨congrArg Prod.fst h3, congrArg Prod.snd h3⟩
theorem markB_idem : ∀ (l : List Blok) (k : Int), markB k (markB k l) = markB k l
  | [], _ => rfl
  | b :: l, k => by simp only [markB, marksI_len]; rw [markB_idem l]
/-- What was marked is held. -/
instance heldBlockS_c : Con 75 (∀ (l : List Blok) (k : Int), (bw l ≤ 1048576 ∧ 0 ≤ k ∧ k ≤ 1073741824) ∧ l = markB k l → Fn 75 [BkL l, I k] [] (I (k + bw l))) := ⟨fun l k hk => by
  obtain ⟨hk, hm⟩ := hk
  refine FnC.of_body tabOk Try.func75 Try.ntmps75 rfl (by decide +kernel) (by simp) fun G => ?_
  have hbw : bw l = l.length + (l.map bn).sum := rfl
  refine go (r := ?_); and_intros <;> intros <;> try exact True.intro
  refine WpA.loop (fun i : Nat => ⟨[(0, BkL l), (1, I (k + bw (l.take i))), (5, I i)], []⟩) (fun i => i ≤ l.length) (fun i => l.length - i) 0 (by simp) (go (r := ?_)) (fun i hi => ?_)
  · simp [bw_nil]
  have hsm := smB_of hk.1
  have hle := bw_take_le l i
  have hle2 := bw_take_le l (i + 1)
  have hg := fun h => smB_get hsm (k := i) h
  have hbt := fun h => bw_take l i h
  have hget := fun h => markB_get l i h k hm
  by_cases hlt : i < l.length
  · obtain ⟨h1, h2⟩ := hget hlt
    have hg := hg hlt
    have hbt := hbt hlt
    refine go (r := ?_); and_intros <;> intros <;> try exact True.intro
    all_goals first | contradiction | omega | (exact Nat.le_trans hg (by decide)) | (rename_i hg0; rw [if_pos h2] at hg0; omega) | trace_state
  · refine go (r := ?_); and_intros <;> intros <;> try exact True.intro
    all_goals first | contradiction | omega | (have e : i = l.length := by omega); subst e; rw [List.take_length]⟩

/-! Macroblocks. -/
instance eqMb_c : Con 30 (∀ (e : Bool) (l : List Blok) (e2 : Bool) (l2 : List Blok), l.length ≤ 1099511627776 ∧ l2.length ≤ 1099511627776 ∧ SmB 1099511627776 l ∧ SmB 1099511627776 l2 → Fn 30 [.agg [B e, BkL l], .agg [B e2, BkL l2]] [] (B (decide (e = e2 ∧ l = l2)))) := ⟨fun e l e2 l2 hl => by
  refine FnC.of_body tabOk Try.func30 Try.ntmps30 rfl (by decide +kernel) (by simp) fun G => ?_
  refine go (r := ?_); and_intros <;> intros <;> try exact True.intro
  all_goals simp_all⟩
instance eqMbS_c : Con 64 (∀ xs ys : List Mbk, xs.length ≤ 1099511627776 ∧ ys.length ≤ 1099511627776 ∧ SmM 1099511627776 xs ∧ SmM 1099511627776 ys → Fn 64 [MbL xs, MbL ys] [] (B (decide (xs = ys)))) := ⟨fun xs ys hl => by
  refine FnC.of_body tabOk Try.func64 Try.ntmps64 rfl (by decide +kernel) (by simp) fun G => ?_
  refine go (r := ?_); and_intros <;> intros <;> try exact True.intro
  · simp; intro h; subst h; simp_all
  · refine WpA.loop (fun k : Nat => ⟨[(0, MbL xs), (1, MbL ys), (5, I k)], []⟩) (fun k => k ≤ xs.length ∧ ∀ j < k, xs.getD j default = ys.getD j default) (fun k => xs.length - k) 0 (by simp) (go (r := trivial)) (fun k hk => ?_)
    have hg := fun h => smM_get hl.2.2.1 (k := k) h
    have hg2 := fun h => smM_get hl.2.2.2 (k := k) h
    refine go (r := ?_); and_intros <;> intros <;> try exact True.intro
    all_goals first | exact (hg (by omega)).1 | exact (hg (by omega)).2 | exact (hg2 (by omega)).1 | exact (hg2 (by omega)).2 | skip
    · simp; rintro rfl; simp_all
    · rename_i j hj; by_cases h : j = k
      · subst h; apply Prod.ext <;> simp_all
      · exact hk.2 j (by omega)
    · have := eq_all default (xs := xs) (ys := ys) (by omega) (fun j hj => hk.2 j (by omega))
      simp [this]⟩
def markM : Int → List Mbk → List Mbk
  | _, [] => []
  | k, m :: l => (decide (k % 3 = 0), markB (k + 1) m.2) :: markM (k + 1 + bw m.2) l
theorem mw_nil : mw [] = 0 := rfl
theorem mw_cons (b : Mbk) (l : List Mbk) : mw (b :: l) = mw l + 1 + bw b.2 := by unfold mw; rw [List.map_cons, List.sum_cons, List.length_cons]; unfold mn; omega
theorem mw_append (a b : List Mbk) : mw (a ++ b) = mw a + mw b := by unfold mw; rw [List.map_append, List.sum_append, List.length_append]; omega
theorem markM_append : ∀ (a b : List Mbk) (k : Int), markM k (a ++ b) = markM k a ++ markM (k + mw a) b
  | [], b, k => by simp [markM, mw_nil]
  | x :: a, b, k => by
    rw [List.cons_append, markM, markM, markM_append a b, mw_cons, List.cons_append]
    congr 3; omega
@[simp] theorem markM_len : ∀ (l : List Mbk) (k : Int), (markM k l).length = l.length
  | [], k => rfl
  | b :: l, k => by rw [markM, List.length_cons, List.length_cons, markM_len l]
theorem mw_take (l : List Mbk) (i : Nat) (h : i < l.length) : mw (l.take (i + 1)) = mw (l.take i) + 1 + bw (l.getD i default).2 := by
  rw [take_snoc l i h, mw_append, mw_cons, mw_nil]; omega
theorem mw_take_le (l : List Mbk) (i : Nat) : mw (l.take i) ≤ mw l := by
  conv => rhs; rw [← List.take_append_drop i l, mw_append]
  exact Nat.le_add_right _ _
theorem markM_take (l : List Mbk) (i : Nat) (h : i < l.length) (k : Int) : markM k (l.take (i + 1)) = markM k (l.take i) ++ [(decide ((k + mw (l.take i)) % 3 = 0), markB (k + mw (l.take i) + 1) (l.getD i default).2)] := by
  rw [take_snoc l i h, markM_append]; rfl
instance markMbS_c : ConG 66 (∀ (l : List Mbk) (k : Int), mw l ≤ 1048576 ∧ 0 ≤ k ∧ k ≤ 536870912 → Gn 66 [.own 0 0 0 l.length, I k] [MbN l] [MbN (markM k l)] [] (I (k + mw l))) := ⟨fun l k hk => by
  refine FnG.of_bodyF tabOk Try.func66 Try.ntmps66 rfl (by decide +kernel) (by simp) rfl rfl fun G => ?_
  have hmw : mw l = l.length + (l.map mn).sum := rfl
  refine go (r := ?_); and_intros <;> intros <;> try exact True.intro
  refine WpA.loop (fun i : Nat => ⟨[(0, .own 0 0 0 l.length), (1, I (k + mw (l.take i))), (5, I i)], [MbN (markM k (l.take i) ++ l.drop i)]⟩) (fun i => i ≤ l.length) (fun i => l.length - i) 0 (by simp) (go (r := ?_)) (fun i hi => ?_)
  · simp [markM, mw_nil]
  have hml := markM_len (l.take i) k
  have hlt : i ≤ l.length → (l.take i).length = i := fun h => by simp; omega
  have hle := mw_take_le l i
  have hle1 := mw_take_le l (i + 1)
  have hlen : i ≤ l.length → (markM k (l.take i) ++ l.drop i).length = l.length := fun h => by rw [List.length_append, hml]; simp; omega
  have hget : i < l.length → ∀ v, ((markM k (l.take i) ++ l.drop i).set i v).getD i default = v := fun h v => by simp [hlen (by omega), h]
  have hmid := fun h => getD_mid (markM k (l.take i)) l i (by rw [hml, hlt (by omega)]) h
  have hbt := fun h => mw_take l i h
  refine go (r := ?_); and_intros <;> intros <;> try exact True.intro
  · rw [hget (by omega)]; simp only; rw [hmid (by omega)]; have := hbt (by omega); generalize l.getD i default = x at *; obtain ⟨m0, lv⟩ := x; simp only at *; omega
  · rw [hget (by omega)]; simp only; rw [hmid (by omega), hbt (by omega)]; generalize l.getD i default = x; obtain ⟨m0, lv⟩ := x; simp only; omega
  · rw [List.set_set, hget (by omega)]; simp only; rw [hmid (by omega), set_mid _ _ _ (by rw [hml, hlt (by omega)]) (by omega), markM_take _ _ (by omega)]
  all_goals have e : i = l.length := by omega
  all_goals subst e; simp⟩

theorem markM_idem : ∀ (l : List Mbk) (k : Int), markM k (markM k l) = markM k l
  | [], _ => rfl
  | b :: l, k => by simp only [markM, markB_idem, markB_bw]; rw [markM_idem l]
theorem markM_mw : ∀ (l : List Mbk) (k : Int), mw (markM k l) = mw l
  | [], k => rfl
  | b :: l, k => by rw [markM, mw_cons, mw_cons, markM_mw l]; simp only [markB_bw]
theorem markM_get (l : List Mbk) (i : Nat) (h : i < l.length) (k : Int) (e : l = markM k l) : (l.getD i default).1 = decide ((k + mw (l.take i)) % 3 = 0) ∧ (l.getD i default).2 = markB (k + mw (l.take i) + 1) (l.getD i default).2 := by
  have h1 : markM k l = (markM k (l.take i) ++ [(decide ((k + mw (l.take i)) % 3 = 0), markB (k + mw (l.take i) + 1) (l.getD i default).2)]) ++ markM (k + mw (l.take (i + 1))) (l.drop (i + 1)) := by
    rw [← markM_take l i h, ← markM_append, List.take_append_drop]
  have h2 : (markM k l).getD i default = (decide ((k + mw (l.take i)) % 3 = 0), markB (k + mw (l.take i) + 1) (l.getD i default).2) := by
    rw [h1]
    have : (markM k (l.take i)).length = i := by simp; omega
    simp [List.getElem?_append, this]
  have h3 : l.getD i default = (markM k l).getD i default := by rw [← e]
  rw [h2] at h3
  exact ⟨congrArg Prod.fst h3, congrArg Prod.snd h3⟩
instance heldMbS_c : Con 68 (∀ (l : List Mbk) (k : Int), (mw l ≤ 1048576 ∧ 0 ≤ k ∧ k ≤ 536870912) ∧ l = markM k l → Fn 68 [MbL l, I k] [] (I (k + mw l))) := ⟨fun l k hk => by
  obtain ⟨hk, hm⟩ := hk
  refine FnC.of_body tabOk Try.func68 Try.ntmps68 rfl (by decide +kernel) (by simp) fun G => ?_
  have hmw : mw l = l.length + (l.map mn).sum := rfl
  refine go (r := ?_); and_intros <;> intros <;> try exact True.intro
  refine WpA.loop (fun i : Nat => ⟨[(0, MbL l), (1, I (k + mw (l.take i))), (5, I i)], []⟩) (fun i => i ≤ l.length) (fun i => l.length - i) 0 (by simp) (go (r := ?_)) (fun i hi => ?_)
  · simp [mw_nil]
  have hle := mw_take_le l i
  have hle2 := mw_take_le l (i + 1)
  have hbt := fun h => mw_take l i h
  have hget := fun h => markM_get l i h k hm
  by_cases hlt : i < l.length
  · obtain ⟨h1, h2⟩ := hget hlt
    have hbt := hbt hlt
    have hbl : bw (l.getD i default).2 ≤ 1048576 := by omega
    refine go (r := ?_); and_intros <;> intros <;> try exact True.intro
    all_goals first | contradiction | omega | trace_state
  · refine go (r := ?_); and_intros <;> intros <;> try exact True.intro
    all_goals first | contradiction | omega | (have e : i = l.length := by omega); subst e; rw [List.take_length]⟩

/-! Streams. -/
instance eqStream_c : Con 25 (∀ (w h q : Int) (b d : Bool) (l : List Int) (M : List Mbk) (w2 h2 q2 : Int) (b2 d2 : Bool) (l2 : List Int) (M2 : List Mbk), l.length ≤ 1099511627776 ∧ l2.length ≤ 1099511627776 ∧ M.length ≤ 1099511627776 ∧ M2.length ≤ 1099511627776 ∧ SmM 1099511627776 M ∧ SmM 1099511627776 M2 →
    Fn 25 [StA w h q b d l M, StA w2 h2 q2 b2 d2 l2 M2] [] (B (decide ((w = w2 ∧ h = h2 ∧ q = q2 ∧ b = b2 ∧ d = d2 ∧ l = l2) ∧ M = M2)))) := ⟨fun w h q b d l M w2 h2 q2 b2 d2 l2 M2 hl => by
  refine FnC.of_body tabOk Try.func25 Try.ntmps25 rfl (by decide +kernel) (by simp) fun G => ?_
  refine go (r := ?_); and_intros <;> intros <;> try (first | exact True.intro | (simp_all; done))⟩
instance markStream_c : ConG 26 (∀ (w h q : Int) (b d : Bool) (l : List Int) (M : List Mbk) (k : Int), l.length + mw M ≤ 1048576 ∧ 0 ≤ k ∧ k ≤ 1024 →
    Gn 26 [.agg [I w, I h, I q, B b, B d, .own 0 0 0 l.length, .own 1 0 0 M.length], I k] [IN l, MbN M] [IN (marksI k l.length), MbN (markM (k + l.length) M)] [] (I (k + l.length + mw M))) := ⟨fun w h q b d l M k hk => by
  refine FnG.of_bodyF tabOk Try.func26 Try.ntmps26 rfl (by decide +kernel) (by simp) rfl rfl fun G => ?_
  refine go (r := ?_); and_intros <;> intros <;> try exact True.intro⟩
instance heldHeader_c : Con 67 (∀ (w h q : Int) (b d : Bool) (l : List Int) (k : Int), (l.length ≤ 1048576 ∧ 0 ≤ k ∧ k ≤ 1024) ∧ l = marksI k l.length → Fn 67 [HdA w h q b d l, I k] [] (I (k + l.length))) := ⟨fun w h q b d l k hk => by
  obtain ⟨hk, hm⟩ := hk
  refine FnC.of_body tabOk Try.func67 Try.ntmps67 rfl (by decide +kernel) (by simp) fun G => ?_
  refine go (r := ?_); and_intros <;> intros <;> try exact True.intro
  all_goals first | (rw [if_pos hm] at *; first | omega | contradiction | rfl) | trace_state⟩
instance heldStream_c : Con 27 (∀ (w h q : Int) (b d : Bool) (l : List Int) (M : List Mbk) (k : Int), (l.length + mw M ≤ 1048576 ∧ 0 ≤ k ∧ k ≤ 1024) ∧ l = marksI k l.length ∧ M = markM (k + l.length) M →
    Fn 27 [StA w h q b d l M, I k] [] (I (k + l.length + mw M))) := ⟨fun w h q b d l M k hk => by
  obtain ⟨hk, hm, hM⟩ := hk
  refine FnC.of_body tabOk Try.func27 Try.ntmps27 rfl (by decide +kernel) (by simp) fun G => ?_
  refine go (r := ?_); and_intros <;> intros <;> try exact True.intro
  all_goals first | omega | contradiction | trace_state⟩
end Go.Proofs.Ytgbahnaejajdgaa

/- Contracts: FastParse; the law FnExactFastParse. No condition. -/
namespace Go.Proofs.Ytgbahnaejajdgaa
open Go Go.Abs
set_option linter.unusedVariables false
set_option linter.unusedSimpArgs false
set_option maxRecDepth 100000
set_option maxHeartbeats 4000000
attribute [local irreducible] WpA WpL Rnd Blk Abs.Seq Abs.Fin Abs.FinG FnC FnG Only

theorem bw_small {l : List Blok} (h : ∀ b ∈ l, b.2.length ≤ 64) : bw l ≤ 65 * l.length := by
  induction l with
  | nil => simp [bw_nil]
  | cons b l ih =>
    have h1 := h b (by simp)
    have h2 := ih fun x hx => h x (by simp [hx])
    rw [bw_cons, List.length_cons]; omega
theorem mw_small {l : List Mbk} (h : ∀ m ∈ l, m.2.length ≤ 4 ∧ ∀ b ∈ m.2, b.2.length ≤ 64) : mw l ≤ 261 * l.length := by
  induction l with
  | nil => simp [mw_nil]
  | cons m l ih =>
    have h1 := h m (by simp)
    have h2 := ih fun x hx => h x (by simp [hx])
    have h3 := bw_small h1.2
    rw [mw_cons, List.length_cons]; omega
theorem prS_sz (p : List UInt8) : (prS p).L.length ≤ 6 ∧ (prS p).ms.length ≤ 16 ∧ mw (prS p).ms ≤ 4176 ∧ SmM 1099511627776 (prS p).ms := by
  have h : (prS p).L.length ≤ 6 ∧ (prS p).ms.length ≤ 16 ∧ mw (prS p).ms ≤ 4176 := by
    by_cases h1 : (hdS p 0).c = 0
    · by_cases h2 : (stRun p (hdS p 0).a (hdS p 0).L (cntM (hdS p 0).W (hdS p 0).H).toNat).c = 0
      · by_cases h3 : endC p (stRun p (hdS p 0).a (hdS p 0).L (cntM (hdS p 0).W (hdS p 0).H).toNat).a = 0
        · rw [prS_4 h1 h2 h3]
          have hb := cntM_bd (hdS_sides h1)
          have hs := stRun_sm (p := p) (s := (hdS p 0).a) (lens := (hdS p 0).L) (cntM (hdS p 0).W (hdS p 0).H).toNat
          have hm := mw_small hs.2
          have hL := hdL_len (hdS p 0)
          refine ⟨hL, ?_, ?_⟩
          · show (stRun _ _ _ _).ms.length ≤ 16
            omega
          · show mw (stRun _ _ _ _).ms ≤ 4176
            omega
        · rw [prS_3 h1 h2 h3]; exact ⟨Nat.zero_le _, Nat.zero_le _, Nat.zero_le _⟩
      · rw [prS_2 h1 h2]; exact ⟨Nat.zero_le _, Nat.zero_le _, Nat.zero_le _⟩
    · rw [prS_1 h1]; exact ⟨Nat.zero_le _, Nat.zero_le _, Nat.zero_le _⟩
  exact ⟨h.1, h.2.1, h.2.2, smM_of (by omega)⟩
section
attribute [local irreducible] prS
instance FastParse_c : Con 24 (∀ (p : List UInt8), p.length ≤ 1099511627776 → Fn 24 [Z p] [XI (prS p).L, MbO (prS p).ms] (.tup [StV (prS p), I (prS p).a, I (prS p).c])) := ⟨fun p hl => by
  refine FnC.of_body tabOk Try.func24 Try.ntmps24 rfl (by decide +kernel) (by simp) fun G => ?_
  refine go (r := ?_); and_intros <;> intros <;> try exact True.intro⟩
instance FastParse_s : Con 23 (∀ (p : List UInt8), p.length ≤ 1099511627776 → Fn 23 [Z p] [XI (prS p).L, MbO (prS p).ms] (.tup [StV (prS p), I (prS p).a, I (prS p).c])) := ⟨fun p hl => by
  refine FnC.of_body tabOk Try.func23 Try.ntmps23 rfl (by decide +kernel) (by simp) fun G => ?_
  refine go (r := ?_); and_intros <;> intros <;> try exact True.intro⟩
theorem FnExactFastParse_c : ∀ (p : List UInt8), p.length ≤ 9223372036854775807 → Fn 5 [Z p] [] (B true) := fun p hl => by
  have hs := prS_sz p
  have hi := markM_idem (prS p).ms
  have hmw := markM_mw (prS p).ms
  refine FnC.of_body tabOk Try.func5 Try.ntmps5 rfl (by decide +kernel) (by simp) fun G => ?_
  refine go (r := ?_); and_intros <;> intros <;> try exact True.intro
  all_goals first | contradiction | omega | exact hs.2.2.2 | (rw [marksI_len, hmw]; omega) | (simp_all; done) | trace_state
end
end Go.Proofs.Ytgbahnaejajdgaa

/- From a contract to the form that a row's shell asks for. No condition. -/
namespace Go.Abs
open Go Go.RowKit
set_option linter.unusedVariables false

theorem FnC.walk {P : Program} {f : FuncId} {args : List AV} {N : List AObj} {x : Value} (hc : FnC P f args N (.sc x)) {w : World} {S : Nat → Prop} {vs : List Value} (hS : ∀ b, S b → b < w.heap.size)
    (hl : LRel S w (fun _ => none) [] args vs []) : Calls P f vs.toArray w fun e w' => e = .returned x ∧ Below w.heap.size w w' := by
  refine (hc.2 w S vs hS hl).mono fun e w' h => ?_
  obtain ⟨v, S', ι, F, rfl, _, _, _, _, _, hv, hk⟩ := h
  cases hv with
  | sc r => exact ⟨rfl, hk.os, hk.tape, hk.output, hk.size, fun b hb => hk.block b hb (fun h => h)⟩

theorem bytes_eq (s : ByteArray) : s = ⟨s.data.toList.toArray⟩ := rfl
theorem bytes_len (s : ByteArray) (h : s.size ≤ maxLen) : s.data.toList.length ≤ 9223372036854775807 := by
  have : s.data.toList.length = s.size := rfl
  simp only [maxLen] at h; omega

theorem spot_none {w : World} {x : Addr} {n : Nat} (h : 0 < n) (hc : ∀ i, i < n → ∃ v, w.cell? (x.add i) = some v) : x.spot = none := by
  obtain ⟨v, hv⟩ := hc 0 h
  simpa [Addr.add] using World.cell?_spot hv

/-- A slice of integers that came in. -/
theorem vrel_ints {S : Nat → Prop} {w : World} {ι : Nat → Spot} {O : List AObj} {k : IntKind} {a : Option Addr} {len cap : Nat} {zs : List Int}
    (h : (a = none ∧ len = 0 ∧ cap = 0 ∧ zs = []) ∨ ∃ x, a = some x ∧ len ≤ cap ∧ cap ≤ maxLen ∧ zs.length = cap ∧ (∀ i, i < zs.length → w.cell? (x.add i) = some (.int k (zs.getD i 0))) ∧ ∀ n ∈ zs, (Lit.int k n).wf = true)
    (hS : ∀ b, b < w.heap.size → S b) : VRel S w ι O (.imm 1 len ((zs.take len).map fun n => .sc (.int k n))) (.slice a len cap) [] ∧ (zs.take len).length = len ∧ len ≤ maxLen ∧ ∀ n ∈ zs.take len, (Lit.int k n).wf = true := by
  rcases h with ⟨rfl, rfl, rfl, rfl⟩ | ⟨x, rfl, h1, h2, h3, h4, h5⟩
  · exact ⟨.imm0 (by simp) .nil, rfl, by simp, by simp⟩
  · have hlen : (zs.take len).length = len := by simp; omega
    refine ⟨?_, hlen, by omega, fun n hn => h5 n (List.mem_of_mem_take hn)⟩
    by_cases h0 : len = 0
    · subst h0; simp; exact .imm0 ⟨by simp, h2⟩ .nil
    · have hsp := spot_none (w := w) (x := x) (n := zs.length) (by omega) fun i hi => ⟨_, h4 i hi⟩
      obtain ⟨b, o, sp⟩ := x
      simp only at hsp
      subst hsp
      refine .imm (us := (zs.take len).map (Value.int k)) ?_ (fun i hi => ?_) ?_ (by simp; omega) h1 h2 .nil
      · have := h4 0 (by omega)
        refine hS _ ?_
        by_cases hb : b < w.heap.size
        · exact hb
        · simp [Addr.add, World.cell?, Array.getElem?_eq_none (Nat.le_of_not_lt hb)] at this
      · have hi' : i < len := by simp at hi; omega
        have := h4 i (by omega)
        rw [addr_add] at this
        rw [this]
        simp [hi', show i < zs.length from by omega]
      · generalize zs.take len = l
        induction l with
        | nil => exact .nil
        | cons y l ih => exact .sc ih
end Go.Abs
