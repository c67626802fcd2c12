/- Proved in this text: lemmas and contracts of functions that the claim uses (parts: RdS, Fld, RdH, AbsZ, AbsRoll, AbsHa). No condition. -/
import Derived.Test.YtgbahnaejajdgaaPkM11
import Derived.Test.YtgbahnaejajdgaaPkM12
import Derived.LoopN

/- Contracts: symbols that are read; what is left of a text. No condition. -/
namespace Go.Proofs.Ytgbahnaejajdgaa
open Go Go.Abs
set_option linter.unusedVariables false
set_option linter.unusedSimpArgs false
set_option maxRecDepth 100000
set_option maxHeartbeats 4000000
attribute [local irreducible] WpA WpL Rnd Blk Abs.Seq Abs.Fin Abs.FinG FnC FnG Only

abbrev R0 : AObj := ⟨[Z [], I 0], 0, 0, none⟩
theorem rb_ok_le {p : List UInt8} {s n m : Int} (h : RbOk p s n) (h0 : 0 ≤ m) (h1 : m ≤ n) : RbOk p s m := ⟨h.1, by omega, by omega⟩
instance ReadSym_c : Con 183 (∀ (p : List UInt8) (s : Int) (l : List Int), p.length ≤ 1099511627776 ∧ l.length ≤ 1099511627776 → Fn 183 [RA p s, IL l] [] (.tup [RA p (smA p s l), I (smV p s l), I (smC p s l)])) := ⟨fun p s l hl => by
  have hb := lft_bd p s
  refine FnC.of_body tabOk Try.func183 Try.ntmps183 rfl (by decide +kernel) (by simp) fun G => ?_
  by_cases hok : CodeOk l
  · have h6 := hok.2.1
    have hcr := codesR_ok l hok
    have hcl := codes_len l
    have hcn := codesR_len l hok
    refine go (r := ?_); and_intros <;> intros <;> try exact True.intro
    all_goals first | (exact absurd hok (by assumption)) | skip
    refine WpA.loop (fun k : Nat => ⟨[(2, .ptr 0 0 0), (4, .ptr 1 0 0), (7, .own 2 0 0 6), (18, IL l), (19, I l.length), (20, I k)], [BoxR p s, R0, XI (codes l)]⟩) (fun k => k ≤ 6 ∧ ∀ m < k, ¬ SymAt p s l m) (fun k => 6 - k) 0 ⟨by omega, fun j hj => by omega⟩ (go (r := ?_)) (fun k hk => ?_)
    · trivial
    have hcb := code_in hok (m := k)
    have hy := fun h => rb_yes (p := p) (s := s) (n := l.getD k 0) h
    refine go (r := ?_); and_intros <;> intros <;> try exact True.intro
    all_goals first
      | (have hsy : SymAt p s l k := ⟨by omega, by assumption, by rw [← (hy (by assumption)).2]; simpa using ‹rbV p s (l.getD k 0) = _›⟩
         obtain ⟨e1, e2, e3⟩ := sm_yes hok (by omega) hsy
         first | (rw [e1, (hy hsy.2.1).1]; done) | (rw [e2]; done) | (rw [e3]; done))
      | (rename_i j hj hs
         rcases Nat.lt_succ_iff_lt_or_eq.1 hj with h | h
         · exact hk.2 j h hs
         · subst h
           obtain ⟨a, b, c⟩ := hs
           first | omega | exact absurd b (by assumption) | (have hv := (hy b).2; rw [c] at hv; rw [Int.toNat_natCast] at *; exact absurd hv (by assumption)))
      | (obtain ⟨e1, e2, e3⟩ := sm_none hok (fun m hm => hk.2 m (by omega))
         first | (rw [e1]; done) | (rw [e2]; done) | (rw [e3]; done))
      | trace_state
  · obtain ⟨e1, e2, e3⟩ := sm_bad (p := p) (s := s) hok
    have hcr := codesR_no l hok
    refine go (r := ?_); and_intros <;> intros <;> try exact True.intro
    all_goals first | (exact absurd (by assumption) hok) | (rw [e1]; done) | (rw [e2]; done) | (rw [e3]; done) | trace_state⟩
instance ReadSym_s : Con 182 (∀ (p : List UInt8) (s : Int) (l : List Int), p.length ≤ 1099511627776 ∧ l.length ≤ 1099511627776 → Fn 182 [RA p s, IL l] [] (.tup [RA p (smA p s l), I (smV p s l), I (smC p s l)])) := ⟨fun p s l hl => by
  have hb := lft_bd p s
  refine FnC.of_body tabOk Try.func182 Try.ntmps182 rfl (by decide +kernel) (by simp) fun G => ?_
  by_cases hok : CodeOk l
  · have h6 := hok.2.1
    have hcr := codesR_ok l hok
    have hcl := codes_len l
    have hcn := codesR_len l hok
    refine go (r := ?_); and_intros <;> intros <;> try exact True.intro
    all_goals first | (exact absurd hok (by assumption)) | (exfalso; omega) | skip
    rw [hcr]
    refine WpA.loop (fun w : Nat => ⟨[(1, IL l), (2, .ptr 0 0 0), (4, .ptr 1 0 0), (7, .own 2 0 0 6), (8, I ((w : Int) + 1))], [BoxR p s, R0, XI (codes l)]⟩) (fun w => w ≤ 7 ∧ (w = 0 ∨ RbOk p s w) ∧ ∀ m < 6, l.getD m 0 ≤ w → ¬ SymAt p s l m) (fun w => 7 - w) 0 ⟨by omega, .inl rfl, fun m hm h1 h2 => by have := h2.1; omega⟩ (go (r := ?_)) (fun w hw => ?_)
    · and_intros <;> first | trivial | (rw [hcr]; done) | trace_state
    have hy := fun h => rb_yes (p := p) (s := s) (n := (w : Int) + 1) h
    obtain ⟨hw1, hw2, hw3⟩ := hw
    have hno : w < 7 → ¬ RbOk p s ((w : Int) + 1) → ∀ m < 6, ¬ SymAt p s l m := fun h7 h m hm hs => by
      by_cases hle : l.getD m 0 ≤ w
      · exact hw3 m hm hle hs
      · exact h (rb_ok_le hs.2.1 (by omega) (by omega))
    have hall : w = 7 → False := fun h7 => by
      subst h7
      obtain ⟨m, hm, hs⟩ := sym_cov (p := p) (s := s) hok (by rcases hw2 with h | h; omega; exact h)
      have := code_in hok hm
      exact hw3 m hm (by omega) hs
    refine go (r := ?_); and_intros <;> intros <;> try exact True.intro
    all_goals first
      | (exact (hall (by omega)).elim)
      | (have hh : ¬ RbOk p s ((w : Int) + 1) := by assumption
         obtain ⟨e1, e2, e3⟩ := sm_none hok (hno (by omega) hh)
         first | (rw [e1]; done) | (rw [e2]; done) | (rw [e3]; done))
      | skip
    refine WpA.loop (fun m : Nat => ⟨[(1, IL l), (2, .ptr 0 0 0), (4, .ptr 1 0 0), (7, .own 2 0 0 6), (8, I ((w : Int) + 1)), (9, .ptr 3 0 0), (10, I (rbV p s ((w : Int) + 1))), (12, I m)], [BoxR p s, R0, XI (codes l), ⟨[Z p, I (rbA p s ((w : Int) + 1))], 0, 0, none⟩]⟩) (fun m => m ≤ 6 ∧ ∀ j < m, l.getD j 0 = (w : Int) + 1 → ¬ SymAt p s l j) (fun m => 6 - m) 0 ⟨by omega, fun j hj => by omega⟩ (go (r := ?_)) (fun m hm => ?_)
    · trivial
    obtain ⟨hm1, hm2⟩ := hm
    have hrb : RbOk p s ((w : Int) + 1) := by assumption
    obtain ⟨e4, e5⟩ := hy hrb
    refine go (r := ?_); and_intros <;> intros <;> try exact True.intro
    all_goals first
      | (have hlm : l.getD m 0 = (w : Int) + 1 := by assumption
         have hcm : (codes l).getD ((m : Int)).toNat 0 = rbV p s ((w : Int) + 1) := by assumption
         have hsy : SymAt p s l m := by
           rw [Int.toNat_natCast] at hcm
           refine ⟨by omega, by rw [hlm]; exact hrb, by rw [hlm, ← e5, hcm]⟩
         obtain ⟨e1, e2, e3⟩ := sm_yes hok (by omega) hsy
         first | (rw [e1, e4, hlm]; done) | (rw [e2]; done) | (rw [e3]; done))
      | (rename_i j hj hlj hs
         rcases Nat.lt_succ_iff_lt_or_eq.1 hj with h | h
         · exact hm2 j h hlj hs
         · subst h
           obtain ⟨a, b, c⟩ := hs
           first | (exact absurd hlj (by assumption)) | (rw [hlj, ← e5] at c; rw [Int.toNat_natCast] at *; exact absurd c.symm (by assumption)))
      | (rename_i j hj hlj hs
         have : m = 6 := by omega
         subst this
         by_cases hle : l.getD j 0 = (w : Int) + 1
         · exact hm2 j hj hle hs
         · exact hw3 j hj (by omega) hs)
      | trace_state
  · obtain ⟨e1, e2, e3⟩ := sm_bad (p := p) (s := s) hok
    have hcr := codesR_no l hok
    have hcr2 : (codesR l).length = 0 := by rw [hcr]; rfl
    refine go (r := ?_); and_intros <;> intros <;> try exact True.intro
    all_goals first | (exact absurd (by assumption) hok) | (exfalso; omega) | (rw [e1]; done) | (rw [e2]; done) | (rw [e3]; done) | trace_state⟩
theorem _root_.Go.Abs.WpA.regionMB0 {P : Program} {n m : Nat} {G : Ctx} {T0 : List (Nat × AV)} {O : List AObj} {l l1 l2 : List Oper} {id : Nat} {out T1 : List (Nat × AV)} {Q : Exit → St → Prop} (k : Nat) (hm : P.follows .mixedOrders = true) (hB : mixB l.toArray k = true)
    (hl : takeF k l = some l1) (hJ : HeadJ P n m G l.toArray T0 O [] l1 out) (hnd : TrueB (nodupB (out.map (·.1)))) (hfr : TrueB (out.all fun p => !has T0 p.1))
    (hT1 : catF out T0 = some T1) (h2 : l.drop k = l2) (h : WpL P n m G false l.toArray l2 ⟨T1, O⟩ Q) : WpA P n m G (.region id l.toArray true) ⟨T0, O⟩ Q := by
  have := takeF_eq hl; subst this; subst h2
  exact WpA.regionM k hm hB hJ hnd.e hfr.e (catF_eq hT1) h
theorem end0 {p : List UInt8} {s : Int} (h : lft p s = 0) : endC p s = 1 := by rw [endC, if_pos h]
instance StopOk_c : Con 136 (∀ (p : List UInt8) (s : Int), p.length ≤ 1099511627776 ∧ RdOk p s → Fn 136 [RA p s] [] (I (endC p s))) := ⟨fun p s hl => by
  have hb := lft_bd p s
  obtain ⟨hl, h1, h2⟩ := hl
  refine FnC.of_body tabOk Try.func136 Try.ntmps136 rfl (by decide +kernel) (by simp) fun G => ?_
  refine goR (r := ?_); and_intros <;> intros <;> try exact True.intro
  · rw [end0 (by assumption)]
  rename_i h0
  by_cases h8 : lft p s ≤ 8
  · apply WpA.regionMB0 14 mixed (by decide +kernel)
    · exact rfl
    · skip
      apply HeadJ.consF rfl
      · exact rfl
      · exact in0
      · exact rfl
      apply HeadJ.consF (V := B true) rfl
      · exact rfl
      · intro Tv
        refine K.L ?_
        refine K.bin ?_
        refine WpL.bin rfl rfl rfl (by decide) ?_
        exact WpL.nil (Only.mk (by rw [decide_eq_true h8]))
      · exact rfl
      apply HeadJ.consF rfl
      · exact rfl
      · exact in0
      · exact rfl
      apply HeadJ.consF rfl
      · exact rfl
      · (intro Tv; refine K.L ?_; refine K.gd ?_; refine K.gT rfl (by decide) rfl ?_; exact in0)
      · exact rfl
      apply HeadJ.consF rfl
      · exact rfl
      · (intro Tv; refine K.L ?_; refine K.gd ?_; refine K.gT rfl (by decide) rfl ?_; exact in0)
      · exact rfl
      apply HeadJ.consF rfl
      · exact rfl
      · (intro Tv; refine K.L ?_; refine K.gd ?_; refine K.gT rfl (by decide) rfl ?_; exact in0)
      · exact rfl
      apply HeadJ.consF rfl
      · exact rfl
      · (intro Tv; refine K.L ?_; refine K.gd ?_; refine K.gT rfl (by decide) rfl ?_; exact in0)
      · exact rfl
      apply HeadJ.consF rfl
      · exact rfl
      · (intro Tv; refine K.L ?_; refine K.gd ?_; refine K.gT rfl (by decide) rfl ?_; exact in0)
      · exact rfl
      apply HeadJ.consF rfl
      · exact rfl
      · (intro Tv; refine K.L ?_; refine K.gd ?_; refine K.gT rfl (by decide) rfl ?_; exact in0)
      · exact rfl
      apply HeadJ.consF rfl
      · exact rfl
      · (intro Tv; refine K.L ?_; refine K.gd ?_; refine K.gT rfl (by decide) rfl ?_; exact in0)
      · exact rfl
      apply HeadJ.consF rfl
      · exact rfl
      · (intro Tv; refine K.L ?_; refine K.gd ?_; refine K.gT rfl (by decide) rfl ?_; exact in0)
      · exact rfl
      apply HeadJ.consF rfl
      · exact rfl
      · (intro Tv; refine K.L ?_; refine K.gd ?_; refine K.gT rfl (by decide) rfl ?_; exact in0)
      · exact rfl
      apply HeadJ.consF rfl
      · exact rfl
      · (intro Tv; refine K.L ?_; refine K.gd ?_; refine K.gT rfl (by decide) rfl ?_; exact in0)
      · exact rfl
      apply HeadJ.consF rfl
      · exact rfl
      · exact in0
      · exact rfl
      exact HeadJ.nil
    · exact trueA
    · exact trueA
    · exact rfl
    · exact rfl
    have hw1 : IntKind.i64.wrap (1 * 2 ^ (lft p s - 1).toNat) = 2 ^ (lft p s - 1).toNat := by
      have e : ((1 : Int) * 2 ^ (lft p s - 1).toNat) = 2 ^ (lft p s - 1).toNat := Int.one_mul _
      have h4 : (2 : Int) ^ (lft p s - 1).toNat ≤ 2 ^ 8 := by exact_mod_cast Nat.pow_le_pow_right (by decide) (by omega)
      have h5 : (0 : Int) < 2 ^ (lft p s - 1).toNat := by exact_mod_cast Nat.pow_pos (by decide)
      rw [e]; exact wrap64 _ (by omega)
    refine go (r := ?_); and_intros <;> intros <;> try exact True.intro
    · rename_i hn
      rw [hw1] at hn
      rw [endC, if_neg h0, if_pos ⟨h8, hn⟩]
    · rename_i hn
      rw [hw1] at hn
      rw [endC, if_neg h0, if_neg fun h => hn h.2]
  · apply WpA.regionMB0 14 mixed (by decide +kernel)
    · exact rfl
    · skip
      apply HeadJ.consF rfl
      · exact rfl
      · exact in0
      · exact rfl
      apply HeadJ.consF (V := B false) rfl
      · exact rfl
      · intro Tv
        refine K.L ?_
        refine K.bin ?_
        refine WpL.bin rfl rfl rfl (by decide) ?_
        exact WpL.nil (Only.mk (by rw [decide_eq_false h8]))
      · exact rfl
      apply HeadJ.consF rfl
      · exact rfl
      · exact in0
      · exact rfl
      apply HeadJ.consF rfl
      · exact rfl
      · (intro Tv; refine K.L ?_; refine K.gd ?_; refine K.gF rfl (by decide) rfl ?_; exact WpL.nil (Only.mk rfl))
      · exact rfl
      apply HeadJ.consF rfl
      · exact rfl
      · (intro Tv; refine K.L ?_; refine K.gd ?_; refine K.gF rfl (by decide) rfl ?_; exact WpL.nil (Only.mk rfl))
      · exact rfl
      apply HeadJ.consF rfl
      · exact rfl
      · (intro Tv; refine K.L ?_; refine K.gd ?_; refine K.gF rfl (by decide) rfl ?_; exact WpL.nil (Only.mk rfl))
      · exact rfl
      apply HeadJ.consF rfl
      · exact rfl
      · (intro Tv; refine K.L ?_; refine K.gd ?_; refine K.gF rfl (by decide) rfl ?_; exact WpL.nil (Only.mk rfl))
      · exact rfl
      apply HeadJ.consF rfl
      · exact rfl
      · (intro Tv; refine K.L ?_; refine K.gd ?_; refine K.gF rfl (by decide) rfl ?_; exact WpL.nil (Only.mk rfl))
      · exact rfl
      apply HeadJ.consF rfl
      · exact rfl
      · (intro Tv; refine K.L ?_; refine K.gd ?_; refine K.gF rfl (by decide) rfl ?_; exact WpL.nil (Only.mk rfl))
      · exact rfl
      apply HeadJ.consF rfl
      · exact rfl
      · (intro Tv; refine K.L ?_; refine K.gd ?_; refine K.gF rfl (by decide) rfl ?_; exact WpL.nil (Only.mk rfl))
      · exact rfl
      apply HeadJ.consF rfl
      · exact rfl
      · (intro Tv; refine K.L ?_; refine K.gd ?_; refine K.gF rfl (by decide) rfl ?_; exact WpL.nil (Only.mk rfl))
      · exact rfl
      apply HeadJ.consF rfl
      · exact rfl
      · (intro Tv; refine K.L ?_; refine K.gd ?_; refine K.gF rfl (by decide) rfl ?_; exact WpL.nil (Only.mk rfl))
      · exact rfl
      apply HeadJ.consF rfl
      · exact rfl
      · (intro Tv; refine K.L ?_; refine K.gd ?_; refine K.gF rfl (by decide) rfl ?_; exact WpL.nil (Only.mk rfl))
      · exact rfl
      apply HeadJ.consF rfl
      · exact rfl
      · exact in0
      · exact rfl
      exact HeadJ.nil
    · exact trueA
    · exact trueA
    · exact rfl
    · exact rfl
    refine go (r := ?_); and_intros <;> intros <;> try exact True.intro
    rw [endC, if_neg h0, if_neg fun h => h8 h.1]⟩
instance StopOk_s : Con 132 (∀ (p : List UInt8) (s : Int), p.length ≤ 1099511627776 ∧ RdOk p s → Fn 132 [RA p s] [] (I (endC p s))) := ⟨fun p s hl => by
  have hb := lft_bd p s
  have hei := end_iff (p := p) (s := s) hl.2
  refine FnC.of_body tabOk Try.func132 Try.ntmps132 rfl (by decide +kernel) (by simp) fun G => ?_
  refine go (r := ?_); and_intros <;> intros <;> try exact True.intro
  · rw [end0 (by assumption)]
  · rename_i h0 h1
    rw [endC, if_neg h0, if_neg]; exact fun h => h1 ((hei (by omega)).1 h.2).1
  · rename_i h0 _ h1
    rw [endC, if_neg h0, if_neg]; omega
  · rename_i h0 _ _ h1
    rw [endC, if_neg h0, if_neg]; exact fun h => h1 ((hei (by omega)).1 h.2).2
  · rename_i h0 h1 h2 h3
    rw [endC, if_neg h0, if_pos]; exact ⟨by omega, (hei (by omega)).2 ⟨h1, h3⟩⟩⟩
end Go.Proofs.Ytgbahnaejajdgaa

/- Contracts: fields that are read one behind the other, and the checks handed to them. No condition. -/
namespace Go.Proofs.Ytgbahnaejajdgaa
open Go Go.Abs
set_option linter.unusedVariables false
set_option linter.unusedSimpArgs false
set_option maxRecDepth 100000
set_option maxHeartbeats 4000000
attribute [local irreducible] WpA WpL Rnd Blk Abs.Seq Abs.Fin Abs.FinG FnC FnG Only

instance unless_c : Con 126 (∀ (b : Bool) (c : Int), Fn 126 [B b, I c] [] (I (bif b then 0 else c))) := ⟨fun b c => by
  cases b
  · refine FnC.of_body tabOk Try.func126 Try.ntmps126 rfl (by decide +kernel) (by simp) fun G => ?_
    refine go (r := ?_); and_intros <;> intros <;> try exact True.intro
    all_goals rfl
  · refine FnC.of_body tabOk Try.func126 Try.ntmps126 rfl (by decide +kernel) (by simp) fun G => ?_
    refine go (r := ?_); and_intros <;> intros <;> try exact True.intro
    all_goals rfl⟩
instance levels1_c : Con 123 (∀ x : Int, Fn 123 [I x] [] (I 0)) := ⟨fun x => by
  refine FnC.of_body tabOk Try.func123 Try.ntmps123 rfl (by decide +kernel) (by simp) fun G => ?_
  refine go (r := ?_); and_intros <;> intros <;> try exact True.intro⟩
instance levels2_c : Con 125 (∀ x n : Int, 0 ≤ n ∧ n ≤ 8 → Fn 125 [I x, .iptr [I n] 0] [] (I (ifE (x < n * n) 5))) := ⟨fun x n h => by
  have hnn := mul_in (a := n) (b := n) (by omega) (by omega)
  refine FnC.of_body tabOk Try.func125 Try.ntmps125 rfl (by decide +kernel) (by simp) fun G => ?_
  refine go (r := ?_); and_intros <;> intros <;> try exact True.intro⟩
instance levels3_c : Con 127 (∀ x n t : Int, (0 ≤ n ∧ n ≤ 8) ∧ 0 ≤ t ∧ t ≤ 1099511627776 → Fn 127 [I x, .iptr [I n] 0, .iptr [I t] 0] [] (I (ifE (x < n * n - t) 5))) := ⟨fun x n t h => by
  have hnn : 0 ≤ n * n ∧ n * n ≤ 64 := ⟨Int.mul_nonneg h.1.1 h.1.1, by have := Int.mul_le_mul h.1.2 h.1.2 h.1.1 (by decide); omega⟩
  have hn2 := mul_in (a := n) (b := n) (by omega) (by omega)
  refine FnC.of_body tabOk Try.func127 Try.ntmps127 rfl (by decide +kernel) (by simp) fun G => ?_
  refine go (r := ?_); and_intros <;> intros <;> try exact True.intro⟩
instance levels4_c : Con 129 (∀ x : Int, -4611686018427387904 ≤ x ∧ x ≤ 4611686018427387904 → Fn 129 [I x] [] (I (ifE (-16383 ≤ lvOf x ∧ lvOf x ≤ 16383) 5))) := ⟨fun x h => by
  refine FnC.of_body tabOk Try.func129 Try.ntmps129 rfl (by decide +kernel) (by simp) fun G => ?_
  refine go (r := ?_); and_intros <;> intros <;> try exact True.intro⟩
abbrev FldO (p : List UInt8) (s c : Int) : AObj := ⟨[Z p, I s, I c], 0, 0, none⟩
/-- A check that is handed over. -/
abbrev Chk (g : Nat) (caps : List AV) (k : Int → Int) : Prop := caps.all AV.still = true ∧ caps.all AV.nofre = true ∧ ∀ x : Int, -1 ≤ x ∧ x ≤ 4294967296 → Fn g (I x :: caps) [] (I (k x))
abbrev ChkB (g : Nat) (caps : List AV) (k : Int → Int) : Prop := caps.all AV.still = true ∧ caps.all AV.nofre = true ∧ ∀ x : Int, 0 ≤ x ∧ x ≤ 4294967296 → Fn g (I x :: caps) [] (I (k x))
theorem fbits_c (p : List UInt8) (s c n : Int) (g : Nat) (caps : List AV) (k : Int → Int) (hl : p.length ≤ 1099511627776) (hk : ChkB g caps k) : Gn 122 [.ptr 0 0 0, I n, .fn g caps] [FldO p s c] [FldO p (fbA p s c n k) (fbC p s c n k)] [] (I (fbV p s c n k)) := by
  obtain ⟨hc1, hc2, hg⟩ := hk
  have hv := rbV_bd p s n
  refine FnG.of_bodyF tabOk Try.func122 Try.ntmps122 rfl (by decide +kernel) (by simp) rfl rfl fun G => ?_
  by_cases hc : c = 0
  · by_cases hok : RbOk p s n
    · have e1 : fbC p s c n k = k (rbV p s n) := by rw [fbC, if_pos hc, if_pos hok]
      refine go (r := ?_); and_intros <;> intros <;> try exact True.intro
      refine K.callT ?_
      refine WpL.callV0 rfl (hg (rbV p s n) ⟨by omega, by omega⟩) rfl (.keep rfl rfl (Snap.same rfl hc1 hc2)) (.sc .nil) rfl rfl (by decide) ?_
      by_cases hk0 : k (rbV p s n) = 0
      · have e2 : fbA p s c n k = rbA p s n := by rw [fbA, if_pos ⟨hc, by rw [e1, hk0]⟩]
        have e3 : fbV p s c n k = rbV p s n := by rw [fbV, if_pos (by rw [e1, hk0])]
        refine go (r := ?_); and_intros <;> intros <;> try exact True.intro
        all_goals first | (exact absurd hk0 (by assumption)) | (rw [e1]; done) | (rw [e2]; done) | (rw [e3]; done) | trace_state
      · have e2 : fbA p s c n k = s := by rw [fbA, if_neg (by rw [e1]; exact fun h => hk0 h.2)]
        have e3 : fbV p s c n k = 0 := by rw [fbV, if_neg (by rw [e1]; exact hk0)]
        refine go (r := ?_); and_intros <;> intros <;> try exact True.intro
        all_goals first | (exact absurd (by assumption) hk0) | (rw [e1]; done) | (rw [e2]; done) | (rw [e3]; done) | trace_state
    · have e1 : fbC p s c n k = 1 := by rw [fbC, if_pos hc, if_neg hok]
      have e2 : fbA p s c n k = s := by rw [fbA, if_neg (by rw [e1]; omega)]
      have e3 : fbV p s c n k = 0 := by rw [fbV, if_neg (by rw [e1]; omega)]
      refine go (r := ?_); and_intros <;> intros <;> try exact True.intro
      all_goals first | (exact absurd (by assumption) hok) | (rw [e1]; done) | (rw [e2]; done) | (rw [e3]; done) | trace_state
  · have e1 : fbC p s c n k = c := by rw [fbC, if_neg hc]
    have e2 : fbA p s c n k = s := by rw [fbA, if_neg (by omega)]
    have e3 : fbV p s c n k = 0 := by rw [fbV, if_neg (by rw [e1]; omega)]
    refine go (r := ?_); and_intros <;> intros <;> try exact True.intro
    all_goals first | (exact absurd (by assumption) hc) | (rw [e1]; done) | (rw [e2]; done) | (rw [e3]; done) | trace_state
theorem ueV_bd (p : List UInt8) (s : Int) : -1 ≤ ueV p s ∧ ueV p s ≤ 4294967296 := by
  have h := rbV_bd p s (2 * (zrs p s : Int) + 1)
  unfold ueV; split <;> omega
theorem fue_c (p : List UInt8) (s c : Int) (g : Nat) (caps : List AV) (k : Int → Int) (hl : p.length ≤ 1099511627776) (hk : Chk g caps k) : Gn 124 [.ptr 0 0 0, .fn g caps] [FldO p s c] [FldO p (fuA p s c k) (fuC p s c k)] [] (I (fuV p s c k)) := by
  obtain ⟨hc1, hc2, hg⟩ := hk
  have hv := ueV_bd p s
  refine FnG.of_bodyF tabOk Try.func124 Try.ntmps124 rfl (by decide +kernel) (by simp) rfl rfl fun G => ?_
  by_cases hc : c = 0
  · by_cases hok : ueC p s = 0
    · have e1 : fuC p s c k = k (ueV p s) := by rw [fuC, if_pos hc, if_pos hok]
      refine go (r := ?_); and_intros <;> intros <;> try exact True.intro
      all_goals first | (exact absurd hok (by assumption)) | skip
      refine K.callT ?_
      refine WpL.callV0 rfl (hg (ueV p s) hv) rfl (.keep rfl rfl (Snap.same rfl hc1 hc2)) (.sc .nil) rfl rfl (by decide) ?_
      by_cases hk0 : k (ueV p s) = 0
      · have e2 : fuA p s c k = ueA p s := by rw [fuA, if_pos (by rw [e1, hk0])]
        have e3 : fuV p s c k = ueV p s := by rw [fuV, if_pos (by rw [e1, hk0])]
        refine go (r := ?_); and_intros <;> intros <;> try exact True.intro
        all_goals first | (exact absurd hk0 (by assumption)) | (rw [e1]; done) | (rw [e2]; done) | (rw [e3]; done) | trace_state
      · have e2 : fuA p s c k = s := by rw [fuA, if_neg (by rw [e1]; exact hk0)]
        have e3 : fuV p s c k = 0 := by rw [fuV, if_neg (by rw [e1]; exact hk0)]
        refine go (r := ?_); and_intros <;> intros <;> try exact True.intro
        all_goals first | (exact absurd (by assumption) hk0) | (rw [e1]; done) | (rw [e2]; done) | (rw [e3]; done) | trace_state
    · have e1 : fuC p s c k = ueC p s := by rw [fuC, if_pos hc, if_neg hok]
      have e2 : fuA p s c k = s := by rw [fuA, if_neg (by rw [e1]; exact hok)]
      have e3 : fuV p s c k = 0 := by rw [fuV, if_neg (by rw [e1]; exact hok)]
      refine go (r := ?_); and_intros <;> intros <;> try exact True.intro
      all_goals first | (exact absurd (by assumption) hok) | (rw [e1]; done) | (rw [e2]; done) | (rw [e3]; done) | trace_state
  · have e1 : fuC p s c k = c := by rw [fuC, if_neg hc]
    have e2 : fuA p s c k = s := by rw [fuA, if_neg (by rw [e1]; exact hc)]
    have e3 : fuV p s c k = 0 := by rw [fuV, if_neg (by rw [e1]; exact hc)]
    refine go (r := ?_); and_intros <;> intros <;> try exact True.intro
    all_goals first | (exact absurd (by assumption) hc) | (rw [e1]; done) | (rw [e2]; done) | (rw [e3]; done) | trace_state

/-! The checks of headers. -/
instance rh1_c : Con 174 (∀ x : Int, Fn 174 [I x] [] (I 0)) := ⟨fun x => by
  refine FnC.of_body tabOk Try.func174 Try.ntmps174 rfl (by decide +kernel) (by simp) fun G => ?_
  refine go (r := ?_); and_intros <;> intros <;> try exact True.intro⟩
instance rh2_c : Con 175 (∀ x : Int, Fn 175 [I x] [] (I (ifE (x ≤ 3) 3))) := ⟨fun x => by
  refine FnC.of_body tabOk Try.func175 Try.ntmps175 rfl (by decide +kernel) (by simp) fun G => ?_
  refine go (r := ?_); and_intros <;> intros <;> try exact True.intro⟩
instance rh4_c : Con 177 (∀ x : Int, Fn 177 [I x] [] (I (ifE (x = 183) 2))) := ⟨fun x => by
  refine FnC.of_body tabOk Try.func177 Try.ntmps177 rfl (by decide +kernel) (by simp) fun G => ?_
  refine go (r := ?_); and_intros <;> intros <;> try exact True.intro⟩
instance rh5_c : Con 178 (∀ x : Int, Fn 178 [I x] [] (I (ifE (x ≤ 51) 3))) := ⟨fun x => by
  refine FnC.of_body tabOk Try.func178 Try.ntmps178 rfl (by decide +kernel) (by simp) fun G => ?_
  refine go (r := ?_); and_intros <;> intros <;> try exact True.intro⟩
theorem and7 (a : Int) (h : 0 ≤ a ∧ a ≤ 4611686018427387904) : IntKind.i64.wrap ((BitVec.ofInt IntKind.i64.bits a &&& BitVec.ofInt IntKind.i64.bits 7).toNat : Nat) = a % 8 := by
  obtain ⟨x, rfl⟩ : ∃ x : Nat, a = x := ⟨a.toNat, by omega⟩
  have h1 : (BitVec.ofInt IntKind.i64.bits (x : Int)).toNat = x := by simp only [IntKind.bits, BitVec.toNat_ofInt]; omega
  have h2 : (BitVec.ofInt IntKind.i64.bits (7 : Int)).toNat = 2 ^ 3 - 1 := by decide
  rw [BitVec.toNat_and, h1, h2, Nat.and_two_pow_sub_one_eq_mod, wrap64 _ (by omega)]
  omega
def lensK (v : Int) (k : Nat) : List Int := (List.range k).map fun j => lenAt v (5 - j)
theorem lensK_6 (v : Int) : lensK v 6 = lensV v := rfl
theorem lensK_succ (v : Int) (k : Nat) : lensK v (k + 1) = lensK v k ++ [lenAt v (5 - k)] := by simp [lensK, List.range_succ]
theorem lensK_len (v : Int) (k : Nat) : (lensK v k).length = k := by simp [lensK]
instance rh3_c : Con 176 (∀ x : Int, 0 ≤ x ∧ x ≤ 4294967296 → Fn 176 [I x] [XI (lensV x)] (.own 0 0 0 6)) := ⟨fun x hx => by
  refine FnC.of_body tabOk Try.func176 Try.ntmps176 rfl (by decide +kernel) (by simp) fun G => ?_
  refine go (r := ?_); and_intros <;> intros <;> try exact True.intro
  refine WpA.loop (fun k : Nat => ⟨[(0, I x), (3, .own 0 0 0 k), (4, I (5 - (k : Int)))], [XI (lensK x k)]⟩) (fun k => k ≤ 6) (fun k => 6 - k) 0 (by omega) (go (r := ?_)) (fun k hk => ?_)
  · simp [lensK]
  have hkl := lensK_len x k
  have hks := lensK_succ x k
  have hd0 := Int.ediv_nonneg (a := x) (b := 2 ^ (3 * (5 - (k : Int))).toNat) hx.1 (Int.pow_nonneg (by decide))
  have hd1 := Int.ediv_le_self (a := x) (2 ^ (3 * (5 - (k : Int))).toNat) hx.1
  have hla : lenAt x (5 - k) = x / 2 ^ (3 * (5 - k)) % 8 := rfl
  refine go (r := ?_); and_intros <;> intros <;> try exact True.intro
  · rw [hks, and7 _ ⟨hd0, by omega⟩, hla, show (3 * (5 - (k : Int))).toNat = 3 * (5 - k) by omega]
  · rw [show k = 6 by omega, lensK_6]⟩
instance rh6_c : Con 179 (∀ x : Int, 0 ≤ x ∧ x ≤ 4294967296 → Fn 179 [I x, .iptr [.fn 176 []] 0] [] (I (ifE (CodeOk (lensV x)) 4))) := ⟨fun x hx => by
  have hll : (lensV x).length = 6 := rfl
  refine FnC.of_body tabOk Try.func179 Try.ntmps179 rfl (by decide +kernel) (by simp) fun G => ?_
  refine go (r := ?_); and_intros <;> intros <;> try exact True.intro⟩
end Go.Proofs.Ytgbahnaejajdgaa

/- Contracts: headers that are read. No condition. -/
namespace Go.Proofs.Ytgbahnaejajdgaa
open Go Go.Abs
set_option linter.unusedVariables false
set_option linter.unusedSimpArgs false
set_option maxRecDepth 100000
set_option maxHeartbeats 4000000
attribute [local irreducible] WpA WpL Rnd Blk Abs.Seq Abs.Fin Abs.FinG FnC FnG Only

theorem fuV_bd (p : List UInt8) (s c : Int) (k : Int → Int) : -1 ≤ fuV p s c k ∧ fuV p s c k ≤ 4294967296 := by
  have := ueV_bd p s
  unfold fuV; split <;> omega
theorem fbV_bd (p : List UInt8) (s c n : Int) (k : Int → Int) : 0 ≤ fbV p s c n k ∧ fbV p s c n k ≤ 4294967296 := by
  have := rbV_bd p s n
  unfold fbV; split <;> omega
abbrev HdV (x : HdS) : AV := .agg [I x.W, I x.H, I x.Q, B x.B, B x.D, .own 0 0 0 x.L.length]
instance ReadHeader_c : Con 134 (∀ (p : List UInt8) (s : Int), p.length ≤ 1099511627776 → Fn 134 [RA p s] [XI (hdS p s).L] (.tup [RA p (hdS p s).a, HdV (hdS p s), I (hdS p s).c])) := ⟨fun p s hl => by
  refine FnC.of_body tabOk Try.func134 Try.ntmps134 rfl (by decide +kernel) (by simp) fun G => ?_
  refine go (r := ?_); and_intros <;> intros <;> try exact True.intro
  refine K.call ?_
  refine WpL.callM (hs := [3]) (fbits_c p s 0 8 177 [] hk1 hl ⟨rfl, rfl, fun x _ => rh4_c.ok x⟩) handA handOA rfl rfl (.cons rfl (.sc (.sc (.sc .nil))) .nil) outA rfl rfl rfl rfl (by decide) ?_
  have b1 := fbV_bd p s 0 8 hk1
  generalize hv1 : fbV p s 0 8 hk1 = v1 at b1 ⊢
  generalize ha1 : fbA p s 0 8 hk1 = a1
  generalize hc1 : fbC p s 0 8 hk1 = c1
  refine go (r := ?_); and_intros <;> intros <;> try exact True.intro
  refine K.call ?_
  refine WpL.callM (hs := [3]) (fue_c p a1 c1 175 [] hk2 hl ⟨rfl, rfl, fun x _ => rh2_c.ok x⟩) handA handOA rfl rfl (.cons rfl (.sc (.sc (.sc .nil))) .nil) outA rfl rfl rfl rfl (by decide) ?_
  have b2 := fuV_bd p a1 c1 hk2
  generalize hv2 : fuV p a1 c1 hk2 = v2 at b2 ⊢
  generalize ha2 : fuA p a1 c1 hk2 = a2
  generalize hc2 : fuC p a1 c1 hk2 = c2
  refine go (r := ?_); and_intros <;> intros <;> try exact True.intro
  refine K.call ?_
  refine WpL.callM (hs := [3]) (fue_c p a2 c2 175 [] hk2 hl ⟨rfl, rfl, fun x _ => rh2_c.ok x⟩) handA handOA rfl rfl (.cons rfl (.sc (.sc (.sc .nil))) .nil) outA rfl rfl rfl rfl (by decide) ?_
  have b3 := fuV_bd p a2 c2 hk2
  generalize hv3 : fuV p a2 c2 hk2 = v3 at b3 ⊢
  generalize ha3 : fuA p a2 c2 hk2 = a3
  generalize hc3 : fuC p a2 c2 hk2 = c3
  refine go (r := ?_); and_intros <;> intros <;> try exact True.intro
  refine K.call ?_
  refine WpL.callM (hs := [3]) (fbits_c p a3 c3 6 178 [] hk3 hl ⟨rfl, rfl, fun x _ => rh5_c.ok x⟩) handA handOA rfl rfl (.cons rfl (.sc (.sc (.sc .nil))) .nil) outA rfl rfl rfl rfl (by decide) ?_
  have b4 := fbV_bd p a3 c3 6 hk3
  generalize hv4 : fbV p a3 c3 6 hk3 = v4 at b4 ⊢
  generalize ha4 : fbA p a3 c3 6 hk3 = a4
  generalize hc4 : fbC p a3 c3 6 hk3 = c4
  refine go (r := ?_); and_intros <;> intros <;> try exact True.intro
  refine K.call ?_
  refine WpL.callM (hs := [3]) (fbits_c p a4 c4 2 174 [] hk4 hl ⟨rfl, rfl, fun x _ => rh1_c.ok x⟩) handA handOA rfl rfl (.cons rfl (.sc (.sc (.sc .nil))) .nil) outA rfl rfl rfl rfl (by decide) ?_
  have b5 := fbV_bd p a4 c4 2 hk4
  generalize hv5 : fbV p a4 c4 2 hk4 = v5 at b5 ⊢
  generalize ha5 : fbA p a4 c4 2 hk4 = a5
  generalize hc5 : fbC p a4 c4 2 hk4 = c5
  refine go (r := ?_); and_intros <;> intros <;> try exact True.intro
  refine K.call ?_
  refine WpL.callM (hs := [3]) (fbits_c p a5 c5 18 179 [.iptr [.fn 176 []] 0] hk5 hl ⟨rfl, rfl, fun x h => rh6_c.ok x h⟩) handA handOA rfl rfl (.cons rfl (.sc (.sc (.sc .nil))) .nil) outA rfl rfl rfl rfl (by decide) ?_
  have b6 := fbV_bd p a5 c5 18 hk5
  generalize hv6 : fbV p a5 c5 18 hk5 = v6 at b6 ⊢
  generalize ha6 : fbA p a5 c5 18 hk5 = a6
  generalize hc6 : fbC p a5 c5 18 hk5 = c6
  have hS : hdS p s = ⟨a6, c6, v2, v3, v4, v5, v6⟩ := by simp only [hdS, ha1, hc1, ha2, hc2, ha3, hc3, ha4, hc4, ha5, hc5, ha6, hc6, hv2, hv3, hv4, hv5, hv6]
  rw [hS]
  clear hS ha1 hc1 ha2 hc2 ha3 hc3 ha4 hc4 ha5 hc5 ha6 hc6 hv1 hv2 hv3 hv4 hv5 hv6
  have hll : (lensV v6).length = 6 := rfl
  by_cases h0 : c6 = 0
  · have eW : HdS.W ⟨a6, c6, v2, v3, v4, v5, v6⟩ = 8 * (v2 + 1) := if_pos h0
    have eH : HdS.H ⟨a6, c6, v2, v3, v4, v5, v6⟩ = 8 * (v3 + 1) := if_pos h0
    have eQ : HdS.Q ⟨a6, c6, v2, v3, v4, v5, v6⟩ = v4 := if_pos h0
    have eL : HdS.L ⟨a6, c6, v2, v3, v4, v5, v6⟩ = lensV v6 := if_pos h0
    have eB : HdS.B ⟨a6, c6, v2, v3, v4, v5, v6⟩ = decide (v5 ≥ 2) := by unfold HdS.B; simp [h0]
    have eD : HdS.D ⟨a6, c6, v2, v3, v4, v5, v6⟩ = decide (v5 % 2 = 1) := by unfold HdS.D; simp [h0]
    have eV : ∀ y : HdS, HdV y = .agg [I y.W, I y.H, I y.Q, B y.B, B y.D, .own 0 0 0 y.L.length] := fun _ => rfl
    rw [eV, eL, eW, eH, eQ, eB, eD]
    refine go (r := ?_); and_intros <;> intros <;> try exact True.intro
  · have eW : HdS.W ⟨a6, c6, v2, v3, v4, v5, v6⟩ = 0 := if_neg h0
    have eH : HdS.H ⟨a6, c6, v2, v3, v4, v5, v6⟩ = 0 := if_neg h0
    have eQ : HdS.Q ⟨a6, c6, v2, v3, v4, v5, v6⟩ = 0 := if_neg h0
    have eL : HdS.L ⟨a6, c6, v2, v3, v4, v5, v6⟩ = [] := if_neg h0
    have eB : HdS.B ⟨a6, c6, v2, v3, v4, v5, v6⟩ = false := by unfold HdS.B; simp [h0]
    have eD : HdS.D ⟨a6, c6, v2, v3, v4, v5, v6⟩ = false := by unfold HdS.D; simp [h0]
    have eV : ∀ y : HdS, HdV y = .agg [I y.W, I y.H, I y.Q, B y.B, B y.D, .own 0 0 0 y.L.length] := fun _ => rfl
    rw [eV, eL, eW, eH, eQ, eB, eD]
    refine go (r := ?_); and_intros <;> intros <;> try exact True.intro⟩
end Go.Proofs.Ytgbahnaejajdgaa

/- Nests of slices written out, step by step in plain form. No condition. -/
namespace Go.Abs
open Go
set_option linter.unusedVariables false
set_option linter.unusedSimpArgs false

def flatV : List AV → Option (List AV)
  | [] => some []
  | c :: O => match flatV O with
    | some r => some (c :: r)
    | none => none
theorem flatV_eq : ∀ {O O2 : List AV}, flatV O = some O2 → O = O2
  | [], O2, h => by simp [flatV] at h; exact h.symm
  | c :: O, O2, h => by
    rw [flatV] at h
    cases hr : flatV O with
    | none => rw [hr] at h; cases h
    | some r => rw [hr] at h; have := flatV_eq hr; subst this; simpa using h
theorem NestC.consF {m id off j len e s ej sj : Nat} {t tj : Option TypeId} {offs : List Nat} {O O1 O2 : List AObj} {c cj cs2 : List AV} (ho : O[id]? = some ⟨c, e, s, t⟩) (hc : c[off]? = some (.own j ej 0 len)) (hj : O[j]? = some ⟨cj, ej, sj, tj⟩) (hne : Nat.beq id j = false) (hm : m ≤ j)
    (hst : cj.all AV.still = true) (hlen : len * sj = cj.length) (hcs : flatV (c.set off (.fre sj len cj)) = some cs2) (h1 : flatO ((O.set id ⟨cs2, e, s, t⟩).set j ⟨[], ej + 1, 0, none⟩) = some O1) (r : NestC m id offs O1 O2) : NestC m id (off :: offs) O O2 := by
  have := flatV_eq hcs; subst this
  exact .cons ho hc hj hne hm rfl hst hlen h1 r
/-- How many places are filled. -/
def cntP : List Fil → Nat
  | [] => 0
  | f :: ks => match f.isPut with
    | true => cntP ks + 1
    | false => cntP ks
theorem isPut_zero (f : Fil) (ks : List Fil) : isPut (f :: ks) 0 = f.isPut := by simp [isPut]
theorem isPut_succ (f : Fil) (ks : List Fil) (i : Nat) : isPut (f :: ks) (i + 1) = isPut ks i := by simp [isPut]
theorem isPut_nil (i : Nat) : isPut [] i = false := by simp [isPut]
theorem cntP_eq : ∀ (ks : List Fil) (k : Nat), ks.length ≤ k → ((List.range k).filter fun i => isPut ks i).length = cntP ks
  | [], k, _ => by
    simp only [isPut_nil, cntP]
    induction List.range k with
    | nil => rfl
    | cons a l ih => simp
  | f :: ks, 0, h => by simp at h
  | f :: ks, k + 1, h => by
    have ih := cntP_eq ks k (by simpa using h)
    rw [List.range_succ_eq_map, List.filter_cons, isPut_zero, List.filter_map]
    have e : ((fun i => isPut (f :: ks) i) ∘ Nat.succ) = fun i => isPut ks i := by funext i; exact isPut_succ f ks i
    rw [e]
    cases hf : f.isPut with
    | true => simp only [if_true, List.length_cons, List.length_map, ih, cntP, hf]
    | false => simp only [Bool.false_eq_true, if_false, List.length_map, ih, cntP, hf]
section
variable {P : Program} {n m : Nat} {G : Ctx} {T0 : List (Nat × AV)} {O : List AObj}
theorem WpA.regionQ1 {l l1 l2 : List Oper} {id : Nat} {out T1 : List (Nat × AV)} {ks : List Fil} {O1 F D : List AObj} {Q : Exit → St → Prop} (k c : Nat) (hm : P.follows .mixedOrders = true) (hB : mixB l.toArray k = true)
    (hl : takeF k l = some l1) (hJ : HeadQ P n m G l.toArray T0 O (List.replicate c roomO) [] [] [] l1 out ks) (hok : spotsB c (spots ks) = true) (hnd : nodupB (out.map (·.1)) = true) (hfr : (out.all fun p => !has T0 p.1) = true)
    (hT1 : catF out T0 = some T1) (h2 : l.drop k = l2) (hF : flatO (fillAll ks (List.replicate c roomO)) = some F) (hD : flatO (List.replicate (cntP ks) deadO) = some D) (hO : flatO (catO O (catO F D)) = some O1) (h : WpL P n m G false l.toArray l2 ⟨T1, O1⟩ Q) : WpA P n m G (.region id l.toArray true) ⟨T0, O⟩ Q := by
  have hkl : ks.length ≤ k := by
    obtain ⟨_, s, _, _, h3, h4⟩ := hJ.pre
    have e := takeF_eq hl
    have e2 : l1.length ≤ k := by rw [← e]; simp; omega
    rw [h3]; simp [h4]; omega
  refine WpA.regionQ0 k c hm hB hl hJ hok hnd hfr hT1 h2 ?_ h
  rw [cntP_eq ks k hkl, flatO_eq hF, flatO_eq hD, flatO_eq hO]
end
end Go.Abs

/- A loop rolled out round by round. No condition. -/
namespace Go.Abs
open Go
set_option linter.unusedVariables false
set_option linter.unusedSimpArgs false

def RollN (P : Program) (n m : Nat) (G : Ctx) (c : Code) (Q : Exit → St → Prop) : Nat → St → Prop
  | 0, _ => False
  | k + 1, σ => WpA P n m G c σ (Seq (RollN P n m G c Q k) Q)
section
variable {P : Program} {n m : Nat} {G : Ctx} {c : Code} {Q : Exit → St → Prop} {σ : St}
theorem RollN.s {k : Nat} (h : WpA P n m G c σ (Seq (RollN P n m G c Q k) Q)) : RollN P n m G c Q (k + 1) σ := h
theorem WpA.roll (k : Nat) (h : RollN P n m G c Q k σ) : WpA P n m G (.loop c) σ Q := by
  have key : ∀ k σ a w, RollN P n m G c Q k σ → Rel n m G σ a w → Code.rounds P c (fun e a' w' => ∃ σ', Q e σ' ∧ Rel n m G σ' a' w') k a w := by
    intro k
    induction k with
    | zero => intro σ a w h _; exact h.elim
    | succ k ih =>
      intro σ a w h hr
      have h1 : c.wp P (fun e a' w' => ∃ σ', Seq (RollN P n m G c Q k) Q e σ' ∧ Rel n m G σ' a' w') a w := h a w hr
      exact wp_mono h1 fun e a' w' ⟨σ', hQ, hR⟩ => by
        cases e with
        | normal => exact ih σ' a' w' hQ hR
        | _ => exact ⟨σ', hQ, hR⟩
  exact fun a w hr => wp_loop_rounds k (key k σ a w h hr)
end
end Go.Abs

/- Contracts of functions that turn and move what they are handed; handed objects that name each other; calls under them. No condition. -/
namespace Go.Abs
open Go
set_option linter.unusedVariables false
set_option linter.unusedSimpArgs false

/-- CALLED WITH SUCH ARGUMENTS, WHICH NAME THE OBJECTS 'M', IT RETURNS 'r'; the objects are then 'OO': the first k of M in their places, turned; the others of M may be gone; nothing else turns. -/
def FnH (P : Program) (f : FuncId) (args : List AV) (k : Nat) (M OO : List AObj) (r : AV) : Prop :=
  Runs P f ∧ k ≤ M.length ∧ k ≤ OO.length ∧ ∀ (w : World) (S : Nat → Prop) (ι : Nat → Spot) (F : Nat → List Nat) (vs : List Value), (∀ b, S b → b < w.heap.size) → ORel S w ι M F → (∀ id, id < M.length → ∀ b ∈ F id, ¬ S b ∧ b < w.heap.size) →
    LRel S w ι M args vs [] → Calls P f vs.toArray w fun e w' => ∃ v S' ι' F', e = .returned v ∧ (∀ b, S b → S' b) ∧ (∀ b, S' b → S b ∨ w.heap.size ≤ b) ∧ (∀ b, S' b → b < w'.heap.size) ∧ (∀ id, id < k → ι' id = ι id) ∧
      ORel S' w' ι' OO F' ∧ (∀ id, id < OO.length → ∀ b ∈ F' id, ((∃ i, i < M.length ∧ b ∈ F i) ∨ w.heap.size ≤ b) ∧ ¬ S' b ∧ b < w'.heap.size) ∧ VRel S' w' ι' OO r v [] ∧
      Keeps w (fun b => ∃ i, i < M.length ∧ b ∈ F i) w'

inductive ResH (tab : List (Nat × Ty)) (OO : List AObj) (r : AV) : Array ResultVar → St → Prop
  | zero {T} : r = .tup [] → ResH tab OO r #[] ⟨T, OO⟩
  | one {r1 T} : ResV tab T OO r1 r → ResH tab OO r #[r1] ⟨T, OO⟩
  | two {r1 r2 V1 V2 T} : ResV tab T OO r1 V1 → ResV tab T OO r2 V2 → r = .tup [V1, V2] → ResH tab OO r #[r1, r2] ⟨T, OO⟩
def FinH (tab : List (Nat × Ty)) (rs : Array ResultVar) (OO : List AObj) (r : AV) : Exit → St → Prop
  | .ret, σ => ResH tab OO r rs σ
  | .normal, σ => ResH tab OO r rs σ
  | _, _ => False
section
variable {P : Program} {n m : Nat} {G : Ctx} {T : List (Nat × AV)} {O : List AObj} {Q : Exit → St → Prop} {ops : Array Oper} {l : List Oper} {d : Nat} {tt : TypeId} {pos : String} {after : Array Edge} {tab : List (Nat × Ty)}
theorem FinH.ret {rs : Array ResultVar} {OO : List AObj} {r : AV} {σ : St} (h : ResH tab OO r rs σ) : FinH tab rs OO r .ret σ := h
theorem FinH.normal {rs : Array ResultVar} {OO : List AObj} {r : AV} {σ : St} (h : ResH tab OO r rs σ) : FinH tab rs OO r .normal σ := h
theorem ResH.out (hP : TabOk P tab) {rs : Array ResultVar} {OO : List AObj} {r : AV} {σ : St} {a : Act} {w : World} {fn : Func} (hfr : fn.results = rs) (h : ResH tab OO r rs σ) (hr : Rel n m G σ a w) :
    ∃ v, (results fn a.tmps).run P w = .ok v w ∧ ∃ S' ι F, (∀ b, G.S0 b → S' b) ∧ (∀ b, S' b → G.S0 b ∨ G.w0.heap.size ≤ b) ∧ (∀ b, S' b → b < w.heap.size) ∧ (∀ id, id < m → ι id = G.ι0 id) ∧ ORel S' w ι OO F ∧
      (∀ id, id < OO.length → ∀ b ∈ F id, (G.M0 b ∨ G.w0.heap.size ≤ b) ∧ ¬ S' b ∧ b < w.heap.size) ∧ VRel S' w ι OO r v [] ∧ Keeps G.w0 G.M0 w := by
  obtain ⟨S, ι, F, hr⟩ := hr
  cases h with
  | zero e => subst e; exact ⟨_, run_results0 hfr, S, ι, F, hr.base.1, hr.base.2, hr.stable, hr.spots, hr.objs, hr.foot, by simpa using LRel.tup LRel.nil LRel.nil, hr.keeps⟩
  | one h1 =>
    obtain ⟨v, hv, hV⟩ := ResV.rel hP hr h1
    exact ⟨v, run_results1 hfr hv, S, ι, F, hr.base.1, hr.base.2, hr.stable, hr.spots, hr.objs, hr.foot, hV, hr.keeps⟩
  | two h1 h2 e =>
    subst e
    obtain ⟨v1, hv1, hV1⟩ := ResV.rel hP hr h1
    obtain ⟨v2, hv2, hV2⟩ := ResV.rel hP hr h2
    exact ⟨_, run_results2 hfr hv1 hv2, S, ι, F, hr.base.1, hr.base.2, hr.stable, hr.spots, hr.objs, hr.foot, by simpa using LRel.tup (LRel.cons hV1 hV2) .nil, hr.keeps⟩
theorem FnH.of_body (hP : TabOk P tab) {f : FuncId} {fn : Func} {c : Code} {args : List AV} {M OO : List AObj} {r : AV} {k m : Nat} (hf : P.funcs[f]? = some fn) (hnt : fn.ntmps = k) (hb : fn.body = some c) (hnm : (fn.name == "runtime.NumGoroutine") = false)
    (hal : args.length ≤ k) (hml : m ≤ M.length) (hmo : m ≤ OO.length) (h : ∀ G, WpA P k m G c ⟨enumT 0 args, M⟩ (FinH tab fn.results OO r)) : FnH P f args m M OO r := by
  refine ⟨⟨fn, hf, by rw [hb]; rfl, hnm⟩, hml, hmo, fun w S ι F vs hS hO hF hl => ?_⟩
  have hvl : vs.length = args.length := hl.len.symm
  refine calls_of_wp hf hb ?_
  have hrel : Rel k m ⟨w, S, fun b => ∃ i, i < M.length ∧ b ∈ F i, ι⟩ ⟨enumT 0 args, M⟩ { tmps := vs.toArray ++ Array.replicate (fn.ntmps - vs.toArray.size) undef, defers := [] } w := by
    refine ⟨S, ι, F, rfl, ?_, fun t => ?_, hO, fun id hid b hb => ⟨.inl ⟨id, hid, hb⟩, hF id hid b hb⟩, ⟨fun _ h => h, fun _ h => .inl h⟩, hS, Keeps.refl _ _, fun _ _ => rfl, by show m ≤ M.length; omega⟩
    · simp [hnt]; omega
    · show VRel S w ι M (look (enumT 0 args) t) _ []
      rw [look_enumT]
      simp only [Nat.zero_le, if_true, Nat.sub_zero]
      by_cases ht : t < args.length
      · obtain ⟨x, g, hx, hV, hg⟩ := hl.get (List.getElem?_eq_getElem ht)
        have hg0 : g = [] := List.eq_nil_iff_forall_not_mem.2 fun b hb => by simpa using hg b hb
        subst hg0
        have e1 : args.getD t .any = args[t] := by simp [ht]
        have e2 : (vs.toArray ++ Array.replicate (fn.ntmps - vs.toArray.size) undef).getD t undef = x := by
          have : t < vs.length := by omega
          rw [List.getElem?_eq_getElem this] at hx
          simp only [Option.some.injEq] at hx
          simp [Array.getD_eq_getD_getElem?, Array.getElem?_append, this, hx]
        rw [e1, e2]; exact hV
      · have e1 : args.getD t .any = .any := by simp [List.getElem?_eq_none (Nat.le_of_not_lt ht)]
        rw [e1]; exact .any .nil
  refine wp_mono (h _ _ _ hrel) fun e a' w' ⟨σ', hq, hr'⟩ => ?_
  have hdef : a'.defers = [] := by obtain ⟨_, _, _, h⟩ := hr'; exact h.defers
  cases e with
  | normal =>
    obtain ⟨v, hv, S', ι', F', q1, q2, q3, q4, q5⟩ := ResH.out hP rfl hq hr'
    exact ⟨hdef, v, hv, v, S', ι', F', rfl, q1, q2, q3, q4, q5⟩
  | ret =>
    obtain ⟨v, hv, S', ι', F', q1, q2, q3, q4, q5⟩ := ResH.out hP rfl hq hr'
    exact ⟨hdef, v, hv, v, S', ι', F', rfl, q1, q2, q3, q4, q5⟩
  | _ => exact hq.elim
end

/-! Handing over. -/
/-- The objects handed over: their cells as they are (still ones), or told by the places among those handed. -/
inductive HandH (O : List AObj) (hs0 : List Nat) : List Nat → List AObj → Prop
  | nil : HandH O hs0 [] []
  | still {id hs ob mb M} : O[id]? = some ob → ob.cells = mb.cells → mb.cells.all AV.still = true → mb.ep = 0 → mb.size = ob.size → (mb.ty = none ∨ mb.ty = ob.ty) → HandH O hs0 hs M → HandH O hs0 (id :: hs) (mb :: M)
  | hand {id hs ob mb M} : O[id]? = some ob → Hand O hs0 ob.cells mb.cells → ob.cells.all AV.nofre = true → mb.ep = 0 → mb.size = ob.size → (mb.ty = none ∨ mb.ty = ob.ty) → HandH O hs0 hs M → HandH O hs0 (id :: hs) (mb :: M)
theorem HandH.at {O hs0 hs M} (h : HandH O hs0 hs M) : hs.length = M.length ∧ ∀ (j : Nat) (mb : AObj), M[j]? = some mb → ∃ id ob, hs[j]? = some id ∧ O[id]? = some ob ∧ ((ob.cells = mb.cells ∧ mb.cells.all AV.still = true) ∨ (Hand O hs0 ob.cells mb.cells ∧ ob.cells.all AV.nofre = true)) ∧ mb.ep = 0 ∧ mb.size = ob.size ∧ (mb.ty = none ∨ mb.ty = ob.ty) := by
  induction h with
  | nil => exact ⟨rfl, by simp⟩
  | still h1 h2 h3 h4 h5 h6 _ ih =>
    refine ⟨by simp [ih.1], fun j mb hj => ?_⟩
    cases j with
    | zero => simp at hj; subst hj; exact ⟨_, _, by simp, h1, .inl ⟨h2, h3⟩, h4, h5, h6⟩
    | succ j => simpa using ih.2 j mb (by simpa using hj)
  | hand h1 h2 h3 h4 h5 h6 _ ih =>
    refine ⟨by simp [ih.1], fun j mb hj => ?_⟩
    cases j with
    | zero => simp at hj; subst hj; exact ⟨_, _, by simp, h1, .inr ⟨h2, h3⟩, h4, h5, h6⟩
    | succ j => simpa using ih.2 j mb (by simpa using hj)
theorem nofre_list {S w ι O} : ∀ {cs : List AV} {xs f}, LRel S w ι O cs xs f → cs.all AV.nofre = true → f = []
  | [], xs, f, h, _ => by cases h; rfl
  | c :: cs, xs, f, h, hn => by
    rw [List.all_cons, Bool.and_eq_true] at hn
    obtain ⟨v, vs', f1, f2, rfl, hv, hr, rfl⟩ := h.uncons
    rw [nofre_nil hv hn.1, nofre_list hr hn.2]; rfl
theorem Hand.relH {O : List AObj} {hs : List Nat} {M : List AObj} {S S2 : Nat → Prop} {w ι ιM} (hM : hs.length = M.length ∧ ∀ (j : Nat) (mb : AObj), M[j]? = some mb → ∃ id ob, hs[j]? = some id ∧ O[id]? = some ob ∧ mb.ep = 0 ∧ mb.size = ob.size) (hι : ∀ (j id : Nat), hs[j]? = some id → ιM j = ι id) (hS : ∀ b, S b → S2 b)
    {F : Nat → List Nat} (hO : ORel S w ι O F) (hS2 : ∀ b, b < w.heap.size → (∀ id ∈ hs, b ∉ F id) → S2 b) (hlt : ∀ id ∈ hs, id < O.length) {vs us} (h : Hand O hs vs us) : ∀ {xs}, LRel S w ι O vs xs [] → LRel S2 w ιM M us xs [] := by
  induction h with
  | nil => intro xs hl; cases hl; exact .nil
  | any _ ih =>
    intro xs hl
    obtain ⟨v, vs', f1, f2, rfl, hv, hr, hf⟩ := hl.uncons
    obtain ⟨rfl, rfl⟩ : f1 = [] ∧ f2 = [] := by simpa using hf
    exact .any (ih hr)
  | keep hs hn _ ih =>
    intro xs hl
    obtain ⟨v, vs', f1, f2, rfl, hv, hr, hf⟩ := hl.uncons
    obtain ⟨rfl, rfl⟩ : f1 = [] ∧ f2 = [] := by simpa using hf
    exact LRel.cons (still_any hv hs M hS (fun _ _ => rfl) (by simp)) (ih hr)
  | @own id ep off len len' j ob vs us hj ho he hln _ ih =>
    intro xs hl
    subst hln
    obtain ⟨v, vs', f1, f2, rfl, hv, hr, hf⟩ := hl.uncons
    obtain ⟨rfl, rfl⟩ : f1 = [] ∧ f2 = [] := by simpa using hf
    cases hv with
    | own q1 q2 q3 r =>
      rw [ho] at q1; cases q1
      have hjl : j < M.length := by rw [← hM.1]; exact (List.getElem?_eq_some_iff.1 hj).1
      obtain ⟨id', ob', e1, e2, e5, e6⟩ := hM.2 j _ (List.getElem?_eq_getElem hjl)
      rw [hj] at e1; cases e1
      rw [ho] at e2; cases e2
      exact .own (List.getElem?_eq_getElem hjl) (by omega) (fun _ => by rw [hι j _ hj, e6]; exact q3 he.symm) (ih hr)
  | @ptr id ep off j ob vs us hj ho he _ ih =>
    intro xs hl
    obtain ⟨v, vs', f1, f2, rfl, hv, hr, hf⟩ := hl.uncons
    obtain ⟨rfl, rfl⟩ : f1 = [] ∧ f2 = [] := by simpa using hf
    cases hv with
    | ptr q1 q2 q3 r =>
      rw [ho] at q1; cases q1
      have hjl : j < M.length := by rw [← hM.1]; exact (List.getElem?_eq_some_iff.1 hj).1
      obtain ⟨id', ob', e1, e2, e5, e6⟩ := hM.2 j _ (List.getElem?_eq_getElem hjl)
      rw [hj] at e1; cases e1
      rw [ho] at e2; cases e2
      exact .ptr (List.getElem?_eq_getElem hjl) (by omega) (fun _ => by rw [hι j _ hj]; exact q3 he.symm) (ih hr)
  | agg _ _ ih1 ih2 =>
    intro xs hl
    obtain ⟨v, vs', f1, f2, rfl, hv, hr, hf⟩ := hl.uncons
    obtain ⟨rfl, rfl⟩ : f1 = [] ∧ f2 = [] := by simpa using hf
    obtain ⟨us', rfl, ha⟩ := LRel.agg_inv hv
    simpa using LRel.agg (ih1 ha) (ih2 hr)
  | snap hx _ ih =>
    intro xs hl
    obtain ⟨v, vs', f1, f2, rfl, hv, hr, hf⟩ := hl.uncons
    obtain ⟨rfl, rfl⟩ : f1 = [] ∧ f2 = [] := by simpa using hf
    have := SnapX.rel (ιM := ιM) hO hS hS2 hlt hx hv (by simp)
    simpa using LRel.cons this.lift (ih hr)

/-! What the callee's objects are to the caller. -/
inductive Back (O : List AObj) (hs : List Nat) (m base : Nat) : List AV → List AV → Prop
  | nil : Back O hs m base [] []
  | loc {V vs us} : V.still = true → Loc [V] → Back O hs m base vs us → Back O hs m base (V :: vs) (V :: us)
  | old {j off len id ob vs us} : j < m → hs[j]? = some id → O[id]? = some ob → Back O hs m base vs us → Back O hs m base (.own j 0 off len :: vs) (.own id ob.ep off len :: us)
  | new {j i ep off len vs us} : m ≤ j → i = j - m + base → Back O hs m base vs us → Back O hs m base (.own j ep off len :: vs) (.own i ep off len :: us)
  | pold {j off id ob vs us} : j < m → hs[j]? = some id → O[id]? = some ob → Back O hs m base vs us → Back O hs m base (.ptr j 0 off :: vs) (.ptr id ob.ep off :: us)
  | pnew {j i ep off vs us} : m ≤ j → i = j - m + base → Back O hs m base vs us → Back O hs m base (.ptr j ep off :: vs) (.ptr i ep off :: us)
  | agg {ds es vs us} : Back O hs m base ds es → Back O hs m base vs us → Back O hs m base (.agg ds :: vs) (.agg es :: us)
  | tup {ds es vs us} : Back O hs m base ds es → Back O hs m base vs us → Back O hs m base (.tup ds :: vs) (.tup es :: us)
theorem Back.all {O : List AObj} {hs : List Nat} {m base : Nat} {cs cs' : List AV} (he : cs = cs') (h1 : cs'.all AV.still = true) (h2 : Loc cs') : Back O hs m base cs cs' := by
  subst he
  induction cs with
  | nil => exact .nil
  | cons c cs ih =>
    rw [List.all_cons, Bool.and_eq_true] at h1
    cases h2 with
    | any r => exact .loc rfl (.any .nil) (ih h1.2 r)
    | sc r => exact .loc rfl (.sc .nil) (ih h1.2 r)
    | nilS r => exact .loc rfl (.nilS .nil) (ih h1.2 r)
    | own r => simp [AV.still] at h1
    | fre a r => exact .loc rfl (.fre a .nil) (ih h1.2 r)
    | agg => simp [AV.still] at h1
    | tup => simp [AV.still] at h1
theorem Back.rel {O OO O3 : List AObj} {hs : List Nat} {m base : Nat} {S' S3 : Nat → Prop} {w' ι' ι3} (hold : ∀ (j id : Nat) (ob : AObj), j < m → hs[j]? = some id → O[id]? = some ob → ∃ oj o3, OO[j]? = some oj ∧ oj.ep = 0 ∧ O3[id]? = some o3 ∧ o3.ep = ob.ep ∧ o3.size = oj.size ∧ ι3 id = ι' j)
    (hnew : ∀ (j : Nat) (oj : AObj), m ≤ j → OO[j]? = some oj → ∃ o3, O3[j - m + base]? = some o3 ∧ o3.ep = oj.ep ∧ o3.size = oj.size ∧ ι3 (j - m + base) = ι' j) {vs us} (h : Back O hs m base vs us) :
    ∀ {xs f}, LRel S' w' ι' OO vs xs f → LRel S3 w' ι3 O3 us xs f := by
  induction h with
  | nil => intro xs f hl; cases hl; exact .nil
  | loc hs1 hL _ ih =>
    intro xs f hl
    obtain ⟨v, vs', f1, f2, rfl, hv, hr, rfl⟩ := hl.uncons
    exact LRel.cons (Loc.rel hL (still_any (S' := S') hv hs1 O3 (fun _ h => h) (fun _ _ => rfl) (fun _ _ => rfl))) (ih hr)
  | @old j off len id ob vs us hj hjs ho _ ih =>
    intro xs f hl
    obtain ⟨oj, o3, e1, e2, e3, e4, e5, e6⟩ := hold j id ob hj hjs ho
    cases hl with
    | own q1 q2 q3 r =>
      rw [e1] at q1; cases q1
      exact .own e3 (by omega) (fun _ => by rw [e6, e5]; exact q3 e2.symm) (ih r)
  | @new j i ep off len vs us hj hi _ ih =>
    intro xs f hl
    subst hi
    cases hl with
    | own q1 q2 q3 r =>
      obtain ⟨o3, e1, e2, e3, e4⟩ := hnew j _ hj q1
      exact .own e1 (by omega) (fun e => by rw [e4, e3]; exact q3 (by omega)) (ih r)
  | @pold j off id ob vs us hj hjs ho _ ih =>
    intro xs f hl
    obtain ⟨oj, o3, e1, e2, e3, e4, e5, e6⟩ := hold j id ob hj hjs ho
    cases hl with
    | ptr q1 q2 q3 r =>
      rw [e1] at q1; cases q1
      exact .ptr e3 (by omega) (fun _ => by rw [e6]; exact q3 e2.symm) (ih r)
  | @pnew j i ep off vs us hj hi _ ih =>
    intro xs f hl
    subst hi
    cases hl with
    | ptr q1 q2 q3 r =>
      obtain ⟨o3, e1, e2, e3, e4⟩ := hnew j _ hj q1
      exact .ptr e1 (by omega) (fun e => by rw [e4]; exact q3 (by omega)) (ih r)
  | agg _ _ ih1 ih2 =>
    intro xs f hl
    obtain ⟨v, vs', f1, f2, rfl, hv, hr, rfl⟩ := hl.uncons
    obtain ⟨us', rfl, ha⟩ := LRel.agg_inv hv
    exact .agg (ih1 ha) (ih2 hr)
  | tup _ _ ih1 ih2 =>
    intro xs f hl
    obtain ⟨v, vs', f1, f2, rfl, hv, hr, rfl⟩ := hl.uncons
    obtain ⟨us', rfl, ha⟩ := LRel.tup_inv hv
    exact .tup (ih1 ha) (ih2 hr)
theorem Back.len {O : List AObj} {hs : List Nat} {m base : Nat} {vs us : List AV} (h : Back O hs m base vs us) : us.length = vs.length := by
  induction h <;> simp_all
/-- The caller's objects behind the call. -/
inductive AftO (O : List AObj) (hs : List Nat) (m base : Nat) (OO : List AObj) : Nat → List AObj → List AObj → Prop
  | nil {k} : AftO O hs m base OO k [] []
  | keep {k ob os us} : findN hs k 0 = none → AftO O hs m base OO (k + 1) os us → AftO O hs m base OO k (ob :: os) (ob :: us)
  | turn {k c e s t os us j cj sj tj cs} : findN hs k 0 = some j → j < m → OO[j]? = some ⟨cj, 0, sj, tj⟩ → sj = s → Back O hs m base cj cs → AftO O hs m base OO (k + 1) os us → AftO O hs m base OO k (⟨c, e, s, t⟩ :: os) (⟨cs, e, sj, tj⟩ :: us)
  | dead {k c e s t os us j} : findN hs k 0 = some j → m ≤ j → AftO O hs m base OO (k + 1) os us → AftO O hs m base OO k (⟨c, e, s, t⟩ :: os) (⟨[], e + 1, 0, none⟩ :: us)
inductive AftN (O : List AObj) (hs : List Nat) (m base : Nat) : List AObj → List AObj → Prop
  | nil : AftN O hs m base [] []
  | cons {c e s t cs os us} : Back O hs m base c cs → AftN O hs m base os us → AftN O hs m base (⟨c, e, s, t⟩ :: os) (⟨cs, e, s, t⟩ :: us)
theorem AftN.at {O hs m base os us} (h : AftN O hs m base os us) : us.length = os.length ∧ ∀ (i : Nat) (oj : AObj), os[i]? = some oj → ∃ cs, us[i]? = some ⟨cs, oj.ep, oj.size, oj.ty⟩ ∧ Back O hs m base oj.cells cs := by
  induction h with
  | nil => exact ⟨rfl, by simp⟩
  | @cons c e s t cs os us hb _ ih =>
    refine ⟨by simp [ih.1], fun i oj hi => ?_⟩
    cases i with
    | zero => simp at hi; subst hi; exact ⟨cs, by simp, hb⟩
    | succ i => simpa using ih.2 i oj (by simpa using hi)
theorem AftO.at {O hs m base OO k os us} (h : AftO O hs m base OO k os us) : us.length = os.length ∧ ∀ (i : Nat) (ob : AObj), os[i]? = some ob →
    (findN hs (k + i) 0 = none ∧ us[i]? = some ob) ∨ (∃ j oj cs, findN hs (k + i) 0 = some j ∧ j < m ∧ OO[j]? = some oj ∧ oj.ep = 0 ∧ oj.size = ob.size ∧ us[i]? = some ⟨cs, ob.ep, oj.size, oj.ty⟩ ∧ Back O hs m base oj.cells cs) ∨
      (∃ j, findN hs (k + i) 0 = some j ∧ m ≤ j ∧ us[i]? = some ⟨[], ob.ep + 1, 0, none⟩) := by
  induction h with
  | nil => exact ⟨rfl, by simp⟩
  | @keep k ob os us hf _ ih =>
    refine ⟨by simp [ih.1], fun i o hi => ?_⟩
    cases i with
    | zero => simp at hi; subst hi; exact .inl ⟨hf, by simp⟩
    | succ i => have := ih.2 i o (by simpa using hi); rw [show k + 1 + i = k + (i + 1) by omega] at this; simpa using this
  | @turn k c e s t os us j cj sj tj cs hf hj hoj hsz hb _ ih =>
    refine ⟨by simp [ih.1], fun i o hi => ?_⟩
    cases i with
    | zero => simp at hi; subst hi; exact .inr (.inl ⟨j, _, cs, hf, hj, hoj, rfl, hsz, by simp, hb⟩)
    | succ i => have := ih.2 i o (by simpa using hi); rw [show k + 1 + i = k + (i + 1) by omega] at this; simpa using this
  | @dead k c e s t os us j hf hj _ ih =>
    refine ⟨by simp [ih.1], fun i o hi => ?_⟩
    cases i with
    | zero => simp at hi; subst hi; exact .inr (.inr ⟨j, hf, hj, by simp⟩)
    | succ i => have := ih.2 i o (by simpa using hi); rw [show k + 1 + i = k + (i + 1) by omega] at this; simpa using this
section
variable {P : Program} {n m : Nat} {G : Ctx} {T : List (Nat × AV)} {O : List AObj} {Q : Exit → St → Prop} {ops : Array Oper} {l : List Oper} {tt : TypeId} {pos : String} {after : Array Edge} {tab : List (Nat × Ty)}
theorem callH_rel {f : FuncId} {xs : List Operand} {As : List AV} {M OO A B : List AObj} {r r' : AV} {hs : List Nat} {k : Nat} (hc : FnH P f As k M OO r) (hh : Hand O hs (xs.map (av T)) As) (hM : HandH O hs hs M) (hnd : hs.Nodup) (hmk : ∀ (j id : Nat), k ≤ j → hs[j]? = some id → m ≤ id)
    (hA : AftO O hs k O.length OO 0 O A) (hB : AftN O hs k O.length (OO.drop k) B) (hre : Back O hs k O.length [r] [r']) {a : Act} {w : World} (hr : Rel n m G ⟨T, O⟩ a w) :
    Calls P f (xs.map a.eval).toArray w fun e w' => ∃ v, e = .returned v ∧ ∃ S ι F, RelAt n m G S ι F ⟨T, A ++ B⟩ a w' ∧ VRel S w' ι (A ++ B) r' v [] := by
  obtain ⟨S, ι, F, hr⟩ := hr
  obtain ⟨⟨fn, hf, hb, hnm⟩, hkM, hkO, hcall⟩ := hc
  obtain ⟨hlM, hatM⟩ := hM.at
  let S2 : Nat → Prop := fun b => b < w.heap.size ∧ ∀ id ∈ hs, b ∉ F id
  let ιM : Nat → Spot := fun j => match hs[j]? with | some id => ι id | none => none
  let FM : Nat → List Nat := fun j => match hs[j]? with | some id => F id | none => []
  have hιM : ∀ (j id : Nat), hs[j]? = some id → ιM j = ι id := fun j id h => by show (match hs[j]? with | some id => ι id | none => none) = _; rw [h]
  have hFM : ∀ (j id : Nat), hs[j]? = some id → FM j = F id := fun j id h => by show (match hs[j]? with | some id => F id | none => []) = _; rw [h]
  have hidl : ∀ (j id : Nat), hs[j]? = some id → id < O.length := fun j id h => by
    have hj : j < M.length := by rw [← hlM]; exact (List.getElem?_eq_some_iff.1 h).1
    obtain ⟨id', ob, e1, e2, _⟩ := hatM j _ (List.getElem?_eq_getElem hj)
    rw [h] at e1; cases e1; exact (List.getElem?_eq_some_iff.1 e2).1
  have hmem : ∀ id ∈ hs, ∃ j, j < M.length ∧ hs[j]? = some id := fun id h => by
    obtain ⟨j, hj, e⟩ := List.getElem_of_mem h
    exact ⟨j, by omega, by rw [List.getElem?_eq_getElem hj, e]⟩
  have hex : ∀ j, j < M.length → ∃ id, hs[j]? = some id := fun j hj => ⟨hs[j], List.getElem?_eq_getElem (by omega)⟩
  have hidm : ∀ id ∈ hs, id < O.length := fun id hid => by obtain ⟨j, hj, e⟩ := hmem id hid; exact hidl j id e
  have hSS : ∀ b, S b → S2 b := fun b hb => ⟨hr.stable b hb, fun id hid hbf => by
    obtain ⟨j, hj, e⟩ := hmem id hid
    exact (hr.foot id (hidl j id e) b hbf).2.1 hb⟩
  have hMw : hs.length = M.length ∧ ∀ (j : Nat) (mb : AObj), M[j]? = some mb → ∃ id ob, hs[j]? = some id ∧ O[id]? = some ob ∧ mb.ep = 0 ∧ mb.size = ob.size := ⟨hlM, fun j mb hj => by
    obtain ⟨id, ob, e1, e2, _, e4, e5, _⟩ := hatM j mb hj; exact ⟨id, ob, e1, e2, e4, e5⟩⟩
  have hOM : ORel S2 w ιM M FM := by
    refine ⟨fun j mb hj => ?_, fun j hj => ?_, fun i j hi hj hij b hb => ?_⟩
    · obtain ⟨id, ob, e1, e2, e3, e4, e5, e7⟩ := hatM j mb hj
      rw [hιM j id e1, hFM j id e1]
      have ho := hr.objs.obj id ob e2
      unfold ObjAt at ho ⊢
      cases hs' : ι id with
      | none =>
        rw [hs'] at ho
        rcases e3 with ⟨e3, _⟩ | ⟨e3, _⟩
        · rw [← e3]; exact ho
        · rw [ho.1] at e3; generalize mb.cells = z at e3; cases e3; exact ⟨rfl, ho.2⟩
      | some p =>
        obtain ⟨b, k⟩ := p
        rw [hs'] at ho
        obtain ⟨cur', t', fz', f2, q1, q2, q3, q4, q5, q6, q7⟩ := ho
        have hty : ∀ e, mb.ty = some e → t' = e ∧ fz' = (0, 0) := fun e he => by
          rcases e7 with e7 | e7
          · rw [e7] at he; cases he
          · exact q6 e (by rw [← e7]; exact he)
        rcases e3 with ⟨e3, e3'⟩ | ⟨e3, e3'⟩
        · refine ⟨cur', t', fz', f2, q1, q2, q3, by rw [← e3]; exact q4, q5, hty, ?_⟩
          rw [← e3]
          exact still_all (by rw [e3]; exact e3') q7 hSS (fun _ _ => rfl) (fun _ _ => rfl)
        · have hf2 := nofre_list q7 e3'
          subst hf2
          have hl2 := Hand.relH (S2 := S2) (ιM := ιM) hMw hιM hSS hr.objs (fun b h1 h2 => ⟨h1, h2⟩) hidm e3 q7
          have hlen : mb.cells.length = ob.cells.length := by have := hl2.len; have := q7.len; omega
          refine ⟨cur', t', fz', [], q1, q2, q3, by omega, q5, hty, ?_⟩
          rw [hlen]; exact hl2
    · obtain ⟨id, e⟩ := hex j hj
      rw [hFM j id e]; exact hr.objs.nodup id (hidl j id e)
    · obtain ⟨id1, e1⟩ := hex i hi
      obtain ⟨id2, e2⟩ := hex j hj
      rw [hFM i id1 e1] at hb; rw [hFM j id2 e2]
      exact hr.objs.apart id1 id2 (hidl i id1 e1) (hidl j id2 e2) (fun e => hij (nodup_get hnd e1 (e ▸ e2))) b hb
  have hl := hr.evals xs
  have hl2 := Hand.relH (S2 := S2) (ιM := ιM) hMw hιM hSS hr.objs (fun b h1 h2 => ⟨h1, h2⟩) hidm hh hl
  refine (hcall w S2 ιM FM (xs.map a.eval) (fun b h => h.1) hOM (fun j hj b hb => ?_) hl2).mono fun e w' he => ?_
  · obtain ⟨id, e⟩ := hex j hj
    rw [hFM j id e] at hb
    exact ⟨fun h => h.2 id (List.mem_of_getElem? e) hb, (hr.foot id (hidl j id e) b hb).2.2⟩
  obtain ⟨v, S', ι', F', rfl, hS1, hS2, hS3, hι', hO', hF', hv, hk⟩ := he
  refine ⟨v, rfl, ?_⟩
  have hold : ∀ b, b < w.heap.size → (∀ id ∈ hs, b ∉ F id) → w'.heap[b]? = w.heap[b]? := fun b hb hn => hk.block b hb (by
    rintro ⟨i, hi, hbf⟩
    obtain ⟨id, e⟩ := hex i hi
    rw [hFM i id e] at hbf
    exact hn id (List.mem_of_getElem? e) hbf)
  obtain ⟨hAl, hAt⟩ := hA.at
  obtain ⟨hBl, hBt⟩ := hB.at
  have hBl2 : B.length = OO.length - k := by rw [hBl, List.length_drop]
  have hfind : ∀ (i j : Nat), findN hs i 0 = some j → j < M.length ∧ hs[j]? = some i := fun i j h => by
    obtain ⟨q, rfl, hq⟩ := findN_some h
    rw [Nat.zero_add]
    exact ⟨by rw [← hlM]; exact (List.getElem?_eq_some_iff.1 hq).1, hq⟩
  have hfound : ∀ (i j : Nat), hs[j]? = some i → findN hs i 0 = some j := fun i j h => by
    cases hfd : findN hs i 0 with
    | none => exact absurd (List.mem_of_getElem? h) (findN_none hfd)
    | some q => obtain ⟨_, h2⟩ := hfind i q hfd; rw [nodup_get hnd h2 h]
  let S3 : Nat → Prop := fun b => S b ∨ (S' b ∧ w.heap.size ≤ b)
  let ι3 : Nat → Spot := fun i => if i < O.length then (match findN hs i 0 with | some j => if j < k then ι i else none | none => ι i) else ι' (k + (i - O.length))
  let F3 : Nat → List Nat := fun i => if i < O.length then (match findN hs i 0 with | some j => if j < k then F' j else [] | none => F i) else F' (k + (i - O.length))
  let O3 := A ++ B
  have hlO3 : O3.length = O.length + (OO.length - k) := by show (A ++ B).length = _; rw [List.length_append, hAl, hBl2]
  have hι3n : ∀ i, i < O.length → findN hs i 0 = none → ι3 i = ι i := fun i hi h => by show (if _ then _ else _) = _; rw [if_pos hi, h]
  have hι3t : ∀ i j, i < O.length → findN hs i 0 = some j → j < k → ι3 i = ι i := fun i j hi h hj => by show (if _ then _ else _) = _; rw [if_pos hi, h]; exact if_pos hj
  have hι3d : ∀ i j, i < O.length → findN hs i 0 = some j → k ≤ j → ι3 i = none := fun i j hi h hj => by show (if _ then _ else _) = _; rw [if_pos hi, h]; exact if_neg (by omega)
  have hι3g : ∀ i, O.length ≤ i → ι3 i = ι' (k + (i - O.length)) := fun i hi => if_neg (by omega)
  have hF3n : ∀ i, i < O.length → findN hs i 0 = none → F3 i = F i := fun i hi h => by show (if _ then _ else _) = _; rw [if_pos hi, h]
  have hF3t : ∀ i j, i < O.length → findN hs i 0 = some j → j < k → F3 i = F' j := fun i j hi h hj => by show (if _ then _ else _) = _; rw [if_pos hi, h]; exact if_pos hj
  have hF3d : ∀ i j, i < O.length → findN hs i 0 = some j → k ≤ j → F3 i = [] := fun i j hi h hj => by show (if _ then _ else _) = _; rw [if_pos hi, h]; exact if_neg (by omega)
  have hF3g : ∀ i, O.length ≤ i → F3 i = F' (k + (i - O.length)) := fun i hi => if_neg (by omega)
  have hO3lt : ∀ i : Nat, i < O.length → O3[i]? = A[i]? := fun i hi => by show (A ++ B)[i]? = _; rw [List.getElem?_append_left (by omega)]
  have hO3ge : ∀ i : Nat, O.length ≤ i → O3[i]? = B[i - O.length]? := fun i hi => by show (A ++ B)[i]? = _; rw [List.getElem?_append_right (by omega), hAl]
  have hB3 : ∀ (j : Nat) (oj : AObj), k ≤ j → OO[j]? = some oj → ∃ cs, B[j - k]? = some ⟨cs, oj.ep, oj.size, oj.ty⟩ ∧ Back O hs k O.length oj.cells cs := fun j oj hj h => by
    refine hBt (j - k) oj ?_
    rw [List.getElem?_drop, show k + (j - k) = j by omega]; exact h
  have bkold : ∀ (j id : Nat) (ob : AObj), j < k → hs[j]? = some id → O[id]? = some ob → ∃ oj o3, OO[j]? = some oj ∧ oj.ep = 0 ∧ O3[id]? = some o3 ∧ o3.ep = ob.ep ∧ o3.size = oj.size ∧ ι3 id = ι' j := fun j id ob hj hjs ho => by
    have hlt := hidl j id hjs
    have hfd := hfound id j hjs
    rcases hAt id ob ho with ⟨h1, _⟩ | ⟨j', oj, cs, h1, h2, h3, h4, h5, h6, h7⟩ | ⟨j', h1, h2, _⟩
    · rw [Nat.zero_add, hfd] at h1; cases h1
    · rw [Nat.zero_add, hfd] at h1; cases h1
      exact ⟨oj, ⟨cs, ob.ep, oj.size, oj.ty⟩, h3, h4, by rw [hO3lt id hlt]; exact h6, rfl, rfl, by rw [hι3t id j hlt hfd hj, hι' j hj, hιM j id hjs]⟩
    · rw [Nat.zero_add, hfd] at h1; cases h1; omega
  have bknew : ∀ (j : Nat) (oj : AObj), k ≤ j → OO[j]? = some oj → ∃ o3, O3[j - k + O.length]? = some o3 ∧ o3.ep = oj.ep ∧ o3.size = oj.size ∧ ι3 (j - k + O.length) = ι' j := fun j oj hj h => by
    obtain ⟨cs, h1, h2⟩ := hB3 j oj hj h
    refine ⟨⟨cs, oj.ep, oj.size, oj.ty⟩, by rw [hO3ge _ (by omega), Nat.add_sub_cancel]; exact h1, rfl, rfl, ?_⟩
    rw [hι3g _ (by omega), Nat.add_sub_cancel]; congr 1; omega
  have hlat : Later S w ι O S3 w' ι3 O3 := by
    refine ⟨fun b h => .inl h, fun b hb => hold b (hr.stable b hb) (hSS b hb).2, fun id ob h => ?_⟩
    have hlt : id < O.length := (List.getElem?_eq_some_iff.1 h).1
    rcases hAt id ob h with ⟨h1, h2⟩ | ⟨j, oj, cs, h1, h2, h3, h4, h5, h6, h7⟩ | ⟨j, h1, h2, h3⟩
    · rw [Nat.zero_add] at h1
      exact ⟨ob, by rw [hO3lt id hlt]; exact h2, .inr ⟨rfl, rfl, hι3n id hlt h1⟩⟩
    · rw [Nat.zero_add] at h1
      exact ⟨⟨cs, ob.ep, oj.size, oj.ty⟩, by rw [hO3lt id hlt]; exact h6, .inr ⟨rfl, h5, hι3t id j hlt h1 h2⟩⟩
    · exact ⟨⟨[], ob.ep + 1, 0, none⟩, by rw [hO3lt id hlt]; exact h3, .inl (Nat.lt_succ_self _)⟩
  have hsrc : ∀ q, q < OO.length → ∀ b ∈ F' q, ((∃ id, id ∈ hs ∧ id < O.length ∧ b ∈ F id) ∨ w.heap.size ≤ b) ∧ ¬ S' b ∧ b < w'.heap.size := fun q hq b hb => by
    obtain ⟨q1, q2, q3⟩ := hF' q hq b hb
    refine ⟨?_, q2, q3⟩
    rcases q1 with ⟨i, hi, hbf⟩ | q1
    · obtain ⟨id, e⟩ := hex i hi
      rw [hFM i id e] at hbf
      exact .inl ⟨id, List.mem_of_getElem? e, hidl i id e, hbf⟩
    · exact .inr q1
  have hnoS : ∀ q, q < OO.length → ∀ b ∈ F' q, (G.M0 b ∨ G.w0.heap.size ≤ b) ∧ ¬ S3 b ∧ b < w'.heap.size := fun q hq b hb => by
    obtain ⟨q1, q2, q3⟩ := hsrc q hq b hb
    rcases q1 with ⟨id, hid, hlt, hbf⟩ | q1
    · obtain ⟨p1, p2, p3⟩ := hr.foot id hlt b hbf
      refine ⟨p1, ?_, q3⟩
      rintro (h | ⟨h, _⟩)
      · exact p2 h
      · exact q2 h
    · refine ⟨.inr (by have := hr.keeps.size; omega), ?_, q3⟩
      rintro (h | ⟨h, _⟩)
      · have := hr.stable b h; omega
      · exact q2 h
  have hnotin : ∀ i, i < O.length → findN hs i 0 = none → ∀ b ∈ F i, w'.heap[b]? = w.heap[b]? := fun i hi h b hb => hold b (hr.foot i hi b hb).2.2 fun id hid hbf => by
    obtain ⟨j, hj, e⟩ := hmem id hid
    have hne : i ≠ id := by rintro rfl; exact findN_none h hid
    exact hr.objs.apart i id hi (hidl j id e) hne b hb hbf
  have hback : ∀ {cs cs' : List AV}, Back O hs k O.length cs cs' → ∀ {ys g}, LRel S' w' ι' OO cs ys g → LRel S3 w' ι3 O3 cs' ys g := fun hb => Back.rel bkold bknew hb
  -- an object of the callee's, in its place
  have hobj : ∀ (q : Nat) (oj : AObj) (cs : List AV) (e : Nat), OO[q]? = some oj → Back O hs k O.length oj.cells cs → ObjAt S3 w' ι3 O3 ⟨cs, e, oj.size, oj.ty⟩ (ι' q) (F' q) := fun q oj cs e hq hb => by
    have ho := hO'.obj q oj hq
    have hl := hb.len
    unfold ObjAt at ho ⊢
    cases hs' : ι' q with
    | none =>
      rw [hs'] at ho
      refine ⟨List.length_eq_zero_iff.1 ?_, ho.2⟩
      rw [hl, ho.1]; rfl
    | some p =>
      obtain ⟨b, kk⟩ := p
      rw [hs'] at ho
      obtain ⟨cur', t', fz', f2, q1, q2, q3, q4, q5, q6, q7⟩ := ho
      refine ⟨cur', t', fz', f2, q1, q2, q3, by show cs.length ≤ kk; omega, q5, q6, ?_⟩
      show LRel S3 w' ι3 O3 cs (cur'.toList.take cs.length) f2
      rw [hl]; exact hback hb q7
  -- whence a place's blocks come
  have hpl : ∀ i, i < O3.length → (∃ q, q < OO.length ∧ F3 i = F' q ∧ ((q < k ∧ hs[q]? = some i) ∨ (O.length ≤ i ∧ q = k + (i - O.length)))) ∨ (i < O.length ∧ findN hs i 0 = none ∧ F3 i = F i) ∨ F3 i = [] := fun i hi => by
    by_cases hlt : i < O.length
    · cases hfd : findN hs i 0 with
      | some j =>
        by_cases hj : j < k
        · exact .inl ⟨j, by omega, hF3t i j hlt hfd hj, .inl ⟨hj, (hfind i j hfd).2⟩⟩
        · exact .inr (.inr (hF3d i j hlt hfd (by omega)))
      | none => exact .inr (.inl ⟨hlt, rfl, hF3n i hlt hfd⟩)
    · exact .inl ⟨_, by omega, hF3g i (by omega), .inr ⟨by omega, rfl⟩⟩
  refine ⟨S3, ι3, F3, ⟨hr.defers, hr.size, fun t => (hr.tmps t).mono hlat (by simp), ⟨fun i ob h => ?_, fun i h => ?_, fun i j hi hj hij b hb => ?_⟩, fun i h b hb => ?_, ⟨fun b hb => .inl (hr.base.1 b hb), ?_⟩, ?_, ?_, fun i h => ?_, ?_⟩, ?_⟩
  · have h : O3[i]? = some ob := h
    by_cases hlt : i < O.length
    · rw [hO3lt i hlt] at h
      rcases hAt i O[i] (List.getElem?_eq_getElem hlt) with ⟨h1, h2⟩ | ⟨j, oj, cs, h1, h2, h3, h4, h5, h6, h7⟩ | ⟨j, h1, h2, h3⟩
      · rw [Nat.zero_add] at h1
        rw [h2] at h; cases h
        rw [hι3n i hlt h1, hF3n i hlt h1]
        have ho := hr.objs.obj i O[i] (List.getElem?_eq_getElem hlt)
        have key := hnotin i hlt h1
        unfold ObjAt at ho ⊢
        cases hs' : ι i with
        | none => rw [hs'] at ho; exact ho
        | some p =>
          obtain ⟨b, kk⟩ := p
          rw [hs'] at ho
          obtain ⟨cur', t', fz', f2, q1, q2, q3, q4, q5, q6, q7⟩ := ho
          exact ⟨cur', t', fz', f2, q1, by rw [key b (by rw [q1]; simp)]; exact q2, q3, q4, q5, q6, q7.mono hlat fun b' hb' => key b' (by rw [q1]; simp [hb'])⟩
      · rw [Nat.zero_add] at h1
        rw [h6] at h; cases h
        have e : ι i = ι' j := by rw [hι' j h2, hιM j i (hfind i j h1).2]
        rw [hι3t i j hlt h1 h2, hF3t i j hlt h1 h2, e]
        exact hobj j oj cs _ h3 h7
      · rw [Nat.zero_add] at h1
        rw [h3] at h; cases h
        rw [hι3d i j hlt h1 h2, hF3d i j hlt h1 h2]
        exact ⟨rfl, rfl⟩
    · have hil : i < O3.length := (List.getElem?_eq_some_iff.1 h).1
      rw [hO3ge i (by omega)] at h
      have hq : k + (i - O.length) < OO.length := by omega
      obtain ⟨cs, h1, h2⟩ := hB3 (k + (i - O.length)) _ (by omega) (List.getElem?_eq_getElem hq)
      rw [show k + (i - O.length) - k = i - O.length by omega] at h1
      rw [h1] at h; cases h
      rw [hι3g i (by omega), hF3g i (by omega)]
      exact hobj _ _ cs _ (List.getElem?_eq_getElem hq) h2
  · rcases hpl i h with ⟨q, h1, h2, _⟩ | ⟨h1, _, h2⟩ | h2
    · rw [h2]; exact hO'.nodup q h1
    · rw [h2]; exact hr.objs.nodup i h1
    · rw [h2]; exact List.nodup_nil
  · have hcross : ∀ i q, i < O.length → findN hs i 0 = none → q < OO.length → ∀ b ∈ F i, b ∉ F' q := fun i q hi hn hq b hb hb' => by
      rcases (hsrc q hq b hb').1 with ⟨id, hid, hlt, hbf⟩ | h
      · have hne : i ≠ id := by rintro rfl; exact findN_none hn hid
        exact hr.objs.apart i id hi hlt hne b hb hbf
      · have := (hr.foot i hi b hb).2.2; omega
    rcases hpl i hi with ⟨q1, p1, p2, p3⟩ | ⟨p1, p2, p3⟩ | p3 <;> rcases hpl j hj with ⟨q2, r1, r2, r3⟩ | ⟨r1, r2, r3⟩ | r3
    · rw [p2] at hb; rw [r2]
      refine hO'.apart q1 q2 p1 r1 (fun e => ?_) b hb
      subst e
      rcases p3 with ⟨a1, a2⟩ | ⟨a1, a2⟩ <;> rcases r3 with ⟨b1, b2⟩ | ⟨b1, b2⟩
      · rw [a2] at b2; cases b2; exact hij rfl
      · omega
      · omega
      · omega
    · rw [p2] at hb; rw [r3]; intro hb'; exact hcross j q1 r1 r2 p1 b hb' hb
    · rw [r3]; simp
    · rw [p3] at hb; rw [r2]; exact hcross i q2 p1 p2 r1 b hb
    · rw [p3] at hb; rw [r3]; exact hr.objs.apart i j p1 r1 hij b hb
    · rw [r3]; simp
    · rw [p3] at hb; simp at hb
    · rw [p3] at hb; simp at hb
    · rw [p3] at hb; simp at hb
  · rcases hpl i h with ⟨q, h1, h2, _⟩ | ⟨h1, _, h2⟩ | h2
    · rw [h2] at hb; exact hnoS q h1 b hb
    · rw [h2] at hb
      obtain ⟨q1, q2, q3⟩ := hr.foot i h1 b hb
      refine ⟨q1, ?_, by have := hk.size; omega⟩
      rintro (h' | ⟨_, h'⟩)
      · exact q2 h'
      · omega
    · rw [h2] at hb; simp at hb
  · rintro b (h' | ⟨_, h'⟩)
    · exact hr.base.2 b h'
    · exact .inr (by have := hr.keeps.size; omega)
  · rintro b (h' | ⟨h', _⟩)
    · have := hr.stable b h'; have := hk.size; omega
    · exact hS3 b h'
  · refine ⟨hk.os.trans hr.keeps.os, hk.tape.trans hr.keeps.tape, hk.output.trans hr.keeps.output, by have := hr.keeps.size; have := hk.size; omega, fun b hb hM0 => ?_⟩
    rw [hold b (by have := hr.keeps.size; omega) fun id hid hbf => ?_]
    · exact hr.keeps.block b hb hM0
    · obtain ⟨j, hj, e⟩ := hmem id hid
      rcases (hr.foot id (hidl j id e) b hbf).1 with h | h
      · exact hM0 h
      · omega
  · have hm : m ≤ O.length := hr.mle
    have hlt : i < O.length := by omega
    have e : ι3 i = ι i := by
      cases hfd : findN hs i 0 with
      | none => exact hι3n i hlt hfd
      | some j =>
        by_cases hj : j < k
        · exact hι3t i j hlt hfd hj
        · have := hmk j i (by omega) (hfind i j hfd).2; omega
    rw [e]; exact hr.spots i h
  · have hm : m ≤ O.length := hr.mle
    show m ≤ O3.length
    omega
  · exact hback hre hv
theorem WpL.callH {f : FuncId} {xs : List Operand} {ats : Array TypeId} {As : List AV} {M OO A B O2 : List AObj} {r r' : AV} {hs : List Nat} {k base d : Nat} (hc : FnH P f As k M OO r) (hh : Hand O hs (xs.map (av T)) As) (hM : HandH O hs hs M) (hnd : nodupB hs = true) (hmk : ∀ (j id : Nat), k ≤ j → hs[j]? = some id → m ≤ id)
    (hb : nid O 0 = some base) (hA : AftO O hs k base OO 0 O A) (hB : AftN O hs k base (OO.drop k) B) (hre : Back O hs k base [r] [r']) (hO2 : catF A B = some O2) (hn : d < n) (h : WpL P n m G false ops l ⟨(d, r') :: T, O2⟩ Q) :
    WpL P n m G false ops ({ dst := some d, op := .call { callee := .value (.func f), args := xs.toArray, argTypes := ats }, type := tt, pos := pos, after := after, guard := none } :: l) ⟨T, O⟩ Q :=
  WpL.op rfl (fun a w hr => by
    have := catF_eq hO2; subst this
    have e2 : base = O.length := by rw [nid_len, Nat.zero_add] at hb; exact (Option.some.inj hb).symm
    subst e2
    have hcl := callH_rel hc hh hM (nodupB_spec hnd) hmk hA hB hre hr
    obtain ⟨⟨fn, hf, hbd, hnm⟩, _⟩ := hc
    have hex : (execOp a.eval { dst := some d, op := .call { callee := .value (.func f), args := xs.toArray, argTypes := ats }, type := tt, pos := pos, after := after, guard := none }).run P w = .ok (.enter f (xs.map a.eval).toArray) w := by
      simp only [execOp, resolve, Act.eval, Deferred.ofValue, invoke, callFunc, Sem.run_bind, Sem.run_pure, Result.andThen_ok, program, Sem.run, hf, hnm, hbd, Bool.false_eq_true, if_false]
      simp
    unfold Oper.wp
    rw [hex]
    refine hcl.mono fun e w' ⟨v, he, S, ι, F, hr', hv⟩ => ?_
    subst he
    exact ⟨S, ι, F, hr'.put hn hv⟩) h
theorem WpL.callH0 {f : FuncId} {xs : List Operand} {ats : Array TypeId} {As : List AV} {M OO A B O2 : List AObj} {r r' : AV} {hs : List Nat} {k base : Nat} (hc : FnH P f As k M OO r) (hh : Hand O hs (xs.map (av T)) As) (hM : HandH O hs hs M) (hnd : nodupB hs = true) (hmk : ∀ (j id : Nat), k ≤ j → hs[j]? = some id → m ≤ id)
    (hb : nid O 0 = some base) (hA : AftO O hs k base OO 0 O A) (hB : AftN O hs k base (OO.drop k) B) (hre : Back O hs k base [r] [r']) (hO2 : catF A B = some O2) (h : WpL P n m G false ops l ⟨T, O2⟩ Q) :
    WpL P n m G false ops ({ dst := none, op := .call { callee := .value (.func f), args := xs.toArray, argTypes := ats }, type := tt, pos := pos, after := after, guard := none } :: l) ⟨T, O⟩ Q :=
  WpL.op rfl (fun a w hr => by
    have := catF_eq hO2; subst this
    have e2 : base = O.length := by rw [nid_len, Nat.zero_add] at hb; exact (Option.some.inj hb).symm
    subst e2
    have hcl := callH_rel hc hh hM (nodupB_spec hnd) hmk hA hB hre hr
    obtain ⟨⟨fn, hf, hbd, hnm⟩, _⟩ := hc
    have hex : (execOp a.eval { dst := none, op := .call { callee := .value (.func f), args := xs.toArray, argTypes := ats }, type := tt, pos := pos, after := after, guard := none }).run P w = .ok (.enter f (xs.map a.eval).toArray) w := by
      simp only [execOp, resolve, Act.eval, Deferred.ofValue, invoke, callFunc, Sem.run_bind, Sem.run_pure, Result.andThen_ok, program, Sem.run, hf, hnm, hbd, Bool.false_eq_true, if_false]
      simp
    unfold Oper.wp
    rw [hex]
    refine hcl.mono fun e w' ⟨v, he, S, ι, F, hr', hv⟩ => ?_
    subst he
    exact ⟨S, ι, F, hr'.put_none v⟩) h
end
end Go.Abs
