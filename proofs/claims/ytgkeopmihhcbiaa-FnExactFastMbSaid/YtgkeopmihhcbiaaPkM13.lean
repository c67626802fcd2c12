/- Proved in this text: lemmas and contracts of functions that the claim uses (parts: RdS, Fld, RdH, RdV, Sym, Stat, Pred, Sid, RdT, Lw, Cache, AbsEq, AbsAz, Ln). No condition. -/
import Derived.Test.YtgkeopmihhcbiaaPkM11
import Derived.Test.YtgkeopmihhcbiaaPkM12
import Derived.Test.YtgkeopmihhcbiaaPkM9
import Derived.Laws.StructEq
import Derived.Lib.AppendZeros

/- Contracts: symbols that are read; what is left of a text. No condition. -/
namespace Go.Proofs.Ytgkeopmihhcbiaa
open Go Go.Abs
set_option linter.unusedVariables false
set_option linter.unusedSimpArgs false
set_option maxRecDepth 100000
set_option maxHeartbeats 4000000
attribute [local irreducible] WpA WpL Rnd Blk Abs.Seq Abs.Fin Abs.FinG FnC FnG Only

abbrev R0 : AObj := ⟨[Z [], I 0], 0, 0, none⟩
theorem rb_ok_le {p : List UInt8} {s n m : Int} (h : RbOk p s n) (h0 : 0 ≤ m) (h1 : m ≤ n) : RbOk p s m := ⟨h.1, by omega, by omega⟩
instance ReadSym_c : Con 137 (∀ (p : List UInt8) (s : Int) (l : List Int), p.length ≤ 1099511627776 ∧ l.length ≤ 1099511627776 → Fn 137 [RA p s, IL l] [] (.tup [RA p (smA p s l), I (smV p s l), I (smC p s l)])) := ⟨fun p s l hl => by
  have hb := lft_bd p s
  refine FnC.of_body tabOk Try.func137 Try.ntmps137 rfl (by decide +kernel) (by simp) fun G => ?_
  by_cases hok : CodeOk l
  · have h6 := hok.2.1
    have hcr := codesR_ok l hok
    have hcl := codes_len l
    have hcn := codesR_len l hok
    refine go (r := ?_); and_intros <;> intros <;> try exact True.intro
    all_goals first | (exact absurd hok (by assumption)) | skip
    refine WpA.loop (fun k : Nat => ⟨[(2, .ptr 0 0 0), (4, .ptr 1 0 0), (7, .own 2 0 0 6), (18, IL l), (19, I l.length), (20, I k)], [BoxR p s, R0, XI (codes l)]⟩) (fun k => k ≤ 6 ∧ ∀ m < k, ¬ SymAt p s l m) (fun k => 6 - k) 0 ⟨by omega, fun j hj => by omega⟩ (go (r := ?_)) (fun k hk => ?_)
    · trivial
    have hcb := code_in hok (m := k)
    have hy := fun h => rb_yes (p := p) (s := s) (n := l.getD k 0) h
    refine go (r := ?_); and_intros <;> intros <;> try exact True.intro
    all_goals first
      | (have hsy : SymAt p s l k := ⟨by omega, by assumption, by rw [← (hy (by assumption)).2]; simpa using ‹rbV p s (l.getD k 0) = _›⟩
         obtain ⟨e1, e2, e3⟩ := sm_yes hok (by omega) hsy
         first | (rw [e1, (hy hsy.2.1).1]; done) | (rw [e2]; done) | (rw [e3]; done))
      | (rename_i j hj hs
         rcases Nat.lt_succ_iff_lt_or_eq.1 hj with h | h
         · exact hk.2 j h hs
         · subst h
           obtain ⟨a, b, c⟩ := hs
           first | omega | exact absurd b (by assumption) | (have hv := (hy b).2; rw [c] at hv; rw [Int.toNat_natCast] at *; exact absurd hv (by assumption)))
      | (obtain ⟨e1, e2, e3⟩ := sm_none hok (fun m hm => hk.2 m (by omega))
         first | (rw [e1]; done) | (rw [e2]; done) | (rw [e3]; done))
      | trace_state
  · obtain ⟨e1, e2, e3⟩ := sm_bad (p := p) (s := s) hok
    have hcr := codesR_no l hok
    refine go (r := ?_); and_intros <;> intros <;> try exact True.intro
    all_goals first | (exact absurd (by assumption) hok) | (rw [e1]; done) | (rw [e2]; done) | (rw [e3]; done) | trace_state⟩
instance ReadSym_s : Con 226 (∀ (p : List UInt8) (s : Int) (l : List Int), p.length ≤ 1099511627776 ∧ l.length ≤ 1099511627776 → Fn 226 [RA p s, IL l] [] (.tup [RA p (smA p s l), I (smV p s l), I (smC p s l)])) := ⟨fun p s l hl => by
  have hb := lft_bd p s
  refine FnC.of_body tabOk Try.func226 Try.ntmps226 rfl (by decide +kernel) (by simp) fun G => ?_
  by_cases hok : CodeOk l
  · have h6 := hok.2.1
    have hcr := codesR_ok l hok
    have hcl := codes_len l
    have hcn := codesR_len l hok
    refine go (r := ?_); and_intros <;> intros <;> try exact True.intro
    all_goals first | (exact absurd hok (by assumption)) | (exfalso; omega) | skip
    rw [hcr]
    refine WpA.loop (fun w : Nat => ⟨[(1, IL l), (2, .ptr 0 0 0), (4, .ptr 1 0 0), (7, .own 2 0 0 6), (8, I ((w : Int) + 1))], [BoxR p s, R0, XI (codes l)]⟩) (fun w => w ≤ 7 ∧ (w = 0 ∨ RbOk p s w) ∧ ∀ m < 6, l.getD m 0 ≤ w → ¬ SymAt p s l m) (fun w => 7 - w) 0 ⟨by omega, .inl rfl, fun m hm h1 h2 => by have := h2.1; omega⟩ (go (r := ?_)) (fun w hw => ?_)
    · and_intros <;> first | trivial | (rw [hcr]; done) | trace_state
    have hy := fun h => rb_yes (p := p) (s := s) (n := (w : Int) + 1) h
    obtain ⟨hw1, hw2, hw3⟩ := hw
    have hno : w < 7 → ¬ RbOk p s ((w : Int) + 1) → ∀ m < 6, ¬ SymAt p s l m := fun h7 h m hm hs => by
      by_cases hle : l.getD m 0 ≤ w
      · exact hw3 m hm hle hs
      · exact h (rb_ok_le hs.2.1 (by omega) (by omega))
    have hall : w = 7 → False := fun h7 => by
      subst h7
      obtain ⟨m, hm, hs⟩ := sym_cov (p := p) (s := s) hok (by rcases hw2 with h | h; omega; exact h)
      have := code_in hok hm
      exact hw3 m hm (by omega) hs
    refine go (r := ?_); and_intros <;> intros <;> try exact True.intro
    all_goals first
      | (exact (hall (by omega)).elim)
      | (have hh : ¬ RbOk p s ((w : Int) + 1) := by assumption
         obtain ⟨e1, e2, e3⟩ := sm_none hok (hno (by omega) hh)
         first | (rw [e1]; done) | (rw [e2]; done) | (rw [e3]; done))
      | skip
    refine WpA.loop (fun m : Nat => ⟨[(1, IL l), (2, .ptr 0 0 0), (4, .ptr 1 0 0), (7, .own 2 0 0 6), (8, I ((w : Int) + 1)), (9, .ptr 3 0 0), (10, I (rbV p s ((w : Int) + 1))), (12, I m)], [BoxR p s, R0, XI (codes l), ⟨[Z p, I (rbA p s ((w : Int) + 1))], 0, 0, none⟩]⟩) (fun m => m ≤ 6 ∧ ∀ j < m, l.getD j 0 = (w : Int) + 1 → ¬ SymAt p s l j) (fun m => 6 - m) 0 ⟨by omega, fun j hj => by omega⟩ (go (r := ?_)) (fun m hm => ?_)
    · trivial
    obtain ⟨hm1, hm2⟩ := hm
    have hrb : RbOk p s ((w : Int) + 1) := by assumption
    obtain ⟨e4, e5⟩ := hy hrb
    refine go (r := ?_); and_intros <;> intros <;> try exact True.intro
    all_goals first
      | (have hlm : l.getD m 0 = (w : Int) + 1 := by assumption
         have hcm : (codes l).getD ((m : Int)).toNat 0 = rbV p s ((w : Int) + 1) := by assumption
         have hsy : SymAt p s l m := by
           rw [Int.toNat_natCast] at hcm
           refine ⟨by omega, by rw [hlm]; exact hrb, by rw [hlm, ← e5, hcm]⟩
         obtain ⟨e1, e2, e3⟩ := sm_yes hok (by omega) hsy
         first | (rw [e1, e4, hlm]; done) | (rw [e2]; done) | (rw [e3]; done))
      | (rename_i j hj hlj hs
         rcases Nat.lt_succ_iff_lt_or_eq.1 hj with h | h
         · exact hm2 j h hlj hs
         · subst h
           obtain ⟨a, b, c⟩ := hs
           first | (exact absurd hlj (by assumption)) | (rw [hlj, ← e5] at c; rw [Int.toNat_natCast] at *; exact absurd c.symm (by assumption)))
      | (rename_i j hj hlj hs
         have : m = 6 := by omega
         subst this
         by_cases hle : l.getD j 0 = (w : Int) + 1
         · exact hm2 j hj hle hs
         · exact hw3 j hj (by omega) hs)
      | trace_state
  · obtain ⟨e1, e2, e3⟩ := sm_bad (p := p) (s := s) hok
    have hcr := codesR_no l hok
    have hcr2 : (codesR l).length = 0 := by rw [hcr]; rfl
    refine go (r := ?_); and_intros <;> intros <;> try exact True.intro
    all_goals first | (exact absurd (by assumption) hok) | (exfalso; omega) | (rw [e1]; done) | (rw [e2]; done) | (rw [e3]; done) | trace_state⟩
end Go.Proofs.Ytgkeopmihhcbiaa

/- Contracts: fields that are read one behind the other, and the checks handed to them. No condition. -/
namespace Go.Proofs.Ytgkeopmihhcbiaa
open Go Go.Abs
set_option linter.unusedVariables false
set_option linter.unusedSimpArgs false
set_option maxRecDepth 100000
set_option maxHeartbeats 4000000
attribute [local irreducible] WpA WpL Rnd Blk Abs.Seq Abs.Fin Abs.FinG FnC FnG Only

instance unless_c : Con 179 (∀ (b : Bool) (c : Int), Fn 179 [B b, I c] [] (I (bif b then 0 else c))) := ⟨fun b c => by
  cases b
  · refine FnC.of_body tabOk Try.func179 Try.ntmps179 rfl (by decide +kernel) (by simp) fun G => ?_
    refine go (r := ?_); and_intros <;> intros <;> try exact True.intro
    all_goals rfl
  · refine FnC.of_body tabOk Try.func179 Try.ntmps179 rfl (by decide +kernel) (by simp) fun G => ?_
    refine go (r := ?_); and_intros <;> intros <;> try exact True.intro
    all_goals rfl⟩
instance levels1_c : Con 217 (∀ x : Int, Fn 217 [I x] [] (I 0)) := ⟨fun x => by
  refine FnC.of_body tabOk Try.func217 Try.ntmps217 rfl (by decide +kernel) (by simp) fun G => ?_
  refine go (r := ?_); and_intros <;> intros <;> try exact True.intro⟩
instance levels2_c : Con 218 (∀ x n : Int, 0 ≤ n ∧ n ≤ 8 → Fn 218 [I x, .iptr [I n] 0] [] (I (ifE (x < n * n) 5))) := ⟨fun x n h => by
  have hnn := mul_in (a := n) (b := n) (by omega) (by omega)
  refine FnC.of_body tabOk Try.func218 Try.ntmps218 rfl (by decide +kernel) (by simp) fun G => ?_
  refine go (r := ?_); and_intros <;> intros <;> try exact True.intro⟩
instance levels3_c : Con 219 (∀ x n t : Int, (0 ≤ n ∧ n ≤ 8) ∧ 0 ≤ t ∧ t ≤ 1099511627776 → Fn 219 [I x, .iptr [I n] 0, .iptr [I t] 0] [] (I (ifE (x < n * n - t) 5))) := ⟨fun x n t h => by
  have hnn : 0 ≤ n * n ∧ n * n ≤ 64 := ⟨Int.mul_nonneg h.1.1 h.1.1, by have := Int.mul_le_mul h.1.2 h.1.2 h.1.1 (by decide); omega⟩
  have hn2 := mul_in (a := n) (b := n) (by omega) (by omega)
  refine FnC.of_body tabOk Try.func219 Try.ntmps219 rfl (by decide +kernel) (by simp) fun G => ?_
  refine go (r := ?_); and_intros <;> intros <;> try exact True.intro⟩
instance levels4_c : Con 221 (∀ x : Int, -4611686018427387904 ≤ x ∧ x ≤ 4611686018427387904 → Fn 221 [I x] [] (I (ifE (-16383 ≤ lvOf x ∧ lvOf x ≤ 16383) 5))) := ⟨fun x h => by
  refine FnC.of_body tabOk Try.func221 Try.ntmps221 rfl (by decide +kernel) (by simp) fun G => ?_
  refine go (r := ?_); and_intros <;> intros <;> try exact True.intro⟩
abbrev FldO (p : List UInt8) (s c : Int) : AObj := ⟨[Z p, I s, I c], 0, 0, none⟩
/-- A check that is handed over. -/
abbrev Chk (g : Nat) (caps : List AV) (k : Int → Int) : Prop := caps.all AV.still = true ∧ caps.all AV.nofre = true ∧ ∀ x : Int, -1 ≤ x ∧ x ≤ 4294967296 → Fn g (I x :: caps) [] (I (k x))
abbrev ChkB (g : Nat) (caps : List AV) (k : Int → Int) : Prop := caps.all AV.still = true ∧ caps.all AV.nofre = true ∧ ∀ x : Int, 0 ≤ x ∧ x ≤ 4294967296 → Fn g (I x :: caps) [] (I (k x))
theorem fbits_c (p : List UInt8) (s c n : Int) (g : Nat) (caps : List AV) (k : Int → Int) (hl : p.length ≤ 1099511627776) (hk : ChkB g caps k) : Gn 181 [.ptr 0 0 0, I n, .fn g caps] [FldO p s c] [FldO p (fbA p s c n k) (fbC p s c n k)] [] (I (fbV p s c n k)) := by
  obtain ⟨hc1, hc2, hg⟩ := hk
  have hv := rbV_bd p s n
  refine FnG.of_bodyF tabOk Try.func181 Try.ntmps181 rfl (by decide +kernel) (by simp) rfl rfl fun G => ?_
  by_cases hc : c = 0
  · by_cases hok : RbOk p s n
    · have e1 : fbC p s c n k = k (rbV p s n) := by rw [fbC, if_pos hc, if_pos hok]
      refine go (r := ?_); and_intros <;> intros <;> try exact True.intro
      refine K.callT ?_
      refine WpL.callV0 rfl (hg (rbV p s n) ⟨by omega, by omega⟩) rfl (.keep rfl rfl (Snap.same rfl hc1 hc2)) (.sc .nil) rfl rfl (by decide) ?_
      by_cases hk0 : k (rbV p s n) = 0
      · have e2 : fbA p s c n k = rbA p s n := by rw [fbA, if_pos ⟨hc, by rw [e1, hk0]⟩]
        have e3 : fbV p s c n k = rbV p s n := by rw [fbV, if_pos (by rw [e1, hk0])]
        refine go (r := ?_); and_intros <;> intros <;> try exact True.intro
        all_goals first | (exact absurd hk0 (by assumption)) | (rw [e1]; done) | (rw [e2]; done) | (rw [e3]; done) | trace_state
      · have e2 : fbA p s c n k = s := by rw [fbA, if_neg (by rw [e1]; exact fun h => hk0 h.2)]
        have e3 : fbV p s c n k = 0 := by rw [fbV, if_neg (by rw [e1]; exact hk0)]
        refine go (r := ?_); and_intros <;> intros <;> try exact True.intro
        all_goals first | (exact absurd (by assumption) hk0) | (rw [e1]; done) | (rw [e2]; done) | (rw [e3]; done) | trace_state
    · have e1 : fbC p s c n k = 1 := by rw [fbC, if_pos hc, if_neg hok]
      have e2 : fbA p s c n k = s := by rw [fbA, if_neg (by rw [e1]; omega)]
      have e3 : fbV p s c n k = 0 := by rw [fbV, if_neg (by rw [e1]; omega)]
      refine go (r := ?_); and_intros <;> intros <;> try exact True.intro
      all_goals first | (exact absurd (by assumption) hok) | (rw [e1]; done) | (rw [e2]; done) | (rw [e3]; done) | trace_state
  · have e1 : fbC p s c n k = c := by rw [fbC, if_neg hc]
    have e2 : fbA p s c n k = s := by rw [fbA, if_neg (by omega)]
    have e3 : fbV p s c n k = 0 := by rw [fbV, if_neg (by rw [e1]; omega)]
    refine go (r := ?_); and_intros <;> intros <;> try exact True.intro
    all_goals first | (exact absurd (by assumption) hc) | (rw [e1]; done) | (rw [e2]; done) | (rw [e3]; done) | trace_state
theorem ueV_bd (p : List UInt8) (s : Int) : -1 ≤ ueV p s ∧ ueV p s ≤ 4294967296 := by
  have h := rbV_bd p s (2 * (zrs p s : Int) + 1)
  unfold ueV; split <;> omega
theorem fue_c (p : List UInt8) (s c : Int) (g : Nat) (caps : List AV) (k : Int → Int) (hl : p.length ≤ 1099511627776) (hk : Chk g caps k) : Gn 183 [.ptr 0 0 0, .fn g caps] [FldO p s c] [FldO p (fuA p s c k) (fuC p s c k)] [] (I (fuV p s c k)) := by
  obtain ⟨hc1, hc2, hg⟩ := hk
  have hv := ueV_bd p s
  refine FnG.of_bodyF tabOk Try.func183 Try.ntmps183 rfl (by decide +kernel) (by simp) rfl rfl fun G => ?_
  by_cases hc : c = 0
  · by_cases hok : ueC p s = 0
    · have e1 : fuC p s c k = k (ueV p s) := by rw [fuC, if_pos hc, if_pos hok]
      refine go (r := ?_); and_intros <;> intros <;> try exact True.intro
      all_goals first | (exact absurd hok (by assumption)) | skip
      refine K.callT ?_
      refine WpL.callV0 rfl (hg (ueV p s) hv) rfl (.keep rfl rfl (Snap.same rfl hc1 hc2)) (.sc .nil) rfl rfl (by decide) ?_
      by_cases hk0 : k (ueV p s) = 0
      · have e2 : fuA p s c k = ueA p s := by rw [fuA, if_pos (by rw [e1, hk0])]
        have e3 : fuV p s c k = ueV p s := by rw [fuV, if_pos (by rw [e1, hk0])]
        refine go (r := ?_); and_intros <;> intros <;> try exact True.intro
        all_goals first | (exact absurd hk0 (by assumption)) | (rw [e1]; done) | (rw [e2]; done) | (rw [e3]; done) | trace_state
      · have e2 : fuA p s c k = s := by rw [fuA, if_neg (by rw [e1]; exact hk0)]
        have e3 : fuV p s c k = 0 := by rw [fuV, if_neg (by rw [e1]; exact hk0)]
        refine go (r := ?_); and_intros <;> intros <;> try exact True.intro
        all_goals first | (exact absurd (by assumption) hk0) | (rw [e1]; done) | (rw [e2]; done) | (rw [e3]; done) | trace_state
    · have e1 : fuC p s c k = ueC p s := by rw [fuC, if_pos hc, if_neg hok]
      have e2 : fuA p s c k = s := by rw [fuA, if_neg (by rw [e1]; exact hok)]
      have e3 : fuV p s c k = 0 := by rw [fuV, if_neg (by rw [e1]; exact hok)]
      refine go (r := ?_); and_intros <;> intros <;> try exact True.intro
      all_goals first | (exact absurd (by assumption) hok) | (rw [e1]; done) | (rw [e2]; done) | (rw [e3]; done) | trace_state
  · have e1 : fuC p s c k = c := by rw [fuC, if_neg hc]
    have e2 : fuA p s c k = s := by rw [fuA, if_neg (by rw [e1]; exact hc)]
    have e3 : fuV p s c k = 0 := by rw [fuV, if_neg (by rw [e1]; exact hc)]
    refine go (r := ?_); and_intros <;> intros <;> try exact True.intro
    all_goals first | (exact absurd (by assumption) hc) | (rw [e1]; done) | (rw [e2]; done) | (rw [e3]; done) | trace_state

/-! The checks of headers. -/
def lensK (v : Int) (k : Nat) : List Int := (List.range k).map fun j => lenAt v (5 - j)
end Go.Proofs.Ytgkeopmihhcbiaa

/- Contracts: headers that are read. No condition. -/
namespace Go.Proofs.Ytgkeopmihhcbiaa
open Go Go.Abs
set_option linter.unusedVariables false
set_option linter.unusedSimpArgs false
set_option maxRecDepth 100000
set_option maxHeartbeats 4000000
attribute [local irreducible] WpA WpL Rnd Blk Abs.Seq Abs.Fin Abs.FinG FnC FnG Only

theorem fuV_bd (p : List UInt8) (s c : Int) (k : Int → Int) : -1 ≤ fuV p s c k ∧ fuV p s c k ≤ 4294967296 := by
  have := ueV_bd p s
  unfold fuV; split <;> omega
theorem fbV_bd (p : List UInt8) (s c n : Int) (k : Int → Int) : 0 ≤ fbV p s c n k ∧ fbV p s c n k ≤ 4294967296 := by
  have := rbV_bd p s n
  unfold fbV; split <;> omega
abbrev HdV (x : HdS) : AV := .agg [I x.W, I x.H, I x.Q, B x.B, B x.D, .own 0 0 0 x.L.length]
end Go.Proofs.Ytgkeopmihhcbiaa

/- Plain laws: where levels are read to. Contracts: levels that are read by the program. No condition. -/
namespace Go.Proofs.Ytgkeopmihhcbiaa
open Go Go.Abs
set_option linter.unusedVariables false
set_option linter.unusedSimpArgs false
set_option maxRecDepth 100000
set_option maxHeartbeats 4000000

theorem zrW_stop (p : List UInt8) (s : Int) : ∀ (f n : Nat), zrW p s f n = n + f ∨ btA p (s + (zrW p s f n : Nat)) ≠ 0
  | 0, n => .inl rfl
  | f + 1, n => by
    rw [zrW]; split
    · rcases zrW_stop p s f (n + 1) with h | h
      · exact .inl (by omega)
      · exact .inr h
    · rename_i h; exact .inr h
theorem zrs_stop (p : List UInt8) (s : Int) : (zrs p s : Int) = lft p s ∨ btA p (s + (zrs p s : Nat)) ≠ 0 := by
  have hb := lft_bd p s
  rcases zrW_stop p s (lft p s).toNat 0 with h | h
  · exact .inl (by unfold zrs; omega)
  · exact .inr h
theorem ueV_nn (p : List UInt8) (s : Int) : 0 ≤ ueV p s := by
  unfold ueV; split
  · rename_i h
    by_cases h15 : zrs p s ≤ 15
    · by_cases hok : RbOk p s (2 * (zrs p s : Int) + 1)
      · rw [(rb_yes hok).2]
        have hlo := lft_ok hok.1
        have hst := zrs_stop p s
        have hbo := btA_out p (s + (zrs p s : Nat))
        have hbd := btA_bd p (s + (zrs p s : Nat))
        have hb1 : btA p (s + (zrs p s : Nat)) = 1 := by
          rcases hst with h | h
          · omega
          · omega
        have e := numB_add p s (zrs p s + 1) (zrs p s)
        have h1 := numB_bd p (s + ((zrs p s + 1 : Nat) : Int)) (zrs p s)
        have h2 := numB_bd p s (zrs p s)
        have h3 : numB p s (zrs p s + 1) = numB p s (zrs p s) * 2 + bv p (s + (zrs p s : Nat)) := rfl
        have h4 : bv p (s + (zrs p s : Nat)) = 1 := by unfold bv; omega
        have hp : (0 : Int) < 2 ^ zrs p s := by exact_mod_cast Nat.pow_pos (by decide)
        have h5 : 1 * 2 ^ zrs p s ≤ numB p s (zrs p s + 1) * 2 ^ zrs p s := Int.mul_le_mul_of_nonneg_right (by omega) (by omega)
        rw [show (2 * (zrs p s : Int) + 1).toNat = zrs p s + 1 + zrs p s by omega, e]
        omega
      · rw [(ue_short h15 hok).2.1] at h; omega
    · rw [(ue_code (s := s) (p := p) h15).2.1] at h; omega
  · omega
theorem fuV_nn (p : List UInt8) (s c : Int) (k : Int → Int) : 0 ≤ fuV p s c k := by
  have := ueV_nn p s
  unfold fuV; split <;> omega
/-- What a check lets through. -/
theorem fuV_lt {p : List UInt8} {s c b e : Int} (he : e ≠ 0) (h : 0 < b) : fuV p s c (fun y => ifE (y < b) e) < b := by
  unfold fuV; split
  · rename_i h1
    unfold fuC at h1
    split at h1
    · split at h1
      · by_cases hlt : ueV p s < b
        · exact hlt
        · have h1 : ifE (ueV p s < b) e = 0 := h1
          rw [ifE_no hlt] at h1; exact absurd h1 he
      · omega
    · omega
  · omega
theorem fuV_zero {p : List UInt8} {s c : Int} {k : Int → Int} (h : fuC p s c k ≠ 0) : fuV p s c k = 0 := by rw [fuV, if_neg h]
abbrev kR (b : Int) : Int → Int := fun y => ifE (y < b) 5
abbrev kL : Int → Int := fun y => ifE (-16383 ≤ lvOf y ∧ lvOf y ≤ 16383) 5
theorem lvStep_yes {p : List UInt8} {nn : Int} {x : LvS} (hc : x.c = 0) : lvStep p nn x =
    (if fuC p (fuA p x.a 0 (kR (nn - x.at_))) (fuC p x.a 0 (kR (nn - x.at_))) kL = 0 then
      ⟨fuA p (fuA p x.a 0 (kR (nn - x.at_))) (fuC p x.a 0 (kR (nn - x.at_))) kL, fuC p (fuA p x.a 0 (kR (nn - x.at_))) (fuC p x.a 0 (kR (nn - x.at_))) kL, x.at_ + fuV p x.a 0 (kR (nn - x.at_)) + 1,
        x.out.set (x.at_ + fuV p x.a 0 (kR (nn - x.at_))).toNat (lvOf (fuV p (fuA p x.a 0 (kR (nn - x.at_))) (fuC p x.a 0 (kR (nn - x.at_))) kL))⟩
    else ⟨fuA p (fuA p x.a 0 (kR (nn - x.at_))) (fuC p x.a 0 (kR (nn - x.at_))) kL, fuC p (fuA p x.a 0 (kR (nn - x.at_))) (fuC p x.a 0 (kR (nn - x.at_))) kL, x.at_ + fuV p x.a 0 (kR (nn - x.at_)), x.out⟩) := by
  rw [lvStep, if_pos hc]
theorem lvStep_no {p : List UInt8} {nn : Int} {x : LvS} (hc : x.c ≠ 0) : lvStep p nn x = x := by rw [lvStep, if_neg hc]
theorem fuC_keep {p : List UInt8} {s c : Int} {k : Int → Int} (h : c ≠ 0) : fuC p s c k = c := by rw [fuC, if_neg h]
theorem lvStep_at {p : List UInt8} {nn : Int} {x : LvS} (h : 0 ≤ x.at_ ∧ x.at_ ≤ nn) : 0 ≤ (lvStep p nn x).at_ ∧ (lvStep p nn x).at_ ≤ nn := by
  by_cases hc : x.c = 0
  · rw [lvStep_yes hc]
    have h1 := fuV_nn p x.a 0 (kR (nn - x.at_))
    by_cases hr : fuC p x.a 0 (kR (nn - x.at_)) = 0
    · have h2 : fuV p x.a 0 (kR (nn - x.at_)) < nn - x.at_ := by
        rcases Int.lt_or_le 0 (nn - x.at_) with hp | hp
        · exact fuV_lt (by decide) hp
        · exfalso
          have hv := ueV_nn p x.a
          unfold fuC at hr
          simp only [if_true] at hr
          split at hr
          · have hr : ifE (ueV p x.a < nn - x.at_) 5 = 0 := hr
            rw [ifE_no (by omega)] at hr; cases hr
          · rename_i hh; exact hh hr
      split
      · show 0 ≤ x.at_ + _ + 1 ∧ x.at_ + _ + 1 ≤ nn; omega
      · show 0 ≤ x.at_ + _ ∧ x.at_ + _ ≤ nn; omega
    · rw [if_neg (by rw [fuC_keep hr]; exact hr)]
      show 0 ≤ x.at_ + _ ∧ x.at_ + _ ≤ nn
      rw [fuV_zero hr]; omega
  · rw [lvStep_no hc]; exact h
theorem lvRun_at {p : List UInt8} {nn : Int} {x : LvS} (h : 0 ≤ x.at_ ∧ x.at_ ≤ nn) : ∀ k, 0 ≤ (lvRun p nn x k).at_ ∧ (lvRun p nn x k).at_ ≤ nn
  | 0 => h
  | k + 1 => by rw [lvRun]; exact lvStep_at (lvRun_at h k)
theorem lvRun_stop {p : List UInt8} {nn : Int} {x : LvS} {k : Nat} (h : (lvRun p nn x k).c ≠ 0) : ∀ j, k ≤ j → lvRun p nn x j = lvRun p nn x k
  | 0, hj => by have : k = 0 := by omega
                subst this; rfl
  | j + 1, hj => by
    rcases Nat.lt_or_ge j k with h2 | h2
    · have : k = j + 1 := by omega
      subst this; rfl
    · have e := lvRun_stop h j h2
      rw [lvRun, e, lvStep_no h]

/-! One object is turned, the others stay. -/
theorem newO_tail (mb : AObj) : ∀ (k : Nat) (R : List AObj), 0 < k → newO [0] [mb] k R = R
  | _, [], _ => rfl
  | k, ob :: R, hk => by
    rw [newO, newO_tail mb (k + 1) R (by omega)]
    have : findN [0] k 0 = none := by
      rw [findN]
      have : Nat.beq 0 k = false := by cases k with | zero => omega | succ k => rfl
      rw [this]; rfl
    unfold newOb; rw [this]
theorem split4 {Ov : List AObj} {a b c d : AObj} (h0 : Ov[0]? = some a) (h1 : Ov[1]? = some b) (h2 : Ov[2]? = some c) (h3 : Ov[3]? = some d) : ∃ R, Ov = a :: b :: c :: d :: R := by
  match Ov, h3 with
  | a' :: b' :: c' :: d' :: R, h3 => simp at h0 h1 h2 h3; exact ⟨R, by rw [h0, h1, h2, h3]⟩
  | [], h => simp at h
  | [_], h => simp at h
  | [_, _], h => simp at h
  | [_, _, _], h => simp at h
theorem split3 {Ov : List AObj} {b c d : AObj} (hc : 4 ≤ Ov.length) (h1 : Ov[1]? = some b) (h2 : Ov[2]? = some c) (h3 : Ov[3]? = some d) : ∃ x R, Ov = x :: b :: c :: d :: R := by
  match Ov, h3 with
  | a' :: b' :: c' :: d' :: R, h3 => simp at h1 h2 h3; exact ⟨a', R, by rw [h1, h2, h3]⟩
  | [], h => simp at h
  | [_], h => simp at h
  | [_, _], h => simp at h
  | [_, _, _], h => simp at h
section
variable {P : Program} {n m : Nat} {G : Ctx} {T : List (Nat × AV)} {R : List AObj} {Q : Exit → St → Prop} {ops : Array Oper} {l : List Oper} {tt : TypeId} {pos : String} {after : Array Edge}
theorem callM1 {f : FuncId} {xs : List Operand} {ats : Array TypeId} {As : List AV} {ob mb0 mb : AObj} {v : Int} {d : Nat} (hc : FnG P f As [mb0] [mb] [] (I v)) (hh : HandM (ob :: R) [0] [mb0] (xs.map (av T)) As) (hM : HandO (ob :: R) [0] [mb0]) (hsz : mb.size = mb0.size) (hM' : Out [mb]) (hn : d < n)
    (h : WpL P n m G false ops l ⟨(d, I v) :: T, ⟨mb.cells, ob.ep, mb.size, mb.ty⟩ :: R⟩ Q) :
    WpL P n m G false ops ({ dst := some d, op := .call { callee := .value (.func f), args := xs.toArray, argTypes := ats }, type := tt, pos := pos, after := after, guard := none } :: l) ⟨T, ob :: R⟩ Q := by
  refine WpL.op rfl (fun a w hr => ?_) h
  have hcl := callG_rel hc hh hM (by simp) rfl (fun j x y hx hy => by
    cases j with
    | zero => simp at hx hy; subst hx hy; exact hsz
    | succ j => simp at hx) hM' .nil (r' := I v) rfl hr
  have e : newO [0] [mb] 0 (ob :: R) ++ [] = ⟨mb.cells, ob.ep, mb.size, mb.ty⟩ :: R := by
    rw [List.append_nil, newO, newO_tail mb 1 R (by omega)]; rfl
  rw [e] at hcl
  obtain ⟨⟨fn, hf, hbd, hnm⟩, _⟩ := hc
  have hex : (execOp a.eval { dst := some d, op := .call { callee := .value (.func f), args := xs.toArray, argTypes := ats }, type := tt, pos := pos, after := after, guard := none }).run P w = .ok (.enter f (xs.map a.eval).toArray) w := by
    simp only [execOp, resolve, Act.eval, Deferred.ofValue, invoke, callFunc, Sem.run_bind, Sem.run_pure, Result.andThen_ok, program, Sem.run, hf, hnm, hbd, Bool.false_eq_true, if_false]
    simp
  unfold Oper.wp
  rw [hex]
  refine hcl.mono fun e w' ⟨v, he, S, ι, F, hr', hv⟩ => ?_
  subst he
  exact ⟨S, ι, F, hr'.put hn hv⟩
end
attribute [local irreducible] WpA WpL Rnd Blk Abs.Seq Abs.Fin Abs.FinG FnC FnG Only
abbrev k0C : Int → Int := fun _ => 0
theorem lvS_no {p : List UInt8} {s n : Int} (h : fbV p s 0 1 k0C = 0) : lvS p s n = ⟨fbA p s 0 1 k0C, fbC p s 0 1 k0C, 0, List.replicate (n * n).toNat 0⟩ := by
  unfold lvS; simp only; rw [if_pos h]
theorem lvS_yes {p : List UInt8} {s n : Int} (h : fbV p s 0 1 k0C ≠ 0) : lvS p s n = lvRun p (n * n) ⟨fuA p (fbA p s 0 1 k0C) (fbC p s 0 1 k0C) (kR (n * n)), fuC p (fbA p s 0 1 k0C) (fbC p s 0 1 k0C) (kR (n * n)), 0, List.replicate (n * n).toNat 0⟩ (1 + fuV p (fbA p s 0 1 k0C) (fbC p s 0 1 k0C) (kR (n * n))).toNat := by
  unfold lvS; simp only; rw [if_neg h]
theorem lv_room {p : List UInt8} {s nn t : Int} (ht : 0 ≤ t ∧ t ≤ nn) (h : fuC p s 0 (kR (nn - t)) = 0) : t + fuV p s 0 (kR (nn - t)) < nn := by
  have h2 : fuV p s 0 (kR (nn - t)) < nn - t := by
    rcases Int.lt_or_le 0 (nn - t) with hp | hp
    · exact fuV_lt (by decide) hp
    · exfalso
      have hv := ueV_nn p s
      unfold fuC at h
      simp only [if_true] at h
      split at h
      · have h : ifE (ueV p s < nn - t) 5 = 0 := h
        rw [ifE_no (by omega)] at h; cases h
      · rename_i hh; exact hh h
  omega
theorem flv_c (p : List UInt8) (s n : Int) (hl : p.length ≤ 1099511627776) (hn : n = 4 ∨ n = 8) : Gn 141 [.ptr 0 0 0, I n] [FldO p s 0] [FldO p (lvS p s n).a (lvS p s n).c] [XI (lvS p s n).out] (.own 1 0 0 (lvS p s n).out.length) := by
  have hnn : 16 ≤ n * n ∧ n * n ≤ 64 := by rcases hn with rfl | rfl <;> decide
  have hn2 := mul_in (a := n) (b := n) (by omega) (by omega)
  generalize hx : lvS p s n = x
  refine FnG.of_bodyF tabOk Try.func141 Try.ntmps141 rfl (by decide +kernel) (by simp) rfl rfl fun G => ?_
  refine go (r := ?_); and_intros <;> intros <;> try exact True.intro
  refine K.call ?_
  refine WpL.callM (hs := [0]) (fbits_c p s 0 1 217 [] k0C hl ⟨rfl, rfl, fun x _ => levels1_c.ok x⟩) handA handOA rfl rfl (.cons rfl (.sc (.sc (.sc .nil))) .nil) outA rfl rfl rfl rfl (by decide) ?_
  have b1 := fbV_bd p s 0 1 k0C
  by_cases hv : fbV p s 0 1 k0C = 0
  · rw [lvS_no hv] at hx
    subst hx
    refine go (r := ?_); and_intros <;> intros <;> try exact True.intro
    all_goals first | (exact absurd hv (by assumption)) | trace_state
  · rw [lvS_yes hv] at hx
    generalize hv1 : fbV p s 0 1 k0C = v1 at b1 hv ⊢
    generalize ha1 : fbA p s 0 1 k0C = a1 at hx
    generalize hc1 : fbC p s 0 1 k0C = c1 at hx
    refine go (r := ?_); and_intros <;> intros <;> try exact True.intro
    all_goals first | (exact absurd (by assumption) hv) | skip
    refine K.call ?_
    refine WpL.callM (hs := [0]) (fue_c p a1 c1 218 [.iptr [I n] 0] (kR (n * n)) hl ⟨rfl, rfl, fun x _ => levels2_c.ok x n (by omega)⟩) handA handOA rfl rfl (.cons rfl (.sc (.sc (.sc .nil))) .nil) outA rfl rfl rfl rfl (by decide) ?_
    have b2 := fuV_bd p a1 c1 (kR (n * n))
    have b3 := fuV_nn p a1 c1 (kR (n * n))
    generalize hv2 : fuV p a1 c1 (kR (n * n)) = v2 at b2 b3 hx ⊢
    generalize ha2 : fuA p a1 c1 (kR (n * n)) = a2 at hx ⊢
    generalize hc2 : fuC p a1 c1 (kR (n * n)) = c2 at hx ⊢
    have hr0 := lvRun_at (p := p) (nn := n * n) (x := ⟨a2, c2, 0, List.replicate (n * n).toNat 0⟩) (show (0 : Int) ≤ 0 ∧ (0 : Int) ≤ n * n by omega)
    have hln := lvRun_len p (n * n) ⟨a2, c2, 0, List.replicate (n * n).toNat 0⟩
    have hst : ∀ k, lvRun p (n * n) ⟨a2, c2, 0, List.replicate (n * n).toNat 0⟩ (k + 1) = lvStep p (n * n) (lvRun p (n * n) ⟨a2, c2, 0, List.replicate (n * n).toNat 0⟩ k) := fun _ => rfl
    have hsp := fun k => lvRun_stop (p := p) (nn := n * n) (x := ⟨a2, c2, 0, List.replicate (n * n).toNat 0⟩) (k := k)
    have hz : lvRun p (n * n) ⟨a2, c2, 0, List.replicate (n * n).toNat 0⟩ 0 = ⟨a2, c2, 0, List.replicate (n * n).toNat 0⟩ := rfl
    generalize lvRun p (n * n) ⟨a2, c2, 0, List.replicate (n * n).toNat 0⟩ = X at hr0 hln hst hsp hz hx
    refine goR (r := ?_); and_intros <;> intros <;> try exact True.intro
    refine WpA.loop (fun k : Nat => ⟨[(0, .ptr 0 0 0), (3, .ptr 1 0 0), (5, .own 2 0 0 (n * n).toNat), (6, .ptr 3 0 0), (7, I (1 + v2)), (8, I k)], [FldO p (X k).a (X k).c, ⟨[I n], 0, 0, none⟩, XI (X k).out, ⟨[I (X k).at_], 0, 0, none⟩]⟩) (fun k => (k : Int) ≤ 1 + v2) (fun k => (1 + v2).toNat - k) 0 (by omega) (go (r := ?_)) (fun k hk => ?_)
    · rw [hz]; and_intros <;> first | exact True.intro | rfl | trace_state
    have hr0 := hr0 k
    have hln := hln k
    have hst := hst k
    have hsp := hsp k
    generalize hy : X k = y at hr0 hln hst hsp ⊢
    have hln : y.out.length = (n * n).toNat := by simpa using hln
    have hfin : (y.c ≠ 0 ∨ ¬ (k : Int) < 1 + v2) → y = x := by
      rintro (h | h)
      · rw [← hx, hsp h (1 + v2).toNat (by omega)]
      · have : k = (1 + v2).toNat := by omega
        rw [← hx, ← this, hy]
    refine goR (r := ?_); and_intros <;> intros <;> try exact True.intro
    · have hyc : y.c = 0 := by assumption
      have b4 := fuV_bd p y.a y.c (kR (n * n - y.at_))
      have b5 := fuV_nn p y.a y.c (kR (n * n - y.at_))
      have hkb : ∀ x : Int, -1 ≤ x ∧ x ≤ 4294967296 → Fn 219 (I x :: [.iptr [I n] 0, .iptr [I y.at_] 0]) [] (I (kR (n * n - y.at_) x)) := fun x _ => levels3_c.ok x n y.at_ (by omega)
      apply WpA.regionQF (O := []) (Or := [FldO p y.a y.c, ⟨[I n], 0, 0, none⟩, XI y.out, ⟨[I y.at_], 0, 0, none⟩]) (O1 := [FldO p (fuA p y.a y.c (kR (n * n - y.at_))) (fuC p y.a y.c (kR (n * n - y.at_))), ⟨[I n], 0, 0, none⟩, XI y.out, ⟨[I y.at_], 0, 0, none⟩]) 5 0 [1, 2, 3] rfl mixed (by decide +kernel)
      · exact rfl
      · apply HeadQ.consF (V := I y.at_) .none rfl
        · exact rfl
        · intro Tv Ov hc hp hd hk
          obtain ⟨x0, R, rfl⟩ := split3 hc (hk 1 rfl) (hk 2 rfl) (hk 3 rfl)
          exact in0
        · exact rfl
        · exact rfl
        apply HeadQ.consF .none rfl
        · exact rfl
        · exact in1
        · exact rfl
        · exact rfl
        apply HeadQ.consF (V := .fn 219 [.ptr 1 0 0, .ptr 3 0 0]) .none rfl
        · exact rfl
        · exact in1
        · exact rfl
        · exact rfl
        apply HeadQ.consF (V := I (fuV p y.a y.c (kR (n * n - y.at_)))) (.step 0 (FldO p (fuA p y.a y.c (kR (n * n - y.at_))) (fuC p y.a y.c (kR (n * n - y.at_))))) rfl
        · exact rfl
        · intro Tv Ov hc hp hd hk
          obtain ⟨R, rfl⟩ := split4 (hp 0 _ rfl) (hk 1 rfl) (hk 2 rfl) (hk 3 rfl)
          refine K.call ?_
          refine callM1 (fue_c p y.a y.c 219 [.iptr [I n] 0, .iptr [I y.at_] 0] (kR (n * n - y.at_)) hl ⟨rfl, rfl, hkb⟩) handA handOA rfl (.cons rfl (.sc (.sc (.sc .nil))) .nil) (by decide) ?_
          exact WpL.nil (Only.mk rfl)
        · exact rfl
        · exact rfl
        apply HeadQ.consF .none rfl
        · exact rfl
        · exact in1
        · exact rfl
        · exact rfl
        exact HeadQ.nil
      · exact rfl
      · exact rfl
      · exact rfl
      · exact rfl
      · exact rfl
      · exact rfl
      · exact rfl
      generalize hA1 : fuA p y.a y.c (kR (n * n - y.at_)) = A1
      generalize hC1 : fuC p y.a y.c (kR (n * n - y.at_)) = C1
      generalize hV1 : fuV p y.a y.c (kR (n * n - y.at_)) = w1 at b4 b5 ⊢
      rw [hyc] at hA1 hC1 hV1
      have hroom := lv_room (p := p) (s := y.a) hr0
      rw [hC1, hV1] at hroom
      rw [lvStep_yes hyc, hA1, hC1, hV1] at hst
      have hkeep := fun h => fuC_keep (p := p) (s := A1) (c := C1) (k := kL) h
      refine go (r := ?_); and_intros <;> intros <;> try exact True.intro
      refine K.call ?_
      refine WpL.callM (hs := [0]) (fue_c p A1 C1 221 [] kL hl ⟨rfl, rfl, fun x h => levels4_c.ok x (by omega)⟩) handA handOA rfl rfl (.cons rfl (.sc (.sc (.sc .nil))) .nil) outA rfl rfl rfl rfl (by decide) ?_
      have b6 := fuV_bd p A1 C1 kL
      by_cases hc2 : fuC p A1 C1 kL = 0
      · have h10 : C1 = 0 := by
          by_cases h : C1 = 0
          · exact h
          · exact absurd (hkeep h ▸ hc2) h
        have hroom := hroom h10
        rw [if_pos hc2] at hst
        refine go (r := ?_); and_intros <;> intros <;> try exact True.intro
        all_goals first | (exact absurd hc2 (by assumption)) | (rw [hst]; done) | (rw [hst]; rfl) | (rw [hst]; simp only; omega) | trace_state
      · rw [if_neg hc2] at hst
        refine go (r := ?_); and_intros <;> intros <;> try exact True.intro
        all_goals first | (exact absurd (by assumption) hc2) | (rw [hst]; done) | (rw [hst]; rfl) | trace_state
    all_goals first | (obtain rfl := hfin (by first | exact .inl (by assumption) | exact .inr (by assumption)); first | rfl | exact hln.symm | trace_state) | trace_state
end Go.Proofs.Ytgkeopmihhcbiaa

/- Contracts: the bits of a mode, whether it has a code, which mode a block gets; the law FnExactModeFor. No condition. -/
namespace Go.Proofs.Ytgkeopmihhcbiaa
open Go Go.Abs
set_option linter.unusedVariables false
set_option linter.unusedSimpArgs false
set_option maxRecDepth 100000
set_option maxHeartbeats 4000000
attribute [local irreducible] WpA WpL Rnd Blk Abs.Seq Abs.Fin Abs.FinG FnC FnG Only

def HasC (l : List Int) (m : Int) : Prop := CodeOk l ∧ (0 ≤ m ∧ m ≤ 5) ∧ l.getD m.toNat 0 ≠ 0
instance (l : List Int) (m : Int) : Decidable (HasC l m) := by unfold HasC; infer_instance
def symL (l : List Int) (m : Int) : List Int := if HasC l m then bitsL ((codes l).getD m.toNat 0) (l.getD m.toNat 0) else []
/-! The first mode with a code. -/
def firstM (l : List Int) : Nat := l.findIdx (fun x => decide (x ≠ 0))
def modeF (q : Int) (l ms : List Int) (k : Int) : Int := if OptOk q l ∧ 0 ≤ k then
  (if ms ≠ [] ∧ HasC l (ms.getD (k % ms.length).toNat 0) then ms.getD (k % ms.length).toNat 0 else firstM l) else -1
abbrev OpO (q : Int) (b d : Bool) (l m : List Int) (e : List Bool) : AObj := ⟨[I q, B b, B d, IL l, IL m, BL e], 0, 0, none⟩
end Go.Proofs.Ytgkeopmihhcbiaa

/- Contracts of the counts over a stream, and of the laws FnExactNonZeros and FnExactModeCounts. No condition. -/
namespace Go.Proofs.Ytgkeopmihhcbiaa
open Go Go.Abs
set_option linter.unusedVariables false
set_option linter.unusedSimpArgs false
set_option maxRecDepth 100000
set_option maxHeartbeats 4000000
attribute [local irreducible] WpA WpL Rnd Blk Abs.Seq Abs.Fin Abs.FinG FnC FnG Only

def nz1 (x : Int) : Nat := if x = 0 then 0 else 1
def nzB (b : Blok) : Nat := (b.2.map nz1).sum
def nzM (m : Mbk) : Nat := (m.2.map nzB).sum
/-! How often each mode occurs. -/
def modeNames : List (List UInt8) := [[109, 101, 97, 110], [100, 111, 119, 110], [97, 99, 114, 111, 115, 115], [115, 108, 111, 112, 101], [108, 101, 102, 116], [114, 105, 103, 104, 116]]
def modeW (m : Int) : List UInt8 := if 0 ≤ m ∧ m ≤ 5 then modeNames.getD m.toNat [] else []
def addAt (c : List Int) (m : Int) : List Int := if 0 ≤ m ∧ m ≤ 5 then c.set m.toNat (c.getD m.toNat 0 + 1) else c
def mcB (c : List Int) (bs : List Blok) (k : Nat) : List Int := (bs.take k).foldl (fun c b => addAt c b.1) c
def mcM (M : List Mbk) (i : Nat) : List Int := (M.take i).foldl (fun c m => mcB c m.2 m.2.length) [0, 0, 0, 0, 0, 0]
end Go.Proofs.Ytgkeopmihhcbiaa

/- Contracts: what lies around a square, the predictions, residuals. No condition. -/
namespace Go.Proofs.Ytgkeopmihhcbiaa
open Go Go.Abs
set_option linter.unusedVariables false
set_option linter.unusedSimpArgs false
set_option maxRecDepth 100000
set_option maxHeartbeats 4000000
attribute [local irreducible] WpA WpL Rnd Blk Abs.Seq Abs.Fin Abs.FinG FnC FnG Only

/-! Sides. -/
def side (k : Nat) : Int := if k = 16 then 4 else if k = 64 then 8 else 0
instance SizeOk_s : Con 210 (∀ n : Int, Fn 210 [I n] [] (B (decide (n = 4 ∨ n = 8)))) := ⟨fun n => by
  refine FnC.of_body tabOk Try.func210 Try.ntmps210 rfl (by decide +kernel) (by simp) fun G => ?_
  refine go (r := ?_); and_intros <;> intros <;> try exact True.intro
  all_goals simp_all⟩
instance SizeOk_c : Con 140 (∀ n : Int, Fn 140 [I n] [] (B (decide (n = 4 ∨ n = 8)))) := ⟨fun n => by
  refine FnC.of_body tabOk Try.func140 Try.ntmps140 rfl (by decide +kernel) (by simp) fun G => ?_
  refine go (r := ?_); and_intros <;> intros <;> try exact True.intro
  all_goals simp_all⟩
/-! Sums. -/
def psum (l : List Int) (k : Nat) : Int := (l.take k).sum
/-- The first i and the last i turned. -/
def revp (l : List Int) (i : Nat) : List Int := (List.range l.length).map fun k => if k < i ∨ l.length - 1 - k < i then l.getD (l.length - 1 - k) 0 else l.getD k 0
end Go.Proofs.Ytgkeopmihhcbiaa

/- Contracts: headers, levels, blocks, macroblocks, streams that are right. No condition. -/
namespace Go.Proofs.Ytgkeopmihhcbiaa
open Go Go.Abs
set_option linter.unusedVariables false
set_option linter.unusedSimpArgs false
set_option maxRecDepth 100000
set_option maxHeartbeats 4000000
attribute [local irreducible] WpA WpL Rnd Blk Abs.Seq Abs.Fin Abs.FinG FnC FnG Only

/-! Headers. -/
abbrev HdOk (w h q : Int) (l : List Int) : Prop := SidesOk w h ∧ (0 ≤ q ∧ q ≤ 51) ∧ CodeOk l
def cntM (w h : Int) : Int := w / 8 * (h / 8)
/-! Levels. -/
abbrev LvOk (l : List Int) : Prop := In l (-16383) 16383 ∧ (l.length = 16 ∨ l.length = 64)
/-! Blocks. -/
abbrev BlkOk (m : Int) (lv : List Int) (lens : List Int) (n : Int) : Prop := (n = 4 ∨ n = 8) ∧ HasC lens m ∧ (lv.length : Int) = n * n ∧ LvOk lv
/-! The first place that passes a test. -/
def ixF {α : Type} (p : α → Bool) (l : List α) : Int := if l.any p = true then (l.findIdx p : Int) else -1
/-! Macroblocks. -/
def badB (lens : List Int) (n : Int) (b : Blok) : Bool := decide (¬ BlkOk b.1 b.2 lens n)
abbrev fB (lens : List Int) (n : Int) : AV := .fn 133 [.iptr [IL lens] 0, .iptr [I n] 0]
end Go.Proofs.Ytgkeopmihhcbiaa

/- Plain laws: where a reader stands stays in its text; how much is read; streams as they are parsed. No condition. -/
namespace Go.Proofs.Ytgkeopmihhcbiaa
open Go Go.Abs
set_option linter.unusedVariables false
set_option linter.unusedSimpArgs false

theorem rbA_ok {p : List UInt8} {s n : Int} (h : RdOk p s) : RdOk p (rbA p s n) := by
  by_cases ho : RbOk p s n
  · rw [(rb_yes ho).1]
    have h1 := lft_ok h
    have h2 := ho.2.2
    have h3 := ho.2.1
    have h4 := h.1
    constructor <;> omega
  · rw [(rb_no ho).1]; exact h
theorem ueA_ok {p : List UInt8} {s : Int} (h : RdOk p s) : RdOk p (ueA p s) := by
  unfold ueA; split
  · exact rbA_ok h
  · exact h
theorem fuA_ok {p : List UInt8} {s c : Int} {k : Int → Int} (h : RdOk p s) : RdOk p (fuA p s c k) := by
  unfold fuA; split
  · exact ueA_ok h
  · exact h
theorem fbA_ok {p : List UInt8} {s c n : Int} {k : Int → Int} (h : RdOk p s) : RdOk p (fbA p s c n k) := by
  unfold fbA; split
  · exact rbA_ok h
  · exact h
theorem smA_ok {p : List UInt8} {s : Int} {l : List Int} (h : RdOk p s) : RdOk p (smA p s l) := by
  by_cases hc : smC p s l = 0
  · rw [smA, if_pos hc]
    have hm : symM p s l < 6 := by
      unfold smC at hc
      split at hc
      · split at hc
        · assumption
        · exact absurd hc (by decide)
      · exact absurd hc (by decide)
    have h0 := symM_lt hm
    have h1 := lft_ok h
    have h2 := h0.2.1.2.2
    have h3 := h0.1
    have h4 := h.1
    constructor <;> omega
  · rw [smA, if_neg hc]; exact h
theorem lvStep_ok {p : List UInt8} {nn : Int} {x : LvS} (h : RdOk p x.a) : RdOk p (lvStep p nn x).a := by
  unfold lvStep; split
  · simp only; split <;> exact fuA_ok (fuA_ok h)
  · exact h
theorem lvRun_ok {p : List UInt8} {nn : Int} {x : LvS} (h : RdOk p x.a) : ∀ k, RdOk p (lvRun p nn x k).a
  | 0 => h
  | k + 1 => by rw [lvRun]; exact lvStep_ok (lvRun_ok h k)
theorem lvS_ok {p : List UInt8} {s n : Int} (h : RdOk p s) : RdOk p (lvS p s n).a := by
  unfold lvS; simp only; split
  · exact fbA_ok h
  · exact lvRun_ok (x := ⟨_, _, _, _⟩) (fuA_ok (fbA_ok h)) _
theorem blS_ok {p : List UInt8} {s : Int} {lens : List Int} {n : Int} (h : RdOk p s) : RdOk p (blS p s lens n).a := by
  unfold blS; split
  · split
    · simp only; split <;> exact lvS_ok (smA_ok h)
    · exact h
  · exact h
theorem mbRun_ok {p : List UInt8} {s : Int} {lens : List Int} {n : Int} (h : RdOk p s) : ∀ k, RdOk p (mbRun p s lens n k).a
  | 0 => h
  | k + 1 => by
    have ih := mbRun_ok (lens := lens) (n := n) h k
    rw [mbRun]; simp only; split
    · split <;> exact blS_ok ih
    · exact ih
theorem mbS_ok {p : List UInt8} {s : Int} {lens : List Int} (h : RdOk p s) : RdOk p (mbS p s lens).1.a := by
  unfold mbS; split
  · rename_i ho
    have : RdOk p (s + 1) := by have := rbA_ok (n := 1) h; rwa [(rb_yes ho).1] at this
    exact mbRun_ok this _
  · exact h
/-! How much is read. -/
theorem mbRun_sm {p : List UInt8} {s : Int} {lens : List Int} {n : Int} : ∀ k, ∀ b ∈ (mbRun p s lens n k).bs, b.2.length ≤ 64
  | 0, b, hb => by simp [mbRun] at hb
  | k + 1, b, hb => by
    have ih := mbRun_sm (p := p) (s := s) (lens := lens) (n := n) k
    rw [mbRun] at hb; simp only at hb
    split at hb
    · split at hb
      · simp at hb
        rcases hb with hb | hb
        · exact ih b hb
        · rw [hb]; exact blS_len _ _ _ _
      · simp at hb
    · exact ih b hb
theorem mbRun_le {p : List UInt8} {s : Int} {lens : List Int} {n : Int} : ∀ k, (mbRun p s lens n k).bs.length ≤ k
  | 0 => by simp [mbRun]
  | k + 1 => by
    have ih := mbRun_le (p := p) (s := s) (lens := lens) (n := n) k
    rw [mbRun]; simp only
    split
    · split
      · simp; exact ih
      · simp
    · omega
theorem mbS_sm {p : List UInt8} {s : Int} {lens : List Int} : (mbS p s lens).1.bs.length ≤ 4 ∧ ∀ b ∈ (mbS p s lens).1.bs, b.2.length ≤ 64 := by
  unfold mbS; split
  · refine ⟨Nat.le_trans (mbRun_le _) ?_, mbRun_sm _⟩
    cases decide (rbV p s 1 = 1) <;> decide
  · simp
/-! Streams that are parsed. -/
structure PrS where
  W : Int
  H : Int
  Q : Int
  B : Bool
  D : Bool
  L : List Int
  ms : List Mbk
  a : Int
  c : Int
def prS (p : List UInt8) : PrS :=
  let x := hdS p 0
  if x.c = 0 then
    let y := stRun p x.a x.L (cntM x.W x.H).toNat
    if y.c = 0 then
      if endC p y.a = 0 then ⟨x.W, x.H, x.Q, x.B, x.D, x.L, y.ms, y.a, 0⟩ else ⟨0, 0, 0, false, false, [], [], y.a, endC p y.a⟩
    else ⟨0, 0, 0, false, false, [], [], y.a, y.c⟩
  else ⟨0, 0, 0, false, false, [], [], x.a, x.c⟩
end Go.Proofs.Ytgkeopmihhcbiaa

/- Contracts of the laws' own functions over numbers, truth values, options, headers, blocks, macroblocks, streams: sizes, copies, comparisons, marks. No condition. -/
namespace Go.Proofs.Ytgkeopmihhcbiaa
open Go Go.Abs
set_option linter.unusedVariables false
set_option linter.unusedSimpArgs false
set_option maxRecDepth 100000
set_option maxHeartbeats 4000000
attribute [local irreducible] WpA WpL Rnd Blk Abs.Seq Abs.Fin Abs.FinG FnC FnG Only

def marksI (k : Int) (n : Nat) : List Int := (List.range n).map fun i : Nat => k + (i : Int)
@[simp] theorem marksI_len (k : Int) (n : Nat) : (marksI k n).length = n := by simp [marksI]
instance markIntS_c : ConG 161 (∀ (l : List Int) (k : Int), l.length ≤ 1099511627776 ∧ 0 ≤ k ∧ k ≤ 1099511627776 → Gn 161 [.own 0 0 0 l.length, I k] [IN l] [IN (marksI k l.length)] [] (I (k + l.length))) := ⟨fun l k hk => by
  refine FnG.of_bodyF tabOk Try.func161 Try.ntmps161 rfl (by decide +kernel) (by simp) rfl rfl fun G => ?_
  refine go (r := ?_); and_intros <;> intros <;> try exact True.intro
  refine WpA.loop (fun i : Nat => ⟨[(0, .own 0 0 0 l.length), (1, I (k + i)), (5, I i)], [IN (marksI k i ++ l.drop i)]⟩) (fun i => i ≤ l.length) (fun i => l.length - i) 0 (by simp) (go (r := ?_)) (fun i hi => ?_)
  · simp [marksI]
  have hml := marksI_len k i
  refine go (r := ?_); and_intros <;> intros <;> try exact True.intro
  · first | exact mark_step (fun i : Nat => k + (i : Int)) l i (by omega) | (simp only [Nat.mul_one, Int.toNat_natCast]; exact mark_step (fun i : Nat => k + (i : Int)) l i (by omega))
  · have : i = l.length := by omega
    subst this; simp⟩
instance heldIntS_c : Con 162 (∀ (l : List Int) (k : Int), l.length ≤ 1099511627776 ∧ 0 ≤ k ∧ k ≤ 1099511627776 → Fn 162 [IL l, I k] [] (I (if l = marksI k l.length then k + l.length else -1))) := ⟨fun l k hk => by
  refine FnC.of_body tabOk Try.func162 Try.ntmps162 rfl (by decide +kernel) (by simp) fun G => ?_
  refine go (r := ?_); and_intros <;> intros <;> try exact True.intro
  refine WpA.loop (fun i : Nat => ⟨[(0, IL l), (1, I (k + i)), (5, I i)], []⟩) (fun i => i ≤ l.length ∧ l.take i = marksI k i) (fun i => l.length - i) 0 (by simp [marksI]) (go (r := ?_)) (fun i hi => ?_)
  · simp
  refine go (r := ?_); and_intros <;> intros <;> try exact True.intro
  · rw [if_neg]; exact held_not (fun i : Nat => k + (i : Int)) 0 l i (by omega) ‹_›
  · exact held_step (fun i : Nat => k + (i : Int)) 0 l i (by omega) hi.2 ‹_›
  · have : i = l.length := by omega
    subst this; rw [if_pos (by simpa using hi.2)]⟩
def marksB (k : Int) (n : Nat) : List Bool := (List.range n).map fun i : Nat => decide ((k + (i : Int)) % 3 = 0)
@[simp] theorem marksB_len (k : Int) (n : Nat) : (marksB k n).length = n := by simp [marksB]
/-! Options. -/
end Go.Proofs.Ytgkeopmihhcbiaa

/- Contracts: caches of bits by the program and by the specification, and those of the laws. No condition. -/
namespace Go.Proofs.Ytgkeopmihhcbiaa
open Go Go.Abs
set_option linter.unusedVariables false
set_option linter.unusedSimpArgs false
set_option maxRecDepth 100000
set_option maxHeartbeats 4000000
attribute [local irreducible] WpA WpL Rnd Blk Abs.Seq Abs.Fin Abs.FinG FnC FnG Only

abbrev CA (p : List UInt8) (s w h : Int) : AV := .agg [Z p, I s, I w, I h]
instance toCache_c : Con 12 (∀ (p : List UInt8) (s w h : Int), Fn 12 [CA p s w h] [] (CA p s w h)) := ⟨fun p s w h => by
  refine FnC.of_body tabOk Try.func12 Try.ntmps12 rfl (by decide +kernel) (by simp) fun G => ?_
  refine go (r := ?_); and_intros <;> intros <;> try exact True.intro⟩
instance szCache_c : Con 9 (∀ (p : List UInt8) (s w h left : Int), p.length ≤ 9223372036854775807 ∧ 0 ≤ left ∧ left ≤ 1048576 → Fn 9 [CA p s w h, I left] [] (I (max (-1) (left - p.length)))) := ⟨fun p s w h left hl => by
  refine FnC.of_body tabOk Try.func9 Try.ntmps9 rfl (by decide +kernel) (by simp) fun G => ?_
  refine go (r := ?_); and_intros <;> intros <;> try exact True.intro
  all_goals first | omega | trace_state⟩
instance eqCache_c : Con 15 (∀ (p : List UInt8) (s w h : Int) (p2 : List UInt8) (s2 w2 h2 : Int), Fn 15 [CA p s w h, CA p2 s2 w2 h2] [] (B (decide (p = p2 ∧ s = s2 ∧ w = w2 ∧ h = h2)))) := ⟨fun p s w h p2 s2 w2 h2 => by
  refine FnC.of_body tabOk Try.func15 Try.ntmps15 rfl (by decide +kernel) (by simp) fun G => ?_
  refine go (r := ?_); and_intros <;> intros <;> try exact True.intro
  all_goals first | (simp_all; done) | trace_state⟩
theorem numB_suc (p : List UInt8) (s : Int) (k : Nat) : numB p s (k + 1) = numB p s k * 2 + bv p (s + k) := rfl
abbrev CaOk (p : List UInt8) (s w h : Int) : Prop := (0 ≤ s ∧ s ≤ p.length) ∧ (0 ≤ h ∧ h ≤ 56 ∧ h ≤ 8 * s) ∧ w = numB p (8 * s - h) h.toNat
instance CacheOk_c : Con 69 (∀ (p : List UInt8) (s w h : Int), p.length ≤ 1099511627776 → Fn 69 [CA p s w h] [] (B (decide (CaOk p s w h)))) := ⟨fun p s w h hl => by
  refine FnC.of_body tabOk Try.func69 Try.ntmps69 rfl (by decide +kernel) (by simp) fun G => ?_
  refine go (r := ?_); and_intros <;> intros <;> try exact True.intro
  all_goals first | (simp_all; done) | (rw [Bool.eq_iff_iff]; simp; omega) | trace_state⟩
instance CacheOk_s : Con 62 (∀ (p : List UInt8) (s w h : Int), p.length ≤ 1099511627776 → Fn 62 [CA p s w h] [] (B (decide (CaOk p s w h)))) := ⟨fun p s w h hl => by
  refine FnC.of_body tabOk Try.func62 Try.ntmps62 rfl (by decide +kernel) (by simp) fun G => ?_
  refine go (r := ?_); and_intros <;> intros <;> try exact True.intro
  · refine WpA.loop (fun k : Nat => ⟨[(1, .ptr 0 0 0), (3, I (numB p (8 * s - h) k)), (4, I (8 * s - h + k))], [⟨[Z p, I s, I w, I h], 0, 0, none⟩]⟩) (fun k => (k : Int) ≤ h) (fun k => h.toNat - k) 0 (by omega) (go (r := ?_)) (fun k hk => ?_)
    · and_intros <;> first | exact True.intro | rfl | simp | trace_state
    have hb := numB_bd p (8 * s - h) k
    have hb2 := numB_le p (8 * s - h) (k := k) (j := 56) (by omega)
    have hst := numB_suc p (8 * s - h) k
    have hbt := btA_out p (8 * s - h + k)
    have hbd := btA_bd p (8 * s - h + k)
    have hbv : (k : Int) < h → bv p (8 * s - h + k) = btA p (8 * s - h + k) := fun h1 => by unfold bv; omega
    refine go (r := ?_); and_intros <;> intros <;> try exact True.intro
    all_goals first | omega | (rw [hst, hbv (by omega)]; done) | ((have e : h.toNat = k := by omega); rw [Bool.eq_iff_iff, decide_eq_true_eq, decide_eq_true_eq, CaOk, e]; constructor; (intro hh; exact ⟨by omega, by omega, hh⟩); (intro hh; exact hh.2.2)) | trace_state
  all_goals first | (simp_all; done) | (symm; rw [decide_eq_false_iff_not]; omega) | trace_state⟩
def plA (p : List UInt8) (s w h : Int) : Int := if CaOk p s w h then 8 * s - h else -1
instance PlaceIn_c : Con 56 (∀ (p : List UInt8) (s w h : Int), p.length ≤ 1099511627776 → Fn 56 [CA p s w h] [] (I (plA p s w h))) := ⟨fun p s w h hl => by
  unfold plA
  refine FnC.of_body tabOk Try.func56 Try.ntmps56 rfl (by decide +kernel) (by simp) fun G => ?_
  by_cases hc : CaOk p s w h
  · rw [if_pos hc]
    refine go (r := ?_); and_intros <;> intros <;> try exact True.intro
    all_goals first | contradiction | omega | trace_state
  · rw [if_neg hc]
    refine go (r := ?_); and_intros <;> intros <;> try exact True.intro
    all_goals first | contradiction | omega | trace_state⟩
instance PlaceIn_s : Con 156 (∀ (p : List UInt8) (s w h : Int), p.length ≤ 1099511627776 → Fn 156 [CA p s w h] [] (I (plA p s w h))) := ⟨fun p s w h hl => by
  unfold plA
  refine FnC.of_body tabOk Try.func156 Try.ntmps156 rfl (by decide +kernel) (by simp) fun G => ?_
  by_cases hc : CaOk p s w h
  · rw [if_pos hc]
    refine go (r := ?_); and_intros <;> intros <;> try exact True.intro
    all_goals first | contradiction | omega | trace_state
  · rw [if_neg hc]
    refine go (r := ?_); and_intros <;> intros <;> try exact True.intro
    all_goals first | contradiction | omega | trace_state⟩
abbrev SetV (p : List UInt8) (s : Int) : AV := CA p ((s + 7) / 8) (numB p s (8 * ((s + 7) / 8) - s).toNat) (8 * ((s + 7) / 8) - s)
instance settledAt_c : Con 71 (∀ (p : List UInt8) (s : Int), p.length ≤ 1099511627776 ∧ RdOk p s → Fn 71 [Z p, I s] [] (SetV p s)) := ⟨fun p s hl => by
  refine FnC.of_body tabOk Try.func71 Try.ntmps71 rfl (by decide +kernel) (by simp) fun G => ?_
  refine go (r := ?_); and_intros <;> intros <;> try exact True.intro
  all_goals first | omega | trace_state⟩
instance l7At_s : Con 157 (∀ (p : List UInt8) (s : Int), p.length ≤ 1099511627776 ∧ RdOk p s → Fn 157 [Z p, I s] [] (SetV p s)) := ⟨fun p s hl => by
  have h0 := hl.2.1
  have h1 := hl.2.2
  refine FnC.of_body tabOk Try.func157 Try.ntmps157 rfl (by decide +kernel) (by simp) fun G => ?_
  refine go (r := ?_); and_intros <;> intros <;> try exact True.intro
  refine WpA.loop (fun k : Nat => ⟨[(0, Z p), (4, .ptr 0 0 0), (5, .ptr 1 0 0), (6, I (s + k))], [⟨[Z [], I 0, I 0, I 0], 0, 0, none⟩, ⟨[Z p, I ((s + 7) / 8), I (numB p s k), I (8 * ((s + 7) / 8) - s)], 0, 0, none⟩]⟩) (fun k => (k : Int) ≤ 8 * ((s + 7) / 8) - s) (fun k => (8 * ((s + 7) / 8) - s).toNat - k) 0 (by omega) (go (r := ?_)) (fun k hk => ?_)
  · and_intros <;> first | exact True.intro | rfl | simp | trace_state
  have hb := numB_bd p s k
  have hb2 := numB_le p s (k := k) (j := 56) (by omega)
  have hst := numB_suc p s k
  have hbt := btA_out p (s + k)
  have hbd := btA_bd p (s + k)
  have hbv : (k : Int) < 8 * ((s + 7) / 8) - s → bv p (s + k) = btA p (s + k) := fun h1 => by unfold bv; omega
  refine go (r := ?_); and_intros <;> intros <;> try exact True.intro
  all_goals first | omega | (rw [hst, hbv (by omega)]; done) | ((have e : (8 * ((s + 7) / 8) - s).toNat = k := by omega); rw [e]) | trace_state⟩
instance l26Back_s : Con 66 (∀ (p : List UInt8) (s : Int), p.length ≤ 1099511627776 ∧ RdOk p s → Fn 66 [RA p s] [] (SetV p s)) := ⟨fun p s hl => by
  refine FnC.of_body tabOk Try.func66 Try.ntmps66 rfl (by decide +kernel) (by simp) fun G => ?_
  refine go (r := ?_); and_intros <;> intros <;> try exact True.intro
  all_goals first | exact hl.2 | omega | trace_state⟩
instance l7Reader_s : Con 65 (∀ (p : List UInt8) (s w h : Int), p.length ≤ 1099511627776 → Fn 65 [CA p s w h] [] (RA p (plA p s w h))) := ⟨fun p s w h hl => by
  refine FnC.of_body tabOk Try.func65 Try.ntmps65 rfl (by decide +kernel) (by simp) fun G => ?_
  refine go (r := ?_); and_intros <;> intros <;> try exact True.intro
  all_goals first | omega | trace_state⟩
end Go.Proofs.Ytgkeopmihhcbiaa

/- Comparisons of structs of two numbers. No condition. -/
namespace Go.Abs
open Go
set_option linter.unusedVariables false
set_option linter.unusedSimpArgs false

theorem run_eq_pr {P : Program} {t : TypeId} {f1 f2 : Field} (hu : P.underlying t = some (.struct #[f1, f2])) (h1 : f1.name ≠ "_") (h2 : f2.name ≠ "_") (o1 : f1.offset = 0) (o2 : f2.offset = 1)
    (hi1 : P.underlying f1.type = some (.int .i64)) (hi2 : P.underlying f2.type = some (.int .i64)) (hp : P.stoodInHeld t = false) (w : World) (a b c d : Int) :
    (Op.equalIn 10000 t (.agg #[.int .i64 a, .int .i64 b]) (.agg #[.int .i64 c, .int .i64 d])).run P w = .ok (decide (a = c ∧ b = d)) w := by
  have hf : P.fieldsOf t = #[f1, f2] := by unfold Program.fieldsOf; rw [hu]
  have h := run_equalIn_struct (P := P) w 9999 t #[.int .i64 a, .int .i64 b] #[.int .i64 c, .int .i64 d] (by rw [hf]; exact hu) hp
  rw [hf] at h
  show (Op.equalIn (9999 + 1) _ _ _).run P w = _
  rw [h]
  have p1 : ∀ (i : Nat) (x y : Int), (part f1.type #[.int .i64 x, .int .i64 y] 0).run P w = .ok (.int .i64 x) w := fun i x y => by
    simp [part, isAgg, Sem.run_bind, run_underlying hi1]
  have p2 : ∀ (x y : Int), (part f2.type #[.int .i64 x, .int .i64 y] 1).run P w = .ok (.int .i64 y) w := fun x y => by
    simp [part, isAgg, Sem.run_bind, run_underlying hi2]
  have q1 := fun x y => run_equalIn_int (P := P) w 9998 f1.type .i64 .i64 x y hi1
  have q2 := fun x y => run_equalIn_int (P := P) w 9998 f2.type .i64 .i64 x y hi2
  simp only [Op.eqFields, h1, h2, o1, o2, ne_eq, not_false_eq_true, if_true, Sem.run_bind, p1 0, Result.andThen_ok, q1]
  by_cases e1 : a = c
  · by_cases e2 : b = d
    · simp [e1, e2, Sem.run_bind, p2, q2]
    · simp [e1, e2, Sem.run_bind, p2, q2]
  · simp [e1]
/-- A type whose values are two numbers that are compared one by one. -/
class EqPr (P : Program) (t : TypeId) : Prop where
  eq : ∀ (w : World) (a b c d : Int), (Op.equalIn 10000 t (.agg #[.int .i64 a, .int .i64 b]) (.agg #[.int .i64 c, .int .i64 d])).run P w = .ok (decide (a = c ∧ b = d)) w
  gd : P.eqGuardType P.depth t = false
section
variable {P : Program} {n m : Nat} {G : Ctx} {T : List (Nat × AV)} {O : List AObj} {Q : Exit → St → Prop} {md : Bool} {ops : Array Oper} {l : List Oper} {d : Nat} {tt : TypeId} {pos : String} {after : Array Edge}
theorem RelAt.pr {S ι F a w} (hr : RelAt n m G S ι F ⟨T, O⟩ a w) {x : Operand} {p q : Int} (hx : av T x = .agg [I p, I q]) : a.eval x = .agg #[.int .i64 p, .int .i64 q] := by
  have h := hr.eval x
  rw [hx] at h
  obtain ⟨us, e, hu⟩ := LRel.agg_inv h
  rw [e]
  cases hu with
  | sc h2 => cases h2 with
    | sc h3 => cases h3; rfl
theorem WpL.prNe {t ty : TypeId} {x y : Operand} {a b c e : Int} [hE : EqPr P t] (hx : av T x = .agg [I a, I b]) (hy : av T y = .agg [I c, I e]) (hn : d < n)
    (h : WpL P n m G md ops l ⟨(d, .sc (.bool (!decide (a = c ∧ b = e)))) :: T, O⟩ Q) :
    WpL P n m G md ops ({ dst := some d, op := .binOp .neq t x y ty, type := tt, pos := pos, after := after, guard := none } :: l) ⟨T, O⟩ Q :=
  WpL.pure rfl rfl hn (fun S ι F act w hr => ⟨_, by
    simp only [execOp, hr.pr hx, hr.pr hy, Sem.run_bind, run_eqGuard_agg (P := P) w _ _ _ _ _ _ hE.gd, Result.andThen_ok, run_neq_struct (P := P) w, hE.eq, Sem.run_pure], .sc .nil⟩) h
end
end Go.Abs

/- Appending zeros to a slice of numbers that is owned. No condition. -/
namespace Go.Abs
open Go
set_option linter.unusedVariables false
set_option linter.unusedSimpArgs false

theorem zav_one {z : Value} (h : [I 0] = z.cells.toList.map zav) : z.cells = #[.int .i64 0] := by
  have hl : z.cells.toList.length = 1 := by have := congrArg List.length h; simpa using this.symm
  match hz : z.cells.toList, hl with
  | [v], _ =>
    rw [hz] at h
    simp only [List.map_cons, List.map_nil, List.cons.injEq, and_true] at h
    have hv : v = .int .i64 0 := by
      unfold zav at h
      split at h
      · cases h
      · simpa using h.symm
    apply Array.ext'
    rw [hz, hv]
theorem zero_cells {z : Value} (h : z.cells = #[.int .i64 0]) (c : Nat) : Builtin.zeroCells z.cells c = (List.replicate c (Value.int .i64 0)).toArray := by
  rw [h]
  apply Array.ext
  · simp [Builtin.zeroCells]
  · intro i h1 h2
    simp [Builtin.zeroCells, Nat.mod_one]
theorem lrel_zeros {S w ι O} : ∀ c, LRel S w ι O (ints (List.replicate c 0)) (List.replicate c (Value.int .i64 0)) []
  | 0 => .nil
  | c + 1 => .sc (lrel_zeros c)
section
variable {P : Program} (w : World)
theorem run_append_room_zeros (t u ty e : TypeId) (i : TypeInfo) (z : Value) (kn : IntKind) (ht : P.underlying t = some (.slice e)) (hu : P.underlying u = some (.int kn)) (hi : P.info? e = some i) (hz : i.zero = some z) (hzc : z.cells = #[.int .i64 0]) (hs1 : i.size = 1)
    (g sLen sCap c : Nat) (cur : Array Value) (hg : w.heap[g]? = some (.cells cur e (0, 0))) (h0 : 0 < c) (h63 : (c : Int) * (i.bytes : Int) ≤ 281474976710656 ∧ (c : Int) ≤ 9223372036854775807)
    (hroom : sLen + c ≤ sCap) (hfit : sLen * i.size + c ≤ cur.size) :
    (Builtin.append_ #[t, u] ty #[.slice (some ⟨g, 0, none⟩) sLen sCap, .int .i64 c]).run P w =
      .ok (.slice (some ⟨g, 0, none⟩) (sLen + c) sCap) (w.setRow g (cur.toList.take (sLen * i.size) ++ List.replicate c (Value.int .i64 0) ++ cur.toList.drop (sLen * i.size + (List.replicate c (Value.int .i64 0)).length)).toArray) := by
  have hn : c ≠ 0 := by omega
  have hw : IntKind.i64.wrap (c : Int) = c := by rw [IntKind.wrap_i64]; omega
  have hneg : ¬ ((c : Int) < 0) := by omega
  have h48i : ¬ (281474976710656 < (c : Int) * (i.bytes : Int)) := by omega
  have hns : ¬ (c * i.size = 0) := by rw [hs1]; omega
  have hst := run_storeCells_at P g (sLen * i.size) e (List.replicate c (Value.int .i64 0)) 0 cur w hg (by simpa using hfit) (by intro v hv; rw [List.eq_of_mem_replicate hv]; rfl)
  simp only [Nat.add_zero] at hst
  simp [Builtin.append_, run_underlying ht, run_underlying hu, sizeOf, typeInfo, zeroValue, hi, hz, asInt, asIntOf, hw, hn, hneg, hns, h48i, hroom, Addr.add_lit, zero_cells hzc, hst]
theorem run_append_grow_zeros (t u ty e : TypeId) (i : TypeInfo) (z : Value) (kn : IntKind) (ht : P.underlying t = some (.slice e)) (hu : P.underlying u = some (.int kn)) (hi : P.info? e = some i) (hz : i.zero = some z) (hzc : z.cells = #[.int .i64 0]) (hs1 : i.size = 1)
    (b : Addr) (sLen sCap c : Nat) (olds : List Value) (hlo : olds.length = sLen * i.size) (holds : ∀ j v, olds[j]? = some v → w.cell? (b.add j) = some v) (h0 : 0 < c) (h48 : (c : Int) * (i.bytes : Int) ≤ 281474976710656 ∧ (c : Int) ≤ 9223372036854775807)
    (hg : sCap < sLen + c) (h63 : sLen + c ≤ 9223372036854775807) (hfit : Builtin.nextslicecap (sLen + c) sCap * i.bytes ≤ 281474976710656) :
    (Builtin.append_ #[t, u] ty #[.slice (some b) sLen sCap, .int .i64 c]).run P w =
      .ok (.slice (some ⟨w.heap.size, 0, none⟩) (sLen + c) (grownCap w (sLen + c) sCap e))
        (w.drew.alloc (.cells (olds.toArray ++ (List.replicate c (Value.int .i64 0)).toArray ++ Builtin.zeroCells z.cells (grownCap w (sLen + c) sCap e - (sLen + c))) e)) := by
  have hn : c ≠ 0 := by omega
  have hw : IntKind.i64.wrap (c : Int) = c := by rw [IntKind.wrap_i64]; omega
  have hneg : ¬ ((c : Int) < 0) := by omega
  have h48i : ¬ (281474976710656 < (c : Int) * (i.bytes : Int)) := by omega
  have hns : ¬ (c * i.size = 0) := by rw [hs1]; omega
  have hno : ¬ (sLen + c ≤ sCap) := by omega
  have h48' : ¬ (281474976710656 < Builtin.nextslicecap (sLen + c) sCap * i.bytes) := by omega
  have h63' : ¬ (9223372036854775807 < ((sLen : Int) + (c : Int))) := by omega
  have hfo := run_firstCells_some (P := P) w.drew i.size sLen b sLen sCap olds hlo (by simpa using holds)
  simp [Builtin.append_, run_underlying ht, run_underlying hu, sizeOf, typeInfo, zeroValue, hi, hz, asInt, asIntOf, hw, hn, hneg, hns, h48i, hno, h63', h48', Question.forced, hfo, newRow, grownCap]
  rw [zero_cells hzc c]; simp
end
section
variable {P : Program} {n m : Nat} {G : Ctx} {T : List (Nat × AV)} {O : List AObj} {Q : Exit → St → Prop} {ops : Array Oper} {l : List Oper} {d : Nat} {tt : TypeId} {pos : String} {after : Array Edge} {tab : List (Nat × Ty)}
theorem WpL.appOwnZ (hP : TabOk P tab) {t u e b c : Nat} {kn : IntKind} {x y : Operand} {id ep len : Nat} {ob : AObj} (ht : tlook tab t = some (.slice e 1 b [I 0])) (hut : tlook tab u = some (.int kn)) (hx : av T x = .own id ep 0 len)
    (ho : O[id]? = some ob) (he : ob.ep = ep) (hty : ob.ty = some e) (hsz : ob.size = 1) (hol : ob.cells.length = len * 1) (hm : m ≤ id) (hy : av T y = .sc (.int .i64 c)) (hc0 : 0 < c)
    (hb : (len + c) * b ≤ 140737488355328 ∧ len + c ≤ 9223372036854775807) (hn : d < n)
    (h : WpL P n m G false ops l ⟨(d, .own id (ep + 1) 0 (len + c)) :: T, O.set id ⟨ob.cells ++ ints (List.replicate c 0), ep + 1, 1, some e⟩⟩ Q) :
    WpL P n m G false ops ({ dst := some d, op := .call { callee := .builtin .append, args := #[x, y], argTypes := #[t, u] }, type := tt, pos := pos, after := after, guard := none } :: l) ⟨T, O⟩ Q :=
  WpL.value rfl (fun a w hr => by
    obtain ⟨S, ι, F, hr⟩ := hr
    obtain ⟨hu, i, z, hi, hz, hk, hby, hzk, hk0, hzs⟩ := hP.slice ht
    have htu := (hP.ty hut).1
    have hzc := zav_one hzs
    have hcb : (c : Int) * (i.bytes : Int) ≤ 281474976710656 := by
      have h1 := Nat.mul_le_mul_right b (show c ≤ len + c by omega)
      rw [hby, ← Int.natCast_mul]; omega
    have hid : id < O.length := (List.getElem?_eq_some_iff.1 ho).1
    have hye := hr.sc hy
    have huslen : (List.replicate c (Value.int .i64 0)).length = c * 1 := by simp
    have hl : LRel S w ι O (ints (List.replicate c 0)) (List.replicate c (Value.int .i64 0)) [] := lrel_zeros c
    have hv := hr.eval x
    rw [show av (St.mk T O).T x = _ from hx] at hv
    have hob := hr.objs.obj id ob ho
    unfold ObjAt at hob
    have hown : OwnAt (ι id) ob.size 0 len (a.eval x) := by
      cases hv with
      | own q1 q2 q3 r =>
        rw [show (St.mk T O).O[id]? = some ob from ho] at q1
        cases q1
        exact q3 he.symm
    have hlenA : (ob.cells ++ ints (List.replicate c 0)).length = (len + c) * 1 := by rw [List.length_append, hol, show (ints (List.replicate c 0)).length = c * 1 by simp [ints], Nat.add_mul]
    -- what the end looks like
    have finish : ∀ (w' : World) (s' : Spot) (f' : List Nat) (v : Value), (Builtin.append_ #[t, u] tt #[a.eval x, a.eval y]).run P w = .ok v w' →
        Later S w ι O S w' (upd ι id s') (O.set id ⟨ob.cells ++ ints (List.replicate c 0), ep + 1, 1, some e⟩) ∧ RelAt n m G S (upd ι id s') (upd F id f') ⟨T, O.set id ⟨ob.cells ++ ints (List.replicate c 0), ep + 1, 1, some e⟩⟩ a w' → OwnAt s' 1 0 (len + c) v →
        ∃ v w', (execOp a.eval { dst := some d, op := .call { callee := .builtin .append, args := #[x, y], argTypes := #[t, u] }, type := tt, pos := pos, after := after, guard := none }).run P w = .ok (.value v) w' ∧
          Rel n m G ⟨(d, .own id (ep + 1) 0 (len + c)) :: T, O.set id ⟨ob.cells ++ ints (List.replicate c 0), ep + 1, 1, some e⟩⟩ (a.put (some d) v) w' := by
      intro w' s' f' v hrun hr' hoa
      refine ⟨v, w', by simp only [execOp, resolve, invoke, builtin, Sem.run_bind, Sem.run_pure, Result.andThen_ok, List.map_toArray, List.map_cons, List.map_nil, hrun], _, _, _, hr'.2.put hn ?_⟩
      exact .own (ob := ⟨ob.cells ++ ints (List.replicate c 0), ep + 1, 1, some e⟩) (by rw [List.getElem?_set_self hid]) (Nat.le_refl _) (fun _ => by rw [upd_same]; exact hoa) .nil
    -- a new block
    have fresh : ∀ (oldc : Nat) (olds : List Value) (f0 : List Nat), LRel S w ι O ob.cells olds f0 → f0.Nodup → (∀ b, b ∈ f0 → b ∈ F id) → (∀ b0 k0, ι id = some (b0, k0) → b0 ∉ f0) → len + c ≤ grownCap w (len + c) oldc e →
        (Builtin.append_ #[t, u] tt #[a.eval x, a.eval y]).run P w = .ok (.slice (some ⟨w.heap.size, 0, none⟩) (len + c) (grownCap w (len + c) oldc e)) (w.drew.alloc (.cells (olds.toArray ++ (List.replicate c (Value.int .i64 0)).toArray ++ Builtin.zeroCells z.cells (grownCap w (len + c) oldc e - (len + c))) e)) →
        ∃ v w', (execOp a.eval { dst := some d, op := .call { callee := .builtin .append, args := #[x, y], argTypes := #[t, u] }, type := tt, pos := pos, after := after, guard := none }).run P w = .ok (.value v) w' ∧
          Rel n m G ⟨(d, .own id (ep + 1) 0 (len + c)) :: T, O.set id ⟨ob.cells ++ ints (List.replicate c 0), ep + 1, 1, some e⟩⟩ (a.put (some d) v) w' := by
      intro oldc olds f0 hlo hnd0 hsub hnb hge hrun
      have hcm := grownCap_le_maxLen w (len + c) oldc e (by simp only [maxLen]; omega)
      have hA := adds_drew_alloc w (.cells (olds.toArray ++ (List.replicate c (Value.int .i64 0)).toArray ++ Builtin.zeroCells z.cells (grownCap w (len + c) oldc e - (len + c))) e)
      have holds : olds.length = len * 1 := by rw [← hlo.len]; exact hol
      have hszc : (olds.toArray ++ (List.replicate c (Value.int .i64 0)).toArray ++ Builtin.zeroCells z.cells (grownCap w (len + c) oldc e - (len + c))).size = grownCap w (len + c) oldc e * 1 := by
        simp only [Array.size_append, List.size_toArray, zeroCells_size, hzk, huslen, holds, ← Nat.add_mul]
        congr 1; omega
      refine finish _ (some (w.heap.size, grownCap w (len + c) oldc e * 1)) (w.heap.size :: f0) _ hrun (hr.renew (ob := ob) ho hm (by simp [he]) rfl rfl rfl (by rw [hA.size]; omega) (fun b' hb' _ => hA.old hb') ?_ ?_ ?_) ⟨_, rfl, by omega, hge, hcm⟩
      · intro hlat
        refine ⟨_, e, (0, 0), f0, rfl, hA.new, hszc, by rw [hlenA]; exact Nat.mul_le_mul_right _ hge, by simp, by simp, ?_⟩
        have htk : (olds.toArray ++ (List.replicate c (Value.int .i64 0)).toArray ++ Builtin.zeroCells z.cells (grownCap w (len + c) oldc e - (len + c))).toList.take (ob.cells ++ ints (List.replicate c 0)).length = olds ++ List.replicate c (Value.int .i64 0) := by
          rw [Array.toList_append, Array.toList_append]
          exact List.take_left' (by rw [hlenA, Nat.add_mul]; simp [holds, huslen])
        show LRel S _ _ _ (ob.cells ++ ints (List.replicate c 0)) _ f0
        rw [htk]
        have h1 := hlo.mono hlat (fun b' hb' => hA.old (hr.foot id hid b' (hsub b' hb')).2.2)
        have h2 := hl.mono hlat (by simp)
        simpa using h1.append h2
      · refine List.nodup_cons.2 ⟨fun hb => ?_, hnd0⟩
        have := (hr.foot id hid _ (hsub _ hb)).2.2
        omega
      · intro b' hb'
        rcases List.mem_cons.1 hb' with rfl | hb'
        · exact .inr ⟨Nat.le_refl _, by rw [hA.size]; omega⟩
        · exact .inl (hsub b' hb')
    cases hspot : ι id with
    | none =>
      rw [hspot] at hown hob
      obtain ⟨hxe, _, hlen0⟩ := hown
      subst hlen0
      obtain ⟨hcells, hFid⟩ := hob
      have hrun := Lib.run_append_nil_zeros (P := P) w t u tt e i z .i64 kn hu htu hi hz c hc0 (by omega) (by omega) (by rw [hby]; have := hb.1; simp only [Nat.zero_add] at this; omega)
      refine fresh 0 [] [] (by rw [hcells]; exact .nil) (by simp) (by simp) (by simp) (grownCap_ge _ _ _ _) ?_
      simp only [Nat.zero_add] at hrun ⊢
      rw [hxe, hye, hrun, zero_cells hzc]; simp
    | some p =>
      obtain ⟨b0, k0⟩ := p
      rw [hspot] at hown hob
      obtain ⟨cap, hxe, hcap0, hlc, hcm⟩ := hown
      obtain ⟨cur, t', fz, f', hF, hh, hcur, hle, hfz, htyp, hlo⟩ := hob
      obtain ⟨rfl, rfl⟩ := htyp e hty
      have hcurs : cur.size = cap * 1 := by rw [hcur, ← hcap0, hsz]; omega
      have hndF : (b0 :: f').Nodup := by rw [← hF]; exact hr.objs.nodup id hid
      have holdsl : (cur.toList.take ob.cells.length).length = len * 1 := by rw [← hlo.len]; exact hol
      by_cases hroom : len + c ≤ cap
      · -- in place
        have hfit : len * i.size + (List.replicate c (Value.int .i64 0)).length ≤ cur.size := by rw [hk, huslen, hcurs, ← Nat.add_mul]; exact Nat.mul_le_mul_right _ hroom
        have hrun : (Builtin.append_ #[t, u] tt #[a.eval x, a.eval y]).run P w =
            .ok (.slice (some ⟨b0, 0, none⟩) (len + c) cap) (w.setRow b0 (cur.toList.take (len * i.size) ++ List.replicate c (Value.int .i64 0) ++ cur.toList.drop (len * i.size + (List.replicate c (Value.int .i64 0)).length)).toArray) := by
          rw [hxe, hye]
          exact run_append_room_zeros (P := P) w t u tt t' i z kn hu htu hi hz hzc (by omega) b0 len cap c cur hh hc0 (by omega) hroom (by simpa using hfit)
        have hsr := setRow_heap w b0 cur (cur.toList.take (len * i.size) ++ List.replicate c (Value.int .i64 0) ++ cur.toList.drop (len * i.size + (List.replicate c (Value.int .i64 0)).length)).toArray t' (0, 0) hh
        have hso : ∀ b', b' ≠ b0 → (w.setRow b0 (cur.toList.take (len * i.size) ++ List.replicate c (Value.int .i64 0) ++ cur.toList.drop (len * i.size + (List.replicate c (Value.int .i64 0)).length)).toArray).heap[b']? = w.heap[b']? := fun b' hb' => setRow_other w b0 b' _ hb'
        refine finish _ (some (b0, k0)) (b0 :: f') _ hrun (hr.renew (ob := ob) ho hm (by simp [he]) rfl rfl rfl (by simp) ?_ ?_ hndF ?_) ⟨cap, rfl, by rw [← hcap0, hsz], hroom, hcm⟩
        · intro b' _ hb'
          refine hso b' ?_
          rintro rfl
          rcases hb' with hb' | ⟨_, hb'⟩
          · exact hb' (by rw [hF]; simp)
          · exact hb' k0 rfl
        · intro hlat
          have hlenk : ob.cells.length = len * i.size := by rw [hol, hk]
          refine ⟨_, t', (0, 0), f', rfl, hsr, ?_, ?_, by simp, by simp, ?_⟩
          · rw [← hcur]; simp; omega
          · show (ob.cells ++ ints (List.replicate c 0)).length ≤ k0
            rw [hlenA, ← hcur, hcurs]; exact Nat.mul_le_mul_right _ hroom
          · show LRel S _ _ _ (ob.cells ++ ints (List.replicate c 0)) _ f'
            have htk : (cur.toList.take (len * i.size) ++ List.replicate c (Value.int .i64 0) ++ cur.toList.drop (len * i.size + (List.replicate c (Value.int .i64 0)).length)).take (ob.cells ++ ints (List.replicate c 0)).length = cur.toList.take (len * i.size) ++ List.replicate c (Value.int .i64 0) := by
              refine List.take_left' ?_
              rw [List.length_append, List.length_append, ← hl.len, ← hlenk, ← hlo.len]
            show LRel S _ _ _ (ob.cells ++ ints (List.replicate c 0)) ((cur.toList.take (len * i.size) ++ List.replicate c (Value.int .i64 0) ++ cur.toList.drop (len * i.size + (List.replicate c (Value.int .i64 0)).length)).toArray.toList.take (ob.cells ++ ints (List.replicate c 0)).length) f'
            rw [show (cur.toList.take (len * i.size) ++ List.replicate c (Value.int .i64 0) ++ cur.toList.drop (len * i.size + (List.replicate c (Value.int .i64 0)).length)).toArray.toList = cur.toList.take (len * i.size) ++ List.replicate c (Value.int .i64 0) ++ cur.toList.drop (len * i.size + (List.replicate c (Value.int .i64 0)).length) from by simp, htk]
            have h1 := hlo.mono hlat (fun b' hb' => hso b' (by rintro rfl; exact (List.nodup_cons.1 hndF).1 hb'))
            have h2 := hl.mono hlat (by simp)
            rw [hlenk] at h1
            simpa using h1.append h2
        · intro b' hb'; exact .inl (by rw [hF]; exact hb')
      · -- a new block
        have hrun := run_append_grow_zeros (P := P) w t u tt t' i z kn hu htu hi hz hzc (by omega) ⟨b0, 0, none⟩ len cap c (cur.toList.take ob.cells.length) (by rw [hk]; exact holdsl) (by
            intro j v hj
            have hlt := (List.getElem?_eq_some_iff.1 hj).1
            rw [addr_add, Nat.zero_add, cell_of_row w b0 j cur _ _ hh]
            rw [List.getElem?_take] at hj
            split at hj
            · simpa using hj
            · simp at hj) hc0 (by omega) (by omega) hb.2 (by rw [hby]; exact growslice_fits (by omega) hb.1)
        refine fresh cap _ f' hlo (List.nodup_cons.1 hndF).2 (fun b hb => by rw [hF]; simp [hb]) (fun b1 k1 hb1 => by rw [hspot] at hb1; cases hb1; exact (List.nodup_cons.1 hndF).1) (grownCap_ge _ _ _ _) ?_
        rw [hxe, hye]; exact hrun) h
end
end Go.Abs

/- Contracts of the laws' own functions over headers, blocks, macroblocks and streams. No condition. -/
namespace Go.Proofs.Ytgkeopmihhcbiaa
open Go Go.Abs
set_option linter.unusedVariables false
set_option linter.unusedSimpArgs false
set_option maxRecDepth 100000
set_option maxHeartbeats 4000000
attribute [local irreducible] WpA WpL Rnd Blk Abs.Seq Abs.Fin Abs.FinG FnC FnG Only

/-! Headers. -/
/-! Blocks. -/
theorem fill_def {α : Type} [Inhabited α] (z : α) (xs : List α) (k : Nat) (h : k < xs.length) : (xs.take k ++ List.replicate (xs.length - k) z).set k (xs.getD k default) = xs.take (k + 1) ++ List.replicate (xs.length - (k + 1)) z := by
  have e : xs.getD k default = xs.getD k z := by simp [h]
  rw [e]; exact fill_step z xs k h
instance eqBlock_c : Con 160 (∀ (m : Int) (l : List Int) (m2 : Int) (l2 : List Int), l.length ≤ 1099511627776 ∧ l2.length ≤ 1099511627776 → Fn 160 [.agg [I m, IL l], .agg [I m2, IL l2]] [] (B (decide (m = m2 ∧ l = l2)))) := ⟨fun m l m2 l2 hl => by
  refine FnC.of_body tabOk Try.func160 Try.ntmps160 rfl (by decide +kernel) (by simp) fun G => ?_
  refine go (r := ?_); and_intros <;> intros <;> try exact True.intro
  all_goals simp_all⟩
instance eqBlockS_c : Con 72 (∀ xs ys : List Blok, xs.length ≤ 1099511627776 ∧ ys.length ≤ 1099511627776 ∧ SmB 1099511627776 xs ∧ SmB 1099511627776 ys → Fn 72 [BkL xs, BkL ys] [] (B (decide (xs = ys)))) := ⟨fun xs ys hl => by
  refine FnC.of_body tabOk Try.func72 Try.ntmps72 rfl (by decide +kernel) (by simp) fun G => ?_
  refine go (r := ?_); and_intros <;> intros <;> try exact True.intro
  · simp; intro h; subst h; simp_all
  · refine WpA.loop (fun k : Nat => ⟨[(0, BkL xs), (1, BkL ys), (5, I k)], []⟩) (fun k => k ≤ xs.length ∧ ∀ j < k, xs.getD j default = ys.getD j default) (fun k => xs.length - k) 0 (by simp) (go (r := trivial)) (fun k hk => ?_)
    have hg := fun h => smB_get hl.2.2.1 (k := k) h
    have hg2 := fun h => smB_get hl.2.2.2 (k := k) h
    refine go (r := ?_); and_intros <;> intros <;> try exact True.intro
    · simp; rintro rfl; simp_all
    · rename_i j hj; by_cases h : j = k
      · subst h; apply Prod.ext <;> simp_all
      · exact hk.2 j (by omega)
    · have := eq_all default (xs := xs) (ys := ys) (by omega) (fun j hj => hk.2 j (by omega))
      simp [this]⟩
def endB (k : Int) (l : List Blok) : Int := k + bw l
def markB : Int → List Blok → List Blok
  | _, [] => []
  | k, b :: l => (k, marksI (k + 1) b.2.length) :: markB (k + 1 + b.2.length) l
theorem bw_nil : bw [] = 0 := rfl
theorem bw_cons (b : Blok) (l : List Blok) : bw (b :: l) = bw l + 1 + b.2.length := by unfold bw; rw [List.map_cons, List.sum_cons, List.length_cons]; unfold bn; omega
theorem bw_append (a b : List Blok) : bw (a ++ b) = bw a + bw b := by unfold bw; rw [List.map_append, List.sum_append, List.length_append]; omega
theorem markB_append : ∀ (a b : List Blok) (k : Int), markB k (a ++ b) = markB k a ++ markB (k + bw a) b
  | [], b, k => by simp [markB, bw_nil]
  | x :: a, b, k => by
    rw [List.cons_append, markB, markB, markB_append a b, bw_cons, List.cons_append]
    congr 3; omega
@[simp] theorem markB_len : ∀ (l : List Blok) (k : Int), (markB k l).length = l.length
  | [], k => rfl
  | b :: l, k => by rw [markB, List.length_cons, List.length_cons, markB_len l]
theorem markB_bw : ∀ (l : List Blok) (k : Int), bw (markB k l) = bw l
  | [], k => rfl
  | b :: l, k => by rw [markB, bw_cons, bw_cons, markB_bw l, marksI_len]
theorem bw_take (l : List Blok) (i : Nat) (h : i < l.length) : bw (l.take (i + 1)) = bw (l.take i) + 1 + (l.getD i default).2.length := by
  rw [take_snoc l i h, bw_append, bw_cons, bw_nil]; omega
theorem bw_take_le (l : List Blok) (i : Nat) : bw (l.take i) ≤ bw l := by
  conv => rhs; rw [← List.take_append_drop i l, bw_append]
  exact Nat.le_add_right _ _
theorem markB_take (l : List Blok) (i : Nat) (h : i < l.length) (k : Int) : markB k (l.take (i + 1)) = markB k (l.take i) ++ [(k + bw (l.take i), marksI (k + bw (l.take i) + 1) (l.getD i default).2.length)] := by
  rw [take_snoc l i h, markB_append]; rfl
theorem getD_mid {α : Type} [Inhabited α] (A : List α) (l : List α) (i : Nat) (hA : A.length = i) (h : i < l.length) : (A ++ l.drop i).getD i default = l.getD i default := by
  simp [List.getElem?_append_right, hA, h]
theorem set_mid {α : Type} (A : List α) (l : List α) (i : Nat) (hA : A.length = i) (h : i < l.length) (v : α) : (A ++ l.drop i).set i v = (A ++ [v]) ++ l.drop (i + 1) := by
  rw [List.set_append_right _ _ (by omega), hA, Nat.sub_self, List.drop_eq_getElem_cons h]; simp; rw [List.drop_eq_getElem_cons h]; rfl

instance markBlockS_c : ConG 74 (∀ (l : List Blok) (k : Int), bw l ≤ 1048576 ∧ 0 ≤ k ∧ k ≤ 1073741824 → Gn 74 [.own 0 0 0 l.length, I k] [BkN l] [BkN (markB k l)] [] (I (k + bw l))) := ⟨fun l k hk => by
  refine FnG.of_bodyF tabOk Try.func74 Try.ntmps74 rfl (by decide +kernel) (by simp) rfl rfl fun G => ?_
  have hbw : bw l = l.length + (l.map bn).sum := rfl
  refine go (r := ?_); and_intros <;> intros <;> try exact True.intro
  refine WpA.loop (fun i : Nat => ⟨[(0, .own 0 0 0 l.length), (1, I (k + bw (l.take i))), (5, I i)], [BkN (markB k (l.take i) ++ l.drop i)]⟩) (fun i => i ≤ l.length) (fun i => l.length - i) 0 (by simp) (go (r := ?_)) (fun i hi => ?_)
  · simp [markB, bw_nil]
  have hml := markB_len (l.take i) k
  have hlt : i ≤ l.length → (l.take i).length = i := fun h => by simp; omega
  have hsm := smB_of hk.1
  have hle := bw_take_le l i
  have hlen : i ≤ l.length → (markB k (l.take i) ++ l.drop i).length = l.length := fun h => by rw [List.length_append, hml]; simp; omega
  have hget : i < l.length → ∀ v, ((markB k (l.take i) ++ l.drop i).set i v).getD i default = v := fun h v => by simp [hlen (by omega), h]
  have hg := fun h => smB_get hsm (k := i) h
  have hmid := fun h => getD_mid (markB k (l.take i)) l i (by rw [hml, hlt (by omega)]) h
  have hbt := fun h => bw_take l i h
  refine go (r := ?_); and_intros <;> intros <;> try exact True.intro
  · rw [hget (by omega)]; simp only; rw [hmid (by omega)]; exact Nat.le_trans (hg (by omega)) (by decide)
  · rw [hget (by omega)]; simp only; rw [hmid (by omega), hbt (by omega)]; generalize l.getD i default = x; obtain ⟨m0, lv⟩ := x; simp only; omega
  · rw [List.set_set, hget (by omega)]; simp only; rw [hmid (by omega), set_mid _ _ _ (by rw [hml, hlt (by omega)]) (by omega), markB_take _ _ (by omega)]
  all_goals have e : i = l.length := by omega
  all_goals subst e; simp⟩
theorem markB_get (l : List Blok) (i : Nat) (h : i < l.length) (k : Int) (e : l = markB k l) : (l.getD i default).1 = k + bw (l.take i) ∧ (l.getD i default).2 = marksI (k + bw (l.take i) + 1) (l.getD i default).2.length := by
  have h0 : l = (l.take i ++ [l.getD i default]) ++ l.drop (i + 1) := by rw [← take_snoc l i h, List.take_append_drop]
  have h1 : markB k l = (markB k (l.take i) ++ [(k + bw (l.take i), marksI (k + bw (l.take i) + 1) (l.getD i default).2.length)]) ++ markB (k + bw (l.take (i + 1))) (l.drop (i + 1)) := by
    rw [← markB_take l i h, ← markB_append, List.take_append_drop]
  have h2 : (markB k l).getD i default = (k + bw (l.take i), marksI (k + bw (l.take i) + 1) (l.getD i default).2.length) := by
    rw [h1]
    have : (markB k (l.take i)).length = i := by simp; omega
    simp [List.getElem?_append, this]
  have h3 : l.getD i default = (markB k l).getD i default := by rw [← e]
  rw [h2] at h3
  exact ⟨congrArg Prod.fst h3, congrArg Prod.snd h3⟩
theorem markB_idem : ∀ (l : List Blok) (k : Int), markB k (markB k l) = markB k l
  | [], _ => rfl
  | b :: l, k => by simp only [markB, marksI_len]; rw [markB_idem l]
/-- What was marked is held. -/
instance heldBlockS_c : Con 75 (∀ (l : List Blok) (k : Int), (bw l ≤ 1048576 ∧ 0 ≤ k ∧ k ≤ 1073741824) ∧ l = markB k l → Fn 75 [BkL l, I k] [] (I (k + bw l))) := ⟨fun l k hk => by
  obtain ⟨hk, hm⟩ := hk
  refine FnC.of_body tabOk Try.func75 Try.ntmps75 rfl (by decide +kernel) (by simp) fun G => ?_
  have hbw : bw l = l.length + (l.map bn).sum := rfl
  refine go (r := ?_); and_intros <;> intros <;> try exact True.intro
  refine WpA.loop (fun i : Nat => ⟨[(0, BkL l), (1, I (k + bw (l.take i))), (5, I i)], []⟩) (fun i => i ≤ l.length) (fun i => l.length - i) 0 (by simp) (go (r := ?_)) (fun i hi => ?_)
  · simp [bw_nil]
  have hsm := smB_of hk.1
  have hle := bw_take_le l i
  have hle2 := bw_take_le l (i + 1)
  have hg := fun h => smB_get hsm (k := i) h
  have hbt := fun h => bw_take l i h
  have hget := fun h => markB_get l i h k hm
  by_cases hlt : i < l.length
  · obtain ⟨h1, h2⟩ := hget hlt
    have hg := hg hlt
    have hbt := hbt hlt
    refine go (r := ?_); and_intros <;> intros <;> try exact True.intro
    all_goals first | contradiction | omega | (exact Nat.le_trans hg (by decide)) | (rename_i hg0; rw [if_pos h2] at hg0; omega) | trace_state
  · refine go (r := ?_); and_intros <;> intros <;> try exact True.intro
    all_goals first | contradiction | omega | (have e : i = l.length := by omega); subst e; rw [List.take_length]⟩

/-! Macroblocks. -/
instance eqMb_c : Con 16 (∀ (e : Bool) (l : List Blok) (e2 : Bool) (l2 : List Blok), l.length ≤ 1099511627776 ∧ l2.length ≤ 1099511627776 ∧ SmB 1099511627776 l ∧ SmB 1099511627776 l2 → Fn 16 [.agg [B e, BkL l], .agg [B e2, BkL l2]] [] (B (decide (e = e2 ∧ l = l2)))) := ⟨fun e l e2 l2 hl => by
  refine FnC.of_body tabOk Try.func16 Try.ntmps16 rfl (by decide +kernel) (by simp) fun G => ?_
  refine go (r := ?_); and_intros <;> intros <;> try exact True.intro
  all_goals simp_all⟩
def markM : Int → List Mbk → List Mbk
  | _, [] => []
  | k, m :: l => (decide (k % 3 = 0), markB (k + 1) m.2) :: markM (k + 1 + bw m.2) l
@[simp] theorem markM_len : ∀ (l : List Mbk) (k : Int), (markM k l).length = l.length
  | [], k => rfl
  | b :: l, k => by rw [markM, List.length_cons, List.length_cons, markM_len l]
/-! Streams. -/
end Go.Proofs.Ytgkeopmihhcbiaa
