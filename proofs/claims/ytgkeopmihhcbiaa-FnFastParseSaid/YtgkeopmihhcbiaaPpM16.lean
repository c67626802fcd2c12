/- Proved in this text: lemmas and contracts of functions that the claim uses (parts: RdHs, RdP, ParL, Dtx, Same, ScrB, FpX, Bridge, Read, Read2, Read3). No condition. -/
import Derived.Test.YtgkeopmihhcbiaaPpM15
import Derived.Test.YtgkeopmihhcbiaaPpM14
import Derived.Test.YtgkeopmihhcbiaaPpM11
import Derived.Test.YtgkeopmihhcbiaaPpM10
import Derived.Test.YtgkeopmihhcbiaaPpM3
import Derived.Below
import Derived.ChangeArms
import Derived.Test.YtgkeopmihhcbiaaPpM9

/- Contracts: headers that are read by the specification. No condition. -/
namespace Go.Proofs.Ytgkeopmihhcbiaa
open Go Go.Abs
set_option linter.unusedVariables false
set_option linter.unusedSimpArgs false
set_option maxRecDepth 100000
set_option maxHeartbeats 4000000
attribute [local irreducible] WpA WpL Rnd Blk Abs.Seq Abs.Fin Abs.FinG FnC FnG Only

theorem ueA_badH {p : List UInt8} {s : Int} (h : ueC p s ≠ 0) : ueA p s = s := by
  by_cases h15 : zrs p s ≤ 15
  · by_cases hok : RbOk p s (2 * (zrs p s : Int) + 1)
    · exact absurd (ue_yes h15 hok).2.1 h
    · exact (ue_short h15 hok).1
  · exact (ue_code (s := s) (p := p) h15).1
theorem fuC_k {p : List UInt8} {s c : Int} {k : Int → Int} (h : c ≠ 0) : fuC p s c k = c := by rw [fuC, if_neg h]
theorem fuA_k {p : List UInt8} {s c : Int} {k : Int → Int} (h : c ≠ 0) : fuA p s c k = s := by rw [fuA, if_neg (by rw [fuC_k h]; exact h)]
theorem fbC_k {p : List UInt8} {s c n : Int} {k : Int → Int} (h : c ≠ 0) : fbC p s c n k = c := by rw [fbC, if_neg h]
theorem fbA_k {p : List UInt8} {s c n : Int} {k : Int → Int} (h : c ≠ 0) : fbA p s c n k = s := by rw [fbA, if_neg (fun hh => h hh.1)]
theorem fbA_b {p : List UInt8} {s n : Int} {k : Int → Int} (h : fbC p s 0 n k ≠ 0) : fbA p s 0 n k = s := by rw [fbA, if_neg (fun hh => h hh.2)]
theorem fuA_b {p : List UInt8} {s : Int} {k : Int → Int} (h : fuC p s 0 k ≠ 0) : fuA p s 0 k = s := by rw [fuA, if_neg h]
/-! Where a header fails. -/
theorem hd_f1 {p : List UInt8} {s : Int} (h : fbC p s 0 8 hk1 ≠ 0) : (hdS p s).a = s ∧ (hdS p s).c = fbC p s 0 8 hk1 := by
  constructor
  · simp only [hdS, fuA_k h, fuC_k h, fbA_k h, fbC_k h]; exact fbA_b h
  · simp only [hdS, fuA_k h, fuC_k h, fbA_k h, fbC_k h]
theorem hd_f2 {p : List UInt8} {s A1 : Int} (h1 : fbC p s 0 8 hk1 = 0) (e1 : fbA p s 0 8 hk1 = A1) (h : fuC p A1 0 hk2 ≠ 0) : (hdS p s).a = A1 ∧ (hdS p s).c = fuC p A1 0 hk2 := by
  constructor
  · simp only [hdS, h1, e1, fuA_k h, fuC_k h, fbA_k h, fbC_k h]; exact fuA_b h
  · simp only [hdS, h1, e1, fuA_k h, fuC_k h, fbA_k h, fbC_k h]
theorem hd_f3 {p : List UInt8} {s A1 A2 : Int} (h1 : fbC p s 0 8 hk1 = 0) (e1 : fbA p s 0 8 hk1 = A1) (h2 : fuC p A1 0 hk2 = 0) (e2 : fuA p A1 0 hk2 = A2) (h : fuC p A2 0 hk2 ≠ 0) : (hdS p s).a = A2 ∧ (hdS p s).c = fuC p A2 0 hk2 := by
  constructor
  · simp only [hdS, h1, e1, h2, e2, fuA_k h, fuC_k h, fbA_k h, fbC_k h]; exact fuA_b h
  · simp only [hdS, h1, e1, h2, e2, fuA_k h, fuC_k h, fbA_k h, fbC_k h]
theorem hd_f4 {p : List UInt8} {s A1 A2 A3 : Int} (h1 : fbC p s 0 8 hk1 = 0) (e1 : fbA p s 0 8 hk1 = A1) (h2 : fuC p A1 0 hk2 = 0) (e2 : fuA p A1 0 hk2 = A2) (h3 : fuC p A2 0 hk2 = 0) (e3 : fuA p A2 0 hk2 = A3) (h : fbC p A3 0 6 hk3 ≠ 0) : (hdS p s).a = A3 ∧ (hdS p s).c = fbC p A3 0 6 hk3 := by
  constructor
  · simp only [hdS, h1, e1, h2, e2, h3, e3, fuA_k h, fuC_k h, fbA_k h, fbC_k h]; exact fbA_b h
  · simp only [hdS, h1, e1, h2, e2, h3, e3, fuA_k h, fuC_k h, fbA_k h, fbC_k h]
theorem hd_f5 {p : List UInt8} {s A1 A2 A3 A4 : Int} (h1 : fbC p s 0 8 hk1 = 0) (e1 : fbA p s 0 8 hk1 = A1) (h2 : fuC p A1 0 hk2 = 0) (e2 : fuA p A1 0 hk2 = A2) (h3 : fuC p A2 0 hk2 = 0) (e3 : fuA p A2 0 hk2 = A3) (h4 : fbC p A3 0 6 hk3 = 0) (e4 : fbA p A3 0 6 hk3 = A4) (h : fbC p A4 0 2 hk4 ≠ 0) : (hdS p s).a = A4 ∧ (hdS p s).c = fbC p A4 0 2 hk4 := by
  constructor
  · simp only [hdS, h1, e1, h2, e2, h3, e3, h4, e4, fuA_k h, fuC_k h, fbA_k h, fbC_k h]; exact fbA_b h
  · simp only [hdS, h1, e1, h2, e2, h3, e3, h4, e4, fuA_k h, fuC_k h, fbA_k h, fbC_k h]
theorem hd_f6 {p : List UInt8} {s A1 A2 A3 A4 A5 : Int} (h1 : fbC p s 0 8 hk1 = 0) (e1 : fbA p s 0 8 hk1 = A1) (h2 : fuC p A1 0 hk2 = 0) (e2 : fuA p A1 0 hk2 = A2) (h3 : fuC p A2 0 hk2 = 0) (e3 : fuA p A2 0 hk2 = A3) (h4 : fbC p A3 0 6 hk3 = 0) (e4 : fbA p A3 0 6 hk3 = A4) (h5 : fbC p A4 0 2 hk4 = 0) (e5 : fbA p A4 0 2 hk4 = A5) :
    hdS p s = ⟨fbA p A5 0 18 hk5, fbC p A5 0 18 hk5, fuV p A1 0 hk2, fuV p A2 0 hk2, fbV p A3 0 6 hk3, fbV p A4 0 2 hk4, fbV p A5 0 18 hk5⟩ := by
  simp only [hdS, h1, e1, h2, e2, h3, e3, h4, e4, h5, e5]
def sdV (p : List UInt8) (s : Int) : Int := if ueC p s = 0 ∧ ueV p s > 3 then 0 else 8 * ueV p s + 8
instance l22Side_s : Con 187 (∀ (p : List UInt8) (s : Int), p.length ≤ 1099511627776 → Fn 187 [RA p s] [] (.tup [RA p (fuA p s 0 hk2), I (sdV p s), I (fuC p s 0 hk2)])) := ⟨fun p s hl => by
  have hb := ueV_bd p s
  refine FnC.of_body tabOk Try.func187 Try.ntmps187 rfl (by decide +kernel) (by simp) fun G => ?_
  by_cases hc : ueC p s = 0
  · by_cases hv : ueV p s ≤ 3
    · have e1 : fuC p s 0 hk2 = 0 := by rw [fuC, if_pos rfl, if_pos hc]; exact ifE_yes hv
      have e2 : fuA p s 0 hk2 = ueA p s := by rw [fuA, if_pos e1]
      have e3 : sdV p s = 8 * ueV p s + 8 := by rw [sdV, if_neg (by omega)]
      rw [e1, e2, e3]
      refine go (r := ?_); and_intros <;> intros <;> try exact True.intro
      all_goals first | (exact absurd hc (by assumption)) | omega | trace_state
    · have e1 : fuC p s 0 hk2 = 3 := by rw [fuC, if_pos rfl, if_pos hc]; exact ifE_no hv
      have e2 : fuA p s 0 hk2 = s := by rw [fuA, if_neg (by omega)]
      have e3 : sdV p s = 0 := by rw [sdV, if_pos (by omega)]
      rw [e1, e2, e3]
      refine go (r := ?_); and_intros <;> intros <;> try exact True.intro
      all_goals first | (exact absurd hc (by assumption)) | omega | trace_state
  · have e1 : fuC p s 0 hk2 = ueC p s := by rw [fuC, if_pos rfl, if_neg hc]
    have e2 : fuA p s 0 hk2 = ueA p s := by rw [fuA, if_neg (by omega), ueA_badH hc]
    have e3 : sdV p s = 8 * ueV p s + 8 := by rw [sdV, if_neg (by omega)]
    rw [e1, e2, e3]
    refine go (r := ?_); and_intros <;> intros <;> try exact True.intro
    all_goals first | (exact absurd (by assumption) hc) | omega | trace_state⟩
def lnL (p : List UInt8) (s : Int) : List Int := if RbOk p s 18 then lensV (rbV p s 18) else []
instance l22Lens_s : Con 188 (∀ (p : List UInt8) (s : Int), p.length ≤ 1099511627776 → Fn 188 [RA p s] [XI (lnL p s)] (.tup [RA p (fbA p s 0 18 hk5), .own 0 0 0 (lnL p s).length, I (fbC p s 0 18 hk5)])) := ⟨fun p s hl => by
  have hb := rbV_bd p s 18
  refine FnC.of_body tabOk Try.func188 Try.ntmps188 rfl (by decide +kernel) (by simp) fun G => ?_
  by_cases hok : RbOk p s 18
  · have eL : lnL p s = lensV (rbV p s 18) := if_pos hok
    have e1 : fbC p s 0 18 hk5 = ifE (CodeOk (lensV (rbV p s 18))) 4 := by rw [fbC, if_pos rfl, if_pos hok]
    have e2 : fbA p s 0 18 hk5 = if CodeOk (lensV (rbV p s 18)) then rbA p s 18 else s := by
      rw [fbA, e1]
      by_cases h : CodeOk (lensV (rbV p s 18))
      · rw [if_pos ⟨rfl, ifE_yes h⟩, if_pos h]
      · rw [if_neg (by rw [ifE_no h]; decide), if_neg h]
    rw [eL, e1, e2]
    refine go (r := ?_); and_intros <;> intros <;> try exact True.intro
    refine WpA.loop (fun k : Nat => ⟨[(1, .ptr 0 0 0), (2, .ptr 1 0 0), (5, .own 2 0 0 k), (6, .ptr 3 0 0), (7, I (rbV p s 18)), (9, I (5 - (k : Int)))], [⟨[Z p, I s], 0, 0, none⟩, ⟨[Z [], I 0], 0, 0, none⟩, XI (lensK (rbV p s 18) k), ⟨[Z p, I (rbA p s 18)], 0, 0, none⟩]⟩) (fun k => k ≤ 6) (fun k => 6 - k) 0 (by omega) (go (r := ?_)) (fun k hk => ?_)
    · simp [lensK]
    have hkl := lensK_len (rbV p s 18) k
    have hks := lensK_succ (rbV p s 18) k
    have hd0 := Int.ediv_nonneg (a := rbV p s 18) (b := 2 ^ (3 * (5 - (k : Int))).toNat) hb.1 (Int.pow_nonneg (by decide))
    have hd1 := Int.ediv_le_self (a := rbV p s 18) (2 ^ (3 * (5 - (k : Int))).toNat) hb.1
    have hla : lenAt (rbV p s 18) (5 - k) = rbV p s 18 / 2 ^ (3 * (5 - k)) % 8 := rfl
    refine go (r := ?_); and_intros <;> intros <;> try exact True.intro
    all_goals first | ((have ek : k = 6 := by omega); subst ek; exact lensK_6 _) | (rw [hks, and7 _ ⟨hd0, by omega⟩, hla, show (3 * (5 - (k : Int))).toNat = 3 * (5 - k) by omega]; done) | ((have ek : k = 6 := by omega); subst ek; rw [lensK_6] at *; first | rfl | (simp_all [ifE]; done)) | trace_state
  · have eL : lnL p s = [] := if_neg hok
    have e1 : fbC p s 0 18 hk5 = 1 := by rw [fbC, if_pos rfl, if_neg hok]
    have e2 : fbA p s 0 18 hk5 = s := by rw [fbA, if_neg (by rw [e1]; decide)]
    rw [eL, e1, e2]
    refine go (r := ?_); and_intros <;> intros <;> try exact True.intro
    all_goals first | (exact absurd (by assumption) hok) | trace_state⟩
theorem fb_yes {p : List UInt8} {s n : Int} {k : Int → Int} (h : RbOk p s n) (hv : k (rbV p s n) = 0) : fbC p s 0 n k = 0 ∧ fbA p s 0 n k = rbA p s n ∧ fbV p s 0 n k = rbV p s n := by
  have e : fbC p s 0 n k = 0 := by rw [fbC, if_pos rfl, if_pos h, hv]
  exact ⟨e, by rw [fbA, if_pos ⟨rfl, e⟩], by rw [fbV, if_pos e]⟩
theorem fb_no1 {p : List UInt8} {s n : Int} {k : Int → Int} (h : ¬ RbOk p s n) : fbC p s 0 n k = 1 := by rw [fbC, if_pos rfl, if_neg h]
theorem fb_no2 {p : List UInt8} {s n : Int} {k : Int → Int} (h : RbOk p s n) {c : Int} (hv : k (rbV p s n) = c) : fbC p s 0 n k = c := by rw [fbC, if_pos rfl, if_pos h, hv]
theorem sdV_ok {p : List UInt8} {s : Int} (h : fuC p s 0 hk2 = 0) : sdV p s = 8 * (fuV p s 0 hk2 + 1) := by
  have hu : ueC p s = 0 := by
    by_cases hu : ueC p s = 0
    · exact hu
    · rw [fuC, if_pos rfl, if_neg hu] at h; exact h
  have hv : ueV p s ≤ 3 := by
    by_cases hv : ueV p s ≤ 3
    · exact hv
    · rw [fuC, if_pos rfl, if_pos hu] at h
      have h : ifE (ueV p s ≤ 3) 3 = 0 := h
      rw [ifE_no hv] at h; exact absurd h (by decide)
  rw [fuV, if_pos h, sdV, if_neg (by omega)]; omega
attribute [local irreducible] rbA rbV ueA ueV ueC fuA fuC fuV fbA fbC fbV sdV lnL zrs numB lft hdS lensV
theorem WpA.hide {P : Program} {n m : Nat} {G : Ctx} {c : Code} {σ : St} {Q : Exit → St → Prop} (h : ∀ Q', Q' = Q → WpA P n m G c σ Q') : WpA P n m G c σ Q := h Q rfl
theorem bad_all {x : HdS} (h : x.c ≠ 0) : x.W = 0 ∧ x.H = 0 ∧ x.Q = 0 ∧ x.B = false ∧ x.D = false ∧ x.L = [] :=
  ⟨if_neg h, if_neg h, if_neg h, by unfold HdS.B; simp [h], by unfold HdS.D; simp [h], if_neg h⟩
instance ReadHeader_s : Con 91 (∀ (p : List UInt8) (s : Int), p.length ≤ 1099511627776 → Fn 91 [RA p s] [XI (hdS p s).L] (.tup [RA p (hdS p s).a, HdV (hdS p s), I (hdS p s).c])) := ⟨fun p s hl => by
  have eV : ∀ y : HdS, HdV y = .agg [I y.W, I y.H, I y.Q, B y.B, B y.D, .own 0 0 0 y.L.length] := fun _ => rfl
  rw [eV]
  have b5 := rbV_bd p (rbA p (fuA p (fuA p (rbA p s 8) 0 hk2) 0 hk2) 6) 2
  generalize hx : hdS p s = x
  refine FnC.of_body tabOk Try.func91 Try.ntmps91 rfl (by decide +kernel) (by simp) fun G => ?_
  refine WpA.hide fun Q' hQ' => ?_
  refine go (r := ?_); and_intros <;> intros <;> try exact True.intro
  · rename_i o1
    have f := fb_no1 (k := hk1) o1
    have e : x.a = s ∧ x.c = 1 := by have := hd_f1 (p := p) (s := s) (by rw [f]; decide); rw [f, hx] at this; exact this
    have hc0 : x.c ≠ 0 := by rw [e.2]; first | decide | assumption
    obtain ⟨q1, q2, q3, q4, q5, q6⟩ := bad_all hc0
    subst hQ'
    rw [q1, q2, q3, q4, q5, q6, e.1, e.2]
    refine go (r := ?_); and_intros <;> intros <;> try exact True.intro
    all_goals first | rfl | exact fuA_b (by assumption) | trace_state
  · rename_i o1 v1
    have f := fb_no2 (k := hk1) o1 (c := 2) (ifE_no v1)
    have e : x.a = s ∧ x.c = 2 := by have := hd_f1 (p := p) (s := s) (by rw [f]; decide); rw [f, hx] at this; exact this
    have hc0 : x.c ≠ 0 := by rw [e.2]; first | decide | assumption
    obtain ⟨q1, q2, q3, q4, q5, q6⟩ := bad_all hc0
    subst hQ'
    rw [q1, q2, q3, q4, q5, q6, e.1, e.2]
    refine go (r := ?_); and_intros <;> intros <;> try exact True.intro
    all_goals first | rfl | exact fuA_b (by assumption) | trace_state
  · rename_i o1 v1 c2
    obtain ⟨c1, e1, -⟩ := fb_yes (k := hk1) o1 (ifE_yes v1)
    have e : x.a = rbA p s 8 ∧ x.c = fuC p (rbA p s 8) 0 hk2 := by have := hd_f2 c1 e1 c2; rw [hx] at this; exact this
    have hc0 : x.c ≠ 0 := by rw [e.2]; first | decide | assumption
    obtain ⟨q1, q2, q3, q4, q5, q6⟩ := bad_all hc0
    subst hQ'
    rw [q1, q2, q3, q4, q5, q6, e.1, e.2]
    refine go (r := ?_); and_intros <;> intros <;> try exact True.intro
    all_goals first | rfl | exact fuA_b (by assumption) | trace_state
  · rename_i o1 v1 c2 c3
    obtain ⟨c1, e1, -⟩ := fb_yes (k := hk1) o1 (ifE_yes v1)
    have e : x.a = (fuA p (rbA p s 8) 0 hk2) ∧ x.c = fuC p (fuA p (rbA p s 8) 0 hk2) 0 hk2 := by have := hd_f3 c1 e1 c2 rfl c3; rw [hx] at this; exact this
    have hc0 : x.c ≠ 0 := by rw [e.2]; first | decide | assumption
    obtain ⟨q1, q2, q3, q4, q5, q6⟩ := bad_all hc0
    subst hQ'
    rw [q1, q2, q3, q4, q5, q6, e.1, e.2]
    refine go (r := ?_); and_intros <;> intros <;> try exact True.intro
    all_goals first | rfl | exact fuA_b (by assumption) | trace_state
  · rename_i o1 v1 c2 c3 o4
    obtain ⟨c1, e1, -⟩ := fb_yes (k := hk1) o1 (ifE_yes v1)
    have f := fb_no1 (k := hk3) o4
    have e : x.a = (fuA p (fuA p (rbA p s 8) 0 hk2) 0 hk2) ∧ x.c = 1 := by have := hd_f4 c1 e1 c2 rfl c3 rfl (by rw [f]; decide); rw [f, hx] at this; exact this
    have hc0 : x.c ≠ 0 := by rw [e.2]; first | decide | assumption
    obtain ⟨q1, q2, q3, q4, q5, q6⟩ := bad_all hc0
    subst hQ'
    rw [q1, q2, q3, q4, q5, q6, e.1, e.2]
    refine go (r := ?_); and_intros <;> intros <;> try exact True.intro
    all_goals first | rfl | exact fuA_b (by assumption) | trace_state
  · rename_i o1 v1 c2 c3 o4 v4
    obtain ⟨c1, e1, -⟩ := fb_yes (k := hk1) o1 (ifE_yes v1)
    have f := fb_no2 (k := hk3) o4 (c := 3) (ifE_no (by omega))
    have e : x.a = (fuA p (fuA p (rbA p s 8) 0 hk2) 0 hk2) ∧ x.c = 3 := by have := hd_f4 c1 e1 c2 rfl c3 rfl (by rw [f]; decide); rw [f, hx] at this; exact this
    have hc0 : x.c ≠ 0 := by rw [e.2]; first | decide | assumption
    obtain ⟨q1, q2, q3, q4, q5, q6⟩ := bad_all hc0
    subst hQ'
    rw [q1, q2, q3, q4, q5, q6, e.1, e.2]
    refine go (r := ?_); and_intros <;> intros <;> try exact True.intro
    all_goals first | rfl | exact fuA_b (by assumption) | trace_state
  · rename_i o1 v1 c2 c3 o4 v4 o5
    obtain ⟨c1, e1, -⟩ := fb_yes (k := hk1) o1 (ifE_yes v1)
    obtain ⟨c4, e4, g4⟩ := fb_yes (k := hk3) o4 (ifE_yes (by omega))
    have f := fb_no1 (k := hk4) o5
    have e : x.a = (rbA p (fuA p (fuA p (rbA p s 8) 0 hk2) 0 hk2) 6) ∧ x.c = 1 := by have := hd_f5 c1 e1 c2 rfl c3 rfl c4 e4 (by rw [f]; decide); rw [f, hx] at this; exact this
    have hc0 : x.c ≠ 0 := by rw [e.2]; first | decide | assumption
    obtain ⟨q1, q2, q3, q4, q5, q6⟩ := bad_all hc0
    subst hQ'
    rw [q1, q2, q3, q4, q5, q6, e.1, e.2]
    refine go (r := ?_); and_intros <;> intros <;> try exact True.intro
    all_goals first | rfl | exact fuA_b (by assumption) | trace_state
  · rename_i o1 v1 c2 c3 o4 v4 o5 c6
    obtain ⟨c1, e1, -⟩ := fb_yes (k := hk1) o1 (ifE_yes v1)
    obtain ⟨c4, e4, g4⟩ := fb_yes (k := hk3) o4 (ifE_yes (by omega))
    obtain ⟨c5, e5, g5⟩ := fb_yes (k := hk4) o5 (show hk4 (rbV p (rbA p (fuA p (fuA p (rbA p s 8) 0 hk2) 0 hk2) 6) 2) = 0 from rfl)
    have hS := hd_f6 c1 e1 c2 rfl c3 rfl c4 e4 c5 e5
    rw [g4, g5, hx] at hS
    have e : x.a = fbA p (rbA p (rbA p (fuA p (fuA p (rbA p s 8) 0 hk2) 0 hk2) 6) 2) 0 18 hk5 ∧ x.c = fbC p (rbA p (rbA p (fuA p (fuA p (rbA p s 8) 0 hk2) 0 hk2) 6) 2) 0 18 hk5 := ⟨by rw [hS], by rw [hS]⟩
    have hc0 : x.c ≠ 0 := by rw [e.2]; first | decide | assumption
    obtain ⟨q1, q2, q3, q4, q5, q6⟩ := bad_all hc0
    subst hQ'
    rw [q1, q2, q3, q4, q5, q6, e.1, e.2]
    refine go (r := ?_); and_intros <;> intros <;> try exact True.intro
    all_goals first | rfl | exact fuA_b (by assumption) | trace_state
  · rename_i o1 v1 c2 c3 o4 v4 o5 c6
    obtain ⟨c1, e1, -⟩ := fb_yes (k := hk1) o1 (ifE_yes v1)
    obtain ⟨c4, e4, g4⟩ := fb_yes (k := hk3) o4 (ifE_yes (by omega))
    obtain ⟨c5, e5, g5⟩ := fb_yes (k := hk4) o5 (show hk4 (rbV p (rbA p (fuA p (fuA p (rbA p s 8) 0 hk2) 0 hk2) 6) 2) = 0 from rfl)
    have hS := hd_f6 c1 e1 c2 rfl c3 rfl c4 e4 c5 e5
    rw [g4, g5, hx] at hS
    have s2 := sdV_ok c2
    have s3 := sdV_ok c3
    have o6 : RbOk p (rbA p (rbA p (fuA p (fuA p (rbA p s 8) 0 hk2) 0 hk2) 6) 2) 18 := by
      by_cases o6 : RbOk p (rbA p (rbA p (fuA p (fuA p (rbA p s 8) 0 hk2) 0 hk2) 6) 2) 18
      · exact o6
      · rw [fb_no1 o6] at c6; exact absurd c6 (by decide)
    have g6 : fbV p (rbA p (rbA p (fuA p (fuA p (rbA p s 8) 0 hk2) 0 hk2) 6) 2) 0 18 hk5 = rbV p (rbA p (rbA p (fuA p (fuA p (rbA p s 8) 0 hk2) 0 hk2) 6) 2) 18 := by rw [fbV, if_pos c6]
    have eL : lnL p (rbA p (rbA p (fuA p (fuA p (rbA p s 8) 0 hk2) 0 hk2) 6) 2) = lensV (rbV p (rbA p (rbA p (fuA p (fuA p (rbA p s 8) 0 hk2) 0 hk2) 6) 2) 18) := by rw [lnL, if_pos o6]
    rw [g6] at hS
    have h0 : x.c = 0 := by rw [hS]; exact c6
    have q1 : x.W = sdV p (rbA p s 8) := by rw [s2, HdS.W, if_pos h0, hS]
    have q2 : x.H = sdV p (fuA p (rbA p s 8) 0 hk2) := by rw [s3, HdS.H, if_pos h0, hS]
    have q3 : x.Q = rbV p (fuA p (fuA p (rbA p s 8) 0 hk2) 0 hk2) 6 := by rw [HdS.Q, if_pos h0, hS]
    have q6 : x.L = lnL p (rbA p (rbA p (fuA p (fuA p (rbA p s 8) 0 hk2) 0 hk2) 6) 2) := by rw [eL, HdS.L, if_pos h0, hS]
    have q4 : x.B = decide (rbV p (rbA p (fuA p (fuA p (rbA p s 8) 0 hk2) 0 hk2) 6) 2 > 1) := by unfold HdS.B; rw [hS]; simp [c6]; omega
    have q5 : x.D = decide (rbV p (rbA p (fuA p (fuA p (rbA p s 8) 0 hk2) 0 hk2) 6) 2 % 2 = 1) := by unfold HdS.D; rw [hS]; simp [c6]
    have ea : x.a = fbA p (rbA p (rbA p (fuA p (fuA p (rbA p s 8) 0 hk2) 0 hk2) 6) 2) 0 18 hk5 := by rw [hS]
    subst hQ'
    rw [q1, q2, q3, q4, q5, q6, ea, h0]
    refine go (r := ?_); and_intros <;> intros <;> try exact True.intro
    all_goals first | rfl | trace_state⟩
end Go.Proofs.Ytgkeopmihhcbiaa

/- Contracts: streams that are parsed by the program and by the specification. No condition. -/
namespace Go.Proofs.Ytgkeopmihhcbiaa
open Go Go.Abs
set_option linter.unusedVariables false
set_option linter.unusedSimpArgs false
set_option maxRecDepth 100000
set_option maxHeartbeats 4000000
attribute [local irreducible] WpA WpL Rnd Blk Abs.Seq Abs.Fin Abs.FinG FnC FnG Only

theorem hdSL_len (x : HdS) : x.L.length ≤ 6 := by
  unfold HdS.L; split
  · exact Nat.le_refl 6
  · exact Nat.zero_le _
abbrev StV (x : PrS) : AV := .agg [I x.W, I x.H, I x.Q, B x.B, B x.D, .own 0 0 0 x.L.length, .own 1 0 0 x.ms.length]
def PrN (a c : Int) : PrS := ⟨0, 0, 0, false, false, [], [], a, c⟩
theorem prS_1 {p : List UInt8} (h : (hdS p 0).c ≠ 0) : prS p = PrN (hdS p 0).a (hdS p 0).c := by unfold prS; simp only; rw [if_neg h]; rfl
theorem prS_2 {p : List UInt8} (h : (hdS p 0).c = 0) (h2 : (stRun p (hdS p 0).a (hdS p 0).L (cntM (hdS p 0).W (hdS p 0).H).toNat).c ≠ 0) : prS p = PrN (stRun p (hdS p 0).a (hdS p 0).L (cntM (hdS p 0).W (hdS p 0).H).toNat).a (stRun p (hdS p 0).a (hdS p 0).L (cntM (hdS p 0).W (hdS p 0).H).toNat).c := by
  unfold prS; simp only; rw [if_pos h, if_neg h2]; rfl
theorem prS_3 {p : List UInt8} (h : (hdS p 0).c = 0) (h2 : (stRun p (hdS p 0).a (hdS p 0).L (cntM (hdS p 0).W (hdS p 0).H).toNat).c = 0) (h3 : endC p (stRun p (hdS p 0).a (hdS p 0).L (cntM (hdS p 0).W (hdS p 0).H).toNat).a ≠ 0) : prS p = PrN (stRun p (hdS p 0).a (hdS p 0).L (cntM (hdS p 0).W (hdS p 0).H).toNat).a (endC p (stRun p (hdS p 0).a (hdS p 0).L (cntM (hdS p 0).W (hdS p 0).H).toNat).a) := by
  unfold prS; simp only; rw [if_pos h, if_pos h2, if_neg h3]; rfl
theorem prS_4 {p : List UInt8} (h : (hdS p 0).c = 0) (h2 : (stRun p (hdS p 0).a (hdS p 0).L (cntM (hdS p 0).W (hdS p 0).H).toNat).c = 0) (h3 : endC p (stRun p (hdS p 0).a (hdS p 0).L (cntM (hdS p 0).W (hdS p 0).H).toNat).a = 0) : prS p = ⟨(hdS p 0).W, (hdS p 0).H, (hdS p 0).Q, (hdS p 0).B, (hdS p 0).D, (hdS p 0).L, (stRun p (hdS p 0).a (hdS p 0).L (cntM (hdS p 0).W (hdS p 0).H).toNat).ms, (stRun p (hdS p 0).a (hdS p 0).L (cntM (hdS p 0).W (hdS p 0).H).toNat).a, 0⟩ := by
  unfold prS; simp only; rw [if_pos h, if_pos h2, if_pos h3]
theorem stRun_next {p : List UInt8} {s : Int} {lens : List Int} {k : Nat} (h : (stRun p s lens k).c = 0) (hb : (mbS p (stRun p s lens k).a lens).1.c = 0) : stRun p s lens (k + 1) = ⟨(mbS p (stRun p s lens k).a lens).1.a, 0, (stRun p s lens k).ms ++ [((mbS p (stRun p s lens k).a lens).2, (mbS p (stRun p s lens k).a lens).1.bs)]⟩ := by
  rw [stRun]; simp only; rw [if_pos h, if_pos hb]
theorem stRun_bad {p : List UInt8} {s : Int} {lens : List Int} {k : Nat} (h : (stRun p s lens k).c = 0) (hb : (mbS p (stRun p s lens k).a lens).1.c ≠ 0) : ∀ j, k < j → stRun p s lens j = ⟨(mbS p (stRun p s lens k).a lens).1.a, (mbS p (stRun p s lens k).a lens).1.c, []⟩ := by
  intro j hj
  have e : stRun p s lens (k + 1) = ⟨(mbS p (stRun p s lens k).a lens).1.a, (mbS p (stRun p s lens k).a lens).1.c, []⟩ := by
    rw [stRun]; simp only; rw [if_pos h, if_neg hb]
  rw [stRun_stop (k := k + 1) (by rw [e]; exact hb) j hj, e]
abbrev HdC (W H Q : Int) (b d : Bool) (l : AV) : List AV := [I W, I H, I Q, B b, B d, l]
section
attribute [local irreducible] hdS stRun mbS endC cntM
instance Parse_c : Con 31 (∀ (p : List UInt8), p.length ≤ 1099511627776 → Fn 31 [Z p] [XI (prS p).L, MbO (prS p).ms] (.tup [StV (prS p), I (prS p).a, I (prS p).c])) := ⟨fun p hl => by
  have hr0 : RdOk p 0 := ⟨by omega, by omega⟩
  have hok := hdS_ok hr0
  refine FnC.of_body tabOk Try.func31 Try.ntmps31 rfl (by decide +kernel) (by simp) fun G => ?_
  by_cases hc : (hdS p 0).c = 0
  · have hs := hdS_sides hc
    have hL := hdSL_len (hdS p 0)
    have e2 := prS_2 hc
    have e3 := prS_3 hc
    have e4 := prS_4 hc
    have hbd := cntM_bd hs
    refine go (r := ?_); and_intros <;> intros <;> try exact True.intro
    all_goals first | contradiction | skip
    generalize hx : hdS p 0 = x at hc hs hL e2 e3 e4 hbd hok ⊢
    have hz : stRun p x.a x.L 0 = ⟨x.a, 0, []⟩ := by rw [stRun]
    have hln := fun k h => stRun_len p x.a x.L k h
    have hok := fun k => stRun_ok (lens := x.L) hok k
    have hnx := fun k h hb => stRun_next (p := p) (s := x.a) (lens := x.L) (k := k) h hb
    have hbd2 := fun k h hb j hj => stRun_bad (p := p) (s := x.a) (lens := x.L) (k := k) h hb j hj
    generalize hN : cntM x.W x.H = N at hbd e2 e3 e4 ⊢
    generalize stRun p x.a x.L = X at hz hln hnx hbd2 hok e2 e3 e4 ⊢
    refine WpA.loop (fun k : Nat => ⟨[(2, .ptr 0 0 0), (5, .ptr 2 0 0), (6, .ptr 3 0 0), (8, .ptr 4 0 0), (29, I N), (30, I k)], [⟨[I 0, I 0, I 0, B false, B false, .nilS, .nilS], 0, 0, none⟩, XI x.L, ⟨[Z p, I (X k).a], 0, 0, none⟩, ⟨[I x.W, I x.H, I x.Q, B x.B, B x.D, .own 1 0 0 x.L.length], 0, 0, none⟩, ⟨[I x.W, I x.H, I x.Q, B x.B, B x.D, .own 1 0 0 x.L.length, .own 5 0 0 k], 0, 0, none⟩, MbO (X k).ms]⟩) (fun k => (k : Int) ≤ N ∧ (X k).c = 0) (fun k => N.toNat - k) 0 (by rw [hz]; exact ⟨by omega, rfl⟩) ?_ (fun k hk => ?_)
    · rw [hz]; exact Weak.nil1 (by first | (show 0 ≤ _; exact Nat.zero_le _) | (repeat' (first | exact RzT.nil | refine RzT.cons ?_ ?_ | exact Rz.nil | refine Rz.keep rfl rfl ?_ | refine Rz.own rfl rfl rfl rfl rfl (by first | rfl | omega | (simp; done)) ?_ | refine Rz.ptr rfl rfl rfl rfl ?_ | refine Rz.nilO rfl rfl rfl (by first | rfl | omega | (simp; done)) ?_ | refine Rz.agg ?_ ?_ | exact RzO.last rfl | (refine RzO.cons ?_ (.inr rfl) ?_) | exact Rz.same rfl (still_ints _) | exact Rz.same rfl (still_rows (fun _ => rfl) _)))) (by first | (show 0 ≤ _; exact Nat.zero_le _) | (repeat' (first | exact RzT.nil | refine RzT.cons ?_ ?_ | exact Rz.nil | refine Rz.keep rfl rfl ?_ | refine Rz.own rfl rfl rfl rfl rfl (by first | rfl | omega | (simp; done)) ?_ | refine Rz.ptr rfl rfl rfl rfl ?_ | refine Rz.nilO rfl rfl rfl (by first | rfl | omega | (simp; done)) ?_ | refine Rz.agg ?_ ?_ | exact RzO.last rfl | (refine RzO.cons ?_ (.inr rfl) ?_) | exact Rz.same rfl (still_ints _) | exact Rz.same rfl (still_rows (fun _ => rfl) _)))) (Nat.zero_le _)
    have hln := hln k hk.2
    have hnx := hnx k hk.2
    have hbd2 := hbd2 k hk.2
    have hok := hok k
    have hfin : ¬ (k : Int) < N → X N.toNat = X k := fun h => by rw [show N.toNat = k by omega]
    generalize hy : X k = y at hk hln hnx hbd2 hfin hok ⊢
    have hln : y.ms.length = k := hln
    by_cases hlt : (k : Int) < N
    · by_cases hb : (mbS p y.a x.L).1.c = 0
      · have hnx := hnx hb
        clear hbd2 e2 e3 e4
        refine go (r := ?_); and_intros <;> intros <;> try exact True.intro
        all_goals first | contradiction | (rw [hnx]; done) | trace_state
      · have hbd2 := hbd2 hb
        have e := hbd2 N.toNat (by omega)
        rw [e2 (by rw [e]; exact hb), e]
        clear hnx hbd2 e2 e3 e4
        refine go (r := ?_); and_intros <;> intros <;> try exact True.intro
        all_goals first | contradiction | trace_state
    · have hfin := hfin hlt
      have hc2 : (X N.toNat).c = 0 := by rw [hfin]; exact hk.2
      by_cases he : endC p y.a = 0
      · rw [e4 hc2 (by rw [hfin]; exact he), hfin]
        clear e2 e3 e4 hnx hbd2
        refine go (r := ?_); and_intros <;> intros <;> try exact True.intro
        all_goals first | contradiction | exact hok | trace_state
      · rw [e3 hc2 (by rw [hfin]; exact he), hfin]
        clear e2 e3 e4 hnx hbd2
        refine go (r := ?_); and_intros <;> intros <;> try exact True.intro
        all_goals first | contradiction | exact hok | trace_state
  · rw [prS_1 hc]
    refine goR (r := ?_); and_intros <;> intros <;> try exact True.intro
    refine WpA.weak (σ' := ⟨[(2, .ptr 0 0 0), (5, .ptr 2 0 0), (7, I (hdS p 0).c)], [⟨[I 0, I 0, I 0, B false, B false, .nilS, .nilS], 0, 0, none⟩, XI (hdS p 0).L, ⟨[Z p, I (hdS p 0).a], 0, 0, none⟩]⟩) (Weak.mk (by repeat (first | exact ReT.nil | refine ReT.cons (.keep rfl rfl .nil) ?_ | refine ReT.cons (.own rfl rfl rfl rfl rfl rfl .nil) ?_ | refine ReT.cons (.ptr rfl rfl rfl rfl .nil) ?_ | refine ReT.cons (.keep (congrArg (fun z => AV.sc (Value.int .i64 z)) (by first | omega | (skip))) rfl .nil) ?_ | refine ReT.cons (.keep (congrArg (fun z : List UInt8 => AV.sc (Value.string ⟨z.toArray⟩)) (by skip)) rfl .nil) ?_ | refine ReT.cons (.own rfl rfl rfl rfl rfl (by first | omega | (simp; done) | (simp; omega)) .nil) ?_)) (by repeat (first | exact ReO.nil | refine ReO.cons (Re.same rfl (still_ints _)) (by simp) ?_ | refine ReO.cons (Re.same rfl rfl) (by simp) ?_)) (Nat.zero_le _)) ?_
    refine go (r := ?_); and_intros <;> intros <;> try exact True.intro
    all_goals first | contradiction | trace_state⟩
instance Parse_s : Con 33 (∀ (p : List UInt8), p.length ≤ 1099511627776 → Fn 33 [Z p] [XI (prS p).L, MbO (prS p).ms] (.tup [StV (prS p), I (prS p).a, I (prS p).c])) := ⟨fun p hl => by
  have hr0 : RdOk p 0 := ⟨by omega, by omega⟩
  have hok := hdS_ok hr0
  refine FnC.of_body tabOk Try.func33 Try.ntmps33 rfl (by decide +kernel) (by simp) fun G => ?_
  by_cases hc : (hdS p 0).c = 0
  · have hs := hdS_sides hc
    have hL := hdSL_len (hdS p 0)
    have e2 := prS_2 hc
    have e3 := prS_3 hc
    have e4 := prS_4 hc
    have hbd := cntM_bd hs
    refine go (r := ?_); and_intros <;> intros <;> try exact True.intro
    all_goals first | contradiction | skip
    generalize hx : hdS p 0 = x at hc hs hL e2 e3 e4 hbd hok ⊢
    have hz : stRun p x.a x.L 0 = ⟨x.a, 0, []⟩ := by rw [stRun]
    have hln := fun k h => stRun_len p x.a x.L k h
    have hok := fun k => stRun_ok (lens := x.L) hok k
    have hnx := fun k h hb => stRun_next (p := p) (s := x.a) (lens := x.L) (k := k) h hb
    have hbd2 := fun k h hb j hj => stRun_bad (p := p) (s := x.a) (lens := x.L) (k := k) h hb j hj
    generalize hN : cntM x.W x.H = N at hbd e2 e3 e4 ⊢
    generalize stRun p x.a x.L = X at hz hln hnx hbd2 hok e2 e3 e4 ⊢
    refine WpA.loop (fun k : Nat => ⟨[(2, .ptr 0 0 0), (5, .ptr 2 0 0), (6, .ptr 3 0 0), (8, .ptr 4 0 0), (9, I k)], [⟨[I 0, I 0, I 0, B false, B false, .nilS, .nilS], 0, 0, none⟩, XI x.L, ⟨[Z p, I (X k).a], 0, 0, none⟩, ⟨[I x.W, I x.H, I x.Q, B x.B, B x.D, .own 1 0 0 x.L.length], 0, 0, none⟩, ⟨[I x.W, I x.H, I x.Q, B x.B, B x.D, .own 1 0 0 x.L.length, .own 5 0 0 k], 0, 0, none⟩, MbO (X k).ms]⟩) (fun k => (k : Int) ≤ N ∧ (X k).c = 0) (fun k => N.toNat - k) 0 (by rw [hz]; exact ⟨by omega, rfl⟩) ?_ (fun k hk => ?_)
    · rw [hz]; exact Weak.nil1 (by first | (show 0 ≤ _; exact Nat.zero_le _) | (repeat' (first | exact RzT.nil | refine RzT.cons ?_ ?_ | exact Rz.nil | refine Rz.keep rfl rfl ?_ | refine Rz.own rfl rfl rfl rfl rfl (by first | rfl | omega | (simp; done)) ?_ | refine Rz.ptr rfl rfl rfl rfl ?_ | refine Rz.nilO rfl rfl rfl (by first | rfl | omega | (simp; done)) ?_ | refine Rz.agg ?_ ?_ | exact RzO.last rfl | (refine RzO.cons ?_ (.inr rfl) ?_) | exact Rz.same rfl (still_ints _) | exact Rz.same rfl (still_rows (fun _ => rfl) _)))) (by first | (show 0 ≤ _; exact Nat.zero_le _) | (repeat' (first | exact RzT.nil | refine RzT.cons ?_ ?_ | exact Rz.nil | refine Rz.keep rfl rfl ?_ | refine Rz.own rfl rfl rfl rfl rfl (by first | rfl | omega | (simp; done)) ?_ | refine Rz.ptr rfl rfl rfl rfl ?_ | refine Rz.nilO rfl rfl rfl (by first | rfl | omega | (simp; done)) ?_ | refine Rz.agg ?_ ?_ | exact RzO.last rfl | (refine RzO.cons ?_ (.inr rfl) ?_) | exact Rz.same rfl (still_ints _) | exact Rz.same rfl (still_rows (fun _ => rfl) _)))) (Nat.zero_le _)
    have hln := hln k hk.2
    have hnx := hnx k hk.2
    have hbd2 := hbd2 k hk.2
    have hok := hok k
    have hfin : ¬ (k : Int) < N → X N.toNat = X k := fun h => by rw [show N.toNat = k by omega]
    generalize hy : X k = y at hk hln hnx hbd2 hfin hok ⊢
    have hln : y.ms.length = k := hln
    by_cases hlt : (k : Int) < N
    · by_cases hb : (mbS p y.a x.L).1.c = 0
      · have hnx := hnx hb
        clear hbd2 e2 e3 e4
        refine go (r := ?_); and_intros <;> intros <;> try exact True.intro
        all_goals first | contradiction | (rw [hnx]; done) | trace_state
      · have hbd2 := hbd2 hb
        have e := hbd2 N.toNat (by omega)
        rw [e2 (by rw [e]; exact hb), e]
        clear hnx hbd2 e2 e3 e4
        refine go (r := ?_); and_intros <;> intros <;> try exact True.intro
        all_goals first | contradiction | trace_state
    · have hfin := hfin hlt
      have hc2 : (X N.toNat).c = 0 := by rw [hfin]; exact hk.2
      by_cases he : endC p y.a = 0
      · rw [e4 hc2 (by rw [hfin]; exact he), hfin]
        clear e2 e3 e4 hnx hbd2
        refine go (r := ?_); and_intros <;> intros <;> try exact True.intro
        all_goals first | contradiction | exact hok | trace_state
      · rw [e3 hc2 (by rw [hfin]; exact he), hfin]
        clear e2 e3 e4 hnx hbd2
        refine go (r := ?_); and_intros <;> intros <;> try exact True.intro
        all_goals first | contradiction | exact hok | trace_state
  · rw [prS_1 hc]
    refine goR (r := ?_); and_intros <;> intros <;> try exact True.intro
    refine WpA.weak (σ' := ⟨[(2, .ptr 0 0 0), (5, .ptr 2 0 0), (7, I (hdS p 0).c)], [⟨[I 0, I 0, I 0, B false, B false, .nilS, .nilS], 0, 0, none⟩, XI (hdS p 0).L, ⟨[Z p, I (hdS p 0).a], 0, 0, none⟩]⟩) (Weak.mk (by repeat (first | exact ReT.nil | refine ReT.cons (.keep rfl rfl .nil) ?_ | refine ReT.cons (.own rfl rfl rfl rfl rfl rfl .nil) ?_ | refine ReT.cons (.ptr rfl rfl rfl rfl .nil) ?_ | refine ReT.cons (.keep (congrArg (fun z => AV.sc (Value.int .i64 z)) (by first | omega | (skip))) rfl .nil) ?_ | refine ReT.cons (.keep (congrArg (fun z : List UInt8 => AV.sc (Value.string ⟨z.toArray⟩)) (by skip)) rfl .nil) ?_ | refine ReT.cons (.own rfl rfl rfl rfl rfl (by first | omega | (simp; done) | (simp; omega)) .nil) ?_)) (by repeat (first | exact ReO.nil | refine ReO.cons (Re.same rfl (still_ints _)) (by simp) ?_ | refine ReO.cons (Re.same rfl rfl) (by simp) ?_)) (Nat.zero_le _)) ?_
    refine go (r := ?_); and_intros <;> intros <;> try exact True.intro
    all_goals first | contradiction | trace_state⟩
end
end Go.Proofs.Ytgkeopmihhcbiaa

/- Contracts: FastParse; the law FnExactFastParse. No condition. -/
namespace Go.Proofs.Ytgkeopmihhcbiaa
open Go Go.Abs
set_option linter.unusedVariables false
set_option linter.unusedSimpArgs false
set_option maxRecDepth 100000
set_option maxHeartbeats 4000000
attribute [local irreducible] WpA WpL Rnd Blk Abs.Seq Abs.Fin Abs.FinG FnC FnG Only

theorem bw_small {l : List Blok} (h : ∀ b ∈ l, b.2.length ≤ 64) : bw l ≤ 65 * l.length := by
  induction l with
  | nil => simp [bw_nil]
  | cons b l ih =>
    have h1 := h b (by simp)
    have h2 := ih fun x hx => h x (by simp [hx])
    rw [bw_cons, List.length_cons]; omega
theorem mw_small {l : List Mbk} (h : ∀ m ∈ l, m.2.length ≤ 4 ∧ ∀ b ∈ m.2, b.2.length ≤ 64) : mw l ≤ 261 * l.length := by
  induction l with
  | nil => simp [mw_nil]
  | cons m l ih =>
    have h1 := h m (by simp)
    have h2 := ih fun x hx => h x (by simp [hx])
    have h3 := bw_small h1.2
    rw [mw_cons, List.length_cons]; omega
theorem prS_sz (p : List UInt8) : (prS p).L.length ≤ 6 ∧ (prS p).ms.length ≤ 16 ∧ mw (prS p).ms ≤ 4176 ∧ SmM 1099511627776 (prS p).ms := by
  have h : (prS p).L.length ≤ 6 ∧ (prS p).ms.length ≤ 16 ∧ mw (prS p).ms ≤ 4176 := by
    by_cases h1 : (hdS p 0).c = 0
    · by_cases h2 : (stRun p (hdS p 0).a (hdS p 0).L (cntM (hdS p 0).W (hdS p 0).H).toNat).c = 0
      · by_cases h3 : endC p (stRun p (hdS p 0).a (hdS p 0).L (cntM (hdS p 0).W (hdS p 0).H).toNat).a = 0
        · rw [prS_4 h1 h2 h3]
          have hb := cntM_bd (hdS_sides h1)
          have hs := stRun_sm (p := p) (s := (hdS p 0).a) (lens := (hdS p 0).L) (cntM (hdS p 0).W (hdS p 0).H).toNat
          have hm := mw_small hs.2
          have hL := hdSL_len (hdS p 0)
          refine ⟨hL, ?_, ?_⟩
          · show (stRun _ _ _ _).ms.length ≤ 16
            omega
          · show mw (stRun _ _ _ _).ms ≤ 4176
            omega
        · rw [prS_3 h1 h2 h3]; exact ⟨Nat.zero_le _, Nat.zero_le _, Nat.zero_le _⟩
      · rw [prS_2 h1 h2]; exact ⟨Nat.zero_le _, Nat.zero_le _, Nat.zero_le _⟩
    · rw [prS_1 h1]; exact ⟨Nat.zero_le _, Nat.zero_le _, Nat.zero_le _⟩
  exact ⟨h.1, h.2.1, h.2.2, smM_of (by omega)⟩
section
attribute [local irreducible] prS
instance FastParse_c : Con 32 (∀ (p : List UInt8), p.length ≤ 1099511627776 → Fn 32 [Z p] [XI (prS p).L, MbO (prS p).ms] (.tup [StV (prS p), I (prS p).a, I (prS p).c])) := ⟨fun p hl => by
  refine FnC.of_body tabOk Try.func32 Try.ntmps32 rfl (by decide +kernel) (by simp) fun G => ?_
  refine go (r := ?_); and_intros <;> intros <;> try exact True.intro⟩
end
end Go.Proofs.Ytgkeopmihhcbiaa

/- What is drawn: readers, texts that are streams, or nearly. No condition. -/
namespace Go.Proofs.Ytgkeopmihhcbiaa
open Go Go.Abs
set_option linter.unusedVariables false
set_option linter.unusedSimpArgs false
set_option maxRecDepth 100000
set_option maxHeartbeats 4000000
attribute [local irreducible] WpA WpL Rnd Blk Abs.Seq Abs.Fin Abs.FinG FnC FnG FnX FnP FinX Only
attribute [local irreducible] belowD onceD pickD modeD l8D l8AnyD optD anyD seedD headD headAnyD symL HasC blkD mbD strD unpS

theorem fieldRd {n m : Nat} {G : Ctx} {T : List (Nat × AV)} {O : List AObj} {Q : Exit → St → Prop} {ops : Array Oper} {l : List Oper} {tt : TypeId} {pos : String} {after : Array Edge} {d : Nat} {md : Bool} {x : Operand} {u : Value} {V2 : AV} (hx : av T x = .agg [.sc u, V2]) (hn : d < n) (h : WpL Try.prog n m G md ops l ⟨(d, .sc u) :: T, O⟩ Q) :
    WpL Try.prog n m G md ops ({ dst := some d, op := .field 78 x 0, type := tt, pos := pos, after := after, guard := none } :: l) ⟨T, O⟩ Q :=
  WpL.pure rfl rfl hn (fun S ι F a w hr => by
    have hv := hr.eval x
    rw [show av (St.mk T O).T x = _ from hx] at hv
    obtain ⟨us, hus, hl⟩ := LRel.agg_inv hv
    obtain ⟨v1, vs, f1, f2, rfl, h1, hr2, hf⟩ := hl.uncons
    have e1 := h1.sc_eq
    subst e1
    have hp : (Go.part 9 (v1 :: vs).toArray 0).run Try.prog w = .ok v1 w := by simp [Go.part, isAgg, Sem.run_bind, run_underlying Try.underlying9]
    refine ⟨v1, ?_, .sc .nil⟩
    simp [execOp, Instr.field, hus, run_underlying Try.underlying78, asAgg, hp, Sem.run_bind]) h
instance l1Pick_p : ConP 175 (∀ (v : Value) (l : List Int) (c : Cr) (xs : List (List UInt8)), CrOk l c ∧ 0 < xs.length ∧ xs.length ≤ 1048576 → Pn 175 v l c [.imm 1 xs.length (strs xs)] (belowD l c xs.length).1 [] (Z (xs.getD (belowD l c xs.length).2.toNat []))) := ⟨fun v l c xs h => by
  have hc := h.1
  have hb := belowD_ok (xs.length : Int) hc
  have h1 := hb.2.1
  have h2 := hb.2.2.1 (by omega)
  refine FnP.of_body tabOk Try.func175 Try.ntmps175 rfl (by decide +kernel) (by simp) rfl rfl rfl fun G hp => ?_
  refine go (r := ?_); and_intros <;> intros <;> try exact True.intro
  all_goals first | exact hc.2.1 | exact hc.2.2 | trace_state⟩
theorem l3Reader_x (v : Value) (l : List Int) (c : Cr) (h : CrOk l c) : FnX Try.prog 176 [.ptr 0 0 0] [CurO v c] [v] [CodA l] (Cr × List UInt8 × Int) (fun y => CrOk l y.1 ∧ y.2.1.length ≤ 8) (fun y => [CurO v y.1]) (fun _ => []) (fun y => .agg [Z y.2.1, I y.2.2]) := by
  have hb := belowD_ok 9 h
  have hb0 := hb.2.1
  have hb1 := hb.2.2.1 (by decide)
  refine FnX.of_body tabOk Try.func176 Try.ntmps176 rfl (by decide +kernel) (by simp) rfl rfl fun G hp => ?_
  refine go (r := ?_); and_intros <;> intros <;> try exact True.intro
  all_goals first | exact h.2.1 | exact h.2.2 | skip
  refine WpA.loop (fun x : Nat × Cr × List UInt8 => ⟨[(0, .ptr 0 0 0), (2, .ptr 1 0 0), (3, Z x.2.2), (4, I x.1)], [CurO v x.2.1, ⟨[Z [], I 0], 0, 0, none⟩]⟩) (fun x => CrOk l x.2.1 ∧ x.2.2.length + x.1 ≤ 8) (fun x => x.1) ((belowD l c 9).2.toNat, (belowD l c 9).1, []) ⟨hb.1, by simp only [List.length_nil]; omega⟩ ?_ ?_
  · have ez : (((belowD l c 9).2.toNat : Nat) : Int) = (belowD l c 9).2 := by omega
    simp only [ez]
    exact Weak.mk (by repeat (first | exact ReT.nil | refine ReT.cons (.keep rfl rfl .nil) ?_ | refine ReT.cons (.own rfl rfl rfl rfl rfl rfl .nil) ?_ | refine ReT.cons (.ptr rfl rfl rfl rfl .nil) ?_ | refine ReT.cons (.keep (congrArg (fun z => AV.sc (Value.int .i64 z)) (by first | omega | (skip))) rfl .nil) ?_ | refine ReT.cons (.keep (congrArg (fun z : List UInt8 => AV.sc (Value.string ⟨z.toArray⟩)) (by skip)) rfl .nil) ?_ | refine ReT.cons (.own rfl rfl rfl rfl rfl (by first | omega | (simp; done) | (simp; omega)) .nil) ?_)) (by repeat (first | exact ReO.nil | refine ReO.cons (Re.same rfl rfl) (.inr rfl) ?_ | refine ReO.cons (Re.same rfl (still_ints _)) (.inr rfl) ?_ | refine ReO.cons (.keep rfl rfl (.own rfl rfl rfl rfl rfl rfl .nil)) (.inr rfl) ?_)) (Nat.le_of_ble_eq_true rfl)
  rintro ⟨k, c1, s⟩ ⟨hc1, hlen⟩
  try simp only at hc1 hlen ⊢
  by_cases hk0 : k = 0
  · subst hk0
    have hb2 := belowD_ok (8 * (s.length : Int) + 1) hc1
    have ho := onceD_ok 14 hb2.1
    have hp1 := pickD_ok (xs := [-1, 8 * (s.length : Int) + 1]) ho (by simp)
    refine go (r := ?_); and_intros <;> intros <;> try exact True.intro
    all_goals first | exact hc1.2.1 | exact hc1.2.2 | exact hb2.1.2.1 | exact hb2.1.2.2 | exact ho.2.1 | exact ho.2.2 | (simp; done) | omega | skip
    all_goals
      refine FinX.fin (y := ((_, _), _, _)) (FinG.oI [some 0] rfl (ResV.cell (ds := [_, _]) rfl rfl rfl rfl rfl) (.agg (.keep rfl rfl rfl (.keep rfl rfl rfl .nil)) .nil) (.obj rfl rfl rfl rfl rfl (.inr rfl) .nil) rfl rfl) ⟨?_, ?_⟩
    all_goals first | exact hp1.1 | exact ho | (simp only; omega) | trace_state
  · have hb2 := belowD_ok 256 hc1
    have hp1 := pickD_ok (xs := [0, 1, 255, 128, (belowD l c1 256).2]) hb2.1 (by simp)
    refine go (r := ?_); and_intros <;> intros <;> try exact True.intro
    all_goals first | exact hc1.2.1 | exact hc1.2.2 | exact hb2.1.2.1 | exact hb2.1.2.2 | (simp; done) | omega | skip
    refine Rnd.go (k - 1, (pickD l (belowD l c1 256).1 [0, 1, 255, 128, (belowD l c1 256).2]).1, s ++ List.map (fun n : Int => UInt8.ofNat n.toNat) [IntKind.u8.wrap (pickD l (belowD l c1 256).1 [0, 1, 255, 128, (belowD l c1 256).2]).2]) ⟨hp1.1, by simp only [List.length_append, List.length_map, List.length_singleton]; omega⟩ ?_ ?_
    · show k - 1 < k; omega
    · exact Weak.mk (by repeat (first | exact ReT.nil | refine ReT.cons (.keep rfl rfl .nil) ?_ | refine ReT.cons (.own rfl rfl rfl rfl rfl rfl .nil) ?_ | refine ReT.cons (.ptr rfl rfl rfl rfl .nil) ?_ | refine ReT.cons (.keep (congrArg (fun z => AV.sc (Value.int .i64 z)) (by first | omega | (skip))) rfl .nil) ?_ | refine ReT.cons (.keep (congrArg (fun z : List UInt8 => AV.sc (Value.string ⟨z.toArray⟩)) (by skip)) rfl .nil) ?_ | refine ReT.cons (.own rfl rfl rfl rfl rfl (by first | omega | (simp; done) | (simp; omega)) .nil) ?_)) (by repeat (first | exact ReO.nil | refine ReO.cons (Re.same rfl rfl) (.inr rfl) ?_ | refine ReO.cons (Re.same rfl (still_ints _)) (.inr rfl) ?_ | refine ReO.cons (.keep rfl rfl (.own rfl rfl rfl rfl rfl rfl .nil)) (.inr rfl) ?_)) (Nat.le_of_ble_eq_true rfl)
theorem get3 (i : Nat) : (([[0], [128], [120]] : List (List UInt8)).getD i []).length ≤ 1 := by
  match i with
  | 0 => decide
  | 1 => decide
  | 2 => decide
  | i + 3 => simp
abbrev TxX (f : Nat) (v : Value) (l : List Int) (c : Cr) : Prop := FnX Try.prog f [.ptr 0 0 0] [CurO v c] [v] [CodA l] (Cr × List UInt8) (fun y => CrOk l y.1 ∧ y.2.length ≤ 200000) (fun y => [CurO v y.1]) (fun _ => []) (fun y => Z y.2)
theorem l24Text_x (v : Value) (l : List Int) (c : Cr) (h : CrOk l c) : TxX 87 v l c := by
  have hs := strD_ok h
  have hs1 := hs.1
  have hs2 := hs.2.1
  have hmw := mw_small hs.2.2.2.2
  have hln := hs.2.2.2.1
  have hcm := cntM_bd hs.2.2.1
  have hcm2 := hcm.2.2.2
  have hmw2 : mw (strD l c).2.ms ≤ 1048576 := by omega
  have hb := belowD_ok 9 hs1
  have hu := unpS_len (strD l c).2.hd.w (strD l c).2.hd.h (strD l c).2.hd.q (strD l c).2.hd.b (strD l c).2.hd.d (strD l c).2.hd.lens (strD l c).2.ms
  have hb8 : CrOk l (belowD l (strD l c).1 9).1 := hb.1
  have hc21 := hb8.2.1
  have hc22 := hb8.2.2
  have hk := belowD_ok ((unpS (strD l c).2.hd.w (strD l c).2.hd.h (strD l c).2.hd.q (strD l c).2.hd.b (strD l c).2.hd.d (strD l c).2.hd.lens (strD l c).2.ms).length : Int) hb8
  have hk0 := hk.2.1
  have hk1 := hk.2.2.1
  have hk2 := hk.1.2.1
  have hkc := hk.1
  have hk3 := hk.1.2.2
  have hj := belowD_ok 8 hk.1
  have hj0 := hj.2.1
  have hj1 := hj.2.2.1 (by decide)
  have hm := belowD_ok (((unpS (strD l c).2.hd.w (strD l c).2.hd.h (strD l c).2.hd.q (strD l c).2.hd.b (strD l c).2.hd.d (strD l c).2.hd.lens (strD l c).2.ms).length : Int) + 1) hb8
  have hm0 := hm.2.1
  have hm1 := hm.2.2.1 (by omega)
  have hp3 := get3 (belowD l (belowD l (strD l c).1 9).1 ((([[0], [128], [120]] : List (List UInt8)).length : Nat) : Int)).2.toNat
  refine FnX.of_body tabOk Try.func87 Try.ntmps87 rfl (by decide +kernel) (by simp) rfl rfl fun G hp => ?_
  refine goR (r := ?_); and_intros <;> intros <;> try exact True.intro
  all_goals first | exact h.2.1 | exact h.2.2 | exact hs1.2.1 | exact hs1.2.2 | omega | skip
  all_goals first
    | (refine FinX.fin (y := ((_, _), _)) (FinG.oI [some 0] rfl (ResV.tmp rfl) (.keep rfl rfl rfl .nil) (.obj rfl rfl rfl rfl rfl (.inr rfl) .nil) rfl rfl) ⟨?_, ?_⟩ <;> first | exact hb8 | exact (belowD_ok _ hb8).1 | exact (belowD_ok _ (belowD_ok _ hb8).1).1 | (simp only; omega) | (simp; omega) | (simp only [List.length_append]; omega))
    | (simp; done)
    | (show (3 : Nat) ≤ 1048576; omega)
    | skip
  · have hpos : 0 < ((unpS (strD l c).2.hd.w (strD l c).2.hd.h (strD l c).2.hd.q (strD l c).2.hd.b (strD l c).2.hd.d (strD l c).2.hd.lens (strD l c).2.ms).length : Int) := by omega
    have hk1 := hk1 hpos
    have hbl : (List.map (fun b : UInt8 => (b.toNat : Int)) (unpS (strD l c).2.hd.w (strD l c).2.hd.h (strD l c).2.hd.q (strD l c).2.hd.b (strD l c).2.hd.d (strD l c).2.hd.lens (strD l c).2.ms)).length = (unpS (strD l c).2.hd.w (strD l c).2.hd.h (strD l c).2.hd.q (strD l c).2.hd.b (strD l c).2.hd.d (strD l c).2.hd.lens (strD l c).2.ms).length := by simp
    refine goR (r := ?_); and_intros <;> intros <;> try exact True.intro
    apply WpA.regionSF (O := []) (Or := [CurO v (belowD l (belowD l (strD l c).1 9).1 (unpS (strD l c).2.hd.w (strD l c).2.hd.h (strD l c).2.hd.q (strD l c).2.hd.b (strD l c).2.hd.d (strD l c).2.hd.lens (strD l c).2.ms).length).1, XI (strD l c).2.hd.lens, MbO (strD l c).2.ms, ⟨u8s (List.map (fun b : UInt8 => (b.toNat : Int)) (unpS (strD l c).2.hd.w (strD l c).2.hd.h (strD l c).2.hd.q (strD l c).2.hd.b (strD l c).2.hd.d (strD l c).2.hd.lens (strD l c).2.ms)), 0, 1, none⟩]) (O1 := [CurO v (belowD l (belowD l (belowD l (strD l c).1 9).1 (unpS (strD l c).2.hd.w (strD l c).2.hd.h (strD l c).2.hd.q (strD l c).2.hd.b (strD l c).2.hd.d (strD l c).2.hd.lens (strD l c).2.ms).length).1 8).1, XI (strD l c).2.hd.lens, MbO (strD l c).2.ms, ⟨u8s (List.map (fun b : UInt8 => (b.toNat : Int)) (unpS (strD l c).2.hd.w (strD l c).2.hd.h (strD l c).2.hd.q (strD l c).2.hd.b (strD l c).2.hd.d (strD l c).2.hd.lens (strD l c).2.ms)), 0, 1, none⟩]) 10 0 [3] [] rfl mixed (by decide +kernel)
    · exact rfl
    · apply HeadS.consF .none rfl
      · exact rfl
      · exact rfl
      · exact in1
      · exact rfl
      · exact rfl
      apply HeadS.consF .none rfl
      · exact rfl
      · exact rfl
      · exact in1
      · exact rfl
      · exact rfl
      apply HeadS.consF .none rfl
      · exact rfl
      · exact rfl
      · exact in1
      · exact rfl
      · exact rfl
      apply HeadS.consF .none rfl
      · exact rfl
      · exact rfl
      · exact in1
      · exact rfl
      · exact rfl
      apply HeadS.consF .none rfl
      · exact rfl
      · exact rfl
      · intro Tv Ov hc hp' hd hk
        obtain ⟨x0, x1, x2, R, rfl⟩ := Abs.split4 (hk 3 rfl)
        exact in1
      · exact rfl
      · exact rfl
      apply HeadS.consF .none rfl
      · exact rfl
      · exact rfl
      · intro Tv Ov hc hp' hd hk
        obtain ⟨x0, x1, x2, R, rfl⟩ := Abs.split4 (hk 3 rfl)
        exact in1
      · exact rfl
      · exact rfl
      apply HeadS.consF .none rfl
      · exact rfl
      · exact rfl
      · exact in1
      · exact rfl
      · exact rfl
      apply HeadS.consF (V := I (belowD l (belowD l (belowD l (strD l c).1 9).1 (unpS (strD l c).2.hd.w (strD l c).2.hd.h (strD l c).2.hd.q (strD l c).2.hd.b (strD l c).2.hd.d (strD l c).2.hd.lens (strD l c).2.ms).length).1 8).2) (.step 0 (CurO v (belowD l (belowD l (belowD l (strD l c).1 9).1 (unpS (strD l c).2.hd.w (strD l c).2.hd.h (strD l c).2.hd.q (strD l c).2.hd.b (strD l c).2.hd.d (strD l c).2.hd.lens (strD l c).2.ms).length).1 8).1)) rfl
      · exact rfl
      · exact rfl
      · intro Tv Ov hc hp' hd hk
        obtain ⟨R, rfl⟩ := split1 (hp' 0 _ rfl)
        refine K.call ?_
        refine K.conP (fun hcon => ?_)
        refine WpL.callP1 (hcon v l (belowD l (belowD l (strD l c).1 9).1 (unpS (strD l c).2.hd.w (strD l c).2.hd.h (strD l c).2.hd.q (strD l c).2.hd.b (strD l c).2.hd.d (strD l c).2.hd.lens (strD l c).2.ms).length).1 8 hkc) hp handA handOA rfl (.cons rfl (.sc (.sc (.sc .nil))) .nil) (by decide) ?_
        exact WpL.nil (Only.mk rfl)
      · exact rfl
      · exact rfl
      apply HeadS.consF .none rfl
      · exact rfl
      · exact rfl
      · exact in1
      · exact rfl
      · exact rfl
      apply HeadS.consF .none rfl
      · exact rfl
      · exact rfl
      · exact in1
      · exact rfl
      · exact rfl
      exact HeadS.nil
    · exact rfl
    · exact rfl
    · exact rfl
    · exact rfl
    · exact rfl
    · exact rfl
    · exact rfl
    refine go (r := ?_); and_intros <;> intros <;> try exact True.intro
    all_goals first | (refine FinX.fin (y := ((_, _), _)) (FinG.oI [some 0] rfl (ResV.tmp rfl) (.keep rfl rfl rfl .nil) (.obj rfl rfl rfl rfl rfl (.inr rfl) .nil) rfl rfl) ⟨?_, ?_⟩ <;> first | exact hb8 | exact (belowD_ok _ hb8).1 | exact (belowD_ok _ (belowD_ok _ hb8).1).1 | (simp only; omega) | (simp; omega) | (simp only [List.length_append]; omega)) | trace_state
  · have hpos : 0 < ((unpS (strD l c).2.hd.w (strD l c).2.hd.h (strD l c).2.hd.q (strD l c).2.hd.b (strD l c).2.hd.d (strD l c).2.hd.lens (strD l c).2.ms).length : Int) := by omega
    have hk1 := hk1 hpos
    have hbl : (List.map (fun b : UInt8 => (b.toNat : Int)) (unpS (strD l c).2.hd.w (strD l c).2.hd.h (strD l c).2.hd.q (strD l c).2.hd.b (strD l c).2.hd.d (strD l c).2.hd.lens (strD l c).2.ms)).length = (unpS (strD l c).2.hd.w (strD l c).2.hd.h (strD l c).2.hd.q (strD l c).2.hd.b (strD l c).2.hd.d (strD l c).2.hd.lens (strD l c).2.ms).length := by simp
    refine goR (r := ?_); and_intros <;> intros <;> try exact True.intro
    apply WpA.regionSF (O := []) (Or := [CurO v (belowD l (belowD l (strD l c).1 9).1 (unpS (strD l c).2.hd.w (strD l c).2.hd.h (strD l c).2.hd.q (strD l c).2.hd.b (strD l c).2.hd.d (strD l c).2.hd.lens (strD l c).2.ms).length).1, XI (strD l c).2.hd.lens, MbO (strD l c).2.ms, ⟨u8s (List.map (fun b : UInt8 => (b.toNat : Int)) (unpS (strD l c).2.hd.w (strD l c).2.hd.h (strD l c).2.hd.q (strD l c).2.hd.b (strD l c).2.hd.d (strD l c).2.hd.lens (strD l c).2.ms)), 0, 1, none⟩]) (O1 := [CurO v (belowD l (belowD l (belowD l (strD l c).1 9).1 (unpS (strD l c).2.hd.w (strD l c).2.hd.h (strD l c).2.hd.q (strD l c).2.hd.b (strD l c).2.hd.d (strD l c).2.hd.lens (strD l c).2.ms).length).1 8).1, XI (strD l c).2.hd.lens, MbO (strD l c).2.ms, ⟨u8s (List.map (fun b : UInt8 => (b.toNat : Int)) (unpS (strD l c).2.hd.w (strD l c).2.hd.h (strD l c).2.hd.q (strD l c).2.hd.b (strD l c).2.hd.d (strD l c).2.hd.lens (strD l c).2.ms)), 0, 1, none⟩]) 10 0 [3] [] rfl mixed (by decide +kernel)
    · exact rfl
    · apply HeadS.consF .none rfl
      · exact rfl
      · exact rfl
      · exact in1
      · exact rfl
      · exact rfl
      apply HeadS.consF .none rfl
      · exact rfl
      · exact rfl
      · exact in1
      · exact rfl
      · exact rfl
      apply HeadS.consF .none rfl
      · exact rfl
      · exact rfl
      · exact in1
      · exact rfl
      · exact rfl
      apply HeadS.consF .none rfl
      · exact rfl
      · exact rfl
      · exact in1
      · exact rfl
      · exact rfl
      apply HeadS.consF .none rfl
      · exact rfl
      · exact rfl
      · intro Tv Ov hc hp' hd hk
        obtain ⟨x0, x1, x2, R, rfl⟩ := Abs.split4 (hk 3 rfl)
        exact in1
      · exact rfl
      · exact rfl
      apply HeadS.consF .none rfl
      · exact rfl
      · exact rfl
      · intro Tv Ov hc hp' hd hk
        obtain ⟨x0, x1, x2, R, rfl⟩ := Abs.split4 (hk 3 rfl)
        exact in1
      · exact rfl
      · exact rfl
      apply HeadS.consF .none rfl
      · exact rfl
      · exact rfl
      · exact in1
      · exact rfl
      · exact rfl
      apply HeadS.consF (V := I (belowD l (belowD l (belowD l (strD l c).1 9).1 (unpS (strD l c).2.hd.w (strD l c).2.hd.h (strD l c).2.hd.q (strD l c).2.hd.b (strD l c).2.hd.d (strD l c).2.hd.lens (strD l c).2.ms).length).1 8).2) (.step 0 (CurO v (belowD l (belowD l (belowD l (strD l c).1 9).1 (unpS (strD l c).2.hd.w (strD l c).2.hd.h (strD l c).2.hd.q (strD l c).2.hd.b (strD l c).2.hd.d (strD l c).2.hd.lens (strD l c).2.ms).length).1 8).1)) rfl
      · exact rfl
      · exact rfl
      · intro Tv Ov hc hp' hd hk
        obtain ⟨R, rfl⟩ := split1 (hp' 0 _ rfl)
        refine K.call ?_
        refine K.conP (fun hcon => ?_)
        refine WpL.callP1 (hcon v l (belowD l (belowD l (strD l c).1 9).1 (unpS (strD l c).2.hd.w (strD l c).2.hd.h (strD l c).2.hd.q (strD l c).2.hd.b (strD l c).2.hd.d (strD l c).2.hd.lens (strD l c).2.ms).length).1 8 hkc) hp handA handOA rfl (.cons rfl (.sc (.sc (.sc .nil))) .nil) (by decide) ?_
        exact WpL.nil (Only.mk rfl)
      · exact rfl
      · exact rfl
      apply HeadS.consF .none rfl
      · exact rfl
      · exact rfl
      · exact in1
      · exact rfl
      · exact rfl
      apply HeadS.consF .none rfl
      · exact rfl
      · exact rfl
      · exact in1
      · exact rfl
      · exact rfl
      exact HeadS.nil
    · exact rfl
    · exact rfl
    · exact rfl
    · exact rfl
    · exact rfl
    · exact rfl
    · exact rfl
    refine go (r := ?_); and_intros <;> intros <;> try exact True.intro
    all_goals first | (refine FinX.fin (y := ((_, _), _)) (FinG.oI [some 0] rfl (ResV.tmp rfl) (.keep rfl rfl rfl .nil) (.obj rfl rfl rfl rfl rfl (.inr rfl) .nil) rfl rfl) ⟨?_, ?_⟩ <;> first | exact hb8 | exact (belowD_ok _ hb8).1 | exact (belowD_ok _ (belowD_ok _ hb8).1).1 | (simp only; omega) | (simp; omega) | (simp only [List.length_append]; omega)) | trace_state
  · refine K.call ?_
    refine WpL.callE (hs := [0]) (l3Reader_x v l (belowD l (strD l c).1 9).1 hb8) hp handA handOA rfl (fun _ => rfl) (fun _ => .cons rfl (.sc (.sc (.sc .nil))) .nil) (fun _ => outA) rfl rfl (fun _ => rfl) (fun _ => rfl) (by decide) (fun y hy => ?_)
    refine fieldRd rfl (by decide) ?_
    refine go (r := ?_); and_intros <;> intros <;> try exact True.intro
    all_goals exact FinX.fin (y := (y.1, y.2.1)) (FinG.oI [some 0] rfl (ResV.tmp rfl) (.keep rfl rfl rfl .nil) (.obj rfl rfl rfl rfl rfl (.inr rfl) .nil) rfl rfl) ⟨hy.1, by have := hy.2; simp only; omega⟩
end Go.Proofs.Ytgkeopmihhcbiaa

/- Contracts: streams that are the same, by the specification. No condition. -/
namespace Go.Proofs.Ytgkeopmihhcbiaa
open Go Go.Abs
set_option linter.unusedVariables false
set_option linter.unusedSimpArgs false
set_option maxRecDepth 100000
set_option maxHeartbeats 4000000
attribute [local irreducible] WpA WpL Rnd Blk Abs.Seq Abs.Fin Abs.FinG FnC FnG Only

instance l23SameInts_s : Con 93 (∀ a : List Int, a.length ≤ 1099511627776 → Fn 93 [IL a, IL a] [] (B true)) := ⟨fun a hl => by
  refine FnC.of_body tabOk Try.func93 Try.ntmps93 rfl (by decide +kernel) (by simp) fun G => ?_
  refine go (r := ?_); and_intros <;> intros <;> try exact True.intro
  refine WpA.loop (fun k : Nat => ⟨[(0, IL a), (1, IL a), (5, I k)], []⟩) (fun k => k ≤ a.length) (fun k => a.length - k) 0 (by simp) (go (r := trivial)) (fun k hk => ?_)
  refine go (r := ?_); and_intros <;> intros <;> try exact True.intro
  all_goals first | contradiction | omega | trace_state⟩
instance SameMb_s : Con 57 (∀ (e : Bool) (bs : List Blok), bs.length ≤ 1099511627776 ∧ SmB 1099511627776 bs → Fn 57 [.agg [B e, BkL bs], .agg [B e, BkL bs]] [] (B true)) := ⟨fun e bs hl => by
  refine FnC.of_body tabOk Try.func57 Try.ntmps57 rfl (by decide +kernel) (by simp) fun G => ?_
  refine go (r := ?_); and_intros <;> intros <;> try exact True.intro
  all_goals first | contradiction | (simp_all; done) | skip
  refine WpA.loop (fun k : Nat => ⟨[(2, .ptr 0 0 0), (3, .ptr 1 0 0), (5, I k)], [⟨[B e, BkL bs], 0, 0, none⟩, ⟨[B e, BkL bs], 0, 0, none⟩]⟩) (fun k => k ≤ bs.length) (fun k => bs.length - k) 0 (by simp) (go (r := ?_)) (fun k hk => ?_)
  · and_intros <;> first | exact True.intro | trace_state
  have hg := fun h => smB_get hl.2 (k := k) h
  refine go (r := ?_); and_intros <;> intros <;> try exact True.intro
  all_goals first | contradiction | omega | (simp_all; done) | trace_state⟩
instance SameStream_s : Con 34 (∀ (w h q : Int) (b d : Bool) (l : List Int) (M : List Mbk), l.length ≤ 1099511627776 ∧ M.length ≤ 1099511627776 ∧ SmM 1099511627776 M → Fn 34 [StA w h q b d l M, StA w h q b d l M] [] (B true)) := ⟨fun w h q b d l M hl => by
  refine FnC.of_body tabOk Try.func34 Try.ntmps34 rfl (by decide +kernel) (by simp) fun G => ?_
  refine go (r := ?_); and_intros <;> intros <;> try exact True.intro
  all_goals first | contradiction | (simp_all; done) | skip
  refine WpA.loop (fun i : Nat => ⟨[(2, .ptr 0 0 0), (3, .ptr 1 0 0), (5, I i)], [⟨StC w h q b d l M, 0, 0, none⟩, ⟨StC w h q b d l M, 0, 0, none⟩]⟩) (fun i => i ≤ M.length) (fun i => M.length - i) 0 (by simp) (go (r := ?_)) (fun i hi => ?_)
  · and_intros <;> first | exact True.intro | trace_state
  by_cases hi2 : i < M.length
  · obtain ⟨hg1, hg2⟩ := smM_get hl.2.2 hi2
    refine go (r := ?_); and_intros <;> intros <;> try exact True.intro
    all_goals first | contradiction | omega | (simp_all; done) | trace_state
  · refine go (r := ?_); and_intros <;> intros <;> try exact True.intro
    all_goals first | contradiction | omega | (simp_all; done) | trace_state⟩
end Go.Proofs.Ytgkeopmihhcbiaa

/- Contract: codes that are too long. No condition. -/
namespace Go.Proofs.Ytgkeopmihhcbiaa
open Go Go.Abs
set_option linter.unusedVariables false
set_option linter.unusedSimpArgs false
set_option maxRecDepth 100000
set_option maxHeartbeats 4000000
attribute [local irreducible] WpA WpL Rnd Blk Abs.Seq Abs.Fin Abs.FinG FnC FnG FnX FnP FinX Only

instance big_c : Con 21 (∀ l : List Int, l.length ≤ 9223372036854775807 → Fn 21 [CodA l] [] (B (decide ((l.length : Int) > 1048576)))) := ⟨fun l hl => by
  refine FnC.of_body tabOk Try.func21 Try.ntmps21 rfl (by decide +kernel) (by simp) fun G => ?_
  refine go (r := ?_); and_intros <;> intros <;> try exact True.intro⟩
end Go.Proofs.Ytgkeopmihhcbiaa

/- The law FnFastParse. No condition. -/
namespace Go.Proofs.Ytgkeopmihhcbiaa
open Go Go.Abs
set_option linter.unusedVariables false
set_option linter.unusedSimpArgs false
set_option maxRecDepth 100000
set_option maxHeartbeats 4000000
attribute [local irreducible] WpA WpL Rnd Blk Abs.Seq Abs.Fin Abs.FinG FnC FnG FnX FnP FinX Only
attribute [local irreducible] seedD prS

theorem DrawFastParse_x (v : Value) (l : List Int) (hl : l.length ≤ 1048576) : FnX Try.prog 30 [.sc v] [] [v] [CodA l] (List UInt8) (fun y => y.length ≤ 200000) (fun _ => []) (fun _ => []) (fun y => Z y) := by
  have hn := newD_ok hl
  refine FnX.of_body tabOk Try.func30 Try.ntmps30 rfl (by decide +kernel) (by simp) rfl rfl fun G hp => ?_
  refine goR (r := ?_); and_intros <;> intros <;> try exact True.intro
  refine K.call ?_
  refine WpL.callN (l1New_p v l hl) hp handA (.cons rfl (.sc (.sc (.sc .nil))) .nil) rfl rfl (by decide) ?_
  refine K.call ?_
  refine WpL.callE (hs := [0]) (l24Text_x v l (newD l) hn) hp handA handOA rfl (fun _ => rfl) (fun _ => .cons rfl (.sc (.sc (.sc .nil))) .nil) (fun _ => outA) rfl rfl (fun _ => rfl) (fun _ => rfl) (by decide) (fun y hy => ?_)
  refine go (r := ?_); and_intros <;> intros <;> try exact True.intro
  exact FinX.fin (y := y.2) (FinG.oI [] rfl (ResV.tmp rfl) (.keep rfl rfl rfl .nil) .nil rfl rfl) hy.2
theorem FnFastParse_p (v : Value) (l : List Int) (hl : l.length ≤ 9223372036854775807) : FnP Try.prog 5 [.sc v] [] [v] [CodA l] [] [] (B true) := by
  by_cases hb : (l.length : Int) > 1048576
  · refine FnP.of_body tabOk Try.func5 Try.ntmps5 rfl (by decide +kernel) (by simp) rfl rfl rfl fun G hp => ?_
    refine goR (r := ?_); and_intros <;> intros <;> try exact True.intro
    refine WpL.pin (d := 13) hp rfl ?_
    refine go (r := ?_); and_intros <;> intros <;> try exact True.intro
    exact FinG.oI [] rfl (ResV.tmp rfl) (.keep rfl rfl rfl .nil) .nil rfl rfl
  · have hl2 : l.length ≤ 1048576 := by omega
    refine FnP.of_body tabOk Try.func5 Try.ntmps5 rfl (by decide +kernel) (by simp) rfl rfl rfl fun G hp => ?_
    refine goR (r := ?_); and_intros <;> intros <;> try exact True.intro
    refine WpL.pin (d := 13) hp rfl ?_
    refine goR (r := ?_); and_intros <;> intros <;> try exact True.intro
    all_goals first | contradiction | omega | skip
    refine K.call ?_
    refine WpL.callE (hs := []) (DrawFastParse_x v l hl2) hp handA handOA rfl (fun _ => rfl) (fun _ => .nil) (fun _ => outA) rfl rfl (fun _ => rfl) (fun _ => rfl) (by decide) (fun p hy => ?_)
    have hs := prS_sz p
    have hs1 := hs.1
    have hs2 := hs.2.1
    have hs3 := hs.2.2.2
    refine go (r := ?_); and_intros <;> intros <;> try exact True.intro
    all_goals first | contradiction | omega | exact hs3 | skip
    simp only [decide_true]
    exact FinG.oI [] rfl (ResV.tmp rfl) (.keep rfl rfl rfl .nil) .nil rfl rfl
theorem FnFastParse_c (l : List Int) (hl : l.length ≤ 9223372036854775807) : Fn 5 [CodA l] [] (B true) := FnC.of_pin fun v => FnFastParse_p v l hl
end Go.Proofs.Ytgkeopmihhcbiaa

/- From a contract to the form that a row's shell asks for. No condition. -/
namespace Go.Abs
open Go Go.RowKit
set_option linter.unusedVariables false

theorem FnC.walk {P : Program} {f : FuncId} {args : List AV} {N : List AObj} {x : Value} (hc : FnC P f args N (.sc x)) {w : World} {S : Nat → Prop} {vs : List Value} (hS : ∀ b, S b → b < w.heap.size)
    (hl : LRel S w (fun _ => none) [] args vs []) : Calls P f vs.toArray w fun e w' => e = .returned x ∧ Below w.heap.size w w' := by
  refine (hc.2 w S vs hS hl).mono fun e w' h => ?_
  obtain ⟨v, S', ι, F, rfl, _, _, _, _, _, hv, hk⟩ := h
  cases hv with
  | sc r => exact ⟨rfl, hk.os, hk.tape, hk.output, hk.size, fun b hb => hk.block b hb (fun h => h)⟩

theorem spot_none {w : World} {x : Addr} {n : Nat} (h : 0 < n) (hc : ∀ i, i < n → ∃ v, w.cell? (x.add i) = some v) : x.spot = none := by
  obtain ⟨v, hv⟩ := hc 0 h
  simpa [Addr.add] using World.cell?_spot hv

end Go.Abs

/- Reading what came in: a value of a plain shape (numbers, bools, strings, structs and slices of them) as an abstract value. No condition. -/
namespace Go.Abs
open Go Go.RowKit
set_option linter.unusedVariables false

inductive Sp where
  | int (k : IntKind) | bool | str | struct (fs : List Sp) | slice (k : Nat) (e : Sp)

mutual
inductive SpOk (P : Program) : TypeId → Sp → Prop
  | int {t k} : P.underlying t = some (.int k) → SpOk P t (.int k)
  | bool {t} : P.underlying t = some .bool → SpOk P t .bool
  | str {t} : P.underlying t = some .string → SpOk P t .str
  | struct {t fs sps n} : P.underlying t = some (.struct fs) → P.cellsOf t = n → SpF P 0 fs.toList sps n → SpOk P t (.struct sps)
  | slice {t e k sp} : P.underlying t = some (.slice e) → P.cellsOf e = k → 0 < k → SpOk P e sp → SpOk P t (.slice k sp)
inductive SpF (P : Program) : Nat → List Field → List Sp → Nat → Prop
  | nil {k} : SpF P k [] [] k
  | cons {k c f fs sp sps n} : f.offset = k → P.cellsOf f.type = c → SpOk P f.type sp → SpF P (k + c) fs sps n → SpF P k (f :: fs) (sp :: sps) n
end

mutual
inductive Rd : Sp → List AV → Prop
  | int {k n} : (Lit.int k n).wf = true → Rd (.int k) [.sc (.int k n)]
  | bool {b} : Rd .bool [.sc (.bool b)]
  | str {p : List UInt8} : p.length ≤ maxLen → Rd .str [.sc (.string ⟨p.toArray⟩)]
  | struct {sps cs} : RdF sps cs → Rd (.struct sps) cs
  | slice {sp len k cs} : len ≤ maxLen → RdN sp len k cs → Rd (.slice k sp) [.imm k len cs]
inductive RdF : List Sp → List AV → Prop
  | nil : RdF [] []
  | cons {sp sps a b} : Rd sp a → RdF sps b → RdF (sp :: sps) (a ++ b)
inductive RdN : Sp → Nat → Nat → List AV → Prop
  | nil {sp k} : RdN sp 0 k []
  | snoc {sp n k a b} : RdN sp n k a → Rd sp b → b.length = k → RdN sp (n + 1) k (a ++ b)
end

theorem RdN.len {sp n k cs} (h : RdN sp n k cs) : cs.length = n * k := by
  induction n generalizing cs with
  | zero => cases h; simp
  | succ n ih => cases h with | snoc h1 h2 h3 => rw [List.length_append, ih h1, h3, Nat.add_mul]; omega

section
variable {H : Type} {enc : TypeId × Value → H} {P : Program} {w : World} {base : Nat} {spare : Nat → Bool} {held : Bool}

theorem read {S : Nat → Prop} {ι : Nat → Spot} (hS : ∀ b, b < w.heap.size → S b) : ∀ (fuel : Nat) (t : TypeId) (sp : Sp) (cs : List Value) (x : DataW H × List MemPlace), SpOk P t sp →
    DataW.trod enc P w base spare held fuel t cs = some x → ∃ ds, Rd sp ds ∧ ∀ O, LRel S w ι O ds cs [] := by
  intro fuel
  induction fuel with
  | zero => intro t sp cs x _ h; simp [DataW.trod] at h
  | succ fuel ih =>
    intro t sp cs x hsp h
    cases hsp with
    | int ht =>
      obtain ⟨n, rfl, _, hw⟩ := DataW.trod_int ht h
      exact ⟨_, .int hw, fun O => .sc .nil⟩
    | bool ht =>
      obtain ⟨b, rfl, _⟩ := DataW.trod_bool ht h
      exact ⟨_, .bool, fun O => .sc .nil⟩
    | str ht =>
      obtain ⟨s, rfl, _, hs⟩ := DataW.trod_string ht h
      exact ⟨[.sc (.string ⟨s.data.toList.toArray⟩)], .str (by have : s.data.toList.length = s.size := rfl; omega), fun O => .sc .nil⟩
    | @struct _ fs sps n ht hn hf =>
      obtain ⟨xs, m, hm, _, hlen, hxl, hel⟩ := DataW.trod_struct ht h
      obtain rfl : fuel = m := by omega
      have key : ∀ (fl : List Field) (k : Nat) (sps : List Sp), SpF P k fl sps n → (∀ f ∈ fl, ∃ x, DataW.trod enc P w base spare held fuel f.type ((cs.drop f.offset).take (P.cellsOf f.type)) = some x) →
          k ≤ n → ∃ ds, RdF sps ds ∧ ∀ O, LRel S w ι O ds (cs.drop k) [] := by
        intro fl
        induction fl with
        | nil =>
          intro k sps hF _ _
          cases hF
          exact ⟨[], .nil, fun O => by rw [List.drop_eq_nil_of_le (by omega)]; exact .nil⟩
        | cons f fl ihf =>
          intro k sps hF hx hk
          cases hF with
          | cons h1 h2 h3 h4 =>
            obtain ⟨y, hy⟩ := hx f (by simp)
            obtain ⟨d1, r1, l1⟩ := ih _ _ _ _ h3 hy
            have hkn : ∀ {k fl sps}, SpF P k fl sps n → k ≤ n := by
              intro k fl
              induction fl generalizing k with
              | nil => intro sps h; cases h; exact Nat.le_refl _
              | cons f fl ih2 => intro sps h; cases h with | cons _ _ _ h => have := ih2 h; omega
            obtain ⟨d2, r2, l2⟩ := ihf _ _ h4 (fun g hg => hx g (by simp [hg])) (hkn h4)
            refine ⟨d1 ++ d2, .cons r1 r2, fun O => ?_⟩
            have e : cs.drop k = (cs.drop f.offset).take (P.cellsOf f.type) ++ cs.drop (k + P.cellsOf f.type) := by
              rw [h1, ← List.drop_drop, List.take_append_drop]
            rw [e, h2]
            rw [h2] at l1
            simpa using (l1 O).append (l2 O)
      obtain ⟨ds, r, l⟩ := key fs.toList 0 sps hf (fun f hf' => by
        obtain ⟨i, hi⟩ := List.getElem?_of_mem hf'
        have hi' : fs[i]? = some f := by simpa using hi
        have := hel i f hi'
        have hlt : i < xs.length := by have := (Array.getElem?_eq_some_iff.1 hi').1; omega
        exact ⟨xs[i], by rw [this]; simp [hlt]⟩) (Nat.zero_le _)
      exact ⟨ds, .struct r, fun O => by simpa using l O⟩
    | @slice _ e k sp ht hk hk0 he =>
      rcases DataW.trod_slice ht h with ⟨rfl, _⟩ | ⟨a, len, cap, elems, rest, m, hm, rfl, _, hb, hl, hc, hlen, hel, _, _⟩
      · exact ⟨[.imm k 0 []], .slice (by simp) .nil, fun O => .imm0 (by simp) .nil⟩
      obtain rfl : fuel = m := by omega
      have cells : ∀ j, j ≤ len → ∃ ds us, RdN sp j k ds ∧ us.length = j * k ∧ (∀ i, i < us.length → w.cell? (a.add i) = us[i]?) ∧ LRel S w ι [] ds us [] := by
        intro j
        induction j with
        | zero => intro _; exact ⟨[], [], .nil, by simp, by simp, .nil⟩
        | succ j ihj =>
          intro hj
          obtain ⟨ds, us, h1, h2, h3, h4⟩ := ihj (by omega)
          have hx := hel j (by omega)
          have hlt : j < elems.length := by omega
          rw [List.getElem?_eq_getElem hlt, Option.bind_eq_some_iff, hk] at hx
          obtain ⟨us2, hu, ht2⟩ := hx
          obtain ⟨d2, r2, l2⟩ := ih _ _ _ _ he ht2
          obtain ⟨_, c2, c3⟩ := World.cells?_some hu
          have l2' := l2 []
          have hd2 : d2.length = k := by rw [l2'.len, c2]
          refine ⟨ds ++ d2, us ++ us2, .snoc h1 r2 hd2, by rw [List.length_append, h2, c2, Nat.add_mul]; omega, fun i hi => ?_, by simpa using h4.append l2'⟩
          rw [List.length_append] at hi
          by_cases hlt2 : i < us.length
          · rw [h3 i hlt2, List.getElem?_append_left hlt2]
          · have hadd : a.add i = (a.add (j * k)).add (i - j * k) := by
              unfold Addr.add
              by_cases hz : j * k = 0
              · simp [hz]
              · by_cases hz2 : i - j * k = 0
                · have : i = j * k := by omega
                  simp [this]
                · rw [if_neg (by omega), if_neg hz, if_neg hz2]
                  simp only [Addr.mk.injEq, true_and, and_true]
                  omega
            rw [hadd, c3 (i - j * k) (by omega), List.getElem?_append_right (by omega), h2]
      obtain ⟨ds, us, h1, h2, h3, h4⟩ := cells len (Nat.le_refl _)
      refine ⟨[.imm k len ds], .slice (by omega) h1, fun O => ?_⟩
      by_cases h0 : len = 0
      · subst h0
        cases h1
        exact .imm0 ⟨by simp, hc⟩ .nil
      · have hul : 0 < us.length := by rw [h2]; exact Nat.mul_pos (by omega) hk0
        have hsp := spot_none (w := w) (x := a) (n := us.length) hul fun i hi => ⟨us[i], by rw [h3 i hi]; simp [hi]⟩
        obtain ⟨b, o, q⟩ := a
        simp only at hsp
        subst hsp
        have hcell : ∀ i, i < us.length → w.cell? ⟨b, o + i, none⟩ = us[i]? := fun i hi => by have := h3 i hi; rwa [addr_add] at this
        refine .imm (us := us) (hS _ ?_) hcell h4 (by rw [h1.len]) hl hc .nil
        by_cases hb' : b < w.heap.size
        · exact hb'
        · have := hcell 0 hul
          simp [World.cell?, Array.getElem?_eq_none (Nat.le_of_not_lt hb'), hul] at this
end
end Go.Abs

/- What a value that came in is: inversions of the readings by shape. No condition. -/
namespace Go.Abs
open Go Go.RowKit
set_option linter.unusedVariables false

abbrev i64 (n : Int) : Prop := -9223372036854775808 ≤ n ∧ n ≤ 9223372036854775807
abbrev spI : Sp := .int .i64
abbrev spIs : Sp := .slice 1 (.int .i64)
theorem lrel_cons0 {S : Nat → Prop} {w : World} {ι : Nat → Spot} {O : List AObj} {V : AV} {v : Value} {cs : List AV} {vs : List Value} (h1 : VRel S w ι O V v []) (h2 : LRel S w ι O cs vs []) : LRel S w ι O (V :: cs) (v :: vs) [] := LRel.cons h1 h2
end Go.Abs

/- What a value that came in is, further: options, headers, blocks, streams, neighbours, caches, entries, bytes. No condition. -/
namespace Go.Proofs.Ytgkeopmihhcbiaa
open Go Go.Abs Go.RowKit
set_option linter.unusedVariables false

@[irreducible] def WfI (l : List Int) : Prop := ∀ x ∈ l, i64 x
abbrev spBs : Sp := .slice 1 .bool
abbrev spBk : Sp := .struct [spI, spIs]
abbrev spMb : Sp := .struct [.bool, .slice 2 spBk]
abbrev spHd : Sp := .struct [spI, spI, spI, .bool, .bool, spIs]
def CBk (b : Blok) : Prop := b.2.length ≤ 9223372036854775807 ∧ i64 b.1 ∧ WfI b.2
def CMb (m : Mbk) : Prop := m.2.length ≤ 9223372036854775807 ∧ ∀ b ∈ m.2, CBk b
@[irreducible] def WfM (M : List Mbk) : Prop := ∀ m ∈ M, ∀ b ∈ m.2, i64 b.1 ∧ WfI b.2
def CPr (a : Int × Int) : Prop := i64 a.1 ∧ i64 a.2
@[irreducible] def WfP (l : List (Int × Int)) : Prop := ∀ a ∈ l, CPr a
theorem rdN_u8s {n : Nat} {cs : List AV} (h : RdN (.int .u8) n 1 cs) : ∃ xs : List Int, cs = u8s xs ∧ xs.length = n ∧ ∀ x ∈ xs, 0 ≤ x ∧ x ≤ 255 := by
  induction n generalizing cs with
  | zero => cases h; exact ⟨[], rfl, rfl, by simp⟩
  | succ n ih =>
    cases h with
    | snoc h1 h2 h3 =>
      obtain ⟨xs, rfl, h5, h6⟩ := ih h1
      cases h2 with
      | @int k m hw =>
        refine ⟨xs ++ [m], by simp [u8s], by simp [h5], fun x hx => ?_⟩
        rcases List.mem_append.1 hx with hx | hx
        · exact h6 x hx
        · have : x = m := by simpa using hx
          subst this
          simpa [Lit.wf, show IntKind.u8.min = 0 from rfl, show IntKind.u8.max = 255 from rfl] using hw
theorem rd_u8s {ds : List AV} (h : Rd (.slice 1 (.int .u8)) ds) : ∃ xs : List Int, ds = [.imm 1 xs.length (u8s xs)] ∧ xs.length ≤ 9223372036854775807 ∧ ∀ x ∈ xs, 0 ≤ x ∧ x ≤ 255 := by
  cases h with
  | slice hl hn =>
    obtain ⟨xs, rfl, h1, h2⟩ := rdN_u8s hn
    subst h1
    exact ⟨xs, rfl, by simp only [maxLen] at hl; omega, h2⟩
end Go.Proofs.Ytgkeopmihhcbiaa
