/- Proved in this text: lemmas and contracts of functions that the claim uses (parts: Kraft, Sym, Draw3, AbsXn, Draw4, Draw5, MatL, Mat, DefsQ, Mat2, Mat3, Mat4, Pred, Scan, Quant, Scn, Lw, Lev, Stat, Sid, ResL, LevP). No condition. -/
import Derived.Test.YtpokokcgoebbhaaPwM9
import Derived.Test.YtpokokcgoebbhaaPwM5
import Derived.Test.YtpokokcgoebbhaaPwM6

/- The codes of a whole prefix code: each fits its length, no code begins another one, and all words of seven bits begin with one. No condition. -/
namespace Go.Proofs.Ytpokokcgoebbhaa
open Go Go.Abs
set_option linter.unusedVariables false
set_option linter.unusedSimpArgs false

def Dn (l : List Int) (w : Int) (i m : Nat) : Prop := (1 ≤ l.getD m 0 ∧ l.getD m 0 < w) ∨ (l.getD m 0 = w ∧ m < i)
def hit (c l : List Int) (m : Nat) (v : Int) : Prop := c.getD m 0 * cw (l.getD m 0) ≤ v ∧ v < (c.getD m 0 + 1) * cw (l.getD m 0)
structure J (l : List Int) (w p : Int) (i : Nat) (s : List Int × Int) : Prop where
  len : s.1.length = l.length
  lo : 0 ≤ s.2
  cod : ∀ m, m < l.length → Dn l w i m → 0 ≤ s.1.getD m 0 ∧ (s.1.getD m 0 + 1) * cw (l.getD m 0) ≤ s.2 * p
  cov : ∀ v, 0 ≤ v → v < s.2 * p → ∃ m, m < l.length ∧ Dn l w i m ∧ hit s.1 l m v
  uni : ∀ m m' v, m < l.length → m' < l.length → Dn l w i m → Dn l w i m' → hit s.1 l m v → hit s.1 l m' v → m = m'

theorem getD_set (c : List Int) (i m : Nat) (v : Int) (h : i < c.length) : (c.set i v).getD m 0 = if m = i then v else c.getD m 0 := by
  rw [List.getD_eq_getElem?_getD, List.getElem?_set]
  by_cases e : i = m
  · subst e; simp [h]
  · have : ¬ m = i := fun h => e h.symm
    simp [e, this]
theorem J.step {l : List Int} {w p : Int} {i : Nat} {s : List Int × Int} (h : J l w p i s) (hi : i < l.length) (hp : cw w = p) (hp0 : 0 < p) (hw : 1 ≤ w) :
    J l w p (i + 1) (if l.getD i 0 = w then (s.1.set i s.2, s.2 + 1) else s) := by
  by_cases e : l.getD i 0 = w
  · rw [if_pos e]
    have hl := h.len
    have hmul : (s.2 + 1) * p = s.2 * p + p := by rw [Int.add_mul, Int.one_mul]
    have hD : ∀ m, Dn l w (i + 1) m ↔ Dn l w i m ∨ m = i := by
      intro m; unfold Dn; constructor
      · rintro (h | ⟨h1, h2⟩)
        · exact .inl (.inl h)
        · by_cases hm : m = i
          · exact .inr hm
          · exact .inl (.inr ⟨h1, by omega⟩)
      · rintro ((h | ⟨h1, h2⟩) | rfl)
        · exact .inl h
        · exact .inr ⟨h1, by omega⟩
        · exact .inr ⟨e, by omega⟩
    have hne : ∀ m, Dn l w i m → m ≠ i := by
      rintro m (h | ⟨_, h⟩) rfl
      · omega
      · omega
    have hg : ∀ m, (s.1.set i s.2).getD m 0 = if m = i then s.2 else s.1.getD m 0 := fun m => getD_set s.1 i m s.2 (by omega)
    have hhit : ∀ m v, m ≠ i → (hit (s.1.set i s.2) l m v ↔ hit s.1 l m v) := by intro m v hm; unfold hit; rw [hg, if_neg hm]
    have hhi : ∀ v, hit (s.1.set i s.2) l i v ↔ s.2 * p ≤ v ∧ v < s.2 * p + p := by intro v; unfold hit; rw [hg, if_pos rfl, e, hp, hmul]
    refine ⟨by simp [hl], by have := h.lo; simp only; omega, fun m hm hd => ?_, fun v h0 hv => ?_, fun m m' v hm hm' hd hd' h1 h2 => ?_⟩
    · show 0 ≤ (s.1.set i s.2).getD m 0 ∧ ((s.1.set i s.2).getD m 0 + 1) * _ ≤ (s.2 + 1) * p
      rw [hg, hmul]
      rcases (hD m).1 hd with hd | rfl
      · rw [if_neg (hne m hd)]; have := h.cod m hm hd; omega
      · rw [if_pos rfl, e, hp, hmul]; have := h.lo; omega
    · have hv : v < (s.2 + 1) * p := hv
      rw [hmul] at hv
      by_cases hlt : v < s.2 * p
      · obtain ⟨m, h1, h2, h3⟩ := h.cov v h0 hlt
        exact ⟨m, h1, (hD m).2 (.inl h2), (hhit m v (hne m h2)).2 h3⟩
      · exact ⟨i, hi, (hD i).2 (.inr rfl), (hhi v).2 ⟨by omega, hv⟩⟩
    · rcases (hD m).1 hd with d1 | rfl <;> rcases (hD m').1 hd' with d2 | e2
      · exact h.uni m m' v hm hm' d1 d2 ((hhit m v (hne m d1)).1 h1) ((hhit m' v (hne m' d2)).1 h2)
      · subst e2
        have a := (hhit m v (hne m d1)).1 h1
        have b := (hhi v).1 h2
        have c := h.cod m hm d1
        unfold hit at a; omega
      · have a := (hhit m' v (hne m' d2)).1 h2
        have b := (hhi v).1 h1
        have c := h.cod m' hm' d2
        unfold hit at a; omega
      · exact e2.symm
  · rw [if_neg e]
    have hD : ∀ m, Dn l w (i + 1) m ↔ Dn l w i m := by
      intro m; unfold Dn; constructor
      · rintro (h | ⟨h1, h2⟩)
        · exact .inl h
        · refine .inr ⟨h1, ?_⟩
          have : m ≠ i := by rintro rfl; exact e h1
          omega
      · rintro (h | ⟨h1, h2⟩)
        · exact .inl h
        · exact .inr ⟨h1, by omega⟩
    exact ⟨h.len, h.lo, fun m hm hd => h.cod m hm ((hD m).1 hd), fun v h0 hv => by
      obtain ⟨m, h1, h2, h3⟩ := h.cov v h0 hv
      exact ⟨m, h1, (hD m).2 h2, h3⟩, fun m m' v hm hm' hd hd' => h.uni m m' v hm hm' ((hD m).1 hd) ((hD m').1 hd')⟩
theorem J.level {l : List Int} {w p q : Int} {s : List Int × Int} (h : J l w p l.length s) (hpq : p = 2 * q) (hw : 1 ≤ w) : J l (w + 1) q 0 (s.1, s.2 * 2) := by
  have e : s.2 * 2 * q = s.2 * p := by rw [hpq, Int.mul_assoc]
  have hD : ∀ m, m < l.length → (Dn l (w + 1) 0 m ↔ Dn l w l.length m) := by
    intro m hm; unfold Dn; constructor
    · rintro (h | ⟨h1, h2⟩)
      · by_cases hw : l.getD m 0 = w
        · exact .inr ⟨hw, hm⟩
        · exact .inl (by omega)
      · omega
    · rintro (h | ⟨h1, h2⟩)
      · exact .inl (by omega)
      · exact .inl (by omega)
  refine ⟨h.len, ?_, fun m hm hd => ?_, fun v h0 hv => ?_, fun m m' v hm hm' hd hd' => h.uni m m' v hm hm' ((hD m hm).1 hd) ((hD m' hm').1 hd')⟩
  · show 0 ≤ s.2 * 2
    have := h.lo; omega
  · show 0 ≤ s.1.getD m 0 ∧ _ ≤ s.2 * 2 * q
    rw [e]; exact h.cod m hm ((hD m hm).1 hd)
  · have hv : v < s.2 * 2 * q := hv
    rw [e] at hv
    obtain ⟨m, h1, h2, h3⟩ := h.cov v h0 hv
    exact ⟨m, h1, (hD m h1).2 h2, h3⟩
theorem J.inn {l : List Int} {w p : Int} {s : List Int × Int} (h : J l w p 0 s) (hp : cw w = p) (hp0 : 0 < p) (hw : 1 ≤ w) : ∀ i, i ≤ l.length → J l w p i (cIn w l i s)
  | 0, _ => h
  | i + 1, hi => by rw [cIn]; exact J.step (J.inn h hp hp0 hw i (by omega)) (by omega) hp hp0 hw
theorem J7 (l : List Int) : J l 7 1 l.length (cOut l 7) := by
  have j0 : J l 1 64 0 ((cOut l 0).1, (cOut l 0).2 * 2) := by
    refine ⟨by simp [cOut], by simp [cOut], fun m hm hd => ?_, fun v h0 hv => ?_, fun m m' v hm hm' hd => ?_⟩
    · unfold Dn at hd; omega
    · have : v < 0 := by simpa [cOut] using hv
      omega
    · unfold Dn at hd; omega
  have j1 := (J.inn j0 (by decide) (by decide) (by decide) l.length (Nat.le_refl _)).level (q := 32) (by decide) (by decide)
  have j2 := (J.inn j1 (by decide) (by decide) (by decide) l.length (Nat.le_refl _)).level (q := 16) (by decide) (by decide)
  have j3 := (J.inn j2 (by decide) (by decide) (by decide) l.length (Nat.le_refl _)).level (q := 8) (by decide) (by decide)
  have j4 := (J.inn j3 (by decide) (by decide) (by decide) l.length (Nat.le_refl _)).level (q := 4) (by decide) (by decide)
  have j5 := (J.inn j4 (by decide) (by decide) (by decide) l.length (Nat.le_refl _)).level (q := 2) (by decide) (by decide)
  have j6 := (J.inn j5 (by decide) (by decide) (by decide) l.length (Nat.le_refl _)).level (q := 1) (by decide) (by decide)
  exact J.inn j6 (by decide) (by decide) (by decide) l.length (Nat.le_refl _)
theorem cIn_cnt (w : Int) (l : List Int) (s : List Int × Int) : ∀ i, i ≤ l.length → (cIn w l i s).2 = s.2 + ((l.take i).count w : Nat)
  | 0, _ => by simp [cIn]
  | i + 1, hi => by
    have ih := cIn_cnt w l s i (by omega)
    rw [cIn, List.take_succ_eq_append_getElem (by omega), List.count_append]
    have e : l.getD i 0 = l[i] := by simp [show i < l.length by omega]
    rw [e]
    by_cases h : l[i] = w
    · rw [if_pos h]; simp only [h, List.count_singleton_self]; omega
    · rw [if_neg h]; simp only [List.count_singleton, beq_iff_eq, h, if_false]; omega
theorem csum_cnt (l : List Int) (h : In l 0 7) : csum l = 64 * (l.count 1 : Nat) + 32 * (l.count 2 : Nat) + 16 * (l.count 3 : Nat) + 8 * (l.count 4 : Nat) + 4 * (l.count 5 : Nat) + 2 * (l.count 6 : Nat) + (l.count 7 : Nat) := by
  induction l with
  | nil => simp [csum]
  | cons x l ih =>
    have hx : 0 ≤ x ∧ x ≤ 7 := by unfold In at h; exact h x (by simp)
    have ih := ih (by unfold In at *; exact fun v hv => h v (List.mem_cons_of_mem _ hv))
    have hc : csum (x :: l) = cw x + csum l := by unfold csum; simp
    have key : ∀ k : Fin 8, cw (k.val : Int) + csum l = 64 * ((((k.val : Int) :: l).count 1 : Nat) : Int) + 32 * (((k.val : Int) :: l).count 2 : Nat) + 16 * (((k.val : Int) :: l).count 3 : Nat) + 8 * (((k.val : Int) :: l).count 4 : Nat) + 4 * (((k.val : Int) :: l).count 5 : Nat) + 2 * (((k.val : Int) :: l).count 6 : Nat) + (((k.val : Int) :: l).count 7 : Nat) := by
      have c0 : cw 0 = 0 := by decide
      have c1 : cw 1 = 64 := by decide
      have c2 : cw 2 = 32 := by decide
      have c3 : cw 3 = 16 := by decide
      have c4 : cw 4 = 8 := by decide
      have c5 : cw 5 = 4 := by decide
      have c6 : cw 6 = 2 := by decide
      have c7 : cw 7 = 1 := by decide
      rintro ⟨k, hk⟩
      rcases (by omega : k = 0 ∨ k = 1 ∨ k = 2 ∨ k = 3 ∨ k = 4 ∨ k = 5 ∨ k = 6 ∨ k = 7) with rfl | rfl | rfl | rfl | rfl | rfl | rfl | rfl <;> simp [List.count_cons, c0, c1, c2, c3, c4, c5, c6, c7] <;> omega
    obtain ⟨k, rfl⟩ : ∃ k : Nat, x = k := ⟨x.toNat, by omega⟩
    rw [hc]; exact key ⟨k, by omega⟩
theorem next7 (l : List Int) (h : In l 0 7) : (cOut l 7).2 = csum l := by
  have e : ∀ w, (cOut l (w + 1)).2 = (cOut l w).2 * 2 + (l.count ((w : Int) + 1) : Nat) := by
    intro w; rw [cOut, cIn_cnt _ _ _ _ (Nat.le_refl _), List.take_length]
  have e1 := e 0; have e2 := e 1; have e3 := e 2; have e4 := e 3; have e5 := e 4; have e6 := e 5; have e7 := e 6
  have e0 : (cOut l 0).2 = 0 := rfl
  rw [csum_cnt l h]
  simp only [Nat.reduceAdd, Int.natCast_zero, Int.reduceAdd, Int.zero_add] at e1 e2 e3 e4 e5 e6 e7
  simp only [show ((1 : Nat) : Int) + 1 = 2 from rfl, show ((2 : Nat) : Int) + 1 = 3 from rfl, show ((3 : Nat) : Int) + 1 = 4 from rfl, show ((4 : Nat) : Int) + 1 = 5 from rfl, show ((5 : Nat) : Int) + 1 = 6 from rfl, show ((6 : Nat) : Int) + 1 = 7 from rfl] at e1 e2 e3 e4 e5 e6 e7
  omega
/-! What is wanted of it. -/
theorem code_in {l : List Int} (h : CodeOk l) {m : Nat} (hm : m < 6) : 0 ≤ l.getD m 0 ∧ l.getD m 0 ≤ 7 := by
  have h6 := h.2.1
  exact in_get h.1 (by omega)
theorem code_fit {l : List Int} (h : CodeOk l) {m : Nat} (hm : m < 6) (h1 : l.getD m 0 ≠ 0) : 0 ≤ (codes l).getD m 0 ∧ ((codes l).getD m 0 + 1) * cw (l.getD m 0) ≤ 128 := by
  have h6 := h.2.1
  have hb := code_in h hm
  have := (J7 l).cod m (by omega) (by unfold Dn; omega)
  rw [next7 l h.1, h.2.2] at this
  simpa [codes] using this
theorem code_lt {l : List Int} (h : CodeOk l) {m : Nat} (hm : m < 6) (h1 : l.getD m 0 ≠ 0) : (codes l).getD m 0 < 2 ^ (l.getD m 0).toNat := by
  have hb := code_in h hm
  have hf := (code_fit h hm h1).2
  generalize (codes l).getD m 0 = c at *
  generalize l.getD m 0 = n at *
  have key : ∀ k : Fin 8, k.val ≠ 0 → (c + 1) * cw (k.val : Int) ≤ 128 → c < 2 ^ ((k.val : Int)).toNat := by
    rintro ⟨k, hk⟩ h0 hc
    rcases (by omega : k = 0 ∨ k = 1 ∨ k = 2 ∨ k = 3 ∨ k = 4 ∨ k = 5 ∨ k = 6 ∨ k = 7) with rfl | rfl | rfl | rfl | rfl | rfl | rfl | rfl
    · exact absurd rfl h0
    all_goals simp [cw] at hc ⊢
    all_goals omega
  obtain ⟨k, rfl⟩ : ∃ k : Nat, n = k := ⟨n.toNat, by omega⟩
  exact key ⟨k, by omega⟩ (fun e => h1 (by simp at e; simp [e])) hf
end Go.Proofs.Ytpokokcgoebbhaa

/- Contracts: the bits of a mode, whether it has a code, which mode a block gets; the law FnExactModeFor. No condition. -/
namespace Go.Proofs.Ytpokokcgoebbhaa
open Go Go.Abs
set_option linter.unusedVariables false
set_option linter.unusedSimpArgs false
set_option maxRecDepth 100000
set_option maxHeartbeats 4000000
attribute [local irreducible] WpA WpL Rnd Blk Abs.Seq Abs.Fin Abs.FinG FnC FnG Only

def HasC (l : List Int) (m : Int) : Prop := CodeOk l ∧ (0 ≤ m ∧ m ≤ 5) ∧ l.getD m.toNat 0 ≠ 0
instance (l : List Int) (m : Int) : Decidable (HasC l m) := by unfold HasC; infer_instance
def symL (l : List Int) (m : Int) : List Int := if HasC l m then bitsL ((codes l).getD m.toNat 0) (l.getD m.toNat 0) else []
theorem sym_fit {l : List Int} {m : Int} (h : HasC l m) : (1 ≤ l.getD m.toNat 0 ∧ l.getD m.toNat 0 ≤ 7) ∧ 0 ≤ (codes l).getD m.toNat 0 ∧ (codes l).getD m.toNat 0 ≤ 127 ∧ bitOk ((codes l).getD m.toNat 0) (l.getD m.toNat 0) := by
  obtain ⟨h1, h2, h3⟩ := h
  have a := code_in h1 (m := m.toNat) (by omega)
  have b := code_fit h1 (m := m.toNat) (by omega) h3
  have c := code_lt h1 (m := m.toNat) (by omega) h3
  have d : (codes l).getD m.toNat 0 ≤ 127 := by
    have : (2 : Int) ^ (l.getD m.toNat 0).toNat ≤ 2 ^ 7 := by
      have := Nat.pow_le_pow_right (n := 2) (by decide) (show (l.getD m.toNat 0).toNat ≤ 7 by omega)
      exact_mod_cast this
    omega
  exact ⟨by omega, b.1, d, by omega, b.1, Int.ediv_eq_zero_of_lt b.1 c⟩
theorem symL_len (l : List Int) (m : Int) : ((symL l m).length : Int) = if HasC l m then l.getD m.toNat 0 else 0 := by
  unfold symL
  split
  · rename_i h
    obtain ⟨h1, h2, h3, h4⟩ := sym_fit h
    rw [bitsL, if_pos h4, bitsR_len]; omega
  · rfl
theorem symL_pos (l : List Int) (m : Int) : 0 < (symL l m).length ↔ HasC l m := by
  have := symL_len l m
  split at this
  · rename_i h; have := (sym_fit h).1; constructor <;> intro _ <;> first | assumption | omega
  · rename_i h; constructor
    · intro h'; omega
    · intro h'; exact absurd h' h
instance SymBits_s : Con 91 (∀ (l : List Int) (m : Int), l.length ≤ 1099511627776 → Fn 91 [IL l, I m] [XI (symL l m)] (.own 0 0 0 (symL l m).length)) := ⟨fun l m hl => by
  by_cases h : HasC l m
  · obtain ⟨h1, h2, h3⟩ := id h
    obtain ⟨f1, f2, f3, f4⟩ := sym_fit h
    have h6 := h1.2.1
    have e := codesR_ok l h1
    have h7 : (codesR l).length = 6 := codesR_len l h1
    rw [← e] at f2 f3
    refine FnC.of_body tabOk Try.func91 Try.ntmps91 rfl (by decide +kernel) (by simp) fun G => ?_
    refine go (r := ?_); and_intros <;> intros <;> try exact True.intro
    all_goals first | (exact absurd ‹CodeOk l› ‹¬ CodeOk l›) | (exact absurd h1 (by assumption)) | (exact absurd h2 (by assumption)) | (exact absurd (by assumption) h3) | skip
    · rw [symL, if_pos h, e]
    · rw [symL, if_pos h, e]
  · have e : symL l m = [] := by rw [symL, if_neg h]
    by_cases hc : CodeOk l
    · have h6 := hc.2.1
      have h7 : (codes l).length = 6 := by rw [codes_len, h6]
      by_cases hm : 0 ≤ m ∧ m ≤ 5
      · have h0 : l.getD m.toNat 0 = 0 := Decidable.not_not.1 fun hh => h ⟨hc, hm, hh⟩
        refine FnC.of_body tabOk Try.func91 Try.ntmps91 rfl (by decide +kernel) (by simp) fun G => ?_
        refine go (r := ?_); and_intros <;> intros <;> try exact True.intro
        all_goals first | (rw [e]; done) | (rw [e]; rfl) | skip
      · refine FnC.of_body tabOk Try.func91 Try.ntmps91 rfl (by decide +kernel) (by simp) fun G => ?_
        refine go (r := ?_); and_intros <;> intros <;> try exact True.intro
        all_goals first | (rw [e]; done) | (rw [e]; rfl) | skip
    · refine FnC.of_body tabOk Try.func91 Try.ntmps91 rfl (by decide +kernel) (by simp) fun G => ?_
      refine go (r := ?_); and_intros <;> intros <;> try exact True.intro
      all_goals first | (rw [e]; done) | (rw [e]; rfl) | skip⟩
instance SymBits_c : Con 66 (∀ (l : List Int) (m : Int), l.length ≤ 1099511627776 → Fn 66 [IL l, I m] [XI (symL l m)] (.own 0 0 0 (symL l m).length)) := ⟨fun l m hl => by
  by_cases h : HasC l m
  · obtain ⟨h1, h2, h3⟩ := id h
    obtain ⟨f1, f2, f3, f4⟩ := sym_fit h
    have h6 := h1.2.1
    have h7 : (codes l).length = 6 := by rw [codes_len, h6]
    refine FnC.of_body tabOk Try.func66 Try.ntmps66 rfl (by decide +kernel) (by simp) fun G => ?_
    refine go (r := ?_); and_intros <;> intros <;> try exact True.intro
    all_goals first | (exact absurd ‹CodeOk l› ‹¬ CodeOk l›) | (exact absurd h1 (by assumption)) | (exact absurd h2 (by assumption)) | (exact absurd (by assumption) h3) | skip
    · rw [symL, if_pos h]
    · rw [symL, if_pos h]
  · have e : symL l m = [] := by rw [symL, if_neg h]
    by_cases hc : CodeOk l
    · have h6 := hc.2.1
      have h7 : (codes l).length = 6 := by rw [codes_len, h6]
      by_cases hm : 0 ≤ m ∧ m ≤ 5
      · have h0 : l.getD m.toNat 0 = 0 := Decidable.not_not.1 fun hh => h ⟨hc, hm, hh⟩
        refine FnC.of_body tabOk Try.func66 Try.ntmps66 rfl (by decide +kernel) (by simp) fun G => ?_
        refine go (r := ?_); and_intros <;> intros <;> try exact True.intro
        all_goals first | (rw [e]; done) | (rw [e]; rfl) | skip
      · refine FnC.of_body tabOk Try.func66 Try.ntmps66 rfl (by decide +kernel) (by simp) fun G => ?_
        refine go (r := ?_); and_intros <;> intros <;> try exact True.intro
        all_goals first | (rw [e]; done) | (rw [e]; rfl) | skip
    · refine FnC.of_body tabOk Try.func66 Try.ntmps66 rfl (by decide +kernel) (by simp) fun G => ?_
      refine go (r := ?_); and_intros <;> intros <;> try exact True.intro
      all_goals first | (rw [e]; done) | (rw [e]; rfl) | skip⟩
/-! The first mode with a code. -/
def firstM (l : List Int) : Nat := l.findIdx (fun x => decide (x ≠ 0))
def modeF (q : Int) (l ms : List Int) (k : Int) : Int := if OptOk q l ∧ 0 ≤ k then
  (if ms ≠ [] ∧ HasC l (ms.getD (k % ms.length).toNat 0) then ms.getD (k % ms.length).toNat 0 else firstM l) else -1
abbrev OpO (q : Int) (b d : Bool) (l m : List Int) (e : List Bool) : AObj := ⟨[I q, B b, B d, IL l, IL m, BL e], 0, 0, none⟩
end Go.Proofs.Ytpokokcgoebbhaa

/- What is drawn out of a cursor: options. No condition. -/
namespace Go.Proofs.Ytpokokcgoebbhaa
open Go Go.Abs
set_option linter.unusedVariables false
set_option linter.unusedSimpArgs false
set_option maxRecDepth 100000
set_option maxHeartbeats 4000000
attribute [local irreducible] WpA WpL Rnd Blk Abs.Seq Abs.Fin Abs.FinG FnC FnG FnX FnP FinX Only
attribute [local irreducible] belowD onceD pickD modeD l8D l8AnyD

def modesD (l : List Int) : Nat → Cr × List Int → Cr × List Int
  | 0, s => s
  | n + 1, s => modesD l n ((modeD l s.1).1, s.2 ++ [(modeD l s.1).2])
def onesD (l : List Int) : Nat → Cr × List Bool → Cr × List Bool
  | 0, s => s
  | n + 1, s => onesD l n ((onceD l s.1 2).1, s.2 ++ [(onceD l s.1 2).2])
structure Op6 where
  q : Int
  b : Bool
  d : Bool
  lens : List Int
  ms : List Int
  es : List Bool
abbrev quant7 : List Int := [0, 0, 6, 12, 24, 36, 51]
def optD (l : List Int) (c : Cr) : Cr × Op6 :=
  let q := pickD l c quant7
  let b := onceD l q.1 4
  let d := onceD l b.1 2
  let e := l8D l d.1
  let n := belowD l e.1 5
  let m := modesD l n.2.toNat (n.1, [])
  let k := belowD l m.1 4
  let s := onesD l k.2.toNat (k.1, [])
  (s.1, ⟨q.2, b.2, d.2, e.2, m.2, s.2⟩)
abbrev OpOwn (o : Op6) : AV := .agg [I o.q, B o.b, B o.d, .own 1 0 0 o.lens.length, .own 2 0 0 o.ms.length, .own 3 0 0 o.es.length]
end Go.Proofs.Ytpokokcgoebbhaa

/- Functions that return a pointer to the one thing they made; calls of them. No condition. -/
namespace Go.Abs
open Go
set_option linter.unusedVariables false
set_option linter.unusedSimpArgs false

/-- What stands for a value when its objects lie behind others. -/
structure Moves (k base : Nat) (V W : AV) : Prop where
  rel : ∀ {S S3 : Nat → Prop} {w : World} {ι ι3 : Nat → Spot} {O O3 : List AObj} {x : Value}, (∀ id, k ≤ id → ι3 (id - k + base) = ι id) → (∀ id ob, k ≤ id → O[id]? = some ob → O3[id - k + base]? = some ob) → VRel S w ι O V x [] → VRel S3 w ι3 O3 W x []
theorem Moves.ptr {k base id ep off : Nat} (h : k ≤ id) : Moves k base (.ptr id ep off) (.ptr (id - k + base) ep off) := by
  refine ⟨fun h1 h2 hv => ?_⟩
  cases hv with
  | ptr a b c r => cases r; exact .ptr (h2 _ _ h a) b (fun e => by rw [h1 _ h]; exact c e) .nil
section
variable {P : Program} {n m : Nat} {G : Ctx} {T : List (Nat × AV)} {O : List AObj} {Q : Exit → St → Prop} {ops : Array Oper} {l : List Oper} {tt : TypeId} {pos : String} {after : Array Edge} {tab : List (Nat × Ty)}
theorem callXm_rel {β : Type} {f : FuncId} {xs : List Operand} {As : List AV} {M : List AObj} {MX NX : β → List AObj} {rX rX' : β → AV} {C : β → Prop} {hs : List Nat} {pv : List Value} {pa : List AV} (hc : FnX P f As M pv pa β C MX NX rX) (hp : Pin G pv pa) (hh : Hand O hs (xs.map (av T)) As) (hM : HandO O hs M) (hnd : hs.Nodup) (hlenX : ∀ y, (MX y).length = M.length)
    (hszX : ∀ (y : β) (j : Nat) (a b : AObj), M[j]? = some a → (MX y)[j]? = some b → b.size = a.size) (hMX' : ∀ y, Out (MX y)) (hNX : ∀ y, Out (NX y)) (hreX : ∀ y, Moves M.length O.length (rX y) (rX' y)) {a : Act} {w : World} (hr : Rel n m G ⟨T, O⟩ a w) :
    Calls P f (xs.map a.eval).toArray w fun e w' => ∃ y, C y ∧ ∃ v, e = .returned v ∧ ∃ S ι F, RelAt n m G S ι F ⟨T, newO hs (MX y) 0 O ++ NX y⟩ a w' ∧ VRel S w' ι (newO hs (MX y) 0 O ++ NX y) (rX' y) v [] := by
  obtain ⟨S, ι, F, hr⟩ := hr
  obtain ⟨⟨fn, hf, hb, hnm⟩, hcall⟩ := hc
  obtain ⟨hlM, hatM⟩ := hM.at
  let S2 : Nat → Prop := fun b => b < w.heap.size ∧ ∀ id ∈ hs, b ∉ F id
  let ιM : Nat → Spot := fun j => match hs[j]? with | some id => ι id | none => none
  let FM : Nat → List Nat := fun j => match hs[j]? with | some id => F id | none => []
  have hιM : ∀ (j id : Nat), hs[j]? = some id → ιM j = ι id := fun j id h => by show (match hs[j]? with | some id => ι id | none => none) = _; rw [h]
  have hFM : ∀ (j id : Nat), hs[j]? = some id → FM j = F id := fun j id h => by show (match hs[j]? with | some id => F id | none => []) = _; rw [h]
  have hidl : ∀ (j id : Nat), hs[j]? = some id → id < O.length := fun j id h => by
    have hj : j < M.length := by rw [← hlM]; exact (List.getElem?_eq_some_iff.1 h).1
    obtain ⟨id', ob, e1, e2, _⟩ := hatM j _ (List.getElem?_eq_getElem hj)
    rw [h] at e1; cases e1; exact (List.getElem?_eq_some_iff.1 e2).1
  have hmem : ∀ id ∈ hs, ∃ j, j < M.length ∧ hs[j]? = some id := fun id h => by
    obtain ⟨j, hj, e⟩ := List.getElem_of_mem h
    exact ⟨j, by omega, by rw [List.getElem?_eq_getElem hj, e]⟩
  have hex : ∀ j, j < M.length → ∃ id, hs[j]? = some id := fun j hj => ⟨hs[j], List.getElem?_eq_getElem (by omega)⟩
  have hSS : ∀ b, S b → S2 b := fun b hb => ⟨hr.stable b hb, fun id hid hbf => by
    obtain ⟨j, hj, e⟩ := hmem id hid
    exact (hr.foot id (hidl j id e) b hbf).2.1 hb⟩
  have hOM : ORel S2 w ιM M FM := by
    refine ⟨fun j mb hj => ?_, fun j hj => ?_, fun i j hi hj hij b hb => ?_⟩
    · obtain ⟨id, ob, e1, e2, e3, e4, e5, e6, e7⟩ := hatM j mb hj
      rw [hιM j id e1, hFM j id e1]
      have ho := hr.objs.obj id ob e2
      unfold ObjAt at ho ⊢
      cases hs' : ι id with
      | none => rw [hs'] at ho; rw [← e3]; exact ho
      | some p =>
        obtain ⟨b, k⟩ := p
        rw [hs'] at ho
        obtain ⟨cur', t', fz', f2, q1, q2, q3, q4, q5, q6, q7⟩ := ho
        refine ⟨cur', t', fz', f2, q1, q2, q3, by rw [← e3]; exact q4, q5, fun e he => ?_, ?_⟩
        · rcases e7 with e7 | e7
          · rw [e7] at he; cases he
          · exact q6 e (by rw [← e7]; exact he)
        · rw [← e3]
          exact still_all (by rw [e3]; exact e4) q7 hSS (fun _ _ => rfl) (fun _ _ => rfl)
    · obtain ⟨id, e⟩ := hex j hj
      rw [hFM j id e]; exact hr.objs.nodup id (hidl j id e)
    · obtain ⟨id1, e1⟩ := hex i hi
      obtain ⟨id2, e2⟩ := hex j hj
      rw [hFM i id1 e1] at hb; rw [hFM j id2 e2]
      exact hr.objs.apart id1 id2 (hidl i id1 e1) (hidl j id2 e2) (fun e => hij (nodup_get hnd e1 (e ▸ e2))) b hb
  have hl := hr.evals xs
  obtain ⟨f', hl2, hf'⟩ := hh.rel (S2 := S2) (ιM := ιM) hM hιM hSS hr.objs (fun b h1 h2 => ⟨h1, h2⟩) (fun id hid => by obtain ⟨j, hj, e⟩ := hmem id hid; exact hidl j id e) hl (by simp)
  have hf0 : f' = [] := List.eq_nil_iff_forall_not_mem.2 fun b hb => by simpa using hf' b hb
  subst hf0
  refine (hcall w S2 ιM FM (xs.map a.eval) (fun b h => h.1) hOM (fun j hj b hb => ?_) hl2 (hp.at hr hSS [] (fun _ => none))).mono fun e w' he => ?_
  · obtain ⟨id, e⟩ := hex j hj
    rw [hFM j id e] at hb
    exact ⟨fun h => h.2 id (List.mem_of_getElem? e) hb, (hr.foot id (hidl j id e) b hb).2.2⟩
  obtain ⟨y, hy, v, S', ι', F', rfl, hS1, hS2, hS3, hι', hO', hF', hv, hk⟩ := he
  refine ⟨y, hy, v, rfl, ?_⟩
  have hlen := hlenX y
  have hsz := hszX y
  have hM' := hMX' y
  have hN := hNX y
  have hre := hreX y
  generalize MX y = M' at hlen hsz hM' hO' hF' hv ⊢
  generalize NX y = N at hN hO' hF' hv ⊢
  generalize rX y = r at hre hv
  generalize rX' y = r' at hre ⊢
  have hold : ∀ b, b < w.heap.size → (∀ id ∈ hs, b ∉ F id) → w'.heap[b]? = w.heap[b]? := fun b hb hn => hk.block b hb (by
    rintro ⟨i, hi, hbf⟩
    obtain ⟨id, e⟩ := hex i hi
    rw [hFM i id e] at hbf
    exact hn id (List.mem_of_getElem? e) hbf)
  let S3 : Nat → Prop := fun b => S b ∨ (S' b ∧ w.heap.size ≤ b)
  let ι3 : Nat → Spot := fun i => if i < O.length then ι i else ι' (M.length + (i - O.length))
  let F3 : Nat → List Nat := fun i => if i < O.length then (match findN hs i 0 with | some j => F' j | none => F i) else F' (M.length + (i - O.length))
  let O3 := newO hs M' 0 O ++ N
  have hl3 : (newO hs M' 0 O).length = O.length := newO_len hs M' 0 O
  have hO3lt : ∀ i, i < O.length → O3[i]? = (O[i]?).map (newOb hs M' i) := fun i hi => by
    show (newO hs M' 0 O ++ N)[i]? = _
    rw [List.getElem?_append_left (by omega), newO_at, Nat.zero_add]
  have hO3ge : ∀ i, O.length ≤ i → O3[i]? = N[i - O.length]? := fun i hi => by
    show (newO hs M' 0 O ++ N)[i]? = _
    rw [List.getElem?_append_right (by omega), hl3]
  have hob : ∀ i ob, O[i]? = some ob → (newOb hs M' i ob).ep = ob.ep ∧ (newOb hs M' i ob).size = ob.size := fun i ob h => by
    unfold newOb
    cases hfd : findN hs i 0 with
    | none => exact ⟨rfl, rfl⟩
    | some j =>
      cases hmj : M'[j]? with
      | none => exact ⟨by simp [hmj], by simp [hmj]⟩
      | some mb =>
        obtain ⟨q, rfl, hq⟩ := findN_some hfd
        rw [Nat.zero_add] at hmj
        have hqm : q < M.length := by rw [← hlM]; exact (List.getElem?_eq_some_iff.1 hq).1
        obtain ⟨id', ob', e1, e2, _, _, _, e6, _⟩ := hatM q _ (List.getElem?_eq_getElem hqm)
        rw [hq] at e1; cases e1
        rw [h] at e2; cases e2
        simp only [Nat.zero_add, hmj, true_and]
        exact (hsz q _ _ (List.getElem?_eq_getElem hqm) hmj).trans e6
  have hlat : Later S w ι O S3 w' ι3 O3 := by
    refine ⟨fun b h => .inl h, fun b hb => hold b (hr.stable b hb) (hSS b hb).2, fun id ob h => ?_⟩
    have hlt : id < O.length := (List.getElem?_eq_some_iff.1 h).1
    obtain ⟨h1, h2⟩ := hob id ob h
    exact ⟨newOb hs M' id ob, by rw [hO3lt id hlt, h]; rfl, .inr ⟨h1, h2, by show (if _ then _ else _) = _; rw [if_pos hlt]⟩⟩
  have hF3f : ∀ (i j : Nat), i < O.length → findN hs i 0 = some j → F3 i = F' j := fun i j hi h => by show (if _ then _ else _) = _; rw [if_pos hi, h]
  have hF3n : ∀ (i : Nat), i < O.length → findN hs i 0 = none → F3 i = F i := fun i hi h => by show (if _ then _ else _) = _; rw [if_pos hi, h]
  have hF3g : ∀ (i : Nat), O.length ≤ i → F3 i = F' (M.length + (i - O.length)) := fun i hi => by show (if _ then _ else _) = _; rw [if_neg (by omega)]
  have hlMN : (M' ++ N).length = M.length + N.length := by rw [List.length_append, hlen]
  have hfind : ∀ (i j : Nat), findN hs i 0 = some j → j < M.length ∧ hs[j]? = some i := fun i j h => by
    obtain ⟨q, rfl, hq⟩ := findN_some h
    rw [Nat.zero_add]
    exact ⟨by rw [← hlM]; exact (List.getElem?_eq_some_iff.1 hq).1, hq⟩
  have hl3' : O3.length = O.length + N.length := by show (newO hs M' 0 O ++ N).length = _; rw [List.length_append, hl3]
  -- each place's blocks: where they come from
  have hsrc : ∀ k, k < (M' ++ N).length → ∀ b ∈ F' k, ((∃ id, id ∈ hs ∧ id < O.length ∧ b ∈ F id) ∨ w.heap.size ≤ b) ∧ ¬ S' b ∧ b < w'.heap.size := fun k hk' b hb => by
    obtain ⟨q1, q2, q3⟩ := hF' k hk' b hb
    refine ⟨?_, q2, q3⟩
    rcases q1 with ⟨i, hi, hbf⟩ | q1
    · obtain ⟨id, e⟩ := hex i hi
      rw [hFM i id e] at hbf
      exact .inl ⟨id, List.mem_of_getElem? e, hidl i id e, hbf⟩
    · exact .inr q1
  have hnoS : ∀ k, k < (M' ++ N).length → ∀ b ∈ F' k, (G.M0 b ∨ G.w0.heap.size ≤ b) ∧ ¬ S3 b ∧ b < w'.heap.size := fun k hk' b hb => by
    obtain ⟨q1, q2, q3⟩ := hsrc k hk' b hb
    rcases q1 with ⟨id, hid, hlt, hbf⟩ | q1
    · obtain ⟨p1, p2, p3⟩ := hr.foot id hlt b hbf
      refine ⟨p1, ?_, q3⟩
      rintro (h | ⟨h, _⟩)
      · exact p2 h
      · exact q2 h
    · refine ⟨.inr (by have := hr.keeps.size; omega), ?_, q3⟩
      rintro (h | ⟨h, _⟩)
      · have := hr.stable b h; omega
      · exact q2 h
  have hnotin : ∀ i, i < O.length → findN hs i 0 = none → ∀ b ∈ F i, w'.heap[b]? = w.heap[b]? := fun i hi h b hb => hold b (hr.foot i hi b hb).2.2 fun id hid hbf => by
    obtain ⟨j, hj, e⟩ := hmem id hid
    have hne : i ≠ id := by rintro rfl; exact findN_none h hid
    exact hr.objs.apart i id hi (hidl j id e) hne b hb hbf
  have hcells : ∀ {cs : List AV} {us g}, cs.all AV.still = true → Loc cs → LRel S' w' ι' (M' ++ N) cs us g → LRel S3 w' ι3 O3 cs us g := fun h1 h2 hl =>
    Loc.rel h2 (still_all (S' := S') h1 hl (fun _ h => h) (fun _ _ => rfl) (fun _ _ => rfl))
  refine ⟨S3, ι3, F3, ⟨hr.defers, hr.size, fun t => (hr.tmps t).mono hlat (by simp), ⟨fun i ob h => ?_, fun i h => ?_, fun i j hi hj hij b hb => ?_⟩, fun i h b hb => ?_, ⟨fun b hb => .inl (hr.base.1 b hb), ?_⟩, ?_, ?_, fun i h => ?_, ?_⟩, ?_⟩
  · have h : O3[i]? = some ob := h
    by_cases hlt : i < O.length
    · rw [hO3lt i hlt, List.getElem?_eq_getElem hlt] at h
      simp only [Option.map_some, Option.some.injEq] at h
      rw [show ι3 i = ι i from if_pos hlt]
      cases hfd : findN hs i 0 with
      | some j =>
        obtain ⟨hjm, hji⟩ := hfind i j hfd
        rw [hF3f i j hlt hfd]
        have hjM' : j < M'.length := by omega
        have hmb : M'[j]? = some M'[j] := List.getElem?_eq_getElem hjM'
        have h' : ob = ⟨M'[j].cells, (O[i]).ep, M'[j].size, M'[j].ty⟩ := by
          rw [← h]; unfold newOb; rw [hfd]; simp only [hmb]
        have ho := hO'.obj j M'[j] (by rw [List.getElem?_append_left hjM']; exact hmb)
        rw [hι' j hjm, hιM j i hji] at ho
        have hout := hM'.at hmb
        rw [h']
        unfold ObjAt at ho ⊢
        cases hs' : ι i with
        | none => rw [hs'] at ho; exact ho
        | some p =>
          obtain ⟨b, k⟩ := p
          rw [hs'] at ho
          obtain ⟨cur', t', fz', f2, q1, q2, q3, q4, q5, q6, q7⟩ := ho
          exact ⟨cur', t', fz', f2, q1, q2, q3, q4, q5, q6, hcells hout.1 hout.2 q7⟩
      | none =>
        rw [hF3n i hlt hfd]
        have h' : ob = O[i] := by rw [← h]; unfold newOb; rw [hfd]
        subst h'
        have ho := hr.objs.obj i O[i] (List.getElem?_eq_getElem hlt)
        have key := hnotin i hlt hfd
        unfold ObjAt at ho ⊢
        cases hs' : ι i with
        | none => rw [hs'] at ho; exact ho
        | some p =>
          obtain ⟨b, k⟩ := p
          rw [hs'] at ho
          obtain ⟨cur', t', fz', f2, q1, q2, q3, q4, q5, q6, q7⟩ := ho
          exact ⟨cur', t', fz', f2, q1, by rw [key b (by rw [q1]; simp)]; exact q2, q3, q4, q5, q6, q7.mono hlat fun b' hb' => key b' (by rw [q1]; simp [hb'])⟩
    · rw [hO3ge i (by omega)] at h
      rw [show ι3 i = ι' (M.length + (i - O.length)) from if_neg hlt, hF3g i (by omega)]
      have ho := hO'.obj (M.length + (i - O.length)) ob (by rw [List.getElem?_append_right (by omega), hlen, Nat.add_sub_cancel_left]; exact h)
      have hout := hN.at h
      unfold ObjAt at ho ⊢
      cases hs' : ι' (M.length + (i - O.length)) with
      | none => rw [hs'] at ho; exact ho
      | some p =>
        obtain ⟨b, k⟩ := p
        rw [hs'] at ho
        obtain ⟨cur', t', fz', f2, q1, q2, q3, q4, q5, q6, q7⟩ := ho
        exact ⟨cur', t', fz', f2, q1, q2, q3, q4, q5, q6, hcells hout.1 hout.2 q7⟩
  · have h : i < O3.length := h
    by_cases hlt : i < O.length
    · cases hfd : findN hs i 0 with
      | some j => rw [hF3f i j hlt hfd]; exact hO'.nodup j (by have := (hfind i j hfd).1; omega)
      | none => rw [hF3n i hlt hfd]; exact hr.objs.nodup i hlt
    · rw [hF3g i (by omega)]; exact hO'.nodup _ (by omega)
  · have hi : i < O3.length := hi
    have hj : j < O3.length := hj
    -- the place in the callee's list, if there is one
    have hpl : ∀ k, k < O3.length → (∃ q, q < (M' ++ N).length ∧ F3 k = F' q ∧ ((q < M.length ∧ hs[q]? = some k) ∨ (O.length ≤ k ∧ q = M.length + (k - O.length)))) ∨ (k < O.length ∧ findN hs k 0 = none ∧ F3 k = F k) := fun k hk' => by
      by_cases hlt : k < O.length
      · cases hfd : findN hs k 0 with
        | some q => obtain ⟨h1, h2⟩ := hfind k q hfd; exact .inl ⟨q, by omega, hF3f k q hlt hfd, .inl ⟨h1, h2⟩⟩
        | none => exact .inr ⟨hlt, rfl, hF3n k hlt hfd⟩
      · exact .inl ⟨_, by omega, hF3g k (by omega), .inr ⟨by omega, rfl⟩⟩
    have hcross : ∀ k q, k < O.length → findN hs k 0 = none → q < (M' ++ N).length → ∀ b ∈ F k, b ∉ F' q := fun k q hk' hn hq b hb hb' => by
      rcases (hsrc q hq b hb').1 with ⟨id, hid, hlt, hbf⟩ | h
      · have hne : k ≠ id := by rintro rfl; exact findN_none hn hid
        exact hr.objs.apart k id hk' hlt hne b hb hbf
      · have := (hr.foot k hk' b hb).2.2; omega
    rcases hpl i hi with ⟨q1, p1, p2, p3⟩ | ⟨p1, p2, p3⟩ <;> rcases hpl j hj with ⟨q2, r1, r2, r3⟩ | ⟨r1, r2, r3⟩
    · rw [p2] at hb; rw [r2]
      refine hO'.apart q1 q2 p1 r1 (fun e => ?_) b hb
      subst e
      rcases p3 with ⟨a1, a2⟩ | ⟨a1, a2⟩ <;> rcases r3 with ⟨b1, b2⟩ | ⟨b1, b2⟩
      · rw [a2] at b2; cases b2; exact hij rfl
      · omega
      · omega
      · omega
    · rw [p2] at hb; rw [r3]; intro hb'; exact hcross j q1 r1 r2 p1 b hb' hb
    · rw [p3] at hb; rw [r2]; exact hcross i q2 p1 p2 r1 b hb
    · rw [p3] at hb; rw [r3]; exact hr.objs.apart i j p1 r1 hij b hb
  · have h : i < O3.length := h
    by_cases hlt : i < O.length
    · cases hfd : findN hs i 0 with
      | some j => rw [hF3f i j hlt hfd] at hb; exact hnoS j (by have := (hfind i j hfd).1; omega) b hb
      | none =>
        rw [hF3n i hlt hfd] at hb
        obtain ⟨q1, q2, q3⟩ := hr.foot i hlt b hb
        refine ⟨q1, ?_, by have := hk.size; omega⟩
        rintro (h' | ⟨_, h'⟩)
        · exact q2 h'
        · omega
    · rw [hF3g i (by omega)] at hb; exact hnoS _ (by omega) b hb
  · rintro b (h' | ⟨_, h'⟩)
    · exact hr.base.2 b h'
    · exact .inr (by have := hr.keeps.size; omega)
  · rintro b (h' | ⟨h', _⟩)
    · have := hr.stable b h'; have := hk.size; omega
    · exact hS3 b h'
  · refine ⟨hk.os.trans hr.keeps.os, hk.tape.trans hr.keeps.tape, hk.output.trans hr.keeps.output, by have := hr.keeps.size; have := hk.size; omega, fun b hb hM0 => ?_⟩
    rw [hold b (by have := hr.keeps.size; omega) fun id hid hbf => ?_]
    · exact hr.keeps.block b hb hM0
    · obtain ⟨j, hj, e⟩ := hmem id hid
      rcases (hr.foot id (hidl j id e) b hbf).1 with h | h
      · exact hM0 h
      · omega
  · have hm : m ≤ O.length := hr.mle
    rw [show ι3 i = ι i from if_pos (by omega)]; exact hr.spots i h
  · have hm : m ≤ O.length := hr.mle
    show m ≤ O3.length
    omega
  · refine hre.rel (S := S') (ι := ι') (O := M' ++ N) (fun id hid => ?_) (fun id ob hid h => ?_) hv
    · show (if _ then _ else _) = _
      rw [if_neg (by omega)]; congr 1; omega
    · show O3[id - M.length + O.length]? = some ob
      rw [hO3ge _ (by omega), Nat.add_sub_cancel]
      rw [List.getElem?_append_right (by omega), hlen] at h
      exact h


theorem FnP.of_new (hP : TabOk P tab) {f : FuncId} {fn : Func} {c : Code} {args : List AV} {pv : List Value} {pa : List AV} {k t sz : Nat} {cells : List AV} {ty : Option TypeId} (hf : P.funcs[f]? = some fn) (hnt : fn.ntmps = k) (hb : fn.body = some c) (hnm : (fn.name == "runtime.NumGoroutine") = false)
    (hal : args.length ≤ k) (hres : fn.results = #[.tmp t]) (hps : pa.all AV.still = true) (hst : cells.all AV.still = true) (h : ∀ G, Pin G pv pa → WpA P k 0 G c ⟨enumT 0 args, []⟩ (fun e σ => endB e = true ∧ ∃ id ep ob, look σ.T t = .ptr id ep 0 ∧ σ.O[id]? = some ob ∧ ob.ep = ep ∧ ob.cells = cells ∧ ob.size = sz ∧ (ty = none ∨ ty = ob.ty))) :
    FnP P f args [] pv pa [] [⟨cells, 0, sz, ty⟩] (.ptr 0 0 0) := by
  refine ⟨⟨fn, hf, by rw [hb]; rfl, hnm⟩, fun w S ι F vs hS hO hF hl hpin => ?_⟩
  have hvl : vs.length = args.length := hl.len.symm
  refine calls_of_wp hf hb ?_
  have hrel : Rel k 0 ⟨w, S, fun b => ∃ i, i < ([] : List AObj).length ∧ b ∈ F i, ι⟩ ⟨enumT 0 args, []⟩ { tmps := vs.toArray ++ Array.replicate (fn.ntmps - vs.toArray.size) undef, defers := [] } w := by
    refine ⟨S, ι, F, rfl, ?_, fun t => ?_, hO, fun id hid b hb => ⟨.inl ⟨id, hid, hb⟩, hF id hid b hb⟩, ⟨fun _ h => h, fun _ h => .inl h⟩, hS, Keeps.refl _ _, fun _ _ => rfl, Nat.zero_le _⟩
    · simp [hnt]; omega
    · show VRel S w ι [] (look (enumT 0 args) t) _ []
      rw [look_enumT]
      simp only [Nat.zero_le, if_true, Nat.sub_zero]
      by_cases ht : t < args.length
      · obtain ⟨x, g, hx, hV, hg⟩ := hl.get (List.getElem?_eq_getElem ht)
        have hg0 : g = [] := List.eq_nil_iff_forall_not_mem.2 fun b hb => by simpa using hg b hb
        subst hg0
        have e1 : args.getD t .any = args[t] := by simp [ht]
        have e2 : (vs.toArray ++ Array.replicate (fn.ntmps - vs.toArray.size) undef).getD t undef = x := by
          have : t < vs.length := by omega
          rw [List.getElem?_eq_getElem this] at hx
          simp only [Option.some.injEq] at hx
          simp [Array.getD_eq_getD_getElem?, Array.getElem?_append, this, hx]
        rw [e1, e2]; exact hV
      · have e1 : args.getD t .any = .any := by simp [List.getElem?_eq_none (Nat.le_of_not_lt ht)]
        rw [e1]; exact .any .nil
  refine wp_mono (h ⟨w, S, fun b => ∃ i, i < ([] : List AObj).length ∧ b ∈ F i, ι⟩ ⟨hpin, hps, fun b hb => ⟨fun ⟨i, hi, hbf⟩ => (hF i hi b hbf).1 hb, hS b hb⟩⟩ _ _ hrel) fun e a' w' ⟨σ', hq, hr'⟩ => ?_
  obtain ⟨he, id, ep, ob, h1, h2, h3, h4, h5, h6⟩ := hq
  obtain ⟨S2, ι2, F2, hr⟩ := hr'
  have hrun : (results fn a'.tmps).run P w' = .ok (a'.tmps.getD t undef) w' := run_results1 hres (by simp [resSem])
  have ht := hr.tmps t
  rw [h1] at ht
  have hid : id < σ'.O.length := (List.getElem?_eq_some_iff.1 h2).1
  have hobj := hr.objs.obj id ob h2
  have hfin : ∃ v S' ι' F', a'.tmps.getD t undef = v ∧ (∀ b, S b → S' b) ∧ (∀ b, S' b → S b ∨ w.heap.size ≤ b) ∧ (∀ b, S' b → b < w'.heap.size) ∧ (∀ id, id < ([] : List AObj).length → ι' id = ι id) ∧ ORel S' w' ι' ([] ++ [⟨cells, 0, sz, ty⟩]) F' ∧
      (∀ id, id < ([] ++ [(⟨cells, 0, sz, ty⟩ : AObj)]).length → ∀ b ∈ F' id, ((∃ i, i < ([] : List AObj).length ∧ b ∈ F i) ∨ w.heap.size ≤ b) ∧ ¬ S' b ∧ b < w'.heap.size) ∧ VRel S' w' ι' ([] ++ [⟨cells, 0, sz, ty⟩]) (.ptr 0 0 0) v [] ∧ Keeps w (fun b => ∃ i, i < ([] : List AObj).length ∧ b ∈ F i) w' := by
    refine ⟨_, S2, fun j => if j = 0 then ι2 id else none, fun j => if j = 0 then F2 id else [], rfl, hr.base.1, hr.base.2, hr.stable, fun i hi => by simp at hi, ⟨fun i ob' hi => ?_, fun i hi => ?_, fun i j hi hj hij => ?_⟩, fun i hi b hb => ?_, ?_, hr.keeps⟩
    · cases i with
      | succ i => simp at hi
      | zero =>
        simp at hi; subst hi
        simp only [if_true]
        unfold ObjAt at hobj ⊢
        cases hs : ι2 id with
        | none => rw [hs, h4] at hobj; exact hobj
        | some p =>
          obtain ⟨b, kk⟩ := p
          rw [hs, h4] at hobj
          obtain ⟨cur', t', fz', f2, q1, q2, q3, q4, q5, q6, q7⟩ := hobj
          refine ⟨cur', t', fz', f2, q1, q2, q3, q4, q5, fun e he => ?_, still_all hst q7 (fun _ h => h) (fun _ _ => rfl) (fun _ _ => rfl)⟩
          rcases h6 with h6 | h6
          · rw [h6] at he; cases he
          · exact q6 e (by rw [← h6]; exact he)
    · have : i = 0 := by simpa using hi
      subst this; simpa using hr.objs.nodup id hid
    · have e1 : i = 0 := by simpa using hi
      have e2 : j = 0 := by simpa using hj
      omega
    · have e1 : i = 0 := by simpa using hi
      subst e1
      obtain ⟨q1, q2, q3⟩ := hr.foot id hid b (by simpa using hb)
      exact ⟨q1, q2, q3⟩
    · cases ht with
      | ptr a b c r => rw [h2] at a; cases a; exact .ptr (ob := ⟨cells, 0, sz, ty⟩) rfl (Nat.le_refl _) (fun _ => by simpa using c h3.symm) .nil
  obtain ⟨v, S', ι', F', hv, q⟩ := hfin
  cases e with
  | normal => exact ⟨hr.defers, _, hrun, (), trivial, _, S', ι', F', rfl, hv ▸ q⟩
  | ret => exact ⟨hr.defers, _, hrun, (), trivial, _, S', ι', F', rfl, hv ▸ q⟩
  | _ => cases he
theorem WpL.callN {f : FuncId} {xs : List Operand} {ats : Array TypeId} {As : List AV} {ob : AObj} {O2 : List AObj} {pv : List Value} {pa : List AV} {base d : Nat} (hc : FnP P f As [] pv pa [] [ob] (.ptr 0 0 0)) (hp : Pin G pv pa) (hh : HandM O [] [] (xs.map (av T)) As) (hN : Out [ob]) (hb : cnt O.length 0 = some base) (hO2 : newF [] [] 0 O [ob] = some O2) (hn : d < n)
    (h : WpL P n m G false ops l ⟨(d, .ptr base 0 0) :: T, O2⟩ Q) :
    WpL P n m G false ops ({ dst := some d, op := .call { callee := .value (.func f), args := xs.toArray, argTypes := ats }, type := tt, pos := pos, after := after, guard := none } :: l) ⟨T, O⟩ Q := by
  refine WpL.opX (β := Unit) (C := fun _ => True) (σX := fun _ => ⟨(d, .ptr base 0 0) :: T, O2⟩) rfl (fun a w hr => ?_) (fun _ _ => h)
  have e2 := cnt_eq hb; rw [Nat.add_zero] at e2; subst e2
  have hcl := callXm_rel hc hp hh .nil (by simp) (fun _ => rfl) (fun _ j x y hx hy => by simp at hx) (fun _ => .nil) (fun _ => hN) (rX' := fun _ => .ptr O.length 0 0) (fun _ => by have := Moves.ptr (k := 0) (base := O.length) (id := 0) (ep := 0) (off := 0) (Nat.le_refl 0); rw [Nat.sub_zero, Nat.zero_add] at this; exact this) hr
  obtain ⟨⟨fn, hf, hbd, hnm⟩, _⟩ := hc
  have hex : (execOp a.eval { dst := some d, op := .call { callee := .value (.func f), args := xs.toArray, argTypes := ats }, type := tt, pos := pos, after := after, guard := none }).run P w = .ok (.enter f (xs.map a.eval).toArray) w := by
    simp only [execOp, resolve, Act.eval, Deferred.ofValue, invoke, callFunc, Sem.run_bind, Sem.run_pure, Result.andThen_ok, program, Sem.run, hf, hnm, hbd, Bool.false_eq_true, if_false]
    simp
  unfold Oper.wp
  rw [hex]
  refine hcl.mono fun e' w' ⟨y, hy, v', he, S, ι, F, hr', hv⟩ => ?_
  subst he
  rw [newF_eq hO2] at hr' hv
  exact ⟨y, hy, S, ι, F, hr'.put hn hv⟩
/-- Where what is pinned is an argument of its own, it is as good as known. -/
theorem FnC.of_pin {f : FuncId} {A : AV} {args : List AV} {N : List AObj} {r : AV} (h : ∀ v, FnP P f (.sc v :: args) [] [v] [A] [] N r) : FnC P f (A :: args) N r := by
  refine ⟨(h undef).1, fun w S vs hS hl => ?_⟩
  obtain ⟨v, vs', f1, f2, e, hv, hr, hf⟩ := hl.uncons
  obtain ⟨rfl, rfl⟩ : f1 = [] ∧ f2 = [] := by simpa using hf
  subst e
  refine ((h v).2 w S (fun _ => none) (fun _ => []) (v :: vs') hS ⟨fun id ob h => by simp at h, fun id h => by simp at h, fun i j h => by simp at h⟩ (fun id h => by simp at h) (.sc hr) (by simpa using LRel.cons hv .nil)).mono fun e w' ⟨y, _, v2, S', ι', F', h1, h2, h3, h4, h5, h6, h7, h8, h9⟩ => ?_
  refine ⟨v2, S', ι', F', h1, h2, h3, h4, by simpa using h6, fun id hid b hb => ?_, by simpa using h8, ?_⟩
  · obtain ⟨q1, q2, q3⟩ := h7 id (by simpa using hid) b hb
    refine ⟨?_, q2, q3⟩
    rcases q1 with ⟨i, hi, _⟩ | q1
    · simp at hi
    · exact q1
  · have : (fun b => ∃ i, i < ([] : List AObj).length ∧ b ∈ ((fun _ => []) : Nat → List Nat) i) = fun _ => False := by
      funext b; simp
    rw [this] at h9; exact h9
end
end Go.Abs

/- What is drawn: cursors, options in any state, options with a place. No condition. -/
namespace Go.Proofs.Ytpokokcgoebbhaa
open Go Go.Abs
set_option linter.unusedVariables false
set_option linter.unusedSimpArgs false
set_option maxRecDepth 100000
set_option maxHeartbeats 4000000
attribute [local irreducible] WpA WpL Rnd Blk Abs.Seq Abs.Fin Abs.FinG FnC FnG FnX FnP FinX Only
attribute [local irreducible] belowD onceD pickD modeD l8D l8AnyD optD

def seedS (k x : Int) : Int := IntKind.i64.wrap ((BitVec.ofInt IntKind.i64.bits (IntKind.i64.wrap (IntKind.i64.wrap (k * 131 + IntKind.i64.wrap x) + 7)) &&& BitVec.ofInt IntKind.i64.bits 1073741823).toNat : Nat)
def seedD (l : List Int) (i : Nat) : Int := (l.take i).foldl seedS (10101 + l.length)
theorem and30 (y : Int) : 0 ≤ IntKind.i64.wrap ((BitVec.ofInt IntKind.i64.bits y &&& BitVec.ofInt IntKind.i64.bits 1073741823).toNat : Nat) ∧ IntKind.i64.wrap ((BitVec.ofInt IntKind.i64.bits y &&& BitVec.ofInt IntKind.i64.bits 1073741823).toNat : Nat) ≤ 1073741823 := by
  have h : (BitVec.ofInt IntKind.i64.bits y &&& BitVec.ofInt IntKind.i64.bits 1073741823).toNat ≤ 1073741823 := by
    rw [BitVec.toNat_and]
    exact Nat.le_trans Nat.and_le_right (by decide)
  rw [IntWalk.i64_in _ (by omega)]
  omega
theorem seedD_succ {l : List Int} {i : Nat} (h : i < l.length) : seedD l (i + 1) = seedS (seedD l i) (l.getD i 0) := by
  unfold seedD; rw [List.take_succ_eq_append_getElem h, List.foldl_append]; simp [h]
theorem seedD_bd {l : List Int} (hl : l.length ≤ 1048576) : ∀ i, 0 ≤ seedD l i ∧ seedD l i ≤ 1073741823
  | 0 => by simp [seedD]; omega
  | i + 1 => by
    by_cases h : i < l.length
    · rw [seedD_succ h]; exact and30 _
    · have e : seedD l (i + 1) = seedD l i := by unfold seedD; rw [List.take_of_length_le (by omega), List.take_of_length_le (by omega)]
      rw [e]; exact seedD_bd hl i
abbrev newD (l : List Int) : Cr := (0, seedD l (min l.length 4000))
theorem pin_slice {G : Ctx} {v : Value} {l : List Int} (hp : Pin G [v] [CodA l]) : ∃ p q r, v = .slice p q r := by
  obtain ⟨a, c, e⟩ := (LRel.slice_len hp.rel).2.1 _ _ _ rfl
  exact ⟨_, _, _, e⟩
section
attribute [local irreducible] IntKind.wrap
theorem l1New_p (v : Value) (l : List Int) (hl : l.length ≤ 1048576) : FnP Try.prog 32 [.sc v] [] [v] [CodA l] [] [CurO v (newD l)] (.ptr 0 0 0) := by
  refine FnP.of_new (t := 2) tabOk Try.func32 Try.ntmps32 rfl (by decide +kernel) (by simp) rfl rfl rfl fun G hp => ?_
  refine go (r := ?_); and_intros <;> intros <;> try exact True.intro
  refine WpL.pin (d := 5) hp rfl ?_
  refine go (r := ?_); and_intros <;> intros <;> try exact True.intro
  refine WpA.loop (fun i : Nat => ⟨[(0, .sc v), (3, I (seedD l i)), (4, I i)], []⟩) (fun i => i ≤ min l.length 4000) (fun i => min l.length 4000 - i) 0 (Nat.zero_le _) (go (r := ?_)) (fun i hi => ?_)
  · exact trivial
  · have hb := seedD_bd hl i
    have hs := fun h => seedD_succ (l := l) (i := i) h
    unfold seedS at hs
    refine go (r := ?_); and_intros <;> intros <;> try exact True.intro
    refine WpL.pin (d := 9) hp rfl ?_
    refine go (r := ?_); and_intros <;> intros <;> try exact True.intro
    · refine WpL.pin (d := 20) hp rfl ?_
      have hs := hs (by omega)
      refine go (r := ?_); and_intros <;> intros <;> try exact True.intro
      all_goals first | exact hs.symm | trace_state
    all_goals obtain ⟨p, q, r, rfl⟩ := pin_slice hp
    · have e : i = min l.length 4000 := by omega
      subst e
      refine go (r := ?_); and_intros <;> intros <;> try exact True.intro
      exact ⟨_, _, _, rfl, rfl, rfl, rfl, rfl, .inl rfl⟩
    · have e : i = min l.length 4000 := by omega
      subst e
      refine go (r := ?_); and_intros <;> intros <;> try exact True.intro
      exact ⟨_, _, _, rfl, rfl, rfl, rfl, rfl, .inl rfl⟩
end
def anyD (l : List Int) (c : Cr) : Cr × Op6 :=
  let o := optD l c
  let s := belowD l o.1 14
  if s.2 = 0 then
    let p := pickD l s.1 [-1, 52]
    (p.1, { o.2 with q := p.2 })
  else if s.2 = 1 then
    let y := l8AnyD l s.1
    (y.1, { o.2 with lens := y.2 })
  else (s.1, o.2)
end Go.Proofs.Ytpokokcgoebbhaa

/- Options and a place, drawn; the law of modes. No condition. -/
namespace Go.Proofs.Ytpokokcgoebbhaa
open Go Go.Abs
set_option linter.unusedVariables false
set_option linter.unusedSimpArgs false
set_option maxRecDepth 100000
set_option maxHeartbeats 4000000
attribute [local irreducible] WpA WpL Rnd Blk Abs.Seq Abs.Fin Abs.FinG FnC FnG FnX FnP FinX Only
attribute [local irreducible] belowD onceD pickD modeD l8D l8AnyD optD anyD seedD

theorem newD_ok {l : List Int} (hl : l.length ≤ 1048576) : CrOk l (newD l) := ⟨hl, Int.le_refl 0, by show (0 : Int) ≤ _; omega⟩
def dmfD (l : List Int) : Op6 × Int := ((anyD l (newD l)).2, (belowD l (anyD l (newD l)).1 20).2 - 1)
end Go.Proofs.Ytpokokcgoebbhaa

/- Plain laws: squares of numbers filled place by place, sums of products. No condition. -/
namespace Go.Proofs.Ytpokokcgoebbhaa
open Go Go.Abs
set_option linter.unusedVariables false
set_option linter.unusedSimpArgs false

/-- The places before j have their number, place j has v, all behind are 0. -/
def part (f : Nat → Int) (N j : Nat) (v : Int) : List Int := (List.range N).map fun q => if q < j then f q else if q = j then v else 0
def tabL (f : Nat → Int) (N : Nat) : List Int := (List.range N).map f
/-- The places that p tells have their number, the others are 0. -/
def msk (p : Nat → Bool) (f : Nat → Int) (N : Nat) : List Int := (List.range N).map fun q => if p q = true then f q else 0
/-! Sums. -/
def sumF (f : Nat → Int) : Nat → Int
  | 0 => 0
  | k + 1 => sumF f k + f k
/-! The matrices. -/
def A4 : List (List Int) := [[1, 1, 1, 1], [2, 1, -1, -2], [1, -1, -1, 1], [1, -2, 2, -1]]
def par (b : Nat) : Int := if (b % 2 + b / 2 % 2 + b / 4 % 2) % 2 = 0 then 1 else -1
def mx (n r i : Nat) : Int := if n = 4 then (A4.getD r []).getD i 0 else par (r &&& i)
/-- The square times the matrix, straight or turned, from both sides. -/
def mg (n : Nat) (back : Bool) (r i : Nat) : Int := if back then mx n i r else mx n r i
def halfM (n : Nat) (g : Nat → Nat → Int) (l : List Int) (r k : Nat) : Int := sumF (fun i => g r i * l.getD (i * n + k) 0) n
def fullM (n : Nat) (g : Nat → Nat → Int) (l : List Int) (r k : Nat) : Int := sumF (fun i => halfM n g l r i * g k i) n
def mulM (n : Nat) (g : Nat → Nat → Int) (l : List Int) : List Int := tabL (fun q => fullM n g l (q / n) (q % n)) (n * n)
end Go.Proofs.Ytpokokcgoebbhaa

/- Contracts: the matrices, their products with a square. No condition. -/
namespace Go.Proofs.Ytpokokcgoebbhaa
open Go Go.Abs
set_option linter.unusedVariables false
set_option linter.unusedSimpArgs false
set_option maxRecDepth 100000
set_option maxHeartbeats 4000000
attribute [local irreducible] WpA WpL Rnd Blk Abs.Seq Abs.Fin Abs.FinG FnC FnG Only

def H8 : List (List Int) := (List.range 8).map fun r => tabL (mx 8 r) 8
end Go.Proofs.Ytpokokcgoebbhaa

/- Short names of objects. No condition. -/
namespace Go.Proofs.Ytpokokcgoebbhaa
open Go Go.Abs
abbrev XD (l : List Int) : AObj := ⟨ints l, 1, 1, some 3⟩
abbrev XQ (l : List (Int × Int)) : AObj := ⟨rows prF l, 1, 2, some 108⟩
abbrev DD : AObj := ⟨[], 2, 0, none⟩
end Go.Proofs.Ytpokokcgoebbhaa

/- Contracts: the products of a matrix with a square, from both sides. No condition. -/
namespace Go.Proofs.Ytpokokcgoebbhaa
open Go Go.Abs
set_option linter.unusedVariables false
set_option linter.unusedSimpArgs false
set_option maxRecDepth 100000
set_option maxHeartbeats 4000000
attribute [local irreducible] WpA WpL Rnd Blk Abs.Seq Abs.Fin Abs.FinG FnC FnG Only

abbrev fh (n : Nat) (g : Nat → Nat → Int) (l : List Int) (q : Nat) : Int := halfM n g l (q / n) (q % n)
abbrev fo (n : Nat) (g : Nat → Nat → Int) (l : List Int) (q : Nat) : Int := fullM n g l (q / n) (q % n)
abbrev sh (n : Nat) (g : Nat → Nat → Int) (l : List Int) (r k i : Nat) : Int := sumF (fun i => g r i * l.getD (i * n + k) 0) i
abbrev so (n : Nat) (g : Nat → Nat → Int) (l : List Int) (r k i : Nat) : Int := sumF (fun i => halfM n g l r i * g k i) i
abbrev Sgn (g : Nat → Nat → Int) : Prop := ∀ r i, g r i = -2 ∨ g r i = -1 ∨ g r i = 0 ∨ g r i = 1 ∨ g r i = 2
abbrev RowsOk (n : Nat) (g : Nat → Nat → Int) (M : List (List Int)) : Prop := M.length = n ∧ (∀ r, r < n → (M.getD r default).length = n) ∧ ∀ r i, r < n → i < n → (M.getD r default).getD i 0 = g r i
def prodL (n : Nat) (g : Nat → Nat → Int) (l : List Int) : List Int := if l.length = n * n ∧ In l (-1000000000) 1000000000 then mulM n g l else []
abbrev LLn (n : Nat) (M : List (List Int)) : AV := .imm 1 n (rows liI M)
end Go.Proofs.Ytpokokcgoebbhaa

/- Contracts: the matrix of signs. No condition. -/
namespace Go.Proofs.Ytpokokcgoebbhaa
open Go Go.Abs
set_option linter.unusedVariables false
set_option linter.unusedSimpArgs false
set_option maxRecDepth 100000
set_option maxHeartbeats 4000000
attribute [local irreducible] WpA WpL Rnd Blk Abs.Seq Abs.Fin Abs.FinG FnC FnG Only RollN

def ocF (x : Int) : Int := if x = 1 ∨ x = 2 ∨ x = 4 then 1 else if x = 3 ∨ x = 5 ∨ x = 6 then 2 else if x = 7 then 3 else 0
def cellsH (r : Nat) : List AV := (List.range 8).map fun q => if q < r then .fre 1 8 (ints (tabL (mx 8 q) 8)) else .nilS
def invH (r : Nat) : Nat → List AObj
  | 0 => [⟨(cellsH r).set r .nilS, 0, 1, some 24⟩]
  | k + 1 => [⟨(cellsH r).set r (.own 2 0 0 (k + 1)), 0, 1, some 24⟩, ⟨[.any], 0, 1, none⟩, XI (tabL (mx 8 r) (k + 1))]
attribute [local irreducible] cellsH
end Go.Proofs.Ytpokokcgoebbhaa

/- Contracts: the laws' own products, the transforms straight on. No condition. -/
namespace Go.Proofs.Ytpokokcgoebbhaa
open Go Go.Abs
set_option linter.unusedVariables false
set_option linter.unusedSimpArgs false
set_option maxRecDepth 100000
set_option maxHeartbeats 4000000
attribute [local irreducible] WpA WpL Rnd Blk Abs.Seq Abs.Fin Abs.FinG FnC FnG Only

def pm (n : Nat) (back : Bool) (r i q : Nat) : Bool := if back then decide (q % n < r ∨ (q % n = r ∧ q / n < i)) else decide (q / n < r ∨ (q / n = r ∧ q % n < i))
abbrev fm (n : Nat) (back : Bool) (q : Nat) : Int := mg n back (q / n) (q % n)
end Go.Proofs.Ytpokokcgoebbhaa

/- Contracts: what lies around a square, the predictions, residuals. No condition. -/
namespace Go.Proofs.Ytpokokcgoebbhaa
open Go Go.Abs
set_option linter.unusedVariables false
set_option linter.unusedSimpArgs false
set_option maxRecDepth 100000
set_option maxHeartbeats 4000000
attribute [local irreducible] WpA WpL Rnd Blk Abs.Seq Abs.Fin Abs.FinG FnC FnG Only

/-! Sides. -/
def side (k : Nat) : Int := if k = 16 then 4 else if k = 64 then 8 else 0
theorem side_pos (k : Nat) : 0 < side k ↔ k = 16 ∨ k = 64 := by unfold side; split <;> (try split) <;> omega
theorem side_cases (k : Nat) : (k = 16 ∧ side k = 4) ∨ (k = 64 ∧ side k = 8) ∨ (k ≠ 16 ∧ k ≠ 64 ∧ side k = 0) := by unfold side; split <;> (try split) <;> omega
instance SizeOk_s : Con 90 (∀ n : Int, Fn 90 [I n] [] (B (decide (n = 4 ∨ n = 8)))) := ⟨fun n => by
  refine FnC.of_body tabOk Try.func90 Try.ntmps90 rfl (by decide +kernel) (by simp) fun G => ?_
  refine go (r := ?_); and_intros <;> intros <;> try exact True.intro
  all_goals simp_all⟩
instance SizeOk_c : Con 60 (∀ n : Int, Fn 60 [I n] [] (B (decide (n = 4 ∨ n = 8)))) := ⟨fun n => by
  refine FnC.of_body tabOk Try.func60 Try.ntmps60 rfl (by decide +kernel) (by simp) fun G => ?_
  refine go (r := ?_); and_intros <;> intros <;> try exact True.intro
  all_goals simp_all⟩
instance l9Side_s : Con 125 (∀ l : List Int, l.length ≤ 9223372036854775807 → Fn 125 [IL l] [] (I (side l.length))) := ⟨fun l hl => by
  refine FnC.of_body tabOk Try.func125 Try.ntmps125 rfl (by decide +kernel) (by simp) fun G => ?_
  have h := side_cases l.length
  refine go (r := ?_); and_intros <;> intros <;> try exact True.intro⟩
instance sizeOf_c : Con 109 (∀ k : Nat, Fn 109 [I k] [] (I (side k))) := ⟨fun k => by
  refine FnC.of_body tabOk Try.func109 Try.ntmps109 rfl (by decide +kernel) (by simp) fun G => ?_
  have h := side_cases k
  refine go (r := ?_); and_intros <;> intros <;> try exact True.intro⟩

/-! Sums. -/
def psum (l : List Int) (k : Nat) : Int := (l.take k).sum
theorem psum_zero (l : List Int) : psum l 0 = 0 := by simp [psum]
theorem psum_succ (l : List Int) (k : Nat) (h : k < l.length) : psum l (k + 1) = psum l k + l.getD k 0 := by
  unfold psum; rw [List.take_succ_eq_append_getElem h, List.sum_append]; simp [h]
theorem psum_all (l : List Int) : psum l l.length = l.sum := by simp [psum]
/-- The first i and the last i turned. -/
def revp (l : List Int) (i : Nat) : List Int := (List.range l.length).map fun k => if k < i ∨ l.length - 1 - k < i then l.getD (l.length - 1 - k) 0 else l.getD k 0
end Go.Proofs.Ytpokokcgoebbhaa

/- Contracts: the order of a square's numbers, quantization. No condition. -/
namespace Go.Proofs.Ytpokokcgoebbhaa
open Go Go.Abs
set_option linter.unusedVariables false
set_option linter.unusedSimpArgs false
set_option maxRecDepth 100000
set_option maxHeartbeats 4000000
attribute [local irreducible] WpA WpL Rnd Blk Abs.Seq Abs.Fin Abs.FinG FnC FnG Only

def scX (d k : Nat) : Int := if (d : Int) % 2 = 0 then (d : Int) - k else k
def scIn (n : Int) (d : Nat) : Nat → List Int → List Int
  | 0, o => o
  | k + 1, o => if scX d k < n ∧ (d : Int) - scX d k < n then scIn n d k o ++ [((d : Int) - scX d k) * n + scX d k] else scIn n d k o
def scOut (n : Int) : Nat → List Int
  | 0 => []
  | d + 1 => scIn n d (d + 1) (scOut n d)
def scanL (n : Int) : List Int := if n = 4 ∨ n = 8 then scOut n (2 * n - 1).toNat else []
end Go.Proofs.Ytpokokcgoebbhaa

/- Contracts: quantization, scanning. No condition. -/
namespace Go.Proofs.Ytpokokcgoebbhaa
open Go Go.Abs
set_option linter.unusedVariables false
set_option linter.unusedSimpArgs false
set_option maxRecDepth 100000
set_option maxHeartbeats 4000000
attribute [local irreducible] WpA WpL Rnd Blk Abs.Seq Abs.Fin Abs.FinG FnC FnG Only

def nearL (s v : Int) : Int := if v < 0 then -((-v * 2 + s) / (2 * s)) else (v * 2 + s) / (2 * s)
def qz (s v : Int) : Int := max (-16383) (min 16383 (nearL s (clampM v)))
def quantL (l : List Int) (q : Int) : List Int := if 0 < side l.length ∧ 0 < stepL q then l.map (qz (stepL q)) else []
end Go.Proofs.Ytpokokcgoebbhaa

/- Contracts: numbers in the order of the scan. No condition. -/
namespace Go.Proofs.Ytpokokcgoebbhaa
open Go Go.Abs
set_option linter.unusedVariables false
set_option linter.unusedSimpArgs false
set_option maxRecDepth 100000
set_option maxHeartbeats 4000000
attribute [local irreducible] WpA WpL Rnd Blk Abs.Seq Abs.Fin Abs.FinG FnC FnG Only

def scnL (l : List Int) : List Int := (scanL (side l.length)).map fun p => l.getD p.toNat 0
end Go.Proofs.Ytpokokcgoebbhaa

/- Contracts of the laws' own functions over numbers, truth values, options, headers, blocks, macroblocks, streams: sizes, copies, comparisons, marks. No condition. -/
namespace Go.Proofs.Ytpokokcgoebbhaa
open Go Go.Abs
set_option linter.unusedVariables false
set_option linter.unusedSimpArgs false
set_option maxRecDepth 100000
set_option maxHeartbeats 4000000
attribute [local irreducible] WpA WpL Rnd Blk Abs.Seq Abs.Fin Abs.FinG FnC FnG Only

def marksI (k : Int) (n : Nat) : List Int := (List.range n).map fun i : Nat => k + (i : Int)
@[simp] theorem marksI_len (k : Int) (n : Nat) : (marksI k n).length = n := by simp [marksI]
def marksB (k : Int) (n : Nat) : List Bool := (List.range n).map fun i : Nat => decide ((k + (i : Int)) % 3 = 0)
@[simp] theorem marksB_len (k : Int) (n : Nat) : (marksB k n).length = n := by simp [marksB]
/-! Options. -/
end Go.Proofs.Ytpokokcgoebbhaa

/- Contracts: the transforms straight on; the levels of a residual; the law FnExactLevelsFor. No condition. -/
namespace Go.Proofs.Ytpokokcgoebbhaa
open Go Go.Abs
set_option linter.unusedVariables false
set_option linter.unusedSimpArgs false
set_option maxRecDepth 100000
set_option maxHeartbeats 4000000
attribute [local irreducible] WpA WpL Rnd Blk Abs.Seq Abs.Fin Abs.FinG FnC FnG Only

abbrev FitM (l : List Int) : Prop := In l (-1000000000) 1000000000
def trL (n : Int) (b : Bool) (l : List Int) : List Int := prodL n.toNat (mg n.toNat b) l
/-! By the program. -/
def gOf (M : List (List Int)) (r i : Nat) : Int := (M.getD r default).getD i 0
def MatOk (n : Nat) (M : List (List Int)) : Prop := M.length = n ∧ (∀ r, r < n → (M.getD r default).length = n) ∧ Sgn (gOf M)
/-! Levels. -/
def clampL (v : Int) : Int := max (-16383) (min 16383 v)
def levL (b : Bool) (q : Int) (l r : List Int) : List Int := if OptOk q l ∧ 0 < side r.length ∧ FitM r then
  (if b = true then scnL (r.map clampL) else scnL (quantL (trL (side r.length) false r) q)) else []
end Go.Proofs.Ytpokokcgoebbhaa

/- Contracts of the counts over a stream, and of the laws FnExactNonZeros and FnExactModeCounts. No condition. -/
namespace Go.Proofs.Ytpokokcgoebbhaa
open Go Go.Abs
set_option linter.unusedVariables false
set_option linter.unusedSimpArgs false
set_option maxRecDepth 100000
set_option maxHeartbeats 4000000
attribute [local irreducible] WpA WpL Rnd Blk Abs.Seq Abs.Fin Abs.FinG FnC FnG Only

def nz1 (x : Int) : Nat := if x = 0 then 0 else 1
def nzB (b : Blok) : Nat := (b.2.map nz1).sum
def nzM (m : Mbk) : Nat := (m.2.map nzB).sum
theorem sum_bd {α : Type} (f g : α → Nat) (h : ∀ a, f a ≤ g a) (l : List α) : (l.map f).sum ≤ (l.map g).sum := by
  induction l with
  | nil => simp
  | cons a l ih => simp only [List.map_cons, List.sum_cons]; have := h a; omega
theorem sum_ones {α : Type} (f : α → Nat) (h : ∀ a, f a ≤ 1) (l : List α) : (l.map f).sum ≤ l.length := by
  induction l with
  | nil => simp
  | cons a l ih => simp only [List.map_cons, List.sum_cons, List.length_cons]; have := h a; omega
theorem nz1_bd (x : Int) : nz1 x ≤ 1 := by unfold nz1; split <;> omega
theorem nzB_bd (b : Blok) : nzB b ≤ bn b := sum_ones nz1 nz1_bd b.2
theorem nzM_bd (m : Mbk) : nzM m ≤ mn m := by
  have := sum_bd nzB bn nzB_bd m.2
  unfold nzM mn bw; omega
theorem nzAll_bd (M : List Mbk) : (M.map nzM).sum ≤ mw M := by
  have := sum_bd nzM mn nzM_bd M
  unfold mw; omega
instance nonZeros_c : Con 34 (∀ l : List Int, l.length ≤ 1099511627776 → Fn 34 [IL l] [] (I ((l.map nz1).sum : Nat))) := ⟨fun l hl => by
  refine FnC.of_body tabOk Try.func34 Try.ntmps34 rfl (by decide +kernel) (by simp) fun G => ?_
  refine go (r := ?_); and_intros <;> intros <;> try exact True.intro
  refine WpA.loop (fun k : Nat => ⟨[(3, I (tk nz1 l k)), (6, IL l), (7, I l.length), (8, I k)], []⟩) (fun k => k ≤ l.length) (fun k => l.length - k) 0 (by omega) (go (r := ?_)) (fun k hk => ?_)
  · simp [tk_zero]
  have hb := sum_ones nz1 nz1_bd l
  have hle := tk_le nz1 l k
  have hs := fun h => tk_succ nz1 l k h
  have h1 : l.getD k 0 = 0 → nz1 (l.getD k default) = 0 := fun h => if_pos h
  have h0 : ¬ l.getD k 0 = 0 → nz1 (l.getD k default) = 1 := fun h => if_neg h
  refine go (r := ?_); and_intros <;> intros <;> try exact True.intro
  · have e : k = l.length := by omega
    subst e; rw [tk_all]⟩
instance NonZeros_s : Con 12 (∀ (w h q : Int) (b d : Bool) (l : List Int) (M : List Mbk), mw M ≤ 1048576 → Fn 12 [StA w h q b d l M] [] (I ((M.map nzM).sum : Nat))) := ⟨fun w h q b d l M hM => by
  refine FnC.of_body tabOk Try.func12 Try.ntmps12 rfl (by decide +kernel) (by simp) fun G => ?_
  have hall := nzAll_bd M
  have hmw : mw M = M.length + (M.map mn).sum := rfl
  refine go (r := ?_); and_intros <;> intros <;> try exact True.intro
  refine WpA.loop (fun i : Nat => ⟨[(1, .ptr 0 0 0), (3, I (tk nzM M i)), (4, I i)], [⟨[I w, I h, I q, B b, B d, IL l, MbL M], 0, 0, none⟩]⟩) (fun i => i ≤ M.length) (fun i => M.length - i) 0 (by omega) (go (r := ?_)) (fun i hi => ?_)
  · simp [tk_zero]
  have hs1 := fun h => tk_succ nzM M i h
  have hle1 := tk_le nzM M i
  have hle2 := tk_le nzM M (i + 1)
  have hsm := smM_of hM
  refine go (r := ?_); and_intros <;> intros <;> try exact True.intro
  · have hsi := smM_get hsm (k := i) (by omega)
    have hs1 := hs1 (by omega)
    refine WpA.loop (fun k : Nat => ⟨[(1, .ptr 0 0 0), (3, I (tk nzM M i + tk nzB (M.getD i default).2 k)), (4, I i), (5, I k)], [⟨[I w, I h, I q, B b, B d, IL l, MbL M], 0, 0, none⟩]⟩) (fun k => k ≤ (M.getD i default).2.length) (fun k => (M.getD i default).2.length - k) 0 (by omega) (go (r := ?_)) (fun k hk => ?_)
    · simp [tk_zero]
    have hs3 := fun h => tk_succ nzB (M.getD i default).2 k h
    have hle3 := tk_le nzB (M.getD i default).2 k
    have hle4 := tk_le nzB (M.getD i default).2 (k + 1)
    have e5 : nzM (M.getD i default) = ((M.getD i default).2.map nzB).sum := rfl
    refine go (r := ?_); and_intros <;> intros <;> try exact True.intro
    · have hsk := smB_get hsi.2 (k := k) (by omega)
      have hs3 := hs3 (by omega)
      have e6 : nzB ((M.getD i default).2.getD k default) = (((M.getD i default).2.getD k default).2.map nz1).sum := rfl
      refine WpA.loop (fun j : Nat => ⟨[(1, .ptr 0 0 0), (3, I (tk nzM M i + tk nzB (M.getD i default).2 k + tk nz1 ((M.getD i default).2.getD k default).2 j)), (4, I i), (5, I k), (6, IL ((M.getD i default).2.getD k default).2), (7, I j)], [⟨[I w, I h, I q, B b, B d, IL l, MbL M], 0, 0, none⟩]⟩) (fun j => j ≤ ((M.getD i default).2.getD k default).2.length) (fun j => ((M.getD i default).2.getD k default).2.length - j) 0 (by omega) (go (r := ?_)) (fun j hj => ?_)
      · simp [tk_zero]
      have hs7 := fun h => tk_succ nz1 ((M.getD i default).2.getD k default).2 j h
      have hle7 := tk_le nz1 ((M.getD i default).2.getD k default).2 j
      have h1 : ((M.getD i default).2.getD k default).2.getD j 0 = 0 → nz1 (((M.getD i default).2.getD k default).2.getD j default) = 0 := fun h => if_pos h
      have h0 : ¬ ((M.getD i default).2.getD k default).2.getD j 0 = 0 → nz1 (((M.getD i default).2.getD k default).2.getD j default) = 1 := fun h => if_neg h
      refine go (r := ?_); and_intros <;> intros <;> try exact True.intro
      have e : j = ((M.getD i default).2.getD k default).2.length := by omega
      subst e
      have e8 := tk_all nz1 ((M.getD i default).2.getD k default).2
      omega
    · have e : k = (M.getD i default).2.length := by omega
      have e8 := tk_all nzB (M.getD i default).2
      rw [← e] at e8; omega
  · have e : i = M.length := by omega
    subst e; rw [tk_all]⟩
instance NonZeros_c : Con 11 (∀ (w h q : Int) (b d : Bool) (l : List Int) (M : List Mbk), mw M ≤ 1048576 → Fn 11 [StA w h q b d l M] [] (I ((M.map nzM).sum : Nat))) := ⟨fun w h q b d l M hM => by
  refine FnC.of_body tabOk Try.func11 Try.ntmps11 rfl (by decide +kernel) (by simp) fun G => ?_
  have hall := nzAll_bd M
  have hmw : mw M = M.length + (M.map mn).sum := rfl
  refine go (r := ?_); and_intros <;> intros <;> try exact True.intro
  refine WpA.loop (fun i : Nat => ⟨[(1, .ptr 0 0 0), (3, I (tk nzM M i)), (9, MbL M), (10, I M.length), (11, I i)], [⟨[I w, I h, I q, B b, B d, IL l, MbL M], 0, 0, none⟩]⟩) (fun i => i ≤ M.length) (fun i => M.length - i) 0 (by omega) (go (r := ?_)) (fun i hi => ?_)
  · simp [tk_zero]
  have hs1 := fun h => tk_succ nzM M i h
  have hle1 := tk_le nzM M i
  have hle2 := tk_le nzM M (i + 1)
  have hsm := smM_of hM
  refine go (r := ?_); and_intros <;> intros <;> try exact True.intro
  · have hsi := smM_get hsm (k := i) (by omega)
    have hs1 := hs1 (by omega)
    refine WpA.loop (fun k : Nat => ⟨[(1, .ptr 0 0 0), (3, I (tk nzM M i + tk nzB (M.getD i default).2 k)), (9, MbL M), (10, I M.length), (11, I i), (16, BkL (M.getD i default).2), (17, I (M.getD i default).2.length), (18, I k)], [⟨[I w, I h, I q, B b, B d, IL l, MbL M], 0, 0, none⟩]⟩) (fun k => k ≤ (M.getD i default).2.length) (fun k => (M.getD i default).2.length - k) 0 (by omega) (go (r := ?_)) (fun k hk => ?_)
    · simp [tk_zero]
    have hs3 := fun h => tk_succ nzB (M.getD i default).2 k h
    have hle3 := tk_le nzB (M.getD i default).2 k
    have hle4 := tk_le nzB (M.getD i default).2 (k + 1)
    have e5 : nzM (M.getD i default) = ((M.getD i default).2.map nzB).sum := rfl
    have hsk := fun h => smB_get hsi.2 (k := k) h
    have e6 : nzB ((M.getD i default).2.getD k default) = (((M.getD i default).2.getD k default).2.map nz1).sum := rfl
    refine go (r := ?_); and_intros <;> intros <;> try exact True.intro
    have e : k = (M.getD i default).2.length := by omega
    have e8 := tk_all nzB (M.getD i default).2
    rw [← e] at e8; omega
  · have e : i = M.length := by omega
    subst e; rw [tk_all]⟩
/-! How often each mode occurs. -/
def modeNames : List (List UInt8) := [[109, 101, 97, 110], [100, 111, 119, 110], [97, 99, 114, 111, 115, 115], [115, 108, 111, 112, 101], [108, 101, 102, 116], [114, 105, 103, 104, 116]]
def modeW (m : Int) : List UInt8 := if 0 ≤ m ∧ m ≤ 5 then modeNames.getD m.toNat [] else []
def addAt (c : List Int) (m : Int) : List Int := if 0 ≤ m ∧ m ≤ 5 then c.set m.toNat (c.getD m.toNat 0 + 1) else c
def mcB (c : List Int) (bs : List Blok) (k : Nat) : List Int := (bs.take k).foldl (fun c b => addAt c b.1) c
def mcM (M : List Mbk) (i : Nat) : List Int := (M.take i).foldl (fun c m => mcB c m.2 m.2.length) [0, 0, 0, 0, 0, 0]
theorem mcB_succ (c : List Int) (bs : List Blok) (k : Nat) (h : k < bs.length) : mcB c bs (k + 1) = addAt (mcB c bs k) (bs.getD k default).1 := by unfold mcB; rw [take_snoc bs k h, List.foldl_append]; rfl
theorem mcM_succ (M : List Mbk) (i : Nat) (h : i < M.length) : mcM M (i + 1) = mcB (mcM M i) (M.getD i default).2 (M.getD i default).2.length := by unfold mcM; rw [take_snoc M i h, List.foldl_append]; rfl
theorem addAt_len (c : List Int) (m : Int) : (addAt c m).length = c.length := by unfold addAt; split <;> simp
theorem mcB_len (c : List Int) (bs : List Blok) (k : Nat) : (mcB c bs k).length = c.length := by
  unfold mcB
  generalize bs.take k = l
  induction l generalizing c with
  | nil => rfl
  | cons b l ih => rw [List.foldl_cons, ih, addAt_len]
theorem mcM_len (M : List Mbk) (i : Nat) : (mcM M i).length = 6 := by
  have key : ∀ (l : List Mbk) (c : List Int), (l.foldl (fun c m => mcB c m.2 m.2.length) c).length = c.length := by
    intro l
    induction l with
    | nil => intro c; rfl
    | cons b l ih => intro c; rw [List.foldl_cons, ih, mcB_len]
  unfold mcM; rw [key]; rfl
theorem in_mono {l : List Int} {lo hi hi2 : Int} (h : In l lo hi) (hh : hi ≤ hi2) : In l lo hi2 := by unfold In at *; intro v hv; have := h v hv; omega
theorem in_set {l : List Int} {lo hi v : Int} (h : In l lo hi) (hv : lo ≤ v ∧ v ≤ hi) (i : Nat) : In (l.set i v) lo hi := by
  unfold In at *; intro x hx
  rcases List.mem_or_eq_of_mem_set hx with hx | hx
  · exact h x hx
  · subst hx; exact hv
theorem addAt_in {c : List Int} {m n : Int} (h : In c 0 n) (hc : c.length = 6) : In (addAt c m) 0 (n + 1) := by
  unfold addAt; split
  · rename_i hm
    have := in_get h (k := m.toNat) (by omega)
    exact in_set (in_mono h (by omega)) (by omega) _
  · exact in_mono h (by omega)
theorem addAt_yes {c : List Int} {m : Int} (h : 0 ≤ m ∧ m ≤ 5) : addAt c m = c.set m.toNat (c.getD m.toNat 0 + 1) := if_pos h
theorem addAt_no {c : List Int} {m : Int} (h : ¬ (0 ≤ m ∧ m ≤ 5)) : addAt c m = c := if_neg h
instance ModeCounts_c : Con 10 (∀ (w h q : Int) (b d : Bool) (l : List Int) (M : List Mbk), mw M ≤ 1048576 → Fn 10 [StA w h q b d l M] [XI (mcM M M.length)] (.own 0 0 0 6)) := ⟨fun w h q b d l M hM => by
  refine FnC.of_body tabOk Try.func10 Try.ntmps10 rfl (by decide +kernel) (by simp) fun G => ?_
  have hmw : mw M = M.length + (M.map mn).sum := rfl
  have hl6 := mcM_len M
  refine go (r := ?_); and_intros <;> intros <;> try exact True.intro
  refine WpA.loop (fun i : Nat => ⟨[(1, .ptr 0 0 0), (3, .own 1 0 0 6), (10, MbL M), (11, I M.length), (12, I i)], [⟨[I w, I h, I q, B b, B d, IL l, MbL M], 0, 0, none⟩, XI (mcM M i)]⟩) (fun i => i ≤ M.length ∧ In (mcM M i) 0 (1048576 * i)) (fun i => M.length - i) 0 (by simp [mcM, In]) (go (r := ?_)) (fun i hi => ?_)
  · trivial
  have hs1 := fun h => mcM_succ M i h
  have hsm := smM_of hM
  have hl1 := hl6 i
  refine go (r := ?_); and_intros <;> intros <;> try exact True.intro
  · have hsi := smM_get hsm (k := i) (by omega)
    have hs1 := hs1 (by omega)
    refine WpA.loop (fun k : Nat => ⟨[(1, .ptr 0 0 0), (3, .own 1 0 0 6), (10, MbL M), (11, I M.length), (12, I i), (17, BkL (M.getD i default).2), (18, I (M.getD i default).2.length), (19, I k)], [⟨[I w, I h, I q, B b, B d, IL l, MbL M], 0, 0, none⟩, XI (mcB (mcM M i) (M.getD i default).2 k)]⟩) (fun k => k ≤ (M.getD i default).2.length ∧ In (mcB (mcM M i) (M.getD i default).2 k) 0 (1048576 * i + k)) (fun k => (M.getD i default).2.length - k) 0 (by simp [mcB, hi.2]) (go (r := ?_)) (fun k hk => ?_)
    · trivial
    have hs3 := fun h => mcB_succ (mcM M i) (M.getD i default).2 k h
    have hl2 := mcB_len (mcM M i) (M.getD i default).2 k
    have hbd := fun (m : Int) (hm : 0 ≤ m ∧ m ≤ 5) => in_get hk.2 (k := m.toNat) (by omega)
    have hyes := fun m h => addAt_yes (c := mcB (mcM M i) (M.getD i default).2 k) (m := m) h
    have hno := fun m h => addAt_no (c := mcB (mcM M i) (M.getD i default).2 k) (m := m) h
    have hin := addAt_in (m := ((M.getD i default).2.getD k default).1) hk.2 (by omega)
    have hb2 := hbd ((M.getD i default).2.getD k default).1
    refine go (r := ?_); and_intros <;> intros <;> try exact True.intro
    · rename_i hm; rw [hs3 (by omega), hyes _ hm]; rw [hyes _ hm] at hin; exact in_mono hin (by omega)
    · rename_i hm; rw [hs3 (by omega), hyes _ hm]
    · rename_i hm; rw [hs3 (by omega), hno _ hm]; rw [hno _ hm] at hin; exact in_mono hin (by omega)
    · rename_i hm; rw [hs3 (by omega), hno _ hm]
    all_goals have e : k = (M.getD i default).2.length := by omega
    · rw [hs1, ← e]; exact in_mono hk.2 (by omega)
    · rw [hs1, ← e]
  · have e : i = M.length := by omega
    rw [e]⟩
end Go.Proofs.Ytpokokcgoebbhaa

/- Contracts: headers, levels, blocks, macroblocks, streams that are right. No condition. -/
namespace Go.Proofs.Ytpokokcgoebbhaa
open Go Go.Abs
set_option linter.unusedVariables false
set_option linter.unusedSimpArgs false
set_option maxRecDepth 100000
set_option maxHeartbeats 4000000
attribute [local irreducible] WpA WpL Rnd Blk Abs.Seq Abs.Fin Abs.FinG FnC FnG Only

/-! Headers. -/
abbrev HdOk (w h q : Int) (l : List Int) : Prop := SidesOk w h ∧ (0 ≤ q ∧ q ≤ 51) ∧ CodeOk l
instance HeaderOk_s : Con 35 (∀ (w h q : Int) (b d : Bool) (l : List Int), l.length ≤ 1099511627776 → Fn 35 [HdA w h q b d l] [] (B (decide (HdOk w h q l)))) := ⟨fun w h q b d l hl => by
  have hs := stepL_pos q
  refine FnC.of_body tabOk Try.func35 Try.ntmps35 rfl (by decide +kernel) (by simp) fun G => ?_
  refine go (r := ?_); and_intros <;> intros <;> try exact True.intro
  all_goals simp_all⟩
instance HeaderOk_c : Con 76 (∀ (w h q : Int) (b d : Bool) (l : List Int), l.length ≤ 1099511627776 → Fn 76 [HdA w h q b d l] [] (B (decide (HdOk w h q l)))) := ⟨fun w h q b d l hl => by
  refine FnC.of_body tabOk Try.func76 Try.ntmps76 rfl (by decide +kernel) (by simp) fun G => ?_
  refine go (r := ?_); and_intros <;> intros <;> try exact True.intro
  all_goals simp_all⟩
def cntM (w h : Int) : Int := w / 8 * (h / 8)
theorem cntM_bd {w h : Int} (hs : SidesOk w h) : (0 ≤ w / 8 ∧ w / 8 ≤ 4) ∧ (0 ≤ h / 8 ∧ h / 8 ≤ 4) ∧ 0 ≤ cntM w h ∧ cntM w h ≤ 16 := by
  have h1 : 0 ≤ w / 8 ∧ w / 8 ≤ 4 := by omega
  have h2 : 0 ≤ h / 8 ∧ h / 8 ≤ 4 := by omega
  refine ⟨h1, h2, Int.mul_nonneg h1.1 h2.1, ?_⟩
  have := Int.mul_le_mul h1.2 h2.2 h2.1 (by decide)
  exact this
instance l24Count_s : Con 36 (∀ (w h q : Int) (b d : Bool) (l : List Int), SidesOk w h → Fn 36 [HdA w h q b d l] [] (I (cntM w h))) := ⟨fun w h q b d l hs => by
  have := cntM_bd hs
  unfold cntM at *
  refine FnC.of_body tabOk Try.func36 Try.ntmps36 rfl (by decide +kernel) (by simp) fun G => ?_
  refine go (r := ?_); and_intros <;> intros <;> try exact True.intro⟩
instance many_c : Con 77 (∀ (w h q : Int) (b d : Bool) (l : List Int), SidesOk w h → Fn 77 [HdA w h q b d l] [] (I (cntM w h))) := ⟨fun w h q b d l hs => by
  have := cntM_bd hs
  unfold cntM at *
  refine FnC.of_body tabOk Try.func77 Try.ntmps77 rfl (by decide +kernel) (by simp) fun G => ?_
  refine go (r := ?_); and_intros <;> intros <;> try exact True.intro⟩

/-! Levels. -/
abbrev LvOk (l : List Int) : Prop := In l (-16383) 16383 ∧ (l.length = 16 ∨ l.length = 64)
instance LevelsOk_s : Con 92 (∀ l : List Int, l.length ≤ 1099511627776 → Fn 92 [IL l] [] (B (decide (LvOk l)))) := ⟨fun l hl => by
  have hsp := side_pos l.length
  refine FnC.of_body tabOk Try.func92 Try.ntmps92 rfl (by decide +kernel) (by simp) fun G => ?_
  refine go (r := ?_); and_intros <;> intros <;> try exact True.intro
  refine WpA.loop (fun k : Nat => ⟨[(0, IL l), (3, I k)], []⟩) (fun k => k ≤ l.length ∧ In (l.take k) (-16383) 16383) (fun k => l.length - k) 0 (by simp [in_nil]) (go (r := ?_)) (fun k hk => ?_)
  · trivial
  have hi := fun h => in_snoc (lo := -16383) (hi := 16383) (l := l) (k := k) h
  refine go (r := ?_); and_intros <;> intros <;> try exact True.intro
  · have := notin (k := k) (by omega) ‹¬ (-16383 ≤ l.getD k 0 ∧ _)›; rw [eq_comm, decide_eq_false_iff_not] at *; exact fun h => this h.1
  · rw [hi (by omega)]; exact ⟨hk.2, ‹_›⟩
  all_goals have e : k = l.length := by omega
  all_goals subst e
  all_goals rw [List.take_length] at *
  simp [hk.2, hsp]⟩
instance LevelsOk_c : Con 67 (∀ l : List Int, l.length ≤ 1099511627776 → Fn 67 [IL l] [] (B (decide (LvOk l)))) := ⟨fun l hl => by
  have hsp := side_pos l.length
  refine FnC.of_body tabOk Try.func67 Try.ntmps67 rfl (by decide +kernel) (by simp) fun G => ?_
  refine go (r := ?_); and_intros <;> intros <;> try exact True.intro
  refine WpA.loop (fun k : Nat => ⟨[(0, IL l), (5, IL l), (6, I l.length), (7, I k)], []⟩) (fun k => k ≤ l.length ∧ In (l.take k) (-16383) 16383) (fun k => l.length - k) 0 (by simp [in_nil]) (go (r := ?_)) (fun k hk => ?_)
  · trivial
  have hi := fun h => in_snoc (lo := -16383) (hi := 16383) (l := l) (k := k) h
  refine go (r := ?_); and_intros <;> intros <;> try exact True.intro
  · have := notin (k := k) (by omega) ‹¬ (-16383 ≤ l.getD k 0 ∧ _)›; rw [eq_comm, decide_eq_false_iff_not] at *; exact fun h => this h.1
  · rw [hi (by omega)]; exact ⟨hk.2, ‹_›⟩
  all_goals have e : k = l.length := by omega
  all_goals subst e
  all_goals rw [List.take_length] at *
  simp [hk.2, hsp]⟩

/-! Blocks. -/
abbrev BlkOk (m : Int) (lv : List Int) (lens : List Int) (n : Int) : Prop := (n = 4 ∨ n = 8) ∧ HasC lens m ∧ (lv.length : Int) = n * n ∧ LvOk lv
instance BlockOk_s : Con 46 (∀ (m : Int) (lv lens : List Int) (n : Int), lv.length ≤ 1099511627776 ∧ lens.length ≤ 1099511627776 → Fn 46 [.agg [I m, IL lv], IL lens, I n] [] (B (decide (BlkOk m lv lens n)))) := ⟨fun m lv lens n hl => by
  have hp := symL_pos lens m
  have hnn : n = 4 ∨ n = 8 → 0 ≤ n * n ∧ n * n ≤ 64 := by rintro (rfl | rfl) <;> decide
  refine FnC.of_body tabOk Try.func46 Try.ntmps46 rfl (by decide +kernel) (by simp) fun G => ?_
  refine go (r := ?_); and_intros <;> intros <;> try exact True.intro
  all_goals simp_all⟩
instance BlockOk_c : Con 29 (∀ (m : Int) (lv lens : List Int) (n : Int), lv.length ≤ 1099511627776 ∧ lens.length ≤ 1099511627776 → Fn 29 [.agg [I m, IL lv], IL lens, I n] [] (B (decide (BlkOk m lv lens n)))) := ⟨fun m lv lens n hl => by
  have hp := symL_pos lens m
  have hnn : n = 4 ∨ n = 8 → 0 ≤ n * n ∧ n * n ≤ 64 := by rintro (rfl | rfl) <;> decide
  refine FnC.of_body tabOk Try.func29 Try.ntmps29 rfl (by decide +kernel) (by simp) fun G => ?_
  refine go (r := ?_); and_intros <;> intros <;> try exact True.intro
  all_goals simp_all⟩

/-! The first place that passes a test. -/
def ixF {α : Type} (p : α → Bool) (l : List α) : Int := if l.any p = true then (l.findIdx p : Int) else -1
theorem ixF_at {α : Type} [Inhabited α] {p : α → Bool} {l : List α} {i : Nat} (hi : i < l.length) (h0 : ∀ j < i, p (l.getD j default) = false) (h1 : p (l.getD i default) = true) : (i : Int) = ixF p l := by
  have hg : ∀ j (hj : j < l.length), l.getD j default = l[j] := fun j hj => by simp [hj]
  unfold ixF
  rw [if_pos (List.any_eq_true.2 ⟨l[i], List.getElem_mem hi, by rw [← hg i hi]; exact h1⟩)]
  congr 1
  rw [eq_comm, List.findIdx_eq hi]
  exact ⟨by rw [← hg i hi]; exact h1, fun j hj => by rw [← hg j (by omega)]; exact h0 j hj⟩
theorem ixF_no {α : Type} [Inhabited α] {p : α → Bool} {l : List α} (h0 : ∀ j < l.length, p (l.getD j default) = false) : -1 = ixF p l := by
  have hg : ∀ j (hj : j < l.length), l.getD j default = l[j] := fun j hj => by simp [hj]
  unfold ixF
  rw [if_neg]
  intro h
  obtain ⟨x, hx, hp⟩ := List.any_eq_true.1 h
  obtain ⟨j, hj, rfl⟩ := List.getElem_of_mem hx
  have := h0 j hj
  rw [hg j hj, hp] at this; cases this
theorem ixF_ge {α : Type} (p : α → Bool) (l : List α) : ixF p l ≥ 0 ↔ l.any p = true := by
  unfold ixF; split
  · rename_i h; simp [h]
  · rename_i h; simp [h]
/-! Macroblocks. -/
def badB (lens : List Int) (n : Int) (b : Blok) : Bool := decide (¬ BlkOk b.1 b.2 lens n)
abbrev fB (lens : List Int) (n : Int) : AV := .fn 48 [.iptr [IL lens] 0, .iptr [I n] 0]
instance MbOk1_c : Con 48 (∀ (m : Int) (lv lens : List Int) (n : Int), lv.length ≤ 1099511627776 ∧ lens.length ≤ 1099511627776 → Fn 48 [.agg [I m, IL lv], .iptr [IL lens] 0, .iptr [I n] 0] [] (B (badB lens n (m, lv)))) := ⟨fun m lv lens n hl => by
  unfold badB
  refine FnC.of_body tabOk Try.func48 Try.ntmps48 rfl (by decide +kernel) (by simp) fun G => ?_
  refine go (r := ?_); and_intros <;> intros <;> try exact True.intro
  all_goals simp_all⟩
instance IndexFuncB_c : Con 93 (∀ (l : List Blok) (lens : List Int) (n : Int), l.length ≤ 1099511627776 ∧ SmB 1099511627776 l ∧ lens.length ≤ 1099511627776 → Fn 93 [BkL l, fB lens n] [] (I (ixF (badB lens n) l))) := ⟨fun l lens n hl => by
  refine FnC.of_body tabOk Try.func93 Try.ntmps93 rfl (by decide +kernel) (by simp) fun G => ?_
  refine go (r := ?_); and_intros <;> intros <;> try exact True.intro
  refine WpA.loop (fun k : Nat => ⟨[(0, BkL l), (1, fB lens n), (7, I l.length), (8, I k)], []⟩) (fun k => k ≤ l.length ∧ ∀ j < k, badB lens n (l.getD j default) = false) (fun k => l.length - k) 0 (by simp) (go (r := ?_)) (fun k hk => ?_)
  · trivial
  have hg := fun h => smB_get hl.2.1 (k := k) h
  refine go (r := ?_); and_intros <;> intros <;> try exact True.intro
  · exact ixF_at (by omega) hk.2 (by unfold badB; exact decide_eq_true ‹_›)
  · rename_i j hj; by_cases h : j = k
    · subst h; unfold badB; exact decide_eq_false ‹_›
    · exact hk.2 j (by omega)
  all_goals (have e : k = l.length := by omega); subst e; exact ixF_no hk.2⟩
end Go.Proofs.Ytpokokcgoebbhaa

/- Plain: levels placed in a square, scaled, rounded; residuals. No condition. -/
namespace Go.Proofs.Ytpokokcgoebbhaa
open Go Go.Abs
set_option linter.unusedVariables false
set_option linter.unusedSimpArgs false
set_option maxRecDepth 100000

/-- So many levels placed. -/
def plcK (o l : List Int) : Nat → List Int
  | 0 => List.replicate o.length 0
  | k + 1 => (plcK o l k).set (o.getD k 0).toNat (l.getD k 0)
def plcL (l : List Int) : List Int := plcK (scanL (side l.length)) l (scanL (side l.length)).length
/-- By what a place is scaled. -/
def normL (n i : Int) : Int := if (n = 4 ∨ n = 8) ∧ 0 ≤ i ∧ i ≤ n * n - 1 then (if n = 8 then 1 else if i / 4 % 2 + i % 4 % 2 = 0 then 100 else if i / 4 % 2 + i % 4 % 2 = 2 then 16 else 40) else 0
def scaF (l : List Int) (q : Int) (i : Nat) : Int := l.getD i 0 * stepL q * normL (side l.length) i
def scaL (l : List Int) (q : Int) : List Int := if LvOk l ∧ 0 < stepL q then tabL (scaF l q) l.length else []
/-- Divided by the norm, to the nearest. -/
def rnd1 (k : Nat) (v : Int) : Int := if k = 16 then (max (-1000000000000) (min 1000000000000 v) + 800) / 1600 else (max (-1000000000000) (min 1000000000000 v) + 32) / 64
def rndL (l : List Int) : List Int := if 0 < side l.length then l.map (rnd1 l.length) else []
/-- What levels come to. -/
def resL (b : Bool) (q : Int) (l : List Int) : List Int := if LvOk l ∧ 0 < stepL q then (if b = true then plcL l else rndL (trL (side l.length) true (scaL (plcL l) q))) else []
end Go.Proofs.Ytpokokcgoebbhaa

/- Plain: with the finest step the levels of a small residual restore it. No condition. -/
namespace Go.Proofs.Ytpokokcgoebbhaa
open Go Go.Abs
set_option linter.unusedVariables false
set_option linter.unusedSimpArgs false
set_option maxRecDepth 100000

def u4 (j : Nat) : Int := if j % 2 = 0 then 10 else 4
end Go.Proofs.Ytpokokcgoebbhaa
