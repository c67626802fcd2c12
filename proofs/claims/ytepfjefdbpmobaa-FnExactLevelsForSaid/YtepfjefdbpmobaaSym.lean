/- Contracts: the bits of a mode, whether it has a code, which mode a block gets; the law FnExactModeFor. No condition. -/
import Derived.Test.YtepfjefdbpmobaaKraft
namespace Go.Proofs.Ytepfjefdbpmobaa
open Go Go.Abs
set_option linter.unusedVariables false
set_option linter.unusedSimpArgs false
set_option maxRecDepth 100000
set_option maxHeartbeats 4000000
attribute [local irreducible] WpA WpL Rnd Blk Abs.Seq Abs.Fin Abs.FinG FnC FnG Only

def HasC (l : List Int) (m : Int) : Prop := CodeOk l ∧ (0 ≤ m ∧ m ≤ 5) ∧ l.getD m.toNat 0 ≠ 0
instance (l : List Int) (m : Int) : Decidable (HasC l m) := by unfold HasC; infer_instance
def symL (l : List Int) (m : Int) : List Int := if HasC l m then bitsL ((codes l).getD m.toNat 0) (l.getD m.toNat 0) else []
theorem sym_fit {l : List Int} {m : Int} (h : HasC l m) : (1 ≤ l.getD m.toNat 0 ∧ l.getD m.toNat 0 ≤ 7) ∧ 0 ≤ (codes l).getD m.toNat 0 ∧ (codes l).getD m.toNat 0 ≤ 127 ∧ bitOk ((codes l).getD m.toNat 0) (l.getD m.toNat 0) := by
  obtain ⟨h1, h2, h3⟩ := h
  have a := code_in h1 (m := m.toNat) (by omega)
  have b := code_fit h1 (m := m.toNat) (by omega) h3
  have c := code_lt h1 (m := m.toNat) (by omega) h3
  have d : (codes l).getD m.toNat 0 ≤ 127 := by
    have : (2 : Int) ^ (l.getD m.toNat 0).toNat ≤ 2 ^ 7 := by
      have := Nat.pow_le_pow_right (n := 2) (by decide) (show (l.getD m.toNat 0).toNat ≤ 7 by omega)
      exact_mod_cast this
    omega
  exact ⟨by omega, b.1, d, by omega, b.1, Int.ediv_eq_zero_of_lt b.1 c⟩
theorem symL_len (l : List Int) (m : Int) : ((symL l m).length : Int) = if HasC l m then l.getD m.toNat 0 else 0 := by
  unfold symL
  split
  · rename_i h
    obtain ⟨h1, h2, h3, h4⟩ := sym_fit h
    rw [bitsL, if_pos h4, bitsR_len]; omega
  · rfl
theorem symL_pos (l : List Int) (m : Int) : 0 < (symL l m).length ↔ HasC l m := by
  have := symL_len l m
  split at this
  · rename_i h; have := (sym_fit h).1; constructor <;> intro _ <;> first | assumption | omega
  · rename_i h; constructor
    · intro h'; omega
    · intro h'; exact absurd h' h
instance SymBits_s : Con 70 (∀ (l : List Int) (m : Int), l.length ≤ 1099511627776 → Fn 70 [IL l, I m] [XI (symL l m)] (.own 0 0 0 (symL l m).length)) := ⟨fun l m hl => by
  by_cases h : HasC l m
  · obtain ⟨h1, h2, h3⟩ := id h
    obtain ⟨f1, f2, f3, f4⟩ := sym_fit h
    have h6 := h1.2.1
    have e := codesR_ok l h1
    have h7 : (codesR l).length = 6 := codesR_len l h1
    rw [← e] at f2 f3
    refine FnC.of_body tabOk Try.func70 Try.ntmps70 rfl (by decide +kernel) (by simp) fun G => ?_
    refine go (r := ?_); and_intros <;> intros <;> try exact True.intro
    all_goals first | (exact absurd ‹CodeOk l› ‹¬ CodeOk l›) | (exact absurd h1 (by assumption)) | (exact absurd h2 (by assumption)) | (exact absurd (by assumption) h3) | skip
    · rw [symL, if_pos h, e]
    · rw [symL, if_pos h, e]
  · have e : symL l m = [] := by rw [symL, if_neg h]
    by_cases hc : CodeOk l
    · have h6 := hc.2.1
      have h7 : (codes l).length = 6 := by rw [codes_len, h6]
      by_cases hm : 0 ≤ m ∧ m ≤ 5
      · have h0 : l.getD m.toNat 0 = 0 := Decidable.not_not.1 fun hh => h ⟨hc, hm, hh⟩
        refine FnC.of_body tabOk Try.func70 Try.ntmps70 rfl (by decide +kernel) (by simp) fun G => ?_
        refine go (r := ?_); and_intros <;> intros <;> try exact True.intro
        all_goals first | (rw [e]; done) | (rw [e]; rfl) | skip
      · refine FnC.of_body tabOk Try.func70 Try.ntmps70 rfl (by decide +kernel) (by simp) fun G => ?_
        refine go (r := ?_); and_intros <;> intros <;> try exact True.intro
        all_goals first | (rw [e]; done) | (rw [e]; rfl) | skip
    · refine FnC.of_body tabOk Try.func70 Try.ntmps70 rfl (by decide +kernel) (by simp) fun G => ?_
      refine go (r := ?_); and_intros <;> intros <;> try exact True.intro
      all_goals first | (rw [e]; done) | (rw [e]; rfl) | skip⟩
instance SymBits_c : Con 115 (∀ (l : List Int) (m : Int), l.length ≤ 1099511627776 → Fn 115 [IL l, I m] [XI (symL l m)] (.own 0 0 0 (symL l m).length)) := ⟨fun l m hl => by
  by_cases h : HasC l m
  · obtain ⟨h1, h2, h3⟩ := id h
    obtain ⟨f1, f2, f3, f4⟩ := sym_fit h
    have h6 := h1.2.1
    have h7 : (codes l).length = 6 := by rw [codes_len, h6]
    refine FnC.of_body tabOk Try.func115 Try.ntmps115 rfl (by decide +kernel) (by simp) fun G => ?_
    refine go (r := ?_); and_intros <;> intros <;> try exact True.intro
    all_goals first | (exact absurd ‹CodeOk l› ‹¬ CodeOk l›) | (exact absurd h1 (by assumption)) | (exact absurd h2 (by assumption)) | (exact absurd (by assumption) h3) | skip
    · rw [symL, if_pos h]
    · rw [symL, if_pos h]
  · have e : symL l m = [] := by rw [symL, if_neg h]
    by_cases hc : CodeOk l
    · have h6 := hc.2.1
      have h7 : (codes l).length = 6 := by rw [codes_len, h6]
      by_cases hm : 0 ≤ m ∧ m ≤ 5
      · have h0 : l.getD m.toNat 0 = 0 := Decidable.not_not.1 fun hh => h ⟨hc, hm, hh⟩
        refine FnC.of_body tabOk Try.func115 Try.ntmps115 rfl (by decide +kernel) (by simp) fun G => ?_
        refine go (r := ?_); and_intros <;> intros <;> try exact True.intro
        all_goals first | (rw [e]; done) | (rw [e]; rfl) | skip
      · refine FnC.of_body tabOk Try.func115 Try.ntmps115 rfl (by decide +kernel) (by simp) fun G => ?_
        refine go (r := ?_); and_intros <;> intros <;> try exact True.intro
        all_goals first | (rw [e]; done) | (rw [e]; rfl) | skip
    · refine FnC.of_body tabOk Try.func115 Try.ntmps115 rfl (by decide +kernel) (by simp) fun G => ?_
      refine go (r := ?_); and_intros <;> intros <;> try exact True.intro
      all_goals first | (rw [e]; done) | (rw [e]; rfl) | skip⟩
instance hasCode_c : Con 71 (∀ (l : List Int) (m : Int), l.length ≤ 1099511627776 → Fn 71 [IL l, I m] [] (B (decide (HasC l m)))) := ⟨fun l m hl => by
  have := symL_pos l m
  refine FnC.of_body tabOk Try.func71 Try.ntmps71 rfl (by decide +kernel) (by simp) fun G => ?_
  refine go (r := ?_); and_intros <;> intros <;> try exact True.intro
  all_goals (rw [decide_eq_decide]; rw [← symL_pos]; omega)⟩

/-! The first mode with a code. -/
def firstM (l : List Int) : Nat := l.findIdx (fun x => decide (x ≠ 0))
theorem firstM_eq {l : List Int} {k : Nat} (hk : k < l.length) (h0 : ∀ j < k, l.getD j 0 = 0) (h1 : l.getD k 0 ≠ 0) : firstM l = k := by
  unfold firstM
  rw [List.findIdx_eq hk]
  refine ⟨by simpa [hk] using h1, fun j hj => ?_⟩
  have := h0 j hj
  simpa [show j < l.length by omega] using this
theorem code_some {l : List Int} (h : CodeOk l) : ∃ m, m < 6 ∧ l.getD m 0 ≠ 0 := by
  obtain ⟨m, a, b, _⟩ := code_cov h (v := 0) (by omega) (by omega)
  exact ⟨m, a, b⟩
theorem firstM_has {l : List Int} (h : CodeOk l) : firstM l < 6 ∧ l.getD (firstM l) 0 ≠ 0 := by
  obtain ⟨m, a, b⟩ := code_some h
  have h6 := h.2.1
  have hx : ∃ x ∈ l, decide (x ≠ 0) = true := ⟨l.getD m 0, by simp [show m < l.length by omega], by simpa using b⟩
  have := List.findIdx_lt_length_of_exists hx
  have h2 := List.findIdx_getElem (w := this)
  unfold firstM
  refine ⟨by omega, ?_⟩
  rw [List.getD_eq_getElem?_getD, List.getElem?_eq_getElem this]; simpa using h2
def modeF (q : Int) (l ms : List Int) (k : Int) : Int := if OptOk q l ∧ 0 ≤ k then
  (if ms ≠ [] ∧ HasC l (ms.getD (k % ms.length).toNat 0) then ms.getD (k % ms.length).toNat 0 else firstM l) else -1
theorem has_code {l : List Int} (h : CodeOk l) {k : Nat} (hk : k < 6) : HasC l (k : Int) ↔ l.getD k 0 ≠ 0 := by
  unfold HasC; simp only [Int.toNat_natCast]
  constructor
  · rintro ⟨_, _, h⟩; exact h
  · intro h'; exact ⟨h, by omega, h'⟩
abbrev OpO (q : Int) (b d : Bool) (l m : List Int) (e : List Bool) : AObj := ⟨[I q, B b, B d, IL l, IL m, BL e], 0, 0, none⟩
theorem modeF_own {q : Int} {l ms : List Int} {k : Int} (h : OptOk q l ∧ 0 ≤ k) (h1 : (ms.length : Int) > 0) (h2 : HasC l (ms.getD (k % ms.length).toNat 0)) : ms.getD (k % ms.length).toNat 0 = modeF q l ms k := by
  rw [modeF, if_pos h, if_pos ⟨by rintro rfl; simp at h1, h2⟩]
theorem modeF_first {q : Int} {l ms : List Int} {k : Int} {i : Nat} (h : OptOk q l ∧ 0 ≤ k) (h1 : ¬ ((ms.length : Int) > 0) ∨ ¬ HasC l (ms.getD (k % ms.length).toNat 0)) (hi : i < 6) (h2 : ∀ j < i, l.getD j 0 = 0) (h3 : l.getD i 0 ≠ 0) : (i : Int) = modeF q l ms k := by
  have h6 := h.1.2.2.1
  rw [modeF, if_pos h, if_neg, firstM_eq (by omega) h2 h3]
  rintro ⟨a, b⟩
  rcases h1 with h1 | h1
  · exact a (List.eq_nil_of_length_eq_zero (by omega))
  · exact h1 b
theorem first_go {l : List Int} (h : CodeOk l) {i : Nat} (hi : i < 6) (h1 : ∀ j < i, l.getD j 0 = 0) (h2 : l.getD i 0 = 0) : i + 1 < 6 ∧ ∀ j < i + 1, l.getD j 0 = 0 := by
  have key : ∀ j < i + 1, l.getD j 0 = 0 := by
    intro j hj
    by_cases e : j = i
    · subst e; exact h2
    · exact h1 j (by omega)
  refine ⟨?_, key⟩
  obtain ⟨m, a, b⟩ := code_some h
  rcases Nat.lt_or_ge (i + 1) 6 with h' | h'
  · exact h'
  · exact absurd (key m (by omega)) b
instance ModeFor_s : Con 27 (∀ (q : Int) (b d : Bool) (l m : List Int) (e : List Bool) (k : Int), l.length ≤ 1099511627776 ∧ m.length ≤ 1099511627776 → Fn 27 [OpA q b d l m e, I k] [] (I (modeF q l m k))) := ⟨fun q b d l m e k hl => by
  refine FnC.of_body tabOk Try.func27 Try.ntmps27 rfl (by decide +kernel) (by simp) fun G => ?_
  by_cases h : OptOk q l ∧ 0 ≤ k
  · obtain ⟨h0, hk⟩ := id h
    have h1 := h0.2
    have h6 := h1.2.1
    have hrem := Int.emod_lt_of_pos k (b := m.length)
    have hrem0 := fun (hz : (m.length : Int) ≠ 0) => Int.emod_nonneg k hz
    refine go (r := ?_); and_intros <;> intros <;> try exact True.intro
    all_goals first | (exact absurd h0 ‹¬ OptOk q l›) | skip
    · exact modeF_own h ‹_› ((symL_pos _ _).1 (by omega))
    · have hx : ¬ ((m.length : Int) > 0) ∨ ¬ HasC l (m.getD (k % m.length).toNat 0) := .inr (fun hh => by have := (symL_pos _ _).2 hh; omega)
      refine WpA.loop (fun i : Nat => ⟨[(2, .ptr 0 0 0), (6, I i)], [OpO q b d l m e]⟩) (fun i => i < 6 ∧ ∀ j < i, l.getD j 0 = 0) (fun i => 6 - i) 0 (by simp) (go (r := trivial)) (fun i hi => ?_)
      refine go (r := ?_); and_intros <;> intros <;> try exact True.intro
      · exact (first_go h1 hi.1 hi.2 ‹_›).1
      · exact (first_go h1 hi.1 hi.2 ‹_›).2 _ ‹_›
      · exact modeF_first h hx hi.1 hi.2 ‹_›
    · have hx : ¬ ((m.length : Int) > 0) ∨ ¬ HasC l (m.getD (k % m.length).toNat 0) := .inl ‹_›
      refine WpA.loop (fun i : Nat => ⟨[(2, .ptr 0 0 0), (6, I i)], [OpO q b d l m e]⟩) (fun i => i < 6 ∧ ∀ j < i, l.getD j 0 = 0) (fun i => 6 - i) 0 (by simp) (go (r := trivial)) (fun i hi => ?_)
      refine go (r := ?_); and_intros <;> intros <;> try exact True.intro
      · exact (first_go h1 hi.1 hi.2 ‹_›).1
      · exact (first_go h1 hi.1 hi.2 ‹_›).2 _ ‹_›
      · exact modeF_first h hx hi.1 hi.2 ‹_›
  · refine go (r := ?_); and_intros <;> intros <;> try exact True.intro
    all_goals first | (exact absurd ⟨‹_›, by omega⟩ h) | (rw [modeF, if_neg h]; done) | skip⟩
instance ModeFor_c : Con 28 (∀ (q : Int) (b d : Bool) (l m : List Int) (e : List Bool) (k : Int), l.length ≤ 1099511627776 ∧ m.length ≤ 1099511627776 → Fn 28 [OpA q b d l m e, I k] [] (I (modeF q l m k))) := ⟨fun q b d l m e k hl => by
  refine FnC.of_body tabOk Try.func28 Try.ntmps28 rfl (by decide +kernel) (by simp) fun G => ?_
  by_cases h : OptOk q l ∧ 0 ≤ k
  · obtain ⟨h0, hk⟩ := id h
    have h1 := h0.2
    have h6 := h1.2.1
    have hrem := Int.emod_lt_of_pos k (b := m.length)
    have hrem0 := fun (hz : (m.length : Int) ≠ 0) => Int.emod_nonneg k hz
    refine go (r := ?_); and_intros <;> intros <;> try exact True.intro
    all_goals first | (exact absurd h0 ‹¬ OptOk q l›) | skip
    · exact modeF_own h ‹_› ‹_›
    · have hx : ¬ ((m.length : Int) > 0) ∨ ¬ HasC l (m.getD (k % m.length).toNat 0) := .inr ‹_›
      refine WpA.loop (fun i : Nat => ⟨[(2, .ptr 0 0 0), (5, I i)], [OpO q b d l m e]⟩) (fun i => i < 6 ∧ ∀ j < i, l.getD j 0 = 0) (fun i => 6 - i) 0 (by simp) (go (r := trivial)) (fun i hi => ?_)
      have hc := has_code h1 hi.1
      refine go (r := ?_); and_intros <;> intros <;> try exact True.intro
      · exact (first_go h1 hi.1 hi.2 (Decidable.not_not.1 (fun hh => ‹¬ HasC l _› (hc.2 hh)))).1
      · exact (first_go h1 hi.1 hi.2 (Decidable.not_not.1 (fun hh => ‹¬ HasC l _› (hc.2 hh)))).2 _ ‹_›
      · exact modeF_first h hx hi.1 hi.2 (hc.1 ‹_›)
    · have hx : ¬ ((m.length : Int) > 0) ∨ ¬ HasC l (m.getD (k % m.length).toNat 0) := .inl ‹_›
      refine WpA.loop (fun i : Nat => ⟨[(2, .ptr 0 0 0), (5, I i)], [OpO q b d l m e]⟩) (fun i => i < 6 ∧ ∀ j < i, l.getD j 0 = 0) (fun i => 6 - i) 0 (by simp) (go (r := trivial)) (fun i hi => ?_)
      have hc := has_code h1 hi.1
      refine go (r := ?_); and_intros <;> intros <;> try exact True.intro
      · exact (first_go h1 hi.1 hi.2 (Decidable.not_not.1 (fun hh => ‹¬ HasC l _› (hc.2 hh)))).1
      · exact (first_go h1 hi.1 hi.2 (Decidable.not_not.1 (fun hh => ‹¬ HasC l _› (hc.2 hh)))).2 _ ‹_›
      · exact modeF_first h hx hi.1 hi.2 (hc.1 ‹_›)
  · refine go (r := ?_); and_intros <;> intros <;> try exact True.intro
    all_goals first | (exact absurd ⟨‹_›, by omega⟩ h) | (rw [modeF, if_neg h]; done) | skip⟩
end Go.Proofs.Ytepfjefdbpmobaa
