/- The codes of a whole prefix code: each fits its length, no code begins another one, and all words of seven bits begin with one. No condition. -/
import Derived.Test.YtepfjefdbpmobaaCode
namespace Go.Proofs.Ytepfjefdbpmobaa
open Go Go.Abs
set_option linter.unusedVariables false
set_option linter.unusedSimpArgs false

def Dn (l : List Int) (w : Int) (i m : Nat) : Prop := (1 ≤ l.getD m 0 ∧ l.getD m 0 < w) ∨ (l.getD m 0 = w ∧ m < i)
def hit (c l : List Int) (m : Nat) (v : Int) : Prop := c.getD m 0 * cw (l.getD m 0) ≤ v ∧ v < (c.getD m 0 + 1) * cw (l.getD m 0)
structure J (l : List Int) (w p : Int) (i : Nat) (s : List Int × Int) : Prop where
  len : s.1.length = l.length
  lo : 0 ≤ s.2
  cod : ∀ m, m < l.length → Dn l w i m → 0 ≤ s.1.getD m 0 ∧ (s.1.getD m 0 + 1) * cw (l.getD m 0) ≤ s.2 * p
  cov : ∀ v, 0 ≤ v → v < s.2 * p → ∃ m, m < l.length ∧ Dn l w i m ∧ hit s.1 l m v
  uni : ∀ m m' v, m < l.length → m' < l.length → Dn l w i m → Dn l w i m' → hit s.1 l m v → hit s.1 l m' v → m = m'

theorem getD_set (c : List Int) (i m : Nat) (v : Int) (h : i < c.length) : (c.set i v).getD m 0 = if m = i then v else c.getD m 0 := by
  rw [List.getD_eq_getElem?_getD, List.getElem?_set]
  by_cases e : i = m
  · subst e; simp [h]
  · have : ¬ m = i := fun h => e h.symm
    simp [e, this]
theorem J.step {l : List Int} {w p : Int} {i : Nat} {s : List Int × Int} (h : J l w p i s) (hi : i < l.length) (hp : cw w = p) (hp0 : 0 < p) (hw : 1 ≤ w) :
    J l w p (i + 1) (if l.getD i 0 = w then (s.1.set i s.2, s.2 + 1) else s) := by
  by_cases e : l.getD i 0 = w
  · rw [if_pos e]
    have hl := h.len
    have hmul : (s.2 + 1) * p = s.2 * p + p := by rw [Int.add_mul, Int.one_mul]
    have hD : ∀ m, Dn l w (i + 1) m ↔ Dn l w i m ∨ m = i := by
      intro m; unfold Dn; constructor
      · rintro (h | ⟨h1, h2⟩)
        · exact .inl (.inl h)
        · by_cases hm : m = i
          · exact .inr hm
          · exact .inl (.inr ⟨h1, by omega⟩)
      · rintro ((h | ⟨h1, h2⟩) | rfl)
        · exact .inl h
        · exact .inr ⟨h1, by omega⟩
        · exact .inr ⟨e, by omega⟩
    have hne : ∀ m, Dn l w i m → m ≠ i := by
      rintro m (h | ⟨_, h⟩) rfl
      · omega
      · omega
    have hg : ∀ m, (s.1.set i s.2).getD m 0 = if m = i then s.2 else s.1.getD m 0 := fun m => getD_set s.1 i m s.2 (by omega)
    have hhit : ∀ m v, m ≠ i → (hit (s.1.set i s.2) l m v ↔ hit s.1 l m v) := by intro m v hm; unfold hit; rw [hg, if_neg hm]
    have hhi : ∀ v, hit (s.1.set i s.2) l i v ↔ s.2 * p ≤ v ∧ v < s.2 * p + p := by intro v; unfold hit; rw [hg, if_pos rfl, e, hp, hmul]
    refine ⟨by simp [hl], by have := h.lo; simp only; omega, fun m hm hd => ?_, fun v h0 hv => ?_, fun m m' v hm hm' hd hd' h1 h2 => ?_⟩
    · show 0 ≤ (s.1.set i s.2).getD m 0 ∧ ((s.1.set i s.2).getD m 0 + 1) * _ ≤ (s.2 + 1) * p
      rw [hg, hmul]
      rcases (hD m).1 hd with hd | rfl
      · rw [if_neg (hne m hd)]; have := h.cod m hm hd; omega
      · rw [if_pos rfl, e, hp, hmul]; have := h.lo; omega
    · have hv : v < (s.2 + 1) * p := hv
      rw [hmul] at hv
      by_cases hlt : v < s.2 * p
      · obtain ⟨m, h1, h2, h3⟩ := h.cov v h0 hlt
        exact ⟨m, h1, (hD m).2 (.inl h2), (hhit m v (hne m h2)).2 h3⟩
      · exact ⟨i, hi, (hD i).2 (.inr rfl), (hhi v).2 ⟨by omega, hv⟩⟩
    · rcases (hD m).1 hd with d1 | rfl <;> rcases (hD m').1 hd' with d2 | e2
      · exact h.uni m m' v hm hm' d1 d2 ((hhit m v (hne m d1)).1 h1) ((hhit m' v (hne m' d2)).1 h2)
      · subst e2
        have a := (hhit m v (hne m d1)).1 h1
        have b := (hhi v).1 h2
        have c := h.cod m hm d1
        unfold hit at a; omega
      · have a := (hhit m' v (hne m' d2)).1 h2
        have b := (hhi v).1 h1
        have c := h.cod m' hm' d2
        unfold hit at a; omega
      · exact e2.symm
  · rw [if_neg e]
    have hD : ∀ m, Dn l w (i + 1) m ↔ Dn l w i m := by
      intro m; unfold Dn; constructor
      · rintro (h | ⟨h1, h2⟩)
        · exact .inl h
        · refine .inr ⟨h1, ?_⟩
          have : m ≠ i := by rintro rfl; exact e h1
          omega
      · rintro (h | ⟨h1, h2⟩)
        · exact .inl h
        · exact .inr ⟨h1, by omega⟩
    exact ⟨h.len, h.lo, fun m hm hd => h.cod m hm ((hD m).1 hd), fun v h0 hv => by
      obtain ⟨m, h1, h2, h3⟩ := h.cov v h0 hv
      exact ⟨m, h1, (hD m).2 h2, h3⟩, fun m m' v hm hm' hd hd' => h.uni m m' v hm hm' ((hD m).1 hd) ((hD m').1 hd')⟩
theorem J.level {l : List Int} {w p q : Int} {s : List Int × Int} (h : J l w p l.length s) (hpq : p = 2 * q) (hw : 1 ≤ w) : J l (w + 1) q 0 (s.1, s.2 * 2) := by
  have e : s.2 * 2 * q = s.2 * p := by rw [hpq, Int.mul_assoc]
  have hD : ∀ m, m < l.length → (Dn l (w + 1) 0 m ↔ Dn l w l.length m) := by
    intro m hm; unfold Dn; constructor
    · rintro (h | ⟨h1, h2⟩)
      · by_cases hw : l.getD m 0 = w
        · exact .inr ⟨hw, hm⟩
        · exact .inl (by omega)
      · omega
    · rintro (h | ⟨h1, h2⟩)
      · exact .inl (by omega)
      · exact .inl (by omega)
  refine ⟨h.len, ?_, fun m hm hd => ?_, fun v h0 hv => ?_, fun m m' v hm hm' hd hd' => h.uni m m' v hm hm' ((hD m hm).1 hd) ((hD m' hm').1 hd')⟩
  · show 0 ≤ s.2 * 2
    have := h.lo; omega
  · show 0 ≤ s.1.getD m 0 ∧ _ ≤ s.2 * 2 * q
    rw [e]; exact h.cod m hm ((hD m hm).1 hd)
  · have hv : v < s.2 * 2 * q := hv
    rw [e] at hv
    obtain ⟨m, h1, h2, h3⟩ := h.cov v h0 hv
    exact ⟨m, h1, (hD m h1).2 h2, h3⟩
theorem J.inn {l : List Int} {w p : Int} {s : List Int × Int} (h : J l w p 0 s) (hp : cw w = p) (hp0 : 0 < p) (hw : 1 ≤ w) : ∀ i, i ≤ l.length → J l w p i (cIn w l i s)
  | 0, _ => h
  | i + 1, hi => by rw [cIn]; exact J.step (J.inn h hp hp0 hw i (by omega)) (by omega) hp hp0 hw
theorem J7 (l : List Int) : J l 7 1 l.length (cOut l 7) := by
  have j0 : J l 1 64 0 ((cOut l 0).1, (cOut l 0).2 * 2) := by
    refine ⟨by simp [cOut], by simp [cOut], fun m hm hd => ?_, fun v h0 hv => ?_, fun m m' v hm hm' hd => ?_⟩
    · unfold Dn at hd; omega
    · have : v < 0 := by simpa [cOut] using hv
      omega
    · unfold Dn at hd; omega
  have j1 := (J.inn j0 (by decide) (by decide) (by decide) l.length (Nat.le_refl _)).level (q := 32) (by decide) (by decide)
  have j2 := (J.inn j1 (by decide) (by decide) (by decide) l.length (Nat.le_refl _)).level (q := 16) (by decide) (by decide)
  have j3 := (J.inn j2 (by decide) (by decide) (by decide) l.length (Nat.le_refl _)).level (q := 8) (by decide) (by decide)
  have j4 := (J.inn j3 (by decide) (by decide) (by decide) l.length (Nat.le_refl _)).level (q := 4) (by decide) (by decide)
  have j5 := (J.inn j4 (by decide) (by decide) (by decide) l.length (Nat.le_refl _)).level (q := 2) (by decide) (by decide)
  have j6 := (J.inn j5 (by decide) (by decide) (by decide) l.length (Nat.le_refl _)).level (q := 1) (by decide) (by decide)
  exact J.inn j6 (by decide) (by decide) (by decide) l.length (Nat.le_refl _)
theorem cIn_cnt (w : Int) (l : List Int) (s : List Int × Int) : ∀ i, i ≤ l.length → (cIn w l i s).2 = s.2 + ((l.take i).count w : Nat)
  | 0, _ => by simp [cIn]
  | i + 1, hi => by
    have ih := cIn_cnt w l s i (by omega)
    rw [cIn, List.take_succ_eq_append_getElem (by omega), List.count_append]
    have e : l.getD i 0 = l[i] := by simp [show i < l.length by omega]
    rw [e]
    by_cases h : l[i] = w
    · rw [if_pos h]; simp only [h, List.count_singleton_self]; omega
    · rw [if_neg h]; simp only [List.count_singleton, beq_iff_eq, h, if_false]; omega
theorem csum_cnt (l : List Int) (h : In l 0 7) : csum l = 64 * (l.count 1 : Nat) + 32 * (l.count 2 : Nat) + 16 * (l.count 3 : Nat) + 8 * (l.count 4 : Nat) + 4 * (l.count 5 : Nat) + 2 * (l.count 6 : Nat) + (l.count 7 : Nat) := by
  induction l with
  | nil => simp [csum]
  | cons x l ih =>
    have hx : 0 ≤ x ∧ x ≤ 7 := by unfold In at h; exact h x (by simp)
    have ih := ih (by unfold In at *; exact fun v hv => h v (List.mem_cons_of_mem _ hv))
    have hc : csum (x :: l) = cw x + csum l := by unfold csum; simp
    have key : ∀ k : Fin 8, cw (k.val : Int) + csum l = 64 * ((((k.val : Int) :: l).count 1 : Nat) : Int) + 32 * (((k.val : Int) :: l).count 2 : Nat) + 16 * (((k.val : Int) :: l).count 3 : Nat) + 8 * (((k.val : Int) :: l).count 4 : Nat) + 4 * (((k.val : Int) :: l).count 5 : Nat) + 2 * (((k.val : Int) :: l).count 6 : Nat) + (((k.val : Int) :: l).count 7 : Nat) := by
      have c0 : cw 0 = 0 := by decide
      have c1 : cw 1 = 64 := by decide
      have c2 : cw 2 = 32 := by decide
      have c3 : cw 3 = 16 := by decide
      have c4 : cw 4 = 8 := by decide
      have c5 : cw 5 = 4 := by decide
      have c6 : cw 6 = 2 := by decide
      have c7 : cw 7 = 1 := by decide
      rintro ⟨k, hk⟩
      rcases (by omega : k = 0 ∨ k = 1 ∨ k = 2 ∨ k = 3 ∨ k = 4 ∨ k = 5 ∨ k = 6 ∨ k = 7) with rfl | rfl | rfl | rfl | rfl | rfl | rfl | rfl <;> simp [List.count_cons, c0, c1, c2, c3, c4, c5, c6, c7] <;> omega
    obtain ⟨k, rfl⟩ : ∃ k : Nat, x = k := ⟨x.toNat, by omega⟩
    rw [hc]; exact key ⟨k, by omega⟩
theorem next7 (l : List Int) (h : In l 0 7) : (cOut l 7).2 = csum l := by
  have e : ∀ w, (cOut l (w + 1)).2 = (cOut l w).2 * 2 + (l.count ((w : Int) + 1) : Nat) := by
    intro w; rw [cOut, cIn_cnt _ _ _ _ (Nat.le_refl _), List.take_length]
  have e1 := e 0; have e2 := e 1; have e3 := e 2; have e4 := e 3; have e5 := e 4; have e6 := e 5; have e7 := e 6
  have e0 : (cOut l 0).2 = 0 := rfl
  rw [csum_cnt l h]
  simp only [Nat.reduceAdd, Int.natCast_zero, Int.reduceAdd, Int.zero_add] at e1 e2 e3 e4 e5 e6 e7
  simp only [show ((1 : Nat) : Int) + 1 = 2 from rfl, show ((2 : Nat) : Int) + 1 = 3 from rfl, show ((3 : Nat) : Int) + 1 = 4 from rfl, show ((4 : Nat) : Int) + 1 = 5 from rfl, show ((5 : Nat) : Int) + 1 = 6 from rfl, show ((6 : Nat) : Int) + 1 = 7 from rfl] at e1 e2 e3 e4 e5 e6 e7
  omega
/-! What is wanted of it. -/
theorem code_in {l : List Int} (h : CodeOk l) {m : Nat} (hm : m < 6) : 0 ≤ l.getD m 0 ∧ l.getD m 0 ≤ 7 := by
  have h6 := h.2.1
  exact in_get h.1 (by omega)
theorem code_fit {l : List Int} (h : CodeOk l) {m : Nat} (hm : m < 6) (h1 : l.getD m 0 ≠ 0) : 0 ≤ (codes l).getD m 0 ∧ ((codes l).getD m 0 + 1) * cw (l.getD m 0) ≤ 128 := by
  have h6 := h.2.1
  have hb := code_in h hm
  have := (J7 l).cod m (by omega) (by unfold Dn; omega)
  rw [next7 l h.1, h.2.2] at this
  simpa [codes] using this
theorem code_lt {l : List Int} (h : CodeOk l) {m : Nat} (hm : m < 6) (h1 : l.getD m 0 ≠ 0) : (codes l).getD m 0 < 2 ^ (l.getD m 0).toNat := by
  have hb := code_in h hm
  have hf := (code_fit h hm h1).2
  generalize (codes l).getD m 0 = c at *
  generalize l.getD m 0 = n at *
  have key : ∀ k : Fin 8, k.val ≠ 0 → (c + 1) * cw (k.val : Int) ≤ 128 → c < 2 ^ ((k.val : Int)).toNat := by
    rintro ⟨k, hk⟩ h0 hc
    rcases (by omega : k = 0 ∨ k = 1 ∨ k = 2 ∨ k = 3 ∨ k = 4 ∨ k = 5 ∨ k = 6 ∨ k = 7) with rfl | rfl | rfl | rfl | rfl | rfl | rfl | rfl
    · exact absurd rfl h0
    all_goals simp [cw] at hc ⊢
    all_goals omega
  obtain ⟨k, rfl⟩ : ∃ k : Nat, n = k := ⟨n.toNat, by omega⟩
  exact key ⟨k, by omega⟩ (fun e => h1 (by simp at e; simp [e])) hf
theorem code_cov {l : List Int} (h : CodeOk l) {v : Int} (h0 : 0 ≤ v) (h1 : v < 128) : ∃ m, m < 6 ∧ l.getD m 0 ≠ 0 ∧ hit (codes l) l m v := by
  have h6 := h.2.1
  obtain ⟨m, a, b, c⟩ := (J7 l).cov v h0 (by rw [next7 l h.1, h.2.2]; omega)
  exact ⟨m, by omega, by unfold Dn at b; omega, c⟩
theorem code_uni {l : List Int} (h : CodeOk l) {m m' : Nat} {v : Int} (hm : m < 6) (hm' : m' < 6) (h0 : l.getD m 0 ≠ 0) (h0' : l.getD m' 0 ≠ 0) (h1 : hit (codes l) l m v) (h2 : hit (codes l) l m' v) : m = m' := by
  have h6 := h.2.1
  have b1 := code_in h hm
  have b2 := code_in h hm'
  exact (J7 l).uni m m' v (by omega) (by omega) (by unfold Dn; omega) (by unfold Dn; omega) h1 h2
end Go.Proofs.Ytepfjefdbpmobaa
