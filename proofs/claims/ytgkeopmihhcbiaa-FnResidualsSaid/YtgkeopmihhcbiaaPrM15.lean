/- Proved in this text: lemmas and contracts of functions that the claim uses (parts: LevP, DrP, DrR, AbsEq, AbsFl, AbsYr). No condition. -/
import Derived.Test.YtgkeopmihhcbiaaPrM14
import Derived.Test.YtgkeopmihhcbiaaPrM13
import Derived.Test.YtgkeopmihhcbiaaPrM8
import Derived.Laws.StructEq

/- Plain: with the finest step the levels of a small residual restore it. No condition. -/
namespace Go.Proofs.Ytgkeopmihhcbiaa
open Go Go.Abs
set_option linter.unusedVariables false
set_option linter.unusedSimpArgs false
set_option maxRecDepth 100000

theorem sumF_mul (c : Int) (f : Nat → Int) : ∀ n, c * sumF f n = sumF (fun i => c * f i) n
  | 0 => by simp [sumF]
  | n + 1 => by rw [sumF, sumF, Int.mul_add, sumF_mul c f n]
theorem sumF_mulR (c : Int) (f : Nat → Int) : ∀ n, sumF f n * c = sumF (fun i => f i * c) n
  | 0 => by simp [sumF]
  | n + 1 => by rw [sumF, sumF, Int.add_mul, sumF_mulR c f n]
theorem sumF_addF (f g : Nat → Int) : ∀ n, sumF (fun i => f i + g i) n = sumF f n + sumF g n
  | 0 => by simp [sumF]
  | n + 1 => by rw [sumF, sumF, sumF, sumF_addF f g n]; omega
theorem sumF_zero : ∀ n, sumF (fun _ => 0) n = 0
  | 0 => rfl
  | n + 1 => by rw [sumF, sumF_zero n]; rfl
theorem sumF_swap (f : Nat → Nat → Int) (m : Nat) : ∀ n, sumF (fun i => sumF (fun j => f i j) m) n = sumF (fun j => sumF (fun i => f i j) n) m
  | 0 => by simp only [sumF]; rw [sumF_zero]
  | n + 1 => by rw [sumF, sumF_swap f m n, ← sumF_addF]; rfl
theorem sumF_one {N : Int} {v : Nat → Int} {r : Nat} : ∀ n, sumF (fun p => (if r = p then N else 0) * v p) n = if r < n then N * v r else 0
  | 0 => by simp [sumF]
  | n + 1 => by
    rw [sumF, sumF_one n]
    by_cases h : r < n
    · rw [if_pos h, if_neg (by omega), if_pos (by omega)]; omega
    · by_cases h2 : r = n
      · subst h2; rw [if_neg (by omega), if_pos rfl, if_pos (by omega)]; omega
      · rw [if_neg h, if_neg h2, if_neg (by omega)]; omega
/-- A vector comes back, by so much more. -/
theorem back1 {n : Nat} {g : Nat → Nat → Int} {u : Nat → Int} {N : Int} (h : ∀ r p, r < n → p < n → sumF (fun j => g j r * (u j * g j p)) n = if r = p then N else 0) (v : Nat → Int) {r : Nat} (hr : r < n) :
    sumF (fun j => g j r * (u j * sumF (fun p => g j p * v p) n)) n = N * v r := by
  have e1 : sumF (fun j => g j r * (u j * sumF (fun p => g j p * v p) n)) n = sumF (fun j => sumF (fun p => g j r * (u j * g j p) * v p) n) n := by
    refine sumF_congr n fun j _ => ?_
    rw [sumF_mul, sumF_mul]
    exact sumF_congr n fun p _ => by rw [Int.mul_assoc, Int.mul_assoc]
  have e2 : sumF (fun p => sumF (fun j => g j r * (u j * g j p) * v p) n) n = sumF (fun p => (if r = p then N else 0) * v p) n := by
    refine sumF_congr n fun p hp => ?_
    rw [← sumF_mulR, h r p hr hp]
  rw [e1, sumF_swap, e2, sumF_one, if_pos hr]
/-- A square comes back. -/
theorem back2 {n : Nat} {g : Nat → Nat → Int} {u : Nat → Int} {N : Int} (h : ∀ r p, r < n → p < n → sumF (fun j => g j r * (u j * g j p)) n = if r = p then N else 0) (X : Nat → Nat → Int) {r k : Nat} (hr : r < n) (hk : k < n) :
    sumF (fun i => sumF (fun j => g j r * (sumF (fun m => sumF (fun p => g j p * X p m) n * g i m) n * (u j * u i))) n * g i k) n = N * (N * X r k) := by
  have e1 : ∀ i, sumF (fun j => g j r * (sumF (fun m => sumF (fun p => g j p * X p m) n * g i m) n * (u j * u i))) n = u i * sumF (fun m => g i m * (N * X r m)) n := by
    intro i
    have e2 : sumF (fun j => g j r * (sumF (fun m => sumF (fun p => g j p * X p m) n * g i m) n * (u j * u i))) n = sumF (fun j => sumF (fun m => g j r * (u j * sumF (fun p => g j p * X p m) n) * (g i m * u i)) n) n := by
      refine sumF_congr n fun j _ => ?_
      rw [sumF_mulR, sumF_mul]
      refine sumF_congr n fun m _ => ?_
      simp only [Int.mul_assoc, Int.mul_left_comm, Int.mul_comm]
    have e3 : sumF (fun m => sumF (fun j => g j r * (u j * sumF (fun p => g j p * X p m) n) * (g i m * u i)) n) n = sumF (fun m => u i * (g i m * (N * X r m))) n := by
      refine sumF_congr n fun m _ => ?_
      rw [← sumF_mulR, back1 h (fun p => X p m) hr]
      simp only [Int.mul_assoc, Int.mul_left_comm, Int.mul_comm]
    rw [e2, sumF_swap, e3, ← sumF_mul]
  have e4 : sumF (fun i => sumF (fun j => g j r * (sumF (fun m => sumF (fun p => g j p * X p m) n * g i m) n * (u j * u i))) n * g i k) n = sumF (fun i => g i k * (u i * sumF (fun m => g i m * (N * X r m)) n)) n := by
    refine sumF_congr n fun i _ => ?_
    rw [e1, Int.mul_comm]
  rw [e4, back1 h (fun m => N * X r m) hk]
def u4 (j : Nat) : Int := if j % 2 = 0 then 10 else 4
theorem orth4 : ∀ r p, r < 4 → p < 4 → sumF (fun j => mx 4 j r * (u4 j * mx 4 j p)) 4 = if r = p then 40 else 0 := by
  have key : ∀ r : Fin 4, ∀ p : Fin 4, sumF (fun j => mx 4 j r.val * (u4 j * mx 4 j p.val)) 4 = if r.val = p.val then 40 else 0 := by decide +kernel
  exact fun r p hr hp => key ⟨r, hr⟩ ⟨p, hp⟩
theorem orth8 : ∀ r p, r < 8 → p < 8 → sumF (fun j => mx 8 j r * (1 * mx 8 j p)) 8 = if r = p then 8 else 0 := by
  have key : ∀ r : Fin 8, ∀ p : Fin 8, sumF (fun j => mx 8 j r.val * (1 * mx 8 j p.val)) 8 = if r.val = p.val then 8 else 0 := by decide +kernel
  exact fun r p hr hp => key ⟨r, hr⟩ ⟨p, hp⟩
theorem step0 : stepL 0 = 1 := by decide +kernel
theorem norm4 (p : Nat) (hp : p < 16) : normL 4 (p : Int) = u4 (p / 4) * u4 (p % 4) := by
  have key : ∀ p : Fin 16, normL 4 ((p.val : Nat) : Int) = u4 (p.val / 4) * u4 (p.val % 4) := by decide +kernel
  exact key ⟨p, hp⟩
theorem norm8 (p : Nat) (hp : p < 64) : normL 8 (p : Int) = 1 := by
  have key : ∀ p : Fin 64, normL 8 ((p.val : Nat) : Int) = 1 := by decide +kernel
  exact key ⟨p, hp⟩
/-- The numbers of a small square's transform are levels. -/
theorem par_u (b : Nat) : par b = 1 ∨ par b = -1 := by unfold par; split <;> simp
theorem mul1 {a b c : Int} (ha : a = 1 ∨ a = -1) (hb : -c ≤ b ∧ b ≤ c) : -c ≤ a * b ∧ a * b ≤ c := by rcases ha with rfl | rfl <;> omega
theorem full_bd4 {l : List Int} (h : In l (-255) 255) (r k : Nat) : -16383 ≤ fullM 4 (mg 4 false) l r k ∧ fullM 4 (mg 4 false) l r k ≤ 16383 := by
  have h1 : ∀ r k, -2040 ≤ halfM 4 (mg 4 false) l r k ∧ halfM 4 (mg 4 false) l r k ≤ 2040 := fun r k => by
    have := half_bd (n := 4) (mg_val 4 false) (c := 255) h (by decide) r k 4
    unfold halfM; omega
  have := sumF_bd (f := fun i => halfM 4 (mg 4 false) l r i * mg 4 false k i) (c := 4080) (by decide) 4 fun i _ => by
    have := mul2 (mg_val 4 false k i) (h1 r i) (by decide)
    rw [Int.mul_comm]; omega
  unfold fullM; omega
theorem full_bd8 {l : List Int} (h : In l (-255) 255) (r k : Nat) : -16383 ≤ fullM 8 (mg 8 false) l r k ∧ fullM 8 (mg 8 false) l r k ≤ 16383 := by
  have hg : ∀ r i, mg 8 false r i = 1 ∨ mg 8 false r i = -1 := fun r i => par_u _
  have h1 : ∀ r k, -2040 ≤ halfM 8 (mg 8 false) l r k ∧ halfM 8 (mg 8 false) l r k ≤ 2040 := fun r k => by
    have := sumF_bd (f := fun i => mg 8 false r i * l.getD (i * 8 + k) 0) (c := 255) (by decide) 8 fun i _ => mul1 (hg r i) (in_getZ h (by decide) _)
    unfold halfM; omega
  have := sumF_bd (f := fun i => halfM 8 (mg 8 false) l r i * mg 8 false k i) (c := 2040) (by decide) 8 fun i _ => by
    rw [Int.mul_comm]; exact mul1 (hg k i) (h1 r i)
  unfold fullM; omega
theorem qz_id {v : Int} (h : -16383 ≤ v ∧ v ≤ 16383) : qz 1 v = v := by
  unfold qz nearL clampM
  split <;> omega
theorem map_id {f : Int → Int} : ∀ {l : List Int}, (∀ x ∈ l, f x = x) → l.map f = l
  | [], _ => rfl
  | a :: l, h => by rw [List.map_cons, h a (by simp), map_id fun x hx => h x (by simp [hx])]
theorem scn_in {l : List Int} {c : Int} (h : In l (-c) c) (hc : 0 ≤ c) : In (scnL l) (-c) c := by
  unfold In scnL
  intro x hx
  obtain ⟨p, _, rfl⟩ := List.mem_map.1 hx
  exact in_getZ h hc _
theorem in_wide {l : List Int} {a b c d : Int} (h : In l a b) (h1 : c ≤ a) (h2 : b ≤ d) : In l c d := by
  unfold In at h ⊢
  exact fun x hx => by have := h x hx; omega
theorem in_tab {f : Nat → Int} {N : Nat} {a b : Int} (h : ∀ i, i < N → a ≤ f i ∧ f i ≤ b) : In (tabL f N) a b := by
  unfold In tabL
  intro x hx
  obtain ⟨i, hi, rfl⟩ := List.mem_map.1 hx
  exact h i (List.mem_range.1 hi)
theorem scn_ok {l : List Int} (h : l.length = 16 ∨ l.length = 64) (hi : In l (-16383) 16383) : LvOk (scnL l) := by
  refine ⟨scn_in hi (by decide), ?_⟩
  rw [scnL_len, (scan_facts h).1]; exact h
/-- The transform of a small square. -/
theorem tr_small {r : List Int} {n : Int} (hs : side r.length = n) (h : r.length = 16 ∨ r.length = 64) (hr : In r (-255) 255) : trL n false r = mulM n.toNat (mg n.toNat false) r ∧ (trL n false r).length = r.length ∧ In (trL n false r) (-16383) 16383 := by
  have hf : FitM r := in_wide hr (by decide) (by decide)
  rcases h with e | e
  · have : n = 4 := by rw [← hs, e]; rfl
    subst this
    have e1 : trL 4 false r = mulM 4 (mg 4 false) r := trL_yes (.inl rfl) ⟨hf, by omega⟩
    refine ⟨e1, ?_, ?_⟩
    · rw [e1, e]; exact tabL_len _ _
    · rw [e1]; exact in_tab fun i _ => full_bd4 hr _ _
  · have : n = 8 := by rw [← hs, e]; rfl
    subst this
    have e1 : trL 8 false r = mulM 8 (mg 8 false) r := trL_yes (.inr rfl) ⟨hf, by omega⟩
    refine ⟨e1, ?_, ?_⟩
    · rw [e1, e]; exact tabL_len _ _
    · rw [e1]; exact in_tab fun i _ => full_bd8 hr _ _
theorem quant_id {X : List Int} (h : X.length = 16 ∨ X.length = 64) (hi : In X (-16383) 16383) : quantL X 0 = X := by
  unfold quantL
  rw [if_pos ⟨(side_pos _).2 h, by rw [step0]; decide⟩, step0]
  unfold In at hi
  exact map_id fun x hx => qz_id (hi x hx)
theorem inv_small {r : List Int} {n : Int} (hs : side r.length = n) (h : r.length = 16 ∨ r.length = 64) (hr : In r (-255) 255) : rndL (trL n true (scaL (trL n false r) 0)) = r := by
  obtain ⟨h1, h2, h3⟩ := tr_small hs h hr
  have hlv : LvOk (trL n false r) := ⟨h3, by rw [h2]; exact h⟩
  have hsl : scaL (trL n false r) 0 = tabL (scaF (trL n false r) 0) r.length := by
    unfold scaL; rw [if_pos ⟨hlv, by rw [step0]; decide⟩, h2]
  have hfit := scaL_fit (trL n false r) 0
  have hlen : (scaL (trL n false r) 0).length = r.length := by rw [hsl]; exact tabL_len _ _
  rcases h with e | e
  · have : n = 4 := by rw [← hs, e]; rfl
    subst this
    have ht : trL 4 true (scaL (trL 4 false r) 0) = mulM 4 (mg 4 true) (scaL (trL 4 false r) 0) := trL_yes (.inl rfl) ⟨hfit, by omega⟩
    have hml : (mulM 4 (mg 4 true) (scaL (trL 4 false r) 0)).length = 16 := tabL_len _ _
    rw [ht]
    refine list_ext (N := 16) ?_ e fun q hq => ?_
    · unfold rndL; rw [if_pos (by rw [hml]; decide), List.length_map, hml]
    · unfold rndL
      rw [if_pos (by rw [hml]; decide), hml]
      have e1 : ((mulM 4 (mg 4 true) (scaL (trL 4 false r) 0)).map (rnd1 16)).getD q 0 = rnd1 16 ((mulM 4 (mg 4 true) (scaL (trL 4 false r) 0)).getD q 0) := by
        rw [List.getD_eq_getElem?_getD, List.getElem?_map, List.getD_eq_getElem?_getD, List.getElem?_eq_getElem (by omega : q < _)]; rfl
      have hq1 : q / 4 < 4 := by omega
      have hq2 : q % 4 < 4 := by omega
      have e2 : (mulM 4 (mg 4 true) (scaL (trL 4 false r) 0)).getD q 0 = 40 * (40 * r.getD (q / 4 * 4 + q % 4) 0) := by
        unfold mulM
        rw [tabL_get hq, ← back2 orth4 (fun p m => r.getD (p * 4 + m) 0) hq1 hq2]
        refine sumF_congr 4 fun i hi => ?_
        show halfM 4 (mg 4 true) _ _ _ * mx 4 i (q % 4) = _
        congr 1
        refine sumF_congr 4 fun j hj => ?_
        show mx 4 j (q / 4) * _ = _
        congr 1
        rw [hsl, e, tabL_get (by omega : j * 4 + i < 16), scaF, step0, h1, show (4 : Int).toNat = 4 from rfl]
        have hd := divmod (n := 4) (r := j) (k := i) hi
        have hn := norm4 (j * 4 + i) (by omega)
        rw [hd.1, hd.2] at hn
        have hsd : side (mulM 4 (mg 4 false) r).length = 4 := by rw [show (mulM 4 (mg 4 false) r).length = 16 from tabL_len _ _]; rfl
        rw [hsd, hn, Int.mul_one]
        congr 1
        unfold mulM
        rw [tabL_get (by omega : j * 4 + i < 4 * 4), hd.1, hd.2]
        rfl
      have hb := in_getZ hr (by decide) q
      have e3 : q / 4 * 4 + q % 4 = q := by omega
      rw [e1, e2, e3]
      unfold rnd1
      rw [if_pos rfl]
      omega
  · have : n = 8 := by rw [← hs, e]; rfl
    subst this
    have ht : trL 8 true (scaL (trL 8 false r) 0) = mulM 8 (mg 8 true) (scaL (trL 8 false r) 0) := trL_yes (.inr rfl) ⟨hfit, by omega⟩
    have hml : (mulM 8 (mg 8 true) (scaL (trL 8 false r) 0)).length = 64 := tabL_len _ _
    rw [ht]
    refine list_ext (N := 64) ?_ e fun q hq => ?_
    · unfold rndL; rw [if_pos (by rw [hml]; decide), List.length_map, hml]
    · unfold rndL
      rw [if_pos (by rw [hml]; decide), hml]
      have e1 : ((mulM 8 (mg 8 true) (scaL (trL 8 false r) 0)).map (rnd1 64)).getD q 0 = rnd1 64 ((mulM 8 (mg 8 true) (scaL (trL 8 false r) 0)).getD q 0) := by
        rw [List.getD_eq_getElem?_getD, List.getElem?_map, List.getD_eq_getElem?_getD, List.getElem?_eq_getElem (by omega : q < _)]; rfl
      have hq1 : q / 8 < 8 := by omega
      have hq2 : q % 8 < 8 := by omega
      have e2 : (mulM 8 (mg 8 true) (scaL (trL 8 false r) 0)).getD q 0 = 8 * (8 * r.getD (q / 8 * 8 + q % 8) 0) := by
        unfold mulM
        rw [tabL_get hq, ← back2 (u := fun _ => 1) orth8 (fun p m => r.getD (p * 8 + m) 0) hq1 hq2]
        refine sumF_congr 8 fun i hi => ?_
        show halfM 8 (mg 8 true) _ _ _ * mx 8 i (q % 8) = _
        congr 1
        refine sumF_congr 8 fun j hj => ?_
        show mx 8 j (q / 8) * _ = _
        congr 1
        rw [hsl, e, tabL_get (by omega : j * 8 + i < 64), scaF, step0, h1, show (8 : Int).toNat = 8 from rfl]
        have hd := divmod (n := 8) (r := j) (k := i) hi
        have hn := norm8 (j * 8 + i) (by omega)
        have hsd : side (mulM 8 (mg 8 false) r).length = 8 := by rw [show (mulM 8 (mg 8 false) r).length = 64 from tabL_len _ _]; rfl
        rw [hsd, hn, Int.mul_one]
        congr 1
        unfold mulM
        rw [tabL_get (by omega : j * 8 + i < 8 * 8), hd.1, hd.2]
        rfl
      have hb := in_getZ hr (by decide) q
      have e3 : q / 8 * 8 + q % 8 = q := by omega
      rw [e1, e2, e3]
      unfold rnd1
      rw [if_neg (by decide)]
      omega
/-- The levels of a small residual are levels. -/
theorem lev_ok {b : Bool} {q : Int} {l r : List Int} (ho : OptOk q l) (h : r.length = 16 ∨ r.length = 64) (hr : In r (-255) 255) : LvOk (levL b q l r) := by
  have hf : FitM r := in_wide hr (by decide) (by decide)
  unfold levL
  rw [if_pos ⟨ho, (side_pos _).2 h, hf⟩]
  split
  · refine scn_ok (by rw [List.length_map]; exact h) ?_
    unfold In; intro x hx; obtain ⟨v, _, rfl⟩ := List.mem_map.1 hx; unfold clampL; omega
  · obtain ⟨h1, h2, h3⟩ := tr_small (n := side r.length) rfl h hr
    have hq : (quantL (trL (side r.length) false r) q).length = r.length := by
      unfold quantL; rw [if_pos ⟨by rw [h2]; exact (side_pos _).2 h, (stepL_pos q).2 ho.1⟩, List.length_map, h2]
    refine scn_ok (by rw [hq]; exact h) ?_
    unfold quantL; rw [if_pos ⟨by rw [h2]; exact (side_pos _).2 h, (stepL_pos q).2 ho.1⟩]
    unfold In; intro x hx; obtain ⟨v, _, rfl⟩ := List.mem_map.1 hx; unfold qz; omega
theorem lev_back {b : Bool} {l r : List Int} (ho : OptOk 0 l) (h : r.length = 16 ∨ r.length = 64) (hr : In r (-255) 255) : resL b 0 (levL b 0 l r) = r := by
  have hok := lev_ok (b := b) ho h hr
  have hf : FitM r := in_wide hr (by decide) (by decide)
  have hc : OptOk 0 l ∧ 0 < side r.length ∧ FitM r := ⟨ho, (side_pos _).2 h, hf⟩
  have hd : LvOk (levL b 0 l r) ∧ 0 < stepL 0 := ⟨hok, by rw [step0]; decide⟩
  unfold resL
  rw [if_pos hd]
  unfold levL
  rw [if_pos hc]
  cases b with
  | true =>
    rw [if_pos rfl, if_pos rfl]
    have : r.map clampL = r := map_id fun x hx => by unfold In at hr; have := hr x hx; unfold clampL; omega
    rw [this, plc_scn h]
  | false =>
    rw [if_neg (by decide), if_neg (by decide)]
    obtain ⟨h1, h2, h3⟩ := tr_small (n := side r.length) rfl h hr
    rw [quant_id (by rw [h2]; exact h) h3, plc_scn (by rw [h2]; exact h)]
    have hs : (scnL (trL (side r.length) false r)).length = r.length := by
      rw [scnL_len, (scan_facts (by rw [h2]; exact h)).1, h2]
    rw [hs]
    exact inv_small rfl h hr
theorem lev_none {b : Bool} {q : Int} {l r : List Int} (hr : In r (-255) 255) (h : (levL b q l r).length = 0) : ¬ OptOk q l ∨ (r.length ≠ 16 ∧ r.length ≠ 64) := by
  by_cases ho : OptOk q l
  · refine .inr ?_
    by_cases hl : r.length = 16 ∨ r.length = 64
    · have := (lev_ok (b := b) ho hl hr).2; omega
    · omega
  · exact .inl ho
end Go.Proofs.Ytgkeopmihhcbiaa

/- Plain: headers, squares of numbers, levels and residuals as they are drawn. No condition. -/
namespace Go.Proofs.Ytgkeopmihhcbiaa
open Go Go.Abs
set_option linter.unusedVariables false
set_option linter.unusedSimpArgs false
set_option maxRecDepth 100000
attribute [local irreducible] belowD onceD pickD modeD l8D l8AnyD optD anyD seedD

structure Hd6 where
  w : Int
  h : Int
  q : Int
  b : Bool
  d : Bool
  lens : List Int
abbrev quant6 : List Int := [0, 6, 12, 20, 36, 51]
def headD (l : List Int) (c : Cr) : Cr × Hd6 :=
  let w := belowD l c 2
  let h := belowD l w.1 2
  let q := pickD l h.1 quant6
  let b := onceD l q.1 4
  let d := onceD l b.1 2
  let e := l8D l d.1
  (e.1, ⟨8 * (1 + w.2), 8 * (1 + h.2), q.2, b.2, d.2, e.2⟩)
theorem headD_ok {l : List Int} {c : Cr} (h : CrOk l c) : CrOk l (headD l c).1 ∧ (headD l c).2.lens.length = 6 ∧ SidesOk (headD l c).2.w (headD l c).2.h := by
  have h1 := belowD_ok 2 h
  have h2 := belowD_ok 2 h1.1
  have h3 := pickD_ok (xs := quant6) h2.1 (by decide)
  have h4 := onceD_ok 4 h3.1
  have h5 := onceD_ok 2 h4
  have h6 := l8D_ok h5
  have a1 := h1.2.1
  have a2 := h1.2.2.1 (by decide)
  have a3 := h2.2.1
  have a4 := h2.2.2.1 (by decide)
  refine ⟨h6.1, h6.2, ?_⟩
  show SidesOk (8 * (1 + (belowD l c 2).2)) (8 * (1 + (belowD l (belowD l c 2).1 2).2))
  refine ⟨?_, ?_, ?_, ?_, ?_, ?_⟩ <;> omega
def headAnyD (l : List Int) (c : Cr) : Cr × Hd6 :=
  let x := headD l c
  let s := belowD l x.1 12
  if s.2 = 0 then
    let p := pickD l s.1 [0, 40, 12, 32]
    (p.1, { x.2 with w := p.2 })
  else if s.2 = 1 then
    let p := pickD l s.1 [-1, 52, 51]
    (p.1, { x.2 with q := p.2 })
  else if s.2 = 2 then
    let y := l8AnyD l s.1
    (y.1, { x.2 with lens := y.2 })
  else (s.1, x.2)
theorem headAnyD_0 {l : List Int} {c : Cr} (h : (belowD l (headD l c).1 12).2 = 0) : headAnyD l c = ((pickD l (belowD l (headD l c).1 12).1 [0, 40, 12, 32]).1, { (headD l c).2 with w := (pickD l (belowD l (headD l c).1 12).1 [0, 40, 12, 32]).2 }) := by
  unfold headAnyD; simp only; rw [if_pos h]
theorem headAnyD_1 {l : List Int} {c : Cr} (h : (belowD l (headD l c).1 12).2 = 1) : headAnyD l c = ((pickD l (belowD l (headD l c).1 12).1 [-1, 52, 51]).1, { (headD l c).2 with q := (pickD l (belowD l (headD l c).1 12).1 [-1, 52, 51]).2 }) := by
  unfold headAnyD; simp only; rw [if_neg (by omega), if_pos h]
theorem headAnyD_2 {l : List Int} {c : Cr} (h : (belowD l (headD l c).1 12).2 = 2) : headAnyD l c = ((l8AnyD l (belowD l (headD l c).1 12).1).1, { (headD l c).2 with lens := (l8AnyD l (belowD l (headD l c).1 12).1).2 }) := by
  unfold headAnyD; simp only; rw [if_neg (by omega), if_neg (by omega), if_pos h]
theorem headAnyD_3 {l : List Int} {c : Cr} (h : (belowD l (headD l c).1 12).2 ≠ 0) (h1 : (belowD l (headD l c).1 12).2 ≠ 1) (h2 : (belowD l (headD l c).1 12).2 ≠ 2) : headAnyD l c = ((belowD l (headD l c).1 12).1, (headD l c).2) := by
  unfold headAnyD; simp only; rw [if_neg h, if_neg h1, if_neg h2]
theorem headAnyD_ok {l : List Int} {c : Cr} (h : CrOk l c) : CrOk l (headAnyD l c).1 ∧ (headAnyD l c).2.lens.length ≤ 6 := by
  have ho := headD_ok h
  have hs := belowD_ok 12 ho.1
  by_cases h0 : (belowD l (headD l c).1 12).2 = 0
  · rw [headAnyD_0 h0]; exact ⟨(pickD_ok hs.1 (by decide)).1, Nat.le_of_eq ho.2.1⟩
  · by_cases h1 : (belowD l (headD l c).1 12).2 = 1
    · rw [headAnyD_1 h1]; exact ⟨(pickD_ok hs.1 (by decide)).1, Nat.le_of_eq ho.2.1⟩
    · by_cases h2 : (belowD l (headD l c).1 12).2 = 2
      · rw [headAnyD_2 h2]; exact ⟨(l8AnyD_ok hs.1).1, (l8AnyD_ok hs.1).2⟩
      · rw [headAnyD_3 h0 h1 h2]; exact ⟨hs.1, Nat.le_of_eq ho.2.1⟩
/-! Squares of numbers. -/
def sqS (l : List Int) (most : Int) (s : Cr × List Int) : Cr × List Int :=
  if (onceD l s.1 2).2 = true then ((belowD l (onceD l s.1 2).1 (2 * most + 1)).1, s.2 ++ [(belowD l (onceD l s.1 2).1 (2 * most + 1)).2 - most]) else ((onceD l s.1 2).1, s.2 ++ [0])
def sqK (l : List Int) (most : Int) : Nat → Cr × List Int → Cr × List Int
  | 0, s => s
  | n + 1, s => sqK l most n (sqS l most s)
theorem sqS_ok {l : List Int} {most : Int} {s : Cr × List Int} (h : CrOk l s.1) : CrOk l (sqS l most s).1 ∧ (sqS l most s).2.length = s.2.length + 1 := by
  have h1 := onceD_ok 2 h
  unfold sqS; split
  · exact ⟨(belowD_ok _ h1).1, by simp⟩
  · exact ⟨h1, by simp⟩
theorem sqK_ok {l : List Int} {most : Int} : ∀ (n : Nat) {s : Cr × List Int}, CrOk l s.1 → CrOk l (sqK l most n s).1 ∧ (sqK l most n s).2.length = s.2.length + n
  | 0, s, h => ⟨h, rfl⟩
  | n + 1, s, h => by
    have h1 := sqS_ok (most := most) h
    have h2 := sqK_ok (most := most) n h1.1
    exact ⟨h2.1, by rw [sqK, h2.2, h1.2]; omega⟩
abbrev odd3 : List Int := [0, 15, 63]
def sqN0 (l : List Int) (c : Cr) : Int := if (onceD l c 3).2 = true then 64 else 16
def sqN (l : List Int) (c : Cr) : Cr × Int := if (onceD l (onceD l c 3).1 14).2 = true then pickD l (onceD l (onceD l c 3).1 14).1 odd3 else ((onceD l (onceD l c 3).1 14).1, sqN0 l c)
theorem sqN_ok {l : List Int} {c : Cr} (h : CrOk l c) : CrOk l (sqN l c).1 ∧ 0 ≤ (sqN l c).2 ∧ (sqN l c).2 ≤ 64 := by
  have h1 := onceD_ok 3 h
  have h2 := onceD_ok 14 h1
  unfold sqN; split
  · have h3 := pickD_ok (xs := odd3) h2 (by decide)
    refine ⟨h3.1, ?_⟩
    have := h3.2
    simp only [List.mem_cons, List.not_mem_nil, or_false] at this
    omega
  · refine ⟨h2, ?_⟩
    show 0 ≤ sqN0 l c ∧ sqN0 l c ≤ 64
    unfold sqN0; split <;> omega
def squareD (l : List Int) (c : Cr) (most : Int) : Cr × List Int := sqK l most (sqN l c).2.toNat ((sqN l c).1, [])
theorem squareD_ok {l : List Int} {c : Cr} (most : Int) (h : CrOk l c) : CrOk l (squareD l c most).1 ∧ (squareD l c most).2.length ≤ 64 := by
  have h1 := sqN_ok h
  have h2 := sqK_ok (most := most) (sqN l c).2.toNat (s := ((sqN l c).1, [])) h1.1
  refine ⟨h2.1, ?_⟩
  unfold squareD
  rw [h2.2]; simp only [List.length_nil]; omega
/-! Levels. -/
abbrev big4 : List Int := [16383, -16383, 16384, 5000]
def lvA (l : List Int) (s : Cr × List Int) : Cr × List Int :=
  if (onceD l s.1 6).2 = true then ((pickD l (belowD l (onceD l s.1 6).1 s.2.length).1 big4).1, s.2.set (belowD l (onceD l s.1 6).1 s.2.length).2.toNat (pickD l (belowD l (onceD l s.1 6).1 s.2.length).1 big4).2) else ((onceD l s.1 6).1, s.2)
def lvB (l : List Int) (s : Cr × List Int) : Cr × List Int := if s.2.length = 0 then s else lvA l s
def tail3 (x : List Int) : List Int := x.take 3 ++ List.replicate (x.length - 3) 0
def lev10D (l : List Int) (c : Cr) : Cr × List Int :=
  ((onceD l (lvB l (squareD l c 30)).1 4).1, if (onceD l (lvB l (squareD l c 30)).1 4).2 = true then tail3 (lvB l (squareD l c 30)).2 else (lvB l (squareD l c 30)).2)
theorem lvA_ok {l : List Int} {s : Cr × List Int} (h : CrOk l s.1) : CrOk l (lvA l s).1 ∧ (lvA l s).2.length = s.2.length := by
  have h1 := onceD_ok 6 h
  have h2 := belowD_ok s.2.length h1
  unfold lvA; split
  · exact ⟨(pickD_ok h2.1 (by decide)).1, by simp⟩
  · exact ⟨h1, rfl⟩
theorem lvB_ok {l : List Int} {s : Cr × List Int} (h : CrOk l s.1) : CrOk l (lvB l s).1 ∧ (lvB l s).2.length = s.2.length := by
  unfold lvB; split
  · exact ⟨h, rfl⟩
  · exact lvA_ok h
theorem tail3_len (x : List Int) : (tail3 x).length = x.length := by simp [tail3]; omega
theorem lev10D_ok {l : List Int} {c : Cr} (h : CrOk l c) : CrOk l (lev10D l c).1 ∧ (lev10D l c).2.length ≤ 64 := by
  have h1 := squareD_ok 30 h
  have h2 := lvB_ok h1.1
  refine ⟨onceD_ok 4 h2.1, ?_⟩
  unfold lev10D
  simp only
  split
  · rw [tail3_len]; omega
  · omega
def lim3 (v : Int) : Int := max (-300) (min 300 v)
def lev25D (l : List Int) (c : Cr) : Cr × List Int := ((onceD l (lev10D l c).1 2).1, if (onceD l (lev10D l c).1 2).2 = true then (lev10D l c).2.map lim3 else (lev10D l c).2)
theorem lev25D_ok {l : List Int} {c : Cr} (h : CrOk l c) : CrOk l (lev25D l c).1 ∧ (lev25D l c).2.length ≤ 64 := by
  have h1 := lev10D_ok h
  refine ⟨onceD_ok 2 h1.1, ?_⟩
  unfold lev25D
  simp only
  split
  · rw [List.length_map]; exact h1.2
  · exact h1.2
def resD (l : List Int) : Hd6 × List Int := ((headAnyD l (newD l)).2, (lev25D l (headAnyD l (newD l)).1).2)
theorem resD_ok {l : List Int} (hl : l.length ≤ 1048576) : (resD l).1.lens.length ≤ 6 ∧ (resD l).2.length ≤ 64 := by
  have h1 := headAnyD_ok (newD_ok hl)
  exact ⟨h1.2, (lev25D_ok h1.1).2⟩
/-! Residuals. -/
def rsS (l : List Int) (s : Cr × List Int) : Cr × List Int := ((pickD l (belowD l s.1 511).1 [0, 1, -1, (belowD l s.1 511).2 - 255]).1, s.2 ++ [(pickD l (belowD l s.1 511).1 [0, 1, -1, (belowD l s.1 511).2 - 255]).2])
def rsK (l : List Int) : Nat → Cr × List Int → Cr × List Int
  | 0, s => s
  | n + 1, s => rsK l n (rsS l s)
theorem rsS_ok {l : List Int} {s : Cr × List Int} (h : CrOk l s.1) (hi : In s.2 (-255) 255) : CrOk l (rsS l s).1 ∧ (rsS l s).2.length = s.2.length + 1 ∧ In (rsS l s).2 (-255) 255 := by
  have h1 := belowD_ok 511 h
  have h2 := pickD_ok (xs := [0, 1, -1, (belowD l s.1 511).2 - 255]) h1.1 (by simp)
  have a := h1.2.1
  have b := h1.2.2.1 (by decide)
  refine ⟨h2.1, by simp [rsS], ?_⟩
  unfold In at hi ⊢
  intro x hx
  simp only [rsS, List.mem_append, List.mem_singleton] at hx
  rcases hx with hx | rfl
  · exact hi x hx
  · have := h2.2
    simp only [List.mem_cons, List.not_mem_nil, or_false] at this
    omega
theorem rsK_ok {l : List Int} : ∀ (n : Nat) {s : Cr × List Int}, CrOk l s.1 → In s.2 (-255) 255 → CrOk l (rsK l n s).1 ∧ (rsK l n s).2.length = s.2.length + n ∧ In (rsK l n s).2 (-255) 255
  | 0, s, h, hi => ⟨h, rfl, hi⟩
  | n + 1, s, h, hi => by
    have h1 := rsS_ok h hi
    have h2 := rsK_ok n h1.1 h1.2.2
    exact ⟨h2.1, by rw [rsK, h2.2.1, h1.2.1]; omega, h2.2.2⟩
abbrev len4 : List Int := [16, 16, 64, 15]
def lvlD (l : List Int) : Op6 × List Int := ((anyD l (newD l)).2, (rsK l (pickD l (anyD l (newD l)).1 len4).2.toNat ((pickD l (anyD l (newD l)).1 len4).1, [])).2)
theorem lvlD_ok {l : List Int} (hl : l.length ≤ 1048576) : (lvlD l).1.lens.length ≤ 6 ∧ (lvlD l).1.ms.length ≤ 4 ∧ (lvlD l).2.length ≤ 64 ∧ In (lvlD l).2 (-255) 255 := by
  have h1 := anyD_ok (newD_ok hl)
  have h2 := pickD_ok (xs := len4) h1.1 (by decide)
  have h3 := rsK_ok (l := l) (pickD l (anyD l (newD l)).1 len4).2.toNat (s := ((pickD l (anyD l (newD l)).1 len4).1, [])) h2.1 (by unfold In; intro x hx; cases hx)
  have h4 := h2.2
  simp only [List.mem_cons, List.not_mem_nil, or_false] at h4
  refine ⟨h1.2.1, h1.2.2, ?_, h3.2.2⟩
  have := h3.2.1
  simp only [List.length_nil] at this
  show (rsK l _ _).2.length ≤ 64
  omega
end Go.Proofs.Ytgkeopmihhcbiaa

/- What is drawn: headers, squares of numbers, levels. No condition. -/
namespace Go.Proofs.Ytgkeopmihhcbiaa
open Go Go.Abs
set_option linter.unusedVariables false
set_option linter.unusedSimpArgs false
set_option maxRecDepth 100000
set_option maxHeartbeats 4000000
attribute [local irreducible] WpA WpL Rnd Blk Abs.Seq Abs.Fin Abs.FinG FnC FnG FnX FnP FinX Only
attribute [local irreducible] belowD onceD pickD modeD l8D l8AnyD optD anyD seedD

abbrev HdOwn (k : Nat) (x : Hd6) : AV := .agg [I x.w, I x.h, I x.q, B x.b, B x.d, .own k 0 0 x.lens.length]
instance l22Header_p : ConP 192 (∀ (v : Value) (l : List Int) (c : Cr), CrOk l c → Pn 192 v l c [] (headD l c).1 [XI (headD l c).2.lens] (HdOwn 1 (headD l c).2)) := ⟨fun v l c h => by
  have h1 := belowD_ok 2 h
  have h2 := belowD_ok 2 h1.1
  have h3 := pickD_ok (xs := quant6) h2.1 (by decide)
  have h4 := onceD_ok 4 h3.1
  have h5 := onceD_ok 2 h4
  have h6 := l8D_ok h5
  have a1 := h1.2.1
  have a2 := h1.2.2.1 (by decide)
  have a3 := h2.2.1
  have a4 := h2.2.2.1 (by decide)
  unfold headD
  simp only
  refine FnP.of_body tabOk Try.func192 Try.ntmps192 rfl (by decide +kernel) (by simp) rfl rfl rfl fun G hp => ?_
  refine go (r := ?_); and_intros <;> intros <;> try exact True.intro
  all_goals first | exact h | exact h.1 | exact h.2.1 | exact h.2.2 | exact h1.1.2.1 | exact h1.1.2.2 | exact h2.1.2.1 | exact h2.1.2.2 | exact h3.1.2.1 | exact h3.1.2.2 | exact h4.2.1 | exact h4.2.2 | exact h5.2.1 | exact h5.2.2 | decide | skip⟩
instance l22Any_p : ConP 94 (∀ (v : Value) (l : List Int) (c : Cr), CrOk l c → Pn 94 v l c [] (headAnyD l c).1 [XI (headAnyD l c).2.lens] (HdOwn 1 (headAnyD l c).2)) := ⟨fun v l c h => by
  have ho := headD_ok h
  have hs := belowD_ok 12 ho.1
  by_cases h0 : (belowD l (headD l c).1 12).2 = 0
  · rw [headAnyD_0 h0]
    refine FnP.of_body tabOk Try.func94 Try.ntmps94 rfl (by decide +kernel) (by simp) rfl rfl rfl fun G hp => ?_
    refine go (r := ?_); and_intros <;> intros <;> try exact True.intro
    all_goals first | exact hs.1 | exact hs.1.2.1 | exact hs.1.2.2 | exact ho.1.2.1 | exact ho.1.2.2 | exact h | exact h.2.1 | exact h.2.2 | decide | skip
  · by_cases h1 : (belowD l (headD l c).1 12).2 = 1
    · rw [headAnyD_1 h1]
      refine FnP.of_body tabOk Try.func94 Try.ntmps94 rfl (by decide +kernel) (by simp) rfl rfl rfl fun G hp => ?_
      refine go (r := ?_); and_intros <;> intros <;> try exact True.intro
      all_goals first | exact hs.1 | exact hs.1.2.1 | exact hs.1.2.2 | exact ho.1.2.1 | exact ho.1.2.2 | exact h | exact h.2.1 | exact h.2.2 | decide | skip
    · by_cases h2 : (belowD l (headD l c).1 12).2 = 2
      · rw [headAnyD_2 h2]
        refine FnP.of_body tabOk Try.func94 Try.ntmps94 rfl (by decide +kernel) (by simp) rfl rfl rfl fun G hp => ?_
        refine go (r := ?_); and_intros <;> intros <;> try exact True.intro
        all_goals first | exact hs.1 | exact hs.1.2.1 | exact hs.1.2.2 | exact ho.1.2.1 | exact ho.1.2.2 | exact h | exact h.2.1 | exact h.2.2 | decide | skip
      · rw [headAnyD_3 h0 h1 h2]
        refine FnP.of_body tabOk Try.func94 Try.ntmps94 rfl (by decide +kernel) (by simp) rfl rfl rfl fun G hp => ?_
        refine go (r := ?_); and_intros <;> intros <;> try exact True.intro
        all_goals first | exact hs.1 | exact hs.1.2.1 | exact hs.1.2.2 | exact ho.1.2.1 | exact ho.1.2.2 | exact h | exact h.2.1 | exact h.2.2 | decide | skip⟩
/-! Squares. -/
theorem sqS_1 {l : List Int} {most : Int} {s : Cr × List Int} (h : (onceD l s.1 2).2 = true) : sqS l most s = ((belowD l (onceD l s.1 2).1 (2 * most + 1)).1, s.2 ++ [(belowD l (onceD l s.1 2).1 (2 * most + 1)).2 - most]) := by unfold sqS; rw [if_pos h]
theorem sqS_0 {l : List Int} {most : Int} {s : Cr × List Int} (h : ¬ (onceD l s.1 2).2 = true) : sqS l most s = ((onceD l s.1 2).1, s.2 ++ [0]) := by unfold sqS; rw [if_neg h]
instance l9Square_p : ConP 239 (∀ (v : Value) (l : List Int) (c : Cr) (most : Int), CrOk l c ∧ 0 ≤ most ∧ most ≤ 1000000 → Pn 239 v l c [I most] (squareD l c most).1 [XI (squareD l c most).2] (.own 1 0 0 (squareD l c most).2.length)) := ⟨fun v l c most hm => by
  have h := hm.1
  have hm0 := hm.2.1
  have hm1 := hm.2.2
  have h1 := onceD_ok 3 h
  have h2 := onceD_ok 14 h1
  have hn := sqN_ok h
  have hn1 := hn.2
  have hP := pickD_ok (xs := odd3) h2 (by decide)
  unfold squareD
  generalize hS : sqK l most (sqN l c).2.toNat ((sqN l c).1, []) = S
  by_cases h14 : (onceD l (onceD l c 3).1 14).2 = true
  · have e : sqN l c = pickD l (onceD l (onceD l c 3).1 14).1 odd3 := by unfold sqN; rw [if_pos h14]
    rw [e] at hS hn1
    by_cases h3 : (onceD l c 3).2 = true
    · refine FnP.of_body tabOk Try.func239 Try.ntmps239 rfl (by decide +kernel) (by simp) rfl rfl rfl fun G hp => ?_
      refine go (r := ?_); and_intros <;> intros <;> try exact True.intro
      all_goals first | contradiction | exact h.2.1 | exact h.2.2 | exact h1.2.1 | exact h1.2.2 | exact h2 | (simp_all; done) | skip
      generalize pickD l (onceD l (onceD l c 3).1 14).1 odd3 = N at *
      refine WpA.loop (fun x : Nat × Cr × List Int => ⟨[(0, .ptr 0 0 0), (1, I most), (5, I (N.2)), (6, .own 2 0 0 x.2.2.length)], [CurO v x.2.1, XI odd3, XI x.2.2]⟩) (fun x => CrOk l x.2.1 ∧ sqK l most x.1 x.2 = S ∧ (x.2.2.length : Int) + x.1 = N.2) (fun x => x.1) (N.2.toNat, N.1, []) ?_ (go (r := ?_)) ?_
      · exact ⟨hP.1, hS, by simp only [List.length_nil]; omega⟩
      · and_intros <;> first | exact True.intro | rfl | trace_state
      · rintro ⟨k, c1, xs⟩ ⟨hc1, hK, hlen⟩
        simp only at hc1 hK hlen ⊢
        have ho := onceD_ok 2 hc1
        by_cases hkz : k = 0
        · subst hkz
          have hSe : (c1, xs) = S := hK
          subst hSe
          refine go (r := ?_); and_intros <;> intros <;> try exact True.intro
          all_goals trace_state
        · have hE : sqK l most (k - 1) (sqS l most (c1, xs)) = S := by
            obtain ⟨j, rfl⟩ : ∃ j, k = j + 1 := ⟨k - 1, by omega⟩
            exact hK
          have hok := sqS_ok (most := most) (s := (c1, xs)) hc1
          have hB := belowD_ok (2 * most + 1) ho
          have hB0 := hB.2.1
          have hB1 := hB.2.2.1 (by omega)
          by_cases ho2 : (onceD l c1 2).2 = true
          · have e := sqS_1 (most := most) (s := (c1, xs)) ho2
            rw [e] at hE hok
            refine go (r := ?_); and_intros <;> intros <;> try exact True.intro
            all_goals first | (rename_i hg; rw [ho2] at hg; cases hg; done) | exact hc1.2.1 | exact hc1.2.2 | exact ho.2.1 | exact ho.2.2 | skip
            refine Rnd.go (k - 1, _, _) ⟨hok.1, hE, ?_⟩ ?_ ?_
            · have := hok.2; simp only at this ⊢; omega
            · show k - 1 < k; omega
            · have e2 : (xs ++ [(belowD l (onceD l c1 2).1 (2 * most + 1)).2 - most]).length = xs.length + 1 := by simp
              simp only [e2]
              exact Weak.mk (by repeat (first | exact ReT.nil | refine ReT.cons (.keep rfl rfl .nil) ?_ | refine ReT.cons (.own rfl rfl rfl rfl rfl rfl .nil) ?_ | refine ReT.cons (.ptr rfl rfl rfl rfl .nil) ?_ | refine ReT.cons (.keep (congrArg (fun z => AV.sc (Value.int .i64 z)) (by first | omega | (skip))) rfl .nil) ?_ | refine ReT.cons (.keep (congrArg (fun z : List UInt8 => AV.sc (Value.string ⟨z.toArray⟩)) (by skip)) rfl .nil) ?_ | refine ReT.cons (.own rfl rfl rfl rfl rfl (by first | omega | (simp; done) | (simp; omega)) .nil) ?_)) (by repeat (first | exact ReO.nil | refine ReO.cons (Re.same rfl rfl) (.inr rfl) ?_ | refine ReO.cons (Re.same rfl (still_ints _)) (.inr rfl) ?_ | refine ReO.cons (Re.same rfl (still_bools _)) (.inr rfl) ?_ | refine ReO.cons (Re.same rfl (still_rows (fun _ => rfl) _)) (.inr rfl) ?_)) (Nat.le_of_ble_eq_true rfl)
          · have e := sqS_0 (most := most) (s := (c1, xs)) ho2
            rw [e] at hE hok
            refine go (r := ?_); and_intros <;> intros <;> try exact True.intro
            all_goals first | (rename_i hg; exact absurd hg ho2) | exact hc1.2.1 | exact hc1.2.2 | exact ho.2.1 | exact ho.2.2 | skip
            refine Rnd.go (k - 1, _, _) ⟨hok.1, hE, ?_⟩ ?_ ?_
            · have := hok.2; simp only at this ⊢; omega
            · show k - 1 < k; omega
            · have e2 : (xs ++ [(0 : Int)]).length = xs.length + 1 := by simp
              simp only [e2]
              exact Weak.mk (by repeat (first | exact ReT.nil | refine ReT.cons (.keep rfl rfl .nil) ?_ | refine ReT.cons (.own rfl rfl rfl rfl rfl rfl .nil) ?_ | refine ReT.cons (.ptr rfl rfl rfl rfl .nil) ?_ | refine ReT.cons (.keep (congrArg (fun z => AV.sc (Value.int .i64 z)) (by first | omega | (skip))) rfl .nil) ?_ | refine ReT.cons (.keep (congrArg (fun z : List UInt8 => AV.sc (Value.string ⟨z.toArray⟩)) (by skip)) rfl .nil) ?_ | refine ReT.cons (.own rfl rfl rfl rfl rfl (by first | omega | (simp; done) | (simp; omega)) .nil) ?_)) (by repeat (first | exact ReO.nil | refine ReO.cons (Re.same rfl rfl) (.inr rfl) ?_ | refine ReO.cons (Re.same rfl (still_ints _)) (.inr rfl) ?_ | refine ReO.cons (Re.same rfl (still_bools _)) (.inr rfl) ?_ | refine ReO.cons (Re.same rfl (still_rows (fun _ => rfl) _)) (.inr rfl) ?_)) (Nat.le_of_ble_eq_true rfl)
    · refine FnP.of_body tabOk Try.func239 Try.ntmps239 rfl (by decide +kernel) (by simp) rfl rfl rfl fun G hp => ?_
      refine go (r := ?_); and_intros <;> intros <;> try exact True.intro
      all_goals first | contradiction | exact h.2.1 | exact h.2.2 | exact h1.2.1 | exact h1.2.2 | exact h2 | (simp_all; done) | skip
      generalize pickD l (onceD l (onceD l c 3).1 14).1 odd3 = N at *
      refine WpA.loop (fun x : Nat × Cr × List Int => ⟨[(0, .ptr 0 0 0), (1, I most), (5, I (N.2)), (6, .own 2 0 0 x.2.2.length)], [CurO v x.2.1, XI odd3, XI x.2.2]⟩) (fun x => CrOk l x.2.1 ∧ sqK l most x.1 x.2 = S ∧ (x.2.2.length : Int) + x.1 = N.2) (fun x => x.1) (N.2.toNat, N.1, []) ?_ (go (r := ?_)) ?_
      · exact ⟨hP.1, hS, by simp only [List.length_nil]; omega⟩
      · and_intros <;> first | exact True.intro | rfl | trace_state
      · rintro ⟨k, c1, xs⟩ ⟨hc1, hK, hlen⟩
        simp only at hc1 hK hlen ⊢
        have ho := onceD_ok 2 hc1
        by_cases hkz : k = 0
        · subst hkz
          have hSe : (c1, xs) = S := hK
          subst hSe
          refine go (r := ?_); and_intros <;> intros <;> try exact True.intro
          all_goals trace_state
        · have hE : sqK l most (k - 1) (sqS l most (c1, xs)) = S := by
            obtain ⟨j, rfl⟩ : ∃ j, k = j + 1 := ⟨k - 1, by omega⟩
            exact hK
          have hok := sqS_ok (most := most) (s := (c1, xs)) hc1
          have hB := belowD_ok (2 * most + 1) ho
          have hB0 := hB.2.1
          have hB1 := hB.2.2.1 (by omega)
          by_cases ho2 : (onceD l c1 2).2 = true
          · have e := sqS_1 (most := most) (s := (c1, xs)) ho2
            rw [e] at hE hok
            refine go (r := ?_); and_intros <;> intros <;> try exact True.intro
            all_goals first | (rename_i hg; rw [ho2] at hg; cases hg; done) | exact hc1.2.1 | exact hc1.2.2 | exact ho.2.1 | exact ho.2.2 | skip
            refine Rnd.go (k - 1, _, _) ⟨hok.1, hE, ?_⟩ ?_ ?_
            · have := hok.2; simp only at this ⊢; omega
            · show k - 1 < k; omega
            · have e2 : (xs ++ [(belowD l (onceD l c1 2).1 (2 * most + 1)).2 - most]).length = xs.length + 1 := by simp
              simp only [e2]
              exact Weak.mk (by repeat (first | exact ReT.nil | refine ReT.cons (.keep rfl rfl .nil) ?_ | refine ReT.cons (.own rfl rfl rfl rfl rfl rfl .nil) ?_ | refine ReT.cons (.ptr rfl rfl rfl rfl .nil) ?_ | refine ReT.cons (.keep (congrArg (fun z => AV.sc (Value.int .i64 z)) (by first | omega | (skip))) rfl .nil) ?_ | refine ReT.cons (.keep (congrArg (fun z : List UInt8 => AV.sc (Value.string ⟨z.toArray⟩)) (by skip)) rfl .nil) ?_ | refine ReT.cons (.own rfl rfl rfl rfl rfl (by first | omega | (simp; done) | (simp; omega)) .nil) ?_)) (by repeat (first | exact ReO.nil | refine ReO.cons (Re.same rfl rfl) (.inr rfl) ?_ | refine ReO.cons (Re.same rfl (still_ints _)) (.inr rfl) ?_ | refine ReO.cons (Re.same rfl (still_bools _)) (.inr rfl) ?_ | refine ReO.cons (Re.same rfl (still_rows (fun _ => rfl) _)) (.inr rfl) ?_)) (Nat.le_of_ble_eq_true rfl)
          · have e := sqS_0 (most := most) (s := (c1, xs)) ho2
            rw [e] at hE hok
            refine go (r := ?_); and_intros <;> intros <;> try exact True.intro
            all_goals first | (rename_i hg; exact absurd hg ho2) | exact hc1.2.1 | exact hc1.2.2 | exact ho.2.1 | exact ho.2.2 | skip
            refine Rnd.go (k - 1, _, _) ⟨hok.1, hE, ?_⟩ ?_ ?_
            · have := hok.2; simp only at this ⊢; omega
            · show k - 1 < k; omega
            · have e2 : (xs ++ [(0 : Int)]).length = xs.length + 1 := by simp
              simp only [e2]
              exact Weak.mk (by repeat (first | exact ReT.nil | refine ReT.cons (.keep rfl rfl .nil) ?_ | refine ReT.cons (.own rfl rfl rfl rfl rfl rfl .nil) ?_ | refine ReT.cons (.ptr rfl rfl rfl rfl .nil) ?_ | refine ReT.cons (.keep (congrArg (fun z => AV.sc (Value.int .i64 z)) (by first | omega | (skip))) rfl .nil) ?_ | refine ReT.cons (.keep (congrArg (fun z : List UInt8 => AV.sc (Value.string ⟨z.toArray⟩)) (by skip)) rfl .nil) ?_ | refine ReT.cons (.own rfl rfl rfl rfl rfl (by first | omega | (simp; done) | (simp; omega)) .nil) ?_)) (by repeat (first | exact ReO.nil | refine ReO.cons (Re.same rfl rfl) (.inr rfl) ?_ | refine ReO.cons (Re.same rfl (still_ints _)) (.inr rfl) ?_ | refine ReO.cons (Re.same rfl (still_bools _)) (.inr rfl) ?_ | refine ReO.cons (Re.same rfl (still_rows (fun _ => rfl) _)) (.inr rfl) ?_)) (Nat.le_of_ble_eq_true rfl)
  · have e : sqN l c = ((onceD l (onceD l c 3).1 14).1, sqN0 l c) := by unfold sqN; rw [if_neg h14]
    rw [e] at hS hn1
    by_cases h3 : (onceD l c 3).2 = true
    · have e2 : sqN0 l c = 64 := by unfold sqN0; rw [if_pos h3]
      simp only [e2] at hS hn1
      refine FnP.of_body tabOk Try.func239 Try.ntmps239 rfl (by decide +kernel) (by simp) rfl rfl rfl fun G hp => ?_
      refine go (r := ?_); and_intros <;> intros <;> try exact True.intro
      all_goals first | contradiction | exact h.2.1 | exact h.2.2 | exact h1.2.1 | exact h1.2.2 | exact h2 | (simp_all; done) | skip
      refine WpA.loop (fun x : Nat × Cr × List Int => ⟨[(0, .ptr 0 0 0), (1, I most), (5, I (64)), (6, .own 1 0 0 x.2.2.length)], [CurO v x.2.1, XI x.2.2]⟩) (fun x => CrOk l x.2.1 ∧ sqK l most x.1 x.2 = S ∧ (x.2.2.length : Int) + x.1 = 64) (fun x => x.1) (64, (onceD l (onceD l c 3).1 14).1, []) ?_ (go (r := ?_)) ?_
      · exact ⟨h2, hS, by simp only [List.length_nil]; omega⟩
      · and_intros <;> first | exact True.intro | rfl | trace_state
      · rintro ⟨k, c1, xs⟩ ⟨hc1, hK, hlen⟩
        simp only at hc1 hK hlen ⊢
        have ho := onceD_ok 2 hc1
        by_cases hkz : k = 0
        · subst hkz
          have hSe : (c1, xs) = S := hK
          subst hSe
          refine go (r := ?_); and_intros <;> intros <;> try exact True.intro
          all_goals trace_state
        · have hE : sqK l most (k - 1) (sqS l most (c1, xs)) = S := by
            obtain ⟨j, rfl⟩ : ∃ j, k = j + 1 := ⟨k - 1, by omega⟩
            exact hK
          have hok := sqS_ok (most := most) (s := (c1, xs)) hc1
          have hB := belowD_ok (2 * most + 1) ho
          have hB0 := hB.2.1
          have hB1 := hB.2.2.1 (by omega)
          by_cases ho2 : (onceD l c1 2).2 = true
          · have e := sqS_1 (most := most) (s := (c1, xs)) ho2
            rw [e] at hE hok
            refine go (r := ?_); and_intros <;> intros <;> try exact True.intro
            all_goals first | (rename_i hg; rw [ho2] at hg; cases hg; done) | exact hc1.2.1 | exact hc1.2.2 | exact ho.2.1 | exact ho.2.2 | skip
            refine Rnd.go (k - 1, _, _) ⟨hok.1, hE, ?_⟩ ?_ ?_
            · have := hok.2; simp only at this ⊢; omega
            · show k - 1 < k; omega
            · have e2 : (xs ++ [(belowD l (onceD l c1 2).1 (2 * most + 1)).2 - most]).length = xs.length + 1 := by simp
              simp only [e2]
              exact Weak.mk (by repeat (first | exact ReT.nil | refine ReT.cons (.keep rfl rfl .nil) ?_ | refine ReT.cons (.own rfl rfl rfl rfl rfl rfl .nil) ?_ | refine ReT.cons (.ptr rfl rfl rfl rfl .nil) ?_ | refine ReT.cons (.keep (congrArg (fun z => AV.sc (Value.int .i64 z)) (by first | omega | (skip))) rfl .nil) ?_ | refine ReT.cons (.keep (congrArg (fun z : List UInt8 => AV.sc (Value.string ⟨z.toArray⟩)) (by skip)) rfl .nil) ?_ | refine ReT.cons (.own rfl rfl rfl rfl rfl (by first | omega | (simp; done) | (simp; omega)) .nil) ?_)) (by repeat (first | exact ReO.nil | refine ReO.cons (Re.same rfl rfl) (.inr rfl) ?_ | refine ReO.cons (Re.same rfl (still_ints _)) (.inr rfl) ?_ | refine ReO.cons (Re.same rfl (still_bools _)) (.inr rfl) ?_ | refine ReO.cons (Re.same rfl (still_rows (fun _ => rfl) _)) (.inr rfl) ?_)) (Nat.le_of_ble_eq_true rfl)
          · have e := sqS_0 (most := most) (s := (c1, xs)) ho2
            rw [e] at hE hok
            refine go (r := ?_); and_intros <;> intros <;> try exact True.intro
            all_goals first | (rename_i hg; exact absurd hg ho2) | exact hc1.2.1 | exact hc1.2.2 | exact ho.2.1 | exact ho.2.2 | skip
            refine Rnd.go (k - 1, _, _) ⟨hok.1, hE, ?_⟩ ?_ ?_
            · have := hok.2; simp only at this ⊢; omega
            · show k - 1 < k; omega
            · have e2 : (xs ++ [(0 : Int)]).length = xs.length + 1 := by simp
              simp only [e2]
              exact Weak.mk (by repeat (first | exact ReT.nil | refine ReT.cons (.keep rfl rfl .nil) ?_ | refine ReT.cons (.own rfl rfl rfl rfl rfl rfl .nil) ?_ | refine ReT.cons (.ptr rfl rfl rfl rfl .nil) ?_ | refine ReT.cons (.keep (congrArg (fun z => AV.sc (Value.int .i64 z)) (by first | omega | (skip))) rfl .nil) ?_ | refine ReT.cons (.keep (congrArg (fun z : List UInt8 => AV.sc (Value.string ⟨z.toArray⟩)) (by skip)) rfl .nil) ?_ | refine ReT.cons (.own rfl rfl rfl rfl rfl (by first | omega | (simp; done) | (simp; omega)) .nil) ?_)) (by repeat (first | exact ReO.nil | refine ReO.cons (Re.same rfl rfl) (.inr rfl) ?_ | refine ReO.cons (Re.same rfl (still_ints _)) (.inr rfl) ?_ | refine ReO.cons (Re.same rfl (still_bools _)) (.inr rfl) ?_ | refine ReO.cons (Re.same rfl (still_rows (fun _ => rfl) _)) (.inr rfl) ?_)) (Nat.le_of_ble_eq_true rfl)
    · have e2 : sqN0 l c = 16 := by unfold sqN0; rw [if_neg h3]
      simp only [e2] at hS hn1
      refine FnP.of_body tabOk Try.func239 Try.ntmps239 rfl (by decide +kernel) (by simp) rfl rfl rfl fun G hp => ?_
      refine go (r := ?_); and_intros <;> intros <;> try exact True.intro
      all_goals first | contradiction | exact h.2.1 | exact h.2.2 | exact h1.2.1 | exact h1.2.2 | exact h2 | (simp_all; done) | skip
      refine WpA.loop (fun x : Nat × Cr × List Int => ⟨[(0, .ptr 0 0 0), (1, I most), (5, I (16)), (6, .own 1 0 0 x.2.2.length)], [CurO v x.2.1, XI x.2.2]⟩) (fun x => CrOk l x.2.1 ∧ sqK l most x.1 x.2 = S ∧ (x.2.2.length : Int) + x.1 = 16) (fun x => x.1) (16, (onceD l (onceD l c 3).1 14).1, []) ?_ (go (r := ?_)) ?_
      · exact ⟨h2, hS, by simp only [List.length_nil]; omega⟩
      · and_intros <;> first | exact True.intro | rfl | trace_state
      · rintro ⟨k, c1, xs⟩ ⟨hc1, hK, hlen⟩
        simp only at hc1 hK hlen ⊢
        have ho := onceD_ok 2 hc1
        by_cases hkz : k = 0
        · subst hkz
          have hSe : (c1, xs) = S := hK
          subst hSe
          refine go (r := ?_); and_intros <;> intros <;> try exact True.intro
          all_goals trace_state
        · have hE : sqK l most (k - 1) (sqS l most (c1, xs)) = S := by
            obtain ⟨j, rfl⟩ : ∃ j, k = j + 1 := ⟨k - 1, by omega⟩
            exact hK
          have hok := sqS_ok (most := most) (s := (c1, xs)) hc1
          have hB := belowD_ok (2 * most + 1) ho
          have hB0 := hB.2.1
          have hB1 := hB.2.2.1 (by omega)
          by_cases ho2 : (onceD l c1 2).2 = true
          · have e := sqS_1 (most := most) (s := (c1, xs)) ho2
            rw [e] at hE hok
            refine go (r := ?_); and_intros <;> intros <;> try exact True.intro
            all_goals first | (rename_i hg; rw [ho2] at hg; cases hg; done) | exact hc1.2.1 | exact hc1.2.2 | exact ho.2.1 | exact ho.2.2 | skip
            refine Rnd.go (k - 1, _, _) ⟨hok.1, hE, ?_⟩ ?_ ?_
            · have := hok.2; simp only at this ⊢; omega
            · show k - 1 < k; omega
            · have e2 : (xs ++ [(belowD l (onceD l c1 2).1 (2 * most + 1)).2 - most]).length = xs.length + 1 := by simp
              simp only [e2]
              exact Weak.mk (by repeat (first | exact ReT.nil | refine ReT.cons (.keep rfl rfl .nil) ?_ | refine ReT.cons (.own rfl rfl rfl rfl rfl rfl .nil) ?_ | refine ReT.cons (.ptr rfl rfl rfl rfl .nil) ?_ | refine ReT.cons (.keep (congrArg (fun z => AV.sc (Value.int .i64 z)) (by first | omega | (skip))) rfl .nil) ?_ | refine ReT.cons (.keep (congrArg (fun z : List UInt8 => AV.sc (Value.string ⟨z.toArray⟩)) (by skip)) rfl .nil) ?_ | refine ReT.cons (.own rfl rfl rfl rfl rfl (by first | omega | (simp; done) | (simp; omega)) .nil) ?_)) (by repeat (first | exact ReO.nil | refine ReO.cons (Re.same rfl rfl) (.inr rfl) ?_ | refine ReO.cons (Re.same rfl (still_ints _)) (.inr rfl) ?_ | refine ReO.cons (Re.same rfl (still_bools _)) (.inr rfl) ?_ | refine ReO.cons (Re.same rfl (still_rows (fun _ => rfl) _)) (.inr rfl) ?_)) (Nat.le_of_ble_eq_true rfl)
          · have e := sqS_0 (most := most) (s := (c1, xs)) ho2
            rw [e] at hE hok
            refine go (r := ?_); and_intros <;> intros <;> try exact True.intro
            all_goals first | (rename_i hg; exact absurd hg ho2) | exact hc1.2.1 | exact hc1.2.2 | exact ho.2.1 | exact ho.2.2 | skip
            refine Rnd.go (k - 1, _, _) ⟨hok.1, hE, ?_⟩ ?_ ?_
            · have := hok.2; simp only at this ⊢; omega
            · show k - 1 < k; omega
            · have e2 : (xs ++ [(0 : Int)]).length = xs.length + 1 := by simp
              simp only [e2]
              exact Weak.mk (by repeat (first | exact ReT.nil | refine ReT.cons (.keep rfl rfl .nil) ?_ | refine ReT.cons (.own rfl rfl rfl rfl rfl rfl .nil) ?_ | refine ReT.cons (.ptr rfl rfl rfl rfl .nil) ?_ | refine ReT.cons (.keep (congrArg (fun z => AV.sc (Value.int .i64 z)) (by first | omega | (skip))) rfl .nil) ?_ | refine ReT.cons (.keep (congrArg (fun z : List UInt8 => AV.sc (Value.string ⟨z.toArray⟩)) (by skip)) rfl .nil) ?_ | refine ReT.cons (.own rfl rfl rfl rfl rfl (by first | omega | (simp; done) | (simp; omega)) .nil) ?_)) (by repeat (first | exact ReO.nil | refine ReO.cons (Re.same rfl rfl) (.inr rfl) ?_ | refine ReO.cons (Re.same rfl (still_ints _)) (.inr rfl) ?_ | refine ReO.cons (Re.same rfl (still_bools _)) (.inr rfl) ?_ | refine ReO.cons (Re.same rfl (still_rows (fun _ => rfl) _)) (.inr rfl) ?_)) (Nat.le_of_ble_eq_true rfl)
  ⟩
end Go.Proofs.Ytgkeopmihhcbiaa

/- Comparisons of structs of two numbers. No condition. -/
namespace Go.Abs
open Go
set_option linter.unusedVariables false
set_option linter.unusedSimpArgs false

/-- A type whose values are two numbers that are compared one by one. -/
class EqPr (P : Program) (t : TypeId) : Prop where
  eq : ∀ (w : World) (a b c d : Int), (Op.equalIn 10000 t (.agg #[.int .i64 a, .int .i64 b]) (.agg #[.int .i64 c, .int .i64 d])).run P w = .ok (decide (a = c ∧ b = d)) w
  gd : P.eqGuardType P.depth t = false
section
variable {P : Program} {n m : Nat} {G : Ctx} {T : List (Nat × AV)} {O : List AObj} {Q : Exit → St → Prop} {md : Bool} {ops : Array Oper} {l : List Oper} {d : Nat} {tt : TypeId} {pos : String} {after : Array Edge}
end
end Go.Abs

/- What an operation makes, whatever names it, is laid into a place kept for it. No condition. -/
namespace Go.Abs
open Go
set_option linter.unusedVariables false
set_option linter.unusedSimpArgs false

/-- The same values; what names the object 'k' (new) names 'j'. -/
inductive Rf (k j e : Nat) : List AV → List AV → Prop
  | nil : Rf k j e [] []
  | keep {V vs us} : V.still = true → V.nofre = true → Rf k j e vs us → Rf k j e (V :: vs) (V :: us)
  | own {k' off len vs us} : k' = k → Rf k j e vs us → Rf k j e (.own k' 0 off len :: vs) (.own j e off len :: us)
  | ptr {k' off vs us} : k' = k → Rf k j e vs us → Rf k j e (.ptr k' 0 off :: vs) (.ptr j e off :: us)
  | agg {ds es vs us} : Rf k j e ds es → Rf k j e vs us → Rf k j e (.agg ds :: vs) (.agg es :: us)
  | tup {ds es vs us} : Rf k j e ds es → Rf k j e vs us → Rf k j e (.tup ds :: vs) (.tup es :: us)
theorem Rf.rel {k j e : Nat} {S w} {ι ι' : Nat → Spot} {O O' : List AObj} {ob ob' : AObj} (ho : O[k]? = some ob) (ho' : O'[j]? = some ob') (he : ob.ep = 0) (he' : ob'.ep = e) (hsz : ob'.size = ob.size) (hι : ι' j = ι k) {vs us : List AV} (h : Rf k j e vs us) : ∀ {xs}, LRel S w ι O vs xs [] → LRel S w ι' O' us xs [] := by
  induction h with
  | nil => intro xs hl; cases hl; exact .nil
  | keep hs hn _ ih =>
    intro xs hl
    obtain ⟨v, vs', f1, f2, rfl, hv, hr, hf⟩ := hl.uncons
    obtain ⟨rfl, rfl⟩ : f1 = [] ∧ f2 = [] := by simpa using hf
    exact LRel.cons (still_any hv hs O' (fun _ h => h) (fun _ _ => rfl) (fun _ _ => rfl)) (ih hr)
  | own hk _ ih =>
    intro xs hl
    subst hk
    cases hl with
    | own q1 q2 q3 r =>
      rw [ho] at q1; cases q1
      exact .own ho' (by omega) (fun _ => by rw [hsz, hι]; exact q3 he.symm) (ih r)
  | ptr hk _ ih =>
    intro xs hl
    subst hk
    cases hl with
    | ptr q1 q2 q3 r =>
      rw [ho] at q1; cases q1
      exact .ptr ho' (by omega) (fun _ => by rw [hι]; exact q3 he.symm) (ih r)
  | agg _ _ ih1 ih2 =>
    intro xs hl
    obtain ⟨v, vs', f1, f2, rfl, hv, hr, hf⟩ := hl.uncons
    obtain ⟨rfl, rfl⟩ : f1 = [] ∧ f2 = [] := by simpa using hf
    obtain ⟨us', rfl, ha⟩ := LRel.agg_inv hv
    simpa using LRel.agg (ih1 ha) (ih2 hr)
  | tup _ _ ih1 ih2 =>
    intro xs hl
    obtain ⟨v, vs', f1, f2, rfl, hv, hr, hf⟩ := hl.uncons
    obtain ⟨rfl, rfl⟩ : f1 = [] ∧ f2 = [] := by simpa using hf
    obtain ⟨us', rfl, ha⟩ := LRel.tup_inv hv
    simpa using LRel.tup (ih1 ha) (ih2 hr)
theorem RelAt.fillV {n m G S ι F T O a w} {d j : Nat} {V V' : AV} {ob oj : AObj} (hV : Rf O.length j (oj.ep + 1) [V] [V']) (hr : RelAt n m G S ι F ⟨(d, V) :: T, O ++ [ob]⟩ a w) (hj : O[j]? = some oj) (hm : m ≤ j) (hob : ob.ep = 0) (hst : ob.cells.all AV.still = true) :
    ∃ ι' F', RelAt n m G S ι' F' ⟨(d, V') :: T, O.set j (ob.putE (oj.ep + 1)) ++ [deadO]⟩ a w := by
  have hjl : j < O.length := (List.getElem?_eq_some_iff.1 hj).1
  have hlast : (O ++ [ob])[O.length]? = some ob := List.getElem?_concat_length
  have hO2 : ∀ i : Nat, (O.set j (ob.putE (oj.ep + 1)) ++ [deadO])[i]? = if i = j then some (ob.putE (oj.ep + 1)) else if i = O.length then some deadO else O[i]? := by
    intro i
    by_cases h1 : i = j
    · subst h1; rw [if_pos rfl, List.getElem?_append_left (by simpa using hjl)]; simp [hjl]
    · rw [if_neg h1]
      have h1' : ¬ j = i := fun e => h1 e.symm
      by_cases h2 : i = O.length
      · subst h2; rw [if_pos rfl, List.getElem?_append_right (by simp)]; simp
      · rw [if_neg h2]
        rcases Nat.lt_or_ge i O.length with h | h
        · rw [List.getElem?_append_left (by simpa using h)]; simp [List.getElem?_set, h1']
        · rw [List.getElem?_eq_none (by simp; omega), List.getElem?_eq_none h]
  have hO1 : ∀ i : Nat, i ≠ O.length → (O ++ [ob])[i]? = O[i]? := by
    intro i hi
    rcases Nat.lt_or_ge i O.length with h | h
    · rw [List.getElem?_append_left h]
    · rw [List.getElem?_eq_none (by simp; omega), List.getElem?_eq_none h]
  have hjn : j ≠ O.length := by omega
  have hlat : Later S w ι (O ++ [ob]) S w (upd (upd ι j (ι O.length)) O.length none) (O.set j (ob.putE (oj.ep + 1)) ++ [deadO]) := by
    refine ⟨fun _ h => h, fun _ _ => rfl, fun i obi hi => ?_⟩
    by_cases h1 : i = j
    · subst h1; rw [hO1 _ hjn, hj] at hi; cases hi
      exact ⟨(ob.putE (oj.ep + 1)), by rw [hO2, if_pos rfl], .inl (Nat.lt_succ_self _)⟩
    · by_cases h2 : i = O.length
      · subst h2; rw [hlast] at hi; cases hi
        exact ⟨deadO, by rw [hO2, if_neg h1, if_pos rfl], .inl (by rw [hob]; exact Nat.lt_succ_self _)⟩
      · rw [hO1 _ h2] at hi
        exact ⟨obi, by rw [hO2, if_neg h1, if_neg h2]; exact hi, .inr ⟨rfl, rfl, by rw [upd_other _ _ h2, upd_other _ _ h1]⟩⟩
  have hn := hr.objs.obj O.length ob hlast
  refine ⟨upd (upd ι j (ι O.length)) O.length none, upd (upd F j (F O.length)) O.length [], hr.defers, hr.size, fun t' => ?_, ⟨fun i obi hi => ?_, fun i hi => ?_, fun i i' hi hi' hii c hcm => ?_⟩, fun i hi c hcm => ?_, hr.base, hr.stable, hr.keeps, fun i hi => ?_, ?_⟩
  · have ht := hr.tmps t'
    by_cases e : d = t'
    · subst e
      have ht : VRel S w ι (O ++ [ob]) (look ((d, V) :: T) d) (a.tmps.getD d undef) [] := ht
      show VRel _ _ _ _ (look ((d, V') :: T) d) _ _
      rw [look_cons_same] at ht ⊢
      exact hV.rel (ob' := ob.putE (oj.ep + 1)) hlast (by rw [hO2, if_pos rfl]) hob rfl rfl (by rw [upd_other _ _ hjn, upd_same]) ht
    · have ht : VRel S w ι (O ++ [ob]) (look ((d, V) :: T) t') (a.tmps.getD t' undef) [] := ht
      show VRel _ _ _ _ (look ((d, V') :: T) t') _ _
      rw [look_cons_other _ _ _ _ e] at ht ⊢
      exact ht.mono hlat (fun _ _ => rfl)
  · have hi : (O.set j (ob.putE (oj.ep + 1)) ++ [deadO])[i]? = some obi := hi
    rw [hO2] at hi
    by_cases e1 : i = j
    · subst e1
      rw [if_pos rfl] at hi; cases hi
      rw [upd_other _ _ hjn, upd_other _ _ hjn, upd_same, upd_same]
      unfold ObjAt at hn ⊢
      cases hs : ι O.length with
      | none => rw [hs] at hn; exact hn
      | some p =>
        obtain ⟨b, k⟩ := p
        rw [hs] at hn
        obtain ⟨cur, t, fz, f', h1, h2, h3, h4, h5, h6, h7⟩ := hn
        have h8 := h7.mono hlat (fun _ _ => rfl)
        rw [hs] at h8
        exact ⟨cur, t, fz, f', h1, h2, h3, h4, h5, h6, h8⟩
    · rw [if_neg e1] at hi
      by_cases e2 : i = O.length
      · subst e2
        rw [if_pos rfl] at hi; cases hi
        rw [upd_same, upd_same]; exact ⟨rfl, rfl⟩
      · rw [if_neg e2] at hi
        rw [upd_other _ _ e2, upd_other _ _ e2, upd_other _ _ e1, upd_other _ _ e1]
        have ho := hr.objs.obj i obi (by show (O ++ [ob])[i]? = _; rw [hO1 _ e2]; exact hi)
        unfold ObjAt at ho ⊢
        cases hs : ι i with
        | none => rw [hs] at ho; exact ho
        | some p =>
          obtain ⟨b, k⟩ := p
          rw [hs] at ho
          obtain ⟨cur, t, fz, f', h1, h2, h3, h4, h5, h6, h7⟩ := ho
          exact ⟨cur, t, fz, f', h1, h2, h3, h4, h5, h6, h7.mono hlat (fun _ _ => rfl)⟩
  · have hi : i < (O.set j (ob.putE (oj.ep + 1)) ++ [deadO]).length := hi
    simp only [List.length_append, List.length_set, List.length_singleton] at hi
    by_cases e2 : i = O.length
    · subst e2; rw [upd_same]; exact List.nodup_nil
    · rw [upd_other _ _ e2]
      by_cases e1 : i = j
      · subst e1; rw [upd_same]; exact hr.objs.nodup O.length (by show O.length < (O ++ [ob]).length; simp)
      · rw [upd_other _ _ e1]; exact hr.objs.nodup i (by show i < (O ++ [ob]).length; simp; omega)
  · have hi : i < (O.set j (ob.putE (oj.ep + 1)) ++ [deadO]).length := hi
    have hi' : i' < (O.set j (ob.putE (oj.ep + 1)) ++ [deadO]).length := hi'
    simp only [List.length_append, List.length_set, List.length_singleton] at hi hi'
    by_cases e2 : i = O.length
    · subst e2; rw [upd_same] at hcm; cases hcm
    · rw [upd_other _ _ e2] at hcm
      by_cases e3 : i' = O.length
      · subst e3; rw [upd_same]; intro h; cases h
      · rw [upd_other _ _ e3]
        have hL : (O ++ [ob]).length = O.length + 1 := by simp
        by_cases e1 : i = j
        · subst e1
          rw [upd_same] at hcm
          rw [upd_other _ _ (fun e => hii e.symm)]
          exact hr.objs.apart O.length i' (by show O.length < (O ++ [ob]).length; omega) (by show i' < (O ++ [ob]).length; omega) (fun e => e3 e.symm) c hcm
        · rw [upd_other _ _ e1] at hcm
          by_cases e4 : i' = j
          · subst e4; rw [upd_same]
            exact hr.objs.apart i O.length (by show i < (O ++ [ob]).length; omega) (by show O.length < (O ++ [ob]).length; omega) e2 c hcm
          · rw [upd_other _ _ e4]
            exact hr.objs.apart i i' (by show i < (O ++ [ob]).length; omega) (by show i' < (O ++ [ob]).length; omega) hii c hcm
  · have hi : i < (O.set j (ob.putE (oj.ep + 1)) ++ [deadO]).length := hi
    simp only [List.length_append, List.length_set, List.length_singleton] at hi
    have hL : (O ++ [ob]).length = O.length + 1 := by simp
    by_cases e2 : i = O.length
    · subst e2; rw [upd_same] at hcm; cases hcm
    · rw [upd_other _ _ e2] at hcm
      by_cases e1 : i = j
      · subst e1; rw [upd_same] at hcm; exact hr.foot O.length (by show O.length < (O ++ [ob]).length; omega) c hcm
      · rw [upd_other _ _ e1] at hcm; exact hr.foot i (by show i < (O ++ [ob]).length; omega) c hcm
  · rw [upd_other _ _ (by omega), upd_other _ _ (by omega)]; exact hr.spots i hi
  · show m ≤ (O.set j (ob.putE (oj.ep + 1)) ++ [deadO]).length
    simp only [List.length_append, List.length_set, List.length_singleton]; omega

section
variable {P : Program} {n m : Nat} {G : Ctx} {O : List AObj} {Q : Exit → St → Prop} {ops : Array Oper}
theorem WpL.putV {T : List (Nat × AV)} {Ov : List AObj} {p d : Nat} {V V' : AV} {ob : AObj} (hV : Rf (O ++ Ov).length (O.length + p) 1 [V] [V']) (hp : Ov[p]? = some roomO) (hm : m ≤ O.length + p) (hob : ob.ep = 0) (hst : ob.cells.all AV.still = true) :
    WpL P n m G false ops [] ⟨(d, V) :: T, O ++ Ov ++ [ob]⟩ (Only ⟨(d, V') :: T, O ++ (Fil.put p ob.put1).run Ov⟩) := by
  refine WpL.weak (σ' := ⟨(d, V') :: T, (O ++ Ov).set (O.length + p) (ob.putE 1) ++ [deadO]⟩) ?_ ?_
  · rintro n' G' a w ⟨S, ι, F, hr⟩
    obtain ⟨ι', F', h⟩ := hr.fillV (V := V) (V' := V') (j := O.length + p) (oj := roomO) hV (fill_at hp) hm hob hst
    exact ⟨S, ι', F', h⟩
  · refine WpL.nil (Only.mk ?_)
    rw [fill_eq]; rfl
end
end Go.Abs

/- Regions that draw their order, further: operations that yield nothing (stores), and places that several operations touch, each waiting for those before it. No condition. -/
namespace Go.Abs
open Go
set_option linter.unusedVariables false
set_option linter.unusedSimpArgs false

inductive HeadR (P : Program) (n m : Nat) (G : Ctx) (ops : Array Oper) (T0 : List (Nat × AV)) (O Oi : List AObj) (keep sh : List Nat) : List (Nat × AV) → List Fil → List Oper → List (Nat × AV) → List Fil → Prop
  | nil {fs gs} : HeadR P n m G ops T0 O Oi keep sh fs gs [] fs gs
  | cons {fs out : List (Nat × AV)} {gs : List Fil} {o : Oper} {l : List Oper} {d : Nat} {V : AV} {F : List (Nat × AV)} {ks : List Fil} (k : Fil) (hF : deps fs o = F)
      (h : ∀ Tv Ov, Oi.length ≤ Ov.length → (∀ p ob, k.spot = some (p, ob) → Ov[p]? = (fillAll gs Oi)[p]?) → (∀ j f p ob, waits o j = true → gs[j]? = some f → f.spot = some (p, ob) → memB p sh = false → Ov[p]? = some ob) → (∀ q, memB q keep = true → Ov[q]? = Oi[q]?) →
        WpL P n m G false ops [o] ⟨F ++ (T0 ++ Tv), O ++ Ov⟩ (Only ⟨(d, V) :: (F ++ (T0 ++ Tv)), O ++ k.run Ov⟩)) (r : HeadR P n m G ops T0 O Oi keep sh (fs ++ [(d, V)]) (gs ++ [k]) l out ks) : HeadR P n m G ops T0 O Oi keep sh fs gs (o :: l) out ks

section
variable {P : Program} {n m : Nat} {G : Ctx} {ops : Array Oper} {T0 : List (Nat × AV)} {O Oi : List AObj} {keep sh : List Nat}

theorem HeadR.pre {fs gs l out ks} (h : HeadR P n m G ops T0 O Oi keep sh fs gs l out ks) : ∃ r s, out = fs ++ r ∧ r.length = l.length ∧ ks = gs ++ s ∧ s.length = l.length := by
  induction h with
  | nil => exact ⟨[], [], by simp, rfl, by simp, rfl⟩
  | @cons fs out gs o l d V F ks k _ _ _ ih => obtain ⟨r, s, h1, h2, h3, h4⟩ := ih; exact ⟨(d, V) :: r, k :: s, by rw [h1]; simp, by simp [h2], by rw [h3]; simp, by simp [h4]⟩

theorem HeadR.at {fs gs l out ks} (h : HeadR P n m G ops T0 O Oi keep sh fs gs l out ks) (hg : gs.length = fs.length) : ∀ {j : Nat} {o : Oper}, l[j]? = some o → ∃ d V k, out[fs.length + j]? = some (d, V) ∧ ks[fs.length + j]? = some k ∧
    ∀ Tv Ov, Oi.length ≤ Ov.length → (∀ p ob, k.spot = some (p, ob) → Ov[p]? = (fillAll (ks.take (fs.length + j)) Oi)[p]?) → (∀ i f p ob, waits o i = true → (ks.take (fs.length + j))[i]? = some f → f.spot = some (p, ob) → memB p sh = false → Ov[p]? = some ob) → (∀ q, memB q keep = true → Ov[q]? = Oi[q]?) →
      WpL P n m G false ops [o] ⟨deps (out.take (fs.length + j)) o ++ (T0 ++ Tv), O ++ Ov⟩ (Only ⟨(d, V) :: (deps (out.take (fs.length + j)) o ++ (T0 ++ Tv)), O ++ k.run Ov⟩) := by
  induction h with
  | nil => intro j o h; simp at h
  | @cons fs out gs o l d V F ks k hF h r ih =>
    intro j o' hj
    obtain ⟨r', s', h1, h2, h3, h4⟩ := r.pre
    cases j with
    | zero =>
      simp only [List.getElem?_cons_zero, Option.some.injEq] at hj
      subst hj
      refine ⟨d, V, k, by rw [h1]; simp, by rw [h3]; simp [hg], ?_⟩
      have : out.take (fs.length + 0) = fs := by rw [h1, Nat.add_zero, List.append_assoc, List.take_left']; rfl
      have e2 : ks.take (fs.length + 0) = gs := by rw [h3, Nat.add_zero, List.append_assoc, List.take_left']; exact hg
      rw [this, hF, e2]; exact h
    | succ j =>
      have := ih (by simp [hg]) (j := j) (o := o') (by simpa using hj)
      rw [List.length_append, List.length_singleton, Nat.add_assoc, Nat.add_comm 1 j] at this
      simpa using this

/-- What a place holds: what the last operation that touches it left, or what was there. -/
theorem fillAll_cases : ∀ (L : List Fil) (Oi : List AObj) (q : Nat), q < Oi.length → (∃ (i : Nat) (f : Fil) (ob : AObj), L[i]? = some f ∧ f.spot = some (q, ob) ∧ (∀ (j : Nat) (g : Fil) (oc : AObj), i < j → L[j]? = some g → g.spot ≠ some (q, oc)) ∧ (fillAll L Oi)[q]? = some ob) ∨
    ((∀ (j : Nat) (g : Fil) (oc : AObj), L[j]? = some g → g.spot ≠ some (q, oc)) ∧ (fillAll L Oi)[q]? = Oi[q]?)
  | [], Oi, q, hq => .inr ⟨fun j g oc h => by simp at h, rfl⟩
  | f :: L, Oi, q, hq => by
    rw [fillAll]
    cases hs : f.spot with
    | none =>
      rcases fillAll_cases L Oi q hq with ⟨i, g, ob, h1, h2, h3, h4⟩ | ⟨h1, h2⟩
      · refine .inl ⟨i + 1, g, ob, by simpa using h1, h2, fun j g' oc hj hg => ?_, h4⟩
        cases j with
        | zero => omega
        | succ j => exact h3 j g' oc (by omega) (by simpa using hg)
      · refine .inr ⟨fun j g oc hg => ?_, h2⟩
        cases j with
        | zero => simp at hg; subst hg; rw [hs]; simp
        | succ j => exact h1 j g oc (by simpa using hg)
    | some x =>
      obtain ⟨p, ob0⟩ := x
      simp only
      rcases fillAll_cases L (Oi.set p ob0) q (by simpa using hq) with ⟨i, g, ob, h1, h2, h3, h4⟩ | ⟨h1, h2⟩
      · refine .inl ⟨i + 1, g, ob, by simpa using h1, h2, fun j g' oc hj hg => ?_, h4⟩
        cases j with
        | zero => omega
        | succ j => exact h3 j g' oc (by omega) (by simpa using hg)
      · by_cases e : p = q
        · subst e
          refine .inl ⟨0, f, ob0, by simp, hs, fun j g' oc hj hg => ?_, by rw [h2, List.getElem?_set_self hq]⟩
          cases j with
          | zero => omega
          | succ j => exact h1 j g' oc (by simpa using hg)
        · refine .inr ⟨fun j g oc hg => ?_, by rw [h2, List.getElem?_set, if_neg e]⟩
          cases j with
          | zero => simp at hg; subst hg; rw [hs]; intro h; cases h; exact e rfl
          | succ j => exact h1 j g oc (by simpa using hg)

structure RoomR (ks : List Fil) (Oi : List AObj) (k : Nat) (listed : Array Bool) (Ov : List AObj) : Prop where
  len : Ov.length = Oi.length + ((List.range k).filter fun i => listed.getD i false && isPut ks i).length
  cur : ∀ q, q < Oi.length → (∃ i f ob, i < k ∧ listed.getD i false = true ∧ ks[i]? = some f ∧ f.spot = some (q, ob) ∧ (∀ j g oc, i < j → j < k → listed.getD j false = true → ks[j]? = some g → g.spot ≠ some (q, oc)) ∧ Ov[q]? = some ob) ∨
    ((∀ j g oc, j < k → listed.getD j false = true → ks[j]? = some g → g.spot ≠ some (q, oc)) ∧ Ov[q]? = Oi[q]?)
  dead : ∀ q, Oi.length ≤ q → q < Ov.length → Ov[q]? = some deadO
/-- Every place lies among the places; what touches a place touched before is shared and waits for that. -/
structure RoomROk (ops : Array Oper) (sh : List Nat) (ks : List Fil) (c k : Nat) : Prop where
  lt : ∀ i f p ob, i < k → ks[i]? = some f → f.spot = some (p, ob) → p < c
  chain : ∀ i j f g p ob oc, i < j → j < k → ks[i]? = some f → ks[j]? = some g → f.spot = some (p, ob) → g.spot = some (p, oc) → memB p sh = true ∧ ∃ o, ops[j]? = some o ∧ waits o i = true

theorem waits_spec {o : Oper} {j : Nat} (h : waits o j = true) : ∃ e ∈ o.after, Region.binds .any e = true ∧ e.on = j := by
  obtain ⟨e, he, hb⟩ := List.any_eq_true.1 h
  rw [Bool.and_eq_true] at hb
  exact ⟨e, by simpa using he, hb.1, Nat.eq_of_beq_eq_true hb.2⟩

theorem RoomR.before {ks : List Fil} {k i : Nat} {listed : Array Bool} {Ov : List AObj} {f : Fil} {o : Oper} (h : RoomR ks Oi k listed Ov) (ok : RoomROk ops sh ks Oi.length k) (inv : HeadInv .any ops k listed) (hik : i < k) (hu : listed.getD i false = false) (hall : ∀ e ∈ o.after, Region.binds .any e = true → listed.getD e.on false = true) (ho : ops[i]? = some o) (hf : ks[i]? = some f) {p : Nat} {ob : AObj} (hsp : f.spot = some (p, ob)) :
    Ov[p]? = (fillAll (ks.take i) Oi)[p]? := by
  have hp := ok.lt i f p ob hik hf hsp
  -- what touches the place before it is listed, what touches it behind is not
  have hbef : ∀ j g oc, j < i → ks[j]? = some g → g.spot = some (p, oc) → listed.getD j false = true := by
    intro j g oc hj hg hs
    obtain ⟨_, o', ho', hw⟩ := ok.chain j i g f p oc ob hj hik hg hf hs hsp
    rw [ho] at ho'; cases ho'
    obtain ⟨e, he, hb, rfl⟩ := waits_spec hw
    exact hall e he hb
  have haft : ∀ j g oc, i < j → j < k → ks[j]? = some g → g.spot = some (p, oc) → listed.getD j false = false := by
    intro j g oc hj hjk hg hs
    obtain ⟨_, o', ho', hw⟩ := ok.chain i j f g p ob oc hj hjk hf hg hsp hs
    cases hl : listed.getD j false with
    | false => rfl
    | true =>
      obtain ⟨e, he, hb, rfl⟩ := waits_spec hw
      have := inv.closed j o' ho' hl e he hb
      rw [hu] at this; cases this
  have htk : ∀ j g, (ks.take i)[j]? = some g → j < i ∧ ks[j]? = some g := by
    intro j g hg
    rw [List.getElem?_take] at hg
    split at hg
    · rename_i hj; exact ⟨hj, hg⟩
    · cases hg
  rcases h.cur p hp with ⟨j, g, oc, hjk, hl, hg, hs, hlast, hv⟩ | ⟨hno, hv⟩ <;> rcases fillAll_cases (ks.take i) Oi p hp with ⟨j2, g2, oc2, hg2, hs2, hlast2, hv2⟩ | ⟨hno2, hv2⟩
  · obtain ⟨hj2, hg2⟩ := htk j2 g2 hg2
    have hji : j < i := by
      rcases Nat.lt_trichotomy j i with h1 | h1 | h1
      · exact h1
      · subst h1; rw [hu] at hl; cases hl
      · rw [haft j g oc h1 hjk hg hs] at hl; cases hl
    have : j = j2 := by
      rcases Nat.lt_trichotomy j j2 with h1 | h1 | h1
      · exact absurd hs2 (hlast j2 g2 oc2 h1 (by omega) (hbef j2 g2 oc2 hj2 hg2 hs2) hg2)
      · exact h1
      · exact absurd hs (hlast2 j g oc h1 (by rw [List.getElem?_take, if_pos hji]; exact hg))
    subst this
    rw [hg] at hg2; cases hg2
    rw [hs] at hs2; cases hs2
    rw [hv, hv2]
  · have hji : j < i := by
      rcases Nat.lt_trichotomy j i with h1 | h1 | h1
      · exact h1
      · subst h1; rw [hu] at hl; cases hl
      · rw [haft j g oc h1 hjk hg hs] at hl; cases hl
    exact absurd hs (hno2 j g oc (by rw [List.getElem?_take, if_pos hji]; exact hg))
  · obtain ⟨hj2, hg2⟩ := htk j2 g2 hg2
    exact absurd hs2 (hno j2 g2 oc2 (by omega) (hbef j2 g2 oc2 hj2 hg2 hs2) hg2)
  · rw [hv, hv2]

theorem RoomR.step {ks : List Fil} {k i : Nat} {listed : Array Bool} {Ov : List AObj} {f : Fil} (h : RoomR ks Oi k listed Ov) (ok : RoomROk ops sh ks Oi.length k) (inv : HeadInv .any ops k listed) (hik : i < k) (hs : i < listed.size) (hu : listed.getD i false = false) (hf : ks[i]? = some f) :
    RoomR ks Oi k (listed.setIfInBounds i true) (f.run Ov) := by
  have hself : (listed.setIfInBounds i true).getD i false = true := by simp [hs]
  have hcnt := count_set (f := isPut ks) hik hs hu
  have hlen := h.len
  have hp : isPut ks i = f.isPut := by unfold isPut; rw [hf]; rfl
  rw [hp] at hcnt
  have hrl : (f.run Ov).length = Ov.length + (if f.isPut = true then 1 else 0) := by cases f <;> simp [Fil.run, Fil.isPut]
  have hle : Oi.length ≤ Ov.length := by omega
  have hoth : ∀ q, q < Ov.length → (∀ p ob, f.spot = some (p, ob) → p ≠ q) → (f.run Ov)[q]? = Ov[q]? := by
    intro q hq hne
    cases f with
    | none => rfl
    | put p ob =>
      have := hne p ob rfl
      unfold Fil.run
      rw [List.getElem?_append_left (by simpa using hq), List.getElem?_set, if_neg this]
    | step p ob =>
      have := hne p ob rfl
      unfold Fil.run
      rw [List.getElem?_set, if_neg this]
  have hown : ∀ p ob, f.spot = some (p, ob) → (f.run Ov)[p]? = some ob := by
    intro p ob e
    have hpc := ok.lt i f p ob hik hf e
    cases f with
    | none => cases e
    | put p' ob' =>
      cases e
      unfold Fil.run
      rw [List.getElem?_append_left (by rw [List.length_set]; omega), List.getElem?_set_self (by omega)]
    | step p' ob' =>
      cases e
      unfold Fil.run
      rw [List.getElem?_set_self (by omega)]
  refine ⟨by rw [hrl, hcnt, hlen]; split <;> omega, fun q hq => ?_, fun q h1 h2 => ?_⟩
  · by_cases hq2 : ∃ ob, f.spot = some (q, ob)
    · obtain ⟨ob, hsp⟩ := hq2
      refine .inl ⟨i, f, ob, hik, hself, hf, hsp, fun j g oc hj hjk hl hg hs2 => ?_, hown q ob hsp⟩
      rw [getD_set_ne false (by omega)] at hl
      obtain ⟨_, o', ho', hw⟩ := ok.chain i j f g q ob oc hj hjk hf hg hsp hs2
      obtain ⟨e, he, hb, rfl⟩ := waits_spec hw
      have := inv.closed j o' ho' hl e he hb
      rw [hu] at this; cases this
    · have hne : ∀ p ob, f.spot = some (p, ob) → p ≠ q := fun p ob hsp e => hq2 ⟨ob, e ▸ hsp⟩
      rw [hoth q (by omega) hne]
      rcases h.cur q hq with ⟨j, g, oc, hjk, hl, hg, hs2, hlast, hv⟩ | ⟨hno, hv⟩
      · have hij : i ≠ j := by rintro rfl; rw [hu] at hl; cases hl
        refine .inl ⟨j, g, oc, hjk, by rw [getD_set_ne false hij]; exact hl, hg, hs2, fun j2 g2 oc2 h1 h2 h3 h4 => ?_, hv⟩
        by_cases e : i = j2
        · subst e; rw [hf] at h4; cases h4; exact fun h5 => hq2 ⟨_, h5⟩
        · rw [getD_set_ne false e] at h3; exact hlast j2 g2 oc2 h1 h2 h3 h4
      · refine .inr ⟨fun j2 g2 oc2 h2 h3 h4 => ?_, hv⟩
        by_cases e : i = j2
        · subst e; rw [hf] at h4; cases h4; exact fun h5 => hq2 ⟨_, h5⟩
        · rw [getD_set_ne false e] at h3; exact hno j2 g2 oc2 h2 h3 h4
  · rcases Nat.lt_or_ge q Ov.length with h3 | h3
    · rw [hoth q h3 (fun p ob e1 => by have := ok.lt i f p ob hik hf e1; omega)]
      exact h.dead q h1 h3
    · cases f with
      | none => exact absurd h2 (by simp [Fil.run]; omega)
      | step p ob => exact absurd h2 (by simp [Fil.run]; omega)
      | put p ob =>
        simp [Fil.run] at h2
        have e : q = Ov.length := by omega
        subst e
        unfold Fil.run
        rw [List.getElem?_append_right (by simp)]; simp

def GoodR (n m : Nat) (G : Ctx) (T0 out : List (Nat × AV)) (O Oi : List AObj) (k : Nat) (ks : List Fil) (listed : Array Bool) (a : Act) (w : World) : Prop :=
  ∃ T Ov, Rel n m G ⟨T, O ++ Ov⟩ a w ∧ RoomR ks Oi k listed Ov ∧ (∀ (i d : Nat) (V : AV), out[i]? = some (d, V) → listed.getD i false = true → look T d = V) ∧ ∀ t, has out t = false → look T t = look T0 t
/-- Every place lies among c places; the shared ones are touched in order. -/
def chainR (ops : Array Oper) (sh : List Nat) (c : Nat) : Nat → List (Nat × Nat) → List Fil → Bool
  | _, _, [] => true
  | j, seen, f :: ks => match f.spot with
    | none => chainR ops sh c (j + 1) seen ks
    | some (p, _) => Nat.blt p c && (seen.all fun s => !Nat.beq s.1 p || (memB p sh && match ops[j]? with | some o => waits o s.2 | none => false)) && chainR ops sh c (j + 1) ((p, j) :: seen) ks
theorem HeadR.consF {fs fs2 out : List (Nat × AV)} {gs gs2 : List Fil} {o : Oper} {l : List Oper} {d : Nat} {V : AV} {F : List (Nat × AV)} {ks : List Fil} {cur : List AObj} (k : Fil) (hd : o.dst = some d) (hF : depsF fs o.after.toList = some F) (hcur : fillAll gs Oi = cur)
    (h : ∀ Tv Ov, Oi.length ≤ Ov.length → (∀ p ob, k.spot = some (p, ob) → Ov[p]? = cur[p]?) → (∀ j f p ob, waits o j = true → gs[j]? = some f → f.spot = some (p, ob) → memB p sh = false → Ov[p]? = some ob) → (∀ q, memB q keep = true → Ov[q]? = Oi[q]?) → WpL P n m G false ops [o] ⟨F ++ (T0 ++ Tv), O ++ Ov⟩ (Only ⟨(d, V) :: (F ++ (T0 ++ Tv)), O ++ k.run Ov⟩)) (hs : catF fs [(d, V)] = some fs2) (hg : catF gs [k] = some gs2) (r : HeadR P n m G ops T0 O Oi keep sh fs2 gs2 l out ks) : HeadR P n m G ops T0 O Oi keep sh fs gs (o :: l) out ks := by
  have := catF_eq hs; subst this; have := catF_eq hg; subst this; subst hcur
  exact .cons k (depsF_eq hF) h r
end
end Go.Abs
