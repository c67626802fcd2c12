/- Contracts: the transforms straight on; the levels of a residual; the law FnExactLevelsFor. No condition. -/
import Derived.Test.YtepfjefdbpmobaaMat4
import Derived.Test.YtepfjefdbpmobaaScn
import Derived.Test.YtepfjefdbpmobaaSym
import Derived.Test.YtepfjefdbpmobaaLw
namespace Go.Proofs.Ytepfjefdbpmobaa
open Go Go.Abs
set_option linter.unusedVariables false
set_option linter.unusedSimpArgs false
set_option maxRecDepth 100000
set_option maxHeartbeats 4000000
attribute [local irreducible] WpA WpL Rnd Blk Abs.Seq Abs.Fin Abs.FinG FnC FnG Only

abbrev FitM (l : List Int) : Prop := In l (-1000000000) 1000000000
instance l12Fits_s : Con 86 (∀ (l : List Int) (n : Int), l.length ≤ 1099511627776 ∧ 0 ≤ n ∧ n ≤ 8 → Fn 86 [IL l, I n] [] (B (decide (FitM l ∧ (l.length : Int) = n * n)))) := ⟨fun l n hl => by
  have hnn := mul_in (a := n) (b := n) (by omega) (by omega)
  refine FnC.of_body tabOk Try.func86 Try.ntmps86 rfl (by decide +kernel) (by simp) fun G => ?_
  refine go (r := ?_); and_intros <;> intros <;> try exact True.intro
  refine WpA.loop (fun k : Nat => ⟨[(0, IL l), (1, I n), (5, I k)], []⟩) (fun k => k ≤ l.length ∧ In (l.take k) (-1000000000) 1000000000) (fun k => l.length - k) 0 (by simp [in_nil]) (go (r := ?_)) (fun k hk => ?_)
  · trivial
  refine go (r := ?_); and_intros <;> intros <;> try exact True.intro
  · rename_i h1 h2
    symm; rw [decide_eq_false_iff_not]; exact fun hh => h2 (in_get hh.1 (by omega))
  · rw [in_snoc (by omega)]; simp_all
  · have e : k = l.length := by omega
    subst e
    have h3 := hk.2
    rw [List.take_length] at h3
    simp [h3]⟩
instance l12Mul_s : Con 159 (∀ (l : List Int) (n : Int) (b : Bool), (n = 4 ∨ n = 8) ∧ (l.length : Int) = n * n ∧ FitM l → Fn 159 [IL l, I n, B b] [XI (mulM n.toNat (mg n.toNat b) l)] (.own 0 0 0 (mulM n.toNat (mg n.toNat b) l).length)) := ⟨fun l n b h => by
  obtain ⟨rfl | rfl, h1, h2⟩ := h
  · exact l12Mul_4 b l ⟨by omega, h2⟩
  · exact l12Mul_8 b l ⟨by omega, h2⟩⟩
theorem prodL_le {n : Nat} {g : Nat → Nat → Int} {l : List Int} (h : n ≤ 8) : (prodL n g l).length ≤ 64 := by
  have := prodL_len n g l
  have h2 : n * n ≤ 8 * 8 := Nat.mul_le_mul h h
  split at this <;> omega
def trL (n : Int) (b : Bool) (l : List Int) : List Int := prodL n.toNat (mg n.toNat b) l
theorem trL_le {n : Int} {b : Bool} {l : List Int} (h : n ≤ 8) : (trL n b l).length ≤ 64 := prodL_le (by omega)
theorem trL_yes {n : Int} {b : Bool} {l : List Int} (h : n = 4 ∨ n = 8) (h1 : FitM l ∧ (l.length : Int) = n * n) : trL n b l = mulM n.toNat (mg n.toNat b) l := by
  rw [trL, prodL, if_pos]
  refine ⟨?_, h1.1⟩
  have := h1.2
  rcases h with rfl | rfl
  · show l.length = 16; omega
  · show l.length = 64; omega
theorem trL_no {n : Int} {b : Bool} {l : List Int} (h : n = 4 ∨ n = 8) (h1 : ¬ (FitM l ∧ (l.length : Int) = n * n)) : trL n b l = [] := by
  rw [trL, prodL, if_neg]
  intro hh; apply h1
  refine ⟨hh.2, ?_⟩
  rcases h with rfl | rfl
  · have : l.length = 16 := hh.1
    omega
  · have : l.length = 64 := hh.1
    omega
instance l12Some_s : Con 125 (∀ (l : List Int) (n : Int) (b : Bool), (n = 4 ∨ n = 8) ∧ l.length ≤ 1099511627776 → Fn 125 [IL l, I n, B b] [XI (trL n b l)] (.own 0 0 0 (trL n b l).length)) := ⟨fun l n b h => by
  have hn := h.1
  have hfl := trL_yes (b := b) (l := l) hn
  refine FnC.of_body tabOk Try.func125 Try.ntmps125 rfl (by decide +kernel) (by simp) fun G => ?_
  refine go (r := ?_); and_intros <;> intros <;> try exact True.intro
  all_goals first | (rw [trL_no h.1 (by assumption)]; done) | (rw [trL_no h.1 (by assumption)]; rfl) | (rw [hfl (by assumption)]; done) | (exact (‹_ ∧ _›).1) | trace_state⟩
instance Forward4_s : Con 89 (∀ l : List Int, l.length ≤ 1099511627776 → Fn 89 [IL l] [XI (trL 4 false l)] (.own 0 0 0 (trL 4 false l).length)) := ⟨fun l h => by
  refine FnC.of_body tabOk Try.func89 Try.ntmps89 rfl (by decide +kernel) (by simp) fun G => ?_
  refine go (r := ?_); and_intros <;> intros <;> try exact True.intro⟩
instance Forward8_s : Con 90 (∀ l : List Int, l.length ≤ 1099511627776 → Fn 90 [IL l] [XI (trL 8 false l)] (.own 0 0 0 (trL 8 false l).length)) := ⟨fun l h => by
  refine FnC.of_body tabOk Try.func90 Try.ntmps90 rfl (by decide +kernel) (by simp) fun G => ?_
  refine go (r := ?_); and_intros <;> intros <;> try exact True.intro⟩
/-! By the program. -/
def gOf (M : List (List Int)) (r i : Nat) : Int := (M.getD r default).getD i 0
def MatOk (n : Nat) (M : List (List Int)) : Prop := M.length = n ∧ (∀ r, r < n → (M.getD r default).length = n) ∧ Sgn (gOf M)
instance product_c : Con 128 (∀ (n : Nat) (M : List (List Int)) (l : List Int), (n = 4 ∨ n = 8) ∧ MatOk n M ∧ l.length ≤ 1099511627776 → Fn 128 [LLn n M, IL l] [XI (prodL n (gOf M) l)] (.own 0 0 0 (prodL n (gOf M) l).length)) := ⟨fun n M l h => by
  obtain ⟨rfl | rfl, h1, h2⟩ := h
  · exact product_4 (gOf M) M l h1.2.2 ⟨h1.1, h1.2.1, fun _ _ _ _ => rfl⟩ h2
  · exact product_8 (gOf M) M l h1.2.2 ⟨h1.1, h1.2.1, fun _ _ _ _ => rfl⟩ h2⟩
theorem sumF_congr {f g : Nat → Int} : ∀ k, (∀ i, i < k → f i = g i) → sumF f k = sumF g k
  | 0, _ => rfl
  | k + 1, h => by rw [sumF, sumF, sumF_congr k (fun i hi => h i (by omega)), h k (by omega)]
theorem prodL_congr {n : Nat} {f g : Nat → Nat → Int} {l : List Int} (hn : 0 < n) (h : ∀ r i, r < n → i < n → f r i = g r i) : prodL n f l = prodL n g l := by
  have hm : mulM n f l = mulM n g l := by
    refine list_ext (N := n * n) (tabL_len _ _) (tabL_len _ _) fun q hq => ?_
    unfold mulM
    rw [tabL_get hq, tabL_get hq]
    have h1 : q / n < n := Nat.div_lt_of_lt_mul hq
    have h2 : q % n < n := Nat.mod_lt _ hn
    refine sumF_congr n fun i hi => ?_
    rw [h _ _ h2 hi]
    congr 1
    exact sumF_congr n fun j hj => by rw [h _ _ h1 hj]
  unfold prodL; rw [hm]
theorem A4_ok : MatOk 4 A4 := by
  refine ⟨rfl, ?_, fun r i => mx_val 4 r i⟩
  intro r hr
  rcases (by omega : r = 0 ∨ r = 1 ∨ r = 2 ∨ r = 3) with rfl | rfl | rfl | rfl <;> rfl
theorem H8_row {r : Nat} (h : r < 8) : H8.getD r default = tabL (mx 8 r) 8 := by
  simp [H8, h]
theorem gOf_H8 {r i : Nat} (h : r < 8) (h2 : i < 8) : gOf H8 r i = mx 8 r i := by
  rw [gOf, H8_row h, tabL_get h2]
theorem H8_ok : MatOk 8 H8 := by
  refine ⟨by simp [H8], fun r hr => by rw [H8_row hr, tabL_len], fun r i => ?_⟩
  by_cases h : r < 8
  · by_cases h2 : i < 8
    · rw [gOf_H8 h h2]; exact mx_val 8 r i
    · right; right; left
      rw [gOf, H8_row h, List.getD_eq_getElem?_getD, List.getElem?_eq_none (by rw [tabL_len]; omega)]; rfl
  · right; right; left
    have : H8.getD r default = [] := by rw [List.getD_eq_getElem?_getD, List.getElem?_eq_none (by simp [H8]; omega)]; rfl
    rw [gOf, this]; rfl
theorem trA4 (l : List Int) : prodL 4 (gOf A4) l = trL 4 false l := rfl
theorem trH8 (l : List Int) : prodL 8 (gOf H8) l = trL 8 false l := prodL_congr (by decide) fun r i hr hi => gOf_H8 hr hi
instance Forward4_c : Con 96 (∀ l : List Int, l.length ≤ 1099511627776 → Fn 96 [IL l] [XI (trL 4 false l)] (.own 0 0 0 (trL 4 false l).length)) := ⟨fun l h => by
  have hA := A4_ok
  rw [← trA4]
  refine FnC.of_body tabOk Try.func96 Try.ntmps96 rfl (by decide +kernel) (by simp) fun G => ?_
  refine go (r := ?_); and_intros <;> intros <;> try exact True.intro
  refine K.call ?_
  refine K.con (fun hcon => ?_)
  refine WpL.callF (hcon 4 A4 l ⟨by decide, hA, h⟩) snapA locA outA rfl rfl rfl (by decide) ?_
  refine go (r := ?_); and_intros <;> intros <;> try exact True.intro⟩
instance Forward8_c : Con 97 (∀ l : List Int, l.length ≤ 1099511627776 → Fn 97 [IL l] [XI (trL 8 false l)] (.own 0 0 0 (trL 8 false l).length)) := ⟨fun l h => by
  have hA := H8_ok
  rw [← trH8]
  refine FnC.of_body tabOk Try.func97 Try.ntmps97 rfl (by decide +kernel) (by simp) fun G => ?_
  refine go (r := ?_); and_intros <;> intros <;> try exact True.intro
  refine K.call ?_
  refine K.con (fun hcon => ?_)
  refine WpL.callF (hcon 8 H8 l ⟨by decide, hA, h⟩) snapA locA outA rfl rfl rfl (by decide) ?_
  refine go (r := ?_); and_intros <;> intros <;> try exact True.intro⟩

/-! Levels. -/
def clampL (v : Int) : Int := max (-16383) (min 16383 v)
def levL (b : Bool) (q : Int) (l r : List Int) : List Int := if OptOk q l ∧ 0 < side r.length ∧ FitM r then
  (if b = true then scnL (r.map clampL) else scnL (quantL (trL (side r.length) false r) q)) else []
theorem quantL_le (l : List Int) (q : Int) : (quantL l q).length ≤ l.length := by unfold quantL; split <;> simp
theorem scn_le (l : List Int) : (scnL l).length ≤ 64 := by rw [scnL_len]; exact (scan_fit l).2
theorem levL_le (b : Bool) (q : Int) (l r : List Int) : (levL b q l r).length ≤ 64 := by
  unfold levL; split
  · split <;> exact scn_le _
  · simp
theorem clampL_snoc (l : List Int) (k : Nat) (h : k < l.length) : (l.take k).map clampL ++ [clampL (l.getD k 0)] = (l.take (k + 1)).map clampL := qz_snoc clampL l k h
instance LevelsFor_s : Con 41 (∀ (q : Int) (b d : Bool) (l m : List Int) (e : List Bool) (r : List Int), l.length ≤ 1099511627776 ∧ r.length ≤ 1099511627776 → Fn 41 [OpA q b d l m e, IL r] [XI (levL b q l r)] (.own 0 0 0 (levL b q l r).length)) := ⟨fun q b d l m e r hl => by
  have hsc := side_cases r.length
  have ht4 := trL_le (n := 4) (b := false) (l := r) (by decide)
  have ht8 := trL_le (n := 8) (b := false) (l := r) (by decide)
  have hq4 := quantL_le (trL 4 false r) q
  have hq8 := quantL_le (trL 8 false r) q
  refine FnC.of_body tabOk Try.func41 Try.ntmps41 rfl (by decide +kernel) (by simp) fun G => ?_
  by_cases h : OptOk q l ∧ 0 < side r.length ∧ FitM r
  · obtain ⟨h1, h2, h3⟩ := id h
    have h4 : (r.length : Int) = side r.length * side r.length := by rcases hsc with ⟨a, b⟩ | ⟨a, b⟩ | ⟨_, _, b⟩ <;> rw [b] <;> omega
    have h5 := And.intro h3 h4
    have he : levL b q l r = if b = true then scnL (r.map clampL) else scnL (quantL (trL (side r.length) false r) q) := by rw [levL, if_pos h]
    have hb1 : b = true → levL b q l r = scnL (r.map clampL) := fun h => by rw [he, if_pos h]
    have hb4 : b = false → (r.length : Int) = 16 → levL b q l r = scnL (quantL (trL 4 false r) q) := fun h hh => by
      have hs4 : side r.length = 4 := by omega
      rw [he, if_neg (by simp [h]), hs4]
    have hb8 : b = false → ¬ (r.length : Int) = 16 → levL b q l r = scnL (quantL (trL 8 false r) q) := fun h hh => by
      have hs4 : side r.length = 8 := by omega
      rw [he, if_neg (by simp [h]), hs4]
    refine go (r := ?_); and_intros <;> intros <;> try exact True.intro
    · rename_i hb
      refine WpA.loop (fun k : Nat => ⟨[(1, IL r), (5, .own 1 0 0 k), (6, I k)], [OpO q b d l m e, XI ((r.take k).map clampL)]⟩) (fun k => k ≤ r.length) (fun k => r.length - k) 0 (by omega) (go (r := ?_)) (fun k hk => ?_)
      · simp
      have hkl : ((r.take k).map clampL).length = k := by simp; omega
      have hcs := clampL_snoc r k
      refine go (r := ?_); and_intros <;> intros <;> try exact True.intro
      · rw [← hcs (by omega)]; rfl
      all_goals have ek : k = r.length := by omega
      all_goals subst ek
      all_goals rw [hb1 hb, List.take_length]
    all_goals first | (rw [hb4 (by assumption) (by assumption)]; done) | (rw [hb8 (by assumption) (by assumption)]; done) | trace_state
  · have he : levL b q l r = [] := by rw [levL, if_neg h]
    refine go (r := ?_); and_intros <;> intros <;> try exact True.intro
    all_goals first | (rw [he]; done) | (rw [he]; rfl) | (exact absurd ⟨by assumption, by omega, And.left (by assumption)⟩ h) | trace_state⟩
theorem clampL_map (r : List Int) : (List.range r.length).map (fun i => clampL (r.getD i 0)) = r.map clampL := by
  apply List.ext_getElem (by simp)
  intro i h1 h2
  simp at h1
  simp [h1]
theorem clampL_min (v : Int) : max (-16383) (min v 16383) = clampL v := by unfold clampL; rw [Int.min_comm]
instance LevelsFor_c : Con 42 (∀ (q : Int) (b d : Bool) (l m : List Int) (e : List Bool) (r : List Int), l.length ≤ 1099511627776 ∧ r.length ≤ 1099511627776 → Fn 42 [OpA q b d l m e, IL r] [XI (levL b q l r)] (.own 0 0 0 (levL b q l r).length)) := ⟨fun q b d l m e r hl => by
  have hsc := side_cases r.length
  have ht4 := trL_le (n := 4) (b := false) (l := r) (by decide)
  have ht8 := trL_le (n := 8) (b := false) (l := r) (by decide)
  have hq4 := quantL_le (trL 4 false r) q
  have hq8 := quantL_le (trL 8 false r) q
  refine FnC.of_body tabOk Try.func42 Try.ntmps42 rfl (by decide +kernel) (by simp) fun G => ?_
  by_cases h : OptOk q l ∧ 0 < side r.length ∧ FitM r
  · obtain ⟨h1, h2, h3⟩ := id h
    have he : levL b q l r = if b = true then scnL (r.map clampL) else scnL (quantL (trL (side r.length) false r) q) := by rw [levL, if_pos h]
    have hb1 : b = true → levL b q l r = scnL (r.map clampL) := fun h => by rw [he, if_pos h]
    have hb4 : b = false → (r.length : Int) = 16 → levL b q l r = scnL (quantL (trL 4 false r) q) := fun h hh => by
      have hs4 : side r.length = 4 := by omega
      rw [he, if_neg (by simp [h]), hs4]
    have hb8 : b = false → ¬ (r.length : Int) = 16 → levL b q l r = scnL (quantL (trL 8 false r) q) := fun h hh => by
      have hs4 : side r.length = 8 := by omega
      rw [he, if_neg (by simp [h]), hs4]
    refine go (r := ?_); and_intros <;> intros <;> try exact True.intro
    · rename_i hb
      refine WpA.loop (fun k : Nat => ⟨[(5, .own 1 0 0 r.length), (26, .own 1 0 0 r.length), (27, I r.length), (28, I k)], [OpO q b d l m e, XI ((List.range k).map (fun i => clampL (r.getD i 0)) ++ r.drop k)]⟩) (fun k => k ≤ r.length) (fun k => r.length - k) 0 (by omega) (go (r := ?_)) (fun k hk => ?_)
      · simp
      have hkl : ((List.range k).map (fun i => clampL (r.getD i 0)) ++ r.drop k).length = r.length := by simp; omega
      have hms := mark_step (fun i => clampL (r.getD i 0)) r k
      refine go (r := ?_); and_intros <;> intros <;> try exact True.intro
      · rename_i hk1
        have hk2 : k < r.length := by omega
        have hgd : ((List.range k).map (fun i => clampL (r.getD i 0)) ++ r.drop k).getD k 0 = r.getD k 0 := by
          rw [List.getD_eq_getElem?_getD, List.getElem?_append_right (by simp), List.getElem?_drop]; simp
        rw [Int.toNat_natCast, hgd, clampL_min]; exact hms hk2
      all_goals have ek : k = r.length := by omega
      all_goals rw [ek, clampL_map, List.drop_length, List.append_nil, hb1 hb]
    all_goals first | (rw [hb4 (by assumption) (by assumption)]; done) | (rw [hb8 (by assumption) (by assumption)]; done) | trace_state
  · have he : levL b q l r = [] := by rw [levL, if_neg h]
    refine go (r := ?_); and_intros <;> intros <;> try exact True.intro
    all_goals first | (rw [he]; done) | (rw [he]; rfl) | (exact absurd ⟨by assumption, by omega, by assumption⟩ h) | trace_state⟩
theorem FnExactLevelsFor_c (q : Int) (b d : Bool) (l m : List Int) (e : List Bool) (r : List Int) (hl : l.length ≤ 9223372036854775807 ∧ m.length ≤ 9223372036854775807 ∧ e.length ≤ 9223372036854775807 ∧ r.length ≤ 9223372036854775807) : Fn 9 [OpA q b d l m e, IL r] [] (B true) := by
  have hll := levL_le b q l r
  have hml : ∀ n, (marksI 1 n).length = n := fun n => by simp [marksI]
  refine FnC.of_body tabOk Try.func9 Try.ntmps9 rfl (by decide +kernel) (by simp) fun G => ?_
  refine go (r := ?_); and_intros <;> intros <;> try (first | exact True.intro | (simp_all; done))
  all_goals first | (exfalso; simp only [hml, if_true] at *; omega) | trace_state
end Go.Proofs.Ytepfjefdbpmobaa
