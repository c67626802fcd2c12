/- Proved in this text: lemmas and contracts of functions that the claim uses (parts: Code, Kraft, RdL, RdM, AbsX, Cat, AbsY, Ue, Rd, GoR). No condition. -/
import Derived.Test.YtgbahnaejajdgaaFpM3
import Derived.Test.YtgbahnaejajdgaaFpM2
import Derived.Lib.AppendZeros

/- Contracts: steps of quantization, lengths of a prefix code, its codes, bits of numbers, symbols, options. No condition. -/
namespace Go.Proofs.Ytgbahnaejajdgaa
open Go Go.Abs
set_option linter.unusedVariables false
set_option linter.unusedSimpArgs false
set_option maxRecDepth 100000
set_option maxHeartbeats 4000000
attribute [local irreducible] WpA WpL Rnd Blk Abs.Seq Abs.Fin Abs.FinG FnC FnG Only

theorem wrap64 (p : Int) (h : -9223372036854775808 ≤ p ∧ p ≤ 9223372036854775807) : IntKind.i64.wrap p = p := IntWalk.i64_in p h
def stepX (q : Int) : Int := IntKind.i64.wrap (([8, 9, 10, 11, 13, 14] : List Int).getD (q % 6).toNat 0 * 2 ^ (q / 6).toNat)
theorem stepX_bd (q : Int) (h : 0 ≤ q ∧ q ≤ 51) : 8 ≤ stepX q ∧ stepX q ≤ 4000 := by
  have key : ∀ k : Fin 52, 8 ≤ stepX k.val ∧ stepX k.val ≤ 4000 := by decide
  obtain ⟨k, rfl⟩ : ∃ k : Nat, q = k := ⟨q.toNat, by omega⟩
  exact key ⟨k, by omega⟩
def stepL (q : Int) : Int := if 0 ≤ q ∧ q ≤ 51 then stepX q / 8 else 0
theorem stepL_in (q : Int) (h : 0 ≤ q ∧ q ≤ 51) : 1 ≤ stepL q ∧ stepL q ≤ 500 := by
  have := stepX_bd q h
  rw [stepL, if_pos h]; omega
theorem stepL_pos (q : Int) : 0 < stepL q ↔ 0 ≤ q ∧ q ≤ 51 := by
  by_cases h : 0 ≤ q ∧ q ≤ 51
  · have := stepL_in q h; constructor <;> intro _ <;> omega
  · rw [stepL, if_neg h]; constructor <;> intro _ <;> omega
instance StepOf_s : Con 94 (∀ q : Int, Fn 94 [I q] [] (I (stepL q))) := ⟨fun q => by
  refine FnC.of_body tabOk Try.func94 Try.ntmps94 rfl (by decide +kernel) (by simp) fun G => ?_
  have hx := stepX_bd q
  unfold stepX at hx
  refine go (r := ?_); and_intros <;> intros <;> try exact True.intro
  all_goals first | (rw [stepL, if_neg (by assumption)]; done) | (rw [stepL, if_pos (by assumption)]; rfl)⟩
instance StepOf_c : Con 149 (∀ q : Int, Fn 149 [I q] [] (I (stepL q))) := ⟨fun q => by
  refine FnC.of_body tabOk Try.func149 Try.ntmps149 rfl (by decide +kernel) (by simp) fun G => ?_
  have hx := stepX_bd q
  unfold stepX at hx
  refine go (r := ?_); and_intros <;> intros <;> try exact True.intro
  all_goals first | (rw [stepL, if_neg (by assumption)]; done) | (rw [stepL, if_pos (by assumption)]; rfl)⟩

/-! Lengths of a code. -/
def cw (n : Int) : Int := if 0 < n then 2 ^ (7 - n).toNat else 0
theorem cw_bd (n : Int) : 0 ≤ cw n := by unfold cw; split <;> first | exact Int.le_of_lt (Int.pow_pos (by decide)) | omega
theorem cw_wrap (n : Int) (h : 0 ≤ n ∧ n ≤ 7) (h0 : n > 0) : IntKind.i64.wrap (1 * 2 ^ (7 - n).toNat) = cw n ∧ 1 ≤ cw n ∧ cw n ≤ 64 := by
  have key : ∀ k : Fin 8, 0 < k.val → IntKind.i64.wrap (1 * 2 ^ (7 - (k.val : Int)).toNat) = cw k.val ∧ 1 ≤ cw k.val ∧ cw k.val ≤ 64 := by decide
  obtain ⟨k, rfl⟩ : ∃ k : Nat, n = k := ⟨n.toNat, by omega⟩
  exact key ⟨k, by omega⟩ (show 0 < k by omega)
def csum (l : List Int) : Int := (l.map cw).sum
theorem csum_snoc (l : List Int) (k : Nat) (h : k < l.length) : csum (l.take (k + 1)) = csum (l.take k) + cw (l.getD k 0) := by
  unfold csum; rw [List.take_succ_eq_append_getElem h, List.map_append, List.sum_append]; simp [h]
def CodeOk (l : List Int) : Prop := In l 0 7 ∧ l.length = 6 ∧ csum l = 128
instance (l : List Int) : Decidable (CodeOk l) := by unfold CodeOk; infer_instance
instance CodeOk_s : Con 95 (∀ l : List Int, l.length ≤ 1099511627776 → Fn 95 [IL l] [] (B (decide (CodeOk l)))) := ⟨fun l hl => by
  refine FnC.of_body tabOk Try.func95 Try.ntmps95 rfl (by decide +kernel) (by simp) fun G => ?_
  refine go (r := ?_); and_intros <;> intros <;> try exact True.intro
  refine WpA.loop (fun k : Nat => ⟨[(0, IL l), (3, I (csum (l.take k))), (4, I k)], []⟩) (fun k => k ≤ l.length ∧ In (l.take k) 0 7 ∧ 0 ≤ csum (l.take k) ∧ csum (l.take k) ≤ 64 * k) (fun k => l.length - k) 0 (by simp [in_nil, csum]) (go (r := ?_)) (fun k hk => ?_)
  · simp [csum]
  have hs := fun h => csum_snoc l k h
  have hi := fun h => in_snoc (lo := 0) (hi := 7) (l := l) (k := k) h
  have hw := cw_wrap (l.getD k 0)
  have hw0 : ¬ l.getD k 0 > 0 → cw (l.getD k 0) = 0 := fun h => by unfold cw; rw [if_neg (by omega)]
  refine go (r := ?_); and_intros <;> intros <;> try exact True.intro
  · have := notin (k := k) (by omega) ‹¬ (0 ≤ l.getD k 0 ∧ _)›; rw [eq_comm, decide_eq_false_iff_not] at *; exact fun h => this h.1
  · rw [hi (by omega)]; exact ⟨hk.2.1, ‹_›⟩
  · rw [hi (by omega)]; exact ⟨hk.2.1, ‹_›⟩
  all_goals have e : k = l.length := by omega
  all_goals subst e
  all_goals rw [List.take_length] at *
  · have h6 : l.length = 6 := by omega
    simp [CodeOk, hk.2.1, h6]
  · have h6 : ¬ l.length = 6 := by omega
    simp [CodeOk, h6]⟩
instance CodeOk_c : Con 140 (∀ l : List Int, l.length ≤ 1099511627776 → Fn 140 [IL l] [] (B (decide (CodeOk l)))) := ⟨fun l hl => by
  refine FnC.of_body tabOk Try.func140 Try.ntmps140 rfl (by decide +kernel) (by simp) fun G => ?_
  refine go (r := ?_); and_intros <;> intros <;> try exact True.intro
  refine WpA.loop (fun k : Nat => ⟨[(0, IL l), (3, I (csum (l.take k))), (6, IL l), (7, I l.length), (8, I k)], []⟩) (fun k => k ≤ l.length ∧ In (l.take k) 0 7 ∧ 0 ≤ csum (l.take k) ∧ csum (l.take k) ≤ 64 * k) (fun k => l.length - k) 0 (by simp [in_nil, csum]) (go (r := ?_)) (fun k hk => ?_)
  · simp [csum]
  have hs := fun h => csum_snoc l k h
  have hi := fun h => in_snoc (lo := 0) (hi := 7) (l := l) (k := k) h
  have hw := cw_wrap (l.getD k 0)
  have hw0 : ¬ l.getD k 0 > 0 → cw (l.getD k 0) = 0 := fun h => by unfold cw; rw [if_neg (by omega)]
  refine go (r := ?_); and_intros <;> intros <;> try exact True.intro
  · have := notin (k := k) (by omega) ‹¬ (0 ≤ l.getD k 0 ∧ _)›; rw [eq_comm, decide_eq_false_iff_not] at *; exact fun h => this h.1
  · rw [hi (by omega)]; exact ⟨hk.2.1, ‹_›⟩
  · rw [hi (by omega)]; exact ⟨hk.2.1, ‹_›⟩
  all_goals have e : k = l.length := by omega
  all_goals subst e
  all_goals rw [List.take_length] at *
  · have h6 : l.length = 6 := by omega
    simp [CodeOk, hk.2.1, h6]
  · have h6 : ¬ l.length = 6 := by omega
    simp [CodeOk, h6]⟩

/-! The codes. -/
def cIn (w : Int) (l : List Int) : Nat → List Int × Int → List Int × Int
  | 0, s => s
  | i + 1, s => if l.getD i 0 = w then ((cIn w l i s).1.set i (cIn w l i s).2, (cIn w l i s).2 + 1) else cIn w l i s
def cOut (l : List Int) : Nat → List Int × Int
  | 0 => (List.replicate l.length (-1), 0)
  | w + 1 => cIn ((w : Int) + 1) l l.length ((cOut l w).1, (cOut l w).2 * 2)
def codes (l : List Int) : List Int := (cOut l 7).1
theorem cIn_len (w : Int) (l : List Int) : ∀ (i : Nat) (s : List Int × Int), (cIn w l i s).1.length = s.1.length
  | 0, s => rfl
  | i + 1, s => by
    rw [cIn]; split
    · rw [List.length_set]; exact cIn_len w l i s
    · exact cIn_len w l i s
theorem cOut_len (l : List Int) : ∀ w, (cOut l w).1.length = l.length
  | 0 => by simp [cOut]
  | w + 1 => by rw [cOut, cIn_len, cOut_len l w]
theorem codes_len (l : List Int) : (codes l).length = l.length := cOut_len l 7
theorem cIn_bd (w : Int) (l : List Int) : ∀ (i : Nat) (s : List Int × Int), s.2 ≤ (cIn w l i s).2 ∧ (cIn w l i s).2 ≤ s.2 + i
  | 0, s => by simp [cIn]
  | i + 1, s => by rw [cIn]; have := cIn_bd w l i s; split <;> first | (simp only; omega) | omega
theorem cOut_bd (l : List Int) (h : l.length = 6) : ∀ w, 0 ≤ (cOut l w).2 ∧ (cOut l w).2 ≤ 6 * (2 ^ w - 1)
  | 0 => by simp [cOut]
  | w + 1 => by
    rw [cOut]
    have h1 := cIn_bd ((w : Int) + 1) l l.length ((cOut l w).1, (cOut l w).2 * 2)
    have h2 := cOut_bd l h w
    simp only at h1
    rw [Int.pow_succ]; omega
theorem cOut_bd7 (l : List Int) (h : l.length = 6) (w : Nat) (hw : w ≤ 7) : 0 ≤ (cOut l w).2 ∧ (cOut l w).2 ≤ 768 := by
  have h1 := cOut_bd l h w
  have : (2 : Int) ^ w ≤ 2 ^ 7 := by
    have := Nat.pow_le_pow_right (n := 2) (by decide) hw
    exact_mod_cast this
  omega
def codesR (l : List Int) : List Int := if CodeOk l then codes l else []
theorem codesR_len (l : List Int) (h : CodeOk l) : (codesR l).length = 6 := by rw [codesR, if_pos h, codes_len, h.2.1]
theorem codesR_ok (l : List Int) (h : CodeOk l) : codesR l = codes l := by rw [codesR, if_pos h]
theorem codesR_no (l : List Int) (h : ¬ CodeOk l) : codesR l = [] := by rw [codesR, if_neg h]
theorem cIn_yes {w : Int} {l : List Int} {i : Nat} {s : List Int × Int} (h : l.getD i 0 = w) : cIn w l (i + 1) s = ((cIn w l i s).1.set i (cIn w l i s).2, (cIn w l i s).2 + 1) := by rw [cIn, if_pos h]
theorem cIn_no {w : Int} {l : List Int} {i : Nat} {s : List Int × Int} (h : ¬ l.getD i 0 = w) : cIn w l (i + 1) s = cIn w l i s := by rw [cIn, if_neg h]
instance CodesOf_s : Con 181 (∀ l : List Int, l.length ≤ 1099511627776 → Fn 181 [IL l] [XI (codesR l)] (.own 0 0 0 (codesR l).length)) := ⟨fun l hl => by
  refine FnC.of_body tabOk Try.func181 Try.ntmps181 rfl (by decide +kernel) (by simp) fun G => ?_
  refine go (r := ?_); and_intros <;> intros <;> try exact True.intro
  · rw [codesR_no l ‹_›]; rfl
  · rw [codesR_no l ‹_›]
  have hok : CodeOk l := ‹_›
  have h6 := hok.2.1
  refine WpA.loop (fun k : Nat => ⟨[(0, IL l), (3, .own 0 0 0 k), (4, I k)], [XI (List.replicate k (-1))]⟩) (fun k => k ≤ l.length) (fun k => l.length - k) 0 (by simp) (go (r := trivial)) (fun k hk => ?_)
  refine go (r := ?_); and_intros <;> intros <;> try exact True.intro
  · rw [List.replicate_succ']
  have e : k = l.length := by omega
  subst e
  refine WpA.loop (fun w : Nat => ⟨[(0, IL l), (3, .own 0 0 0 l.length), (5, I (cOut l w).2), (6, I ((w : Int) + 1))], [XI (cOut l w).1]⟩) (fun w => w ≤ 7) (fun w => 7 - w) 0 (by simp) (go (r := ?_)) (fun w hw => ?_)
  · simp [cOut]
  have hb := cOut_bd7 l h6 w hw
  refine go (r := ?_); and_intros <;> intros <;> try exact True.intro
  · refine WpA.loop (fun i : Nat => ⟨[(0, IL l), (3, .own 0 0 0 l.length), (5, I (cIn ((w : Int) + 1) l i ((cOut l w).1, (cOut l w).2 * 2)).2), (6, I ((w : Int) + 1)), (7, I i)], [XI (cIn ((w : Int) + 1) l i ((cOut l w).1, (cOut l w).2 * 2)).1]⟩) (fun i => i ≤ l.length) (fun i => l.length - i) 0 (by simp) (go (r := ?_)) (fun i hi => ?_)
    · simp [cIn]
    have hb2 := cIn_bd ((w : Int) + 1) l i ((cOut l w).1, (cOut l w).2 * 2)
    have hl2 := cIn_len ((w : Int) + 1) l i ((cOut l w).1, (cOut l w).2 * 2)
    have hl3 := cOut_len l w
    simp only at hb2 hl2
    refine go (r := ?_); and_intros <;> intros <;> try exact True.intro
    · rw [cIn_yes (by assumption)]
    · rw [cIn_yes (by assumption)]; rfl
    · rw [cIn_no (by assumption)]
    · rw [cIn_no (by assumption)]
    all_goals have e : i = l.length := by omega
    all_goals subst e; rfl
  all_goals have e : w = 7 := by omega
  all_goals subst e
  · rw [codesR_len l hok, h6]
  · rw [codesR_ok l hok]; rfl⟩
instance CodesOf_c : ConB 193 (∀ l : List Int, l.length ≤ 1099511627776 → Bn 193 [IL l] (CodeOk l) [XI (codes l)] (.own 0 0 0 6) [] .nilS) := ⟨fun l hl => by
  refine ⟨fun hok => ?_, fun hno => ?_⟩
  · have h6 := hok.2.1
    refine FnC.of_body tabOk Try.func193 Try.ntmps193 rfl (by decide +kernel) (by simp) fun G => ?_
    refine go (r := ?_); and_intros <;> intros <;> try exact True.intro
    all_goals first | (exact absurd hok ‹¬ CodeOk l›) | skip
    refine WpA.loop (fun w : Nat => ⟨[(0, IL l), (3, .own 0 0 0 l.length), (4, I (cOut l w).2), (5, I ((w : Int) + 1))], [XI (cOut l w).1]⟩) (fun w => w ≤ 7) (fun w => 7 - w) 0 (by simp) (go (r := ?_)) (fun w hw => ?_)
    · simp [cOut, h6]
    have hb := cOut_bd7 l h6 w hw
    have hsh : IntKind.i64.wrap ((cOut l w).2 * 2) = (cOut l w).2 * 2 := wrap64 _ (by omega)
    refine go (r := ?_); and_intros <;> intros <;> try exact True.intro
    · refine WpA.loop (fun i : Nat => ⟨[(0, IL l), (3, .own 0 0 0 l.length), (4, I (cIn ((w : Int) + 1) l i ((cOut l w).1, (cOut l w).2 * 2)).2), (5, I ((w : Int) + 1)), (18, IL l), (19, I l.length), (20, I i)], [XI (cIn ((w : Int) + 1) l i ((cOut l w).1, (cOut l w).2 * 2)).1]⟩) (fun i => i ≤ l.length) (fun i => l.length - i) 0 (by simp) (go (r := ?_)) (fun i hi => ?_)
      · simp [cIn, hsh]
      have hb2 := cIn_bd ((w : Int) + 1) l i ((cOut l w).1, (cOut l w).2 * 2)
      have hl2 := cIn_len ((w : Int) + 1) l i ((cOut l w).1, (cOut l w).2 * 2)
      have hl3 := cOut_len l w
      simp only at hb2 hl2
      refine go (r := ?_); and_intros <;> intros <;> try exact True.intro
      · rw [cIn_yes (by assumption)]
      · rw [cIn_yes (by assumption)]; rfl
      · rw [cIn_no (by assumption)]
      · rw [cIn_no (by assumption)]
      all_goals have e : i = l.length := by omega
      all_goals subst e; rfl
    all_goals have e : w = 7 := by omega
    all_goals subst e; rfl
  · refine FnC.of_body tabOk Try.func193 Try.ntmps193 rfl (by decide +kernel) (by simp) fun G => ?_
    refine go (r := ?_); and_intros <;> intros <;> try exact True.intro
    all_goals exact absurd ‹CodeOk l› hno⟩

/-! Bits of a number. -/
def bitOk (n w : Int) : Prop := (0 ≤ w ∧ w ≤ 48) ∧ 0 ≤ n ∧ n / 2 ^ w.toNat = 0
instance (n w : Int) : Decidable (bitOk n w) := by unfold bitOk; infer_instance
def bitsR (n : Int) (w : Nat) (k : Nat) : List Int := (List.range k).map fun j : Nat => n / 2 ^ (w - 1 - j) % 2
def bitsL (n w : Int) : List Int := if bitOk n w then bitsR n w.toNat w.toNat else []
theorem bitsR_len (n : Int) (w k : Nat) : (bitsR n w k).length = k := by simp [bitsR]
theorem bitsR_snoc (n : Int) (w k : Nat) : bitsR n w (k + 1) = bitsR n w k ++ [n / 2 ^ (w - 1 - k) % 2] := by simp [bitsR, List.range_succ]
theorem bitsL_len (n w : Int) : (bitsL n w).length ≤ 48 := by
  unfold bitsL; split
  · rename_i h; rw [bitsR_len]; have := h.1; omega
  · simp
theorem low1 (k : Int) (h : 0 ≤ k ∧ k ≤ 9223372036854775807) : IntKind.i64.wrap ((BitVec.ofInt IntKind.i64.bits k &&& BitVec.ofInt IntKind.i64.bits 1).toNat : Nat) = k % 2 := by
  obtain ⟨m, rfl⟩ : ∃ m : Nat, k = m := ⟨k.toNat, by omega⟩
  have e1 : (BitVec.ofInt IntKind.i64.bits (m : Int)).toNat = m := by simp only [IntKind.bits, BitVec.toNat_ofInt]; omega
  have e : (BitVec.ofInt IntKind.i64.bits (m : Int) &&& BitVec.ofInt IntKind.i64.bits 1).toNat = m % 2 := by
    rw [BitVec.toNat_and, e1, show (BitVec.ofInt IntKind.i64.bits (1 : Int)).toNat = 2 ^ 1 - 1 from by decide, Nat.and_two_pow_sub_one_eq_mod]
  rw [e, wrap64 _ (by omega)]; omega
theorem shr_bd (n : Int) (k : Nat) (h : 0 ≤ n) : 0 ≤ n / 2 ^ k ∧ n / 2 ^ k ≤ n := by
  constructor
  · exact Int.ediv_nonneg h (Int.le_of_lt (Int.pow_pos (by decide)))
  · exact Int.ediv_le_self _ h
instance BitsIn_c : Con 170 (∀ n w : Int, n ≤ 9223372036854775807 → Fn 170 [I n, I w] [XI (bitsL n w)] (.own 0 0 0 (bitsL n w).length)) := ⟨fun n w hn => by
  refine FnC.of_body tabOk Try.func170 Try.ntmps170 rfl (by decide +kernel) (by simp) fun G => ?_
  refine go (r := ?_); and_intros <;> intros <;> try exact True.intro
  all_goals first | (rw [bitsL, if_neg (by unfold bitOk; omega)]; done) | (rw [bitsL, if_neg (by unfold bitOk; omega)]; rfl) | skip
  have hok : bitOk n w := ⟨‹_›, by omega, ‹_›⟩
  obtain ⟨⟨h0, h48⟩, hn0, _⟩ := id hok
  obtain ⟨W, rfl⟩ : ∃ W : Nat, w = W := ⟨w.toNat, by omega⟩
  refine WpA.loop (fun k : Nat => ⟨[(0, I n), (5, .own 0 0 0 k), (6, I ((W : Int) - 1 - k))], [XI (bitsR n W k)]⟩) (fun k => k ≤ W) (fun k => W - k) 0 (by simp) (go (r := ?_)) (fun k hk => ?_)
  · simp [bitsR]
  have hl := bitsR_len n W k
  have hb := shr_bd n ((W : Int) - 1 - k).toNat hn0
  refine go (r := ?_); and_intros <;> intros <;> try exact True.intro
  · rw [bitsR_snoc, low1 _ (by omega)]; congr 6; omega
  all_goals have e : k = W := by omega
  all_goals subst e
  · rw [bitsL, if_pos hok, bitsR_len]; rfl
  · rw [bitsL, if_pos hok]; rfl⟩

/-! Options. -/
def OptOk (q : Int) (l : List Int) : Prop := (0 ≤ q ∧ q ≤ 51) ∧ CodeOk l
instance (q : Int) (l : List Int) : Decidable (OptOk q l) := by unfold OptOk; infer_instance
instance OptionsOk_s : Con 38 (∀ (q : Int) (b d : Bool) (l m : List Int) (e : List Bool), l.length ≤ 1099511627776 → Fn 38 [OpA q b d l m e] [] (B (decide (OptOk q l)))) := ⟨fun q b d l m e hl => by
  refine FnC.of_body tabOk Try.func38 Try.ntmps38 rfl (by decide +kernel) (by simp) fun G => ?_
  have hs := stepL_pos q
  refine go (r := ?_); and_intros <;> intros <;> try exact True.intro
  all_goals first | (have h : 0 ≤ q ∧ q ≤ 51 := by omega
                     simp [OptOk, h]; done) | (have h : ¬ (0 ≤ q ∧ q ≤ 51) := by omega
                                               simp [OptOk, h]; done)⟩
instance OptionsOk_c : Con 80 (∀ (q : Int) (b d : Bool) (l m : List Int) (e : List Bool), l.length ≤ 1099511627776 → Fn 80 [OpA q b d l m e] [] (B (decide (OptOk q l)))) := ⟨fun q b d l m e hl => by
  refine FnC.of_body tabOk Try.func80 Try.ntmps80 rfl (by decide +kernel) (by simp) fun G => ?_
  refine go (r := ?_); and_intros <;> intros <;> try exact True.intro
  all_goals first | (have h : 0 ≤ q ∧ q ≤ 51 := by omega
                     simp [OptOk, h]; done) | (have h : ¬ (0 ≤ q ∧ q ≤ 51) := by omega
                                               simp [OptOk, h]; done)⟩
end Go.Proofs.Ytgbahnaejajdgaa

/- The codes of a whole prefix code: each fits its length, no code begins another one, and all words of seven bits begin with one. No condition. -/
namespace Go.Proofs.Ytgbahnaejajdgaa
open Go Go.Abs
set_option linter.unusedVariables false
set_option linter.unusedSimpArgs false

def Dn (l : List Int) (w : Int) (i m : Nat) : Prop := (1 ≤ l.getD m 0 ∧ l.getD m 0 < w) ∨ (l.getD m 0 = w ∧ m < i)
def hit (c l : List Int) (m : Nat) (v : Int) : Prop := c.getD m 0 * cw (l.getD m 0) ≤ v ∧ v < (c.getD m 0 + 1) * cw (l.getD m 0)
structure J (l : List Int) (w p : Int) (i : Nat) (s : List Int × Int) : Prop where
  len : s.1.length = l.length
  lo : 0 ≤ s.2
  cod : ∀ m, m < l.length → Dn l w i m → 0 ≤ s.1.getD m 0 ∧ (s.1.getD m 0 + 1) * cw (l.getD m 0) ≤ s.2 * p
  cov : ∀ v, 0 ≤ v → v < s.2 * p → ∃ m, m < l.length ∧ Dn l w i m ∧ hit s.1 l m v
  uni : ∀ m m' v, m < l.length → m' < l.length → Dn l w i m → Dn l w i m' → hit s.1 l m v → hit s.1 l m' v → m = m'

theorem getD_set (c : List Int) (i m : Nat) (v : Int) (h : i < c.length) : (c.set i v).getD m 0 = if m = i then v else c.getD m 0 := by
  rw [List.getD_eq_getElem?_getD, List.getElem?_set]
  by_cases e : i = m
  · subst e; simp [h]
  · have : ¬ m = i := fun h => e h.symm
    simp [e, this]
theorem J.step {l : List Int} {w p : Int} {i : Nat} {s : List Int × Int} (h : J l w p i s) (hi : i < l.length) (hp : cw w = p) (hp0 : 0 < p) (hw : 1 ≤ w) :
    J l w p (i + 1) (if l.getD i 0 = w then (s.1.set i s.2, s.2 + 1) else s) := by
  by_cases e : l.getD i 0 = w
  · rw [if_pos e]
    have hl := h.len
    have hmul : (s.2 + 1) * p = s.2 * p + p := by rw [Int.add_mul, Int.one_mul]
    have hD : ∀ m, Dn l w (i + 1) m ↔ Dn l w i m ∨ m = i := by
      intro m; unfold Dn; constructor
      · rintro (h | ⟨h1, h2⟩)
        · exact .inl (.inl h)
        · by_cases hm : m = i
          · exact .inr hm
          · exact .inl (.inr ⟨h1, by omega⟩)
      · rintro ((h | ⟨h1, h2⟩) | rfl)
        · exact .inl h
        · exact .inr ⟨h1, by omega⟩
        · exact .inr ⟨e, by omega⟩
    have hne : ∀ m, Dn l w i m → m ≠ i := by
      rintro m (h | ⟨_, h⟩) rfl
      · omega
      · omega
    have hg : ∀ m, (s.1.set i s.2).getD m 0 = if m = i then s.2 else s.1.getD m 0 := fun m => getD_set s.1 i m s.2 (by omega)
    have hhit : ∀ m v, m ≠ i → (hit (s.1.set i s.2) l m v ↔ hit s.1 l m v) := by intro m v hm; unfold hit; rw [hg, if_neg hm]
    have hhi : ∀ v, hit (s.1.set i s.2) l i v ↔ s.2 * p ≤ v ∧ v < s.2 * p + p := by intro v; unfold hit; rw [hg, if_pos rfl, e, hp, hmul]
    refine ⟨by simp [hl], by have := h.lo; simp only; omega, fun m hm hd => ?_, fun v h0 hv => ?_, fun m m' v hm hm' hd hd' h1 h2 => ?_⟩
    · show 0 ≤ (s.1.set i s.2).getD m 0 ∧ ((s.1.set i s.2).getD m 0 + 1) * _ ≤ (s.2 + 1) * p
      rw [hg, hmul]
      rcases (hD m).1 hd with hd | rfl
      · rw [if_neg (hne m hd)]; have := h.cod m hm hd; omega
      · rw [if_pos rfl, e, hp, hmul]; have := h.lo; omega
    · have hv : v < (s.2 + 1) * p := hv
      rw [hmul] at hv
      by_cases hlt : v < s.2 * p
      · obtain ⟨m, h1, h2, h3⟩ := h.cov v h0 hlt
        exact ⟨m, h1, (hD m).2 (.inl h2), (hhit m v (hne m h2)).2 h3⟩
      · exact ⟨i, hi, (hD i).2 (.inr rfl), (hhi v).2 ⟨by omega, hv⟩⟩
    · rcases (hD m).1 hd with d1 | rfl <;> rcases (hD m').1 hd' with d2 | e2
      · exact h.uni m m' v hm hm' d1 d2 ((hhit m v (hne m d1)).1 h1) ((hhit m' v (hne m' d2)).1 h2)
      · subst e2
        have a := (hhit m v (hne m d1)).1 h1
        have b := (hhi v).1 h2
        have c := h.cod m hm d1
        unfold hit at a; omega
      · have a := (hhit m' v (hne m' d2)).1 h2
        have b := (hhi v).1 h1
        have c := h.cod m' hm' d2
        unfold hit at a; omega
      · exact e2.symm
  · rw [if_neg e]
    have hD : ∀ m, Dn l w (i + 1) m ↔ Dn l w i m := by
      intro m; unfold Dn; constructor
      · rintro (h | ⟨h1, h2⟩)
        · exact .inl h
        · refine .inr ⟨h1, ?_⟩
          have : m ≠ i := by rintro rfl; exact e h1
          omega
      · rintro (h | ⟨h1, h2⟩)
        · exact .inl h
        · exact .inr ⟨h1, by omega⟩
    exact ⟨h.len, h.lo, fun m hm hd => h.cod m hm ((hD m).1 hd), fun v h0 hv => by
      obtain ⟨m, h1, h2, h3⟩ := h.cov v h0 hv
      exact ⟨m, h1, (hD m).2 h2, h3⟩, fun m m' v hm hm' hd hd' => h.uni m m' v hm hm' ((hD m).1 hd) ((hD m').1 hd')⟩
theorem J.level {l : List Int} {w p q : Int} {s : List Int × Int} (h : J l w p l.length s) (hpq : p = 2 * q) (hw : 1 ≤ w) : J l (w + 1) q 0 (s.1, s.2 * 2) := by
  have e : s.2 * 2 * q = s.2 * p := by rw [hpq, Int.mul_assoc]
  have hD : ∀ m, m < l.length → (Dn l (w + 1) 0 m ↔ Dn l w l.length m) := by
    intro m hm; unfold Dn; constructor
    · rintro (h | ⟨h1, h2⟩)
      · by_cases hw : l.getD m 0 = w
        · exact .inr ⟨hw, hm⟩
        · exact .inl (by omega)
      · omega
    · rintro (h | ⟨h1, h2⟩)
      · exact .inl (by omega)
      · exact .inl (by omega)
  refine ⟨h.len, ?_, fun m hm hd => ?_, fun v h0 hv => ?_, fun m m' v hm hm' hd hd' => h.uni m m' v hm hm' ((hD m hm).1 hd) ((hD m' hm').1 hd')⟩
  · show 0 ≤ s.2 * 2
    have := h.lo; omega
  · show 0 ≤ s.1.getD m 0 ∧ _ ≤ s.2 * 2 * q
    rw [e]; exact h.cod m hm ((hD m hm).1 hd)
  · have hv : v < s.2 * 2 * q := hv
    rw [e] at hv
    obtain ⟨m, h1, h2, h3⟩ := h.cov v h0 hv
    exact ⟨m, h1, (hD m h1).2 h2, h3⟩
theorem J.inn {l : List Int} {w p : Int} {s : List Int × Int} (h : J l w p 0 s) (hp : cw w = p) (hp0 : 0 < p) (hw : 1 ≤ w) : ∀ i, i ≤ l.length → J l w p i (cIn w l i s)
  | 0, _ => h
  | i + 1, hi => by rw [cIn]; exact J.step (J.inn h hp hp0 hw i (by omega)) (by omega) hp hp0 hw
theorem J7 (l : List Int) : J l 7 1 l.length (cOut l 7) := by
  have j0 : J l 1 64 0 ((cOut l 0).1, (cOut l 0).2 * 2) := by
    refine ⟨by simp [cOut], by simp [cOut], fun m hm hd => ?_, fun v h0 hv => ?_, fun m m' v hm hm' hd => ?_⟩
    · unfold Dn at hd; omega
    · have : v < 0 := by simpa [cOut] using hv
      omega
    · unfold Dn at hd; omega
  have j1 := (J.inn j0 (by decide) (by decide) (by decide) l.length (Nat.le_refl _)).level (q := 32) (by decide) (by decide)
  have j2 := (J.inn j1 (by decide) (by decide) (by decide) l.length (Nat.le_refl _)).level (q := 16) (by decide) (by decide)
  have j3 := (J.inn j2 (by decide) (by decide) (by decide) l.length (Nat.le_refl _)).level (q := 8) (by decide) (by decide)
  have j4 := (J.inn j3 (by decide) (by decide) (by decide) l.length (Nat.le_refl _)).level (q := 4) (by decide) (by decide)
  have j5 := (J.inn j4 (by decide) (by decide) (by decide) l.length (Nat.le_refl _)).level (q := 2) (by decide) (by decide)
  have j6 := (J.inn j5 (by decide) (by decide) (by decide) l.length (Nat.le_refl _)).level (q := 1) (by decide) (by decide)
  exact J.inn j6 (by decide) (by decide) (by decide) l.length (Nat.le_refl _)
theorem cIn_cnt (w : Int) (l : List Int) (s : List Int × Int) : ∀ i, i ≤ l.length → (cIn w l i s).2 = s.2 + ((l.take i).count w : Nat)
  | 0, _ => by simp [cIn]
  | i + 1, hi => by
    have ih := cIn_cnt w l s i (by omega)
    rw [cIn, List.take_succ_eq_append_getElem (by omega), List.count_append]
    have e : l.getD i 0 = l[i] := by simp [show i < l.length by omega]
    rw [e]
    by_cases h : l[i] = w
    · rw [if_pos h]; simp only [h, List.count_singleton_self]; omega
    · rw [if_neg h]; simp only [List.count_singleton, beq_iff_eq, h, if_false]; omega
theorem csum_cnt (l : List Int) (h : In l 0 7) : csum l = 64 * (l.count 1 : Nat) + 32 * (l.count 2 : Nat) + 16 * (l.count 3 : Nat) + 8 * (l.count 4 : Nat) + 4 * (l.count 5 : Nat) + 2 * (l.count 6 : Nat) + (l.count 7 : Nat) := by
  induction l with
  | nil => simp [csum]
  | cons x l ih =>
    have hx : 0 ≤ x ∧ x ≤ 7 := by unfold In at h; exact h x (by simp)
    have ih := ih (by unfold In at *; exact fun v hv => h v (List.mem_cons_of_mem _ hv))
    have hc : csum (x :: l) = cw x + csum l := by unfold csum; simp
    have key : ∀ k : Fin 8, cw (k.val : Int) + csum l = 64 * ((((k.val : Int) :: l).count 1 : Nat) : Int) + 32 * (((k.val : Int) :: l).count 2 : Nat) + 16 * (((k.val : Int) :: l).count 3 : Nat) + 8 * (((k.val : Int) :: l).count 4 : Nat) + 4 * (((k.val : Int) :: l).count 5 : Nat) + 2 * (((k.val : Int) :: l).count 6 : Nat) + (((k.val : Int) :: l).count 7 : Nat) := by
      have c0 : cw 0 = 0 := by decide
      have c1 : cw 1 = 64 := by decide
      have c2 : cw 2 = 32 := by decide
      have c3 : cw 3 = 16 := by decide
      have c4 : cw 4 = 8 := by decide
      have c5 : cw 5 = 4 := by decide
      have c6 : cw 6 = 2 := by decide
      have c7 : cw 7 = 1 := by decide
      rintro ⟨k, hk⟩
      rcases (by omega : k = 0 ∨ k = 1 ∨ k = 2 ∨ k = 3 ∨ k = 4 ∨ k = 5 ∨ k = 6 ∨ k = 7) with rfl | rfl | rfl | rfl | rfl | rfl | rfl | rfl <;> simp [List.count_cons, c0, c1, c2, c3, c4, c5, c6, c7] <;> omega
    obtain ⟨k, rfl⟩ : ∃ k : Nat, x = k := ⟨x.toNat, by omega⟩
    rw [hc]; exact key ⟨k, by omega⟩
theorem next7 (l : List Int) (h : In l 0 7) : (cOut l 7).2 = csum l := by
  have e : ∀ w, (cOut l (w + 1)).2 = (cOut l w).2 * 2 + (l.count ((w : Int) + 1) : Nat) := by
    intro w; rw [cOut, cIn_cnt _ _ _ _ (Nat.le_refl _), List.take_length]
  have e1 := e 0; have e2 := e 1; have e3 := e 2; have e4 := e 3; have e5 := e 4; have e6 := e 5; have e7 := e 6
  have e0 : (cOut l 0).2 = 0 := rfl
  rw [csum_cnt l h]
  simp only [Nat.reduceAdd, Int.natCast_zero, Int.reduceAdd, Int.zero_add] at e1 e2 e3 e4 e5 e6 e7
  simp only [show ((1 : Nat) : Int) + 1 = 2 from rfl, show ((2 : Nat) : Int) + 1 = 3 from rfl, show ((3 : Nat) : Int) + 1 = 4 from rfl, show ((4 : Nat) : Int) + 1 = 5 from rfl, show ((5 : Nat) : Int) + 1 = 6 from rfl, show ((6 : Nat) : Int) + 1 = 7 from rfl] at e1 e2 e3 e4 e5 e6 e7
  omega
/-! What is wanted of it. -/
theorem code_in {l : List Int} (h : CodeOk l) {m : Nat} (hm : m < 6) : 0 ≤ l.getD m 0 ∧ l.getD m 0 ≤ 7 := by
  have h6 := h.2.1
  exact in_get h.1 (by omega)
theorem code_fit {l : List Int} (h : CodeOk l) {m : Nat} (hm : m < 6) (h1 : l.getD m 0 ≠ 0) : 0 ≤ (codes l).getD m 0 ∧ ((codes l).getD m 0 + 1) * cw (l.getD m 0) ≤ 128 := by
  have h6 := h.2.1
  have hb := code_in h hm
  have := (J7 l).cod m (by omega) (by unfold Dn; omega)
  rw [next7 l h.1, h.2.2] at this
  simpa [codes] using this
theorem code_lt {l : List Int} (h : CodeOk l) {m : Nat} (hm : m < 6) (h1 : l.getD m 0 ≠ 0) : (codes l).getD m 0 < 2 ^ (l.getD m 0).toNat := by
  have hb := code_in h hm
  have hf := (code_fit h hm h1).2
  generalize (codes l).getD m 0 = c at *
  generalize l.getD m 0 = n at *
  have key : ∀ k : Fin 8, k.val ≠ 0 → (c + 1) * cw (k.val : Int) ≤ 128 → c < 2 ^ ((k.val : Int)).toNat := by
    rintro ⟨k, hk⟩ h0 hc
    rcases (by omega : k = 0 ∨ k = 1 ∨ k = 2 ∨ k = 3 ∨ k = 4 ∨ k = 5 ∨ k = 6 ∨ k = 7) with rfl | rfl | rfl | rfl | rfl | rfl | rfl | rfl
    · exact absurd rfl h0
    all_goals simp [cw] at hc ⊢
    all_goals omega
  obtain ⟨k, rfl⟩ : ∃ k : Nat, n = k := ⟨n.toNat, by omega⟩
  exact key ⟨k, by omega⟩ (fun e => h1 (by simp at e; simp [e])) hf
theorem code_cov {l : List Int} (h : CodeOk l) {v : Int} (h0 : 0 ≤ v) (h1 : v < 128) : ∃ m, m < 6 ∧ l.getD m 0 ≠ 0 ∧ hit (codes l) l m v := by
  have h6 := h.2.1
  obtain ⟨m, a, b, c⟩ := (J7 l).cov v h0 (by rw [next7 l h.1, h.2.2]; omega)
  exact ⟨m, by omega, by unfold Dn at b; omega, c⟩
theorem code_uni {l : List Int} (h : CodeOk l) {m m' : Nat} {v : Int} (hm : m < 6) (hm' : m' < 6) (h0 : l.getD m 0 ≠ 0) (h0' : l.getD m' 0 ≠ 0) (h1 : hit (codes l) l m v) (h2 : hit (codes l) l m' v) : m = m' := by
  have h6 := h.2.1
  have b1 := code_in h hm
  have b2 := code_in h hm'
  exact (J7 l).uni m m' v (by omega) (by omega) (by unfold Dn; omega) (by unfold Dn; omega) h1 h2
end Go.Proofs.Ytgbahnaejajdgaa

/- Plain laws: bits of a text, numbers of bits, what is read of them. No condition. -/
namespace Go.Proofs.Ytgbahnaejajdgaa
open Go Go.Abs
set_option linter.unusedVariables false
set_option linter.unusedSimpArgs false

def bit1 (y : Int) : Int := IntKind.i64.wrap ((BitVec.ofInt IntKind.i64.bits y &&& BitVec.ofInt IntKind.i64.bits 1).toNat : Nat)
theorem bit1_bd (y : Int) : 0 ≤ bit1 y ∧ bit1 y ≤ 1 := by
  have h : (BitVec.ofInt IntKind.i64.bits y &&& BitVec.ofInt IntKind.i64.bits 1).toNat ≤ 1 := by
    rw [BitVec.toNat_and]
    exact Nat.le_trans Nat.and_le_right (by decide)
  unfold bit1
  rw [wrap64 _ (by omega)]
  omega
/-- Bit i of a text, -1 where there is none. -/
def btA (p : List UInt8) (i : Int) : Int := if i < 0 ∨ 8 * (p.length : Int) ≤ i then -1 else bit1 (((p.getD (i / 8).toNat 0).toNat : Int) / 2 ^ (7 - i % 8).toNat)
theorem btA_out (p : List UInt8) (i : Int) : btA p i < 0 ↔ (i < 0 ∨ 8 * (p.length : Int) ≤ i) := by
  unfold btA
  have := bit1_bd (((p.getD (i / 8).toNat 0).toNat : Int) / 2 ^ (7 - i % 8).toNat)
  split <;> omega
theorem btA_bd (p : List UInt8) (i : Int) : -1 ≤ btA p i ∧ btA p i ≤ 1 := by
  unfold btA
  have := bit1_bd (((p.getD (i / 8).toNat 0).toNat : Int) / 2 ^ (7 - i % 8).toNat)
  split <;> omega
/-- The same, 0 where there is none. -/
def bv (p : List UInt8) (i : Int) : Int := max (btA p i) 0
theorem bv_bd (p : List UInt8) (i : Int) : 0 ≤ bv p i ∧ bv p i ≤ 1 := by have := btA_bd p i; unfold bv; omega
/-- So many bits as a number. -/
def numB (p : List UInt8) (s : Int) : Nat → Int
  | 0 => 0
  | k + 1 => numB p s k * 2 + bv p (s + k)
theorem numB_bd (p : List UInt8) (s : Int) : ∀ k, 0 ≤ numB p s k ∧ numB p s k < 2 ^ k
  | 0 => by simp [numB]
  | k + 1 => by
    have h1 := numB_bd p s k
    have h2 := bv_bd p (s + k)
    rw [numB, Int.pow_succ]; omega
theorem numB_le (p : List UInt8) (s : Int) {k j : Nat} (h : k ≤ j) : numB p s k < 2 ^ j := by
  have h1 := numB_bd p s k
  have h2 : (2 : Int) ^ k ≤ 2 ^ j := by exact_mod_cast Nat.pow_le_pow_right (by decide) h
  omega
theorem numB_add (p : List UInt8) (s : Int) (a : Nat) : ∀ b, numB p s (a + b) = numB p s a * 2 ^ b + numB p (s + a) b
  | 0 => by simp [numB]
  | b + 1 => by
    rw [← Nat.add_assoc, numB, numB_add p s a b, numB, Int.pow_succ, Int.natCast_add, ← Int.add_assoc, Int.add_mul, Int.mul_assoc, Int.add_assoc]
abbrev RdOk (p : List UInt8) (s : Int) : Prop := 0 ≤ s ∧ s ≤ 8 * (p.length : Int)
def lft (p : List UInt8) (s : Int) : Int := if RdOk p s then 8 * (p.length : Int) - s else 0
theorem lft_bd (p : List UInt8) (s : Int) : 0 ≤ lft p s ∧ lft p s ≤ 8 * (p.length : Int) := by unfold lft; split <;> omega
theorem lft_ok {p : List UInt8} {s : Int} (h : RdOk p s) : lft p s = 8 * (p.length : Int) - s := by rw [lft, if_pos h]
theorem lft_no {p : List UInt8} {s : Int} (h : ¬ RdOk p s) : lft p s = 0 := by rw [lft, if_neg h]
abbrev RbOk (p : List UInt8) (s n : Int) : Prop := RdOk p s ∧ (0 ≤ n ∧ n ≤ 32) ∧ n ≤ lft p s
def rbA (p : List UInt8) (s n : Int) : Int := if RbOk p s n then s + n else s
def rbV (p : List UInt8) (s n : Int) : Int := if RbOk p s n then numB p s n.toNat else 0
theorem rbV_bd (p : List UInt8) (s n : Int) : 0 ≤ rbV p s n ∧ rbV p s n < 4294967296 := by
  unfold rbV; split
  · rename_i h
    have h1 := numB_bd p s n.toNat
    have h2 := numB_le p s (k := n.toNat) (j := 32) (by omega)
    omega
  · omega
theorem rb_yes {p : List UInt8} {s n : Int} (h : RbOk p s n) : rbA p s n = s + n ∧ rbV p s n = numB p s n.toNat := ⟨if_pos h, if_pos h⟩
theorem rb_no {p : List UInt8} {s n : Int} (h : ¬ RbOk p s n) : rbA p s n = s ∧ rbV p s n = 0 := ⟨if_neg h, if_neg h⟩

/-! Zeros ahead. -/
def zrW (p : List UInt8) (s : Int) : Nat → Nat → Nat
  | 0, n => n
  | f + 1, n => if btA p (s + n) = 0 then zrW p s f (n + 1) else n
def zrs (p : List UInt8) (s : Int) : Nat := zrW p s (lft p s).toNat 0
theorem zrW_le (p : List UInt8) (s : Int) : ∀ f n, n ≤ zrW p s f n ∧ zrW p s f n ≤ n + f
  | 0, n => by simp [zrW]
  | f + 1, n => by
    rw [zrW]; split
    · have := zrW_le p s f (n + 1); omega
    · omega
theorem zrs_le (p : List UInt8) (s : Int) : (zrs p s : Int) ≤ lft p s := by
  have := zrW_le p s (lft p s).toNat 0
  have := lft_bd p s
  unfold zrs; omega
theorem zrW_eq (p : List UInt8) (s : Int) : ∀ (f n k : Nat), k ≤ f → (∀ j < k, btA p (s + (n + j : Nat)) = 0) → (k = f ∨ btA p (s + (n + k : Nat)) ≠ 0) → zrW p s f n = n + k
  | 0, n, k, h1, _, _ => by have : k = 0 := by omega
                            subst this; rfl
  | f + 1, n, 0, _, _, h3 => by
    rw [zrW]
    rcases h3 with h3 | h3
    · omega
    · rw [if_neg (by simpa using h3)]; rfl
  | f + 1, n, k + 1, h1, h2, h3 => by
    have h0 := h2 0 (by omega)
    rw [zrW, if_pos (by simpa using h0), zrW_eq p s f (n + 1) k (by omega) (fun j hj => by have := h2 (j + 1) (by omega); rw [show n + 1 + j = n + (j + 1) by omega]; exact this)
      (by rcases h3 with h3 | h3; exact .inl (by omega); exact .inr (by rw [show n + 1 + k = n + (k + 1) by omega]; exact h3))]
    omega
theorem zrs_eq {p : List UInt8} {s : Int} {k : Nat} (h1 : (k : Int) ≤ lft p s) (h2 : ∀ j < k, btA p (s + (j : Nat)) = 0) (h3 : (k : Int) = lft p s ∨ btA p (s + (k : Nat)) ≠ 0) : zrs p s = k := by
  have h0 := lft_bd p s
  unfold zrs
  rw [zrW_eq p s _ 0 k (by omega) (fun j hj => by rw [Nat.zero_add]; exact h2 j hj) (by rw [Nat.zero_add]; rcases h3 with h3 | h3; exact .inl (by omega); exact .inr h3)]
  omega

theorem zrW_zero (p : List UInt8) (s : Int) : ∀ (f n j : Nat), n ≤ j → j < zrW p s f n → btA p (s + (j : Nat)) = 0
  | 0, n, j, h1, h2 => by rw [zrW] at h2; omega
  | f + 1, n, j, h1, h2 => by
    rw [zrW] at h2
    split at h2
    · rename_i h0
      rcases Nat.lt_or_ge n j with h | h
      · exact zrW_zero p s f (n + 1) j (by omega) h2
      · have : n = j := by omega
        subst this; exact h0
    · omega
theorem zrs_zero {p : List UInt8} {s : Int} {j : Nat} (h : j < zrs p s) : btA p (s + (j : Nat)) = 0 := zrW_zero p s _ 0 j (Nat.zero_le _) h
theorem numB_zero (p : List UInt8) (s : Int) : ∀ k, numB p s k = 0 ↔ ∀ j < k, bv p (s + (j : Nat)) = 0
  | 0 => by simp [numB]
  | k + 1 => by
    have ih := numB_zero p s k
    have h1 := numB_bd p s k
    have h2 := bv_bd p (s + k)
    rw [numB]
    constructor
    · intro h j hj
      rcases Nat.lt_or_ge j k with hj2 | hj2
      · exact ih.1 (by omega) j hj2
      · have : j = k := by omega
        subst this; omega
    · intro h
      have h3 := ih.2 fun j hj => h j (by omega)
      have h4 := h k (by omega)
      omega
/-- What is left is a 1 and 0. -/
theorem end_iff {p : List UInt8} {s : Int} (h : RdOk p s) (h1 : 1 ≤ lft p s) : numB p s (lft p s).toNat = 2 ^ (lft p s - 1).toNat ↔ btA p s = 1 ∧ (zrs p (s + 1) : Int) = lft p (s + 1) := by
  have e1 := lft_ok h
  have h2 : RdOk p (s + 1) := by omega
  have e2 := lft_ok h2
  obtain ⟨k, hk⟩ : ∃ k : Nat, lft p (s + 1) = k := ⟨(lft p (s + 1)).toNat, by omega⟩
  have e3 : (lft p s).toNat = 1 + k := by omega
  have e4 : (lft p s - 1).toNat = k := by omega
  have e5 := numB_add p s 1 k
  have e6 : numB p s 1 = bv p s := by simp [numB]
  have e7 := numB_bd p (s + 1) k
  have e8 := bv_bd p s
  have e9 := btA_bd p s
  have e10 : bv p s = max (btA p s) 0 := rfl
  have hp : (0 : Int) < 2 ^ k := by exact_mod_cast Nat.pow_pos (by decide)
  have hz := numB_zero p (s + 1) k
  rw [e3, e4, e5, e6, hk]
  have e11 : (s : Int) + ((1 : Nat) : Int) = s + 1 := rfl
  rw [e11]
  generalize (2 : Int) ^ k = q at *
  have hzr : ((zrs p (s + 1) : Int) = k) ↔ ∀ j < k, bv p (s + 1 + (j : Nat)) = 0 := by
    constructor
    · intro hh j hj
      have := zrs_zero (p := p) (s := s + 1) (j := j) (by omega)
      unfold bv; omega
    · intro hh
      have := zrs_eq (p := p) (s := s + 1) (k := k) (by omega) (fun j hj => by
        have a := hh j hj
        have b := btA_out p (s + 1 + (j : Nat))
        have c := btA_bd p (s + 1 + (j : Nat))
        unfold bv at a; omega) (.inl hk.symm)
      omega
  rw [hzr, ← hz]
  rcases (by omega : bv p s = 0 ∨ bv p s = 1) with hb | hb
  · rw [hb]; constructor
    · intro hh; omega
    · rintro ⟨hh, _⟩; omega
  · rw [hb]; constructor
    · intro hh; exact ⟨by omega, by omega⟩
    · rintro ⟨_, hh⟩; omega

/-! Numbers behind zeros. -/
def ueA (p : List UInt8) (s : Int) : Int := if zrs p s ≤ 15 then rbA p s (2 * (zrs p s : Int) + 1) else s
def ueC (p : List UInt8) (s : Int) : Int := if zrs p s ≤ 15 then (if RbOk p s (2 * (zrs p s : Int) + 1) then 0 else 1) else 4
def ueV (p : List UInt8) (s : Int) : Int := if ueC p s = 0 then rbV p s (2 * (zrs p s : Int) + 1) - 1 else 0
def lvOf (n : Int) : Int := if n < 0 then 0 else if n % 2 = 0 then n / 2 + 1 else -(n / 2) - 1

theorem ue_yes {p : List UInt8} {s : Int} (h : zrs p s ≤ 15) (h2 : RbOk p s (2 * (zrs p s : Int) + 1)) : ueA p s = s + (2 * (zrs p s : Int) + 1) ∧ ueC p s = 0 ∧ ueV p s = numB p s (2 * (zrs p s : Int) + 1).toNat - 1 := by
  have e : ueC p s = 0 := by rw [ueC, if_pos h, if_pos h2]
  exact ⟨by rw [ueA, if_pos h, (rb_yes h2).1], e, by rw [ueV, if_pos e, (rb_yes h2).2]⟩
theorem ue_short {p : List UInt8} {s : Int} (h : zrs p s ≤ 15) (h2 : ¬ RbOk p s (2 * (zrs p s : Int) + 1)) : ueA p s = s ∧ ueC p s = 1 ∧ ueV p s = 0 := by
  have e : ueC p s = 1 := by rw [ueC, if_pos h, if_neg h2]
  exact ⟨by rw [ueA, if_pos h, (rb_no h2).1], e, by rw [ueV, if_neg (by omega)]⟩
theorem ue_code {p : List UInt8} {s : Int} (h : ¬ zrs p s ≤ 15) : ueA p s = s ∧ ueC p s = 4 ∧ ueV p s = 0 := by
  have e : ueC p s = 4 := by rw [ueC, if_neg h]
  exact ⟨by rw [ueA, if_neg h], e, by rw [ueV, if_neg (by omega)]⟩

/-! Symbols. -/
abbrev SymAt (p : List UInt8) (s : Int) (l : List Int) (m : Nat) : Prop := 0 < l.getD m 0 ∧ RbOk p s (l.getD m 0) ∧ numB p s (l.getD m 0).toNat = (codes l).getD m 0
theorem sym_hit {p : List UInt8} {s : Int} {l : List Int} {m : Nat} (hl : CodeOk l) (hm : m < 6) (h : SymAt p s l m) : hit (codes l) l m (numB p s 7) := by
  have hb := code_in hl hm
  obtain ⟨w, hw⟩ : ∃ w : Nat, l.getD m 0 = w := ⟨(l.getD m 0).toNat, by omega⟩
  have hw7 : w ≤ 7 := by omega
  have h1 := numB_add p s w (7 - w)
  have h2 := numB_bd p (s + w) (7 - w)
  have h3 := h.2.2
  have h5 := h.1
  rw [show w + (7 - w) = 7 by omega] at h1
  rw [hw] at h3
  have h4 : numB p s w = (codes l).getD m 0 := by simpa using h3
  unfold hit
  rw [hw]
  have hcw : cw (w : Int) = 2 ^ (7 - w) := by
    rcases (by omega : w = 1 ∨ w = 2 ∨ w = 3 ∨ w = 4 ∨ w = 5 ∨ w = 6 ∨ w = 7) with rfl | rfl | rfl | rfl | rfl | rfl | rfl <;> rfl
  rw [hcw, h1, h4, Int.add_mul]
  omega
theorem sym_uni {p : List UInt8} {s : Int} {l : List Int} {m m' : Nat} (hl : CodeOk l) (hm : m < 6) (hm' : m' < 6) (h : SymAt p s l m) (h' : SymAt p s l m') : m = m' :=
  code_uni hl hm hm' (by omega) (by omega) (sym_hit hl hm h) (sym_hit hl hm' h')
theorem sym_cov {p : List UInt8} {s : Int} {l : List Int} (hl : CodeOk l) (h : RbOk p s 7) : ∃ m, m < 6 ∧ SymAt p s l m := by
  have hb := numB_bd p s 7
  obtain ⟨m, hm, h0, h1, h2⟩ := code_cov hl (v := numB p s 7) hb.1 hb.2
  have hb2 := code_in hl hm
  refine ⟨m, hm, by omega, ⟨h.1, by omega, by omega⟩, ?_⟩
  obtain ⟨w, hw⟩ : ∃ w : Nat, l.getD m 0 = w := ⟨(l.getD m 0).toNat, by omega⟩
  have hw7 : w ≤ 7 := by omega
  have h3 := numB_add p s w (7 - w)
  have h4 := numB_bd p (s + w) (7 - w)
  rw [show w + (7 - w) = 7 by omega] at h3
  have hcw : cw (w : Int) = 2 ^ (7 - w) := by
    rcases (by omega : w = 1 ∨ w = 2 ∨ w = 3 ∨ w = 4 ∨ w = 5 ∨ w = 6 ∨ w = 7) with rfl | rfl | rfl | rfl | rfl | rfl | rfl <;> rfl
  rw [hw, hcw] at h1 h2
  rw [hw, show ((w : Int)).toNat = w by simp]
  rw [h3] at h1 h2
  have hp : (0 : Int) < 2 ^ (7 - w) := by exact_mod_cast Nat.pow_pos (by decide)
  generalize (2 : Int) ^ (7 - w) = q at *
  have e1 : (codes l).getD m 0 * q ≤ numB p s w * q + numB p (s + w) (7 - w) := h1
  have e2 : numB p s w * q + numB p (s + w) (7 - w) < ((codes l).getD m 0 + 1) * q := h2
  have a1 : (codes l).getD m 0 < numB p s w + 1 := by
    apply Int.lt_of_mul_lt_mul_right (a := q) _ (by omega)
    rw [Int.add_mul]; omega
  have a2 : numB p s w < (codes l).getD m 0 + 1 := by
    apply Int.lt_of_mul_lt_mul_right (a := q) _ (by omega)
    omega
  omega
/-- The symbol that is read, 6 where there is none. -/
def symM (p : List UInt8) (s : Int) (l : List Int) : Nat := ((List.range 6).find? fun m => decide (SymAt p s l m)).getD 6
theorem symM_eq {p : List UInt8} {s : Int} {l : List Int} {m : Nat} (hl : CodeOk l) (hm : m < 6) (h : SymAt p s l m) : symM p s l = m := by
  unfold symM
  cases hf : (List.range 6).find? fun m => decide (SymAt p s l m) with
  | none =>
    have := List.find?_eq_none.1 hf m (by simp [hm])
    exact absurd (decide_eq_true h) this
  | some m' =>
    have h1 := List.find?_some hf
    have h2 := List.mem_of_find?_eq_some hf
    exact (sym_uni hl (by simpa using h2) hm (of_decide_eq_true h1) h)
theorem symM_none {p : List UInt8} {s : Int} {l : List Int} (h : ∀ m, m < 6 → ¬ SymAt p s l m) : symM p s l = 6 := by
  unfold symM
  have : (List.range 6).find? (fun m => decide (SymAt p s l m)) = none := List.find?_eq_none.2 fun m hm => by simpa using h m (by simpa using hm)
  rw [this]; rfl
theorem symM_lt {p : List UInt8} {s : Int} {l : List Int} (h : symM p s l < 6) : SymAt p s l (symM p s l) := by
  unfold symM at *
  cases hf : (List.range 6).find? fun m => decide (SymAt p s l m) with
  | none => rw [hf] at h; simp at h
  | some m' =>
    have h1 := List.find?_some hf
    exact of_decide_eq_true (p := SymAt p s l m') h1
def smC (p : List UInt8) (s : Int) (l : List Int) : Int := if CodeOk l then (if symM p s l < 6 then 0 else 1) else 4
def smA (p : List UInt8) (s : Int) (l : List Int) : Int := if smC p s l = 0 then s + l.getD (symM p s l) 0 else s
def smV (p : List UInt8) (s : Int) (l : List Int) : Int := if smC p s l = 0 then symM p s l else 0
theorem sm_yes {p : List UInt8} {s : Int} {l : List Int} {m : Nat} (hl : CodeOk l) (hm : m < 6) (h : SymAt p s l m) : smA p s l = s + l.getD m 0 ∧ smV p s l = m ∧ smC p s l = 0 := by
  have e := symM_eq hl hm h
  have c : smC p s l = 0 := by rw [smC, if_pos hl, if_pos (by omega)]
  exact ⟨by rw [smA, if_pos c, e], by rw [smV, if_pos c, e], c⟩
theorem sm_none {p : List UInt8} {s : Int} {l : List Int} (hl : CodeOk l) (h : ∀ m, m < 6 → ¬ SymAt p s l m) : smA p s l = s ∧ smV p s l = 0 ∧ smC p s l = 1 := by
  have e := symM_none h
  have c : smC p s l = 1 := by rw [smC, if_pos hl, if_neg (by omega)]
  exact ⟨by rw [smA, if_neg (by omega)], by rw [smV, if_neg (by omega)], c⟩
theorem sm_bad {p : List UInt8} {s : Int} {l : List Int} (hl : ¬ CodeOk l) : smA p s l = s ∧ smV p s l = 0 ∧ smC p s l = 4 := by
  have c : smC p s l = 4 := by rw [smC, if_neg hl]
  exact ⟨by rw [smA, if_neg (by omega)], by rw [smV, if_neg (by omega)], c⟩
end Go.Proofs.Ytgbahnaejajdgaa

/- Plain laws: fields read one behind the other; headers, levels, blocks, macroblocks, streams that are read. No condition. -/
namespace Go.Proofs.Ytgbahnaejajdgaa
open Go Go.Abs
set_option linter.unusedVariables false
set_option linter.unusedSimpArgs false

/-! A field: bits, or a number behind zeros; a check may refuse it; behind a fault nothing is read. -/
def fbC (p : List UInt8) (s c n : Int) (k : Int → Int) : Int := if c = 0 then (if RbOk p s n then k (rbV p s n) else 1) else c
def fbA (p : List UInt8) (s c n : Int) (k : Int → Int) : Int := if c = 0 ∧ fbC p s c n k = 0 then rbA p s n else s
def fbV (p : List UInt8) (s c n : Int) (k : Int → Int) : Int := if fbC p s c n k = 0 then rbV p s n else 0
def fuC (p : List UInt8) (s c : Int) (k : Int → Int) : Int := if c = 0 then (if ueC p s = 0 then k (ueV p s) else ueC p s) else c
def fuA (p : List UInt8) (s c : Int) (k : Int → Int) : Int := if fuC p s c k = 0 then ueA p s else s
def fuV (p : List UInt8) (s c : Int) (k : Int → Int) : Int := if fuC p s c k = 0 then ueV p s else 0
def ifE (b : Prop) [Decidable b] (e : Int) : Int := bif decide b then 0 else e
theorem ifE_yes {b : Prop} [Decidable b] {e : Int} (h : b) : ifE b e = 0 := by rw [ifE, decide_eq_true h]; rfl
theorem ifE_no {b : Prop} [Decidable b] {e : Int} (h : ¬ b) : ifE b e = e := by rw [ifE, decide_eq_false h]; rfl

/-! Headers. -/
def lenAt (v : Int) (i : Nat) : Int := v / 2 ^ (3 * i) % 8
def lensV (v : Int) : List Int := [lenAt v 5, lenAt v 4, lenAt v 3, lenAt v 2, lenAt v 1, lenAt v 0]
structure HdS where
  a : Int
  c : Int
  w : Int
  h : Int
  q : Int
  f : Int
  l : Int
abbrev hk1 (x : Int) : Int := ifE (x = 183) 2
abbrev hk2 (x : Int) : Int := ifE (x ≤ 3) 3
abbrev hk3 (x : Int) : Int := ifE (x ≤ 51) 3
abbrev hk4 (x : Int) : Int := 0
abbrev hk5 (x : Int) : Int := ifE (CodeOk (lensV x)) 4
def hdS (p : List UInt8) (s : Int) : HdS :=
  let a1 := fbA p s 0 8 hk1
  let c1 := fbC p s 0 8 hk1
  let a2 := fuA p a1 c1 hk2
  let c2 := fuC p a1 c1 hk2
  let a3 := fuA p a2 c2 hk2
  let c3 := fuC p a2 c2 hk2
  let a4 := fbA p a3 c3 6 hk3
  let c4 := fbC p a3 c3 6 hk3
  let a5 := fbA p a4 c4 2 hk4
  let c5 := fbC p a4 c4 2 hk4
  let a6 := fbA p a5 c5 18 hk5
  let c6 := fbC p a5 c5 18 hk5
  ⟨a6, c6, fuV p a1 c1 hk2, fuV p a2 c2 hk2, fbV p a3 c3 6 hk3, fbV p a4 c4 2 hk4, fbV p a5 c5 18 hk5⟩
def HdS.W (x : HdS) : Int := if x.c = 0 then 8 * (x.w + 1) else 0
def HdS.H (x : HdS) : Int := if x.c = 0 then 8 * (x.h + 1) else 0
def HdS.Q (x : HdS) : Int := if x.c = 0 then x.q else 0
def HdS.B (x : HdS) : Bool := decide (x.c = 0 ∧ x.f ≥ 2)
def HdS.D (x : HdS) : Bool := decide (x.c = 0 ∧ x.f % 2 = 1)
def HdS.L (x : HdS) : List Int := if x.c = 0 then lensV x.l else []

/-! Levels. -/
structure LvS where
  a : Int
  c : Int
  at_ : Int
  out : List Int
def lvStep (p : List UInt8) (nn : Int) (x : LvS) : LvS :=
  if x.c = 0 then
    let k1 := fun y : Int => ifE (y < nn - x.at_) 5
    let k2 := fun y : Int => ifE (-16383 ≤ lvOf y ∧ lvOf y ≤ 16383) 5
    let a1 := fuA p x.a 0 k1
    let c1 := fuC p x.a 0 k1
    let t1 := x.at_ + fuV p x.a 0 k1
    let a2 := fuA p a1 c1 k2
    let c2 := fuC p a1 c1 k2
    if c2 = 0 then ⟨a2, c2, t1 + 1, x.out.set t1.toNat (lvOf (fuV p a1 c1 k2))⟩ else ⟨a2, c2, t1, x.out⟩
  else x
def lvRun (p : List UInt8) (nn : Int) (x : LvS) : Nat → LvS
  | 0 => x
  | k + 1 => lvStep p nn (lvRun p nn x k)
def lvS (p : List UInt8) (s n : Int) : LvS :=
  let nn := n * n
  let z := List.replicate nn.toNat 0
  let k0 := fun _ : Int => 0
  let k1 := fun y : Int => ifE (y < nn) 5
  let a1 := fbA p s 0 1 k0
  let c1 := fbC p s 0 1 k0
  if fbV p s 0 1 k0 = 0 then ⟨a1, c1, 0, z⟩ else
    let a2 := fuA p a1 c1 k1
    let c2 := fuC p a1 c1 k1
    lvRun p nn ⟨a2, c2, 0, z⟩ (1 + fuV p a1 c1 k1).toNat
theorem lvStep_len (p : List UInt8) (nn : Int) (x : LvS) : (lvStep p nn x).out.length = x.out.length := by
  unfold lvStep; split
  · simp only; split
    · simp
    · rfl
  · rfl
theorem lvRun_len (p : List UInt8) (nn : Int) (x : LvS) : ∀ k, (lvRun p nn x k).out.length = x.out.length
  | 0 => rfl
  | k + 1 => by rw [lvRun, lvStep_len, lvRun_len p nn x k]
theorem lvS_len (p : List UInt8) (s n : Int) : (lvS p s n).out.length = (n * n).toNat := by
  unfold lvS; simp only; split
  · simp
  · rw [lvRun_len]; simp

/-! Blocks. -/
structure BlS where
  a : Int
  c : Int
  m : Int
  l : List Int
def blS (p : List UInt8) (s : Int) (lens : List Int) (n : Int) : BlS :=
  if n = 4 ∨ n = 8 then
    if smC p s lens = 0 then
      let x := lvS p (smA p s lens) n
      if x.c = 0 then ⟨x.a, 0, smV p s lens, x.out⟩ else ⟨x.a, x.c, 0, []⟩
    else ⟨s, smC p s lens, 0, []⟩
  else ⟨s, 5, 0, []⟩
theorem blS_len (p : List UInt8) (s : Int) (lens : List Int) (n : Int) : (blS p s lens n).l.length ≤ 64 := by
  unfold blS; split
  · rename_i h
    split
    · simp only; split
      · have := lvS_len p (smA p s lens) n
        rcases h with rfl | rfl
        · have h2 : ((4 : Int) * 4).toNat = 16 := rfl
          show (lvS p (smA p s lens) 4).out.length ≤ 64
          omega
        · have h2 : ((8 : Int) * 8).toNat = 64 := rfl
          show (lvS p (smA p s lens) 8).out.length ≤ 64
          omega
      · simp
    · simp
  · simp

/-! Macroblocks: so many blocks, up to the first fault. -/
structure MbS where
  a : Int
  c : Int
  bs : List Blok
def mbRun (p : List UInt8) (s : Int) (lens : List Int) (n : Int) : Nat → MbS
  | 0 => ⟨s, 0, []⟩
  | k + 1 =>
    let x := mbRun p s lens n k
    if x.c = 0 then
      let b := blS p x.a lens n
      if b.c = 0 then ⟨b.a, 0, x.bs ++ [(b.m, b.l)]⟩ else ⟨b.a, b.c, []⟩
    else x
def sz8' (e : Bool) : Int := bif e then 8 else 4
def mbS (p : List UInt8) (s : Int) (lens : List Int) : MbS × Bool :=
  if RbOk p s 1 then
    let e := decide (rbV p s 1 = 1)
    let x := mbRun p (s + 1) lens (bif e then 8 else 4) (bif e then 1 else 4)
    (x, bif decide (x.c = 0) then e else false)
  else (⟨s, 1, []⟩, false)

/-! Streams. -/
structure StS where
  a : Int
  c : Int
  ms : List Mbk
def stRun (p : List UInt8) (s : Int) (lens : List Int) : Nat → StS
  | 0 => ⟨s, 0, []⟩
  | k + 1 =>
    let x := stRun p s lens k
    if x.c = 0 then
      let m := mbS p x.a lens
      if m.1.c = 0 then ⟨m.1.a, 0, x.ms ++ [(m.2, m.1.bs)]⟩ else ⟨m.1.a, m.1.c, []⟩
    else x
/-- The fault of what is left: a 1, and as many 0 as fill a byte. -/
def endC (p : List UInt8) (s : Int) : Int := if lft p s = 0 then 1 else if lft p s ≤ 8 ∧ numB p s (lft p s).toNat = 2 ^ (lft p s - 1).toNat then 0 else 6
end Go.Proofs.Ytgbahnaejajdgaa

/- Room made ahead: append of zeros to a nil slice, the capacity of a nil slice, the empty beginning of a slice. No condition. -/
namespace Go.Abs
open Go
set_option linter.unusedVariables false
set_option linter.unusedSimpArgs false
section
variable {P : Program} {n m : Nat} {G : Ctx} {T : List (Nat × AV)} {O : List AObj} {Q : Exit → St → Prop} {ops : Array Oper} {l : List Oper} {d : Nat} {md : Bool} {tt : TypeId} {pos : String} {after : Array Edge} {tab : List (Nat × Ty)}
theorem WpL.capNil {t e : TypeId} {x : Operand} (ht : P.underlying t = some (.slice e)) (hx : av T x = .nilS) (hn : d < n)
    (h : WpL P n m G md ops l ⟨(d, .sc (.int .i64 0)) :: T, O⟩ Q) :
    WpL P n m G md ops ({ dst := some d, op := .call { callee := .builtin .cap, args := #[x], argTypes := #[t] }, type := tt, pos := pos, after := after, guard := none } :: l) ⟨T, O⟩ Q :=
  WpL.pure rfl rfl hn (fun S ι F a w hr => by
    have hv := hr.eval x
    rw [show av (St.mk T O).T x = _ from hx] at hv
    have hxe := (LRel.slice_len hv).2.2 rfl
    refine ⟨.int .i64 0, ?_, .sc .nil⟩
    have : (Builtin.cap_ #[t] tt #[.slice none 0 0]).run P w = .ok (.int .i64 0) w := by simp [Builtin.cap_, run_underlying ht, goInt]
    simp [execOp, resolve, invoke, builtin, hxe, this, Sem.run_bind]) h
theorem WpL.subNil (hP : TabOk P tab) {t e k b : Nat} {zs : List AV} {x y : Operand} {kk : IntKind} (ht : tlook tab t = some (.slice e k b zs)) (hx : av T x = .nilS) (hy : av T y = .sc (.int kk 0)) (hn : d < n)
    (h : WpL P n m G md ops l ⟨(d, .nilS) :: T, O⟩ Q) :
    WpL P n m G md ops ({ dst := some d, op := .slice t x none (some y) none, type := tt, pos := pos, after := after, guard := none } :: l) ⟨T, O⟩ Q :=
  WpL.pure rfl rfl hn (fun S ι F a w hr => by
    obtain ⟨hu, inf, z, hinf, _, hk, _, _, hk0, _⟩ := hP.slice ht
    have hv := hr.eval x
    rw [show av (St.mk T O).T x = _ from hx] at hv
    have hxe := (LRel.slice_len hv).2.2 rfl
    have hye := hr.sc hy
    refine ⟨.slice none 0 0, ?_, .nilS .nil⟩
    have hrun : (Instr.sliceAt t (.slice none 0 0) none (some (.int kk 0)) none).run P w = .ok (.slice none 0 0) w := by
      simp [Instr.sliceAt, Instr.slice, run_underlying hu, Instr.sliceBounds, Instr.sliceBound, asIntOf, run_sizeOf hinf hk, Sem.run_bind]
    simp [execOp, hxe, hye, hrun, Sem.run_bind]) h
/-- The empty beginning of a slice of the call's own. -/
theorem WpL.subOwn0 (hP : TabOk P tab) {t e k b : Nat} {zs : List AV} {x y : Operand} {kk : IntKind} {id ep len : Nat} {ob : AObj} (ht : tlook tab t = some (.slice e k b zs)) (hx : av T x = .own id ep 0 len) (ho : O[id]? = some ob) (he : ob.ep = ep) (hy : av T y = .sc (.int kk 0)) (hn : d < n)
    (h : WpL P n m G md ops l ⟨(d, .own id ep 0 0) :: T, O⟩ Q) :
    WpL P n m G md ops ({ dst := some d, op := .slice t x none (some y) none, type := tt, pos := pos, after := after, guard := none } :: l) ⟨T, O⟩ Q :=
  WpL.pure rfl rfl hn (fun S ι F a w hr => by
    obtain ⟨hu, inf, z, hinf, _, hk, _, _, hk0, _⟩ := hP.slice ht
    have hv := hr.eval x
    rw [show av (St.mk T O).T x = _ from hx] at hv
    have hye := hr.sc hy
    have hown : OwnAt (ι id) ob.size 0 len (a.eval x) := by
      cases hv with
      | own q1 q2 q3 r =>
        rw [show (St.mk T O).O[id]? = some ob from ho] at q1
        cases q1
        exact q3 he.symm
    cases hs : ι id with
    | none =>
      rw [hs] at hown
      obtain ⟨hxe, _, _⟩ := hown
      refine ⟨.slice none 0 0, ?_, .own ho (by omega) (fun _ => by rw [hs]; exact ⟨rfl, rfl, rfl⟩) .nil⟩
      have hrun : (Instr.sliceAt t (.slice none 0 0) none (some (.int kk 0)) none).run P w = .ok (.slice none 0 0) w := by
        simp [Instr.sliceAt, Instr.slice, run_underlying hu, Instr.sliceBounds, Instr.sliceBound, asIntOf, run_sizeOf hinf hk, Sem.run_bind]
      simp [execOp, hxe, hye, hrun, Sem.run_bind]
    | some p =>
      obtain ⟨bb, kb⟩ := p
      rw [hs] at hown
      obtain ⟨cap, hxe, h1, h2, h3⟩ := hown
      have hrun := run_sliceSl hu hinf hk ⟨bb, 0, none⟩ len cap none (some (.int kk 0)) 0 0 (.inl ⟨rfl, rfl⟩) (.inr ⟨kk, rfl⟩) (by omega) w
      have e1 : (if cap = 0 then (⟨bb, 0, none⟩ : Addr) else (⟨bb, 0, none⟩ : Addr).add (0 * k)) = ⟨bb, 0, none⟩ := by
        split
        · rfl
        · rw [addr_add]; simp
      rw [e1, Nat.sub_zero, Nat.sub_zero] at hrun
      refine ⟨.slice (some ⟨bb, 0, none⟩) 0 cap, by simp [execOp, hxe, hye, hrun, Sem.run_bind], .own ho (by omega) (fun _ => by rw [hs]; exact ⟨cap, rfl, h1, Nat.zero_le _, h3⟩) .nil⟩) h
/-- append of so many zeros to a nil slice; its cells are left unsaid. -/
theorem WpL.appZeros (hP : TabOk P tab) {t u e k b id : Nat} {zs : List AV} {x y : Operand} {kn : IntKind} {p : Nat} (ht : tlook tab t = some (.slice e k b zs)) (hut : tlook tab u = some (.int kn)) (hx : av T x = .nilS) (hy : av T y = .sc (.int .i64 p))
    (hp : 0 < p) (hb : p * b ≤ 140737488355328 ∧ p ≤ 9223372036854775807) (hid : nid O 0 = some id) (hn : d < n)
    (h : WpL P n m G false ops l ⟨(d, .own id 0 0 p) :: T, O ++ [⟨[], 0, k, some e⟩]⟩ Q) :
    WpL P n m G false ops ({ dst := some d, op := .call { callee := .builtin .append, args := #[x, y], argTypes := #[t, u] }, type := tt, pos := pos, after := after, guard := none } :: l) ⟨T, O⟩ Q :=
  WpL.value rfl (fun a w hr => by
    obtain ⟨S, ι, F, hr⟩ := hr
    have hid : id = O.length := by have := nid_eq hid; omega
    subst hid
    obtain ⟨hu, i, z, hi, hz, hk, hby, hzk, hk0, _⟩ := hP.slice ht
    have htn := (hP.ty hut).1
    have hv := hr.eval x
    rw [show av (St.mk T O).T x = _ from hx] at hv
    have hxe := (LRel.slice_len hv).2.2 rfl
    have hye := hr.sc hy
    have hrun := Lib.run_append_nil_zeros (P := P) w t u tt e i z .i64 kn hu htn hi hz p hp (by omega) (by omega) (by rw [hby]; omega)
    have hcap := grownCap_ge w p 0 e
    have hcm := grownCap_le_maxLen w p 0 e (by simp only [maxLen]; omega)
    have hsz : (Builtin.zeroCells z.cells p ++ Builtin.zeroCells z.cells (grownCap w p 0 e - p)).size = grownCap w p 0 e * k := by
      simp only [Array.size_append, zeroCells_size, hzk, ← Nat.add_mul]
      congr 1; omega
    have hr' := hr.alloc (ob := ⟨[], 0, k, some e⟩) (cur := Builtin.zeroCells z.cells p ++ Builtin.zeroCells z.cells (grownCap w p 0 e - p)) (t := e) (fz := (0, 0)) (adds_drew_alloc w _) (by simp; exact .nil) (by simp) (by simp) (by simp)
    refine ⟨.slice (some ⟨w.heap.size, 0, none⟩) p (grownCap w p 0 e), _, by simp only [execOp, resolve, invoke, builtin, Sem.run_bind, Sem.run_pure, Result.andThen_ok, List.map_toArray, List.map_cons, List.map_nil, hxe, hye, hrun], _, _, _, hr'.put hn ?_⟩
    exact own_new (ob := ⟨[], 0, k, some e⟩) hsz.symm hcap hcm) h
/-- A row that a slice of slices owns: it becomes an object of its own. -/
theorem WpL.loadOwnLi (hP : TabOk P tab) {t : TypeId} {x : Operand} {ty : Ty} {id ep sz off : Nat} {te : Option TypeId} {M : List (List Int)} (ht : tlook tab t = some ty) (hp : ty.plain = true) (hx : av T x = .ptr id ep off) (ho : O[id]? = some ⟨rows liF M, ep, sz, te⟩)
    (hi : off < M.length) (hn : d < n) {j : Nat} (hcnt : cnt O.length 0 = some j)
    (h : WpL P n m G false ops l ⟨(d, .own j 0 0 (M.getD off default).length) :: T, O.set id ⟨(rows liF M).set off (.own j 0 0 (M.getD off default).length), ep, sz, te⟩ ++ [⟨ints (M.getD off default), 0, 1, none⟩]⟩ Q) :
    WpL P n m G false ops ({ dst := some d, op := .load t x, type := tt, pos := pos, after := after, guard := none } :: l) ⟨T, O⟩ Q := by
  have e : off * 1 + 0 = off := by omega
  refine WpL.loadOwn (f := liF) (xs := M) (i := off) (k := 1) (o := 0) (s := 1) (len := (M.getD off default).length) (cs := ints (M.getD off default)) hP ht hp (by rw [e]; exact hx) ho (fun _ => rfl) rfl hi hn hcnt ?_
  rw [e]; exact h
end
end Go.Abs

/- Contracts: slices joined. No condition. -/
namespace Go.Proofs.Ytgbahnaejajdgaa
open Go Go.Abs
set_option linter.unusedVariables false
set_option linter.unusedSimpArgs false
set_option maxRecDepth 100000
set_option maxHeartbeats 4000000
attribute [local irreducible] WpA WpL Rnd Blk Abs.Seq Abs.Fin Abs.FinG FnC FnG Only

abbrev LL (M : List (List Int)) : AV := .imm 1 M.length (rows liI M)
theorem flat_snoc (M : List (List Int)) (k : Nat) (h : k < M.length) : (M.take (k + 1)).flatten = (M.take k).flatten ++ M.getD k default := by
  rw [take_snoc M k h, List.flatten_append]; simp
@[irreducible] def SmL (c : Nat) (M : List (List Int)) : Prop := ∀ r ∈ M, r.length ≤ c
theorem smL_get {c : Nat} {M : List (List Int)} (h : SmL c M) {k : Nat} (hk : k < M.length) : (M.getD k default).length ≤ c := by
  unfold SmL at h; exact h _ (by simp [hk])
theorem smL_bd {c : Nat} {M : List (List Int)} (h : SmL c M) : ∀ k, k ≤ M.length → (M.take k).flatten.length ≤ k * c
  | 0, _ => by simp
  | k + 1, hk => by
    have h1 := smL_bd h k (by omega)
    have h2 := smL_get h (k := k) (by omega)
    rw [flat_snoc M k (by omega), List.length_append, Nat.add_mul, Nat.one_mul]; omega
theorem smL_nil (c : Nat) : SmL c [] := by unfold SmL; intro r hr; cases hr
theorem smL_cons {c : Nat} {a : List Int} {M : List (List Int)} (h : a.length ≤ c) (r : SmL c M) : SmL c (a :: M) := by
  unfold SmL at *; intro x hx
  rcases List.mem_cons.1 hx with rfl | hx
  · exact h
  · exact r x hx
end Go.Proofs.Ytgbahnaejajdgaa

/- Regions that draw their order and in which objects are made in any order: each is laid into a place kept for it. No condition. -/
namespace Go.Abs
open Go
set_option linter.unusedVariables false
set_option linter.unusedSimpArgs false

def deadO : AObj := ⟨[], 1, 0, none⟩
def roomO : AObj := ⟨[], 0, 0, none⟩
/-- What the object becomes in its place. -/
def AObj.putE (ob : AObj) (e : Nat) : AObj := ⟨ob.cells, e, ob.size, ob.ty⟩
def AObj.put1 (ob : AObj) : AObj := ⟨ob.cells, 1, ob.size, ob.ty⟩

theorem RelAt.fill {n m G S ι F T O a w} {d j off len : Nat} {ob oj : AObj} (hr : RelAt n m G S ι F ⟨(d, .own O.length 0 off len) :: T, O ++ [ob]⟩ a w) (hj : O[j]? = some oj) (hm : m ≤ j) (hob : ob.ep = 0) (hst : ob.cells.all AV.still = true) :
    ∃ ι' F', RelAt n m G S ι' F' ⟨(d, .own j (oj.ep + 1) off len) :: T, O.set j (ob.putE (oj.ep + 1)) ++ [deadO]⟩ a w := by
  have hjl : j < O.length := (List.getElem?_eq_some_iff.1 hj).1
  have hlast : (O ++ [ob])[O.length]? = some ob := List.getElem?_concat_length
  have hO2 : ∀ i : Nat, (O.set j (ob.putE (oj.ep + 1)) ++ [deadO])[i]? = if i = j then some (ob.putE (oj.ep + 1)) else if i = O.length then some deadO else O[i]? := by
    intro i
    by_cases h1 : i = j
    · subst h1; rw [if_pos rfl, List.getElem?_append_left (by simpa using hjl)]; simp [hjl]
    · rw [if_neg h1]
      have h1' : ¬ j = i := fun e => h1 e.symm
      by_cases h2 : i = O.length
      · subst h2; rw [if_pos rfl, List.getElem?_append_right (by simp)]; simp
      · rw [if_neg h2]
        rcases Nat.lt_or_ge i O.length with h | h
        · rw [List.getElem?_append_left (by simpa using h)]; simp [List.getElem?_set, h1']
        · rw [List.getElem?_eq_none (by simp; omega), List.getElem?_eq_none h]
  have hO1 : ∀ i : Nat, i ≠ O.length → (O ++ [ob])[i]? = O[i]? := by
    intro i hi
    rcases Nat.lt_or_ge i O.length with h | h
    · rw [List.getElem?_append_left h]
    · rw [List.getElem?_eq_none (by simp; omega), List.getElem?_eq_none h]
  have hjn : j ≠ O.length := by omega
  have hlat : Later S w ι (O ++ [ob]) S w (upd (upd ι j (ι O.length)) O.length none) (O.set j (ob.putE (oj.ep + 1)) ++ [deadO]) := by
    refine ⟨fun _ h => h, fun _ _ => rfl, fun i obi hi => ?_⟩
    by_cases h1 : i = j
    · subst h1; rw [hO1 _ hjn, hj] at hi; cases hi
      exact ⟨(ob.putE (oj.ep + 1)), by rw [hO2, if_pos rfl], .inl (Nat.lt_succ_self _)⟩
    · by_cases h2 : i = O.length
      · subst h2; rw [hlast] at hi; cases hi
        exact ⟨deadO, by rw [hO2, if_neg h1, if_pos rfl], .inl (by rw [hob]; exact Nat.lt_succ_self _)⟩
      · rw [hO1 _ h2] at hi
        exact ⟨obi, by rw [hO2, if_neg h1, if_neg h2]; exact hi, .inr ⟨rfl, rfl, by rw [upd_other _ _ h2, upd_other _ _ h1]⟩⟩
  have hn := hr.objs.obj O.length ob hlast
  refine ⟨upd (upd ι j (ι O.length)) O.length none, upd (upd F j (F O.length)) O.length [], hr.defers, hr.size, fun t' => ?_, ⟨fun i obi hi => ?_, fun i hi => ?_, fun i i' hi hi' hii c hcm => ?_⟩, fun i hi c hcm => ?_, hr.base, hr.stable, hr.keeps, fun i hi => ?_, ?_⟩
  · have ht := hr.tmps t'
    by_cases e : d = t'
    · subst e
      have ht : VRel S w ι (O ++ [ob]) (look ((d, .own O.length 0 off len) :: T) d) (a.tmps.getD d undef) [] := ht
      show VRel _ _ _ _ (look ((d, .own j (oj.ep + 1) off len) :: T) d) _ _
      rw [look_cons_same] at ht ⊢
      cases ht with
      | own q1 q2 q3 r =>
        rw [hlast] at q1; cases q1
        refine .own (ob := (ob.putE (oj.ep + 1))) (by rw [hO2, if_pos rfl]) (Nat.le_refl _) (fun _ => ?_) .nil
        rw [upd_other _ _ hjn, upd_same]
        exact q3 hob.symm
    · have ht : VRel S w ι (O ++ [ob]) (look ((d, .own O.length 0 off len) :: T) t') (a.tmps.getD t' undef) [] := ht
      show VRel _ _ _ _ (look ((d, .own j (oj.ep + 1) off len) :: T) t') _ _
      rw [look_cons_other _ _ _ _ e] at ht ⊢
      exact ht.mono hlat (fun _ _ => rfl)
  · have hi : (O.set j (ob.putE (oj.ep + 1)) ++ [deadO])[i]? = some obi := hi
    rw [hO2] at hi
    by_cases e1 : i = j
    · subst e1
      rw [if_pos rfl] at hi; cases hi
      rw [upd_other _ _ hjn, upd_other _ _ hjn, upd_same, upd_same]
      unfold ObjAt at hn ⊢
      cases hs : ι O.length with
      | none => rw [hs] at hn; exact hn
      | some p =>
        obtain ⟨b, k⟩ := p
        rw [hs] at hn
        obtain ⟨cur, t, fz, f', h1, h2, h3, h4, h5, h6, h7⟩ := hn
        have h8 := h7.mono hlat (fun _ _ => rfl)
        rw [hs] at h8
        exact ⟨cur, t, fz, f', h1, h2, h3, h4, h5, h6, h8⟩
    · rw [if_neg e1] at hi
      by_cases e2 : i = O.length
      · subst e2
        rw [if_pos rfl] at hi; cases hi
        rw [upd_same, upd_same]; exact ⟨rfl, rfl⟩
      · rw [if_neg e2] at hi
        rw [upd_other _ _ e2, upd_other _ _ e2, upd_other _ _ e1, upd_other _ _ e1]
        have ho := hr.objs.obj i obi (by show (O ++ [ob])[i]? = _; rw [hO1 _ e2]; exact hi)
        unfold ObjAt at ho ⊢
        cases hs : ι i with
        | none => rw [hs] at ho; exact ho
        | some p =>
          obtain ⟨b, k⟩ := p
          rw [hs] at ho
          obtain ⟨cur, t, fz, f', h1, h2, h3, h4, h5, h6, h7⟩ := ho
          exact ⟨cur, t, fz, f', h1, h2, h3, h4, h5, h6, h7.mono hlat (fun _ _ => rfl)⟩
  · have hi : i < (O.set j (ob.putE (oj.ep + 1)) ++ [deadO]).length := hi
    simp only [List.length_append, List.length_set, List.length_singleton] at hi
    by_cases e2 : i = O.length
    · subst e2; rw [upd_same]; exact List.nodup_nil
    · rw [upd_other _ _ e2]
      by_cases e1 : i = j
      · subst e1; rw [upd_same]; exact hr.objs.nodup O.length (by show O.length < (O ++ [ob]).length; simp)
      · rw [upd_other _ _ e1]; exact hr.objs.nodup i (by show i < (O ++ [ob]).length; simp; omega)
  · have hi : i < (O.set j (ob.putE (oj.ep + 1)) ++ [deadO]).length := hi
    have hi' : i' < (O.set j (ob.putE (oj.ep + 1)) ++ [deadO]).length := hi'
    simp only [List.length_append, List.length_set, List.length_singleton] at hi hi'
    by_cases e2 : i = O.length
    · subst e2; rw [upd_same] at hcm; cases hcm
    · rw [upd_other _ _ e2] at hcm
      by_cases e3 : i' = O.length
      · subst e3; rw [upd_same]; intro h; cases h
      · rw [upd_other _ _ e3]
        have hL : (O ++ [ob]).length = O.length + 1 := by simp
        by_cases e1 : i = j
        · subst e1
          rw [upd_same] at hcm
          rw [upd_other _ _ (fun e => hii e.symm)]
          exact hr.objs.apart O.length i' (by show O.length < (O ++ [ob]).length; omega) (by show i' < (O ++ [ob]).length; omega) (fun e => e3 e.symm) c hcm
        · rw [upd_other _ _ e1] at hcm
          by_cases e4 : i' = j
          · subst e4; rw [upd_same]
            exact hr.objs.apart i O.length (by show i < (O ++ [ob]).length; omega) (by show O.length < (O ++ [ob]).length; omega) e2 c hcm
          · rw [upd_other _ _ e4]
            exact hr.objs.apart i i' (by show i < (O ++ [ob]).length; omega) (by show i' < (O ++ [ob]).length; omega) hii c hcm
  · have hi : i < (O.set j (ob.putE (oj.ep + 1)) ++ [deadO]).length := hi
    simp only [List.length_append, List.length_set, List.length_singleton] at hi
    have hL : (O ++ [ob]).length = O.length + 1 := by simp
    by_cases e2 : i = O.length
    · subst e2; rw [upd_same] at hcm; cases hcm
    · rw [upd_other _ _ e2] at hcm
      by_cases e1 : i = j
      · subst e1; rw [upd_same] at hcm; exact hr.foot O.length (by show O.length < (O ++ [ob]).length; omega) c hcm
      · rw [upd_other _ _ e1] at hcm; exact hr.foot i (by show i < (O ++ [ob]).length; omega) c hcm
  · rw [upd_other _ _ (by omega), upd_other _ _ (by omega)]; exact hr.spots i hi
  · show m ≤ (O.set j (ob.putE (oj.ep + 1)) ++ [deadO]).length
    simp only [List.length_append, List.length_set, List.length_singleton]; omega
theorem Weak.fillE {m d j off len : Nat} {ob oj : AObj} {T : List (Nat × AV)} {O : List AObj} (hj : O[j]? = some oj) (hm : m ≤ j) (hob : ob.ep = 0) (hst : ob.cells.all AV.still = true) :
    Weak m ⟨(d, .own O.length 0 off len) :: T, O ++ [ob]⟩ ⟨(d, .own j (oj.ep + 1) off len) :: T, O.set j (ob.putE (oj.ep + 1)) ++ [deadO]⟩ := by
  rintro n' G' a w ⟨S, ι, F, hr⟩
  obtain ⟨ι', F', hr'⟩ := hr.fill hj hm hob hst
  exact ⟨S, ι', F', hr'⟩
theorem Weak.fill {m d j off len : Nat} {ob oj : AObj} {T : List (Nat × AV)} {O : List AObj} (hj : O[j]? = some oj) (hm : m ≤ j) (hje : oj.ep = 0) (hob : ob.ep = 0) (hst : ob.cells.all AV.still = true) :
    Weak m ⟨(d, .own O.length 0 off len) :: T, O ++ [ob]⟩ ⟨(d, .own j 1 off len) :: T, O.set j ob.put1 ++ [deadO]⟩ := by
  have := Weak.fillE (d := d) (off := off) (len := len) (T := T) hj hm hob hst
  rw [hje] at this; exact this
/-- What was made last goes into the place of what is there no more. -/
theorem Weak.fillF {m d j n off len e : Nat} {ob oj : AObj} {T : List (Nat × AV)} {O O2 O3 : List AObj} (hO : O2 = O ++ [ob]) (hn : nid O 0 = some n) (hj : O[j]? = some oj) (hm : m ≤ j) (hob : ob.ep = 0) (hst : ob.cells.all AV.still = true) (he : oj.ep + 1 = e) (h3 : O.set j (ob.putE e) ++ [deadO] = O3) :
    Weak m ⟨(d, .own n 0 off len) :: T, O2⟩ ⟨(d, .own j e off len) :: T, O3⟩ := by
  subst hO he h3
  have e2 : n = O.length := by rw [nid_len, Nat.zero_add] at hn; exact (Option.some.inj hn).symm
  subst e2
  exact Weak.fillE hj hm hob hst

/-- What an operation does with the objects behind those that stay: nothing, it fills the place p with an object it made, or it turns what lies at p. -/
inductive Fil where
  | none
  | put (p : Nat) (ob : AObj)
  | step (p : Nat) (ob : AObj)
def Fil.spot : Fil → Option (Nat × AObj)
  | .none => Option.none
  | .put p ob => some (p, ob)
  | .step p ob => some (p, ob)
def Fil.isPut : Fil → Bool
  | .put _ _ => true
  | _ => false
def Fil.run : Fil → List AObj → List AObj
  | .none, Ov => Ov
  | .put p ob, Ov => Ov.set p ob ++ [deadO]
  | .step p ob, Ov => Ov.set p ob
/-- Does the operation wait for operation j? -/
def waits (o : Oper) (j : Nat) : Bool := o.after.toList.any fun e => Region.binds .any e && Nat.beq e.on j
def memB (p : Nat) : List Nat → Bool
  | [] => false
  | q :: l => Nat.beq p q || memB p l
inductive HeadQ (P : Program) (n m : Nat) (G : Ctx) (ops : Array Oper) (T0 : List (Nat × AV)) (O Oi : List AObj) (keep : List Nat) : List (Nat × AV) → List Fil → List Oper → List (Nat × AV) → List Fil → Prop
  | nil {fs gs} : HeadQ P n m G ops T0 O Oi keep fs gs [] fs gs
  | cons {fs out : List (Nat × AV)} {gs : List Fil} {o : Oper} {l : List Oper} {d : Nat} {V : AV} {F : List (Nat × AV)} {ks : List Fil} (k : Fil) (hd : o.dst = some d) (hF : deps fs o = F)
      (h : ∀ Tv Ov, Oi.length ≤ Ov.length → (∀ p ob, k.spot = some (p, ob) → Ov[p]? = Oi[p]?) → (∀ j f p ob, waits o j = true → gs[j]? = some f → f.spot = some (p, ob) → Ov[p]? = some ob) → (∀ q, memB q keep = true → Ov[q]? = Oi[q]?) →
        WpL P n m G false ops [o] ⟨F ++ (T0 ++ Tv), O ++ Ov⟩ (Only ⟨(d, V) :: (F ++ (T0 ++ Tv)), O ++ k.run Ov⟩)) (r : HeadQ P n m G ops T0 O Oi keep (fs ++ [(d, V)]) (gs ++ [k]) l out ks) : HeadQ P n m G ops T0 O Oi keep fs gs (o :: l) out ks

section
variable {P : Program} {n m : Nat} {G : Ctx} {ops : Array Oper} {T0 : List (Nat × AV)} {O Oi : List AObj} {keep : List Nat}

theorem HeadQ.pre {fs gs l out ks} (h : HeadQ P n m G ops T0 O Oi keep fs gs l out ks) : ∃ r s, out = fs ++ r ∧ r.length = l.length ∧ ks = gs ++ s ∧ s.length = l.length := by
  induction h with
  | nil => exact ⟨[], [], by simp, rfl, by simp, rfl⟩
  | @cons fs out gs o l d V F ks k _ _ _ _ ih => obtain ⟨r, s, h1, h2, h3, h4⟩ := ih; exact ⟨(d, V) :: r, k :: s, by rw [h1]; simp, by simp [h2], by rw [h3]; simp, by simp [h4]⟩

theorem HeadQ.at {fs gs l out ks} (h : HeadQ P n m G ops T0 O Oi keep fs gs l out ks) (hg : gs.length = fs.length) : ∀ {j : Nat} {o : Oper}, l[j]? = some o → ∃ d V k, o.dst = some d ∧ out[fs.length + j]? = some (d, V) ∧ ks[fs.length + j]? = some k ∧
    ∀ Tv Ov, Oi.length ≤ Ov.length → (∀ p ob, k.spot = some (p, ob) → Ov[p]? = Oi[p]?) → (∀ i f p ob, waits o i = true → (ks.take (fs.length + j))[i]? = some f → f.spot = some (p, ob) → Ov[p]? = some ob) → (∀ q, memB q keep = true → Ov[q]? = Oi[q]?) →
      WpL P n m G false ops [o] ⟨deps (out.take (fs.length + j)) o ++ (T0 ++ Tv), O ++ Ov⟩ (Only ⟨(d, V) :: (deps (out.take (fs.length + j)) o ++ (T0 ++ Tv)), O ++ k.run Ov⟩) := by
  induction h with
  | nil => intro j o h; simp at h
  | @cons fs out gs o l d V F ks k hd hF h r ih =>
    intro j o' hj
    obtain ⟨r', s', h1, h2, h3, h4⟩ := r.pre
    cases j with
    | zero =>
      simp only [List.getElem?_cons_zero, Option.some.injEq] at hj
      subst hj
      refine ⟨d, V, k, hd, by rw [h1]; simp, by rw [h3]; simp [hg], ?_⟩
      have : out.take (fs.length + 0) = fs := by rw [h1, Nat.add_zero, List.append_assoc, List.take_left']; rfl
      have e2 : ks.take (fs.length + 0) = gs := by rw [h3, Nat.add_zero, List.append_assoc, List.take_left']; exact hg
      rw [this, hF, e2]; exact h
    | succ j =>
      have := ih (by simp [hg]) (j := j) (o := o') (by simpa using hj)
      rw [List.length_append, List.length_singleton, Nat.add_assoc, Nat.add_comm 1 j] at this
      simpa using this

/-- What stands behind the old objects when so much is listed: the places, as they were or as their operation leaves them, then dead ones. -/
structure RoomAt (ks : List Fil) (Oi : List AObj) (k : Nat) (listed : Array Bool) (Ov : List AObj) : Prop where
  len : Ov.length = Oi.length + ((List.range k).filter fun i => listed.getD i false && ((ks[i]?.map Fil.isPut).getD false)).length
  full : ∀ i f p ob, i < k → ks[i]? = some f → f.spot = some (p, ob) → listed.getD i false = true → Ov[p]? = some ob
  room : ∀ i f p ob, i < k → ks[i]? = some f → f.spot = some (p, ob) → listed.getD i false = false → Ov[p]? = Oi[p]?
  rest : ∀ q, q < Oi.length → (∀ i f p ob, i < k → ks[i]? = some f → f.spot = some (p, ob) → p ≠ q) → Ov[q]? = Oi[q]?
  dead : ∀ q, Oi.length ≤ q → q < Ov.length → Ov[q]? = some deadO

def isPut (ks : List Fil) (i : Nat) : Bool := (ks[i]?.map Fil.isPut).getD false
structure RoomOk (ks : List Fil) (c k : Nat) : Prop where
  lt : ∀ i f p ob, i < k → ks[i]? = some f → f.spot = some (p, ob) → p < c
  inj : ∀ i j f g p q ob oc, i < k → j < k → ks[i]? = some f → ks[j]? = some g → f.spot = some (p, ob) → g.spot = some (q, oc) → p = q → i = j

theorem count_set {f : Nat → Bool} {k i : Nat} {listed : Array Bool} (hik : i < k) (hs : i < listed.size) (hu : listed.getD i false = false) : ((List.range k).filter fun j => (listed.setIfInBounds i true).getD j false && f j).length = ((List.range k).filter fun j => listed.getD j false && f j).length + (if f i = true then 1 else 0) := by
  have hself : (listed.setIfInBounds i true).getD i false = true := by simp [hs]
  have key : ∀ (L : List Nat), L.Nodup → i ∈ L → (L.filter fun j => (listed.setIfInBounds i true).getD j false && f j).length = (L.filter fun j => listed.getD j false && f j).length + (if f i = true then 1 else 0) := by
    intro L
    induction L with
    | nil => intro _ h; cases h
    | cons x L ih =>
      intro hnd hm
      rw [List.nodup_cons] at hnd
      by_cases hx : x = i
      · subst hx
        have hsame : (L.filter fun j => (listed.setIfInBounds x true).getD j false && f j) = L.filter fun j => listed.getD j false && f j := by
          refine List.filter_congr fun j hj => ?_
          rw [getD_set_ne false (by rintro rfl; exact hnd.1 hj)]
        rw [List.filter_cons, List.filter_cons, hsame, hself, hu]
        cases f x <;> simp
      · have hm' : i ∈ L := by
          rcases List.mem_cons.1 hm with h | h
          · exact (hx h.symm).elim
          · exact h
        have := ih hnd.2 hm'
        rw [List.filter_cons, List.filter_cons, getD_set_ne false (Ne.symm hx)]
        split <;> (try simp only [List.length_cons]) <;> omega
  exact key _ List.nodup_range (List.mem_range.2 hik)

theorem RoomAt.step {ks : List Fil} {k i : Nat} {listed : Array Bool} {Ov : List AObj} {f : Fil} (h : RoomAt ks Oi k listed Ov) (ok : RoomOk ks Oi.length k) (hik : i < k) (hs : i < listed.size) (hu : listed.getD i false = false) (hf : ks[i]? = some f) :
    RoomAt ks Oi k (listed.setIfInBounds i true) (f.run Ov) := by
  have hself : (listed.setIfInBounds i true).getD i false = true := by simp [hs]
  have hcnt := count_set (f := isPut ks) hik hs hu
  have hlen := h.len
  have e0 : ∀ L : Array Bool, ((List.range k).filter fun i => L.getD i false && ((ks[i]?.map Fil.isPut).getD false)).length = ((List.range k).filter fun i => L.getD i false && isPut ks i).length := fun _ => rfl
  rw [e0] at hlen
  have hp : isPut ks i = f.isPut := by unfold isPut; rw [hf]; rfl
  rw [hp] at hcnt
  have hrl : (f.run Ov).length = Ov.length + (if f.isPut = true then 1 else 0) := by cases f <;> simp [Fil.run, Fil.isPut]
  have hle : Oi.length ≤ Ov.length := by omega
  -- a place that is not the operation's own keeps what it has
  have hoth : ∀ q, q < Ov.length → (∀ p ob, f.spot = some (p, ob) → p ≠ q) → (f.run Ov)[q]? = Ov[q]? := by
    intro q hq hne
    cases f with
    | none => rfl
    | put p ob =>
      have := hne p ob rfl
      unfold Fil.run
      rw [List.getElem?_append_left (by simpa using hq), List.getElem?_set, if_neg this]
    | step p ob =>
      have := hne p ob rfl
      unfold Fil.run
      rw [List.getElem?_set, if_neg this]
  have hown : ∀ p ob, f.spot = some (p, ob) → (f.run Ov)[p]? = some ob := by
    intro p ob e
    have hpc := ok.lt i f p ob hik hf e
    cases f with
    | none => cases e
    | put p' ob' =>
      cases e
      unfold Fil.run
      rw [List.getElem?_append_left (by rw [List.length_set]; omega), List.getElem?_set_self (by omega)]
    | step p' ob' =>
      cases e
      unfold Fil.run
      rw [List.getElem?_set_self (by omega)]
  refine ⟨by rw [e0, hrl, hcnt, hlen]; split <;> omega, fun j g q oc hj hk hsp hl => ?_, fun j g q oc hj hk hsp hl => ?_, fun q hq hno => ?_, fun q h1 h2 => ?_⟩
  · by_cases e : i = j
    · subst e; rw [hf] at hk; cases hk; exact hown q oc hsp
    · rw [getD_set_ne false e] at hl
      have hqc := ok.lt j g q oc hj hk hsp
      rw [hoth q (by omega) (fun p ob e1 e2 => e (ok.inj i j f g p q ob oc hik hj hf hk e1 hsp e2))]
      exact h.full j g q oc hj hk hsp hl
  · have e : i ≠ j := by rintro rfl; rw [hself] at hl; cases hl
    rw [getD_set_ne false e] at hl
    have hqc := ok.lt j g q oc hj hk hsp
    rw [hoth q (by omega) (fun p ob e1 e2 => e (ok.inj i j f g p q ob oc hik hj hf hk e1 hsp e2))]
    exact h.room j g q oc hj hk hsp hl
  · rw [hoth q (by omega) (fun p ob e1 => hno i f p ob hik hf e1)]
    exact h.rest q hq hno
  · rcases Nat.lt_or_ge q Ov.length with h3 | h3
    · rw [hoth q h3 (fun p ob e1 => by have := ok.lt i f p ob hik hf e1; omega)]
      exact h.dead q h1 h3
    · cases f with
      | none => exact absurd h2 (by simp [Fil.run]; omega)
      | step p ob => exact absurd h2 (by simp [Fil.run]; omega)
      | put p ob =>
        simp [Fil.run] at h2
        have e : q = Ov.length := by omega
        subst e
        unfold Fil.run
        rw [List.getElem?_append_right (by simp)]; simp
theorem any_order {out : List (Nat × AV)} {k g : Nat} {GP : Array Bool → Act → World → Prop} (H : Heads ops T0 out k) (hks : k ≤ ops.size) (hs : k < ops.size → Region.sinkB .any ops k = true ∧ Region.chainB .any ops k = true) {Q : Exit → Act → World → Prop}
    (hstep : ∀ {listed : Array Bool} (inv : HeadInv .any ops k listed) {i : Nat} (hi : i ∈ Region.ready .any ops listed) (hik : i < k) {a w} (hg : GP listed a w) {K : Act → World → Prop} (hK : ∀ a' w', GP (listed.setIfInBounds i true) a' w' → K a' w'), wpOp P ops Q i K a w)
    (hT : ∀ listed a w, HeadInv .any ops k listed → (∀ i, i < k → listed.getD i false = true) → GP listed a w → wpAny P .any ops Q g listed a w) :
    ∀ (f : Nat) (listed : Array Bool) (a : Act) (w : World), HeadInv .any ops k listed → ((List.range k).filter fun i => !listed.getD i false).length = f → GP listed a w →
      wpAny P .any ops Q (f + g) listed a w := by
  intro f
  induction f with
  | zero =>
    intro listed a w inv hc hg
    rw [Nat.zero_add]
    refine hT listed a w inv (fun i hi => ?_) hg
    have h0 := List.eq_nil_of_length_eq_zero hc
    cases hl : listed.getD i false with
    | true => rfl
    | false =>
      have : i ∈ (List.range k).filter fun i => !listed.getD i false := by simp [List.mem_filter, hi]; simpa using hl
      rw [h0] at this; cases this
  | succ f ih =>
    intro listed a w inv hc hg
    have hgetD : ∀ i, i < k → listed.getD i false = false → listed.getD i true = false := fun i hi h => getD_in (by rw [inv.size]; omega) h
    -- the least that is not listed is ready
    have hex : ∃ i, i < k ∧ listed.getD i false = false := by
      cases hl : (List.range k).filter fun i => !listed.getD i false with
      | nil => rw [hl] at hc; simp at hc
      | cons i r =>
        have : i ∈ (List.range k).filter fun i => !listed.getD i false := by rw [hl]; simp
        rw [List.mem_filter, List.mem_range] at this
        exact ⟨i, this.1, by simpa using this.2⟩
    obtain ⟨i0, hi0, hl0⟩ := hex
    have least : ∀ d i, i = d → i < k → listed.getD i false = false → ∃ j, j < k ∧ j ∈ Region.ready .any ops listed := by
      intro d
      induction d using Nat.strongRecOn with
      | _ d ihd =>
        rintro i rfl hi hl
        by_cases hh : ∃ j, j < i ∧ listed.getD j false = false
        · obtain ⟨j, hj, hjl⟩ := hh
          exact ihd j hj j rfl (by omega) hjl
        · have hlt : i < ops.size := by omega
          refine ⟨i, hi, mem_ready.2 ⟨hgetD i hi hl, ops[i], by simp [hlt], fun e he hb => ?_⟩⟩
          have hlt' := H.back i hi _ (by simp [hlt]) e he hb
          cases hx : listed.getD e.on false with
          | true => rfl
          | false => exact (hh ⟨_, hlt', hx⟩).elim
    obtain ⟨j0, hj0, hr0⟩ := least i0 i0 rfl hi0 hl0
    rw [show f + 1 + g = (f + g) + 1 by omega]
    refine ⟨fun h => (by rw [h] at hr0; cases hr0), fun i hi => ?_⟩
    have hik : i < k := by
      rcases Nat.lt_or_ge i k with h | h
      · exact h
      · by_cases hk : k < ops.size
        · exact absurd hi (tail_waits (hs hk).1 (hs hk).2 hk inv _ i0 rfl hi0 (hgetD i0 hi0 hl0) i h)
        · obtain ⟨_, o, ho, _⟩ := mem_ready.1 hi
          have := (Array.getElem?_eq_some_iff.1 ho).1
          omega
    have hiu : listed.getD i false = false := getD_both (mem_ready.1 hi).1
    refine hstep inv hi hik hg fun a' w' hg' => ih _ _ _ (inv.set hi hik) ?_ hg'
    have key : ∀ (L : List Nat), L.Nodup → i ∈ L → (L.filter fun j => !(listed.setIfInBounds i true).getD j false).length + 1 = (L.filter fun j => !listed.getD j false).length := by
      intro L
      have hself : (listed.setIfInBounds i true).getD i false = true := by
        have : i < listed.size := by rw [inv.size]; omega
        simp [this]
      induction L with
      | nil => intro _ h; cases h
      | cons x L ihL =>
        intro hnd hm
        rw [List.nodup_cons] at hnd
        by_cases hx : x = i
        · subst hx
          have hsame : (L.filter fun j => !(listed.setIfInBounds x true).getD j false) = L.filter fun j => !listed.getD j false := by
            refine List.filter_congr fun j hj => ?_
            rw [getD_set_ne false (by rintro rfl; exact hnd.1 hj)]
          rw [List.filter_cons, List.filter_cons, hsame, hself, hiu]; simp
        · have hm' : i ∈ L := by
            rcases List.mem_cons.1 hm with h | h
            · exact (hx h.symm).elim
            · exact h
          have := ihL hnd.2 hm'
          rw [List.filter_cons, List.filter_cons, getD_set_ne false (Ne.symm hx)]
          split <;> (try simp only [List.length_cons]) <;> omega
    have := key (List.range k) List.nodup_range (List.mem_range.2 hik)
    omega

def GoodQ (n m : Nat) (G : Ctx) (T0 out : List (Nat × AV)) (O Oi : List AObj) (k : Nat) (ks : List Fil) (listed : Array Bool) (a : Act) (w : World) : Prop :=
  ∃ T Ov, Rel n m G ⟨T, O ++ Ov⟩ a w ∧ RoomAt ks Oi k listed Ov ∧ (∀ (i d : Nat) (V : AV), out[i]? = some (d, V) → listed.getD i false = true → look T d = V) ∧ ∀ t, has out t = false → look T t = look T0 t
theorem head_stepQ {out : List (Nat × AV)} {ks : List Fil} {k : Nat} (H : Heads ops T0 out k) (ok : RoomOk ks Oi.length k) (hkp : ∀ q, memB q keep = true → q < Oi.length ∧ ∀ i f p ob, i < k → ks[i]? = some f → f.spot = some (p, ob) → p ≠ q) {Q : Exit → Act → World → Prop} (hJ : ∀ {j : Nat} {o : Oper}, j < k → ops[j]? = some o → ∃ d V f, o.dst = some d ∧ out[j]? = some (d, V) ∧ ks[j]? = some f ∧
      ∀ Tv Ov, Oi.length ≤ Ov.length → (∀ p ob, f.spot = some (p, ob) → Ov[p]? = Oi[p]?) → (∀ i f p ob, waits o i = true → (ks.take j)[i]? = some f → f.spot = some (p, ob) → Ov[p]? = some ob) → (∀ q, memB q keep = true → Ov[q]? = Oi[q]?) → WpL P n m G false ops [o] ⟨deps (out.take j) o ++ (T0 ++ Tv), O ++ Ov⟩ (Only ⟨(d, V) :: (deps (out.take j) o ++ (T0 ++ Tv)), O ++ f.run Ov⟩))
    {listed : Array Bool} (inv : HeadInv .any ops k listed) {i : Nat} (hi : i ∈ Region.ready .any ops listed) (hik : i < k) {a w} (hg : GoodQ n m G T0 out O Oi k ks listed a w) {K : Act → World → Prop}
    (hK : ∀ a' w', GoodQ n m G T0 out O Oi k ks (listed.setIfInBounds i true) a' w' → K a' w') : wpOp P ops Q i K a w := by
  obtain ⟨hun, o, ho, hall⟩ := mem_ready.1 hi
  obtain ⟨T, Ov, hr, hroom, h1, h2⟩ := hg
  obtain ⟨d, V, f, hd, hout, hkf, hw⟩ := hJ hik ho
  have hF : ∀ t U, (t, U) ∈ deps (out.take i) o → look T t = U := by
    intro t U hm
    simp only [deps, List.mem_filterMap] at hm
    obtain ⟨e, he, hx⟩ := hm
    split at hx
    · rename_i hb
      have he' : e ∈ o.after := by simpa using he
      have hx' : out[e.on]? = some (t, U) := by
        rw [List.getElem?_take] at hx
        split at hx
        · exact hx
        · simp at hx
      exact h1 _ _ _ hx' (hall e he' hb)
    · simp at hx
  have same : ∀ t, look (deps (out.take i) o ++ (T0 ++ T)) t = look T t := by
    intro t
    rw [look_append]
    split
    · rename_i h; exact (hF _ _ (has_look h)).symm
    · rw [look_append]
      split
      · rename_i h
        refine (h2 t ?_).symm
        cases hc : has out t with
        | false => rfl
        | true => have := H.fresh _ (has_look hc); simp only at this; rw [this] at h; cases h
      · rfl
  have hiu : listed.getD i false = false := getD_both hun
  have hdep : ∀ j g p ob, waits o j = true → (ks.take i)[j]? = some g → g.spot = some (p, ob) → Ov[p]? = some ob := by
    intro j g p ob hwt hg hsp
    obtain ⟨e, he, hb⟩ := List.any_eq_true.1 hwt
    rw [Bool.and_eq_true] at hb
    obtain ⟨hb, hj⟩ := hb
    have := Nat.eq_of_beq_eq_true hj
    subst this
    have hl := hall e (by simpa using he) hb
    rw [List.getElem?_take] at hg
    split at hg
    · exact hroom.full e.on g p ob (by omega) hg hsp hl
    · cases hg
  have hw' := hw T Ov (by rw [hroom.len]; omega) (fun p ob e => hroom.room i f p ob hik hkf e hiu) hdep (fun q hq => hroom.rest q (hkp q hq).1 (hkp q hq).2) a w (hr.relook same)
  have hst := hroom.step ok hik (by rw [inv.size]; have := (Array.getElem?_eq_some_iff.1 ho).1; omega) hiu hkf
  simp only at hw'
  have good : ∀ a' w', Rel n m G ⟨(d, V) :: (deps (out.take i) o ++ (T0 ++ T)), O ++ f.run Ov⟩ a' w' → GoodQ n m G T0 out O Oi k ks (listed.setIfInBounds i true) a' w' := by
    intro a' w' hr'
    refine ⟨_, _, hr', hst, fun j d' V' hj hl => ?_, fun t ht => ?_⟩
    · by_cases hij : i = j
      · subst hij; rw [hout] at hj; cases hj; exact look_cons_same _ _ _
      · rw [getD_set_ne false hij] at hl
        have hne : d ≠ d' := by rintro rfl; exact hij (out_inj H.nodup hout hj)
        rw [look_cons_other _ _ _ _ hne, same]
        exact h1 _ _ _ hj hl
    · have hne : d ≠ t := by
        rintro rfl
        have := has_mem (List.mem_of_getElem? hout)
        rw [ht] at this; cases this
      rw [look_cons_other _ _ _ _ hne, same]; exact h2 t ht
  have only : ∀ e a' w', (∃ σ', Only ⟨(d, V) :: (deps (out.take i) o ++ (T0 ++ T)), O ++ f.run Ov⟩ e σ' ∧ Rel n m G σ' a' w') → e = .normal ∧ K a' w' := by
    rintro e a' w' ⟨σ', hq, hr'⟩
    cases e <;> first | (simp only [Only] at hq; subst hq; exact ⟨rfl, hK _ _ (good _ _ hr')⟩) | exact hq.elim
  unfold wpOp
  simp only [ho]
  change wpList P ops _ [o] a w at hw'
  unfold wpList at hw'
  by_cases hwant : Region.wanted o (yielded ops a.tmps) = true
  · rw [if_pos hwant] at hw' ⊢
    rcases hw' with hw' | ⟨_, a', w', hx⟩
    · refine .inl ?_
      unfold Oper.wp at hw' ⊢
      generalize (execOp a.eval o).run P w = r at *
      cases r with
      | ok x w1 =>
        cases x <;> simp only [Oper.upon] at hw' ⊢
        case value v => exact (only _ _ _ hw').2
        case skip => exact (only _ _ _ hw').2
        case defer d => exact (only _ _ _ hw').2
        case enter f args =>
          refine hw'.mono fun e w2 h2 => ?_
          cases e with
          | returned v => exact (only _ _ _ h2).2
          | panicked c => exact absurd (only _ _ _ h2).1 (by simp)
          | outgrown => obtain ⟨_, _, hf⟩ := h2; exact absurd (only _ _ _ hf).1 (by simp)
        case row r ar => exact hw'.mono fun v w2 h2 => (only _ _ _ h2).2
      | halt x w1 => cases x <;> simp only [Oper.upon] at hw' ⊢ <;> first | exact absurd (only _ _ _ hw').1 (by simp) | exact hw'.elim | (obtain ⟨_, _, hf⟩ := hw'; exact absurd (only _ _ _ hf).1 (by simp))
    · exact absurd (only _ _ _ hx).1 (by simp)
  · rw [if_neg hwant] at hw' ⊢
    exact (only _ _ _ hw').2

theorem WpA.regionQ {l : List Oper} {id : Nat} {out T1 : List (Nat × AV)} {ks : List Fil} {Q : Exit → St → Prop} (k : Nat) (Oe : List AObj) (hm : P.follows .mixedOrders = true) (hB : mixB l.toArray k = true)
    (hJ : HeadQ P n m G l.toArray T0 O Oi keep [] [] (l.take k) out ks) (hok : RoomOk ks Oi.length k) (hkp : ∀ q, memB q keep = true → q < Oi.length ∧ ∀ i f p ob, i < k → ks[i]? = some f → f.spot = some (p, ob) → p ≠ q) (hOe : Oe.length = Oi.length ∧ ∀ q, q < Oi.length → (∃ i f ob, i < k ∧ ks[i]? = some f ∧ f.spot = some (q, ob) ∧ Oe[q]? = some ob) ∨ ((∀ i f p ob, i < k → ks[i]? = some f → f.spot = some (p, ob) → p ≠ q) ∧ Oe[q]? = Oi[q]?)) (hnd : nodupB (out.map (·.1)) = true) (hfr : (out.all fun p => !has T0 p.1) = true)
    (hT1 : out ++ T0 = T1) (h : WpL P n m G false l.toArray (l.drop k) ⟨T1, O ++ (Oe ++ List.replicate ((List.range k).filter fun i => isPut ks i).length deadO)⟩ Q) : WpA P n m G (.region id l.toArray true) ⟨T0, O ++ Oi⟩ Q := fun a w hr => by
  subst hT1
  simp only [mixB, Bool.and_eq_true, decide_eq_true_eq, Bool.or_eq_true] at hB
  obtain ⟨⟨⟨hks, hback⟩, hsc⟩, hseq⟩ := hB
  have hkl : k ≤ l.length := by simpa using hks
  have htl : (l.take k).length = k := by simp; omega
  obtain ⟨r, s, hr1, hr2, hr3, hr4⟩ := hJ.pre
  have hlen : out.length = k := by rw [hr1]; simp [hr2]; omega
  have H : Heads l.toArray T0 out k := ⟨hlen, nodupB_spec hnd, fun p hp => by have := List.all_eq_true.1 hfr p hp; simpa using this, fun i hi o ho e he hb => by
    have h1 := List.all_eq_true.1 hback i (List.mem_range.2 hi)
    rw [ho] at h1
    have h2 := List.all_eq_true.1 h1 e (by simpa using he)
    simp only [Bool.or_eq_true, Bool.not_eq_true', decide_eq_true_eq] at h2
    rcases h2 with h2 | h2
    · rw [hb] at h2; cases h2
    · exact h2⟩
  have hJ' : ∀ {j : Nat} {o : Oper}, j < k → l.toArray[j]? = some o → ∃ d V f, o.dst = some d ∧ out[j]? = some (d, V) ∧ ks[j]? = some f ∧
      ∀ Tv Ov, Oi.length ≤ Ov.length → (∀ p ob, f.spot = some (p, ob) → Ov[p]? = Oi[p]?) → (∀ i f p ob, waits o i = true → (ks.take j)[i]? = some f → f.spot = some (p, ob) → Ov[p]? = some ob) → (∀ q, memB q keep = true → Ov[q]? = Oi[q]?) → WpL P n m G false l.toArray [o] ⟨deps (out.take j) o ++ (T0 ++ Tv), O ++ Ov⟩ (Only ⟨(d, V) :: (deps (out.take j) o ++ (T0 ++ Tv)), O ++ f.run Ov⟩) := by
    intro j o hj ho
    have ho' : (l.take k)[j]? = some o := by rw [List.getElem?_take, if_pos hj]; simpa using ho
    have := hJ.at rfl ho'
    simpa using this
  have inv0 : HeadInv .any l.toArray k (Array.replicate l.toArray.size false) :=
    ⟨by simp, fun j oj _ hl => (by rw [getD_replicate_false] at hl; cases hl), fun t _ ht => getD_in (by simpa using ht) (getD_replicate_false _ _)⟩
  have room0 : RoomAt ks Oi k (Array.replicate l.toArray.size false) Oi := by
    refine ⟨?_, fun i f p ob _ _ _ hl => (by rw [getD_replicate_false] at hl; cases hl), fun i f p ob _ _ _ _ => rfl, fun q _ _ => rfl, fun q h1 h2 => by omega⟩
    have : ((List.range k).filter fun i => (Array.replicate l.toArray.size false).getD i false && ((ks[i]?.map Fil.isPut).getD false)) = [] := by
      rw [List.filter_eq_nil_iff]; intro i _; rw [getD_replicate_false]; simp
    rw [this]; simp
  refine wp_region_any hm ?_
  have fin := any_order (P := P) (GP := GoodQ n m G T0 out O Oi k ks) (g := l.toArray.size - k) (Q := fun e a' w' => ∃ σ', Q e σ' ∧ Rel n m G σ' a' w') H hks (fun hk => hsc.resolve_left (by omega)) (fun inv _ hi hik _ _ hg _ hK => head_stepQ H hok hkp hJ' inv hi hik hg hK) (fun listed a w inv hall hg => by
    obtain ⟨T, Ov, hrT, hroom, h1, h2⟩ := hg
    have hOv : Ov = Oe ++ List.replicate ((List.range k).filter fun i => isPut ks i).length deadO := by
      have hcnt : ((List.range k).filter fun i => listed.getD i false && ((ks[i]?.map Fil.isPut).getD false)) = (List.range k).filter fun i => isPut ks i := by
        refine List.filter_congr fun i hi => ?_
        rw [hall i (List.mem_range.1 hi)]; rfl
      have hlen := hroom.len
      rw [hcnt] at hlen
      apply List.ext_getElem?
      intro q
      rcases Nat.lt_or_ge q Oi.length with hq | hq
      · rw [List.getElem?_append_left (by omega)]
        rcases hOe.2 q hq with ⟨i, f, ob, hi, hk, hsp, he⟩ | ⟨hno, he⟩
        · rw [hroom.full i f q ob hi hk hsp (hall i hi), he]
        · rw [hroom.rest q hq hno, he]
      · rcases Nat.lt_or_ge q Ov.length with h3 | h3
        · rw [hroom.dead q hq h3, List.getElem?_append_right (by omega), List.getElem?_replicate, if_pos (by omega)]
        · rw [List.getElem?_eq_none h3, List.getElem?_eq_none (by simp; omega)]
    subst hOv
    have hlist : listed = (Array.range l.toArray.size).map fun i => decide (i < k) := by
      apply Array.ext
      · simp [inv.size]
      · intro i hi1 hi2
        have hi : i < l.toArray.size := by rw [← inv.size]; exact hi1
        by_cases hik : i < k
        · have := hall i hik
          simp [hi1] at this
          simp [this, hik]
        · have := inv.tail i (by omega) hi
          simp [hi1] at this
          simp [this, hik]
    have hdl : (l.drop k).length = l.toArray.size - k := by simp
    rw [← hdl]
    refine wpAny_of_seq (l.drop k) k listed a w (fun j => by simp [List.getElem?_drop]) (by rw [hdl, hlist]; exact hseq) ?_
    refine h a w (hrT.relook fun t => ?_)
    rw [look_append]
    split
    · rename_i hh
      obtain ⟨i, hi, hi2⟩ := List.getElem_of_mem (has_look hh)
      have : out[i]? = some (t, look out t) := by rw [List.getElem?_eq_getElem hi, hi2]
      exact (h1 i _ _ this (hall i (by omega))).symm
    · rename_i hh
      exact (h2 t (by simpa using hh)).symm) k _ a w.drew inv0 (by
        have : ((List.range k).filter fun i => !(Array.replicate l.toArray.size false).getD i false) = List.range k := by
          rw [List.filter_eq_self]; intro i _; rw [getD_replicate_false]; rfl
        rw [this]; simp) ⟨T0, _, hr.drew, room0, ⟨fun i d V _ hl => (by rw [getD_replicate_false] at hl; cases hl), fun _ _ => rfl⟩⟩
  rw [show k + (l.toArray.size - k) = l.toArray.size by omega] at fin
  exact fin

theorem RelAt.room {n m G S ι F T O a w} (hr : RelAt n m G S ι F ⟨T, O⟩ a w) : RelAt n m G S (upd ι O.length none) (upd F O.length []) ⟨T, O ++ [roomO]⟩ a w := by
  have hlat : Later S w ι O S w (upd ι O.length none) (O ++ [roomO]) := by
    refine ⟨fun _ h => h, fun _ _ => rfl, fun id ob' h => ?_⟩
    have hlt : id < O.length := (List.getElem?_eq_some_iff.1 h).1
    exact ⟨ob', by rw [List.getElem?_append_left hlt]; exact h, .inr ⟨rfl, rfl, upd_other _ _ (by omega)⟩⟩
  refine ⟨hr.defers, hr.size, fun t' => (hr.tmps t').mono hlat (by simp), ⟨fun id ob' h => ?_, fun id h => ?_, fun i j hi hj hij b hb => ?_⟩, fun id h b hb => ?_, hr.base, hr.stable, hr.keeps, fun id h => ?_, ?_⟩
  · rcases getElem?_snoc O _ ob' id h with ⟨hlt, h⟩ | ⟨rfl, rfl⟩
    · rw [upd_other _ _ (by omega), upd_other _ _ (by omega)]
      have ho := hr.objs.obj id ob' h
      unfold ObjAt at ho ⊢
      cases hs : ι id with
      | none => rw [hs] at ho; exact ho
      | some p =>
        obtain ⟨b, k⟩ := p
        rw [hs] at ho
        obtain ⟨cur', t', fz', f', h1, h2, h3, h4, h5, h6, h7⟩ := ho
        exact ⟨cur', t', fz', f', h1, h2, h3, h4, h5, h6, h7.mono hlat fun _ _ => rfl⟩
    · rw [upd_same, upd_same]; exact ⟨rfl, rfl⟩
  · simp only [List.length_append, List.length_cons, List.length_nil] at h
    by_cases he : id = O.length
    · subst he; rw [upd_same]; simp
    · rw [upd_other _ _ he]; exact hr.objs.nodup id (by show id < O.length; omega)
  · simp only [List.length_append, List.length_cons, List.length_nil] at hi hj
    by_cases h1 : i = O.length
    · subst h1; rw [upd_same] at hb; simp at hb
    · rw [upd_other _ _ h1] at hb
      by_cases h2 : j = O.length
      · subst h2; rw [upd_same]; simp
      · rw [upd_other _ _ h2]; exact hr.objs.apart i j (by show i < O.length; omega) (by show j < O.length; omega) hij b hb
  · simp only [List.length_append, List.length_cons, List.length_nil] at h
    by_cases he : id = O.length
    · subst he; rw [upd_same] at hb; simp at hb
    · rw [upd_other _ _ he] at hb; exact hr.foot id (by show id < O.length; omega) b hb
  · have hm : m ≤ O.length := hr.mle
    rw [upd_other _ _ (by omega)]; exact hr.spots id h
  · have hm : m ≤ O.length := hr.mle
    show m ≤ (O ++ [_]).length
    simp; omega
theorem Weak.rooms {T : List (Nat × AV)} : ∀ (c : Nat) (O : List AObj), Weak m ⟨T, O⟩ ⟨T, O ++ List.replicate c roomO⟩
  | 0, O => by simp; exact fun n G a w h => h
  | c + 1, O => by
    have h1 : Weak m ⟨T, O⟩ ⟨T, O ++ [roomO]⟩ := by
      rintro n' G' a w ⟨S, ι, F, hr⟩
      exact ⟨S, _, _, hr.room⟩
    have h2 := Weak.rooms (T := T) c (O ++ [roomO])
    rw [List.append_assoc] at h2
    exact h1.trans h2
theorem cnt_some : ∀ (n k : Nat), cnt n k = some (n + k)
  | 0, k => by simp [cnt]
  | n + 1, k => by rw [cnt, cnt_some n (k + 1)]; congr 1; omega
theorem fill_eq (Ov : List AObj) {p : Nat} (x : AObj) : (O ++ Ov).set (O.length + p) x ++ [deadO] = O ++ (Ov.set p x ++ [deadO]) := by
  rw [List.set_append_right _ _ (by omega), Nat.add_sub_cancel_left, List.append_assoc]
theorem fill_at {Ov : List AObj} {p : Nat} {x : AObj} (h : Ov[p]? = some x) : (O ++ Ov)[O.length + p]? = some x := by
  rw [List.getElem?_append_right (by omega), Nat.add_sub_cancel_left]; exact h

theorem srcB_own {id ep len : Nat} {ob : AObj} (ho : O[id]? = some ob) (he : Nat.beq ob.ep ep = true) : srcB O (.own id ep 0 len) = some (ob.cells, len) := by
  simp only [srcB, ho, he]
theorem step_eq (Ov : List AObj) {p : Nat} (x : AObj) : (O ++ Ov).set (O.length + p) x = O ++ Ov.set p x := by
  rw [List.set_append_right _ _ (by omega), Nat.add_sub_cancel_left]
/-- What was made last is laid into its place. -/
theorem WpL.putNil {T : List (Nat × AV)} {Ov : List AObj} {p d off len : Nat} {ob : AObj} (hp : Ov[p]? = some roomO) (hm : m ≤ O.length + p) (hob : ob.ep = 0) (hst : ob.cells.all AV.still = true) :
    WpL P n m G false ops [] ⟨(d, .own (O ++ Ov).length 0 off len) :: T, O ++ Ov ++ [ob]⟩ (Only ⟨(d, .own (O.length + p) 1 off len) :: T, O ++ (Fil.put p ob.put1).run Ov⟩) := by
  refine WpL.weak (Weak.fill (j := O.length + p) (fill_at hp) hm rfl hob hst) ?_
  refine WpL.nil (Only.mk ?_)
  rw [fill_eq]; rfl
/-- What the places hold in the end. -/
def fillAll : List Fil → List AObj → List AObj
  | [], Oi => Oi
  | f :: ks, Oi => fillAll ks (match f.spot with | some (p, ob) => Oi.set p ob | none => Oi)
def spots : List Fil → List Nat
  | [] => []
  | f :: ks => match f.spot with | some (p, _) => p :: spots ks | none => spots ks
def spotsB (c : Nat) : List Nat → Bool
  | [] => true
  | p :: l => Nat.blt p c && !memB p l && spotsB c l
theorem memB_false {p : Nat} : ∀ {l : List Nat}, memB p l = false → p ∉ l
  | [], _ => by simp
  | q :: l, h => by
    rw [memB, Bool.or_eq_false_iff] at h
    have h2 := memB_false h.2
    have h1 : p ≠ q := by rintro rfl; have := h.1; simp at this
    simp [h1, h2]
theorem mem_spots : ∀ {ks : List Fil} {i : Nat} {f : Fil} {p : Nat} {ob : AObj}, ks[i]? = some f → f.spot = some (p, ob) → p ∈ spots ks
  | [], i, f, p, ob, h, _ => by simp at h
  | g :: ks, 0, f, p, ob, h, hs => by simp at h; subst h; unfold spots; rw [hs]; simp
  | g :: ks, i + 1, f, p, ob, h, hs => by
    have := mem_spots (ks := ks) (i := i) (by simpa using h) hs
    unfold spots; split
    · exact List.mem_cons_of_mem _ this
    · exact this
theorem fillAll_len : ∀ (ks : List Fil) (Oi : List AObj), (fillAll ks Oi).length = Oi.length
  | [], _ => rfl
  | f :: ks, Oi => by rw [fillAll, fillAll_len ks]; split <;> simp
theorem fillAll_no : ∀ (ks : List Fil) (Oi : List AObj) (q : Nat), q ∉ spots ks → (fillAll ks Oi)[q]? = Oi[q]?
  | [], _, _, _ => rfl
  | f :: ks, Oi, q, h => by
    unfold spots at h
    rw [fillAll]
    split
    · rename_i p ob hs
      rw [hs] at h
      simp only [List.mem_cons, not_or] at h
      rw [fillAll_no ks _ q h.2, List.getElem?_set, if_neg (fun e => h.1 e.symm)]
    · rename_i hs
      rw [hs] at h
      exact fillAll_no ks _ q h
theorem fillAll_at : ∀ (ks : List Fil) (Oi : List AObj) (q : Nat), spotsB Oi.length (spots ks) = true → q ∈ spots ks → ∃ i f ob, i < ks.length ∧ ks[i]? = some f ∧ f.spot = some (q, ob) ∧ (fillAll ks Oi)[q]? = some ob
  | [], _, _, _, h => by simp [spots] at h
  | f :: ks, Oi, q, hB, h => by
    rw [fillAll]
    unfold spots at h hB
    cases hs : f.spot with
    | none =>
      rw [hs] at h hB
      obtain ⟨i, g, ob, h1, h2, h3, h4⟩ := fillAll_at ks Oi q hB h
      exact ⟨i + 1, g, ob, by simpa using h1, by simpa using h2, h3, h4⟩
    | some x =>
      obtain ⟨p, ob⟩ := x
      rw [hs] at h hB
      simp only [spotsB, Bool.and_eq_true, Bool.not_eq_true'] at hB
      have hno := memB_false hB.1.2
      have hpl : p < Oi.length := Nat.le_of_ble_eq_true hB.1.1
      rcases List.mem_cons.1 h with rfl | h
      · exact ⟨0, f, ob, by simp, by simp, hs, by rw [fillAll_no ks _ q hno, List.getElem?_set_self hpl]⟩
      · obtain ⟨i, g, oc, h1, h2, h3, h4⟩ := fillAll_at ks (Oi.set p ob) q (by simpa using hB.2) h
        exact ⟨i + 1, g, oc, by simpa using h1, by simpa using h2, h3, h4⟩
theorem spots_lt : ∀ {l : List Nat} {c : Nat}, spotsB c l = true → ∀ p ∈ l, p < c
  | [], _, _, p, h => by cases h
  | q :: l, c, hB, p, h => by
    simp only [spotsB, Bool.and_eq_true, Bool.not_eq_true'] at hB
    rcases List.mem_cons.1 h with rfl | h
    · exact Nat.le_of_ble_eq_true hB.1.1
    · exact spots_lt hB.2 p h
theorem spots_inj : ∀ {ks : List Fil} {c i j : Nat} {f g : Fil} {p : Nat} {ob oc : AObj}, spotsB c (spots ks) = true → ks[i]? = some f → ks[j]? = some g → f.spot = some (p, ob) → g.spot = some (p, oc) → i = j
  | [], c, i, j, f, g, p, ob, oc, _, h, _, _, _ => by simp at h
  | x :: ks, c, i, j, f, g, p, ob, oc, hB, hi, hj, hf, hg => by
    unfold spots at hB
    cases i with
    | zero =>
      simp at hi; subst hi
      cases j with
      | zero => rfl
      | succ j =>
        rw [hf] at hB
        simp only [spotsB, Bool.and_eq_true, Bool.not_eq_true'] at hB
        exact absurd (mem_spots (ks := ks) (i := j) (by simpa using hj) hg) (memB_false hB.1.2)
    | succ i =>
      cases j with
      | zero =>
        simp at hj; subst hj
        rw [hg] at hB
        simp only [spotsB, Bool.and_eq_true, Bool.not_eq_true'] at hB
        exact absurd (mem_spots (ks := ks) (i := i) (by simpa using hi) hf) (memB_false hB.1.2)
      | succ j =>
        have hB' : spotsB c (spots ks) = true := by
          cases hx : x.spot with
          | none => rw [hx] at hB; exact hB
          | some y => rw [hx] at hB; simp only [spotsB, Bool.and_eq_true] at hB; exact hB.2
        have e : i = j := spots_inj (ks := ks) (c := c) (i := i) (j := j) hB' (by simpa using hi) (by simpa using hj) hf hg
        rw [e]
theorem roomOk_of {ks : List Fil} {c k : Nat} (h : spotsB c (spots ks) = true) : RoomOk ks c k :=
  ⟨fun i f p ob _ hk hs => spots_lt h p (mem_spots hk hs), fun i j f g p q ob oc _ _ hi hj hf hg e => by subst e; exact spots_inj h hi hj hf hg⟩

theorem split2 {Ov : List AObj} {x : AObj} (h : Ov[1]? = some x) : ∃ A Ov', Ov = A :: x :: Ov' := by
  match Ov, h with
  | [], h => simp at h
  | [_], h => simp at h
  | A :: y :: R, h => simp at h; exact ⟨A, R, by rw [h]⟩
def keepB (c : Nat) (sp : List Nat) : List Nat → Bool
  | [] => true
  | q :: l => Nat.blt q c && !memB q sp && keepB c sp l
theorem keepB_of {c k : Nat} {ks : List Fil} : ∀ {l : List Nat}, keepB c (spots ks) l = true → ∀ {q}, memB q l = true → q < c ∧ ∀ i f p ob, i < k → ks[i]? = some f → f.spot = some (p, ob) → p ≠ q
  | [], _, q, h => by cases h
  | x :: l, hB, q, h => by
    simp only [keepB, Bool.and_eq_true, Bool.not_eq_true'] at hB
    rw [memB, Bool.or_eq_true] at h
    rcases h with h | h
    · have := Nat.eq_of_beq_eq_true h
      subst this
      exact ⟨Nat.le_of_ble_eq_true hB.1.1, fun i f p ob _ hk hs e => by subst e; exact memB_false hB.1.2 (mem_spots hk hs)⟩
    · exact keepB_of hB.2 h
theorem HeadQ.consF {fs fs2 out : List (Nat × AV)} {gs gs2 : List Fil} {o : Oper} {l : List Oper} {d : Nat} {V : AV} {F : List (Nat × AV)} {ks : List Fil} (k : Fil) (hd : o.dst = some d) (hF : depsF fs o.after.toList = some F)
    (h : ∀ Tv Ov, Oi.length ≤ Ov.length → (∀ p ob, k.spot = some (p, ob) → Ov[p]? = Oi[p]?) → (∀ j f p ob, waits o j = true → gs[j]? = some f → f.spot = some (p, ob) → Ov[p]? = some ob) → (∀ q, memB q keep = true → Ov[q]? = Oi[q]?) → WpL P n m G false ops [o] ⟨F ++ (T0 ++ Tv), O ++ Ov⟩ (Only ⟨(d, V) :: (F ++ (T0 ++ Tv)), O ++ k.run Ov⟩)) (hs : catF fs [(d, V)] = some fs2) (hg : catF gs [k] = some gs2) (r : HeadQ P n m G ops T0 O Oi keep fs2 gs2 l out ks) : HeadQ P n m G ops T0 O Oi keep fs gs (o :: l) out ks := by
  have := catF_eq hs; subst this; have := catF_eq hg; subst this
  exact .cons k hd (depsF_eq hF) h r
/-- A region whose operations make objects in any order, or turn one of Or each: c places stand ready for what is made. -/
theorem WpA.regionQF {l l1 l2 : List Oper} {id : Nat} {out T1 : List (Nat × AV)} {ks : List Fil} {Of Or O1 : List AObj} {Q : Exit → St → Prop} (k c : Nat) (keep : List Nat) (hO0 : Of = O ++ Or) (hm : P.follows .mixedOrders = true) (hB : mixB l.toArray k = true)
    (hl : takeF k l = some l1) (hJ : HeadQ P n m G l.toArray T0 O (Or ++ List.replicate c roomO) keep [] [] l1 out ks) (hok : spotsB (Or.length + c) (spots ks) = true) (hkp : keepB (Or.length + c) (spots ks) keep = true) (hnd : nodupB (out.map (·.1)) = true) (hfr : (out.all fun p => !has T0 p.1) = true)
    (hT1 : catF out T0 = some T1) (h2 : l.drop k = l2) (hO : O ++ (fillAll ks (Or ++ List.replicate c roomO) ++ List.replicate ((List.range k).filter fun i => isPut ks i).length deadO) = O1) (h : WpL P n m G false l.toArray l2 ⟨T1, O1⟩ Q) : WpA P n m G (.region id l.toArray true) ⟨T0, Of⟩ Q := by
  have := takeF_eq hl; subst this; subst h2; subst hO; subst hO0
  have hc : (Or ++ List.replicate c roomO).length = Or.length + c := by simp
  have hkl : ks.length ≤ k := by
    obtain ⟨_, s, _, _, h3, h4⟩ := hJ.pre
    rw [h3]; simp [h4]; omega
  have hk2 : k ≤ l.length := by
    simp only [mixB, Bool.and_eq_true, decide_eq_true_eq] at hB
    simpa using hB.1.1.1
  have hB2 : spotsB (Or ++ List.replicate c roomO).length (spots ks) = true := by rw [hc]; exact hok
  have hw := WpA.regionQ (Q := Q) (id := id) k (fillAll ks (Or ++ List.replicate c roomO)) hm hB hJ (roomOk_of hB2) (fun q hq => by rw [hc]; exact keepB_of hkp hq) ⟨fillAll_len _ _, fun q hq => by
    by_cases hq2 : q ∈ spots ks
    · obtain ⟨i, f, ob, h1, h2, h3, h4⟩ := fillAll_at ks _ q hB2 hq2
      exact .inl ⟨i, f, ob, by omega, h2, h3, h4⟩
    · exact .inr ⟨fun i f p ob _ hk hs e => by subst e; exact hq2 (mem_spots hk hs), fillAll_no ks _ q hq2⟩⟩ hnd hfr (catF_eq hT1) h
  have hr := Weak.rooms (m := m) (T := T0) c (O ++ Or)
  rw [List.append_assoc] at hr
  exact WpA.weak hr hw
def catO : List AObj → List AObj → List AObj
  | [], B => B
  | a :: A, B => a :: catO A B
theorem catO_eq : ∀ A B : List AObj, catO A B = A ++ B
  | [], B => rfl
  | a :: A, B => by rw [catO, catO_eq A B]; rfl
theorem WpA.regionQ0 {l l1 l2 : List Oper} {id : Nat} {out T1 : List (Nat × AV)} {ks : List Fil} {O1 : List AObj} {Q : Exit → St → Prop} (k c : Nat) (hm : P.follows .mixedOrders = true) (hB : mixB l.toArray k = true)
    (hl : takeF k l = some l1) (hJ : HeadQ P n m G l.toArray T0 O (List.replicate c roomO) [] [] [] l1 out ks) (hok : spotsB c (spots ks) = true) (hnd : nodupB (out.map (·.1)) = true) (hfr : (out.all fun p => !has T0 p.1) = true)
    (hT1 : catF out T0 = some T1) (h2 : l.drop k = l2) (hO : catO O (catO (fillAll ks (List.replicate c roomO)) (List.replicate ((List.range k).filter fun i => isPut ks i).length deadO)) = O1) (h : WpL P n m G false l.toArray l2 ⟨T1, O1⟩ Q) : WpA P n m G (.region id l.toArray true) ⟨T0, O⟩ Q :=
  WpA.regionQF (O := O) (Or := []) (Of := O) k c [] (List.append_nil _).symm hm hB hl (by simpa using hJ) (by simpa using hok) rfl hnd hfr hT1 h2 (by rw [catO_eq, catO_eq] at hO; exact hO) h
/-- Cells that are slices of numbers. -/
inductive ToLis : List AV → List (List Int) → Prop
  | nil : ToLis [] []
  | cons {len cs v r rs} (hv : cs = ints v) (hl : len = v.length) (t : ToLis r rs) : ToLis (.fre 1 len cs :: r) (v :: rs)
theorem ToLis.eq {cs : List AV} {M : List (List Int)} (h : ToLis cs M) : cs = rows liF M := by
  induction h with
  | nil => rfl
  | cons hv hl _ ih => subst hv hl; rw [ih, rows_cons]; rfl
/-- Slices of numbers laid into a slice of slices that has been written out. -/
theorem WpL.nestLis {T : List (Nat × AV)} {l : List Oper} {Q : Exit → St → Prop} {id : Nat} {cs2 : List AV} {te : Option TypeId} {O O2 O3 : List AObj} {M : List (List Int)} (offs : List Nat) (hw : NestC m id offs O O2) (h2 : O2[id]? = some ⟨cs2, 0, 1, te⟩) (hM : ToLis cs2 M)
    (h3 : O2.set id ⟨rows liF M, 0, 1, te⟩ = O3) (h : WpL P n m G false ops l ⟨T, O3⟩ Q) : WpL P n m G false ops l ⟨T, O⟩ Q := by
  refine WpL.weak hw.weak ?_
  have e1 := hM.eq
  have e2 : O2.set id ⟨rows liF M, 0, 1, te⟩ = O2 := by
    rw [← e1]
    apply List.ext_getElem?
    intro i
    by_cases hi : i = id
    · subst hi; rw [List.getElem?_set_self (List.getElem?_eq_some_iff.1 h2).1, h2]
    · rw [List.getElem?_set_ne (by omega)]
  rw [e2] at h3; subst h3; exact h
end
end Go.Abs

/- Contracts: exponential Golomb codes, their lengths, numbers of levels, flags. No condition. -/
namespace Go.Proofs.Ytgbahnaejajdgaa
open Go Go.Abs
set_option linter.unusedVariables false
set_option linter.unusedSimpArgs false
set_option maxRecDepth 100000
set_option maxHeartbeats 4000000
attribute [local irreducible] WpA WpL Rnd Blk Abs.Seq Abs.Fin Abs.FinG FnC FnG Only

def nolL (v : Int) : Int := if v > 0 then 2 * v - 2 else if v < 0 then -2 * v - 1 else -1
theorem lg_lo (x : Nat) (h : 0 < x) : 2 ^ Nat.log2 x ≤ x := Nat.log2_self_le (by omega)
theorem lg_hi (x : Nat) : x < 2 ^ (Nat.log2 x + 1) := Nat.lt_log2_self
theorem lg_lt {x z : Nat} (hz : z < Nat.log2 x) (h : 0 < x) : x / 2 ^ (z + 1) ≠ 0 := by
  have h1 := lg_lo x h
  have h2 : 2 ^ (z + 1) ≤ 2 ^ Nat.log2 x := Nat.pow_le_pow_right (by decide) hz
  have := Nat.div_pos (Nat.le_trans h2 h1) (Nat.pow_pos (by decide))
  omega
theorem lg_end (x : Nat) : x / 2 ^ (Nat.log2 x + 1) = 0 := Nat.div_eq_of_lt (lg_hi x)
theorem lg_16 {x : Nat} (h0 : 0 < x) (h : x ≤ 65535) : Nat.log2 x ≤ 15 := by
  rcases Nat.lt_or_ge (Nat.log2 x) 16 with h1 | h1
  · omega
  · have := lg_lo x h0
    have : 2 ^ 16 ≤ 2 ^ Nat.log2 x := Nat.pow_le_pow_right (by decide) h1
    omega
instance l6Zeros_s : Con 190 (∀ n : Nat, n ≤ 65534 → Fn 190 [I n] [] (I (Nat.log2 (n + 1)))) := ⟨fun n hn => by
  have h16 := lg_16 (x := n + 1) (by omega) (by omega)
  have hend := lg_end (n + 1)
  refine FnC.of_body tabOk Try.func190 Try.ntmps190 rfl (by decide +kernel) (by simp) fun G => ?_
  refine go (r := ?_); and_intros <;> intros <;> try exact True.intro
  refine WpA.loop (fun z : Nat => ⟨[(0, I n), (3, I z)], []⟩) (fun z => z ≤ Nat.log2 (n + 1)) (fun z => 16 - z) 0 (by omega) (go (r := ?_)) (fun z hz => ?_)
  · trivial
  have hlt := fun h => lg_lt (x := n + 1) (z := z) h (by omega)
  have hc : ((n : Int) + 1) / 2 ^ ((z : Int) + 1).toNat = (((n + 1) / 2 ^ (z + 1) : Nat) : Int) := by
    rw [show ((z : Int) + 1).toNat = z + 1 by omega]; push_cast; rfl
  rcases Nat.lt_or_ge z (Nat.log2 (n + 1)) with hz2 | hz2
  · have hlt := hlt hz2
    refine go (r := ?_); and_intros <;> intros <;> try exact True.intro
  · have e : z = Nat.log2 (n + 1) := by omega
    refine go (r := ?_); and_intros <;> intros <;> try exact True.intro
    rename_i hg; rw [hc, e, hend] at hg; exact absurd rfl hg⟩
/-- The bits of a number's code. -/
def ueL (n : Int) : List Int := if 0 ≤ n ∧ n ≤ 65534 then List.replicate (Nat.log2 (n.toNat + 1)) 0 ++ bitsL (n + 1) (Nat.log2 (n.toNat + 1) + 1) else []
theorem ueL_len (n : Int) : (ueL n).length ≤ 64 := by
  unfold ueL; split
  · rename_i h
    have h1 := lg_16 (x := n.toNat + 1) (by omega) (by omega)
    have h2 := bitsL_len (n + 1) ((Nat.log2 (n.toNat + 1) : Nat) + 1)
    simp only [List.length_append, List.length_replicate]; omega
  · simp
theorem bitOk_ue {n : Nat} (w : Nat) (h : n ≤ 65534) (hw : Nat.log2 (n + 1) + 1 ≤ w) (hw2 : w ≤ 48) : bitOk ((n : Int) + 1) w := by
  refine ⟨by omega, by omega, ?_⟩
  have h1 := lg_hi (n + 1)
  have h2 : 2 ^ (Nat.log2 (n + 1) + 1) ≤ 2 ^ w := Nat.pow_le_pow_right (by decide) hw
  have h3 : (n + 1) / 2 ^ w = 0 := Nat.div_eq_of_lt (by omega)
  have h4 : (((n + 1) / 2 ^ w : Nat) : Int) = 0 := by rw [h3]; rfl
  rw [Int.toNat_natCast]; push_cast at h4; exact h4
/-- A number's bits, written wider than it needs: zeros go ahead. -/
theorem bits_wide {n : Nat} {z : Nat} (h : n ≤ 65534) (hz : z = Nat.log2 (n + 1)) : bitsL ((n : Int) + 1) ((2 * z + 1 : Nat) : Int) = List.replicate z 0 ++ bitsL ((n : Int) + 1) ((z + 1 : Nat) : Int) := by
  have h16 := lg_16 (x := n + 1) (by omega) (by omega)
  have o1 := bitOk_ue (n := n) (2 * z + 1) h (by omega) (by omega)
  have o2 := bitOk_ue (n := n) (z + 1) h (by omega) (by omega)
  rw [bitsL, if_pos o1, bitsL, if_pos o2, Int.toNat_natCast, Int.toNat_natCast]
  apply List.ext_getElem?
  intro q
  rcases Nat.lt_or_ge q z with hq | hq
  · rw [List.getElem?_append_left (by simpa using hq), List.getElem?_replicate, if_pos hq]
    unfold bitsR
    rw [List.getElem?_map, List.getElem?_range (by omega)]
    simp only [Option.map_some]
    congr 1
    have h5 : (n + 1) / 2 ^ (2 * z + 1 - 1 - q) = 0 := Nat.div_eq_of_lt (by
      have h1 := lg_hi (n + 1)
      have h2 : 2 ^ (Nat.log2 (n + 1) + 1) ≤ 2 ^ (2 * z + 1 - 1 - q) := Nat.pow_le_pow_right (by decide) (by omega)
      omega)
    have h6 : (((n + 1) / 2 ^ (2 * z + 1 - 1 - q) : Nat) : Int) = 0 := by rw [h5]; rfl
    have h7 : ((n : Int) + 1) / 2 ^ (2 * z + 1 - 1 - q) = 0 := by
      have e : (((n + 1) / 2 ^ (2 * z + 1 - 1 - q) : Nat) : Int) = ((n : Int) + 1) / 2 ^ (2 * z + 1 - 1 - q) := by rw [Int.natCast_ediv, Int.natCast_add, Int.natCast_pow]; rfl
      rw [← e]; exact h6
    rw [h7]; rfl
  · rw [List.getElem?_append_right (by simpa using hq), List.length_replicate]
    unfold bitsR
    rcases Nat.lt_or_ge q (2 * z + 1) with hq2 | hq2
    · rw [List.getElem?_map, List.getElem?_range (by omega), List.getElem?_map, List.getElem?_range (by omega)]
      simp only [Option.map_some]
      congr 4; omega
    · rw [List.getElem?_eq_none (by simpa using hq2), List.getElem?_eq_none (by simp; omega)]
theorem ueL_wide {n : Nat} (h : n ≤ 65534) : bitsL ((n : Int) + 1) ((2 * Nat.log2 (n + 1) + 1 : Nat) : Int) = ueL n := by
  rw [bits_wide h rfl, ueL, if_pos ⟨by omega, by omega⟩]
  simp
/-! Lengths by table. -/
def lenL (x : Int) : Int := if x = 0 then 0 else (Nat.log2 x.toNat : Int) + 1
theorem lenL_bd {x : Int} (h : 0 ≤ x ∧ x ≤ 65535) : 0 ≤ lenL x ∧ lenL x ≤ 16 := by
  unfold lenL; split
  · omega
  · have := lg_16 (x := x.toNat) (by omega) (by omega); omega
theorem u64_in {x : Int} (h : 0 ≤ x ∧ x ≤ 65535) : IntKind.u64.wrap x = x := by
  have key : IntKind.u64.wrap x = x % 18446744073709551616 := rfl
  rw [key]; omega
theorem u8_in {x : Int} (h : 0 ≤ x ∧ x ≤ 255) : IntKind.u8.wrap x = x := by
  have key : IntKind.u8.wrap x = x % 256 := rfl
  rw [key]; omega
def lenT : List UInt8 := (List.range 256).map fun i => UInt8.ofNat (if i = 0 then 0 else Nat.log2 i + 1)
theorem lenT_len : lenT.length = 256 := by simp [lenT]
theorem lenT_at {x : Int} (h : 0 ≤ x ∧ x ≤ 255) : ((lenT.getD x.toNat 0).toNat : Int) = lenL x := by
  have key : ∀ k : Fin 256, ((lenT.getD (k.val : Int).toNat 0).toNat : Int) = lenL k.val := by decide +kernel
  obtain ⟨k, rfl⟩ : ∃ k : Nat, x = k := ⟨x.toNat, by omega⟩
  exact key ⟨k, by omega⟩
theorem lenL_hi {x : Int} (h : 256 ≤ x ∧ x ≤ 65535) : lenL x = 8 + lenL (x / 256) := by
  unfold lenL
  rw [if_neg (by omega), if_neg (by omega)]
  obtain ⟨k, rfl⟩ : ∃ k : Nat, x = k := ⟨x.toNat, by omega⟩
  have e : ((k : Int) / 256).toNat = k / 256 := by omega
  rw [e, Int.toNat_natCast]
  have h1 : Nat.log2 k = Nat.log2 (k / 2) + 1 := by rw [Nat.log2_def, if_pos (by omega)]
  have e2 : ∀ j n : Nat, 256 ≤ j * n → 1 < n → n ≤ 256 → True := fun _ _ _ _ _ => trivial
  have st : ∀ n : Nat, 2 ≤ n → Nat.log2 n = Nat.log2 (n / 2) + 1 := fun n hn => by rw [Nat.log2_def, if_pos hn]
  rw [st k (by omega), st (k / 2) (by omega), st (k / 2 / 2) (by omega), st (k / 2 / 2 / 2) (by omega), st (k / 2 / 2 / 2 / 2) (by omega), st (k / 2 / 2 / 2 / 2 / 2) (by omega), st (k / 2 / 2 / 2 / 2 / 2 / 2) (by omega), st (k / 2 / 2 / 2 / 2 / 2 / 2 / 2) (by omega)]
  have e3 : k / 2 / 2 / 2 / 2 / 2 / 2 / 2 / 2 = k / 256 := by omega
  rw [e3]; omega
end Go.Proofs.Ytgbahnaejajdgaa

/- Contracts: bits of a text, readers, numbers behind zeros, symbols. No condition. -/
namespace Go.Proofs.Ytgbahnaejajdgaa
open Go Go.Abs
set_option linter.unusedVariables false
set_option linter.unusedSimpArgs false
set_option maxRecDepth 100000
set_option maxHeartbeats 4000000
attribute [local irreducible] WpA WpL Rnd Blk Abs.Seq Abs.Fin Abs.FinG FnC FnG Only

theorem shr8_in (x : UInt8) (k : Nat) : IntKind.i64.wrap ((x.toNat : Int) / 2 ^ k) = (x.toNat : Int) / 2 ^ k := by
  have h1 : (x.toNat : Int) / 2 ^ k ≤ x.toNat := Int.ediv_le_self _ (by omega)
  have h2 : 0 ≤ (x.toNat : Int) / 2 ^ k := Int.ediv_nonneg (by omega) (Int.pow_nonneg (by decide))
  have := x.toNat_lt
  exact wrap64 _ (by omega)
instance BitAt_c : Con 133 (∀ (p : List UInt8) (i : Int), p.length ≤ 1099511627776 → Fn 133 [Z p, I i] [] (I (btA p i))) := ⟨fun p i hl => by
  refine FnC.of_body tabOk Try.func133 Try.ntmps133 rfl (by decide +kernel) (by simp) fun G => ?_
  refine go (r := ?_); and_intros <;> intros <;> try exact True.intro
  · rw [btA, if_pos (by omega)]
  · rw [btA, if_pos (by omega)]
  · rw [btA, if_neg (by omega), bit1, shr8_in]⟩
instance BitAt_s : Con 112 (∀ (p : List UInt8) (i : Int), p.length ≤ 1099511627776 → Fn 112 [Z p, I i] [] (I (btA p i))) := ⟨fun p i hl => by
  refine FnC.of_body tabOk Try.func112 Try.ntmps112 rfl (by decide +kernel) (by simp) fun G => ?_
  refine go (r := ?_); and_intros <;> intros <;> try exact True.intro
  · rw [btA, if_pos (by omega)]
  · rw [btA, if_pos (by omega)]
  · have := (p.getD (i / 8).toNat 0).toNat_lt
    rw [btA, if_neg (by omega), bit1]⟩
abbrev RA (p : List UInt8) (s : Int) : AV := .agg [Z p, I s]
theorem or1 (x b : Int) (h : 0 ≤ x ∧ x < 2 ^ 61) (hb : 0 ≤ b ∧ b ≤ 1) : IntKind.i64.wrap ((BitVec.ofInt IntKind.i64.bits (IntKind.i64.wrap (x * 2 ^ Int.toNat 1)) ||| BitVec.ofInt IntKind.i64.bits b).toNat : Nat) = x * 2 + b := by
  have e0 : x * 2 ^ Int.toNat 1 = x * 2 := rfl
  rw [e0, wrap64 (x * 2) (by omega)]
  obtain ⟨a, rfl⟩ : ∃ a : Nat, x = a := ⟨x.toNat, by omega⟩
  obtain ⟨c, rfl⟩ : ∃ c : Nat, b = c := ⟨b.toNat, by omega⟩
  have h1 : (BitVec.ofInt IntKind.i64.bits ((a : Int) * 2)).toNat = 2 * a := by simp only [IntKind.bits, BitVec.toNat_ofInt]; omega
  have h2 : (BitVec.ofInt IntKind.i64.bits (c : Int)).toNat = c := by simp only [IntKind.bits, BitVec.toNat_ofInt]; omega
  rw [BitVec.toNat_or, h1, h2]
  have h3 := Nat.two_pow_add_eq_or_of_lt (i := 1) (b := c) (by omega) a
  rw [show 2 * a = 2 ^ 1 * a by omega, ← h3, wrap64 _ (by omega)]
  omega
instance bits_c : Con 119 (∀ (p : List UInt8) (s n : Int), p.length ≤ 1099511627776 ∧ (-1125899906842624 ≤ s ∧ s ≤ 1125899906842624) ∧ 0 ≤ n ∧ n ≤ 56 → Fn 119 [Z p, I s, I n] [] (I (numB p s n.toNat))) := ⟨fun p s n hl => by
  obtain ⟨N, rfl⟩ : ∃ N : Nat, n = N := ⟨n.toNat, by omega⟩
  refine FnC.of_body tabOk Try.func119 Try.ntmps119 rfl (by decide +kernel) (by simp) fun G => ?_
  refine go (r := ?_); and_intros <;> intros <;> try exact True.intro
  refine WpA.loop (fun k : Nat => ⟨[(0, Z p), (1, I s), (7, I (numB p s k)), (9, I N), (10, I k)], []⟩) (fun k => k ≤ N) (fun k => N - k) 0 (by omega) (go (r := ?_)) (fun k hk => ?_)
  · trivial
  have hb := numB_bd p s k
  have hb2 := numB_le p s (k := k) (j := 60) (by omega)
  have h1 := or1 (numB p s k) (max (btA p (s + k)) 0) (by omega) (bv_bd p (s + k))
  have h2 : numB p s (k + 1) = numB p s k * 2 + max (btA p (s + k)) 0 := rfl
  refine go (r := ?_); and_intros <;> intros <;> try exact True.intro
  all_goals first | (rw [h2, ← h1]; done) | (have e : k = N := by omega); (first | (rw [e, Int.toNat_natCast]; done) | (subst e; rfl)) | trace_state⟩
abbrev BoxR (p : List UInt8) (s : Int) : AObj := ⟨[Z p, I s], 0, 0, none⟩
instance ReaderOk_c : Con 184 (∀ (p : List UInt8) (s : Int), p.length ≤ 1099511627776 → Fn 184 [RA p s] [] (B (decide (RdOk p s)))) := ⟨fun p s hl => by
  refine FnC.of_body tabOk Try.func184 Try.ntmps184 rfl (by decide +kernel) (by simp) fun G => ?_
  refine go (r := ?_); and_intros <;> intros <;> try exact True.intro⟩
instance ReaderOk_s : Con 165 (∀ (p : List UInt8) (s : Int), p.length ≤ 1099511627776 → Fn 165 [RA p s] [] (B (decide (RdOk p s)))) := ⟨fun p s hl => by
  refine FnC.of_body tabOk Try.func165 Try.ntmps165 rfl (by decide +kernel) (by simp) fun G => ?_
  refine go (r := ?_); and_intros <;> intros <;> try exact True.intro⟩
instance Left_c : Con 180 (∀ (p : List UInt8) (s : Int), p.length ≤ 1099511627776 → Fn 180 [RA p s] [] (I (lft p s))) := ⟨fun p s hl => by
  refine FnC.of_body tabOk Try.func180 Try.ntmps180 rfl (by decide +kernel) (by simp) fun G => ?_
  refine go (r := ?_); and_intros <;> intros <;> try exact True.intro
  all_goals first | (rw [lft_no (by assumption)]; done) | (rw [lft_ok (by assumption)]; done) | trace_state⟩
instance Left_s : Con 166 (∀ (p : List UInt8) (s : Int), p.length ≤ 1099511627776 → Fn 166 [RA p s] [] (I (lft p s))) := ⟨fun p s hl => by
  refine FnC.of_body tabOk Try.func166 Try.ntmps166 rfl (by decide +kernel) (by simp) fun G => ?_
  refine go (r := ?_); and_intros <;> intros <;> try exact True.intro
  all_goals first | (rw [lft_no (by assumption)]; done) | (rw [lft_ok (by assumption)]; done) | trace_state⟩
instance ReadBits_c : Con 142 (∀ (p : List UInt8) (s n : Int), p.length ≤ 1099511627776 → Fn 142 [RA p s, I n] [] (.tup [RA p (rbA p s n), I (rbV p s n), B (decide (RbOk p s n))])) := ⟨fun p s n hl => by
  have hb := lft_bd p s
  refine FnC.of_body tabOk Try.func142 Try.ntmps142 rfl (by decide +kernel) (by simp) fun G => ?_
  by_cases hok : RbOk p s n
  · obtain ⟨e1, e2⟩ := rb_yes hok
    obtain ⟨h1, h2, h3⟩ := id hok
    refine go (r := ?_); and_intros <;> intros <;> try exact True.intro
    all_goals first | (exact absurd (by assumption) (by assumption)) | (rw [e1]; done) | (rw [e2]; done) | (simp [hok]; done) | (exfalso; omega) | trace_state
  · obtain ⟨e1, e2⟩ := rb_no hok
    refine go (r := ?_); and_intros <;> intros <;> try exact True.intro
    all_goals first | (exact absurd ⟨by assumption, by assumption, by omega⟩ hok) | (rw [e1]; done) | (rw [e2]; done) | (simp [hok]; done) | trace_state⟩
instance ReadBits_s : Con 114 (∀ (p : List UInt8) (s n : Int), p.length ≤ 1099511627776 → Fn 114 [RA p s, I n] [] (.tup [RA p (rbA p s n), I (rbV p s n), B (decide (RbOk p s n))])) := ⟨fun p s n hl => by
  have hb := lft_bd p s
  refine FnC.of_body tabOk Try.func114 Try.ntmps114 rfl (by decide +kernel) (by simp) fun G => ?_
  by_cases hok : RbOk p s n
  · obtain ⟨e1, e2⟩ := rb_yes hok
    obtain ⟨h1, h2, h3⟩ := id hok
    have hlo := lft_ok h1
    obtain ⟨N, rfl⟩ : ∃ N : Nat, n = N := ⟨n.toNat, by omega⟩
    refine go (r := ?_); and_intros <;> intros <;> try exact True.intro
    all_goals first | (exact absurd (by assumption) (by assumption)) | (exfalso; omega) | skip
    refine WpA.loop (fun k : Nat => ⟨[(1, I N), (2, .ptr 0 0 0), (4, .ptr 1 0 0), (7, I (numB p s k)), (8, I k)], [BoxR p s, ⟨[Z [], I 0], 0, 0, none⟩]⟩) (fun k => k ≤ N) (fun k => N - k) 0 (by omega) (go (r := ?_)) (fun k hk => ?_)
    · trivial
    have hbk := numB_bd p s k
    have hb2 := numB_le p s (k := k) (j := 33) (by omega)
    have hbt := btA_bd p (s + k)
    have hbo := btA_out p (s + k)
    have h2 : numB p s (k + 1) = numB p s k * 2 + max (btA p (s + k)) 0 := rfl
    refine go (r := ?_); and_intros <;> intros <;> try exact True.intro
    all_goals first | (rw [h2]; omega) | (rw [e1]; done) | (rw [e2, Int.toNat_natCast, show k = N by omega]; done) | (simp [hok]; done) | trace_state
  · obtain ⟨e1, e2⟩ := rb_no hok
    refine go (r := ?_); and_intros <;> intros <;> try exact True.intro
    all_goals first | (exact absurd ⟨by assumption, by assumption, by omega⟩ hok) | (rw [e1]; done) | (rw [e2]; done) | (simp [hok]; done) | trace_state⟩
instance ZerosAhead_c : Con 192 (∀ (p : List UInt8) (s : Int), p.length ≤ 1099511627776 → Fn 192 [RA p s] [] (I (zrs p s))) := ⟨fun p s hl => by
  have hb := lft_bd p s
  refine FnC.of_body tabOk Try.func192 Try.ntmps192 rfl (by decide +kernel) (by simp) fun G => ?_
  by_cases hok : RdOk p s
  · have hlo := lft_ok hok
    refine go (r := ?_); and_intros <;> intros <;> try exact True.intro
    all_goals first | (exact absurd hok (by assumption)) | skip
    refine WpA.loop (fun k : Nat => ⟨[(1, .ptr 0 0 0), (3, I k)], [BoxR p s]⟩) (fun k => (k : Int) ≤ lft p s ∧ ∀ j < k, btA p (s + (j : Nat)) = 0) (fun k => (lft p s).toNat - k) 0 ⟨by omega, fun j hj => by omega⟩ (go (r := ?_)) (fun k hk => ?_)
    · trivial
    have hbo := btA_out p (s + k)
    have hz := fun h3 => zrs_eq hk.1 hk.2 h3
    refine go (r := ?_); and_intros <;> intros <;> try exact True.intro
    all_goals first | (rename_i h1 j hj; rcases Nat.lt_succ_iff_lt_or_eq.1 hj with h | h; (exact hk.2 j h); (subst h; assumption)) | (rw [hz (.inr (by assumption))]; done) | trace_state
  · have hz : zrs p s = 0 := by have := zrs_le p s; rw [lft_no hok] at this; omega
    refine go (r := ?_); and_intros <;> intros <;> try exact True.intro
    all_goals first | (exact absurd (by assumption) hok) | (rw [hz]; done) | (rw [hz]; rfl) | trace_state⟩
instance ZerosAhead_s : Con 167 (∀ (p : List UInt8) (s : Int), p.length ≤ 1099511627776 → Fn 167 [RA p s] [] (I (zrs p s))) := ⟨fun p s hl => by
  have hb := lft_bd p s
  refine FnC.of_body tabOk Try.func167 Try.ntmps167 rfl (by decide +kernel) (by simp) fun G => ?_
  have hlo := fun h : RdOk p s => lft_ok h
  have hln := fun h : ¬ RdOk p s => lft_no h
  refine go (r := ?_); and_intros <;> intros <;> try exact True.intro
  refine WpA.loop (fun k : Nat => ⟨[(1, .ptr 0 0 0), (3, I k)], [BoxR p s]⟩) (fun k => (k : Int) ≤ lft p s ∧ ∀ j < k, btA p (s + (j : Nat)) = 0) (fun k => (lft p s).toNat - k) 0 ⟨by omega, fun j hj => by omega⟩ (go (r := ?_)) (fun k hk => ?_)
  · trivial
  have hbo := btA_out p (s + k)
  have hz := fun h3 => zrs_eq hk.1 hk.2 h3
  by_cases hok : RdOk p s
  · have hlo := lft_ok hok
    refine go (r := ?_); and_intros <;> intros <;> try exact True.intro
    all_goals first | (rename_i h1 h2 j hj; rcases Nat.lt_succ_iff_lt_or_eq.1 hj with h | h; (exact hk.2 j h); (subst h; assumption)) | (rw [hz (.inr (by assumption))]; done) | (rw [hz (.inl (by omega))]; done) | trace_state
  · have hln := lft_no hok
    refine go (r := ?_); and_intros <;> intros <;> try exact True.intro
    all_goals first | (rw [hz (.inl (by omega))]; done) | trace_state⟩
instance ReadUe_c : Con 171 (∀ (p : List UInt8) (s : Int), p.length ≤ 1099511627776 → Fn 171 [RA p s] [] (.tup [RA p (ueA p s), I (ueV p s), I (ueC p s)])) := ⟨fun p s hl => by
  have hb := lft_bd p s
  have hz := zrs_le p s
  have hv := rbV_bd p s (2 * (zrs p s : Int) + 1)
  refine FnC.of_body tabOk Try.func171 Try.ntmps171 rfl (by decide +kernel) (by simp) fun G => ?_
  by_cases h15 : zrs p s ≤ 15
  · by_cases hok : RbOk p s (2 * (zrs p s : Int) + 1)
    · obtain ⟨e1, e2, e3⟩ := ue_yes h15 hok
      obtain ⟨e4, e5⟩ := rb_yes hok
      refine go (r := ?_); and_intros <;> intros <;> try exact True.intro
      all_goals first | (exact absurd hok (by assumption)) | (exfalso; omega) | (rw [e1, e4]; done) | (rw [e3, e5]; done) | (rw [e2]; done) | trace_state
    · obtain ⟨e1, e2, e3⟩ := ue_short h15 hok
      refine go (r := ?_); and_intros <;> intros <;> try exact True.intro
      all_goals first | (exact absurd (by assumption) hok) | (exfalso; omega) | (rw [e1]; done) | (rw [e3]; done) | (rw [e2]; done) | trace_state
  · obtain ⟨e1, e2, e3⟩ := ue_code (s := s) (p := p) h15
    refine go (r := ?_); and_intros <;> intros <;> try exact True.intro
    all_goals first | (exfalso; omega) | (rw [e1]; done) | (rw [e3]; done) | (rw [e2]; done) | trace_state⟩
instance ReadUe_s : Con 115 (∀ (p : List UInt8) (s : Int), p.length ≤ 1099511627776 → Fn 115 [RA p s] [] (.tup [RA p (ueA p s), I (ueV p s), I (ueC p s)])) := ⟨fun p s hl => by
  have hb := lft_bd p s
  have hz := zrs_le p s
  have hv := rbV_bd p s (2 * (zrs p s : Int) + 1)
  refine FnC.of_body tabOk Try.func115 Try.ntmps115 rfl (by decide +kernel) (by simp) fun G => ?_
  by_cases h15 : zrs p s ≤ 15
  · by_cases hok : RbOk p s (2 * (zrs p s : Int) + 1)
    · obtain ⟨e1, e2, e3⟩ := ue_yes h15 hok
      obtain ⟨e4, e5⟩ := rb_yes hok
      refine go (r := ?_); and_intros <;> intros <;> try exact True.intro
      all_goals first | (exact absurd hok (by assumption)) | (exfalso; omega) | (rw [e1, e4]; done) | (rw [e3, e5]; done) | (rw [e2]; done) | trace_state
    · obtain ⟨e1, e2, e3⟩ := ue_short h15 hok
      refine go (r := ?_); and_intros <;> intros <;> try exact True.intro
      all_goals first | (exact absurd (by assumption) hok) | (exfalso; omega) | (rw [e1]; done) | (rw [e3]; done) | (rw [e2]; done) | trace_state
  · obtain ⟨e1, e2, e3⟩ := ue_code (s := s) (p := p) h15
    refine go (r := ?_); and_intros <;> intros <;> try exact True.intro
    all_goals first | (exfalso; omega) | (rw [e1]; done) | (rw [e3]; done) | (rw [e2]; done) | trace_state⟩
instance LevelOf_c : Con 128 (∀ n : Int, -4611686018427387904 ≤ n ∧ n ≤ 4611686018427387904 → Fn 128 [I n] [] (I (lvOf n))) := ⟨fun n h => by
  refine FnC.of_body tabOk Try.func128 Try.ntmps128 rfl (by decide +kernel) (by simp) fun G => ?_
  refine go (r := ?_); and_intros <;> intros <;> try exact True.intro
  · rw [lvOf, if_pos (by assumption)]
  · rw [lvOf, if_neg (by omega), if_pos (by assumption)]
  · rw [lvOf, if_neg (by omega), if_neg (by assumption)]; omega⟩
instance LevelOf_s : Con 168 (∀ n : Int, -4611686018427387904 ≤ n ∧ n ≤ 4611686018427387904 → Fn 168 [I n] [] (I (lvOf n))) := ⟨fun n h => by
  refine FnC.of_body tabOk Try.func168 Try.ntmps168 rfl (by decide +kernel) (by simp) fun G => ?_
  refine go (r := ?_); and_intros <;> intros <;> try exact True.intro
  · rw [lvOf, if_pos (by assumption)]
  · rw [lvOf, if_neg (by omega), if_pos (by assumption)]
  · rw [lvOf, if_neg (by omega), if_neg (by assumption)]⟩
end Go.Proofs.Ytgbahnaejajdgaa

/- The run of rules that stops at a region which draws its order. Written by a program of mine (mkgo.py). No condition. -/
namespace Go.Proofs.Ytgbahnaejajdgaa
open Go Go.Abs
set_option linter.unusedVariables false
set_option linter.unusedSimpArgs false
set_option maxRecDepth 100000
theorem goR {P R : Prop} (h : (Hold R → P) ∧ IsT R := by
  refine And.intro ?_ ?_
  · intro hold
    repeat' (first
    | (refine K.L ?_; first
      | (refine K.mv ?_; refine WpL.move rfl (by decide) ?_)
      | (refine K.asg ?_; refine WpL.assign rfl (by decide) ?_)
      | (refine K.bin ?_; first
        | refine WpL.add rfl rfl (by omega) (by decide) ?_
        | refine WpL.sub rfl rfl (by omega) (by decide) ?_
        | refine WpL.mul rfl rfl (by first | omega | exact mul_in (by omega) (by omega) | assumption) (by decide) ?_
        | refine WpL.quo rfl rfl (by omega) (by decide) ?_
        | refine WpL.rem rfl rfl (by omega) (by decide) ?_
        | refine WpL.bin rfl rfl rfl (by decide) ?_
        | refine WpL.strAdd rfl rfl (by first | omega | (simp only [List.length_append]; omega) | (simp; omega)) (by decide) ?_
        | refine WpL.strEq rfl rfl (by decide) ?_
        | refine WpL.strNe rfl rfl (by decide) ?_
        | refine WpL.boolEq (K.tyBool tabOk rfl) rfl rfl (by decide) ?_
        | refine WpL.boolNe (K.tyBool tabOk rfl) rfl rfl (by decide) ?_
        | refine WpL.nilEq (TabOk.slice tabOk rfl).1 rfl rfl (by decide) ?_
        | refine WpL.immEq (TabOk.slice tabOk rfl).1 rfl rfl (by decide) (fun hgo => ?_) ?_
        | refine WpL.ownEq (TabOk.slice tabOk rfl).1 rfl rfl rfl (by first | rfl | omega | (simp; done) | (simp; omega)) rfl (by decide) ?_
        | refine WpL.shl rfl rfl (by first | decide | (simp only [IntKind.bits]; omega)) (by decide) ?_
        | refine WpL.shr rfl rfl (by first | decide | (simp only [IntKind.bits]; omega)) (by decide) ?_)
      | (refine K.ld ?_; first
        | refine WpL.loadInts tabOk rfl rfl rfl (by first | omega | (simp; omega)) (by decide) ?_
        | refine WpL.loadU8s tabOk rfl rfl rfl (by first | omega | (simp; omega)) (by decide) ?_
        | refine WpL.loadStrs tabOk rfl rfl rfl (by first | omega | (simp; omega)) (by decide) ?_
        | refine WpL.loadBools tabOk rfl rfl rfl (by first | omega | (simp; omega)) (by decide) ?_
        | refine WpL.loadRow tabOk rfl rfl (fun _ => rfl) (fun _ => rfl) (by first | rfl | omega | (simp; done) | (simp; omega)) (by decide) rfl ?_
        | refine WpL.loadField tabOk rfl rfl rfl (fun _ => rfl) rfl rfl (by first | rfl | omega | (simp; done) | (simp; omega)) (by decide) ?_
        | refine WpL.loadOwn tabOk rfl rfl rfl rfl (fun _ => rfl) rfl (by first | rfl | omega | (simp; done) | (simp; omega)) (by decide) rfl ?_
        | refine WpL.load1 tabOk rfl rfl rfl rfl rfl (by decide) ?_
        | refine WpL.loadAgg (ds := [_]) tabOk rfl rfl rfl rfl rfl (by decide) ?_
        | refine WpL.loadAgg (ds := [_, _]) tabOk rfl rfl rfl rfl rfl (by decide) ?_
        | refine WpL.loadAgg (ds := [_, _, _]) tabOk rfl rfl rfl rfl rfl (by decide) ?_
        | refine WpL.loadAgg (ds := [_, _, _, _]) tabOk rfl rfl rfl rfl rfl (by decide) ?_
        | refine WpL.loadAgg (ds := [_, _, _, _, _]) tabOk rfl rfl rfl rfl rfl (by decide) ?_
        | refine WpL.loadAgg (ds := [_, _, _, _, _, _]) tabOk rfl rfl rfl rfl rfl (by decide) ?_
        | refine WpL.loadAgg (ds := [_, _, _, _, _, _, _]) tabOk rfl rfl rfl rfl rfl (by decide) ?_
        | refine WpL.loadAgg (ds := [_, _, _, _, _, _, _, _]) tabOk rfl rfl rfl rfl rfl (by decide) ?_
        | refine WpL.loadLi tabOk rfl rfl rfl (by first | rfl | omega | (simp; done) | (simp; omega)) (by decide) ?_
        | refine WpL.loadSlot tabOk rfl rfl rfl rfl (by first | rfl | omega | (simp; done) | (simp; omega)) (by first | omega | (simp; omega) | (simp; done)) rfl (by decide) ?_)
      | (refine K.fld ?_; first
        | refine WpL.fieldI tabOk rfl rfl rfl (by decide) ?_
        | refine WpL.fieldP tabOk rfl rfl rfl rfl rfl (by decide) ?_)
      | (refine K.ixa ?_; first
        | refine WpL.idxI1 tabOk rfl rfl rfl (by omega) (by decide) ?_
        | refine WpL.idxO1 tabOk rfl rfl rfl rfl rfl (by omega) (by decide) ?_
        | refine WpL.idxIJ tabOk rfl rfl rfl (by omega) (by decide) ?_
        | refine WpL.idxOJ tabOk rfl rfl rfl rfl rfl (by omega) (by decide) ?_
        | refine WpL.idxIN tabOk rfl rfl rfl (by omega) (by decide) ?_
        | refine WpL.idxON tabOk rfl rfl rfl rfl rfl (by omega) (by decide) ?_
        | refine WpL.idxI tabOk rfl rfl rfl (by omega) (by decide) ?_
        | refine WpL.idxO tabOk rfl rfl rfl rfl rfl (by omega) (by decide) ?_)
      | (refine K.call ?_; refine K.con (fun hcon => ?_); first
        | (refine WpL.callF (hcon ?_) snapA locA outA rfl rfl rfl (by decide) ?_ <;> clear hcon)
        | (refine WpL.callF (hcon) snapA locA outA rfl rfl rfl (by decide) ?_ <;> clear hcon)
        | (refine WpL.callF (hcon _ ?_) snapA locA outA rfl rfl rfl (by decide) ?_ <;> clear hcon)
        | (refine WpL.callF (hcon _) snapA locA outA rfl rfl rfl (by decide) ?_ <;> clear hcon)
        | (refine WpL.callF (hcon _ _ ?_) snapA locA outA rfl rfl rfl (by decide) ?_ <;> clear hcon)
        | (refine WpL.callF (hcon _ _) snapA locA outA rfl rfl rfl (by decide) ?_ <;> clear hcon)
        | (refine WpL.callF (hcon _ _ _ ?_) snapA locA outA rfl rfl rfl (by decide) ?_ <;> clear hcon)
        | (refine WpL.callF (hcon _ _ _) snapA locA outA rfl rfl rfl (by decide) ?_ <;> clear hcon)
        | (refine WpL.callF (hcon _ _ _ _ ?_) snapA locA outA rfl rfl rfl (by decide) ?_ <;> clear hcon)
        | (refine WpL.callF (hcon _ _ _ _) snapA locA outA rfl rfl rfl (by decide) ?_ <;> clear hcon)
        | (refine WpL.callF (hcon _ _ _ _ _ ?_) snapA locA outA rfl rfl rfl (by decide) ?_ <;> clear hcon)
        | (refine WpL.callF (hcon _ _ _ _ _) snapA locA outA rfl rfl rfl (by decide) ?_ <;> clear hcon)
        | (refine WpL.callF (hcon _ _ _ _ _ _ ?_) snapA locA outA rfl rfl rfl (by decide) ?_ <;> clear hcon)
        | (refine WpL.callF (hcon _ _ _ _ _ _) snapA locA outA rfl rfl rfl (by decide) ?_ <;> clear hcon)
        | (refine WpL.callF (hcon _ _ _ _ _ _ _ ?_) snapA locA outA rfl rfl rfl (by decide) ?_ <;> clear hcon)
        | (refine WpL.callF (hcon _ _ _ _ _ _ _) snapA locA outA rfl rfl rfl (by decide) ?_ <;> clear hcon)
        | (refine WpL.callF (hcon _ _ _ _ _ _ _ _ ?_) snapA locA outA rfl rfl rfl (by decide) ?_ <;> clear hcon)
        | (refine WpL.callF (hcon _ _ _ _ _ _ _ _) snapA locA outA rfl rfl rfl (by decide) ?_ <;> clear hcon)
        | (refine WpL.callF (hcon _ _ _ _ _ _ _ _ _ ?_) snapA locA outA rfl rfl rfl (by decide) ?_ <;> clear hcon)
        | (refine WpL.callF (hcon _ _ _ _ _ _ _ _ _) snapA locA outA rfl rfl rfl (by decide) ?_ <;> clear hcon)
        | (refine WpL.callF (hcon _ _ _ _ _ _ _ _ _ _ ?_) snapA locA outA rfl rfl rfl (by decide) ?_ <;> clear hcon)
        | (refine WpL.callF (hcon _ _ _ _ _ _ _ _ _ _) snapA locA outA rfl rfl rfl (by decide) ?_ <;> clear hcon)
        | (refine WpL.callF (hcon _ _ _ _ _ _ _ _ _ _ _ ?_) snapA locA outA rfl rfl rfl (by decide) ?_ <;> clear hcon)
        | (refine WpL.callF (hcon _ _ _ _ _ _ _ _ _ _ _) snapA locA outA rfl rfl rfl (by decide) ?_ <;> clear hcon)
        | (refine WpL.callF (hcon _ _ _ _ _ _ _ _ _ _ _ _ ?_) snapA locA outA rfl rfl rfl (by decide) ?_ <;> clear hcon)
        | (refine WpL.callF (hcon _ _ _ _ _ _ _ _ _ _ _ _) snapA locA outA rfl rfl rfl (by decide) ?_ <;> clear hcon)
        | (refine WpL.callF (hcon _ _ _ _ _ _ _ _ _ _ _ _ _ ?_) snapA locA outA rfl rfl rfl (by decide) ?_ <;> clear hcon)
        | (refine WpL.callF (hcon _ _ _ _ _ _ _ _ _ _ _ _ _) snapA locA outA rfl rfl rfl (by decide) ?_ <;> clear hcon)
        | (refine WpL.callF (hcon _ _ _ _ _ _ _ _ _ _ _ _ _ _ ?_) snapA locA outA rfl rfl rfl (by decide) ?_ <;> clear hcon)
        | (refine WpL.callF (hcon _ _ _ _ _ _ _ _ _ _ _ _ _ _) snapA locA outA rfl rfl rfl (by decide) ?_ <;> clear hcon)
        | (refine WpL.callF (hcon _ _ _ _ _ _ _ _ _ _ _ _ _ _ _ ?_) snapA locA outA rfl rfl rfl (by decide) ?_ <;> clear hcon)
        | (refine WpL.callF (hcon _ _ _ _ _ _ _ _ _ _ _ _ _ _ _) snapA locA outA rfl rfl rfl (by decide) ?_ <;> clear hcon)
        | (refine WpL.callF (hcon _ _ _ _ _ _ _ _ _ _ _ _ _ _ _ _ ?_) snapA locA outA rfl rfl rfl (by decide) ?_ <;> clear hcon)
        | (refine WpL.callF (hcon _ _ _ _ _ _ _ _ _ _ _ _ _ _ _ _) snapA locA outA rfl rfl rfl (by decide) ?_ <;> clear hcon)
        | (refine WpL.callF (hcon _ _ _ _ _ _ _ _ _ _ _ _ _ _ _ _ _ ?_) snapA locA outA rfl rfl rfl (by decide) ?_ <;> clear hcon)
        | (refine WpL.callF (hcon _ _ _ _ _ _ _ _ _ _ _ _ _ _ _ _ _) snapA locA outA rfl rfl rfl (by decide) ?_ <;> clear hcon)
        | (refine WpL.callF (hcon _ _ _ _ _ _ _ _ _ _ _ _ _ _ _ _ _ _ ?_) snapA locA outA rfl rfl rfl (by decide) ?_ <;> clear hcon)
        | (refine WpL.callF (hcon _ _ _ _ _ _ _ _ _ _ _ _ _ _ _ _ _ _) snapA locA outA rfl rfl rfl (by decide) ?_ <;> clear hcon))
      | (refine K.call ?_; refine K.conG (fun hcon => ?_); first
        | (refine WpL.callM (hs := [_]) (hcon ?_) handA handOA rfl rfl outA outA rfl rfl rfl rfl (by decide) ?_ <;> clear hcon)
        | (refine WpL.callM0 (hs := [_]) (hcon ?_) handA handOA rfl rfl outA outA rfl rfl rfl rfl ?_ <;> clear hcon)
        | (refine WpL.callM (hs := [_]) (hcon) handA handOA rfl rfl outA outA rfl rfl rfl rfl (by decide) ?_ <;> clear hcon)
        | (refine WpL.callM0 (hs := [_]) (hcon) handA handOA rfl rfl outA outA rfl rfl rfl rfl ?_ <;> clear hcon)
        | (refine WpL.callM (hs := [_]) (hcon _ ?_) handA handOA rfl rfl outA outA rfl rfl rfl rfl (by decide) ?_ <;> clear hcon)
        | (refine WpL.callM0 (hs := [_]) (hcon _ ?_) handA handOA rfl rfl outA outA rfl rfl rfl rfl ?_ <;> clear hcon)
        | (refine WpL.callM (hs := [_]) (hcon _) handA handOA rfl rfl outA outA rfl rfl rfl rfl (by decide) ?_ <;> clear hcon)
        | (refine WpL.callM0 (hs := [_]) (hcon _) handA handOA rfl rfl outA outA rfl rfl rfl rfl ?_ <;> clear hcon)
        | (refine WpL.callM (hs := [_]) (hcon _ _ ?_) handA handOA rfl rfl outA outA rfl rfl rfl rfl (by decide) ?_ <;> clear hcon)
        | (refine WpL.callM0 (hs := [_]) (hcon _ _ ?_) handA handOA rfl rfl outA outA rfl rfl rfl rfl ?_ <;> clear hcon)
        | (refine WpL.callM (hs := [_]) (hcon _ _) handA handOA rfl rfl outA outA rfl rfl rfl rfl (by decide) ?_ <;> clear hcon)
        | (refine WpL.callM0 (hs := [_]) (hcon _ _) handA handOA rfl rfl outA outA rfl rfl rfl rfl ?_ <;> clear hcon)
        | (refine WpL.callM (hs := [_]) (hcon _ _ _ ?_) handA handOA rfl rfl outA outA rfl rfl rfl rfl (by decide) ?_ <;> clear hcon)
        | (refine WpL.callM0 (hs := [_]) (hcon _ _ _ ?_) handA handOA rfl rfl outA outA rfl rfl rfl rfl ?_ <;> clear hcon)
        | (refine WpL.callM (hs := [_]) (hcon _ _ _) handA handOA rfl rfl outA outA rfl rfl rfl rfl (by decide) ?_ <;> clear hcon)
        | (refine WpL.callM0 (hs := [_]) (hcon _ _ _) handA handOA rfl rfl outA outA rfl rfl rfl rfl ?_ <;> clear hcon)
        | (refine WpL.callM (hs := [_]) (hcon _ _ _ _ ?_) handA handOA rfl rfl outA outA rfl rfl rfl rfl (by decide) ?_ <;> clear hcon)
        | (refine WpL.callM0 (hs := [_]) (hcon _ _ _ _ ?_) handA handOA rfl rfl outA outA rfl rfl rfl rfl ?_ <;> clear hcon)
        | (refine WpL.callM (hs := [_]) (hcon _ _ _ _) handA handOA rfl rfl outA outA rfl rfl rfl rfl (by decide) ?_ <;> clear hcon)
        | (refine WpL.callM0 (hs := [_]) (hcon _ _ _ _) handA handOA rfl rfl outA outA rfl rfl rfl rfl ?_ <;> clear hcon)
        | (refine WpL.callM (hs := [_]) (hcon _ _ _ _ _ ?_) handA handOA rfl rfl outA outA rfl rfl rfl rfl (by decide) ?_ <;> clear hcon)
        | (refine WpL.callM0 (hs := [_]) (hcon _ _ _ _ _ ?_) handA handOA rfl rfl outA outA rfl rfl rfl rfl ?_ <;> clear hcon)
        | (refine WpL.callM (hs := [_]) (hcon _ _ _ _ _) handA handOA rfl rfl outA outA rfl rfl rfl rfl (by decide) ?_ <;> clear hcon)
        | (refine WpL.callM0 (hs := [_]) (hcon _ _ _ _ _) handA handOA rfl rfl outA outA rfl rfl rfl rfl ?_ <;> clear hcon)
        | (refine WpL.callM (hs := [_]) (hcon _ _ _ _ _ _ ?_) handA handOA rfl rfl outA outA rfl rfl rfl rfl (by decide) ?_ <;> clear hcon)
        | (refine WpL.callM0 (hs := [_]) (hcon _ _ _ _ _ _ ?_) handA handOA rfl rfl outA outA rfl rfl rfl rfl ?_ <;> clear hcon)
        | (refine WpL.callM (hs := [_]) (hcon _ _ _ _ _ _) handA handOA rfl rfl outA outA rfl rfl rfl rfl (by decide) ?_ <;> clear hcon)
        | (refine WpL.callM0 (hs := [_]) (hcon _ _ _ _ _ _) handA handOA rfl rfl outA outA rfl rfl rfl rfl ?_ <;> clear hcon)
        | (refine WpL.callM (hs := [_]) (hcon _ _ _ _ _ _ _ ?_) handA handOA rfl rfl outA outA rfl rfl rfl rfl (by decide) ?_ <;> clear hcon)
        | (refine WpL.callM0 (hs := [_]) (hcon _ _ _ _ _ _ _ ?_) handA handOA rfl rfl outA outA rfl rfl rfl rfl ?_ <;> clear hcon)
        | (refine WpL.callM (hs := [_]) (hcon _ _ _ _ _ _ _) handA handOA rfl rfl outA outA rfl rfl rfl rfl (by decide) ?_ <;> clear hcon)
        | (refine WpL.callM0 (hs := [_]) (hcon _ _ _ _ _ _ _) handA handOA rfl rfl outA outA rfl rfl rfl rfl ?_ <;> clear hcon)
        | (refine WpL.callM (hs := [_]) (hcon _ _ _ _ _ _ _ _ ?_) handA handOA rfl rfl outA outA rfl rfl rfl rfl (by decide) ?_ <;> clear hcon)
        | (refine WpL.callM0 (hs := [_]) (hcon _ _ _ _ _ _ _ _ ?_) handA handOA rfl rfl outA outA rfl rfl rfl rfl ?_ <;> clear hcon)
        | (refine WpL.callM (hs := [_]) (hcon _ _ _ _ _ _ _ _) handA handOA rfl rfl outA outA rfl rfl rfl rfl (by decide) ?_ <;> clear hcon)
        | (refine WpL.callM0 (hs := [_]) (hcon _ _ _ _ _ _ _ _) handA handOA rfl rfl outA outA rfl rfl rfl rfl ?_ <;> clear hcon)
        | (refine WpL.callM (hs := [_, _]) (hcon ?_) handA handOA rfl rfl outA outA rfl rfl rfl rfl (by decide) ?_ <;> clear hcon)
        | (refine WpL.callM0 (hs := [_, _]) (hcon ?_) handA handOA rfl rfl outA outA rfl rfl rfl rfl ?_ <;> clear hcon)
        | (refine WpL.callM (hs := [_, _]) (hcon) handA handOA rfl rfl outA outA rfl rfl rfl rfl (by decide) ?_ <;> clear hcon)
        | (refine WpL.callM0 (hs := [_, _]) (hcon) handA handOA rfl rfl outA outA rfl rfl rfl rfl ?_ <;> clear hcon)
        | (refine WpL.callM (hs := [_, _]) (hcon _ ?_) handA handOA rfl rfl outA outA rfl rfl rfl rfl (by decide) ?_ <;> clear hcon)
        | (refine WpL.callM0 (hs := [_, _]) (hcon _ ?_) handA handOA rfl rfl outA outA rfl rfl rfl rfl ?_ <;> clear hcon)
        | (refine WpL.callM (hs := [_, _]) (hcon _) handA handOA rfl rfl outA outA rfl rfl rfl rfl (by decide) ?_ <;> clear hcon)
        | (refine WpL.callM0 (hs := [_, _]) (hcon _) handA handOA rfl rfl outA outA rfl rfl rfl rfl ?_ <;> clear hcon)
        | (refine WpL.callM (hs := [_, _]) (hcon _ _ ?_) handA handOA rfl rfl outA outA rfl rfl rfl rfl (by decide) ?_ <;> clear hcon)
        | (refine WpL.callM0 (hs := [_, _]) (hcon _ _ ?_) handA handOA rfl rfl outA outA rfl rfl rfl rfl ?_ <;> clear hcon)
        | (refine WpL.callM (hs := [_, _]) (hcon _ _) handA handOA rfl rfl outA outA rfl rfl rfl rfl (by decide) ?_ <;> clear hcon)
        | (refine WpL.callM0 (hs := [_, _]) (hcon _ _) handA handOA rfl rfl outA outA rfl rfl rfl rfl ?_ <;> clear hcon)
        | (refine WpL.callM (hs := [_, _]) (hcon _ _ _ ?_) handA handOA rfl rfl outA outA rfl rfl rfl rfl (by decide) ?_ <;> clear hcon)
        | (refine WpL.callM0 (hs := [_, _]) (hcon _ _ _ ?_) handA handOA rfl rfl outA outA rfl rfl rfl rfl ?_ <;> clear hcon)
        | (refine WpL.callM (hs := [_, _]) (hcon _ _ _) handA handOA rfl rfl outA outA rfl rfl rfl rfl (by decide) ?_ <;> clear hcon)
        | (refine WpL.callM0 (hs := [_, _]) (hcon _ _ _) handA handOA rfl rfl outA outA rfl rfl rfl rfl ?_ <;> clear hcon)
        | (refine WpL.callM (hs := [_, _]) (hcon _ _ _ _ ?_) handA handOA rfl rfl outA outA rfl rfl rfl rfl (by decide) ?_ <;> clear hcon)
        | (refine WpL.callM0 (hs := [_, _]) (hcon _ _ _ _ ?_) handA handOA rfl rfl outA outA rfl rfl rfl rfl ?_ <;> clear hcon)
        | (refine WpL.callM (hs := [_, _]) (hcon _ _ _ _) handA handOA rfl rfl outA outA rfl rfl rfl rfl (by decide) ?_ <;> clear hcon)
        | (refine WpL.callM0 (hs := [_, _]) (hcon _ _ _ _) handA handOA rfl rfl outA outA rfl rfl rfl rfl ?_ <;> clear hcon)
        | (refine WpL.callM (hs := [_, _]) (hcon _ _ _ _ _ ?_) handA handOA rfl rfl outA outA rfl rfl rfl rfl (by decide) ?_ <;> clear hcon)
        | (refine WpL.callM0 (hs := [_, _]) (hcon _ _ _ _ _ ?_) handA handOA rfl rfl outA outA rfl rfl rfl rfl ?_ <;> clear hcon)
        | (refine WpL.callM (hs := [_, _]) (hcon _ _ _ _ _) handA handOA rfl rfl outA outA rfl rfl rfl rfl (by decide) ?_ <;> clear hcon)
        | (refine WpL.callM0 (hs := [_, _]) (hcon _ _ _ _ _) handA handOA rfl rfl outA outA rfl rfl rfl rfl ?_ <;> clear hcon)
        | (refine WpL.callM (hs := [_, _]) (hcon _ _ _ _ _ _ ?_) handA handOA rfl rfl outA outA rfl rfl rfl rfl (by decide) ?_ <;> clear hcon)
        | (refine WpL.callM0 (hs := [_, _]) (hcon _ _ _ _ _ _ ?_) handA handOA rfl rfl outA outA rfl rfl rfl rfl ?_ <;> clear hcon)
        | (refine WpL.callM (hs := [_, _]) (hcon _ _ _ _ _ _) handA handOA rfl rfl outA outA rfl rfl rfl rfl (by decide) ?_ <;> clear hcon)
        | (refine WpL.callM0 (hs := [_, _]) (hcon _ _ _ _ _ _) handA handOA rfl rfl outA outA rfl rfl rfl rfl ?_ <;> clear hcon)
        | (refine WpL.callM (hs := [_, _]) (hcon _ _ _ _ _ _ _ ?_) handA handOA rfl rfl outA outA rfl rfl rfl rfl (by decide) ?_ <;> clear hcon)
        | (refine WpL.callM0 (hs := [_, _]) (hcon _ _ _ _ _ _ _ ?_) handA handOA rfl rfl outA outA rfl rfl rfl rfl ?_ <;> clear hcon)
        | (refine WpL.callM (hs := [_, _]) (hcon _ _ _ _ _ _ _) handA handOA rfl rfl outA outA rfl rfl rfl rfl (by decide) ?_ <;> clear hcon)
        | (refine WpL.callM0 (hs := [_, _]) (hcon _ _ _ _ _ _ _) handA handOA rfl rfl outA outA rfl rfl rfl rfl ?_ <;> clear hcon)
        | (refine WpL.callM (hs := [_, _]) (hcon _ _ _ _ _ _ _ _ ?_) handA handOA rfl rfl outA outA rfl rfl rfl rfl (by decide) ?_ <;> clear hcon)
        | (refine WpL.callM0 (hs := [_, _]) (hcon _ _ _ _ _ _ _ _ ?_) handA handOA rfl rfl outA outA rfl rfl rfl rfl ?_ <;> clear hcon)
        | (refine WpL.callM (hs := [_, _]) (hcon _ _ _ _ _ _ _ _) handA handOA rfl rfl outA outA rfl rfl rfl rfl (by decide) ?_ <;> clear hcon)
        | (refine WpL.callM0 (hs := [_, _]) (hcon _ _ _ _ _ _ _ _) handA handOA rfl rfl outA outA rfl rfl rfl rfl ?_ <;> clear hcon)
        | (refine WpL.callM (hs := [_, _, _]) (hcon ?_) handA handOA rfl rfl outA outA rfl rfl rfl rfl (by decide) ?_ <;> clear hcon)
        | (refine WpL.callM0 (hs := [_, _, _]) (hcon ?_) handA handOA rfl rfl outA outA rfl rfl rfl rfl ?_ <;> clear hcon)
        | (refine WpL.callM (hs := [_, _, _]) (hcon) handA handOA rfl rfl outA outA rfl rfl rfl rfl (by decide) ?_ <;> clear hcon)
        | (refine WpL.callM0 (hs := [_, _, _]) (hcon) handA handOA rfl rfl outA outA rfl rfl rfl rfl ?_ <;> clear hcon)
        | (refine WpL.callM (hs := [_, _, _]) (hcon _ ?_) handA handOA rfl rfl outA outA rfl rfl rfl rfl (by decide) ?_ <;> clear hcon)
        | (refine WpL.callM0 (hs := [_, _, _]) (hcon _ ?_) handA handOA rfl rfl outA outA rfl rfl rfl rfl ?_ <;> clear hcon)
        | (refine WpL.callM (hs := [_, _, _]) (hcon _) handA handOA rfl rfl outA outA rfl rfl rfl rfl (by decide) ?_ <;> clear hcon)
        | (refine WpL.callM0 (hs := [_, _, _]) (hcon _) handA handOA rfl rfl outA outA rfl rfl rfl rfl ?_ <;> clear hcon)
        | (refine WpL.callM (hs := [_, _, _]) (hcon _ _ ?_) handA handOA rfl rfl outA outA rfl rfl rfl rfl (by decide) ?_ <;> clear hcon)
        | (refine WpL.callM0 (hs := [_, _, _]) (hcon _ _ ?_) handA handOA rfl rfl outA outA rfl rfl rfl rfl ?_ <;> clear hcon)
        | (refine WpL.callM (hs := [_, _, _]) (hcon _ _) handA handOA rfl rfl outA outA rfl rfl rfl rfl (by decide) ?_ <;> clear hcon)
        | (refine WpL.callM0 (hs := [_, _, _]) (hcon _ _) handA handOA rfl rfl outA outA rfl rfl rfl rfl ?_ <;> clear hcon)
        | (refine WpL.callM (hs := [_, _, _]) (hcon _ _ _ ?_) handA handOA rfl rfl outA outA rfl rfl rfl rfl (by decide) ?_ <;> clear hcon)
        | (refine WpL.callM0 (hs := [_, _, _]) (hcon _ _ _ ?_) handA handOA rfl rfl outA outA rfl rfl rfl rfl ?_ <;> clear hcon)
        | (refine WpL.callM (hs := [_, _, _]) (hcon _ _ _) handA handOA rfl rfl outA outA rfl rfl rfl rfl (by decide) ?_ <;> clear hcon)
        | (refine WpL.callM0 (hs := [_, _, _]) (hcon _ _ _) handA handOA rfl rfl outA outA rfl rfl rfl rfl ?_ <;> clear hcon)
        | (refine WpL.callM (hs := [_, _, _]) (hcon _ _ _ _ ?_) handA handOA rfl rfl outA outA rfl rfl rfl rfl (by decide) ?_ <;> clear hcon)
        | (refine WpL.callM0 (hs := [_, _, _]) (hcon _ _ _ _ ?_) handA handOA rfl rfl outA outA rfl rfl rfl rfl ?_ <;> clear hcon)
        | (refine WpL.callM (hs := [_, _, _]) (hcon _ _ _ _) handA handOA rfl rfl outA outA rfl rfl rfl rfl (by decide) ?_ <;> clear hcon)
        | (refine WpL.callM0 (hs := [_, _, _]) (hcon _ _ _ _) handA handOA rfl rfl outA outA rfl rfl rfl rfl ?_ <;> clear hcon)
        | (refine WpL.callM (hs := [_, _, _]) (hcon _ _ _ _ _ ?_) handA handOA rfl rfl outA outA rfl rfl rfl rfl (by decide) ?_ <;> clear hcon)
        | (refine WpL.callM0 (hs := [_, _, _]) (hcon _ _ _ _ _ ?_) handA handOA rfl rfl outA outA rfl rfl rfl rfl ?_ <;> clear hcon)
        | (refine WpL.callM (hs := [_, _, _]) (hcon _ _ _ _ _) handA handOA rfl rfl outA outA rfl rfl rfl rfl (by decide) ?_ <;> clear hcon)
        | (refine WpL.callM0 (hs := [_, _, _]) (hcon _ _ _ _ _) handA handOA rfl rfl outA outA rfl rfl rfl rfl ?_ <;> clear hcon)
        | (refine WpL.callM (hs := [_, _, _]) (hcon _ _ _ _ _ _ ?_) handA handOA rfl rfl outA outA rfl rfl rfl rfl (by decide) ?_ <;> clear hcon)
        | (refine WpL.callM0 (hs := [_, _, _]) (hcon _ _ _ _ _ _ ?_) handA handOA rfl rfl outA outA rfl rfl rfl rfl ?_ <;> clear hcon)
        | (refine WpL.callM (hs := [_, _, _]) (hcon _ _ _ _ _ _) handA handOA rfl rfl outA outA rfl rfl rfl rfl (by decide) ?_ <;> clear hcon)
        | (refine WpL.callM0 (hs := [_, _, _]) (hcon _ _ _ _ _ _) handA handOA rfl rfl outA outA rfl rfl rfl rfl ?_ <;> clear hcon)
        | (refine WpL.callM (hs := [_, _, _]) (hcon _ _ _ _ _ _ _ ?_) handA handOA rfl rfl outA outA rfl rfl rfl rfl (by decide) ?_ <;> clear hcon)
        | (refine WpL.callM0 (hs := [_, _, _]) (hcon _ _ _ _ _ _ _ ?_) handA handOA rfl rfl outA outA rfl rfl rfl rfl ?_ <;> clear hcon)
        | (refine WpL.callM (hs := [_, _, _]) (hcon _ _ _ _ _ _ _) handA handOA rfl rfl outA outA rfl rfl rfl rfl (by decide) ?_ <;> clear hcon)
        | (refine WpL.callM0 (hs := [_, _, _]) (hcon _ _ _ _ _ _ _) handA handOA rfl rfl outA outA rfl rfl rfl rfl ?_ <;> clear hcon)
        | (refine WpL.callM (hs := [_, _, _]) (hcon _ _ _ _ _ _ _ _ ?_) handA handOA rfl rfl outA outA rfl rfl rfl rfl (by decide) ?_ <;> clear hcon)
        | (refine WpL.callM0 (hs := [_, _, _]) (hcon _ _ _ _ _ _ _ _ ?_) handA handOA rfl rfl outA outA rfl rfl rfl rfl ?_ <;> clear hcon)
        | (refine WpL.callM (hs := [_, _, _]) (hcon _ _ _ _ _ _ _ _) handA handOA rfl rfl outA outA rfl rfl rfl rfl (by decide) ?_ <;> clear hcon)
        | (refine WpL.callM0 (hs := [_, _, _]) (hcon _ _ _ _ _ _ _ _) handA handOA rfl rfl outA outA rfl rfl rfl rfl ?_ <;> clear hcon)
        | (refine WpL.callM (hs := [_, _, _, _]) (hcon ?_) handA handOA rfl rfl outA outA rfl rfl rfl rfl (by decide) ?_ <;> clear hcon)
        | (refine WpL.callM0 (hs := [_, _, _, _]) (hcon ?_) handA handOA rfl rfl outA outA rfl rfl rfl rfl ?_ <;> clear hcon)
        | (refine WpL.callM (hs := [_, _, _, _]) (hcon) handA handOA rfl rfl outA outA rfl rfl rfl rfl (by decide) ?_ <;> clear hcon)
        | (refine WpL.callM0 (hs := [_, _, _, _]) (hcon) handA handOA rfl rfl outA outA rfl rfl rfl rfl ?_ <;> clear hcon)
        | (refine WpL.callM (hs := [_, _, _, _]) (hcon _ ?_) handA handOA rfl rfl outA outA rfl rfl rfl rfl (by decide) ?_ <;> clear hcon)
        | (refine WpL.callM0 (hs := [_, _, _, _]) (hcon _ ?_) handA handOA rfl rfl outA outA rfl rfl rfl rfl ?_ <;> clear hcon)
        | (refine WpL.callM (hs := [_, _, _, _]) (hcon _) handA handOA rfl rfl outA outA rfl rfl rfl rfl (by decide) ?_ <;> clear hcon)
        | (refine WpL.callM0 (hs := [_, _, _, _]) (hcon _) handA handOA rfl rfl outA outA rfl rfl rfl rfl ?_ <;> clear hcon)
        | (refine WpL.callM (hs := [_, _, _, _]) (hcon _ _ ?_) handA handOA rfl rfl outA outA rfl rfl rfl rfl (by decide) ?_ <;> clear hcon)
        | (refine WpL.callM0 (hs := [_, _, _, _]) (hcon _ _ ?_) handA handOA rfl rfl outA outA rfl rfl rfl rfl ?_ <;> clear hcon)
        | (refine WpL.callM (hs := [_, _, _, _]) (hcon _ _) handA handOA rfl rfl outA outA rfl rfl rfl rfl (by decide) ?_ <;> clear hcon)
        | (refine WpL.callM0 (hs := [_, _, _, _]) (hcon _ _) handA handOA rfl rfl outA outA rfl rfl rfl rfl ?_ <;> clear hcon)
        | (refine WpL.callM (hs := [_, _, _, _]) (hcon _ _ _ ?_) handA handOA rfl rfl outA outA rfl rfl rfl rfl (by decide) ?_ <;> clear hcon)
        | (refine WpL.callM0 (hs := [_, _, _, _]) (hcon _ _ _ ?_) handA handOA rfl rfl outA outA rfl rfl rfl rfl ?_ <;> clear hcon)
        | (refine WpL.callM (hs := [_, _, _, _]) (hcon _ _ _) handA handOA rfl rfl outA outA rfl rfl rfl rfl (by decide) ?_ <;> clear hcon)
        | (refine WpL.callM0 (hs := [_, _, _, _]) (hcon _ _ _) handA handOA rfl rfl outA outA rfl rfl rfl rfl ?_ <;> clear hcon)
        | (refine WpL.callM (hs := [_, _, _, _]) (hcon _ _ _ _ ?_) handA handOA rfl rfl outA outA rfl rfl rfl rfl (by decide) ?_ <;> clear hcon)
        | (refine WpL.callM0 (hs := [_, _, _, _]) (hcon _ _ _ _ ?_) handA handOA rfl rfl outA outA rfl rfl rfl rfl ?_ <;> clear hcon)
        | (refine WpL.callM (hs := [_, _, _, _]) (hcon _ _ _ _) handA handOA rfl rfl outA outA rfl rfl rfl rfl (by decide) ?_ <;> clear hcon)
        | (refine WpL.callM0 (hs := [_, _, _, _]) (hcon _ _ _ _) handA handOA rfl rfl outA outA rfl rfl rfl rfl ?_ <;> clear hcon)
        | (refine WpL.callM (hs := [_, _, _, _]) (hcon _ _ _ _ _ ?_) handA handOA rfl rfl outA outA rfl rfl rfl rfl (by decide) ?_ <;> clear hcon)
        | (refine WpL.callM0 (hs := [_, _, _, _]) (hcon _ _ _ _ _ ?_) handA handOA rfl rfl outA outA rfl rfl rfl rfl ?_ <;> clear hcon)
        | (refine WpL.callM (hs := [_, _, _, _]) (hcon _ _ _ _ _) handA handOA rfl rfl outA outA rfl rfl rfl rfl (by decide) ?_ <;> clear hcon)
        | (refine WpL.callM0 (hs := [_, _, _, _]) (hcon _ _ _ _ _) handA handOA rfl rfl outA outA rfl rfl rfl rfl ?_ <;> clear hcon)
        | (refine WpL.callM (hs := [_, _, _, _]) (hcon _ _ _ _ _ _ ?_) handA handOA rfl rfl outA outA rfl rfl rfl rfl (by decide) ?_ <;> clear hcon)
        | (refine WpL.callM0 (hs := [_, _, _, _]) (hcon _ _ _ _ _ _ ?_) handA handOA rfl rfl outA outA rfl rfl rfl rfl ?_ <;> clear hcon)
        | (refine WpL.callM (hs := [_, _, _, _]) (hcon _ _ _ _ _ _) handA handOA rfl rfl outA outA rfl rfl rfl rfl (by decide) ?_ <;> clear hcon)
        | (refine WpL.callM0 (hs := [_, _, _, _]) (hcon _ _ _ _ _ _) handA handOA rfl rfl outA outA rfl rfl rfl rfl ?_ <;> clear hcon)
        | (refine WpL.callM (hs := [_, _, _, _]) (hcon _ _ _ _ _ _ _ ?_) handA handOA rfl rfl outA outA rfl rfl rfl rfl (by decide) ?_ <;> clear hcon)
        | (refine WpL.callM0 (hs := [_, _, _, _]) (hcon _ _ _ _ _ _ _ ?_) handA handOA rfl rfl outA outA rfl rfl rfl rfl ?_ <;> clear hcon)
        | (refine WpL.callM (hs := [_, _, _, _]) (hcon _ _ _ _ _ _ _) handA handOA rfl rfl outA outA rfl rfl rfl rfl (by decide) ?_ <;> clear hcon)
        | (refine WpL.callM0 (hs := [_, _, _, _]) (hcon _ _ _ _ _ _ _) handA handOA rfl rfl outA outA rfl rfl rfl rfl ?_ <;> clear hcon)
        | (refine WpL.callM (hs := [_, _, _, _]) (hcon _ _ _ _ _ _ _ _ ?_) handA handOA rfl rfl outA outA rfl rfl rfl rfl (by decide) ?_ <;> clear hcon)
        | (refine WpL.callM0 (hs := [_, _, _, _]) (hcon _ _ _ _ _ _ _ _ ?_) handA handOA rfl rfl outA outA rfl rfl rfl rfl ?_ <;> clear hcon)
        | (refine WpL.callM (hs := [_, _, _, _]) (hcon _ _ _ _ _ _ _ _) handA handOA rfl rfl outA outA rfl rfl rfl rfl (by decide) ?_ <;> clear hcon)
        | (refine WpL.callM0 (hs := [_, _, _, _]) (hcon _ _ _ _ _ _ _ _) handA handOA rfl rfl outA outA rfl rfl rfl rfl ?_ <;> clear hcon))
      | (refine K.call ?_; refine K.conB (fun hcon => ?_); first
        | (refine WpL.callB (hcon ?_) snapA locA outA locA outA rfl rfl rfl rfl rfl (by decide) ?_ ?_ <;> clear hcon)
        | (refine WpL.callB (hcon) snapA locA outA locA outA rfl rfl rfl rfl rfl (by decide) ?_ ?_ <;> clear hcon)
        | (refine WpL.callB (hcon _ ?_) snapA locA outA locA outA rfl rfl rfl rfl rfl (by decide) ?_ ?_ <;> clear hcon)
        | (refine WpL.callB (hcon _) snapA locA outA locA outA rfl rfl rfl rfl rfl (by decide) ?_ ?_ <;> clear hcon)
        | (refine WpL.callB (hcon _ _ ?_) snapA locA outA locA outA rfl rfl rfl rfl rfl (by decide) ?_ ?_ <;> clear hcon)
        | (refine WpL.callB (hcon _ _) snapA locA outA locA outA rfl rfl rfl rfl rfl (by decide) ?_ ?_ <;> clear hcon)
        | (refine WpL.callB (hcon _ _ _ ?_) snapA locA outA locA outA rfl rfl rfl rfl rfl (by decide) ?_ ?_ <;> clear hcon)
        | (refine WpL.callB (hcon _ _ _) snapA locA outA locA outA rfl rfl rfl rfl rfl (by decide) ?_ ?_ <;> clear hcon)
        | (refine WpL.callB (hcon _ _ _ _ ?_) snapA locA outA locA outA rfl rfl rfl rfl rfl (by decide) ?_ ?_ <;> clear hcon)
        | (refine WpL.callB (hcon _ _ _ _) snapA locA outA locA outA rfl rfl rfl rfl rfl (by decide) ?_ ?_ <;> clear hcon)
        | (refine WpL.callB (hcon _ _ _ _ _ ?_) snapA locA outA locA outA rfl rfl rfl rfl rfl (by decide) ?_ ?_ <;> clear hcon)
        | (refine WpL.callB (hcon _ _ _ _ _) snapA locA outA locA outA rfl rfl rfl rfl rfl (by decide) ?_ ?_ <;> clear hcon)
        | (refine WpL.callB (hcon _ _ _ _ _ _ ?_) snapA locA outA locA outA rfl rfl rfl rfl rfl (by decide) ?_ ?_ <;> clear hcon)
        | (refine WpL.callB (hcon _ _ _ _ _ _) snapA locA outA locA outA rfl rfl rfl rfl rfl (by decide) ?_ ?_ <;> clear hcon)
        | (refine WpL.callB (hcon _ _ _ _ _ _ _ ?_) snapA locA outA locA outA rfl rfl rfl rfl rfl (by decide) ?_ ?_ <;> clear hcon)
        | (refine WpL.callB (hcon _ _ _ _ _ _ _) snapA locA outA locA outA rfl rfl rfl rfl rfl (by decide) ?_ ?_ <;> clear hcon)
        | (refine WpL.callB (hcon _ _ _ _ _ _ _ _ ?_) snapA locA outA locA outA rfl rfl rfl rfl rfl (by decide) ?_ ?_ <;> clear hcon)
        | (refine WpL.callB (hcon _ _ _ _ _ _ _ _) snapA locA outA locA outA rfl rfl rfl rfl rfl (by decide) ?_ ?_ <;> clear hcon))
      | (refine K.callT ?_; refine K.conV rfl (fun hcon => ?_); first
        | (refine WpL.callVF rfl (hcon ?_) rfl snapA locA outA rfl rfl rfl (by decide) ?_ <;> clear hcon)
        | (refine WpL.callVF rfl (hcon) rfl snapA locA outA rfl rfl rfl (by decide) ?_ <;> clear hcon)
        | (refine WpL.callVF rfl (hcon _ ?_) rfl snapA locA outA rfl rfl rfl (by decide) ?_ <;> clear hcon)
        | (refine WpL.callVF rfl (hcon _) rfl snapA locA outA rfl rfl rfl (by decide) ?_ <;> clear hcon)
        | (refine WpL.callVF rfl (hcon _ _ ?_) rfl snapA locA outA rfl rfl rfl (by decide) ?_ <;> clear hcon)
        | (refine WpL.callVF rfl (hcon _ _) rfl snapA locA outA rfl rfl rfl (by decide) ?_ <;> clear hcon)
        | (refine WpL.callVF rfl (hcon _ _ _ ?_) rfl snapA locA outA rfl rfl rfl (by decide) ?_ <;> clear hcon)
        | (refine WpL.callVF rfl (hcon _ _ _) rfl snapA locA outA rfl rfl rfl (by decide) ?_ <;> clear hcon)
        | (refine WpL.callVF rfl (hcon _ _ _ _ ?_) rfl snapA locA outA rfl rfl rfl (by decide) ?_ <;> clear hcon)
        | (refine WpL.callVF rfl (hcon _ _ _ _) rfl snapA locA outA rfl rfl rfl (by decide) ?_ <;> clear hcon)
        | (refine WpL.callVF rfl (hcon _ _ _ _ _ ?_) rfl snapA locA outA rfl rfl rfl (by decide) ?_ <;> clear hcon)
        | (refine WpL.callVF rfl (hcon _ _ _ _ _) rfl snapA locA outA rfl rfl rfl (by decide) ?_ <;> clear hcon)
        | (refine WpL.callVF rfl (hcon _ _ _ _ _ _ ?_) rfl snapA locA outA rfl rfl rfl (by decide) ?_ <;> clear hcon)
        | (refine WpL.callVF rfl (hcon _ _ _ _ _ _) rfl snapA locA outA rfl rfl rfl (by decide) ?_ <;> clear hcon)
        | (refine WpL.callVF rfl (hcon _ _ _ _ _ _ _ ?_) rfl snapA locA outA rfl rfl rfl (by decide) ?_ <;> clear hcon)
        | (refine WpL.callVF rfl (hcon _ _ _ _ _ _ _) rfl snapA locA outA rfl rfl rfl (by decide) ?_ <;> clear hcon)
        | (refine WpL.callVF rfl (hcon _ _ _ _ _ _ _ _ ?_) rfl snapA locA outA rfl rfl rfl (by decide) ?_ <;> clear hcon)
        | (refine WpL.callVF rfl (hcon _ _ _ _ _ _ _ _) rfl snapA locA outA rfl rfl rfl (by decide) ?_ <;> clear hcon)
        | (refine WpL.callVF rfl (hcon _ _ _ _ _ _ _ _ _ ?_) rfl snapA locA outA rfl rfl rfl (by decide) ?_ <;> clear hcon)
        | (refine WpL.callVF rfl (hcon _ _ _ _ _ _ _ _ _) rfl snapA locA outA rfl rfl rfl (by decide) ?_ <;> clear hcon)
        | (refine WpL.callVF rfl (hcon _ _ _ _ _ _ _ _ _ _ ?_) rfl snapA locA outA rfl rfl rfl (by decide) ?_ <;> clear hcon)
        | (refine WpL.callVF rfl (hcon _ _ _ _ _ _ _ _ _ _) rfl snapA locA outA rfl rfl rfl (by decide) ?_ <;> clear hcon)
        | (refine WpL.callVF rfl (hcon _ _ _ _ _ _ _ _ _ _ _ ?_) rfl snapA locA outA rfl rfl rfl (by decide) ?_ <;> clear hcon)
        | (refine WpL.callVF rfl (hcon _ _ _ _ _ _ _ _ _ _ _) rfl snapA locA outA rfl rfl rfl (by decide) ?_ <;> clear hcon)
        | (refine WpL.callVF rfl (hcon _ _ _ _ _ _ _ _ _ _ _ _ ?_) rfl snapA locA outA rfl rfl rfl (by decide) ?_ <;> clear hcon)
        | (refine WpL.callVF rfl (hcon _ _ _ _ _ _ _ _ _ _ _ _) rfl snapA locA outA rfl rfl rfl (by decide) ?_ <;> clear hcon))
      | (refine K.mkF ?_; refine WpL.makeFunc rfl (by decide) ?_)
      | (refine K.ix ?_; first
        | refine WpL.idxStr1 tabOk rfl rfl rfl (by omega) (by decide) (fun hgo => ?_)
        | refine WpL.idxStrB tabOk rfl rfl rfl (by omega) (by decide) (fun hgo => ?_))
      | (refine K.bi ?_; first
        | (refine K.blen ?_; first
          | refine WpL.lenImm (TabOk.slice tabOk rfl).1 rfl (by decide) ?_
          | refine WpL.lenOwn (TabOk.slice tabOk rfl).1 rfl rfl rfl (by decide) ?_
          | refine WpL.lenNil (TabOk.slice tabOk rfl).1 rfl (by decide) ?_
          | refine WpL.lenStr (K.tyStr tabOk rfl) rfl (by decide) ?_)
        | (refine K.bapp ?_; first
          | refine WpL.app1Ints tabOk rfl rfl rfl (by first | exact Nat.zero_le _ | exact Nat.le_of_ble_eq_true rfl) rfl rfl (by first | rfl | omega | (simp; done) | (simp; omega)) (by omega) (by decide) ?_
          | refine WpL.appInts tabOk rfl rfl rfl (by first | exact Nat.zero_le _ | exact Nat.le_of_ble_eq_true rfl) rfl rfl (by first | rfl | omega | (simp; done) | (simp; omega)) (by first | rfl | omega | (simp; done) | (simp; omega)) (by omega) (by decide) ?_
          | refine WpL.nil1Ints tabOk rfl rfl rfl rfl (by omega) rfl (by decide) ?_
          | refine WpL.app1U8s tabOk rfl rfl rfl (by first | exact Nat.zero_le _ | exact Nat.le_of_ble_eq_true rfl) rfl rfl (by first | rfl | omega | (simp; done) | (simp; omega)) (by omega) (by decide) ?_
          | refine WpL.appU8s tabOk rfl rfl rfl (by first | exact Nat.zero_le _ | exact Nat.le_of_ble_eq_true rfl) rfl rfl (by first | rfl | omega | (simp; done) | (simp; omega)) (by first | rfl | omega | (simp; done) | (simp; omega)) (by omega) (by decide) ?_
          | refine WpL.nil1U8s tabOk rfl rfl rfl rfl (by omega) rfl (by decide) ?_
          | refine WpL.app1Strs tabOk rfl rfl rfl (by first | exact Nat.zero_le _ | exact Nat.le_of_ble_eq_true rfl) rfl rfl (by first | rfl | omega | (simp; done) | (simp; omega)) (by omega) (by decide) ?_
          | refine WpL.appStrs tabOk rfl rfl rfl (by first | exact Nat.zero_le _ | exact Nat.le_of_ble_eq_true rfl) rfl rfl (by first | rfl | omega | (simp; done) | (simp; omega)) (by first | rfl | omega | (simp; done) | (simp; omega)) (by omega) (by decide) ?_
          | refine WpL.nil1Strs tabOk rfl rfl rfl rfl (by omega) rfl (by decide) ?_
          | refine WpL.appRow (f := prF) (v := (_, _)) tabOk rfl rfl rfl (by first | exact Nat.zero_le _ | exact Nat.le_of_ble_eq_true rfl) rfl rfl (fun _ => rfl) rfl rfl (by first | rfl | omega | (simp; done) | (simp; omega)) (by omega) (by decide) ?_
          | refine WpL.nilRow (f := prF) (v := (_, _)) tabOk rfl rfl rfl rfl (fun _ => rfl) rfl rfl (by omega) rfl (by decide) ?_
          | refine WpL.appRow (f := plF) (v := (_, _, _)) tabOk rfl rfl rfl (by first | exact Nat.zero_le _ | exact Nat.le_of_ble_eq_true rfl) rfl rfl (fun _ => rfl) rfl rfl (by first | rfl | omega | (simp; done) | (simp; omega)) (by omega) (by decide) ?_
          | refine WpL.nilRow (f := plF) (v := (_, _, _)) tabOk rfl rfl rfl rfl (fun _ => rfl) rfl rfl (by omega) rfl (by decide) ?_
          | refine WpL.appBlk tabOk rfl rfl rfl (by first | exact Nat.zero_le _ | exact Nat.le_of_ble_eq_true rfl) rfl rfl rfl rfl rfl (by first | exact Nat.zero_le _ | exact Nat.le_of_ble_eq_true rfl) (by first | rfl | omega | (simp; done) | (simp; omega)) (by first | rfl | omega | (simp; done) | (simp; omega)) (by omega) (by decide) ?_
          | refine WpL.nilBlk tabOk rfl rfl rfl rfl rfl rfl (by first | exact Nat.zero_le _ | exact Nat.le_of_ble_eq_true rfl) (by first | rfl | omega | (simp; done) | (simp; omega)) (by omega) rfl (by decide) ?_
          | refine WpL.appMb tabOk rfl rfl rfl (by first | exact Nat.zero_le _ | exact Nat.le_of_ble_eq_true rfl) rfl rfl rfl rfl rfl (by first | exact Nat.zero_le _ | exact Nat.le_of_ble_eq_true rfl) (by first | rfl | omega | (simp; done) | (simp; omega)) (by first | rfl | omega | (simp; done) | (simp; omega)) (by omega) (by decide) ?_
          | refine WpL.nilMb tabOk rfl rfl rfl rfl rfl rfl (by first | exact Nat.zero_le _ | exact Nat.le_of_ble_eq_true rfl) (by first | rfl | omega | (simp; done) | (simp; omega)) (by omega) rfl (by decide) ?_
          | refine WpL.appFr tabOk rfl rfl rfl (by first | exact Nat.zero_le _ | exact Nat.le_of_ble_eq_true rfl) rfl rfl rfl rfl rfl (by first | exact Nat.zero_le _ | exact Nat.le_of_ble_eq_true rfl) (by first | rfl | omega | (simp; done) | (simp; omega)) (by first | rfl | omega | (simp; done) | (simp; omega)) (by omega) (by decide) ?_
          | refine WpL.nilFr tabOk rfl rfl rfl rfl rfl rfl (by first | exact Nat.zero_le _ | exact Nat.le_of_ble_eq_true rfl) (by first | rfl | omega | (simp; done) | (simp; omega)) (by omega) rfl (by decide) ?_
          | refine WpL.appOwn tabOk rfl rfl rfl rfl rfl rfl (by simp) (by first | exact Nat.zero_le _ | exact Nat.le_of_ble_eq_true rfl) rfl rfl (by simp) (by simp [all_ints, all_u8s, all_strs, oneB, Value.oneCell']) (by omega) (by decide) ?_
          | refine WpL.appNil tabOk rfl rfl rfl rfl (by simp) (by simp [all_ints, all_u8s, all_strs, oneB, Value.oneCell']) (by omega) rfl (by decide) ?_)
        | refine WpL.min2 rfl rfl (by decide) ?_
        | refine WpL.max2 rfl rfl (by decide) ?_)
      | (refine K.un ?_; first
        | refine WpL.not rfl (by decide) ?_
        | refine WpL.neg rfl (by omega) (by decide) ?_)
      | (refine K.pick ?_; first
        | refine WpL.pickT rfl rfl (by decide) ?_
        | refine WpL.pickF rfl rfl (by decide) ?_)
      | (refine K.bld ?_; refine WpL.build tabOk rfl rfl (by kernel_rfl) (by decide) ?_)
      | (refine K.ext ?_; refine WpL.extract rfl rfl (by first | decide | simp [AV.shL]) (by decide) ?_)
      | (refine K.cv ?_; first
        | refine WpL.convI (P := Try.prog) (by rfl) (K.tyInt tabOk rfl) rfl (by omega) (by decide) ?_
        | refine WpL.conv (P := Try.prog) (by rfl) (K.tyInt tabOk rfl) rfl (by decide) ?_
        | refine WpL.toBytes tabOk rfl rfl rfl rfl (by omega) rfl (by decide) ?_
        | refine WpL.ofBytes tabOk rfl rfl rfl rfl rfl (by simp) (by decide) ?_)
      | (refine K.lit ?_; first
        | refine WpL.lit0U8s tabOk rfl rfl rfl (by decide) ?_
        | refine WpL.lit0Ints tabOk rfl rfl rfl (by decide) ?_
        | refine WpL.lit0Bools tabOk rfl rfl rfl (by decide) ?_
        | refine WpL.lit0Strs tabOk rfl rfl rfl (by decide) ?_
        | refine WpL.litInts tabOk rfl rfl rfl rfl rfl (by decide) rfl (by decide) ?_
        | refine WpL.litU8s tabOk rfl rfl rfl rfl rfl (by decide) rfl (by decide) ?_
        | refine WpL.litStrs tabOk rfl rfl rfl rfl rfl (by decide) rfl (by decide) ?_
        | (apply WpL.litLis tabOk
           · exact rfl
           · exact rfl
           · exact rfl
           · exact rfl
           · decide
           · exact rfl
           · exact rfl
           · exact rfl
           · decide
           · repeat' (first
               | exact NestC.nil
               | (apply NestC.cons
                  · exact rfl
                  · exact rfl
                  · exact rfl
                  · exact rfl
                  · first | exact Nat.zero_le _ | exact Nat.le_of_ble_eq_true rfl
                  · exact rfl
                  · first | rfl | exact still_ints _
                  · first | rfl | simp
                  · exact rfl))
           · exact rfl
           · exact rfl)
        | refine WpL.litF tabOk rfl rfl rfl rfl (by decide) rfl (by decide) ?_)
      | (refine K.ms ?_; first
        | refine WpL.makeInts tabOk rfl rfl rfl (by omega) (by omega) rfl (by decide) ?_
        | refine WpL.makeStrs tabOk rfl rfl rfl (by omega) (by omega) rfl (by decide) ?_
        | refine WpL.makeBools tabOk rfl rfl rfl (by omega) (by omega) rfl (by decide) ?_
        | refine WpL.makeU8s tabOk rfl rfl rfl (by omega) (by omega) rfl (by decide) ?_
        | refine WpL.makeRows (f := prF) (z := (0, 0)) tabOk rfl rfl rfl rfl (by omega) (by omega) rfl (by decide) ?_
        | refine WpL.makeRowsN (f := blkF) (z := (0, [])) tabOk rfl (.keep (.fre .nil)) rfl rfl (by omega) (by omega) rfl (by decide) ?_
        | refine WpL.makeRowsN (f := mbF) (z := (false, [])) tabOk rfl (.keep (.fre .nil)) rfl rfl (by omega) (by omega) rfl (by decide) ?_
        | refine WpL.makeRowsN (f := liF) (z := []) tabOk rfl (.fre .nil) rfl rfl (by omega) (by omega) rfl (by decide) ?_)
      | (refine K.st ?_; first
        | refine WpL.storeInts tabOk rfl rfl rfl rfl rfl (by first | omega | (simp; omega)) ?_
        | refine WpL.storeU8s tabOk rfl rfl rfl rfl rfl (by first | omega | (simp; omega)) ?_
        | refine WpL.storeBools tabOk rfl rfl rfl rfl rfl (by first | omega | (simp; omega)) ?_
        | refine WpL.storeStrs tabOk rfl rfl rfl rfl rfl (by first | omega | (simp; omega)) ?_
        | refine WpL.storePr0 tabOk rfl rfl rfl rfl rfl (by first | rfl | omega | (simp; done) | (simp; omega)) ?_
        | refine WpL.storePr1 tabOk rfl rfl rfl rfl rfl (by first | rfl | omega | (simp; done) | (simp; omega)) ?_
        | refine WpL.storeBlk0 tabOk rfl rfl rfl rfl rfl (by first | rfl | omega | (simp; done) | (simp; omega)) ?_
        | refine WpL.storeMb0 tabOk rfl rfl rfl rfl rfl (by first | rfl | omega | (simp; done) | (simp; omega)) ?_
        | refine WpL.storeRow (f := prF) (b := (_, _)) tabOk rfl rfl rfl rfl rfl (fun _ => rfl) rfl (by first | rfl | omega | (simp; done) | (simp; omega)) ?_
        | refine WpL.storeBlk tabOk rfl rfl rfl rfl rfl rfl rfl (by first | exact Nat.zero_le _ | exact Nat.le_of_ble_eq_true rfl) (by first | rfl | omega | (simp; done) | (simp; omega)) (by first | rfl | omega | (simp; done) | (simp; omega)) ?_
        | refine WpL.storeMb tabOk rfl rfl rfl rfl rfl rfl rfl (by first | exact Nat.zero_le _ | exact Nat.le_of_ble_eq_true rfl) (by first | rfl | omega | (simp; done) | (simp; omega)) (by first | rfl | omega | (simp; done) | (simp; omega)) ?_
        | refine WpL.storeSlot tabOk rfl rfl rfl rfl rfl rfl (by first | rfl | omega | (simp; done) | (simp; omega)) (by first | omega | (simp; omega) | (simp; done)) ?_
        | refine WpL.storeS tabOk rfl rfl rfl rfl rfl rfl rfl rfl (by first | decide | omega | (simp; omega) | (simp; done)) (by first | (simp only [setL, List.set_cons_zero, List.set_cons_succ, Nat.zero_add, Nat.reduceAdd]; exact rfl) | exact rfl) ?_)
      | (refine K.all ?_; first
        | refine WpL.allocStruct tabOk rfl rfl (by decide) ?_
        | refine WpL.allocPlain tabOk rfl rfl rfl (by decide) ?_)
      | (refine K.box ?_; refine WpL.box rfl rfl rfl (by decide) ?_)
      | (refine K.nc ?_; first
        | refine WpL.nilCheckP rfl rfl rfl (by decide) ?_
        | refine WpL.nilCheckI rfl (by decide) ?_)
      | (refine K.sl ?_; first
        | refine WpL.subStrLo tabOk rfl rfl rfl (by omega) (by decide) ?_
        | refine WpL.subStrHi tabOk rfl rfl rfl (by omega) (by decide) ?_
        | refine WpL.subStrHi1 tabOk rfl rfl rfl (by omega) (by decide) ?_
        | refine WpL.subStr tabOk rfl rfl (by first | exact .inl ⟨rfl, rfl⟩ | exact .inr ⟨_, _, rfl, rfl⟩) (by first | exact .inl ⟨rfl, rfl⟩ | exact .inr ⟨_, _, rfl, rfl⟩) (by omega) (by decide) ?_
        | refine WpL.subIntsHi tabOk rfl rfl rfl (by first | rfl | omega | (simp; done) | (simp; omega)) (by omega) (by decide) ?_
        | refine WpL.subInts tabOk rfl rfl rfl rfl (by first | rfl | omega | (simp; done) | (simp; omega)) (by omega) (by decide) ?_
        | refine WpL.subImm tabOk rfl rfl (by first | exact .inl ⟨rfl, rfl⟩ | exact .inr ⟨_, _, rfl, rfl⟩) (by first | exact .inl ⟨rfl, rfl⟩ | exact .inr ⟨_, _, rfl, rfl⟩) (by omega) (by decide) ?_)
      | (refine K.gd ?_; first
        | refine K.gT rfl (by decide) rfl ?_
        | refine K.gF rfl (by decide) rfl ?_
        | (refine K.gD rfl rfl (fun hgo => ?_) (fun hgo => ?_) <;> (try (first | contradiction | (exfalso; omega))))
        | (refine K.gN rfl rfl (fun hgo => ?_) (fun hgo => ?_) <;> (try (first | contradiction | (exfalso; omega))))
        | (refine K.gS rfl rfl (fun hgo => ?_) (fun hgo => ?_) <;> (try (first | contradiction | (exfalso; omega)))))
      | ((repeat (revert hgo)); first | with_reducible apply Hold.h hold | with_reducible apply Hold.h (Hold.t hold) | with_reducible apply Hold.h (Hold.t (Hold.t hold)) | with_reducible apply Hold.h (Hold.t (Hold.t (Hold.t hold))) | with_reducible apply Hold.h (Hold.t (Hold.t (Hold.t (Hold.t hold)))) | with_reducible apply Hold.h (Hold.t (Hold.t (Hold.t (Hold.t (Hold.t hold))))) | with_reducible apply Hold.h (Hold.t (Hold.t (Hold.t (Hold.t (Hold.t (Hold.t hold)))))) | with_reducible apply Hold.h (Hold.t (Hold.t (Hold.t (Hold.t (Hold.t (Hold.t (Hold.t hold))))))) | with_reducible apply Hold.h (Hold.t (Hold.t (Hold.t (Hold.t (Hold.t (Hold.t (Hold.t (Hold.t hold)))))))) | with_reducible apply Hold.h (Hold.t (Hold.t (Hold.t (Hold.t (Hold.t (Hold.t (Hold.t (Hold.t (Hold.t hold))))))))) | with_reducible apply Hold.h (Hold.t (Hold.t (Hold.t (Hold.t (Hold.t (Hold.t (Hold.t (Hold.t (Hold.t (Hold.t hold)))))))))) | with_reducible apply Hold.h (Hold.t (Hold.t (Hold.t (Hold.t (Hold.t (Hold.t (Hold.t (Hold.t (Hold.t (Hold.t (Hold.t hold))))))))))) | with_reducible apply Hold.h (Hold.t (Hold.t (Hold.t (Hold.t (Hold.t (Hold.t (Hold.t (Hold.t (Hold.t (Hold.t (Hold.t (Hold.t hold)))))))))))) | with_reducible apply Hold.h (Hold.t (Hold.t (Hold.t (Hold.t (Hold.t (Hold.t (Hold.t (Hold.t (Hold.t (Hold.t (Hold.t (Hold.t (Hold.t hold))))))))))))) | with_reducible apply Hold.h (Hold.t (Hold.t (Hold.t (Hold.t (Hold.t (Hold.t (Hold.t (Hold.t (Hold.t (Hold.t (Hold.t (Hold.t (Hold.t (Hold.t hold)))))))))))))) | with_reducible apply Hold.h (Hold.t (Hold.t (Hold.t (Hold.t (Hold.t (Hold.t (Hold.t (Hold.t (Hold.t (Hold.t (Hold.t (Hold.t (Hold.t (Hold.t (Hold.t hold))))))))))))))) | with_reducible apply Hold.h (Hold.t (Hold.t (Hold.t (Hold.t (Hold.t (Hold.t (Hold.t (Hold.t (Hold.t (Hold.t (Hold.t (Hold.t (Hold.t (Hold.t (Hold.t (Hold.t hold)))))))))))))))) | with_reducible apply Hold.h (Hold.t (Hold.t (Hold.t (Hold.t (Hold.t (Hold.t (Hold.t (Hold.t (Hold.t (Hold.t (Hold.t (Hold.t (Hold.t (Hold.t (Hold.t (Hold.t (Hold.t hold))))))))))))))))) | with_reducible apply Hold.h (Hold.t (Hold.t (Hold.t (Hold.t (Hold.t (Hold.t (Hold.t (Hold.t (Hold.t (Hold.t (Hold.t (Hold.t (Hold.t (Hold.t (Hold.t (Hold.t (Hold.t (Hold.t hold)))))))))))))))))) | with_reducible apply Hold.h (Hold.t (Hold.t (Hold.t (Hold.t (Hold.t (Hold.t (Hold.t (Hold.t (Hold.t (Hold.t (Hold.t (Hold.t (Hold.t (Hold.t (Hold.t (Hold.t (Hold.t (Hold.t (Hold.t hold))))))))))))))))))) | with_reducible apply Hold.h (Hold.t (Hold.t (Hold.t (Hold.t (Hold.t (Hold.t (Hold.t (Hold.t (Hold.t (Hold.t (Hold.t (Hold.t (Hold.t (Hold.t (Hold.t (Hold.t (Hold.t (Hold.t (Hold.t (Hold.t hold)))))))))))))))))))) | with_reducible apply Hold.h (Hold.t (Hold.t (Hold.t (Hold.t (Hold.t (Hold.t (Hold.t (Hold.t (Hold.t (Hold.t (Hold.t (Hold.t (Hold.t (Hold.t (Hold.t (Hold.t (Hold.t (Hold.t (Hold.t (Hold.t (Hold.t hold))))))))))))))))))))) | with_reducible apply Hold.h (Hold.t (Hold.t (Hold.t (Hold.t (Hold.t (Hold.t (Hold.t (Hold.t (Hold.t (Hold.t (Hold.t (Hold.t (Hold.t (Hold.t (Hold.t (Hold.t (Hold.t (Hold.t (Hold.t (Hold.t (Hold.t (Hold.t hold)))))))))))))))))))))) | with_reducible apply Hold.h (Hold.t (Hold.t (Hold.t (Hold.t (Hold.t (Hold.t (Hold.t (Hold.t (Hold.t (Hold.t (Hold.t (Hold.t (Hold.t (Hold.t (Hold.t (Hold.t (Hold.t (Hold.t (Hold.t (Hold.t (Hold.t (Hold.t (Hold.t hold)))))))))))))))))))))))))
    | refine WpL.nil ?_
    | refine Abs.Seq.n ?_
    | (refine K.A ?_; first
      | refine WpA.seq ?_
      | refine WpA.regionF rfl ?_
      | (refine K.cond ?_; first
        | refine WpA.condT rfl ?_
        | refine WpA.condF rfl ?_
        | (refine WpA.condD rfl (fun hgo => ?_) (fun hgo => ?_) <;> (try (first | contradiction | (exfalso; omega))))
        | (refine WpA.condN rfl (fun hgo => ?_) (fun hgo => ?_) <;> (try (first | contradiction | (exfalso; omega))))
        | (refine WpA.condS rfl (fun hgo => ?_) (fun hgo => ?_) <;> (try (first | contradiction | (exfalso; omega)))))
      | refine WpA.block ?_
      | refine WpA.ret ?_
      | refine WpA.exit ?_
      | refine WpA.skip ?_
      | (refine K.loop ?_; ((repeat (revert hgo)); first | with_reducible apply Hold.h hold | with_reducible apply Hold.h (Hold.t hold) | with_reducible apply Hold.h (Hold.t (Hold.t hold)) | with_reducible apply Hold.h (Hold.t (Hold.t (Hold.t hold))) | with_reducible apply Hold.h (Hold.t (Hold.t (Hold.t (Hold.t hold)))) | with_reducible apply Hold.h (Hold.t (Hold.t (Hold.t (Hold.t (Hold.t hold))))) | with_reducible apply Hold.h (Hold.t (Hold.t (Hold.t (Hold.t (Hold.t (Hold.t hold)))))) | with_reducible apply Hold.h (Hold.t (Hold.t (Hold.t (Hold.t (Hold.t (Hold.t (Hold.t hold))))))) | with_reducible apply Hold.h (Hold.t (Hold.t (Hold.t (Hold.t (Hold.t (Hold.t (Hold.t (Hold.t hold)))))))) | with_reducible apply Hold.h (Hold.t (Hold.t (Hold.t (Hold.t (Hold.t (Hold.t (Hold.t (Hold.t (Hold.t hold))))))))) | with_reducible apply Hold.h (Hold.t (Hold.t (Hold.t (Hold.t (Hold.t (Hold.t (Hold.t (Hold.t (Hold.t (Hold.t hold)))))))))) | with_reducible apply Hold.h (Hold.t (Hold.t (Hold.t (Hold.t (Hold.t (Hold.t (Hold.t (Hold.t (Hold.t (Hold.t (Hold.t hold))))))))))) | with_reducible apply Hold.h (Hold.t (Hold.t (Hold.t (Hold.t (Hold.t (Hold.t (Hold.t (Hold.t (Hold.t (Hold.t (Hold.t (Hold.t hold)))))))))))) | with_reducible apply Hold.h (Hold.t (Hold.t (Hold.t (Hold.t (Hold.t (Hold.t (Hold.t (Hold.t (Hold.t (Hold.t (Hold.t (Hold.t (Hold.t hold))))))))))))) | with_reducible apply Hold.h (Hold.t (Hold.t (Hold.t (Hold.t (Hold.t (Hold.t (Hold.t (Hold.t (Hold.t (Hold.t (Hold.t (Hold.t (Hold.t (Hold.t hold)))))))))))))) | with_reducible apply Hold.h (Hold.t (Hold.t (Hold.t (Hold.t (Hold.t (Hold.t (Hold.t (Hold.t (Hold.t (Hold.t (Hold.t (Hold.t (Hold.t (Hold.t (Hold.t hold))))))))))))))) | with_reducible apply Hold.h (Hold.t (Hold.t (Hold.t (Hold.t (Hold.t (Hold.t (Hold.t (Hold.t (Hold.t (Hold.t (Hold.t (Hold.t (Hold.t (Hold.t (Hold.t (Hold.t hold)))))))))))))))) | with_reducible apply Hold.h (Hold.t (Hold.t (Hold.t (Hold.t (Hold.t (Hold.t (Hold.t (Hold.t (Hold.t (Hold.t (Hold.t (Hold.t (Hold.t (Hold.t (Hold.t (Hold.t (Hold.t hold))))))))))))))))) | with_reducible apply Hold.h (Hold.t (Hold.t (Hold.t (Hold.t (Hold.t (Hold.t (Hold.t (Hold.t (Hold.t (Hold.t (Hold.t (Hold.t (Hold.t (Hold.t (Hold.t (Hold.t (Hold.t (Hold.t hold)))))))))))))))))) | with_reducible apply Hold.h (Hold.t (Hold.t (Hold.t (Hold.t (Hold.t (Hold.t (Hold.t (Hold.t (Hold.t (Hold.t (Hold.t (Hold.t (Hold.t (Hold.t (Hold.t (Hold.t (Hold.t (Hold.t (Hold.t hold))))))))))))))))))) | with_reducible apply Hold.h (Hold.t (Hold.t (Hold.t (Hold.t (Hold.t (Hold.t (Hold.t (Hold.t (Hold.t (Hold.t (Hold.t (Hold.t (Hold.t (Hold.t (Hold.t (Hold.t (Hold.t (Hold.t (Hold.t (Hold.t hold)))))))))))))))))))) | with_reducible apply Hold.h (Hold.t (Hold.t (Hold.t (Hold.t (Hold.t (Hold.t (Hold.t (Hold.t (Hold.t (Hold.t (Hold.t (Hold.t (Hold.t (Hold.t (Hold.t (Hold.t (Hold.t (Hold.t (Hold.t (Hold.t (Hold.t hold))))))))))))))))))))) | with_reducible apply Hold.h (Hold.t (Hold.t (Hold.t (Hold.t (Hold.t (Hold.t (Hold.t (Hold.t (Hold.t (Hold.t (Hold.t (Hold.t (Hold.t (Hold.t (Hold.t (Hold.t (Hold.t (Hold.t (Hold.t (Hold.t (Hold.t (Hold.t hold)))))))))))))))))))))) | with_reducible apply Hold.h (Hold.t (Hold.t (Hold.t (Hold.t (Hold.t (Hold.t (Hold.t (Hold.t (Hold.t (Hold.t (Hold.t (Hold.t (Hold.t (Hold.t (Hold.t (Hold.t (Hold.t (Hold.t (Hold.t (Hold.t (Hold.t (Hold.t (Hold.t hold)))))))))))))))))))))))))
      | ((repeat (revert hgo)); first | with_reducible apply Hold.h hold | with_reducible apply Hold.h (Hold.t hold) | with_reducible apply Hold.h (Hold.t (Hold.t hold)) | with_reducible apply Hold.h (Hold.t (Hold.t (Hold.t hold))) | with_reducible apply Hold.h (Hold.t (Hold.t (Hold.t (Hold.t hold)))) | with_reducible apply Hold.h (Hold.t (Hold.t (Hold.t (Hold.t (Hold.t hold))))) | with_reducible apply Hold.h (Hold.t (Hold.t (Hold.t (Hold.t (Hold.t (Hold.t hold)))))) | with_reducible apply Hold.h (Hold.t (Hold.t (Hold.t (Hold.t (Hold.t (Hold.t (Hold.t hold))))))) | with_reducible apply Hold.h (Hold.t (Hold.t (Hold.t (Hold.t (Hold.t (Hold.t (Hold.t (Hold.t hold)))))))) | with_reducible apply Hold.h (Hold.t (Hold.t (Hold.t (Hold.t (Hold.t (Hold.t (Hold.t (Hold.t (Hold.t hold))))))))) | with_reducible apply Hold.h (Hold.t (Hold.t (Hold.t (Hold.t (Hold.t (Hold.t (Hold.t (Hold.t (Hold.t (Hold.t hold)))))))))) | with_reducible apply Hold.h (Hold.t (Hold.t (Hold.t (Hold.t (Hold.t (Hold.t (Hold.t (Hold.t (Hold.t (Hold.t (Hold.t hold))))))))))) | with_reducible apply Hold.h (Hold.t (Hold.t (Hold.t (Hold.t (Hold.t (Hold.t (Hold.t (Hold.t (Hold.t (Hold.t (Hold.t (Hold.t hold)))))))))))) | with_reducible apply Hold.h (Hold.t (Hold.t (Hold.t (Hold.t (Hold.t (Hold.t (Hold.t (Hold.t (Hold.t (Hold.t (Hold.t (Hold.t (Hold.t hold))))))))))))) | with_reducible apply Hold.h (Hold.t (Hold.t (Hold.t (Hold.t (Hold.t (Hold.t (Hold.t (Hold.t (Hold.t (Hold.t (Hold.t (Hold.t (Hold.t (Hold.t hold)))))))))))))) | with_reducible apply Hold.h (Hold.t (Hold.t (Hold.t (Hold.t (Hold.t (Hold.t (Hold.t (Hold.t (Hold.t (Hold.t (Hold.t (Hold.t (Hold.t (Hold.t (Hold.t hold))))))))))))))) | with_reducible apply Hold.h (Hold.t (Hold.t (Hold.t (Hold.t (Hold.t (Hold.t (Hold.t (Hold.t (Hold.t (Hold.t (Hold.t (Hold.t (Hold.t (Hold.t (Hold.t (Hold.t hold)))))))))))))))) | with_reducible apply Hold.h (Hold.t (Hold.t (Hold.t (Hold.t (Hold.t (Hold.t (Hold.t (Hold.t (Hold.t (Hold.t (Hold.t (Hold.t (Hold.t (Hold.t (Hold.t (Hold.t (Hold.t hold))))))))))))))))) | with_reducible apply Hold.h (Hold.t (Hold.t (Hold.t (Hold.t (Hold.t (Hold.t (Hold.t (Hold.t (Hold.t (Hold.t (Hold.t (Hold.t (Hold.t (Hold.t (Hold.t (Hold.t (Hold.t (Hold.t hold)))))))))))))))))) | with_reducible apply Hold.h (Hold.t (Hold.t (Hold.t (Hold.t (Hold.t (Hold.t (Hold.t (Hold.t (Hold.t (Hold.t (Hold.t (Hold.t (Hold.t (Hold.t (Hold.t (Hold.t (Hold.t (Hold.t (Hold.t hold))))))))))))))))))) | with_reducible apply Hold.h (Hold.t (Hold.t (Hold.t (Hold.t (Hold.t (Hold.t (Hold.t (Hold.t (Hold.t (Hold.t (Hold.t (Hold.t (Hold.t (Hold.t (Hold.t (Hold.t (Hold.t (Hold.t (Hold.t (Hold.t hold)))))))))))))))))))) | with_reducible apply Hold.h (Hold.t (Hold.t (Hold.t (Hold.t (Hold.t (Hold.t (Hold.t (Hold.t (Hold.t (Hold.t (Hold.t (Hold.t (Hold.t (Hold.t (Hold.t (Hold.t (Hold.t (Hold.t (Hold.t (Hold.t (Hold.t hold))))))))))))))))))))) | with_reducible apply Hold.h (Hold.t (Hold.t (Hold.t (Hold.t (Hold.t (Hold.t (Hold.t (Hold.t (Hold.t (Hold.t (Hold.t (Hold.t (Hold.t (Hold.t (Hold.t (Hold.t (Hold.t (Hold.t (Hold.t (Hold.t (Hold.t (Hold.t hold)))))))))))))))))))))) | with_reducible apply Hold.h (Hold.t (Hold.t (Hold.t (Hold.t (Hold.t (Hold.t (Hold.t (Hold.t (Hold.t (Hold.t (Hold.t (Hold.t (Hold.t (Hold.t (Hold.t (Hold.t (Hold.t (Hold.t (Hold.t (Hold.t (Hold.t (Hold.t (Hold.t hold)))))))))))))))))))))))))
    | (refine K.RT ?_; first
      | exact ReT.nil
      | refine ReT.same rfl rfl ?_
      | refine ReT.own rfl rfl rfl rfl rfl rfl (by first | rfl | omega | (simp; done) | (simp; omega)) ?_
      | refine ReT.i rfl ?_ ?_
      | refine ReT.b rfl ?_ ?_
      | refine ReT.z rfl ?_ ?_
      | refine ReT.z0 rfl ?_ ?_
      | refine ReT.u rfl ?_ ?_
      | refine ReT.ptr rfl rfl rfl rfl rfl ?_
      | refine ReT.gen ?_ ?_)
    | (refine TrueB.mk ?_; kernel_rfl)
    | (apply K.eq; first | exact rfl | omega | assumption | (simp; done) | (simp; omega) | (exact absurd (by simp; done) ‹¬ _›) | ((repeat (revert hgo)); first | with_reducible apply Hold.h hold | with_reducible apply Hold.h (Hold.t hold) | with_reducible apply Hold.h (Hold.t (Hold.t hold)) | with_reducible apply Hold.h (Hold.t (Hold.t (Hold.t hold))) | with_reducible apply Hold.h (Hold.t (Hold.t (Hold.t (Hold.t hold)))) | with_reducible apply Hold.h (Hold.t (Hold.t (Hold.t (Hold.t (Hold.t hold))))) | with_reducible apply Hold.h (Hold.t (Hold.t (Hold.t (Hold.t (Hold.t (Hold.t hold)))))) | with_reducible apply Hold.h (Hold.t (Hold.t (Hold.t (Hold.t (Hold.t (Hold.t (Hold.t hold))))))) | with_reducible apply Hold.h (Hold.t (Hold.t (Hold.t (Hold.t (Hold.t (Hold.t (Hold.t (Hold.t hold)))))))) | with_reducible apply Hold.h (Hold.t (Hold.t (Hold.t (Hold.t (Hold.t (Hold.t (Hold.t (Hold.t (Hold.t hold))))))))) | with_reducible apply Hold.h (Hold.t (Hold.t (Hold.t (Hold.t (Hold.t (Hold.t (Hold.t (Hold.t (Hold.t (Hold.t hold)))))))))) | with_reducible apply Hold.h (Hold.t (Hold.t (Hold.t (Hold.t (Hold.t (Hold.t (Hold.t (Hold.t (Hold.t (Hold.t (Hold.t hold))))))))))) | with_reducible apply Hold.h (Hold.t (Hold.t (Hold.t (Hold.t (Hold.t (Hold.t (Hold.t (Hold.t (Hold.t (Hold.t (Hold.t (Hold.t hold)))))))))))) | with_reducible apply Hold.h (Hold.t (Hold.t (Hold.t (Hold.t (Hold.t (Hold.t (Hold.t (Hold.t (Hold.t (Hold.t (Hold.t (Hold.t (Hold.t hold))))))))))))) | with_reducible apply Hold.h (Hold.t (Hold.t (Hold.t (Hold.t (Hold.t (Hold.t (Hold.t (Hold.t (Hold.t (Hold.t (Hold.t (Hold.t (Hold.t (Hold.t hold)))))))))))))) | with_reducible apply Hold.h (Hold.t (Hold.t (Hold.t (Hold.t (Hold.t (Hold.t (Hold.t (Hold.t (Hold.t (Hold.t (Hold.t (Hold.t (Hold.t (Hold.t (Hold.t hold))))))))))))))) | with_reducible apply Hold.h (Hold.t (Hold.t (Hold.t (Hold.t (Hold.t (Hold.t (Hold.t (Hold.t (Hold.t (Hold.t (Hold.t (Hold.t (Hold.t (Hold.t (Hold.t (Hold.t hold)))))))))))))))) | with_reducible apply Hold.h (Hold.t (Hold.t (Hold.t (Hold.t (Hold.t (Hold.t (Hold.t (Hold.t (Hold.t (Hold.t (Hold.t (Hold.t (Hold.t (Hold.t (Hold.t (Hold.t (Hold.t hold))))))))))))))))) | with_reducible apply Hold.h (Hold.t (Hold.t (Hold.t (Hold.t (Hold.t (Hold.t (Hold.t (Hold.t (Hold.t (Hold.t (Hold.t (Hold.t (Hold.t (Hold.t (Hold.t (Hold.t (Hold.t (Hold.t hold)))))))))))))))))) | with_reducible apply Hold.h (Hold.t (Hold.t (Hold.t (Hold.t (Hold.t (Hold.t (Hold.t (Hold.t (Hold.t (Hold.t (Hold.t (Hold.t (Hold.t (Hold.t (Hold.t (Hold.t (Hold.t (Hold.t (Hold.t hold))))))))))))))))))) | with_reducible apply Hold.h (Hold.t (Hold.t (Hold.t (Hold.t (Hold.t (Hold.t (Hold.t (Hold.t (Hold.t (Hold.t (Hold.t (Hold.t (Hold.t (Hold.t (Hold.t (Hold.t (Hold.t (Hold.t (Hold.t (Hold.t hold)))))))))))))))))))) | with_reducible apply Hold.h (Hold.t (Hold.t (Hold.t (Hold.t (Hold.t (Hold.t (Hold.t (Hold.t (Hold.t (Hold.t (Hold.t (Hold.t (Hold.t (Hold.t (Hold.t (Hold.t (Hold.t (Hold.t (Hold.t (Hold.t (Hold.t hold))))))))))))))))))))) | with_reducible apply Hold.h (Hold.t (Hold.t (Hold.t (Hold.t (Hold.t (Hold.t (Hold.t (Hold.t (Hold.t (Hold.t (Hold.t (Hold.t (Hold.t (Hold.t (Hold.t (Hold.t (Hold.t (Hold.t (Hold.t (Hold.t (Hold.t (Hold.t hold)))))))))))))))))))))) | with_reducible apply Hold.h (Hold.t (Hold.t (Hold.t (Hold.t (Hold.t (Hold.t (Hold.t (Hold.t (Hold.t (Hold.t (Hold.t (Hold.t (Hold.t (Hold.t (Hold.t (Hold.t (Hold.t (Hold.t (Hold.t (Hold.t (Hold.t (Hold.t (Hold.t hold)))))))))))))))))))))))))
    | (refine K.le ?_; first | omega | (simp; omega) | assumption | ((repeat (revert hgo)); first | with_reducible apply Hold.h hold | with_reducible apply Hold.h (Hold.t hold) | with_reducible apply Hold.h (Hold.t (Hold.t hold)) | with_reducible apply Hold.h (Hold.t (Hold.t (Hold.t hold))) | with_reducible apply Hold.h (Hold.t (Hold.t (Hold.t (Hold.t hold)))) | with_reducible apply Hold.h (Hold.t (Hold.t (Hold.t (Hold.t (Hold.t hold))))) | with_reducible apply Hold.h (Hold.t (Hold.t (Hold.t (Hold.t (Hold.t (Hold.t hold)))))) | with_reducible apply Hold.h (Hold.t (Hold.t (Hold.t (Hold.t (Hold.t (Hold.t (Hold.t hold))))))) | with_reducible apply Hold.h (Hold.t (Hold.t (Hold.t (Hold.t (Hold.t (Hold.t (Hold.t (Hold.t hold)))))))) | with_reducible apply Hold.h (Hold.t (Hold.t (Hold.t (Hold.t (Hold.t (Hold.t (Hold.t (Hold.t (Hold.t hold))))))))) | with_reducible apply Hold.h (Hold.t (Hold.t (Hold.t (Hold.t (Hold.t (Hold.t (Hold.t (Hold.t (Hold.t (Hold.t hold)))))))))) | with_reducible apply Hold.h (Hold.t (Hold.t (Hold.t (Hold.t (Hold.t (Hold.t (Hold.t (Hold.t (Hold.t (Hold.t (Hold.t hold))))))))))) | with_reducible apply Hold.h (Hold.t (Hold.t (Hold.t (Hold.t (Hold.t (Hold.t (Hold.t (Hold.t (Hold.t (Hold.t (Hold.t (Hold.t hold)))))))))))) | with_reducible apply Hold.h (Hold.t (Hold.t (Hold.t (Hold.t (Hold.t (Hold.t (Hold.t (Hold.t (Hold.t (Hold.t (Hold.t (Hold.t (Hold.t hold))))))))))))) | with_reducible apply Hold.h (Hold.t (Hold.t (Hold.t (Hold.t (Hold.t (Hold.t (Hold.t (Hold.t (Hold.t (Hold.t (Hold.t (Hold.t (Hold.t (Hold.t hold)))))))))))))) | with_reducible apply Hold.h (Hold.t (Hold.t (Hold.t (Hold.t (Hold.t (Hold.t (Hold.t (Hold.t (Hold.t (Hold.t (Hold.t (Hold.t (Hold.t (Hold.t (Hold.t hold))))))))))))))) | with_reducible apply Hold.h (Hold.t (Hold.t (Hold.t (Hold.t (Hold.t (Hold.t (Hold.t (Hold.t (Hold.t (Hold.t (Hold.t (Hold.t (Hold.t (Hold.t (Hold.t (Hold.t hold)))))))))))))))) | with_reducible apply Hold.h (Hold.t (Hold.t (Hold.t (Hold.t (Hold.t (Hold.t (Hold.t (Hold.t (Hold.t (Hold.t (Hold.t (Hold.t (Hold.t (Hold.t (Hold.t (Hold.t (Hold.t hold))))))))))))))))) | with_reducible apply Hold.h (Hold.t (Hold.t (Hold.t (Hold.t (Hold.t (Hold.t (Hold.t (Hold.t (Hold.t (Hold.t (Hold.t (Hold.t (Hold.t (Hold.t (Hold.t (Hold.t (Hold.t (Hold.t hold)))))))))))))))))) | with_reducible apply Hold.h (Hold.t (Hold.t (Hold.t (Hold.t (Hold.t (Hold.t (Hold.t (Hold.t (Hold.t (Hold.t (Hold.t (Hold.t (Hold.t (Hold.t (Hold.t (Hold.t (Hold.t (Hold.t (Hold.t hold))))))))))))))))))) | with_reducible apply Hold.h (Hold.t (Hold.t (Hold.t (Hold.t (Hold.t (Hold.t (Hold.t (Hold.t (Hold.t (Hold.t (Hold.t (Hold.t (Hold.t (Hold.t (Hold.t (Hold.t (Hold.t (Hold.t (Hold.t (Hold.t hold)))))))))))))))))))) | with_reducible apply Hold.h (Hold.t (Hold.t (Hold.t (Hold.t (Hold.t (Hold.t (Hold.t (Hold.t (Hold.t (Hold.t (Hold.t (Hold.t (Hold.t (Hold.t (Hold.t (Hold.t (Hold.t (Hold.t (Hold.t (Hold.t (Hold.t hold))))))))))))))))))))) | with_reducible apply Hold.h (Hold.t (Hold.t (Hold.t (Hold.t (Hold.t (Hold.t (Hold.t (Hold.t (Hold.t (Hold.t (Hold.t (Hold.t (Hold.t (Hold.t (Hold.t (Hold.t (Hold.t (Hold.t (Hold.t (Hold.t (Hold.t (Hold.t hold)))))))))))))))))))))) | with_reducible apply Hold.h (Hold.t (Hold.t (Hold.t (Hold.t (Hold.t (Hold.t (Hold.t (Hold.t (Hold.t (Hold.t (Hold.t (Hold.t (Hold.t (Hold.t (Hold.t (Hold.t (Hold.t (Hold.t (Hold.t (Hold.t (Hold.t (Hold.t (Hold.t hold)))))))))))))))))))))))))
    | (refine K.lt ?_; first | omega | (simp; omega) | assumption | ((repeat (revert hgo)); first | with_reducible apply Hold.h hold | with_reducible apply Hold.h (Hold.t hold) | with_reducible apply Hold.h (Hold.t (Hold.t hold)) | with_reducible apply Hold.h (Hold.t (Hold.t (Hold.t hold))) | with_reducible apply Hold.h (Hold.t (Hold.t (Hold.t (Hold.t hold)))) | with_reducible apply Hold.h (Hold.t (Hold.t (Hold.t (Hold.t (Hold.t hold))))) | with_reducible apply Hold.h (Hold.t (Hold.t (Hold.t (Hold.t (Hold.t (Hold.t hold)))))) | with_reducible apply Hold.h (Hold.t (Hold.t (Hold.t (Hold.t (Hold.t (Hold.t (Hold.t hold))))))) | with_reducible apply Hold.h (Hold.t (Hold.t (Hold.t (Hold.t (Hold.t (Hold.t (Hold.t (Hold.t hold)))))))) | with_reducible apply Hold.h (Hold.t (Hold.t (Hold.t (Hold.t (Hold.t (Hold.t (Hold.t (Hold.t (Hold.t hold))))))))) | with_reducible apply Hold.h (Hold.t (Hold.t (Hold.t (Hold.t (Hold.t (Hold.t (Hold.t (Hold.t (Hold.t (Hold.t hold)))))))))) | with_reducible apply Hold.h (Hold.t (Hold.t (Hold.t (Hold.t (Hold.t (Hold.t (Hold.t (Hold.t (Hold.t (Hold.t (Hold.t hold))))))))))) | with_reducible apply Hold.h (Hold.t (Hold.t (Hold.t (Hold.t (Hold.t (Hold.t (Hold.t (Hold.t (Hold.t (Hold.t (Hold.t (Hold.t hold)))))))))))) | with_reducible apply Hold.h (Hold.t (Hold.t (Hold.t (Hold.t (Hold.t (Hold.t (Hold.t (Hold.t (Hold.t (Hold.t (Hold.t (Hold.t (Hold.t hold))))))))))))) | with_reducible apply Hold.h (Hold.t (Hold.t (Hold.t (Hold.t (Hold.t (Hold.t (Hold.t (Hold.t (Hold.t (Hold.t (Hold.t (Hold.t (Hold.t (Hold.t hold)))))))))))))) | with_reducible apply Hold.h (Hold.t (Hold.t (Hold.t (Hold.t (Hold.t (Hold.t (Hold.t (Hold.t (Hold.t (Hold.t (Hold.t (Hold.t (Hold.t (Hold.t (Hold.t hold))))))))))))))) | with_reducible apply Hold.h (Hold.t (Hold.t (Hold.t (Hold.t (Hold.t (Hold.t (Hold.t (Hold.t (Hold.t (Hold.t (Hold.t (Hold.t (Hold.t (Hold.t (Hold.t (Hold.t hold)))))))))))))))) | with_reducible apply Hold.h (Hold.t (Hold.t (Hold.t (Hold.t (Hold.t (Hold.t (Hold.t (Hold.t (Hold.t (Hold.t (Hold.t (Hold.t (Hold.t (Hold.t (Hold.t (Hold.t (Hold.t hold))))))))))))))))) | with_reducible apply Hold.h (Hold.t (Hold.t (Hold.t (Hold.t (Hold.t (Hold.t (Hold.t (Hold.t (Hold.t (Hold.t (Hold.t (Hold.t (Hold.t (Hold.t (Hold.t (Hold.t (Hold.t (Hold.t hold)))))))))))))))))) | with_reducible apply Hold.h (Hold.t (Hold.t (Hold.t (Hold.t (Hold.t (Hold.t (Hold.t (Hold.t (Hold.t (Hold.t (Hold.t (Hold.t (Hold.t (Hold.t (Hold.t (Hold.t (Hold.t (Hold.t (Hold.t hold))))))))))))))))))) | with_reducible apply Hold.h (Hold.t (Hold.t (Hold.t (Hold.t (Hold.t (Hold.t (Hold.t (Hold.t (Hold.t (Hold.t (Hold.t (Hold.t (Hold.t (Hold.t (Hold.t (Hold.t (Hold.t (Hold.t (Hold.t (Hold.t hold)))))))))))))))))))) | with_reducible apply Hold.h (Hold.t (Hold.t (Hold.t (Hold.t (Hold.t (Hold.t (Hold.t (Hold.t (Hold.t (Hold.t (Hold.t (Hold.t (Hold.t (Hold.t (Hold.t (Hold.t (Hold.t (Hold.t (Hold.t (Hold.t (Hold.t hold))))))))))))))))))))) | with_reducible apply Hold.h (Hold.t (Hold.t (Hold.t (Hold.t (Hold.t (Hold.t (Hold.t (Hold.t (Hold.t (Hold.t (Hold.t (Hold.t (Hold.t (Hold.t (Hold.t (Hold.t (Hold.t (Hold.t (Hold.t (Hold.t (Hold.t (Hold.t hold)))))))))))))))))))))) | with_reducible apply Hold.h (Hold.t (Hold.t (Hold.t (Hold.t (Hold.t (Hold.t (Hold.t (Hold.t (Hold.t (Hold.t (Hold.t (Hold.t (Hold.t (Hold.t (Hold.t (Hold.t (Hold.t (Hold.t (Hold.t (Hold.t (Hold.t (Hold.t (Hold.t hold)))))))))))))))))))))))))
    | refine And.intro ?_ ?_
    | (refine K.RO ?_; first
      | exact ReO.nil
      | refine ReO.ints ?_ (by first | exact .inl rfl | exact .inr rfl) ?_
      | refine ReO.u8s ?_ (by first | exact .inl rfl | exact .inr rfl) ?_
      | refine ReO.bools ?_ (by first | exact .inl rfl | exact .inr rfl) ?_
      | refine ReO.strs ?_ (by first | exact .inl rfl | exact .inr rfl) ?_
      | refine ReO.rows (fun _ => rfl) ?_ (by first | exact .inl rfl | exact .inr rfl) ?_
      | refine ReO.cons (Re.same rfl rfl) (by first | exact .inl rfl | exact .inr rfl) ?_
      | refine ReO.cons ?_ (by first | exact .inl rfl | exact .inr rfl) ?_)
    | (refine K.W ?_; first
      | refine Weak.nestBlk (id := 0) rfl rfl rfl (by first | exact Nat.zero_le _ | exact Nat.le_of_ble_eq_true rfl) (by first | rfl | omega | (simp; done) | (simp; omega)) (by first | rfl | omega | (simp; done) | (simp; omega)) ?_
      | refine Weak.nestBlk (id := 1) rfl rfl rfl (by first | exact Nat.zero_le _ | exact Nat.le_of_ble_eq_true rfl) (by first | rfl | omega | (simp; done) | (simp; omega)) (by first | rfl | omega | (simp; done) | (simp; omega)) ?_
      | refine Weak.nestMb (id := 0) rfl rfl rfl (by first | exact Nat.zero_le _ | exact Nat.le_of_ble_eq_true rfl) (by first | rfl | omega | (simp; done) | (simp; omega)) (by first | rfl | omega | (simp; done) | (simp; omega)) ?_
      | refine Weak.nestMb (id := 1) rfl rfl rfl (by first | exact Nat.zero_le _ | exact Nat.le_of_ble_eq_true rfl) (by first | rfl | omega | (simp; done) | (simp; omega)) (by first | rfl | omega | (simp; done) | (simp; omega)) ?_
      | refine Weak.nestLi (id := 0) rfl rfl rfl (by first | exact Nat.zero_le _ | exact Nat.le_of_ble_eq_true rfl) (by first | rfl | omega | (simp; done) | (simp; omega)) (by first | rfl | omega | (simp; done) | (simp; omega)) ?_
      | refine Weak.nestLi (id := 1) rfl rfl rfl (by first | exact Nat.zero_le _ | exact Nat.le_of_ble_eq_true rfl) (by first | rfl | omega | (simp; done) | (simp; omega)) (by first | rfl | omega | (simp; done) | (simp; omega)) ?_
      | refine Weak.mk ?_ ?_ (by first | exact Nat.zero_le _ | exact Nat.le_of_ble_eq_true rfl))
    | refine Abs.Seq.ret ?_
    | refine Abs.Seq.exit ?_
    | refine Blk.n ?_
    | refine Blk.ret ?_
    | refine Blk.exitHere ?_
    | refine Blk.exitOther rfl ?_
    | (refine K.R ?_; first
      | refine Rnd.ret ?_
      | refine Rnd.exit ?_
      | refine Rnd.succ ?_ ?_ ?_
      | ((repeat (revert hgo)); first | with_reducible apply Hold.h hold | with_reducible apply Hold.h (Hold.t hold) | with_reducible apply Hold.h (Hold.t (Hold.t hold)) | with_reducible apply Hold.h (Hold.t (Hold.t (Hold.t hold))) | with_reducible apply Hold.h (Hold.t (Hold.t (Hold.t (Hold.t hold)))) | with_reducible apply Hold.h (Hold.t (Hold.t (Hold.t (Hold.t (Hold.t hold))))) | with_reducible apply Hold.h (Hold.t (Hold.t (Hold.t (Hold.t (Hold.t (Hold.t hold)))))) | with_reducible apply Hold.h (Hold.t (Hold.t (Hold.t (Hold.t (Hold.t (Hold.t (Hold.t hold))))))) | with_reducible apply Hold.h (Hold.t (Hold.t (Hold.t (Hold.t (Hold.t (Hold.t (Hold.t (Hold.t hold)))))))) | with_reducible apply Hold.h (Hold.t (Hold.t (Hold.t (Hold.t (Hold.t (Hold.t (Hold.t (Hold.t (Hold.t hold))))))))) | with_reducible apply Hold.h (Hold.t (Hold.t (Hold.t (Hold.t (Hold.t (Hold.t (Hold.t (Hold.t (Hold.t (Hold.t hold)))))))))) | with_reducible apply Hold.h (Hold.t (Hold.t (Hold.t (Hold.t (Hold.t (Hold.t (Hold.t (Hold.t (Hold.t (Hold.t (Hold.t hold))))))))))) | with_reducible apply Hold.h (Hold.t (Hold.t (Hold.t (Hold.t (Hold.t (Hold.t (Hold.t (Hold.t (Hold.t (Hold.t (Hold.t (Hold.t hold)))))))))))) | with_reducible apply Hold.h (Hold.t (Hold.t (Hold.t (Hold.t (Hold.t (Hold.t (Hold.t (Hold.t (Hold.t (Hold.t (Hold.t (Hold.t (Hold.t hold))))))))))))) | with_reducible apply Hold.h (Hold.t (Hold.t (Hold.t (Hold.t (Hold.t (Hold.t (Hold.t (Hold.t (Hold.t (Hold.t (Hold.t (Hold.t (Hold.t (Hold.t hold)))))))))))))) | with_reducible apply Hold.h (Hold.t (Hold.t (Hold.t (Hold.t (Hold.t (Hold.t (Hold.t (Hold.t (Hold.t (Hold.t (Hold.t (Hold.t (Hold.t (Hold.t (Hold.t hold))))))))))))))) | with_reducible apply Hold.h (Hold.t (Hold.t (Hold.t (Hold.t (Hold.t (Hold.t (Hold.t (Hold.t (Hold.t (Hold.t (Hold.t (Hold.t (Hold.t (Hold.t (Hold.t (Hold.t hold)))))))))))))))) | with_reducible apply Hold.h (Hold.t (Hold.t (Hold.t (Hold.t (Hold.t (Hold.t (Hold.t (Hold.t (Hold.t (Hold.t (Hold.t (Hold.t (Hold.t (Hold.t (Hold.t (Hold.t (Hold.t hold))))))))))))))))) | with_reducible apply Hold.h (Hold.t (Hold.t (Hold.t (Hold.t (Hold.t (Hold.t (Hold.t (Hold.t (Hold.t (Hold.t (Hold.t (Hold.t (Hold.t (Hold.t (Hold.t (Hold.t (Hold.t (Hold.t hold)))))))))))))))))) | with_reducible apply Hold.h (Hold.t (Hold.t (Hold.t (Hold.t (Hold.t (Hold.t (Hold.t (Hold.t (Hold.t (Hold.t (Hold.t (Hold.t (Hold.t (Hold.t (Hold.t (Hold.t (Hold.t (Hold.t (Hold.t hold))))))))))))))))))) | with_reducible apply Hold.h (Hold.t (Hold.t (Hold.t (Hold.t (Hold.t (Hold.t (Hold.t (Hold.t (Hold.t (Hold.t (Hold.t (Hold.t (Hold.t (Hold.t (Hold.t (Hold.t (Hold.t (Hold.t (Hold.t (Hold.t hold)))))))))))))))))))) | with_reducible apply Hold.h (Hold.t (Hold.t (Hold.t (Hold.t (Hold.t (Hold.t (Hold.t (Hold.t (Hold.t (Hold.t (Hold.t (Hold.t (Hold.t (Hold.t (Hold.t (Hold.t (Hold.t (Hold.t (Hold.t (Hold.t (Hold.t hold))))))))))))))))))))) | with_reducible apply Hold.h (Hold.t (Hold.t (Hold.t (Hold.t (Hold.t (Hold.t (Hold.t (Hold.t (Hold.t (Hold.t (Hold.t (Hold.t (Hold.t (Hold.t (Hold.t (Hold.t (Hold.t (Hold.t (Hold.t (Hold.t (Hold.t (Hold.t hold)))))))))))))))))))))) | with_reducible apply Hold.h (Hold.t (Hold.t (Hold.t (Hold.t (Hold.t (Hold.t (Hold.t (Hold.t (Hold.t (Hold.t (Hold.t (Hold.t (Hold.t (Hold.t (Hold.t (Hold.t (Hold.t (Hold.t (Hold.t (Hold.t (Hold.t (Hold.t (Hold.t hold)))))))))))))))))))))))))
    | (refine K.F ?_; first
      | apply Fin.one0
      | apply Fin.one1
      | apply Fin.one2
      | apply Fin.one3
      | apply Fin.two0
      | apply Fin.two1
      | apply Fin.two2
      | apply Fin.two3
      | apply Fin.three0
      | apply Fin.three1
      | apply Fin.three2
      | apply Fin.three3
      | ((repeat (revert hgo)); first | with_reducible apply Hold.h hold | with_reducible apply Hold.h (Hold.t hold) | with_reducible apply Hold.h (Hold.t (Hold.t hold)) | with_reducible apply Hold.h (Hold.t (Hold.t (Hold.t hold))) | with_reducible apply Hold.h (Hold.t (Hold.t (Hold.t (Hold.t hold)))) | with_reducible apply Hold.h (Hold.t (Hold.t (Hold.t (Hold.t (Hold.t hold))))) | with_reducible apply Hold.h (Hold.t (Hold.t (Hold.t (Hold.t (Hold.t (Hold.t hold)))))) | with_reducible apply Hold.h (Hold.t (Hold.t (Hold.t (Hold.t (Hold.t (Hold.t (Hold.t hold))))))) | with_reducible apply Hold.h (Hold.t (Hold.t (Hold.t (Hold.t (Hold.t (Hold.t (Hold.t (Hold.t hold)))))))) | with_reducible apply Hold.h (Hold.t (Hold.t (Hold.t (Hold.t (Hold.t (Hold.t (Hold.t (Hold.t (Hold.t hold))))))))) | with_reducible apply Hold.h (Hold.t (Hold.t (Hold.t (Hold.t (Hold.t (Hold.t (Hold.t (Hold.t (Hold.t (Hold.t hold)))))))))) | with_reducible apply Hold.h (Hold.t (Hold.t (Hold.t (Hold.t (Hold.t (Hold.t (Hold.t (Hold.t (Hold.t (Hold.t (Hold.t hold))))))))))) | with_reducible apply Hold.h (Hold.t (Hold.t (Hold.t (Hold.t (Hold.t (Hold.t (Hold.t (Hold.t (Hold.t (Hold.t (Hold.t (Hold.t hold)))))))))))) | with_reducible apply Hold.h (Hold.t (Hold.t (Hold.t (Hold.t (Hold.t (Hold.t (Hold.t (Hold.t (Hold.t (Hold.t (Hold.t (Hold.t (Hold.t hold))))))))))))) | with_reducible apply Hold.h (Hold.t (Hold.t (Hold.t (Hold.t (Hold.t (Hold.t (Hold.t (Hold.t (Hold.t (Hold.t (Hold.t (Hold.t (Hold.t (Hold.t hold)))))))))))))) | with_reducible apply Hold.h (Hold.t (Hold.t (Hold.t (Hold.t (Hold.t (Hold.t (Hold.t (Hold.t (Hold.t (Hold.t (Hold.t (Hold.t (Hold.t (Hold.t (Hold.t hold))))))))))))))) | with_reducible apply Hold.h (Hold.t (Hold.t (Hold.t (Hold.t (Hold.t (Hold.t (Hold.t (Hold.t (Hold.t (Hold.t (Hold.t (Hold.t (Hold.t (Hold.t (Hold.t (Hold.t hold)))))))))))))))) | with_reducible apply Hold.h (Hold.t (Hold.t (Hold.t (Hold.t (Hold.t (Hold.t (Hold.t (Hold.t (Hold.t (Hold.t (Hold.t (Hold.t (Hold.t (Hold.t (Hold.t (Hold.t (Hold.t hold))))))))))))))))) | with_reducible apply Hold.h (Hold.t (Hold.t (Hold.t (Hold.t (Hold.t (Hold.t (Hold.t (Hold.t (Hold.t (Hold.t (Hold.t (Hold.t (Hold.t (Hold.t (Hold.t (Hold.t (Hold.t (Hold.t hold)))))))))))))))))) | with_reducible apply Hold.h (Hold.t (Hold.t (Hold.t (Hold.t (Hold.t (Hold.t (Hold.t (Hold.t (Hold.t (Hold.t (Hold.t (Hold.t (Hold.t (Hold.t (Hold.t (Hold.t (Hold.t (Hold.t (Hold.t hold))))))))))))))))))) | with_reducible apply Hold.h (Hold.t (Hold.t (Hold.t (Hold.t (Hold.t (Hold.t (Hold.t (Hold.t (Hold.t (Hold.t (Hold.t (Hold.t (Hold.t (Hold.t (Hold.t (Hold.t (Hold.t (Hold.t (Hold.t (Hold.t hold)))))))))))))))))))) | with_reducible apply Hold.h (Hold.t (Hold.t (Hold.t (Hold.t (Hold.t (Hold.t (Hold.t (Hold.t (Hold.t (Hold.t (Hold.t (Hold.t (Hold.t (Hold.t (Hold.t (Hold.t (Hold.t (Hold.t (Hold.t (Hold.t (Hold.t hold))))))))))))))))))))) | with_reducible apply Hold.h (Hold.t (Hold.t (Hold.t (Hold.t (Hold.t (Hold.t (Hold.t (Hold.t (Hold.t (Hold.t (Hold.t (Hold.t (Hold.t (Hold.t (Hold.t (Hold.t (Hold.t (Hold.t (Hold.t (Hold.t (Hold.t (Hold.t hold)))))))))))))))))))))) | with_reducible apply Hold.h (Hold.t (Hold.t (Hold.t (Hold.t (Hold.t (Hold.t (Hold.t (Hold.t (Hold.t (Hold.t (Hold.t (Hold.t (Hold.t (Hold.t (Hold.t (Hold.t (Hold.t (Hold.t (Hold.t (Hold.t (Hold.t (Hold.t (Hold.t hold)))))))))))))))))))))))))
    | (refine K.FG ?_; first
      | apply FinG.o10
      | apply FinG.o11
      | apply FinG.o20
      | apply FinG.o21
      | apply FinG.o30
      | apply FinG.o31
      | apply FinG.o40
      | apply FinG.o41
      | apply FinG.z10
      | apply FinG.z11
      | apply FinG.z20
      | apply FinG.z21
      | apply FinG.z30
      | apply FinG.z31
      | apply FinG.z40
      | apply FinG.z41
      | apply FinG.t10
      | apply FinG.t11
      | apply FinG.t20
      | apply FinG.t21
      | apply FinG.t30
      | apply FinG.t31
      | apply FinG.t40
      | apply FinG.t41
      | ((repeat (revert hgo)); first | with_reducible apply Hold.h hold | with_reducible apply Hold.h (Hold.t hold) | with_reducible apply Hold.h (Hold.t (Hold.t hold)) | with_reducible apply Hold.h (Hold.t (Hold.t (Hold.t hold))) | with_reducible apply Hold.h (Hold.t (Hold.t (Hold.t (Hold.t hold)))) | with_reducible apply Hold.h (Hold.t (Hold.t (Hold.t (Hold.t (Hold.t hold))))) | with_reducible apply Hold.h (Hold.t (Hold.t (Hold.t (Hold.t (Hold.t (Hold.t hold)))))) | with_reducible apply Hold.h (Hold.t (Hold.t (Hold.t (Hold.t (Hold.t (Hold.t (Hold.t hold))))))) | with_reducible apply Hold.h (Hold.t (Hold.t (Hold.t (Hold.t (Hold.t (Hold.t (Hold.t (Hold.t hold)))))))) | with_reducible apply Hold.h (Hold.t (Hold.t (Hold.t (Hold.t (Hold.t (Hold.t (Hold.t (Hold.t (Hold.t hold))))))))) | with_reducible apply Hold.h (Hold.t (Hold.t (Hold.t (Hold.t (Hold.t (Hold.t (Hold.t (Hold.t (Hold.t (Hold.t hold)))))))))) | with_reducible apply Hold.h (Hold.t (Hold.t (Hold.t (Hold.t (Hold.t (Hold.t (Hold.t (Hold.t (Hold.t (Hold.t (Hold.t hold))))))))))) | with_reducible apply Hold.h (Hold.t (Hold.t (Hold.t (Hold.t (Hold.t (Hold.t (Hold.t (Hold.t (Hold.t (Hold.t (Hold.t (Hold.t hold)))))))))))) | with_reducible apply Hold.h (Hold.t (Hold.t (Hold.t (Hold.t (Hold.t (Hold.t (Hold.t (Hold.t (Hold.t (Hold.t (Hold.t (Hold.t (Hold.t hold))))))))))))) | with_reducible apply Hold.h (Hold.t (Hold.t (Hold.t (Hold.t (Hold.t (Hold.t (Hold.t (Hold.t (Hold.t (Hold.t (Hold.t (Hold.t (Hold.t (Hold.t hold)))))))))))))) | with_reducible apply Hold.h (Hold.t (Hold.t (Hold.t (Hold.t (Hold.t (Hold.t (Hold.t (Hold.t (Hold.t (Hold.t (Hold.t (Hold.t (Hold.t (Hold.t (Hold.t hold))))))))))))))) | with_reducible apply Hold.h (Hold.t (Hold.t (Hold.t (Hold.t (Hold.t (Hold.t (Hold.t (Hold.t (Hold.t (Hold.t (Hold.t (Hold.t (Hold.t (Hold.t (Hold.t (Hold.t hold)))))))))))))))) | with_reducible apply Hold.h (Hold.t (Hold.t (Hold.t (Hold.t (Hold.t (Hold.t (Hold.t (Hold.t (Hold.t (Hold.t (Hold.t (Hold.t (Hold.t (Hold.t (Hold.t (Hold.t (Hold.t hold))))))))))))))))) | with_reducible apply Hold.h (Hold.t (Hold.t (Hold.t (Hold.t (Hold.t (Hold.t (Hold.t (Hold.t (Hold.t (Hold.t (Hold.t (Hold.t (Hold.t (Hold.t (Hold.t (Hold.t (Hold.t (Hold.t hold)))))))))))))))))) | with_reducible apply Hold.h (Hold.t (Hold.t (Hold.t (Hold.t (Hold.t (Hold.t (Hold.t (Hold.t (Hold.t (Hold.t (Hold.t (Hold.t (Hold.t (Hold.t (Hold.t (Hold.t (Hold.t (Hold.t (Hold.t hold))))))))))))))))))) | with_reducible apply Hold.h (Hold.t (Hold.t (Hold.t (Hold.t (Hold.t (Hold.t (Hold.t (Hold.t (Hold.t (Hold.t (Hold.t (Hold.t (Hold.t (Hold.t (Hold.t (Hold.t (Hold.t (Hold.t (Hold.t (Hold.t hold)))))))))))))))))))) | with_reducible apply Hold.h (Hold.t (Hold.t (Hold.t (Hold.t (Hold.t (Hold.t (Hold.t (Hold.t (Hold.t (Hold.t (Hold.t (Hold.t (Hold.t (Hold.t (Hold.t (Hold.t (Hold.t (Hold.t (Hold.t (Hold.t (Hold.t hold))))))))))))))))))))) | with_reducible apply Hold.h (Hold.t (Hold.t (Hold.t (Hold.t (Hold.t (Hold.t (Hold.t (Hold.t (Hold.t (Hold.t (Hold.t (Hold.t (Hold.t (Hold.t (Hold.t (Hold.t (Hold.t (Hold.t (Hold.t (Hold.t (Hold.t (Hold.t hold)))))))))))))))))))))) | with_reducible apply Hold.h (Hold.t (Hold.t (Hold.t (Hold.t (Hold.t (Hold.t (Hold.t (Hold.t (Hold.t (Hold.t (Hold.t (Hold.t (Hold.t (Hold.t (Hold.t (Hold.t (Hold.t (Hold.t (Hold.t (Hold.t (Hold.t (Hold.t (Hold.t hold)))))))))))))))))))))))))
    | exact ResV.tmp rfl
    | exact ResV.cellP rfl rfl rfl rfl rfl
    | exact ResV.cell (ds := [_]) rfl rfl rfl rfl rfl
    | exact ResV.cell (ds := [_, _]) rfl rfl rfl rfl rfl
    | exact ResV.cell (ds := [_, _, _]) rfl rfl rfl rfl rfl
    | exact ResV.cell (ds := [_, _, _, _]) rfl rfl rfl rfl rfl
    | exact ResV.cell (ds := [_, _, _, _, _]) rfl rfl rfl rfl rfl
    | exact ResV.cell (ds := [_, _, _, _, _, _]) rfl rfl rfl rfl rfl
    | exact ResV.cell (ds := [_, _, _, _, _, _, _]) rfl rfl rfl rfl rfl
    | exact ResV.cell (ds := [_, _, _, _, _, _, _, _]) rfl rfl rfl rfl rfl
    | (refine K.E ?_; first
      | exact Ex.nil
      | refine Ex.keep rfl rfl rfl ?_
      | refine Ex.own rfl rfl rfl rfl ?_
      | refine Ex.own rfl rfl rfl ?_ ?_
      | refine Ex.nilO rfl ?_
      | refine Ex.nilO' rfl ?_ ?_
      | refine Ex.agg ?_ ?_
      | refine Ex.tup ?_ ?_
      | refine Ex.i ?_ ?_
      | refine Ex.b ?_ ?_
      | refine Ex.z ?_ ?_
      | refine Ex.z0 ?_ ?_)
    | (refine K.NE ?_; first
      | exact NEx.nil
      | refine NEx.ints rfl ?_ ?_
      | refine NEx.u8s rfl ?_ ?_
      | refine NEx.bools rfl ?_ ?_
      | refine NEx.strs rfl ?_ ?_
      | refine NEx.noInts ?_ ?_
      | refine NEx.noU8s ?_ ?_
      | refine NEx.noBools ?_ ?_
      | refine NEx.noStrs ?_ ?_
      | refine NEx.intsN rfl ?_ ?_
      | refine NEx.rows (fun _ => rfl) rfl ?_ ?_
      | refine NEx.noRows ?_ ?_
      | refine NEx.gone ?_ rfl ?_
      | refine NEx.obj rfl ?_ rfl rfl rfl (.inr rfl) ?_)
    | exact Re.nil
    | refine Re.keep rfl rfl ?_
    | refine Re.fn rfl ?_
    | refine Re.own rfl rfl rfl rfl rfl (by first | rfl | omega | (simp; done) | (simp; omega)) ?_
    | refine Re.ptr rfl rfl rfl rfl ?_
    | refine Re.agg ?_ ?_
    | refine Re.tup ?_ ?_
    | refine Re.i ?_ ?_
    | refine Re.b ?_ ?_
    | refine Re.z ?_ ?_
    | exact rfl
    | (refine K.prp ?_; contradiction)
    | omega
    | (refine K.prp ?_; assumption)
    | (refine fun hgo => ?_)
    | (simp; done)
    | (simp; omega)
    | ((repeat (revert hgo)); first | with_reducible apply Hold.h hold | with_reducible apply Hold.h (Hold.t hold) | with_reducible apply Hold.h (Hold.t (Hold.t hold)) | with_reducible apply Hold.h (Hold.t (Hold.t (Hold.t hold))) | with_reducible apply Hold.h (Hold.t (Hold.t (Hold.t (Hold.t hold)))) | with_reducible apply Hold.h (Hold.t (Hold.t (Hold.t (Hold.t (Hold.t hold))))) | with_reducible apply Hold.h (Hold.t (Hold.t (Hold.t (Hold.t (Hold.t (Hold.t hold)))))) | with_reducible apply Hold.h (Hold.t (Hold.t (Hold.t (Hold.t (Hold.t (Hold.t (Hold.t hold))))))) | with_reducible apply Hold.h (Hold.t (Hold.t (Hold.t (Hold.t (Hold.t (Hold.t (Hold.t (Hold.t hold)))))))) | with_reducible apply Hold.h (Hold.t (Hold.t (Hold.t (Hold.t (Hold.t (Hold.t (Hold.t (Hold.t (Hold.t hold))))))))) | with_reducible apply Hold.h (Hold.t (Hold.t (Hold.t (Hold.t (Hold.t (Hold.t (Hold.t (Hold.t (Hold.t (Hold.t hold)))))))))) | with_reducible apply Hold.h (Hold.t (Hold.t (Hold.t (Hold.t (Hold.t (Hold.t (Hold.t (Hold.t (Hold.t (Hold.t (Hold.t hold))))))))))) | with_reducible apply Hold.h (Hold.t (Hold.t (Hold.t (Hold.t (Hold.t (Hold.t (Hold.t (Hold.t (Hold.t (Hold.t (Hold.t (Hold.t hold)))))))))))) | with_reducible apply Hold.h (Hold.t (Hold.t (Hold.t (Hold.t (Hold.t (Hold.t (Hold.t (Hold.t (Hold.t (Hold.t (Hold.t (Hold.t (Hold.t hold))))))))))))) | with_reducible apply Hold.h (Hold.t (Hold.t (Hold.t (Hold.t (Hold.t (Hold.t (Hold.t (Hold.t (Hold.t (Hold.t (Hold.t (Hold.t (Hold.t (Hold.t hold)))))))))))))) | with_reducible apply Hold.h (Hold.t (Hold.t (Hold.t (Hold.t (Hold.t (Hold.t (Hold.t (Hold.t (Hold.t (Hold.t (Hold.t (Hold.t (Hold.t (Hold.t (Hold.t hold))))))))))))))) | with_reducible apply Hold.h (Hold.t (Hold.t (Hold.t (Hold.t (Hold.t (Hold.t (Hold.t (Hold.t (Hold.t (Hold.t (Hold.t (Hold.t (Hold.t (Hold.t (Hold.t (Hold.t hold)))))))))))))))) | with_reducible apply Hold.h (Hold.t (Hold.t (Hold.t (Hold.t (Hold.t (Hold.t (Hold.t (Hold.t (Hold.t (Hold.t (Hold.t (Hold.t (Hold.t (Hold.t (Hold.t (Hold.t (Hold.t hold))))))))))))))))) | with_reducible apply Hold.h (Hold.t (Hold.t (Hold.t (Hold.t (Hold.t (Hold.t (Hold.t (Hold.t (Hold.t (Hold.t (Hold.t (Hold.t (Hold.t (Hold.t (Hold.t (Hold.t (Hold.t (Hold.t hold)))))))))))))))))) | with_reducible apply Hold.h (Hold.t (Hold.t (Hold.t (Hold.t (Hold.t (Hold.t (Hold.t (Hold.t (Hold.t (Hold.t (Hold.t (Hold.t (Hold.t (Hold.t (Hold.t (Hold.t (Hold.t (Hold.t (Hold.t hold))))))))))))))))))) | with_reducible apply Hold.h (Hold.t (Hold.t (Hold.t (Hold.t (Hold.t (Hold.t (Hold.t (Hold.t (Hold.t (Hold.t (Hold.t (Hold.t (Hold.t (Hold.t (Hold.t (Hold.t (Hold.t (Hold.t (Hold.t (Hold.t hold)))))))))))))))))))) | with_reducible apply Hold.h (Hold.t (Hold.t (Hold.t (Hold.t (Hold.t (Hold.t (Hold.t (Hold.t (Hold.t (Hold.t (Hold.t (Hold.t (Hold.t (Hold.t (Hold.t (Hold.t (Hold.t (Hold.t (Hold.t (Hold.t (Hold.t hold))))))))))))))))))))) | with_reducible apply Hold.h (Hold.t (Hold.t (Hold.t (Hold.t (Hold.t (Hold.t (Hold.t (Hold.t (Hold.t (Hold.t (Hold.t (Hold.t (Hold.t (Hold.t (Hold.t (Hold.t (Hold.t (Hold.t (Hold.t (Hold.t (Hold.t (Hold.t hold)))))))))))))))))))))) | with_reducible apply Hold.h (Hold.t (Hold.t (Hold.t (Hold.t (Hold.t (Hold.t (Hold.t (Hold.t (Hold.t (Hold.t (Hold.t (Hold.t (Hold.t (Hold.t (Hold.t (Hold.t (Hold.t (Hold.t (Hold.t (Hold.t (Hold.t (Hold.t (Hold.t hold)))))))))))))))))))))))))
    all_goals (try ((repeat (revert hgo)); first | with_reducible apply Hold.h hold | with_reducible apply Hold.h (Hold.t hold) | with_reducible apply Hold.h (Hold.t (Hold.t hold)) | with_reducible apply Hold.h (Hold.t (Hold.t (Hold.t hold))) | with_reducible apply Hold.h (Hold.t (Hold.t (Hold.t (Hold.t hold)))) | with_reducible apply Hold.h (Hold.t (Hold.t (Hold.t (Hold.t (Hold.t hold))))) | with_reducible apply Hold.h (Hold.t (Hold.t (Hold.t (Hold.t (Hold.t (Hold.t hold)))))) | with_reducible apply Hold.h (Hold.t (Hold.t (Hold.t (Hold.t (Hold.t (Hold.t (Hold.t hold))))))) | with_reducible apply Hold.h (Hold.t (Hold.t (Hold.t (Hold.t (Hold.t (Hold.t (Hold.t (Hold.t hold)))))))) | with_reducible apply Hold.h (Hold.t (Hold.t (Hold.t (Hold.t (Hold.t (Hold.t (Hold.t (Hold.t (Hold.t hold))))))))) | with_reducible apply Hold.h (Hold.t (Hold.t (Hold.t (Hold.t (Hold.t (Hold.t (Hold.t (Hold.t (Hold.t (Hold.t hold)))))))))) | with_reducible apply Hold.h (Hold.t (Hold.t (Hold.t (Hold.t (Hold.t (Hold.t (Hold.t (Hold.t (Hold.t (Hold.t (Hold.t hold))))))))))) | with_reducible apply Hold.h (Hold.t (Hold.t (Hold.t (Hold.t (Hold.t (Hold.t (Hold.t (Hold.t (Hold.t (Hold.t (Hold.t (Hold.t hold)))))))))))) | with_reducible apply Hold.h (Hold.t (Hold.t (Hold.t (Hold.t (Hold.t (Hold.t (Hold.t (Hold.t (Hold.t (Hold.t (Hold.t (Hold.t (Hold.t hold))))))))))))) | with_reducible apply Hold.h (Hold.t (Hold.t (Hold.t (Hold.t (Hold.t (Hold.t (Hold.t (Hold.t (Hold.t (Hold.t (Hold.t (Hold.t (Hold.t (Hold.t hold)))))))))))))) | with_reducible apply Hold.h (Hold.t (Hold.t (Hold.t (Hold.t (Hold.t (Hold.t (Hold.t (Hold.t (Hold.t (Hold.t (Hold.t (Hold.t (Hold.t (Hold.t (Hold.t hold))))))))))))))) | with_reducible apply Hold.h (Hold.t (Hold.t (Hold.t (Hold.t (Hold.t (Hold.t (Hold.t (Hold.t (Hold.t (Hold.t (Hold.t (Hold.t (Hold.t (Hold.t (Hold.t (Hold.t hold)))))))))))))))) | with_reducible apply Hold.h (Hold.t (Hold.t (Hold.t (Hold.t (Hold.t (Hold.t (Hold.t (Hold.t (Hold.t (Hold.t (Hold.t (Hold.t (Hold.t (Hold.t (Hold.t (Hold.t (Hold.t hold))))))))))))))))) | with_reducible apply Hold.h (Hold.t (Hold.t (Hold.t (Hold.t (Hold.t (Hold.t (Hold.t (Hold.t (Hold.t (Hold.t (Hold.t (Hold.t (Hold.t (Hold.t (Hold.t (Hold.t (Hold.t (Hold.t hold)))))))))))))))))) | with_reducible apply Hold.h (Hold.t (Hold.t (Hold.t (Hold.t (Hold.t (Hold.t (Hold.t (Hold.t (Hold.t (Hold.t (Hold.t (Hold.t (Hold.t (Hold.t (Hold.t (Hold.t (Hold.t (Hold.t (Hold.t hold))))))))))))))))))) | with_reducible apply Hold.h (Hold.t (Hold.t (Hold.t (Hold.t (Hold.t (Hold.t (Hold.t (Hold.t (Hold.t (Hold.t (Hold.t (Hold.t (Hold.t (Hold.t (Hold.t (Hold.t (Hold.t (Hold.t (Hold.t (Hold.t hold)))))))))))))))))))) | with_reducible apply Hold.h (Hold.t (Hold.t (Hold.t (Hold.t (Hold.t (Hold.t (Hold.t (Hold.t (Hold.t (Hold.t (Hold.t (Hold.t (Hold.t (Hold.t (Hold.t (Hold.t (Hold.t (Hold.t (Hold.t (Hold.t (Hold.t hold))))))))))))))))))))) | with_reducible apply Hold.h (Hold.t (Hold.t (Hold.t (Hold.t (Hold.t (Hold.t (Hold.t (Hold.t (Hold.t (Hold.t (Hold.t (Hold.t (Hold.t (Hold.t (Hold.t (Hold.t (Hold.t (Hold.t (Hold.t (Hold.t (Hold.t (Hold.t hold)))))))))))))))))))))) | with_reducible apply Hold.h (Hold.t (Hold.t (Hold.t (Hold.t (Hold.t (Hold.t (Hold.t (Hold.t (Hold.t (Hold.t (Hold.t (Hold.t (Hold.t (Hold.t (Hold.t (Hold.t (Hold.t (Hold.t (Hold.t (Hold.t (Hold.t (Hold.t (Hold.t hold)))))))))))))))))))))))))
    all_goals exact True
  · first | exact IsT.t | exact IsT.any
  ) (r : R) : P := h.1 ⟨r⟩
end Go.Proofs.Ytgbahnaejajdgaa
