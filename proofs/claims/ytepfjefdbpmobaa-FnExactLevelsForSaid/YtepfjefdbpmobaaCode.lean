/- Contracts: steps of quantization, lengths of a prefix code, its codes, bits of numbers, symbols, options. No condition. -/
import Derived.Test.YtepfjefdbpmobaaFrame
import Derived.Test.YtepfjefdbpmobaaDefs
namespace Go.Proofs.Ytepfjefdbpmobaa
open Go Go.Abs
set_option linter.unusedVariables false
set_option linter.unusedSimpArgs false
set_option maxRecDepth 100000
set_option maxHeartbeats 4000000
attribute [local irreducible] WpA WpL Rnd Blk Abs.Seq Abs.Fin Abs.FinG FnC FnG Only

theorem wrap64 (p : Int) (h : -9223372036854775808 ≤ p ∧ p ≤ 9223372036854775807) : IntKind.i64.wrap p = p := IntWalk.i64_in p h
def stepX (q : Int) : Int := IntKind.i64.wrap (([8, 9, 10, 11, 13, 14] : List Int).getD (q % 6).toNat 0 * 2 ^ (q / 6).toNat)
theorem stepX_bd (q : Int) (h : 0 ≤ q ∧ q ≤ 51) : 8 ≤ stepX q ∧ stepX q ≤ 4000 := by
  have key : ∀ k : Fin 52, 8 ≤ stepX k.val ∧ stepX k.val ≤ 4000 := by decide
  obtain ⟨k, rfl⟩ : ∃ k : Nat, q = k := ⟨q.toNat, by omega⟩
  exact key ⟨k, by omega⟩
def stepL (q : Int) : Int := if 0 ≤ q ∧ q ≤ 51 then stepX q / 8 else 0
theorem stepL_in (q : Int) (h : 0 ≤ q ∧ q ≤ 51) : 1 ≤ stepL q ∧ stepL q ≤ 500 := by
  have := stepX_bd q h
  rw [stepL, if_pos h]; omega
theorem stepL_pos (q : Int) : 0 < stepL q ↔ 0 ≤ q ∧ q ≤ 51 := by
  by_cases h : 0 ≤ q ∧ q ≤ 51
  · have := stepL_in q h; constructor <;> intro _ <;> omega
  · rw [stepL, if_neg h]; constructor <;> intro _ <;> omega
instance StepOf_s : Con 50 (∀ q : Int, Fn 50 [I q] [] (I (stepL q))) := ⟨fun q => by
  refine FnC.of_body tabOk Try.func50 Try.ntmps50 rfl (by decide +kernel) (by simp) fun G => ?_
  have hx := stepX_bd q
  unfold stepX at hx
  refine go (r := ?_); and_intros <;> intros <;> try exact True.intro
  all_goals first | (rw [stepL, if_neg (by assumption)]; done) | (rw [stepL, if_pos (by assumption)]; rfl)⟩
instance StepOf_c : Con 127 (∀ q : Int, Fn 127 [I q] [] (I (stepL q))) := ⟨fun q => by
  refine FnC.of_body tabOk Try.func127 Try.ntmps127 rfl (by decide +kernel) (by simp) fun G => ?_
  have hx := stepX_bd q
  unfold stepX at hx
  refine go (r := ?_); and_intros <;> intros <;> try exact True.intro
  all_goals first | (rw [stepL, if_neg (by assumption)]; done) | (rw [stepL, if_pos (by assumption)]; rfl)⟩

/-! Lengths of a code. -/
def cw (n : Int) : Int := if 0 < n then 2 ^ (7 - n).toNat else 0
theorem cw_bd (n : Int) : 0 ≤ cw n := by unfold cw; split <;> first | exact Int.le_of_lt (Int.pow_pos (by decide)) | omega
theorem cw_wrap (n : Int) (h : 0 ≤ n ∧ n ≤ 7) (h0 : n > 0) : IntKind.i64.wrap (1 * 2 ^ (7 - n).toNat) = cw n ∧ 1 ≤ cw n ∧ cw n ≤ 64 := by
  have key : ∀ k : Fin 8, 0 < k.val → IntKind.i64.wrap (1 * 2 ^ (7 - (k.val : Int)).toNat) = cw k.val ∧ 1 ≤ cw k.val ∧ cw k.val ≤ 64 := by decide
  obtain ⟨k, rfl⟩ : ∃ k : Nat, n = k := ⟨n.toNat, by omega⟩
  exact key ⟨k, by omega⟩ (show 0 < k by omega)
def csum (l : List Int) : Int := (l.map cw).sum
theorem csum_snoc (l : List Int) (k : Nat) (h : k < l.length) : csum (l.take (k + 1)) = csum (l.take k) + cw (l.getD k 0) := by
  unfold csum; rw [List.take_succ_eq_append_getElem h, List.map_append, List.sum_append]; simp [h]
def CodeOk (l : List Int) : Prop := In l 0 7 ∧ l.length = 6 ∧ csum l = 128
instance (l : List Int) : Decidable (CodeOk l) := by unfold CodeOk; infer_instance
instance CodeOk_s : Con 51 (∀ l : List Int, l.length ≤ 1099511627776 → Fn 51 [IL l] [] (B (decide (CodeOk l)))) := ⟨fun l hl => by
  refine FnC.of_body tabOk Try.func51 Try.ntmps51 rfl (by decide +kernel) (by simp) fun G => ?_
  refine go (r := ?_); and_intros <;> intros <;> try exact True.intro
  refine WpA.loop (fun k : Nat => ⟨[(0, IL l), (3, I (csum (l.take k))), (4, I k)], []⟩) (fun k => k ≤ l.length ∧ In (l.take k) 0 7 ∧ 0 ≤ csum (l.take k) ∧ csum (l.take k) ≤ 64 * k) (fun k => l.length - k) 0 (by simp [in_nil, csum]) (go (r := ?_)) (fun k hk => ?_)
  · simp [csum]
  have hs := fun h => csum_snoc l k h
  have hi := fun h => in_snoc (lo := 0) (hi := 7) (l := l) (k := k) h
  have hw := cw_wrap (l.getD k 0)
  have hw0 : ¬ l.getD k 0 > 0 → cw (l.getD k 0) = 0 := fun h => by unfold cw; rw [if_neg (by omega)]
  refine go (r := ?_); and_intros <;> intros <;> try exact True.intro
  · have := notin (k := k) (by omega) ‹¬ (0 ≤ l.getD k 0 ∧ _)›; rw [eq_comm, decide_eq_false_iff_not] at *; exact fun h => this h.1
  · rw [hi (by omega)]; exact ⟨hk.2.1, ‹_›⟩
  · rw [hi (by omega)]; exact ⟨hk.2.1, ‹_›⟩
  all_goals have e : k = l.length := by omega
  all_goals subst e
  all_goals rw [List.take_length] at *
  · have h6 : l.length = 6 := by omega
    simp [CodeOk, hk.2.1, h6]
  · have h6 : ¬ l.length = 6 := by omega
    simp [CodeOk, h6]⟩
instance CodeOk_c : Con 54 (∀ l : List Int, l.length ≤ 1099511627776 → Fn 54 [IL l] [] (B (decide (CodeOk l)))) := ⟨fun l hl => by
  refine FnC.of_body tabOk Try.func54 Try.ntmps54 rfl (by decide +kernel) (by simp) fun G => ?_
  refine go (r := ?_); and_intros <;> intros <;> try exact True.intro
  refine WpA.loop (fun k : Nat => ⟨[(0, IL l), (3, I (csum (l.take k))), (6, IL l), (7, I l.length), (8, I k)], []⟩) (fun k => k ≤ l.length ∧ In (l.take k) 0 7 ∧ 0 ≤ csum (l.take k) ∧ csum (l.take k) ≤ 64 * k) (fun k => l.length - k) 0 (by simp [in_nil, csum]) (go (r := ?_)) (fun k hk => ?_)
  · simp [csum]
  have hs := fun h => csum_snoc l k h
  have hi := fun h => in_snoc (lo := 0) (hi := 7) (l := l) (k := k) h
  have hw := cw_wrap (l.getD k 0)
  have hw0 : ¬ l.getD k 0 > 0 → cw (l.getD k 0) = 0 := fun h => by unfold cw; rw [if_neg (by omega)]
  refine go (r := ?_); and_intros <;> intros <;> try exact True.intro
  · have := notin (k := k) (by omega) ‹¬ (0 ≤ l.getD k 0 ∧ _)›; rw [eq_comm, decide_eq_false_iff_not] at *; exact fun h => this h.1
  · rw [hi (by omega)]; exact ⟨hk.2.1, ‹_›⟩
  · rw [hi (by omega)]; exact ⟨hk.2.1, ‹_›⟩
  all_goals have e : k = l.length := by omega
  all_goals subst e
  all_goals rw [List.take_length] at *
  · have h6 : l.length = 6 := by omega
    simp [CodeOk, hk.2.1, h6]
  · have h6 : ¬ l.length = 6 := by omega
    simp [CodeOk, h6]⟩

/-! The codes. -/
def cIn (w : Int) (l : List Int) : Nat → List Int × Int → List Int × Int
  | 0, s => s
  | i + 1, s => if l.getD i 0 = w then ((cIn w l i s).1.set i (cIn w l i s).2, (cIn w l i s).2 + 1) else cIn w l i s
def cOut (l : List Int) : Nat → List Int × Int
  | 0 => (List.replicate l.length (-1), 0)
  | w + 1 => cIn ((w : Int) + 1) l l.length ((cOut l w).1, (cOut l w).2 * 2)
def codes (l : List Int) : List Int := (cOut l 7).1
theorem cIn_len (w : Int) (l : List Int) : ∀ (i : Nat) (s : List Int × Int), (cIn w l i s).1.length = s.1.length
  | 0, s => rfl
  | i + 1, s => by
    rw [cIn]; split
    · rw [List.length_set]; exact cIn_len w l i s
    · exact cIn_len w l i s
theorem cOut_len (l : List Int) : ∀ w, (cOut l w).1.length = l.length
  | 0 => by simp [cOut]
  | w + 1 => by rw [cOut, cIn_len, cOut_len l w]
theorem codes_len (l : List Int) : (codes l).length = l.length := cOut_len l 7
theorem cIn_bd (w : Int) (l : List Int) : ∀ (i : Nat) (s : List Int × Int), s.2 ≤ (cIn w l i s).2 ∧ (cIn w l i s).2 ≤ s.2 + i
  | 0, s => by simp [cIn]
  | i + 1, s => by rw [cIn]; have := cIn_bd w l i s; split <;> first | (simp only; omega) | omega
theorem cOut_bd (l : List Int) (h : l.length = 6) : ∀ w, 0 ≤ (cOut l w).2 ∧ (cOut l w).2 ≤ 6 * (2 ^ w - 1)
  | 0 => by simp [cOut]
  | w + 1 => by
    rw [cOut]
    have h1 := cIn_bd ((w : Int) + 1) l l.length ((cOut l w).1, (cOut l w).2 * 2)
    have h2 := cOut_bd l h w
    simp only at h1
    rw [Int.pow_succ]; omega
theorem cOut_bd7 (l : List Int) (h : l.length = 6) (w : Nat) (hw : w ≤ 7) : 0 ≤ (cOut l w).2 ∧ (cOut l w).2 ≤ 768 := by
  have h1 := cOut_bd l h w
  have : (2 : Int) ^ w ≤ 2 ^ 7 := by
    have := Nat.pow_le_pow_right (n := 2) (by decide) hw
    exact_mod_cast this
  omega
def codesR (l : List Int) : List Int := if CodeOk l then codes l else []
theorem codesR_len (l : List Int) (h : CodeOk l) : (codesR l).length = 6 := by rw [codesR, if_pos h, codes_len, h.2.1]
theorem codesR_ok (l : List Int) (h : CodeOk l) : codesR l = codes l := by rw [codesR, if_pos h]
theorem codesR_no (l : List Int) (h : ¬ CodeOk l) : codesR l = [] := by rw [codesR, if_neg h]
theorem cIn_yes {w : Int} {l : List Int} {i : Nat} {s : List Int × Int} (h : l.getD i 0 = w) : cIn w l (i + 1) s = ((cIn w l i s).1.set i (cIn w l i s).2, (cIn w l i s).2 + 1) := by rw [cIn, if_pos h]
theorem cIn_no {w : Int} {l : List Int} {i : Nat} {s : List Int × Int} (h : ¬ l.getD i 0 = w) : cIn w l (i + 1) s = cIn w l i s := by rw [cIn, if_neg h]
instance CodesOf_s : Con 114 (∀ l : List Int, l.length ≤ 1099511627776 → Fn 114 [IL l] [XI (codesR l)] (.own 0 0 0 (codesR l).length)) := ⟨fun l hl => by
  refine FnC.of_body tabOk Try.func114 Try.ntmps114 rfl (by decide +kernel) (by simp) fun G => ?_
  refine go (r := ?_); and_intros <;> intros <;> try exact True.intro
  · rw [codesR_no l ‹_›]; rfl
  · rw [codesR_no l ‹_›]
  have hok : CodeOk l := ‹_›
  have h6 := hok.2.1
  refine WpA.loop (fun k : Nat => ⟨[(0, IL l), (3, .own 0 0 0 k), (4, I k)], [XI (List.replicate k (-1))]⟩) (fun k => k ≤ l.length) (fun k => l.length - k) 0 (by simp) (go (r := trivial)) (fun k hk => ?_)
  refine go (r := ?_); and_intros <;> intros <;> try exact True.intro
  · rw [List.replicate_succ']
  have e : k = l.length := by omega
  subst e
  refine WpA.loop (fun w : Nat => ⟨[(0, IL l), (3, .own 0 0 0 l.length), (5, I (cOut l w).2), (6, I ((w : Int) + 1))], [XI (cOut l w).1]⟩) (fun w => w ≤ 7) (fun w => 7 - w) 0 (by simp) (go (r := ?_)) (fun w hw => ?_)
  · simp [cOut]
  have hb := cOut_bd7 l h6 w hw
  refine go (r := ?_); and_intros <;> intros <;> try exact True.intro
  · refine WpA.loop (fun i : Nat => ⟨[(0, IL l), (3, .own 0 0 0 l.length), (5, I (cIn ((w : Int) + 1) l i ((cOut l w).1, (cOut l w).2 * 2)).2), (6, I ((w : Int) + 1)), (7, I i)], [XI (cIn ((w : Int) + 1) l i ((cOut l w).1, (cOut l w).2 * 2)).1]⟩) (fun i => i ≤ l.length) (fun i => l.length - i) 0 (by simp) (go (r := ?_)) (fun i hi => ?_)
    · simp [cIn]
    have hb2 := cIn_bd ((w : Int) + 1) l i ((cOut l w).1, (cOut l w).2 * 2)
    have hl2 := cIn_len ((w : Int) + 1) l i ((cOut l w).1, (cOut l w).2 * 2)
    have hl3 := cOut_len l w
    simp only at hb2 hl2
    refine go (r := ?_); and_intros <;> intros <;> try exact True.intro
    · rw [cIn_yes (by assumption)]
    · rw [cIn_yes (by assumption)]; rfl
    · rw [cIn_no (by assumption)]
    · rw [cIn_no (by assumption)]
    all_goals have e : i = l.length := by omega
    all_goals subst e; rfl
  all_goals have e : w = 7 := by omega
  all_goals subst e
  · rw [codesR_len l hok, h6]
  · rw [codesR_ok l hok]; rfl⟩
instance CodesOf_c : ConB 150 (∀ l : List Int, l.length ≤ 1099511627776 → Bn 150 [IL l] (CodeOk l) [XI (codes l)] (.own 0 0 0 6) [] .nilS) := ⟨fun l hl => by
  refine ⟨fun hok => ?_, fun hno => ?_⟩
  · have h6 := hok.2.1
    refine FnC.of_body tabOk Try.func150 Try.ntmps150 rfl (by decide +kernel) (by simp) fun G => ?_
    refine go (r := ?_); and_intros <;> intros <;> try exact True.intro
    all_goals first | (exact absurd hok ‹¬ CodeOk l›) | skip
    refine WpA.loop (fun w : Nat => ⟨[(0, IL l), (3, .own 0 0 0 l.length), (4, I (cOut l w).2), (5, I ((w : Int) + 1))], [XI (cOut l w).1]⟩) (fun w => w ≤ 7) (fun w => 7 - w) 0 (by simp) (go (r := ?_)) (fun w hw => ?_)
    · simp [cOut, h6]
    have hb := cOut_bd7 l h6 w hw
    have hsh : IntKind.i64.wrap ((cOut l w).2 * 2) = (cOut l w).2 * 2 := wrap64 _ (by omega)
    refine go (r := ?_); and_intros <;> intros <;> try exact True.intro
    · refine WpA.loop (fun i : Nat => ⟨[(0, IL l), (3, .own 0 0 0 l.length), (4, I (cIn ((w : Int) + 1) l i ((cOut l w).1, (cOut l w).2 * 2)).2), (5, I ((w : Int) + 1)), (18, IL l), (19, I l.length), (20, I i)], [XI (cIn ((w : Int) + 1) l i ((cOut l w).1, (cOut l w).2 * 2)).1]⟩) (fun i => i ≤ l.length) (fun i => l.length - i) 0 (by simp) (go (r := ?_)) (fun i hi => ?_)
      · simp [cIn, hsh]
      have hb2 := cIn_bd ((w : Int) + 1) l i ((cOut l w).1, (cOut l w).2 * 2)
      have hl2 := cIn_len ((w : Int) + 1) l i ((cOut l w).1, (cOut l w).2 * 2)
      have hl3 := cOut_len l w
      simp only at hb2 hl2
      refine go (r := ?_); and_intros <;> intros <;> try exact True.intro
      · rw [cIn_yes (by assumption)]
      · rw [cIn_yes (by assumption)]; rfl
      · rw [cIn_no (by assumption)]
      · rw [cIn_no (by assumption)]
      all_goals have e : i = l.length := by omega
      all_goals subst e; rfl
    all_goals have e : w = 7 := by omega
    all_goals subst e; rfl
  · refine FnC.of_body tabOk Try.func150 Try.ntmps150 rfl (by decide +kernel) (by simp) fun G => ?_
    refine go (r := ?_); and_intros <;> intros <;> try exact True.intro
    all_goals exact absurd ‹CodeOk l› hno⟩

/-! Bits of a number. -/
def bitOk (n w : Int) : Prop := (0 ≤ w ∧ w ≤ 48) ∧ 0 ≤ n ∧ n / 2 ^ w.toNat = 0
instance (n w : Int) : Decidable (bitOk n w) := by unfold bitOk; infer_instance
def bitsR (n : Int) (w : Nat) (k : Nat) : List Int := (List.range k).map fun j : Nat => n / 2 ^ (w - 1 - j) % 2
def bitsL (n w : Int) : List Int := if bitOk n w then bitsR n w.toNat w.toNat else []
theorem bitsR_len (n : Int) (w k : Nat) : (bitsR n w k).length = k := by simp [bitsR]
theorem bitsR_snoc (n : Int) (w k : Nat) : bitsR n w (k + 1) = bitsR n w k ++ [n / 2 ^ (w - 1 - k) % 2] := by simp [bitsR, List.range_succ]
theorem bitsL_len (n w : Int) : (bitsL n w).length ≤ 48 := by
  unfold bitsL; split
  · rename_i h; rw [bitsR_len]; have := h.1; omega
  · simp
theorem low1 (k : Int) (h : 0 ≤ k ∧ k ≤ 9223372036854775807) : IntKind.i64.wrap ((BitVec.ofInt IntKind.i64.bits k &&& BitVec.ofInt IntKind.i64.bits 1).toNat : Nat) = k % 2 := by
  obtain ⟨m, rfl⟩ : ∃ m : Nat, k = m := ⟨k.toNat, by omega⟩
  have e1 : (BitVec.ofInt IntKind.i64.bits (m : Int)).toNat = m := by simp only [IntKind.bits, BitVec.toNat_ofInt]; omega
  have e : (BitVec.ofInt IntKind.i64.bits (m : Int) &&& BitVec.ofInt IntKind.i64.bits 1).toNat = m % 2 := by
    rw [BitVec.toNat_and, e1, show (BitVec.ofInt IntKind.i64.bits (1 : Int)).toNat = 2 ^ 1 - 1 from by decide, Nat.and_two_pow_sub_one_eq_mod]
  rw [e, wrap64 _ (by omega)]; omega
theorem shr_bd (n : Int) (k : Nat) (h : 0 ≤ n) : 0 ≤ n / 2 ^ k ∧ n / 2 ^ k ≤ n := by
  constructor
  · exact Int.ediv_nonneg h (Int.le_of_lt (Int.pow_pos (by decide)))
  · exact Int.ediv_le_self _ h
instance BitsIn_s : Con 113 (∀ n w : Int, n ≤ 9223372036854775807 → Fn 113 [I n, I w] [XI (bitsL n w)] (.own 0 0 0 (bitsL n w).length)) := ⟨fun n w hn => by
  refine FnC.of_body tabOk Try.func113 Try.ntmps113 rfl (by decide +kernel) (by simp) fun G => ?_
  refine go (r := ?_); and_intros <;> intros <;> try exact True.intro
  all_goals first | (rw [bitsL, if_neg (by unfold bitOk; omega)]; done) | (rw [bitsL, if_neg (by unfold bitOk; omega)]; rfl) | skip
  have hok : bitOk n w := ⟨‹_›, by omega, ‹_›⟩
  obtain ⟨⟨h0, h48⟩, hn0, _⟩ := id hok
  obtain ⟨W, rfl⟩ : ∃ W : Nat, w = W := ⟨w.toNat, by omega⟩
  refine WpA.loop (fun k : Nat => ⟨[(0, I n), (5, .own 0 0 0 k), (6, I ((W : Int) - 1 - k))], [XI (bitsR n W k)]⟩) (fun k => k ≤ W) (fun k => W - k) 0 (by simp) (go (r := ?_)) (fun k hk => ?_)
  · simp [bitsR]
  have hl := bitsR_len n W k
  have hb := shr_bd n ((W : Int) - 1 - k).toNat hn0
  refine go (r := ?_); and_intros <;> intros <;> try exact True.intro
  · rw [bitsR_snoc, low1 _ (by omega)]; congr 6; omega
  all_goals have e : k = W := by omega
  all_goals subst e
  · rw [bitsL, if_pos hok, bitsR_len]; rfl
  · rw [bitsL, if_pos hok]; rfl⟩
instance BitsIn_c : Con 151 (∀ n w : Int, n ≤ 9223372036854775807 → Fn 151 [I n, I w] [XI (bitsL n w)] (.own 0 0 0 (bitsL n w).length)) := ⟨fun n w hn => by
  refine FnC.of_body tabOk Try.func151 Try.ntmps151 rfl (by decide +kernel) (by simp) fun G => ?_
  refine go (r := ?_); and_intros <;> intros <;> try exact True.intro
  all_goals first | (rw [bitsL, if_neg (by unfold bitOk; omega)]; done) | (rw [bitsL, if_neg (by unfold bitOk; omega)]; rfl) | skip
  have hok : bitOk n w := ⟨‹_›, by omega, ‹_›⟩
  obtain ⟨⟨h0, h48⟩, hn0, _⟩ := id hok
  obtain ⟨W, rfl⟩ : ∃ W : Nat, w = W := ⟨w.toNat, by omega⟩
  refine WpA.loop (fun k : Nat => ⟨[(0, I n), (5, .own 0 0 0 k), (6, I ((W : Int) - 1 - k))], [XI (bitsR n W k)]⟩) (fun k => k ≤ W) (fun k => W - k) 0 (by simp) (go (r := ?_)) (fun k hk => ?_)
  · simp [bitsR]
  have hl := bitsR_len n W k
  have hb := shr_bd n ((W : Int) - 1 - k).toNat hn0
  refine go (r := ?_); and_intros <;> intros <;> try exact True.intro
  · rw [bitsR_snoc, low1 _ (by omega)]; congr 6; omega
  all_goals have e : k = W := by omega
  all_goals subst e
  · rw [bitsL, if_pos hok, bitsR_len]; rfl
  · rw [bitsL, if_pos hok]; rfl⟩

/-! Options. -/
def OptOk (q : Int) (l : List Int) : Prop := (0 ≤ q ∧ q ≤ 51) ∧ CodeOk l
instance (q : Int) (l : List Int) : Decidable (OptOk q l) := by unfold OptOk; infer_instance
instance OptionsOk_s : Con 13 (∀ (q : Int) (b d : Bool) (l m : List Int) (e : List Bool), l.length ≤ 1099511627776 → Fn 13 [OpA q b d l m e] [] (B (decide (OptOk q l)))) := ⟨fun q b d l m e hl => by
  refine FnC.of_body tabOk Try.func13 Try.ntmps13 rfl (by decide +kernel) (by simp) fun G => ?_
  have hs := stepL_pos q
  refine go (r := ?_); and_intros <;> intros <;> try exact True.intro
  all_goals first | (have h : 0 ≤ q ∧ q ≤ 51 := by omega
                     simp [OptOk, h]; done) | (have h : ¬ (0 ≤ q ∧ q ≤ 51) := by omega
                                               simp [OptOk, h]; done)⟩
instance OptionsOk_c : Con 15 (∀ (q : Int) (b d : Bool) (l m : List Int) (e : List Bool), l.length ≤ 1099511627776 → Fn 15 [OpA q b d l m e] [] (B (decide (OptOk q l)))) := ⟨fun q b d l m e hl => by
  refine FnC.of_body tabOk Try.func15 Try.ntmps15 rfl (by decide +kernel) (by simp) fun G => ?_
  refine go (r := ?_); and_intros <;> intros <;> try exact True.intro
  all_goals first | (have h : 0 ≤ q ∧ q ≤ 51 := by omega
                     simp [OptOk, h]; done) | (have h : ¬ (0 ≤ q ∧ q ≤ 51) := by omega
                                               simp [OptOk, h]; done)⟩
end Go.Proofs.Ytepfjefdbpmobaa
