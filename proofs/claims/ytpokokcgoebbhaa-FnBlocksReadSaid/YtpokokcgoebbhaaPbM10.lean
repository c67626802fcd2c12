/- Proved in this text: lemmas and contracts of functions that the claim uses (parts: Base, Frame, Defs, Code, Kraft, RdL, RdM, Cat, Ue, Rd). No condition. -/
import Derived.Test.YtpokokcgoebbhaaPbM9
import Derived.Test.YtpokokcgoebbhaaPbM6
import Derived.Test.YtpokokcgoebbhaaPbM7

/- Contracts of small functions. No condition. -/
namespace Go.Proofs.Ytpokokcgoebbhaa
open Go Go.Abs
set_option linter.unusedVariables false
set_option linter.unusedSimpArgs false
set_option maxRecDepth 100000
attribute [local irreducible] WpA WpL Rnd Blk Abs.Seq Abs.Fin FnC Only

instance within_c : Con 38 (∀ n lo hi : Int, Fn 38 [I n, I lo, I hi] [] (B (decide (lo ≤ n ∧ n ≤ hi)))) := ⟨fun n lo hi => by
  refine FnC.of_body tabOk Try.func38 Try.ntmps38 rfl (by decide +kernel) (by simp) fun G => ?_
  refine go (r := ?_); and_intros <;> intros
  all_goals first | exact True.intro | (simp_all; done) | (simp; omega)⟩

instance l1In_c : Con 118 (∀ n lo hi : Int, Fn 118 [I n, I lo, I hi] [] (B (decide (lo ≤ n ∧ n ≤ hi)))) := ⟨fun n lo hi => by
  refine FnC.of_body tabOk Try.func118 Try.ntmps118 rfl (by decide +kernel) (by simp) fun G => ?_
  refine go (r := ?_); and_intros <;> intros
  all_goals first | exact True.intro | (simp_all; done) | (simp; omega)⟩

def clampM (v : Int) : Int := max (-1000000) (min v 1000000)
def costs (xs : List Int) : Int := (xs.map fun v => max (clampM v) (- clampM v)).sum
end Go.Proofs.Ytpokokcgoebbhaa

/- Contracts of the functions of frames and of the law FnExactSse. No condition. -/
namespace Go.Proofs.Ytpokokcgoebbhaa
open Go Go.Abs
set_option linter.unusedVariables false
set_option linter.unusedSimpArgs false
set_option maxRecDepth 100000
set_option maxHeartbeats 2000000
attribute [local irreducible] WpA WpL Rnd Blk Abs.Seq Abs.Fin FnC Only

abbrev FrA (W H : Int) (p : List Int) : AV := .agg [I W, I H, IL p]
abbrev XO (p : List Int) : AObj := ⟨ints p, 0, 1, some 3⟩

@[irreducible] def In (l : List Int) (lo hi : Int) : Prop := ∀ v ∈ l, lo ≤ v ∧ v ≤ hi
instance (l : List Int) (lo hi : Int) : Decidable (In l lo hi) := by unfold In; exact List.decidableBAll _ l
theorem in_get {l : List Int} {lo hi : Int} (h : In l lo hi) {k : Nat} (hk : k < l.length) : lo ≤ l.getD k 0 ∧ l.getD k 0 ≤ hi := by
  unfold In at h
  have := h (l.getD k 0) (by simp [List.getElem?_eq_getElem hk])
  exact this
theorem notin {l : List Int} {lo hi : Int} {k : Nat} (hk : k < l.length) (h : ¬ (lo ≤ l.getD k 0 ∧ l.getD k 0 ≤ hi)) : false = decide (In l lo hi) := by
  symm; rw [decide_eq_false_iff_not]; exact fun hh => h (in_get hh hk)

theorem in_snoc {l : List Int} {lo hi : Int} {k : Nat} (hk : k < l.length) : In (l.take (k + 1)) lo hi ↔ In (l.take k) lo hi ∧ lo ≤ l.getD k 0 ∧ l.getD k 0 ≤ hi := by
  unfold In; rw [List.take_succ_eq_append_getElem hk, List.forall_mem_append]; simp [List.getElem?_eq_getElem hk]
theorem in_nil (lo hi : Int) : In [] lo hi := by unfold In; intro v hv; cases hv

abbrev SidesOk (w h : Int) : Prop := 8 ≤ w ∧ w ≤ 32 ∧ 8 ≤ h ∧ h ≤ 32 ∧ w % 8 = 0 ∧ h % 8 = 0
abbrev FrameOk (W H : Int) (p : List Int) : Prop := SidesOk W H ∧ (p.length : Int) = W * H ∧ In p 0 255
def sse (p q : List Int) (k : Nat) : Int := ((List.range k).map fun i => (p.getD i 0 - q.getD i 0) * (p.getD i 0 - q.getD i 0)).sum
def sseR (W H : Int) (p : List Int) (W2 H2 : Int) (q : List Int) : Int := if FrameOk W H p ∧ FrameOk W2 H2 q ∧ W = W2 ∧ H = H2 then sse p q p.length else -1
end Go.Proofs.Ytpokokcgoebbhaa

/- Names of abstract values and plain laws of lists. No condition. -/
namespace Go.Proofs.Ytpokokcgoebbhaa
open Go Go.Abs
set_option linter.unusedVariables false
set_option linter.unusedSimpArgs false

/-! Lists, place by place. -/
theorem eq_all {α : Type} (z : α) {xs ys : List α} (hl : xs.length = ys.length) (h : ∀ j < xs.length, xs.getD j z = ys.getD j z) : xs = ys := by
  apply List.ext_getElem hl
  intro i h1 h2
  have := h i h1
  simpa [h1, h2] using this
def tk {α : Type} (f : α → Nat) (l : List α) (i : Nat) : Nat := ((l.take i).map f).sum
/-! Numbers and truth values. -/
abbrev IN (l : List Int) : AObj := ⟨ints l, 0, 1, none⟩
abbrev BN (l : List Bool) : AObj := ⟨bools l, 0, 1, none⟩
abbrev BO (l : List Bool) : AObj := ⟨bools l, 0, 1, some 4⟩
abbrev BL (xs : List Bool) : AV := .imm 1 xs.length (bools xs)
abbrev OpA (q : Int) (b d : Bool) (l m : List Int) (e : List Bool) : AV := .agg [I q, B b, B d, IL l, IL m, BL e]
abbrev HdA (w h q : Int) (b d : Bool) (l : List Int) : AV := .agg [I w, I h, I q, B b, B d, IL l]
abbrev StA (w h q : Int) (b d : Bool) (l : List Int) (M : List Mbk) : AV := .agg [I w, I h, I q, B b, B d, IL l, .imm 2 M.length (rows mbI M)]
abbrev BkL (l : List Blok) : AV := .imm 2 l.length (rows blkI l)
abbrev MbL (l : List Mbk) : AV := .imm 2 l.length (rows mbI l)
abbrev BkO (l : List Blok) : AObj := ⟨rows blkF l, 0, 2, some 56⟩
abbrev MbO (l : List Mbk) : AObj := ⟨rows mbF l, 0, 2, some 36⟩
abbrev BkN (l : List Blok) : AObj := ⟨rows blkF l, 0, 2, none⟩
abbrev MbN (l : List Mbk) : AObj := ⟨rows mbF l, 0, 2, none⟩

/-! How much they hold. -/
def bn (b : Blok) : Nat := b.2.length
def bw (l : List Blok) : Nat := l.length + (l.map bn).sum
def mn (m : Mbk) : Nat := bw m.2
def mw (l : List Mbk) : Nat := l.length + (l.map mn).sum
@[irreducible] def SmB (c : Nat) (l : List Blok) : Prop := ∀ b ∈ l, b.2.length ≤ c
@[irreducible] def SmM (c : Nat) (l : List Mbk) : Prop := ∀ m ∈ l, m.2.length ≤ c ∧ SmB c m.2
theorem smB_get {c : Nat} {l : List Blok} (h : SmB c l) {k : Nat} (hk : k < l.length) : (l.getD k default).2.length ≤ c := by
  unfold SmB at h; exact h _ (by simp [hk])
theorem take_snoc {α : Type} [Inhabited α] (l : List α) (i : Nat) (h : i < l.length) : l.take (i + 1) = l.take i ++ [l.getD i default] := by
  rw [List.take_succ_eq_append_getElem h]; simp [h]
abbrev XI (l : List Int) : AObj := ⟨ints l, 0, 1, some 3⟩
end Go.Proofs.Ytpokokcgoebbhaa

/- Contracts: steps of quantization, lengths of a prefix code, its codes, bits of numbers, symbols, options. No condition. -/
namespace Go.Proofs.Ytpokokcgoebbhaa
open Go Go.Abs
set_option linter.unusedVariables false
set_option linter.unusedSimpArgs false
set_option maxRecDepth 100000
set_option maxHeartbeats 4000000
attribute [local irreducible] WpA WpL Rnd Blk Abs.Seq Abs.Fin Abs.FinG FnC FnG Only

theorem wrap64 (p : Int) (h : -9223372036854775808 ≤ p ∧ p ≤ 9223372036854775807) : IntKind.i64.wrap p = p := IntWalk.i64_in p h
def stepX (q : Int) : Int := IntKind.i64.wrap (([8, 9, 10, 11, 13, 14] : List Int).getD (q % 6).toNat 0 * 2 ^ (q / 6).toNat)
def stepL (q : Int) : Int := if 0 ≤ q ∧ q ≤ 51 then stepX q / 8 else 0
/-! Lengths of a code. -/
def cw (n : Int) : Int := if 0 < n then 2 ^ (7 - n).toNat else 0
theorem cw_wrap (n : Int) (h : 0 ≤ n ∧ n ≤ 7) (h0 : n > 0) : IntKind.i64.wrap (1 * 2 ^ (7 - n).toNat) = cw n ∧ 1 ≤ cw n ∧ cw n ≤ 64 := by
  have key : ∀ k : Fin 8, 0 < k.val → IntKind.i64.wrap (1 * 2 ^ (7 - (k.val : Int)).toNat) = cw k.val ∧ 1 ≤ cw k.val ∧ cw k.val ≤ 64 := by decide
  obtain ⟨k, rfl⟩ : ∃ k : Nat, n = k := ⟨n.toNat, by omega⟩
  exact key ⟨k, by omega⟩ (show 0 < k by omega)
def csum (l : List Int) : Int := (l.map cw).sum
theorem csum_snoc (l : List Int) (k : Nat) (h : k < l.length) : csum (l.take (k + 1)) = csum (l.take k) + cw (l.getD k 0) := by
  unfold csum; rw [List.take_succ_eq_append_getElem h, List.map_append, List.sum_append]; simp [h]
def CodeOk (l : List Int) : Prop := In l 0 7 ∧ l.length = 6 ∧ csum l = 128
instance (l : List Int) : Decidable (CodeOk l) := by unfold CodeOk; infer_instance
instance CodeOk_s : Con 82 (∀ l : List Int, l.length ≤ 1099511627776 → Fn 82 [IL l] [] (B (decide (CodeOk l)))) := ⟨fun l hl => by
  refine FnC.of_body tabOk Try.func82 Try.ntmps82 rfl (by decide +kernel) (by simp) fun G => ?_
  refine go (r := ?_); and_intros <;> intros <;> try exact True.intro
  refine WpA.loop (fun k : Nat => ⟨[(0, IL l), (3, I (csum (l.take k))), (4, I k)], []⟩) (fun k => k ≤ l.length ∧ In (l.take k) 0 7 ∧ 0 ≤ csum (l.take k) ∧ csum (l.take k) ≤ 64 * k) (fun k => l.length - k) 0 (by simp [in_nil, csum]) (go (r := ?_)) (fun k hk => ?_)
  · simp [csum]
  have hs := fun h => csum_snoc l k h
  have hi := fun h => in_snoc (lo := 0) (hi := 7) (l := l) (k := k) h
  have hw := cw_wrap (l.getD k 0)
  have hw0 : ¬ l.getD k 0 > 0 → cw (l.getD k 0) = 0 := fun h => by unfold cw; rw [if_neg (by omega)]
  refine go (r := ?_); and_intros <;> intros <;> try exact True.intro
  · have := notin (k := k) (by omega) ‹¬ (0 ≤ l.getD k 0 ∧ _)›; rw [eq_comm, decide_eq_false_iff_not] at *; exact fun h => this h.1
  · rw [hi (by omega)]; exact ⟨hk.2.1, ‹_›⟩
  · rw [hi (by omega)]; exact ⟨hk.2.1, ‹_›⟩
  all_goals have e : k = l.length := by omega
  all_goals subst e
  all_goals rw [List.take_length] at *
  · have h6 : l.length = 6 := by omega
    simp [CodeOk, hk.2.1, h6]
  · have h6 : ¬ l.length = 6 := by omega
    simp [CodeOk, h6]⟩
instance CodeOk_c : Con 56 (∀ l : List Int, l.length ≤ 1099511627776 → Fn 56 [IL l] [] (B (decide (CodeOk l)))) := ⟨fun l hl => by
  refine FnC.of_body tabOk Try.func56 Try.ntmps56 rfl (by decide +kernel) (by simp) fun G => ?_
  refine go (r := ?_); and_intros <;> intros <;> try exact True.intro
  refine WpA.loop (fun k : Nat => ⟨[(0, IL l), (3, I (csum (l.take k))), (6, IL l), (7, I l.length), (8, I k)], []⟩) (fun k => k ≤ l.length ∧ In (l.take k) 0 7 ∧ 0 ≤ csum (l.take k) ∧ csum (l.take k) ≤ 64 * k) (fun k => l.length - k) 0 (by simp [in_nil, csum]) (go (r := ?_)) (fun k hk => ?_)
  · simp [csum]
  have hs := fun h => csum_snoc l k h
  have hi := fun h => in_snoc (lo := 0) (hi := 7) (l := l) (k := k) h
  have hw := cw_wrap (l.getD k 0)
  have hw0 : ¬ l.getD k 0 > 0 → cw (l.getD k 0) = 0 := fun h => by unfold cw; rw [if_neg (by omega)]
  refine go (r := ?_); and_intros <;> intros <;> try exact True.intro
  · have := notin (k := k) (by omega) ‹¬ (0 ≤ l.getD k 0 ∧ _)›; rw [eq_comm, decide_eq_false_iff_not] at *; exact fun h => this h.1
  · rw [hi (by omega)]; exact ⟨hk.2.1, ‹_›⟩
  · rw [hi (by omega)]; exact ⟨hk.2.1, ‹_›⟩
  all_goals have e : k = l.length := by omega
  all_goals subst e
  all_goals rw [List.take_length] at *
  · have h6 : l.length = 6 := by omega
    simp [CodeOk, hk.2.1, h6]
  · have h6 : ¬ l.length = 6 := by omega
    simp [CodeOk, h6]⟩

/-! The codes. -/
def cIn (w : Int) (l : List Int) : Nat → List Int × Int → List Int × Int
  | 0, s => s
  | i + 1, s => if l.getD i 0 = w then ((cIn w l i s).1.set i (cIn w l i s).2, (cIn w l i s).2 + 1) else cIn w l i s
def cOut (l : List Int) : Nat → List Int × Int
  | 0 => (List.replicate l.length (-1), 0)
  | w + 1 => cIn ((w : Int) + 1) l l.length ((cOut l w).1, (cOut l w).2 * 2)
def codes (l : List Int) : List Int := (cOut l 7).1
theorem cIn_len (w : Int) (l : List Int) : ∀ (i : Nat) (s : List Int × Int), (cIn w l i s).1.length = s.1.length
  | 0, s => rfl
  | i + 1, s => by
    rw [cIn]; split
    · rw [List.length_set]; exact cIn_len w l i s
    · exact cIn_len w l i s
theorem cOut_len (l : List Int) : ∀ w, (cOut l w).1.length = l.length
  | 0 => by simp [cOut]
  | w + 1 => by rw [cOut, cIn_len, cOut_len l w]
theorem codes_len (l : List Int) : (codes l).length = l.length := cOut_len l 7
theorem cIn_bd (w : Int) (l : List Int) : ∀ (i : Nat) (s : List Int × Int), s.2 ≤ (cIn w l i s).2 ∧ (cIn w l i s).2 ≤ s.2 + i
  | 0, s => by simp [cIn]
  | i + 1, s => by rw [cIn]; have := cIn_bd w l i s; split <;> first | (simp only; omega) | omega
theorem cOut_bd (l : List Int) (h : l.length = 6) : ∀ w, 0 ≤ (cOut l w).2 ∧ (cOut l w).2 ≤ 6 * (2 ^ w - 1)
  | 0 => by simp [cOut]
  | w + 1 => by
    rw [cOut]
    have h1 := cIn_bd ((w : Int) + 1) l l.length ((cOut l w).1, (cOut l w).2 * 2)
    have h2 := cOut_bd l h w
    simp only at h1
    rw [Int.pow_succ]; omega
theorem cOut_bd7 (l : List Int) (h : l.length = 6) (w : Nat) (hw : w ≤ 7) : 0 ≤ (cOut l w).2 ∧ (cOut l w).2 ≤ 768 := by
  have h1 := cOut_bd l h w
  have : (2 : Int) ^ w ≤ 2 ^ 7 := by
    have := Nat.pow_le_pow_right (n := 2) (by decide) hw
    exact_mod_cast this
  omega
def codesR (l : List Int) : List Int := if CodeOk l then codes l else []
theorem codesR_len (l : List Int) (h : CodeOk l) : (codesR l).length = 6 := by rw [codesR, if_pos h, codes_len, h.2.1]
theorem codesR_ok (l : List Int) (h : CodeOk l) : codesR l = codes l := by rw [codesR, if_pos h]
theorem codesR_no (l : List Int) (h : ¬ CodeOk l) : codesR l = [] := by rw [codesR, if_neg h]
theorem cIn_yes {w : Int} {l : List Int} {i : Nat} {s : List Int × Int} (h : l.getD i 0 = w) : cIn w l (i + 1) s = ((cIn w l i s).1.set i (cIn w l i s).2, (cIn w l i s).2 + 1) := by rw [cIn, if_pos h]
theorem cIn_no {w : Int} {l : List Int} {i : Nat} {s : List Int × Int} (h : ¬ l.getD i 0 = w) : cIn w l (i + 1) s = cIn w l i s := by rw [cIn, if_neg h]
instance CodesOf_s : Con 124 (∀ l : List Int, l.length ≤ 1099511627776 → Fn 124 [IL l] [XI (codesR l)] (.own 0 0 0 (codesR l).length)) := ⟨fun l hl => by
  refine FnC.of_body tabOk Try.func124 Try.ntmps124 rfl (by decide +kernel) (by simp) fun G => ?_
  refine go (r := ?_); and_intros <;> intros <;> try exact True.intro
  · rw [codesR_no l ‹_›]; rfl
  · rw [codesR_no l ‹_›]
  have hok : CodeOk l := ‹_›
  have h6 := hok.2.1
  refine WpA.loop (fun k : Nat => ⟨[(0, IL l), (3, .own 0 0 0 k), (4, I k)], [XI (List.replicate k (-1))]⟩) (fun k => k ≤ l.length) (fun k => l.length - k) 0 (by simp) (go (r := trivial)) (fun k hk => ?_)
  refine go (r := ?_); and_intros <;> intros <;> try exact True.intro
  · rw [List.replicate_succ']
  have e : k = l.length := by omega
  subst e
  refine WpA.loop (fun w : Nat => ⟨[(0, IL l), (3, .own 0 0 0 l.length), (5, I (cOut l w).2), (6, I ((w : Int) + 1))], [XI (cOut l w).1]⟩) (fun w => w ≤ 7) (fun w => 7 - w) 0 (by simp) (go (r := ?_)) (fun w hw => ?_)
  · simp [cOut]
  have hb := cOut_bd7 l h6 w hw
  refine go (r := ?_); and_intros <;> intros <;> try exact True.intro
  · refine WpA.loop (fun i : Nat => ⟨[(0, IL l), (3, .own 0 0 0 l.length), (5, I (cIn ((w : Int) + 1) l i ((cOut l w).1, (cOut l w).2 * 2)).2), (6, I ((w : Int) + 1)), (7, I i)], [XI (cIn ((w : Int) + 1) l i ((cOut l w).1, (cOut l w).2 * 2)).1]⟩) (fun i => i ≤ l.length) (fun i => l.length - i) 0 (by simp) (go (r := ?_)) (fun i hi => ?_)
    · simp [cIn]
    have hb2 := cIn_bd ((w : Int) + 1) l i ((cOut l w).1, (cOut l w).2 * 2)
    have hl2 := cIn_len ((w : Int) + 1) l i ((cOut l w).1, (cOut l w).2 * 2)
    have hl3 := cOut_len l w
    simp only at hb2 hl2
    refine go (r := ?_); and_intros <;> intros <;> try exact True.intro
    · rw [cIn_yes (by assumption)]
    · rw [cIn_yes (by assumption)]; rfl
    · rw [cIn_no (by assumption)]
    · rw [cIn_no (by assumption)]
    all_goals have e : i = l.length := by omega
    all_goals subst e; rfl
  all_goals have e : w = 7 := by omega
  all_goals subst e
  · rw [codesR_len l hok, h6]
  · rw [codesR_ok l hok]; rfl⟩
instance CodesOf_c : ConB 99 (∀ l : List Int, l.length ≤ 1099511627776 → Bn 99 [IL l] (CodeOk l) [XI (codes l)] (.own 0 0 0 6) [] .nilS) := ⟨fun l hl => by
  refine ⟨fun hok => ?_, fun hno => ?_⟩
  · have h6 := hok.2.1
    refine FnC.of_body tabOk Try.func99 Try.ntmps99 rfl (by decide +kernel) (by simp) fun G => ?_
    refine go (r := ?_); and_intros <;> intros <;> try exact True.intro
    all_goals first | (exact absurd hok ‹¬ CodeOk l›) | skip
    refine WpA.loop (fun w : Nat => ⟨[(0, IL l), (3, .own 0 0 0 l.length), (4, I (cOut l w).2), (5, I ((w : Int) + 1))], [XI (cOut l w).1]⟩) (fun w => w ≤ 7) (fun w => 7 - w) 0 (by simp) (go (r := ?_)) (fun w hw => ?_)
    · simp [cOut, h6]
    have hb := cOut_bd7 l h6 w hw
    have hsh : IntKind.i64.wrap ((cOut l w).2 * 2) = (cOut l w).2 * 2 := wrap64 _ (by omega)
    refine go (r := ?_); and_intros <;> intros <;> try exact True.intro
    · refine WpA.loop (fun i : Nat => ⟨[(0, IL l), (3, .own 0 0 0 l.length), (4, I (cIn ((w : Int) + 1) l i ((cOut l w).1, (cOut l w).2 * 2)).2), (5, I ((w : Int) + 1)), (18, IL l), (19, I l.length), (20, I i)], [XI (cIn ((w : Int) + 1) l i ((cOut l w).1, (cOut l w).2 * 2)).1]⟩) (fun i => i ≤ l.length) (fun i => l.length - i) 0 (by simp) (go (r := ?_)) (fun i hi => ?_)
      · simp [cIn, hsh]
      have hb2 := cIn_bd ((w : Int) + 1) l i ((cOut l w).1, (cOut l w).2 * 2)
      have hl2 := cIn_len ((w : Int) + 1) l i ((cOut l w).1, (cOut l w).2 * 2)
      have hl3 := cOut_len l w
      simp only at hb2 hl2
      refine go (r := ?_); and_intros <;> intros <;> try exact True.intro
      · rw [cIn_yes (by assumption)]
      · rw [cIn_yes (by assumption)]; rfl
      · rw [cIn_no (by assumption)]
      · rw [cIn_no (by assumption)]
      all_goals have e : i = l.length := by omega
      all_goals subst e; rfl
    all_goals have e : w = 7 := by omega
    all_goals subst e; rfl
  · refine FnC.of_body tabOk Try.func99 Try.ntmps99 rfl (by decide +kernel) (by simp) fun G => ?_
    refine go (r := ?_); and_intros <;> intros <;> try exact True.intro
    all_goals exact absurd ‹CodeOk l› hno⟩

/-! Bits of a number. -/
def bitOk (n w : Int) : Prop := (0 ≤ w ∧ w ≤ 48) ∧ 0 ≤ n ∧ n / 2 ^ w.toNat = 0
instance (n w : Int) : Decidable (bitOk n w) := by unfold bitOk; infer_instance
def bitsR (n : Int) (w : Nat) (k : Nat) : List Int := (List.range k).map fun j : Nat => n / 2 ^ (w - 1 - j) % 2
def bitsL (n w : Int) : List Int := if bitOk n w then bitsR n w.toNat w.toNat else []
theorem bitsR_len (n : Int) (w k : Nat) : (bitsR n w k).length = k := by simp [bitsR]
theorem bitsR_snoc (n : Int) (w k : Nat) : bitsR n w (k + 1) = bitsR n w k ++ [n / 2 ^ (w - 1 - k) % 2] := by simp [bitsR, List.range_succ]
theorem bitsL_len (n w : Int) : (bitsL n w).length ≤ 48 := by
  unfold bitsL; split
  · rename_i h; rw [bitsR_len]; have := h.1; omega
  · simp
theorem low1 (k : Int) (h : 0 ≤ k ∧ k ≤ 9223372036854775807) : IntKind.i64.wrap ((BitVec.ofInt IntKind.i64.bits k &&& BitVec.ofInt IntKind.i64.bits 1).toNat : Nat) = k % 2 := by
  obtain ⟨m, rfl⟩ : ∃ m : Nat, k = m := ⟨k.toNat, by omega⟩
  have e1 : (BitVec.ofInt IntKind.i64.bits (m : Int)).toNat = m := by simp only [IntKind.bits, BitVec.toNat_ofInt]; omega
  have e : (BitVec.ofInt IntKind.i64.bits (m : Int) &&& BitVec.ofInt IntKind.i64.bits 1).toNat = m % 2 := by
    rw [BitVec.toNat_and, e1, show (BitVec.ofInt IntKind.i64.bits (1 : Int)).toNat = 2 ^ 1 - 1 from by decide, Nat.and_two_pow_sub_one_eq_mod]
  rw [e, wrap64 _ (by omega)]; omega
theorem shr_bd (n : Int) (k : Nat) (h : 0 ≤ n) : 0 ≤ n / 2 ^ k ∧ n / 2 ^ k ≤ n := by
  constructor
  · exact Int.ediv_nonneg h (Int.le_of_lt (Int.pow_pos (by decide)))
  · exact Int.ediv_le_self _ h
instance BitsIn_s : Con 84 (∀ n w : Int, n ≤ 9223372036854775807 → Fn 84 [I n, I w] [XI (bitsL n w)] (.own 0 0 0 (bitsL n w).length)) := ⟨fun n w hn => by
  refine FnC.of_body tabOk Try.func84 Try.ntmps84 rfl (by decide +kernel) (by simp) fun G => ?_
  refine go (r := ?_); and_intros <;> intros <;> try exact True.intro
  all_goals first | (rw [bitsL, if_neg (by unfold bitOk; omega)]; done) | (rw [bitsL, if_neg (by unfold bitOk; omega)]; rfl) | skip
  have hok : bitOk n w := ⟨‹_›, by omega, ‹_›⟩
  obtain ⟨⟨h0, h48⟩, hn0, _⟩ := id hok
  obtain ⟨W, rfl⟩ : ∃ W : Nat, w = W := ⟨w.toNat, by omega⟩
  refine WpA.loop (fun k : Nat => ⟨[(0, I n), (5, .own 0 0 0 k), (6, I ((W : Int) - 1 - k))], [XI (bitsR n W k)]⟩) (fun k => k ≤ W) (fun k => W - k) 0 (by simp) (go (r := ?_)) (fun k hk => ?_)
  · simp [bitsR]
  have hl := bitsR_len n W k
  have hb := shr_bd n ((W : Int) - 1 - k).toNat hn0
  refine go (r := ?_); and_intros <;> intros <;> try exact True.intro
  · rw [bitsR_snoc, low1 _ (by omega)]; congr 6; omega
  all_goals have e : k = W := by omega
  all_goals subst e
  · rw [bitsL, if_pos hok, bitsR_len]; rfl
  · rw [bitsL, if_pos hok]; rfl⟩
instance BitsIn_c : Con 58 (∀ n w : Int, n ≤ 9223372036854775807 → Fn 58 [I n, I w] [XI (bitsL n w)] (.own 0 0 0 (bitsL n w).length)) := ⟨fun n w hn => by
  refine FnC.of_body tabOk Try.func58 Try.ntmps58 rfl (by decide +kernel) (by simp) fun G => ?_
  refine go (r := ?_); and_intros <;> intros <;> try exact True.intro
  all_goals first | (rw [bitsL, if_neg (by unfold bitOk; omega)]; done) | (rw [bitsL, if_neg (by unfold bitOk; omega)]; rfl) | skip
  have hok : bitOk n w := ⟨‹_›, by omega, ‹_›⟩
  obtain ⟨⟨h0, h48⟩, hn0, _⟩ := id hok
  obtain ⟨W, rfl⟩ : ∃ W : Nat, w = W := ⟨w.toNat, by omega⟩
  refine WpA.loop (fun k : Nat => ⟨[(0, I n), (5, .own 0 0 0 k), (6, I ((W : Int) - 1 - k))], [XI (bitsR n W k)]⟩) (fun k => k ≤ W) (fun k => W - k) 0 (by simp) (go (r := ?_)) (fun k hk => ?_)
  · simp [bitsR]
  have hl := bitsR_len n W k
  have hb := shr_bd n ((W : Int) - 1 - k).toNat hn0
  refine go (r := ?_); and_intros <;> intros <;> try exact True.intro
  · rw [bitsR_snoc, low1 _ (by omega)]; congr 6; omega
  all_goals have e : k = W := by omega
  all_goals subst e
  · rw [bitsL, if_pos hok, bitsR_len]; rfl
  · rw [bitsL, if_pos hok]; rfl⟩

/-! Options. -/
def OptOk (q : Int) (l : List Int) : Prop := (0 ≤ q ∧ q ≤ 51) ∧ CodeOk l
instance (q : Int) (l : List Int) : Decidable (OptOk q l) := by unfold OptOk; infer_instance
end Go.Proofs.Ytpokokcgoebbhaa

/- The codes of a whole prefix code: each fits its length, no code begins another one, and all words of seven bits begin with one. No condition. -/
namespace Go.Proofs.Ytpokokcgoebbhaa
open Go Go.Abs
set_option linter.unusedVariables false
set_option linter.unusedSimpArgs false

def Dn (l : List Int) (w : Int) (i m : Nat) : Prop := (1 ≤ l.getD m 0 ∧ l.getD m 0 < w) ∨ (l.getD m 0 = w ∧ m < i)
def hit (c l : List Int) (m : Nat) (v : Int) : Prop := c.getD m 0 * cw (l.getD m 0) ≤ v ∧ v < (c.getD m 0 + 1) * cw (l.getD m 0)
structure J (l : List Int) (w p : Int) (i : Nat) (s : List Int × Int) : Prop where
  len : s.1.length = l.length
  lo : 0 ≤ s.2
  cod : ∀ m, m < l.length → Dn l w i m → 0 ≤ s.1.getD m 0 ∧ (s.1.getD m 0 + 1) * cw (l.getD m 0) ≤ s.2 * p
  cov : ∀ v, 0 ≤ v → v < s.2 * p → ∃ m, m < l.length ∧ Dn l w i m ∧ hit s.1 l m v
  uni : ∀ m m' v, m < l.length → m' < l.length → Dn l w i m → Dn l w i m' → hit s.1 l m v → hit s.1 l m' v → m = m'

theorem getD_set (c : List Int) (i m : Nat) (v : Int) (h : i < c.length) : (c.set i v).getD m 0 = if m = i then v else c.getD m 0 := by
  rw [List.getD_eq_getElem?_getD, List.getElem?_set]
  by_cases e : i = m
  · subst e; simp [h]
  · have : ¬ m = i := fun h => e h.symm
    simp [e, this]
theorem J.step {l : List Int} {w p : Int} {i : Nat} {s : List Int × Int} (h : J l w p i s) (hi : i < l.length) (hp : cw w = p) (hp0 : 0 < p) (hw : 1 ≤ w) :
    J l w p (i + 1) (if l.getD i 0 = w then (s.1.set i s.2, s.2 + 1) else s) := by
  by_cases e : l.getD i 0 = w
  · rw [if_pos e]
    have hl := h.len
    have hmul : (s.2 + 1) * p = s.2 * p + p := by rw [Int.add_mul, Int.one_mul]
    have hD : ∀ m, Dn l w (i + 1) m ↔ Dn l w i m ∨ m = i := by
      intro m; unfold Dn; constructor
      · rintro (h | ⟨h1, h2⟩)
        · exact .inl (.inl h)
        · by_cases hm : m = i
          · exact .inr hm
          · exact .inl (.inr ⟨h1, by omega⟩)
      · rintro ((h | ⟨h1, h2⟩) | rfl)
        · exact .inl h
        · exact .inr ⟨h1, by omega⟩
        · exact .inr ⟨e, by omega⟩
    have hne : ∀ m, Dn l w i m → m ≠ i := by
      rintro m (h | ⟨_, h⟩) rfl
      · omega
      · omega
    have hg : ∀ m, (s.1.set i s.2).getD m 0 = if m = i then s.2 else s.1.getD m 0 := fun m => getD_set s.1 i m s.2 (by omega)
    have hhit : ∀ m v, m ≠ i → (hit (s.1.set i s.2) l m v ↔ hit s.1 l m v) := by intro m v hm; unfold hit; rw [hg, if_neg hm]
    have hhi : ∀ v, hit (s.1.set i s.2) l i v ↔ s.2 * p ≤ v ∧ v < s.2 * p + p := by intro v; unfold hit; rw [hg, if_pos rfl, e, hp, hmul]
    refine ⟨by simp [hl], by have := h.lo; simp only; omega, fun m hm hd => ?_, fun v h0 hv => ?_, fun m m' v hm hm' hd hd' h1 h2 => ?_⟩
    · show 0 ≤ (s.1.set i s.2).getD m 0 ∧ ((s.1.set i s.2).getD m 0 + 1) * _ ≤ (s.2 + 1) * p
      rw [hg, hmul]
      rcases (hD m).1 hd with hd | rfl
      · rw [if_neg (hne m hd)]; have := h.cod m hm hd; omega
      · rw [if_pos rfl, e, hp, hmul]; have := h.lo; omega
    · have hv : v < (s.2 + 1) * p := hv
      rw [hmul] at hv
      by_cases hlt : v < s.2 * p
      · obtain ⟨m, h1, h2, h3⟩ := h.cov v h0 hlt
        exact ⟨m, h1, (hD m).2 (.inl h2), (hhit m v (hne m h2)).2 h3⟩
      · exact ⟨i, hi, (hD i).2 (.inr rfl), (hhi v).2 ⟨by omega, hv⟩⟩
    · rcases (hD m).1 hd with d1 | rfl <;> rcases (hD m').1 hd' with d2 | e2
      · exact h.uni m m' v hm hm' d1 d2 ((hhit m v (hne m d1)).1 h1) ((hhit m' v (hne m' d2)).1 h2)
      · subst e2
        have a := (hhit m v (hne m d1)).1 h1
        have b := (hhi v).1 h2
        have c := h.cod m hm d1
        unfold hit at a; omega
      · have a := (hhit m' v (hne m' d2)).1 h2
        have b := (hhi v).1 h1
        have c := h.cod m' hm' d2
        unfold hit at a; omega
      · exact e2.symm
  · rw [if_neg e]
    have hD : ∀ m, Dn l w (i + 1) m ↔ Dn l w i m := by
      intro m; unfold Dn; constructor
      · rintro (h | ⟨h1, h2⟩)
        · exact .inl h
        · refine .inr ⟨h1, ?_⟩
          have : m ≠ i := by rintro rfl; exact e h1
          omega
      · rintro (h | ⟨h1, h2⟩)
        · exact .inl h
        · exact .inr ⟨h1, by omega⟩
    exact ⟨h.len, h.lo, fun m hm hd => h.cod m hm ((hD m).1 hd), fun v h0 hv => by
      obtain ⟨m, h1, h2, h3⟩ := h.cov v h0 hv
      exact ⟨m, h1, (hD m).2 h2, h3⟩, fun m m' v hm hm' hd hd' => h.uni m m' v hm hm' ((hD m).1 hd) ((hD m').1 hd')⟩
theorem J.level {l : List Int} {w p q : Int} {s : List Int × Int} (h : J l w p l.length s) (hpq : p = 2 * q) (hw : 1 ≤ w) : J l (w + 1) q 0 (s.1, s.2 * 2) := by
  have e : s.2 * 2 * q = s.2 * p := by rw [hpq, Int.mul_assoc]
  have hD : ∀ m, m < l.length → (Dn l (w + 1) 0 m ↔ Dn l w l.length m) := by
    intro m hm; unfold Dn; constructor
    · rintro (h | ⟨h1, h2⟩)
      · by_cases hw : l.getD m 0 = w
        · exact .inr ⟨hw, hm⟩
        · exact .inl (by omega)
      · omega
    · rintro (h | ⟨h1, h2⟩)
      · exact .inl (by omega)
      · exact .inl (by omega)
  refine ⟨h.len, ?_, fun m hm hd => ?_, fun v h0 hv => ?_, fun m m' v hm hm' hd hd' => h.uni m m' v hm hm' ((hD m hm).1 hd) ((hD m' hm').1 hd')⟩
  · show 0 ≤ s.2 * 2
    have := h.lo; omega
  · show 0 ≤ s.1.getD m 0 ∧ _ ≤ s.2 * 2 * q
    rw [e]; exact h.cod m hm ((hD m hm).1 hd)
  · have hv : v < s.2 * 2 * q := hv
    rw [e] at hv
    obtain ⟨m, h1, h2, h3⟩ := h.cov v h0 hv
    exact ⟨m, h1, (hD m h1).2 h2, h3⟩
theorem J.inn {l : List Int} {w p : Int} {s : List Int × Int} (h : J l w p 0 s) (hp : cw w = p) (hp0 : 0 < p) (hw : 1 ≤ w) : ∀ i, i ≤ l.length → J l w p i (cIn w l i s)
  | 0, _ => h
  | i + 1, hi => by rw [cIn]; exact J.step (J.inn h hp hp0 hw i (by omega)) (by omega) hp hp0 hw
theorem J7 (l : List Int) : J l 7 1 l.length (cOut l 7) := by
  have j0 : J l 1 64 0 ((cOut l 0).1, (cOut l 0).2 * 2) := by
    refine ⟨by simp [cOut], by simp [cOut], fun m hm hd => ?_, fun v h0 hv => ?_, fun m m' v hm hm' hd => ?_⟩
    · unfold Dn at hd; omega
    · have : v < 0 := by simpa [cOut] using hv
      omega
    · unfold Dn at hd; omega
  have j1 := (J.inn j0 (by decide) (by decide) (by decide) l.length (Nat.le_refl _)).level (q := 32) (by decide) (by decide)
  have j2 := (J.inn j1 (by decide) (by decide) (by decide) l.length (Nat.le_refl _)).level (q := 16) (by decide) (by decide)
  have j3 := (J.inn j2 (by decide) (by decide) (by decide) l.length (Nat.le_refl _)).level (q := 8) (by decide) (by decide)
  have j4 := (J.inn j3 (by decide) (by decide) (by decide) l.length (Nat.le_refl _)).level (q := 4) (by decide) (by decide)
  have j5 := (J.inn j4 (by decide) (by decide) (by decide) l.length (Nat.le_refl _)).level (q := 2) (by decide) (by decide)
  have j6 := (J.inn j5 (by decide) (by decide) (by decide) l.length (Nat.le_refl _)).level (q := 1) (by decide) (by decide)
  exact J.inn j6 (by decide) (by decide) (by decide) l.length (Nat.le_refl _)
theorem cIn_cnt (w : Int) (l : List Int) (s : List Int × Int) : ∀ i, i ≤ l.length → (cIn w l i s).2 = s.2 + ((l.take i).count w : Nat)
  | 0, _ => by simp [cIn]
  | i + 1, hi => by
    have ih := cIn_cnt w l s i (by omega)
    rw [cIn, List.take_succ_eq_append_getElem (by omega), List.count_append]
    have e : l.getD i 0 = l[i] := by simp [show i < l.length by omega]
    rw [e]
    by_cases h : l[i] = w
    · rw [if_pos h]; simp only [h, List.count_singleton_self]; omega
    · rw [if_neg h]; simp only [List.count_singleton, beq_iff_eq, h, if_false]; omega
theorem csum_cnt (l : List Int) (h : In l 0 7) : csum l = 64 * (l.count 1 : Nat) + 32 * (l.count 2 : Nat) + 16 * (l.count 3 : Nat) + 8 * (l.count 4 : Nat) + 4 * (l.count 5 : Nat) + 2 * (l.count 6 : Nat) + (l.count 7 : Nat) := by
  induction l with
  | nil => simp [csum]
  | cons x l ih =>
    have hx : 0 ≤ x ∧ x ≤ 7 := by unfold In at h; exact h x (by simp)
    have ih := ih (by unfold In at *; exact fun v hv => h v (List.mem_cons_of_mem _ hv))
    have hc : csum (x :: l) = cw x + csum l := by unfold csum; simp
    have key : ∀ k : Fin 8, cw (k.val : Int) + csum l = 64 * ((((k.val : Int) :: l).count 1 : Nat) : Int) + 32 * (((k.val : Int) :: l).count 2 : Nat) + 16 * (((k.val : Int) :: l).count 3 : Nat) + 8 * (((k.val : Int) :: l).count 4 : Nat) + 4 * (((k.val : Int) :: l).count 5 : Nat) + 2 * (((k.val : Int) :: l).count 6 : Nat) + (((k.val : Int) :: l).count 7 : Nat) := by
      have c0 : cw 0 = 0 := by decide
      have c1 : cw 1 = 64 := by decide
      have c2 : cw 2 = 32 := by decide
      have c3 : cw 3 = 16 := by decide
      have c4 : cw 4 = 8 := by decide
      have c5 : cw 5 = 4 := by decide
      have c6 : cw 6 = 2 := by decide
      have c7 : cw 7 = 1 := by decide
      rintro ⟨k, hk⟩
      rcases (by omega : k = 0 ∨ k = 1 ∨ k = 2 ∨ k = 3 ∨ k = 4 ∨ k = 5 ∨ k = 6 ∨ k = 7) with rfl | rfl | rfl | rfl | rfl | rfl | rfl | rfl <;> simp [List.count_cons, c0, c1, c2, c3, c4, c5, c6, c7] <;> omega
    obtain ⟨k, rfl⟩ : ∃ k : Nat, x = k := ⟨x.toNat, by omega⟩
    rw [hc]; exact key ⟨k, by omega⟩
theorem next7 (l : List Int) (h : In l 0 7) : (cOut l 7).2 = csum l := by
  have e : ∀ w, (cOut l (w + 1)).2 = (cOut l w).2 * 2 + (l.count ((w : Int) + 1) : Nat) := by
    intro w; rw [cOut, cIn_cnt _ _ _ _ (Nat.le_refl _), List.take_length]
  have e1 := e 0; have e2 := e 1; have e3 := e 2; have e4 := e 3; have e5 := e 4; have e6 := e 5; have e7 := e 6
  have e0 : (cOut l 0).2 = 0 := rfl
  rw [csum_cnt l h]
  simp only [Nat.reduceAdd, Int.natCast_zero, Int.reduceAdd, Int.zero_add] at e1 e2 e3 e4 e5 e6 e7
  simp only [show ((1 : Nat) : Int) + 1 = 2 from rfl, show ((2 : Nat) : Int) + 1 = 3 from rfl, show ((3 : Nat) : Int) + 1 = 4 from rfl, show ((4 : Nat) : Int) + 1 = 5 from rfl, show ((5 : Nat) : Int) + 1 = 6 from rfl, show ((6 : Nat) : Int) + 1 = 7 from rfl] at e1 e2 e3 e4 e5 e6 e7
  omega
/-! What is wanted of it. -/
theorem code_in {l : List Int} (h : CodeOk l) {m : Nat} (hm : m < 6) : 0 ≤ l.getD m 0 ∧ l.getD m 0 ≤ 7 := by
  have h6 := h.2.1
  exact in_get h.1 (by omega)
theorem code_fit {l : List Int} (h : CodeOk l) {m : Nat} (hm : m < 6) (h1 : l.getD m 0 ≠ 0) : 0 ≤ (codes l).getD m 0 ∧ ((codes l).getD m 0 + 1) * cw (l.getD m 0) ≤ 128 := by
  have h6 := h.2.1
  have hb := code_in h hm
  have := (J7 l).cod m (by omega) (by unfold Dn; omega)
  rw [next7 l h.1, h.2.2] at this
  simpa [codes] using this
theorem code_lt {l : List Int} (h : CodeOk l) {m : Nat} (hm : m < 6) (h1 : l.getD m 0 ≠ 0) : (codes l).getD m 0 < 2 ^ (l.getD m 0).toNat := by
  have hb := code_in h hm
  have hf := (code_fit h hm h1).2
  generalize (codes l).getD m 0 = c at *
  generalize l.getD m 0 = n at *
  have key : ∀ k : Fin 8, k.val ≠ 0 → (c + 1) * cw (k.val : Int) ≤ 128 → c < 2 ^ ((k.val : Int)).toNat := by
    rintro ⟨k, hk⟩ h0 hc
    rcases (by omega : k = 0 ∨ k = 1 ∨ k = 2 ∨ k = 3 ∨ k = 4 ∨ k = 5 ∨ k = 6 ∨ k = 7) with rfl | rfl | rfl | rfl | rfl | rfl | rfl | rfl
    · exact absurd rfl h0
    all_goals simp [cw] at hc ⊢
    all_goals omega
  obtain ⟨k, rfl⟩ : ∃ k : Nat, n = k := ⟨n.toNat, by omega⟩
  exact key ⟨k, by omega⟩ (fun e => h1 (by simp at e; simp [e])) hf
theorem code_cov {l : List Int} (h : CodeOk l) {v : Int} (h0 : 0 ≤ v) (h1 : v < 128) : ∃ m, m < 6 ∧ l.getD m 0 ≠ 0 ∧ hit (codes l) l m v := by
  have h6 := h.2.1
  obtain ⟨m, a, b, c⟩ := (J7 l).cov v h0 (by rw [next7 l h.1, h.2.2]; omega)
  exact ⟨m, by omega, by unfold Dn at b; omega, c⟩
theorem code_uni {l : List Int} (h : CodeOk l) {m m' : Nat} {v : Int} (hm : m < 6) (hm' : m' < 6) (h0 : l.getD m 0 ≠ 0) (h0' : l.getD m' 0 ≠ 0) (h1 : hit (codes l) l m v) (h2 : hit (codes l) l m' v) : m = m' := by
  have h6 := h.2.1
  have b1 := code_in h hm
  have b2 := code_in h hm'
  exact (J7 l).uni m m' v (by omega) (by omega) (by unfold Dn; omega) (by unfold Dn; omega) h1 h2
end Go.Proofs.Ytpokokcgoebbhaa

/- Plain laws: bits of a text, numbers of bits, what is read of them. No condition. -/
namespace Go.Proofs.Ytpokokcgoebbhaa
open Go Go.Abs
set_option linter.unusedVariables false
set_option linter.unusedSimpArgs false

def bit1 (y : Int) : Int := IntKind.i64.wrap ((BitVec.ofInt IntKind.i64.bits y &&& BitVec.ofInt IntKind.i64.bits 1).toNat : Nat)
theorem bit1_bd (y : Int) : 0 ≤ bit1 y ∧ bit1 y ≤ 1 := by
  have h : (BitVec.ofInt IntKind.i64.bits y &&& BitVec.ofInt IntKind.i64.bits 1).toNat ≤ 1 := by
    rw [BitVec.toNat_and]
    exact Nat.le_trans Nat.and_le_right (by decide)
  unfold bit1
  rw [wrap64 _ (by omega)]
  omega
/-- Bit i of a text, -1 where there is none. -/
def btA (p : List UInt8) (i : Int) : Int := if i < 0 ∨ 8 * (p.length : Int) ≤ i then -1 else bit1 (((p.getD (i / 8).toNat 0).toNat : Int) / 2 ^ (7 - i % 8).toNat)
theorem btA_out (p : List UInt8) (i : Int) : btA p i < 0 ↔ (i < 0 ∨ 8 * (p.length : Int) ≤ i) := by
  unfold btA
  have := bit1_bd (((p.getD (i / 8).toNat 0).toNat : Int) / 2 ^ (7 - i % 8).toNat)
  split <;> omega
theorem btA_bd (p : List UInt8) (i : Int) : -1 ≤ btA p i ∧ btA p i ≤ 1 := by
  unfold btA
  have := bit1_bd (((p.getD (i / 8).toNat 0).toNat : Int) / 2 ^ (7 - i % 8).toNat)
  split <;> omega
/-- The same, 0 where there is none. -/
def bv (p : List UInt8) (i : Int) : Int := max (btA p i) 0
theorem bv_bd (p : List UInt8) (i : Int) : 0 ≤ bv p i ∧ bv p i ≤ 1 := by have := btA_bd p i; unfold bv; omega
/-- So many bits as a number. -/
def numB (p : List UInt8) (s : Int) : Nat → Int
  | 0 => 0
  | k + 1 => numB p s k * 2 + bv p (s + k)
theorem numB_bd (p : List UInt8) (s : Int) : ∀ k, 0 ≤ numB p s k ∧ numB p s k < 2 ^ k
  | 0 => by simp [numB]
  | k + 1 => by
    have h1 := numB_bd p s k
    have h2 := bv_bd p (s + k)
    rw [numB, Int.pow_succ]; omega
theorem numB_le (p : List UInt8) (s : Int) {k j : Nat} (h : k ≤ j) : numB p s k < 2 ^ j := by
  have h1 := numB_bd p s k
  have h2 : (2 : Int) ^ k ≤ 2 ^ j := by exact_mod_cast Nat.pow_le_pow_right (by decide) h
  omega
theorem numB_add (p : List UInt8) (s : Int) (a : Nat) : ∀ b, numB p s (a + b) = numB p s a * 2 ^ b + numB p (s + a) b
  | 0 => by simp [numB]
  | b + 1 => by
    rw [← Nat.add_assoc, numB, numB_add p s a b, numB, Int.pow_succ, Int.natCast_add, ← Int.add_assoc, Int.add_mul, Int.mul_assoc, Int.add_assoc]
abbrev RdOk (p : List UInt8) (s : Int) : Prop := 0 ≤ s ∧ s ≤ 8 * (p.length : Int)
def lft (p : List UInt8) (s : Int) : Int := if RdOk p s then 8 * (p.length : Int) - s else 0
theorem lft_bd (p : List UInt8) (s : Int) : 0 ≤ lft p s ∧ lft p s ≤ 8 * (p.length : Int) := by unfold lft; split <;> omega
theorem lft_ok {p : List UInt8} {s : Int} (h : RdOk p s) : lft p s = 8 * (p.length : Int) - s := by rw [lft, if_pos h]
theorem lft_no {p : List UInt8} {s : Int} (h : ¬ RdOk p s) : lft p s = 0 := by rw [lft, if_neg h]
abbrev RbOk (p : List UInt8) (s n : Int) : Prop := RdOk p s ∧ (0 ≤ n ∧ n ≤ 32) ∧ n ≤ lft p s
def rbA (p : List UInt8) (s n : Int) : Int := if RbOk p s n then s + n else s
def rbV (p : List UInt8) (s n : Int) : Int := if RbOk p s n then numB p s n.toNat else 0
theorem rbV_bd (p : List UInt8) (s n : Int) : 0 ≤ rbV p s n ∧ rbV p s n < 4294967296 := by
  unfold rbV; split
  · rename_i h
    have h1 := numB_bd p s n.toNat
    have h2 := numB_le p s (k := n.toNat) (j := 32) (by omega)
    omega
  · omega
theorem rb_yes {p : List UInt8} {s n : Int} (h : RbOk p s n) : rbA p s n = s + n ∧ rbV p s n = numB p s n.toNat := ⟨if_pos h, if_pos h⟩
theorem rb_no {p : List UInt8} {s n : Int} (h : ¬ RbOk p s n) : rbA p s n = s ∧ rbV p s n = 0 := ⟨if_neg h, if_neg h⟩

/-! Zeros ahead. -/
def zrW (p : List UInt8) (s : Int) : Nat → Nat → Nat
  | 0, n => n
  | f + 1, n => if btA p (s + n) = 0 then zrW p s f (n + 1) else n
def zrs (p : List UInt8) (s : Int) : Nat := zrW p s (lft p s).toNat 0
theorem zrW_le (p : List UInt8) (s : Int) : ∀ f n, n ≤ zrW p s f n ∧ zrW p s f n ≤ n + f
  | 0, n => by simp [zrW]
  | f + 1, n => by
    rw [zrW]; split
    · have := zrW_le p s f (n + 1); omega
    · omega
theorem zrs_le (p : List UInt8) (s : Int) : (zrs p s : Int) ≤ lft p s := by
  have := zrW_le p s (lft p s).toNat 0
  have := lft_bd p s
  unfold zrs; omega
theorem zrW_eq (p : List UInt8) (s : Int) : ∀ (f n k : Nat), k ≤ f → (∀ j < k, btA p (s + (n + j : Nat)) = 0) → (k = f ∨ btA p (s + (n + k : Nat)) ≠ 0) → zrW p s f n = n + k
  | 0, n, k, h1, _, _ => by have : k = 0 := by omega
                            subst this; rfl
  | f + 1, n, 0, _, _, h3 => by
    rw [zrW]
    rcases h3 with h3 | h3
    · omega
    · rw [if_neg (by simpa using h3)]; rfl
  | f + 1, n, k + 1, h1, h2, h3 => by
    have h0 := h2 0 (by omega)
    rw [zrW, if_pos (by simpa using h0), zrW_eq p s f (n + 1) k (by omega) (fun j hj => by have := h2 (j + 1) (by omega); rw [show n + 1 + j = n + (j + 1) by omega]; exact this)
      (by rcases h3 with h3 | h3; exact .inl (by omega); exact .inr (by rw [show n + 1 + k = n + (k + 1) by omega]; exact h3))]
    omega
theorem zrs_eq {p : List UInt8} {s : Int} {k : Nat} (h1 : (k : Int) ≤ lft p s) (h2 : ∀ j < k, btA p (s + (j : Nat)) = 0) (h3 : (k : Int) = lft p s ∨ btA p (s + (k : Nat)) ≠ 0) : zrs p s = k := by
  have h0 := lft_bd p s
  unfold zrs
  rw [zrW_eq p s _ 0 k (by omega) (fun j hj => by rw [Nat.zero_add]; exact h2 j hj) (by rw [Nat.zero_add]; rcases h3 with h3 | h3; exact .inl (by omega); exact .inr h3)]
  omega

/-! Numbers behind zeros. -/
def ueA (p : List UInt8) (s : Int) : Int := if zrs p s ≤ 15 then rbA p s (2 * (zrs p s : Int) + 1) else s
def ueC (p : List UInt8) (s : Int) : Int := if zrs p s ≤ 15 then (if RbOk p s (2 * (zrs p s : Int) + 1) then 0 else 1) else 4
def ueV (p : List UInt8) (s : Int) : Int := if ueC p s = 0 then rbV p s (2 * (zrs p s : Int) + 1) - 1 else 0
def lvOf (n : Int) : Int := if n < 0 then 0 else if n % 2 = 0 then n / 2 + 1 else -(n / 2) - 1

theorem ue_yes {p : List UInt8} {s : Int} (h : zrs p s ≤ 15) (h2 : RbOk p s (2 * (zrs p s : Int) + 1)) : ueA p s = s + (2 * (zrs p s : Int) + 1) ∧ ueC p s = 0 ∧ ueV p s = numB p s (2 * (zrs p s : Int) + 1).toNat - 1 := by
  have e : ueC p s = 0 := by rw [ueC, if_pos h, if_pos h2]
  exact ⟨by rw [ueA, if_pos h, (rb_yes h2).1], e, by rw [ueV, if_pos e, (rb_yes h2).2]⟩
theorem ue_short {p : List UInt8} {s : Int} (h : zrs p s ≤ 15) (h2 : ¬ RbOk p s (2 * (zrs p s : Int) + 1)) : ueA p s = s ∧ ueC p s = 1 ∧ ueV p s = 0 := by
  have e : ueC p s = 1 := by rw [ueC, if_pos h, if_neg h2]
  exact ⟨by rw [ueA, if_pos h, (rb_no h2).1], e, by rw [ueV, if_neg (by omega)]⟩
theorem ue_code {p : List UInt8} {s : Int} (h : ¬ zrs p s ≤ 15) : ueA p s = s ∧ ueC p s = 4 ∧ ueV p s = 0 := by
  have e : ueC p s = 4 := by rw [ueC, if_neg h]
  exact ⟨by rw [ueA, if_neg h], e, by rw [ueV, if_neg (by omega)]⟩

/-! Symbols. -/
abbrev SymAt (p : List UInt8) (s : Int) (l : List Int) (m : Nat) : Prop := 0 < l.getD m 0 ∧ RbOk p s (l.getD m 0) ∧ numB p s (l.getD m 0).toNat = (codes l).getD m 0
theorem sym_hit {p : List UInt8} {s : Int} {l : List Int} {m : Nat} (hl : CodeOk l) (hm : m < 6) (h : SymAt p s l m) : hit (codes l) l m (numB p s 7) := by
  have hb := code_in hl hm
  obtain ⟨w, hw⟩ : ∃ w : Nat, l.getD m 0 = w := ⟨(l.getD m 0).toNat, by omega⟩
  have hw7 : w ≤ 7 := by omega
  have h1 := numB_add p s w (7 - w)
  have h2 := numB_bd p (s + w) (7 - w)
  have h3 := h.2.2
  have h5 := h.1
  rw [show w + (7 - w) = 7 by omega] at h1
  rw [hw] at h3
  have h4 : numB p s w = (codes l).getD m 0 := by simpa using h3
  unfold hit
  rw [hw]
  have hcw : cw (w : Int) = 2 ^ (7 - w) := by
    rcases (by omega : w = 1 ∨ w = 2 ∨ w = 3 ∨ w = 4 ∨ w = 5 ∨ w = 6 ∨ w = 7) with rfl | rfl | rfl | rfl | rfl | rfl | rfl <;> rfl
  rw [hcw, h1, h4, Int.add_mul]
  omega
theorem sym_uni {p : List UInt8} {s : Int} {l : List Int} {m m' : Nat} (hl : CodeOk l) (hm : m < 6) (hm' : m' < 6) (h : SymAt p s l m) (h' : SymAt p s l m') : m = m' :=
  code_uni hl hm hm' (by omega) (by omega) (sym_hit hl hm h) (sym_hit hl hm' h')
theorem sym_cov {p : List UInt8} {s : Int} {l : List Int} (hl : CodeOk l) (h : RbOk p s 7) : ∃ m, m < 6 ∧ SymAt p s l m := by
  have hb := numB_bd p s 7
  obtain ⟨m, hm, h0, h1, h2⟩ := code_cov hl (v := numB p s 7) hb.1 hb.2
  have hb2 := code_in hl hm
  refine ⟨m, hm, by omega, ⟨h.1, by omega, by omega⟩, ?_⟩
  obtain ⟨w, hw⟩ : ∃ w : Nat, l.getD m 0 = w := ⟨(l.getD m 0).toNat, by omega⟩
  have hw7 : w ≤ 7 := by omega
  have h3 := numB_add p s w (7 - w)
  have h4 := numB_bd p (s + w) (7 - w)
  rw [show w + (7 - w) = 7 by omega] at h3
  have hcw : cw (w : Int) = 2 ^ (7 - w) := by
    rcases (by omega : w = 1 ∨ w = 2 ∨ w = 3 ∨ w = 4 ∨ w = 5 ∨ w = 6 ∨ w = 7) with rfl | rfl | rfl | rfl | rfl | rfl | rfl <;> rfl
  rw [hw, hcw] at h1 h2
  rw [hw, show ((w : Int)).toNat = w by simp]
  rw [h3] at h1 h2
  have hp : (0 : Int) < 2 ^ (7 - w) := by exact_mod_cast Nat.pow_pos (by decide)
  generalize (2 : Int) ^ (7 - w) = q at *
  have e1 : (codes l).getD m 0 * q ≤ numB p s w * q + numB p (s + w) (7 - w) := h1
  have e2 : numB p s w * q + numB p (s + w) (7 - w) < ((codes l).getD m 0 + 1) * q := h2
  have a1 : (codes l).getD m 0 < numB p s w + 1 := by
    apply Int.lt_of_mul_lt_mul_right (a := q) _ (by omega)
    rw [Int.add_mul]; omega
  have a2 : numB p s w < (codes l).getD m 0 + 1 := by
    apply Int.lt_of_mul_lt_mul_right (a := q) _ (by omega)
    omega
  omega
/-- The symbol that is read, 6 where there is none. -/
def symM (p : List UInt8) (s : Int) (l : List Int) : Nat := ((List.range 6).find? fun m => decide (SymAt p s l m)).getD 6
theorem symM_eq {p : List UInt8} {s : Int} {l : List Int} {m : Nat} (hl : CodeOk l) (hm : m < 6) (h : SymAt p s l m) : symM p s l = m := by
  unfold symM
  cases hf : (List.range 6).find? fun m => decide (SymAt p s l m) with
  | none =>
    have := List.find?_eq_none.1 hf m (by simp [hm])
    exact absurd (decide_eq_true h) this
  | some m' =>
    have h1 := List.find?_some hf
    have h2 := List.mem_of_find?_eq_some hf
    exact (sym_uni hl (by simpa using h2) hm (of_decide_eq_true h1) h)
theorem symM_none {p : List UInt8} {s : Int} {l : List Int} (h : ∀ m, m < 6 → ¬ SymAt p s l m) : symM p s l = 6 := by
  unfold symM
  have : (List.range 6).find? (fun m => decide (SymAt p s l m)) = none := List.find?_eq_none.2 fun m hm => by simpa using h m (by simpa using hm)
  rw [this]; rfl
theorem symM_lt {p : List UInt8} {s : Int} {l : List Int} (h : symM p s l < 6) : SymAt p s l (symM p s l) := by
  unfold symM at *
  cases hf : (List.range 6).find? fun m => decide (SymAt p s l m) with
  | none => rw [hf] at h; simp at h
  | some m' =>
    have h1 := List.find?_some hf
    exact of_decide_eq_true (p := SymAt p s l m') h1
def smC (p : List UInt8) (s : Int) (l : List Int) : Int := if CodeOk l then (if symM p s l < 6 then 0 else 1) else 4
def smA (p : List UInt8) (s : Int) (l : List Int) : Int := if smC p s l = 0 then s + l.getD (symM p s l) 0 else s
def smV (p : List UInt8) (s : Int) (l : List Int) : Int := if smC p s l = 0 then symM p s l else 0
theorem sm_yes {p : List UInt8} {s : Int} {l : List Int} {m : Nat} (hl : CodeOk l) (hm : m < 6) (h : SymAt p s l m) : smA p s l = s + l.getD m 0 ∧ smV p s l = m ∧ smC p s l = 0 := by
  have e := symM_eq hl hm h
  have c : smC p s l = 0 := by rw [smC, if_pos hl, if_pos (by omega)]
  exact ⟨by rw [smA, if_pos c, e], by rw [smV, if_pos c, e], c⟩
theorem sm_none {p : List UInt8} {s : Int} {l : List Int} (hl : CodeOk l) (h : ∀ m, m < 6 → ¬ SymAt p s l m) : smA p s l = s ∧ smV p s l = 0 ∧ smC p s l = 1 := by
  have e := symM_none h
  have c : smC p s l = 1 := by rw [smC, if_pos hl, if_neg (by omega)]
  exact ⟨by rw [smA, if_neg (by omega)], by rw [smV, if_neg (by omega)], c⟩
theorem sm_bad {p : List UInt8} {s : Int} {l : List Int} (hl : ¬ CodeOk l) : smA p s l = s ∧ smV p s l = 0 ∧ smC p s l = 4 := by
  have c : smC p s l = 4 := by rw [smC, if_neg hl]
  exact ⟨by rw [smA, if_neg (by omega)], by rw [smV, if_neg (by omega)], c⟩
end Go.Proofs.Ytpokokcgoebbhaa

/- Plain laws: fields read one behind the other; headers, levels, blocks, macroblocks, streams that are read. No condition. -/
namespace Go.Proofs.Ytpokokcgoebbhaa
open Go Go.Abs
set_option linter.unusedVariables false
set_option linter.unusedSimpArgs false

/-! A field: bits, or a number behind zeros; a check may refuse it; behind a fault nothing is read. -/
def fbC (p : List UInt8) (s c n : Int) (k : Int → Int) : Int := if c = 0 then (if RbOk p s n then k (rbV p s n) else 1) else c
def fbA (p : List UInt8) (s c n : Int) (k : Int → Int) : Int := if c = 0 ∧ fbC p s c n k = 0 then rbA p s n else s
def fbV (p : List UInt8) (s c n : Int) (k : Int → Int) : Int := if fbC p s c n k = 0 then rbV p s n else 0
def fuC (p : List UInt8) (s c : Int) (k : Int → Int) : Int := if c = 0 then (if ueC p s = 0 then k (ueV p s) else ueC p s) else c
def fuA (p : List UInt8) (s c : Int) (k : Int → Int) : Int := if fuC p s c k = 0 then ueA p s else s
def fuV (p : List UInt8) (s c : Int) (k : Int → Int) : Int := if fuC p s c k = 0 then ueV p s else 0
def ifE (b : Prop) [Decidable b] (e : Int) : Int := bif decide b then 0 else e
theorem ifE_yes {b : Prop} [Decidable b] {e : Int} (h : b) : ifE b e = 0 := by rw [ifE, decide_eq_true h]; rfl
theorem ifE_no {b : Prop} [Decidable b] {e : Int} (h : ¬ b) : ifE b e = e := by rw [ifE, decide_eq_false h]; rfl

/-! Headers. -/
def lenAt (v : Int) (i : Nat) : Int := v / 2 ^ (3 * i) % 8
def lensV (v : Int) : List Int := [lenAt v 5, lenAt v 4, lenAt v 3, lenAt v 2, lenAt v 1, lenAt v 0]
structure HdS where
  a : Int
  c : Int
  w : Int
  h : Int
  q : Int
  f : Int
  l : Int
abbrev hk1 (x : Int) : Int := ifE (x = 183) 2
abbrev hk2 (x : Int) : Int := ifE (x ≤ 3) 3
abbrev hk3 (x : Int) : Int := ifE (x ≤ 51) 3
abbrev hk4 (x : Int) : Int := 0
abbrev hk5 (x : Int) : Int := ifE (CodeOk (lensV x)) 4
def hdS (p : List UInt8) (s : Int) : HdS :=
  let a1 := fbA p s 0 8 hk1
  let c1 := fbC p s 0 8 hk1
  let a2 := fuA p a1 c1 hk2
  let c2 := fuC p a1 c1 hk2
  let a3 := fuA p a2 c2 hk2
  let c3 := fuC p a2 c2 hk2
  let a4 := fbA p a3 c3 6 hk3
  let c4 := fbC p a3 c3 6 hk3
  let a5 := fbA p a4 c4 2 hk4
  let c5 := fbC p a4 c4 2 hk4
  let a6 := fbA p a5 c5 18 hk5
  let c6 := fbC p a5 c5 18 hk5
  ⟨a6, c6, fuV p a1 c1 hk2, fuV p a2 c2 hk2, fbV p a3 c3 6 hk3, fbV p a4 c4 2 hk4, fbV p a5 c5 18 hk5⟩
def HdS.W (x : HdS) : Int := if x.c = 0 then 8 * (x.w + 1) else 0
def HdS.H (x : HdS) : Int := if x.c = 0 then 8 * (x.h + 1) else 0
def HdS.Q (x : HdS) : Int := if x.c = 0 then x.q else 0
def HdS.B (x : HdS) : Bool := decide (x.c = 0 ∧ x.f ≥ 2)
def HdS.D (x : HdS) : Bool := decide (x.c = 0 ∧ x.f % 2 = 1)
def HdS.L (x : HdS) : List Int := if x.c = 0 then lensV x.l else []

/-! Levels. -/
structure LvS where
  a : Int
  c : Int
  at_ : Int
  out : List Int
def lvStep (p : List UInt8) (nn : Int) (x : LvS) : LvS :=
  if x.c = 0 then
    let k1 := fun y : Int => ifE (y < nn - x.at_) 5
    let k2 := fun y : Int => ifE (-16383 ≤ lvOf y ∧ lvOf y ≤ 16383) 5
    let a1 := fuA p x.a 0 k1
    let c1 := fuC p x.a 0 k1
    let t1 := x.at_ + fuV p x.a 0 k1
    let a2 := fuA p a1 c1 k2
    let c2 := fuC p a1 c1 k2
    if c2 = 0 then ⟨a2, c2, t1 + 1, x.out.set t1.toNat (lvOf (fuV p a1 c1 k2))⟩ else ⟨a2, c2, t1, x.out⟩
  else x
def lvRun (p : List UInt8) (nn : Int) (x : LvS) : Nat → LvS
  | 0 => x
  | k + 1 => lvStep p nn (lvRun p nn x k)
def lvS (p : List UInt8) (s n : Int) : LvS :=
  let nn := n * n
  let z := List.replicate nn.toNat 0
  let k0 := fun _ : Int => 0
  let k1 := fun y : Int => ifE (y < nn) 5
  let a1 := fbA p s 0 1 k0
  let c1 := fbC p s 0 1 k0
  if fbV p s 0 1 k0 = 0 then ⟨a1, c1, 0, z⟩ else
    let a2 := fuA p a1 c1 k1
    let c2 := fuC p a1 c1 k1
    lvRun p nn ⟨a2, c2, 0, z⟩ (1 + fuV p a1 c1 k1).toNat
theorem lvStep_len (p : List UInt8) (nn : Int) (x : LvS) : (lvStep p nn x).out.length = x.out.length := by
  unfold lvStep; split
  · simp only; split
    · simp
    · rfl
  · rfl
theorem lvRun_len (p : List UInt8) (nn : Int) (x : LvS) : ∀ k, (lvRun p nn x k).out.length = x.out.length
  | 0 => rfl
  | k + 1 => by rw [lvRun, lvStep_len, lvRun_len p nn x k]
/-! Blocks. -/
structure BlS where
  a : Int
  c : Int
  m : Int
  l : List Int
def blS (p : List UInt8) (s : Int) (lens : List Int) (n : Int) : BlS :=
  if n = 4 ∨ n = 8 then
    if smC p s lens = 0 then
      let x := lvS p (smA p s lens) n
      if x.c = 0 then ⟨x.a, 0, smV p s lens, x.out⟩ else ⟨x.a, x.c, 0, []⟩
    else ⟨s, smC p s lens, 0, []⟩
  else ⟨s, 5, 0, []⟩
/-! Macroblocks: so many blocks, up to the first fault. -/
structure MbS where
  a : Int
  c : Int
  bs : List Blok
def mbRun (p : List UInt8) (s : Int) (lens : List Int) (n : Int) : Nat → MbS
  | 0 => ⟨s, 0, []⟩
  | k + 1 =>
    let x := mbRun p s lens n k
    if x.c = 0 then
      let b := blS p x.a lens n
      if b.c = 0 then ⟨b.a, 0, x.bs ++ [(b.m, b.l)]⟩ else ⟨b.a, b.c, []⟩
    else x
def sz8' (e : Bool) : Int := bif e then 8 else 4
def mbS (p : List UInt8) (s : Int) (lens : List Int) : MbS × Bool :=
  if RbOk p s 1 then
    let e := decide (rbV p s 1 = 1)
    let x := mbRun p (s + 1) lens (bif e then 8 else 4) (bif e then 1 else 4)
    (x, bif decide (x.c = 0) then e else false)
  else (⟨s, 1, []⟩, false)

/-! Streams. -/
structure StS where
  a : Int
  c : Int
  ms : List Mbk
def stRun (p : List UInt8) (s : Int) (lens : List Int) : Nat → StS
  | 0 => ⟨s, 0, []⟩
  | k + 1 =>
    let x := stRun p s lens k
    if x.c = 0 then
      let m := mbS p x.a lens
      if m.1.c = 0 then ⟨m.1.a, 0, x.ms ++ [(m.2, m.1.bs)]⟩ else ⟨m.1.a, m.1.c, []⟩
    else x
/-- The fault of what is left: a 1, and as many 0 as fill a byte. -/
def endC (p : List UInt8) (s : Int) : Int := if lft p s = 0 then 1 else if lft p s ≤ 8 ∧ numB p s (lft p s).toNat = 2 ^ (lft p s - 1).toNat then 0 else 6
end Go.Proofs.Ytpokokcgoebbhaa

/- Contracts: slices joined. No condition. -/
namespace Go.Proofs.Ytpokokcgoebbhaa
open Go Go.Abs
set_option linter.unusedVariables false
set_option linter.unusedSimpArgs false
set_option maxRecDepth 100000
set_option maxHeartbeats 4000000
attribute [local irreducible] WpA WpL Rnd Blk Abs.Seq Abs.Fin Abs.FinG FnC FnG Only

abbrev LL (M : List (List Int)) : AV := .imm 1 M.length (rows liI M)
instance Grow_c : Con 110 (∀ n : Nat, n ≤ 1099511627776 → Fn 110 [.nilS, I n] [XI []] (.own 0 0 0 0)) := ⟨fun n hn => by
  refine FnC.of_body tabOk Try.func110 Try.ntmps110 rfl (by decide +kernel) (by simp) fun G => ?_
  by_cases h0 : n = 0
  · subst h0
    refine go (r := ?_); and_intros <;> intros <;> try exact True.intro
    refine WpL.capNil (TabOk.slice tabOk rfl).1 rfl (by decide) ?_
    refine go (r := ?_); and_intros <;> intros <;> try exact True.intro
    all_goals rfl
  · refine go (r := ?_); and_intros <;> intros <;> try exact True.intro
    refine WpL.capNil (TabOk.slice tabOk rfl).1 rfl (by decide) ?_
    refine go (r := ?_); and_intros <;> intros <;> try exact True.intro
    refine WpL.capNil (TabOk.slice tabOk rfl).1 rfl (by decide) ?_
    refine WpL.subNil tabOk rfl rfl rfl (by decide) ?_
    refine WpL.move rfl (by decide) ?_
    refine WpL.appZeros (p := n) tabOk rfl rfl rfl (show AV.sc (Value.int .i64 ((n : Int) - (0 - 0))) = _ by congr 2) (by omega) (by omega) rfl (by decide) ?_
    refine go (r := ?_); and_intros <;> intros <;> try exact True.intro
    refine WpL.subOwn0 tabOk rfl rfl rfl rfl rfl (by decide) ?_
    refine go (r := ?_); and_intros <;> intros <;> try exact True.intro
    all_goals rfl⟩
theorem flat_snoc (M : List (List Int)) (k : Nat) (h : k < M.length) : (M.take (k + 1)).flatten = (M.take k).flatten ++ M.getD k default := by
  rw [take_snoc M k h, List.flatten_append]; simp
@[irreducible] def SmL (c : Nat) (M : List (List Int)) : Prop := ∀ r ∈ M, r.length ≤ c
theorem smL_get {c : Nat} {M : List (List Int)} (h : SmL c M) {k : Nat} (hk : k < M.length) : (M.getD k default).length ≤ c := by
  unfold SmL at h; exact h _ (by simp [hk])
theorem smL_bd {c : Nat} {M : List (List Int)} (h : SmL c M) : ∀ k, k ≤ M.length → (M.take k).flatten.length ≤ k * c
  | 0, _ => by simp
  | k + 1, hk => by
    have h1 := smL_bd h k (by omega)
    have h2 := smL_get h (k := k) (by omega)
    rw [flat_snoc M k (by omega), List.length_append, Nat.add_mul, Nat.one_mul]; omega
theorem smL_nil (c : Nat) : SmL c [] := by unfold SmL; intro r hr; cases hr
theorem smL_cons {c : Nat} {a : List Int} {M : List (List Int)} (h : a.length ≤ c) (r : SmL c M) : SmL c (a :: M) := by
  unfold SmL at *; intro x hx
  rcases List.mem_cons.1 hx with rfl | hx
  · exact h
  · exact r x hx
instance Concat_c : Con 69 (∀ M : List (List Int), M.length ≤ 1024 ∧ SmL 1048576 M → Fn 69 [LL M] [XI M.flatten] (.own 0 0 0 M.flatten.length)) := ⟨fun M hM => by
  refine FnC.of_body tabOk Try.func69 Try.ntmps69 rfl (by decide +kernel) (by simp) fun G => ?_
  refine go (r := ?_); and_intros <;> intros <;> try exact True.intro
  refine WpA.loop (fun k : Nat => ⟨[(0, LL M), (3, I (M.take k).flatten.length), (9, LL M), (10, I M.length), (11, I k)], []⟩) (fun k => k ≤ M.length) (fun k => M.length - k) 0 (by omega) (go (r := ?_)) (fun k hk => ?_)
  · simp
  have hb := smL_bd hM.2 k hk
  have hg := fun h => smL_get hM.2 (k := k) h
  have hs := fun h => flat_snoc M k h
  refine go (r := ?_); and_intros <;> intros <;> try exact True.intro
  · rw [hs (by omega), List.length_append]; omega
  have e : k = M.length := by omega
  subst e
  rw [List.take_length] at *
  refine go (r := ?_); and_intros <;> intros <;> try exact True.intro
  refine WpA.loop (fun k : Nat => ⟨[(6, .own 0 0 0 (M.take k).flatten.length), (25, LL M), (26, I M.length), (27, I k)], [XI (M.take k).flatten]⟩) (fun k => k ≤ M.length) (fun k => M.length - k) 0 (by omega) (go (r := ?_)) (fun k hk => ?_)
  · simp
  have hb2 := smL_bd hM.2 k hk
  have hg2 := fun h => smL_get hM.2 (k := k) h
  have hs2 := fun h => flat_snoc M k h
  have hln : k < M.length → (M.take (k + 1)).flatten.length = (M.take k).flatten.length + (M.getD k default).length := fun h => by rw [hs2 h, List.length_append]
  refine go (r := ?_); and_intros <;> intros <;> try exact True.intro
  · rw [hs2 (by omega)]
  all_goals have e : k = M.length := by omega
  all_goals subst e
  all_goals rw [List.take_length]⟩
end Go.Proofs.Ytpokokcgoebbhaa

/- Contracts: exponential Golomb codes, their lengths, numbers of levels, flags. No condition. -/
namespace Go.Proofs.Ytpokokcgoebbhaa
open Go Go.Abs
set_option linter.unusedVariables false
set_option linter.unusedSimpArgs false
set_option maxRecDepth 100000
set_option maxHeartbeats 4000000
attribute [local irreducible] WpA WpL Rnd Blk Abs.Seq Abs.Fin Abs.FinG FnC FnG Only

instance bitOf_c : Con 44 (∀ b : Bool, Fn 44 [B b] [] (I (bif b then 1 else 0))) := ⟨fun b => by
  cases b
  · refine FnC.of_body tabOk Try.func44 Try.ntmps44 rfl (by decide +kernel) (by simp) fun G => ?_
    refine go (r := ?_); and_intros <;> intros <;> try exact True.intro
    all_goals rfl
  · refine FnC.of_body tabOk Try.func44 Try.ntmps44 rfl (by decide +kernel) (by simp) fun G => ?_
    refine go (r := ?_); and_intros <;> intros <;> try exact True.intro
    all_goals rfl⟩
def nolL (v : Int) : Int := if v > 0 then 2 * v - 2 else if v < 0 then -2 * v - 1 else -1
instance NumOfLevel_c : Con 71 (∀ v : Int, -1000000 ≤ v ∧ v ≤ 1000000 → Fn 71 [I v] [] (I (nolL v))) := ⟨fun v hv => by
  unfold nolL
  refine FnC.of_body tabOk Try.func71 Try.ntmps71 rfl (by decide +kernel) (by simp) fun G => ?_
  refine go (r := ?_); and_intros <;> intros <;> try exact True.intro
  all_goals (repeat' split) <;> omega⟩
theorem lg_lo (x : Nat) (h : 0 < x) : 2 ^ Nat.log2 x ≤ x := Nat.log2_self_le (by omega)
theorem lg_hi (x : Nat) : x < 2 ^ (Nat.log2 x + 1) := Nat.lt_log2_self
theorem lg_end (x : Nat) : x / 2 ^ (Nat.log2 x + 1) = 0 := Nat.div_eq_of_lt (lg_hi x)
theorem lg_16 {x : Nat} (h0 : 0 < x) (h : x ≤ 65535) : Nat.log2 x ≤ 15 := by
  rcases Nat.lt_or_ge (Nat.log2 x) 16 with h1 | h1
  · omega
  · have := lg_lo x h0
    have : 2 ^ 16 ≤ 2 ^ Nat.log2 x := Nat.pow_le_pow_right (by decide) h1
    omega
/-- The bits of a number's code. -/
def ueL (n : Int) : List Int := if 0 ≤ n ∧ n ≤ 65534 then List.replicate (Nat.log2 (n.toNat + 1)) 0 ++ bitsL (n + 1) (Nat.log2 (n.toNat + 1) + 1) else []
theorem ueL_len (n : Int) : (ueL n).length ≤ 64 := by
  unfold ueL; split
  · rename_i h
    have h1 := lg_16 (x := n.toNat + 1) (by omega) (by omega)
    have h2 := bitsL_len (n + 1) ((Nat.log2 (n.toNat + 1) : Nat) + 1)
    simp only [List.length_append, List.length_replicate]; omega
  · simp
theorem bitOk_ue {n : Nat} (w : Nat) (h : n ≤ 65534) (hw : Nat.log2 (n + 1) + 1 ≤ w) (hw2 : w ≤ 48) : bitOk ((n : Int) + 1) w := by
  refine ⟨by omega, by omega, ?_⟩
  have h1 := lg_hi (n + 1)
  have h2 : 2 ^ (Nat.log2 (n + 1) + 1) ≤ 2 ^ w := Nat.pow_le_pow_right (by decide) hw
  have h3 : (n + 1) / 2 ^ w = 0 := Nat.div_eq_of_lt (by omega)
  have h4 : (((n + 1) / 2 ^ w : Nat) : Int) = 0 := by rw [h3]; rfl
  rw [Int.toNat_natCast]; push_cast at h4; exact h4
/-- A number's bits, written wider than it needs: zeros go ahead. -/
theorem bits_wide {n : Nat} {z : Nat} (h : n ≤ 65534) (hz : z = Nat.log2 (n + 1)) : bitsL ((n : Int) + 1) ((2 * z + 1 : Nat) : Int) = List.replicate z 0 ++ bitsL ((n : Int) + 1) ((z + 1 : Nat) : Int) := by
  have h16 := lg_16 (x := n + 1) (by omega) (by omega)
  have o1 := bitOk_ue (n := n) (2 * z + 1) h (by omega) (by omega)
  have o2 := bitOk_ue (n := n) (z + 1) h (by omega) (by omega)
  rw [bitsL, if_pos o1, bitsL, if_pos o2, Int.toNat_natCast, Int.toNat_natCast]
  apply List.ext_getElem?
  intro q
  rcases Nat.lt_or_ge q z with hq | hq
  · rw [List.getElem?_append_left (by simpa using hq), List.getElem?_replicate, if_pos hq]
    unfold bitsR
    rw [List.getElem?_map, List.getElem?_range (by omega)]
    simp only [Option.map_some]
    congr 1
    have h5 : (n + 1) / 2 ^ (2 * z + 1 - 1 - q) = 0 := Nat.div_eq_of_lt (by
      have h1 := lg_hi (n + 1)
      have h2 : 2 ^ (Nat.log2 (n + 1) + 1) ≤ 2 ^ (2 * z + 1 - 1 - q) := Nat.pow_le_pow_right (by decide) (by omega)
      omega)
    have h6 : (((n + 1) / 2 ^ (2 * z + 1 - 1 - q) : Nat) : Int) = 0 := by rw [h5]; rfl
    have h7 : ((n : Int) + 1) / 2 ^ (2 * z + 1 - 1 - q) = 0 := by
      have e : (((n + 1) / 2 ^ (2 * z + 1 - 1 - q) : Nat) : Int) = ((n : Int) + 1) / 2 ^ (2 * z + 1 - 1 - q) := by rw [Int.natCast_ediv, Int.natCast_add, Int.natCast_pow]; rfl
      rw [← e]; exact h6
    rw [h7]; rfl
  · rw [List.getElem?_append_right (by simpa using hq), List.length_replicate]
    unfold bitsR
    rcases Nat.lt_or_ge q (2 * z + 1) with hq2 | hq2
    · rw [List.getElem?_map, List.getElem?_range (by omega), List.getElem?_map, List.getElem?_range (by omega)]
      simp only [Option.map_some]
      congr 4; omega
    · rw [List.getElem?_eq_none (by simpa using hq2), List.getElem?_eq_none (by simp; omega)]
theorem ueL_wide {n : Nat} (h : n ≤ 65534) : bitsL ((n : Int) + 1) ((2 * Nat.log2 (n + 1) + 1 : Nat) : Int) = ueL n := by
  rw [bits_wide h rfl, ueL, if_pos ⟨by omega, by omega⟩]
  simp
/-! Lengths by table. -/
def lenL (x : Int) : Int := if x = 0 then 0 else (Nat.log2 x.toNat : Int) + 1
theorem lenL_bd {x : Int} (h : 0 ≤ x ∧ x ≤ 65535) : 0 ≤ lenL x ∧ lenL x ≤ 16 := by
  unfold lenL; split
  · omega
  · have := lg_16 (x := x.toNat) (by omega) (by omega); omega
theorem u64_in {x : Int} (h : 0 ≤ x ∧ x ≤ 65535) : IntKind.u64.wrap x = x := by
  have key : IntKind.u64.wrap x = x % 18446744073709551616 := rfl
  rw [key]; omega
theorem u8_in {x : Int} (h : 0 ≤ x ∧ x ≤ 255) : IntKind.u8.wrap x = x := by
  have key : IntKind.u8.wrap x = x % 256 := rfl
  rw [key]; omega
def lenT : List UInt8 := (List.range 256).map fun i => UInt8.ofNat (if i = 0 then 0 else Nat.log2 i + 1)
theorem lenT_len : lenT.length = 256 := by simp [lenT]
theorem lenT_at {x : Int} (h : 0 ≤ x ∧ x ≤ 255) : ((lenT.getD x.toNat 0).toNat : Int) = lenL x := by
  have key : ∀ k : Fin 256, ((lenT.getD (k.val : Int).toNat 0).toNat : Int) = lenL k.val := by decide +kernel
  obtain ⟨k, rfl⟩ : ∃ k : Nat, x = k := ⟨x.toNat, by omega⟩
  exact key ⟨k, by omega⟩
theorem lenL_hi {x : Int} (h : 256 ≤ x ∧ x ≤ 65535) : lenL x = 8 + lenL (x / 256) := by
  unfold lenL
  rw [if_neg (by omega), if_neg (by omega)]
  obtain ⟨k, rfl⟩ : ∃ k : Nat, x = k := ⟨x.toNat, by omega⟩
  have e : ((k : Int) / 256).toNat = k / 256 := by omega
  rw [e, Int.toNat_natCast]
  have h1 : Nat.log2 k = Nat.log2 (k / 2) + 1 := by rw [Nat.log2_def, if_pos (by omega)]
  have e2 : ∀ j n : Nat, 256 ≤ j * n → 1 < n → n ≤ 256 → True := fun _ _ _ _ _ => trivial
  have st : ∀ n : Nat, 2 ≤ n → Nat.log2 n = Nat.log2 (n / 2) + 1 := fun n hn => by rw [Nat.log2_def, if_pos hn]
  rw [st k (by omega), st (k / 2) (by omega), st (k / 2 / 2) (by omega), st (k / 2 / 2 / 2) (by omega), st (k / 2 / 2 / 2 / 2) (by omega), st (k / 2 / 2 / 2 / 2 / 2) (by omega), st (k / 2 / 2 / 2 / 2 / 2 / 2) (by omega), st (k / 2 / 2 / 2 / 2 / 2 / 2 / 2) (by omega)]
  have e3 : k / 2 / 2 / 2 / 2 / 2 / 2 / 2 / 2 = k / 256 := by omega
  rw [e3]; omega
instance Len64_c : Con 131 (∀ x : Int, 0 ≤ x ∧ x ≤ 65535 → Fn 131 [.sc (.int .u64 x)] [] (I (lenL x))) := ⟨fun x hx => by
  have e8 : x / 2 ^ Int.toNat 8 = x / 256 := rfl
  have hb := lenL_bd hx
  refine FnC.of_body tabOk Try.func131 Try.ntmps131 rfl (by decide +kernel) (by simp) fun G => ?_
  by_cases h : 256 ≤ x
  · have h2 : IntKind.u8.wrap (x / 2 ^ Int.toNat 8) = x / 256 := by rw [e8]; exact u8_in (by omega)
    have hb2 := lenL_bd (x := x / 256) (by omega)
    have hh := lenL_hi (x := x) (by omega)
    refine go (r := ?_); and_intros <;> intros <;> try exact True.intro
    refine WpL.idxStrB (p := lenT) tabOk rfl (by kernel_rfl) rfl (by rw [h2, lenT_len]; omega) (by decide) (fun hgo => ?_)
    rw [h2, lenT_at (by omega)]
    refine go (r := ?_); and_intros <;> intros <;> try exact True.intro
  · have h2 : IntKind.u8.wrap x = x := u8_in (by omega)
    refine go (r := ?_); and_intros <;> intros <;> try exact True.intro
    refine WpL.idxStrB (p := lenT) tabOk rfl (by kernel_rfl) rfl (by rw [h2, lenT_len]; omega) (by decide) (fun hgo => ?_)
    rw [h2, lenT_at (by omega)]
    refine go (r := ?_); and_intros <;> intros <;> try exact True.intro⟩
instance Len_c : Con 127 (∀ x : Int, 0 ≤ x ∧ x ≤ 65535 → Fn 127 [.sc (.int .u64 x)] [] (I (lenL x))) := ⟨fun x hx => by
  refine FnC.of_body tabOk Try.func127 Try.ntmps127 rfl (by decide +kernel) (by simp) fun G => ?_
  refine go (r := ?_); and_intros <;> intros <;> try exact True.intro⟩
instance UeSize_c : Con 111 (∀ n : Nat, n ≤ 65534 → Fn 111 [I n] [] (I ((2 * Nat.log2 (n + 1) + 1 : Nat) : Int))) := ⟨fun n hn => by
  have hw := u64_in (x := (n : Int) + 1) (by omega)
  have hb := lenL_bd (x := (n : Int) + 1) (by omega)
  have he : lenL ((n : Int) + 1) = (Nat.log2 (n + 1) : Int) + 1 := by
    unfold lenL; rw [if_neg (by omega), show ((n : Int) + 1).toNat = n + 1 by omega]
  have he2 : lenL (IntKind.u64.wrap ((n : Int) + 1)) = (Nat.log2 (n + 1) : Int) + 1 := by rw [hw]; exact he
  have h16 := lg_16 (x := n + 1) (by omega) (by omega)
  refine FnC.of_body tabOk Try.func111 Try.ntmps111 rfl (by decide +kernel) (by simp) fun G => ?_
  refine go (r := ?_); and_intros <;> intros <;> try exact True.intro
  all_goals trace_state⟩
instance UeBits_c : Con 70 (∀ n : Int, 0 ≤ n ∧ n ≤ 65534 → Fn 70 [I n] [XI (ueL n)] (.own 0 0 0 (ueL n).length)) := ⟨fun n hn => by
  obtain ⟨N, rfl⟩ : ∃ N : Nat, n = N := ⟨n.toNat, by omega⟩
  have he := ueL_wide (n := N) (by omega)
  have hel : (bitsL ((N : Int) + 1) ((2 * Nat.log2 (N + 1) + 1 : Nat) : Int)).length = (ueL N).length := by rw [he]
  refine FnC.of_body tabOk Try.func70 Try.ntmps70 rfl (by decide +kernel) (by simp) fun G => ?_
  refine go (r := ?_); and_intros <;> intros <;> try exact True.intro
  all_goals trace_state⟩
end Go.Proofs.Ytpokokcgoebbhaa

/- Contracts: bits of a text, readers, numbers behind zeros, symbols. No condition. -/
namespace Go.Proofs.Ytpokokcgoebbhaa
open Go Go.Abs
set_option linter.unusedVariables false
set_option linter.unusedSimpArgs false
set_option maxRecDepth 100000
set_option maxHeartbeats 4000000
attribute [local irreducible] WpA WpL Rnd Blk Abs.Seq Abs.Fin Abs.FinG FnC FnG Only

theorem shr8_in (x : UInt8) (k : Nat) : IntKind.i64.wrap ((x.toNat : Int) / 2 ^ k) = (x.toNat : Int) / 2 ^ k := by
  have h1 : (x.toNat : Int) / 2 ^ k ≤ x.toNat := Int.ediv_le_self _ (by omega)
  have h2 : 0 ≤ (x.toNat : Int) / 2 ^ k := Int.ediv_nonneg (by omega) (Int.pow_nonneg (by decide))
  have := x.toNat_lt
  exact wrap64 _ (by omega)
instance BitAt_c : Con 126 (∀ (p : List UInt8) (i : Int), p.length ≤ 1099511627776 → Fn 126 [Z p, I i] [] (I (btA p i))) := ⟨fun p i hl => by
  refine FnC.of_body tabOk Try.func126 Try.ntmps126 rfl (by decide +kernel) (by simp) fun G => ?_
  refine go (r := ?_); and_intros <;> intros <;> try exact True.intro
  · rw [btA, if_pos (by omega)]
  · rw [btA, if_pos (by omega)]
  · rw [btA, if_neg (by omega), bit1, shr8_in]⟩
abbrev RA (p : List UInt8) (s : Int) : AV := .agg [Z p, I s]
theorem or1 (x b : Int) (h : 0 ≤ x ∧ x < 2 ^ 61) (hb : 0 ≤ b ∧ b ≤ 1) : IntKind.i64.wrap ((BitVec.ofInt IntKind.i64.bits (IntKind.i64.wrap (x * 2 ^ Int.toNat 1)) ||| BitVec.ofInt IntKind.i64.bits b).toNat : Nat) = x * 2 + b := by
  have e0 : x * 2 ^ Int.toNat 1 = x * 2 := rfl
  rw [e0, wrap64 (x * 2) (by omega)]
  obtain ⟨a, rfl⟩ : ∃ a : Nat, x = a := ⟨x.toNat, by omega⟩
  obtain ⟨c, rfl⟩ : ∃ c : Nat, b = c := ⟨b.toNat, by omega⟩
  have h1 : (BitVec.ofInt IntKind.i64.bits ((a : Int) * 2)).toNat = 2 * a := by simp only [IntKind.bits, BitVec.toNat_ofInt]; omega
  have h2 : (BitVec.ofInt IntKind.i64.bits (c : Int)).toNat = c := by simp only [IntKind.bits, BitVec.toNat_ofInt]; omega
  rw [BitVec.toNat_or, h1, h2]
  have h3 := Nat.two_pow_add_eq_or_of_lt (i := 1) (b := c) (by omega) a
  rw [show 2 * a = 2 ^ 1 * a by omega, ← h3, wrap64 _ (by omega)]
  omega
instance bits_c : Con 97 (∀ (p : List UInt8) (s n : Int), p.length ≤ 1099511627776 ∧ (-1125899906842624 ≤ s ∧ s ≤ 1125899906842624) ∧ 0 ≤ n ∧ n ≤ 56 → Fn 97 [Z p, I s, I n] [] (I (numB p s n.toNat))) := ⟨fun p s n hl => by
  obtain ⟨N, rfl⟩ : ∃ N : Nat, n = N := ⟨n.toNat, by omega⟩
  refine FnC.of_body tabOk Try.func97 Try.ntmps97 rfl (by decide +kernel) (by simp) fun G => ?_
  refine go (r := ?_); and_intros <;> intros <;> try exact True.intro
  refine WpA.loop (fun k : Nat => ⟨[(0, Z p), (1, I s), (7, I (numB p s k)), (9, I N), (10, I k)], []⟩) (fun k => k ≤ N) (fun k => N - k) 0 (by omega) (go (r := ?_)) (fun k hk => ?_)
  · trivial
  have hb := numB_bd p s k
  have hb2 := numB_le p s (k := k) (j := 60) (by omega)
  have h1 := or1 (numB p s k) (max (btA p (s + k)) 0) (by omega) (bv_bd p (s + k))
  have h2 : numB p s (k + 1) = numB p s k * 2 + max (btA p (s + k)) 0 := rfl
  refine go (r := ?_); and_intros <;> intros <;> try exact True.intro
  all_goals first | (rw [h2, ← h1]; done) | (have e : k = N := by omega); (first | (rw [e, Int.toNat_natCast]; done) | (subst e; rfl)) | trace_state⟩
abbrev BoxR (p : List UInt8) (s : Int) : AObj := ⟨[Z p, I s], 0, 0, none⟩
instance ReaderOk_c : Con 95 (∀ (p : List UInt8) (s : Int), p.length ≤ 1099511627776 → Fn 95 [RA p s] [] (B (decide (RdOk p s)))) := ⟨fun p s hl => by
  refine FnC.of_body tabOk Try.func95 Try.ntmps95 rfl (by decide +kernel) (by simp) fun G => ?_
  refine go (r := ?_); and_intros <;> intros <;> try exact True.intro⟩
instance Left_c : Con 96 (∀ (p : List UInt8) (s : Int), p.length ≤ 1099511627776 → Fn 96 [RA p s] [] (I (lft p s))) := ⟨fun p s hl => by
  refine FnC.of_body tabOk Try.func96 Try.ntmps96 rfl (by decide +kernel) (by simp) fun G => ?_
  refine go (r := ?_); and_intros <;> intros <;> try exact True.intro
  all_goals first | (rw [lft_no (by assumption)]; done) | (rw [lft_ok (by assumption)]; done) | trace_state⟩
instance ReadBits_c : Con 51 (∀ (p : List UInt8) (s n : Int), p.length ≤ 1099511627776 → Fn 51 [RA p s, I n] [] (.tup [RA p (rbA p s n), I (rbV p s n), B (decide (RbOk p s n))])) := ⟨fun p s n hl => by
  have hb := lft_bd p s
  refine FnC.of_body tabOk Try.func51 Try.ntmps51 rfl (by decide +kernel) (by simp) fun G => ?_
  by_cases hok : RbOk p s n
  · obtain ⟨e1, e2⟩ := rb_yes hok
    obtain ⟨h1, h2, h3⟩ := id hok
    refine go (r := ?_); and_intros <;> intros <;> try exact True.intro
    all_goals first | (exact absurd (by assumption) (by assumption)) | (rw [e1]; done) | (rw [e2]; done) | (simp [hok]; done) | (exfalso; omega) | trace_state
  · obtain ⟨e1, e2⟩ := rb_no hok
    refine go (r := ?_); and_intros <;> intros <;> try exact True.intro
    all_goals first | (exact absurd ⟨by assumption, by assumption, by omega⟩ hok) | (rw [e1]; done) | (rw [e2]; done) | (simp [hok]; done) | trace_state⟩
instance ZerosAhead_c : Con 100 (∀ (p : List UInt8) (s : Int), p.length ≤ 1099511627776 → Fn 100 [RA p s] [] (I (zrs p s))) := ⟨fun p s hl => by
  have hb := lft_bd p s
  refine FnC.of_body tabOk Try.func100 Try.ntmps100 rfl (by decide +kernel) (by simp) fun G => ?_
  by_cases hok : RdOk p s
  · have hlo := lft_ok hok
    refine go (r := ?_); and_intros <;> intros <;> try exact True.intro
    all_goals first | (exact absurd hok (by assumption)) | skip
    refine WpA.loop (fun k : Nat => ⟨[(1, .ptr 0 0 0), (3, I k)], [BoxR p s]⟩) (fun k => (k : Int) ≤ lft p s ∧ ∀ j < k, btA p (s + (j : Nat)) = 0) (fun k => (lft p s).toNat - k) 0 ⟨by omega, fun j hj => by omega⟩ (go (r := ?_)) (fun k hk => ?_)
    · trivial
    have hbo := btA_out p (s + k)
    have hz := fun h3 => zrs_eq hk.1 hk.2 h3
    refine go (r := ?_); and_intros <;> intros <;> try exact True.intro
    all_goals first | (rename_i h1 j hj; rcases Nat.lt_succ_iff_lt_or_eq.1 hj with h | h; (exact hk.2 j h); (subst h; assumption)) | (rw [hz (.inr (by assumption))]; done) | trace_state
  · have hz : zrs p s = 0 := by have := zrs_le p s; rw [lft_no hok] at this; omega
    refine go (r := ?_); and_intros <;> intros <;> try exact True.intro
    all_goals first | (exact absurd (by assumption) hok) | (rw [hz]; done) | (rw [hz]; rfl) | trace_state⟩
instance ReadUe_c : Con 59 (∀ (p : List UInt8) (s : Int), p.length ≤ 1099511627776 → Fn 59 [RA p s] [] (.tup [RA p (ueA p s), I (ueV p s), I (ueC p s)])) := ⟨fun p s hl => by
  have hb := lft_bd p s
  have hz := zrs_le p s
  have hv := rbV_bd p s (2 * (zrs p s : Int) + 1)
  refine FnC.of_body tabOk Try.func59 Try.ntmps59 rfl (by decide +kernel) (by simp) fun G => ?_
  by_cases h15 : zrs p s ≤ 15
  · by_cases hok : RbOk p s (2 * (zrs p s : Int) + 1)
    · obtain ⟨e1, e2, e3⟩ := ue_yes h15 hok
      obtain ⟨e4, e5⟩ := rb_yes hok
      refine go (r := ?_); and_intros <;> intros <;> try exact True.intro
      all_goals first | (exact absurd hok (by assumption)) | (exfalso; omega) | (rw [e1, e4]; done) | (rw [e3, e5]; done) | (rw [e2]; done) | trace_state
    · obtain ⟨e1, e2, e3⟩ := ue_short h15 hok
      refine go (r := ?_); and_intros <;> intros <;> try exact True.intro
      all_goals first | (exact absurd (by assumption) hok) | (exfalso; omega) | (rw [e1]; done) | (rw [e3]; done) | (rw [e2]; done) | trace_state
  · obtain ⟨e1, e2, e3⟩ := ue_code (s := s) (p := p) h15
    refine go (r := ?_); and_intros <;> intros <;> try exact True.intro
    all_goals first | (exfalso; omega) | (rw [e1]; done) | (rw [e3]; done) | (rw [e2]; done) | trace_state⟩
instance LevelOf_c : Con 107 (∀ n : Int, -4611686018427387904 ≤ n ∧ n ≤ 4611686018427387904 → Fn 107 [I n] [] (I (lvOf n))) := ⟨fun n h => by
  refine FnC.of_body tabOk Try.func107 Try.ntmps107 rfl (by decide +kernel) (by simp) fun G => ?_
  refine go (r := ?_); and_intros <;> intros <;> try exact True.intro
  · rw [lvOf, if_pos (by assumption)]
  · rw [lvOf, if_neg (by omega), if_pos (by assumption)]
  · rw [lvOf, if_neg (by omega), if_neg (by assumption)]; omega⟩
end Go.Proofs.Ytpokokcgoebbhaa
