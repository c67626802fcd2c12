/- Proved in this text: lemmas and contracts of functions that the claim uses (parts: Read, Read2, Surv, Cache, AbsEq, AbsAz, Ent, UeT, UeT2, FLev, Read3). No condition. -/
import Derived.Test.YtgbahnaejajdgaaPkM15
import Derived.ChangeArms
import Derived.Test.YtgbahnaejajdgaaPkM4
import Derived.Test.YtgbahnaejajdgaaPkM14
import Derived.Laws.StructEq
import Derived.Lib.AppendZeros
import Derived.Test.YtgbahnaejajdgaaPkM11
import Derived.Test.YtgbahnaejajdgaaPkM10

/- Reading what came in: a value of a plain shape (numbers, bools, strings, structs and slices of them) as an abstract value. No condition. -/
namespace Go.Abs
open Go Go.RowKit
set_option linter.unusedVariables false

inductive Sp where
  | int (k : IntKind) | bool | str | struct (fs : List Sp) | slice (k : Nat) (e : Sp)

mutual
inductive SpOk (P : Program) : TypeId → Sp → Prop
  | int {t k} : P.underlying t = some (.int k) → SpOk P t (.int k)
  | bool {t} : P.underlying t = some .bool → SpOk P t .bool
  | str {t} : P.underlying t = some .string → SpOk P t .str
  | struct {t fs sps n} : P.underlying t = some (.struct fs) → P.cellsOf t = n → SpF P 0 fs.toList sps n → SpOk P t (.struct sps)
  | slice {t e k sp} : P.underlying t = some (.slice e) → P.cellsOf e = k → 0 < k → SpOk P e sp → SpOk P t (.slice k sp)
inductive SpF (P : Program) : Nat → List Field → List Sp → Nat → Prop
  | nil {k} : SpF P k [] [] k
  | cons {k c f fs sp sps n} : f.offset = k → P.cellsOf f.type = c → SpOk P f.type sp → SpF P (k + c) fs sps n → SpF P k (f :: fs) (sp :: sps) n
end

mutual
inductive Rd : Sp → List AV → Prop
  | int {k n} : (Lit.int k n).wf = true → Rd (.int k) [.sc (.int k n)]
  | bool {b} : Rd .bool [.sc (.bool b)]
  | str {p : List UInt8} : p.length ≤ maxLen → Rd .str [.sc (.string ⟨p.toArray⟩)]
  | struct {sps cs} : RdF sps cs → Rd (.struct sps) cs
  | slice {sp len k cs} : len ≤ maxLen → RdN sp len k cs → Rd (.slice k sp) [.imm k len cs]
inductive RdF : List Sp → List AV → Prop
  | nil : RdF [] []
  | cons {sp sps a b} : Rd sp a → RdF sps b → RdF (sp :: sps) (a ++ b)
inductive RdN : Sp → Nat → Nat → List AV → Prop
  | nil {sp k} : RdN sp 0 k []
  | snoc {sp n k a b} : RdN sp n k a → Rd sp b → b.length = k → RdN sp (n + 1) k (a ++ b)
end

theorem RdN.len {sp n k cs} (h : RdN sp n k cs) : cs.length = n * k := by
  induction n generalizing cs with
  | zero => cases h; simp
  | succ n ih => cases h with | snoc h1 h2 h3 => rw [List.length_append, ih h1, h3, Nat.add_mul]; omega

theorem rdN_strs {n : Nat} {cs : List AV} (h : RdN .str n 1 cs) : ∃ xs : List (List UInt8), cs = strs xs ∧ xs.length = n ∧ ∀ x ∈ xs, x.length ≤ 9223372036854775807 := by
  induction n generalizing cs with
  | zero => cases h; exact ⟨[], rfl, rfl, by simp⟩
  | succ n ih =>
    cases h with
    | snoc h1 h2 h3 =>
      obtain ⟨xs, rfl, h5, h6⟩ := ih h1
      cases h2 with
      | @str p hp =>
        refine ⟨xs ++ [p], by simp [strs], by simp [h5], fun x hx => ?_⟩
        rcases List.mem_append.1 hx with hx | hx
        · exact h6 x hx
        · have : x = p := by simpa using hx
          subst this; simp only [maxLen] at hp; omega
theorem rd_strs {cs : List AV} (h : Rd (.slice 1 .str) cs) : ∃ xs : List (List UInt8), cs = [.imm 1 xs.length (strs xs)] ∧ xs.length ≤ 9223372036854775807 ∧ ∀ x ∈ xs, x.length ≤ 9223372036854775807 := by
  cases h with
  | slice hl hn =>
    obtain ⟨xs, rfl, h1, h2⟩ := rdN_strs hn
    subst h1
    exact ⟨xs, rfl, by simp only [maxLen] at hl; omega, h2⟩

section
variable {H : Type} {enc : TypeId × Value → H} {P : Program} {w : World} {base : Nat} {spare : Nat → Bool} {held : Bool}

theorem read {S : Nat → Prop} {ι : Nat → Spot} (hS : ∀ b, b < w.heap.size → S b) : ∀ (fuel : Nat) (t : TypeId) (sp : Sp) (cs : List Value) (x : DataW H × List MemPlace), SpOk P t sp →
    DataW.trod enc P w base spare held fuel t cs = some x → ∃ ds, Rd sp ds ∧ ∀ O, LRel S w ι O ds cs [] := by
  intro fuel
  induction fuel with
  | zero => intro t sp cs x _ h; simp [DataW.trod] at h
  | succ fuel ih =>
    intro t sp cs x hsp h
    cases hsp with
    | int ht =>
      obtain ⟨n, rfl, _, hw⟩ := DataW.trod_int ht h
      exact ⟨_, .int hw, fun O => .sc .nil⟩
    | bool ht =>
      obtain ⟨b, rfl, _⟩ := DataW.trod_bool ht h
      exact ⟨_, .bool, fun O => .sc .nil⟩
    | str ht =>
      obtain ⟨s, rfl, _, hs⟩ := DataW.trod_string ht h
      exact ⟨[.sc (.string ⟨s.data.toList.toArray⟩)], .str (by have : s.data.toList.length = s.size := rfl; omega), fun O => .sc .nil⟩
    | @struct _ fs sps n ht hn hf =>
      obtain ⟨xs, m, hm, _, hlen, hxl, hel⟩ := DataW.trod_struct ht h
      obtain rfl : fuel = m := by omega
      have key : ∀ (fl : List Field) (k : Nat) (sps : List Sp), SpF P k fl sps n → (∀ f ∈ fl, ∃ x, DataW.trod enc P w base spare held fuel f.type ((cs.drop f.offset).take (P.cellsOf f.type)) = some x) →
          k ≤ n → ∃ ds, RdF sps ds ∧ ∀ O, LRel S w ι O ds (cs.drop k) [] := by
        intro fl
        induction fl with
        | nil =>
          intro k sps hF _ _
          cases hF
          exact ⟨[], .nil, fun O => by rw [List.drop_eq_nil_of_le (by omega)]; exact .nil⟩
        | cons f fl ihf =>
          intro k sps hF hx hk
          cases hF with
          | cons h1 h2 h3 h4 =>
            obtain ⟨y, hy⟩ := hx f (by simp)
            obtain ⟨d1, r1, l1⟩ := ih _ _ _ _ h3 hy
            have hkn : ∀ {k fl sps}, SpF P k fl sps n → k ≤ n := by
              intro k fl
              induction fl generalizing k with
              | nil => intro sps h; cases h; exact Nat.le_refl _
              | cons f fl ih2 => intro sps h; cases h with | cons _ _ _ h => have := ih2 h; omega
            obtain ⟨d2, r2, l2⟩ := ihf _ _ h4 (fun g hg => hx g (by simp [hg])) (hkn h4)
            refine ⟨d1 ++ d2, .cons r1 r2, fun O => ?_⟩
            have e : cs.drop k = (cs.drop f.offset).take (P.cellsOf f.type) ++ cs.drop (k + P.cellsOf f.type) := by
              rw [h1, ← List.drop_drop, List.take_append_drop]
            rw [e, h2]
            rw [h2] at l1
            simpa using (l1 O).append (l2 O)
      obtain ⟨ds, r, l⟩ := key fs.toList 0 sps hf (fun f hf' => by
        obtain ⟨i, hi⟩ := List.getElem?_of_mem hf'
        have hi' : fs[i]? = some f := by simpa using hi
        have := hel i f hi'
        have hlt : i < xs.length := by have := (Array.getElem?_eq_some_iff.1 hi').1; omega
        exact ⟨xs[i], by rw [this]; simp [hlt]⟩) (Nat.zero_le _)
      exact ⟨ds, .struct r, fun O => by simpa using l O⟩
    | @slice _ e k sp ht hk hk0 he =>
      rcases DataW.trod_slice ht h with ⟨rfl, _⟩ | ⟨a, len, cap, elems, rest, m, hm, rfl, _, hb, hl, hc, hlen, hel, _, _⟩
      · exact ⟨[.imm k 0 []], .slice (by simp) .nil, fun O => .imm0 (by simp) .nil⟩
      obtain rfl : fuel = m := by omega
      have cells : ∀ j, j ≤ len → ∃ ds us, RdN sp j k ds ∧ us.length = j * k ∧ (∀ i, i < us.length → w.cell? (a.add i) = us[i]?) ∧ LRel S w ι [] ds us [] := by
        intro j
        induction j with
        | zero => intro _; exact ⟨[], [], .nil, by simp, by simp, .nil⟩
        | succ j ihj =>
          intro hj
          obtain ⟨ds, us, h1, h2, h3, h4⟩ := ihj (by omega)
          have hx := hel j (by omega)
          have hlt : j < elems.length := by omega
          rw [List.getElem?_eq_getElem hlt, Option.bind_eq_some_iff, hk] at hx
          obtain ⟨us2, hu, ht2⟩ := hx
          obtain ⟨d2, r2, l2⟩ := ih _ _ _ _ he ht2
          obtain ⟨_, c2, c3⟩ := World.cells?_some hu
          have l2' := l2 []
          have hd2 : d2.length = k := by rw [l2'.len, c2]
          refine ⟨ds ++ d2, us ++ us2, .snoc h1 r2 hd2, by rw [List.length_append, h2, c2, Nat.add_mul]; omega, fun i hi => ?_, by simpa using h4.append l2'⟩
          rw [List.length_append] at hi
          by_cases hlt2 : i < us.length
          · rw [h3 i hlt2, List.getElem?_append_left hlt2]
          · have hadd : a.add i = (a.add (j * k)).add (i - j * k) := by
              unfold Addr.add
              by_cases hz : j * k = 0
              · simp [hz]
              · by_cases hz2 : i - j * k = 0
                · have : i = j * k := by omega
                  simp [this]
                · rw [if_neg (by omega), if_neg hz, if_neg hz2]
                  simp only [Addr.mk.injEq, true_and, and_true]
                  omega
            rw [hadd, c3 (i - j * k) (by omega), List.getElem?_append_right (by omega), h2]
      obtain ⟨ds, us, h1, h2, h3, h4⟩ := cells len (Nat.le_refl _)
      refine ⟨[.imm k len ds], .slice (by omega) h1, fun O => ?_⟩
      by_cases h0 : len = 0
      · subst h0
        cases h1
        exact .imm0 ⟨by simp, hc⟩ .nil
      · have hul : 0 < us.length := by rw [h2]; exact Nat.mul_pos (by omega) hk0
        have hsp := spot_none (w := w) (x := a) (n := us.length) hul fun i hi => ⟨us[i], by rw [h3 i hi]; simp [hi]⟩
        obtain ⟨b, o, q⟩ := a
        simp only at hsp
        subst hsp
        have hcell : ∀ i, i < us.length → w.cell? ⟨b, o + i, none⟩ = us[i]? := fun i hi => by have := h3 i hi; rwa [addr_add] at this
        refine .imm (us := us) (hS _ ?_) hcell h4 (by rw [h1.len]) hl hc .nil
        by_cases hb' : b < w.heap.size
        · exact hb'
        · have := hcell 0 hul
          simp [World.cell?, Array.getElem?_eq_none (Nat.le_of_not_lt hb'), hul] at this
end
end Go.Abs

/- What a value that came in is: inversions of the readings by shape. No condition. -/
namespace Go.Abs
open Go Go.RowKit
set_option linter.unusedVariables false

abbrev i64 (n : Int) : Prop := -9223372036854775808 ≤ n ∧ n ≤ 9223372036854775807
theorem i64_wf {n : Int} (h : (Lit.int .i64 n).wf = true) : i64 n := by
  simp only [Lit.wf, Bool.and_eq_true, decide_eq_true_eq, show IntKind.i64.min = -9223372036854775808 from rfl, show IntKind.i64.max = 9223372036854775807 from rfl] at h
  exact h
theorem rd_int {ds : List AV} (h : Rd (.int .i64) ds) : ∃ n : Int, ds = [I n] ∧ i64 n := by
  cases h with | int hw => exact ⟨_, rfl, i64_wf hw⟩
theorem rd_bool {ds : List AV} (h : Rd .bool ds) : ∃ b : Bool, ds = [B b] := by
  cases h with | bool => exact ⟨_, rfl⟩
theorem rd_str {ds : List AV} (h : Rd .str ds) : ∃ p : List UInt8, ds = [Z p] ∧ p.length ≤ 9223372036854775807 := by
  cases h with | str hp => exact ⟨_, rfl, by simp only [maxLen] at hp; omega⟩
theorem rdN_ints {n : Nat} {cs : List AV} (h : RdN (.int .i64) n 1 cs) : ∃ xs : List Int, cs = ints xs ∧ xs.length = n ∧ ∀ x ∈ xs, i64 x := by
  induction n generalizing cs with
  | zero => cases h; exact ⟨[], rfl, rfl, by simp⟩
  | succ n ih =>
    cases h with
    | snoc h1 h2 h3 =>
      obtain ⟨xs, rfl, h5, h6⟩ := ih h1
      obtain ⟨m, rfl, hm⟩ := rd_int h2
      refine ⟨xs ++ [m], by simp [ints], by simp [h5], fun x hx => ?_⟩
      rcases List.mem_append.1 hx with hx | hx
      · exact h6 x hx
      · have : x = m := by simpa using hx
        subst this; exact hm
theorem rd_ints {ds : List AV} (h : Rd (.slice 1 (.int .i64)) ds) : ∃ xs : List Int, ds = [IL xs] ∧ xs.length ≤ 9223372036854775807 ∧ ∀ x ∈ xs, i64 x := by
  cases h with
  | slice hl hn =>
    obtain ⟨xs, rfl, h1, h2⟩ := rdN_ints hn
    subst h1
    exact ⟨xs, rfl, by simp only [maxLen] at hl; omega, h2⟩
theorem rdN_bools {n : Nat} {cs : List AV} (h : RdN .bool n 1 cs) : ∃ xs : List Bool, cs = bools xs ∧ xs.length = n := by
  induction n generalizing cs with
  | zero => cases h; exact ⟨[], rfl, rfl⟩
  | succ n ih =>
    cases h with
    | snoc h1 h2 h3 =>
      obtain ⟨xs, rfl, h5⟩ := ih h1
      obtain ⟨m, rfl⟩ := rd_bool h2
      exact ⟨xs ++ [m], by simp [bools], by simp [h5]⟩
theorem rd_bools {ds : List AV} (h : Rd (.slice 1 .bool) ds) : ∃ xs : List Bool, ds = [.imm 1 xs.length (bools xs)] ∧ xs.length ≤ 9223372036854775807 := by
  cases h with
  | slice hl hn =>
    obtain ⟨xs, rfl, h1⟩ := rdN_bools hn
    subst h1
    exact ⟨xs, rfl, by simp only [maxLen] at hl; omega⟩
theorem rd_struct {sps : List Sp} {ds : List AV} (h : Rd (.struct sps) ds) : RdF sps ds := by
  cases h with | struct h => exact h
theorem rdF_cons {sp : Sp} {sps : List Sp} {ds : List AV} (h : RdF (sp :: sps) ds) : ∃ a b, ds = a ++ b ∧ Rd sp a ∧ RdF sps b := by
  cases h with | cons h1 h2 => exact ⟨_, _, rfl, h1, h2⟩
theorem rdF_nil {ds : List AV} (h : RdF [] ds) : ds = [] := by cases h; rfl

abbrev spI : Sp := .int .i64
abbrev spIs : Sp := .slice 1 (.int .i64)
theorem rd_frame {ds : List AV} (h : Rd (.struct [spI, spI, spIs]) ds) : ∃ (W H : Int) (p : List Int), ds = [I W, I H, IL p] ∧ i64 W ∧ i64 H ∧ p.length ≤ 9223372036854775807 ∧ ∀ x ∈ p, i64 x := by
  obtain ⟨_, _, rfl, h1, h⟩ := rdF_cons (rd_struct h)
  obtain ⟨_, _, rfl, h2, h⟩ := rdF_cons h
  obtain ⟨_, _, rfl, h3, h⟩ := rdF_cons h
  obtain rfl := rdF_nil h
  obtain ⟨W, rfl, a1⟩ := rd_int h1
  obtain ⟨H, rfl, a2⟩ := rd_int h2
  obtain ⟨p, rfl, a3, a4⟩ := rd_ints h3
  exact ⟨W, H, p, rfl, a1, a2, a3, a4⟩
theorem lrel_agg {S : Nat → Prop} {w : World} {ι : Nat → Spot} {O : List AObj} {ds : List AV} {cs : Array Value} (h : LRel S w ι O ds cs.toList []) : VRel S w ι O (.agg ds) (.agg cs) [] := by
  simpa using LRel.agg h .nil
theorem lrel_cons0 {S : Nat → Prop} {w : World} {ι : Nat → Spot} {O : List AObj} {V : AV} {v : Value} {cs : List AV} {vs : List Value} (h1 : VRel S w ι O V v []) (h2 : LRel S w ι O cs vs []) : LRel S w ι O (V :: cs) (v :: vs) [] := LRel.cons h1 h2
end Go.Abs

/- Contracts: FlipBit, Survives; the law FnExactSurvives. No condition. -/
namespace Go.Proofs.Ytgbahnaejajdgaa
open Go Go.Abs
set_option linter.unusedVariables false
set_option linter.unusedSimpArgs false
set_option maxRecDepth 100000
set_option maxHeartbeats 4000000
attribute [local irreducible] WpA WpL Rnd Blk Abs.Seq Abs.Fin Abs.FinG FnC FnG Only

def flipS (p : List UInt8) (i : Int) : List UInt8 := if btA p i < 0 then p else
  List.map (fun n : Int => UInt8.ofNat n.toNat) ((List.map (fun b : UInt8 => (b.toNat : Int)) p).set (0 + (i / 8).toNat * 1)
    (IntKind.u8.wrap ((BitVec.ofInt IntKind.u8.bits ((List.map (fun b : UInt8 => (b.toNat : Int)) p).getD (0 + (i / 8).toNat * 1) 0) ^^^ BitVec.ofInt IntKind.u8.bits (128 / 2 ^ (i % 8).toNat)).toNat : Nat)))
theorem flipS_len (p : List UInt8) (i : Int) : (flipS p i).length = p.length := by unfold flipS; split <;> simp
instance FlipBit_c : Con 61 (∀ (p : List UInt8) (i : Int), p.length ≤ 1048576 → Fn 61 [Z p, I i] [] (.tup [Z (flipS p i), B (!decide (btA p i < 0))])) := ⟨fun p i hl => by
  have hb := btA_out p i
  refine FnC.of_body tabOk Try.func61 Try.ntmps61 rfl (by decide +kernel) (by simp) fun G => ?_
  by_cases h : btA p i < 0
  · rw [flipS, if_pos h]
    refine go (r := ?_); and_intros <;> intros <;> try exact True.intro
    all_goals first | contradiction | (simp [h]; done) | trace_state
  · rw [flipS, if_neg h]
    refine go (r := ?_); and_intros <;> intros <;> try exact True.intro
    all_goals first | contradiction | (simp [h]; done) | rfl | trace_state⟩
instance FlipBit_s : Con 59 (∀ (p : List UInt8) (i : Int), p.length ≤ 1048576 → Fn 59 [Z p, I i] [] (.tup [Z (flipS p i), B (!decide (btA p i < 0))])) := ⟨fun p i hl => by
  have hb := btA_out p i
  refine FnC.of_body tabOk Try.func59 Try.ntmps59 rfl (by decide +kernel) (by simp) fun G => ?_
  by_cases h : btA p i < 0
  · rw [flipS, if_pos h]
    refine go (r := ?_); and_intros <;> intros <;> try exact True.intro
    all_goals first | contradiction | (simp [h]; done) | trace_state
  · rw [flipS, if_neg h]
    refine go (r := ?_); and_intros <;> intros <;> try exact True.intro
    all_goals first | contradiction | (simp [h]; done) | rfl | trace_state⟩
def survS (p : List UInt8) (i : Int) : Int := if btA p i < 0 then -1 else (prS (flipS p i)).c
section
attribute [local irreducible] flipS prS
instance Survives_c : Con 22 (∀ (p : List UInt8) (i : Int), p.length ≤ 1048576 → Fn 22 [Z p, I i] [] (I (survS p i))) := ⟨fun p i hl => by
  have hf := flipS_len p i
  unfold survS
  refine FnC.of_body tabOk Try.func22 Try.ntmps22 rfl (by decide +kernel) (by simp) fun G => ?_
  by_cases h : btA p i < 0
  · rw [if_pos h]
    refine go (r := ?_); and_intros <;> intros <;> try exact True.intro
    all_goals first | contradiction | omega | (rename_i hg; simp at hg; omega) | (simp_all; done) | trace_state
  · rw [if_neg h]
    refine go (r := ?_); and_intros <;> intros <;> try exact True.intro
    all_goals first | contradiction | omega | (rename_i hg; simp at hg; omega) | (simp_all; done) | trace_state⟩
instance Survives_s : Con 21 (∀ (p : List UInt8) (i : Int), p.length ≤ 1048576 → Fn 21 [Z p, I i] [] (I (survS p i))) := ⟨fun p i hl => by
  have hf := flipS_len p i
  unfold survS
  refine FnC.of_body tabOk Try.func21 Try.ntmps21 rfl (by decide +kernel) (by simp) fun G => ?_
  by_cases h : btA p i < 0
  · rw [if_pos h]
    refine go (r := ?_); and_intros <;> intros <;> try exact True.intro
    all_goals first | contradiction | omega | (rename_i hg; simp at hg; omega) | (simp_all; done) | trace_state
  · rw [if_neg h]
    refine go (r := ?_); and_intros <;> intros <;> try exact True.intro
    all_goals first | contradiction | omega | (rename_i hg; simp at hg; omega) | (simp_all; done) | trace_state⟩
end
theorem FnExactSurvives_c : ∀ (p : List UInt8) (i : Int), p.length ≤ 9223372036854775807 → Fn 4 [Z p, I i] [] (B true) := fun p i hl => by
  refine FnC.of_body tabOk Try.func4 Try.ntmps4 rfl (by decide +kernel) (by simp) fun G => ?_
  refine go (r := ?_); and_intros <;> intros <;> try exact True.intro
  all_goals first | contradiction | trace_state
end Go.Proofs.Ytgbahnaejajdgaa

/- Contracts: caches of bits by the program and by the specification, and those of the laws. No condition. -/
namespace Go.Proofs.Ytgbahnaejajdgaa
open Go Go.Abs
set_option linter.unusedVariables false
set_option linter.unusedSimpArgs false
set_option maxRecDepth 100000
set_option maxHeartbeats 4000000
attribute [local irreducible] WpA WpL Rnd Blk Abs.Seq Abs.Fin Abs.FinG FnC FnG Only

abbrev CA (p : List UInt8) (s w h : Int) : AV := .agg [Z p, I s, I w, I h]
instance toCache_c : Con 12 (∀ (p : List UInt8) (s w h : Int), Fn 12 [CA p s w h] [] (CA p s w h)) := ⟨fun p s w h => by
  refine FnC.of_body tabOk Try.func12 Try.ntmps12 rfl (by decide +kernel) (by simp) fun G => ?_
  refine go (r := ?_); and_intros <;> intros <;> try exact True.intro⟩
instance szCache_c : Con 9 (∀ (p : List UInt8) (s w h left : Int), p.length ≤ 9223372036854775807 ∧ 0 ≤ left ∧ left ≤ 1048576 → Fn 9 [CA p s w h, I left] [] (I (max (-1) (left - p.length)))) := ⟨fun p s w h left hl => by
  refine FnC.of_body tabOk Try.func9 Try.ntmps9 rfl (by decide +kernel) (by simp) fun G => ?_
  refine go (r := ?_); and_intros <;> intros <;> try exact True.intro
  all_goals first | omega | trace_state⟩
instance eqCache_c : Con 15 (∀ (p : List UInt8) (s w h : Int) (p2 : List UInt8) (s2 w2 h2 : Int), Fn 15 [CA p s w h, CA p2 s2 w2 h2] [] (B (decide (p = p2 ∧ s = s2 ∧ w = w2 ∧ h = h2)))) := ⟨fun p s w h p2 s2 w2 h2 => by
  refine FnC.of_body tabOk Try.func15 Try.ntmps15 rfl (by decide +kernel) (by simp) fun G => ?_
  refine go (r := ?_); and_intros <;> intros <;> try exact True.intro
  all_goals first | (simp_all; done) | trace_state⟩
theorem numB_suc (p : List UInt8) (s : Int) (k : Nat) : numB p s (k + 1) = numB p s k * 2 + bv p (s + k) := rfl
abbrev CaOk (p : List UInt8) (s w h : Int) : Prop := (0 ≤ s ∧ s ≤ p.length) ∧ (0 ≤ h ∧ h ≤ 56 ∧ h ≤ 8 * s) ∧ w = numB p (8 * s - h) h.toNat
instance CacheOk_c : Con 52 (∀ (p : List UInt8) (s w h : Int), p.length ≤ 1099511627776 → Fn 52 [CA p s w h] [] (B (decide (CaOk p s w h)))) := ⟨fun p s w h hl => by
  refine FnC.of_body tabOk Try.func52 Try.ntmps52 rfl (by decide +kernel) (by simp) fun G => ?_
  refine go (r := ?_); and_intros <;> intros <;> try exact True.intro
  all_goals first | (simp_all; done) | (rw [Bool.eq_iff_iff]; simp; omega) | trace_state⟩
instance CacheOk_s : Con 45 (∀ (p : List UInt8) (s w h : Int), p.length ≤ 1099511627776 → Fn 45 [CA p s w h] [] (B (decide (CaOk p s w h)))) := ⟨fun p s w h hl => by
  refine FnC.of_body tabOk Try.func45 Try.ntmps45 rfl (by decide +kernel) (by simp) fun G => ?_
  refine go (r := ?_); and_intros <;> intros <;> try exact True.intro
  · refine WpA.loop (fun k : Nat => ⟨[(1, .ptr 0 0 0), (3, I (numB p (8 * s - h) k)), (4, I (8 * s - h + k))], [⟨[Z p, I s, I w, I h], 0, 0, none⟩]⟩) (fun k => (k : Int) ≤ h) (fun k => h.toNat - k) 0 (by omega) (go (r := ?_)) (fun k hk => ?_)
    · and_intros <;> first | exact True.intro | rfl | simp | trace_state
    have hb := numB_bd p (8 * s - h) k
    have hb2 := numB_le p (8 * s - h) (k := k) (j := 56) (by omega)
    have hst := numB_suc p (8 * s - h) k
    have hbt := btA_out p (8 * s - h + k)
    have hbd := btA_bd p (8 * s - h + k)
    have hbv : (k : Int) < h → bv p (8 * s - h + k) = btA p (8 * s - h + k) := fun h1 => by unfold bv; omega
    refine go (r := ?_); and_intros <;> intros <;> try exact True.intro
    all_goals first | omega | (rw [hst, hbv (by omega)]; done) | ((have e : h.toNat = k := by omega); rw [Bool.eq_iff_iff, decide_eq_true_eq, decide_eq_true_eq, CaOk, e]; constructor; (intro hh; exact ⟨by omega, by omega, hh⟩); (intro hh; exact hh.2.2)) | trace_state
  all_goals first | (simp_all; done) | (symm; rw [decide_eq_false_iff_not]; omega) | trace_state⟩
def plA (p : List UInt8) (s w h : Int) : Int := if CaOk p s w h then 8 * s - h else -1
instance PlaceIn_c : Con 55 (∀ (p : List UInt8) (s w h : Int), p.length ≤ 1099511627776 → Fn 55 [CA p s w h] [] (I (plA p s w h))) := ⟨fun p s w h hl => by
  unfold plA
  refine FnC.of_body tabOk Try.func55 Try.ntmps55 rfl (by decide +kernel) (by simp) fun G => ?_
  by_cases hc : CaOk p s w h
  · rw [if_pos hc]
    refine go (r := ?_); and_intros <;> intros <;> try exact True.intro
    all_goals first | contradiction | omega | trace_state
  · rw [if_neg hc]
    refine go (r := ?_); and_intros <;> intros <;> try exact True.intro
    all_goals first | contradiction | omega | trace_state⟩
instance PlaceIn_s : Con 117 (∀ (p : List UInt8) (s w h : Int), p.length ≤ 1099511627776 → Fn 117 [CA p s w h] [] (I (plA p s w h))) := ⟨fun p s w h hl => by
  unfold plA
  refine FnC.of_body tabOk Try.func117 Try.ntmps117 rfl (by decide +kernel) (by simp) fun G => ?_
  by_cases hc : CaOk p s w h
  · rw [if_pos hc]
    refine go (r := ?_); and_intros <;> intros <;> try exact True.intro
    all_goals first | contradiction | omega | trace_state
  · rw [if_neg hc]
    refine go (r := ?_); and_intros <;> intros <;> try exact True.intro
    all_goals first | contradiction | omega | trace_state⟩
abbrev SetV (p : List UInt8) (s : Int) : AV := CA p ((s + 7) / 8) (numB p s (8 * ((s + 7) / 8) - s).toNat) (8 * ((s + 7) / 8) - s)
instance settledAt_c : Con 57 (∀ (p : List UInt8) (s : Int), p.length ≤ 1099511627776 ∧ RdOk p s → Fn 57 [Z p, I s] [] (SetV p s)) := ⟨fun p s hl => by
  refine FnC.of_body tabOk Try.func57 Try.ntmps57 rfl (by decide +kernel) (by simp) fun G => ?_
  refine go (r := ?_); and_intros <;> intros <;> try exact True.intro
  all_goals first | omega | trace_state⟩
instance l7At_s : Con 118 (∀ (p : List UInt8) (s : Int), p.length ≤ 1099511627776 ∧ RdOk p s → Fn 118 [Z p, I s] [] (SetV p s)) := ⟨fun p s hl => by
  have h0 := hl.2.1
  have h1 := hl.2.2
  refine FnC.of_body tabOk Try.func118 Try.ntmps118 rfl (by decide +kernel) (by simp) fun G => ?_
  refine go (r := ?_); and_intros <;> intros <;> try exact True.intro
  refine WpA.loop (fun k : Nat => ⟨[(0, Z p), (4, .ptr 0 0 0), (5, .ptr 1 0 0), (6, I (s + k))], [⟨[Z [], I 0, I 0, I 0], 0, 0, none⟩, ⟨[Z p, I ((s + 7) / 8), I (numB p s k), I (8 * ((s + 7) / 8) - s)], 0, 0, none⟩]⟩) (fun k => (k : Int) ≤ 8 * ((s + 7) / 8) - s) (fun k => (8 * ((s + 7) / 8) - s).toNat - k) 0 (by omega) (go (r := ?_)) (fun k hk => ?_)
  · and_intros <;> first | exact True.intro | rfl | simp | trace_state
  have hb := numB_bd p s k
  have hb2 := numB_le p s (k := k) (j := 56) (by omega)
  have hst := numB_suc p s k
  have hbt := btA_out p (s + k)
  have hbd := btA_bd p (s + k)
  have hbv : (k : Int) < 8 * ((s + 7) / 8) - s → bv p (s + k) = btA p (s + k) := fun h1 => by unfold bv; omega
  refine go (r := ?_); and_intros <;> intros <;> try exact True.intro
  all_goals first | omega | (rw [hst, hbv (by omega)]; done) | ((have e : (8 * ((s + 7) / 8) - s).toNat = k := by omega); rw [e]) | trace_state⟩
instance l26Back_s : Con 50 (∀ (p : List UInt8) (s : Int), p.length ≤ 1099511627776 ∧ RdOk p s → Fn 50 [RA p s] [] (SetV p s)) := ⟨fun p s hl => by
  refine FnC.of_body tabOk Try.func50 Try.ntmps50 rfl (by decide +kernel) (by simp) fun G => ?_
  refine go (r := ?_); and_intros <;> intros <;> try exact True.intro
  all_goals first | exact hl.2 | omega | trace_state⟩
instance l7Reader_s : Con 49 (∀ (p : List UInt8) (s w h : Int), p.length ≤ 1099511627776 → Fn 49 [CA p s w h] [] (RA p (plA p s w h))) := ⟨fun p s w h hl => by
  refine FnC.of_body tabOk Try.func49 Try.ntmps49 rfl (by decide +kernel) (by simp) fun G => ?_
  refine go (r := ?_); and_intros <;> intros <;> try exact True.intro
  all_goals first | omega | trace_state⟩
end Go.Proofs.Ytgbahnaejajdgaa

/- Comparisons of structs of two numbers. No condition. -/
namespace Go.Abs
open Go
set_option linter.unusedVariables false
set_option linter.unusedSimpArgs false

theorem run_eq_pr {P : Program} {t : TypeId} {f1 f2 : Field} (hu : P.underlying t = some (.struct #[f1, f2])) (h1 : f1.name ≠ "_") (h2 : f2.name ≠ "_") (o1 : f1.offset = 0) (o2 : f2.offset = 1)
    (hi1 : P.underlying f1.type = some (.int .i64)) (hi2 : P.underlying f2.type = some (.int .i64)) (hp : P.stoodInHeld t = false) (w : World) (a b c d : Int) :
    (Op.equalIn 10000 t (.agg #[.int .i64 a, .int .i64 b]) (.agg #[.int .i64 c, .int .i64 d])).run P w = .ok (decide (a = c ∧ b = d)) w := by
  have hf : P.fieldsOf t = #[f1, f2] := by unfold Program.fieldsOf; rw [hu]
  have h := run_equalIn_struct (P := P) w 9999 t #[.int .i64 a, .int .i64 b] #[.int .i64 c, .int .i64 d] (by rw [hf]; exact hu) hp
  rw [hf] at h
  show (Op.equalIn (9999 + 1) _ _ _).run P w = _
  rw [h]
  have p1 : ∀ (i : Nat) (x y : Int), (part f1.type #[.int .i64 x, .int .i64 y] 0).run P w = .ok (.int .i64 x) w := fun i x y => by
    simp [part, isAgg, Sem.run_bind, run_underlying hi1]
  have p2 : ∀ (x y : Int), (part f2.type #[.int .i64 x, .int .i64 y] 1).run P w = .ok (.int .i64 y) w := fun x y => by
    simp [part, isAgg, Sem.run_bind, run_underlying hi2]
  have q1 := fun x y => run_equalIn_int (P := P) w 9998 f1.type .i64 .i64 x y hi1
  have q2 := fun x y => run_equalIn_int (P := P) w 9998 f2.type .i64 .i64 x y hi2
  simp only [Op.eqFields, h1, h2, o1, o2, ne_eq, not_false_eq_true, if_true, Sem.run_bind, p1 0, Result.andThen_ok, q1]
  by_cases e1 : a = c
  · by_cases e2 : b = d
    · simp [e1, e2, Sem.run_bind, p2, q2]
    · simp [e1, e2, Sem.run_bind, p2, q2]
  · simp [e1]
/-- A type whose values are two numbers that are compared one by one. -/
class EqPr (P : Program) (t : TypeId) : Prop where
  eq : ∀ (w : World) (a b c d : Int), (Op.equalIn 10000 t (.agg #[.int .i64 a, .int .i64 b]) (.agg #[.int .i64 c, .int .i64 d])).run P w = .ok (decide (a = c ∧ b = d)) w
  gd : P.eqGuardType P.depth t = false
section
variable {P : Program} {n m : Nat} {G : Ctx} {T : List (Nat × AV)} {O : List AObj} {Q : Exit → St → Prop} {md : Bool} {ops : Array Oper} {l : List Oper} {d : Nat} {tt : TypeId} {pos : String} {after : Array Edge}
theorem RelAt.pr {S ι F a w} (hr : RelAt n m G S ι F ⟨T, O⟩ a w) {x : Operand} {p q : Int} (hx : av T x = .agg [I p, I q]) : a.eval x = .agg #[.int .i64 p, .int .i64 q] := by
  have h := hr.eval x
  rw [hx] at h
  obtain ⟨us, e, hu⟩ := LRel.agg_inv h
  rw [e]
  cases hu with
  | sc h2 => cases h2 with
    | sc h3 => cases h3; rfl
theorem WpL.prNe {t ty : TypeId} {x y : Operand} {a b c e : Int} [hE : EqPr P t] (hx : av T x = .agg [I a, I b]) (hy : av T y = .agg [I c, I e]) (hn : d < n)
    (h : WpL P n m G md ops l ⟨(d, .sc (.bool (!decide (a = c ∧ b = e)))) :: T, O⟩ Q) :
    WpL P n m G md ops ({ dst := some d, op := .binOp .neq t x y ty, type := tt, pos := pos, after := after, guard := none } :: l) ⟨T, O⟩ Q :=
  WpL.pure rfl rfl hn (fun S ι F act w hr => ⟨_, by
    simp only [execOp, hr.pr hx, hr.pr hy, Sem.run_bind, run_eqGuard_agg (P := P) w _ _ _ _ _ _ hE.gd, Result.andThen_ok, run_neq_struct (P := P) w, hE.eq, Sem.run_pure], .sc .nil⟩) h
theorem WpL.prEq {t ty : TypeId} {x y : Operand} {a b c e : Int} [hE : EqPr P t] (hx : av T x = .agg [I a, I b]) (hy : av T y = .agg [I c, I e]) (hn : d < n)
    (h : WpL P n m G md ops l ⟨(d, .sc (.bool (decide (a = c ∧ b = e)))) :: T, O⟩ Q) :
    WpL P n m G md ops ({ dst := some d, op := .binOp .eql t x y ty, type := tt, pos := pos, after := after, guard := none } :: l) ⟨T, O⟩ Q :=
  WpL.pure rfl rfl hn (fun S ι F act w hr => ⟨_, by
    simp only [execOp, hr.pr hx, hr.pr hy, Sem.run_bind, run_eqGuard_agg (P := P) w _ _ _ _ _ _ hE.gd, Result.andThen_ok, run_eql_struct (P := P) w, hE.eq, Sem.run_pure], .sc .nil⟩) h
end
end Go.Abs

/- Appending zeros to a slice of numbers that is owned. No condition. -/
namespace Go.Abs
open Go
set_option linter.unusedVariables false
set_option linter.unusedSimpArgs false

theorem zav_one {z : Value} (h : [I 0] = z.cells.toList.map zav) : z.cells = #[.int .i64 0] := by
  have hl : z.cells.toList.length = 1 := by have := congrArg List.length h; simpa using this.symm
  match hz : z.cells.toList, hl with
  | [v], _ =>
    rw [hz] at h
    simp only [List.map_cons, List.map_nil, List.cons.injEq, and_true] at h
    have hv : v = .int .i64 0 := by
      unfold zav at h
      split at h
      · cases h
      · simpa using h.symm
    apply Array.ext'
    rw [hz, hv]
theorem zero_cells {z : Value} (h : z.cells = #[.int .i64 0]) (c : Nat) : Builtin.zeroCells z.cells c = (List.replicate c (Value.int .i64 0)).toArray := by
  rw [h]
  apply Array.ext
  · simp [Builtin.zeroCells]
  · intro i h1 h2
    simp [Builtin.zeroCells, Nat.mod_one]
theorem lrel_zeros {S w ι O} : ∀ c, LRel S w ι O (ints (List.replicate c 0)) (List.replicate c (Value.int .i64 0)) []
  | 0 => .nil
  | c + 1 => .sc (lrel_zeros c)
section
variable {P : Program} (w : World)
theorem run_append_room_zeros (t u ty e : TypeId) (i : TypeInfo) (z : Value) (kn : IntKind) (ht : P.underlying t = some (.slice e)) (hu : P.underlying u = some (.int kn)) (hi : P.info? e = some i) (hz : i.zero = some z) (hzc : z.cells = #[.int .i64 0]) (hs1 : i.size = 1)
    (g sLen sCap c : Nat) (cur : Array Value) (hg : w.heap[g]? = some (.cells cur e (0, 0))) (h0 : 0 < c) (h63 : (c : Int) * (i.bytes : Int) ≤ 281474976710656 ∧ (c : Int) ≤ 9223372036854775807)
    (hroom : sLen + c ≤ sCap) (hfit : sLen * i.size + c ≤ cur.size) :
    (Builtin.append_ #[t, u] ty #[.slice (some ⟨g, 0, none⟩) sLen sCap, .int .i64 c]).run P w =
      .ok (.slice (some ⟨g, 0, none⟩) (sLen + c) sCap) (w.setRow g (cur.toList.take (sLen * i.size) ++ List.replicate c (Value.int .i64 0) ++ cur.toList.drop (sLen * i.size + (List.replicate c (Value.int .i64 0)).length)).toArray) := by
  have hn : c ≠ 0 := by omega
  have hw : IntKind.i64.wrap (c : Int) = c := by rw [IntKind.wrap_i64]; omega
  have hneg : ¬ ((c : Int) < 0) := by omega
  have h48i : ¬ (281474976710656 < (c : Int) * (i.bytes : Int)) := by omega
  have hns : ¬ (c * i.size = 0) := by rw [hs1]; omega
  have hst := run_storeCells_at P g (sLen * i.size) e (List.replicate c (Value.int .i64 0)) 0 cur w hg (by simpa using hfit) (by intro v hv; rw [List.eq_of_mem_replicate hv]; rfl)
  simp only [Nat.add_zero] at hst
  simp [Builtin.append_, run_underlying ht, run_underlying hu, sizeOf, typeInfo, zeroValue, hi, hz, asInt, asIntOf, hw, hn, hneg, hns, h48i, hroom, Addr.add_lit, zero_cells hzc, hst]
theorem run_append_grow_zeros (t u ty e : TypeId) (i : TypeInfo) (z : Value) (kn : IntKind) (ht : P.underlying t = some (.slice e)) (hu : P.underlying u = some (.int kn)) (hi : P.info? e = some i) (hz : i.zero = some z) (hzc : z.cells = #[.int .i64 0]) (hs1 : i.size = 1)
    (b : Addr) (sLen sCap c : Nat) (olds : List Value) (hlo : olds.length = sLen * i.size) (holds : ∀ j v, olds[j]? = some v → w.cell? (b.add j) = some v) (h0 : 0 < c) (h48 : (c : Int) * (i.bytes : Int) ≤ 281474976710656 ∧ (c : Int) ≤ 9223372036854775807)
    (hg : sCap < sLen + c) (h63 : sLen + c ≤ 9223372036854775807) (hfit : Builtin.nextslicecap (sLen + c) sCap * i.bytes ≤ 281474976710656) :
    (Builtin.append_ #[t, u] ty #[.slice (some b) sLen sCap, .int .i64 c]).run P w =
      .ok (.slice (some ⟨w.heap.size, 0, none⟩) (sLen + c) (grownCap w (sLen + c) sCap e))
        (w.drew.alloc (.cells (olds.toArray ++ (List.replicate c (Value.int .i64 0)).toArray ++ Builtin.zeroCells z.cells (grownCap w (sLen + c) sCap e - (sLen + c))) e)) := by
  have hn : c ≠ 0 := by omega
  have hw : IntKind.i64.wrap (c : Int) = c := by rw [IntKind.wrap_i64]; omega
  have hneg : ¬ ((c : Int) < 0) := by omega
  have h48i : ¬ (281474976710656 < (c : Int) * (i.bytes : Int)) := by omega
  have hns : ¬ (c * i.size = 0) := by rw [hs1]; omega
  have hno : ¬ (sLen + c ≤ sCap) := by omega
  have h48' : ¬ (281474976710656 < Builtin.nextslicecap (sLen + c) sCap * i.bytes) := by omega
  have h63' : ¬ (9223372036854775807 < ((sLen : Int) + (c : Int))) := by omega
  have hfo := run_firstCells_some (P := P) w.drew i.size sLen b sLen sCap olds hlo (by simpa using holds)
  simp [Builtin.append_, run_underlying ht, run_underlying hu, sizeOf, typeInfo, zeroValue, hi, hz, asInt, asIntOf, hw, hn, hneg, hns, h48i, hno, h63', h48', Question.forced, hfo, newRow, grownCap]
  rw [zero_cells hzc c]; simp
end
section
variable {P : Program} {n m : Nat} {G : Ctx} {T : List (Nat × AV)} {O : List AObj} {Q : Exit → St → Prop} {ops : Array Oper} {l : List Oper} {d : Nat} {tt : TypeId} {pos : String} {after : Array Edge} {tab : List (Nat × Ty)}
theorem WpL.appOwnZ (hP : TabOk P tab) {t u e b c : Nat} {kn : IntKind} {x y : Operand} {id ep len : Nat} {ob : AObj} (ht : tlook tab t = some (.slice e 1 b [I 0])) (hut : tlook tab u = some (.int kn)) (hx : av T x = .own id ep 0 len)
    (ho : O[id]? = some ob) (he : ob.ep = ep) (hty : ob.ty = some e) (hsz : ob.size = 1) (hol : ob.cells.length = len * 1) (hm : m ≤ id) (hy : av T y = .sc (.int .i64 c)) (hc0 : 0 < c)
    (hb : (len + c) * b ≤ 140737488355328 ∧ len + c ≤ 9223372036854775807) (hn : d < n)
    (h : WpL P n m G false ops l ⟨(d, .own id (ep + 1) 0 (len + c)) :: T, O.set id ⟨ob.cells ++ ints (List.replicate c 0), ep + 1, 1, some e⟩⟩ Q) :
    WpL P n m G false ops ({ dst := some d, op := .call { callee := .builtin .append, args := #[x, y], argTypes := #[t, u] }, type := tt, pos := pos, after := after, guard := none } :: l) ⟨T, O⟩ Q :=
  WpL.value rfl (fun a w hr => by
    obtain ⟨S, ι, F, hr⟩ := hr
    obtain ⟨hu, i, z, hi, hz, hk, hby, hzk, hk0, hzs⟩ := hP.slice ht
    have htu := (hP.ty hut).1
    have hzc := zav_one hzs
    have hcb : (c : Int) * (i.bytes : Int) ≤ 281474976710656 := by
      have h1 := Nat.mul_le_mul_right b (show c ≤ len + c by omega)
      rw [hby, ← Int.natCast_mul]; omega
    have hid : id < O.length := (List.getElem?_eq_some_iff.1 ho).1
    have hye := hr.sc hy
    have huslen : (List.replicate c (Value.int .i64 0)).length = c * 1 := by simp
    have hl : LRel S w ι O (ints (List.replicate c 0)) (List.replicate c (Value.int .i64 0)) [] := lrel_zeros c
    have hv := hr.eval x
    rw [show av (St.mk T O).T x = _ from hx] at hv
    have hob := hr.objs.obj id ob ho
    unfold ObjAt at hob
    have hown : OwnAt (ι id) ob.size 0 len (a.eval x) := by
      cases hv with
      | own q1 q2 q3 r =>
        rw [show (St.mk T O).O[id]? = some ob from ho] at q1
        cases q1
        exact q3 he.symm
    have hlenA : (ob.cells ++ ints (List.replicate c 0)).length = (len + c) * 1 := by rw [List.length_append, hol, show (ints (List.replicate c 0)).length = c * 1 by simp [ints], Nat.add_mul]
    -- what the end looks like
    have finish : ∀ (w' : World) (s' : Spot) (f' : List Nat) (v : Value), (Builtin.append_ #[t, u] tt #[a.eval x, a.eval y]).run P w = .ok v w' →
        Later S w ι O S w' (upd ι id s') (O.set id ⟨ob.cells ++ ints (List.replicate c 0), ep + 1, 1, some e⟩) ∧ RelAt n m G S (upd ι id s') (upd F id f') ⟨T, O.set id ⟨ob.cells ++ ints (List.replicate c 0), ep + 1, 1, some e⟩⟩ a w' → OwnAt s' 1 0 (len + c) v →
        ∃ v w', (execOp a.eval { dst := some d, op := .call { callee := .builtin .append, args := #[x, y], argTypes := #[t, u] }, type := tt, pos := pos, after := after, guard := none }).run P w = .ok (.value v) w' ∧
          Rel n m G ⟨(d, .own id (ep + 1) 0 (len + c)) :: T, O.set id ⟨ob.cells ++ ints (List.replicate c 0), ep + 1, 1, some e⟩⟩ (a.put (some d) v) w' := by
      intro w' s' f' v hrun hr' hoa
      refine ⟨v, w', by simp only [execOp, resolve, invoke, builtin, Sem.run_bind, Sem.run_pure, Result.andThen_ok, List.map_toArray, List.map_cons, List.map_nil, hrun], _, _, _, hr'.2.put hn ?_⟩
      exact .own (ob := ⟨ob.cells ++ ints (List.replicate c 0), ep + 1, 1, some e⟩) (by rw [List.getElem?_set_self hid]) (Nat.le_refl _) (fun _ => by rw [upd_same]; exact hoa) .nil
    -- a new block
    have fresh : ∀ (oldc : Nat) (olds : List Value) (f0 : List Nat), LRel S w ι O ob.cells olds f0 → f0.Nodup → (∀ b, b ∈ f0 → b ∈ F id) → (∀ b0 k0, ι id = some (b0, k0) → b0 ∉ f0) → len + c ≤ grownCap w (len + c) oldc e →
        (Builtin.append_ #[t, u] tt #[a.eval x, a.eval y]).run P w = .ok (.slice (some ⟨w.heap.size, 0, none⟩) (len + c) (grownCap w (len + c) oldc e)) (w.drew.alloc (.cells (olds.toArray ++ (List.replicate c (Value.int .i64 0)).toArray ++ Builtin.zeroCells z.cells (grownCap w (len + c) oldc e - (len + c))) e)) →
        ∃ v w', (execOp a.eval { dst := some d, op := .call { callee := .builtin .append, args := #[x, y], argTypes := #[t, u] }, type := tt, pos := pos, after := after, guard := none }).run P w = .ok (.value v) w' ∧
          Rel n m G ⟨(d, .own id (ep + 1) 0 (len + c)) :: T, O.set id ⟨ob.cells ++ ints (List.replicate c 0), ep + 1, 1, some e⟩⟩ (a.put (some d) v) w' := by
      intro oldc olds f0 hlo hnd0 hsub hnb hge hrun
      have hcm := grownCap_le_maxLen w (len + c) oldc e (by simp only [maxLen]; omega)
      have hA := adds_drew_alloc w (.cells (olds.toArray ++ (List.replicate c (Value.int .i64 0)).toArray ++ Builtin.zeroCells z.cells (grownCap w (len + c) oldc e - (len + c))) e)
      have holds : olds.length = len * 1 := by rw [← hlo.len]; exact hol
      have hszc : (olds.toArray ++ (List.replicate c (Value.int .i64 0)).toArray ++ Builtin.zeroCells z.cells (grownCap w (len + c) oldc e - (len + c))).size = grownCap w (len + c) oldc e * 1 := by
        simp only [Array.size_append, List.size_toArray, zeroCells_size, hzk, huslen, holds, ← Nat.add_mul]
        congr 1; omega
      refine finish _ (some (w.heap.size, grownCap w (len + c) oldc e * 1)) (w.heap.size :: f0) _ hrun (hr.renew (ob := ob) ho hm (by simp [he]) rfl rfl rfl (by rw [hA.size]; omega) (fun b' hb' _ => hA.old hb') ?_ ?_ ?_) ⟨_, rfl, by omega, hge, hcm⟩
      · intro hlat
        refine ⟨_, e, (0, 0), f0, rfl, hA.new, hszc, by rw [hlenA]; exact Nat.mul_le_mul_right _ hge, by simp, by simp, ?_⟩
        have htk : (olds.toArray ++ (List.replicate c (Value.int .i64 0)).toArray ++ Builtin.zeroCells z.cells (grownCap w (len + c) oldc e - (len + c))).toList.take (ob.cells ++ ints (List.replicate c 0)).length = olds ++ List.replicate c (Value.int .i64 0) := by
          rw [Array.toList_append, Array.toList_append]
          exact List.take_left' (by rw [hlenA, Nat.add_mul]; simp [holds, huslen])
        show LRel S _ _ _ (ob.cells ++ ints (List.replicate c 0)) _ f0
        rw [htk]
        have h1 := hlo.mono hlat (fun b' hb' => hA.old (hr.foot id hid b' (hsub b' hb')).2.2)
        have h2 := hl.mono hlat (by simp)
        simpa using h1.append h2
      · refine List.nodup_cons.2 ⟨fun hb => ?_, hnd0⟩
        have := (hr.foot id hid _ (hsub _ hb)).2.2
        omega
      · intro b' hb'
        rcases List.mem_cons.1 hb' with rfl | hb'
        · exact .inr ⟨Nat.le_refl _, by rw [hA.size]; omega⟩
        · exact .inl (hsub b' hb')
    cases hspot : ι id with
    | none =>
      rw [hspot] at hown hob
      obtain ⟨hxe, _, hlen0⟩ := hown
      subst hlen0
      obtain ⟨hcells, hFid⟩ := hob
      have hrun := Lib.run_append_nil_zeros (P := P) w t u tt e i z .i64 kn hu htu hi hz c hc0 (by omega) (by omega) (by rw [hby]; have := hb.1; simp only [Nat.zero_add] at this; omega)
      refine fresh 0 [] [] (by rw [hcells]; exact .nil) (by simp) (by simp) (by simp) (grownCap_ge _ _ _ _) ?_
      simp only [Nat.zero_add] at hrun ⊢
      rw [hxe, hye, hrun, zero_cells hzc]; simp
    | some p =>
      obtain ⟨b0, k0⟩ := p
      rw [hspot] at hown hob
      obtain ⟨cap, hxe, hcap0, hlc, hcm⟩ := hown
      obtain ⟨cur, t', fz, f', hF, hh, hcur, hle, hfz, htyp, hlo⟩ := hob
      obtain ⟨rfl, rfl⟩ := htyp e hty
      have hcurs : cur.size = cap * 1 := by rw [hcur, ← hcap0, hsz]; omega
      have hndF : (b0 :: f').Nodup := by rw [← hF]; exact hr.objs.nodup id hid
      have holdsl : (cur.toList.take ob.cells.length).length = len * 1 := by rw [← hlo.len]; exact hol
      by_cases hroom : len + c ≤ cap
      · -- in place
        have hfit : len * i.size + (List.replicate c (Value.int .i64 0)).length ≤ cur.size := by rw [hk, huslen, hcurs, ← Nat.add_mul]; exact Nat.mul_le_mul_right _ hroom
        have hrun : (Builtin.append_ #[t, u] tt #[a.eval x, a.eval y]).run P w =
            .ok (.slice (some ⟨b0, 0, none⟩) (len + c) cap) (w.setRow b0 (cur.toList.take (len * i.size) ++ List.replicate c (Value.int .i64 0) ++ cur.toList.drop (len * i.size + (List.replicate c (Value.int .i64 0)).length)).toArray) := by
          rw [hxe, hye]
          exact run_append_room_zeros (P := P) w t u tt t' i z kn hu htu hi hz hzc (by omega) b0 len cap c cur hh hc0 (by omega) hroom (by simpa using hfit)
        have hsr := setRow_heap w b0 cur (cur.toList.take (len * i.size) ++ List.replicate c (Value.int .i64 0) ++ cur.toList.drop (len * i.size + (List.replicate c (Value.int .i64 0)).length)).toArray t' (0, 0) hh
        have hso : ∀ b', b' ≠ b0 → (w.setRow b0 (cur.toList.take (len * i.size) ++ List.replicate c (Value.int .i64 0) ++ cur.toList.drop (len * i.size + (List.replicate c (Value.int .i64 0)).length)).toArray).heap[b']? = w.heap[b']? := fun b' hb' => setRow_other w b0 b' _ hb'
        refine finish _ (some (b0, k0)) (b0 :: f') _ hrun (hr.renew (ob := ob) ho hm (by simp [he]) rfl rfl rfl (by simp) ?_ ?_ hndF ?_) ⟨cap, rfl, by rw [← hcap0, hsz], hroom, hcm⟩
        · intro b' _ hb'
          refine hso b' ?_
          rintro rfl
          rcases hb' with hb' | ⟨_, hb'⟩
          · exact hb' (by rw [hF]; simp)
          · exact hb' k0 rfl
        · intro hlat
          have hlenk : ob.cells.length = len * i.size := by rw [hol, hk]
          refine ⟨_, t', (0, 0), f', rfl, hsr, ?_, ?_, by simp, by simp, ?_⟩
          · rw [← hcur]; simp; omega
          · show (ob.cells ++ ints (List.replicate c 0)).length ≤ k0
            rw [hlenA, ← hcur, hcurs]; exact Nat.mul_le_mul_right _ hroom
          · show LRel S _ _ _ (ob.cells ++ ints (List.replicate c 0)) _ f'
            have htk : (cur.toList.take (len * i.size) ++ List.replicate c (Value.int .i64 0) ++ cur.toList.drop (len * i.size + (List.replicate c (Value.int .i64 0)).length)).take (ob.cells ++ ints (List.replicate c 0)).length = cur.toList.take (len * i.size) ++ List.replicate c (Value.int .i64 0) := by
              refine List.take_left' ?_
              rw [List.length_append, List.length_append, ← hl.len, ← hlenk, ← hlo.len]
            show LRel S _ _ _ (ob.cells ++ ints (List.replicate c 0)) ((cur.toList.take (len * i.size) ++ List.replicate c (Value.int .i64 0) ++ cur.toList.drop (len * i.size + (List.replicate c (Value.int .i64 0)).length)).toArray.toList.take (ob.cells ++ ints (List.replicate c 0)).length) f'
            rw [show (cur.toList.take (len * i.size) ++ List.replicate c (Value.int .i64 0) ++ cur.toList.drop (len * i.size + (List.replicate c (Value.int .i64 0)).length)).toArray.toList = cur.toList.take (len * i.size) ++ List.replicate c (Value.int .i64 0) ++ cur.toList.drop (len * i.size + (List.replicate c (Value.int .i64 0)).length) from by simp, htk]
            have h1 := hlo.mono hlat (fun b' hb' => hso b' (by rintro rfl; exact (List.nodup_cons.1 hndF).1 hb'))
            have h2 := hl.mono hlat (by simp)
            rw [hlenk] at h1
            simpa using h1.append h2
        · intro b' hb'; exact .inl (by rw [hF]; exact hb')
      · -- a new block
        have hrun := run_append_grow_zeros (P := P) w t u tt t' i z kn hu htu hi hz hzc (by omega) ⟨b0, 0, none⟩ len cap c (cur.toList.take ob.cells.length) (by rw [hk]; exact holdsl) (by
            intro j v hj
            have hlt := (List.getElem?_eq_some_iff.1 hj).1
            rw [addr_add, Nat.zero_add, cell_of_row w b0 j cur _ _ hh]
            rw [List.getElem?_take] at hj
            split at hj
            · simpa using hj
            · simp at hj) hc0 (by omega) (by omega) hb.2 (by rw [hby]; exact growslice_fits (by omega) hb.1)
        refine fresh cap _ f' hlo (List.nodup_cons.1 hndF).2 (fun b hb => by rw [hF]; simp [hb]) (fun b1 k1 hb1 => by rw [hspot] at hb1; cases hb1; exact (List.nodup_cons.1 hndF).1) (grownCap_ge _ _ _ _) ?_
        rw [hxe, hye]; exact hrun) h
end
end Go.Abs

/- Contracts: tables of entries; bits and bytes of numbers; the table of short codes, by the program and by the specification. No condition. -/
namespace Go.Proofs.Ytgbahnaejajdgaa
open Go Go.Abs
set_option linter.unusedVariables false
set_option linter.unusedSimpArgs false
set_option maxRecDepth 100000
set_option maxHeartbeats 4000000
attribute [local irreducible] WpA WpL Rnd Blk Abs.Seq Abs.Fin Abs.FinG FnC FnG Only

abbrev Ent := Int × Int
abbrev XE (l : List Ent) : AObj := ⟨rows prF l, 0, 2, some 84⟩
abbrev EnL (l : List Ent) : AV := .imm 2 l.length (rows prF l)
instance eqEnt : EqPr Try.prog 84 := ⟨run_eq_pr Try.underlying84 (by decide) (by decide) rfl rfl Try.underlying3 Try.underlying3 Try.stoodInHeld84, Try.eqGuardType84⟩
instance szEntryS_c : Con 10 (∀ (l : List Ent) (left : Int), l.length ≤ 9223372036854775807 ∧ 0 ≤ left ∧ left ≤ 1048576 → Fn 10 [EnL l, I left] [] (I (max (-1) (left - l.length)))) := ⟨fun l left hl => by
  refine FnC.of_body tabOk Try.func10 Try.ntmps10 rfl (by decide +kernel) (by simp) fun G => ?_
  refine go (r := ?_); and_intros <;> intros <;> try exact True.intro
  all_goals first | omega | trace_state⟩
instance toEntry_c : Con 51 (∀ (a b : Int), Fn 51 [.agg [I a, I b]] [] (.agg [I a, I b])) := ⟨fun a b => by
  refine FnC.of_body tabOk Try.func51 Try.ntmps51 rfl (by decide +kernel) (by simp) fun G => ?_
  refine go (r := ?_); and_intros <;> intros <;> try exact True.intro⟩
instance toEntryS_c : Con 13 (∀ (l : List Ent), l.length ≤ 1099511627776 → Fn 13 [EnL l] [XE l] (.own 0 0 0 l.length)) := ⟨fun l hl => by
  refine FnC.of_body tabOk Try.func13 Try.ntmps13 rfl (by decide +kernel) (by simp) fun G => ?_
  refine go (r := ?_); and_intros <;> intros <;> try exact True.intro
  refine WpA.loop (fun k : Nat => ⟨[(0, EnL l), (3, .own 0 0 0 l.length), (4, I k)], [XE (l.take k ++ List.replicate (l.length - k) (0, 0))]⟩) (fun k => k ≤ l.length) (fun k => l.length - k) 0 (by omega) (go (r := ?_)) (fun k hk => ?_)
  · simp
  refine go (r := ?_); and_intros <;> intros <;> try exact True.intro
  all_goals first | exact fill_def (0, 0) l k (by omega) | ((have : k = l.length := by omega); subst this; simp; done) | trace_state⟩
instance eqEntry_c : Con 58 (∀ (a b c d : Int), Fn 58 [.agg [I a, I b], .agg [I c, I d]] [] (B (decide (a = c ∧ b = d)))) := ⟨fun a b c d => by
  refine FnC.of_body tabOk Try.func58 Try.ntmps58 rfl (by decide +kernel) (by simp) fun G => ?_
  refine go (r := ?_); and_intros <;> intros <;> try exact True.intro
  all_goals first | (simp_all; done) | trace_state⟩
instance eqEntryS_c : Con 17 (∀ xs ys : List Ent, xs.length ≤ 1099511627776 ∧ ys.length ≤ 1099511627776 → Fn 17 [EnL xs, EnL ys] [] (B (decide (xs = ys)))) := ⟨fun xs ys hl => by
  refine FnC.of_body tabOk Try.func17 Try.ntmps17 rfl (by decide +kernel) (by simp) fun G => ?_
  refine go (r := ?_); and_intros <;> intros <;> try exact True.intro
  · simp; intro h; subst h; simp_all
  · refine WpA.loop (fun k : Nat => ⟨[(0, EnL xs), (1, EnL ys), (5, I k)], []⟩) (fun k => k ≤ xs.length ∧ ∀ j < k, xs.getD j default = ys.getD j default) (fun k => xs.length - k) 0 (by simp) (go (r := trivial)) (fun k hk => ?_)
    refine go (r := ?_); and_intros <;> intros <;> try exact True.intro
    · simp; rintro rfl; simp_all
    · rename_i j hj; by_cases h : j = k
      · subst h; apply Prod.ext <;> simp_all
      · exact hk.2 j (by omega)
    · have := eq_all default (xs := xs) (ys := ys) (by omega) (fun j hj => hk.2 j (by omega))
      simp [this]⟩
def markE : Int → List Ent → List Ent
  | _, [] => []
  | k, _ :: l => (k, k + 1) :: markE (k + 2) l
theorem markE_len : ∀ (l : List Ent) (k : Int), (markE k l).length = l.length
  | [], _ => rfl
  | _ :: l, k => by rw [markE, List.length_cons, List.length_cons, markE_len l]
theorem markE_append : ∀ (a b : List Ent) (k : Int), markE k (a ++ b) = markE k a ++ markE (k + 2 * a.length) b
  | [], b, k => by simp [markE]
  | x :: a, b, k => by
    rw [List.cons_append, markE, markE, markE_append a b, List.cons_append]
    congr 3; simp; omega
theorem markE_take (l : List Ent) (i : Nat) (h : i < l.length) (k : Int) : markE k (l.take (i + 1)) = markE k (l.take i) ++ [(k + 2 * i, k + 2 * i + 1)] := by
  rw [take_snoc l i h, markE_append]
  have : (l.take i).length = i := by simp; omega
  rw [this]; rfl
abbrev EnN (l : List Ent) : AObj := ⟨rows prF l, 0, 2, none⟩
instance markEntryS_c : ConG 18 (∀ (l : List Ent) (k : Int), l.length ≤ 1048576 ∧ 0 ≤ k ∧ k ≤ 1073741824 → Gn 18 [.own 0 0 0 l.length, I k] [EnN l] [EnN (markE k l)] [] (I (k + 2 * l.length))) := ⟨fun l k hk => by
  refine FnG.of_bodyF tabOk Try.func18 Try.ntmps18 rfl (by decide +kernel) (by simp) rfl rfl fun G => ?_
  refine go (r := ?_); and_intros <;> intros <;> try exact True.intro
  refine WpA.loop (fun i : Nat => ⟨[(0, .own 0 0 0 l.length), (1, I (k + 2 * i)), (5, I i)], [EnN (markE k (l.take i) ++ l.drop i)]⟩) (fun i => i ≤ l.length) (fun i => l.length - i) 0 (by simp) (go (r := ?_)) (fun i hi => ?_)
  · simp [markE]
  have hml := markE_len (l.take i) k
  have hlt : i ≤ l.length → (l.take i).length = i := fun h => by simp; omega
  have hlen : i ≤ l.length → (markE k (l.take i) ++ l.drop i).length = l.length := fun h => by rw [List.length_append, hml]; simp; omega
  have hget : i < l.length → ∀ v, ((markE k (l.take i) ++ l.drop i).set i v).getD i default = v := fun h v => by simp [hlen (by omega), h]
  refine go (r := ?_); and_intros <;> intros <;> try exact True.intro
  all_goals first | omega | (rw [List.set_set, hget (by omega)]; simp only; rw [set_mid _ _ _ (by rw [hml, hlt (by omega)]) (by omega), markE_take _ _ (by omega)]; done) | ((have e : i = l.length := by omega); subst e; simp; done) | trace_state⟩
end Go.Proofs.Ytgbahnaejajdgaa

/- Contracts: bits and bytes of numbers, the table of short codes, by the program and by the specification. No condition. -/
namespace Go.Proofs.Ytgbahnaejajdgaa
open Go Go.Abs
set_option linter.unusedVariables false
set_option linter.unusedSimpArgs false
set_option maxRecDepth 100000
set_option maxHeartbeats 4000000
attribute [local irreducible] WpA WpL Rnd Blk Abs.Seq Abs.Fin Abs.FinG FnC FnG Only

theorem bit1_01 (y : Int) : bit1 y = 0 ∨ bit1 y = 1 := by have := bit1_bd y; omega
def Bits (l : List Int) : Prop := ∀ x ∈ l, x = 0 ∨ x = 1
instance areBits_c : Con 191 (∀ l : List Int, l.length ≤ 1099511627776 ∧ Bits l → Fn 191 [IL l] [] (B true)) := ⟨fun l hl => by
  refine FnC.of_body tabOk Try.func191 Try.ntmps191 rfl (by decide +kernel) (by simp) fun G => ?_
  refine go (r := ?_); and_intros <;> intros <;> try exact True.intro
  refine WpA.loop (fun k : Nat => ⟨[(5, IL l), (6, I l.length), (7, I k)], []⟩) (fun k => k ≤ l.length) (fun k => l.length - k) 0 (by omega) (go (r := ?_)) (fun k hk => ?_)
  · trivial
  have hb : k < l.length → l.getD k 0 = 0 ∨ l.getD k 0 = 1 := fun h => hl.2 _ (by simp [h])
  refine go (r := ?_); and_intros <;> intros <;> try exact True.intro
  all_goals first | (have := hb (by omega); omega) | trace_state⟩
instance EqualE_c : Con 120 (∀ xs ys : List Ent, xs.length ≤ 1099511627776 ∧ ys.length ≤ 1099511627776 → Fn 120 [EnL xs, EnL ys] [] (B (decide (xs = ys)))) := ⟨fun xs ys hl => by
  refine FnC.of_body tabOk Try.func120 Try.ntmps120 rfl (by decide +kernel) (by simp) fun G => ?_
  refine go (r := ?_); and_intros <;> intros <;> try exact True.intro
  · simp; intro h; subst h; simp_all
  · refine WpA.loop (fun k : Nat => ⟨[(0, EnL xs), (1, EnL ys), (12, I xs.length), (13, I k)], []⟩) (fun k => k ≤ xs.length ∧ ∀ j < k, xs.getD j default = ys.getD j default) (fun k => xs.length - k) 0 (by simp) (go (r := trivial)) (fun k hk => ?_)
    refine go (r := ?_); and_intros <;> intros <;> try exact True.intro
    · refine WpL.prNe rfl rfl (by decide) ?_
      refine go (r := ?_); and_intros <;> intros <;> try exact True.intro
      · simp; rintro rfl; simp_all
      · rename_i j hj; by_cases h : j = k
        · subst h; apply Prod.ext <;> simp_all
        · exact hk.2 j (by omega)
    · have := eq_all default (xs := xs) (ys := ys) (by omega) (fun j hj => hk.2 j (by omega))
      simp [this]⟩
def byB (l : List Int) : Nat → List Int
  | 0 => List.replicate (l.length / 8) 0
  | k + 1 => (byB l k).set (k / 8) (IntKind.u8.wrap ((BitVec.ofInt IntKind.u8.bits ((byB l k).getD (k / 8) 0) ||| BitVec.ofInt IntKind.u8.bits (IntKind.u8.wrap (IntKind.i64.wrap (l.getD k 0 * 2 ^ (7 - k % 8))))).toNat : Nat))
theorem byB_len (l : List Int) : ∀ k, (byB l k).length = l.length / 8
  | 0 => by simp [byB]
  | k + 1 => by rw [byB, List.length_set, byB_len l k]
def strB (l : List Int) : List UInt8 := (byB l l.length).map fun n : Int => UInt8.ofNat n.toNat
instance BytesOf_c : Con 169 (∀ l : List Int, l.length ≤ 1099511627776 ∧ Bits l ∧ l.length % 8 = 0 → Fn 169 [IL l] [] (.tup [Z (strB l), B true])) := ⟨fun l hl => by
  refine FnC.of_body tabOk Try.func169 Try.ntmps169 rfl (by decide +kernel) (by simp) fun G => ?_
  refine go (r := ?_); and_intros <;> intros <;> try exact True.intro
  all_goals first | exact hl.2.1 | exact hl.2.1 _ (by assumption) | omega | skip
  refine WpA.loop (fun k : Nat => ⟨[(4, .own 0 0 0 (l.length / 8)), (20, IL l), (21, I l.length), (22, I k)], [⟨u8s (byB l k), 0, 1, some 5⟩]⟩) (fun k => k ≤ l.length) (fun k => l.length - k) 0 (by omega) (go (r := ?_)) (fun k hk => ?_)
  · and_intros <;> first | exact True.intro | rfl | trace_state
  have hb : k < l.length → l.getD k 0 = 0 ∨ l.getD k 0 = 1 := fun h => hl.2.1 _ (by simp [h])
  have hln := byB_len l k
  refine go (r := ?_); and_intros <;> intros <;> try exact True.intro
  · rw [show ((k : Int) / 8).toNat = k / 8 by omega, show (7 - (k : Int) % 8).toNat = 7 - k % 8 by omega]; rfl
  · obtain rfl : k = l.length := by omega
    refine K.cv ?_
    refine WpL.ofBytes tabOk rfl rfl rfl rfl rfl (by simp [u8s, hln]) (by decide) ?_
    refine go (r := ?_); and_intros <;> intros <;> try exact True.intro
    all_goals trace_state⟩
end Go.Proofs.Ytgbahnaejajdgaa

/- Contracts: the table of short codes by the program and by the specification. No condition. -/
namespace Go.Abs
open Go
section
variable {P : Program} {n m : Nat} {G : Ctx} {T : List (Nat × AV)} {O : List AObj} {Q : Exit → St → Prop} {ops : Array Oper} {l : List Oper} {d : Nat} {tt : TypeId} {pos : String} {after : Array Edge} {tab : List (Nat × Ty)}
theorem WpL.appIntsZ (hP : TabOk P tab) {t u e b c : Nat} {kn : IntKind} {x y : Operand} {id ep len : Nat} {xs : List Int} (ht : tlook tab t = some (.slice e 1 b [I 0])) (hut : tlook tab u = some (.int kn)) (hx : av T x = .own id ep 0 len)
    (ho : O[id]? = some ⟨ints xs, ep, 1, some e⟩) (hlen : xs.length = len) (hm : m ≤ id) (hy : av T y = .sc (.int .i64 c)) (hc0 : 0 < c)
    (hb : (len + c) * b ≤ 140737488355328 ∧ len + c ≤ 9223372036854775807) (hn : d < n)
    (h : WpL P n m G false ops l ⟨(d, .own id (ep + 1) 0 (len + c)) :: T, O.set id ⟨ints (xs ++ List.replicate c 0), ep + 1, 1, some e⟩⟩ Q) :
    WpL P n m G false ops ({ dst := some d, op := .call { callee := .builtin .append, args := #[x, y], argTypes := #[t, u] }, type := tt, pos := pos, after := after, guard := none } :: l) ⟨T, O⟩ Q :=
  WpL.appOwnZ hP ht hut hx ho rfl rfl rfl (by simp [ints, hlen]) hm hy hc0 hb hn (by
    rw [show ints xs ++ ints (List.replicate c 0) = ints (xs ++ List.replicate c 0) from by simp [ints]]; exact h)
end
end Go.Abs
namespace Go.Proofs.Ytgbahnaejajdgaa
open Go Go.Abs
set_option linter.unusedVariables false
set_option linter.unusedSimpArgs false
set_option maxRecDepth 100000
set_option maxHeartbeats 4000000
attribute [local irreducible] WpA WpL Rnd Blk Abs.Seq Abs.Fin Abs.FinG FnC FnG Only

def ueStr (i : Nat) : List UInt8 := strB (bitsL i 9 ++ List.replicate 7 0)
def ueE (i : Nat) : Ent := if ueC (ueStr i) 0 = 0 ∧ ueA (ueStr i) 0 ≤ 9 then (ueA (ueStr i) 0, ueV (ueStr i) 0) else (0, 0)
def ueTab : List Ent := (List.range 512).map ueE
def usz (n : Nat) : Nat := 2 * Nat.log2 (n + 1) + 1
def fillI (n : Nat) (t : List Ent) : Nat → List Ent
  | 0 => t
  | k + 1 => (fillI n t k).set ((n + 1) * 2 ^ (9 - usz n) + k) ((usz n : Nat), n)
def tabS : Nat → List Ent
  | 0 => List.replicate 512 (0, 0)
  | n + 1 => fillI n (tabS n) (2 ^ (9 - usz n))
theorem tab_eq : tabS 31 = ueTab := by decide +kernel
theorem ueTab_len : ueTab.length = 512 := by simp [ueTab]
theorem bit16 {i : Nat} (h : i < 512) : Bits (bitsL i 9 ++ List.replicate 7 0) ∧ (bitsL i 9).length = 9 := by
  have hq : (i : Int) / 2 ^ (9 : Int).toNat = 0 := Int.ediv_eq_zero_of_lt (by omega) (show (i : Int) < 512 by omega)
  have e : bitsL i 9 = bitsR i 9 9 := by rw [bitsL, if_pos ⟨by decide, by omega, hq⟩]; rfl
  rw [e]
  refine ⟨fun x hx => ?_, bitsR_len _ _ _⟩
  rcases List.mem_append.1 hx with hx | hx
  · obtain ⟨j, _, rfl⟩ := List.mem_map.1 hx; omega
  · rw [List.eq_of_mem_replicate hx]; exact .inl rfl
theorem strB_len (l : List Int) : (strB l).length = l.length / 8 := by rw [strB, List.length_map, byB_len]
theorem fillT {k : Nat} (h : k < 512) {v : Ent} (hv : v = ueE k) : ((List.range k).map ueE ++ List.replicate (512 - k) (0, 0)).set k v = (List.range (k + 1)).map ueE ++ List.replicate (512 - (k + 1)) (0, 0) := by
  subst hv
  obtain ⟨r, hr⟩ : ∃ r, 512 - k = r + 1 := ⟨511 - k, by omega⟩
  rw [hr, show 512 - (k + 1) = r by omega, List.replicate_succ, List.set_append_right _ _ (by simp), List.length_map, List.length_range, Nat.sub_self, List.set_cons_zero, List.range_succ, List.map_append]
  simp
theorem fillN {k : Nat} (h : k < 512) (hv : ueE k = (0, 0)) : (List.range k).map ueE ++ List.replicate (512 - k) (0, 0) = (List.range (k + 1)).map ueE ++ List.replicate (512 - (k + 1)) (0, 0) := by
  obtain ⟨r, hr⟩ : ∃ r, 512 - k = r + 1 := ⟨511 - k, by omega⟩
  rw [hr, show 512 - (k + 1) = r by omega, List.replicate_succ, List.range_succ, List.map_append]
  simp [hv]
section
attribute [local irreducible] ueC ueA ueV strB bitsL
instance UeTable_c : Con 121 (Fn 121 [] [XE ueTab] (.own 0 0 0 512)) := ⟨by
  refine FnC.of_body tabOk Try.func121 Try.ntmps121 rfl (by decide +kernel) (by simp) fun G => ?_
  refine go (r := ?_); and_intros <;> intros <;> try exact True.intro
  refine WpA.loop (fun k : Nat => ⟨[(1, .own 0 0 0 512), (10, I 512), (11, I k)], [XE ((List.range k).map ueE ++ List.replicate (512 - k) (0, 0))]⟩) (fun k => k ≤ 512) (fun k => 512 - k) 0 (by omega) (go (r := ?_)) (fun k hk => ?_)
  · and_intros <;> first | exact True.intro | rfl | trace_state
  have hb := fun h => bit16 (i := k) h
  refine go (r := ?_); and_intros <;> intros <;> try exact True.intro
  · have hb := hb (by omega)
    refine K.bi ?_
    refine WpL.appIntsZ (c := 7) tabOk rfl rfl rfl rfl rfl (Nat.zero_le _) rfl (by decide) (by omega) (by decide) ?_
    have hlen : (bitsL k 9 ++ List.replicate 7 0).length = 16 := by rw [List.length_append, hb.2]; rfl
    have hsl := strB_len (bitsL k 9 ++ List.replicate 7 0)
    have hln : ((List.range k).map ueE ++ List.replicate (512 - k) (0, 0)).length = 512 := by simp; omega
    refine go (r := ?_); and_intros <;> intros <;> try exact True.intro
    all_goals first | exact hb.1 _ (by assumption) | omega | (rw [hsl, hlen]; decide) | (refine fillT (by omega) ?_; rw [ueE, ueStr, if_pos ⟨by assumption, by assumption⟩]; done) | (refine fillN (by omega) ?_; rw [ueE, ueStr, if_neg (fun hh => absurd hh.2 (by assumption))]; done) | (refine fillN (by omega) ?_; rw [ueE, ueStr, if_neg (fun hh => absurd hh.1 (by assumption))]; done) | trace_state
  · obtain rfl : k = 512 := by omega
    rw [Nat.sub_self, List.replicate_zero, List.append_nil]; rfl⟩
instance UeSize_s : Con 164 (∀ n : Nat, n ≤ 65534 → Fn 164 [I n] [] (I (usz n : Nat))) := ⟨fun n hn => by
  have h16 := lg_16 (x := n + 1) (by omega) (by omega)
  unfold usz
  refine FnC.of_body tabOk Try.func164 Try.ntmps164 rfl (by decide +kernel) (by simp) fun G => ?_
  refine go (r := ?_); and_intros <;> intros <;> try exact True.intro
  all_goals first | omega | trace_state⟩
theorem usz_tab : ∀ n < 31, usz n ≤ 9 ∧ (n + 2) * 2 ^ (9 - usz n) ≤ 512 := by decide +kernel
theorem usz_31 : usz 31 = 11 := by decide +kernel
theorem fillI_len (n : Nat) (t : List Ent) : ∀ k, (fillI n t k).length = t.length
  | 0 => rfl
  | k + 1 => by rw [fillI, List.length_set, fillI_len n t k]
theorem tabS_len : ∀ n, (tabS n).length = 512
  | 0 => by simp [tabS]
  | n + 1 => by rw [tabS, fillI_len, tabS_len n]
attribute [local irreducible] usz
instance UeTable_s : Con 113 (Fn 113 [] [XE ueTab] (.own 0 0 0 512)) := ⟨by
  refine FnC.of_body tabOk Try.func113 Try.ntmps113 rfl (by decide +kernel) (by simp) fun G => ?_
  refine go (r := ?_); and_intros <;> intros <;> try exact True.intro
  refine WpA.loop (fun n : Nat => ⟨[(1, .own 0 0 0 512), (2, I n)], [XE (tabS n)]⟩) (fun n => n ≤ 31) (fun n => 31 - n) 0 (by omega) (go (r := ?_)) (fun n hn => ?_)
  · and_intros <;> first | exact True.intro | rfl | trace_state
  by_cases h31 : n < 31
  · have ht := usz_tab n h31
    have hl := tabS_len n
    have hl2 := fillI_len n (tabS n)
    obtain ⟨X, hX⟩ : ∃ X, X = 2 ^ (9 - usz n) := ⟨_, rfl⟩
    obtain ⟨A, hA⟩ : ∃ A, A = (n + 1) * 2 ^ (9 - usz n) := ⟨_, rfl⟩
    have hAX : A + X ≤ 512 := by
      have e : (n + 2) * 2 ^ (9 - usz n) = (n + 1) * 2 ^ (9 - usz n) + 2 ^ (9 - usz n) := Nat.succ_mul (n + 1) _
      omega
    have eA : IntKind.i64.wrap (((n : Int) + 1) * 2 ^ (9 - (usz n : Int)).toNat) = (A : Int) := by
      rw [show (9 - (usz n : Int)).toNat = 9 - usz n by omega, show ((n : Int) + 1) * 2 ^ (9 - usz n) = (((n + 1) * 2 ^ (9 - usz n) : Nat) : Int) by push_cast; rfl, ← hA]
      exact wrap64 _ (by omega)
    have eX : IntKind.i64.wrap (1 * 2 ^ (9 - (usz n : Int)).toNat) = (X : Int) := by
      rw [show (9 - (usz n : Int)).toNat = 9 - usz n by omega, show (1 : Int) * 2 ^ (9 - usz n) = ((2 ^ (9 - usz n) : Nat) : Int) by push_cast; omega, ← hX]
      exact wrap64 _ (by omega)
    have hts : tabS (n + 1) = fillI n (tabS n) X := by rw [tabS, ← hX]
    have hfs : ∀ k, fillI n (tabS n) (k + 1) = (fillI n (tabS n) k).set (A + k) ((usz n : Nat), n) := fun k => by rw [fillI, ← hA]
    refine go (r := ?_); and_intros <;> intros <;> try exact True.intro
    rw [eA]
    refine WpA.loop (fun k : Nat => ⟨[(1, .own 0 0 0 512), (2, I n), (3, I (9 - (usz n : Int))), (4, I A), (5, I k)], [XE (fillI n (tabS n) k)]⟩) (fun k => k ≤ X) (fun k => X - k) 0 (by omega) (go (r := ?_)) (fun k hk => ?_)
    · and_intros <;> first | exact True.intro | rfl | trace_state
    have hfs := hfs k
    have hl2 := hl2 k
    refine go (r := ?_); and_intros <;> intros <;> try exact True.intro
    all_goals first | (rw [hfs]; done) | (rename_i hg; rw [eX] at hg; rw [hts, show k = X by omega]; done) | trace_state
  · obtain rfl : n = 31 := by omega
    have h31' := usz_31
    refine go (r := ?_); and_intros <;> intros <;> try exact True.intro
    exact tab_eq⟩
end
end Go.Proofs.Ytgbahnaejajdgaa

/- Contracts: the check of tables, levels out of a cache; the law FnExactFastLevels. No condition. -/
namespace Go.Proofs.Ytgbahnaejajdgaa
open Go Go.Abs
set_option linter.unusedVariables false
set_option linter.unusedSimpArgs false
set_option maxRecDepth 100000
set_option maxHeartbeats 4000000
attribute [local irreducible] WpA WpL Rnd Blk Abs.Seq Abs.Fin Abs.FinG FnC FnG Only

attribute [local irreducible] ueTab
instance TableOk_c : Con 53 (∀ t : List Ent, t.length ≤ 1099511627776 → Fn 53 [EnL t] [] (B (decide (t = ueTab)))) := ⟨fun t hl => by
  have h5 := ueTab_len
  refine FnC.of_body tabOk Try.func53 Try.ntmps53 rfl (by decide +kernel) (by simp) fun G => ?_
  refine go (r := ?_); and_intros <;> intros <;> try exact True.intro
  all_goals first | omega | trace_state⟩
instance TableOk_s : Con 46 (∀ t : List Ent, t.length ≤ 1099511627776 → Fn 46 [EnL t] [] (B (decide (t = ueTab)))) := ⟨fun t hl => by
  have h5 := ueTab_len
  refine FnC.of_body tabOk Try.func46 Try.ntmps46 rfl (by decide +kernel) (by simp) fun G => ?_
  refine go (r := ?_); and_intros <;> intros <;> try exact True.intro
  refine WpA.loop (fun k : Nat => ⟨[(0, EnL t), (3, .own 0 0 0 512), (4, I k)], [XE ueTab]⟩) (fun k => k ≤ t.length ∧ k ≤ 512 ∧ ∀ j < k, t.getD j default = ueTab.getD j default) (fun k => t.length - k) 0 (by simp) (go (r := ?_)) (fun k hk => ?_)
  · trivial
  have hend : (k = t.length ∨ k = 512) → decide ((t.length : Int) = (512 : Nat)) = decide (t = ueTab) := by
    intro h
    by_cases hlen : t.length = 512
    · have e := eq_all default (xs := t) (ys := ueTab) (by omega) (fun j hj => hk.2.2 j (by omega))
      simp [e, h5]
    · have e : t ≠ ueTab := by rintro rfl; exact hlen h5
      rw [decide_eq_false e, decide_eq_false (by omega)]
  refine go (r := ?_); and_intros <;> intros <;> try exact True.intro
  · refine WpL.prNe rfl rfl (by decide) ?_
    refine go (r := ?_); and_intros <;> intros <;> try exact True.intro
    · simp; rintro rfl; simp_all
    · rename_i j hj; by_cases h : j = k
      · subst h; apply Prod.ext <;> simp_all
      · exact hk.2.2 j (by omega)
  all_goals exact hend (by omega)⟩

/-! Levels out of a cache. -/
abbrev FlOk (p : List UInt8) (s w h n : Int) (t : List Ent) : Prop := CaOk p s w h ∧ t = ueTab ∧ (n = 4 ∨ n = 8)
structure FlS where
  s : Int
  w : Int
  h : Int
  l : List Int
  c : Int
def flS (p : List UInt8) (s w h n : Int) (t : List Ent) : FlS :=
  if FlOk p s w h n t then
    let x := lvS p (plA p s w h) n
    let y : Int := (x.a + 7) / 8
    ⟨y, numB p x.a (8 * y - x.a).toNat, 8 * y - x.a, if x.c = 0 then x.out else [], x.c⟩
  else ⟨s, w, h, [], 5⟩
theorem flS_no {p : List UInt8} {s w h n : Int} {t : List Ent} (hf : ¬ FlOk p s w h n t) : flS p s w h n t = ⟨s, w, h, [], 5⟩ := if_neg hf
theorem flS_yes {p : List UInt8} {s w h n : Int} {t : List Ent} (hf : FlOk p s w h n t) : flS p s w h n t = ⟨((lvS p (plA p s w h) n).a + 7) / 8, numB p (lvS p (plA p s w h) n).a (8 * (((lvS p (plA p s w h) n).a + 7) / 8) - (lvS p (plA p s w h) n).a).toNat, 8 * (((lvS p (plA p s w h) n).a + 7) / 8) - (lvS p (plA p s w h) n).a, if (lvS p (plA p s w h) n).c = 0 then (lvS p (plA p s w h) n).out else [], (lvS p (plA p s w h) n).c⟩ := if_pos hf
theorem ca_rd {p : List UInt8} {s w h : Int} (hc : CaOk p s w h) : RdOk p (8 * s - h) := by have := hc.1; have := hc.2.1; constructor <;> omega
theorem plA_yes {p : List UInt8} {s w h : Int} (hc : CaOk p s w h) : plA p s w h = 8 * s - h := if_pos hc
abbrev FlV (x : FlS) (p : List UInt8) : AV := .tup [CA p x.s x.w x.h, .own 0 0 0 x.l.length, I x.c]
section
attribute [local irreducible] lvS numB
instance FastLevels_s : Con 11 (∀ (p : List UInt8) (s w h n : Int) (t : List Ent), p.length ≤ 1099511627776 ∧ t.length ≤ 1099511627776 → Fn 11 [CA p s w h, I n, EnL t] [XI (flS p s w h n t).l] (FlV (flS p s w h n t) p)) := ⟨fun p s w h n t hl => by
  refine FnC.of_body tabOk Try.func11 Try.ntmps11 rfl (by decide +kernel) (by simp) fun G => ?_
  by_cases hf : FlOk p s w h n t
  · have hc := hf.1
    have h2 := hf.2.1
    have h3 := hf.2.2
    have hr : RdOk p (plA p s w h) := by rw [plA_yes hc]; exact ca_rd hc
    have hok := lvS_ok (n := n) hr
    rw [flS_yes hf]
    by_cases h0 : (lvS p (plA p s w h) n).c = 0
    · rw [if_pos h0]
      refine go (r := ?_); and_intros <;> intros <;> try exact True.intro
      all_goals first | contradiction | exact hok.1 | exact hok.2 | trace_state
    · rw [if_neg h0]
      refine go (r := ?_); and_intros <;> intros <;> try exact True.intro
      all_goals first | contradiction | exact hok.1 | exact hok.2 | trace_state
  · rw [flS_no hf]
    refine go (r := ?_); and_intros <;> intros <;> try exact True.intro
    all_goals first | contradiction | (exact absurd ⟨by assumption, by assumption, by assumption⟩ hf) | trace_state⟩
instance FastLevels_c : Con 14 (∀ (p : List UInt8) (s w h n : Int) (t : List Ent), p.length ≤ 1099511627776 ∧ t.length ≤ 1099511627776 → Fn 14 [CA p s w h, I n, EnL t] [XI (flS p s w h n t).l] (FlV (flS p s w h n t) p)) := ⟨fun p s w h n t hl => by
  refine FnC.of_body tabOk Try.func14 Try.ntmps14 rfl (by decide +kernel) (by simp) fun G => ?_
  by_cases hf : FlOk p s w h n t
  · have hc := hf.1
    have h2 := hf.2.1
    have h3 := hf.2.2
    have hr : RdOk p (plA p s w h) := by rw [plA_yes hc]; exact ca_rd hc
    have hok := lvS_ok (n := n) hr
    rw [flS_yes hf]
    refine go (r := ?_); and_intros <;> intros <;> try exact True.intro
    refine K.call ?_
    refine WpL.callM (hs := [2]) (flv_c p (plA p s w h) n hl.1 h3) handA handOA rfl rfl (.cons rfl (.sc (.sc (.sc .nil))) .nil) outA rfl rfl rfl rfl (by decide) ?_
    refine WpL.weak (σ' := ⟨[(3, .ptr 0 0 0), (6, .ptr 1 0 0), (9, .ptr 2 0 0), (34, .own 3 0 0 (lvS p (plA p s w h) n).out.length)], [⟨[Z p, I s, I w, I h], 0, 0, none⟩, ⟨[Z [], I 0, I 0, I 0], 0, 0, none⟩, FldO p (lvS p (plA p s w h) n).a (lvS p (plA p s w h) n).c, XI (lvS p (plA p s w h) n).out]⟩) (Weak.mk (by repeat (first | exact ReT.nil | refine ReT.cons (.keep rfl rfl .nil) ?_ | refine ReT.cons (.own rfl rfl rfl rfl rfl rfl .nil) ?_ | refine ReT.cons (.ptr rfl rfl rfl rfl .nil) ?_ | refine ReT.cons (.keep (congrArg (fun z => AV.sc (Value.int .i64 z)) (by first | omega | (skip))) rfl .nil) ?_ | refine ReT.cons (.keep (congrArg (fun z : List UInt8 => AV.sc (Value.string ⟨z.toArray⟩)) (by skip)) rfl .nil) ?_ | refine ReT.cons (.own rfl rfl rfl rfl rfl (by first | omega | (simp; done) | (simp; omega)) .nil) ?_)) (by repeat (first | exact ReO.nil | refine ReO.cons (Re.same rfl (still_ints _)) (by simp) ?_ | refine ReO.cons (Re.same rfl rfl) (by simp) ?_)) (Nat.zero_le _)) ?_
    by_cases h0 : (lvS p (plA p s w h) n).c = 0
    · rw [if_pos h0]
      refine go (r := ?_); and_intros <;> intros <;> try exact True.intro
      all_goals first | contradiction | exact hok.1 | exact hok.2 | trace_state
    · rw [if_neg h0]
      refine go (r := ?_); and_intros <;> intros <;> try exact True.intro
      all_goals first | contradiction | exact hok.1 | exact hok.2 | trace_state
  · rw [flS_no hf]
    refine go (r := ?_); and_intros <;> intros <;> try exact True.intro
    all_goals first | contradiction | (exact absurd ⟨by assumption, by assumption, by assumption⟩ hf) | trace_state⟩
end
section
attribute [local irreducible] flS
theorem flS_len (p : List UInt8) (s w h n : Int) (t : List Ent) : (flS p s w h n t).l.length ≤ 64 := by
  by_cases hf : FlOk p s w h n t
  · rw [flS_yes hf]
    have h2 := lvS_len p (plA p s w h) n
    show (if _ then _ else ([] : List Int)).length ≤ 64
    split
    · rw [h2]; rcases hf.2.2 with rfl | rfl <;> decide
    · exact Nat.zero_le _
  · rw [flS_no hf]; exact Nat.zero_le _
theorem FnExactFastLevels_c : ∀ (p : List UInt8) (s w h n : Int) (t : List Ent), p.length ≤ 9223372036854775807 ∧ t.length ≤ 9223372036854775807 → Fn 3 [CA p s w h, I n, EnL t] [] (B true) := fun p s w h n t hl => by
  have hln := flS_len p s w h n t
  have hme := markE_len t 1
  refine FnC.of_body tabOk Try.func3 Try.ntmps3 rfl (by decide +kernel) (by simp) fun G => ?_
  refine go (r := ?_); and_intros <;> intros <;> try exact True.intro
  all_goals first | contradiction | omega | (rw [marksI_len, if_pos rfl]; done) | (rename_i hg; rw [marksI_len, if_pos rfl] at hg; omega) | (rename_i hg; simp at hg; done) | trace_state
end
end Go.Proofs.Ytgbahnaejajdgaa

/- What a value that came in is, further: options, headers, blocks, streams, neighbours, caches, entries, bytes. No condition. -/
namespace Go.Proofs.Ytgbahnaejajdgaa
open Go Go.Abs Go.RowKit
set_option linter.unusedVariables false

theorem rdN_rows {sp : Sp} {k : Nat} {α : Type} {f : α → List AV} {C : α → Prop} (inv : ∀ ds, Rd sp ds → ∃ a, ds = f a ∧ C a) {n : Nat} {cs : List AV} (h : RdN sp n k cs) : ∃ l : List α, cs = rows f l ∧ l.length = n ∧ ∀ a ∈ l, C a := by
  induction n generalizing cs with
  | zero => cases h; exact ⟨[], rfl, rfl, by simp⟩
  | succ n ih =>
    cases h with
    | snoc h1 h2 h3 =>
      obtain ⟨l, rfl, h5, h6⟩ := ih h1
      obtain ⟨a, rfl, ha⟩ := inv _ h2
      refine ⟨l ++ [a], by rw [rows_append, rows_one], by simp [h5], fun x hx => ?_⟩
      rcases List.mem_append.1 hx with hx | hx
      · exact h6 x hx
      · have : x = a := by simpa using hx
        subst this; exact ha
theorem rd_rows {sp : Sp} {k : Nat} {α : Type} {f : α → List AV} {C : α → Prop} (inv : ∀ ds, Rd sp ds → ∃ a, ds = f a ∧ C a) {ds : List AV} (h : Rd (.slice k sp) ds) : ∃ l : List α, ds = [.imm k l.length (rows f l)] ∧ l.length ≤ 9223372036854775807 ∧ ∀ a ∈ l, C a := by
  cases h with
  | slice hl hn =>
    obtain ⟨l, rfl, h1, h2⟩ := rdN_rows inv hn
    subst h1
    exact ⟨l, rfl, by simp only [maxLen] at hl; omega, h2⟩

@[irreducible] def WfI (l : List Int) : Prop := ∀ x ∈ l, i64 x
theorem wfI_get {l : List Int} (h : WfI l) {k : Nat} (hk : k < l.length) : i64 (l.getD k 0) := by
  unfold WfI at h; exact h _ (by simp [hk])
theorem wfI_of {l : List Int} (h : ∀ x ∈ l, i64 x) : WfI l := by unfold WfI; exact h
abbrev spBs : Sp := .slice 1 .bool
abbrev spBk : Sp := .struct [spI, spIs]
abbrev spMb : Sp := .struct [.bool, .slice 2 spBk]
abbrev spHd : Sp := .struct [spI, spI, spI, .bool, .bool, spIs]
theorem rd_options {ds : List AV} (h : Rd (.struct [spI, .bool, .bool, spIs, spIs, spBs]) ds) : ∃ (q : Int) (b d : Bool) (l m : List Int) (e : List Bool), ds = [I q, B b, B d, IL l, IL m, BL e] ∧ i64 q ∧ l.length ≤ 9223372036854775807 ∧ WfI l ∧ m.length ≤ 9223372036854775807 ∧ WfI m ∧ e.length ≤ 9223372036854775807 := by
  obtain ⟨_, _, rfl, h1, h⟩ := rdF_cons (rd_struct h)
  obtain ⟨_, _, rfl, h2, h⟩ := rdF_cons h
  obtain ⟨_, _, rfl, h3, h⟩ := rdF_cons h
  obtain ⟨_, _, rfl, h4, h⟩ := rdF_cons h
  obtain ⟨_, _, rfl, h5, h⟩ := rdF_cons h
  obtain ⟨_, _, rfl, h6, h⟩ := rdF_cons h
  obtain rfl := rdF_nil h
  obtain ⟨q, rfl, a1⟩ := rd_int h1
  obtain ⟨b, rfl⟩ := rd_bool h2
  obtain ⟨d, rfl⟩ := rd_bool h3
  obtain ⟨l, rfl, a2, a3⟩ := rd_ints h4
  obtain ⟨m, rfl, a4, a5⟩ := rd_ints h5
  obtain ⟨e, rfl, a6⟩ := rd_bools h6
  exact ⟨q, b, d, l, m, e, rfl, a1, a2, wfI_of a3, a4, wfI_of a5, a6⟩
theorem rd_headF {ds : List AV} (h : Rd spHd ds) : ∃ (w hh q : Int) (b d : Bool) (l : List Int), ds = [I w, I hh, I q, B b, B d, IL l] ∧ i64 w ∧ i64 hh ∧ i64 q ∧ l.length ≤ 9223372036854775807 ∧ WfI l := by
  obtain ⟨_, _, rfl, h1, h⟩ := rdF_cons (rd_struct h)
  obtain ⟨_, _, rfl, h2, h⟩ := rdF_cons h
  obtain ⟨_, _, rfl, h3, h⟩ := rdF_cons h
  obtain ⟨_, _, rfl, h4, h⟩ := rdF_cons h
  obtain ⟨_, _, rfl, h5, h⟩ := rdF_cons h
  obtain ⟨_, _, rfl, h6, h⟩ := rdF_cons h
  obtain rfl := rdF_nil h
  obtain ⟨w, rfl, a1⟩ := rd_int h1
  obtain ⟨hh, rfl, a2⟩ := rd_int h2
  obtain ⟨q, rfl, a3⟩ := rd_int h3
  obtain ⟨b, rfl⟩ := rd_bool h4
  obtain ⟨d, rfl⟩ := rd_bool h5
  obtain ⟨l, rfl, a4, a5⟩ := rd_ints h6
  exact ⟨w, hh, q, b, d, l, rfl, a1, a2, a3, a4, wfI_of a5⟩
theorem rd_header {ds : List AV} (h : Rd spHd ds) : ∃ (w hh q : Int) (b d : Bool) (l : List Int), ds = [I w, I hh, I q, B b, B d, IL l] ∧ i64 w ∧ i64 hh ∧ i64 q ∧ l.length ≤ 9223372036854775807 ∧ WfI l := rd_headF h
def CBk (b : Blok) : Prop := b.2.length ≤ 9223372036854775807 ∧ i64 b.1 ∧ WfI b.2
theorem rd_bk (ds : List AV) (h : Rd spBk ds) : ∃ b : Blok, ds = blkI b ∧ CBk b := by
  obtain ⟨_, _, rfl, h1, h⟩ := rdF_cons (rd_struct h)
  obtain ⟨_, _, rfl, h2, h⟩ := rdF_cons h
  obtain rfl := rdF_nil h
  obtain ⟨m, rfl, a1⟩ := rd_int h1
  obtain ⟨l, rfl, a2, a3⟩ := rd_ints h2
  exact ⟨(m, l), rfl, a2, a1, wfI_of a3⟩
theorem rd_block {ds : List AV} (h : Rd spBk ds) : ∃ (m : Int) (l : List Int), ds = [I m, IL l] ∧ i64 m ∧ l.length ≤ 9223372036854775807 ∧ WfI l := by
  obtain ⟨b, rfl, h1, h2, h3⟩ := rd_bk _ h
  exact ⟨b.1, b.2, rfl, h2, h1, h3⟩
def CMb (m : Mbk) : Prop := m.2.length ≤ 9223372036854775807 ∧ ∀ b ∈ m.2, CBk b
theorem rd_mb (ds : List AV) (h : Rd spMb ds) : ∃ m : Mbk, ds = mbI m ∧ CMb m := by
  obtain ⟨_, _, rfl, h1, h⟩ := rdF_cons (rd_struct h)
  obtain ⟨_, _, rfl, h2, h⟩ := rdF_cons h
  obtain rfl := rdF_nil h
  obtain ⟨e, rfl⟩ := rd_bool h1
  obtain ⟨l, rfl, a2, a3⟩ := rd_rows rd_bk h2
  exact ⟨(e, l), rfl, a2, a3⟩
@[irreducible] def WfM (M : List Mbk) : Prop := ∀ m ∈ M, ∀ b ∈ m.2, i64 b.1 ∧ WfI b.2
theorem rd_stream {ds : List AV} (h : Rd (.struct [spHd, .slice 2 spMb]) ds) : ∃ (w hh q : Int) (b d : Bool) (l : List Int) (M : List Mbk), ds = [I w, I hh, I q, B b, B d, IL l, .imm 2 M.length (rows mbI M)] ∧ i64 w ∧ i64 hh ∧ i64 q ∧ l.length ≤ 9223372036854775807 ∧ WfI l ∧ M.length ≤ 9223372036854775807 ∧ SmM 9223372036854775807 M ∧ WfM M := by
  obtain ⟨_, _, rfl, h1, h⟩ := rdF_cons (rd_struct h)
  obtain ⟨_, _, rfl, h2, h⟩ := rdF_cons h
  obtain rfl := rdF_nil h
  obtain ⟨w, hh, q, b, d, l, rfl, a1, a2, a3, a4, a5⟩ := rd_headF h1
  obtain ⟨M, rfl, b1, b2⟩ := rd_rows rd_mb h2
  refine ⟨w, hh, q, b, d, l, M, rfl, a1, a2, a3, a4, a5, b1, ?_, ?_⟩
  · unfold SmM; intro m hm; exact ⟨(b2 m hm).1, by unfold SmB; intro x hx; exact ((b2 m hm).2 x hx).1⟩
  · unfold WfM; intro m hm x hx; exact ((b2 m hm).2 x hx).2
theorem rd_nb {ds : List AV} (h : Rd (.struct [spIs, spIs, spI, .bool, .bool]) ds) : ∃ (t l : List Int) (c : Int) (a b : Bool), ds = [IL t, IL l, I c, B a, B b] ∧ t.length ≤ 9223372036854775807 ∧ WfI t ∧ l.length ≤ 9223372036854775807 ∧ WfI l ∧ i64 c := by
  obtain ⟨_, _, rfl, h1, h⟩ := rdF_cons (rd_struct h)
  obtain ⟨_, _, rfl, h2, h⟩ := rdF_cons h
  obtain ⟨_, _, rfl, h3, h⟩ := rdF_cons h
  obtain ⟨_, _, rfl, h4, h⟩ := rdF_cons h
  obtain ⟨_, _, rfl, h5, h⟩ := rdF_cons h
  obtain rfl := rdF_nil h
  obtain ⟨t, rfl, a1, a2⟩ := rd_ints h1
  obtain ⟨l, rfl, a3, a4⟩ := rd_ints h2
  obtain ⟨c, rfl, a5⟩ := rd_int h3
  obtain ⟨a, rfl⟩ := rd_bool h4
  obtain ⟨b, rfl⟩ := rd_bool h5
  exact ⟨t, l, c, a, b, rfl, a1, wfI_of a2, a3, wfI_of a4, a5⟩
theorem rd_cache {ds : List AV} (h : Rd (.struct [.str, spI, spI, spI]) ds) : ∃ (s : List UInt8) (p w v : Int), ds = [Z s, I p, I w, I v] ∧ s.length ≤ 9223372036854775807 ∧ i64 p ∧ i64 w ∧ i64 v := by
  obtain ⟨_, _, rfl, h1, h⟩ := rdF_cons (rd_struct h)
  obtain ⟨_, _, rfl, h2, h⟩ := rdF_cons h
  obtain ⟨_, _, rfl, h3, h⟩ := rdF_cons h
  obtain ⟨_, _, rfl, h4, h⟩ := rdF_cons h
  obtain rfl := rdF_nil h
  obtain ⟨s, rfl, a1⟩ := rd_str h1
  obtain ⟨p, rfl, a2⟩ := rd_int h2
  obtain ⟨w, rfl, a3⟩ := rd_int h3
  obtain ⟨v, rfl, a4⟩ := rd_int h4
  exact ⟨s, p, w, v, rfl, a1, a2, a3, a4⟩
def CPr (a : Int × Int) : Prop := i64 a.1 ∧ i64 a.2
theorem rd_pr (ds : List AV) (h : Rd (.struct [spI, spI]) ds) : ∃ a : Int × Int, ds = prF a ∧ CPr a := by
  obtain ⟨_, _, rfl, h1, h⟩ := rdF_cons (rd_struct h)
  obtain ⟨_, _, rfl, h2, h⟩ := rdF_cons h
  obtain rfl := rdF_nil h
  obtain ⟨m, rfl, a1⟩ := rd_int h1
  obtain ⟨n, rfl, a2⟩ := rd_int h2
  exact ⟨(m, n), rfl, a1, a2⟩
@[irreducible] def WfP (l : List (Int × Int)) : Prop := ∀ a ∈ l, CPr a
theorem rd_entries {ds : List AV} (h : Rd (.slice 2 (.struct [spI, spI])) ds) : ∃ l : List (Int × Int), ds = [.imm 2 l.length (rows prF l)] ∧ l.length ≤ 9223372036854775807 ∧ WfP l := by
  obtain ⟨l, rfl, h1, h2⟩ := rd_rows rd_pr h
  exact ⟨l, rfl, h1, by unfold WfP; exact h2⟩
theorem rdN_u8s {n : Nat} {cs : List AV} (h : RdN (.int .u8) n 1 cs) : ∃ xs : List Int, cs = u8s xs ∧ xs.length = n ∧ ∀ x ∈ xs, 0 ≤ x ∧ x ≤ 255 := by
  induction n generalizing cs with
  | zero => cases h; exact ⟨[], rfl, rfl, by simp⟩
  | succ n ih =>
    cases h with
    | snoc h1 h2 h3 =>
      obtain ⟨xs, rfl, h5, h6⟩ := ih h1
      cases h2 with
      | @int k m hw =>
        refine ⟨xs ++ [m], by simp [u8s], by simp [h5], fun x hx => ?_⟩
        rcases List.mem_append.1 hx with hx | hx
        · exact h6 x hx
        · have : x = m := by simpa using hx
          subst this
          simpa [Lit.wf, show IntKind.u8.min = 0 from rfl, show IntKind.u8.max = 255 from rfl] using hw
theorem rd_u8s {ds : List AV} (h : Rd (.slice 1 (.int .u8)) ds) : ∃ xs : List Int, ds = [.imm 1 xs.length (u8s xs)] ∧ xs.length ≤ 9223372036854775807 ∧ ∀ x ∈ xs, 0 ≤ x ∧ x ≤ 255 := by
  cases h with
  | slice hl hn =>
    obtain ⟨xs, rfl, h1, h2⟩ := rdN_u8s hn
    subst h1
    exact ⟨xs, rfl, by simp only [maxLen] at hl; omega, h2⟩
end Go.Proofs.Ytgbahnaejajdgaa
