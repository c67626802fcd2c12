/- Proved in this text: lemmas and contracts of functions that the claim uses (parts: Base, Cur, CurP, Defs, Draw, AbsPre, Draw2, Frame, Code, Kraft, Sym, Draw3). No condition. -/
import Derived.Test.YtgkeopmihhcbiaaPrM10
import Derived.Test.YtgkeopmihhcbiaaPrM9
import Derived.Test.YtgkeopmihhcbiaaPrM11
import Derived.Test.YtgkeopmihhcbiaaPrM7
import Derived.Test.YtgkeopmihhcbiaaPrM8

/- Contracts of small functions. No condition. -/
namespace Go.Proofs.Ytgkeopmihhcbiaa
open Go Go.Abs
set_option linter.unusedVariables false
set_option linter.unusedSimpArgs false
set_option maxRecDepth 100000
attribute [local irreducible] WpA WpL Rnd Blk Abs.Seq Abs.Fin FnC Only

instance within_c : Con 83 (∀ n lo hi : Int, Fn 83 [I n, I lo, I hi] [] (B (decide (lo ≤ n ∧ n ≤ hi)))) := ⟨fun n lo hi => by
  refine FnC.of_body tabOk Try.func83 Try.ntmps83 rfl (by decide +kernel) (by simp) fun G => ?_
  refine go (r := ?_); and_intros <;> intros
  all_goals first | exact True.intro | (simp_all; done) | (simp; omega)⟩

instance l1In_c : Con 150 (∀ n lo hi : Int, Fn 150 [I n, I lo, I hi] [] (B (decide (lo ≤ n ∧ n ≤ hi)))) := ⟨fun n lo hi => by
  refine FnC.of_body tabOk Try.func150 Try.ntmps150 rfl (by decide +kernel) (by simp) fun G => ?_
  refine go (r := ?_); and_intros <;> intros
  all_goals first | exact True.intro | (simp_all; done) | (simp; omega)⟩

instance limited_c : Con 116 (∀ n lo hi : Int, Fn 116 [I n, I lo, I hi] [] (I (max lo (min n hi)))) := ⟨fun n lo hi => by
  refine FnC.of_body tabOk Try.func116 Try.ntmps116 rfl (by decide +kernel) (by simp) fun G => ?_
  exact go (r := trivial)⟩
def clampM (v : Int) : Int := max (-1000000) (min v 1000000)
def costs (xs : List Int) : Int := (xs.map fun v => max (clampM v) (- clampM v)).sum
end Go.Proofs.Ytgkeopmihhcbiaa

/- Contracts: cursors over a code, out of which all is drawn. No condition. -/
namespace Go.Proofs.Ytgkeopmihhcbiaa
open Go Go.Abs
set_option linter.unusedVariables false
set_option linter.unusedSimpArgs false
set_option maxRecDepth 100000
set_option maxHeartbeats 4000000
attribute [local irreducible] WpA WpL Rnd Blk Abs.Seq Abs.Fin Abs.FinG FnC FnG FnX FinX Only

/-- A cursor: the bytes it goes over, where it stands, and what it mixes in. -/
abbrev CurO (v : Value) (c : Int × Int) : AObj := ⟨[.sc v, I c.1, I c.2], 0, 0, none⟩
abbrev CurOk (l : List Int) (c : Int × Int) : Prop := 0 ≤ c.1 ∧ c.1 ≤ l.length
abbrev CodA (l : List Int) : AV := .imm 1 l.length (u8s l)
/-- A function of a cursor and of more arguments that draws a number. -/
abbrev XnI (f : Nat) (v : Value) (l : List Int) (c : Int × Int) (args : List AV) (C : Int → Prop) : Prop := FnX Try.prog f (.ptr 0 0 0 :: args) [CurO v c] [v] [CodA l] ((Int × Int) × Int) (fun y => CurOk l y.1 ∧ C y.2) (fun y => [CurO v y.1]) (fun _ => []) (fun y => I y.2)
theorem and255 (y : Int) : 0 ≤ IntKind.i64.wrap ((BitVec.ofInt IntKind.i64.bits y &&& BitVec.ofInt IntKind.i64.bits 255).toNat : Nat) ∧ IntKind.i64.wrap ((BitVec.ofInt IntKind.i64.bits y &&& BitVec.ofInt IntKind.i64.bits 255).toNat : Nat) ≤ 255 := by
  have h : (BitVec.ofInt IntKind.i64.bits y &&& BitVec.ofInt IntKind.i64.bits 255).toNat ≤ 255 := by
    rw [BitVec.toNat_and]
    exact Nat.le_trans Nat.and_le_right (by decide)
  rw [IntWalk.i64_in _ (by omega)]
  omega
section
attribute [local irreducible] IntKind.wrap
end
/-- A function of a cursor that draws a truth value. -/
abbrev XnB (f : Nat) (v : Value) (l : List Int) (c : Int × Int) (args : List AV) : Prop := FnX Try.prog f (.ptr 0 0 0 :: args) [CurO v c] [v] [CodA l] ((Int × Int) × Bool) (fun y => CurOk l y.1 ∧ True) (fun y => [CurO v y.1]) (fun _ => []) (fun y => B y.2)
end Go.Proofs.Ytgkeopmihhcbiaa

/- Cursors over a code, out of which all is drawn: what is drawn as functions of the cursor. No condition. -/
namespace Go.Proofs.Ytgkeopmihhcbiaa
open Go Go.Abs
set_option linter.unusedVariables false
set_option linter.unusedSimpArgs false
set_option maxRecDepth 100000
set_option maxHeartbeats 4000000
attribute [local irreducible] WpA WpL Rnd Blk Abs.Seq Abs.Fin Abs.FinG FnC FnG FnX FnP FinX Only

abbrev Cr := Int × Int
/-- A function of a cursor and of more arguments, with its one result. -/
abbrev Pn (f : Nat) (v : Value) (l : List Int) (c : Cr) (args : List AV) (c' : Cr) (N : List AObj) (r : AV) : Prop := FnP Try.prog f (.ptr 0 0 0 :: args) [CurO v c] [v] [CodA l] [CurO v c'] N r
abbrev CrOk (l : List Int) (c : Cr) : Prop := l.length ≤ 1048576 ∧ CurOk l c
def hD (h : Int) : Int := IntKind.i64.wrap (IntKind.i64.wrap (h * 6364136223846793005) + 1442695040888963407)
def mixD (y : Int) : Int := IntKind.i64.wrap ((BitVec.ofInt IntKind.i64.bits (IntKind.i64.wrap ((BitVec.ofInt IntKind.i64.bits (y / 2 ^ Int.toNat 33) ^^^ BitVec.ofInt IntKind.i64.bits (y / 2 ^ Int.toNat 45)).toNat : Nat)) &&& BitVec.ofInt IntKind.i64.bits 255).toNat : Nat)
/-- The next byte. -/
def byD (l : List Int) (c : Cr) : Cr × Int :=
  if c.1 < l.length then ((c.1 + 1, hD c.2), IntKind.i64.wrap ((BitVec.ofInt IntKind.i64.bits (IntKind.i64.wrap (mixD (hD c.2) + IntKind.i64.wrap (l.getD c.1.toNat 0))) &&& BitVec.ofInt IntKind.i64.bits 255).toNat : Nat))
  else ((c.1, hD c.2), mixD (hD c.2))
theorem byD_ok {l : List Int} {c : Cr} (h : CrOk l c) : CrOk l (byD l c).1 ∧ 0 ≤ (byD l c).2 ∧ (byD l c).2 ≤ 255 := by
  have h1 := h.2.1
  have h2 := h.2.2
  unfold byD; split
  · exact ⟨⟨h.1, by show 0 ≤ c.1 + 1; omega, by show c.1 + 1 ≤ _; omega⟩, and255 _⟩
  · exact ⟨⟨h.1, h1, h2⟩, and255 _⟩
section
attribute [local irreducible] IntKind.wrap
instance l1Byte_p : ConP 208 (∀ (v : Value) (l : List Int) (c : Cr), CrOk l c → Pn 208 v l c [] (byD l c).1 [] (I (byD l c).2)) := ⟨fun v l c h => by
  have hl := h.1
  have hc1 := h.2.1
  have hc2 := h.2.2
  by_cases hlt : c.1 < l.length
  · rw [byD, if_pos hlt]
    refine FnP.of_body tabOk Try.func208 Try.ntmps208 rfl (by decide +kernel) (by simp) rfl rfl rfl fun G hp => ?_
    refine go (r := ?_); and_intros <;> intros <;> try exact True.intro
    refine WpL.pin (d := 32) hp rfl ?_
    refine go (r := ?_); and_intros <;> intros <;> try exact True.intro
    all_goals first | contradiction | omega | skip
    refine WpL.pin (d := 39) hp rfl ?_
    refine go (r := ?_); and_intros <;> intros <;> try exact True.intro
  · rw [byD, if_neg hlt]
    refine FnP.of_body tabOk Try.func208 Try.ntmps208 rfl (by decide +kernel) (by simp) rfl rfl rfl fun G hp => ?_
    refine go (r := ?_); and_intros <;> intros <;> try exact True.intro
    refine WpL.pin (d := 32) hp rfl ?_
    refine go (r := ?_); and_intros <;> intros <;> try exact True.intro
    all_goals first | contradiction | omega | skip⟩
end
def belowD (l : List Int) (c : Cr) (n : Int) : Cr × Int :=
  if n ≤ 0 then (c, 0) else if n ≤ 256 then ((byD l c).1, (byD l c).2 % n) else
    ((byD l (byD l (byD l (byD l c).1).1).1).1, ((byD l c).2 * 16777216 + (byD l (byD l c).1).2 * 65536 + (byD l (byD l (byD l c).1).1).2 * 256 + (byD l (byD l (byD l (byD l c).1).1).1).2) % n)
theorem belowD_ok {l : List Int} {c : Cr} (n : Int) (h : CrOk l c) : CrOk l (belowD l c n).1 ∧ 0 ≤ (belowD l c n).2 ∧ (0 < n → (belowD l c n).2 < n) ∧ (n ≤ 0 → (belowD l c n).2 = 0) := by
  have h1 := byD_ok h
  have h2 := byD_ok h1.1
  have h3 := byD_ok h2.1
  have h4 := byD_ok h3.1
  unfold belowD
  split
  · exact ⟨h, Int.le_refl 0, fun h => by omega, fun _ => rfl⟩
  · split
    · exact ⟨h1.1, Int.emod_nonneg _ (by omega), fun h => Int.emod_lt_of_pos _ h, fun h => by omega⟩
    · exact ⟨h4.1, Int.emod_nonneg _ (by omega), fun h => Int.emod_lt_of_pos _ h, fun h => by omega⟩
instance l1Below_p : ConP 112 (∀ (v : Value) (l : List Int) (c : Cr) (n : Int), CrOk l c → Pn 112 v l c [I n] (belowD l c n).1 [] (I (belowD l c n).2)) := ⟨fun v l c n h => by
  have h1 := byD_ok h
  have h2 := byD_ok h1.1
  have h3 := byD_ok h2.1
  have h4 := byD_ok h3.1
  unfold belowD
  by_cases h0 : n ≤ 0
  · rw [if_pos h0]
    refine FnP.of_body tabOk Try.func112 Try.ntmps112 rfl (by decide +kernel) (by simp) rfl rfl rfl fun G hp => ?_
    refine go (r := ?_); and_intros <;> intros <;> try exact True.intro
    all_goals trace_state
  · rw [if_neg h0]
    by_cases h256 : n ≤ 256
    · rw [if_pos h256]
      refine FnP.of_body tabOk Try.func112 Try.ntmps112 rfl (by decide +kernel) (by simp) rfl rfl rfl fun G hp => ?_
      refine go (r := ?_); and_intros <;> intros <;> try exact True.intro
      all_goals trace_state
    · rw [if_neg h256]
      refine FnP.of_body tabOk Try.func112 Try.ntmps112 rfl (by decide +kernel) (by simp) rfl rfl rfl fun G hp => ?_
      refine go (r := ?_); and_intros <;> intros <;> try exact True.intro
      all_goals trace_state⟩
end Go.Proofs.Ytgkeopmihhcbiaa

/- Names of abstract values and plain laws of lists. No condition. -/
namespace Go.Proofs.Ytgkeopmihhcbiaa
open Go Go.Abs
set_option linter.unusedVariables false
set_option linter.unusedSimpArgs false

/-! Lists, place by place. -/
theorem mark_step {α : Type} (f : Nat → α) (l : List α) (i : Nat) (h : i < l.length) : ((List.range i).map f ++ l.drop i).set i (f i) = (List.range (i + 1)).map f ++ l.drop (i + 1) := by
  rw [List.set_append_right _ _ (by simp), List.range_succ, List.drop_eq_getElem_cons h]; simp; rw [List.drop_eq_getElem_cons h]; rfl
theorem eq_all {α : Type} (z : α) {xs ys : List α} (hl : xs.length = ys.length) (h : ∀ j < xs.length, xs.getD j z = ys.getD j z) : xs = ys := by
  apply List.ext_getElem hl
  intro i h1 h2
  have := h i h1
  simpa [h1, h2] using this
def tk {α : Type} (f : α → Nat) (l : List α) (i : Nat) : Nat := ((l.take i).map f).sum
/-! Numbers and truth values. -/
abbrev IN (l : List Int) : AObj := ⟨ints l, 0, 1, none⟩
abbrev BN (l : List Bool) : AObj := ⟨bools l, 0, 1, none⟩
abbrev BO (l : List Bool) : AObj := ⟨bools l, 0, 1, some 4⟩
abbrev BL (xs : List Bool) : AV := .imm 1 xs.length (bools xs)
abbrev OpA (q : Int) (b d : Bool) (l m : List Int) (e : List Bool) : AV := .agg [I q, B b, B d, IL l, IL m, BL e]
abbrev HdA (w h q : Int) (b d : Bool) (l : List Int) : AV := .agg [I w, I h, I q, B b, B d, IL l]
abbrev StA (w h q : Int) (b d : Bool) (l : List Int) (M : List Mbk) : AV := .agg [I w, I h, I q, B b, B d, IL l, .imm 2 M.length (rows mbI M)]
abbrev BkL (l : List Blok) : AV := .imm 2 l.length (rows blkI l)
abbrev MbL (l : List Mbk) : AV := .imm 2 l.length (rows mbI l)
abbrev BkO (l : List Blok) : AObj := ⟨rows blkF l, 0, 2, some 85⟩
abbrev MbO (l : List Mbk) : AObj := ⟨rows mbF l, 0, 2, some 30⟩
abbrev BkN (l : List Blok) : AObj := ⟨rows blkF l, 0, 2, none⟩
abbrev MbN (l : List Mbk) : AObj := ⟨rows mbF l, 0, 2, none⟩

/-! How much they hold. -/
def bn (b : Blok) : Nat := b.2.length
def bw (l : List Blok) : Nat := l.length + (l.map bn).sum
def mn (m : Mbk) : Nat := bw m.2
def mw (l : List Mbk) : Nat := l.length + (l.map mn).sum
@[irreducible] def SmB (c : Nat) (l : List Blok) : Prop := ∀ b ∈ l, b.2.length ≤ c
@[irreducible] def SmM (c : Nat) (l : List Mbk) : Prop := ∀ m ∈ l, m.2.length ≤ c ∧ SmB c m.2
theorem take_snoc {α : Type} [Inhabited α] (l : List α) (i : Nat) (h : i < l.length) : l.take (i + 1) = l.take i ++ [l.getD i default] := by
  rw [List.take_succ_eq_append_getElem h]; simp [h]
abbrev XI (l : List Int) : AObj := ⟨ints l, 0, 1, some 3⟩
end Go.Proofs.Ytgkeopmihhcbiaa

/- What is drawn out of a cursor: choices, lengths of codes, options. No condition. -/
namespace Go.Proofs.Ytgkeopmihhcbiaa
open Go Go.Abs
set_option linter.unusedVariables false
set_option linter.unusedSimpArgs false
set_option maxRecDepth 100000
set_option maxHeartbeats 4000000
attribute [local irreducible] WpA WpL Rnd Blk Abs.Seq Abs.Fin Abs.FinG FnC FnG FnX FnP FinX Only

def onceD (l : List Int) (c : Cr) (n : Int) : Cr × Bool := ((belowD l c n).1, decide ((belowD l c n).2 = 0))
theorem onceD_ok {l : List Int} {c : Cr} (n : Int) (h : CrOk l c) : CrOk l (onceD l c n).1 := (belowD_ok n h).1
def pickD (l : List Int) (c : Cr) (xs : List Int) : Cr × Int := ((belowD l c xs.length).1, xs.getD (belowD l c xs.length).2.toNat 0)
theorem pickD_ok {l : List Int} {c : Cr} {xs : List Int} (h : CrOk l c) (hx : 0 < xs.length) : CrOk l (pickD l c xs).1 ∧ (pickD l c xs).2 ∈ xs := by
  have hb := belowD_ok (xs.length : Int) h
  refine ⟨hb.1, ?_⟩
  have h1 := hb.2.2.1 (by omega)
  have h2 := hb.2.1
  have : (belowD l c xs.length).2.toNat < xs.length := by omega
  simp [pickD, this]
attribute [local irreducible] belowD
instance l1Once_p : ConP 195 (∀ (v : Value) (l : List Int) (c : Cr) (n : Int), CrOk l c → Pn 195 v l c [I n] (onceD l c n).1 [] (B (onceD l c n).2)) := ⟨fun v l c n h => by
  unfold onceD
  refine FnP.of_body tabOk Try.func195 Try.ntmps195 rfl (by decide +kernel) (by simp) rfl rfl rfl fun G hp => ?_
  refine go (r := ?_); and_intros <;> intros <;> try exact True.intro⟩
instance l1PickInt_p : ConP 111 (∀ (v : Value) (l : List Int) (c : Cr) (xs : List Int), CrOk l c ∧ 0 < xs.length ∧ xs.length ≤ 1048576 → Pn 111 v l c [IL xs] (pickD l c xs).1 [] (I (pickD l c xs).2)) := ⟨fun v l c xs h => by
  have hc := h.1
  have hb := belowD_ok (xs.length : Int) hc
  have h1 := hb.2.1
  have h2 := hb.2.2.1 (by omega)
  unfold pickD
  refine FnP.of_body tabOk Try.func111 Try.ntmps111 rfl (by decide +kernel) (by simp) rfl rfl rfl fun G hp => ?_
  refine go (r := ?_); and_intros <;> intros <;> try exact True.intro
  all_goals trace_state⟩
attribute [local irreducible] onceD pickD
abbrev mode14 : List Int := [0, 1, 2, 3, 4, 5, 0, 1, 2, 3, 4, 5, -1, 6]
def modeD (l : List Int) (c : Cr) : Cr × Int := pickD l c mode14
instance l15Mode_p : ConP 242 (∀ (v : Value) (l : List Int) (c : Cr), CrOk l c → Pn 242 v l c [] (modeD l c).1 [] (I (modeD l c).2)) := ⟨fun v l c h => by
  unfold modeD
  refine FnP.of_body tabOk Try.func242 Try.ntmps242 rfl (by decide +kernel) (by simp) rfl rfl rfl fun G hp => ?_
  refine go (r := ?_); and_intros <;> intros <;> try exact True.intro
  all_goals first | exact h | decide | trace_state⟩
def lens7 : List (List Int) := [[1, 2, 3, 4, 5, 5], [3, 3, 3, 3, 2, 2], [2, 2, 2, 3, 4, 4], [1, 1, 0, 0, 0, 0], [0, 2, 2, 2, 2, 0], [5, 5, 4, 3, 2, 1], [4, 4, 4, 4, 2, 1]]
def l8D (l : List Int) (c : Cr) : Cr × List Int :=
  let y := belowD l c 7
  let b := lens7.getD y.2.toNat []
  let o := onceD l y.1 2
  if o.2 = true then
    let i := belowD l o.1 6
    let k := belowD l i.1 6
    (k.1, (b.set i.2.toNat (b.getD k.2.toNat 0)).set k.2.toNat (b.getD i.2.toNat 0))
  else (o.1, b)
theorem lens7_6 : ∀ k, k < 7 → (lens7.getD k []).length = 6 := by decide
theorem l8D_yes {l : List Int} {c : Cr} (h : (onceD l (belowD l c 7).1 2).2 = true) : l8D l c = ((belowD l (belowD l (onceD l (belowD l c 7).1 2).1 6).1 6).1, ((lens7.getD (belowD l c 7).2.toNat []).set (belowD l (onceD l (belowD l c 7).1 2).1 6).2.toNat ((lens7.getD (belowD l c 7).2.toNat []).getD (belowD l (belowD l (onceD l (belowD l c 7).1 2).1 6).1 6).2.toNat 0)).set (belowD l (belowD l (onceD l (belowD l c 7).1 2).1 6).1 6).2.toNat ((lens7.getD (belowD l c 7).2.toNat []).getD (belowD l (onceD l (belowD l c 7).1 2).1 6).2.toNat 0)) := by
  unfold l8D; simp only; rw [if_pos h]
theorem l8D_no {l : List Int} {c : Cr} (h : ¬ (onceD l (belowD l c 7).1 2).2 = true) : l8D l c = ((onceD l (belowD l c 7).1 2).1, lens7.getD (belowD l c 7).2.toNat []) := by
  unfold l8D; simp only; rw [if_neg h]
theorem l8D_ok {l : List Int} {c : Cr} (h : CrOk l c) : CrOk l (l8D l c).1 ∧ (l8D l c).2.length = 6 := by
  have hb := belowD_ok 7 h
  have ho := onceD_ok 2 hb.1
  have h6 := lens7_6 (belowD l c 7).2.toNat (by have := hb.2.1; have := hb.2.2.1 (by decide); omega)
  by_cases hc : (onceD l (belowD l c 7).1 2).2 = true
  · rw [l8D_yes hc]
    exact ⟨(belowD_ok 6 (belowD_ok 6 ho).1).1, by simp only [List.length_set]; exact h6⟩
  · rw [l8D_no hc]; exact ⟨ho, h6⟩
instance l8Lens_p : ConP 238 (∀ (v : Value) (l : List Int) (c : Cr), CrOk l c → Pn 238 v l c [] (l8D l c).1 [XI (l8D l c).2] (.own 1 0 0 (l8D l c).2.length)) := ⟨fun v l c h => by
  have hb := belowD_ok 7 h
  have h70 := hb.2.1
  have h71 := hb.2.2.1 (by decide)
  have hlt : (belowD l c 7).2.toNat < lens7.length := by show _ < 7; omega
  have h6 := lens7_6 (belowD l c 7).2.toNat (by omega)
  have h6' : (lens7.getD (belowD l c 7).2.toNat default).length = 6 := h6
  have ho := onceD_ok 2 hb.1
  have hi := belowD_ok 6 ho
  have hk := belowD_ok 6 hi.1
  have hi1 := hi.2.2.1 (by decide)
  have hk1 := hk.2.2.1 (by decide)
  by_cases hc : (onceD l (belowD l c 7).1 2).2 = true
  · rw [l8D_yes hc]
    refine FnP.of_body tabOk Try.func238 Try.ntmps238 rfl (by decide +kernel) (by simp) rfl rfl rfl fun G hp => ?_
    refine go (r := ?_); and_intros <;> intros <;> try exact True.intro
    refine K.ld ?_
    refine WpL.loadOwnLi (M := lens7) tabOk rfl rfl rfl rfl hlt (by decide) rfl ?_
    refine WpL.appInts tabOk rfl rfl rfl (Nat.le_refl 1) rfl rfl rfl rfl (by omega) (by decide) ?_
    rw [List.nil_append]
    refine WpL.weak (σ' := ⟨[(0, .ptr 0 0 0), (20, .own 1 0 0 6)], [CurO v (belowD l c 7).1, XI (lens7.getD (belowD l c 7).2.toNat [])]⟩) (Weak.mk (.cons (.ptr rfl rfl rfl rfl .nil) (.cons (.own rfl rfl rfl rfl rfl (by omega) .nil) .nil)) (.cons (Re.same rfl rfl) (.inr rfl) (.cons (Re.same rfl (still_ints _)) (.inr rfl) .nil)) (Nat.le_of_ble_eq_true rfl)) ?_
    generalize lens7.getD (belowD l c 7).2.toNat [] = b at h6 ⊢
    refine go (r := ?_); and_intros <;> intros <;> try exact True.intro
    all_goals first | (rename_i hg; rw [hc] at hg; cases hg; done) | trace_state
  · rw [l8D_no hc]
    refine FnP.of_body tabOk Try.func238 Try.ntmps238 rfl (by decide +kernel) (by simp) rfl rfl rfl fun G hp => ?_
    refine go (r := ?_); and_intros <;> intros <;> try exact True.intro
    refine K.ld ?_
    refine WpL.loadOwnLi (M := lens7) tabOk rfl rfl rfl rfl hlt (by decide) rfl ?_
    refine WpL.appInts tabOk rfl rfl rfl (Nat.le_refl 1) rfl rfl rfl rfl (by omega) (by decide) ?_
    rw [List.nil_append]
    refine WpL.weak (σ' := ⟨[(0, .ptr 0 0 0), (20, .own 1 0 0 6)], [CurO v (belowD l c 7).1, XI (lens7.getD (belowD l c 7).2.toNat [])]⟩) (Weak.mk (.cons (.ptr rfl rfl rfl rfl .nil) (.cons (.own rfl rfl rfl rfl rfl (by omega) .nil) .nil)) (.cons (Re.same rfl rfl) (.inr rfl) (.cons (Re.same rfl (still_ints _)) (.inr rfl) .nil)) (Nat.le_of_ble_eq_true rfl)) ?_
    generalize lens7.getD (belowD l c 7).2.toNat [] = b at h6 ⊢
    refine go (r := ?_); and_intros <;> intros <;> try exact True.intro
    all_goals first | (rename_i hg; exact absurd hg hc) | trace_state⟩
end Go.Proofs.Ytgkeopmihhcbiaa

/- Less known of an object: the beginning of its numbers. No condition. -/
namespace Go.Abs
open Go
set_option linter.unusedVariables false
set_option linter.unusedSimpArgs false

theorem lrel_ints2 {S w ι O} : ∀ {xs : List Int} {us f}, LRel S w ι O (ints xs) us f → us = xs.map (Value.int .i64) ∧ f = []
  | [], us, f, h => by cases h; exact ⟨rfl, rfl⟩
  | x :: xs, us, f, h => by
    cases h with
    | sc h => obtain ⟨h1, h2⟩ := lrel_ints2 h; subst h1 h2; exact ⟨rfl, rfl⟩
theorem lrel_ints3 {S w ι O} : ∀ (xs : List Int), LRel S w ι O (ints xs) (xs.map (Value.int .i64)) []
  | [] => .nil
  | x :: xs => .sc (lrel_ints3 xs)
theorem RelAt.pre {n m G S ι F T O a w} (hr : RelAt n m G S ι F ⟨T, O⟩ a w) {id j ep sz : Nat} {te : Option TypeId} {xs : List Int} (ho : O[id]? = some ⟨ints xs, ep, sz, te⟩) : RelAt n m G S ι F ⟨T, O.set id ⟨ints (xs.take j), ep, sz, te⟩⟩ a w := by
  have hid : id < O.length := (List.getElem?_eq_some_iff.1 ho).1
  have hlat : Later S w ι O S w ι (O.set id ⟨ints (xs.take j), ep, sz, te⟩) := ⟨fun _ h => h, fun _ _ => rfl, fun i ob hi => by
    by_cases e : i = id
    · subst e; rw [ho] at hi; cases hi
      exact ⟨⟨ints (xs.take j), ep, sz, te⟩, by rw [List.getElem?_set_self hid], .inr ⟨rfl, rfl, rfl⟩⟩
    · exact ⟨ob, by rw [List.getElem?_set, if_neg (fun h => e h.symm)]; exact hi, .inr ⟨rfl, rfl, rfl⟩⟩⟩
  refine ⟨hr.defers, hr.size, fun t => (hr.tmps t).mono hlat (by simp), ⟨fun i ob hi => ?_, fun i hi => hr.objs.nodup i (by simpa using hi), fun i j' hi hj => hr.objs.apart i j' (by simpa using hi) (by simpa using hj)⟩, fun i hi => hr.foot i (by simpa using hi), hr.base, hr.stable, hr.keeps, hr.spots, by have := hr.mle; simpa using this⟩
  have hi : (O.set id ⟨ints (xs.take j), ep, sz, te⟩)[i]? = some ob := hi
  by_cases e : i = id
  · subst e
    rw [List.getElem?_set_self hid] at hi; cases hi
    have h := hr.objs.obj i _ ho
    unfold ObjAt at h ⊢
    cases hs : ι i with
    | none =>
      rw [hs] at h
      have h1 : ints xs = [] := h.1
      have : xs = [] := by cases xs with | nil => rfl | cons x xs => cases h1
      subst this
      exact ⟨by simp [ints], h.2⟩
    | some p =>
      obtain ⟨b, k⟩ := p
      rw [hs] at h
      obtain ⟨cur, t, fz, f', h1, h2, h3, h4, h5, h6, h7⟩ := h
      obtain ⟨h8, h9⟩ := lrel_ints2 h7
      subst h9
      have hle : (xs.take j).length ≤ xs.length := List.length_take_le' _ _
      have h4' : xs.length ≤ k := by simpa [ints] using h4
      refine ⟨cur, t, fz, [], h1, h2, h3, by show (ints (xs.take j)).length ≤ k; simp [ints]; omega, h5, h6, ?_⟩
      have e2 : cur.toList.take (ints (xs.take j)).length = (xs.take j).map (Value.int .i64) := by
        have e3 : (ints (xs.take j)).length = min j xs.length := by simp [ints]
        have e4 : cur.toList.take xs.length = xs.map (Value.int .i64) := by simpa [ints] using h8
        rw [e3, ← List.take_take, e4, List.map_take]
      show LRel S w ι _ (ints (xs.take j)) (cur.toList.take (ints (xs.take j)).length) []
      rw [e2]; exact lrel_ints3 _
  · rw [List.getElem?_set, if_neg (fun h => e h.symm)] at hi
    have h := hr.objs.obj i ob hi
    unfold ObjAt at h ⊢
    cases hs : ι i with
    | none => rw [hs] at h; exact h
    | some p =>
      obtain ⟨b, k⟩ := p
      rw [hs] at h
      obtain ⟨cur, t, fz, f', h1, h2, h3, h4, h5, h6, h7⟩ := h
      exact ⟨cur, t, fz, f', h1, h2, h3, h4, h5, h6, h7.mono hlat (fun _ _ => rfl)⟩
theorem Weak.pre {m id j ep sz : Nat} {T : List (Nat × AV)} {O : List AObj} {te : Option TypeId} {xs : List Int} (ho : O[id]? = some ⟨ints xs, ep, sz, te⟩) : Weak m ⟨T, O⟩ ⟨T, O.set id ⟨ints (xs.take j), ep, sz, te⟩⟩ := by
  rintro n G a w ⟨S, ι, F, hr⟩
  exact ⟨S, ι, F, hr.pre ho⟩
section
variable {P : Program} {n m : Nat} {G : Ctx} {T : List (Nat × AV)} {O : List AObj} {Q : Exit → St → Prop} {ops : Array Oper} {l : List Oper} {d : Nat} {md : Bool} {tt : TypeId} {pos : String} {after : Array Edge} {tab : List (Nat × Ty)}
/-- The beginning of a slice of the call's own. -/
theorem WpL.subOwn (hP : TabOk P tab) {t e k b : Nat} {zs : List AV} {x y : Operand} {kk : IntKind} {id ep len j : Nat} {ob : AObj} (ht : tlook tab t = some (.slice e k b zs)) (hx : av T x = .own id ep 0 len) (ho : O[id]? = some ob) (he : ob.ep = ep) (hy : av T y = .sc (.int kk j)) (hj : j ≤ len) (hn : d < n)
    (h : WpL P n m G md ops l ⟨(d, .own id ep 0 j) :: T, O⟩ Q) :
    WpL P n m G md ops ({ dst := some d, op := .slice t x none (some y) none, type := tt, pos := pos, after := after, guard := none } :: l) ⟨T, O⟩ Q :=
  WpL.pure rfl rfl hn (fun S ι F a w hr => by
    obtain ⟨hu, inf, z, hinf, _, hk, _, _, hk0, _⟩ := hP.slice ht
    have hv := hr.eval x
    rw [show av (St.mk T O).T x = _ from hx] at hv
    have hye := hr.sc hy
    have hown : OwnAt (ι id) ob.size 0 len (a.eval x) := by
      cases hv with
      | own q1 q2 q3 r =>
        rw [show (St.mk T O).O[id]? = some ob from ho] at q1
        cases q1
        exact q3 he.symm
    cases hs : ι id with
    | none =>
      rw [hs] at hown
      obtain ⟨hxe, h0, hl⟩ := hown
      have hj0 : j = 0 := by omega
      subst hj0
      refine ⟨.slice none 0 0, ?_, .own ho (by omega) (fun _ => by rw [hs]; exact ⟨rfl, rfl, rfl⟩) .nil⟩
      have hrun : (Instr.sliceAt t (.slice none 0 0) none (some (.int kk 0)) none).run P w = .ok (.slice none 0 0) w := by
        simp [Instr.sliceAt, Instr.slice, run_underlying hu, Instr.sliceBounds, Instr.sliceBound, asIntOf, run_sizeOf hinf hk, Sem.run_bind]
      have hye' : a.eval y = .int kk 0 := by rw [hye]; rfl
      simp [execOp, hxe, hye', hrun, Sem.run_bind]
    | some p =>
      obtain ⟨bb, kb⟩ := p
      rw [hs] at hown
      obtain ⟨cap, hxe, h1, h2, h3⟩ := hown
      have hrun := run_sliceSl hu hinf hk ⟨bb, 0, none⟩ len cap none (some (.int kk j)) 0 j (.inl ⟨rfl, rfl⟩) (.inr ⟨kk, rfl⟩) (by omega) w
      have e1 : (if cap = 0 then (⟨bb, 0, none⟩ : Addr) else (⟨bb, 0, none⟩ : Addr).add (0 * k)) = ⟨bb, 0, none⟩ := by
        split
        · rfl
        · rw [addr_add]; simp
      rw [e1, Nat.sub_zero, Nat.sub_zero] at hrun
      refine ⟨.slice (some ⟨bb, 0, none⟩) j cap, by simp [execOp, hxe, hye, hrun, Sem.run_bind], .own ho (by omega) (fun _ => by rw [hs]; exact ⟨cap, rfl, h1, by omega, h3⟩) .nil⟩) h
theorem WpL.appBools (hP : TabOk P tab) {t e b c : Nat} {zs : List AV} {xs ys : List Bool} {x y : Operand} {id ep len : Nat} {Vy : AV} (ht : tlook tab t = some (.slice e 1 b zs)) (hx : av T x = .own id ep 0 len)
    (ho : O[id]? = some ⟨bools xs, ep, 1, some e⟩) (hm : m ≤ id) (hy : (av T y).force = some Vy) (hs : srcB O Vy = some (bools ys, c)) (hol : xs.length = len) (hc : ys.length = c)
    (hb : (len + c) * b ≤ 140737488355328 ∧ len + c ≤ 9223372036854775807) (hn : d < n)
    (h : WpL P n m G false ops l ⟨(d, .own id (ep + 1) 0 (len + c)) :: T, O.set id ⟨bools (xs ++ ys), ep + 1, 1, some e⟩⟩ Q) :
    WpL P n m G false ops ({ dst := some d, op := .call { callee := .builtin .append, args := #[x, y], argTypes := #[t, t] }, type := tt, pos := pos, after := after, guard := none } :: l) ⟨T, O⟩ Q :=
  WpL.appOwn hP ht hx ho rfl rfl rfl (by simp [hol]) hm hy hs (by simp [hc]) (all_bools _ _) hb hn (by
    have e2 : bools xs ++ bools ys = bools (xs ++ ys) := by simp [bools]
    simp only [e2]; exact h)
end
theorem split1 {Ov : List AObj} {a : AObj} (h0 : Ov[0]? = some a) : ∃ R, Ov = a :: R := by
  match Ov, h0 with
  | a' :: R, h0 => simp at h0; exact ⟨R, by rw [h0]⟩
  | [], h => simp at h
theorem split5 {Ov : List AObj} {e : AObj} (h : Ov[4]? = some e) : ∃ a b c d R, Ov = a :: b :: c :: d :: e :: R := by
  match Ov, h with
  | a :: b :: c :: d :: e' :: R, h => simp at h; exact ⟨a, b, c, d, R, by rw [h]⟩
  | [], h => simp at h
  | [_], h => simp at h
  | [_, _], h => simp at h
  | [_, _, _], h => simp at h
  | [_, _, _, _], h => simp at h
section
variable {m : Nat} {T : List (Nat × AV)} {O : List AObj} {tab : List (Nat × Ty)} {e' : Exit} {r1 r2 : ResultVar} {r1v r2v r : AV} {N : List AObj}
theorem FinG.oI (ids : List (Option Nat)) (he : endB e' = true) (hv : ResV tab T O r1 r1v) (hx : Ex O ids [r1v] [r]) (hN : NEx O ids N) (hd : nodupB (ids.filterMap id) = true) (hp : preB ids m 0 = true) : FinG tab m #[r1] N r e' ⟨T, O⟩ := FinG.e he (.one hv hN (nodupB_spec hd) hp hx)
theorem FinG.tI (ids : List (Option Nat)) (he : endB e' = true) (hv : ResV tab T O r1 r1v) (hv2 : ResV tab T O r2 r2v) (hx : Ex O ids [.tup [r1v, r2v]] [r]) (hN : NEx O ids N) (hd : nodupB (ids.filterMap id) = true) (hp : preB ids m 0 = true) : FinG tab m #[r1, r2] N r e' ⟨T, O⟩ := FinG.e he (.two hv hv2 hN (nodupB_spec hd) hp hx)
end
end Go.Abs

/- What is drawn out of a cursor: any lengths, options. No condition. -/
namespace Go.Proofs.Ytgkeopmihhcbiaa
open Go Go.Abs
set_option linter.unusedVariables false
set_option linter.unusedSimpArgs false
set_option maxRecDepth 100000
set_option maxHeartbeats 4000000
attribute [local irreducible] WpA WpL Rnd Blk Abs.Seq Abs.Fin Abs.FinG FnC FnG FnX FnP FinX Only
attribute [local irreducible] belowD onceD pickD modeD

abbrev any5 : List Int := [0, 1, 8, -1, 7]
def l8AnyD (l : List Int) (c : Cr) : Cr × List Int :=
  let y := l8D l c
  let s := belowD l y.1 12
  if s.2 = 0 then
    let i := belowD l s.1 6
    let p := pickD l i.1 any5
    (p.1, y.2.set i.2.toNat p.2)
  else if s.2 = 1 then (s.1, y.2.take 5) else (s.1, y.2)
theorem l8AnyD_0 {l : List Int} {c : Cr} (h : (belowD l (l8D l c).1 12).2 = 0) : l8AnyD l c = ((pickD l (belowD l (belowD l (l8D l c).1 12).1 6).1 any5).1, (l8D l c).2.set (belowD l (belowD l (l8D l c).1 12).1 6).2.toNat (pickD l (belowD l (belowD l (l8D l c).1 12).1 6).1 any5).2) := by
  unfold l8AnyD; simp only; rw [if_pos h]
theorem l8AnyD_1 {l : List Int} {c : Cr} (h : (belowD l (l8D l c).1 12).2 = 1) : l8AnyD l c = ((belowD l (l8D l c).1 12).1, (l8D l c).2.take 5) := by
  unfold l8AnyD; simp only; rw [if_neg (by omega), if_pos h]
theorem l8AnyD_2 {l : List Int} {c : Cr} (h : (belowD l (l8D l c).1 12).2 ≠ 0) (h1 : (belowD l (l8D l c).1 12).2 ≠ 1) : l8AnyD l c = ((belowD l (l8D l c).1 12).1, (l8D l c).2) := by
  unfold l8AnyD; simp only; rw [if_neg h, if_neg h1]
theorem l8AnyD_ok {l : List Int} {c : Cr} (h : CrOk l c) : CrOk l (l8AnyD l c).1 ∧ (l8AnyD l c).2.length ≤ 6 := by
  have h8 := l8D_ok h
  have hs := belowD_ok 12 h8.1
  by_cases h0 : (belowD l (l8D l c).1 12).2 = 0
  · rw [l8AnyD_0 h0]
    exact ⟨(pickD_ok (belowD_ok 6 hs.1).1 (by decide)).1, by simp only [List.length_set]; omega⟩
  · by_cases h1 : (belowD l (l8D l c).1 12).2 = 1
    · rw [l8AnyD_1 h1]; exact ⟨hs.1, by simp only [List.length_take]; omega⟩
    · rw [l8AnyD_2 h0 h1]; exact ⟨hs.1, by simp only; omega⟩
instance l8Any_p : ConP 193 (∀ (v : Value) (l : List Int) (c : Cr), CrOk l c → Pn 193 v l c [] (l8AnyD l c).1 [XI (l8AnyD l c).2] (.own 1 0 0 (l8AnyD l c).2.length)) := ⟨fun v l c h => by
  have h8 := l8D_ok h
  have hs := belowD_ok 12 h8.1
  have hi := belowD_ok 6 hs.1
  have hi1 := hi.2.2.1 (by decide)
  have hi0 := hi.2.1
  by_cases h0 : (belowD l (l8D l c).1 12).2 = 0
  · rw [l8AnyD_0 h0]
    refine FnP.of_body tabOk Try.func193 Try.ntmps193 rfl (by decide +kernel) (by simp) rfl rfl rfl fun G hp => ?_
    refine go (r := ?_); and_intros <;> intros <;> try exact True.intro
    all_goals first | exact hi.1 | exact hs.1 | decide | trace_state
  · by_cases h1 : (belowD l (l8D l c).1 12).2 = 1
    · have e5 : ((l8D l c).2.take 5).length = 5 := by rw [List.length_take, h8.2]; rfl
      rw [l8AnyD_1 h1]
      simp only [e5]
      refine FnP.of_body tabOk Try.func193 Try.ntmps193 rfl (by decide +kernel) (by simp) rfl rfl rfl fun G hp => ?_
      refine go (r := ?_); and_intros <;> intros <;> try exact True.intro
      refine K.sl ?_
      refine WpL.subOwn (j := 5) tabOk rfl rfl rfl rfl rfl (by omega) (by decide) ?_
      refine WpL.weak (Weak.pre (id := 1) (j := 5) rfl) ?_
      refine go (r := ?_); and_intros <;> intros <;> try exact True.intro
      all_goals trace_state
    · rw [l8AnyD_2 h0 h1]
      refine FnP.of_body tabOk Try.func193 Try.ntmps193 rfl (by decide +kernel) (by simp) rfl rfl rfl fun G hp => ?_
      refine go (r := ?_); and_intros <;> intros <;> try exact True.intro
      all_goals trace_state⟩
end Go.Proofs.Ytgkeopmihhcbiaa

/- Contracts of the functions of frames and of the law FnExactSse. No condition. -/
namespace Go.Proofs.Ytgkeopmihhcbiaa
open Go Go.Abs
set_option linter.unusedVariables false
set_option linter.unusedSimpArgs false
set_option maxRecDepth 100000
set_option maxHeartbeats 2000000
attribute [local irreducible] WpA WpL Rnd Blk Abs.Seq Abs.Fin FnC Only

abbrev FrA (W H : Int) (p : List Int) : AV := .agg [I W, I H, IL p]
abbrev XO (p : List Int) : AObj := ⟨ints p, 0, 1, some 3⟩

@[irreducible] def In (l : List Int) (lo hi : Int) : Prop := ∀ v ∈ l, lo ≤ v ∧ v ≤ hi
instance (l : List Int) (lo hi : Int) : Decidable (In l lo hi) := by unfold In; exact List.decidableBAll _ l
theorem in_get {l : List Int} {lo hi : Int} (h : In l lo hi) {k : Nat} (hk : k < l.length) : lo ≤ l.getD k 0 ∧ l.getD k 0 ≤ hi := by
  unfold In at h
  have := h (l.getD k 0) (by simp [List.getElem?_eq_getElem hk])
  exact this
theorem in_all {l : List Int} {lo hi : Int} (h : ∀ j < l.length, lo ≤ l.getD j 0 ∧ l.getD j 0 ≤ hi) : In l lo hi := by
  unfold In
  intro v hv
  obtain ⟨i, hi, rfl⟩ := List.getElem_of_mem hv
  simpa [List.getElem?_eq_getElem hi] using h i hi
theorem notin {l : List Int} {lo hi : Int} {k : Nat} (hk : k < l.length) (h : ¬ (lo ≤ l.getD k 0 ∧ l.getD k 0 ≤ hi)) : false = decide (In l lo hi) := by
  symm; rw [decide_eq_false_iff_not]; exact fun hh => h (in_get hh hk)

theorem in_snoc {l : List Int} {lo hi : Int} {k : Nat} (hk : k < l.length) : In (l.take (k + 1)) lo hi ↔ In (l.take k) lo hi ∧ lo ≤ l.getD k 0 ∧ l.getD k 0 ≤ hi := by
  unfold In; rw [List.take_succ_eq_append_getElem hk, List.forall_mem_append]; simp [List.getElem?_eq_getElem hk]
theorem in_nil (lo hi : Int) : In [] lo hi := by unfold In; intro v hv; cases hv

instance allWithin_c : Con 114 (∀ (l : List Int) (lo hi : Int), l.length ≤ 1099511627776 → Fn 114 [IL l, I lo, I hi] [] (B (decide (In l lo hi)))) := ⟨fun l lo hi hl => by
  refine FnC.of_body tabOk Try.func114 Try.ntmps114 rfl (by decide +kernel) (by simp) fun G => ?_
  refine go (r := ?_); and_intros <;> intros <;> try exact True.intro
  refine WpA.loop (fun k : Nat => ⟨[(1, I lo), (2, I hi), (9, IL l), (10, I l.length), (11, I k)], []⟩) (fun k => k ≤ l.length ∧ In (l.take k) lo hi) (fun k => l.length - k) 0 (by simp [in_nil]) (go (r := trivial)) (fun k hk => ?_)
  refine go (r := ?_); and_intros <;> intros <;> try exact True.intro
  · exact notin (k := k) (by omega) ‹_›
  · rw [in_snoc (by omega)]; simp_all
  · have e : k = l.length := by omega
    subst e; simp_all⟩

abbrev SidesOk (w h : Int) : Prop := 8 ≤ w ∧ w ≤ 32 ∧ 8 ≤ h ∧ h ≤ 32 ∧ w % 8 = 0 ∧ h % 8 = 0
abbrev FrameOk (W H : Int) (p : List Int) : Prop := SidesOk W H ∧ (p.length : Int) = W * H ∧ In p 0 255
def sse (p q : List Int) (k : Nat) : Int := ((List.range k).map fun i => (p.getD i 0 - q.getD i 0) * (p.getD i 0 - q.getD i 0)).sum
def sseR (W H : Int) (p : List Int) (W2 H2 : Int) (q : List Int) : Int := if FrameOk W H p ∧ FrameOk W2 H2 q ∧ W = W2 ∧ H = H2 then sse p q p.length else -1
end Go.Proofs.Ytgkeopmihhcbiaa

/- Contracts: steps of quantization, lengths of a prefix code, its codes, bits of numbers, symbols, options. No condition. -/
namespace Go.Proofs.Ytgkeopmihhcbiaa
open Go Go.Abs
set_option linter.unusedVariables false
set_option linter.unusedSimpArgs false
set_option maxRecDepth 100000
set_option maxHeartbeats 4000000
attribute [local irreducible] WpA WpL Rnd Blk Abs.Seq Abs.Fin Abs.FinG FnC FnG Only

theorem wrap64 (p : Int) (h : -9223372036854775808 ≤ p ∧ p ≤ 9223372036854775807) : IntKind.i64.wrap p = p := IntWalk.i64_in p h
def stepX (q : Int) : Int := IntKind.i64.wrap (([8, 9, 10, 11, 13, 14] : List Int).getD (q % 6).toNat 0 * 2 ^ (q / 6).toNat)
theorem stepX_bd (q : Int) (h : 0 ≤ q ∧ q ≤ 51) : 8 ≤ stepX q ∧ stepX q ≤ 4000 := by
  have key : ∀ k : Fin 52, 8 ≤ stepX k.val ∧ stepX k.val ≤ 4000 := by decide
  obtain ⟨k, rfl⟩ : ∃ k : Nat, q = k := ⟨q.toNat, by omega⟩
  exact key ⟨k, by omega⟩
def stepL (q : Int) : Int := if 0 ≤ q ∧ q ≤ 51 then stepX q / 8 else 0
theorem stepL_in (q : Int) (h : 0 ≤ q ∧ q ≤ 51) : 1 ≤ stepL q ∧ stepL q ≤ 500 := by
  have := stepX_bd q h
  rw [stepL, if_pos h]; omega
theorem stepL_pos (q : Int) : 0 < stepL q ↔ 0 ≤ q ∧ q ≤ 51 := by
  by_cases h : 0 ≤ q ∧ q ≤ 51
  · have := stepL_in q h; constructor <;> intro _ <;> omega
  · rw [stepL, if_neg h]; constructor <;> intro _ <;> omega
instance StepOf_s : Con 103 (∀ q : Int, Fn 103 [I q] [] (I (stepL q))) := ⟨fun q => by
  refine FnC.of_body tabOk Try.func103 Try.ntmps103 rfl (by decide +kernel) (by simp) fun G => ?_
  have hx := stepX_bd q
  unfold stepX at hx
  refine go (r := ?_); and_intros <;> intros <;> try exact True.intro
  all_goals first | (rw [stepL, if_neg (by assumption)]; done) | (rw [stepL, if_pos (by assumption)]; rfl)⟩
instance StepOf_c : Con 196 (∀ q : Int, Fn 196 [I q] [] (I (stepL q))) := ⟨fun q => by
  refine FnC.of_body tabOk Try.func196 Try.ntmps196 rfl (by decide +kernel) (by simp) fun G => ?_
  have hx := stepX_bd q
  unfold stepX at hx
  refine go (r := ?_); and_intros <;> intros <;> try exact True.intro
  all_goals first | (rw [stepL, if_neg (by assumption)]; done) | (rw [stepL, if_pos (by assumption)]; rfl)⟩

/-! Lengths of a code. -/
def cw (n : Int) : Int := if 0 < n then 2 ^ (7 - n).toNat else 0
theorem cw_wrap (n : Int) (h : 0 ≤ n ∧ n ≤ 7) (h0 : n > 0) : IntKind.i64.wrap (1 * 2 ^ (7 - n).toNat) = cw n ∧ 1 ≤ cw n ∧ cw n ≤ 64 := by
  have key : ∀ k : Fin 8, 0 < k.val → IntKind.i64.wrap (1 * 2 ^ (7 - (k.val : Int)).toNat) = cw k.val ∧ 1 ≤ cw k.val ∧ cw k.val ≤ 64 := by decide
  obtain ⟨k, rfl⟩ : ∃ k : Nat, n = k := ⟨n.toNat, by omega⟩
  exact key ⟨k, by omega⟩ (show 0 < k by omega)
def csum (l : List Int) : Int := (l.map cw).sum
theorem csum_snoc (l : List Int) (k : Nat) (h : k < l.length) : csum (l.take (k + 1)) = csum (l.take k) + cw (l.getD k 0) := by
  unfold csum; rw [List.take_succ_eq_append_getElem h, List.map_append, List.sum_append]; simp [h]
def CodeOk (l : List Int) : Prop := In l 0 7 ∧ l.length = 6 ∧ csum l = 128
instance (l : List Int) : Decidable (CodeOk l) := by unfold CodeOk; infer_instance
instance CodeOk_s : Con 126 (∀ l : List Int, l.length ≤ 1099511627776 → Fn 126 [IL l] [] (B (decide (CodeOk l)))) := ⟨fun l hl => by
  refine FnC.of_body tabOk Try.func126 Try.ntmps126 rfl (by decide +kernel) (by simp) fun G => ?_
  refine go (r := ?_); and_intros <;> intros <;> try exact True.intro
  refine WpA.loop (fun k : Nat => ⟨[(0, IL l), (3, I (csum (l.take k))), (4, I k)], []⟩) (fun k => k ≤ l.length ∧ In (l.take k) 0 7 ∧ 0 ≤ csum (l.take k) ∧ csum (l.take k) ≤ 64 * k) (fun k => l.length - k) 0 (by simp [in_nil, csum]) (go (r := ?_)) (fun k hk => ?_)
  · simp [csum]
  have hs := fun h => csum_snoc l k h
  have hi := fun h => in_snoc (lo := 0) (hi := 7) (l := l) (k := k) h
  have hw := cw_wrap (l.getD k 0)
  have hw0 : ¬ l.getD k 0 > 0 → cw (l.getD k 0) = 0 := fun h => by unfold cw; rw [if_neg (by omega)]
  refine go (r := ?_); and_intros <;> intros <;> try exact True.intro
  · have := notin (k := k) (by omega) ‹¬ (0 ≤ l.getD k 0 ∧ _)›; rw [eq_comm, decide_eq_false_iff_not] at *; exact fun h => this h.1
  · rw [hi (by omega)]; exact ⟨hk.2.1, ‹_›⟩
  · rw [hi (by omega)]; exact ⟨hk.2.1, ‹_›⟩
  all_goals have e : k = l.length := by omega
  all_goals subst e
  all_goals rw [List.take_length] at *
  · have h6 : l.length = 6 := by omega
    simp [CodeOk, hk.2.1, h6]
  · have h6 : ¬ l.length = 6 := by omega
    simp [CodeOk, h6]⟩
instance CodeOk_c : Con 136 (∀ l : List Int, l.length ≤ 1099511627776 → Fn 136 [IL l] [] (B (decide (CodeOk l)))) := ⟨fun l hl => by
  refine FnC.of_body tabOk Try.func136 Try.ntmps136 rfl (by decide +kernel) (by simp) fun G => ?_
  refine go (r := ?_); and_intros <;> intros <;> try exact True.intro
  refine WpA.loop (fun k : Nat => ⟨[(0, IL l), (3, I (csum (l.take k))), (6, IL l), (7, I l.length), (8, I k)], []⟩) (fun k => k ≤ l.length ∧ In (l.take k) 0 7 ∧ 0 ≤ csum (l.take k) ∧ csum (l.take k) ≤ 64 * k) (fun k => l.length - k) 0 (by simp [in_nil, csum]) (go (r := ?_)) (fun k hk => ?_)
  · simp [csum]
  have hs := fun h => csum_snoc l k h
  have hi := fun h => in_snoc (lo := 0) (hi := 7) (l := l) (k := k) h
  have hw := cw_wrap (l.getD k 0)
  have hw0 : ¬ l.getD k 0 > 0 → cw (l.getD k 0) = 0 := fun h => by unfold cw; rw [if_neg (by omega)]
  refine go (r := ?_); and_intros <;> intros <;> try exact True.intro
  · have := notin (k := k) (by omega) ‹¬ (0 ≤ l.getD k 0 ∧ _)›; rw [eq_comm, decide_eq_false_iff_not] at *; exact fun h => this h.1
  · rw [hi (by omega)]; exact ⟨hk.2.1, ‹_›⟩
  · rw [hi (by omega)]; exact ⟨hk.2.1, ‹_›⟩
  all_goals have e : k = l.length := by omega
  all_goals subst e
  all_goals rw [List.take_length] at *
  · have h6 : l.length = 6 := by omega
    simp [CodeOk, hk.2.1, h6]
  · have h6 : ¬ l.length = 6 := by omega
    simp [CodeOk, h6]⟩

/-! The codes. -/
def cIn (w : Int) (l : List Int) : Nat → List Int × Int → List Int × Int
  | 0, s => s
  | i + 1, s => if l.getD i 0 = w then ((cIn w l i s).1.set i (cIn w l i s).2, (cIn w l i s).2 + 1) else cIn w l i s
def cOut (l : List Int) : Nat → List Int × Int
  | 0 => (List.replicate l.length (-1), 0)
  | w + 1 => cIn ((w : Int) + 1) l l.length ((cOut l w).1, (cOut l w).2 * 2)
def codes (l : List Int) : List Int := (cOut l 7).1
theorem cIn_len (w : Int) (l : List Int) : ∀ (i : Nat) (s : List Int × Int), (cIn w l i s).1.length = s.1.length
  | 0, s => rfl
  | i + 1, s => by
    rw [cIn]; split
    · rw [List.length_set]; exact cIn_len w l i s
    · exact cIn_len w l i s
theorem cOut_len (l : List Int) : ∀ w, (cOut l w).1.length = l.length
  | 0 => by simp [cOut]
  | w + 1 => by rw [cOut, cIn_len, cOut_len l w]
theorem cIn_bd (w : Int) (l : List Int) : ∀ (i : Nat) (s : List Int × Int), s.2 ≤ (cIn w l i s).2 ∧ (cIn w l i s).2 ≤ s.2 + i
  | 0, s => by simp [cIn]
  | i + 1, s => by rw [cIn]; have := cIn_bd w l i s; split <;> first | (simp only; omega) | omega
theorem cOut_bd (l : List Int) (h : l.length = 6) : ∀ w, 0 ≤ (cOut l w).2 ∧ (cOut l w).2 ≤ 6 * (2 ^ w - 1)
  | 0 => by simp [cOut]
  | w + 1 => by
    rw [cOut]
    have h1 := cIn_bd ((w : Int) + 1) l l.length ((cOut l w).1, (cOut l w).2 * 2)
    have h2 := cOut_bd l h w
    simp only at h1
    rw [Int.pow_succ]; omega
theorem cOut_bd7 (l : List Int) (h : l.length = 6) (w : Nat) (hw : w ≤ 7) : 0 ≤ (cOut l w).2 ∧ (cOut l w).2 ≤ 768 := by
  have h1 := cOut_bd l h w
  have : (2 : Int) ^ w ≤ 2 ^ 7 := by
    have := Nat.pow_le_pow_right (n := 2) (by decide) hw
    exact_mod_cast this
  omega
def codesR (l : List Int) : List Int := if CodeOk l then codes l else []
theorem cIn_yes {w : Int} {l : List Int} {i : Nat} {s : List Int × Int} (h : l.getD i 0 = w) : cIn w l (i + 1) s = ((cIn w l i s).1.set i (cIn w l i s).2, (cIn w l i s).2 + 1) := by rw [cIn, if_pos h]
theorem cIn_no {w : Int} {l : List Int} {i : Nat} {s : List Int × Int} (h : ¬ l.getD i 0 = w) : cIn w l (i + 1) s = cIn w l i s := by rw [cIn, if_neg h]
instance CodesOf_c : ConB 215 (∀ l : List Int, l.length ≤ 1099511627776 → Bn 215 [IL l] (CodeOk l) [XI (codes l)] (.own 0 0 0 6) [] .nilS) := ⟨fun l hl => by
  refine ⟨fun hok => ?_, fun hno => ?_⟩
  · have h6 := hok.2.1
    refine FnC.of_body tabOk Try.func215 Try.ntmps215 rfl (by decide +kernel) (by simp) fun G => ?_
    refine go (r := ?_); and_intros <;> intros <;> try exact True.intro
    all_goals first | (exact absurd hok ‹¬ CodeOk l›) | skip
    refine WpA.loop (fun w : Nat => ⟨[(0, IL l), (3, .own 0 0 0 l.length), (4, I (cOut l w).2), (5, I ((w : Int) + 1))], [XI (cOut l w).1]⟩) (fun w => w ≤ 7) (fun w => 7 - w) 0 (by simp) (go (r := ?_)) (fun w hw => ?_)
    · simp [cOut, h6]
    have hb := cOut_bd7 l h6 w hw
    have hsh : IntKind.i64.wrap ((cOut l w).2 * 2) = (cOut l w).2 * 2 := wrap64 _ (by omega)
    refine go (r := ?_); and_intros <;> intros <;> try exact True.intro
    · refine WpA.loop (fun i : Nat => ⟨[(0, IL l), (3, .own 0 0 0 l.length), (4, I (cIn ((w : Int) + 1) l i ((cOut l w).1, (cOut l w).2 * 2)).2), (5, I ((w : Int) + 1)), (18, IL l), (19, I l.length), (20, I i)], [XI (cIn ((w : Int) + 1) l i ((cOut l w).1, (cOut l w).2 * 2)).1]⟩) (fun i => i ≤ l.length) (fun i => l.length - i) 0 (by simp) (go (r := ?_)) (fun i hi => ?_)
      · simp [cIn, hsh]
      have hb2 := cIn_bd ((w : Int) + 1) l i ((cOut l w).1, (cOut l w).2 * 2)
      have hl2 := cIn_len ((w : Int) + 1) l i ((cOut l w).1, (cOut l w).2 * 2)
      have hl3 := cOut_len l w
      simp only at hb2 hl2
      refine go (r := ?_); and_intros <;> intros <;> try exact True.intro
      · rw [cIn_yes (by assumption)]
      · rw [cIn_yes (by assumption)]; rfl
      · rw [cIn_no (by assumption)]
      · rw [cIn_no (by assumption)]
      all_goals have e : i = l.length := by omega
      all_goals subst e; rfl
    all_goals have e : w = 7 := by omega
    all_goals subst e; rfl
  · refine FnC.of_body tabOk Try.func215 Try.ntmps215 rfl (by decide +kernel) (by simp) fun G => ?_
    refine go (r := ?_); and_intros <;> intros <;> try exact True.intro
    all_goals exact absurd ‹CodeOk l› hno⟩

/-! Bits of a number. -/
def bitOk (n w : Int) : Prop := (0 ≤ w ∧ w ≤ 48) ∧ 0 ≤ n ∧ n / 2 ^ w.toNat = 0
instance (n w : Int) : Decidable (bitOk n w) := by unfold bitOk; infer_instance
def bitsR (n : Int) (w : Nat) (k : Nat) : List Int := (List.range k).map fun j : Nat => n / 2 ^ (w - 1 - j) % 2
def bitsL (n w : Int) : List Int := if bitOk n w then bitsR n w.toNat w.toNat else []
theorem low1 (k : Int) (h : 0 ≤ k ∧ k ≤ 9223372036854775807) : IntKind.i64.wrap ((BitVec.ofInt IntKind.i64.bits k &&& BitVec.ofInt IntKind.i64.bits 1).toNat : Nat) = k % 2 := by
  obtain ⟨m, rfl⟩ : ∃ m : Nat, k = m := ⟨k.toNat, by omega⟩
  have e1 : (BitVec.ofInt IntKind.i64.bits (m : Int)).toNat = m := by simp only [IntKind.bits, BitVec.toNat_ofInt]; omega
  have e : (BitVec.ofInt IntKind.i64.bits (m : Int) &&& BitVec.ofInt IntKind.i64.bits 1).toNat = m % 2 := by
    rw [BitVec.toNat_and, e1, show (BitVec.ofInt IntKind.i64.bits (1 : Int)).toNat = 2 ^ 1 - 1 from by decide, Nat.and_two_pow_sub_one_eq_mod]
  rw [e, wrap64 _ (by omega)]; omega
/-! Options. -/
def OptOk (q : Int) (l : List Int) : Prop := (0 ≤ q ∧ q ≤ 51) ∧ CodeOk l
instance (q : Int) (l : List Int) : Decidable (OptOk q l) := by unfold OptOk; infer_instance
instance OptionsOk_s : Con 44 (∀ (q : Int) (b d : Bool) (l m : List Int) (e : List Bool), l.length ≤ 1099511627776 → Fn 44 [OpA q b d l m e] [] (B (decide (OptOk q l)))) := ⟨fun q b d l m e hl => by
  refine FnC.of_body tabOk Try.func44 Try.ntmps44 rfl (by decide +kernel) (by simp) fun G => ?_
  have hs := stepL_pos q
  refine go (r := ?_); and_intros <;> intros <;> try exact True.intro
  all_goals first | (have h : 0 ≤ q ∧ q ≤ 51 := by omega
                     simp [OptOk, h]; done) | (have h : ¬ (0 ≤ q ∧ q ≤ 51) := by omega
                                               simp [OptOk, h]; done)⟩
instance OptionsOk_c : Con 113 (∀ (q : Int) (b d : Bool) (l m : List Int) (e : List Bool), l.length ≤ 1099511627776 → Fn 113 [OpA q b d l m e] [] (B (decide (OptOk q l)))) := ⟨fun q b d l m e hl => by
  refine FnC.of_body tabOk Try.func113 Try.ntmps113 rfl (by decide +kernel) (by simp) fun G => ?_
  refine go (r := ?_); and_intros <;> intros <;> try exact True.intro
  all_goals first | (have h : 0 ≤ q ∧ q ≤ 51 := by omega
                     simp [OptOk, h]; done) | (have h : ¬ (0 ≤ q ∧ q ≤ 51) := by omega
                                               simp [OptOk, h]; done)⟩
end Go.Proofs.Ytgkeopmihhcbiaa

/- The codes of a whole prefix code: each fits its length, no code begins another one, and all words of seven bits begin with one. No condition. -/
namespace Go.Proofs.Ytgkeopmihhcbiaa
open Go Go.Abs
set_option linter.unusedVariables false
set_option linter.unusedSimpArgs false

def Dn (l : List Int) (w : Int) (i m : Nat) : Prop := (1 ≤ l.getD m 0 ∧ l.getD m 0 < w) ∨ (l.getD m 0 = w ∧ m < i)
def hit (c l : List Int) (m : Nat) (v : Int) : Prop := c.getD m 0 * cw (l.getD m 0) ≤ v ∧ v < (c.getD m 0 + 1) * cw (l.getD m 0)
structure J (l : List Int) (w p : Int) (i : Nat) (s : List Int × Int) : Prop where
  len : s.1.length = l.length
  lo : 0 ≤ s.2
  cod : ∀ m, m < l.length → Dn l w i m → 0 ≤ s.1.getD m 0 ∧ (s.1.getD m 0 + 1) * cw (l.getD m 0) ≤ s.2 * p
  cov : ∀ v, 0 ≤ v → v < s.2 * p → ∃ m, m < l.length ∧ Dn l w i m ∧ hit s.1 l m v
  uni : ∀ m m' v, m < l.length → m' < l.length → Dn l w i m → Dn l w i m' → hit s.1 l m v → hit s.1 l m' v → m = m'

theorem getD_set (c : List Int) (i m : Nat) (v : Int) (h : i < c.length) : (c.set i v).getD m 0 = if m = i then v else c.getD m 0 := by
  rw [List.getD_eq_getElem?_getD, List.getElem?_set]
  by_cases e : i = m
  · subst e; simp [h]
  · have : ¬ m = i := fun h => e h.symm
    simp [e, this]
theorem J.step {l : List Int} {w p : Int} {i : Nat} {s : List Int × Int} (h : J l w p i s) (hi : i < l.length) (hp : cw w = p) (hp0 : 0 < p) (hw : 1 ≤ w) :
    J l w p (i + 1) (if l.getD i 0 = w then (s.1.set i s.2, s.2 + 1) else s) := by
  by_cases e : l.getD i 0 = w
  · rw [if_pos e]
    have hl := h.len
    have hmul : (s.2 + 1) * p = s.2 * p + p := by rw [Int.add_mul, Int.one_mul]
    have hD : ∀ m, Dn l w (i + 1) m ↔ Dn l w i m ∨ m = i := by
      intro m; unfold Dn; constructor
      · rintro (h | ⟨h1, h2⟩)
        · exact .inl (.inl h)
        · by_cases hm : m = i
          · exact .inr hm
          · exact .inl (.inr ⟨h1, by omega⟩)
      · rintro ((h | ⟨h1, h2⟩) | rfl)
        · exact .inl h
        · exact .inr ⟨h1, by omega⟩
        · exact .inr ⟨e, by omega⟩
    have hne : ∀ m, Dn l w i m → m ≠ i := by
      rintro m (h | ⟨_, h⟩) rfl
      · omega
      · omega
    have hg : ∀ m, (s.1.set i s.2).getD m 0 = if m = i then s.2 else s.1.getD m 0 := fun m => getD_set s.1 i m s.2 (by omega)
    have hhit : ∀ m v, m ≠ i → (hit (s.1.set i s.2) l m v ↔ hit s.1 l m v) := by intro m v hm; unfold hit; rw [hg, if_neg hm]
    have hhi : ∀ v, hit (s.1.set i s.2) l i v ↔ s.2 * p ≤ v ∧ v < s.2 * p + p := by intro v; unfold hit; rw [hg, if_pos rfl, e, hp, hmul]
    refine ⟨by simp [hl], by have := h.lo; simp only; omega, fun m hm hd => ?_, fun v h0 hv => ?_, fun m m' v hm hm' hd hd' h1 h2 => ?_⟩
    · show 0 ≤ (s.1.set i s.2).getD m 0 ∧ ((s.1.set i s.2).getD m 0 + 1) * _ ≤ (s.2 + 1) * p
      rw [hg, hmul]
      rcases (hD m).1 hd with hd | rfl
      · rw [if_neg (hne m hd)]; have := h.cod m hm hd; omega
      · rw [if_pos rfl, e, hp, hmul]; have := h.lo; omega
    · have hv : v < (s.2 + 1) * p := hv
      rw [hmul] at hv
      by_cases hlt : v < s.2 * p
      · obtain ⟨m, h1, h2, h3⟩ := h.cov v h0 hlt
        exact ⟨m, h1, (hD m).2 (.inl h2), (hhit m v (hne m h2)).2 h3⟩
      · exact ⟨i, hi, (hD i).2 (.inr rfl), (hhi v).2 ⟨by omega, hv⟩⟩
    · rcases (hD m).1 hd with d1 | rfl <;> rcases (hD m').1 hd' with d2 | e2
      · exact h.uni m m' v hm hm' d1 d2 ((hhit m v (hne m d1)).1 h1) ((hhit m' v (hne m' d2)).1 h2)
      · subst e2
        have a := (hhit m v (hne m d1)).1 h1
        have b := (hhi v).1 h2
        have c := h.cod m hm d1
        unfold hit at a; omega
      · have a := (hhit m' v (hne m' d2)).1 h2
        have b := (hhi v).1 h1
        have c := h.cod m' hm' d2
        unfold hit at a; omega
      · exact e2.symm
  · rw [if_neg e]
    have hD : ∀ m, Dn l w (i + 1) m ↔ Dn l w i m := by
      intro m; unfold Dn; constructor
      · rintro (h | ⟨h1, h2⟩)
        · exact .inl h
        · refine .inr ⟨h1, ?_⟩
          have : m ≠ i := by rintro rfl; exact e h1
          omega
      · rintro (h | ⟨h1, h2⟩)
        · exact .inl h
        · exact .inr ⟨h1, by omega⟩
    exact ⟨h.len, h.lo, fun m hm hd => h.cod m hm ((hD m).1 hd), fun v h0 hv => by
      obtain ⟨m, h1, h2, h3⟩ := h.cov v h0 hv
      exact ⟨m, h1, (hD m).2 h2, h3⟩, fun m m' v hm hm' hd hd' => h.uni m m' v hm hm' ((hD m).1 hd) ((hD m').1 hd')⟩
/-! What is wanted of it. -/
end Go.Proofs.Ytgkeopmihhcbiaa

/- Contracts: the bits of a mode, whether it has a code, which mode a block gets; the law FnExactModeFor. No condition. -/
namespace Go.Proofs.Ytgkeopmihhcbiaa
open Go Go.Abs
set_option linter.unusedVariables false
set_option linter.unusedSimpArgs false
set_option maxRecDepth 100000
set_option maxHeartbeats 4000000
attribute [local irreducible] WpA WpL Rnd Blk Abs.Seq Abs.Fin Abs.FinG FnC FnG Only

def HasC (l : List Int) (m : Int) : Prop := CodeOk l ∧ (0 ≤ m ∧ m ≤ 5) ∧ l.getD m.toNat 0 ≠ 0
instance (l : List Int) (m : Int) : Decidable (HasC l m) := by unfold HasC; infer_instance
def symL (l : List Int) (m : Int) : List Int := if HasC l m then bitsL ((codes l).getD m.toNat 0) (l.getD m.toNat 0) else []
/-! The first mode with a code. -/
def firstM (l : List Int) : Nat := l.findIdx (fun x => decide (x ≠ 0))
def modeF (q : Int) (l ms : List Int) (k : Int) : Int := if OptOk q l ∧ 0 ≤ k then
  (if ms ≠ [] ∧ HasC l (ms.getD (k % ms.length).toNat 0) then ms.getD (k % ms.length).toNat 0 else firstM l) else -1
abbrev OpO (q : Int) (b d : Bool) (l m : List Int) (e : List Bool) : AObj := ⟨[I q, B b, B d, IL l, IL m, BL e], 0, 0, none⟩
end Go.Proofs.Ytgkeopmihhcbiaa

/- What is drawn out of a cursor: options. No condition. -/
namespace Go.Proofs.Ytgkeopmihhcbiaa
open Go Go.Abs
set_option linter.unusedVariables false
set_option linter.unusedSimpArgs false
set_option maxRecDepth 100000
set_option maxHeartbeats 4000000
attribute [local irreducible] WpA WpL Rnd Blk Abs.Seq Abs.Fin Abs.FinG FnC FnG FnX FnP FinX Only
attribute [local irreducible] belowD onceD pickD modeD l8D l8AnyD

def modesD (l : List Int) : Nat → Cr × List Int → Cr × List Int
  | 0, s => s
  | n + 1, s => modesD l n ((modeD l s.1).1, s.2 ++ [(modeD l s.1).2])
def onesD (l : List Int) : Nat → Cr × List Bool → Cr × List Bool
  | 0, s => s
  | n + 1, s => onesD l n ((onceD l s.1 2).1, s.2 ++ [(onceD l s.1 2).2])
theorem modeD_ok {l : List Int} {c : Cr} (h : CrOk l c) : CrOk l (modeD l c).1 := by
  unfold modeD; exact (pickD_ok h (by decide)).1
theorem modesD_ok {l : List Int} : ∀ (n : Nat) (s : Cr × List Int), CrOk l s.1 → CrOk l (modesD l n s).1 ∧ (modesD l n s).2.length = s.2.length + n
  | 0, s, h => ⟨h, rfl⟩
  | n + 1, s, h => by
    have := modesD_ok n ((modeD l s.1).1, s.2 ++ [(modeD l s.1).2]) (modeD_ok h)
    exact ⟨this.1, by rw [modesD, this.2]; simp; omega⟩
theorem onesD_ok {l : List Int} : ∀ (n : Nat) (s : Cr × List Bool), CrOk l s.1 → CrOk l (onesD l n s).1 ∧ (onesD l n s).2.length = s.2.length + n
  | 0, s, h => ⟨h, rfl⟩
  | n + 1, s, h => by
    have := onesD_ok n ((onceD l s.1 2).1, s.2 ++ [(onceD l s.1 2).2]) (onceD_ok 2 h)
    exact ⟨this.1, by rw [onesD, this.2]; simp; omega⟩
structure Op6 where
  q : Int
  b : Bool
  d : Bool
  lens : List Int
  ms : List Int
  es : List Bool
abbrev quant7 : List Int := [0, 0, 6, 12, 24, 36, 51]
def optD (l : List Int) (c : Cr) : Cr × Op6 :=
  let q := pickD l c quant7
  let b := onceD l q.1 4
  let d := onceD l b.1 2
  let e := l8D l d.1
  let n := belowD l e.1 5
  let m := modesD l n.2.toNat (n.1, [])
  let k := belowD l m.1 4
  let s := onesD l k.2.toNat (k.1, [])
  (s.1, ⟨q.2, b.2, d.2, e.2, m.2, s.2⟩)
abbrev OpOwn (o : Op6) : AV := .agg [I o.q, B o.b, B o.d, .own 1 0 0 o.lens.length, .own 2 0 0 o.ms.length, .own 3 0 0 o.es.length]
instance l27Options_p : ConP 207 (∀ (v : Value) (l : List Int) (c : Cr), CrOk l c → Pn 207 v l c [] (optD l c).1 [XI (optD l c).2.lens, XI (optD l c).2.ms, ⟨bools (optD l c).2.es, 0, 1, some 4⟩] (OpOwn (optD l c).2)) := ⟨fun v l c h => by
  have hq := pickD_ok (xs := quant7) h (by decide)
  have hb := onceD_ok 4 hq.1
  have hd := onceD_ok 2 hb
  have h8 := l8D_ok hd
  have hn := belowD_ok 5 h8.1
  have hn0 := hn.2.1
  have hn1 := hn.2.2.1 (by decide)
  have hm := modesD_ok (l := l) (belowD l (l8D l (onceD l (onceD l (pickD l c quant7).1 4).1 2).1).1 5).2.toNat ((belowD l (l8D l (onceD l (onceD l (pickD l c quant7).1 4).1 2).1).1 5).1, []) hn.1
  have hm0 := hm.1
  have hm1 := hm.2
  have hk := belowD_ok 4 hm0
  have hk0 := hk.2.1
  have hk1 := hk.2.2.1 (by decide)
  have hs := onesD_ok (l := l) (belowD l (modesD l (belowD l (l8D l (onceD l (onceD l (pickD l c quant7).1 4).1 2).1).1 5).2.toNat ((belowD l (l8D l (onceD l (onceD l (pickD l c quant7).1 4).1 2).1).1 5).1, [])).1 4).2.toNat ((belowD l (modesD l (belowD l (l8D l (onceD l (onceD l (pickD l c quant7).1 4).1 2).1).1 5).2.toNat ((belowD l (l8D l (onceD l (onceD l (pickD l c quant7).1 4).1 2).1).1 5).1, [])).1 4).1, []) hk.1
  show Pn _ v l c [] _ [XI _, XI _, ⟨bools _, 0, 1, _⟩] (OpOwn _)
  unfold optD
  simp only
  generalize hS : onesD l _ _ = S at hs ⊢
  refine FnP.of_body tabOk Try.func207 Try.ntmps207 rfl (by decide +kernel) (by simp) rfl rfl rfl fun G hp => ?_
  refine go (r := ?_); and_intros <;> intros <;> try exact True.intro
  all_goals first | exact h.1 | exact h.2.1 | exact h.2.2 | exact hq.1.2.1 | exact hq.1.2.2 | exact hb.2.1 | exact hb.2.2 | exact hd.2.1 | exact hd.2.2 | exact h8.1.2.1 | exact h8.1.2.2 | decide | skip
  generalize hM : modesD l _ _ = M at *
  generalize (pickD l c quant7).2 = q0
  generalize (onceD l (onceD l (pickD l c quant7).1 4).1 2).2 = d0
  generalize (onceD l (pickD l c quant7).1 4).2 = b0
  generalize (l8D l (onceD l (onceD l (pickD l c quant7).1 4).1 2).1).2 = L0
  generalize belowD l (l8D l (onceD l (onceD l (pickD l c quant7).1 4).1 2).1).1 5 = n0 at *
  refine WpA.loop (fun x : Nat × Cr × List Int => ⟨[(0, .ptr 0 0 0), (2, .ptr 1 0 0), (3, .ptr 4 0 0), (4, I x.1)], [CurO v x.2.1, ⟨[I 0, B false, B false, .nilS, .nilS, .nilS], 0, 0, none⟩, XI quant7, XI L0, ⟨[I q0, B b0, B d0, .own 3 0 0 L0.length, .own 5 0 0 x.2.2.length, .nilS], 0, 0, none⟩, XI x.2.2]⟩) (fun x => CrOk l x.2.1 ∧ modesD l x.1 x.2 = M ∧ x.1 + x.2.2.length ≤ 5) (fun x => x.1) (n0.2.toNat, n0.1, []) ?_ ?_ ?_
  · exact ⟨hn.1, hM, by show _ + 0 ≤ _; omega⟩
  · have ez : ((n0.2.toNat : Nat) : Int) = n0.2 := by omega
    simp only [ez]
    exact Weak.nil1 (by first | (show 0 ≤ _; exact Nat.zero_le _) | (repeat' (first | exact RzT.nil | refine RzT.cons ?_ ?_ | exact Rz.nil | refine Rz.keep rfl rfl ?_ | refine Rz.own rfl rfl rfl rfl rfl (by first | rfl | omega | (simp; done)) ?_ | refine Rz.ptr rfl rfl rfl rfl ?_ | refine Rz.nilO rfl rfl rfl (by first | rfl | omega | (simp; done)) ?_ | refine Rz.agg ?_ ?_ | exact RzO.last rfl | (refine RzO.cons ?_ (.inr rfl) ?_) | exact Rz.same rfl (still_ints _) | exact Rz.same rfl (still_rows (fun _ => rfl) _)))) (by first | (show 0 ≤ _; exact Nat.zero_le _) | (repeat' (first | exact RzT.nil | refine RzT.cons ?_ ?_ | exact Rz.nil | refine Rz.keep rfl rfl ?_ | refine Rz.own rfl rfl rfl rfl rfl (by first | rfl | omega | (simp; done)) ?_ | refine Rz.ptr rfl rfl rfl rfl ?_ | refine Rz.nilO rfl rfl rfl (by first | rfl | omega | (simp; done)) ?_ | refine Rz.agg ?_ ?_ | exact RzO.last rfl | (refine RzO.cons ?_ (.inr rfl) ?_) | exact Rz.same rfl (still_ints _) | exact Rz.same rfl (still_rows (fun _ => rfl) _)))) (Nat.le_of_ble_eq_true rfl)
  · rintro ⟨k, c1, ms⟩ ⟨hc1, hM1, hlen⟩
    simp only at hc1 hM1 hlen ⊢
    have hmk := modeD_ok hc1
    by_cases hkz : k = 0
    · subst hkz
      have hMe : (c1, ms) = M := hM1
      subst hMe
      refine go (r := ?_); and_intros <;> intros <;> try exact True.intro
      all_goals first | exact hc1.2.1 | exact hc1.2.2 | skip
      generalize belowD l c1 4 = n1 at *
      refine WpA.loop (fun x : Nat × Cr × List Bool => ⟨[(0, .ptr 0 0 0), (2, .ptr 1 0 0), (3, .ptr 4 0 0), (5, I x.1)], [CurO v x.2.1, ⟨[I 0, B false, B false, .nilS, .nilS, .nilS], 0, 0, none⟩, XI quant7, XI L0, ⟨[I q0, B b0, B d0, .own 3 0 0 L0.length, .own 5 0 0 ms.length, .own 6 0 0 x.2.2.length], 0, 0, none⟩, XI ms, ⟨bools x.2.2, 0, 1, some 4⟩]⟩) (fun x => CrOk l x.2.1 ∧ onesD l x.1 x.2 = S ∧ x.1 + x.2.2.length ≤ 4) (fun x => x.1) (n1.2.toNat, n1.1, []) ?_ ?_ ?_
      · exact ⟨hk.1, hS, by show _ + 0 ≤ _; omega⟩
      · have ez : ((n1.2.toNat : Nat) : Int) = n1.2 := by omega
        simp only [ez]
        exact Weak.nil1 (by first | (show 0 ≤ _; exact Nat.zero_le _) | (repeat' (first | exact RzT.nil | refine RzT.cons ?_ ?_ | exact Rz.nil | refine Rz.keep rfl rfl ?_ | refine Rz.own rfl rfl rfl rfl rfl (by first | rfl | omega | (simp; done)) ?_ | refine Rz.ptr rfl rfl rfl rfl ?_ | refine Rz.nilO rfl rfl rfl (by first | rfl | omega | (simp; done)) ?_ | refine Rz.agg ?_ ?_ | exact RzO.last rfl | (refine RzO.cons ?_ (.inr rfl) ?_) | exact Rz.same rfl (still_ints _) | exact Rz.same rfl (still_rows (fun _ => rfl) _)))) (by first | (show 0 ≤ _; exact Nat.zero_le _) | (repeat' (first | exact RzT.nil | refine RzT.cons ?_ ?_ | exact Rz.nil | refine Rz.keep rfl rfl ?_ | refine Rz.own rfl rfl rfl rfl rfl (by first | rfl | omega | (simp; done)) ?_ | refine Rz.ptr rfl rfl rfl rfl ?_ | refine Rz.nilO rfl rfl rfl (by first | rfl | omega | (simp; done)) ?_ | refine Rz.agg ?_ ?_ | exact RzO.last rfl | (refine RzO.cons ?_ (.inr rfl) ?_) | exact Rz.same rfl (still_ints _) | exact Rz.same rfl (still_rows (fun _ => rfl) _)))) (Nat.le_of_ble_eq_true rfl)
      · rintro ⟨k, c2, es⟩ ⟨hc2, hS1, hlen2⟩
        simp only at hc2 hS1 hlen2 ⊢
        have hok := onceD_ok 2 hc2
        by_cases hkz : k = 0
        · subst hkz
          have hSe : (c2, es) = S := hS1
          subst hSe
          refine go (r := ?_); and_intros <;> intros <;> try exact True.intro
          exact FinG.oI [some 0, some 3, some 5, some 6] rfl (ResV.cell (ds := [_, _, _, _, _, _]) rfl rfl rfl rfl rfl) (.agg (.keep rfl rfl rfl (.keep rfl rfl rfl (.keep rfl rfl rfl (.own rfl rfl rfl rfl (.own rfl rfl rfl rfl (.own rfl rfl rfl rfl .nil)))))) .nil) (.obj rfl rfl rfl rfl rfl (.inr rfl) (.obj rfl rfl (still_ints _) rfl rfl (.inr rfl) (.obj rfl rfl (still_ints _) rfl rfl (.inr rfl) (.obj rfl rfl (still_bools _) rfl rfl (.inr rfl) .nil)))) rfl rfl
        · have hE : onesD l (k - 1) ((onceD l c2 2).1, es ++ [(onceD l c2 2).2]) = S := by
            obtain ⟨j, rfl⟩ : ∃ j, k = j + 1 := ⟨k - 1, by omega⟩
            exact hS1
          refine goR (r := ?_); and_intros <;> intros <;> try exact True.intro
          · apply WpA.regionQF (O := []) (Or := [CurO v c2, ⟨[I 0, B false, B false, .nilS, .nilS, .nilS], 0, 0, none⟩, XI quant7, XI L0, ⟨[I q0, B b0, B d0, .own 3 0 0 L0.length, .own 5 0 0 ms.length, .own 6 0 0 es.length], 0, 0, none⟩, XI ms, ⟨bools es, 0, 1, some 4⟩]) (O1 := [CurO v (onceD l c2 2).1, ⟨[I 0, B false, B false, .nilS, .nilS, .nilS], 0, 0, none⟩, XI quant7, XI L0, ⟨[I q0, B b0, B d0, .own 3 0 0 L0.length, .own 5 0 0 ms.length, .own 6 0 0 es.length], 0, 0, none⟩, XI ms, ⟨bools (es ++ [(onceD l c2 2).2]), 1, 1, some 4⟩, ⟨bools [(onceD l c2 2).2], 1, 1, some 4⟩, deadO]) 7 1 [4] rfl mixed (by decide +kernel)
            · exact rfl
            · apply HeadQ.consF .none rfl
              · exact rfl
              · intro Tv Ov hc hp hd hk
                obtain ⟨x0, x1, x2, x3, R, rfl⟩ := split5 (hk 4 rfl)
                exact in1
              · exact rfl
              · exact rfl
              apply HeadQ.consF .none rfl
              · exact rfl
              · intro Tv Ov hc hp hd hk
                obtain ⟨x0, x1, x2, x3, R, rfl⟩ := split5 (hk 4 rfl)
                exact in1
              · exact rfl
              · exact rfl
              apply HeadQ.consF .none rfl
              · exact rfl
              · exact in1
              · exact rfl
              · exact rfl
              apply HeadQ.consF (V := B (onceD l c2 2).2) (.step 0 (CurO v (onceD l c2 2).1)) rfl
              · exact rfl
              · intro Tv Ov hc hp' hd hk
                obtain ⟨R, rfl⟩ := split1 (hp' 0 _ rfl)
                refine K.call ?_
                refine K.conP (fun hcon => ?_)
                refine WpL.callP1 (hcon v l c2 2 hc2) hp handA handOA rfl (.cons rfl (.sc (.sc (.sc .nil))) .nil) (by decide) ?_
                exact WpL.nil (Only.mk rfl)
              · exact rfl
              · exact rfl
              apply HeadQ.consF (V := .own 7 1 0 1) (.put 7 (⟨bools [(onceD l c2 2).2], 1, 1, some 4⟩)) rfl
              · exact rfl
              · intro Tv Ov hc hp hd hk
                refine WpL.litF (cs := bools [(onceD l c2 2).2]) tabOk rfl rfl rfl rfl (by decide) (by rw [nid_len, Nat.zero_add]) (by decide) ?_
                apply WpL.putNil (p := 7)
                · exact hp 7 _ rfl
                · exact Nat.le_of_ble_eq_true rfl
                · exact rfl
                · first | exact still_ints _ | exact still_rows (fun _ => rfl) _ | rfl
              · exact rfl
              · exact rfl
              apply HeadQ.consF (V := .own 6 1 0 (es.length + 1)) (.step 6 ⟨bools (es ++ [(onceD l c2 2).2]), 1, 1, some 4⟩) rfl
              · exact rfl
              · intro Tv Ov hc hp hd hk
                refine WpL.appBools tabOk rfl rfl (fill_at (O := []) (hp 6 _ rfl)) (Nat.le_of_ble_eq_true rfl) rfl (srcB_own (fill_at (O := []) (hd 4 _ 7 _ (by decide) rfl rfl)) rfl) rfl rfl (by omega) (by decide) ?_
                exact WpL.nil (Only.mk (congrArg (St.mk _) (step_eq (O := []) Ov (p := 6) _)))
              · exact rfl
              · exact rfl
              apply HeadQ.consF .none rfl
              · exact rfl
              · intro Tv Ov hc hp hd hk
                obtain ⟨x0, x1, x2, x3, R, rfl⟩ := split5 (hk 4 rfl)
                exact in1
              · exact rfl
              · exact rfl
              exact HeadQ.nil
            · exact rfl
            · exact rfl
            · exact rfl
            · exact rfl
            · exact rfl
            · exact rfl
            · exact rfl
            refine go (r := ?_); and_intros <;> intros <;> try exact True.intro
            have e1 : ((k - 1 : Nat) : Int) = (k : Int) - 1 := by omega
            have e2 : (es ++ [(onceD l c2 2).2]).length = es.length + 1 := by simp
            refine Rnd.go (k - 1, (onceD l c2 2).1, es ++ [(onceD l c2 2).2]) ?_ ?_ ?_
            · exact ⟨hok, hE, by simp only [e2]; omega⟩
            · show k - 1 < k; omega
            · simp only [e1, e2]
              exact Weak.mk (.cons (.ptr rfl rfl rfl rfl .nil) (.cons (.ptr rfl rfl rfl rfl .nil) (.cons (.ptr rfl rfl rfl rfl .nil) (.cons (.keep rfl rfl .nil) .nil)))) (.cons (Re.same rfl rfl) (.inr rfl) (.cons (Re.same rfl rfl) (.inr rfl) (.cons (Re.same rfl rfl) (.inr rfl) (.cons (Re.same rfl (still_ints _)) (.inr rfl) (.cons (.keep rfl rfl (.keep rfl rfl (.keep rfl rfl (.own rfl rfl rfl rfl rfl rfl (.own rfl rfl rfl rfl rfl rfl (.own rfl rfl rfl rfl rfl rfl .nil)))))) (.inr rfl) (.cons (Re.same rfl (still_ints _)) (.inr rfl) (.cons (Re.same rfl (still_bools _)) (.inr rfl) .nil))))))) (Nat.le_of_ble_eq_true rfl)
    · have hE : modesD l (k - 1) ((modeD l c1).1, ms ++ [(modeD l c1).2]) = M := by
        obtain ⟨j, rfl⟩ : ∃ j, k = j + 1 := ⟨k - 1, by omega⟩
        exact hM1
      refine goR (r := ?_); and_intros <;> intros <;> try exact True.intro
      · apply WpA.regionQF (O := []) (Or := [CurO v c1, ⟨[I 0, B false, B false, .nilS, .nilS, .nilS], 0, 0, none⟩, XI quant7, XI L0, ⟨[I q0, B b0, B d0, .own 3 0 0 L0.length, .own 5 0 0 ms.length, .nilS], 0, 0, none⟩, XI ms]) (O1 := [CurO v (modeD l c1).1, ⟨[I 0, B false, B false, .nilS, .nilS, .nilS], 0, 0, none⟩, XI quant7, XI L0, ⟨[I q0, B b0, B d0, .own 3 0 0 L0.length, .own 5 0 0 ms.length, .nilS], 0, 0, none⟩, ⟨ints (ms ++ [(modeD l c1).2]), 1, 1, some 3⟩, ⟨ints [(modeD l c1).2], 1, 1, some 3⟩, deadO]) 7 1 [4] rfl mixed (by decide +kernel)
        · exact rfl
        · apply HeadQ.consF .none rfl
          · exact rfl
          · intro Tv Ov hc hp hd hk
            obtain ⟨x0, x1, x2, x3, R, rfl⟩ := split5 (hk 4 rfl)
            exact in1
          · exact rfl
          · exact rfl
          apply HeadQ.consF .none rfl
          · exact rfl
          · intro Tv Ov hc hp hd hk
            obtain ⟨x0, x1, x2, x3, R, rfl⟩ := split5 (hk 4 rfl)
            exact in1
          · exact rfl
          · exact rfl
          apply HeadQ.consF .none rfl
          · exact rfl
          · exact in1
          · exact rfl
          · exact rfl
          apply HeadQ.consF (V := I (modeD l c1).2) (.step 0 (CurO v (modeD l c1).1)) rfl
          · exact rfl
          · intro Tv Ov hc hp' hd hk
            obtain ⟨R, rfl⟩ := split1 (hp' 0 _ rfl)
            refine K.call ?_
            refine K.conP (fun hcon => ?_)
            refine WpL.callP1 (hcon v l c1 hc1) hp handA handOA rfl (.cons rfl (.sc (.sc (.sc .nil))) .nil) (by decide) ?_
            exact WpL.nil (Only.mk rfl)
          · exact rfl
          · exact rfl
          apply HeadQ.consF (V := .own 6 1 0 1) (.put 6 (⟨ints [(modeD l c1).2], 1, 1, some 3⟩)) rfl
          · exact rfl
          · intro Tv Ov hc hp hd hk
            refine WpL.litInts tabOk rfl rfl rfl rfl rfl (by decide) (by rw [nid_len, Nat.zero_add]) (by decide) ?_
            apply WpL.putNil (p := 6)
            · exact hp 6 _ rfl
            · exact Nat.le_of_ble_eq_true rfl
            · exact rfl
            · first | exact still_ints _ | exact still_rows (fun _ => rfl) _ | rfl
          · exact rfl
          · exact rfl
          apply HeadQ.consF (V := .own 5 1 0 (ms.length + 1)) (.step 5 ⟨ints (ms ++ [(modeD l c1).2]), 1, 1, some 3⟩) rfl
          · exact rfl
          · intro Tv Ov hc hp hd hk
            refine WpL.appInts tabOk rfl rfl (fill_at (O := []) (hp 5 _ rfl)) (Nat.le_of_ble_eq_true rfl) rfl (srcB_own (fill_at (O := []) (hd 4 _ 6 _ (by decide) rfl rfl)) rfl) rfl rfl (by omega) (by decide) ?_
            exact WpL.nil (Only.mk (congrArg (St.mk _) (step_eq (O := []) Ov (p := 5) _)))
          · exact rfl
          · exact rfl
          apply HeadQ.consF .none rfl
          · exact rfl
          · intro Tv Ov hc hp hd hk
            obtain ⟨x0, x1, x2, x3, R, rfl⟩ := split5 (hk 4 rfl)
            exact in1
          · exact rfl
          · exact rfl
          exact HeadQ.nil
        · exact rfl
        · exact rfl
        · exact rfl
        · exact rfl
        · exact rfl
        · exact rfl
        · exact rfl
        refine go (r := ?_); and_intros <;> intros <;> try exact True.intro
        have e1 : ((k - 1 : Nat) : Int) = (k : Int) - 1 := by omega
        have e2 : (ms ++ [(modeD l c1).2]).length = ms.length + 1 := by simp
        refine Rnd.go (k - 1, (modeD l c1).1, ms ++ [(modeD l c1).2]) ?_ ?_ ?_
        · exact ⟨hmk, hE, by simp only [e2]; omega⟩
        · show k - 1 < k; omega
        · simp only [e1, e2]
          exact Weak.mk (.cons (.ptr rfl rfl rfl rfl .nil) (.cons (.ptr rfl rfl rfl rfl .nil) (.cons (.ptr rfl rfl rfl rfl .nil) (.cons (.keep rfl rfl .nil) .nil)))) (.cons (Re.same rfl rfl) (.inr rfl) (.cons (Re.same rfl rfl) (.inr rfl) (.cons (Re.same rfl rfl) (.inr rfl) (.cons (Re.same rfl (still_ints _)) (.inr rfl) (.cons (.keep rfl rfl (.keep rfl rfl (.keep rfl rfl (.own rfl rfl rfl rfl rfl rfl (.own rfl rfl rfl rfl rfl rfl (.keep rfl rfl .nil)))))) (.inr rfl) (.cons (Re.same rfl (still_ints _)) (.inr rfl) .nil)))))) (Nat.le_of_ble_eq_true rfl)⟩
end Go.Proofs.Ytgkeopmihhcbiaa
