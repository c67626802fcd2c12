/- What a value that came in is: inversions of the readings by shape. No condition. -/
import Derived.Test.YtepfjefdbpmobaaRead
import Derived.Test.YtepfjefdbpmobaaAbsO
namespace Go.Abs
open Go Go.RowKit
set_option linter.unusedVariables false

abbrev i64 (n : Int) : Prop := -9223372036854775808 ≤ n ∧ n ≤ 9223372036854775807
theorem i64_wf {n : Int} (h : (Lit.int .i64 n).wf = true) : i64 n := by
  simp only [Lit.wf, Bool.and_eq_true, decide_eq_true_eq, show IntKind.i64.min = -9223372036854775808 from rfl, show IntKind.i64.max = 9223372036854775807 from rfl] at h
  exact h
theorem rd_int {ds : List AV} (h : Rd (.int .i64) ds) : ∃ n : Int, ds = [I n] ∧ i64 n := by
  cases h with | int hw => exact ⟨_, rfl, i64_wf hw⟩
theorem rd_bool {ds : List AV} (h : Rd .bool ds) : ∃ b : Bool, ds = [B b] := by
  cases h with | bool => exact ⟨_, rfl⟩
theorem rd_str {ds : List AV} (h : Rd .str ds) : ∃ p : List UInt8, ds = [Z p] ∧ p.length ≤ 9223372036854775807 := by
  cases h with | str hp => exact ⟨_, rfl, by simp only [maxLen] at hp; omega⟩
theorem rdN_ints {n : Nat} {cs : List AV} (h : RdN (.int .i64) n 1 cs) : ∃ xs : List Int, cs = ints xs ∧ xs.length = n ∧ ∀ x ∈ xs, i64 x := by
  induction n generalizing cs with
  | zero => cases h; exact ⟨[], rfl, rfl, by simp⟩
  | succ n ih =>
    cases h with
    | snoc h1 h2 h3 =>
      obtain ⟨xs, rfl, h5, h6⟩ := ih h1
      obtain ⟨m, rfl, hm⟩ := rd_int h2
      refine ⟨xs ++ [m], by simp [ints], by simp [h5], fun x hx => ?_⟩
      rcases List.mem_append.1 hx with hx | hx
      · exact h6 x hx
      · have : x = m := by simpa using hx
        subst this; exact hm
theorem rd_ints {ds : List AV} (h : Rd (.slice 1 (.int .i64)) ds) : ∃ xs : List Int, ds = [IL xs] ∧ xs.length ≤ 9223372036854775807 ∧ ∀ x ∈ xs, i64 x := by
  cases h with
  | slice hl hn =>
    obtain ⟨xs, rfl, h1, h2⟩ := rdN_ints hn
    subst h1
    exact ⟨xs, rfl, by simp only [maxLen] at hl; omega, h2⟩
theorem rdN_bools {n : Nat} {cs : List AV} (h : RdN .bool n 1 cs) : ∃ xs : List Bool, cs = bools xs ∧ xs.length = n := by
  induction n generalizing cs with
  | zero => cases h; exact ⟨[], rfl, rfl⟩
  | succ n ih =>
    cases h with
    | snoc h1 h2 h3 =>
      obtain ⟨xs, rfl, h5⟩ := ih h1
      obtain ⟨m, rfl⟩ := rd_bool h2
      exact ⟨xs ++ [m], by simp [bools], by simp [h5]⟩
theorem rd_bools {ds : List AV} (h : Rd (.slice 1 .bool) ds) : ∃ xs : List Bool, ds = [.imm 1 xs.length (bools xs)] ∧ xs.length ≤ 9223372036854775807 := by
  cases h with
  | slice hl hn =>
    obtain ⟨xs, rfl, h1⟩ := rdN_bools hn
    subst h1
    exact ⟨xs, rfl, by simp only [maxLen] at hl; omega⟩
theorem rd_struct {sps : List Sp} {ds : List AV} (h : Rd (.struct sps) ds) : RdF sps ds := by
  cases h with | struct h => exact h
theorem rdF_cons {sp : Sp} {sps : List Sp} {ds : List AV} (h : RdF (sp :: sps) ds) : ∃ a b, ds = a ++ b ∧ Rd sp a ∧ RdF sps b := by
  cases h with | cons h1 h2 => exact ⟨_, _, rfl, h1, h2⟩
theorem rdF_nil {ds : List AV} (h : RdF [] ds) : ds = [] := by cases h; rfl

abbrev spI : Sp := .int .i64
abbrev spIs : Sp := .slice 1 (.int .i64)
theorem rd_frame {ds : List AV} (h : Rd (.struct [spI, spI, spIs]) ds) : ∃ (W H : Int) (p : List Int), ds = [I W, I H, IL p] ∧ i64 W ∧ i64 H ∧ p.length ≤ 9223372036854775807 ∧ ∀ x ∈ p, i64 x := by
  obtain ⟨_, _, rfl, h1, h⟩ := rdF_cons (rd_struct h)
  obtain ⟨_, _, rfl, h2, h⟩ := rdF_cons h
  obtain ⟨_, _, rfl, h3, h⟩ := rdF_cons h
  obtain rfl := rdF_nil h
  obtain ⟨W, rfl, a1⟩ := rd_int h1
  obtain ⟨H, rfl, a2⟩ := rd_int h2
  obtain ⟨p, rfl, a3, a4⟩ := rd_ints h3
  exact ⟨W, H, p, rfl, a1, a2, a3, a4⟩
theorem lrel_agg {S : Nat → Prop} {w : World} {ι : Nat → Spot} {O : List AObj} {ds : List AV} {cs : Array Value} (h : LRel S w ι O ds cs.toList []) : VRel S w ι O (.agg ds) (.agg cs) [] := by
  simpa using LRel.agg h .nil
theorem lrel_cons0 {S : Nat → Prop} {w : World} {ι : Nat → Spot} {O : List AObj} {V : AV} {v : Value} {cs : List AV} {vs : List Value} (h1 : VRel S w ι O V v []) (h2 : LRel S w ι O cs vs []) : LRel S w ι O (V :: cs) (v :: vs) [] := LRel.cons h1 h2
end Go.Abs
