/- From a contract to the form that a row's shell asks for. No condition. -/
import Derived.Test.YtepfjefdbpmobaaAbsM
import Derived.Below
namespace Go.Abs
open Go Go.RowKit
set_option linter.unusedVariables false

theorem FnC.walk {P : Program} {f : FuncId} {args : List AV} {N : List AObj} {x : Value} (hc : FnC P f args N (.sc x)) {w : World} {S : Nat → Prop} {vs : List Value} (hS : ∀ b, S b → b < w.heap.size)
    (hl : LRel S w (fun _ => none) [] args vs []) : Calls P f vs.toArray w fun e w' => e = .returned x ∧ Below w.heap.size w w' := by
  refine (hc.2 w S vs hS hl).mono fun e w' h => ?_
  obtain ⟨v, S', ι, F, rfl, _, _, _, _, _, hv, hk⟩ := h
  cases hv with
  | sc r => exact ⟨rfl, hk.os, hk.tape, hk.output, hk.size, fun b hb => hk.block b hb (fun h => h)⟩

theorem bytes_eq (s : ByteArray) : s = ⟨s.data.toList.toArray⟩ := rfl
theorem bytes_len (s : ByteArray) (h : s.size ≤ maxLen) : s.data.toList.length ≤ 9223372036854775807 := by
  have : s.data.toList.length = s.size := rfl
  simp only [maxLen] at h; omega

theorem spot_none {w : World} {x : Addr} {n : Nat} (h : 0 < n) (hc : ∀ i, i < n → ∃ v, w.cell? (x.add i) = some v) : x.spot = none := by
  obtain ⟨v, hv⟩ := hc 0 h
  simpa [Addr.add] using World.cell?_spot hv

/-- A slice of integers that came in. -/
theorem vrel_ints {S : Nat → Prop} {w : World} {ι : Nat → Spot} {O : List AObj} {k : IntKind} {a : Option Addr} {len cap : Nat} {zs : List Int}
    (h : (a = none ∧ len = 0 ∧ cap = 0 ∧ zs = []) ∨ ∃ x, a = some x ∧ len ≤ cap ∧ cap ≤ maxLen ∧ zs.length = cap ∧ (∀ i, i < zs.length → w.cell? (x.add i) = some (.int k (zs.getD i 0))) ∧ ∀ n ∈ zs, (Lit.int k n).wf = true)
    (hS : ∀ b, b < w.heap.size → S b) : VRel S w ι O (.imm 1 len ((zs.take len).map fun n => .sc (.int k n))) (.slice a len cap) [] ∧ (zs.take len).length = len ∧ len ≤ maxLen ∧ ∀ n ∈ zs.take len, (Lit.int k n).wf = true := by
  rcases h with ⟨rfl, rfl, rfl, rfl⟩ | ⟨x, rfl, h1, h2, h3, h4, h5⟩
  · exact ⟨.imm0 (by simp) .nil, rfl, by simp, by simp⟩
  · have hlen : (zs.take len).length = len := by simp; omega
    refine ⟨?_, hlen, by omega, fun n hn => h5 n (List.mem_of_mem_take hn)⟩
    by_cases h0 : len = 0
    · subst h0; simp; exact .imm0 ⟨by simp, h2⟩ .nil
    · have hsp := spot_none (w := w) (x := x) (n := zs.length) (by omega) fun i hi => ⟨_, h4 i hi⟩
      obtain ⟨b, o, sp⟩ := x
      simp only at hsp
      subst hsp
      refine .imm (us := (zs.take len).map (Value.int k)) ?_ (fun i hi => ?_) ?_ (by simp; omega) h1 h2 .nil
      · have := h4 0 (by omega)
        refine hS _ ?_
        by_cases hb : b < w.heap.size
        · exact hb
        · simp [Addr.add, World.cell?, Array.getElem?_eq_none (Nat.le_of_not_lt hb)] at this
      · have hi' : i < len := by simp at hi; omega
        have := h4 i (by omega)
        rw [addr_add] at this
        rw [this]
        simp [hi', show i < zs.length from by omega]
      · generalize zs.take len = l
        induction l with
        | nil => exact .nil
        | cons y l ih => exact .sc ih
end Go.Abs
