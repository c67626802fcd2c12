/- Contracts: numbers in the order of the scan. No condition. -/
import Derived.Test.YtepfjefdbpmobaaScan
import Derived.Test.YtepfjefdbpmobaaQuant
namespace Go.Proofs.Ytepfjefdbpmobaa
open Go Go.Abs
set_option linter.unusedVariables false
set_option linter.unusedSimpArgs false
set_option maxRecDepth 100000
set_option maxHeartbeats 4000000
attribute [local irreducible] WpA WpL Rnd Blk Abs.Seq Abs.Fin Abs.FinG FnC FnG Only

def scnL (l : List Int) : List Int := (scanL (side l.length)).map fun p => l.getD p.toNat 0
theorem scnL_len (l : List Int) : (scnL l).length = (scanL (side l.length)).length := by simp [scnL]
theorem scan_fit (l : List Int) : In (scanL (side l.length)) 0 (l.length - 1) ∧ (scanL (side l.length)).length ≤ 64 := by
  rcases side_cases l.length with ⟨h, e⟩ | ⟨h, e⟩ | ⟨_, _, e⟩
  · have h2 := (scan_rg 4 (by omega)).2
    have h1 := (scan_rg 4 (by omega)).1
    rw [e, h]; exact ⟨h1, by omega⟩
  · have h2 := (scan_rg 8 (by omega)).2
    have h1 := (scan_rg 8 (by omega)).1
    rw [e, h]; exact ⟨h1, by omega⟩
  · rw [e]
    have h0 : scanL 0 = [] := rfl
    rw [h0]
    refine ⟨?_, by simp⟩
    unfold In; intro x hx; cases hx
instance Scanned_s : Con 87 (∀ l : List Int, l.length ≤ 1099511627776 → Fn 87 [IL l] [XI (scnL l)] (.own 0 0 0 (scnL l).length)) := ⟨fun l hl => by
  obtain ⟨hs1, hs2⟩ := scan_fit l
  have hsc := side_cases l.length
  have hsl := scnL_len l
  refine FnC.of_body tabOk Try.func87 Try.ntmps87 rfl (by decide +kernel) (by simp) fun G => ?_
  refine go (r := ?_); and_intros <;> intros <;> try exact True.intro
  refine WpA.loop (fun k : Nat => ⟨[(0, IL l), (3, .own 0 0 0 k), (4, .own 1 0 0 (scanL (side l.length)).length), (5, I k)], [XI (((scanL (side l.length)).take k).map fun p => l.getD p.toNat 0), XI (scanL (side l.length))]⟩) (fun k => k ≤ (scanL (side l.length)).length) (fun k => (scanL (side l.length)).length - k) 0 (by omega) (go (r := ?_)) (fun k hk => ?_)
  · simp
  have hg := fun h => in_get hs1 (k := ((k : Int)).toNat) h
  have hq := fun h => qz_snoc (fun p : Int => l.getD p.toNat 0) (scanL (side l.length)) k h
  have hkl : (((scanL (side l.length)).take k).map fun p => l.getD p.toNat 0).length = k := by simp; omega
  refine go (r := ?_); and_intros <;> intros <;> try exact True.intro
  · rename_i hk1
    rw [← hq (by omega)]; rfl
  · have e : k = (scanL (side l.length)).length := by omega
    rw [e, List.take_length]; rfl⟩
instance Scanned_c : Con 94 (∀ l : List Int, l.length ≤ 1099511627776 → Fn 94 [IL l] [XI (scnL l)] (.own 0 0 0 (scnL l).length)) := ⟨fun l hl => by
  obtain ⟨hs1, hs2⟩ := scan_fit l
  have hsc := side_cases l.length
  have hsl := scnL_len l
  refine FnC.of_body tabOk Try.func94 Try.ntmps94 rfl (by decide +kernel) (by simp) fun G => ?_
  refine go (r := ?_); and_intros <;> intros <;> try exact True.intro
  refine WpA.loop (fun k : Nat => ⟨[(0, IL l), (3, .own 0 0 0 k), (10, .own 1 0 0 (scanL (side l.length)).length), (11, I (scanL (side l.length)).length), (12, I k)], [XI (((scanL (side l.length)).take k).map fun p => l.getD p.toNat 0), XI (scanL (side l.length))]⟩) (fun k => k ≤ (scanL (side l.length)).length) (fun k => (scanL (side l.length)).length - k) 0 (by omega) (go (r := ?_)) (fun k hk => ?_)
  · simp
  have hg := fun h => in_get hs1 (k := ((k : Int)).toNat) h
  have hg2 := fun h => in_get hs1 (k := k) h
  have hq := fun h => qz_snoc (fun p : Int => l.getD p.toNat 0) (scanL (side l.length)) k h
  have hkl : (((scanL (side l.length)).take k).map fun p => l.getD p.toNat 0).length = k := by simp; omega
  refine go (r := ?_); and_intros <;> intros <;> try exact True.intro
  · rename_i hk1
    rw [← hq (by omega)]; rfl
  · have e : k = (scanL (side l.length)).length := by omega
    rw [e, List.take_length]; rfl⟩
end Go.Proofs.Ytepfjefdbpmobaa
