/- Contracts: the order of a square's numbers, quantization. No condition. -/
import Derived.Test.YtepfjefdbpmobaaPred
namespace Go.Proofs.Ytepfjefdbpmobaa
open Go Go.Abs
set_option linter.unusedVariables false
set_option linter.unusedSimpArgs false
set_option maxRecDepth 100000
set_option maxHeartbeats 4000000
attribute [local irreducible] WpA WpL Rnd Blk Abs.Seq Abs.Fin Abs.FinG FnC FnG Only

def scX (d k : Nat) : Int := if (d : Int) % 2 = 0 then (d : Int) - k else k
def scIn (n : Int) (d : Nat) : Nat → List Int → List Int
  | 0, o => o
  | k + 1, o => if scX d k < n ∧ (d : Int) - scX d k < n then scIn n d k o ++ [((d : Int) - scX d k) * n + scX d k] else scIn n d k o
def scOut (n : Int) : Nat → List Int
  | 0 => []
  | d + 1 => scIn n d (d + 1) (scOut n d)
def scanL (n : Int) : List Int := if n = 4 ∨ n = 8 then scOut n (2 * n - 1).toNat else []
theorem scIn_yes {n : Int} {d k : Nat} {o : List Int} {x v : Int} (hx : scX d k = x) (h1 : x < n) (h2 : (d : Int) - x < n) (hv : v = ((d : Int) - x) * n + x) : scIn n d k o ++ [v] = scIn n d (k + 1) o := by
  rw [scIn, hx, if_pos ⟨h1, h2⟩, hv]
theorem scIn_no {n : Int} {d k : Nat} {o : List Int} {x : Int} (hx : scX d k = x) (h : ¬ (x < n ∧ (d : Int) - x < n)) : scIn n d k o = scIn n d (k + 1) o := by
  rw [scIn, hx, if_neg h]
theorem scIn_len (n : Int) (d : Nat) (o : List Int) : ∀ k, (scIn n d k o).length ≤ o.length + k
  | 0 => by simp [scIn]
  | k + 1 => by rw [scIn]; have := scIn_len n d o k; split <;> (try rw [List.length_append, List.length_singleton]) <;> omega
theorem scOut_len (n : Int) : ∀ d, d ≤ 16 → (scOut n d).length ≤ 16 * d
  | 0, _ => by simp [scOut]
  | d + 1, h => by rw [scOut]; have := scIn_len n d (scOut n d) (d + 1); have := scOut_len n d (by omega); omega
theorem scX_even {d k : Nat} (h : (d : Int) % 2 = 0) : scX d k = d - k := by rw [scX, if_pos h]
theorem scX_odd {d k : Nat} (h : ¬ (d : Int) % 2 = 0) : scX d k = k := by rw [scX, if_neg h]
theorem scIn_l1 {n : Int} {d k : Nat} {o : List Int} (h : scX d k < n ∧ (d : Int) - scX d k < n) : (scIn n d (k + 1) o).length = (scIn n d k o).length + 1 := by rw [scIn, if_pos h, List.length_append, List.length_singleton]
theorem scIn_l0 {n : Int} {d k : Nat} {o : List Int} (h : ¬ (scX d k < n ∧ (d : Int) - scX d k < n)) : (scIn n d (k + 1) o).length = (scIn n d k o).length := by rw [scIn, if_neg h]
instance ScanOrder_s : Con 123 (∀ n : Int, n = 0 ∨ n = 4 ∨ n = 8 → Fn 123 [I n] [XI (scanL n)] (.own 0 0 0 (scanL n).length)) := ⟨fun n hn => by
  refine FnC.of_body tabOk Try.func123 Try.ntmps123 rfl (by decide +kernel) (by simp) fun G => ?_
  have key : n = 0 → scanL n = [] := by rintro rfl; decide
  have k4 : n = 4 → scanL n = scOut 4 7 := by rintro rfl; rfl
  have k8 : n = 8 → scanL n = scOut 8 15 := by rintro rfl; rfl
  rcases hn with rfl | rfl | rfl
  · refine go (r := ?_); and_intros <;> intros <;> try exact True.intro
    refine WpA.loop (fun d : Nat => ⟨[(0, I 0), (3, .own 0 0 0 0), (4, I 0)], [XI []]⟩) (fun d => d ≤ 0) (fun d => 16 - d) 0 (by simp) (go (r := trivial)) (fun d hd => ?_)
    refine go (r := ?_); and_intros <;> intros <;> try exact True.intro
    all_goals rfl
  · refine go (r := ?_); and_intros <;> intros <;> try exact True.intro
    refine WpA.loop (fun d : Nat => ⟨[(0, I 4), (3, .own 0 0 0 (scOut 4 d).length), (4, I d)], [XI (scOut 4 d)]⟩) (fun d => d ≤ 7) (fun d => 7 - d) 0 (by simp) (go (r := ?_)) (fun d hd => ?_)
    · simp [scOut]
    have hol := scOut_len 4 d (by omega)
    have hso : (scOut 4 (d + 1)) = scIn 4 d (d + 1) (scOut 4 d) := rfl
    refine go (r := ?_); and_intros <;> intros <;> try exact True.intro
    · refine WpA.loop (fun k : Nat => ⟨[(0, I 4), (3, .own 0 0 0 (scIn 4 d k (scOut 4 d)).length), (4, I d), (5, I k)], [XI (scIn 4 d k (scOut 4 d))]⟩) (fun k => k ≤ d + 1) (fun k => d + 1 - k) 0 (by omega) (go (r := ?_)) (fun k hk => ?_)
      · simp [scIn]
      have hil := scIn_len 4 d (scOut 4 d) k
      have he := scX_even (d := d) (k := k)
      have hod := scX_odd (d := d) (k := k)
      have hl1 := scIn_l1 (n := 4) (d := d) (k := k) (o := scOut 4 d)
      have hl0 := scIn_l0 (n := 4) (d := d) (k := k) (o := scOut 4 d)
      have hso2 : k = d + 1 → (scOut 4 (d + 1)).length = (scIn 4 d k (scOut 4 d)).length := by rintro rfl; rfl
      refine go (r := ?_); and_intros <;> intros <;> try exact True.intro
      all_goals first
        | (exact scIn_yes (he ‹_›) (by omega) (by omega) (by omega))
        | (exact scIn_yes (hod ‹_›) (by omega) (by omega) (by omega))
        | (exact scIn_no (he ‹_›) (by omega))
        | (exact scIn_no (hod ‹_›) (by omega))
        | skip
      all_goals have e : k = d + 1 := by omega
      all_goals subst e
      all_goals rw [hso]
    all_goals have e : d = 7 := by omega
    all_goals subst e
    all_goals first | rfl | (rw [k4 rfl])
  · refine go (r := ?_); and_intros <;> intros <;> try exact True.intro
    refine WpA.loop (fun d : Nat => ⟨[(0, I 8), (3, .own 0 0 0 (scOut 8 d).length), (4, I d)], [XI (scOut 8 d)]⟩) (fun d => d ≤ 15) (fun d => 15 - d) 0 (by simp) (go (r := ?_)) (fun d hd => ?_)
    · simp [scOut]
    have hol := scOut_len 8 d (by omega)
    have hso : (scOut 8 (d + 1)) = scIn 8 d (d + 1) (scOut 8 d) := rfl
    refine go (r := ?_); and_intros <;> intros <;> try exact True.intro
    · refine WpA.loop (fun k : Nat => ⟨[(0, I 8), (3, .own 0 0 0 (scIn 8 d k (scOut 8 d)).length), (4, I d), (5, I k)], [XI (scIn 8 d k (scOut 8 d))]⟩) (fun k => k ≤ d + 1) (fun k => d + 1 - k) 0 (by omega) (go (r := ?_)) (fun k hk => ?_)
      · simp [scIn]
      have hil := scIn_len 8 d (scOut 8 d) k
      have he := scX_even (d := d) (k := k)
      have hod := scX_odd (d := d) (k := k)
      have hl1 := scIn_l1 (n := 8) (d := d) (k := k) (o := scOut 8 d)
      have hl0 := scIn_l0 (n := 8) (d := d) (k := k) (o := scOut 8 d)
      have hso2 : k = d + 1 → (scOut 8 (d + 1)).length = (scIn 8 d k (scOut 8 d)).length := by rintro rfl; rfl
      refine go (r := ?_); and_intros <;> intros <;> try exact True.intro
      all_goals first
        | (exact scIn_yes (he ‹_›) (by omega) (by omega) (by omega))
        | (exact scIn_yes (hod ‹_›) (by omega) (by omega) (by omega))
        | (exact scIn_no (he ‹_›) (by omega))
        | (exact scIn_no (hod ‹_›) (by omega))
        | skip
      all_goals have e : k = d + 1 := by omega
      all_goals subst e
      all_goals rw [hso]
    all_goals have e : d = 15 := by omega
    all_goals subst e
    all_goals first | rfl | (rw [k8 rfl])⟩
instance ScanOrder_c : Con 126 (∀ n : Int, n = 0 ∨ n = 4 ∨ n = 8 → Fn 126 [I n] [XI (scanL n)] (.own 0 0 0 (scanL n).length)) := ⟨fun n hn => by
  refine FnC.of_body tabOk Try.func126 Try.ntmps126 rfl (by decide +kernel) (by simp) fun G => ?_
  have k4 : n = 4 → scanL n = scOut 4 7 := by rintro rfl; rfl
  have k8 : n = 8 → scanL n = scOut 8 15 := by rintro rfl; rfl
  rcases hn with rfl | rfl | rfl
  · refine go (r := ?_); and_intros <;> intros <;> try exact True.intro
    all_goals rfl
  · refine go (r := ?_); and_intros <;> intros <;> try exact True.intro
    refine WpA.loop (fun d : Nat => ⟨[(0, I 4), (3, .own 0 0 0 (scOut 4 d).length), (14, I 7), (15, I d)], [XI (scOut 4 d)]⟩) (fun d => d ≤ 7) (fun d => 7 - d) 0 (by simp) (go (r := ?_)) (fun d hd => ?_)
    · simp [scOut]
    have hol := scOut_len 4 d (by omega)
    have hso : (scOut 4 (d + 1)) = scIn 4 d (d + 1) (scOut 4 d) := rfl
    refine go (r := ?_); and_intros <;> intros <;> try exact True.intro
    · refine WpA.loop (fun k : Nat => ⟨[(0, I 4), (3, .own 0 0 0 (scIn 4 d k (scOut 4 d)).length), (4, I d), (14, I 7), (15, I d), (19, I ((d : Int) + 1)), (20, I k)], [XI (scIn 4 d k (scOut 4 d))]⟩) (fun k => k ≤ d + 1) (fun k => d + 1 - k) 0 (by omega) (go (r := ?_)) (fun k hk => ?_)
      · simp [scIn]
      have hil := scIn_len 4 d (scOut 4 d) k
      have he := scX_even (d := d) (k := k)
      have hod := scX_odd (d := d) (k := k)
      have hl1 := scIn_l1 (n := 4) (d := d) (k := k) (o := scOut 4 d)
      have hl0 := scIn_l0 (n := 4) (d := d) (k := k) (o := scOut 4 d)
      have hso2 : k = d + 1 → (scOut 4 (d + 1)).length = (scIn 4 d k (scOut 4 d)).length := by rintro rfl; rfl
      refine go (r := ?_); and_intros <;> intros <;> try exact True.intro
      all_goals first
        | (exact scIn_yes (he ‹_›) (by omega) (by omega) (by omega))
        | (exact scIn_yes (hod ‹_›) (by omega) (by omega) (by omega))
        | (exact scIn_no (he ‹_›) (by omega))
        | (exact scIn_no (hod ‹_›) (by omega))
        | skip
      all_goals have e : k = d + 1 := by omega
      all_goals subst e
      all_goals rw [hso]
    all_goals have e : d = 7 := by omega
    all_goals subst e
    all_goals first | rfl | (rw [k4 rfl])
  · refine go (r := ?_); and_intros <;> intros <;> try exact True.intro
    refine WpA.loop (fun d : Nat => ⟨[(0, I 8), (3, .own 0 0 0 (scOut 8 d).length), (14, I 15), (15, I d)], [XI (scOut 8 d)]⟩) (fun d => d ≤ 15) (fun d => 15 - d) 0 (by simp) (go (r := ?_)) (fun d hd => ?_)
    · simp [scOut]
    have hol := scOut_len 8 d (by omega)
    have hso : (scOut 8 (d + 1)) = scIn 8 d (d + 1) (scOut 8 d) := rfl
    refine go (r := ?_); and_intros <;> intros <;> try exact True.intro
    · refine WpA.loop (fun k : Nat => ⟨[(0, I 8), (3, .own 0 0 0 (scIn 8 d k (scOut 8 d)).length), (4, I d), (14, I 15), (15, I d), (19, I ((d : Int) + 1)), (20, I k)], [XI (scIn 8 d k (scOut 8 d))]⟩) (fun k => k ≤ d + 1) (fun k => d + 1 - k) 0 (by omega) (go (r := ?_)) (fun k hk => ?_)
      · simp [scIn]
      have hil := scIn_len 8 d (scOut 8 d) k
      have he := scX_even (d := d) (k := k)
      have hod := scX_odd (d := d) (k := k)
      have hl1 := scIn_l1 (n := 8) (d := d) (k := k) (o := scOut 8 d)
      have hl0 := scIn_l0 (n := 8) (d := d) (k := k) (o := scOut 8 d)
      have hso2 : k = d + 1 → (scOut 8 (d + 1)).length = (scIn 8 d k (scOut 8 d)).length := by rintro rfl; rfl
      refine go (r := ?_); and_intros <;> intros <;> try exact True.intro
      all_goals first
        | (exact scIn_yes (he ‹_›) (by omega) (by omega) (by omega))
        | (exact scIn_yes (hod ‹_›) (by omega) (by omega) (by omega))
        | (exact scIn_no (he ‹_›) (by omega))
        | (exact scIn_no (hod ‹_›) (by omega))
        | skip
      all_goals have e : k = d + 1 := by omega
      all_goals subst e
      all_goals rw [hso]
    all_goals have e : d = 15 := by omega
    all_goals subst e
    all_goals first | rfl | (rw [k8 rfl])⟩
theorem scan_rg (n : Int) (h : n = 0 ∨ n = 4 ∨ n = 8) : In (scanL n) 0 (n * n - 1) ∧ ((scanL n).length : Int) = n * n := by
  rcases h with rfl | rfl | rfl <;> decide +kernel
end Go.Proofs.Ytepfjefdbpmobaa
