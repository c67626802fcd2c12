/- Proved in this text: lemmas and contracts of functions that the claim uses (parts: Fpd, Put, Ln, PutM, PfX, Bridge, Read, Read2, Read3). No condition. -/
import Derived.Test.YtjhejgamjlokdaaGreatPfM13
import Derived.Test.YtjhejgamjlokdaaGreatPfM14
import Derived.Test.YtjhejgamjlokdaaGreatPfM12
import Derived.Test.YtjhejgamjlokdaaGreatPfM10
import Derived.Test.YtjhejgamjlokdaaGreatPfM3
import Derived.Below
import Derived.ChangeArms
import Derived.Test.YtjhejgamjlokdaaGreatPfM9

/- Contracts: predictions row by row, by the specification. No condition. -/
namespace Go.Proofs.YtjhejgamjlokdaaGreat
open Go Go.Abs
set_option linter.unusedVariables false
set_option linter.unusedSimpArgs false
set_option maxRecDepth 100000
set_option maxHeartbeats 4000000
attribute [local irreducible] WpA WpL Rnd Blk Abs.Seq Abs.Fin Abs.FinG FnC FnG Only

instance Softened_s : Con 75 (∀ l : List Int, In l 0 255 ∧ 2 ≤ l.length ∧ l.length ≤ 1000 → Fn 75 [IL l] [XI (sofL l)] (.own 0 0 0 (sofL l).length)) := ⟨fun l hl => by
  obtain ⟨h1, h2, h3⟩ := hl
  have hsl := sofL_len l
  refine FnC.of_body tabOk Tryz.func75 Tryz.ntmps75 rfl (by decide +kernel) (by simp) fun G => ?_
  refine go (r := ?_); and_intros <;> intros <;> try exact True.intro
  refine WpA.loop (fun k : Nat => ⟨[(0, IL l), (3, .own 0 0 0 k), (4, I ((k : Int) + 1))], [XI (tabL (sofF l) k)]⟩) (fun k => k ≤ l.length - 2) (fun k => l.length - k) 0 (by omega) (go (r := ?_)) (fun k hk => ?_)
  · simp [tabL]
  have hkl := tabL_len (sofF l) k
  have hsn := tabL_snoc (sofF l) k
  by_cases hlt : k < l.length - 2
  · have g0 := in_get h1 (k := k) (by omega)
    have g1 := in_get h1 (k := k + 1) (by omega)
    have g2 := in_get h1 (k := k + 2) (by omega)
    have e0 : ((k : Int) + 1 - 1).toNat = k := by omega
    have e1 : ((k : Int) + 1).toNat = k + 1 := by omega
    have e2 : ((k : Int) + 1 + 1).toNat = k + 2 := by omega
    refine go (r := ?_); and_intros <;> intros <;> try exact True.intro
    all_goals first | contradiction | omega | skip
    rw [e0, e1, e2, hsn]
    unfold sofF
    rw [show max 0 (min 255 (l.getD k 0)) = l.getD k 0 by omega, show max 0 (min 255 (l.getD (k + 1) 0)) = l.getD (k + 1) 0 by omega, show max 0 (min 255 (l.getD (k + 2) 0)) = l.getD (k + 2) 0 by omega]
  · obtain rfl : k = l.length - 2 := by omega
    refine go (r := ?_); and_intros <;> intros <;> try exact True.intro
    all_goals first | contradiction | omega | rfl | trace_state⟩
instance SlopeRow_s : Con 105 (∀ (t l : List Int) (c : Int) (a b : Bool) (n : Int) (y : Nat), NbOk t l c n ∧ (y : Int) < n → Fn 105 [NbA t l c a b, I n, I y] [XI (tabL (sloF t l c y) n.toNat)] (.own 0 0 0 n.toNat)) := ⟨fun t l c a b n y hl => by
  obtain ⟨h, hy⟩ := hl
  have hd := decide_eq_true h
  obtain ⟨h1, h2, h3, h4, h5, h6⟩ := id h
  have g1 := in_get h5 (k := y) (by omega)
  refine FnC.of_body tabOk Tryz.func105 Tryz.ntmps105 rfl (by decide +kernel) (by simp) fun G => ?_
  refine go (r := ?_); and_intros <;> intros <;> try exact True.intro
  all_goals first | contradiction | omega | skip
  refine WpA.loop (fun k : Nat => ⟨[(1, I n), (3, .ptr 0 0 0), (7, .own 1 0 0 (4 * k)), (8, I (l.getD y 0 - c)), (9, I (4 * (k : Int)))], [NbO t l c a b, XI (tabL (sloF t l c y) (4 * k))]⟩) (fun k => 4 * (k : Int) ≤ n) (fun k => n.toNat - k) 0 (by omega) (go (r := ?_)) (fun k hk => ?_)
  · simp [tabL]
  have hkl := tabL_len (sloF t l c y) (4 * k)
  by_cases hlt : 4 * (k : Int) < n
  · have h44 : 4 * k + 4 ≤ n.toNat := by omega
    have hst := slo_step h hy h44
    have e1 : (4 * (k : Int)).toNat = 4 * k := by omega
    have e2 : (4 * (k : Int) + 4).toNat - (4 * (k : Int)).toNat = 4 := by omega
    have hl1 : ((t.drop (4 * (k : Int)).toNat).take ((4 * (k : Int) + 4).toNat - (4 * (k : Int)).toNat)).length = 4 := by rw [e2, e1, List.length_take, List.length_drop]; omega
    have hin : In ((t.drop (4 * (k : Int)).toNat).take ((4 * (k : Int) + 4).toNat - (4 * (k : Int)).toNat)) 0 255 := by
      unfold In at *
      intro v hv
      exact h4 v (List.mem_of_mem_drop (List.mem_of_mem_take hv))
    refine go (r := ?_); and_intros <;> intros <;> try exact True.intro
    all_goals first | contradiction | omega | exact hin | (rw [e2, e1]; exact hst) | trace_state
  · have hke : 4 * k = n.toNat := by omega
    refine go (r := ?_); and_intros <;> intros <;> try exact True.intro
    all_goals first | contradiction | omega | (rw [hke]; done) | trace_state⟩
theorem SlopeRow_i (t l : List Int) (c : Int) (a b : Bool) (n : Int) (y : Nat) (h : NbOk t l c n ∧ (y : Int) < n) : Fn 105 [NbA t l c a b, I n, I y] [] (IL (tabL (sloF t l c y) n.toNat)) := by
  have e : IL (tabL (sloF t l c y) n.toNat) = .imm 1 n.toNat (ints (tabL (sloF t l c y) n.toNat)) := by show AV.imm 1 _ _ = _; rw [tabL_len]
  rw [e]
  exact FnC.still (SlopeRow_s.ok t l c a b n y h) (.own rfl rfl rfl (by simp [tabL_len]) rfl (Snap.same rfl (still_ints _) (nofre_ints _)) .nil)
/-- What a row is made of. -/
def sofS (m : Int) (t l : List Int) (c n : Int) : List Int := if m = 4 then sofL (t ++ [t.getD (2 * n - 1).toNat 0]) else sofL (bordL t l c n)
section
attribute [-instance] SlopeRow_s
theorem l17Row_k (m : Int) (t l : List Int) (c : Int) (a b : Bool) (n : Int) (y : Nat) (h : NbOk t l c n ∧ (y : Int) < n ∧ 0 ≤ m ∧ m ≤ 5) : Fn 77 [I m, NbA t l c a b, I n, I y, IL (sofS m t l c n)] [] (IL (rowP m t l c a b n y)) := by
  obtain ⟨h0, hy, hm0, hm5⟩ := h
  obtain ⟨h1, h2, h3, h4, h5, h6⟩ := id h0
  have hm : m = 0 ∨ m = 1 ∨ m = 2 ∨ m = 3 ∨ m = 4 ∨ m = 5 := by omega
  rcases hm with rfl | rfl | rfl | rfl | rfl | rfl
  · rw [row_0 h0 hy]
    have hme := mean_in a b h0
    have el : IL (tabL (fun _ => meanL t l c a b n) n.toNat) = .imm 1 n.toNat (ints (tabL (fun _ => meanL t l c a b n) n.toNat)) := by show AV.imm 1 _ _ = _; rw [tabL_len]
    rw [el]
    refine FnC.still (N := [XI (tabL (fun _ => meanL t l c a b n) n.toNat)]) (r := .own 0 0 0 n.toNat) ?_ (.own rfl rfl rfl (by simp [tabL_len]) rfl (Snap.same rfl (still_ints _) (nofre_ints _)) .nil)
    refine FnC.of_body tabOk Tryz.func77 Tryz.ntmps77 rfl (by decide +kernel) (by simp) fun G => ?_
    refine go (r := ?_); and_intros <;> intros <;> try exact True.intro
    all_goals first | contradiction | omega | skip
    refine WpA.loop (fun k : Nat => ⟨[(2, I n), (11, .own 1 0 0 k), (12, I (meanL t l c a b n)), (13, I k)], [NbO t l c a b, XI (tabL (fun _ => meanL t l c a b n) k)]⟩) (fun k => (k : Int) ≤ n) (fun k => n.toNat - k) 0 (by omega) (go (r := ?_)) (fun k hk => ?_)
    · simp [tabL]
    have hkl := tabL_len (fun _ => meanL t l c a b n) k
    have hsn := tabL_snoc (fun _ => meanL t l c a b n) k
    by_cases hlt : (k : Int) < n
    · refine go (r := ?_); and_intros <;> intros <;> try exact True.intro
      all_goals first | contradiction | omega | exact hsn.symm | trace_state
    · have hke : k = n.toNat := by omega
      subst hke
      refine go (r := ?_); and_intros <;> intros <;> try exact True.intro
      all_goals first | contradiction | omega | trace_state
  · rw [row_1 h0 hy]
    refine FnC.of_body tabOk Tryz.func77 Tryz.ntmps77 rfl (by decide +kernel) (by simp) fun G => ?_
    refine go (r := ?_); and_intros <;> intros <;> try exact True.intro
    all_goals trace_state
  · rw [row_2 h0 hy]
    have el : IL (tabL (fun _ => l.getD y 0) n.toNat) = .imm 1 n.toNat (ints (tabL (fun _ => l.getD y 0) n.toNat)) := by show AV.imm 1 _ _ = _; rw [tabL_len]
    rw [el]
    refine FnC.still (N := [XI (tabL (fun _ => l.getD y 0) n.toNat)]) (r := .own 0 0 0 n.toNat) ?_ (.own rfl rfl rfl (by simp [tabL_len]) rfl (Snap.same rfl (still_ints _) (nofre_ints _)) .nil)
    refine FnC.of_body tabOk Tryz.func77 Tryz.ntmps77 rfl (by decide +kernel) (by simp) fun G => ?_
    refine go (r := ?_); and_intros <;> intros <;> try exact True.intro
    all_goals first | contradiction | omega | skip
    refine WpA.loop (fun k : Nat => ⟨[(2, I n), (11, .own 1 0 0 k), (12, I (l.getD y 0)), (13, I k)], [NbO t l c a b, XI (tabL (fun _ => l.getD y 0) k)]⟩) (fun k => (k : Int) ≤ n) (fun k => n.toNat - k) 0 (by omega) (go (r := ?_)) (fun k hk => ?_)
    · simp [tabL]
    have hkl := tabL_len (fun _ => l.getD y 0) k
    have hsn := tabL_snoc (fun _ => l.getD y 0) k
    by_cases hlt : (k : Int) < n
    · refine go (r := ?_); and_intros <;> intros <;> try exact True.intro
      all_goals first | contradiction | omega | exact hsn.symm | trace_state
    · have hke : k = n.toNat := by omega
      subst hke
      refine go (r := ?_); and_intros <;> intros <;> try exact True.intro
      all_goals first | contradiction | omega | trace_state
  · rw [row_3 h0 hy]
    refine FnC.of_body tabOk Tryz.func77 Tryz.ntmps77 rfl (by decide +kernel) (by simp) fun G => ?_
    refine go (r := ?_); and_intros <;> intros <;> try exact True.intro
    refine K.call ?_
    apply WpL.callK (SlopeRow_i t l c a b n y ⟨h0, hy⟩)
    · exact .agg (.keep rfl rfl (.keep rfl rfl (.keep rfl rfl (.keep rfl rfl (.keep rfl rfl .nil))))) (.keep rfl rfl (.keep rfl rfl .nil))
    · decide
    refine go (r := ?_); and_intros <;> intros <;> try exact True.intro
    all_goals trace_state
  · rw [row_4 h0 hy]
    have hsl := sofL_len (t ++ [t.getD (2 * n - 1).toNat 0])
    rw [List.length_append, List.length_singleton] at hsl
    unfold sofS
    rw [if_pos rfl]
    have e1 : ((y : Int) + n).toNat - (y : Int).toNat = n.toNat := by omega
    have e2 : (y : Int).toNat = y := by omega
    refine FnC.of_body tabOk Tryz.func77 Tryz.ntmps77 rfl (by decide +kernel) (by simp) fun G => ?_
    refine go (r := ?_); and_intros <;> intros <;> try exact True.intro
    all_goals (rw [e1, e2]; exact .keep rfl rfl rfl .nil)
  · rw [row_5 h0 hy]
    have hsl := sofL_len (bordL t l c n)
    have hbl := bord_len h0
    unfold sofS
    rw [if_neg (by decide)]
    have e1 : (2 * n - 1 - (y : Int)).toNat - (n - 1 - (y : Int)).toNat = n.toNat := by omega
    have e2 : (n - 1 - (y : Int)).toNat = n.toNat - 1 - y := by omega
    refine FnC.of_body tabOk Tryz.func77 Tryz.ntmps77 rfl (by decide +kernel) (by simp) fun G => ?_
    refine go (r := ?_); and_intros <;> intros <;> try exact True.intro
    all_goals (rw [e1, e2]; exact .keep rfl rfl rfl .nil)
end
theorem sofS_len {t l : List Int} {c n : Int} {m : Int} (h : NbOk t l c n) : (sofS m t l c n).length ≤ 16 := by
  have h1 := sofL_len (t ++ [t.getD (2 * n - 1).toNat 0])
  have h2 := sofL_len (bordL t l c n)
  have h3 := bord_len h
  rw [List.length_append, List.length_singleton] at h1
  have h4 := h.1
  have h5 := h.2.1
  unfold sofS
  split <;> omega
section
attribute [-instance] Border_s Softened_s
/-- Predictions row by row come to those number by number. -/
theorem FastPred_o (m : Int) (t l : List Int) (c : Int) (a b : Bool) (n : Nat) (h : NbOk t l c n ∧ 0 ≤ m ∧ m ≤ 5) : Fn 40 [I m, NbA t l c a b, I n] [XI (predS m t l c a b n)] (.own 0 0 0 (predS m t l c a b n).length) := by
  obtain ⟨h0, hm0, hm5⟩ := h
  obtain ⟨h1, h2, h3, h4, h5, h6⟩ := id h0
  have hbl := bord_len h0
  have hbi := bord_in h0
  have hd := decide_eq_true h0
  have hmw : ¬ modeW m = [] := fun hh => (modeW_nil m).1 hh ⟨hm0, hm5⟩
  have hps : predS m t l c a b n = prK m t l c a b n (n * n) := by rw [predS, if_pos ⟨h0, hm0, hm5⟩, Int.toNat_natCast]
  have hsS := sofS_len (m := m) h0
  have hpl := prK_len m t l c a b n (n * n)
  have hn48 : n = 4 ∨ n = 8 := by omega
  have g1 := in_get h4 (k := (2 * (n : Int) - 1).toNat) (by omega)
  have hti : In (t ++ [t.getD (2 * (n : Int) - 1).toNat 0]) 0 255 := in_append h4 (in_one g1)
  rw [hps, hpl]
  by_cases hm4 : m = 4
  · have hss : sofS m t l c n = sofL (t ++ [t.getD (2 * (n : Int) - 1).toNat 0]) := by unfold sofS; rw [if_pos hm4]
    rcases hn48 with rfl | rfl
    · refine FnC.of_body tabOk Tryz.func40 Tryz.ntmps40 rfl (by decide +kernel) (by simp) fun G => ?_
      refine goR (r := ?_); and_intros <;> intros <;> try exact True.intro
      all_goals first | contradiction | omega | skip
      refine K.call ?_
      apply WpL.callI (Border_s.ok t l c a b ((4 : Nat) : Int) (by omega))
      · exact snapA
      · exact locA
      · exact outA
      · exact frzA
      · decide
      refine goR (r := ?_); and_intros <;> intros <;> try exact True.intro
      refine K.call ?_
      apply WpL.callI (Softened_s.ok (bordL t l c ((4 : Nat) : Int)) ⟨hbi, by omega, by omega⟩)
      · exact snapA
      · exact locA
      · exact outA
      · exact frzA
      · decide
      refine goR (r := ?_); and_intros <;> intros <;> try exact True.intro
      all_goals first | contradiction | omega | skip
      try
        refine K.call ?_
        apply WpL.callI (Softened_s.ok (t ++ [t.getD (2 * ((4 : Nat) : Int) - 1).toNat 0]) ⟨hti, by simp; omega, by simp; omega⟩)
        · exact snapA
        · exact locA
        · exact outA
        · exact frzA
        · decide
        refine goR (r := ?_); and_intros <;> intros <;> try exact True.intro
      rw [← hss]
      refine WpA.loop (fun y : Nat => ⟨[(0, I m), (2, I 4), (4, .ptr 0 0 0), (7, .own 1 0 0 (y * 4)), (8, IL (sofS m t l c ((4 : Nat) : Int))), (10, I y)], [NbO t l c a b, XI (prK m t l c a b 4 (y * 4))]⟩) (fun y => y ≤ 4) (fun y => 4 - y) 0 (by omega) (go (r := ?_)) (fun y hy => ?_)
      · and_intros <;> first | exact True.intro | rfl | trace_state
      have hkl := prK_len m t l c a b 4 (y * 4)
      by_cases hlt : y < 4
      · have hrw := pr_row (m := m) (t := t) (l := l) (c := c) (a := a) (b := b) (n := 4) (y := y) (by decide)
        have hrl := rowP_len m t l c a b ((4 : Nat) : Int) y
        refine goR (r := ?_); and_intros <;> intros <;> try exact True.intro
        all_goals first | contradiction | omega | skip
        refine K.call ?_
        apply WpL.callK (l17Row_k m t l c a b ((4 : Nat) : Int) y ⟨h0, by omega, hm0, hm5⟩)
        · exact .keep rfl rfl (.agg (.keep rfl rfl (.keep rfl rfl (.keep rfl rfl (.keep rfl rfl (.keep rfl rfl .nil))))) (.keep rfl rfl (.keep rfl rfl (.keep rfl rfl .nil))))
        · decide
        refine goR (r := ?_); and_intros <;> intros <;> try exact True.intro
        all_goals first | contradiction | omega | exact hrw | trace_state
      · obtain rfl : y = 4 := by omega
        refine goR (r := ?_); and_intros <;> intros <;> try exact True.intro
        all_goals first | contradiction | omega | trace_state
    · refine FnC.of_body tabOk Tryz.func40 Tryz.ntmps40 rfl (by decide +kernel) (by simp) fun G => ?_
      refine goR (r := ?_); and_intros <;> intros <;> try exact True.intro
      all_goals first | contradiction | omega | skip
      refine K.call ?_
      apply WpL.callI (Border_s.ok t l c a b ((8 : Nat) : Int) (by omega))
      · exact snapA
      · exact locA
      · exact outA
      · exact frzA
      · decide
      refine goR (r := ?_); and_intros <;> intros <;> try exact True.intro
      refine K.call ?_
      apply WpL.callI (Softened_s.ok (bordL t l c ((8 : Nat) : Int)) ⟨hbi, by omega, by omega⟩)
      · exact snapA
      · exact locA
      · exact outA
      · exact frzA
      · decide
      refine goR (r := ?_); and_intros <;> intros <;> try exact True.intro
      all_goals first | contradiction | omega | skip
      try
        refine K.call ?_
        apply WpL.callI (Softened_s.ok (t ++ [t.getD (2 * ((8 : Nat) : Int) - 1).toNat 0]) ⟨hti, by simp; omega, by simp; omega⟩)
        · exact snapA
        · exact locA
        · exact outA
        · exact frzA
        · decide
        refine goR (r := ?_); and_intros <;> intros <;> try exact True.intro
      rw [← hss]
      refine WpA.loop (fun y : Nat => ⟨[(0, I m), (2, I 8), (4, .ptr 0 0 0), (7, .own 1 0 0 (y * 8)), (8, IL (sofS m t l c ((8 : Nat) : Int))), (10, I y)], [NbO t l c a b, XI (prK m t l c a b 8 (y * 8))]⟩) (fun y => y ≤ 8) (fun y => 8 - y) 0 (by omega) (go (r := ?_)) (fun y hy => ?_)
      · and_intros <;> first | exact True.intro | rfl | trace_state
      have hkl := prK_len m t l c a b 8 (y * 8)
      by_cases hlt : y < 8
      · have hrw := pr_row (m := m) (t := t) (l := l) (c := c) (a := a) (b := b) (n := 8) (y := y) (by decide)
        have hrl := rowP_len m t l c a b ((8 : Nat) : Int) y
        refine goR (r := ?_); and_intros <;> intros <;> try exact True.intro
        all_goals first | contradiction | omega | skip
        refine K.call ?_
        apply WpL.callK (l17Row_k m t l c a b ((8 : Nat) : Int) y ⟨h0, by omega, hm0, hm5⟩)
        · exact .keep rfl rfl (.agg (.keep rfl rfl (.keep rfl rfl (.keep rfl rfl (.keep rfl rfl (.keep rfl rfl .nil))))) (.keep rfl rfl (.keep rfl rfl (.keep rfl rfl .nil))))
        · decide
        refine goR (r := ?_); and_intros <;> intros <;> try exact True.intro
        all_goals first | contradiction | omega | exact hrw | trace_state
      · obtain rfl : y = 8 := by omega
        refine goR (r := ?_); and_intros <;> intros <;> try exact True.intro
        all_goals first | contradiction | omega | trace_state
  · have hss : sofS m t l c n = sofL (bordL t l c n) := by unfold sofS; rw [if_neg hm4]
    rcases hn48 with rfl | rfl
    · refine FnC.of_body tabOk Tryz.func40 Tryz.ntmps40 rfl (by decide +kernel) (by simp) fun G => ?_
      refine goR (r := ?_); and_intros <;> intros <;> try exact True.intro
      all_goals first | contradiction | omega | skip
      refine K.call ?_
      apply WpL.callI (Border_s.ok t l c a b ((4 : Nat) : Int) (by omega))
      · exact snapA
      · exact locA
      · exact outA
      · exact frzA
      · decide
      refine goR (r := ?_); and_intros <;> intros <;> try exact True.intro
      refine K.call ?_
      apply WpL.callI (Softened_s.ok (bordL t l c ((4 : Nat) : Int)) ⟨hbi, by omega, by omega⟩)
      · exact snapA
      · exact locA
      · exact outA
      · exact frzA
      · decide
      refine goR (r := ?_); and_intros <;> intros <;> try exact True.intro
      all_goals first | contradiction | omega | skip
      try
        refine K.call ?_
        apply WpL.callI (Softened_s.ok (t ++ [t.getD (2 * ((4 : Nat) : Int) - 1).toNat 0]) ⟨hti, by simp; omega, by simp; omega⟩)
        · exact snapA
        · exact locA
        · exact outA
        · exact frzA
        · decide
        refine goR (r := ?_); and_intros <;> intros <;> try exact True.intro
      rw [← hss]
      refine WpA.loop (fun y : Nat => ⟨[(0, I m), (2, I 4), (4, .ptr 0 0 0), (7, .own 1 0 0 (y * 4)), (8, IL (sofS m t l c ((4 : Nat) : Int))), (10, I y)], [NbO t l c a b, XI (prK m t l c a b 4 (y * 4))]⟩) (fun y => y ≤ 4) (fun y => 4 - y) 0 (by omega) (go (r := ?_)) (fun y hy => ?_)
      · and_intros <;> first | exact True.intro | rfl | trace_state
      have hkl := prK_len m t l c a b 4 (y * 4)
      by_cases hlt : y < 4
      · have hrw := pr_row (m := m) (t := t) (l := l) (c := c) (a := a) (b := b) (n := 4) (y := y) (by decide)
        have hrl := rowP_len m t l c a b ((4 : Nat) : Int) y
        refine goR (r := ?_); and_intros <;> intros <;> try exact True.intro
        all_goals first | contradiction | omega | skip
        refine K.call ?_
        apply WpL.callK (l17Row_k m t l c a b ((4 : Nat) : Int) y ⟨h0, by omega, hm0, hm5⟩)
        · exact .keep rfl rfl (.agg (.keep rfl rfl (.keep rfl rfl (.keep rfl rfl (.keep rfl rfl (.keep rfl rfl .nil))))) (.keep rfl rfl (.keep rfl rfl (.keep rfl rfl .nil))))
        · decide
        refine goR (r := ?_); and_intros <;> intros <;> try exact True.intro
        all_goals first | contradiction | omega | exact hrw | trace_state
      · obtain rfl : y = 4 := by omega
        refine goR (r := ?_); and_intros <;> intros <;> try exact True.intro
        all_goals first | contradiction | omega | trace_state
    · refine FnC.of_body tabOk Tryz.func40 Tryz.ntmps40 rfl (by decide +kernel) (by simp) fun G => ?_
      refine goR (r := ?_); and_intros <;> intros <;> try exact True.intro
      all_goals first | contradiction | omega | skip
      refine K.call ?_
      apply WpL.callI (Border_s.ok t l c a b ((8 : Nat) : Int) (by omega))
      · exact snapA
      · exact locA
      · exact outA
      · exact frzA
      · decide
      refine goR (r := ?_); and_intros <;> intros <;> try exact True.intro
      refine K.call ?_
      apply WpL.callI (Softened_s.ok (bordL t l c ((8 : Nat) : Int)) ⟨hbi, by omega, by omega⟩)
      · exact snapA
      · exact locA
      · exact outA
      · exact frzA
      · decide
      refine goR (r := ?_); and_intros <;> intros <;> try exact True.intro
      all_goals first | contradiction | omega | skip
      try
        refine K.call ?_
        apply WpL.callI (Softened_s.ok (t ++ [t.getD (2 * ((8 : Nat) : Int) - 1).toNat 0]) ⟨hti, by simp; omega, by simp; omega⟩)
        · exact snapA
        · exact locA
        · exact outA
        · exact frzA
        · decide
        refine goR (r := ?_); and_intros <;> intros <;> try exact True.intro
      rw [← hss]
      refine WpA.loop (fun y : Nat => ⟨[(0, I m), (2, I 8), (4, .ptr 0 0 0), (7, .own 1 0 0 (y * 8)), (8, IL (sofS m t l c ((8 : Nat) : Int))), (10, I y)], [NbO t l c a b, XI (prK m t l c a b 8 (y * 8))]⟩) (fun y => y ≤ 8) (fun y => 8 - y) 0 (by omega) (go (r := ?_)) (fun y hy => ?_)
      · and_intros <;> first | exact True.intro | rfl | trace_state
      have hkl := prK_len m t l c a b 8 (y * 8)
      by_cases hlt : y < 8
      · have hrw := pr_row (m := m) (t := t) (l := l) (c := c) (a := a) (b := b) (n := 8) (y := y) (by decide)
        have hrl := rowP_len m t l c a b ((8 : Nat) : Int) y
        refine goR (r := ?_); and_intros <;> intros <;> try exact True.intro
        all_goals first | contradiction | omega | skip
        refine K.call ?_
        apply WpL.callK (l17Row_k m t l c a b ((8 : Nat) : Int) y ⟨h0, by omega, hm0, hm5⟩)
        · exact .keep rfl rfl (.agg (.keep rfl rfl (.keep rfl rfl (.keep rfl rfl (.keep rfl rfl (.keep rfl rfl .nil))))) (.keep rfl rfl (.keep rfl rfl (.keep rfl rfl .nil))))
        · decide
        refine goR (r := ?_); and_intros <;> intros <;> try exact True.intro
        all_goals first | contradiction | omega | exact hrw | trace_state
      · obtain rfl : y = 8 := by omega
        refine goR (r := ?_); and_intros <;> intros <;> try exact True.intro
        all_goals first | contradiction | omega | trace_state
end
end Go.Proofs.YtjhejgamjlokdaaGreat

/- Contracts: a block put into a frame, by both. No condition. -/
namespace Go.Proofs.YtjhejgamjlokdaaGreat
open Go Go.Abs
set_option linter.unusedVariables false
set_option linter.unusedSimpArgs false
set_option maxRecDepth 100000
set_option maxHeartbeats 4000000
attribute [local irreducible] WpA WpL Rnd Blk Abs.Seq Abs.Fin Abs.FinG FnC FnG Only

instance FastPred_s : Con 40 (∀ (m : Int) (t l : List Int) (c : Int) (a b : Bool) (n : Int), NbOk t l c n ∧ 0 ≤ m ∧ m ≤ 5 → Fn 40 [I m, NbA t l c a b, I n] [XI (predS m t l c a b n)] (.own 0 0 0 (predS m t l c a b n).length)) := ⟨fun m t l c a b n h => by
  obtain ⟨k, rfl⟩ : ∃ k : Nat, n = k := ⟨n.toNat, by have := h.1.1; omega⟩
  exact FastPred_o m t l c a b k h⟩
section
attribute [-instance] FastResidual_s
instance PutFast_s : Con 9 (∀ (W H : Int) (p : List Int) (w h q : Int) (b d : Bool) (lens : List Int) (x y m : Int) (lv : List Int), p.length ≤ 1099511627776 ∧ lv.length ≤ 1099511627776 → Fn 9 [FrA W H p, HdA w h q b d lens, I x, I y, .agg [I m, IL lv]] [XI (putL W H p q b x y m lv)] (.tup [FrOwn 0 W H p.length, B (decide (PutOk W H p q x y m lv))])) := ⟨fun W H p w h q b d lens x y m lv hl => by
  obtain ⟨hpl, hll⟩ := hl
  have hrl := resL_le b q lv
  have hmw := modeW_nil m
  by_cases hok : LvOk lv ∧ 0 < stepL q
  · have hrn := resL_len (b := b) hok
    have hr0 : ¬ (resL b q lv).length = 0 := by have := hok.1.2; omega
    by_cases hf : Fits W H p x y (side lv.length)
    · by_cases hm : 0 ≤ m ∧ m ≤ 5
      · have hp : PutOk W H p q x y m lv := ⟨hf, hok, hm⟩
        have hd := decide_eq_true hp
        have hds := decide_eq_true (put_set (b := b) hp)
        unfold nbP at hds
        have hmw2 : ¬ modeW m = [] := fun hh => (hmw.1 hh) hm
        have htw := put_two (b := b) hp
        unfold nbP at htw
        obtain ⟨hn1, hn2⟩ := nb_lens hf
        have hn3 := hf.2.1
        have hn4 := nb_ok hf
        have hpr : (predS m (topL W H p x y (side lv.length)) (lefL W H p x y (side lv.length)) (corL W H p x y (side lv.length)) (hasT W H p x y (side lv.length)) (hasE W H p x y (side lv.length)) (side lv.length)).length ≤ 64 := by have := htw.2; have := hok.1.2; omega
        have hre := recL_len (predS m (topL W H p x y (side lv.length)) (lefL W H p x y (side lv.length)) (corL W H p x y (side lv.length)) (hasT W H p x y (side lv.length)) (hasE W H p x y (side lv.length)) (side lv.length)) (resL b q lv)
        have hsl := setL_len W H p x y (recL (predS m (topL W H p x y (side lv.length)) (lefL W H p x y (side lv.length)) (corL W H p x y (side lv.length)) (hasT W H p x y (side lv.length)) (hasE W H p x y (side lv.length)) (side lv.length)) (resL b q lv))
        rw [if_pos htw.1] at hre
        rw [put_eq hp, hd]
        skip
        refine FnC.of_body tabOk Tryz.func9 Tryz.ntmps9 rfl (by decide +kernel) (by simp) fun G => ?_
        refine goR (r := ?_); and_intros <;> intros <;> try exact True.intro
        all_goals first | contradiction | omega | skip
        refine K.call ?_
        apply WpL.callI (FastResidual_s.ok w h q b d lens lv hll)
        · exact snapA
        · exact locA
        · exact outA
        · exact frzA
        · decide
        refine goR (r := ?_); and_intros <;> intros <;> try exact True.intro
        all_goals first | contradiction | omega | skip
        generalize hX : setL W H p x y (recL (predS m (topL W H p x y (side lv.length)) (lefL W H p x y (side lv.length)) (corL W H p x y (side lv.length)) (hasT W H p x y (side lv.length)) (hasE W H p x y (side lv.length)) (side lv.length)) (resL b q lv)) = X at hsl ⊢
        try dsimp only [List.append]
        apply WpA.regionRF (O := [FrO W H p, ⟨[I w, I h, I q, B b, B d, IL lens], 0, 0, none⟩, ⟨[I m, IL lv], 0, 0, none⟩, ⟨[I 0, I 0, .nilS], 0, 0, none⟩]) (Or := []) (O1 := [FrO W H p, ⟨[I w, I h, I q, B b, B d, IL lens], 0, 0, none⟩, ⟨[I m, IL lv], 0, 0, none⟩, ⟨[I 0, I 0, .nilS], 0, 0, none⟩, ⟨ints X, 1, 1, some 3⟩, ⟨[I W, I H, .own 4 1 0 p.length], 1, 0, none⟩, deadO, deadO]) 20 2 [] [1] rfl mixed (by decide +kernel)
        · exact rfl
        · apply HeadR.consF .none rfl
          · exact rfl
          · exact rfl
          · exact in1
          · exact rfl
          · exact rfl
          apply HeadR.consF .none rfl
          · exact rfl
          · exact rfl
          · exact in1
          · exact rfl
          · exact rfl
          apply HeadR.consF .none rfl
          · exact rfl
          · exact rfl
          · exact in1
          · exact rfl
          · exact rfl
          apply HeadR.consF .none rfl
          · exact rfl
          · exact rfl
          · exact in1
          · exact rfl
          · exact rfl
          apply HeadR.consF .none rfl
          · exact rfl
          · exact rfl
          · exact in1
          · exact rfl
          · exact rfl
          apply HeadR.consF .none rfl
          · exact rfl
          · exact rfl
          · exact in1
          · exact rfl
          · exact rfl
          apply HeadR.consF .none rfl
          · exact rfl
          · exact rfl
          · exact in1
          · exact rfl
          · exact rfl
          apply HeadR.consF .none rfl
          · exact rfl
          · exact rfl
          · exact in1
          · exact rfl
          · exact rfl
          apply HeadR.consF .none rfl
          · exact rfl
          · exact rfl
          · exact in1
          · exact rfl
          · exact rfl
          apply HeadR.consF .none rfl
          · exact rfl
          · exact rfl
          · intro Tv Ov hc2 hp9 hd9 hk9
            refine K.call ?_
            apply WpL.callI (NbAt_s.ok W H p x y (side lv.length) hpl)
            · exact snapA
            · exact locA
            · exact outA
            · exact frzA
            · decide
            · exact WpL.nil (Only.mk rfl)
          · exact rfl
          · exact rfl
          apply HeadR.consF .none rfl
          · exact rfl
          · exact rfl
          · exact in1
          · exact rfl
          · exact rfl
          apply HeadR.consF .none rfl
          · exact rfl
          · exact rfl
          · intro Tv Ov hc2 hp9 hd9 hk9
            refine K.call ?_
            apply WpL.callI (FastPred_s.ok m (topL W H p x y (side lv.length)) (lefL W H p x y (side lv.length)) (corL W H p x y (side lv.length)) (hasT W H p x y (side lv.length)) (hasE W H p x y (side lv.length)) (side lv.length) ⟨hn4, hm⟩)
            · exact snapA
            · exact locA
            · exact outA
            · exact frzA
            · decide
            · exact WpL.nil (Only.mk rfl)
          · exact rfl
          · exact rfl
          apply HeadR.consF .none rfl
          · exact rfl
          · exact rfl
          · exact in1
          · exact rfl
          · exact rfl
          apply HeadR.consF .none rfl
          · exact rfl
          · exact rfl
          · intro Tv Ov hc2 hp9 hd9 hk9
            refine K.call ?_
            apply WpL.callI (FastRecon_s.ok (predS m (topL W H p x y (side lv.length)) (lefL W H p x y (side lv.length)) (corL W H p x y (side lv.length)) (hasT W H p x y (side lv.length)) (hasE W H p x y (side lv.length)) (side lv.length)) (resL b q lv) htw.1)
            · exact snapA
            · exact locA
            · exact outA
            · exact frzA
            · decide
            · exact WpL.nil (Only.mk rfl)
          · exact rfl
          · exact rfl
          apply HeadR.consF (V := .tup [.agg [I W, I H, .own 4 1 0 p.length], B true]) (.put 0 ⟨ints X, 1, 1, some 3⟩) rfl
          · exact rfl
          · exact rfl
          · intro Tv Ov hc2 hp9 hd9 hk9
            subst hX
            refine K.call ?_
            have hcon := SetBlock_s.ok W H p x y (recL (predS m (topL W H p x y (side lv.length)) (lefL W H p x y (side lv.length)) (corL W H p x y (side lv.length)) (hasT W H p x y (side lv.length)) (hasE W H p x y (side lv.length)) (side lv.length)) (resL b q lv)) ⟨hpl, by omega⟩
            rw [hsl, hds] at hcon
            refine WpL.callF hcon snapA locA outA (cnt_some _ 0) rfl rfl (by decide) ?_
            rw [Nat.zero_add]
            apply WpL.putV (p := 0)
            · exact .tup (.agg (.keep rfl rfl (.keep rfl rfl (.own (by first | rfl | exact Nat.zero_add _) .nil))) (.keep rfl rfl .nil)) .nil
            · exact hp9 0 _ rfl
            · exact Nat.zero_le _
            · exact rfl
            · exact still_ints _
          · exact rfl
          · exact rfl
          apply HeadR.consF .none rfl
          · exact rfl
          · exact rfl
          · exact in1
          · exact rfl
          · exact rfl
          apply HeadR.consF .none rfl
          · exact rfl
          · exact rfl
          · exact in1
          · exact rfl
          · exact rfl
          apply HeadR.consF .none rfl
          · exact rfl
          · exact rfl
          · exact in1
          · exact rfl
          · exact rfl
          apply HeadR.consF (V := .ptr 5 1 0) (.put 1 ⟨[I 0, I 0, .nilS], 1, 0, none⟩) rfl
          · exact rfl
          · exact rfl
          · intro Tv Ov hc2 hp9 hd9 hk9
            refine WpL.allocStruct tabOk rfl (nid_len _ 0) (by decide) ?_
            apply WpL.putV (p := 1)
            · exact .ptr (by first | rfl | exact Nat.zero_add _) .nil
            · exact hp9 1 _ rfl
            · exact Nat.zero_le _
            · exact rfl
            · exact rfl
          · exact rfl
          · exact rfl
          apply HeadR.consN (.step 1 ⟨[I W, I H, .own 4 1 0 p.length], 1, 0, none⟩) 1000
          · exact rfl
          · exact rfl
          · intro Tv Ov hc2 hp9 hd9 hk9
            obtain ⟨A0, R0, rfl⟩ := split2 (hp9 1 _ rfl)
            have h0 := hd9 14 _ 0 _ (by decide) rfl rfl rfl
            simp only [List.getElem?_cons_zero, Option.some.injEq] at h0
            subst h0
            refine K.st ?_
            refine WpL.store tabOk rfl rfl rfl rfl rfl rfl rfl rfl (Nat.le_of_ble_eq_true rfl) ?_
            refine WpL.weak (Weak.any1 (d := 1000)) ?_
            exact WpL.nil (Only.mk rfl)
          · exact rfl
          · exact rfl
          exact HeadR.nil
        · exact rfl
        · exact rfl
        · exact rfl
        · exact rfl
        · exact rfl
        · exact rfl
        · exact rfl
        refine go (r := ?_); and_intros <;> intros <;> try exact True.intro
        all_goals first | contradiction | omega | exact hds | trace_state
      · have hd := decide_eq_false (fun hh : PutOk W H p q x y m lv => hm hh.2.2)
        have hmw2 : modeW m = [] := hmw.2 hm
        rw [put_no (of_decide_eq_false hd), hd]
        refine FnC.of_body tabOk Tryz.func9 Tryz.ntmps9 rfl (by decide +kernel) (by simp) fun G => ?_
        refine goR (r := ?_); and_intros <;> intros <;> try exact True.intro
        all_goals first | contradiction | omega | skip
        refine K.call ?_
        apply WpL.callI (FastResidual_s.ok w h q b d lens lv hll)
        · exact snapA
        · exact locA
        · exact outA
        · exact frzA
        · decide
        refine goR (r := ?_); and_intros <;> intros <;> try exact True.intro
        all_goals first | contradiction | omega | trace_state
    · have hd := decide_eq_false (fun hh : PutOk W H p q x y m lv => hf hh.1)
      rw [put_no (of_decide_eq_false hd), hd]
      skip
      refine FnC.of_body tabOk Tryz.func9 Tryz.ntmps9 rfl (by decide +kernel) (by simp) fun G => ?_
      refine goR (r := ?_); and_intros <;> intros <;> try exact True.intro
      all_goals first | contradiction | omega | skip
      refine K.call ?_
      apply WpL.callI (FastResidual_s.ok w h q b d lens lv hll)
      · exact snapA
      · exact locA
      · exact outA
      · exact frzA
      · decide
      refine goR (r := ?_); and_intros <;> intros <;> try exact True.intro
      all_goals first | contradiction | omega | trace_state
  · have hd := decide_eq_false (fun hh : PutOk W H p q x y m lv => hok hh.2.1)
    have hrn := resL_n (b := b) hok
    have hr0 : (resL b q lv).length = 0 := by rw [hrn]; rfl
    have hf0 : ¬ Fits W H p x y (side 0) := fit0
    rw [put_no (of_decide_eq_false hd), hd]
    refine FnC.of_body tabOk Tryz.func9 Tryz.ntmps9 rfl (by decide +kernel) (by simp) fun G => ?_
    refine goR (r := ?_); and_intros <;> intros <;> try exact True.intro
    all_goals first | contradiction | omega | skip
    refine K.call ?_
    apply WpL.callI (FastResidual_s.ok w h q b d lens lv hll)
    · exact snapA
    · exact locA
    · exact outA
    · exact frzA
    · decide
    rw [hrn]
    refine goR (r := ?_); and_intros <;> intros <;> try exact True.intro
    all_goals first | contradiction | omega | trace_state
  ⟩
end
instance PutFast_c : Con 13 (∀ (W H : Int) (p : List Int) (w h q : Int) (b d : Bool) (lens : List Int) (x y m : Int) (lv : List Int), p.length ≤ 1099511627776 ∧ lv.length ≤ 1099511627776 → Fn 13 [FrA W H p, HdA w h q b d lens, I x, I y, .agg [I m, IL lv]] [XI (putL W H p q b x y m lv)] (.tup [FrOwn 0 W H p.length, B (decide (PutOk W H p q x y m lv))])) := ⟨fun W H p w h q b d lens x y m lv hl => by
  refine FnC.of_body tabOk Tryz.func13 Tryz.ntmps13 rfl (by decide +kernel) (by simp) fun G => ?_
  refine go (r := ?_); and_intros <;> intros <;> try exact True.intro
  all_goals trace_state⟩
end Go.Proofs.YtjhejgamjlokdaaGreat

/- Contracts of the laws' own functions over headers, blocks, macroblocks and streams. No condition. -/
namespace Go.Proofs.YtjhejgamjlokdaaGreat
open Go Go.Abs
set_option linter.unusedVariables false
set_option linter.unusedSimpArgs false
set_option maxRecDepth 100000
set_option maxHeartbeats 4000000
attribute [local irreducible] WpA WpL Rnd Blk Abs.Seq Abs.Fin Abs.FinG FnC FnG Only

attribute [local simp] Abs.setL
/-! Headers. -/
instance szHeader_c : Con 7 (∀ (w h q : Int) (b d : Bool) (l : List Int) (left : Int), l.length ≤ 9223372036854775807 ∧ 0 ≤ left ∧ left ≤ 1048576 → Fn 7 [HdA w h q b d l, I left] [] (I (max (-1) (left - l.length)))) := ⟨fun w h q b d l left hl => by
  refine FnC.of_body tabOk Tryz.func7 Tryz.ntmps7 rfl (by decide +kernel) (by simp) fun G => ?_
  refine go (r := ?_); and_intros <;> intros <;> try exact True.intro⟩
instance toHeader_c : Con 11 (∀ (w h q : Int) (b d : Bool) (l : List Int), l.length ≤ 1099511627776 → Fn 11 [HdA w h q b d l] [⟨ints l, 0, 1, some 3⟩] (.agg [I w, I h, I q, B b, B d, .own 0 0 0 l.length])) := ⟨fun w h q b d l hl => by
  refine FnC.of_body tabOk Tryz.func11 Tryz.ntmps11 rfl (by decide +kernel) (by simp) fun G => ?_
  refine go (r := ?_); and_intros <;> intros <;> try exact True.intro⟩
instance eqHeader_c : Con 15 (∀ (w h q : Int) (b d : Bool) (l : List Int) (w2 h2 q2 : Int) (b2 d2 : Bool) (l2 : List Int), l.length ≤ 1099511627776 ∧ l2.length ≤ 1099511627776 →
    Fn 15 [HdA w h q b d l, HdA w2 h2 q2 b2 d2 l2] [] (B (decide (w = w2 ∧ h = h2 ∧ q = q2 ∧ b = b2 ∧ d = d2 ∧ l = l2)))) := ⟨fun w h q b d l w2 h2 q2 b2 d2 l2 hl => by
  refine FnC.of_body tabOk Tryz.func15 Tryz.ntmps15 rfl (by decide +kernel) (by simp) fun G => ?_
  refine go (r := ?_); and_intros <;> intros <;> try exact True.intro
  all_goals simp_all⟩
instance markHeader_c : ConG 18 (∀ (w h q : Int) (b d : Bool) (l : List Int) (k : Int), l.length ≤ 1048576 ∧ 0 ≤ k ∧ k ≤ 1073741824 →
    Gn 18 [.agg [I w, I h, I q, B b, B d, .own 0 0 0 l.length], I k] [IN l] [IN (marksI k l.length)] [] (I (k + l.length))) := ⟨fun w h q b d l k hk => by
  refine FnG.of_bodyF tabOk Tryz.func18 Tryz.ntmps18 rfl (by decide +kernel) (by simp) rfl rfl fun G => ?_
  refine go (r := ?_); and_intros <;> intros <;> try exact True.intro⟩

/-! Blocks. -/
instance szBlock_c : Con 8 (∀ (m : Int) (l : List Int) (left : Int), l.length ≤ 9223372036854775807 ∧ 0 ≤ left ∧ left ≤ 1048576 → Fn 8 [.agg [I m, IL l], I left] [] (I (max (-1) (left - l.length)))) := ⟨fun m l left hl => by
  refine FnC.of_body tabOk Tryz.func8 Tryz.ntmps8 rfl (by decide +kernel) (by simp) fun G => ?_
  refine go (r := ?_); and_intros <;> intros <;> try exact True.intro⟩
instance toBlock_c : Con 12 (∀ (m : Int) (l : List Int), l.length ≤ 1099511627776 → Fn 12 [.agg [I m, IL l]] [⟨ints l, 0, 1, some 3⟩] (.agg [I m, .own 0 0 0 l.length])) := ⟨fun m l hl => by
  refine FnC.of_body tabOk Tryz.func12 Tryz.ntmps12 rfl (by decide +kernel) (by simp) fun G => ?_
  refine go (r := ?_); and_intros <;> intros <;> try exact True.intro⟩
instance eqBlock_c : Con 16 (∀ (m : Int) (l : List Int) (m2 : Int) (l2 : List Int), l.length ≤ 1099511627776 ∧ l2.length ≤ 1099511627776 → Fn 16 [.agg [I m, IL l], .agg [I m2, IL l2]] [] (B (decide (m = m2 ∧ l = l2)))) := ⟨fun m l m2 l2 hl => by
  refine FnC.of_body tabOk Tryz.func16 Tryz.ntmps16 rfl (by decide +kernel) (by simp) fun G => ?_
  refine go (r := ?_); and_intros <;> intros <;> try exact True.intro
  all_goals simp_all⟩
def endB (k : Int) (l : List Blok) : Int := k + bw l
def markB : Int → List Blok → List Blok
  | _, [] => []
  | k, b :: l => (k, marksI (k + 1) b.2.length) :: markB (k + 1 + b.2.length) l
@[simp] theorem markB_len : ∀ (l : List Blok) (k : Int), (markB k l).length = l.length
  | [], k => rfl
  | b :: l, k => by rw [markB, List.length_cons, List.length_cons, markB_len l]
/-! Macroblocks. -/
def markM : Int → List Mbk → List Mbk
  | _, [] => []
  | k, m :: l => (decide (k % 3 = 0), markB (k + 1) m.2) :: markM (k + 1 + bw m.2) l
@[simp] theorem markM_len : ∀ (l : List Mbk) (k : Int), (markM k l).length = l.length
  | [], k => rfl
  | b :: l, k => by rw [markM, List.length_cons, List.length_cons, markM_len l]
/-! Streams. -/
end Go.Proofs.YtjhejgamjlokdaaGreat

/- Contracts of the laws' own functions over frames and blocks that are marked. No condition. -/
namespace Go.Proofs.YtjhejgamjlokdaaGreat
open Go Go.Abs
set_option linter.unusedVariables false
set_option linter.unusedSimpArgs false
set_option maxRecDepth 100000
set_option maxHeartbeats 4000000
attribute [local irreducible] WpA WpL Rnd Blk Abs.Seq Abs.Fin Abs.FinG FnC FnG Only

instance markFrame_c : ConG 17 (∀ (W H : Int) (l : List Int) (k : Int), l.length ≤ 1048576 ∧ 0 ≤ k ∧ k ≤ 1073741824 →
    Gn 17 [.agg [I W, I H, .own 0 0 0 l.length], I k] [IN l] [IN (marksI k l.length)] [] (I (k + l.length))) := ⟨fun W H l k hk => by
  refine FnG.of_bodyF tabOk Tryz.func17 Tryz.ntmps17 rfl (by decide +kernel) (by simp) rfl rfl fun G => ?_
  refine go (r := ?_); and_intros <;> intros <;> try exact True.intro⟩
instance markBlock_c : ConG 19 (∀ (m : Int) (l : List Int) (k : Int), l.length ≤ 1048576 ∧ 0 ≤ k ∧ k ≤ 1073741824 →
    Gn 19 [.agg [I m, .own 0 0 0 l.length], I k] [IN l] [IN (marksI k l.length)] [] (I (k + l.length))) := ⟨fun m l k hk => by
  refine FnG.of_bodyF tabOk Tryz.func19 Tryz.ntmps19 rfl (by decide +kernel) (by simp) rfl rfl fun G => ?_
  refine go (r := ?_); and_intros <;> intros <;> try exact True.intro⟩
instance heldFrame_c : Con 20 (∀ (W H : Int) (l : List Int) (k : Int), (l.length ≤ 1048576 ∧ 0 ≤ k ∧ k ≤ 1024) ∧ l = marksI k l.length → Fn 20 [FrA W H l, I k] [] (I (k + l.length))) := ⟨fun W H l k hk => by
  obtain ⟨hk, hm⟩ := hk
  refine FnC.of_body tabOk Tryz.func20 Tryz.ntmps20 rfl (by decide +kernel) (by simp) fun G => ?_
  refine go (r := ?_); and_intros <;> intros <;> try exact True.intro
  all_goals first | (rw [if_pos hm] at *; first | omega | contradiction | rfl) | trace_state⟩
end Go.Proofs.YtjhejgamjlokdaaGreat

/- The law FnExactPutFast. No condition. -/
namespace Go.Proofs.YtjhejgamjlokdaaGreat
open Go Go.Abs
set_option linter.unusedVariables false
set_option linter.unusedSimpArgs false
set_option maxRecDepth 100000
set_option maxHeartbeats 4000000
attribute [local irreducible] WpA WpL Rnd Blk Abs.Seq Abs.Fin Abs.FinG FnC FnG Only
attribute [local irreducible] putL
theorem FnExactPutFast_c (W H : Int) (p : List Int) (w h q : Int) (b d : Bool) (lens : List Int) (x y m : Int) (lv : List Int) (hl : p.length ≤ 9223372036854775807 ∧ lens.length ≤ 9223372036854775807 ∧ lv.length ≤ 9223372036854775807) : Fn 3 [FrA W H p, HdA w h q b d lens, I x, I y, .agg [I m, IL lv]] [] (B true) := by
  have hpl := putL_len W H p q b x y m lv
  have hml : ∀ n, (marksI 1 n).length = n := fun n => by simp [marksI]
  refine FnC.of_body tabOk Tryz.func3 Tryz.ntmps3 rfl (by decide +kernel) (by simp) fun G => ?_
  refine goR (r := ?_); and_intros <;> intros <;> try exact True.intro
  all_goals first | contradiction | omega | (rename_i hg; exact absurd (by simp) hg) | skip
  try dsimp only [List.append]
  apply WpA.regionRF (O := [FrO W H p, ⟨[I w, I h, I q, B b, B d, IL lens], 0, 0, none⟩, ⟨[I m, IL lv], 0, 0, none⟩]) (Or := []) (O1 := [FrO W H p, ⟨[I w, I h, I q, B b, B d, IL lens], 0, 0, none⟩, ⟨[I m, IL lv], 0, 0, none⟩] ++ [⟨ints (putL W H p q b x y m lv), 1, 1, some 3⟩, ⟨[I W, I H, .own 3 1 0 p.length], 1, 0, none⟩, deadO, deadO]) 14 2 [] [1] rfl mixed (by decide +kernel)
  · exact rfl
  · apply HeadR.consF .none rfl
    · exact rfl
    · exact rfl
    · exact in1
    · exact rfl
    · exact rfl
    apply HeadR.consF .none rfl
    · exact rfl
    · exact rfl
    · intro Tv Ov hc2 hp9 hd9 hk9
      refine K.call ?_
      apply WpL.callI (toFrame_c.ok W H p (by omega))
      · exact snapA
      · exact locA
      · exact outA
      · exact frzA
      · decide
      · exact WpL.nil (Only.mk rfl)
    · exact rfl
    · exact rfl
    apply HeadR.consF .none rfl
    · exact rfl
    · exact rfl
    · exact in1
    · exact rfl
    · exact rfl
    apply HeadR.consF .none rfl
    · exact rfl
    · exact rfl
    · intro Tv Ov hc2 hp9 hd9 hk9
      refine K.call ?_
      apply WpL.callI (toHeader_c.ok w h q b d lens (by omega))
      · exact snapA
      · exact locA
      · exact outA
      · exact frzA
      · decide
      · exact WpL.nil (Only.mk rfl)
    · exact rfl
    · exact rfl
    apply HeadR.consF .none rfl
    · exact rfl
    · exact rfl
    · exact in1
    · exact rfl
    · exact rfl
    apply HeadR.consF .none rfl
    · exact rfl
    · exact rfl
    · exact in1
    · exact rfl
    · exact rfl
    apply HeadR.consF .none rfl
    · exact rfl
    · exact rfl
    · exact in1
    · exact rfl
    · exact rfl
    apply HeadR.consF .none rfl
    · exact rfl
    · exact rfl
    · intro Tv Ov hc2 hp9 hd9 hk9
      refine K.call ?_
      apply WpL.callI (toBlock_c.ok m lv (by omega))
      · exact snapA
      · exact locA
      · exact outA
      · exact frzA
      · decide
      · exact WpL.nil (Only.mk rfl)
    · exact rfl
    · exact rfl
    apply HeadR.consF (V := .tup [.agg [I W, I H, .own 3 1 0 p.length], B (decide (PutOk W H p q x y m lv))]) (.put 0 ⟨ints (putL W H p q b x y m lv), 1, 1, some 3⟩) rfl
    · exact rfl
    · exact rfl
    · intro Tv Ov hc2 hp9 hd9 hk9
      refine K.call ?_
      refine WpL.callF (PutFast_s.ok W H p w h q b d lens x y m lv (by omega)) snapA locA outA (cnt_some _ 0) rfl rfl (by decide) ?_
      rw [Nat.zero_add]
      apply WpL.putV (p := 0)
      · exact .tup (.agg (.keep rfl rfl (.keep rfl rfl (.own (by first | rfl | exact Nat.zero_add _) .nil))) (.keep rfl rfl .nil)) .nil
      · exact hp9 0 _ rfl
      · exact Nat.zero_le _
      · exact rfl
      · exact still_ints _
    · exact rfl
    · exact rfl
    apply HeadR.consF .none rfl
    · exact rfl
    · exact rfl
    · exact in1
    · exact rfl
    · exact rfl
    apply HeadR.consF .none rfl
    · exact rfl
    · exact rfl
    · exact in1
    · exact rfl
    · exact rfl
    apply HeadR.consF .none rfl
    · exact rfl
    · exact rfl
    · exact in1
    · exact rfl
    · exact rfl
    apply HeadR.consF (V := .ptr 4 1 0) (.put 1 ⟨[I 0, I 0, .nilS], 1, 0, none⟩) rfl
    · exact rfl
    · exact rfl
    · intro Tv Ov hc2 hp9 hd9 hk9
      refine WpL.allocStruct tabOk rfl (nid_len _ 0) (by decide) ?_
      apply WpL.putV (p := 1)
      · exact .ptr (by first | rfl | exact Nat.zero_add _) .nil
      · exact hp9 1 _ rfl
      · exact Nat.zero_le _
      · exact rfl
      · exact rfl
    · exact rfl
    · exact rfl
    apply HeadR.consN (.step 1 ⟨[I W, I H, .own 3 1 0 p.length], 1, 0, none⟩) 1000
    · exact rfl
    · exact rfl
    · intro Tv Ov hc2 hp9 hd9 hk9
      obtain ⟨A0, R0, rfl⟩ := split2 (hp9 1 _ rfl)
      have h0 := hd9 8 _ 0 _ (by decide) rfl rfl rfl
      simp only [List.getElem?_cons_zero, Option.some.injEq] at h0
      subst h0
      refine K.st ?_
      refine WpL.store tabOk rfl rfl rfl rfl rfl rfl rfl rfl (Nat.le_of_ble_eq_true rfl) ?_
      refine WpL.weak (Weak.any1 (d := 1000)) ?_
      exact WpL.nil (Only.mk rfl)
    · exact rfl
    · exact rfl
    exact HeadR.nil
  · exact rfl
  · exact rfl
  · exact rfl
  · exact rfl
  · exact rfl
  · exact rfl
  · exact rfl
  try dsimp only [List.append, List.cons_append, List.nil_append]
  refine goR (r := ?_); and_intros <;> intros <;> try exact True.intro
  all_goals first | contradiction | omega | (rename_i hg; exact absurd (by simp) hg) | skip
  try dsimp only [List.append]
  apply WpA.regionMG 5 mixed (by decide +kernel)
  · exact rfl
  · apply HeadJ.consF rfl
    · exact rfl
    · exact in1
    · exact rfl
    apply HeadJ.consF rfl
    · exact rfl
    · exact in1
    · exact rfl
    apply HeadJ.consF rfl
    · exact rfl
    · intro Tv
      refine K.call ?_
      apply WpL.callI (toFrame_c.ok W H p (by omega))
      · exact snapA
      · exact locA
      · exact outA
      · exact frzA
      · decide
      · exact WpL.nil (Only.mk rfl)
    · exact rfl
    apply HeadJ.consF rfl
    · exact rfl
    · exact in1
    · exact rfl
    apply HeadJ.consF rfl
    · exact rfl
    · exact in1
    · exact rfl
    exact Abs.HeadJ.nil
  · exact trueA
  · exact trueA
  · exact rfl
  · exact rfl
  refine goR (r := ?_); and_intros <;> intros <;> try exact True.intro
  all_goals first | contradiction | omega | (rename_i hg; exact absurd (by simp) hg) | skip
  try dsimp only [List.append]
  apply WpA.regionMG 5 mixed (by decide +kernel)
  · exact rfl
  · apply HeadJ.consF rfl
    · exact rfl
    · exact in1
    · exact rfl
    apply HeadJ.consF rfl
    · exact rfl
    · exact in1
    · exact rfl
    apply HeadJ.consF rfl
    · exact rfl
    · intro Tv
      refine K.call ?_
      apply WpL.callI (toHeader_c.ok w h q b d lens (by omega))
      · exact snapA
      · exact locA
      · exact outA
      · exact frzA
      · decide
      · exact WpL.nil (Only.mk rfl)
    · exact rfl
    apply HeadJ.consF rfl
    · exact rfl
    · exact in1
    · exact rfl
    apply HeadJ.consF rfl
    · exact rfl
    · exact in1
    · exact rfl
    exact Abs.HeadJ.nil
  · exact trueA
  · exact trueA
  · exact rfl
  · exact rfl
  refine goR (r := ?_); and_intros <;> intros <;> try exact True.intro
  all_goals first | contradiction | omega | (rename_i hg; exact absurd (by simp) hg) | skip
  try dsimp only [List.append]
  apply WpA.regionMG 5 mixed (by decide +kernel)
  · exact rfl
  · apply HeadJ.consF rfl
    · exact rfl
    · exact in1
    · exact rfl
    apply HeadJ.consF rfl
    · exact rfl
    · exact in1
    · exact rfl
    apply HeadJ.consF rfl
    · exact rfl
    · intro Tv
      refine K.call ?_
      apply WpL.callI (toBlock_c.ok m lv (by omega))
      · exact snapA
      · exact locA
      · exact outA
      · exact frzA
      · decide
      · exact WpL.nil (Only.mk rfl)
    · exact rfl
    apply HeadJ.consF rfl
    · exact rfl
    · exact in1
    · exact rfl
    apply HeadJ.consF rfl
    · exact rfl
    · exact in1
    · exact rfl
    exact Abs.HeadJ.nil
  · exact trueA
  · exact trueA
  · exact rfl
  · exact rfl
  refine goR (r := ?_); and_intros <;> intros <;> try exact True.intro
  all_goals first | contradiction | omega | (rename_i hg; exact absurd (by simp) hg) | skip
  try dsimp only [List.append]
  apply WpA.regionRF (O := [FrO W H p, ⟨[I w, I h, I q, B b, B d, IL lens], 0, 0, none⟩, ⟨[I m, IL lv], 0, 0, none⟩, ⟨ints (putL W H p q b x y m lv), 1, 1, some 3⟩, ⟨[I W, I H, .own 3 1 0 p.length], 1, 0, none⟩, deadO, deadO, IN (marksI 1 p.length), ⟨[I W, I H, .own 7 0 0 p.length], 0, 0, none⟩, IN (marksI (1 + (p.length : Int)) lens.length), ⟨[I w, I h, I q, B b, B d, .own 9 0 0 lens.length], 0, 0, none⟩, IN (marksI (1 + (p.length : Int) + (lens.length : Int)) lv.length), ⟨[I m, .own 11 0 0 lv.length], 0, 0, none⟩, IN (marksI 1 (putL W H p q b x y m lv).length), ⟨[I W, I H, .own 13 0 0 p.length], 0, 0, none⟩]) (Or := []) (O1 := [FrO W H p, ⟨[I w, I h, I q, B b, B d, IL lens], 0, 0, none⟩, ⟨[I m, IL lv], 0, 0, none⟩, ⟨ints (putL W H p q b x y m lv), 1, 1, some 3⟩, ⟨[I W, I H, .own 3 1 0 p.length], 1, 0, none⟩, deadO, deadO, IN (marksI 1 p.length), ⟨[I W, I H, .own 7 0 0 p.length], 0, 0, none⟩, IN (marksI (1 + (p.length : Int)) lens.length), ⟨[I w, I h, I q, B b, B d, .own 9 0 0 lens.length], 0, 0, none⟩, IN (marksI (1 + (p.length : Int) + (lens.length : Int)) lv.length), ⟨[I m, .own 11 0 0 lv.length], 0, 0, none⟩, IN (marksI 1 (putL W H p q b x y m lv).length), ⟨[I W, I H, .own 13 0 0 p.length], 0, 0, none⟩] ++ [⟨ints (putL W H p q b x y m lv), 1, 1, some 3⟩, ⟨[I W, I H, .own 15 1 0 p.length], 1, 0, none⟩, deadO, deadO]) 14 2 [] [1] rfl mixed (by decide +kernel)
  · exact rfl
  · apply HeadR.consF .none rfl
    · exact rfl
    · exact rfl
    · exact in1
    · exact rfl
    · exact rfl
    apply HeadR.consF .none rfl
    · exact rfl
    · exact rfl
    · intro Tv Ov hc2 hp9 hd9 hk9
      refine K.call ?_
      apply WpL.callI (toFrame_c.ok W H p (by omega))
      · exact snapA
      · exact locA
      · exact outA
      · exact frzA
      · decide
      · exact WpL.nil (Only.mk rfl)
    · exact rfl
    · exact rfl
    apply HeadR.consF .none rfl
    · exact rfl
    · exact rfl
    · exact in1
    · exact rfl
    · exact rfl
    apply HeadR.consF .none rfl
    · exact rfl
    · exact rfl
    · intro Tv Ov hc2 hp9 hd9 hk9
      refine K.call ?_
      apply WpL.callI (toHeader_c.ok w h q b d lens (by omega))
      · exact snapA
      · exact locA
      · exact outA
      · exact frzA
      · decide
      · exact WpL.nil (Only.mk rfl)
    · exact rfl
    · exact rfl
    apply HeadR.consF .none rfl
    · exact rfl
    · exact rfl
    · exact in1
    · exact rfl
    · exact rfl
    apply HeadR.consF .none rfl
    · exact rfl
    · exact rfl
    · exact in1
    · exact rfl
    · exact rfl
    apply HeadR.consF .none rfl
    · exact rfl
    · exact rfl
    · exact in1
    · exact rfl
    · exact rfl
    apply HeadR.consF .none rfl
    · exact rfl
    · exact rfl
    · intro Tv Ov hc2 hp9 hd9 hk9
      refine K.call ?_
      apply WpL.callI (toBlock_c.ok m lv (by omega))
      · exact snapA
      · exact locA
      · exact outA
      · exact frzA
      · decide
      · exact WpL.nil (Only.mk rfl)
    · exact rfl
    · exact rfl
    apply HeadR.consF (V := .tup [.agg [I W, I H, .own 15 1 0 p.length], B (decide (PutOk W H p q x y m lv))]) (.put 0 ⟨ints (putL W H p q b x y m lv), 1, 1, some 3⟩) rfl
    · exact rfl
    · exact rfl
    · intro Tv Ov hc2 hp9 hd9 hk9
      refine K.call ?_
      refine WpL.callF (PutFast_c.ok W H p w h q b d lens x y m lv (by omega)) snapA locA outA (cnt_some _ 0) rfl rfl (by decide) ?_
      rw [Nat.zero_add]
      apply WpL.putV (p := 0)
      · exact .tup (.agg (.keep rfl rfl (.keep rfl rfl (.own (by first | rfl | exact Nat.zero_add _) .nil))) (.keep rfl rfl .nil)) .nil
      · exact hp9 0 _ rfl
      · exact Nat.zero_le _
      · exact rfl
      · exact still_ints _
    · exact rfl
    · exact rfl
    apply HeadR.consF .none rfl
    · exact rfl
    · exact rfl
    · exact in1
    · exact rfl
    · exact rfl
    apply HeadR.consF .none rfl
    · exact rfl
    · exact rfl
    · exact in1
    · exact rfl
    · exact rfl
    apply HeadR.consF .none rfl
    · exact rfl
    · exact rfl
    · exact in1
    · exact rfl
    · exact rfl
    apply HeadR.consF (V := .ptr 16 1 0) (.put 1 ⟨[I 0, I 0, .nilS], 1, 0, none⟩) rfl
    · exact rfl
    · exact rfl
    · intro Tv Ov hc2 hp9 hd9 hk9
      refine WpL.allocStruct tabOk rfl (nid_len _ 0) (by decide) ?_
      apply WpL.putV (p := 1)
      · exact .ptr (by first | rfl | exact Nat.zero_add _) .nil
      · exact hp9 1 _ rfl
      · exact Nat.zero_le _
      · exact rfl
      · exact rfl
    · exact rfl
    · exact rfl
    apply HeadR.consN (.step 1 ⟨[I W, I H, .own 15 1 0 p.length], 1, 0, none⟩) 1001
    · exact rfl
    · exact rfl
    · intro Tv Ov hc2 hp9 hd9 hk9
      obtain ⟨A0, R0, rfl⟩ := split2 (hp9 1 _ rfl)
      have h0 := hd9 8 _ 0 _ (by decide) rfl rfl rfl
      simp only [List.getElem?_cons_zero, Option.some.injEq] at h0
      subst h0
      refine K.st ?_
      refine WpL.store tabOk rfl rfl rfl rfl rfl rfl rfl rfl (Nat.le_of_ble_eq_true rfl) ?_
      refine WpL.weak (Weak.any1 (d := 1001)) ?_
      exact WpL.nil (Only.mk rfl)
    · exact rfl
    · exact rfl
    exact HeadR.nil
  · exact rfl
  · exact rfl
  · exact rfl
  · exact rfl
  · exact rfl
  · exact rfl
  · exact rfl
  try dsimp only [List.append, List.cons_append, List.nil_append]
  refine goR (r := ?_); and_intros <;> intros <;> try exact True.intro
  all_goals first | contradiction | omega | (rename_i hg; exact absurd (by simp) hg) | trace_state
end Go.Proofs.YtjhejgamjlokdaaGreat

/- From a contract to the form that a row's shell asks for. No condition. -/
namespace Go.Abs
open Go Go.RowKit
set_option linter.unusedVariables false

theorem FnC.walk {P : Program} {f : FuncId} {args : List AV} {N : List AObj} {x : Value} (hc : FnC P f args N (.sc x)) {w : World} {S : Nat → Prop} {vs : List Value} (hS : ∀ b, S b → b < w.heap.size)
    (hl : LRel S w (fun _ => none) [] args vs []) : Calls P f vs.toArray w fun e w' => e = .returned x ∧ Below w.heap.size w w' := by
  refine (hc.2 w S vs hS hl).mono fun e w' h => ?_
  obtain ⟨v, S', ι, F, rfl, _, _, _, _, _, hv, hk⟩ := h
  cases hv with
  | sc r => exact ⟨rfl, hk.os, hk.tape, hk.output, hk.size, fun b hb => hk.block b hb (fun h => h)⟩

theorem spot_none {w : World} {x : Addr} {n : Nat} (h : 0 < n) (hc : ∀ i, i < n → ∃ v, w.cell? (x.add i) = some v) : x.spot = none := by
  obtain ⟨v, hv⟩ := hc 0 h
  simpa [Addr.add] using World.cell?_spot hv

end Go.Abs

/- Reading what came in: a value of a plain shape (numbers, bools, strings, structs and slices of them) as an abstract value. No condition. -/
namespace Go.Abs
open Go Go.RowKit
set_option linter.unusedVariables false

inductive Sp where
  | int (k : IntKind) | bool | str | struct (fs : List Sp) | slice (k : Nat) (e : Sp)

mutual
inductive SpOk (P : Program) : TypeId → Sp → Prop
  | int {t k} : P.underlying t = some (.int k) → SpOk P t (.int k)
  | bool {t} : P.underlying t = some .bool → SpOk P t .bool
  | str {t} : P.underlying t = some .string → SpOk P t .str
  | struct {t fs sps n} : P.underlying t = some (.struct fs) → P.cellsOf t = n → SpF P 0 fs.toList sps n → SpOk P t (.struct sps)
  | slice {t e k sp} : P.underlying t = some (.slice e) → P.cellsOf e = k → 0 < k → SpOk P e sp → SpOk P t (.slice k sp)
inductive SpF (P : Program) : Nat → List Field → List Sp → Nat → Prop
  | nil {k} : SpF P k [] [] k
  | cons {k c f fs sp sps n} : f.offset = k → P.cellsOf f.type = c → SpOk P f.type sp → SpF P (k + c) fs sps n → SpF P k (f :: fs) (sp :: sps) n
end

mutual
inductive Rd : Sp → List AV → Prop
  | int {k n} : (Lit.int k n).wf = true → Rd (.int k) [.sc (.int k n)]
  | bool {b} : Rd .bool [.sc (.bool b)]
  | str {p : List UInt8} : p.length ≤ maxLen → Rd .str [.sc (.string ⟨p.toArray⟩)]
  | struct {sps cs} : RdF sps cs → Rd (.struct sps) cs
  | slice {sp len k cs} : len ≤ maxLen → RdN sp len k cs → Rd (.slice k sp) [.imm k len cs]
inductive RdF : List Sp → List AV → Prop
  | nil : RdF [] []
  | cons {sp sps a b} : Rd sp a → RdF sps b → RdF (sp :: sps) (a ++ b)
inductive RdN : Sp → Nat → Nat → List AV → Prop
  | nil {sp k} : RdN sp 0 k []
  | snoc {sp n k a b} : RdN sp n k a → Rd sp b → b.length = k → RdN sp (n + 1) k (a ++ b)
end

theorem RdN.len {sp n k cs} (h : RdN sp n k cs) : cs.length = n * k := by
  induction n generalizing cs with
  | zero => cases h; simp
  | succ n ih => cases h with | snoc h1 h2 h3 => rw [List.length_append, ih h1, h3, Nat.add_mul]; omega

section
variable {H : Type} {enc : TypeId × Value → H} {P : Program} {w : World} {base : Nat} {spare : Nat → Bool} {held : Bool}

theorem read {S : Nat → Prop} {ι : Nat → Spot} (hS : ∀ b, b < w.heap.size → S b) : ∀ (fuel : Nat) (t : TypeId) (sp : Sp) (cs : List Value) (x : DataW H × List MemPlace), SpOk P t sp →
    DataW.trod enc P w base spare held fuel t cs = some x → ∃ ds, Rd sp ds ∧ ∀ O, LRel S w ι O ds cs [] := by
  intro fuel
  induction fuel with
  | zero => intro t sp cs x _ h; simp [DataW.trod] at h
  | succ fuel ih =>
    intro t sp cs x hsp h
    cases hsp with
    | int ht =>
      obtain ⟨n, rfl, _, hw⟩ := DataW.trod_int ht h
      exact ⟨_, .int hw, fun O => .sc .nil⟩
    | bool ht =>
      obtain ⟨b, rfl, _⟩ := DataW.trod_bool ht h
      exact ⟨_, .bool, fun O => .sc .nil⟩
    | str ht =>
      obtain ⟨s, rfl, _, hs⟩ := DataW.trod_string ht h
      exact ⟨[.sc (.string ⟨s.data.toList.toArray⟩)], .str (by have : s.data.toList.length = s.size := rfl; omega), fun O => .sc .nil⟩
    | @struct _ fs sps n ht hn hf =>
      obtain ⟨xs, m, hm, _, hlen, hxl, hel⟩ := DataW.trod_struct ht h
      obtain rfl : fuel = m := by omega
      have key : ∀ (fl : List Field) (k : Nat) (sps : List Sp), SpF P k fl sps n → (∀ f ∈ fl, ∃ x, DataW.trod enc P w base spare held fuel f.type ((cs.drop f.offset).take (P.cellsOf f.type)) = some x) →
          k ≤ n → ∃ ds, RdF sps ds ∧ ∀ O, LRel S w ι O ds (cs.drop k) [] := by
        intro fl
        induction fl with
        | nil =>
          intro k sps hF _ _
          cases hF
          exact ⟨[], .nil, fun O => by rw [List.drop_eq_nil_of_le (by omega)]; exact .nil⟩
        | cons f fl ihf =>
          intro k sps hF hx hk
          cases hF with
          | cons h1 h2 h3 h4 =>
            obtain ⟨y, hy⟩ := hx f (by simp)
            obtain ⟨d1, r1, l1⟩ := ih _ _ _ _ h3 hy
            have hkn : ∀ {k fl sps}, SpF P k fl sps n → k ≤ n := by
              intro k fl
              induction fl generalizing k with
              | nil => intro sps h; cases h; exact Nat.le_refl _
              | cons f fl ih2 => intro sps h; cases h with | cons _ _ _ h => have := ih2 h; omega
            obtain ⟨d2, r2, l2⟩ := ihf _ _ h4 (fun g hg => hx g (by simp [hg])) (hkn h4)
            refine ⟨d1 ++ d2, .cons r1 r2, fun O => ?_⟩
            have e : cs.drop k = (cs.drop f.offset).take (P.cellsOf f.type) ++ cs.drop (k + P.cellsOf f.type) := by
              rw [h1, ← List.drop_drop, List.take_append_drop]
            rw [e, h2]
            rw [h2] at l1
            simpa using (l1 O).append (l2 O)
      obtain ⟨ds, r, l⟩ := key fs.toList 0 sps hf (fun f hf' => by
        obtain ⟨i, hi⟩ := List.getElem?_of_mem hf'
        have hi' : fs[i]? = some f := by simpa using hi
        have := hel i f hi'
        have hlt : i < xs.length := by have := (Array.getElem?_eq_some_iff.1 hi').1; omega
        exact ⟨xs[i], by rw [this]; simp [hlt]⟩) (Nat.zero_le _)
      exact ⟨ds, .struct r, fun O => by simpa using l O⟩
    | @slice _ e k sp ht hk hk0 he =>
      rcases DataW.trod_slice ht h with ⟨rfl, _⟩ | ⟨a, len, cap, elems, rest, m, hm, rfl, _, hb, hl, hc, hlen, hel, _, _⟩
      · exact ⟨[.imm k 0 []], .slice (by simp) .nil, fun O => .imm0 (by simp) .nil⟩
      obtain rfl : fuel = m := by omega
      have cells : ∀ j, j ≤ len → ∃ ds us, RdN sp j k ds ∧ us.length = j * k ∧ (∀ i, i < us.length → w.cell? (a.add i) = us[i]?) ∧ LRel S w ι [] ds us [] := by
        intro j
        induction j with
        | zero => intro _; exact ⟨[], [], .nil, by simp, by simp, .nil⟩
        | succ j ihj =>
          intro hj
          obtain ⟨ds, us, h1, h2, h3, h4⟩ := ihj (by omega)
          have hx := hel j (by omega)
          have hlt : j < elems.length := by omega
          rw [List.getElem?_eq_getElem hlt, Option.bind_eq_some_iff, hk] at hx
          obtain ⟨us2, hu, ht2⟩ := hx
          obtain ⟨d2, r2, l2⟩ := ih _ _ _ _ he ht2
          obtain ⟨_, c2, c3⟩ := World.cells?_some hu
          have l2' := l2 []
          have hd2 : d2.length = k := by rw [l2'.len, c2]
          refine ⟨ds ++ d2, us ++ us2, .snoc h1 r2 hd2, by rw [List.length_append, h2, c2, Nat.add_mul]; omega, fun i hi => ?_, by simpa using h4.append l2'⟩
          rw [List.length_append] at hi
          by_cases hlt2 : i < us.length
          · rw [h3 i hlt2, List.getElem?_append_left hlt2]
          · have hadd : a.add i = (a.add (j * k)).add (i - j * k) := by
              unfold Addr.add
              by_cases hz : j * k = 0
              · simp [hz]
              · by_cases hz2 : i - j * k = 0
                · have : i = j * k := by omega
                  simp [this]
                · rw [if_neg (by omega), if_neg hz, if_neg hz2]
                  simp only [Addr.mk.injEq, true_and, and_true]
                  omega
            rw [hadd, c3 (i - j * k) (by omega), List.getElem?_append_right (by omega), h2]
      obtain ⟨ds, us, h1, h2, h3, h4⟩ := cells len (Nat.le_refl _)
      refine ⟨[.imm k len ds], .slice (by omega) h1, fun O => ?_⟩
      by_cases h0 : len = 0
      · subst h0
        cases h1
        exact .imm0 ⟨by simp, hc⟩ .nil
      · have hul : 0 < us.length := by rw [h2]; exact Nat.mul_pos (by omega) hk0
        have hsp := spot_none (w := w) (x := a) (n := us.length) hul fun i hi => ⟨us[i], by rw [h3 i hi]; simp [hi]⟩
        obtain ⟨b, o, q⟩ := a
        simp only at hsp
        subst hsp
        have hcell : ∀ i, i < us.length → w.cell? ⟨b, o + i, none⟩ = us[i]? := fun i hi => by have := h3 i hi; rwa [addr_add] at this
        refine .imm (us := us) (hS _ ?_) hcell h4 (by rw [h1.len]) hl hc .nil
        by_cases hb' : b < w.heap.size
        · exact hb'
        · have := hcell 0 hul
          simp [World.cell?, Array.getElem?_eq_none (Nat.le_of_not_lt hb'), hul] at this
end
end Go.Abs

/- What a value that came in is: inversions of the readings by shape. No condition. -/
namespace Go.Abs
open Go Go.RowKit
set_option linter.unusedVariables false

abbrev i64 (n : Int) : Prop := -9223372036854775808 ≤ n ∧ n ≤ 9223372036854775807
theorem i64_wf {n : Int} (h : (Lit.int .i64 n).wf = true) : i64 n := by
  simp only [Lit.wf, Bool.and_eq_true, decide_eq_true_eq, show IntKind.i64.min = -9223372036854775808 from rfl, show IntKind.i64.max = 9223372036854775807 from rfl] at h
  exact h
theorem rd_int {ds : List AV} (h : Rd (.int .i64) ds) : ∃ n : Int, ds = [I n] ∧ i64 n := by
  cases h with | int hw => exact ⟨_, rfl, i64_wf hw⟩
theorem rd_bool {ds : List AV} (h : Rd .bool ds) : ∃ b : Bool, ds = [B b] := by
  cases h with | bool => exact ⟨_, rfl⟩
theorem rdN_ints {n : Nat} {cs : List AV} (h : RdN (.int .i64) n 1 cs) : ∃ xs : List Int, cs = ints xs ∧ xs.length = n ∧ ∀ x ∈ xs, i64 x := by
  induction n generalizing cs with
  | zero => cases h; exact ⟨[], rfl, rfl, by simp⟩
  | succ n ih =>
    cases h with
    | snoc h1 h2 h3 =>
      obtain ⟨xs, rfl, h5, h6⟩ := ih h1
      obtain ⟨m, rfl, hm⟩ := rd_int h2
      refine ⟨xs ++ [m], by simp [ints], by simp [h5], fun x hx => ?_⟩
      rcases List.mem_append.1 hx with hx | hx
      · exact h6 x hx
      · have : x = m := by simpa using hx
        subst this; exact hm
theorem rd_ints {ds : List AV} (h : Rd (.slice 1 (.int .i64)) ds) : ∃ xs : List Int, ds = [IL xs] ∧ xs.length ≤ 9223372036854775807 ∧ ∀ x ∈ xs, i64 x := by
  cases h with
  | slice hl hn =>
    obtain ⟨xs, rfl, h1, h2⟩ := rdN_ints hn
    subst h1
    exact ⟨xs, rfl, by simp only [maxLen] at hl; omega, h2⟩
theorem rd_struct {sps : List Sp} {ds : List AV} (h : Rd (.struct sps) ds) : RdF sps ds := by
  cases h with | struct h => exact h
theorem rdF_cons {sp : Sp} {sps : List Sp} {ds : List AV} (h : RdF (sp :: sps) ds) : ∃ a b, ds = a ++ b ∧ Rd sp a ∧ RdF sps b := by
  cases h with | cons h1 h2 => exact ⟨_, _, rfl, h1, h2⟩
theorem rdF_nil {ds : List AV} (h : RdF [] ds) : ds = [] := by cases h; rfl

abbrev spI : Sp := .int .i64
abbrev spIs : Sp := .slice 1 (.int .i64)
theorem rd_frame {ds : List AV} (h : Rd (.struct [spI, spI, spIs]) ds) : ∃ (W H : Int) (p : List Int), ds = [I W, I H, IL p] ∧ i64 W ∧ i64 H ∧ p.length ≤ 9223372036854775807 ∧ ∀ x ∈ p, i64 x := by
  obtain ⟨_, _, rfl, h1, h⟩ := rdF_cons (rd_struct h)
  obtain ⟨_, _, rfl, h2, h⟩ := rdF_cons h
  obtain ⟨_, _, rfl, h3, h⟩ := rdF_cons h
  obtain rfl := rdF_nil h
  obtain ⟨W, rfl, a1⟩ := rd_int h1
  obtain ⟨H, rfl, a2⟩ := rd_int h2
  obtain ⟨p, rfl, a3, a4⟩ := rd_ints h3
  exact ⟨W, H, p, rfl, a1, a2, a3, a4⟩
theorem lrel_agg {S : Nat → Prop} {w : World} {ι : Nat → Spot} {O : List AObj} {ds : List AV} {cs : Array Value} (h : LRel S w ι O ds cs.toList []) : VRel S w ι O (.agg ds) (.agg cs) [] := by
  simpa using LRel.agg h .nil
theorem lrel_cons0 {S : Nat → Prop} {w : World} {ι : Nat → Spot} {O : List AObj} {V : AV} {v : Value} {cs : List AV} {vs : List Value} (h1 : VRel S w ι O V v []) (h2 : LRel S w ι O cs vs []) : LRel S w ι O (V :: cs) (v :: vs) [] := LRel.cons h1 h2
end Go.Abs

/- What a value that came in is, further: options, headers, blocks, streams, neighbours, caches, entries, bytes. No condition. -/
namespace Go.Proofs.YtjhejgamjlokdaaGreat
open Go Go.Abs Go.RowKit
set_option linter.unusedVariables false

@[irreducible] def WfI (l : List Int) : Prop := ∀ x ∈ l, i64 x
theorem wfI_of {l : List Int} (h : ∀ x ∈ l, i64 x) : WfI l := by unfold WfI; exact h
abbrev spBs : Sp := .slice 1 .bool
abbrev spBk : Sp := .struct [spI, spIs]
abbrev spMb : Sp := .struct [.bool, .slice 2 spBk]
abbrev spHd : Sp := .struct [spI, spI, spI, .bool, .bool, spIs]
theorem rd_headF {ds : List AV} (h : Rd spHd ds) : ∃ (w hh q : Int) (b d : Bool) (l : List Int), ds = [I w, I hh, I q, B b, B d, IL l] ∧ i64 w ∧ i64 hh ∧ i64 q ∧ l.length ≤ 9223372036854775807 ∧ WfI l := by
  obtain ⟨_, _, rfl, h1, h⟩ := rdF_cons (rd_struct h)
  obtain ⟨_, _, rfl, h2, h⟩ := rdF_cons h
  obtain ⟨_, _, rfl, h3, h⟩ := rdF_cons h
  obtain ⟨_, _, rfl, h4, h⟩ := rdF_cons h
  obtain ⟨_, _, rfl, h5, h⟩ := rdF_cons h
  obtain ⟨_, _, rfl, h6, h⟩ := rdF_cons h
  obtain rfl := rdF_nil h
  obtain ⟨w, rfl, a1⟩ := rd_int h1
  obtain ⟨hh, rfl, a2⟩ := rd_int h2
  obtain ⟨q, rfl, a3⟩ := rd_int h3
  obtain ⟨b, rfl⟩ := rd_bool h4
  obtain ⟨d, rfl⟩ := rd_bool h5
  obtain ⟨l, rfl, a4, a5⟩ := rd_ints h6
  exact ⟨w, hh, q, b, d, l, rfl, a1, a2, a3, a4, wfI_of a5⟩
theorem rd_header {ds : List AV} (h : Rd spHd ds) : ∃ (w hh q : Int) (b d : Bool) (l : List Int), ds = [I w, I hh, I q, B b, B d, IL l] ∧ i64 w ∧ i64 hh ∧ i64 q ∧ l.length ≤ 9223372036854775807 ∧ WfI l := rd_headF h
def CBk (b : Blok) : Prop := b.2.length ≤ 9223372036854775807 ∧ i64 b.1 ∧ WfI b.2
theorem rd_bk (ds : List AV) (h : Rd spBk ds) : ∃ b : Blok, ds = blkI b ∧ CBk b := by
  obtain ⟨_, _, rfl, h1, h⟩ := rdF_cons (rd_struct h)
  obtain ⟨_, _, rfl, h2, h⟩ := rdF_cons h
  obtain rfl := rdF_nil h
  obtain ⟨m, rfl, a1⟩ := rd_int h1
  obtain ⟨l, rfl, a2, a3⟩ := rd_ints h2
  exact ⟨(m, l), rfl, a2, a1, wfI_of a3⟩
theorem rd_block {ds : List AV} (h : Rd spBk ds) : ∃ (m : Int) (l : List Int), ds = [I m, IL l] ∧ i64 m ∧ l.length ≤ 9223372036854775807 ∧ WfI l := by
  obtain ⟨b, rfl, h1, h2, h3⟩ := rd_bk _ h
  exact ⟨b.1, b.2, rfl, h2, h1, h3⟩
def CMb (m : Mbk) : Prop := m.2.length ≤ 9223372036854775807 ∧ ∀ b ∈ m.2, CBk b
@[irreducible] def WfM (M : List Mbk) : Prop := ∀ m ∈ M, ∀ b ∈ m.2, i64 b.1 ∧ WfI b.2
def CPr (a : Int × Int) : Prop := i64 a.1 ∧ i64 a.2
@[irreducible] def WfP (l : List (Int × Int)) : Prop := ∀ a ∈ l, CPr a
end Go.Proofs.YtjhejgamjlokdaaGreat
