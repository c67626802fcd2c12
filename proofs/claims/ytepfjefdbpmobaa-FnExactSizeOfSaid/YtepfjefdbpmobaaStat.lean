/- Contracts of the counts over a stream, and of the laws FnExactNonZeros and FnExactModeCounts. No condition. -/
import Derived.Test.YtepfjefdbpmobaaCode
namespace Go.Proofs.Ytepfjefdbpmobaa
open Go Go.Abs
set_option linter.unusedVariables false
set_option linter.unusedSimpArgs false
set_option maxRecDepth 100000
set_option maxHeartbeats 4000000
attribute [local irreducible] WpA WpL Rnd Blk Abs.Seq Abs.Fin Abs.FinG FnC FnG Only

def nz1 (x : Int) : Nat := if x = 0 then 0 else 1
def nzB (b : Blok) : Nat := (b.2.map nz1).sum
def nzM (m : Mbk) : Nat := (m.2.map nzB).sum
theorem sum_bd {α : Type} (f g : α → Nat) (h : ∀ a, f a ≤ g a) (l : List α) : (l.map f).sum ≤ (l.map g).sum := by
  induction l with
  | nil => simp
  | cons a l ih => simp only [List.map_cons, List.sum_cons]; have := h a; omega
theorem sum_ones {α : Type} (f : α → Nat) (h : ∀ a, f a ≤ 1) (l : List α) : (l.map f).sum ≤ l.length := by
  induction l with
  | nil => simp
  | cons a l ih => simp only [List.map_cons, List.sum_cons, List.length_cons]; have := h a; omega
theorem nz1_bd (x : Int) : nz1 x ≤ 1 := by unfold nz1; split <;> omega
theorem nzB_bd (b : Blok) : nzB b ≤ bn b := sum_ones nz1 nz1_bd b.2
theorem nzM_bd (m : Mbk) : nzM m ≤ mn m := by
  have := sum_bd nzB bn nzB_bd m.2
  unfold nzM mn bw; omega
theorem nzAll_bd (M : List Mbk) : (M.map nzM).sum ≤ mw M := by
  have := sum_bd nzM mn nzM_bd M
  unfold mw; omega
instance nonZeros_c : Con 67 (∀ l : List Int, l.length ≤ 1099511627776 → Fn 67 [IL l] [] (I ((l.map nz1).sum : Nat))) := ⟨fun l hl => by
  refine FnC.of_body tabOk Try.func67 Try.ntmps67 rfl (by decide +kernel) (by simp) fun G => ?_
  refine go (r := ?_); and_intros <;> intros <;> try exact True.intro
  refine WpA.loop (fun k : Nat => ⟨[(3, I (tk nz1 l k)), (6, IL l), (7, I l.length), (8, I k)], []⟩) (fun k => k ≤ l.length) (fun k => l.length - k) 0 (by omega) (go (r := ?_)) (fun k hk => ?_)
  · simp [tk_zero]
  have hb := sum_ones nz1 nz1_bd l
  have hle := tk_le nz1 l k
  have hs := fun h => tk_succ nz1 l k h
  have h1 : l.getD k 0 = 0 → nz1 (l.getD k default) = 0 := fun h => if_pos h
  have h0 : ¬ l.getD k 0 = 0 → nz1 (l.getD k default) = 1 := fun h => if_neg h
  refine go (r := ?_); and_intros <;> intros <;> try exact True.intro
  · have e : k = l.length := by omega
    subst e; rw [tk_all]⟩
instance NonZeros_s : Con 23 (∀ (w h q : Int) (b d : Bool) (l : List Int) (M : List Mbk), mw M ≤ 1048576 → Fn 23 [StA w h q b d l M] [] (I ((M.map nzM).sum : Nat))) := ⟨fun w h q b d l M hM => by
  refine FnC.of_body tabOk Try.func23 Try.ntmps23 rfl (by decide +kernel) (by simp) fun G => ?_
  have hall := nzAll_bd M
  have hmw : mw M = M.length + (M.map mn).sum := rfl
  refine go (r := ?_); and_intros <;> intros <;> try exact True.intro
  refine WpA.loop (fun i : Nat => ⟨[(1, .ptr 0 0 0), (3, I (tk nzM M i)), (4, I i)], [⟨[I w, I h, I q, B b, B d, IL l, MbL M], 0, 0, none⟩]⟩) (fun i => i ≤ M.length) (fun i => M.length - i) 0 (by omega) (go (r := ?_)) (fun i hi => ?_)
  · simp [tk_zero]
  have hs1 := fun h => tk_succ nzM M i h
  have hle1 := tk_le nzM M i
  have hle2 := tk_le nzM M (i + 1)
  have hsm := smM_of hM
  refine go (r := ?_); and_intros <;> intros <;> try exact True.intro
  · have hsi := smM_get hsm (k := i) (by omega)
    have hs1 := hs1 (by omega)
    refine WpA.loop (fun k : Nat => ⟨[(1, .ptr 0 0 0), (3, I (tk nzM M i + tk nzB (M.getD i default).2 k)), (4, I i), (5, I k)], [⟨[I w, I h, I q, B b, B d, IL l, MbL M], 0, 0, none⟩]⟩) (fun k => k ≤ (M.getD i default).2.length) (fun k => (M.getD i default).2.length - k) 0 (by omega) (go (r := ?_)) (fun k hk => ?_)
    · simp [tk_zero]
    have hs3 := fun h => tk_succ nzB (M.getD i default).2 k h
    have hle3 := tk_le nzB (M.getD i default).2 k
    have hle4 := tk_le nzB (M.getD i default).2 (k + 1)
    have e5 : nzM (M.getD i default) = ((M.getD i default).2.map nzB).sum := rfl
    refine go (r := ?_); and_intros <;> intros <;> try exact True.intro
    · have hsk := smB_get hsi.2 (k := k) (by omega)
      have hs3 := hs3 (by omega)
      have e6 : nzB ((M.getD i default).2.getD k default) = (((M.getD i default).2.getD k default).2.map nz1).sum := rfl
      refine WpA.loop (fun j : Nat => ⟨[(1, .ptr 0 0 0), (3, I (tk nzM M i + tk nzB (M.getD i default).2 k + tk nz1 ((M.getD i default).2.getD k default).2 j)), (4, I i), (5, I k), (6, IL ((M.getD i default).2.getD k default).2), (7, I j)], [⟨[I w, I h, I q, B b, B d, IL l, MbL M], 0, 0, none⟩]⟩) (fun j => j ≤ ((M.getD i default).2.getD k default).2.length) (fun j => ((M.getD i default).2.getD k default).2.length - j) 0 (by omega) (go (r := ?_)) (fun j hj => ?_)
      · simp [tk_zero]
      have hs7 := fun h => tk_succ nz1 ((M.getD i default).2.getD k default).2 j h
      have hle7 := tk_le nz1 ((M.getD i default).2.getD k default).2 j
      have h1 : ((M.getD i default).2.getD k default).2.getD j 0 = 0 → nz1 (((M.getD i default).2.getD k default).2.getD j default) = 0 := fun h => if_pos h
      have h0 : ¬ ((M.getD i default).2.getD k default).2.getD j 0 = 0 → nz1 (((M.getD i default).2.getD k default).2.getD j default) = 1 := fun h => if_neg h
      refine go (r := ?_); and_intros <;> intros <;> try exact True.intro
      have e : j = ((M.getD i default).2.getD k default).2.length := by omega
      subst e
      have e8 := tk_all nz1 ((M.getD i default).2.getD k default).2
      omega
    · have e : k = (M.getD i default).2.length := by omega
      have e8 := tk_all nzB (M.getD i default).2
      rw [← e] at e8; omega
  · have e : i = M.length := by omega
    subst e; rw [tk_all]⟩
instance NonZeros_c : Con 25 (∀ (w h q : Int) (b d : Bool) (l : List Int) (M : List Mbk), mw M ≤ 1048576 → Fn 25 [StA w h q b d l M] [] (I ((M.map nzM).sum : Nat))) := ⟨fun w h q b d l M hM => by
  refine FnC.of_body tabOk Try.func25 Try.ntmps25 rfl (by decide +kernel) (by simp) fun G => ?_
  have hall := nzAll_bd M
  have hmw : mw M = M.length + (M.map mn).sum := rfl
  refine go (r := ?_); and_intros <;> intros <;> try exact True.intro
  refine WpA.loop (fun i : Nat => ⟨[(1, .ptr 0 0 0), (3, I (tk nzM M i)), (9, MbL M), (10, I M.length), (11, I i)], [⟨[I w, I h, I q, B b, B d, IL l, MbL M], 0, 0, none⟩]⟩) (fun i => i ≤ M.length) (fun i => M.length - i) 0 (by omega) (go (r := ?_)) (fun i hi => ?_)
  · simp [tk_zero]
  have hs1 := fun h => tk_succ nzM M i h
  have hle1 := tk_le nzM M i
  have hle2 := tk_le nzM M (i + 1)
  have hsm := smM_of hM
  refine go (r := ?_); and_intros <;> intros <;> try exact True.intro
  · have hsi := smM_get hsm (k := i) (by omega)
    have hs1 := hs1 (by omega)
    refine WpA.loop (fun k : Nat => ⟨[(1, .ptr 0 0 0), (3, I (tk nzM M i + tk nzB (M.getD i default).2 k)), (9, MbL M), (10, I M.length), (11, I i), (16, BkL (M.getD i default).2), (17, I (M.getD i default).2.length), (18, I k)], [⟨[I w, I h, I q, B b, B d, IL l, MbL M], 0, 0, none⟩]⟩) (fun k => k ≤ (M.getD i default).2.length) (fun k => (M.getD i default).2.length - k) 0 (by omega) (go (r := ?_)) (fun k hk => ?_)
    · simp [tk_zero]
    have hs3 := fun h => tk_succ nzB (M.getD i default).2 k h
    have hle3 := tk_le nzB (M.getD i default).2 k
    have hle4 := tk_le nzB (M.getD i default).2 (k + 1)
    have e5 : nzM (M.getD i default) = ((M.getD i default).2.map nzB).sum := rfl
    have hsk := fun h => smB_get hsi.2 (k := k) h
    have e6 : nzB ((M.getD i default).2.getD k default) = (((M.getD i default).2.getD k default).2.map nz1).sum := rfl
    refine go (r := ?_); and_intros <;> intros <;> try exact True.intro
    have e : k = (M.getD i default).2.length := by omega
    have e8 := tk_all nzB (M.getD i default).2
    rw [← e] at e8; omega
  · have e : i = M.length := by omega
    subst e; rw [tk_all]⟩
/-! How often each mode occurs. -/
def modeNames : List (List UInt8) := [[109, 101, 97, 110], [100, 111, 119, 110], [97, 99, 114, 111, 115, 115], [115, 108, 111, 112, 101], [108, 101, 102, 116], [114, 105, 103, 104, 116]]
def modeW (m : Int) : List UInt8 := if 0 ≤ m ∧ m ≤ 5 then modeNames.getD m.toNat [] else []
theorem modeW_nil (m : Int) : modeW m = [] ↔ ¬ (0 ≤ m ∧ m ≤ 5) := by
  have key : ∀ k : Fin 6, modeNames.getD k.val [] ≠ [] := by decide
  unfold modeW
  constructor
  · intro h hm
    rw [if_pos hm] at h
    exact key ⟨m.toNat, by omega⟩ h
  · intro h; rw [if_neg h]
instance ModeWord_s : Con 72 (∀ m : Int, Fn 72 [I m] [] (Z (modeW m))) := ⟨fun m => by
  refine FnC.of_body tabOk Try.func72 Try.ntmps72 rfl (by decide +kernel) (by simp) fun G => ?_
  refine go (r := ?_); and_intros <;> intros <;> try exact True.intro
  all_goals first | (rw [modeW, if_neg (by assumption)]; done) | (rw [modeW, if_pos (by assumption)]; rfl)⟩
def addAt (c : List Int) (m : Int) : List Int := if 0 ≤ m ∧ m ≤ 5 then c.set m.toNat (c.getD m.toNat 0 + 1) else c
def mcB (c : List Int) (bs : List Blok) (k : Nat) : List Int := (bs.take k).foldl (fun c b => addAt c b.1) c
def mcM (M : List Mbk) (i : Nat) : List Int := (M.take i).foldl (fun c m => mcB c m.2 m.2.length) [0, 0, 0, 0, 0, 0]
theorem mcB_succ (c : List Int) (bs : List Blok) (k : Nat) (h : k < bs.length) : mcB c bs (k + 1) = addAt (mcB c bs k) (bs.getD k default).1 := by unfold mcB; rw [take_snoc bs k h, List.foldl_append]; rfl
theorem mcM_succ (M : List Mbk) (i : Nat) (h : i < M.length) : mcM M (i + 1) = mcB (mcM M i) (M.getD i default).2 (M.getD i default).2.length := by unfold mcM; rw [take_snoc M i h, List.foldl_append]; rfl
theorem addAt_len (c : List Int) (m : Int) : (addAt c m).length = c.length := by unfold addAt; split <;> simp
theorem mcB_len (c : List Int) (bs : List Blok) (k : Nat) : (mcB c bs k).length = c.length := by
  unfold mcB
  generalize bs.take k = l
  induction l generalizing c with
  | nil => rfl
  | cons b l ih => rw [List.foldl_cons, ih, addAt_len]
theorem mcM_len (M : List Mbk) (i : Nat) : (mcM M i).length = 6 := by
  have key : ∀ (l : List Mbk) (c : List Int), (l.foldl (fun c m => mcB c m.2 m.2.length) c).length = c.length := by
    intro l
    induction l with
    | nil => intro c; rfl
    | cons b l ih => intro c; rw [List.foldl_cons, ih, mcB_len]
  unfold mcM; rw [key]; rfl
theorem in_mono {l : List Int} {lo hi hi2 : Int} (h : In l lo hi) (hh : hi ≤ hi2) : In l lo hi2 := by unfold In at *; intro v hv; have := h v hv; omega
theorem in_set {l : List Int} {lo hi v : Int} (h : In l lo hi) (hv : lo ≤ v ∧ v ≤ hi) (i : Nat) : In (l.set i v) lo hi := by
  unfold In at *; intro x hx
  rcases List.mem_or_eq_of_mem_set hx with hx | hx
  · exact h x hx
  · subst hx; exact hv
theorem addAt_in {c : List Int} {m n : Int} (h : In c 0 n) (hc : c.length = 6) : In (addAt c m) 0 (n + 1) := by
  unfold addAt; split
  · rename_i hm
    have := in_get h (k := m.toNat) (by omega)
    exact in_set (in_mono h (by omega)) (by omega) _
  · exact in_mono h (by omega)
theorem addAt_yes {c : List Int} {m : Int} (h : 0 ≤ m ∧ m ≤ 5) : addAt c m = c.set m.toNat (c.getD m.toNat 0 + 1) := if_pos h
theorem addAt_no {c : List Int} {m : Int} (h : ¬ (0 ≤ m ∧ m ≤ 5)) : addAt c m = c := if_neg h
instance ModeCounts_s : Con 29 (∀ (w h q : Int) (b d : Bool) (l : List Int) (M : List Mbk), mw M ≤ 1048576 → Fn 29 [StA w h q b d l M] [XI (mcM M M.length)] (.own 0 0 0 6)) := ⟨fun w h q b d l M hM => by
  refine FnC.of_body tabOk Try.func29 Try.ntmps29 rfl (by decide +kernel) (by simp) fun G => ?_
  have hmw : mw M = M.length + (M.map mn).sum := rfl
  have hl6 := mcM_len M
  refine go (r := ?_); and_intros <;> intros <;> try exact True.intro
  refine WpA.loop (fun i : Nat => ⟨[(1, .ptr 0 0 0), (3, .own 1 0 0 6), (4, I i)], [⟨[I w, I h, I q, B b, B d, IL l, MbL M], 0, 0, none⟩, XI (mcM M i)]⟩) (fun i => i ≤ M.length ∧ In (mcM M i) 0 (1048576 * i)) (fun i => M.length - i) 0 (by simp [mcM, In]) (go (r := ?_)) (fun i hi => ?_)
  · trivial
  have hs1 := fun h => mcM_succ M i h
  have hsm := smM_of hM
  have hl1 := hl6 i
  refine go (r := ?_); and_intros <;> intros <;> try exact True.intro
  · have hsi := smM_get hsm (k := i) (by omega)
    have hs1 := hs1 (by omega)
    refine WpA.loop (fun k : Nat => ⟨[(1, .ptr 0 0 0), (3, .own 1 0 0 6), (4, I i), (5, I k)], [⟨[I w, I h, I q, B b, B d, IL l, MbL M], 0, 0, none⟩, XI (mcB (mcM M i) (M.getD i default).2 k)]⟩) (fun k => k ≤ (M.getD i default).2.length ∧ In (mcB (mcM M i) (M.getD i default).2 k) 0 (1048576 * i + k)) (fun k => (M.getD i default).2.length - k) 0 (by simp [mcB, hi.2]) (go (r := ?_)) (fun k hk => ?_)
    · trivial
    have hs3 := fun h => mcB_succ (mcM M i) (M.getD i default).2 k h
    have hl2 := mcB_len (mcM M i) (M.getD i default).2 k
    have hbd := fun (m : Int) (hm : 0 ≤ m ∧ m ≤ 5) => in_get hk.2 (k := m.toNat) (by omega)
    have hyes := fun m h => addAt_yes (c := mcB (mcM M i) (M.getD i default).2 k) (m := m) h
    have hno := fun m h => addAt_no (c := mcB (mcM M i) (M.getD i default).2 k) (m := m) h
    have hin := addAt_in (m := ((M.getD i default).2.getD k default).1) hk.2 (by omega)
    have hb2 := hbd ((M.getD i default).2.getD k default).1
    have hnil := modeW_nil ((M.getD i default).2.getD k default).1
    by_cases hm : 0 ≤ ((M.getD i default).2.getD k default).1 ∧ ((M.getD i default).2.getD k default).1 ≤ 5
    · have hb2 := hb2 hm
      rw [hyes _ hm] at hin
      refine go (r := ?_); and_intros <;> intros <;> try exact True.intro
      all_goals first | exact absurd hm (hnil.1 (by assumption)) | skip
      · rw [hs3 (by omega), hyes _ hm]; exact in_mono hin (by omega)
      · rw [hs3 (by omega), hyes _ hm]
      all_goals have e : k = (M.getD i default).2.length := by omega
      · rw [hs1, ← e]; exact in_mono hk.2 (by omega)
      · rw [hs1, ← e]
    · rw [hno _ hm] at hin
      refine go (r := ?_); and_intros <;> intros <;> try exact True.intro
      all_goals first | exact absurd (hnil.2 hm) (by assumption) | skip
      · rw [hs3 (by omega), hno _ hm]; exact in_mono hin (by omega)
      · rw [hs3 (by omega), hno _ hm]
      all_goals have e : k = (M.getD i default).2.length := by omega
      · rw [hs1, ← e]; exact in_mono hk.2 (by omega)
      · rw [hs1, ← e]
  · have e : i = M.length := by omega
    rw [e]⟩
instance ModeCounts_c : Con 30 (∀ (w h q : Int) (b d : Bool) (l : List Int) (M : List Mbk), mw M ≤ 1048576 → Fn 30 [StA w h q b d l M] [XI (mcM M M.length)] (.own 0 0 0 6)) := ⟨fun w h q b d l M hM => by
  refine FnC.of_body tabOk Try.func30 Try.ntmps30 rfl (by decide +kernel) (by simp) fun G => ?_
  have hmw : mw M = M.length + (M.map mn).sum := rfl
  have hl6 := mcM_len M
  refine go (r := ?_); and_intros <;> intros <;> try exact True.intro
  refine WpA.loop (fun i : Nat => ⟨[(1, .ptr 0 0 0), (3, .own 1 0 0 6), (10, MbL M), (11, I M.length), (12, I i)], [⟨[I w, I h, I q, B b, B d, IL l, MbL M], 0, 0, none⟩, XI (mcM M i)]⟩) (fun i => i ≤ M.length ∧ In (mcM M i) 0 (1048576 * i)) (fun i => M.length - i) 0 (by simp [mcM, In]) (go (r := ?_)) (fun i hi => ?_)
  · trivial
  have hs1 := fun h => mcM_succ M i h
  have hsm := smM_of hM
  have hl1 := hl6 i
  refine go (r := ?_); and_intros <;> intros <;> try exact True.intro
  · have hsi := smM_get hsm (k := i) (by omega)
    have hs1 := hs1 (by omega)
    refine WpA.loop (fun k : Nat => ⟨[(1, .ptr 0 0 0), (3, .own 1 0 0 6), (10, MbL M), (11, I M.length), (12, I i), (17, BkL (M.getD i default).2), (18, I (M.getD i default).2.length), (19, I k)], [⟨[I w, I h, I q, B b, B d, IL l, MbL M], 0, 0, none⟩, XI (mcB (mcM M i) (M.getD i default).2 k)]⟩) (fun k => k ≤ (M.getD i default).2.length ∧ In (mcB (mcM M i) (M.getD i default).2 k) 0 (1048576 * i + k)) (fun k => (M.getD i default).2.length - k) 0 (by simp [mcB, hi.2]) (go (r := ?_)) (fun k hk => ?_)
    · trivial
    have hs3 := fun h => mcB_succ (mcM M i) (M.getD i default).2 k h
    have hl2 := mcB_len (mcM M i) (M.getD i default).2 k
    have hbd := fun (m : Int) (hm : 0 ≤ m ∧ m ≤ 5) => in_get hk.2 (k := m.toNat) (by omega)
    have hyes := fun m h => addAt_yes (c := mcB (mcM M i) (M.getD i default).2 k) (m := m) h
    have hno := fun m h => addAt_no (c := mcB (mcM M i) (M.getD i default).2 k) (m := m) h
    have hin := addAt_in (m := ((M.getD i default).2.getD k default).1) hk.2 (by omega)
    have hb2 := hbd ((M.getD i default).2.getD k default).1
    refine go (r := ?_); and_intros <;> intros <;> try exact True.intro
    · rename_i hm; rw [hs3 (by omega), hyes _ hm]; rw [hyes _ hm] at hin; exact in_mono hin (by omega)
    · rename_i hm; rw [hs3 (by omega), hyes _ hm]
    · rename_i hm; rw [hs3 (by omega), hno _ hm]; rw [hno _ hm] at hin; exact in_mono hin (by omega)
    · rename_i hm; rw [hs3 (by omega), hno _ hm]
    all_goals have e : k = (M.getD i default).2.length := by omega
    · rw [hs1, ← e]; exact in_mono hk.2 (by omega)
    · rw [hs1, ← e]
  · have e : i = M.length := by omega
    rw [e]⟩
end Go.Proofs.Ytepfjefdbpmobaa
