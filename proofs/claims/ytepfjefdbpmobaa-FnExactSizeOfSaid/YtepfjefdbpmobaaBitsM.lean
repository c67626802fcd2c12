/- Contracts: bits of macroblocks; bits of headers by the laws' own program. No condition. -/
import Derived.Test.YtepfjefdbpmobaaBits
namespace Go.Proofs.Ytepfjefdbpmobaa
open Go Go.Abs
set_option linter.unusedVariables false
set_option linter.unusedSimpArgs false
set_option maxRecDepth 100000
set_option maxHeartbeats 4000000
attribute [local irreducible] WpA WpL Rnd Blk Abs.Seq Abs.Fin Abs.FinG FnC FnG Only

/-! Macroblocks. -/
def mbK (e : Bool) (bs : List Blok) (lens : List Int) (k : Nat) : List Int := [bif e then 1 else 0] ++ (bs.take k).flatMap fun b => bkL b.1 b.2 lens (sz8 e)
def mbbL (e : Bool) (bs : List Blok) (lens : List Int) : List Int := if MbkOk e bs lens then mbK e bs lens bs.length else []
theorem mbK_len (e : Bool) (bs : List Blok) (lens : List Int) (k : Nat) : (mbK e bs lens k).length ≤ 1 + 8400 * k := by
  have h3 := fm_bd (fun b : Blok => bkL b.1 b.2 lens (sz8 e)) 8400 (fun b => bkL_len _ _ _ _) (bs.take k)
  have h4 : (bs.take k).length ≤ k := by simp; omega
  unfold mbK; simp only [List.length_append, List.length_cons, List.length_nil]; omega
theorem mbK_succ (e : Bool) (bs : List Blok) (lens : List Int) (k : Nat) (h : k < bs.length) : mbK e bs lens (k + 1) = mbK e bs lens k ++ bkL (bs.getD k default).1 (bs.getD k default).2 lens (sz8 e) := by
  unfold mbK; rw [fm_snoc _ _ k h, ← List.append_assoc]
theorem mbbL_len (e : Bool) (bs : List Blok) (lens : List Int) : (mbbL e bs lens).length ≤ 33601 := by
  unfold mbbL; split
  · rename_i h
    have h1 := mbK_len e bs lens bs.length
    have h2 := sz8_cases e
    have h3 := h.1
    omega
  · simp
abbrev BoxM (e : Bool) (bs : List Blok) : AObj := ⟨[B e, BkL bs], 0, 0, none⟩
instance MbBits_s : Con 103 (∀ (e : Bool) (bs : List Blok) (lens : List Int), bs.length ≤ 1099511627776 ∧ SmB 1099511627776 bs ∧ lens.length ≤ 1099511627776 → Fn 103 [.agg [B e, BkL bs], IL lens] [XI (mbbL e bs lens)] (.own 0 0 0 (mbbL e bs lens).length)) := ⟨fun e bs lens hl => by
  have hc := sz8_cases e
  refine FnC.of_body tabOk Try.func103 Try.ntmps103 rfl (by decide +kernel) (by simp) fun G => ?_
  by_cases h : MbkOk e bs lens
  · have he : mbbL e bs lens = mbK e bs lens bs.length := by rw [mbbL, if_pos h]
    have hz : [bif e then (1 : Int) else 0] = mbK e bs lens 0 := by simp [mbK]
    have hn := h.1
    refine go (r := ?_); and_intros <;> intros <;> try exact True.intro
    all_goals first | exact hl.2.1 | (exact absurd h (by assumption)) | skip
    refine WpA.loop (fun k : Nat => ⟨[(1, IL lens), (2, .ptr 0 0 0), (5, .own 1 0 0 (mbK e bs lens k).length), (6, I k)], [BoxM e bs, XI (mbK e bs lens k)]⟩) (fun k => k ≤ bs.length) (fun k => bs.length - k) 0 (by omega) (go (r := ?_)) (fun k hk => ?_)
    · trivial
    have hb := mbK_len e bs lens k
    have hsc := fun h => mbK_succ e bs lens k h
    have hbl := bkL_len (bs.getD k default).1 (bs.getD k default).2 lens (sz8 e)
    have hsl : k < bs.length → (mbK e bs lens (k + 1)).length = (mbK e bs lens k).length + (bkL (bs.getD k default).1 (bs.getD k default).2 lens (sz8 e)).length := fun h => by rw [hsc h]; simp only [List.length_append]
    have hg := fun h => smB_get hl.2.1 (k := k) h
    refine go (r := ?_); and_intros <;> intros <;> try exact True.intro
    all_goals first | (rw [hsc (by omega)]; done) | skip
    all_goals have ek : k = bs.length := by omega
    all_goals subst ek
    all_goals rw [he]
  · have he : mbbL e bs lens = [] := by rw [mbbL, if_neg h]
    refine go (r := ?_); and_intros <;> intros <;> try exact True.intro
    all_goals first | exact hl.2.1 | (exact absurd (by assumption) h) | (rw [he]; done) | (rw [he]; rfl)⟩
instance MbBits_c : Con 145 (∀ (e : Bool) (bs : List Blok) (lens : List Int), SmB 1099511627776 bs ∧ lens.length ≤ 1099511627776 ∧ MbkOk e bs lens → Fn 145 [.agg [B e, BkL bs], IL lens] [XI (mbbL e bs lens)] (.own 0 0 0 (mbbL e bs lens).length)) := ⟨fun e bs lens hl => by
  have hc := sz8_cases e
  have h := hl.2.2
  have he : mbbL e bs lens = mbK e bs lens bs.length := by rw [mbbL, if_pos h]
  have hz : [bif e then (1 : Int) else 0] = mbK e bs lens 0 := by simp [mbK]
  have hn := h.1
  refine FnC.of_body tabOk Try.func145 Try.ntmps145 rfl (by decide +kernel) (by simp) fun G => ?_
  refine go (r := ?_); and_intros <;> intros <;> try exact True.intro
  all_goals first | exact hl.1 | (exact absurd h (by assumption)) | skip
  refine WpA.loop (fun k : Nat => ⟨[(1, IL lens), (6, I (sz8 e)), (7, .own 1 0 0 (mbK e bs lens k).length), (25, BkL bs), (26, I bs.length), (27, I k)], [BoxM e bs, XI (mbK e bs lens k)]⟩) (fun k => k ≤ bs.length) (fun k => bs.length - k) 0 (by omega) (go (r := ?_)) (fun k hk => ?_)
  · trivial
  have hb := mbK_len e bs lens k
  have hsc := fun h => mbK_succ e bs lens k h
  have hbl := bkL_len (bs.getD k default).1 (bs.getD k default).2 lens (sz8 e)
  have hsl : k < bs.length → (mbK e bs lens (k + 1)).length = (mbK e bs lens k).length + (bkL (bs.getD k default).1 (bs.getD k default).2 lens (sz8 e)).length := fun h => by rw [hsc h]; simp only [List.length_append]
  have hg := fun h => smB_get hl.1 (k := k) h
  have hok := fun hk => ok_lv h (k := k) hk
  refine go (r := ?_); and_intros <;> intros <;> try exact True.intro
  all_goals first | (rw [hsc (by omega)]; done) | skip
  all_goals first | (have hk2 : k < bs.length := by omega
                     obtain ⟨a1, ⟨⟨a2, a3, a4⟩, a5, a6⟩, a7, a8, a9⟩ := hok hk2
                     first | assumption | omega | exact a6 ‹_›) | skip
  all_goals have ek : k = bs.length := by omega
  all_goals subst ek
  all_goals rw [he]⟩

/-! Headers. -/
def hdB (w h q : Int) (b d : Bool) : List Int := bitsL 183 8 ++ ueL (w / 8 - 1) ++ ueL (h / 8 - 1) ++ bitsL q 6 ++ [bif b then 1 else 0, bif d then 1 else 0]
def hdK (w h q : Int) (b d : Bool) (l : List Int) (k : Nat) : List Int := hdB w h q b d ++ (l.take k).flatMap fun n => bitsL n 3
def hdL (w h q : Int) (b d : Bool) (l : List Int) : List Int := if HdOk w h q l then hdK w h q b d l l.length else []
theorem hdB_len (w h q : Int) (b d : Bool) : (hdB w h q b d).length ≤ 226 := by
  have h1 := bitsL_len 183 8
  have h2 := ueL_len (w / 8 - 1)
  have h3 := ueL_len (h / 8 - 1)
  have h4 := bitsL_len q 6
  unfold hdB; simp only [List.length_append, List.length_cons, List.length_nil]; omega
theorem hdK_len (w h q : Int) (b d : Bool) (l : List Int) (k : Nat) : (hdK w h q b d l k).length ≤ 226 + 48 * k := by
  have h1 := hdB_len w h q b d
  have h3 := fm_bd (fun n : Int => bitsL n 3) 48 (fun n => bitsL_len _ _) (l.take k)
  have h4 : (l.take k).length ≤ k := by simp; omega
  unfold hdK; simp only [List.length_append]; omega
theorem hdK_succ (w h q : Int) (b d : Bool) (l : List Int) (k : Nat) (hk : k < l.length) : hdK w h q b d l (k + 1) = hdK w h q b d l k ++ bitsL (l.getD k 0) 3 := by
  unfold hdK; rw [fm_snoc _ _ k hk, ← List.append_assoc]; rfl
theorem hdL_len (w h q : Int) (b d : Bool) (l : List Int) : (hdL w h q b d l).length ≤ 600 := by
  unfold hdL; split
  · rename_i hh
    have h1 := hdK_len w h q b d l l.length
    have h6 := hh.2.2.2.1
    omega
  · simp
theorem in_getH {l : List Int} {lo hi : Int} (h : In l lo hi) {k : Nat} (hk : k < l.length) : lo ≤ l.getD k 0 ∧ l.getD k 0 ≤ hi := by
  have e : l.getD k 0 = l[k] := by simp [hk]
  rw [e]; exact in_mem h (List.getElem_mem _)
abbrev BoxH (w h q : Int) (b d : Bool) (l : List Int) : AObj := ⟨[I w, I h, I q, B b, B d, IL l], 0, 0, none⟩
instance HeaderBits_s : Con 102 (∀ (w h q : Int) (b d : Bool) (l : List Int), l.length ≤ 1099511627776 → Fn 102 [HdA w h q b d l] [XI (hdL w h q b d l)] (.own 0 0 0 (hdL w h q b d l).length)) := ⟨fun w h q b d l hl => by
  have h1 := bitsL_len 183 8
  have h2 := ueL_len (w / 8 - 1)
  have h3 := ueL_len (h / 8 - 1)
  have h4 := bitsL_len q 6
  refine FnC.of_body tabOk Try.func102 Try.ntmps102 rfl (by decide +kernel) (by simp) fun G => ?_
  by_cases h0 : HdOk w h q l
  · have he : hdL w h q b d l = hdK w h q b d l l.length := by rw [hdL, if_pos h0]
    have hz : bitsL 183 8 ++ ueL (w / 8 - 1) ++ ueL (h / 8 - 1) ++ bitsL q 6 ++ [bif b then 1 else 0, bif d then 1 else 0] = hdK w h q b d l 0 := by simp [hdK, hdB]
    have h6 := h0.2.2.2.1
    have hs := h0.1
    have hq := h0.2.1
    have hzl : (bitsL 183 8).length + (ueL (w / 8 - 1)).length + (ueL (h / 8 - 1)).length + (bitsL q 6).length + 2 = (hdK w h q b d l 0).length := by rw [← hz]; simp only [List.length_append, List.length_cons, List.length_nil]
    refine go (r := ?_); and_intros <;> intros <;> try exact True.intro
    all_goals first | (exact absurd h0 (by assumption)) | skip
    refine WpA.loop (fun k : Nat => ⟨[(1, .ptr 0 0 0), (3, .own 1 0 0 (hdK w h q b d l k).length), (4, I k)], [BoxH w h q b d l, XI (hdK w h q b d l k)]⟩) (fun k => k ≤ l.length) (fun k => l.length - k) 0 (by omega) (go (r := ?_)) (fun k hk => ?_)
    · trivial
    have hb := hdK_len w h q b d l k
    have hsc := fun hk => hdK_succ w h q b d l k hk
    have hbl := bitsL_len (l.getD k 0) 3
    have hin := fun hk => in_getH h0.2.2.1 (k := k) hk
    have hsl : k < l.length → (hdK w h q b d l (k + 1)).length = (hdK w h q b d l k).length + (bitsL (l.getD k 0) 3).length := fun hk => by rw [hsc hk]; simp only [List.length_append]
    refine go (r := ?_); and_intros <;> intros <;> try exact True.intro
    all_goals first | (rw [hsc (by omega)]; done) | skip
    all_goals have ek : k = l.length := by omega
    all_goals subst ek
    all_goals rw [he]
  · have he : hdL w h q b d l = [] := by rw [hdL, if_neg h0]
    refine go (r := ?_); and_intros <;> intros <;> try exact True.intro
    all_goals first | (exact absurd (by assumption) h0) | (rw [he]; done) | (rw [he]; rfl)⟩
end Go.Proofs.Ytepfjefdbpmobaa
