/- Contracts: exponential Golomb codes, their lengths, numbers of levels, flags. No condition. -/
import Derived.Test.YtepfjefdbpmobaaCat
import Derived.Test.YtepfjefdbpmobaaAbsY
namespace Go.Proofs.Ytepfjefdbpmobaa
open Go Go.Abs
set_option linter.unusedVariables false
set_option linter.unusedSimpArgs false
set_option maxRecDepth 100000
set_option maxHeartbeats 4000000
attribute [local irreducible] WpA WpL Rnd Blk Abs.Seq Abs.Fin Abs.FinG FnC FnG Only

instance l22Flag_s : Con 141 (∀ b : Bool, Fn 141 [B b] [] (I (bif b then 1 else 0))) := ⟨fun b => by
  cases b
  · refine FnC.of_body tabOk Try.func141 Try.ntmps141 rfl (by decide +kernel) (by simp) fun G => ?_
    refine go (r := ?_); and_intros <;> intros <;> try exact True.intro
    all_goals rfl
  · refine FnC.of_body tabOk Try.func141 Try.ntmps141 rfl (by decide +kernel) (by simp) fun G => ?_
    refine go (r := ?_); and_intros <;> intros <;> try exact True.intro
    all_goals rfl⟩
instance bitOf_c : Con 171 (∀ b : Bool, Fn 171 [B b] [] (I (bif b then 1 else 0))) := ⟨fun b => by
  cases b
  · refine FnC.of_body tabOk Try.func171 Try.ntmps171 rfl (by decide +kernel) (by simp) fun G => ?_
    refine go (r := ?_); and_intros <;> intros <;> try exact True.intro
    all_goals rfl
  · refine FnC.of_body tabOk Try.func171 Try.ntmps171 rfl (by decide +kernel) (by simp) fun G => ?_
    refine go (r := ?_); and_intros <;> intros <;> try exact True.intro
    all_goals rfl⟩
def nolL (v : Int) : Int := if v > 0 then 2 * v - 2 else if v < 0 then -2 * v - 1 else -1
instance NumOfLevel_s : Con 168 (∀ v : Int, -1000000 ≤ v ∧ v ≤ 1000000 → Fn 168 [I v] [] (I (nolL v))) := ⟨fun v hv => by
  unfold nolL
  refine FnC.of_body tabOk Try.func168 Try.ntmps168 rfl (by decide +kernel) (by simp) fun G => ?_
  refine go (r := ?_); and_intros <;> intros <;> try exact True.intro
  all_goals (repeat' split) <;> omega⟩
instance NumOfLevel_c : Con 186 (∀ v : Int, -1000000 ≤ v ∧ v ≤ 1000000 → Fn 186 [I v] [] (I (nolL v))) := ⟨fun v hv => by
  unfold nolL
  refine FnC.of_body tabOk Try.func186 Try.ntmps186 rfl (by decide +kernel) (by simp) fun G => ?_
  refine go (r := ?_); and_intros <;> intros <;> try exact True.intro
  all_goals (repeat' split) <;> omega⟩
theorem lg_lo (x : Nat) (h : 0 < x) : 2 ^ Nat.log2 x ≤ x := Nat.log2_self_le (by omega)
theorem lg_hi (x : Nat) : x < 2 ^ (Nat.log2 x + 1) := Nat.lt_log2_self
theorem lg_lt {x z : Nat} (hz : z < Nat.log2 x) (h : 0 < x) : x / 2 ^ (z + 1) ≠ 0 := by
  have h1 := lg_lo x h
  have h2 : 2 ^ (z + 1) ≤ 2 ^ Nat.log2 x := Nat.pow_le_pow_right (by decide) hz
  have := Nat.div_pos (Nat.le_trans h2 h1) (Nat.pow_pos (by decide))
  omega
theorem lg_end (x : Nat) : x / 2 ^ (Nat.log2 x + 1) = 0 := Nat.div_eq_of_lt (lg_hi x)
theorem lg_16 {x : Nat} (h0 : 0 < x) (h : x ≤ 65535) : Nat.log2 x ≤ 15 := by
  rcases Nat.lt_or_ge (Nat.log2 x) 16 with h1 | h1
  · omega
  · have := lg_lo x h0
    have : 2 ^ 16 ≤ 2 ^ Nat.log2 x := Nat.pow_le_pow_right (by decide) h1
    omega
instance l6Zeros_s : Con 167 (∀ n : Nat, n ≤ 65534 → Fn 167 [I n] [] (I (Nat.log2 (n + 1)))) := ⟨fun n hn => by
  have h16 := lg_16 (x := n + 1) (by omega) (by omega)
  have hend := lg_end (n + 1)
  refine FnC.of_body tabOk Try.func167 Try.ntmps167 rfl (by decide +kernel) (by simp) fun G => ?_
  refine go (r := ?_); and_intros <;> intros <;> try exact True.intro
  refine WpA.loop (fun z : Nat => ⟨[(0, I n), (3, I z)], []⟩) (fun z => z ≤ Nat.log2 (n + 1)) (fun z => 16 - z) 0 (by omega) (go (r := ?_)) (fun z hz => ?_)
  · trivial
  have hlt := fun h => lg_lt (x := n + 1) (z := z) h (by omega)
  have hc : ((n : Int) + 1) / 2 ^ ((z : Int) + 1).toNat = (((n + 1) / 2 ^ (z + 1) : Nat) : Int) := by
    rw [show ((z : Int) + 1).toNat = z + 1 by omega]; push_cast; rfl
  rcases Nat.lt_or_ge z (Nat.log2 (n + 1)) with hz2 | hz2
  · have hlt := hlt hz2
    refine go (r := ?_); and_intros <;> intros <;> try exact True.intro
  · have e : z = Nat.log2 (n + 1) := by omega
    refine go (r := ?_); and_intros <;> intros <;> try exact True.intro
    rename_i hg; rw [hc, e, hend] at hg; exact absurd rfl hg⟩
/-- The bits of a number's code. -/
def ueL (n : Int) : List Int := if 0 ≤ n ∧ n ≤ 65534 then List.replicate (Nat.log2 (n.toNat + 1)) 0 ++ bitsL (n + 1) (Nat.log2 (n.toNat + 1) + 1) else []
theorem ueL_len (n : Int) : (ueL n).length ≤ 64 := by
  unfold ueL; split
  · rename_i h
    have h1 := lg_16 (x := n.toNat + 1) (by omega) (by omega)
    have h2 := bitsL_len (n + 1) ((Nat.log2 (n.toNat + 1) : Nat) + 1)
    simp only [List.length_append, List.length_replicate]; omega
  · simp
theorem bitOk_ue {n : Nat} (w : Nat) (h : n ≤ 65534) (hw : Nat.log2 (n + 1) + 1 ≤ w) (hw2 : w ≤ 48) : bitOk ((n : Int) + 1) w := by
  refine ⟨by omega, by omega, ?_⟩
  have h1 := lg_hi (n + 1)
  have h2 : 2 ^ (Nat.log2 (n + 1) + 1) ≤ 2 ^ w := Nat.pow_le_pow_right (by decide) hw
  have h3 : (n + 1) / 2 ^ w = 0 := Nat.div_eq_of_lt (by omega)
  have h4 : (((n + 1) / 2 ^ w : Nat) : Int) = 0 := by rw [h3]; rfl
  rw [Int.toNat_natCast]; push_cast at h4; exact h4
/-- A number's bits, written wider than it needs: zeros go ahead. -/
theorem bits_wide {n : Nat} {z : Nat} (h : n ≤ 65534) (hz : z = Nat.log2 (n + 1)) : bitsL ((n : Int) + 1) ((2 * z + 1 : Nat) : Int) = List.replicate z 0 ++ bitsL ((n : Int) + 1) ((z + 1 : Nat) : Int) := by
  have h16 := lg_16 (x := n + 1) (by omega) (by omega)
  have o1 := bitOk_ue (n := n) (2 * z + 1) h (by omega) (by omega)
  have o2 := bitOk_ue (n := n) (z + 1) h (by omega) (by omega)
  rw [bitsL, if_pos o1, bitsL, if_pos o2, Int.toNat_natCast, Int.toNat_natCast]
  apply List.ext_getElem?
  intro q
  rcases Nat.lt_or_ge q z with hq | hq
  · rw [List.getElem?_append_left (by simpa using hq), List.getElem?_replicate, if_pos hq]
    unfold bitsR
    rw [List.getElem?_map, List.getElem?_range (by omega)]
    simp only [Option.map_some]
    congr 1
    have h5 : (n + 1) / 2 ^ (2 * z + 1 - 1 - q) = 0 := Nat.div_eq_of_lt (by
      have h1 := lg_hi (n + 1)
      have h2 : 2 ^ (Nat.log2 (n + 1) + 1) ≤ 2 ^ (2 * z + 1 - 1 - q) := Nat.pow_le_pow_right (by decide) (by omega)
      omega)
    have h6 : (((n + 1) / 2 ^ (2 * z + 1 - 1 - q) : Nat) : Int) = 0 := by rw [h5]; rfl
    have h7 : ((n : Int) + 1) / 2 ^ (2 * z + 1 - 1 - q) = 0 := by
      have e : (((n + 1) / 2 ^ (2 * z + 1 - 1 - q) : Nat) : Int) = ((n : Int) + 1) / 2 ^ (2 * z + 1 - 1 - q) := by rw [Int.natCast_ediv, Int.natCast_add, Int.natCast_pow]; rfl
      rw [← e]; exact h6
    rw [h7]; rfl
  · rw [List.getElem?_append_right (by simpa using hq), List.length_replicate]
    unfold bitsR
    rcases Nat.lt_or_ge q (2 * z + 1) with hq2 | hq2
    · rw [List.getElem?_map, List.getElem?_range (by omega), List.getElem?_map, List.getElem?_range (by omega)]
      simp only [Option.map_some]
      congr 4; omega
    · rw [List.getElem?_eq_none (by simpa using hq2), List.getElem?_eq_none (by simp; omega)]
theorem ueL_wide {n : Nat} (h : n ≤ 65534) : bitsL ((n : Int) + 1) ((2 * Nat.log2 (n + 1) + 1 : Nat) : Int) = ueL n := by
  rw [bits_wide h rfl, ueL, if_pos ⟨by omega, by omega⟩]
  simp
instance UeBits_s : Con 140 (∀ n : Int, Fn 140 [I n] [XI (ueL n)] (.own 0 0 0 (ueL n).length)) := ⟨fun n => by
  refine FnC.of_body tabOk Try.func140 Try.ntmps140 rfl (by decide +kernel) (by simp) fun G => ?_
  by_cases h : 0 ≤ n ∧ n ≤ 65534
  · obtain ⟨N, rfl⟩ : ∃ N : Nat, n = N := ⟨n.toNat, by omega⟩
    have h16 := lg_16 (x := N + 1) (by omega) (by omega)
    have hu : ueL N = List.replicate (Nat.log2 (N + 1)) 0 ++ bitsL ((N : Int) + 1) ((Nat.log2 (N + 1) : Nat) + 1) := by rw [ueL, if_pos h, Int.toNat_natCast]
    have hbl := bitsL_len ((N : Int) + 1) ((Nat.log2 (N + 1) : Nat) + 1)
    generalize hz : Nat.log2 (N + 1) = z at hu h16 hbl
    repeat (refine K.A ?_; refine WpA.seq ?_)
    refine K.A ?_
    refine WpA.regionF rfl ?_
    refine WpL.assign rfl (by decide) ?_
    refine WpL.nil ?_
    refine Abs.Seq.n ?_
    repeat (refine K.A ?_; refine WpA.seq ?_)
    refine K.A ?_
    refine WpA.regionF rfl ?_
    refine WpL.move rfl (by decide) ?_
    refine K.call ?_
    refine K.con (fun hcon => ?_)
    refine WpL.call0 (hcon _ _ _) snapA locA rfl rfl (by decide) ?_
    clear hcon
    refine WpL.not rfl (by decide) ?_
    refine WpL.nil ?_
    refine Abs.Seq.n ?_
    repeat (refine K.A ?_; refine WpA.seq ?_)
    refine K.A ?_
    refine WpA.condN rfl (fun hin => absurd h hin) (fun hin => ?_)
    refine K.A ?_
    refine WpA.skip ?_
    refine Abs.Seq.n ?_
    repeat (refine K.A ?_; refine WpA.seq ?_)
    refine K.A ?_
    refine WpA.regionF rfl ?_
    refine WpL.move rfl (by decide) ?_
    refine K.call ?_
    refine K.con (fun hcon => ?_)
    refine WpL.call0 (hcon N (by omega)) snapA locA rfl rfl (by decide) ?_
    clear hcon
    rw [hz]
    refine WpL.assign rfl (by decide) ?_
    refine WpL.nil ?_
    refine Abs.Seq.n ?_
    repeat (refine K.A ?_; refine WpA.seq ?_)
    refine K.A ?_
    apply WpA.regionQF (O := []) (Or := []) (O1 := [⟨ints (List.replicate z 0), 1, 1, some 3⟩, ⟨ints (bitsL ((N : Int) + 1) ((z : Int) + 1)), 1, 1, some 3⟩, deadO, deadO]) 7 2 [] rfl mixed (by decide +kernel)
    · exact rfl
    · apply HeadQ.consF .none rfl
      · exact rfl
      · exact in1
      · exact rfl
      · exact rfl
      apply HeadQ.consF (V := .own 0 1 0 z) (.put 0 (⟨ints (List.replicate z 0), 1, 1, some 3⟩)) rfl
      · exact rfl
      · intro Tv Ov hc hp hd hk
        refine WpL.makeInts tabOk rfl rfl rfl (by omega) (by omega) (id := ([] ++ Ov).length) (by rw [nid_len, Nat.zero_add]) (by decide) ?_; rw [Int.toNat_natCast]
        apply WpL.putNil (p := 0)
        · exact hp 0 _ rfl
        · exact Nat.zero_le _
        · exact rfl
        · first | exact still_ints _ | exact still_rows (fun _ => rfl) _ | rfl
      · exact rfl
      · exact rfl
      apply HeadQ.consF .none rfl
      · exact rfl
      · exact in1
      · exact rfl
      · exact rfl
      apply HeadQ.consF .none rfl
      · exact rfl
      · exact in1
      · exact rfl
      · exact rfl
      apply HeadQ.consF .none rfl
      · exact rfl
      · exact in1
      · exact rfl
      · exact rfl
      apply HeadQ.consF .none rfl
      · exact rfl
      · exact in1
      · exact rfl
      · exact rfl
      apply HeadQ.consF (V := .own 1 1 0 (bitsL ((N : Int) + 1) ((z : Int) + 1)).length) (.put 1 (⟨ints (bitsL ((N : Int) + 1) ((z : Int) + 1)), 1, 1, some 3⟩)) rfl
      · exact rfl
      · intro Tv Ov hc hp hd hk
        refine K.call ?_
        refine K.con (fun hcon => ?_)
        refine WpL.callF (hcon ((N : Int) + 1) ((z : Int) + 1) (by omega)) snapA locA outA (cnt_some _ 0) rfl rfl (by decide) ?_
        rw [Nat.zero_add]
        apply WpL.putNil (p := 1)
        · exact hp 1 _ rfl
        · exact Nat.zero_le _
        · exact rfl
        · first | exact still_ints _ | exact still_rows (fun _ => rfl) _ | rfl
      · exact rfl
      · exact rfl
      exact HeadQ.nil
    · exact rfl
    · exact rfl
    · exact rfl
    · exact rfl
    · exact rfl
    · exact rfl
    · exact rfl
    have hul : z + (bitsL ((N : Int) + 1) ((z : Int) + 1)).length = (ueL N).length := by rw [hu, List.length_append, List.length_replicate]
    refine go (r := ?_); and_intros <;> intros <;> try exact True.intro
    all_goals first | (rw [hu]; done) | trace_state
  · have e : ueL n = [] := by rw [ueL, if_neg h]
    refine go (r := ?_); and_intros <;> intros <;> try exact True.intro
    all_goals first | (rw [e]; done) | (rw [e]; rfl) | (exact absurd (by assumption) h)⟩

/-! Lengths by table. -/
def lenL (x : Int) : Int := if x = 0 then 0 else (Nat.log2 x.toNat : Int) + 1
theorem lenL_bd {x : Int} (h : 0 ≤ x ∧ x ≤ 65535) : 0 ≤ lenL x ∧ lenL x ≤ 16 := by
  unfold lenL; split
  · omega
  · have := lg_16 (x := x.toNat) (by omega) (by omega); omega
theorem u64_in {x : Int} (h : 0 ≤ x ∧ x ≤ 65535) : IntKind.u64.wrap x = x := by
  have key : IntKind.u64.wrap x = x % 18446744073709551616 := rfl
  rw [key]; omega
theorem u8_in {x : Int} (h : 0 ≤ x ∧ x ≤ 255) : IntKind.u8.wrap x = x := by
  have key : IntKind.u8.wrap x = x % 256 := rfl
  rw [key]; omega
def lenT : List UInt8 := (List.range 256).map fun i => UInt8.ofNat (if i = 0 then 0 else Nat.log2 i + 1)
theorem lenT_len : lenT.length = 256 := by simp [lenT]
theorem lenT_at {x : Int} (h : 0 ≤ x ∧ x ≤ 255) : ((lenT.getD x.toNat 0).toNat : Int) = lenL x := by
  have key : ∀ k : Fin 256, ((lenT.getD (k.val : Int).toNat 0).toNat : Int) = lenL k.val := by decide +kernel
  obtain ⟨k, rfl⟩ : ∃ k : Nat, x = k := ⟨x.toNat, by omega⟩
  exact key ⟨k, by omega⟩
theorem lenL_hi {x : Int} (h : 256 ≤ x ∧ x ≤ 65535) : lenL x = 8 + lenL (x / 256) := by
  unfold lenL
  rw [if_neg (by omega), if_neg (by omega)]
  obtain ⟨k, rfl⟩ : ∃ k : Nat, x = k := ⟨x.toNat, by omega⟩
  have e : ((k : Int) / 256).toNat = k / 256 := by omega
  rw [e, Int.toNat_natCast]
  have h1 : Nat.log2 k = Nat.log2 (k / 2) + 1 := by rw [Nat.log2_def, if_pos (by omega)]
  have e2 : ∀ j n : Nat, 256 ≤ j * n → 1 < n → n ≤ 256 → True := fun _ _ _ _ _ => trivial
  have st : ∀ n : Nat, 2 ≤ n → Nat.log2 n = Nat.log2 (n / 2) + 1 := fun n hn => by rw [Nat.log2_def, if_pos hn]
  rw [st k (by omega), st (k / 2) (by omega), st (k / 2 / 2) (by omega), st (k / 2 / 2 / 2) (by omega), st (k / 2 / 2 / 2 / 2) (by omega), st (k / 2 / 2 / 2 / 2 / 2) (by omega), st (k / 2 / 2 / 2 / 2 / 2 / 2) (by omega), st (k / 2 / 2 / 2 / 2 / 2 / 2 / 2) (by omega)]
  have e3 : k / 2 / 2 / 2 / 2 / 2 / 2 / 2 / 2 = k / 256 := by omega
  rw [e3]; omega
instance Len64_c : Con 189 (∀ x : Int, 0 ≤ x ∧ x ≤ 65535 → Fn 189 [.sc (.int .u64 x)] [] (I (lenL x))) := ⟨fun x hx => by
  have e8 : x / 2 ^ Int.toNat 8 = x / 256 := rfl
  have hb := lenL_bd hx
  refine FnC.of_body tabOk Try.func189 Try.ntmps189 rfl (by decide +kernel) (by simp) fun G => ?_
  by_cases h : 256 ≤ x
  · have h2 : IntKind.u8.wrap (x / 2 ^ Int.toNat 8) = x / 256 := by rw [e8]; exact u8_in (by omega)
    have hb2 := lenL_bd (x := x / 256) (by omega)
    have hh := lenL_hi (x := x) (by omega)
    refine go (r := ?_); and_intros <;> intros <;> try exact True.intro
    refine WpL.idxStrB (p := lenT) tabOk rfl (by kernel_rfl) rfl (by rw [h2, lenT_len]; omega) (by decide) (fun hgo => ?_)
    rw [h2, lenT_at (by omega)]
    refine go (r := ?_); and_intros <;> intros <;> try exact True.intro
  · have h2 : IntKind.u8.wrap x = x := u8_in (by omega)
    refine go (r := ?_); and_intros <;> intros <;> try exact True.intro
    refine WpL.idxStrB (p := lenT) tabOk rfl (by kernel_rfl) rfl (by rw [h2, lenT_len]; omega) (by decide) (fun hgo => ?_)
    rw [h2, lenT_at (by omega)]
    refine go (r := ?_); and_intros <;> intros <;> try exact True.intro⟩
instance Len_c : Con 187 (∀ x : Int, 0 ≤ x ∧ x ≤ 65535 → Fn 187 [.sc (.int .u64 x)] [] (I (lenL x))) := ⟨fun x hx => by
  refine FnC.of_body tabOk Try.func187 Try.ntmps187 rfl (by decide +kernel) (by simp) fun G => ?_
  refine go (r := ?_); and_intros <;> intros <;> try exact True.intro⟩
instance UeSize_c : Con 184 (∀ n : Nat, n ≤ 65534 → Fn 184 [I n] [] (I ((2 * Nat.log2 (n + 1) + 1 : Nat) : Int))) := ⟨fun n hn => by
  have hw := u64_in (x := (n : Int) + 1) (by omega)
  have hb := lenL_bd (x := (n : Int) + 1) (by omega)
  have he : lenL ((n : Int) + 1) = (Nat.log2 (n + 1) : Int) + 1 := by
    unfold lenL; rw [if_neg (by omega), show ((n : Int) + 1).toNat = n + 1 by omega]
  have he2 : lenL (IntKind.u64.wrap ((n : Int) + 1)) = (Nat.log2 (n + 1) : Int) + 1 := by rw [hw]; exact he
  have h16 := lg_16 (x := n + 1) (by omega) (by omega)
  refine FnC.of_body tabOk Try.func184 Try.ntmps184 rfl (by decide +kernel) (by simp) fun G => ?_
  refine go (r := ?_); and_intros <;> intros <;> try exact True.intro
  all_goals trace_state⟩
instance UeBits_c : Con 170 (∀ n : Int, 0 ≤ n ∧ n ≤ 65534 → Fn 170 [I n] [XI (ueL n)] (.own 0 0 0 (ueL n).length)) := ⟨fun n hn => by
  obtain ⟨N, rfl⟩ : ∃ N : Nat, n = N := ⟨n.toNat, by omega⟩
  have he := ueL_wide (n := N) (by omega)
  have hel : (bitsL ((N : Int) + 1) ((2 * Nat.log2 (N + 1) + 1 : Nat) : Int)).length = (ueL N).length := by rw [he]
  refine FnC.of_body tabOk Try.func170 Try.ntmps170 rfl (by decide +kernel) (by simp) fun G => ?_
  refine go (r := ?_); and_intros <;> intros <;> try exact True.intro
  all_goals trace_state⟩
end Go.Proofs.Ytepfjefdbpmobaa
