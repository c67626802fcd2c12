/- Proved in this text: lemmas and contracts of functions that the claim uses (parts: TxI, TxD, TxJ, TxA, TxM, Defs, Code, Kraft, Sym, Stat, Pred, Sid, AbsXg, AbsXk, GoK, TxH, RhP). No condition. -/
import Derived.Lib.ItoaLen
import Derived.Test.YtkckmenalehdpaaDoorRhM4
import Derived.Test.YtkckmenalehdpaaDoorRhM5
import Derived.Test.YtkckmenalehdpaaDoorRhM6
set_option linter.unusedVariables false
set_option linter.unusedSimpArgs false
set_option maxRecDepth 100000
set_option maxHeartbeats 4000000


namespace Go.Proofs.YtkckmenalehdpaaDoor
open Go Go.Abs
abbrev decL (n : Int) : List UInt8 := Go.Lib.itoa n
theorem decL_len (n : Int) (h : -9223372036854775808 ≤ n ∧ n ≤ 9223372036854775807) : (decL n).length ≤ 21 := Go.Lib.itoa_length_le n h.1 h.2
instance Itoa_c : Con 50 (∀ n : Int, -9223372036854775808 ≤ n ∧ n ≤ 9223372036854775807 → Fn 50 [I n] [] (Z (decL n))) := ⟨fun n hn => by
  refine FnC.of_calls (x := .string ⟨(decL n).toArray⟩) ⟨_, Tryd.func50, rfl, by decide +kernel⟩ (fun _ _ _ _ => .sc .nil) fun w S vs hS hg hl => ?_
  cases hl with
  | sc h =>
    cases h
    refine (Any.strconv_Itoa laysM171 n hn.1 hn.2 w ?_).mono fun e w' he => ?_
    · obtain ⟨W, h1, h2⟩ := glb_cell hg
      obtain ⟨t, fz, h3⟩ := h1.pow
      unfold Go.Lib.TabIs World.var?
      refine Eq.trans (congrArg (fun o => Option.bind o _) (show _ = some (5 : Nat) from by kernel_rfl)) ?_
      show (match w.heap[(5 : Nat)]? with | some (.cells cs _ _) => some cs | _ => none) = _
      rw [(h2 5 (by decide)).1, h3]
      simp [Go.Lib.pow10Tab]
    · obtain ⟨he, k, os, hw⟩ := he
      exact ⟨he, hw ▸ keeps_grow⟩⟩
end Go.Proofs.YtkckmenalehdpaaDoor


namespace Go.Proofs.YtkckmenalehdpaaDoor
open Go Go.Abs
attribute [local irreducible] WpA WpL Rnd Blk Abs.Seq Abs.Fin Abs.FinG FnC FnG Only Go.Lib.itoa
abbrev I64 (n : Int) : Prop := -9223372036854775808 ≤ n ∧ n ≤ 9223372036854775807
instance Dec_c : Con 26 (∀ n : Int, I64 n → Fn 26 [I n] [] (Z (decL n))) := ⟨fun n hn => by
  refine FnC.of_body tabOk Tryd.func26 Tryd.ntmps26 rfl (by decide +kernel) (by simp) fun G => ?_
  refine go (r := ?_); and_intros <;> intros <;> try exact True.intro⟩
def digs (m : Nat) : List UInt8 := if m = 0 then [] else Go.Lib.decDigits m
theorem digs_step (m : Nat) (h : m ≠ 0) : digs m = digs (m / 10) ++ [UInt8.ofNat (48 + m % 10)] := by
  unfold digs
  rw [if_neg h, Go.Lib.decDigits]
  split
  · rw [if_pos (by omega), Nat.mod_eq_of_lt (by assumption)]; rfl
  · rw [if_neg (by omega)]
theorem digs_len {m : Nat} (h : m < 18446744073709551616) : (digs m).length ≤ 20 := by
  unfold digs
  split
  · simp
  · rw [Go.Lib.decDigits_length]; exact Go.Lib.nDigits_le20 m h
theorem decL_digs (n : Int) (h : n ≠ 0) : decL n = (if n < 0 then [45] else []) ++ digs n.natAbs := by
  unfold decL Go.Lib.itoa digs
  rw [if_neg (show ¬ n.natAbs = 0 by omega)]
  by_cases h2 : n < 0
  · rw [if_pos h2, if_pos h2]; rfl
  · rw [if_neg h2, if_neg h2, show n.toNat = n.natAbs from by omega]; rfl
theorem decL_zero : decL 0 = [48] := by decide +kernel
theorem dec_step {c d : Int} (u : List UInt8) (h : c ≠ 0) (hd : d = (c.natAbs % 10 : Nat)) : digs (c.tdiv 10).natAbs ++ (List.map (fun n : Int => UInt8.ofNat n.toNat) [IntKind.u8.wrap (48 + d)] ++ u) = digs c.natAbs ++ u := by
  have e1 : (c.tdiv 10).natAbs = c.natAbs / 10 := Int.natAbs_tdiv c 10
  rw [digs_step c.natAbs (by omega), e1, u8w _ (by omega), hd]
  simp only [List.map_cons, List.map_nil, List.append_assoc]
  rw [show ((48 : Int) + ((c.natAbs % 10 : Nat) : Int)).toNat = 48 + c.natAbs % 10 from by omega]
instance Dec_s : Con 22 (∀ n : Int, I64 n → Fn 22 [I n] [] (Z (decL n))) := ⟨fun n hn => by
  refine FnC.of_body tabOk Tryd.func22 Tryd.ntmps22 rfl (by decide +kernel) (by simp) fun G => ?_
  refine go (r := ?_); and_intros <;> intros <;> try exact True.intro
  · have h0 : n = 0 := by assumption
    subst h0
    exact decL_zero.symm
  have hn0 : n ≠ 0 := by assumption
  refine WpA.loop (fun x : Int × List UInt8 => ⟨[(0, I x.1), (3, Z x.2), (4, B (decide (n < 0)))], []⟩) (fun x => digs x.1.natAbs ++ x.2 = digs n.natAbs ∧ I64 x.1) (fun x => x.1.natAbs) (n, []) ⟨by simp, hn⟩ (go (r := trivial)) (fun x hx => ?_)
  obtain ⟨c, u⟩ := x
  obtain ⟨hx1, hx2⟩ := hx
  simp only at hx1 hx2 ⊢
  have hul : u.length ≤ 20 := by
    have h1 := congrArg List.length hx1
    have h2 := digs_len (m := n.natAbs) (by omega)
    simp only [List.length_append] at h1; omega
  have ht1 := Int.natAbs_tmod c 10
  have ht2 := Int.natAbs_tdiv c 10
  have ht3 : (c.natAbs % (10 : Int).natAbs) = c.natAbs % 10 := rfl
  have ht4 : c.natAbs.div (10 : Int).natAbs = c.natAbs / 10 := rfl
  rw [ht3] at ht1
  rw [ht4] at ht2
  have hb : -9 ≤ c.tmod 10 ∧ c.tmod 10 ≤ 9 := by omega
  refine go (r := ?_); and_intros <;> intros <;> try exact True.intro
  · refine WpL.remT rfl rfl (by decide) (by decide) ?_
    refine go (r := ?_); and_intros <;> intros <;> try exact True.intro
    · refine WpL.quoT rfl rfl (by omega) (by decide) ?_
      refine go (r := ?_); and_intros <;> intros <;> try exact True.intro
      refine Rnd.go (c.tdiv 10, List.map (fun n : Int => UInt8.ofNat n.toNat) [IntKind.u8.wrap (48 + -c.tmod 10)] ++ u) ⟨by rw [← hx1]; exact dec_step u (by assumption) (by omega), by simp only; omega⟩ (by simp only; omega) (go (r := trivial))
    · refine WpL.quoT rfl rfl (by omega) (by decide) ?_
      refine go (r := ?_); and_intros <;> intros <;> try exact True.intro
      refine Rnd.go (c.tdiv 10, List.map (fun n : Int => UInt8.ofNat n.toNat) [IntKind.u8.wrap (48 + c.tmod 10)] ++ u) ⟨by rw [← hx1]; exact dec_step u (by assumption) (by omega), by simp only; omega⟩ (by simp only; omega) (go (r := trivial))
  · have h0 : c = 0 := by assumption
    subst h0
    have hn : n < 0 := by assumption
    rw [decL_digs n hn0, if_pos hn, ← hx1]; rfl
  · have h0 : c = 0 := by assumption
    subst h0
    have hn : ¬ n < 0 := by assumption
    rw [decL_digs n hn0, if_neg hn, ← hx1]; rfl⟩
end Go.Proofs.YtkckmenalehdpaaDoor


namespace Go.Proofs.YtkckmenalehdpaaDoor
open Go Go.Abs
abbrev SL (xs : List (List UInt8)) : AV := .imm 1 xs.length (strs xs)
abbrev bsA (xs : List (List UInt8)) : List ByteArray := xs.map fun p => ⟨p.toArray⟩
theorem bsA_data (xs : List (List UInt8)) : (bsA xs).map (·.data.toList) = xs := by simp [bsA, List.map_map, Function.comp_def]
theorem lrel_strs {S w ι O} : ∀ {xs : List (List UInt8)} {us f}, LRel S w ι O (strs xs) us f → us = (bsA xs).map Value.string
  | [], us, f, h => by cases h; rfl
  | x :: xs, us, f, h => by
    cases h with
    | sc h2 => rw [lrel_strs h2]; rfl
theorem lrel_mstrs {S w ι O} : ∀ (xs : List (List UInt8)), LRel S w ι O (strs xs) ((bsA xs).map Value.string) []
  | [] => .nil
  | _ :: xs => .sc (lrel_mstrs xs)
theorem vrel_strs {S w ι O} {xs : List (List UInt8)} {v : Value} {f : List Nat} (h : VRel S w ι O (SL xs) v f) : (xs = [] ∧ ∃ a cap, v = .slice a 0 cap) ∨ ∃ b o cap, v = .slice (some ⟨b, o, none⟩) (bsA xs).length cap ∧ S b ∧ (bsA xs).length ≤ cap ∧ ∀ (j : Nat) x, (bsA xs)[j]? = some x → w.cell? ⟨b, o + j, none⟩ = some (.string x) := by
  unfold SL at h
  generalize hn : xs.length = n at h
  generalize hc : strs xs = cs at h
  cases h with
  | imm0 h0 h1 =>
    refine .inl ⟨List.eq_nil_of_length_eq_zero hn, _, _, rfl⟩
  | imm hSb hcl hr hlen hle hcap h1 =>
    subst hc
    have hu := lrel_strs hr
    refine .inr ⟨_, _, _, by rw [show (bsA xs).length = n from by simp [bsA, hn]], hSb, by simp [hn]; exact hle, fun j x hj => ?_⟩
    have hlt := (List.getElem?_eq_some_iff.1 hj).1
    rw [hcl j (by rw [hu]; simpa using hlt), hu, List.getElem?_map, hj]; rfl
instance Join_c : Con 27 (∀ (xs : List (List UInt8)) (sep : List UInt8), xs.length ≤ 140737488355328 ∧ (Go.Lib.join xs sep).length ≤ 140737488355328 → Fn 27 [SL xs, Z sep] [] (Z (Go.Lib.join xs sep))) := ⟨fun xs sep hn => by
  refine FnC.of_calls (x := .string ⟨(Go.Lib.join xs sep).toArray⟩) ⟨_, Tryd.func27, rfl, by decide +kernel⟩ (fun _ _ _ _ => .sc .nil) fun w S vs hS hg hl => ?_
  obtain ⟨v, vs', f1, f2, rfl, hv, hl2, hf⟩ := hl.uncons
  cases hl2 with
  | sc h =>
    cases h
    have hxs := bsA_data xs
    rcases vrel_strs hv with ⟨rfl, a, cap, rfl⟩ | ⟨b, o, cap, rfl, hSb, hcap, hcell⟩
    · refine (strings_Join_none a cap ⟨sep.toArray⟩ w).mono fun e w' he => ?_
      obtain ⟨he, hw⟩ := he
      exact ⟨he, hw ▸ Keeps.refl _ _⟩
    · refine (strings_Join b o cap (bsA xs) ⟨sep.toArray⟩ w hcell (hS b hSb) (by simpa using hn.1) hcap (by rw [hxs]; exact hn.2)).mono fun e w' he => ?_
      obtain ⟨he, hw⟩ := he
      rw [hxs] at he
      exact ⟨he, keeps_below hw⟩⟩
instance TrimPrefix_c : Con 42 (∀ (s p : List UInt8), True → Fn 42 [Z s, Z p] [] (Z (Go.Lib.trimPrefix s p))) := ⟨fun s p _ => by
  refine FnC.of_calls (x := .string ⟨(Go.Lib.trimPrefix s p).toArray⟩) ⟨_, Tryd.func42, rfl, by decide +kernel⟩ (fun _ _ _ _ => .sc .nil) fun w S vs hS hg hl => ?_
  cases hl with
  | sc h =>
    cases h with
    | sc h =>
      cases h
      refine (strings_TrimPrefix ⟨s.toArray⟩ ⟨p.toArray⟩ w).mono fun e w' he => ?_
      obtain ⟨he, hw⟩ := he
      exact ⟨he, hw ▸ Keeps.refl _ _⟩⟩
end Go.Proofs.YtkckmenalehdpaaDoor


namespace Go.Proofs.YtkckmenalehdpaaDoor
open Go Go.Abs
theorem of_callsX {P : Program} {f : FuncId} {args : List AV} {r : AV} (hr : Runs P f) (h : ∀ (w : World) (S : Nat → Prop) (vs : List Value), (∀ b, S b → b < w.heap.size) → GlbOk S w → LRel S w (fun _ => none) [] args vs [] →
    Calls P f vs.toArray w fun e w' => ∃ x, e = .returned x ∧ (∀ S w ι O, VRel S w ι O r x []) ∧ Keeps w (fun _ => False) w') : FnC P f args [] r := by
  refine ⟨hr, fun w S vs hS hg hl => (h w S vs hS hg hl).mono fun e w' he => ?_⟩
  obtain ⟨x, he, hx, hk⟩ := he
  exact ⟨x, S, fun _ => none, fun _ => [], he, fun _ h => h, fun _ h => .inl h, fun b hb => Nat.lt_of_lt_of_le (hS b hb) hk.size, ⟨fun id ob h => by simp at h, fun id h => by simp at h, fun i j h => by simp at h⟩, fun id h => by simp at h, hx _ _ _ _, hk⟩
def atoiV (s : List UInt8) : Option Int := match Go.Lib.atoiAll s with
  | .ok v => some v
  | _ => none
theorem atoiV_in {s : List UInt8} {v : Int} (h : atoiV s = some v) : I64 v := by
  unfold atoiV at h
  split at h
  · rename_i h2; cases h; exact Go.Lib.atoiAll_bounds h2
  · cases h
theorem Atoi_o (s : List UInt8) (hl : s.length ≤ 281474976710656) (v : Int) (hv : atoiV s = some v) : Fn 68 [Z s] [] (.tup [I v, .sc .nilIface]) := by
  have h0 : Go.Lib.atoiAll s = .ok v := by
    unfold atoiV at hv; split at hv
    · rename_i h2; cases hv; exact h2
    · cases hv
  refine FnC.of_calls (x := .tuple #[.int .i64 v, .nilIface]) ⟨_, Tryd.func68, rfl, by decide +kernel⟩ (fun _ _ _ _ => .tup (.sc (.sc .nil)) .nil) fun w S vs hS hg hl' => ?_
  cases hl' with
  | sc h =>
    cases h
    refine (Any.strconv_Atoi_ok laysC172 ⟨s.toArray⟩ (by simp [ByteArray.size]; omega) v (by simpa using h0) w).mono fun e w' he => ?_
    obtain ⟨he, hw⟩ := he
    refine ⟨he, ?_⟩
    rcases hw with rfl | ⟨t, rfl⟩
    · exact ⟨rfl, rfl, rfl, Nat.le_refl _, fun _ _ _ => rfl⟩
    · exact keeps_below (Go.Lib.bytesWorld_below w _ t)
theorem glb_err {S : Nat → Prop} {w : World} (h : GlbOk S w) : (∃ ev, w.cell? ⟨3, 0, none⟩ = some ev ∧ (ev = .nilIface ∨ ∃ te pe, ev = .iface te pe)) ∧ ∃ ev, w.cell? ⟨4, 0, none⟩ = some ev ∧ (ev = .nilIface ∨ ∃ te pe, ev = .iface te pe) := by
  obtain ⟨W, h1, h2⟩ := glb_cell h
  obtain ⟨a, ha, ha'⟩ := h1.errS
  obtain ⟨b, hb, hb'⟩ := h1.errR
  exact ⟨⟨a, by rw [(h2 3 (by decide)).2, ha], ha'⟩, b, by rw [(h2 4 (by decide)).2, hb], hb'⟩
abbrev errV : AV := .ifc 101 .any
theorem Atoi_e (s : List UInt8) (hl : s.length ≤ 281474976710656) (hv : atoiV s = none) : ∃ v, I64 v ∧ Fn 68 [Z s] [] (.tup [I v, errV]) := by
  have hsz : (⟨s.toArray⟩ : ByteArray).size ≤ 281474976710656 := by simp [ByteArray.size]; omega
  cases h0 : Go.Lib.atoiAll s
  · unfold atoiV at hv; rw [h0] at hv; cases hv
  · refine ⟨0, ⟨by decide, by decide⟩, of_callsX ⟨_, Tryd.func68, rfl, by decide +kernel⟩ fun w S vs hS hg hl' => ?_⟩
    cases hl' with
    | sc h =>
      cases h
      obtain ⟨ev, h1, h2⟩ := (glb_err hg).1
      refine (Any.strconv_Atoi_syntax laysC172 ⟨s.toArray⟩ hsz (by simpa using h0) ev w h1 h2).mono fun e w' he => ?_
      obtain ⟨N, he, _, _, hb⟩ := he
      exact ⟨_, he, fun _ _ _ _ => .tup (.sc (.ifc (.any .nil) .nil)) .nil, keeps_below hb⟩
  · have hb := Go.Lib.atoiSat_bounds s
    refine ⟨Go.Lib.atoiSat s, ⟨hb.1, hb.2⟩, of_callsX ⟨_, Tryd.func68, rfl, by decide +kernel⟩ fun w S vs hS hg hl' => ?_⟩
    cases hl' with
    | sc h =>
      cases h
      obtain ⟨ev, h1, h2⟩ := (glb_err hg).2
      refine (Any.strconv_Atoi_range laysC172 ⟨s.toArray⟩ hsz (by simpa using h0) ev w h1 h2).mono fun e w' he => ?_
      obtain ⟨N, he, _, _, hb⟩ := he
      exact ⟨_, he, fun _ _ _ _ => .tup (.sc (.ifc (.any .nil) .nil)) .nil, keeps_below hb⟩
attribute [local irreducible] WpA WpL Rnd Blk Abs.Seq Abs.Fin Abs.FinG FnC FnG Only Go.Lib.itoa
def rdec (s : List UInt8) : Option Int := (atoiV s).bind fun v => if decL v = s ∧ -999999999 ≤ v ∧ v ≤ 999999999 then some v else none
theorem rdec_of {s : List UInt8} {v : Int} (hv : atoiV s = some v) (h : decL v = s ∧ -999999999 ≤ v ∧ v ≤ 999999999) : rdec s = some v := by unfold rdec; rw [hv]; exact if_pos h
theorem rdec_no {s : List UInt8} {v : Int} (hv : atoiV s = some v) (h : ¬ (decL v = s ∧ -999999999 ≤ v ∧ v ≤ 999999999)) : rdec s = none := by unfold rdec; rw [hv]; exact if_neg h
theorem rdec_none {s : List UInt8} (hv : atoiV s = none) : rdec s = none := by unfold rdec; rw [hv]; rfl
abbrev rdecR (s : List UInt8) : AV := .tup [I ((rdec s).getD 0), B (rdec s).isSome]
instance ReadDec_c : Con 41 (∀ s : List UInt8, s.length ≤ 4294967296 → Fn 41 [Z s] [] (rdecR s)) := ⟨fun s hl => by
  cases hv : atoiV s with
  | some v =>
    have hA := Atoi_o s (by omega) v hv
    have hb := atoiV_in hv
    have hdl := decL_len v hb
    refine FnC.of_body tabOk Tryd.func41 Tryd.ntmps41 rfl (by decide +kernel) (by simp) fun G => ?_
    refine goR (r := ?_); and_intros <;> intros <;> try exact True.intro
    refine K.call ?_
    refine WpL.callF hA snapA locA outA rfl rfl rfl (by decide) ?_
    refine go (r := ?_); and_intros <;> intros <;> try exact True.intro
    all_goals first
    | (rw [rdec_no hv (fun h => absurd h.1 (by assumption))]; rfl)
    | (rw [rdec_no hv (fun h => absurd h.2 (by assumption))]; rfl)
    | (rw [rdec_of hv ⟨by assumption, by assumption⟩]; rfl)
  | none =>
    obtain ⟨v, hb, hA⟩ := Atoi_e s (by omega) hv
    have hdl := decL_len v hb
    have hr := rdec_none hv
    unfold rdecR
    rw [hr]
    refine FnC.of_body tabOk Tryd.func41 Tryd.ntmps41 rfl (by decide +kernel) (by simp) fun G => ?_
    refine goR (r := ?_); and_intros <;> intros <;> try exact True.intro
    refine K.call ?_
    refine WpL.callF hA snapA locA outA rfl rfl rfl (by decide) ?_
    refine go (r := ?_); and_intros <;> intros <;> try exact True.intro⟩
end Go.Proofs.YtkckmenalehdpaaDoor


namespace Go.Proofs.YtkckmenalehdpaaDoor
open Go Go.Abs
theorem glb_max {S : Nat → Prop} {w : World} (h : GlbOk S w) : ∃ m, w.cell? ⟨0, 0, none⟩ = some (.int .i64 m) := by
  obtain ⟨W, h1, h2⟩ := glb_cell h
  obtain ⟨m, h3⟩ := h1.max
  exact ⟨m, by rw [(h2 0 (by decide)).2]; exact h3⟩
theorem ba_size (s : List UInt8) : (⟨s.toArray⟩ : ByteArray).size = s.length := by simp [ByteArray.size]
theorem keeps_drew {w : World} {n : Nat} : Keeps w (fun _ => False) (w.drewN n) := ⟨rfl, rfl, rfl, Nat.le_refl _, fun _ _ _ => rfl⟩
instance Cut_c : Con 40 (∀ s sep : List UInt8, s.length ≤ 4294967280 → Fn 40 [Z s, Z sep] [] (.tup [Z (Go.Lib.cut s sep).1, Z (Go.Lib.cut s sep).2.1, B (Go.Lib.cut s sep).2.2])) := ⟨fun s sep hn => by
  refine FnC.of_calls (x := .tuple #[.string ⟨(Go.Lib.cut s sep).1.toArray⟩, .string ⟨(Go.Lib.cut s sep).2.1.toArray⟩, .bool (Go.Lib.cut s sep).2.2]) ⟨_, Tryd.func40, rfl, by decide +kernel⟩ (fun _ _ _ _ => by simpa using LRel.tup (.sc (.sc (.sc .nil))) .nil) fun w S vs hS hg hl => ?_
  cases hl with
  | sc h =>
    cases h with
    | sc h =>
      cases h
      obtain ⟨m, hm⟩ := glb_max hg
      refine (strings_Cut ⟨s.toArray⟩ ⟨sep.toArray⟩ m w (by rw [ba_size]; omega) hm).mono fun e w' he => ?_
      obtain ⟨he, k, hw⟩ := he
      exact ⟨he, hw ▸ keeps_drew⟩⟩
def splitL (s sep : List UInt8) : List (List UInt8) := (Go.Lib.splitB ⟨sep.toArray⟩ 0 (Go.Lib.countB ⟨s.toArray⟩ ⟨sep.toArray⟩) ⟨s.toArray⟩).map (·.data.toList)
theorem splitL_split (s sep : List UInt8) : splitL s sep = Go.Lib.split s sep := by
  unfold splitL Go.Lib.split
  rw [Go.Lib.splitB_data]
theorem splitL_len (s sep : List UInt8) (h : 1 ≤ sep.length) : (splitL s sep).length = Go.Lib.countB ⟨s.toArray⟩ ⟨sep.toArray⟩ + 1 := by
  unfold splitL
  rw [List.length_map]
  exact Go.Lib.splitB_all ⟨sep.toArray⟩ (by rw [ba_size]; exact h) 0 _ _ rfl
instance Split_c : Con 39 (∀ s sep : List UInt8, s.length ≤ 4294967280 ∧ 1 ≤ sep.length → Fn 39 [Z s, Z sep] [] (SL (splitL s sep))) := ⟨fun s sep hn => by
  have hbs : bsA (splitL s sep) = Go.Lib.splitB ⟨sep.toArray⟩ 0 (Go.Lib.countB ⟨s.toArray⟩ ⟨sep.toArray⟩) ⟨s.toArray⟩ := by
    unfold bsA splitL
    rw [List.map_map]
    conv => rhs; rw [← List.map_id (Go.Lib.splitB _ _ _ _)]
    rfl
  have hlen := splitL_len s sep hn.2
  have hle := Go.Lib.countB_le ⟨sep.toArray⟩ (by rw [ba_size]; exact hn.2) s.length ⟨s.toArray⟩ (by rw [ba_size]; exact Nat.le_refl _)
  rw [ba_size] at hle
  have hul : ((bsA (splitL s sep)).map Value.string).length = (splitL s sep).length := by simp
  have h := FnC.of_callsN (P := Tryd.prog) (f := 39) (args := [Z s, Z sep]) (e := 9) (us := (bsA (splitL s sep)).map Value.string) (cs := strs (splitL s sep)) ⟨_, Tryd.func39, rfl, by decide +kernel⟩ (fun _ _ _ _ => lrel_mstrs _) (by rw [hul, hlen]; simp only [maxLen]; omega) fun w S vs hS hg hl => by
    cases hl with
    | sc h =>
      cases h with
      | sc h =>
        cases h
        obtain ⟨m, hm⟩ := glb_max hg
        refine (strings_Split ⟨s.toArray⟩ ⟨sep.toArray⟩ m w (by rw [ba_size]; omega) hm (by rw [ba_size]; omega)).mono fun e w' he => ?_
        obtain ⟨he, hw⟩ := he
        rw [hul, hlen, hbs]
        exact ⟨he, hw⟩
  rw [hul] at h
  exact h⟩
end Go.Proofs.YtkckmenalehdpaaDoor


namespace Go.Proofs.YtkckmenalehdpaaDoor
open Go Go.Abs
theorem mark_step {α : Type} (f : Nat → α) (l : List α) (i : Nat) (h : i < l.length) : ((List.range i).map f ++ l.drop i).set i (f i) = (List.range (i + 1)).map f ++ l.drop (i + 1) := by
  rw [List.set_append_right _ _ (by simp), List.range_succ, List.drop_eq_getElem_cons h]; simp; rw [List.drop_eq_getElem_cons h]; rfl
theorem held_step {α : Type} (f : Nat → α) (z : α) (l : List α) (i : Nat) (h : i < l.length) (h1 : l.take i = (List.range i).map f) (h2 : l.getD i z = f i) : l.take (i + 1) = (List.range (i + 1)).map f := by
  rw [List.take_succ_eq_append_getElem h, h1, List.range_succ]; simp [h] at h2 ⊢; exact h2
theorem held_not {α : Type} (f : Nat → α) (z : α) (l : List α) (i : Nat) (h : i < l.length) (h2 : ¬ l.getD i z = f i) : ¬ l = (List.range l.length).map f := by
  intro e; apply h2; rw [e]; simp [h]
abbrev IN (l : List Int) : AObj := ⟨ints l, 0, 1, none⟩
abbrev HdA (w h q : Int) (b d : Bool) (l : List Int) : AV := .agg [I w, I h, I q, B b, B d, IL l]
def bn (b : Blok) : Nat := b.2.length
def bw (l : List Blok) : Nat := l.length + (l.map bn).sum
end Go.Proofs.YtkckmenalehdpaaDoor


namespace Go.Proofs.YtkckmenalehdpaaDoor
open Go Go.Abs
attribute [local irreducible] WpA WpL Rnd Blk Abs.Seq Abs.Fin Abs.FinG FnC FnG Only
def stepX (q : Int) : Int := IntKind.i64.wrap (([8, 9, 10, 11, 13, 14] : List Int).getD (q % 6).toNat 0 * 2 ^ (q / 6).toNat)
theorem stepX_bd (q : Int) (h : 0 ≤ q ∧ q ≤ 51) : 8 ≤ stepX q ∧ stepX q ≤ 4000 := by
  have key : ∀ k : Fin 52, 8 ≤ stepX k.val ∧ stepX k.val ≤ 4000 := by decide
  obtain ⟨k, rfl⟩ : ∃ k : Nat, q = k := ⟨q.toNat, by omega⟩
  exact key ⟨k, by omega⟩
def stepL (q : Int) : Int := if 0 ≤ q ∧ q ≤ 51 then stepX q / 8 else 0
theorem stepL_in (q : Int) (h : 0 ≤ q ∧ q ≤ 51) : 1 ≤ stepL q ∧ stepL q ≤ 500 := by
  have := stepX_bd q h
  rw [stepL, if_pos h]; omega
theorem stepL_pos (q : Int) : 0 < stepL q ↔ 0 ≤ q ∧ q ≤ 51 := by
  by_cases h : 0 ≤ q ∧ q ≤ 51
  · have := stepL_in q h; constructor <;> intro _ <;> omega
  · rw [stepL, if_neg h]; constructor <;> intro _ <;> omega
instance StepOf_s : Con 45 (∀ q : Int, Fn 45 [I q] [] (I (stepL q))) := ⟨fun q => by
  refine FnC.of_body tabOk Tryd.func45 Tryd.ntmps45 rfl (by decide +kernel) (by simp) fun G => ?_
  have hx := stepX_bd q
  unfold stepX at hx
  refine go (r := ?_); and_intros <;> intros <;> try exact True.intro
  all_goals first | (rw [stepL, if_neg (by assumption)]; done) | (rw [stepL, if_pos (by assumption)]; rfl)⟩
def cw (n : Int) : Int := if 0 < n then 2 ^ (7 - n).toNat else 0
theorem cw_wrap (n : Int) (h : 0 ≤ n ∧ n ≤ 7) (h0 : n > 0) : IntKind.i64.wrap (1 * 2 ^ (7 - n).toNat) = cw n ∧ 1 ≤ cw n ∧ cw n ≤ 64 := by
  have key : ∀ k : Fin 8, 0 < k.val → IntKind.i64.wrap (1 * 2 ^ (7 - (k.val : Int)).toNat) = cw k.val ∧ 1 ≤ cw k.val ∧ cw k.val ≤ 64 := by decide
  obtain ⟨k, rfl⟩ : ∃ k : Nat, n = k := ⟨n.toNat, by omega⟩
  exact key ⟨k, by omega⟩ (show 0 < k by omega)
def csum (l : List Int) : Int := (l.map cw).sum
theorem csum_snoc (l : List Int) (k : Nat) (h : k < l.length) : csum (l.take (k + 1)) = csum (l.take k) + cw (l.getD k 0) := by
  unfold csum; rw [List.take_succ_eq_append_getElem h, List.map_append, List.sum_append]; simp [h]
def CodeOk (l : List Int) : Prop := In l 0 7 ∧ l.length = 6 ∧ csum l = 128
instance (l : List Int) : Decidable (CodeOk l) := by unfold CodeOk; infer_instance
instance CodeOk_s : Con 46 (∀ l : List Int, l.length ≤ 1099511627776 → Fn 46 [IL l] [] (B (decide (CodeOk l)))) := ⟨fun l hl => by
  refine FnC.of_body tabOk Tryd.func46 Tryd.ntmps46 rfl (by decide +kernel) (by simp) fun G => ?_
  refine go (r := ?_); and_intros <;> intros <;> try exact True.intro
  refine WpA.loop (fun k : Nat => ⟨[(0, IL l), (3, I (csum (l.take k))), (4, I k)], []⟩) (fun k => k ≤ l.length ∧ In (l.take k) 0 7 ∧ 0 ≤ csum (l.take k) ∧ csum (l.take k) ≤ 64 * k) (fun k => l.length - k) 0 (by simp [in_nil, csum]) (go (r := ?_)) (fun k hk => ?_)
  · simp [csum]
  have hs := fun h => csum_snoc l k h
  have hi := fun h => in_snoc (lo := 0) (hi := 7) (l := l) (k := k) h
  have hw := cw_wrap (l.getD k 0)
  have hw0 : ¬ l.getD k 0 > 0 → cw (l.getD k 0) = 0 := fun h => by unfold cw; rw [if_neg (by omega)]
  refine go (r := ?_); and_intros <;> intros <;> try exact True.intro
  · have := notin (k := k) (by omega) ‹¬ (0 ≤ l.getD k 0 ∧ _)›; rw [eq_comm, decide_eq_false_iff_not] at *; exact fun h => this h.1
  · rw [hi (by omega)]; exact ⟨hk.2.1, ‹_›⟩
  · rw [hi (by omega)]; exact ⟨hk.2.1, ‹_›⟩
  all_goals have e : k = l.length := by omega
  all_goals subst e
  all_goals rw [List.take_length] at *
  · have h6 : l.length = 6 := by omega
    simp [CodeOk, hk.2.1, h6]
  · have h6 : ¬ l.length = 6 := by omega
    simp [CodeOk, h6]⟩
instance CodeOk_c : Con 49 (∀ l : List Int, l.length ≤ 1099511627776 → Fn 49 [IL l] [] (B (decide (CodeOk l)))) := ⟨fun l hl => by
  refine FnC.of_body tabOk Tryd.func49 Tryd.ntmps49 rfl (by decide +kernel) (by simp) fun G => ?_
  refine go (r := ?_); and_intros <;> intros <;> try exact True.intro
  refine WpA.loop (fun k : Nat => ⟨[(0, IL l), (3, I (csum (l.take k))), (6, IL l), (7, I l.length), (8, I k)], []⟩) (fun k => k ≤ l.length ∧ In (l.take k) 0 7 ∧ 0 ≤ csum (l.take k) ∧ csum (l.take k) ≤ 64 * k) (fun k => l.length - k) 0 (by simp [in_nil, csum]) (go (r := ?_)) (fun k hk => ?_)
  · simp [csum]
  have hs := fun h => csum_snoc l k h
  have hi := fun h => in_snoc (lo := 0) (hi := 7) (l := l) (k := k) h
  have hw := cw_wrap (l.getD k 0)
  have hw0 : ¬ l.getD k 0 > 0 → cw (l.getD k 0) = 0 := fun h => by unfold cw; rw [if_neg (by omega)]
  refine go (r := ?_); and_intros <;> intros <;> try exact True.intro
  · have := notin (k := k) (by omega) ‹¬ (0 ≤ l.getD k 0 ∧ _)›; rw [eq_comm, decide_eq_false_iff_not] at *; exact fun h => this h.1
  · rw [hi (by omega)]; exact ⟨hk.2.1, ‹_›⟩
  · rw [hi (by omega)]; exact ⟨hk.2.1, ‹_›⟩
  all_goals have e : k = l.length := by omega
  all_goals subst e
  all_goals rw [List.take_length] at *
  · have h6 : l.length = 6 := by omega
    simp [CodeOk, hk.2.1, h6]
  · have h6 : ¬ l.length = 6 := by omega
    simp [CodeOk, h6]⟩
def cIn (w : Int) (l : List Int) : Nat → List Int × Int → List Int × Int
  | 0, s => s
  | i + 1, s => if l.getD i 0 = w then ((cIn w l i s).1.set i (cIn w l i s).2, (cIn w l i s).2 + 1) else cIn w l i s
def cOut (l : List Int) : Nat → List Int × Int
  | 0 => (List.replicate l.length (-1), 0)
  | w + 1 => cIn ((w : Int) + 1) l l.length ((cOut l w).1, (cOut l w).2 * 2)
def codes (l : List Int) : List Int := (cOut l 7).1
def bitOk (n w : Int) : Prop := (0 ≤ w ∧ w ≤ 48) ∧ 0 ≤ n ∧ n / 2 ^ w.toNat = 0
instance (n w : Int) : Decidable (bitOk n w) := by unfold bitOk; infer_instance
def OptOk (q : Int) (l : List Int) : Prop := (0 ≤ q ∧ q ≤ 51) ∧ CodeOk l
instance (q : Int) (l : List Int) : Decidable (OptOk q l) := by unfold OptOk; infer_instance
end Go.Proofs.YtkckmenalehdpaaDoor


namespace Go.Proofs.YtkckmenalehdpaaDoor
open Go Go.Abs
def Dn (l : List Int) (w : Int) (i m : Nat) : Prop := (1 ≤ l.getD m 0 ∧ l.getD m 0 < w) ∨ (l.getD m 0 = w ∧ m < i)
def hit (c l : List Int) (m : Nat) (v : Int) : Prop := c.getD m 0 * cw (l.getD m 0) ≤ v ∧ v < (c.getD m 0 + 1) * cw (l.getD m 0)
structure J (l : List Int) (w p : Int) (i : Nat) (s : List Int × Int) : Prop where
  len : s.1.length = l.length
  lo : 0 ≤ s.2
  cod : ∀ m, m < l.length → Dn l w i m → 0 ≤ s.1.getD m 0 ∧ (s.1.getD m 0 + 1) * cw (l.getD m 0) ≤ s.2 * p
  cov : ∀ v, 0 ≤ v → v < s.2 * p → ∃ m, m < l.length ∧ Dn l w i m ∧ hit s.1 l m v
  uni : ∀ m m' v, m < l.length → m' < l.length → Dn l w i m → Dn l w i m' → hit s.1 l m v → hit s.1 l m' v → m = m'
theorem getD_set (c : List Int) (i m : Nat) (v : Int) (h : i < c.length) : (c.set i v).getD m 0 = if m = i then v else c.getD m 0 := by
  rw [List.getD_eq_getElem?_getD, List.getElem?_set]
  by_cases e : i = m
  · subst e; simp [h]
  · have : ¬ m = i := fun h => e h.symm
    simp [e, this]
theorem J.step {l : List Int} {w p : Int} {i : Nat} {s : List Int × Int} (h : J l w p i s) (hi : i < l.length) (hp : cw w = p) (hp0 : 0 < p) (hw : 1 ≤ w) :
    J l w p (i + 1) (if l.getD i 0 = w then (s.1.set i s.2, s.2 + 1) else s) := by
  by_cases e : l.getD i 0 = w
  · rw [if_pos e]
    have hl := h.len
    have hmul : (s.2 + 1) * p = s.2 * p + p := by rw [Int.add_mul, Int.one_mul]
    have hD : ∀ m, Dn l w (i + 1) m ↔ Dn l w i m ∨ m = i := by
      intro m; unfold Dn; constructor
      · rintro (h | ⟨h1, h2⟩)
        · exact .inl (.inl h)
        · by_cases hm : m = i
          · exact .inr hm
          · exact .inl (.inr ⟨h1, by omega⟩)
      · rintro ((h | ⟨h1, h2⟩) | rfl)
        · exact .inl h
        · exact .inr ⟨h1, by omega⟩
        · exact .inr ⟨e, by omega⟩
    have hne : ∀ m, Dn l w i m → m ≠ i := by
      rintro m (h | ⟨_, h⟩) rfl
      · omega
      · omega
    have hg : ∀ m, (s.1.set i s.2).getD m 0 = if m = i then s.2 else s.1.getD m 0 := fun m => getD_set s.1 i m s.2 (by omega)
    have hhit : ∀ m v, m ≠ i → (hit (s.1.set i s.2) l m v ↔ hit s.1 l m v) := by intro m v hm; unfold hit; rw [hg, if_neg hm]
    have hhi : ∀ v, hit (s.1.set i s.2) l i v ↔ s.2 * p ≤ v ∧ v < s.2 * p + p := by intro v; unfold hit; rw [hg, if_pos rfl, e, hp, hmul]
    refine ⟨by simp [hl], by have := h.lo; simp only; omega, fun m hm hd => ?_, fun v h0 hv => ?_, fun m m' v hm hm' hd hd' h1 h2 => ?_⟩
    · show 0 ≤ (s.1.set i s.2).getD m 0 ∧ ((s.1.set i s.2).getD m 0 + 1) * _ ≤ (s.2 + 1) * p
      rw [hg, hmul]
      rcases (hD m).1 hd with hd | rfl
      · rw [if_neg (hne m hd)]; have := h.cod m hm hd; omega
      · rw [if_pos rfl, e, hp, hmul]; have := h.lo; omega
    · have hv : v < (s.2 + 1) * p := hv
      rw [hmul] at hv
      by_cases hlt : v < s.2 * p
      · obtain ⟨m, h1, h2, h3⟩ := h.cov v h0 hlt
        exact ⟨m, h1, (hD m).2 (.inl h2), (hhit m v (hne m h2)).2 h3⟩
      · exact ⟨i, hi, (hD i).2 (.inr rfl), (hhi v).2 ⟨by omega, hv⟩⟩
    · rcases (hD m).1 hd with d1 | rfl <;> rcases (hD m').1 hd' with d2 | e2
      · exact h.uni m m' v hm hm' d1 d2 ((hhit m v (hne m d1)).1 h1) ((hhit m' v (hne m' d2)).1 h2)
      · subst e2
        have a := (hhit m v (hne m d1)).1 h1
        have b := (hhi v).1 h2
        have c := h.cod m hm d1
        unfold hit at a; omega
      · have a := (hhit m' v (hne m' d2)).1 h2
        have b := (hhi v).1 h1
        have c := h.cod m' hm' d2
        unfold hit at a; omega
      · exact e2.symm
  · rw [if_neg e]
    have hD : ∀ m, Dn l w (i + 1) m ↔ Dn l w i m := by
      intro m; unfold Dn; constructor
      · rintro (h | ⟨h1, h2⟩)
        · exact .inl h
        · refine .inr ⟨h1, ?_⟩
          have : m ≠ i := by rintro rfl; exact e h1
          omega
      · rintro (h | ⟨h1, h2⟩)
        · exact .inl h
        · exact .inr ⟨h1, by omega⟩
    exact ⟨h.len, h.lo, fun m hm hd => h.cod m hm ((hD m).1 hd), fun v h0 hv => by
      obtain ⟨m, h1, h2, h3⟩ := h.cov v h0 hv
      exact ⟨m, h1, (hD m).2 h2, h3⟩, fun m m' v hm hm' hd hd' => h.uni m m' v hm hm' ((hD m).1 hd) ((hD m').1 hd')⟩
end Go.Proofs.YtkckmenalehdpaaDoor


namespace Go.Proofs.YtkckmenalehdpaaDoor
open Go Go.Abs
attribute [local irreducible] WpA WpL Rnd Blk Abs.Seq Abs.Fin Abs.FinG FnC FnG Only
def HasC (l : List Int) (m : Int) : Prop := CodeOk l ∧ (0 ≤ m ∧ m ≤ 5) ∧ l.getD m.toNat 0 ≠ 0
instance (l : List Int) (m : Int) : Decidable (HasC l m) := by unfold HasC; infer_instance
end Go.Proofs.YtkckmenalehdpaaDoor


namespace Go.Proofs.YtkckmenalehdpaaDoor
open Go Go.Abs
attribute [local irreducible] WpA WpL Rnd Blk Abs.Seq Abs.Fin Abs.FinG FnC FnG Only
end Go.Proofs.YtkckmenalehdpaaDoor


namespace Go.Proofs.YtkckmenalehdpaaDoor
open Go Go.Abs
attribute [local irreducible] WpA WpL Rnd Blk Abs.Seq Abs.Fin Abs.FinG FnC FnG Only
end Go.Proofs.YtkckmenalehdpaaDoor


namespace Go.Proofs.YtkckmenalehdpaaDoor
open Go Go.Abs
attribute [local irreducible] WpA WpL Rnd Blk Abs.Seq Abs.Fin Abs.FinG FnC FnG Only
abbrev HdOk (w h q : Int) (l : List Int) : Prop := SidesOk w h ∧ (0 ≤ q ∧ q ≤ 51) ∧ CodeOk l
instance HeaderOk_s : Con 21 (∀ (w h q : Int) (b d : Bool) (l : List Int), l.length ≤ 1099511627776 → Fn 21 [HdA w h q b d l] [] (B (decide (HdOk w h q l)))) := ⟨fun w h q b d l hl => by
  have hs := stepL_pos q
  refine FnC.of_body tabOk Tryd.func21 Tryd.ntmps21 rfl (by decide +kernel) (by simp) fun G => ?_
  refine go (r := ?_); and_intros <;> intros <;> try exact True.intro
  all_goals simp_all⟩
instance HeaderOk_c : Con 25 (∀ (w h q : Int) (b d : Bool) (l : List Int), l.length ≤ 1099511627776 → Fn 25 [HdA w h q b d l] [] (B (decide (HdOk w h q l)))) := ⟨fun w h q b d l hl => by
  refine FnC.of_body tabOk Tryd.func25 Tryd.ntmps25 rfl (by decide +kernel) (by simp) fun G => ?_
  refine go (r := ?_); and_intros <;> intros <;> try exact True.intro
  all_goals simp_all⟩
end Go.Proofs.YtkckmenalehdpaaDoor


namespace Go.Abs
open Go
section
variable {P : Program} {n m : Nat} {G : Ctx} {ops : Array Oper} {T0 : List (Nat × AV)} {O : List AObj} {fs fs2 out : List (Nat × AV)} {o : Oper} {l : List Oper} {d : Nat} {F : List (Nat × AV)}
theorem WpA.regionMG {l l1 l2 : List Oper} {id : Nat} {T1 : List (Nat × AV)} {Q : Exit → St → Prop} (k : Nat) (hm : P.follows .mixedOrders = true) (hB : mixB l.toArray k = true)
    (hl : takeF k l = some l1) (hJ : HeadJ P n m G l.toArray T0 O [] l1 out) (hnd : TrueB (nodupB (out.map (·.1)))) (hfr : TrueB (out.all fun p => !has T0 p.1))
    (hT1 : catF out T0 = some T1) (h2 : l.drop k = l2) (h : WpL P n m G false l.toArray l2 ⟨T1, O⟩ Q) : WpA P n m G (.region id l.toArray true) ⟨T0, O⟩ Q := by
  have := takeF_eq hl; subst this; subst h2
  exact WpA.regionM k hm hB hJ hnd.e hfr.e (catF_eq hT1) h
end
end Go.Abs
namespace Go.Abs.K
open Go Go.Abs
section
variable {P : Program} {n m : Nat} {G : Ctx} {ops : Array Oper} {T0 : List (Nat × AV)} {O : List AObj} {fs out : List (Nat × AV)} {l : List Oper} {dd : Option Nat} {tt : TypeId} {pos : String} {after : Array Edge} {gd : Option (Nat × Bool)}
end
end Go.Abs.K


namespace Go.Abs
open Go
section
variable {P : Program} {n m : Nat} {G : Ctx} {T : List (Nat × AV)} {O : List AObj} {Q : Exit → St → Prop} {ops : Array Oper} {l : List Oper} {d : Nat} {tt : TypeId} {pos : String} {after : Array Edge}
inductive KeepL : List AV → List AV → Prop
  | nil : KeepL [] []
  | any {V vs us} : KeepL vs us → KeepL (V :: vs) (.any :: us)
  | keep {V vs us} : V.still = true → V.nofre = true → KeepL vs us → KeepL (V :: vs) (V :: us)
  | agg {ds es vs us} : KeepL ds es → KeepL vs us → KeepL (.agg ds :: vs) (.agg es :: us)
theorem KeepL.rel {S : Nat → Prop} {w : World} {ι ι' : Nat → Spot} {vs us : List AV} (h : KeepL vs us) : ∀ {xs f}, LRel S w ι O vs xs f → LRel S w ι' [] us xs [] := by
  induction h with
  | nil => intro xs f hl; cases hl; exact .nil
  | any _ ih =>
    intro xs f hl
    obtain ⟨v, vs', f1, f2, rfl, hv, hr, rfl⟩ := hl.uncons
    exact .any (ih hr)
  | keep hs hn _ ih =>
    intro xs f hl
    obtain ⟨v, vs', f1, f2, rfl, hv, hr, rfl⟩ := hl.uncons
    have := nofre_nil hv hn
    subst this
    have := LRel.cons (still_any hv hs [] (fun _ h => h) (fun _ _ => rfl) (by simp)) (ih hr)
    simpa using this
  | agg _ _ ih1 ih2 =>
    intro xs f hl
    obtain ⟨v, vs', f1, f2, rfl, hv, hr, rfl⟩ := hl.uncons
    obtain ⟨us', rfl, ha⟩ := LRel.agg_inv hv
    have := LRel.agg (ih1 ha) (ih2 hr)
    simpa using this
theorem WpL.callK {f : FuncId} {xs : List Operand} {ats : Array TypeId} {As : List AV} {r : AV} (hc : FnC P f As [] r) (hs : KeepL (xs.map (av T)) As) (hn : d < n) (h : WpL P n m G false ops l ⟨(d, r) :: T, O⟩ Q) :
    WpL P n m G false ops ({ dst := some d, op := .call { callee := .value (.func f), args := xs.toArray, argTypes := ats }, type := tt, pos := pos, after := after, guard := none } :: l) ⟨T, O⟩ Q :=
  WpL.op rfl (fun a w hr => by
    obtain ⟨S, ι, F, hr⟩ := hr
    obtain ⟨⟨fn, hf, hb, hnm⟩, hcall⟩ := hc
    have hl : LRel S w (fun _ => none) [] As (xs.map a.eval) [] := hs.rel (hr.evals xs)
    have hex : (execOp a.eval { dst := some d, op := .call { callee := .value (.func f), args := xs.toArray, argTypes := ats }, type := tt, pos := pos, after := after, guard := none }).run P w = .ok (.enter f (xs.map a.eval).toArray) w := by
      simp only [execOp, resolve, Act.eval, Deferred.ofValue, invoke, callFunc, Sem.run_bind, Sem.run_pure, Result.andThen_ok, program, Sem.run, hf, hnm, hb, Bool.false_eq_true, if_false]
      simp
    unfold Oper.wp
    rw [hex]
    refine (hcall w S (xs.map a.eval) hr.stable hr.glb hl).mono fun e w' he => ?_
    obtain ⟨v, S', ι', F', rfl, hS1, hS2, hS3, hO', hF', hv, hk⟩ := he
    show Rel n m G ⟨(d, r) :: T, O⟩ (a.put (some d) v) w'
    have hold : ∀ b, b < w.heap.size → w'.heap[b]? = w.heap[b]? := fun b hb => hk.block b hb (fun h => h)
    have hlat : Later S w ι O S' w' ι O := ⟨hS1, fun b hb => hold b (hr.stable b hb), fun id ob h => ⟨ob, h, .inr ⟨rfl, rfl, rfl⟩⟩⟩
    have hrel : RelAt n m G S' ι F ⟨T, O⟩ a w' := by
      refine ⟨hr.defers, hr.size, fun t => (hr.tmps t).mono hlat (by simp), ⟨fun id ob h => ?_, hr.objs.nodup, hr.objs.apart⟩, fun id h b hb => ?_, ⟨fun b hb => hS1 b (hr.base.1 b hb), fun b hb => ?_⟩, hS3, ?_, hr.spots, hr.mle⟩
      · have h : O[id]? = some ob := h
        have hlt : id < O.length := (List.getElem?_eq_some_iff.1 h).1
        have ho := hr.objs.obj id ob h
        unfold ObjAt at ho ⊢
        cases hs : ι id with
        | none => rw [hs] at ho; exact ho
        | some p =>
          obtain ⟨b, k⟩ := p
          rw [hs] at ho
          obtain ⟨cur', t', fz', f2, h1, h2, h3, h4, h5, h6, h7⟩ := ho
          have key : ∀ b', b' ∈ F id → w'.heap[b']? = w.heap[b']? := fun b' hb' => hold b' (hr.foot id hlt b' hb').2.2
          exact ⟨cur', t', fz', f2, h1, by rw [key b (by rw [h1]; simp)]; exact h2, h3, h4, h5, h6, h7.mono hlat fun b' hb' => key b' (by rw [h1]; simp [hb'])⟩
      · obtain ⟨q1, q2, q3⟩ := hr.foot id h b hb
        refine ⟨q1, fun h' => ?_, by have := hk.size; omega⟩
        rcases hS2 b h' with h2 | h2
        · exact q2 h2
        · omega
      · rcases hS2 b hb with h2 | h2
        · exact hr.base.2 b h2
        · exact .inr (by have := hr.keeps.size; omega)
      · exact ⟨hk.os.trans hr.keeps.os, hk.tape.trans hr.keeps.tape, hk.output.trans hr.keeps.output, by have := hr.keeps.size; have := hk.size; omega, fun b hb hM => by
          rw [hold b (by have := hr.keeps.size; omega)]; exact hr.keeps.block b hb hM⟩
    exact ⟨S', ι, F, hrel.put hn (hv.mono (Later.none O (fun _ h => h) (fun _ _ => rfl)) (by simp))⟩) h
end
theorem Snap.relG {O : List AObj} {S S2 : Nat → Prop} {w : World} {ι ι' : Nat → Spot} {vs us : List AV} (h : Snap O vs us) : ∀ {F xs f}, ORel S w ι O F → (∀ b, S b → S2 b) → (∀ id, id < O.length → ∀ b ∈ F id, S2 b) → (∀ b ∈ f, S2 b) → LRel S w ι O vs xs f → LRel S2 w ι' [] us xs [] := by
  induction h with
  | nil => intro F xs f _ _ _ _ hl; cases hl; exact .nil
  | any _ ih =>
    intro F xs f ho hS hF hf hl
    obtain ⟨v, vs', f1, f2, rfl, hv, hr, rfl⟩ := hl.uncons
    exact .any (ih ho hS hF (fun b hb => hf b (List.mem_append_right _ hb)) hr)
  | keep hs hn _ ih =>
    intro F xs f ho hS hF hf hl
    obtain ⟨v, vs', f1, f2, rfl, hv, hr, rfl⟩ := hl.uncons
    have := nofre_nil hv hn
    subst this
    have := LRel.cons (still_any hv hs [] hS (fun _ _ => rfl) (by simp)) (ih ho hS hF (fun b hb => hf b (List.mem_append_right _ hb)) hr)
    simpa using this
  | fn _ _ ih1 ih2 =>
    intro F xs f ho hS hF hf hl
    obtain ⟨v, vs', f1, f2, rfl, hv, hr, rfl⟩ := hl.uncons
    cases hv with | fn a r => cases r; exact .fn (ih1 ho hS hF (by simp) a) (ih2 ho hS hF (fun b hb => hf b (List.mem_append_right _ hb)) hr)
  | nilI _ ih =>
    intro F xs f ho hS hF hf hl
    obtain ⟨v, vs', f1, f2, rfl, hv, hr, rfl⟩ := hl.uncons
    have := (LRel.slice_len hv).2.2 rfl
    subst this
    exact .imm0 (by simp) (ih ho hS hF (fun b hb => hf b (List.mem_append_right _ hb)) hr)
  | @own id ep len len' sz ob es vs us hob hep hsz hlen hll _ _ ih1 ih2 =>
    intro F xs f ho hS hF hf hl
    subst hll hsz
    obtain ⟨v, vs', f1, f2, rfl, hv, hr, rfl⟩ := hl.uncons
    have hr2 := ih2 ho hS hF (fun b hb => hf b (List.mem_append_right _ hb)) hr
    have hidl := (List.getElem?_eq_some_iff.1 hob).1
    have hoa := ho.obj id ob hob
    unfold ObjAt at hoa
    cases hv with
    | own q1 q2 q3 r =>
      rw [hob] at q1; cases q1
      have hc := q3 hep.symm
      cases hs : ι id with
      | none =>
        rw [hs] at hc hoa
        obtain ⟨h1, _, h3⟩ := hc
        subst h1; subst h3
        have : es = [] := by
          have := ih1 (xs := []) (f := []) ho hS hF (by simp) (by rw [hoa.1]; exact .nil)
          cases this; rfl
        subst this
        exact .imm0 (by simp) hr2
      | some p =>
        obtain ⟨b, k⟩ := p
        rw [hs] at hc hoa
        obtain ⟨cap, h1, _, h3, h4⟩ := hc
        obtain ⟨cur, t, fz, f', hFe, hh, _, _, _, _, hl'⟩ := hoa
        subst h1
        have hi := ih1 ho hS hF (fun b' hb' => hF id hidl b' (by rw [hFe]; simp [hb'])) hl'
        refine .imm (us := cur.toList.take ob.cells.length) (hF id hidl b (by rw [hFe]; simp)) (fun i hi => cell_of_heap hh _ i hi) hi ?_ h3 h4 hr2
        rw [hlen, hl'.len, hi.len]
  | @ownO id ep off len len' sz ob ds es vs us hob hep hsz hds hlen hll _ _ ih1 ih2 =>
    intro F xs f ho hS hF hf hl
    subst hll hsz hds
    obtain ⟨v, vs', f1, f2, rfl, hv, hr, rfl⟩ := hl.uncons
    have hr2 := ih2 ho hS hF (fun b hb => hf b (List.mem_append_right _ hb)) hr
    have hidl := (List.getElem?_eq_some_iff.1 hob).1
    have hoa := ho.obj id ob hob
    unfold ObjAt at hoa
    cases hv with
    | own q1 q2 q3 r =>
      rw [hob] at q1; cases q1
      have hc := q3 hep.symm
      cases hs : ι id with
      | none =>
        rw [hs] at hc hoa
        obtain ⟨h1, h2, h3⟩ := hc
        subst h1; subst h3
        have : es = [] := by
          have := ih1 (xs := []) (f := []) ho hS hF (by simp) (by rw [hoa.1]; simpa using .nil)
          cases this; rfl
        subst this
        exact .imm0 (by simp) hr2
      | some p =>
        obtain ⟨b, k⟩ := p
        rw [hs] at hc hoa
        obtain ⟨cap, h1, _, h3, h4⟩ := hc
        obtain ⟨cur, t, fz, f', hFe, hh, _, _, _, _, hl'⟩ := hoa
        subst h1
        obtain ⟨g, hld, hgm, _⟩ := hl'.drop off
        have hi := ih1 ho hS hF (fun b' hb' => hF id hidl b' (by rw [hFe]; simp [hgm b' hb'])) hld
        refine .imm (us := (cur.toList.take ob.cells.length).drop off) (hF id hidl b (by rw [hFe]; simp)) (fun i hi => ?_) hi ?_ h3 h4 hr2
        · have := cell_of_heap hh ob.cells.length (off + i) (by simp only [List.length_drop] at hi; omega)
          rw [Nat.zero_add] at this
          rw [this, List.getElem?_drop]
        · rw [hlen, hld.len, hi.len]
  | @fre s l ds es vs us _ _ ih1 ih2 =>
    intro F xs f ho hS hF hf hl
    obtain ⟨v, vs', f1, f2, rfl, hv, hr, rfl⟩ := hl.uncons
    have hr2 := ih2 ho hS hF (fun b hb => hf b (List.mem_append_right _ hb)) hr
    cases hv with
    | fre0 r =>
      have := ih1 (xs := []) (f := []) ho hS hF (by simp) .nil
      cases this
      exact .imm0 (by simp) hr2
    | @fre _ _ b _ cap cur t fz _ us' f' _ _ _ hh0 hsz hu hl' h1 h2 h3 r =>
      have hh := hh0.1
      cases r
      have hi := ih1 ho hS hF (fun b' hb' => hf b' (by simp [hb'])) hl'.lift
      subst hu
      refine .imm (us := cur.toList.take ds.length) (hf b (by simp)) (fun i hi => cell_of_heap hh _ i hi) hi ?_ h2 h3 hr2
      rw [h1, hl'.len, hi.len]
  | @ptr id ep off ob es vs us hob hep _ _ ih1 ih2 =>
    intro F xs f ho hS hF hf hl
    obtain ⟨v, vs', f1, f2, rfl, hv, hr, rfl⟩ := hl.uncons
    have hr2 := ih2 ho hS hF (fun b hb => hf b (List.mem_append_right _ hb)) hr
    have hidl := (List.getElem?_eq_some_iff.1 hob).1
    have hoa := ho.obj id ob hob
    unfold ObjAt at hoa
    cases hv with
    | ptr q1 q2 q3 r =>
      rw [hob] at q1; cases q1
      have hc := q3 hep.symm
      cases hs : ι id with
      | none => rw [hs] at hc; exact hc.elim
      | some p =>
        obtain ⟨b, k⟩ := p
        rw [hs] at hc hoa
        obtain ⟨cur, t, fz, f', hFe, hh, _, _, _, _, hl'⟩ := hoa
        have h1 : _ = Value.pointer (some ⟨b, off, none⟩) := hc
        subst h1
        have := LRel.iptr (O := []) (ι := ι') (off := off) (S := S2) (us := cur.toList.take ob.cells.length) (hF id hidl b (by rw [hFe]; simp)) (fun i hi => cell_of_heap hh _ i hi) (ih1 ho hS hF (fun b' hb' => hF id hidl b' (by rw [hFe]; simp [hb'])) hl') hr2
        rwa [Nat.zero_add] at this
  | agg _ _ ih1 ih2 =>
    intro F xs f ho hS hF hf hl
    obtain ⟨v, vs', f1, f2, rfl, hv, hr, rfl⟩ := hl.uncons
    obtain ⟨us', rfl, ha⟩ := LRel.agg_inv hv
    have := LRel.agg (ih1 ho hS hF (fun b hb => hf b (List.mem_append_left _ hb)) ha) (ih2 ho hS hF (fun b hb => hf b (List.mem_append_right _ hb)) hr)
    simpa using this
theorem FnC.still {P : Program} {f : FuncId} {args : List AV} {N : List AObj} {r r' : AV} (hc : FnC P f args N r) (hs : Snap N [r] [r']) : FnC P f args [] r' := by
  refine ⟨hc.1, fun w S vs hS hg hl => (hc.2 w S vs hS hg hl).mono fun e w' he => ?_⟩
  obtain ⟨v, S', ι, F, rfl, h1, h2, h3, ho, hF, hv, hk⟩ := he
  refine ⟨v, fun b => S' b ∨ ∃ id, id < N.length ∧ b ∈ F id, fun _ => none, fun _ => [], rfl, fun b hb => .inl (h1 b hb), ?_, ?_, ⟨by simp, by simp, by simp⟩, by simp, ?_, hk⟩
  · rintro b (hb | ⟨id, hid, hb⟩)
    · exact h2 b hb
    · exact .inr (hF id hid b hb).1
  · rintro b (hb | ⟨id, hid, hb⟩)
    · exact h3 b hb
    · exact (hF id hid b hb).2.2
  · exact hs.relG ho (fun b hb => .inl hb) (fun id hid b hb => .inr ⟨id, hid, hb⟩) (by simp) hv
inductive FrzR (N : List AObj) : AV → AV → Prop
  | tup {rs rs' : List AV} : Snap N rs rs' → FrzR N (.tup rs) (.tup rs')
  | one {r r' : AV} : Snap N [r] [r'] → FrzR N r r'
theorem FrzR.rel {O : List AObj} {S S2 : Nat → Prop} {w : World} {ι ι' : Nat → Spot} {F : Nat → List Nat} {r r' : AV} {v : Value} (h : FrzR O r r') (ho : ORel S w ι O F) (hS : ∀ b, S b → S2 b) (hF : ∀ id, id < O.length → ∀ b ∈ F id, S2 b) (hl : VRel S w ι O r v []) : VRel S2 w ι' [] r' v [] := by
  cases h with
  | tup hs =>
    obtain ⟨us, rfl, hl'⟩ := LRel.tup_inv hl
    have h9 : LRel S2 w ι' [] _ us [] := hs.relG ho hS hF (by simp) hl'
    have := LRel.tup h9 .nil
    simpa using this
  | one hs => exact hs.relG ho hS hF (by simp) hl
section
variable {P : Program} {n m : Nat} {G : Ctx} {T : List (Nat × AV)} {O : List AObj} {Q : Exit → St → Prop} {ops : Array Oper} {l : List Oper} {d : Nat} {tt : TypeId} {pos : String} {after : Array Edge}
end
end Go.Abs


namespace Go.Proofs.YtkckmenalehdpaaDoor
open Go Go.Abs
theorem inG {X : Prop} (h : X := by
  (repeat' (first
     | refine fun hgo => ?_
     | exact Only.mk rfl
     | refine WpL.nil ?_
     | (refine K.L ?_; first
       | (refine K.gd ?_; first
         | refine K.gT rfl (by decide) rfl ?_
         | refine K.gF rfl (by decide) rfl ?_)
       | (refine K.mv ?_; refine WpL.move rfl (by decide) ?_)
       | (refine K.asg ?_; refine WpL.assign rfl (by decide) ?_)
       | (refine K.bin ?_; first
         | refine WpL.add rfl rfl (by omega) (by decide) ?_
         | refine WpL.sub rfl rfl (by omega) (by decide) ?_
         | refine WpL.quo rfl rfl (by omega) (by decide) ?_
         | refine WpL.rem rfl rfl (by omega) (by decide) ?_
         | refine WpL.bin rfl rfl rfl (by decide) ?_
         | refine WpL.strAdd rfl rfl (by first | omega | (simp only [List.length_append]; omega) | (simp; omega)) (by decide) ?_
         | refine WpL.strEq rfl rfl (by decide) ?_
         | refine WpL.strNe rfl rfl (by decide) ?_
         | refine WpL.boolNe (K.tyBool tabOk rfl) rfl rfl (by decide) ?_
         | refine WpL.ifcNe tabOk rfl rfl (by decide) ?_
         | refine WpL.nifNe tabOk rfl rfl (by decide) ?_
         | refine WpL.shl rfl rfl (by first | decide | (simp only [IntKind.bits]; omega)) (by decide) ?_)
       | (refine K.ld ?_; first
         | refine WpL.loadInts tabOk rfl rfl rfl (by first | omega | (simp; omega)) (by decide) ?_
         | refine WpL.loadStrs tabOk rfl rfl rfl (by first | omega | (simp; omega)) (by decide) ?_
         | refine WpL.load1 tabOk rfl rfl rfl rfl rfl (by decide) ?_
         | refine WpL.loadAgg (ds := [_]) tabOk rfl rfl rfl rfl rfl (by decide) ?_
         | refine WpL.loadAgg (ds := [_, _]) tabOk rfl rfl rfl rfl rfl (by decide) ?_
         | refine WpL.loadAgg (ds := [_, _, _]) tabOk rfl rfl rfl rfl rfl (by decide) ?_
         | refine WpL.loadAgg (ds := [_, _, _, _]) tabOk rfl rfl rfl rfl rfl (by decide) ?_
         | refine WpL.loadAgg (ds := [_, _, _, _, _]) tabOk rfl rfl rfl rfl rfl (by decide) ?_
         | refine WpL.loadAgg (ds := [_, _, _, _, _, _]) tabOk rfl rfl rfl rfl rfl (by decide) ?_
         | refine WpL.loadAgg (ds := [_, _, _, _, _, _, _]) tabOk rfl rfl rfl rfl rfl (by decide) ?_
         | refine WpL.loadAgg (ds := [_, _, _, _, _, _, _, _]) tabOk rfl rfl rfl rfl rfl (by decide) ?_)
       | (refine K.fld ?_; first
         | refine WpL.fieldP tabOk rfl rfl rfl rfl rfl (by decide) ?_)
       | (refine K.ixa ?_; first
         | refine WpL.idxI1 tabOk rfl rfl rfl (by omega) (by decide) ?_
         | refine WpL.idxIJ tabOk rfl rfl rfl (by omega) (by decide) ?_
         | refine WpL.idxOJ tabOk rfl rfl rfl rfl rfl (by omega) (by decide) ?_
         | refine WpL.idxI tabOk rfl rfl rfl (by omega) (by decide) ?_
         | refine WpL.idxO tabOk rfl rfl rfl rfl rfl (by omega) (by decide) ?_)
       | (refine K.call ?_; refine K.con (fun hcon => ?_); first
         | (refine WpL.callF (hcon ?_) snapA locA outA rfl rfl rfl (by decide) ?_ <;> clear hcon)
         | (refine WpL.callF (hcon) snapA locA outA rfl rfl rfl (by decide) ?_ <;> clear hcon)
         | (refine WpL.callF (hcon _ ?_) snapA locA outA rfl rfl rfl (by decide) ?_ <;> clear hcon)
         | (refine WpL.callF (hcon _) snapA locA outA rfl rfl rfl (by decide) ?_ <;> clear hcon)
         | (refine WpL.callF (hcon _ _ ?_) snapA locA outA rfl rfl rfl (by decide) ?_ <;> clear hcon)
         | (refine WpL.callF (hcon _ _) snapA locA outA rfl rfl rfl (by decide) ?_ <;> clear hcon)
         | (refine WpL.callF (hcon _ _ _ ?_) snapA locA outA rfl rfl rfl (by decide) ?_ <;> clear hcon)
         | (refine WpL.callF (hcon _ _ _) snapA locA outA rfl rfl rfl (by decide) ?_ <;> clear hcon)
         | (refine WpL.callF (hcon _ _ _ _ ?_) snapA locA outA rfl rfl rfl (by decide) ?_ <;> clear hcon)
         | (refine WpL.callF (hcon _ _ _ _) snapA locA outA rfl rfl rfl (by decide) ?_ <;> clear hcon)
         | (refine WpL.callF (hcon _ _ _ _ _ ?_) snapA locA outA rfl rfl rfl (by decide) ?_ <;> clear hcon)
         | (refine WpL.callF (hcon _ _ _ _ _) snapA locA outA rfl rfl rfl (by decide) ?_ <;> clear hcon)
         | (refine WpL.callF (hcon _ _ _ _ _ _ ?_) snapA locA outA rfl rfl rfl (by decide) ?_ <;> clear hcon)
         | (refine WpL.callF (hcon _ _ _ _ _ _) snapA locA outA rfl rfl rfl (by decide) ?_ <;> clear hcon)
         | (refine WpL.callF (hcon _ _ _ _ _ _ _ ?_) snapA locA outA rfl rfl rfl (by decide) ?_ <;> clear hcon)
         | (refine WpL.callF (hcon _ _ _ _ _ _ _) snapA locA outA rfl rfl rfl (by decide) ?_ <;> clear hcon)
         | (refine WpL.callF (hcon _ _ _ _ _ _ _ _ ?_) snapA locA outA rfl rfl rfl (by decide) ?_ <;> clear hcon)
         | (refine WpL.callF (hcon _ _ _ _ _ _ _ _) snapA locA outA rfl rfl rfl (by decide) ?_ <;> clear hcon)
         | (refine WpL.callF (hcon _ _ _ _ _ _ _ _ _ ?_) snapA locA outA rfl rfl rfl (by decide) ?_ <;> clear hcon)
         | (refine WpL.callF (hcon _ _ _ _ _ _ _ _ _) snapA locA outA rfl rfl rfl (by decide) ?_ <;> clear hcon)
         | (refine WpL.callF (hcon _ _ _ _ _ _ _ _ _ _ ?_) snapA locA outA rfl rfl rfl (by decide) ?_ <;> clear hcon)
         | (refine WpL.callF (hcon _ _ _ _ _ _ _ _ _ _) snapA locA outA rfl rfl rfl (by decide) ?_ <;> clear hcon)
         | (refine WpL.callF (hcon _ _ _ _ _ _ _ _ _ _ _ ?_) snapA locA outA rfl rfl rfl (by decide) ?_ <;> clear hcon)
         | (refine WpL.callF (hcon _ _ _ _ _ _ _ _ _ _ _) snapA locA outA rfl rfl rfl (by decide) ?_ <;> clear hcon)
         | (refine WpL.callF (hcon _ _ _ _ _ _ _ _ _ _ _ _ ?_) snapA locA outA rfl rfl rfl (by decide) ?_ <;> clear hcon)
         | (refine WpL.callF (hcon _ _ _ _ _ _ _ _ _ _ _ _) snapA locA outA rfl rfl rfl (by decide) ?_ <;> clear hcon)
         | (refine WpL.callF (hcon _ _ _ _ _ _ _ _ _ _ _ _ _ ?_) snapA locA outA rfl rfl rfl (by decide) ?_ <;> clear hcon)
         | (refine WpL.callF (hcon _ _ _ _ _ _ _ _ _ _ _ _ _) snapA locA outA rfl rfl rfl (by decide) ?_ <;> clear hcon)
         | (refine WpL.callF (hcon _ _ _ _ _ _ _ _ _ _ _ _ _ _ ?_) snapA locA outA rfl rfl rfl (by decide) ?_ <;> clear hcon)
         | (refine WpL.callF (hcon _ _ _ _ _ _ _ _ _ _ _ _ _ _) snapA locA outA rfl rfl rfl (by decide) ?_ <;> clear hcon)
         | (refine WpL.callF (hcon _ _ _ _ _ _ _ _ _ _ _ _ _ _ _ ?_) snapA locA outA rfl rfl rfl (by decide) ?_ <;> clear hcon)
         | (refine WpL.callF (hcon _ _ _ _ _ _ _ _ _ _ _ _ _ _ _) snapA locA outA rfl rfl rfl (by decide) ?_ <;> clear hcon)
         | (refine WpL.callF (hcon _ _ _ _ _ _ _ _ _ _ _ _ _ _ _ _ ?_) snapA locA outA rfl rfl rfl (by decide) ?_ <;> clear hcon)
         | (refine WpL.callF (hcon _ _ _ _ _ _ _ _ _ _ _ _ _ _ _ _) snapA locA outA rfl rfl rfl (by decide) ?_ <;> clear hcon)
         | (refine WpL.callF (hcon _ _ _ _ _ _ _ _ _ _ _ _ _ _ _ _ _ ?_) snapA locA outA rfl rfl rfl (by decide) ?_ <;> clear hcon)
         | (refine WpL.callF (hcon _ _ _ _ _ _ _ _ _ _ _ _ _ _ _ _ _) snapA locA outA rfl rfl rfl (by decide) ?_ <;> clear hcon)
         | (refine WpL.callF (hcon _ _ _ _ _ _ _ _ _ _ _ _ _ _ _ _ _ _ ?_) snapA locA outA rfl rfl rfl (by decide) ?_ <;> clear hcon)
         | (refine WpL.callF (hcon _ _ _ _ _ _ _ _ _ _ _ _ _ _ _ _ _ _) snapA locA outA rfl rfl rfl (by decide) ?_ <;> clear hcon))
       | (refine K.call ?_; refine K.conG (fun hcon => ?_); first
         | (refine WpL.callM (hs := [_]) (hcon ?_) handA handOA rfl rfl outA outA rfl rfl rfl rfl (by decide) ?_ <;> clear hcon)
         | (refine WpL.callM (hs := [_]) (hcon) handA handOA rfl rfl outA outA rfl rfl rfl rfl (by decide) ?_ <;> clear hcon)
         | (refine WpL.callM (hs := [_]) (hcon _ ?_) handA handOA rfl rfl outA outA rfl rfl rfl rfl (by decide) ?_ <;> clear hcon)
         | (refine WpL.callM (hs := [_]) (hcon _) handA handOA rfl rfl outA outA rfl rfl rfl rfl (by decide) ?_ <;> clear hcon)
         | (refine WpL.callM (hs := [_]) (hcon _ _ ?_) handA handOA rfl rfl outA outA rfl rfl rfl rfl (by decide) ?_ <;> clear hcon)
         | (refine WpL.callM (hs := [_]) (hcon _ _) handA handOA rfl rfl outA outA rfl rfl rfl rfl (by decide) ?_ <;> clear hcon)
         | (refine WpL.callM (hs := [_]) (hcon _ _ _ ?_) handA handOA rfl rfl outA outA rfl rfl rfl rfl (by decide) ?_ <;> clear hcon)
         | (refine WpL.callM (hs := [_]) (hcon _ _ _) handA handOA rfl rfl outA outA rfl rfl rfl rfl (by decide) ?_ <;> clear hcon)
         | (refine WpL.callM (hs := [_]) (hcon _ _ _ _ ?_) handA handOA rfl rfl outA outA rfl rfl rfl rfl (by decide) ?_ <;> clear hcon)
         | (refine WpL.callM (hs := [_]) (hcon _ _ _ _) handA handOA rfl rfl outA outA rfl rfl rfl rfl (by decide) ?_ <;> clear hcon)
         | (refine WpL.callM (hs := [_]) (hcon _ _ _ _ _ ?_) handA handOA rfl rfl outA outA rfl rfl rfl rfl (by decide) ?_ <;> clear hcon)
         | (refine WpL.callM (hs := [_]) (hcon _ _ _ _ _) handA handOA rfl rfl outA outA rfl rfl rfl rfl (by decide) ?_ <;> clear hcon)
         | (refine WpL.callM (hs := [_]) (hcon _ _ _ _ _ _ ?_) handA handOA rfl rfl outA outA rfl rfl rfl rfl (by decide) ?_ <;> clear hcon)
         | (refine WpL.callM (hs := [_]) (hcon _ _ _ _ _ _) handA handOA rfl rfl outA outA rfl rfl rfl rfl (by decide) ?_ <;> clear hcon)
         | (refine WpL.callM (hs := [_]) (hcon _ _ _ _ _ _ _ ?_) handA handOA rfl rfl outA outA rfl rfl rfl rfl (by decide) ?_ <;> clear hcon)
         | (refine WpL.callM (hs := [_]) (hcon _ _ _ _ _ _ _) handA handOA rfl rfl outA outA rfl rfl rfl rfl (by decide) ?_ <;> clear hcon)
         | (refine WpL.callM (hs := [_]) (hcon _ _ _ _ _ _ _ _ ?_) handA handOA rfl rfl outA outA rfl rfl rfl rfl (by decide) ?_ <;> clear hcon)
         | (refine WpL.callM (hs := [_]) (hcon _ _ _ _ _ _ _ _) handA handOA rfl rfl outA outA rfl rfl rfl rfl (by decide) ?_ <;> clear hcon)
         | (refine WpL.callM (hs := [_, _]) (hcon ?_) handA handOA rfl rfl outA outA rfl rfl rfl rfl (by decide) ?_ <;> clear hcon)
         | (refine WpL.callM (hs := [_, _]) (hcon) handA handOA rfl rfl outA outA rfl rfl rfl rfl (by decide) ?_ <;> clear hcon)
         | (refine WpL.callM (hs := [_, _]) (hcon _ ?_) handA handOA rfl rfl outA outA rfl rfl rfl rfl (by decide) ?_ <;> clear hcon)
         | (refine WpL.callM (hs := [_, _]) (hcon _) handA handOA rfl rfl outA outA rfl rfl rfl rfl (by decide) ?_ <;> clear hcon)
         | (refine WpL.callM (hs := [_, _]) (hcon _ _ ?_) handA handOA rfl rfl outA outA rfl rfl rfl rfl (by decide) ?_ <;> clear hcon)
         | (refine WpL.callM (hs := [_, _]) (hcon _ _) handA handOA rfl rfl outA outA rfl rfl rfl rfl (by decide) ?_ <;> clear hcon)
         | (refine WpL.callM (hs := [_, _]) (hcon _ _ _ ?_) handA handOA rfl rfl outA outA rfl rfl rfl rfl (by decide) ?_ <;> clear hcon)
         | (refine WpL.callM (hs := [_, _]) (hcon _ _ _) handA handOA rfl rfl outA outA rfl rfl rfl rfl (by decide) ?_ <;> clear hcon)
         | (refine WpL.callM (hs := [_, _]) (hcon _ _ _ _ ?_) handA handOA rfl rfl outA outA rfl rfl rfl rfl (by decide) ?_ <;> clear hcon)
         | (refine WpL.callM (hs := [_, _]) (hcon _ _ _ _) handA handOA rfl rfl outA outA rfl rfl rfl rfl (by decide) ?_ <;> clear hcon)
         | (refine WpL.callM (hs := [_, _]) (hcon _ _ _ _ _ ?_) handA handOA rfl rfl outA outA rfl rfl rfl rfl (by decide) ?_ <;> clear hcon)
         | (refine WpL.callM (hs := [_, _]) (hcon _ _ _ _ _) handA handOA rfl rfl outA outA rfl rfl rfl rfl (by decide) ?_ <;> clear hcon)
         | (refine WpL.callM (hs := [_, _]) (hcon _ _ _ _ _ _ ?_) handA handOA rfl rfl outA outA rfl rfl rfl rfl (by decide) ?_ <;> clear hcon)
         | (refine WpL.callM (hs := [_, _]) (hcon _ _ _ _ _ _) handA handOA rfl rfl outA outA rfl rfl rfl rfl (by decide) ?_ <;> clear hcon)
         | (refine WpL.callM (hs := [_, _]) (hcon _ _ _ _ _ _ _ ?_) handA handOA rfl rfl outA outA rfl rfl rfl rfl (by decide) ?_ <;> clear hcon)
         | (refine WpL.callM (hs := [_, _]) (hcon _ _ _ _ _ _ _) handA handOA rfl rfl outA outA rfl rfl rfl rfl (by decide) ?_ <;> clear hcon)
         | (refine WpL.callM (hs := [_, _]) (hcon _ _ _ _ _ _ _ _ ?_) handA handOA rfl rfl outA outA rfl rfl rfl rfl (by decide) ?_ <;> clear hcon)
         | (refine WpL.callM (hs := [_, _]) (hcon _ _ _ _ _ _ _ _) handA handOA rfl rfl outA outA rfl rfl rfl rfl (by decide) ?_ <;> clear hcon)
         | (refine WpL.callM (hs := [_, _, _]) (hcon ?_) handA handOA rfl rfl outA outA rfl rfl rfl rfl (by decide) ?_ <;> clear hcon)
         | (refine WpL.callM (hs := [_, _, _]) (hcon) handA handOA rfl rfl outA outA rfl rfl rfl rfl (by decide) ?_ <;> clear hcon)
         | (refine WpL.callM (hs := [_, _, _]) (hcon _ ?_) handA handOA rfl rfl outA outA rfl rfl rfl rfl (by decide) ?_ <;> clear hcon)
         | (refine WpL.callM (hs := [_, _, _]) (hcon _) handA handOA rfl rfl outA outA rfl rfl rfl rfl (by decide) ?_ <;> clear hcon)
         | (refine WpL.callM (hs := [_, _, _]) (hcon _ _ ?_) handA handOA rfl rfl outA outA rfl rfl rfl rfl (by decide) ?_ <;> clear hcon)
         | (refine WpL.callM (hs := [_, _, _]) (hcon _ _) handA handOA rfl rfl outA outA rfl rfl rfl rfl (by decide) ?_ <;> clear hcon)
         | (refine WpL.callM (hs := [_, _, _]) (hcon _ _ _ ?_) handA handOA rfl rfl outA outA rfl rfl rfl rfl (by decide) ?_ <;> clear hcon)
         | (refine WpL.callM (hs := [_, _, _]) (hcon _ _ _) handA handOA rfl rfl outA outA rfl rfl rfl rfl (by decide) ?_ <;> clear hcon)
         | (refine WpL.callM (hs := [_, _, _]) (hcon _ _ _ _ ?_) handA handOA rfl rfl outA outA rfl rfl rfl rfl (by decide) ?_ <;> clear hcon)
         | (refine WpL.callM (hs := [_, _, _]) (hcon _ _ _ _) handA handOA rfl rfl outA outA rfl rfl rfl rfl (by decide) ?_ <;> clear hcon)
         | (refine WpL.callM (hs := [_, _, _]) (hcon _ _ _ _ _ ?_) handA handOA rfl rfl outA outA rfl rfl rfl rfl (by decide) ?_ <;> clear hcon)
         | (refine WpL.callM (hs := [_, _, _]) (hcon _ _ _ _ _) handA handOA rfl rfl outA outA rfl rfl rfl rfl (by decide) ?_ <;> clear hcon)
         | (refine WpL.callM (hs := [_, _, _]) (hcon _ _ _ _ _ _ ?_) handA handOA rfl rfl outA outA rfl rfl rfl rfl (by decide) ?_ <;> clear hcon)
         | (refine WpL.callM (hs := [_, _, _]) (hcon _ _ _ _ _ _) handA handOA rfl rfl outA outA rfl rfl rfl rfl (by decide) ?_ <;> clear hcon)
         | (refine WpL.callM (hs := [_, _, _]) (hcon _ _ _ _ _ _ _ ?_) handA handOA rfl rfl outA outA rfl rfl rfl rfl (by decide) ?_ <;> clear hcon)
         | (refine WpL.callM (hs := [_, _, _]) (hcon _ _ _ _ _ _ _) handA handOA rfl rfl outA outA rfl rfl rfl rfl (by decide) ?_ <;> clear hcon)
         | (refine WpL.callM (hs := [_, _, _]) (hcon _ _ _ _ _ _ _ _ ?_) handA handOA rfl rfl outA outA rfl rfl rfl rfl (by decide) ?_ <;> clear hcon)
         | (refine WpL.callM (hs := [_, _, _]) (hcon _ _ _ _ _ _ _ _) handA handOA rfl rfl outA outA rfl rfl rfl rfl (by decide) ?_ <;> clear hcon)
         | (refine WpL.callM (hs := [_, _, _, _]) (hcon ?_) handA handOA rfl rfl outA outA rfl rfl rfl rfl (by decide) ?_ <;> clear hcon)
         | (refine WpL.callM (hs := [_, _, _, _]) (hcon) handA handOA rfl rfl outA outA rfl rfl rfl rfl (by decide) ?_ <;> clear hcon)
         | (refine WpL.callM (hs := [_, _, _, _]) (hcon _ ?_) handA handOA rfl rfl outA outA rfl rfl rfl rfl (by decide) ?_ <;> clear hcon)
         | (refine WpL.callM (hs := [_, _, _, _]) (hcon _) handA handOA rfl rfl outA outA rfl rfl rfl rfl (by decide) ?_ <;> clear hcon)
         | (refine WpL.callM (hs := [_, _, _, _]) (hcon _ _ ?_) handA handOA rfl rfl outA outA rfl rfl rfl rfl (by decide) ?_ <;> clear hcon)
         | (refine WpL.callM (hs := [_, _, _, _]) (hcon _ _) handA handOA rfl rfl outA outA rfl rfl rfl rfl (by decide) ?_ <;> clear hcon)
         | (refine WpL.callM (hs := [_, _, _, _]) (hcon _ _ _ ?_) handA handOA rfl rfl outA outA rfl rfl rfl rfl (by decide) ?_ <;> clear hcon)
         | (refine WpL.callM (hs := [_, _, _, _]) (hcon _ _ _) handA handOA rfl rfl outA outA rfl rfl rfl rfl (by decide) ?_ <;> clear hcon)
         | (refine WpL.callM (hs := [_, _, _, _]) (hcon _ _ _ _ ?_) handA handOA rfl rfl outA outA rfl rfl rfl rfl (by decide) ?_ <;> clear hcon)
         | (refine WpL.callM (hs := [_, _, _, _]) (hcon _ _ _ _) handA handOA rfl rfl outA outA rfl rfl rfl rfl (by decide) ?_ <;> clear hcon)
         | (refine WpL.callM (hs := [_, _, _, _]) (hcon _ _ _ _ _ ?_) handA handOA rfl rfl outA outA rfl rfl rfl rfl (by decide) ?_ <;> clear hcon)
         | (refine WpL.callM (hs := [_, _, _, _]) (hcon _ _ _ _ _) handA handOA rfl rfl outA outA rfl rfl rfl rfl (by decide) ?_ <;> clear hcon)
         | (refine WpL.callM (hs := [_, _, _, _]) (hcon _ _ _ _ _ _ ?_) handA handOA rfl rfl outA outA rfl rfl rfl rfl (by decide) ?_ <;> clear hcon)
         | (refine WpL.callM (hs := [_, _, _, _]) (hcon _ _ _ _ _ _) handA handOA rfl rfl outA outA rfl rfl rfl rfl (by decide) ?_ <;> clear hcon)
         | (refine WpL.callM (hs := [_, _, _, _]) (hcon _ _ _ _ _ _ _ ?_) handA handOA rfl rfl outA outA rfl rfl rfl rfl (by decide) ?_ <;> clear hcon)
         | (refine WpL.callM (hs := [_, _, _, _]) (hcon _ _ _ _ _ _ _) handA handOA rfl rfl outA outA rfl rfl rfl rfl (by decide) ?_ <;> clear hcon)
         | (refine WpL.callM (hs := [_, _, _, _]) (hcon _ _ _ _ _ _ _ _ ?_) handA handOA rfl rfl outA outA rfl rfl rfl rfl (by decide) ?_ <;> clear hcon)
         | (refine WpL.callM (hs := [_, _, _, _]) (hcon _ _ _ _ _ _ _ _) handA handOA rfl rfl outA outA rfl rfl rfl rfl (by decide) ?_ <;> clear hcon))
       | (refine K.call ?_; refine K.conB (fun hcon => ?_); first
         | (refine WpL.callB (hcon _ _ _ _ _ _ _ _) snapA locA outA locA outA rfl rfl rfl rfl rfl (by decide) ?_ ?_ <;> clear hcon))
       | (refine K.call ?_; refine K.conP (fun hcon => ?_); first
         | (refine WpL.callP (hs := [_]) (hcon _ _ _ _ _ _ _ _ _ _) (by assumption) handA handOA rfl rfl (.cons rfl (.sc (.sc (.sc .nil))) .nil) outA rfl rfl rfl rfl (by decide) ?_ <;> clear hcon))
       | (refine K.ix ?_; first
         | refine WpL.idxStr1 tabOk rfl rfl rfl (by omega) (by decide) (fun hgo => ?_)
         | refine WpL.idxStrB tabOk rfl rfl rfl (by omega) (by decide) (fun hgo => ?_))
       | (refine K.bi ?_; first
         | (refine K.blen ?_; first
           | refine WpL.lenImm (TabOk.slice tabOk rfl).1 rfl (by decide) ?_
           | refine WpL.lenOwn (TabOk.slice tabOk rfl).1 rfl rfl rfl (by decide) ?_
           | refine WpL.lenStr (K.tyStr tabOk rfl) rfl (by decide) ?_)
         | (refine K.bapp ?_; first
           | refine WpL.app1Ints tabOk rfl rfl rfl (by first | exact Nat.zero_le _ | exact Nat.le_of_ble_eq_true rfl) rfl rfl (by first | rfl | omega | (simp; done) | (simp; omega)) (by omega) (by decide) ?_
           | refine WpL.app1Strs tabOk rfl rfl rfl (by first | exact Nat.zero_le _ | exact Nat.le_of_ble_eq_true rfl) rfl rfl (by first | rfl | omega | (simp; done) | (simp; omega)) (by omega) (by decide) ?_
           | refine WpL.appOwn tabOk rfl rfl rfl rfl rfl rfl (by simp) (by first | exact Nat.zero_le _ | exact Nat.le_of_ble_eq_true rfl) rfl rfl (by simp) (by simp [all_ints, all_u8s, all_strs, oneB, Value.oneCell']) (by omega) (by decide) ?_))
       | (refine K.un ?_; first
         | refine WpL.not rfl (by decide) ?_
         | refine WpL.neg rfl (by omega) (by decide) ?_)
       | (refine K.pick ?_; first
         | refine WpL.pickT rfl rfl (by decide) ?_
         | refine WpL.pickF rfl rfl (by decide) ?_)
       | (refine K.bld ?_; refine WpL.build tabOk rfl rfl (by kernel_rfl) (by decide) ?_)
       | (refine K.ext ?_; refine WpL.extract rfl rfl (by first | decide | simp [AV.shL]) (by decide) ?_)
       | (refine K.cv ?_; first
         | refine WpL.convI (P := Tryd.prog) (by rfl) (K.tyInt tabOk rfl) rfl (by omega) (by decide) ?_
         | refine WpL.conv (P := Tryd.prog) (by rfl) (K.tyInt tabOk rfl) rfl (by decide) ?_
         | refine WpL.ofBytes tabOk rfl rfl rfl rfl rfl (by simp) (by decide) ?_)
       | (refine K.lit ?_; first
         | refine WpL.lit0Ints tabOk rfl rfl rfl (by decide) ?_
         | refine WpL.litInts tabOk rfl rfl rfl rfl rfl (by decide) rfl (by decide) ?_
         | refine WpL.litU8s tabOk rfl rfl rfl rfl rfl (by decide) rfl (by decide) ?_
         | refine WpL.litStrs tabOk rfl rfl rfl rfl rfl (by decide) rfl (by decide) ?_
         | refine WpL.litF tabOk rfl rfl rfl rfl (by decide) rfl (by decide) ?_)
       | (refine K.st ?_; first
         | refine WpL.storeInts tabOk rfl rfl rfl rfl rfl (by first | omega | (simp; omega)) ?_
         | refine WpL.storeS tabOk rfl rfl rfl rfl rfl rfl rfl rfl (by first | decide | omega | (simp; omega) | (simp; done)) (by first | (simp only [Go.Abs.setL, List.set_cons_zero, List.set_cons_succ, Nat.zero_add, Nat.reduceAdd]; exact rfl) | exact rfl) ?_)
       | (refine K.all ?_; first
         | refine WpL.allocStruct tabOk rfl rfl (by decide) ?_)
       | (refine K.box ?_; refine WpL.box rfl rfl rfl (by decide) ?_)
       | (refine K.sl ?_; first
         | refine WpL.subStrHi tabOk rfl rfl rfl (by omega) (by decide) ?_
         | refine WpL.subStr tabOk rfl rfl (by first | exact .inl ⟨rfl, rfl⟩ | exact .inr ⟨_, _, rfl, rfl⟩) (by first | exact .inl ⟨rfl, rfl⟩ | exact .inr ⟨_, _, rfl, rfl⟩) (by omega) (by decide) ?_
         | refine WpL.subImm tabOk rfl rfl (by first | exact .inl ⟨rfl, rfl⟩ | exact .inr ⟨_, _, rfl, rfl⟩) (by first | exact .inl ⟨rfl, rfl⟩ | exact .inr ⟨_, _, rfl, rfl⟩) (by omega) (by decide) ?_))
     | (refine K.le ?_; first | omega | (simp; omega) | assumption)
     | (refine K.lt ?_; first | omega | (simp; omega) | assumption)
     | refine And.intro ?_ ?_
     | omega
     | assumption
     | (simp; done)))
  first | done | fail) : X := h
theorem headG {X : Prop} (h : X := by
  (repeat' (first
  | exact Abs.HeadJ.nil
  | (apply HeadJ.consF rfl
     · exact rfl
     · exact inG
     · exact rfl)))
  first | done | fail) : X := h
end Go.Proofs.YtkckmenalehdpaaDoor


namespace Go.Proofs.YtkckmenalehdpaaDoor
open Go Go.Abs
attribute [local irreducible] WpA WpL Rnd Blk Abs.Seq Abs.Fin Abs.FinG FnC FnG Only Go.Lib.itoa
def digL (l : List Int) : List UInt8 := l.flatMap decL
theorem digL_take (l : List Int) (k : Nat) (h : k < l.length) : digL (l.take (k + 1)) = digL (l.take k) ++ decL (l.getD k 0) := by
  rw [List.take_succ_eq_append_getElem h]; simp only [digL, List.flatMap_append, List.flatMap_cons, List.flatMap_nil, List.append_nil]; simp [h]
theorem digL_len {l : List Int} (h : ∀ v ∈ l, I64 v) : (digL l).length ≤ 21 * l.length := by
  induction l with
  | nil => simp [digL]
  | cons v l ih =>
    have h1 := ih fun x hx => h x (by simp [hx])
    have h2 := decL_len v (h v (by simp))
    simp only [digL, List.flatMap_cons, List.length_append, List.length_cons] at h1 ⊢; omega
instance digits_c : Con 28 (∀ l : List Int, l.length ≤ 4294967296 ∧ In l 0 9 → Fn 28 [IL l] [] (Z (digL l))) := ⟨fun l hn => by
  refine FnC.of_body tabOk Tryd.func28 Tryd.ntmps28 rfl (by decide +kernel) (by simp) fun G => ?_
  refine go (r := ?_); and_intros <;> intros <;> try exact True.intro
  refine WpA.loop (fun x : Nat × List UInt8 => ⟨[(3, Z x.2), (6, IL l), (7, I l.length), (8, I x.1)], []⟩) (fun x => x.1 ≤ l.length ∧ x.2 = digL (l.take x.1)) (fun x => l.length - x.1) (0, []) ⟨by simp only; omega, rfl⟩ (go (r := trivial)) (fun x hx => ?_)
  obtain ⟨k, u⟩ := x
  obtain ⟨hx1, hx2⟩ := hx
  simp only at hx1 hx2 ⊢
  have hall : ∀ v ∈ l, I64 v := fun v hv => by
    have h := hn.2
    unfold In at h
    have := h v hv
    exact ⟨by omega, by omega⟩
  have hul : u.length ≤ 21 * 4294967296 := by
    rw [hx2]
    have h1 := digL_len (l := l.take k) fun v hv => hall v (List.mem_of_mem_take hv)
    rw [List.length_take] at h1; omega
  by_cases hk : k < l.length
  · have hv := hall (l.getD k 0) (by simp [hk])
    have hvl := decL_len _ hv
    refine go (r := ?_); and_intros <;> intros <;> try exact True.intro
    exact Rnd.go (k + 1, u ++ decL (l.getD k 0)) ⟨by simp only; omega, by simp only; rw [digL_take l k hk, hx2]⟩ (by simp only; omega) (go (r := trivial))
  · refine go (r := ?_); and_intros <;> intros <;> try exact True.intro
    rw [hx2, show k = l.length from by omega, List.take_length]⟩
def bypassW : List UInt8 := [98, 121, 112, 97, 115, 115]
def deblockW : List UInt8 := [100, 101, 98, 108, 111, 99, 107]
instance l31Word_s : Con 23 (∀ (b : Bool) (s : List UInt8), s.length ≤ 1048576 → Fn 23 [B b, Z s] [] (Z (bif b then 32 :: s else []))) := ⟨fun b s hn => by
  refine FnC.of_body tabOk Tryd.func23 Tryd.ntmps23 rfl (by decide +kernel) (by simp) fun G => ?_
  refine go (r := ?_); and_intros <;> intros <;> try exact True.intro
  all_goals (rw [show b = _ from by assumption]; rfl)⟩
@[irreducible] def showH (w h q : Int) (b d : Bool) (l : List Int) : List UInt8 := if HdOk w h q l then decL w ++ [120] ++ decL h ++ [32, 113] ++ decL q ++ (bif b then 32 :: bypassW else []) ++ (bif d then 32 :: deblockW else []) ++ [32] ++ digL l else []
theorem codeIn {l : List Int} (h : CodeOk l) : In l 0 9 ∧ l.length = 6 := by
  obtain ⟨h1, h2, _⟩ := h
  refine ⟨?_, h2⟩
  unfold In at h1 ⊢
  intro v hv
  have := h1 v hv
  omega
instance ShowHeader_s : Con 7 (∀ (w h q : Int) (b d : Bool) (l : List Int), l.length ≤ 1048576 → Fn 7 [HdA w h q b d l] [] (Z (showH w h q b d l))) := ⟨fun w h q b d l hl => by
  refine FnC.of_body tabOk Tryd.func7 Tryd.ntmps7 rfl (by decide +kernel) (by simp) fun G => ?_
  refine goR (r := ?_); and_intros <;> intros <;> try exact True.intro
  · unfold showH; rw [if_neg (by assumption)]
  have ho : HdOk w h q l := by assumption
  have hw : I64 w := ⟨by have := ho.1.1; omega, by have := ho.1.2.1; omega⟩
  have hh : I64 h := ⟨by have := ho.1.2.2.1; omega, by have := ho.1.2.2.2.1; omega⟩
  have hq : I64 q := ⟨by have := ho.2.1; omega, by have := ho.2.1; omega⟩
  have hwl := decL_len w hw
  have hhl := decL_len h hh
  have hql := decL_len q hq
  have hbl : ([98, 121, 112, 97, 115, 115] : List UInt8).length = 6 := rfl
  have hdl : ([100, 101, 98, 108, 111, 99, 107] : List UInt8).length = 7 := rfl
  have hbl2 : (bif b then 32 :: [98, 121, 112, 97, 115, 115] else ([] : List UInt8)).length ≤ 7 := by cases b <;> simp
  have hdl2 : (bif d then 32 :: [100, 101, 98, 108, 111, 99, 107] else ([] : List UInt8)).length ≤ 8 := by cases d <;> simp
  apply WpA.regionMG 22 mixed (by decide +kernel)
  · exact rfl
  · exact headG
  · exact trueA
  · exact trueA
  · exact rfl
  · exact rfl
  refine go (r := ?_); and_intros <;> intros <;> try exact True.intro
  obtain ⟨h9, h6⟩ := codeIn ho.2.2
  have hall : ∀ v ∈ l, I64 v := fun v hv => by
    unfold In at h9
    have := h9 v hv
    exact ⟨by omega, by omega⟩
  generalize hp : decL w ++ [120] ++ decL h ++ [32, 113] ++ decL q ++ (bif b then 32 :: [98, 121, 112, 97, 115, 115] else []) ++ (bif d then 32 :: [100, 101, 98, 108, 111, 99, 107] else []) ++ [32] = pre
  have hpl : pre.length ≤ 128 := by rw [← hp]; simp only [List.length_append, List.length_cons, List.length_nil]; omega
  have hs : showH w h q b d l = pre ++ digL l := by unfold showH; rw [if_pos ho, ← hp]; rfl
  refine WpA.loop (fun x : Nat × List UInt8 => ⟨[(1, .ptr 0 0 0), (3, Z x.2), (4, I x.1)], [⟨[I w, I h, I q, B b, B d, IL l], 0, 0, none⟩]⟩) (fun x => x.1 ≤ l.length ∧ x.2 = pre ++ digL (l.take x.1)) (fun x => l.length - x.1) (0, pre) ⟨by simp only; omega, by simp [digL]⟩ (go (r := trivial)) (fun x hx => ?_)
  obtain ⟨k, u⟩ := x
  obtain ⟨hx1, hx2⟩ := hx
  simp only at hx1 hx2 ⊢
  have hul : u.length ≤ 1024 := by
    rw [hx2, List.length_append]
    have h1 := digL_len (l := l.take k) fun v hv => hall v (List.mem_of_mem_take hv)
    rw [List.length_take] at h1; omega
  by_cases hk : k < l.length
  · have hv := hall (l.getD k 0) (by simp [hk])
    have hvl := decL_len _ hv
    refine go (r := ?_); and_intros <;> intros <;> try exact True.intro
    exact Rnd.go (k + 1, u ++ decL (l.getD k 0)) ⟨by simp only; omega, by simp only; rw [digL_take l k hk, hx2, List.append_assoc]⟩ (by simp only; omega) (go (r := trivial))
  · refine go (r := ?_); and_intros <;> intros <;> try exact True.intro
    rw [hx2, hs, show k = l.length from by omega, List.take_length]⟩
end Go.Proofs.YtkckmenalehdpaaDoor


namespace Go.Proofs.YtkckmenalehdpaaDoor
open Go Go.Abs
attribute [local irreducible] Go.Lib.itoa
theorem index_at (c : UInt8) (r : List UInt8) : ∀ a : List UInt8, (∀ x ∈ a, x ≠ c) → Go.Lib.index (a ++ c :: r) [c] = (a.length : Nat)
  | [], _ => by rw [List.nil_append, Go.Lib.index]; simp [List.isPrefixOf]
  | b :: l, h => by
    have ih := index_at c r l fun x hx => h x (by simp [hx])
    have hb := h b (by simp)
    rw [List.cons_append, Go.Lib.index, ih]
    simp [List.isPrefixOf, Ne.symm hb]
theorem index_no (c : UInt8) : ∀ a : List UInt8, (∀ x ∈ a, x ≠ c) → Go.Lib.index a [c] = -1
  | [], _ => by rw [Go.Lib.index]; simp [List.isPrefixOf]
  | b :: l, h => by
    have ih := index_no c l fun x hx => h x (by simp [hx])
    have hb := h b (by simp)
    rw [Go.Lib.index, ih]
    simp [List.isPrefixOf, Ne.symm hb]
theorem drop_past (c : UInt8) (r : List UInt8) : ∀ a : List UInt8, (a ++ c :: r).drop (a.length + 1) = r
  | [] => rfl
  | _ :: a => drop_past c r a
theorem split_hit (c : UInt8) (a r : List UInt8) (h : ∀ x ∈ a, x ≠ c) : Go.Lib.split (a ++ c :: r) [c] = a :: Go.Lib.split r [c] := by
  have h0 : a.count c = 0 := List.count_eq_zero.2 fun hc => h c hc rfl
  have h1 : Go.Lib.count (a ++ c :: r) [c] = Go.Lib.count r [c] + 1 := by
    rw [Go.Lib.count_one, Go.Lib.count_one, List.count_append, h0, List.count_cons_self]; omega
  unfold Go.Lib.split
  rw [h1, Go.Lib.splitK, index_at c r a h, if_neg (by simp)]
  simp only [Int.toNat_natCast, Nat.add_zero, List.take_left', List.length_cons, List.length_nil, Nat.zero_add]
  rw [drop_past]
theorem split_miss (c : UInt8) (a : List UInt8) (h : ∀ x ∈ a, x ≠ c) : Go.Lib.split a [c] = [a] := by
  unfold Go.Lib.split
  cases Go.Lib.count a [c] with
  | zero => rfl
  | succ k => rw [Go.Lib.splitK, index_no c a h]; rfl
theorem cut_hit (c : UInt8) (a r : List UInt8) (h : ∀ x ∈ a, x ≠ c) : Go.Lib.cut (a ++ c :: r) [c] = (a, r, true) := by
  unfold Go.Lib.cut
  rw [index_at c r a h, if_pos (by omega)]
  simp only [Int.toNat_natCast, List.length_cons, List.length_nil, Nat.zero_add]
  rw [drop_past, List.take_left]
theorem trim_hit (c : UInt8) (a : List UInt8) : Go.Lib.trimPrefix (c :: a) [c] = a := by
  unfold Go.Lib.trimPrefix Go.Lib.hasPrefix
  simp [List.isPrefixOf]
theorem decL_fin : ∀ i : Fin 64, rdec (decL i.val) = some (i.val : Int) ∧ (decL i.val).all (fun x => decide (48 ≤ x.toNat ∧ x.toNat ≤ 57)) = true := by decide +kernel
theorem decL_dig : ∀ i : Fin 10, decL i.val = [UInt8.ofNat (48 + i.val)] := by decide +kernel
theorem decL_ok {v : Int} (h : 0 ≤ v ∧ v ≤ 63) : rdec (decL v) = some v ∧ ∀ x ∈ decL v, 48 ≤ x.toNat ∧ x.toNat ≤ 57 := by
  have := decL_fin ⟨v.toNat, by omega⟩
  simp only [Int.toNat_of_nonneg h.1] at this
  refine ⟨this.1, fun x hx => ?_⟩
  have h2 := List.all_eq_true.1 this.2 x hx
  simpa using h2
theorem no_of_dig {l : List UInt8} (h : ∀ x ∈ l, 48 ≤ x.toNat ∧ x.toNat ≤ 57) (c : UInt8) (hc : c.toNat < 48 ∨ 57 < c.toNat) : ∀ x ∈ l, x ≠ c := fun x hx e => by
  have := h x hx
  subst e; omega
def isD (x : UInt8) : Bool := decide (48 ≤ x.toNat ∧ x.toNat ≤ 57)
def subD (s : List UInt8) : List Int := s.map fun x => (x.toNat : Int) - 48
def rdg (s : List UInt8) : List Int := if s.all isD then subD s else []
theorem digL_map {l : List Int} (h : In l 0 9) : subD (digL l) = l ∧ (∀ x ∈ digL l, 48 ≤ x.toNat ∧ x.toNat ≤ 57) ∧ (digL l).length = l.length := by
  induction l with
  | nil => exact ⟨rfl, by simp [digL], rfl⟩
  | cons v l ih =>
    unfold In at h ih
    have hv := h v (by simp)
    obtain ⟨h1, h2, h3⟩ := ih fun x hx => h x (by simp [hx])
    have hd := decL_dig ⟨v.toNat, by omega⟩
    simp only [Int.toNat_of_nonneg hv.1] at hd
    have e : digL (v :: l) = UInt8.ofNat (48 + v.toNat) :: digL l := by show decL v ++ digL l = _; rw [hd]; rfl
    have et : (UInt8.ofNat (48 + v.toNat)).toNat = 48 + v.toNat := by rw [UInt8.toNat_ofNat']; omega
    rw [e]
    refine ⟨?_, ?_, by simp [h3]⟩
    · show (((UInt8.ofNat (48 + v.toNat)).toNat : Int) - 48) :: subD (digL l) = _
      rw [et, h1]; congr 1; omega
    · intro x hx
      rcases List.mem_cons.1 hx with rfl | hx
      · omega
      · exact h2 x hx
theorem rdg_digL {l : List Int} (h : In l 0 9) : rdg (digL l) = l := by
  obtain ⟨h1, h2, _⟩ := digL_map h
  unfold rdg
  rw [if_pos (List.all_eq_true.2 fun x hx => by have := h2 x hx; simp [isD, this])]
  exact h1
abbrev wds (s : List UInt8) : List (List UInt8) := splitL s [32]
def midW (ws : List (List UInt8)) : List (List UInt8) := (ws.drop 2).take (ws.length - 1 - 2)
def hW (s : List UInt8) : Int := (rdec (Go.Lib.cut ((wds s).getD 0 []) [120]).1).getD 0
def hH (s : List UInt8) : Int := (rdec (Go.Lib.cut ((wds s).getD 0 []) [120]).2.1).getD 0
def hQ (s : List UInt8) : Int := (rdec (Go.Lib.trimPrefix ((wds s).getD 1 []) [113])).getD 0
def hB (s : List UInt8) : Bool := (midW (wds s)).any fun x => decide (x = bypassW)
def hD (s : List UInt8) : Bool := (midW (wds s)).any fun x => decide (x = deblockW)
def hL (s : List UInt8) : List Int := rdg ((wds s).getD ((wds s).length - 1) [])
def RhOk (s : List UInt8) : Prop := 3 ≤ (wds s).length ∧ showH (hW s) (hH s) (hQ s) (hB s) (hD s) (hL s) = s
instance (s : List UInt8) : Decidable (RhOk s) := by unfold RhOk; infer_instance
theorem hd_nums {w h q : Int} {l : List Int} (ho : HdOk w h q l) : (0 ≤ w ∧ w ≤ 63) ∧ (0 ≤ h ∧ h ≤ 63) ∧ (0 ≤ q ∧ q ≤ 63) := by
  obtain ⟨⟨h1, h2, h3, h4, _⟩, h5, _⟩ := ho
  exact ⟨⟨by omega, by omega⟩, ⟨by omega, by omega⟩, ⟨by omega, by omega⟩⟩
theorem wds_show {w h q : Int} (b d : Bool) {l : List Int} (ho : HdOk w h q l) :
    wds (showH w h q b d l) = [decL w ++ 120 :: decL h, 113 :: decL q] ++ (bif b then [bypassW] else []) ++ (bif d then [deblockW] else []) ++ [digL l] := by
  obtain ⟨n1, n2, n3⟩ := hd_nums ho
  have d1 := (decL_ok n1).2
  have d2 := (decL_ok n2).2
  have d3 := (decL_ok n3).2
  obtain ⟨hi, _⟩ := codeIn ho.2.2
  have d4 := (digL_map hi).2.1
  have e0 : ∀ x ∈ decL w ++ 120 :: decL h, x ≠ 32 := fun x hx => by
    rcases List.mem_append.1 hx with hx | hx
    · exact no_of_dig d1 32 (by decide) x hx
    · rcases List.mem_cons.1 hx with rfl | hx
      · decide
      · exact no_of_dig d2 32 (by decide) x hx
  have e1 : ∀ x ∈ 113 :: decL q, x ≠ 32 := fun x hx => by
    rcases List.mem_cons.1 hx with rfl | hx
    · decide
    · exact no_of_dig d3 32 (by decide) x hx
  have e2 : ∀ x ∈ bypassW, x ≠ 32 := by decide
  have e3 : ∀ x ∈ deblockW, x ≠ 32 := by decide
  have e4 : ∀ x ∈ digL l, x ≠ 32 := no_of_dig d4 32 (by decide)
  have es : showH w h q b d l = (decL w ++ 120 :: decL h) ++ 32 :: ((113 :: decL q) ++ ((bif b then 32 :: bypassW else []) ++ (bif d then 32 :: deblockW else []) ++ 32 :: digL l)) := by
    unfold showH; rw [if_pos ho]; simp [List.append_assoc]
  unfold wds
  rw [splitL_split, es, split_hit 32 _ _ e0]
  cases b <;> cases d
  · simp only [cond_false, List.nil_append, List.append_nil]
    rw [split_hit 32 _ _ e1, split_miss 32 _ e4] <;> rfl
  · simp only [cond_false, cond_true, List.nil_append, List.cons_append]
    rw [← List.cons_append, split_hit 32 _ _ e1, split_hit 32 _ _ e3, split_miss 32 _ e4] <;> rfl
  · simp only [cond_false, cond_true, List.nil_append, List.cons_append, List.append_nil]
    rw [← List.cons_append, split_hit 32 _ _ e1, split_hit 32 _ _ e2, split_miss 32 _ e4] <;> rfl
  · simp only [cond_true, List.cons_append, List.append_assoc]
    rw [← List.cons_append, split_hit 32 _ _ e1, split_hit 32 _ _ e2, split_hit 32 _ _ e3, split_miss 32 _ e4] <;> rfl
theorem word_ne : bypassW ≠ deblockW := by decide
theorem cand_showH {w h q : Int} (b d : Bool) {l : List Int} (ho : HdOk w h q l) : 3 ≤ (wds (showH w h q b d l)).length ∧ hW (showH w h q b d l) = w ∧ hH (showH w h q b d l) = h ∧ hQ (showH w h q b d l) = q ∧ hB (showH w h q b d l) = b ∧ hD (showH w h q b d l) = d ∧ hL (showH w h q b d l) = l := by
  obtain ⟨n1, n2, n3⟩ := hd_nums ho
  have r1 := decL_ok n1
  have r2 := decL_ok n2
  have r3 := decL_ok n3
  obtain ⟨hi, _⟩ := codeIn ho.2.2
  have hd := rdg_digL hi
  have hw := wds_show b d ho
  have hcut : Go.Lib.cut (decL w ++ 120 :: decL h) [120] = (decL w, decL h, true) := cut_hit 120 _ _ (no_of_dig r1.2 120 (by decide))
  have htr : Go.Lib.trimPrefix (113 :: decL q) [113] = decL q := trim_hit 113 _
  unfold hW hH hQ hB hD hL
  rw [hw]
  cases b <;> cases d <;> simp [hcut, htr, r1.1, r2.1, r3.1, hd, midW, word_ne, Ne.symm word_ne]
def sp6 (s : List UInt8) : List Int := subD (s.drop (s.length - 6))
theorem wds_ne {s : List UInt8} (h : 3 ≤ (wds s).length) : s ≠ [] := fun e => by
  subst e
  revert h; decide +kernel
theorem showH_ok {w h q : Int} {b d : Bool} {l : List Int} {s : List UInt8} (he : showH w h q b d l = s) (hs : s ≠ []) : HdOk w h q l := by
  by_cases ho : HdOk w h q l
  · exact ho
  · unfold showH at he; rw [if_neg ho] at he; exact absurd he.symm hs
theorem rh_found {s : List UInt8} {w h q : Int} {b d : Bool} {l : List Int} (hs : s ≠ []) (he : showH w h q b d l = s) : RhOk s ∧ hW s = w ∧ hH s = h ∧ hQ s = q ∧ hB s = b ∧ hD s = d ∧ hL s = l := by
  have hc := cand_showH b d (showH_ok he hs)
  rw [he] at hc
  obtain ⟨h0, h1, h2, h3, h4, h5, h6⟩ := hc
  exact ⟨⟨h0, by rw [h1, h2, h3, h4, h5, h6]; exact he⟩, h1, h2, h3, h4, h5, h6⟩
theorem rh_back {s : List UInt8} (hr : RhOk s) : HdOk (hW s) (hH s) (hQ s) (hL s) ∧ 6 ≤ s.length ∧ hL s = sp6 s ∧ ∃ r, s = decL (hW s) ++ [120] ++ decL (hH s) ++ [32, 113] ++ r := by
  have ho := showH_ok hr.2 (wds_ne hr.1)
  obtain ⟨hi, h6⟩ := codeIn ho.2.2
  obtain ⟨m1, m2, m3⟩ := digL_map hi
  have he := hr.2
  unfold showH at he
  rw [if_pos ho] at he
  have hex : ∃ r, s = decL (hW s) ++ [120] ++ decL (hH s) ++ [32, 113] ++ r := ⟨_, by rw [List.append_assoc, List.append_assoc, List.append_assoc, List.append_assoc] at he; exact he.symm⟩
  generalize decL (hW s) ++ [120] ++ decL (hH s) ++ [32, 113] ++ decL (hQ s) ++ (bif hB s then 32 :: bypassW else []) ++ (bif hD s then 32 :: deblockW else []) ++ [32] = pre at he
  have hlen : s.length = pre.length + 6 := by
    rw [← h6, ← m3, ← List.length_append, he]
  refine ⟨ho, by omega, ?_, hex⟩
  have hdr : s.drop pre.length = digL (hL s) := by
    conv => lhs; rw [← he]
    exact List.drop_left
  unfold sp6
  rw [show s.length - 6 = pre.length by omega, hdr, m1]
end Go.Proofs.YtkckmenalehdpaaDoor
