/- Proved in this text: lemmas and contracts of functions that the claim uses (parts: RfP, TxU, AbsSh, Shf, TxJ, TxM, AbsNf, AbsHf, AbsUs, Defs, Bld). No condition. -/
import Derived.Lib.Replace
import Derived.Test.YtkckmenalehdpaaDoorRfM8
import Derived.Below
import Derived.Sort.Grow
import Derived.Deep.Draws
import Derived.Test.YtkckmenalehdpaaDoorRfM6
import Derived.Shelf.Strings.OnBuilder
import Derived.Shelf.Small.Strs
import Derived.Shelf.Strings.Cut
import Derived.Shelf.Strings.Count
import Derived.Shelf.Strings.Prefix
import Derived.Shelf.Strings.Split
import Derived.Shelf.Strings.Replace
import Derived.Shelf.LaysM
import Derived.Shelf.LaysC
import Derived.Shelf.Strconv.Itoa3
import Derived.Shelf.Strconv.AtoiAll
import Derived.Test.YtkckmenalehdpaaDoorProg
import Derived.KernelRfl
import Derived.Lib.Builder
import Derived.Lib.UnsafeStr
import Derived.Lib.AppendStr
import Derived.Laws.Externs
import Derived.Test.YtkckmenalehdpaaDoorRfM5
set_option linter.unusedVariables false
set_option linter.unusedSimpArgs false
set_option maxRecDepth 100000
set_option maxHeartbeats 4000000


namespace Go.Proofs.YtkckmenalehdpaaDoor
open Go Go.Abs
theorem replaceK_filter (c : UInt8) : ∀ s : List UInt8, Go.Lib.replaceK [c] [] (Go.Lib.count s [c]) s = s.filter (· != c)
  | [] => by
    rw [Go.Lib.count_miss (by simp [Go.Lib.index])]; rfl
  | b :: l => by
    have ih := replaceK_filter c l
    by_cases hb : b = c
    · subst hb
      have hi : Go.Lib.index (b :: l) [b] = (0 : Nat) := by rw [Go.Lib.index]; simp [List.isPrefixOf]
      rw [Go.Lib.count_cons_eq, Nat.add_comm, Go.Lib.replaceK_hit _ _ _ _ 0 hi]
      simpa using ih
    · rw [Go.Lib.count_cons_ne b c l hb, List.filter_cons_of_pos (by simpa using hb), ← ih]
      cases hk : Go.Lib.count l [c] with
      | zero => rfl
      | succ k =>
        obtain ⟨i, hi⟩ := Go.Lib.index_of_count (s := l) (old := [c]) (by omega)
        have hi2 : Go.Lib.index (b :: l) [c] = ((i + 1 : Nat) : Int) := by
          rw [Go.Lib.index, hi]
          simp [List.isPrefixOf, Ne.symm hb]
        rw [Go.Lib.replaceK_hit _ _ _ _ _ hi, Go.Lib.replaceK_hit _ _ _ _ _ hi2]
        simp
theorem replace_filter (s : List UInt8) (c : UInt8) : Go.Lib.replaceAll s [c] [] = s.filter (· != c) := by
  unfold Go.Lib.replaceAll Go.Lib.replace Go.Lib.replaceNum
  rw [if_neg (by simp), if_pos (.inl (by decide))]
  exact replaceK_filter c s
theorem indexByte_at (c : UInt8) (r : List UInt8) : ∀ l : List UInt8, (∀ x ∈ l, x ≠ c) → Go.Lib.indexByte (l ++ c :: r) c = l.length
  | [], _ => by simp [Go.Lib.indexByte]
  | b :: l, h => by
    have ih := indexByte_at c r l fun x hx => h x (by simp [hx])
    have hb := h b (by simp)
    rw [List.cons_append, Go.Lib.indexByte, ih]
    simp [hb]
theorem hx_no : ∀ k : Fin 16, hx k.val ≠ 10 := by decide
theorem hexB_no (b : UInt8) : ∀ x ∈ hexB b, x ≠ 10 := by
  have hb := b.toNat_lt
  intro x hx'
  simp only [hexB, List.mem_cons, List.not_mem_nil, or_false] at hx'
  rcases hx' with rfl | rfl
  · exact hx_no ⟨b.toNat / 16, by omega⟩
  · exact hx_no ⟨b.toNat % 16, by omega⟩
theorem hexB_filter (b : UInt8) : (hexB b).filter (· != 10) = hexB b := List.filter_eq_self.2 fun x hx' => by simpa using hexB_no b x hx'
abbrev by8 (p : List Int) : List UInt8 := p.map fun v : Int => UInt8.ofNat v.toNat
theorem showK_filter (W : Int) (p : List Int) : ∀ n, n ≤ p.length → (showK W p n).filter (· != 10) = hexL (by8 (p.take n))
  | 0, _ => by simp [showK, hexL]
  | n + 1, h => by
    rw [showK_succ, List.filter_append, showK_filter W p n (by omega), tokF, List.filter_append, hexB_filter, List.take_succ_eq_append_getElem (by omega), show by8 (p.take n ++ [p[n]]) = by8 (p.take n) ++ [UInt8.ofNat p[n].toNat] from List.map_append, hexL_snoc]
    have hg : p.getD n 0 = p[n] := by simp [show n < p.length by omega]
    rw [hg]
    split <;> simp
theorem showK_count (Wn : Nat) (hW : 1 ≤ Wn) (p : List Int) : ∀ n, (showK Wn p n).count 10 = n / Wn
  | 0 => by simp [showK]
  | n + 1 => by
    have ih := showK_count Wn hW p n
    have h0 : (hexB (UInt8.ofNat (p.getD n 0).toNat)).count 10 = 0 := List.count_eq_zero.2 fun h => hexB_no _ 10 h rfl
    rw [showK_succ, List.count_append, ih, tokF, List.count_append, h0, Nat.succ_div]
    by_cases hm : (n : Int) % (Wn : Int) = Wn - 1
    · have hm2 : n % Wn = Wn - 1 := by have := hm; rw [← Int.natCast_emod] at this; omega
      have hd : Wn ∣ n + 1 := by
        refine Nat.dvd_of_mod_eq_zero ?_
        rw [Nat.add_mod, hm2]
        by_cases h1 : Wn = 1
        · subst h1; rfl
        · rw [Nat.mod_eq_of_lt (show 1 < Wn by omega), Nat.sub_add_cancel hW, Nat.mod_self]
      rw [if_pos hm, if_pos hd]; simp
    · have hd : ¬ Wn ∣ n + 1 := fun hd => hm (by
        have h1 := Nat.mod_eq_zero_of_dvd hd
        have h2 := Nat.mod_lt n (show 0 < Wn by omega)
        have h3 : (n % Wn + 1) % Wn = 0 := by rw [Nat.mod_add_mod]; exact h1
        have h4 : n % Wn + 1 = Wn := by
          rcases Nat.lt_or_ge (n % Wn + 1) Wn with h5 | h5
          · rw [Nat.mod_eq_of_lt h5] at h3; omega
          · omega
        rw [← Int.natCast_emod]; omega)
      rw [if_neg hm, if_neg hd]; simp
theorem showK_row (Wn : Nat) (p : List Int) : ∀ n, n < Wn → (∀ x ∈ showK Wn p n, x ≠ 10) ∧ (showK Wn p n).length = 2 * n
  | 0, _ => by simp [showK]
  | n + 1, h => by
    obtain ⟨h1, h2⟩ := showK_row Wn p n (by omega)
    have hm : ¬ (n : Int) % (Wn : Int) = Wn - 1 := by rw [Int.emod_eq_of_lt (by omega) (by omega)]; omega
    rw [showK_succ, tokF, if_neg hm, List.append_nil]
    refine ⟨fun x hx' => ?_, by rw [List.length_append, h2]; simp [hexB]; omega⟩
    rcases List.mem_append.1 hx' with h3 | h3
    · exact h1 x h3
    · exact hexB_no _ x h3
theorem showK_add (W : Int) (p : List Int) (m : Nat) : ∀ n, ∃ r, showK W p (m + n) = showK W p m ++ r
  | 0 => ⟨[], by simp⟩
  | n + 1 => by
    obtain ⟨r, hr⟩ := showK_add W p m n
    exact ⟨r ++ tokF W (m + n) (p.getD (m + n) 0), by rw [← Nat.add_assoc, showK_succ, hr, List.append_assoc]⟩
theorem showK_first (Wn : Nat) (hW : 1 ≤ Wn) (p : List Int) (n : Nat) (h : Wn ≤ n) : ∃ l r, showK Wn p n = l ++ 10 :: r ∧ (∀ x ∈ l, x ≠ 10) ∧ l.length = 2 * Wn := by
  obtain ⟨r, hr⟩ := showK_add Wn p (Wn - 1 + 1) (n - Wn)
  obtain ⟨h1, h2⟩ := showK_row Wn p (Wn - 1) (by omega)
  rw [show Wn - 1 + 1 + (n - Wn) = n by omega, showK_succ, tokF, if_pos (by rw [Int.emod_eq_of_lt (by omega) (by omega)]; omega)] at hr
  refine ⟨showK Wn p (Wn - 1) ++ hexB (UInt8.ofNat (p.getD (Wn - 1) 0).toNat), r, by rw [hr]; simp, fun x hx' => ?_, by rw [List.length_append, h2]; simp [hexB]; omega⟩
  rcases List.mem_append.1 hx' with h3 | h3
  · exact h1 x h3
  · exact hexB_no _ x h3
theorem nb_by8 {p : List Int} (h : In p 0 255) : nb (by8 p) = p := by
  unfold In at h
  unfold nb by8
  rw [List.map_map]
  conv => rhs; rw [← List.map_id p]
  refine List.map_congr_left fun v hv => ?_
  have := h v hv
  simp only [Function.comp, id, UInt8.toNat_ofNat']
  omega
def cW (s : List UInt8) : Int := max (Go.Lib.indexByte s 10) 0 / 2
def cH (s : List UInt8) : Int := (Go.Lib.count s [10] : Nat)
def cD (s : List UInt8) : Option (List UInt8) := unhexL (Go.Lib.replaceAll s [10] [])
def cP (s : List UInt8) : List Int := nb ((cD s).getD [])
def RfOk (s : List UInt8) : Prop := s ≠ [] ∧ (cD s).isSome = true ∧ showF (cW s) (cH s) (cP s) = s
instance (s : List UInt8) : Decidable (RfOk s) := by unfold RfOk; infer_instance
theorem frame_nat {W H : Int} {p : List Int} (h : FrameOk W H p) : ∃ Wn Hn : Nat, W = Wn ∧ H = Hn ∧ 8 ≤ Wn ∧ 8 ≤ Hn ∧ p.length = Wn * Hn := by
  obtain ⟨⟨h1, h2, h3, h4, _⟩, h5, _⟩ := h
  refine ⟨W.toNat, H.toNat, by omega, by omega, by omega, by omega, ?_⟩
  have : ((W.toNat * H.toNat : Nat) : Int) = W * H := by rw [Int.natCast_mul, Int.toNat_of_nonneg (by omega), Int.toNat_of_nonneg (by omega)]
  omega
theorem cand_show {W H : Int} {p : List Int} (h : FrameOk W H p) : cW (showF W H p) = W ∧ cH (showF W H p) = H ∧ cD (showF W H p) = some (by8 p) ∧ cP (showF W H p) = p := by
  obtain ⟨Wn, Hn, rfl, rfl, h8, h9, hl⟩ := frame_nat h
  have hs : showF Wn Hn p = showK Wn p p.length := by unfold showF; rw [if_pos h]
  have hle : Wn ≤ p.length := by rw [hl]; exact Nat.le_mul_of_pos_right _ (by omega)
  have hd : cD (showF Wn Hn p) = some (by8 p) := by
    unfold cD
    rw [hs, replace_filter, showK_filter _ _ _ (Nat.le_refl _), List.take_length, unhexL_hexL]
  refine ⟨?_, ?_, hd, ?_⟩
  · obtain ⟨l, r, e1, e2, e3⟩ := showK_first Wn (by omega) p p.length hle
    unfold cW
    rw [hs, e1, indexByte_at 10 r l e2, e3]; omega
  · unfold cH
    rw [hs, Go.Lib.count_one, showK_count Wn (by omega), hl, Nat.mul_div_cancel_left _ (by omega)]
  · unfold cP; rw [hd]; exact nb_by8 h.2.2
def rdP : List UInt8 → Option (List Int)
  | a :: b :: r => if a = 10 then rdP (b :: r) else match unhexL [a, b] with
    | none => none
    | some t => (rdP r).map (nb t ++ ·)
  | _ => some []
def fst10 : List UInt8 → Nat
  | [] => 0
  | b :: l => if b = 10 then 0 else fst10 l + 1
theorem rdP_nl (r : List UInt8) : rdP (10 :: r) = rdP r := by
  match r with
  | [] => rfl
  | [b] => simp [rdP]
  | b :: c :: r => rw [rdP, if_pos rfl]
theorem rdP_hex (b : UInt8) (r : List UInt8) : rdP (hexB b ++ r) = (rdP r).map ((b.toNat : Int) :: ·) := by
  have h1 : unhexL [hx (b.toNat / 16), hx (b.toNat % 16)] = some [b] := unhexL_cons b []
  have h2 : hx (b.toNat / 16) ≠ 10 := hexB_no b _ (by simp [hexB])
  show rdP (hx (b.toNat / 16) :: hx (b.toNat % 16) :: r) = _
  rw [rdP, if_neg h2, h1]; rfl
theorem rdP_show (W : Int) {p : List Int} (hp : In p 0 255) : ∀ n, n ≤ p.length → ∀ r, rdP (showK W p n ++ r) = (rdP r).map (p.take n ++ ·)
  | 0, _, r => by simp [showK]
  | n + 1, h, r => by
    have hv := in_getD hp n
    have hg : p.getD n 0 = p[n] := by simp [show n < p.length by omega]
    rw [showK_succ, List.append_assoc, rdP_show W hp n (by omega), tokF, List.append_assoc, rdP_hex, List.take_succ_eq_append_getElem (show n < p.length by omega), UInt8.toNat_ofNat', show (((p.getD n 0).toNat % 2 ^ 8 : Nat) : Int) = p.getD n 0 by omega, hg]
    have e : rdP ((if (n : Int) % W = W - 1 then [10] else []) ++ r) = rdP r := by
      split
      · exact rdP_nl r
      · rfl
    rw [e, Option.map_map]
    congr 1
    funext x
    simp only [Function.comp, List.append_assoc, List.cons_append, List.nil_append]
theorem fst10_at (r : List UInt8) : ∀ l : List UInt8, (∀ x ∈ l, x ≠ 10) → fst10 (l ++ 10 :: r) = l.length
  | [], _ => by simp [fst10]
  | b :: l, h => by
    have ih := fst10_at r l fun x hx => h x (by simp [hx])
    rw [List.cons_append, fst10, if_neg (h b (by simp)), ih]; rfl
def sW (s : List UInt8) : Int := (fst10 s / 2 : Nat)
def sH (s : List UInt8) (P : List Int) : Int := if 0 < sW s then (P.length : Int) / sW s else 0
theorem spec_show {W H : Int} {p : List Int} (h : FrameOk W H p) : rdP (showF W H p) = some p ∧ sW (showF W H p) = W ∧ sH (showF W H p) p = H := by
  obtain ⟨Wn, Hn, rfl, rfl, h8, h9, hl⟩ := frame_nat h
  have hs : showF Wn Hn p = showK Wn p p.length := by unfold showF; rw [if_pos h]
  have hle : Wn ≤ p.length := by rw [hl]; exact Nat.le_mul_of_pos_right _ (by omega)
  have hw : sW (showF Wn Hn p) = Wn := by
    obtain ⟨l, r, e1, e2, e3⟩ := showK_first Wn (by omega) p p.length hle
    unfold sW
    rw [hs, e1, fst10_at r l e2, e3]; omega
  refine ⟨?_, hw, ?_⟩
  · have := rdP_show Wn h.2.2 p.length (Nat.le_refl _) []
    rw [List.append_nil, List.take_length] at this
    rw [hs, this]; simp [rdP]
  · unfold sH
    rw [hw, if_pos (by omega), hl, Int.natCast_mul, Int.mul_ediv_cancel_left _ (by omega)]
theorem showF_ok {W H : Int} {p : List Int} {s : List UInt8} (h : showF W H p = s) (hs : s ≠ []) : FrameOk W H p := by
  by_cases ho : FrameOk W H p
  · exact ho
  · unfold showF at h; rw [if_neg ho] at h; exact absurd h.symm hs
theorem rfOk_frame {s : List UInt8} (h : RfOk s) : FrameOk (cW s) (cH s) (cP s) := showF_ok h.2.2 h.1
theorem rd_same {s : List UInt8} {P : List Int} (h : rdP s = some P) (hs : s ≠ []) (he : showF (sW s) (sH s P) P = s) : RfOk s ∧ cW s = sW s ∧ cH s = sH s P ∧ cP s = P := by
  have ho := showF_ok he hs
  obtain ⟨h1, h2, h3, h4⟩ := cand_show ho
  rw [he] at h1 h2 h3 h4
  exact ⟨⟨hs, by rw [h3]; rfl, by rw [h1, h2, h4]; exact he⟩, h1, h2, h4⟩
theorem rd_back {s : List UInt8} (h : RfOk s) : rdP s = some (cP s) ∧ sW s = cW s ∧ sH s (cP s) = cH s := by
  have := spec_show (rfOk_frame h)
  rw [h.2.2] at this
  exact this
end Go.Proofs.YtkckmenalehdpaaDoor


namespace Go.Proofs.YtkckmenalehdpaaDoor
open Go Go.Abs
attribute [local irreducible] WpA WpL Rnd Blk Abs.Seq Abs.Fin Abs.FinG FnC FnG Only
instance digitOf_c : Con 61 (∀ b : UInt8, True → Fn 61 [U8 b] [] (I (fromHex b))) := ⟨fun b _ => by
  have hb := b.toNat_lt
  refine FnC.of_body tabOk Tryd.func61 Tryd.ntmps61 rfl (by decide +kernel) (by simp) fun G => ?_
  refine go (r := ?_); and_intros <;> intros <;> try exact True.intro
  · unfold fromHex; rw [if_pos ⟨by omega, by omega⟩, u8w _ (by omega), IntWalk.i64_in _ (by omega)]
  · unfold fromHex; rw [if_neg (by omega), if_pos ⟨by omega, by omega⟩, u8w _ (by omega), IntWalk.i64_in (((b.toNat : Nat) : Int) - 97) (by omega), IntWalk.i64_in _ (by omega)]; omega
  all_goals (unfold fromHex; rw [if_neg (by omega), if_neg (by omega)])⟩
instance l1FromHex_s : Con 54 (∀ b : UInt8, True → Fn 54 [U8 b] [] (I (fromHex b))) := ⟨fun b _ => by
  have hb := b.toNat_lt
  refine FnC.of_body tabOk Tryd.func54 Tryd.ntmps54 rfl (by decide +kernel) (by simp) fun G => ?_
  refine go (r := ?_); and_intros <;> intros <;> try exact True.intro
  refine WpA.loop (fun k : Nat => ⟨[(0, U8 b), (3, I k)], []⟩) (fun k => k ≤ 16 ∧ ∀ j < k, hx j ≠ b) (fun k => 16 - k) 0 ⟨by omega, by omega⟩ (go (r := trivial)) (fun k hk => ?_)
  obtain ⟨hk1, hk2⟩ := hk
  refine go (r := ?_); and_intros <;> intros <;> try exact True.intro
  · have e : hx k = b := UInt8.toNat_inj.1 (by rename_i h; rw [Int.toNat_natCast] at h; exact Int.ofNat.inj h)
    rw [← e]; exact (fromHex_hx ⟨k, by omega⟩).symm
  · rename_i h0 j h1 h2
    rcases Nat.lt_or_ge j k with h3 | h3
    · exact hk2 j h3 h2
    · obtain rfl : j = k := by omega
      exact h0 (by rw [Int.toNat_natCast, h2])
  · have e : k = 16 := by omega
    subst e
    by_cases h : fromHex b < 0
    · have := fromHex_bd b; omega
    · have h1 := fromHex_bd b
      exact absurd (hx_fromHex (k := (fromHex b).toNat) (by omega) (by omega)) (hk2 _ (by omega))⟩
theorem or4_fin : ∀ a b : Fin 16, IntKind.i64.wrap ((BitVec.ofInt IntKind.i64.bits (IntKind.i64.wrap ((a.val : Int) * 2 ^ Int.toNat 4)) ||| BitVec.ofInt IntKind.i64.bits (b.val : Int)).toNat : Nat) = 16 * (a.val : Int) + b.val := by decide +kernel
theorem or4 {a b : Int} (ha : 0 ≤ a ∧ a ≤ 15) (hb : 0 ≤ b ∧ b ≤ 15) : IntKind.i64.wrap ((BitVec.ofInt IntKind.i64.bits (IntKind.i64.wrap (a * 2 ^ Int.toNat 4)) ||| BitVec.ofInt IntKind.i64.bits b).toNat : Nat) = 16 * a + b := by
  have h := or4_fin ⟨a.toNat, by omega⟩ ⟨b.toNat, by omega⟩
  simp only [Int.toNat_of_nonneg ha.1, Int.toNat_of_nonneg hb.1] at h
  exact h
theorem nb_snoc (t : List UInt8) {v : Int} (h : 0 ≤ v ∧ v ≤ 255) : nb (t ++ [UInt8.ofNat v.toNat]) = nb t ++ [IntKind.u8.wrap v] := by
  rw [u8w _ h]
  simp only [nb, List.map_append, List.map_cons, List.map_nil]
  congr 2
  rw [UInt8.toNat_ofNat']
  omega
abbrev unhexR (s : List UInt8) : AV := .tup [Z ((unhexL s).getD []), B (unhexL s).isSome]
theorem unhex_odd : ∀ {s : List UInt8}, s.length % 2 ≠ 0 → unhexL s = none
  | [], h => absurd rfl h
  | [_], _ => rfl
  | a :: b :: r, h => by
    rw [unhexL, unhex_odd (s := r) (by simp only [List.length_cons] at h; omega)]; split <;> rfl
theorem unhex_at {s : List UInt8} {i : Nat} (h : i + 1 < s.length) : unhexL (s.drop i) = if fromHex (s.getD i 0) < 0 ∨ fromHex (s.getD (i + 1) 0) < 0 then none else (unhexL (s.drop (i + 2))).map (UInt8.ofNat (16 * fromHex (s.getD i 0) + fromHex (s.getD (i + 1) 0)).toNat :: ·) := by
  rw [List.drop_eq_getElem_cons (by omega), List.drop_eq_getElem_cons (show i + 1 < s.length from h), unhexL]
  simp [h, show i < s.length by omega]
theorem unhex_step {s t : List UInt8} {i : Nat} (h : i + 1 < s.length) (ht : unhexL s = (unhexL (s.drop i)).map (t ++ ·)) (h1 : ¬ fromHex (s.getD i 0) < 0) (h2 : ¬ fromHex (s.getD (i + 1) 0) < 0) : unhexL s = (unhexL (s.drop (i + 2))).map ((t ++ [UInt8.ofNat (16 * fromHex (s.getD i 0) + fromHex (s.getD (i + 1) 0)).toNat]) ++ ·) := by
  rw [ht, unhex_at h, if_neg (by omega), Option.map_map]
  congr 1
  funext x
  simp
instance Unhex_s : Con 30 (∀ s : List UInt8, s.length ≤ 274877906944 → Fn 30 [Z s] [] (unhexR s)) := ⟨fun s hl => by
  refine FnC.of_body tabOk Tryd.func30 Tryd.ntmps30 rfl (by decide +kernel) (by simp) fun G => ?_
  refine goR (r := ?_); and_intros <;> intros <;> try exact True.intro
  · rw [unhex_odd (by omega)]; rfl
  · rw [unhex_odd (by omega)]; rfl
  refine WpA.loop (fun x : List UInt8 × Nat => ⟨[(0, Z s), (4, .own 0 0 0 (nb x.1).length), (5, I x.2)], [⟨u8s (nb x.1), 0, 1, some 5⟩]⟩) (fun x => unhexL s = (unhexL (s.drop x.2)).map (x.1 ++ ·) ∧ x.2 ≤ s.length ∧ x.2 % 2 = 0 ∧ x.1.length ≤ x.2) (fun x => s.length - x.2) ([], 0) ⟨by simp, by simp only; omega, rfl, by simp⟩ (go (r := trivial)) (fun x hx => ?_)
  obtain ⟨t, i⟩ := x
  obtain ⟨hx1, hx2, hx3, hx4⟩ := hx
  simp only at hx1 hx2 hx3 hx4 ⊢
  have hnl := nb_len t
  have ei : ((i : Int) + 1).toNat = i + 1 := by omega
  have hf1 := fromHex_bd (s.getD i 0)
  have hf2 := fromHex_bd (s.getD ((i : Int) + 1).toNat 0)
  have hb1 := (s.getD i 0).toNat_lt
  have hN : i + 1 < s.length → (fromHex (s.getD i 0) < 0 ∨ fromHex (s.getD ((i : Int) + 1).toNat 0) < 0) → unhexL s = none := fun h1 h2 => by
    rw [ei] at h2
    rw [hx1, unhex_at h1, if_pos h2]; rfl
  have hS : i + 1 < s.length → ¬ fromHex (s.getD i 0) < 0 → ¬ fromHex (s.getD ((i : Int) + 1).toNat 0) < 0 → unhexL s = (unhexL (s.drop (i + 2))).map ((t ++ [UInt8.ofNat (16 * fromHex (s.getD i 0) + fromHex (s.getD ((i : Int) + 1).toNat 0)).toNat]) ++ ·) := fun h1 h2 h3 => by
    rw [ei] at h3 ⊢
    exact unhex_step h1 hx1 h2 h3
  refine go (r := ?_); and_intros <;> intros <;> try exact True.intro
  all_goals first | (rw [hN (by omega) (by first | exact .inl ‹_› | exact .inr ‹_›)]; rfl) | skip
  · have h1 := hS (by omega) (by assumption) (by assumption)
    refine Rnd.go (t ++ [UInt8.ofNat (16 * fromHex (s.getD i 0) + fromHex (s.getD ((i : Int) + 1).toNat 0)).toNat], i + 2) ⟨h1, by simp only; omega, by simp only; omega, by simp only [List.length_append, List.length_cons, List.length_nil]; omega⟩ (by simp only; omega) ?_
    simp only
    rw [nb_snoc t (by omega)]
    exact go (r := by simp)
  · have e : i = s.length := by omega
    rw [hx1, e, List.drop_length]
    simp only [unhexL, Option.map_some, Option.getD_some, List.append_nil]
    exact bytes_nb t
  · have e : i = s.length := by omega
    rw [hx1, e, List.drop_length]; rfl⟩
instance Unhex_c : Con 34 (∀ s : List UInt8, s.length ≤ 274877906944 → Fn 34 [Z s] [] (unhexR s)) := ⟨fun s hl => by
  refine FnC.of_body tabOk Tryd.func34 Tryd.ntmps34 rfl (by decide +kernel) (by simp) fun G => ?_
  refine goR (r := ?_); and_intros <;> intros <;> try exact True.intro
  · rw [unhex_odd (by omega)]; rfl
  · rw [unhex_odd (by omega)]; rfl
  refine WpA.loop (fun x : List UInt8 × Nat => ⟨[(0, Z s), (4, .own 0 0 0 (nb x.1).length), (5, I x.2)], [⟨u8s (nb x.1), 0, 1, some 5⟩]⟩) (fun x => unhexL s = (unhexL (s.drop x.2)).map (x.1 ++ ·) ∧ x.2 ≤ s.length ∧ x.2 % 2 = 0 ∧ x.1.length ≤ x.2) (fun x => s.length - x.2) ([], 0) ⟨by simp, by simp only; omega, rfl, by simp⟩ (go (r := trivial)) (fun x hx => ?_)
  obtain ⟨t, i⟩ := x
  obtain ⟨hx1, hx2, hx3, hx4⟩ := hx
  simp only at hx1 hx2 hx3 hx4 ⊢
  have hnl := nb_len t
  have ei : ((i : Int) + 1).toNat = i + 1 := by omega
  have hf1 := fromHex_bd (s.getD i 0)
  have hf2 := fromHex_bd (s.getD ((i : Int) + 1).toNat 0)
  have hb1 := (s.getD i 0).toNat_lt
  have hN : i + 1 < s.length → (fromHex (s.getD i 0) < 0 ∨ fromHex (s.getD ((i : Int) + 1).toNat 0) < 0) → unhexL s = none := fun h1 h2 => by
    rw [ei] at h2
    rw [hx1, unhex_at h1, if_pos h2]; rfl
  have hS : i + 1 < s.length → ¬ fromHex (s.getD i 0) < 0 → ¬ fromHex (s.getD ((i : Int) + 1).toNat 0) < 0 → unhexL s = (unhexL (s.drop (i + 2))).map ((t ++ [UInt8.ofNat (16 * fromHex (s.getD i 0) + fromHex (s.getD ((i : Int) + 1).toNat 0)).toNat]) ++ ·) := fun h1 h2 h3 => by
    rw [ei] at h3 ⊢
    exact unhex_step h1 hx1 h2 h3
  refine go (r := ?_); and_intros <;> intros <;> try exact True.intro
  all_goals first | (rw [hN (by omega) (by first | exact .inl ‹_› | exact .inr ‹_›)]; rfl) | skip
  · have h1 := hS (by omega) (by assumption) (by assumption)
    refine Rnd.go (t ++ [UInt8.ofNat (16 * fromHex (s.getD i 0) + fromHex (s.getD ((i : Int) + 1).toNat 0)).toNat], i + 2) ⟨h1, by simp only; omega, by simp only; omega, by simp only [List.length_append, List.length_cons, List.length_nil]; omega⟩ (by simp only; omega) ?_
    simp only
    rw [nb_snoc t (by omega)]
    refine go (r := ?_)
    and_intros <;> try exact True.intro
    all_goals first | (rw [or4 (by omega) (by omega)]; done) | trace_state
  · have e : i = s.length := by omega
    rw [hx1, e, List.drop_length]
    simp only [unhexL, Option.map_some, Option.getD_some, List.append_nil]
    exact bytes_nb t
  · have e : i = s.length := by omega
    rw [hx1, e, List.drop_length]; rfl⟩
end Go.Proofs.YtkckmenalehdpaaDoor


namespace Go.Abs
open Go Go.RowKit
theorem keeps_below {w w' : World} (h : Below w.heap.size w w') : Keeps w (fun _ => False) w' := ⟨h.os, h.tape, h.output, h.size, fun b hb _ => h.block b hb⟩
theorem FnC.of_calls {P : Program} {f : FuncId} {args : List AV} {r : AV} {x : Value} (hr : Runs P f) (hx : ∀ S w ι O, VRel S w ι O r x []) (h : ∀ (w : World) (S : Nat → Prop) (vs : List Value), (∀ b, S b → b < w.heap.size) → GlbOk S w → LRel S w (fun _ => none) [] args vs [] →
    Calls P f vs.toArray w fun e w' => e = .returned x ∧ Keeps w (fun _ => False) w') : FnC P f args [] r := by
  refine ⟨hr, fun w S vs hS hg hl => (h w S vs hS hg hl).mono fun e w' he => ?_⟩
  obtain ⟨he, hk⟩ := he
  exact ⟨x, S, fun _ => none, fun _ => [], he, fun _ h => h, fun _ h => .inl h, fun b hb => Nat.lt_of_lt_of_le (hS b hb) hk.size, ⟨fun id ob h => by simp at h, fun id h => by simp at h, fun i j h => by simp at h⟩, fun id h => by simp at h, hx _ _ _ _, hk⟩
theorem glb_cell {S : Nat → Prop} {w : World} (h : GlbOk S w) : ∃ W, Laid W ∧ ∀ b, b < NGlb → w.heap[b]? = W.heap[b]? ∧ ∀ i, w.cell? ⟨b, i, none⟩ = W.cell? ⟨b, i, none⟩ := by
  obtain ⟨W, h1, h2⟩ := h
  exact ⟨W, h1, fun b hb => ⟨(h2 b hb).2, fun i => World.cell?_of_block (h2 b hb).2⟩⟩
end Go.Abs


namespace Go.Proofs.YtkckmenalehdpaaDoor
open Go Go.Shelf Go.RowKit Go.Sort Go.Lib
def lays137_ren : Go.Shelf.Ren := ⟨fun | 137 => 32 | 217 => 57 | 266 => 76 | n => n, fun | 9 => 9 | 5 => 5 | 3 => 3 | n => n, fun | n => n⟩
theorem lays137 : Go.Proofs.Lays.n137 Tryd.prog lays137_ren := {
  mixed := by kernel_rfl
  f137 := Tryd.func32.trans (congrArg some (by kernel_rfl))
  f217 := Tryd.func57.trans (congrArg some (by kernel_rfl))
  f266 := Tryd.func76.trans (congrArg some (by kernel_rfl))
  t3 := Tryd.underlying3
  a3 := Tryd.isAgg3
  z3 := Tryd.sizeOf3
  v3 := Tryd.zeroValue3
  t5 := Tryd.underlying5
  a5 := Tryd.isAgg5
  z5 := Tryd.sizeOf5
  v5 := Tryd.zeroValue5
  t9 := Tryd.underlying9
  a9 := Tryd.isAgg9
  z9 := Tryd.sizeOf9
  v9 := Tryd.zeroValue9 }
theorem strings_IndexByte (s : ByteArray) (c : Int) (w : World) :
    Calls Tryd.prog 32 #[.string s, .int .u8 c] w fun e w' => e = .returned (.int .i64 (Lib.indexByte s.data.toList c.toNat.toUInt8)) ∧ w' = w := Any.strings_IndexByte lays137 s c w
def lays138_ren : Go.Shelf.Ren := ⟨fun | 138 => 33 | 195 => 58 | 218 => 59 | 143 => 60 | 219 => 77 | 217 => 57 | 225 => 87 | 224 => 88 | 267 => 89 | 266 => 76 | 314 => 100 | n => n, fun | 9 => 9 | 3 => 3 | 4 => 4 | 5 => 5 | 0 => 0 | 46 => 82 | 146 => 111 | 51 => 110 | n => n, fun | 1 => 0 | n => n⟩
theorem lays138 : Go.Proofs.Lays.n138 Tryd.prog lays138_ren := {
  mixed := by kernel_rfl
  f138 := Tryd.func33.trans (congrArg some (by kernel_rfl))
  f143 := Tryd.func60.trans (congrArg some (by kernel_rfl))
  f195 := Tryd.func58.trans (congrArg some (by kernel_rfl))
  f217 := Tryd.func57.trans (congrArg some (by kernel_rfl))
  f218 := Tryd.func59.trans (congrArg some (by kernel_rfl))
  f219 := Tryd.func77.trans (congrArg some (by kernel_rfl))
  f224 := Tryd.func88.trans (congrArg some (by kernel_rfl))
  f225 := Tryd.func87.trans (congrArg some (by kernel_rfl))
  f266 := Tryd.func76.trans (congrArg some (by kernel_rfl))
  f267 := Tryd.func89.trans (congrArg some (by kernel_rfl))
  f314 := Tryd.func100.trans (congrArg some (by kernel_rfl))
  t0 := Tryd.underlying0
  a0 := Tryd.isAgg0
  z0 := Tryd.sizeOf0
  v0 := Tryd.zeroValue0
  t3 := Tryd.underlying3
  a3 := Tryd.isAgg3
  z3 := Tryd.sizeOf3
  v3 := Tryd.zeroValue3
  t4 := Tryd.underlying4
  a4 := Tryd.isAgg4
  z4 := Tryd.sizeOf4
  v4 := Tryd.zeroValue4
  t5 := Tryd.underlying5
  a5 := Tryd.isAgg5
  z5 := Tryd.sizeOf5
  v5 := Tryd.zeroValue5
  t9 := Tryd.underlying9
  a9 := Tryd.isAgg9
  z9 := Tryd.sizeOf9
  v9 := Tryd.zeroValue9
  t46 := Tryd.underlying82
  a46 := Tryd.isAgg82
  z46 := Tryd.sizeOf82
  v46 := Tryd.zeroValue82
  t51 := Tryd.underlying110
  a51 := Tryd.isAgg110
  z51 := Tryd.sizeOf110
  v51 := Tryd.zeroValue110
  t146 := Tryd.underlying111
  a146 := Tryd.isAgg111
  z146 := Tryd.sizeOf111
  v146 := Tryd.zeroValue111
  g1 := by kernel_rfl }
theorem strings_Count_any (s sep : ByteArray) (m : Int) (w : World) (hs : s.size < 4294967281) (hm : w.cell? ⟨0, 0, none⟩ = some (.int .i64 m)) (h1 : 1 ≤ sep.size) :
    Calls Tryd.prog 33 #[.string s, .string sep] w fun e w' => e = .returned (.int .i64 (Lib.countB s sep)) ∧ w' = w := Any.strings_Count_any lays138 s sep m w hs hm h1
def lays155_ren : Go.Shelf.Ren := ⟨fun | 155 => 35 | 154 => 62 | 138 => 33 | 165 => 51 | 143 => 60 | 166 => 52 | 197 => 78 | 169 => 53 | 195 => 58 | 218 => 59 | 240 => 72 | 241 => 73 | 219 => 77 | 260 => 90 | 276 => 85 | 277 => 86 | 217 => 57 | 225 => 87 | 224 => 88 | 267 => 89 | 266 => 76 | 314 => 100 | n => n, fun | 9 => 9 | 3 => 3 | 4 => 4 | 72 => 71 | 0 => 0 | 76 => 75 | 105 => 88 | 21 => 21 | 5 => 5 | 70 => 69 | 20 => 20 | 37 => 67 | 75 => 74 | 127 => 86 | 164 => 95 | 46 => 82 | 119 => 113 | 139 => 116 | 138 => 115 | 146 => 111 | 51 => 110 | 80 => 77 | n => n, fun | 1 => 0 | 3 => 1 | 4 => 2 | n => n⟩
theorem lays155 : Go.Proofs.Lays.n155 Tryd.prog lays155_ren := {
  mixed := by kernel_rfl
  f138 := Tryd.func33.trans (congrArg some (by kernel_rfl))
  f143 := Tryd.func60.trans (congrArg some (by kernel_rfl))
  f154 := Tryd.func62.trans (congrArg some (by kernel_rfl))
  f155 := Tryd.func35.trans (congrArg some (by kernel_rfl))
  f165 := Tryd.func51.trans (congrArg some (by kernel_rfl))
  f166 := Tryd.func52.trans (congrArg some (by kernel_rfl))
  f169 := Tryd.func53.trans (congrArg some (by kernel_rfl))
  f195 := Tryd.func58.trans (congrArg some (by kernel_rfl))
  f197 := Tryd.func78.trans (congrArg some (by kernel_rfl))
  f217 := Tryd.func57.trans (congrArg some (by kernel_rfl))
  f218 := Tryd.func59.trans (congrArg some (by kernel_rfl))
  f219 := Tryd.func77.trans (congrArg some (by kernel_rfl))
  f224 := Tryd.func88.trans (congrArg some (by kernel_rfl))
  f225 := Tryd.func87.trans (congrArg some (by kernel_rfl))
  f240 := Tryd.func72.trans (congrArg some (by kernel_rfl))
  f241 := Tryd.func73.trans (congrArg some (by kernel_rfl))
  f260 := Tryd.func90.trans (congrArg some (by kernel_rfl))
  f266 := Tryd.func76.trans (congrArg some (by kernel_rfl))
  f267 := Tryd.func89.trans (congrArg some (by kernel_rfl))
  f276 := Tryd.func85.trans (congrArg some (by kernel_rfl))
  f277 := Tryd.func86.trans (congrArg some (by kernel_rfl))
  f314 := Tryd.func100.trans (congrArg some (by kernel_rfl))
  t0 := Tryd.underlying0
  a0 := Tryd.isAgg0
  z0 := Tryd.sizeOf0
  v0 := Tryd.zeroValue0
  t3 := Tryd.underlying3
  a3 := Tryd.isAgg3
  z3 := Tryd.sizeOf3
  v3 := Tryd.zeroValue3
  t4 := Tryd.underlying4
  a4 := Tryd.isAgg4
  z4 := Tryd.sizeOf4
  v4 := Tryd.zeroValue4
  t5 := Tryd.underlying5
  a5 := Tryd.isAgg5
  z5 := Tryd.sizeOf5
  v5 := Tryd.zeroValue5
  t9 := Tryd.underlying9
  a9 := Tryd.isAgg9
  z9 := Tryd.sizeOf9
  v9 := Tryd.zeroValue9
  t20 := Tryd.underlying20
  a20 := Tryd.isAgg20
  z20 := Tryd.sizeOf20
  v20 := Tryd.zeroValue20
  t21 := Tryd.underlying21
  a21 := Tryd.isAgg21
  z21 := Tryd.sizeOf21
  v21 := Tryd.zeroValue21
  t37 := Tryd.underlying67
  a37 := Tryd.isAgg67
  z37 := Tryd.sizeOf67
  v37 := Tryd.zeroValue67
  t46 := Tryd.underlying82
  a46 := Tryd.isAgg82
  z46 := Tryd.sizeOf82
  v46 := Tryd.zeroValue82
  t51 := Tryd.underlying110
  a51 := Tryd.isAgg110
  z51 := Tryd.sizeOf110
  v51 := Tryd.zeroValue110
  t70 := Tryd.underlying69
  a70 := Tryd.isAgg69
  z70 := Tryd.sizeOf69
  v70 := Tryd.zeroValue69
  t72 := Tryd.underlying71
  a72 := Tryd.isAgg71
  z72 := Tryd.sizeOf71
  v72 := Tryd.zeroValue71
  t75 := Tryd.underlying74
  a75 := Tryd.isAgg74
  z75 := Tryd.sizeOf74
  v75 := Tryd.zeroValue74
  t76 := Tryd.underlying75
  a76 := Tryd.isAgg75
  z76 := Tryd.sizeOf75
  v76 := Tryd.zeroValue75
  t105 := Tryd.underlying88
  a105 := Tryd.isAgg88
  z105 := Tryd.sizeOf88
  v105 := Tryd.zeroValue88
  t119 := Tryd.underlying113
  a119 := Tryd.isAgg113
  z119 := Tryd.sizeOf113
  t127 := Tryd.underlying86
  a127 := Tryd.isAgg86
  z127 := Tryd.sizeOf86
  v127 := Tryd.zeroValue86
  t138 := Tryd.underlying115
  a138 := Tryd.isAgg115
  z138 := Tryd.sizeOf115
  v138 := Tryd.zeroValue115
  t139 := Tryd.underlying116
  a139 := Tryd.isAgg116
  z139 := Tryd.sizeOf116
  v139 := Tryd.zeroValue116
  t146 := Tryd.underlying111
  a146 := Tryd.isAgg111
  z146 := Tryd.sizeOf111
  v146 := Tryd.zeroValue111
  t164 := Tryd.underlying95
  a164 := Tryd.isAgg95
  z164 := Tryd.sizeOf95
  v164 := Tryd.zeroValue95
  g1 := by kernel_rfl
  g3 := by kernel_rfl
  g4 := by kernel_rfl }
theorem Builder_Extra_155 : Builder.Extra Tryd.prog lays155_ren := {
  sizeBuilder := by kernel_rfl
  liesBuilder := by kernel_rfl
  t5 := Tryd.underlying5
  a5 := Tryd.isAgg5
  z5 := Tryd.sizeOf5
  v5 := Tryd.zeroValue5
  infoByte := by kernel_rfl
  cellsByte := by kernel_rfl
  sizeByte := by kernel_rfl
  neB5 := by decide }
theorem strings_ReplaceAll (s old new : ByteArray) (m : Int) (w : World) (hs : s.size < 4294967281) (hm : w.cell? ⟨0, 0, none⟩ = some (.int .i64 m)) (h1 : 1 ≤ old.size) (hlen : s.size + Lib.countB s old * new.size ≤ 140737488355328) :
    Calls Tryd.prog 35 #[.string s, .string old, .string new] w fun e w' =>
      e = .returned (.string ⟨(Lib.replaceAll s.data.toList old.data.toList new.data.toList).toArray⟩) ∧ Below w.heap.size w w' := Any.strings_ReplaceAll lays155 Builder_Extra_155 s old new m w hs hm h1 hlen
end Go.Proofs.YtkckmenalehdpaaDoor


namespace Go.Proofs.YtkckmenalehdpaaDoor
open Go Go.Abs
instance IndexByte_c : Con 32 (∀ (s : List UInt8) (c : Int), True → Fn 32 [Z s, .sc (.int .u8 c)] [] (I (Go.Lib.indexByte s c.toNat.toUInt8))) := ⟨fun s c _ => by
  refine FnC.of_calls (x := .int .i64 (Go.Lib.indexByte s c.toNat.toUInt8)) ⟨_, Tryd.func32, rfl, by decide +kernel⟩ (fun _ _ _ _ => .sc .nil) fun w S vs hS hg hl => ?_
  cases hl with
  | sc h =>
    cases h with
    | sc h =>
      cases h
      refine (strings_IndexByte ⟨s.toArray⟩ c w).mono fun e w' he => ?_
      obtain ⟨he, hw⟩ := he
      exact ⟨he, hw ▸ Keeps.refl _ _⟩⟩
end Go.Proofs.YtkckmenalehdpaaDoor


namespace Go.Proofs.YtkckmenalehdpaaDoor
open Go Go.Abs
theorem glb_max {S : Nat → Prop} {w : World} (h : GlbOk S w) : ∃ m, w.cell? ⟨0, 0, none⟩ = some (.int .i64 m) := by
  obtain ⟨W, h1, h2⟩ := glb_cell h
  obtain ⟨m, h3⟩ := h1.max
  exact ⟨m, by rw [(h2 0 (by decide)).2]; exact h3⟩
theorem ba_size (s : List UInt8) : (⟨s.toArray⟩ : ByteArray).size = s.length := by simp [ByteArray.size]
instance Count_c : Con 33 (∀ s sep : List UInt8, s.length ≤ 4294967280 ∧ 1 ≤ sep.length → Fn 33 [Z s, Z sep] [] (I (Go.Lib.count s sep : Nat))) := ⟨fun s sep hn => by
  refine FnC.of_calls (x := .int .i64 (Go.Lib.count s sep : Nat)) ⟨_, Tryd.func33, rfl, by decide +kernel⟩ (fun _ _ _ _ => .sc .nil) fun w S vs hS hg hl => ?_
  cases hl with
  | sc h =>
    cases h with
    | sc h =>
      cases h
      obtain ⟨m, hm⟩ := glb_max hg
      refine (strings_Count_any ⟨s.toArray⟩ ⟨sep.toArray⟩ m w (by rw [ba_size]; omega) hm (by rw [ba_size]; omega)).mono fun e w' he => ?_
      obtain ⟨he, hw⟩ := he
      exact ⟨he, hw ▸ Keeps.refl _ _⟩⟩
instance ReplaceAll_c : Con 35 (∀ s old : List UInt8, s.length ≤ 4294967280 ∧ 1 ≤ old.length → Fn 35 [Z s, Z old, Z []] [] (Z (Go.Lib.replaceAll s old []))) := ⟨fun s old hn => by
  refine FnC.of_calls (x := .string ⟨(Go.Lib.replaceAll s old []).toArray⟩) ⟨_, Tryd.func35, rfl, by decide +kernel⟩ (fun _ _ _ _ => .sc .nil) fun w S vs hS hg hl => ?_
  cases hl with
  | sc h =>
    cases h with
    | sc h =>
      cases h with
      | sc h =>
        cases h
        obtain ⟨m, hm⟩ := glb_max hg
        refine (strings_ReplaceAll ⟨s.toArray⟩ ⟨old.toArray⟩ ⟨#[]⟩ m w (by rw [ba_size]; omega) hm (by rw [ba_size]; omega) (by rw [ba_size]; show s.length + _ * 0 ≤ _; omega)).mono fun e w' he => ?_
        obtain ⟨he, hw⟩ := he
        exact ⟨he, keeps_below hw⟩⟩
end Go.Proofs.YtkckmenalehdpaaDoor


namespace Go.Abs
open Go
inductive Ry (O O' : List AObj) (j : Nat) : List AV → List AV → Prop
  | nil : Ry O O' j [] []
  | any {V vs us} : Ry O O' j vs us → Ry O O' j (V :: vs) (.any :: us)
  | keep {V V' vs us} : V = V' → V'.still = true → Ry O O' j vs us → Ry O O' j (V :: vs) (V' :: us)
  | own {id ep ep' off len len' ob ob' vs us} : O[id]? = some ob → O'[id]? = some ob' → ob.ep = ep → ob'.ep = ep' → ob'.size = ob.size → len = len' → Ry O O' j vs us → Ry O O' j (.own id ep off len :: vs) (.own id ep' off len' :: us)
  | ptr {id ep ep' off ob ob' vs us} : O[id]? = some ob → O'[id]? = some ob' → ob.ep = ep → ob'.ep = ep' → Ry O O' j vs us → Ry O O' j (.ptr id ep off :: vs) (.ptr id ep' off :: us)
  | fn {f ds vs us} : ds.all AV.simple = true → Ry O O' j vs us → Ry O O' j (.fn f ds :: vs) (.fn f ds :: us)
  | agg {ds es vs us} : Ry O O' j ds es → Ry O O' j vs us → Ry O O' j (.agg ds :: vs) (.agg es :: us)
  | nilO {ob' k len vs us} : O'[k]? = some ob' → k = j → ob'.ep = 0 → 0 = len → Ry O O' j vs us → Ry O O' j (.nilS :: vs) (.own k 0 0 len :: us)
theorem simple_allI {S w ι ι' O O'} : ∀ {ds : List AV} {us f}, LRel S w ι O ds us f → ds.all AV.simple = true → LRel S w ι' O' ds us f
  | [], us, f, h, _ => by cases h; exact .nil
  | d :: ds, us, f, h, hs => by
    simp only [List.all_cons, Bool.and_eq_true] at hs
    obtain ⟨v, vs, f1, f2, rfl, hv, hr, rfl⟩ := h.uncons
    have hst : d.still = true := by cases d <;> simp_all [AV.simple, AV.still]
    exact LRel.cons (still_any hv hst O' (fun _ h => h) (fun _ _ => rfl) (fun _ _ => rfl)) (simple_allI hr hs.2)
theorem Ry.same {O O' : List AObj} {j : Nat} {cs cs' : List AV} (h : cs = cs') (hs : cs'.all AV.still = true) : Ry O O' j cs cs' := by
  subst h
  induction cs with
  | nil => exact .nil
  | cons c cs ih =>
    simp only [List.all_cons, Bool.and_eq_true] at hs
    exact .keep rfl hs.1 (ih hs.2)
theorem Ry.rel {O O' : List AObj} {j : Nat} {S w} {ι ι' : Nat → Spot} (hj : ι' j = none) (hι : ∀ id, id < O.length → ι' id = ι id) {vs us : List AV} (h : Ry O O' j vs us) : ∀ {xs f}, LRel S w ι O vs xs f → ∃ f', LRel S w ι' O' us xs f' ∧ (∀ b ∈ f', b ∈ f) ∧ (f.Nodup → f'.Nodup) := by
  induction h with
  | nil => intro xs f hl; cases hl; exact ⟨[], .nil, by simp, by simp⟩
  | any _ ih =>
    intro xs f hl
    obtain ⟨v, vs', f1, f2, rfl, hv, hr, rfl⟩ := hl.uncons
    obtain ⟨f', h1, h2, h3⟩ := ih hr
    exact ⟨f', .any h1, fun b hb => List.mem_append_right _ (h2 b hb), fun hn => h3 (List.nodup_append.1 hn).2.1⟩
  | keep he hs _ ih =>
    intro xs f hl
    subst he
    obtain ⟨v, vs', f1, f2, rfl, hv, hr, rfl⟩ := hl.uncons
    obtain ⟨f', h1, h2, h3⟩ := ih hr
    refine ⟨f1 ++ f', LRel.cons (still_any hv hs O' (fun _ h => h) (fun _ _ => rfl) (fun _ _ => rfl)) h1, ?_, ?_⟩
    · intro b hb
      rcases List.mem_append.1 hb with hb | hb
      · exact List.mem_append_left _ hb
      · exact List.mem_append_right _ (h2 b hb)
    · intro hn
      obtain ⟨n1, n2, n3⟩ := List.nodup_append.1 hn
      exact List.nodup_append.2 ⟨n1, h3 n2, fun a ha b hb => n3 a ha b (h2 b hb)⟩
  | own ho ho' he he' hsz hln _ ih =>
    intro xs f hl
    subst hln
    obtain ⟨v, vs', f1, f2, rfl, hv, hr, rfl⟩ := hl.uncons
    obtain ⟨f', h1, h2, h3⟩ := ih hr
    refine ⟨f', ?_, fun b hb => List.mem_append_right _ (h2 b hb), fun hn => h3 (List.nodup_append.1 hn).2.1⟩
    cases hv with
    | own q1 q2 q3 r =>
      rw [ho] at q1; cases q1
      exact .own ho' (by omega) (fun _ => by rw [hsz, hι _ (List.getElem?_eq_some_iff.1 ho).1]; exact q3 he.symm) h1
  | ptr ho ho' he he' _ ih =>
    intro xs f hl
    obtain ⟨v, vs', f1, f2, rfl, hv, hr, rfl⟩ := hl.uncons
    obtain ⟨f', h1, h2, h3⟩ := ih hr
    refine ⟨f', ?_, fun b hb => List.mem_append_right _ (h2 b hb), fun hn => h3 (List.nodup_append.1 hn).2.1⟩
    cases hv with
    | ptr q1 q2 q3 r =>
      rw [ho] at q1; cases q1
      exact .ptr ho' (by omega) (fun _ => by rw [hι _ (List.getElem?_eq_some_iff.1 ho).1]; exact q3 he.symm) h1
  | fn hs _ ih =>
    intro xs f hl
    obtain ⟨v, vs', f1, f2, rfl, hv, hr, rfl⟩ := hl.uncons
    obtain ⟨f', h1, h2, h3⟩ := ih hr
    refine ⟨f', ?_, fun b hb => List.mem_append_right _ (h2 b hb), fun hn => h3 (List.nodup_append.1 hn).2.1⟩
    cases hv with
    | fn a r => cases r; exact .fn (simple_allI a hs) h1
  | agg _ _ ih1 ih2 =>
    intro xs f hl
    obtain ⟨v, vs', f1, f2, rfl, hv, hr, rfl⟩ := hl.uncons
    obtain ⟨us', rfl, ha⟩ := LRel.agg_inv hv
    obtain ⟨g', a1, a2, a3⟩ := ih1 ha
    obtain ⟨f', h1, h2, h3⟩ := ih2 hr
    refine ⟨g' ++ f', .agg a1 h1, ?_, ?_⟩
    · intro b hb
      rcases List.mem_append.1 hb with hb | hb
      · exact List.mem_append_left _ (a2 b hb)
      · exact List.mem_append_right _ (h2 b hb)
    · intro hn
      obtain ⟨n1, n2, n3⟩ := List.nodup_append.1 hn
      exact List.nodup_append.2 ⟨a3 n1, h3 n2, fun a ha b hb => n3 a (a2 a ha) b (h2 b hb)⟩
  | nilO hk hkj hep hlen _ ih =>
    intro xs f hl
    subst hkj; subst hlen
    obtain ⟨v, vs', f1, f2, rfl, hv, hr, rfl⟩ := hl.uncons
    obtain ⟨f', h1, h2, h3⟩ := ih hr
    refine ⟨f', ?_, fun b hb => List.mem_append_right _ (h2 b hb), fun hn => h3 (List.nodup_append.1 hn).2.1⟩
    cases hv with
    | nilS r => exact .own hk (by omega) (fun _ => by rw [hj]; exact ⟨rfl, rfl, rfl⟩) h1
inductive RyT (O O' : List AObj) (j : Nat) (T : List (Nat × AV)) : List (Nat × AV) → Prop
  | nil : RyT O O' j T []
  | cons {t V T'} : Ry O O' j [look T t] [V] → RyT O O' j T T' → RyT O O' j T ((t, V) :: T')
theorem RyT.at {O O' j T T'} (h : RyT O O' j T T') (t : Nat) : Ry O O' j [look T t] [look T' t] := by
  induction h with
  | nil => exact .any .nil
  | @cons k V T' hk _ ih =>
    by_cases he : k = t
    · subst he; rw [look_cons_same]; exact hk
    · rw [look_cons_other _ _ _ _ he]; exact ih
inductive RyO (O O' : List AObj) (j : Nat) : List AObj → List AObj → Prop
  | last {ob'} : ob'.cells = [] → RyO O O' j [] [ob']
  | cons {ob ob' os os'} : Ry O O' j ob.cells ob'.cells → (ob'.ty = none ∨ ob'.ty = ob.ty) → RyO O O' j os os' → RyO O O' j (ob :: os) (ob' :: os')
theorem RyO.len {O O' j os os'} (h : RyO O O' j os os') : os'.length = os.length + 1 := by
  induction h with
  | last => rfl
  | cons _ _ _ ih => simp [ih]
theorem RyO.at {O O' j os os'} (h : RyO O O' j os os') {id : Nat} {ob' : AObj} (hi : os'[id]? = some ob') : (id = os.length ∧ ob'.cells = []) ∨ ∃ ob, os[id]? = some ob ∧ Ry O O' j ob.cells ob'.cells ∧ (ob'.ty = none ∨ ob'.ty = ob.ty) := by
  induction h generalizing id with
  | last h =>
    cases id with
    | zero => simp at hi; subst hi; exact .inl ⟨rfl, h⟩
    | succ id => simp at hi
  | cons h1 h2 _ ih =>
    cases id with
    | zero => simp at hi; subst hi; exact .inr ⟨_, by simp, h1, h2⟩
    | succ id =>
      rcases ih (by simpa using hi) with ⟨h3, h4⟩ | ⟨ob, h3, h4⟩
      · exact .inl ⟨by simp [h3], h4⟩
      · exact .inr ⟨ob, by simpa using h3, h4⟩
end Go.Abs


namespace Go.Abs
open Go
structure HandX (O : List AObj) (hs : List Nat) (vs us : List AV) : Prop where
  rel : ∀ {M : List AObj} {S S2 : Nat → Prop} {w : World} {ι ιM : Nat → Spot} {F : Nat → List Nat}, (hs.length = M.length ∧ ∀ (j : Nat) (mb : AObj), M[j]? = some mb → ∃ id ob, hs[j]? = some id ∧ O[id]? = some ob ∧ mb.ep = 0 ∧ mb.size = ob.size) →
  (∀ (j id : Nat), hs[j]? = some id → ιM j = ι id) → (∀ b, S b → S2 b) → ORel S w ι O F → (∀ b, b < w.heap.size → (∀ id ∈ hs, b ∉ F id) → S2 b) → (∀ id ∈ hs, id < O.length) → ∀ {xs}, LRel S w ι O vs xs [] → LRel S2 w ιM M us xs []
theorem Hand.x {O : List AObj} {hs : List Nat} {vs us : List AV} (h : Hand O hs vs us) : HandX O hs vs us := ⟨fun hM hι hS hO hS2 hlt _ hl => Hand.relH hM hι hS hO hS2 hlt h hl⟩
theorem HandX.cons {O : List AObj} {hs : List Nat} {V U : AV} {vs us : List AV} (h1 : HandX O hs [V] [U]) (h2 : HandX O hs vs us) : HandX O hs (V :: vs) (U :: us) := ⟨fun hM hι hS hO hS2 hlt _ hl => by
  obtain ⟨v, vs', f1, f2, rfl, hv, hr, hf⟩ := hl.uncons
  obtain ⟨rfl, rfl⟩ : f1 = [] ∧ f2 = [] := by simpa using hf
  have a := h1.rel hM hι hS hO hS2 hlt hv
  have b := h2.rel hM hι hS hO hS2 hlt hr
  obtain ⟨y, ys, g1, g2, e, hy, hys, hg⟩ := a.uncons
  cases e
  obtain ⟨rfl, rfl⟩ : g1 = [] ∧ g2 = [] := by simpa using hg
  simpa using LRel.cons hy b⟩
theorem HandX.fn {O : List AObj} {hs : List Nat} {g : FuncId} {ds es : List AV} (h : Hand O hs ds es) : HandX O hs [.fn g ds] [.fn g es] := ⟨fun hM hι hS hO hS2 hlt _ hl => by
  cases hl with
  | fn a r => cases r; exact .fn (Hand.relH hM hι hS hO hS2 hlt h a) .nil⟩
section
variable {P : Program} {n m : Nat} {G : Ctx} {T : List (Nat × AV)} {O : List AObj} {Q : Exit → St → Prop} {ops : Array Oper} {l : List Oper} {tt : TypeId} {pos : String} {after : Array Edge} {tab : List (Nat × Ty)}
theorem WpA.unW {c : Code} {σ : St} (h : WpA P n m G c σ fun e s => ∃ s2, Weak m s s2 ∧ Q e s2) : WpA P n m G c σ Q := fun a w hr => wp_mono (h a w hr) fun e a' w' ⟨s, ⟨s2, hw, hq⟩, hR⟩ => ⟨s2, hq, hw _ _ _ _ hR⟩
theorem FnH.of_bodyW (hP : TabOk P tab) {f : FuncId} {fn : Func} {c : Code} {args : List AV} {M OO : List AObj} {r : AV} {k m : Nat} (hf : P.funcs[f]? = some fn) (hnt : fn.ntmps = k) (hb : fn.body = some c) (hnm : (fn.name == "runtime.NumGoroutine") = false)
    (hal : args.length ≤ k) (hml : m ≤ M.length) (hmo : m ≤ OO.length) (h : ∀ G, WpA P k m G c ⟨enumT 0 args, M⟩ fun e s => ∃ s2, Weak m s s2 ∧ FinH tab fn.results OO r e s2) : FnH P f args m M OO r :=
  FnH.of_body hP hf hnt hb hnm hal hml hmo fun G => (h G).unW
def FnAt (G : Ctx) (g : FuncId) (cs : List AV) (fv : Value) : Prop := (∀ b, G.S0 b → b < G.w0.heap.size ∧ ¬ G.M0 b) ∧ ∃ u0 u1 : Value, fv = .func (.func g) #[] #[u0, u1] ∧ LRel G.S0 G.w0 G.ι0 [] [.iptr cs 0] [u0] [] ∧
  ∀ (S : Nat → Prop) (w : World) (ι : Nat → Spot) (O : List AObj) (ob : AObj), O[0]? = some ob → ι 0 = G.ι0 0 → LRel S w ι O [.ptr 0 0 0] [u1] []
theorem FnAt.rel {g : FuncId} {cs : List AV} {fv : Value} (h : FnAt G g cs fv) {S : Nat → Prop} {w : World} {ι : Nat → Spot} {F : Nat → List Nat} {a : Act} {ob : AObj} (hr : RelAt n m G S ι F ⟨T, O⟩ a w) (hm : 0 < m) (ho : O[0]? = some ob) : ∃ us : List Value, fv = .func (.func g) #[] us.toArray ∧ LRel S w ι O [.iptr cs 0, .ptr 0 0 0] us [] := by
  obtain ⟨hs, u0, u1, rfl, h0, h1⟩ := h
  refine ⟨[u0, u1], rfl, ?_⟩
  have a0 : LRel S w ι O [.iptr cs 0] [u0] [] := (h0.mono (Later.none [] (fun b hb => hr.base.1 b hb) (fun b hb => hr.keeps.block b (hs b hb).1 (hs b hb).2)) (by simp)).lift
  have a1 := h1 S w ι O ob ho (hr.spots 0 hm)
  simpa using a0.append a1
end
end Go.Abs


namespace Go.Abs
open Go
section
variable {P : Program} {n m : Nat} {G : Ctx} {T : List (Nat × AV)} {O : List AObj} {Q : Exit → St → Prop} {ops : Array Oper} {l : List Oper} {d : Nat} {tt : TypeId} {pos : String} {after : Array Edge} {tab : List (Nat × Ty)}
theorem RelAt.ptrE {S ι F a w} (hr : RelAt n m G S ι F ⟨T, O⟩ a w) {x : Operand} {id ep off : Nat} {ob : AObj} (hx : av T x = .ptr id ep off) (ho : O[id]? = some ob) (he : ob.ep = ep) :
    ∃ b k cur t fz, ι id = some (b, k) ∧ a.eval x = .pointer (some ⟨b, off, none⟩) ∧ w.heap[b]? = some (.cells cur t fz) ∧ cur.size = k ∧ ob.cells.length ≤ k ∧ (∀ e, ob.ty = some e → t = e ∧ fz = (0, 0)) := by
  have hv := hr.eval x
  rw [hx] at hv
  cases hv with
  | ptr q1 q2 q3 r =>
    rw [show (St.mk T O).O[id]? = some ob from ho] at q1
    cases q1
    have hp := q3 he.symm
    have hob := hr.objs.obj id ob ho
    unfold ObjAt at hob
    cases hs : ι id with
    | none => rw [hs] at hp; exact hp.elim
    | some p =>
      obtain ⟨b, k⟩ := p
      rw [hs] at hp hob
      obtain ⟨cur, t, fz, f', _, h2, h3, h4, _, h6, _⟩ := hob
      exact ⟨b, k, cur, t, fz, rfl, hp, h2, h3, h4, h6⟩
theorem WpL.toUns {s t u : TypeId} {x : Operand} {id ep off : Nat} {ob : AObj} {j : TypeInfo} (hs : P.underlying s = some (.pointer u)) (ht : P.underlying t = some .unsafePointer) (hu : P.info? u = some j) (hj : j.size ≠ 0)
    (hx : av T x = .ptr id ep off) (ho : O[id]? = some ob) (he : ob.ep = ep) (hoff : off < ob.cells.length) (hn : d < n) (h : WpL P n m G false ops l ⟨(d, .ptr id ep off) :: T, O⟩ Q) :
    WpL P n m G false ops ({ dst := some d, op := .convert s t x, type := tt, pos := pos, after := after, guard := none } :: l) ⟨T, O⟩ Q :=
  WpL.pure rfl rfl hn (fun S ι F a w hr => by
    obtain ⟨b, k, cur, tb, fz, hι, hxe, hb, hk, hle, hty⟩ := hr.ptrE hx ho he
    have hsh : w.shape? b = some (tb, cur.size) := by simp [World.shape?, hb]
    have hrun := Lib.run_to_unsafe (P := P) w (src := s) (dst := t) (cells := cur.size) ⟨b, off, none⟩ hs ht hu hj hsh (by show off < cur.size; omega)
    have hv := hr.eval x
    rw [hx, hxe] at hv
    exact ⟨.pointer (some ⟨b, off, none⟩), by simp only [execOp, hxe, Sem.run_bind, hrun, Result.andThen_ok, Sem.run_pure], hv⟩) h
theorem liesAt_same {P : Program} {e c : Nat} (hc : P.cellsOf e = c) (hc0 : 0 < c) (count : Nat) (hn : 1 ≤ count) : liesAt P P.depth e count 0 e 1 = true := by
  have hd : P.depth = (2 * (P.types.size + Made.depth) + 1) + 1 := rfl
  rw [hd]
  simp only [liesAt, Bool.or_eq_true]
  left
  rw [hd]
  have : ¬ c = 0 := by omega
  simp [rowAt, hc, hn, sameLayout, this]
theorem WpL.ofUns {s t u c : TypeId} {x : Operand} {id ep : Nat} {ob : AObj} {j : TypeInfo} (hs : P.underlying s = some .unsafePointer) (ht : P.underlying t = some (.pointer u)) (hu : P.info? u = some j) (hc : P.cellsOf u = c) (hc0 : 0 < c)
    (hx : av T x = .ptr id ep 0) (ho : O[id]? = some ob) (he : ob.ep = ep) (hty : ob.ty = some u) (hlen : c ≤ ob.cells.length) (hn : d < n) (h : WpL P n m G false ops l ⟨(d, .ptr id ep 0) :: T, O⟩ Q) :
    WpL P n m G false ops ({ dst := some d, op := .convert s t x, type := tt, pos := pos, after := after, guard := none } :: l) ⟨T, O⟩ Q :=
  WpL.pure rfl rfl hn (fun S ι F a w hr => by
    obtain ⟨b, k, cur, tb, fz, hι, hxe, hb, hk, hle, hty2⟩ := hr.ptrE hx ho he
    obtain ⟨rfl, rfl⟩ := hty2 u hty
    have hsh : w.shape? b = some (tb, cur.size) := by simp [World.shape?, hb]
    have hrun := Lib.run_from_unsafe (P := P) w (src := s) (dst := t) (cells := cur.size) ⟨b, 0, none⟩ hs ht hu hsh (liesAt_same hc hc0 _ (by rw [hc]; exact (Nat.le_div_iff_mul_le hc0).2 (by rw [Nat.one_mul, hk]; exact Nat.le_trans hlen hle)))
    have hv := hr.eval x
    rw [hx, hxe] at hv
    exact ⟨.pointer (some ⟨b, 0, none⟩), by simp only [execOp, hxe, Sem.run_bind, hrun, Result.andThen_ok, Sem.run_pure], hv⟩) h
theorem WpL.extId {f : FuncId} {fn : Func} {x : Operand} {ats : Array TypeId} {V : AV} (hf : P.funcs[f]? = some fn) (hname : (fn.name == "runtime.NumGoroutine") = false) (hb : fn.body.isNone = true) (hnx : Extern.findNext fn = none)
    (he : Extern.find fn = some Extern.AbiNoEscape.same) (hx : av T x = V) (hn : d < n) (h : WpL P n m G false ops l ⟨(d, V) :: T, O⟩ Q) :
    WpL P n m G false ops ({ dst := some d, op := .call { callee := .value (.func f), args := #[x], argTypes := ats }, type := tt, pos := pos, after := after, guard := none } :: l) ⟨T, O⟩ Q :=
  WpL.pure rfl rfl hn (fun S ι F a w hr => by
    have hrun := run_callFunc_extern hf hname hb hnx he #[a.eval x] w
    rw [Lib.run_noEscape] at hrun
    have hv := hr.eval x
    rw [show av (St.mk T O).T x = V from hx] at hv
    refine ⟨a.eval x, ?_, hv⟩
    have e0 : a.eval (.func f) = .func (.func f) #[] #[] := rfl
    simp only [execOp, resolve, e0, Deferred.ofValue, invoke, List.map_toArray, List.map_cons, List.map_nil, Sem.run_bind, Sem.run_pure, Result.andThen_ok]
    exact hrun) h
theorem WpL.ptrSame {t te ty : TypeId} {x y : Operand} {id ep off : Nat} {ob : AObj} {j : TypeInfo} (hp : P.underlying t = some (.pointer te)) (hte : P.info? te = some j) (hx : av T x = .ptr id ep off) (hy : av T y = .ptr id ep off) (ho : O[id]? = some ob) (he : ob.ep = ep) (hn : d < n)
    (hg : P.eqGuardType P.depth t = false)
    (h : WpL P n m G false ops l ⟨(d, .sc (.bool false)) :: T, O⟩ Q) :
    WpL P n m G false ops ({ dst := some d, op := .binOp .neq t x y ty, type := tt, pos := pos, after := after, guard := none } :: l) ⟨T, O⟩ Q :=
  WpL.pure rfl rfl hn (fun S ι F a w hr => by
    obtain ⟨b, k, cur, tb, fz, hι, hxe, hb, hk, hle, hty⟩ := hr.ptrE hx ho he
    obtain ⟨b', k', _, _, _, hι', hye, _⟩ := hr.ptrE hy ho he
    rw [hι] at hι'; cases hι'
    have hrun := Lib.run_neq_ptr_same (P := P) w ⟨b, off, none⟩ hp hte
    refine ⟨.bool false, ?_, .sc .nil⟩
    simp only [execOp, hxe, hye, Sem.run_bind, Sem.run_pure, Result.andThen_ok]
    simp [eqGuard, hrun, Sem.run_bind]) h
theorem WpL.slData {md : Bool} {ats : Array TypeId} {x : Operand} {id ep len : Nat} {ob : AObj} (hx : av T x = .own id ep 0 len) (hl : 0 < len) (ho : O[id]? = some ob) (he : ob.ep = ep) (hn : d < n) (h : WpL P n m G md ops l ⟨(d, .ptr id ep 0) :: T, O⟩ Q) :
    WpL P n m G md ops ({ dst := some d, op := .call { callee := .builtin .unsafeSliceData, args := #[x], argTypes := ats }, type := tt, pos := pos, after := after, guard := none } :: l) ⟨T, O⟩ Q :=
  WpL.pure rfl rfl hn (fun S ι F a w hr => by
    have hv := hr.eval x
    rw [show av (St.mk T O).T x = _ from hx] at hv
    cases hv with
    | own q1 q2 q3 r =>
      rw [show (St.mk T O).O[id]? = some ob from ho] at q1
      cases q1
      have hc := q3 he.symm
      cases hs : ι id with
      | none => rw [hs] at hc; obtain ⟨_, _, h3⟩ := hc; omega
      | some p =>
        obtain ⟨b, k⟩ := p
        rw [hs] at hc
        obtain ⟨cap, h1, h2, h3, h4⟩ := hc
        have hrun := Lib.run_unsafeSliceData_row (P := P) w ats tt ⟨b, 0, none⟩ len cap (by omega)
        refine ⟨.pointer (some ⟨b, 0, none⟩), ?_, .ptr ho (Nat.le_of_eq he.symm) (fun _ => by rw [hs]; rfl) .nil⟩
        simp only [execOp, resolve, invoke, builtin, Sem.run_bind, Sem.run_pure, Result.andThen_ok, List.map_toArray, List.map_cons, List.map_nil, h1, hrun]) h
theorem lrel_u8s2 {S w ι O F} : ∀ {xs : List UInt8} {us}, LRel S w ι O (u8s (xs.map fun b => (b.toNat : Int))) us F → us = xs.map (fun b => Value.int .u8 b.toNat)
  | [], us, h => by cases h; rfl
  | x :: xs, us, h => by
    cases h with
    | sc h2 => rw [lrel_u8s2 h2]; rfl
theorem WpL.strOver {pt it e : TypeId} {x y : Operand} {id ep sz : Nat} {s : List UInt8} (hpt : P.underlying pt = some (.pointer e)) (hc : P.cellsOf e = 1) (hx : av T x = .ptr id ep 0) (ho : O[id]? = some ⟨u8s (s.map fun b => (b.toNat : Int)), ep, sz, some e⟩)
    (hs0 : 0 < s.length) (h63 : s.length ≤ 9223372036854775807) (hy : av T y = .sc (.int .i64 s.length)) (hm : m ≤ id) (hn : d < n)
    (h : WpL P n m G false ops l ⟨(d, .sc (.string ⟨s.toArray⟩)) :: T, O.set id ⟨[], ep + 1, 0, none⟩⟩ Q) :
    WpL P n m G false ops ({ dst := some d, op := .call { callee := .builtin .unsafeString, args := #[x, y], argTypes := #[pt, it] }, type := tt, pos := pos, after := after, guard := none } :: l) ⟨T, O⟩ Q :=
  WpL.value rfl (fun a w hr => by
    obtain ⟨S, ι, F, hr⟩ := hr
    obtain ⟨b, k, cur, tb, fz, hι, hxe, hb, hk, hle, hty⟩ := hr.ptrE hx ho rfl
    obtain ⟨rfl, rfl⟩ := hty e rfl
    have hye := hr.sc hy
    have hob := hr.objs.obj id _ ho
    unfold ObjAt at hob
    rw [hι] at hob
    obtain ⟨cur', t', fz', f', hF, hb', hk', hle', hfz', hty', hl⟩ := hob
    rw [hb] at hb'; cases hb'
    have hus := lrel_u8s2 hl
    have hlen : (u8s (s.map fun b => (b.toNat : Int))).length = s.length := by simp
    have hcell : ∀ j x, s[j]? = some x → w.cell? ((⟨b, 0, none⟩ : Addr).add j) = some (.int .u8 x.toNat) := by
      intro j x hj
      have hlt := (List.getElem?_eq_some_iff.1 hj).1
      rw [addr_add, Nat.zero_add, cell_of_row w b j cur tb (0, 0) hb]
      have h1 : (cur.toList.take (u8s (s.map fun b => (b.toNat : Int))).length)[j]? = some (Value.int .u8 x.toNat) := by
        rw [hus, List.getElem?_map, hj]; rfl
      rw [hlen, List.getElem?_take, if_pos hlt] at h1
      simpa using h1
    have hsh : w.shape? b = some (tb, cur.size) := by simp [World.shape?, hb]
    have hrun := Lib.run_unsafeString_row (P := P) w pt it tt tb hpt hc b cur.size hsh s (by intro hh; rw [hh] at hs0; simp at hs0) (by rw [hlen] at hle; omega) h63 hcell
    have hfr : ∀ b', b' ≠ b → (w.freeze ⟨b, 0, none⟩ s.length).heap[b']? = w.heap[b']? := by
      intro b' hb'
      unfold World.freeze
      rw [if_neg (by omega)]
      simp only [Array.getElem?_modify]
      rw [if_neg (fun h => hb' h.symm)]
    have hsz : (w.freeze ⟨b, 0, none⟩ s.length).heap.size = w.heap.size := by unfold World.freeze; rw [if_neg (by omega)]; simp
    have hoth : (w.freeze ⟨b, 0, none⟩ s.length).os = w.os ∧ (w.freeze ⟨b, 0, none⟩ s.length).tape = w.tape ∧ (w.freeze ⟨b, 0, none⟩ s.length).output = w.output := by unfold World.freeze; rw [if_neg (by omega)]; exact ⟨rfl, rfl, rfl⟩
    have hr' := hr.renew (w' := w.freeze ⟨b, 0, none⟩ s.length) (ob' := ⟨[], ep + 1, 0, none⟩) (s' := none) (f' := []) ho hm (by simp) hoth.1 hoth.2.1 hoth.2.2 (by omega) (fun b' _ hb' => by
      refine hfr b' ?_
      rintro rfl
      rcases hb' with hb' | ⟨hb', _⟩
      · exact hb' (by rw [hF]; simp)
      · simp at hb') (fun _ => ⟨rfl, rfl⟩) (by simp) (by simp)
    refine ⟨.string ⟨s.toArray⟩, _, ?_, _, _, _, hr'.2.put hn (.sc .nil)⟩
    simp only [execOp, resolve, invoke, builtin, Sem.run_bind, Sem.run_pure, Result.andThen_ok, List.map_toArray, List.map_cons, List.map_nil, hxe, hye, hrun]) h
theorem WpL.nilYes {t ty : TypeId} {x y : Operand} (hp : P.underlying t = some (.pointer (P.pointee t))) (hx : av T x = .sc (.pointer none)) (hy : av T y = .sc (.pointer none)) (hn : d < n) (h : WpL P n m G false ops l ⟨(d, .sc (.bool true)) :: T, O⟩ Q) :
    WpL P n m G false ops ({ dst := some d, op := .binOp .eql t x y ty, type := tt, pos := pos, after := after, guard := none } :: l) ⟨T, O⟩ Q :=
  WpL.pure rfl rfl hn (fun S ι F a w hr => by
    have hrun := run_eql_pointer_nil (P := P) w t none hp
    refine ⟨.bool true, ?_, .sc .nil⟩
    simp only [execOp, hr.sc hx, hr.sc hy, Sem.run_bind, Sem.run_pure, Result.andThen_ok]
    simp [eqGuard, hrun, Sem.run_bind]) h
theorem WpL.nilNo {t ty : TypeId} {x y : Operand} {id ep off : Nat} {ob : AObj} (hp : P.underlying t = some (.pointer (P.pointee t))) (hx : av T x = .ptr id ep off) (ho : O[id]? = some ob) (he : ob.ep = ep) (hy : av T y = .sc (.pointer none)) (hn : d < n) (h : WpL P n m G false ops l ⟨(d, .sc (.bool false)) :: T, O⟩ Q) :
    WpL P n m G false ops ({ dst := some d, op := .binOp .eql t x y ty, type := tt, pos := pos, after := after, guard := none } :: l) ⟨T, O⟩ Q :=
  WpL.pure rfl rfl hn (fun S ι F a w hr => by
    obtain ⟨b, k, cur, tb, fz, hι, hxe, hb, hk, hle, hty⟩ := hr.ptrE hx ho he
    have hrun := run_eql_pointer_nil (P := P) w t (some ⟨b, off, none⟩) hp
    refine ⟨.bool false, ?_, .sc .nil⟩
    simp only [execOp, hxe, hr.sc hy, Sem.run_bind, Sem.run_pure, Result.andThen_ok]
    simp [eqGuard, hrun, Sem.run_bind]) h
abbrev ByO (e : Nat) (s : List UInt8) (ep : Nat) : AObj := ⟨u8s (s.map fun b => (b.toNat : Int)), ep, 1, some e⟩
theorem lrel_u8m {S w ι O} : ∀ (s : List UInt8), LRel S w ι O (u8s (s.map fun b => (b.toNat : Int))) (s.map fun b => Value.int .u8 b.toNat) []
  | [] => .nil
  | _ :: s => .sc (lrel_u8m s)
theorem u8l_f {S w ι O F} : ∀ {xs : List UInt8} {us}, LRel S w ι O (u8s (xs.map fun b => (b.toNat : Int))) us F → F = []
  | [], us, h => by cases h; rfl
  | x :: xs, us, h => by
    cases h with
    | sc h2 => exact u8l_f h2
theorem WpL.appStr {t u e : TypeId} {i : TypeInfo} {x y : Operand} {id ep len : Nat} {s0 s : List UInt8} (ht : P.underlying t = some (.slice e)) (hu : P.underlying u = some .string) (hi : P.info? e = some i) (hz : i.zero = some (.int .u8 0)) (hsize : i.size = 1) (hby : i.bytes = 1)
    (hx : av T x = .own id ep 0 len) (ho : O[id]? = some (ByO e s0 ep)) (hl0 : s0.length = len) (hm : m ≤ id) (hy : av T y = .sc (.string ⟨s.toArray⟩)) (hb : len + s.length ≤ 1099511627776) (hn : d < n)
    (h : WpL P n m G false ops l ⟨(d, .own id (ep + 1) 0 (len + s.length)) :: T, O.set id (ByO e (s0 ++ s) (ep + 1))⟩ Q) :
    WpL P n m G false ops ({ dst := some d, op := .call { callee := .builtin .append, args := #[x, y], argTypes := #[t, u] }, type := tt, pos := pos, after := after, guard := none } :: l) ⟨T, O⟩ Q :=
  WpL.value rfl (fun a w hr => by
    obtain ⟨S, ι, F, hr⟩ := hr
    have hid : id < O.length := (List.getElem?_eq_some_iff.1 ho).1
    have hye := hr.sc hy
    have hsz : (ByteArray.mk s.toArray).size = s.length := by simp [ByteArray.size]
    have hcl : Lib.strCells ⟨s.toArray⟩ = s.map fun b => Value.int .u8 b.toNat := by simp [Lib.strCells]
    have hv := hr.eval x
    rw [show av (St.mk T O).T x = _ from hx] at hv
    have hob := hr.objs.obj id _ ho
    unfold ObjAt at hob
    have hown : OwnAt (ι id) 1 0 len (a.eval x) := by
      cases hv with
      | own q1 q2 q3 r =>
        rw [show (St.mk T O).O[id]? = some _ from ho] at q1
        cases q1
        exact q3 rfl
    have hlenA : (u8s ((s0 ++ s).map fun b => (b.toNat : Int))).length = len + s.length := by simp [hl0]
    have finish : ∀ (w' : World) (s' : Spot) (f' : List Nat) (v : Value), (Builtin.append_ #[t, u] tt #[a.eval x, a.eval y]).run P w = .ok v w' →
        Later S w ι O S w' (upd ι id s') (O.set id (ByO e (s0 ++ s) (ep + 1))) ∧ RelAt n m G S (upd ι id s') (upd F id f') ⟨T, O.set id (ByO e (s0 ++ s) (ep + 1))⟩ a w' → OwnAt s' 1 0 (len + s.length) v →
        ∃ v w', (execOp a.eval { dst := some d, op := .call { callee := .builtin .append, args := #[x, y], argTypes := #[t, u] }, type := tt, pos := pos, after := after, guard := none }).run P w = .ok (.value v) w' ∧
          Rel n m G ⟨(d, .own id (ep + 1) 0 (len + s.length)) :: T, O.set id (ByO e (s0 ++ s) (ep + 1))⟩ (a.put (some d) v) w' := by
      intro w' s' f' v hrun hr' hoa
      refine ⟨v, w', by simp only [execOp, resolve, invoke, builtin, Sem.run_bind, Sem.run_pure, Result.andThen_ok, List.map_toArray, List.map_cons, List.map_nil, hrun], _, _, _, hr'.2.put hn ?_⟩
      exact .own (ob := ByO e (s0 ++ s) (ep + 1)) (by rw [List.getElem?_set_self hid]) (Nat.le_refl _) (fun _ => by rw [upd_same]; exact hoa) .nil
    have fresh : ∀ (oldc : Nat), len + s.length ≤ grownCap w (len + s.length) oldc e →
        (Builtin.append_ #[t, u] tt #[a.eval x, a.eval y]).run P w = .ok (.slice (some ⟨w.heap.size, 0, none⟩) (len + s.length) (grownCap w (len + s.length) oldc e)) (w.drew.alloc (.cells ((s0.map fun b => Value.int .u8 b.toNat).toArray ++ (s.map fun b => Value.int .u8 b.toNat).toArray ++ Builtin.zeroCells (Value.int .u8 0).cells (grownCap w (len + s.length) oldc e - (len + s.length))) e)) →
        ∃ v w', (execOp a.eval { dst := some d, op := .call { callee := .builtin .append, args := #[x, y], argTypes := #[t, u] }, type := tt, pos := pos, after := after, guard := none }).run P w = .ok (.value v) w' ∧
          Rel n m G ⟨(d, .own id (ep + 1) 0 (len + s.length)) :: T, O.set id (ByO e (s0 ++ s) (ep + 1))⟩ (a.put (some d) v) w' := by
      intro oldc hge hrun
      have hcm := grownCap_le_maxLen w (len + s.length) oldc e (by simp only [maxLen]; omega)
      have hA := adds_drew_alloc w (.cells ((s0.map fun b => Value.int .u8 b.toNat).toArray ++ (s.map fun b => Value.int .u8 b.toNat).toArray ++ Builtin.zeroCells (Value.int .u8 0).cells (grownCap w (len + s.length) oldc e - (len + s.length))) e)
      have hz1 : (Value.int IntKind.u8 0).cells.size = 1 := rfl
      have hszc : ((s0.map fun b => Value.int .u8 b.toNat).toArray ++ (s.map fun b => Value.int .u8 b.toNat).toArray ++ Builtin.zeroCells (Value.int .u8 0).cells (grownCap w (len + s.length) oldc e - (len + s.length))).size = grownCap w (len + s.length) oldc e := by
        simp only [Array.size_append, List.size_toArray, zeroCells_size, hz1, List.length_map, hl0]; omega
      refine finish _ (some (w.heap.size, grownCap w (len + s.length) oldc e)) [w.heap.size] _ hrun (hr.renew (ob' := ByO e (s0 ++ s) (ep + 1)) ho hm (Nat.lt_succ_self ep) rfl rfl rfl (by rw [hA.size]; omega) (fun b' hb' _ => hA.old hb') ?_ (by simp) ?_) ⟨_, rfl, by omega, hge, hcm⟩
      · intro hlat
        refine ⟨_, e, (0, 0), [], rfl, hA.new, hszc, by show (u8s _).length ≤ _; rw [hlenA]; exact hge, by simp, by simp, ?_⟩
        have htk : ((s0.map fun b => Value.int .u8 b.toNat).toArray ++ (s.map fun b => Value.int .u8 b.toNat).toArray ++ Builtin.zeroCells (Value.int .u8 0).cells (grownCap w (len + s.length) oldc e - (len + s.length))).toList.take (u8s ((s0 ++ s).map fun b => (b.toNat : Int))).length = (s0 ++ s).map fun b => Value.int .u8 b.toNat := by
          rw [Array.toList_append, Array.toList_append]
          refine (List.take_left' ?_).trans (by simp)
          rw [hlenA]; simp [hl0]
        show LRel S _ _ _ (u8s _) _ []
        rw [htk]
        exact lrel_u8m _
      · intro b' hb'
        rw [List.mem_singleton] at hb'; subst hb'
        exact .inr ⟨Nat.le_refl _, by rw [hA.size]; omega⟩
    cases hspot : ι id with
    | none =>
      rw [hspot] at hown hob
      obtain ⟨hxe, _, hlen0⟩ := hown
      obtain ⟨hcells, hFid⟩ := hob
      have hs0 : s0 = [] := List.eq_nil_of_length_eq_zero (by omega)
      by_cases hc0 : s.length = 0
      · have hs : s = [] := List.eq_nil_of_length_eq_zero hc0
        subst hs
        have hrun : (Builtin.append_ #[t, u] tt #[a.eval x, a.eval y]).run P w = .ok (.slice none 0 0) w := by
          have hf := Lib.run_firstCells_string (P := P) w 1 ⟨#[]⟩
          have h0 : (ByteArray.mk #[]).size = 0 := rfl
          rw [h0] at hf
          rw [hxe, hye]
          simp [Builtin.append_, run_underlying ht, run_underlying hu, sizeOf, typeInfo, hi, hsize, Builtin.lenOf, hf, h0]
        refine finish w none [] _ hrun (hr.renew (ob' := ByO e (s0 ++ []) (ep + 1)) ho hm (Nat.lt_succ_self ep) rfl rfl rfl (Nat.le_refl _) (fun _ _ _ => rfl) (fun _ => ⟨by rw [hs0]; rfl, rfl⟩) (by simp) (by simp)) ⟨rfl, rfl, by simp [hlen0]⟩
      · have hr0 := run_append_nil_string (P := P) w t u tt e i (.int .u8 0) ht hu hi hz ⟨s.toArray⟩ (by rw [hsz]; omega) (by rw [hsz]; omega) (by rw [hsz, hby]; omega)
        rw [hsz] at hr0
        refine fresh 0 (grownCap_ge _ _ _ _) ?_
        rw [hxe, hye, hr0, hs0]
        subst hlen0
        simp only [Nat.zero_add, List.map_nil, Array.empty_append]
        congr 3
        simp
    | some p =>
      obtain ⟨b0, k0⟩ := p
      rw [hspot] at hown hob
      obtain ⟨cap, hxe, hcap0, hlc, hcm⟩ := hown
      obtain ⟨cur, t', fz, f', hF, hh, hcur, hle, hfz, htyp, hlo⟩ := hob
      obtain ⟨rfl, rfl⟩ := htyp e rfl
      have hcurs : cur.size = cap := by rw [hcur, ← hcap0]; omega
      have hf0 : f' = [] := u8l_f hlo
      have hlo2 := lrel_u8s2 hlo
      have hl8 : (u8s (s0.map fun b => (b.toNat : Int))).length = len := by simp [hl0]
      rw [show (ByO t' s0 ep).cells.length = len from hl8] at hlo2
      by_cases hroom : len + s.length ≤ cap
      · have hrun := Lib.run_append_room_string (P := P) w t u tt t' i ht hu hi hsize b0 len cap cur hh ⟨s.toArray⟩ (by rw [hsz]; exact hroom) (by rw [hsz, hcurs]; exact hroom)
        rw [hsz, hcl] at hrun
        have hsr := setRow_heap w b0 cur (cur.toList.take len ++ (s.map fun b => Value.int .u8 b.toNat) ++ cur.toList.drop (len + s.length)).toArray t' (0, 0) hh
        have hso : ∀ b', b' ≠ b0 → (w.setRow b0 (cur.toList.take len ++ (s.map fun b => Value.int .u8 b.toNat) ++ cur.toList.drop (len + s.length)).toArray).heap[b']? = w.heap[b']? := fun b' hb' => setRow_other w b0 b' _ hb'
        refine finish (w.setRow b0 (cur.toList.take len ++ (s.map fun b => Value.int .u8 b.toNat) ++ cur.toList.drop (len + s.length)).toArray) (some (b0, k0)) [b0] _ (by rw [hxe, hye]; exact hrun) (hr.renew (ob' := ByO t' (s0 ++ s) (ep + 1)) ho hm (Nat.lt_succ_self ep) rfl rfl rfl (by simp) ?_ ?_ (by simp) ?_) ⟨cap, rfl, by rw [← hcap0], hroom, hcm⟩
        · intro b' _ hb'
          refine hso b' ?_
          rintro rfl
          rcases hb' with hb' | ⟨_, hb'⟩
          · exact hb' (by rw [hF]; simp)
          · exact hb' k0 rfl
        · intro hlat
          refine ⟨_, t', (0, 0), [], rfl, hsr, ?_, ?_, by simp, by simp, ?_⟩
          · rw [← hcur, hcurs]; simp; omega
          · show (u8s _).length ≤ k0
            rw [hlenA, ← hcur, hcurs]; exact hroom
          · show LRel S _ _ _ (u8s _) _ []
            have htk : (cur.toList.take len ++ (s.map fun b => Value.int .u8 b.toNat) ++ cur.toList.drop (len + s.length)).toArray.toList.take (u8s ((s0 ++ s).map fun b => (b.toNat : Int))).length = (s0 ++ s).map fun b => Value.int .u8 b.toNat := by
              show (cur.toList.take len ++ (s.map fun b => Value.int .u8 b.toNat) ++ cur.toList.drop (len + s.length)).take _ = _
              rw [hlo2, hlenA]
              refine (List.take_left' ?_).trans (by simp)
              simp [hl0]
            rw [htk]
            exact lrel_u8m _
        · intro b' hb'
          rw [List.mem_singleton] at hb'; subst hb'
          exact .inl (by rw [hF]; simp)
      · have hrun := Lib.run_append_grow_string (P := P) w t u tt t' i (.int .u8 0) ht hu hi hz ⟨b0, 0, none⟩ len cap (s0.map fun b => Value.int .u8 b.toNat) (by simp [hl0, hsize]) (by
          intro j v hj
          have hlt := (List.getElem?_eq_some_iff.1 hj).1
          rw [addr_add, Nat.zero_add, cell_of_row w b0 j cur t' (0, 0) hh]
          rw [← hlo2, List.getElem?_take] at hj
          split at hj
          · simpa using hj
          · simp at hj) ⟨s.toArray⟩ (by rw [hsz]; omega) (by rw [hsz]; omega) (by rw [hsz, hby]; exact growslice_fits (by omega) (by omega))
        rw [hsz, hcl] at hrun
        exact fresh cap (grownCap_ge _ _ _ _) (by rw [hxe, hye]; exact hrun)) h
end
end Go.Abs


namespace Go.Proofs.YtkckmenalehdpaaDoor
open Go Go.Abs
theorem mark_step {α : Type} (f : Nat → α) (l : List α) (i : Nat) (h : i < l.length) : ((List.range i).map f ++ l.drop i).set i (f i) = (List.range (i + 1)).map f ++ l.drop (i + 1) := by
  rw [List.set_append_right _ _ (by simp), List.range_succ, List.drop_eq_getElem_cons h]; simp; rw [List.drop_eq_getElem_cons h]; rfl
theorem held_step {α : Type} (f : Nat → α) (z : α) (l : List α) (i : Nat) (h : i < l.length) (h1 : l.take i = (List.range i).map f) (h2 : l.getD i z = f i) : l.take (i + 1) = (List.range (i + 1)).map f := by
  rw [List.take_succ_eq_append_getElem h, h1, List.range_succ]; simp [h] at h2 ⊢; exact h2
theorem held_not {α : Type} (f : Nat → α) (z : α) (l : List α) (i : Nat) (h : i < l.length) (h2 : ¬ l.getD i z = f i) : ¬ l = (List.range l.length).map f := by
  intro e; apply h2; rw [e]; simp [h]
abbrev IN (l : List Int) : AObj := ⟨ints l, 0, 1, none⟩
def bn (b : Blok) : Nat := b.2.length
def bw (l : List Blok) : Nat := l.length + (l.map bn).sum
end Go.Proofs.YtkckmenalehdpaaDoor


namespace Go.Proofs.YtkckmenalehdpaaDoor
open Go Go.Abs
attribute [local irreducible] WpA WpL Rnd Blk Abs.Seq Abs.Fin FnC
abbrev nilP : AV := .sc (.pointer none)
abbrev BlO (c : AV) (n : Nat) : AObj := ⟨[c, .own 1 0 0 n], 0, 0, some 71⟩
abbrev BB (s : List UInt8) : AObj := ByO 5 s 0
theorem bld_ptr : Tryd.prog.underlying 69 = some (.pointer 71) := by kernel_rfl
theorem bld_ptr2 : Tryd.prog.underlying 69 = some (.pointer (Tryd.prog.pointee 69)) := by kernel_rfl
theorem uns_ptr : Tryd.prog.underlying 95 = some .unsafePointer := by kernel_rfl
theorem bld_cells : Tryd.prog.cellsOf 71 = 2 := by kernel_rfl
theorem bld_info : ∃ j, Tryd.prog.info? 71 = some j ∧ j.size ≠ 0 := by
  have h : (Tryd.prog.info? 71).any (fun j => j.size != 0) = true := by kernel_rfl
  cases hh : Tryd.prog.info? 71 with
  | none => rw [hh] at h; simp at h
  | some j => rw [hh] at h; exact ⟨j, rfl, by simpa using h⟩
theorem noEsc : ∃ fn, Tryd.prog.funcs[(85 : Nat)]? = some fn ∧ (fn.name == "runtime.NumGoroutine") = false ∧ fn.body.isNone = true ∧ Extern.findNext fn = none ∧ Extern.find fn = some Extern.AbiNoEscape.same := ⟨_, Tryd.func85, by kernel_rfl, by kernel_rfl, by kernel_rfl, by kernel_rfl⟩
theorem copyCheck_0 (s : List UInt8) : FnH Tryd.prog 72 [.ptr 0 0 0] 2 [BlO nilP s.length, BB s] [BlO (.ptr 0 0 0) s.length, BB s] (.tup []) := by
  refine FnH.of_bodyW tabOk Tryd.func72 Tryd.ntmps72 rfl (by decide +kernel) (by simp) (by simp) (by simp) fun G => ?_
  refine goR (r := ?_); and_intros <;> intros <;> try exact True.intro
  refine WpL.nilYes bld_ptr2 rfl rfl (by decide) ?_
  refine goR (r := ?_); and_intros <;> intros <;> try exact True.intro
  obtain ⟨j, hj, hj0⟩ := bld_info
  refine WpL.toUns bld_ptr uns_ptr hj hj0 rfl rfl rfl (Nat.le_of_ble_eq_true rfl) (by decide) ?_
  obtain ⟨fn, e1, e2, e3, e4, e5⟩ := noEsc
  refine WpL.extId e1 e2 e3 e4 e5 rfl (by decide) ?_
  refine WpL.ofUns uns_ptr bld_ptr hj bld_cells (by decide) rfl rfl rfl rfl (Nat.le_of_ble_eq_true rfl) (by decide) ?_
  refine goR (r := ?_); and_intros <;> intros <;> try exact True.intro
  refine ⟨⟨[], [BlO (.ptr 0 0 0) s.length, BB s]⟩, Weak.mk .nil (.cons (.ptr rfl rfl rfl rfl (.own rfl rfl rfl rfl rfl rfl .nil)) (.inr rfl) (.cons (Re.same rfl (still_u8s _)) (.inr rfl) .nil)) (Nat.le_of_ble_eq_true rfl), FinH.normal (.zero rfl)⟩
theorem copyCheck_1 (s : List UInt8) : FnH Tryd.prog 72 [.ptr 0 0 0] 2 [BlO (.ptr 0 0 0) s.length, BB s] [BlO (.ptr 0 0 0) s.length, BB s] (.tup []) := by
  refine FnH.of_bodyW tabOk Tryd.func72 Tryd.ntmps72 rfl (by decide +kernel) (by simp) (by simp) (by simp) fun G => ?_
  refine goR (r := ?_); and_intros <;> intros <;> try exact True.intro
  refine WpL.nilNo bld_ptr2 rfl rfl rfl rfl (by decide) ?_
  refine goR (r := ?_); and_intros <;> intros <;> try exact True.intro
  obtain ⟨j, hj, hj0⟩ := bld_info
  refine WpL.ptrSame bld_ptr hj rfl rfl rfl rfl (by decide) (by kernel_rfl) ?_
  refine goR (r := ?_); and_intros <;> intros <;> try exact True.intro
  refine ⟨⟨[], [BlO (.ptr 0 0 0) s.length, BB s]⟩, Weak.mk .nil (.cons (.ptr rfl rfl rfl rfl (.own rfl rfl rfl rfl rfl rfl .nil)) (.inr rfl) (.cons (Re.same rfl (still_u8s _)) (.inr rfl) .nil)) (Nat.le_of_ble_eq_true rfl), FinH.normal (.zero rfl)⟩
theorem u8_info : ∃ i, Tryd.prog.info? 5 = some i ∧ i.zero = some (.int .u8 0) ∧ i.size = 1 ∧ i.bytes = 1 := by
  have h : (Tryd.prog.info? 5).any (fun j => j.size == 1 && j.bytes == 1 && (match j.zero with | some (.int .u8 0) => true | _ => false)) = true := by kernel_rfl
  cases hh : Tryd.prog.info? 5 with
  | none => rw [hh] at h; simp at h
  | some j =>
    rw [hh] at h
    simp only [Option.any_some, Bool.and_eq_true, beq_iff_eq] at h
    refine ⟨j, rfl, ?_, h.1.1, h.1.2⟩
    have h3 := h.2
    split at h3
    · rename_i he; exact he
    · cases h3
theorem u8_slice : Tryd.prog.underlying 67 = some (.slice 5) := by kernel_rfl
theorem u8p : Tryd.prog.underlying 86 = some (.pointer 5) := by kernel_rfl
theorem u8cells : Tryd.prog.cellsOf 5 = 1 := by kernel_rfl
theorem str_str : Tryd.prog.underlying 9 = some .string := by kernel_rfl
theorem hmk2 {m : Nat} : ∀ (j id : Nat), 2 ≤ j → [0, 1][j]? = some id → m ≤ id := fun j id hj hid => by
  match j, hj with
  | j + 2, _ => simp at hid
theorem writeString_0 (s z : List UInt8) (hl : s.length ≤ 549755813888 ∧ z.length ≤ 549755813888) : FnH Tryd.prog 52 [.ptr 0 0 0, Z z] 1 [BlO nilP s.length, BB s] [BlO (.ptr 0 0 0) (s ++ z).length, BB (s ++ z)] (.tup [I z.length, .sc .nilIface]) := by
  have hc := copyCheck_0 s
  obtain ⟨i8, hi, hz, h1, h2⟩ := u8_info
  have hlz := @List.length_append _ s z
  refine FnH.of_bodyW tabOk Tryd.func52 Tryd.ntmps52 rfl (by decide +kernel) (by simp) (by simp) (by simp) fun G => ?_
  refine goR (r := ?_); and_intros <;> intros <;> try exact True.intro
  refine K.call ?_
  refine WpL.callH (hs := [0, 1]) (base := 2) hc (.ptr rfl rfl rfl .nil) (.hand rfl (.keep rfl rfl (.own rfl rfl rfl rfl .nil)) rfl rfl rfl (.inr rfl) (.still rfl rfl (still_u8s _) rfl rfl (.inr rfl) .nil)) rfl (hmk2) rfl (.turn rfl (by decide) rfl rfl (.pold (by decide) rfl rfl (.old (by decide) rfl rfl .nil)) (.turn rfl (by decide) rfl rfl (Back.all rfl (still_u8s _) (Loc.u8s _)) .nil)) .nil (.tup .nil .nil) rfl (by decide) ?_
  refine goR (r := ?_); and_intros <;> intros <;> try exact True.intro
  refine WpL.appStr u8_slice str_str hi hz h1 h2 rfl rfl rfl (by decide) rfl (by omega) (by decide) ?_
  refine goR (r := ?_); and_intros <;> intros <;> try exact True.intro
  refine ⟨⟨[(4, I z.length), (5, .sc .nilIface)], [BlO (.ptr 0 0 0) (s ++ z).length, BB (s ++ z)]⟩, Weak.mk (.cons (.keep rfl rfl .nil) (.cons (.keep rfl rfl .nil) .nil)) (.cons (.ptr rfl rfl rfl rfl (.own rfl rfl rfl rfl rfl hlz.symm .nil)) (.inr rfl) (.cons (Re.same rfl (still_u8s _)) (.inr rfl) .nil)) (Nat.le_of_ble_eq_true rfl), FinH.ret (.two (ResV.tmp rfl) (ResV.tmp rfl) rfl)⟩
theorem writeString_1 (s z : List UInt8) (hl : s.length ≤ 549755813888 ∧ z.length ≤ 549755813888) : FnH Tryd.prog 52 [.ptr 0 0 0, Z z] 1 [BlO (.ptr 0 0 0) s.length, BB s] [BlO (.ptr 0 0 0) (s ++ z).length, BB (s ++ z)] (.tup [I z.length, .sc .nilIface]) := by
  have hc := copyCheck_1 s
  obtain ⟨i8, hi, hz, h1, h2⟩ := u8_info
  have hlz := @List.length_append _ s z
  refine FnH.of_bodyW tabOk Tryd.func52 Tryd.ntmps52 rfl (by decide +kernel) (by simp) (by simp) (by simp) fun G => ?_
  refine goR (r := ?_); and_intros <;> intros <;> try exact True.intro
  refine K.call ?_
  refine WpL.callH (hs := [0, 1]) (base := 2) hc (.ptr rfl rfl rfl .nil) (.hand rfl (.ptr rfl rfl rfl (.own rfl rfl rfl rfl .nil)) rfl rfl rfl (.inr rfl) (.still rfl rfl (still_u8s _) rfl rfl (.inr rfl) .nil)) rfl (hmk2) rfl (.turn rfl (by decide) rfl rfl (.pold (by decide) rfl rfl (.old (by decide) rfl rfl .nil)) (.turn rfl (by decide) rfl rfl (Back.all rfl (still_u8s _) (Loc.u8s _)) .nil)) .nil (.tup .nil .nil) rfl (by decide) ?_
  refine goR (r := ?_); and_intros <;> intros <;> try exact True.intro
  refine WpL.appStr u8_slice str_str hi hz h1 h2 rfl rfl rfl (by decide) rfl (by omega) (by decide) ?_
  refine goR (r := ?_); and_intros <;> intros <;> try exact True.intro
  refine ⟨⟨[(4, I z.length), (5, .sc .nilIface)], [BlO (.ptr 0 0 0) (s ++ z).length, BB (s ++ z)]⟩, Weak.mk (.cons (.keep rfl rfl .nil) (.cons (.keep rfl rfl .nil) .nil)) (.cons (.ptr rfl rfl rfl rfl (.own rfl rfl rfl rfl rfl hlz.symm .nil)) (.inr rfl) (.cons (Re.same rfl (still_u8s _)) (.inr rfl) .nil)) (Nat.le_of_ble_eq_true rfl), FinH.ret (.two (ResV.tmp rfl) (ResV.tmp rfl) rfl)⟩
theorem writeByte_1 (s : List UInt8) (c : UInt8) (hl : s.length ≤ 549755813888) : FnH Tryd.prog 65 [.ptr 0 0 0, .sc (.int .u8 c.toNat)] 1 [BlO (.ptr 0 0 0) s.length, BB s] [BlO (.ptr 0 0 0) (s ++ [c]).length, BB (s ++ [c])] (.sc .nilIface) := by
  have hc := copyCheck_1 s
  have hlz := @List.length_append _ s [c]
  refine FnH.of_bodyW tabOk Tryd.func65 Tryd.ntmps65 rfl (by decide +kernel) (by simp) (by simp) (by simp) fun G => ?_
  refine goR (r := ?_); and_intros <;> intros <;> try exact True.intro
  refine K.call ?_
  refine WpL.callH (hs := [0, 1]) (base := 2) hc (.ptr rfl rfl rfl .nil) (.hand rfl (.ptr rfl rfl rfl (.own rfl rfl rfl rfl .nil)) rfl rfl rfl (.inr rfl) (.still rfl rfl (still_u8s _) rfl rfl (.inr rfl) .nil)) rfl (hmk2) rfl (.turn rfl (by decide) rfl rfl (.pold (by decide) rfl rfl (.old (by decide) rfl rfl .nil)) (.turn rfl (by decide) rfl rfl (Back.all rfl (still_u8s _) (Loc.u8s _)) .nil)) .nil (.tup .nil .nil) rfl (by decide) ?_
  refine goR (r := ?_); and_intros <;> intros <;> try exact True.intro
  rw [show BB (s ++ [c]) = (⟨u8s (s.map (fun b => (b.toNat : Int)) ++ [(c.toNat : Int)]), 0, 1, some 5⟩ : AObj) from by simp [ByO]]
  refine ⟨⟨[(4, .sc .nilIface)], [BlO (.ptr 0 0 0) (s ++ [c]).length, ⟨u8s (s.map (fun b => (b.toNat : Int)) ++ [(c.toNat : Int)]), 0, 1, some 5⟩]⟩, Weak.mk (.cons (.keep rfl rfl .nil) .nil) (.cons (.ptr rfl rfl rfl rfl (.own rfl rfl rfl rfl rfl hlz.symm .nil)) (.inr rfl) (.cons (Re.same rfl (still_u8s _)) (.inr rfl) .nil)) (Nat.le_of_ble_eq_true rfl), FinH.ret (.one (ResV.tmp rfl))⟩
def bpt (b : Bool) (id : Nat) : AV := bif b then .ptr id 0 0 else nilP
theorem writeString_b (b : Bool) (s z : List UInt8) (hl : s.length ≤ 549755813888 ∧ z.length ≤ 549755813888) : FnH Tryd.prog 52 [.ptr 0 0 0, Z z] 1 [BlO (bpt b 0) s.length, BB s] [BlO (.ptr 0 0 0) (s ++ z).length, BB (s ++ z)] (.tup [I z.length, .sc .nilIface]) := by
  cases b
  · exact writeString_0 s z hl
  · exact writeString_1 s z hl
theorem hand_bpt {O : List AObj} {hs : List Nat} {b : Bool} {id j : Nat} {ob : AObj} {vs us : List AV} (h0 : hs[j]? = some id) (h1 : O[id]? = some ob) (h2 : ob.ep = 0) (h3 : Hand O hs vs us) : Hand O hs (bpt b id :: vs) (bpt b j :: us) := by
  cases b
  · exact .keep rfl rfl h3
  · exact .ptr h0 h1 h2 h3
theorem nofre_bpt {b : Bool} {id : Nat} {cs : List AV} (h : cs.all AV.nofre = true) : (bpt b id :: cs).all AV.nofre = true := by cases b <;> simpa [bpt, AV.nofre] using h
theorem bString (b : Bool) (s : List UInt8) (hs : 0 < s.length) (hl : s.length ≤ 1099511627776) : FnH Tryd.prog 53 [.ptr 0 0 0] 1 [BlO (bpt b 0) s.length, BB s] [⟨[.any, .any], 0, 0, some 71⟩] (Z s) := by
  refine FnH.of_bodyW tabOk Tryd.func53 Tryd.ntmps53 rfl (by decide +kernel) (by simp) (by simp) (by simp) fun G => ?_
  refine goR (r := ?_); and_intros <;> intros <;> try exact True.intro
  refine WpA.regionT 10 mixed (by decide +kernel) ?_
  refine goR (r := ?_); and_intros <;> intros <;> try exact True.intro
  refine WpL.slData rfl hs rfl rfl (by decide) ?_
  refine goR (r := ?_); and_intros <;> intros <;> try exact True.intro
  refine WpL.strOver u8p u8cells rfl rfl hs (by omega) rfl (by decide) (by decide) ?_
  refine goR (r := ?_); and_intros <;> intros <;> try exact True.intro
  refine ⟨⟨[(2, Z s)], [⟨[.any, .any], 0, 0, some 71⟩]⟩, Weak.mk (.cons (.keep rfl rfl .nil) .nil) (.cons (.any (.any .nil)) (.inr rfl) .nil) (Nat.le_of_ble_eq_true rfl), FinH.ret (.one (ResV.tmp rfl))⟩
end Go.Proofs.YtkckmenalehdpaaDoor
