/- Proved in this text: lemmas and contracts of functions that the claim uses (parts: Lev, Stat, Sid, ResL, LevP, DrP, Work, DbP, FrP, EdgL, Nb, PredAt, PredL, RecL, Best). No condition. -/
import Derived.Test.YtjhejgamjlokdaaGreatQuM10
import Derived.Test.YtjhejgamjlokdaaGreatQuM9
set_option linter.unusedVariables false
set_option linter.unusedSimpArgs false
set_option maxRecDepth 100000
set_option maxHeartbeats 16000000


namespace Go.Proofs.YtjhejgamjlokdaaGreat
open Go Go.Abs
attribute [local irreducible] WpA WpL Rnd Blk Abs.Seq Abs.Fin Abs.FinG FnC FnG Only
abbrev FitM (l : List Int) : Prop := In l (-1000000000) 1000000000
instance l12Fits_s : Con 125 (∀ (l : List Int) (n : Int), l.length ≤ 1099511627776 ∧ 0 ≤ n ∧ n ≤ 8 → Fn 125 [IL l, I n] [] (B (decide (FitM l ∧ (l.length : Int) = n * n)))) := ⟨fun l n hl => by
  have hnn := mul_in (a := n) (b := n) (by omega) (by omega)
  refine FnC.of_body tabOk Tryz.func125 Tryz.ntmps125 rfl (by decide +kernel) (by simp) fun G => ?_
  refine go (r := ?_); and_intros <;> intros <;> try exact True.intro
  refine WpA.loop (fun k : Nat => ⟨[(0, IL l), (1, I n), (5, I k)], []⟩) (fun k => k ≤ l.length ∧ In (l.take k) (-1000000000) 1000000000) (fun k => l.length - k) 0 (by simp [in_nil]) (go (r := ?_)) (fun k hk => ?_)
  · trivial
  refine go (r := ?_); and_intros <;> intros <;> try exact True.intro
  · rename_i h1 h2
    symm; rw [decide_eq_false_iff_not]; exact fun hh => h2 (in_get hh.1 (by omega))
  · rw [in_snoc (by omega)]; simp_all
  · have e : k = l.length := by omega
    subst e
    have h3 := hk.2
    rw [List.take_length] at h3
    simp [h3]⟩
theorem prodL_le {n : Nat} {g : Nat → Nat → Int} {l : List Int} (h : n ≤ 8) : (prodL n g l).length ≤ 64 := by
  have := prodL_len n g l
  have h2 : n * n ≤ 8 * 8 := Nat.mul_le_mul h h
  split at this <;> omega
def trL (n : Int) (b : Bool) (l : List Int) : List Int := prodL n.toNat (mg n.toNat b) l
theorem trL_le {n : Int} {b : Bool} {l : List Int} (h : n ≤ 8) : (trL n b l).length ≤ 64 := prodL_le (by omega)
theorem trL_yes {n : Int} {b : Bool} {l : List Int} (h : n = 4 ∨ n = 8) (h1 : FitM l ∧ (l.length : Int) = n * n) : trL n b l = mulM n.toNat (mg n.toNat b) l := by
  rw [trL, prodL, if_pos]
  refine ⟨?_, h1.1⟩
  have := h1.2
  rcases h with rfl | rfl
  · show l.length = 16; omega
  · show l.length = 64; omega
theorem trL_no {n : Int} {b : Bool} {l : List Int} (h : n = 4 ∨ n = 8) (h1 : ¬ (FitM l ∧ (l.length : Int) = n * n)) : trL n b l = [] := by
  rw [trL, prodL, if_neg]
  intro hh; apply h1
  refine ⟨hh.2, ?_⟩
  rcases h with rfl | rfl
  · have : l.length = 16 := hh.1
    omega
  · have : l.length = 64 := hh.1
    omega
def gOf (M : List (List Int)) (r i : Nat) : Int := (M.getD r default).getD i 0
def MatOk (n : Nat) (M : List (List Int)) : Prop := M.length = n ∧ (∀ r, r < n → (M.getD r default).length = n) ∧ Sgn (gOf M)
instance product_c : Con 116 (∀ (n : Nat) (M : List (List Int)) (l : List Int), (n = 4 ∨ n = 8) ∧ MatOk n M ∧ l.length ≤ 1099511627776 → Fn 116 [LLn n M, IL l] [XI (prodL n (gOf M) l)] (.own 0 0 0 (prodL n (gOf M) l).length)) := ⟨fun n M l h => by
  obtain ⟨rfl | rfl, h1, h2⟩ := h
  · exact product_4 (gOf M) M l h1.2.2 ⟨h1.1, h1.2.1, fun _ _ _ _ => rfl⟩ h2
  · exact product_8 (gOf M) M l h1.2.2 ⟨h1.1, h1.2.1, fun _ _ _ _ => rfl⟩ h2⟩
theorem sumF_congr {f g : Nat → Int} : ∀ k, (∀ i, i < k → f i = g i) → sumF f k = sumF g k
  | 0, _ => rfl
  | k + 1, h => by rw [sumF, sumF, sumF_congr k (fun i hi => h i (by omega)), h k (by omega)]
theorem prodL_congr {n : Nat} {f g : Nat → Nat → Int} {l : List Int} (hn : 0 < n) (h : ∀ r i, r < n → i < n → f r i = g r i) : prodL n f l = prodL n g l := by
  have hm : mulM n f l = mulM n g l := by
    refine list_ext (N := n * n) (tabL_len _ _) (tabL_len _ _) fun q hq => ?_
    unfold mulM
    rw [tabL_get hq, tabL_get hq]
    have h1 : q / n < n := Nat.div_lt_of_lt_mul hq
    have h2 : q % n < n := Nat.mod_lt _ hn
    refine sumF_congr n fun i hi => ?_
    rw [h _ _ h2 hi]
    congr 1
    exact sumF_congr n fun j hj => by rw [h _ _ h1 hj]
  unfold prodL; rw [hm]
theorem A4_ok : MatOk 4 A4 := by
  refine ⟨rfl, ?_, fun r i => mx_val 4 r i⟩
  intro r hr
  rcases (by omega : r = 0 ∨ r = 1 ∨ r = 2 ∨ r = 3) with rfl | rfl | rfl | rfl <;> rfl
theorem H8_row {r : Nat} (h : r < 8) : H8.getD r default = tabL (mx 8 r) 8 := by
  simp [H8, h]
theorem gOf_H8 {r i : Nat} (h : r < 8) (h2 : i < 8) : gOf H8 r i = mx 8 r i := by
  rw [gOf, H8_row h, tabL_get h2]
theorem H8_ok : MatOk 8 H8 := by
  refine ⟨by simp [H8], fun r hr => by rw [H8_row hr, tabL_len], fun r i => ?_⟩
  by_cases h : r < 8
  · by_cases h2 : i < 8
    · rw [gOf_H8 h h2]; exact mx_val 8 r i
    · right; right; left
      rw [gOf, H8_row h, List.getD_eq_getElem?_getD, List.getElem?_eq_none (by rw [tabL_len]; omega)]; rfl
  · right; right; left
    have : H8.getD r default = [] := by rw [List.getD_eq_getElem?_getD, List.getElem?_eq_none (by simp [H8]; omega)]; rfl
    rw [gOf, this]; rfl
end Go.Proofs.YtjhejgamjlokdaaGreat


namespace Go.Proofs.YtjhejgamjlokdaaGreat
open Go Go.Abs
attribute [local irreducible] WpA WpL Rnd Blk Abs.Seq Abs.Fin Abs.FinG FnC FnG Only
def modeNames : List (List UInt8) := [[109, 101, 97, 110], [100, 111, 119, 110], [97, 99, 114, 111, 115, 115], [115, 108, 111, 112, 101], [108, 101, 102, 116], [114, 105, 103, 104, 116]]
def modeW (m : Int) : List UInt8 := if 0 ≤ m ∧ m ≤ 5 then modeNames.getD m.toNat [] else []
theorem modeW_nil (m : Int) : modeW m = [] ↔ ¬ (0 ≤ m ∧ m ≤ 5) := by
  have key : ∀ k : Fin 6, modeNames.getD k.val [] ≠ [] := by decide
  unfold modeW
  constructor
  · intro h hm
    rw [if_pos hm] at h
    exact key ⟨m.toNat, by omega⟩ h
  · intro h; rw [if_neg h]
instance ModeWord_s : Con 36 (∀ m : Int, Fn 36 [I m] [] (Z (modeW m))) := ⟨fun m => by
  refine FnC.of_body tabOk Tryz.func36 Tryz.ntmps36 rfl (by decide +kernel) (by simp) fun G => ?_
  refine go (r := ?_); and_intros <;> intros <;> try exact True.intro
  all_goals first | (rw [modeW, if_neg (by assumption)]; done) | (rw [modeW, if_pos (by assumption)]; rfl)⟩
end Go.Proofs.YtjhejgamjlokdaaGreat


namespace Go.Proofs.YtjhejgamjlokdaaGreat
open Go Go.Abs
attribute [local irreducible] WpA WpL Rnd Blk Abs.Seq Abs.Fin Abs.FinG FnC FnG Only
abbrev LvOk (l : List Int) : Prop := In l (-16383) 16383 ∧ (l.length = 16 ∨ l.length = 64)
instance LevelsOk_s : Con 62 (∀ l : List Int, l.length ≤ 1099511627776 → Fn 62 [IL l] [] (B (decide (LvOk l)))) := ⟨fun l hl => by
  have hsp := side_pos l.length
  refine FnC.of_body tabOk Tryz.func62 Tryz.ntmps62 rfl (by decide +kernel) (by simp) fun G => ?_
  refine go (r := ?_); and_intros <;> intros <;> try exact True.intro
  refine WpA.loop (fun k : Nat => ⟨[(0, IL l), (3, I k)], []⟩) (fun k => k ≤ l.length ∧ In (l.take k) (-16383) 16383) (fun k => l.length - k) 0 (by simp [in_nil]) (go (r := ?_)) (fun k hk => ?_)
  · trivial
  have hi := fun h => in_snoc (lo := -16383) (hi := 16383) (l := l) (k := k) h
  refine go (r := ?_); and_intros <;> intros <;> try exact True.intro
  · have := notin (k := k) (by omega) ‹¬ (-16383 ≤ l.getD k 0 ∧ _)›; rw [eq_comm, decide_eq_false_iff_not] at *; exact fun h => this h.1
  · rw [hi (by omega)]; exact ⟨hk.2, ‹_›⟩
  all_goals have e : k = l.length := by omega
  all_goals subst e
  all_goals rw [List.take_length] at *
  simp [hk.2, hsp]⟩
instance LevelsOk_c : Con 84 (∀ l : List Int, l.length ≤ 1099511627776 → Fn 84 [IL l] [] (B (decide (LvOk l)))) := ⟨fun l hl => by
  have hsp := side_pos l.length
  refine FnC.of_body tabOk Tryz.func84 Tryz.ntmps84 rfl (by decide +kernel) (by simp) fun G => ?_
  refine go (r := ?_); and_intros <;> intros <;> try exact True.intro
  refine WpA.loop (fun k : Nat => ⟨[(0, IL l), (5, IL l), (6, I l.length), (7, I k)], []⟩) (fun k => k ≤ l.length ∧ In (l.take k) (-16383) 16383) (fun k => l.length - k) 0 (by simp [in_nil]) (go (r := ?_)) (fun k hk => ?_)
  · trivial
  have hi := fun h => in_snoc (lo := -16383) (hi := 16383) (l := l) (k := k) h
  refine go (r := ?_); and_intros <;> intros <;> try exact True.intro
  · have := notin (k := k) (by omega) ‹¬ (-16383 ≤ l.getD k 0 ∧ _)›; rw [eq_comm, decide_eq_false_iff_not] at *; exact fun h => this h.1
  · rw [hi (by omega)]; exact ⟨hk.2, ‹_›⟩
  all_goals have e : k = l.length := by omega
  all_goals subst e
  all_goals rw [List.take_length] at *
  simp [hk.2, hsp]⟩
end Go.Proofs.YtjhejgamjlokdaaGreat


namespace Go.Proofs.YtjhejgamjlokdaaGreat
open Go Go.Abs
def plcK (o l : List Int) : Nat → List Int
  | 0 => List.replicate o.length 0
  | k + 1 => (plcK o l k).set (o.getD k 0).toNat (l.getD k 0)
def plcL (l : List Int) : List Int := plcK (scanL (side l.length)) l (scanL (side l.length)).length
theorem plcK_len (o l : List Int) : ∀ k, (plcK o l k).length = o.length
  | 0 => by simp [plcK]
  | k + 1 => by rw [plcK, List.length_set]; exact plcK_len o l k
theorem plcL_len (l : List Int) : (plcL l).length = (scanL (side l.length)).length := plcK_len _ _ _
theorem plcK_in {o l : List Int} {c : Int} (hc : 0 ≤ c) (h : In l (-c) c) : ∀ k, In (plcK o l k) (-c) c
  | 0 => in_all fun j hj => by
    rw [plcK, List.getD_eq_getElem?_getD, List.getElem?_replicate]
    split <;> simp <;> omega
  | k + 1 => in_all fun j hj => by
    rw [plcK, List.getD_eq_getElem?_getD, List.getElem?_set]
    split
    · split
      · exact in_getZ h hc k
      · simp; omega
    · have := in_getZ (plcK_in (o := o) hc h k) hc j
      rw [List.getD_eq_getElem?_getD] at this; exact this
theorem plcL_ok {l : List Int} (h : LvOk l) : LvOk (plcL l) := by
  refine ⟨plcK_in (by decide) h.1 _, ?_⟩
  rw [plcL_len]
  rcases h.2 with e | e
  · rw [e]; exact .inl (by have := (scan_rg 4 (by omega)).2; show (scanL 4).length = 16; omega)
  · rw [e]; exact .inr (by have := (scan_rg 8 (by omega)).2; show (scanL 8).length = 64; omega)
theorem plcL_len2 {l : List Int} (h : l.length = 16 ∨ l.length = 64) : (plcL l).length = l.length := by
  rw [plcL_len]
  rcases h with e | e
  · rw [e]; have := (scan_rg 4 (by omega)).2; show (scanL 4).length = 16; omega
  · rw [e]; have := (scan_rg 8 (by omega)).2; show (scanL 8).length = 64; omega
def normL (n i : Int) : Int := if (n = 4 ∨ n = 8) ∧ 0 ≤ i ∧ i ≤ n * n - 1 then (if n = 8 then 1 else if i / 4 % 2 + i % 4 % 2 = 0 then 100 else if i / 4 % 2 + i % 4 % 2 = 2 then 16 else 40) else 0
theorem normL_bd (n i : Int) : 0 ≤ normL n i ∧ normL n i ≤ 100 := by unfold normL; split <;> (try split) <;> (try split) <;> (try split) <;> omega
def scaF (l : List Int) (q : Int) (i : Nat) : Int := l.getD i 0 * stepL q * normL (side l.length) i
def scaL (l : List Int) (q : Int) : List Int := if LvOk l ∧ 0 < stepL q then tabL (scaF l q) l.length else []
theorem stepL_bd (q : Int) : 0 ≤ stepL q ∧ stepL q ≤ 500 := by
  by_cases h : 0 ≤ q ∧ q ≤ 51
  · have := stepL_in q h; omega
  · unfold stepL; rw [if_neg h]; omega
theorem mul_bds {a b A B : Int} (ha : -A ≤ a ∧ a ≤ A) (hb : 0 ≤ b ∧ b ≤ B) (hA : 0 ≤ A) : -(A * B) ≤ a * b ∧ a * b ≤ A * B := by
  have h1 : a * b ≤ A * b := Int.mul_le_mul_of_nonneg_right ha.2 hb.1
  have h2 : A * b ≤ A * B := Int.mul_le_mul_of_nonneg_left hb.2 hA
  have h3 : -A * b ≤ a * b := Int.mul_le_mul_of_nonneg_right ha.1 hb.1
  rw [Int.neg_mul] at h3
  omega
theorem sca1_bd {l : List Int} (h : In l (-16383) 16383) (q : Int) (i : Nat) : -8191500 ≤ l.getD i 0 * stepL q ∧ l.getD i 0 * stepL q ≤ 8191500 := by
  have := mul_bds (in_getZ (c := 16383) h (by decide) i) (stepL_bd q) (by decide)
  omega
theorem scaF_bd {l : List Int} (h : In l (-16383) 16383) (q : Int) (i : Nat) : -819150000 ≤ scaF l q i ∧ scaF l q i ≤ 819150000 := by
  have := mul_bds (sca1_bd h q i) (normL_bd (side l.length) i) (by decide)
  unfold scaF; omega
theorem scaL_len (l : List Int) (q : Int) : (scaL l q).length = if LvOk l ∧ 0 < stepL q then l.length else 0 := by
  unfold scaL; split <;> simp [tabL_len]
theorem scaL_fit (l : List Int) (q : Int) : FitM (scaL l q) := by
  unfold FitM In
  intro x hx
  unfold scaL at hx
  split at hx
  · rename_i h
    unfold tabL at hx
    obtain ⟨i, _, rfl⟩ := List.mem_map.1 hx
    have := scaF_bd h.1.1 q i
    omega
  · cases hx
def rnd1 (k : Nat) (v : Int) : Int := if k = 16 then (max (-1000000000000) (min 1000000000000 v) + 800) / 1600 else (max (-1000000000000) (min 1000000000000 v) + 32) / 64
def rndL (l : List Int) : List Int := if 0 < side l.length then l.map (rnd1 l.length) else []
theorem rndL_le (l : List Int) : (rndL l).length ≤ 64 := by
  unfold rndL; split
  · rename_i h; rw [List.length_map]; have := (side_pos l.length).1 h; omega
  · simp
theorem floor_neg {v d : Int} (hv : v < 0) (hd : 0 < d) : -((-v + d - 1) / d) = v / d := by
  have h1 := Int.mul_ediv_add_emod v d
  have h2 := Int.emod_nonneg v (by omega : d ≠ 0)
  have h3 := Int.emod_lt_of_pos v hd
  have e : (-v + d - 1) / d = - (v / d) := by
    have e2 : -v + d - 1 = (d - 1 - v % d) + d * (-(v / d)) := by rw [Int.mul_neg]; omega
    rw [e2, Int.add_mul_ediv_left _ _ (by omega), Int.ediv_eq_zero_of_lt (by omega) (by omega), Int.zero_add]
  omega
theorem floor_t {a b : Int} (hb : 0 < b) : (if a.tmod b < 0 then a.tdiv b - 1 else a.tdiv b) = a / b := by
  have h1 := Int.mul_ediv_add_emod a b
  have h2 := Int.emod_nonneg a (by omega : b ≠ 0)
  have h3 := Int.emod_lt_of_pos a hb
  have h4 := Int.mul_tdiv_add_tmod a b
  rcases Int.lt_or_le a 0 with h | h
  · have h0 : (-a).tmod b = -(a.tmod b) := Int.neg_tmod ..
    have h5 := Int.tmod_nonneg b (show 0 ≤ -a by omega)
    have h6 := Int.tmod_lt_of_pos (-a) hb
    rw [h0] at h5 h6
    split
    · rename_i h7
      have : b * (a.tdiv b - 1 - a / b) = - (a.tmod b + b) + a % b := by rw [Int.mul_sub, Int.mul_sub]; omega
      have h8 : a.tdiv b - 1 - a / b = 0 := by
        rcases Int.lt_trichotomy (a.tdiv b - 1 - a / b) 0 with h9 | h9 | h9
        · have := Int.mul_le_mul_of_nonneg_left (show a.tdiv b - 1 - a / b ≤ -1 by omega) (Int.le_of_lt hb); omega
        · exact h9
        · have := Int.mul_le_mul_of_nonneg_left (show 1 ≤ a.tdiv b - 1 - a / b by omega) (Int.le_of_lt hb); omega
      omega
    · have : b * (a.tdiv b - a / b) = a % b - a.tmod b := by rw [Int.mul_sub]; omega
      have h8 : a.tdiv b - a / b = 0 := by
        rcases Int.lt_trichotomy (a.tdiv b - a / b) 0 with h9 | h9 | h9
        · have := Int.mul_le_mul_of_nonneg_left (show a.tdiv b - a / b ≤ -1 by omega) (Int.le_of_lt hb); omega
        · exact h9
        · have := Int.mul_le_mul_of_nonneg_left (show 1 ≤ a.tdiv b - a / b by omega) (Int.le_of_lt hb); omega
      omega
  · rw [Int.tdiv_eq_ediv_of_nonneg h, Int.tmod_eq_emod_of_nonneg h]
    rw [if_neg (by omega)]
def resL (b : Bool) (q : Int) (l : List Int) : List Int := if LvOk l ∧ 0 < stepL q then (if b = true then plcL l else rndL (trL (side l.length) true (scaL (plcL l) q))) else []
theorem resL_le (b : Bool) (q : Int) (l : List Int) : (resL b q l).length ≤ 64 := by
  unfold resL; split
  · rename_i h
    split
    · rw [plcL_len]; exact (scan_fit l).2
    · exact rndL_le _
  · simp
theorem scan4_all (p : Nat) (hp : p < 16) : ∃ k, k < 16 ∧ (scanL 4).getD k 0 = (p : Int) := by
  have key : ∀ p : Fin 16, ∃ k : Fin 16, (scanL 4).getD k.val 0 = ((p.val : Nat) : Int) := by decide +kernel
  obtain ⟨k, hk⟩ := key ⟨p, hp⟩
  exact ⟨k.val, k.isLt, hk⟩
theorem scan8_all (p : Nat) (hp : p < 64) : ∃ k, k < 64 ∧ (scanL 8).getD k 0 = (p : Int) := by
  have key : ∀ p : Fin 64, ∃ k : Fin 64, (scanL 8).getD k.val 0 = ((p.val : Nat) : Int) := by decide +kernel
  obtain ⟨k, hk⟩ := key ⟨p, hp⟩
  exact ⟨k.val, k.isLt, hk⟩
theorem scan4_inj (i : Nat) (hi : i < 16) (j : Nat) (hj : j < 16) (h : (scanL 4).getD i 0 = (scanL 4).getD j 0) : i = j := by
  have key : ∀ i j : Fin 16, (scanL 4).getD i.val 0 = (scanL 4).getD j.val 0 → i = j := by decide +kernel
  exact congrArg Fin.val (key ⟨i, hi⟩ ⟨j, hj⟩ h)
theorem scan8_inj (i : Nat) (hi : i < 64) (j : Nat) (hj : j < 64) (h : (scanL 8).getD i 0 = (scanL 8).getD j 0) : i = j := by
  have key : ∀ i j : Fin 64, (scanL 8).getD i.val 0 = (scanL 8).getD j.val 0 → i = j := by decide +kernel
  exact congrArg Fin.val (key ⟨i, hi⟩ ⟨j, hj⟩ h)
theorem scan_facts {l : List Int} (h : l.length = 16 ∨ l.length = 64) : (scanL (side l.length)).length = l.length ∧ In (scanL (side l.length)) 0 (l.length - 1) ∧ (∀ i, i < l.length → ∀ j, j < l.length → (scanL (side l.length)).getD i 0 = (scanL (side l.length)).getD j 0 → i = j) ∧ ∀ p, p < l.length → ∃ k, k < l.length ∧ (scanL (side l.length)).getD k 0 = (p : Int) := by
  rcases h with e | e
  · rw [e]
    have h1 := scan_rg 4 (by omega)
    exact ⟨by show (scanL 4).length = 16; omega, h1.1, scan4_inj, scan4_all⟩
  · rw [e]
    have h1 := scan_rg 8 (by omega)
    exact ⟨by show (scanL 8).length = 64; omega, h1.1, scan8_inj, scan8_all⟩
end Go.Proofs.YtjhejgamjlokdaaGreat


namespace Go.Proofs.YtjhejgamjlokdaaGreat
open Go Go.Abs
end Go.Proofs.YtjhejgamjlokdaaGreat


namespace Go.Proofs.YtjhejgamjlokdaaGreat
open Go Go.Abs
attribute [local irreducible] belowD onceD pickD modeD l8D l8AnyD optD anyD seedD
structure Hd6 where
  w : Int
  h : Int
  q : Int
  b : Bool
  d : Bool
  lens : List Int
abbrev quant6 : List Int := [0, 6, 12, 20, 36, 51]
def headD (l : List Int) (c : Cr) : Cr × Hd6 :=
  let w := belowD l c 2
  let h := belowD l w.1 2
  let q := pickD l h.1 quant6
  let b := onceD l q.1 4
  let d := onceD l b.1 2
  let e := l8D l d.1
  (e.1, ⟨8 * (1 + w.2), 8 * (1 + h.2), q.2, b.2, d.2, e.2⟩)
theorem headD_ok {l : List Int} {c : Cr} (h : CrOk l c) : CrOk l (headD l c).1 ∧ (headD l c).2.lens.length = 6 ∧ SidesOk (headD l c).2.w (headD l c).2.h := by
  have h1 := belowD_ok 2 h
  have h2 := belowD_ok 2 h1.1
  have h3 := pickD_ok (xs := quant6) h2.1 (by decide)
  have h4 := onceD_ok 4 h3.1
  have h5 := onceD_ok 2 h4
  have h6 := l8D_ok h5
  have a1 := h1.2.1
  have a2 := h1.2.2.1 (by decide)
  have a3 := h2.2.1
  have a4 := h2.2.2.1 (by decide)
  refine ⟨h6.1, h6.2, ?_⟩
  show SidesOk (8 * (1 + (belowD l c 2).2)) (8 * (1 + (belowD l (belowD l c 2).1 2).2))
  refine ⟨?_, ?_, ?_, ?_, ?_, ?_⟩ <;> omega
def headAnyD (l : List Int) (c : Cr) : Cr × Hd6 :=
  let x := headD l c
  let s := belowD l x.1 12
  if s.2 = 0 then
    let p := pickD l s.1 [0, 40, 12, 32]
    (p.1, { x.2 with w := p.2 })
  else if s.2 = 1 then
    let p := pickD l s.1 [-1, 52, 51]
    (p.1, { x.2 with q := p.2 })
  else if s.2 = 2 then
    let y := l8AnyD l s.1
    (y.1, { x.2 with lens := y.2 })
  else (s.1, x.2)
def sqS (l : List Int) (most : Int) (s : Cr × List Int) : Cr × List Int :=
  if (onceD l s.1 2).2 = true then ((belowD l (onceD l s.1 2).1 (2 * most + 1)).1, s.2 ++ [(belowD l (onceD l s.1 2).1 (2 * most + 1)).2 - most]) else ((onceD l s.1 2).1, s.2 ++ [0])
def sqK (l : List Int) (most : Int) : Nat → Cr × List Int → Cr × List Int
  | 0, s => s
  | n + 1, s => sqK l most n (sqS l most s)
theorem sqS_ok {l : List Int} {most : Int} {s : Cr × List Int} (h : CrOk l s.1) : CrOk l (sqS l most s).1 ∧ (sqS l most s).2.length = s.2.length + 1 := by
  have h1 := onceD_ok 2 h
  unfold sqS; split
  · exact ⟨(belowD_ok _ h1).1, by simp⟩
  · exact ⟨h1, by simp⟩
theorem sqK_ok {l : List Int} {most : Int} : ∀ (n : Nat) {s : Cr × List Int}, CrOk l s.1 → CrOk l (sqK l most n s).1 ∧ (sqK l most n s).2.length = s.2.length + n
  | 0, s, h => ⟨h, rfl⟩
  | n + 1, s, h => by
    have h1 := sqS_ok (most := most) h
    have h2 := sqK_ok (most := most) n h1.1
    exact ⟨h2.1, by rw [sqK, h2.2, h1.2]; omega⟩
abbrev odd3 : List Int := [0, 15, 63]
def sqN0 (l : List Int) (c : Cr) : Int := if (onceD l c 3).2 = true then 64 else 16
def sqN (l : List Int) (c : Cr) : Cr × Int := if (onceD l (onceD l c 3).1 14).2 = true then pickD l (onceD l (onceD l c 3).1 14).1 odd3 else ((onceD l (onceD l c 3).1 14).1, sqN0 l c)
theorem sqN_ok {l : List Int} {c : Cr} (h : CrOk l c) : CrOk l (sqN l c).1 ∧ 0 ≤ (sqN l c).2 ∧ (sqN l c).2 ≤ 64 := by
  have h1 := onceD_ok 3 h
  have h2 := onceD_ok 14 h1
  unfold sqN; split
  · have h3 := pickD_ok (xs := odd3) h2 (by decide)
    refine ⟨h3.1, ?_⟩
    have := h3.2
    simp only [List.mem_cons, List.not_mem_nil, or_false] at this
    omega
  · refine ⟨h2, ?_⟩
    show 0 ≤ sqN0 l c ∧ sqN0 l c ≤ 64
    unfold sqN0; split <;> omega
def squareD (l : List Int) (c : Cr) (most : Int) : Cr × List Int := sqK l most (sqN l c).2.toNat ((sqN l c).1, [])
theorem squareD_ok {l : List Int} {c : Cr} (most : Int) (h : CrOk l c) : CrOk l (squareD l c most).1 ∧ (squareD l c most).2.length ≤ 64 := by
  have h1 := sqN_ok h
  have h2 := sqK_ok (most := most) (sqN l c).2.toNat (s := ((sqN l c).1, [])) h1.1
  refine ⟨h2.1, ?_⟩
  unfold squareD
  rw [h2.2]; simp only [List.length_nil]; omega
abbrev big4 : List Int := [16383, -16383, 16384, 5000]
def lvA (l : List Int) (s : Cr × List Int) : Cr × List Int :=
  if (onceD l s.1 6).2 = true then ((pickD l (belowD l (onceD l s.1 6).1 s.2.length).1 big4).1, s.2.set (belowD l (onceD l s.1 6).1 s.2.length).2.toNat (pickD l (belowD l (onceD l s.1 6).1 s.2.length).1 big4).2) else ((onceD l s.1 6).1, s.2)
def lvB (l : List Int) (s : Cr × List Int) : Cr × List Int := if s.2.length = 0 then s else lvA l s
def tail3 (x : List Int) : List Int := x.take 3 ++ List.replicate (x.length - 3) 0
def lev10D (l : List Int) (c : Cr) : Cr × List Int :=
  ((onceD l (lvB l (squareD l c 30)).1 4).1, if (onceD l (lvB l (squareD l c 30)).1 4).2 = true then tail3 (lvB l (squareD l c 30)).2 else (lvB l (squareD l c 30)).2)
theorem lvA_ok {l : List Int} {s : Cr × List Int} (h : CrOk l s.1) : CrOk l (lvA l s).1 ∧ (lvA l s).2.length = s.2.length := by
  have h1 := onceD_ok 6 h
  have h2 := belowD_ok s.2.length h1
  unfold lvA; split
  · exact ⟨(pickD_ok h2.1 (by decide)).1, by simp⟩
  · exact ⟨h1, rfl⟩
theorem lvB_ok {l : List Int} {s : Cr × List Int} (h : CrOk l s.1) : CrOk l (lvB l s).1 ∧ (lvB l s).2.length = s.2.length := by
  unfold lvB; split
  · exact ⟨h, rfl⟩
  · exact lvA_ok h
theorem tail3_len (x : List Int) : (tail3 x).length = x.length := by simp [tail3]; omega
theorem lev10D_ok {l : List Int} {c : Cr} (h : CrOk l c) : CrOk l (lev10D l c).1 ∧ (lev10D l c).2.length ≤ 64 := by
  have h1 := squareD_ok 30 h
  have h2 := lvB_ok h1.1
  refine ⟨onceD_ok 4 h2.1, ?_⟩
  unfold lev10D
  simp only
  split
  · rw [tail3_len]; omega
  · omega
def lim3 (v : Int) : Int := max (-300) (min 300 v)
def lev25D (l : List Int) (c : Cr) : Cr × List Int := ((onceD l (lev10D l c).1 2).1, if (onceD l (lev10D l c).1 2).2 = true then (lev10D l c).2.map lim3 else (lev10D l c).2)
theorem lev25D_ok {l : List Int} {c : Cr} (h : CrOk l c) : CrOk l (lev25D l c).1 ∧ (lev25D l c).2.length ≤ 64 := by
  have h1 := lev10D_ok h
  refine ⟨onceD_ok 2 h1.1, ?_⟩
  unfold lev25D
  simp only
  split
  · rw [List.length_map]; exact h1.2
  · exact h1.2
end Go.Proofs.YtjhejgamjlokdaaGreat


namespace Go.Proofs.YtjhejgamjlokdaaGreat
open Go Go.Abs
attribute [local irreducible] WpA WpL Rnd Blk Abs.Seq Abs.Fin Abs.FinG FnC FnG Only
end Go.Proofs.YtjhejgamjlokdaaGreat


namespace Go.Proofs.YtjhejgamjlokdaaGreat
open Go Go.Abs
attribute [local irreducible] belowD onceD pickD modeD l8D l8AnyD optD anyD seedD headD headAnyD
def bmA (l lens : List Int) : Nat → Bool → Cr × Int → Cr × Int
  | 0, _, s => s
  | n + 1, f, s => if f = true ∨ ¬ HasC lens s.2 then bmA l lens n false (belowD l s.1 6) else s
def bmB (lens : List Int) : Nat → Int → Int
  | 0, m => m
  | n + 1, m => if ¬ HasC lens m then bmB lens n (m + 1) else m
def bmC (lens : List Int) (m : Int) : Int := if HasC lens m then m else 1
theorem bmA_ok {l lens : List Int} : ∀ (n : Nat) (f : Bool) {s : Cr × Int}, CrOk l s.1 → 0 ≤ s.2 ∧ s.2 ≤ 5 → CrOk l (bmA l lens n f s).1 ∧ 0 ≤ (bmA l lens n f s).2 ∧ (bmA l lens n f s).2 ≤ 5
  | 0, _, s, h, hb => ⟨h, hb⟩
  | n + 1, f, s, h, hb => by
    rw [bmA]; split
    · have h1 := belowD_ok 6 h
      have h2 := h1.2.1
      have h3 := h1.2.2.1 (by decide)
      exact bmA_ok n false h1.1 ⟨h2, by omega⟩
    · exact ⟨h, hb⟩
theorem bmA_go {l lens : List Int} {n : Nat} {f : Bool} {s : Cr × Int} (h : f = true ∨ ¬ HasC lens s.2) : bmA l lens (n + 1) f s = bmA l lens n false (belowD l s.1 6) := by rw [bmA, if_pos h]
theorem bmA_stop {l lens : List Int} {n : Nat} {s : Cr × Int} (h : HasC lens s.2) : bmA l lens n false s = s := by
  cases n with
  | zero => rfl
  | succ n => rw [bmA, if_neg]; rintro (h1 | h1); cases h1; exact h1 h
theorem bmB_go {lens : List Int} {m : Int} (hm : m < 6) (h : ¬ HasC lens m) : bmB lens (6 - m).toNat m = bmB lens (6 - (m + 1)).toNat (m + 1) := by
  rw [show (6 - m).toNat = (6 - (m + 1)).toNat + 1 by omega, bmB, if_pos h]
theorem bmB_stop {lens : List Int} {m : Int} (h : HasC lens m ∨ ¬ m < 6) : bmB lens (6 - m).toNat m = m := by
  by_cases hm : m < 6
  · rw [show (6 - m).toNat = (6 - (m + 1)).toNat + 1 by omega, bmB, if_neg]
    rcases h with h | h
    · exact fun h1 => h1 h
    · exact absurd hm h
  · rw [show (6 - m).toNat = 0 by omega]; rfl
def blkM (l lens : List Int) (c : Cr) : Cr × Int := ((bmA l lens 8 true (c, 0)).1, bmC lens (bmB lens (6 - (bmA l lens 8 true (c, 0)).2).toNat (bmA l lens 8 true (c, 0)).2))
theorem blkM_ok {l lens : List Int} {c : Cr} (h : CrOk l c) : CrOk l (blkM l lens c).1 := (bmA_ok 8 true (s := (c, 0)) h ⟨Int.le_refl 0, by show (0 : Int) ≤ 5; omega⟩).1
abbrev ixs (n : Int) (x : Int) : List Int := [0, 0, 1, 2, n * n - 1, x]
abbrev lvs (x : Int) : List Int := [1, -1, 3, -20, 90, x - 200]
def dvS (l : List Int) (n : Int) (s : Cr × List Int) : Cr × List Int :=
  ((pickD l (belowD l (pickD l (belowD l s.1 (n * n)).1 (ixs n (belowD l s.1 (n * n)).2)).1 400).1 (lvs (belowD l (pickD l (belowD l s.1 (n * n)).1 (ixs n (belowD l s.1 (n * n)).2)).1 400).2)).1,
    s.2.set (pickD l (belowD l s.1 (n * n)).1 (ixs n (belowD l s.1 (n * n)).2)).2.toNat (pickD l (belowD l (pickD l (belowD l s.1 (n * n)).1 (ixs n (belowD l s.1 (n * n)).2)).1 400).1 (lvs (belowD l (pickD l (belowD l s.1 (n * n)).1 (ixs n (belowD l s.1 (n * n)).2)).1 400).2)).2)
def dvK (l : List Int) (n : Int) : Nat → Cr × List Int → Cr × List Int
  | 0, s => s
  | k + 1, s => dvK l n k (dvS l n s)
structure LvSt (l : List Int) (n : Int) (s : Cr × List Int) where
  b : Cr × Int
  i : Cr × Int
  q : Cr × Int
  v : Cr × Int
  hb : b = belowD l s.1 (n * n)
  hi : i = pickD l b.1 (ixs n b.2)
  hq : q = belowD l i.1 400
  hv : v = pickD l q.1 (lvs q.2)
theorem dvS_facts {l : List Int} {n : Int} {s : Cr × List Int} (hn : n = 4 ∨ n = 8) (h : CrOk l s.1) : CrOk l (belowD l s.1 (n * n)).1 ∧ CrOk l (pickD l (belowD l s.1 (n * n)).1 (ixs n (belowD l s.1 (n * n)).2)).1 ∧
    (0 ≤ (pickD l (belowD l s.1 (n * n)).1 (ixs n (belowD l s.1 (n * n)).2)).2 ∧ (pickD l (belowD l s.1 (n * n)).1 (ixs n (belowD l s.1 (n * n)).2)).2 < n * n) ∧
    CrOk l (belowD l (pickD l (belowD l s.1 (n * n)).1 (ixs n (belowD l s.1 (n * n)).2)).1 400).1 ∧ CrOk l (dvS l n s).1 ∧ (dvS l n s).2.length = s.2.length := by
  have hnn : n * n = 16 ∨ n * n = 64 := by rcases hn with rfl | rfl <;> decide
  have h1 := belowD_ok (n * n) h
  have h2 := pickD_ok (xs := ixs n (belowD l s.1 (n * n)).2) h1.1 (by simp)
  have h3 := belowD_ok 400 h2.1
  have h4 := pickD_ok (xs := lvs (belowD l (pickD l (belowD l s.1 (n * n)).1 (ixs n (belowD l s.1 (n * n)).2)).1 400).2) h3.1 (by simp)
  have a := h1.2.1
  have b := h1.2.2.1 (by omega)
  have e := h2.2
  simp only [List.mem_cons, List.not_mem_nil, or_false] at e
  exact ⟨h1.1, h2.1, by omega, h3.1, h4.1, by unfold dvS; rw [List.length_set]⟩
theorem dvK_ok {l : List Int} {n : Int} (hn : n = 4 ∨ n = 8) : ∀ (k : Nat) {s : Cr × List Int}, CrOk l s.1 → CrOk l (dvK l n k s).1 ∧ (dvK l n k s).2.length = s.2.length
  | 0, s, h => ⟨h, rfl⟩
  | k + 1, s, h => by
    have h1 := dvS_facts hn h
    have h2 := dvK_ok hn k h1.2.2.2.2.1
    exact ⟨h2.1, by rw [dvK, h2.2, h1.2.2.2.2.2]⟩
def blkD (l lens : List Int) (n : Int) (c : Cr) : Cr × Blok :=
  ((dvK l n (belowD l (blkM l lens c).1 5).2.toNat ((belowD l (blkM l lens c).1 5).1, List.replicate (n * n).toNat 0)).1,
    ((blkM l lens c).2, (dvK l n (belowD l (blkM l lens c).1 5).2.toNat ((belowD l (blkM l lens c).1 5).1, List.replicate (n * n).toNat 0)).2))
theorem blkD_ok {l lens : List Int} {n : Int} {c : Cr} (hn : n = 4 ∨ n = 8) (h : CrOk l c) : CrOk l (blkD l lens n c).1 ∧ ((blkD l lens n c).2.2.length : Int) = n * n := by
  have h1 := belowD_ok 5 (blkM_ok (lens := lens) h)
  have h2 := dvK_ok hn (belowD l (blkM l lens c).1 5).2.toNat (s := ((belowD l (blkM l lens c).1 5).1, List.replicate (n * n).toNat 0)) h1.1
  refine ⟨h2.1, ?_⟩
  unfold blkD
  simp only
  rw [h2.2, List.length_replicate]
  rcases hn with rfl | rfl <;> decide
structure Str8 where
  hd : Hd6
  ms : List Mbk
end Go.Proofs.YtjhejgamjlokdaaGreat


namespace Go.Proofs.YtjhejgamjlokdaaGreat
open Go Go.Abs
attribute [local irreducible] belowD onceD pickD modeD l8D l8AnyD optD anyD seedD headD headAnyD symL HasC blkD lev25D
structure Fr3 where
  w : Int
  h : Int
  p : List Int
  o : Nat
abbrev noise5 : List Int := [1, 1, 3, 40, 256]
def frS (l : List Int) (w b dx dy nz : Int) (i : Nat) (s : Cr × List Int) : Cr × List Int :=
  ((belowD l s.1 nz).1, s.2.set i (max 0 (min 255 (b + dx * ((i : Int) % w) + dy * ((i : Int) / w) + (belowD l s.1 nz).2))))
def frK (l : List Int) (w b dx dy nz : Int) : Nat → Nat → Cr × List Int → Cr × List Int
  | 0, _, s => s
  | n + 1, i, s => frK l w b dx dy nz n (i + 1) (frS l w b dx dy nz i s)
theorem frK_succ (l : List Int) (w b dx dy nz : Int) (n i : Nat) (s : Cr × List Int) : frK l w b dx dy nz (n + 1) i s = frK l w b dx dy nz n (i + 1) (frS l w b dx dy nz i s) := rfl
theorem frK_zero (l : List Int) (w b dx dy nz : Int) (i : Nat) (s : Cr × List Int) : frK l w b dx dy nz 0 i s = s := rfl
theorem noise_in {x : Int} (h : x ∈ noise5) : 1 ≤ x ∧ x ≤ 256 := by
  simp only [List.mem_cons, List.not_mem_nil, or_false] at h
  omega
theorem frS_ok {l : List Int} {w b dx dy nz : Int} {i : Nat} {s : Cr × List Int} (h : CrOk l s.1) : CrOk l (frS l w b dx dy nz i s).1 ∧ (frS l w b dx dy nz i s).2.length = s.2.length := by
  refine ⟨(belowD_ok nz h).1, ?_⟩
  unfold frS; simp
theorem frK_ok {l : List Int} {w b dx dy nz : Int} : ∀ (n i : Nat) {s : Cr × List Int}, CrOk l s.1 → CrOk l (frK l w b dx dy nz n i s).1 ∧ (frK l w b dx dy nz n i s).2.length = s.2.length
  | 0, i, s, h => ⟨h, rfl⟩
  | n + 1, i, s, h => by
    have h1 := frS_ok (w := w) (b := b) (dx := dx) (dy := dy) (nz := nz) (i := i) h
    have h2 := frK_ok (w := w) (b := b) (dx := dx) (dy := dy) (nz := nz) n (i + 1) h1.1
    exact ⟨h2.1, by rw [frK, h2.2, h1.2]⟩
abbrev fW (l : List Int) (c : Cr) : Cr × Int := belowD l c 3
abbrev fH (l : List Int) (c : Cr) : Cr × Int := belowD l (fW l c).1 2
abbrev fB (l : List Int) (c : Cr) : Cr × Int := belowD l (fH l c).1 256
abbrev fX (l : List Int) (c : Cr) : Cr × Int := belowD l (fB l c).1 9
abbrev fY (l : List Int) (c : Cr) : Cr × Int := belowD l (fX l c).1 9
abbrev fN (l : List Int) (c : Cr) : Cr × Int := pickD l (fY l c).1 noise5
abbrev frW (l : List Int) (c : Cr) : Int := 8 * (1 + (fW l c).2)
abbrev frH (l : List Int) (c : Cr) : Int := 8 * (1 + (fH l c).2)
def frD (l : List Int) (c : Cr) : Cr × Fr3 :=
  let r := frK l (frW l c) (fB l c).2 ((fX l c).2 - 4) ((fY l c).2 - 4) (fN l c).2 (frW l c * frH l c).toNat 0 ((fN l c).1, List.replicate (frW l c * frH l c).toNat 0)
  (r.1, ⟨frW l c, frH l c, r.2, 0⟩)
theorem frD_ok {l : List Int} {c : Cr} (h : CrOk l c) : CrOk l (frD l c).1 ∧ (8 ≤ (frD l c).2.w ∧ (frD l c).2.w ≤ 24) ∧ (8 ≤ (frD l c).2.h ∧ (frD l c).2.h ≤ 16) ∧ 64 ≤ (frD l c).2.p.length ∧ (frD l c).2.p.length ≤ 384 ∧ (frD l c).2.o = 0 := by
  have h1 := belowD_ok 3 h
  have h2 := belowD_ok 2 h1.1
  have h3 := belowD_ok 256 h2.1
  have h4 := belowD_ok 9 h3.1
  have h5 := belowD_ok 9 h4.1
  have h6 := pickD_ok (xs := noise5) h5.1 (by decide)
  have a1 := h1.2.1
  have a2 := h1.2.2.1 (by decide)
  have b1 := h2.2.1
  have b2 := h2.2.2.1 (by decide)
  have hk := frK_ok (w := frW l c) (b := (fB l c).2) (dx := (fX l c).2 - 4) (dy := (fY l c).2 - 4) (nz := (fN l c).2) (frW l c * frH l c).toNat 0 (s := ((fN l c).1, List.replicate (frW l c * frH l c).toNat 0)) h6.1
  have hm : 64 ≤ frW l c * frH l c ∧ frW l c * frH l c ≤ 384 := by
    have e1 : (fW l c).2 = 0 ∨ (fW l c).2 = 1 ∨ (fW l c).2 = 2 := by show (belowD l c 3).2 = 0 ∨ (belowD l c 3).2 = 1 ∨ (belowD l c 3).2 = 2; omega
    have e2 : (fH l c).2 = 0 ∨ (fH l c).2 = 1 := by show (belowD l (belowD l c 3).1 2).2 = 0 ∨ (belowD l (belowD l c 3).1 2).2 = 1; omega
    unfold frW frH
    rcases e1 with e1 | e1 | e1 <;> rcases e2 with e2 | e2 <;> rw [e1, e2] <;> decide
  refine ⟨hk.1, ?_, ?_, ?_⟩
  · show 8 ≤ 8 * (1 + (belowD l c 3).2) ∧ 8 * (1 + (belowD l c 3).2) ≤ 24; omega
  · show 8 ≤ 8 * (1 + (belowD l (belowD l c 3).1 2).2) ∧ 8 * (1 + (belowD l (belowD l c 3).1 2).2) ≤ 16; omega
  · have e : (frD l c).2.p.length = (frW l c * frH l c).toNat := by
      show (frK l _ _ _ _ _ _ 0 _).2.length = _
      rw [hk.2, List.length_replicate]
    rw [e]; exact ⟨by omega, by omega, rfl⟩
def frAnyD (l : List Int) (c : Cr) : Cr × Fr3 :=
  let x := frD l c
  let s := belowD l x.1 16
  if s.2 = 0 then
    let i := belowD l s.1 x.2.p.length
    let v := pickD l i.1 [-1, 256]
    (v.1, { x.2 with p := x.2.p.set i.2.toNat v.2 })
  else if s.2 = 1 then
    let v := pickD l s.1 [0, 7, 40, x.2.w + 8]
    (v.1, { x.2 with w := v.2 })
  else if s.2 = 2 then (s.1, { x.2 with o := 1 })
  else (s.1, x.2)
theorem frAnyD_0 {l : List Int} {c : Cr} (h : (belowD l (frD l c).1 16).2 = 0) : frAnyD l c = ((pickD l (belowD l (belowD l (frD l c).1 16).1 (frD l c).2.p.length).1 [-1, 256]).1, ⟨(frD l c).2.w, (frD l c).2.h, (frD l c).2.p.set (belowD l (belowD l (frD l c).1 16).1 (frD l c).2.p.length).2.toNat (pickD l (belowD l (belowD l (frD l c).1 16).1 (frD l c).2.p.length).1 [-1, 256]).2, (frD l c).2.o⟩) := by
  unfold frAnyD; simp only; rw [if_pos h]
theorem frAnyD_1 {l : List Int} {c : Cr} (h : (belowD l (frD l c).1 16).2 = 1) : frAnyD l c = ((pickD l (belowD l (frD l c).1 16).1 [0, 7, 40, (frD l c).2.w + 8]).1, ⟨(pickD l (belowD l (frD l c).1 16).1 [0, 7, 40, (frD l c).2.w + 8]).2, (frD l c).2.h, (frD l c).2.p, (frD l c).2.o⟩) := by
  unfold frAnyD; simp only; rw [if_neg (by omega), if_pos h]
theorem frAnyD_2 {l : List Int} {c : Cr} (h : (belowD l (frD l c).1 16).2 = 2) : frAnyD l c = ((belowD l (frD l c).1 16).1, ⟨(frD l c).2.w, (frD l c).2.h, (frD l c).2.p, 1⟩) := by
  unfold frAnyD; simp only; rw [if_neg (by omega), if_neg (by omega), if_pos h]
theorem frAnyD_3 {l : List Int} {c : Cr} (h : (belowD l (frD l c).1 16).2 ≠ 0) (h1 : (belowD l (frD l c).1 16).2 ≠ 1) (h2 : (belowD l (frD l c).1 16).2 ≠ 2) : frAnyD l c = ((belowD l (frD l c).1 16).1, (frD l c).2) := by
  unfold frAnyD; simp only; rw [if_neg h, if_neg h1, if_neg h2]
theorem frAnyD_ok {l : List Int} {c : Cr} (h : CrOk l c) : CrOk l (frAnyD l c).1 ∧ (0 ≤ (frAnyD l c).2.w ∧ (frAnyD l c).2.w ≤ 40) ∧ (8 ≤ (frAnyD l c).2.h ∧ (frAnyD l c).2.h ≤ 16) ∧ (frAnyD l c).2.p.length ≤ 384 ∧ (frAnyD l c).2.o ≤ (frAnyD l c).2.p.length := by
  have ho := frD_ok h
  have hs := belowD_ok 16 ho.1
  obtain ⟨hp64, hp384, hoo⟩ := ho.2.2.2
  by_cases h0 : (belowD l (frD l c).1 16).2 = 0
  · rw [frAnyD_0 h0]
    have hi := belowD_ok (frD l c).2.p.length hs.1
    refine ⟨(pickD_ok hi.1 (by decide)).1, ?_, ho.2.2.1, ?_, ?_⟩
    · show 0 ≤ (frD l c).2.w ∧ (frD l c).2.w ≤ 40; omega
    · show ((frD l c).2.p.set _ _).length ≤ 384; rw [List.length_set]; omega
    · show (frD l c).2.o ≤ ((frD l c).2.p.set _ _).length; rw [List.length_set]; omega
  · by_cases h1 : (belowD l (frD l c).1 16).2 = 1
    · rw [frAnyD_1 h1]
      have hp := pickD_ok (xs := [0, 7, 40, (frD l c).2.w + 8]) hs.1 (by simp)
      have hm := hp.2
      simp only [List.mem_cons, List.not_mem_nil, or_false] at hm
      refine ⟨hp.1, ?_, ho.2.2.1, hp384, by show (frD l c).2.o ≤ (frD l c).2.p.length; omega⟩
      show 0 ≤ (pickD l _ _).2 ∧ (pickD l _ _).2 ≤ 40
      omega
    · by_cases h2 : (belowD l (frD l c).1 16).2 = 2
      · rw [frAnyD_2 h2]
        refine ⟨hs.1, ?_, ho.2.2.1, hp384, by show 1 ≤ (frD l c).2.p.length; omega⟩
        show 0 ≤ (frD l c).2.w ∧ (frD l c).2.w ≤ 40; omega
      · rw [frAnyD_3 h0 h1 h2]
        refine ⟨hs.1, ?_, ho.2.2.1, hp384, by show (frD l c).2.o ≤ (frD l c).2.p.length; omega⟩
        show 0 ≤ (frD l c).2.w ∧ (frD l c).2.w ≤ 40
        omega
structure Spt where
  f : Fr3
  x : Int
  y : Int
  n : Int
abbrev sN (l : List Int) (c : Cr) : Cr × Int := pickD l (frAnyD l c).1 [4, 4, 8]
abbrev sX (l : List Int) (c : Cr) : Cr × Int := belowD l (sN l c).1 (max 1 ((frAnyD l c).2.w / (sN l c).2))
abbrev sY (l : List Int) (c : Cr) : Cr × Int := belowD l (sX l c).1 (max 1 ((frAnyD l c).2.h / (sN l c).2))
abbrev sK (l : List Int) (c : Cr) : Cr × Int := belowD l (sY l c).1 14
def spotD (l : List Int) (c : Cr) : Cr × Spt :=
  if (sK l c).2 = 0 then ((pickD l (sK l c).1 [-4, 1, (frAnyD l c).2.w]).1, ⟨(frAnyD l c).2, (pickD l (sK l c).1 [-4, 1, (frAnyD l c).2.w]).2, (sN l c).2 * (sY l c).2, (sN l c).2⟩)
  else if (sK l c).2 = 1 then ((pickD l (sK l c).1 [0, 5, 16]).1, ⟨(frAnyD l c).2, (sN l c).2 * (sX l c).2, (sN l c).2 * (sY l c).2, (pickD l (sK l c).1 [0, 5, 16]).2⟩)
  else ((sK l c).1, ⟨(frAnyD l c).2, (sN l c).2 * (sX l c).2, (sN l c).2 * (sY l c).2, (sN l c).2⟩)
theorem spotD_0 {l : List Int} {c : Cr} (h : (sK l c).2 = 0) : spotD l c = ((pickD l (sK l c).1 [-4, 1, (frAnyD l c).2.w]).1, ⟨(frAnyD l c).2, (pickD l (sK l c).1 [-4, 1, (frAnyD l c).2.w]).2, (sN l c).2 * (sY l c).2, (sN l c).2⟩) := by unfold spotD; rw [if_pos h]
theorem spotD_1 {l : List Int} {c : Cr} (h : (sK l c).2 = 1) : spotD l c = ((pickD l (sK l c).1 [0, 5, 16]).1, ⟨(frAnyD l c).2, (sN l c).2 * (sX l c).2, (sN l c).2 * (sY l c).2, (pickD l (sK l c).1 [0, 5, 16]).2⟩) := by unfold spotD; rw [if_neg (by omega), if_pos h]
theorem spotD_2 {l : List Int} {c : Cr} (h : (sK l c).2 ≠ 0) (h1 : (sK l c).2 ≠ 1) : spotD l c = ((sK l c).1, ⟨(frAnyD l c).2, (sN l c).2 * (sX l c).2, (sN l c).2 * (sY l c).2, (sN l c).2⟩) := by unfold spotD; rw [if_neg h, if_neg h1]
theorem spotD_crs {l : List Int} {c : Cr} (h : CrOk l c) : CrOk l (frAnyD l c).1 ∧ CrOk l (sN l c).1 ∧ CrOk l (sX l c).1 ∧ CrOk l (sY l c).1 ∧ CrOk l (sK l c).1 ∧ ((sN l c).2 = 4 ∨ (sN l c).2 = 8) := by
  have h1 := frAnyD_ok h
  have h2 := pickD_ok (xs := [4, 4, 8]) h1.1 (by decide)
  have h3 := belowD_ok (max 1 ((frAnyD l c).2.w / (sN l c).2)) h2.1
  have h4 := belowD_ok (max 1 ((frAnyD l c).2.h / (sN l c).2)) h3.1
  have h5 := belowD_ok 14 h4.1
  refine ⟨h1.1, h2.1, h3.1, h4.1, h5.1, ?_⟩
  have hm := h2.2
  simp only [List.mem_cons, List.not_mem_nil, or_false] at hm
  show (pickD l _ _).2 = 4 ∨ (pickD l _ _).2 = 8
  omega
theorem spotD_f {l : List Int} {c : Cr} : (spotD l c).2.f = (frAnyD l c).2 := by
  unfold spotD; split
  · rfl
  · split <;> rfl
theorem spotD_ok {l : List Int} {c : Cr} (h : CrOk l c) : CrOk l (spotD l c).1 ∧ ((spotD l c).2.n = 0 ∨ (spotD l c).2.n = 4 ∨ (spotD l c).2.n = 5 ∨ (spotD l c).2.n = 8 ∨ (spotD l c).2.n = 16) ∧ (spotD l c).2.f.p.length ≤ 384 ∧ (spotD l c).2.f.o ≤ (spotD l c).2.f.p.length := by
  have hc := spotD_crs h
  have h5 := hc.2.2.2.2
  refine ⟨?_, ?_, by rw [spotD_f]; exact (frAnyD_ok h).2.2.2⟩
  · unfold spotD; split
    · exact (pickD_ok h5.1 (by simp)).1
    · split
      · exact (pickD_ok h5.1 (by decide)).1
      · exact h5.1
  · have h6 := h5.2
    unfold spotD; split
    · show (sN l c).2 = 0 ∨ (sN l c).2 = 4 ∨ (sN l c).2 = 5 ∨ (sN l c).2 = 8 ∨ (sN l c).2 = 16; omega
    · split
      · have hm := (pickD_ok (xs := [0, 5, 16]) h5.1 (by decide)).2
        simp only [List.mem_cons, List.not_mem_nil, or_false] at hm
        show (pickD l _ _).2 = 0 ∨ (pickD l _ _).2 = 4 ∨ (pickD l _ _).2 = 5 ∨ (pickD l _ _).2 = 8 ∨ (pickD l _ _).2 = 16
        omega
      · show (sN l c).2 = 0 ∨ (sN l c).2 = 4 ∨ (sN l c).2 = 5 ∨ (sN l c).2 = 8 ∨ (sN l c).2 = 16; omega
structure Put8 where
  s : Spt
  hd : Hd6
  m : Int
  lv : List Int
abbrev pS (l : List Int) (c : Cr) : Cr × Spt := spotD l c
abbrev pH (l : List Int) (c : Cr) : Cr × Hd6 := headD l (pS l c).1
abbrev pM (l : List Int) (c : Cr) : Cr × Int := modeD l (pH l c).1
abbrev pL (l : List Int) (c : Cr) : Cr × List Int := lev25D l (pM l c).1
abbrev pO (l : List Int) (c : Cr) : Cr × Bool := onceD l (pL l c).1 6
abbrev lens6 : List Int := [3, 3, 3, 3, 2, 2]
def putD (l : List Int) (c : Cr) : Cr × Put8 :=
  if (pS l c).2.n = 4 ∨ (pS l c).2.n = 8 then
    if (pO l c).2 = true then ((pO l c).1, ⟨(pS l c).2, (pH l c).2, (pM l c).2, (pL l c).2⟩)
    else ((blkD l lens6 (pS l c).2.n (pO l c).1).1, ⟨(pS l c).2, (pH l c).2, (pM l c).2, (blkD l lens6 (pS l c).2.n (pO l c).1).2.2⟩)
  else ((pL l c).1, ⟨(pS l c).2, (pH l c).2, (pM l c).2, (pL l c).2⟩)
theorem putD_crs {l : List Int} {c : Cr} (h : CrOk l c) : CrOk l (pS l c).1 ∧ CrOk l (pH l c).1 ∧ CrOk l (pM l c).1 ∧ CrOk l (pL l c).1 ∧ CrOk l (pO l c).1 ∧ (pH l c).2.lens.length = 6 ∧ (pL l c).2.length ≤ 64 := by
  have h1 := spotD_ok h
  have h2 := headD_ok h1.1
  have h3 := modeD_ok h2.1
  have h4 := lev25D_ok h3
  have h5 := onceD_ok 6 h4.1
  exact ⟨h1.1, h2.1, h3, h4.1, h5, h2.2.1, h4.2⟩
theorem putD_0 {l : List Int} {c : Cr} (h : ¬ ((pS l c).2.n = 4 ∨ (pS l c).2.n = 8)) : putD l c = ((pL l c).1, ⟨(pS l c).2, (pH l c).2, (pM l c).2, (pL l c).2⟩) := by unfold putD; rw [if_neg h]
theorem putD_1 {l : List Int} {c : Cr} (h : (pS l c).2.n = 4 ∨ (pS l c).2.n = 8) (h1 : (pO l c).2 = true) : putD l c = ((pO l c).1, ⟨(pS l c).2, (pH l c).2, (pM l c).2, (pL l c).2⟩) := by unfold putD; rw [if_pos h, if_pos h1]
theorem putD_2 {l : List Int} {c : Cr} (h : (pS l c).2.n = 4 ∨ (pS l c).2.n = 8) (h1 : ¬ (pO l c).2 = true) : putD l c = ((blkD l lens6 (pS l c).2.n (pO l c).1).1, ⟨(pS l c).2, (pH l c).2, (pM l c).2, (blkD l lens6 (pS l c).2.n (pO l c).1).2.2⟩) := by unfold putD; rw [if_pos h, if_neg h1]
theorem putD_ok {l : List Int} {c : Cr} (h : CrOk l c) : CrOk l (putD l c).1 ∧ ((putD l c).2.s.f.p.length ≤ 384 ∧ (putD l c).2.s.f.o ≤ (putD l c).2.s.f.p.length) ∧ (putD l c).2.hd.lens.length = 6 ∧ (putD l c).2.lv.length ≤ 64 := by
  have hs := putD_crs h
  have hp := (spotD_ok h).2.2
  unfold putD; split
  · rename_i hn
    split
    · exact ⟨hs.2.2.2.2.1, hp, hs.2.2.2.2.2.1, hs.2.2.2.2.2.2⟩
    · have hb := blkD_ok (lens := lens6) hn hs.2.2.2.2.1
      refine ⟨hb.1, hp, hs.2.2.2.2.2.1, ?_⟩
      show (blkD l lens6 (pS l c).2.n (pO l c).1).2.2.length ≤ 64
      have := hb.2
      rcases hn with e | e <;> rw [e] at this ⊢ <;> omega
  · exact ⟨hs.2.2.2.1, hp, hs.2.2.2.2.2.1, hs.2.2.2.2.2.2⟩
end Go.Proofs.YtjhejgamjlokdaaGreat


namespace Go.Proofs.YtjhejgamjlokdaaGreat
open Go Go.Abs
def alphaL (q : Int) : Int := if 0 ≤ q ∧ q ≤ 51 then q + 4 else 0
def betaL (q : Int) : Int := if 0 ≤ q ∧ q ≤ 51 then q / 3 + 2 else 0
abbrev EdOk (a b c d q : Int) : Prop := In [a, b, c, d] 0 255 ∧ max (b - c) (c - b) < alphaL q ∧ max (a - b) (b - a) < betaL q ∧ max (c - d) (d - c) < betaL q
def edD (a b c d q : Int) : Int := max (-(q / 4 + 1)) (min (q / 4 + 1) ((4 * (c - b) + (a - d) + 4) / 8))
def edP (a b c d q : Int) : Int × Int := if EdOk a b c d q then (max 0 (min 255 (b + edD a b c d q)), max 0 (min 255 (c - edD a b c d q))) else (b, c)
def edg (q : Int) (e s : Nat) (f l : List Int) : List Int := (l.set (e - s) (edP (f.getD (e - 2 * s) 0) (f.getD (e - s) 0) (f.getD e 0) (f.getD (e + s) 0) q).1).set e (edP (f.getD (e - 2 * s) 0) (f.getD (e - s) 0) (f.getD e 0) (f.getD (e + s) 0) q).2
def run (q : Int) : List (Nat × Nat) → List Int → List Int
  | [], l => l
  | x :: E, l => run q E (edg q x.1 x.2 l l)
def vx (w y j : Nat) : List (Nat × Nat) := (List.range j).map fun i => (y * w + (8 * i + 8), 1)
def vy (w a k : Nat) : List (Nat × Nat) := (List.range k).flatMap fun i => vx w (a + i) (w / 8 - 1)
def hx (w y k : Nat) : List (Nat × Nat) := (List.range k).map fun i => (y * w + i, w)
def hy (w k : Nat) : List (Nat × Nat) := (List.range k).flatMap fun i => hx w (8 * i + 8) w
theorem in_setV {l : List Int} {lo hi v : Int} (h : In l lo hi) (hv : lo ≤ v ∧ v ≤ hi) (i : Nat) : In (l.set i v) lo hi := by
  unfold In at *
  intro x hx
  rcases List.mem_or_eq_of_mem_set hx with h1 | h1
  · exact h x h1
  · rw [h1]; exact hv
theorem in_getZ255 {l : List Int} (h : In l 0 255) (k : Nat) : 0 ≤ l.getD k 0 ∧ l.getD k 0 ≤ 255 := by
  by_cases hk : k < l.length
  · exact in_get h hk
  · rw [List.getD_eq_getElem?_getD, List.getElem?_eq_none (by omega)]; simp
end Go.Proofs.YtjhejgamjlokdaaGreat


namespace Go.Proofs.YtjhejgamjlokdaaGreat
open Go Go.Abs
attribute [local irreducible] WpA WpL Rnd Blk Abs.Seq Abs.Fin Abs.FinG FnC FnG Only
abbrev NbA (t l : List Int) (c : Int) (a b : Bool) : AV := .agg [IL t, IL l, I c, B a, B b]
abbrev NbO (t l : List Int) (c : Int) (a b : Bool) : AObj := ⟨[IL t, IL l, I c, B a, B b], 0, 0, none⟩
abbrev NbOk (t l : List Int) (c n : Int) : Prop := (n = 4 ∨ n = 8) ∧ (t.length : Int) = 2 * n ∧ (l.length : Int) = n ∧ In t 0 255 ∧ In l 0 255 ∧ 0 ≤ c ∧ c ≤ 255
instance NbOk_s : Con 60 (∀ (t l : List Int) (c : Int) (a b : Bool) (n : Int), t.length ≤ 1099511627776 ∧ l.length ≤ 1099511627776 → Fn 60 [NbA t l c a b, I n] [] (B (decide (NbOk t l c n)))) := ⟨fun t l c a b n hl => by
  refine FnC.of_body tabOk Tryz.func60 Tryz.ntmps60 rfl (by decide +kernel) (by simp) fun G => ?_
  refine go (r := ?_); and_intros <;> intros <;> try exact True.intro
  all_goals simp_all⟩
instance NbOk_c : Con 93 (∀ (t l : List Int) (c : Int) (a b : Bool) (n : Int), t.length ≤ 1099511627776 ∧ l.length ≤ 1099511627776 → Fn 93 [NbA t l c a b, I n] [] (B (decide (NbOk t l c n)))) := ⟨fun t l c a b n hl => by
  refine FnC.of_body tabOk Tryz.func93 Tryz.ntmps93 rfl (by decide +kernel) (by simp) fun G => ?_
  refine go (r := ?_); and_intros <;> intros <;> try exact True.intro
  all_goals simp_all⟩
def bordL (t l : List Int) (c n : Int) : List Int := if NbOk t l c n then l.reverse ++ [c] ++ t.take n.toNat else []
theorem bord_len {t l : List Int} {c n : Int} (h : NbOk t l c n) : ((bordL t l c n).length : Int) = 2 * n + 1 := by
  rw [bordL, if_pos h]; obtain ⟨h1, h2, h3, _⟩ := h; simp; omega
instance Border_s : Con 76 (∀ (t l : List Int) (c : Int) (a b : Bool) (n : Int), t.length ≤ 1099511627776 ∧ l.length ≤ 1099511627776 → Fn 76 [NbA t l c a b, I n] [XI (bordL t l c n)] (.own 0 0 0 (bordL t l c n).length)) := ⟨fun t l c a b n hl => by
  refine FnC.of_body tabOk Tryz.func76 Tryz.ntmps76 rfl (by decide +kernel) (by simp) fun G => ?_
  refine go (r := ?_); and_intros <;> intros <;> try exact True.intro
  · rw [bordL, if_neg (by assumption)]; rfl
  · rw [bordL, if_neg (by assumption)]
  have h : NbOk t l c n := ‹_›
  obtain ⟨h1, h2, h3, h4, h5, h6⟩ := id h
  have htk : (t.take n.toNat).length = n.toNat := by simp; omega
  have hbl := bord_len h
  refine WpA.loop (fun k : Nat => ⟨[(1, I n), (2, .ptr 0 0 0), (5, .own 1 0 0 k), (6, I (n - 1 - k))], [NbO t l c a b, XI (l.reverse.take k)]⟩) (fun k => k ≤ l.length) (fun k => l.length - k) 0 (by omega) (go (r := ?_)) (fun k hk => ?_)
  · simp
  have hlk : (l.reverse.take k).length = k := by simp; omega
  refine go (r := ?_); and_intros <;> intros <;> try exact True.intro
  · rw [take_snoc _ k (by simp; omega)]; congr 2; rw [show (default : Int) = 0 from rfl, rev_get l k (by omega)]; congr 1; omega
  all_goals have e : k = l.length := by omega
  all_goals subst e
  rw [List.take_of_length_le (by simp), bordL, if_pos h]⟩
instance Border_c : Con 122 (∀ (t l : List Int) (c : Int) (a b : Bool) (n : Int), t.length ≤ 1099511627776 ∧ l.length ≤ 1099511627776 → Fn 122 [NbA t l c a b, I n] [XI (bordL t l c n)] (.own 0 0 0 (bordL t l c n).length)) := ⟨fun t l c a b n hl => by
  by_cases h : NbOk t l c n
  · have hbl := bord_len h
    obtain ⟨h1, h2, h3, h4, h5, h6⟩ := id h
    have htk : (t.take n.toNat).length = n.toNat := by simp; omega
    have hlr : l.reverse.length = l.length := List.length_reverse
    refine FnC.of_body tabOk Tryz.func122 Tryz.ntmps122 rfl (by decide +kernel) (by simp) fun G => ?_
    refine go (r := ?_); and_intros <;> intros <;> try exact True.intro
    all_goals first | (exact absurd h ‹¬ NbOk t l c n›) | skip
    rw [bordL, if_pos h]
  · refine FnC.of_body tabOk Tryz.func122 Tryz.ntmps122 rfl (by decide +kernel) (by simp) fun G => ?_
    refine go (r := ?_); and_intros <;> intros <;> try exact True.intro
    all_goals first | (exact absurd ‹NbOk t l c n› h) | skip
    · rw [bordL, if_neg h]; rfl
    · rw [bordL, if_neg h]⟩
def meanL (t l : List Int) (c : Int) (a b : Bool) (n : Int) : Int := if NbOk t l c n then (match a, b with
  | true, true => ((t.take n.toNat).sum + l.sum + n) / (2 * n)
  | true, false => ((t.take n.toNat).sum + n / 2) / n
  | false, true => (l.sum + n / 2) / n
  | false, false => 128) else 0
theorem sum_bd255 {l : List Int} (h : In l 0 255) : 0 ≤ l.sum ∧ l.sum ≤ 255 * l.length := by
  have := psum_bd h l.length (Nat.le_refl _)
  rw [psum_all] at this; exact this
theorem mean_in {t l : List Int} {c n : Int} (a b : Bool) (h : NbOk t l c n) : 0 ≤ meanL t l c a b n ∧ meanL t l c a b n ≤ 255 := by
  unfold meanL
  rw [if_pos h]
  obtain ⟨h1, h2, h3, h4, h5, h6⟩ := h
  have htk : (t.take n.toNat).length = n.toNat := by simp; omega
  have s1 := sum_bd255 (in_take h4 n.toNat)
  have s2 := sum_bd255 h5
  rw [htk] at s1
  rcases h1 with rfl | rfl <;> cases a <;> cases b <;> simp only <;> omega
instance Mean_s : Con 98 (∀ (t l : List Int) (c : Int) (a b : Bool) (n : Int), t.length ≤ 1099511627776 ∧ l.length ≤ 1099511627776 → Fn 98 [NbA t l c a b, I n] [] (I (meanL t l c a b n))) := ⟨fun t l c a b n hl => by
  by_cases h : NbOk t l c n
  · obtain ⟨h1, h2, h3, h4, h5, h6⟩ := id h
    have htk : (t.take n.toNat).length = n.toNat := by simp; omega
    have s0 := in_take h4 n.toNat
    have s1 := sum_bd255 s0
    have s2 := sum_bd255 h5
    rw [htk] at s1
    cases a <;> cases b
    all_goals refine FnC.of_body tabOk Tryz.func98 Tryz.ntmps98 rfl (by decide +kernel) (by simp) fun G => ?_
    · refine go (r := ?_); and_intros <;> intros <;> try exact True.intro
      all_goals first | (exact absurd h ‹¬ NbOk t l c n›) | (unfold meanL; rw [if_pos h]; done) | (unfold meanL; rw [if_pos h]; rfl)
    · refine go (r := ?_); and_intros <;> intros <;> try exact True.intro
      all_goals first | (exact absurd h ‹¬ NbOk t l c n›) | (unfold meanL; rw [if_pos h]; done) | (unfold meanL; rw [if_pos h]; rfl)
    · refine go (r := ?_); and_intros <;> intros <;> try exact True.intro
      all_goals first | (exact absurd h ‹¬ NbOk t l c n›) | (unfold meanL; rw [if_pos h]; done) | (unfold meanL; rw [if_pos h]; rfl)
    · refine go (r := ?_); and_intros <;> intros <;> try exact True.intro
      all_goals first | (exact absurd h ‹¬ NbOk t l c n›) | (unfold meanL; rw [if_pos h]; done) | (unfold meanL; rw [if_pos h]; rfl)
  · refine FnC.of_body tabOk Tryz.func98 Tryz.ntmps98 rfl (by decide +kernel) (by simp) fun G => ?_
    refine go (r := ?_); and_intros <;> intros <;> try exact True.intro
    all_goals first | (exact absurd ‹NbOk t l c n› h) | skip
    all_goals (unfold meanL; rw [if_neg h])⟩
instance Mean_c : Con 120 (∀ (t l : List Int) (c : Int) (a b : Bool) (n : Int), t.length ≤ 1099511627776 ∧ l.length ≤ 1099511627776 → Fn 120 [NbA t l c a b, I n] [] (I (meanL t l c a b n))) := ⟨fun t l c a b n hl => by
  by_cases h : NbOk t l c n
  · obtain ⟨h1, h2, h3, h4, h5, h6⟩ := id h
    have htk : (t.take n.toNat).length = n.toNat := by simp; omega
    have s0 := in_take h4 n.toNat
    have s1 := sum_bd255 s0
    have s2 := sum_bd255 h5
    rw [htk] at s1
    cases a <;> cases b
    · refine FnC.of_body tabOk Tryz.func120 Tryz.ntmps120 rfl (by decide +kernel) (by simp) fun G => ?_
      refine go (r := ?_); and_intros <;> intros <;> try exact True.intro
      all_goals first | (exact absurd h ‹¬ NbOk t l c n›) | skip
      unfold meanL; rw [if_pos h]
    · refine FnC.of_body tabOk Tryz.func120 Tryz.ntmps120 rfl (by decide +kernel) (by simp) fun G => ?_
      refine go (r := ?_); and_intros <;> intros <;> try exact True.intro
      all_goals first | (exact absurd h ‹¬ NbOk t l c n›) | skip
      refine WpA.loop (fun k : Nat => ⟨[(1, I n), (5, I (psum l k)), (6, I 0), (36, IL l), (37, I l.length), (38, I k)], [NbO t l c false true]⟩) (fun k => k ≤ l.length) (fun k => l.length - k) 0 (by omega) (go (r := ?_)) (fun k hk => ?_)
      · simp [psum_zero]
      have hb := psum_bd h5 k hk
      have hg := fun h => in_get h5 (k := k) h
      have hs := fun h => psum_succ l k h
      refine go (r := ?_); and_intros <;> intros <;> try exact True.intro
      all_goals have e : k = l.length := by omega
      all_goals subst e
      all_goals rw [psum_all]
      unfold meanL; rw [if_pos h]; rcases h1 with rfl | rfl <;> simp <;> omega
    · refine FnC.of_body tabOk Tryz.func120 Tryz.ntmps120 rfl (by decide +kernel) (by simp) fun G => ?_
      refine go (r := ?_); and_intros <;> intros <;> try exact True.intro
      all_goals first | (exact absurd h ‹¬ NbOk t l c n›) | skip
      refine WpA.loop (fun k : Nat => ⟨[(1, I n), (2, .ptr 0 0 0), (5, I (psum (t.take n.toNat) k)), (6, I 0), (20, IL (t.take n.toNat)), (21, I (t.take n.toNat).length), (22, I k)], [NbO t l c true false]⟩) (fun k => k ≤ (t.take n.toNat).length) (fun k => (t.take n.toNat).length - k) 0 (by omega) (go (r := ?_)) (fun k hk => ?_)
      · simp [psum_zero]
      have hb := psum_bd s0 k hk
      have hg := fun h => in_get s0 (k := k) h
      have hs := fun h => psum_succ (t.take n.toNat) k h
      refine go (r := ?_); and_intros <;> intros <;> try exact True.intro
      all_goals have e : k = (t.take n.toNat).length := by omega
      all_goals subst e
      all_goals rw [psum_all]
      unfold meanL; rw [if_pos h]; rcases h1 with rfl | rfl <;> simp <;> omega
    · refine FnC.of_body tabOk Tryz.func120 Tryz.ntmps120 rfl (by decide +kernel) (by simp) fun G => ?_
      refine go (r := ?_); and_intros <;> intros <;> try exact True.intro
      all_goals first | (exact absurd h ‹¬ NbOk t l c n›) | skip
      refine WpA.loop (fun k : Nat => ⟨[(1, I n), (2, .ptr 0 0 0), (5, I (psum (t.take n.toNat) k)), (6, I 0), (20, IL (t.take n.toNat)), (21, I (t.take n.toNat).length), (22, I k)], [NbO t l c true true]⟩) (fun k => k ≤ (t.take n.toNat).length) (fun k => (t.take n.toNat).length - k) 0 (by omega) (go (r := ?_)) (fun k hk => ?_)
      · simp [psum_zero]
      have hb := psum_bd s0 k hk
      have hg := fun h => in_get s0 (k := k) h
      have hs := fun h => psum_succ (t.take n.toNat) k h
      refine go (r := ?_); and_intros <;> intros <;> try exact True.intro
      have e : k = (t.take n.toNat).length := by omega
      subst e
      refine WpA.loop (fun k : Nat => ⟨[(1, I n), (5, I ((t.take n.toNat).sum + psum l k)), (6, I n), (36, IL l), (37, I l.length), (38, I k)], [NbO t l c true true]⟩) (fun k => k ≤ l.length) (fun k => l.length - k) 0 (by omega) (go (r := ?_)) (fun k hk => ?_)
      · refine ⟨?_, trivial⟩; rw [psum_all, psum_zero]; omega
      have hb := psum_bd h5 k hk
      have hg := fun h => in_get h5 (k := k) h
      have hs := fun h => psum_succ l k h
      refine go (r := ?_); and_intros <;> intros <;> try exact True.intro
      all_goals have e : k = l.length := by omega
      all_goals subst e
      all_goals rw [psum_all]
      unfold meanL; rw [if_pos h]; rcases h1 with rfl | rfl <;> simp <;> omega
  · refine FnC.of_body tabOk Tryz.func120 Tryz.ntmps120 rfl (by decide +kernel) (by simp) fun G => ?_
    refine go (r := ?_); and_intros <;> intros <;> try exact True.intro
    all_goals first | (exact absurd ‹NbOk t l c n› h) | skip
    all_goals (unfold meanL; rw [if_neg h])⟩
end Go.Proofs.YtjhejgamjlokdaaGreat


namespace Go.Proofs.YtjhejgamjlokdaaGreat
open Go Go.Abs
attribute [local irreducible] WpA WpL Rnd Blk Abs.Seq Abs.Fin Abs.FinG FnC FnG Only
theorem in_append {l m : List Int} {lo hi : Int} (h1 : In l lo hi) (h2 : In m lo hi) : In (l ++ m) lo hi := by
  unfold In at *; intro v hv
  rcases List.mem_append.1 hv with h | h
  · exact h1 v h
  · exact h2 v h
theorem in_one {v lo hi : Int} (h : lo ≤ v ∧ v ≤ hi) : In [v] lo hi := by unfold In; intro x hx; have : x = v := by simpa using hx
                                                                          subst this; exact h
theorem in_rev {l : List Int} {lo hi : Int} (h : In l lo hi) : In l.reverse lo hi := by unfold In at *; intro v hv; exact h v (by simpa using hv)
theorem bord_in {t l : List Int} {c n : Int} (h : NbOk t l c n) : In (bordL t l c n) 0 255 := by
  rw [bordL, if_pos h]
  obtain ⟨h1, h2, h3, h4, h5, h6⟩ := h
  exact in_append (in_append (in_rev h5) (in_one h6)) (in_take h4 _)
instance l15Clip_s : Con 97 (∀ v : Int, Fn 97 [I v] [] (I (max 0 (min 255 v)))) := ⟨fun v => by
  refine FnC.of_body tabOk Tryz.func97 Tryz.ntmps97 rfl (by decide +kernel) (by simp) fun G => ?_
  exact go (r := trivial)⟩
def soft (a b c : Int) : Int := (a + 2 * b + c + 2) / 4
instance l15Soft_s : Con 99 (∀ a b c : Int, (0 ≤ a ∧ a ≤ 255) ∧ (0 ≤ b ∧ b ≤ 255) ∧ 0 ≤ c ∧ c ≤ 255 → Fn 99 [I a, I b, I c] [] (I (soft a b c))) := ⟨fun a b c h => by
  refine FnC.of_body tabOk Tryz.func99 Tryz.ntmps99 rfl (by decide +kernel) (by simp) fun G => ?_
  refine go (r := ?_); and_intros <;> intros <;> try exact True.intro
  all_goals rfl⟩
instance smoothed_c : Con 121 (∀ a b c : Int, (0 ≤ a ∧ a ≤ 255) ∧ (0 ≤ b ∧ b ≤ 255) ∧ 0 ≤ c ∧ c ≤ 255 → Fn 121 [I a, I b, I c] [] (I (soft a b c))) := ⟨fun a b c h => by
  refine FnC.of_body tabOk Tryz.func121 Tryz.ntmps121 rfl (by decide +kernel) (by simp) fun G => ?_
  refine go (r := ?_); and_intros <;> intros <;> try exact True.intro
  all_goals rfl⟩
theorem soft_in {a b c : Int} (h : (0 ≤ a ∧ a ≤ 255) ∧ (0 ≤ b ∧ b ≤ 255) ∧ 0 ≤ c ∧ c ≤ 255) : 0 ≤ soft a b c ∧ soft a b c ≤ 255 := by unfold soft; omega
def predL (m : Int) (t l : List Int) (c : Int) (a b : Bool) (n x y : Int) : Int := if NbOk t l c n ∧ (0 ≤ x ∧ x ≤ n - 1) ∧ 0 ≤ y ∧ y ≤ n - 1 then
  (if m = 0 then meanL t l c a b n else if m = 1 then t.getD x.toNat 0 else if m = 2 then l.getD y.toNat 0 else if m = 3 then max 0 (min 255 (l.getD y.toNat 0 + t.getD x.toNat 0 - c))
    else if m = 4 then soft (t.getD (x + y).toNat 0) (t.getD (min (2 * n - 1) (x + y + 1)).toNat 0) (t.getD (min (2 * n - 1) (x + y + 2)).toNat 0)
    else if m = 5 then soft ((bordL t l c n).getD (x - y + n - 1).toNat 0) ((bordL t l c n).getD (x - y + n).toNat 0) ((bordL t l c n).getD (x - y + n + 1).toNat 0) else -1) else -1
theorem predL_no {m : Int} {t l : List Int} {c : Int} {a b : Bool} {n x y : Int} (h : ¬ (NbOk t l c n ∧ (0 ≤ x ∧ x ≤ n - 1) ∧ 0 ≤ y ∧ y ≤ n - 1)) : -1 = predL m t l c a b n x y := by unfold predL; rw [if_neg h]
instance PredAt_s : Con 61 (∀ (m : Int) (t l : List Int) (c : Int) (a b : Bool) (n x y : Int), t.length ≤ 1099511627776 ∧ l.length ≤ 1099511627776 ∧ -9223372036854775807 ≤ n → Fn 61 [I m, NbA t l c a b, I n, I x, I y] [] (I (predL m t l c a b n x y))) := ⟨fun m t l c a b n x y hl => by
  by_cases h : NbOk t l c n ∧ (0 ≤ x ∧ x ≤ n - 1) ∧ 0 ≤ y ∧ y ≤ n - 1
  · obtain ⟨h0, hx, hy⟩ := id h
    obtain ⟨h1, h2, h3, h4, h5, h6⟩ := id h0
    have hbl := bord_len h0
    have hbi := bord_in h0
    have g1 := in_get h4 (k := x.toNat) (by omega)
    have g2 := in_get h5 (k := y.toNat) (by omega)
    have g3 := in_get h4 (k := (x + y).toNat) (by omega)
    have g4 := in_get h4 (k := (min (2 * n - 1) (x + y + 1)).toNat) (by omega)
    have g5 := in_get h4 (k := (min (2 * n - 1) (x + y + 2)).toNat) (by omega)
    have g6 := in_get hbi (k := (x - y + n - 1).toNat) (by omega)
    have g7 := in_get hbi (k := (x - y + n).toNat) (by omega)
    have g8 := in_get hbi (k := (x - y + n + 1).toNat) (by omega)
    refine FnC.of_body tabOk Tryz.func61 Tryz.ntmps61 rfl (by decide +kernel) (by simp) fun G => ?_
    refine go (r := ?_); and_intros <;> intros <;> try exact True.intro
    all_goals first | (exact absurd h0 ‹¬ NbOk t l c n›) | (exact absurd hx (by assumption)) | (exact absurd hy (by assumption)) | skip
    all_goals (unfold predL; rw [if_pos h]; first | (subst_vars; rfl) | (simp_all; done))
  · by_cases h0 : NbOk t l c n
    · by_cases hx : 0 ≤ x ∧ x ≤ n - 1
      · have hy : ¬ (0 ≤ y ∧ y ≤ n - 1) := fun hh => h ⟨h0, hx, hh⟩
        refine FnC.of_body tabOk Tryz.func61 Tryz.ntmps61 rfl (by decide +kernel) (by simp) fun G => ?_
        refine go (r := ?_); and_intros <;> intros <;> try exact True.intro
        all_goals exact predL_no h
      · refine FnC.of_body tabOk Tryz.func61 Tryz.ntmps61 rfl (by decide +kernel) (by simp) fun G => ?_
        refine go (r := ?_); and_intros <;> intros <;> try exact True.intro
        all_goals exact predL_no h
    · refine FnC.of_body tabOk Tryz.func61 Tryz.ntmps61 rfl (by decide +kernel) (by simp) fun G => ?_
      refine go (r := ?_); and_intros <;> intros <;> try exact True.intro
      all_goals exact predL_no h⟩
instance PredAt_c : Con 94 (∀ (m : Int) (t l : List Int) (c : Int) (a b : Bool) (n x y : Int), t.length ≤ 1099511627776 ∧ l.length ≤ 1099511627776 ∧ -9223372036854775807 ≤ n → Fn 94 [I m, NbA t l c a b, I n, I x, I y] [] (I (predL m t l c a b n x y))) := ⟨fun m t l c a b n x y hl => by
  by_cases h : NbOk t l c n ∧ (0 ≤ x ∧ x ≤ n - 1) ∧ 0 ≤ y ∧ y ≤ n - 1
  · obtain ⟨h0, hx, hy⟩ := id h
    obtain ⟨h1, h2, h3, h4, h5, h6⟩ := id h0
    have hbl := bord_len h0
    have hbi := bord_in h0
    have g1 := in_get h4 (k := x.toNat) (by omega)
    have g2 := in_get h5 (k := y.toNat) (by omega)
    have g3 := in_get h4 (k := (x + y).toNat) (by omega)
    have g4 := in_get h4 (k := (min (x + y + 1) (2 * n - 1)).toNat) (by omega)
    have g5 := in_get h4 (k := (min (x + y + 2) (2 * n - 1)).toNat) (by omega)
    have g6 := in_get hbi (k := (x - y + n - 1).toNat) (by omega)
    have g7 := in_get hbi (k := (x - y + n).toNat) (by omega)
    have g8 := in_get hbi (k := (x - y + n + 1).toNat) (by omega)
    refine FnC.of_body tabOk Tryz.func94 Tryz.ntmps94 rfl (by decide +kernel) (by simp) fun G => ?_
    refine go (r := ?_); and_intros <;> intros <;> try exact True.intro
    all_goals (unfold predL; rw [if_pos h]; first | (subst_vars; rfl) | (simp_all [Int.min_comm]; done))
  · by_cases h0 : NbOk t l c n
    · by_cases hx : 0 ≤ x ∧ x ≤ n - 1
      · have hy : ¬ (0 ≤ y ∧ y ≤ n - 1) := fun hh => h ⟨h0, hx, hh⟩
        refine FnC.of_body tabOk Tryz.func94 Tryz.ntmps94 rfl (by decide +kernel) (by simp) fun G => ?_
        refine go (r := ?_); and_intros <;> intros <;> try exact True.intro
        all_goals exact predL_no h
      · refine FnC.of_body tabOk Tryz.func94 Tryz.ntmps94 rfl (by decide +kernel) (by simp) fun G => ?_
        refine go (r := ?_); and_intros <;> intros <;> try exact True.intro
        all_goals exact predL_no h
    · refine FnC.of_body tabOk Tryz.func94 Tryz.ntmps94 rfl (by decide +kernel) (by simp) fun G => ?_
      refine go (r := ?_); and_intros <;> intros <;> try exact True.intro
      all_goals exact predL_no h⟩
end Go.Proofs.YtjhejgamjlokdaaGreat


namespace Go.Proofs.YtjhejgamjlokdaaGreat
open Go Go.Abs
abbrev PF (m : Int) (t l : List Int) (c : Int) (a b : Bool) (n : Nat) (i : Nat) : Int := predL m t l c a b n ((i % n : Nat) : Int) ((i / n : Nat) : Int)
def prK (m : Int) (t l : List Int) (c : Int) (a b : Bool) (n k : Nat) : List Int := (List.range k).map (PF m t l c a b n)
theorem prK_len (m : Int) (t l : List Int) (c : Int) (a b : Bool) (n k : Nat) : (prK m t l c a b n k).length = k := by simp [prK]
theorem prK_snoc (m : Int) (t l : List Int) (c : Int) (a b : Bool) (n k : Nat) : prK m t l c a b n (k + 1) = prK m t l c a b n k ++ [PF m t l c a b n k] := by simp [prK, List.range_succ]
def predS (m : Int) (t l : List Int) (c : Int) (a b : Bool) (n : Int) : List Int := if NbOk t l c n ∧ 0 ≤ m ∧ m ≤ 5 then prK m t l c a b n.toNat (n.toNat * n.toNat) else []
theorem mod_div_in {n i : Nat} (h : i < n * n) : i % n < n ∧ i / n < n := by
  have hn : 0 < n := by rcases Nat.eq_zero_or_pos n with rfl | h0
                        · simp at h
                        · exact h0
  exact ⟨Nat.mod_lt _ hn, Nat.div_lt_of_lt_mul h⟩
theorem pred_in {m : Int} {t l : List Int} {c : Int} (a b : Bool) {n x y : Int} (h : NbOk t l c n) (hm : 0 ≤ m ∧ m ≤ 5) (hx : 0 ≤ x ∧ x ≤ n - 1) (hy : 0 ≤ y ∧ y ≤ n - 1) : 0 ≤ predL m t l c a b n x y ∧ predL m t l c a b n x y ≤ 255 := by
  unfold predL
  rw [if_pos ⟨h, hx, hy⟩]
  have hme := mean_in a b h
  have hbl := bord_len h
  have hbi := bord_in h
  obtain ⟨h1, h2, h3, h4, h5, h6⟩ := h
  have g1 := in_get h4 (k := x.toNat) (by omega)
  have g2 := in_get h5 (k := y.toNat) (by omega)
  have g3 := in_get h4 (k := (x + y).toNat) (by omega)
  have g4 := in_get h4 (k := (min (2 * n - 1) (x + y + 1)).toNat) (by omega)
  have g5 := in_get h4 (k := (min (2 * n - 1) (x + y + 2)).toNat) (by omega)
  have g6 := in_get hbi (k := (x - y + n - 1).toNat) (by omega)
  have g7 := in_get hbi (k := (x - y + n).toNat) (by omega)
  have g8 := in_get hbi (k := (x - y + n + 1).toNat) (by omega)
  have s1 := soft_in ⟨g3, g4, g5⟩
  have s2 := soft_in ⟨g6, g7, g8⟩
  repeat' split
  all_goals omega
theorem predS_len (m : Int) (t l : List Int) (c : Int) (a b : Bool) (n : Int) : (predS m t l c a b n).length = if NbOk t l c n ∧ 0 ≤ m ∧ m ≤ 5 then n.toNat * n.toNat else 0 := by
  unfold predS; split
  · rw [prK_len]
  · rfl
theorem predS_in (m : Int) (t l : List Int) (c : Int) (a b : Bool) (n : Int) : In (predS m t l c a b n) 0 255 := by
  unfold predS; split
  · rename_i h
    have h1 := h.1.1
    unfold In prK
    intro v hv
    obtain ⟨i, hi, rfl⟩ := List.mem_map.1 hv
    have hi := List.mem_range.1 hi
    have hmd := mod_div_in hi
    have e : ((n.toNat : Nat) : Int) = n := by omega
    have hx1 : ((i % n.toNat : Nat) : Int) ≤ n - 1 := by have := Int.ofNat_lt.2 hmd.1; rw [e] at this; exact Int.le_sub_one_of_lt this
    have hy1 : ((i / n.toNat : Nat) : Int) ≤ n - 1 := by have := Int.ofNat_lt.2 hmd.2; rw [e] at this; exact Int.le_sub_one_of_lt this
    have := pred_in a b (x := ((i % n.toNat : Nat) : Int)) (y := ((i / n.toNat : Nat) : Int)) h.1 h.2 ⟨Int.natCast_nonneg _, hx1⟩ ⟨Int.natCast_nonneg _, hy1⟩
    unfold PF; rw [e]; exact this
  · unfold In; intro v hv; cases hv
def ResOk (f p : List Int) : Prop := (f.length = 16 ∨ f.length = 64) ∧ p.length = f.length ∧ In f 0 255 ∧ In p 0 255
instance (f p : List Int) : Decidable (ResOk f p) := by unfold ResOk; infer_instance
def BmOk (l t le : List Int) (c n : Int) : Prop := NbOk t le c n ∧ (l.length : Int) = n * n ∧ In l 0 255
instance (l t le : List Int) (c n : Int) : Decidable (BmOk l t le c n) := by unfold BmOk; infer_instance
end Go.Proofs.YtjhejgamjlokdaaGreat


namespace Go.Proofs.YtjhejgamjlokdaaGreat
open Go Go.Abs
theorem tab_in {f : Nat → Int} {lo hi : Int} {N : Nat} (h : ∀ i, i < N → lo ≤ f i ∧ f i ≤ hi) : In (tabL f N) lo hi := by
  unfold In tabL
  intro v hv
  obtain ⟨i, hi, rfl⟩ := List.mem_map.1 hv
  exact h i (by simpa using hi)
abbrev Fits (W H : Int) (p : List Int) (x y n : Int) : Prop := FrameOk W H p ∧ (n = 4 ∨ n = 8) ∧ (0 ≤ x ∧ x ≤ W - n) ∧ (0 ≤ y ∧ y ≤ H - n) ∧ x % n = 0 ∧ y % n = 0
theorem ix_in {W H : Int} {p : List Int} (h : FrameOk W H p) {a b : Int} (ha : 0 ≤ a ∧ a ≤ H - 1) (hb : 0 ≤ b ∧ b ≤ W - 1) : 0 ≤ a * W ∧ a * W + b < p.length ∧ a * W ≤ 1024 := by
  obtain ⟨⟨h1, h2, h3, h4, _⟩, h5, _⟩ := h
  have e1 : 0 ≤ a * W := Int.mul_nonneg ha.1 (by omega)
  have e2 : a * W ≤ (H - 1) * W := Int.mul_le_mul_of_nonneg_right ha.2 (by omega)
  have e3 : (H - 1) * W = W * H - W := by rw [Int.sub_mul, Int.one_mul, Int.mul_comm]
  have e4 : W * H ≤ 32 * 32 := Int.mul_le_mul h2 h4 (by omega) (by omega)
  omega
abbrev pxI (W x y n : Int) (i : Nat) : Int := (y + (i : Int) / n) * W + x + (i : Int) % n
theorem px_in {W H : Int} {p : List Int} {x y n : Int} (h : Fits W H p x y n) {i : Nat} (hi : (i : Int) < n * n) : (0 ≤ (i : Int) / n ∧ (i : Int) / n ≤ n - 1 ∧ 0 ≤ (i : Int) % n ∧ (i : Int) % n ≤ n - 1) ∧ 0 ≤ (y + (i : Int) / n) * W ∧ (y + (i : Int) / n) * W ≤ 1024 ∧ 0 ≤ pxI W x y n i ∧ pxI W x y n i < p.length := by
  obtain ⟨h0, h1, hx, hy, _⟩ := h
  have e : 0 ≤ (i : Int) / n ∧ (i : Int) / n ≤ n - 1 ∧ 0 ≤ (i : Int) % n ∧ (i : Int) % n ≤ n - 1 := by rcases h1 with rfl | rfl <;> omega
  have := ix_in h0 (a := y + (i : Int) / n) (b := x + (i : Int) % n) (by omega) (by omega)
  unfold pxI
  omega
def blkV (W : Int) (p : List Int) (x y n : Int) (i : Nat) : Int := p.getD (pxI W x y n i).toNat 0
def blkL (W H : Int) (p : List Int) (x y n : Int) : List Int := if Fits W H p x y n then tabL (blkV W p x y n) (n * n).toNat else []
theorem blkL_le (W H : Int) (p : List Int) (x y n : Int) : (blkL W H p x y n).length ≤ 64 := by
  unfold blkL; split
  · rename_i h
    rw [tabL_len]
    rcases h.2.1 with rfl | rfl <;> decide
  · simp
def setK (W x y n : Int) (l p : List Int) : Nat → List Int
  | 0 => p
  | k + 1 => (setK W x y n l p k).set (pxI W x y n k).toNat (l.getD k 0)
theorem setK_len (W x y n : Int) (l p : List Int) : ∀ k, (setK W x y n l p k).length = p.length
  | 0 => rfl
  | k + 1 => by rw [setK, List.length_set]; exact setK_len W x y n l p k
theorem setK_in {W x y n : Int} {l p : List Int} (hl : In l 0 255) (hp : In p 0 255) : ∀ k, In (setK W x y n l p k) 0 255
  | 0 => hp
  | k + 1 => in_setV (setK_in hl hp k) (in_getZ255 hl k) _
abbrev SetOk (W H : Int) (p : List Int) (x y : Int) (l : List Int) : Prop := Fits W H p x y (side l.length) ∧ In l 0 255
def setL (W H : Int) (p : List Int) (x y : Int) (l : List Int) : List Int := if SetOk W H p x y l then setK W x y (side l.length) l p l.length else p
theorem setL_len (W H : Int) (p : List Int) (x y : Int) (l : List Int) : (setL W H p x y l).length = p.length := by
  unfold setL; split
  · exact setK_len ..
  · rfl
theorem setL_ok {W H : Int} {p : List Int} {x y : Int} {l : List Int} (h : FrameOk W H p) : FrameOk W H (setL W H p x y l) := by
  refine ⟨h.1, by rw [setL_len]; exact h.2.1, ?_⟩
  unfold setL; split
  · rename_i hs; exact setK_in hs.2 h.2.2 _
  · exact h.2.2
def topF (W : Int) (p : List Int) (x y n : Int) : Nat → Int
  | 0 => if y = 0 then 128 else p.getD ((y - 1) * W + x + (0 : Nat)).toNat 0
  | i + 1 => if y = 0 then 128 else if ((i + 1 : Nat) : Int) < n ∨ (y % 8 = 0 ∧ x + (i + 1 : Nat) < W) then p.getD ((y - 1) * W + x + (i + 1 : Nat)).toNat 0 else topF W p x y n i
def lefF (W : Int) (p : List Int) (x y : Int) (i : Nat) : Int := if 0 < x then p.getD ((y + (i : Int)) * W + x - 1).toNat 0 else 128
def topL (W H : Int) (p : List Int) (x y n : Int) : List Int := if Fits W H p x y n then tabL (topF W p x y n) (2 * n).toNat else []
def lefL (W H : Int) (p : List Int) (x y n : Int) : List Int := if Fits W H p x y n then tabL (lefF W p x y) n.toNat else []
def corL (W H : Int) (p : List Int) (x y n : Int) : Int := if Fits W H p x y n then (if 0 < x ∧ 0 < y then p.getD ((y - 1) * W + x - 1).toNat 0 else 128) else 0
def hasT (W H : Int) (p : List Int) (x y n : Int) : Bool := decide (Fits W H p x y n ∧ 0 < y)
def hasE (W H : Int) (p : List Int) (x y n : Int) : Bool := decide (Fits W H p x y n ∧ 0 < x)
theorem topF_in {W : Int} {p : List Int} (hp : In p 0 255) (x y n : Int) : ∀ i, 0 ≤ topF W p x y n i ∧ topF W p x y n i ≤ 255
  | 0 => by
    rw [topF]; split
    · omega
    · exact in_getZ255 hp _
  | i + 1 => by
    rw [topF]; split
    · omega
    · split
      · exact in_getZ255 hp _
      · exact topF_in hp x y n i
theorem lefF_in {W : Int} {p : List Int} (hp : In p 0 255) (x y : Int) (i : Nat) : 0 ≤ lefF W p x y i ∧ lefF W p x y i ≤ 255 := by
  unfold lefF; split
  · exact in_getZ255 hp _
  · omega
theorem nb_le (W H : Int) (p : List Int) (x y n : Int) : (topL W H p x y n).length ≤ 16 ∧ (lefL W H p x y n).length ≤ 8 := by
  unfold topL lefL
  split
  · rename_i h
    rw [tabL_len, tabL_len]
    rcases h.2.1 with rfl | rfl <;> decide
  · simp
theorem nb_ok {W H : Int} {p : List Int} {x y n : Int} (h : Fits W H p x y n) : NbOk (topL W H p x y n) (lefL W H p x y n) (corL W H p x y n) n := by
  have hp := h.1.2.2
  unfold topL lefL corL
  rw [if_pos h, if_pos h, if_pos h]
  refine ⟨h.2.1, by rw [tabL_len]; rcases h.2.1 with rfl | rfl <;> decide, by rw [tabL_len]; rcases h.2.1 with rfl | rfl <;> decide, tab_in fun i _ => topF_in hp x y n i, tab_in fun i _ => lefF_in hp x y i, ?_⟩
  split
  · exact in_getZ255 hp _
  · omega
abbrev TwoOk (p r : List Int) : Prop := 0 < side p.length ∧ p.length = r.length ∧ In p 0 255
def recF (p r : List Int) (i : Nat) : Int := max 0 (min 255 (p.getD i 0 + max (-1000000) (min 1000000 (r.getD i 0))))
def recL (p r : List Int) : List Int := if TwoOk p r then tabL (recF p r) p.length else []
theorem recL_in (p r : List Int) : In (recL p r) 0 255 := by
  unfold recL; split
  · exact tab_in fun i _ => by unfold recF; omega
  · exact in_nil 0 255
theorem recL_len (p r : List Int) : (recL p r).length = if TwoOk p r then p.length else 0 := by
  unfold recL; split
  · exact tabL_len ..
  · rfl
abbrev PutOk (W H : Int) (p : List Int) (q x y m : Int) (lv : List Int) : Prop := Fits W H p x y (side lv.length) ∧ (LvOk lv ∧ 0 < stepL q) ∧ 0 ≤ m ∧ m ≤ 5
def nbP (W H : Int) (p : List Int) (x y n m : Int) : List Int := predS m (topL W H p x y n) (lefL W H p x y n) (corL W H p x y n) (hasT W H p x y n) (hasE W H p x y n) n
def putL (W H : Int) (p : List Int) (q : Int) (b : Bool) (x y m : Int) (lv : List Int) : List Int := if PutOk W H p q x y m lv then setL W H p x y (recL (nbP W H p x y (side lv.length) m) (resL b q lv)) else p
theorem putL_len (W H : Int) (p : List Int) (q : Int) (b : Bool) (x y m : Int) (lv : List Int) : (putL W H p q b x y m lv).length = p.length := by
  unfold putL; split
  · exact setL_len ..
  · rfl
theorem resL_len {b : Bool} {q : Int} {l : List Int} (h : LvOk l ∧ 0 < stepL q) : (resL b q l).length = l.length := by
  have h1 := plcL_len2 h.1.2
  unfold resL
  rw [if_pos h]
  split
  · exact h1
  · have hs : scaL (plcL l) q = tabL (scaF (plcL l) q) (plcL l).length := by unfold scaL; rw [if_pos ⟨plcL_ok h.1, h.2⟩]
    have hl : (scaL (plcL l) q).length = l.length := by rw [hs, tabL_len, h1]
    have hsq : (side l.length).toNat * (side l.length).toNat = l.length := by
      rcases h.1.2 with e | e
      · have e4 : side l.length = 4 := by rw [e]; rfl
        rw [e4, e]; rfl
      · have e8 : side l.length = 8 := by rw [e]; rfl
        rw [e8, e]; rfl
    have ht : (trL (side l.length) true (scaL (plcL l) q)).length = l.length := by
      unfold trL
      rw [prodL_len, if_pos ⟨by rw [hl, hsq], scaL_fit _ _⟩, hsq]
    unfold rndL
    rw [if_pos (by rw [ht]; exact (side_pos _).2 h.1.2), List.length_map, ht]
theorem put_two {W H : Int} {p : List Int} {q x y m : Int} {b : Bool} {lv : List Int} (h : PutOk W H p q x y m lv) : TwoOk (nbP W H p x y (side lv.length) m) (resL b q lv) ∧ (nbP W H p x y (side lv.length) m).length = lv.length := by
  obtain ⟨h1, h2, h3⟩ := h
  have hn := nb_ok h1
  have hl : (nbP W H p x y (side lv.length) m).length = lv.length := by
    unfold nbP
    rw [predS_len, if_pos ⟨hn, h3⟩]
    rcases h2.1.2 with e | e <;> rw [e] <;> rfl
  refine ⟨⟨?_, ?_, ?_⟩, hl⟩
  · rw [hl]; exact (side_pos _).2 h2.1.2
  · rw [hl, resL_len h2]
  · exact predS_in _ _ _ _ _ _ _
theorem put_set {W H : Int} {p : List Int} {q x y m : Int} {b : Bool} {lv : List Int} (h : PutOk W H p q x y m lv) : SetOk W H p x y (recL (nbP W H p x y (side lv.length) m) (resL b q lv)) := by
  have ht := put_two (b := b) h
  refine ⟨?_, recL_in _ _⟩
  rw [recL_len, if_pos ht.1, ht.2]; exact h.1
end Go.Proofs.YtjhejgamjlokdaaGreat


namespace Go.Proofs.YtjhejgamjlokdaaGreat
open Go Go.Abs
attribute [local irreducible] WpA WpL Rnd Blk Abs.Seq Abs.Fin Abs.FinG FnC FnG Only
instance Pred_s : Con 30 (∀ (m : Int) (t l : List Int) (c : Int) (a b : Bool) (n : Int), t.length ≤ 1099511627776 ∧ l.length ≤ 1099511627776 ∧ -9223372036854775807 ≤ n → Fn 30 [I m, NbA t l c a b, I n] [XI (predS m t l c a b n)] (.own 0 0 0 (predS m t l c a b n).length)) := ⟨fun m t l c a b n hl => by
  have hnw := modeW_nil m
  by_cases h : NbOk t l c n ∧ 0 ≤ m ∧ m ≤ 5
  · obtain ⟨h0, hm⟩ := id h
    have h1 := h0.1
    have hnw2 : ¬ modeW m = [] := fun hh => (hnw.1 hh) hm
    rcases h1 with rfl | rfl
    · have e : predS m t l c a b 4 = prK m t l c a b 4 16 := by rw [predS, if_pos h]; rfl
      refine FnC.of_body tabOk Tryz.func30 Tryz.ntmps30 rfl (by decide +kernel) (by simp) fun G => ?_
      refine go (r := ?_); and_intros <;> intros <;> try exact True.intro
      refine WpA.loop (fun y : Nat => ⟨[(0, I m), (2, I 4), (4, .ptr 0 0 0), (7, .own 1 0 0 (y * 4)), (8, I y)], [NbO t l c a b, XI (prK m t l c a b 4 (y * 4))]⟩) (fun y => y ≤ 4) (fun y => 4 - y) 0 (by omega) (go (r := ?_)) (fun y hy => ?_)
      · simp [prK]
      refine go (r := ?_); and_intros <;> intros <;> try exact True.intro
      · refine WpA.loop (fun x : Nat => ⟨[(0, I m), (2, I 4), (4, .ptr 0 0 0), (7, .own 1 0 0 (y * 4 + x)), (8, I y), (9, I x)], [NbO t l c a b, XI (prK m t l c a b 4 (y * 4 + x))]⟩) (fun x => x ≤ 4) (fun x => 4 - x) 0 (by omega) (go (r := ?_)) (fun x hx => ?_)
        · trivial
        have hkl := prK_len m t l c a b 4 (y * 4 + x)
        have hpf : x < 4 → predL m t l c a b 4 x y = PF m t l c a b 4 (y * 4 + x) := by intro hh; unfold PF; congr 1 <;> omega
        refine go (r := ?_); and_intros <;> intros <;> try exact True.intro
        · rw [show y * 4 + (x + 1) = (y * 4 + x) + 1 by omega, prK_snoc, hpf (by omega)]
        all_goals have ex : x = 4 := by omega
        all_goals subst ex
        all_goals first | omega | (congr 1; omega)
      all_goals have ey : y = 4 := by omega
      all_goals subst ey
      all_goals rw [e]
      rw [prK_len]
    · have e : predS m t l c a b 8 = prK m t l c a b 8 64 := by rw [predS, if_pos h]; rfl
      refine FnC.of_body tabOk Tryz.func30 Tryz.ntmps30 rfl (by decide +kernel) (by simp) fun G => ?_
      refine go (r := ?_); and_intros <;> intros <;> try exact True.intro
      refine WpA.loop (fun y : Nat => ⟨[(0, I m), (2, I 8), (4, .ptr 0 0 0), (7, .own 1 0 0 (y * 8)), (8, I y)], [NbO t l c a b, XI (prK m t l c a b 8 (y * 8))]⟩) (fun y => y ≤ 8) (fun y => 8 - y) 0 (by omega) (go (r := ?_)) (fun y hy => ?_)
      · simp [prK]
      refine go (r := ?_); and_intros <;> intros <;> try exact True.intro
      · refine WpA.loop (fun x : Nat => ⟨[(0, I m), (2, I 8), (4, .ptr 0 0 0), (7, .own 1 0 0 (y * 8 + x)), (8, I y), (9, I x)], [NbO t l c a b, XI (prK m t l c a b 8 (y * 8 + x))]⟩) (fun x => x ≤ 8) (fun x => 8 - x) 0 (by omega) (go (r := ?_)) (fun x hx => ?_)
        · trivial
        have hkl := prK_len m t l c a b 8 (y * 8 + x)
        have hpf : x < 8 → predL m t l c a b 8 x y = PF m t l c a b 8 (y * 8 + x) := by intro hh; unfold PF; congr 1 <;> omega
        refine go (r := ?_); and_intros <;> intros <;> try exact True.intro
        · rw [show y * 8 + (x + 1) = (y * 8 + x) + 1 by omega, prK_snoc, hpf (by omega)]
        all_goals have ex : x = 8 := by omega
        all_goals subst ex
        all_goals first | omega | (congr 1; omega)
      all_goals have ey : y = 8 := by omega
      all_goals subst ey
      all_goals rw [e]
      rw [prK_len]
  · have e : predS m t l c a b n = [] := by rw [predS, if_neg h]
    refine FnC.of_body tabOk Tryz.func30 Tryz.ntmps30 rfl (by decide +kernel) (by simp) fun G => ?_
    refine go (r := ?_); and_intros <;> intros <;> try exact True.intro
    refine WpA.loop (fun y : Nat => ⟨[(0, I m), (2, I n), (4, .ptr 0 0 0), (7, .own 1 0 0 0), (8, I 0)], [NbO t l c a b, XI []]⟩) (fun y => y ≤ 0) (fun y => 0) 0 (by omega) (go (r := trivial)) (fun y hy => ?_)
    by_cases h0 : NbOk t l c n
    · have h3 : modeW m = [] := hnw.2 fun hm => h ⟨h0, hm⟩
      refine go (r := ?_); and_intros <;> intros <;> try exact True.intro
      all_goals first | (rw [e]; done) | (rw [e]; rfl)
    · refine go (r := ?_); and_intros <;> intros <;> try exact True.intro
      all_goals first | (rw [e]; done) | (rw [e]; rfl)⟩
instance Pred_c : Con 54 (∀ (m : Int) (t l : List Int) (c : Int) (a b : Bool) (n : Int), t.length ≤ 1099511627776 ∧ l.length ≤ 1099511627776 ∧ -9223372036854775807 ≤ n → Fn 54 [I m, NbA t l c a b, I n] [XI (predS m t l c a b n)] (.own 0 0 0 (predS m t l c a b n).length)) := ⟨fun m t l c a b n hl => by
  by_cases h : NbOk t l c n ∧ 0 ≤ m ∧ m ≤ 5
  · obtain ⟨h0, hm⟩ := id h
    have h1 := h0.1
    rcases h1 with rfl | rfl
    · have e : predS m t l c a b 4 = prK m t l c a b 4 16 := by rw [predS, if_pos h]; rfl
      refine FnC.of_body tabOk Tryz.func54 Tryz.ntmps54 rfl (by decide +kernel) (by simp) fun G => ?_
      refine go (r := ?_); and_intros <;> intros <;> try exact True.intro
      refine WpA.loop (fun k : Nat => ⟨[(0, I m), (2, I 4), (4, .ptr 0 0 0), (7, .own 1 0 0 k), (21, I 16), (22, I k)], [NbO t l c a b, XI (prK m t l c a b 4 k)]⟩) (fun k => k ≤ 16) (fun k => 16 - k) 0 (by omega) (go (r := ?_)) (fun k hk => ?_)
      · simp [prK]
      have hkl := prK_len m t l c a b 4 k
      refine go (r := ?_); and_intros <;> intros <;> try exact True.intro
      · rw [prK_snoc]; rfl
      all_goals have ey : k = 16 := by omega
      all_goals subst ey
      all_goals rw [e]
      rw [prK_len]
    · have e : predS m t l c a b 8 = prK m t l c a b 8 64 := by rw [predS, if_pos h]; rfl
      refine FnC.of_body tabOk Tryz.func54 Tryz.ntmps54 rfl (by decide +kernel) (by simp) fun G => ?_
      refine go (r := ?_); and_intros <;> intros <;> try exact True.intro
      refine WpA.loop (fun k : Nat => ⟨[(0, I m), (2, I 8), (4, .ptr 0 0 0), (7, .own 1 0 0 k), (21, I 64), (22, I k)], [NbO t l c a b, XI (prK m t l c a b 8 k)]⟩) (fun k => k ≤ 64) (fun k => 64 - k) 0 (by omega) (go (r := ?_)) (fun k hk => ?_)
      · simp [prK]
      have hkl := prK_len m t l c a b 8 k
      refine go (r := ?_); and_intros <;> intros <;> try exact True.intro
      · rw [prK_snoc]; rfl
      all_goals have ey : k = 64 := by omega
      all_goals subst ey
      all_goals rw [e]
      rw [prK_len]
  · have e : predS m t l c a b n = [] := by rw [predS, if_neg h]
    refine FnC.of_body tabOk Tryz.func54 Tryz.ntmps54 rfl (by decide +kernel) (by simp) fun G => ?_
    refine go (r := ?_); and_intros <;> intros <;> try exact True.intro
    all_goals first | (exact absurd ⟨‹_›, ‹_›⟩ h) | (rw [e]; done) | (rw [e]; rfl)⟩
instance l19Two_s : Con 73 (∀ p f : List Int, p.length ≤ 1099511627776 ∧ f.length ≤ 1099511627776 → Fn 73 [IL p, IL f] [] (B (decide (0 < side p.length ∧ p.length = f.length ∧ In p 0 255)))) := ⟨fun p f hl => by
  refine FnC.of_body tabOk Tryz.func73 Tryz.ntmps73 rfl (by decide +kernel) (by simp) fun G => ?_
  refine go (r := ?_); and_intros <;> intros <;> try exact True.intro
  all_goals first | (rw [Bool.eq_iff_iff]; simp_all; omega) | (simp_all; omega) | simp_all⟩
end Go.Proofs.YtjhejgamjlokdaaGreat
