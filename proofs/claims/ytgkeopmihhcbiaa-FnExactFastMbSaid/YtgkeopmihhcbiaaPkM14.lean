/- Proved in this text: lemmas and contracts of functions that the claim uses (parts: Ent, UeT, UeT2, Work, RdB, RdW, FLev, SyT, FMb, AbsFl). No condition. -/
import Derived.Test.YtgkeopmihhcbiaaPkM13
import Derived.Test.YtgkeopmihhcbiaaPkM11
import Derived.Test.YtgkeopmihhcbiaaPkM9

/- Contracts: tables of entries; bits and bytes of numbers; the table of short codes, by the program and by the specification. No condition. -/
namespace Go.Proofs.Ytgkeopmihhcbiaa
open Go Go.Abs
set_option linter.unusedVariables false
set_option linter.unusedSimpArgs false
set_option maxRecDepth 100000
set_option maxHeartbeats 4000000
attribute [local irreducible] WpA WpL Rnd Blk Abs.Seq Abs.Fin Abs.FinG FnC FnG Only

abbrev Ent := Int × Int
abbrev XE (l : List Ent) : AObj := ⟨rows prF l, 0, 2, some 97⟩
abbrev EnL (l : List Ent) : AV := .imm 2 l.length (rows prF l)
instance eqEnt : EqPr Try.prog 97 := ⟨run_eq_pr Try.underlying97 (by decide) (by decide) rfl rfl Try.underlying3 Try.underlying3 Try.stoodInHeld97, Try.eqGuardType97⟩
instance szEntryS_c : Con 10 (∀ (l : List Ent) (left : Int), l.length ≤ 9223372036854775807 ∧ 0 ≤ left ∧ left ≤ 1048576 → Fn 10 [EnL l, I left] [] (I (max (-1) (left - l.length)))) := ⟨fun l left hl => by
  refine FnC.of_body tabOk Try.func10 Try.ntmps10 rfl (by decide +kernel) (by simp) fun G => ?_
  refine go (r := ?_); and_intros <;> intros <;> try exact True.intro
  all_goals first | omega | trace_state⟩
instance toEntry_c : Con 67 (∀ (a b : Int), Fn 67 [.agg [I a, I b]] [] (.agg [I a, I b])) := ⟨fun a b => by
  refine FnC.of_body tabOk Try.func67 Try.ntmps67 rfl (by decide +kernel) (by simp) fun G => ?_
  refine go (r := ?_); and_intros <;> intros <;> try exact True.intro⟩
instance toEntryS_c : Con 13 (∀ (l : List Ent), l.length ≤ 1099511627776 → Fn 13 [EnL l] [XE l] (.own 0 0 0 l.length)) := ⟨fun l hl => by
  refine FnC.of_body tabOk Try.func13 Try.ntmps13 rfl (by decide +kernel) (by simp) fun G => ?_
  refine go (r := ?_); and_intros <;> intros <;> try exact True.intro
  refine WpA.loop (fun k : Nat => ⟨[(0, EnL l), (3, .own 0 0 0 l.length), (4, I k)], [XE (l.take k ++ List.replicate (l.length - k) (0, 0))]⟩) (fun k => k ≤ l.length) (fun k => l.length - k) 0 (by omega) (go (r := ?_)) (fun k hk => ?_)
  · simp
  refine go (r := ?_); and_intros <;> intros <;> try exact True.intro
  all_goals first | exact fill_def (0, 0) l k (by omega) | ((have : k = l.length := by omega); subst this; simp; done) | trace_state⟩
instance eqEntry_c : Con 73 (∀ (a b c d : Int), Fn 73 [.agg [I a, I b], .agg [I c, I d]] [] (B (decide (a = c ∧ b = d)))) := ⟨fun a b c d => by
  refine FnC.of_body tabOk Try.func73 Try.ntmps73 rfl (by decide +kernel) (by simp) fun G => ?_
  refine go (r := ?_); and_intros <;> intros <;> try exact True.intro
  all_goals first | (simp_all; done) | trace_state⟩
instance eqEntryS_c : Con 17 (∀ xs ys : List Ent, xs.length ≤ 1099511627776 ∧ ys.length ≤ 1099511627776 → Fn 17 [EnL xs, EnL ys] [] (B (decide (xs = ys)))) := ⟨fun xs ys hl => by
  refine FnC.of_body tabOk Try.func17 Try.ntmps17 rfl (by decide +kernel) (by simp) fun G => ?_
  refine go (r := ?_); and_intros <;> intros <;> try exact True.intro
  · simp; intro h; subst h; simp_all
  · refine WpA.loop (fun k : Nat => ⟨[(0, EnL xs), (1, EnL ys), (5, I k)], []⟩) (fun k => k ≤ xs.length ∧ ∀ j < k, xs.getD j default = ys.getD j default) (fun k => xs.length - k) 0 (by simp) (go (r := trivial)) (fun k hk => ?_)
    refine go (r := ?_); and_intros <;> intros <;> try exact True.intro
    · simp; rintro rfl; simp_all
    · rename_i j hj; by_cases h : j = k
      · subst h; apply Prod.ext <;> simp_all
      · exact hk.2 j (by omega)
    · have := eq_all default (xs := xs) (ys := ys) (by omega) (fun j hj => hk.2 j (by omega))
      simp [this]⟩
def markE : Int → List Ent → List Ent
  | _, [] => []
  | k, _ :: l => (k, k + 1) :: markE (k + 2) l
theorem markE_len : ∀ (l : List Ent) (k : Int), (markE k l).length = l.length
  | [], _ => rfl
  | _ :: l, k => by rw [markE, List.length_cons, List.length_cons, markE_len l]
theorem markE_append : ∀ (a b : List Ent) (k : Int), markE k (a ++ b) = markE k a ++ markE (k + 2 * a.length) b
  | [], b, k => by simp [markE]
  | x :: a, b, k => by
    rw [List.cons_append, markE, markE, markE_append a b, List.cons_append]
    congr 3; simp; omega
theorem markE_take (l : List Ent) (i : Nat) (h : i < l.length) (k : Int) : markE k (l.take (i + 1)) = markE k (l.take i) ++ [(k + 2 * i, k + 2 * i + 1)] := by
  rw [take_snoc l i h, markE_append]
  have : (l.take i).length = i := by simp; omega
  rw [this]; rfl
abbrev EnN (l : List Ent) : AObj := ⟨rows prF l, 0, 2, none⟩
instance markEntryS_c : ConG 18 (∀ (l : List Ent) (k : Int), l.length ≤ 1048576 ∧ 0 ≤ k ∧ k ≤ 1073741824 → Gn 18 [.own 0 0 0 l.length, I k] [EnN l] [EnN (markE k l)] [] (I (k + 2 * l.length))) := ⟨fun l k hk => by
  refine FnG.of_bodyF tabOk Try.func18 Try.ntmps18 rfl (by decide +kernel) (by simp) rfl rfl fun G => ?_
  refine go (r := ?_); and_intros <;> intros <;> try exact True.intro
  refine WpA.loop (fun i : Nat => ⟨[(0, .own 0 0 0 l.length), (1, I (k + 2 * i)), (5, I i)], [EnN (markE k (l.take i) ++ l.drop i)]⟩) (fun i => i ≤ l.length) (fun i => l.length - i) 0 (by simp) (go (r := ?_)) (fun i hi => ?_)
  · simp [markE]
  have hml := markE_len (l.take i) k
  have hlt : i ≤ l.length → (l.take i).length = i := fun h => by simp; omega
  have hlen : i ≤ l.length → (markE k (l.take i) ++ l.drop i).length = l.length := fun h => by rw [List.length_append, hml]; simp; omega
  have hget : i < l.length → ∀ v, ((markE k (l.take i) ++ l.drop i).set i v).getD i default = v := fun h v => by simp [hlen (by omega), h]
  refine go (r := ?_); and_intros <;> intros <;> try exact True.intro
  all_goals first | omega | (rw [List.set_set, hget (by omega)]; simp only; rw [set_mid _ _ _ (by rw [hml, hlt (by omega)]) (by omega), markE_take _ _ (by omega)]; done) | ((have e : i = l.length := by omega); subst e; simp; done) | trace_state⟩
end Go.Proofs.Ytgkeopmihhcbiaa

/- Contracts: bits and bytes of numbers, the table of short codes, by the program and by the specification. No condition. -/
namespace Go.Proofs.Ytgkeopmihhcbiaa
open Go Go.Abs
set_option linter.unusedVariables false
set_option linter.unusedSimpArgs false
set_option maxRecDepth 100000
set_option maxHeartbeats 4000000
attribute [local irreducible] WpA WpL Rnd Blk Abs.Seq Abs.Fin Abs.FinG FnC FnG Only

def Bits (l : List Int) : Prop := ∀ x ∈ l, x = 0 ∨ x = 1
instance areBits_c : Con 213 (∀ l : List Int, l.length ≤ 1099511627776 ∧ Bits l → Fn 213 [IL l] [] (B true)) := ⟨fun l hl => by
  refine FnC.of_body tabOk Try.func213 Try.ntmps213 rfl (by decide +kernel) (by simp) fun G => ?_
  refine go (r := ?_); and_intros <;> intros <;> try exact True.intro
  refine WpA.loop (fun k : Nat => ⟨[(5, IL l), (6, I l.length), (7, I k)], []⟩) (fun k => k ≤ l.length) (fun k => l.length - k) 0 (by omega) (go (r := ?_)) (fun k hk => ?_)
  · trivial
  have hb : k < l.length → l.getD k 0 = 0 ∨ l.getD k 0 = 1 := fun h => hl.2 _ (by simp [h])
  refine go (r := ?_); and_intros <;> intros <;> try exact True.intro
  all_goals first | (have := hb (by omega); omega) | trace_state⟩
instance EqualE_c : Con 158 (∀ xs ys : List Ent, xs.length ≤ 1099511627776 ∧ ys.length ≤ 1099511627776 → Fn 158 [EnL xs, EnL ys] [] (B (decide (xs = ys)))) := ⟨fun xs ys hl => by
  refine FnC.of_body tabOk Try.func158 Try.ntmps158 rfl (by decide +kernel) (by simp) fun G => ?_
  refine go (r := ?_); and_intros <;> intros <;> try exact True.intro
  · simp; intro h; subst h; simp_all
  · refine WpA.loop (fun k : Nat => ⟨[(0, EnL xs), (1, EnL ys), (12, I xs.length), (13, I k)], []⟩) (fun k => k ≤ xs.length ∧ ∀ j < k, xs.getD j default = ys.getD j default) (fun k => xs.length - k) 0 (by simp) (go (r := trivial)) (fun k hk => ?_)
    refine go (r := ?_); and_intros <;> intros <;> try exact True.intro
    · refine WpL.prNe rfl rfl (by decide) ?_
      refine go (r := ?_); and_intros <;> intros <;> try exact True.intro
      · simp; rintro rfl; simp_all
      · rename_i j hj; by_cases h : j = k
        · subst h; apply Prod.ext <;> simp_all
        · exact hk.2 j (by omega)
    · have := eq_all default (xs := xs) (ys := ys) (by omega) (fun j hj => hk.2 j (by omega))
      simp [this]⟩
def byB (l : List Int) : Nat → List Int
  | 0 => List.replicate (l.length / 8) 0
  | k + 1 => (byB l k).set (k / 8) (IntKind.u8.wrap ((BitVec.ofInt IntKind.u8.bits ((byB l k).getD (k / 8) 0) ||| BitVec.ofInt IntKind.u8.bits (IntKind.u8.wrap (IntKind.i64.wrap (l.getD k 0 * 2 ^ (7 - k % 8))))).toNat : Nat))
theorem byB_len (l : List Int) : ∀ k, (byB l k).length = l.length / 8
  | 0 => by simp [byB]
  | k + 1 => by rw [byB, List.length_set, byB_len l k]
def strB (l : List Int) : List UInt8 := (byB l l.length).map fun n : Int => UInt8.ofNat n.toNat
instance BytesOf_c : Con 134 (∀ l : List Int, l.length ≤ 1099511627776 ∧ Bits l ∧ l.length % 8 = 0 → Fn 134 [IL l] [] (.tup [Z (strB l), B true])) := ⟨fun l hl => by
  refine FnC.of_body tabOk Try.func134 Try.ntmps134 rfl (by decide +kernel) (by simp) fun G => ?_
  refine go (r := ?_); and_intros <;> intros <;> try exact True.intro
  all_goals first | exact hl.2.1 | exact hl.2.1 _ (by assumption) | omega | skip
  refine WpA.loop (fun k : Nat => ⟨[(4, .own 0 0 0 (l.length / 8)), (20, IL l), (21, I l.length), (22, I k)], [⟨u8s (byB l k), 0, 1, some 5⟩]⟩) (fun k => k ≤ l.length) (fun k => l.length - k) 0 (by omega) (go (r := ?_)) (fun k hk => ?_)
  · and_intros <;> first | exact True.intro | rfl | trace_state
  have hb : k < l.length → l.getD k 0 = 0 ∨ l.getD k 0 = 1 := fun h => hl.2.1 _ (by simp [h])
  have hln := byB_len l k
  refine go (r := ?_); and_intros <;> intros <;> try exact True.intro
  · rw [show ((k : Int) / 8).toNat = k / 8 by omega, show (7 - (k : Int) % 8).toNat = 7 - k % 8 by omega]; rfl
  · obtain rfl : k = l.length := by omega
    refine K.cv ?_
    refine WpL.ofBytes tabOk rfl rfl rfl rfl rfl (by simp [u8s, hln]) (by decide) ?_
    refine go (r := ?_); and_intros <;> intros <;> try exact True.intro
    all_goals trace_state⟩
end Go.Proofs.Ytgkeopmihhcbiaa

/- Contracts: the table of short codes by the program and by the specification. No condition. -/
namespace Go.Abs
open Go
section
variable {P : Program} {n m : Nat} {G : Ctx} {T : List (Nat × AV)} {O : List AObj} {Q : Exit → St → Prop} {ops : Array Oper} {l : List Oper} {d : Nat} {tt : TypeId} {pos : String} {after : Array Edge} {tab : List (Nat × Ty)}
theorem WpL.appIntsZ (hP : TabOk P tab) {t u e b c : Nat} {kn : IntKind} {x y : Operand} {id ep len : Nat} {xs : List Int} (ht : tlook tab t = some (.slice e 1 b [I 0])) (hut : tlook tab u = some (.int kn)) (hx : av T x = .own id ep 0 len)
    (ho : O[id]? = some ⟨ints xs, ep, 1, some e⟩) (hlen : xs.length = len) (hm : m ≤ id) (hy : av T y = .sc (.int .i64 c)) (hc0 : 0 < c)
    (hb : (len + c) * b ≤ 140737488355328 ∧ len + c ≤ 9223372036854775807) (hn : d < n)
    (h : WpL P n m G false ops l ⟨(d, .own id (ep + 1) 0 (len + c)) :: T, O.set id ⟨ints (xs ++ List.replicate c 0), ep + 1, 1, some e⟩⟩ Q) :
    WpL P n m G false ops ({ dst := some d, op := .call { callee := .builtin .append, args := #[x, y], argTypes := #[t, u] }, type := tt, pos := pos, after := after, guard := none } :: l) ⟨T, O⟩ Q :=
  WpL.appOwnZ hP ht hut hx ho rfl rfl rfl (by simp [ints, hlen]) hm hy hc0 hb hn (by
    rw [show ints xs ++ ints (List.replicate c 0) = ints (xs ++ List.replicate c 0) from by simp [ints]]; exact h)
end
end Go.Abs
namespace Go.Proofs.Ytgkeopmihhcbiaa
open Go Go.Abs
set_option linter.unusedVariables false
set_option linter.unusedSimpArgs false
set_option maxRecDepth 100000
set_option maxHeartbeats 4000000
attribute [local irreducible] WpA WpL Rnd Blk Abs.Seq Abs.Fin Abs.FinG FnC FnG Only

def ueStr (i : Nat) : List UInt8 := strB (bitsL i 9 ++ List.replicate 7 0)
def ueE (i : Nat) : Ent := if ueC (ueStr i) 0 = 0 ∧ ueA (ueStr i) 0 ≤ 9 then (ueA (ueStr i) 0, ueV (ueStr i) 0) else (0, 0)
def ueTab : List Ent := (List.range 512).map ueE
def usz (n : Nat) : Nat := 2 * Nat.log2 (n + 1) + 1
def fillI (n : Nat) (t : List Ent) : Nat → List Ent
  | 0 => t
  | k + 1 => (fillI n t k).set ((n + 1) * 2 ^ (9 - usz n) + k) ((usz n : Nat), n)
def tabS : Nat → List Ent
  | 0 => List.replicate 512 (0, 0)
  | n + 1 => fillI n (tabS n) (2 ^ (9 - usz n))
theorem tab_eq : tabS 31 = ueTab := by decide +kernel
theorem ueTab_len : ueTab.length = 512 := by simp [ueTab]
theorem bit16 {i : Nat} (h : i < 512) : Bits (bitsL i 9 ++ List.replicate 7 0) ∧ (bitsL i 9).length = 9 := by
  have hq : (i : Int) / 2 ^ (9 : Int).toNat = 0 := Int.ediv_eq_zero_of_lt (by omega) (show (i : Int) < 512 by omega)
  have e : bitsL i 9 = bitsR i 9 9 := by rw [bitsL, if_pos ⟨by decide, by omega, hq⟩]; rfl
  rw [e]
  refine ⟨fun x hx => ?_, bitsR_len _ _ _⟩
  rcases List.mem_append.1 hx with hx | hx
  · obtain ⟨j, _, rfl⟩ := List.mem_map.1 hx; omega
  · rw [List.eq_of_mem_replicate hx]; exact .inl rfl
theorem strB_len (l : List Int) : (strB l).length = l.length / 8 := by rw [strB, List.length_map, byB_len]
theorem fillT {k : Nat} (h : k < 512) {v : Ent} (hv : v = ueE k) : ((List.range k).map ueE ++ List.replicate (512 - k) (0, 0)).set k v = (List.range (k + 1)).map ueE ++ List.replicate (512 - (k + 1)) (0, 0) := by
  subst hv
  obtain ⟨r, hr⟩ : ∃ r, 512 - k = r + 1 := ⟨511 - k, by omega⟩
  rw [hr, show 512 - (k + 1) = r by omega, List.replicate_succ, List.set_append_right _ _ (by simp), List.length_map, List.length_range, Nat.sub_self, List.set_cons_zero, List.range_succ, List.map_append]
  simp
theorem fillN {k : Nat} (h : k < 512) (hv : ueE k = (0, 0)) : (List.range k).map ueE ++ List.replicate (512 - k) (0, 0) = (List.range (k + 1)).map ueE ++ List.replicate (512 - (k + 1)) (0, 0) := by
  obtain ⟨r, hr⟩ : ∃ r, 512 - k = r + 1 := ⟨511 - k, by omega⟩
  rw [hr, show 512 - (k + 1) = r by omega, List.replicate_succ, List.range_succ, List.map_append]
  simp [hv]
section
attribute [local irreducible] ueC ueA ueV strB bitsL
instance UeTable_c : Con 54 (Fn 54 [] [XE ueTab] (.own 0 0 0 512)) := ⟨by
  refine FnC.of_body tabOk Try.func54 Try.ntmps54 rfl (by decide +kernel) (by simp) fun G => ?_
  refine go (r := ?_); and_intros <;> intros <;> try exact True.intro
  refine WpA.loop (fun k : Nat => ⟨[(1, .own 0 0 0 512), (10, I 512), (11, I k)], [XE ((List.range k).map ueE ++ List.replicate (512 - k) (0, 0))]⟩) (fun k => k ≤ 512) (fun k => 512 - k) 0 (by omega) (go (r := ?_)) (fun k hk => ?_)
  · and_intros <;> first | exact True.intro | rfl | trace_state
  have hb := fun h => bit16 (i := k) h
  refine go (r := ?_); and_intros <;> intros <;> try exact True.intro
  · have hb := hb (by omega)
    refine K.bi ?_
    refine WpL.appIntsZ (c := 7) tabOk rfl rfl rfl rfl rfl (Nat.zero_le _) rfl (by decide) (by omega) (by decide) ?_
    have hlen : (bitsL k 9 ++ List.replicate 7 0).length = 16 := by rw [List.length_append, hb.2]; rfl
    have hsl := strB_len (bitsL k 9 ++ List.replicate 7 0)
    have hln : ((List.range k).map ueE ++ List.replicate (512 - k) (0, 0)).length = 512 := by simp; omega
    refine go (r := ?_); and_intros <;> intros <;> try exact True.intro
    all_goals first | exact hb.1 _ (by assumption) | omega | (rw [hsl, hlen]; decide) | (refine fillT (by omega) ?_; rw [ueE, ueStr, if_pos ⟨by assumption, by assumption⟩]; done) | (refine fillN (by omega) ?_; rw [ueE, ueStr, if_neg (fun hh => absurd hh.2 (by assumption))]; done) | (refine fillN (by omega) ?_; rw [ueE, ueStr, if_neg (fun hh => absurd hh.1 (by assumption))]; done) | trace_state
  · obtain rfl : k = 512 := by omega
    rw [Nat.sub_self, List.replicate_zero, List.append_nil]; rfl⟩
instance UeSize_s : Con 225 (∀ n : Nat, n ≤ 65534 → Fn 225 [I n] [] (I (usz n : Nat))) := ⟨fun n hn => by
  have h16 := lg_16 (x := n + 1) (by omega) (by omega)
  unfold usz
  refine FnC.of_body tabOk Try.func225 Try.ntmps225 rfl (by decide +kernel) (by simp) fun G => ?_
  refine go (r := ?_); and_intros <;> intros <;> try exact True.intro
  all_goals first | omega | trace_state⟩
theorem usz_tab : ∀ n < 31, usz n ≤ 9 ∧ (n + 2) * 2 ^ (9 - usz n) ≤ 512 := by decide +kernel
theorem usz_31 : usz 31 = 11 := by decide +kernel
theorem fillI_len (n : Nat) (t : List Ent) : ∀ k, (fillI n t k).length = t.length
  | 0 => rfl
  | k + 1 => by rw [fillI, List.length_set, fillI_len n t k]
theorem tabS_len : ∀ n, (tabS n).length = 512
  | 0 => by simp [tabS]
  | n + 1 => by rw [tabS, fillI_len, tabS_len n]
attribute [local irreducible] usz
instance UeTable_s : Con 153 (Fn 153 [] [XE ueTab] (.own 0 0 0 512)) := ⟨by
  refine FnC.of_body tabOk Try.func153 Try.ntmps153 rfl (by decide +kernel) (by simp) fun G => ?_
  refine go (r := ?_); and_intros <;> intros <;> try exact True.intro
  refine WpA.loop (fun n : Nat => ⟨[(1, .own 0 0 0 512), (2, I n)], [XE (tabS n)]⟩) (fun n => n ≤ 31) (fun n => 31 - n) 0 (by omega) (go (r := ?_)) (fun n hn => ?_)
  · and_intros <;> first | exact True.intro | rfl | trace_state
  by_cases h31 : n < 31
  · have ht := usz_tab n h31
    have hl := tabS_len n
    have hl2 := fillI_len n (tabS n)
    obtain ⟨X, hX⟩ : ∃ X, X = 2 ^ (9 - usz n) := ⟨_, rfl⟩
    obtain ⟨A, hA⟩ : ∃ A, A = (n + 1) * 2 ^ (9 - usz n) := ⟨_, rfl⟩
    have hAX : A + X ≤ 512 := by
      have e : (n + 2) * 2 ^ (9 - usz n) = (n + 1) * 2 ^ (9 - usz n) + 2 ^ (9 - usz n) := Nat.succ_mul (n + 1) _
      omega
    have eA : IntKind.i64.wrap (((n : Int) + 1) * 2 ^ (9 - (usz n : Int)).toNat) = (A : Int) := by
      rw [show (9 - (usz n : Int)).toNat = 9 - usz n by omega, show ((n : Int) + 1) * 2 ^ (9 - usz n) = (((n + 1) * 2 ^ (9 - usz n) : Nat) : Int) by push_cast; rfl, ← hA]
      exact wrap64 _ (by omega)
    have eX : IntKind.i64.wrap (1 * 2 ^ (9 - (usz n : Int)).toNat) = (X : Int) := by
      rw [show (9 - (usz n : Int)).toNat = 9 - usz n by omega, show (1 : Int) * 2 ^ (9 - usz n) = ((2 ^ (9 - usz n) : Nat) : Int) by push_cast; omega, ← hX]
      exact wrap64 _ (by omega)
    have hts : tabS (n + 1) = fillI n (tabS n) X := by rw [tabS, ← hX]
    have hfs : ∀ k, fillI n (tabS n) (k + 1) = (fillI n (tabS n) k).set (A + k) ((usz n : Nat), n) := fun k => by rw [fillI, ← hA]
    refine go (r := ?_); and_intros <;> intros <;> try exact True.intro
    rw [eA]
    refine WpA.loop (fun k : Nat => ⟨[(1, .own 0 0 0 512), (2, I n), (3, I (9 - (usz n : Int))), (4, I A), (5, I k)], [XE (fillI n (tabS n) k)]⟩) (fun k => k ≤ X) (fun k => X - k) 0 (by omega) (go (r := ?_)) (fun k hk => ?_)
    · and_intros <;> first | exact True.intro | rfl | trace_state
    have hfs := hfs k
    have hl2 := hl2 k
    refine go (r := ?_); and_intros <;> intros <;> try exact True.intro
    all_goals first | (rw [hfs]; done) | (rename_i hg; rw [eX] at hg; rw [hts, show k = X by omega]; done) | trace_state
  · obtain rfl : n = 31 := by omega
    have h31' := usz_31
    refine go (r := ?_); and_intros <;> intros <;> try exact True.intro
    exact tab_eq⟩
end
end Go.Proofs.Ytgkeopmihhcbiaa

/- Contracts: macroblocks and streams that are right, pairs, the work of a stream. No condition. -/
namespace Go.Proofs.Ytgkeopmihhcbiaa
open Go Go.Abs
set_option linter.unusedVariables false
set_option linter.unusedSimpArgs false
set_option maxRecDepth 100000
set_option maxHeartbeats 4000000
attribute [local irreducible] WpA WpL Rnd Blk Abs.Seq Abs.Fin Abs.FinG FnC FnG Only

def sz8 (e : Bool) : Int := bif e then 8 else 4
def nm8 (e : Bool) : Int := bif e then 1 else 4
theorem sz8_cases (e : Bool) : (sz8 e = 4 ∧ nm8 e = 4) ∨ (sz8 e = 8 ∧ nm8 e = 1) := by cases e <;> simp [sz8, nm8]
instance l23Side_s : Con 130 (∀ e : Bool, Fn 130 [B e] [] (I (sz8 e))) := ⟨fun e => by
  cases e
  · refine FnC.of_body tabOk Try.func130 Try.ntmps130 rfl (by decide +kernel) (by simp) fun G => ?_
    refine go (r := ?_); and_intros <;> intros <;> try exact True.intro
    all_goals rfl
  · refine FnC.of_body tabOk Try.func130 Try.ntmps130 rfl (by decide +kernel) (by simp) fun G => ?_
    refine go (r := ?_); and_intros <;> intros <;> try exact True.intro
    all_goals rfl⟩
instance shape_c : Con 128 (∀ e : Bool, Fn 128 [B e] [] (.tup [I (nm8 e), I (sz8 e)])) := ⟨fun e => by
  cases e
  · refine FnC.of_body tabOk Try.func128 Try.ntmps128 rfl (by decide +kernel) (by simp) fun G => ?_
    refine go (r := ?_); and_intros <;> intros <;> try exact True.intro
    all_goals rfl
  · refine FnC.of_body tabOk Try.func128 Try.ntmps128 rfl (by decide +kernel) (by simp) fun G => ?_
    refine go (r := ?_); and_intros <;> intros <;> try exact True.intro
    all_goals rfl⟩
abbrev MbkOk (e : Bool) (bs : List Blok) (lens : List Int) : Prop := (bs.length : Int) = nm8 e ∧ bs.any (badB lens (sz8 e)) = false
/-! Streams. -/
def badM (lens : List Int) (m : Mbk) : Bool := decide (¬ MbkOk m.1 m.2 lens)
abbrev StC (w h q : Int) (b d : Bool) (l : List Int) (M : List Mbk) : List AV := [I w, I h, I q, B b, B d, IL l, MbL M]
abbrev fM (w h q : Int) (b d : Bool) (l : List Int) (M : List Mbk) : AV := .fn 167 [.iptr (StC w h q b d l M) 0]
abbrev StOk (w h q : Int) (l : List Int) (M : List Mbk) : Prop := HdOk w h q l ∧ (M.length : Int) = cntM w h ∧ M.any (badM l) = false
/-! Pairs. -/
def pk (l : List Int) : Nat → List (Int × Int) × Int
  | 0 => ([], 0)
  | k + 1 => if l.getD k 0 = 0 then ((pk l k).1, (pk l k).2 + 1) else ((pk l k).1 ++ [((pk l k).2, l.getD k 0)], 0)
def prsL (l : List Int) : List (Int × Int) := if LvOk l then (pk l l.length).1 else []
abbrev XP (l : List (Int × Int)) : AObj := ⟨rows prF l, 0, 2, some 155⟩
/-! The work of a stream. -/
def wkB (b : Blok) : Nat := 2 + (if nzB b = 0 then 0 else 1 + 2 * nzB b)
def wkM (m : Mbk) : Nat := 1 + (m.2.map wkB).sum
def workL (w h q : Int) (l : List Int) (M : List Mbk) : Int := if StOk w h q l M then 7 + ((M.map wkM).sum : Nat) else 0
end Go.Proofs.Ytgkeopmihhcbiaa

/- Contracts: blocks, macroblocks and streams that are read by the program. No condition. -/
namespace Go.Proofs.Ytgkeopmihhcbiaa
open Go Go.Abs
set_option linter.unusedVariables false
set_option linter.unusedSimpArgs false
set_option maxRecDepth 100000
set_option maxHeartbeats 4000000
attribute [local irreducible] WpA WpL Rnd Blk Abs.Seq Abs.Fin Abs.FinG FnC FnG Only

abbrev BkV (m : Int) (l : List Int) : AV := .agg [I m, .own 0 0 0 l.length]
theorem blS_1 {p : List UInt8} {s : Int} {lens : List Int} {n : Int} (hn : n = 4 ∨ n = 8) (hs : smC p s lens = 0) (hc : (lvS p (smA p s lens) n).c = 0) : blS p s lens n = ⟨(lvS p (smA p s lens) n).a, 0, smV p s lens, (lvS p (smA p s lens) n).out⟩ := by
  unfold blS; rw [if_pos hn, if_pos hs]; simp only; rw [if_pos hc]
theorem blS_2 {p : List UInt8} {s : Int} {lens : List Int} {n : Int} (hn : n = 4 ∨ n = 8) (hs : smC p s lens = 0) (hc : (lvS p (smA p s lens) n).c ≠ 0) : blS p s lens n = ⟨(lvS p (smA p s lens) n).a, (lvS p (smA p s lens) n).c, 0, []⟩ := by
  unfold blS; rw [if_pos hn, if_pos hs]; simp only; rw [if_neg hc]
theorem blS_3 {p : List UInt8} {s : Int} {lens : List Int} {n : Int} (hn : n = 4 ∨ n = 8) (hs : smC p s lens ≠ 0) : blS p s lens n = ⟨s, smC p s lens, 0, []⟩ := by
  unfold blS; rw [if_pos hn, if_neg hs]
theorem blS_4 {p : List UInt8} {s : Int} {lens : List Int} {n : Int} (hn : ¬ (n = 4 ∨ n = 8)) : blS p s lens n = ⟨s, 5, 0, []⟩ := by
  unfold blS; rw [if_neg hn]
theorem smA_bad {p : List UInt8} {s : Int} {l : List Int} (h : smC p s l ≠ 0) : smA p s l = s := by rw [smA, if_neg h]
instance ReadBlock_c : Con 55 (∀ (p : List UInt8) (s : Int) (lens : List Int) (n : Int), p.length ≤ 1099511627776 ∧ lens.length ≤ 1099511627776 → Fn 55 [RA p s, IL lens, I n] [XI (blS p s lens n).l] (.tup [RA p (blS p s lens n).a, BkV (blS p s lens n).m (blS p s lens n).l, I (blS p s lens n).c])) := ⟨fun p s lens n hl => by
  refine FnC.of_body tabOk Try.func55 Try.ntmps55 rfl (by decide +kernel) (by simp) fun G => ?_
  by_cases hn : n = 4 ∨ n = 8
  · by_cases hs : smC p s lens = 0
    · refine go (r := ?_); and_intros <;> intros <;> try exact True.intro
      all_goals first | (exact absurd hs (by assumption)) | (exact absurd hn (by assumption)) | skip
      refine K.call ?_
      refine WpL.callM (hs := [3]) (flv_c p (smA p s lens) n hl.1 hn) handA handOA rfl rfl (.cons rfl (.sc (.sc (.sc .nil))) .nil) outA rfl rfl rfl rfl (by decide) ?_
      have e1 := blS_1 (p := p) (s := s) (lens := lens) hn hs
      have e2 := blS_2 (p := p) (s := s) (lens := lens) hn hs
      generalize lvS p (smA p s lens) n = y at e1 e2 ⊢
      by_cases hy : y.c = 0
      · rw [e1 hy]
        refine go (r := ?_); and_intros <;> intros <;> try exact True.intro
      · rw [e2 hy]
        refine go (r := ?_); and_intros <;> intros <;> try exact True.intro
    · rw [blS_3 hn hs]
      have ea := smA_bad hs
      refine go (r := ?_); and_intros <;> intros <;> try exact True.intro
  · rw [blS_4 hn]
    refine go (r := ?_); and_intros <;> intros <;> try exact True.intro⟩
/-! Macroblocks. -/
theorem mbRun_len (p : List UInt8) (s : Int) (lens : List Int) (n : Int) : ∀ k, (mbRun p s lens n k).c = 0 → (mbRun p s lens n k).bs.length = k
  | 0, _ => rfl
  | k + 1, h => by
    have ih := mbRun_len p s lens n k
    rw [mbRun] at h ⊢
    simp only at h ⊢
    split at h
    · rename_i hx
      rw [if_pos hx]
      split at h
      · rename_i hb; rw [if_pos hb]; simp [ih hx]
      · rename_i hb; exact absurd h hb
    · rename_i hx; exact absurd h hx
theorem mbRun_stop {p : List UInt8} {s : Int} {lens : List Int} {n : Int} {k : Nat} (h : (mbRun p s lens n k).c ≠ 0) : ∀ j, k ≤ j → mbRun p s lens n j = mbRun p s lens n k
  | 0, hj => by have : k = 0 := by omega
                subst this; rfl
  | j + 1, hj => by
    rcases Nat.lt_or_ge j k with h2 | h2
    · have : k = j + 1 := by omega
      subst this; rfl
    · have e := mbRun_stop h j h2
      rw [mbRun]; simp only; rw [e, if_neg h]
theorem mbS_no {p : List UInt8} {s : Int} {lens : List Int} (h : ¬ RbOk p s 1) : mbS p s lens = (⟨s, 1, []⟩, false) := by unfold mbS; rw [if_neg h]
theorem nm8_nat (e : Bool) : (bif e then 1 else 4 : Nat) = (nm8 e).toNat := by cases e <;> rfl
theorem mbS_yes {p : List UInt8} {s : Int} {lens : List Int} {E : Bool} (h : RbOk p s 1) (hE : decide (rbV p s 1 = 1) = E) : mbS p s lens = (mbRun p (s + 1) lens (sz8 E) (nm8 E).toNat, bif decide ((mbRun p (s + 1) lens (sz8 E) (nm8 E).toNat).c = 0) then E else false) := by
  unfold mbS; rw [if_pos h, hE]; simp only; rw [nm8_nat]; rfl
theorem mbRun_bad {p : List UInt8} {s : Int} {lens : List Int} {n : Int} {k : Nat} (h : (mbRun p s lens n k).c = 0) (hb : (blS p (mbRun p s lens n k).a lens n).c ≠ 0) : ∀ j, k < j → mbRun p s lens n j = ⟨(blS p (mbRun p s lens n k).a lens n).a, (blS p (mbRun p s lens n k).a lens n).c, []⟩ := by
  intro j hj
  have e : mbRun p s lens n (k + 1) = ⟨(blS p (mbRun p s lens n k).a lens n).a, (blS p (mbRun p s lens n k).a lens n).c, []⟩ := by
    rw [mbRun]; simp only; rw [if_pos h, if_neg hb]
  rw [mbRun_stop (k := k + 1) (by rw [e]; exact hb) j hj, e]
theorem mbRun_next {p : List UInt8} {s : Int} {lens : List Int} {n : Int} {k : Nat} (h : (mbRun p s lens n k).c = 0) (hb : (blS p (mbRun p s lens n k).a lens n).c = 0) : mbRun p s lens n (k + 1) = ⟨(blS p (mbRun p s lens n k).a lens n).a, 0, (mbRun p s lens n k).bs ++ [((blS p (mbRun p s lens n k).a lens n).m, (blS p (mbRun p s lens n k).a lens n).l)]⟩ := by
  rw [mbRun]; simp only; rw [if_pos h, if_pos hb]
abbrev MbV (e : Bool) (n : Nat) : AV := .agg [B e, .own 0 0 0 n]
instance ReadMb_c : Con 51 (∀ (p : List UInt8) (s : Int) (lens : List Int), p.length ≤ 1099511627776 ∧ lens.length ≤ 1099511627776 → Fn 51 [RA p s, IL lens] [BkO (mbS p s lens).1.bs] (.tup [RA p (mbS p s lens).1.a, MbV (mbS p s lens).2 (mbS p s lens).1.bs.length, I (mbS p s lens).1.c])) := ⟨fun p s lens hl => by
  refine FnC.of_body tabOk Try.func51 Try.ntmps51 rfl (by decide +kernel) (by simp) fun G => ?_
  by_cases ho : RbOk p s 1
  · have ea := (rb_yes ho).1
    generalize hE : decide (rbV p s 1 = 1) = E
    rw [mbS_yes ho hE]
    have hc8 := sz8_cases E
    refine go (r := ?_); and_intros <;> intros <;> try exact True.intro
    all_goals first | contradiction | skip
    rw [hE, ea]
    have hz : (mbRun p (s + 1) lens (sz8 E) 0) = ⟨s + 1, 0, []⟩ := rfl
    have hln := fun k h => mbRun_len p (s + 1) lens (sz8 E) k h
    have hnx := fun k h hb => mbRun_next (p := p) (s := s + 1) (lens := lens) (n := sz8 E) (k := k) h hb
    have hbd := fun k h hb j hj => mbRun_bad (p := p) (s := s + 1) (lens := lens) (n := sz8 E) (k := k) h hb j hj
    generalize mbRun p (s + 1) lens (sz8 E) = X at hz hln hnx hbd ⊢
    refine WpA.loop (fun k : Nat => ⟨[(1, IL lens), (2, .ptr 0 0 0), (4, .ptr 1 0 0), (5, .ptr 2 0 0), (9, .ptr 3 0 0), (11, I (sz8 E)), (34, I (nm8 E)), (35, I k)], [⟨[Z p, I (X k).a], 0, 0, none⟩, R0, ⟨[B false, .nilS], 0, 0, none⟩, ⟨[B E, .own 4 0 0 k], 0, 0, none⟩, BkO (X k).bs]⟩) (fun k => (k : Int) ≤ nm8 E ∧ (X k).c = 0) (fun k => (nm8 E).toNat - k) 0 (by rw [hz]; exact ⟨by omega, rfl⟩) ?_ (fun k hk => ?_)
    · rw [hz]; exact Weak.nil1 (by first | (show 0 ≤ _; exact Nat.zero_le _) | (repeat' (first | exact RzT.nil | refine RzT.cons ?_ ?_ | exact Rz.nil | refine Rz.keep rfl rfl ?_ | refine Rz.own rfl rfl rfl rfl rfl (by first | rfl | omega | (simp; done)) ?_ | refine Rz.ptr rfl rfl rfl rfl ?_ | refine Rz.nilO rfl rfl rfl (by first | rfl | omega | (simp; done)) ?_ | refine Rz.agg ?_ ?_ | exact RzO.last rfl | (refine RzO.cons ?_ (.inr rfl) ?_) | exact Rz.same rfl (still_ints _) | exact Rz.same rfl (still_rows (fun _ => rfl) _)))) (by first | (show 0 ≤ _; exact Nat.zero_le _) | (repeat' (first | exact RzT.nil | refine RzT.cons ?_ ?_ | exact Rz.nil | refine Rz.keep rfl rfl ?_ | refine Rz.own rfl rfl rfl rfl rfl (by first | rfl | omega | (simp; done)) ?_ | refine Rz.ptr rfl rfl rfl rfl ?_ | refine Rz.nilO rfl rfl rfl (by first | rfl | omega | (simp; done)) ?_ | refine Rz.agg ?_ ?_ | exact RzO.last rfl | (refine RzO.cons ?_ (.inr rfl) ?_) | exact Rz.same rfl (still_ints _) | exact Rz.same rfl (still_rows (fun _ => rfl) _)))) (Nat.zero_le _)
    have hln := hln k hk.2
    have hnx := hnx k hk.2
    have hbd := hbd k hk.2
    have hfin : ¬ (k : Int) < nm8 E → X (nm8 E).toNat = X k := fun h => by rw [show (nm8 E).toNat = k by omega]
    generalize hy : X k = y at hk hln hnx hbd hfin ⊢
    have hln : y.bs.length = k := hln
    by_cases hb : (blS p y.a lens (sz8 E)).c = 0
    · have hnx := hnx hb
      clear hbd
      refine go (r := ?_); and_intros <;> intros <;> try exact True.intro
      all_goals first | contradiction | (rw [hnx]; done) | (rw [hfin (by assumption)]; first | done | omega | (simp [hk.2]; done) | (simp only; omega)) | trace_state
    · have hbd := hbd hb
      clear hnx
      refine go (r := ?_); and_intros <;> intros <;> try exact True.intro
      all_goals first | contradiction | (rw [hbd _ (by omega)]; first | done | (simp [hb]; done)) | (rw [hfin (by assumption)]; first | done | omega | (simp [hk.2]; done) | (simp only; omega)) | trace_state
  · rw [mbS_no ho]
    have ea := (rb_no ho).1
    refine go (r := ?_); and_intros <;> intros <;> try exact True.intro
    all_goals first | contradiction | trace_state⟩
end Go.Proofs.Ytgkeopmihhcbiaa

/- Contracts: levels, blocks and macroblocks that are read by the specification. No condition. -/
namespace Go.Proofs.Ytgkeopmihhcbiaa
open Go Go.Abs
set_option linter.unusedVariables false
set_option linter.unusedSimpArgs false
set_option maxRecDepth 100000
set_option maxHeartbeats 4000000
attribute [local irreducible] WpA WpL Rnd Blk Abs.Seq Abs.Fin Abs.FinG FnC FnG Only

def pvC (p : List UInt8) (s room : Int) : Int := fuC p (fuA p s 0 (kR room)) (fuC p s 0 (kR room)) kL
def pvA (p : List UInt8) (s room : Int) : Int := fuA p (fuA p s 0 (kR room)) (fuC p s 0 (kR room)) kL
def pvR (p : List UInt8) (s room : Int) : Int := if pvC p s room = 0 then fuV p s 0 (kR room) else 0
def pvL (p : List UInt8) (s room : Int) : Int := if pvC p s room = 0 then lvOf (fuV p (fuA p s 0 (kR room)) (fuC p s 0 (kR room)) kL) else 0
theorem fu_bad {p : List UInt8} {s : Int} {k : Int → Int} (h : ueC p s ≠ 0) : fuC p s 0 k = ueC p s ∧ fuA p s 0 k = s := by
  have e : fuC p s 0 k = ueC p s := by rw [fuC, if_pos rfl, if_neg h]
  exact ⟨e, by rw [fuA, if_neg (by rw [e]; exact h)]⟩
theorem fu_chk {p : List UInt8} {s c : Int} {k : Int → Int} (h : ueC p s = 0) (hk : k (ueV p s) = c) (hc : c ≠ 0) : fuC p s 0 k = c ∧ fuA p s 0 k = s := by
  have e : fuC p s 0 k = c := by rw [fuC, if_pos rfl, if_pos h, hk]
  exact ⟨e, by rw [fuA, if_neg (by rw [e]; exact hc)]⟩
theorem fu_yes {p : List UInt8} {s : Int} {k : Int → Int} (h : ueC p s = 0) (hk : k (ueV p s) = 0) : fuC p s 0 k = 0 ∧ fuA p s 0 k = ueA p s ∧ fuV p s 0 k = ueV p s := by
  have e : fuC p s 0 k = 0 := by rw [fuC, if_pos rfl, if_pos h, hk]
  exact ⟨e, by rw [fuA, if_pos e], by rw [fuV, if_pos e]⟩
theorem fu_off {p : List UInt8} {s c : Int} {k : Int → Int} (h : c ≠ 0) : fuC p s c k = c ∧ fuA p s c k = s := by
  have e : fuC p s c k = c := by rw [fuC, if_neg h]
  exact ⟨e, by rw [fuA, if_neg (by rw [e]; exact h)]⟩
theorem pv_1 {p : List UInt8} {s room : Int} (h : ueC p s ≠ 0) : pvA p s room = s ∧ pvC p s room = ueC p s ∧ pvR p s room = 0 ∧ pvL p s room = 0 := by
  have e := fu_bad (k := kR room) h
  have e2 : pvC p s room = ueC p s := by rw [pvC, e.1, e.2, (fu_off h).1]
  exact ⟨by rw [pvA, e.1, e.2, (fu_off h).2], e2, by rw [pvR, if_neg (by rw [e2]; exact h)], by rw [pvL, if_neg (by rw [e2]; exact h)]⟩
theorem pv_2 {p : List UInt8} {s room : Int} (h : ueC p s = 0) (h2 : ¬ ueV p s < room) : pvA p s room = s ∧ pvC p s room = 5 ∧ pvR p s room = 0 ∧ pvL p s room = 0 := by
  have e := fu_chk (k := kR room) h (ifE_no h2) (by decide)
  have e2 : pvC p s room = 5 := by rw [pvC, e.1, e.2, (fu_off (by decide)).1]
  exact ⟨by rw [pvA, e.1, e.2, (fu_off (by decide)).2], e2, by rw [pvR, if_neg (by rw [e2]; decide)], by rw [pvL, if_neg (by rw [e2]; decide)]⟩
theorem pv_3 {p : List UInt8} {s room : Int} (h : ueC p s = 0) (h2 : ueV p s < room) (h3 : ueC p (ueA p s) ≠ 0) : pvA p s room = ueA p s ∧ pvC p s room = ueC p (ueA p s) ∧ pvR p s room = 0 ∧ pvL p s room = 0 := by
  have e := fu_yes (k := kR room) h (ifE_yes h2)
  have f := fu_bad (k := kL) h3
  have e2 : pvC p s room = ueC p (ueA p s) := by rw [pvC, e.1, e.2.1, f.1]
  exact ⟨by rw [pvA, e.1, e.2.1, f.2], e2, by rw [pvR, if_neg (by rw [e2]; exact h3)], by rw [pvL, if_neg (by rw [e2]; exact h3)]⟩
theorem pv_4 {p : List UInt8} {s room : Int} (h : ueC p s = 0) (h2 : ueV p s < room) (h3 : ueC p (ueA p s) = 0) (h4 : ¬ (-16383 ≤ lvOf (ueV p (ueA p s)) ∧ lvOf (ueV p (ueA p s)) ≤ 16383)) : pvA p s room = ueA p s ∧ pvC p s room = 5 ∧ pvR p s room = 0 ∧ pvL p s room = 0 := by
  have e := fu_yes (k := kR room) h (ifE_yes h2)
  have f := fu_chk (k := kL) h3 (ifE_no h4) (by decide)
  have e2 : pvC p s room = 5 := by rw [pvC, e.1, e.2.1, f.1]
  exact ⟨by rw [pvA, e.1, e.2.1, f.2], e2, by rw [pvR, if_neg (by rw [e2]; decide)], by rw [pvL, if_neg (by rw [e2]; decide)]⟩
theorem pv_5 {p : List UInt8} {s room : Int} (h : ueC p s = 0) (h2 : ueV p s < room) (h3 : ueC p (ueA p s) = 0) (h4 : -16383 ≤ lvOf (ueV p (ueA p s)) ∧ lvOf (ueV p (ueA p s)) ≤ 16383) : pvA p s room = ueA p (ueA p s) ∧ pvC p s room = 0 ∧ pvR p s room = ueV p s ∧ pvL p s room = lvOf (ueV p (ueA p s)) := by
  have e := fu_yes (k := kR room) h (ifE_yes h2)
  have f := fu_yes (k := kL) h3 (ifE_yes h4)
  have e2 : pvC p s room = 0 := by rw [pvC, e.1, e.2.1, f.1]
  exact ⟨by rw [pvA, e.1, e.2.1, f.2.1], e2, by rw [pvR, if_pos e2, e.2.2], by rw [pvL, if_pos e2, e.1, e.2.1, f.2.2]⟩
theorem lvStep_pv0 {p : List UInt8} {nn : Int} {x : LvS} (hc : x.c = 0) (h : pvC p x.a (nn - x.at_) = 0) : lvStep p nn x = ⟨pvA p x.a (nn - x.at_), 0, x.at_ + pvR p x.a (nn - x.at_) + 1, x.out.set (x.at_ + pvR p x.a (nn - x.at_)).toNat (pvL p x.a (nn - x.at_))⟩ := by
  have h' := h
  rw [pvC] at h'
  have e3 : pvR p x.a (nn - x.at_) = fuV p x.a 0 (kR (nn - x.at_)) := by rw [pvR, if_pos h]
  have e4 : pvL p x.a (nn - x.at_) = lvOf (fuV p (fuA p x.a 0 (kR (nn - x.at_))) (fuC p x.a 0 (kR (nn - x.at_))) kL) := by rw [pvL, if_pos h]
  rw [lvStep_yes hc, if_pos h', e3, e4, h']; rfl
theorem lvStep_pv1 {p : List UInt8} {nn : Int} {x : LvS} (hc : x.c = 0) (h : pvC p x.a (nn - x.at_) ≠ 0) : (lvStep p nn x).a = pvA p x.a (nn - x.at_) ∧ (lvStep p nn x).c = pvC p x.a (nn - x.at_) ∧ (lvStep p nn x).out = x.out := by
  have h' := h
  rw [pvC] at h'
  rw [lvStep_yes hc, if_neg h']; exact ⟨rfl, rfl, rfl⟩
theorem pvR_bd {p : List UInt8} {s room : Int} (h : pvC p s room = 0) : 0 ≤ pvR p s room ∧ pvR p s room < room := by
  have h1 : fuC p s 0 (kR room) = 0 := by
    by_cases h0 : fuC p s 0 (kR room) = 0
    · exact h0
    · rw [pvC, fuC_keep h0] at h; exact absurd h h0
  rw [pvR, if_pos h]
  refine ⟨fuV_nn _ _ _ _, ?_⟩
  have hu := ueV_nn p s
  rw [fuV, if_pos h1]
  rw [fuC, if_pos rfl] at h1
  split at h1
  · by_cases hlt : ueV p s < room
    · exact hlt
    · have h1 : ifE (ueV p s < room) 5 = 0 := h1
      rw [ifE_no hlt] at h1; cases h1
  · rename_i hh; exact absurd h1 hh
section
attribute [local irreducible] ueA ueV ueC pvC pvA pvR pvL lvOf
instance l23Pair_s : Con 244 (∀ (p : List UInt8) (s room : Int), p.length ≤ 1099511627776 → Fn 244 [RA p s, I room] [] (.tup [RA p (pvA p s room), .agg [I (pvR p s room), I (pvL p s room)], I (pvC p s room)])) := ⟨fun p s room hl => by
  have hb := ueV_bd p s
  have hb2 := ueV_bd p (ueA p s)
  refine FnC.of_body tabOk Try.func244 Try.ntmps244 rfl (by decide +kernel) (by simp) fun G => ?_
  by_cases h1 : ueC p s = 0
  rotate_left
  · obtain ⟨e1, e2, e3, e4⟩ := pv_1 (room := room) h1
    rw [e1, e2, e3, e4]
    refine go (r := ?_); and_intros <;> intros <;> try exact True.intro
    all_goals first | contradiction | trace_state
  by_cases h2 : ueV p s < room
  rotate_left
  · obtain ⟨e1, e2, e3, e4⟩ := pv_2 (room := room) h1 h2
    rw [e1, e2, e3, e4]
    refine go (r := ?_); and_intros <;> intros <;> try exact True.intro
    all_goals first | contradiction | omega | trace_state
  by_cases h3 : ueC p (ueA p s) = 0
  rotate_left
  · obtain ⟨e1, e2, e3, e4⟩ := pv_3 (room := room) h1 h2 h3
    rw [e1, e2, e3, e4]
    refine go (r := ?_); and_intros <;> intros <;> try exact True.intro
    all_goals first | contradiction | omega | trace_state
  by_cases h4 : -16383 ≤ lvOf (ueV p (ueA p s)) ∧ lvOf (ueV p (ueA p s)) ≤ 16383
  rotate_left
  · obtain ⟨e1, e2, e3, e4⟩ := pv_4 (room := room) h1 h2 h3 h4
    rw [e1, e2, e3, e4]
    refine go (r := ?_); and_intros <;> intros <;> try exact True.intro
    all_goals first | contradiction | omega | trace_state
  obtain ⟨e1, e2, e3, e4⟩ := pv_5 (room := room) h1 h2 h3 h4
  rw [e1, e2, e3, e4]
  refine go (r := ?_); and_intros <;> intros <;> try exact True.intro
  all_goals first | contradiction | omega | trace_state⟩
end
theorem lv_1 {p : List UInt8} {s n : Int} (h : ¬ RbOk p s 1) : lvS p s n = ⟨s, 1, 0, List.replicate (n * n).toNat 0⟩ := by
  have e1 : fbC p s 0 1 k0C = 1 := by rw [fbC, if_pos rfl, if_neg h]
  have e2 : fbA p s 0 1 k0C = s := by rw [fbA, if_neg (by rw [e1]; decide)]
  rw [lvS_no (by rw [fbV, if_neg (by rw [e1]; decide)]), e1, e2]
theorem k0_ok {p : List UInt8} {s : Int} (h : RbOk p s 1) : fbC p s 0 1 k0C = 0 ∧ fbA p s 0 1 k0C = rbA p s 1 ∧ fbV p s 0 1 k0C = rbV p s 1 := by
  have e1 : fbC p s 0 1 k0C = 0 := by rw [fbC, if_pos rfl, if_pos h]
  exact ⟨e1, by rw [fbA, if_pos ⟨rfl, e1⟩], by rw [fbV, if_pos e1]⟩
theorem lv_2 {p : List UInt8} {s n : Int} (h : RbOk p s 1) (hv : rbV p s 1 = 0) : lvS p s n = ⟨rbA p s 1, 0, 0, List.replicate (n * n).toNat 0⟩ := by
  obtain ⟨e1, e2, e3⟩ := k0_ok h
  rw [lvS_no (by rw [e3]; exact hv), e1, e2]
theorem lvRun_c {p : List UInt8} {nn : Int} {x : LvS} (h : x.c ≠ 0) (j : Nat) : lvRun p nn x j = x := lvRun_stop (k := 0) h j (Nat.zero_le _)
theorem lv_3 {p : List UInt8} {s n : Int} (h : RbOk p s 1) (hv : rbV p s 1 ≠ 0) (hu : ueC p (rbA p s 1) ≠ 0) : lvS p s n = ⟨rbA p s 1, ueC p (rbA p s 1), 0, List.replicate (n * n).toNat 0⟩ := by
  obtain ⟨e1, e2, e3⟩ := k0_ok h
  have f := fu_bad (k := kR (n * n)) hu
  rw [lvS_yes (by rw [e3]; exact hv), e1, e2, f.1, f.2, lvRun_c hu]
theorem lv_4 {p : List UInt8} {s n : Int} (h : RbOk p s 1) (hv : rbV p s 1 ≠ 0) (hu : ueC p (rbA p s 1) = 0) (h2 : ¬ ueV p (rbA p s 1) < n * n) : lvS p s n = ⟨rbA p s 1, 5, 0, List.replicate (n * n).toNat 0⟩ := by
  obtain ⟨e1, e2, e3⟩ := k0_ok h
  have f := fu_chk (k := kR (n * n)) hu (ifE_no h2) (by decide)
  rw [lvS_yes (by rw [e3]; exact hv), e1, e2, f.1, f.2, lvRun_c (show (5 : Int) ≠ 0 by decide)]
theorem lv_5 {p : List UInt8} {s n : Int} (h : RbOk p s 1) (hv : rbV p s 1 ≠ 0) (hu : ueC p (rbA p s 1) = 0) (h2 : ueV p (rbA p s 1) < n * n) : lvS p s n = lvRun p (n * n) ⟨ueA p (rbA p s 1), 0, 0, List.replicate (n * n).toNat 0⟩ (1 + ueV p (rbA p s 1)).toNat := by
  obtain ⟨e1, e2, e3⟩ := k0_ok h
  have f := fu_yes (k := kR (n * n)) hu (ifE_yes h2)
  rw [lvS_yes (by rw [e3]; exact hv), e1, e2, f.1, f.2.1, f.2.2]
section
attribute [local irreducible] rbA rbV ueA ueV ueC pvC pvA pvR pvL lvOf lvS lvRun
instance l23Levels_s : Con 227 (∀ (p : List UInt8) (s n : Int), p.length ≤ 1099511627776 ∧ (n = 4 ∨ n = 8) → Fn 227 [RA p s, I n] [XI (lvS p s n).out] (.tup [RA p (lvS p s n).a, .own 0 0 0 (lvS p s n).out.length, I (lvS p s n).c])) := ⟨fun p s n hl => by
  obtain ⟨hl, hn⟩ := hl
  have hnn : 16 ≤ n * n ∧ n * n ≤ 64 := by rcases hn with rfl | rfl <;> decide
  have hn2 := mul_in (a := n) (b := n) (by omega) (by omega)
  refine FnC.of_body tabOk Try.func227 Try.ntmps227 rfl (by decide +kernel) (by simp) fun G => ?_
  by_cases h1 : RbOk p s 1
  rotate_left
  · rw [lv_1 h1]
    refine go (r := ?_); and_intros <;> intros <;> try exact True.intro
    all_goals first | contradiction | trace_state
  by_cases h2 : rbV p s 1 = 0
  · rw [lv_2 h1 h2]
    refine go (r := ?_); and_intros <;> intros <;> try exact True.intro
    all_goals first | contradiction | trace_state
  have hb := ueV_bd p (rbA p s 1)
  have hb2 := ueV_nn p (rbA p s 1)
  by_cases h3 : ueC p (rbA p s 1) = 0
  rotate_left
  · rw [lv_3 h1 h2 h3]
    refine go (r := ?_); and_intros <;> intros <;> try exact True.intro
    all_goals first | contradiction | trace_state
  by_cases h4 : ueV p (rbA p s 1) < n * n
  rotate_left
  · rw [lv_4 h1 h2 h3 h4]
    refine go (r := ?_); and_intros <;> intros <;> try exact True.intro
    all_goals first | contradiction | omega | trace_state
  rw [lv_5 h1 h2 h3 h4]
  have hr0 := lvRun_at (p := p) (nn := n * n) (x := ⟨ueA p (rbA p s 1), 0, 0, List.replicate (n * n).toNat 0⟩) (show (0 : Int) ≤ 0 ∧ (0 : Int) ≤ n * n by omega)
  have hln := lvRun_len p (n * n) ⟨ueA p (rbA p s 1), 0, 0, List.replicate (n * n).toNat 0⟩
  have hst : ∀ k, lvRun p (n * n) ⟨ueA p (rbA p s 1), 0, 0, List.replicate (n * n).toNat 0⟩ (k + 1) = lvStep p (n * n) (lvRun p (n * n) ⟨ueA p (rbA p s 1), 0, 0, List.replicate (n * n).toNat 0⟩ k) := fun _ => by rw [lvRun]
  have hsp := fun k => lvRun_stop (p := p) (nn := n * n) (x := ⟨ueA p (rbA p s 1), 0, 0, List.replicate (n * n).toNat 0⟩) (k := k)
  have hz : lvRun p (n * n) ⟨ueA p (rbA p s 1), 0, 0, List.replicate (n * n).toNat 0⟩ 0 = ⟨ueA p (rbA p s 1), 0, 0, List.replicate (n * n).toNat 0⟩ := by rw [lvRun]
  generalize lvRun p (n * n) ⟨ueA p (rbA p s 1), 0, 0, List.replicate (n * n).toNat 0⟩ = X at hr0 hln hst hsp hz ⊢
  have hz2 : (X (1 + ueV p (rbA p s 1)).toNat).out.length = (n * n).toNat := by rw [hln]; simp
  refine go (r := ?_); and_intros <;> intros <;> try exact True.intro
  all_goals first | contradiction | omega | skip
  generalize ueV p (rbA p s 1) = u at hb hb2 h4 hz2 ⊢
  refine WpA.loop (fun k : Nat => ⟨[(1, I n), (4, .ptr 1 0 0), (7, .own 2 0 0 (n * n).toNat), (11, .ptr 4 0 0), (12, I u), (14, I (X k).at_), (15, I k)], [BoxR p s, R0, XI (X k).out, ⟨[Z p, I (rbA p s 1)], 0, 0, none⟩, ⟨[Z p, I (X k).a], 0, 0, none⟩]⟩) (fun k => (k : Int) ≤ 1 + u ∧ (X k).c = 0) (fun k => (1 + u).toNat - k) 0 (by rw [hz]; exact ⟨by omega, rfl⟩) (go (r := ?_)) (fun k hk => ?_)
  · rw [hz]; and_intros <;> first | exact True.intro | rfl | trace_state
  have hr0 := hr0 k
  have hln := hln k
  have hst := hst k
  have hsp1 := fun h => hsp (k + 1) h (1 + u).toNat
  have hfin : ¬ (k : Int) ≤ u → X (1 + u).toNat = X k := fun h => by rw [show (1 + u).toNat = k by omega]
  generalize hy : X k = y at hr0 hln hst hsp1 hk hfin ⊢
  have hln : y.out.length = (n * n).toNat := by simpa using hln
  have hrm := pvR_bd (p := p) (s := y.a) (room := n * n - y.at_)
  by_cases hp : pvC p y.a (n * n - y.at_) = 0
  · have hrm := hrm hp
    rw [lvStep_pv0 hk.2 hp] at hst
    clear hsp1
    refine go (r := ?_); and_intros <;> intros <;> try exact True.intro
    all_goals first | contradiction | (rw [hst]; done) | (rw [hfin (by assumption)]; first | done | exact hk.2.symm) | trace_state
  · have e := lvStep_pv1 (p := p) (nn := n * n) hk.2 hp
    rw [← hst] at e
    have hNk := hsp1 (by rw [e.2.1]; exact hp)
    clear hst hrm
    refine go (r := ?_); and_intros <;> intros <;> try exact True.intro
    all_goals first | contradiction | (rw [hfin (by assumption)]; first | done | exact hk.2.symm) | (rw [hNk (by omega)]; first | exact e.1.symm | exact e.2.1.symm | exact e.1 | exact e.2.1 | rw [e.1] | rw [e.2.1] | rw [e.2.2]) | trace_state⟩
end
section
attribute [local irreducible] lvS smA smV smC blS
instance ReadBlock_s : Con 155 (∀ (p : List UInt8) (s : Int) (lens : List Int) (n : Int), p.length ≤ 1099511627776 ∧ lens.length ≤ 1099511627776 → Fn 155 [RA p s, IL lens, I n] [XI (blS p s lens n).l] (.tup [RA p (blS p s lens n).a, BkV (blS p s lens n).m (blS p s lens n).l, I (blS p s lens n).c])) := ⟨fun p s lens n hl => by
  refine FnC.of_body tabOk Try.func155 Try.ntmps155 rfl (by decide +kernel) (by simp) fun G => ?_
  by_cases hn : n = 4 ∨ n = 8
  rotate_left
  · rw [blS_4 hn]
    refine go (r := ?_); and_intros <;> intros <;> try exact True.intro
    all_goals first | contradiction | trace_state
  by_cases hs : smC p s lens = 0
  rotate_left
  · rw [blS_3 hn hs]
    have ea := smA_bad hs
    refine go (r := ?_); and_intros <;> intros <;> try exact True.intro
    all_goals first | contradiction | trace_state
  by_cases hy : (lvS p (smA p s lens) n).c = 0
  · rw [blS_1 hn hs hy]
    refine go (r := ?_); and_intros <;> intros <;> try exact True.intro
    all_goals first | contradiction | trace_state
  · rw [blS_2 hn hs hy]
    refine go (r := ?_); and_intros <;> intros <;> try exact True.intro
    all_goals first | contradiction | trace_state⟩
end
section
attribute [local irreducible] rbA rbV blS mbS mbRun sz8 nm8
instance ReadMb_s : Con 64 (∀ (p : List UInt8) (s : Int) (lens : List Int), p.length ≤ 1099511627776 ∧ lens.length ≤ 1099511627776 → Fn 64 [RA p s, IL lens] [BkO (mbS p s lens).1.bs] (.tup [RA p (mbS p s lens).1.a, MbV (mbS p s lens).2 (mbS p s lens).1.bs.length, I (mbS p s lens).1.c])) := ⟨fun p s lens hl => by
  refine FnC.of_body tabOk Try.func64 Try.ntmps64 rfl (by decide +kernel) (by simp) fun G => ?_
  by_cases ho : RbOk p s 1
  rotate_left
  · rw [mbS_no ho]
    refine go (r := ?_); and_intros <;> intros <;> try exact True.intro
    all_goals first | contradiction | trace_state
  have ea := (rb_yes ho).1
  generalize hE : decide (rbV p s 1 = 1) = E
  rw [mbS_yes ho hE]
  have hc8 := sz8_cases E
  have hnn : sz8 E * sz8 E = 16 ∨ sz8 E * sz8 E = 64 := by rcases hc8 with ⟨h, _⟩ | ⟨h, _⟩ <;> rw [h] <;> decide
  have hq : 64 / (sz8 E * sz8 E) = nm8 E := by rcases hc8 with ⟨h, h2⟩ | ⟨h, h2⟩ <;> rw [h, h2] <;> decide
  refine go (r := ?_); and_intros <;> intros <;> try exact True.intro
  all_goals first | contradiction | skip
  rw [hE, ea]
  have hz : (mbRun p (s + 1) lens (sz8 E) 0) = ⟨s + 1, 0, []⟩ := by rw [mbRun]
  have hln := fun k h => mbRun_len p (s + 1) lens (sz8 E) k h
  have hnx := fun k h hb => mbRun_next (p := p) (s := s + 1) (lens := lens) (n := sz8 E) (k := k) h hb
  have hbd := fun k h hb j hj => mbRun_bad (p := p) (s := s + 1) (lens := lens) (n := sz8 E) (k := k) h hb j hj
  generalize mbRun p (s + 1) lens (sz8 E) = X at hz hln hnx hbd ⊢
  refine WpA.loop (fun k : Nat => ⟨[(1, IL lens), (4, .ptr 1 0 0), (5, .ptr 2 0 0), (7, .ptr 3 0 0), (10, .ptr 4 0 0), (11, I (sz8 E)), (12, I k)], [BoxR p s, R0, ⟨[B false, .nilS], 0, 0, none⟩, ⟨[Z p, I (X k).a], 0, 0, none⟩, ⟨[B E, .own 5 0 0 k], 0, 0, none⟩, BkO (X k).bs]⟩) (fun k => (k : Int) ≤ nm8 E ∧ (X k).c = 0) (fun k => (nm8 E).toNat - k) 0 (by rw [hz]; exact ⟨by omega, rfl⟩) ?_ (fun k hk => ?_)
  · rw [hz]; exact Weak.nil1 (by first | (show 0 ≤ _; exact Nat.zero_le _) | (repeat' (first | exact RzT.nil | refine RzT.cons ?_ ?_ | exact Rz.nil | refine Rz.keep rfl rfl ?_ | refine Rz.own rfl rfl rfl rfl rfl (by first | rfl | omega | (simp; done)) ?_ | refine Rz.ptr rfl rfl rfl rfl ?_ | refine Rz.nilO rfl rfl rfl (by first | rfl | omega | (simp; done)) ?_ | refine Rz.agg ?_ ?_ | exact RzO.last rfl | (refine RzO.cons ?_ (.inr rfl) ?_) | exact Rz.same rfl (still_ints _) | exact Rz.same rfl (still_rows (fun _ => rfl) _)))) (by first | (show 0 ≤ _; exact Nat.zero_le _) | (repeat' (first | exact RzT.nil | refine RzT.cons ?_ ?_ | exact Rz.nil | refine Rz.keep rfl rfl ?_ | refine Rz.own rfl rfl rfl rfl rfl (by first | rfl | omega | (simp; done)) ?_ | refine Rz.ptr rfl rfl rfl rfl ?_ | refine Rz.nilO rfl rfl rfl (by first | rfl | omega | (simp; done)) ?_ | refine Rz.agg ?_ ?_ | exact RzO.last rfl | (refine RzO.cons ?_ (.inr rfl) ?_) | exact Rz.same rfl (still_ints _) | exact Rz.same rfl (still_rows (fun _ => rfl) _)))) (Nat.zero_le _)
  have hln := hln k hk.2
  have hnx := hnx k hk.2
  have hbd := hbd k hk.2
  have hfin : ¬ (k : Int) < nm8 E → X (nm8 E).toNat = X k := fun h => by rw [show (nm8 E).toNat = k by omega]
  generalize hy : X k = y at hk hln hnx hbd hfin ⊢
  have hln : y.bs.length = k := hln
  by_cases hb : (blS p y.a lens (sz8 E)).c = 0
  · have hnx := hnx hb
    clear hbd
    refine go (r := ?_); and_intros <;> intros <;> try exact True.intro
    all_goals rw [hq] at *
    all_goals first | contradiction | omega | (rw [hnx]; done) | (rw [hfin (by assumption)]; first | done | omega | (simp [hk.2]; done) | (simp only; omega)) | trace_state
  · have hbd := hbd hb
    clear hnx
    refine go (r := ?_); and_intros <;> intros <;> try exact True.intro
    all_goals rw [hq] at *
    all_goals first | contradiction | omega | (rw [hbd _ (by omega)]; first | done | (simp [hb]; done)) | (rw [hfin (by assumption)]; first | done | omega | (simp [hk.2]; done) | (simp only; omega)) | trace_state⟩
end
end Go.Proofs.Ytgkeopmihhcbiaa

/- Contracts: the check of tables, levels out of a cache; the law FnExactFastLevels. No condition. -/
namespace Go.Proofs.Ytgkeopmihhcbiaa
open Go Go.Abs
set_option linter.unusedVariables false
set_option linter.unusedSimpArgs false
set_option maxRecDepth 100000
set_option maxHeartbeats 4000000
attribute [local irreducible] WpA WpL Rnd Blk Abs.Seq Abs.Fin Abs.FinG FnC FnG Only

attribute [local irreducible] ueTab
instance TableOk_c : Con 70 (∀ t : List Ent, t.length ≤ 1099511627776 → Fn 70 [EnL t] [] (B (decide (t = ueTab)))) := ⟨fun t hl => by
  have h5 := ueTab_len
  refine FnC.of_body tabOk Try.func70 Try.ntmps70 rfl (by decide +kernel) (by simp) fun G => ?_
  refine go (r := ?_); and_intros <;> intros <;> try exact True.intro
  all_goals first | omega | trace_state⟩
instance TableOk_s : Con 63 (∀ t : List Ent, t.length ≤ 1099511627776 → Fn 63 [EnL t] [] (B (decide (t = ueTab)))) := ⟨fun t hl => by
  have h5 := ueTab_len
  refine FnC.of_body tabOk Try.func63 Try.ntmps63 rfl (by decide +kernel) (by simp) fun G => ?_
  refine go (r := ?_); and_intros <;> intros <;> try exact True.intro
  refine WpA.loop (fun k : Nat => ⟨[(0, EnL t), (3, .own 0 0 0 512), (4, I k)], [XE ueTab]⟩) (fun k => k ≤ t.length ∧ k ≤ 512 ∧ ∀ j < k, t.getD j default = ueTab.getD j default) (fun k => t.length - k) 0 (by simp) (go (r := ?_)) (fun k hk => ?_)
  · trivial
  have hend : (k = t.length ∨ k = 512) → decide ((t.length : Int) = (512 : Nat)) = decide (t = ueTab) := by
    intro h
    by_cases hlen : t.length = 512
    · have e := eq_all default (xs := t) (ys := ueTab) (by omega) (fun j hj => hk.2.2 j (by omega))
      simp [e, h5]
    · have e : t ≠ ueTab := by rintro rfl; exact hlen h5
      rw [decide_eq_false e, decide_eq_false (by omega)]
  refine go (r := ?_); and_intros <;> intros <;> try exact True.intro
  · refine WpL.prNe rfl rfl (by decide) ?_
    refine go (r := ?_); and_intros <;> intros <;> try exact True.intro
    · simp; rintro rfl; simp_all
    · rename_i j hj; by_cases h : j = k
      · subst h; apply Prod.ext <;> simp_all
      · exact hk.2.2 j (by omega)
  all_goals exact hend (by omega)⟩

/-! Levels out of a cache. -/
abbrev FlOk (p : List UInt8) (s w h n : Int) (t : List Ent) : Prop := CaOk p s w h ∧ t = ueTab ∧ (n = 4 ∨ n = 8)
structure FlS where
  s : Int
  w : Int
  h : Int
  l : List Int
  c : Int
def flS (p : List UInt8) (s w h n : Int) (t : List Ent) : FlS :=
  if FlOk p s w h n t then
    let x := lvS p (plA p s w h) n
    let y : Int := (x.a + 7) / 8
    ⟨y, numB p x.a (8 * y - x.a).toNat, 8 * y - x.a, if x.c = 0 then x.out else [], x.c⟩
  else ⟨s, w, h, [], 5⟩
theorem ca_rd {p : List UInt8} {s w h : Int} (hc : CaOk p s w h) : RdOk p (8 * s - h) := by have := hc.1; have := hc.2.1; constructor <;> omega
theorem plA_yes {p : List UInt8} {s w h : Int} (hc : CaOk p s w h) : plA p s w h = 8 * s - h := if_pos hc
abbrev FlV (x : FlS) (p : List UInt8) : AV := .tup [CA p x.s x.w x.h, .own 0 0 0 x.l.length, I x.c]
section
attribute [local irreducible] lvS numB
end
section
attribute [local irreducible] flS
end
end Go.Proofs.Ytgkeopmihhcbiaa

/- Contracts: the table of symbols by the program and by the specification. No condition. -/
namespace Go.Proofs.Ytgkeopmihhcbiaa
open Go Go.Abs
set_option linter.unusedVariables false
set_option linter.unusedSimpArgs false
set_option maxRecDepth 100000
set_option maxHeartbeats 4000000
attribute [local irreducible] WpA WpL Rnd Blk Abs.Seq Abs.Fin Abs.FinG FnC FnG Only

/-! Plain: which symbol seven bits begin with. -/
def byT (i : Nat) : List UInt8 := [UInt8.ofNat (2 * i)]
theorem byT_num : ∀ i < 128, numB (byT i) 0 7 = i := by decide +kernel
theorem byT_eq : ∀ i : Nat, i < 128 → List.map (fun n : Int => UInt8.ofNat n.toNat) [IntKind.u8.wrap (IntKind.i64.wrap ((i : Int) * 2 ^ Int.toNat 1))] = byT i := by decide +kernel
theorem byT_eq' (i : Nat) (h : i < 128) : List.map (fun n : Int => UInt8.ofNat n.toNat) [IntKind.u8.wrap (IntKind.i64.wrap ((i : Int) * 2 ^ Int.toNat 1))] = byT i := byT_eq i h
theorem byT_rb {i : Nat} {n : Int} (h : 0 ≤ n ∧ n ≤ 7) : RbOk (byT i) 0 n := by
  have hl : (byT i).length = 1 := rfl
  refine ⟨⟨by omega, by rw [hl]; omega⟩, ⟨h.1, by omega⟩, ?_⟩
  rw [lft_ok ⟨by omega, by rw [hl]; omega⟩, hl]; omega
def syE (l : List Int) (i : Nat) : Ent := (smA (byT i) 0 l, smV (byT i) 0 l)
def syTab (l : List Int) : List Ent := (List.range 128).map (syE l)
theorem syTab_len (l : List Int) : (syTab l).length = 128 := by simp [syTab]
instance (l : List Int) (m : Nat) (v : Int) : Decidable (hit (codes l) l m v) := by unfold hit; infer_instance
abbrev hitI (l : List Int) (m i : Nat) : Prop := l.getD m 0 ≠ 0 ∧ hit (codes l) l m i
def pickE (l : List Int) (m i : Nat) : Ent := match (List.range m).find? (fun q => decide (hitI l q i)) with
  | some q => (l.getD q 0, q)
  | none => (0, 0)
theorem pickE_none {l : List Int} {m i : Nat} (h : ∀ q < m, ¬ hitI l q i) : pickE l m i = (0, 0) := by
  unfold pickE
  have : (List.range m).find? (fun q => decide (hitI l q i)) = none := by
    rw [List.find?_eq_none]; intro q hq; simpa using h q (by simpa using hq)
  rw [this]
theorem pickE_some {l : List Int} (hl : CodeOk l) {m i q : Nat} (hm : m ≤ 6) (hq : q < m) (h : hitI l q i) : pickE l m i = (l.getD q 0, (q : Int)) := by
  unfold pickE
  cases hf : (List.range m).find? (fun q => decide (hitI l q i)) with
  | none =>
    rw [List.find?_eq_none] at hf
    exact absurd (decide_eq_true h) (hf q (List.mem_range.2 hq))
  | some r =>
    have h1 := List.find?_some hf
    have h2 := List.mem_of_find?_eq_some hf
    have hr : hitI l r i := of_decide_eq_true h1
    have hrm : r < m := by simpa using h2
    have : r = q := code_uni hl (by omega) (by omega) hr.1 h.1 hr.2 h.2
    rw [this]
theorem pick_sy {l : List Int} (hl : CodeOk l) {i : Nat} (hi : i < 128) : pickE l 6 i = syE l i := by
  obtain ⟨m, hm, hs⟩ := sym_cov (p := byT i) (s := 0) hl (byT_rb (by omega))
  have hh := sym_hit hl hm hs
  rw [byT_num i hi] at hh
  obtain ⟨e1, e2, _⟩ := sm_yes hl hm hs
  rw [pickE_some hl (Nat.le_refl 6) hm ⟨by omega, hh⟩, syE, e1, e2, Int.zero_add]
def bsI (l : List Int) (m : Nat) : Int := (codes l).getD m 0 * cw (l.getD m 0)
/-- The table when so many of a symbol's entries are laid. -/
def entS (l : List Int) (m : Nat) (k : Int) (i : Nat) : Ent := if l.getD m 0 ≠ 0 ∧ bsI l m ≤ i ∧ (i : Int) < bsI l m + k then (l.getD m 0, (m : Int)) else pickE l m i
def tabM (l : List Int) (m : Nat) (k : Int) : List Ent := (List.range 128).map (entS l m k)
theorem tabM_len (l : List Int) (m : Nat) (k : Int) : (tabM l m k).length = 128 := by simp [tabM]
theorem tabM_0 (l : List Int) (m : Nat) : tabM l m 0 = (List.range 128).map (pickE l m) := by
  unfold tabM; refine List.map_congr_left fun i _ => ?_
  unfold entS; rw [if_neg (by omega)]
theorem tabM_set {l : List Int} {m : Nat} {k : Int} (h0 : l.getD m 0 ≠ 0) {j : Nat} (hj : (j : Int) = bsI l m + k) (hk : 0 ≤ k) : (tabM l m k).set j (l.getD m 0, (m : Int)) = tabM l m (k + 1) := by
  refine List.ext_getElem (by simp [tabM]) fun i h1 h2 => ?_
  simp only [tabM, List.getElem_set, List.getElem_map, List.getElem_range]
  by_cases e : j = i
  · subst e; rw [if_pos rfl, entS, if_pos ⟨h0, by omega, by omega⟩]
  · rw [if_neg e]
    unfold entS
    by_cases c : l.getD m 0 ≠ 0 ∧ bsI l m ≤ i ∧ (i : Int) < bsI l m + k
    · rw [if_pos c, if_pos ⟨c.1, c.2.1, by omega⟩]
    · rw [if_neg c, if_neg (fun hh => c ⟨hh.1, hh.2.1, by omega⟩)]
theorem tabM_end {l : List Int} (hl : CodeOk l) {m : Nat} (hm : m < 6) : tabM l m (cw (l.getD m 0)) = tabM l (m + 1) 0 := by
  rw [tabM_0]
  unfold tabM; refine List.map_congr_left fun i hi => ?_
  unfold entS
  by_cases c : l.getD m 0 ≠ 0 ∧ bsI l m ≤ i ∧ (i : Int) < bsI l m + cw (l.getD m 0)
  · rw [if_pos c, pickE_some hl (by omega) (Nat.lt_succ_self m) ⟨c.1, by unfold hit; unfold bsI at c; rw [Int.add_mul, Int.one_mul]; exact c.2⟩]
  · rw [if_neg c]
    have hn : ¬ hitI l m i := fun hh => c ⟨hh.1, by have := hh.2; unfold hit at this; unfold bsI; rw [Int.add_mul, Int.one_mul] at this; exact this⟩
    by_cases hx : ∃ q, q < m ∧ hitI l q i
    · obtain ⟨q, hq, hh⟩ := hx
      rw [pickE_some hl (by omega) hq hh, pickE_some hl (by omega) (show q < m + 1 by omega) hh]
    · rw [pickE_none (fun q hq hh => hx ⟨q, hq, hh⟩), pickE_none]
      intro q hq hh
      rcases Nat.lt_or_ge q m with h | h
      · exact hx ⟨q, h, hh⟩
      · obtain rfl : q = m := by omega
        exact hn hh
theorem tabM_start (l : List Int) : tabM l 0 0 = List.replicate 128 (0, 0) := by
  rw [tabM_0]
  refine List.ext_getElem (by simp) fun i h1 h2 => ?_
  simp only [List.getElem_map, List.getElem_range, List.getElem_replicate]
  exact pickE_none (fun q hq => by omega)
theorem tabM_6 {l : List Int} (hl : CodeOk l) : tabM l 6 0 = syTab l := by
  rw [tabM_0, syTab]; refine List.map_congr_left fun i hi => ?_
  exact pick_sy hl (by simpa using hi)
def syTR (l : List Int) : List Ent := if CodeOk l then syTab l else []
theorem shl_bs {n c : Int} (hn : 0 ≤ n ∧ n ≤ 7) (h0 : n > 0) (hf : 0 ≤ c ∧ (c + 1) * cw n ≤ 128) : IntKind.i64.wrap (c * 2 ^ (7 - n).toNat) = c * cw n := by
  have e : cw n = 2 ^ (7 - n).toNat := by unfold cw; rw [if_pos h0]
  have hp := (cw_wrap n hn h0).2
  rw [← e]
  have h1 : 0 ≤ c * cw n := Int.mul_nonneg hf.1 (by omega)
  have h2 := hf.2
  rw [Int.add_mul, Int.one_mul] at h2
  exact wrap64 _ (by omega)
attribute [local irreducible] syE tabM codes cw smA smV smC
instance SymTable_c : Con 53 (∀ l : List Int, l.length ≤ 1099511627776 → Fn 53 [IL l] [XE (syTR l)] (.own 0 0 0 (syTR l).length)) := ⟨fun l hl => by
  refine FnC.of_body tabOk Try.func53 Try.ntmps53 rfl (by decide +kernel) (by simp) fun G => ?_
  by_cases hc : CodeOk l
  · have e : syTR l = syTab l := if_pos hc
    rw [e]
    refine go (r := ?_); and_intros <;> intros <;> try exact True.intro
    all_goals first | contradiction | skip
    refine WpA.loop (fun k : Nat => ⟨[(0, IL l), (3, .own 0 0 0 k), (12, I k)], [XE ((List.range k).map (syE l))]⟩) (fun k => k ≤ 128) (fun k => 128 - k) 0 (by omega) (go (r := ?_)) (fun k hk => ?_)
    · and_intros <;> first | exact True.intro | rfl | trace_state
    have hln : ((List.range k).map (syE l)).length = k := by simp
    refine go (r := ?_); and_intros <;> intros <;> try exact True.intro
    · exact Nat.le_of_ble_eq_true rfl
    · rw [byT_eq' k (by omega), List.range_succ, List.map_append, List.map_singleton, syE]
    all_goals obtain rfl : k = 128 := by omega
    · exact (syTab_len l).symm
    · rfl
  · have e : syTR l = [] := if_neg hc
    rw [e]
    refine go (r := ?_); and_intros <;> intros <;> try exact True.intro
    all_goals first | contradiction | trace_state⟩
instance SymTable_s : Con 151 (∀ l : List Int, l.length ≤ 1099511627776 → Fn 151 [IL l] [XE (syTR l)] (.own 0 0 0 (syTR l).length)) := ⟨fun l hl => by
  refine FnC.of_body tabOk Try.func151 Try.ntmps151 rfl (by decide +kernel) (by simp) fun G => ?_
  by_cases hc : CodeOk l
  · have e : syTR l = syTab l := if_pos hc
    have ec : codesR l = codes l := if_pos hc
    have ecl : (codesR l).length = 6 := codesR_len l hc
    have h6 := hc.2.1
    rw [e]
    refine go (r := ?_); and_intros <;> intros <;> try exact True.intro
    all_goals first | contradiction | omega | skip
    rw [ec]
    refine WpA.loop (fun m : Nat => ⟨[(0, IL l), (3, .own 0 0 0 (codes l).length), (4, .own 2 0 0 128), (5, I m)], [XI (codes l), ⟨ints [], 0, 2, some 97⟩, XE (tabM l m 0)]⟩) (fun m => m ≤ 6) (fun m => 6 - m) 0 (by omega) (go (r := ?_)) (fun m hm => ?_)
    · and_intros <;> first | exact True.intro | (rw [tabM_start]; rfl) | (rw [tabM_start]; done) | rfl | trace_state
    have hcl : (codes l).length = 6 := by rw [codes_len, h6]
    by_cases hm6 : m < 6
    · have hb := code_in hc hm6
      have hend := tabM_end hc hm6
      have hfit := fun h => code_fit hc hm6 h
      have hlen := tabM_len l m
      have hcw0 : l.getD m 0 = 0 → cw (l.getD m 0) = 0 := fun h => by rw [h]; unfold cw; rfl
      have hcw := fun h => cw_wrap (l.getD m 0) hb h
      have hbs := fun h => shl_bs (c := (codes l).getD m 0) hb h
      have hset := fun (h0 : l.getD m 0 ≠ 0) (k : Nat) (j : Nat) (hj : (j : Int) = bsI l m + k) => tabM_set h0 hj (by omega)
      have hbI : bsI l m = (codes l).getD m 0 * cw (l.getD m 0) := rfl
      refine go (r := ?_); and_intros <;> intros <;> try exact True.intro
      refine WpA.loop (fun k : Nat => ⟨[(0, IL l), (3, .own 0 0 0 (codes l).length), (4, .own 2 0 0 128), (5, I m), (6, I k)], [XI (codes l), ⟨ints [], 0, 2, some 97⟩, XE (tabM l m k)]⟩) (fun k => (k : Int) ≤ cw (l.getD m 0)) (fun k => (cw (l.getD m 0)).toNat - k) 0 (by have := cw_bd (l.getD m 0); omega) (go (r := ?_)) (fun k hk => ?_)
      · and_intros <;> first | exact True.intro | rfl | trace_state
      have hlen := hlen k
      by_cases hz : l.getD m 0 = 0
      · have hcw0 := hcw0 hz
        clear hcw hfit hbs hset
        refine go (r := ?_); and_intros <;> intros <;> try exact True.intro
        all_goals first | contradiction | omega | (rw [show (k : Int) = cw (l.getD m 0) by omega, hend]; done) | trace_state
      · have hcw := hcw (by omega)
        have hfit := hfit hz
        have hbs := hbs (by omega) hfit
        have hset := hset hz k
        rw [Int.add_mul, Int.one_mul, ← hbI] at hfit
        rw [← hbI] at hbs
        have hb0 : 0 ≤ bsI l m := by rw [hbI]; exact Int.mul_nonneg (code_fit hc hm6 hz).1 (by omega)
        refine go (r := ?_); and_intros <;> intros <;> try exact True.intro
        · have hJ : IntKind.i64.wrap (IntKind.i64.wrap ((codes l).getD (m : Int).toNat 0 * 2 ^ (7 - l.getD m 0).toNat) + (k : Int)) = (((bsI l m).toNat + k : Nat) : Int) := by rw [Int.toNat_natCast, hbs, wrap64 _ (by omega)]; omega
          rw [hJ]
          have hlt : (bsI l m).toNat + k < 128 := by omega
          refine K.ixa ?_
          refine WpL.idxON (i := (bsI l m).toNat + k) tabOk rfl rfl rfl rfl rfl hlt (by decide) ?_
          refine go (r := ?_); and_intros <;> intros <;> try exact True.intro
          exact hset ((bsI l m).toNat + k) (by omega)
        all_goals first | contradiction | omega | (rw [show (k : Int) = cw (l.getD m 0) by omega, hend]; done) | trace_state
    · obtain rfl : m = 6 := by omega
      refine go (r := ?_); and_intros <;> intros <;> try exact True.intro
      all_goals first | exact (syTab_len l).symm | exact tabM_6 hc | trace_state
  · have e : syTR l = [] := if_neg hc
    have ec : (codesR l).length = 0 := by rw [codesR, if_neg hc]; rfl
    rw [e]
    refine go (r := ?_); and_intros <;> intros <;> try exact True.intro
    all_goals first | contradiction | trace_state⟩
end Go.Proofs.Ytgkeopmihhcbiaa

/- Contracts: macroblocks out of a cache; the law FnExactFastMb. No condition. -/
namespace Go.Proofs.Ytgkeopmihhcbiaa
open Go Go.Abs
set_option linter.unusedVariables false
set_option linter.unusedSimpArgs false
set_option maxRecDepth 100000
set_option maxHeartbeats 4000000
attribute [local irreducible] WpA WpL Rnd Blk Abs.Seq Abs.Fin Abs.FinG FnC FnG Only

/-! The lengths of which a table of symbols is made. -/
def lnS (t : List Ent) : Nat → List Int
  | 0 => List.replicate 6 0
  | k + 1 => (lnS t k).set (t.getD k default).2.toNat (t.getD k default).1
theorem lnS_len (t : List Ent) : ∀ k, (lnS t k).length = 6
  | 0 => rfl
  | k + 1 => by rw [lnS, List.length_set, lnS_len t k]
abbrev VlOk (e : Ent) : Prop := 0 ≤ e.2 ∧ e.2 ≤ 5
abbrev VlsOk (t : List Ent) : Prop := ∀ e ∈ t, VlOk e
abbrev LfOk (t : List Ent) : Prop := VlsOk t ∧ CodeOk (lnS t t.length) ∧ syTab (lnS t t.length) = t
def lnR (t : List Ent) : List Int := if LfOk t then lnS t t.length else []
theorem vls_of {t : List Ent} (h : ∀ j < t.length, VlOk (t.getD j default)) : VlsOk t := by
  intro e he
  obtain ⟨j, hj, rfl⟩ := List.getElem_of_mem he
  have := h j hj
  simpa [hj] using this
theorem vls_at {t : List Ent} (h : VlsOk t) {j : Nat} (hj : j < t.length) : VlOk (t.getD j default) := h _ (by simp [hj])
theorem lfOk_no1 {t : List Ent} (h : ¬ VlsOk t) : ¬ LfOk t := fun hh => h hh.1
theorem syTR_len (l : List Int) : (syTR l).length ≤ 128 := by
  unfold syTR; split
  · rw [syTab_len]; exact Nat.le_refl _
  · exact Nat.zero_le _
attribute [local irreducible] syTab CodeOk lnS syTR
instance lensFor_c : Con 68 (∀ t : List Ent, t.length ≤ 1099511627776 → Fn 68 [EnL t] [XI (if VlsOk t then lnS t t.length else [])] (.tup [.own 0 0 0 (if VlsOk t then lnS t t.length else []).length, B (decide (LfOk t))])) := ⟨fun t hl => by
  have hll := lnS_len t
  have hst : ∀ k, lnS t (k + 1) = (lnS t k).set (t.getD k default).2.toNat (t.getD k default).1 := fun k => by rw [lnS]
  have hz : lnS t 0 = List.replicate 6 0 := by rw [lnS]
  refine FnC.of_body tabOk Try.func68 Try.ntmps68 rfl (by decide +kernel) (by simp) fun G => ?_
  refine go (r := ?_); and_intros <;> intros <;> try exact True.intro
  refine WpA.loop (fun k : Nat => ⟨[(0, EnL t), (4, .own 0 0 0 6), (8, EnL t), (9, I t.length), (10, I k)], [XI (lnS t k)]⟩) (fun k => k ≤ t.length ∧ ∀ j < k, VlOk (t.getD j default)) (fun k => t.length - k) 0 (by simp) (go (r := ?_)) (fun k hk => ?_)
  · rw [hz]; and_intros <;> first | exact True.intro | rfl | trace_state
  have hll := hll k
  have hst := hst k
  have hex : ¬ VlOk (t.getD k default) → k < t.length → ¬ VlsOk t := fun h h2 hh => h (vls_at hh h2)
  have hfin : k = t.length → VlsOk t := fun h => vls_of fun j hj => hk.2 j (by omega)
  by_cases hkl : k < t.length
  · by_cases hv : VlOk (t.getD k default)
    · refine go (r := ?_); and_intros <;> intros <;> try exact True.intro
      all_goals first | contradiction | (rw [hst]; done) | (rename_i j hj; by_cases h : j = k; (subst h; omega); (have := hk.2 j (by omega); omega)) | trace_state
    · have hn := hex hv hkl
      rw [if_neg hn, decide_eq_false (lfOk_no1 hn)]
      refine go (r := ?_); and_intros <;> intros <;> try exact True.intro
      all_goals first | contradiction | trace_state
  · obtain rfl : k = t.length := by omega
    have hv := hfin rfl
    rw [if_pos hv]
    have h128 := syTR_len (lnS t t.length)
    refine go (r := ?_); and_intros <;> intros <;> try exact True.intro
    · rename_i hc
      have e : syTR (lnS t t.length) = syTab (lnS t t.length) := by unfold syTR; rw [if_pos hc]
      rw [e, Bool.eq_iff_iff, decide_eq_true_eq, decide_eq_true_eq]
      exact ⟨fun h => ⟨hv, hc, h⟩, fun h => h.2.2⟩
    · rename_i hc
      exact (decide_eq_false (fun h : LfOk t => hc h.2.1)).symm⟩
theorem lnR_yes {t : List Ent} (h : LfOk t) : lnR t = lnS t t.length := if_pos h
theorem lnR_no {t : List Ent} (h : ¬ LfOk t) : lnR t = [] := if_neg h
instance l26Lens_s : Con 61 (∀ t : List Ent, t.length ≤ 1099511627776 → Fn 61 [EnL t] [XI (lnR t)] (.own 0 0 0 (lnR t).length)) := ⟨fun t hl => by
  have hll := lnS_len t
  have hst : ∀ k, lnS t (k + 1) = (lnS t k).set (t.getD k default).2.toNat (t.getD k default).1 := fun k => by rw [lnS]
  have hz : lnS t 0 = List.replicate 6 0 := by rw [lnS]
  refine FnC.of_body tabOk Try.func61 Try.ntmps61 rfl (by decide +kernel) (by simp) fun G => ?_
  refine go (r := ?_); and_intros <;> intros <;> try exact True.intro
  refine WpA.loop (fun k : Nat => ⟨[(0, EnL t), (3, .own 0 0 0 6), (4, I k)], [XI (lnS t k)]⟩) (fun k => k ≤ t.length ∧ ∀ j < k, VlOk (t.getD j default)) (fun k => t.length - k) 0 (by simp) (go (r := ?_)) (fun k hk => ?_)
  · rw [hz]; and_intros <;> first | exact True.intro | rfl | trace_state
  have hst := hst k
  have hex : ¬ VlOk (t.getD k default) → k < t.length → ¬ VlsOk t := fun h h2 hh => h (vls_at hh h2)
  have hfin : k = t.length → VlsOk t := fun h => vls_of fun j hj => hk.2 j (by omega)
  by_cases hkl : k < t.length
  · have hll := hll k
    by_cases hv : VlOk (t.getD k default)
    · refine go (r := ?_); and_intros <;> intros <;> try exact True.intro
      all_goals first | contradiction | (rw [hst]; done) | (rename_i j hj; by_cases h : j = k; (subst h; omega); (have := hk.2 j (by omega); omega)) | trace_state
    · have hn := hex hv hkl
      rw [lnR_no (lfOk_no1 hn)]
      refine go (r := ?_); and_intros <;> intros <;> try exact True.intro
      all_goals first | contradiction | trace_state
  · obtain rfl : k = t.length := by omega
    have hv := hfin rfl
    have hll := hll t.length
    have h128 := syTR_len (lnS t t.length)
    generalize hL : lnS t t.length = L at *
    by_cases hc : CodeOk L
    · have e : syTR L = syTab L := by unfold syTR; rw [if_pos hc]
      have e1 : (syTR L).length = 128 := by rw [e, syTab_len]
      have hnl : (syTR L).length ≠ t.length → ¬ LfOk t := fun h hh => h (by rw [e, ← hL, hh.2.2])
      have hL6 : L.length = 6 := hll
      have hyes : syTR L = t → lnR t = L := fun h => by rw [lnR_yes ⟨hv, by rw [hL]; exact hc, by rw [hL, ← e]; exact h⟩, hL]
      have hno : syTR L ≠ t → lnR t = [] := fun h => lnR_no (fun hh => h (by rw [e, ← hL]; exact hh.2.2))
      have hno2 : (syTR L).length ≠ t.length → lnR t = [] := fun h => hno (fun hh => h (by rw [hh]))
      clear e
      refine go (r := ?_); and_intros <;> intros <;> try exact True.intro
      all_goals first | contradiction | (rw [hno2 (by omega)]; done) | (rw [hno2 (by omega)]; rfl) | skip
      refine WpA.loop (fun k : Nat => ⟨[(0, EnL t), (3, .own 0 0 0 6), (5, .own 1 0 0 (syTR L).length), (6, I k)], [XI L, XE (syTR L)]⟩) (fun k => k ≤ (syTR L).length ∧ ∀ j < k, (syTR L).getD j default = t.getD j default) (fun k => (syTR L).length - k) 0 (by simp) (go (r := ?_)) (fun k hk => ?_)
      · and_intros <;> first | exact True.intro | rfl | trace_state
      have hend : k = (syTR L).length → lnR t = L := fun h => hyes (eq_all default (by omega) (fun j hj => hk.2 j (by omega)))
      refine go (r := ?_); and_intros <;> intros <;> try exact True.intro
      · refine WpL.prNe rfl rfl (by decide) ?_
        refine go (r := ?_); and_intros <;> intros <;> try exact True.intro
        · rename_i hg
          rw [hno (fun hh => hg ⟨by rw [hh], by rw [hh]⟩)]; rfl
        · rename_i hg
          rw [hno (fun hh => hg ⟨by rw [hh], by rw [hh]⟩)]
        · rename_i hg j hj; by_cases h : j = k
          · subst h; exact Prod.ext hg.1 hg.2
          · exact hk.2 j (by omega)
      · rw [hend (by omega)]; exact hL6.symm
      · rw [hend (by omega)]
    · have e : (syTR L).length = 0 := by unfold syTR; rw [if_neg hc]; rfl
      rw [lnR_no (fun h => hc (hL ▸ h.2.1))]
      refine go (r := ?_); and_intros <;> intros <;> try exact True.intro
      all_goals first | contradiction | omega | trace_state⟩

/-! A macroblock out of a cache. -/
abbrev FmOk (p : List UInt8) (s w h : Int) (y t : List Ent) : Prop := LfOk y ∧ CaOk p s w h ∧ t = ueTab
structure FmS where
  s : Int
  w : Int
  h : Int
  e : Bool
  bs : List Blok
  c : Int
def fmS (p : List UInt8) (s w h : Int) (y t : List Ent) : FmS :=
  if FmOk p s w h y t then
    let x := mbS p (plA p s w h) (lnS y y.length)
    let u : Int := (x.1.a + 7) / 8
    ⟨u, numB p x.1.a (8 * u - x.1.a).toNat, 8 * u - x.1.a, x.2, x.1.bs, x.1.c⟩
  else ⟨s, w, h, false, [], 4⟩
theorem fmS_no {p : List UInt8} {s w h : Int} {y t : List Ent} (hf : ¬ FmOk p s w h y t) : fmS p s w h y t = ⟨s, w, h, false, [], 4⟩ := if_neg hf
theorem fmS_yes {p : List UInt8} {s w h : Int} {y t : List Ent} (hf : FmOk p s w h y t) : fmS p s w h y t = ⟨((mbS p (plA p s w h) (lnS y y.length)).1.a + 7) / 8, numB p (mbS p (plA p s w h) (lnS y y.length)).1.a (8 * (((mbS p (plA p s w h) (lnS y y.length)).1.a + 7) / 8) - (mbS p (plA p s w h) (lnS y y.length)).1.a).toNat, 8 * (((mbS p (plA p s w h) (lnS y y.length)).1.a + 7) / 8) - (mbS p (plA p s w h) (lnS y y.length)).1.a, (mbS p (plA p s w h) (lnS y y.length)).2, (mbS p (plA p s w h) (lnS y y.length)).1.bs, (mbS p (plA p s w h) (lnS y y.length)).1.c⟩ := if_pos hf
abbrev FmV (x : FmS) (p : List UInt8) : AV := .tup [CA p x.s x.w x.h, MbV x.e x.bs.length, I x.c]
attribute [local irreducible] mbS numB lnR ueTab
instance FastMb_s : Con 11 (∀ (p : List UInt8) (s w h : Int) (y t : List Ent), p.length ≤ 1099511627776 ∧ y.length ≤ 1099511627776 ∧ t.length ≤ 1099511627776 → Fn 11 [CA p s w h, EnL y, EnL t] [BkO (fmS p s w h y t).bs] (FmV (fmS p s w h y t) p)) := ⟨fun p s w h y t hl => by
  have h6 := lnS_len y y.length
  refine FnC.of_body tabOk Try.func11 Try.ntmps11 rfl (by decide +kernel) (by simp) fun G => ?_
  by_cases hf : FmOk p s w h y t
  · have hy := hf.1
    have hc := hf.2.1
    have ht := hf.2.2
    have e := lnR_yes hy
    have e6 : (lnR y).length = 6 := by rw [e]; exact h6
    have hr : RdOk p (plA p s w h) := by rw [plA_yes hc]; exact ca_rd hc
    have hok := mbS_ok (lens := lnS y y.length) hr
    rw [fmS_yes hf, ← e] at *
    refine go (r := ?_); and_intros <;> intros <;> try exact True.intro
    all_goals first | contradiction | exact hok.1 | exact hok.2 | omega | trace_state
  · rw [fmS_no hf]
    have e : (lnR y).length = 0 ∨ ¬ CaOk p s w h ∨ t ≠ ueTab := by
      by_cases hy : LfOk y
      · by_cases hc : CaOk p s w h
        · exact .inr (.inr fun ht => hf ⟨hy, hc, ht⟩)
        · exact .inr (.inl hc)
      · rw [lnR_no hy]; exact .inl rfl
    rcases e with e | e | e
    all_goals
      refine go (r := ?_); and_intros <;> intros <;> try exact True.intro
    all_goals first | contradiction | omega | trace_state⟩
end Go.Proofs.Ytgkeopmihhcbiaa

/- What an operation makes, whatever names it, is laid into a place kept for it. No condition. -/
namespace Go.Abs
open Go
set_option linter.unusedVariables false
set_option linter.unusedSimpArgs false

/-- The same values; what names the object 'k' (new) names 'j'. -/
inductive Rf (k j e : Nat) : List AV → List AV → Prop
  | nil : Rf k j e [] []
  | keep {V vs us} : V.still = true → V.nofre = true → Rf k j e vs us → Rf k j e (V :: vs) (V :: us)
  | own {k' off len vs us} : k' = k → Rf k j e vs us → Rf k j e (.own k' 0 off len :: vs) (.own j e off len :: us)
  | ptr {k' off vs us} : k' = k → Rf k j e vs us → Rf k j e (.ptr k' 0 off :: vs) (.ptr j e off :: us)
  | agg {ds es vs us} : Rf k j e ds es → Rf k j e vs us → Rf k j e (.agg ds :: vs) (.agg es :: us)
  | tup {ds es vs us} : Rf k j e ds es → Rf k j e vs us → Rf k j e (.tup ds :: vs) (.tup es :: us)
theorem Rf.rel {k j e : Nat} {S w} {ι ι' : Nat → Spot} {O O' : List AObj} {ob ob' : AObj} (ho : O[k]? = some ob) (ho' : O'[j]? = some ob') (he : ob.ep = 0) (he' : ob'.ep = e) (hsz : ob'.size = ob.size) (hι : ι' j = ι k) {vs us : List AV} (h : Rf k j e vs us) : ∀ {xs}, LRel S w ι O vs xs [] → LRel S w ι' O' us xs [] := by
  induction h with
  | nil => intro xs hl; cases hl; exact .nil
  | keep hs hn _ ih =>
    intro xs hl
    obtain ⟨v, vs', f1, f2, rfl, hv, hr, hf⟩ := hl.uncons
    obtain ⟨rfl, rfl⟩ : f1 = [] ∧ f2 = [] := by simpa using hf
    exact LRel.cons (still_any hv hs O' (fun _ h => h) (fun _ _ => rfl) (fun _ _ => rfl)) (ih hr)
  | own hk _ ih =>
    intro xs hl
    subst hk
    cases hl with
    | own q1 q2 q3 r =>
      rw [ho] at q1; cases q1
      exact .own ho' (by omega) (fun _ => by rw [hsz, hι]; exact q3 he.symm) (ih r)
  | ptr hk _ ih =>
    intro xs hl
    subst hk
    cases hl with
    | ptr q1 q2 q3 r =>
      rw [ho] at q1; cases q1
      exact .ptr ho' (by omega) (fun _ => by rw [hι]; exact q3 he.symm) (ih r)
  | agg _ _ ih1 ih2 =>
    intro xs hl
    obtain ⟨v, vs', f1, f2, rfl, hv, hr, hf⟩ := hl.uncons
    obtain ⟨rfl, rfl⟩ : f1 = [] ∧ f2 = [] := by simpa using hf
    obtain ⟨us', rfl, ha⟩ := LRel.agg_inv hv
    simpa using LRel.agg (ih1 ha) (ih2 hr)
  | tup _ _ ih1 ih2 =>
    intro xs hl
    obtain ⟨v, vs', f1, f2, rfl, hv, hr, hf⟩ := hl.uncons
    obtain ⟨rfl, rfl⟩ : f1 = [] ∧ f2 = [] := by simpa using hf
    obtain ⟨us', rfl, ha⟩ := LRel.tup_inv hv
    simpa using LRel.tup (ih1 ha) (ih2 hr)
theorem RelAt.fillV {n m G S ι F T O a w} {d j : Nat} {V V' : AV} {ob oj : AObj} (hV : Rf O.length j (oj.ep + 1) [V] [V']) (hr : RelAt n m G S ι F ⟨(d, V) :: T, O ++ [ob]⟩ a w) (hj : O[j]? = some oj) (hm : m ≤ j) (hob : ob.ep = 0) (hst : ob.cells.all AV.still = true) :
    ∃ ι' F', RelAt n m G S ι' F' ⟨(d, V') :: T, O.set j (ob.putE (oj.ep + 1)) ++ [deadO]⟩ a w := by
  have hjl : j < O.length := (List.getElem?_eq_some_iff.1 hj).1
  have hlast : (O ++ [ob])[O.length]? = some ob := List.getElem?_concat_length
  have hO2 : ∀ i : Nat, (O.set j (ob.putE (oj.ep + 1)) ++ [deadO])[i]? = if i = j then some (ob.putE (oj.ep + 1)) else if i = O.length then some deadO else O[i]? := by
    intro i
    by_cases h1 : i = j
    · subst h1; rw [if_pos rfl, List.getElem?_append_left (by simpa using hjl)]; simp [hjl]
    · rw [if_neg h1]
      have h1' : ¬ j = i := fun e => h1 e.symm
      by_cases h2 : i = O.length
      · subst h2; rw [if_pos rfl, List.getElem?_append_right (by simp)]; simp
      · rw [if_neg h2]
        rcases Nat.lt_or_ge i O.length with h | h
        · rw [List.getElem?_append_left (by simpa using h)]; simp [List.getElem?_set, h1']
        · rw [List.getElem?_eq_none (by simp; omega), List.getElem?_eq_none h]
  have hO1 : ∀ i : Nat, i ≠ O.length → (O ++ [ob])[i]? = O[i]? := by
    intro i hi
    rcases Nat.lt_or_ge i O.length with h | h
    · rw [List.getElem?_append_left h]
    · rw [List.getElem?_eq_none (by simp; omega), List.getElem?_eq_none h]
  have hjn : j ≠ O.length := by omega
  have hlat : Later S w ι (O ++ [ob]) S w (upd (upd ι j (ι O.length)) O.length none) (O.set j (ob.putE (oj.ep + 1)) ++ [deadO]) := by
    refine ⟨fun _ h => h, fun _ _ => rfl, fun i obi hi => ?_⟩
    by_cases h1 : i = j
    · subst h1; rw [hO1 _ hjn, hj] at hi; cases hi
      exact ⟨(ob.putE (oj.ep + 1)), by rw [hO2, if_pos rfl], .inl (Nat.lt_succ_self _)⟩
    · by_cases h2 : i = O.length
      · subst h2; rw [hlast] at hi; cases hi
        exact ⟨deadO, by rw [hO2, if_neg h1, if_pos rfl], .inl (by rw [hob]; exact Nat.lt_succ_self _)⟩
      · rw [hO1 _ h2] at hi
        exact ⟨obi, by rw [hO2, if_neg h1, if_neg h2]; exact hi, .inr ⟨rfl, rfl, by rw [upd_other _ _ h2, upd_other _ _ h1]⟩⟩
  have hn := hr.objs.obj O.length ob hlast
  refine ⟨upd (upd ι j (ι O.length)) O.length none, upd (upd F j (F O.length)) O.length [], hr.defers, hr.size, fun t' => ?_, ⟨fun i obi hi => ?_, fun i hi => ?_, fun i i' hi hi' hii c hcm => ?_⟩, fun i hi c hcm => ?_, hr.base, hr.stable, hr.keeps, fun i hi => ?_, ?_⟩
  · have ht := hr.tmps t'
    by_cases e : d = t'
    · subst e
      have ht : VRel S w ι (O ++ [ob]) (look ((d, V) :: T) d) (a.tmps.getD d undef) [] := ht
      show VRel _ _ _ _ (look ((d, V') :: T) d) _ _
      rw [look_cons_same] at ht ⊢
      exact hV.rel (ob' := ob.putE (oj.ep + 1)) hlast (by rw [hO2, if_pos rfl]) hob rfl rfl (by rw [upd_other _ _ hjn, upd_same]) ht
    · have ht : VRel S w ι (O ++ [ob]) (look ((d, V) :: T) t') (a.tmps.getD t' undef) [] := ht
      show VRel _ _ _ _ (look ((d, V') :: T) t') _ _
      rw [look_cons_other _ _ _ _ e] at ht ⊢
      exact ht.mono hlat (fun _ _ => rfl)
  · have hi : (O.set j (ob.putE (oj.ep + 1)) ++ [deadO])[i]? = some obi := hi
    rw [hO2] at hi
    by_cases e1 : i = j
    · subst e1
      rw [if_pos rfl] at hi; cases hi
      rw [upd_other _ _ hjn, upd_other _ _ hjn, upd_same, upd_same]
      unfold ObjAt at hn ⊢
      cases hs : ι O.length with
      | none => rw [hs] at hn; exact hn
      | some p =>
        obtain ⟨b, k⟩ := p
        rw [hs] at hn
        obtain ⟨cur, t, fz, f', h1, h2, h3, h4, h5, h6, h7⟩ := hn
        have h8 := h7.mono hlat (fun _ _ => rfl)
        rw [hs] at h8
        exact ⟨cur, t, fz, f', h1, h2, h3, h4, h5, h6, h8⟩
    · rw [if_neg e1] at hi
      by_cases e2 : i = O.length
      · subst e2
        rw [if_pos rfl] at hi; cases hi
        rw [upd_same, upd_same]; exact ⟨rfl, rfl⟩
      · rw [if_neg e2] at hi
        rw [upd_other _ _ e2, upd_other _ _ e2, upd_other _ _ e1, upd_other _ _ e1]
        have ho := hr.objs.obj i obi (by show (O ++ [ob])[i]? = _; rw [hO1 _ e2]; exact hi)
        unfold ObjAt at ho ⊢
        cases hs : ι i with
        | none => rw [hs] at ho; exact ho
        | some p =>
          obtain ⟨b, k⟩ := p
          rw [hs] at ho
          obtain ⟨cur, t, fz, f', h1, h2, h3, h4, h5, h6, h7⟩ := ho
          exact ⟨cur, t, fz, f', h1, h2, h3, h4, h5, h6, h7.mono hlat (fun _ _ => rfl)⟩
  · have hi : i < (O.set j (ob.putE (oj.ep + 1)) ++ [deadO]).length := hi
    simp only [List.length_append, List.length_set, List.length_singleton] at hi
    by_cases e2 : i = O.length
    · subst e2; rw [upd_same]; exact List.nodup_nil
    · rw [upd_other _ _ e2]
      by_cases e1 : i = j
      · subst e1; rw [upd_same]; exact hr.objs.nodup O.length (by show O.length < (O ++ [ob]).length; simp)
      · rw [upd_other _ _ e1]; exact hr.objs.nodup i (by show i < (O ++ [ob]).length; simp; omega)
  · have hi : i < (O.set j (ob.putE (oj.ep + 1)) ++ [deadO]).length := hi
    have hi' : i' < (O.set j (ob.putE (oj.ep + 1)) ++ [deadO]).length := hi'
    simp only [List.length_append, List.length_set, List.length_singleton] at hi hi'
    by_cases e2 : i = O.length
    · subst e2; rw [upd_same] at hcm; cases hcm
    · rw [upd_other _ _ e2] at hcm
      by_cases e3 : i' = O.length
      · subst e3; rw [upd_same]; intro h; cases h
      · rw [upd_other _ _ e3]
        have hL : (O ++ [ob]).length = O.length + 1 := by simp
        by_cases e1 : i = j
        · subst e1
          rw [upd_same] at hcm
          rw [upd_other _ _ (fun e => hii e.symm)]
          exact hr.objs.apart O.length i' (by show O.length < (O ++ [ob]).length; omega) (by show i' < (O ++ [ob]).length; omega) (fun e => e3 e.symm) c hcm
        · rw [upd_other _ _ e1] at hcm
          by_cases e4 : i' = j
          · subst e4; rw [upd_same]
            exact hr.objs.apart i O.length (by show i < (O ++ [ob]).length; omega) (by show O.length < (O ++ [ob]).length; omega) e2 c hcm
          · rw [upd_other _ _ e4]
            exact hr.objs.apart i i' (by show i < (O ++ [ob]).length; omega) (by show i' < (O ++ [ob]).length; omega) hii c hcm
  · have hi : i < (O.set j (ob.putE (oj.ep + 1)) ++ [deadO]).length := hi
    simp only [List.length_append, List.length_set, List.length_singleton] at hi
    have hL : (O ++ [ob]).length = O.length + 1 := by simp
    by_cases e2 : i = O.length
    · subst e2; rw [upd_same] at hcm; cases hcm
    · rw [upd_other _ _ e2] at hcm
      by_cases e1 : i = j
      · subst e1; rw [upd_same] at hcm; exact hr.foot O.length (by show O.length < (O ++ [ob]).length; omega) c hcm
      · rw [upd_other _ _ e1] at hcm; exact hr.foot i (by show i < (O ++ [ob]).length; omega) c hcm
  · rw [upd_other _ _ (by omega), upd_other _ _ (by omega)]; exact hr.spots i hi
  · show m ≤ (O.set j (ob.putE (oj.ep + 1)) ++ [deadO]).length
    simp only [List.length_append, List.length_set, List.length_singleton]; omega

section
variable {P : Program} {n m : Nat} {G : Ctx} {O : List AObj} {Q : Exit → St → Prop} {ops : Array Oper}
theorem WpL.putV {T : List (Nat × AV)} {Ov : List AObj} {p d : Nat} {V V' : AV} {ob : AObj} (hV : Rf (O ++ Ov).length (O.length + p) 1 [V] [V']) (hp : Ov[p]? = some roomO) (hm : m ≤ O.length + p) (hob : ob.ep = 0) (hst : ob.cells.all AV.still = true) :
    WpL P n m G false ops [] ⟨(d, V) :: T, O ++ Ov ++ [ob]⟩ (Only ⟨(d, V') :: T, O ++ (Fil.put p ob.put1).run Ov⟩) := by
  refine WpL.weak (σ' := ⟨(d, V') :: T, (O ++ Ov).set (O.length + p) (ob.putE 1) ++ [deadO]⟩) ?_ ?_
  · rintro n' G' a w ⟨S, ι, F, hr⟩
    obtain ⟨ι', F', h⟩ := hr.fillV (V := V) (V' := V') (j := O.length + p) (oj := roomO) hV (fill_at hp) hm hob hst
    exact ⟨S, ι', F', h⟩
  · refine WpL.nil (Only.mk ?_)
    rw [fill_eq]; rfl
end
end Go.Abs
