/- Contracts: the matrix of signs. No condition. -/
import Derived.Test.YtepfjefdbpmobaaMat2
import Derived.Test.YtepfjefdbpmobaaAbsRoll
namespace Go.Proofs.Ytepfjefdbpmobaa
open Go Go.Abs
set_option linter.unusedVariables false
set_option linter.unusedSimpArgs false
set_option maxRecDepth 100000
set_option maxHeartbeats 4000000
attribute [local irreducible] WpA WpL Rnd Blk Abs.Seq Abs.Fin Abs.FinG FnC FnG Only RollN

def ocF (x : Int) : Int := if x = 1 ∨ x = 2 ∨ x = 4 then 1 else if x = 3 ∨ x = 5 ∨ x = 6 then 2 else if x = 7 then 3 else 0
instance OnesCount64_c : Con 180 (∀ x : Int, 0 ≤ x ∧ x < 8 → Fn 180 [.sc (.int .u64 x)] [] (I (ocF x))) := ⟨fun x hx => by
  rcases (by omega : x = 0 ∨ x = 1 ∨ x = 2 ∨ x = 3 ∨ x = 4 ∨ x = 5 ∨ x = 6 ∨ x = 7) with rfl | rfl | rfl | rfl | rfl | rfl | rfl | rfl
  all_goals refine FnC.of_body tabOk Try.func180 Try.ntmps180 rfl (by decide +kernel) (by simp) fun G => ?_
  all_goals refine go (r := ?_); and_intros <;> intros <;> try exact True.intro
  all_goals first | (decide +kernel) | rfl | (apply Re.setA (c := cellsH r) (V := .own 2 _ 0 _) (V' := .own 2 _ 0 _); (· apply Re.own (id := 2) <;> first | exact rfl | exact .nil); exact hst)⟩
instance OnesCount_c : Con 160 (∀ x : Int, 0 ≤ x ∧ x < 8 → Fn 160 [.sc (.int .u64 x)] [] (I (ocF x))) := ⟨fun x hx => by
  refine FnC.of_body tabOk Try.func160 Try.ntmps160 rfl (by decide +kernel) (by simp) fun G => ?_
  refine go (r := ?_); and_intros <;> intros <;> try exact True.intro⟩
theorem ocF_bd (x : Int) : 0 ≤ ocF x ∧ ocF x ≤ 3 := by unfold ocF; split <;> (try split) <;> (try split) <;> omega
theorem ocF_par (b : Nat) (h : b < 8) : 1 - 2 * (ocF b % 2) = par b := by
  rcases (by omega : b = 0 ∨ b = 1 ∨ b = 2 ∨ b = 3 ∨ b = 4 ∨ b = 5 ∨ b = 6 ∨ b = 7) with rfl | rfl | rfl | rfl | rfl | rfl | rfl | rfl <;> rfl
def cellsH (r : Nat) : List AV := (List.range 8).map fun q => if q < r then .fre 1 8 (ints (tabL (mx 8 q) 8)) else .nilS
theorem andu (r k : Nat) (h : r < 8) (h2 : k < 8) : IntKind.u64.wrap (IntKind.i64.wrap ((BitVec.ofInt IntKind.i64.bits (r : Int) &&& BitVec.ofInt IntKind.i64.bits (k : Int)).toNat : Nat)) = ((r &&& k : Nat) : Int) ∧ r &&& k < 8 := by
  have := Nat.and_le_left (n := r) (m := k)
  rw [andw r k (by omega) (by omega)]
  refine ⟨?_, by omega⟩
  generalize r &&& k = b at this
  have hb : b < 8 := by omega
  rcases (by omega : b = 0 ∨ b = 1 ∨ b = 2 ∨ b = 3 ∨ b = 4 ∨ b = 5 ∨ b = 6 ∨ b = 7) with rfl | rfl | rfl | rfl | rfl | rfl | rfl | rfl <;> rfl
def invH (r : Nat) : Nat → List AObj
  | 0 => [⟨(cellsH r).set r .nilS, 0, 1, some 22⟩]
  | k + 1 => [⟨(cellsH r).set r (.own 2 0 0 (k + 1)), 0, 1, some 22⟩, ⟨[.any], 0, 1, none⟩, XI (tabL (mx 8 r) (k + 1))]
theorem cellsH_nil {r : Nat} (h : r < 8) : cellsH r = (cellsH r).set r .nilS := by
  rcases (by omega : r = 0 ∨ r = 1 ∨ r = 2 ∨ r = 3 ∨ r = 4 ∨ r = 5 ∨ r = 6 ∨ r = 7) with rfl | rfl | rfl | rfl | rfl | rfl | rfl | rfl <;> rfl
theorem cellsH_succ {r : Nat} (h : r < 8) (X : AV) : ((cellsH r).set r X).set r (.fre 1 8 (ints (tabL (mx 8 r) 8))) = cellsH (r + 1) := by
  rcases (by omega : r = 0 ∨ r = 1 ∨ r = 2 ∨ r = 3 ∨ r = 4 ∨ r = 5 ∨ r = 6 ∨ r = 7) with rfl | rfl | rfl | rfl | rfl | rfl | rfl | rfl <;> rfl
theorem hnest {r : Nat} (h : r < 8) : flatO [⟨((cellsH r).set r (.own 2 0 0 8)).set r (.fre 1 8 (ints (tabL (mx 8 r) 8))), 0, 1, some 22⟩, ⟨[.any], 0, 1, none⟩, ⟨[], 1, 0, none⟩] = some [⟨cellsH (r + 1), 0, 1, some 22⟩, ⟨[.any], 0, 1, none⟩, ⟨[], 1, 0, none⟩] := by
  rw [cellsH_succ h]; rfl
theorem Re.consA {O O' : List AObj} {V V' : AV} {vs us : List AV} (h : Re O O' [V] [V']) (r : Re O O' vs us) : Re O O' (V :: vs) (V' :: us) := by
  cases h with
  | any _ => exact .any r
  | keep a b _ => exact .keep a b r
  | fn a _ => exact .fn a r
  | own a b c d e f _ => exact .own a b c d e f r
  | ptr a b c d _ => exact .ptr a b c d r
  | agg a _ => exact .agg a r
  | tup a _ => exact .tup a r
theorem Re.setA {O O' : List AObj} {V V' : AV} (h : Re O O' [V] [V']) : ∀ {c : List AV} {i : Nat}, c.all AV.still = true → Re O O' (c.set i V) (c.set i V')
  | [], i, _ => .nil
  | a :: c, 0, hs => Re.consA h (Re.same rfl (by rw [List.all_cons, Bool.and_eq_true] at hs; exact hs.2))
  | a :: c, i + 1, hs => by
    rw [List.all_cons, Bool.and_eq_true] at hs
    exact Re.keep rfl hs.1 (Re.setA h hs.2)
theorem cellsH_still (r : Nat) : (cellsH r).all AV.still = true := by
  rw [List.all_eq_true]; intro V hV; simp only [cellsH, List.mem_map] at hV; obtain ⟨q, _, rfl⟩ := hV
  split <;> rfl
theorem cellsH_len (r : Nat) : (cellsH r).length = 8 := by simp [cellsH]
theorem cellsH_8 : cellsH 8 = rows liF H8 := rfl
theorem cellsH_0 : cellsH 0 = [.nilS, .nilS, .nilS, .nilS, .nilS, .nilS, .nilS, .nilS] := rfl
attribute [local irreducible] cellsH
instance matrixH_c : Con 130 (Fn 130 [] [⟨rows liF H8, 0, 1, some 22⟩] (.own 0 0 0 8)) := ⟨by
  refine FnC.of_body tabOk Try.func130 Try.ntmps130 rfl (by decide +kernel) (by simp) fun G => ?_
  refine K.A ?_
  refine WpA.seq ?_
  refine WpA.regionF rfl ?_
  refine WpL.assign rfl (by decide) ?_
  refine WpL.nil ?_
  refine Abs.Seq.n ?_
  refine WpA.seq ?_
  refine WpA.regionF rfl ?_
  refine WpL.make tabOk rfl rfl rfl (by decide) (by decide) rfl (by decide) ?_
  refine go (r := ?_); and_intros <;> intros <;> try exact True.intro
  refine WpA.loop (fun r : Nat => ⟨[(1, .own 0 0 0 8), (5, I r)], [⟨cellsH r, 0, 1, some 22⟩]⟩) (fun r => r ≤ 8) (fun r => 8 - r) 0 (by omega) (go (r := ?_)) (fun r hr => ?_)
  · and_intros <;> first | trivial | rfl | exact .nil | exact .inr rfl | exact Re.same cellsH_0.symm (cellsH_still 0) | trace_state
  by_cases h8 : r = 8
  · subst h8
    refine go (r := ?_); and_intros <;> intros <;> try exact True.intro
    all_goals first | exact cellsH_8 | trace_state
  have hr8 : r < 8 := by omega
  have hcl := cellsH_len r
  have hst := cellsH_still r
  have hc0 := cellsH_nil hr8
  refine go (r := ?_); and_intros <;> intros <;> try exact True.intro
  refine WpA.loop (fun k : Nat => ⟨[(1, .own 0 0 0 8), (2, I r), (5, I r), (8, I k)], invH r k⟩) (fun k => k ≤ 8) (fun k => 8 - k) 0 (by omega) (go (r := ?_)) (fun k hk => ?_)
  · and_intros <;> first | trivial | rfl | exact .nil | exact .inr rfl | (exact hc0) | exact Re.same hc0 (by rw [← hc0]; exact hst) | trace_state
  by_cases hk8 : k = 8
  · subst hk8
    refine WpA.weak (NestC.weak (id := 0) (offs := [r]) (O2 := [⟨cellsH (r + 1), 0, 1, some 22⟩, ⟨[.any], 0, 1, none⟩, ⟨[], 1, 0, none⟩]) ?_) ?_
    · apply NestC.cons (off := r) (j := 2) (O1 := [⟨cellsH (r + 1), 0, 1, some 22⟩, ⟨[.any], 0, 1, none⟩, ⟨[], 1, 0, none⟩])
      · exact rfl
      · exact List.getElem?_set_self (by omega)
      · exact rfl
      · exact rfl
      · decide
      · exact rfl
      · exact still_ints _
      · exact rfl
      · exact hnest hr8
      · exact .nil
    have hst1 := cellsH_still (r + 1)
    refine go (r := ?_); and_intros <;> intros <;> try exact True.intro
    all_goals first | exact Re.same rfl hst1 | trace_state
  obtain ⟨hau, hal⟩ := andu r k (by omega) (by omega)
  have hob := ocF_bd (IntKind.u64.wrap (IntKind.i64.wrap ((BitVec.ofInt IntKind.i64.bits ((r : Nat) : Int) &&& BitVec.ofInt IntKind.i64.bits (k : Int)).toNat : Nat)))
  have hop := ocF_par (r &&& k) hal
  have hkl := tabL_len (mx 8 r) k
  have hval : 1 - 2 * (ocF (IntKind.u64.wrap (IntKind.i64.wrap ((BitVec.ofInt IntKind.i64.bits ((r : Nat) : Int) &&& BitVec.ofInt IntKind.i64.bits (k : Int)).toNat : Nat))) % 2) = mx 8 r k := by rw [hau]; exact hop
  rcases k with _ | k
  · refine go (r := ?_); and_intros <;> intros <;> try exact True.intro
    all_goals first | exact Re.any Re.nil | exact .inl rfl | (rw [hval]; rfl) | (apply Re.setA (c := cellsH r) (V := .own 2 _ 0 _) (V' := .own 2 _ 0 _); (· apply Re.own (id := 2) <;> first | exact rfl | exact .nil); exact hst) | exact Re.same rfl hst | trace_state
  · refine go (r := ?_); and_intros <;> intros <;> try exact True.intro
    all_goals first | (rw [tabL_snoc _ (k + 1), hval]; done) | exact Re.any Re.nil | (apply Re.setA (c := cellsH r) (V := .own 2 _ 0 _) (V' := .own 2 _ 0 _); (· apply Re.own (id := 2) <;> first | exact rfl | exact .nil); exact hst) | (apply Re.setA (c := cellsH r) (V := .own 2 _ 0 _) (V' := .own 2 _ 0 _); (· apply Re.own (id := 2) <;> first | exact rfl | exact .nil); exact hst)⟩
end Go.Proofs.Ytepfjefdbpmobaa
