/- Slices held against nil; contracts in two cases. No condition. -/
import Derived.Test.YtepfjefdbpmobaaAbsS
namespace Go.Abs
open Go
set_option linter.unusedVariables false
set_option linter.unusedSimpArgs false
section
variable {P : Program} {n m : Nat} {G : Ctx} {md : Bool} {T : List (Nat × AV)} {O : List AObj} {Q : Exit → St → Prop} {ops : Array Oper} {l : List Oper} {d : Nat} {tt : TypeId} {pos : String} {after : Array Edge}

theorem run_equal_nil (P : Program) {t e : TypeId} (ht : P.underlying t = some (.slice e)) (w : World) : (Op.equal t (.slice none 0 0) (.slice none 0 0)).run P w = .ok true w := by
  show (Op.equalIn (9999 + 1) t _ _).run P w = _
  rw [Op.equalIn]
  simp only [Sem.run_bind, run_underlying ht, Result.andThen_ok, Sem.run_pure, Option.isNone_none]
theorem run_equal_some (P : Program) {t e : TypeId} (ht : P.underlying t = some (.slice e)) (a : Addr) (k c : Nat) (w : World) : (Op.equal t (.slice (some a) k c) (.slice none 0 0)).run P w = .ok false w := by
  show (Op.equalIn (9999 + 1) t _ _).run P w = _
  rw [Op.equalIn]
  simp only [Sem.run_bind, run_underlying ht, Result.andThen_ok, Sem.run_pure]

theorem WpL.nilEq {t e ty : TypeId} {x y : Operand} (ht : P.underlying t = some (.slice e)) (hx : av T x = .nilS) (hy : av T y = .nilS) (hn : d < n) (h : WpL P n m G md ops l ⟨(d, .sc (.bool true)) :: T, O⟩ Q) :
    WpL P n m G md ops ({ dst := some d, op := .binOp .eql t x y ty, type := tt, pos := pos, after := after, guard := none } :: l) ⟨T, O⟩ Q :=
  WpL.pure rfl rfl hn (fun S ι F a w hr => ⟨.bool true, by
    have e1 : a.eval x = .slice none 0 0 := by
      have := hr.eval x; rw [show av (St.mk T O).T x = _ from hx] at this; exact (LRel.slice_len this).2.2 rfl
    have e2 : a.eval y = .slice none 0 0 := by
      have := hr.eval y; rw [show av (St.mk T O).T y = _ from hy] at this; exact (LRel.slice_len this).2.2 rfl
    simp only [execOp, e1, e2, eqGuard_slice, binOp, Sem.run_bind, run_equal_nil P ht, Result.andThen_ok, Sem.run_pure], .sc .nil⟩) h
theorem WpL.ownEq {t e ty : TypeId} {x y : Operand} {id ep off len : Nat} {ob : AObj} (ht : P.underlying t = some (.slice e)) (hx : av T x = .own id ep off len) (ho : O[id]? = some ob) (he : ob.ep = ep) (hl : 0 < len) (hy : av T y = .nilS) (hn : d < n)
    (h : WpL P n m G md ops l ⟨(d, .sc (.bool false)) :: T, O⟩ Q) :
    WpL P n m G md ops ({ dst := some d, op := .binOp .eql t x y ty, type := tt, pos := pos, after := after, guard := none } :: l) ⟨T, O⟩ Q :=
  WpL.pure rfl rfl hn (fun S ι F a w hr => ⟨.bool false, by
    have e2 : a.eval y = .slice none 0 0 := by
      have := hr.eval y; rw [show av (St.mk T O).T y = _ from hy] at this; exact (LRel.slice_len this).2.2 rfl
    have hv := hr.eval x
    rw [show av (St.mk T O).T x = _ from hx] at hv
    have e1 : ∃ ad c, a.eval x = .slice (some ad) len c := by
      generalize a.eval x = v at hv
      cases hv with
      | own q1 q2 q3 r =>
        have ho' : (St.mk T O).O[id]? = some ob := ho
        rw [ho'] at q1; cases q1
        have := q3 he.symm
        unfold OwnAt at this
        split at this
        · omega
        · obtain ⟨cap, rfl, _⟩ := this; exact ⟨_, _, rfl⟩
    obtain ⟨ad, c, e1⟩ := e1
    simp only [execOp, e1, e2, eqGuard_slice, binOp, Sem.run_bind, run_equal_some P ht, Result.andThen_ok, Sem.run_pure], .sc .nil⟩) h
theorem WpL.pureE {o : Oper} {C : AV → Prop} (hg : o.guard = none) (hd : o.dst = some d) (hn : d < n)
    (hop : ∀ S ι F a w, RelAt n m G S ι F ⟨T, O⟩ a w → ∃ V v, C V ∧ (execOp a.eval o).run P w = .ok (.value v) w ∧ VRel S w ι O V v [])
    (h : ∀ V, C V → WpL P n m G md ops l ⟨(d, V) :: T, O⟩ Q) : WpL P n m G md ops (o :: l) ⟨T, O⟩ Q :=
  match md, h with
  | false, h => fun a w hr => by
    obtain ⟨S, ι, F, hr⟩ := hr
    obtain ⟨V, v, hC, h1, h2⟩ := hop S ι F a w hr
    have h3 := h V hC _ w ⟨S, ι, F, hr.put hn h2⟩
    refine wpList_plain hg fun K hK => ?_
    unfold Oper.wp
    rw [h1]
    exact hK _ _ (by rw [hd]; exact h3)
  | true, h => fun a w hr => by
    obtain ⟨S, ι, F, hr⟩ := hr
    obtain ⟨V, v, hC, h1, h2⟩ := hop S ι F a w hr
    have h3 := h V hC _ w ⟨S, ι, F, hr.put hn h2⟩
    simp only at h3 ⊢
    unfold wpStill
    rw [if_pos (by simp [Region.wanted, hg])]
    unfold Oper.still
    rw [h1, Oper.stillUpon_value, hd]
    exact h3
theorem WpL.immEq {t e ty : TypeId} {x y : Operand} {k len : Nat} {cs : List AV} (ht : P.underlying t = some (.slice e)) (hx : av T x = .imm k len cs) (hy : av T y = .nilS) (hn : d < n)
    (h1 : len = 0 → WpL P n m G md ops l ⟨(d, .sc (.bool true)) :: T, O⟩ Q) (h0 : WpL P n m G md ops l ⟨(d, .sc (.bool false)) :: T, O⟩ Q) :
    WpL P n m G md ops ({ dst := some d, op := .binOp .eql t x y ty, type := tt, pos := pos, after := after, guard := none } :: l) ⟨T, O⟩ Q := by
  have key : ∀ S ι F a w, RelAt n m G S ι F ⟨T, O⟩ a w → ∃ b : Bool, (b = true → len = 0) ∧ (execOp a.eval { dst := some d, op := .binOp .eql t x y ty, type := tt, pos := pos, after := after, guard := none }).run P w = .ok (.value (.bool b)) w := by
    intro S ι F a w hr
    have e2 : a.eval y = .slice none 0 0 := by
      have := hr.eval y; rw [show av (St.mk T O).T y = _ from hy] at this; exact (LRel.slice_len this).2.2 rfl
    have hv := hr.eval x
    rw [show av (St.mk T O).T x = _ from hx] at hv
    obtain ⟨_, h | ⟨b, o, cap, us, h, _⟩⟩ := imm_inv hv
    · obtain ⟨ad, cap, h, ⟨hc, _⟩, hl, _⟩ := h
      cases ad with
      | none =>
        have hc0 := hc rfl
        subst hc0
        exact ⟨true, fun _ => hl, by simp only [execOp, h, e2, eqGuard_slice, binOp, Sem.run_bind, run_equal_nil P ht, Result.andThen_ok, Sem.run_pure]⟩
      | some ad => exact ⟨false, (fun h => by cases h), by simp only [execOp, h, e2, eqGuard_slice, binOp, Sem.run_bind, run_equal_some P ht, Result.andThen_ok, Sem.run_pure]⟩
    · exact ⟨false, (fun h => by cases h), by simp only [execOp, h, e2, eqGuard_slice, binOp, Sem.run_bind, run_equal_some P ht, Result.andThen_ok, Sem.run_pure]⟩
  exact WpL.pureE (C := fun V => V = .sc (.bool true) ∧ len = 0 ∨ V = .sc (.bool false)) rfl rfl hn (fun S ι F a w hr => by
    obtain ⟨b, hb, hrun⟩ := key S ι F a w hr
    cases b with
    | true => exact ⟨_, _, .inl ⟨rfl, hb rfl⟩, hrun, .sc .nil⟩
    | false => exact ⟨_, _, .inr rfl, hrun, .sc .nil⟩) (fun V hV => by
    rcases hV with ⟨rfl, hl⟩ | rfl
    · exact h1 hl
    · exact h0)
end

/-! Parts of a slice of numbers. -/
section
variable {P : Program} {n m : Nat} {G : Ctx} {md : Bool} {T : List (Nat × AV)} {O : List AObj} {Q : Exit → St → Prop} {ops : Array Oper} {l : List Oper} {d : Nat} {tt : TypeId} {pos : String} {after : Array Edge} {tab : List (Nat × Ty)}
theorem WpL.subIntsHi (hP : TabOk P tab) {t e b : Nat} {zs : List AV} {x y : Operand} {len : Nat} {xs : List Int} {kk : IntKind} {j : Int} (ht : tlook tab t = some (.slice e 1 b zs)) (hx : av T x = .imm 1 len (ints xs)) (hy : av T y = .sc (.int kk j)) (hl : len = xs.length)
    (hb : 0 ≤ j ∧ j ≤ xs.length) (hn : d < n) (h : WpL P n m G md ops l ⟨(d, .imm 1 (xs.take j.toNat).length (ints (xs.take j.toNat))) :: T, O⟩ Q) :
    WpL P n m G md ops ({ dst := some d, op := .slice t x none (some y) none, type := tt, pos := pos, after := after, guard := none } :: l) ⟨T, O⟩ Q := by
  subst hl
  refine WpL.subImm hP ht hx (.inl ⟨rfl, rfl⟩) (.inr ⟨_, _, rfl, hy⟩) (by omega) hn ?_
  have e1 : (xs.take j.toNat).length = j.toNat := by simp; omega
  rw [e1] at h
  simpa [ints, List.map_take] using h
theorem WpL.subInts (hP : TabOk P tab) {t e b : Nat} {zs : List AV} {x y z : Operand} {len : Nat} {xs : List Int} {kk k2 : IntKind} {i j : Int} (ht : tlook tab t = some (.slice e 1 b zs)) (hx : av T x = .imm 1 len (ints xs)) (hy : av T y = .sc (.int kk i)) (hz : av T z = .sc (.int k2 j)) (hl : len = xs.length)
    (hb : 0 ≤ i ∧ i ≤ j ∧ j ≤ xs.length) (hn : d < n) (h : WpL P n m G md ops l ⟨(d, .imm 1 ((xs.drop i.toNat).take (j.toNat - i.toNat)).length (ints ((xs.drop i.toNat).take (j.toNat - i.toNat)))) :: T, O⟩ Q) :
    WpL P n m G md ops ({ dst := some d, op := .slice t x (some y) (some z) none, type := tt, pos := pos, after := after, guard := none } :: l) ⟨T, O⟩ Q := by
  subst hl
  refine WpL.subImm hP ht hx (.inr ⟨_, _, rfl, hy⟩) (.inr ⟨_, _, rfl, hz⟩) (by omega) hn ?_
  have e1 : ((xs.drop i.toNat).take (j.toNat - i.toNat)).length = j.toNat - i.toNat := by simp; omega
  rw [e1] at h
  simpa [ints, List.map_take, List.map_drop] using h
end

/-- A contract in two cases. -/
def FnB (P : Program) (f : FuncId) (args : List AV) (p : Prop) (N1 : List AObj) (r1 : AV) (N0 : List AObj) (r0 : AV) : Prop := (p → FnC P f args N1 r1) ∧ (¬ p → FnC P f args N0 r0)
theorem WpL.callB {P : Program} {n m : Nat} {G : Ctx} {T : List (Nat × AV)} {O : List AObj} {Q : Exit → St → Prop} {ops : Array Oper} {l : List Oper} {d : Nat} {tt : TypeId} {pos : String} {after : Array Edge} {f : FuncId} {xs : List Operand} {ats : Array TypeId} {As : List AV} {p : Prop} {N1 N0 : List AObj} {r1 r0 r1' r0' : AV} {id : Nat} (hc : FnB P f As p N1 r1 N0 r0) (hs : Snap O (xs.map (av T)) As)
    (hl1 : Loc [r1]) (hN1 : Out N1) (hl0 : Loc [r0]) (hN0 : Out N0) (hid : cnt O.length 0 = some id) (hok1 : r1.shOk = true) (hre1 : r1.shF id = some r1') (hok0 : r0.shOk = true) (hre0 : r0.shF id = some r0') (hn : d < n)
    (h1 : p → WpL P n m G false ops l ⟨(d, r1') :: T, O ++ N1⟩ Q) (h0 : ¬ p → WpL P n m G false ops l ⟨(d, r0') :: T, O ++ N0⟩ Q) :
    WpL P n m G false ops ({ dst := some d, op := .call { callee := .value (.func f), args := xs.toArray, argTypes := ats }, type := tt, pos := pos, after := after, guard := none } :: l) ⟨T, O⟩ Q := by
  by_cases hp : p
  · exact WpL.callF (hc.1 hp) hs hl1 hN1 hid hok1 hre1 hn (h1 hp)
  · exact WpL.callF (hc.2 hp) hs hl0 hN0 hid hok0 hre0 hn (h0 hp)
end Go.Abs
