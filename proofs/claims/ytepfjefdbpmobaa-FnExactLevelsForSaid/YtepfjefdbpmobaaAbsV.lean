/- Function values; slices of slices written out. No condition. -/
import Derived.Test.YtepfjefdbpmobaaAbsU
namespace Go.Abs
open Go
set_option linter.unusedVariables false
set_option linter.unusedSimpArgs false
section
variable {P : Program} {n m : Nat} {G : Ctx} {T : List (Nat × AV)} {O : List AObj} {Q : Exit → St → Prop} {ops : Array Oper} {l : List Oper} {d : Nat} {tt : TypeId} {pos : String} {after : Array Edge} {tab : List (Nat × Ty)}
theorem WpL.makeFunc {f : FuncId} {xs : List Operand} {cs : List AV} (hcs : xs.map (av T) = cs) (hn : d < n) (h : WpL P n m G false ops l ⟨(d, .fn f cs) :: T, O⟩ Q) :
    WpL P n m G false ops ({ dst := some d, op := .makeFunc (.func f) #[] xs.toArray, type := tt, pos := pos, after := after, guard := none } :: l) ⟨T, O⟩ Q :=
  WpL.value rfl (fun a w hr => by
    subst hcs
    obtain ⟨S, ι, F, hr⟩ := hr
    refine ⟨.func (.func f) #[] (xs.map a.eval).toArray, w, ?_, S, ι, F, hr.put hn (.fn (hr.evals xs) .nil)⟩
    simp [execOp, Instr.makeFunc, Sem.run_bind, Sem.run, Result.andThen_ok]) h
/-- A call of a function value whose contract makes no objects; one that makes some. -/
theorem WpL.callV0 {f : FuncId} {x : Operand} {caps : List AV} {xs : List Operand} {ats : Array TypeId} {As Vs : List AV} {r r' : AV} (hx : av T x = .fn f caps) (hc : FnC P f As [] r) (hcat : catF (xs.map (av T)) caps = some Vs) (hs : Snap O Vs As) (hloc : Loc [r])
    (hok : r.flat = true) (hre : r.force = some r') (hn : d < n) (h : WpL P n m G false ops l ⟨(d, r') :: T, O⟩ Q) :
    WpL P n m G false ops ({ dst := some d, op := .call { callee := .value x, args := xs.toArray, argTypes := ats }, type := tt, pos := pos, after := after, guard := none } :: l) ⟨T, O⟩ Q := by
  have := catF_eq hcat; subst this
  have hsh := AV.flat_sh O.length r hok
  refine WpL.callV hx hc hs hloc .nil (id := O.length) (by rw [nid_len]; simp) hsh.1 (by rw [hsh.2]; exact hre) hn ?_
  rw [List.append_nil]; exact h
theorem WpL.callVF {f : FuncId} {x : Operand} {caps : List AV} {xs : List Operand} {ats : Array TypeId} {As Vs : List AV} {N : List AObj} {r r' : AV} {id : Nat} (hx : av T x = .fn f caps) (hc : FnC P f As N r) (hcat : catF (xs.map (av T)) caps = some Vs) (hs : Snap O Vs As) (hloc : Loc [r]) (hN : Out N)
    (hid : cnt O.length 0 = some id) (hok : r.shOk = true) (hre : r.shF id = some r') (hn : d < n) (h : WpL P n m G false ops l ⟨(d, r') :: T, O ++ N⟩ Q) :
    WpL P n m G false ops ({ dst := some d, op := .call { callee := .value x, args := xs.toArray, argTypes := ats }, type := tt, pos := pos, after := after, guard := none } :: l) ⟨T, O⟩ Q := by
  have := catF_eq hcat; subst this
  have e : id = O.length := by have := cnt_eq hid; omega
  subst e
  exact WpL.callV hx hc hs hloc hN (id := O.length) (by rw [nid_len, Nat.zero_add]) hok (by rw [AV.shF_eq _ _ _ hre]; exact AV.force_some _) hn h
end

/-! Slices of slices of numbers, written out. -/
inductive NestC (m id : Nat) : List Nat → List AObj → List AObj → Prop
  | nil {O} : NestC m id [] O O
  | cons {off offs O O1 O2 j epj len ob oj} (ho : O[id]? = some ob) (hc : ob.cells[off]? = some (.own j epj 0 len)) (hj : O[j]? = some oj) (hne : Nat.beq id j = false) (hm : m ≤ j) (hep : oj.ep = epj) (hst : oj.cells.all AV.still = true)
      (hlen : len * oj.size = oj.cells.length) (h1 : flatO ((O.set id ⟨ob.cells.set off (.fre oj.size len oj.cells), ob.ep, ob.size, ob.ty⟩).set j ⟨[], oj.ep + 1, 0, none⟩) = some O1) (r : NestC m id offs O1 O2) : NestC m id (off :: offs) O O2
theorem NestC.weak {m id : Nat} {offs : List Nat} {O O2 : List AObj} (h : NestC m id offs O O2) {T : List (Nat × AV)} : Weak m ⟨T, O⟩ ⟨T, O2⟩ := by
  induction h with
  | nil => exact fun n G a w h => h
  | cons ho hc hj hne hm hep hst hlen h1 _ ih =>
    have := flatO_eq h1; subst this
    exact (Weak.nest ho hj hne hm hc hep hst hlen).trans ih
def toLis : List AV → Option (List (List Int))
  | [] => some []
  | .fre 1 len cs :: r => match toInts cs with
    | none => none
    | some v => match Nat.beq len v.length with
      | false => none
      | true => match toLis r with
        | none => none
        | some rs => some (v :: rs)
  | _ => none
theorem toLis_eq : ∀ {cs : List AV} {M : List (List Int)}, toLis cs = some M → cs = rows liF M
  | [], M, h => by simp [toLis] at h; subst h; rfl
  | .fre 1 len cs :: r, M, h => by
    rw [toLis] at h
    cases hv : toInts cs with
    | none => rw [hv] at h; cases h
    | some v =>
      rw [hv] at h
      cases hb : Nat.beq len v.length with
      | false => simp only [hb] at h; cases h
      | true =>
        simp only [hb] at h
        cases hr : toLis r with
        | none => simp only [hr] at h; cases h
        | some rs =>
          simp only [hr] at h
          cases h
          have e1 := toInts_eq hv
          have e2 := Nat.eq_of_beq_eq_true hb
          subst e1 e2
          rw [toLis_eq hr, rows_cons]; rfl
  | .fre 0 _ _ :: _, _, h => by simp [toLis] at h
  | .fre (_ + 2) _ _ :: _, _, h => by simp [toLis] at h
  | .any :: _, _, h => by simp [toLis] at h
  | .sc _ :: _, _, h => by simp [toLis] at h
  | .agg _ :: _, _, h => by simp [toLis] at h
  | .tup _ :: _, _, h => by simp [toLis] at h
  | .nilS :: _, _, h => by simp [toLis] at h
  | .imm _ _ _ :: _, _, h => by simp [toLis] at h
  | .own _ _ _ _ :: _, _, h => by simp [toLis] at h
  | .ptr _ _ _ :: _, _, h => by simp [toLis] at h
  | .iptr _ _ :: _, _, h => by simp [toLis] at h
  | .fn _ _ :: _, _, h => by simp [toLis] at h
  | .ifc _ _ :: _, _, h => by simp [toLis] at h
section
variable {P : Program} {n m : Nat} {G : Ctx} {T : List (Nat × AV)} {O : List AObj} {Q : Exit → St → Prop} {ops : Array Oper} {l : List Oper} {d : Nat} {tt : TypeId} {pos : String} {after : Array Edge} {tab : List (Nat × Ty)}
theorem WpL.litLis (hP : TabOk P tab) {t e b len id : Nat} {zs cs cs2 : List AV} {parts : List (Nat × Operand)} {offs : List Nat} {O2 : List AObj} {M : List (List Int)} (ht : tlook tab t = some (.slice e 1 b zs)) (hidx : parts.map (·.1) = List.range' 0 parts.length) (hlen : parts.length = len)
    (hlit : litC T O 1 (parts.map (·.2)) = some cs) (hsm : len * 1 ≤ 16777216) (hid : nid O 0 = some id) (hoffs : parts.map (·.1) = offs) (hO : toInts cs = none) (hn : d < n) (hw : NestC m id offs (O ++ [⟨cs, 0, 1, some e⟩]) O2) (h2 : O2[id]? = some ⟨cs2, 0, 1, some e⟩) (hM : toLis cs2 = some M)
    (h : WpL P n m G false ops l ⟨(d, .own id 0 0 len) :: T, O2.set id ⟨rows liF M, 0, 1, some e⟩⟩ Q) :
    WpL P n m G false ops ({ dst := some d, op := .buildSlice t len parts.toArray, type := tt, pos := pos, after := after, guard := none } :: l) ⟨T, O⟩ Q := by
  refine WpL.litF hP ht hidx hlen hlit hsm hid hn (WpL.weak hw.weak ?_)
  have e1 := toLis_eq hM
  have e2 : O2.set id ⟨rows liF M, 0, 1, some e⟩ = O2 := by
    rw [← e1]
    apply List.ext_getElem?
    intro i
    by_cases hi : i = id
    · subst hi; rw [List.getElem?_set_self (List.getElem?_eq_some_iff.1 h2).1, h2]
    · rw [List.getElem?_set_ne (by omega)]
  rw [e2] at h; exact h
end
end Go.Abs
namespace Go.Abs.K
open Go Go.Abs
variable {P : Program} {n m : Nat} {G : Ctx} {σ : St} {Q : Exit → St → Prop} {md : Bool} {ops : Array Oper} {l : List Oper} {dd : Option Nat} {tt : TypeId} {pos : String} {after : Array Edge}
theorem callT {t : Nat} {xs : Array Operand} {ats : Array TypeId} (h : WpL P n m G md ops ({ dst := dd, op := .call { callee := .value (.tmp t), args := xs, argTypes := ats }, type := tt, pos := pos, after := after, guard := none } :: l) σ Q) : WpL P n m G md ops ({ dst := dd, op := .call { callee := .value (.tmp t), args := xs, argTypes := ats }, type := tt, pos := pos, after := after, guard := none } :: l) σ Q := h
theorem mkF {f : FuncId} {xs ys : Array Operand} (h : WpL P n m G md ops ({ dst := dd, op := .makeFunc (.func f) xs ys, type := tt, pos := pos, after := after, guard := none } :: l) σ Q) : WpL P n m G md ops ({ dst := dd, op := .makeFunc (.func f) xs ys, type := tt, pos := pos, after := after, guard := none } :: l) σ Q := h
end Go.Abs.K
