/- Proved in this text: lemmas and contracts of functions that the claim uses (parts: AbsV, AbsW, Tab, AbsX). No condition. -/
import Derived.Test.YtpokokcgoebbhaaPbM5
import Derived.Laws.Tables
import Derived.Test.YtpokokcgoebbhaaProg
import Derived.KernelRfl
import Derived.Lib.AppendZeros

/- Function values; slices of slices written out. No condition. -/
namespace Go.Abs
open Go
set_option linter.unusedVariables false
set_option linter.unusedSimpArgs false
section
variable {P : Program} {n m : Nat} {G : Ctx} {T : List (Nat × AV)} {O : List AObj} {Q : Exit → St → Prop} {ops : Array Oper} {l : List Oper} {d : Nat} {tt : TypeId} {pos : String} {after : Array Edge} {tab : List (Nat × Ty)}
theorem WpL.makeFunc {f : FuncId} {xs : List Operand} {cs : List AV} (hcs : xs.map (av T) = cs) (hn : d < n) (h : WpL P n m G false ops l ⟨(d, .fn f cs) :: T, O⟩ Q) :
    WpL P n m G false ops ({ dst := some d, op := .makeFunc (.func f) #[] xs.toArray, type := tt, pos := pos, after := after, guard := none } :: l) ⟨T, O⟩ Q :=
  WpL.value rfl (fun a w hr => by
    subst hcs
    obtain ⟨S, ι, F, hr⟩ := hr
    refine ⟨.func (.func f) #[] (xs.map a.eval).toArray, w, ?_, S, ι, F, hr.put hn (.fn (hr.evals xs) .nil)⟩
    simp [execOp, Instr.makeFunc, Sem.run_bind, Sem.run, Result.andThen_ok]) h
/-- A call of a function value whose contract makes no objects; one that makes some. -/
theorem WpL.callV0 {f : FuncId} {x : Operand} {caps : List AV} {xs : List Operand} {ats : Array TypeId} {As Vs : List AV} {r r' : AV} (hx : av T x = .fn f caps) (hc : FnC P f As [] r) (hcat : catF (xs.map (av T)) caps = some Vs) (hs : Snap O Vs As) (hloc : Loc [r])
    (hok : r.flat = true) (hre : r.force = some r') (hn : d < n) (h : WpL P n m G false ops l ⟨(d, r') :: T, O⟩ Q) :
    WpL P n m G false ops ({ dst := some d, op := .call { callee := .value x, args := xs.toArray, argTypes := ats }, type := tt, pos := pos, after := after, guard := none } :: l) ⟨T, O⟩ Q := by
  have := catF_eq hcat; subst this
  have hsh := AV.flat_sh O.length r hok
  refine WpL.callV hx hc hs hloc .nil (id := O.length) (by rw [nid_len]; simp) hsh.1 (by rw [hsh.2]; exact hre) hn ?_
  rw [List.append_nil]; exact h
theorem WpL.callVF {f : FuncId} {x : Operand} {caps : List AV} {xs : List Operand} {ats : Array TypeId} {As Vs : List AV} {N : List AObj} {r r' : AV} {id : Nat} (hx : av T x = .fn f caps) (hc : FnC P f As N r) (hcat : catF (xs.map (av T)) caps = some Vs) (hs : Snap O Vs As) (hloc : Loc [r]) (hN : Out N)
    (hid : cnt O.length 0 = some id) (hok : r.shOk = true) (hre : r.shF id = some r') (hn : d < n) (h : WpL P n m G false ops l ⟨(d, r') :: T, O ++ N⟩ Q) :
    WpL P n m G false ops ({ dst := some d, op := .call { callee := .value x, args := xs.toArray, argTypes := ats }, type := tt, pos := pos, after := after, guard := none } :: l) ⟨T, O⟩ Q := by
  have := catF_eq hcat; subst this
  have e : id = O.length := by have := cnt_eq hid; omega
  subst e
  exact WpL.callV hx hc hs hloc hN (id := O.length) (by rw [nid_len, Nat.zero_add]) hok (by rw [AV.shF_eq _ _ _ hre]; exact AV.force_some _) hn h
end

/-! Slices of slices of numbers, written out. -/
inductive NestC (m id : Nat) : List Nat → List AObj → List AObj → Prop
  | nil {O} : NestC m id [] O O
  | cons {off offs O O1 O2 j epj len ob oj} (ho : O[id]? = some ob) (hc : ob.cells[off]? = some (.own j epj 0 len)) (hj : O[j]? = some oj) (hne : Nat.beq id j = false) (hm : m ≤ j) (hep : oj.ep = epj) (hst : oj.cells.all AV.still = true)
      (hlen : len * oj.size = oj.cells.length) (h1 : flatO ((O.set id ⟨ob.cells.set off (.fre oj.size len oj.cells), ob.ep, ob.size, ob.ty⟩).set j ⟨[], oj.ep + 1, 0, none⟩) = some O1) (r : NestC m id offs O1 O2) : NestC m id (off :: offs) O O2
theorem NestC.weak {m id : Nat} {offs : List Nat} {O O2 : List AObj} (h : NestC m id offs O O2) {T : List (Nat × AV)} : Weak m ⟨T, O⟩ ⟨T, O2⟩ := by
  induction h with
  | nil => exact fun n G a w h => h
  | cons ho hc hj hne hm hep hst hlen h1 _ ih =>
    have := flatO_eq h1; subst this
    exact (Weak.nest ho hj hne hm hc hep hst hlen).trans ih
def toLis : List AV → Option (List (List Int))
  | [] => some []
  | .fre 1 len cs :: r => match toInts cs with
    | none => none
    | some v => match Nat.beq len v.length with
      | false => none
      | true => match toLis r with
        | none => none
        | some rs => some (v :: rs)
  | _ => none
theorem toLis_eq : ∀ {cs : List AV} {M : List (List Int)}, toLis cs = some M → cs = rows liF M
  | [], M, h => by simp [toLis] at h; subst h; rfl
  | .fre 1 len cs :: r, M, h => by
    rw [toLis] at h
    cases hv : toInts cs with
    | none => rw [hv] at h; cases h
    | some v =>
      rw [hv] at h
      cases hb : Nat.beq len v.length with
      | false => simp only [hb] at h; cases h
      | true =>
        simp only [hb] at h
        cases hr : toLis r with
        | none => simp only [hr] at h; cases h
        | some rs =>
          simp only [hr] at h
          cases h
          have e1 := toInts_eq hv
          have e2 := Nat.eq_of_beq_eq_true hb
          subst e1 e2
          rw [toLis_eq hr, rows_cons]; rfl
  | .fre 0 _ _ :: _, _, h => by simp [toLis] at h
  | .fre (_ + 2) _ _ :: _, _, h => by simp [toLis] at h
  | .any :: _, _, h => by simp [toLis] at h
  | .sc _ :: _, _, h => by simp [toLis] at h
  | .agg _ :: _, _, h => by simp [toLis] at h
  | .tup _ :: _, _, h => by simp [toLis] at h
  | .nilS :: _, _, h => by simp [toLis] at h
  | .imm _ _ _ :: _, _, h => by simp [toLis] at h
  | .own _ _ _ _ :: _, _, h => by simp [toLis] at h
  | .ptr _ _ _ :: _, _, h => by simp [toLis] at h
  | .iptr _ _ :: _, _, h => by simp [toLis] at h
  | .fn _ _ :: _, _, h => by simp [toLis] at h
  | .ifc _ _ :: _, _, h => by simp [toLis] at h
section
variable {P : Program} {n m : Nat} {G : Ctx} {T : List (Nat × AV)} {O : List AObj} {Q : Exit → St → Prop} {ops : Array Oper} {l : List Oper} {d : Nat} {tt : TypeId} {pos : String} {after : Array Edge} {tab : List (Nat × Ty)}
theorem WpL.litLis (hP : TabOk P tab) {t e b len id : Nat} {zs cs cs2 : List AV} {parts : List (Nat × Operand)} {offs : List Nat} {O2 : List AObj} {M : List (List Int)} (ht : tlook tab t = some (.slice e 1 b zs)) (hidx : parts.map (·.1) = List.range' 0 parts.length) (hlen : parts.length = len)
    (hlit : litC T O 1 (parts.map (·.2)) = some cs) (hsm : len * 1 ≤ 16777216) (hid : nid O 0 = some id) (hoffs : parts.map (·.1) = offs) (hO : toInts cs = none) (hn : d < n) (hw : NestC m id offs (O ++ [⟨cs, 0, 1, some e⟩]) O2) (h2 : O2[id]? = some ⟨cs2, 0, 1, some e⟩) (hM : toLis cs2 = some M)
    (h : WpL P n m G false ops l ⟨(d, .own id 0 0 len) :: T, O2.set id ⟨rows liF M, 0, 1, some e⟩⟩ Q) :
    WpL P n m G false ops ({ dst := some d, op := .buildSlice t len parts.toArray, type := tt, pos := pos, after := after, guard := none } :: l) ⟨T, O⟩ Q := by
  refine WpL.litF hP ht hidx hlen hlit hsm hid hn (WpL.weak hw.weak ?_)
  have e1 := toLis_eq hM
  have e2 : O2.set id ⟨rows liF M, 0, 1, some e⟩ = O2 := by
    rw [← e1]
    apply List.ext_getElem?
    intro i
    by_cases hi : i = id
    · subst hi; rw [List.getElem?_set_self (List.getElem?_eq_some_iff.1 h2).1, h2]
    · rw [List.getElem?_set_ne (by omega)]
  rw [e2] at h; exact h
end
end Go.Abs
namespace Go.Abs.K
open Go Go.Abs
variable {P : Program} {n m : Nat} {G : Ctx} {σ : St} {Q : Exit → St → Prop} {md : Bool} {ops : Array Oper} {l : List Oper} {dd : Option Nat} {tt : TypeId} {pos : String} {after : Array Edge}
theorem callT {t : Nat} {xs : Array Operand} {ats : Array TypeId} (h : WpL P n m G md ops ({ dst := dd, op := .call { callee := .value (.tmp t), args := xs, argTypes := ats }, type := tt, pos := pos, after := after, guard := none } :: l) σ Q) : WpL P n m G md ops ({ dst := dd, op := .call { callee := .value (.tmp t), args := xs, argTypes := ats }, type := tt, pos := pos, after := after, guard := none } :: l) σ Q := h
theorem mkF {f : FuncId} {xs ys : Array Operand} (h : WpL P n m G md ops ({ dst := dd, op := .makeFunc (.func f) xs ys, type := tt, pos := pos, after := after, guard := none } :: l) σ Q) : WpL P n m G md ops ({ dst := dd, op := .makeFunc (.func f) xs ys, type := tt, pos := pos, after := after, guard := none } :: l) σ Q := h
end Go.Abs.K

/- Structs written out. No condition. -/
namespace Go.Abs
open Go
set_option linter.unusedVariables false
set_option linter.unusedSimpArgs false

/-- Cells written over others from a place on. -/
def wrC : List AV → Nat → List AV → Option (List AV)
  | [], _, [] => some []
  | [], _, _ :: _ => none
  | z :: zs, 0, [] => some (z :: zs)
  | z :: zs, 0, d :: ds => match wrC zs 0 ds with
    | none => none
    | some r => some (d :: r)
  | z :: zs, off + 1, ds => match wrC zs off ds with
    | none => none
    | some r => some (z :: r)
theorem wrC_eq : ∀ {zs : List AV} {off : Nat} {ds r : List AV}, wrC zs off ds = some r → r = zs.take off ++ ds ++ zs.drop (off + ds.length)
  | [], off, [], r, h => by simp [wrC] at h; subst h; simp
  | [], _, _ :: _, r, h => by simp [wrC] at h
  | z :: zs, 0, [], r, h => by simp [wrC] at h; subst h; simp
  | z :: zs, 0, d :: ds, r, h => by
    rw [wrC] at h
    cases hr : wrC zs 0 ds with
    | none => rw [hr] at h; cases h
    | some r' =>
      rw [hr] at h; cases h
      have := wrC_eq hr; subst this
      simp [Nat.add_comm]
  | z :: zs, off + 1, ds, r, h => by
    rw [wrC] at h
    cases hr : wrC zs off ds with
    | none => rw [hr] at h; cases h
    | some r' =>
      rw [hr] at h; cases h
      have := wrC_eq hr; subst this
      simp [Nat.add_right_comm]
/-- The cells of a struct written out, and what must hold of the fields' places and sizes. -/
def bldC (T : List (Nat × AV)) (O : List AObj) (offs : List Nat) : List AV → List (Nat × Operand) → Option (List AV × List (Nat × Nat × Nat))
  | zs, [] => some (zs, [])
  | zs, (i, x) :: r => match offs[i]? with
    | none => none
    | some off => match (av T x).force with
      | none => none
      | some V => match cellsV O V with
        | none => none
        | some ds => match Nat.ble (off + ds.length) zs.length with
          | false => none
          | true => match wrC zs off ds with
            | none => none
            | some zs' => match bldC T O offs zs' r with
              | none => none
              | some (cs, q) => some (cs, (i, off, ds.length) :: q)
def buildB (P : Program) (t : TypeId) (q : List (Nat × Nat × Nat)) : Bool := match P.underlying t with
  | some (.struct fs) => match fs.toList.mapM (fun f => (P.info? f.type).map fun i => (f.offset, i.size)) with
    | some places => q.all fun r => match places[r.1]? with | some p => Nat.beq p.1 r.2.1 && Nat.beq p.2 r.2.2 | none => false
    | none => false
  | _ => false

theorem lrel_nil_of {S : Nat → Prop} {w : World} {ι : Nat → Spot} {O : List AObj} {cs vs g} (h : LRel S w ι O cs vs g) (hg : ∀ b ∈ g, b ∈ ([] : List Nat)) : LRel S w ι O cs vs [] := by
  have : g = [] := List.eq_nil_iff_forall_not_mem.2 fun b hb => by cases hg b hb
  subst this; exact h
theorem bldC_rel {n m G S ι F T O a w} (hr : RelAt n m G S ι F ⟨T, O⟩ a w) {offs : List Nat} (places : Nat → Option (Nat × Nat)) : ∀ {parts : List (Nat × Operand)} {zs cs : List AV} {q : List (Nat × Nat × Nat)} {us : Array Value}, bldC T O offs zs parts = some (cs, q) → (∀ r ∈ q, places r.1 = some r.2) →
    LRel S w ι O zs us.toList [] → ∃ out : Array Value, Instr.fill places us (parts.map fun p => (p.1, a.eval p.2)) = some out ∧ LRel S w ι O cs out.toList []
  | [], zs, cs, q, us, h, hq, hl => by
    simp only [bldC, Option.some.injEq, Prod.mk.injEq] at h
    obtain ⟨rfl, rfl⟩ := h
    exact ⟨us, rfl, hl⟩
  | (i, x) :: parts, zs, cs, q, us, h, hq, hl => by
    simp only [bldC] at h
    split at h
    · cases h
    rename_i off hoff
    split at h
    · cases h
    rename_i V hV
    split at h
    · cases h
    rename_i ds hds
    split at h
    · cases h
    rename_i hble
    split at h
    · cases h
    rename_i zs' hzs
    split at h
    · cases h
    rename_i cs' q' hrest
    cases h
    have hp := hq (i, off, ds.length) (by simp)
    have hv := hr.eval x
    rw [show av (St.mk T O).T x = V from AV.force_eq hV] at hv
    have hc := cellsV_rel hv hds
    have hlen := hc.len
    have hzl : zs.length = us.size := by simpa using hl.len
    have hle := Nat.le_of_ble_eq_true hble
    have e := wrC_eq hzs
    have hsz : (a.eval x).cells.size = ds.length := by rw [hlen]; simp
    have hf := fold_set (a.eval x).cells.toList 0 off us (by rw [← hlen]; omega)
    obtain ⟨g1, t1, k1, _⟩ := hl.take off
    obtain ⟨g2, t2, k2, _⟩ := hl.drop (off + ds.length)
    have l1 := lrel_nil_of t1 k1
    have l2 := lrel_nil_of t2 k2
    have hnew : LRel S w ι O zs' ((((a.eval x).cells.toList.zipIdx 0).foldl (fun cs (c, q) => cs.setIfInBounds (off + q) c) us).toList) [] := by
      rw [hf, e, ← hlen]
      simpa using (l1.append hc).append l2
    have hz : (a.eval x).cells.zipIdx.foldl (fun cs (c, q) => cs.setIfInBounds (off + q) c) us = ((a.eval x).cells.toList.zipIdx 0).foldl (fun cs (c, q) => cs.setIfInBounds (off + q) c) us := by
      rw [← Array.foldl_toList, Array.toList_zipIdx]
    rw [← hz] at hnew
    obtain ⟨out, ho, hlo⟩ := bldC_rel hr places hrest (fun r hr => hq r (by simp [hr])) hnew
    refine ⟨out, ?_, hlo⟩
    simp only [List.map_cons]
    rw [Instr.fill, hp]
    have hng : ¬ (off + ds.length > us.size) := by omega
    simp only [hsz, ne_eq, not_true_eq_false, decide_false, hng, Bool.or_false, Bool.false_eq_true, if_false]
    exact ho
section
variable {P : Program} {n m : Nat} {md : Bool} {G : Ctx} {T : List (Nat × AV)} {O : List AObj} {Q : Exit → St → Prop} {ops : Array Oper} {l : List Oper} {d : Nat} {tt : TypeId} {pos : String} {after : Array Edge} {tab : List (Nat × Ty)}
theorem WpL.build (hP : TabOk P tab) {t k : Nat} {offs : List Nat} {zs cs : List AV} {parts : List (Nat × Operand)} {q : List (Nat × Nat × Nat)} (ht : tlook tab t = some (.struct offs k zs)) (hc : bldC T O offs zs parts = some (cs, q)) (hb : buildB P t q = true) (hn : d < n)
    (h : WpL P n m G md ops l ⟨(d, .agg cs) :: T, O⟩ Q) :
    WpL P n m G md ops ({ dst := some d, op := .build t parts.toArray, type := tt, pos := pos, after := after, guard := none } :: l) ⟨T, O⟩ Q :=
  WpL.pure rfl rfl hn (fun S ι F a w hr => by
    obtain ⟨fs, hu, ⟨z, hz, hzk, hzs⟩, _⟩ := hP.ty ht
    unfold buildB at hb
    rw [hu] at hb
    simp only at hb
    split at hb
    · rename_i places hpl
      have hq : ∀ r ∈ q, (fun i => places.toArray[i]?) r.1 = some r.2 := by
        intro r hr
        have := List.all_eq_true.1 hb r hr
        show places.toArray[r.1]? = some r.2
        simp only [List.getElem?_toArray]
        split at this
        · rename_i p hp
          simp only [Bool.and_eq_true] at this
          rw [hp]; exact congrArg some (Prod.ext (Nat.eq_of_beq_eq_true this.1) (Nat.eq_of_beq_eq_true this.2))
        · cases this
      have hl0 : LRel S w ι O zs z.cells.toList [] := by rw [hzs]; exact lrel_zav _
      obtain ⟨out, ho, hl⟩ := bldC_rel hr _ hc hq hl0
      refine ⟨.agg out, ?_, ?_⟩
      · have hbt : P.built t ((parts.toArray.map fun (i, x) => (i, a.eval x)).toList) = some out := by
          unfold Program.built
          cases hit : P.info? t with
          | none => rw [hit] at hz; simp at hz
          | some it =>
            rw [hit] at hz
            simp only [Option.map_some, Option.some.injEq, Prod.mk.injEq] at hz
            simp only [hu, hz.1, hpl]
            rw [Array.toList_map]; exact ho
        have hrun := run_build w t (parts.toArray.map fun (i, x) => (i, a.eval x)) out hbt
        simp only [execOp, Sem.run_bind]
        simp at hrun ⊢
        rw [hrun]; rfl
      · have := LRel.agg (us := out.toList) hl .nil
        simpa using this
    · cases hb) h
/-- A row of a slice of slices of numbers. -/
theorem WpL.loadLi (hP : TabOk P tab) {t : TypeId} {x : Operand} {ty : Ty} {off : Nat} {M : List (List Int)} (ht : tlook tab t = some ty) (hp : ty.plain = true) (hm : Abs.reg O (av T x) = some (rows liI M, off)) (hi : off < M.length) (hn : d < n)
    (h : WpL P n m G false ops l ⟨(d, .imm 1 (M.getD off default).length (ints (M.getD off default))) :: T, O⟩ Q) :
    WpL P n m G false ops ({ dst := some d, op := .load t x, type := tt, pos := pos, after := after, guard := none } :: l) ⟨T, O⟩ Q := by
  have hg := rows_get (f := liI) (k := 1) (o := 0) (V := .imm 1 (M.getD off default).length (ints (M.getD off default))) (fun _ => rfl) hi rfl
  rw [show off * 1 + 0 = off by omega] at hg
  exact WpL.load1 hP ht hp hm hg rfl hn h
end
/-- Whether the operations of the head that may make objects wait for each other, one behind the other. -/
def mayMake (o : Oper) : Bool := match o.op with
  | .makeSlice .. => true
  | .buildSlice .. => true
  | .alloc .. => true
  | .box .. => true
  | .call c => match c.callee with
    | .builtin _ => false
    | _ => true
  | _ => false
def ancs (ops : Array Oper) (k : Nat) : List (List Nat) := (List.range k).foldl (fun acc i => acc ++ [match ops[i]? with
  | some o => ((o.after.toList.filter fun e => Region.binds .any e).flatMap fun e => e.on :: acc.getD e.on []).eraseDups
  | none => []]) []
def ordP (ops : Array Oper) (k : Nat) : Bool := let A := ancs ops k; (List.range k).all fun i => match ops[i]? with
  | some o => !mayMake o || (List.range i).all fun j => match ops[j]? with
    | some u => !mayMake u || (A.getD i []).any fun q => Nat.beq q j
    | none => true
  | none => true
theorem WpA.regionNO {P : Program} {n m : Nat} {G : Ctx} {T0 : List (Nat × AV)} {l l1 l2 : List Oper} {id : Nat} {O O' : List AObj} {out : List Fact} {oc T1 : List (Nat × AV)} {c0 : Nat} {Q : Exit → St → Prop} (k : Nat) (hm : P.follows .mixedOrders = true) (hB : (mixB l.toArray k && bareN l.toArray k && ordP l.toArray k) = true)
    (hl : takeF k l = some l1) (hc : cnt O.length 0 = some c0) (hJ : HeadN P n m G l.toArray T0 c0 O [] l1 O' out) (hnd : TrueB (nodupB (out.map (·.1)))) (hfr : TrueB (out.all fun p => !has T0 p.1))
    (ho : factsF out = some oc) (hT1 : catF oc T0 = some T1) (h2 : l.drop k = l2) (h : WpL P n m G false l.toArray l2 ⟨T1, O'⟩ Q) : WpA P n m G (.region id l.toArray true) ⟨T0, O⟩ Q :=
  WpA.regionNB k hm (by simp only [Bool.and_eq_true] at hB ⊢; exact hB.1) hl hc hJ hnd hfr ho hT1 h2 h
end Go.Abs

/- The table of this translation's types, for the abstract rules. Written by a program of mine. No condition. -/
namespace Go.Proofs.Ytpokokcgoebbhaa
open Go Go.Abs
set_option maxRecDepth 100000
theorem ty1 : TyOk Try.prog 1 (.func) := ⟨⟨_, _, _, Try.underlying1⟩, by unfold ScOk; kernel_rfl⟩
theorem ty2 : TyOk Try.prog 2 (.int .i64) := ⟨Try.underlying2, by unfold ScOk; kernel_rfl⟩
theorem ty3 : TyOk Try.prog 3 (.int .i64) := ⟨Try.underlying3, by unfold ScOk; kernel_rfl⟩
theorem ty4 : TyOk Try.prog 4 (.bool) := ⟨Try.underlying4, by unfold ScOk; kernel_rfl⟩
theorem ty5 : TyOk Try.prog 5 (.int .u8) := ⟨Try.underlying5, by unfold ScOk; kernel_rfl⟩
theorem ty6 : TyOk Try.prog 6 (.int .u8) := ⟨Try.underlying6, by unfold ScOk; kernel_rfl⟩
theorem ty7 : TyOk Try.prog 7 (.struct [0, 1, 2, 3] 4 [.sc (.int .i64 0), .sc (.int .i64 0), .sc (.bool false), .sc (.int .u8 0)]) := ⟨_, Try.underlying7, ⟨.agg #[.int .i64 0, .int .i64 0, .bool false, .int .u8 0], by kernel_rfl, rfl, rfl⟩, fun f o h => match f, h with | 0, h => by cases h; kernel_rfl | 1, h => by cases h; kernel_rfl | 2, h => by cases h; kernel_rfl | 3, h => by cases h; kernel_rfl | (f + 4), h => by simp at h⟩
theorem ty8 : TyOk Try.prog 8 (.struct [0, 1, 2, 3] 4 [.sc (.int .i64 0), .sc (.int .i64 0), .sc (.bool false), .sc (.int .u8 0)]) := ⟨_, Try.underlying8, ⟨.agg #[.int .i64 0, .int .i64 0, .bool false, .int .u8 0], by kernel_rfl, rfl, rfl⟩, fun f o h => match f, h with | 0, h => by cases h; kernel_rfl | 1, h => by cases h; kernel_rfl | 2, h => by cases h; kernel_rfl | 3, h => by cases h; kernel_rfl | (f + 4), h => by simp at h⟩
theorem ty9 : TyOk Try.prog 9 (.string) := ⟨Try.underlying9, by unfold ScOk; kernel_rfl⟩
theorem ty10 : TyOk Try.prog 10 (.string) := ⟨Try.underlying10, by unfold ScOk; kernel_rfl⟩
theorem ty11 : TyOk Try.prog 11 (.string) := ⟨Try.underlying11, by unfold ScOk; kernel_rfl⟩
theorem ty12 : TyOk Try.prog 12 (.int .u64) := ⟨Try.underlying12, by unfold ScOk; kernel_rfl⟩
theorem ty13 : TyOk Try.prog 13 (.struct [0, 1] 2 [.sc (.string ⟨#[]⟩), .sc (.int .u64 0)]) := ⟨_, Try.underlying13, ⟨.agg #[.string ⟨#[]⟩, .int .u64 0], by kernel_rfl, rfl, rfl⟩, fun f o h => match f, h with | 0, h => by cases h; kernel_rfl | 1, h => by cases h; kernel_rfl | (f + 2), h => by simp at h⟩
theorem ty14 : TyOk Try.prog 14 (.struct [0, 1] 2 [.sc (.string ⟨#[]⟩), .sc (.int .u64 0)]) := ⟨_, Try.underlying14, ⟨.agg #[.string ⟨#[]⟩, .int .u64 0], by kernel_rfl, rfl, rfl⟩, fun f o h => match f, h with | 0, h => by cases h; kernel_rfl | 1, h => by cases h; kernel_rfl | (f + 2), h => by simp at h⟩
theorem ty15 : TyOk Try.prog 15 (.ptr) := ⟨⟨_, Try.underlying15⟩, by unfold ScOk; kernel_rfl⟩
theorem ty16 : TyOk Try.prog 16 (.ptr) := ⟨⟨_, Try.underlying16⟩, by unfold ScOk; kernel_rfl⟩
theorem ty17 : TyOk Try.prog 17 (.ptr) := ⟨⟨_, Try.underlying17⟩, by unfold ScOk; kernel_rfl⟩
theorem ty18 : TyOk Try.prog 18 (.struct [0] 1 [.sc (.pointer none)]) := ⟨_, Try.underlying18, ⟨.agg #[.pointer none], by kernel_rfl, rfl, rfl⟩, fun f o h => match f, h with | 0, h => by cases h; kernel_rfl | (f + 1), h => by simp at h⟩
theorem ty19 : TyOk Try.prog 19 (.struct [0] 1 [.sc (.pointer none)]) := ⟨_, Try.underlying19, ⟨.agg #[.pointer none], by kernel_rfl, rfl, rfl⟩, fun f o h => match f, h with | 0, h => by cases h; kernel_rfl | (f + 1), h => by simp at h⟩
theorem ty20 : TyOk Try.prog 20 (.iface) := ⟨⟨_, Try.underlying20⟩, by unfold ScOk; kernel_rfl⟩
theorem ty21 : TyOk Try.prog 21 (.int .i32) := ⟨Try.underlying21, by unfold ScOk; kernel_rfl⟩
theorem ty22 : TyOk Try.prog 22 (.slice 5 1 1 [.sc (.int .u8 0)]) := ⟨Try.underlying22, by unfold ScOk; kernel_rfl, .int .u8 0, by kernel_rfl, rfl, by decide, rfl⟩
theorem ty23 : TyOk Try.prog 23 (.func) := ⟨⟨_, _, _, Try.underlying23⟩, by unfold ScOk; kernel_rfl⟩
theorem ty24 : TyOk Try.prog 24 (.slice 3 1 8 [.sc (.int .i64 0)]) := ⟨Try.underlying24, by unfold ScOk; kernel_rfl, .int .i64 0, by kernel_rfl, rfl, by decide, rfl⟩
theorem ty25 : TyOk Try.prog 25 (.struct [0, 1, 2, 3, 4, 5] 6 [.sc (.int .i64 0), .sc (.int .i64 0), .sc (.int .i64 0), .sc (.bool false), .sc (.bool false), .nilS]) := ⟨_, Try.underlying25, ⟨.agg #[.int .i64 0, .int .i64 0, .int .i64 0, .bool false, .bool false, .slice none 0 0], by kernel_rfl, rfl, rfl⟩, fun f o h => match f, h with | 0, h => by cases h; kernel_rfl | 1, h => by cases h; kernel_rfl | 2, h => by cases h; kernel_rfl | 3, h => by cases h; kernel_rfl | 4, h => by cases h; kernel_rfl | 5, h => by cases h; kernel_rfl | (f + 6), h => by simp at h⟩
theorem ty26 : TyOk Try.prog 26 (.struct [0, 1, 2, 3, 4, 5] 6 [.sc (.int .i64 0), .sc (.int .i64 0), .sc (.int .i64 0), .sc (.bool false), .sc (.bool false), .nilS]) := ⟨_, Try.underlying26, ⟨.agg #[.int .i64 0, .int .i64 0, .int .i64 0, .bool false, .bool false, .slice none 0 0], by kernel_rfl, rfl, rfl⟩, fun f o h => match f, h with | 0, h => by cases h; kernel_rfl | 1, h => by cases h; kernel_rfl | 2, h => by cases h; kernel_rfl | 3, h => by cases h; kernel_rfl | 4, h => by cases h; kernel_rfl | 5, h => by cases h; kernel_rfl | (f + 6), h => by simp at h⟩
theorem ty27 : TyOk Try.prog 27 (.slice 36 2 32 [.sc (.bool false), .nilS]) := ⟨Try.underlying27, by unfold ScOk; kernel_rfl, .agg #[.bool false, .slice none 0 0], by kernel_rfl, rfl, by decide, rfl⟩
theorem ty28 : TyOk Try.prog 28 (.struct [0, 6] 7 [.sc (.int .i64 0), .sc (.int .i64 0), .sc (.int .i64 0), .sc (.bool false), .sc (.bool false), .nilS, .nilS]) := ⟨_, Try.underlying28, ⟨.agg #[.int .i64 0, .int .i64 0, .int .i64 0, .bool false, .bool false, .slice none 0 0, .slice none 0 0], by kernel_rfl, rfl, rfl⟩, fun f o h => match f, h with | 0, h => by cases h; kernel_rfl | 1, h => by cases h; kernel_rfl | (f + 2), h => by simp at h⟩
theorem ty29 : TyOk Try.prog 29 (.struct [0, 6] 7 [.sc (.int .i64 0), .sc (.int .i64 0), .sc (.int .i64 0), .sc (.bool false), .sc (.bool false), .nilS, .nilS]) := ⟨_, Try.underlying29, ⟨.agg #[.int .i64 0, .int .i64 0, .int .i64 0, .bool false, .bool false, .slice none 0 0, .slice none 0 0], by kernel_rfl, rfl, rfl⟩, fun f o h => match f, h with | 0, h => by cases h; kernel_rfl | 1, h => by cases h; kernel_rfl | (f + 2), h => by simp at h⟩
theorem ty30 : TyOk Try.prog 30 (.func) := ⟨⟨_, _, _, Try.underlying30⟩, by unfold ScOk; kernel_rfl⟩
theorem ty31 : TyOk Try.prog 31 (.func) := ⟨⟨_, _, _, Try.underlying31⟩, by unfold ScOk; kernel_rfl⟩
theorem ty32 : TyOk Try.prog 32 (.func) := ⟨⟨_, _, _, Try.underlying32⟩, by unfold ScOk; kernel_rfl⟩
theorem ty33 : TyOk Try.prog 33 (.func) := ⟨⟨_, _, _, Try.underlying33⟩, by unfold ScOk; kernel_rfl⟩
theorem ty34 : TyOk Try.prog 34 (.slice 56 2 32 [.sc (.int .i64 0), .nilS]) := ⟨Try.underlying34, by unfold ScOk; kernel_rfl, .agg #[.int .i64 0, .slice none 0 0], by kernel_rfl, rfl, by decide, rfl⟩
theorem ty35 : TyOk Try.prog 35 (.struct [0, 1] 2 [.sc (.bool false), .nilS]) := ⟨_, Try.underlying35, ⟨.agg #[.bool false, .slice none 0 0], by kernel_rfl, rfl, rfl⟩, fun f o h => match f, h with | 0, h => by cases h; kernel_rfl | 1, h => by cases h; kernel_rfl | (f + 2), h => by simp at h⟩
theorem ty36 : TyOk Try.prog 36 (.struct [0, 1] 2 [.sc (.bool false), .nilS]) := ⟨_, Try.underlying36, ⟨.agg #[.bool false, .slice none 0 0], by kernel_rfl, rfl, rfl⟩, fun f o h => match f, h with | 0, h => by cases h; kernel_rfl | 1, h => by cases h; kernel_rfl | (f + 2), h => by simp at h⟩
theorem ty37 : TyOk Try.prog 37 (.func) := ⟨⟨_, _, _, Try.underlying37⟩, by unfold ScOk; kernel_rfl⟩
theorem ty39 : TyOk Try.prog 39 (.func) := ⟨⟨_, _, _, Try.underlying39⟩, by unfold ScOk; kernel_rfl⟩
theorem ty40 : TyOk Try.prog 40 (.func) := ⟨⟨_, _, _, Try.underlying40⟩, by unfold ScOk; kernel_rfl⟩
theorem ty41 : TyOk Try.prog 41 (.func) := ⟨⟨_, _, _, Try.underlying41⟩, by unfold ScOk; kernel_rfl⟩
theorem ty42 : TyOk Try.prog 42 (.func) := ⟨⟨_, _, _, Try.underlying42⟩, by unfold ScOk; kernel_rfl⟩
theorem ty43 : TyOk Try.prog 43 (.struct [0, 1] 2 [.sc (.string ⟨#[]⟩), .sc (.int .i64 0)]) := ⟨_, Try.underlying43, ⟨.agg #[.string ⟨#[]⟩, .int .i64 0], by kernel_rfl, rfl, rfl⟩, fun f o h => match f, h with | 0, h => by cases h; kernel_rfl | 1, h => by cases h; kernel_rfl | (f + 2), h => by simp at h⟩
theorem ty44 : TyOk Try.prog 44 (.struct [0, 1] 2 [.sc (.string ⟨#[]⟩), .sc (.int .i64 0)]) := ⟨_, Try.underlying44, ⟨.agg #[.string ⟨#[]⟩, .int .i64 0], by kernel_rfl, rfl, rfl⟩, fun f o h => match f, h with | 0, h => by cases h; kernel_rfl | 1, h => by cases h; kernel_rfl | (f + 2), h => by simp at h⟩
theorem ty46 : TyOk Try.prog 46 (.func) := ⟨⟨_, _, _, Try.underlying46⟩, by unfold ScOk; kernel_rfl⟩
theorem ty47 : TyOk Try.prog 47 (.struct [0, 1, 2, 3] 4 [.sc (.string ⟨#[]⟩), .sc (.int .i64 0), .sc (.int .i64 0), .sc (.int .i64 0)]) := ⟨_, Try.underlying47, ⟨.agg #[.string ⟨#[]⟩, .int .i64 0, .int .i64 0, .int .i64 0], by kernel_rfl, rfl, rfl⟩, fun f o h => match f, h with | 0, h => by cases h; kernel_rfl | 1, h => by cases h; kernel_rfl | 2, h => by cases h; kernel_rfl | 3, h => by cases h; kernel_rfl | (f + 4), h => by simp at h⟩
theorem ty48 : TyOk Try.prog 48 (.struct [0, 1, 2, 3] 4 [.sc (.string ⟨#[]⟩), .sc (.int .i64 0), .sc (.int .i64 0), .sc (.int .i64 0)]) := ⟨_, Try.underlying48, ⟨.agg #[.string ⟨#[]⟩, .int .i64 0, .int .i64 0, .int .i64 0], by kernel_rfl, rfl, rfl⟩, fun f o h => match f, h with | 0, h => by cases h; kernel_rfl | 1, h => by cases h; kernel_rfl | 2, h => by cases h; kernel_rfl | 3, h => by cases h; kernel_rfl | (f + 4), h => by simp at h⟩
theorem ty50 : TyOk Try.prog 50 (.func) := ⟨⟨_, _, _, Try.underlying50⟩, by unfold ScOk; kernel_rfl⟩
theorem ty51 : TyOk Try.prog 51 (.func) := ⟨⟨_, _, _, Try.underlying51⟩, by unfold ScOk; kernel_rfl⟩
theorem ty52 : TyOk Try.prog 52 (.slice 93 2 16 [.sc (.int .i64 0), .sc (.int .i64 0)]) := ⟨Try.underlying52, by unfold ScOk; kernel_rfl, .agg #[.int .i64 0, .int .i64 0], by kernel_rfl, rfl, by decide, rfl⟩
theorem ty53 : TyOk Try.prog 53 (.func) := ⟨⟨_, _, _, Try.underlying53⟩, by unfold ScOk; kernel_rfl⟩
theorem ty54 : TyOk Try.prog 54 (.func) := ⟨⟨_, _, _, Try.underlying54⟩, by unfold ScOk; kernel_rfl⟩
theorem ty55 : TyOk Try.prog 55 (.struct [0, 1] 2 [.sc (.int .i64 0), .nilS]) := ⟨_, Try.underlying55, ⟨.agg #[.int .i64 0, .slice none 0 0], by kernel_rfl, rfl, rfl⟩, fun f o h => match f, h with | 0, h => by cases h; kernel_rfl | 1, h => by cases h; kernel_rfl | (f + 2), h => by simp at h⟩
theorem ty56 : TyOk Try.prog 56 (.struct [0, 1] 2 [.sc (.int .i64 0), .nilS]) := ⟨_, Try.underlying56, ⟨.agg #[.int .i64 0, .slice none 0 0], by kernel_rfl, rfl, rfl⟩, fun f o h => match f, h with | 0, h => by cases h; kernel_rfl | 1, h => by cases h; kernel_rfl | (f + 2), h => by simp at h⟩
theorem ty58 : TyOk Try.prog 58 (.func) := ⟨⟨_, _, _, Try.underlying58⟩, by unfold ScOk; kernel_rfl⟩
theorem ty59 : TyOk Try.prog 59 (.func) := ⟨⟨_, _, _, Try.underlying59⟩, by unfold ScOk; kernel_rfl⟩
theorem ty60 : TyOk Try.prog 60 (.func) := ⟨⟨_, _, _, Try.underlying60⟩, by unfold ScOk; kernel_rfl⟩
theorem ty61 : TyOk Try.prog 61 (.func) := ⟨⟨_, _, _, Try.underlying61⟩, by unfold ScOk; kernel_rfl⟩
theorem ty62 : TyOk Try.prog 62 (.func) := ⟨⟨_, _, _, Try.underlying62⟩, by unfold ScOk; kernel_rfl⟩
theorem ty63 : TyOk Try.prog 63 (.func) := ⟨⟨_, _, _, Try.underlying63⟩, by unfold ScOk; kernel_rfl⟩
theorem ty64 : TyOk Try.prog 64 (.func) := ⟨⟨_, _, _, Try.underlying64⟩, by unfold ScOk; kernel_rfl⟩
theorem ty65 : TyOk Try.prog 65 (.ptr) := ⟨⟨_, Try.underlying65⟩, by unfold ScOk; kernel_rfl⟩
theorem ty66 : TyOk Try.prog 66 (.func) := ⟨⟨_, _, _, Try.underlying66⟩, by unfold ScOk; kernel_rfl⟩
theorem ty67 : TyOk Try.prog 67 (.func) := ⟨⟨_, _, _, Try.underlying67⟩, by unfold ScOk; kernel_rfl⟩
theorem ty68 : TyOk Try.prog 68 (.func) := ⟨⟨_, _, _, Try.underlying68⟩, by unfold ScOk; kernel_rfl⟩
theorem ty69 : TyOk Try.prog 69 (.func) := ⟨⟨_, _, _, Try.underlying69⟩, by unfold ScOk; kernel_rfl⟩
theorem ty70 : TyOk Try.prog 70 (.func) := ⟨⟨_, _, _, Try.underlying70⟩, by unfold ScOk; kernel_rfl⟩
theorem ty71 : TyOk Try.prog 71 (.func) := ⟨⟨_, _, _, Try.underlying71⟩, by unfold ScOk; kernel_rfl⟩
theorem ty72 : TyOk Try.prog 72 (.func) := ⟨⟨_, _, _, Try.underlying72⟩, by unfold ScOk; kernel_rfl⟩
theorem ty74 : TyOk Try.prog 74 (.func) := ⟨⟨_, _, _, Try.underlying74⟩, by unfold ScOk; kernel_rfl⟩
theorem ty75 : TyOk Try.prog 75 (.func) := ⟨⟨_, _, _, Try.underlying75⟩, by unfold ScOk; kernel_rfl⟩
theorem ty76 : TyOk Try.prog 76 (.func) := ⟨⟨_, _, _, Try.underlying76⟩, by unfold ScOk; kernel_rfl⟩
theorem ty77 : TyOk Try.prog 77 (.func) := ⟨⟨_, _, _, Try.underlying77⟩, by unfold ScOk; kernel_rfl⟩
theorem ty78 : TyOk Try.prog 78 (.func) := ⟨⟨_, _, _, Try.underlying78⟩, by unfold ScOk; kernel_rfl⟩
theorem ty80 : TyOk Try.prog 80 (.func) := ⟨⟨_, _, _, Try.underlying80⟩, by unfold ScOk; kernel_rfl⟩
theorem ty82 : TyOk Try.prog 82 (.func) := ⟨⟨_, _, _, Try.underlying82⟩, by unfold ScOk; kernel_rfl⟩
theorem ty84 : TyOk Try.prog 84 (.func) := ⟨⟨_, _, _, Try.underlying84⟩, by unfold ScOk; kernel_rfl⟩
theorem ty85 : TyOk Try.prog 85 (.func) := ⟨⟨_, _, _, Try.underlying85⟩, by unfold ScOk; kernel_rfl⟩
theorem ty86 : TyOk Try.prog 86 (.func) := ⟨⟨_, _, _, Try.underlying86⟩, by unfold ScOk; kernel_rfl⟩
theorem ty87 : TyOk Try.prog 87 (.func) := ⟨⟨_, _, _, Try.underlying87⟩, by unfold ScOk; kernel_rfl⟩
theorem ty88 : TyOk Try.prog 88 (.func) := ⟨⟨_, _, _, Try.underlying88⟩, by unfold ScOk; kernel_rfl⟩
theorem ty90 : TyOk Try.prog 90 (.func) := ⟨⟨_, _, _, Try.underlying90⟩, by unfold ScOk; kernel_rfl⟩
theorem ty91 : TyOk Try.prog 91 (.int .u64) := ⟨Try.underlying91, by unfold ScOk; kernel_rfl⟩
theorem ty92 : TyOk Try.prog 92 (.struct [0, 1] 2 [.sc (.int .i64 0), .sc (.int .i64 0)]) := ⟨_, Try.underlying92, ⟨.agg #[.int .i64 0, .int .i64 0], by kernel_rfl, rfl, rfl⟩, fun f o h => match f, h with | 0, h => by cases h; kernel_rfl | 1, h => by cases h; kernel_rfl | (f + 2), h => by simp at h⟩
theorem ty93 : TyOk Try.prog 93 (.struct [0, 1] 2 [.sc (.int .i64 0), .sc (.int .i64 0)]) := ⟨_, Try.underlying93, ⟨.agg #[.int .i64 0, .int .i64 0], by kernel_rfl, rfl, rfl⟩, fun f o h => match f, h with | 0, h => by cases h; kernel_rfl | 1, h => by cases h; kernel_rfl | (f + 2), h => by simp at h⟩
theorem ty94 : TyOk Try.prog 94 (.func) := ⟨⟨_, _, _, Try.underlying94⟩, by unfold ScOk; kernel_rfl⟩
theorem ty95 : TyOk Try.prog 95 (.func) := ⟨⟨_, _, _, Try.underlying95⟩, by unfold ScOk; kernel_rfl⟩
theorem ty96 : TyOk Try.prog 96 (.func) := ⟨⟨_, _, _, Try.underlying96⟩, by unfold ScOk; kernel_rfl⟩
theorem ty97 : TyOk Try.prog 97 (.ptr) := ⟨⟨_, Try.underlying97⟩, by unfold ScOk; kernel_rfl⟩
theorem ty98 : TyOk Try.prog 98 (.struct [0, 2] 3 [.sc (.string ⟨#[]⟩), .sc (.int .i64 0), .sc (.int .i64 0)]) := ⟨_, Try.underlying98, ⟨.agg #[.string ⟨#[]⟩, .int .i64 0, .int .i64 0], by kernel_rfl, rfl, rfl⟩, fun f o h => match f, h with | 0, h => by cases h; kernel_rfl | 1, h => by cases h; kernel_rfl | (f + 2), h => by simp at h⟩
theorem ty99 : TyOk Try.prog 99 (.struct [0, 2] 3 [.sc (.string ⟨#[]⟩), .sc (.int .i64 0), .sc (.int .i64 0)]) := ⟨_, Try.underlying99, ⟨.agg #[.string ⟨#[]⟩, .int .i64 0, .int .i64 0], by kernel_rfl, rfl, rfl⟩, fun f o h => match f, h with | 0, h => by cases h; kernel_rfl | 1, h => by cases h; kernel_rfl | (f + 2), h => by simp at h⟩
theorem ty100 : TyOk Try.prog 100 (.func) := ⟨⟨_, _, _, Try.underlying100⟩, by unfold ScOk; kernel_rfl⟩
theorem ty101 : TyOk Try.prog 101 (.func) := ⟨⟨_, _, _, Try.underlying101⟩, by unfold ScOk; kernel_rfl⟩
theorem ty102 : TyOk Try.prog 102 (.func) := ⟨⟨_, _, _, Try.underlying102⟩, by unfold ScOk; kernel_rfl⟩
theorem ty103 : TyOk Try.prog 103 (.func) := ⟨⟨_, _, _, Try.underlying103⟩, by unfold ScOk; kernel_rfl⟩
theorem ty104 : TyOk Try.prog 104 (.slice 108 2 16 [.sc (.int .i64 0), .sc (.int .i64 0)]) := ⟨Try.underlying104, by unfold ScOk; kernel_rfl, .agg #[.int .i64 0, .int .i64 0], by kernel_rfl, rfl, by decide, rfl⟩
theorem ty105 : TyOk Try.prog 105 (.func) := ⟨⟨_, _, _, Try.underlying105⟩, by unfold ScOk; kernel_rfl⟩
theorem ty106 : TyOk Try.prog 106 (.func) := ⟨⟨_, _, _, Try.underlying106⟩, by unfold ScOk; kernel_rfl⟩
theorem ty107 : TyOk Try.prog 107 (.struct [0, 1] 2 [.sc (.int .i64 0), .sc (.int .i64 0)]) := ⟨_, Try.underlying107, ⟨.agg #[.int .i64 0, .int .i64 0], by kernel_rfl, rfl, rfl⟩, fun f o h => match f, h with | 0, h => by cases h; kernel_rfl | 1, h => by cases h; kernel_rfl | (f + 2), h => by simp at h⟩
theorem ty108 : TyOk Try.prog 108 (.struct [0, 1] 2 [.sc (.int .i64 0), .sc (.int .i64 0)]) := ⟨_, Try.underlying108, ⟨.agg #[.int .i64 0, .int .i64 0], by kernel_rfl, rfl, rfl⟩, fun f o h => match f, h with | 0, h => by cases h; kernel_rfl | 1, h => by cases h; kernel_rfl | (f + 2), h => by simp at h⟩
theorem ty109 : TyOk Try.prog 109 (.func) := ⟨⟨_, _, _, Try.underlying109⟩, by unfold ScOk; kernel_rfl⟩
theorem ty110 : TyOk Try.prog 110 (.func) := ⟨⟨_, _, _, Try.underlying110⟩, by unfold ScOk; kernel_rfl⟩
theorem ty111 : TyOk Try.prog 111 (.func) := ⟨⟨_, _, _, Try.underlying111⟩, by unfold ScOk; kernel_rfl⟩
theorem ty112 : TyOk Try.prog 112 (.func) := ⟨⟨_, _, _, Try.underlying112⟩, by unfold ScOk; kernel_rfl⟩
theorem ty113 : TyOk Try.prog 113 (.struct [0, 1, 2] 3 [.nilS, .sc (.int .i64 0), .sc (.int .i64 0)]) := ⟨_, Try.underlying113, ⟨.agg #[.slice none 0 0, .int .i64 0, .int .i64 0], by kernel_rfl, rfl, rfl⟩, fun f o h => match f, h with | 0, h => by cases h; kernel_rfl | 1, h => by cases h; kernel_rfl | 2, h => by cases h; kernel_rfl | (f + 3), h => by simp at h⟩
theorem ty114 : TyOk Try.prog 114 (.struct [0, 1, 2] 3 [.nilS, .sc (.int .i64 0), .sc (.int .i64 0)]) := ⟨_, Try.underlying114, ⟨.agg #[.slice none 0 0, .int .i64 0, .int .i64 0], by kernel_rfl, rfl, rfl⟩, fun f o h => match f, h with | 0, h => by cases h; kernel_rfl | 1, h => by cases h; kernel_rfl | 2, h => by cases h; kernel_rfl | (f + 3), h => by simp at h⟩
theorem ty115 : TyOk Try.prog 115 (.func) := ⟨⟨_, _, _, Try.underlying115⟩, by unfold ScOk; kernel_rfl⟩
theorem ty116 : TyOk Try.prog 116 (.func) := ⟨⟨_, _, _, Try.underlying116⟩, by unfold ScOk; kernel_rfl⟩
theorem ty117 : TyOk Try.prog 117 (.func) := ⟨⟨_, _, _, Try.underlying117⟩, by unfold ScOk; kernel_rfl⟩
theorem ty118 : TyOk Try.prog 118 (.func) := ⟨⟨_, _, _, Try.underlying118⟩, by unfold ScOk; kernel_rfl⟩
theorem ty119 : TyOk Try.prog 119 (.func) := ⟨⟨_, _, _, Try.underlying119⟩, by unfold ScOk; kernel_rfl⟩
theorem ty120 : TyOk Try.prog 120 (.func) := ⟨⟨_, _, _, Try.underlying120⟩, by unfold ScOk; kernel_rfl⟩
theorem ty121 : TyOk Try.prog 121 (.func) := ⟨⟨_, _, _, Try.underlying121⟩, by unfold ScOk; kernel_rfl⟩
theorem ty122 : TyOk Try.prog 122 (.func) := ⟨⟨_, _, _, Try.underlying122⟩, by unfold ScOk; kernel_rfl⟩
theorem ty123 : TyOk Try.prog 123 (.func) := ⟨⟨_, _, _, Try.underlying123⟩, by unfold ScOk; kernel_rfl⟩
theorem ty124 : TyOk Try.prog 124 (.func) := ⟨⟨_, _, _, Try.underlying124⟩, by unfold ScOk; kernel_rfl⟩
theorem ty125 : TyOk Try.prog 125 (.func) := ⟨⟨_, _, _, Try.underlying125⟩, by unfold ScOk; kernel_rfl⟩
theorem ty126 : TyOk Try.prog 126 (.func) := ⟨⟨_, _, _, Try.underlying126⟩, by unfold ScOk; kernel_rfl⟩
theorem ty127 : TyOk Try.prog 127 (.func) := ⟨⟨_, _, _, Try.underlying127⟩, by unfold ScOk; kernel_rfl⟩
theorem ty128 : TyOk Try.prog 128 (.slice 24 1 24 [.nilS]) := ⟨Try.underlying128, by unfold ScOk; kernel_rfl, .slice none 0 0, by kernel_rfl, rfl, by decide, rfl⟩
theorem ty129 : TyOk Try.prog 129 (.func) := ⟨⟨_, _, _, Try.underlying129⟩, by unfold ScOk; kernel_rfl⟩
theorem ty130 : TyOk Try.prog 130 (.func) := ⟨⟨_, _, _, Try.underlying130⟩, by unfold ScOk; kernel_rfl⟩
theorem ty131 : TyOk Try.prog 131 (.func) := ⟨⟨_, _, _, Try.underlying131⟩, by unfold ScOk; kernel_rfl⟩
theorem ty133 : TyOk Try.prog 133 (.func) := ⟨⟨_, _, _, Try.underlying133⟩, by unfold ScOk; kernel_rfl⟩
theorem ty134 : TyOk Try.prog 134 (.func) := ⟨⟨_, _, _, Try.underlying134⟩, by unfold ScOk; kernel_rfl⟩
theorem ty135 : TyOk Try.prog 135 (.func) := ⟨⟨_, _, _, Try.underlying135⟩, by unfold ScOk; kernel_rfl⟩
theorem ty136 : TyOk Try.prog 136 (.func) := ⟨⟨_, _, _, Try.underlying136⟩, by unfold ScOk; kernel_rfl⟩
theorem ty137 : TyOk Try.prog 137 (.func) := ⟨⟨_, _, _, Try.underlying137⟩, by unfold ScOk; kernel_rfl⟩
theorem ty138 : TyOk Try.prog 138 (.func) := ⟨⟨_, _, _, Try.underlying138⟩, by unfold ScOk; kernel_rfl⟩
theorem ty139 : TyOk Try.prog 139 (.int .u32) := ⟨Try.underlying139, by unfold ScOk; kernel_rfl⟩
theorem ty140 : TyOk Try.prog 140 (.func) := ⟨⟨_, _, _, Try.underlying140⟩, by unfold ScOk; kernel_rfl⟩
theorem ty141 : TyOk Try.prog 141 (.int .u64) := ⟨Try.underlying141, by unfold ScOk; kernel_rfl⟩
theorem ty142 : TyOk Try.prog 142 (.func) := ⟨⟨_, _, _, Try.underlying142⟩, by unfold ScOk; kernel_rfl⟩
theorem ty143 : TyOk Try.prog 143 (.struct [0, 1, 2, 3] 4 [.sc (.pointer none), .sc (.pointer none), .sc (.pointer none), .sc (.string ⟨#[]⟩)]) := ⟨_, Try.underlying143, ⟨.agg #[.pointer none, .pointer none, .pointer none, .string ⟨#[]⟩], by kernel_rfl, rfl, rfl⟩, fun f o h => match f, h with | 0, h => by cases h; kernel_rfl | 1, h => by cases h; kernel_rfl | 2, h => by cases h; kernel_rfl | 3, h => by cases h; kernel_rfl | (f + 4), h => by simp at h⟩
theorem ty144 : TyOk Try.prog 144 (.struct [0, 1, 2, 3] 4 [.sc (.pointer none), .sc (.pointer none), .sc (.pointer none), .sc (.string ⟨#[]⟩)]) := ⟨_, Try.underlying144, ⟨.agg #[.pointer none, .pointer none, .pointer none, .string ⟨#[]⟩], by kernel_rfl, rfl, rfl⟩, fun f o h => match f, h with | 0, h => by cases h; kernel_rfl | 1, h => by cases h; kernel_rfl | 2, h => by cases h; kernel_rfl | 3, h => by cases h; kernel_rfl | (f + 4), h => by simp at h⟩
theorem ty148 : TyOk Try.prog 148 (.int .u8) := ⟨Try.underlying148, by unfold ScOk; kernel_rfl⟩
theorem ty149 : TyOk Try.prog 149 (.int .u8) := ⟨Try.underlying149, by unfold ScOk; kernel_rfl⟩
theorem ty150 : TyOk Try.prog 150 (.func) := ⟨⟨_, _, _, Try.underlying150⟩, by unfold ScOk; kernel_rfl⟩
theorem ty151 : TyOk Try.prog 151 (.ptr) := ⟨⟨_, Try.underlying151⟩, by unfold ScOk; kernel_rfl⟩
theorem ty152 : TyOk Try.prog 152 (.int .i32) := ⟨Try.underlying152, by unfold ScOk; kernel_rfl⟩
theorem ty153 : TyOk Try.prog 153 (.int .i32) := ⟨Try.underlying153, by unfold ScOk; kernel_rfl⟩
theorem ty156 : TyOk Try.prog 156 (.func) := ⟨⟨_, _, _, Try.underlying156⟩, by unfold ScOk; kernel_rfl⟩
def tab : List (Nat × Ty) := [(1, .func), (2, .int .i64), (3, .int .i64), (4, .bool), (5, .int .u8), (6, .int .u8), (7, .struct [0, 1, 2, 3] 4 [.sc (.int .i64 0), .sc (.int .i64 0), .sc (.bool false), .sc (.int .u8 0)]), (8, .struct [0, 1, 2, 3] 4 [.sc (.int .i64 0), .sc (.int .i64 0), .sc (.bool false), .sc (.int .u8 0)]), (9, .string), (10, .string), (11, .string), (12, .int .u64), (13, .struct [0, 1] 2 [.sc (.string ⟨#[]⟩), .sc (.int .u64 0)]), (14, .struct [0, 1] 2 [.sc (.string ⟨#[]⟩), .sc (.int .u64 0)]), (15, .ptr), (16, .ptr), (17, .ptr), (18, .struct [0] 1 [.sc (.pointer none)]), (19, .struct [0] 1 [.sc (.pointer none)]), (20, .iface), (21, .int .i32), (22, .slice 5 1 1 [.sc (.int .u8 0)]), (23, .func), (24, .slice 3 1 8 [.sc (.int .i64 0)]), (25, .struct [0, 1, 2, 3, 4, 5] 6 [.sc (.int .i64 0), .sc (.int .i64 0), .sc (.int .i64 0), .sc (.bool false), .sc (.bool false), .nilS]), (26, .struct [0, 1, 2, 3, 4, 5] 6 [.sc (.int .i64 0), .sc (.int .i64 0), .sc (.int .i64 0), .sc (.bool false), .sc (.bool false), .nilS]), (27, .slice 36 2 32 [.sc (.bool false), .nilS]), (28, .struct [0, 6] 7 [.sc (.int .i64 0), .sc (.int .i64 0), .sc (.int .i64 0), .sc (.bool false), .sc (.bool false), .nilS, .nilS]), (29, .struct [0, 6] 7 [.sc (.int .i64 0), .sc (.int .i64 0), .sc (.int .i64 0), .sc (.bool false), .sc (.bool false), .nilS, .nilS]), (30, .func), (31, .func), (32, .func), (33, .func), (34, .slice 56 2 32 [.sc (.int .i64 0), .nilS]), (35, .struct [0, 1] 2 [.sc (.bool false), .nilS]), (36, .struct [0, 1] 2 [.sc (.bool false), .nilS]), (37, .func), (39, .func), (40, .func), (41, .func), (42, .func), (43, .struct [0, 1] 2 [.sc (.string ⟨#[]⟩), .sc (.int .i64 0)]), (44, .struct [0, 1] 2 [.sc (.string ⟨#[]⟩), .sc (.int .i64 0)]), (46, .func), (47, .struct [0, 1, 2, 3] 4 [.sc (.string ⟨#[]⟩), .sc (.int .i64 0), .sc (.int .i64 0), .sc (.int .i64 0)]), (48, .struct [0, 1, 2, 3] 4 [.sc (.string ⟨#[]⟩), .sc (.int .i64 0), .sc (.int .i64 0), .sc (.int .i64 0)]), (50, .func), (51, .func), (52, .slice 93 2 16 [.sc (.int .i64 0), .sc (.int .i64 0)]), (53, .func), (54, .func), (55, .struct [0, 1] 2 [.sc (.int .i64 0), .nilS]), (56, .struct [0, 1] 2 [.sc (.int .i64 0), .nilS]), (58, .func), (59, .func), (60, .func), (61, .func), (62, .func), (63, .func), (64, .func), (65, .ptr), (66, .func), (67, .func), (68, .func), (69, .func), (70, .func), (71, .func), (72, .func), (74, .func), (75, .func), (76, .func), (77, .func), (78, .func), (80, .func), (82, .func), (84, .func), (85, .func), (86, .func), (87, .func), (88, .func), (90, .func), (91, .int .u64), (92, .struct [0, 1] 2 [.sc (.int .i64 0), .sc (.int .i64 0)]), (93, .struct [0, 1] 2 [.sc (.int .i64 0), .sc (.int .i64 0)]), (94, .func), (95, .func), (96, .func), (97, .ptr), (98, .struct [0, 2] 3 [.sc (.string ⟨#[]⟩), .sc (.int .i64 0), .sc (.int .i64 0)]), (99, .struct [0, 2] 3 [.sc (.string ⟨#[]⟩), .sc (.int .i64 0), .sc (.int .i64 0)]), (100, .func), (101, .func), (102, .func), (103, .func), (104, .slice 108 2 16 [.sc (.int .i64 0), .sc (.int .i64 0)]), (105, .func), (106, .func), (107, .struct [0, 1] 2 [.sc (.int .i64 0), .sc (.int .i64 0)]), (108, .struct [0, 1] 2 [.sc (.int .i64 0), .sc (.int .i64 0)]), (109, .func), (110, .func), (111, .func), (112, .func), (113, .struct [0, 1, 2] 3 [.nilS, .sc (.int .i64 0), .sc (.int .i64 0)]), (114, .struct [0, 1, 2] 3 [.nilS, .sc (.int .i64 0), .sc (.int .i64 0)]), (115, .func), (116, .func), (117, .func), (118, .func), (119, .func), (120, .func), (121, .func), (122, .func), (123, .func), (124, .func), (125, .func), (126, .func), (127, .func), (128, .slice 24 1 24 [.nilS]), (129, .func), (130, .func), (131, .func), (133, .func), (134, .func), (135, .func), (136, .func), (137, .func), (138, .func), (139, .int .u32), (140, .func), (141, .int .u64), (142, .func), (143, .struct [0, 1, 2, 3] 4 [.sc (.pointer none), .sc (.pointer none), .sc (.pointer none), .sc (.string ⟨#[]⟩)]), (144, .struct [0, 1, 2, 3] 4 [.sc (.pointer none), .sc (.pointer none), .sc (.pointer none), .sc (.string ⟨#[]⟩)]), (148, .int .u8), (149, .int .u8), (150, .func), (151, .ptr), (152, .int .i32), (153, .int .i32), (156, .func)]
theorem tabOk : TabOk Try.prog tab := by
  intro p hp
  simp only [tab, List.mem_cons, List.not_mem_nil, or_false] at hp
  rcases hp with rfl | rfl | rfl | rfl | rfl | rfl | rfl | rfl | rfl | rfl | rfl | rfl | rfl | rfl | rfl | rfl | rfl | rfl | rfl | rfl | rfl | rfl | rfl | rfl | rfl | rfl | rfl | rfl | rfl | rfl | rfl | rfl | rfl | rfl | rfl | rfl | rfl | rfl | rfl | rfl | rfl | rfl | rfl | rfl | rfl | rfl | rfl | rfl | rfl | rfl | rfl | rfl | rfl | rfl | rfl | rfl | rfl | rfl | rfl | rfl | rfl | rfl | rfl | rfl | rfl | rfl | rfl | rfl | rfl | rfl | rfl | rfl | rfl | rfl | rfl | rfl | rfl | rfl | rfl | rfl | rfl | rfl | rfl | rfl | rfl | rfl | rfl | rfl | rfl | rfl | rfl | rfl | rfl | rfl | rfl | rfl | rfl | rfl | rfl | rfl | rfl | rfl | rfl | rfl | rfl | rfl | rfl | rfl | rfl | rfl | rfl | rfl | rfl | rfl | rfl | rfl | rfl | rfl | rfl | rfl | rfl | rfl | rfl | rfl | rfl | rfl | rfl | rfl | rfl | rfl | rfl | rfl | rfl | rfl | rfl | rfl | rfl | rfl | rfl | rfl | rfl
  · exact ty1
  · exact ty2
  · exact ty3
  · exact ty4
  · exact ty5
  · exact ty6
  · exact ty7
  · exact ty8
  · exact ty9
  · exact ty10
  · exact ty11
  · exact ty12
  · exact ty13
  · exact ty14
  · exact ty15
  · exact ty16
  · exact ty17
  · exact ty18
  · exact ty19
  · exact ty20
  · exact ty21
  · exact ty22
  · exact ty23
  · exact ty24
  · exact ty25
  · exact ty26
  · exact ty27
  · exact ty28
  · exact ty29
  · exact ty30
  · exact ty31
  · exact ty32
  · exact ty33
  · exact ty34
  · exact ty35
  · exact ty36
  · exact ty37
  · exact ty39
  · exact ty40
  · exact ty41
  · exact ty42
  · exact ty43
  · exact ty44
  · exact ty46
  · exact ty47
  · exact ty48
  · exact ty50
  · exact ty51
  · exact ty52
  · exact ty53
  · exact ty54
  · exact ty55
  · exact ty56
  · exact ty58
  · exact ty59
  · exact ty60
  · exact ty61
  · exact ty62
  · exact ty63
  · exact ty64
  · exact ty65
  · exact ty66
  · exact ty67
  · exact ty68
  · exact ty69
  · exact ty70
  · exact ty71
  · exact ty72
  · exact ty74
  · exact ty75
  · exact ty76
  · exact ty77
  · exact ty78
  · exact ty80
  · exact ty82
  · exact ty84
  · exact ty85
  · exact ty86
  · exact ty87
  · exact ty88
  · exact ty90
  · exact ty91
  · exact ty92
  · exact ty93
  · exact ty94
  · exact ty95
  · exact ty96
  · exact ty97
  · exact ty98
  · exact ty99
  · exact ty100
  · exact ty101
  · exact ty102
  · exact ty103
  · exact ty104
  · exact ty105
  · exact ty106
  · exact ty107
  · exact ty108
  · exact ty109
  · exact ty110
  · exact ty111
  · exact ty112
  · exact ty113
  · exact ty114
  · exact ty115
  · exact ty116
  · exact ty117
  · exact ty118
  · exact ty119
  · exact ty120
  · exact ty121
  · exact ty122
  · exact ty123
  · exact ty124
  · exact ty125
  · exact ty126
  · exact ty127
  · exact ty128
  · exact ty129
  · exact ty130
  · exact ty131
  · exact ty133
  · exact ty134
  · exact ty135
  · exact ty136
  · exact ty137
  · exact ty138
  · exact ty139
  · exact ty140
  · exact ty141
  · exact ty142
  · exact ty143
  · exact ty144
  · exact ty148
  · exact ty149
  · exact ty150
  · exact ty151
  · exact ty152
  · exact ty153
  · exact ty156
end Go.Proofs.Ytpokokcgoebbhaa

/- Room made ahead: append of zeros to a nil slice, the capacity of a nil slice, the empty beginning of a slice. No condition. -/
namespace Go.Abs
open Go
set_option linter.unusedVariables false
set_option linter.unusedSimpArgs false
section
variable {P : Program} {n m : Nat} {G : Ctx} {T : List (Nat × AV)} {O : List AObj} {Q : Exit → St → Prop} {ops : Array Oper} {l : List Oper} {d : Nat} {md : Bool} {tt : TypeId} {pos : String} {after : Array Edge} {tab : List (Nat × Ty)}
theorem WpL.capNil {t e : TypeId} {x : Operand} (ht : P.underlying t = some (.slice e)) (hx : av T x = .nilS) (hn : d < n)
    (h : WpL P n m G md ops l ⟨(d, .sc (.int .i64 0)) :: T, O⟩ Q) :
    WpL P n m G md ops ({ dst := some d, op := .call { callee := .builtin .cap, args := #[x], argTypes := #[t] }, type := tt, pos := pos, after := after, guard := none } :: l) ⟨T, O⟩ Q :=
  WpL.pure rfl rfl hn (fun S ι F a w hr => by
    have hv := hr.eval x
    rw [show av (St.mk T O).T x = _ from hx] at hv
    have hxe := (LRel.slice_len hv).2.2 rfl
    refine ⟨.int .i64 0, ?_, .sc .nil⟩
    have : (Builtin.cap_ #[t] tt #[.slice none 0 0]).run P w = .ok (.int .i64 0) w := by simp [Builtin.cap_, run_underlying ht, goInt]
    simp [execOp, resolve, invoke, builtin, hxe, this, Sem.run_bind]) h
theorem WpL.subNil (hP : TabOk P tab) {t e k b : Nat} {zs : List AV} {x y : Operand} {kk : IntKind} (ht : tlook tab t = some (.slice e k b zs)) (hx : av T x = .nilS) (hy : av T y = .sc (.int kk 0)) (hn : d < n)
    (h : WpL P n m G md ops l ⟨(d, .nilS) :: T, O⟩ Q) :
    WpL P n m G md ops ({ dst := some d, op := .slice t x none (some y) none, type := tt, pos := pos, after := after, guard := none } :: l) ⟨T, O⟩ Q :=
  WpL.pure rfl rfl hn (fun S ι F a w hr => by
    obtain ⟨hu, inf, z, hinf, _, hk, _, _, hk0, _⟩ := hP.slice ht
    have hv := hr.eval x
    rw [show av (St.mk T O).T x = _ from hx] at hv
    have hxe := (LRel.slice_len hv).2.2 rfl
    have hye := hr.sc hy
    refine ⟨.slice none 0 0, ?_, .nilS .nil⟩
    have hrun : (Instr.sliceAt t (.slice none 0 0) none (some (.int kk 0)) none).run P w = .ok (.slice none 0 0) w := by
      simp [Instr.sliceAt, Instr.slice, run_underlying hu, Instr.sliceBounds, Instr.sliceBound, asIntOf, run_sizeOf hinf hk, Sem.run_bind]
    simp [execOp, hxe, hye, hrun, Sem.run_bind]) h
/-- The empty beginning of a slice of the call's own. -/
theorem WpL.subOwn0 (hP : TabOk P tab) {t e k b : Nat} {zs : List AV} {x y : Operand} {kk : IntKind} {id ep len : Nat} {ob : AObj} (ht : tlook tab t = some (.slice e k b zs)) (hx : av T x = .own id ep 0 len) (ho : O[id]? = some ob) (he : ob.ep = ep) (hy : av T y = .sc (.int kk 0)) (hn : d < n)
    (h : WpL P n m G md ops l ⟨(d, .own id ep 0 0) :: T, O⟩ Q) :
    WpL P n m G md ops ({ dst := some d, op := .slice t x none (some y) none, type := tt, pos := pos, after := after, guard := none } :: l) ⟨T, O⟩ Q :=
  WpL.pure rfl rfl hn (fun S ι F a w hr => by
    obtain ⟨hu, inf, z, hinf, _, hk, _, _, hk0, _⟩ := hP.slice ht
    have hv := hr.eval x
    rw [show av (St.mk T O).T x = _ from hx] at hv
    have hye := hr.sc hy
    have hown : OwnAt (ι id) ob.size 0 len (a.eval x) := by
      cases hv with
      | own q1 q2 q3 r =>
        rw [show (St.mk T O).O[id]? = some ob from ho] at q1
        cases q1
        exact q3 he.symm
    cases hs : ι id with
    | none =>
      rw [hs] at hown
      obtain ⟨hxe, _, _⟩ := hown
      refine ⟨.slice none 0 0, ?_, .own ho (by omega) (fun _ => by rw [hs]; exact ⟨rfl, rfl, rfl⟩) .nil⟩
      have hrun : (Instr.sliceAt t (.slice none 0 0) none (some (.int kk 0)) none).run P w = .ok (.slice none 0 0) w := by
        simp [Instr.sliceAt, Instr.slice, run_underlying hu, Instr.sliceBounds, Instr.sliceBound, asIntOf, run_sizeOf hinf hk, Sem.run_bind]
      simp [execOp, hxe, hye, hrun, Sem.run_bind]
    | some p =>
      obtain ⟨bb, kb⟩ := p
      rw [hs] at hown
      obtain ⟨cap, hxe, h1, h2, h3⟩ := hown
      have hrun := run_sliceSl hu hinf hk ⟨bb, 0, none⟩ len cap none (some (.int kk 0)) 0 0 (.inl ⟨rfl, rfl⟩) (.inr ⟨kk, rfl⟩) (by omega) w
      have e1 : (if cap = 0 then (⟨bb, 0, none⟩ : Addr) else (⟨bb, 0, none⟩ : Addr).add (0 * k)) = ⟨bb, 0, none⟩ := by
        split
        · rfl
        · rw [addr_add]; simp
      rw [e1, Nat.sub_zero, Nat.sub_zero] at hrun
      refine ⟨.slice (some ⟨bb, 0, none⟩) 0 cap, by simp [execOp, hxe, hye, hrun, Sem.run_bind], .own ho (by omega) (fun _ => by rw [hs]; exact ⟨cap, rfl, h1, Nat.zero_le _, h3⟩) .nil⟩) h
/-- append of so many zeros to a nil slice; its cells are left unsaid. -/
theorem WpL.appZeros (hP : TabOk P tab) {t u e k b id : Nat} {zs : List AV} {x y : Operand} {kn : IntKind} {p : Nat} (ht : tlook tab t = some (.slice e k b zs)) (hut : tlook tab u = some (.int kn)) (hx : av T x = .nilS) (hy : av T y = .sc (.int .i64 p))
    (hp : 0 < p) (hb : p * b ≤ 140737488355328 ∧ p ≤ 9223372036854775807) (hid : nid O 0 = some id) (hn : d < n)
    (h : WpL P n m G false ops l ⟨(d, .own id 0 0 p) :: T, O ++ [⟨[], 0, k, some e⟩]⟩ Q) :
    WpL P n m G false ops ({ dst := some d, op := .call { callee := .builtin .append, args := #[x, y], argTypes := #[t, u] }, type := tt, pos := pos, after := after, guard := none } :: l) ⟨T, O⟩ Q :=
  WpL.value rfl (fun a w hr => by
    obtain ⟨S, ι, F, hr⟩ := hr
    have hid : id = O.length := by have := nid_eq hid; omega
    subst hid
    obtain ⟨hu, i, z, hi, hz, hk, hby, hzk, hk0, _⟩ := hP.slice ht
    have htn := (hP.ty hut).1
    have hv := hr.eval x
    rw [show av (St.mk T O).T x = _ from hx] at hv
    have hxe := (LRel.slice_len hv).2.2 rfl
    have hye := hr.sc hy
    have hrun := Lib.run_append_nil_zeros (P := P) w t u tt e i z .i64 kn hu htn hi hz p hp (by omega) (by omega) (by rw [hby]; omega)
    have hcap := grownCap_ge w p 0 e
    have hcm := grownCap_le_maxLen w p 0 e (by simp only [maxLen]; omega)
    have hsz : (Builtin.zeroCells z.cells p ++ Builtin.zeroCells z.cells (grownCap w p 0 e - p)).size = grownCap w p 0 e * k := by
      simp only [Array.size_append, zeroCells_size, hzk, ← Nat.add_mul]
      congr 1; omega
    have hr' := hr.alloc (ob := ⟨[], 0, k, some e⟩) (cur := Builtin.zeroCells z.cells p ++ Builtin.zeroCells z.cells (grownCap w p 0 e - p)) (t := e) (fz := (0, 0)) (adds_drew_alloc w _) (by simp; exact .nil) (by simp) (by simp) (by simp)
    refine ⟨.slice (some ⟨w.heap.size, 0, none⟩) p (grownCap w p 0 e), _, by simp only [execOp, resolve, invoke, builtin, Sem.run_bind, Sem.run_pure, Result.andThen_ok, List.map_toArray, List.map_cons, List.map_nil, hxe, hye, hrun], _, _, _, hr'.put hn ?_⟩
    exact own_new (ob := ⟨[], 0, k, some e⟩) hsz.symm hcap hcm) h
/-- A row that a slice of slices owns: it becomes an object of its own. -/
theorem WpL.loadOwnLi (hP : TabOk P tab) {t : TypeId} {x : Operand} {ty : Ty} {id ep sz off : Nat} {te : Option TypeId} {M : List (List Int)} (ht : tlook tab t = some ty) (hp : ty.plain = true) (hx : av T x = .ptr id ep off) (ho : O[id]? = some ⟨rows liF M, ep, sz, te⟩)
    (hi : off < M.length) (hn : d < n) {j : Nat} (hcnt : cnt O.length 0 = some j)
    (h : WpL P n m G false ops l ⟨(d, .own j 0 0 (M.getD off default).length) :: T, O.set id ⟨(rows liF M).set off (.own j 0 0 (M.getD off default).length), ep, sz, te⟩ ++ [⟨ints (M.getD off default), 0, 1, none⟩]⟩ Q) :
    WpL P n m G false ops ({ dst := some d, op := .load t x, type := tt, pos := pos, after := after, guard := none } :: l) ⟨T, O⟩ Q := by
  have e : off * 1 + 0 = off := by omega
  refine WpL.loadOwn (f := liF) (xs := M) (i := off) (k := 1) (o := 0) (s := 1) (len := (M.getD off default).length) (cs := ints (M.getD off default)) hP ht hp (by rw [e]; exact hx) ho (fun _ => rfl) rfl hi hn hcnt ?_
  rw [e]; exact h
end
end Go.Abs
