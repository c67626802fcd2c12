/- Structs written out. No condition. -/
import Derived.Test.YtepfjefdbpmobaaAbsV
import Derived.Laws.Tables
namespace Go.Abs
open Go
set_option linter.unusedVariables false
set_option linter.unusedSimpArgs false

/-- Cells written over others from a place on. -/
def wrC : List AV → Nat → List AV → Option (List AV)
  | [], _, [] => some []
  | [], _, _ :: _ => none
  | z :: zs, 0, [] => some (z :: zs)
  | z :: zs, 0, d :: ds => match wrC zs 0 ds with
    | none => none
    | some r => some (d :: r)
  | z :: zs, off + 1, ds => match wrC zs off ds with
    | none => none
    | some r => some (z :: r)
theorem wrC_eq : ∀ {zs : List AV} {off : Nat} {ds r : List AV}, wrC zs off ds = some r → r = zs.take off ++ ds ++ zs.drop (off + ds.length)
  | [], off, [], r, h => by simp [wrC] at h; subst h; simp
  | [], _, _ :: _, r, h => by simp [wrC] at h
  | z :: zs, 0, [], r, h => by simp [wrC] at h; subst h; simp
  | z :: zs, 0, d :: ds, r, h => by
    rw [wrC] at h
    cases hr : wrC zs 0 ds with
    | none => rw [hr] at h; cases h
    | some r' =>
      rw [hr] at h; cases h
      have := wrC_eq hr; subst this
      simp [Nat.add_comm]
  | z :: zs, off + 1, ds, r, h => by
    rw [wrC] at h
    cases hr : wrC zs off ds with
    | none => rw [hr] at h; cases h
    | some r' =>
      rw [hr] at h; cases h
      have := wrC_eq hr; subst this
      simp [Nat.add_right_comm]
/-- The cells of a struct written out, and what must hold of the fields' places and sizes. -/
def bldC (T : List (Nat × AV)) (O : List AObj) (offs : List Nat) : List AV → List (Nat × Operand) → Option (List AV × List (Nat × Nat × Nat))
  | zs, [] => some (zs, [])
  | zs, (i, x) :: r => match offs[i]? with
    | none => none
    | some off => match (av T x).force with
      | none => none
      | some V => match cellsV O V with
        | none => none
        | some ds => match Nat.ble (off + ds.length) zs.length with
          | false => none
          | true => match wrC zs off ds with
            | none => none
            | some zs' => match bldC T O offs zs' r with
              | none => none
              | some (cs, q) => some (cs, (i, off, ds.length) :: q)
def buildB (P : Program) (t : TypeId) (q : List (Nat × Nat × Nat)) : Bool := match P.underlying t with
  | some (.struct fs) => match fs.toList.mapM (fun f => (P.info? f.type).map fun i => (f.offset, i.size)) with
    | some places => q.all fun r => match places[r.1]? with | some p => Nat.beq p.1 r.2.1 && Nat.beq p.2 r.2.2 | none => false
    | none => false
  | _ => false

theorem lrel_nil_of {S : Nat → Prop} {w : World} {ι : Nat → Spot} {O : List AObj} {cs vs g} (h : LRel S w ι O cs vs g) (hg : ∀ b ∈ g, b ∈ ([] : List Nat)) : LRel S w ι O cs vs [] := by
  have : g = [] := List.eq_nil_iff_forall_not_mem.2 fun b hb => by cases hg b hb
  subst this; exact h
theorem bldC_rel {n m G S ι F T O a w} (hr : RelAt n m G S ι F ⟨T, O⟩ a w) {offs : List Nat} (places : Nat → Option (Nat × Nat)) : ∀ {parts : List (Nat × Operand)} {zs cs : List AV} {q : List (Nat × Nat × Nat)} {us : Array Value}, bldC T O offs zs parts = some (cs, q) → (∀ r ∈ q, places r.1 = some r.2) →
    LRel S w ι O zs us.toList [] → ∃ out : Array Value, Instr.fill places us (parts.map fun p => (p.1, a.eval p.2)) = some out ∧ LRel S w ι O cs out.toList []
  | [], zs, cs, q, us, h, hq, hl => by
    simp only [bldC, Option.some.injEq, Prod.mk.injEq] at h
    obtain ⟨rfl, rfl⟩ := h
    exact ⟨us, rfl, hl⟩
  | (i, x) :: parts, zs, cs, q, us, h, hq, hl => by
    simp only [bldC] at h
    split at h
    · cases h
    rename_i off hoff
    split at h
    · cases h
    rename_i V hV
    split at h
    · cases h
    rename_i ds hds
    split at h
    · cases h
    rename_i hble
    split at h
    · cases h
    rename_i zs' hzs
    split at h
    · cases h
    rename_i cs' q' hrest
    cases h
    have hp := hq (i, off, ds.length) (by simp)
    have hv := hr.eval x
    rw [show av (St.mk T O).T x = V from AV.force_eq hV] at hv
    have hc := cellsV_rel hv hds
    have hlen := hc.len
    have hzl : zs.length = us.size := by simpa using hl.len
    have hle := Nat.le_of_ble_eq_true hble
    have e := wrC_eq hzs
    have hsz : (a.eval x).cells.size = ds.length := by rw [hlen]; simp
    have hf := fold_set (a.eval x).cells.toList 0 off us (by rw [← hlen]; omega)
    obtain ⟨g1, t1, k1, _⟩ := hl.take off
    obtain ⟨g2, t2, k2, _⟩ := hl.drop (off + ds.length)
    have l1 := lrel_nil_of t1 k1
    have l2 := lrel_nil_of t2 k2
    have hnew : LRel S w ι O zs' ((((a.eval x).cells.toList.zipIdx 0).foldl (fun cs (c, q) => cs.setIfInBounds (off + q) c) us).toList) [] := by
      rw [hf, e, ← hlen]
      simpa using (l1.append hc).append l2
    have hz : (a.eval x).cells.zipIdx.foldl (fun cs (c, q) => cs.setIfInBounds (off + q) c) us = ((a.eval x).cells.toList.zipIdx 0).foldl (fun cs (c, q) => cs.setIfInBounds (off + q) c) us := by
      rw [← Array.foldl_toList, Array.toList_zipIdx]
    rw [← hz] at hnew
    obtain ⟨out, ho, hlo⟩ := bldC_rel hr places hrest (fun r hr => hq r (by simp [hr])) hnew
    refine ⟨out, ?_, hlo⟩
    simp only [List.map_cons]
    rw [Instr.fill, hp]
    have hng : ¬ (off + ds.length > us.size) := by omega
    simp only [hsz, ne_eq, not_true_eq_false, decide_false, hng, Bool.or_false, Bool.false_eq_true, if_false]
    exact ho
section
variable {P : Program} {n m : Nat} {G : Ctx} {T : List (Nat × AV)} {O : List AObj} {Q : Exit → St → Prop} {ops : Array Oper} {l : List Oper} {d : Nat} {tt : TypeId} {pos : String} {after : Array Edge} {tab : List (Nat × Ty)}
theorem WpL.build (hP : TabOk P tab) {t k : Nat} {offs : List Nat} {zs cs : List AV} {parts : List (Nat × Operand)} {q : List (Nat × Nat × Nat)} (ht : tlook tab t = some (.struct offs k zs)) (hc : bldC T O offs zs parts = some (cs, q)) (hb : buildB P t q = true) (hn : d < n)
    (h : WpL P n m G false ops l ⟨(d, .agg cs) :: T, O⟩ Q) :
    WpL P n m G false ops ({ dst := some d, op := .build t parts.toArray, type := tt, pos := pos, after := after, guard := none } :: l) ⟨T, O⟩ Q :=
  WpL.value rfl (fun a w hr => by
    obtain ⟨S, ι, F, hr⟩ := hr
    obtain ⟨fs, hu, ⟨z, hz, hzk, hzs⟩, _⟩ := hP.ty ht
    unfold buildB at hb
    rw [hu] at hb
    simp only at hb
    split at hb
    · rename_i places hpl
      have hq : ∀ r ∈ q, (fun i => places.toArray[i]?) r.1 = some r.2 := by
        intro r hr
        have := List.all_eq_true.1 hb r hr
        show places.toArray[r.1]? = some r.2
        simp only [List.getElem?_toArray]
        split at this
        · rename_i p hp
          simp only [Bool.and_eq_true] at this
          rw [hp]; exact congrArg some (Prod.ext (Nat.eq_of_beq_eq_true this.1) (Nat.eq_of_beq_eq_true this.2))
        · cases this
      have hl0 : LRel S w ι O zs z.cells.toList [] := by rw [hzs]; exact lrel_zav _
      obtain ⟨out, ho, hl⟩ := bldC_rel hr _ hc hq hl0
      refine ⟨.agg out, w, ?_, S, ι, F, hr.put hn ?_⟩
      · have hbt : P.built t ((parts.toArray.map fun (i, x) => (i, a.eval x)).toList) = some out := by
          unfold Program.built
          cases hit : P.info? t with
          | none => rw [hit] at hz; simp at hz
          | some it =>
            rw [hit] at hz
            simp only [Option.map_some, Option.some.injEq, Prod.mk.injEq] at hz
            simp only [hu, hz.1, hpl]
            rw [Array.toList_map]; exact ho
        have hrun := run_build w t (parts.toArray.map fun (i, x) => (i, a.eval x)) out hbt
        simp only [execOp, Sem.run_bind]
        simp at hrun ⊢
        rw [hrun]; rfl
      · have := LRel.agg (us := out.toList) hl .nil
        simpa using this
    · cases hb) h
/-- A row of a slice of slices of numbers. -/
theorem WpL.loadLi (hP : TabOk P tab) {t : TypeId} {x : Operand} {ty : Ty} {off : Nat} {M : List (List Int)} (ht : tlook tab t = some ty) (hp : ty.plain = true) (hm : Abs.reg O (av T x) = some (rows liI M, off)) (hi : off < M.length) (hn : d < n)
    (h : WpL P n m G false ops l ⟨(d, .imm 1 (M.getD off default).length (ints (M.getD off default))) :: T, O⟩ Q) :
    WpL P n m G false ops ({ dst := some d, op := .load t x, type := tt, pos := pos, after := after, guard := none } :: l) ⟨T, O⟩ Q := by
  have hg := rows_get (f := liI) (k := 1) (o := 0) (V := .imm 1 (M.getD off default).length (ints (M.getD off default))) (fun _ => rfl) hi rfl
  rw [show off * 1 + 0 = off by omega] at hg
  exact WpL.load1 hP ht hp hm hg rfl hn h
/-- A cell that is told by itself. -/
theorem WpL.loadSlot (hP : TabOk P tab) {t : TypeId} {x : Operand} {ty : Ty} {id ep off i sz : Nat} {te : Option TypeId} {cs : List AV} {V : AV} (ht : tlook tab t = some ty) (hp : ty.plain = true) (hx : av T x = .ptr id ep off) (ho : O[id]? = some ⟨cs.set i V, ep, sz, te⟩)
    (hoff : off = i) (hi : i < cs.length) (hf : V.nofre = true) (hn : d < n) (h : WpL P n m G false ops l ⟨(d, V) :: T, O⟩ Q) :
    WpL P n m G false ops ({ dst := some d, op := .load t x, type := tt, pos := pos, after := after, guard := none } :: l) ⟨T, O⟩ Q := by
  subst hoff
  refine WpL.load1 hP ht hp (off := off) (cells := cs.set off V) ?_ (V := V) ?_ hf hn h
  · rw [hx]; simp only [Abs.reg, ho, Nat.beq_refl]
  · simp [hi]
theorem WpL.storeSlot (hP : TabOk P tab) {t : Nat} {ty : Ty} {x y : Operand} {id ep off i sz : Nat} {te : Option TypeId} {cs : List AV} {V W : AV} (ht : tlook tab t = some ty) (hx : av T x = .ptr id ep off)
    (ho : O[id]? = some ⟨cs.set i V, ep, sz, te⟩) (hy : (av T y).force = some W) (hW : oneB O W = true) (hk : ty.cellsN = some 1) (hoff : off = i) (hi : i < cs.length)
    (h : WpL P n m G false ops l ⟨T, O.set id ⟨cs.set i W, ep, sz, te⟩⟩ Q) :
    WpL P n m G false ops ({ dst := none, op := .store t x y, type := tt, pos := pos, after := after, guard := none } :: l) ⟨T, O⟩ Q := by
  subst hoff
  have hc : cellsV O W = some [W] := by
    cases W with
    | agg ds => simp [oneB] at hW
    | _ => simp only [cellsV, hW]
  refine WpL.store hP ht hx ho rfl hy hc hk (by simp [hW]) (by simp; omega) ?_
  have e : setL (cs.set off V) off [W] = cs.set off W := by simp [setL]
  simp only [e]; exact h
theorem Weak.nestLi {id i j epj len ep sz : Nat} {te tj : Option TypeId} {xs : List (List Int)} {lv : List Int} {σ' : St} (ho : O[id]? = some ⟨(rows liF xs).set i (.own j epj 0 len), ep, sz, te⟩) (hj : O[j]? = some ⟨ints lv, epj, 1, tj⟩) (hne : Nat.beq id j = false) (hm : m ≤ j) (hll : len = lv.length) (hi : i < xs.length)
    (h : Weak m ⟨T, (O.set id ⟨rows liF (xs.set i lv), ep, sz, te⟩).set j ⟨[], epj + 1, 0, none⟩⟩ σ') : Weak m ⟨T, O⟩ σ' := by
  subst hll
  exact Weak.nestRow (f := liF) (i := i) (k := 1) (o := 0) (b := lv) (by rw [show i * 1 + 0 = i by omega]; exact ho) hj hne hm rfl (still_ints _) (by simp) (fun _ => rfl) rfl hi rfl rfl h
theorem Weak.unnestLi {id i j ep sz : Nat} {te : Option TypeId} {xs : List (List Int)} {σ' : St} (ho : O[id]? = some ⟨rows liF xs, ep, sz, te⟩) (hi : i < xs.length) (hj : cnt O.length 0 = some j)
    (h : Weak m ⟨T, O.set id ⟨(rows liF xs).set i (.own j 0 0 (xs.getD i default).length), ep, sz, te⟩ ++ [⟨ints (xs.getD i default), 0, 1, none⟩]⟩ σ') : Weak m ⟨T, O⟩ σ' := by
  have hj := cnt_eq hj
  rw [Nat.add_zero] at hj
  subst hj
  refine Weak.trans ?_ h
  rintro n' G' a w ⟨S, ι, F, hr⟩
  have hg := rows_get (f := liF) (k := 1) (o := 0) (V := .fre 1 (xs.getD i default).length (ints (xs.getD i default))) (fun _ => rfl) hi rfl
  rw [show i * 1 + 0 = i by omega] at hg
  obtain ⟨ι', F', hr'⟩ := hr.unnest ho hg
  exact ⟨S, ι', F', hr'⟩
/-- New integers of which the block's type is not told. -/
theorem NEx.intsN {ids : List (Option Nat)} {id ep sz : Nat} {ty : Option TypeId} {xs ys : List Int} {N : List AObj} (ho : O[id]? = some ⟨Abs.ints xs, ep, sz, ty⟩) (h : xs = ys) (r : NEx O ids N) : NEx O (some id :: ids) (⟨Abs.ints ys, 0, sz, none⟩ :: N) :=
  .obj ho (by rw [h]) (still_ints _) rfl rfl (.inl rfl) r
end
/-- Whether the operations of the head that may make objects wait for each other, one behind the other. -/
def mayMake (o : Oper) : Bool := match o.op with
  | .makeSlice .. => true
  | .buildSlice .. => true
  | .alloc .. => true
  | .box .. => true
  | .call c => match c.callee with
    | .builtin _ => false
    | _ => true
  | _ => false
def ancs (ops : Array Oper) (k : Nat) : List (List Nat) := (List.range k).foldl (fun acc i => acc ++ [match ops[i]? with
  | some o => ((o.after.toList.filter fun e => Region.binds .any e).flatMap fun e => e.on :: acc.getD e.on []).eraseDups
  | none => []]) []
def ordP (ops : Array Oper) (k : Nat) : Bool := let A := ancs ops k; (List.range k).all fun i => match ops[i]? with
  | some o => !mayMake o || (List.range i).all fun j => match ops[j]? with
    | some u => !mayMake u || (A.getD i []).any fun q => Nat.beq q j
    | none => true
  | none => true
theorem WpA.regionNO {P : Program} {n m : Nat} {G : Ctx} {T0 : List (Nat × AV)} {l l1 l2 : List Oper} {id : Nat} {O O' : List AObj} {out : List Fact} {oc T1 : List (Nat × AV)} {c0 : Nat} {Q : Exit → St → Prop} (k : Nat) (hm : P.follows .mixedOrders = true) (hB : (mixB l.toArray k && bareN l.toArray k && ordP l.toArray k) = true)
    (hl : takeF k l = some l1) (hc : cnt O.length 0 = some c0) (hJ : HeadN P n m G l.toArray T0 c0 O [] l1 O' out) (hnd : TrueB (nodupB (out.map (·.1)))) (hfr : TrueB (out.all fun p => !has T0 p.1))
    (ho : factsF out = some oc) (hT1 : catF oc T0 = some T1) (h2 : l.drop k = l2) (h : WpL P n m G false l.toArray l2 ⟨T1, O'⟩ Q) : WpA P n m G (.region id l.toArray true) ⟨T0, O⟩ Q :=
  WpA.regionNB k hm (by simp only [Bool.and_eq_true] at hB ⊢; exact hB.1) hl hc hJ hnd hfr ho hT1 h2 h
end Go.Abs
