/- The table of types, and the rules of the operations that read memory. No condition. -/
import Derived.Test.YtepfjefdbpmobaaAbsC
namespace Go.Abs
open Go
set_option linter.unusedVariables false
set_option linter.unusedSimpArgs false

/-- What is needed of a type. slice: the element's type, its cells, its bytes, its zero cells. struct: the fields' places, the cells, the zero cells. -/
inductive Ty where
  | int (k : IntKind)
  | bool
  | string
  | slice (e k b : Nat) (zs : List AV)
  | struct (offs : List Nat) (k : Nat) (zs : List AV)
  | ptr
  | other

def tlook : List (Nat × Ty) → Nat → Option Ty
  | [], _ => none
  | (k, V) :: r, t => match Nat.beq k t with | true => some V | false => tlook r t

def fieldB (P : Program) (fs : Array Field) (f : Nat) : Option Nat :=
  match fs[f]? with
  | some fl => match P.info? fl.type with
    | some i => if i.size = 0 then none else some fl.offset
    | none => none
  | none => none

def ScOk (P : Program) (t : TypeId) (v : Value) : Prop := (P.info? t).map (fun i => (i.zero, i.size)) = some (some v, 1)

def TyOk (P : Program) (t : TypeId) : Ty → Prop
  | .int k => P.underlying t = some (.int k) ∧ ScOk P t (.int k 0)
  | .bool => P.underlying t = some .bool ∧ ScOk P t (.bool false)
  | .string => P.underlying t = some .string ∧ ScOk P t (.string ⟨#[]⟩)
  | .slice e k b zs => P.underlying t = some (.slice e) ∧ ScOk P t (.slice none 0 0) ∧
      ∃ z, (P.info? e).map (fun i => (i.zero, i.size, i.bytes)) = some (some z, k, b) ∧ z.cells.size = k ∧ 0 < k ∧ zs = z.cells.toList.map zav
  | .struct offs k zs => ∃ fs, P.underlying t = some (.struct fs) ∧ (∃ z, (P.info? t).map (fun i => (i.zero, i.size)) = some (some z, k) ∧ z.cells.size = k ∧ zs = z.cells.toList.map zav) ∧
      ∀ f o, offs[f]? = some o → fieldB P fs f = some o
  | .ptr => (∃ e, P.underlying t = some (.pointer e)) ∧ ScOk P t (.pointer none)
  | .other => True

def TabOk (P : Program) (tab : List (Nat × Ty)) : Prop := ∀ p, p ∈ tab → TyOk P p.1 p.2

theorem TabOk.ty {P tab} (h : TabOk P tab) {t : Nat} {ty : Ty} (ht : tlook tab t = some ty) : TyOk P t ty := by
  induction tab with
  | nil => simp [tlook] at ht
  | cons p r ih =>
    obtain ⟨k, V⟩ := p
    unfold tlook at ht
    cases hb : Nat.beq k t with
    | true =>
      rw [hb] at ht
      simp only [Option.some.injEq] at ht
      subst ht
      have := Nat.eq_of_beq_eq_true hb
      subst this
      exact h _ (List.mem_cons_self)
    | false =>
      rw [hb] at ht
      exact ih (fun p hp => h p (List.mem_cons_of_mem _ hp)) ht

theorem lrel_zav {S w ι O} (vs : List Value) : LRel S w ι O (vs.map zav) vs [] := by
  induction vs with
  | nil => exact .nil
  | cons v vs ih =>
    simp only [List.map_cons]
    unfold zav
    split
    · exact .nilS ih
    · exact .sc ih

def ints (xs : List Int) : List AV := xs.map fun n => .sc (.int .i64 n)
def u8s (xs : List Int) : List AV := xs.map fun n => .sc (.int .u8 n)
def bools (xs : List Bool) : List AV := xs.map fun b => .sc (.bool b)
def strs (xs : List (List UInt8)) : List AV := xs.map fun p => .sc (.string ⟨p.toArray⟩)
@[simp] theorem length_ints (xs : List Int) : (ints xs).length = xs.length := by simp [ints]
@[simp] theorem length_u8s (xs : List Int) : (u8s xs).length = xs.length := by simp [u8s]
@[simp] theorem length_bools (xs : List Bool) : (bools xs).length = xs.length := by simp [bools]
@[simp] theorem length_strs (xs : List (List UInt8)) : (strs xs).length = xs.length := by simp [strs]
theorem get_ints {xs : List Int} {i : Nat} (h : i < xs.length) : (ints xs)[i]? = some (.sc (.int .i64 (xs.getD i 0))) := by simp [ints, h]
theorem get_u8s {xs : List Int} {i : Nat} (h : i < xs.length) : (u8s xs)[i]? = some (.sc (.int .u8 (xs.getD i 0))) := by simp [u8s, h]
theorem get_bools {xs : List Bool} {i : Nat} (h : i < xs.length) : (bools xs)[i]? = some (.sc (.bool (xs.getD i false))) := by simp [bools, h]
theorem get_strs {xs : List (List UInt8)} {i : Nat} (h : i < xs.length) : (strs xs)[i]? = some (.sc (.string ⟨(xs.getD i []).toArray⟩)) := by simp [strs, h]

/-- The cells that a pointer points into, and where. -/
def reg (O : List AObj) : AV → Option (List AV × Nat)
  | .iptr cs off => some (cs, off)
  | .ptr id ep off => match O[id]? with
    | some ob => match Nat.beq ob.ep ep with
      | true => some (ob.cells, off)
      | false => none
    | none => none
  | _ => none

def AV.nofre : AV → Bool
  | .fre _ _ _ => false
  | .agg _ => false
  | .tup _ => false
  | _ => true

theorem nofre_nil {S w ι O V x f} (h : VRel S w ι O V x f) (hn : V.nofre = true) : f = [] := by
  cases h with
  | agg => simp [AV.nofre] at hn
  | tup => simp [AV.nofre] at hn
  | fre => simp [AV.nofre] at hn
  | _ => rename_i hh; cases hh; rfl

/-- What a pointer's value is, and the cells behind it. -/
theorem reg_cells {S w ι O F V x cells off} (ho : ORel S w ι O F) (hv : VRel S w ι O V x []) (hr : reg O V = some (cells, off)) :
    ∃ b o us g, x = .pointer (some ⟨b, o + off, none⟩) ∧ (∀ i, i < us.length → w.cell? ⟨b, o + i, none⟩ = us[i]?) ∧ LRel S w ι O cells us g := by
  unfold reg at hr
  split at hr
  · simp only [Option.some.injEq, Prod.mk.injEq] at hr
    obtain ⟨rfl, rfl⟩ := hr
    cases hv with
    | iptr hS hc hl r => exact ⟨_, _, _, _, rfl, hc, hl.lift⟩
  · rename_i id ep off'
    split at hr
    · rename_i ob hob
      split at hr
      · rename_i hep
        simp only [Option.some.injEq, Prod.mk.injEq] at hr
        obtain ⟨rfl, rfl⟩ := hr
        have hep := Nat.eq_of_beq_eq_true hep
        cases hv with
        | ptr a b c r =>
          rw [hob] at a
          cases a
          have hc := c hep.symm
          have hob' := ho.obj _ _ hob
          cases hs : ι id with
          | none => rw [hs] at hc; exact hc.elim
          | some p =>
            obtain ⟨b', k⟩ := p
            rw [hs] at hc hob'
            obtain ⟨cur, t, fz, f', _, hh, hk, hle, _, _, hl⟩ := hob'
            refine ⟨b', 0, _, _, by rw [Nat.zero_add]; exact hc, fun i hi => ?_, hl⟩
            rw [Nat.zero_add, cell_of_row w b' i cur t fz hh, List.getElem?_take]
            have : i < ob.cells.length := by
              have := hl.len; omega
            rw [if_pos this]; simp
      · simp at hr
    · simp at hr
  · simp at hr

section
variable {P : Program} {n m : Nat} {G : Ctx} {md : Bool} {T : List (Nat × AV)} {O : List AObj} {Q : Exit → St → Prop} {ops : Array Oper} {l : List Oper} {d : Nat} {tt : TypeId} {pos : String} {after : Array Edge} {tab : List (Nat × Ty)}

theorem run_sizeOf {P : Program} {t k : Nat} {i : TypeInfo} (hi : P.info? t = some i) (hk : i.size = k) (w : World) : (sizeOf t).run P w = .ok k w := by
  simp [sizeOf, typeInfo, hi, hk]

/-- Not a struct, not an array. -/
def Ty.plain : Ty → Bool
  | .struct _ _ _ => false
  | .other => false
  | _ => true

theorem run_isAgg_plain {t : Nat} {ty : Ty} (h : TyOk P t ty) (hp : ty.plain = true) (w : World) : (isAgg t).run P w = .ok false w := by
  cases ty <;> simp [Ty.plain] at hp
  case int k => simp [isAgg, run_underlying h.1]
  case bool => simp [isAgg, run_underlying h.1]
  case string => simp [isAgg, run_underlying h.1]
  case slice => simp [isAgg, run_underlying h.1]
  case ptr => obtain ⟨e, he⟩ := h.1; simp [isAgg, run_underlying he]

theorem RelAt.reg {S ι F a w} (hr : RelAt n m G S ι F ⟨T, O⟩ a w) {x : Operand} {cells : List AV} {off : Nat} (hm : reg O (av T x) = some (cells, off)) :
    ∃ b o us g, a.eval x = .pointer (some ⟨b, o + off, none⟩) ∧ (∀ i, i < us.length → w.cell? ⟨b, o + i, none⟩ = us[i]?) ∧ LRel S w ι O cells us g :=
  reg_cells hr.objs (hr.eval x) hm

theorem WpL.load1 (hP : TabOk P tab) {t : TypeId} {x : Operand} {ty : Ty} {cells : List AV} {off : Nat} {V : AV} (ht : tlook tab t = some ty) (hp : ty.plain = true) (hm : Abs.reg O (av T x) = some (cells, off))
    (hv : cells[off]? = some V) (hf : V.nofre = true) (hn : d < n) (h : WpL P n m G md ops l ⟨(d, V) :: T, O⟩ Q) :
    WpL P n m G md ops ({ dst := some d, op := .load t x, type := tt, pos := pos, after := after, guard := none } :: l) ⟨T, O⟩ Q :=
  WpL.pure rfl rfl hn (fun S ι F a w hr => by
    obtain ⟨b, o, us, g, hx, hc, hl⟩ := hr.reg hm
    obtain ⟨v, g', hv', hV, _⟩ := hl.get hv
    have := nofre_nil hV hf
    subst this
    refine ⟨v, ?_, hV⟩
    have hlt : off < us.length := (List.getElem?_eq_some_iff.1 hv').1
    have hcell : w.cell? ⟨b, o + off, none⟩ = some v := by rw [hc off hlt, hv']
    simp [execOp, Instr.loadAt, Instr.sureAddr, hx, loadVar, run_isAgg_plain (hP.ty ht) hp, load, hcell, Sem.run_bind, Sem.run]) h

theorem WpL.loadInts (hP : TabOk P tab) {t : TypeId} {x : Operand} {ty : Ty} {xs : List Int} {off : Nat} (ht : tlook tab t = some ty) (hp : ty.plain = true) (hm : Abs.reg O (av T x) = some (ints xs, off))
    (hb : off < xs.length) (hn : d < n) (h : WpL P n m G md ops l ⟨(d, .sc (.int .i64 (xs.getD off 0))) :: T, O⟩ Q) :
    WpL P n m G md ops ({ dst := some d, op := .load t x, type := tt, pos := pos, after := after, guard := none } :: l) ⟨T, O⟩ Q :=
  WpL.load1 hP ht hp hm (get_ints hb) rfl hn h
theorem WpL.loadU8s (hP : TabOk P tab) {t : TypeId} {x : Operand} {ty : Ty} {xs : List Int} {off : Nat} (ht : tlook tab t = some ty) (hp : ty.plain = true) (hm : Abs.reg O (av T x) = some (u8s xs, off))
    (hb : off < xs.length) (hn : d < n) (h : WpL P n m G md ops l ⟨(d, .sc (.int .u8 (xs.getD off 0))) :: T, O⟩ Q) :
    WpL P n m G md ops ({ dst := some d, op := .load t x, type := tt, pos := pos, after := after, guard := none } :: l) ⟨T, O⟩ Q :=
  WpL.load1 hP ht hp hm (get_u8s hb) rfl hn h
theorem WpL.loadBools (hP : TabOk P tab) {t : TypeId} {x : Operand} {ty : Ty} {xs : List Bool} {off : Nat} (ht : tlook tab t = some ty) (hp : ty.plain = true) (hm : Abs.reg O (av T x) = some (bools xs, off))
    (hb : off < xs.length) (hn : d < n) (h : WpL P n m G md ops l ⟨(d, .sc (.bool (xs.getD off false))) :: T, O⟩ Q) :
    WpL P n m G md ops ({ dst := some d, op := .load t x, type := tt, pos := pos, after := after, guard := none } :: l) ⟨T, O⟩ Q :=
  WpL.load1 hP ht hp hm (get_bools hb) rfl hn h
theorem WpL.loadStrs (hP : TabOk P tab) {t : TypeId} {x : Operand} {ty : Ty} {xs : List (List UInt8)} {off : Nat} (ht : tlook tab t = some ty) (hp : ty.plain = true) (hm : Abs.reg O (av T x) = some (strs xs, off))
    (hb : off < xs.length) (hn : d < n) (h : WpL P n m G md ops l ⟨(d, .sc (.string ⟨(xs.getD off []).toArray⟩)) :: T, O⟩ Q) :
    WpL P n m G md ops ({ dst := some d, op := .load t x, type := tt, pos := pos, after := after, guard := none } :: l) ⟨T, O⟩ Q :=
  WpL.load1 hP ht hp hm (get_strs hb) rfl hn h

theorem lrel_nofre_nil {S w ι O cs vs f} (h : LRel S w ι O cs vs f) (hn : cs.all AV.nofre = true) : f = [] := by
  induction cs generalizing vs f with
  | nil => cases h; rfl
  | cons c cs ih =>
    obtain ⟨v, vs', f1, f2, rfl, hv, hr, rfl⟩ := h.uncons
    simp only [List.all_cons, Bool.and_eq_true] at hn
    rw [nofre_nil hv hn.1, ih hr hn.2]; rfl

/-- A struct is loaded whole. -/
theorem WpL.loadAgg (hP : TabOk P tab) {t : TypeId} {x : Operand} {offs : List Nat} {k : Nat} {zs cells ds : List AV} {off : Nat} (ht : tlook tab t = some (.struct offs k zs)) (hm : Abs.reg O (av T x) = some (cells, off))
    (hv : (cells.drop off).take k = ds) (hk : ds.length = k) (hf : ds.all AV.nofre = true) (hn : d < n) (h : WpL P n m G md ops l ⟨(d, .agg ds) :: T, O⟩ Q) :
    WpL P n m G md ops ({ dst := some d, op := .load t x, type := tt, pos := pos, after := after, guard := none } :: l) ⟨T, O⟩ Q :=
  WpL.pure rfl rfl hn (fun S ι F a w hr => by
    obtain ⟨b, o, us, g, hx, hc, hl⟩ := hr.reg hm
    obtain ⟨g1, h1, _, _⟩ := hl.drop off
    obtain ⟨g2, h2, _, _⟩ := h1.take k
    rw [hv] at h2
    have := lrel_nofre_nil h2 hf
    subst this
    refine ⟨.agg ((us.drop off).take k).toArray, ?_, by simpa using LRel.agg h2 .nil⟩
    obtain ⟨fs, hu, ⟨z, hz, _⟩, _⟩ := hP.ty ht
    have hagg : (isAgg t).run P w = .ok true w := by simp [isAgg, run_underlying hu]
    obtain ⟨i, hi, hi2⟩ : ∃ i, P.info? t = some i ∧ i.size = k := by
      cases hh : P.info? t with
      | none => simp [hh] at hz
      | some i => rw [hh] at hz; simp at hz; exact ⟨i, rfl, hz.2⟩
    have hlen : ((us.drop off).take k).length = k := by rw [← h2.len, hk]
    have hcs : ∀ j v, ((us.drop off).take k)[j]? = some v → w.cell? ((⟨b, o + off, none⟩ : Addr).add j) = some v := by
      intro j v hj
      have hjk : j < ((us.drop off).take k).length := (List.getElem?_eq_some_iff.1 hj).1
      rw [hlen] at hjk
      rw [List.getElem?_take, if_pos hjk, List.getElem?_drop] at hj
      have hlt : off + j < us.length := (List.getElem?_eq_some_iff.1 hj).1
      have := hc (off + j) hlt
      rw [hj] at this
      unfold Addr.add
      split
      · rename_i h0; subst h0; simpa using this
      · simpa [Nat.add_assoc] using this
    have hld : (loadCells ⟨b, o + off, none⟩ k).run P w = .ok ((us.drop off).take k).toArray w := by
      have := run_loadCells_list (P := P) w ⟨b, o + off, none⟩ _ hcs
      rwa [hlen] at this
    simp [execOp, Instr.loadAt, Instr.sureAddr, hx, loadVar, hagg, run_sizeOf hi hi2, hld, Sem.run_bind]) h

end
end Go.Abs
