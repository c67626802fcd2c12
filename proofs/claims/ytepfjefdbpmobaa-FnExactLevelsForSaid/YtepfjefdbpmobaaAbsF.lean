/- The rules of the operations that make memory or write to it. No condition. -/
import Derived.Test.YtepfjefdbpmobaaAbsE
namespace Go.Abs
open Go
set_option linter.unusedVariables false
set_option linter.unusedSimpArgs false

/-- A new block, and no other change but draws. -/
structure Adds (w w' : World) (o : Obj) : Prop where
  os : w'.os = w.os
  tape : w'.tape = w.tape
  output : w'.output = w.output
  size : w'.heap.size = w.heap.size + 1
  old : ∀ {b : Nat}, b < w.heap.size → w'.heap[b]? = w.heap[b]?
  new : w'.heap[w.heap.size]? = some o

theorem Adds.push {w w' : World} {o : Obj} (h1 : w'.os = w.os) (h2 : w'.tape = w.tape) (h3 : w'.output = w.output) (h : w'.heap = w.heap.push o) : Adds w w' o :=
  ⟨h1, h2, h3, by rw [h]; simp, fun hb => by rw [h, Array.getElem?_push, if_neg (by omega)], by rw [h, Array.getElem?_push, if_pos rfl]⟩
theorem Adds.alloc (w : World) (o : Obj) : Adds w (w.alloc o) o := .push rfl rfl rfl rfl

def upd {α : Type} (f : Nat → α) (i : Nat) (v : α) : Nat → α := fun j => if j = i then v else f j
theorem upd_same {α : Type} (f : Nat → α) (i : Nat) (v : α) : upd f i v i = v := if_pos rfl
theorem upd_other {α : Type} (f : Nat → α) {i j : Nat} (v : α) (h : j ≠ i) : upd f i v j = f j := if_neg h

theorem getElem?_snoc {α : Type} (O : List α) (ob x : α) (id : Nat) (h : (O ++ [ob])[id]? = some x) : (id < O.length ∧ O[id]? = some x) ∨ (id = O.length ∧ x = ob) := by
  rw [List.getElem?_append] at h
  split at h
  · rename_i hlt; exact .inl ⟨hlt, h⟩
  · rename_i hge
    have : id - O.length = 0 := by
      rcases Nat.eq_zero_or_pos (id - O.length) with h0 | h0
      · exact h0
      · rw [List.getElem?_eq_none (by simp; omega)] at h; simp at h
    rw [this] at h
    simp at h
    exact .inr ⟨by omega, h.symm⟩

theorem RelAt.alloc {n m G S ι F T O a w} (hr : RelAt n m G S ι F ⟨T, O⟩ a w) {w' : World} {ob : AObj} {cur : Array Value} {t : TypeId} {fz : Nat × Nat} (hw : Adds w w' (.cells cur t fz))
    (hl : LRel S w ι O ob.cells (cur.toList.take ob.cells.length) []) (hlen : ob.cells.length ≤ cur.size) (hfz : ∀ i, i < cur.size → ¬ (fz.1 ≤ i ∧ i < fz.2)) (hty : ∀ e, ob.ty = some e → t = e ∧ fz = (0, 0)) :
    RelAt n m G S (upd ι O.length (some (w.heap.size, cur.size))) (upd F O.length [w.heap.size]) ⟨T, O ++ [ob]⟩ a w' := by
  have hlat : Later S w ι O S w' (upd ι O.length (some (w.heap.size, cur.size))) (O ++ [ob]) := by
    refine ⟨fun _ h => h, fun b hb => hw.old (hr.stable b hb), fun id ob' h => ?_⟩
    have hlt : id < O.length := (List.getElem?_eq_some_iff.1 h).1
    exact ⟨ob', by rw [List.getElem?_append_left hlt]; exact h, .inr ⟨rfl, rfl, upd_other _ _ (by omega)⟩⟩
  refine ⟨hr.defers, hr.size, fun t' => (hr.tmps t').mono hlat (by simp), ⟨fun id ob' h => ?_, fun id h => ?_, fun i j hi hj hij b hb => ?_⟩, fun id h b hb => ?_, hr.base, fun b hb => ?_, ?_, fun id h => ?_, ?_⟩
  · rcases getElem?_snoc O ob ob' id h with ⟨hlt, h⟩ | ⟨rfl, rfl⟩
    · rw [upd_other _ _ (by omega), upd_other _ _ (by omega)]
      have ho := hr.objs.obj id ob' h
      have hf := hr.foot id hlt
      unfold ObjAt at ho ⊢
      cases hs : ι id with
      | none => rw [hs] at ho; exact ho
      | some p =>
        obtain ⟨b, k⟩ := p
        rw [hs] at ho
        obtain ⟨cur', t', fz', f', h1, h2, h3, h4, h5, h6, h7⟩ := ho
        refine ⟨cur', t', fz', f', h1, ?_, h3, h4, h5, h6, h7.mono hlat fun b' hb' => hw.old (hf b' (by rw [h1]; simp [hb'])).2.2⟩
        rw [hw.old (hf b (by rw [h1]; simp)).2.2]; exact h2
    · rw [upd_same, upd_same]
      exact ⟨cur, t, fz, [], rfl, hw.new, rfl, hlen, hfz, hty, hl.mono hlat (by simp)⟩
  · simp only [List.length_append, List.length_cons, List.length_nil] at h
    by_cases he : id = O.length
    · subst he; rw [upd_same]; simp
    · rw [upd_other _ _ he]; exact hr.objs.nodup id (by show id < O.length; omega)
  · simp only [List.length_append, List.length_cons, List.length_nil] at hi hj
    by_cases h1 : i = O.length
    · subst h1
      rw [upd_same] at hb
      have hb : b = w.heap.size := by simpa using hb
      rw [upd_other _ _ (by omega)]
      intro hb'
      have := (hr.foot j (by show j < O.length; omega) b hb').2.2
      omega
    · rw [upd_other _ _ h1] at hb
      have hbl := (hr.foot i (by show i < O.length; omega) b hb).2.2
      by_cases h2 : j = O.length
      · subst h2; rw [upd_same]; simp; omega
      · rw [upd_other _ _ h2]; exact hr.objs.apart i j (by show i < O.length; omega) (by show j < O.length; omega) hij b hb
  · simp only [List.length_append, List.length_cons, List.length_nil] at h
    by_cases he : id = O.length
    · subst he
      rw [upd_same] at hb
      have hb : b = w.heap.size := by simpa using hb
      subst hb
      exact ⟨.inr hr.keeps.size, fun hS => by have := hr.stable _ hS; omega, by rw [hw.size]; omega⟩
    · rw [upd_other _ _ he] at hb
      obtain ⟨h1, h2, h3⟩ := hr.foot id (by show id < O.length; omega) b hb
      exact ⟨h1, h2, by rw [hw.size]; omega⟩
  · rw [hw.size]; have := hr.stable b hb; omega
  · exact ⟨hw.os.trans hr.keeps.os, hw.tape.trans hr.keeps.tape, hw.output.trans hr.keeps.output, by rw [hw.size]; have := hr.keeps.size; omega, fun b hb hM => by
      rw [hw.old (by have := hr.keeps.size; omega)]; exact hr.keeps.block b hb hM⟩
  · have hm := hr.mle
    have hm : m ≤ O.length := hm
    rw [upd_other _ _ (by omega)]; exact hr.spots id h
  · have hm : m ≤ O.length := hr.mle
    show m ≤ (O ++ [ob]).length
    simp; omega

/-- The number of the next object. -/
def nid : List AObj → Nat → Option Nat
  | [], k => some k
  | _ :: r, k => nid r (k + 1)

theorem nid_eq {O : List AObj} {k id : Nat} (h : nid O k = some id) : id = k + O.length := by
  induction O generalizing k with
  | nil => simp [nid] at h; simp [h]
  | cons a O ih => rw [nid] at h; have := ih h; simp; omega

theorem ptr_new {S w ι O ob b k off} : VRel S w (upd ι O.length (some (b, k))) (O ++ [ob]) (.ptr O.length ob.ep off) (.pointer (some ⟨b, off, none⟩)) [] :=
  .ptr (by simp) (Nat.le_refl _) (fun _ => by rw [upd_same]; rfl) .nil

/-- A value's cells. -/
def oneB (O : List AObj) : AV → Bool
  | .sc v => v.oneCell'
  | .nilS => true
  | .imm _ _ _ => true
  | .iptr _ _ => true
  | .fn _ _ => true
  | .ifc _ _ => true
  | .own id ep _ _ => match O[id]? with
    | some ob => Nat.beq ob.ep ep
    | none => false
  | .ptr id ep _ => match O[id]? with
    | some ob => Nat.beq ob.ep ep
    | none => false
  | _ => false

theorem one_of {S w ι O V x f} (h : VRel S w ι O V x f) (h1 : oneB O V = true) : x.oneCell' = true ∧ x.cells = #[x] ∧ f = [] := by
  cases h with
  | any => simp [oneB] at h1
  | sc r => cases r; simp only [oneB] at h1; refine ⟨h1, ?_, rfl⟩; cases x <;> simp_all [Value.oneCell', Value.cells]
  | agg => simp [oneB] at h1
  | tup => simp [oneB] at h1
  | nilS r => cases r; exact ⟨rfl, rfl, rfl⟩
  | imm0 _ r => cases r; exact ⟨rfl, rfl, rfl⟩
  | imm _ _ _ _ _ _ r => cases r; exact ⟨rfl, rfl, rfl⟩
  | fre0 => simp [oneB] at h1
  | fre => simp [oneB] at h1
  | own a b c r =>
    cases r
    rename_i id ep off len ob
    simp only [oneB, a] at h1
    have hc := c (Nat.eq_of_beq_eq_true h1).symm
    cases hs : ι id with
    | none => rw [hs] at hc; obtain ⟨h2, _⟩ := hc; subst h2; exact ⟨rfl, rfl, rfl⟩
    | some p => obtain ⟨b', k⟩ := p; rw [hs] at hc; obtain ⟨cap, h2, _⟩ := hc; subst h2; exact ⟨rfl, rfl, rfl⟩
  | ptr a b c r =>
    cases r
    rename_i id ep off ob
    simp only [oneB, a] at h1
    have hc := c (Nat.eq_of_beq_eq_true h1).symm
    cases hs : ι id with
    | none => rw [hs] at hc; exact hc.elim
    | some p => obtain ⟨b', k⟩ := p; rw [hs] at hc; have h2 : x = _ := hc; subst h2; exact ⟨rfl, rfl, rfl⟩
  | iptr _ _ _ r => cases r; exact ⟨rfl, rfl, rfl⟩
  | fn _ r => cases r; exact ⟨rfl, rfl, rfl⟩
  | ifc _ r => cases r; exact ⟨rfl, rfl, rfl⟩

/-- The cells of a value: a struct's, or itself. -/
def cellsV (O : List AObj) : AV → Option (List AV)
  | .agg ds => some ds
  | V => match oneB O V with
    | true => some [V]
    | false => none

theorem cellsV_rel {S w ι O V x f ds} (h : VRel S w ι O V x f) (hc : cellsV O V = some ds) : LRel S w ι O ds x.cells.toList f := by
  by_cases ha : ∃ es, V = .agg es
  · obtain ⟨es, rfl⟩ := ha
    simp only [cellsV, Option.some.injEq] at hc
    subst hc
    obtain ⟨us, rfl, hl⟩ := LRel.agg_inv h
    simpa [Value.cells] using hl
  · have h1 : oneB O V = true ∧ ds = [V] := by
      cases V <;> simp_all [cellsV] <;> split at hc <;> simp_all
    obtain ⟨_, h2, rfl⟩ := one_of h h1.1
    rw [h1.2, h2]
    simpa using h

section
variable {P : Program} {n m : Nat} {G : Ctx} {T : List (Nat × AV)} {O : List AObj} {Q : Exit → St → Prop} {ops : Array Oper} {l : List Oper} {d : Nat} {tt : TypeId} {pos : String} {after : Array Edge} {tab : List (Nat × Ty)}

/-- A variable of its own for a value ('box'); one that holds the zero value ('alloc'). -/
theorem WpL.box {t : Nat} {x : Operand} {V : AV} {ds : List AV} {id : Nat} (hx : (av T x).force = some V) (hd : cellsV O V = some ds) (hid : nid O 0 = some id) (hn : d < n)
    (h : WpL P n m G false ops l ⟨(d, .ptr id 0 0) :: T, O ++ [⟨ds, 0, 0, none⟩]⟩ Q) :
    WpL P n m G false ops ({ dst := some d, op := .box t x, type := tt, pos := pos, after := after, guard := none } :: l) ⟨T, O⟩ Q :=
  WpL.value rfl (fun a w hr => by
    obtain ⟨S, ι, F, hr⟩ := hr
    have hid : id = O.length := by have := nid_eq hid; omega
    subst hid
    have hv := hr.eval x
    rw [show av (St.mk T O).T x = V from AV.force_eq hx] at hv
    have hl := cellsV_rel hv hd
    have hlen := hl.len
    have hr' := hr.alloc (ob := ⟨ds, 0, 0, none⟩) (Adds.alloc w (.cells (a.eval x).cells t)) (by
      have : (a.eval x).cells.toList.take ds.length = (a.eval x).cells.toList := List.take_of_length_le (by omega)
      rw [this]; exact hl) (by simp at hlen ⊢; omega) (by simp) (by simp)
    refine ⟨.pointer (some ⟨w.heap.size, 0, none⟩), w.alloc (.cells (a.eval x).cells t), ?_, _, _, _, hr'.put hn ptr_new⟩
    simp [execOp, Instr.box, newVar, newRow, newObj, Sem.run_bind, Sem.run]) h

theorem WpL.allocStruct (hP : TabOk P tab) {t k : Nat} {offs : List Nat} {zs : List AV} {id : Nat} (ht : tlook tab t = some (.struct offs k zs)) (hid : nid O 0 = some id) (hn : d < n)
    (h : WpL P n m G false ops l ⟨(d, .ptr id 0 0) :: T, O ++ [⟨zs, 0, 0, none⟩]⟩ Q) :
    WpL P n m G false ops ({ dst := some d, op := .alloc t, type := tt, pos := pos, after := after, guard := none } :: l) ⟨T, O⟩ Q :=
  WpL.value rfl (fun a w hr => by
    obtain ⟨S, ι, F, hr⟩ := hr
    have hid : id = O.length := by have := nid_eq hid; omega
    subst hid
    obtain ⟨fs, hu, ⟨z, hz, hk, rfl⟩, _⟩ := hP.ty ht
    obtain ⟨i, hi, hi2⟩ : ∃ i, P.info? t = some i ∧ i.zero = some z := by
      cases hh : P.info? t with
      | none => simp [hh] at hz
      | some i => rw [hh] at hz; simp at hz; exact ⟨i, rfl, hz.1⟩
    have hr' := hr.alloc (ob := ⟨z.cells.toList.map zav, 0, 0, none⟩) (Adds.alloc w (.cells z.cells t)) (by
      have : z.cells.toList.take (z.cells.toList.map zav).length = z.cells.toList := List.take_of_length_le (by simp)
      rw [this]; exact lrel_zav _) (by simp) (by simp) (by simp)
    refine ⟨.pointer (some ⟨w.heap.size, 0, none⟩), w.alloc (.cells z.cells t), ?_, _, _, _, hr'.put hn ptr_new⟩
    simp [execOp, Instr.alloc, zeroValue, typeInfo, hi, hi2, newVar, newRow, newObj, Sem.run_bind, Sem.run]) h

def Ty.zero : Ty → Option AV
  | .int k => some (.sc (.int k 0))
  | .bool => some (.sc (.bool false))
  | .string => some (.sc (.string ⟨[].toArray⟩))
  | .slice _ _ _ _ => some .nilS
  | .ptr => some (.sc (.pointer none))
  | _ => none

theorem Ty.zero_info {t : Nat} {ty : Ty} {V : AV} (h : TyOk P t ty) (hz : ty.zero = some V) : ∃ i v, P.info? t = some i ∧ i.zero = some v ∧ v.cells = #[v] ∧ i.size = 1 ∧ (∀ S w ι O, VRel S w ι O V v []) := by
  have key : ∀ v, ScOk P t v → ∃ i, P.info? t = some i ∧ i.zero = some v ∧ i.size = 1 := by
    intro v hv
    unfold ScOk at hv
    cases hh : P.info? t with
    | none => simp [hh] at hv
    | some i => rw [hh] at hv; simp at hv; exact ⟨i, rfl, hv.1, hv.2⟩
  cases ty <;> simp [Ty.zero] at hz <;> subst hz
  case int k => obtain ⟨i, a, b, c⟩ := key _ h.2; exact ⟨i, _, a, b, rfl, c, fun _ _ _ _ => .sc .nil⟩
  case bool => obtain ⟨i, a, b, c⟩ := key _ h.2; exact ⟨i, _, a, b, rfl, c, fun _ _ _ _ => .sc .nil⟩
  case string => obtain ⟨i, a, b, c⟩ := key _ h.2; exact ⟨i, _, a, b, rfl, c, fun _ _ _ _ => .sc .nil⟩
  case slice => obtain ⟨i, a, b, c⟩ := key _ h.2.1; exact ⟨i, _, a, b, rfl, c, fun _ _ _ _ => .nilS .nil⟩
  case ptr => obtain ⟨i, a, b, c⟩ := key _ h.2; exact ⟨i, _, a, b, rfl, c, fun _ _ _ _ => .sc .nil⟩

theorem WpL.allocPlain (hP : TabOk P tab) {t : Nat} {ty : Ty} {V : AV} {id : Nat} (ht : tlook tab t = some ty) (hz : ty.zero = some V) (hid : nid O 0 = some id) (hn : d < n)
    (h : WpL P n m G false ops l ⟨(d, .ptr id 0 0) :: T, O ++ [⟨[V], 0, 0, none⟩]⟩ Q) :
    WpL P n m G false ops ({ dst := some d, op := .alloc t, type := tt, pos := pos, after := after, guard := none } :: l) ⟨T, O⟩ Q :=
  WpL.value rfl (fun a w hr => by
    obtain ⟨S, ι, F, hr⟩ := hr
    have hid : id = O.length := by have := nid_eq hid; omega
    subst hid
    obtain ⟨i, v, hi, hi2, hc, _, hV⟩ := Ty.zero_info (hP.ty ht) hz
    have hr' := hr.alloc (ob := ⟨[V], 0, 0, none⟩) (Adds.alloc w (.cells #[v] t)) (by simpa using hV _ _ _ _) (by simp) (by simp) (by simp)
    refine ⟨.pointer (some ⟨w.heap.size, 0, none⟩), w.alloc (.cells #[v] t), ?_, _, _, _, hr'.put hn ptr_new⟩
    simp [execOp, Instr.alloc, zeroValue, typeInfo, hi, hi2, newVar, newRow, newObj, hc, Sem.run_bind, Sem.run]) h
end
end Go.Abs
