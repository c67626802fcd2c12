/- Proved in this text: lemmas and contracts of functions that the claim uses (parts: AbsF, AbsG, AbsH, AbsI, AbsJ). No condition. -/
import Derived.Test.YtkckmenalehdpaaDoorRhM0
import Derived.Lib.ConvBytes
set_option linter.unusedVariables false
set_option linter.unusedSimpArgs false
set_option maxRecDepth 100000
set_option maxHeartbeats 4000000


namespace Go.Abs
open Go
structure Adds (w w' : World) (o : Obj) : Prop where
  os : w'.os = w.os
  tape : w'.tape = w.tape
  output : w'.output = w.output
  size : w'.heap.size = w.heap.size + 1
  old : ∀ {b : Nat}, b < w.heap.size → w'.heap[b]? = w.heap[b]?
  new : w'.heap[w.heap.size]? = some o
theorem Adds.push {w w' : World} {o : Obj} (h1 : w'.os = w.os) (h2 : w'.tape = w.tape) (h3 : w'.output = w.output) (h : w'.heap = w.heap.push o) : Adds w w' o :=
  ⟨h1, h2, h3, by rw [h]; simp, fun hb => by rw [h, Array.getElem?_push, if_neg (by omega)], by rw [h, Array.getElem?_push, if_pos rfl]⟩
theorem Adds.alloc (w : World) (o : Obj) : Adds w (w.alloc o) o := .push rfl rfl rfl rfl
def upd {α : Type} (f : Nat → α) (i : Nat) (v : α) : Nat → α := fun j => if j = i then v else f j
theorem upd_same {α : Type} (f : Nat → α) (i : Nat) (v : α) : upd f i v i = v := if_pos rfl
theorem upd_other {α : Type} (f : Nat → α) {i j : Nat} (v : α) (h : j ≠ i) : upd f i v j = f j := if_neg h
theorem getElem?_snoc {α : Type} (O : List α) (ob x : α) (id : Nat) (h : (O ++ [ob])[id]? = some x) : (id < O.length ∧ O[id]? = some x) ∨ (id = O.length ∧ x = ob) := by
  rw [List.getElem?_append] at h
  split at h
  · rename_i hlt; exact .inl ⟨hlt, h⟩
  · rename_i hge
    have : id - O.length = 0 := by
      rcases Nat.eq_zero_or_pos (id - O.length) with h0 | h0
      · exact h0
      · rw [List.getElem?_eq_none (by simp; omega)] at h; simp at h
    rw [this] at h
    simp at h
    exact .inr ⟨by omega, h.symm⟩
theorem RelAt.alloc {n m G S ι F T O a w} (hr : RelAt n m G S ι F ⟨T, O⟩ a w) {w' : World} {ob : AObj} {cur : Array Value} {t : TypeId} {fz : Nat × Nat} (hw : Adds w w' (.cells cur t fz))
    (hl : LRel S w ι O ob.cells (cur.toList.take ob.cells.length) []) (hlen : ob.cells.length ≤ cur.size) (hfz : ∀ i, i < cur.size → ¬ (fz.1 ≤ i ∧ i < fz.2)) (hty : ∀ e, ob.ty = some e → t = e ∧ fz = (0, 0)) :
    RelAt n m G S (upd ι O.length (some (w.heap.size, cur.size))) (upd F O.length [w.heap.size]) ⟨T, O ++ [ob]⟩ a w' := by
  have hlat : Later S w ι O S w' (upd ι O.length (some (w.heap.size, cur.size))) (O ++ [ob]) := by
    refine ⟨fun _ h => h, fun b hb => hw.old (hr.stable b hb), fun id ob' h => ?_⟩
    have hlt : id < O.length := (List.getElem?_eq_some_iff.1 h).1
    exact ⟨ob', by rw [List.getElem?_append_left hlt]; exact h, .inr ⟨rfl, rfl, upd_other _ _ (by omega)⟩⟩
  refine ⟨hr.defers, hr.size, fun t' => (hr.tmps t').mono hlat (by simp), ⟨fun id ob' h => ?_, fun id h => ?_, fun i j hi hj hij b hb => ?_⟩, fun id h b hb => ?_, hr.base, fun b hb => ?_, ?_, fun id h => ?_, ?_⟩
  · rcases getElem?_snoc O ob ob' id h with ⟨hlt, h⟩ | ⟨rfl, rfl⟩
    · rw [upd_other _ _ (by omega), upd_other _ _ (by omega)]
      have ho := hr.objs.obj id ob' h
      have hf := hr.foot id hlt
      unfold ObjAt at ho ⊢
      cases hs : ι id with
      | none => rw [hs] at ho; exact ho
      | some p =>
        obtain ⟨b, k⟩ := p
        rw [hs] at ho
        obtain ⟨cur', t', fz', f', h1, h2, h3, h4, h5, h6, h7⟩ := ho
        refine ⟨cur', t', fz', f', h1, ?_, h3, h4, h5, h6, h7.mono hlat fun b' hb' => hw.old (hf b' (by rw [h1]; simp [hb'])).2.2⟩
        rw [hw.old (hf b (by rw [h1]; simp)).2.2]; exact h2
    · rw [upd_same, upd_same]
      exact ⟨cur, t, fz, [], rfl, hw.new, rfl, hlen, hfz, hty, hl.mono hlat (by simp)⟩
  · simp only [List.length_append, List.length_cons, List.length_nil] at h
    by_cases he : id = O.length
    · subst he; rw [upd_same]; simp
    · rw [upd_other _ _ he]; exact hr.objs.nodup id (by show id < O.length; omega)
  · simp only [List.length_append, List.length_cons, List.length_nil] at hi hj
    by_cases h1 : i = O.length
    · subst h1
      rw [upd_same] at hb
      have hb : b = w.heap.size := by simpa using hb
      rw [upd_other _ _ (by omega)]
      intro hb'
      have := (hr.foot j (by show j < O.length; omega) b hb').2.2
      omega
    · rw [upd_other _ _ h1] at hb
      have hbl := (hr.foot i (by show i < O.length; omega) b hb).2.2
      by_cases h2 : j = O.length
      · subst h2; rw [upd_same]; simp; omega
      · rw [upd_other _ _ h2]; exact hr.objs.apart i j (by show i < O.length; omega) (by show j < O.length; omega) hij b hb
  · simp only [List.length_append, List.length_cons, List.length_nil] at h
    by_cases he : id = O.length
    · subst he
      rw [upd_same] at hb
      have hb : b = w.heap.size := by simpa using hb
      subst hb
      exact ⟨.inr hr.keeps.size, fun hS => by have := hr.stable _ hS; omega, by rw [hw.size]; omega⟩
    · rw [upd_other _ _ he] at hb
      obtain ⟨h1, h2, h3⟩ := hr.foot id (by show id < O.length; omega) b hb
      exact ⟨h1, h2, by rw [hw.size]; omega⟩
  · rw [hw.size]; have := hr.stable b hb; omega
  · exact ⟨hw.os.trans hr.keeps.os, hw.tape.trans hr.keeps.tape, hw.output.trans hr.keeps.output, by rw [hw.size]; have := hr.keeps.size; omega, fun b hb hM => by
      rw [hw.old (by have := hr.keeps.size; omega)]; exact hr.keeps.block b hb hM⟩
  · have hm := hr.mle
    have hm : m ≤ O.length := hm
    rw [upd_other _ _ (by omega)]; exact hr.spots id h
  · have hm : m ≤ O.length := hr.mle
    show m ≤ (O ++ [ob]).length
    simp; omega
def nid : List AObj → Nat → Option Nat
  | [], k => some k
  | _ :: r, k => nid r (k + 1)
theorem nid_eq {O : List AObj} {k id : Nat} (h : nid O k = some id) : id = k + O.length := by
  induction O generalizing k with
  | nil => simp [nid] at h; simp [h]
  | cons a O ih => rw [nid] at h; have := ih h; simp; omega
theorem ptr_new {S w ι O ob b k off} : VRel S w (upd ι O.length (some (b, k))) (O ++ [ob]) (.ptr O.length ob.ep off) (.pointer (some ⟨b, off, none⟩)) [] :=
  .ptr (by simp) (Nat.le_refl _) (fun _ => by rw [upd_same]; rfl) .nil
def oneB (O : List AObj) : AV → Bool
  | .sc v => v.oneCell'
  | .nilS => true
  | .imm _ _ _ => true
  | .iptr _ _ => true
  | .fn _ _ => true
  | .ifc _ _ => true
  | .own id ep _ _ => match O[id]? with
    | some ob => Nat.beq ob.ep ep
    | none => false
  | .ptr id ep _ => match O[id]? with
    | some ob => Nat.beq ob.ep ep
    | none => false
  | _ => false
theorem one_of {S w ι O V x f} (h : VRel S w ι O V x f) (h1 : oneB O V = true) : x.oneCell' = true ∧ x.cells = #[x] ∧ f = [] := by
  cases h with
  | any => simp [oneB] at h1
  | sc r => cases r; simp only [oneB] at h1; refine ⟨h1, ?_, rfl⟩; cases x <;> simp_all [Value.oneCell', Value.cells]
  | agg => simp [oneB] at h1
  | tup => simp [oneB] at h1
  | nilS r => cases r; exact ⟨rfl, rfl, rfl⟩
  | imm0 _ r => cases r; exact ⟨rfl, rfl, rfl⟩
  | imm _ _ _ _ _ _ r => cases r; exact ⟨rfl, rfl, rfl⟩
  | fre0 => simp [oneB] at h1
  | fre => simp [oneB] at h1
  | own a b c r =>
    cases r
    rename_i id ep off len ob
    simp only [oneB, a] at h1
    have hc := c (Nat.eq_of_beq_eq_true h1).symm
    cases hs : ι id with
    | none => rw [hs] at hc; obtain ⟨h2, _⟩ := hc; subst h2; exact ⟨rfl, rfl, rfl⟩
    | some p => obtain ⟨b', k⟩ := p; rw [hs] at hc; obtain ⟨cap, h2, _⟩ := hc; subst h2; exact ⟨rfl, rfl, rfl⟩
  | ptr a b c r =>
    cases r
    rename_i id ep off ob
    simp only [oneB, a] at h1
    have hc := c (Nat.eq_of_beq_eq_true h1).symm
    cases hs : ι id with
    | none => rw [hs] at hc; exact hc.elim
    | some p => obtain ⟨b', k⟩ := p; rw [hs] at hc; have h2 : x = _ := hc; subst h2; exact ⟨rfl, rfl, rfl⟩
  | iptr _ _ _ r => cases r; exact ⟨rfl, rfl, rfl⟩
  | fn _ r => cases r; exact ⟨rfl, rfl, rfl⟩
  | ifc _ r => cases r; exact ⟨rfl, rfl, rfl⟩
def cellsV (O : List AObj) : AV → Option (List AV)
  | .agg ds => some ds
  | V => match oneB O V with
    | true => some [V]
    | false => none
theorem cellsV_rel {S w ι O V x f ds} (h : VRel S w ι O V x f) (hc : cellsV O V = some ds) : LRel S w ι O ds x.cells.toList f := by
  by_cases ha : ∃ es, V = .agg es
  · obtain ⟨es, rfl⟩ := ha
    simp only [cellsV, Option.some.injEq] at hc
    subst hc
    obtain ⟨us, rfl, hl⟩ := LRel.agg_inv h
    simpa [Value.cells] using hl
  · have h1 : oneB O V = true ∧ ds = [V] := by
      cases V <;> simp_all [cellsV] <;> split at hc <;> simp_all
    obtain ⟨_, h2, rfl⟩ := one_of h h1.1
    rw [h1.2, h2]
    simpa using h
section
variable {P : Program} {n m : Nat} {G : Ctx} {T : List (Nat × AV)} {O : List AObj} {Q : Exit → St → Prop} {ops : Array Oper} {l : List Oper} {d : Nat} {tt : TypeId} {pos : String} {after : Array Edge} {tab : List (Nat × Ty)}
theorem WpL.box {t : Nat} {x : Operand} {V : AV} {ds : List AV} {id : Nat} (hx : (av T x).force = some V) (hd : cellsV O V = some ds) (hid : nid O 0 = some id) (hn : d < n)
    (h : WpL P n m G false ops l ⟨(d, .ptr id 0 0) :: T, O ++ [⟨ds, 0, 0, none⟩]⟩ Q) :
    WpL P n m G false ops ({ dst := some d, op := .box t x, type := tt, pos := pos, after := after, guard := none } :: l) ⟨T, O⟩ Q :=
  WpL.value rfl (fun a w hr => by
    obtain ⟨S, ι, F, hr⟩ := hr
    have hid : id = O.length := by have := nid_eq hid; omega
    subst hid
    have hv := hr.eval x
    rw [show av (St.mk T O).T x = V from AV.force_eq hx] at hv
    have hl := cellsV_rel hv hd
    have hlen := hl.len
    have hr' := hr.alloc (ob := ⟨ds, 0, 0, none⟩) (Adds.alloc w (.cells (a.eval x).cells t)) (by
      have : (a.eval x).cells.toList.take ds.length = (a.eval x).cells.toList := List.take_of_length_le (by omega)
      rw [this]; exact hl) (by simp at hlen ⊢; omega) (by simp) (by simp)
    refine ⟨.pointer (some ⟨w.heap.size, 0, none⟩), w.alloc (.cells (a.eval x).cells t), ?_, _, _, _, hr'.put hn ptr_new⟩
    simp [execOp, Instr.box, newVar, newRow, newObj, Sem.run_bind, Sem.run]) h
theorem WpL.allocStruct (hP : TabOk P tab) {t k : Nat} {offs : List Nat} {zs : List AV} {id : Nat} (ht : tlook tab t = some (.struct offs k zs)) (hid : nid O 0 = some id) (hn : d < n)
    (h : WpL P n m G false ops l ⟨(d, .ptr id 0 0) :: T, O ++ [⟨zs, 0, 0, none⟩]⟩ Q) :
    WpL P n m G false ops ({ dst := some d, op := .alloc t, type := tt, pos := pos, after := after, guard := none } :: l) ⟨T, O⟩ Q :=
  WpL.value rfl (fun a w hr => by
    obtain ⟨S, ι, F, hr⟩ := hr
    have hid : id = O.length := by have := nid_eq hid; omega
    subst hid
    obtain ⟨fs, hu, ⟨z, hz, hk, rfl⟩, _⟩ := hP.ty ht
    obtain ⟨i, hi, hi2⟩ : ∃ i, P.info? t = some i ∧ i.zero = some z := by
      cases hh : P.info? t with
      | none => simp [hh] at hz
      | some i => rw [hh] at hz; simp at hz; exact ⟨i, rfl, hz.1⟩
    have hr' := hr.alloc (ob := ⟨z.cells.toList.map zav, 0, 0, none⟩) (Adds.alloc w (.cells z.cells t)) (by
      have : z.cells.toList.take (z.cells.toList.map zav).length = z.cells.toList := List.take_of_length_le (by simp)
      rw [this]; exact lrel_zav _) (by simp) (by simp) (by simp)
    refine ⟨.pointer (some ⟨w.heap.size, 0, none⟩), w.alloc (.cells z.cells t), ?_, _, _, _, hr'.put hn ptr_new⟩
    simp [execOp, Instr.alloc, zeroValue, typeInfo, hi, hi2, newVar, newRow, newObj, Sem.run_bind, Sem.run]) h
def Ty.zero : Ty → Option AV
  | .int k => some (.sc (.int k 0))
  | .bool => some (.sc (.bool false))
  | .string => some (.sc (.string ⟨[].toArray⟩))
  | .slice _ _ _ _ => some .nilS
  | .ptr => some (.sc (.pointer none))
  | .func => some (.sc .nilFunc)
  | .iface => some (.sc .nilIface)
  | _ => none
end
end Go.Abs


namespace Go.Abs
open Go
theorem RelAt.set {n m G S ι F T O a w} (hr : RelAt n m G S ι F ⟨T, O⟩ a w) {id b k off : Nat} {ob : AObj} {V : AV} {x : Value} (ho : O[id]? = some ob) (hs : ι id = some (b, k)) (hoff : off < ob.cells.length) (hv : VRel S w ι O V x []) :
    w.cell? ⟨b, off, none⟩ ≠ none ∧ w.frozen? ⟨b, off, none⟩ = false ∧ ∃ F', RelAt n m G S ι F' ⟨T, O.set id { ob with cells := ob.cells.set off V }⟩ a (w.setCell ⟨b, off, none⟩ x) := by
  have hid : id < O.length := (List.getElem?_eq_some_iff.1 ho).1
  have hob := hr.objs.obj id ob ho
  unfold ObjAt at hob
  rw [hs] at hob
  obtain ⟨cur, t, fz, f', hF, hh, hk, hle, hfz, hty, hl⟩ := hob
  have hoffk : off < cur.size := by omega
  refine ⟨by rw [cell_of_row w b off cur t fz hh]; simp [hoffk], ?_, ?_⟩
  · have := hfz off (by omega)
    simp only [World.frozen?, hh]
    simpa using this
  have hbF : b ∈ F id := by rw [hF]; simp
  have hnS : ¬ S b := (hr.foot id hid b hbF).2.1
  have hnd : (b :: f').Nodup := by rw [← hF]; exact hr.objs.nodup id hid
  have hbl : b < w.heap.size := (hr.foot id hid b hbF).2.2
  have hother : ∀ b', b' ≠ b → (w.setCell ⟨b, off, none⟩ x).heap[b']? = w.heap[b']? := fun b' hb' => heap_setCell_other w _ b' x hb'
  have hnew : (w.setCell ⟨b, off, none⟩ x).heap[b]? = some (.cells (cur.setIfInBounds off x) t fz) := by
    simp [World.setCell, Array.getElem?_modify, hh]
  have hlat : Later S w ι O S (w.setCell ⟨b, off, none⟩ x) ι (O.set id { ob with cells := ob.cells.set off V }) := by
    refine ⟨fun _ h => h, fun b' hb' => hother b' (fun e => hnS (e ▸ hb')), fun id' ob' h => ?_⟩
    by_cases he : id' = id
    · subst he
      rw [ho] at h; cases h
      exact ⟨{ ob with cells := ob.cells.set off V }, by rw [List.getElem?_set_self hid], .inr ⟨rfl, rfl, rfl⟩⟩
    · exact ⟨ob', by rw [List.getElem?_set_ne (by omega)]; exact h, .inr ⟨rfl, rfl, rfl⟩⟩
  obtain ⟨e, hle', hem, hend⟩ := hl.set hv off
  have hlen2 : (ob.cells.set off V).length = ob.cells.length := by simp
  have hnF : ∀ j, j < O.length → j ≠ id → b ∉ F j := fun j hj hji hb => hr.objs.apart id j hid hj (by omega) b hbF hb
  refine ⟨upd F id (b :: e), hr.defers, hr.size, fun t' => (hr.tmps t').mono hlat (by simp), ⟨fun id' ob' h => ?_, fun id' h => ?_, fun i j hi hj hij b' hb' => ?_⟩, fun id' h b' hb' => ?_, hr.base, fun b' hb' => ?_, ?_, hr.spots, ?_⟩
  · by_cases he : id' = id
    · subst he
      rw [upd_same]
      have h : (O.set id' { ob with cells := ob.cells.set off V })[id']? = some ob' := h
      rw [List.getElem?_set_self hid] at h
      cases h
      unfold ObjAt
      rw [hs]
      refine ⟨_, t, fz, e, rfl, hnew, by simpa using hk, by simpa using hle, hfz, hty, ?_⟩
      have e2 : (cur.setIfInBounds off x).toList.take (ob.cells.set off V).length = (cur.toList.take ob.cells.length).set off x := by
        rw [hlen2, Array.toList_setIfInBounds, List.take_set]
      rw [e2]
      refine LRel.mono hlat hle' fun b' hb' => hother b' ?_
      rintro rfl
      rcases hem b' hb' with h | h
      · exact (List.nodup_cons.1 hnd).1 h
      · simp at h
    · rw [upd_other _ _ he]
      have h : (O.set id { ob with cells := ob.cells.set off V })[id']? = some ob' := h
      rw [List.getElem?_set_ne (by omega)] at h
      have hlt : id' < O.length := (List.getElem?_eq_some_iff.1 h).1
      have ho' := hr.objs.obj id' ob' h
      unfold ObjAt at ho' ⊢
      cases hs' : ι id' with
      | none => rw [hs'] at ho'; exact ho'
      | some p =>
        obtain ⟨b2, k2⟩ := p
        rw [hs'] at ho'
        obtain ⟨cur', t', fz', f2, h1, h2, h3, h4, h5, h6, h7⟩ := ho'
        have hne : ∀ b', b' ∈ F id' → b' ≠ b := fun b' hb' e => hnF id' hlt he (e ▸ hb')
        exact ⟨cur', t', fz', f2, h1, by rw [hother b2 (hne b2 (by rw [h1]; simp))]; exact h2, h3, h4, h5, h6, h7.mono hlat fun b' hb' => hother b' (hne b' (by rw [h1]; simp [hb']))⟩
  · by_cases he : id' = id
    · subst he; rw [upd_same]
      refine List.nodup_cons.2 ⟨fun hb => ?_, hend (List.nodup_cons.1 hnd).2 (by simp) (by simp)⟩
      rcases hem b hb with h | h
      · exact (List.nodup_cons.1 hnd).1 h
      · simp at h
    · rw [upd_other _ _ he]; exact hr.objs.nodup id' (by simpa using h)
  · have sub : ∀ b2, b2 ∈ b :: e → b2 ∈ F id := by
      intro b2 hb2
      rw [hF]
      rcases List.mem_cons.1 hb2 with rfl | hb2
      · simp
      · rcases hem b2 hb2 with h | h
        · simp [h]
        · simp at h
    have hi2 : i < O.length := by simpa using hi
    have hj2 : j < O.length := by simpa using hj
    by_cases h1 : i = id
    · subst h1
      rw [upd_same] at hb'
      rw [upd_other _ _ (by omega)]
      exact hr.objs.apart i j hi2 hj2 hij b' (sub b' hb')
    · rw [upd_other _ _ h1] at hb'
      by_cases h2 : j = id
      · subst h2
        rw [upd_same]
        exact fun h => hr.objs.apart i j hi2 hj2 hij b' hb' (sub b' h)
      · rw [upd_other _ _ h2]; exact hr.objs.apart i j hi2 hj2 hij b' hb'
  · have h3 : id' < O.length := by simpa using h
    rw [World.size_setCell]
    by_cases he : id' = id
    · subst he
      rw [upd_same] at hb'
      refine hr.foot id' h3 b' ?_
      rw [hF]
      rcases List.mem_cons.1 hb' with rfl | hb2
      · simp
      · rcases hem b' hb2 with h | h
        · simp [h]
        · simp at h
    · rw [upd_other _ _ he] at hb'
      exact hr.foot id' h3 b' hb'
  · rw [World.size_setCell]; exact hr.stable b' hb'
  · refine ⟨hr.keeps.os, hr.keeps.tape, hr.keeps.output, by rw [World.size_setCell]; exact hr.keeps.size, fun b' hb' hM => ?_⟩
    rw [hother b' ?_]
    · exact hr.keeps.block b' hb' hM
    · rintro rfl
      rcases (hr.foot id hid b' hbF).1 with h | h
      · exact hM h
      · omega
  · have := hr.mle
    simpa using this
def setL (cs : List AV) (off : Nat) : List AV → List AV
  | [] => cs
  | V :: Vs => setL (cs.set off V) (off + 1) Vs
theorem one_set {O : List AObj} {id : Nat} {ob : AObj} {cs : List AV} (ho : O[id]? = some ob) (V : AV) : oneB (O.set id { ob with cells := cs }) V = oneB O V := by
  have hid : id < O.length := (List.getElem?_eq_some_iff.1 ho).1
  have key : ∀ id' : Nat, ((O.set id { ob with cells := cs })[id']?).map AObj.ep = (O[id']?).map AObj.ep := by
    intro id'
    by_cases he : id' = id
    · subst he; rw [List.getElem?_set_self hid, ho]; rfl
    · rw [List.getElem?_set_ne (by omega)]
  cases V <;> simp only [oneB]
  case own id' ep off len =>
    have := key id'
    cases h1 : (O.set id { ob with cells := cs })[id']? <;> cases h2 : O[id']? <;> rw [h1, h2] at this <;> simp_all
  case ptr id' ep off =>
    have := key id'
    cases h1 : (O.set id { ob with cells := cs })[id']? <;> cases h2 : O[id']? <;> rw [h1, h2] at this <;> simp_all
theorem store_cells (P : Program) {n m G T a} {id b k : Nat} : ∀ (Vs : List AV) (vs : List Value) (i off : Nat) (O : List AObj) (ob : AObj) (S : Nat → Prop) (ι : Nat → Spot) (F : Nat → List Nat) (w : World),
    RelAt n m G S ι F ⟨T, O⟩ a w → O[id]? = some ob → ι id = some (b, k) → LRel S w ι O Vs vs [] → Vs.all (oneB O) = true → off + i + Vs.length ≤ ob.cells.length →
    ∃ w' F', (storeCells ⟨b, off, none⟩ vs i).run P w = .ok () w' ∧ RelAt n m G S ι F' ⟨T, O.set id { ob with cells := setL ob.cells (off + i) Vs }⟩ a w' := by
  intro Vs
  induction Vs with
  | nil =>
    intro vs i off O ob S ι F w hr ho hs hl hone hle
    cases hl
    refine ⟨w, F, by simp [storeCells], ?_⟩
    have : O.set id { ob with cells := setL ob.cells (off + i) [] } = O := by
      apply List.ext_getElem?
      intro j
      by_cases he : j = id
      · subst he; rw [List.getElem?_set_self (List.getElem?_eq_some_iff.1 ho).1, ho]; rfl
      · rw [List.getElem?_set_ne (by omega)]
    rw [this]; exact hr
  | cons V Vs ih =>
    intro vs i off O ob S ι F w hr ho hs hl hone hle
    obtain ⟨v, vs', f1, f2, rfl, hv, hl', hf⟩ := hl.uncons
    obtain ⟨rfl, rfl⟩ : f1 = [] ∧ f2 = [] := by simpa using hf
    simp only [List.all_cons, Bool.and_eq_true] at hone
    simp only [List.length_cons] at hle
    obtain ⟨hc, hfr, F1, hr1⟩ := hr.set ho hs (off := off + i) (by omega) hv
    have hid : id < O.length := (List.getElem?_eq_some_iff.1 ho).1
    have h1 := (one_of hv hone.1).1
    have hlat : Later S w ι O S (w.setCell ⟨b, off + i, none⟩ v) ι (O.set id { ob with cells := ob.cells.set (off + i) V }) := by
      refine ⟨fun _ h => h, fun b' hb' => heap_setCell_other w _ b' v ?_, fun id' ob' h => ?_⟩
      · rintro rfl
        have hob := hr.objs.obj id ob ho
        unfold ObjAt at hob
        rw [hs] at hob
        obtain ⟨_, _, _, f', hF, _⟩ := hob
        exact (hr.foot id hid b' (by rw [hF]; simp)).2.1 hb'
      · by_cases he : id' = id
        · subst he
          rw [ho] at h; cases h
          exact ⟨{ ob with cells := ob.cells.set (off + i) V }, by rw [List.getElem?_set_self hid], .inr ⟨rfl, rfl, rfl⟩⟩
        · exact ⟨ob', by rw [List.getElem?_set_ne (by omega)]; exact h, .inr ⟨rfl, rfl, rfl⟩⟩
    obtain ⟨w', F', hrun, hr'⟩ := ih vs' (i + 1) off (O.set id { ob with cells := ob.cells.set (off + i) V }) { ob with cells := ob.cells.set (off + i) V } S ι F1 _ hr1
      (by rw [List.getElem?_set_self hid]) hs (hl'.mono hlat (by simp)) (by
        rw [List.all_eq_true] at *
        intro x hx; rw [one_set ho]; exact hone.2 x hx) (by simp; omega)
    refine ⟨w', F', ?_, ?_⟩
    · obtain ⟨u, hu⟩ := Option.ne_none_iff_exists'.1 hc
      simp only [storeCells, addr_add, Sem.run_bind, run_store P w _ v .plain h1, hu, hfr, Result.andThen_ok]
      exact hrun
    · rw [List.set_set] at hr'
      rw [setL]
      rw [show off + (i + 1) = off + i + 1 from by omega] at hr'
      exact hr'
section
variable {P : Program} {n m : Nat} {G : Ctx} {T : List (Nat × AV)} {O : List AObj} {Q : Exit → St → Prop} {ops : Array Oper} {l : List Oper} {d : Nat} {tt : TypeId} {pos : String} {after : Array Edge} {tab : List (Nat × Ty)}
def Ty.cellsN : Ty → Option Nat
  | .struct _ k _ => some k
  | .other => none
  | _ => some 1
theorem Ty.cells_info {t k : Nat} {ty : Ty} (h : TyOk P t ty) (hz : ty.cellsN = some k) : ∃ i, P.info? t = some i ∧ i.size = k := by
  have key : ∀ v, ScOk P t v → ∃ i, P.info? t = some i ∧ i.size = 1 := by
    intro v hv
    unfold ScOk at hv
    cases hh : P.info? t with
    | none => simp [hh] at hv
    | some i => rw [hh] at hv; simp at hv; exact ⟨i, rfl, hv.2⟩
  cases ty <;> simp [Ty.cellsN] at hz <;> subst hz
  case int k => exact key _ h.2
  case bool => exact key _ h.2
  case string => exact key _ h.2
  case slice => exact key _ h.2.1
  case ptr => exact key _ h.2
  case func => exact key _ h.2
  case iface => exact key _ h.2
  case struct =>
    obtain ⟨fs, hu, ⟨z, hz, _⟩, _⟩ := h
    cases hh : P.info? t with
    | none => simp [hh] at hz
    | some i => rw [hh] at hz; simp at hz; exact ⟨i, rfl, hz.2⟩
theorem WpL.store (hP : TabOk P tab) {t : Nat} {ty : Ty} {x y : Operand} {id ep off : Nat} {ob : AObj} {V : AV} {Vs : List AV} (ht : tlook tab t = some ty) (hx : av T x = .ptr id ep off)
    (ho : O[id]? = some ob) (he : ob.ep = ep) (hy : (av T y).force = some V) (hV : cellsV O V = some Vs) (hk : ty.cellsN = some Vs.length) (hone : Vs.all (oneB O) = true) (hle : off + Vs.length ≤ ob.cells.length)
    (h : WpL P n m G false ops l ⟨T, O.set id { ob with cells := setL ob.cells off Vs }⟩ Q) :
    WpL P n m G false ops ({ dst := none, op := .store t x y, type := tt, pos := pos, after := after, guard := none } :: l) ⟨T, O⟩ Q :=
  WpL.op rfl (fun a w hr => by
    obtain ⟨S, ι, F, hr⟩ := hr
    have hv := hr.eval x
    rw [show av (St.mk T O).T x = _ from hx] at hv
    have hw := hr.eval y
    rw [show av (St.mk T O).T y = V from AV.force_eq hy] at hw
    have hl := cellsV_rel hw hV
    cases hv with
    | ptr q1 q2 q3 r =>
      rw [show (St.mk T O).O[id]? = some ob from ho] at q1
      cases q1
      have hc := q3 he.symm
      cases hs : ι id with
      | none => rw [hs] at hc; exact hc.elim
      | some p =>
        obtain ⟨b, kk⟩ := p
        rw [hs] at hc
        have hc : a.eval x = .pointer (some ⟨b, off, none⟩) := hc
        obtain ⟨w', F', hrun, hr'⟩ := store_cells P (id := id) (b := b) (k := kk) Vs (a.eval y).cells.toList 0 off O ob S ι F w hr ho hs hl hone (by omega)
        obtain ⟨i, hi, hik⟩ := Ty.cells_info (hP.ty ht) hk
        have hsz : (a.eval y).cells.size = Vs.length := by have := hl.len; simpa using this.symm
        have hex : (execOp a.eval { dst := none, op := .store t x y, type := tt, pos := pos, after := after, guard := none }).run P w = .ok .skip w' := by
          simp [execOp, Instr.storeAt, hc, Instr.sureAddr, storeVar, run_sizeOf hi hik, hsz, hrun, Sem.run_bind]
        unfold Oper.wp
        rw [hex]
        exact ⟨S, ι, F', hr'⟩) h
end
end Go.Abs


namespace Go.Abs
open Go
theorem RelAt.renew {n m G S ι F T O a w} (hr : RelAt n m G S ι F ⟨T, O⟩ a w) {w' : World} {id : Nat} {ob ob' : AObj} {s' : Spot} {f' : List Nat} (ho : O[id]? = some ob) (hm : m ≤ id) (hep : ob.ep < ob'.ep)
    (hos : w'.os = w.os) (htape : w'.tape = w.tape) (hout : w'.output = w.output) (hsize : w.heap.size ≤ w'.heap.size)
    (hold : ∀ b', b' < w.heap.size → b' ∉ F id ∨ b' ∈ f' ∧ (∀ k, s' ≠ some (b', k)) → w'.heap[b']? = w.heap[b']?)
    (hobj : Later S w ι O S w' (upd ι id s') (O.set id ob') → ObjAt S w' (upd ι id s') (O.set id ob') ob' s' f') (hnd : f'.Nodup)
    (hf : ∀ b', b' ∈ f' → b' ∈ F id ∨ (w.heap.size ≤ b' ∧ b' < w'.heap.size)) :
    Later S w ι O S w' (upd ι id s') (O.set id ob') ∧ RelAt n m G S (upd ι id s') (upd F id f') ⟨T, O.set id ob'⟩ a w' := by
  have hid : id < O.length := (List.getElem?_eq_some_iff.1 ho).1
  have hlat : Later S w ι O S w' (upd ι id s') (O.set id ob') := by
    refine ⟨fun _ h => h, fun b hb => hold b (hr.stable b hb) (.inl fun h => (hr.foot id hid b h).2.1 hb), fun id' ob2 h => ?_⟩
    by_cases he : id' = id
    · subst he
      rw [ho] at h; cases h
      exact ⟨ob', by rw [List.getElem?_set_self hid], .inl hep⟩
    · exact ⟨ob2, by rw [List.getElem?_set_ne (by omega)]; exact h, .inr ⟨rfl, rfl, upd_other _ _ he⟩⟩
  refine ⟨hlat, hr.defers, hr.size, fun t' => (hr.tmps t').mono hlat (by simp), ⟨fun id' ob2 h => ?_, fun id' h => ?_, fun i j hi hj hij b' hb' => ?_⟩, fun id' h b' hb' => ?_, hr.base, fun b' hb' => ?_, ?_, fun id' h => ?_, ?_⟩
  · by_cases he : id' = id
    · subst he
      rw [upd_same, upd_same]
      have h : (O.set id' ob')[id']? = some ob2 := h
      rw [List.getElem?_set_self hid] at h
      cases h
      exact hobj hlat
    · rw [upd_other _ _ he, upd_other _ _ he]
      have h : (O.set id ob')[id']? = some ob2 := h
      rw [List.getElem?_set_ne (by omega)] at h
      have hlt : id' < O.length := (List.getElem?_eq_some_iff.1 h).1
      have ho' := hr.objs.obj id' ob2 h
      unfold ObjAt at ho' ⊢
      cases hs' : ι id' with
      | none => rw [hs'] at ho'; exact ho'
      | some p =>
        obtain ⟨b2, k2⟩ := p
        rw [hs'] at ho'
        obtain ⟨cur', t', fz', f2, h1, h2, h3, h4, h5, h6, h7⟩ := ho'
        have key : ∀ b', b' ∈ F id' → w'.heap[b']? = w.heap[b']? := fun b' hb' =>
          hold b' (hr.foot id' hlt b' hb').2.2 (.inl fun h => hr.objs.apart id' id hlt hid he b' hb' h)
        exact ⟨cur', t', fz', f2, h1, by rw [key b2 (by rw [h1]; simp)]; exact h2, h3, h4, h5, h6, h7.mono hlat fun b' hb' => key b' (by rw [h1]; simp [hb'])⟩
  · by_cases he : id' = id
    · subst he; rw [upd_same]; exact hnd
    · rw [upd_other _ _ he]; exact hr.objs.nodup id' (by simpa using h)
  · have hi2 : i < O.length := by simpa using hi
    have hj2 : j < O.length := by simpa using hj
    have key : ∀ j, j < O.length → j ≠ id → ∀ b', b' ∈ f' → b' ∉ F j := by
      intro j hj hne b' hb' hbj
      rcases hf b' hb' with h | ⟨h, _⟩
      · exact hr.objs.apart id j hid hj (by omega) b' h hbj
      · have := (hr.foot j hj b' hbj).2.2; omega
    by_cases h1 : i = id
    · subst h1
      rw [upd_same] at hb'
      rw [upd_other _ _ (by omega)]
      exact key j hj2 (by omega) b' hb'
    · rw [upd_other _ _ h1] at hb'
      by_cases h2 : j = id
      · subst h2
        rw [upd_same]
        exact fun h => key i hi2 h1 b' h hb'
      · rw [upd_other _ _ h2]; exact hr.objs.apart i j hi2 hj2 hij b' hb'
  · have h3 : id' < O.length := by simpa using h
    by_cases he : id' = id
    · subst he
      rw [upd_same] at hb'
      rcases hf b' hb' with h | ⟨h, h'⟩
      · obtain ⟨q1, q2, q3⟩ := hr.foot id' h3 b' h
        exact ⟨q1, q2, by omega⟩
      · exact ⟨.inr (by have := hr.keeps.size; omega), fun hS => by have := hr.stable b' hS; omega, h'⟩
    · rw [upd_other _ _ he] at hb'
      obtain ⟨q1, q2, q3⟩ := hr.foot id' h3 b' hb'
      exact ⟨q1, q2, by omega⟩
  · have := hr.stable b' hb'; omega
  · refine ⟨hos.trans hr.keeps.os, htape.trans hr.keeps.tape, hout.trans hr.keeps.output, by have := hr.keeps.size; omega, fun b' hb' hM => ?_⟩
    rw [hold b' (by have := hr.keeps.size; omega) (.inl fun h => ?_)]
    · exact hr.keeps.block b' hb' hM
    · rcases (hr.foot id hid b' h).1 with h | h
      · exact hM h
      · omega
  · rw [upd_other _ _ (by omega)]; exact hr.spots id' h
  · have := hr.mle
    simpa using this
def srcB (O : List AObj) : AV → Option (List AV × Nat)
  | .nilS => some ([], 0)
  | .imm _ len cs => some (cs, len)
  | .own id ep 0 len => match O[id]? with
    | some ob => match Nat.beq ob.ep ep with
      | true => some (ob.cells, len)
      | false => none
    | none => none
  | _ => none
theorem src_cells {S w ι O F V x ys c k} (ho : ORel S w ι O F) (hv : VRel S w ι O V x []) (hs : srcB O V = some (ys, c)) (hlen : ys.length = c * k) (hone : ys.all (oneB O) = true) :
    ∃ us, LRel S w ι O ys us [] ∧ (∀ u, u ∈ us → u.oneCell' = true) ∧ ((∃ ad cap, x = .slice ad 0 cap ∧ ((ad = none → cap = 0) ∧ cap ≤ maxLen) ∧ c = 0 ∧ us = []) ∨
      ∃ b o cap, x = .slice (some ⟨b, o, none⟩) c cap ∧ (∀ i, i < us.length → w.cell? ⟨b, o + i, none⟩ = us[i]?)) := by
  have ones : ∀ us f, LRel S w ι O ys us f → f = [] ∧ ∀ u, u ∈ us → u.oneCell' = true := by
    intro us f hl
    clear hs hlen
    induction ys generalizing us f with
    | nil => cases hl; exact ⟨rfl, by simp⟩
    | cons y ys ih =>
      obtain ⟨v, vs', f1, f2, rfl, hv, hr, rfl⟩ := hl.uncons
      simp only [List.all_cons, Bool.and_eq_true] at hone
      obtain ⟨h1, h2⟩ := ih hone.2 _ _ hr
      have h3 := one_of hv hone.1
      refine ⟨by rw [h3.2.2, h1]; rfl, fun u hu => ?_⟩
      rcases List.mem_cons.1 hu with rfl | hu
      · exact h3.1
      · exact h2 u hu
  unfold srcB at hs
  split at hs
  · simp only [Option.some.injEq, Prod.mk.injEq] at hs
    obtain ⟨rfl, rfl⟩ := hs
    exact ⟨[], .nil, by simp, .inl ⟨_, _, (LRel.slice_len hv).2.2 rfl, by simp, rfl, rfl⟩⟩
  · simp only [Option.some.injEq, Prod.mk.injEq] at hs
    obtain ⟨rfl, rfl⟩ := hs
    rcases (imm_inv hv).2 with ⟨ad, cp, h1, h0, h2, h3⟩ | ⟨b, o, cap, us, h1, hS, hc, hl, _⟩
    · subst h3; exact ⟨[], .nil, by simp, .inl ⟨_, _, h1, h0, h2, rfl⟩⟩
    · exact ⟨us, hl.lift, (ones _ _ hl.lift).2, .inr ⟨b, o, cap, h1, hc⟩⟩
  · rename_i id ep len
    split at hs
    · rename_i ob hob
      split at hs
      · rename_i hep
        simp only [Option.some.injEq, Prod.mk.injEq] at hs
        obtain ⟨rfl, rfl⟩ := hs
        have hep := Nat.eq_of_beq_eq_true hep
        cases hv with
        | own q1 q2 q3 r =>
          rw [hob] at q1
          cases q1
          have hc := q3 hep.symm
          have hob' := ho.obj _ _ hob
          unfold ObjAt at hob'
          cases hs : ι id with
          | none =>
            rw [hs] at hc hob'
            obtain ⟨h1, _, h3⟩ := hc
            refine ⟨[], by rw [hob'.1]; exact .nil, by simp, .inl ⟨_, _, h1, by simp, h3, rfl⟩⟩
          | some p =>
            obtain ⟨b, kk⟩ := p
            rw [hs] at hc hob'
            obtain ⟨cap, h1, _⟩ := hc
            obtain ⟨cur, t, fz, f', _, hh, hk, hle, _, _, hl⟩ := hob'
            obtain ⟨hf', h2⟩ := ones _ _ hl
            subst hf'
            refine ⟨_, hl, h2, .inr ⟨b, 0, cap, h1, fun i hi => ?_⟩⟩
            rw [Nat.zero_add, cell_of_row w b i cur t fz hh, List.getElem?_take, if_pos (by have := hl.len; omega)]
            simp
      · simp at hs
    · simp at hs
  · simp at hs
theorem own_new {S w ι O ob b k c cap} (hk : cap * ob.size = k) (hc : c ≤ cap) (hm : cap ≤ maxLen) : VRel S w (upd ι O.length (some (b, k))) (O ++ [ob]) (.own O.length ob.ep 0 c) (.slice (some ⟨b, 0, none⟩) c cap) [] :=
  .own (by simp) (Nat.le_refl _) (fun _ => by rw [upd_same]; exact ⟨cap, rfl, by omega, hc, hm⟩) .nil
theorem adds_drew_alloc (w : World) (o : Obj) : Adds w (w.drew.alloc o) o := .push rfl rfl rfl rfl
theorem zeroCells_size (z : Array Value) (n : Nat) : (Builtin.zeroCells z n).size = n * z.size := by simp [Builtin.zeroCells]
section
variable {P : Program} {n m : Nat} {G : Ctx} {T : List (Nat × AV)} {O : List AObj} {Q : Exit → St → Prop} {ops : Array Oper} {l : List Oper} {d : Nat} {tt : TypeId} {pos : String} {after : Array Edge} {tab : List (Nat × Ty)}
theorem WpL.appOwn (hP : TabOk P tab) {t e k b : Nat} {zs ys : List AV} {x y : Operand} {id ep len c : Nat} {ob : AObj} {Vy : AV} (ht : tlook tab t = some (.slice e k b zs)) (hx : av T x = .own id ep 0 len)
    (ho : O[id]? = some ob) (he : ob.ep = ep) (hty : ob.ty = some e) (hsz : ob.size = k) (hol : ob.cells.length = len * k) (hm : m ≤ id) (hy : (av T y).force = some Vy) (hs : srcB O Vy = some (ys, c))
    (hlen : ys.length = c * k) (hone : ys.all (oneB O) = true) (hb : (len + c) * b ≤ 140737488355328 ∧ len + c ≤ 9223372036854775807) (hn : d < n)
    (h : WpL P n m G false ops l ⟨(d, .own id (ep + 1) 0 (len + c)) :: T, O.set id ⟨ob.cells ++ ys, ep + 1, k, some e⟩⟩ Q) :
    WpL P n m G false ops ({ dst := some d, op := .call { callee := .builtin .append, args := #[x, y], argTypes := #[t, t] }, type := tt, pos := pos, after := after, guard := none } :: l) ⟨T, O⟩ Q :=
  WpL.value rfl (fun a w hr => by
    obtain ⟨S, ι, F, hr⟩ := hr
    obtain ⟨hu, i, z, hi, hz, hk, hby, hzk, hk0, _⟩ := hP.slice ht
    have hid : id < O.length := (List.getElem?_eq_some_iff.1 ho).1
    have hw := hr.eval y
    rw [show av (St.mk T O).T y = Vy from AV.force_eq hy] at hw
    obtain ⟨us, hl, hone', hcase⟩ := src_cells hr.objs hw hs hlen hone
    have huslen : us.length = c * k := by rw [← hl.len]; exact hlen
    have hv := hr.eval x
    rw [show av (St.mk T O).T x = _ from hx] at hv
    have hob := hr.objs.obj id ob ho
    unfold ObjAt at hob
    have hown : OwnAt (ι id) ob.size 0 len (a.eval x) := by
      cases hv with
      | own q1 q2 q3 r =>
        rw [show (St.mk T O).O[id]? = some ob from ho] at q1
        cases q1
        exact q3 he.symm
    have hlenA : (ob.cells ++ ys).length = (len + c) * k := by rw [List.length_append, hol, hlen, Nat.add_mul]
    -- what the end looks like
    have finish : ∀ (w' : World) (s' : Spot) (f' : List Nat) (v : Value), (Builtin.append_ #[t, t] tt #[a.eval x, a.eval y]).run P w = .ok v w' →
        Later S w ι O S w' (upd ι id s') (O.set id ⟨ob.cells ++ ys, ep + 1, k, some e⟩) ∧ RelAt n m G S (upd ι id s') (upd F id f') ⟨T, O.set id ⟨ob.cells ++ ys, ep + 1, k, some e⟩⟩ a w' → OwnAt s' k 0 (len + c) v →
        ∃ v w', (execOp a.eval { dst := some d, op := .call { callee := .builtin .append, args := #[x, y], argTypes := #[t, t] }, type := tt, pos := pos, after := after, guard := none }).run P w = .ok (.value v) w' ∧
          Rel n m G ⟨(d, .own id (ep + 1) 0 (len + c)) :: T, O.set id ⟨ob.cells ++ ys, ep + 1, k, some e⟩⟩ (a.put (some d) v) w' := by
      intro w' s' f' v hrun hr' hoa
      refine ⟨v, w', by simp only [execOp, resolve, invoke, builtin, Sem.run_bind, Sem.run_pure, Result.andThen_ok, List.map_toArray, List.map_cons, List.map_nil, hrun], _, _, _, hr'.2.put hn ?_⟩
      exact .own (ob := ⟨ob.cells ++ ys, ep + 1, k, some e⟩) (by rw [List.getElem?_set_self hid]) (Nat.le_refl _) (fun _ => by rw [upd_same]; exact hoa) .nil
    -- a new block
    have fresh : ∀ (oldc : Nat) (olds : List Value) (f0 : List Nat), LRel S w ι O ob.cells olds f0 → f0.Nodup → (∀ b, b ∈ f0 → b ∈ F id) → (∀ b0 k0, ι id = some (b0, k0) → b0 ∉ f0) → len + c ≤ grownCap w (len + c) oldc e →
        (Builtin.append_ #[t, t] tt #[a.eval x, a.eval y]).run P w = .ok (.slice (some ⟨w.heap.size, 0, none⟩) (len + c) (grownCap w (len + c) oldc e)) (w.drew.alloc (.cells (olds.toArray ++ us.toArray ++ Builtin.zeroCells z.cells (grownCap w (len + c) oldc e - (len + c))) e)) →
        ∃ v w', (execOp a.eval { dst := some d, op := .call { callee := .builtin .append, args := #[x, y], argTypes := #[t, t] }, type := tt, pos := pos, after := after, guard := none }).run P w = .ok (.value v) w' ∧
          Rel n m G ⟨(d, .own id (ep + 1) 0 (len + c)) :: T, O.set id ⟨ob.cells ++ ys, ep + 1, k, some e⟩⟩ (a.put (some d) v) w' := by
      intro oldc olds f0 hlo hnd0 hsub hnb hge hrun
      have hcm := grownCap_le_maxLen w (len + c) oldc e (by simp only [maxLen]; omega)
      have hA := adds_drew_alloc w (.cells (olds.toArray ++ us.toArray ++ Builtin.zeroCells z.cells (grownCap w (len + c) oldc e - (len + c))) e)
      have holds : olds.length = len * k := by rw [← hlo.len]; exact hol
      have hszc : (olds.toArray ++ us.toArray ++ Builtin.zeroCells z.cells (grownCap w (len + c) oldc e - (len + c))).size = grownCap w (len + c) oldc e * k := by
        simp only [Array.size_append, List.size_toArray, zeroCells_size, hzk, huslen, holds, ← Nat.add_mul]
        congr 1; omega
      refine finish _ (some (w.heap.size, grownCap w (len + c) oldc e * k)) (w.heap.size :: f0) _ hrun (hr.renew (ob := ob) ho hm (by simp [he]) rfl rfl rfl (by rw [hA.size]; omega) (fun b' hb' _ => hA.old hb') ?_ ?_ ?_) ⟨_, rfl, by omega, hge, hcm⟩
      · intro hlat
        refine ⟨_, e, (0, 0), f0, rfl, hA.new, hszc, by rw [hlenA]; exact Nat.mul_le_mul_right _ hge, by simp, by simp, ?_⟩
        have htk : (olds.toArray ++ us.toArray ++ Builtin.zeroCells z.cells (grownCap w (len + c) oldc e - (len + c))).toList.take (ob.cells ++ ys).length = olds ++ us := by
          rw [Array.toList_append, Array.toList_append]
          exact List.take_left' (by rw [hlenA, Nat.add_mul]; simp [holds, huslen])
        show LRel S _ _ _ (ob.cells ++ ys) _ f0
        rw [htk]
        have h1 := hlo.mono hlat (fun b' hb' => hA.old (hr.foot id hid b' (hsub b' hb')).2.2)
        have h2 := hl.mono hlat (by simp)
        simpa using h1.append h2
      · refine List.nodup_cons.2 ⟨fun hb => ?_, hnd0⟩
        have := (hr.foot id hid _ (hsub _ hb)).2.2
        omega
      · intro b' hb'
        rcases List.mem_cons.1 hb' with rfl | hb'
        · exact .inr ⟨Nat.le_refl _, by rw [hA.size]; omega⟩
        · exact .inl (hsub b' hb')
    cases hspot : ι id with
    | none =>
      rw [hspot] at hown hob
      obtain ⟨hxe, _, hlen0⟩ := hown
      subst hlen0
      obtain ⟨hcells, hFid⟩ := hob
      by_cases hc0 : c = 0
      · subst hc0
        have hys : ys = [] := List.eq_nil_of_length_eq_zero (by simpa using hlen)
        subst hys
        have hrun : (Builtin.append_ #[t, t] tt #[a.eval x, a.eval y]).run P w = .ok (.slice none 0 0) w := by
          rcases hcase with ⟨ad, _, h1, _⟩ | ⟨b', o, cap, h1, _⟩
          · rw [hxe, h1]; cases ad <;> simp [loadCells, loadCellsFrom, Builtin.append_, run_underlying hu, sizeOf, typeInfo, hi, Builtin.lenOf, Builtin.firstCells]
          · rw [hxe, h1]; simp [Builtin.append_, run_underlying hu, sizeOf, typeInfo, hi, Builtin.lenOf, Builtin.firstCells, loadCells, loadCellsFrom]
        refine finish w none [] _ hrun (hr.renew (ob := ob) ho hm (by simp [he]) rfl rfl rfl (Nat.le_refl _) (fun _ _ _ => rfl) (fun _ => ⟨by simp [hcells], rfl⟩) (by simp) (by simp)) ⟨rfl, rfl, rfl⟩
      · rcases hcase with ⟨_, _, _, _, h0, _⟩ | ⟨b', o, cap, h1, hcell⟩
        · exact (hc0 h0).elim
        · have hrun := run_append_nil (P := P) w t tt e i z hu hi hz ⟨b', o, none⟩ c cap us (by rw [hk]; exact huslen) (by
            intro j v hj
            have hlt := (List.getElem?_eq_some_iff.1 hj).1
            rw [addr_add, hcell j hlt]; exact hj) (by omega) (by omega) (by rw [hby]; have := hb.1; simp only [Nat.zero_add] at this; omega)
          refine fresh 0 [] [] (by rw [hcells]; exact .nil) (by simp) (by simp) (by simp) (grownCap_ge _ _ _ _) ?_
          simp only [Nat.zero_add, List.nil_append, Array.empty_append] at hrun ⊢
          rw [hxe, h1]; exact hrun
    | some p =>
      obtain ⟨b0, k0⟩ := p
      rw [hspot] at hown hob
      obtain ⟨cap, hxe, hcap0, hlc, hcm⟩ := hown
      obtain ⟨cur, t', fz, f', hF, hh, hcur, hle, hfz, htyp, hlo⟩ := hob
      obtain ⟨rfl, rfl⟩ := htyp e hty
      have hcurs : cur.size = cap * k := by rw [hcur, ← hcap0, hsz]; omega
      have hndF : (b0 :: f').Nodup := by rw [← hF]; exact hr.objs.nodup id hid
      have holdsl : (cur.toList.take ob.cells.length).length = len * k := by rw [← hlo.len]; exact hol
      by_cases hroom : len + c ≤ cap
      · -- in place
        obtain ⟨ad, mm, cc, hye, hnews⟩ : ∃ ad mm cc, a.eval y = .slice ad mm cc ∧ mm = c ∧ ((mm = 0 ∧ us = []) ∨ ∃ b' o, ad = some ⟨b', o, none⟩ ∧ ∀ i, i < us.length → w.cell? ⟨b', o + i, none⟩ = us[i]?) := by
          rcases hcase with ⟨ad, cp, h1, _, h2, h3⟩ | ⟨b', o, cap', h1, h2⟩
          · exact ⟨ad, 0, cp, h1, h2.symm, .inl ⟨rfl, h3⟩⟩
          · exact ⟨some ⟨b', o, none⟩, c, cap', h1, rfl, .inr ⟨b', o, rfl, h2⟩⟩
        obtain ⟨rfl, hnews⟩ := hnews
        have hfit : len * i.size + us.length ≤ cur.size := by rw [hk, huslen, hcurs, ← Nat.add_mul]; exact Nat.mul_le_mul_right _ hroom
        have hrun : (Builtin.append_ #[t, t] tt #[a.eval x, a.eval y]).run P w =
            .ok (.slice (some ⟨b0, 0, none⟩) (len + mm) cap) (w.setRow b0 (cur.toList.take (len * i.size) ++ us ++ cur.toList.drop (len * i.size + us.length)).toArray) := by
          rcases hnews with ⟨rfl, rfl⟩ | ⟨b', o, rfl, hcell⟩
          · have hself : w.setRow b0 (cur.toList.take (len * i.size) ++ [] ++ cur.toList.drop (len * i.size + ([] : List Value).length)).toArray = w := by
              have : (cur.toList.take (len * i.size) ++ [] ++ cur.toList.drop (len * i.size + ([] : List Value).length)).toArray = cur := by simp
              rw [this]; exact setRow_self w b0 cur _ _ hh
            rw [hself, hxe, hye]
            have : len + 0 ≤ cap := hroom
            cases ad <;> simp [Builtin.append_, run_underlying hu, sizeOf, typeInfo, hi, Builtin.lenOf, Builtin.firstCells, hlc, storeCells, loadCells, loadCellsFrom]
          · rw [hxe, hye]
            exact run_append_room (P := P) w t tt t' i hu hi b0 len cap cur hh ⟨b', o, none⟩ mm cc us (by rw [hk]; exact huslen) (by
              intro j v hj
              have hlt := (List.getElem?_eq_some_iff.1 hj).1
              rw [addr_add, hcell j hlt]; exact hj) hone' hroom hfit
        have hsr := setRow_heap w b0 cur (cur.toList.take (len * i.size) ++ us ++ cur.toList.drop (len * i.size + us.length)).toArray t' (0, 0) hh
        have hso : ∀ b', b' ≠ b0 → (w.setRow b0 (cur.toList.take (len * i.size) ++ us ++ cur.toList.drop (len * i.size + us.length)).toArray).heap[b']? = w.heap[b']? := fun b' hb' => setRow_other w b0 b' _ hb'
        refine finish _ (some (b0, k0)) (b0 :: f') _ hrun (hr.renew (ob := ob) ho hm (by simp [he]) rfl rfl rfl (by simp) ?_ ?_ hndF ?_) ⟨cap, rfl, by rw [← hcap0, hsz], hroom, hcm⟩
        · intro b' _ hb'
          refine hso b' ?_
          rintro rfl
          rcases hb' with hb' | ⟨_, hb'⟩
          · exact hb' (by rw [hF]; simp)
          · exact hb' k0 rfl
        · intro hlat
          have hlenk : ob.cells.length = len * i.size := by rw [hol, hk]
          refine ⟨_, t', (0, 0), f', rfl, hsr, ?_, ?_, by simp, by simp, ?_⟩
          · rw [← hcur]; simp; omega
          · show (ob.cells ++ ys).length ≤ k0
            rw [hlenA, ← hcur, hcurs]; exact Nat.mul_le_mul_right _ hroom
          · show LRel S _ _ _ (ob.cells ++ ys) _ f'
            have htk : (cur.toList.take (len * i.size) ++ us ++ cur.toList.drop (len * i.size + us.length)).take (ob.cells ++ ys).length = cur.toList.take (len * i.size) ++ us := by
              refine List.take_left' ?_
              rw [List.length_append, List.length_append, ← hl.len, ← hlenk, ← hlo.len]
            show LRel S _ _ _ (ob.cells ++ ys) ((cur.toList.take (len * i.size) ++ us ++ cur.toList.drop (len * i.size + us.length)).toArray.toList.take (ob.cells ++ ys).length) f'
            rw [show (cur.toList.take (len * i.size) ++ us ++ cur.toList.drop (len * i.size + us.length)).toArray.toList = cur.toList.take (len * i.size) ++ us ++ cur.toList.drop (len * i.size + us.length) from by simp, htk]
            have h1 := hlo.mono hlat (fun b' hb' => hso b' (by rintro rfl; exact (List.nodup_cons.1 hndF).1 hb'))
            have h2 := hl.mono hlat (by simp)
            rw [hlenk] at h1
            simpa using h1.append h2
        · intro b' hb'; exact .inl (by rw [hF]; exact hb')
      · -- a new block
        rcases hcase with ⟨_, _, _, _, h0, _⟩ | ⟨b', o, cap', h1, hcell⟩
        · omega
        · have hrun := run_append_grow (P := P) w t tt t' i z hu hi hz ⟨b0, 0, none⟩ len cap (cur.toList.take ob.cells.length) (by rw [hk]; exact holdsl) (by
            intro j v hj
            have hlt := (List.getElem?_eq_some_iff.1 hj).1
            rw [addr_add, Nat.zero_add, cell_of_row w b0 j cur _ _ hh]
            rw [List.getElem?_take] at hj
            split at hj
            · simpa using hj
            · simp at hj) ⟨b', o, none⟩ c cap' us (by rw [hk]; exact huslen) (by
            intro j v hj
            have hlt := (List.getElem?_eq_some_iff.1 hj).1
            rw [addr_add, hcell j hlt]; exact hj) (by omega) (by omega) (by rw [hby]; exact growslice_fits (by omega) hb.1)
          refine fresh cap _ f' hlo (List.nodup_cons.1 hndF).2 (fun b hb => by rw [hF]; simp [hb]) (fun b1 k1 hb1 => by rw [hspot] at hb1; cases hb1; exact (List.nodup_cons.1 hndF).1) (grownCap_ge _ _ _ _) ?_
          rw [hxe, h1]; exact hrun) h
end
end Go.Abs


namespace Go.Abs
open Go
theorem fold_set (xs : List Value) : ∀ (s off : Nat) (arr : Array Value), off + s + xs.length ≤ arr.size →
    ((xs.zipIdx s).foldl (fun cs (c, j) => cs.setIfInBounds (off + j) c) arr).toList = arr.toList.take (off + s) ++ xs ++ arr.toList.drop (off + s + xs.length) := by
  induction xs with
  | nil => intro s off arr h; simp
  | cons x xs ih =>
    intro s off arr h
    simp only [List.length_cons] at h
    simp only [List.zipIdx_cons, List.foldl_cons]
    rw [ih (s + 1) off _ (by simp; omega)]
    rw [Array.toList_setIfInBounds]
    have hlt : off + s < arr.toList.length := by simp; omega
    rw [show off + (s + 1) = off + s + 1 from by omega, List.take_set, List.drop_set]
    rw [if_pos (by omega)]
    rw [List.take_succ_eq_append_getElem hlt, List.set_append_right _ _ (by simp; omega)]
    simp only [List.length_take, List.length_cons]
    rw [show off + s - min (off + s) arr.toList.length = 0 from by omega]
    simp only [List.set_cons_zero, List.append_assoc, List.cons_append, List.nil_append]
    rw [show off + s + (xs.length + 1) = off + s + 1 + xs.length from by omega]
theorem fill_in_order (k : Nat) : ∀ (vs : List Value) (j : Nat) (arr : Array Value), (∀ v, v ∈ vs → v.cells.size = k) → (j + vs.length) * k ≤ arr.size →
    ∃ out, Instr.fill (fun i => some (i * k, k)) arr ((vs.zipIdx j).map (fun (v, i) => (i, v))) = some out ∧
      out.toList = arr.toList.take (j * k) ++ (vs.flatMap fun v => v.cells.toList) ++ arr.toList.drop ((j + vs.length) * k) := by
  intro vs
  induction vs with
  | nil => intro j arr _ _; exact ⟨arr, by simp [Instr.fill], by simp⟩
  | cons v vs ih =>
    intro j arr hk hle
    simp only [List.length_cons] at hle
    have hv := hk v (by simp)
    have hjk : j * k + k ≤ arr.size := by
      have : (j + 1) * k ≤ (j + (vs.length + 1)) * k := Nat.mul_le_mul_right _ (by omega)
      rw [Nat.add_mul] at this; omega
    have hcl : v.cells.toList.length = k := by simpa using hv
    have hf := fold_set v.cells.toList 0 (j * k) arr (by rw [hcl]; omega)
    have hz : v.cells.zipIdx.foldl (fun cs (c, q) => cs.setIfInBounds (j * k + q) c) arr = (v.cells.toList.zipIdx 0).foldl (fun cs (c, q) => cs.setIfInBounds (j * k + q) c) arr := by
      rw [← Array.foldl_toList, Array.toList_zipIdx]
    generalize harr : (v.cells.toList.zipIdx 0).foldl (fun cs (c, q) => cs.setIfInBounds (j * k + q) c) arr = arr' at hf hz
    have hsz : arr'.size = arr.size := by
      have h := congrArg List.length hf
      rw [List.length_append, List.length_append, List.length_take, List.length_drop, hcl, Array.length_toList, Array.length_toList] at h
      omega
    obtain ⟨out, ho, hol⟩ := ih (j + 1) arr' (fun v hv => hk v (by simp [hv])) (by rw [hsz]; rw [show j + 1 + vs.length = j + (vs.length + 1) from by omega]; exact hle)
    refine ⟨out, ?_, ?_⟩
    · simp only [List.zipIdx_cons, List.map_cons]
      rw [Instr.fill]
      have hng : ¬ (j * k + k > arr.size) := by omega
      simp only [hv, ne_eq, not_true_eq_false, decide_false, hng, Bool.or_false, Bool.false_eq_true, if_false]
      exact hz ▸ ho
    · rw [hol, hf]
      simp only [Nat.add_zero, hcl]
      have h1 : (j + 1) * k = j * k + k := by rw [Nat.add_mul]; omega
      have htl : (arr.toList.take (j * k) ++ v.cells.toList).length = j * k + k := by simp [hcl]; omega
      rw [h1, List.take_left' htl]
      rw [List.flatMap_cons]
      have h2 : (j + 1 + vs.length) * k = (j * k + k) + vs.length * k := by rw [Nat.add_mul, Nat.add_mul]; omega
      have h3 : (j + (v :: vs).length) * k = j * k + k + vs.length * k := by rw [List.length_cons, Nat.add_mul, Nat.add_mul]; omega
      have hd : List.drop ((j + 1 + vs.length) * k) (List.take (j * k) arr.toList ++ v.cells.toList ++ List.drop (j * k + k) arr.toList) = List.drop ((j + (v :: vs).length) * k) arr.toList := by
        rw [h2, h3, List.drop_append, htl, List.drop_eq_nil_of_le (by rw [htl]; omega), List.nil_append, List.drop_drop]
        congr 1; omega
      rw [hd]
      simp only [List.append_assoc]
theorem RelAt.evals {n m G S ι F T O a w} (hr : RelAt n m G S ι F ⟨T, O⟩ a w) (xs : List Operand) : LRel S w ι O (xs.map (av T)) (xs.map a.eval) [] := by
  induction xs with
  | nil => exact .nil
  | cons x xs ih => simpa using LRel.cons (hr.eval x) ih
inductive Lit (T : List (Nat × AV)) (O : List AObj) (k : Nat) : List Operand → List AV → Prop
  | nil : Lit T O k [] []
  | cons {x xs V ds cs} (hx : (av T x).force = some V) (hV : cellsV O V = some ds) (hk : ds.length = k) (h : Lit T O k xs cs) : Lit T O k (x :: xs) (ds ++ cs)
  | one {x xs V cs} (hx : (av T x).force = some V) (hV : oneB O V = true) (hk : k = 1) (h : Lit T O k xs cs) : Lit T O k (x :: xs) (V :: cs)
theorem Lit.rel {n m G S ι F T O a w k} (hr : RelAt n m G S ι F ⟨T, O⟩ a w) {xs cs} (h : Lit T O k xs cs) :
    LRel S w ι O cs ((xs.map a.eval).flatMap fun v => v.cells.toList) [] ∧ (∀ v, v ∈ xs.map a.eval → v.cells.size = k) ∧ cs.length = xs.length * k := by
  induction h with
  | nil => exact ⟨.nil, by simp, by simp⟩
  | cons hx hV hk _ ih =>
    rename_i x xs V ds cs _
    have hv := hr.eval x
    rw [show av (St.mk T O).T x = V from AV.force_eq hx] at hv
    obtain ⟨h1, h2, h3⟩ := ih
    have hc := cellsV_rel hv hV
    refine ⟨by simpa using hc.append h1, ?_, ?_⟩
    · intro u hu
      rcases List.mem_cons.1 hu with rfl | hu
      · have := hc.len; simp at this; omega
      · exact h2 u hu
    · rw [List.length_append, h3, hk, List.length_cons, Nat.add_mul]; omega
  | one hx hV hk _ ih =>
    rename_i x xs V cs _
    have hv := hr.eval x
    rw [show av (St.mk T O).T x = V from AV.force_eq hx] at hv
    obtain ⟨h1, h2, h3⟩ := ih
    have hc := (one_of hv hV).2.1
    refine ⟨by simpa [hc] using LRel.cons hv h1, ?_, ?_⟩
    · intro u hu
      rcases List.mem_cons.1 hu with rfl | hu
      · rw [hc, hk]; rfl
      · exact h2 u hu
    · subst hk; simp only [List.length_cons, h3]; omega
section
variable {P : Program} {n m : Nat} {G : Ctx} {T : List (Nat × AV)} {O : List AObj} {Q : Exit → St → Prop} {ops : Array Oper} {l : List Oper} {d : Nat} {tt : TypeId} {pos : String} {after : Array Edge} {tab : List (Nat × Ty)}
theorem zip_parts (ρ : Operand → Value) : ∀ (parts : List (Nat × Operand)) (j : Nat), parts.map (·.1) = List.range' j parts.length →
    parts.map (fun (i, x) => (i, ρ x)) = (((parts.map (·.2)).map ρ).zipIdx j).map (fun (v, i) => (i, v)) := by
  intro parts
  induction parts with
  | nil => intro j _; rfl
  | cons p parts ih =>
    intro j h
    simp only [List.map_cons, List.length_cons, List.range'_succ, List.cons.injEq] at h
    simp only [List.map_cons, List.zipIdx_cons]
    rw [ih (j + 1) h.2, h.1]
theorem WpL.lit (hP : TabOk P tab) {t e k b len id : Nat} {zs cs : List AV} {parts : List (Nat × Operand)} (ht : tlook tab t = some (.slice e k b zs)) (hidx : parts.map (·.1) = List.range' 0 parts.length) (hlen : parts.length = len)
    (hlit : Lit T O k (parts.map (·.2)) cs) (hsm : len * k ≤ 16777216) (hid : nid O 0 = some id) (hn : d < n)
    (h : WpL P n m G false ops l ⟨(d, .own id 0 0 len) :: T, O ++ [⟨cs, 0, k, some e⟩]⟩ Q) :
    WpL P n m G false ops ({ dst := some d, op := .buildSlice t len parts.toArray, type := tt, pos := pos, after := after, guard := none } :: l) ⟨T, O⟩ Q :=
  WpL.value rfl (fun a w hr => by
    obtain ⟨S, ι, F, hr⟩ := hr
    have hid : id = O.length := by have := nid_eq hid; omega
    subst hid
    obtain ⟨hu, i, z, hi, hz, hk, hby, hzk, hk0, _⟩ := hP.slice ht
    obtain ⟨h1, h2, h3⟩ := hlit.rel hr
    have hvl : (parts.map (·.2)).length = len := by simpa using hlen
    obtain ⟨out, ho, hol⟩ := fill_in_order k ((parts.map (·.2)).map a.eval) 0 ((Array.range (len * k)).map (z.cells[· % z.cells.size]!)) h2 (by simp [hlen])
    have hout : out.toList = ((parts.map (·.2)).map a.eval).flatMap fun v => v.cells.toList := by
      rw [hol]; simp [hlen]
    have hosz : out.size = len * k := by
      have := congrArg List.length hout
      rw [← h1.len, h3, hvl] at this
      simpa using this
    have hrun : (Instr.buildSlice t len (parts.toArray.map fun (i, x) => (i, a.eval x))).run P w = .ok (.slice (some ⟨w.heap.size, 0, none⟩) len len) (w.alloc (.cells out e)) := by
      have hpl : (parts.toArray.map fun (i, x) => (i, a.eval x)).toList = (((parts.map (·.2)).map a.eval).zipIdx 0).map fun (v, i) => (i, v) := by
        rw [Array.toList_map]; exact zip_parts a.eval parts 0 hidx
      unfold Instr.buildSlice
      simp only [Sem.run_bind, run_underlying hu, Result.andThen_ok, run_sizeOf hi hk]
      rw [if_neg (by omega)]
      by_cases hlk : len * k = 0
      · have hr0 : (Array.range (len * k)) = #[] := by rw [hlk]; rfl
        simp only [hlk, if_true, Sem.run_pure, Result.andThen_ok]
        simp only [hlk, Array.range_zero', Array.map_empty] at ho
        rw [hpl]
        have hr1 : Array.range 0 = #[] := rfl
        simp only [hr1, Array.map_empty, ho, newRow, newObj, Sem.run_bind, Sem.run, Result.andThen_ok, Sem.run_pure]
        rfl
      · simp only [hlk, if_false, Sem.run_bind, zeroValue, typeInfo, hi, hz, Sem.run_pure, Result.andThen_ok, program, Sem.run]
        rw [hpl, ho]
        simp only [newRow, newObj, Sem.run_bind, Sem.run, Result.andThen_ok, Sem.run_pure]
        rfl
    have hr' := hr.alloc (ob := ⟨cs, 0, k, some e⟩) (cur := out) (t := e) (fz := (0, 0)) (Adds.alloc w _) (by
      have : out.toList.take cs.length = out.toList := List.take_of_length_le (by simp [hosz, h3, hvl])
      show LRel _ _ _ _ cs (out.toList.take cs.length) []
      rw [this, hout]; exact h1) (by show cs.length ≤ _; rw [h3, hvl, hosz]; exact Nat.le_refl _) (by simp) (by simp)
    refine ⟨.slice (some ⟨w.heap.size, 0, none⟩) len len, w.alloc (.cells out e), by simp only [execOp, Sem.run_bind, hrun, Result.andThen_ok, Sem.run_pure], _, _, _, hr'.put hn ?_⟩
    exact own_new (ob := ⟨cs, 0, k, some e⟩) hosz.symm (Nat.le_refl _) (by have : len ≤ len * k := Nat.le_mul_of_pos_right _ hk0; simp only [maxLen]; omega)) h
theorem all_u8s (O : List AObj) (xs : List Int) : (u8s xs).all (oneB O) = true := by
  rw [List.all_eq_true]; intro V hV; simp only [u8s, List.mem_map] at hV; obtain ⟨x, _, rfl⟩ := hV; rfl
theorem all_ints (O : List AObj) (xs : List Int) : (ints xs).all (oneB O) = true := by
  rw [List.all_eq_true]; intro V hV; simp only [ints, List.mem_map] at hV; obtain ⟨x, _, rfl⟩ := hV; rfl
theorem all_strs (O : List AObj) (xs : List (List UInt8)) : (strs xs).all (oneB O) = true := by
  rw [List.all_eq_true]; intro V hV; simp only [strs, List.mem_map] at hV; obtain ⟨x, _, rfl⟩ := hV; rfl
theorem lrel_u8s {S w ι O xs us f} (hl : LRel S w ι O (u8s xs) us f) : us = xs.map (Value.int .u8) := by
  induction xs generalizing us f with
  | nil => cases hl; rfl
  | cons x xs ih =>
    obtain ⟨v, vs', f1, f2, rfl, hv, hr, hf⟩ := LRel.uncons hl
    rw [hv.sc_eq, ih hr]; rfl
theorem WpL.ofBytes (hP : TabOk P tab) {s t e b c : Nat} {zs : List AV} {x : Operand} {Vx : AV} {xs : List Int} (hs : tlook tab s = some (.slice e 1 b zs)) (ht : tlook tab t = some .string) (he : tlook tab e = some (.int .u8))
    (hx : (av T x).force = some Vx) (hsrc : srcB O Vx = some (u8s xs, c)) (hc : xs.length = c) (hn : d < n)
    (h : WpL P n m G false ops l ⟨(d, .sc (.string ⟨(xs.map fun n => UInt8.ofNat n.toNat).toArray⟩)) :: T, O⟩ Q) :
    WpL P n m G false ops ({ dst := some d, op := .convert s t x, type := tt, pos := pos, after := after, guard := none } :: l) ⟨T, O⟩ Q :=
  WpL.pure rfl rfl hn (fun S ι F a w hr => by
    have hsu := (hP.slice hs).1
    have htu := (hP.ty ht).1
    have heu := (hP.ty he).1
    have hv := hr.eval x
    rw [show av (St.mk T O).T x = Vx from AV.force_eq hx] at hv
    have hone : (u8s xs).all (oneB O) = true := all_u8s O xs
    obtain ⟨us, hl, _, hcase⟩ := src_cells (k := 1) hr.objs hv hsrc (by simp [hc]) hone
    have hus : us = xs.map (Value.int .u8) := lrel_u8s hl
    refine ⟨_, ?_, .sc .nil⟩
    rcases hcase with ⟨ad, cp, h1, _, h2, h3⟩ | ⟨b', o, cap, h1, hcell⟩
    · subst h3
      have hx0 : xs = [] := by cases xs with | nil => rfl | cons x xs => simp at hus
      subst hx0
      have hrun : ∀ dst, P.underlying dst = some .string → (convert s dst (.slice ad 0 cp)).run P w = .ok (.string ByteArray.empty) w := by
        intro dst hd
        cases ad with
        | none => exact run_convert_bytes_nil (P := P) w s e hsu heu 0 cp dst hd
        | some ad =>
          rw [run_convert_bytes_string w s dst e _ 0 cp hsu heu hd]
          simp [Conv.bytesToString, loadCells, loadCellsFrom]
      have := hrun
      simp only [execOp, h1, Sem.run_bind, this t htu, Result.andThen_ok, Sem.run_pure]
      rfl
    · have := run_convert_bytes_arg (P := P) w s e hsu heu b' o c cap xs hc (by
        intro i hi
        rw [hcell i (by rw [hus]; simp; omega), hus]
        simp [hc, hi, List.getD]) t htu
      simp only [execOp, h1, Sem.run_bind, this, Result.andThen_ok, Sem.run_pure]
      rfl) h
end
end Go.Abs


namespace Go.Abs
open Go
def AV.still : AV → Bool
  | .own _ _ _ _ => false
  | .ptr _ _ _ => false
  | .agg _ => false
  | .tup _ => false
  | .fn _ (_ :: _) => false
  | .ifc _ (.sc _) => true
  | .ifc _ .any => true
  | .ifc _ _ => false
  | _ => true
theorem still_any {S w ι O S' w' ι' V x f} (h : VRel S w ι O V x f) (hs : V.still = true) (O' : List AObj) (h1 : ∀ b, S b → S' b) (h2 : ∀ b, S b → w'.heap[b]? = w.heap[b]?) (hf : ∀ b ∈ f, w'.heap[b]? = w.heap[b]?) : VRel S' w' ι' O' V x f := by
  have hn : Later S w ι [] S' w' ι' O' := Later.none O' h1 h2
  cases h with
  | any r => cases r; exact .any .nil
  | sc r => cases r; exact .sc .nil
  | agg => simp [AV.still] at hs
  | tup => simp [AV.still] at hs
  | nilS r => cases r; exact .nilS .nil
  | imm0 h0 r => cases r; exact .imm0 h0 .nil
  | imm a b c d e g r => cases r; exact LRel.mono hn (.imm (O := []) a b c d e g .nil) hf
  | fre0 r => cases r; exact .fre0 .nil
  | fre a b c d e g i r => cases r; exact LRel.mono hn (.fre (O := []) a b c d e g i .nil) hf
  | own => simp [AV.still] at hs
  | ptr => simp [AV.still] at hs
  | iptr a b c r => cases r; exact LRel.mono hn (.iptr (O := []) a b c .nil) hf
  | fn a r =>
    rename_i ff ds us
    cases r
    cases ds with
    | nil => cases a; exact .fn .nil .nil
    | cons d ds => simp [AV.still] at hs
  | ifc a r =>
    rename_i t v x
    cases r
    cases v <;> simp [AV.still] at hs
    all_goals first
      | (cases a with
         | sc r => cases r; exact .ifc (.sc .nil) .nil)
      | (cases a with
         | any r => cases r; exact .ifc (.any .nil) .nil)
def AV.simple : AV → Bool
  | .sc _ => true
  | .nilS => true
  | .imm _ _ _ => true
  | .iptr _ _ => true
  | _ => false
theorem simple_all {S w ι O O'} : ∀ {ds : List AV} {us f}, LRel S w ι O ds us f → ds.all AV.simple = true → LRel S w ι O' ds us f
  | [], us, f, h, _ => by cases h; exact .nil
  | d :: ds, us, f, h, hs => by
    simp only [List.all_cons, Bool.and_eq_true] at hs
    obtain ⟨v, vs', f1, f2, rfl, hv, hr, rfl⟩ := h.uncons
    have hst : d.still = true := by cases d <;> simp_all [AV.simple, AV.still]
    exact LRel.cons (still_any hv hst O' (fun _ h => h) (fun _ _ => rfl) (fun _ _ => rfl)) (simple_all hr hs.2)
inductive Re (O O' : List AObj) : List AV → List AV → Prop
  | nil : Re O O' [] []
  | any {V vs us} : Re O O' vs us → Re O O' (V :: vs) (.any :: us)
  | keep {V V' vs us} : V = V' → V'.still = true → Re O O' vs us → Re O O' (V :: vs) (V' :: us)
  | fn {f ds vs us} : ds.all AV.simple = true → Re O O' vs us → Re O O' (.fn f ds :: vs) (.fn f ds :: us)
  | own {id ep ep' off len len' ob ob' vs us} : O[id]? = some ob → O'[id]? = some ob' → ob.ep = ep → ob'.ep = ep' → ob'.size = ob.size → len = len' → Re O O' vs us → Re O O' (.own id ep off len :: vs) (.own id ep' off len' :: us)
  | ptr {id ep ep' off ob ob' vs us} : O[id]? = some ob → O'[id]? = some ob' → ob.ep = ep → ob'.ep = ep' → Re O O' vs us → Re O O' (.ptr id ep off :: vs) (.ptr id ep' off :: us)
  | agg {ds es vs us} : Re O O' ds es → Re O O' vs us → Re O O' (.agg ds :: vs) (.agg es :: us)
  | tup {ds es vs us} : Re O O' ds es → Re O O' vs us → Re O O' (.tup ds :: vs) (.tup es :: us)
theorem Re.same {O O' : List AObj} {cs cs' : List AV} (h : cs = cs') (hs : cs'.all AV.still = true) : Re O O' cs cs' := by
  subst h
  induction cs with
  | nil => exact .nil
  | cons c cs ih =>
    simp only [List.all_cons, Bool.and_eq_true] at hs
    exact .keep rfl hs.1 (ih hs.2)
theorem still_ints (xs : List Int) : (ints xs).all AV.still = true := by
  rw [List.all_eq_true]; intro V hV; simp only [ints, List.mem_map] at hV; obtain ⟨x, _, rfl⟩ := hV; rfl
theorem still_u8s (xs : List Int) : (u8s xs).all AV.still = true := by
  rw [List.all_eq_true]; intro V hV; simp only [u8s, List.mem_map] at hV; obtain ⟨x, _, rfl⟩ := hV; rfl
theorem still_bools (xs : List Bool) : (bools xs).all AV.still = true := by
  rw [List.all_eq_true]; intro V hV; simp only [bools, List.mem_map] at hV; obtain ⟨x, _, rfl⟩ := hV; rfl
theorem still_strs (xs : List (List UInt8)) : (strs xs).all AV.still = true := by
  rw [List.all_eq_true]; intro V hV; simp only [strs, List.mem_map] at hV; obtain ⟨x, _, rfl⟩ := hV; rfl
theorem Re.rel {O O' : List AObj} {S w ι} {vs us : List AV} (h : Re O O' vs us) : ∀ {xs f}, LRel S w ι O vs xs f → ∃ f', LRel S w ι O' us xs f' ∧ (∀ b ∈ f', b ∈ f) ∧ (f.Nodup → f'.Nodup) := by
  induction h with
  | nil => intro xs f hl; cases hl; exact ⟨[], .nil, by simp, by simp⟩
  | any _ ih =>
    intro xs f hl
    obtain ⟨v, vs', f1, f2, rfl, hv, hr, rfl⟩ := hl.uncons
    obtain ⟨f', h1, h2, h3⟩ := ih hr
    exact ⟨f', .any h1, fun b hb => List.mem_append_right _ (h2 b hb), fun hn => h3 (List.nodup_append.1 hn).2.1⟩
  | keep he hs _ ih =>
    intro xs f hl
    subst he
    obtain ⟨v, vs', f1, f2, rfl, hv, hr, rfl⟩ := hl.uncons
    obtain ⟨f', h1, h2, h3⟩ := ih hr
    refine ⟨f1 ++ f', LRel.cons (still_any hv hs O' (fun _ h => h) (fun _ _ => rfl) (fun _ _ => rfl)) h1, ?_, ?_⟩
    · intro b hb
      rcases List.mem_append.1 hb with hb | hb
      · exact List.mem_append_left _ hb
      · exact List.mem_append_right _ (h2 b hb)
    · intro hn
      obtain ⟨n1, n2, n3⟩ := List.nodup_append.1 hn
      exact List.nodup_append.2 ⟨n1, h3 n2, fun a ha b hb => n3 a ha b (h2 b hb)⟩
  | fn hs _ ih =>
    intro xs f hl
    obtain ⟨v, vs', f1, f2, rfl, hv, hr, rfl⟩ := hl.uncons
    obtain ⟨f', h1, h2, h3⟩ := ih hr
    refine ⟨f', ?_, fun b hb => List.mem_append_right _ (h2 b hb), fun hn => h3 (List.nodup_append.1 hn).2.1⟩
    cases hv with
    | fn a r => cases r; exact .fn (simple_all a hs) h1
  | own ho ho' he he' hsz hln _ ih =>
    intro xs f hl
    subst hln
    obtain ⟨v, vs', f1, f2, rfl, hv, hr, rfl⟩ := hl.uncons
    obtain ⟨f', h1, h2, h3⟩ := ih hr
    refine ⟨f', ?_, fun b hb => List.mem_append_right _ (h2 b hb), fun hn => h3 (List.nodup_append.1 hn).2.1⟩
    cases hv with
    | own q1 q2 q3 r =>
      rw [ho] at q1; cases q1
      exact .own ho' (by omega) (fun _ => by rw [hsz]; exact q3 he.symm) h1
  | ptr ho ho' he he' _ ih =>
    intro xs f hl
    obtain ⟨v, vs', f1, f2, rfl, hv, hr, rfl⟩ := hl.uncons
    obtain ⟨f', h1, h2, h3⟩ := ih hr
    refine ⟨f', ?_, fun b hb => List.mem_append_right _ (h2 b hb), fun hn => h3 (List.nodup_append.1 hn).2.1⟩
    cases hv with
    | ptr q1 q2 q3 r =>
      rw [ho] at q1; cases q1
      exact .ptr ho' (by omega) (fun _ => q3 he.symm) h1
  | agg _ _ ih1 ih2 =>
    intro xs f hl
    obtain ⟨v, vs', f1, f2, rfl, hv, hr, rfl⟩ := hl.uncons
    obtain ⟨us', rfl, ha⟩ := LRel.agg_inv hv
    obtain ⟨g', a1, a2, a3⟩ := ih1 ha
    obtain ⟨f', h1, h2, h3⟩ := ih2 hr
    refine ⟨g' ++ f', .agg a1 h1, ?_, ?_⟩
    · intro b hb
      rcases List.mem_append.1 hb with hb | hb
      · exact List.mem_append_left _ (a2 b hb)
      · exact List.mem_append_right _ (h2 b hb)
    · intro hn
      obtain ⟨n1, n2, n3⟩ := List.nodup_append.1 hn
      exact List.nodup_append.2 ⟨a3 n1, h3 n2, fun a ha b hb => n3 a (a2 a ha) b (h2 b hb)⟩
  | tup _ _ ih1 ih2 =>
    intro xs f hl
    obtain ⟨v, vs', f1, f2, rfl, hv, hr, rfl⟩ := hl.uncons
    obtain ⟨us', rfl, ha⟩ := LRel.tup_inv hv
    obtain ⟨g', a1, a2, a3⟩ := ih1 ha
    obtain ⟨f', h1, h2, h3⟩ := ih2 hr
    refine ⟨g' ++ f', .tup a1 h1, ?_, ?_⟩
    · intro b hb
      rcases List.mem_append.1 hb with hb | hb
      · exact List.mem_append_left _ (a2 b hb)
      · exact List.mem_append_right _ (h2 b hb)
    · intro hn
      obtain ⟨n1, n2, n3⟩ := List.nodup_append.1 hn
      exact List.nodup_append.2 ⟨a3 n1, h3 n2, fun a ha b hb => n3 a (a2 a ha) b (h2 b hb)⟩
inductive ReT (O O' : List AObj) (T : List (Nat × AV)) : List (Nat × AV) → Prop
  | nil : ReT O O' T []
  | cons {t V T'} : Re O O' [look T t] [V] → ReT O O' T T' → ReT O O' T ((t, V) :: T')
theorem ReT.at {O O' T T'} (h : ReT O O' T T') (t : Nat) : Re O O' [look T t] [look T' t] := by
  induction h with
  | nil => exact .any .nil
  | @cons k V T' hk _ ih =>
    by_cases he : k = t
    · subst he; rw [look_cons_same]; exact hk
    · rw [look_cons_other _ _ _ _ he]; exact ih
inductive ReO (O O' : List AObj) : List AObj → List AObj → Prop
  | nil {os} : ReO O O' os []
  | cons {ob ob' os os'} : Re O O' ob.cells ob'.cells → (ob'.ty = none ∨ ob'.ty = ob.ty) → ReO O O' os os' → ReO O O' (ob :: os) (ob' :: os')
theorem ReO.at {O O' os os'} (h : ReO O O' os os') {id : Nat} {ob' : AObj} (hi : os'[id]? = some ob') : ∃ ob, os[id]? = some ob ∧ Re O O' ob.cells ob'.cells ∧ (ob'.ty = none ∨ ob'.ty = ob.ty) := by
  induction h generalizing id with
  | nil => simp at hi
  | cons h1 h2 _ ih =>
    cases id with
    | zero => simp at hi; subst hi; exact ⟨_, by simp, h1, h2⟩
    | succ id => simpa using ih (by simpa using hi)
theorem Weak.mk {m : Nat} {T T' : List (Nat × AV)} {O O' : List AObj} (hT : ReT O O' T T') (hO : ReO O O' O O') (hm : m ≤ O'.length) : Weak m ⟨T, O⟩ ⟨T', O'⟩ := by
  rintro n G a w ⟨S, ι, F, hr⟩
  have hex : ∀ id, ∃ f, ∀ ob', O'[id]? = some ob' → ObjAt S w ι O' ob' (ι id) f ∧ (∀ b ∈ f, b ∈ F id) ∧ f.Nodup := by
    intro id
    cases hi : O'[id]? with
    | none => exact ⟨[], by simp⟩
    | some ob' =>
      obtain ⟨ob, ho, hre, hty⟩ := hO.at hi
      have hid : id < O.length := (List.getElem?_eq_some_iff.1 ho).1
      have hob := hr.objs.obj id ob ho
      unfold ObjAt at hob
      cases hs : ι id with
      | none =>
        rw [hs] at hob
        refine ⟨[], fun ob2 h2 => ?_⟩
        cases h2
        refine ⟨?_, by simp, by simp⟩
        rw [hob.1] at hre
        unfold ObjAt
        cases hc : ob'.cells with
        | nil => exact ⟨rfl, rfl⟩
        | cons c cs => rw [hc] at hre; cases hre
      | some p =>
        obtain ⟨b, k⟩ := p
        rw [hs] at hob
        obtain ⟨cur, t, fz, f', hF, h1, h2, h3, h4, h5, h6⟩ := hob
        obtain ⟨g, g1, g2, g3⟩ := hre.rel h6
        have hnd : (b :: f').Nodup := by rw [← hF]; exact hr.objs.nodup id hid
        have hlen : ob'.cells.length = ob.cells.length := by
          have e1 := g1.len
          have e2 := h6.len
          omega
        refine ⟨b :: g, fun ob2 hh => ?_⟩
        cases hh
        refine ⟨⟨cur, t, fz, g, rfl, h1, h2, by omega, h4, fun e he => ?_, by rw [hlen]; exact g1⟩, ?_, ?_⟩
        · rcases hty with hty | hty
          · rw [hty] at he; cases he
          · exact h5 e (by rw [← hty]; exact he)
        · intro b' hb'
          rw [hF]
          rcases List.mem_cons.1 hb' with rfl | hb'
          · simp
          · simp [g2 b' hb']
        · exact List.nodup_cons.2 ⟨fun hb => (List.nodup_cons.1 hnd).1 (g2 b hb), g3 (List.nodup_cons.1 hnd).2⟩
  have hFx : ∃ F' : Nat → List Nat, ∀ id ob', O'[id]? = some ob' → ObjAt S w ι O' ob' (ι id) (F' id) ∧ (∀ b ∈ F' id, b ∈ F id) ∧ (F' id).Nodup :=
    ⟨fun id => (hex id).choose, fun id => (hex id).choose_spec⟩
  obtain ⟨F', hF'⟩ := hFx
  have hle : ∀ id, id < O'.length → id < O.length := by
    intro id hid
    obtain ⟨ob, ho, _⟩ := hO.at (List.getElem?_eq_getElem hid)
    exact (List.getElem?_eq_some_iff.1 ho).1
  refine ⟨S, ι, F', hr.defers, hr.size, fun t => ?_, ⟨fun id ob' h => (hF' id ob' h).1, fun id h => (hF' id _ (List.getElem?_eq_getElem h)).2.2, fun i j hi hj hij b hb hb' => ?_⟩, fun id h b hb => ?_, hr.base, hr.stable, hr.keeps, hr.spots, hm⟩
  · obtain ⟨f', h1, h2, _⟩ := (hT.at t).rel (hr.tmps t)
    have : f' = [] := List.eq_nil_iff_forall_not_mem.2 fun b hb => by simpa using h2 b hb
    subst this
    exact h1
  · have hi : i < O'.length := hi
    have hj : j < O'.length := hj
    exact hr.objs.apart i j (hle i hi) (hle j hj) hij b ((hF' i _ (List.getElem?_eq_getElem hi)).2.1 b hb) ((hF' j _ (List.getElem?_eq_getElem hj)).2.1 b hb')
  · have h : id < O'.length := h
    exact hr.foot id (hle id h) b ((hF' id _ (List.getElem?_eq_getElem h)).2.1 b hb)
def Runs (P : Program) (f : FuncId) : Prop := ∃ fn, P.funcs[f]? = some fn ∧ fn.body.isNone = false ∧ (fn.name == "runtime.NumGoroutine") = false
def FnC (P : Program) (f : FuncId) (args : List AV) (N : List AObj) (r : AV) : Prop :=
  Runs P f ∧ ∀ (w : World) (S : Nat → Prop) (vs : List Value), (∀ b, S b → b < w.heap.size) → GlbOk S w → LRel S w (fun _ => none) [] args vs [] →
    Calls P f vs.toArray w fun e w' => ∃ v S' ι F, e = .returned v ∧ (∀ b, S b → S' b) ∧ (∀ b, S' b → S b ∨ w.heap.size ≤ b) ∧ (∀ b, S' b → b < w'.heap.size) ∧ ORel S' w' ι N F ∧
      (∀ id, id < N.length → ∀ b ∈ F id, w.heap.size ≤ b ∧ ¬ S' b ∧ b < w'.heap.size) ∧ VRel S' w' ι N r v [] ∧ Keeps w (fun _ => False) w'
inductive Snap (O : List AObj) : List AV → List AV → Prop
  | nil : Snap O [] []
  | any {V vs us} : Snap O vs us → Snap O (V :: vs) (.any :: us)
  | keep {V vs us} : V.still = true → V.nofre = true → Snap O vs us → Snap O (V :: vs) (V :: us)
  | nilI {s vs us} : Snap O vs us → Snap O (.nilS :: vs) (.imm s 0 [] :: us)
  | own {id ep len len' sz ob es vs us} : O[id]? = some ob → ob.ep = ep → ob.size = sz → len * ob.size = ob.cells.length → len = len' → Snap O ob.cells es → Snap O vs us → Snap O (.own id ep 0 len :: vs) (.imm sz len' es :: us)
  | ownO {id ep off len len' sz ob ds es vs us} : O[id]? = some ob → ob.ep = ep → ob.size = sz → ob.cells.drop off = ds → len * ob.size = ds.length → len = len' → Snap O ds es → Snap O vs us → Snap O (.own id ep off len :: vs) (.imm sz len' es :: us)
  | fre {s l ds es vs us} : Snap O ds es → Snap O vs us → Snap O (.fre s l ds :: vs) (.imm s l es :: us)
  | ptr {id ep off ob es vs us} : O[id]? = some ob → ob.ep = ep → Snap O ob.cells es → Snap O vs us → Snap O (.ptr id ep off :: vs) (.iptr es off :: us)
  | agg {ds es vs us} : Snap O ds es → Snap O vs us → Snap O (.agg ds :: vs) (.agg es :: us)
  | fn {f ds es vs us} : Snap O ds es → Snap O vs us → Snap O (.fn f ds :: vs) (.fn f es :: us)
theorem Snap.same {O : List AObj} {cs cs' : List AV} (h : cs = cs') (hs : cs'.all AV.still = true) (hf : cs'.all AV.nofre = true) : Snap O cs cs' := by
  subst h
  induction cs with
  | nil => exact .nil
  | cons c cs ih =>
    simp only [List.all_cons, Bool.and_eq_true] at hs hf
    exact .keep hs.1 hf.1 (ih hs.2 hf.2)
theorem nofre_ints (xs : List Int) : (ints xs).all AV.nofre = true := by
  rw [List.all_eq_true]; intro V hV; simp only [ints, List.mem_map] at hV; obtain ⟨x, _, rfl⟩ := hV; rfl
theorem nofre_u8s (xs : List Int) : (u8s xs).all AV.nofre = true := by
  rw [List.all_eq_true]; intro V hV; simp only [u8s, List.mem_map] at hV; obtain ⟨x, _, rfl⟩ := hV; rfl
theorem nofre_bools (xs : List Bool) : (bools xs).all AV.nofre = true := by
  rw [List.all_eq_true]; intro V hV; simp only [bools, List.mem_map] at hV; obtain ⟨x, _, rfl⟩ := hV; rfl
theorem nofre_strs (xs : List (List UInt8)) : (strs xs).all AV.nofre = true := by
  rw [List.all_eq_true]; intro V hV; simp only [strs, List.mem_map] at hV; obtain ⟨x, _, rfl⟩ := hV; rfl
theorem cell_of_heap {w : World} {b : Nat} {cur : Array Value} {t : TypeId} {fz : Nat × Nat} (h : w.heap[b]? = some (.cells cur t fz)) (n i : Nat) (hi : i < (cur.toList.take n).length) : w.cell? ⟨b, 0 + i, none⟩ = (cur.toList.take n)[i]? := by
  rw [Nat.zero_add, cell_of_row w b i cur t fz h, List.getElem?_take, if_pos (by simp at hi; omega)]
  simp
theorem Snap.rel {O : List AObj} {S w ι ι'} {vs us : List AV} (h : Snap O vs us) : ∀ {F xs f}, ORel S w ι O F → (∀ b, S b → b < w.heap.size) → LRel S w ι O vs xs f → LRel (fun b => b < w.heap.size) w ι' [] us xs [] := by
  have blk : ∀ {b : Nat} {o : Obj}, w.heap[b]? = some o → b < w.heap.size := fun h => (Array.getElem?_eq_some_iff.1 h).1
  induction h with
  | nil => intro F xs f _ _ hl; cases hl; exact .nil
  | any _ ih =>
    intro F xs f ho hS hl
    obtain ⟨v, vs', f1, f2, rfl, hv, hr, rfl⟩ := hl.uncons
    exact .any (ih ho hS hr)
  | keep hs hn _ ih =>
    intro F xs f ho hS hl
    obtain ⟨v, vs', f1, f2, rfl, hv, hr, rfl⟩ := hl.uncons
    have := nofre_nil hv hn
    subst this
    have := LRel.cons (still_any hv hs [] hS (fun _ _ => rfl) (by simp)) (ih ho hS hr)
    simpa using this
  | fn _ _ ih1 ih2 =>
    intro F xs f ho hS hl
    obtain ⟨v, vs', f1, f2, rfl, hv, hr, rfl⟩ := hl.uncons
    cases hv with | fn a r => cases r; exact .fn (ih1 ho hS a) (ih2 ho hS hr)
  | nilI _ ih =>
    intro F xs f ho hS hl
    obtain ⟨v, vs', f1, f2, rfl, hv, hr, rfl⟩ := hl.uncons
    have := (LRel.slice_len hv).2.2 rfl
    subst this
    exact .imm0 (by simp) (ih ho hS hr)
  | @own id ep len len' sz ob es vs us hob hep hsz hlen hll _ _ ih1 ih2 =>
    intro F xs f ho hS hl
    subst hll hsz
    obtain ⟨v, vs', f1, f2, rfl, hv, hr, rfl⟩ := hl.uncons
    have hoa := ho.obj id ob hob
    unfold ObjAt at hoa
    cases hv with
    | own q1 q2 q3 r =>
      rw [hob] at q1; cases q1
      have hc := q3 hep.symm
      cases hs : ι id with
      | none =>
        rw [hs] at hc hoa
        obtain ⟨h1, _, h3⟩ := hc
        subst h1; subst h3
        have : es = [] := by
          have := ih1 (xs := []) (f := []) ho hS (by rw [hoa.1]; exact .nil)
          cases this; rfl
        subst this
        exact .imm0 (by simp) (ih2 ho hS hr)
      | some p =>
        obtain ⟨b, k⟩ := p
        rw [hs] at hc hoa
        obtain ⟨cap, h1, _, h3, h4⟩ := hc
        obtain ⟨cur, t, fz, f', _, hh, _, _, _, _, hl'⟩ := hoa
        subst h1
        have hi := ih1 ho hS hl'
        refine .imm (us := cur.toList.take ob.cells.length) (blk hh) (fun i hi => cell_of_heap hh _ i hi) hi ?_ h3 h4 (ih2 ho hS hr)
        rw [hlen, hl'.len, hi.len]
  | @ownO id ep off len len' sz ob ds es vs us hob hep hsz hds hlen hll _ _ ih1 ih2 =>
    intro F xs f ho hS hl
    subst hll hsz hds
    obtain ⟨v, vs', f1, f2, rfl, hv, hr, rfl⟩ := hl.uncons
    have hoa := ho.obj id ob hob
    unfold ObjAt at hoa
    cases hv with
    | own q1 q2 q3 r =>
      rw [hob] at q1; cases q1
      have hc := q3 hep.symm
      cases hs : ι id with
      | none =>
        rw [hs] at hc hoa
        obtain ⟨h1, h2, h3⟩ := hc
        subst h1; subst h3
        have : es = [] := by
          have := ih1 (xs := []) (f := []) ho hS (by rw [hoa.1]; simpa using .nil)
          cases this; rfl
        subst this
        exact .imm0 (by simp) (ih2 ho hS hr)
      | some p =>
        obtain ⟨b, k⟩ := p
        rw [hs] at hc hoa
        obtain ⟨cap, h1, _, h3, h4⟩ := hc
        obtain ⟨cur, t, fz, f', _, hh, _, _, _, _, hl'⟩ := hoa
        subst h1
        obtain ⟨g, hld, _, _⟩ := hl'.drop off
        have hi := ih1 ho hS hld
        refine .imm (us := (cur.toList.take ob.cells.length).drop off) (blk hh) (fun i hi => ?_) hi ?_ h3 h4 (ih2 ho hS hr)
        · have := cell_of_heap hh ob.cells.length (off + i) (by simp only [List.length_drop] at hi; omega)
          rw [Nat.zero_add] at this
          rw [this, List.getElem?_drop]
        · rw [hlen, hld.len, hi.len]
  | @fre s l ds es vs us _ _ ih1 ih2 =>
    intro F xs f ho hS hl
    obtain ⟨v, vs', f1, f2, rfl, hv, hr, rfl⟩ := hl.uncons
    cases hv with
    | fre0 r =>
      have := ih1 (xs := []) (f := []) ho hS .nil
      cases this
      exact .imm0 (by simp) (ih2 ho hS hr)
    | @fre _ _ b _ cap cur t fz _ us' f' _ _ _ hh0 hsz hu hl' h1 h2 h3 r =>
      have hh := hh0.1
      have hi := ih1 ho hS hl'.lift
      subst hu
      refine .imm (us := cur.toList.take ds.length) (blk hh) (fun i hi => cell_of_heap hh _ i hi) hi ?_ h2 h3 (ih2 ho hS hr)
      rw [h1, hl'.len, hi.len]
  | @ptr id ep off ob es vs us hob hep _ _ ih1 ih2 =>
    intro F xs f ho hS hl
    obtain ⟨v, vs', f1, f2, rfl, hv, hr, rfl⟩ := hl.uncons
    have hoa := ho.obj id ob hob
    unfold ObjAt at hoa
    cases hv with
    | ptr q1 q2 q3 r =>
      rw [hob] at q1; cases q1
      have hc := q3 hep.symm
      cases hs : ι id with
      | none => rw [hs] at hc; exact hc.elim
      | some p =>
        obtain ⟨b, k⟩ := p
        rw [hs] at hc hoa
        obtain ⟨cur, t, fz, f', _, hh, _, _, _, _, hl'⟩ := hoa
        have h1 : _ = Value.pointer (some ⟨b, off, none⟩) := hc
        subst h1
        have := LRel.iptr (O := []) (ι := ι') (off := off) (S := fun b => b < w.heap.size) (us := cur.toList.take ob.cells.length) (blk hh) (fun i hi => cell_of_heap hh _ i hi) (ih1 ho hS hl') (ih2 ho hS hr)
        rwa [Nat.zero_add] at this
  | agg _ _ ih1 ih2 =>
    intro F xs f ho hS hl
    obtain ⟨v, vs', f1, f2, rfl, hv, hr, rfl⟩ := hl.uncons
    obtain ⟨us', rfl, ha⟩ := LRel.agg_inv hv
    have := LRel.agg (ih1 ho hS ha) (ih2 ho hS hr)
    simpa using this
end Go.Abs
