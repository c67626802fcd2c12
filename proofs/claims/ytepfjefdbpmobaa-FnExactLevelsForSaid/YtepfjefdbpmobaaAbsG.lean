/- The rules of stores, slice literals, make and append. No condition. -/
import Derived.Test.YtepfjefdbpmobaaAbsF
namespace Go.Abs
open Go
set_option linter.unusedVariables false
set_option linter.unusedSimpArgs false

theorem RelAt.set {n m G S ι F T O a w} (hr : RelAt n m G S ι F ⟨T, O⟩ a w) {id b k off : Nat} {ob : AObj} {V : AV} {x : Value} (ho : O[id]? = some ob) (hs : ι id = some (b, k)) (hoff : off < ob.cells.length) (hv : VRel S w ι O V x []) :
    w.cell? ⟨b, off, none⟩ ≠ none ∧ w.frozen? ⟨b, off, none⟩ = false ∧ ∃ F', RelAt n m G S ι F' ⟨T, O.set id { ob with cells := ob.cells.set off V }⟩ a (w.setCell ⟨b, off, none⟩ x) := by
  have hid : id < O.length := (List.getElem?_eq_some_iff.1 ho).1
  have hob := hr.objs.obj id ob ho
  unfold ObjAt at hob
  rw [hs] at hob
  obtain ⟨cur, t, fz, f', hF, hh, hk, hle, hfz, hty, hl⟩ := hob
  have hoffk : off < cur.size := by omega
  refine ⟨by rw [cell_of_row w b off cur t fz hh]; simp [hoffk], ?_, ?_⟩
  · have := hfz off (by omega)
    simp only [World.frozen?, hh]
    simpa using this
  have hbF : b ∈ F id := by rw [hF]; simp
  have hnS : ¬ S b := (hr.foot id hid b hbF).2.1
  have hnd : (b :: f').Nodup := by rw [← hF]; exact hr.objs.nodup id hid
  have hbl : b < w.heap.size := (hr.foot id hid b hbF).2.2
  have hother : ∀ b', b' ≠ b → (w.setCell ⟨b, off, none⟩ x).heap[b']? = w.heap[b']? := fun b' hb' => heap_setCell_other w _ b' x hb'
  have hnew : (w.setCell ⟨b, off, none⟩ x).heap[b]? = some (.cells (cur.setIfInBounds off x) t fz) := by
    simp [World.setCell, Array.getElem?_modify, hh]
  have hlat : Later S w ι O S (w.setCell ⟨b, off, none⟩ x) ι (O.set id { ob with cells := ob.cells.set off V }) := by
    refine ⟨fun _ h => h, fun b' hb' => hother b' (fun e => hnS (e ▸ hb')), fun id' ob' h => ?_⟩
    by_cases he : id' = id
    · subst he
      rw [ho] at h; cases h
      exact ⟨{ ob with cells := ob.cells.set off V }, by rw [List.getElem?_set_self hid], .inr ⟨rfl, rfl, rfl⟩⟩
    · exact ⟨ob', by rw [List.getElem?_set_ne (by omega)]; exact h, .inr ⟨rfl, rfl, rfl⟩⟩
  obtain ⟨e, hle', hem, hend⟩ := hl.set hv off
  have hlen2 : (ob.cells.set off V).length = ob.cells.length := by simp
  have hnF : ∀ j, j < O.length → j ≠ id → b ∉ F j := fun j hj hji hb => hr.objs.apart id j hid hj (by omega) b hbF hb
  refine ⟨upd F id (b :: e), hr.defers, hr.size, fun t' => (hr.tmps t').mono hlat (by simp), ⟨fun id' ob' h => ?_, fun id' h => ?_, fun i j hi hj hij b' hb' => ?_⟩, fun id' h b' hb' => ?_, hr.base, fun b' hb' => ?_, ?_, hr.spots, ?_⟩
  · by_cases he : id' = id
    · subst he
      rw [upd_same]
      have h : (O.set id' { ob with cells := ob.cells.set off V })[id']? = some ob' := h
      rw [List.getElem?_set_self hid] at h
      cases h
      unfold ObjAt
      rw [hs]
      refine ⟨_, t, fz, e, rfl, hnew, by simpa using hk, by simpa using hle, hfz, hty, ?_⟩
      have e2 : (cur.setIfInBounds off x).toList.take (ob.cells.set off V).length = (cur.toList.take ob.cells.length).set off x := by
        rw [hlen2, Array.toList_setIfInBounds, List.take_set]
      rw [e2]
      refine LRel.mono hlat hle' fun b' hb' => hother b' ?_
      rintro rfl
      rcases hem b' hb' with h | h
      · exact (List.nodup_cons.1 hnd).1 h
      · simp at h
    · rw [upd_other _ _ he]
      have h : (O.set id { ob with cells := ob.cells.set off V })[id']? = some ob' := h
      rw [List.getElem?_set_ne (by omega)] at h
      have hlt : id' < O.length := (List.getElem?_eq_some_iff.1 h).1
      have ho' := hr.objs.obj id' ob' h
      unfold ObjAt at ho' ⊢
      cases hs' : ι id' with
      | none => rw [hs'] at ho'; exact ho'
      | some p =>
        obtain ⟨b2, k2⟩ := p
        rw [hs'] at ho'
        obtain ⟨cur', t', fz', f2, h1, h2, h3, h4, h5, h6, h7⟩ := ho'
        have hne : ∀ b', b' ∈ F id' → b' ≠ b := fun b' hb' e => hnF id' hlt he (e ▸ hb')
        exact ⟨cur', t', fz', f2, h1, by rw [hother b2 (hne b2 (by rw [h1]; simp))]; exact h2, h3, h4, h5, h6, h7.mono hlat fun b' hb' => hother b' (hne b' (by rw [h1]; simp [hb']))⟩
  · by_cases he : id' = id
    · subst he; rw [upd_same]
      refine List.nodup_cons.2 ⟨fun hb => ?_, hend (List.nodup_cons.1 hnd).2 (by simp) (by simp)⟩
      rcases hem b hb with h | h
      · exact (List.nodup_cons.1 hnd).1 h
      · simp at h
    · rw [upd_other _ _ he]; exact hr.objs.nodup id' (by simpa using h)
  · have sub : ∀ b2, b2 ∈ b :: e → b2 ∈ F id := by
      intro b2 hb2
      rw [hF]
      rcases List.mem_cons.1 hb2 with rfl | hb2
      · simp
      · rcases hem b2 hb2 with h | h
        · simp [h]
        · simp at h
    have hi2 : i < O.length := by simpa using hi
    have hj2 : j < O.length := by simpa using hj
    by_cases h1 : i = id
    · subst h1
      rw [upd_same] at hb'
      rw [upd_other _ _ (by omega)]
      exact hr.objs.apart i j hi2 hj2 hij b' (sub b' hb')
    · rw [upd_other _ _ h1] at hb'
      by_cases h2 : j = id
      · subst h2
        rw [upd_same]
        exact fun h => hr.objs.apart i j hi2 hj2 hij b' hb' (sub b' h)
      · rw [upd_other _ _ h2]; exact hr.objs.apart i j hi2 hj2 hij b' hb'
  · have h3 : id' < O.length := by simpa using h
    rw [World.size_setCell]
    by_cases he : id' = id
    · subst he
      rw [upd_same] at hb'
      refine hr.foot id' h3 b' ?_
      rw [hF]
      rcases List.mem_cons.1 hb' with rfl | hb2
      · simp
      · rcases hem b' hb2 with h | h
        · simp [h]
        · simp at h
    · rw [upd_other _ _ he] at hb'
      exact hr.foot id' h3 b' hb'
  · rw [World.size_setCell]; exact hr.stable b' hb'
  · refine ⟨hr.keeps.os, hr.keeps.tape, hr.keeps.output, by rw [World.size_setCell]; exact hr.keeps.size, fun b' hb' hM => ?_⟩
    rw [hother b' ?_]
    · exact hr.keeps.block b' hb' hM
    · rintro rfl
      rcases (hr.foot id hid b' hbF).1 with h | h
      · exact hM h
      · omega
  · have := hr.mle
    simpa using this

/-- Cells are put into a list of cells from a place on. -/
def setL (cs : List AV) (off : Nat) : List AV → List AV
  | [] => cs
  | V :: Vs => setL (cs.set off V) (off + 1) Vs

theorem length_setL (cs : List AV) (off : Nat) (Vs : List AV) : (setL cs off Vs).length = cs.length := by
  induction Vs generalizing cs off with
  | nil => rfl
  | cons V Vs ih => rw [setL, ih]; simp

theorem one_set {O : List AObj} {id : Nat} {ob : AObj} {cs : List AV} (ho : O[id]? = some ob) (V : AV) : oneB (O.set id { ob with cells := cs }) V = oneB O V := by
  have hid : id < O.length := (List.getElem?_eq_some_iff.1 ho).1
  have key : ∀ id' : Nat, ((O.set id { ob with cells := cs })[id']?).map AObj.ep = (O[id']?).map AObj.ep := by
    intro id'
    by_cases he : id' = id
    · subst he; rw [List.getElem?_set_self hid, ho]; rfl
    · rw [List.getElem?_set_ne (by omega)]
  cases V <;> simp only [oneB]
  case own id' ep off len =>
    have := key id'
    cases h1 : (O.set id { ob with cells := cs })[id']? <;> cases h2 : O[id']? <;> rw [h1, h2] at this <;> simp_all
  case ptr id' ep off =>
    have := key id'
    cases h1 : (O.set id { ob with cells := cs })[id']? <;> cases h2 : O[id']? <;> rw [h1, h2] at this <;> simp_all

theorem store_cells (P : Program) {n m G T a} {id b k : Nat} : ∀ (Vs : List AV) (vs : List Value) (i off : Nat) (O : List AObj) (ob : AObj) (S : Nat → Prop) (ι : Nat → Spot) (F : Nat → List Nat) (w : World),
    RelAt n m G S ι F ⟨T, O⟩ a w → O[id]? = some ob → ι id = some (b, k) → LRel S w ι O Vs vs [] → Vs.all (oneB O) = true → off + i + Vs.length ≤ ob.cells.length →
    ∃ w' F', (storeCells ⟨b, off, none⟩ vs i).run P w = .ok () w' ∧ RelAt n m G S ι F' ⟨T, O.set id { ob with cells := setL ob.cells (off + i) Vs }⟩ a w' := by
  intro Vs
  induction Vs with
  | nil =>
    intro vs i off O ob S ι F w hr ho hs hl hone hle
    cases hl
    refine ⟨w, F, by simp [storeCells], ?_⟩
    have : O.set id { ob with cells := setL ob.cells (off + i) [] } = O := by
      apply List.ext_getElem?
      intro j
      by_cases he : j = id
      · subst he; rw [List.getElem?_set_self (List.getElem?_eq_some_iff.1 ho).1, ho]; rfl
      · rw [List.getElem?_set_ne (by omega)]
    rw [this]; exact hr
  | cons V Vs ih =>
    intro vs i off O ob S ι F w hr ho hs hl hone hle
    obtain ⟨v, vs', f1, f2, rfl, hv, hl', hf⟩ := hl.uncons
    obtain ⟨rfl, rfl⟩ : f1 = [] ∧ f2 = [] := by simpa using hf
    simp only [List.all_cons, Bool.and_eq_true] at hone
    simp only [List.length_cons] at hle
    obtain ⟨hc, hfr, F1, hr1⟩ := hr.set ho hs (off := off + i) (by omega) hv
    have hid : id < O.length := (List.getElem?_eq_some_iff.1 ho).1
    have h1 := (one_of hv hone.1).1
    have hlat : Later S w ι O S (w.setCell ⟨b, off + i, none⟩ v) ι (O.set id { ob with cells := ob.cells.set (off + i) V }) := by
      refine ⟨fun _ h => h, fun b' hb' => heap_setCell_other w _ b' v ?_, fun id' ob' h => ?_⟩
      · rintro rfl
        have hob := hr.objs.obj id ob ho
        unfold ObjAt at hob
        rw [hs] at hob
        obtain ⟨_, _, _, f', hF, _⟩ := hob
        exact (hr.foot id hid b' (by rw [hF]; simp)).2.1 hb'
      · by_cases he : id' = id
        · subst he
          rw [ho] at h; cases h
          exact ⟨{ ob with cells := ob.cells.set (off + i) V }, by rw [List.getElem?_set_self hid], .inr ⟨rfl, rfl, rfl⟩⟩
        · exact ⟨ob', by rw [List.getElem?_set_ne (by omega)]; exact h, .inr ⟨rfl, rfl, rfl⟩⟩
    obtain ⟨w', F', hrun, hr'⟩ := ih vs' (i + 1) off (O.set id { ob with cells := ob.cells.set (off + i) V }) { ob with cells := ob.cells.set (off + i) V } S ι F1 _ hr1
      (by rw [List.getElem?_set_self hid]) hs (hl'.mono hlat (by simp)) (by
        rw [List.all_eq_true] at *
        intro x hx; rw [one_set ho]; exact hone.2 x hx) (by simp; omega)
    refine ⟨w', F', ?_, ?_⟩
    · obtain ⟨u, hu⟩ := Option.ne_none_iff_exists'.1 hc
      simp only [storeCells, addr_add, Sem.run_bind, run_store P w _ v .plain h1, hu, hfr, Result.andThen_ok]
      exact hrun
    · rw [List.set_set] at hr'
      rw [setL]
      rw [show off + (i + 1) = off + i + 1 from by omega] at hr'
      exact hr'

section
variable {P : Program} {n m : Nat} {G : Ctx} {T : List (Nat × AV)} {O : List AObj} {Q : Exit → St → Prop} {ops : Array Oper} {l : List Oper} {d : Nat} {tt : TypeId} {pos : String} {after : Array Edge} {tab : List (Nat × Ty)}

def Ty.cellsN : Ty → Option Nat
  | .struct _ k _ => some k
  | .other => none
  | _ => some 1

theorem Ty.cells_info {t k : Nat} {ty : Ty} (h : TyOk P t ty) (hz : ty.cellsN = some k) : ∃ i, P.info? t = some i ∧ i.size = k := by
  have key : ∀ v, ScOk P t v → ∃ i, P.info? t = some i ∧ i.size = 1 := by
    intro v hv
    unfold ScOk at hv
    cases hh : P.info? t with
    | none => simp [hh] at hv
    | some i => rw [hh] at hv; simp at hv; exact ⟨i, rfl, hv.2⟩
  cases ty <;> simp [Ty.cellsN] at hz <;> subst hz
  case int k => exact key _ h.2
  case bool => exact key _ h.2
  case string => exact key _ h.2
  case slice => exact key _ h.2.1
  case ptr => exact key _ h.2
  case struct =>
    obtain ⟨fs, hu, ⟨z, hz, _⟩, _⟩ := h
    cases hh : P.info? t with
    | none => simp [hh] at hz
    | some i => rw [hh] at hz; simp at hz; exact ⟨i, rfl, hz.2⟩

/-- A store: into a variable or an element of the call's own. -/
theorem WpL.store (hP : TabOk P tab) {t : Nat} {ty : Ty} {x y : Operand} {id ep off : Nat} {ob : AObj} {V : AV} {Vs : List AV} (ht : tlook tab t = some ty) (hx : av T x = .ptr id ep off)
    (ho : O[id]? = some ob) (he : ob.ep = ep) (hy : (av T y).force = some V) (hV : cellsV O V = some Vs) (hk : ty.cellsN = some Vs.length) (hone : Vs.all (oneB O) = true) (hle : off + Vs.length ≤ ob.cells.length)
    (h : WpL P n m G false ops l ⟨T, O.set id { ob with cells := setL ob.cells off Vs }⟩ Q) :
    WpL P n m G false ops ({ dst := none, op := .store t x y, type := tt, pos := pos, after := after, guard := none } :: l) ⟨T, O⟩ Q :=
  WpL.op rfl (fun a w hr => by
    obtain ⟨S, ι, F, hr⟩ := hr
    have hv := hr.eval x
    rw [show av (St.mk T O).T x = _ from hx] at hv
    have hw := hr.eval y
    rw [show av (St.mk T O).T y = V from AV.force_eq hy] at hw
    have hl := cellsV_rel hw hV
    cases hv with
    | ptr q1 q2 q3 r =>
      rw [show (St.mk T O).O[id]? = some ob from ho] at q1
      cases q1
      have hc := q3 he.symm
      cases hs : ι id with
      | none => rw [hs] at hc; exact hc.elim
      | some p =>
        obtain ⟨b, kk⟩ := p
        rw [hs] at hc
        have hc : a.eval x = .pointer (some ⟨b, off, none⟩) := hc
        obtain ⟨w', F', hrun, hr'⟩ := store_cells P (id := id) (b := b) (k := kk) Vs (a.eval y).cells.toList 0 off O ob S ι F w hr ho hs hl hone (by omega)
        obtain ⟨i, hi, hik⟩ := Ty.cells_info (hP.ty ht) hk
        have hsz : (a.eval y).cells.size = Vs.length := by have := hl.len; simpa using this.symm
        have hex : (execOp a.eval { dst := none, op := .store t x y, type := tt, pos := pos, after := after, guard := none }).run P w = .ok .skip w' := by
          simp [execOp, Instr.storeAt, hc, Instr.sureAddr, storeVar, run_sizeOf hi hik, hsz, hrun, Sem.run_bind]
        unfold Oper.wp
        rw [hex]
        exact ⟨S, ι, F', hr'⟩) h
end
end Go.Abs
