/- Proved in this text: lemmas and contracts of functions that the claim uses (parts: AbsS, AbsT, AbsU, AbsV, AbsW, AbsX). No condition. -/
import Derived.Test.YtpokokcgoebbhaaPwM4
import Derived.Laws.Tables
import Derived.Lib.AppendZeros

/- Slices of structs: their cells in rows, one row an element; rules that read, write and append rows, also rows that own a slice. No condition. -/
namespace Go.Abs
open Go
set_option linter.unusedVariables false
set_option linter.unusedSimpArgs false

def rows {α : Type} (f : α → List AV) (l : List α) : List AV := l.flatMap f
section
variable {α : Type} {f : α → List AV} {k : Nat}
theorem rows_cons (a : α) (l : List α) : rows f (a :: l) = f a ++ rows f l := by simp [rows]
theorem rows_append (a b : List α) : rows f (a ++ b) = rows f a ++ rows f b := by simp [rows]
theorem rows_one (a : α) : rows f [a] = f a := by simp [rows]
theorem rows_len (hk : ∀ a, (f a).length = k) (l : List α) : (rows f l).length = l.length * k := by
  induction l with
  | nil => simp [rows]
  | cons a l ih => rw [rows_cons, List.length_append, hk, ih, List.length_cons, Nat.add_mul]; omega
theorem rows_put (hk : ∀ a, (f a).length = k) {l : List α} {i : Nat} (h : i < l.length) (b : α) : rows f (l.set i b) = rows f (l.take i) ++ (f b ++ rows f (l.drop (i + 1))) := by
  rw [List.set_eq_take_append_cons_drop, if_pos h, rows_append, rows_cons]
variable [Inhabited α]
theorem rows_split {l : List α} {i : Nat} (h : i < l.length) : rows f l = rows f (l.take i) ++ (f (l.getD i default) ++ rows f (l.drop (i + 1))) := by
  have e : l = l.take i ++ (l[i] :: l.drop (i + 1)) := by rw [← List.drop_eq_getElem_cons h, List.take_append_drop]
  have e2 : l.getD i default = l[i] := by simp [h]
  rw [e2]
  conv => lhs; rw [e]
  rw [rows_append, rows_cons]
theorem rows_get (hk : ∀ a, (f a).length = k) {l : List α} {i o : Nat} {V : AV} (h : i < l.length) (hv : (f (l.getD i default))[o]? = some V) : (rows f l)[i * k + o]? = some V := by
  have ho : o < k := by rw [← hk (l.getD i default)]; exact (List.getElem?_eq_some_iff.1 hv).1
  have h1 : (rows f (l.take i)).length = i * k := by rw [rows_len hk, List.length_take, Nat.min_eq_left (by omega)]
  rw [rows_split h, List.getElem?_append_right (by omega), h1, Nat.add_sub_cancel_left, List.getElem?_append_left (by rw [hk]; exact ho)]
  exact hv
theorem rows_row (hk : ∀ a, (f a).length = k) {l : List α} {i : Nat} (h : i < l.length) : ((rows f l).drop (i * k)).take k = f (l.getD i default) := by
  have h1 : (rows f (l.take i)).length = i * k := by rw [rows_len hk, List.length_take, Nat.min_eq_left (by omega)]
  rw [rows_split h, List.drop_left' h1, List.take_left' (hk _)]
theorem rows_set (hk : ∀ a, (f a).length = k) {l : List α} {i o : Nat} {V : AV} (h : i < l.length) (ho : o < k) {b : α} (hb : (f (l.getD i default)).set o V = f b) : (rows f l).set (i * k + o) V = rows f (l.set i b) := by
  have h1 : (rows f (l.take i)).length = i * k := by rw [rows_len hk, List.length_take, Nat.min_eq_left (by omega)]
  rw [rows_put hk h, rows_split h, List.set_append_right _ _ (by omega), h1, Nat.add_sub_cancel_left, List.set_append_left _ _ (by rw [hk]; exact ho), hb]
theorem setL_mid (A D : List AV) : ∀ (Vs B : List AV), B.length = Vs.length → setL (A ++ (B ++ D)) A.length Vs = A ++ (Vs ++ D) := by
  intro Vs
  induction Vs generalizing A with
  | nil => intro B hB; have : B = [] := List.eq_nil_of_length_eq_zero (by simpa using hB); subst this; rfl
  | cons V Vs ih =>
    intro B hB
    cases B with
    | nil => simp at hB
    | cons b B =>
      rw [setL, List.set_append_right _ _ (Nat.le_refl _), Nat.sub_self]
      simp only [List.cons_append, List.set_cons_zero]
      have := ih (A ++ [V]) B (by simpa using hB)
      simp only [List.append_assoc, List.cons_append, List.nil_append, List.length_append, List.length_cons, List.length_nil] at this
      exact this
end

theorem still_rows {α : Type} {f : α → List AV} (h : ∀ a, (f a).all AV.still = true) (l : List α) : (rows f l).all AV.still = true := by
  unfold rows; rw [List.all_flatMap]; rw [List.all_eq_true]; intro a _; exact h a
theorem nofre_rows {α : Type} {f : α → List AV} (h : ∀ a, (f a).all AV.nofre = true) (l : List α) : (rows f l).all AV.nofre = true := by
  unfold rows; rw [List.all_flatMap]; rw [List.all_eq_true]; intro a _; exact h a
theorem Loc.append {a b : List AV} (h1 : Loc a) (h2 : Loc b) : Loc (a ++ b) := by
  induction h1 with
  | nil => exact h2
  | any _ ih => exact .any ih
  | sc _ ih => exact .sc ih
  | nilS _ ih => exact .nilS ih
  | imm0 _ ih => exact .imm0 ih
  | own _ ih => exact .own ih
  | fre h _ _ ih => exact .fre h ih
  | agg h _ _ ih => exact .agg h ih
  | tup h _ _ ih => exact .tup h ih
theorem Loc.rows {α : Type} {f : α → List AV} (h : ∀ a, Loc (f a)) (l : List α) : Loc (rows f l) := by
  induction l with
  | nil => exact .nil
  | cons a l ih => rw [rows_cons]; exact Loc.append (h a) ih
theorem Snap.append {O : List AObj} {a b c d : List AV} (h1 : Snap O a c) (h2 : Snap O b d) : Snap O (a ++ b) (c ++ d) := by
  induction h1 with
  | nil => exact h2
  | any _ ih => exact .any ih
  | keep p q _ ih => exact .keep p q ih
  | nilI _ ih => exact .nilI ih
  | own p q r s t u _ _ ih => exact .own p q r s t u ih
  | ownO p q r s t u v _ _ ih => exact .ownO p q r s t u v ih
  | fre h _ _ ih => exact .fre h ih
  | ptr p q h _ _ ih => exact .ptr p q h ih
  | agg h _ _ ih => exact .agg h ih
  | fn h _ _ ih => exact .fn h ih
theorem Snap.rows {α : Type} {O : List AObj} {f g : α → List AV} (h : ∀ a, Snap O (f a) (g a)) (l : List α) : Snap O (rows f l) (rows g l) := by
  induction l with
  | nil => exact .nil
  | cons a l ih => rw [rows_cons, rows_cons]; exact Snap.append (h a) ih
theorem Snap.ownR1 {α : Type} {f g : α → List AV} {O : List AObj} {id ep len len' : Nat} {a : List α} {ty : Option TypeId} {vs us : List AV} (h1 : O[id]? = some ⟨Abs.rows f a, ep, 2, ty⟩) (hf : ∀ x, (f x).length = 2) (hg : ∀ x, Snap O (f x) (g x)) (h4 : len = (a.drop 1).length) (h5 : len = len') (r2 : Snap O vs us) : Snap O (.own id ep 2 len :: vs) (.imm 2 len' (Abs.rows g (a.drop 1)) :: us) := by
  refine .ownO h1 rfl rfl (ds := Abs.rows f (a.drop 1)) ?_ ?_ h5 (Snap.rows hg _) r2
  · cases a with
    | nil => rfl
    | cons x a =>
      rw [rows_cons]
      have : (f x).length = 2 := hf x
      rw [List.drop_left' this]; rfl
  · subst h4
    have : ∀ b : List α, b.length * 2 = (Abs.rows f b).length := fun b => by
      induction b with
      | nil => rfl
      | cons x b ih => rw [rows_cons, List.length_append, hf x, List.length_cons]; omega
    exact this _

section
variable {P : Program} {n m : Nat} {G : Ctx} {T : List (Nat × AV)} {O : List AObj} {Q : Exit → St → Prop} {ops : Array Oper} {l : List Oper} {d : Nat} {tt : TypeId} {pos : String} {after : Array Edge} {tab : List (Nat × Ty)} {md : Bool}
variable {α : Type} [Inhabited α] {f : α → List AV} {k i : Nat} {xs : List α}

/-! Addresses of elements, their places told by a natural number. -/
theorem WpL.idxIN (hP : TabOk P tab) {t e b : Nat} {zs cs : List AV} {x y : Operand} {len i k : Nat} {kk : IntKind} (ht : tlook tab t = some (.slice e k b zs)) (hx : av T x = .imm k len cs) (hy : av T y = .sc (.int kk (i : Int)))
    (hj : i < len) (hn : d < n) (h : WpL P n m G md ops l ⟨(d, .iptr cs (i * k)) :: T, O⟩ Q) :
    WpL P n m G md ops ({ dst := some d, op := .indexAddr t x y, type := tt, pos := pos, after := after, guard := none } :: l) ⟨T, O⟩ Q :=
  WpL.idxI hP ht hx hy (by omega) hn (by simpa using h)
theorem WpL.idxON (hP : TabOk P tab) {t e b : Nat} {zs : List AV} {x y : Operand} {id ep len i k : Nat} {ob : AObj} {kk : IntKind} (ht : tlook tab t = some (.slice e k b zs)) (hx : av T x = .own id ep 0 len)
    (ho : O[id]? = some ob) (he : ob.ep = ep) (hy : av T y = .sc (.int kk (i : Int))) (hj : i < len) (hn : d < n) (h : WpL P n m G md ops l ⟨(d, .ptr id ep (i * k)) :: T, O⟩ Q) :
    WpL P n m G md ops ({ dst := some d, op := .indexAddr t x y, type := tt, pos := pos, after := after, guard := none } :: l) ⟨T, O⟩ Q :=
  WpL.idxO hP ht hx ho he hy (by omega) hn (by simpa using h)

theorem WpL.idxIJ (hP : TabOk P tab) {t e b : Nat} {zs cs : List AV} {x y : Operand} {len : Nat} {j : Int} {kk : IntKind} (ht : tlook tab t = some (.slice e 1 b zs)) (hx : av T x = .imm 1 len cs) (hy : av T y = .sc (.int kk j))
    (hj : 0 ≤ j ∧ j < len) (hn : d < n) (h : WpL P n m G md ops l ⟨(d, .iptr cs j.toNat) :: T, O⟩ Q) :
    WpL P n m G md ops ({ dst := some d, op := .indexAddr t x y, type := tt, pos := pos, after := after, guard := none } :: l) ⟨T, O⟩ Q :=
  WpL.idxI hP ht hx hy hj hn (by simpa using h)
theorem WpL.idxOJ (hP : TabOk P tab) {t e b : Nat} {zs : List AV} {x y : Operand} {id ep len : Nat} {ob : AObj} {j : Int} {kk : IntKind} (ht : tlook tab t = some (.slice e 1 b zs)) (hx : av T x = .own id ep 0 len)
    (ho : O[id]? = some ob) (he : ob.ep = ep) (hy : av T y = .sc (.int kk j)) (hj : 0 ≤ j ∧ j < len) (hn : d < n) (h : WpL P n m G md ops l ⟨(d, .ptr id ep j.toNat) :: T, O⟩ Q) :
    WpL P n m G md ops ({ dst := some d, op := .indexAddr t x y, type := tt, pos := pos, after := after, guard := none } :: l) ⟨T, O⟩ Q :=
  WpL.idxO hP ht hx ho he hy hj hn (by simpa using h)

/-! An element, and a field of one. -/
theorem WpL.loadRow (hP : TabOk P tab) {t : TypeId} {x : Operand} {offs : List Nat} {zs : List AV} (ht : tlook tab t = some (.struct offs k zs)) (hm : Abs.reg O (av T x) = some (rows f xs, i * k)) (hk : ∀ a, (f a).length = k)
    (hf : ∀ a, (f a).all AV.nofre = true) (hi : i < xs.length) (hn : d < n) {ds : List AV} (hds : catF (f (xs.getD i default)) [] = some ds) (h : WpL P n m G md ops l ⟨(d, .agg ds) :: T, O⟩ Q) :
    WpL P n m G md ops ({ dst := some d, op := .load t x, type := tt, pos := pos, after := after, guard := none } :: l) ⟨T, O⟩ Q := by
  have e := catF_eq hds
  rw [List.append_nil] at e
  subst e
  exact WpL.loadAgg hP ht hm (rows_row hk hi) (hk _) (hf _) hn h
theorem WpL.loadField (hP : TabOk P tab) {t : TypeId} {x : Operand} {ty : Ty} {o : Nat} {V : AV} (ht : tlook tab t = some ty) (hp : ty.plain = true) (hm : Abs.reg O (av T x) = some (rows f xs, i * k + o)) (hk : ∀ a, (f a).length = k)
    (hv : (f (xs.getD i default))[o]? = some V) (hf : V.nofre = true) (hi : i < xs.length) (hn : d < n) (h : WpL P n m G md ops l ⟨(d, V) :: T, O⟩ Q) :
    WpL P n m G md ops ({ dst := some d, op := .load t x, type := tt, pos := pos, after := after, guard := none } :: l) ⟨T, O⟩ Q :=
  WpL.load1 hP ht hp hm (rows_get hk hi hv) hf hn h

/-- A field that owns a slice: the slice becomes an object of its own, which the field names. -/
theorem WpL.loadOwn (hP : TabOk P tab) {t : TypeId} {x : Operand} {ty : Ty} {id ep sz o s len : Nat} {te : Option TypeId} {cs : List AV} (ht : tlook tab t = some ty) (hp : ty.plain = true) (hx : av T x = .ptr id ep (i * k + o)) (ho : O[id]? = some ⟨rows f xs, ep, sz, te⟩) (hk : ∀ a, (f a).length = k)
    (hv : (f (xs.getD i default))[o]? = some (.fre s len cs)) (hi : i < xs.length) (hn : d < n) {j : Nat} (hcnt : cnt O.length 0 = some j)
    (h : WpL P n m G false ops l ⟨(d, .own j 0 0 len) :: T, O.set id ⟨(rows f xs).set (i * k + o) (.own j 0 0 len), ep, sz, te⟩ ++ [⟨cs, 0, s, none⟩]⟩ Q) :
    WpL P n m G false ops ({ dst := some d, op := .load t x, type := tt, pos := pos, after := after, guard := none } :: l) ⟨T, O⟩ Q := by
  have hj := cnt_eq hcnt
  rw [Nat.add_zero] at hj
  subst hj
  have hg := rows_get hk hi hv
  have hlt := (List.getElem?_eq_some_iff.1 hg).1
  have hidl := (List.getElem?_eq_some_iff.1 ho).1
  refine WpL.weak (σ' := ⟨T, O.set id ⟨(rows f xs).set (i * k + o) (.own O.length 0 0 len), ep, sz, te⟩ ++ [⟨cs, 0, s, none⟩]⟩) ?_ ?_
  · rintro n' G' a w ⟨S, ι, F, hr⟩
    obtain ⟨ι', F', hr'⟩ := hr.unnest ho hg
    exact ⟨S, ι', F', hr'⟩
  · refine WpL.load1 hP ht hp (off := i * k + o) (cells := (rows f xs).set (i * k + o) (.own O.length 0 0 len)) ?_ (V := .own O.length 0 0 len) ?_ rfl hn h
    · rw [hx]
      have : (O.set id ⟨(rows f xs).set (i * k + o) (.own O.length 0 0 len), ep, sz, te⟩ ++ [⟨cs, 0, s, none⟩])[id]? = some ⟨(rows f xs).set (i * k + o) (.own O.length 0 0 len), ep, sz, te⟩ := by
        rw [List.getElem?_append_left (by simpa using hidl)]; simp [hidl]
      simp only [Abs.reg, this, Nat.beq_refl]
    · simp [hlt]

/-- A cell's own slice, named by an object's number, becomes the cell's. -/
theorem Weak.nest {id j off epj len : Nat} {ob oj : AObj} (ho : O[id]? = some ob) (hj : O[j]? = some oj) (hne : Nat.beq id j = false) (hm : m ≤ j) (hc : ob.cells[off]? = some (.own j epj 0 len)) (hep : oj.ep = epj) (hst : oj.cells.all AV.still = true) (hlen : len * oj.size = oj.cells.length) :
    Weak m ⟨T, O⟩ ⟨T, (O.set id ⟨ob.cells.set off (.fre oj.size len oj.cells), ob.ep, ob.size, ob.ty⟩).set j ⟨[], oj.ep + 1, 0, none⟩⟩ := by
  rintro n' G' a w ⟨S, ι, F, hr⟩
  obtain ⟨F', hr'⟩ := hr.nest ho hj (by rintro rfl; rw [Nat.beq_refl] at hne; cases hne) hm hc hep hst hlen
  exact ⟨S, _, F', hr'⟩
theorem Weak.trans {m : Nat} {σ σ' σ'' : St} (h1 : Weak m σ σ') (h2 : Weak m σ' σ'') : Weak m σ σ'' := fun n G a w h => h2 n G a w (h1 n G a w h)

theorem Weak.nestRow {id j i k o epj len ep sz : Nat} {te : Option TypeId} {α : Type} [Inhabited α] {f : α → List AV} {xs : List α} {b : α} {oj : AObj} {σ' : St} (ho : O[id]? = some ⟨(rows f xs).set (i * k + o) (.own j epj 0 len), ep, sz, te⟩) (hj : O[j]? = some oj) (hne : Nat.beq id j = false) (hm : m ≤ j) (hep : oj.ep = epj)
    (hst : oj.cells.all AV.still = true) (hlen : len * oj.size = oj.cells.length) (hk : ∀ a, (f a).length = k) (hok : Nat.blt o k = true) (hi : i < xs.length) {len' : Nat} (hb : (f (xs.getD i default)).set o (.fre oj.size len' oj.cells) = f b) (hll : len = len')
    (h : Weak m ⟨T, (O.set id ⟨rows f (xs.set i b), ep, sz, te⟩).set j ⟨[], oj.ep + 1, 0, none⟩⟩ σ') : Weak m ⟨T, O⟩ σ' := by
  subst hll
  have hok : o < k := by simpa [Nat.blt_eq] using hok
  refine Weak.trans (Weak.nest (off := i * k + o) ho hj hne hm ?_ hep hst hlen) ?_
  · have : i * k + o < (rows f xs).length := by
      rw [rows_len hk]
      have : (i + 1) * k ≤ xs.length * k := Nat.mul_le_mul_right k hi
      rw [Nat.add_mul] at this; omega
    simp [this]
  · simp only [List.set_set]
    rw [rows_set hk hi hok hb]
    exact h
/-! Stores of a field and of a whole element. -/
/-- An element that holds an own slice is stored; the slice becomes the element's. -/
theorem WpL.storeRowN (hP : TabOk P tab) {t : Nat} {x y : Operand} {id ep sz o j epj len : Nat} {te : Option TypeId} {offs : List Nat} {zs ds : List AV} {oj : AObj} {b : α} (ht : tlook tab t = some (.struct offs k zs)) (hx : av T x = .ptr id ep (i * k)) (ho : O[id]? = some ⟨rows f xs, ep, sz, te⟩)
    (hy : (av T y).force = some (.agg ds)) (hone : ds.all (oneB O) = true) (hd : ds[o]? = some (.own j epj 0 len)) (hj : O[j]? = some oj) (hne : Nat.beq id j = false) (hm : m ≤ j) (hep : oj.ep = epj) (hst : oj.cells.all AV.still = true) (hlen : len * oj.size = oj.cells.length)
    (hk : ∀ a, (f a).length = k) {len' : Nat} (hb : ds.set o (.fre oj.size len' oj.cells) = f b) (hll : len = len') (hi : i < xs.length)
    (h : WpL P n m G false ops l ⟨T, (O.set id ⟨rows f (xs.set i b), ep, sz, te⟩).set j ⟨[], oj.ep + 1, 0, none⟩⟩ Q) :
    WpL P n m G false ops ({ dst := none, op := .store t x y, type := tt, pos := pos, after := after, guard := none } :: l) ⟨T, O⟩ Q := by
  subst hll
  have hdl : ds.length = k := by have := congrArg List.length hb; rw [List.length_set, hk] at this; exact this
  have hok : o < k := by rw [← hdl]; exact (List.getElem?_eq_some_iff.1 hd).1
  have hidl := (List.getElem?_eq_some_iff.1 ho).1
  have hne' : id ≠ j := by rintro rfl; rw [Nat.beq_refl] at hne; cases hne
  have hrl : (rows f xs).length = xs.length * k := rows_len hk xs
  have hle : i * k + k ≤ (rows f xs).length := by
    rw [hrl]
    have : (i + 1) * k ≤ xs.length * k := Nat.mul_le_mul_right k hi
    rw [Nat.add_mul] at this; omega
  have h1 : (rows f (xs.take i)).length = i * k := by rw [rows_len hk, List.length_take, Nat.min_eq_left (by omega)]
  have hset : setL (rows f xs) (i * k) ds = rows f (xs.take i) ++ (ds ++ rows f (xs.drop (i + 1))) := by
    rw [rows_split hi, ← h1]; exact setL_mid _ _ _ _ (by rw [hk, hdl])
  refine WpL.store hP ht hx ho rfl hy (Vs := ds) rfl (by rw [hdl]; rfl) hone (by simp only; omega) ?_
  rw [hset]
  simp only
  refine WpL.weak (Weak.nest (id := id) (j := j) (off := i * k + o) (epj := epj) (len := len) (ob := ⟨rows f (xs.take i) ++ (ds ++ rows f (xs.drop (i + 1))), ep, sz, te⟩) (oj := oj) (by simp [hidl]) (by rw [List.getElem?_set, if_neg hne']; exact hj) hne hm ?_ hep hst hlen) ?_
  · simp only; rw [List.getElem?_append_right (by omega), h1, Nat.add_sub_cancel_left, List.getElem?_append_left (by omega)]; exact hd
  · simp only
    rw [List.set_append_right _ _ (by omega), h1, Nat.add_sub_cancel_left, List.set_append_left _ _ (by omega), hb, ← rows_put hk hi, List.set_set]
    exact h

end
/-! Appending an element. -/
section
variable {P : Program} {n m : Nat} {G : Ctx} {T : List (Nat × AV)} {O : List AObj} {Q : Exit → St → Prop} {ops : Array Oper} {l : List Oper} {d : Nat} {tt : TypeId} {pos : String} {after : Array Edge} {tab : List (Nat × Ty)} {md : Bool}
variable {α : Type} {f : α → List AV} {k i : Nat} {xs : List α}
theorem WpL.appRow (hP : TabOk P tab) {t e b : Nat} {zs ds : List AV} {x y : Operand} {id ep len : Nat} {Vy : AV} {v : α} (ht : tlook tab t = some (.slice e k b zs)) (hx : av T x = .own id ep 0 len) (ho : O[id]? = some ⟨rows f xs, ep, k, some e⟩) (hm : m ≤ id)
    (hy : (av T y).force = some Vy) (hs : srcB O Vy = some (ds, 1)) (hk : ∀ a, (f a).length = k) (hv : ds = f v) (hone : ds.all (oneB O) = true) (hol : xs.length = len) (hb : (len + 1) * b ≤ 140737488355328 ∧ len + 1 ≤ 9223372036854775807) (hn : d < n)
    (h : WpL P n m G false ops l ⟨(d, .own id (ep + 1) 0 (len + 1)) :: T, O.set id ⟨rows f (xs ++ [v]), ep + 1, k, some e⟩⟩ Q) :
    WpL P n m G false ops ({ dst := some d, op := .call { callee := .builtin .append, args := #[x, y], argTypes := #[t, t] }, type := tt, pos := pos, after := after, guard := none } :: l) ⟨T, O⟩ Q := by
  subst hv hol
  refine WpL.appOwn hP ht hx ho rfl rfl rfl (by simp only; rw [rows_len hk]) hm hy hs (by rw [hk, Nat.one_mul]) hone hb hn ?_
  rw [rows_append, rows_one] at h; exact h
theorem WpL.appRowN (hP : TabOk P tab) {t e b : Nat} {zs ds : List AV} {x y : Operand} {id ep len o j epj lenj : Nat} {Vy : AV} {oj : AObj} {v : α} (ht : tlook tab t = some (.slice e k b zs)) (hx : av T x = .own id ep 0 len) (ho : O[id]? = some ⟨rows f xs, ep, k, some e⟩) (hm : m ≤ id)
    (hy : (av T y).force = some Vy) (hs : srcB O Vy = some (ds, 1)) (hd : ds[o]? = some (.own j epj 0 lenj)) (hj : O[j]? = some oj) (hne : Nat.beq id j = false) (hmj : m ≤ j) (hep : oj.ep = epj) (hst : oj.cells.all AV.still = true) (hlen : lenj * oj.size = oj.cells.length)
    (hk : ∀ a, (f a).length = k) {len' : Nat} (hv : ds.set o (.fre oj.size len' oj.cells) = f v) (hll : lenj = len') (hone : ds.all (oneB O) = true) (hol : xs.length = len) (hb : (len + 1) * b ≤ 140737488355328 ∧ len + 1 ≤ 9223372036854775807) (hn : d < n)
    (h : WpL P n m G false ops l ⟨(d, .own id (ep + 1) 0 (len + 1)) :: T, (O.set id ⟨rows f (xs ++ [v]), ep + 1, k, some e⟩).set j ⟨[], oj.ep + 1, 0, none⟩⟩ Q) :
    WpL P n m G false ops ({ dst := some d, op := .call { callee := .builtin .append, args := #[x, y], argTypes := #[t, t] }, type := tt, pos := pos, after := after, guard := none } :: l) ⟨T, O⟩ Q := by
  subst hol hll
  have hdl : ds.length = k := by have := congrArg List.length hv; rw [List.length_set, hk] at this; exact this
  have hok : o < k := by rw [← hdl]; exact (List.getElem?_eq_some_iff.1 hd).1
  have hidl := (List.getElem?_eq_some_iff.1 ho).1
  have hne' : id ≠ j := by rintro rfl; rw [Nat.beq_refl] at hne; cases hne
  have hrl : (rows f xs).length = xs.length * k := rows_len hk xs
  refine WpL.appOwn hP ht hx ho rfl rfl rfl (by simp only; rw [hrl]) hm hy hs (by rw [hdl, Nat.one_mul]) hone hb hn ?_
  simp only
  refine WpL.weak (Weak.nest (id := id) (j := j) (off := xs.length * k + o) (epj := epj) (len := lenj) (ob := ⟨rows f xs ++ ds, ep + 1, k, some e⟩) (oj := oj) (by simp [hidl]) (by rw [List.getElem?_set, if_neg hne']; exact hj) hne hmj ?_ hep hst hlen) ?_
  · simp only; rw [List.getElem?_append_right (by omega), hrl, Nat.add_sub_cancel_left]; exact hd
  · simp only
    rw [List.set_append_right _ _ (by omega), hrl, Nat.add_sub_cancel_left, hv, ← rows_one (f := f) v, ← rows_append, List.set_set]
    exact h
end

/-! Handing out. -/
section
variable {O : List AObj} {ids : List (Option Nat)} {N : List AObj} {α : Type} {f : α → List AV}
theorem NEx.rows {id ep sz : Nat} {ty : Option TypeId} {xs ys : List α} (hf : ∀ a, (f a).all AV.still = true) (ho : O[id]? = some ⟨Abs.rows f xs, ep, sz, ty⟩) (h : xs = ys) (r : NEx O ids N) : NEx O (some id :: ids) (⟨Abs.rows f ys, 0, sz, ty⟩ :: N) :=
  .obj ho (by rw [h]) (still_rows hf _) rfl rfl (.inr rfl) r
variable {O' os os' : List AObj} {ep ep' sz sz' : Nat} {ty ty' : Option TypeId}
theorem ReO.rows {xs ys : List α} (hf : ∀ a, (f a).all AV.still = true) (h : xs = ys) (ht : ty' = none ∨ ty' = ty) (r : ReO O O' os os') : ReO O O' (⟨Abs.rows f xs, ep, sz, ty⟩ :: os) (⟨Abs.rows f ys, ep', sz', ty'⟩ :: os') := .cons (Re.same (by rw [h]) (still_rows hf _)) ht r
end

/-! A nil slice in a new cell is an owned one of no elements. -/
inductive Nf : List AV → List AV → Prop
  | nil : Nf [] []
  | keep {V vs us} : Nf vs us → Nf (V :: vs) (V :: us)
  | fre {s vs us} : Nf vs us → Nf (.nilS :: vs) (.fre s 0 [] :: us)
theorem Nf.rel {vs us : List AV} (h : Nf vs us) : ∀ {S w ι O xs f}, LRel S w ι O vs xs f → LRel S w ι O us xs f := by
  induction h with
  | nil => intro S w ι O xs f hl; exact hl
  | keep _ ih =>
    intro S w ι O xs f hl
    obtain ⟨v, vs', f1, f2, rfl, hv, hr, rfl⟩ := hl.uncons
    exact LRel.cons hv (ih hr)
  | fre _ ih =>
    intro S w ι O xs f hl
    cases hl with
    | nilS r => exact .fre0 (ih r)
theorem Nf.len {vs us : List AV} (h : Nf vs us) : vs.length = us.length := by
  induction h with
  | nil => rfl
  | keep _ ih => simp [ih]
  | fre _ ih => simp [ih]
theorem Nf.append {a b c d : List AV} (h1 : Nf a c) (h2 : Nf b d) : Nf (a ++ b) (c ++ d) := by
  induction h1 with
  | nil => exact h2
  | keep _ ih => exact .keep ih
  | fre _ ih => exact .fre ih
theorem RelAt.cells {n m G S ι F T O a w} (hr : RelAt n m G S ι F ⟨T, O⟩ a w) {id : Nat} {ob : AObj} {cs : List AV} (ho : O[id]? = some ob) (h : ∀ O' xs f, LRel S w ι O' ob.cells xs f → LRel S w ι O' cs xs f) (hl : cs.length = ob.cells.length) :
    RelAt n m G S ι F ⟨T, O.set id ⟨cs, ob.ep, ob.size, ob.ty⟩⟩ a w := by
  have hidl : id < O.length := (List.getElem?_eq_some_iff.1 ho).1
  have hlat : Later S w ι O S w ι (O.set id ⟨cs, ob.ep, ob.size, ob.ty⟩) := by
    refine ⟨fun _ h => h, fun _ _ => rfl, fun i obi hi => ?_⟩
    by_cases e : id = i
    · subst e; rw [ho] at hi; cases hi
      exact ⟨⟨cs, ob.ep, ob.size, ob.ty⟩, by simp [hidl], .inr ⟨rfl, rfl, rfl⟩⟩
    · exact ⟨obi, by rw [List.getElem?_set, if_neg e]; exact hi, .inr ⟨rfl, rfl, rfl⟩⟩
  refine ⟨hr.defers, hr.size, fun t' => (hr.tmps t').mono hlat (fun _ _ => rfl), ⟨fun i obi hi => ?_, fun i hi => hr.objs.nodup i (by simpa using hi), fun i j hi hj => hr.objs.apart i j (by simpa using hi) (by simpa using hj)⟩, fun i hi => hr.foot i (by simpa using hi), hr.base, hr.stable, hr.keeps, hr.spots, by show m ≤ (O.set id _).length; simp only [List.length_set]; exact hr.mle⟩
  have hi : (O.set id ⟨cs, ob.ep, ob.size, ob.ty⟩)[i]? = some obi := hi
  by_cases e : id = i
  · subst e
    simp only [List.getElem?_set_self hidl, Option.some.injEq] at hi
    subst hi
    have hob := hr.objs.obj id ob ho
    unfold ObjAt at hob ⊢
    cases hs : ι id with
    | none =>
      rw [hs] at hob
      refine ⟨?_, hob.2⟩
      have : cs.length = 0 := by rw [hl, hob.1]; rfl
      exact List.eq_nil_of_length_eq_zero this
    | some p =>
      rw [hs] at hob
      obtain ⟨cur', t', fz', f2, q1, q2, q3, q4, q5, q6, q7⟩ := hob
      exact ⟨cur', t', fz', f2, q1, q2, q3, by simp only; rw [hl]; exact q4, q5, q6, by simp only; rw [hl]; exact h _ _ _ (q7.mono hlat (fun _ _ => rfl))⟩
  · rw [List.getElem?_set, if_neg e] at hi
    have hob := hr.objs.obj i obi hi
    unfold ObjAt at hob ⊢
    cases hs : ι i with
    | none => rw [hs] at hob; exact hob
    | some p =>
      rw [hs] at hob
      obtain ⟨cur', t', fz', f2, q1, q2, q3, q4, q5, q6, q7⟩ := hob
      exact ⟨cur', t', fz', f2, q1, q2, q3, q4, q5, q6, q7.mono hlat (fun _ _ => rfl)⟩
section
variable {P : Program} {n m : Nat} {G : Ctx} {T : List (Nat × AV)} {O : List AObj} {Q : Exit → St → Prop} {ops : Array Oper} {l : List Oper} {d : Nat} {tt : TypeId} {pos : String} {after : Array Edge} {tab : List (Nat × Ty)}
variable {α : Type} {f : α → List AV} {k : Nat}
end

/-! The rows of this program: pairs of numbers, blocks, macroblocks, frames, places. 'I': a slice that stays; 'F': an owned one. -/
def prF (a : Int × Int) : List AV := [I a.1, I a.2]
def plF (a : Int × Int × Int) : List AV := [I a.1, I a.2.1, I a.2.2]
abbrev Blok := Int × List Int
def blkI (b : Blok) : List AV := [I b.1, .imm 1 b.2.length (ints b.2)]
def blkF (b : Blok) : List AV := [I b.1, .fre 1 b.2.length (ints b.2)]
abbrev Mbk := Bool × List Blok
def mbI (b : Mbk) : List AV := [B b.1, .imm 2 b.2.length (rows blkI b.2)]
def mbF (b : Mbk) : List AV := [B b.1, .fre 2 b.2.length (rows blkF b.2)]
abbrev Fra := Int × Int × List Int
def frI (b : Fra) : List AV := [I b.1, I b.2.1, .imm 1 b.2.2.length (ints b.2.2)]
def frF (b : Fra) : List AV := [I b.1, I b.2.1, .fre 1 b.2.2.length (ints b.2.2)]
def liI (b : List Int) : List AV := [.imm 1 b.length (ints b)]
def liF (b : List Int) : List AV := [.fre 1 b.length (ints b)]
@[simp] theorem len_pr (l : List (Int × Int)) : (rows prF l).length = l.length * 2 := rows_len (f := prF) (fun _ => rfl) l
@[simp] theorem len_pl (l : List (Int × Int × Int)) : (rows plF l).length = l.length * 3 := rows_len (f := plF) (fun _ => rfl) l
@[simp] theorem len_bI (l : List Blok) : (rows blkI l).length = l.length * 2 := rows_len (f := blkI) (fun _ => rfl) l
@[simp] theorem len_bF (l : List Blok) : (rows blkF l).length = l.length * 2 := rows_len (f := blkF) (fun _ => rfl) l
@[simp] theorem len_mI (l : List Mbk) : (rows mbI l).length = l.length * 2 := rows_len (f := mbI) (fun _ => rfl) l
@[simp] theorem len_mF (l : List Mbk) : (rows mbF l).length = l.length * 2 := rows_len (f := mbF) (fun _ => rfl) l
@[simp] theorem len_fI (l : List Fra) : (rows frI l).length = l.length * 3 := rows_len (f := frI) (fun _ => rfl) l
@[simp] theorem len_fF (l : List Fra) : (rows frF l).length = l.length * 3 := rows_len (f := frF) (fun _ => rfl) l
theorem snap_ints {O : List AObj} (xs : List Int) : Snap O (ints xs) (ints xs) := Snap.same rfl (still_ints _) (nofre_ints _)
theorem snap_blk {O : List AObj} (b : Blok) : Snap O (blkF b) (blkI b) := .keep rfl rfl (.fre (snap_ints _) .nil)
theorem snap_mb {O : List AObj} (b : Mbk) : Snap O (mbF b) (mbI b) := .keep rfl rfl (.fre (Snap.rows snap_blk _) .nil)
theorem snap_fr {O : List AObj} (b : Fra) : Snap O (frF b) (frI b) := .keep rfl rfl (.keep rfl rfl (.fre (snap_ints _) .nil))
theorem snap_li {O : List AObj} (b : List Int) : Snap O (liF b) (liI b) := .fre (snap_ints _) .nil
theorem loc_pr (a : Int × Int) : Loc (prF a) := .sc (.sc .nil)
theorem loc_pl (a : Int × Int × Int) : Loc (plF a) := .sc (.sc (.sc .nil))
theorem loc_blk (b : Blok) : Loc (blkF b) := .sc (.fre (Loc.ints _) .nil)
theorem loc_mb (b : Mbk) : Loc (mbF b) := .sc (.fre (Loc.rows loc_blk _) .nil)
theorem loc_fr (b : Fra) : Loc (frF b) := .sc (.sc (.fre (Loc.ints _) .nil))
theorem loc_li (b : List Int) : Loc (liF b) := .fre (Loc.ints _) .nil

section
variable {P : Program} {n m : Nat} {G : Ctx} {T : List (Nat × AV)} {O : List AObj} {Q : Exit → St → Prop} {ops : Array Oper} {l : List Oper} {d : Nat} {tt : TypeId} {pos : String} {after : Array Edge} {tab : List (Nat × Ty)} {i : Nat}
theorem WpL.appBlk (hP : TabOk P tab) {t e b : Nat} {zs : List AV} {x y : Operand} {id ep len0 j epj len : Nat} {tj : Option TypeId} {Vy : AV} {xs : List Blok} {c : Int} {lv : List Int} (ht : tlook tab t = some (.slice e 2 b zs)) (hx : av T x = .own id ep 0 len0) (ho : O[id]? = some ⟨rows blkF xs, ep, 2, some e⟩) (hm : m ≤ id)
    (hy : (av T y).force = some Vy) (hs : srcB O Vy = some ([I c, .own j epj 0 len], 1)) (hj : O[j]? = some ⟨ints lv, epj, 1, tj⟩) (hone : (List.all [I c, .own j epj 0 len] (oneB O)) = true) (hne : Nat.beq id j = false) (hmj : m ≤ j) (hll : len = lv.length) (hol : xs.length = len0) (hb : (len0 + 1) * b ≤ 140737488355328 ∧ len0 + 1 ≤ 9223372036854775807) (hn : d < n)
    (h : WpL P n m G false ops l ⟨(d, .own id (ep + 1) 0 (len0 + 1)) :: T, (O.set id ⟨rows blkF (xs ++ [(c, lv)]), ep + 1, 2, some e⟩).set j ⟨[], epj + 1, 0, none⟩⟩ Q) :
    WpL P n m G false ops ({ dst := some d, op := .call { callee := .builtin .append, args := #[x, y], argTypes := #[t, t] }, type := tt, pos := pos, after := after, guard := none } :: l) ⟨T, O⟩ Q := by
  subst hll
  exact WpL.appRowN (f := blkF) (v := (c, lv)) (o := 1) hP ht hx ho hm hy hs rfl hj hne hmj rfl (still_ints _) (by simp) (fun _ => rfl) rfl rfl hone hol hb hn h
theorem Weak.nestBlk {id j epj len ep sz : Nat} {te tj : Option TypeId} {xs : List Blok} {lv : List Int} {σ' : St} (ho : O[id]? = some ⟨(rows blkF xs).set (i * 2 + 1) (.own j epj 0 len), ep, sz, te⟩) (hj : O[j]? = some ⟨ints lv, epj, 1, tj⟩) (hne : Nat.beq id j = false) (hm : m ≤ j) (hll : len = lv.length) (hi : i < xs.length)
    (h : Weak m ⟨T, (O.set id ⟨rows blkF (xs.set i ((xs.getD i default).1, lv)), ep, sz, te⟩).set j ⟨[], epj + 1, 0, none⟩⟩ σ') : Weak m ⟨T, O⟩ σ' := by
  subst hll
  exact Weak.nestRow (f := blkF) (b := ((xs.getD i default).1, lv)) ho hj hne hm rfl (still_ints _) (by simp) (fun _ => rfl) rfl hi rfl rfl h
theorem WpL.storeMb (hP : TabOk P tab) {t : Nat} {x y : Operand} {id ep sz j epj len : Nat} {te tj : Option TypeId} {offs : List Nat} {zs : List AV} {xs : List Mbk} {c : Bool} {lv : List Blok} (ht : tlook tab t = some (.struct offs 2 zs)) (hx : av T x = .ptr id ep (i * 2)) (ho : O[id]? = some ⟨rows mbF xs, ep, sz, te⟩)
    (hy : (av T y).force = some (.agg [B c, .own j epj 0 len])) (hj : O[j]? = some ⟨rows blkF lv, epj, 2, tj⟩) (hone : (List.all [B c, .own j epj 0 len] (oneB O)) = true) (hne : Nat.beq id j = false) (hm : m ≤ j) (hll : len = lv.length) (hi : i < xs.length)
    (h : WpL P n m G false ops l ⟨T, (O.set id ⟨rows mbF (xs.set i (c, lv)), ep, sz, te⟩).set j ⟨[], epj + 1, 0, none⟩⟩ Q) :
    WpL P n m G false ops ({ dst := none, op := .store t x y, type := tt, pos := pos, after := after, guard := none } :: l) ⟨T, O⟩ Q := by
  subst hll
  exact WpL.storeRowN (f := mbF) (b := (c, lv)) (o := 1) hP ht hx ho hy hone rfl hj hne hm rfl (still_rows (fun _ => rfl) _) (rows_len (f := blkF) (k := 2) (fun _ => rfl) lv).symm (fun _ => rfl) rfl rfl hi h
theorem WpL.appMb (hP : TabOk P tab) {t e b : Nat} {zs : List AV} {x y : Operand} {id ep len0 j epj len : Nat} {tj : Option TypeId} {Vy : AV} {xs : List Mbk} {c : Bool} {lv : List Blok} (ht : tlook tab t = some (.slice e 2 b zs)) (hx : av T x = .own id ep 0 len0) (ho : O[id]? = some ⟨rows mbF xs, ep, 2, some e⟩) (hm : m ≤ id)
    (hy : (av T y).force = some Vy) (hs : srcB O Vy = some ([B c, .own j epj 0 len], 1)) (hj : O[j]? = some ⟨rows blkF lv, epj, 2, tj⟩) (hone : (List.all [B c, .own j epj 0 len] (oneB O)) = true) (hne : Nat.beq id j = false) (hmj : m ≤ j) (hll : len = lv.length) (hol : xs.length = len0) (hb : (len0 + 1) * b ≤ 140737488355328 ∧ len0 + 1 ≤ 9223372036854775807) (hn : d < n)
    (h : WpL P n m G false ops l ⟨(d, .own id (ep + 1) 0 (len0 + 1)) :: T, (O.set id ⟨rows mbF (xs ++ [(c, lv)]), ep + 1, 2, some e⟩).set j ⟨[], epj + 1, 0, none⟩⟩ Q) :
    WpL P n m G false ops ({ dst := some d, op := .call { callee := .builtin .append, args := #[x, y], argTypes := #[t, t] }, type := tt, pos := pos, after := after, guard := none } :: l) ⟨T, O⟩ Q := by
  subst hll
  exact WpL.appRowN (f := mbF) (v := (c, lv)) (o := 1) hP ht hx ho hm hy hs rfl hj hne hmj rfl (still_rows (fun _ => rfl) _) (rows_len (f := blkF) (k := 2) (fun _ => rfl) lv).symm (fun _ => rfl) rfl rfl hone hol hb hn h
end
end Go.Abs

/- Slices held against nil; contracts in two cases. No condition. -/
namespace Go.Abs
open Go
set_option linter.unusedVariables false
set_option linter.unusedSimpArgs false
section
variable {P : Program} {n m : Nat} {G : Ctx} {md : Bool} {T : List (Nat × AV)} {O : List AObj} {Q : Exit → St → Prop} {ops : Array Oper} {l : List Oper} {d : Nat} {tt : TypeId} {pos : String} {after : Array Edge}

theorem run_equal_nil (P : Program) {t e : TypeId} (ht : P.underlying t = some (.slice e)) (w : World) : (Op.equal t (.slice none 0 0) (.slice none 0 0)).run P w = .ok true w := by
  show (Op.equalIn (9999 + 1) t _ _).run P w = _
  rw [Op.equalIn]
  simp only [Sem.run_bind, run_underlying ht, Result.andThen_ok, Sem.run_pure, Option.isNone_none]
theorem run_equal_some (P : Program) {t e : TypeId} (ht : P.underlying t = some (.slice e)) (a : Addr) (k c : Nat) (w : World) : (Op.equal t (.slice (some a) k c) (.slice none 0 0)).run P w = .ok false w := by
  show (Op.equalIn (9999 + 1) t _ _).run P w = _
  rw [Op.equalIn]
  simp only [Sem.run_bind, run_underlying ht, Result.andThen_ok, Sem.run_pure]

theorem WpL.nilEq {t e ty : TypeId} {x y : Operand} (ht : P.underlying t = some (.slice e)) (hx : av T x = .nilS) (hy : av T y = .nilS) (hn : d < n) (h : WpL P n m G md ops l ⟨(d, .sc (.bool true)) :: T, O⟩ Q) :
    WpL P n m G md ops ({ dst := some d, op := .binOp .eql t x y ty, type := tt, pos := pos, after := after, guard := none } :: l) ⟨T, O⟩ Q :=
  WpL.pure rfl rfl hn (fun S ι F a w hr => ⟨.bool true, by
    have e1 : a.eval x = .slice none 0 0 := by
      have := hr.eval x; rw [show av (St.mk T O).T x = _ from hx] at this; exact (LRel.slice_len this).2.2 rfl
    have e2 : a.eval y = .slice none 0 0 := by
      have := hr.eval y; rw [show av (St.mk T O).T y = _ from hy] at this; exact (LRel.slice_len this).2.2 rfl
    simp only [execOp, e1, e2, eqGuard_slice, binOp, Sem.run_bind, run_equal_nil P ht, Result.andThen_ok, Sem.run_pure], .sc .nil⟩) h
theorem WpL.ownEq {t e ty : TypeId} {x y : Operand} {id ep off len : Nat} {ob : AObj} (ht : P.underlying t = some (.slice e)) (hx : av T x = .own id ep off len) (ho : O[id]? = some ob) (he : ob.ep = ep) (hl : 0 < len) (hy : av T y = .nilS) (hn : d < n)
    (h : WpL P n m G md ops l ⟨(d, .sc (.bool false)) :: T, O⟩ Q) :
    WpL P n m G md ops ({ dst := some d, op := .binOp .eql t x y ty, type := tt, pos := pos, after := after, guard := none } :: l) ⟨T, O⟩ Q :=
  WpL.pure rfl rfl hn (fun S ι F a w hr => ⟨.bool false, by
    have e2 : a.eval y = .slice none 0 0 := by
      have := hr.eval y; rw [show av (St.mk T O).T y = _ from hy] at this; exact (LRel.slice_len this).2.2 rfl
    have hv := hr.eval x
    rw [show av (St.mk T O).T x = _ from hx] at hv
    have e1 : ∃ ad c, a.eval x = .slice (some ad) len c := by
      generalize a.eval x = v at hv
      cases hv with
      | own q1 q2 q3 r =>
        have ho' : (St.mk T O).O[id]? = some ob := ho
        rw [ho'] at q1; cases q1
        have := q3 he.symm
        unfold OwnAt at this
        split at this
        · omega
        · obtain ⟨cap, rfl, _⟩ := this; exact ⟨_, _, rfl⟩
    obtain ⟨ad, c, e1⟩ := e1
    simp only [execOp, e1, e2, eqGuard_slice, binOp, Sem.run_bind, run_equal_some P ht, Result.andThen_ok, Sem.run_pure], .sc .nil⟩) h
end

/-! Parts of a slice of numbers. -/
section
variable {P : Program} {n m : Nat} {G : Ctx} {md : Bool} {T : List (Nat × AV)} {O : List AObj} {Q : Exit → St → Prop} {ops : Array Oper} {l : List Oper} {d : Nat} {tt : TypeId} {pos : String} {after : Array Edge} {tab : List (Nat × Ty)}
theorem WpL.subInts (hP : TabOk P tab) {t e b : Nat} {zs : List AV} {x y z : Operand} {len : Nat} {xs : List Int} {kk k2 : IntKind} {i j : Int} (ht : tlook tab t = some (.slice e 1 b zs)) (hx : av T x = .imm 1 len (ints xs)) (hy : av T y = .sc (.int kk i)) (hz : av T z = .sc (.int k2 j)) (hl : len = xs.length)
    (hb : 0 ≤ i ∧ i ≤ j ∧ j ≤ xs.length) (hn : d < n) (h : WpL P n m G md ops l ⟨(d, .imm 1 ((xs.drop i.toNat).take (j.toNat - i.toNat)).length (ints ((xs.drop i.toNat).take (j.toNat - i.toNat)))) :: T, O⟩ Q) :
    WpL P n m G md ops ({ dst := some d, op := .slice t x (some y) (some z) none, type := tt, pos := pos, after := after, guard := none } :: l) ⟨T, O⟩ Q := by
  subst hl
  refine WpL.subImm hP ht hx (.inr ⟨_, _, rfl, hy⟩) (.inr ⟨_, _, rfl, hz⟩) (by omega) hn ?_
  have e1 : ((xs.drop i.toNat).take (j.toNat - i.toNat)).length = j.toNat - i.toNat := by simp; omega
  rw [e1] at h
  simpa [ints, List.map_take, List.map_drop] using h
end

/-- A contract in two cases. -/
def FnB (P : Program) (f : FuncId) (args : List AV) (p : Prop) (N1 : List AObj) (r1 : AV) (N0 : List AObj) (r0 : AV) : Prop := (p → FnC P f args N1 r1) ∧ (¬ p → FnC P f args N0 r0)
theorem WpL.callB {P : Program} {n m : Nat} {G : Ctx} {T : List (Nat × AV)} {O : List AObj} {Q : Exit → St → Prop} {ops : Array Oper} {l : List Oper} {d : Nat} {tt : TypeId} {pos : String} {after : Array Edge} {f : FuncId} {xs : List Operand} {ats : Array TypeId} {As : List AV} {p : Prop} {N1 N0 : List AObj} {r1 r0 r1' r0' : AV} {id : Nat} (hc : FnB P f As p N1 r1 N0 r0) (hs : Snap O (xs.map (av T)) As)
    (hl1 : Loc [r1]) (hN1 : Out N1) (hl0 : Loc [r0]) (hN0 : Out N0) (hid : cnt O.length 0 = some id) (hok1 : r1.shOk = true) (hre1 : r1.shF id = some r1') (hok0 : r0.shOk = true) (hre0 : r0.shF id = some r0') (hn : d < n)
    (h1 : p → WpL P n m G false ops l ⟨(d, r1') :: T, O ++ N1⟩ Q) (h0 : ¬ p → WpL P n m G false ops l ⟨(d, r0') :: T, O ++ N0⟩ Q) :
    WpL P n m G false ops ({ dst := some d, op := .call { callee := .value (.func f), args := xs.toArray, argTypes := ats }, type := tt, pos := pos, after := after, guard := none } :: l) ⟨T, O⟩ Q := by
  by_cases hp : p
  · exact WpL.callF (hc.1 hp) hs hl1 hN1 hid hok1 hre1 hn (h1 hp)
  · exact WpL.callF (hc.2 hp) hs hl0 hN0 hid hok0 hre0 hn (h0 hp)
end Go.Abs

/- Regions that draw their order and in which stores stand: the stores one behind the other, what reads memory between the stores that it stands between, all else at any time. No condition. -/
namespace Go.Abs
open Go
set_option linter.unusedVariables false
set_option linter.unusedSimpArgs false

abbrev GFact := Option (Nat × AV)
def gdeps (fs : List GFact) (o : Oper) : List (Nat × AV) := o.after.toList.filterMap fun e => if Region.binds .any e = true then (fs[e.on]?).join else none

/-- Whether an operation waits for another, straight or through others. -/
def reach (ops : Array Oper) : Nat → Nat → Nat → Bool
  | 0, _, _ => false
  | f + 1, i, j => match ops[i]? with
    | none => false
    | some o => (o.after.toList.any fun e => Region.binds .any e && Nat.beq e.on j) || (o.after.toList.any fun e => Region.binds .any e && reach ops f e.on j)

theorem reach_listed {ops : Array Oper} {n : Nat} {listed : Array Bool} (inv : HeadInv .any ops n listed) : ∀ (f i j : Nat), reach ops f i j = true → listed.getD i false = true → listed.getD j false = true
  | 0, i, j, h, _ => by simp [reach] at h
  | f + 1, i, j, h, hl => by
    rw [reach] at h
    split at h
    · cases h
    · rename_i o ho
      rcases Bool.or_eq_true_iff.1 h with h | h
      · obtain ⟨e, he, hx⟩ := List.any_eq_true.1 h
        rw [Bool.and_eq_true] at hx
        have := inv.closed i o ho hl e (by simpa using he) hx.1
        rw [Nat.eq_of_beq_eq_true hx.2] at this; exact this
      · obtain ⟨e, he, hx⟩ := List.any_eq_true.1 h
        rw [Bool.and_eq_true] at hx
        exact reach_listed inv f _ _ hx.2 (inv.closed i o ho hl e (by simpa using he) hx.1)

/-- Objects as told, where they are told. -/
inductive Pat : List (Option AObj) → List AObj → Prop
  | nil {R} : Pat [] R
  | one {ob ps R} (r : Pat ps R) : Pat (some ob :: ps) (ob :: R)
  | any {ob ps R} (r : Pat ps R) : Pat (none :: ps) (ob :: R)
theorem Pat.all : ∀ {Op A : List AObj}, Pat (Op.map some) A → ∃ R, A = Op ++ R
  | [], A, _ => ⟨A, rfl⟩
  | ob :: Op, _, .one r => by obtain ⟨R, rfl⟩ := Pat.all r; exact ⟨R, rfl⟩
/-- What an operation of such a region does. Kind 0: it leans on the objects that 'Op' tells alone; 1: it runs between its neighbours among the steps; 2: a step. -/
inductive OpG (P : Program) (n m : Nat) (G : Ctx) (ops : Array Oper) (T0 : List (Nat × AV)) (F : List (Nat × AV)) (o : Oper) : Nat → GFact → Option (List (Option AObj)) → List AObj → List AObj → Prop
  | pre {d V O} (Op : List (Option AObj)) (hd : o.dst = some d) (h : ∀ Tv Ov, Pat Op Ov → WpL P n m G false ops [o] ⟨F ++ (T0 ++ Tv), Ov⟩ (Only ⟨(d, V) :: (F ++ (T0 ++ Tv)), Ov⟩)) : OpG P n m G ops T0 F o 0 (some (d, V)) (some Op) O O
  | fixed {d V O} (hd : o.dst = some d) (h : ∀ Tv, WpL P n m G false ops [o] ⟨F ++ (T0 ++ Tv), O⟩ (Only ⟨(d, V) :: (F ++ (T0 ++ Tv)), O⟩)) : OpG P n m G ops T0 F o 1 (some (d, V)) none O O
  | step {d V O O'} (hd : o.dst = some d) (h : ∀ Tv, WpL P n m G false ops [o] ⟨F ++ (T0 ++ Tv), O⟩ (Only ⟨(d, V) :: (F ++ (T0 ++ Tv)), O'⟩)) : OpG P n m G ops T0 F o 2 (some (d, V)) none O O'
  | stepN {O O'} (hd : o.dst = none) (h : ∀ Tv, WpL P n m G false ops [o] ⟨F ++ (T0 ++ Tv), O⟩ (Only ⟨F ++ (T0 ++ Tv), O'⟩)) : OpG P n m G ops T0 F o 2 none none O O'

inductive HeadG (P : Program) (n m : Nat) (G : Ctx) (ops : Array Oper) (T0 : List (Nat × AV)) : List GFact → List AObj → List Oper → List GFact → List Nat → List (Option (List (Option AObj))) → List (List AObj) → List AObj → Prop
  | nil {fs O} : HeadG P n m G ops T0 fs O [] [] [] [] [O] O
  | still {fs O o l x k y out ks ds Os O' F} (hF : gdeps fs o = F) (hk : k < 2) (h : OpG P n m G ops T0 F o k x y O O) (r : HeadG P n m G ops T0 (fs ++ [x]) O l out ks ds Os O') : HeadG P n m G ops T0 fs O (o :: l) (x :: out) (k :: ks) (y :: ds) Os O'
  | step {fs O o l x y out ks ds Os O1 O' F} (hF : gdeps fs o = F) (h : OpG P n m G ops T0 F o 2 x y O O1) (r : HeadG P n m G ops T0 (fs ++ [x]) O1 l out ks ds Os O') : HeadG P n m G ops T0 fs O (o :: l) (x :: out) (2 :: ks) (y :: ds) (O :: Os) O'

def isS (ks : List Nat) (j : Nat) : Bool := Nat.beq (ks.getD j 0) 2
def sc (ks : List Nat) (j : Nat) : Nat := ((List.range j).filter (isS ks)).length

theorem sc_cons (k : Nat) (ks : List Nat) (j : Nat) : sc (k :: ks) (j + 1) = (if Nat.beq k 2 = true then 1 else 0) + sc ks j := by
  unfold sc
  rw [List.range_succ_eq_map, List.filter_cons, List.filter_map]
  have : (isS (k :: ks) ∘ Nat.succ) = isS ks := by funext x; simp [isS]
  rw [this]
  have h0 : isS (k :: ks) 0 = Nat.beq k 2 := by simp [isS]
  rw [h0]
  split <;> simp <;> omega

section
variable {P : Program} {n m : Nat} {G : Ctx} {ops : Array Oper} {T0 : List (Nat × AV)}

theorem HeadG.hd {fs O l out ks ds Os O'} (h : HeadG P n m G ops T0 fs O l out ks ds Os O') : Os[0]? = some O := by
  induction h with
  | nil => rfl
  | still _ _ _ _ ih => exact ih
  | step => rfl
theorem HeadG.lens {fs O l out ks ds Os O'} (h : HeadG P n m G ops T0 fs O l out ks ds Os O') : out.length = l.length ∧ ks.length = l.length ∧ Os[sc ks l.length]? = some O' := by
  induction h with
  | nil => exact ⟨rfl, rfl, rfl⟩
  | @still fs O o l x k y out ks ds Os O' F _ hk _ _ ih =>
    have e : ¬ Nat.beq k 2 = true := by intro h; have := Nat.eq_of_beq_eq_true h; omega
    refine ⟨by simp [ih.1], by simp [ih.2.1], ?_⟩
    rw [List.length_cons, sc_cons, if_neg e, Nat.zero_add]; exact ih.2.2
  | @step fs O o l x y out ks ds Os O1 O' F _ _ _ ih =>
    refine ⟨by simp [ih.1], by simp [ih.2.1], ?_⟩
    rw [List.length_cons, sc_cons, if_pos (show Nat.beq 2 2 = true from rfl), Nat.add_comm]; simpa using ih.2.2
theorem HeadG.at {fs O l out ks ds Os O'} (h : HeadG P n m G ops T0 fs O l out ks ds Os O') : ∀ {j : Nat} {o : Oper}, l[j]? = some o → ∃ x k y A B, out[j]? = some x ∧ ks[j]? = some k ∧ ds[j]? = some y ∧ Os[sc ks j]? = some A ∧
    Os[(if isS ks j = true then 1 else 0) + sc ks j]? = some B ∧ OpG P n m G ops T0 (gdeps (fs ++ out.take j) o) o k x y A B := by
  induction h with
  | nil => intro j o h; simp at h
  | @still fs O o l x k y out ks ds Os O' F hF hk h r ih =>
    intro j o' hj
    have e : ¬ Nat.beq k 2 = true := by intro h; have := Nat.eq_of_beq_eq_true h; omega
    cases j with
    | zero =>
      simp only [List.getElem?_cons_zero, Option.some.injEq] at hj
      subst hj
      have h0 : isS (k :: ks) 0 = Nat.beq k 2 := by simp [isS]
      refine ⟨x, k, y, O, O, rfl, rfl, rfl, r.hd, ?_, ?_⟩
      · rw [h0, if_neg e]; exact r.hd
      · simp only [List.take_zero, List.append_nil]; rw [hF]; exact h
    | succ j =>
      obtain ⟨x', k', y', A, B, h1, h2, h2', h3, h4, h5⟩ := ih (j := j) (o := o') (by simpa using hj)
      have hs : isS (k :: ks) (j + 1) = isS ks j := by simp [isS]
      refine ⟨x', k', y', A, B, by simpa using h1, by simpa using h2, by simpa using h2', ?_, ?_, ?_⟩
      · rw [sc_cons, if_neg e, Nat.zero_add]; exact h3
      · rw [hs, sc_cons, if_neg e, Nat.zero_add]; exact h4
      · rw [List.take_succ_cons]; rw [List.append_assoc] at h5; exact h5
  | @step fs O o l x y out ks ds Os O1 O' F hF h r ih =>
    intro j o' hj
    cases j with
    | zero =>
      simp only [List.getElem?_cons_zero, Option.some.injEq] at hj
      subst hj
      have h0 : isS (2 :: ks) 0 = true := by simp [isS]
      refine ⟨x, 2, y, O, O1, rfl, rfl, rfl, rfl, ?_, ?_⟩
      · rw [h0, if_pos rfl]; exact r.hd
      · simp only [List.take_zero, List.append_nil]; rw [hF]; exact h
    | succ j =>
      obtain ⟨x', k', y', A, B, h1, h2, h2', h3, h4, h5⟩ := ih (j := j) (o := o') (by simpa using hj)
      have hs : isS (2 :: ks) (j + 1) = isS ks j := by simp [isS]
      refine ⟨x', k', y', A, B, by simpa using h1, by simpa using h2, by simpa using h2', ?_, ?_, ?_⟩
      · rw [sc_cons, if_pos (show Nat.beq 2 2 = true from rfl), Nat.add_comm]; simpa using h3
      · rw [hs, sc_cons, if_pos (show Nat.beq 2 2 = true from rfl), ← Nat.add_assoc, Nat.add_comm _ 1, Nat.add_assoc, Nat.add_comm 1]; simpa using h4
      · rw [List.take_succ_cons]; rw [List.append_assoc] at h5; exact h5

/-- The shape of the waits. -/
def ordB (ops : Array Oper) (ks : List Nat) (f : Nat) : Bool :=
  (List.range ops.size).all fun j => !isS ks j || (List.range ops.size).all fun i => Nat.beq i j || Nat.beq (ks.getD i 0) 0 || (if Nat.blt j i then reach ops f i j else reach ops f j i)
def backB (ops : Array Oper) : Bool := (List.range ops.size).all (fun i => match ops[i]? with | some o => o.after.toList.all fun e => !Region.binds .any e || Nat.blt e.on i | none => true)

def factsG : List GFact → List (Nat × AV) := List.filterMap id

def cntL (ks : List Nat) (k : Nat) (listed : Array Bool) : Nat := ((List.range k).filter fun j => isS ks j && listed.getD j false).length

/-- How many steps an operation waits for. -/
def lo (ops : Array Oper) (ks : List Nat) (k f i : Nat) : Nat := ((List.range k).filter fun j => isS ks j && reach ops f i j).length
/-- The steps that may lie behind when i is taken: those that do not wait for it. -/
def hiS (ops : Array Oper) (ks : List Nat) (k f i : Nat) : Nat := ((List.range k).filter fun j => isS ks j && !reach ops f j i).length
structure GoodG (n m : Nat) (G : Ctx) (T0 : List (Nat × AV)) (k : Nat) (out : List GFact) (ks : List Nat) (Os : List (List AObj)) (listed : Array Bool) (a : Act) (w : World) (T : List (Nat × AV)) : Prop where
  rel : Rel n m G ⟨T, (Os[cntL ks k listed]?).getD []⟩ a w
  facts : ∀ i d V, out[i]? = some (some (d, V)) → listed.getD i false = true → look T d = V
  other : ∀ t, has (factsG out) t = false → look T t = look T0 t

end
/-! Forms whose lists are written out by reduction. -/
def gdepsF (fs : List GFact) : List Edge → Option (List (Nat × AV))
  | [] => some []
  | e :: es => match Region.binds .any e with
    | false => gdepsF fs es
    | true => match fs[e.on]? with
      | none => gdepsF fs es
      | some none => gdepsF fs es
      | some (some x) => match gdepsF fs es with
        | some r => some (x :: r)
        | none => none
def gcatF : List GFact → List (Nat × AV) → Option (List (Nat × AV))
  | [], B => some B
  | none :: A, B => gcatF A B
  | some p :: A, B => match gcatF A B with
    | some r => some (p :: r)
    | none => none
section
variable {P : Program} {n m : Nat} {G : Ctx} {ops : Array Oper} {T0 : List (Nat × AV)}
/-- Operations that may turn the objects. -/
def mayStep (o : Oper) : Bool := match o.op with
  | .move _ => false
  | .assign _ => false
  | .binOp .. => false
  | .unOp .. => false
  | .load .. => false
  | .fieldAddr .. => false
  | .indexAddr .. => false
  | .index .. => false
  | .pick .. => false
  | .extract .. => false
  | .slice .. => false
  | .nilCheck .. => false
  | .build .. => false
  | .call c => match c.callee with
    | .builtin .len => false
    | .builtin .min => false
    | .builtin .max => false
    | _ => true
  | _ => true
def tightB (ops : Array Oper) (f i : Nat) : Bool := (List.range ops.size).all fun j => Nat.beq i j || match ops[j]? with
  | some o => !mayStep o || (if Nat.blt j i then reach ops f i j else reach ops f j i)
  | none => true
theorem Pat.un {ps : List (Option AObj)} {A : List AObj} (h : Pat (none :: ps) A) : ∃ x R, A = x :: R ∧ Pat ps R := by
  cases h with | any r => exact ⟨_, _, rfl, r⟩
inductive PreL (Op : List (Option AObj)) : List (List AObj) → Prop
  | nil : PreL Op []
  | cons {A Os} (h : Pat Op A) (r : PreL Op Os) : PreL Op (A :: Os)
theorem PreL.at {Op : List (Option AObj)} {Os : List (List AObj)} (h : PreL Op Os) : ∀ {q : Nat} {A : List AObj}, Os[q]? = some A → Pat Op A := by
  induction h with
  | nil => intro q A h; simp at h
  | cons h r ih =>
    intro q A hA
    cases q with
    | zero => simp only [List.getElem?_cons_zero, Option.some.injEq] at hA; subst hA; exact h
    | succ q => exact ih (by simpa using hA)
inductive DemAll (ops : Array Oper) (ks : List Nat) (k f : Nat) (Os : List (List AObj)) : Nat → List (Option (List (Option AObj))) → Prop
  | nil {i} : DemAll ops ks k f Os i []
  | skip {i ds} (r : DemAll ops ks k f Os (i + 1) ds) : DemAll ops ks k f Os i (none :: ds)
  | zero {i ds} (r : DemAll ops ks k f Os (i + 1) ds) : DemAll ops ks k f Os i (some [] :: ds)
  | all {i ds Op} (h : PreL Op Os) (r : DemAll ops ks k f Os (i + 1) ds) : DemAll ops ks k f Os i (some Op :: ds)
  | past {i ds Op c Os'} (hc : cnt (lo ops ks k f i) 0 = some c) (hO : Os.drop c = Os') (h : PreL Op Os') (r : DemAll ops ks k f Os (i + 1) ds) : DemAll ops ks k f Os i (some Op :: ds)
  | betw {i ds Op c c2 Os'} (hc : cnt (lo ops ks k f i) 0 = some c) (hc2 : cnt (hiS ops ks k f i) 0 = some c2) (hO : (Os.take (c2 + 1)).drop c = Os') (h : PreL Op Os') (r : DemAll ops ks k f Os (i + 1) ds) : DemAll ops ks k f Os i (some Op :: ds)
theorem DemAll.at {ks : List Nat} {k f : Nat} {Os : List (List AObj)} {i ds} (h : DemAll ops ks k f Os i ds) : ∀ {j Op}, ds[j]? = some (some Op) → ∀ q A, lo ops ks k f (i + j) ≤ q → q ≤ hiS ops ks k f (i + j) → Os[q]? = some A → Pat Op A := by
  induction h with
  | nil => intro j Op h; simp at h
  | @skip i ds r ih =>
    intro j Op h q A hq hq2 hA
    cases j with
    | zero => simp at h
    | succ j => exact ih (by simpa using h) q A (by rw [show i + 1 + j = i + (j + 1) by omega]; exact hq) (by rw [show i + 1 + j = i + (j + 1) by omega]; exact hq2) hA
  | @zero i ds r ih =>
    intro j Op h q A hq hq2 hA
    cases j with
    | zero => simp only [List.getElem?_cons_zero, Option.some.injEq] at h; subst h; exact .nil
    | succ j => exact ih (by simpa using h) q A (by rw [show i + 1 + j = i + (j + 1) by omega]; exact hq) (by rw [show i + 1 + j = i + (j + 1) by omega]; exact hq2) hA
  | @all i ds Op' hp r ih =>
    intro j Op h q A hq hq2 hA
    cases j with
    | zero => simp only [List.getElem?_cons_zero, Option.some.injEq] at h; subst h; exact hp.at hA
    | succ j => exact ih (by simpa using h) q A (by rw [show i + 1 + j = i + (j + 1) by omega]; exact hq) (by rw [show i + 1 + j = i + (j + 1) by omega]; exact hq2) hA
  | @past i ds Op' c Os' hc hO hp r ih =>
    intro j Op h q A hq hq2 hA
    cases j with
    | zero =>
      simp only [List.getElem?_cons_zero, Option.some.injEq] at h; subst h
      have hc := cnt_eq hc
      rw [Nat.add_zero] at hc hq
      refine hp.at (q := q - c) ?_
      rw [← hO, List.getElem?_drop, show c + (q - c) = q by omega]; exact hA
    | succ j => exact ih (by simpa using h) q A (by rw [show i + 1 + j = i + (j + 1) by omega]; exact hq) (by rw [show i + 1 + j = i + (j + 1) by omega]; exact hq2) hA
  | @betw i ds Op' c c2 Os' hc hc2 hO hp r ih =>
    intro j Op h q A hq hq2 hA
    cases j with
    | zero =>
      simp only [List.getElem?_cons_zero, Option.some.injEq] at h; subst h
      have hc := cnt_eq hc
      have hc2 := cnt_eq hc2
      rw [Nat.add_zero] at hc hq hc2 hq2
      refine hp.at (q := q - c) ?_
      rw [← hO, List.getElem?_drop, show c + (q - c) = q by omega, List.getElem?_take, if_pos (by omega)]; exact hA
    | succ j => exact ih (by simpa using h) q A (by rw [show i + 1 + j = i + (j + 1) by omega]; exact hq) (by rw [show i + 1 + j = i + (j + 1) by omega]; exact hq2) hA
/-- All of the first k operations yield something. -/
def noDyn (o : Oper) : Bool := match o.op with
  | .call c => match c.callee with
    | .value (.tmp _) => false
    | _ => true
  | _ => true
def dstB (ops : Array Oper) (k : Nat) : Bool := (List.range k).all fun i => match ops[i]? with | some o => o.dst.isSome && noApp o && noDyn o | none => true
theorem WpA.regionTB {σ : St} {id : Nat} {l : List Oper} {Q : Exit → St → Prop} (k : Nat) (hm : P.follows .mixedOrders = true) (hB : (Region.lexTailB .any l.toArray k && dstB l.toArray k) = true)
    (h : WpL P n m G true l.toArray (l.take k) σ (Seq (fun σ' => WpL P n m G false l.toArray (l.drop k) σ' Q) Q)) : WpA P n m G (.region id l.toArray true) σ Q :=
  WpA.regionT k hm (by rw [Bool.and_eq_true] at hB; exact hB.1) h
end
end Go.Abs
namespace Go.Abs.K
end Go.Abs.K

/- Function values; slices of slices written out. No condition. -/
namespace Go.Abs
open Go
set_option linter.unusedVariables false
set_option linter.unusedSimpArgs false
section
variable {P : Program} {n m : Nat} {G : Ctx} {T : List (Nat × AV)} {O : List AObj} {Q : Exit → St → Prop} {ops : Array Oper} {l : List Oper} {d : Nat} {tt : TypeId} {pos : String} {after : Array Edge} {tab : List (Nat × Ty)}
theorem WpL.makeFunc {f : FuncId} {xs : List Operand} {cs : List AV} (hcs : xs.map (av T) = cs) (hn : d < n) (h : WpL P n m G false ops l ⟨(d, .fn f cs) :: T, O⟩ Q) :
    WpL P n m G false ops ({ dst := some d, op := .makeFunc (.func f) #[] xs.toArray, type := tt, pos := pos, after := after, guard := none } :: l) ⟨T, O⟩ Q :=
  WpL.value rfl (fun a w hr => by
    subst hcs
    obtain ⟨S, ι, F, hr⟩ := hr
    refine ⟨.func (.func f) #[] (xs.map a.eval).toArray, w, ?_, S, ι, F, hr.put hn (.fn (hr.evals xs) .nil)⟩
    simp [execOp, Instr.makeFunc, Sem.run_bind, Sem.run, Result.andThen_ok]) h
/-- A call of a function value whose contract makes no objects; one that makes some. -/
theorem WpL.callV0 {f : FuncId} {x : Operand} {caps : List AV} {xs : List Operand} {ats : Array TypeId} {As Vs : List AV} {r r' : AV} (hx : av T x = .fn f caps) (hc : FnC P f As [] r) (hcat : catF (xs.map (av T)) caps = some Vs) (hs : Snap O Vs As) (hloc : Loc [r])
    (hok : r.flat = true) (hre : r.force = some r') (hn : d < n) (h : WpL P n m G false ops l ⟨(d, r') :: T, O⟩ Q) :
    WpL P n m G false ops ({ dst := some d, op := .call { callee := .value x, args := xs.toArray, argTypes := ats }, type := tt, pos := pos, after := after, guard := none } :: l) ⟨T, O⟩ Q := by
  have := catF_eq hcat; subst this
  have hsh := AV.flat_sh O.length r hok
  refine WpL.callV hx hc hs hloc .nil (id := O.length) (by rw [nid_len]; simp) hsh.1 (by rw [hsh.2]; exact hre) hn ?_
  rw [List.append_nil]; exact h
theorem WpL.callVF {f : FuncId} {x : Operand} {caps : List AV} {xs : List Operand} {ats : Array TypeId} {As Vs : List AV} {N : List AObj} {r r' : AV} {id : Nat} (hx : av T x = .fn f caps) (hc : FnC P f As N r) (hcat : catF (xs.map (av T)) caps = some Vs) (hs : Snap O Vs As) (hloc : Loc [r]) (hN : Out N)
    (hid : cnt O.length 0 = some id) (hok : r.shOk = true) (hre : r.shF id = some r') (hn : d < n) (h : WpL P n m G false ops l ⟨(d, r') :: T, O ++ N⟩ Q) :
    WpL P n m G false ops ({ dst := some d, op := .call { callee := .value x, args := xs.toArray, argTypes := ats }, type := tt, pos := pos, after := after, guard := none } :: l) ⟨T, O⟩ Q := by
  have := catF_eq hcat; subst this
  have e : id = O.length := by have := cnt_eq hid; omega
  subst e
  exact WpL.callV hx hc hs hloc hN (id := O.length) (by rw [nid_len, Nat.zero_add]) hok (by rw [AV.shF_eq _ _ _ hre]; exact AV.force_some _) hn h
end

/-! Slices of slices of numbers, written out. -/
inductive NestC (m id : Nat) : List Nat → List AObj → List AObj → Prop
  | nil {O} : NestC m id [] O O
  | cons {off offs O O1 O2 j epj len ob oj} (ho : O[id]? = some ob) (hc : ob.cells[off]? = some (.own j epj 0 len)) (hj : O[j]? = some oj) (hne : Nat.beq id j = false) (hm : m ≤ j) (hep : oj.ep = epj) (hst : oj.cells.all AV.still = true)
      (hlen : len * oj.size = oj.cells.length) (h1 : flatO ((O.set id ⟨ob.cells.set off (.fre oj.size len oj.cells), ob.ep, ob.size, ob.ty⟩).set j ⟨[], oj.ep + 1, 0, none⟩) = some O1) (r : NestC m id offs O1 O2) : NestC m id (off :: offs) O O2
theorem NestC.weak {m id : Nat} {offs : List Nat} {O O2 : List AObj} (h : NestC m id offs O O2) {T : List (Nat × AV)} : Weak m ⟨T, O⟩ ⟨T, O2⟩ := by
  induction h with
  | nil => exact fun n G a w h => h
  | cons ho hc hj hne hm hep hst hlen h1 _ ih =>
    have := flatO_eq h1; subst this
    exact (Weak.nest ho hj hne hm hc hep hst hlen).trans ih
def toLis : List AV → Option (List (List Int))
  | [] => some []
  | .fre 1 len cs :: r => match toInts cs with
    | none => none
    | some v => match Nat.beq len v.length with
      | false => none
      | true => match toLis r with
        | none => none
        | some rs => some (v :: rs)
  | _ => none
theorem toLis_eq : ∀ {cs : List AV} {M : List (List Int)}, toLis cs = some M → cs = rows liF M
  | [], M, h => by simp [toLis] at h; subst h; rfl
  | .fre 1 len cs :: r, M, h => by
    rw [toLis] at h
    cases hv : toInts cs with
    | none => rw [hv] at h; cases h
    | some v =>
      rw [hv] at h
      cases hb : Nat.beq len v.length with
      | false => simp only [hb] at h; cases h
      | true =>
        simp only [hb] at h
        cases hr : toLis r with
        | none => simp only [hr] at h; cases h
        | some rs =>
          simp only [hr] at h
          cases h
          have e1 := toInts_eq hv
          have e2 := Nat.eq_of_beq_eq_true hb
          subst e1 e2
          rw [toLis_eq hr, rows_cons]; rfl
  | .fre 0 _ _ :: _, _, h => by simp [toLis] at h
  | .fre (_ + 2) _ _ :: _, _, h => by simp [toLis] at h
  | .any :: _, _, h => by simp [toLis] at h
  | .sc _ :: _, _, h => by simp [toLis] at h
  | .agg _ :: _, _, h => by simp [toLis] at h
  | .tup _ :: _, _, h => by simp [toLis] at h
  | .nilS :: _, _, h => by simp [toLis] at h
  | .imm _ _ _ :: _, _, h => by simp [toLis] at h
  | .own _ _ _ _ :: _, _, h => by simp [toLis] at h
  | .ptr _ _ _ :: _, _, h => by simp [toLis] at h
  | .iptr _ _ :: _, _, h => by simp [toLis] at h
  | .fn _ _ :: _, _, h => by simp [toLis] at h
  | .ifc _ _ :: _, _, h => by simp [toLis] at h
section
variable {P : Program} {n m : Nat} {G : Ctx} {T : List (Nat × AV)} {O : List AObj} {Q : Exit → St → Prop} {ops : Array Oper} {l : List Oper} {d : Nat} {tt : TypeId} {pos : String} {after : Array Edge} {tab : List (Nat × Ty)}
theorem WpL.litLis (hP : TabOk P tab) {t e b len id : Nat} {zs cs cs2 : List AV} {parts : List (Nat × Operand)} {offs : List Nat} {O2 : List AObj} {M : List (List Int)} (ht : tlook tab t = some (.slice e 1 b zs)) (hidx : parts.map (·.1) = List.range' 0 parts.length) (hlen : parts.length = len)
    (hlit : litC T O 1 (parts.map (·.2)) = some cs) (hsm : len * 1 ≤ 16777216) (hid : nid O 0 = some id) (hoffs : parts.map (·.1) = offs) (hO : toInts cs = none) (hn : d < n) (hw : NestC m id offs (O ++ [⟨cs, 0, 1, some e⟩]) O2) (h2 : O2[id]? = some ⟨cs2, 0, 1, some e⟩) (hM : toLis cs2 = some M)
    (h : WpL P n m G false ops l ⟨(d, .own id 0 0 len) :: T, O2.set id ⟨rows liF M, 0, 1, some e⟩⟩ Q) :
    WpL P n m G false ops ({ dst := some d, op := .buildSlice t len parts.toArray, type := tt, pos := pos, after := after, guard := none } :: l) ⟨T, O⟩ Q := by
  refine WpL.litF hP ht hidx hlen hlit hsm hid hn (WpL.weak hw.weak ?_)
  have e1 := toLis_eq hM
  have e2 : O2.set id ⟨rows liF M, 0, 1, some e⟩ = O2 := by
    rw [← e1]
    apply List.ext_getElem?
    intro i
    by_cases hi : i = id
    · subst hi; rw [List.getElem?_set_self (List.getElem?_eq_some_iff.1 h2).1, h2]
    · rw [List.getElem?_set_ne (by omega)]
  rw [e2] at h; exact h
end
end Go.Abs
namespace Go.Abs.K
open Go Go.Abs
variable {P : Program} {n m : Nat} {G : Ctx} {σ : St} {Q : Exit → St → Prop} {md : Bool} {ops : Array Oper} {l : List Oper} {dd : Option Nat} {tt : TypeId} {pos : String} {after : Array Edge}
theorem callT {t : Nat} {xs : Array Operand} {ats : Array TypeId} (h : WpL P n m G md ops ({ dst := dd, op := .call { callee := .value (.tmp t), args := xs, argTypes := ats }, type := tt, pos := pos, after := after, guard := none } :: l) σ Q) : WpL P n m G md ops ({ dst := dd, op := .call { callee := .value (.tmp t), args := xs, argTypes := ats }, type := tt, pos := pos, after := after, guard := none } :: l) σ Q := h
theorem mkF {f : FuncId} {xs ys : Array Operand} (h : WpL P n m G md ops ({ dst := dd, op := .makeFunc (.func f) xs ys, type := tt, pos := pos, after := after, guard := none } :: l) σ Q) : WpL P n m G md ops ({ dst := dd, op := .makeFunc (.func f) xs ys, type := tt, pos := pos, after := after, guard := none } :: l) σ Q := h
end Go.Abs.K

/- Structs written out. No condition. -/
namespace Go.Abs
open Go
set_option linter.unusedVariables false
set_option linter.unusedSimpArgs false

/-- Cells written over others from a place on. -/
def wrC : List AV → Nat → List AV → Option (List AV)
  | [], _, [] => some []
  | [], _, _ :: _ => none
  | z :: zs, 0, [] => some (z :: zs)
  | z :: zs, 0, d :: ds => match wrC zs 0 ds with
    | none => none
    | some r => some (d :: r)
  | z :: zs, off + 1, ds => match wrC zs off ds with
    | none => none
    | some r => some (z :: r)
theorem wrC_eq : ∀ {zs : List AV} {off : Nat} {ds r : List AV}, wrC zs off ds = some r → r = zs.take off ++ ds ++ zs.drop (off + ds.length)
  | [], off, [], r, h => by simp [wrC] at h; subst h; simp
  | [], _, _ :: _, r, h => by simp [wrC] at h
  | z :: zs, 0, [], r, h => by simp [wrC] at h; subst h; simp
  | z :: zs, 0, d :: ds, r, h => by
    rw [wrC] at h
    cases hr : wrC zs 0 ds with
    | none => rw [hr] at h; cases h
    | some r' =>
      rw [hr] at h; cases h
      have := wrC_eq hr; subst this
      simp [Nat.add_comm]
  | z :: zs, off + 1, ds, r, h => by
    rw [wrC] at h
    cases hr : wrC zs off ds with
    | none => rw [hr] at h; cases h
    | some r' =>
      rw [hr] at h; cases h
      have := wrC_eq hr; subst this
      simp [Nat.add_right_comm]
/-- The cells of a struct written out, and what must hold of the fields' places and sizes. -/
def bldC (T : List (Nat × AV)) (O : List AObj) (offs : List Nat) : List AV → List (Nat × Operand) → Option (List AV × List (Nat × Nat × Nat))
  | zs, [] => some (zs, [])
  | zs, (i, x) :: r => match offs[i]? with
    | none => none
    | some off => match (av T x).force with
      | none => none
      | some V => match cellsV O V with
        | none => none
        | some ds => match Nat.ble (off + ds.length) zs.length with
          | false => none
          | true => match wrC zs off ds with
            | none => none
            | some zs' => match bldC T O offs zs' r with
              | none => none
              | some (cs, q) => some (cs, (i, off, ds.length) :: q)
def buildB (P : Program) (t : TypeId) (q : List (Nat × Nat × Nat)) : Bool := match P.underlying t with
  | some (.struct fs) => match fs.toList.mapM (fun f => (P.info? f.type).map fun i => (f.offset, i.size)) with
    | some places => q.all fun r => match places[r.1]? with | some p => Nat.beq p.1 r.2.1 && Nat.beq p.2 r.2.2 | none => false
    | none => false
  | _ => false

theorem lrel_nil_of {S : Nat → Prop} {w : World} {ι : Nat → Spot} {O : List AObj} {cs vs g} (h : LRel S w ι O cs vs g) (hg : ∀ b ∈ g, b ∈ ([] : List Nat)) : LRel S w ι O cs vs [] := by
  have : g = [] := List.eq_nil_iff_forall_not_mem.2 fun b hb => by cases hg b hb
  subst this; exact h
theorem bldC_rel {n m G S ι F T O a w} (hr : RelAt n m G S ι F ⟨T, O⟩ a w) {offs : List Nat} (places : Nat → Option (Nat × Nat)) : ∀ {parts : List (Nat × Operand)} {zs cs : List AV} {q : List (Nat × Nat × Nat)} {us : Array Value}, bldC T O offs zs parts = some (cs, q) → (∀ r ∈ q, places r.1 = some r.2) →
    LRel S w ι O zs us.toList [] → ∃ out : Array Value, Instr.fill places us (parts.map fun p => (p.1, a.eval p.2)) = some out ∧ LRel S w ι O cs out.toList []
  | [], zs, cs, q, us, h, hq, hl => by
    simp only [bldC, Option.some.injEq, Prod.mk.injEq] at h
    obtain ⟨rfl, rfl⟩ := h
    exact ⟨us, rfl, hl⟩
  | (i, x) :: parts, zs, cs, q, us, h, hq, hl => by
    simp only [bldC] at h
    split at h
    · cases h
    rename_i off hoff
    split at h
    · cases h
    rename_i V hV
    split at h
    · cases h
    rename_i ds hds
    split at h
    · cases h
    rename_i hble
    split at h
    · cases h
    rename_i zs' hzs
    split at h
    · cases h
    rename_i cs' q' hrest
    cases h
    have hp := hq (i, off, ds.length) (by simp)
    have hv := hr.eval x
    rw [show av (St.mk T O).T x = V from AV.force_eq hV] at hv
    have hc := cellsV_rel hv hds
    have hlen := hc.len
    have hzl : zs.length = us.size := by simpa using hl.len
    have hle := Nat.le_of_ble_eq_true hble
    have e := wrC_eq hzs
    have hsz : (a.eval x).cells.size = ds.length := by rw [hlen]; simp
    have hf := fold_set (a.eval x).cells.toList 0 off us (by rw [← hlen]; omega)
    obtain ⟨g1, t1, k1, _⟩ := hl.take off
    obtain ⟨g2, t2, k2, _⟩ := hl.drop (off + ds.length)
    have l1 := lrel_nil_of t1 k1
    have l2 := lrel_nil_of t2 k2
    have hnew : LRel S w ι O zs' ((((a.eval x).cells.toList.zipIdx 0).foldl (fun cs (c, q) => cs.setIfInBounds (off + q) c) us).toList) [] := by
      rw [hf, e, ← hlen]
      simpa using (l1.append hc).append l2
    have hz : (a.eval x).cells.zipIdx.foldl (fun cs (c, q) => cs.setIfInBounds (off + q) c) us = ((a.eval x).cells.toList.zipIdx 0).foldl (fun cs (c, q) => cs.setIfInBounds (off + q) c) us := by
      rw [← Array.foldl_toList, Array.toList_zipIdx]
    rw [← hz] at hnew
    obtain ⟨out, ho, hlo⟩ := bldC_rel hr places hrest (fun r hr => hq r (by simp [hr])) hnew
    refine ⟨out, ?_, hlo⟩
    simp only [List.map_cons]
    rw [Instr.fill, hp]
    have hng : ¬ (off + ds.length > us.size) := by omega
    simp only [hsz, ne_eq, not_true_eq_false, decide_false, hng, Bool.or_false, Bool.false_eq_true, if_false]
    exact ho
section
variable {P : Program} {n m : Nat} {md : Bool} {G : Ctx} {T : List (Nat × AV)} {O : List AObj} {Q : Exit → St → Prop} {ops : Array Oper} {l : List Oper} {d : Nat} {tt : TypeId} {pos : String} {after : Array Edge} {tab : List (Nat × Ty)}
theorem WpL.build (hP : TabOk P tab) {t k : Nat} {offs : List Nat} {zs cs : List AV} {parts : List (Nat × Operand)} {q : List (Nat × Nat × Nat)} (ht : tlook tab t = some (.struct offs k zs)) (hc : bldC T O offs zs parts = some (cs, q)) (hb : buildB P t q = true) (hn : d < n)
    (h : WpL P n m G md ops l ⟨(d, .agg cs) :: T, O⟩ Q) :
    WpL P n m G md ops ({ dst := some d, op := .build t parts.toArray, type := tt, pos := pos, after := after, guard := none } :: l) ⟨T, O⟩ Q :=
  WpL.pure rfl rfl hn (fun S ι F a w hr => by
    obtain ⟨fs, hu, ⟨z, hz, hzk, hzs⟩, _⟩ := hP.ty ht
    unfold buildB at hb
    rw [hu] at hb
    simp only at hb
    split at hb
    · rename_i places hpl
      have hq : ∀ r ∈ q, (fun i => places.toArray[i]?) r.1 = some r.2 := by
        intro r hr
        have := List.all_eq_true.1 hb r hr
        show places.toArray[r.1]? = some r.2
        simp only [List.getElem?_toArray]
        split at this
        · rename_i p hp
          simp only [Bool.and_eq_true] at this
          rw [hp]; exact congrArg some (Prod.ext (Nat.eq_of_beq_eq_true this.1) (Nat.eq_of_beq_eq_true this.2))
        · cases this
      have hl0 : LRel S w ι O zs z.cells.toList [] := by rw [hzs]; exact lrel_zav _
      obtain ⟨out, ho, hl⟩ := bldC_rel hr _ hc hq hl0
      refine ⟨.agg out, ?_, ?_⟩
      · have hbt : P.built t ((parts.toArray.map fun (i, x) => (i, a.eval x)).toList) = some out := by
          unfold Program.built
          cases hit : P.info? t with
          | none => rw [hit] at hz; simp at hz
          | some it =>
            rw [hit] at hz
            simp only [Option.map_some, Option.some.injEq, Prod.mk.injEq] at hz
            simp only [hu, hz.1, hpl]
            rw [Array.toList_map]; exact ho
        have hrun := run_build w t (parts.toArray.map fun (i, x) => (i, a.eval x)) out hbt
        simp only [execOp, Sem.run_bind]
        simp at hrun ⊢
        rw [hrun]; rfl
      · have := LRel.agg (us := out.toList) hl .nil
        simpa using this
    · cases hb) h
/-- A row of a slice of slices of numbers. -/
theorem WpL.loadLi (hP : TabOk P tab) {t : TypeId} {x : Operand} {ty : Ty} {off : Nat} {M : List (List Int)} (ht : tlook tab t = some ty) (hp : ty.plain = true) (hm : Abs.reg O (av T x) = some (rows liI M, off)) (hi : off < M.length) (hn : d < n)
    (h : WpL P n m G false ops l ⟨(d, .imm 1 (M.getD off default).length (ints (M.getD off default))) :: T, O⟩ Q) :
    WpL P n m G false ops ({ dst := some d, op := .load t x, type := tt, pos := pos, after := after, guard := none } :: l) ⟨T, O⟩ Q := by
  have hg := rows_get (f := liI) (k := 1) (o := 0) (V := .imm 1 (M.getD off default).length (ints (M.getD off default))) (fun _ => rfl) hi rfl
  rw [show off * 1 + 0 = off by omega] at hg
  exact WpL.load1 hP ht hp hm hg rfl hn h
end
/-- Whether the operations of the head that may make objects wait for each other, one behind the other. -/
def mayMake (o : Oper) : Bool := match o.op with
  | .makeSlice .. => true
  | .buildSlice .. => true
  | .alloc .. => true
  | .box .. => true
  | .call c => match c.callee with
    | .builtin _ => false
    | _ => true
  | _ => false
def ancs (ops : Array Oper) (k : Nat) : List (List Nat) := (List.range k).foldl (fun acc i => acc ++ [match ops[i]? with
  | some o => ((o.after.toList.filter fun e => Region.binds .any e).flatMap fun e => e.on :: acc.getD e.on []).eraseDups
  | none => []]) []
def ordP (ops : Array Oper) (k : Nat) : Bool := let A := ancs ops k; (List.range k).all fun i => match ops[i]? with
  | some o => !mayMake o || (List.range i).all fun j => match ops[j]? with
    | some u => !mayMake u || (A.getD i []).any fun q => Nat.beq q j
    | none => true
  | none => true
theorem WpA.regionNO {P : Program} {n m : Nat} {G : Ctx} {T0 : List (Nat × AV)} {l l1 l2 : List Oper} {id : Nat} {O O' : List AObj} {out : List Fact} {oc T1 : List (Nat × AV)} {c0 : Nat} {Q : Exit → St → Prop} (k : Nat) (hm : P.follows .mixedOrders = true) (hB : (mixB l.toArray k && bareN l.toArray k && ordP l.toArray k) = true)
    (hl : takeF k l = some l1) (hc : cnt O.length 0 = some c0) (hJ : HeadN P n m G l.toArray T0 c0 O [] l1 O' out) (hnd : TrueB (nodupB (out.map (·.1)))) (hfr : TrueB (out.all fun p => !has T0 p.1))
    (ho : factsF out = some oc) (hT1 : catF oc T0 = some T1) (h2 : l.drop k = l2) (h : WpL P n m G false l.toArray l2 ⟨T1, O'⟩ Q) : WpA P n m G (.region id l.toArray true) ⟨T0, O⟩ Q :=
  WpA.regionNB k hm (by simp only [Bool.and_eq_true] at hB ⊢; exact hB.1) hl hc hJ hnd hfr ho hT1 h2 h
end Go.Abs

/- Room made ahead: append of zeros to a nil slice, the capacity of a nil slice, the empty beginning of a slice. No condition. -/
namespace Go.Abs
open Go
set_option linter.unusedVariables false
set_option linter.unusedSimpArgs false
section
variable {P : Program} {n m : Nat} {G : Ctx} {T : List (Nat × AV)} {O : List AObj} {Q : Exit → St → Prop} {ops : Array Oper} {l : List Oper} {d : Nat} {md : Bool} {tt : TypeId} {pos : String} {after : Array Edge} {tab : List (Nat × Ty)}
theorem WpL.capNil {t e : TypeId} {x : Operand} (ht : P.underlying t = some (.slice e)) (hx : av T x = .nilS) (hn : d < n)
    (h : WpL P n m G md ops l ⟨(d, .sc (.int .i64 0)) :: T, O⟩ Q) :
    WpL P n m G md ops ({ dst := some d, op := .call { callee := .builtin .cap, args := #[x], argTypes := #[t] }, type := tt, pos := pos, after := after, guard := none } :: l) ⟨T, O⟩ Q :=
  WpL.pure rfl rfl hn (fun S ι F a w hr => by
    have hv := hr.eval x
    rw [show av (St.mk T O).T x = _ from hx] at hv
    have hxe := (LRel.slice_len hv).2.2 rfl
    refine ⟨.int .i64 0, ?_, .sc .nil⟩
    have : (Builtin.cap_ #[t] tt #[.slice none 0 0]).run P w = .ok (.int .i64 0) w := by simp [Builtin.cap_, run_underlying ht, goInt]
    simp [execOp, resolve, invoke, builtin, hxe, this, Sem.run_bind]) h
theorem WpL.subNil (hP : TabOk P tab) {t e k b : Nat} {zs : List AV} {x y : Operand} {kk : IntKind} (ht : tlook tab t = some (.slice e k b zs)) (hx : av T x = .nilS) (hy : av T y = .sc (.int kk 0)) (hn : d < n)
    (h : WpL P n m G md ops l ⟨(d, .nilS) :: T, O⟩ Q) :
    WpL P n m G md ops ({ dst := some d, op := .slice t x none (some y) none, type := tt, pos := pos, after := after, guard := none } :: l) ⟨T, O⟩ Q :=
  WpL.pure rfl rfl hn (fun S ι F a w hr => by
    obtain ⟨hu, inf, z, hinf, _, hk, _, _, hk0, _⟩ := hP.slice ht
    have hv := hr.eval x
    rw [show av (St.mk T O).T x = _ from hx] at hv
    have hxe := (LRel.slice_len hv).2.2 rfl
    have hye := hr.sc hy
    refine ⟨.slice none 0 0, ?_, .nilS .nil⟩
    have hrun : (Instr.sliceAt t (.slice none 0 0) none (some (.int kk 0)) none).run P w = .ok (.slice none 0 0) w := by
      simp [Instr.sliceAt, Instr.slice, run_underlying hu, Instr.sliceBounds, Instr.sliceBound, asIntOf, run_sizeOf hinf hk, Sem.run_bind]
    simp [execOp, hxe, hye, hrun, Sem.run_bind]) h
/-- The empty beginning of a slice of the call's own. -/
theorem WpL.subOwn0 (hP : TabOk P tab) {t e k b : Nat} {zs : List AV} {x y : Operand} {kk : IntKind} {id ep len : Nat} {ob : AObj} (ht : tlook tab t = some (.slice e k b zs)) (hx : av T x = .own id ep 0 len) (ho : O[id]? = some ob) (he : ob.ep = ep) (hy : av T y = .sc (.int kk 0)) (hn : d < n)
    (h : WpL P n m G md ops l ⟨(d, .own id ep 0 0) :: T, O⟩ Q) :
    WpL P n m G md ops ({ dst := some d, op := .slice t x none (some y) none, type := tt, pos := pos, after := after, guard := none } :: l) ⟨T, O⟩ Q :=
  WpL.pure rfl rfl hn (fun S ι F a w hr => by
    obtain ⟨hu, inf, z, hinf, _, hk, _, _, hk0, _⟩ := hP.slice ht
    have hv := hr.eval x
    rw [show av (St.mk T O).T x = _ from hx] at hv
    have hye := hr.sc hy
    have hown : OwnAt (ι id) ob.size 0 len (a.eval x) := by
      cases hv with
      | own q1 q2 q3 r =>
        rw [show (St.mk T O).O[id]? = some ob from ho] at q1
        cases q1
        exact q3 he.symm
    cases hs : ι id with
    | none =>
      rw [hs] at hown
      obtain ⟨hxe, _, _⟩ := hown
      refine ⟨.slice none 0 0, ?_, .own ho (by omega) (fun _ => by rw [hs]; exact ⟨rfl, rfl, rfl⟩) .nil⟩
      have hrun : (Instr.sliceAt t (.slice none 0 0) none (some (.int kk 0)) none).run P w = .ok (.slice none 0 0) w := by
        simp [Instr.sliceAt, Instr.slice, run_underlying hu, Instr.sliceBounds, Instr.sliceBound, asIntOf, run_sizeOf hinf hk, Sem.run_bind]
      simp [execOp, hxe, hye, hrun, Sem.run_bind]
    | some p =>
      obtain ⟨bb, kb⟩ := p
      rw [hs] at hown
      obtain ⟨cap, hxe, h1, h2, h3⟩ := hown
      have hrun := run_sliceSl hu hinf hk ⟨bb, 0, none⟩ len cap none (some (.int kk 0)) 0 0 (.inl ⟨rfl, rfl⟩) (.inr ⟨kk, rfl⟩) (by omega) w
      have e1 : (if cap = 0 then (⟨bb, 0, none⟩ : Addr) else (⟨bb, 0, none⟩ : Addr).add (0 * k)) = ⟨bb, 0, none⟩ := by
        split
        · rfl
        · rw [addr_add]; simp
      rw [e1, Nat.sub_zero, Nat.sub_zero] at hrun
      refine ⟨.slice (some ⟨bb, 0, none⟩) 0 cap, by simp [execOp, hxe, hye, hrun, Sem.run_bind], .own ho (by omega) (fun _ => by rw [hs]; exact ⟨cap, rfl, h1, Nat.zero_le _, h3⟩) .nil⟩) h
/-- append of so many zeros to a nil slice; its cells are left unsaid. -/
theorem WpL.appZeros (hP : TabOk P tab) {t u e k b id : Nat} {zs : List AV} {x y : Operand} {kn : IntKind} {p : Nat} (ht : tlook tab t = some (.slice e k b zs)) (hut : tlook tab u = some (.int kn)) (hx : av T x = .nilS) (hy : av T y = .sc (.int .i64 p))
    (hp : 0 < p) (hb : p * b ≤ 140737488355328 ∧ p ≤ 9223372036854775807) (hid : nid O 0 = some id) (hn : d < n)
    (h : WpL P n m G false ops l ⟨(d, .own id 0 0 p) :: T, O ++ [⟨[], 0, k, some e⟩]⟩ Q) :
    WpL P n m G false ops ({ dst := some d, op := .call { callee := .builtin .append, args := #[x, y], argTypes := #[t, u] }, type := tt, pos := pos, after := after, guard := none } :: l) ⟨T, O⟩ Q :=
  WpL.value rfl (fun a w hr => by
    obtain ⟨S, ι, F, hr⟩ := hr
    have hid : id = O.length := by have := nid_eq hid; omega
    subst hid
    obtain ⟨hu, i, z, hi, hz, hk, hby, hzk, hk0, _⟩ := hP.slice ht
    have htn := (hP.ty hut).1
    have hv := hr.eval x
    rw [show av (St.mk T O).T x = _ from hx] at hv
    have hxe := (LRel.slice_len hv).2.2 rfl
    have hye := hr.sc hy
    have hrun := Lib.run_append_nil_zeros (P := P) w t u tt e i z .i64 kn hu htn hi hz p hp (by omega) (by omega) (by rw [hby]; omega)
    have hcap := grownCap_ge w p 0 e
    have hcm := grownCap_le_maxLen w p 0 e (by simp only [maxLen]; omega)
    have hsz : (Builtin.zeroCells z.cells p ++ Builtin.zeroCells z.cells (grownCap w p 0 e - p)).size = grownCap w p 0 e * k := by
      simp only [Array.size_append, zeroCells_size, hzk, ← Nat.add_mul]
      congr 1; omega
    have hr' := hr.alloc (ob := ⟨[], 0, k, some e⟩) (cur := Builtin.zeroCells z.cells p ++ Builtin.zeroCells z.cells (grownCap w p 0 e - p)) (t := e) (fz := (0, 0)) (adds_drew_alloc w _) (by simp; exact .nil) (by simp) (by simp) (by simp)
    refine ⟨.slice (some ⟨w.heap.size, 0, none⟩) p (grownCap w p 0 e), _, by simp only [execOp, resolve, invoke, builtin, Sem.run_bind, Sem.run_pure, Result.andThen_ok, List.map_toArray, List.map_cons, List.map_nil, hxe, hye, hrun], _, _, _, hr'.put hn ?_⟩
    exact own_new (ob := ⟨[], 0, k, some e⟩) hsz.symm hcap hcm) h
/-- A row that a slice of slices owns: it becomes an object of its own. -/
theorem WpL.loadOwnLi (hP : TabOk P tab) {t : TypeId} {x : Operand} {ty : Ty} {id ep sz off : Nat} {te : Option TypeId} {M : List (List Int)} (ht : tlook tab t = some ty) (hp : ty.plain = true) (hx : av T x = .ptr id ep off) (ho : O[id]? = some ⟨rows liF M, ep, sz, te⟩)
    (hi : off < M.length) (hn : d < n) {j : Nat} (hcnt : cnt O.length 0 = some j)
    (h : WpL P n m G false ops l ⟨(d, .own j 0 0 (M.getD off default).length) :: T, O.set id ⟨(rows liF M).set off (.own j 0 0 (M.getD off default).length), ep, sz, te⟩ ++ [⟨ints (M.getD off default), 0, 1, none⟩]⟩ Q) :
    WpL P n m G false ops ({ dst := some d, op := .load t x, type := tt, pos := pos, after := after, guard := none } :: l) ⟨T, O⟩ Q := by
  have e : off * 1 + 0 = off := by omega
  refine WpL.loadOwn (f := liF) (xs := M) (i := off) (k := 1) (o := 0) (s := 1) (len := (M.getD off default).length) (cs := ints (M.getD off default)) hP ht hp (by rw [e]; exact hx) ho (fun _ => rfl) rfl hi hn hcnt ?_
  rw [e]; exact h
end
end Go.Abs
