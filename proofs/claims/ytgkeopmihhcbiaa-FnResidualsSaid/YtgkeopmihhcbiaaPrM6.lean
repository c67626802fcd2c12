/- Proved in this text: lemmas and contracts of functions that the claim uses (parts: AbsS, AbsT). No condition. -/
import Derived.Test.YtgkeopmihhcbiaaPrM5

/- Slices of structs: their cells in rows, one row an element; rules that read, write and append rows, also rows that own a slice. No condition. -/
namespace Go.Abs
open Go
set_option linter.unusedVariables false
set_option linter.unusedSimpArgs false

def rows {α : Type} (f : α → List AV) (l : List α) : List AV := l.flatMap f
section
variable {α : Type} {f : α → List AV} {k : Nat}
theorem rows_cons (a : α) (l : List α) : rows f (a :: l) = f a ++ rows f l := by simp [rows]
theorem rows_append (a b : List α) : rows f (a ++ b) = rows f a ++ rows f b := by simp [rows]
theorem rows_one (a : α) : rows f [a] = f a := by simp [rows]
theorem rows_len (hk : ∀ a, (f a).length = k) (l : List α) : (rows f l).length = l.length * k := by
  induction l with
  | nil => simp [rows]
  | cons a l ih => rw [rows_cons, List.length_append, hk, ih, List.length_cons, Nat.add_mul]; omega
theorem rows_rep {zs : List AV} {z : α} (h : f z = zs) (n : Nat) : (List.replicate n zs).flatten = rows f (List.replicate n z) := by
  subst h; induction n with
  | zero => rfl
  | succ n ih => rw [List.replicate_succ, List.replicate_succ, List.flatten_cons, rows_cons, ih]
theorem rows_put (hk : ∀ a, (f a).length = k) {l : List α} {i : Nat} (h : i < l.length) (b : α) : rows f (l.set i b) = rows f (l.take i) ++ (f b ++ rows f (l.drop (i + 1))) := by
  rw [List.set_eq_take_append_cons_drop, if_pos h, rows_append, rows_cons]
variable [Inhabited α]
theorem rows_split {l : List α} {i : Nat} (h : i < l.length) : rows f l = rows f (l.take i) ++ (f (l.getD i default) ++ rows f (l.drop (i + 1))) := by
  have e : l = l.take i ++ (l[i] :: l.drop (i + 1)) := by rw [← List.drop_eq_getElem_cons h, List.take_append_drop]
  have e2 : l.getD i default = l[i] := by simp [h]
  rw [e2]
  conv => lhs; rw [e]
  rw [rows_append, rows_cons]
theorem rows_get (hk : ∀ a, (f a).length = k) {l : List α} {i o : Nat} {V : AV} (h : i < l.length) (hv : (f (l.getD i default))[o]? = some V) : (rows f l)[i * k + o]? = some V := by
  have ho : o < k := by rw [← hk (l.getD i default)]; exact (List.getElem?_eq_some_iff.1 hv).1
  have h1 : (rows f (l.take i)).length = i * k := by rw [rows_len hk, List.length_take, Nat.min_eq_left (by omega)]
  rw [rows_split h, List.getElem?_append_right (by omega), h1, Nat.add_sub_cancel_left, List.getElem?_append_left (by rw [hk]; exact ho)]
  exact hv
theorem rows_row (hk : ∀ a, (f a).length = k) {l : List α} {i : Nat} (h : i < l.length) : ((rows f l).drop (i * k)).take k = f (l.getD i default) := by
  have h1 : (rows f (l.take i)).length = i * k := by rw [rows_len hk, List.length_take, Nat.min_eq_left (by omega)]
  rw [rows_split h, List.drop_left' h1, List.take_left' (hk _)]
theorem rows_set (hk : ∀ a, (f a).length = k) {l : List α} {i o : Nat} {V : AV} (h : i < l.length) (ho : o < k) {b : α} (hb : (f (l.getD i default)).set o V = f b) : (rows f l).set (i * k + o) V = rows f (l.set i b) := by
  have h1 : (rows f (l.take i)).length = i * k := by rw [rows_len hk, List.length_take, Nat.min_eq_left (by omega)]
  rw [rows_put hk h, rows_split h, List.set_append_right _ _ (by omega), h1, Nat.add_sub_cancel_left, List.set_append_left _ _ (by rw [hk]; exact ho), hb]
theorem setL_mid (A D : List AV) : ∀ (Vs B : List AV), B.length = Vs.length → setL (A ++ (B ++ D)) A.length Vs = A ++ (Vs ++ D) := by
  intro Vs
  induction Vs generalizing A with
  | nil => intro B hB; have : B = [] := List.eq_nil_of_length_eq_zero (by simpa using hB); subst this; rfl
  | cons V Vs ih =>
    intro B hB
    cases B with
    | nil => simp at hB
    | cons b B =>
      rw [setL, List.set_append_right _ _ (Nat.le_refl _), Nat.sub_self]
      simp only [List.cons_append, List.set_cons_zero]
      have := ih (A ++ [V]) B (by simpa using hB)
      simp only [List.append_assoc, List.cons_append, List.nil_append, List.length_append, List.length_cons, List.length_nil] at this
      exact this
theorem rows_setL (hk : ∀ a, (f a).length = k) {l : List α} {i : Nat} (h : i < l.length) (b : α) : setL (rows f l) (i * k) (f b) = rows f (l.set i b) := by
  have h1 : (rows f (l.take i)).length = i * k := by rw [rows_len hk, List.length_take, Nat.min_eq_left (by omega)]
  rw [rows_put hk h, rows_split h, ← h1]
  exact setL_mid _ _ _ _ (by rw [hk, hk])
end

theorem still_rows {α : Type} {f : α → List AV} (h : ∀ a, (f a).all AV.still = true) (l : List α) : (rows f l).all AV.still = true := by
  unfold rows; rw [List.all_flatMap]; rw [List.all_eq_true]; intro a _; exact h a
theorem nofre_rows {α : Type} {f : α → List AV} (h : ∀ a, (f a).all AV.nofre = true) (l : List α) : (rows f l).all AV.nofre = true := by
  unfold rows; rw [List.all_flatMap]; rw [List.all_eq_true]; intro a _; exact h a
theorem Loc.append {a b : List AV} (h1 : Loc a) (h2 : Loc b) : Loc (a ++ b) := by
  induction h1 with
  | nil => exact h2
  | any _ ih => exact .any ih
  | sc _ ih => exact .sc ih
  | nilS _ ih => exact .nilS ih
  | own _ ih => exact .own ih
  | fre h _ _ ih => exact .fre h ih
  | agg h _ _ ih => exact .agg h ih
  | tup h _ _ ih => exact .tup h ih
theorem Loc.rows {α : Type} {f : α → List AV} (h : ∀ a, Loc (f a)) (l : List α) : Loc (rows f l) := by
  induction l with
  | nil => exact .nil
  | cons a l ih => rw [rows_cons]; exact Loc.append (h a) ih
theorem Snap.append {O : List AObj} {a b c d : List AV} (h1 : Snap O a c) (h2 : Snap O b d) : Snap O (a ++ b) (c ++ d) := by
  induction h1 with
  | nil => exact h2
  | any _ ih => exact .any ih
  | keep p q _ ih => exact .keep p q ih
  | nilI _ ih => exact .nilI ih
  | own p q r s t u _ _ ih => exact .own p q r s t u ih
  | fre h _ _ ih => exact .fre h ih
  | ptr p q h _ _ ih => exact .ptr p q h ih
  | agg h _ _ ih => exact .agg h ih
  | fn h _ _ ih => exact .fn h ih
theorem Snap.rows {α : Type} {O : List AObj} {f g : α → List AV} (h : ∀ a, Snap O (f a) (g a)) (l : List α) : Snap O (rows f l) (rows g l) := by
  induction l with
  | nil => exact .nil
  | cons a l ih => rw [rows_cons, rows_cons]; exact Snap.append (h a) ih

section
variable {P : Program} {n m : Nat} {G : Ctx} {T : List (Nat × AV)} {O : List AObj} {Q : Exit → St → Prop} {ops : Array Oper} {l : List Oper} {d : Nat} {tt : TypeId} {pos : String} {after : Array Edge} {tab : List (Nat × Ty)} {md : Bool}
variable {α : Type} [Inhabited α] {f : α → List AV} {k i : Nat} {xs : List α}

/-! Addresses of elements, their places told by a natural number. -/
theorem WpL.idxIN (hP : TabOk P tab) {t e b : Nat} {zs cs : List AV} {x y : Operand} {len i k : Nat} {kk : IntKind} (ht : tlook tab t = some (.slice e k b zs)) (hx : av T x = .imm k len cs) (hy : av T y = .sc (.int kk (i : Int)))
    (hj : i < len) (hn : d < n) (h : WpL P n m G md ops l ⟨(d, .iptr cs (i * k)) :: T, O⟩ Q) :
    WpL P n m G md ops ({ dst := some d, op := .indexAddr t x y, type := tt, pos := pos, after := after, guard := none } :: l) ⟨T, O⟩ Q :=
  WpL.idxI hP ht hx hy (by omega) hn (by simpa using h)
theorem WpL.idxON (hP : TabOk P tab) {t e b : Nat} {zs : List AV} {x y : Operand} {id ep len i k : Nat} {ob : AObj} {kk : IntKind} (ht : tlook tab t = some (.slice e k b zs)) (hx : av T x = .own id ep 0 len)
    (ho : O[id]? = some ob) (he : ob.ep = ep) (hy : av T y = .sc (.int kk (i : Int))) (hj : i < len) (hn : d < n) (h : WpL P n m G md ops l ⟨(d, .ptr id ep (i * k)) :: T, O⟩ Q) :
    WpL P n m G md ops ({ dst := some d, op := .indexAddr t x y, type := tt, pos := pos, after := after, guard := none } :: l) ⟨T, O⟩ Q :=
  WpL.idxO hP ht hx ho he hy (by omega) hn (by simpa using h)

theorem WpL.idxIJ (hP : TabOk P tab) {t e b : Nat} {zs cs : List AV} {x y : Operand} {len : Nat} {j : Int} {kk : IntKind} (ht : tlook tab t = some (.slice e 1 b zs)) (hx : av T x = .imm 1 len cs) (hy : av T y = .sc (.int kk j))
    (hj : 0 ≤ j ∧ j < len) (hn : d < n) (h : WpL P n m G md ops l ⟨(d, .iptr cs j.toNat) :: T, O⟩ Q) :
    WpL P n m G md ops ({ dst := some d, op := .indexAddr t x y, type := tt, pos := pos, after := after, guard := none } :: l) ⟨T, O⟩ Q :=
  WpL.idxI hP ht hx hy hj hn (by simpa using h)
theorem WpL.idxOJ (hP : TabOk P tab) {t e b : Nat} {zs : List AV} {x y : Operand} {id ep len : Nat} {ob : AObj} {j : Int} {kk : IntKind} (ht : tlook tab t = some (.slice e 1 b zs)) (hx : av T x = .own id ep 0 len)
    (ho : O[id]? = some ob) (he : ob.ep = ep) (hy : av T y = .sc (.int kk j)) (hj : 0 ≤ j ∧ j < len) (hn : d < n) (h : WpL P n m G md ops l ⟨(d, .ptr id ep j.toNat) :: T, O⟩ Q) :
    WpL P n m G md ops ({ dst := some d, op := .indexAddr t x y, type := tt, pos := pos, after := after, guard := none } :: l) ⟨T, O⟩ Q :=
  WpL.idxO hP ht hx ho he hy hj hn (by simpa using h)

/-! An element, and a field of one. -/
theorem WpL.loadRow (hP : TabOk P tab) {t : TypeId} {x : Operand} {offs : List Nat} {zs : List AV} (ht : tlook tab t = some (.struct offs k zs)) (hm : Abs.reg O (av T x) = some (rows f xs, i * k)) (hk : ∀ a, (f a).length = k)
    (hf : ∀ a, (f a).all AV.nofre = true) (hi : i < xs.length) (hn : d < n) {ds : List AV} (hds : catF (f (xs.getD i default)) [] = some ds) (h : WpL P n m G md ops l ⟨(d, .agg ds) :: T, O⟩ Q) :
    WpL P n m G md ops ({ dst := some d, op := .load t x, type := tt, pos := pos, after := after, guard := none } :: l) ⟨T, O⟩ Q := by
  have e := catF_eq hds
  rw [List.append_nil] at e
  subst e
  exact WpL.loadAgg hP ht hm (rows_row hk hi) (hk _) (hf _) hn h
theorem WpL.loadField (hP : TabOk P tab) {t : TypeId} {x : Operand} {ty : Ty} {o : Nat} {V : AV} (ht : tlook tab t = some ty) (hp : ty.plain = true) (hm : Abs.reg O (av T x) = some (rows f xs, i * k + o)) (hk : ∀ a, (f a).length = k)
    (hv : (f (xs.getD i default))[o]? = some V) (hf : V.nofre = true) (hi : i < xs.length) (hn : d < n) (h : WpL P n m G md ops l ⟨(d, V) :: T, O⟩ Q) :
    WpL P n m G md ops ({ dst := some d, op := .load t x, type := tt, pos := pos, after := after, guard := none } :: l) ⟨T, O⟩ Q :=
  WpL.load1 hP ht hp hm (rows_get hk hi hv) hf hn h

/-- A field that owns a slice: the slice becomes an object of its own, which the field names. -/
theorem WpL.loadOwn (hP : TabOk P tab) {t : TypeId} {x : Operand} {ty : Ty} {id ep sz o s len : Nat} {te : Option TypeId} {cs : List AV} (ht : tlook tab t = some ty) (hp : ty.plain = true) (hx : av T x = .ptr id ep (i * k + o)) (ho : O[id]? = some ⟨rows f xs, ep, sz, te⟩) (hk : ∀ a, (f a).length = k)
    (hv : (f (xs.getD i default))[o]? = some (.fre s len cs)) (hi : i < xs.length) (hn : d < n) {j : Nat} (hcnt : cnt O.length 0 = some j)
    (h : WpL P n m G false ops l ⟨(d, .own j 0 0 len) :: T, O.set id ⟨(rows f xs).set (i * k + o) (.own j 0 0 len), ep, sz, te⟩ ++ [⟨cs, 0, s, none⟩]⟩ Q) :
    WpL P n m G false ops ({ dst := some d, op := .load t x, type := tt, pos := pos, after := after, guard := none } :: l) ⟨T, O⟩ Q := by
  have hj := cnt_eq hcnt
  rw [Nat.add_zero] at hj
  subst hj
  have hg := rows_get hk hi hv
  have hlt := (List.getElem?_eq_some_iff.1 hg).1
  have hidl := (List.getElem?_eq_some_iff.1 ho).1
  refine WpL.weak (σ' := ⟨T, O.set id ⟨(rows f xs).set (i * k + o) (.own O.length 0 0 len), ep, sz, te⟩ ++ [⟨cs, 0, s, none⟩]⟩) ?_ ?_
  · rintro n' G' a w ⟨S, ι, F, hr⟩
    obtain ⟨ι', F', hr'⟩ := hr.unnest ho hg
    exact ⟨S, ι', F', hr'⟩
  · refine WpL.load1 hP ht hp (off := i * k + o) (cells := (rows f xs).set (i * k + o) (.own O.length 0 0 len)) ?_ (V := .own O.length 0 0 len) ?_ rfl hn h
    · rw [hx]
      have : (O.set id ⟨(rows f xs).set (i * k + o) (.own O.length 0 0 len), ep, sz, te⟩ ++ [⟨cs, 0, s, none⟩])[id]? = some ⟨(rows f xs).set (i * k + o) (.own O.length 0 0 len), ep, sz, te⟩ := by
        rw [List.getElem?_append_left (by simpa using hidl)]; simp [hidl]
      simp only [Abs.reg, this, Nat.beq_refl]
    · simp [hlt]

/-- A cell's own slice, named by an object's number, becomes the cell's. -/
theorem Weak.nest {id j off epj len : Nat} {ob oj : AObj} (ho : O[id]? = some ob) (hj : O[j]? = some oj) (hne : Nat.beq id j = false) (hm : m ≤ j) (hc : ob.cells[off]? = some (.own j epj 0 len)) (hep : oj.ep = epj) (hst : oj.cells.all AV.still = true) (hlen : len * oj.size = oj.cells.length) :
    Weak m ⟨T, O⟩ ⟨T, (O.set id ⟨ob.cells.set off (.fre oj.size len oj.cells), ob.ep, ob.size, ob.ty⟩).set j ⟨[], oj.ep + 1, 0, none⟩⟩ := by
  rintro n' G' a w ⟨S, ι, F, hr⟩
  obtain ⟨F', hr'⟩ := hr.nest ho hj (by rintro rfl; rw [Nat.beq_refl] at hne; cases hne) hm hc hep hst hlen
  exact ⟨S, _, F', hr'⟩
theorem Weak.trans {m : Nat} {σ σ' σ'' : St} (h1 : Weak m σ σ') (h2 : Weak m σ' σ'') : Weak m σ σ'' := fun n G a w h => h2 n G a w (h1 n G a w h)

theorem Weak.nestRow {id j i k o epj len ep sz : Nat} {te : Option TypeId} {α : Type} [Inhabited α] {f : α → List AV} {xs : List α} {b : α} {oj : AObj} {σ' : St} (ho : O[id]? = some ⟨(rows f xs).set (i * k + o) (.own j epj 0 len), ep, sz, te⟩) (hj : O[j]? = some oj) (hne : Nat.beq id j = false) (hm : m ≤ j) (hep : oj.ep = epj)
    (hst : oj.cells.all AV.still = true) (hlen : len * oj.size = oj.cells.length) (hk : ∀ a, (f a).length = k) (hok : Nat.blt o k = true) (hi : i < xs.length) {len' : Nat} (hb : (f (xs.getD i default)).set o (.fre oj.size len' oj.cells) = f b) (hll : len = len')
    (h : Weak m ⟨T, (O.set id ⟨rows f (xs.set i b), ep, sz, te⟩).set j ⟨[], oj.ep + 1, 0, none⟩⟩ σ') : Weak m ⟨T, O⟩ σ' := by
  subst hll
  have hok : o < k := by simpa [Nat.blt_eq] using hok
  refine Weak.trans (Weak.nest (off := i * k + o) ho hj hne hm ?_ hep hst hlen) ?_
  · have : i * k + o < (rows f xs).length := by
      rw [rows_len hk]
      have : (i + 1) * k ≤ xs.length * k := Nat.mul_le_mul_right k hi
      rw [Nat.add_mul] at this; omega
    simp [this]
  · simp only [List.set_set]
    rw [rows_set hk hi hok hb]
    exact h
/-! Stores of a field and of a whole element. -/
theorem WpL.storeField (hP : TabOk P tab) {t : Nat} {ty : Ty} {x y : Operand} {id ep sz o : Nat} {te : Option TypeId} {V : AV} {b : α} (ht : tlook tab t = some ty) (hx : av T x = .ptr id ep (i * k + o)) (ho : O[id]? = some ⟨rows f xs, ep, sz, te⟩)
    (hy : (av T y).force = some V) (hone : oneB O V = true) (hna : cellsV O V = some [V]) (hcn : ty.cellsN = some 1) (hk : ∀ a, (f a).length = k) (hok : Nat.blt o k = true) (hi : i < xs.length) (hb : (f (xs.getD i default)).set o V = f b)
    (h : WpL P n m G false ops l ⟨T, O.set id ⟨rows f (xs.set i b), ep, sz, te⟩⟩ Q) :
    WpL P n m G false ops ({ dst := none, op := .store t x y, type := tt, pos := pos, after := after, guard := none } :: l) ⟨T, O⟩ Q := by
  have hok : o < k := by simpa [Nat.blt_eq] using hok
  refine WpL.store hP ht hx ho rfl hy hna hcn (by simp [hone]) ?_ ?_
  · simp only [List.length_cons, List.length_nil]
    rw [rows_len hk]
    have : (i + 1) * k ≤ xs.length * k := Nat.mul_le_mul_right k hi
    rw [Nat.add_mul] at this; omega
  · simp only [setL]; rw [rows_set hk hi hok hb]; exact h
theorem WpL.storeRow (hP : TabOk P tab) {t : Nat} {x y : Operand} {id ep sz : Nat} {te : Option TypeId} {offs : List Nat} {zs ds : List AV} {b : α} (ht : tlook tab t = some (.struct offs k zs)) (hx : av T x = .ptr id ep (i * k)) (ho : O[id]? = some ⟨rows f xs, ep, sz, te⟩)
    (hy : (av T y).force = some (.agg ds)) (hone : ds.all (oneB O) = true) (hk : ∀ a, (f a).length = k) (hb : ds = f b) (hi : i < xs.length)
    (h : WpL P n m G false ops l ⟨T, O.set id ⟨rows f (xs.set i b), ep, sz, te⟩⟩ Q) :
    WpL P n m G false ops ({ dst := none, op := .store t x y, type := tt, pos := pos, after := after, guard := none } :: l) ⟨T, O⟩ Q := by
  subst hb
  refine WpL.store hP ht hx ho rfl hy (Vs := f b) rfl (by rw [hk]; rfl) hone ?_ ?_
  · simp only; rw [hk, rows_len hk]
    have : (i + 1) * k ≤ xs.length * k := Nat.mul_le_mul_right k hi
    rw [Nat.add_mul] at this; omega
  · rw [rows_setL hk hi]; exact h

/-- An element that holds an own slice is stored; the slice becomes the element's. -/
theorem WpL.storeRowN (hP : TabOk P tab) {t : Nat} {x y : Operand} {id ep sz o j epj len : Nat} {te : Option TypeId} {offs : List Nat} {zs ds : List AV} {oj : AObj} {b : α} (ht : tlook tab t = some (.struct offs k zs)) (hx : av T x = .ptr id ep (i * k)) (ho : O[id]? = some ⟨rows f xs, ep, sz, te⟩)
    (hy : (av T y).force = some (.agg ds)) (hone : ds.all (oneB O) = true) (hd : ds[o]? = some (.own j epj 0 len)) (hj : O[j]? = some oj) (hne : Nat.beq id j = false) (hm : m ≤ j) (hep : oj.ep = epj) (hst : oj.cells.all AV.still = true) (hlen : len * oj.size = oj.cells.length)
    (hk : ∀ a, (f a).length = k) {len' : Nat} (hb : ds.set o (.fre oj.size len' oj.cells) = f b) (hll : len = len') (hi : i < xs.length)
    (h : WpL P n m G false ops l ⟨T, (O.set id ⟨rows f (xs.set i b), ep, sz, te⟩).set j ⟨[], oj.ep + 1, 0, none⟩⟩ Q) :
    WpL P n m G false ops ({ dst := none, op := .store t x y, type := tt, pos := pos, after := after, guard := none } :: l) ⟨T, O⟩ Q := by
  subst hll
  have hdl : ds.length = k := by have := congrArg List.length hb; rw [List.length_set, hk] at this; exact this
  have hok : o < k := by rw [← hdl]; exact (List.getElem?_eq_some_iff.1 hd).1
  have hidl := (List.getElem?_eq_some_iff.1 ho).1
  have hne' : id ≠ j := by rintro rfl; rw [Nat.beq_refl] at hne; cases hne
  have hrl : (rows f xs).length = xs.length * k := rows_len hk xs
  have hle : i * k + k ≤ (rows f xs).length := by
    rw [hrl]
    have : (i + 1) * k ≤ xs.length * k := Nat.mul_le_mul_right k hi
    rw [Nat.add_mul] at this; omega
  have h1 : (rows f (xs.take i)).length = i * k := by rw [rows_len hk, List.length_take, Nat.min_eq_left (by omega)]
  have hset : setL (rows f xs) (i * k) ds = rows f (xs.take i) ++ (ds ++ rows f (xs.drop (i + 1))) := by
    rw [rows_split hi, ← h1]; exact setL_mid _ _ _ _ (by rw [hk, hdl])
  refine WpL.store hP ht hx ho rfl hy (Vs := ds) rfl (by rw [hdl]; rfl) hone (by simp only; omega) ?_
  rw [hset]
  simp only
  refine WpL.weak (Weak.nest (id := id) (j := j) (off := i * k + o) (epj := epj) (len := len) (ob := ⟨rows f (xs.take i) ++ (ds ++ rows f (xs.drop (i + 1))), ep, sz, te⟩) (oj := oj) (by simp [hidl]) (by rw [List.getElem?_set, if_neg hne']; exact hj) hne hm ?_ hep hst hlen) ?_
  · simp only; rw [List.getElem?_append_right (by omega), h1, Nat.add_sub_cancel_left, List.getElem?_append_left (by omega)]; exact hd
  · simp only
    rw [List.set_append_right _ _ (by omega), h1, Nat.add_sub_cancel_left, List.set_append_left _ _ (by omega), hb, ← rows_put hk hi, List.set_set]
    exact h

end
/-! Appending an element. -/
section
variable {P : Program} {n m : Nat} {G : Ctx} {T : List (Nat × AV)} {O : List AObj} {Q : Exit → St → Prop} {ops : Array Oper} {l : List Oper} {d : Nat} {tt : TypeId} {pos : String} {after : Array Edge} {tab : List (Nat × Ty)} {md : Bool}
variable {α : Type} {f : α → List AV} {k i : Nat} {xs : List α}
theorem WpL.appRow (hP : TabOk P tab) {t e b : Nat} {zs ds : List AV} {x y : Operand} {id ep len : Nat} {Vy : AV} {v : α} (ht : tlook tab t = some (.slice e k b zs)) (hx : av T x = .own id ep 0 len) (ho : O[id]? = some ⟨rows f xs, ep, k, some e⟩) (hm : m ≤ id)
    (hy : (av T y).force = some Vy) (hs : srcB O Vy = some (ds, 1)) (hk : ∀ a, (f a).length = k) (hv : ds = f v) (hone : ds.all (oneB O) = true) (hol : xs.length = len) (hb : (len + 1) * b ≤ 140737488355328 ∧ len + 1 ≤ 9223372036854775807) (hn : d < n)
    (h : WpL P n m G false ops l ⟨(d, .own id (ep + 1) 0 (len + 1)) :: T, O.set id ⟨rows f (xs ++ [v]), ep + 1, k, some e⟩⟩ Q) :
    WpL P n m G false ops ({ dst := some d, op := .call { callee := .builtin .append, args := #[x, y], argTypes := #[t, t] }, type := tt, pos := pos, after := after, guard := none } :: l) ⟨T, O⟩ Q := by
  subst hv hol
  refine WpL.appOwn hP ht hx ho rfl rfl rfl (by simp only; rw [rows_len hk]) hm hy hs (by rw [hk, Nat.one_mul]) hone hb hn ?_
  rw [rows_append, rows_one] at h; exact h
theorem WpL.nilRow (hP : TabOk P tab) {t e b id : Nat} {zs ds : List AV} {x y : Operand} {Vy : AV} {v : α} (ht : tlook tab t = some (.slice e k b zs)) (hx : av T x = .nilS)
    (hy : (av T y).force = some Vy) (hs : srcB O Vy = some (ds, 1)) (hk : ∀ a, (f a).length = k) (hv : ds = f v) (hone : ds.all (oneB O) = true) (hb : b ≤ 140737488355328) (hid : nid O 0 = some id) (hn : d < n)
    (h : WpL P n m G false ops l ⟨(d, .own id 0 0 1) :: T, O ++ [⟨rows f [v], 0, k, some e⟩]⟩ Q) :
    WpL P n m G false ops ({ dst := some d, op := .call { callee := .builtin .append, args := #[x, y], argTypes := #[t, t] }, type := tt, pos := pos, after := after, guard := none } :: l) ⟨T, O⟩ Q := by
  subst hv
  refine WpL.appNil hP ht hx hy hs (by rw [hk, Nat.one_mul]) hone (by omega) hid hn ?_
  rw [rows_one] at h; exact h
theorem WpL.appRowN (hP : TabOk P tab) {t e b : Nat} {zs ds : List AV} {x y : Operand} {id ep len o j epj lenj : Nat} {Vy : AV} {oj : AObj} {v : α} (ht : tlook tab t = some (.slice e k b zs)) (hx : av T x = .own id ep 0 len) (ho : O[id]? = some ⟨rows f xs, ep, k, some e⟩) (hm : m ≤ id)
    (hy : (av T y).force = some Vy) (hs : srcB O Vy = some (ds, 1)) (hd : ds[o]? = some (.own j epj 0 lenj)) (hj : O[j]? = some oj) (hne : Nat.beq id j = false) (hmj : m ≤ j) (hep : oj.ep = epj) (hst : oj.cells.all AV.still = true) (hlen : lenj * oj.size = oj.cells.length)
    (hk : ∀ a, (f a).length = k) {len' : Nat} (hv : ds.set o (.fre oj.size len' oj.cells) = f v) (hll : lenj = len') (hone : ds.all (oneB O) = true) (hol : xs.length = len) (hb : (len + 1) * b ≤ 140737488355328 ∧ len + 1 ≤ 9223372036854775807) (hn : d < n)
    (h : WpL P n m G false ops l ⟨(d, .own id (ep + 1) 0 (len + 1)) :: T, (O.set id ⟨rows f (xs ++ [v]), ep + 1, k, some e⟩).set j ⟨[], oj.ep + 1, 0, none⟩⟩ Q) :
    WpL P n m G false ops ({ dst := some d, op := .call { callee := .builtin .append, args := #[x, y], argTypes := #[t, t] }, type := tt, pos := pos, after := after, guard := none } :: l) ⟨T, O⟩ Q := by
  subst hol hll
  have hdl : ds.length = k := by have := congrArg List.length hv; rw [List.length_set, hk] at this; exact this
  have hok : o < k := by rw [← hdl]; exact (List.getElem?_eq_some_iff.1 hd).1
  have hidl := (List.getElem?_eq_some_iff.1 ho).1
  have hne' : id ≠ j := by rintro rfl; rw [Nat.beq_refl] at hne; cases hne
  have hrl : (rows f xs).length = xs.length * k := rows_len hk xs
  refine WpL.appOwn hP ht hx ho rfl rfl rfl (by simp only; rw [hrl]) hm hy hs (by rw [hdl, Nat.one_mul]) hone hb hn ?_
  simp only
  refine WpL.weak (Weak.nest (id := id) (j := j) (off := xs.length * k + o) (epj := epj) (len := lenj) (ob := ⟨rows f xs ++ ds, ep + 1, k, some e⟩) (oj := oj) (by simp [hidl]) (by rw [List.getElem?_set, if_neg hne']; exact hj) hne hmj ?_ hep hst hlen) ?_
  · simp only; rw [List.getElem?_append_right (by omega), hrl, Nat.add_sub_cancel_left]; exact hd
  · simp only
    rw [List.set_append_right _ _ (by omega), hrl, Nat.add_sub_cancel_left, hv, ← rows_one (f := f) v, ← rows_append, List.set_set]
    exact h
theorem WpL.nilRowN (hP : TabOk P tab) {t e b id : Nat} {zs ds : List AV} {x y : Operand} {o j epj lenj : Nat} {Vy : AV} {oj : AObj} {v : α} (ht : tlook tab t = some (.slice e k b zs)) (hx : av T x = .nilS)
    (hy : (av T y).force = some Vy) (hs : srcB O Vy = some (ds, 1)) (hd : ds[o]? = some (.own j epj 0 lenj)) (hj : O[j]? = some oj) (hmj : m ≤ j) (hep : oj.ep = epj) (hst : oj.cells.all AV.still = true) (hlen : lenj * oj.size = oj.cells.length)
    (hk : ∀ a, (f a).length = k) {len' : Nat} (hv : ds.set o (.fre oj.size len' oj.cells) = f v) (hll : lenj = len') (hone : ds.all (oneB O) = true) (hb : b ≤ 140737488355328) (hid : nid O 0 = some id) (hn : d < n)
    (h : WpL P n m G false ops l ⟨(d, .own id 0 0 1) :: T, List.set (O ++ [⟨rows f [v], 0, k, some e⟩]) j ⟨[], oj.ep + 1, 0, none⟩⟩ Q) :
    WpL P n m G false ops ({ dst := some d, op := .call { callee := .builtin .append, args := #[x, y], argTypes := #[t, t] }, type := tt, pos := pos, after := after, guard := none } :: l) ⟨T, O⟩ Q := by
  subst hll
  have hdl : ds.length = k := by have := congrArg List.length hv; rw [List.length_set, hk] at this; exact this
  have hjl := (List.getElem?_eq_some_iff.1 hj).1
  have hide : id = O.length := by have := nid_eq hid; omega
  refine WpL.appNil hP ht hx hy hs (by rw [hdl, Nat.one_mul]) hone (by omega) hid hn ?_
  refine WpL.weak (Weak.nest (id := id) (j := j) (off := o) (epj := epj) (len := lenj) (ob := ⟨ds, 0, k, some e⟩) (oj := oj) (by rw [hide]; exact List.getElem?_concat_length) (by rw [List.getElem?_append_left hjl]; exact hj) ?_ hmj hd hep hst hlen) ?_
  · cases hb2 : Nat.beq id j with
    | false => rfl
    | true => have := Nat.eq_of_beq_eq_true hb2; omega
  · simp only
    rw [hv, ← rows_one (f := f) v]
    have e : (O ++ [(⟨ds, 0, k, some e⟩ : AObj)]).set id (⟨rows f [v], 0, k, some e⟩ : AObj) = O ++ [⟨rows f [v], 0, k, some e⟩] := by rw [hide]; simp
    rw [e]
    exact h
theorem WpL.makeRows (hP : TabOk P tab) {t e b id : Nat} {zs : List AV} {z : α} {x y : Operand} {kl kc : IntKind} {p : Int} (ht : tlook tab t = some (.slice e k b zs)) (hz : f z = zs) (hx : av T x = .sc (.int kl p)) (hy : av T y = .sc (.int kc p)) (hp : 0 ≤ p)
    (hb : (b : Int) * p ≤ 281474976710656 ∧ p ≤ 9223372036854775807) (hid : nid O 0 = some id) (hn : d < n) (h : WpL P n m G false ops l ⟨(d, .own id 0 0 p.toNat) :: T, O ++ [⟨rows f (List.replicate p.toNat z), 0, k, some e⟩]⟩ Q) :
    WpL P n m G false ops ({ dst := some d, op := .makeSlice t x y, type := tt, pos := pos, after := after, guard := none } :: l) ⟨T, O⟩ Q :=
  WpL.make hP ht hx hy hp hb hid hn (by rw [rows_rep hz]; exact h)
end

/-! Handing out. -/
section
variable {O : List AObj} {ids : List (Option Nat)} {N : List AObj} {α : Type} {f : α → List AV}
theorem NEx.rows {id ep sz : Nat} {ty : Option TypeId} {xs ys : List α} (hf : ∀ a, (f a).all AV.still = true) (ho : O[id]? = some ⟨Abs.rows f xs, ep, sz, ty⟩) (h : xs = ys) (r : NEx O ids N) : NEx O (some id :: ids) (⟨Abs.rows f ys, 0, sz, ty⟩ :: N) :=
  .obj ho (by rw [h]) (still_rows hf _) rfl rfl (.inr rfl) r
theorem NEx.noRows {sz : Nat} {ty : Option TypeId} {ys : List α} (h : [] = ys) (r : NEx O ids N) : NEx O (none :: ids) (⟨Abs.rows f ys, 0, sz, ty⟩ :: N) := .gone (by rw [← h]; rfl) rfl r
variable {O' os os' : List AObj} {ep ep' sz sz' : Nat} {ty ty' : Option TypeId}
theorem ReO.rows {xs ys : List α} (hf : ∀ a, (f a).all AV.still = true) (h : xs = ys) (ht : ty' = none ∨ ty' = ty) (r : ReO O O' os os') : ReO O O' (⟨Abs.rows f xs, ep, sz, ty⟩ :: os) (⟨Abs.rows f ys, ep', sz', ty'⟩ :: os') := .cons (Re.same (by rw [h]) (still_rows hf _)) ht r
end

/-! A nil slice in a new cell is an owned one of no elements. -/
inductive Nf : List AV → List AV → Prop
  | nil : Nf [] []
  | keep {V vs us} : Nf vs us → Nf (V :: vs) (V :: us)
  | fre {s vs us} : Nf vs us → Nf (.nilS :: vs) (.fre s 0 [] :: us)
theorem Nf.rel {vs us : List AV} (h : Nf vs us) : ∀ {S w ι O xs f}, LRel S w ι O vs xs f → LRel S w ι O us xs f := by
  induction h with
  | nil => intro S w ι O xs f hl; exact hl
  | keep _ ih =>
    intro S w ι O xs f hl
    obtain ⟨v, vs', f1, f2, rfl, hv, hr, rfl⟩ := hl.uncons
    exact LRel.cons hv (ih hr)
  | fre _ ih =>
    intro S w ι O xs f hl
    cases hl with
    | nilS r => exact .fre0 (ih r)
theorem Nf.len {vs us : List AV} (h : Nf vs us) : vs.length = us.length := by
  induction h with
  | nil => rfl
  | keep _ ih => simp [ih]
  | fre _ ih => simp [ih]
theorem Nf.append {a b c d : List AV} (h1 : Nf a c) (h2 : Nf b d) : Nf (a ++ b) (c ++ d) := by
  induction h1 with
  | nil => exact h2
  | keep _ ih => exact .keep ih
  | fre _ ih => exact .fre ih
theorem Nf.rep {zs us : List AV} (h : Nf zs us) (n : Nat) : Nf (List.replicate n zs).flatten (List.replicate n us).flatten := by
  induction n with
  | zero => exact .nil
  | succ n ih => rw [List.replicate_succ, List.replicate_succ, List.flatten_cons, List.flatten_cons]; exact Nf.append h ih

theorem RelAt.cells {n m G S ι F T O a w} (hr : RelAt n m G S ι F ⟨T, O⟩ a w) {id : Nat} {ob : AObj} {cs : List AV} (ho : O[id]? = some ob) (h : ∀ O' xs f, LRel S w ι O' ob.cells xs f → LRel S w ι O' cs xs f) (hl : cs.length = ob.cells.length) :
    RelAt n m G S ι F ⟨T, O.set id ⟨cs, ob.ep, ob.size, ob.ty⟩⟩ a w := by
  have hidl : id < O.length := (List.getElem?_eq_some_iff.1 ho).1
  have hlat : Later S w ι O S w ι (O.set id ⟨cs, ob.ep, ob.size, ob.ty⟩) := by
    refine ⟨fun _ h => h, fun _ _ => rfl, fun i obi hi => ?_⟩
    by_cases e : id = i
    · subst e; rw [ho] at hi; cases hi
      exact ⟨⟨cs, ob.ep, ob.size, ob.ty⟩, by simp [hidl], .inr ⟨rfl, rfl, rfl⟩⟩
    · exact ⟨obi, by rw [List.getElem?_set, if_neg e]; exact hi, .inr ⟨rfl, rfl, rfl⟩⟩
  refine ⟨hr.defers, hr.size, fun t' => (hr.tmps t').mono hlat (fun _ _ => rfl), ⟨fun i obi hi => ?_, fun i hi => hr.objs.nodup i (by simpa using hi), fun i j hi hj => hr.objs.apart i j (by simpa using hi) (by simpa using hj)⟩, fun i hi => hr.foot i (by simpa using hi), hr.base, hr.stable, hr.keeps, hr.spots, by show m ≤ (O.set id _).length; simp only [List.length_set]; exact hr.mle⟩
  have hi : (O.set id ⟨cs, ob.ep, ob.size, ob.ty⟩)[i]? = some obi := hi
  by_cases e : id = i
  · subst e
    simp only [List.getElem?_set_self hidl, Option.some.injEq] at hi
    subst hi
    have hob := hr.objs.obj id ob ho
    unfold ObjAt at hob ⊢
    cases hs : ι id with
    | none =>
      rw [hs] at hob
      refine ⟨?_, hob.2⟩
      have : cs.length = 0 := by rw [hl, hob.1]; rfl
      exact List.eq_nil_of_length_eq_zero this
    | some p =>
      rw [hs] at hob
      obtain ⟨cur', t', fz', f2, q1, q2, q3, q4, q5, q6, q7⟩ := hob
      exact ⟨cur', t', fz', f2, q1, q2, q3, by simp only; rw [hl]; exact q4, q5, q6, by simp only; rw [hl]; exact h _ _ _ (q7.mono hlat (fun _ _ => rfl))⟩
  · rw [List.getElem?_set, if_neg e] at hi
    have hob := hr.objs.obj i obi hi
    unfold ObjAt at hob ⊢
    cases hs : ι i with
    | none => rw [hs] at hob; exact hob
    | some p =>
      rw [hs] at hob
      obtain ⟨cur', t', fz', f2, q1, q2, q3, q4, q5, q6, q7⟩ := hob
      exact ⟨cur', t', fz', f2, q1, q2, q3, q4, q5, q6, q7.mono hlat (fun _ _ => rfl)⟩
section
variable {P : Program} {n m : Nat} {G : Ctx} {T : List (Nat × AV)} {O : List AObj} {Q : Exit → St → Prop} {ops : Array Oper} {l : List Oper} {d : Nat} {tt : TypeId} {pos : String} {after : Array Edge} {tab : List (Nat × Ty)}
variable {α : Type} {f : α → List AV} {k : Nat}
theorem WpL.makeRowsN (hP : TabOk P tab) {t e b id : Nat} {zs : List AV} {z : α} {x y : Operand} {kl kc : IntKind} {p : Int} (ht : tlook tab t = some (.slice e k b zs)) (hz : Nf zs (f z)) (hx : av T x = .sc (.int kl p)) (hy : av T y = .sc (.int kc p)) (hp : 0 ≤ p)
    (hb : (b : Int) * p ≤ 281474976710656 ∧ p ≤ 9223372036854775807) (hid : nid O 0 = some id) (hn : d < n) (h : WpL P n m G false ops l ⟨(d, .own id 0 0 p.toNat) :: T, O ++ [⟨rows f (List.replicate p.toNat z), 0, k, some e⟩]⟩ Q) :
    WpL P n m G false ops ({ dst := some d, op := .makeSlice t x y, type := tt, pos := pos, after := after, guard := none } :: l) ⟨T, O⟩ Q := by
  refine WpL.make hP ht hx hy hp hb hid hn (WpL.weak ?_ h)
  rintro n' G' a w ⟨S, ι, F, hr⟩
  have hide : id = O.length := by have := nid_eq hid; omega
  have := hr.cells (id := O.length) (ob := ⟨(List.replicate p.toNat zs).flatten, 0, k, some e⟩) (cs := rows f (List.replicate p.toNat z)) List.getElem?_concat_length (fun O' xs g hl => by
    rw [← rows_rep (f := f) (z := z) rfl]; exact (Nf.rep hz _).rel hl) (by
    rw [← rows_rep (f := f) (z := z) rfl]; exact (Nf.rep hz _).len.symm)
  refine ⟨S, ι, F, ?_⟩
  simpa using this
end

/-! The rows of this program: pairs of numbers, blocks, macroblocks, frames, places. 'I': a slice that stays; 'F': an owned one. -/
def prF (a : Int × Int) : List AV := [I a.1, I a.2]
def plF (a : Int × Int × Int) : List AV := [I a.1, I a.2.1, I a.2.2]
abbrev Blok := Int × List Int
def blkI (b : Blok) : List AV := [I b.1, .imm 1 b.2.length (ints b.2)]
def blkF (b : Blok) : List AV := [I b.1, .fre 1 b.2.length (ints b.2)]
abbrev Mbk := Bool × List Blok
def mbI (b : Mbk) : List AV := [B b.1, .imm 2 b.2.length (rows blkI b.2)]
def mbF (b : Mbk) : List AV := [B b.1, .fre 2 b.2.length (rows blkF b.2)]
abbrev Fra := Int × Int × List Int
def frI (b : Fra) : List AV := [I b.1, I b.2.1, .imm 1 b.2.2.length (ints b.2.2)]
def frF (b : Fra) : List AV := [I b.1, I b.2.1, .fre 1 b.2.2.length (ints b.2.2)]
def liI (b : List Int) : List AV := [.imm 1 b.length (ints b)]
def liF (b : List Int) : List AV := [.fre 1 b.length (ints b)]
@[simp] theorem len_pr (l : List (Int × Int)) : (rows prF l).length = l.length * 2 := rows_len (f := prF) (fun _ => rfl) l
@[simp] theorem len_pl (l : List (Int × Int × Int)) : (rows plF l).length = l.length * 3 := rows_len (f := plF) (fun _ => rfl) l
@[simp] theorem len_bI (l : List Blok) : (rows blkI l).length = l.length * 2 := rows_len (f := blkI) (fun _ => rfl) l
@[simp] theorem len_bF (l : List Blok) : (rows blkF l).length = l.length * 2 := rows_len (f := blkF) (fun _ => rfl) l
@[simp] theorem len_mI (l : List Mbk) : (rows mbI l).length = l.length * 2 := rows_len (f := mbI) (fun _ => rfl) l
@[simp] theorem len_mF (l : List Mbk) : (rows mbF l).length = l.length * 2 := rows_len (f := mbF) (fun _ => rfl) l
@[simp] theorem len_fI (l : List Fra) : (rows frI l).length = l.length * 3 := rows_len (f := frI) (fun _ => rfl) l
@[simp] theorem len_fF (l : List Fra) : (rows frF l).length = l.length * 3 := rows_len (f := frF) (fun _ => rfl) l
theorem snap_ints {O : List AObj} (xs : List Int) : Snap O (ints xs) (ints xs) := Snap.same rfl (still_ints _) (nofre_ints _)
theorem snap_blk {O : List AObj} (b : Blok) : Snap O (blkF b) (blkI b) := .keep rfl rfl (.fre (snap_ints _) .nil)
theorem snap_mb {O : List AObj} (b : Mbk) : Snap O (mbF b) (mbI b) := .keep rfl rfl (.fre (Snap.rows snap_blk _) .nil)
theorem snap_fr {O : List AObj} (b : Fra) : Snap O (frF b) (frI b) := .keep rfl rfl (.keep rfl rfl (.fre (snap_ints _) .nil))
theorem snap_li {O : List AObj} (b : List Int) : Snap O (liF b) (liI b) := .fre (snap_ints _) .nil
theorem loc_pr (a : Int × Int) : Loc (prF a) := .sc (.sc .nil)
theorem loc_pl (a : Int × Int × Int) : Loc (plF a) := .sc (.sc (.sc .nil))
theorem loc_blk (b : Blok) : Loc (blkF b) := .sc (.fre (Loc.ints _) .nil)
theorem loc_mb (b : Mbk) : Loc (mbF b) := .sc (.fre (Loc.rows loc_blk _) .nil)
theorem loc_fr (b : Fra) : Loc (frF b) := .sc (.sc (.fre (Loc.ints _) .nil))
theorem loc_li (b : List Int) : Loc (liF b) := .fre (Loc.ints _) .nil

section
variable {P : Program} {n m : Nat} {G : Ctx} {T : List (Nat × AV)} {O : List AObj} {Q : Exit → St → Prop} {ops : Array Oper} {l : List Oper} {d : Nat} {tt : TypeId} {pos : String} {after : Array Edge} {tab : List (Nat × Ty)} {i : Nat}
theorem WpL.storeBlk (hP : TabOk P tab) {t : Nat} {x y : Operand} {id ep sz j epj len : Nat} {te tj : Option TypeId} {offs : List Nat} {zs : List AV} {xs : List Blok} {c : Int} {lv : List Int} (ht : tlook tab t = some (.struct offs 2 zs)) (hx : av T x = .ptr id ep (i * 2)) (ho : O[id]? = some ⟨rows blkF xs, ep, sz, te⟩)
    (hy : (av T y).force = some (.agg [I c, .own j epj 0 len])) (hj : O[j]? = some ⟨ints lv, epj, 1, tj⟩) (hone : (List.all [I c, .own j epj 0 len] (oneB O)) = true) (hne : Nat.beq id j = false) (hm : m ≤ j) (hll : len = lv.length) (hi : i < xs.length)
    (h : WpL P n m G false ops l ⟨T, (O.set id ⟨rows blkF (xs.set i (c, lv)), ep, sz, te⟩).set j ⟨[], epj + 1, 0, none⟩⟩ Q) :
    WpL P n m G false ops ({ dst := none, op := .store t x y, type := tt, pos := pos, after := after, guard := none } :: l) ⟨T, O⟩ Q := by
  subst hll
  exact WpL.storeRowN (f := blkF) (b := (c, lv)) (o := 1) hP ht hx ho hy hone rfl hj hne hm rfl (still_ints _) (by simp) (fun _ => rfl) rfl rfl hi h
theorem WpL.appBlk (hP : TabOk P tab) {t e b : Nat} {zs : List AV} {x y : Operand} {id ep len0 j epj len : Nat} {tj : Option TypeId} {Vy : AV} {xs : List Blok} {c : Int} {lv : List Int} (ht : tlook tab t = some (.slice e 2 b zs)) (hx : av T x = .own id ep 0 len0) (ho : O[id]? = some ⟨rows blkF xs, ep, 2, some e⟩) (hm : m ≤ id)
    (hy : (av T y).force = some Vy) (hs : srcB O Vy = some ([I c, .own j epj 0 len], 1)) (hj : O[j]? = some ⟨ints lv, epj, 1, tj⟩) (hone : (List.all [I c, .own j epj 0 len] (oneB O)) = true) (hne : Nat.beq id j = false) (hmj : m ≤ j) (hll : len = lv.length) (hol : xs.length = len0) (hb : (len0 + 1) * b ≤ 140737488355328 ∧ len0 + 1 ≤ 9223372036854775807) (hn : d < n)
    (h : WpL P n m G false ops l ⟨(d, .own id (ep + 1) 0 (len0 + 1)) :: T, (O.set id ⟨rows blkF (xs ++ [(c, lv)]), ep + 1, 2, some e⟩).set j ⟨[], epj + 1, 0, none⟩⟩ Q) :
    WpL P n m G false ops ({ dst := some d, op := .call { callee := .builtin .append, args := #[x, y], argTypes := #[t, t] }, type := tt, pos := pos, after := after, guard := none } :: l) ⟨T, O⟩ Q := by
  subst hll
  exact WpL.appRowN (f := blkF) (v := (c, lv)) (o := 1) hP ht hx ho hm hy hs rfl hj hne hmj rfl (still_ints _) (by simp) (fun _ => rfl) rfl rfl hone hol hb hn h
theorem WpL.nilBlk (hP : TabOk P tab) {t e b id : Nat} {zs : List AV} {x y : Operand} {j epj len : Nat} {tj : Option TypeId} {Vy : AV} {c : Int} {lv : List Int} (ht : tlook tab t = some (.slice e 2 b zs)) (hx : av T x = .nilS)
    (hy : (av T y).force = some Vy) (hs : srcB O Vy = some ([I c, .own j epj 0 len], 1)) (hj : O[j]? = some ⟨ints lv, epj, 1, tj⟩) (hone : (List.all [I c, .own j epj 0 len] (oneB O)) = true) (hmj : m ≤ j) (hll : len = lv.length) (hb : b ≤ 140737488355328) (hid : nid O 0 = some id) (hn : d < n)
    (h : WpL P n m G false ops l ⟨(d, .own id 0 0 1) :: T, List.set (O ++ [⟨rows blkF [(c, lv)], 0, 2, some e⟩]) j ⟨[], epj + 1, 0, none⟩⟩ Q) :
    WpL P n m G false ops ({ dst := some d, op := .call { callee := .builtin .append, args := #[x, y], argTypes := #[t, t] }, type := tt, pos := pos, after := after, guard := none } :: l) ⟨T, O⟩ Q := by
  subst hll
  exact WpL.nilRowN (f := blkF) (v := (c, lv)) (o := 1) hP ht hx hy hs rfl hj hmj rfl (still_ints _) (by simp) (fun _ => rfl) rfl rfl hone hb hid hn h
theorem Weak.nestBlk {id j epj len ep sz : Nat} {te tj : Option TypeId} {xs : List Blok} {lv : List Int} {σ' : St} (ho : O[id]? = some ⟨(rows blkF xs).set (i * 2 + 1) (.own j epj 0 len), ep, sz, te⟩) (hj : O[j]? = some ⟨ints lv, epj, 1, tj⟩) (hne : Nat.beq id j = false) (hm : m ≤ j) (hll : len = lv.length) (hi : i < xs.length)
    (h : Weak m ⟨T, (O.set id ⟨rows blkF (xs.set i ((xs.getD i default).1, lv)), ep, sz, te⟩).set j ⟨[], epj + 1, 0, none⟩⟩ σ') : Weak m ⟨T, O⟩ σ' := by
  subst hll
  exact Weak.nestRow (f := blkF) (b := ((xs.getD i default).1, lv)) ho hj hne hm rfl (still_ints _) (by simp) (fun _ => rfl) rfl hi rfl rfl h
theorem WpL.storeMb (hP : TabOk P tab) {t : Nat} {x y : Operand} {id ep sz j epj len : Nat} {te tj : Option TypeId} {offs : List Nat} {zs : List AV} {xs : List Mbk} {c : Bool} {lv : List Blok} (ht : tlook tab t = some (.struct offs 2 zs)) (hx : av T x = .ptr id ep (i * 2)) (ho : O[id]? = some ⟨rows mbF xs, ep, sz, te⟩)
    (hy : (av T y).force = some (.agg [B c, .own j epj 0 len])) (hj : O[j]? = some ⟨rows blkF lv, epj, 2, tj⟩) (hone : (List.all [B c, .own j epj 0 len] (oneB O)) = true) (hne : Nat.beq id j = false) (hm : m ≤ j) (hll : len = lv.length) (hi : i < xs.length)
    (h : WpL P n m G false ops l ⟨T, (O.set id ⟨rows mbF (xs.set i (c, lv)), ep, sz, te⟩).set j ⟨[], epj + 1, 0, none⟩⟩ Q) :
    WpL P n m G false ops ({ dst := none, op := .store t x y, type := tt, pos := pos, after := after, guard := none } :: l) ⟨T, O⟩ Q := by
  subst hll
  exact WpL.storeRowN (f := mbF) (b := (c, lv)) (o := 1) hP ht hx ho hy hone rfl hj hne hm rfl (still_rows (fun _ => rfl) _) (rows_len (f := blkF) (k := 2) (fun _ => rfl) lv).symm (fun _ => rfl) rfl rfl hi h
theorem WpL.appMb (hP : TabOk P tab) {t e b : Nat} {zs : List AV} {x y : Operand} {id ep len0 j epj len : Nat} {tj : Option TypeId} {Vy : AV} {xs : List Mbk} {c : Bool} {lv : List Blok} (ht : tlook tab t = some (.slice e 2 b zs)) (hx : av T x = .own id ep 0 len0) (ho : O[id]? = some ⟨rows mbF xs, ep, 2, some e⟩) (hm : m ≤ id)
    (hy : (av T y).force = some Vy) (hs : srcB O Vy = some ([B c, .own j epj 0 len], 1)) (hj : O[j]? = some ⟨rows blkF lv, epj, 2, tj⟩) (hone : (List.all [B c, .own j epj 0 len] (oneB O)) = true) (hne : Nat.beq id j = false) (hmj : m ≤ j) (hll : len = lv.length) (hol : xs.length = len0) (hb : (len0 + 1) * b ≤ 140737488355328 ∧ len0 + 1 ≤ 9223372036854775807) (hn : d < n)
    (h : WpL P n m G false ops l ⟨(d, .own id (ep + 1) 0 (len0 + 1)) :: T, (O.set id ⟨rows mbF (xs ++ [(c, lv)]), ep + 1, 2, some e⟩).set j ⟨[], epj + 1, 0, none⟩⟩ Q) :
    WpL P n m G false ops ({ dst := some d, op := .call { callee := .builtin .append, args := #[x, y], argTypes := #[t, t] }, type := tt, pos := pos, after := after, guard := none } :: l) ⟨T, O⟩ Q := by
  subst hll
  exact WpL.appRowN (f := mbF) (v := (c, lv)) (o := 1) hP ht hx ho hm hy hs rfl hj hne hmj rfl (still_rows (fun _ => rfl) _) (rows_len (f := blkF) (k := 2) (fun _ => rfl) lv).symm (fun _ => rfl) rfl rfl hone hol hb hn h
theorem WpL.nilMb (hP : TabOk P tab) {t e b id : Nat} {zs : List AV} {x y : Operand} {j epj len : Nat} {tj : Option TypeId} {Vy : AV} {c : Bool} {lv : List Blok} (ht : tlook tab t = some (.slice e 2 b zs)) (hx : av T x = .nilS)
    (hy : (av T y).force = some Vy) (hs : srcB O Vy = some ([B c, .own j epj 0 len], 1)) (hj : O[j]? = some ⟨rows blkF lv, epj, 2, tj⟩) (hone : (List.all [B c, .own j epj 0 len] (oneB O)) = true) (hmj : m ≤ j) (hll : len = lv.length) (hb : b ≤ 140737488355328) (hid : nid O 0 = some id) (hn : d < n)
    (h : WpL P n m G false ops l ⟨(d, .own id 0 0 1) :: T, List.set (O ++ [⟨rows mbF [(c, lv)], 0, 2, some e⟩]) j ⟨[], epj + 1, 0, none⟩⟩ Q) :
    WpL P n m G false ops ({ dst := some d, op := .call { callee := .builtin .append, args := #[x, y], argTypes := #[t, t] }, type := tt, pos := pos, after := after, guard := none } :: l) ⟨T, O⟩ Q := by
  subst hll
  exact WpL.nilRowN (f := mbF) (v := (c, lv)) (o := 1) hP ht hx hy hs rfl hj hmj rfl (still_rows (fun _ => rfl) _) (rows_len (f := blkF) (k := 2) (fun _ => rfl) lv).symm (fun _ => rfl) rfl rfl hone hb hid hn h
theorem Weak.nestMb {id j epj len ep sz : Nat} {te tj : Option TypeId} {xs : List Mbk} {lv : List Blok} {σ' : St} (ho : O[id]? = some ⟨(rows mbF xs).set (i * 2 + 1) (.own j epj 0 len), ep, sz, te⟩) (hj : O[j]? = some ⟨rows blkF lv, epj, 2, tj⟩) (hne : Nat.beq id j = false) (hm : m ≤ j) (hll : len = lv.length) (hi : i < xs.length)
    (h : Weak m ⟨T, (O.set id ⟨rows mbF (xs.set i ((xs.getD i default).1, lv)), ep, sz, te⟩).set j ⟨[], epj + 1, 0, none⟩⟩ σ') : Weak m ⟨T, O⟩ σ' := by
  subst hll
  exact Weak.nestRow (f := mbF) (b := ((xs.getD i default).1, lv)) ho hj hne hm rfl (still_rows (fun _ => rfl) _) (rows_len (f := blkF) (k := 2) (fun _ => rfl) lv).symm (fun _ => rfl) rfl hi rfl rfl h
theorem WpL.appFr (hP : TabOk P tab) {t e b : Nat} {zs : List AV} {x y : Operand} {id ep len0 j epj len : Nat} {tj : Option TypeId} {Vy : AV} {xs : List Fra} {c c2 : Int} {lv : List Int} (ht : tlook tab t = some (.slice e 3 b zs)) (hx : av T x = .own id ep 0 len0) (ho : O[id]? = some ⟨rows frF xs, ep, 3, some e⟩) (hm : m ≤ id)
    (hy : (av T y).force = some Vy) (hs : srcB O Vy = some ([I c, I c2, .own j epj 0 len], 1)) (hj : O[j]? = some ⟨ints lv, epj, 1, tj⟩) (hone : (List.all [I c, I c2, .own j epj 0 len] (oneB O)) = true) (hne : Nat.beq id j = false) (hmj : m ≤ j) (hll : len = lv.length) (hol : xs.length = len0) (hb : (len0 + 1) * b ≤ 140737488355328 ∧ len0 + 1 ≤ 9223372036854775807) (hn : d < n)
    (h : WpL P n m G false ops l ⟨(d, .own id (ep + 1) 0 (len0 + 1)) :: T, (O.set id ⟨rows frF (xs ++ [(c, c2, lv)]), ep + 1, 3, some e⟩).set j ⟨[], epj + 1, 0, none⟩⟩ Q) :
    WpL P n m G false ops ({ dst := some d, op := .call { callee := .builtin .append, args := #[x, y], argTypes := #[t, t] }, type := tt, pos := pos, after := after, guard := none } :: l) ⟨T, O⟩ Q := by
  subst hll
  exact WpL.appRowN (f := frF) (v := (c, c2, lv)) (o := 2) hP ht hx ho hm hy hs rfl hj hne hmj rfl (still_ints _) (by simp) (fun _ => rfl) rfl rfl hone hol hb hn h
theorem WpL.nilFr (hP : TabOk P tab) {t e b id : Nat} {zs : List AV} {x y : Operand} {j epj len : Nat} {tj : Option TypeId} {Vy : AV} {c c2 : Int} {lv : List Int} (ht : tlook tab t = some (.slice e 3 b zs)) (hx : av T x = .nilS)
    (hy : (av T y).force = some Vy) (hs : srcB O Vy = some ([I c, I c2, .own j epj 0 len], 1)) (hj : O[j]? = some ⟨ints lv, epj, 1, tj⟩) (hone : (List.all [I c, I c2, .own j epj 0 len] (oneB O)) = true) (hmj : m ≤ j) (hll : len = lv.length) (hb : b ≤ 140737488355328) (hid : nid O 0 = some id) (hn : d < n)
    (h : WpL P n m G false ops l ⟨(d, .own id 0 0 1) :: T, List.set (O ++ [⟨rows frF [(c, c2, lv)], 0, 3, some e⟩]) j ⟨[], epj + 1, 0, none⟩⟩ Q) :
    WpL P n m G false ops ({ dst := some d, op := .call { callee := .builtin .append, args := #[x, y], argTypes := #[t, t] }, type := tt, pos := pos, after := after, guard := none } :: l) ⟨T, O⟩ Q := by
  subst hll
  exact WpL.nilRowN (f := frF) (v := (c, c2, lv)) (o := 2) hP ht hx hy hs rfl hj hmj rfl (still_ints _) (by simp) (fun _ => rfl) rfl rfl hone hb hid hn h
theorem WpL.storeBlk0 (hP : TabOk P tab) {t : Nat} {ty : Ty} {x y : Operand} {id ep sz : Nat} {te : Option TypeId} {xs : List Blok} {c : Int} (ht : tlook tab t = some ty) (hx : av T x = .ptr id ep (i * 2 + 0)) (ho : O[id]? = some ⟨rows blkF xs, ep, sz, te⟩)
    (hy : av T y = I c) (hcn : ty.cellsN = some 1) (hi : i < xs.length) (h : WpL P n m G false ops l ⟨T, O.set id ⟨rows blkF (xs.set i (c, (xs.getD i default).2)), ep, sz, te⟩⟩ Q) :
    WpL P n m G false ops ({ dst := none, op := .store t x y, type := tt, pos := pos, after := after, guard := none } :: l) ⟨T, O⟩ Q :=
  WpL.storeField (f := blkF) (b := (c, (xs.getD i default).2)) (V := I c) hP ht hx ho (by rw [hy]; rfl) rfl rfl hcn (fun _ => rfl) rfl hi rfl h
theorem WpL.storeMb0 (hP : TabOk P tab) {t : Nat} {ty : Ty} {x y : Operand} {id ep sz : Nat} {te : Option TypeId} {xs : List Mbk} {c : Bool} (ht : tlook tab t = some ty) (hx : av T x = .ptr id ep (i * 2 + 0)) (ho : O[id]? = some ⟨rows mbF xs, ep, sz, te⟩)
    (hy : av T y = B c) (hcn : ty.cellsN = some 1) (hi : i < xs.length) (h : WpL P n m G false ops l ⟨T, O.set id ⟨rows mbF (xs.set i (c, (xs.getD i default).2)), ep, sz, te⟩⟩ Q) :
    WpL P n m G false ops ({ dst := none, op := .store t x y, type := tt, pos := pos, after := after, guard := none } :: l) ⟨T, O⟩ Q :=
  WpL.storeField (f := mbF) (b := (c, (xs.getD i default).2)) (V := B c) hP ht hx ho (by rw [hy]; rfl) rfl rfl hcn (fun _ => rfl) rfl hi rfl h
theorem WpL.storePr0 (hP : TabOk P tab) {t : Nat} {ty : Ty} {x y : Operand} {id ep sz : Nat} {te : Option TypeId} {xs : List (Int × Int)} {c : Int} (ht : tlook tab t = some ty) (hx : av T x = .ptr id ep (i * 2 + 0)) (ho : O[id]? = some ⟨rows prF xs, ep, sz, te⟩)
    (hy : av T y = I c) (hcn : ty.cellsN = some 1) (hi : i < xs.length) (h : WpL P n m G false ops l ⟨T, O.set id ⟨rows prF (xs.set i (c, (xs.getD i default).2)), ep, sz, te⟩⟩ Q) :
    WpL P n m G false ops ({ dst := none, op := .store t x y, type := tt, pos := pos, after := after, guard := none } :: l) ⟨T, O⟩ Q :=
  WpL.storeField (f := prF) (b := (c, (xs.getD i default).2)) (V := I c) hP ht hx ho (by rw [hy]; rfl) rfl rfl hcn (fun _ => rfl) rfl hi rfl h
theorem WpL.storePr1 (hP : TabOk P tab) {t : Nat} {ty : Ty} {x y : Operand} {id ep sz : Nat} {te : Option TypeId} {xs : List (Int × Int)} {c : Int} (ht : tlook tab t = some ty) (hx : av T x = .ptr id ep (i * 2 + 1)) (ho : O[id]? = some ⟨rows prF xs, ep, sz, te⟩)
    (hy : av T y = I c) (hcn : ty.cellsN = some 1) (hi : i < xs.length) (h : WpL P n m G false ops l ⟨T, O.set id ⟨rows prF (xs.set i ((xs.getD i default).1, c)), ep, sz, te⟩⟩ Q) :
    WpL P n m G false ops ({ dst := none, op := .store t x y, type := tt, pos := pos, after := after, guard := none } :: l) ⟨T, O⟩ Q :=
  WpL.storeField (f := prF) (b := ((xs.getD i default).1, c)) (V := I c) hP ht hx ho (by rw [hy]; rfl) rfl rfl hcn (fun _ => rfl) rfl hi rfl h
end
end Go.Abs

/- Slices held against nil; contracts in two cases. No condition. -/
namespace Go.Abs
open Go
set_option linter.unusedVariables false
set_option linter.unusedSimpArgs false
section
variable {P : Program} {n m : Nat} {G : Ctx} {md : Bool} {T : List (Nat × AV)} {O : List AObj} {Q : Exit → St → Prop} {ops : Array Oper} {l : List Oper} {d : Nat} {tt : TypeId} {pos : String} {after : Array Edge}

theorem run_equal_nil (P : Program) {t e : TypeId} (ht : P.underlying t = some (.slice e)) (w : World) : (Op.equal t (.slice none 0 0) (.slice none 0 0)).run P w = .ok true w := by
  show (Op.equalIn (9999 + 1) t _ _).run P w = _
  rw [Op.equalIn]
  simp only [Sem.run_bind, run_underlying ht, Result.andThen_ok, Sem.run_pure, Option.isNone_none]
theorem run_equal_some (P : Program) {t e : TypeId} (ht : P.underlying t = some (.slice e)) (a : Addr) (k c : Nat) (w : World) : (Op.equal t (.slice (some a) k c) (.slice none 0 0)).run P w = .ok false w := by
  show (Op.equalIn (9999 + 1) t _ _).run P w = _
  rw [Op.equalIn]
  simp only [Sem.run_bind, run_underlying ht, Result.andThen_ok, Sem.run_pure]

theorem WpL.nilEq {t e ty : TypeId} {x y : Operand} (ht : P.underlying t = some (.slice e)) (hx : av T x = .nilS) (hy : av T y = .nilS) (hn : d < n) (h : WpL P n m G md ops l ⟨(d, .sc (.bool true)) :: T, O⟩ Q) :
    WpL P n m G md ops ({ dst := some d, op := .binOp .eql t x y ty, type := tt, pos := pos, after := after, guard := none } :: l) ⟨T, O⟩ Q :=
  WpL.pure rfl rfl hn (fun S ι F a w hr => ⟨.bool true, by
    have e1 : a.eval x = .slice none 0 0 := by
      have := hr.eval x; rw [show av (St.mk T O).T x = _ from hx] at this; exact (LRel.slice_len this).2.2 rfl
    have e2 : a.eval y = .slice none 0 0 := by
      have := hr.eval y; rw [show av (St.mk T O).T y = _ from hy] at this; exact (LRel.slice_len this).2.2 rfl
    simp only [execOp, e1, e2, eqGuard_slice, binOp, Sem.run_bind, run_equal_nil P ht, Result.andThen_ok, Sem.run_pure], .sc .nil⟩) h
theorem WpL.ownEq {t e ty : TypeId} {x y : Operand} {id ep off len : Nat} {ob : AObj} (ht : P.underlying t = some (.slice e)) (hx : av T x = .own id ep off len) (ho : O[id]? = some ob) (he : ob.ep = ep) (hl : 0 < len) (hy : av T y = .nilS) (hn : d < n)
    (h : WpL P n m G md ops l ⟨(d, .sc (.bool false)) :: T, O⟩ Q) :
    WpL P n m G md ops ({ dst := some d, op := .binOp .eql t x y ty, type := tt, pos := pos, after := after, guard := none } :: l) ⟨T, O⟩ Q :=
  WpL.pure rfl rfl hn (fun S ι F a w hr => ⟨.bool false, by
    have e2 : a.eval y = .slice none 0 0 := by
      have := hr.eval y; rw [show av (St.mk T O).T y = _ from hy] at this; exact (LRel.slice_len this).2.2 rfl
    have hv := hr.eval x
    rw [show av (St.mk T O).T x = _ from hx] at hv
    have e1 : ∃ ad c, a.eval x = .slice (some ad) len c := by
      generalize a.eval x = v at hv
      cases hv with
      | own q1 q2 q3 r =>
        have ho' : (St.mk T O).O[id]? = some ob := ho
        rw [ho'] at q1; cases q1
        have := q3 he.symm
        unfold OwnAt at this
        split at this
        · omega
        · obtain ⟨cap, rfl, _⟩ := this; exact ⟨_, _, rfl⟩
    obtain ⟨ad, c, e1⟩ := e1
    simp only [execOp, e1, e2, eqGuard_slice, binOp, Sem.run_bind, run_equal_some P ht, Result.andThen_ok, Sem.run_pure], .sc .nil⟩) h
theorem WpL.pureE {o : Oper} {C : AV → Prop} (hg : o.guard = none) (hd : o.dst = some d) (hn : d < n)
    (hop : ∀ S ι F a w, RelAt n m G S ι F ⟨T, O⟩ a w → ∃ V v, C V ∧ (execOp a.eval o).run P w = .ok (.value v) w ∧ VRel S w ι O V v [])
    (h : ∀ V, C V → WpL P n m G md ops l ⟨(d, V) :: T, O⟩ Q) : WpL P n m G md ops (o :: l) ⟨T, O⟩ Q :=
  match md, h with
  | false, h => fun a w hr => by
    obtain ⟨S, ι, F, hr⟩ := hr
    obtain ⟨V, v, hC, h1, h2⟩ := hop S ι F a w hr
    have h3 := h V hC _ w ⟨S, ι, F, hr.put hn h2⟩
    refine wpList_plain hg fun K hK => ?_
    unfold Oper.wp
    rw [h1]
    exact hK _ _ (by rw [hd]; exact h3)
  | true, h => fun a w hr => by
    obtain ⟨S, ι, F, hr⟩ := hr
    obtain ⟨V, v, hC, h1, h2⟩ := hop S ι F a w hr
    have h3 := h V hC _ w ⟨S, ι, F, hr.put hn h2⟩
    simp only at h3 ⊢
    unfold wpStill
    rw [if_pos (by simp [Region.wanted, hg])]
    unfold Oper.still
    rw [h1, Oper.stillUpon_value, hd]
    exact h3
theorem WpL.immEq {t e ty : TypeId} {x y : Operand} {k len : Nat} {cs : List AV} (ht : P.underlying t = some (.slice e)) (hx : av T x = .imm k len cs) (hy : av T y = .nilS) (hn : d < n)
    (h1 : len = 0 → WpL P n m G md ops l ⟨(d, .sc (.bool true)) :: T, O⟩ Q) (h0 : WpL P n m G md ops l ⟨(d, .sc (.bool false)) :: T, O⟩ Q) :
    WpL P n m G md ops ({ dst := some d, op := .binOp .eql t x y ty, type := tt, pos := pos, after := after, guard := none } :: l) ⟨T, O⟩ Q := by
  have key : ∀ S ι F a w, RelAt n m G S ι F ⟨T, O⟩ a w → ∃ b : Bool, (b = true → len = 0) ∧ (execOp a.eval { dst := some d, op := .binOp .eql t x y ty, type := tt, pos := pos, after := after, guard := none }).run P w = .ok (.value (.bool b)) w := by
    intro S ι F a w hr
    have e2 : a.eval y = .slice none 0 0 := by
      have := hr.eval y; rw [show av (St.mk T O).T y = _ from hy] at this; exact (LRel.slice_len this).2.2 rfl
    have hv := hr.eval x
    rw [show av (St.mk T O).T x = _ from hx] at hv
    obtain ⟨_, h | ⟨b, o, cap, us, h, _⟩⟩ := imm_inv hv
    · obtain ⟨ad, cap, h, ⟨hc, _⟩, hl, _⟩ := h
      cases ad with
      | none =>
        have hc0 := hc rfl
        subst hc0
        exact ⟨true, fun _ => hl, by simp only [execOp, h, e2, eqGuard_slice, binOp, Sem.run_bind, run_equal_nil P ht, Result.andThen_ok, Sem.run_pure]⟩
      | some ad => exact ⟨false, (fun h => by cases h), by simp only [execOp, h, e2, eqGuard_slice, binOp, Sem.run_bind, run_equal_some P ht, Result.andThen_ok, Sem.run_pure]⟩
    · exact ⟨false, (fun h => by cases h), by simp only [execOp, h, e2, eqGuard_slice, binOp, Sem.run_bind, run_equal_some P ht, Result.andThen_ok, Sem.run_pure]⟩
  exact WpL.pureE (C := fun V => V = .sc (.bool true) ∧ len = 0 ∨ V = .sc (.bool false)) rfl rfl hn (fun S ι F a w hr => by
    obtain ⟨b, hb, hrun⟩ := key S ι F a w hr
    cases b with
    | true => exact ⟨_, _, .inl ⟨rfl, hb rfl⟩, hrun, .sc .nil⟩
    | false => exact ⟨_, _, .inr rfl, hrun, .sc .nil⟩) (fun V hV => by
    rcases hV with ⟨rfl, hl⟩ | rfl
    · exact h1 hl
    · exact h0)
end

/-! Parts of a slice of numbers. -/
section
variable {P : Program} {n m : Nat} {G : Ctx} {md : Bool} {T : List (Nat × AV)} {O : List AObj} {Q : Exit → St → Prop} {ops : Array Oper} {l : List Oper} {d : Nat} {tt : TypeId} {pos : String} {after : Array Edge} {tab : List (Nat × Ty)}
theorem WpL.subIntsHi (hP : TabOk P tab) {t e b : Nat} {zs : List AV} {x y : Operand} {len : Nat} {xs : List Int} {kk : IntKind} {j : Int} (ht : tlook tab t = some (.slice e 1 b zs)) (hx : av T x = .imm 1 len (ints xs)) (hy : av T y = .sc (.int kk j)) (hl : len = xs.length)
    (hb : 0 ≤ j ∧ j ≤ xs.length) (hn : d < n) (h : WpL P n m G md ops l ⟨(d, .imm 1 (xs.take j.toNat).length (ints (xs.take j.toNat))) :: T, O⟩ Q) :
    WpL P n m G md ops ({ dst := some d, op := .slice t x none (some y) none, type := tt, pos := pos, after := after, guard := none } :: l) ⟨T, O⟩ Q := by
  subst hl
  refine WpL.subImm hP ht hx (.inl ⟨rfl, rfl⟩) (.inr ⟨_, _, rfl, hy⟩) (by omega) hn ?_
  have e1 : (xs.take j.toNat).length = j.toNat := by simp; omega
  rw [e1] at h
  simpa [ints, List.map_take] using h
theorem WpL.subInts (hP : TabOk P tab) {t e b : Nat} {zs : List AV} {x y z : Operand} {len : Nat} {xs : List Int} {kk k2 : IntKind} {i j : Int} (ht : tlook tab t = some (.slice e 1 b zs)) (hx : av T x = .imm 1 len (ints xs)) (hy : av T y = .sc (.int kk i)) (hz : av T z = .sc (.int k2 j)) (hl : len = xs.length)
    (hb : 0 ≤ i ∧ i ≤ j ∧ j ≤ xs.length) (hn : d < n) (h : WpL P n m G md ops l ⟨(d, .imm 1 ((xs.drop i.toNat).take (j.toNat - i.toNat)).length (ints ((xs.drop i.toNat).take (j.toNat - i.toNat)))) :: T, O⟩ Q) :
    WpL P n m G md ops ({ dst := some d, op := .slice t x (some y) (some z) none, type := tt, pos := pos, after := after, guard := none } :: l) ⟨T, O⟩ Q := by
  subst hl
  refine WpL.subImm hP ht hx (.inr ⟨_, _, rfl, hy⟩) (.inr ⟨_, _, rfl, hz⟩) (by omega) hn ?_
  have e1 : ((xs.drop i.toNat).take (j.toNat - i.toNat)).length = j.toNat - i.toNat := by simp; omega
  rw [e1] at h
  simpa [ints, List.map_take, List.map_drop] using h
end

/-- A contract in two cases. -/
def FnB (P : Program) (f : FuncId) (args : List AV) (p : Prop) (N1 : List AObj) (r1 : AV) (N0 : List AObj) (r0 : AV) : Prop := (p → FnC P f args N1 r1) ∧ (¬ p → FnC P f args N0 r0)
theorem WpL.callB {P : Program} {n m : Nat} {G : Ctx} {T : List (Nat × AV)} {O : List AObj} {Q : Exit → St → Prop} {ops : Array Oper} {l : List Oper} {d : Nat} {tt : TypeId} {pos : String} {after : Array Edge} {f : FuncId} {xs : List Operand} {ats : Array TypeId} {As : List AV} {p : Prop} {N1 N0 : List AObj} {r1 r0 r1' r0' : AV} {id : Nat} (hc : FnB P f As p N1 r1 N0 r0) (hs : Snap O (xs.map (av T)) As)
    (hl1 : Loc [r1]) (hN1 : Out N1) (hl0 : Loc [r0]) (hN0 : Out N0) (hid : cnt O.length 0 = some id) (hok1 : r1.shOk = true) (hre1 : r1.shF id = some r1') (hok0 : r0.shOk = true) (hre0 : r0.shF id = some r0') (hn : d < n)
    (h1 : p → WpL P n m G false ops l ⟨(d, r1') :: T, O ++ N1⟩ Q) (h0 : ¬ p → WpL P n m G false ops l ⟨(d, r0') :: T, O ++ N0⟩ Q) :
    WpL P n m G false ops ({ dst := some d, op := .call { callee := .value (.func f), args := xs.toArray, argTypes := ats }, type := tt, pos := pos, after := after, guard := none } :: l) ⟨T, O⟩ Q := by
  by_cases hp : p
  · exact WpL.callF (hc.1 hp) hs hl1 hN1 hid hok1 hre1 hn (h1 hp)
  · exact WpL.callF (hc.2 hp) hs hl0 hN0 hid hok0 hre0 hn (h0 hp)
end Go.Abs
