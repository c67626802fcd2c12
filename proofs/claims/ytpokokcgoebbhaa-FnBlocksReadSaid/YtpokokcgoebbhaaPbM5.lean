/- Proved in this text: lemmas and contracts of functions that the claim uses (parts: AbsS, AbsT, AbsU). No condition. -/
import Derived.Test.YtpokokcgoebbhaaPbM4

/- Slices of structs: their cells in rows, one row an element; rules that read, write and append rows, also rows that own a slice. No condition. -/
namespace Go.Abs
open Go
set_option linter.unusedVariables false
set_option linter.unusedSimpArgs false

def rows {α : Type} (f : α → List AV) (l : List α) : List AV := l.flatMap f
section
variable {α : Type} {f : α → List AV} {k : Nat}
theorem rows_cons (a : α) (l : List α) : rows f (a :: l) = f a ++ rows f l := by simp [rows]
theorem rows_append (a b : List α) : rows f (a ++ b) = rows f a ++ rows f b := by simp [rows]
theorem rows_one (a : α) : rows f [a] = f a := by simp [rows]
theorem rows_len (hk : ∀ a, (f a).length = k) (l : List α) : (rows f l).length = l.length * k := by
  induction l with
  | nil => simp [rows]
  | cons a l ih => rw [rows_cons, List.length_append, hk, ih, List.length_cons, Nat.add_mul]; omega
theorem rows_rep {zs : List AV} {z : α} (h : f z = zs) (n : Nat) : (List.replicate n zs).flatten = rows f (List.replicate n z) := by
  subst h; induction n with
  | zero => rfl
  | succ n ih => rw [List.replicate_succ, List.replicate_succ, List.flatten_cons, rows_cons, ih]
theorem rows_put (hk : ∀ a, (f a).length = k) {l : List α} {i : Nat} (h : i < l.length) (b : α) : rows f (l.set i b) = rows f (l.take i) ++ (f b ++ rows f (l.drop (i + 1))) := by
  rw [List.set_eq_take_append_cons_drop, if_pos h, rows_append, rows_cons]
variable [Inhabited α]
theorem rows_split {l : List α} {i : Nat} (h : i < l.length) : rows f l = rows f (l.take i) ++ (f (l.getD i default) ++ rows f (l.drop (i + 1))) := by
  have e : l = l.take i ++ (l[i] :: l.drop (i + 1)) := by rw [← List.drop_eq_getElem_cons h, List.take_append_drop]
  have e2 : l.getD i default = l[i] := by simp [h]
  rw [e2]
  conv => lhs; rw [e]
  rw [rows_append, rows_cons]
theorem rows_get (hk : ∀ a, (f a).length = k) {l : List α} {i o : Nat} {V : AV} (h : i < l.length) (hv : (f (l.getD i default))[o]? = some V) : (rows f l)[i * k + o]? = some V := by
  have ho : o < k := by rw [← hk (l.getD i default)]; exact (List.getElem?_eq_some_iff.1 hv).1
  have h1 : (rows f (l.take i)).length = i * k := by rw [rows_len hk, List.length_take, Nat.min_eq_left (by omega)]
  rw [rows_split h, List.getElem?_append_right (by omega), h1, Nat.add_sub_cancel_left, List.getElem?_append_left (by rw [hk]; exact ho)]
  exact hv
theorem rows_row (hk : ∀ a, (f a).length = k) {l : List α} {i : Nat} (h : i < l.length) : ((rows f l).drop (i * k)).take k = f (l.getD i default) := by
  have h1 : (rows f (l.take i)).length = i * k := by rw [rows_len hk, List.length_take, Nat.min_eq_left (by omega)]
  rw [rows_split h, List.drop_left' h1, List.take_left' (hk _)]
theorem rows_set (hk : ∀ a, (f a).length = k) {l : List α} {i o : Nat} {V : AV} (h : i < l.length) (ho : o < k) {b : α} (hb : (f (l.getD i default)).set o V = f b) : (rows f l).set (i * k + o) V = rows f (l.set i b) := by
  have h1 : (rows f (l.take i)).length = i * k := by rw [rows_len hk, List.length_take, Nat.min_eq_left (by omega)]
  rw [rows_put hk h, rows_split h, List.set_append_right _ _ (by omega), h1, Nat.add_sub_cancel_left, List.set_append_left _ _ (by rw [hk]; exact ho), hb]
theorem setL_mid (A D : List AV) : ∀ (Vs B : List AV), B.length = Vs.length → setL (A ++ (B ++ D)) A.length Vs = A ++ (Vs ++ D) := by
  intro Vs
  induction Vs generalizing A with
  | nil => intro B hB; have : B = [] := List.eq_nil_of_length_eq_zero (by simpa using hB); subst this; rfl
  | cons V Vs ih =>
    intro B hB
    cases B with
    | nil => simp at hB
    | cons b B =>
      rw [setL, List.set_append_right _ _ (Nat.le_refl _), Nat.sub_self]
      simp only [List.cons_append, List.set_cons_zero]
      have := ih (A ++ [V]) B (by simpa using hB)
      simp only [List.append_assoc, List.cons_append, List.nil_append, List.length_append, List.length_cons, List.length_nil] at this
      exact this
theorem rows_setL (hk : ∀ a, (f a).length = k) {l : List α} {i : Nat} (h : i < l.length) (b : α) : setL (rows f l) (i * k) (f b) = rows f (l.set i b) := by
  have h1 : (rows f (l.take i)).length = i * k := by rw [rows_len hk, List.length_take, Nat.min_eq_left (by omega)]
  rw [rows_put hk h, rows_split h, ← h1]
  exact setL_mid _ _ _ _ (by rw [hk, hk])
end

theorem still_rows {α : Type} {f : α → List AV} (h : ∀ a, (f a).all AV.still = true) (l : List α) : (rows f l).all AV.still = true := by
  unfold rows; rw [List.all_flatMap]; rw [List.all_eq_true]; intro a _; exact h a
theorem nofre_rows {α : Type} {f : α → List AV} (h : ∀ a, (f a).all AV.nofre = true) (l : List α) : (rows f l).all AV.nofre = true := by
  unfold rows; rw [List.all_flatMap]; rw [List.all_eq_true]; intro a _; exact h a
theorem Loc.append {a b : List AV} (h1 : Loc a) (h2 : Loc b) : Loc (a ++ b) := by
  induction h1 with
  | nil => exact h2
  | any _ ih => exact .any ih
  | sc _ ih => exact .sc ih
  | nilS _ ih => exact .nilS ih
  | own _ ih => exact .own ih
  | fre h _ _ ih => exact .fre h ih
  | agg h _ _ ih => exact .agg h ih
  | tup h _ _ ih => exact .tup h ih
theorem Loc.rows {α : Type} {f : α → List AV} (h : ∀ a, Loc (f a)) (l : List α) : Loc (rows f l) := by
  induction l with
  | nil => exact .nil
  | cons a l ih => rw [rows_cons]; exact Loc.append (h a) ih
theorem Snap.append {O : List AObj} {a b c d : List AV} (h1 : Snap O a c) (h2 : Snap O b d) : Snap O (a ++ b) (c ++ d) := by
  induction h1 with
  | nil => exact h2
  | any _ ih => exact .any ih
  | keep p q _ ih => exact .keep p q ih
  | nilI _ ih => exact .nilI ih
  | own p q r s t u _ _ ih => exact .own p q r s t u ih
  | ownO p q r s t u v _ _ ih => exact .ownO p q r s t u v ih
  | fre h _ _ ih => exact .fre h ih
  | ptr p q h _ _ ih => exact .ptr p q h ih
  | agg h _ _ ih => exact .agg h ih
  | fn h _ _ ih => exact .fn h ih
theorem Snap.rows {α : Type} {O : List AObj} {f g : α → List AV} (h : ∀ a, Snap O (f a) (g a)) (l : List α) : Snap O (rows f l) (rows g l) := by
  induction l with
  | nil => exact .nil
  | cons a l ih => rw [rows_cons, rows_cons]; exact Snap.append (h a) ih
theorem Snap.ownR1 {α : Type} {f g : α → List AV} {O : List AObj} {id ep len len' : Nat} {a : List α} {ty : Option TypeId} {vs us : List AV} (h1 : O[id]? = some ⟨Abs.rows f a, ep, 2, ty⟩) (hf : ∀ x, (f x).length = 2) (hg : ∀ x, Snap O (f x) (g x)) (h4 : len = (a.drop 1).length) (h5 : len = len') (r2 : Snap O vs us) : Snap O (.own id ep 2 len :: vs) (.imm 2 len' (Abs.rows g (a.drop 1)) :: us) := by
  refine .ownO h1 rfl rfl (ds := Abs.rows f (a.drop 1)) ?_ ?_ h5 (Snap.rows hg _) r2
  · cases a with
    | nil => rfl
    | cons x a =>
      rw [rows_cons]
      have : (f x).length = 2 := hf x
      rw [List.drop_left' this]; rfl
  · subst h4
    have : ∀ b : List α, b.length * 2 = (Abs.rows f b).length := fun b => by
      induction b with
      | nil => rfl
      | cons x b ih => rw [rows_cons, List.length_append, hf x, List.length_cons]; omega
    exact this _

section
variable {P : Program} {n m : Nat} {G : Ctx} {T : List (Nat × AV)} {O : List AObj} {Q : Exit → St → Prop} {ops : Array Oper} {l : List Oper} {d : Nat} {tt : TypeId} {pos : String} {after : Array Edge} {tab : List (Nat × Ty)} {md : Bool}
variable {α : Type} [Inhabited α] {f : α → List AV} {k i : Nat} {xs : List α}

/-! Addresses of elements, their places told by a natural number. -/
theorem WpL.idxIN (hP : TabOk P tab) {t e b : Nat} {zs cs : List AV} {x y : Operand} {len i k : Nat} {kk : IntKind} (ht : tlook tab t = some (.slice e k b zs)) (hx : av T x = .imm k len cs) (hy : av T y = .sc (.int kk (i : Int)))
    (hj : i < len) (hn : d < n) (h : WpL P n m G md ops l ⟨(d, .iptr cs (i * k)) :: T, O⟩ Q) :
    WpL P n m G md ops ({ dst := some d, op := .indexAddr t x y, type := tt, pos := pos, after := after, guard := none } :: l) ⟨T, O⟩ Q :=
  WpL.idxI hP ht hx hy (by omega) hn (by simpa using h)
theorem WpL.idxON (hP : TabOk P tab) {t e b : Nat} {zs : List AV} {x y : Operand} {id ep len i k : Nat} {ob : AObj} {kk : IntKind} (ht : tlook tab t = some (.slice e k b zs)) (hx : av T x = .own id ep 0 len)
    (ho : O[id]? = some ob) (he : ob.ep = ep) (hy : av T y = .sc (.int kk (i : Int))) (hj : i < len) (hn : d < n) (h : WpL P n m G md ops l ⟨(d, .ptr id ep (i * k)) :: T, O⟩ Q) :
    WpL P n m G md ops ({ dst := some d, op := .indexAddr t x y, type := tt, pos := pos, after := after, guard := none } :: l) ⟨T, O⟩ Q :=
  WpL.idxO hP ht hx ho he hy (by omega) hn (by simpa using h)

theorem WpL.idxIJ (hP : TabOk P tab) {t e b : Nat} {zs cs : List AV} {x y : Operand} {len : Nat} {j : Int} {kk : IntKind} (ht : tlook tab t = some (.slice e 1 b zs)) (hx : av T x = .imm 1 len cs) (hy : av T y = .sc (.int kk j))
    (hj : 0 ≤ j ∧ j < len) (hn : d < n) (h : WpL P n m G md ops l ⟨(d, .iptr cs j.toNat) :: T, O⟩ Q) :
    WpL P n m G md ops ({ dst := some d, op := .indexAddr t x y, type := tt, pos := pos, after := after, guard := none } :: l) ⟨T, O⟩ Q :=
  WpL.idxI hP ht hx hy hj hn (by simpa using h)
theorem WpL.idxOJ (hP : TabOk P tab) {t e b : Nat} {zs : List AV} {x y : Operand} {id ep len : Nat} {ob : AObj} {j : Int} {kk : IntKind} (ht : tlook tab t = some (.slice e 1 b zs)) (hx : av T x = .own id ep 0 len)
    (ho : O[id]? = some ob) (he : ob.ep = ep) (hy : av T y = .sc (.int kk j)) (hj : 0 ≤ j ∧ j < len) (hn : d < n) (h : WpL P n m G md ops l ⟨(d, .ptr id ep j.toNat) :: T, O⟩ Q) :
    WpL P n m G md ops ({ dst := some d, op := .indexAddr t x y, type := tt, pos := pos, after := after, guard := none } :: l) ⟨T, O⟩ Q :=
  WpL.idxO hP ht hx ho he hy hj hn (by simpa using h)

/-! An element, and a field of one. -/
theorem WpL.loadRow (hP : TabOk P tab) {t : TypeId} {x : Operand} {offs : List Nat} {zs : List AV} (ht : tlook tab t = some (.struct offs k zs)) (hm : Abs.reg O (av T x) = some (rows f xs, i * k)) (hk : ∀ a, (f a).length = k)
    (hf : ∀ a, (f a).all AV.nofre = true) (hi : i < xs.length) (hn : d < n) {ds : List AV} (hds : catF (f (xs.getD i default)) [] = some ds) (h : WpL P n m G md ops l ⟨(d, .agg ds) :: T, O⟩ Q) :
    WpL P n m G md ops ({ dst := some d, op := .load t x, type := tt, pos := pos, after := after, guard := none } :: l) ⟨T, O⟩ Q := by
  have e := catF_eq hds
  rw [List.append_nil] at e
  subst e
  exact WpL.loadAgg hP ht hm (rows_row hk hi) (hk _) (hf _) hn h
theorem WpL.loadField (hP : TabOk P tab) {t : TypeId} {x : Operand} {ty : Ty} {o : Nat} {V : AV} (ht : tlook tab t = some ty) (hp : ty.plain = true) (hm : Abs.reg O (av T x) = some (rows f xs, i * k + o)) (hk : ∀ a, (f a).length = k)
    (hv : (f (xs.getD i default))[o]? = some V) (hf : V.nofre = true) (hi : i < xs.length) (hn : d < n) (h : WpL P n m G md ops l ⟨(d, V) :: T, O⟩ Q) :
    WpL P n m G md ops ({ dst := some d, op := .load t x, type := tt, pos := pos, after := after, guard := none } :: l) ⟨T, O⟩ Q :=
  WpL.load1 hP ht hp hm (rows_get hk hi hv) hf hn h

/-- A field that owns a slice: the slice becomes an object of its own, which the field names. -/
theorem WpL.loadOwn (hP : TabOk P tab) {t : TypeId} {x : Operand} {ty : Ty} {id ep sz o s len : Nat} {te : Option TypeId} {cs : List AV} (ht : tlook tab t = some ty) (hp : ty.plain = true) (hx : av T x = .ptr id ep (i * k + o)) (ho : O[id]? = some ⟨rows f xs, ep, sz, te⟩) (hk : ∀ a, (f a).length = k)
    (hv : (f (xs.getD i default))[o]? = some (.fre s len cs)) (hi : i < xs.length) (hn : d < n) {j : Nat} (hcnt : cnt O.length 0 = some j)
    (h : WpL P n m G false ops l ⟨(d, .own j 0 0 len) :: T, O.set id ⟨(rows f xs).set (i * k + o) (.own j 0 0 len), ep, sz, te⟩ ++ [⟨cs, 0, s, none⟩]⟩ Q) :
    WpL P n m G false ops ({ dst := some d, op := .load t x, type := tt, pos := pos, after := after, guard := none } :: l) ⟨T, O⟩ Q := by
  have hj := cnt_eq hcnt
  rw [Nat.add_zero] at hj
  subst hj
  have hg := rows_get hk hi hv
  have hlt := (List.getElem?_eq_some_iff.1 hg).1
  have hidl := (List.getElem?_eq_some_iff.1 ho).1
  refine WpL.weak (σ' := ⟨T, O.set id ⟨(rows f xs).set (i * k + o) (.own O.length 0 0 len), ep, sz, te⟩ ++ [⟨cs, 0, s, none⟩]⟩) ?_ ?_
  · rintro n' G' a w ⟨S, ι, F, hr⟩
    obtain ⟨ι', F', hr'⟩ := hr.unnest ho hg
    exact ⟨S, ι', F', hr'⟩
  · refine WpL.load1 hP ht hp (off := i * k + o) (cells := (rows f xs).set (i * k + o) (.own O.length 0 0 len)) ?_ (V := .own O.length 0 0 len) ?_ rfl hn h
    · rw [hx]
      have : (O.set id ⟨(rows f xs).set (i * k + o) (.own O.length 0 0 len), ep, sz, te⟩ ++ [⟨cs, 0, s, none⟩])[id]? = some ⟨(rows f xs).set (i * k + o) (.own O.length 0 0 len), ep, sz, te⟩ := by
        rw [List.getElem?_append_left (by simpa using hidl)]; simp [hidl]
      simp only [Abs.reg, this, Nat.beq_refl]
    · simp [hlt]

/-- A cell's own slice, named by an object's number, becomes the cell's. -/
theorem Weak.nest {id j off epj len : Nat} {ob oj : AObj} (ho : O[id]? = some ob) (hj : O[j]? = some oj) (hne : Nat.beq id j = false) (hm : m ≤ j) (hc : ob.cells[off]? = some (.own j epj 0 len)) (hep : oj.ep = epj) (hst : oj.cells.all AV.still = true) (hlen : len * oj.size = oj.cells.length) :
    Weak m ⟨T, O⟩ ⟨T, (O.set id ⟨ob.cells.set off (.fre oj.size len oj.cells), ob.ep, ob.size, ob.ty⟩).set j ⟨[], oj.ep + 1, 0, none⟩⟩ := by
  rintro n' G' a w ⟨S, ι, F, hr⟩
  obtain ⟨F', hr'⟩ := hr.nest ho hj (by rintro rfl; rw [Nat.beq_refl] at hne; cases hne) hm hc hep hst hlen
  exact ⟨S, _, F', hr'⟩
theorem Weak.trans {m : Nat} {σ σ' σ'' : St} (h1 : Weak m σ σ') (h2 : Weak m σ' σ'') : Weak m σ σ'' := fun n G a w h => h2 n G a w (h1 n G a w h)

theorem Weak.nestRow {id j i k o epj len ep sz : Nat} {te : Option TypeId} {α : Type} [Inhabited α] {f : α → List AV} {xs : List α} {b : α} {oj : AObj} {σ' : St} (ho : O[id]? = some ⟨(rows f xs).set (i * k + o) (.own j epj 0 len), ep, sz, te⟩) (hj : O[j]? = some oj) (hne : Nat.beq id j = false) (hm : m ≤ j) (hep : oj.ep = epj)
    (hst : oj.cells.all AV.still = true) (hlen : len * oj.size = oj.cells.length) (hk : ∀ a, (f a).length = k) (hok : Nat.blt o k = true) (hi : i < xs.length) {len' : Nat} (hb : (f (xs.getD i default)).set o (.fre oj.size len' oj.cells) = f b) (hll : len = len')
    (h : Weak m ⟨T, (O.set id ⟨rows f (xs.set i b), ep, sz, te⟩).set j ⟨[], oj.ep + 1, 0, none⟩⟩ σ') : Weak m ⟨T, O⟩ σ' := by
  subst hll
  have hok : o < k := by simpa [Nat.blt_eq] using hok
  refine Weak.trans (Weak.nest (off := i * k + o) ho hj hne hm ?_ hep hst hlen) ?_
  · have : i * k + o < (rows f xs).length := by
      rw [rows_len hk]
      have : (i + 1) * k ≤ xs.length * k := Nat.mul_le_mul_right k hi
      rw [Nat.add_mul] at this; omega
    simp [this]
  · simp only [List.set_set]
    rw [rows_set hk hi hok hb]
    exact h
/-! Stores of a field and of a whole element. -/
theorem WpL.storeRow (hP : TabOk P tab) {t : Nat} {x y : Operand} {id ep sz : Nat} {te : Option TypeId} {offs : List Nat} {zs ds : List AV} {b : α} (ht : tlook tab t = some (.struct offs k zs)) (hx : av T x = .ptr id ep (i * k)) (ho : O[id]? = some ⟨rows f xs, ep, sz, te⟩)
    (hy : (av T y).force = some (.agg ds)) (hone : ds.all (oneB O) = true) (hk : ∀ a, (f a).length = k) (hb : ds = f b) (hi : i < xs.length)
    (h : WpL P n m G false ops l ⟨T, O.set id ⟨rows f (xs.set i b), ep, sz, te⟩⟩ Q) :
    WpL P n m G false ops ({ dst := none, op := .store t x y, type := tt, pos := pos, after := after, guard := none } :: l) ⟨T, O⟩ Q := by
  subst hb
  refine WpL.store hP ht hx ho rfl hy (Vs := f b) rfl (by rw [hk]; rfl) hone ?_ ?_
  · simp only; rw [hk, rows_len hk]
    have : (i + 1) * k ≤ xs.length * k := Nat.mul_le_mul_right k hi
    rw [Nat.add_mul] at this; omega
  · rw [rows_setL hk hi]; exact h

end
/-! Appending an element. -/
section
variable {P : Program} {n m : Nat} {G : Ctx} {T : List (Nat × AV)} {O : List AObj} {Q : Exit → St → Prop} {ops : Array Oper} {l : List Oper} {d : Nat} {tt : TypeId} {pos : String} {after : Array Edge} {tab : List (Nat × Ty)} {md : Bool}
variable {α : Type} {f : α → List AV} {k i : Nat} {xs : List α}
theorem WpL.appRow (hP : TabOk P tab) {t e b : Nat} {zs ds : List AV} {x y : Operand} {id ep len : Nat} {Vy : AV} {v : α} (ht : tlook tab t = some (.slice e k b zs)) (hx : av T x = .own id ep 0 len) (ho : O[id]? = some ⟨rows f xs, ep, k, some e⟩) (hm : m ≤ id)
    (hy : (av T y).force = some Vy) (hs : srcB O Vy = some (ds, 1)) (hk : ∀ a, (f a).length = k) (hv : ds = f v) (hone : ds.all (oneB O) = true) (hol : xs.length = len) (hb : (len + 1) * b ≤ 140737488355328 ∧ len + 1 ≤ 9223372036854775807) (hn : d < n)
    (h : WpL P n m G false ops l ⟨(d, .own id (ep + 1) 0 (len + 1)) :: T, O.set id ⟨rows f (xs ++ [v]), ep + 1, k, some e⟩⟩ Q) :
    WpL P n m G false ops ({ dst := some d, op := .call { callee := .builtin .append, args := #[x, y], argTypes := #[t, t] }, type := tt, pos := pos, after := after, guard := none } :: l) ⟨T, O⟩ Q := by
  subst hv hol
  refine WpL.appOwn hP ht hx ho rfl rfl rfl (by simp only; rw [rows_len hk]) hm hy hs (by rw [hk, Nat.one_mul]) hone hb hn ?_
  rw [rows_append, rows_one] at h; exact h
theorem WpL.appRowN (hP : TabOk P tab) {t e b : Nat} {zs ds : List AV} {x y : Operand} {id ep len o j epj lenj : Nat} {Vy : AV} {oj : AObj} {v : α} (ht : tlook tab t = some (.slice e k b zs)) (hx : av T x = .own id ep 0 len) (ho : O[id]? = some ⟨rows f xs, ep, k, some e⟩) (hm : m ≤ id)
    (hy : (av T y).force = some Vy) (hs : srcB O Vy = some (ds, 1)) (hd : ds[o]? = some (.own j epj 0 lenj)) (hj : O[j]? = some oj) (hne : Nat.beq id j = false) (hmj : m ≤ j) (hep : oj.ep = epj) (hst : oj.cells.all AV.still = true) (hlen : lenj * oj.size = oj.cells.length)
    (hk : ∀ a, (f a).length = k) {len' : Nat} (hv : ds.set o (.fre oj.size len' oj.cells) = f v) (hll : lenj = len') (hone : ds.all (oneB O) = true) (hol : xs.length = len) (hb : (len + 1) * b ≤ 140737488355328 ∧ len + 1 ≤ 9223372036854775807) (hn : d < n)
    (h : WpL P n m G false ops l ⟨(d, .own id (ep + 1) 0 (len + 1)) :: T, (O.set id ⟨rows f (xs ++ [v]), ep + 1, k, some e⟩).set j ⟨[], oj.ep + 1, 0, none⟩⟩ Q) :
    WpL P n m G false ops ({ dst := some d, op := .call { callee := .builtin .append, args := #[x, y], argTypes := #[t, t] }, type := tt, pos := pos, after := after, guard := none } :: l) ⟨T, O⟩ Q := by
  subst hol hll
  have hdl : ds.length = k := by have := congrArg List.length hv; rw [List.length_set, hk] at this; exact this
  have hok : o < k := by rw [← hdl]; exact (List.getElem?_eq_some_iff.1 hd).1
  have hidl := (List.getElem?_eq_some_iff.1 ho).1
  have hne' : id ≠ j := by rintro rfl; rw [Nat.beq_refl] at hne; cases hne
  have hrl : (rows f xs).length = xs.length * k := rows_len hk xs
  refine WpL.appOwn hP ht hx ho rfl rfl rfl (by simp only; rw [hrl]) hm hy hs (by rw [hdl, Nat.one_mul]) hone hb hn ?_
  simp only
  refine WpL.weak (Weak.nest (id := id) (j := j) (off := xs.length * k + o) (epj := epj) (len := lenj) (ob := ⟨rows f xs ++ ds, ep + 1, k, some e⟩) (oj := oj) (by simp [hidl]) (by rw [List.getElem?_set, if_neg hne']; exact hj) hne hmj ?_ hep hst hlen) ?_
  · simp only; rw [List.getElem?_append_right (by omega), hrl, Nat.add_sub_cancel_left]; exact hd
  · simp only
    rw [List.set_append_right _ _ (by omega), hrl, Nat.add_sub_cancel_left, hv, ← rows_one (f := f) v, ← rows_append, List.set_set]
    exact h
theorem WpL.makeRows (hP : TabOk P tab) {t e b id : Nat} {zs : List AV} {z : α} {x y : Operand} {kl kc : IntKind} {p : Int} (ht : tlook tab t = some (.slice e k b zs)) (hz : f z = zs) (hx : av T x = .sc (.int kl p)) (hy : av T y = .sc (.int kc p)) (hp : 0 ≤ p)
    (hb : (b : Int) * p ≤ 281474976710656 ∧ p ≤ 9223372036854775807) (hid : nid O 0 = some id) (hn : d < n) (h : WpL P n m G false ops l ⟨(d, .own id 0 0 p.toNat) :: T, O ++ [⟨rows f (List.replicate p.toNat z), 0, k, some e⟩]⟩ Q) :
    WpL P n m G false ops ({ dst := some d, op := .makeSlice t x y, type := tt, pos := pos, after := after, guard := none } :: l) ⟨T, O⟩ Q :=
  WpL.make hP ht hx hy hp hb hid hn (by rw [rows_rep hz]; exact h)
end

/-! Handing out. -/
section
variable {O : List AObj} {ids : List (Option Nat)} {N : List AObj} {α : Type} {f : α → List AV}
theorem NEx.rows {id ep sz : Nat} {ty : Option TypeId} {xs ys : List α} (hf : ∀ a, (f a).all AV.still = true) (ho : O[id]? = some ⟨Abs.rows f xs, ep, sz, ty⟩) (h : xs = ys) (r : NEx O ids N) : NEx O (some id :: ids) (⟨Abs.rows f ys, 0, sz, ty⟩ :: N) :=
  .obj ho (by rw [h]) (still_rows hf _) rfl rfl (.inr rfl) r
theorem NEx.noRows {sz : Nat} {ty : Option TypeId} {ys : List α} (h : [] = ys) (r : NEx O ids N) : NEx O (none :: ids) (⟨Abs.rows f ys, 0, sz, ty⟩ :: N) := .gone (by rw [← h]; rfl) rfl r
variable {O' os os' : List AObj} {ep ep' sz sz' : Nat} {ty ty' : Option TypeId}
theorem ReO.rows {xs ys : List α} (hf : ∀ a, (f a).all AV.still = true) (h : xs = ys) (ht : ty' = none ∨ ty' = ty) (r : ReO O O' os os') : ReO O O' (⟨Abs.rows f xs, ep, sz, ty⟩ :: os) (⟨Abs.rows f ys, ep', sz', ty'⟩ :: os') := .cons (Re.same (by rw [h]) (still_rows hf _)) ht r
end

/-! A nil slice in a new cell is an owned one of no elements. -/
inductive Nf : List AV → List AV → Prop
  | nil : Nf [] []
  | keep {V vs us} : Nf vs us → Nf (V :: vs) (V :: us)
  | fre {s vs us} : Nf vs us → Nf (.nilS :: vs) (.fre s 0 [] :: us)
theorem Nf.rel {vs us : List AV} (h : Nf vs us) : ∀ {S w ι O xs f}, LRel S w ι O vs xs f → LRel S w ι O us xs f := by
  induction h with
  | nil => intro S w ι O xs f hl; exact hl
  | keep _ ih =>
    intro S w ι O xs f hl
    obtain ⟨v, vs', f1, f2, rfl, hv, hr, rfl⟩ := hl.uncons
    exact LRel.cons hv (ih hr)
  | fre _ ih =>
    intro S w ι O xs f hl
    cases hl with
    | nilS r => exact .fre0 (ih r)
theorem Nf.len {vs us : List AV} (h : Nf vs us) : vs.length = us.length := by
  induction h with
  | nil => rfl
  | keep _ ih => simp [ih]
  | fre _ ih => simp [ih]
theorem Nf.append {a b c d : List AV} (h1 : Nf a c) (h2 : Nf b d) : Nf (a ++ b) (c ++ d) := by
  induction h1 with
  | nil => exact h2
  | keep _ ih => exact .keep ih
  | fre _ ih => exact .fre ih
theorem RelAt.cells {n m G S ι F T O a w} (hr : RelAt n m G S ι F ⟨T, O⟩ a w) {id : Nat} {ob : AObj} {cs : List AV} (ho : O[id]? = some ob) (h : ∀ O' xs f, LRel S w ι O' ob.cells xs f → LRel S w ι O' cs xs f) (hl : cs.length = ob.cells.length) :
    RelAt n m G S ι F ⟨T, O.set id ⟨cs, ob.ep, ob.size, ob.ty⟩⟩ a w := by
  have hidl : id < O.length := (List.getElem?_eq_some_iff.1 ho).1
  have hlat : Later S w ι O S w ι (O.set id ⟨cs, ob.ep, ob.size, ob.ty⟩) := by
    refine ⟨fun _ h => h, fun _ _ => rfl, fun i obi hi => ?_⟩
    by_cases e : id = i
    · subst e; rw [ho] at hi; cases hi
      exact ⟨⟨cs, ob.ep, ob.size, ob.ty⟩, by simp [hidl], .inr ⟨rfl, rfl, rfl⟩⟩
    · exact ⟨obi, by rw [List.getElem?_set, if_neg e]; exact hi, .inr ⟨rfl, rfl, rfl⟩⟩
  refine ⟨hr.defers, hr.size, fun t' => (hr.tmps t').mono hlat (fun _ _ => rfl), ⟨fun i obi hi => ?_, fun i hi => hr.objs.nodup i (by simpa using hi), fun i j hi hj => hr.objs.apart i j (by simpa using hi) (by simpa using hj)⟩, fun i hi => hr.foot i (by simpa using hi), hr.base, hr.stable, hr.keeps, hr.spots, by show m ≤ (O.set id _).length; simp only [List.length_set]; exact hr.mle⟩
  have hi : (O.set id ⟨cs, ob.ep, ob.size, ob.ty⟩)[i]? = some obi := hi
  by_cases e : id = i
  · subst e
    simp only [List.getElem?_set_self hidl, Option.some.injEq] at hi
    subst hi
    have hob := hr.objs.obj id ob ho
    unfold ObjAt at hob ⊢
    cases hs : ι id with
    | none =>
      rw [hs] at hob
      refine ⟨?_, hob.2⟩
      have : cs.length = 0 := by rw [hl, hob.1]; rfl
      exact List.eq_nil_of_length_eq_zero this
    | some p =>
      rw [hs] at hob
      obtain ⟨cur', t', fz', f2, q1, q2, q3, q4, q5, q6, q7⟩ := hob
      exact ⟨cur', t', fz', f2, q1, q2, q3, by simp only; rw [hl]; exact q4, q5, q6, by simp only; rw [hl]; exact h _ _ _ (q7.mono hlat (fun _ _ => rfl))⟩
  · rw [List.getElem?_set, if_neg e] at hi
    have hob := hr.objs.obj i obi hi
    unfold ObjAt at hob ⊢
    cases hs : ι i with
    | none => rw [hs] at hob; exact hob
    | some p =>
      rw [hs] at hob
      obtain ⟨cur', t', fz', f2, q1, q2, q3, q4, q5, q6, q7⟩ := hob
      exact ⟨cur', t', fz', f2, q1, q2, q3, q4, q5, q6, q7.mono hlat (fun _ _ => rfl)⟩
section
variable {P : Program} {n m : Nat} {G : Ctx} {T : List (Nat × AV)} {O : List AObj} {Q : Exit → St → Prop} {ops : Array Oper} {l : List Oper} {d : Nat} {tt : TypeId} {pos : String} {after : Array Edge} {tab : List (Nat × Ty)}
variable {α : Type} {f : α → List AV} {k : Nat}
end

/-! The rows of this program: pairs of numbers, blocks, macroblocks, frames, places. 'I': a slice that stays; 'F': an owned one. -/
def prF (a : Int × Int) : List AV := [I a.1, I a.2]
def plF (a : Int × Int × Int) : List AV := [I a.1, I a.2.1, I a.2.2]
abbrev Blok := Int × List Int
def blkI (b : Blok) : List AV := [I b.1, .imm 1 b.2.length (ints b.2)]
def blkF (b : Blok) : List AV := [I b.1, .fre 1 b.2.length (ints b.2)]
abbrev Mbk := Bool × List Blok
def mbI (b : Mbk) : List AV := [B b.1, .imm 2 b.2.length (rows blkI b.2)]
def mbF (b : Mbk) : List AV := [B b.1, .fre 2 b.2.length (rows blkF b.2)]
abbrev Fra := Int × Int × List Int
def frI (b : Fra) : List AV := [I b.1, I b.2.1, .imm 1 b.2.2.length (ints b.2.2)]
def frF (b : Fra) : List AV := [I b.1, I b.2.1, .fre 1 b.2.2.length (ints b.2.2)]
def liI (b : List Int) : List AV := [.imm 1 b.length (ints b)]
def liF (b : List Int) : List AV := [.fre 1 b.length (ints b)]
@[simp] theorem len_pr (l : List (Int × Int)) : (rows prF l).length = l.length * 2 := rows_len (f := prF) (fun _ => rfl) l
@[simp] theorem len_pl (l : List (Int × Int × Int)) : (rows plF l).length = l.length * 3 := rows_len (f := plF) (fun _ => rfl) l
@[simp] theorem len_bI (l : List Blok) : (rows blkI l).length = l.length * 2 := rows_len (f := blkI) (fun _ => rfl) l
@[simp] theorem len_bF (l : List Blok) : (rows blkF l).length = l.length * 2 := rows_len (f := blkF) (fun _ => rfl) l
@[simp] theorem len_mI (l : List Mbk) : (rows mbI l).length = l.length * 2 := rows_len (f := mbI) (fun _ => rfl) l
@[simp] theorem len_mF (l : List Mbk) : (rows mbF l).length = l.length * 2 := rows_len (f := mbF) (fun _ => rfl) l
@[simp] theorem len_fI (l : List Fra) : (rows frI l).length = l.length * 3 := rows_len (f := frI) (fun _ => rfl) l
@[simp] theorem len_fF (l : List Fra) : (rows frF l).length = l.length * 3 := rows_len (f := frF) (fun _ => rfl) l
theorem snap_ints {O : List AObj} (xs : List Int) : Snap O (ints xs) (ints xs) := Snap.same rfl (still_ints _) (nofre_ints _)
theorem snap_blk {O : List AObj} (b : Blok) : Snap O (blkF b) (blkI b) := .keep rfl rfl (.fre (snap_ints _) .nil)
theorem snap_mb {O : List AObj} (b : Mbk) : Snap O (mbF b) (mbI b) := .keep rfl rfl (.fre (Snap.rows snap_blk _) .nil)
theorem snap_fr {O : List AObj} (b : Fra) : Snap O (frF b) (frI b) := .keep rfl rfl (.keep rfl rfl (.fre (snap_ints _) .nil))
theorem snap_li {O : List AObj} (b : List Int) : Snap O (liF b) (liI b) := .fre (snap_ints _) .nil
theorem loc_pr (a : Int × Int) : Loc (prF a) := .sc (.sc .nil)
theorem loc_pl (a : Int × Int × Int) : Loc (plF a) := .sc (.sc (.sc .nil))
theorem loc_blk (b : Blok) : Loc (blkF b) := .sc (.fre (Loc.ints _) .nil)
theorem loc_mb (b : Mbk) : Loc (mbF b) := .sc (.fre (Loc.rows loc_blk _) .nil)
theorem loc_fr (b : Fra) : Loc (frF b) := .sc (.sc (.fre (Loc.ints _) .nil))
theorem loc_li (b : List Int) : Loc (liF b) := .fre (Loc.ints _) .nil

section
variable {P : Program} {n m : Nat} {G : Ctx} {T : List (Nat × AV)} {O : List AObj} {Q : Exit → St → Prop} {ops : Array Oper} {l : List Oper} {d : Nat} {tt : TypeId} {pos : String} {after : Array Edge} {tab : List (Nat × Ty)} {i : Nat}
theorem WpL.appBlk (hP : TabOk P tab) {t e b : Nat} {zs : List AV} {x y : Operand} {id ep len0 j epj len : Nat} {tj : Option TypeId} {Vy : AV} {xs : List Blok} {c : Int} {lv : List Int} (ht : tlook tab t = some (.slice e 2 b zs)) (hx : av T x = .own id ep 0 len0) (ho : O[id]? = some ⟨rows blkF xs, ep, 2, some e⟩) (hm : m ≤ id)
    (hy : (av T y).force = some Vy) (hs : srcB O Vy = some ([I c, .own j epj 0 len], 1)) (hj : O[j]? = some ⟨ints lv, epj, 1, tj⟩) (hone : (List.all [I c, .own j epj 0 len] (oneB O)) = true) (hne : Nat.beq id j = false) (hmj : m ≤ j) (hll : len = lv.length) (hol : xs.length = len0) (hb : (len0 + 1) * b ≤ 140737488355328 ∧ len0 + 1 ≤ 9223372036854775807) (hn : d < n)
    (h : WpL P n m G false ops l ⟨(d, .own id (ep + 1) 0 (len0 + 1)) :: T, (O.set id ⟨rows blkF (xs ++ [(c, lv)]), ep + 1, 2, some e⟩).set j ⟨[], epj + 1, 0, none⟩⟩ Q) :
    WpL P n m G false ops ({ dst := some d, op := .call { callee := .builtin .append, args := #[x, y], argTypes := #[t, t] }, type := tt, pos := pos, after := after, guard := none } :: l) ⟨T, O⟩ Q := by
  subst hll
  exact WpL.appRowN (f := blkF) (v := (c, lv)) (o := 1) hP ht hx ho hm hy hs rfl hj hne hmj rfl (still_ints _) (by simp) (fun _ => rfl) rfl rfl hone hol hb hn h
theorem Weak.nestBlk {id j epj len ep sz : Nat} {te tj : Option TypeId} {xs : List Blok} {lv : List Int} {σ' : St} (ho : O[id]? = some ⟨(rows blkF xs).set (i * 2 + 1) (.own j epj 0 len), ep, sz, te⟩) (hj : O[j]? = some ⟨ints lv, epj, 1, tj⟩) (hne : Nat.beq id j = false) (hm : m ≤ j) (hll : len = lv.length) (hi : i < xs.length)
    (h : Weak m ⟨T, (O.set id ⟨rows blkF (xs.set i ((xs.getD i default).1, lv)), ep, sz, te⟩).set j ⟨[], epj + 1, 0, none⟩⟩ σ') : Weak m ⟨T, O⟩ σ' := by
  subst hll
  exact Weak.nestRow (f := blkF) (b := ((xs.getD i default).1, lv)) ho hj hne hm rfl (still_ints _) (by simp) (fun _ => rfl) rfl hi rfl rfl h
end
end Go.Abs

/- Slices held against nil; contracts in two cases. No condition. -/
namespace Go.Abs
open Go
set_option linter.unusedVariables false
set_option linter.unusedSimpArgs false
section
variable {P : Program} {n m : Nat} {G : Ctx} {md : Bool} {T : List (Nat × AV)} {O : List AObj} {Q : Exit → St → Prop} {ops : Array Oper} {l : List Oper} {d : Nat} {tt : TypeId} {pos : String} {after : Array Edge}

theorem run_equal_nil (P : Program) {t e : TypeId} (ht : P.underlying t = some (.slice e)) (w : World) : (Op.equal t (.slice none 0 0) (.slice none 0 0)).run P w = .ok true w := by
  show (Op.equalIn (9999 + 1) t _ _).run P w = _
  rw [Op.equalIn]
  simp only [Sem.run_bind, run_underlying ht, Result.andThen_ok, Sem.run_pure, Option.isNone_none]
theorem run_equal_some (P : Program) {t e : TypeId} (ht : P.underlying t = some (.slice e)) (a : Addr) (k c : Nat) (w : World) : (Op.equal t (.slice (some a) k c) (.slice none 0 0)).run P w = .ok false w := by
  show (Op.equalIn (9999 + 1) t _ _).run P w = _
  rw [Op.equalIn]
  simp only [Sem.run_bind, run_underlying ht, Result.andThen_ok, Sem.run_pure]

theorem WpL.nilEq {t e ty : TypeId} {x y : Operand} (ht : P.underlying t = some (.slice e)) (hx : av T x = .nilS) (hy : av T y = .nilS) (hn : d < n) (h : WpL P n m G md ops l ⟨(d, .sc (.bool true)) :: T, O⟩ Q) :
    WpL P n m G md ops ({ dst := some d, op := .binOp .eql t x y ty, type := tt, pos := pos, after := after, guard := none } :: l) ⟨T, O⟩ Q :=
  WpL.pure rfl rfl hn (fun S ι F a w hr => ⟨.bool true, by
    have e1 : a.eval x = .slice none 0 0 := by
      have := hr.eval x; rw [show av (St.mk T O).T x = _ from hx] at this; exact (LRel.slice_len this).2.2 rfl
    have e2 : a.eval y = .slice none 0 0 := by
      have := hr.eval y; rw [show av (St.mk T O).T y = _ from hy] at this; exact (LRel.slice_len this).2.2 rfl
    simp only [execOp, e1, e2, eqGuard_slice, binOp, Sem.run_bind, run_equal_nil P ht, Result.andThen_ok, Sem.run_pure], .sc .nil⟩) h
theorem WpL.ownEq {t e ty : TypeId} {x y : Operand} {id ep off len : Nat} {ob : AObj} (ht : P.underlying t = some (.slice e)) (hx : av T x = .own id ep off len) (ho : O[id]? = some ob) (he : ob.ep = ep) (hl : 0 < len) (hy : av T y = .nilS) (hn : d < n)
    (h : WpL P n m G md ops l ⟨(d, .sc (.bool false)) :: T, O⟩ Q) :
    WpL P n m G md ops ({ dst := some d, op := .binOp .eql t x y ty, type := tt, pos := pos, after := after, guard := none } :: l) ⟨T, O⟩ Q :=
  WpL.pure rfl rfl hn (fun S ι F a w hr => ⟨.bool false, by
    have e2 : a.eval y = .slice none 0 0 := by
      have := hr.eval y; rw [show av (St.mk T O).T y = _ from hy] at this; exact (LRel.slice_len this).2.2 rfl
    have hv := hr.eval x
    rw [show av (St.mk T O).T x = _ from hx] at hv
    have e1 : ∃ ad c, a.eval x = .slice (some ad) len c := by
      generalize a.eval x = v at hv
      cases hv with
      | own q1 q2 q3 r =>
        have ho' : (St.mk T O).O[id]? = some ob := ho
        rw [ho'] at q1; cases q1
        have := q3 he.symm
        unfold OwnAt at this
        split at this
        · omega
        · obtain ⟨cap, rfl, _⟩ := this; exact ⟨_, _, rfl⟩
    obtain ⟨ad, c, e1⟩ := e1
    simp only [execOp, e1, e2, eqGuard_slice, binOp, Sem.run_bind, run_equal_some P ht, Result.andThen_ok, Sem.run_pure], .sc .nil⟩) h
theorem WpL.pureE {o : Oper} {C : AV → Prop} (hg : o.guard = none) (hd : o.dst = some d) (hn : d < n)
    (hop : ∀ S ι F a w, RelAt n m G S ι F ⟨T, O⟩ a w → ∃ V v, C V ∧ (execOp a.eval o).run P w = .ok (.value v) w ∧ VRel S w ι O V v [])
    (h : ∀ V, C V → WpL P n m G md ops l ⟨(d, V) :: T, O⟩ Q) : WpL P n m G md ops (o :: l) ⟨T, O⟩ Q :=
  match md, h with
  | false, h => fun a w hr => by
    obtain ⟨S, ι, F, hr⟩ := hr
    obtain ⟨V, v, hC, h1, h2⟩ := hop S ι F a w hr
    have h3 := h V hC _ w ⟨S, ι, F, hr.put hn h2⟩
    refine wpList_plain hg fun K hK => ?_
    unfold Oper.wp
    rw [h1]
    exact hK _ _ (by rw [hd]; exact h3)
  | true, h => fun a w hr => by
    obtain ⟨S, ι, F, hr⟩ := hr
    obtain ⟨V, v, hC, h1, h2⟩ := hop S ι F a w hr
    have h3 := h V hC _ w ⟨S, ι, F, hr.put hn h2⟩
    simp only at h3 ⊢
    unfold wpStill
    rw [if_pos (by simp [Region.wanted, hg])]
    unfold Oper.still
    rw [h1, Oper.stillUpon_value, hd]
    exact h3
theorem WpL.immEq {t e ty : TypeId} {x y : Operand} {k len : Nat} {cs : List AV} (ht : P.underlying t = some (.slice e)) (hx : av T x = .imm k len cs) (hy : av T y = .nilS) (hn : d < n)
    (h1 : len = 0 → WpL P n m G md ops l ⟨(d, .sc (.bool true)) :: T, O⟩ Q) (h0 : WpL P n m G md ops l ⟨(d, .sc (.bool false)) :: T, O⟩ Q) :
    WpL P n m G md ops ({ dst := some d, op := .binOp .eql t x y ty, type := tt, pos := pos, after := after, guard := none } :: l) ⟨T, O⟩ Q := by
  have key : ∀ S ι F a w, RelAt n m G S ι F ⟨T, O⟩ a w → ∃ b : Bool, (b = true → len = 0) ∧ (execOp a.eval { dst := some d, op := .binOp .eql t x y ty, type := tt, pos := pos, after := after, guard := none }).run P w = .ok (.value (.bool b)) w := by
    intro S ι F a w hr
    have e2 : a.eval y = .slice none 0 0 := by
      have := hr.eval y; rw [show av (St.mk T O).T y = _ from hy] at this; exact (LRel.slice_len this).2.2 rfl
    have hv := hr.eval x
    rw [show av (St.mk T O).T x = _ from hx] at hv
    obtain ⟨_, h | ⟨b, o, cap, us, h, _⟩⟩ := imm_inv hv
    · obtain ⟨ad, cap, h, ⟨hc, _⟩, hl, _⟩ := h
      cases ad with
      | none =>
        have hc0 := hc rfl
        subst hc0
        exact ⟨true, fun _ => hl, by simp only [execOp, h, e2, eqGuard_slice, binOp, Sem.run_bind, run_equal_nil P ht, Result.andThen_ok, Sem.run_pure]⟩
      | some ad => exact ⟨false, (fun h => by cases h), by simp only [execOp, h, e2, eqGuard_slice, binOp, Sem.run_bind, run_equal_some P ht, Result.andThen_ok, Sem.run_pure]⟩
    · exact ⟨false, (fun h => by cases h), by simp only [execOp, h, e2, eqGuard_slice, binOp, Sem.run_bind, run_equal_some P ht, Result.andThen_ok, Sem.run_pure]⟩
  exact WpL.pureE (C := fun V => V = .sc (.bool true) ∧ len = 0 ∨ V = .sc (.bool false)) rfl rfl hn (fun S ι F a w hr => by
    obtain ⟨b, hb, hrun⟩ := key S ι F a w hr
    cases b with
    | true => exact ⟨_, _, .inl ⟨rfl, hb rfl⟩, hrun, .sc .nil⟩
    | false => exact ⟨_, _, .inr rfl, hrun, .sc .nil⟩) (fun V hV => by
    rcases hV with ⟨rfl, hl⟩ | rfl
    · exact h1 hl
    · exact h0)
end

/-! Parts of a slice of numbers. -/
section
variable {P : Program} {n m : Nat} {G : Ctx} {md : Bool} {T : List (Nat × AV)} {O : List AObj} {Q : Exit → St → Prop} {ops : Array Oper} {l : List Oper} {d : Nat} {tt : TypeId} {pos : String} {after : Array Edge} {tab : List (Nat × Ty)}
end

/-- A contract in two cases. -/
def FnB (P : Program) (f : FuncId) (args : List AV) (p : Prop) (N1 : List AObj) (r1 : AV) (N0 : List AObj) (r0 : AV) : Prop := (p → FnC P f args N1 r1) ∧ (¬ p → FnC P f args N0 r0)
theorem WpL.callB {P : Program} {n m : Nat} {G : Ctx} {T : List (Nat × AV)} {O : List AObj} {Q : Exit → St → Prop} {ops : Array Oper} {l : List Oper} {d : Nat} {tt : TypeId} {pos : String} {after : Array Edge} {f : FuncId} {xs : List Operand} {ats : Array TypeId} {As : List AV} {p : Prop} {N1 N0 : List AObj} {r1 r0 r1' r0' : AV} {id : Nat} (hc : FnB P f As p N1 r1 N0 r0) (hs : Snap O (xs.map (av T)) As)
    (hl1 : Loc [r1]) (hN1 : Out N1) (hl0 : Loc [r0]) (hN0 : Out N0) (hid : cnt O.length 0 = some id) (hok1 : r1.shOk = true) (hre1 : r1.shF id = some r1') (hok0 : r0.shOk = true) (hre0 : r0.shF id = some r0') (hn : d < n)
    (h1 : p → WpL P n m G false ops l ⟨(d, r1') :: T, O ++ N1⟩ Q) (h0 : ¬ p → WpL P n m G false ops l ⟨(d, r0') :: T, O ++ N0⟩ Q) :
    WpL P n m G false ops ({ dst := some d, op := .call { callee := .value (.func f), args := xs.toArray, argTypes := ats }, type := tt, pos := pos, after := after, guard := none } :: l) ⟨T, O⟩ Q := by
  by_cases hp : p
  · exact WpL.callF (hc.1 hp) hs hl1 hN1 hid hok1 hre1 hn (h1 hp)
  · exact WpL.callF (hc.2 hp) hs hl0 hN0 hid hok0 hre0 hn (h0 hp)
end Go.Abs

/- Regions that draw their order and in which stores stand: the stores one behind the other, what reads memory between the stores that it stands between, all else at any time. No condition. -/
namespace Go.Abs
open Go
set_option linter.unusedVariables false
set_option linter.unusedSimpArgs false

abbrev GFact := Option (Nat × AV)
def gdeps (fs : List GFact) (o : Oper) : List (Nat × AV) := o.after.toList.filterMap fun e => if Region.binds .any e = true then (fs[e.on]?).join else none

/-- Whether an operation waits for another, straight or through others. -/
def reach (ops : Array Oper) : Nat → Nat → Nat → Bool
  | 0, _, _ => false
  | f + 1, i, j => match ops[i]? with
    | none => false
    | some o => (o.after.toList.any fun e => Region.binds .any e && Nat.beq e.on j) || (o.after.toList.any fun e => Region.binds .any e && reach ops f e.on j)

theorem reach_listed {ops : Array Oper} {n : Nat} {listed : Array Bool} (inv : HeadInv .any ops n listed) : ∀ (f i j : Nat), reach ops f i j = true → listed.getD i false = true → listed.getD j false = true
  | 0, i, j, h, _ => by simp [reach] at h
  | f + 1, i, j, h, hl => by
    rw [reach] at h
    split at h
    · cases h
    · rename_i o ho
      rcases Bool.or_eq_true_iff.1 h with h | h
      · obtain ⟨e, he, hx⟩ := List.any_eq_true.1 h
        rw [Bool.and_eq_true] at hx
        have := inv.closed i o ho hl e (by simpa using he) hx.1
        rw [Nat.eq_of_beq_eq_true hx.2] at this; exact this
      · obtain ⟨e, he, hx⟩ := List.any_eq_true.1 h
        rw [Bool.and_eq_true] at hx
        exact reach_listed inv f _ _ hx.2 (inv.closed i o ho hl e (by simpa using he) hx.1)

theorem reach_ready {ops : Array Oper} {n : Nat} {listed : Array Bool} (inv : HeadInv .any ops n listed) {f i j : Nat} (h : reach ops f i j = true) (hi : i ∈ Region.ready .any ops listed) : listed.getD j false = true := by
  obtain ⟨_, o, ho, hall⟩ := mem_ready.1 hi
  cases f with
  | zero => simp [reach] at h
  | succ f =>
    rw [reach, ho] at h
    rcases Bool.or_eq_true_iff.1 h with h | h
    · obtain ⟨e, he, hx⟩ := List.any_eq_true.1 h
      rw [Bool.and_eq_true] at hx
      have := hall e (by simpa using he) hx.1
      rw [Nat.eq_of_beq_eq_true hx.2] at this; exact this
    · obtain ⟨e, he, hx⟩ := List.any_eq_true.1 h
      rw [Bool.and_eq_true] at hx
      exact reach_listed inv f _ _ hx.2 (hall e (by simpa using he) hx.1)

/-- Objects as told, where they are told. -/
inductive Pat : List (Option AObj) → List AObj → Prop
  | nil {R} : Pat [] R
  | one {ob ps R} (r : Pat ps R) : Pat (some ob :: ps) (ob :: R)
  | any {ob ps R} (r : Pat ps R) : Pat (none :: ps) (ob :: R)
theorem Pat.all : ∀ {Op A : List AObj}, Pat (Op.map some) A → ∃ R, A = Op ++ R
  | [], A, _ => ⟨A, rfl⟩
  | ob :: Op, _, .one r => by obtain ⟨R, rfl⟩ := Pat.all r; exact ⟨R, rfl⟩
/-- What an operation of such a region does. Kind 0: it leans on the objects that 'Op' tells alone; 1: it runs between its neighbours among the steps; 2: a step. -/
inductive OpG (P : Program) (n m : Nat) (G : Ctx) (ops : Array Oper) (T0 : List (Nat × AV)) (F : List (Nat × AV)) (o : Oper) : Nat → GFact → Option (List (Option AObj)) → List AObj → List AObj → Prop
  | pre {d V O} (Op : List (Option AObj)) (hd : o.dst = some d) (h : ∀ Tv Ov, Pat Op Ov → WpL P n m G false ops [o] ⟨F ++ (T0 ++ Tv), Ov⟩ (Only ⟨(d, V) :: (F ++ (T0 ++ Tv)), Ov⟩)) : OpG P n m G ops T0 F o 0 (some (d, V)) (some Op) O O
  | fixed {d V O} (hd : o.dst = some d) (h : ∀ Tv, WpL P n m G false ops [o] ⟨F ++ (T0 ++ Tv), O⟩ (Only ⟨(d, V) :: (F ++ (T0 ++ Tv)), O⟩)) : OpG P n m G ops T0 F o 1 (some (d, V)) none O O
  | step {d V O O'} (hd : o.dst = some d) (h : ∀ Tv, WpL P n m G false ops [o] ⟨F ++ (T0 ++ Tv), O⟩ (Only ⟨(d, V) :: (F ++ (T0 ++ Tv)), O'⟩)) : OpG P n m G ops T0 F o 2 (some (d, V)) none O O'
  | stepN {O O'} (hd : o.dst = none) (h : ∀ Tv, WpL P n m G false ops [o] ⟨F ++ (T0 ++ Tv), O⟩ (Only ⟨F ++ (T0 ++ Tv), O'⟩)) : OpG P n m G ops T0 F o 2 none none O O'

inductive HeadG (P : Program) (n m : Nat) (G : Ctx) (ops : Array Oper) (T0 : List (Nat × AV)) : List GFact → List AObj → List Oper → List GFact → List Nat → List (Option (List (Option AObj))) → List (List AObj) → List AObj → Prop
  | nil {fs O} : HeadG P n m G ops T0 fs O [] [] [] [] [O] O
  | still {fs O o l x k y out ks ds Os O' F} (hF : gdeps fs o = F) (hk : k < 2) (h : OpG P n m G ops T0 F o k x y O O) (r : HeadG P n m G ops T0 (fs ++ [x]) O l out ks ds Os O') : HeadG P n m G ops T0 fs O (o :: l) (x :: out) (k :: ks) (y :: ds) Os O'
  | step {fs O o l x y out ks ds Os O1 O' F} (hF : gdeps fs o = F) (h : OpG P n m G ops T0 F o 2 x y O O1) (r : HeadG P n m G ops T0 (fs ++ [x]) O1 l out ks ds Os O') : HeadG P n m G ops T0 fs O (o :: l) (x :: out) (2 :: ks) (y :: ds) (O :: Os) O'

def isS (ks : List Nat) (j : Nat) : Bool := Nat.beq (ks.getD j 0) 2
def sc (ks : List Nat) (j : Nat) : Nat := ((List.range j).filter (isS ks)).length

theorem sc_cons (k : Nat) (ks : List Nat) (j : Nat) : sc (k :: ks) (j + 1) = (if Nat.beq k 2 = true then 1 else 0) + sc ks j := by
  unfold sc
  rw [List.range_succ_eq_map, List.filter_cons, List.filter_map]
  have : (isS (k :: ks) ∘ Nat.succ) = isS ks := by funext x; simp [isS]
  rw [this]
  have h0 : isS (k :: ks) 0 = Nat.beq k 2 := by simp [isS]
  rw [h0]
  split <;> simp <;> omega

section
variable {P : Program} {n m : Nat} {G : Ctx} {ops : Array Oper} {T0 : List (Nat × AV)}

theorem HeadG.hd {fs O l out ks ds Os O'} (h : HeadG P n m G ops T0 fs O l out ks ds Os O') : Os[0]? = some O := by
  induction h with
  | nil => rfl
  | still _ _ _ _ ih => exact ih
  | step => rfl
theorem HeadG.lens {fs O l out ks ds Os O'} (h : HeadG P n m G ops T0 fs O l out ks ds Os O') : out.length = l.length ∧ ks.length = l.length ∧ Os[sc ks l.length]? = some O' := by
  induction h with
  | nil => exact ⟨rfl, rfl, rfl⟩
  | @still fs O o l x k y out ks ds Os O' F _ hk _ _ ih =>
    have e : ¬ Nat.beq k 2 = true := by intro h; have := Nat.eq_of_beq_eq_true h; omega
    refine ⟨by simp [ih.1], by simp [ih.2.1], ?_⟩
    rw [List.length_cons, sc_cons, if_neg e, Nat.zero_add]; exact ih.2.2
  | @step fs O o l x y out ks ds Os O1 O' F _ _ _ ih =>
    refine ⟨by simp [ih.1], by simp [ih.2.1], ?_⟩
    rw [List.length_cons, sc_cons, if_pos (show Nat.beq 2 2 = true from rfl), Nat.add_comm]; simpa using ih.2.2
theorem HeadG.at {fs O l out ks ds Os O'} (h : HeadG P n m G ops T0 fs O l out ks ds Os O') : ∀ {j : Nat} {o : Oper}, l[j]? = some o → ∃ x k y A B, out[j]? = some x ∧ ks[j]? = some k ∧ ds[j]? = some y ∧ Os[sc ks j]? = some A ∧
    Os[(if isS ks j = true then 1 else 0) + sc ks j]? = some B ∧ OpG P n m G ops T0 (gdeps (fs ++ out.take j) o) o k x y A B := by
  induction h with
  | nil => intro j o h; simp at h
  | @still fs O o l x k y out ks ds Os O' F hF hk h r ih =>
    intro j o' hj
    have e : ¬ Nat.beq k 2 = true := by intro h; have := Nat.eq_of_beq_eq_true h; omega
    cases j with
    | zero =>
      simp only [List.getElem?_cons_zero, Option.some.injEq] at hj
      subst hj
      have h0 : isS (k :: ks) 0 = Nat.beq k 2 := by simp [isS]
      refine ⟨x, k, y, O, O, rfl, rfl, rfl, r.hd, ?_, ?_⟩
      · rw [h0, if_neg e]; exact r.hd
      · simp only [List.take_zero, List.append_nil]; rw [hF]; exact h
    | succ j =>
      obtain ⟨x', k', y', A, B, h1, h2, h2', h3, h4, h5⟩ := ih (j := j) (o := o') (by simpa using hj)
      have hs : isS (k :: ks) (j + 1) = isS ks j := by simp [isS]
      refine ⟨x', k', y', A, B, by simpa using h1, by simpa using h2, by simpa using h2', ?_, ?_, ?_⟩
      · rw [sc_cons, if_neg e, Nat.zero_add]; exact h3
      · rw [hs, sc_cons, if_neg e, Nat.zero_add]; exact h4
      · rw [List.take_succ_cons]; rw [List.append_assoc] at h5; exact h5
  | @step fs O o l x y out ks ds Os O1 O' F hF h r ih =>
    intro j o' hj
    cases j with
    | zero =>
      simp only [List.getElem?_cons_zero, Option.some.injEq] at hj
      subst hj
      have h0 : isS (2 :: ks) 0 = true := by simp [isS]
      refine ⟨x, 2, y, O, O1, rfl, rfl, rfl, rfl, ?_, ?_⟩
      · rw [h0, if_pos rfl]; exact r.hd
      · simp only [List.take_zero, List.append_nil]; rw [hF]; exact h
    | succ j =>
      obtain ⟨x', k', y', A, B, h1, h2, h2', h3, h4, h5⟩ := ih (j := j) (o := o') (by simpa using hj)
      have hs : isS (2 :: ks) (j + 1) = isS ks j := by simp [isS]
      refine ⟨x', k', y', A, B, by simpa using h1, by simpa using h2, by simpa using h2', ?_, ?_, ?_⟩
      · rw [sc_cons, if_pos (show Nat.beq 2 2 = true from rfl), Nat.add_comm]; simpa using h3
      · rw [hs, sc_cons, if_pos (show Nat.beq 2 2 = true from rfl), ← Nat.add_assoc, Nat.add_comm _ 1, Nat.add_assoc, Nat.add_comm 1]; simpa using h4
      · rw [List.take_succ_cons]; rw [List.append_assoc] at h5; exact h5

/-- The shape of the waits. -/
def ordB (ops : Array Oper) (ks : List Nat) (f : Nat) : Bool :=
  (List.range ops.size).all fun j => !isS ks j || (List.range ops.size).all fun i => Nat.beq i j || Nat.beq (ks.getD i 0) 0 || (if Nat.blt j i then reach ops f i j else reach ops f j i)
def backB (ops : Array Oper) : Bool := (List.range ops.size).all (fun i => match ops[i]? with | some o => o.after.toList.all fun e => !Region.binds .any e || Nat.blt e.on i | none => true)

def factsG : List GFact → List (Nat × AV) := List.filterMap id

def cntL (ks : List Nat) (k : Nat) (listed : Array Bool) : Nat := ((List.range k).filter fun j => isS ks j && listed.getD j false).length

/-- How many steps an operation waits for. -/
def lo (ops : Array Oper) (ks : List Nat) (k f i : Nat) : Nat := ((List.range k).filter fun j => isS ks j && reach ops f i j).length
/-- The steps that may lie behind when i is taken: those that do not wait for it. -/
def hiS (ops : Array Oper) (ks : List Nat) (k f i : Nat) : Nat := ((List.range k).filter fun j => isS ks j && !reach ops f j i).length
theorem filter_len_le {p q : Nat → Bool} (L : List Nat) (h : ∀ j, j ∈ L → p j = true → q j = true) : (L.filter p).length ≤ (L.filter q).length := by
  induction L with
  | nil => simp
  | cons x L ih =>
    have ih := ih (fun j hj => h j (List.mem_cons_of_mem _ hj))
    rw [List.filter_cons, List.filter_cons]
    cases hp : p x with
    | false => simp only [Bool.false_eq_true, if_false]; split <;> (try simp only [List.length_cons]) <;> omega
    | true => rw [h x (by simp) hp]; simpa using ih
structure GoodG (n m : Nat) (G : Ctx) (T0 : List (Nat × AV)) (k : Nat) (out : List GFact) (ks : List Nat) (Os : List (List AObj)) (listed : Array Bool) (a : Act) (w : World) (T : List (Nat × AV)) : Prop where
  rel : Rel n m G ⟨T, (Os[cntL ks k listed]?).getD []⟩ a w
  facts : ∀ i d V, out[i]? = some (some (d, V)) → listed.getD i false = true → look T d = V
  other : ∀ t, has (factsG out) t = false → look T t = look T0 t

theorem cnt_set {ks : List Nat} {k : Nat} {listed : Array Bool} {i : Nat} (hik : i < k) (hsz : i < listed.size) (hun : listed.getD i false = false) :
    cntL ks k (listed.setIfInBounds i true) = (if isS ks i = true then 1 else 0) + cntL ks k listed := by
  have key : ∀ L : List Nat, L.Nodup → ((L.filter fun j => isS ks j && (listed.setIfInBounds i true).getD j false).length = (if i ∈ L ∧ isS ks i = true then 1 else 0) + (L.filter fun j => isS ks j && listed.getD j false).length) := by
    intro L
    induction L with
    | nil => intro _; simp
    | cons x L ih =>
      intro hnd
      rw [List.nodup_cons] at hnd
      have ih := ih hnd.2
      by_cases hx : x = i
      · subst hx
        have hself : (listed.setIfInBounds x true).getD x false = true := by simp [hsz]
        have ih' := ih
        simp only [hnd.1, false_and, if_false, Nat.zero_add] at ih'
        rw [List.filter_cons, List.filter_cons, hself, hun]
        have hl1 : (if x ∈ x :: L ∧ isS ks x = true then 1 else 0) = (if isS ks x = true then 1 else 0) := by simp
        rw [hl1]
        cases hs : isS ks x with
        | false => simp only [Bool.false_and, if_false, Bool.false_eq_true]; omega
        | true => simp only [Bool.and_true, Bool.and_false, if_true, if_false, Bool.false_eq_true, List.length_cons]; omega
      · rw [List.filter_cons, List.filter_cons, getD_set_ne false (Ne.symm hx)]
        have hx' : i ≠ x := Ne.symm hx
        have : (if i ∈ x :: L ∧ isS ks i = true then 1 else 0) = (if i ∈ L ∧ isS ks i = true then 1 else 0) := by simp only [List.mem_cons, hx', false_or]
        rw [this]
        split <;> (try simp only [List.length_cons]) <;> omega
  have := key (List.range k) List.nodup_range
  unfold cntL
  rw [this]
  simp [hik]

theorem cnt_eq_sc {ks : List Nat} {k : Nat} {listed : Array Bool} {i : Nat} (hik : i ≤ k) (h1 : ∀ j, j < i → isS ks j = true → listed.getD j false = true) (h2 : ∀ j, i ≤ j → j < k → isS ks j = true → listed.getD j false = false) :
    cntL ks k listed = sc ks i := by
  unfold cntL sc
  have e : k = i + (k - i) := by omega
  rw [e, List.range_add, List.filter_append, List.length_append]
  have a : ((List.range i).filter fun j => isS ks j && listed.getD j false) = (List.range i).filter (isS ks) := by
    refine List.filter_congr fun j hj => ?_
    cases hs : isS ks j with
    | false => rfl
    | true => rw [h1 j (List.mem_range.1 hj) hs]; rfl
  have b : (((List.range (k - i)).map (i + ·)).filter fun j => isS ks j && listed.getD j false) = [] := by
    rw [List.filter_eq_nil_iff]
    intro j hj
    obtain ⟨x, hx, rfl⟩ := List.mem_map.1 hj
    have hx := List.mem_range.1 hx
    cases hs : isS ks (i + x) with
    | false => simp
    | true => rw [h2 (i + x) (by omega) (by omega) hs]; simp
  rw [a, b]; rfl

theorem WpA.regionG {l : List Oper} {id : Nat} {O O' : List AObj} {out : List GFact} {ks : List Nat} {ds : List (Option (List (Option AObj)))} {Os : List (List AObj)} {T1 : List (Nat × AV)} {Q : Exit → St → Prop} (f k : Nat) (hm : P.follows .mixedOrders = true) (hM : mixB l.toArray k = true)
    (hJ : HeadG P n m G l.toArray T0 [] O (l.take k) out ks ds Os O') (hB : (backB l.toArray && ordB l.toArray ks f) = true) (hnd : nodupB ((factsG out).map (·.1)) = true) (hfr : ((factsG out).all fun p => !has T0 p.1) = true)
    (hD : ∀ i Op, ds[i]? = some (some Op) → ∀ q A, lo l.toArray ks k f i ≤ q → q ≤ hiS l.toArray ks k f i → Os[q]? = some A → Pat Op A)
    (hT1 : factsG out ++ T0 = T1) (h : WpL P n m G false l.toArray (l.drop k) ⟨T1, O'⟩ Q) : WpA P n m G (.region id l.toArray true) ⟨T0, O⟩ Q := fun a w hr => by
  subst hT1
  rw [Bool.and_eq_true] at hB
  obtain ⟨hb, hord⟩ := hB
  obtain ⟨hl1, hl2, hl3⟩ := hJ.lens
  simp only [mixB, Bool.and_eq_true, decide_eq_true_eq, Bool.or_eq_true] at hM
  obtain ⟨⟨⟨hks, _⟩, hsc⟩, hseq⟩ := hM
  have hkl : k ≤ l.length := by simpa using hks
  have hk' : (l.take k).length = k := by simp; omega
  have hs : k < l.toArray.size → Region.sinkB .any l.toArray k = true ∧ Region.chainB .any l.toArray k = true := fun hk => hsc.resolve_left (by omega)
  have back : ∀ i, i < k → ∀ o, l.toArray[i]? = some o → ∀ e ∈ o.after, Region.binds .any e = true → e.on < i := by
    intro i hi o ho e he hb'
    have h1 := List.all_eq_true.1 hb i (List.mem_range.2 (by omega))
    rw [ho] at h1
    have h2 := List.all_eq_true.1 h1 e (by simpa using he)
    rw [hb'] at h2
    simpa using h2
  have ord : ∀ i j, i < k → j < k → isS ks j = true → i ≠ j → ks.getD i 0 ≠ 0 → (j < i → reach l.toArray f i j = true) ∧ (i < j → reach l.toArray f j i = true) := by
    intro i j hi hj hs hne h0
    have h1 := List.all_eq_true.1 hord j (List.mem_range.2 (by omega))
    rw [hs, Bool.not_true, Bool.false_or] at h1
    have h2 := List.all_eq_true.1 h1 i (List.mem_range.2 (by omega))
    have e1 : Nat.beq i j = false := by rw [← Bool.not_eq_true]; intro h; exact hne (Nat.eq_of_beq_eq_true h)
    have e2 : Nat.beq (ks.getD i 0) 0 = false := by rw [← Bool.not_eq_true]; intro h; exact h0 (Nat.eq_of_beq_eq_true h)
    rw [e1, e2, Bool.false_or, Bool.false_or] at h2
    constructor
    · intro hlt
      have : Nat.blt j i = true := Nat.ble_eq_true_of_le hlt
      rw [if_pos this] at h2; exact h2
    · intro hlt
      have : ¬ Nat.blt j i = true := fun h => by have := Nat.le_of_ble_eq_true h; omega
      rw [if_neg this] at h2; exact h2
  have hnd' := nodupB_spec hnd
  have inj : ∀ {i j d : Nat} {V W : AV}, out[i]? = some (some (d, V)) → out[j]? = some (some (d, W)) → i = j := by
    intro i j d V W hi hj
    have key : ∀ (L : List GFact) (i j : Nat), ((factsG L).map (·.1)).Nodup → L[i]? = some (some (d, V)) → L[j]? = some (some (d, W)) → i = j := by
      intro L
      induction L with
      | nil => intro i j _ h; simp at h
      | cons x L ih =>
        intro i j hn h1 h2
        have mem : ∀ {j : Nat} {U : AV}, L[j]? = some (some (d, U)) → d ∈ (factsG L).map (·.1) := by
          intro j U h
          refine List.mem_map.2 ⟨(d, U), ?_, rfl⟩
          exact List.mem_filterMap.2 ⟨some (d, U), List.mem_of_getElem? h, rfl⟩
        cases i with
        | zero =>
          simp only [List.getElem?_cons_zero, Option.some.injEq] at h1
          subst h1
          cases j with
          | zero => rfl
          | succ j =>
            have : (factsG (some (d, V) :: L)).map (·.1) = d :: (factsG L).map (·.1) := rfl
            rw [this, List.nodup_cons] at hn
            exact (hn.1 (mem (by simpa using h2))).elim
        | succ i =>
          cases j with
          | zero =>
            simp only [List.getElem?_cons_zero, Option.some.injEq] at h2
            subst h2
            have : (factsG (some (d, W) :: L)).map (·.1) = d :: (factsG L).map (·.1) := rfl
            rw [this, List.nodup_cons] at hn
            exact (hn.1 (mem (by simpa using h1))).elim
          | succ j =>
            refine congrArg (· + 1) (ih i j ?_ (by simpa using h1) (by simpa using h2))
            cases x with
            | none => exact hn
            | some y =>
              have : (factsG (some y :: L)).map (·.1) = y.1 :: (factsG L).map (·.1) := rfl
              rw [this, List.nodup_cons] at hn
              exact hn.2
    exact key out i j hnd' hi hj
  have memF : ∀ {j d : Nat} {V : AV}, out[j]? = some (some (d, V)) → (d, V) ∈ factsG out := fun h => List.mem_filterMap.2 ⟨_, List.mem_of_getElem? h, rfl⟩
  have fresh : ∀ p, p ∈ factsG out → has T0 p.1 = false := fun p hp => by have := List.all_eq_true.1 hfr p hp; simpa using this
  have step : ∀ (listed : Array Bool) (a : Act) (w : World) (T : List (Nat × AV)), HeadInv .any l.toArray k listed → GoodG n m G T0 k out ks Os listed a w T → ∀ i, i ∈ Region.ready .any l.toArray listed → i < k →
      ∀ K : Act → World → Prop, (∀ a' w' T', GoodG n m G T0 k out ks Os (listed.setIfInBounds i true) a' w' T' → K a' w') → ∀ Q : Exit → Act → World → Prop, wpOp P l.toArray Q i K a w := by
    intro listed a w T inv hg i hi hik K hK Q
    obtain ⟨hun, o, ho, hall⟩ := mem_ready.1 hi
    have hunf : listed.getD i false = false := getD_both hun
    have hsz : i < listed.size := by rw [inv.size]; omega
    obtain ⟨x, kk, y, A, B, hx, hkk, hy, hA, hB, hop⟩ := hJ.at (j := i) (o := o) (by rw [List.getElem?_take, if_pos hik]; simpa using ho)
    rw [List.nil_append] at hop
    have hksD : ks.getD i 0 = kk := by simp [hkk]
    have hF : ∀ t U, (t, U) ∈ gdeps (out.take i) o → look T t = U := by
      intro t U hm
      simp only [gdeps, List.mem_filterMap] at hm
      obtain ⟨e, he, hx⟩ := hm
      split at hx
      · rename_i hb'
        have hl := hall e (by simpa using he) hb'
        have : out[e.on]? = some (some (t, U)) := by
          rw [List.getElem?_take] at hx
          split at hx
          · cases ho : out[e.on]? with
            | none => rw [ho] at hx; simp at hx
            | some y => rw [ho] at hx; simp only [Option.join_some] at hx; rw [hx]
          · simp at hx
        exact hg.facts _ _ _ this hl
      · simp at hx
    have same : ∀ t, look (gdeps (out.take i) o ++ (T0 ++ T)) t = look T t := by
      intro t
      rw [look_append]
      split
      · rename_i h; exact (hF _ _ (has_look h)).symm
      · rw [look_append]
        split
        · rename_i h
          refine (hg.other t ?_).symm
          cases hc : has (factsG out) t with
          | false => rfl
          | true => have := fresh _ (has_look hc); simp only at this; rw [this] at h; cases h
        · rfl
    have hcs := cnt_set (ks := ks) (k := k) hik hsz hunf
    -- a value put into a slot
    have puts : ∀ {d : Nat} {V : AV}, x = some (d, V) → ∀ {C : List AObj} (a' : Act) (w' : World), (Os[cntL ks k (listed.setIfInBounds i true)]?).getD [] = C → Rel n m G ⟨(d, V) :: (gdeps (out.take i) o ++ (T0 ++ T)), C⟩ a' w' →
        GoodG n m G T0 k out ks Os (listed.setIfInBounds i true) a' w' ((d, V) :: (gdeps (out.take i) o ++ (T0 ++ T))) := by
      rintro d V rfl C a' w' hC hr'
      refine ⟨by rw [hC]; exact hr', fun j d' V' hj hl => ?_, fun t ht => ?_⟩
      · by_cases hij : i = j
        · subst hij; rw [hx] at hj; cases hj; exact look_cons_same _ _ _
        · rw [getD_set_ne false hij] at hl
          have hne : d ≠ d' := by rintro rfl; exact hij (inj hx hj)
          rw [look_cons_other _ _ _ _ hne, same]
          exact hg.facts _ _ _ hj hl
      · have hne : d ≠ t := by
          rintro rfl
          have := has_mem (memF hx)
          rw [ht] at this; cases this
        rw [look_cons_other _ _ _ _ hne, same]; exact hg.other t ht
    have around : kk ≠ 0 → cntL ks k listed = sc ks i := by
      intro h0
      refine cnt_eq_sc (by omega) (fun j hj hs => ?_) (fun j hj hjk hs => ?_)
      · exact reach_ready inv ((ord i j hik (by omega) hs (by omega) (by rw [hksD]; exact h0)).1 hj) hi
      · by_cases hij : i = j
        · subst hij; exact hunf
        · cases hl : listed.getD j false with
          | false => rfl
          | true =>
            have := reach_listed inv f j i ((ord i j hik hjk hs hij (by rw [hksD]; exact h0)).2 (by omega)) hl
            rw [hunf] at this; cases this
    have hisS : isS ks i = Nat.beq kk 2 := by unfold isS; rw [hksD]
    cases hop with
    | pre Op hd hh =>
      have e : cntL ks k (listed.setIfInBounds i true) = cntL ks k listed := by rw [hcs, hisS]; simp
      have hlo : lo l.toArray ks k f i ≤ cntL ks k listed := by
        unfold lo cntL
        refine filter_len_le _ fun j _ hj => ?_
        rw [Bool.and_eq_true] at hj ⊢
        exact ⟨hj.1, reach_ready inv hj.2 hi⟩
      have hle : cntL ks k listed ≤ sc ks k := by
        unfold cntL sc
        refine filter_len_le _ fun j _ hj => ?_
        rw [Bool.and_eq_true] at hj
        exact hj.1
      have hOl : sc ks k < Os.length := by rw [← hk']; exact (List.getElem?_eq_some_iff.1 hl3).1
      obtain ⟨A', hA'⟩ : ∃ A', Os[cntL ks k listed]? = some A' := ⟨Os[cntL ks k listed]'(by omega), by simp⟩
      have hhi : cntL ks k listed ≤ hiS l.toArray ks k f i := by
        unfold hiS cntL
        refine filter_len_le _ fun j _ hj => ?_
        rw [Bool.and_eq_true] at hj ⊢
        refine ⟨hj.1, ?_⟩
        cases hr : reach l.toArray f j i with
        | false => rfl
        | true => have := reach_listed inv f j i hr hj.2; rw [hunf] at this; cases this
      have hpat := hD i Op hy _ A' hlo hhi hA'
      have eA : (Os[cntL ks k listed]?).getD [] = A' := by rw [hA']; rfl
      exact wpOp_only ho (hh T A' hpat) (by have := hg.rel.relook same; rw [eA] at this; exact this) fun a' w' hr' => hK a' w' _ (puts rfl a' w' (by rw [e, eA]) hr')
    | fixed hd hh =>
      have e : cntL ks k (listed.setIfInBounds i true) = cntL ks k listed := by rw [hcs, hisS]; simp
      have ec := around (by omega)
      have eA : (Os[cntL ks k listed]?).getD [] = A := by rw [ec, hA]; rfl
      exact wpOp_only ho (hh T) (by have := hg.rel.relook same; rw [eA] at this; exact this) fun a' w' hr' => hK a' w' _ (puts rfl a' w' (by rw [e, eA]) hr')
    | step hd hh =>
      have ec := around (by omega)
      have eA : (Os[cntL ks k listed]?).getD [] = A := by rw [ec, hA]; rfl
      have eB : (Os[cntL ks k (listed.setIfInBounds i true)]?).getD [] = B := by rw [hcs, ec, hB]; rfl
      exact wpOp_only ho (hh T) (by have := hg.rel.relook same; rw [eA] at this; exact this) fun a' w' hr' => hK a' w' _ (puts rfl a' w' eB hr')
    | stepN hd hh =>
      have ec := around (by omega)
      have eA : (Os[cntL ks k listed]?).getD [] = A := by rw [ec, hA]; rfl
      have eB : (Os[cntL ks k (listed.setIfInBounds i true)]?).getD [] = B := by rw [hcs, ec, hB]; rfl
      refine wpOp_only ho (hh T) (by have := hg.rel.relook same; rw [eA] at this; exact this) fun a' w' hr' => hK a' w' _ ⟨by rw [eB]; exact hr', fun j d' V' hj hl => ?_, fun t ht => ?_⟩
      · by_cases hij : i = j
        · subst hij; rw [hx] at hj; cases hj
        · rw [getD_set_ne false hij] at hl
          rw [same]; exact hg.facts _ _ _ hj hl
      · rw [same]; exact hg.other t ht
  have any : ∀ (c : Nat) (listed : Array Bool) (a : Act) (w : World), HeadInv .any l.toArray k listed → ((List.range k).filter fun i => !listed.getD i false).length = c → (∃ T, GoodG n m G T0 k out ks Os listed a w T) →
      wpAny P .any l.toArray (fun e a' w' => ∃ σ', Q e σ' ∧ Rel n m G σ' a' w') (c + (l.toArray.size - k)) listed a w := by
    intro c
    induction c with
    | zero =>
      intro listed a w inv hc hg
      obtain ⟨T, hg⟩ := hg
      have hall : ∀ i, i < k → listed.getD i false = true := by
        intro i hi
        have h0 := List.eq_nil_of_length_eq_zero hc
        cases hl : listed.getD i false with
        | true => rfl
        | false =>
          have : i ∈ (List.range k).filter fun i => !listed.getD i false := by simp [List.mem_filter, hi]; simpa using hl
          rw [h0] at this; cases this
      have hlist : listed = (Array.range l.toArray.size).map fun i => decide (i < k) := by
        apply Array.ext
        · simp [inv.size]
        · intro i hi1 hi2
          have hi : i < l.toArray.size := by rw [← inv.size]; exact hi1
          by_cases hik : i < k
          · have := hall i hik
            simp [hi1] at this
            simp [this, hik]
          · have := inv.tail i (by omega) hi
            simp [hi1] at this
            simp [this, hik]
      have hdl : (l.drop k).length = l.toArray.size - k := by simp
      rw [Nat.zero_add, ← hdl]
      refine wpAny_of_seq (l.drop k) k listed a w (fun j => by simp [List.getElem?_drop]) (by rw [hdl, hlist]; exact hseq) ?_
      refine h a w ?_
      have ec : cntL ks k listed = sc ks k := cnt_eq_sc (Nat.le_refl _) (fun j hj _ => hall j hj) (fun j h1 h2 => by omega)
      have hrel := hg.rel
      rw [ec, ← hk', hl3] at hrel
      refine Rel.relook (T := T) hrel fun t => ?_
      rw [look_append]
      split
      · rename_i hh
        have hmem := has_look hh
        obtain ⟨y, hy, hy2⟩ := List.mem_filterMap.1 hmem
        have hy2 : y = some (t, look (factsG out) t) := hy2
        subst hy2
        obtain ⟨i, hi, hi2⟩ := List.getElem_of_mem hy
        have : out[i]? = some (some (t, look (factsG out) t)) := by rw [List.getElem?_eq_getElem hi, hi2]
        exact (hg.facts i _ _ this (hall i (by omega))).symm
      · rename_i hh
        exact (hg.other t (by simpa using hh)).symm
    | succ c ih =>
      intro listed a w inv hc hg
      have hgetD : ∀ i, i < k → listed.getD i false = false → listed.getD i true = false := fun i hi h => getD_in (by rw [inv.size]; omega) h
      have hex : ∃ i, i < k ∧ listed.getD i false = false := by
        cases hl : (List.range k).filter fun i => !listed.getD i false with
        | nil => rw [hl] at hc; simp at hc
        | cons i r =>
          have : i ∈ (List.range k).filter fun i => !listed.getD i false := by rw [hl]; simp
          rw [List.mem_filter, List.mem_range] at this
          exact ⟨i, this.1, by simpa using this.2⟩
      obtain ⟨i0, hi0, hl0⟩ := hex
      have least : ∀ d i, i = d → i < k → listed.getD i false = false → ∃ j, j < k ∧ j ∈ Region.ready .any l.toArray listed := by
        intro d
        induction d using Nat.strongRecOn with
        | _ d ihd =>
          rintro i rfl hi hl
          by_cases hh : ∃ j, j < i ∧ listed.getD j false = false
          · obtain ⟨j, hj, hjl⟩ := hh
            exact ihd j hj j rfl (by omega) hjl
          · have hlt : i < l.toArray.size := by omega
            refine ⟨i, hi, mem_ready.2 ⟨hgetD i hi hl, l.toArray[i], by simp [hlt], fun e he hb' => ?_⟩⟩
            have hlt' := back i hi _ (by simp [hlt]) e he hb'
            cases hx : listed.getD e.on false with
            | true => rfl
            | false => exact (hh ⟨_, hlt', hx⟩).elim
      obtain ⟨j0, hj0, hr0⟩ := least i0 i0 rfl hi0 hl0
      rw [show c + 1 + (l.toArray.size - k) = (c + (l.toArray.size - k)) + 1 by omega]
      refine ⟨fun h => (by rw [h] at hr0; cases hr0), fun i hi => ?_⟩
      have hik : i < k := by
        rcases Nat.lt_or_ge i k with h | h
        · exact h
        · by_cases hk : k < l.toArray.size
          · exact absurd hi (tail_waits (hs hk).1 (hs hk).2 hk inv _ i0 rfl hi0 (hgetD i0 hi0 hl0) i h)
          · obtain ⟨_, o, ho, _⟩ := mem_ready.1 hi
            have := (Array.getElem?_eq_some_iff.1 ho).1
            omega
      have hiu : listed.getD i false = false := getD_both (mem_ready.1 hi).1
      obtain ⟨T, hg⟩ := hg
      have inv' : HeadInv .any l.toArray k (listed.setIfInBounds i true) := inv.set hi hik
      refine step listed a w T inv hg i hi hik _ (fun a' w' T' hg' => ih _ _ _ inv' ?_ ⟨T', hg'⟩) _
      have key : ∀ (L : List Nat), L.Nodup → i ∈ L → (L.filter fun j => !(listed.setIfInBounds i true).getD j false).length + 1 = (L.filter fun j => !listed.getD j false).length := by
        intro L
        have hself : (listed.setIfInBounds i true).getD i false = true := by
          have : i < listed.size := by rw [inv.size]; omega
          simp [this]
        induction L with
        | nil => intro _ h; cases h
        | cons x L ihL =>
          intro hnd hm
          rw [List.nodup_cons] at hnd
          by_cases hx : x = i
          · subst hx
            have hsame : (L.filter fun j => !(listed.setIfInBounds x true).getD j false) = L.filter fun j => !listed.getD j false := by
              refine List.filter_congr fun j hj => ?_
              rw [getD_set_ne false (by rintro rfl; exact hnd.1 hj)]
            rw [List.filter_cons, List.filter_cons, hsame, hself, hiu]; simp
          · have hm' : i ∈ L := by
              rcases List.mem_cons.1 hm with h | h
              · exact (hx h.symm).elim
              · exact h
            have := ihL hnd.2 hm'
            rw [List.filter_cons, List.filter_cons, getD_set_ne false (Ne.symm hx)]
            split <;> (try simp only [List.length_cons]) <;> omega
      have := key (List.range k) List.nodup_range (List.mem_range.2 hik)
      omega
  have inv0 : HeadInv .any l.toArray k (Array.replicate l.toArray.size false) :=
    ⟨by simp, fun j oj _ hl => (by rw [getD_replicate_false] at hl; cases hl), fun t _ ht => getD_in (by simpa using ht) (getD_replicate_false _ _)⟩
  refine wp_region_any hm ?_
  have fin := any k _ a w.drew inv0 (by
    have : ((List.range k).filter fun i => !(Array.replicate l.toArray.size false).getD i false) = List.range k := by
      rw [List.filter_eq_self]; intro i _; rw [getD_replicate_false]; rfl
    rw [this]; simp) ⟨T0, ⟨by
      have e0 : cntL ks k (Array.replicate l.toArray.size false) = 0 := by
        unfold cntL
        have : ((List.range k).filter fun j => isS ks j && (Array.replicate l.toArray.size false).getD j false) = [] := by
          rw [List.filter_eq_nil_iff]; intro j _; rw [getD_replicate_false]; simp
        rw [this]; rfl
      rw [e0, hJ.hd]
      exact hr.drew, fun i d V _ hl => (by rw [getD_replicate_false] at hl; cases hl), fun _ _ => rfl⟩⟩
  rw [show k + (l.toArray.size - k) = l.toArray.size by omega] at fin
  exact fin
end
/-! Forms whose lists are written out by reduction. -/
def gdepsF (fs : List GFact) : List Edge → Option (List (Nat × AV))
  | [] => some []
  | e :: es => match Region.binds .any e with
    | false => gdepsF fs es
    | true => match fs[e.on]? with
      | none => gdepsF fs es
      | some none => gdepsF fs es
      | some (some x) => match gdepsF fs es with
        | some r => some (x :: r)
        | none => none
theorem gdepsF_eq {fs : List GFact} : ∀ {es : List Edge} {F : List (Nat × AV)}, gdepsF fs es = some F → (es.filterMap fun e => if Region.binds .any e = true then (fs[e.on]?).join else none) = F
  | [], F, h => by simp [gdepsF] at h; simpa using h
  | e :: es, F, h => by
    rw [gdepsF] at h
    rw [List.filterMap_cons]
    cases hb : Region.binds .any e with
    | false => rw [hb] at h; simpa using gdepsF_eq h
    | true =>
      rw [hb] at h
      cases hx : fs[e.on]? with
      | none => rw [hx] at h; simpa using gdepsF_eq h
      | some y =>
        cases y with
        | none => rw [hx] at h; simpa using gdepsF_eq h
        | some x =>
          rw [hx] at h
          cases hr : gdepsF fs es with
          | none => simp only [hr] at h; cases h
          | some r => simp only [hr] at h; have := gdepsF_eq hr; simp [this]; simpa using h
def gcatF : List GFact → List (Nat × AV) → Option (List (Nat × AV))
  | [], B => some B
  | none :: A, B => gcatF A B
  | some p :: A, B => match gcatF A B with
    | some r => some (p :: r)
    | none => none
theorem gcatF_eq : ∀ {A : List GFact} {B C : List (Nat × AV)}, gcatF A B = some C → factsG A ++ B = C
  | [], B, C, h => by simp [gcatF] at h; simpa [factsG] using h
  | none :: A, B, C, h => by
    have h' : gcatF A B = some C := h
    have := gcatF_eq h'
    exact this
  | some p :: A, B, C, h => by
    rw [gcatF] at h
    cases hr : gcatF A B with
    | none => rw [hr] at h; cases h
    | some r => rw [hr] at h; have := gcatF_eq hr; subst this; cases h; rfl
section
variable {P : Program} {n m : Nat} {G : Ctx} {ops : Array Oper} {T0 : List (Nat × AV)}
/-- Operations that may turn the objects. -/
def mayStep (o : Oper) : Bool := match o.op with
  | .move _ => false
  | .assign _ => false
  | .binOp .. => false
  | .unOp .. => false
  | .load .. => false
  | .fieldAddr .. => false
  | .indexAddr .. => false
  | .index .. => false
  | .pick .. => false
  | .extract .. => false
  | .slice .. => false
  | .nilCheck .. => false
  | .build .. => false
  | .call c => match c.callee with
    | .builtin .len => false
    | .builtin .min => false
    | .builtin .max => false
    | _ => true
  | _ => true
def tightB (ops : Array Oper) (f i : Nat) : Bool := (List.range ops.size).all fun j => Nat.beq i j || match ops[j]? with
  | some o => !mayStep o || (if Nat.blt j i then reach ops f i j else reach ops f j i)
  | none => true
theorem HeadG.preF (p : Nat) {fs fs2 O o l out ks ds Os O' F d V Op} (hd : o.dst = some d) (hm : mayStep o = false) (hO : takeF p O = some Op) (hF : gdepsF fs o.after.toList = some F) (h : ∀ Tv Ov, WpL P n m G false ops [o] ⟨F ++ (T0 ++ Tv), Op ++ Ov⟩ (Only ⟨(d, V) :: (F ++ (T0 ++ Tv)), Op ++ Ov⟩))
    (hs : catF fs [some (d, V)] = some fs2) (r : HeadG P n m G ops T0 fs2 O l out ks ds Os O') : HeadG P n m G ops T0 fs O (o :: l) (some (d, V) :: out) (0 :: ks) (some (Op.map some) :: ds) Os O' := by
  have := catF_eq hs; subst this
  exact .still (gdepsF_eq hF) (by decide) (.pre (Op.map some) hd fun Tv Ov hp => by obtain ⟨R, rfl⟩ := hp.all; exact h Tv R) r
theorem HeadG.precF (p : Nat) {fs fs2 O o l out ks ds Os O' F d V Op} (hd : o.dst = some d) (hO : takeF p O = some Op) (hF : gdepsF fs o.after.toList = some F) (h : ∀ Tv Ov, WpL P n m G false ops [o] ⟨F ++ (T0 ++ Tv), Op ++ Ov⟩ (Only ⟨(d, V) :: (F ++ (T0 ++ Tv)), Op ++ Ov⟩))
    (hs : catF fs [some (d, V)] = some fs2) (r : HeadG P n m G ops T0 fs2 O l out ks ds Os O') : HeadG P n m G ops T0 fs O (o :: l) (some (d, V) :: out) (0 :: ks) (some (Op.map some) :: ds) Os O' := by
  have := catF_eq hs; subst this
  exact .still (gdepsF_eq hF) (by decide) (.pre (Op.map some) hd fun Tv Ov hp => by obtain ⟨R, rfl⟩ := hp.all; exact h Tv R) r
theorem HeadG.fixedF {fs fs2 O o l out ks ds Os O' F d V i} (hd : o.dst = some d) (hm : mayStep o = false) (hi : cnt fs.length 0 = some i) (ht : tightB ops 4 i = true) (hF : gdepsF fs o.after.toList = some F) (h : ∀ Tv, WpL P n m G false ops [o] ⟨F ++ (T0 ++ Tv), O⟩ (Only ⟨(d, V) :: (F ++ (T0 ++ Tv)), O⟩))
    (hs : catF fs [some (d, V)] = some fs2) (r : HeadG P n m G ops T0 fs2 O l out ks ds Os O') : HeadG P n m G ops T0 fs O (o :: l) (some (d, V) :: out) (1 :: ks) (none :: ds) Os O' := by
  have := catF_eq hs; subst this
  exact .still (gdepsF_eq hF) (by decide) (.fixed hd h) r
theorem HeadG.stepNF {fs fs2 O O1 o l out ks ds Os O' F} (hd : o.dst = none) (hF : gdepsF fs o.after.toList = some F) (h : ∀ Tv, WpL P n m G false ops [o] ⟨F ++ (T0 ++ Tv), O⟩ (Only ⟨F ++ (T0 ++ Tv), O1⟩))
    (hs : catF fs [none] = some fs2) (r : HeadG P n m G ops T0 fs2 O1 l out ks ds Os O') : HeadG P n m G ops T0 fs O (o :: l) (none :: out) (2 :: ks) (none :: ds) (O :: Os) O' := by
  have := catF_eq hs; subst this
  exact .step (gdepsF_eq hF) (.stepN hd h) r
theorem Pat.un {ps : List (Option AObj)} {A : List AObj} (h : Pat (none :: ps) A) : ∃ x R, A = x :: R ∧ Pat ps R := by
  cases h with | any r => exact ⟨_, _, rfl, r⟩
theorem Pat.un1 {ob : AObj} {ps : List (Option AObj)} {A : List AObj} (h : Pat (some ob :: ps) A) : ∃ R, A = ob :: R := by
  cases h with | one r => exact ⟨_, rfl⟩
theorem HeadG.hole3 {fs fs2 O o l out ks ds Os O' F d V ob} (hd : o.dst = some d) (hm : mayStep o = false) (hO : O[3]? = some ob) (hF : gdepsF fs o.after.toList = some F) (h : ∀ Tv x0 x1 x2 R, WpL P n m G false ops [o] ⟨F ++ (T0 ++ Tv), x0 :: x1 :: x2 :: ob :: R⟩ (Only ⟨(d, V) :: (F ++ (T0 ++ Tv)), x0 :: x1 :: x2 :: ob :: R⟩))
    (hs : catF fs [some (d, V)] = some fs2) (r : HeadG P n m G ops T0 fs2 O l out ks ds Os O') : HeadG P n m G ops T0 fs O (o :: l) (some (d, V) :: out) (0 :: ks) (some [none, none, none, some ob] :: ds) Os O' := by
  have := catF_eq hs; subst this
  refine .still (gdepsF_eq hF) (by decide) (.pre [none, none, none, some ob] hd fun Tv Ov hp => ?_) r
  obtain ⟨x0, R0, rfl, hp0⟩ := hp.un
  obtain ⟨x1, R1, rfl, hp1⟩ := hp0.un
  obtain ⟨x2, R2, rfl, hp2⟩ := hp1.un
  obtain ⟨R, rfl⟩ := hp2.un1
  exact h Tv x0 x1 x2 R
theorem HeadG.hole6 {fs fs2 O o l out ks ds Os O' F d V ob} (hd : o.dst = some d) (hm : mayStep o = false) (hO : O[6]? = some ob) (hF : gdepsF fs o.after.toList = some F) (h : ∀ Tv x0 x1 x2 x3 x4 x5 R, WpL P n m G false ops [o] ⟨F ++ (T0 ++ Tv), x0 :: x1 :: x2 :: x3 :: x4 :: x5 :: ob :: R⟩ (Only ⟨(d, V) :: (F ++ (T0 ++ Tv)), x0 :: x1 :: x2 :: x3 :: x4 :: x5 :: ob :: R⟩))
    (hs : catF fs [some (d, V)] = some fs2) (r : HeadG P n m G ops T0 fs2 O l out ks ds Os O') : HeadG P n m G ops T0 fs O (o :: l) (some (d, V) :: out) (0 :: ks) (some [none, none, none, none, none, none, some ob] :: ds) Os O' := by
  have := catF_eq hs; subst this
  refine .still (gdepsF_eq hF) (by decide) (.pre [none, none, none, none, none, none, some ob] hd fun Tv Ov hp => ?_) r
  obtain ⟨x0, R0, rfl, hp0⟩ := hp.un
  obtain ⟨x1, R1, rfl, hp1⟩ := hp0.un
  obtain ⟨x2, R2, rfl, hp2⟩ := hp1.un
  obtain ⟨x3, R3, rfl, hp3⟩ := hp2.un
  obtain ⟨x4, R4, rfl, hp4⟩ := hp3.un
  obtain ⟨x5, R5, rfl, hp5⟩ := hp4.un
  obtain ⟨R, rfl⟩ := hp5.un1
  exact h Tv x0 x1 x2 x3 x4 x5 R
inductive PreL (Op : List (Option AObj)) : List (List AObj) → Prop
  | nil : PreL Op []
  | cons {A Os} (h : Pat Op A) (r : PreL Op Os) : PreL Op (A :: Os)
theorem PreL.at {Op : List (Option AObj)} {Os : List (List AObj)} (h : PreL Op Os) : ∀ {q : Nat} {A : List AObj}, Os[q]? = some A → Pat Op A := by
  induction h with
  | nil => intro q A h; simp at h
  | cons h r ih =>
    intro q A hA
    cases q with
    | zero => simp only [List.getElem?_cons_zero, Option.some.injEq] at hA; subst hA; exact h
    | succ q => exact ih (by simpa using hA)
inductive DemAll (ops : Array Oper) (ks : List Nat) (k f : Nat) (Os : List (List AObj)) : Nat → List (Option (List (Option AObj))) → Prop
  | nil {i} : DemAll ops ks k f Os i []
  | skip {i ds} (r : DemAll ops ks k f Os (i + 1) ds) : DemAll ops ks k f Os i (none :: ds)
  | zero {i ds} (r : DemAll ops ks k f Os (i + 1) ds) : DemAll ops ks k f Os i (some [] :: ds)
  | all {i ds Op} (h : PreL Op Os) (r : DemAll ops ks k f Os (i + 1) ds) : DemAll ops ks k f Os i (some Op :: ds)
  | past {i ds Op c Os'} (hc : cnt (lo ops ks k f i) 0 = some c) (hO : Os.drop c = Os') (h : PreL Op Os') (r : DemAll ops ks k f Os (i + 1) ds) : DemAll ops ks k f Os i (some Op :: ds)
  | betw {i ds Op c c2 Os'} (hc : cnt (lo ops ks k f i) 0 = some c) (hc2 : cnt (hiS ops ks k f i) 0 = some c2) (hO : (Os.take (c2 + 1)).drop c = Os') (h : PreL Op Os') (r : DemAll ops ks k f Os (i + 1) ds) : DemAll ops ks k f Os i (some Op :: ds)
theorem DemAll.at {ks : List Nat} {k f : Nat} {Os : List (List AObj)} {i ds} (h : DemAll ops ks k f Os i ds) : ∀ {j Op}, ds[j]? = some (some Op) → ∀ q A, lo ops ks k f (i + j) ≤ q → q ≤ hiS ops ks k f (i + j) → Os[q]? = some A → Pat Op A := by
  induction h with
  | nil => intro j Op h; simp at h
  | @skip i ds r ih =>
    intro j Op h q A hq hq2 hA
    cases j with
    | zero => simp at h
    | succ j => exact ih (by simpa using h) q A (by rw [show i + 1 + j = i + (j + 1) by omega]; exact hq) (by rw [show i + 1 + j = i + (j + 1) by omega]; exact hq2) hA
  | @zero i ds r ih =>
    intro j Op h q A hq hq2 hA
    cases j with
    | zero => simp only [List.getElem?_cons_zero, Option.some.injEq] at h; subst h; exact .nil
    | succ j => exact ih (by simpa using h) q A (by rw [show i + 1 + j = i + (j + 1) by omega]; exact hq) (by rw [show i + 1 + j = i + (j + 1) by omega]; exact hq2) hA
  | @all i ds Op' hp r ih =>
    intro j Op h q A hq hq2 hA
    cases j with
    | zero => simp only [List.getElem?_cons_zero, Option.some.injEq] at h; subst h; exact hp.at hA
    | succ j => exact ih (by simpa using h) q A (by rw [show i + 1 + j = i + (j + 1) by omega]; exact hq) (by rw [show i + 1 + j = i + (j + 1) by omega]; exact hq2) hA
  | @past i ds Op' c Os' hc hO hp r ih =>
    intro j Op h q A hq hq2 hA
    cases j with
    | zero =>
      simp only [List.getElem?_cons_zero, Option.some.injEq] at h; subst h
      have hc := cnt_eq hc
      rw [Nat.add_zero] at hc hq
      refine hp.at (q := q - c) ?_
      rw [← hO, List.getElem?_drop, show c + (q - c) = q by omega]; exact hA
    | succ j => exact ih (by simpa using h) q A (by rw [show i + 1 + j = i + (j + 1) by omega]; exact hq) (by rw [show i + 1 + j = i + (j + 1) by omega]; exact hq2) hA
  | @betw i ds Op' c c2 Os' hc hc2 hO hp r ih =>
    intro j Op h q A hq hq2 hA
    cases j with
    | zero =>
      simp only [List.getElem?_cons_zero, Option.some.injEq] at h; subst h
      have hc := cnt_eq hc
      have hc2 := cnt_eq hc2
      rw [Nat.add_zero] at hc hq hc2 hq2
      refine hp.at (q := q - c) ?_
      rw [← hO, List.getElem?_drop, show c + (q - c) = q by omega, List.getElem?_take, if_pos (by omega)]; exact hA
    | succ j => exact ih (by simpa using h) q A (by rw [show i + 1 + j = i + (j + 1) by omega]; exact hq) (by rw [show i + 1 + j = i + (j + 1) by omega]; exact hq2) hA
theorem WpA.regionGB {l l1 l2 : List Oper} {id : Nat} {O O' : List AObj} {out : List GFact} {ks : List Nat} {ds : List (Option (List (Option AObj)))} {Os : List (List AObj)} {T1 : List (Nat × AV)} {Q : Exit → St → Prop} (k : Nat) (hm : P.follows .mixedOrders = true)
    (hB0 : (mixB l.toArray k && bare l.toArray k) = true) (hl : takeF k l = some l1) (hJ : HeadG P n m G l.toArray T0 [] O l1 out ks ds Os O') (hB : TrueB (backB l.toArray && ordB l.toArray ks 4)) (hnd : TrueB (nodupB ((factsG out).map (·.1)))) (hfr : TrueB ((factsG out).all fun p => !has T0 p.1))
    (hD : DemAll l.toArray ks k 4 Os 0 ds) (hT1 : gcatF out T0 = some T1) (h2 : l.drop k = l2) (h : WpL P n m G false l.toArray l2 ⟨T1, O'⟩ Q) : WpA P n m G (.region id l.toArray true) ⟨T0, O⟩ Q := by
  have := takeF_eq hl; subst this; subst h2
  exact WpA.regionG 4 k hm (by rw [Bool.and_eq_true] at hB0; exact hB0.1) hJ hB.e hnd.e hfr.e (fun i Op hi q A hq hq2 hA => hD.at hi q A (by rw [Nat.zero_add]; exact hq) (by rw [Nat.zero_add]; exact hq2) hA) (gcatF_eq hT1) h
/-- All of the first k operations yield something. -/
def noDyn (o : Oper) : Bool := match o.op with
  | .call c => match c.callee with
    | .value (.tmp _) => false
    | _ => true
  | _ => true
def dstB (ops : Array Oper) (k : Nat) : Bool := (List.range k).all fun i => match ops[i]? with | some o => o.dst.isSome && noApp o && noDyn o | none => true
theorem WpA.regionTB {σ : St} {id : Nat} {l : List Oper} {Q : Exit → St → Prop} (k : Nat) (hm : P.follows .mixedOrders = true) (hB : (Region.lexTailB .any l.toArray k && dstB l.toArray k) = true)
    (h : WpL P n m G true l.toArray (l.take k) σ (Seq (fun σ' => WpL P n m G false l.toArray (l.drop k) σ' Q) Q)) : WpA P n m G (.region id l.toArray true) σ Q :=
  WpA.regionT k hm (by rw [Bool.and_eq_true] at hB; exact hB.1) h
end
end Go.Abs
namespace Go.Abs.K
theorem prp {p : Prop} (h : p) : p := h
theorem DA {ops : Array Go.Oper} {ks : List Nat} {k f : Nat} {Os : List (List AObj)} {i : Nat} {ds : List (Option (List (Option AObj)))} (h : DemAll ops ks k f Os i ds) : DemAll ops ks k f Os i ds := h
end Go.Abs.K
