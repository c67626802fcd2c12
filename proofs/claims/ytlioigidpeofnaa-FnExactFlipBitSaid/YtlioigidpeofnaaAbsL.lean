/- The sorting of goals by their head: lemmas that hold of one kind of goal alone. No condition. -/
import Derived.Test.YtlioigidpeofnaaAbsK
namespace Go.Abs.K
open Go Go.Abs
variable {P : Program} {n m : Nat} {G : Ctx} {σ : St} {Q : Exit → St → Prop} {md : Bool} {ops : Array Oper} {l : List Oper} {dd : Option Nat} {tt : TypeId} {pos : String} {after : Array Edge}
theorem L {o : Oper} (h : WpL P n m G md ops (o :: l) σ Q) : WpL P n m G md ops (o :: l) σ Q := h
theorem A {c : Code} (h : WpA P n m G c σ Q) : WpA P n m G c σ Q := h
theorem cond {x : Operand} {c d : Code} (h : WpA P n m G (.cond x c d) σ Q) : WpA P n m G (.cond x c d) σ Q := h
theorem mv {x : Operand} (h : WpL P n m G md ops ({ dst := dd, op := .move x, type := tt, pos := pos, after := after, guard := none } :: l) σ Q) : WpL P n m G md ops ({ dst := dd, op := .move x, type := tt, pos := pos, after := after, guard := none } :: l) σ Q := h
theorem asg {x : Operand} (h : WpL P n m G md ops ({ dst := dd, op := .assign x, type := tt, pos := pos, after := after, guard := none } :: l) σ Q) : WpL P n m G md ops ({ dst := dd, op := .assign x, type := tt, pos := pos, after := after, guard := none } :: l) σ Q := h
theorem bin {b : BinOp} {t u : TypeId} {x y : Operand} (h : WpL P n m G md ops ({ dst := dd, op := .binOp b t x y u, type := tt, pos := pos, after := after, guard := none } :: l) σ Q) : WpL P n m G md ops ({ dst := dd, op := .binOp b t x y u, type := tt, pos := pos, after := after, guard := none } :: l) σ Q := h
theorem un {b : UnOp} {t : TypeId} {x : Operand} (h : WpL P n m G md ops ({ dst := dd, op := .unOp b t x, type := tt, pos := pos, after := after, guard := none } :: l) σ Q) : WpL P n m G md ops ({ dst := dd, op := .unOp b t x, type := tt, pos := pos, after := after, guard := none } :: l) σ Q := h
theorem ld {t : TypeId} {x : Operand} (h : WpL P n m G md ops ({ dst := dd, op := .load t x, type := tt, pos := pos, after := after, guard := none } :: l) σ Q) : WpL P n m G md ops ({ dst := dd, op := .load t x, type := tt, pos := pos, after := after, guard := none } :: l) σ Q := h
theorem call {x : Operand} {xs : Array Operand} {ats : Array TypeId} (h : WpL P n m G md ops ({ dst := dd, op := .call { callee := .value x, args := xs, argTypes := ats }, type := tt, pos := pos, after := after, guard := none } :: l) σ Q) : WpL P n m G md ops ({ dst := dd, op := .call { callee := .value x, args := xs, argTypes := ats }, type := tt, pos := pos, after := after, guard := none } :: l) σ Q := h
theorem bi {b : Builtin} {xs : Array Operand} {ats : Array TypeId} (h : WpL P n m G md ops ({ dst := dd, op := .call { callee := .builtin b, args := xs, argTypes := ats }, type := tt, pos := pos, after := after, guard := none } :: l) σ Q) : WpL P n m G md ops ({ dst := dd, op := .call { callee := .builtin b, args := xs, argTypes := ats }, type := tt, pos := pos, after := after, guard := none } :: l) σ Q := h
theorem ixa {t : TypeId} {x y : Operand} (h : WpL P n m G md ops ({ dst := dd, op := .indexAddr t x y, type := tt, pos := pos, after := after, guard := none } :: l) σ Q) : WpL P n m G md ops ({ dst := dd, op := .indexAddr t x y, type := tt, pos := pos, after := after, guard := none } :: l) σ Q := h
theorem ix {t : TypeId} {x y : Operand} (h : WpL P n m G md ops ({ dst := dd, op := .index t x y, type := tt, pos := pos, after := after, guard := none } :: l) σ Q) : WpL P n m G md ops ({ dst := dd, op := .index t x y, type := tt, pos := pos, after := after, guard := none } :: l) σ Q := h
theorem fld {t : TypeId} {x : Operand} {k : Nat} (h : WpL P n m G md ops ({ dst := dd, op := .fieldAddr t x k, type := tt, pos := pos, after := after, guard := none } :: l) σ Q) : WpL P n m G md ops ({ dst := dd, op := .fieldAddr t x k, type := tt, pos := pos, after := after, guard := none } :: l) σ Q := h
theorem fldv {t : TypeId} {x : Operand} {k : Nat} (h : WpL P n m G md ops ({ dst := dd, op := .field t x k, type := tt, pos := pos, after := after, guard := none } :: l) σ Q) : WpL P n m G md ops ({ dst := dd, op := .field t x k, type := tt, pos := pos, after := after, guard := none } :: l) σ Q := h
theorem pick {x y z : Operand} (h : WpL P n m G md ops ({ dst := dd, op := .pick x y z, type := tt, pos := pos, after := after, guard := none } :: l) σ Q) : WpL P n m G md ops ({ dst := dd, op := .pick x y z, type := tt, pos := pos, after := after, guard := none } :: l) σ Q := h
theorem ext {x : Operand} {k : Nat} (h : WpL P n m G md ops ({ dst := dd, op := .extract x k, type := tt, pos := pos, after := after, guard := none } :: l) σ Q) : WpL P n m G md ops ({ dst := dd, op := .extract x k, type := tt, pos := pos, after := after, guard := none } :: l) σ Q := h
theorem cv {t u : TypeId} {x : Operand} (h : WpL P n m G md ops ({ dst := dd, op := .convert t u x, type := tt, pos := pos, after := after, guard := none } :: l) σ Q) : WpL P n m G md ops ({ dst := dd, op := .convert t u x, type := tt, pos := pos, after := after, guard := none } :: l) σ Q := h
theorem all {t : TypeId} (h : WpL P n m G md ops ({ dst := dd, op := .alloc t, type := tt, pos := pos, after := after, guard := none } :: l) σ Q) : WpL P n m G md ops ({ dst := dd, op := .alloc t, type := tt, pos := pos, after := after, guard := none } :: l) σ Q := h
theorem box {t : TypeId} {x : Operand} (h : WpL P n m G md ops ({ dst := dd, op := .box t x, type := tt, pos := pos, after := after, guard := none } :: l) σ Q) : WpL P n m G md ops ({ dst := dd, op := .box t x, type := tt, pos := pos, after := after, guard := none } :: l) σ Q := h
theorem lit {t : TypeId} {k : Nat} {xs : Array (Nat × Operand)} (h : WpL P n m G md ops ({ dst := dd, op := .buildSlice t k xs, type := tt, pos := pos, after := after, guard := none } :: l) σ Q) : WpL P n m G md ops ({ dst := dd, op := .buildSlice t k xs, type := tt, pos := pos, after := after, guard := none } :: l) σ Q := h
theorem bld {t : TypeId} {xs : Array (Nat × Operand)} (h : WpL P n m G md ops ({ dst := dd, op := .build t xs, type := tt, pos := pos, after := after, guard := none } :: l) σ Q) : WpL P n m G md ops ({ dst := dd, op := .build t xs, type := tt, pos := pos, after := after, guard := none } :: l) σ Q := h
theorem sl {t : TypeId} {x : Operand} {lo hi mx : Option Operand} (h : WpL P n m G md ops ({ dst := dd, op := .slice t x lo hi mx, type := tt, pos := pos, after := after, guard := none } :: l) σ Q) : WpL P n m G md ops ({ dst := dd, op := .slice t x lo hi mx, type := tt, pos := pos, after := after, guard := none } :: l) σ Q := h
theorem ms {t : TypeId} {x y : Operand} (h : WpL P n m G md ops ({ dst := dd, op := .makeSlice t x y, type := tt, pos := pos, after := after, guard := none } :: l) σ Q) : WpL P n m G md ops ({ dst := dd, op := .makeSlice t x y, type := tt, pos := pos, after := after, guard := none } :: l) σ Q := h
theorem nc {x : Operand} (h : WpL P n m G md ops ({ dst := dd, op := .nilCheck x, type := tt, pos := pos, after := after, guard := none } :: l) σ Q) : WpL P n m G md ops ({ dst := dd, op := .nilCheck x, type := tt, pos := pos, after := after, guard := none } :: l) σ Q := h
theorem st {t : TypeId} {x y : Operand} (h : WpL P n m G md ops ({ dst := dd, op := .store t x y, type := tt, pos := pos, after := after, guard := none } :: l) σ Q) : WpL P n m G md ops ({ dst := dd, op := .store t x y, type := tt, pos := pos, after := after, guard := none } :: l) σ Q := h
theorem gd {op : Op} {g : Nat × Bool} (h : WpL P n m G md ops ({ dst := dd, op := op, type := tt, pos := pos, after := after, guard := some g } :: l) σ Q) : WpL P n m G md ops ({ dst := dd, op := op, type := tt, pos := pos, after := after, guard := some g } :: l) σ Q := h
theorem tyStr {tab : List (Nat × Ty)} (hP : TabOk P tab) {t : Nat} (ht : tlook tab t = some .string) : P.underlying t = some .string := (hP.ty ht).1
theorem tyBool {tab : List (Nat × Ty)} (hP : TabOk P tab) {t : Nat} (ht : tlook tab t = some .bool) : P.underlying t = some .bool := (hP.ty ht).1
theorem tyInt {tab : List (Nat × Ty)} (hP : TabOk P tab) {t : Nat} {k : IntKind} (ht : tlook tab t = some (.int k)) : P.underlying t = some (.int k) := (hP.ty ht).1
section
variable {T : List (Nat × AV)} {O : List AObj} {op : Op} {j t : Nat} {want : Bool}
theorem gT (hj : ((ops[j]?).bind (·.dst)) = some t) (htn : t < n) (ht : look T t = .sc (.bool want)) (h : WpL P n m G md ops ({ dst := dd, op := op, type := tt, pos := pos, after := after, guard := none } :: l) ⟨T, O⟩ Q) :
    WpL P n m G md ops ({ dst := dd, op := op, type := tt, pos := pos, after := after, guard := some (j, want) } :: l) ⟨T, O⟩ Q := WpL.guardT (σ := ⟨T, O⟩) rfl hj htn ht h
theorem gF {d : Nat} (hj : ((ops[j]?).bind (·.dst)) = some t) (htn : t < n) (ht : look T t = .sc (.bool !want)) (h : WpL P n m G md ops l ⟨(d, .any) :: T, O⟩ Q) :
    WpL P n m G md ops ({ dst := some d, op := op, type := tt, pos := pos, after := after, guard := some (j, want) } :: l) ⟨T, O⟩ Q := WpL.guardF (σ := ⟨T, O⟩) rfl hj htn ht rfl h
theorem gS {b : Bool} (hj : ((ops[j]?).bind (·.dst)) = some t) (ht : look T t = .sc (.bool b))
    (h1 : b = true → WpL P n m G md ops ({ dst := dd, op := op, type := tt, pos := pos, after := after, guard := some (j, want) } :: l) ⟨(t, .sc (.bool true)) :: T, O⟩ Q)
    (h2 : b = false → WpL P n m G md ops ({ dst := dd, op := op, type := tt, pos := pos, after := after, guard := some (j, want) } :: l) ⟨(t, .sc (.bool false)) :: T, O⟩ Q) :
    WpL P n m G md ops ({ dst := dd, op := op, type := tt, pos := pos, after := after, guard := some (j, want) } :: l) ⟨T, O⟩ Q := WpL.guardS (σ := ⟨T, O⟩) rfl hj ht h1 h2
theorem gD {p : Prop} [Decidable p] (hj : ((ops[j]?).bind (·.dst)) = some t) (ht : look T t = .sc (.bool (decide p)))
    (h1 : p → WpL P n m G md ops ({ dst := dd, op := op, type := tt, pos := pos, after := after, guard := some (j, want) } :: l) ⟨(t, .sc (.bool true)) :: T, O⟩ Q)
    (h2 : ¬ p → WpL P n m G md ops ({ dst := dd, op := op, type := tt, pos := pos, after := after, guard := some (j, want) } :: l) ⟨(t, .sc (.bool false)) :: T, O⟩ Q) :
    WpL P n m G md ops ({ dst := dd, op := op, type := tt, pos := pos, after := after, guard := some (j, want) } :: l) ⟨T, O⟩ Q := WpL.guardD (σ := ⟨T, O⟩) rfl hj ht h1 h2
theorem gN {p : Prop} [Decidable p] (hj : ((ops[j]?).bind (·.dst)) = some t) (ht : look T t = .sc (.bool (!decide p)))
    (h1 : ¬ p → WpL P n m G md ops ({ dst := dd, op := op, type := tt, pos := pos, after := after, guard := some (j, want) } :: l) ⟨(t, .sc (.bool true)) :: T, O⟩ Q)
    (h2 : p → WpL P n m G md ops ({ dst := dd, op := op, type := tt, pos := pos, after := after, guard := some (j, want) } :: l) ⟨(t, .sc (.bool false)) :: T, O⟩ Q) :
    WpL P n m G md ops ({ dst := dd, op := op, type := tt, pos := pos, after := after, guard := some (j, want) } :: l) ⟨T, O⟩ Q := WpL.guardN (σ := ⟨T, O⟩) rfl hj ht h1 h2
end
end Go.Abs.K
namespace Go.Abs
open Go
section
variable {P : Program} {n m : Nat} {G : Ctx} {T : List (Nat × AV)} {O : List AObj} {Q : Exit → St → Prop} {ops : Array Oper} {l : List Oper} {d : Nat} {tt : TypeId} {pos : String} {after : Array Edge} {tab : List (Nat × Ty)}
theorem WpL.storeInts (hP : TabOk P tab) {t : Nat} {ty : Ty} {x y : Operand} {id ep off sz : Nat} {et : Option TypeId} {xs : List Int} {v : Int} (ht : tlook tab t = some ty) (hx : av T x = .ptr id ep off)
    (ho : O[id]? = some ⟨ints xs, ep, sz, et⟩) (hy : av T y = (fun v : Int => AV.sc (.int .i64 v)) v) (hk : ty.cellsN = some 1) (hle : off < xs.length)
    (h : WpL P n m G false ops l ⟨T, O.set id ⟨ints (xs.set off v), ep, sz, et⟩⟩ Q) :
    WpL P n m G false ops ({ dst := none, op := .store t x y, type := tt, pos := pos, after := after, guard := none } :: l) ⟨T, O⟩ Q :=
  WpL.store hP ht hx ho rfl (V := (fun v : Int => AV.sc (.int .i64 v)) v) (Vs := [(fun v : Int => AV.sc (.int .i64 v)) v]) (by rw [hy]; rfl) rfl hk (by simp [oneB, Value.oneCell']) (by simp; omega) (by
    have e : setL (ints xs) off [(fun v : Int => AV.sc (.int .i64 v)) v] = ints (xs.set off v) := by simp [setL, ints, List.map_set]
    simp only [e]; exact h)
theorem WpL.storeU8s (hP : TabOk P tab) {t : Nat} {ty : Ty} {x y : Operand} {id ep off sz : Nat} {et : Option TypeId} {xs : List Int} {v : Int} (ht : tlook tab t = some ty) (hx : av T x = .ptr id ep off)
    (ho : O[id]? = some ⟨u8s xs, ep, sz, et⟩) (hy : av T y = (fun v : Int => AV.sc (.int .u8 v)) v) (hk : ty.cellsN = some 1) (hle : off < xs.length)
    (h : WpL P n m G false ops l ⟨T, O.set id ⟨u8s (xs.set off v), ep, sz, et⟩⟩ Q) :
    WpL P n m G false ops ({ dst := none, op := .store t x y, type := tt, pos := pos, after := after, guard := none } :: l) ⟨T, O⟩ Q :=
  WpL.store hP ht hx ho rfl (V := (fun v : Int => AV.sc (.int .u8 v)) v) (Vs := [(fun v : Int => AV.sc (.int .u8 v)) v]) (by rw [hy]; rfl) rfl hk (by simp [oneB, Value.oneCell']) (by simp; omega) (by
    have e : setL (u8s xs) off [(fun v : Int => AV.sc (.int .u8 v)) v] = u8s (xs.set off v) := by simp [setL, u8s, List.map_set]
    simp only [e]; exact h)
theorem WpL.storeBools (hP : TabOk P tab) {t : Nat} {ty : Ty} {x y : Operand} {id ep off sz : Nat} {et : Option TypeId} {xs : List Bool} {v : Bool} (ht : tlook tab t = some ty) (hx : av T x = .ptr id ep off)
    (ho : O[id]? = some ⟨bools xs, ep, sz, et⟩) (hy : av T y = (fun v : Bool => AV.sc (.bool v)) v) (hk : ty.cellsN = some 1) (hle : off < xs.length)
    (h : WpL P n m G false ops l ⟨T, O.set id ⟨bools (xs.set off v), ep, sz, et⟩⟩ Q) :
    WpL P n m G false ops ({ dst := none, op := .store t x y, type := tt, pos := pos, after := after, guard := none } :: l) ⟨T, O⟩ Q :=
  WpL.store hP ht hx ho rfl (V := (fun v : Bool => AV.sc (.bool v)) v) (Vs := [(fun v : Bool => AV.sc (.bool v)) v]) (by rw [hy]; rfl) rfl hk (by simp [oneB, Value.oneCell']) (by simp; omega) (by
    have e : setL (bools xs) off [(fun v : Bool => AV.sc (.bool v)) v] = bools (xs.set off v) := by simp [setL, bools, List.map_set]
    simp only [e]; exact h)
theorem WpL.storeStrs (hP : TabOk P tab) {t : Nat} {ty : Ty} {x y : Operand} {id ep off sz : Nat} {et : Option TypeId} {xs : List (List UInt8)} {v : (List UInt8)} (ht : tlook tab t = some ty) (hx : av T x = .ptr id ep off)
    (ho : O[id]? = some ⟨strs xs, ep, sz, et⟩) (hy : av T y = (fun v : List UInt8 => AV.sc (.string ⟨v.toArray⟩)) v) (hk : ty.cellsN = some 1) (hle : off < xs.length)
    (h : WpL P n m G false ops l ⟨T, O.set id ⟨strs (xs.set off v), ep, sz, et⟩⟩ Q) :
    WpL P n m G false ops ({ dst := none, op := .store t x y, type := tt, pos := pos, after := after, guard := none } :: l) ⟨T, O⟩ Q :=
  WpL.store hP ht hx ho rfl (V := (fun v : List UInt8 => AV.sc (.string ⟨v.toArray⟩)) v) (Vs := [(fun v : List UInt8 => AV.sc (.string ⟨v.toArray⟩)) v]) (by rw [hy]; rfl) rfl hk (by simp [oneB, Value.oneCell']) (by simp; omega) (by
    have e : setL (strs xs) off [(fun v : List UInt8 => AV.sc (.string ⟨v.toArray⟩)) v] = strs (xs.set off v) := by simp [setL, strs, List.map_set]
    simp only [e]; exact h)
end
end Go.Abs
