/- The sorting of goals by their head: lemmas that hold of one kind of goal alone. No condition. -/
import Derived.Test.YtepfjefdbpmobaaAbsK
namespace Go.Abs.K
open Go Go.Abs
variable {P : Program} {n m : Nat} {G : Ctx} {σ : St} {Q : Exit → St → Prop} {md : Bool} {ops : Array Oper} {l : List Oper} {dd : Option Nat} {tt : TypeId} {pos : String} {after : Array Edge}
theorem L {o : Oper} (h : WpL P n m G md ops (o :: l) σ Q) : WpL P n m G md ops (o :: l) σ Q := h
theorem A {c : Code} (h : WpA P n m G c σ Q) : WpA P n m G c σ Q := h
theorem cond {x : Operand} {c d : Code} (h : WpA P n m G (.cond x c d) σ Q) : WpA P n m G (.cond x c d) σ Q := h
theorem mv {x : Operand} (h : WpL P n m G md ops ({ dst := dd, op := .move x, type := tt, pos := pos, after := after, guard := none } :: l) σ Q) : WpL P n m G md ops ({ dst := dd, op := .move x, type := tt, pos := pos, after := after, guard := none } :: l) σ Q := h
theorem asg {x : Operand} (h : WpL P n m G md ops ({ dst := dd, op := .assign x, type := tt, pos := pos, after := after, guard := none } :: l) σ Q) : WpL P n m G md ops ({ dst := dd, op := .assign x, type := tt, pos := pos, after := after, guard := none } :: l) σ Q := h
theorem bin {b : BinOp} {t u : TypeId} {x y : Operand} (h : WpL P n m G md ops ({ dst := dd, op := .binOp b t x y u, type := tt, pos := pos, after := after, guard := none } :: l) σ Q) : WpL P n m G md ops ({ dst := dd, op := .binOp b t x y u, type := tt, pos := pos, after := after, guard := none } :: l) σ Q := h
theorem un {b : UnOp} {t : TypeId} {x : Operand} (h : WpL P n m G md ops ({ dst := dd, op := .unOp b t x, type := tt, pos := pos, after := after, guard := none } :: l) σ Q) : WpL P n m G md ops ({ dst := dd, op := .unOp b t x, type := tt, pos := pos, after := after, guard := none } :: l) σ Q := h
theorem ld {t : TypeId} {x : Operand} (h : WpL P n m G md ops ({ dst := dd, op := .load t x, type := tt, pos := pos, after := after, guard := none } :: l) σ Q) : WpL P n m G md ops ({ dst := dd, op := .load t x, type := tt, pos := pos, after := after, guard := none } :: l) σ Q := h
theorem call {x : Operand} {xs : Array Operand} {ats : Array TypeId} (h : WpL P n m G md ops ({ dst := dd, op := .call { callee := .value x, args := xs, argTypes := ats }, type := tt, pos := pos, after := after, guard := none } :: l) σ Q) : WpL P n m G md ops ({ dst := dd, op := .call { callee := .value x, args := xs, argTypes := ats }, type := tt, pos := pos, after := after, guard := none } :: l) σ Q := h
theorem bi {b : Builtin} {xs : Array Operand} {ats : Array TypeId} (h : WpL P n m G md ops ({ dst := dd, op := .call { callee := .builtin b, args := xs, argTypes := ats }, type := tt, pos := pos, after := after, guard := none } :: l) σ Q) : WpL P n m G md ops ({ dst := dd, op := .call { callee := .builtin b, args := xs, argTypes := ats }, type := tt, pos := pos, after := after, guard := none } :: l) σ Q := h
theorem ixa {t : TypeId} {x y : Operand} (h : WpL P n m G md ops ({ dst := dd, op := .indexAddr t x y, type := tt, pos := pos, after := after, guard := none } :: l) σ Q) : WpL P n m G md ops ({ dst := dd, op := .indexAddr t x y, type := tt, pos := pos, after := after, guard := none } :: l) σ Q := h
theorem ix {t : TypeId} {x y : Operand} (h : WpL P n m G md ops ({ dst := dd, op := .index t x y, type := tt, pos := pos, after := after, guard := none } :: l) σ Q) : WpL P n m G md ops ({ dst := dd, op := .index t x y, type := tt, pos := pos, after := after, guard := none } :: l) σ Q := h
theorem fld {t : TypeId} {x : Operand} {k : Nat} (h : WpL P n m G md ops ({ dst := dd, op := .fieldAddr t x k, type := tt, pos := pos, after := after, guard := none } :: l) σ Q) : WpL P n m G md ops ({ dst := dd, op := .fieldAddr t x k, type := tt, pos := pos, after := after, guard := none } :: l) σ Q := h
theorem fldv {t : TypeId} {x : Operand} {k : Nat} (h : WpL P n m G md ops ({ dst := dd, op := .field t x k, type := tt, pos := pos, after := after, guard := none } :: l) σ Q) : WpL P n m G md ops ({ dst := dd, op := .field t x k, type := tt, pos := pos, after := after, guard := none } :: l) σ Q := h
theorem pick {x y z : Operand} (h : WpL P n m G md ops ({ dst := dd, op := .pick x y z, type := tt, pos := pos, after := after, guard := none } :: l) σ Q) : WpL P n m G md ops ({ dst := dd, op := .pick x y z, type := tt, pos := pos, after := after, guard := none } :: l) σ Q := h
theorem ext {x : Operand} {k : Nat} (h : WpL P n m G md ops ({ dst := dd, op := .extract x k, type := tt, pos := pos, after := after, guard := none } :: l) σ Q) : WpL P n m G md ops ({ dst := dd, op := .extract x k, type := tt, pos := pos, after := after, guard := none } :: l) σ Q := h
theorem cv {t u : TypeId} {x : Operand} (h : WpL P n m G md ops ({ dst := dd, op := .convert t u x, type := tt, pos := pos, after := after, guard := none } :: l) σ Q) : WpL P n m G md ops ({ dst := dd, op := .convert t u x, type := tt, pos := pos, after := after, guard := none } :: l) σ Q := h
theorem all {t : TypeId} (h : WpL P n m G md ops ({ dst := dd, op := .alloc t, type := tt, pos := pos, after := after, guard := none } :: l) σ Q) : WpL P n m G md ops ({ dst := dd, op := .alloc t, type := tt, pos := pos, after := after, guard := none } :: l) σ Q := h
theorem box {t : TypeId} {x : Operand} (h : WpL P n m G md ops ({ dst := dd, op := .box t x, type := tt, pos := pos, after := after, guard := none } :: l) σ Q) : WpL P n m G md ops ({ dst := dd, op := .box t x, type := tt, pos := pos, after := after, guard := none } :: l) σ Q := h
theorem lit {t : TypeId} {k : Nat} {xs : Array (Nat × Operand)} (h : WpL P n m G md ops ({ dst := dd, op := .buildSlice t k xs, type := tt, pos := pos, after := after, guard := none } :: l) σ Q) : WpL P n m G md ops ({ dst := dd, op := .buildSlice t k xs, type := tt, pos := pos, after := after, guard := none } :: l) σ Q := h
theorem bld {t : TypeId} {xs : Array (Nat × Operand)} (h : WpL P n m G md ops ({ dst := dd, op := .build t xs, type := tt, pos := pos, after := after, guard := none } :: l) σ Q) : WpL P n m G md ops ({ dst := dd, op := .build t xs, type := tt, pos := pos, after := after, guard := none } :: l) σ Q := h
theorem sl {t : TypeId} {x : Operand} {lo hi mx : Option Operand} (h : WpL P n m G md ops ({ dst := dd, op := .slice t x lo hi mx, type := tt, pos := pos, after := after, guard := none } :: l) σ Q) : WpL P n m G md ops ({ dst := dd, op := .slice t x lo hi mx, type := tt, pos := pos, after := after, guard := none } :: l) σ Q := h
theorem ms {t : TypeId} {x y : Operand} (h : WpL P n m G md ops ({ dst := dd, op := .makeSlice t x y, type := tt, pos := pos, after := after, guard := none } :: l) σ Q) : WpL P n m G md ops ({ dst := dd, op := .makeSlice t x y, type := tt, pos := pos, after := after, guard := none } :: l) σ Q := h
theorem nc {x : Operand} (h : WpL P n m G md ops ({ dst := dd, op := .nilCheck x, type := tt, pos := pos, after := after, guard := none } :: l) σ Q) : WpL P n m G md ops ({ dst := dd, op := .nilCheck x, type := tt, pos := pos, after := after, guard := none } :: l) σ Q := h
theorem st {t : TypeId} {x y : Operand} (h : WpL P n m G md ops ({ dst := dd, op := .store t x y, type := tt, pos := pos, after := after, guard := none } :: l) σ Q) : WpL P n m G md ops ({ dst := dd, op := .store t x y, type := tt, pos := pos, after := after, guard := none } :: l) σ Q := h
theorem gd {op : Op} {g : Nat × Bool} (h : WpL P n m G md ops ({ dst := dd, op := op, type := tt, pos := pos, after := after, guard := some g } :: l) σ Q) : WpL P n m G md ops ({ dst := dd, op := op, type := tt, pos := pos, after := after, guard := some g } :: l) σ Q := h
theorem tyStr {tab : List (Nat × Ty)} (hP : TabOk P tab) {t : Nat} (ht : tlook tab t = some .string) : P.underlying t = some .string := (hP.ty ht).1
theorem tyBool {tab : List (Nat × Ty)} (hP : TabOk P tab) {t : Nat} (ht : tlook tab t = some .bool) : P.underlying t = some .bool := (hP.ty ht).1
theorem tyInt {tab : List (Nat × Ty)} (hP : TabOk P tab) {t : Nat} {k : IntKind} (ht : tlook tab t = some (.int k)) : P.underlying t = some (.int k) := (hP.ty ht).1
section
variable {T : List (Nat × AV)} {O : List AObj} {op : Op} {j t : Nat} {want : Bool}
theorem gT (hj : ((ops[j]?).bind (·.dst)) = some t) (htn : t < n) (ht : look T t = .sc (.bool want)) (h : WpL P n m G md ops ({ dst := dd, op := op, type := tt, pos := pos, after := after, guard := none } :: l) ⟨T, O⟩ Q) :
    WpL P n m G md ops ({ dst := dd, op := op, type := tt, pos := pos, after := after, guard := some (j, want) } :: l) ⟨T, O⟩ Q := WpL.guardT (σ := ⟨T, O⟩) rfl hj htn ht h
theorem gF {d : Nat} (hj : ((ops[j]?).bind (·.dst)) = some t) (htn : t < n) (ht : look T t = .sc (.bool !want)) (h : WpL P n m G md ops l ⟨(d, .any) :: T, O⟩ Q) :
    WpL P n m G md ops ({ dst := some d, op := op, type := tt, pos := pos, after := after, guard := some (j, want) } :: l) ⟨T, O⟩ Q := WpL.guardF (σ := ⟨T, O⟩) rfl hj htn ht rfl h
theorem gS {b : Bool} (hj : ((ops[j]?).bind (·.dst)) = some t) (ht : look T t = .sc (.bool b))
    (h1 : b = true → WpL P n m G md ops ({ dst := dd, op := op, type := tt, pos := pos, after := after, guard := some (j, want) } :: l) ⟨(t, .sc (.bool true)) :: T, O⟩ Q)
    (h2 : b = false → WpL P n m G md ops ({ dst := dd, op := op, type := tt, pos := pos, after := after, guard := some (j, want) } :: l) ⟨(t, .sc (.bool false)) :: T, O⟩ Q) :
    WpL P n m G md ops ({ dst := dd, op := op, type := tt, pos := pos, after := after, guard := some (j, want) } :: l) ⟨T, O⟩ Q := WpL.guardS (σ := ⟨T, O⟩) rfl hj ht h1 h2
theorem gD {p : Prop} [Decidable p] (hj : ((ops[j]?).bind (·.dst)) = some t) (ht : look T t = .sc (.bool (decide p)))
    (h1 : p → WpL P n m G md ops ({ dst := dd, op := op, type := tt, pos := pos, after := after, guard := some (j, want) } :: l) ⟨(t, .sc (.bool true)) :: T, O⟩ Q)
    (h2 : ¬ p → WpL P n m G md ops ({ dst := dd, op := op, type := tt, pos := pos, after := after, guard := some (j, want) } :: l) ⟨(t, .sc (.bool false)) :: T, O⟩ Q) :
    WpL P n m G md ops ({ dst := dd, op := op, type := tt, pos := pos, after := after, guard := some (j, want) } :: l) ⟨T, O⟩ Q := WpL.guardD (σ := ⟨T, O⟩) rfl hj ht h1 h2
theorem gN {p : Prop} [Decidable p] (hj : ((ops[j]?).bind (·.dst)) = some t) (ht : look T t = .sc (.bool (!decide p)))
    (h1 : ¬ p → WpL P n m G md ops ({ dst := dd, op := op, type := tt, pos := pos, after := after, guard := some (j, want) } :: l) ⟨(t, .sc (.bool true)) :: T, O⟩ Q)
    (h2 : p → WpL P n m G md ops ({ dst := dd, op := op, type := tt, pos := pos, after := after, guard := some (j, want) } :: l) ⟨(t, .sc (.bool false)) :: T, O⟩ Q) :
    WpL P n m G md ops ({ dst := dd, op := op, type := tt, pos := pos, after := after, guard := some (j, want) } :: l) ⟨T, O⟩ Q := WpL.guardN (σ := ⟨T, O⟩) rfl hj ht h1 h2
end
end Go.Abs.K
namespace Go.Abs
open Go
section
variable {P : Program} {n m : Nat} {G : Ctx} {T : List (Nat × AV)} {O : List AObj} {Q : Exit → St → Prop} {ops : Array Oper} {l : List Oper} {d : Nat} {tt : TypeId} {pos : String} {after : Array Edge} {tab : List (Nat × Ty)}
theorem WpL.storeInts (hP : TabOk P tab) {t : Nat} {ty : Ty} {x y : Operand} {id ep off sz : Nat} {et : Option TypeId} {xs : List Int} {v : Int} (ht : tlook tab t = some ty) (hx : av T x = .ptr id ep off)
    (ho : O[id]? = some ⟨ints xs, ep, sz, et⟩) (hy : av T y = (fun v : Int => AV.sc (.int .i64 v)) v) (hk : ty.cellsN = some 1) (hle : off < xs.length)
    (h : WpL P n m G false ops l ⟨T, O.set id ⟨ints (xs.set off v), ep, sz, et⟩⟩ Q) :
    WpL P n m G false ops ({ dst := none, op := .store t x y, type := tt, pos := pos, after := after, guard := none } :: l) ⟨T, O⟩ Q :=
  WpL.store hP ht hx ho rfl (V := (fun v : Int => AV.sc (.int .i64 v)) v) (Vs := [(fun v : Int => AV.sc (.int .i64 v)) v]) (by rw [hy]; rfl) rfl hk (by simp [oneB, Value.oneCell']) (by simp; omega) (by
    have e : setL (ints xs) off [(fun v : Int => AV.sc (.int .i64 v)) v] = ints (xs.set off v) := by simp [setL, ints, List.map_set]
    simp only [e]; exact h)
theorem WpL.storeU8s (hP : TabOk P tab) {t : Nat} {ty : Ty} {x y : Operand} {id ep off sz : Nat} {et : Option TypeId} {xs : List Int} {v : Int} (ht : tlook tab t = some ty) (hx : av T x = .ptr id ep off)
    (ho : O[id]? = some ⟨u8s xs, ep, sz, et⟩) (hy : av T y = (fun v : Int => AV.sc (.int .u8 v)) v) (hk : ty.cellsN = some 1) (hle : off < xs.length)
    (h : WpL P n m G false ops l ⟨T, O.set id ⟨u8s (xs.set off v), ep, sz, et⟩⟩ Q) :
    WpL P n m G false ops ({ dst := none, op := .store t x y, type := tt, pos := pos, after := after, guard := none } :: l) ⟨T, O⟩ Q :=
  WpL.store hP ht hx ho rfl (V := (fun v : Int => AV.sc (.int .u8 v)) v) (Vs := [(fun v : Int => AV.sc (.int .u8 v)) v]) (by rw [hy]; rfl) rfl hk (by simp [oneB, Value.oneCell']) (by simp; omega) (by
    have e : setL (u8s xs) off [(fun v : Int => AV.sc (.int .u8 v)) v] = u8s (xs.set off v) := by simp [setL, u8s, List.map_set]
    simp only [e]; exact h)
theorem WpL.storeBools (hP : TabOk P tab) {t : Nat} {ty : Ty} {x y : Operand} {id ep off sz : Nat} {et : Option TypeId} {xs : List Bool} {v : Bool} (ht : tlook tab t = some ty) (hx : av T x = .ptr id ep off)
    (ho : O[id]? = some ⟨bools xs, ep, sz, et⟩) (hy : av T y = (fun v : Bool => AV.sc (.bool v)) v) (hk : ty.cellsN = some 1) (hle : off < xs.length)
    (h : WpL P n m G false ops l ⟨T, O.set id ⟨bools (xs.set off v), ep, sz, et⟩⟩ Q) :
    WpL P n m G false ops ({ dst := none, op := .store t x y, type := tt, pos := pos, after := after, guard := none } :: l) ⟨T, O⟩ Q :=
  WpL.store hP ht hx ho rfl (V := (fun v : Bool => AV.sc (.bool v)) v) (Vs := [(fun v : Bool => AV.sc (.bool v)) v]) (by rw [hy]; rfl) rfl hk (by simp [oneB, Value.oneCell']) (by simp; omega) (by
    have e : setL (bools xs) off [(fun v : Bool => AV.sc (.bool v)) v] = bools (xs.set off v) := by simp [setL, bools, List.map_set]
    simp only [e]; exact h)
theorem WpL.storeStrs (hP : TabOk P tab) {t : Nat} {ty : Ty} {x y : Operand} {id ep off sz : Nat} {et : Option TypeId} {xs : List (List UInt8)} {v : (List UInt8)} (ht : tlook tab t = some ty) (hx : av T x = .ptr id ep off)
    (ho : O[id]? = some ⟨strs xs, ep, sz, et⟩) (hy : av T y = (fun v : List UInt8 => AV.sc (.string ⟨v.toArray⟩)) v) (hk : ty.cellsN = some 1) (hle : off < xs.length)
    (h : WpL P n m G false ops l ⟨T, O.set id ⟨strs (xs.set off v), ep, sz, et⟩⟩ Q) :
    WpL P n m G false ops ({ dst := none, op := .store t x y, type := tt, pos := pos, after := after, guard := none } :: l) ⟨T, O⟩ Q :=
  WpL.store hP ht hx ho rfl (V := (fun v : List UInt8 => AV.sc (.string ⟨v.toArray⟩)) v) (Vs := [(fun v : List UInt8 => AV.sc (.string ⟨v.toArray⟩)) v]) (by rw [hy]; rfl) rfl hk (by simp [oneB, Value.oneCell']) (by simp; omega) (by
    have e : setL (strs xs) off [(fun v : List UInt8 => AV.sc (.string ⟨v.toArray⟩)) v] = strs (xs.set off v) := by simp [setL, strs, List.map_set]
    simp only [e]; exact h)
end
end Go.Abs
namespace Go.Abs
open Go
section
variable {P : Program} {n m : Nat} {G : Ctx} {T : List (Nat × AV)} {O : List AObj} {Q : Exit → St → Prop} {ops : Array Oper} {l : List Oper} {d : Nat} {tt : TypeId} {pos : String} {after : Array Edge} {tab : List (Nat × Ty)}
theorem WpL.app1Ints (hP : TabOk P tab) {t e b : Nat} {zs : List AV} {xs : List Int} {v : Int} {x y : Operand} {id ep len : Nat} {Vy : AV} (ht : tlook tab t = some (.slice e 1 b zs)) (hx : av T x = .own id ep 0 len)
    (ho : O[id]? = some ⟨ints xs, ep, 1, some e⟩) (hm : m ≤ id) (hy : (av T y).force = some Vy) (hs : srcB O Vy = some ([.sc (.int .i64 v)], 1)) (hol : xs.length = len)
    (hb : (len + 1) * b ≤ 140737488355328 ∧ len + 1 ≤ 9223372036854775807) (hn : d < n)
    (h : WpL P n m G false ops l ⟨(d, .own id (ep + 1) 0 (len + 1)) :: T, O.set id ⟨ints (xs ++ [v]), ep + 1, 1, some e⟩⟩ Q) :
    WpL P n m G false ops ({ dst := some d, op := .call { callee := .builtin .append, args := #[x, y], argTypes := #[t, t] }, type := tt, pos := pos, after := after, guard := none } :: l) ⟨T, O⟩ Q :=
  WpL.appOwn hP ht hx ho rfl rfl rfl (by simp [hol]) hm hy hs rfl (by simp [oneB, Value.oneCell']) hb hn (by
    have e2 : ints xs ++ [.sc (.int .i64 v)] = ints (xs ++ [v]) := by simp [ints]
    simp only [e2]; exact h)
theorem WpL.appInts (hP : TabOk P tab) {t e b c : Nat} {zs : List AV} {xs ys : List Int} {x y : Operand} {id ep len : Nat} {Vy : AV} (ht : tlook tab t = some (.slice e 1 b zs)) (hx : av T x = .own id ep 0 len)
    (ho : O[id]? = some ⟨ints xs, ep, 1, some e⟩) (hm : m ≤ id) (hy : (av T y).force = some Vy) (hs : srcB O Vy = some (ints ys, c)) (hol : xs.length = len) (hc : ys.length = c)
    (hb : (len + c) * b ≤ 140737488355328 ∧ len + c ≤ 9223372036854775807) (hn : d < n)
    (h : WpL P n m G false ops l ⟨(d, .own id (ep + 1) 0 (len + c)) :: T, O.set id ⟨ints (xs ++ ys), ep + 1, 1, some e⟩⟩ Q) :
    WpL P n m G false ops ({ dst := some d, op := .call { callee := .builtin .append, args := #[x, y], argTypes := #[t, t] }, type := tt, pos := pos, after := after, guard := none } :: l) ⟨T, O⟩ Q :=
  WpL.appOwn hP ht hx ho rfl rfl rfl (by simp [hol]) hm hy hs (by simp [hc]) (all_ints _ _) hb hn (by
    have e2 : ints xs ++ ints ys = ints (xs ++ ys) := by simp [ints]
    simp only [e2]; exact h)
theorem WpL.nil1Ints (hP : TabOk P tab) {t e b : Nat} {zs : List AV} {v : Int} {x y : Operand} {id : Nat} {Vy : AV} (ht : tlook tab t = some (.slice e 1 b zs)) (hx : av T x = .nilS)
    (hy : (av T y).force = some Vy) (hs : srcB O Vy = some ([.sc (.int .i64 v)], 1)) (hb : b ≤ 140737488355328) (hid : nid O 0 = some id) (hn : d < n)
    (h : WpL P n m G false ops l ⟨(d, .own id 0 0 1) :: T, O ++ [⟨ints [v], 0, 1, some e⟩]⟩ Q) :
    WpL P n m G false ops ({ dst := some d, op := .call { callee := .builtin .append, args := #[x, y], argTypes := #[t, t] }, type := tt, pos := pos, after := after, guard := none } :: l) ⟨T, O⟩ Q :=
  WpL.appNil hP ht hx hy hs rfl (by simp [oneB, Value.oneCell']) (by omega) hid hn h
theorem WpL.app1U8s (hP : TabOk P tab) {t e b : Nat} {zs : List AV} {xs : List Int} {v : Int} {x y : Operand} {id ep len : Nat} {Vy : AV} (ht : tlook tab t = some (.slice e 1 b zs)) (hx : av T x = .own id ep 0 len)
    (ho : O[id]? = some ⟨u8s xs, ep, 1, some e⟩) (hm : m ≤ id) (hy : (av T y).force = some Vy) (hs : srcB O Vy = some ([.sc (.int .u8 v)], 1)) (hol : xs.length = len)
    (hb : (len + 1) * b ≤ 140737488355328 ∧ len + 1 ≤ 9223372036854775807) (hn : d < n)
    (h : WpL P n m G false ops l ⟨(d, .own id (ep + 1) 0 (len + 1)) :: T, O.set id ⟨u8s (xs ++ [v]), ep + 1, 1, some e⟩⟩ Q) :
    WpL P n m G false ops ({ dst := some d, op := .call { callee := .builtin .append, args := #[x, y], argTypes := #[t, t] }, type := tt, pos := pos, after := after, guard := none } :: l) ⟨T, O⟩ Q :=
  WpL.appOwn hP ht hx ho rfl rfl rfl (by simp [hol]) hm hy hs rfl (by simp [oneB, Value.oneCell']) hb hn (by
    have e2 : u8s xs ++ [.sc (.int .u8 v)] = u8s (xs ++ [v]) := by simp [u8s]
    simp only [e2]; exact h)
theorem WpL.appU8s (hP : TabOk P tab) {t e b c : Nat} {zs : List AV} {xs ys : List Int} {x y : Operand} {id ep len : Nat} {Vy : AV} (ht : tlook tab t = some (.slice e 1 b zs)) (hx : av T x = .own id ep 0 len)
    (ho : O[id]? = some ⟨u8s xs, ep, 1, some e⟩) (hm : m ≤ id) (hy : (av T y).force = some Vy) (hs : srcB O Vy = some (u8s ys, c)) (hol : xs.length = len) (hc : ys.length = c)
    (hb : (len + c) * b ≤ 140737488355328 ∧ len + c ≤ 9223372036854775807) (hn : d < n)
    (h : WpL P n m G false ops l ⟨(d, .own id (ep + 1) 0 (len + c)) :: T, O.set id ⟨u8s (xs ++ ys), ep + 1, 1, some e⟩⟩ Q) :
    WpL P n m G false ops ({ dst := some d, op := .call { callee := .builtin .append, args := #[x, y], argTypes := #[t, t] }, type := tt, pos := pos, after := after, guard := none } :: l) ⟨T, O⟩ Q :=
  WpL.appOwn hP ht hx ho rfl rfl rfl (by simp [hol]) hm hy hs (by simp [hc]) (all_u8s _ _) hb hn (by
    have e2 : u8s xs ++ u8s ys = u8s (xs ++ ys) := by simp [u8s]
    simp only [e2]; exact h)
theorem WpL.nil1U8s (hP : TabOk P tab) {t e b : Nat} {zs : List AV} {v : Int} {x y : Operand} {id : Nat} {Vy : AV} (ht : tlook tab t = some (.slice e 1 b zs)) (hx : av T x = .nilS)
    (hy : (av T y).force = some Vy) (hs : srcB O Vy = some ([.sc (.int .u8 v)], 1)) (hb : b ≤ 140737488355328) (hid : nid O 0 = some id) (hn : d < n)
    (h : WpL P n m G false ops l ⟨(d, .own id 0 0 1) :: T, O ++ [⟨u8s [v], 0, 1, some e⟩]⟩ Q) :
    WpL P n m G false ops ({ dst := some d, op := .call { callee := .builtin .append, args := #[x, y], argTypes := #[t, t] }, type := tt, pos := pos, after := after, guard := none } :: l) ⟨T, O⟩ Q :=
  WpL.appNil hP ht hx hy hs rfl (by simp [oneB, Value.oneCell']) (by omega) hid hn h
theorem WpL.app1Strs (hP : TabOk P tab) {t e b : Nat} {zs : List AV} {xs : List (List UInt8)} {v : (List UInt8)} {x y : Operand} {id ep len : Nat} {Vy : AV} (ht : tlook tab t = some (.slice e 1 b zs)) (hx : av T x = .own id ep 0 len)
    (ho : O[id]? = some ⟨strs xs, ep, 1, some e⟩) (hm : m ≤ id) (hy : (av T y).force = some Vy) (hs : srcB O Vy = some ([.sc (.string ⟨v.toArray⟩)], 1)) (hol : xs.length = len)
    (hb : (len + 1) * b ≤ 140737488355328 ∧ len + 1 ≤ 9223372036854775807) (hn : d < n)
    (h : WpL P n m G false ops l ⟨(d, .own id (ep + 1) 0 (len + 1)) :: T, O.set id ⟨strs (xs ++ [v]), ep + 1, 1, some e⟩⟩ Q) :
    WpL P n m G false ops ({ dst := some d, op := .call { callee := .builtin .append, args := #[x, y], argTypes := #[t, t] }, type := tt, pos := pos, after := after, guard := none } :: l) ⟨T, O⟩ Q :=
  WpL.appOwn hP ht hx ho rfl rfl rfl (by simp [hol]) hm hy hs rfl (by simp [oneB, Value.oneCell']) hb hn (by
    have e2 : strs xs ++ [.sc (.string ⟨v.toArray⟩)] = strs (xs ++ [v]) := by simp [strs]
    simp only [e2]; exact h)
theorem WpL.appStrs (hP : TabOk P tab) {t e b c : Nat} {zs : List AV} {xs ys : List (List UInt8)} {x y : Operand} {id ep len : Nat} {Vy : AV} (ht : tlook tab t = some (.slice e 1 b zs)) (hx : av T x = .own id ep 0 len)
    (ho : O[id]? = some ⟨strs xs, ep, 1, some e⟩) (hm : m ≤ id) (hy : (av T y).force = some Vy) (hs : srcB O Vy = some (strs ys, c)) (hol : xs.length = len) (hc : ys.length = c)
    (hb : (len + c) * b ≤ 140737488355328 ∧ len + c ≤ 9223372036854775807) (hn : d < n)
    (h : WpL P n m G false ops l ⟨(d, .own id (ep + 1) 0 (len + c)) :: T, O.set id ⟨strs (xs ++ ys), ep + 1, 1, some e⟩⟩ Q) :
    WpL P n m G false ops ({ dst := some d, op := .call { callee := .builtin .append, args := #[x, y], argTypes := #[t, t] }, type := tt, pos := pos, after := after, guard := none } :: l) ⟨T, O⟩ Q :=
  WpL.appOwn hP ht hx ho rfl rfl rfl (by simp [hol]) hm hy hs (by simp [hc]) (all_strs _ _) hb hn (by
    have e2 : strs xs ++ strs ys = strs (xs ++ ys) := by simp [strs]
    simp only [e2]; exact h)
theorem WpL.nil1Strs (hP : TabOk P tab) {t e b : Nat} {zs : List AV} {v : (List UInt8)} {x y : Operand} {id : Nat} {Vy : AV} (ht : tlook tab t = some (.slice e 1 b zs)) (hx : av T x = .nilS)
    (hy : (av T y).force = some Vy) (hs : srcB O Vy = some ([.sc (.string ⟨v.toArray⟩)], 1)) (hb : b ≤ 140737488355328) (hid : nid O 0 = some id) (hn : d < n)
    (h : WpL P n m G false ops l ⟨(d, .own id 0 0 1) :: T, O ++ [⟨strs [v], 0, 1, some e⟩]⟩ Q) :
    WpL P n m G false ops ({ dst := some d, op := .call { callee := .builtin .append, args := #[x, y], argTypes := #[t, t] }, type := tt, pos := pos, after := after, guard := none } :: l) ⟨T, O⟩ Q :=
  WpL.appNil hP ht hx hy hs rfl (by simp [oneB, Value.oneCell']) (by omega) hid hn h
end
end Go.Abs
namespace Go.Abs
open Go
section
variable {P : Program} {n m : Nat} {G : Ctx} {T : List (Nat × AV)} {O : List AObj} {Q : Exit → St → Prop} {ops : Array Oper} {l : List Oper} {d : Nat} {tt : TypeId} {pos : String} {after : Array Edge} {tab : List (Nat × Ty)}
theorem WpL.lit0Ints (hP : TabOk P tab) {t e b id : Nat} {ps : Array (Nat × Operand)} (ht : tlook tab t = some (.slice e 1 b [.sc (.int .i64 0)])) (hps : ps.toList = []) (hid : nid O 0 = some id) (hn : d < n)
    (h : WpL P n m G false ops l ⟨(d, .own id 0 0 0) :: T, O ++ [⟨ints [], 0, 1, some e⟩]⟩ Q) :
    WpL P n m G false ops ({ dst := some d, op := .buildSlice t 0 ps, type := tt, pos := pos, after := after, guard := none } :: l) ⟨T, O⟩ Q := by
  have e1 : ps = ([] : List (Nat × Operand)).toArray := by rw [← hps]
  rw [e1]
  exact WpL.lit hP ht rfl rfl .nil (by decide) hid hn h
theorem WpL.lit0U8s (hP : TabOk P tab) {t e b id : Nat} {ps : Array (Nat × Operand)} (ht : tlook tab t = some (.slice e 1 b [.sc (.int .u8 0)])) (hps : ps.toList = []) (hid : nid O 0 = some id) (hn : d < n)
    (h : WpL P n m G false ops l ⟨(d, .own id 0 0 0) :: T, O ++ [⟨u8s [], 0, 1, some e⟩]⟩ Q) :
    WpL P n m G false ops ({ dst := some d, op := .buildSlice t 0 ps, type := tt, pos := pos, after := after, guard := none } :: l) ⟨T, O⟩ Q := by
  have e1 : ps = ([] : List (Nat × Operand)).toArray := by rw [← hps]
  rw [e1]
  exact WpL.lit hP ht rfl rfl .nil (by decide) hid hn h
theorem WpL.lit0Bools (hP : TabOk P tab) {t e b id : Nat} {ps : Array (Nat × Operand)} (ht : tlook tab t = some (.slice e 1 b [.sc (.bool false)])) (hps : ps.toList = []) (hid : nid O 0 = some id) (hn : d < n)
    (h : WpL P n m G false ops l ⟨(d, .own id 0 0 0) :: T, O ++ [⟨bools [], 0, 1, some e⟩]⟩ Q) :
    WpL P n m G false ops ({ dst := some d, op := .buildSlice t 0 ps, type := tt, pos := pos, after := after, guard := none } :: l) ⟨T, O⟩ Q := by
  have e1 : ps = ([] : List (Nat × Operand)).toArray := by rw [← hps]
  rw [e1]
  exact WpL.lit hP ht rfl rfl .nil (by decide) hid hn h
theorem WpL.lit0Strs (hP : TabOk P tab) {t e b id : Nat} {ps : Array (Nat × Operand)} (ht : tlook tab t = some (.slice e 1 b [.sc (.string ⟨#[]⟩)])) (hps : ps.toList = []) (hid : nid O 0 = some id) (hn : d < n)
    (h : WpL P n m G false ops l ⟨(d, .own id 0 0 0) :: T, O ++ [⟨strs [], 0, 1, some e⟩]⟩ Q) :
    WpL P n m G false ops ({ dst := some d, op := .buildSlice t 0 ps, type := tt, pos := pos, after := after, guard := none } :: l) ⟨T, O⟩ Q := by
  have e1 : ps = ([] : List (Nat × Operand)).toArray := by rw [← hps]
  rw [e1]
  exact WpL.lit hP ht rfl rfl .nil (by decide) hid hn h
end
end Go.Abs
namespace Go.Abs
open Go
section
variable {P : Program} {n m : Nat} {G : Ctx} {T : List (Nat × AV)} {O : List AObj} {Q : Exit → St → Prop} {ops : Array Oper} {l : List Oper} {d : Nat} {tt : TypeId} {pos : String} {after : Array Edge} {tab : List (Nat × Ty)}
/-- The cells of a literal's elements, computed. -/
def litC (T : List (Nat × AV)) (O : List AObj) (k : Nat) : List Operand → Option (List AV)
  | [] => some []
  | x :: xs => match (av T x).force with
    | none => none
    | some V => match oneB O V && Nat.beq k 1 with
      | true => match litC T O k xs with
        | none => none
        | some cs => some (V :: cs)
      | false => match cellsV O V with
        | none => none
        | some ds => match Nat.beq ds.length k with
          | false => none
          | true => match litC T O k xs with
            | none => none
            | some cs => some (ds ++ cs)
theorem litC_lit {k : Nat} : ∀ {xs : List Operand} {cs : List AV}, litC T O k xs = some cs → Lit T O k xs cs
  | [], cs, h => by simp only [litC, Option.some.injEq] at h; subst h; exact .nil
  | x :: xs, cs, h => by
    simp only [litC] at h
    split at h
    · simp at h
    · rename_i V hV
      split at h
      · rename_i hb
        simp only [Bool.and_eq_true] at hb
        split at h
        · simp at h
        · rename_i cs' hc
          simp only [Option.some.injEq] at h; subst h
          exact .one hV hb.1 (Nat.eq_of_beq_eq_true hb.2) (litC_lit hc)
      · split at h
        · simp at h
        · rename_i ds hds
          split at h
          · simp at h
          · rename_i hlen
            split at h
            · simp at h
            · rename_i cs' hc
              simp only [Option.some.injEq] at h; subst h
              exact .cons hV hds (Nat.eq_of_beq_eq_true hlen) (litC_lit hc)
theorem WpL.litF (hP : TabOk P tab) {t e k b len id : Nat} {zs cs : List AV} {parts : List (Nat × Operand)} (ht : tlook tab t = some (.slice e k b zs)) (hidx : parts.map (·.1) = List.range' 0 parts.length) (hlen : parts.length = len)
    (hlit : litC T O k (parts.map (·.2)) = some cs) (hsm : len * k ≤ 16777216) (hid : nid O 0 = some id) (hn : d < n)
    (h : WpL P n m G false ops l ⟨(d, .own id 0 0 len) :: T, O ++ [⟨cs, 0, k, some e⟩]⟩ Q) :
    WpL P n m G false ops ({ dst := some d, op := .buildSlice t len parts.toArray, type := tt, pos := pos, after := after, guard := none } :: l) ⟨T, O⟩ Q :=
  WpL.lit hP ht hidx hlen (litC_lit hlit) hsm hid hn h
end
end Go.Abs
namespace Go.Abs
open Go
section
variable {P : Program} {n m : Nat} {G : Ctx} {T : List (Nat × AV)} {O : List AObj} {Q : Exit → St → Prop} {ops : Array Oper} {l : List Oper} {d : Nat} {tt : TypeId} {pos : String} {after : Array Edge} {tab : List (Nat × Ty)}
theorem flat_strs (n : Nat) : (List.replicate n [AV.sc (.string ⟨#[]⟩)]).flatten = strs (List.replicate n []) := by
  induction n with
  | zero => rfl
  | succ n ih => rw [List.replicate_succ, List.flatten_cons, ih, List.replicate_succ]; rfl
theorem flat_bools (n : Nat) : (List.replicate n [AV.sc (.bool false)]).flatten = bools (List.replicate n false) := by
  induction n with
  | zero => rfl
  | succ n ih => rw [List.replicate_succ, List.flatten_cons, ih, List.replicate_succ]; rfl
theorem WpL.makeStrs (hP : TabOk P tab) {t e b id : Nat} {x y : Operand} {kl kc : IntKind} {p : Int} (ht : tlook tab t = some (.slice e 1 b [.sc (.string ⟨#[]⟩)])) (hx : av T x = .sc (.int kl p)) (hy : av T y = .sc (.int kc p))
    (hp : 0 ≤ p) (hb : (b : Int) * p ≤ 281474976710656 ∧ p ≤ 9223372036854775807) (hid : nid O 0 = some id) (hn : d < n)
    (h : WpL P n m G false ops l ⟨(d, .own id 0 0 p.toNat) :: T, O ++ [⟨strs (List.replicate p.toNat []), 0, 1, some e⟩]⟩ Q) :
    WpL P n m G false ops ({ dst := some d, op := .makeSlice t x y, type := tt, pos := pos, after := after, guard := none } :: l) ⟨T, O⟩ Q :=
  WpL.make hP ht hx hy hp hb hid hn (by rw [flat_strs]; exact h)
theorem WpL.makeBools (hP : TabOk P tab) {t e b id : Nat} {x y : Operand} {kl kc : IntKind} {p : Int} (ht : tlook tab t = some (.slice e 1 b [.sc (.bool false)])) (hx : av T x = .sc (.int kl p)) (hy : av T y = .sc (.int kc p))
    (hp : 0 ≤ p) (hb : (b : Int) * p ≤ 281474976710656 ∧ p ≤ 9223372036854775807) (hid : nid O 0 = some id) (hn : d < n)
    (h : WpL P n m G false ops l ⟨(d, .own id 0 0 p.toNat) :: T, O ++ [⟨bools (List.replicate p.toNat false), 0, 1, some e⟩]⟩ Q) :
    WpL P n m G false ops ({ dst := some d, op := .makeSlice t x y, type := tt, pos := pos, after := after, guard := none } :: l) ⟨T, O⟩ Q :=
  WpL.make hP ht hx hy hp hb hid hn (by rw [flat_bools]; exact h)
end
end Go.Abs
