/- Proved in this text: lemmas and contracts of functions that the claim uses (parts: AbsL, AbsM, AbsN). No condition. -/
import Derived.Test.YtgkeopmihhcbiaaPrM2

/- The sorting of goals by their head: lemmas that hold of one kind of goal alone. No condition. -/
namespace Go.Abs.K
open Go Go.Abs
variable {P : Program} {n m : Nat} {G : Ctx} {σ : St} {Q : Exit → St → Prop} {md : Bool} {ops : Array Oper} {l : List Oper} {dd : Option Nat} {tt : TypeId} {pos : String} {after : Array Edge}
theorem L {o : Oper} (h : WpL P n m G md ops (o :: l) σ Q) : WpL P n m G md ops (o :: l) σ Q := h
theorem A {c : Code} (h : WpA P n m G c σ Q) : WpA P n m G c σ Q := h
theorem cond {x : Operand} {c d : Code} (h : WpA P n m G (.cond x c d) σ Q) : WpA P n m G (.cond x c d) σ Q := h
theorem mv {x : Operand} (h : WpL P n m G md ops ({ dst := dd, op := .move x, type := tt, pos := pos, after := after, guard := none } :: l) σ Q) : WpL P n m G md ops ({ dst := dd, op := .move x, type := tt, pos := pos, after := after, guard := none } :: l) σ Q := h
theorem asg {x : Operand} (h : WpL P n m G md ops ({ dst := dd, op := .assign x, type := tt, pos := pos, after := after, guard := none } :: l) σ Q) : WpL P n m G md ops ({ dst := dd, op := .assign x, type := tt, pos := pos, after := after, guard := none } :: l) σ Q := h
theorem bin {b : BinOp} {t u : TypeId} {x y : Operand} (h : WpL P n m G md ops ({ dst := dd, op := .binOp b t x y u, type := tt, pos := pos, after := after, guard := none } :: l) σ Q) : WpL P n m G md ops ({ dst := dd, op := .binOp b t x y u, type := tt, pos := pos, after := after, guard := none } :: l) σ Q := h
theorem un {b : UnOp} {t : TypeId} {x : Operand} (h : WpL P n m G md ops ({ dst := dd, op := .unOp b t x, type := tt, pos := pos, after := after, guard := none } :: l) σ Q) : WpL P n m G md ops ({ dst := dd, op := .unOp b t x, type := tt, pos := pos, after := after, guard := none } :: l) σ Q := h
theorem ld {t : TypeId} {x : Operand} (h : WpL P n m G md ops ({ dst := dd, op := .load t x, type := tt, pos := pos, after := after, guard := none } :: l) σ Q) : WpL P n m G md ops ({ dst := dd, op := .load t x, type := tt, pos := pos, after := after, guard := none } :: l) σ Q := h
theorem call {x : Operand} {xs : Array Operand} {ats : Array TypeId} (h : WpL P n m G md ops ({ dst := dd, op := .call { callee := .value x, args := xs, argTypes := ats }, type := tt, pos := pos, after := after, guard := none } :: l) σ Q) : WpL P n m G md ops ({ dst := dd, op := .call { callee := .value x, args := xs, argTypes := ats }, type := tt, pos := pos, after := after, guard := none } :: l) σ Q := h
theorem bi {b : Builtin} {xs : Array Operand} {ats : Array TypeId} (h : WpL P n m G md ops ({ dst := dd, op := .call { callee := .builtin b, args := xs, argTypes := ats }, type := tt, pos := pos, after := after, guard := none } :: l) σ Q) : WpL P n m G md ops ({ dst := dd, op := .call { callee := .builtin b, args := xs, argTypes := ats }, type := tt, pos := pos, after := after, guard := none } :: l) σ Q := h
theorem ixa {t : TypeId} {x y : Operand} (h : WpL P n m G md ops ({ dst := dd, op := .indexAddr t x y, type := tt, pos := pos, after := after, guard := none } :: l) σ Q) : WpL P n m G md ops ({ dst := dd, op := .indexAddr t x y, type := tt, pos := pos, after := after, guard := none } :: l) σ Q := h
theorem ix {t : TypeId} {x y : Operand} (h : WpL P n m G md ops ({ dst := dd, op := .index t x y, type := tt, pos := pos, after := after, guard := none } :: l) σ Q) : WpL P n m G md ops ({ dst := dd, op := .index t x y, type := tt, pos := pos, after := after, guard := none } :: l) σ Q := h
theorem fld {t : TypeId} {x : Operand} {k : Nat} (h : WpL P n m G md ops ({ dst := dd, op := .fieldAddr t x k, type := tt, pos := pos, after := after, guard := none } :: l) σ Q) : WpL P n m G md ops ({ dst := dd, op := .fieldAddr t x k, type := tt, pos := pos, after := after, guard := none } :: l) σ Q := h
theorem pick {x y z : Operand} (h : WpL P n m G md ops ({ dst := dd, op := .pick x y z, type := tt, pos := pos, after := after, guard := none } :: l) σ Q) : WpL P n m G md ops ({ dst := dd, op := .pick x y z, type := tt, pos := pos, after := after, guard := none } :: l) σ Q := h
theorem ext {x : Operand} {k : Nat} (h : WpL P n m G md ops ({ dst := dd, op := .extract x k, type := tt, pos := pos, after := after, guard := none } :: l) σ Q) : WpL P n m G md ops ({ dst := dd, op := .extract x k, type := tt, pos := pos, after := after, guard := none } :: l) σ Q := h
theorem cv {t u : TypeId} {x : Operand} (h : WpL P n m G md ops ({ dst := dd, op := .convert t u x, type := tt, pos := pos, after := after, guard := none } :: l) σ Q) : WpL P n m G md ops ({ dst := dd, op := .convert t u x, type := tt, pos := pos, after := after, guard := none } :: l) σ Q := h
theorem all {t : TypeId} (h : WpL P n m G md ops ({ dst := dd, op := .alloc t, type := tt, pos := pos, after := after, guard := none } :: l) σ Q) : WpL P n m G md ops ({ dst := dd, op := .alloc t, type := tt, pos := pos, after := after, guard := none } :: l) σ Q := h
theorem box {t : TypeId} {x : Operand} (h : WpL P n m G md ops ({ dst := dd, op := .box t x, type := tt, pos := pos, after := after, guard := none } :: l) σ Q) : WpL P n m G md ops ({ dst := dd, op := .box t x, type := tt, pos := pos, after := after, guard := none } :: l) σ Q := h
theorem lit {t : TypeId} {k : Nat} {xs : Array (Nat × Operand)} (h : WpL P n m G md ops ({ dst := dd, op := .buildSlice t k xs, type := tt, pos := pos, after := after, guard := none } :: l) σ Q) : WpL P n m G md ops ({ dst := dd, op := .buildSlice t k xs, type := tt, pos := pos, after := after, guard := none } :: l) σ Q := h
theorem bld {t : TypeId} {xs : Array (Nat × Operand)} (h : WpL P n m G md ops ({ dst := dd, op := .build t xs, type := tt, pos := pos, after := after, guard := none } :: l) σ Q) : WpL P n m G md ops ({ dst := dd, op := .build t xs, type := tt, pos := pos, after := after, guard := none } :: l) σ Q := h
theorem sl {t : TypeId} {x : Operand} {lo hi mx : Option Operand} (h : WpL P n m G md ops ({ dst := dd, op := .slice t x lo hi mx, type := tt, pos := pos, after := after, guard := none } :: l) σ Q) : WpL P n m G md ops ({ dst := dd, op := .slice t x lo hi mx, type := tt, pos := pos, after := after, guard := none } :: l) σ Q := h
theorem ms {t : TypeId} {x y : Operand} (h : WpL P n m G md ops ({ dst := dd, op := .makeSlice t x y, type := tt, pos := pos, after := after, guard := none } :: l) σ Q) : WpL P n m G md ops ({ dst := dd, op := .makeSlice t x y, type := tt, pos := pos, after := after, guard := none } :: l) σ Q := h
theorem nc {x : Operand} (h : WpL P n m G md ops ({ dst := dd, op := .nilCheck x, type := tt, pos := pos, after := after, guard := none } :: l) σ Q) : WpL P n m G md ops ({ dst := dd, op := .nilCheck x, type := tt, pos := pos, after := after, guard := none } :: l) σ Q := h
theorem st {t : TypeId} {x y : Operand} (h : WpL P n m G md ops ({ dst := dd, op := .store t x y, type := tt, pos := pos, after := after, guard := none } :: l) σ Q) : WpL P n m G md ops ({ dst := dd, op := .store t x y, type := tt, pos := pos, after := after, guard := none } :: l) σ Q := h
theorem gd {op : Op} {g : Nat × Bool} (h : WpL P n m G md ops ({ dst := dd, op := op, type := tt, pos := pos, after := after, guard := some g } :: l) σ Q) : WpL P n m G md ops ({ dst := dd, op := op, type := tt, pos := pos, after := after, guard := some g } :: l) σ Q := h
theorem tyStr {tab : List (Nat × Ty)} (hP : TabOk P tab) {t : Nat} (ht : tlook tab t = some .string) : P.underlying t = some .string := (hP.ty ht).1
theorem tyBool {tab : List (Nat × Ty)} (hP : TabOk P tab) {t : Nat} (ht : tlook tab t = some .bool) : P.underlying t = some .bool := (hP.ty ht).1
theorem tyInt {tab : List (Nat × Ty)} (hP : TabOk P tab) {t : Nat} {k : IntKind} (ht : tlook tab t = some (.int k)) : P.underlying t = some (.int k) := (hP.ty ht).1
section
variable {T : List (Nat × AV)} {O : List AObj} {op : Op} {j t : Nat} {want : Bool}
theorem gT (hj : ((ops[j]?).bind (·.dst)) = some t) (htn : t < n) (ht : look T t = .sc (.bool want)) (h : WpL P n m G md ops ({ dst := dd, op := op, type := tt, pos := pos, after := after, guard := none } :: l) ⟨T, O⟩ Q) :
    WpL P n m G md ops ({ dst := dd, op := op, type := tt, pos := pos, after := after, guard := some (j, want) } :: l) ⟨T, O⟩ Q := WpL.guardT (σ := ⟨T, O⟩) rfl hj htn ht h
theorem gF {d : Nat} (hj : ((ops[j]?).bind (·.dst)) = some t) (htn : t < n) (ht : look T t = .sc (.bool !want)) (h : WpL P n m G md ops l ⟨(d, .any) :: T, O⟩ Q) :
    WpL P n m G md ops ({ dst := some d, op := op, type := tt, pos := pos, after := after, guard := some (j, want) } :: l) ⟨T, O⟩ Q := WpL.guardF (σ := ⟨T, O⟩) rfl hj htn ht rfl h
theorem gS {b : Bool} (hj : ((ops[j]?).bind (·.dst)) = some t) (ht : look T t = .sc (.bool b))
    (h1 : b = true → WpL P n m G md ops ({ dst := dd, op := op, type := tt, pos := pos, after := after, guard := some (j, want) } :: l) ⟨(t, .sc (.bool true)) :: T, O⟩ Q)
    (h2 : b = false → WpL P n m G md ops ({ dst := dd, op := op, type := tt, pos := pos, after := after, guard := some (j, want) } :: l) ⟨(t, .sc (.bool false)) :: T, O⟩ Q) :
    WpL P n m G md ops ({ dst := dd, op := op, type := tt, pos := pos, after := after, guard := some (j, want) } :: l) ⟨T, O⟩ Q := WpL.guardS (σ := ⟨T, O⟩) rfl hj ht h1 h2
theorem gD {p : Prop} [Decidable p] (hj : ((ops[j]?).bind (·.dst)) = some t) (ht : look T t = .sc (.bool (decide p)))
    (h1 : p → WpL P n m G md ops ({ dst := dd, op := op, type := tt, pos := pos, after := after, guard := some (j, want) } :: l) ⟨(t, .sc (.bool true)) :: T, O⟩ Q)
    (h2 : ¬ p → WpL P n m G md ops ({ dst := dd, op := op, type := tt, pos := pos, after := after, guard := some (j, want) } :: l) ⟨(t, .sc (.bool false)) :: T, O⟩ Q) :
    WpL P n m G md ops ({ dst := dd, op := op, type := tt, pos := pos, after := after, guard := some (j, want) } :: l) ⟨T, O⟩ Q := WpL.guardD (σ := ⟨T, O⟩) rfl hj ht h1 h2
theorem gN {p : Prop} [Decidable p] (hj : ((ops[j]?).bind (·.dst)) = some t) (ht : look T t = .sc (.bool (!decide p)))
    (h1 : ¬ p → WpL P n m G md ops ({ dst := dd, op := op, type := tt, pos := pos, after := after, guard := some (j, want) } :: l) ⟨(t, .sc (.bool true)) :: T, O⟩ Q)
    (h2 : p → WpL P n m G md ops ({ dst := dd, op := op, type := tt, pos := pos, after := after, guard := some (j, want) } :: l) ⟨(t, .sc (.bool false)) :: T, O⟩ Q) :
    WpL P n m G md ops ({ dst := dd, op := op, type := tt, pos := pos, after := after, guard := some (j, want) } :: l) ⟨T, O⟩ Q := WpL.guardN (σ := ⟨T, O⟩) rfl hj ht h1 h2
end
end Go.Abs.K
namespace Go.Abs
open Go
section
variable {P : Program} {n m : Nat} {G : Ctx} {T : List (Nat × AV)} {O : List AObj} {Q : Exit → St → Prop} {ops : Array Oper} {l : List Oper} {d : Nat} {tt : TypeId} {pos : String} {after : Array Edge} {tab : List (Nat × Ty)}
theorem WpL.storeInts (hP : TabOk P tab) {t : Nat} {ty : Ty} {x y : Operand} {id ep off sz : Nat} {et : Option TypeId} {xs : List Int} {v : Int} (ht : tlook tab t = some ty) (hx : av T x = .ptr id ep off)
    (ho : O[id]? = some ⟨ints xs, ep, sz, et⟩) (hy : av T y = (fun v : Int => AV.sc (.int .i64 v)) v) (hk : ty.cellsN = some 1) (hle : off < xs.length)
    (h : WpL P n m G false ops l ⟨T, O.set id ⟨ints (xs.set off v), ep, sz, et⟩⟩ Q) :
    WpL P n m G false ops ({ dst := none, op := .store t x y, type := tt, pos := pos, after := after, guard := none } :: l) ⟨T, O⟩ Q :=
  WpL.store hP ht hx ho rfl (V := (fun v : Int => AV.sc (.int .i64 v)) v) (Vs := [(fun v : Int => AV.sc (.int .i64 v)) v]) (by rw [hy]; rfl) rfl hk (by simp [oneB, Value.oneCell']) (by simp; omega) (by
    have e : setL (ints xs) off [(fun v : Int => AV.sc (.int .i64 v)) v] = ints (xs.set off v) := by simp [setL, ints, List.map_set]
    simp only [e]; exact h)
theorem WpL.storeU8s (hP : TabOk P tab) {t : Nat} {ty : Ty} {x y : Operand} {id ep off sz : Nat} {et : Option TypeId} {xs : List Int} {v : Int} (ht : tlook tab t = some ty) (hx : av T x = .ptr id ep off)
    (ho : O[id]? = some ⟨u8s xs, ep, sz, et⟩) (hy : av T y = (fun v : Int => AV.sc (.int .u8 v)) v) (hk : ty.cellsN = some 1) (hle : off < xs.length)
    (h : WpL P n m G false ops l ⟨T, O.set id ⟨u8s (xs.set off v), ep, sz, et⟩⟩ Q) :
    WpL P n m G false ops ({ dst := none, op := .store t x y, type := tt, pos := pos, after := after, guard := none } :: l) ⟨T, O⟩ Q :=
  WpL.store hP ht hx ho rfl (V := (fun v : Int => AV.sc (.int .u8 v)) v) (Vs := [(fun v : Int => AV.sc (.int .u8 v)) v]) (by rw [hy]; rfl) rfl hk (by simp [oneB, Value.oneCell']) (by simp; omega) (by
    have e : setL (u8s xs) off [(fun v : Int => AV.sc (.int .u8 v)) v] = u8s (xs.set off v) := by simp [setL, u8s, List.map_set]
    simp only [e]; exact h)
theorem WpL.storeBools (hP : TabOk P tab) {t : Nat} {ty : Ty} {x y : Operand} {id ep off sz : Nat} {et : Option TypeId} {xs : List Bool} {v : Bool} (ht : tlook tab t = some ty) (hx : av T x = .ptr id ep off)
    (ho : O[id]? = some ⟨bools xs, ep, sz, et⟩) (hy : av T y = (fun v : Bool => AV.sc (.bool v)) v) (hk : ty.cellsN = some 1) (hle : off < xs.length)
    (h : WpL P n m G false ops l ⟨T, O.set id ⟨bools (xs.set off v), ep, sz, et⟩⟩ Q) :
    WpL P n m G false ops ({ dst := none, op := .store t x y, type := tt, pos := pos, after := after, guard := none } :: l) ⟨T, O⟩ Q :=
  WpL.store hP ht hx ho rfl (V := (fun v : Bool => AV.sc (.bool v)) v) (Vs := [(fun v : Bool => AV.sc (.bool v)) v]) (by rw [hy]; rfl) rfl hk (by simp [oneB, Value.oneCell']) (by simp; omega) (by
    have e : setL (bools xs) off [(fun v : Bool => AV.sc (.bool v)) v] = bools (xs.set off v) := by simp [setL, bools, List.map_set]
    simp only [e]; exact h)
theorem WpL.storeStrs (hP : TabOk P tab) {t : Nat} {ty : Ty} {x y : Operand} {id ep off sz : Nat} {et : Option TypeId} {xs : List (List UInt8)} {v : (List UInt8)} (ht : tlook tab t = some ty) (hx : av T x = .ptr id ep off)
    (ho : O[id]? = some ⟨strs xs, ep, sz, et⟩) (hy : av T y = (fun v : List UInt8 => AV.sc (.string ⟨v.toArray⟩)) v) (hk : ty.cellsN = some 1) (hle : off < xs.length)
    (h : WpL P n m G false ops l ⟨T, O.set id ⟨strs (xs.set off v), ep, sz, et⟩⟩ Q) :
    WpL P n m G false ops ({ dst := none, op := .store t x y, type := tt, pos := pos, after := after, guard := none } :: l) ⟨T, O⟩ Q :=
  WpL.store hP ht hx ho rfl (V := (fun v : List UInt8 => AV.sc (.string ⟨v.toArray⟩)) v) (Vs := [(fun v : List UInt8 => AV.sc (.string ⟨v.toArray⟩)) v]) (by rw [hy]; rfl) rfl hk (by simp [oneB, Value.oneCell']) (by simp; omega) (by
    have e : setL (strs xs) off [(fun v : List UInt8 => AV.sc (.string ⟨v.toArray⟩)) v] = strs (xs.set off v) := by simp [setL, strs, List.map_set]
    simp only [e]; exact h)
end
end Go.Abs
namespace Go.Abs
open Go
section
variable {P : Program} {n m : Nat} {G : Ctx} {T : List (Nat × AV)} {O : List AObj} {Q : Exit → St → Prop} {ops : Array Oper} {l : List Oper} {d : Nat} {tt : TypeId} {pos : String} {after : Array Edge} {tab : List (Nat × Ty)}
theorem WpL.app1Ints (hP : TabOk P tab) {t e b : Nat} {zs : List AV} {xs : List Int} {v : Int} {x y : Operand} {id ep len : Nat} {Vy : AV} (ht : tlook tab t = some (.slice e 1 b zs)) (hx : av T x = .own id ep 0 len)
    (ho : O[id]? = some ⟨ints xs, ep, 1, some e⟩) (hm : m ≤ id) (hy : (av T y).force = some Vy) (hs : srcB O Vy = some ([.sc (.int .i64 v)], 1)) (hol : xs.length = len)
    (hb : (len + 1) * b ≤ 140737488355328 ∧ len + 1 ≤ 9223372036854775807) (hn : d < n)
    (h : WpL P n m G false ops l ⟨(d, .own id (ep + 1) 0 (len + 1)) :: T, O.set id ⟨ints (xs ++ [v]), ep + 1, 1, some e⟩⟩ Q) :
    WpL P n m G false ops ({ dst := some d, op := .call { callee := .builtin .append, args := #[x, y], argTypes := #[t, t] }, type := tt, pos := pos, after := after, guard := none } :: l) ⟨T, O⟩ Q :=
  WpL.appOwn hP ht hx ho rfl rfl rfl (by simp [hol]) hm hy hs rfl (by simp [oneB, Value.oneCell']) hb hn (by
    have e2 : ints xs ++ [.sc (.int .i64 v)] = ints (xs ++ [v]) := by simp [ints]
    simp only [e2]; exact h)
theorem WpL.appInts (hP : TabOk P tab) {t e b c : Nat} {zs : List AV} {xs ys : List Int} {x y : Operand} {id ep len : Nat} {Vy : AV} (ht : tlook tab t = some (.slice e 1 b zs)) (hx : av T x = .own id ep 0 len)
    (ho : O[id]? = some ⟨ints xs, ep, 1, some e⟩) (hm : m ≤ id) (hy : (av T y).force = some Vy) (hs : srcB O Vy = some (ints ys, c)) (hol : xs.length = len) (hc : ys.length = c)
    (hb : (len + c) * b ≤ 140737488355328 ∧ len + c ≤ 9223372036854775807) (hn : d < n)
    (h : WpL P n m G false ops l ⟨(d, .own id (ep + 1) 0 (len + c)) :: T, O.set id ⟨ints (xs ++ ys), ep + 1, 1, some e⟩⟩ Q) :
    WpL P n m G false ops ({ dst := some d, op := .call { callee := .builtin .append, args := #[x, y], argTypes := #[t, t] }, type := tt, pos := pos, after := after, guard := none } :: l) ⟨T, O⟩ Q :=
  WpL.appOwn hP ht hx ho rfl rfl rfl (by simp [hol]) hm hy hs (by simp [hc]) (all_ints _ _) hb hn (by
    have e2 : ints xs ++ ints ys = ints (xs ++ ys) := by simp [ints]
    simp only [e2]; exact h)
theorem WpL.nil1Ints (hP : TabOk P tab) {t e b : Nat} {zs : List AV} {v : Int} {x y : Operand} {id : Nat} {Vy : AV} (ht : tlook tab t = some (.slice e 1 b zs)) (hx : av T x = .nilS)
    (hy : (av T y).force = some Vy) (hs : srcB O Vy = some ([.sc (.int .i64 v)], 1)) (hb : b ≤ 140737488355328) (hid : nid O 0 = some id) (hn : d < n)
    (h : WpL P n m G false ops l ⟨(d, .own id 0 0 1) :: T, O ++ [⟨ints [v], 0, 1, some e⟩]⟩ Q) :
    WpL P n m G false ops ({ dst := some d, op := .call { callee := .builtin .append, args := #[x, y], argTypes := #[t, t] }, type := tt, pos := pos, after := after, guard := none } :: l) ⟨T, O⟩ Q :=
  WpL.appNil hP ht hx hy hs rfl (by simp [oneB, Value.oneCell']) (by omega) hid hn h
theorem WpL.app1U8s (hP : TabOk P tab) {t e b : Nat} {zs : List AV} {xs : List Int} {v : Int} {x y : Operand} {id ep len : Nat} {Vy : AV} (ht : tlook tab t = some (.slice e 1 b zs)) (hx : av T x = .own id ep 0 len)
    (ho : O[id]? = some ⟨u8s xs, ep, 1, some e⟩) (hm : m ≤ id) (hy : (av T y).force = some Vy) (hs : srcB O Vy = some ([.sc (.int .u8 v)], 1)) (hol : xs.length = len)
    (hb : (len + 1) * b ≤ 140737488355328 ∧ len + 1 ≤ 9223372036854775807) (hn : d < n)
    (h : WpL P n m G false ops l ⟨(d, .own id (ep + 1) 0 (len + 1)) :: T, O.set id ⟨u8s (xs ++ [v]), ep + 1, 1, some e⟩⟩ Q) :
    WpL P n m G false ops ({ dst := some d, op := .call { callee := .builtin .append, args := #[x, y], argTypes := #[t, t] }, type := tt, pos := pos, after := after, guard := none } :: l) ⟨T, O⟩ Q :=
  WpL.appOwn hP ht hx ho rfl rfl rfl (by simp [hol]) hm hy hs rfl (by simp [oneB, Value.oneCell']) hb hn (by
    have e2 : u8s xs ++ [.sc (.int .u8 v)] = u8s (xs ++ [v]) := by simp [u8s]
    simp only [e2]; exact h)
theorem WpL.appU8s (hP : TabOk P tab) {t e b c : Nat} {zs : List AV} {xs ys : List Int} {x y : Operand} {id ep len : Nat} {Vy : AV} (ht : tlook tab t = some (.slice e 1 b zs)) (hx : av T x = .own id ep 0 len)
    (ho : O[id]? = some ⟨u8s xs, ep, 1, some e⟩) (hm : m ≤ id) (hy : (av T y).force = some Vy) (hs : srcB O Vy = some (u8s ys, c)) (hol : xs.length = len) (hc : ys.length = c)
    (hb : (len + c) * b ≤ 140737488355328 ∧ len + c ≤ 9223372036854775807) (hn : d < n)
    (h : WpL P n m G false ops l ⟨(d, .own id (ep + 1) 0 (len + c)) :: T, O.set id ⟨u8s (xs ++ ys), ep + 1, 1, some e⟩⟩ Q) :
    WpL P n m G false ops ({ dst := some d, op := .call { callee := .builtin .append, args := #[x, y], argTypes := #[t, t] }, type := tt, pos := pos, after := after, guard := none } :: l) ⟨T, O⟩ Q :=
  WpL.appOwn hP ht hx ho rfl rfl rfl (by simp [hol]) hm hy hs (by simp [hc]) (all_u8s _ _) hb hn (by
    have e2 : u8s xs ++ u8s ys = u8s (xs ++ ys) := by simp [u8s]
    simp only [e2]; exact h)
theorem WpL.nil1U8s (hP : TabOk P tab) {t e b : Nat} {zs : List AV} {v : Int} {x y : Operand} {id : Nat} {Vy : AV} (ht : tlook tab t = some (.slice e 1 b zs)) (hx : av T x = .nilS)
    (hy : (av T y).force = some Vy) (hs : srcB O Vy = some ([.sc (.int .u8 v)], 1)) (hb : b ≤ 140737488355328) (hid : nid O 0 = some id) (hn : d < n)
    (h : WpL P n m G false ops l ⟨(d, .own id 0 0 1) :: T, O ++ [⟨u8s [v], 0, 1, some e⟩]⟩ Q) :
    WpL P n m G false ops ({ dst := some d, op := .call { callee := .builtin .append, args := #[x, y], argTypes := #[t, t] }, type := tt, pos := pos, after := after, guard := none } :: l) ⟨T, O⟩ Q :=
  WpL.appNil hP ht hx hy hs rfl (by simp [oneB, Value.oneCell']) (by omega) hid hn h
theorem WpL.app1Strs (hP : TabOk P tab) {t e b : Nat} {zs : List AV} {xs : List (List UInt8)} {v : (List UInt8)} {x y : Operand} {id ep len : Nat} {Vy : AV} (ht : tlook tab t = some (.slice e 1 b zs)) (hx : av T x = .own id ep 0 len)
    (ho : O[id]? = some ⟨strs xs, ep, 1, some e⟩) (hm : m ≤ id) (hy : (av T y).force = some Vy) (hs : srcB O Vy = some ([.sc (.string ⟨v.toArray⟩)], 1)) (hol : xs.length = len)
    (hb : (len + 1) * b ≤ 140737488355328 ∧ len + 1 ≤ 9223372036854775807) (hn : d < n)
    (h : WpL P n m G false ops l ⟨(d, .own id (ep + 1) 0 (len + 1)) :: T, O.set id ⟨strs (xs ++ [v]), ep + 1, 1, some e⟩⟩ Q) :
    WpL P n m G false ops ({ dst := some d, op := .call { callee := .builtin .append, args := #[x, y], argTypes := #[t, t] }, type := tt, pos := pos, after := after, guard := none } :: l) ⟨T, O⟩ Q :=
  WpL.appOwn hP ht hx ho rfl rfl rfl (by simp [hol]) hm hy hs rfl (by simp [oneB, Value.oneCell']) hb hn (by
    have e2 : strs xs ++ [.sc (.string ⟨v.toArray⟩)] = strs (xs ++ [v]) := by simp [strs]
    simp only [e2]; exact h)
theorem WpL.appStrs (hP : TabOk P tab) {t e b c : Nat} {zs : List AV} {xs ys : List (List UInt8)} {x y : Operand} {id ep len : Nat} {Vy : AV} (ht : tlook tab t = some (.slice e 1 b zs)) (hx : av T x = .own id ep 0 len)
    (ho : O[id]? = some ⟨strs xs, ep, 1, some e⟩) (hm : m ≤ id) (hy : (av T y).force = some Vy) (hs : srcB O Vy = some (strs ys, c)) (hol : xs.length = len) (hc : ys.length = c)
    (hb : (len + c) * b ≤ 140737488355328 ∧ len + c ≤ 9223372036854775807) (hn : d < n)
    (h : WpL P n m G false ops l ⟨(d, .own id (ep + 1) 0 (len + c)) :: T, O.set id ⟨strs (xs ++ ys), ep + 1, 1, some e⟩⟩ Q) :
    WpL P n m G false ops ({ dst := some d, op := .call { callee := .builtin .append, args := #[x, y], argTypes := #[t, t] }, type := tt, pos := pos, after := after, guard := none } :: l) ⟨T, O⟩ Q :=
  WpL.appOwn hP ht hx ho rfl rfl rfl (by simp [hol]) hm hy hs (by simp [hc]) (all_strs _ _) hb hn (by
    have e2 : strs xs ++ strs ys = strs (xs ++ ys) := by simp [strs]
    simp only [e2]; exact h)
theorem WpL.nil1Strs (hP : TabOk P tab) {t e b : Nat} {zs : List AV} {v : (List UInt8)} {x y : Operand} {id : Nat} {Vy : AV} (ht : tlook tab t = some (.slice e 1 b zs)) (hx : av T x = .nilS)
    (hy : (av T y).force = some Vy) (hs : srcB O Vy = some ([.sc (.string ⟨v.toArray⟩)], 1)) (hb : b ≤ 140737488355328) (hid : nid O 0 = some id) (hn : d < n)
    (h : WpL P n m G false ops l ⟨(d, .own id 0 0 1) :: T, O ++ [⟨strs [v], 0, 1, some e⟩]⟩ Q) :
    WpL P n m G false ops ({ dst := some d, op := .call { callee := .builtin .append, args := #[x, y], argTypes := #[t, t] }, type := tt, pos := pos, after := after, guard := none } :: l) ⟨T, O⟩ Q :=
  WpL.appNil hP ht hx hy hs rfl (by simp [oneB, Value.oneCell']) (by omega) hid hn h
end
end Go.Abs
namespace Go.Abs
open Go
section
variable {P : Program} {n m : Nat} {G : Ctx} {T : List (Nat × AV)} {O : List AObj} {Q : Exit → St → Prop} {ops : Array Oper} {l : List Oper} {d : Nat} {tt : TypeId} {pos : String} {after : Array Edge} {tab : List (Nat × Ty)}
theorem WpL.lit0Ints (hP : TabOk P tab) {t e b id : Nat} {ps : Array (Nat × Operand)} (ht : tlook tab t = some (.slice e 1 b [.sc (.int .i64 0)])) (hps : ps.toList = []) (hid : nid O 0 = some id) (hn : d < n)
    (h : WpL P n m G false ops l ⟨(d, .own id 0 0 0) :: T, O ++ [⟨ints [], 0, 1, some e⟩]⟩ Q) :
    WpL P n m G false ops ({ dst := some d, op := .buildSlice t 0 ps, type := tt, pos := pos, after := after, guard := none } :: l) ⟨T, O⟩ Q := by
  have e1 : ps = ([] : List (Nat × Operand)).toArray := by rw [← hps]
  rw [e1]
  exact WpL.lit hP ht rfl rfl .nil (by decide) hid hn h
theorem WpL.lit0U8s (hP : TabOk P tab) {t e b id : Nat} {ps : Array (Nat × Operand)} (ht : tlook tab t = some (.slice e 1 b [.sc (.int .u8 0)])) (hps : ps.toList = []) (hid : nid O 0 = some id) (hn : d < n)
    (h : WpL P n m G false ops l ⟨(d, .own id 0 0 0) :: T, O ++ [⟨u8s [], 0, 1, some e⟩]⟩ Q) :
    WpL P n m G false ops ({ dst := some d, op := .buildSlice t 0 ps, type := tt, pos := pos, after := after, guard := none } :: l) ⟨T, O⟩ Q := by
  have e1 : ps = ([] : List (Nat × Operand)).toArray := by rw [← hps]
  rw [e1]
  exact WpL.lit hP ht rfl rfl .nil (by decide) hid hn h
theorem WpL.lit0Bools (hP : TabOk P tab) {t e b id : Nat} {ps : Array (Nat × Operand)} (ht : tlook tab t = some (.slice e 1 b [.sc (.bool false)])) (hps : ps.toList = []) (hid : nid O 0 = some id) (hn : d < n)
    (h : WpL P n m G false ops l ⟨(d, .own id 0 0 0) :: T, O ++ [⟨bools [], 0, 1, some e⟩]⟩ Q) :
    WpL P n m G false ops ({ dst := some d, op := .buildSlice t 0 ps, type := tt, pos := pos, after := after, guard := none } :: l) ⟨T, O⟩ Q := by
  have e1 : ps = ([] : List (Nat × Operand)).toArray := by rw [← hps]
  rw [e1]
  exact WpL.lit hP ht rfl rfl .nil (by decide) hid hn h
theorem WpL.lit0Strs (hP : TabOk P tab) {t e b id : Nat} {ps : Array (Nat × Operand)} (ht : tlook tab t = some (.slice e 1 b [.sc (.string ⟨#[]⟩)])) (hps : ps.toList = []) (hid : nid O 0 = some id) (hn : d < n)
    (h : WpL P n m G false ops l ⟨(d, .own id 0 0 0) :: T, O ++ [⟨strs [], 0, 1, some e⟩]⟩ Q) :
    WpL P n m G false ops ({ dst := some d, op := .buildSlice t 0 ps, type := tt, pos := pos, after := after, guard := none } :: l) ⟨T, O⟩ Q := by
  have e1 : ps = ([] : List (Nat × Operand)).toArray := by rw [← hps]
  rw [e1]
  exact WpL.lit hP ht rfl rfl .nil (by decide) hid hn h
end
end Go.Abs
namespace Go.Abs
open Go
section
variable {P : Program} {n m : Nat} {G : Ctx} {T : List (Nat × AV)} {O : List AObj} {Q : Exit → St → Prop} {ops : Array Oper} {l : List Oper} {d : Nat} {tt : TypeId} {pos : String} {after : Array Edge} {tab : List (Nat × Ty)}
/-- The cells of a literal's elements, computed. -/
def litC (T : List (Nat × AV)) (O : List AObj) (k : Nat) : List Operand → Option (List AV)
  | [] => some []
  | x :: xs => match (av T x).force with
    | none => none
    | some V => match oneB O V && Nat.beq k 1 with
      | true => match litC T O k xs with
        | none => none
        | some cs => some (V :: cs)
      | false => match cellsV O V with
        | none => none
        | some ds => match Nat.beq ds.length k with
          | false => none
          | true => match litC T O k xs with
            | none => none
            | some cs => some (ds ++ cs)
theorem litC_lit {k : Nat} : ∀ {xs : List Operand} {cs : List AV}, litC T O k xs = some cs → Lit T O k xs cs
  | [], cs, h => by simp only [litC, Option.some.injEq] at h; subst h; exact .nil
  | x :: xs, cs, h => by
    simp only [litC] at h
    split at h
    · simp at h
    · rename_i V hV
      split at h
      · rename_i hb
        simp only [Bool.and_eq_true] at hb
        split at h
        · simp at h
        · rename_i cs' hc
          simp only [Option.some.injEq] at h; subst h
          exact .one hV hb.1 (Nat.eq_of_beq_eq_true hb.2) (litC_lit hc)
      · split at h
        · simp at h
        · rename_i ds hds
          split at h
          · simp at h
          · rename_i hlen
            split at h
            · simp at h
            · rename_i cs' hc
              simp only [Option.some.injEq] at h; subst h
              exact .cons hV hds (Nat.eq_of_beq_eq_true hlen) (litC_lit hc)
theorem WpL.litF (hP : TabOk P tab) {t e k b len id : Nat} {zs cs : List AV} {parts : List (Nat × Operand)} (ht : tlook tab t = some (.slice e k b zs)) (hidx : parts.map (·.1) = List.range' 0 parts.length) (hlen : parts.length = len)
    (hlit : litC T O k (parts.map (·.2)) = some cs) (hsm : len * k ≤ 16777216) (hid : nid O 0 = some id) (hn : d < n)
    (h : WpL P n m G false ops l ⟨(d, .own id 0 0 len) :: T, O ++ [⟨cs, 0, k, some e⟩]⟩ Q) :
    WpL P n m G false ops ({ dst := some d, op := .buildSlice t len parts.toArray, type := tt, pos := pos, after := after, guard := none } :: l) ⟨T, O⟩ Q :=
  WpL.lit hP ht hidx hlen (litC_lit hlit) hsm hid hn h
end
end Go.Abs
namespace Go.Abs
open Go
section
variable {P : Program} {n m : Nat} {G : Ctx} {T : List (Nat × AV)} {O : List AObj} {Q : Exit → St → Prop} {ops : Array Oper} {l : List Oper} {d : Nat} {tt : TypeId} {pos : String} {after : Array Edge} {tab : List (Nat × Ty)}
theorem flat_strs (n : Nat) : (List.replicate n [AV.sc (.string ⟨#[]⟩)]).flatten = strs (List.replicate n []) := by
  induction n with
  | zero => rfl
  | succ n ih => rw [List.replicate_succ, List.flatten_cons, ih, List.replicate_succ]; rfl
theorem flat_bools (n : Nat) : (List.replicate n [AV.sc (.bool false)]).flatten = bools (List.replicate n false) := by
  induction n with
  | zero => rfl
  | succ n ih => rw [List.replicate_succ, List.flatten_cons, ih, List.replicate_succ]; rfl
theorem WpL.makeStrs (hP : TabOk P tab) {t e b id : Nat} {x y : Operand} {kl kc : IntKind} {p : Int} (ht : tlook tab t = some (.slice e 1 b [.sc (.string ⟨#[]⟩)])) (hx : av T x = .sc (.int kl p)) (hy : av T y = .sc (.int kc p))
    (hp : 0 ≤ p) (hb : (b : Int) * p ≤ 281474976710656 ∧ p ≤ 9223372036854775807) (hid : nid O 0 = some id) (hn : d < n)
    (h : WpL P n m G false ops l ⟨(d, .own id 0 0 p.toNat) :: T, O ++ [⟨strs (List.replicate p.toNat []), 0, 1, some e⟩]⟩ Q) :
    WpL P n m G false ops ({ dst := some d, op := .makeSlice t x y, type := tt, pos := pos, after := after, guard := none } :: l) ⟨T, O⟩ Q :=
  WpL.make hP ht hx hy hp hb hid hn (by rw [flat_strs]; exact h)
theorem WpL.makeBools (hP : TabOk P tab) {t e b id : Nat} {x y : Operand} {kl kc : IntKind} {p : Int} (ht : tlook tab t = some (.slice e 1 b [.sc (.bool false)])) (hx : av T x = .sc (.int kl p)) (hy : av T y = .sc (.int kc p))
    (hp : 0 ≤ p) (hb : (b : Int) * p ≤ 281474976710656 ∧ p ≤ 9223372036854775807) (hid : nid O 0 = some id) (hn : d < n)
    (h : WpL P n m G false ops l ⟨(d, .own id 0 0 p.toNat) :: T, O ++ [⟨bools (List.replicate p.toNat false), 0, 1, some e⟩]⟩ Q) :
    WpL P n m G false ops ({ dst := some d, op := .makeSlice t x y, type := tt, pos := pos, after := after, guard := none } :: l) ⟨T, O⟩ Q :=
  WpL.make hP ht hx hy hp hb hid hn (by rw [flat_bools]; exact h)
end
end Go.Abs

/- Regions that draw their order and in which calls stand between loads. No condition. -/
namespace Go.Abs
open Go
set_option linter.unusedVariables false
set_option linter.unusedSimpArgs false

def Only (σ : St) : Exit → St → Prop
  | .normal, σ' => σ' = σ
  | _, _ => False
theorem Only.mk {σ σ' : St} (h : σ' = σ) : Only σ .normal σ' := h

/-- What the operations that this one waits for have yielded. -/
def deps (fs : List (Nat × AV)) (o : Oper) : List (Nat × AV) := o.after.toList.filterMap fun e => if Region.binds .any e = true then fs[e.on]? else none

inductive HeadJ (P : Program) (n m : Nat) (G : Ctx) (ops : Array Oper) (T0 : List (Nat × AV)) (O : List AObj) : List (Nat × AV) → List Oper → List (Nat × AV) → Prop
  | nil {fs} : HeadJ P n m G ops T0 O fs [] fs
  | cons {fs out : List (Nat × AV)} {o : Oper} {l : List Oper} {d : Nat} {V : AV} {F : List (Nat × AV)} (hd : o.dst = some d) (hF : deps fs o = F)
      (h : ∀ Tv, WpL P n m G false ops [o] ⟨F ++ (T0 ++ Tv), O⟩ (Only ⟨(d, V) :: (F ++ (T0 ++ Tv)), O⟩)) (r : HeadJ P n m G ops T0 O (fs ++ [(d, V)]) l out) : HeadJ P n m G ops T0 O fs (o :: l) out

section
variable {P : Program} {n m : Nat} {G : Ctx} {ops : Array Oper} {T0 : List (Nat × AV)} {O : List AObj}

theorem HeadJ.pre {fs l out} (h : HeadJ P n m G ops T0 O fs l out) : ∃ r, out = fs ++ r ∧ r.length = l.length := by
  induction h with
  | nil => exact ⟨[], by simp, rfl⟩
  | @cons fs out o l d V F _ _ _ _ ih => obtain ⟨r, h1, h2⟩ := ih; exact ⟨(d, V) :: r, by rw [h1]; simp, by simp [h2]⟩

theorem HeadJ.at {fs l out} (h : HeadJ P n m G ops T0 O fs l out) : ∀ {j : Nat} {o : Oper}, l[j]? = some o → ∃ d V, o.dst = some d ∧ out[fs.length + j]? = some (d, V) ∧
    ∀ Tv, WpL P n m G false ops [o] ⟨deps (out.take (fs.length + j)) o ++ (T0 ++ Tv), O⟩ (Only ⟨(d, V) :: (deps (out.take (fs.length + j)) o ++ (T0 ++ Tv)), O⟩) := by
  induction h with
  | nil => intro j o h; simp at h
  | @cons fs out o l d V F hd hF h r ih =>
    intro j o' hj
    obtain ⟨r', h1, h2⟩ := r.pre
    cases j with
    | zero =>
      simp only [List.getElem?_cons_zero, Option.some.injEq] at hj
      subst hj
      refine ⟨d, V, hd, by rw [h1]; simp, ?_⟩
      have : out.take (fs.length + 0) = fs := by rw [h1, Nat.add_zero, List.append_assoc, List.take_left']; rfl
      rw [this, hF]; exact h
    | succ j =>
      have := ih (j := j) (o := o') (by simpa using hj)
      rw [List.length_append, List.length_singleton, Nat.add_assoc, Nat.add_comm 1 j] at this
      exact this

def has (A : List (Nat × AV)) (t : Nat) : Bool := A.any fun p => Nat.beq p.1 t

theorem look_append (A B : List (Nat × AV)) (t : Nat) : look (A ++ B) t = if has A t = true then look A t else look B t := by
  induction A with
  | nil => simp [has]
  | cons p A ih =>
    obtain ⟨k, V⟩ := p
    by_cases h : k = t
    · subst h; simp [has, look_cons_same]
    · rw [List.cons_append, look_cons_other _ _ _ _ h, look_cons_other _ _ _ _ h, ih]
      have : Nat.beq k t = false := by rw [← Bool.not_eq_true]; intro h'; exact h (Nat.eq_of_beq_eq_true h')
      simp only [has, List.any_cons, this, Bool.false_or]
      rfl

theorem has_look {A : List (Nat × AV)} {t : Nat} (h : has A t = true) : (t, look A t) ∈ A := by
  induction A with
  | nil => simp [has] at h
  | cons p A ih =>
    obtain ⟨k, V⟩ := p
    by_cases hk : k = t
    · subst hk; rw [look_cons_same]; simp
    · rw [look_cons_other _ _ _ _ hk]
      refine List.mem_cons_of_mem _ (ih ?_)
      have : Nat.beq k t = false := by rw [← Bool.not_eq_true]; intro h'; exact hk (Nat.eq_of_beq_eq_true h')
      simpa [has, this] using h

theorem has_mem {A : List (Nat × AV)} {t : Nat} {V : AV} (h : (t, V) ∈ A) : has A t = true := by
  simp only [has, List.any_eq_true]
  exact ⟨_, h, by simp⟩

theorem Rel.relook {T T' : List (Nat × AV)} {a w} (h : Rel n m G ⟨T, O⟩ a w) (he : ∀ t, look T' t = look T t) : Rel n m G ⟨T', O⟩ a w := by
  obtain ⟨S, ι, F, hr⟩ := h
  exact ⟨S, ι, F, hr.defers, hr.size, fun t => by rw [show look (St.mk T' O).T t = look T t from he t]; exact hr.tmps t, hr.objs, hr.foot, hr.base, hr.stable, hr.keeps, hr.spots, hr.mle⟩

/-- Slots that the head fills are filled by one operation each, and nothing was known of them. -/
structure Heads (ops : Array Oper) (T0 out : List (Nat × AV)) (k : Nat) : Prop where
  len : out.length = k
  nodup : (out.map (·.1)).Nodup
  fresh : ∀ p, p ∈ out → has T0 p.1 = false
  back : ∀ i, i < k → ∀ o, ops[i]? = some o → ∀ e ∈ o.after, Region.binds .any e = true → e.on < i

def Good (n m : Nat) (G : Ctx) (T0 out : List (Nat × AV)) (O : List AObj) (listed : Array Bool) (a : Act) (w : World) : Prop :=
  ∃ T, Rel n m G ⟨T, O⟩ a w ∧ (∀ (i d : Nat) (V : AV), out[i]? = some (d, V) → listed.getD i false = true → look T d = V) ∧ ∀ t, has out t = false → look T t = look T0 t

theorem out_inj {out : List (Nat × AV)} (h : (out.map (·.1)).Nodup) {i j d : Nat} {V W : AV} (hi : out[i]? = some (d, V)) (hj : out[j]? = some (d, W)) : i = j := by
  have hi' := (List.getElem?_eq_some_iff.1 hi).1
  refine (List.getElem?_inj (l := out.map (·.1)) (by simpa using hi') h).1 ?_
  simp [hi, hj]

theorem head_step {out : List (Nat × AV)} {k : Nat} (H : Heads ops T0 out k) {Q : Exit → Act → World → Prop} (hJ : ∀ {j : Nat} {o : Oper}, j < k → ops[j]? = some o → ∃ d V, o.dst = some d ∧ out[j]? = some (d, V) ∧
      ∀ Tv, WpL P n m G false ops [o] ⟨deps (out.take j) o ++ (T0 ++ Tv), O⟩ (Only ⟨(d, V) :: (deps (out.take j) o ++ (T0 ++ Tv)), O⟩))
    {listed : Array Bool} (inv : HeadInv .any ops k listed) {i : Nat} (hi : i ∈ Region.ready .any ops listed) (hik : i < k) {a w} (hg : Good n m G T0 out O listed a w) {K : Act → World → Prop}
    (hK : ∀ a' w', Good n m G T0 out O (listed.setIfInBounds i true) a' w' → K a' w') : wpOp P ops Q i K a w := by
  obtain ⟨hun, o, ho, hall⟩ := mem_ready.1 hi
  obtain ⟨T, hr, h1, h2⟩ := hg
  obtain ⟨d, V, hd, hout, hw⟩ := hJ hik ho
  have hF : ∀ t U, (t, U) ∈ deps (out.take i) o → look T t = U := by
    intro t U hm
    simp only [deps, List.mem_filterMap] at hm
    obtain ⟨e, he, hx⟩ := hm
    split at hx
    · rename_i hb
      have he' : e ∈ o.after := by simpa using he
      have hx' : out[e.on]? = some (t, U) := by
        rw [List.getElem?_take] at hx
        split at hx
        · exact hx
        · simp at hx
      exact h1 _ _ _ hx' (hall e he' hb)
    · simp at hx
  have same : ∀ t, look (deps (out.take i) o ++ (T0 ++ T)) t = look T t := by
    intro t
    rw [look_append]
    split
    · rename_i h; exact (hF _ _ (has_look h)).symm
    · rw [look_append]
      split
      · rename_i h
        refine (h2 t ?_).symm
        cases hc : has out t with
        | false => rfl
        | true => have := H.fresh _ (has_look hc); simp only at this; rw [this] at h; cases h
      · rfl
  have hw' := hw T a w (hr.relook same)
  simp only at hw'
  have good : ∀ a' w', Rel n m G ⟨(d, V) :: (deps (out.take i) o ++ (T0 ++ T)), O⟩ a' w' → Good n m G T0 out O (listed.setIfInBounds i true) a' w' := by
    intro a' w' hr'
    refine ⟨_, hr', fun j d' V' hj hl => ?_, fun t ht => ?_⟩
    · by_cases hij : i = j
      · subst hij; rw [hout] at hj; cases hj; exact look_cons_same _ _ _
      · rw [getD_set_ne false hij] at hl
        have hne : d ≠ d' := by rintro rfl; exact hij (out_inj H.nodup hout hj)
        rw [look_cons_other _ _ _ _ hne, same]
        exact h1 _ _ _ hj hl
    · have hne : d ≠ t := by
        rintro rfl
        have := has_mem (List.mem_of_getElem? hout)
        rw [ht] at this; cases this
      rw [look_cons_other _ _ _ _ hne, same]; exact h2 t ht
  have only : ∀ e a' w', (∃ σ', Only ⟨(d, V) :: (deps (out.take i) o ++ (T0 ++ T)), O⟩ e σ' ∧ Rel n m G σ' a' w') → e = .normal ∧ K a' w' := by
    rintro e a' w' ⟨σ', hq, hr'⟩
    cases e <;> first | (simp only [Only] at hq; subst hq; exact ⟨rfl, hK _ _ (good _ _ hr')⟩) | exact hq.elim
  unfold wpOp
  simp only [ho]
  change wpList P ops _ [o] a w at hw'
  unfold wpList at hw'
  by_cases hwant : Region.wanted o (yielded ops a.tmps) = true
  · rw [if_pos hwant] at hw' ⊢
    rcases hw' with hw' | ⟨_, a', w', hx⟩
    · refine .inl ?_
      unfold Oper.wp at hw' ⊢
      generalize (execOp a.eval o).run P w = r at *
      cases r with
      | ok x w1 =>
        cases x <;> simp only [Oper.upon] at hw' ⊢
        case value v => exact (only _ _ _ hw').2
        case skip => exact (only _ _ _ hw').2
        case defer d => exact (only _ _ _ hw').2
        case enter f args =>
          refine hw'.mono fun e w2 h2 => ?_
          cases e with
          | returned v => exact (only _ _ _ h2).2
          | panicked c => exact absurd (only _ _ _ h2).1 (by simp)
          | outgrown => obtain ⟨_, _, hf⟩ := h2; exact absurd (only _ _ _ hf).1 (by simp)
        case row r ar => exact hw'.mono fun v w2 h2 => (only _ _ _ h2).2
      | halt x w1 => cases x <;> simp only [Oper.upon] at hw' ⊢ <;> first | exact absurd (only _ _ _ hw').1 (by simp) | exact hw'.elim | (obtain ⟨_, _, hf⟩ := hw'; exact absurd (only _ _ _ hf).1 (by simp))
    · exact absurd (only _ _ _ hx).1 (by simp)
  · rw [if_neg hwant] at hw' ⊢
    exact (only _ _ _ hw').2

theorem head_any {out : List (Nat × AV)} {k g : Nat} (H : Heads ops T0 out k) (hks : k ≤ ops.size) (hs : k < ops.size → Region.sinkB .any ops k = true ∧ Region.chainB .any ops k = true)
    (hJ : ∀ {j : Nat} {o : Oper}, j < k → ops[j]? = some o → ∃ d V, o.dst = some d ∧ out[j]? = some (d, V) ∧
      ∀ Tv, WpL P n m G false ops [o] ⟨deps (out.take j) o ++ (T0 ++ Tv), O⟩ (Only ⟨(d, V) :: (deps (out.take j) o ++ (T0 ++ Tv)), O⟩)) {Q : Exit → Act → World → Prop}
    (hT : ∀ listed a w, HeadInv .any ops k listed → (∀ i, i < k → listed.getD i false = true) → Good n m G T0 out O listed a w → wpAny P .any ops Q g listed a w) :
    ∀ (f : Nat) (listed : Array Bool) (a : Act) (w : World), HeadInv .any ops k listed → ((List.range k).filter fun i => !listed.getD i false).length = f → Good n m G T0 out O listed a w →
      wpAny P .any ops Q (f + g) listed a w := by
  intro f
  induction f with
  | zero =>
    intro listed a w inv hc hg
    rw [Nat.zero_add]
    refine hT listed a w inv (fun i hi => ?_) hg
    have h0 := List.eq_nil_of_length_eq_zero hc
    cases hl : listed.getD i false with
    | true => rfl
    | false =>
      have : i ∈ (List.range k).filter fun i => !listed.getD i false := by simp [List.mem_filter, hi]; simpa using hl
      rw [h0] at this; cases this
  | succ f ih =>
    intro listed a w inv hc hg
    have hgetD : ∀ i, i < k → listed.getD i false = false → listed.getD i true = false := fun i hi h => getD_in (by rw [inv.size]; omega) h
    -- the least that is not listed is ready
    have hex : ∃ i, i < k ∧ listed.getD i false = false := by
      cases hl : (List.range k).filter fun i => !listed.getD i false with
      | nil => rw [hl] at hc; simp at hc
      | cons i r =>
        have : i ∈ (List.range k).filter fun i => !listed.getD i false := by rw [hl]; simp
        rw [List.mem_filter, List.mem_range] at this
        exact ⟨i, this.1, by simpa using this.2⟩
    obtain ⟨i0, hi0, hl0⟩ := hex
    have least : ∀ d i, i = d → i < k → listed.getD i false = false → ∃ j, j < k ∧ j ∈ Region.ready .any ops listed := by
      intro d
      induction d using Nat.strongRecOn with
      | _ d ihd =>
        rintro i rfl hi hl
        by_cases hh : ∃ j, j < i ∧ listed.getD j false = false
        · obtain ⟨j, hj, hjl⟩ := hh
          exact ihd j hj j rfl (by omega) hjl
        · have hlt : i < ops.size := by omega
          refine ⟨i, hi, mem_ready.2 ⟨hgetD i hi hl, ops[i], by simp [hlt], fun e he hb => ?_⟩⟩
          have hlt' := H.back i hi _ (by simp [hlt]) e he hb
          cases hx : listed.getD e.on false with
          | true => rfl
          | false => exact (hh ⟨_, hlt', hx⟩).elim
    obtain ⟨j0, hj0, hr0⟩ := least i0 i0 rfl hi0 hl0
    rw [show f + 1 + g = (f + g) + 1 by omega]
    refine ⟨fun h => (by rw [h] at hr0; cases hr0), fun i hi => ?_⟩
    have hik : i < k := by
      rcases Nat.lt_or_ge i k with h | h
      · exact h
      · by_cases hk : k < ops.size
        · exact absurd hi (tail_waits (hs hk).1 (hs hk).2 hk inv _ i0 rfl hi0 (hgetD i0 hi0 hl0) i h)
        · obtain ⟨_, o, ho, _⟩ := mem_ready.1 hi
          have := (Array.getElem?_eq_some_iff.1 ho).1
          omega
    have hiu : listed.getD i false = false := getD_both (mem_ready.1 hi).1
    refine head_step H hJ inv hi hik hg fun a' w' hg' => ih _ _ _ (inv.set hi hik) ?_ hg'
    have key : ∀ (L : List Nat), L.Nodup → i ∈ L → (L.filter fun j => !(listed.setIfInBounds i true).getD j false).length + 1 = (L.filter fun j => !listed.getD j false).length := by
      intro L
      have hself : (listed.setIfInBounds i true).getD i false = true := by
        have : i < listed.size := by rw [inv.size]; omega
        simp [this]
      induction L with
      | nil => intro _ h; cases h
      | cons x L ihL =>
        intro hnd hm
        rw [List.nodup_cons] at hnd
        by_cases hx : x = i
        · subst hx
          have hsame : (L.filter fun j => !(listed.setIfInBounds x true).getD j false) = L.filter fun j => !listed.getD j false := by
            refine List.filter_congr fun j hj => ?_
            rw [getD_set_ne false (by rintro rfl; exact hnd.1 hj)]
          rw [List.filter_cons, List.filter_cons, hsame, hself, hiu]; simp
        · have hm' : i ∈ L := by
            rcases List.mem_cons.1 hm with h | h
            · exact (hx h.symm).elim
            · exact h
          have := ihL hnd.2 hm'
          rw [List.filter_cons, List.filter_cons, getD_set_ne false (Ne.symm hx)]
          split <;> (try simp only [List.length_cons]) <;> omega
    have := key (List.range k) List.nodup_range (List.mem_range.2 hik)
    omega

def nodupB : List Nat → Bool
  | [] => true
  | x :: xs => !(xs.any fun y => Nat.beq y x) && nodupB xs
theorem nodupB_spec {l : List Nat} (h : nodupB l = true) : l.Nodup := by
  induction l with
  | nil => simp
  | cons x xs ih =>
    simp only [nodupB, Bool.and_eq_true, Bool.not_eq_true', List.any_eq_false] at h
    refine List.nodup_cons.2 ⟨fun hm => ?_, ih h.2⟩
    exact h.1 x hm (by simp)

/-- The test of the shape: the first k operations in any order, then the rest in one order. -/
def mixB (ops : Array Oper) (k : Nat) : Bool :=
  decide (k ≤ ops.size) && (List.range k).all (fun i => match ops[i]? with | some o => o.after.toList.all fun e => !Region.binds .any e || decide (e.on < i) | none => true) &&
  (decide (k = ops.size) || (Region.sinkB .any ops k && Region.chainB .any ops k)) && Region.seqB .any ops (ops.size - k) k ((Array.range ops.size).map fun i => decide (i < k))

theorem WpA.regionM {l : List Oper} {id : Nat} {out T1 : List (Nat × AV)} {Q : Exit → St → Prop} (k : Nat) (hm : P.follows .mixedOrders = true) (hB : mixB l.toArray k = true)
    (hJ : HeadJ P n m G l.toArray T0 O [] (l.take k) out) (hnd : nodupB (out.map (·.1)) = true) (hfr : (out.all fun p => !has T0 p.1) = true)
    (hT1 : out ++ T0 = T1) (h : WpL P n m G false l.toArray (l.drop k) ⟨T1, O⟩ Q) : WpA P n m G (.region id l.toArray true) ⟨T0, O⟩ Q := fun a w hr => by
  subst hT1
  simp only [mixB, Bool.and_eq_true, decide_eq_true_eq, Bool.or_eq_true] at hB
  obtain ⟨⟨⟨hks, hback⟩, hsc⟩, hseq⟩ := hB
  have hkl : k ≤ l.length := by simpa using hks
  have htl : (l.take k).length = k := by simp; omega
  obtain ⟨r, hr1, hr2⟩ := hJ.pre
  have hlen : out.length = k := by rw [hr1]; simp [hr2]; omega
  have H : Heads l.toArray T0 out k := ⟨hlen, nodupB_spec hnd, fun p hp => by have := List.all_eq_true.1 hfr p hp; simpa using this, fun i hi o ho e he hb => by
    have h1 := List.all_eq_true.1 hback i (List.mem_range.2 hi)
    rw [ho] at h1
    have h2 := List.all_eq_true.1 h1 e (by simpa using he)
    simp only [Bool.or_eq_true, Bool.not_eq_true', decide_eq_true_eq] at h2
    rcases h2 with h2 | h2
    · rw [hb] at h2; cases h2
    · exact h2⟩
  have hJ' : ∀ {j : Nat} {o : Oper}, j < k → l.toArray[j]? = some o → ∃ d V, o.dst = some d ∧ out[j]? = some (d, V) ∧
      ∀ Tv, WpL P n m G false l.toArray [o] ⟨deps (out.take j) o ++ (T0 ++ Tv), O⟩ (Only ⟨(d, V) :: (deps (out.take j) o ++ (T0 ++ Tv)), O⟩) := by
    intro j o hj ho
    have ho' : (l.take k)[j]? = some o := by rw [List.getElem?_take, if_pos hj]; simpa using ho
    have := hJ.at ho'
    simpa using this
  have inv0 : HeadInv .any l.toArray k (Array.replicate l.toArray.size false) :=
    ⟨by simp, fun j oj _ hl => (by rw [getD_replicate_false] at hl; cases hl), fun t _ ht => getD_in (by simpa using ht) (getD_replicate_false _ _)⟩
  refine wp_region_any hm ?_
  have fin := head_any (P := P) (n := n) (m := m) (G := G) (O := O) (g := l.toArray.size - k) (Q := fun e a' w' => ∃ σ', Q e σ' ∧ Rel n m G σ' a' w') H hks (fun hk => hsc.resolve_left (by omega)) hJ' (fun listed a w inv hall hg => by
    obtain ⟨T, hrT, h1, h2⟩ := hg
    have hlist : listed = (Array.range l.toArray.size).map fun i => decide (i < k) := by
      apply Array.ext
      · simp [inv.size]
      · intro i hi1 hi2
        have hi : i < l.toArray.size := by rw [← inv.size]; exact hi1
        by_cases hik : i < k
        · have := hall i hik
          simp [hi1] at this
          simp [this, hik]
        · have := inv.tail i (by omega) hi
          simp [hi1] at this
          simp [this, hik]
    have hdl : (l.drop k).length = l.toArray.size - k := by simp
    rw [← hdl]
    refine wpAny_of_seq (l.drop k) k listed a w (fun j => by simp [List.getElem?_drop]) (by rw [hdl, hlist]; exact hseq) ?_
    refine h a w (hrT.relook fun t => ?_)
    rw [look_append]
    split
    · rename_i hh
      obtain ⟨i, hi, hi2⟩ := List.getElem_of_mem (has_look hh)
      have : out[i]? = some (t, look out t) := by rw [List.getElem?_eq_getElem hi, hi2]
      exact (h1 i _ _ this (hall i (by omega))).symm
    · rename_i hh
      exact (h2 t (by simpa using hh)).symm) k _ a w.drew inv0 (by
        have : ((List.range k).filter fun i => !(Array.replicate l.toArray.size false).getD i false) = List.range k := by
          rw [List.filter_eq_self]; intro i _; rw [getD_replicate_false]; rfl
        rw [this]; simp) ⟨T0, hr.drew, ⟨fun i d V _ hl => (by rw [getD_replicate_false] at hl; cases hl), fun _ _ => rfl⟩⟩
  rw [show k + (l.toArray.size - k) = l.toArray.size by omega] at fin
  exact fin
end
end Go.Abs
namespace Go.Abs.K
end Go.Abs.K

/- Regions that draw their order, whose head makes objects: the operations that make them stand one behind the other. No condition. -/
namespace Go.Abs
open Go
set_option linter.unusedVariables false
set_option linter.unusedSimpArgs false

/-- A fact of an operation: its slot, its value, how many objects stand for sure behind it. -/
abbrev Fact := Nat × AV × Nat
def ndeps (fs : List Fact) (o : Oper) : List (Nat × AV) := o.after.toList.filterMap fun e => if Region.binds .any e = true then (fs[e.on]?).map fun x => (x.1, x.2.1) else none
def sure (c0 : Nat) (fs : List Fact) (o : Oper) : Nat := o.after.toList.foldl (fun c e => if Region.binds .any e = true then (match fs[e.on]? with | some x => max c x.2.2 | none => c) else c) c0

inductive HeadN (P : Program) (n m : Nat) (G : Ctx) (ops : Array Oper) (T0 : List (Nat × AV)) (c0 : Nat) : List AObj → List Fact → List Oper → List AObj → List Fact → Prop
  | nil {O fs} : HeadN P n m G ops T0 c0 O fs [] O fs
  | pure {O fs o l O' out d V F c Oc} (hd : o.dst = some d) (hF : ndeps fs o = F) (hc : sure c0 fs o = c) (hO : O.take c = Oc)
      (h : ∀ Tv Ov, WpL P n m G false ops [o] ⟨F ++ (T0 ++ Tv), Oc ++ Ov⟩ (Only ⟨(d, V) :: (F ++ (T0 ++ Tv)), Oc ++ Ov⟩)) (r : HeadN P n m G ops T0 c0 O (fs ++ [(d, V, c)]) l O' out) : HeadN P n m G ops T0 c0 O fs (o :: l) O' out
  | prod {O fs o l O' out d V F N} (hd : o.dst = some d) (hF : ndeps fs o = F) (hc : sure c0 fs o = O.length) (hN : N ≠ [])
      (h : ∀ Tv, WpL P n m G false ops [o] ⟨F ++ (T0 ++ Tv), O⟩ (Only ⟨(d, V) :: (F ++ (T0 ++ Tv)), O ++ N⟩)) (r : HeadN P n m G ops T0 c0 (O ++ N) (fs ++ [(d, V, O.length + N.length)]) l O' out) : HeadN P n m G ops T0 c0 O fs (o :: l) O' out

section
variable {P : Program} {n m : Nat} {G : Ctx} {ops : Array Oper} {T0 : List (Nat × AV)}

theorem foldl_sure_le (fs : List Fact) (q : Nat) (L : List Edge) (hL : ∀ e ∈ L, Region.binds .any e = true → ∀ x, fs[e.on]? = some x → x.2.2 ≤ q) : ∀ c0, c0 ≤ q →
    L.foldl (fun c e => if Region.binds .any e = true then (match fs[e.on]? with | some x => max c x.2.2 | none => c) else c) c0 ≤ q := by
  induction L with
  | nil => intro c0 h; exact h
  | cons e L ih =>
    intro c0 h
    rw [List.foldl_cons]
    refine ih (fun e' he' => hL e' (List.mem_cons_of_mem _ he')) _ ?_
    split
    · rename_i hb
      split
      · rename_i x hx; exact Nat.max_le.2 ⟨h, hL e (by simp) hb x hx⟩
      · exact h
    · exact h

theorem foldl_sure_ge (fs : List Fact) (L : List Edge) : ∀ c0, c0 ≤ L.foldl (fun c e => if Region.binds .any e = true then (match fs[e.on]? with | some x => max c x.2.2 | none => c) else c) c0 := by
  induction L with
  | nil => intro c0; exact Nat.le_refl _
  | cons e L ih =>
    intro c0
    rw [List.foldl_cons]
    refine Nat.le_trans ?_ (ih _)
    split
    · split
      · exact Nat.le_max_left _ _
      · exact Nat.le_refl _
    · exact Nat.le_refl _

/-- What the head's operations do, each by its place. -/
structure Plan (P : Program) (n m : Nat) (G : Ctx) (ops : Array Oper) (T0 : List (Nat × AV)) (c0 : Nat) (k : Nat) (out : List Fact) (O' : List AObj) (isP : Nat → Bool) (p : Nat → Nat) : Prop where
  len : out.length = k
  nodup : (out.map (·.1)).Nodup
  fresh : ∀ x, x ∈ out → has T0 x.1 = false
  back : ∀ i, i < k → ∀ o, ops[i]? = some o → ∀ e ∈ o.after, Region.binds .any e = true → e.on < i
  pure : ∀ i o d V c, i < k → isP i = false → ops[i]? = some o → out[i]? = some (d, V, c) → o.dst = some d ∧ sure c0 (out.take i) o = c ∧
    ∀ Tv Ov, WpL P n m G false ops [o] ⟨ndeps (out.take i) o ++ (T0 ++ Tv), O'.take c ++ Ov⟩ (Only ⟨(d, V) :: (ndeps (out.take i) o ++ (T0 ++ Tv)), O'.take c ++ Ov⟩)
  prod : ∀ i o d V c, i < k → isP i = true → ops[i]? = some o → out[i]? = some (d, V, c) → o.dst = some d ∧ sure c0 (out.take i) o = p i ∧ p i < c ∧ c ≤ O'.length ∧
    ∀ Tv, WpL P n m G false ops [o] ⟨ndeps (out.take i) o ++ (T0 ++ Tv), O'.take (p i)⟩ (Only ⟨(d, V) :: (ndeps (out.take i) o ++ (T0 ++ Tv)), O'.take c⟩)
  mono : ∀ i j d V c, i < j → j < k → isP i = true → isP j = true → out[i]? = some (d, V, c) → c ≤ p j
  base : c0 ≤ O'.length
  all : ∀ i, i < k → ∃ o, ops[i]? = some o

structure GoodN (n m : Nat) (G : Ctx) (T0 : List (Nat × AV)) (c0 : Nat) (out : List Fact) (O' : List AObj) (isP : Nat → Bool) (listed : Array Bool) (a : Act) (w : World) (T : List (Nat × AV)) (q : Nat) : Prop where
  rel : Rel n m G ⟨T, O'.take q⟩ a w
  facts : ∀ i d V c, out[i]? = some (d, V, c) → listed.getD i false = true → look T d = V
  other : ∀ t, has (out.map fun x => (x.1, x.2.1)) t = false → look T t = look T0 t
  lo : c0 ≤ q
  hi : q ≤ O'.length
  le : ∀ i d V c, out[i]? = some (d, V, c) → listed.getD i false = true → c ≤ q
  top : q = c0 ∨ ∃ i d V, out[i]? = some (d, V, q) ∧ isP i = true ∧ listed.getD i false = true
  down : ∀ i j, i < j → isP i = true → isP j = true → listed.getD j false = true → listed.getD i false = true

theorem outN_inj {out : List Fact} (h : (out.map (·.1)).Nodup) {i j d : Nat} {V W : AV × Nat} (hi : out[i]? = some (d, V)) (hj : out[j]? = some (d, W)) : i = j := by
  have hi' := (List.getElem?_eq_some_iff.1 hi).1
  refine (List.getElem?_inj (l := out.map (·.1)) (by simpa using hi') h).1 ?_
  simp [hi, hj]

theorem wpOp_only {σ0 σ1 : St} {i : Nat} {o : Oper} (ho : ops[i]? = some o) (hw : WpL P n m G false ops [o] σ0 (Only σ1)) {a : Act} {w : World} (hr : Rel n m G σ0 a w) {K : Act → World → Prop}
    (hK : ∀ a' w', Rel n m G σ1 a' w' → K a' w') {Q : Exit → Act → World → Prop} : wpOp P ops Q i K a w := by
  have hw' := hw a w hr
  simp only at hw'
  have only : ∀ e a' w', (∃ σ', Only σ1 e σ' ∧ Rel n m G σ' a' w') → e = .normal ∧ K a' w' := by
    rintro e a' w' ⟨σ', hq, hr'⟩
    cases e <;> first | (simp only [Only] at hq; subst hq; exact ⟨rfl, hK _ _ hr'⟩) | exact hq.elim
  unfold wpOp
  simp only [ho]
  change wpList P ops _ [o] a w at hw'
  unfold wpList at hw'
  by_cases hwant : Region.wanted o (yielded ops a.tmps) = true
  · rw [if_pos hwant] at hw' ⊢
    rcases hw' with hw' | ⟨_, a', w', hx⟩
    · refine .inl ?_
      unfold Oper.wp at hw' ⊢
      generalize (execOp a.eval o).run P w = r at *
      cases r with
      | ok x w1 =>
        cases x <;> simp only [Oper.upon] at hw' ⊢
        case value v => exact (only _ _ _ hw').2
        case skip => exact (only _ _ _ hw').2
        case defer d => exact (only _ _ _ hw').2
        case enter f args =>
          refine hw'.mono fun e w2 h2 => ?_
          cases e with
          | returned v => exact (only _ _ _ h2).2
          | panicked c => exact absurd (only _ _ _ h2).1 (by simp)
          | outgrown => obtain ⟨_, _, hf⟩ := h2; exact absurd (only _ _ _ hf).1 (by simp)
        case row r ar => exact hw'.mono fun v w2 h2 => (only _ _ _ h2).2
      | halt x w1 => cases x <;> simp only [Oper.upon] at hw' ⊢ <;> first | exact absurd (only _ _ _ hw').1 (by simp) | exact hw'.elim | (obtain ⟨_, _, hf⟩ := hw'; exact absurd (only _ _ _ hf).1 (by simp))
    · exact absurd (only _ _ _ hx).1 (by simp)
  · rw [if_neg hwant] at hw' ⊢
    exact (only _ _ _ hw').2

theorem stepN {c0 k : Nat} {out : List Fact} {O' : List AObj} {isP : Nat → Bool} {p : Nat → Nat} (H : Plan P n m G ops T0 c0 k out O' isP p) {listed : Array Bool} (inv : HeadInv .any ops k listed)
    {i : Nat} (hi : i ∈ Region.ready .any ops listed) (hik : i < k) {a w T q} (hg : GoodN n m G T0 c0 out O' isP listed a w T q) {K : Act → World → Prop}
    (hK : ∀ a' w' T' q', GoodN n m G T0 c0 out O' isP (listed.setIfInBounds i true) a' w' T' q' → K a' w') {Q : Exit → Act → World → Prop} : wpOp P ops Q i K a w := by
  obtain ⟨hun, o, ho, hall⟩ := mem_ready.1 hi
  have hunf : listed.getD i false = false := getD_both hun
  have hil : i < out.length := by rw [H.len]; exact hik
  obtain ⟨⟨d, V, c⟩, hout⟩ : ∃ x, out[i]? = some x := ⟨out[i], by simp [hil]⟩
  have hdep : ∀ e ∈ o.after.toList, Region.binds .any e = true → ∀ x, (out.take i)[e.on]? = some x → out[e.on]? = some x ∧ listed.getD e.on false = true := by
    intro e he hb x hx
    rw [List.getElem?_take] at hx
    split at hx
    · exact ⟨hx, hall e (by simpa using he) hb⟩
    · simp at hx
  have hF : ∀ t U, (t, U) ∈ ndeps (out.take i) o → look T t = U := by
    intro t U hm
    simp only [ndeps, List.mem_filterMap] at hm
    obtain ⟨e, he, hx⟩ := hm
    split at hx
    · rename_i hb
      simp only [Option.map_eq_some_iff, Prod.mk.injEq] at hx
      obtain ⟨⟨d', V', c'⟩, hx1, rfl, rfl⟩ := hx
      obtain ⟨h1, h2⟩ := hdep e he hb _ hx1
      exact hg.facts _ _ _ _ h1 h2
    · simp at hx
  have same : ∀ t, look (ndeps (out.take i) o ++ (T0 ++ T)) t = look T t := by
    intro t
    rw [look_append]
    split
    · rename_i h; exact (hF _ _ (has_look h)).symm
    · rw [look_append]
      split
      · rename_i h
        refine (hg.other t ?_).symm
        cases hc : has (out.map fun x => (x.1, x.2.1)) t with
        | false => rfl
        | true =>
          have hm := has_look hc
          simp only [List.mem_map, Prod.mk.injEq] at hm
          obtain ⟨x, hx, hx1, _⟩ := hm
          have := H.fresh x hx
          rw [hx1] at this; rw [this] at h; cases h
      · rfl
  have hsle : sure c0 (out.take i) o ≤ q := foldl_sure_le _ q _ (fun e he hb x hx => by
    obtain ⟨h1, h2⟩ := hdep e he hb x hx
    obtain ⟨d', V', c'⟩ := x
    exact hg.le _ _ _ _ h1 h2) c0 hg.lo
  have hsge : c0 ≤ sure c0 (out.take i) o := foldl_sure_ge _ _ c0
  have facts' : ∀ (j d' : Nat) (V' : AV) (c' : Nat), out[j]? = some (d', V', c') → (listed.setIfInBounds i true).getD j false = true → look ((d, V) :: (ndeps (out.take i) o ++ (T0 ++ T))) d' = V' := by
    intro j d' V' c' hj hl
    by_cases hij : i = j
    · subst hij; rw [hout] at hj; cases hj; exact look_cons_same _ _ _
    · rw [getD_set_ne false hij] at hl
      have hne : d ≠ d' := by rintro rfl; exact hij (outN_inj H.nodup hout hj)
      rw [look_cons_other _ _ _ _ hne, same]
      exact hg.facts _ _ _ _ hj hl
  have other' : ∀ t, has (out.map fun x => (x.1, x.2.1)) t = false → look ((d, V) :: (ndeps (out.take i) o ++ (T0 ++ T))) t = look T0 t := by
    intro t ht
    have hne : d ≠ t := by
      rintro rfl
      have : has (out.map fun x => (x.1, x.2.1)) d = true := has_mem (V := V) (List.mem_map.2 ⟨_, List.mem_of_getElem? hout, rfl⟩)
      rw [ht] at this; cases this
    rw [look_cons_other _ _ _ _ hne, same]; exact hg.other t ht
  have le' : ∀ q', q ≤ q' → c ≤ q' → ∀ (j d' : Nat) (V' : AV) (c' : Nat), out[j]? = some (d', V', c') → (listed.setIfInBounds i true).getD j false = true → c' ≤ q' := by
    intro q' h1 h2 j d' V' c' hj hl
    by_cases hij : i = j
    · subst hij; rw [hout] at hj; cases hj; exact h2
    · rw [getD_set_ne false hij] at hl; exact Nat.le_trans (hg.le _ _ _ _ hj hl) h1
  have hself : (listed.setIfInBounds i true).getD i false = true := by
    have hlt := (Array.getElem?_eq_some_iff.1 ho).1
    have : i < listed.size := by rw [inv.size]; exact hlt
    simp [this]
  cases hp : isP i with
  | false =>
    obtain ⟨hd, hs, hj⟩ := H.pure i o d V c hik hp ho hout
    have hcq : c ≤ q := by omega
    have e : O'.take q = O'.take c ++ (O'.take q).drop c := by
      rw [← List.take_append_drop c (O'.take q), List.take_take, Nat.min_eq_left hcq, List.drop_append_of_le_length (by simp; have := hg.hi; omega)]
      simp
    have hr : Rel n m G ⟨ndeps (out.take i) o ++ (T0 ++ T), O'.take c ++ (O'.take q).drop c⟩ a w := by rw [← e]; exact hg.rel.relook same
    refine wpOp_only ho (hj T _) hr fun a' w' hr' => hK a' w' _ q ⟨by rw [e]; exact hr', facts', other', hg.lo, hg.hi, le' q (Nat.le_refl _) hcq, ?_, ?_⟩
    · rcases hg.top with h | ⟨r, d', V', h1, h2, h3⟩
      · exact .inl h
      · exact .inr ⟨r, d', V', h1, h2, getD_set_true h3⟩
    · intro i' j' hlt h1 h2 h3
      have hne : i ≠ j' := by rintro rfl; rw [hp] at h2; cases h2
      rw [getD_set_ne false hne] at h3
      exact getD_set_true (hg.down _ _ hlt h1 h2 h3)
  | true =>
    obtain ⟨hd, hs, hpc, hcO, hj⟩ := H.prod i o d V c hik hp ho hout
    have hq : q = p i := by
      have h1 : p i ≤ q := by omega
      rcases hg.top with h | ⟨r, d', V', h2, h3, h4⟩
      · omega
      · have hrlt : r < k := by rw [← H.len]; exact (List.getElem?_eq_some_iff.1 h2).1
        have hri : r < i := by
          rcases Nat.lt_trichotomy r i with h | h | h
          · exact h
          · subst h; rw [hunf] at h4; cases h4
          · have := hg.down _ _ h hp h3 h4; rw [hunf] at this; cases this
        have := H.mono r i d' V' q hri hik h3 hp h2
        omega
    subst hq
    refine wpOp_only ho (hj T) (hg.rel.relook same) fun a' w' hr' => hK a' w' _ c ⟨hr', facts', other', by omega, hcO, le' c (by omega) (Nat.le_refl _), .inr ⟨i, d, V, hout, hp, hself⟩, ?_⟩
    intro i' j' hlt h1 h2 h3
    by_cases hij : i = j'
    · subst hij
      have hi'k : i' < k := by omega
      obtain ⟨⟨d1, V1, c1⟩, ho1⟩ : ∃ x, out[i']? = some x := ⟨out[i']'(by rw [H.len]; exact hi'k), by simp⟩
      obtain ⟨o1, hoo1⟩ := H.all i' hi'k
      obtain ⟨_, hs1, hpc1, _, _⟩ := H.prod i' o1 d1 V1 c1 hi'k h1 hoo1 ho1
      have hm := H.mono i' i d1 V1 c1 hlt hik h1 hp ho1
      have hb := foldl_sure_ge (out.take i') o1.after.toList c0
      have hb' : c0 ≤ p i' := by rw [← hs1]; exact hb
      rcases hg.top with h | ⟨r, d', V', h4, h5, h6⟩
      · omega
      · rcases Nat.lt_trichotomy r i' with h | h | h
        · have := H.mono r i' d' V' _ h hi'k h5 h1 h4; omega
        · subst h; exact getD_set_true h6
        · exact getD_set_true (hg.down _ _ h h1 h5 h6)
    · rw [getD_set_ne false hij] at h3
      exact getD_set_true (hg.down _ _ hlt h1 h2 h3)
theorem anyN {c0 k g : Nat} {out : List Fact} {O' : List AObj} {isP : Nat → Bool} {p : Nat → Nat} (H : Plan P n m G ops T0 c0 k out O' isP p) (hks : k ≤ ops.size) (hs : k < ops.size → Region.sinkB .any ops k = true ∧ Region.chainB .any ops k = true)
    {Q : Exit → Act → World → Prop}
    (hT : ∀ listed a w, HeadInv .any ops k listed → (∀ i, i < k → listed.getD i false = true) → (∃ T q, GoodN n m G T0 c0 out O' isP listed a w T q) → wpAny P .any ops Q g listed a w) :
    ∀ (f : Nat) (listed : Array Bool) (a : Act) (w : World), HeadInv .any ops k listed → ((List.range k).filter fun i => !listed.getD i false).length = f → (∃ T q, GoodN n m G T0 c0 out O' isP listed a w T q) →
      wpAny P .any ops Q (f + g) listed a w := by
  intro f
  induction f with
  | zero =>
    intro listed a w inv hc hg
    rw [Nat.zero_add]
    refine hT listed a w inv (fun i hi => ?_) hg
    have h0 := List.eq_nil_of_length_eq_zero hc
    cases hl : listed.getD i false with
    | true => rfl
    | false =>
      have : i ∈ (List.range k).filter fun i => !listed.getD i false := by simp [List.mem_filter, hi]; simpa using hl
      rw [h0] at this; cases this
  | succ f ih =>
    intro listed a w inv hc hg
    have hgetD : ∀ i, i < k → listed.getD i false = false → listed.getD i true = false := fun i hi h => getD_in (by rw [inv.size]; omega) h
    -- the least that is not listed is ready
    have hex : ∃ i, i < k ∧ listed.getD i false = false := by
      cases hl : (List.range k).filter fun i => !listed.getD i false with
      | nil => rw [hl] at hc; simp at hc
      | cons i r =>
        have : i ∈ (List.range k).filter fun i => !listed.getD i false := by rw [hl]; simp
        rw [List.mem_filter, List.mem_range] at this
        exact ⟨i, this.1, by simpa using this.2⟩
    obtain ⟨i0, hi0, hl0⟩ := hex
    have least : ∀ d i, i = d → i < k → listed.getD i false = false → ∃ j, j < k ∧ j ∈ Region.ready .any ops listed := by
      intro d
      induction d using Nat.strongRecOn with
      | _ d ihd =>
        rintro i rfl hi hl
        by_cases hh : ∃ j, j < i ∧ listed.getD j false = false
        · obtain ⟨j, hj, hjl⟩ := hh
          exact ihd j hj j rfl (by omega) hjl
        · have hlt : i < ops.size := by omega
          refine ⟨i, hi, mem_ready.2 ⟨hgetD i hi hl, ops[i], by simp [hlt], fun e he hb => ?_⟩⟩
          have hlt' := H.back i hi _ (by simp [hlt]) e he hb
          cases hx : listed.getD e.on false with
          | true => rfl
          | false => exact (hh ⟨_, hlt', hx⟩).elim
    obtain ⟨j0, hj0, hr0⟩ := least i0 i0 rfl hi0 hl0
    rw [show f + 1 + g = (f + g) + 1 by omega]
    refine ⟨fun h => (by rw [h] at hr0; cases hr0), fun i hi => ?_⟩
    have hik : i < k := by
      rcases Nat.lt_or_ge i k with h | h
      · exact h
      · by_cases hk : k < ops.size
        · exact absurd hi (tail_waits (hs hk).1 (hs hk).2 hk inv _ i0 rfl hi0 (hgetD i0 hi0 hl0) i h)
        · obtain ⟨_, o, ho, _⟩ := mem_ready.1 hi
          have := (Array.getElem?_eq_some_iff.1 ho).1
          omega
    have hiu : listed.getD i false = false := getD_both (mem_ready.1 hi).1
    obtain ⟨T, q, hg⟩ := hg
    refine stepN H inv hi hik hg fun a' w' T' q' hg' => ih _ _ _ (inv.set hi hik) ?_ ⟨T', q', hg'⟩
    have key : ∀ (L : List Nat), L.Nodup → i ∈ L → (L.filter fun j => !(listed.setIfInBounds i true).getD j false).length + 1 = (L.filter fun j => !listed.getD j false).length := by
      intro L
      have hself : (listed.setIfInBounds i true).getD i false = true := by
        have : i < listed.size := by rw [inv.size]; omega
        simp [this]
      induction L with
      | nil => intro _ h; cases h
      | cons x L ihL =>
        intro hnd hm
        rw [List.nodup_cons] at hnd
        by_cases hx : x = i
        · subst hx
          have hsame : (L.filter fun j => !(listed.setIfInBounds x true).getD j false) = L.filter fun j => !listed.getD j false := by
            refine List.filter_congr fun j hj => ?_
            rw [getD_set_ne false (by rintro rfl; exact hnd.1 hj)]
          rw [List.filter_cons, List.filter_cons, hsame, hself, hiu]; simp
        · have hm' : i ∈ L := by
            rcases List.mem_cons.1 hm with h | h
            · exact (hx h.symm).elim
            · exact h
          have := ihL hnd.2 hm'
          rw [List.filter_cons, List.filter_cons, getD_set_ne false (Ne.symm hx)]
          split <;> (try simp only [List.length_cons]) <;> omega
    have := key (List.range k) List.nodup_range (List.mem_range.2 hik)
    omega


/-- What 'HeadN' says of the operation at place j: 'kd' is 'none' for a reading one, 'some p' for one that makes objects behind p of them. -/
def Said (P : Program) (n m : Nat) (G : Ctx) (ops : Array Oper) (T0 : List (Nat × AV)) (c0 : Nat) (fs : List Fact) (O' : List AObj) (o : Oper) (kd : Option Nat) (d : Nat) (V : AV) (c : Nat) : Prop :=
  o.dst = some d ∧ match kd with
  | none => sure c0 fs o = c ∧ ∀ Tv Ov, WpL P n m G false ops [o] ⟨ndeps fs o ++ (T0 ++ Tv), O'.take c ++ Ov⟩ (Only ⟨(d, V) :: (ndeps fs o ++ (T0 ++ Tv)), O'.take c ++ Ov⟩)
  | some p => sure c0 fs o = p ∧ p < c ∧ c ≤ O'.length ∧ ∀ Tv, WpL P n m G false ops [o] ⟨ndeps fs o ++ (T0 ++ Tv), O'.take p⟩ (Only ⟨(d, V) :: (ndeps fs o ++ (T0 ++ Tv)), O'.take c⟩)

theorem HeadN.said {c0 O fs l O' out} (h : HeadN P n m G ops T0 c0 O fs l O' out) : c0 ≤ O.length → (∀ x ∈ fs, x.2.2 ≤ O.length) →
    O <+: O' ∧ ∃ (r : List Fact) (ks : List (Option Nat)), out = fs ++ r ∧ r.length = l.length ∧ ks.length = l.length ∧
      (∀ j o, l[j]? = some o → ∃ d V c kd, r[j]? = some (d, V, c) ∧ ks[j]? = some kd ∧ Said P n m G ops T0 c0 (out.take (fs.length + j)) O' o kd d V c) ∧
      (∀ (j : Nat) (p : Nat), ks[j]? = some (some p) → O.length ≤ p) ∧
      (∀ (i j p q d : Nat) (V : AV) (c : Nat), i < j → ks[i]? = some (some p) → ks[j]? = some (some q) → r[i]? = some (d, V, c) → c ≤ q) ∧
      (O' = O ∨ ∃ (j p d : Nat) (V : AV), ks[j]? = some (some p) ∧ r[j]? = some (d, V, O'.length)) := by
  induction h with
  | nil => intro _ _; exact ⟨List.prefix_refl _, [], [], by simp, rfl, rfl, by simp, by simp, by simp, .inl rfl⟩
  | @pure O fs o l O' out d V F c Oc hd hF hc hO h r ih =>
    intro h0 hfs
    have hcO : c ≤ O.length := by rw [← hc]; exact foldl_sure_le _ _ _ (fun e _ _ x hx => hfs x (List.mem_of_getElem? hx)) _ h0
    obtain ⟨hpre, rr, ks, e1, e2, e3, e4, e5, e6, e7⟩ := ih h0 (fun x hx => by
      rcases List.mem_append.1 hx with hx | hx
      · exact hfs x hx
      · have : x = (d, V, c) := by simpa using hx
        subst this; exact hcO)
    have htk : out.take (fs.length + 0) = fs := by rw [e1, Nat.add_zero, List.append_assoc, List.take_left']; rfl
    refine ⟨hpre, (d, V, c) :: rr, none :: ks, by rw [e1]; simp, by simp [e2], by simp [e3], fun j o' hj => ?_, fun j p hj => ?_, fun i j p q d' V' c' hij hi hj hr => ?_, ?_⟩
    · cases j with
      | zero =>
        simp only [List.getElem?_cons_zero, Option.some.injEq] at hj; subst hj
        refine ⟨d, V, c, none, by simp, by simp, hd, ?_⟩
        rw [htk]
        refine ⟨hc, ?_⟩
        have : O'.take c = Oc := by rw [← hO]; obtain ⟨z, hz⟩ := hpre; rw [← hz, List.take_append_of_le_length hcO]
        rw [this, hF]; exact h
      | succ j =>
        obtain ⟨d', V', c', kd, q1, q2, q3⟩ := e4 j o' (by simpa using hj)
        refine ⟨d', V', c', kd, by simpa using q1, by simpa using q2, ?_⟩
        rw [List.length_append, List.length_singleton, Nat.add_assoc, Nat.add_comm 1 j] at q3; exact q3
    · cases j with
      | zero => simp at hj
      | succ j => exact e5 j p (by simpa using hj)
    · cases i with
      | zero => simp at hi
      | succ i => cases j with
        | zero => omega
        | succ j => exact e6 i j p q d' V' c' (by omega) (by simpa using hi) (by simpa using hj) (by simpa using hr)
    · rcases e7 with h | ⟨j, p, d', V', h1, h2⟩
      · exact .inl h
      · exact .inr ⟨j + 1, p, d', V', by simpa using h1, by simpa using h2⟩
  | @prod O fs o l O' out d V F N hd hF hc hN h r ih =>
    intro h0 hfs
    have hNl : 0 < N.length := List.length_pos_iff.2 hN
    obtain ⟨hpre, rr, ks, e1, e2, e3, e4, e5, e6, e7⟩ := ih (by simp; omega) (fun x hx => by
      rcases List.mem_append.1 hx with hx | hx
      · have := hfs x hx; simp; omega
      · have : x = (d, V, O.length + N.length) := by simpa using hx
        subst this; simp)
    have htk : out.take (fs.length + 0) = fs := by rw [e1, Nat.add_zero, List.append_assoc, List.take_left']; rfl
    refine ⟨List.IsPrefix.trans (List.prefix_append O N) hpre, (d, V, O.length + N.length) :: rr, some O.length :: ks, by rw [e1]; simp, by simp [e2], by simp [e3], fun j o' hj => ?_, fun j p hj => ?_, fun i j p q d' V' c' hij hi hj hr => ?_, ?_⟩
    · cases j with
      | zero =>
        simp only [List.getElem?_cons_zero, Option.some.injEq] at hj; subst hj
        refine ⟨d, V, O.length + N.length, some O.length, by simp, by simp, hd, ?_⟩
        rw [htk]
        obtain ⟨z, hz⟩ := hpre
        have t1 : O'.take O.length = O := by rw [← hz, List.append_assoc]; exact List.take_left' rfl
        have t2 : O'.take (O.length + N.length) = O ++ N := by rw [← hz]; exact List.take_left' (by simp)
        refine ⟨hc, by omega, by rw [← hz]; simp, ?_⟩
        rw [t1, t2, hF]; exact h
      | succ j =>
        obtain ⟨d', V', c', kd, q1, q2, q3⟩ := e4 j o' (by simpa using hj)
        refine ⟨d', V', c', kd, by simpa using q1, by simpa using q2, ?_⟩
        rw [List.length_append, List.length_singleton, Nat.add_assoc, Nat.add_comm 1 j] at q3; exact q3
    · cases j with
      | zero => simp at hj; omega
      | succ j => have := e5 j p (by simpa using hj); simp at this; omega
    · cases j with
      | zero => omega
      | succ j => cases i with
        | zero =>
          have h1 := e5 j q (by simpa using hj)
          simp at hr h1
          omega
        | succ i => exact e6 i j p q d' V' c' (by omega) (by simpa using hi) (by simpa using hj) (by simpa using hr)
    · rcases e7 with h | ⟨j, p, d', V', h1, h2⟩
      · exact .inr ⟨0, O.length, d, V, by simp, by rw [h]; simp⟩
      · exact .inr ⟨j + 1, p, d', V', by simpa using h1, by simpa using h2⟩

theorem WpA.regionN {l : List Oper} {id : Nat} {O O' : List AObj} {out : List Fact} {T1 : List (Nat × AV)} {Q : Exit → St → Prop} (k : Nat) (hm : P.follows .mixedOrders = true) (hB : mixB l.toArray k = true)
    (hJ : HeadN P n m G l.toArray T0 O.length O [] (l.take k) O' out) (hnd : nodupB (out.map (·.1)) = true) (hfr : (out.all fun p => !has T0 p.1) = true)
    (hT1 : (out.map fun x => (x.1, x.2.1)) ++ T0 = T1) (h : WpL P n m G false l.toArray (l.drop k) ⟨T1, O'⟩ Q) : WpA P n m G (.region id l.toArray true) ⟨T0, O⟩ Q := fun a w hr => by
  subst hT1
  simp only [mixB, Bool.and_eq_true, decide_eq_true_eq, Bool.or_eq_true] at hB
  obtain ⟨⟨⟨hks, hback⟩, hsc⟩, hseq⟩ := hB
  have hkl : k ≤ l.length := by simpa using hks
  have htl : (l.take k).length = k := by simp; omega
  obtain ⟨hpre, r, kds, hr1, hr2, hr3, hsaid, hlow, hmono, hlast⟩ := hJ.said (Nat.le_refl _) (by simp)
  have hro : out = r := by simpa using hr1
  subst hro
  have hlen : out.length = k := by rw [hr2, htl]
  have hat : ∀ i, i < k → ∃ o d V c kd, l.toArray[i]? = some o ∧ out[i]? = some (d, V, c) ∧ kds[i]? = some kd ∧ Said P n m G l.toArray T0 O.length (out.take i) O' o kd d V c := by
    intro i hi
    have hil : i < (l.take k).length := by omega
    obtain ⟨d, V, c, kd, q1, q2, q3⟩ := hsaid i (l.take k)[i] (List.getElem?_eq_getElem hil)
    refine ⟨(l.take k)[i], d, V, c, kd, ?_, q1, q2, by simpa using q3⟩
    have : l[i]? = some (l.take k)[i] := by
      have h1 : (l.take k)[i]? = some (l.take k)[i] := List.getElem?_eq_getElem hil
      rw [List.getElem?_take, if_pos hi] at h1; exact h1
    rw [List.getElem?_toArray]; exact this
  have H : Plan P n m G l.toArray T0 O.length k out O' (fun i => match kds[i]? with | some (some _) => true | _ => false) (fun i => match kds[i]? with | some (some p) => p | _ => 0) := by
    refine ⟨hlen, nodupB_spec hnd, fun x hx => by have := List.all_eq_true.1 hfr x hx; simpa using this, fun i hi o ho e he hb => ?_, fun i o d V c hi hP ho hout => ?_, fun i o d V c hi hP ho hout => ?_, fun i j d V c hij hjk hP hP' hout => ?_, hpre.length_le, fun i hi => ?_⟩
    · have h1 := List.all_eq_true.1 hback i (List.mem_range.2 hi)
      rw [ho] at h1
      have h2 := List.all_eq_true.1 h1 e (by simpa using he)
      simp only [Bool.or_eq_true, Bool.not_eq_true', decide_eq_true_eq] at h2
      rcases h2 with h2 | h2
      · rw [hb] at h2; cases h2
      · exact h2
    · obtain ⟨o1, d1, V1, c1, kd, q1, q2, q3, q4⟩ := hat i hi
      rw [ho] at q1; cases q1
      rw [hout] at q2; cases q2
      simp only [q3] at hP
      cases kd with
      | some p => simp at hP
      | none => exact ⟨q4.1, q4.2.1, q4.2.2⟩
    · obtain ⟨o1, d1, V1, c1, kd, q1, q2, q3, q4⟩ := hat i hi
      rw [ho] at q1; cases q1
      rw [hout] at q2; cases q2
      simp only [q3] at hP ⊢
      cases kd with
      | none => simp at hP
      | some p => exact ⟨q4.1, q4.2.1, q4.2.2.1, q4.2.2.2.1, q4.2.2.2.2⟩
    · obtain ⟨_, _, _, _, k1, _, _, q3, _⟩ := hat i (by omega)
      obtain ⟨_, _, _, _, k2, _, _, q3', _⟩ := hat j hjk
      simp only [q3] at hP
      simp only [q3'] at hP' ⊢
      cases k1 with
      | none => simp at hP
      | some p => cases k2 with
        | none => simp at hP'
        | some q => exact hmono i j p q d V c hij q3 q3' hout
    · obtain ⟨o, _, _, _, _, q1, _⟩ := hat i hi; exact ⟨o, q1⟩
  have inv0 : HeadInv .any l.toArray k (Array.replicate l.toArray.size false) :=
    ⟨by simp, fun j oj _ hl => (by rw [getD_replicate_false] at hl; cases hl), fun t _ ht => getD_in (by simpa using ht) (getD_replicate_false _ _)⟩
  refine wp_region_any hm ?_
  have fin := anyN (P := P) (n := n) (m := m) (G := G) (g := l.toArray.size - k) (Q := fun e a' w' => ∃ σ', Q e σ' ∧ Rel n m G σ' a' w') H hks (fun hk => hsc.resolve_left (by omega)) (fun listed a w inv hall hg => by
    obtain ⟨T, q, hg⟩ := hg
    have hq : q = O'.length := by
      rcases hlast with hl | ⟨j, p, d, V, h1, h2⟩
      · have := hg.lo; have := hg.hi; rw [hl] at this ⊢; omega
      · have hjk : j < k := by rw [← hlen]; exact (List.getElem?_eq_some_iff.1 h2).1
        have := hg.le j d V _ h2 (hall j hjk); have := hg.hi; omega
    have hrT := hg.rel
    rw [hq, List.take_length] at hrT
    have hlist : listed = (Array.range l.toArray.size).map fun i => decide (i < k) := by
      apply Array.ext
      · simp [inv.size]
      · intro i hi1 hi2
        have hi : i < l.toArray.size := by rw [← inv.size]; exact hi1
        by_cases hik : i < k
        · have := hall i hik
          simp [hi1] at this
          simp [this, hik]
        · have := inv.tail i (by omega) hi
          simp [hi1] at this
          simp [this, hik]
    have hdl : (l.drop k).length = l.toArray.size - k := by simp
    rw [← hdl]
    refine wpAny_of_seq (l.drop k) k listed a w (fun j => by simp [List.getElem?_drop]) (by rw [hdl, hlist]; exact hseq) ?_
    refine h a w (hrT.relook fun t => ?_)
    rw [look_append]
    split
    · rename_i hh
      obtain ⟨⟨d, V, c⟩, hx, hx2⟩ := List.mem_map.1 (has_look hh)
      obtain ⟨i, hi⟩ := List.getElem?_of_mem hx
      simp only [Prod.mk.injEq] at hx2
      obtain ⟨rfl, hx2⟩ := hx2
      rw [← hx2]
      exact (hg.facts i _ _ _ hi (hall i (by rw [← hlen]; exact (List.getElem?_eq_some_iff.1 hi).1))).symm
    · rename_i hh
      exact (hg.other t (by simpa using hh)).symm) k _ a w.drew inv0 (by
        have : ((List.range k).filter fun i => !(Array.replicate l.toArray.size false).getD i false) = List.range k := by
          rw [List.filter_eq_self]; intro i _; rw [getD_replicate_false]; rfl
        rw [this]; simp) ⟨T0, O.length, ⟨by obtain ⟨z, hz⟩ := hpre; rw [← hz, List.take_left' rfl]; exact hr.drew, fun i d V c _ hl => (by rw [getD_replicate_false] at hl; cases hl), fun _ _ => rfl, Nat.le_refl _, hpre.length_le, fun i d V c _ hl => (by rw [getD_replicate_false] at hl; cases hl), .inl rfl, fun i j _ _ _ hl => (by rw [getD_replicate_false] at hl; cases hl)⟩⟩
  rw [show k + (l.toArray.size - k) = l.toArray.size by omega] at fin
  exact fin
end
end Go.Abs
