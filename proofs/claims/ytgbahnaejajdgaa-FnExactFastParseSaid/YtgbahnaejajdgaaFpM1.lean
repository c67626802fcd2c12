/- Proved in this text: lemmas and contracts of functions that the claim uses (parts: AbsL, AbsM, AbsN, AbsO, AbsP, AbsQ, AbsR). No condition. -/
import Derived.Test.YtgbahnaejajdgaaFpM0

/- The sorting of goals by their head: lemmas that hold of one kind of goal alone. No condition. -/
namespace Go.Abs.K
open Go Go.Abs
variable {P : Program} {n m : Nat} {G : Ctx} {σ : St} {Q : Exit → St → Prop} {md : Bool} {ops : Array Oper} {l : List Oper} {dd : Option Nat} {tt : TypeId} {pos : String} {after : Array Edge}
theorem L {o : Oper} (h : WpL P n m G md ops (o :: l) σ Q) : WpL P n m G md ops (o :: l) σ Q := h
theorem A {c : Code} (h : WpA P n m G c σ Q) : WpA P n m G c σ Q := h
theorem cond {x : Operand} {c d : Code} (h : WpA P n m G (.cond x c d) σ Q) : WpA P n m G (.cond x c d) σ Q := h
theorem mv {x : Operand} (h : WpL P n m G md ops ({ dst := dd, op := .move x, type := tt, pos := pos, after := after, guard := none } :: l) σ Q) : WpL P n m G md ops ({ dst := dd, op := .move x, type := tt, pos := pos, after := after, guard := none } :: l) σ Q := h
theorem asg {x : Operand} (h : WpL P n m G md ops ({ dst := dd, op := .assign x, type := tt, pos := pos, after := after, guard := none } :: l) σ Q) : WpL P n m G md ops ({ dst := dd, op := .assign x, type := tt, pos := pos, after := after, guard := none } :: l) σ Q := h
theorem bin {b : BinOp} {t u : TypeId} {x y : Operand} (h : WpL P n m G md ops ({ dst := dd, op := .binOp b t x y u, type := tt, pos := pos, after := after, guard := none } :: l) σ Q) : WpL P n m G md ops ({ dst := dd, op := .binOp b t x y u, type := tt, pos := pos, after := after, guard := none } :: l) σ Q := h
theorem un {b : UnOp} {t : TypeId} {x : Operand} (h : WpL P n m G md ops ({ dst := dd, op := .unOp b t x, type := tt, pos := pos, after := after, guard := none } :: l) σ Q) : WpL P n m G md ops ({ dst := dd, op := .unOp b t x, type := tt, pos := pos, after := after, guard := none } :: l) σ Q := h
theorem ld {t : TypeId} {x : Operand} (h : WpL P n m G md ops ({ dst := dd, op := .load t x, type := tt, pos := pos, after := after, guard := none } :: l) σ Q) : WpL P n m G md ops ({ dst := dd, op := .load t x, type := tt, pos := pos, after := after, guard := none } :: l) σ Q := h
theorem call {x : Operand} {xs : Array Operand} {ats : Array TypeId} (h : WpL P n m G md ops ({ dst := dd, op := .call { callee := .value x, args := xs, argTypes := ats }, type := tt, pos := pos, after := after, guard := none } :: l) σ Q) : WpL P n m G md ops ({ dst := dd, op := .call { callee := .value x, args := xs, argTypes := ats }, type := tt, pos := pos, after := after, guard := none } :: l) σ Q := h
theorem bi {b : Builtin} {xs : Array Operand} {ats : Array TypeId} (h : WpL P n m G md ops ({ dst := dd, op := .call { callee := .builtin b, args := xs, argTypes := ats }, type := tt, pos := pos, after := after, guard := none } :: l) σ Q) : WpL P n m G md ops ({ dst := dd, op := .call { callee := .builtin b, args := xs, argTypes := ats }, type := tt, pos := pos, after := after, guard := none } :: l) σ Q := h
theorem ixa {t : TypeId} {x y : Operand} (h : WpL P n m G md ops ({ dst := dd, op := .indexAddr t x y, type := tt, pos := pos, after := after, guard := none } :: l) σ Q) : WpL P n m G md ops ({ dst := dd, op := .indexAddr t x y, type := tt, pos := pos, after := after, guard := none } :: l) σ Q := h
theorem ix {t : TypeId} {x y : Operand} (h : WpL P n m G md ops ({ dst := dd, op := .index t x y, type := tt, pos := pos, after := after, guard := none } :: l) σ Q) : WpL P n m G md ops ({ dst := dd, op := .index t x y, type := tt, pos := pos, after := after, guard := none } :: l) σ Q := h
theorem fld {t : TypeId} {x : Operand} {k : Nat} (h : WpL P n m G md ops ({ dst := dd, op := .fieldAddr t x k, type := tt, pos := pos, after := after, guard := none } :: l) σ Q) : WpL P n m G md ops ({ dst := dd, op := .fieldAddr t x k, type := tt, pos := pos, after := after, guard := none } :: l) σ Q := h
theorem fldv {t : TypeId} {x : Operand} {k : Nat} (h : WpL P n m G md ops ({ dst := dd, op := .field t x k, type := tt, pos := pos, after := after, guard := none } :: l) σ Q) : WpL P n m G md ops ({ dst := dd, op := .field t x k, type := tt, pos := pos, after := after, guard := none } :: l) σ Q := h
theorem pick {x y z : Operand} (h : WpL P n m G md ops ({ dst := dd, op := .pick x y z, type := tt, pos := pos, after := after, guard := none } :: l) σ Q) : WpL P n m G md ops ({ dst := dd, op := .pick x y z, type := tt, pos := pos, after := after, guard := none } :: l) σ Q := h
theorem ext {x : Operand} {k : Nat} (h : WpL P n m G md ops ({ dst := dd, op := .extract x k, type := tt, pos := pos, after := after, guard := none } :: l) σ Q) : WpL P n m G md ops ({ dst := dd, op := .extract x k, type := tt, pos := pos, after := after, guard := none } :: l) σ Q := h
theorem cv {t u : TypeId} {x : Operand} (h : WpL P n m G md ops ({ dst := dd, op := .convert t u x, type := tt, pos := pos, after := after, guard := none } :: l) σ Q) : WpL P n m G md ops ({ dst := dd, op := .convert t u x, type := tt, pos := pos, after := after, guard := none } :: l) σ Q := h
theorem all {t : TypeId} (h : WpL P n m G md ops ({ dst := dd, op := .alloc t, type := tt, pos := pos, after := after, guard := none } :: l) σ Q) : WpL P n m G md ops ({ dst := dd, op := .alloc t, type := tt, pos := pos, after := after, guard := none } :: l) σ Q := h
theorem box {t : TypeId} {x : Operand} (h : WpL P n m G md ops ({ dst := dd, op := .box t x, type := tt, pos := pos, after := after, guard := none } :: l) σ Q) : WpL P n m G md ops ({ dst := dd, op := .box t x, type := tt, pos := pos, after := after, guard := none } :: l) σ Q := h
theorem lit {t : TypeId} {k : Nat} {xs : Array (Nat × Operand)} (h : WpL P n m G md ops ({ dst := dd, op := .buildSlice t k xs, type := tt, pos := pos, after := after, guard := none } :: l) σ Q) : WpL P n m G md ops ({ dst := dd, op := .buildSlice t k xs, type := tt, pos := pos, after := after, guard := none } :: l) σ Q := h
theorem bld {t : TypeId} {xs : Array (Nat × Operand)} (h : WpL P n m G md ops ({ dst := dd, op := .build t xs, type := tt, pos := pos, after := after, guard := none } :: l) σ Q) : WpL P n m G md ops ({ dst := dd, op := .build t xs, type := tt, pos := pos, after := after, guard := none } :: l) σ Q := h
theorem sl {t : TypeId} {x : Operand} {lo hi mx : Option Operand} (h : WpL P n m G md ops ({ dst := dd, op := .slice t x lo hi mx, type := tt, pos := pos, after := after, guard := none } :: l) σ Q) : WpL P n m G md ops ({ dst := dd, op := .slice t x lo hi mx, type := tt, pos := pos, after := after, guard := none } :: l) σ Q := h
theorem ms {t : TypeId} {x y : Operand} (h : WpL P n m G md ops ({ dst := dd, op := .makeSlice t x y, type := tt, pos := pos, after := after, guard := none } :: l) σ Q) : WpL P n m G md ops ({ dst := dd, op := .makeSlice t x y, type := tt, pos := pos, after := after, guard := none } :: l) σ Q := h
theorem nc {x : Operand} (h : WpL P n m G md ops ({ dst := dd, op := .nilCheck x, type := tt, pos := pos, after := after, guard := none } :: l) σ Q) : WpL P n m G md ops ({ dst := dd, op := .nilCheck x, type := tt, pos := pos, after := after, guard := none } :: l) σ Q := h
theorem st {t : TypeId} {x y : Operand} (h : WpL P n m G md ops ({ dst := dd, op := .store t x y, type := tt, pos := pos, after := after, guard := none } :: l) σ Q) : WpL P n m G md ops ({ dst := dd, op := .store t x y, type := tt, pos := pos, after := after, guard := none } :: l) σ Q := h
theorem gd {op : Op} {g : Nat × Bool} (h : WpL P n m G md ops ({ dst := dd, op := op, type := tt, pos := pos, after := after, guard := some g } :: l) σ Q) : WpL P n m G md ops ({ dst := dd, op := op, type := tt, pos := pos, after := after, guard := some g } :: l) σ Q := h
theorem tyStr {tab : List (Nat × Ty)} (hP : TabOk P tab) {t : Nat} (ht : tlook tab t = some .string) : P.underlying t = some .string := (hP.ty ht).1
theorem tyBool {tab : List (Nat × Ty)} (hP : TabOk P tab) {t : Nat} (ht : tlook tab t = some .bool) : P.underlying t = some .bool := (hP.ty ht).1
theorem tyInt {tab : List (Nat × Ty)} (hP : TabOk P tab) {t : Nat} {k : IntKind} (ht : tlook tab t = some (.int k)) : P.underlying t = some (.int k) := (hP.ty ht).1
section
variable {T : List (Nat × AV)} {O : List AObj} {op : Op} {j t : Nat} {want : Bool}
theorem gT (hj : ((ops[j]?).bind (·.dst)) = some t) (htn : t < n) (ht : look T t = .sc (.bool want)) (h : WpL P n m G md ops ({ dst := dd, op := op, type := tt, pos := pos, after := after, guard := none } :: l) ⟨T, O⟩ Q) :
    WpL P n m G md ops ({ dst := dd, op := op, type := tt, pos := pos, after := after, guard := some (j, want) } :: l) ⟨T, O⟩ Q := WpL.guardT (σ := ⟨T, O⟩) rfl hj htn ht h
theorem gF {d : Nat} (hj : ((ops[j]?).bind (·.dst)) = some t) (htn : t < n) (ht : look T t = .sc (.bool !want)) (h : WpL P n m G md ops l ⟨(d, .any) :: T, O⟩ Q) :
    WpL P n m G md ops ({ dst := some d, op := op, type := tt, pos := pos, after := after, guard := some (j, want) } :: l) ⟨T, O⟩ Q := WpL.guardF (σ := ⟨T, O⟩) rfl hj htn ht rfl h
theorem gS {b : Bool} (hj : ((ops[j]?).bind (·.dst)) = some t) (ht : look T t = .sc (.bool b))
    (h1 : b = true → WpL P n m G md ops ({ dst := dd, op := op, type := tt, pos := pos, after := after, guard := some (j, want) } :: l) ⟨(t, .sc (.bool true)) :: T, O⟩ Q)
    (h2 : b = false → WpL P n m G md ops ({ dst := dd, op := op, type := tt, pos := pos, after := after, guard := some (j, want) } :: l) ⟨(t, .sc (.bool false)) :: T, O⟩ Q) :
    WpL P n m G md ops ({ dst := dd, op := op, type := tt, pos := pos, after := after, guard := some (j, want) } :: l) ⟨T, O⟩ Q := WpL.guardS (σ := ⟨T, O⟩) rfl hj ht h1 h2
theorem gD {p : Prop} [Decidable p] (hj : ((ops[j]?).bind (·.dst)) = some t) (ht : look T t = .sc (.bool (decide p)))
    (h1 : p → WpL P n m G md ops ({ dst := dd, op := op, type := tt, pos := pos, after := after, guard := some (j, want) } :: l) ⟨(t, .sc (.bool true)) :: T, O⟩ Q)
    (h2 : ¬ p → WpL P n m G md ops ({ dst := dd, op := op, type := tt, pos := pos, after := after, guard := some (j, want) } :: l) ⟨(t, .sc (.bool false)) :: T, O⟩ Q) :
    WpL P n m G md ops ({ dst := dd, op := op, type := tt, pos := pos, after := after, guard := some (j, want) } :: l) ⟨T, O⟩ Q := WpL.guardD (σ := ⟨T, O⟩) rfl hj ht h1 h2
theorem gN {p : Prop} [Decidable p] (hj : ((ops[j]?).bind (·.dst)) = some t) (ht : look T t = .sc (.bool (!decide p)))
    (h1 : ¬ p → WpL P n m G md ops ({ dst := dd, op := op, type := tt, pos := pos, after := after, guard := some (j, want) } :: l) ⟨(t, .sc (.bool true)) :: T, O⟩ Q)
    (h2 : p → WpL P n m G md ops ({ dst := dd, op := op, type := tt, pos := pos, after := after, guard := some (j, want) } :: l) ⟨(t, .sc (.bool false)) :: T, O⟩ Q) :
    WpL P n m G md ops ({ dst := dd, op := op, type := tt, pos := pos, after := after, guard := some (j, want) } :: l) ⟨T, O⟩ Q := WpL.guardN (σ := ⟨T, O⟩) rfl hj ht h1 h2
end
end Go.Abs.K
namespace Go.Abs
open Go
section
variable {P : Program} {n m : Nat} {G : Ctx} {T : List (Nat × AV)} {O : List AObj} {Q : Exit → St → Prop} {ops : Array Oper} {l : List Oper} {d : Nat} {tt : TypeId} {pos : String} {after : Array Edge} {tab : List (Nat × Ty)}
theorem WpL.storeInts (hP : TabOk P tab) {t : Nat} {ty : Ty} {x y : Operand} {id ep off sz : Nat} {et : Option TypeId} {xs : List Int} {v : Int} (ht : tlook tab t = some ty) (hx : av T x = .ptr id ep off)
    (ho : O[id]? = some ⟨ints xs, ep, sz, et⟩) (hy : av T y = (fun v : Int => AV.sc (.int .i64 v)) v) (hk : ty.cellsN = some 1) (hle : off < xs.length)
    (h : WpL P n m G false ops l ⟨T, O.set id ⟨ints (xs.set off v), ep, sz, et⟩⟩ Q) :
    WpL P n m G false ops ({ dst := none, op := .store t x y, type := tt, pos := pos, after := after, guard := none } :: l) ⟨T, O⟩ Q :=
  WpL.store hP ht hx ho rfl (V := (fun v : Int => AV.sc (.int .i64 v)) v) (Vs := [(fun v : Int => AV.sc (.int .i64 v)) v]) (by rw [hy]; rfl) rfl hk (by simp [oneB, Value.oneCell']) (by simp; omega) (by
    have e : setL (ints xs) off [(fun v : Int => AV.sc (.int .i64 v)) v] = ints (xs.set off v) := by simp [setL, ints, List.map_set]
    simp only [e]; exact h)
theorem WpL.storeU8s (hP : TabOk P tab) {t : Nat} {ty : Ty} {x y : Operand} {id ep off sz : Nat} {et : Option TypeId} {xs : List Int} {v : Int} (ht : tlook tab t = some ty) (hx : av T x = .ptr id ep off)
    (ho : O[id]? = some ⟨u8s xs, ep, sz, et⟩) (hy : av T y = (fun v : Int => AV.sc (.int .u8 v)) v) (hk : ty.cellsN = some 1) (hle : off < xs.length)
    (h : WpL P n m G false ops l ⟨T, O.set id ⟨u8s (xs.set off v), ep, sz, et⟩⟩ Q) :
    WpL P n m G false ops ({ dst := none, op := .store t x y, type := tt, pos := pos, after := after, guard := none } :: l) ⟨T, O⟩ Q :=
  WpL.store hP ht hx ho rfl (V := (fun v : Int => AV.sc (.int .u8 v)) v) (Vs := [(fun v : Int => AV.sc (.int .u8 v)) v]) (by rw [hy]; rfl) rfl hk (by simp [oneB, Value.oneCell']) (by simp; omega) (by
    have e : setL (u8s xs) off [(fun v : Int => AV.sc (.int .u8 v)) v] = u8s (xs.set off v) := by simp [setL, u8s, List.map_set]
    simp only [e]; exact h)
theorem WpL.storeBools (hP : TabOk P tab) {t : Nat} {ty : Ty} {x y : Operand} {id ep off sz : Nat} {et : Option TypeId} {xs : List Bool} {v : Bool} (ht : tlook tab t = some ty) (hx : av T x = .ptr id ep off)
    (ho : O[id]? = some ⟨bools xs, ep, sz, et⟩) (hy : av T y = (fun v : Bool => AV.sc (.bool v)) v) (hk : ty.cellsN = some 1) (hle : off < xs.length)
    (h : WpL P n m G false ops l ⟨T, O.set id ⟨bools (xs.set off v), ep, sz, et⟩⟩ Q) :
    WpL P n m G false ops ({ dst := none, op := .store t x y, type := tt, pos := pos, after := after, guard := none } :: l) ⟨T, O⟩ Q :=
  WpL.store hP ht hx ho rfl (V := (fun v : Bool => AV.sc (.bool v)) v) (Vs := [(fun v : Bool => AV.sc (.bool v)) v]) (by rw [hy]; rfl) rfl hk (by simp [oneB, Value.oneCell']) (by simp; omega) (by
    have e : setL (bools xs) off [(fun v : Bool => AV.sc (.bool v)) v] = bools (xs.set off v) := by simp [setL, bools, List.map_set]
    simp only [e]; exact h)
theorem WpL.storeStrs (hP : TabOk P tab) {t : Nat} {ty : Ty} {x y : Operand} {id ep off sz : Nat} {et : Option TypeId} {xs : List (List UInt8)} {v : (List UInt8)} (ht : tlook tab t = some ty) (hx : av T x = .ptr id ep off)
    (ho : O[id]? = some ⟨strs xs, ep, sz, et⟩) (hy : av T y = (fun v : List UInt8 => AV.sc (.string ⟨v.toArray⟩)) v) (hk : ty.cellsN = some 1) (hle : off < xs.length)
    (h : WpL P n m G false ops l ⟨T, O.set id ⟨strs (xs.set off v), ep, sz, et⟩⟩ Q) :
    WpL P n m G false ops ({ dst := none, op := .store t x y, type := tt, pos := pos, after := after, guard := none } :: l) ⟨T, O⟩ Q :=
  WpL.store hP ht hx ho rfl (V := (fun v : List UInt8 => AV.sc (.string ⟨v.toArray⟩)) v) (Vs := [(fun v : List UInt8 => AV.sc (.string ⟨v.toArray⟩)) v]) (by rw [hy]; rfl) rfl hk (by simp [oneB, Value.oneCell']) (by simp; omega) (by
    have e : setL (strs xs) off [(fun v : List UInt8 => AV.sc (.string ⟨v.toArray⟩)) v] = strs (xs.set off v) := by simp [setL, strs, List.map_set]
    simp only [e]; exact h)
end
end Go.Abs
namespace Go.Abs
open Go
section
variable {P : Program} {n m : Nat} {G : Ctx} {T : List (Nat × AV)} {O : List AObj} {Q : Exit → St → Prop} {ops : Array Oper} {l : List Oper} {d : Nat} {tt : TypeId} {pos : String} {after : Array Edge} {tab : List (Nat × Ty)}
theorem WpL.app1Ints (hP : TabOk P tab) {t e b : Nat} {zs : List AV} {xs : List Int} {v : Int} {x y : Operand} {id ep len : Nat} {Vy : AV} (ht : tlook tab t = some (.slice e 1 b zs)) (hx : av T x = .own id ep 0 len)
    (ho : O[id]? = some ⟨ints xs, ep, 1, some e⟩) (hm : m ≤ id) (hy : (av T y).force = some Vy) (hs : srcB O Vy = some ([.sc (.int .i64 v)], 1)) (hol : xs.length = len)
    (hb : (len + 1) * b ≤ 140737488355328 ∧ len + 1 ≤ 9223372036854775807) (hn : d < n)
    (h : WpL P n m G false ops l ⟨(d, .own id (ep + 1) 0 (len + 1)) :: T, O.set id ⟨ints (xs ++ [v]), ep + 1, 1, some e⟩⟩ Q) :
    WpL P n m G false ops ({ dst := some d, op := .call { callee := .builtin .append, args := #[x, y], argTypes := #[t, t] }, type := tt, pos := pos, after := after, guard := none } :: l) ⟨T, O⟩ Q :=
  WpL.appOwn hP ht hx ho rfl rfl rfl (by simp [hol]) hm hy hs rfl (by simp [oneB, Value.oneCell']) hb hn (by
    have e2 : ints xs ++ [.sc (.int .i64 v)] = ints (xs ++ [v]) := by simp [ints]
    simp only [e2]; exact h)
theorem WpL.appInts (hP : TabOk P tab) {t e b c : Nat} {zs : List AV} {xs ys : List Int} {x y : Operand} {id ep len : Nat} {Vy : AV} (ht : tlook tab t = some (.slice e 1 b zs)) (hx : av T x = .own id ep 0 len)
    (ho : O[id]? = some ⟨ints xs, ep, 1, some e⟩) (hm : m ≤ id) (hy : (av T y).force = some Vy) (hs : srcB O Vy = some (ints ys, c)) (hol : xs.length = len) (hc : ys.length = c)
    (hb : (len + c) * b ≤ 140737488355328 ∧ len + c ≤ 9223372036854775807) (hn : d < n)
    (h : WpL P n m G false ops l ⟨(d, .own id (ep + 1) 0 (len + c)) :: T, O.set id ⟨ints (xs ++ ys), ep + 1, 1, some e⟩⟩ Q) :
    WpL P n m G false ops ({ dst := some d, op := .call { callee := .builtin .append, args := #[x, y], argTypes := #[t, t] }, type := tt, pos := pos, after := after, guard := none } :: l) ⟨T, O⟩ Q :=
  WpL.appOwn hP ht hx ho rfl rfl rfl (by simp [hol]) hm hy hs (by simp [hc]) (all_ints _ _) hb hn (by
    have e2 : ints xs ++ ints ys = ints (xs ++ ys) := by simp [ints]
    simp only [e2]; exact h)
theorem WpL.nil1Ints (hP : TabOk P tab) {t e b : Nat} {zs : List AV} {v : Int} {x y : Operand} {id : Nat} {Vy : AV} (ht : tlook tab t = some (.slice e 1 b zs)) (hx : av T x = .nilS)
    (hy : (av T y).force = some Vy) (hs : srcB O Vy = some ([.sc (.int .i64 v)], 1)) (hb : b ≤ 140737488355328) (hid : nid O 0 = some id) (hn : d < n)
    (h : WpL P n m G false ops l ⟨(d, .own id 0 0 1) :: T, O ++ [⟨ints [v], 0, 1, some e⟩]⟩ Q) :
    WpL P n m G false ops ({ dst := some d, op := .call { callee := .builtin .append, args := #[x, y], argTypes := #[t, t] }, type := tt, pos := pos, after := after, guard := none } :: l) ⟨T, O⟩ Q :=
  WpL.appNil hP ht hx hy hs rfl (by simp [oneB, Value.oneCell']) (by omega) hid hn h
theorem WpL.app1U8s (hP : TabOk P tab) {t e b : Nat} {zs : List AV} {xs : List Int} {v : Int} {x y : Operand} {id ep len : Nat} {Vy : AV} (ht : tlook tab t = some (.slice e 1 b zs)) (hx : av T x = .own id ep 0 len)
    (ho : O[id]? = some ⟨u8s xs, ep, 1, some e⟩) (hm : m ≤ id) (hy : (av T y).force = some Vy) (hs : srcB O Vy = some ([.sc (.int .u8 v)], 1)) (hol : xs.length = len)
    (hb : (len + 1) * b ≤ 140737488355328 ∧ len + 1 ≤ 9223372036854775807) (hn : d < n)
    (h : WpL P n m G false ops l ⟨(d, .own id (ep + 1) 0 (len + 1)) :: T, O.set id ⟨u8s (xs ++ [v]), ep + 1, 1, some e⟩⟩ Q) :
    WpL P n m G false ops ({ dst := some d, op := .call { callee := .builtin .append, args := #[x, y], argTypes := #[t, t] }, type := tt, pos := pos, after := after, guard := none } :: l) ⟨T, O⟩ Q :=
  WpL.appOwn hP ht hx ho rfl rfl rfl (by simp [hol]) hm hy hs rfl (by simp [oneB, Value.oneCell']) hb hn (by
    have e2 : u8s xs ++ [.sc (.int .u8 v)] = u8s (xs ++ [v]) := by simp [u8s]
    simp only [e2]; exact h)
theorem WpL.appU8s (hP : TabOk P tab) {t e b c : Nat} {zs : List AV} {xs ys : List Int} {x y : Operand} {id ep len : Nat} {Vy : AV} (ht : tlook tab t = some (.slice e 1 b zs)) (hx : av T x = .own id ep 0 len)
    (ho : O[id]? = some ⟨u8s xs, ep, 1, some e⟩) (hm : m ≤ id) (hy : (av T y).force = some Vy) (hs : srcB O Vy = some (u8s ys, c)) (hol : xs.length = len) (hc : ys.length = c)
    (hb : (len + c) * b ≤ 140737488355328 ∧ len + c ≤ 9223372036854775807) (hn : d < n)
    (h : WpL P n m G false ops l ⟨(d, .own id (ep + 1) 0 (len + c)) :: T, O.set id ⟨u8s (xs ++ ys), ep + 1, 1, some e⟩⟩ Q) :
    WpL P n m G false ops ({ dst := some d, op := .call { callee := .builtin .append, args := #[x, y], argTypes := #[t, t] }, type := tt, pos := pos, after := after, guard := none } :: l) ⟨T, O⟩ Q :=
  WpL.appOwn hP ht hx ho rfl rfl rfl (by simp [hol]) hm hy hs (by simp [hc]) (all_u8s _ _) hb hn (by
    have e2 : u8s xs ++ u8s ys = u8s (xs ++ ys) := by simp [u8s]
    simp only [e2]; exact h)
theorem WpL.nil1U8s (hP : TabOk P tab) {t e b : Nat} {zs : List AV} {v : Int} {x y : Operand} {id : Nat} {Vy : AV} (ht : tlook tab t = some (.slice e 1 b zs)) (hx : av T x = .nilS)
    (hy : (av T y).force = some Vy) (hs : srcB O Vy = some ([.sc (.int .u8 v)], 1)) (hb : b ≤ 140737488355328) (hid : nid O 0 = some id) (hn : d < n)
    (h : WpL P n m G false ops l ⟨(d, .own id 0 0 1) :: T, O ++ [⟨u8s [v], 0, 1, some e⟩]⟩ Q) :
    WpL P n m G false ops ({ dst := some d, op := .call { callee := .builtin .append, args := #[x, y], argTypes := #[t, t] }, type := tt, pos := pos, after := after, guard := none } :: l) ⟨T, O⟩ Q :=
  WpL.appNil hP ht hx hy hs rfl (by simp [oneB, Value.oneCell']) (by omega) hid hn h
theorem WpL.app1Strs (hP : TabOk P tab) {t e b : Nat} {zs : List AV} {xs : List (List UInt8)} {v : (List UInt8)} {x y : Operand} {id ep len : Nat} {Vy : AV} (ht : tlook tab t = some (.slice e 1 b zs)) (hx : av T x = .own id ep 0 len)
    (ho : O[id]? = some ⟨strs xs, ep, 1, some e⟩) (hm : m ≤ id) (hy : (av T y).force = some Vy) (hs : srcB O Vy = some ([.sc (.string ⟨v.toArray⟩)], 1)) (hol : xs.length = len)
    (hb : (len + 1) * b ≤ 140737488355328 ∧ len + 1 ≤ 9223372036854775807) (hn : d < n)
    (h : WpL P n m G false ops l ⟨(d, .own id (ep + 1) 0 (len + 1)) :: T, O.set id ⟨strs (xs ++ [v]), ep + 1, 1, some e⟩⟩ Q) :
    WpL P n m G false ops ({ dst := some d, op := .call { callee := .builtin .append, args := #[x, y], argTypes := #[t, t] }, type := tt, pos := pos, after := after, guard := none } :: l) ⟨T, O⟩ Q :=
  WpL.appOwn hP ht hx ho rfl rfl rfl (by simp [hol]) hm hy hs rfl (by simp [oneB, Value.oneCell']) hb hn (by
    have e2 : strs xs ++ [.sc (.string ⟨v.toArray⟩)] = strs (xs ++ [v]) := by simp [strs]
    simp only [e2]; exact h)
theorem WpL.appStrs (hP : TabOk P tab) {t e b c : Nat} {zs : List AV} {xs ys : List (List UInt8)} {x y : Operand} {id ep len : Nat} {Vy : AV} (ht : tlook tab t = some (.slice e 1 b zs)) (hx : av T x = .own id ep 0 len)
    (ho : O[id]? = some ⟨strs xs, ep, 1, some e⟩) (hm : m ≤ id) (hy : (av T y).force = some Vy) (hs : srcB O Vy = some (strs ys, c)) (hol : xs.length = len) (hc : ys.length = c)
    (hb : (len + c) * b ≤ 140737488355328 ∧ len + c ≤ 9223372036854775807) (hn : d < n)
    (h : WpL P n m G false ops l ⟨(d, .own id (ep + 1) 0 (len + c)) :: T, O.set id ⟨strs (xs ++ ys), ep + 1, 1, some e⟩⟩ Q) :
    WpL P n m G false ops ({ dst := some d, op := .call { callee := .builtin .append, args := #[x, y], argTypes := #[t, t] }, type := tt, pos := pos, after := after, guard := none } :: l) ⟨T, O⟩ Q :=
  WpL.appOwn hP ht hx ho rfl rfl rfl (by simp [hol]) hm hy hs (by simp [hc]) (all_strs _ _) hb hn (by
    have e2 : strs xs ++ strs ys = strs (xs ++ ys) := by simp [strs]
    simp only [e2]; exact h)
theorem WpL.nil1Strs (hP : TabOk P tab) {t e b : Nat} {zs : List AV} {v : (List UInt8)} {x y : Operand} {id : Nat} {Vy : AV} (ht : tlook tab t = some (.slice e 1 b zs)) (hx : av T x = .nilS)
    (hy : (av T y).force = some Vy) (hs : srcB O Vy = some ([.sc (.string ⟨v.toArray⟩)], 1)) (hb : b ≤ 140737488355328) (hid : nid O 0 = some id) (hn : d < n)
    (h : WpL P n m G false ops l ⟨(d, .own id 0 0 1) :: T, O ++ [⟨strs [v], 0, 1, some e⟩]⟩ Q) :
    WpL P n m G false ops ({ dst := some d, op := .call { callee := .builtin .append, args := #[x, y], argTypes := #[t, t] }, type := tt, pos := pos, after := after, guard := none } :: l) ⟨T, O⟩ Q :=
  WpL.appNil hP ht hx hy hs rfl (by simp [oneB, Value.oneCell']) (by omega) hid hn h
end
end Go.Abs
namespace Go.Abs
open Go
section
variable {P : Program} {n m : Nat} {G : Ctx} {T : List (Nat × AV)} {O : List AObj} {Q : Exit → St → Prop} {ops : Array Oper} {l : List Oper} {d : Nat} {tt : TypeId} {pos : String} {after : Array Edge} {tab : List (Nat × Ty)}
theorem WpL.lit0Ints (hP : TabOk P tab) {t e b id : Nat} {ps : Array (Nat × Operand)} (ht : tlook tab t = some (.slice e 1 b [.sc (.int .i64 0)])) (hps : ps.toList = []) (hid : nid O 0 = some id) (hn : d < n)
    (h : WpL P n m G false ops l ⟨(d, .own id 0 0 0) :: T, O ++ [⟨ints [], 0, 1, some e⟩]⟩ Q) :
    WpL P n m G false ops ({ dst := some d, op := .buildSlice t 0 ps, type := tt, pos := pos, after := after, guard := none } :: l) ⟨T, O⟩ Q := by
  have e1 : ps = ([] : List (Nat × Operand)).toArray := by rw [← hps]
  rw [e1]
  exact WpL.lit hP ht rfl rfl .nil (by decide) hid hn h
theorem WpL.lit0U8s (hP : TabOk P tab) {t e b id : Nat} {ps : Array (Nat × Operand)} (ht : tlook tab t = some (.slice e 1 b [.sc (.int .u8 0)])) (hps : ps.toList = []) (hid : nid O 0 = some id) (hn : d < n)
    (h : WpL P n m G false ops l ⟨(d, .own id 0 0 0) :: T, O ++ [⟨u8s [], 0, 1, some e⟩]⟩ Q) :
    WpL P n m G false ops ({ dst := some d, op := .buildSlice t 0 ps, type := tt, pos := pos, after := after, guard := none } :: l) ⟨T, O⟩ Q := by
  have e1 : ps = ([] : List (Nat × Operand)).toArray := by rw [← hps]
  rw [e1]
  exact WpL.lit hP ht rfl rfl .nil (by decide) hid hn h
theorem WpL.lit0Bools (hP : TabOk P tab) {t e b id : Nat} {ps : Array (Nat × Operand)} (ht : tlook tab t = some (.slice e 1 b [.sc (.bool false)])) (hps : ps.toList = []) (hid : nid O 0 = some id) (hn : d < n)
    (h : WpL P n m G false ops l ⟨(d, .own id 0 0 0) :: T, O ++ [⟨bools [], 0, 1, some e⟩]⟩ Q) :
    WpL P n m G false ops ({ dst := some d, op := .buildSlice t 0 ps, type := tt, pos := pos, after := after, guard := none } :: l) ⟨T, O⟩ Q := by
  have e1 : ps = ([] : List (Nat × Operand)).toArray := by rw [← hps]
  rw [e1]
  exact WpL.lit hP ht rfl rfl .nil (by decide) hid hn h
theorem WpL.lit0Strs (hP : TabOk P tab) {t e b id : Nat} {ps : Array (Nat × Operand)} (ht : tlook tab t = some (.slice e 1 b [.sc (.string ⟨#[]⟩)])) (hps : ps.toList = []) (hid : nid O 0 = some id) (hn : d < n)
    (h : WpL P n m G false ops l ⟨(d, .own id 0 0 0) :: T, O ++ [⟨strs [], 0, 1, some e⟩]⟩ Q) :
    WpL P n m G false ops ({ dst := some d, op := .buildSlice t 0 ps, type := tt, pos := pos, after := after, guard := none } :: l) ⟨T, O⟩ Q := by
  have e1 : ps = ([] : List (Nat × Operand)).toArray := by rw [← hps]
  rw [e1]
  exact WpL.lit hP ht rfl rfl .nil (by decide) hid hn h
end
end Go.Abs
namespace Go.Abs
open Go
section
variable {P : Program} {n m : Nat} {G : Ctx} {T : List (Nat × AV)} {O : List AObj} {Q : Exit → St → Prop} {ops : Array Oper} {l : List Oper} {d : Nat} {tt : TypeId} {pos : String} {after : Array Edge} {tab : List (Nat × Ty)}
/-- The cells of a literal's elements, computed. -/
def litC (T : List (Nat × AV)) (O : List AObj) (k : Nat) : List Operand → Option (List AV)
  | [] => some []
  | x :: xs => match (av T x).force with
    | none => none
    | some V => match oneB O V && Nat.beq k 1 with
      | true => match litC T O k xs with
        | none => none
        | some cs => some (V :: cs)
      | false => match cellsV O V with
        | none => none
        | some ds => match Nat.beq ds.length k with
          | false => none
          | true => match litC T O k xs with
            | none => none
            | some cs => some (ds ++ cs)
theorem litC_lit {k : Nat} : ∀ {xs : List Operand} {cs : List AV}, litC T O k xs = some cs → Lit T O k xs cs
  | [], cs, h => by simp only [litC, Option.some.injEq] at h; subst h; exact .nil
  | x :: xs, cs, h => by
    simp only [litC] at h
    split at h
    · simp at h
    · rename_i V hV
      split at h
      · rename_i hb
        simp only [Bool.and_eq_true] at hb
        split at h
        · simp at h
        · rename_i cs' hc
          simp only [Option.some.injEq] at h; subst h
          exact .one hV hb.1 (Nat.eq_of_beq_eq_true hb.2) (litC_lit hc)
      · split at h
        · simp at h
        · rename_i ds hds
          split at h
          · simp at h
          · rename_i hlen
            split at h
            · simp at h
            · rename_i cs' hc
              simp only [Option.some.injEq] at h; subst h
              exact .cons hV hds (Nat.eq_of_beq_eq_true hlen) (litC_lit hc)
theorem WpL.litF (hP : TabOk P tab) {t e k b len id : Nat} {zs cs : List AV} {parts : List (Nat × Operand)} (ht : tlook tab t = some (.slice e k b zs)) (hidx : parts.map (·.1) = List.range' 0 parts.length) (hlen : parts.length = len)
    (hlit : litC T O k (parts.map (·.2)) = some cs) (hsm : len * k ≤ 16777216) (hid : nid O 0 = some id) (hn : d < n)
    (h : WpL P n m G false ops l ⟨(d, .own id 0 0 len) :: T, O ++ [⟨cs, 0, k, some e⟩]⟩ Q) :
    WpL P n m G false ops ({ dst := some d, op := .buildSlice t len parts.toArray, type := tt, pos := pos, after := after, guard := none } :: l) ⟨T, O⟩ Q :=
  WpL.lit hP ht hidx hlen (litC_lit hlit) hsm hid hn h
end
end Go.Abs
namespace Go.Abs
open Go
section
variable {P : Program} {n m : Nat} {G : Ctx} {T : List (Nat × AV)} {O : List AObj} {Q : Exit → St → Prop} {ops : Array Oper} {l : List Oper} {d : Nat} {tt : TypeId} {pos : String} {after : Array Edge} {tab : List (Nat × Ty)}
theorem flat_strs (n : Nat) : (List.replicate n [AV.sc (.string ⟨#[]⟩)]).flatten = strs (List.replicate n []) := by
  induction n with
  | zero => rfl
  | succ n ih => rw [List.replicate_succ, List.flatten_cons, ih, List.replicate_succ]; rfl
theorem flat_bools (n : Nat) : (List.replicate n [AV.sc (.bool false)]).flatten = bools (List.replicate n false) := by
  induction n with
  | zero => rfl
  | succ n ih => rw [List.replicate_succ, List.flatten_cons, ih, List.replicate_succ]; rfl
theorem WpL.makeStrs (hP : TabOk P tab) {t e b id : Nat} {x y : Operand} {kl kc : IntKind} {p : Int} (ht : tlook tab t = some (.slice e 1 b [.sc (.string ⟨#[]⟩)])) (hx : av T x = .sc (.int kl p)) (hy : av T y = .sc (.int kc p))
    (hp : 0 ≤ p) (hb : (b : Int) * p ≤ 281474976710656 ∧ p ≤ 9223372036854775807) (hid : nid O 0 = some id) (hn : d < n)
    (h : WpL P n m G false ops l ⟨(d, .own id 0 0 p.toNat) :: T, O ++ [⟨strs (List.replicate p.toNat []), 0, 1, some e⟩]⟩ Q) :
    WpL P n m G false ops ({ dst := some d, op := .makeSlice t x y, type := tt, pos := pos, after := after, guard := none } :: l) ⟨T, O⟩ Q :=
  WpL.make hP ht hx hy hp hb hid hn (by rw [flat_strs]; exact h)
theorem WpL.makeBools (hP : TabOk P tab) {t e b id : Nat} {x y : Operand} {kl kc : IntKind} {p : Int} (ht : tlook tab t = some (.slice e 1 b [.sc (.bool false)])) (hx : av T x = .sc (.int kl p)) (hy : av T y = .sc (.int kc p))
    (hp : 0 ≤ p) (hb : (b : Int) * p ≤ 281474976710656 ∧ p ≤ 9223372036854775807) (hid : nid O 0 = some id) (hn : d < n)
    (h : WpL P n m G false ops l ⟨(d, .own id 0 0 p.toNat) :: T, O ++ [⟨bools (List.replicate p.toNat false), 0, 1, some e⟩]⟩ Q) :
    WpL P n m G false ops ({ dst := some d, op := .makeSlice t x y, type := tt, pos := pos, after := after, guard := none } :: l) ⟨T, O⟩ Q :=
  WpL.make hP ht hx hy hp hb hid hn (by rw [flat_bools]; exact h)
end
end Go.Abs

/- Regions that draw their order and in which calls stand between loads. No condition. -/
namespace Go.Abs
open Go
set_option linter.unusedVariables false
set_option linter.unusedSimpArgs false

def Only (σ : St) : Exit → St → Prop
  | .normal, σ' => σ' = σ
  | _, _ => False
theorem Only.mk {σ σ' : St} (h : σ' = σ) : Only σ .normal σ' := h

/-- What the operations that this one waits for have yielded. -/
def deps (fs : List (Nat × AV)) (o : Oper) : List (Nat × AV) := o.after.toList.filterMap fun e => if Region.binds .any e = true then fs[e.on]? else none

inductive HeadJ (P : Program) (n m : Nat) (G : Ctx) (ops : Array Oper) (T0 : List (Nat × AV)) (O : List AObj) : List (Nat × AV) → List Oper → List (Nat × AV) → Prop
  | nil {fs} : HeadJ P n m G ops T0 O fs [] fs
  | cons {fs out : List (Nat × AV)} {o : Oper} {l : List Oper} {d : Nat} {V : AV} {F : List (Nat × AV)} (hd : o.dst = some d) (hF : deps fs o = F)
      (h : ∀ Tv, WpL P n m G false ops [o] ⟨F ++ (T0 ++ Tv), O⟩ (Only ⟨(d, V) :: (F ++ (T0 ++ Tv)), O⟩)) (r : HeadJ P n m G ops T0 O (fs ++ [(d, V)]) l out) : HeadJ P n m G ops T0 O fs (o :: l) out

section
variable {P : Program} {n m : Nat} {G : Ctx} {ops : Array Oper} {T0 : List (Nat × AV)} {O : List AObj}

theorem HeadJ.pre {fs l out} (h : HeadJ P n m G ops T0 O fs l out) : ∃ r, out = fs ++ r ∧ r.length = l.length := by
  induction h with
  | nil => exact ⟨[], by simp, rfl⟩
  | @cons fs out o l d V F _ _ _ _ ih => obtain ⟨r, h1, h2⟩ := ih; exact ⟨(d, V) :: r, by rw [h1]; simp, by simp [h2]⟩

theorem HeadJ.at {fs l out} (h : HeadJ P n m G ops T0 O fs l out) : ∀ {j : Nat} {o : Oper}, l[j]? = some o → ∃ d V, o.dst = some d ∧ out[fs.length + j]? = some (d, V) ∧
    ∀ Tv, WpL P n m G false ops [o] ⟨deps (out.take (fs.length + j)) o ++ (T0 ++ Tv), O⟩ (Only ⟨(d, V) :: (deps (out.take (fs.length + j)) o ++ (T0 ++ Tv)), O⟩) := by
  induction h with
  | nil => intro j o h; simp at h
  | @cons fs out o l d V F hd hF h r ih =>
    intro j o' hj
    obtain ⟨r', h1, h2⟩ := r.pre
    cases j with
    | zero =>
      simp only [List.getElem?_cons_zero, Option.some.injEq] at hj
      subst hj
      refine ⟨d, V, hd, by rw [h1]; simp, ?_⟩
      have : out.take (fs.length + 0) = fs := by rw [h1, Nat.add_zero, List.append_assoc, List.take_left']; rfl
      rw [this, hF]; exact h
    | succ j =>
      have := ih (j := j) (o := o') (by simpa using hj)
      rw [List.length_append, List.length_singleton, Nat.add_assoc, Nat.add_comm 1 j] at this
      exact this

def has (A : List (Nat × AV)) (t : Nat) : Bool := A.any fun p => Nat.beq p.1 t

theorem look_append (A B : List (Nat × AV)) (t : Nat) : look (A ++ B) t = if has A t = true then look A t else look B t := by
  induction A with
  | nil => simp [has]
  | cons p A ih =>
    obtain ⟨k, V⟩ := p
    by_cases h : k = t
    · subst h; simp [has, look_cons_same]
    · rw [List.cons_append, look_cons_other _ _ _ _ h, look_cons_other _ _ _ _ h, ih]
      have : Nat.beq k t = false := by rw [← Bool.not_eq_true]; intro h'; exact h (Nat.eq_of_beq_eq_true h')
      simp only [has, List.any_cons, this, Bool.false_or]
      rfl

theorem has_look {A : List (Nat × AV)} {t : Nat} (h : has A t = true) : (t, look A t) ∈ A := by
  induction A with
  | nil => simp [has] at h
  | cons p A ih =>
    obtain ⟨k, V⟩ := p
    by_cases hk : k = t
    · subst hk; rw [look_cons_same]; simp
    · rw [look_cons_other _ _ _ _ hk]
      refine List.mem_cons_of_mem _ (ih ?_)
      have : Nat.beq k t = false := by rw [← Bool.not_eq_true]; intro h'; exact hk (Nat.eq_of_beq_eq_true h')
      simpa [has, this] using h

theorem has_mem {A : List (Nat × AV)} {t : Nat} {V : AV} (h : (t, V) ∈ A) : has A t = true := by
  simp only [has, List.any_eq_true]
  exact ⟨_, h, by simp⟩

theorem Rel.relook {T T' : List (Nat × AV)} {a w} (h : Rel n m G ⟨T, O⟩ a w) (he : ∀ t, look T' t = look T t) : Rel n m G ⟨T', O⟩ a w := by
  obtain ⟨S, ι, F, hr⟩ := h
  exact ⟨S, ι, F, hr.defers, hr.size, fun t => by rw [show look (St.mk T' O).T t = look T t from he t]; exact hr.tmps t, hr.objs, hr.foot, hr.base, hr.stable, hr.keeps, hr.spots, hr.mle⟩

/-- Slots that the head fills are filled by one operation each, and nothing was known of them. -/
structure Heads (ops : Array Oper) (T0 out : List (Nat × AV)) (k : Nat) : Prop where
  len : out.length = k
  nodup : (out.map (·.1)).Nodup
  fresh : ∀ p, p ∈ out → has T0 p.1 = false
  back : ∀ i, i < k → ∀ o, ops[i]? = some o → ∀ e ∈ o.after, Region.binds .any e = true → e.on < i

def Good (n m : Nat) (G : Ctx) (T0 out : List (Nat × AV)) (O : List AObj) (listed : Array Bool) (a : Act) (w : World) : Prop :=
  ∃ T, Rel n m G ⟨T, O⟩ a w ∧ (∀ (i d : Nat) (V : AV), out[i]? = some (d, V) → listed.getD i false = true → look T d = V) ∧ ∀ t, has out t = false → look T t = look T0 t

theorem out_inj {out : List (Nat × AV)} (h : (out.map (·.1)).Nodup) {i j d : Nat} {V W : AV} (hi : out[i]? = some (d, V)) (hj : out[j]? = some (d, W)) : i = j := by
  have hi' := (List.getElem?_eq_some_iff.1 hi).1
  refine (List.getElem?_inj (l := out.map (·.1)) (by simpa using hi') h).1 ?_
  simp [hi, hj]

theorem head_step {out : List (Nat × AV)} {k : Nat} (H : Heads ops T0 out k) {Q : Exit → Act → World → Prop} (hJ : ∀ {j : Nat} {o : Oper}, j < k → ops[j]? = some o → ∃ d V, o.dst = some d ∧ out[j]? = some (d, V) ∧
      ∀ Tv, WpL P n m G false ops [o] ⟨deps (out.take j) o ++ (T0 ++ Tv), O⟩ (Only ⟨(d, V) :: (deps (out.take j) o ++ (T0 ++ Tv)), O⟩))
    {listed : Array Bool} (inv : HeadInv .any ops k listed) {i : Nat} (hi : i ∈ Region.ready .any ops listed) (hik : i < k) {a w} (hg : Good n m G T0 out O listed a w) {K : Act → World → Prop}
    (hK : ∀ a' w', Good n m G T0 out O (listed.setIfInBounds i true) a' w' → K a' w') : wpOp P ops Q i K a w := by
  obtain ⟨hun, o, ho, hall⟩ := mem_ready.1 hi
  obtain ⟨T, hr, h1, h2⟩ := hg
  obtain ⟨d, V, hd, hout, hw⟩ := hJ hik ho
  have hF : ∀ t U, (t, U) ∈ deps (out.take i) o → look T t = U := by
    intro t U hm
    simp only [deps, List.mem_filterMap] at hm
    obtain ⟨e, he, hx⟩ := hm
    split at hx
    · rename_i hb
      have he' : e ∈ o.after := by simpa using he
      have hx' : out[e.on]? = some (t, U) := by
        rw [List.getElem?_take] at hx
        split at hx
        · exact hx
        · simp at hx
      exact h1 _ _ _ hx' (hall e he' hb)
    · simp at hx
  have same : ∀ t, look (deps (out.take i) o ++ (T0 ++ T)) t = look T t := by
    intro t
    rw [look_append]
    split
    · rename_i h; exact (hF _ _ (has_look h)).symm
    · rw [look_append]
      split
      · rename_i h
        refine (h2 t ?_).symm
        cases hc : has out t with
        | false => rfl
        | true => have := H.fresh _ (has_look hc); simp only at this; rw [this] at h; cases h
      · rfl
  have hw' := hw T a w (hr.relook same)
  simp only at hw'
  have good : ∀ a' w', Rel n m G ⟨(d, V) :: (deps (out.take i) o ++ (T0 ++ T)), O⟩ a' w' → Good n m G T0 out O (listed.setIfInBounds i true) a' w' := by
    intro a' w' hr'
    refine ⟨_, hr', fun j d' V' hj hl => ?_, fun t ht => ?_⟩
    · by_cases hij : i = j
      · subst hij; rw [hout] at hj; cases hj; exact look_cons_same _ _ _
      · rw [getD_set_ne false hij] at hl
        have hne : d ≠ d' := by rintro rfl; exact hij (out_inj H.nodup hout hj)
        rw [look_cons_other _ _ _ _ hne, same]
        exact h1 _ _ _ hj hl
    · have hne : d ≠ t := by
        rintro rfl
        have := has_mem (List.mem_of_getElem? hout)
        rw [ht] at this; cases this
      rw [look_cons_other _ _ _ _ hne, same]; exact h2 t ht
  have only : ∀ e a' w', (∃ σ', Only ⟨(d, V) :: (deps (out.take i) o ++ (T0 ++ T)), O⟩ e σ' ∧ Rel n m G σ' a' w') → e = .normal ∧ K a' w' := by
    rintro e a' w' ⟨σ', hq, hr'⟩
    cases e <;> first | (simp only [Only] at hq; subst hq; exact ⟨rfl, hK _ _ (good _ _ hr')⟩) | exact hq.elim
  unfold wpOp
  simp only [ho]
  change wpList P ops _ [o] a w at hw'
  unfold wpList at hw'
  by_cases hwant : Region.wanted o (yielded ops a.tmps) = true
  · rw [if_pos hwant] at hw' ⊢
    rcases hw' with hw' | ⟨_, a', w', hx⟩
    · refine .inl ?_
      unfold Oper.wp at hw' ⊢
      generalize (execOp a.eval o).run P w = r at *
      cases r with
      | ok x w1 =>
        cases x <;> simp only [Oper.upon] at hw' ⊢
        case value v => exact (only _ _ _ hw').2
        case skip => exact (only _ _ _ hw').2
        case defer d => exact (only _ _ _ hw').2
        case enter f args =>
          refine hw'.mono fun e w2 h2 => ?_
          cases e with
          | returned v => exact (only _ _ _ h2).2
          | panicked c => exact absurd (only _ _ _ h2).1 (by simp)
          | outgrown => obtain ⟨_, _, hf⟩ := h2; exact absurd (only _ _ _ hf).1 (by simp)
        case row r ar => exact hw'.mono fun v w2 h2 => (only _ _ _ h2).2
      | halt x w1 => cases x <;> simp only [Oper.upon] at hw' ⊢ <;> first | exact absurd (only _ _ _ hw').1 (by simp) | exact hw'.elim | (obtain ⟨_, _, hf⟩ := hw'; exact absurd (only _ _ _ hf).1 (by simp))
    · exact absurd (only _ _ _ hx).1 (by simp)
  · rw [if_neg hwant] at hw' ⊢
    exact (only _ _ _ hw').2

theorem head_any {out : List (Nat × AV)} {k g : Nat} (H : Heads ops T0 out k) (hks : k ≤ ops.size) (hs : k < ops.size → Region.sinkB .any ops k = true ∧ Region.chainB .any ops k = true)
    (hJ : ∀ {j : Nat} {o : Oper}, j < k → ops[j]? = some o → ∃ d V, o.dst = some d ∧ out[j]? = some (d, V) ∧
      ∀ Tv, WpL P n m G false ops [o] ⟨deps (out.take j) o ++ (T0 ++ Tv), O⟩ (Only ⟨(d, V) :: (deps (out.take j) o ++ (T0 ++ Tv)), O⟩)) {Q : Exit → Act → World → Prop}
    (hT : ∀ listed a w, HeadInv .any ops k listed → (∀ i, i < k → listed.getD i false = true) → Good n m G T0 out O listed a w → wpAny P .any ops Q g listed a w) :
    ∀ (f : Nat) (listed : Array Bool) (a : Act) (w : World), HeadInv .any ops k listed → ((List.range k).filter fun i => !listed.getD i false).length = f → Good n m G T0 out O listed a w →
      wpAny P .any ops Q (f + g) listed a w := by
  intro f
  induction f with
  | zero =>
    intro listed a w inv hc hg
    rw [Nat.zero_add]
    refine hT listed a w inv (fun i hi => ?_) hg
    have h0 := List.eq_nil_of_length_eq_zero hc
    cases hl : listed.getD i false with
    | true => rfl
    | false =>
      have : i ∈ (List.range k).filter fun i => !listed.getD i false := by simp [List.mem_filter, hi]; simpa using hl
      rw [h0] at this; cases this
  | succ f ih =>
    intro listed a w inv hc hg
    have hgetD : ∀ i, i < k → listed.getD i false = false → listed.getD i true = false := fun i hi h => getD_in (by rw [inv.size]; omega) h
    -- the least that is not listed is ready
    have hex : ∃ i, i < k ∧ listed.getD i false = false := by
      cases hl : (List.range k).filter fun i => !listed.getD i false with
      | nil => rw [hl] at hc; simp at hc
      | cons i r =>
        have : i ∈ (List.range k).filter fun i => !listed.getD i false := by rw [hl]; simp
        rw [List.mem_filter, List.mem_range] at this
        exact ⟨i, this.1, by simpa using this.2⟩
    obtain ⟨i0, hi0, hl0⟩ := hex
    have least : ∀ d i, i = d → i < k → listed.getD i false = false → ∃ j, j < k ∧ j ∈ Region.ready .any ops listed := by
      intro d
      induction d using Nat.strongRecOn with
      | _ d ihd =>
        rintro i rfl hi hl
        by_cases hh : ∃ j, j < i ∧ listed.getD j false = false
        · obtain ⟨j, hj, hjl⟩ := hh
          exact ihd j hj j rfl (by omega) hjl
        · have hlt : i < ops.size := by omega
          refine ⟨i, hi, mem_ready.2 ⟨hgetD i hi hl, ops[i], by simp [hlt], fun e he hb => ?_⟩⟩
          have hlt' := H.back i hi _ (by simp [hlt]) e he hb
          cases hx : listed.getD e.on false with
          | true => rfl
          | false => exact (hh ⟨_, hlt', hx⟩).elim
    obtain ⟨j0, hj0, hr0⟩ := least i0 i0 rfl hi0 hl0
    rw [show f + 1 + g = (f + g) + 1 by omega]
    refine ⟨fun h => (by rw [h] at hr0; cases hr0), fun i hi => ?_⟩
    have hik : i < k := by
      rcases Nat.lt_or_ge i k with h | h
      · exact h
      · by_cases hk : k < ops.size
        · exact absurd hi (tail_waits (hs hk).1 (hs hk).2 hk inv _ i0 rfl hi0 (hgetD i0 hi0 hl0) i h)
        · obtain ⟨_, o, ho, _⟩ := mem_ready.1 hi
          have := (Array.getElem?_eq_some_iff.1 ho).1
          omega
    have hiu : listed.getD i false = false := getD_both (mem_ready.1 hi).1
    refine head_step H hJ inv hi hik hg fun a' w' hg' => ih _ _ _ (inv.set hi hik) ?_ hg'
    have key : ∀ (L : List Nat), L.Nodup → i ∈ L → (L.filter fun j => !(listed.setIfInBounds i true).getD j false).length + 1 = (L.filter fun j => !listed.getD j false).length := by
      intro L
      have hself : (listed.setIfInBounds i true).getD i false = true := by
        have : i < listed.size := by rw [inv.size]; omega
        simp [this]
      induction L with
      | nil => intro _ h; cases h
      | cons x L ihL =>
        intro hnd hm
        rw [List.nodup_cons] at hnd
        by_cases hx : x = i
        · subst hx
          have hsame : (L.filter fun j => !(listed.setIfInBounds x true).getD j false) = L.filter fun j => !listed.getD j false := by
            refine List.filter_congr fun j hj => ?_
            rw [getD_set_ne false (by rintro rfl; exact hnd.1 hj)]
          rw [List.filter_cons, List.filter_cons, hsame, hself, hiu]; simp
        · have hm' : i ∈ L := by
            rcases List.mem_cons.1 hm with h | h
            · exact (hx h.symm).elim
            · exact h
          have := ihL hnd.2 hm'
          rw [List.filter_cons, List.filter_cons, getD_set_ne false (Ne.symm hx)]
          split <;> (try simp only [List.length_cons]) <;> omega
    have := key (List.range k) List.nodup_range (List.mem_range.2 hik)
    omega

def nodupB : List Nat → Bool
  | [] => true
  | x :: xs => !(xs.any fun y => Nat.beq y x) && nodupB xs
theorem nodupB_spec {l : List Nat} (h : nodupB l = true) : l.Nodup := by
  induction l with
  | nil => simp
  | cons x xs ih =>
    simp only [nodupB, Bool.and_eq_true, Bool.not_eq_true', List.any_eq_false] at h
    refine List.nodup_cons.2 ⟨fun hm => ?_, ih h.2⟩
    exact h.1 x hm (by simp)

/-- The test of the shape: the first k operations in any order, then the rest in one order. -/
def mixB (ops : Array Oper) (k : Nat) : Bool :=
  decide (k ≤ ops.size) && (List.range k).all (fun i => match ops[i]? with | some o => o.after.toList.all fun e => !Region.binds .any e || decide (e.on < i) | none => true) &&
  (decide (k = ops.size) || (Region.sinkB .any ops k && Region.chainB .any ops k)) && Region.seqB .any ops (ops.size - k) k ((Array.range ops.size).map fun i => decide (i < k))

theorem WpA.regionM {l : List Oper} {id : Nat} {out T1 : List (Nat × AV)} {Q : Exit → St → Prop} (k : Nat) (hm : P.follows .mixedOrders = true) (hB : mixB l.toArray k = true)
    (hJ : HeadJ P n m G l.toArray T0 O [] (l.take k) out) (hnd : nodupB (out.map (·.1)) = true) (hfr : (out.all fun p => !has T0 p.1) = true)
    (hT1 : out ++ T0 = T1) (h : WpL P n m G false l.toArray (l.drop k) ⟨T1, O⟩ Q) : WpA P n m G (.region id l.toArray true) ⟨T0, O⟩ Q := fun a w hr => by
  subst hT1
  simp only [mixB, Bool.and_eq_true, decide_eq_true_eq, Bool.or_eq_true] at hB
  obtain ⟨⟨⟨hks, hback⟩, hsc⟩, hseq⟩ := hB
  have hkl : k ≤ l.length := by simpa using hks
  have htl : (l.take k).length = k := by simp; omega
  obtain ⟨r, hr1, hr2⟩ := hJ.pre
  have hlen : out.length = k := by rw [hr1]; simp [hr2]; omega
  have H : Heads l.toArray T0 out k := ⟨hlen, nodupB_spec hnd, fun p hp => by have := List.all_eq_true.1 hfr p hp; simpa using this, fun i hi o ho e he hb => by
    have h1 := List.all_eq_true.1 hback i (List.mem_range.2 hi)
    rw [ho] at h1
    have h2 := List.all_eq_true.1 h1 e (by simpa using he)
    simp only [Bool.or_eq_true, Bool.not_eq_true', decide_eq_true_eq] at h2
    rcases h2 with h2 | h2
    · rw [hb] at h2; cases h2
    · exact h2⟩
  have hJ' : ∀ {j : Nat} {o : Oper}, j < k → l.toArray[j]? = some o → ∃ d V, o.dst = some d ∧ out[j]? = some (d, V) ∧
      ∀ Tv, WpL P n m G false l.toArray [o] ⟨deps (out.take j) o ++ (T0 ++ Tv), O⟩ (Only ⟨(d, V) :: (deps (out.take j) o ++ (T0 ++ Tv)), O⟩) := by
    intro j o hj ho
    have ho' : (l.take k)[j]? = some o := by rw [List.getElem?_take, if_pos hj]; simpa using ho
    have := hJ.at ho'
    simpa using this
  have inv0 : HeadInv .any l.toArray k (Array.replicate l.toArray.size false) :=
    ⟨by simp, fun j oj _ hl => (by rw [getD_replicate_false] at hl; cases hl), fun t _ ht => getD_in (by simpa using ht) (getD_replicate_false _ _)⟩
  refine wp_region_any hm ?_
  have fin := head_any (P := P) (n := n) (m := m) (G := G) (O := O) (g := l.toArray.size - k) (Q := fun e a' w' => ∃ σ', Q e σ' ∧ Rel n m G σ' a' w') H hks (fun hk => hsc.resolve_left (by omega)) hJ' (fun listed a w inv hall hg => by
    obtain ⟨T, hrT, h1, h2⟩ := hg
    have hlist : listed = (Array.range l.toArray.size).map fun i => decide (i < k) := by
      apply Array.ext
      · simp [inv.size]
      · intro i hi1 hi2
        have hi : i < l.toArray.size := by rw [← inv.size]; exact hi1
        by_cases hik : i < k
        · have := hall i hik
          simp [hi1] at this
          simp [this, hik]
        · have := inv.tail i (by omega) hi
          simp [hi1] at this
          simp [this, hik]
    have hdl : (l.drop k).length = l.toArray.size - k := by simp
    rw [← hdl]
    refine wpAny_of_seq (l.drop k) k listed a w (fun j => by simp [List.getElem?_drop]) (by rw [hdl, hlist]; exact hseq) ?_
    refine h a w (hrT.relook fun t => ?_)
    rw [look_append]
    split
    · rename_i hh
      obtain ⟨i, hi, hi2⟩ := List.getElem_of_mem (has_look hh)
      have : out[i]? = some (t, look out t) := by rw [List.getElem?_eq_getElem hi, hi2]
      exact (h1 i _ _ this (hall i (by omega))).symm
    · rename_i hh
      exact (h2 t (by simpa using hh)).symm) k _ a w.drew inv0 (by
        have : ((List.range k).filter fun i => !(Array.replicate l.toArray.size false).getD i false) = List.range k := by
          rw [List.filter_eq_self]; intro i _; rw [getD_replicate_false]; rfl
        rw [this]; simp) ⟨T0, hr.drew, ⟨fun i d V _ hl => (by rw [getD_replicate_false] at hl; cases hl), fun _ _ => rfl⟩⟩
  rw [show k + (l.toArray.size - k) = l.toArray.size by omega] at fin
  exact fin
end
end Go.Abs
namespace Go.Abs.K
theorem depT {fs F : List (Nat × AV)} {o : Oper} (h : deps fs o = F) : deps fs o = F := h
theorem appT {A B T : List (Nat × AV)} (h : A ++ B = T) : A ++ B = T := h
theorem headJ {P : Program} {n m : Nat} {G : Ctx} {ops : Array Oper} {T0 : List (Nat × AV)} {O : List AObj} {fs l out} (h : HeadJ P n m G ops T0 O fs l out) : HeadJ P n m G ops T0 O fs l out := h
theorem isTrue {b : Bool} (h : b = true) : b = true := h
end Go.Abs.K

/- Regions that draw their order, whose head makes objects: the operations that make them stand one behind the other. No condition. -/
namespace Go.Abs
open Go
set_option linter.unusedVariables false
set_option linter.unusedSimpArgs false

/-- A fact of an operation: its slot, its value, how many objects stand for sure behind it. -/
abbrev Fact := Nat × AV × Nat
def ndeps (fs : List Fact) (o : Oper) : List (Nat × AV) := o.after.toList.filterMap fun e => if Region.binds .any e = true then (fs[e.on]?).map fun x => (x.1, x.2.1) else none
def sure (c0 : Nat) (fs : List Fact) (o : Oper) : Nat := o.after.toList.foldl (fun c e => if Region.binds .any e = true then (match fs[e.on]? with | some x => max c x.2.2 | none => c) else c) c0

inductive HeadN (P : Program) (n m : Nat) (G : Ctx) (ops : Array Oper) (T0 : List (Nat × AV)) (c0 : Nat) : List AObj → List Fact → List Oper → List AObj → List Fact → Prop
  | nil {O fs} : HeadN P n m G ops T0 c0 O fs [] O fs
  | pure {O fs o l O' out d V F c Oc} (hd : o.dst = some d) (hF : ndeps fs o = F) (hc : sure c0 fs o = c) (hO : O.take c = Oc)
      (h : ∀ Tv Ov, WpL P n m G false ops [o] ⟨F ++ (T0 ++ Tv), Oc ++ Ov⟩ (Only ⟨(d, V) :: (F ++ (T0 ++ Tv)), Oc ++ Ov⟩)) (r : HeadN P n m G ops T0 c0 O (fs ++ [(d, V, c)]) l O' out) : HeadN P n m G ops T0 c0 O fs (o :: l) O' out
  | prod {O fs o l O' out d V F N} (hd : o.dst = some d) (hF : ndeps fs o = F) (hc : sure c0 fs o = O.length) (hN : N ≠ [])
      (h : ∀ Tv, WpL P n m G false ops [o] ⟨F ++ (T0 ++ Tv), O⟩ (Only ⟨(d, V) :: (F ++ (T0 ++ Tv)), O ++ N⟩)) (r : HeadN P n m G ops T0 c0 (O ++ N) (fs ++ [(d, V, O.length + N.length)]) l O' out) : HeadN P n m G ops T0 c0 O fs (o :: l) O' out

section
variable {P : Program} {n m : Nat} {G : Ctx} {ops : Array Oper} {T0 : List (Nat × AV)}

theorem foldl_sure_le (fs : List Fact) (q : Nat) (L : List Edge) (hL : ∀ e ∈ L, Region.binds .any e = true → ∀ x, fs[e.on]? = some x → x.2.2 ≤ q) : ∀ c0, c0 ≤ q →
    L.foldl (fun c e => if Region.binds .any e = true then (match fs[e.on]? with | some x => max c x.2.2 | none => c) else c) c0 ≤ q := by
  induction L with
  | nil => intro c0 h; exact h
  | cons e L ih =>
    intro c0 h
    rw [List.foldl_cons]
    refine ih (fun e' he' => hL e' (List.mem_cons_of_mem _ he')) _ ?_
    split
    · rename_i hb
      split
      · rename_i x hx; exact Nat.max_le.2 ⟨h, hL e (by simp) hb x hx⟩
      · exact h
    · exact h

theorem foldl_sure_ge (fs : List Fact) (L : List Edge) : ∀ c0, c0 ≤ L.foldl (fun c e => if Region.binds .any e = true then (match fs[e.on]? with | some x => max c x.2.2 | none => c) else c) c0 := by
  induction L with
  | nil => intro c0; exact Nat.le_refl _
  | cons e L ih =>
    intro c0
    rw [List.foldl_cons]
    refine Nat.le_trans ?_ (ih _)
    split
    · split
      · exact Nat.le_max_left _ _
      · exact Nat.le_refl _
    · exact Nat.le_refl _

/-- What the head's operations do, each by its place. -/
structure Plan (P : Program) (n m : Nat) (G : Ctx) (ops : Array Oper) (T0 : List (Nat × AV)) (c0 : Nat) (k : Nat) (out : List Fact) (O' : List AObj) (isP : Nat → Bool) (p : Nat → Nat) : Prop where
  len : out.length = k
  nodup : (out.map (·.1)).Nodup
  fresh : ∀ x, x ∈ out → has T0 x.1 = false
  back : ∀ i, i < k → ∀ o, ops[i]? = some o → ∀ e ∈ o.after, Region.binds .any e = true → e.on < i
  pure : ∀ i o d V c, i < k → isP i = false → ops[i]? = some o → out[i]? = some (d, V, c) → o.dst = some d ∧ sure c0 (out.take i) o = c ∧
    ∀ Tv Ov, WpL P n m G false ops [o] ⟨ndeps (out.take i) o ++ (T0 ++ Tv), O'.take c ++ Ov⟩ (Only ⟨(d, V) :: (ndeps (out.take i) o ++ (T0 ++ Tv)), O'.take c ++ Ov⟩)
  prod : ∀ i o d V c, i < k → isP i = true → ops[i]? = some o → out[i]? = some (d, V, c) → o.dst = some d ∧ sure c0 (out.take i) o = p i ∧ p i < c ∧ c ≤ O'.length ∧
    ∀ Tv, WpL P n m G false ops [o] ⟨ndeps (out.take i) o ++ (T0 ++ Tv), O'.take (p i)⟩ (Only ⟨(d, V) :: (ndeps (out.take i) o ++ (T0 ++ Tv)), O'.take c⟩)
  mono : ∀ i j d V c, i < j → j < k → isP i = true → isP j = true → out[i]? = some (d, V, c) → c ≤ p j
  base : c0 ≤ O'.length
  all : ∀ i, i < k → ∃ o, ops[i]? = some o

structure GoodN (n m : Nat) (G : Ctx) (T0 : List (Nat × AV)) (c0 : Nat) (out : List Fact) (O' : List AObj) (isP : Nat → Bool) (listed : Array Bool) (a : Act) (w : World) (T : List (Nat × AV)) (q : Nat) : Prop where
  rel : Rel n m G ⟨T, O'.take q⟩ a w
  facts : ∀ i d V c, out[i]? = some (d, V, c) → listed.getD i false = true → look T d = V
  other : ∀ t, has (out.map fun x => (x.1, x.2.1)) t = false → look T t = look T0 t
  lo : c0 ≤ q
  hi : q ≤ O'.length
  le : ∀ i d V c, out[i]? = some (d, V, c) → listed.getD i false = true → c ≤ q
  top : q = c0 ∨ ∃ i d V, out[i]? = some (d, V, q) ∧ isP i = true ∧ listed.getD i false = true
  down : ∀ i j, i < j → isP i = true → isP j = true → listed.getD j false = true → listed.getD i false = true

theorem outN_inj {out : List Fact} (h : (out.map (·.1)).Nodup) {i j d : Nat} {V W : AV × Nat} (hi : out[i]? = some (d, V)) (hj : out[j]? = some (d, W)) : i = j := by
  have hi' := (List.getElem?_eq_some_iff.1 hi).1
  refine (List.getElem?_inj (l := out.map (·.1)) (by simpa using hi') h).1 ?_
  simp [hi, hj]

theorem wpOp_only {σ0 σ1 : St} {i : Nat} {o : Oper} (ho : ops[i]? = some o) (hw : WpL P n m G false ops [o] σ0 (Only σ1)) {a : Act} {w : World} (hr : Rel n m G σ0 a w) {K : Act → World → Prop}
    (hK : ∀ a' w', Rel n m G σ1 a' w' → K a' w') {Q : Exit → Act → World → Prop} : wpOp P ops Q i K a w := by
  have hw' := hw a w hr
  simp only at hw'
  have only : ∀ e a' w', (∃ σ', Only σ1 e σ' ∧ Rel n m G σ' a' w') → e = .normal ∧ K a' w' := by
    rintro e a' w' ⟨σ', hq, hr'⟩
    cases e <;> first | (simp only [Only] at hq; subst hq; exact ⟨rfl, hK _ _ hr'⟩) | exact hq.elim
  unfold wpOp
  simp only [ho]
  change wpList P ops _ [o] a w at hw'
  unfold wpList at hw'
  by_cases hwant : Region.wanted o (yielded ops a.tmps) = true
  · rw [if_pos hwant] at hw' ⊢
    rcases hw' with hw' | ⟨_, a', w', hx⟩
    · refine .inl ?_
      unfold Oper.wp at hw' ⊢
      generalize (execOp a.eval o).run P w = r at *
      cases r with
      | ok x w1 =>
        cases x <;> simp only [Oper.upon] at hw' ⊢
        case value v => exact (only _ _ _ hw').2
        case skip => exact (only _ _ _ hw').2
        case defer d => exact (only _ _ _ hw').2
        case enter f args =>
          refine hw'.mono fun e w2 h2 => ?_
          cases e with
          | returned v => exact (only _ _ _ h2).2
          | panicked c => exact absurd (only _ _ _ h2).1 (by simp)
          | outgrown => obtain ⟨_, _, hf⟩ := h2; exact absurd (only _ _ _ hf).1 (by simp)
        case row r ar => exact hw'.mono fun v w2 h2 => (only _ _ _ h2).2
      | halt x w1 => cases x <;> simp only [Oper.upon] at hw' ⊢ <;> first | exact absurd (only _ _ _ hw').1 (by simp) | exact hw'.elim | (obtain ⟨_, _, hf⟩ := hw'; exact absurd (only _ _ _ hf).1 (by simp))
    · exact absurd (only _ _ _ hx).1 (by simp)
  · rw [if_neg hwant] at hw' ⊢
    exact (only _ _ _ hw').2

theorem stepN {c0 k : Nat} {out : List Fact} {O' : List AObj} {isP : Nat → Bool} {p : Nat → Nat} (H : Plan P n m G ops T0 c0 k out O' isP p) {listed : Array Bool} (inv : HeadInv .any ops k listed)
    {i : Nat} (hi : i ∈ Region.ready .any ops listed) (hik : i < k) {a w T q} (hg : GoodN n m G T0 c0 out O' isP listed a w T q) {K : Act → World → Prop}
    (hK : ∀ a' w' T' q', GoodN n m G T0 c0 out O' isP (listed.setIfInBounds i true) a' w' T' q' → K a' w') {Q : Exit → Act → World → Prop} : wpOp P ops Q i K a w := by
  obtain ⟨hun, o, ho, hall⟩ := mem_ready.1 hi
  have hunf : listed.getD i false = false := getD_both hun
  have hil : i < out.length := by rw [H.len]; exact hik
  obtain ⟨⟨d, V, c⟩, hout⟩ : ∃ x, out[i]? = some x := ⟨out[i], by simp [hil]⟩
  have hdep : ∀ e ∈ o.after.toList, Region.binds .any e = true → ∀ x, (out.take i)[e.on]? = some x → out[e.on]? = some x ∧ listed.getD e.on false = true := by
    intro e he hb x hx
    rw [List.getElem?_take] at hx
    split at hx
    · exact ⟨hx, hall e (by simpa using he) hb⟩
    · simp at hx
  have hF : ∀ t U, (t, U) ∈ ndeps (out.take i) o → look T t = U := by
    intro t U hm
    simp only [ndeps, List.mem_filterMap] at hm
    obtain ⟨e, he, hx⟩ := hm
    split at hx
    · rename_i hb
      simp only [Option.map_eq_some_iff, Prod.mk.injEq] at hx
      obtain ⟨⟨d', V', c'⟩, hx1, rfl, rfl⟩ := hx
      obtain ⟨h1, h2⟩ := hdep e he hb _ hx1
      exact hg.facts _ _ _ _ h1 h2
    · simp at hx
  have same : ∀ t, look (ndeps (out.take i) o ++ (T0 ++ T)) t = look T t := by
    intro t
    rw [look_append]
    split
    · rename_i h; exact (hF _ _ (has_look h)).symm
    · rw [look_append]
      split
      · rename_i h
        refine (hg.other t ?_).symm
        cases hc : has (out.map fun x => (x.1, x.2.1)) t with
        | false => rfl
        | true =>
          have hm := has_look hc
          simp only [List.mem_map, Prod.mk.injEq] at hm
          obtain ⟨x, hx, hx1, _⟩ := hm
          have := H.fresh x hx
          rw [hx1] at this; rw [this] at h; cases h
      · rfl
  have hsle : sure c0 (out.take i) o ≤ q := foldl_sure_le _ q _ (fun e he hb x hx => by
    obtain ⟨h1, h2⟩ := hdep e he hb x hx
    obtain ⟨d', V', c'⟩ := x
    exact hg.le _ _ _ _ h1 h2) c0 hg.lo
  have hsge : c0 ≤ sure c0 (out.take i) o := foldl_sure_ge _ _ c0
  have facts' : ∀ (j d' : Nat) (V' : AV) (c' : Nat), out[j]? = some (d', V', c') → (listed.setIfInBounds i true).getD j false = true → look ((d, V) :: (ndeps (out.take i) o ++ (T0 ++ T))) d' = V' := by
    intro j d' V' c' hj hl
    by_cases hij : i = j
    · subst hij; rw [hout] at hj; cases hj; exact look_cons_same _ _ _
    · rw [getD_set_ne false hij] at hl
      have hne : d ≠ d' := by rintro rfl; exact hij (outN_inj H.nodup hout hj)
      rw [look_cons_other _ _ _ _ hne, same]
      exact hg.facts _ _ _ _ hj hl
  have other' : ∀ t, has (out.map fun x => (x.1, x.2.1)) t = false → look ((d, V) :: (ndeps (out.take i) o ++ (T0 ++ T))) t = look T0 t := by
    intro t ht
    have hne : d ≠ t := by
      rintro rfl
      have : has (out.map fun x => (x.1, x.2.1)) d = true := has_mem (V := V) (List.mem_map.2 ⟨_, List.mem_of_getElem? hout, rfl⟩)
      rw [ht] at this; cases this
    rw [look_cons_other _ _ _ _ hne, same]; exact hg.other t ht
  have le' : ∀ q', q ≤ q' → c ≤ q' → ∀ (j d' : Nat) (V' : AV) (c' : Nat), out[j]? = some (d', V', c') → (listed.setIfInBounds i true).getD j false = true → c' ≤ q' := by
    intro q' h1 h2 j d' V' c' hj hl
    by_cases hij : i = j
    · subst hij; rw [hout] at hj; cases hj; exact h2
    · rw [getD_set_ne false hij] at hl; exact Nat.le_trans (hg.le _ _ _ _ hj hl) h1
  have hself : (listed.setIfInBounds i true).getD i false = true := by
    have hlt := (Array.getElem?_eq_some_iff.1 ho).1
    have : i < listed.size := by rw [inv.size]; exact hlt
    simp [this]
  cases hp : isP i with
  | false =>
    obtain ⟨hd, hs, hj⟩ := H.pure i o d V c hik hp ho hout
    have hcq : c ≤ q := by omega
    have e : O'.take q = O'.take c ++ (O'.take q).drop c := by
      rw [← List.take_append_drop c (O'.take q), List.take_take, Nat.min_eq_left hcq, List.drop_append_of_le_length (by simp; have := hg.hi; omega)]
      simp
    have hr : Rel n m G ⟨ndeps (out.take i) o ++ (T0 ++ T), O'.take c ++ (O'.take q).drop c⟩ a w := by rw [← e]; exact hg.rel.relook same
    refine wpOp_only ho (hj T _) hr fun a' w' hr' => hK a' w' _ q ⟨by rw [e]; exact hr', facts', other', hg.lo, hg.hi, le' q (Nat.le_refl _) hcq, ?_, ?_⟩
    · rcases hg.top with h | ⟨r, d', V', h1, h2, h3⟩
      · exact .inl h
      · exact .inr ⟨r, d', V', h1, h2, getD_set_true h3⟩
    · intro i' j' hlt h1 h2 h3
      have hne : i ≠ j' := by rintro rfl; rw [hp] at h2; cases h2
      rw [getD_set_ne false hne] at h3
      exact getD_set_true (hg.down _ _ hlt h1 h2 h3)
  | true =>
    obtain ⟨hd, hs, hpc, hcO, hj⟩ := H.prod i o d V c hik hp ho hout
    have hq : q = p i := by
      have h1 : p i ≤ q := by omega
      rcases hg.top with h | ⟨r, d', V', h2, h3, h4⟩
      · omega
      · have hrlt : r < k := by rw [← H.len]; exact (List.getElem?_eq_some_iff.1 h2).1
        have hri : r < i := by
          rcases Nat.lt_trichotomy r i with h | h | h
          · exact h
          · subst h; rw [hunf] at h4; cases h4
          · have := hg.down _ _ h hp h3 h4; rw [hunf] at this; cases this
        have := H.mono r i d' V' q hri hik h3 hp h2
        omega
    subst hq
    refine wpOp_only ho (hj T) (hg.rel.relook same) fun a' w' hr' => hK a' w' _ c ⟨hr', facts', other', by omega, hcO, le' c (by omega) (Nat.le_refl _), .inr ⟨i, d, V, hout, hp, hself⟩, ?_⟩
    intro i' j' hlt h1 h2 h3
    by_cases hij : i = j'
    · subst hij
      have hi'k : i' < k := by omega
      obtain ⟨⟨d1, V1, c1⟩, ho1⟩ : ∃ x, out[i']? = some x := ⟨out[i']'(by rw [H.len]; exact hi'k), by simp⟩
      obtain ⟨o1, hoo1⟩ := H.all i' hi'k
      obtain ⟨_, hs1, hpc1, _, _⟩ := H.prod i' o1 d1 V1 c1 hi'k h1 hoo1 ho1
      have hm := H.mono i' i d1 V1 c1 hlt hik h1 hp ho1
      have hb := foldl_sure_ge (out.take i') o1.after.toList c0
      have hb' : c0 ≤ p i' := by rw [← hs1]; exact hb
      rcases hg.top with h | ⟨r, d', V', h4, h5, h6⟩
      · omega
      · rcases Nat.lt_trichotomy r i' with h | h | h
        · have := H.mono r i' d' V' _ h hi'k h5 h1 h4; omega
        · subst h; exact getD_set_true h6
        · exact getD_set_true (hg.down _ _ h h1 h5 h6)
    · rw [getD_set_ne false hij] at h3
      exact getD_set_true (hg.down _ _ hlt h1 h2 h3)
theorem anyN {c0 k g : Nat} {out : List Fact} {O' : List AObj} {isP : Nat → Bool} {p : Nat → Nat} (H : Plan P n m G ops T0 c0 k out O' isP p) (hks : k ≤ ops.size) (hs : k < ops.size → Region.sinkB .any ops k = true ∧ Region.chainB .any ops k = true)
    {Q : Exit → Act → World → Prop}
    (hT : ∀ listed a w, HeadInv .any ops k listed → (∀ i, i < k → listed.getD i false = true) → (∃ T q, GoodN n m G T0 c0 out O' isP listed a w T q) → wpAny P .any ops Q g listed a w) :
    ∀ (f : Nat) (listed : Array Bool) (a : Act) (w : World), HeadInv .any ops k listed → ((List.range k).filter fun i => !listed.getD i false).length = f → (∃ T q, GoodN n m G T0 c0 out O' isP listed a w T q) →
      wpAny P .any ops Q (f + g) listed a w := by
  intro f
  induction f with
  | zero =>
    intro listed a w inv hc hg
    rw [Nat.zero_add]
    refine hT listed a w inv (fun i hi => ?_) hg
    have h0 := List.eq_nil_of_length_eq_zero hc
    cases hl : listed.getD i false with
    | true => rfl
    | false =>
      have : i ∈ (List.range k).filter fun i => !listed.getD i false := by simp [List.mem_filter, hi]; simpa using hl
      rw [h0] at this; cases this
  | succ f ih =>
    intro listed a w inv hc hg
    have hgetD : ∀ i, i < k → listed.getD i false = false → listed.getD i true = false := fun i hi h => getD_in (by rw [inv.size]; omega) h
    -- the least that is not listed is ready
    have hex : ∃ i, i < k ∧ listed.getD i false = false := by
      cases hl : (List.range k).filter fun i => !listed.getD i false with
      | nil => rw [hl] at hc; simp at hc
      | cons i r =>
        have : i ∈ (List.range k).filter fun i => !listed.getD i false := by rw [hl]; simp
        rw [List.mem_filter, List.mem_range] at this
        exact ⟨i, this.1, by simpa using this.2⟩
    obtain ⟨i0, hi0, hl0⟩ := hex
    have least : ∀ d i, i = d → i < k → listed.getD i false = false → ∃ j, j < k ∧ j ∈ Region.ready .any ops listed := by
      intro d
      induction d using Nat.strongRecOn with
      | _ d ihd =>
        rintro i rfl hi hl
        by_cases hh : ∃ j, j < i ∧ listed.getD j false = false
        · obtain ⟨j, hj, hjl⟩ := hh
          exact ihd j hj j rfl (by omega) hjl
        · have hlt : i < ops.size := by omega
          refine ⟨i, hi, mem_ready.2 ⟨hgetD i hi hl, ops[i], by simp [hlt], fun e he hb => ?_⟩⟩
          have hlt' := H.back i hi _ (by simp [hlt]) e he hb
          cases hx : listed.getD e.on false with
          | true => rfl
          | false => exact (hh ⟨_, hlt', hx⟩).elim
    obtain ⟨j0, hj0, hr0⟩ := least i0 i0 rfl hi0 hl0
    rw [show f + 1 + g = (f + g) + 1 by omega]
    refine ⟨fun h => (by rw [h] at hr0; cases hr0), fun i hi => ?_⟩
    have hik : i < k := by
      rcases Nat.lt_or_ge i k with h | h
      · exact h
      · by_cases hk : k < ops.size
        · exact absurd hi (tail_waits (hs hk).1 (hs hk).2 hk inv _ i0 rfl hi0 (hgetD i0 hi0 hl0) i h)
        · obtain ⟨_, o, ho, _⟩ := mem_ready.1 hi
          have := (Array.getElem?_eq_some_iff.1 ho).1
          omega
    have hiu : listed.getD i false = false := getD_both (mem_ready.1 hi).1
    obtain ⟨T, q, hg⟩ := hg
    refine stepN H inv hi hik hg fun a' w' T' q' hg' => ih _ _ _ (inv.set hi hik) ?_ ⟨T', q', hg'⟩
    have key : ∀ (L : List Nat), L.Nodup → i ∈ L → (L.filter fun j => !(listed.setIfInBounds i true).getD j false).length + 1 = (L.filter fun j => !listed.getD j false).length := by
      intro L
      have hself : (listed.setIfInBounds i true).getD i false = true := by
        have : i < listed.size := by rw [inv.size]; omega
        simp [this]
      induction L with
      | nil => intro _ h; cases h
      | cons x L ihL =>
        intro hnd hm
        rw [List.nodup_cons] at hnd
        by_cases hx : x = i
        · subst hx
          have hsame : (L.filter fun j => !(listed.setIfInBounds x true).getD j false) = L.filter fun j => !listed.getD j false := by
            refine List.filter_congr fun j hj => ?_
            rw [getD_set_ne false (by rintro rfl; exact hnd.1 hj)]
          rw [List.filter_cons, List.filter_cons, hsame, hself, hiu]; simp
        · have hm' : i ∈ L := by
            rcases List.mem_cons.1 hm with h | h
            · exact (hx h.symm).elim
            · exact h
          have := ihL hnd.2 hm'
          rw [List.filter_cons, List.filter_cons, getD_set_ne false (Ne.symm hx)]
          split <;> (try simp only [List.length_cons]) <;> omega
    have := key (List.range k) List.nodup_range (List.mem_range.2 hik)
    omega


/-- What 'HeadN' says of the operation at place j: 'kd' is 'none' for a reading one, 'some p' for one that makes objects behind p of them. -/
def Said (P : Program) (n m : Nat) (G : Ctx) (ops : Array Oper) (T0 : List (Nat × AV)) (c0 : Nat) (fs : List Fact) (O' : List AObj) (o : Oper) (kd : Option Nat) (d : Nat) (V : AV) (c : Nat) : Prop :=
  o.dst = some d ∧ match kd with
  | none => sure c0 fs o = c ∧ ∀ Tv Ov, WpL P n m G false ops [o] ⟨ndeps fs o ++ (T0 ++ Tv), O'.take c ++ Ov⟩ (Only ⟨(d, V) :: (ndeps fs o ++ (T0 ++ Tv)), O'.take c ++ Ov⟩)
  | some p => sure c0 fs o = p ∧ p < c ∧ c ≤ O'.length ∧ ∀ Tv, WpL P n m G false ops [o] ⟨ndeps fs o ++ (T0 ++ Tv), O'.take p⟩ (Only ⟨(d, V) :: (ndeps fs o ++ (T0 ++ Tv)), O'.take c⟩)

theorem HeadN.said {c0 O fs l O' out} (h : HeadN P n m G ops T0 c0 O fs l O' out) : c0 ≤ O.length → (∀ x ∈ fs, x.2.2 ≤ O.length) →
    O <+: O' ∧ ∃ (r : List Fact) (ks : List (Option Nat)), out = fs ++ r ∧ r.length = l.length ∧ ks.length = l.length ∧
      (∀ j o, l[j]? = some o → ∃ d V c kd, r[j]? = some (d, V, c) ∧ ks[j]? = some kd ∧ Said P n m G ops T0 c0 (out.take (fs.length + j)) O' o kd d V c) ∧
      (∀ (j : Nat) (p : Nat), ks[j]? = some (some p) → O.length ≤ p) ∧
      (∀ (i j p q d : Nat) (V : AV) (c : Nat), i < j → ks[i]? = some (some p) → ks[j]? = some (some q) → r[i]? = some (d, V, c) → c ≤ q) ∧
      (O' = O ∨ ∃ (j p d : Nat) (V : AV), ks[j]? = some (some p) ∧ r[j]? = some (d, V, O'.length)) := by
  induction h with
  | nil => intro _ _; exact ⟨List.prefix_refl _, [], [], by simp, rfl, rfl, by simp, by simp, by simp, .inl rfl⟩
  | @pure O fs o l O' out d V F c Oc hd hF hc hO h r ih =>
    intro h0 hfs
    have hcO : c ≤ O.length := by rw [← hc]; exact foldl_sure_le _ _ _ (fun e _ _ x hx => hfs x (List.mem_of_getElem? hx)) _ h0
    obtain ⟨hpre, rr, ks, e1, e2, e3, e4, e5, e6, e7⟩ := ih h0 (fun x hx => by
      rcases List.mem_append.1 hx with hx | hx
      · exact hfs x hx
      · have : x = (d, V, c) := by simpa using hx
        subst this; exact hcO)
    have htk : out.take (fs.length + 0) = fs := by rw [e1, Nat.add_zero, List.append_assoc, List.take_left']; rfl
    refine ⟨hpre, (d, V, c) :: rr, none :: ks, by rw [e1]; simp, by simp [e2], by simp [e3], fun j o' hj => ?_, fun j p hj => ?_, fun i j p q d' V' c' hij hi hj hr => ?_, ?_⟩
    · cases j with
      | zero =>
        simp only [List.getElem?_cons_zero, Option.some.injEq] at hj; subst hj
        refine ⟨d, V, c, none, by simp, by simp, hd, ?_⟩
        rw [htk]
        refine ⟨hc, ?_⟩
        have : O'.take c = Oc := by rw [← hO]; obtain ⟨z, hz⟩ := hpre; rw [← hz, List.take_append_of_le_length hcO]
        rw [this, hF]; exact h
      | succ j =>
        obtain ⟨d', V', c', kd, q1, q2, q3⟩ := e4 j o' (by simpa using hj)
        refine ⟨d', V', c', kd, by simpa using q1, by simpa using q2, ?_⟩
        rw [List.length_append, List.length_singleton, Nat.add_assoc, Nat.add_comm 1 j] at q3; exact q3
    · cases j with
      | zero => simp at hj
      | succ j => exact e5 j p (by simpa using hj)
    · cases i with
      | zero => simp at hi
      | succ i => cases j with
        | zero => omega
        | succ j => exact e6 i j p q d' V' c' (by omega) (by simpa using hi) (by simpa using hj) (by simpa using hr)
    · rcases e7 with h | ⟨j, p, d', V', h1, h2⟩
      · exact .inl h
      · exact .inr ⟨j + 1, p, d', V', by simpa using h1, by simpa using h2⟩
  | @prod O fs o l O' out d V F N hd hF hc hN h r ih =>
    intro h0 hfs
    have hNl : 0 < N.length := List.length_pos_iff.2 hN
    obtain ⟨hpre, rr, ks, e1, e2, e3, e4, e5, e6, e7⟩ := ih (by simp; omega) (fun x hx => by
      rcases List.mem_append.1 hx with hx | hx
      · have := hfs x hx; simp; omega
      · have : x = (d, V, O.length + N.length) := by simpa using hx
        subst this; simp)
    have htk : out.take (fs.length + 0) = fs := by rw [e1, Nat.add_zero, List.append_assoc, List.take_left']; rfl
    refine ⟨List.IsPrefix.trans (List.prefix_append O N) hpre, (d, V, O.length + N.length) :: rr, some O.length :: ks, by rw [e1]; simp, by simp [e2], by simp [e3], fun j o' hj => ?_, fun j p hj => ?_, fun i j p q d' V' c' hij hi hj hr => ?_, ?_⟩
    · cases j with
      | zero =>
        simp only [List.getElem?_cons_zero, Option.some.injEq] at hj; subst hj
        refine ⟨d, V, O.length + N.length, some O.length, by simp, by simp, hd, ?_⟩
        rw [htk]
        obtain ⟨z, hz⟩ := hpre
        have t1 : O'.take O.length = O := by rw [← hz, List.append_assoc]; exact List.take_left' rfl
        have t2 : O'.take (O.length + N.length) = O ++ N := by rw [← hz]; exact List.take_left' (by simp)
        refine ⟨hc, by omega, by rw [← hz]; simp, ?_⟩
        rw [t1, t2, hF]; exact h
      | succ j =>
        obtain ⟨d', V', c', kd, q1, q2, q3⟩ := e4 j o' (by simpa using hj)
        refine ⟨d', V', c', kd, by simpa using q1, by simpa using q2, ?_⟩
        rw [List.length_append, List.length_singleton, Nat.add_assoc, Nat.add_comm 1 j] at q3; exact q3
    · cases j with
      | zero => simp at hj; omega
      | succ j => have := e5 j p (by simpa using hj); simp at this; omega
    · cases j with
      | zero => omega
      | succ j => cases i with
        | zero =>
          have h1 := e5 j q (by simpa using hj)
          simp at hr h1
          omega
        | succ i => exact e6 i j p q d' V' c' (by omega) (by simpa using hi) (by simpa using hj) (by simpa using hr)
    · rcases e7 with h | ⟨j, p, d', V', h1, h2⟩
      · exact .inr ⟨0, O.length, d, V, by simp, by rw [h]; simp⟩
      · exact .inr ⟨j + 1, p, d', V', by simpa using h1, by simpa using h2⟩

theorem WpA.regionN {l : List Oper} {id : Nat} {O O' : List AObj} {out : List Fact} {T1 : List (Nat × AV)} {Q : Exit → St → Prop} (k : Nat) (hm : P.follows .mixedOrders = true) (hB : mixB l.toArray k = true)
    (hJ : HeadN P n m G l.toArray T0 O.length O [] (l.take k) O' out) (hnd : nodupB (out.map (·.1)) = true) (hfr : (out.all fun p => !has T0 p.1) = true)
    (hT1 : (out.map fun x => (x.1, x.2.1)) ++ T0 = T1) (h : WpL P n m G false l.toArray (l.drop k) ⟨T1, O'⟩ Q) : WpA P n m G (.region id l.toArray true) ⟨T0, O⟩ Q := fun a w hr => by
  subst hT1
  simp only [mixB, Bool.and_eq_true, decide_eq_true_eq, Bool.or_eq_true] at hB
  obtain ⟨⟨⟨hks, hback⟩, hsc⟩, hseq⟩ := hB
  have hkl : k ≤ l.length := by simpa using hks
  have htl : (l.take k).length = k := by simp; omega
  obtain ⟨hpre, r, kds, hr1, hr2, hr3, hsaid, hlow, hmono, hlast⟩ := hJ.said (Nat.le_refl _) (by simp)
  have hro : out = r := by simpa using hr1
  subst hro
  have hlen : out.length = k := by rw [hr2, htl]
  have hat : ∀ i, i < k → ∃ o d V c kd, l.toArray[i]? = some o ∧ out[i]? = some (d, V, c) ∧ kds[i]? = some kd ∧ Said P n m G l.toArray T0 O.length (out.take i) O' o kd d V c := by
    intro i hi
    have hil : i < (l.take k).length := by omega
    obtain ⟨d, V, c, kd, q1, q2, q3⟩ := hsaid i (l.take k)[i] (List.getElem?_eq_getElem hil)
    refine ⟨(l.take k)[i], d, V, c, kd, ?_, q1, q2, by simpa using q3⟩
    have : l[i]? = some (l.take k)[i] := by
      have h1 : (l.take k)[i]? = some (l.take k)[i] := List.getElem?_eq_getElem hil
      rw [List.getElem?_take, if_pos hi] at h1; exact h1
    rw [List.getElem?_toArray]; exact this
  have H : Plan P n m G l.toArray T0 O.length k out O' (fun i => match kds[i]? with | some (some _) => true | _ => false) (fun i => match kds[i]? with | some (some p) => p | _ => 0) := by
    refine ⟨hlen, nodupB_spec hnd, fun x hx => by have := List.all_eq_true.1 hfr x hx; simpa using this, fun i hi o ho e he hb => ?_, fun i o d V c hi hP ho hout => ?_, fun i o d V c hi hP ho hout => ?_, fun i j d V c hij hjk hP hP' hout => ?_, hpre.length_le, fun i hi => ?_⟩
    · have h1 := List.all_eq_true.1 hback i (List.mem_range.2 hi)
      rw [ho] at h1
      have h2 := List.all_eq_true.1 h1 e (by simpa using he)
      simp only [Bool.or_eq_true, Bool.not_eq_true', decide_eq_true_eq] at h2
      rcases h2 with h2 | h2
      · rw [hb] at h2; cases h2
      · exact h2
    · obtain ⟨o1, d1, V1, c1, kd, q1, q2, q3, q4⟩ := hat i hi
      rw [ho] at q1; cases q1
      rw [hout] at q2; cases q2
      simp only [q3] at hP
      cases kd with
      | some p => simp at hP
      | none => exact ⟨q4.1, q4.2.1, q4.2.2⟩
    · obtain ⟨o1, d1, V1, c1, kd, q1, q2, q3, q4⟩ := hat i hi
      rw [ho] at q1; cases q1
      rw [hout] at q2; cases q2
      simp only [q3] at hP ⊢
      cases kd with
      | none => simp at hP
      | some p => exact ⟨q4.1, q4.2.1, q4.2.2.1, q4.2.2.2.1, q4.2.2.2.2⟩
    · obtain ⟨_, _, _, _, k1, _, _, q3, _⟩ := hat i (by omega)
      obtain ⟨_, _, _, _, k2, _, _, q3', _⟩ := hat j hjk
      simp only [q3] at hP
      simp only [q3'] at hP' ⊢
      cases k1 with
      | none => simp at hP
      | some p => cases k2 with
        | none => simp at hP'
        | some q => exact hmono i j p q d V c hij q3 q3' hout
    · obtain ⟨o, _, _, _, _, q1, _⟩ := hat i hi; exact ⟨o, q1⟩
  have inv0 : HeadInv .any l.toArray k (Array.replicate l.toArray.size false) :=
    ⟨by simp, fun j oj _ hl => (by rw [getD_replicate_false] at hl; cases hl), fun t _ ht => getD_in (by simpa using ht) (getD_replicate_false _ _)⟩
  refine wp_region_any hm ?_
  have fin := anyN (P := P) (n := n) (m := m) (G := G) (g := l.toArray.size - k) (Q := fun e a' w' => ∃ σ', Q e σ' ∧ Rel n m G σ' a' w') H hks (fun hk => hsc.resolve_left (by omega)) (fun listed a w inv hall hg => by
    obtain ⟨T, q, hg⟩ := hg
    have hq : q = O'.length := by
      rcases hlast with hl | ⟨j, p, d, V, h1, h2⟩
      · have := hg.lo; have := hg.hi; rw [hl] at this ⊢; omega
      · have hjk : j < k := by rw [← hlen]; exact (List.getElem?_eq_some_iff.1 h2).1
        have := hg.le j d V _ h2 (hall j hjk); have := hg.hi; omega
    have hrT := hg.rel
    rw [hq, List.take_length] at hrT
    have hlist : listed = (Array.range l.toArray.size).map fun i => decide (i < k) := by
      apply Array.ext
      · simp [inv.size]
      · intro i hi1 hi2
        have hi : i < l.toArray.size := by rw [← inv.size]; exact hi1
        by_cases hik : i < k
        · have := hall i hik
          simp [hi1] at this
          simp [this, hik]
        · have := inv.tail i (by omega) hi
          simp [hi1] at this
          simp [this, hik]
    have hdl : (l.drop k).length = l.toArray.size - k := by simp
    rw [← hdl]
    refine wpAny_of_seq (l.drop k) k listed a w (fun j => by simp [List.getElem?_drop]) (by rw [hdl, hlist]; exact hseq) ?_
    refine h a w (hrT.relook fun t => ?_)
    rw [look_append]
    split
    · rename_i hh
      obtain ⟨⟨d, V, c⟩, hx, hx2⟩ := List.mem_map.1 (has_look hh)
      obtain ⟨i, hi⟩ := List.getElem?_of_mem hx
      simp only [Prod.mk.injEq] at hx2
      obtain ⟨rfl, hx2⟩ := hx2
      rw [← hx2]
      exact (hg.facts i _ _ _ hi (hall i (by rw [← hlen]; exact (List.getElem?_eq_some_iff.1 hi).1))).symm
    · rename_i hh
      exact (hg.other t (by simpa using hh)).symm) k _ a w.drew inv0 (by
        have : ((List.range k).filter fun i => !(Array.replicate l.toArray.size false).getD i false) = List.range k := by
          rw [List.filter_eq_self]; intro i _; rw [getD_replicate_false]; rfl
        rw [this]; simp) ⟨T0, O.length, ⟨by obtain ⟨z, hz⟩ := hpre; rw [← hz, List.take_left' rfl]; exact hr.drew, fun i d V c _ hl => (by rw [getD_replicate_false] at hl; cases hl), fun _ _ => rfl, Nat.le_refl _, hpre.length_le, fun i d V c _ hl => (by rw [getD_replicate_false] at hl; cases hl), .inl rfl, fun i j _ _ _ hl => (by rw [getD_replicate_false] at hl; cases hl)⟩⟩
  rw [show k + (l.toArray.size - k) = l.toArray.size by omega] at fin
  exact fin
end
end Go.Abs

/- Ends of bodies, weaker states, calls and loops: forms whose premises are plain equalities; what a program of rules may leave over. No condition. -/
namespace Go.Abs
open Go
set_option linter.unusedVariables false
set_option linter.unusedSimpArgs false

abbrev I (n : Int) : AV := .sc (.int .i64 n)
abbrev B (b : Bool) : AV := .sc (.bool b)
abbrev Z (p : List UInt8) : AV := .sc (.string ⟨p.toArray⟩)
abbrev U (n : Int) : AV := .sc (.int .u8 n)
abbrev IL (xs : List Int) : AV := .imm 1 xs.length (ints xs)

theorem mul_in {a b : Int} (h : -2147483648 ≤ a ∧ a ≤ 2147483648) (h2 : -2147483648 ≤ b ∧ b ≤ 2147483648) : -9223372036854775808 ≤ a * b ∧ a * b ≤ 9223372036854775807 := by
  have h1 : a.natAbs ≤ 2147483648 := by omega
  have h3 : b.natAbs ≤ 2147483648 := by omega
  have h4 := Nat.mul_le_mul h1 h3
  rw [← Int.natAbs_mul] at h4
  omega

def cnt : Nat → Nat → Option Nat
  | 0, k => some k
  | n + 1, k => cnt n (k + 1)
theorem cnt_eq : ∀ {n k c : Nat}, cnt n k = some c → n + k = c
  | 0, k, c, h => by simp [cnt] at h; omega
  | n + 1, k, c, h => by rw [cnt] at h; have := cnt_eq h; omega

/-! What is left over of a run of rules is gathered in one proposition. -/
structure Hold (R : Prop) : Prop where
  out : R
theorem Hold.h {A B : Prop} (h : Hold (A ∧ B)) : A := h.out.1
structure IsT (R : Prop) : Prop where
  a : True
theorem IsT.t : IsT True := ⟨trivial⟩
theorem IsT.any {R : Prop} : IsT R := ⟨trivial⟩
theorem Hold.t {A B : Prop} (h : Hold (A ∧ B)) : Hold B := ⟨h.out.2⟩

section
variable {P : Program} {n m : Nat} {G : Ctx} {T : List (Nat × AV)} {O : List AObj} {Q : Exit → St → Prop} {ops : Array Oper} {l : List Oper} {d : Nat} {tt : TypeId} {pos : String} {after : Array Edge} {tab : List (Nat × Ty)}

/-! Nothing of a value names an object. -/
mutual
def AV.flat : AV → Bool
  | .own _ _ _ _ => false
  | .agg ds => AV.flatL ds
  | .tup ds => AV.flatL ds
  | V => V.still
def AV.flatL : List AV → Bool
  | [] => true
  | V :: Vs => V.flat && AV.flatL Vs
end
mutual
theorem AV.flat_sh (k : Nat) : ∀ (V : AV), V.flat = true → V.shOk = true ∧ V.sh k = V
  | .own _ _ _ _, h => by simp [AV.flat] at h
  | .agg ds, h => by have := AV.flatL_sh k ds (by simpa [AV.flat] using h); simp [AV.shOk, AV.sh, this]
  | .tup ds, h => by have := AV.flatL_sh k ds (by simpa [AV.flat] using h); simp [AV.shOk, AV.sh, this]
  | .any, h => by simp [AV.shOk, AV.sh, AV.still]
  | .sc _, h => by simp [AV.shOk, AV.sh, AV.still]
  | .nilS, h => by simp [AV.shOk, AV.sh, AV.still]
  | .imm _ _ _, h => by simp [AV.shOk, AV.sh, AV.still]
  | .fre _ _ _, h => by simp [AV.shOk, AV.sh, AV.still]
  | .ptr _ _ _, h => by simp [AV.flat, AV.still] at h
  | .iptr _ _, h => by simp [AV.shOk, AV.sh, AV.still]
  | .fn _ _, h => by simp [AV.flat] at h; simp [AV.shOk, AV.sh, h]
  | .ifc _ _, h => by simp [AV.flat] at h; simp [AV.shOk, AV.sh, h]
theorem AV.flatL_sh (k : Nat) : ∀ (Vs : List AV), AV.flatL Vs = true → AV.shOkL Vs = true ∧ AV.shL k Vs = Vs
  | [], _ => by simp [AV.shOkL, AV.shL]
  | V :: Vs, h => by
    simp only [AV.flatL, Bool.and_eq_true] at h
    have h1 := AV.flat_sh k V h.1
    have h2 := AV.flatL_sh k Vs h.2
    simp [AV.shOkL, AV.shL, h1, h2]
end
theorem nid_len : ∀ (O : List AObj) (k : Nat), nid O k = some (k + O.length)
  | [], k => by simp [nid]
  | _ :: O, k => by rw [nid, nid_len O (k + 1)]; simp; omega

/-! Objects' numbers raised, the value written out. -/
mutual
def AV.shF (k : Nat) : AV → Option AV
  | .own id ep off len => some (.own (id + k) ep off len)
  | .agg ds => match AV.shFL k ds with
    | some r => some (.agg r)
    | none => none
  | .tup ds => match AV.shFL k ds with
    | some r => some (.tup r)
    | none => none
  | .any => some .any
  | .sc v => some (.sc v)
  | .nilS => some .nilS
  | .imm s l ds => some (.imm s l ds)
  | .fre s l ds => some (.fre s l ds)
  | .ptr id ep off => some (.ptr id ep off)
  | .iptr ds off => some (.iptr ds off)
  | .fn f ds => some (.fn f ds)
  | .ifc t v => some (.ifc t v)
def AV.shFL (k : Nat) : List AV → Option (List AV)
  | [] => some []
  | V :: Vs => match AV.shF k V with
    | none => none
    | some W => match AV.shFL k Vs with
      | some r => some (W :: r)
      | none => none
end
mutual
theorem AV.shF_eq (k : Nat) : ∀ (V W : AV), AV.shF k V = some W → V.sh k = W
  | .own id ep off len, W, h => by rw [AV.shF] at h; rw [AV.sh]; exact Option.some.inj h
  | .agg ds, W, h => by
    rw [AV.shF] at h; rw [AV.sh]
    cases hr : AV.shFL k ds with
    | none => rw [hr] at h; cases h
    | some r => rw [hr] at h; rw [AV.shFL_eq k ds r hr]; exact Option.some.inj h
  | .tup ds, W, h => by
    rw [AV.shF] at h; rw [AV.sh]
    cases hr : AV.shFL k ds with
    | none => rw [hr] at h; cases h
    | some r => rw [hr] at h; rw [AV.shFL_eq k ds r hr]; exact Option.some.inj h
  | .any, W, h => by rw [AV.shF] at h; rw [AV.sh]; exact Option.some.inj h
  | .sc _, W, h => by rw [AV.shF] at h; rw [AV.sh]; exact Option.some.inj h
  | .nilS, W, h => by rw [AV.shF] at h; rw [AV.sh]; exact Option.some.inj h
  | .imm _ _ _, W, h => by rw [AV.shF] at h; rw [AV.sh]; exact Option.some.inj h
  | .fre _ _ _, W, h => by rw [AV.shF] at h; rw [AV.sh]; exact Option.some.inj h
  | .ptr _ _ _, W, h => by rw [AV.shF] at h; rw [AV.sh]; exact Option.some.inj h
  | .iptr _ _, W, h => by rw [AV.shF] at h; rw [AV.sh]; exact Option.some.inj h
  | .fn _ _, W, h => by rw [AV.shF] at h; rw [AV.sh]; exact Option.some.inj h
  | .ifc _ _, W, h => by rw [AV.shF] at h; rw [AV.sh]; exact Option.some.inj h
theorem AV.shFL_eq (k : Nat) : ∀ (Vs Ws : List AV), AV.shFL k Vs = some Ws → AV.shL k Vs = Ws
  | [], Ws, h => by rw [AV.shFL] at h; rw [AV.shL]; exact Option.some.inj h
  | V :: Vs, Ws, h => by
    rw [AV.shFL] at h; rw [AV.shL]
    cases hv : AV.shF k V with
    | none => rw [hv] at h; cases h
    | some W =>
      rw [hv] at h
      cases hr : AV.shFL k Vs with
      | none => simp only [hr] at h; cases h
      | some r => simp only [hr] at h; rw [AV.shF_eq k V W hv, AV.shFL_eq k Vs r hr]; exact Option.some.inj h
end
theorem AV.force_some (V : AV) : V.force = some V := by cases V <;> rfl
/-- A call under a contract; the result written out. -/
theorem WpL.callF {f : FuncId} {xs : List Operand} {ats : Array TypeId} {As : List AV} {N : List AObj} {r r' : AV} {id : Nat} (hc : FnC P f As N r) (hs : Snap O (xs.map (av T)) As) (hloc : Loc [r]) (hN : Out N)
    (hid : cnt O.length 0 = some id) (hok : r.shOk = true) (hre : r.shF id = some r') (hn : d < n) (h : WpL P n m G false ops l ⟨(d, r') :: T, O ++ N⟩ Q) :
    WpL P n m G false ops ({ dst := some d, op := .call { callee := .value (.func f), args := xs.toArray, argTypes := ats }, type := tt, pos := pos, after := after, guard := none } :: l) ⟨T, O⟩ Q := by
  have e : id = O.length := by have := cnt_eq hid; omega
  subst e
  exact WpL.call hc hs hloc hN (id := O.length) (by rw [nid_len, Nat.zero_add]) hok (by rw [AV.shF_eq _ _ _ hre]; exact AV.force_some _) hn h

/-- A call whose contract makes no objects. -/
theorem WpL.call0 {f : FuncId} {xs : List Operand} {ats : Array TypeId} {As : List AV} {r r' : AV} (hc : FnC P f As [] r) (hs : Snap O (xs.map (av T)) As) (hloc : Loc [r])
    (hok : r.flat = true) (hre : r.force = some r') (hn : d < n) (h : WpL P n m G false ops l ⟨(d, r') :: T, O⟩ Q) :
    WpL P n m G false ops ({ dst := some d, op := .call { callee := .value (.func f), args := xs.toArray, argTypes := ats }, type := tt, pos := pos, after := after, guard := none } :: l) ⟨T, O⟩ Q := by
  have hsh := AV.flat_sh O.length r hok
  refine WpL.call hc hs hloc .nil (id := O.length) (by rw [nid_len]; simp) hsh.1 (by rw [hsh.2]; exact hre) hn ?_
  rw [List.append_nil]; exact h

/-! Places told by a natural number. -/
theorem WpL.idxI1 (hP : TabOk P tab) {t e b : Nat} {zs cs : List AV} {x y : Operand} {len i : Nat} {kk : IntKind} (ht : tlook tab t = some (.slice e 1 b zs)) (hx : av T x = .imm 1 len cs) (hy : av T y = .sc (.int kk (i : Int)))
    (hj : i < len) (hn : d < n) {md : Bool} (h : WpL P n m G md ops l ⟨(d, .iptr cs i) :: T, O⟩ Q) :
    WpL P n m G md ops ({ dst := some d, op := .indexAddr t x y, type := tt, pos := pos, after := after, guard := none } :: l) ⟨T, O⟩ Q :=
  WpL.idxI hP ht hx hy (by omega) hn (by simpa using h)
theorem WpL.idxO1 (hP : TabOk P tab) {t e b : Nat} {zs : List AV} {x y : Operand} {id ep len i : Nat} {ob : AObj} {kk : IntKind} (ht : tlook tab t = some (.slice e 1 b zs)) (hx : av T x = .own id ep 0 len)
    (ho : O[id]? = some ob) (he : ob.ep = ep) (hy : av T y = .sc (.int kk (i : Int))) (hj : i < len) (hn : d < n) {md : Bool} (h : WpL P n m G md ops l ⟨(d, .ptr id ep i) :: T, O⟩ Q) :
    WpL P n m G md ops ({ dst := some d, op := .indexAddr t x y, type := tt, pos := pos, after := after, guard := none } :: l) ⟨T, O⟩ Q :=
  WpL.idxO hP ht hx ho he hy (by omega) hn (by simpa using h)
theorem WpL.idxStr1 (hP : TabOk P tab) {t : Nat} {x y : Operand} {p : List UInt8} {kk : IntKind} {i : Nat} (ht : tlook tab t = some .string) (hx : av T x = .sc (.string ⟨p.toArray⟩)) (hy : av T y = .sc (.int kk (i : Int)))
    (hj : i < p.length) (hn : d < n) {md : Bool} (h : (p.getD i 0).toNat < 256 → WpL P n m G md ops l ⟨(d, .sc (.int .u8 ((p.getD i 0).toNat))) :: T, O⟩ Q) :
    WpL P n m G md ops ({ dst := some d, op := .index t x y, type := tt, pos := pos, after := after, guard := none } :: l) ⟨T, O⟩ Q :=
  WpL.idxStr hP ht hx hy (by omega) hn (by simpa using h (UInt8.toNat_lt _))
theorem WpL.idxStrB (hP : TabOk P tab) {t : Nat} {x y : Operand} {p : List UInt8} {kk : IntKind} {j : Int} (ht : tlook tab t = some .string) (hx : av T x = .sc (.string ⟨p.toArray⟩)) (hy : av T y = .sc (.int kk j))
    (hj : 0 ≤ j ∧ j < p.length) (hn : d < n) {md : Bool} (h : (p.getD j.toNat 0).toNat < 256 → WpL P n m G md ops l ⟨(d, .sc (.int .u8 ((p.getD j.toNat 0).toNat))) :: T, O⟩ Q) :
    WpL P n m G md ops ({ dst := some d, op := .index t x y, type := tt, pos := pos, after := after, guard := none } :: l) ⟨T, O⟩ Q :=
  WpL.idxStr hP ht hx hy hj hn (h (UInt8.toNat_lt _))

theorem WpL.subStrLo (hP : TabOk P tab) {t : Nat} {x y : Operand} {k : IntKind} {p : List UInt8} {i : Nat} (ht : tlook tab t = some .string) (hx : av T x = .sc (.string ⟨p.toArray⟩)) (hy : av T y = .sc (.int k (i : Int)))
    (hb : i ≤ p.length) (hn : d < n) {md : Bool} (h : WpL P n m G md ops l ⟨(d, Z (p.drop i)) :: T, O⟩ Q) :
    WpL P n m G md ops ({ dst := some d, op := .slice t x (some y) none none, type := tt, pos := pos, after := after, guard := none } :: l) ⟨T, O⟩ Q :=
  WpL.subStr hP ht hx (.inr ⟨_, _, rfl, hy⟩) (.inl ⟨rfl, rfl⟩) (by omega) hn (by
    have : (p.drop (i : Int).toNat).take ((p.length : Int).toNat - (i : Int).toNat) = p.drop i := by simp; rw [List.take_of_length_le (by simp)]
    rw [this]; exact h)
theorem WpL.subStrHi (hP : TabOk P tab) {t : Nat} {x y : Operand} {k : IntKind} {p : List UInt8} {i : Nat} (ht : tlook tab t = some .string) (hx : av T x = .sc (.string ⟨p.toArray⟩)) (hy : av T y = .sc (.int k (i : Int)))
    (hb : i ≤ p.length) (hn : d < n) {md : Bool} (h : WpL P n m G md ops l ⟨(d, Z (p.take i)) :: T, O⟩ Q) :
    WpL P n m G md ops ({ dst := some d, op := .slice t x none (some y) none, type := tt, pos := pos, after := after, guard := none } :: l) ⟨T, O⟩ Q :=
  WpL.subStr hP ht hx (.inl ⟨rfl, rfl⟩) (.inr ⟨_, _, rfl, hy⟩) (by omega) hn (by simpa using h)
theorem WpL.subStrHi1 (hP : TabOk P tab) {t : Nat} {x y : Operand} {k : IntKind} {p : List UInt8} {i : Nat} (ht : tlook tab t = some .string) (hx : av T x = .sc (.string ⟨p.toArray⟩)) (hy : av T y = .sc (.int k ((i : Int) + 1)))
    (hb : i + 1 ≤ p.length) (hn : d < n) {md : Bool} (h : WpL P n m G md ops l ⟨(d, Z (p.take (i + 1))) :: T, O⟩ Q) :
    WpL P n m G md ops ({ dst := some d, op := .slice t x none (some y) none, type := tt, pos := pos, after := after, guard := none } :: l) ⟨T, O⟩ Q :=
  WpL.subStrHi hP (i := i + 1) ht hx (by rw [hy]; rfl) hb hn h
theorem WpL.storeS (hP : TabOk P tab) {t : Nat} {ty : Ty} {x y : Operand} {id ep off : Nat} {ob : AObj} {V : AV} {Vs cs : List AV} (ht : tlook tab t = some ty) (hx : av T x = .ptr id ep off)
    (ho : O[id]? = some ob) (he : ob.ep = ep) (hy : (av T y).force = some V) (hV : cellsV O V = some Vs) (hk : ty.cellsN = some Vs.length) (hone : Vs.all (oneB O) = true) (hle : off + Vs.length ≤ ob.cells.length)
    (hset : setL ob.cells off Vs = cs) (h : WpL P n m G false ops l ⟨T, O.set id ⟨cs, ob.ep, ob.size, ob.ty⟩⟩ Q) :
    WpL P n m G false ops ({ dst := none, op := .store t x y, type := tt, pos := pos, after := after, guard := none } :: l) ⟨T, O⟩ Q :=
  WpL.store hP ht hx ho he hy hV hk hone hle (by subst hset; exact h)

/-! Literals whose elements are plain. -/
def toInts : List AV → Option (List Int)
  | [] => some []
  | .sc (.int .i64 n) :: r => match toInts r with
    | some l => some (n :: l)
    | none => none
  | _ => none
theorem toInts_eq : ∀ {cs : List AV} {vs : List Int}, toInts cs = some vs → cs = ints vs
  | [], vs, h => by simp [toInts] at h; subst h; rfl
  | .sc (.int .i64 n) :: r, vs, h => by
    rw [toInts] at h
    cases hr : toInts r with
    | none => rw [hr] at h; cases h
    | some l => rw [hr] at h; cases h; rw [toInts_eq hr]; rfl
def toU8s : List AV → Option (List Int)
  | [] => some []
  | .sc (.int .u8 n) :: r => match toU8s r with
    | some l => some (n :: l)
    | none => none
  | _ => none
theorem toU8s_eq : ∀ {cs : List AV} {vs : List Int}, toU8s cs = some vs → cs = u8s vs
  | [], vs, h => by simp [toU8s] at h; subst h; rfl
  | .sc (.int .u8 n) :: r, vs, h => by
    rw [toU8s] at h
    cases hr : toU8s r with
    | none => rw [hr] at h; cases h
    | some l => rw [hr] at h; cases h; rw [toU8s_eq hr]; rfl
def toStrs : List AV → Option (List (List UInt8))
  | [] => some []
  | .sc (.string ⟨⟨p⟩⟩) :: r => match toStrs r with
    | some l => some (p :: l)
    | none => none
  | _ => none
theorem toStrs_eq : ∀ {cs : List AV} {vs : List (List UInt8)}, toStrs cs = some vs → cs = strs vs
  | [], vs, h => by simp [toStrs] at h; subst h; rfl
  | .sc (.string ⟨⟨p⟩⟩) :: r, vs, h => by
    rw [toStrs] at h
    cases hr : toStrs r with
    | none => rw [hr] at h; cases h
    | some l => rw [hr] at h; cases h; rw [toStrs_eq hr]; rfl
theorem WpL.litInts (hP : TabOk P tab) {t e k b len id : Nat} {zs cs : List AV} {vs : List Int} {parts : List (Nat × Operand)} (ht : tlook tab t = some (.slice e k b zs)) (hidx : parts.map (·.1) = List.range' 0 parts.length) (hlen : parts.length = len)
    (hlit : litC T O k (parts.map (·.2)) = some cs) (hc : toInts cs = some vs) (hsm : len * k ≤ 16777216) (hid : nid O 0 = some id) (hn : d < n)
    (h : WpL P n m G false ops l ⟨(d, .own id 0 0 len) :: T, O ++ [⟨ints vs, 0, k, some e⟩]⟩ Q) :
    WpL P n m G false ops ({ dst := some d, op := .buildSlice t len parts.toArray, type := tt, pos := pos, after := after, guard := none } :: l) ⟨T, O⟩ Q := by
  have := toInts_eq hc; subst this; exact WpL.litF hP ht hidx hlen hlit hsm hid hn h
theorem WpL.litU8s (hP : TabOk P tab) {t e k b len id : Nat} {zs cs : List AV} {vs : List Int} {parts : List (Nat × Operand)} (ht : tlook tab t = some (.slice e k b zs)) (hidx : parts.map (·.1) = List.range' 0 parts.length) (hlen : parts.length = len)
    (hlit : litC T O k (parts.map (·.2)) = some cs) (hc : toU8s cs = some vs) (hsm : len * k ≤ 16777216) (hid : nid O 0 = some id) (hn : d < n)
    (h : WpL P n m G false ops l ⟨(d, .own id 0 0 len) :: T, O ++ [⟨u8s vs, 0, k, some e⟩]⟩ Q) :
    WpL P n m G false ops ({ dst := some d, op := .buildSlice t len parts.toArray, type := tt, pos := pos, after := after, guard := none } :: l) ⟨T, O⟩ Q := by
  have := toU8s_eq hc; subst this; exact WpL.litF hP ht hidx hlen hlit hsm hid hn h
theorem WpL.litStrs (hP : TabOk P tab) {t e k b len id : Nat} {zs cs : List AV} {vs : List (List UInt8)} {parts : List (Nat × Operand)} (ht : tlook tab t = some (.slice e k b zs)) (hidx : parts.map (·.1) = List.range' 0 parts.length) (hlen : parts.length = len)
    (hlit : litC T O k (parts.map (·.2)) = some cs) (hc : toStrs cs = some vs) (hsm : len * k ≤ 16777216) (hid : nid O 0 = some id) (hn : d < n)
    (h : WpL P n m G false ops l ⟨(d, .own id 0 0 len) :: T, O ++ [⟨strs vs, 0, k, some e⟩]⟩ Q) :
    WpL P n m G false ops ({ dst := some d, op := .buildSlice t len parts.toArray, type := tt, pos := pos, after := after, guard := none } :: l) ⟨T, O⟩ Q := by
  have := toStrs_eq hc; subst this; exact WpL.litF hP ht hidx hlen hlit hsm hid hn h

/-! Handing out. -/
variable {ids : List (Option Nat)} {vs us : List AV}
theorem Ex.i {a b : Int} (h : a = b) (r : Ex O ids vs us) : Ex O ids (I a :: vs) (I b :: us) := .keep (by rw [h]) rfl rfl r
theorem Ex.b {a b : Bool} (h : a = b) (r : Ex O ids vs us) : Ex O ids (B a :: vs) (B b :: us) := .keep (by rw [h]) rfl rfl r
theorem Ex.z {a b : List UInt8} (h : a = b) (r : Ex O ids vs us) : Ex O ids (Z a :: vs) (Z b :: us) := .keep (by rw [h]) rfl rfl r
theorem Ex.z0 {b : List UInt8} (h : [] = b) (r : Ex O ids vs us) : Ex O ids (.sc (.string ⟨#[]⟩) :: vs) (Z b :: us) := .keep (by rw [← h]) rfl rfl r
theorem NEx.ints {id ep sz : Nat} {ty : Option TypeId} {xs ys : List Int} {N : List AObj} (ho : O[id]? = some ⟨Abs.ints xs, ep, sz, ty⟩) (h : xs = ys) (r : NEx O ids N) : NEx O (some id :: ids) (⟨Abs.ints ys, 0, sz, ty⟩ :: N) :=
  .obj ho (by rw [h]) (still_ints _) rfl rfl (.inr rfl) r
theorem NEx.u8s {id ep sz : Nat} {ty : Option TypeId} {xs ys : List Int} {N : List AObj} (ho : O[id]? = some ⟨Abs.u8s xs, ep, sz, ty⟩) (h : xs = ys) (r : NEx O ids N) : NEx O (some id :: ids) (⟨Abs.u8s ys, 0, sz, ty⟩ :: N) :=
  .obj ho (by rw [h]) (still_u8s _) rfl rfl (.inr rfl) r
theorem NEx.bools {id ep sz : Nat} {ty : Option TypeId} {xs ys : List Bool} {N : List AObj} (ho : O[id]? = some ⟨Abs.bools xs, ep, sz, ty⟩) (h : xs = ys) (r : NEx O ids N) : NEx O (some id :: ids) (⟨Abs.bools ys, 0, sz, ty⟩ :: N) :=
  .obj ho (by rw [h]) (still_bools _) rfl rfl (.inr rfl) r
theorem NEx.strs {id ep sz : Nat} {ty : Option TypeId} {xs ys : List (List UInt8)} {N : List AObj} (ho : O[id]? = some ⟨Abs.strs xs, ep, sz, ty⟩) (h : xs = ys) (r : NEx O ids N) : NEx O (some id :: ids) (⟨Abs.strs ys, 0, sz, ty⟩ :: N) :=
  .obj ho (by rw [h]) (still_strs _) rfl rfl (.inr rfl) r
/-- A new slice of integers that holds none: it was made, or is nil. -/
theorem NEx.noInts {sz : Nat} {ty : Option TypeId} {ys : List Int} {N : List AObj} (h : [] = ys) (r : NEx O ids N) : NEx O (none :: ids) (⟨Abs.ints ys, 0, sz, ty⟩ :: N) := .gone (by rw [← h]; rfl) rfl r
theorem NEx.noU8s {sz : Nat} {ty : Option TypeId} {ys : List Int} {N : List AObj} (h : [] = ys) (r : NEx O ids N) : NEx O (none :: ids) (⟨Abs.u8s ys, 0, sz, ty⟩ :: N) := .gone (by rw [← h]; rfl) rfl r
theorem NEx.noBools {sz : Nat} {ty : Option TypeId} {ys : List Bool} {N : List AObj} (h : [] = ys) (r : NEx O ids N) : NEx O (none :: ids) (⟨Abs.bools ys, 0, sz, ty⟩ :: N) := .gone (by rw [← h]; rfl) rfl r
theorem NEx.noStrs {sz : Nat} {ty : Option TypeId} {ys : List (List UInt8)} {N : List AObj} (h : [] = ys) (r : NEx O ids N) : NEx O (none :: ids) (⟨Abs.strs ys, 0, sz, ty⟩ :: N) := .gone (by rw [← h]; rfl) rfl r
/-- As Ex.own; a slice of no elements handed out as one of the length that the contract tells. -/
theorem Ex.nilO' {j len : Nat} (h : ids[j]? = some none) (hl : 0 = len) (r : Ex O ids vs us) : Ex O ids (.nilS :: vs) (.own j 0 0 len :: us) := by subst hl; exact .nilO h r

def endB : Exit → Bool
  | .ret => true
  | .normal => true
  | _ => false
theorem Fin.e {rs : Array ResultVar} {N : List AObj} {r : AV} {σ : St} {e : Exit} (he : endB e = true) (h : Res tab N r rs σ) : Fin tab rs N r e σ := by
  cases e <;> first | exact h | cases he

variable {r r1v r2v r3v : AV} {r1 r2 r3 : ResultVar} {e : Exit} {a b c : Option Nat} {oa ob oc : AObj}
theorem Fin.one0 (he : endB e = true) (hv : ResV tab T O r1 r1v) (hx : Ex O [] [r1v] [r]) : Fin tab #[r1] [] r e ⟨T, O⟩ := Fin.e he (.one hv .nil (by decide) hx)
theorem Fin.two0 (he : endB e = true) (hv : ResV tab T O r1 r1v) (hv2 : ResV tab T O r2 r2v) (hx : Ex O [] [.tup [r1v, r2v]] [r]) : Fin tab #[r1, r2] [] r e ⟨T, O⟩ := Fin.e he (.two hv hv2 .nil (by decide) hx)
theorem Fin.three0 (he : endB e = true) (hv : ResV tab T O r1 r1v) (hv2 : ResV tab T O r2 r2v) (hv3 : ResV tab T O r3 r3v) (hx : Ex O [] [.tup [r1v, r2v, r3v]] [r]) : Fin tab #[r1, r2, r3] [] r e ⟨T, O⟩ := Fin.e he (.three hv hv2 hv3 .nil (by decide) hx)
theorem nd1 : ([a].filterMap id).Nodup := by cases a <;> simp
theorem Fin.one1 (he : endB e = true) (hv : ResV tab T O r1 r1v) (hx : Ex O [a] [r1v] [r]) (hN : NEx O [a] [oa]) : Fin tab #[r1] [oa] r e ⟨T, O⟩ := Fin.e he (.one hv hN nd1 hx)
theorem Fin.two1 (he : endB e = true) (hv : ResV tab T O r1 r1v) (hv2 : ResV tab T O r2 r2v) (hx : Ex O [a] [.tup [r1v, r2v]] [r]) (hN : NEx O [a] [oa]) : Fin tab #[r1, r2] [oa] r e ⟨T, O⟩ := Fin.e he (.two hv hv2 hN nd1 hx)
theorem Fin.three1 (he : endB e = true) (hv : ResV tab T O r1 r1v) (hv2 : ResV tab T O r2 r2v) (hv3 : ResV tab T O r3 r3v) (hx : Ex O [a] [.tup [r1v, r2v, r3v]] [r]) (hN : NEx O [a] [oa]) : Fin tab #[r1, r2, r3] [oa] r e ⟨T, O⟩ := Fin.e he (.three hv hv2 hv3 hN nd1 hx)
theorem Fin.one2 (he : endB e = true) (hv : ResV tab T O r1 r1v) (hx : Ex O [a, b] [r1v] [r]) (hN : NEx O [a, b] [oa, ob]) (hd : nodupB ([a, b].filterMap id) = true) : Fin tab #[r1] [oa, ob] r e ⟨T, O⟩ := Fin.e he (.one hv hN (nodupB_spec hd) hx)
theorem Fin.two2 (he : endB e = true) (hv : ResV tab T O r1 r1v) (hv2 : ResV tab T O r2 r2v) (hx : Ex O [a, b] [.tup [r1v, r2v]] [r]) (hN : NEx O [a, b] [oa, ob]) (hd : nodupB ([a, b].filterMap id) = true) : Fin tab #[r1, r2] [oa, ob] r e ⟨T, O⟩ := Fin.e he (.two hv hv2 hN (nodupB_spec hd) hx)
theorem Fin.three2 (he : endB e = true) (hv : ResV tab T O r1 r1v) (hv2 : ResV tab T O r2 r2v) (hv3 : ResV tab T O r3 r3v) (hx : Ex O [a, b] [.tup [r1v, r2v, r3v]] [r]) (hN : NEx O [a, b] [oa, ob]) (hd : nodupB ([a, b].filterMap id) = true) : Fin tab #[r1, r2, r3] [oa, ob] r e ⟨T, O⟩ := Fin.e he (.three hv hv2 hv3 hN (nodupB_spec hd) hx)
theorem Fin.one3 (he : endB e = true) (hv : ResV tab T O r1 r1v) (hx : Ex O [a, b, c] [r1v] [r]) (hN : NEx O [a, b, c] [oa, ob, oc]) (hd : nodupB ([a, b, c].filterMap id) = true) : Fin tab #[r1] [oa, ob, oc] r e ⟨T, O⟩ := Fin.e he (.one hv hN (nodupB_spec hd) hx)
theorem Fin.two3 (he : endB e = true) (hv : ResV tab T O r1 r1v) (hv2 : ResV tab T O r2 r2v) (hx : Ex O [a, b, c] [.tup [r1v, r2v]] [r]) (hN : NEx O [a, b, c] [oa, ob, oc]) (hd : nodupB ([a, b, c].filterMap id) = true) : Fin tab #[r1, r2] [oa, ob, oc] r e ⟨T, O⟩ := Fin.e he (.two hv hv2 hN (nodupB_spec hd) hx)
theorem Fin.three3 (he : endB e = true) (hv : ResV tab T O r1 r1v) (hv2 : ResV tab T O r2 r2v) (hv3 : ResV tab T O r3 r3v) (hx : Ex O [a, b, c] [.tup [r1v, r2v, r3v]] [r]) (hN : NEx O [a, b, c] [oa, ob, oc]) (hd : nodupB ([a, b, c].filterMap id) = true) : Fin tab #[r1, r2, r3] [oa, ob, oc] r e ⟨T, O⟩ := Fin.e he (.three hv hv2 hv3 hN (nodupB_spec hd) hx)
end

/-! Weaker states. -/
section
variable {O O' : List AObj} {T T' : List (Nat × AV)} {t : Nat}
theorem ReT.same {V : AV} (h : look T t = V) (hs : V.still = true) (r : ReT O O' T T') : ReT O O' T ((t, V) :: T') := .cons (.keep h hs .nil) r
theorem ReT.i {a b : Int} (hl : look T t = I a) (h : a = b) (r : ReT O O' T T') : ReT O O' T ((t, I b) :: T') := .cons (.keep (by rw [hl, h]) rfl .nil) r
theorem ReT.u {a b : Int} (hl : look T t = U a) (h : a = b) (r : ReT O O' T T') : ReT O O' T ((t, U b) :: T') := .cons (.keep (by rw [hl, h]) rfl .nil) r
theorem ReT.b {a b : Bool} (hl : look T t = B a) (h : a = b) (r : ReT O O' T T') : ReT O O' T ((t, B b) :: T') := .cons (.keep (by rw [hl, h]) rfl .nil) r
theorem ReT.z {a b : List UInt8} (hl : look T t = Z a) (h : a = b) (r : ReT O O' T T') : ReT O O' T ((t, Z b) :: T') := .cons (.keep (by rw [hl, h]) rfl .nil) r
theorem ReT.z0 {b : List UInt8} (hl : look T t = .sc (.string ⟨#[]⟩)) (h : [] = b) (r : ReT O O' T T') : ReT O O' T ((t, Z b) :: T') := .cons (.keep (by rw [hl, ← h]) rfl .nil) r
theorem ReT.own {id ep ep' off len len' : Nat} {ob ob' : AObj} (hl : look T t = .own id ep off len) (h1 : O[id]? = some ob) (h2 : O'[id]? = some ob') (h3 : ob.ep = ep) (h4 : ob'.ep = ep') (h5 : ob'.size = ob.size) (h : len = len') (r : ReT O O' T T') :
    ReT O O' T ((t, .own id ep' off len') :: T') := .cons (by rw [hl]; exact .own h1 h2 h3 h4 h5 h .nil) r
theorem ReT.ptr {id ep ep' off : Nat} {ob ob' : AObj} (hl : look T t = .ptr id ep off) (h1 : O[id]? = some ob) (h2 : O'[id]? = some ob') (h3 : ob.ep = ep) (h4 : ob'.ep = ep') (r : ReT O O' T T') : ReT O O' T ((t, .ptr id ep' off) :: T') :=
  .cons (by rw [hl]; exact .ptr h1 h2 h3 h4 .nil) r
theorem ReT.gen {V : AV} (h : Re O O' [look T t] [V]) (r : ReT O O' T T') : ReT O O' T ((t, V) :: T') := .cons h r
variable {os os' : List AObj} {ep ep' sz sz' : Nat} {ty ty' : Option TypeId}
theorem ReO.ints {xs ys : List Int} (h : xs = ys) (ht : ty' = none ∨ ty' = ty) (r : ReO O O' os os') : ReO O O' (⟨Abs.ints xs, ep, sz, ty⟩ :: os) (⟨Abs.ints ys, ep', sz', ty'⟩ :: os') := .cons (Re.same (by rw [h]) (still_ints _)) ht r
theorem ReO.u8s {xs ys : List Int} (h : xs = ys) (ht : ty' = none ∨ ty' = ty) (r : ReO O O' os os') : ReO O O' (⟨Abs.u8s xs, ep, sz, ty⟩ :: os) (⟨Abs.u8s ys, ep', sz', ty'⟩ :: os') := .cons (Re.same (by rw [h]) (still_u8s _)) ht r
theorem ReO.bools {xs ys : List Bool} (h : xs = ys) (ht : ty' = none ∨ ty' = ty) (r : ReO O O' os os') : ReO O O' (⟨Abs.bools xs, ep, sz, ty⟩ :: os) (⟨Abs.bools ys, ep', sz', ty'⟩ :: os') := .cons (Re.same (by rw [h]) (still_bools _)) ht r
theorem ReO.strs {xs ys : List (List UInt8)} (h : xs = ys) (ht : ty' = none ∨ ty' = ty) (r : ReO O O' os os') : ReO O O' (⟨Abs.strs xs, ep, sz, ty⟩ :: os) (⟨Abs.strs ys, ep', sz', ty'⟩ :: os') := .cons (Re.same (by rw [h]) (still_strs _)) ht r
theorem Re.i {a b : Int} {vs us : List AV} (h : a = b) (r : Re O O' vs us) : Re O O' (I a :: vs) (I b :: us) := .keep (by rw [h]) rfl r
theorem Re.b {a b : Bool} {vs us : List AV} (h : a = b) (r : Re O O' vs us) : Re O O' (B a :: vs) (B b :: us) := .keep (by rw [h]) rfl r
theorem Re.z {a b : List UInt8} {vs us : List AV} (h : a = b) (r : Re O O' vs us) : Re O O' (Z a :: vs) (Z b :: us) := .keep (by rw [h]) rfl r
end

theorem Rnd.succ {m : Nat} {Inv : Nat → St} {C : Nat → Prop} {μ : Nat → Nat} {x : Nat} {Q : Exit → St → Prop} {σ : St} (h1 : C (x + 1)) (h2 : μ (x + 1) < μ x) (h3 : Weak m σ (Inv (x + 1))) : Rnd m Inv C μ x Q .normal σ := Rnd.go (x + 1) h1 h2 h3

theorem Snap.ownL {O : List AObj} {id ep len len' sz : Nat} {ob : AObj} {es vs us : List AV} (h1 : O[id]? = some ob) (h2 : ob.ep = ep) (h3 : ob.size = sz) (r1 : Snap O ob.cells es) (h4 : len * ob.size = ob.cells.length) (h5 : len = len') (r2 : Snap O vs us) : Snap O (.own id ep 0 len :: vs) (.imm sz len' es :: us) := .own h1 h2 h3 h4 h5 r1 r2
/-- The same list of objects, written out. -/
def flatO : List AObj → Option (List AObj)
  | [] => some []
  | ⟨c, e, z, t⟩ :: O => match flatO O with
    | some r => some (⟨c, e, z, t⟩ :: r)
    | none => none
theorem flatO_eq : ∀ {O O2 : List AObj}, flatO O = some O2 → O = O2
  | [], O2, h => by simp [flatO] at h; exact h.symm
  | ⟨c, e, z, t⟩ :: O, O2, h => by
    rw [flatO] at h
    cases hr : flatO O with
    | none => rw [hr] at h; cases h
    | some r => rw [hr] at h; have := flatO_eq hr; subst this; simpa using h
theorem WpA.regionF {P : Program} {n m : Nat} {G : Ctx} {T : List (Nat × AV)} {O O2 : List AObj} {Q : Exit → St → Prop} {id : Nat} {l : List Oper} (hO : flatO O = some O2) (h : WpL P n m G false l.toArray l ⟨T, O2⟩ Q) : WpA P n m G (.region id l.toArray false) ⟨T, O⟩ Q := by
  have := flatO_eq hO; subst this; exact WpA.region h
theorem WpA.flat {P : Program} {n m : Nat} {G : Ctx} {T : List (Nat × AV)} {O O2 : List AObj} {Q : Exit → St → Prop} {c : Code} (hO : flatO O = some O2) (h : WpA P n m G c ⟨T, O2⟩ Q) : WpA P n m G c ⟨T, O⟩ Q := by
  have := flatO_eq hO; subst this; exact h
/-! Lists whose spines are written out by reduction. -/
def catF {α : Type} : List α → List α → Option (List α)
  | [], B => some B
  | a :: A, B => match catF A B with
    | some r => some (a :: r)
    | none => none
theorem catF_eq {α : Type} : ∀ {A B C : List α}, catF A B = some C → A ++ B = C
  | [], B, C, h => by simp [catF] at h; simpa using h
  | a :: A, B, C, h => by
    rw [catF] at h
    cases hr : catF A B with
    | none => rw [hr] at h; cases h
    | some r => rw [hr] at h; have := catF_eq hr; subst this; simpa using h
def takeF {α : Type} : Nat → List α → Option (List α)
  | 0, _ => some []
  | _ + 1, [] => some []
  | n + 1, a :: A => match takeF n A with
    | some r => some (a :: r)
    | none => none
theorem takeF_eq {α : Type} : ∀ {n : Nat} {A C : List α}, takeF n A = some C → A.take n = C
  | 0, A, C, h => by simp [takeF] at h; simpa using h
  | n + 1, [], C, h => by simp [takeF] at h; simpa using h
  | n + 1, a :: A, C, h => by
    rw [takeF] at h
    cases hr : takeF n A with
    | none => rw [hr] at h; cases h
    | some r => rw [hr] at h; have := takeF_eq hr; subst this; simpa using h
def depsF (fs : List (Nat × AV)) : List Edge → Option (List (Nat × AV))
  | [] => some []
  | e :: es => match Region.binds .any e with
    | false => depsF fs es
    | true => match fs[e.on]? with
      | none => depsF fs es
      | some x => match depsF fs es with
        | some r => some (x :: r)
        | none => none
theorem depsF_eq {fs : List (Nat × AV)} : ∀ {es : List Edge} {F : List (Nat × AV)}, depsF fs es = some F → (es.filterMap fun e => if Region.binds .any e = true then fs[e.on]? else none) = F
  | [], F, h => by simp [depsF] at h; simpa using h
  | e :: es, F, h => by
    rw [depsF] at h
    rw [List.filterMap_cons]
    cases hb : Region.binds .any e with
    | false => rw [hb] at h; simpa using depsF_eq h
    | true =>
      rw [hb] at h
      cases hx : fs[e.on]? with
      | none => rw [hx] at h; simpa using depsF_eq h
      | some x =>
        rw [hx] at h
        cases hr : depsF fs es with
        | none => simp only [hr] at h; cases h
        | some r => simp only [hr] at h; have := depsF_eq hr; simp [this]; simpa using h
def factsF : List Fact → Option (List (Nat × AV))
  | [] => some []
  | x :: xs => match factsF xs with
    | some r => some ((x.1, x.2.1) :: r)
    | none => none
theorem factsF_eq : ∀ {xs : List Fact} {C : List (Nat × AV)}, factsF xs = some C → (xs.map fun x => (x.1, x.2.1)) = C
  | [], C, h => by simp [factsF] at h; simpa using h
  | x :: xs, C, h => by
    rw [factsF] at h
    cases hr : factsF xs with
    | none => rw [hr] at h; cases h
    | some r => rw [hr] at h; have := factsF_eq hr; subst this; simpa using h
def ndepsF (fs : List Fact) : List Edge → Option (List (Nat × AV))
  | [] => some []
  | e :: es => match Region.binds .any e with
    | false => ndepsF fs es
    | true => match fs[e.on]? with
      | none => ndepsF fs es
      | some x => match ndepsF fs es with
        | some r => some ((x.1, x.2.1) :: r)
        | none => none
theorem ndepsF_eq {fs : List Fact} : ∀ {es : List Edge} {F : List (Nat × AV)}, ndepsF fs es = some F → (es.filterMap fun e => if Region.binds .any e = true then (fs[e.on]?).map fun x => (x.1, x.2.1) else none) = F
  | [], F, h => by simp [ndepsF] at h; simpa using h
  | e :: es, F, h => by
    rw [ndepsF] at h
    rw [List.filterMap_cons]
    cases hb : Region.binds .any e with
    | false => rw [hb] at h; simpa using ndepsF_eq h
    | true =>
      rw [hb] at h
      cases hx : fs[e.on]? with
      | none => rw [hx] at h; simpa using ndepsF_eq h
      | some x =>
        rw [hx] at h
        cases hr : ndepsF fs es with
        | none => simp only [hr] at h; cases h
        | some r => simp only [hr] at h; have := ndepsF_eq hr; simp [this]; simpa using h
/-- A test that the kernel makes. -/
structure TrueB (b : Bool) : Prop where
  e : b = true

theorem HeadJ.consF {P : Program} {n m : Nat} {G : Ctx} {ops : Array Oper} {T0 : List (Nat × AV)} {O : List AObj} {fs fs2 out : List (Nat × AV)} {o : Oper} {l : List Oper} {d : Nat} {V : AV} {F : List (Nat × AV)} (hd : o.dst = some d) (hF : depsF fs o.after.toList = some F)
    (h : ∀ Tv, WpL P n m G false ops [o] ⟨F ++ (T0 ++ Tv), O⟩ (Only ⟨(d, V) :: (F ++ (T0 ++ Tv)), O⟩)) (hs : catF fs [(d, V)] = some fs2) (r : HeadJ P n m G ops T0 O fs2 l out) : HeadJ P n m G ops T0 O fs (o :: l) out := by
  have := catF_eq hs; subst this
  exact .cons hd (depsF_eq hF) h r
theorem HeadN.pureF {P : Program} {n m : Nat} {G : Ctx} {ops : Array Oper} {T0 : List (Nat × AV)} {c0 : Nat} {O fs fs2 o l O' out d V F c Oc} (hd : o.dst = some d) (hF : ndepsF fs o.after.toList = some F) (hc : cnt (sure c0 fs o) 0 = some c) (hO : takeF c O = some Oc)
    (h : ∀ Tv Ov, WpL P n m G false ops [o] ⟨F ++ (T0 ++ Tv), Oc ++ Ov⟩ (Only ⟨(d, V) :: (F ++ (T0 ++ Tv)), Oc ++ Ov⟩)) (hs : catF fs [(d, V, c)] = some fs2) (r : HeadN P n m G ops T0 c0 O fs2 l O' out) : HeadN P n m G ops T0 c0 O fs (o :: l) O' out := by
  have := catF_eq hs; subst this
  exact .pure hd (ndepsF_eq hF) (cnt_eq hc) (takeF_eq hO) h r
theorem HeadN.prodF {P : Program} {n m : Nat} {G : Ctx} {ops : Array Oper} {T0 : List (Nat × AV)} {c0 : Nat} {O fs fs2 o l O' out d V F N c O2} (hd : o.dst = some d) (hF : ndepsF fs o.after.toList = some F) (hc : Nat.beq (sure c0 fs o) O.length = true)
    (h : ∀ Tv, WpL P n m G false ops [o] ⟨F ++ (T0 ++ Tv), O⟩ (Only ⟨(d, V) :: (F ++ (T0 ++ Tv)), O ++ N⟩)) (hN : N ≠ []) (hl : cnt (O ++ N).length 0 = some c) (h2 : catF O N = some O2) (hs : catF fs [(d, V, c)] = some fs2) (r : HeadN P n m G ops T0 c0 O2 fs2 l O' out) : HeadN P n m G ops T0 c0 O fs (o :: l) O' out := by
  have := catF_eq h2; subst this
  have := cnt_eq hl
  rw [List.length_append] at this
  subst this
  have := catF_eq hs; subst this
  exact .prod hd (ndepsF_eq hF) (Nat.eq_of_beq_eq_true hc) hN h r
/-- No append. -/
def noApp (o : Oper) : Bool := match o.op with
  | .call c => match c.callee with
    | .builtin .append => false
    | _ => true
  | _ => true
/-- The first k operations bear no guard and call no function. -/
def bareM (ops : Array Oper) (k : Nat) : Bool := (List.range k).all fun i => match ops[i]? with
  | some o => o.guard.isNone && o.dst.isSome && noApp o && match o.op with
    | .call c => match c.callee with
      | .builtin _ => true
      | _ => false
    | .buildSlice .. => false
    | .makeSlice .. => false
    | .alloc .. => false
    | .box .. => false
    | _ => true
  | none => true
/-- The first k operations bear no guard. -/
def bare (ops : Array Oper) (k : Nat) : Bool := (List.range k).all fun i => match ops[i]? with | some o => o.guard.isNone | none => true
def bareN (ops : Array Oper) (k : Nat) : Bool := (List.range k).all fun i => match ops[i]? with | some o => o.guard.isNone && o.dst.isSome && noApp o | none => true
theorem WpA.regionMB {P : Program} {n m : Nat} {G : Ctx} {T0 : List (Nat × AV)} {O : List AObj} {l l1 l2 : List Oper} {id : Nat} {out T1 : List (Nat × AV)} {Q : Exit → St → Prop} (k : Nat) (hm : P.follows .mixedOrders = true) (hB : (mixB l.toArray k && bareM l.toArray k) = true)
    (hl : takeF k l = some l1) (hJ : HeadJ P n m G l.toArray T0 O [] l1 out) (hnd : TrueB (nodupB (out.map (·.1)))) (hfr : TrueB (out.all fun p => !has T0 p.1))
    (hT1 : catF out T0 = some T1) (h2 : l.drop k = l2) (h : WpL P n m G false l.toArray l2 ⟨T1, O⟩ Q) : WpA P n m G (.region id l.toArray true) ⟨T0, O⟩ Q := by
  have := takeF_eq hl; subst this; subst h2
  exact WpA.regionM k hm (by simp only [Bool.and_eq_true] at hB; exact hB.1) hJ hnd.e hfr.e (catF_eq hT1) h
theorem WpA.regionNB {P : Program} {n m : Nat} {G : Ctx} {T0 : List (Nat × AV)} {l l1 l2 : List Oper} {id : Nat} {O O' : List AObj} {out : List Fact} {oc T1 : List (Nat × AV)} {c0 : Nat} {Q : Exit → St → Prop} (k : Nat) (hm : P.follows .mixedOrders = true) (hB : (mixB l.toArray k && bareN l.toArray k) = true)
    (hl : takeF k l = some l1) (hc : cnt O.length 0 = some c0) (hJ : HeadN P n m G l.toArray T0 c0 O [] l1 O' out) (hnd : TrueB (nodupB (out.map (·.1)))) (hfr : TrueB (out.all fun p => !has T0 p.1))
    (ho : factsF out = some oc) (hT1 : catF oc T0 = some T1) (h2 : l.drop k = l2) (h : WpL P n m G false l.toArray l2 ⟨T1, O'⟩ Q) : WpA P n m G (.region id l.toArray true) ⟨T0, O⟩ Q := by
  have := takeF_eq hl; subst this; subst h2
  have := cnt_eq hc
  have : c0 = O.length := by omega
  subst this
  have := factsF_eq ho; subst this
  exact WpA.regionN k hm (by simp only [Bool.and_eq_true] at hB; exact hB.1) hJ hnd.e hfr.e (catF_eq hT1) h
end Go.Abs
namespace Go.Abs.K
open Go Go.Abs
theorem depN {fs : List Fact} {F : List (Nat × AV)} {o : Oper} (h : ndeps fs o = F) : ndeps fs o = F := h
theorem sureN {c0 c : Nat} {fs : List Fact} {o : Oper} (h : sure c0 fs o = c) : sure c0 fs o = c := h
theorem mapN {out : List Fact} {T T1 : List (Nat × AV)} (h : (out.map fun x => (x.1, x.2.1)) ++ T = T1) : (out.map fun x => (x.1, x.2.1)) ++ T = T1 := h
theorem loop {P : Program} {n m : Nat} {G : Ctx} {σ : St} {Q : Exit → St → Prop} {c : Code} (h : WpA P n m G (.loop c) σ Q) : WpA P n m G (.loop c) σ Q := h
theorem W {m : Nat} {σ σ' : St} (h : Weak m σ σ') : Weak m σ σ' := h
theorem F {tab : List (Nat × Ty)} {rs : Array ResultVar} {N : List AObj} {r : AV} {e : Exit} {σ : St} (h : Abs.Fin tab rs N r e σ) : Abs.Fin tab rs N r e σ := h
theorem E {O : List AObj} {ids : List (Option Nat)} {vs us : List AV} (h : Ex O ids vs us) : Ex O ids vs us := h
theorem V {tab : List (Nat × Ty)} {T : List (Nat × AV)} {O : List AObj} {r : ResultVar} {V : AV} (h : ResV tab T O r V) : ResV tab T O r V := h
theorem NE {O : List AObj} {ids : List (Option Nat)} {N : List AObj} (h : NEx O ids N) : NEx O ids N := h
theorem RT {O O' : List AObj} {T T' : List (Nat × AV)} (h : ReT O O' T T') : ReT O O' T T' := h
theorem RO {O O' os os' : List AObj} (h : ReO O O' os os') : ReO O O' os os' := h
theorem R {m : Nat} {β : Type} {Inv : β → St} {C : β → Prop} {μ : β → Nat} {x : β} {Q : Exit → St → Prop} {e : Exit} {σ : St} (h : Rnd m Inv C μ x Q e σ) : Rnd m Inv C μ x Q e σ := h
theorem eq {α : Sort _} {a b : α} (h : a = b) : a = b := h
theorem le {α : Type} [LE α] {a b : α} (h : a ≤ b) : a ≤ b := h
theorem lt {α : Type} [LT α] {a b : α} (h : a < b) : a < b := h
section
variable {P : Program} {n m : Nat} {G : Ctx} {σ : St} {Q : Exit → St → Prop} {md : Bool} {ops : Array Oper} {l : List Oper} {dd : Option Nat} {tt : TypeId} {pos : String} {after : Array Edge}
theorem blen {xs : Array Operand} {ats : Array TypeId} (h : WpL P n m G md ops ({ dst := dd, op := .call { callee := .builtin .len, args := xs, argTypes := ats }, type := tt, pos := pos, after := after, guard := none } :: l) σ Q) : WpL P n m G md ops ({ dst := dd, op := .call { callee := .builtin .len, args := xs, argTypes := ats }, type := tt, pos := pos, after := after, guard := none } :: l) σ Q := h
theorem bapp {xs : Array Operand} {ats : Array TypeId} (h : WpL P n m G md ops ({ dst := dd, op := .call { callee := .builtin .append, args := xs, argTypes := ats }, type := tt, pos := pos, after := after, guard := none } :: l) σ Q) : WpL P n m G md ops ({ dst := dd, op := .call { callee := .builtin .append, args := xs, argTypes := ats }, type := tt, pos := pos, after := after, guard := none } :: l) σ Q := h
end
end Go.Abs.K

/- Contracts of functions that write into what they are handed, and calls under them. No condition. -/
namespace Go.Abs
open Go
set_option linter.unusedVariables false
set_option linter.unusedSimpArgs false

/-- CALLED WITH SUCH ARGUMENTS, WHICH NAME THE OBJECTS 'M', IT RETURNS 'r'; the objects it was handed are then 'M'', new ones 'N'; nothing else turns. -/
def FnG (P : Program) (f : FuncId) (args : List AV) (M M' N : List AObj) (r : AV) : Prop :=
  Runs P f ∧ ∀ (w : World) (S : Nat → Prop) (ι : Nat → Spot) (F : Nat → List Nat) (vs : List Value), (∀ b, S b → b < w.heap.size) → ORel S w ι M F → (∀ id, id < M.length → ∀ b ∈ F id, ¬ S b ∧ b < w.heap.size) →
    LRel S w ι M args vs [] → Calls P f vs.toArray w fun e w' => ∃ v S' ι' F', e = .returned v ∧ (∀ b, S b → S' b) ∧ (∀ b, S' b → S b ∨ w.heap.size ≤ b) ∧ (∀ b, S' b → b < w'.heap.size) ∧ (∀ id, id < M.length → ι' id = ι id) ∧
      ORel S' w' ι' (M' ++ N) F' ∧ (∀ id, id < (M' ++ N).length → ∀ b ∈ F' id, ((∃ i, i < M.length ∧ b ∈ F i) ∨ w.heap.size ≤ b) ∧ ¬ S' b ∧ b < w'.heap.size) ∧ VRel S' w' ι' (M' ++ N) r v [] ∧
      Keeps w (fun b => ∃ i, i < M.length ∧ b ∈ F i) w'

def preB : List (Option Nat) → Nat → Nat → Bool
  | _, 0, _ => true
  | some i :: ids, m + 1, k => Nat.beq i k && preB ids m (k + 1)
  | _, _ + 1, _ => false
theorem preB_at : ∀ {ids : List (Option Nat)} {m k : Nat}, preB ids m k = true → ∀ j, j < m → ids[j]? = some (some (k + j))
  | _, 0, _, _, j, hj => by omega
  | some i :: ids, m + 1, k, h, j, hj => by
    simp only [preB, Bool.and_eq_true] at h
    have h1 := Nat.eq_of_beq_eq_true h.1
    subst h1
    cases j with
    | zero => simp
    | succ j => have := preB_at h.2 j (by omega); rw [List.getElem?_cons_succ, this]; congr 2; omega
  | [], _ + 1, _, h, _, _ => by simp [preB] at h
  | none :: _, _ + 1, _, h, _, _ => by simp [preB] at h

/-- The results of a state in which the first m objects were handed in. -/
inductive ResG (tab : List (Nat × Ty)) (m : Nat) (N : List AObj) (r : AV) : Array ResultVar → St → Prop
  | zero {T O ids} : NEx O ids N → (ids.filterMap id).Nodup → preB ids m 0 = true → Ex O ids [.tup []] [r] → ResG tab m N r #[] ⟨T, O⟩
  | one {r1 V1 T O ids} : ResV tab T O r1 V1 → NEx O ids N → (ids.filterMap id).Nodup → preB ids m 0 = true → Ex O ids [V1] [r] → ResG tab m N r #[r1] ⟨T, O⟩
  | two {r1 r2 V1 V2 T O ids} : ResV tab T O r1 V1 → ResV tab T O r2 V2 → NEx O ids N → (ids.filterMap id).Nodup → preB ids m 0 = true → Ex O ids [.tup [V1, V2]] [r] → ResG tab m N r #[r1, r2] ⟨T, O⟩

def FinG (tab : List (Nat × Ty)) (m : Nat) (rs : Array ResultVar) (N : List AObj) (r : AV) : Exit → St → Prop
  | .ret, σ => ResG tab m N r rs σ
  | .normal, σ => ResG tab m N r rs σ
  | _, _ => False

theorem run_results0 {P : Program} {fn : Func} {tmps : Array Value} {w : World} (h : fn.results = #[]) : (results fn tmps).run P w = .ok (.tuple #[]) w := by
  rw [results_eq, h]; simp

section
variable {P : Program} {n m : Nat} {G : Ctx} {T : List (Nat × AV)} {O : List AObj} {Q : Exit → St → Prop} {ops : Array Oper} {l : List Oper} {d : Nat} {tt : TypeId} {pos : String} {after : Array Edge} {tab : List (Nat × Ty)}

theorem ResG.out (hP : TabOk P tab) {rs : Array ResultVar} {N : List AObj} {r : AV} {σ : St} {a : Act} {w : World} {fn : Func} (hfr : fn.results = rs) (h : ResG tab m N r rs σ) (hr : Rel n m G σ a w) :
    ∃ v, (results fn a.tmps).run P w = .ok v w ∧ ∃ S' ι F, (∀ b, G.S0 b → S' b) ∧ (∀ b, S' b → G.S0 b ∨ G.w0.heap.size ≤ b) ∧ (∀ b, S' b → b < w.heap.size) ∧ (∀ id, id < m → ι id = G.ι0 id) ∧ ORel S' w ι N F ∧
      (∀ id, id < N.length → ∀ b ∈ F id, (G.M0 b ∨ G.w0.heap.size ≤ b) ∧ ¬ S' b ∧ b < w.heap.size) ∧ VRel S' w ι N r v [] ∧ Keeps G.w0 G.M0 w := by
  obtain ⟨S, ι, F, hr⟩ := hr
  have fin : ∀ {T O ids V v}, σ = ⟨T, O⟩ → NEx O ids N → (ids.filterMap id).Nodup → preB ids m 0 = true → Ex O ids [V] [r] → VRel S w ι O V v [] →
      ∃ S' ι F, (∀ b, G.S0 b → S' b) ∧ (∀ b, S' b → G.S0 b ∨ G.w0.heap.size ≤ b) ∧ (∀ b, S' b → b < w.heap.size) ∧ (∀ id, id < m → ι id = G.ι0 id) ∧ ORel S' w ι N F ∧
      (∀ id, id < N.length → ∀ b ∈ F id, (G.M0 b ∨ G.w0.heap.size ≤ b) ∧ ¬ S' b ∧ b < w.heap.size) ∧ VRel S' w ι N r v [] ∧ Keeps G.w0 G.M0 w := by
    rintro T O ids V v rfl hN hnd hpre hex hv
    have hids : ∀ (i j id : Nat), ids[i]? = some (some id) → ids[j]? = some (some id) → i = j := by
      clear hN hex hv hpre
      induction ids with
      | nil => intro i j id h; simp at h
      | cons x ids ih =>
        intro i j id hi hj
        cases x with
        | none =>
          cases i with
          | zero => simp at hi
          | succ i => cases j with
            | zero => simp at hj
            | succ j => rw [ih (by simpa using hnd) i j id (by simpa using hi) (by simpa using hj)]
        | some y =>
          have hnd' : y ∉ ids.filterMap _root_.id ∧ (ids.filterMap _root_.id).Nodup := by simpa using hnd
          have mem : ∀ k : Nat, ids[k]? = some (some id) → id ∈ ids.filterMap _root_.id := fun k hk => List.mem_filterMap.2 ⟨some id, List.mem_of_getElem? hk, rfl⟩
          cases i with
          | zero =>
            simp at hi; subst hi
            cases j with
            | zero => rfl
            | succ j => exact (hnd'.1 (mem j (by simpa using hj))).elim
          | succ i => cases j with
            | zero => simp at hj; subst hj; exact (hnd'.1 (mem i (by simpa using hi))).elim
            | succ j => rw [ih hnd'.2 i j id (by simpa using hi) (by simpa using hj)]
    have hcase : ∀ j : Nat, (∃ id, ids[j]? = some (some id) ∧ exSpot ι ids j = ι id ∧ exF F ids j = F id) ∨ ((∀ id, ids[j]? ≠ some (some id)) ∧ exSpot ι ids j = none ∧ exF F ids j = []) := by
      intro j
      unfold exSpot exF
      cases h : ids[j]? with
      | none => exact .inr ⟨by simp, rfl, rfl⟩
      | some o => cases o with
        | none => exact .inr ⟨by simp, rfl, rfl⟩
        | some id => exact .inl ⟨id, rfl, rfl, rfl⟩
    have hlt : ∀ (j id : Nat), j < N.length → ids[j]? = some (some id) → id < O.length := by
      intro j id hj hi
      obtain ⟨_, h1 | ⟨id2, ob2, h1, h2, _⟩⟩ := hN.at (List.getElem?_eq_getElem hj)
      · rw [hi] at h1; cases h1.1
      · rw [hi] at h1; cases h1; exact (List.getElem?_eq_some_iff.1 h2).1
    refine ⟨S, exSpot ι ids, exF F ids, hr.base.1, hr.base.2, hr.stable, fun j hj => ?_, ⟨fun j ob' hj => ?_, fun j hj => ?_, fun i j hi hj hij b hb => ?_⟩, fun j hj b hb => ?_, hex.rel hN hv, hr.keeps⟩
    · have h1 := preB_at hpre j hj
      rw [Nat.zero_add] at h1
      rcases hcase j with ⟨id, h, e1, _⟩ | ⟨h, _⟩
      · rw [h1] at h; cases h; rw [e1]; exact hr.spots j hj
      · exact (h _ h1).elim
    · obtain ⟨h0, h1 | ⟨id2, ob2, h1, h2, h3, h4, h5, h6⟩⟩ := hN.at hj
      · rcases hcase j with ⟨id, h, _⟩ | ⟨_, h, h'⟩
        · rw [h1.1] at h; cases h
        · rw [h, h']; exact ⟨h1.2, rfl⟩
      · rcases hcase j with ⟨id, h, e1, e2⟩ | ⟨h, h'⟩
        · rw [h1] at h; cases h
          rw [e1, e2]
          have ho := hr.objs.obj _ ob2 h2
          unfold ObjAt at ho ⊢
          cases hs : ι id2 with
          | none => rw [hs] at ho; rw [← h3]; exact ho
          | some p =>
            obtain ⟨b, k⟩ := p
            rw [hs] at ho
            obtain ⟨cur', t', fz', f2, q1, q2, q3, q4, q5, q6, q7⟩ := ho
            have q8 : LRel S w (exSpot ι ids) N ob'.cells (cur'.toList.take ob'.cells.length) f2 := by
              rw [h3] at q7
              have key : ∀ {cs : List AV} {xs f}, cs.all AV.still = true → LRel S w ι O cs xs f → LRel S w (exSpot ι ids) N cs xs f := by
                intro cs
                induction cs with
                | nil => intro xs f _ hl; cases hl; exact .nil
                | cons c cs ih =>
                  intro xs f hs hl
                  simp only [List.all_cons, Bool.and_eq_true] at hs
                  obtain ⟨v, vs', f1, f2, rfl, hv, hr, rfl⟩ := hl.uncons
                  exact LRel.cons (still_any hv hs.1 N (fun _ h => h) (fun _ _ => rfl) (fun _ _ => rfl)) (ih hs.2 hr)
              exact key h4 q7
            refine ⟨cur', t', fz', f2, q1, q2, q3, by rw [← h3]; exact q4, q5, fun e he => ?_, q8⟩
            rcases h6 with h6 | h6
            · rw [h6] at he; cases he
            · exact q6 e (by rw [← h6]; exact he)
        · exact (h _ h1).elim
    · rcases hcase j with ⟨id, h, _, e2⟩ | ⟨_, _, e2⟩
      · rw [e2]; exact hr.objs.nodup id (hlt j id hj h)
      · rw [e2]; simp
    · rcases hcase i with ⟨id1, h1, _, e1⟩ | ⟨_, _, e1⟩ <;> rcases hcase j with ⟨id2, h2, _, e2⟩ | ⟨_, _, e2⟩ <;> rw [e1] at hb <;> rw [e2]
      · exact hr.objs.apart id1 id2 (hlt i id1 hi h1) (hlt j id2 hj h2) (fun e => hij (hids i j id1 h1 (e ▸ h2))) b hb
      · simp
      · simp at hb
      · simp
    · rcases hcase j with ⟨id, h, _, e2⟩ | ⟨_, _, e2⟩
      · rw [e2] at hb
        exact hr.foot id (hlt j id hj h) b hb
      · rw [e2] at hb; simp at hb
  cases h with
  | zero hN hnd hpre hex => exact ⟨_, run_results0 hfr, fin rfl hN hnd hpre hex (by simpa using LRel.tup LRel.nil LRel.nil)⟩
  | one h1 hN hnd hpre hex =>
    obtain ⟨v, hv, hV⟩ := ResV.rel hP hr h1
    exact ⟨v, run_results1 hfr hv, fin rfl hN hnd hpre hex hV⟩
  | two h1 h2 hN hnd hpre hex =>
    obtain ⟨v1, hv1, hV1⟩ := ResV.rel hP hr h1
    obtain ⟨v2, hv2, hV2⟩ := ResV.rel hP hr h2
    exact ⟨_, run_results2 hfr hv1 hv2, fin rfl hN hnd hpre hex (by simpa using LRel.tup (LRel.cons hV1 hV2) .nil)⟩

theorem FnG.of_body (hP : TabOk P tab) {f : FuncId} {fn : Func} {c : Code} {args : List AV} {M M' N : List AObj} {r : AV} {k : Nat} (hf : P.funcs[f]? = some fn) (hnt : fn.ntmps = k) (hb : fn.body = some c) (hnm : (fn.name == "runtime.NumGoroutine") = false)
    (hal : args.length ≤ k) (hml : M.length = m) (h : ∀ G, WpA P k m G c ⟨enumT 0 args, M⟩ (FinG tab m fn.results (M' ++ N) r)) : FnG P f args M M' N r := by
  refine ⟨⟨fn, hf, by rw [hb]; rfl, hnm⟩, fun w S ι F vs hS hO hF hl => ?_⟩
  have hvl : vs.length = args.length := hl.len.symm
  refine calls_of_wp hf hb ?_
  have hrel : Rel k m ⟨w, S, fun b => ∃ i, i < M.length ∧ b ∈ F i, ι⟩ ⟨enumT 0 args, M⟩ { tmps := vs.toArray ++ Array.replicate (fn.ntmps - vs.toArray.size) undef, defers := [] } w := by
    refine ⟨S, ι, F, rfl, ?_, fun t => ?_, hO, fun id hid b hb => ⟨.inl ⟨id, hid, hb⟩, hF id hid b hb⟩, ⟨fun _ h => h, fun _ h => .inl h⟩, hS, Keeps.refl _ _, fun _ _ => rfl, by show m ≤ M.length; omega⟩
    · simp [hnt]; omega
    · show VRel S w ι M (look (enumT 0 args) t) _ []
      rw [look_enumT]
      simp only [Nat.zero_le, if_true, Nat.sub_zero]
      by_cases ht : t < args.length
      · obtain ⟨x, g, hx, hV, hg⟩ := hl.get (List.getElem?_eq_getElem ht)
        have hg0 : g = [] := List.eq_nil_iff_forall_not_mem.2 fun b hb => by simpa using hg b hb
        subst hg0
        have e1 : args.getD t .any = args[t] := by simp [ht]
        have e2 : (vs.toArray ++ Array.replicate (fn.ntmps - vs.toArray.size) undef).getD t undef = x := by
          have : t < vs.length := by omega
          rw [List.getElem?_eq_getElem this] at hx
          simp only [Option.some.injEq] at hx
          simp [Array.getD_eq_getD_getElem?, Array.getElem?_append, this, hx]
        rw [e1, e2]; exact hV
      · have e1 : args.getD t .any = .any := by simp [List.getElem?_eq_none (Nat.le_of_not_lt ht)]
        rw [e1]; exact .any .nil
  refine wp_mono (h _ _ _ hrel) fun e a' w' ⟨σ', hq, hr'⟩ => ?_
  have hdef : a'.defers = [] := by obtain ⟨_, _, _, h⟩ := hr'; exact h.defers
  have key : ∀ v S' ι' F', ((∀ b, S b → S' b) ∧ (∀ b, S' b → S b ∨ w.heap.size ≤ b) ∧ (∀ b, S' b → b < w'.heap.size) ∧ (∀ id, id < m → ι' id = ι id) ∧ ORel S' w' ι' (M' ++ N) F' ∧
      (∀ id, id < (M' ++ N).length → ∀ b ∈ F' id, ((∃ i, i < M.length ∧ b ∈ F i) ∨ w.heap.size ≤ b) ∧ ¬ S' b ∧ b < w'.heap.size) ∧ VRel S' w' ι' (M' ++ N) r v [] ∧ Keeps w (fun b => ∃ i, i < M.length ∧ b ∈ F i) w') →
      ∃ v' S' ι' F', Ending.returned v = .returned v' ∧ (∀ b, S b → S' b) ∧ (∀ b, S' b → S b ∨ w.heap.size ≤ b) ∧ (∀ b, S' b → b < w'.heap.size) ∧ (∀ id, id < M.length → ι' id = ι id) ∧ ORel S' w' ι' (M' ++ N) F' ∧
      (∀ id, id < (M' ++ N).length → ∀ b ∈ F' id, ((∃ i, i < M.length ∧ b ∈ F i) ∨ w.heap.size ≤ b) ∧ ¬ S' b ∧ b < w'.heap.size) ∧ VRel S' w' ι' (M' ++ N) r v' [] ∧ Keeps w (fun b => ∃ i, i < M.length ∧ b ∈ F i) w' :=
    fun v S' ι' F' ⟨q1, q2, q3, q4, q5⟩ => ⟨v, S', ι', F', rfl, q1, q2, q3, by rw [hml]; exact q4, q5⟩
  cases e with
  | normal =>
    obtain ⟨v, hv, S', ι', F', q⟩ := ResG.out hP rfl hq hr'
    exact ⟨hdef, v, hv, key v S' ι' F' q⟩
  | ret =>
    obtain ⟨v, hv, S', ι', F', q⟩ := ResG.out hP rfl hq hr'
    exact ⟨hdef, v, hv, key v S' ι' F' q⟩
  | _ => exact hq.elim
end
end Go.Abs

/- Calls of functions that write into what they are handed. No condition. -/
namespace Go.Abs
open Go
set_option linter.unusedVariables false
set_option linter.unusedSimpArgs false

def findN : List Nat → Nat → Nat → Option Nat
  | [], _, _ => none
  | h :: hs, i, k => match Nat.beq h i with
    | true => some k
    | false => findN hs i (k + 1)
theorem findN_some : ∀ {hs : List Nat} {i k j : Nat}, findN hs i k = some j → ∃ q, j = k + q ∧ hs[q]? = some i
  | [], _, _, _, h => by simp [findN] at h
  | a :: hs, i, k, j, h => by
    rw [findN] at h
    cases hb : Nat.beq a i with
    | true => rw [hb] at h; cases h; exact ⟨0, rfl, by simp [Nat.eq_of_beq_eq_true hb]⟩
    | false =>
      rw [hb] at h
      obtain ⟨q, h1, h2⟩ := findN_some h
      exact ⟨q + 1, by omega, by simpa using h2⟩
theorem findN_none : ∀ {hs : List Nat} {i k : Nat}, findN hs i k = none → i ∉ hs
  | [], _, _, _ => by simp
  | a :: hs, i, k, h => by
    rw [findN] at h
    cases hb : Nat.beq a i with
    | true => rw [hb] at h; cases h
    | false =>
      rw [hb] at h
      have h1 : a ≠ i := by rintro rfl; rw [Nat.beq_refl] at hb; cases hb
      have := findN_none h
      simp only [List.mem_cons, not_or]
      exact ⟨fun e => h1 e.symm, this⟩

/-- What an own value that is not handed is to the callee: it stays. -/
inductive SnapX (O : List AObj) (hs : List Nat) : List AV → List AV → Prop
  | nil : SnapX O hs [] []
  | any {V vs us} : SnapX O hs vs us → SnapX O hs (V :: vs) (.any :: us)
  | keep {V vs us} : V.still = true → V.nofre = true → SnapX O hs vs us → SnapX O hs (V :: vs) (V :: us)
  | nilI {s vs us} : SnapX O hs vs us → SnapX O hs (.nilS :: vs) (.imm s 0 [] :: us)
  | own {id ep len len' sz ob es vs us} : findN hs id 0 = none → O[id]? = some ob → ob.ep = ep → ob.size = sz → len * ob.size = ob.cells.length → len = len' → SnapX O hs ob.cells es → SnapX O hs vs us → SnapX O hs (.own id ep 0 len :: vs) (.imm sz len' es :: us)
  | fre {s l ds es vs us} : SnapX O hs ds es → SnapX O hs vs us → SnapX O hs (.fre s l ds :: vs) (.imm s l es :: us)
  | ptr {id ep off ob es vs us} : findN hs id 0 = none → O[id]? = some ob → ob.ep = ep → SnapX O hs ob.cells es → SnapX O hs vs us → SnapX O hs (.ptr id ep off :: vs) (.iptr es off :: us)
  | agg {ds es vs us} : SnapX O hs ds es → SnapX O hs vs us → SnapX O hs (.agg ds :: vs) (.agg es :: us)
  | fn {f ds es vs us} : SnapX O hs ds es → SnapX O hs vs us → SnapX O hs (.fn f ds :: vs) (.fn f es :: us)
theorem SnapX.same {O : List AObj} {hs : List Nat} {cs cs' : List AV} (h : cs = cs') (hs' : cs'.all AV.still = true) (hf : cs'.all AV.nofre = true) : SnapX O hs cs cs' := by
  subst h
  induction cs with
  | nil => exact .nil
  | cons c cs ih =>
    simp only [List.all_cons, Bool.and_eq_true] at hs' hf
    exact .keep hs'.1 hf.1 (ih hs'.2 hf.2)
theorem SnapX.rel {O : List AObj} {hs : List Nat} {S S2 : Nat → Prop} {w ι ιM} {F : Nat → List Nat} (ho : ORel S w ι O F) (hS : ∀ b, S b → S2 b) (hS2 : ∀ b, b < w.heap.size → (∀ id ∈ hs, b ∉ F id) → S2 b) (hlt : ∀ id ∈ hs, id < O.length) {vs us : List AV} (h : SnapX O hs vs us) :
    ∀ {xs f}, LRel S w ι O vs xs f → (∀ b ∈ f, ∀ id ∈ hs, b ∉ F id) → LRel S2 w ιM [] us xs [] := by
  have blk : ∀ {b : Nat} {o : Obj}, w.heap[b]? = some o → b < w.heap.size := fun h => (Array.getElem?_eq_some_iff.1 h).1
  have apt : ∀ {id : Nat} {ob : AObj}, O[id]? = some ob → findN hs id 0 = none → ∀ b ∈ F id, ∀ id' ∈ hs, b ∉ F id' := fun {id ob} h1 h2 b hb id' hid' => by
    have hne : id ≠ id' := by rintro rfl; exact findN_none h2 hid'
    exact ho.apart id id' (List.getElem?_eq_some_iff.1 h1).1 (hlt id' hid') hne b hb
  induction h with
  | nil => intro xs f hl _; cases hl; exact .nil
  | any _ ih =>
    intro xs f hl hf
    obtain ⟨v, vs', f1, f2, rfl, hv, hr, rfl⟩ := hl.uncons
    exact .any (ih hr fun b hb => hf b (List.mem_append_right _ hb))
  | keep hs hn _ ih =>
    intro xs f hl hf
    obtain ⟨v, vs', f1, f2, rfl, hv, hr, rfl⟩ := hl.uncons
    have := nofre_nil hv hn
    subst this
    have := LRel.cons (still_any hv hs [] hS (fun _ _ => rfl) (by simp)) (ih hr fun b hb => hf b (List.mem_append_right _ hb))
    simpa using this
  | fn _ _ ih1 ih2 =>
    intro xs f hl hf
    obtain ⟨v, vs', f1, f2, rfl, hv, hr, rfl⟩ := hl.uncons
    cases hv with | fn a r => cases r; exact .fn (ih1 a (by simp)) (ih2 hr fun b hb => hf b (List.mem_append_right _ hb))
  | nilI _ ih =>
    intro xs f hl hf
    obtain ⟨v, vs', f1, f2, rfl, hv, hr, rfl⟩ := hl.uncons
    have := (LRel.slice_len hv).2.2 rfl
    subst this
    exact .imm0 (by simp) (ih hr fun b hb => hf b (List.mem_append_right _ hb))
  | @own id ep len len' sz ob es vs us hnf hob hep hsz hlen hll _ _ ih1 ih2 =>
    intro xs f hl hf
    subst hll hsz
    obtain ⟨v, vs', f1, f2, rfl, hv, hr, rfl⟩ := hl.uncons
    have hr2 := ih2 hr fun b hb => hf b (List.mem_append_right _ hb)
    have hoa := ho.obj id ob hob
    unfold ObjAt at hoa
    cases hv with
    | own q1 q2 q3 r =>
      rw [hob] at q1; cases q1
      have hc := q3 hep.symm
      cases hs : ι id with
      | none =>
        rw [hs] at hc hoa
        obtain ⟨h1, _, h3⟩ := hc
        subst h1; subst h3
        have : es = [] := by
          have := ih1 (xs := []) (f := []) (by rw [hoa.1]; exact .nil) (by simp)
          cases this; rfl
        subst this
        exact .imm0 (by simp) hr2
      | some p =>
        obtain ⟨b, k⟩ := p
        rw [hs] at hc hoa
        obtain ⟨cap, h1, _, h3, h4⟩ := hc
        obtain ⟨cur, t, fz, f', hF, hh, _, _, _, _, hl'⟩ := hoa
        subst h1
        have hap := apt hob hnf
        rw [hF] at hap
        have hi := ih1 hl' fun b hb => hap b (by simp [hb])
        refine .imm (us := cur.toList.take ob.cells.length) (hS2 _ (blk hh) (hap b (by simp))) (fun i hi => cell_of_heap hh _ i hi) ?_ ?_ h3 h4 hr2
        · exact hi
        · rw [hlen, hl'.len, hi.len]
  | @fre s l ds es vs us _ _ ih1 ih2 =>
    intro xs f hl hf
    obtain ⟨v, vs', f1, f2, rfl, hv, hr, rfl⟩ := hl.uncons
    have hr2 := ih2 hr fun b hb => hf b (List.mem_append_right _ hb)
    cases hv with
    | fre0 r =>
      have := ih1 (xs := []) (f := []) .nil (by simp)
      cases this
      exact .imm0 (by simp) hr2
    | @fre _ _ b _ cap cur t fz _ us' f' _ _ _ hh0 hsz hu hl' h1 h2 h3 r =>
      have hh := hh0.1
      have hi := ih1 hl'.lift fun b hb => hf b (by simp [hb])
      subst hu
      refine .imm (us := cur.toList.take ds.length) (hS2 _ (blk hh) (hf b (by simp))) (fun i hi => cell_of_heap hh _ i hi) hi ?_ h2 h3 hr2
      rw [h1, hl'.len, hi.len]
  | @ptr id ep off ob es vs us hnf hob hep _ _ ih1 ih2 =>
    intro xs f hl hf
    obtain ⟨v, vs', f1, f2, rfl, hv, hr, rfl⟩ := hl.uncons
    have hr2 := ih2 hr fun b hb => hf b (List.mem_append_right _ hb)
    have hoa := ho.obj id ob hob
    unfold ObjAt at hoa
    cases hv with
    | ptr q1 q2 q3 r =>
      rw [hob] at q1; cases q1
      have hc := q3 hep.symm
      cases hs : ι id with
      | none => rw [hs] at hc; exact hc.elim
      | some p =>
        obtain ⟨b, k⟩ := p
        rw [hs] at hc hoa
        obtain ⟨cur, t, fz, f', hF, hh, _, _, _, _, hl'⟩ := hoa
        have h1 : _ = Value.pointer (some ⟨b, off, none⟩) := hc
        subst h1
        have hap := apt hob hnf
        rw [hF] at hap
        have := LRel.iptr (O := []) (ι := ιM) (off := off) (S := S2) (us := cur.toList.take ob.cells.length) (hS2 _ (blk hh) (hap b (by simp))) (fun i hi => cell_of_heap hh _ i hi) (ih1 hl' fun b hb => hap b (by simp [hb])) hr2
        rwa [Nat.zero_add] at this
  | agg _ _ ih1 ih2 =>
    intro xs f hl hf
    obtain ⟨v, vs', f1, f2, rfl, hv, hr, rfl⟩ := hl.uncons
    obtain ⟨us', rfl, ha⟩ := LRel.agg_inv hv
    have := LRel.agg (ih1 ha fun b hb => hf b (List.mem_append_left _ hb)) (ih2 hr fun b hb => hf b (List.mem_append_right _ hb))
    simpa using this

theorem SnapX.of0 {O : List AObj} {hs : List Nat} {vs us : List AV} (h : Snap [] vs us) : SnapX O hs vs us := by
  induction h with
  | nil => exact .nil
  | any _ ih => exact .any ih
  | keep a b _ ih => exact .keep a b ih
  | nilI _ ih => exact .nilI ih
  | own h => simp at h
  | fre _ _ ih1 ih2 => exact .fre ih1 ih2
  | ptr h => simp at h
  | agg _ _ ih1 ih2 => exact .agg ih1 ih2
  | fn _ _ ih1 ih2 => exact .fn ih1 ih2
theorem SnapX.ownL {O : List AObj} {hs : List Nat} {id ep len len' sz : Nat} {ob : AObj} {es vs us : List AV} (h0 : findN hs id 0 = none) (h1 : O[id]? = some ob) (h2 : ob.ep = ep) (h3 : ob.size = sz) (r1 : SnapX O hs ob.cells es) (h4 : len * ob.size = ob.cells.length) (h5 : len = len') (r2 : SnapX O hs vs us) : SnapX O hs (.own id ep 0 len :: vs) (.imm sz len' es :: us) := .own h0 h1 h2 h3 h4 h5 r1 r2
/-- What the caller names by its own objects' numbers, named by the place among those handed. -/
inductive Hand (O : List AObj) (hs : List Nat) : List AV → List AV → Prop
  | nil : Hand O hs [] []
  | any {V vs us} : Hand O hs vs us → Hand O hs (V :: vs) (.any :: us)
  | keep {V vs us} : V.still = true → V.nofre = true → Hand O hs vs us → Hand O hs (V :: vs) (V :: us)
  | own {id ep off len len' j ob vs us} : hs[j]? = some id → O[id]? = some ob → ob.ep = ep → len = len' → Hand O hs vs us → Hand O hs (.own id ep off len :: vs) (.own j 0 off len' :: us)
  | ptr {id ep off j ob vs us} : hs[j]? = some id → O[id]? = some ob → ob.ep = ep → Hand O hs vs us → Hand O hs (.ptr id ep off :: vs) (.ptr j 0 off :: us)
  | agg {ds es vs us} : Hand O hs ds es → Hand O hs vs us → Hand O hs (.agg ds :: vs) (.agg es :: us)
  | snap {V U vs us} : SnapX O hs [V] [U] → Hand O hs vs us → Hand O hs (V :: vs) (U :: us)

inductive HandO (O : List AObj) : List Nat → List AObj → Prop
  | nil : HandO O [] []
  | cons {id hs ob mb M} : O[id]? = some ob → ob.cells = mb.cells → mb.cells.all AV.still = true → mb.ep = 0 → mb.size = ob.size → (mb.ty = none ∨ mb.ty = ob.ty) → HandO O hs M → HandO O (id :: hs) (mb :: M)

theorem HandO.at {O hs M} (h : HandO O hs M) : hs.length = M.length ∧ ∀ (j : Nat) (mb : AObj), M[j]? = some mb → ∃ id ob, hs[j]? = some id ∧ O[id]? = some ob ∧ ob.cells = mb.cells ∧ mb.cells.all AV.still = true ∧ mb.ep = 0 ∧ mb.size = ob.size ∧ (mb.ty = none ∨ mb.ty = ob.ty) := by
  induction h with
  | nil => exact ⟨rfl, by simp⟩
  | cons h1 h2 h3 h4 h5 h6 _ ih =>
    refine ⟨by simp [ih.1], fun j mb hj => ?_⟩
    cases j with
    | zero => simp at hj; subst hj; exact ⟨_, _, by simp, h1, h2, h3, h4, h5, h6⟩
    | succ j => simpa using ih.2 j mb (by simpa using hj)

/-- The object at place i behind the call. -/
def newOb (hs : List Nat) (M' : List AObj) (i : Nat) (ob : AObj) : AObj := match findN hs i 0 with
  | none => ob
  | some j => match M'[j]? with
    | none => ob
    | some mb => ⟨mb.cells, ob.ep, mb.size, mb.ty⟩
def newO (hs : List Nat) (M' : List AObj) : Nat → List AObj → List AObj
  | _, [] => []
  | k, ob :: O => newOb hs M' k ob :: newO hs M' (k + 1) O
theorem newO_len (hs : List Nat) (M' : List AObj) : ∀ (k : Nat) (O : List AObj), (newO hs M' k O).length = O.length
  | _, [] => rfl
  | k, _ :: O => by simp [newO, newO_len hs M' (k + 1) O]
theorem newO_at (hs : List Nat) (M' : List AObj) : ∀ (k : Nat) (O : List AObj) (i : Nat), (newO hs M' k O)[i]? = (O[i]?).map (newOb hs M' (k + i))
  | _, [], i => by simp [newO]
  | k, ob :: O, 0 => by simp [newO]
  | k, ob :: O, i + 1 => by rw [newO, List.getElem?_cons_succ, List.getElem?_cons_succ, newO_at hs M' (k + 1) O i]; congr 2; omega

/-- The same, written out. -/
def obF (hs : List Nat) (M' : List AObj) (i : Nat) (ob : AObj) : Option AObj := match findN hs i 0 with
  | none => match ob with
    | ⟨c, e, z, t⟩ => some ⟨c, e, z, t⟩
  | some j => match M'[j]? with
    | none => none
    | some ⟨c, _, z, t⟩ => match ob with
      | ⟨_, e, _, _⟩ => some ⟨c, e, z, t⟩
theorem obF_eq {hs : List Nat} {M' : List AObj} {i : Nat} {ob x : AObj} (h : obF hs M' i ob = some x) : newOb hs M' i ob = x := by
  unfold obF at h; unfold newOb
  cases hf : findN hs i 0 with
  | none => rw [hf] at h; exact Option.some.inj h
  | some j =>
    rw [hf] at h
    simp only at h ⊢
    cases hm : M'[j]? with
    | none => rw [hm] at h; cases h
    | some mb => rw [hm] at h; exact Option.some.inj h
def newF (hs : List Nat) (M' : List AObj) : Nat → List AObj → List AObj → Option (List AObj)
  | _, [], N => flatO N
  | k, ob :: O, N => match obF hs M' k ob with
    | none => none
    | some x => match newF hs M' (k + 1) O N with
      | none => none
      | some r => some (x :: r)
theorem newF_eq {hs : List Nat} {M' : List AObj} : ∀ {k : Nat} {O N O2 : List AObj}, newF hs M' k O N = some O2 → newO hs M' k O ++ N = O2
  | _, [], N, O2, h => by rw [newF] at h; rw [newO]; exact flatO_eq h
  | k, ob :: O, N, O2, h => by
    rw [newF] at h
    cases hx : obF hs M' k ob with
    | none => rw [hx] at h; cases h
    | some x =>
      rw [hx] at h
      cases hr : newF hs M' (k + 1) O N with
      | none => simp only [hr] at h; cases h
      | some r => simp only [hr] at h; rw [newO, obF_eq hx, List.cons_append, newF_eq hr]; exact Option.some.inj h
/-! New objects' numbers as the caller has them. -/
mutual
def AV.reF (m base : Nat) : AV → Option AV
  | .own id ep off len => match Nat.ble m id with
    | true => some (.own (id - m + base) ep off len)
    | false => none
  | .agg ds => match AV.reFL m base ds with
    | some r => some (.agg r)
    | none => none
  | .tup ds => match AV.reFL m base ds with
    | some r => some (.tup r)
    | none => none
  | .any => some .any
  | .sc v => some (.sc v)
  | .nilS => some .nilS
  | _ => none
def AV.reFL (m base : Nat) : List AV → Option (List AV)
  | [] => some []
  | V :: Vs => match AV.reF m base V with
    | none => none
    | some W => match AV.reFL m base Vs with
      | some r => some (W :: r)
      | none => none
end

section
variable {S S3 : Nat → Prop} {w : World} {ι ι3 : Nat → Spot} {O O3 : List AObj} {m base : Nat}
mutual
theorem AV.reF_rel (hι : ∀ id, m ≤ id → ι3 (id - m + base) = ι id) (hO : ∀ id ob, m ≤ id → O[id]? = some ob → O3[id - m + base]? = some ob) : ∀ (V W : AV), V.reF m base = some W → ∀ {x f}, VRel S w ι O V x f → VRel S3 w ι3 O3 W x f
  | .own id ep off len, W, h, x, f, hv => by
    rw [AV.reF] at h
    cases hb : Nat.ble m id with
    | false => rw [hb] at h; cases h
    | true =>
      rw [hb] at h; cases h
      have hle := Nat.le_of_ble_eq_true hb
      cases hv with | own a b c r => cases r; exact .own (hO _ _ hle a) b (fun e => by rw [hι _ hle]; exact c e) .nil
  | .agg ds, W, h, x, f, hv => by
    rw [AV.reF] at h
    cases hr : AV.reFL m base ds with
    | none => rw [hr] at h; cases h
    | some r =>
      rw [hr] at h; cases h
      cases hv with | agg a r' => cases r'; exact .agg (AV.reFL_rel hι hO ds r hr a) .nil
  | .tup ds, W, h, x, f, hv => by
    rw [AV.reF] at h
    cases hr : AV.reFL m base ds with
    | none => rw [hr] at h; cases h
    | some r =>
      rw [hr] at h; cases h
      cases hv with | tup a r' => cases r'; exact .tup (AV.reFL_rel hι hO ds r hr a) .nil
  | .any, W, h, x, f, hv => by rw [AV.reF] at h; cases h; cases hv with | any r => cases r; exact .any .nil
  | .sc _, W, h, x, f, hv => by rw [AV.reF] at h; cases h; cases hv with | sc r => cases r; exact .sc .nil
  | .nilS, W, h, x, f, hv => by rw [AV.reF] at h; cases h; cases hv with | nilS r => cases r; exact .nilS .nil
  | .imm _ _ _, W, h, x, f, hv => by simp [AV.reF] at h
  | .fre _ _ _, W, h, x, f, hv => by simp [AV.reF] at h
  | .ptr _ _ _, W, h, x, f, hv => by simp [AV.reF] at h
  | .iptr _ _, W, h, x, f, hv => by simp [AV.reF] at h
  | .fn _ _, W, h, x, f, hv => by simp [AV.reF] at h
  | .ifc _ _, W, h, x, f, hv => by simp [AV.reF] at h
theorem AV.reFL_rel (hι : ∀ id, m ≤ id → ι3 (id - m + base) = ι id) (hO : ∀ id ob, m ≤ id → O[id]? = some ob → O3[id - m + base]? = some ob) : ∀ (Vs Ws : List AV), AV.reFL m base Vs = some Ws → ∀ {xs f}, LRel S w ι O Vs xs f → LRel S3 w ι3 O3 Ws xs f
  | [], Ws, h, xs, f, hl => by rw [AV.reFL] at h; cases h; cases hl; exact .nil
  | V :: Vs, Ws, h, xs, f, hl => by
    rw [AV.reFL] at h
    cases hv : AV.reF m base V with
    | none => rw [hv] at h; cases h
    | some W =>
      rw [hv] at h
      cases hr : AV.reFL m base Vs with
      | none => simp only [hr] at h; cases h
      | some r =>
        simp only [hr] at h; cases h
        obtain ⟨v, vs', f1, f2, rfl, hv1, hr1, rfl⟩ := hl.uncons
        exact LRel.cons (AV.reF_rel hι hO V W hv hv1) (AV.reFL_rel hι hO Vs r hr hr1)
end
end

theorem still_all {S w ι O S' w' ι' O'} : ∀ {cs : List AV} {xs f}, cs.all AV.still = true → LRel S w ι O cs xs f → (∀ b, S b → S' b) → (∀ b, S b → w'.heap[b]? = w.heap[b]?) → (∀ b ∈ f, w'.heap[b]? = w.heap[b]?) → LRel S' w' ι' O' cs xs f := by
  intro cs
  induction cs with
  | nil => intro xs f _ hl _ _ _; cases hl; exact .nil
  | cons c cs ih =>
    intro xs f hs hl h1 h2 h3
    simp only [List.all_cons, Bool.and_eq_true] at hs
    obtain ⟨v, vs', f1, f2, rfl, hv, hr, rfl⟩ := hl.uncons
    exact LRel.cons (still_any hv hs.1 O' h1 h2 fun b hb => h3 b (by simp [hb])) (ih hs.2 hr h1 h2 fun b hb => h3 b (by simp [hb]))

theorem Hand.rel {O : List AObj} {hs : List Nat} {M : List AObj} {S S2 : Nat → Prop} {w ι ιM} (hM : HandO O hs M) (hι : ∀ (j id : Nat), hs[j]? = some id → ιM j = ι id) (hS : ∀ b, S b → S2 b) {F : Nat → List Nat} (hO : ORel S w ι O F) (hS2 : ∀ b, b < w.heap.size → (∀ id ∈ hs, b ∉ F id) → S2 b) (hlt : ∀ id ∈ hs, id < O.length) {vs us} (h : Hand O hs vs us) : ∀ {xs f}, LRel S w ι O vs xs f → (∀ b ∈ f, ∀ id ∈ hs, b ∉ F id) → ∃ f', LRel S2 w ιM M us xs f' ∧ (∀ b ∈ f', b ∈ f) := by
  induction h with
  | nil => intro xs f hl _; cases hl; exact ⟨[], .nil, by simp⟩
  | any _ ih =>
    intro xs f hl hfn
    obtain ⟨v, vs', f1, f2, rfl, hv, hr, rfl⟩ := hl.uncons
    obtain ⟨f', h1, h2⟩ := ih hr fun b hb => hfn b (List.mem_append_right _ hb)
    exact ⟨f', .any h1, fun b hb => List.mem_append_right _ (h2 b hb)⟩
  | keep hs hn _ ih =>
    intro xs f hl hfn
    obtain ⟨v, vs', f1, f2, rfl, hv, hr, rfl⟩ := hl.uncons
    have := nofre_nil hv hn
    subst this
    obtain ⟨f', h1, h2⟩ := ih hr fun b hb => hfn b (List.mem_append_right _ hb)
    exact ⟨f', by simpa using LRel.cons (still_any hv hs M hS (fun _ _ => rfl) (by simp)) h1, fun b hb => List.mem_append_right _ (h2 b hb)⟩
  | @own id ep off len len' j ob vs us hj ho he hln _ ih =>
    intro xs f hl hfn
    subst hln
    obtain ⟨v, vs', f1, f2, rfl, hv, hr, rfl⟩ := hl.uncons
    obtain ⟨f', h1, h2⟩ := ih hr fun b hb => hfn b (List.mem_append_right _ hb)
    refine ⟨f', ?_, fun b hb => List.mem_append_right _ (h2 b hb)⟩
    cases hv with
    | own q1 q2 q3 r =>
      rw [ho] at q1; cases q1
      have hjl : j < M.length := by rw [← hM.at.1]; exact (List.getElem?_eq_some_iff.1 hj).1
      obtain ⟨id', ob', e1, e2, _, _, e5, e6, _⟩ := hM.at.2 j _ (List.getElem?_eq_getElem hjl)
      rw [hj] at e1; cases e1
      rw [ho] at e2; cases e2
      exact .own (List.getElem?_eq_getElem hjl) (by omega) (fun _ => by rw [hι j _ hj, e6]; exact q3 he.symm) h1
  | @ptr id ep off j ob vs us hj ho he _ ih =>
    intro xs f hl hfn
    obtain ⟨v, vs', f1, f2, rfl, hv, hr, rfl⟩ := hl.uncons
    obtain ⟨f', h1, h2⟩ := ih hr fun b hb => hfn b (List.mem_append_right _ hb)
    refine ⟨f', ?_, fun b hb => List.mem_append_right _ (h2 b hb)⟩
    cases hv with
    | ptr q1 q2 q3 r =>
      rw [ho] at q1; cases q1
      have hjl : j < M.length := by rw [← hM.at.1]; exact (List.getElem?_eq_some_iff.1 hj).1
      obtain ⟨id', ob', e1, e2, _, _, e5, e6, _⟩ := hM.at.2 j _ (List.getElem?_eq_getElem hjl)
      rw [hj] at e1; cases e1
      rw [ho] at e2; cases e2
      exact .ptr (List.getElem?_eq_getElem hjl) (by omega) (fun _ => by rw [hι j _ hj]; exact q3 he.symm) h1
  | agg _ _ ih1 ih2 =>
    intro xs f hl hfn
    obtain ⟨v, vs', f1, f2, rfl, hv, hr, rfl⟩ := hl.uncons
    obtain ⟨us', rfl, ha⟩ := LRel.agg_inv hv
    obtain ⟨g', a1, a2⟩ := ih1 ha fun b hb => hfn b (List.mem_append_left _ hb)
    obtain ⟨f', h1, h2⟩ := ih2 hr fun b hb => hfn b (List.mem_append_right _ hb)
    refine ⟨g' ++ f', .agg a1 h1, fun b hb => ?_⟩
    rcases List.mem_append.1 hb with hb | hb
    · exact List.mem_append_left _ (a2 b hb)
    · exact List.mem_append_right _ (h2 b hb)
  | snap hx _ ih =>
    intro xs f hl hfn
    obtain ⟨v, vs', f1, f2, rfl, hv, hr, rfl⟩ := hl.uncons
    obtain ⟨f', h1, h2⟩ := ih hr fun b hb => hfn b (List.mem_append_right _ hb)
    have := SnapX.rel (ιM := ιM) hO hS hS2 hlt hx hv fun b hb => hfn b (List.mem_append_left _ hb)
    exact ⟨[] ++ f', LRel.cons this.lift h1, fun b hb => List.mem_append_right _ (h2 b (by simpa using hb))⟩

section
variable {P : Program} {n m : Nat} {G : Ctx} {T : List (Nat × AV)} {O : List AObj} {Q : Exit → St → Prop} {ops : Array Oper} {l : List Oper} {tt : TypeId} {pos : String} {after : Array Edge} {tab : List (Nat × Ty)}

theorem nodup_get {hs : List Nat} (h : hs.Nodup) {i j id : Nat} (h1 : hs[i]? = some id) (h2 : hs[j]? = some id) : i = j :=
  (List.getElem?_inj (List.getElem?_eq_some_iff.1 h1).1 h).1 (h1.trans h2.symm)

/-- What such a call leaves: the relation behind it. -/
theorem callG_rel {f : FuncId} {xs : List Operand} {As : List AV} {M M' N : List AObj} {r r' : AV} {hs : List Nat} (hc : FnG P f As M M' N r) (hh : Hand O hs (xs.map (av T)) As) (hM : HandO O hs M) (hnd : hs.Nodup) (hlen : M'.length = M.length)
    (hsz : ∀ (j : Nat) (a b : AObj), M[j]? = some a → M'[j]? = some b → b.size = a.size) (hM' : Out M') (hN : Out N) (hre : r.reF M.length O.length = some r') {a : Act} {w : World} (hr : Rel n m G ⟨T, O⟩ a w) :
    Calls P f (xs.map a.eval).toArray w fun e w' => ∃ v, e = .returned v ∧ ∃ S ι F, RelAt n m G S ι F ⟨T, newO hs M' 0 O ++ N⟩ a w' ∧ VRel S w' ι (newO hs M' 0 O ++ N) r' v [] := by
  obtain ⟨S, ι, F, hr⟩ := hr
  obtain ⟨⟨fn, hf, hb, hnm⟩, hcall⟩ := hc
  obtain ⟨hlM, hatM⟩ := hM.at
  let S2 : Nat → Prop := fun b => b < w.heap.size ∧ ∀ id ∈ hs, b ∉ F id
  let ιM : Nat → Spot := fun j => match hs[j]? with | some id => ι id | none => none
  let FM : Nat → List Nat := fun j => match hs[j]? with | some id => F id | none => []
  have hιM : ∀ (j id : Nat), hs[j]? = some id → ιM j = ι id := fun j id h => by show (match hs[j]? with | some id => ι id | none => none) = _; rw [h]
  have hFM : ∀ (j id : Nat), hs[j]? = some id → FM j = F id := fun j id h => by show (match hs[j]? with | some id => F id | none => []) = _; rw [h]
  have hidl : ∀ (j id : Nat), hs[j]? = some id → id < O.length := fun j id h => by
    have hj : j < M.length := by rw [← hlM]; exact (List.getElem?_eq_some_iff.1 h).1
    obtain ⟨id', ob, e1, e2, _⟩ := hatM j _ (List.getElem?_eq_getElem hj)
    rw [h] at e1; cases e1; exact (List.getElem?_eq_some_iff.1 e2).1
  have hmem : ∀ id ∈ hs, ∃ j, j < M.length ∧ hs[j]? = some id := fun id h => by
    obtain ⟨j, hj, e⟩ := List.getElem_of_mem h
    exact ⟨j, by omega, by rw [List.getElem?_eq_getElem hj, e]⟩
  have hex : ∀ j, j < M.length → ∃ id, hs[j]? = some id := fun j hj => ⟨hs[j], List.getElem?_eq_getElem (by omega)⟩
  have hSS : ∀ b, S b → S2 b := fun b hb => ⟨hr.stable b hb, fun id hid hbf => by
    obtain ⟨j, hj, e⟩ := hmem id hid
    exact (hr.foot id (hidl j id e) b hbf).2.1 hb⟩
  have hOM : ORel S2 w ιM M FM := by
    refine ⟨fun j mb hj => ?_, fun j hj => ?_, fun i j hi hj hij b hb => ?_⟩
    · obtain ⟨id, ob, e1, e2, e3, e4, e5, e6, e7⟩ := hatM j mb hj
      rw [hιM j id e1, hFM j id e1]
      have ho := hr.objs.obj id ob e2
      unfold ObjAt at ho ⊢
      cases hs' : ι id with
      | none => rw [hs'] at ho; rw [← e3]; exact ho
      | some p =>
        obtain ⟨b, k⟩ := p
        rw [hs'] at ho
        obtain ⟨cur', t', fz', f2, q1, q2, q3, q4, q5, q6, q7⟩ := ho
        refine ⟨cur', t', fz', f2, q1, q2, q3, by rw [← e3]; exact q4, q5, fun e he => ?_, ?_⟩
        · rcases e7 with e7 | e7
          · rw [e7] at he; cases he
          · exact q6 e (by rw [← e7]; exact he)
        · rw [← e3]
          exact still_all (by rw [e3]; exact e4) q7 hSS (fun _ _ => rfl) (fun _ _ => rfl)
    · obtain ⟨id, e⟩ := hex j hj
      rw [hFM j id e]; exact hr.objs.nodup id (hidl j id e)
    · obtain ⟨id1, e1⟩ := hex i hi
      obtain ⟨id2, e2⟩ := hex j hj
      rw [hFM i id1 e1] at hb; rw [hFM j id2 e2]
      exact hr.objs.apart id1 id2 (hidl i id1 e1) (hidl j id2 e2) (fun e => hij (nodup_get hnd e1 (e ▸ e2))) b hb
  have hl := hr.evals xs
  obtain ⟨f', hl2, hf'⟩ := hh.rel (S2 := S2) (ιM := ιM) hM hιM hSS hr.objs (fun b h1 h2 => ⟨h1, h2⟩) (fun id hid => by obtain ⟨j, hj, e⟩ := hmem id hid; exact hidl j id e) hl (by simp)
  have hf0 : f' = [] := List.eq_nil_iff_forall_not_mem.2 fun b hb => by simpa using hf' b hb
  subst hf0
  refine (hcall w S2 ιM FM (xs.map a.eval) (fun b h => h.1) hOM (fun j hj b hb => ?_) hl2).mono fun e w' he => ?_
  · obtain ⟨id, e⟩ := hex j hj
    rw [hFM j id e] at hb
    exact ⟨fun h => h.2 id (List.mem_of_getElem? e) hb, (hr.foot id (hidl j id e) b hb).2.2⟩
  obtain ⟨v, S', ι', F', rfl, hS1, hS2, hS3, hι', hO', hF', hv, hk⟩ := he
  refine ⟨v, rfl, ?_⟩
  have hold : ∀ b, b < w.heap.size → (∀ id ∈ hs, b ∉ F id) → w'.heap[b]? = w.heap[b]? := fun b hb hn => hk.block b hb (by
    rintro ⟨i, hi, hbf⟩
    obtain ⟨id, e⟩ := hex i hi
    rw [hFM i id e] at hbf
    exact hn id (List.mem_of_getElem? e) hbf)
  let S3 : Nat → Prop := fun b => S b ∨ (S' b ∧ w.heap.size ≤ b)
  let ι3 : Nat → Spot := fun i => if i < O.length then ι i else ι' (M.length + (i - O.length))
  let F3 : Nat → List Nat := fun i => if i < O.length then (match findN hs i 0 with | some j => F' j | none => F i) else F' (M.length + (i - O.length))
  let O3 := newO hs M' 0 O ++ N
  have hl3 : (newO hs M' 0 O).length = O.length := newO_len hs M' 0 O
  have hO3lt : ∀ i, i < O.length → O3[i]? = (O[i]?).map (newOb hs M' i) := fun i hi => by
    show (newO hs M' 0 O ++ N)[i]? = _
    rw [List.getElem?_append_left (by omega), newO_at, Nat.zero_add]
  have hO3ge : ∀ i, O.length ≤ i → O3[i]? = N[i - O.length]? := fun i hi => by
    show (newO hs M' 0 O ++ N)[i]? = _
    rw [List.getElem?_append_right (by omega), hl3]
  have hob : ∀ i ob, O[i]? = some ob → (newOb hs M' i ob).ep = ob.ep ∧ (newOb hs M' i ob).size = ob.size := fun i ob h => by
    unfold newOb
    cases hfd : findN hs i 0 with
    | none => exact ⟨rfl, rfl⟩
    | some j =>
      cases hmj : M'[j]? with
      | none => exact ⟨by simp [hmj], by simp [hmj]⟩
      | some mb =>
        obtain ⟨q, rfl, hq⟩ := findN_some hfd
        rw [Nat.zero_add] at hmj
        have hqm : q < M.length := by rw [← hlM]; exact (List.getElem?_eq_some_iff.1 hq).1
        obtain ⟨id', ob', e1, e2, _, _, _, e6, _⟩ := hatM q _ (List.getElem?_eq_getElem hqm)
        rw [hq] at e1; cases e1
        rw [h] at e2; cases e2
        simp only [Nat.zero_add, hmj, true_and]
        exact (hsz q _ _ (List.getElem?_eq_getElem hqm) hmj).trans e6
  have hlat : Later S w ι O S3 w' ι3 O3 := by
    refine ⟨fun b h => .inl h, fun b hb => hold b (hr.stable b hb) (hSS b hb).2, fun id ob h => ?_⟩
    have hlt : id < O.length := (List.getElem?_eq_some_iff.1 h).1
    obtain ⟨h1, h2⟩ := hob id ob h
    exact ⟨newOb hs M' id ob, by rw [hO3lt id hlt, h]; rfl, .inr ⟨h1, h2, by show (if _ then _ else _) = _; rw [if_pos hlt]⟩⟩
  have hF3f : ∀ (i j : Nat), i < O.length → findN hs i 0 = some j → F3 i = F' j := fun i j hi h => by show (if _ then _ else _) = _; rw [if_pos hi, h]
  have hF3n : ∀ (i : Nat), i < O.length → findN hs i 0 = none → F3 i = F i := fun i hi h => by show (if _ then _ else _) = _; rw [if_pos hi, h]
  have hF3g : ∀ (i : Nat), O.length ≤ i → F3 i = F' (M.length + (i - O.length)) := fun i hi => by show (if _ then _ else _) = _; rw [if_neg (by omega)]
  have hlMN : (M' ++ N).length = M.length + N.length := by rw [List.length_append, hlen]
  have hfind : ∀ (i j : Nat), findN hs i 0 = some j → j < M.length ∧ hs[j]? = some i := fun i j h => by
    obtain ⟨q, rfl, hq⟩ := findN_some h
    rw [Nat.zero_add]
    exact ⟨by rw [← hlM]; exact (List.getElem?_eq_some_iff.1 hq).1, hq⟩
  have hl3' : O3.length = O.length + N.length := by show (newO hs M' 0 O ++ N).length = _; rw [List.length_append, hl3]
  -- each place's blocks: where they come from
  have hsrc : ∀ k, k < (M' ++ N).length → ∀ b ∈ F' k, ((∃ id, id ∈ hs ∧ id < O.length ∧ b ∈ F id) ∨ w.heap.size ≤ b) ∧ ¬ S' b ∧ b < w'.heap.size := fun k hk' b hb => by
    obtain ⟨q1, q2, q3⟩ := hF' k hk' b hb
    refine ⟨?_, q2, q3⟩
    rcases q1 with ⟨i, hi, hbf⟩ | q1
    · obtain ⟨id, e⟩ := hex i hi
      rw [hFM i id e] at hbf
      exact .inl ⟨id, List.mem_of_getElem? e, hidl i id e, hbf⟩
    · exact .inr q1
  have hnoS : ∀ k, k < (M' ++ N).length → ∀ b ∈ F' k, (G.M0 b ∨ G.w0.heap.size ≤ b) ∧ ¬ S3 b ∧ b < w'.heap.size := fun k hk' b hb => by
    obtain ⟨q1, q2, q3⟩ := hsrc k hk' b hb
    rcases q1 with ⟨id, hid, hlt, hbf⟩ | q1
    · obtain ⟨p1, p2, p3⟩ := hr.foot id hlt b hbf
      refine ⟨p1, ?_, q3⟩
      rintro (h | ⟨h, _⟩)
      · exact p2 h
      · exact q2 h
    · refine ⟨.inr (by have := hr.keeps.size; omega), ?_, q3⟩
      rintro (h | ⟨h, _⟩)
      · have := hr.stable b h; omega
      · exact q2 h
  have hnotin : ∀ i, i < O.length → findN hs i 0 = none → ∀ b ∈ F i, w'.heap[b]? = w.heap[b]? := fun i hi h b hb => hold b (hr.foot i hi b hb).2.2 fun id hid hbf => by
    obtain ⟨j, hj, e⟩ := hmem id hid
    have hne : i ≠ id := by rintro rfl; exact findN_none h hid
    exact hr.objs.apart i id hi (hidl j id e) hne b hb hbf
  have hcells : ∀ {cs : List AV} {us g}, cs.all AV.still = true → Loc cs → LRel S' w' ι' (M' ++ N) cs us g → LRel S3 w' ι3 O3 cs us g := fun h1 h2 hl =>
    Loc.rel h2 (still_all (S' := S') h1 hl (fun _ h => h) (fun _ _ => rfl) (fun _ _ => rfl))
  refine ⟨S3, ι3, F3, ⟨hr.defers, hr.size, fun t => (hr.tmps t).mono hlat (by simp), ⟨fun i ob h => ?_, fun i h => ?_, fun i j hi hj hij b hb => ?_⟩, fun i h b hb => ?_, ⟨fun b hb => .inl (hr.base.1 b hb), ?_⟩, ?_, ?_, fun i h => ?_, ?_⟩, ?_⟩
  · have h : O3[i]? = some ob := h
    by_cases hlt : i < O.length
    · rw [hO3lt i hlt, List.getElem?_eq_getElem hlt] at h
      simp only [Option.map_some, Option.some.injEq] at h
      rw [show ι3 i = ι i from if_pos hlt]
      cases hfd : findN hs i 0 with
      | some j =>
        obtain ⟨hjm, hji⟩ := hfind i j hfd
        rw [hF3f i j hlt hfd]
        have hjM' : j < M'.length := by omega
        have hmb : M'[j]? = some M'[j] := List.getElem?_eq_getElem hjM'
        have h' : ob = ⟨M'[j].cells, (O[i]).ep, M'[j].size, M'[j].ty⟩ := by
          rw [← h]; unfold newOb; rw [hfd]; simp only [hmb]
        have ho := hO'.obj j M'[j] (by rw [List.getElem?_append_left hjM']; exact hmb)
        rw [hι' j hjm, hιM j i hji] at ho
        have hout := hM'.at hmb
        rw [h']
        unfold ObjAt at ho ⊢
        cases hs' : ι i with
        | none => rw [hs'] at ho; exact ho
        | some p =>
          obtain ⟨b, k⟩ := p
          rw [hs'] at ho
          obtain ⟨cur', t', fz', f2, q1, q2, q3, q4, q5, q6, q7⟩ := ho
          exact ⟨cur', t', fz', f2, q1, q2, q3, q4, q5, q6, hcells hout.1 hout.2 q7⟩
      | none =>
        rw [hF3n i hlt hfd]
        have h' : ob = O[i] := by rw [← h]; unfold newOb; rw [hfd]
        subst h'
        have ho := hr.objs.obj i O[i] (List.getElem?_eq_getElem hlt)
        have key := hnotin i hlt hfd
        unfold ObjAt at ho ⊢
        cases hs' : ι i with
        | none => rw [hs'] at ho; exact ho
        | some p =>
          obtain ⟨b, k⟩ := p
          rw [hs'] at ho
          obtain ⟨cur', t', fz', f2, q1, q2, q3, q4, q5, q6, q7⟩ := ho
          exact ⟨cur', t', fz', f2, q1, by rw [key b (by rw [q1]; simp)]; exact q2, q3, q4, q5, q6, q7.mono hlat fun b' hb' => key b' (by rw [q1]; simp [hb'])⟩
    · rw [hO3ge i (by omega)] at h
      rw [show ι3 i = ι' (M.length + (i - O.length)) from if_neg hlt, hF3g i (by omega)]
      have ho := hO'.obj (M.length + (i - O.length)) ob (by rw [List.getElem?_append_right (by omega), hlen, Nat.add_sub_cancel_left]; exact h)
      have hout := hN.at h
      unfold ObjAt at ho ⊢
      cases hs' : ι' (M.length + (i - O.length)) with
      | none => rw [hs'] at ho; exact ho
      | some p =>
        obtain ⟨b, k⟩ := p
        rw [hs'] at ho
        obtain ⟨cur', t', fz', f2, q1, q2, q3, q4, q5, q6, q7⟩ := ho
        exact ⟨cur', t', fz', f2, q1, q2, q3, q4, q5, q6, hcells hout.1 hout.2 q7⟩
  · have h : i < O3.length := h
    by_cases hlt : i < O.length
    · cases hfd : findN hs i 0 with
      | some j => rw [hF3f i j hlt hfd]; exact hO'.nodup j (by have := (hfind i j hfd).1; omega)
      | none => rw [hF3n i hlt hfd]; exact hr.objs.nodup i hlt
    · rw [hF3g i (by omega)]; exact hO'.nodup _ (by omega)
  · have hi : i < O3.length := hi
    have hj : j < O3.length := hj
    -- the place in the callee's list, if there is one
    have hpl : ∀ k, k < O3.length → (∃ q, q < (M' ++ N).length ∧ F3 k = F' q ∧ ((q < M.length ∧ hs[q]? = some k) ∨ (O.length ≤ k ∧ q = M.length + (k - O.length)))) ∨ (k < O.length ∧ findN hs k 0 = none ∧ F3 k = F k) := fun k hk' => by
      by_cases hlt : k < O.length
      · cases hfd : findN hs k 0 with
        | some q => obtain ⟨h1, h2⟩ := hfind k q hfd; exact .inl ⟨q, by omega, hF3f k q hlt hfd, .inl ⟨h1, h2⟩⟩
        | none => exact .inr ⟨hlt, rfl, hF3n k hlt hfd⟩
      · exact .inl ⟨_, by omega, hF3g k (by omega), .inr ⟨by omega, rfl⟩⟩
    have hcross : ∀ k q, k < O.length → findN hs k 0 = none → q < (M' ++ N).length → ∀ b ∈ F k, b ∉ F' q := fun k q hk' hn hq b hb hb' => by
      rcases (hsrc q hq b hb').1 with ⟨id, hid, hlt, hbf⟩ | h
      · have hne : k ≠ id := by rintro rfl; exact findN_none hn hid
        exact hr.objs.apart k id hk' hlt hne b hb hbf
      · have := (hr.foot k hk' b hb).2.2; omega
    rcases hpl i hi with ⟨q1, p1, p2, p3⟩ | ⟨p1, p2, p3⟩ <;> rcases hpl j hj with ⟨q2, r1, r2, r3⟩ | ⟨r1, r2, r3⟩
    · rw [p2] at hb; rw [r2]
      refine hO'.apart q1 q2 p1 r1 (fun e => ?_) b hb
      subst e
      rcases p3 with ⟨a1, a2⟩ | ⟨a1, a2⟩ <;> rcases r3 with ⟨b1, b2⟩ | ⟨b1, b2⟩
      · rw [a2] at b2; cases b2; exact hij rfl
      · omega
      · omega
      · omega
    · rw [p2] at hb; rw [r3]; intro hb'; exact hcross j q1 r1 r2 p1 b hb' hb
    · rw [p3] at hb; rw [r2]; exact hcross i q2 p1 p2 r1 b hb
    · rw [p3] at hb; rw [r3]; exact hr.objs.apart i j p1 r1 hij b hb
  · have h : i < O3.length := h
    by_cases hlt : i < O.length
    · cases hfd : findN hs i 0 with
      | some j => rw [hF3f i j hlt hfd] at hb; exact hnoS j (by have := (hfind i j hfd).1; omega) b hb
      | none =>
        rw [hF3n i hlt hfd] at hb
        obtain ⟨q1, q2, q3⟩ := hr.foot i hlt b hb
        refine ⟨q1, ?_, by have := hk.size; omega⟩
        rintro (h' | ⟨_, h'⟩)
        · exact q2 h'
        · omega
    · rw [hF3g i (by omega)] at hb; exact hnoS _ (by omega) b hb
  · rintro b (h' | ⟨_, h'⟩)
    · exact hr.base.2 b h'
    · exact .inr (by have := hr.keeps.size; omega)
  · rintro b (h' | ⟨h', _⟩)
    · have := hr.stable b h'; have := hk.size; omega
    · exact hS3 b h'
  · refine ⟨hk.os.trans hr.keeps.os, hk.tape.trans hr.keeps.tape, hk.output.trans hr.keeps.output, by have := hr.keeps.size; have := hk.size; omega, fun b hb hM0 => ?_⟩
    rw [hold b (by have := hr.keeps.size; omega) fun id hid hbf => ?_]
    · exact hr.keeps.block b hb hM0
    · obtain ⟨j, hj, e⟩ := hmem id hid
      rcases (hr.foot id (hidl j id e) b hbf).1 with h | h
      · exact hM0 h
      · omega
  · have hm : m ≤ O.length := hr.mle
    rw [show ι3 i = ι i from if_pos (by omega)]; exact hr.spots i h
  · have hm : m ≤ O.length := hr.mle
    show m ≤ O3.length
    omega
  · refine AV.reF_rel (S := S') (ι := ι') (O := M' ++ N) (fun id hid => ?_) (fun id ob hid h => ?_) r r' hre hv
    · show (if _ then _ else _) = _
      rw [if_neg (by omega)]; congr 1; omega
    · show O3[id - M.length + O.length]? = some ob
      rw [hO3ge _ (by omega), Nat.add_sub_cancel]
      rw [List.getElem?_append_right (by omega), hlen] at h
      exact h

/-- A call that writes into what it is handed. -/
theorem WpL.callG {f : FuncId} {xs : List Operand} {ats : Array TypeId} {As : List AV} {M M' N O2 : List AObj} {r r' : AV} {hs : List Nat} {k base d : Nat} (hc : FnG P f As M M' N r) (hh : Hand O hs (xs.map (av T)) As) (hM : HandO O hs M) (hnd : nodupB hs = true)
    (hlen : (M'.map AObj.size) = (M.map AObj.size)) (hM' : Out M') (hN : Out N) (hk : cnt M.length 0 = some k) (hb : cnt O.length 0 = some base) (hre : r.reF k base = some r') (hO2 : newF hs M' 0 O N = some O2) (hn : d < n) (h : WpL P n m G false ops l ⟨(d, r') :: T, O2⟩ Q) :
    WpL P n m G false ops ({ dst := some d, op := .call { callee := .value (.func f), args := xs.toArray, argTypes := ats }, type := tt, pos := pos, after := after, guard := none } :: l) ⟨T, O⟩ Q :=
  WpL.op rfl (fun a w hr => by
    have := newF_eq hO2; subst this
    have e1 := cnt_eq hk; rw [Nat.add_zero] at e1; subst e1
    have e2 := cnt_eq hb; rw [Nat.add_zero] at e2; subst e2
    have hl : M'.length = M.length := by have := congrArg List.length hlen; simpa using this
    have hcl := callG_rel hc hh hM (nodupB_spec hnd) hl (fun j x y hx hy => by
      have := congrArg (fun l : List Nat => l[j]?) hlen
      simp only [List.getElem?_map, hx, hy, Option.map_some, Option.some.injEq] at this
      exact this) hM' hN hre hr
    obtain ⟨⟨fn, hf, hbd, hnm⟩, _⟩ := hc
    have hex : (execOp a.eval { dst := some d, op := .call { callee := .value (.func f), args := xs.toArray, argTypes := ats }, type := tt, pos := pos, after := after, guard := none }).run P w = .ok (.enter f (xs.map a.eval).toArray) w := by
      simp only [execOp, resolve, Act.eval, Deferred.ofValue, invoke, callFunc, Sem.run_bind, Sem.run_pure, Result.andThen_ok, program, Sem.run, hf, hnm, hbd, Bool.false_eq_true, if_false]
      simp
    unfold Oper.wp
    rw [hex]
    refine hcl.mono fun e w' ⟨v, he, S, ι, F, hr', hv⟩ => ?_
    subst he
    exact ⟨S, ι, F, hr'.put hn hv⟩) h
/-- The same, the result thrown away. -/
theorem WpL.callG0 {f : FuncId} {xs : List Operand} {ats : Array TypeId} {As : List AV} {M M' N O2 : List AObj} {r r' : AV} {hs : List Nat} {k base : Nat} (hc : FnG P f As M M' N r) (hh : Hand O hs (xs.map (av T)) As) (hM : HandO O hs M) (hnd : nodupB hs = true)
    (hlen : (M'.map AObj.size) = (M.map AObj.size)) (hM' : Out M') (hN : Out N) (hk : cnt M.length 0 = some k) (hb : cnt O.length 0 = some base) (hre : r.reF k base = some r') (hO2 : newF hs M' 0 O N = some O2) (h : WpL P n m G false ops l ⟨T, O2⟩ Q) :
    WpL P n m G false ops ({ dst := none, op := .call { callee := .value (.func f), args := xs.toArray, argTypes := ats }, type := tt, pos := pos, after := after, guard := none } :: l) ⟨T, O⟩ Q :=
  WpL.op rfl (fun a w hr => by
    have := newF_eq hO2; subst this
    have e1 := cnt_eq hk; rw [Nat.add_zero] at e1; subst e1
    have e2 := cnt_eq hb; rw [Nat.add_zero] at e2; subst e2
    have hl : M'.length = M.length := by have := congrArg List.length hlen; simpa using this
    have hcl := callG_rel hc hh hM (nodupB_spec hnd) hl (fun j x y hx hy => by
      have := congrArg (fun l : List Nat => l[j]?) hlen
      simp only [List.getElem?_map, hx, hy, Option.map_some, Option.some.injEq] at this
      exact this) hM' hN hre hr
    obtain ⟨⟨fn, hf, hbd, hnm⟩, _⟩ := hc
    have hex : (execOp a.eval { dst := none, op := .call { callee := .value (.func f), args := xs.toArray, argTypes := ats }, type := tt, pos := pos, after := after, guard := none }).run P w = .ok (.enter f (xs.map a.eval).toArray) w := by
      simp only [execOp, resolve, Act.eval, Deferred.ofValue, invoke, callFunc, Sem.run_bind, Sem.run_pure, Result.andThen_ok, program, Sem.run, hf, hnm, hbd, Bool.false_eq_true, if_false]
      simp
    unfold Oper.wp
    rw [hex]
    refine hcl.mono fun e w' ⟨v, he, S, ι, F, hr', hv⟩ => ?_
    subst he
    exact ⟨S, ι, F, hr'.put_none v⟩) h
end

/-- 'Hand', with the objects handed in sight. -/
def HandM (O : List AObj) (hs : List Nat) (M : List AObj) (vs us : List AV) : Prop := Hand O hs vs us
section
variable {O : List AObj} {hs : List Nat} {M : List AObj} {vs us : List AV}
theorem HandM.nil : HandM O hs M [] [] := Hand.nil
theorem HandM.any {V} (r : HandM O hs M vs us) : HandM O hs M (V :: vs) (.any :: us) := Hand.any r
theorem HandM.keep {V : AV} (h1 : V.still = true) (h2 : V.nofre = true) (r : HandM O hs M vs us) : HandM O hs M (V :: vs) (V :: us) := Hand.keep h1 h2 r
theorem HandM.own {id ep off len len' j : Nat} {ob mb : AObj} (hj : hs[j]? = some id) (ho : O[id]? = some ob) (he : ob.ep = ep) (hm : M[j]? = some mb) (hc : ob.cells = mb.cells) (hl : len = len') (r : HandM O hs M vs us) : HandM O hs M (.own id ep off len :: vs) (.own j 0 off len' :: us) := Hand.own hj ho he hl r
theorem HandM.ptr {id ep off j : Nat} {ob mb : AObj} (hj : hs[j]? = some id) (ho : O[id]? = some ob) (he : ob.ep = ep) (hm : M[j]? = some mb) (hc : ob.cells = mb.cells) (r : HandM O hs M vs us) : HandM O hs M (.ptr id ep off :: vs) (.ptr j 0 off :: us) := Hand.ptr hj ho he r
theorem HandM.snap {V U : AV} (h : SnapX O hs [V] [U]) (r : HandM O hs M vs us) : HandM O hs M (V :: vs) (U :: us) := Hand.snap h r
theorem HandM.agg {ds es} (r1 : HandM O hs M ds es) (r : HandM O hs M vs us) : HandM O hs M (.agg ds :: vs) (.agg es :: us) := Hand.agg r1 r
end
section
variable {P : Program} {n m : Nat} {G : Ctx} {T : List (Nat × AV)} {O : List AObj} {Q : Exit → St → Prop} {ops : Array Oper} {l : List Oper} {tt : TypeId} {pos : String} {after : Array Edge} {tab : List (Nat × Ty)}
theorem WpL.callM {f : FuncId} {xs : List Operand} {ats : Array TypeId} {As : List AV} {M M' N O2 : List AObj} {r r' : AV} {hs : List Nat} {k base d : Nat} (hc : FnG P f As M M' N r) (hh : HandM O hs M (xs.map (av T)) As) (hM : HandO O hs M) (hnd : nodupB hs = true)
    (hlen : (M'.map AObj.size) = (M.map AObj.size)) (hM' : Out M') (hN : Out N) (hk : cnt M.length 0 = some k) (hb : cnt O.length 0 = some base) (hre : r.reF k base = some r') (hO2 : newF hs M' 0 O N = some O2) (hn : d < n) (h : WpL P n m G false ops l ⟨(d, r') :: T, O2⟩ Q) :
    WpL P n m G false ops ({ dst := some d, op := .call { callee := .value (.func f), args := xs.toArray, argTypes := ats }, type := tt, pos := pos, after := after, guard := none } :: l) ⟨T, O⟩ Q := WpL.callG hc hh hM hnd hlen hM' hN hk hb hre hO2 hn h
theorem WpL.callM0 {f : FuncId} {xs : List Operand} {ats : Array TypeId} {As : List AV} {M M' N O2 : List AObj} {r r' : AV} {hs : List Nat} {k base : Nat} (hc : FnG P f As M M' N r) (hh : HandM O hs M (xs.map (av T)) As) (hM : HandO O hs M) (hnd : nodupB hs = true)
    (hlen : (M'.map AObj.size) = (M.map AObj.size)) (hM' : Out M') (hN : Out N) (hk : cnt M.length 0 = some k) (hb : cnt O.length 0 = some base) (hre : r.reF k base = some r') (hO2 : newF hs M' 0 O N = some O2) (h : WpL P n m G false ops l ⟨T, O2⟩ Q) :
    WpL P n m G false ops ({ dst := none, op := .call { callee := .value (.func f), args := xs.toArray, argTypes := ats }, type := tt, pos := pos, after := after, guard := none } :: l) ⟨T, O⟩ Q := WpL.callG0 hc hh hM hnd hlen hM' hN hk hb hre hO2 h
theorem FnG.of_bodyF (hP : TabOk P tab) {f : FuncId} {fn : Func} {c : Code} {args : List AV} {M M' N MN : List AObj} {r : AV} {k : Nat} (hf : P.funcs[f]? = some fn) (hnt : fn.ntmps = k) (hb : fn.body = some c) (hnm : (fn.name == "runtime.NumGoroutine") = false)
    (hal : args.length ≤ k) (hml : cnt M.length 0 = some m) (hMN : catF M' N = some MN) (h : ∀ G, WpA P k m G c ⟨enumT 0 args, M⟩ (FinG tab m fn.results MN r)) : FnG P f args M M' N r := by
  have := catF_eq hMN; subst this
  exact FnG.of_body hP hf hnt hb hnm hal (cnt_eq hml) h
variable {r r1v r2v : AV} {r1 r2 : ResultVar} {e' : Exit} {a b : Option Nat} {o1 o2 o3 o4 o5 : AObj}
theorem FinG.e {rs : Array ResultVar} {N : List AObj} {r : AV} {σ : St} {e : Exit} (he : endB e = true) (h : ResG tab m N r rs σ) : FinG tab m rs N r e σ := by
  cases e <;> first | exact h | cases he
theorem FinG.z10 (he : endB e' = true) (hx : Ex O [some 0] [.tup []] [r]) (hN : NEx O [some 0] [o1]) : FinG tab 1 #[] [o1] r e' ⟨T, O⟩ := FinG.e he (.zero hN (nodupB_spec rfl) rfl hx)
theorem FinG.z11 (he : endB e' = true) (hx : Ex O [some 0, a] [.tup []] [r]) (hN : NEx O [some 0, a] [o1, o2]) (hd : nodupB ([some 0, a].filterMap id) = true) : FinG tab 1 #[] [o1, o2] r e' ⟨T, O⟩ := FinG.e he (.zero hN (nodupB_spec hd) rfl hx)
theorem FinG.z20 (he : endB e' = true) (hx : Ex O [some 0, some 1] [.tup []] [r]) (hN : NEx O [some 0, some 1] [o1, o2]) : FinG tab 2 #[] [o1, o2] r e' ⟨T, O⟩ := FinG.e he (.zero hN (nodupB_spec rfl) rfl hx)
theorem FinG.z21 (he : endB e' = true) (hx : Ex O [some 0, some 1, a] [.tup []] [r]) (hN : NEx O [some 0, some 1, a] [o1, o2, o3]) (hd : nodupB ([some 0, some 1, a].filterMap id) = true) : FinG tab 2 #[] [o1, o2, o3] r e' ⟨T, O⟩ := FinG.e he (.zero hN (nodupB_spec hd) rfl hx)
theorem FinG.z30 (he : endB e' = true) (hx : Ex O [some 0, some 1, some 2] [.tup []] [r]) (hN : NEx O [some 0, some 1, some 2] [o1, o2, o3]) : FinG tab 3 #[] [o1, o2, o3] r e' ⟨T, O⟩ := FinG.e he (.zero hN (nodupB_spec rfl) rfl hx)
theorem FinG.z31 (he : endB e' = true) (hx : Ex O [some 0, some 1, some 2, a] [.tup []] [r]) (hN : NEx O [some 0, some 1, some 2, a] [o1, o2, o3, o4]) (hd : nodupB ([some 0, some 1, some 2, a].filterMap id) = true) : FinG tab 3 #[] [o1, o2, o3, o4] r e' ⟨T, O⟩ := FinG.e he (.zero hN (nodupB_spec hd) rfl hx)
theorem FinG.z40 (he : endB e' = true) (hx : Ex O [some 0, some 1, some 2, some 3] [.tup []] [r]) (hN : NEx O [some 0, some 1, some 2, some 3] [o1, o2, o3, o4]) : FinG tab 4 #[] [o1, o2, o3, o4] r e' ⟨T, O⟩ := FinG.e he (.zero hN (nodupB_spec rfl) rfl hx)
theorem FinG.z41 (he : endB e' = true) (hx : Ex O [some 0, some 1, some 2, some 3, a] [.tup []] [r]) (hN : NEx O [some 0, some 1, some 2, some 3, a] [o1, o2, o3, o4, o5]) (hd : nodupB ([some 0, some 1, some 2, some 3, a].filterMap id) = true) : FinG tab 4 #[] [o1, o2, o3, o4, o5] r e' ⟨T, O⟩ := FinG.e he (.zero hN (nodupB_spec hd) rfl hx)
theorem FinG.o10 (he : endB e' = true) (hv : ResV tab T O r1 r1v) (hx : Ex O [some 0] [r1v] [r]) (hN : NEx O [some 0] [o1]) : FinG tab 1 #[r1] [o1] r e' ⟨T, O⟩ := FinG.e he (.one hv hN (nodupB_spec rfl) rfl hx)
theorem FinG.o11 (he : endB e' = true) (hv : ResV tab T O r1 r1v) (hx : Ex O [some 0, a] [r1v] [r]) (hN : NEx O [some 0, a] [o1, o2]) (hd : nodupB ([some 0, a].filterMap id) = true) : FinG tab 1 #[r1] [o1, o2] r e' ⟨T, O⟩ := FinG.e he (.one hv hN (nodupB_spec hd) rfl hx)
theorem FinG.o20 (he : endB e' = true) (hv : ResV tab T O r1 r1v) (hx : Ex O [some 0, some 1] [r1v] [r]) (hN : NEx O [some 0, some 1] [o1, o2]) : FinG tab 2 #[r1] [o1, o2] r e' ⟨T, O⟩ := FinG.e he (.one hv hN (nodupB_spec rfl) rfl hx)
theorem FinG.o21 (he : endB e' = true) (hv : ResV tab T O r1 r1v) (hx : Ex O [some 0, some 1, a] [r1v] [r]) (hN : NEx O [some 0, some 1, a] [o1, o2, o3]) (hd : nodupB ([some 0, some 1, a].filterMap id) = true) : FinG tab 2 #[r1] [o1, o2, o3] r e' ⟨T, O⟩ := FinG.e he (.one hv hN (nodupB_spec hd) rfl hx)
theorem FinG.o30 (he : endB e' = true) (hv : ResV tab T O r1 r1v) (hx : Ex O [some 0, some 1, some 2] [r1v] [r]) (hN : NEx O [some 0, some 1, some 2] [o1, o2, o3]) : FinG tab 3 #[r1] [o1, o2, o3] r e' ⟨T, O⟩ := FinG.e he (.one hv hN (nodupB_spec rfl) rfl hx)
theorem FinG.o31 (he : endB e' = true) (hv : ResV tab T O r1 r1v) (hx : Ex O [some 0, some 1, some 2, a] [r1v] [r]) (hN : NEx O [some 0, some 1, some 2, a] [o1, o2, o3, o4]) (hd : nodupB ([some 0, some 1, some 2, a].filterMap id) = true) : FinG tab 3 #[r1] [o1, o2, o3, o4] r e' ⟨T, O⟩ := FinG.e he (.one hv hN (nodupB_spec hd) rfl hx)
theorem FinG.o40 (he : endB e' = true) (hv : ResV tab T O r1 r1v) (hx : Ex O [some 0, some 1, some 2, some 3] [r1v] [r]) (hN : NEx O [some 0, some 1, some 2, some 3] [o1, o2, o3, o4]) : FinG tab 4 #[r1] [o1, o2, o3, o4] r e' ⟨T, O⟩ := FinG.e he (.one hv hN (nodupB_spec rfl) rfl hx)
theorem FinG.o41 (he : endB e' = true) (hv : ResV tab T O r1 r1v) (hx : Ex O [some 0, some 1, some 2, some 3, a] [r1v] [r]) (hN : NEx O [some 0, some 1, some 2, some 3, a] [o1, o2, o3, o4, o5]) (hd : nodupB ([some 0, some 1, some 2, some 3, a].filterMap id) = true) : FinG tab 4 #[r1] [o1, o2, o3, o4, o5] r e' ⟨T, O⟩ := FinG.e he (.one hv hN (nodupB_spec hd) rfl hx)
theorem FinG.t10 (he : endB e' = true) (hv : ResV tab T O r1 r1v) (hv2 : ResV tab T O r2 r2v) (hx : Ex O [some 0] [.tup [r1v, r2v]] [r]) (hN : NEx O [some 0] [o1]) : FinG tab 1 #[r1, r2] [o1] r e' ⟨T, O⟩ := FinG.e he (.two hv hv2 hN (nodupB_spec rfl) rfl hx)
theorem FinG.t11 (he : endB e' = true) (hv : ResV tab T O r1 r1v) (hv2 : ResV tab T O r2 r2v) (hx : Ex O [some 0, a] [.tup [r1v, r2v]] [r]) (hN : NEx O [some 0, a] [o1, o2]) (hd : nodupB ([some 0, a].filterMap id) = true) : FinG tab 1 #[r1, r2] [o1, o2] r e' ⟨T, O⟩ := FinG.e he (.two hv hv2 hN (nodupB_spec hd) rfl hx)
theorem FinG.t20 (he : endB e' = true) (hv : ResV tab T O r1 r1v) (hv2 : ResV tab T O r2 r2v) (hx : Ex O [some 0, some 1] [.tup [r1v, r2v]] [r]) (hN : NEx O [some 0, some 1] [o1, o2]) : FinG tab 2 #[r1, r2] [o1, o2] r e' ⟨T, O⟩ := FinG.e he (.two hv hv2 hN (nodupB_spec rfl) rfl hx)
theorem FinG.t21 (he : endB e' = true) (hv : ResV tab T O r1 r1v) (hv2 : ResV tab T O r2 r2v) (hx : Ex O [some 0, some 1, a] [.tup [r1v, r2v]] [r]) (hN : NEx O [some 0, some 1, a] [o1, o2, o3]) (hd : nodupB ([some 0, some 1, a].filterMap id) = true) : FinG tab 2 #[r1, r2] [o1, o2, o3] r e' ⟨T, O⟩ := FinG.e he (.two hv hv2 hN (nodupB_spec hd) rfl hx)
theorem FinG.t30 (he : endB e' = true) (hv : ResV tab T O r1 r1v) (hv2 : ResV tab T O r2 r2v) (hx : Ex O [some 0, some 1, some 2] [.tup [r1v, r2v]] [r]) (hN : NEx O [some 0, some 1, some 2] [o1, o2, o3]) : FinG tab 3 #[r1, r2] [o1, o2, o3] r e' ⟨T, O⟩ := FinG.e he (.two hv hv2 hN (nodupB_spec rfl) rfl hx)
theorem FinG.t31 (he : endB e' = true) (hv : ResV tab T O r1 r1v) (hv2 : ResV tab T O r2 r2v) (hx : Ex O [some 0, some 1, some 2, a] [.tup [r1v, r2v]] [r]) (hN : NEx O [some 0, some 1, some 2, a] [o1, o2, o3, o4]) (hd : nodupB ([some 0, some 1, some 2, a].filterMap id) = true) : FinG tab 3 #[r1, r2] [o1, o2, o3, o4] r e' ⟨T, O⟩ := FinG.e he (.two hv hv2 hN (nodupB_spec hd) rfl hx)
theorem FinG.t40 (he : endB e' = true) (hv : ResV tab T O r1 r1v) (hv2 : ResV tab T O r2 r2v) (hx : Ex O [some 0, some 1, some 2, some 3] [.tup [r1v, r2v]] [r]) (hN : NEx O [some 0, some 1, some 2, some 3] [o1, o2, o3, o4]) : FinG tab 4 #[r1, r2] [o1, o2, o3, o4] r e' ⟨T, O⟩ := FinG.e he (.two hv hv2 hN (nodupB_spec rfl) rfl hx)
theorem FinG.t41 (he : endB e' = true) (hv : ResV tab T O r1 r1v) (hv2 : ResV tab T O r2 r2v) (hx : Ex O [some 0, some 1, some 2, some 3, a] [.tup [r1v, r2v]] [r]) (hN : NEx O [some 0, some 1, some 2, some 3, a] [o1, o2, o3, o4, o5]) (hd : nodupB ([some 0, some 1, some 2, some 3, a].filterMap id) = true) : FinG tab 4 #[r1, r2] [o1, o2, o3, o4, o5] r e' ⟨T, O⟩ := FinG.e he (.two hv hv2 hN (nodupB_spec hd) rfl hx)
end
end Go.Abs
namespace Go.Abs.K
theorem FG {tab : List (Nat × Ty)} {m : Nat} {rs : Array ResultVar} {N : List AObj} {r : AV} {e : Exit} {σ : St} (h : Abs.FinG tab m rs N r e σ) : Abs.FinG tab m rs N r e σ := h
end Go.Abs.K

/- Nested slices: a slice that a cell names becomes one that the cell owns, and back; a nil slice becomes an own one. No condition. -/
namespace Go.Abs
open Go
set_option linter.unusedVariables false
set_option linter.unusedSimpArgs false

/-- One cell in its list: its footprint apart from the others', and how to put another in its place over the same values. -/
theorem LRel.at {S w ι O cs vs f} (h : LRel S w ι O cs vs f) {i : Nat} {V : AV} (hi : cs[i]? = some V) : ∃ x f1 g f2, vs[i]? = some x ∧ f = f1 ++ (g ++ f2) ∧ VRel S w ι O V x g ∧
    ∀ {S' w' ι' O'}, (∀ {as us e}, LRel S w ι O as us e → LRel S' w' ι' O' as us e) → ∀ V' g', VRel S' w' ι' O' V' x g' → LRel S' w' ι' O' (cs.set i V') vs (f1 ++ (g' ++ f2)) := by
  have hlt : i < cs.length := (List.getElem?_eq_some_iff.1 hi).1
  have hV : cs[i] = V := (List.getElem?_eq_some_iff.1 hi).2
  have e : cs = cs.take i ++ ([V] ++ cs.drop (i + 1)) := by
    rw [List.singleton_append, ← hV, ← List.drop_eq_getElem_cons hlt, List.take_append_drop]
  rw [e] at h
  obtain ⟨us, vs2, f1, f3, rfl, h1, h2, rfl⟩ := h.split
  obtain ⟨xs, vs3, g, f2, rfl, h3, h4, rfl⟩ := h2.split
  have hl1 := h1.len
  have hl3 := h3.len
  have hul : us.length = i := by rw [← hl1, List.length_take]; omega
  obtain ⟨x, rfl⟩ : ∃ x, xs = [x] := by
    cases xs with
    | nil => simp at hl3
    | cons x xs => cases xs with
      | nil => exact ⟨x, rfl⟩
      | cons y ys => simp at hl3
  refine ⟨x, f1, g, f2, by rw [List.getElem?_append_right (by omega), hul]; simp, rfl, h3, fun {S' w' ι' O'} mono V' g' hv => ?_⟩
  have e2 : cs.set i V' = cs.take i ++ ([V'] ++ cs.drop (i + 1)) := by
    rw [List.set_eq_take_append_cons_drop, if_pos hlt]; simp
  rw [e2]
  exact LRel.append (mono h1) (LRel.append hv (mono h4))

theorem getElem?_set2 {α : Type} {O : List α} {id j : Nat} {x y z : α} {i : Nat} (h : ((O.set id x).set j y)[i]? = some z) : (i = j ∧ z = y ∧ j < O.length) ∨ (i ≠ j ∧ i = id ∧ z = x ∧ id < O.length) ∨ (i ≠ j ∧ i ≠ id ∧ O[i]? = some z) := by
  have hlt : i < O.length := by have := (List.getElem?_eq_some_iff.1 h).1; simpa using this
  rw [List.getElem?_set] at h
  by_cases h1 : j = i
  · subst h1; simp [hlt] at h; exact .inl ⟨rfl, h.symm, hlt⟩
  · rw [if_neg h1, List.getElem?_set] at h
    by_cases h2 : id = i
    · subst h2; simp [hlt] at h; exact .inr (.inl ⟨fun e => h1 e.symm, rfl, h.symm, hlt⟩)
    · rw [if_neg h2] at h; exact .inr (.inr ⟨fun e => h1 e.symm, fun e => h2 e.symm, h⟩)

theorem RelAt.nest {n m G S ι F T O a w} (hr : RelAt n m G S ι F ⟨T, O⟩ a w) {id j off ep len : Nat} {ob oj : AObj} (ho : O[id]? = some ob) (hj : O[j]? = some oj) (hne : id ≠ j) (hm : m ≤ j)
    (hc : ob.cells[off]? = some (.own j ep 0 len)) (hep : oj.ep = ep) (hst : oj.cells.all AV.still = true) (hlen : len * oj.size = oj.cells.length) :
    ∃ F', RelAt n m G S (upd ι j none) F' ⟨T, (O.set id ⟨ob.cells.set off (.fre oj.size len oj.cells), ob.ep, ob.size, ob.ty⟩).set j ⟨[], oj.ep + 1, 0, none⟩⟩ a w := by
  have hidl : id < O.length := (List.getElem?_eq_some_iff.1 ho).1
  have hjl : j < O.length := (List.getElem?_eq_some_iff.1 hj).1
  generalize hob2 : (⟨ob.cells.set off (.fre oj.size len oj.cells), ob.ep, ob.size, ob.ty⟩ : AObj) = ob2
  generalize hoj2 : (⟨[], oj.ep + 1, 0, none⟩ : AObj) = oj2
  have hO2 : ∀ i : Nat, ((O.set id ob2).set j oj2)[i]? = if i = j then some oj2 else if i = id then some ob2 else O[i]? := by
    intro i
    by_cases h1 : i = j
    · subst h1; simp [hjl]
    · have h1' : ¬ j = i := fun e => h1 e.symm
      by_cases h2 : i = id
      · subst h2; simp [List.getElem?_set, h1, h1', hidl]
      · have h2' : ¬ id = i := fun e => h2 e.symm
        simp [List.getElem?_set, h1, h1', h2, h2']
  have hlat : Later S w ι O S w (upd ι j none) ((O.set id ob2).set j oj2) := by
    refine ⟨fun _ h => h, fun _ _ => rfl, fun i obi hi => ?_⟩
    by_cases h1 : i = j
    · subst h1; rw [hj] at hi; cases hi
      exact ⟨oj2, by rw [hO2, if_pos rfl], .inl (by rw [← hoj2]; exact Nat.lt_succ_self _)⟩
    · by_cases h2 : i = id
      · subst h2; rw [ho] at hi; cases hi
        exact ⟨ob2, by rw [hO2, if_neg h1, if_pos rfl], .inr ⟨by rw [← hob2], by rw [← hob2], upd_other _ _ h1⟩⟩
      · exact ⟨obi, by rw [hO2, if_neg h1, if_neg h2]; exact hi, .inr ⟨rfl, rfl, upd_other _ _ h1⟩⟩
  have hOid := hr.objs.obj id ob ho
  have hOj := hr.objs.obj j oj hj
  have hndi := hr.objs.nodup id hidl
  have hndj := hr.objs.nodup j hjl
  have hap := hr.objs.apart id j hidl hjl hne
  unfold ObjAt at hOid
  cases hs : ι id with
  | none => rw [hs] at hOid; rw [hOid.1] at hc; simp at hc
  | some p =>
    obtain ⟨b, k⟩ := p
    rw [hs] at hOid
    obtain ⟨cur, t, fz, f', hF, h1, h2, h3, h4, h5, h6⟩ := hOid
    obtain ⟨x, f1', g, f2', hx, hf', hV, hput⟩ := h6.at hc
    have hg : g = [] := nofre_nil hV rfl
    subst hg
    have hnew : VRel S w (upd ι j none) ((O.set id ob2).set j oj2) (.fre oj.size len oj.cells) x (F j) := by
      cases hV with
      | own q1 q2 q3 r =>
        rw [hj] at q1; cases q1
        have hown := q3 hep.symm
        unfold ObjAt at hOj
        cases hsj : ι j with
        | none =>
          rw [hsj] at hown hOj
          obtain ⟨rfl, _, rfl⟩ := hown
          rw [hOj.1, hOj.2]
          exact .fre0 .nil
        | some pj =>
          obtain ⟨bj, kj⟩ := pj
          rw [hsj] at hown hOj
          obtain ⟨cap, rfl, hk, hlc, hcm⟩ := hown
          obtain ⟨curj, tj, fzj, fj', hFj, j1, j2, j3, j4, _, j6⟩ := hOj
          rw [hFj]
          have := LRel.fre (S := S) (w := w) (ι := upd ι j none) (O := (O.set id ob2).set j oj2) (size := oj.size) (len := len) (cap := cap) (cs := []) (vs := []) (g := []) ⟨j1, fun i hi => j4 i (by omega)⟩ (by omega) rfl (still_all hst j6 (fun _ h => h) (fun _ _ => rfl) (fun _ _ => rfl)) hlen hlc hcm .nil
          simpa using this
    have hl2 := hput (fun h => h.mono hlat (fun _ _ => rfl)) _ _ hnew
    have hff : f1' ++ f2' = f' := by rw [hf']; simp
    refine ⟨upd (upd F id (b :: (f1' ++ (F j ++ f2')))) j [], hr.defers, hr.size, fun t' => (hr.tmps t').mono hlat (fun _ _ => rfl), ⟨fun i obi hi => ?_, fun i hi => ?_, fun i i' hi hi' hii c hcm => ?_⟩, fun i hi c hcm => ?_, hr.base, hr.stable, hr.keeps, fun i hi => ?_, ?_⟩
    · have hi : ((O.set id ob2).set j oj2)[i]? = some obi := hi
      rw [hO2] at hi
      by_cases e1 : i = j
      · subst e1
        rw [if_pos rfl] at hi; cases hi
        rw [upd_same, upd_same, ← hoj2]
        exact ⟨rfl, rfl⟩
      · rw [if_neg e1] at hi
        rw [upd_other _ _ e1, upd_other _ _ e1]
        by_cases e2 : i = id
        · subst e2
          rw [if_pos rfl] at hi; cases hi
          rw [upd_same, hs]
          refine ⟨cur, t, fz, f1' ++ (F j ++ f2'), rfl, h1, h2, by rw [← hob2]; simpa using h3, h4, fun e he => h5 e (by rw [← hob2] at he; exact he), ?_⟩
          rw [← hob2]
          simp only [List.length_set]
          rw [← hob2] at hl2
          exact hl2
        · rw [if_neg e2] at hi
          rw [upd_other _ _ e2]
          have hob := hr.objs.obj i obi hi
          unfold ObjAt at hob ⊢
          cases hsi : ι i with
          | none => rw [hsi] at hob; exact hob
          | some pi =>
            rw [hsi] at hob
            obtain ⟨cur', t', fz', f2'', q1, q2, q3, q4, q5, q6, q7⟩ := hob
            exact ⟨cur', t', fz', f2'', q1, q2, q3, q4, q5, q6, q7.mono hlat (fun _ _ => rfl)⟩
    · have hi : i < ((O.set id ob2).set j oj2).length := hi
      simp only [List.length_set] at hi
      by_cases e1 : i = j
      · subst e1; rw [upd_same]; exact List.nodup_nil
      · rw [upd_other _ _ e1]
        by_cases e2 : i = id
        · subst e2; rw [upd_same]
          rw [hF, ← hff] at hndi
          obtain ⟨n1, n2⟩ := List.nodup_cons.1 hndi
          obtain ⟨n3, n4, n5⟩ := List.nodup_append.1 n2
          have hap' : ∀ c, c ∈ f1' ++ f2' → c ∉ F j := fun c hc => hap c (by rw [hF, ← hff]; exact List.mem_cons_of_mem _ hc)
          refine List.nodup_cons.2 ⟨?_, List.nodup_append.2 ⟨n3, List.nodup_append.2 ⟨hndj, n4, ?_⟩, ?_⟩⟩
          · intro hb
            rcases List.mem_append.1 hb with hb | hb
            · exact n1 (List.mem_append_left _ hb)
            · rcases List.mem_append.1 hb with hb | hb
              · exact hap b (by rw [hF]; simp) hb
              · exact n1 (List.mem_append_right _ hb)
          · intro c hc d hd e; subst e
            exact hap' c (List.mem_append_right _ hd) hc
          · intro c hc d hd e; subst e
            rcases List.mem_append.1 hd with hd | hd
            · exact hap' c (List.mem_append_left _ hc) hd
            · exact n5 c hc c hd rfl
        · rw [upd_other _ _ e2]; exact hr.objs.nodup i hi
    · have hi : i < ((O.set id ob2).set j oj2).length := hi
      have hi' : i' < ((O.set id ob2).set j oj2).length := hi'
      have hi : i < O.length := by simpa using hi
      have hi' : i' < O.length := by simpa using hi'
      have memid : ∀ c, c ∈ b :: (f1' ++ (F j ++ f2')) → c ∈ F id ∨ c ∈ F j := by
        intro c hc
        rw [hF, ← hff]
        rcases List.mem_cons.1 hc with hc | hc
        · exact .inl (by simp [hc])
        · rcases List.mem_append.1 hc with hc | hc
          · exact .inl (by simp [hc])
          · rcases List.mem_append.1 hc with hc | hc
            · exact .inr hc
            · exact .inl (by simp [hc])
      by_cases e1 : i = j
      · subst e1; rw [upd_same] at hcm; simp at hcm
      · rw [upd_other _ _ e1] at hcm
        by_cases e1' : i' = j
        · subst e1'; rw [upd_same]; simp
        · rw [upd_other _ _ e1']
          by_cases e2 : i = id
          · subst e2; rw [upd_same] at hcm
            rw [upd_other _ _ (fun e => hii e.symm)]
            rcases memid c hcm with h | h
            · exact hr.objs.apart i i' hidl (by simpa using hi') hii c h
            · exact hr.objs.apart j i' hjl (by simpa using hi') (fun e => e1' e.symm) c h
          · rw [upd_other _ _ e2] at hcm
            by_cases e2' : i' = id
            · subst e2'; rw [upd_same]
              intro hc'
              rcases memid c hc' with h | h
              · exact hr.objs.apart i i' (by simpa using hi) hidl hii c hcm h
              · exact hr.objs.apart i j (by simpa using hi) hjl e1 c hcm h
            · rw [upd_other _ _ e2']; exact hr.objs.apart i i' (by simpa using hi) (by simpa using hi') hii c hcm
    · have hi : i < ((O.set id ob2).set j oj2).length := hi
      simp only [List.length_set] at hi
      by_cases e1 : i = j
      · subst e1; rw [upd_same] at hcm; simp at hcm
      · rw [upd_other _ _ e1] at hcm
        by_cases e2 : i = id
        · subst e2; rw [upd_same] at hcm
          rcases List.mem_cons.1 hcm with hc | hc
          · exact hr.foot i hidl c (by rw [hF, hc]; simp)
          · rcases List.mem_append.1 hc with hc | hc
            · exact hr.foot i hidl c (by rw [hF, ← hff]; simp [hc])
            · rcases List.mem_append.1 hc with hc | hc
              · exact hr.foot j hjl c hc
              · exact hr.foot i hidl c (by rw [hF, ← hff]; simp [hc])
        · rw [upd_other _ _ e2] at hcm; exact hr.foot i hi c hcm
    · rw [upd_other _ _ (by omega)]; exact hr.spots i hi
    · show m ≤ ((O.set id ob2).set j oj2).length
      simp only [List.length_set]; exact hr.mle

/-- The same object, its cell named by a new object's number. -/
theorem RelAt.unnest {n m G S ι F T O a w} (hr : RelAt n m G S ι F ⟨T, O⟩ a w) {id off s len : Nat} {ob : AObj} {cs : List AV} (ho : O[id]? = some ob) (hc : ob.cells[off]? = some (.fre s len cs)) :
    ∃ ι' F', RelAt n m G S ι' F' ⟨T, O.set id ⟨ob.cells.set off (.own O.length 0 0 len), ob.ep, ob.size, ob.ty⟩ ++ [⟨cs, 0, s, none⟩]⟩ a w := by
  have hidl : id < O.length := (List.getElem?_eq_some_iff.1 ho).1
  have apartO : ∀ i j, i < O.length → j < O.length → i ≠ j → ∀ b, b ∈ F i → b ∉ F j := hr.objs.apart
  have nodupO : ∀ i, i < O.length → (F i).Nodup := hr.objs.nodup
  have footO : ∀ id, id < O.length → ∀ b, b ∈ F id → (G.M0 b ∨ G.w0.heap.size ≤ b) ∧ ¬ S b ∧ b < w.heap.size := hr.foot
  generalize hob2 : (⟨ob.cells.set off (.own O.length 0 0 len), ob.ep, ob.size, ob.ty⟩ : AObj) = ob2
  generalize hojn : (⟨cs, 0, s, none⟩ : AObj) = oj
  have hO2 : ∀ i : Nat, (O.set id ob2 ++ [oj])[i]? = if i = O.length then some oj else if i = id then some ob2 else O[i]? := by
    intro i
    by_cases h1 : i = O.length
    · subst h1; rw [if_pos rfl, List.getElem?_append_right (by simp)]; simp
    · rw [if_neg h1]
      by_cases h3 : i < O.length
      · rw [List.getElem?_append_left (by simpa using h3), List.getElem?_set]
        by_cases h2 : id = i
        · subst h2; simp [hidl]
        · rw [if_neg h2, if_neg (fun e => h2 e.symm)]
      · rw [List.getElem?_eq_none (by simp; omega), if_neg (by omega), List.getElem?_eq_none (by omega)]
  have hOid := hr.objs.obj id ob ho
  have hndi := hr.objs.nodup id hidl
  unfold ObjAt at hOid
  cases hs : ι id with
  | none => rw [hs] at hOid; rw [hOid.1] at hc; simp at hc
  | some p =>
    obtain ⟨b, k⟩ := p
    rw [hs] at hOid
    obtain ⟨cur, t, fz, f', hF, h1, h2, h3, h4, h5, h6⟩ := hOid
    obtain ⟨x, f1', g', f2', hx, hff', hV, hput⟩ := h6.at hc
    -- where the new object lies
    have hsp : ∃ sp : Spot, ObjAt S w ι [] oj sp g' ∧ OwnAt sp s 0 len x := by
      cases hV with
      | fre0 r => cases r; exact ⟨none, by rw [← hojn]; exact ⟨rfl, rfl⟩, rfl, rfl, rfl⟩
      | @fre _ _ b' _ cap cur' t' fz' _ us f'' _ _ _ hh hsz hu hl q1 q2 q3 r =>
        cases r
        refine ⟨some (b', cap * s), ⟨cur', t', fz', f'', by simp, hh.1, hsz, ?_, fun i hi => hh.2 i (by omega), ?_, ?_⟩, cap, rfl, by omega, q2, q3⟩
        · rw [← hojn]; simp only; rw [← q1]; exact Nat.mul_le_mul_right _ q2
        · rw [← hojn]; intro e he; cases he
        · rw [← hojn]; simp only; rw [← hu]; exact hl
    obtain ⟨sp, hsp1, hsp2⟩ := hsp
    have hlat : Later S w ι O S w (upd ι O.length sp) (O.set id ob2 ++ [oj]) := by
      refine ⟨fun _ h => h, fun _ _ => rfl, fun i obi hi => ?_⟩
      have hlt : i < O.length := (List.getElem?_eq_some_iff.1 hi).1
      by_cases h2 : i = id
      · subst h2; rw [ho] at hi; cases hi
        exact ⟨ob2, by rw [hO2, if_neg (by omega), if_pos rfl], .inr ⟨by rw [← hob2], by rw [← hob2], upd_other _ _ (by omega)⟩⟩
      · exact ⟨obi, by rw [hO2, if_neg (by omega), if_neg h2]; exact hi, .inr ⟨rfl, rfl, upd_other _ _ (by omega)⟩⟩
    have hnew : VRel S w (upd ι O.length sp) (O.set id ob2 ++ [oj]) (.own O.length 0 0 len) x [] :=
      .own (ob := oj) (by rw [hO2, if_pos rfl]) (Nat.zero_le _) (fun _ => by rw [upd_same, ← hojn]; exact hsp2) .nil
    have hl2 := hput (fun h => h.mono hlat (fun _ _ => rfl)) _ _ hnew
    have hff : f1' ++ (g' ++ f2') = f' := hff'.symm
    clear hput hsp2
    have hsub : ∀ c, c ∈ b :: (f1' ++ ([] ++ f2')) → c ∈ F id := by
      intro c hc
      rw [hF, ← hff]
      rcases List.mem_cons.1 hc with hc | hc
      · simp [hc]
      · rcases List.mem_append.1 hc with hc | hc
        · simp [hc]
        · simp only [List.nil_append] at hc; simp [hc]
    have hsubg : ∀ c, c ∈ g' → c ∈ F id := by intro c hc; rw [hF, ← hff]; simp [hc]
    refine ⟨upd ι O.length sp, upd (upd F id (b :: (f1' ++ ([] ++ f2')))) O.length g', hr.defers, hr.size, fun t' => (hr.tmps t').mono hlat (fun _ _ => rfl), ⟨fun i obi hi => ?_, fun i hi => ?_, fun i i' hi hi' hii c hcm => ?_⟩, fun i hi c hcm => ?_, hr.base, hr.stable, hr.keeps, fun i hi => ?_, ?_⟩
    · have hi : (O.set id ob2 ++ [oj])[i]? = some obi := hi
      rw [hO2] at hi
      by_cases e1 : i = O.length
      · subst e1
        rw [if_pos rfl] at hi; cases hi
        rw [upd_same, upd_same]
        unfold ObjAt at hsp1 ⊢
        cases hq : sp with
        | none => rw [hq] at hsp1; exact hsp1
        | some pj =>
          rw [hq] at hsp1
          obtain ⟨cur', t', fz', f2'', q1, q2, q3, q4, q5, q6, q7⟩ := hsp1
          refine ⟨cur', t', fz', f2'', q1, q2, q3, q4, q5, q6, ?_⟩
          exact q7.mono (Later.none _ (fun _ h => h) (fun _ _ => rfl)) (fun _ _ => rfl)
      · rw [if_neg e1] at hi
        rw [upd_other _ _ e1, upd_other _ _ e1]
        by_cases e2 : i = id
        · subst e2
          rw [if_pos rfl] at hi; cases hi
          rw [upd_same, hs]
          refine ⟨cur, t, fz, f1' ++ ([] ++ f2'), rfl, h1, h2, by rw [← hob2]; simpa using h3, h4, fun e he => h5 e (by rw [← hob2] at he; exact he), ?_⟩
          rw [← hob2]
          simp only [List.length_set]
          rw [← hob2] at hl2
          exact hl2
        · rw [if_neg e2] at hi
          rw [upd_other _ _ e2]
          have hob := hr.objs.obj i obi hi
          unfold ObjAt at hob ⊢
          cases hsi : ι i with
          | none => rw [hsi] at hob; exact hob
          | some pi =>
            rw [hsi] at hob
            obtain ⟨cur', t', fz', f2'', q1, q2, q3, q4, q5, q6, q7⟩ := hob
            exact ⟨cur', t', fz', f2'', q1, q2, q3, q4, q5, q6, q7.mono hlat (fun _ _ => rfl)⟩
    all_goals rw [hF, ← hff] at hndi
    all_goals obtain ⟨n1, n2⟩ := List.nodup_cons.1 hndi
    all_goals obtain ⟨n3, n4, n5⟩ := List.nodup_append.1 n2
    all_goals obtain ⟨n6, n7, n8⟩ := List.nodup_append.1 n4
    · have hi : i < (O.set id ob2 ++ [oj]).length := hi
      simp only [List.length_append, List.length_set, List.length_singleton] at hi
      by_cases e1 : i = O.length
      · subst e1; rw [upd_same]; exact n6
      · rw [upd_other _ _ e1]
        by_cases e2 : i = id
        · subst e2; rw [upd_same]
          refine List.nodup_cons.2 ⟨fun hb => n1 ?_, List.nodup_append.2 ⟨n3, by simpa using n7, fun c hc d hd => n5 c hc d (List.mem_append_right _ (by simpa using hd))⟩⟩
          rcases List.mem_append.1 hb with hb | hb
          · exact List.mem_append_left _ hb
          · exact List.mem_append_right _ (List.mem_append_right _ (by simpa using hb))
        · rw [upd_other _ _ e2]; exact nodupO i (by omega)
    · have hi : i < (O.set id ob2 ++ [oj]).length := hi
      have hi' : i' < (O.set id ob2 ++ [oj]).length := hi'
      simp only [List.length_append, List.length_set, List.length_singleton] at hi hi'
      have hdis : ∀ c, c ∈ b :: (f1' ++ ([] ++ f2')) → c ∉ g' := by
        intro c hc hg
        rcases List.mem_cons.1 hc with hc | hc
        · subst hc; exact n1 (List.mem_append_right _ (List.mem_append_left _ hg))
        · rcases List.mem_append.1 hc with hc | hc
          · exact n5 c hc c (List.mem_append_left _ hg) rfl
          · exact n8 c hg c (by simpa using hc) rfl
      by_cases e1 : i = O.length
      · subst e1; rw [upd_same] at hcm
        rw [upd_other _ _ (fun e => hii e.symm)]
        by_cases e2' : i' = id
        · subst e2'; rw [upd_same]; exact fun h => hdis c h hcm
        · rw [upd_other _ _ e2']; exact apartO id i' hidl (by omega) (fun e => e2' e.symm) c (hsubg c hcm)
      · rw [upd_other _ _ e1] at hcm
        by_cases e1' : i' = O.length
        · subst e1'; rw [upd_same]
          by_cases e2 : i = id
          · subst e2; rw [upd_same] at hcm; exact hdis c hcm
          · rw [upd_other _ _ e2] at hcm; exact fun h => apartO i id (by omega) hidl e2 c hcm (hsubg c h)
        · rw [upd_other _ _ e1']
          by_cases e2 : i = id
          · subst e2; rw [upd_same] at hcm
            rw [upd_other _ _ (fun e => hii e.symm)]
            exact apartO i i' hidl (by omega) hii c (hsub c hcm)
          · rw [upd_other _ _ e2] at hcm
            by_cases e2' : i' = id
            · subst e2'; rw [upd_same]
              exact fun h => apartO i i' (by omega) hidl hii c hcm (hsub c h)
            · rw [upd_other _ _ e2']; exact apartO i i' (by omega) (by omega) hii c hcm
    · have hi : i < (O.set id ob2 ++ [oj]).length := hi
      simp only [List.length_append, List.length_set, List.length_singleton] at hi
      by_cases e1 : i = O.length
      · subst e1; rw [upd_same] at hcm; exact footO id hidl c (hsubg c hcm)
      · rw [upd_other _ _ e1] at hcm
        by_cases e2 : i = id
        · subst e2; rw [upd_same] at hcm; exact footO i hidl c (hsub c hcm)
        · rw [upd_other _ _ e2] at hcm; exact footO i (by omega) c hcm
    · have := hr.mle
      rw [upd_other _ _ (by have : m ≤ O.length := this; omega)]; exact hr.spots i hi
    · have : m ≤ O.length := hr.mle
      show m ≤ (O.set id ob2 ++ [oj]).length
      simp; omega
end Go.Abs
