/- The rules of the operations that leave the world alone. No condition. -/
import Derived.Test.YtepfjefdbpmobaaAbsB
namespace Go.Abs
open Go
set_option linter.unusedVariables false
set_option linter.unusedSimpArgs false

def AV.force : AV → Option AV
  | .any => some .any
  | .sc v => some (.sc v)
  | .agg cs => some (.agg cs)
  | .tup cs => some (.tup cs)
  | .nilS => some .nilS
  | .imm s l cs => some (.imm s l cs)
  | .fre s l cs => some (.fre s l cs)
  | .own i e o l => some (.own i e o l)
  | .ptr i e o => some (.ptr i e o)
  | .iptr cs o => some (.iptr cs o)
  | .fn f cs => some (.fn f cs)
  | .ifc t v => some (.ifc t v)

theorem AV.force_eq {V V' : AV} (h : V.force = some V') : V = V' := by cases V <;> exact Option.some.inj h

def aBin (op : BinOp) : Value → Value → Option Value
  | .int k a, .int k' b => match decide (k = k') with
    | false => none
    | true => match op with
      | .add => some (.int k (k.wrap (a + b)))
      | .sub => some (.int k (k.wrap (a - b)))
      | .mul => some (.int k (k.wrap (a * b)))
      | .and => some (.int k (k.wrap (BitVec.ofInt k.bits a &&& BitVec.ofInt k.bits b).toNat))
      | .or => some (.int k (k.wrap (BitVec.ofInt k.bits a ||| BitVec.ofInt k.bits b).toNat))
      | .xor => some (.int k (k.wrap (BitVec.ofInt k.bits a ^^^ BitVec.ofInt k.bits b).toNat))
      | .andNot => some (.int k (k.wrap (BitVec.ofInt k.bits a &&& ~~~ BitVec.ofInt k.bits b).toNat))
      | .eql => some (.bool (decide (a = b)))
      | .neq => some (.bool (!decide (a = b)))
      | .lss => some (.bool (decide (a < b)))
      | .leq => some (.bool (decide (a ≤ b)))
      | .gtr => some (.bool (decide (a > b)))
      | .geq => some (.bool (decide (a ≥ b)))
      | _ => none
  | .bool a, .bool b => none
  | _, _ => none

theorem run_aBin (P : Program) {op : BinOp} {x y v : Value} (h : aBin op x y = some v) (t : TypeId) (ox oy : Operand) (w : World) :
    (do eqGuard op t ox oy x y; binOp op t x y : Sem Value).run P w = .ok v w := by
  unfold aBin at h
  split at h
  · rename_i k a k' b
    split at h
    · simp at h
    · rename_i hk
      have hk := of_decide_eq_true hk
      subst hk
      cases op <;> simp at h <;> subst h <;> simp [eqGuard, binOp, Op.intArith, Op.intBits, Op.intCmp, Sem.run_bind]
      all_goals first | rfl | (rw [Bool.eq_iff_iff]; simp)
  · simp at h
  · simp at h

theorem eqGuard_str (op : BinOp) (t : TypeId) (ox oy : Operand) (x y : ByteArray) : eqGuard op t ox oy (.string x) (.string y) = pure () := by
  cases op <;> rfl
theorem eqGuard_bool (op : BinOp) (t : TypeId) (ox oy : Operand) (x y : Bool) : eqGuard op t ox oy (.bool x) (.bool y) = pure () := by
  cases op <;> rfl
theorem eqGuard_int (op : BinOp) (t : TypeId) (ox oy : Operand) (k k' : IntKind) (x y : Int) : eqGuard op t ox oy (.int k x) (.int k' y) = pure () := by
  cases op <;> rfl
theorem eqGuard_slice (op : BinOp) (t : TypeId) (ox oy : Operand) (a b : Option Addr) (l c l' c' : Nat) : eqGuard op t ox oy (.slice a l c) (.slice b l' c') = pure () := by
  cases op <;> rfl

section
variable {P : Program} {n m : Nat} {G : Ctx} {md : Bool} {T : List (Nat × AV)} {O : List AObj} {Q : Exit → St → Prop} {ops : Array Oper} {l : List Oper} {d : Nat} {tt : TypeId} {pos : String} {after : Array Edge}

theorem WpL.pure {o : Oper} {V : AV} (hg : o.guard = none) (hd : o.dst = some d) (hn : d < n)
    (hop : ∀ S ι F a w, RelAt n m G S ι F ⟨T, O⟩ a w → ∃ v, (execOp a.eval o).run P w = .ok (.value v) w ∧ VRel S w ι O V v [])
    (h : WpL P n m G md ops l ⟨(d, V) :: T, O⟩ Q) : WpL P n m G md ops (o :: l) ⟨T, O⟩ Q :=
  match md, h with
  | false, h => WpL.value hg (fun a w hr => by
    obtain ⟨S, ι, F, hr⟩ := hr
    obtain ⟨v, h1, h2⟩ := hop S ι F a w hr
    refine ⟨v, w, h1, S, ι, F, ?_⟩
    rw [hd]
    exact hr.put hn h2) h
  | true, h => fun a w hr => by
    obtain ⟨S, ι, F, hr⟩ := hr
    obtain ⟨v, h1, h2⟩ := hop S ι F a w hr
    have h3 := h _ w ⟨S, ι, F, hr.put hn h2⟩
    simp only at h3 ⊢
    unfold wpStill
    rw [if_pos (by simp [Region.wanted, hg])]
    unfold Oper.still
    rw [h1, Oper.stillUpon_value, hd]
    exact h3

theorem WpL.move {x : Operand} {V : AV} (hx : (av T x).force = some V) (hn : d < n) (h : WpL P n m G md ops l ⟨(d, V) :: T, O⟩ Q) :
    WpL P n m G md ops ({ dst := some d, op := .move x, type := tt, pos := pos, after := after, guard := none } :: l) ⟨T, O⟩ Q :=
  WpL.pure rfl rfl hn (fun S ι F a w hr => ⟨a.eval x, by simp [execOp], by rw [← AV.force_eq hx]; exact hr.eval x⟩) h

theorem WpL.assign {x : Operand} {V : AV} (hx : (av T x).force = some V) (hn : d < n) (h : WpL P n m G md ops l ⟨(d, V) :: T, O⟩ Q) :
    WpL P n m G md ops ({ dst := some d, op := .assign x, type := tt, pos := pos, after := after, guard := none } :: l) ⟨T, O⟩ Q :=
  WpL.pure rfl rfl hn (fun S ι F a w hr => ⟨a.eval x, by simp [execOp], by rw [← AV.force_eq hx]; exact hr.eval x⟩) h

theorem RelAt.sc {S ι F a w} (hr : RelAt n m G S ι F ⟨T, O⟩ a w) {x : Operand} {v : Value} (hx : av T x = .sc v) : a.eval x = v := by
  have := hr.eval x
  rw [show av (St.mk T O).T x = .sc v from hx] at this
  exact this.sc_eq

theorem WpL.pickT {c x y : Operand} {V : AV} (hc : av T c = .sc (.bool true)) (hx : (av T x).force = some V) (hn : d < n) (h : WpL P n m G md ops l ⟨(d, V) :: T, O⟩ Q) :
    WpL P n m G md ops ({ dst := some d, op := .pick c x y, type := tt, pos := pos, after := after, guard := none } :: l) ⟨T, O⟩ Q :=
  WpL.pure rfl rfl hn (fun S ι F a w hr => ⟨a.eval x, by simp [execOp, hr.sc hc, asBool], by rw [← AV.force_eq hx]; exact hr.eval x⟩) h
theorem WpL.pickF {c x y : Operand} {V : AV} (hc : av T c = .sc (.bool false)) (hy : (av T y).force = some V) (hn : d < n) (h : WpL P n m G md ops l ⟨(d, V) :: T, O⟩ Q) :
    WpL P n m G md ops ({ dst := some d, op := .pick c x y, type := tt, pos := pos, after := after, guard := none } :: l) ⟨T, O⟩ Q :=
  WpL.pure rfl rfl hn (fun S ι F a w hr => ⟨a.eval y, by simp [execOp, hr.sc hc, asBool], by rw [← AV.force_eq hy]; exact hr.eval y⟩) h

theorem WpL.bin {op : BinOp} {t ty : TypeId} {x y : Operand} {vx vy v : Value} (hx : av T x = .sc vx) (hy : av T y = .sc vy) (hv : aBin op vx vy = some v) (hn : d < n)
    (h : WpL P n m G md ops l ⟨(d, .sc v) :: T, O⟩ Q) :
    WpL P n m G md ops ({ dst := some d, op := .binOp op t x y ty, type := tt, pos := pos, after := after, guard := none } :: l) ⟨T, O⟩ Q :=
  WpL.pure rfl rfl hn (fun S ι F a w hr => ⟨v, by
    have := run_aBin P hv t x y w
    simp only [execOp, hr.sc hx, hr.sc hy, Sem.run_bind, this, Result.andThen_ok, Sem.run_pure], .sc .nil⟩) h

/-- The frame of a rule on two scalars. -/
theorem WpL.bin2 {op : BinOp} {t ty : TypeId} {x y : Operand} {vx vy v : Value} (hx : av T x = .sc vx) (hy : av T y = .sc vy)
    (hrun : ∀ w, (do eqGuard op t x y vx vy; binOp op t vx vy : Sem Value).run P w = .ok v w) (hn : d < n)
    (h : WpL P n m G md ops l ⟨(d, .sc v) :: T, O⟩ Q) :
    WpL P n m G md ops ({ dst := some d, op := .binOp op t x y ty, type := tt, pos := pos, after := after, guard := none } :: l) ⟨T, O⟩ Q :=
  WpL.pure rfl rfl hn (fun S ι F a w hr => ⟨v, by
    have := hrun w
    simp only [execOp, hr.sc hx, hr.sc hy, Sem.run_bind, this, Result.andThen_ok, Sem.run_pure], .sc .nil⟩) h

section
variable {t ty : TypeId} {x y : Operand} {k k' : IntKind} {p q : Int}
theorem WpL.add (hx : av T x = .sc (.int .i64 p)) (hy : av T y = .sc (.int .i64 q)) (hb : -9223372036854775808 ≤ p + q ∧ p + q ≤ 9223372036854775807) (hn : d < n)
    (h : WpL P n m G md ops l ⟨(d, .sc (.int .i64 (p + q))) :: T, O⟩ Q) :
    WpL P n m G md ops ({ dst := some d, op := .binOp .add t x y ty, type := tt, pos := pos, after := after, guard := none } :: l) ⟨T, O⟩ Q :=
  WpL.bin hx hy (show aBin .add (.int .i64 p) (.int .i64 q) = some (.int .i64 (p + q)) by simp [aBin, IntWalk.i64_in _ hb]) hn h
theorem WpL.sub (hx : av T x = .sc (.int .i64 p)) (hy : av T y = .sc (.int .i64 q)) (hb : -9223372036854775808 ≤ p - q ∧ p - q ≤ 9223372036854775807) (hn : d < n)
    (h : WpL P n m G md ops l ⟨(d, .sc (.int .i64 (p - q))) :: T, O⟩ Q) :
    WpL P n m G md ops ({ dst := some d, op := .binOp .sub t x y ty, type := tt, pos := pos, after := after, guard := none } :: l) ⟨T, O⟩ Q :=
  WpL.bin hx hy (show aBin .sub (.int .i64 p) (.int .i64 q) = some (.int .i64 (p - q)) by simp [aBin, IntWalk.i64_in _ hb]) hn h
theorem WpL.mul (hx : av T x = .sc (.int .i64 p)) (hy : av T y = .sc (.int .i64 q)) (hb : -9223372036854775808 ≤ p * q ∧ p * q ≤ 9223372036854775807) (hn : d < n)
    (h : WpL P n m G md ops l ⟨(d, .sc (.int .i64 (p * q))) :: T, O⟩ Q) :
    WpL P n m G md ops ({ dst := some d, op := .binOp .mul t x y ty, type := tt, pos := pos, after := after, guard := none } :: l) ⟨T, O⟩ Q :=
  WpL.bin hx hy (show aBin .mul (.int .i64 p) (.int .i64 q) = some (.int .i64 (p * q)) by simp [aBin, IntWalk.i64_in _ hb]) hn h

theorem run_quo (P : Program) (h0 : q ≠ 0) (ox oy : Operand) (w : World) :
    (do eqGuard .quo t ox oy (.int k p) (.int k q); binOp .quo t (.int k p) (.int k q) : Sem Value).run P w = .ok (.int k (k.wrap (p.tdiv q))) w := by
  simp [eqGuard, binOp, Op.intDiv, h0, Sem.run_bind]
theorem run_rem (P : Program) (h0 : q ≠ 0) (ox oy : Operand) (w : World) :
    (do eqGuard .rem t ox oy (.int k p) (.int k q); binOp .rem t (.int k p) (.int k q) : Sem Value).run P w = .ok (.int k (p.tmod q)) w := by
  simp [eqGuard, binOp, Op.intDiv, h0, Sem.run_bind]

/-- '/' and '%' of what is not negative; of anything by a number above 0. -/
theorem WpL.quo (hx : av T x = .sc (.int .i64 p)) (hy : av T y = .sc (.int .i64 q)) (hb : 0 ≤ p ∧ p ≤ 9223372036854775807 ∧ 1 ≤ q) (hn : d < n)
    (h : WpL P n m G md ops l ⟨(d, .sc (.int .i64 (p / q))) :: T, O⟩ Q) :
    WpL P n m G md ops ({ dst := some d, op := .binOp .quo t x y ty, type := tt, pos := pos, after := after, guard := none } :: l) ⟨T, O⟩ Q :=
  WpL.bin2 hx hy (fun w => by rw [run_quo P (by omega), IntWalk.i64_quo p q hb]) hn h
theorem WpL.quoT (hx : av T x = .sc (.int .i64 p)) (hy : av T y = .sc (.int .i64 q)) (hb : -9223372036854775808 ≤ p ∧ p ≤ 9223372036854775807 ∧ 1 ≤ q) (hn : d < n)
    (h : WpL P n m G md ops l ⟨(d, .sc (.int .i64 (p.tdiv q))) :: T, O⟩ Q) :
    WpL P n m G md ops ({ dst := some d, op := .binOp .quo t x y ty, type := tt, pos := pos, after := after, guard := none } :: l) ⟨T, O⟩ Q :=
  WpL.bin2 hx hy (fun w => by rw [run_quo P (by omega), IntWalk.i64_quo' p q hb]) hn h
theorem WpL.quoK (hx : av T x = .sc (.int k p)) (hy : av T y = .sc (.int k q)) (hb : q ≠ 0) (hn : d < n)
    (h : WpL P n m G md ops l ⟨(d, .sc (.int k (k.wrap (p.tdiv q)))) :: T, O⟩ Q) :
    WpL P n m G md ops ({ dst := some d, op := .binOp .quo t x y ty, type := tt, pos := pos, after := after, guard := none } :: l) ⟨T, O⟩ Q :=
  WpL.bin2 hx hy (fun w => by rw [run_quo P hb]) hn h
theorem WpL.rem (hx : av T x = .sc (.int k p)) (hy : av T y = .sc (.int k q)) (hb : 0 ≤ p ∧ 1 ≤ q) (hn : d < n)
    (h : WpL P n m G md ops l ⟨(d, .sc (.int k (p % q))) :: T, O⟩ Q) :
    WpL P n m G md ops ({ dst := some d, op := .binOp .rem t x y ty, type := tt, pos := pos, after := after, guard := none } :: l) ⟨T, O⟩ Q :=
  WpL.bin2 hx hy (fun w => by rw [run_rem P (by omega), IntWalk.rem_in p q hb.1]) hn h
theorem WpL.remT (hx : av T x = .sc (.int k p)) (hy : av T y = .sc (.int k q)) (hb : q ≠ 0) (hn : d < n)
    (h : WpL P n m G md ops l ⟨(d, .sc (.int k (p.tmod q))) :: T, O⟩ Q) :
    WpL P n m G md ops ({ dst := some d, op := .binOp .rem t x y ty, type := tt, pos := pos, after := after, guard := none } :: l) ⟨T, O⟩ Q :=
  WpL.bin2 hx hy (fun w => by rw [run_rem P hb]) hn h

/-- Shifts by a number that is not negative (and, for the plain forms, below 64). -/
theorem WpL.shr (hx : av T x = .sc (.int k p)) (hy : av T y = .sc (.int k' q)) (hb : 0 ≤ q ∧ q ≤ k.bits) (hn : d < n)
    (h : WpL P n m G md ops l ⟨(d, .sc (.int k (p / 2 ^ q.toNat))) :: T, O⟩ Q) :
    WpL P n m G md ops ({ dst := some d, op := .binOp .shr t x y ty, type := tt, pos := pos, after := after, guard := none } :: l) ⟨T, O⟩ Q :=
  WpL.bin2 hx hy (fun w => by
    have h1 : ¬ q < 0 := by omega
    have h2 : min q.toNat k.bits = q.toNat := by omega
    have h3 : p.fdiv (2 ^ q.toNat) = p / 2 ^ q.toNat := Int.fdiv_eq_ediv_of_nonneg _ (Int.pow_nonneg (by decide))
    simp [eqGuard_int, binOp, Op.shift, h1, h2, h3, Sem.run_bind]) hn h
theorem WpL.shl (hx : av T x = .sc (.int k p)) (hy : av T y = .sc (.int k' q)) (hb : 0 ≤ q ∧ q ≤ k.bits) (hn : d < n)
    (h : WpL P n m G md ops l ⟨(d, .sc (.int k (k.wrap (p * 2 ^ q.toNat)))) :: T, O⟩ Q) :
    WpL P n m G md ops ({ dst := some d, op := .binOp .shl t x y ty, type := tt, pos := pos, after := after, guard := none } :: l) ⟨T, O⟩ Q :=
  WpL.bin2 hx hy (fun w => by
    have h1 : ¬ q < 0 := by omega
    have h2 : min q.toNat k.bits = q.toNat := by omega
    simp [eqGuard_int, binOp, Op.shift, h1, h2, Sem.run_bind]) hn h
theorem WpL.shlIn (hx : av T x = .sc (.int .i64 p)) (hy : av T y = .sc (.int k' q)) (hb : 0 ≤ q ∧ q ≤ 63) (hw : -9223372036854775808 ≤ p * 2 ^ q.toNat ∧ p * 2 ^ q.toNat ≤ 9223372036854775807) (hn : d < n)
    (h : WpL P n m G md ops l ⟨(d, .sc (.int .i64 (p * 2 ^ q.toNat))) :: T, O⟩ Q) :
    WpL P n m G md ops ({ dst := some d, op := .binOp .shl t x y ty, type := tt, pos := pos, after := after, guard := none } :: l) ⟨T, O⟩ Q :=
  WpL.shl hx hy (by simp only [IntKind.bits]; omega) hn (by rw [IntWalk.i64_in _ hw]; exact h)
end

section
variable {t ty : TypeId} {x y : Operand} {p q : List UInt8}
theorem WpL.strAdd (hx : av T x = .sc (.string ⟨p.toArray⟩)) (hy : av T y = .sc (.string ⟨q.toArray⟩)) (hb : p.length + q.length ≤ 9223372036854775807) (hn : d < n)
    (h : WpL P n m G md ops l ⟨(d, .sc (.string ⟨(p ++ q).toArray⟩)) :: T, O⟩ Q) :
    WpL P n m G md ops ({ dst := some d, op := .binOp .add t x y ty, type := tt, pos := pos, after := after, guard := none } :: l) ⟨T, O⟩ Q :=
  WpL.bin2 hx hy (fun w => by
    have e : (ByteArray.mk p.toArray ++ ByteArray.mk q.toArray) = ByteArray.mk (p ++ q).toArray := by apply ByteArray.ext; simp
    have hs : ¬ (((ByteArray.mk p.toArray).size + (ByteArray.mk q.toArray).size : Nat) : Int) > IntKind.i64.max := by
      simp [ByteArray.size, IntKind.max, IntKind.signed, IntKind.bits]; omega
    simp only [eqGuard_str, binOp, Op.stringOp, if_neg hs, e, Sem.run_bind, Sem.run_pure, Result.andThen_ok]) hn h
theorem WpL.strEq (hx : av T x = .sc (.string ⟨p.toArray⟩)) (hy : av T y = .sc (.string ⟨q.toArray⟩)) (hn : d < n)
    (h : WpL P n m G md ops l ⟨(d, .sc (.bool (decide (p = q)))) :: T, O⟩ Q) :
    WpL P n m G md ops ({ dst := some d, op := .binOp .eql t x y ty, type := tt, pos := pos, after := after, guard := none } :: l) ⟨T, O⟩ Q :=
  WpL.bin2 hx hy (fun w => by
    have e : (p == q) = decide (p = q) := by rw [Bool.eq_iff_iff]; simp
    simp only [eqGuard_str, binOp, Op.stringOp, ByteArray.toList_mk, e, Sem.run_bind, Sem.run_pure, Result.andThen_ok]) hn h
theorem WpL.strNe (hx : av T x = .sc (.string ⟨p.toArray⟩)) (hy : av T y = .sc (.string ⟨q.toArray⟩)) (hn : d < n)
    (h : WpL P n m G md ops l ⟨(d, .sc (.bool (!decide (p = q)))) :: T, O⟩ Q) :
    WpL P n m G md ops ({ dst := some d, op := .binOp .neq t x y ty, type := tt, pos := pos, after := after, guard := none } :: l) ⟨T, O⟩ Q :=
  WpL.bin2 hx hy (fun w => by
    have e : (p == q) = decide (p = q) := by rw [Bool.eq_iff_iff]; simp
    simp only [eqGuard_str, binOp, Op.stringOp, ByteArray.toList_mk, e, Sem.run_bind, Sem.run_pure, Result.andThen_ok]) hn h
end

section
variable {t ty : TypeId} {x y : Operand} {p q : Bool}
theorem run_equal_bool (P : Program) (ht : P.underlying t = some .bool) (w : World) : (Op.equal t (.bool p) (.bool q)).run P w = .ok (decide (p = q)) w := by
  have e : (p == q) = decide (p = q) := by rw [Bool.eq_iff_iff]; simp
  show (Op.equalIn (9999 + 1) t (.bool p) (.bool q)).run P w = _
  rw [Op.equalIn]
  simp only [Sem.run_bind, run_underlying ht, Result.andThen_ok, e, Sem.run_pure]
theorem WpL.boolEq (ht : P.underlying t = some .bool) (hx : av T x = .sc (.bool p)) (hy : av T y = .sc (.bool q)) (hn : d < n)
    (h : WpL P n m G md ops l ⟨(d, .sc (.bool (decide (p = q)))) :: T, O⟩ Q) :
    WpL P n m G md ops ({ dst := some d, op := .binOp .eql t x y ty, type := tt, pos := pos, after := after, guard := none } :: l) ⟨T, O⟩ Q :=
  WpL.bin2 hx hy (fun w => by
    simp [eqGuard_bool, binOp, run_equal_bool P ht, Sem.run_bind]) hn h
theorem WpL.boolNe (ht : P.underlying t = some .bool) (hx : av T x = .sc (.bool p)) (hy : av T y = .sc (.bool q)) (hn : d < n)
    (h : WpL P n m G md ops l ⟨(d, .sc (.bool (!decide (p = q)))) :: T, O⟩ Q) :
    WpL P n m G md ops ({ dst := some d, op := .binOp .neq t x y ty, type := tt, pos := pos, after := after, guard := none } :: l) ⟨T, O⟩ Q :=
  WpL.bin2 hx hy (fun w => by
    simp [eqGuard_bool, binOp, run_equal_bool P ht, Sem.run_bind]) hn h
end

theorem WpL.not {t : TypeId} {x : Operand} {b : Bool} (hx : av T x = .sc (.bool b)) (hn : d < n) (h : WpL P n m G md ops l ⟨(d, .sc (.bool !b)) :: T, O⟩ Q) :
    WpL P n m G md ops ({ dst := some d, op := .unOp .not t x, type := tt, pos := pos, after := after, guard := none } :: l) ⟨T, O⟩ Q :=
  WpL.pure rfl rfl hn (fun S ι F a w hr => ⟨.bool !b, by simp [execOp, hr.sc hx, Op.unary], .sc .nil⟩) h
theorem WpL.neg {t : TypeId} {x : Operand} {p : Int} (hx : av T x = .sc (.int .i64 p)) (hb : -9223372036854775807 ≤ p ∧ p ≤ 9223372036854775807) (hn : d < n) (h : WpL P n m G md ops l ⟨(d, .sc (.int .i64 (-p))) :: T, O⟩ Q) :
    WpL P n m G md ops ({ dst := some d, op := .unOp .neg t x, type := tt, pos := pos, after := after, guard := none } :: l) ⟨T, O⟩ Q :=
  WpL.pure rfl rfl hn (fun S ι F a w hr => ⟨.int .i64 (-p), by
    have := IntWalk.i64_in (-p) (by omega)
    simp [execOp, hr.sc hx, Op.unary, Op.intArith, this], .sc .nil⟩) h
theorem WpL.negK {t : TypeId} {x : Operand} {k : IntKind} {p : Int} (hx : av T x = .sc (.int k p)) (hn : d < n) (h : WpL P n m G md ops l ⟨(d, .sc (.int k (k.wrap (0 - p)))) :: T, O⟩ Q) :
    WpL P n m G md ops ({ dst := some d, op := .unOp .neg t x, type := tt, pos := pos, after := after, guard := none } :: l) ⟨T, O⟩ Q :=
  WpL.pure rfl rfl hn (fun S ι F a w hr => ⟨.int k (k.wrap (0 - p)), by simp [execOp, hr.sc hx, Op.unary, Op.intArith], .sc .nil⟩) h

theorem WpL.conv {s t : TypeId} {x : Operand} {k k' : IntKind} {p : Int} (hs : (P.underlying s).isSome = true) (ht : P.underlying t = some (.int k)) (hx : av T x = .sc (.int k' p)) (hn : d < n)
    (h : WpL P n m G md ops l ⟨(d, .sc (.int k (k.wrap p))) :: T, O⟩ Q) :
    WpL P n m G md ops ({ dst := some d, op := .convert s t x, type := tt, pos := pos, after := after, guard := none } :: l) ⟨T, O⟩ Q :=
  WpL.pure rfl rfl hn (fun S ι F a w hr => ⟨.int k (k.wrap p), by
    obtain ⟨u, hu⟩ := Option.isSome_iff_exists.1 hs
    simp only [execOp, convert, hr.sc hx, Sem.run_bind, run_underlying hu, run_underlying ht, Result.andThen_ok]
    cases u <;> simp [Conv.intToInt], .sc .nil⟩) h
theorem WpL.convI {s t : TypeId} {x : Operand} {k' : IntKind} {p : Int} (hs : (P.underlying s).isSome = true) (ht : P.underlying t = some (.int .i64)) (hx : av T x = .sc (.int k' p))
    (hb : -9223372036854775808 ≤ p ∧ p ≤ 9223372036854775807) (hn : d < n) (h : WpL P n m G md ops l ⟨(d, .sc (.int .i64 p)) :: T, O⟩ Q) :
    WpL P n m G md ops ({ dst := some d, op := .convert s t x, type := tt, pos := pos, after := after, guard := none } :: l) ⟨T, O⟩ Q :=
  WpL.conv hs ht hx hn (by rw [IntWalk.i64_in _ hb]; exact h)

theorem LRel.tup_inv {S w ι O ds x f} (h : VRel S w ι O (.tup ds) x f) : ∃ us, x = .tuple us.toArray ∧ LRel S w ι O ds us f := by
  cases h with
  | tup a r => cases r; exact ⟨_, rfl, by simpa using a⟩
theorem LRel.agg_inv {S w ι O ds x f} (h : VRel S w ι O (.agg ds) x f) : ∃ us, x = .agg us.toArray ∧ LRel S w ι O ds us f := by
  cases h with
  | agg a r => cases r; exact ⟨_, rfl, by simpa using a⟩

theorem WpL.extract {x : Operand} {ds : List AV} {i : Nat} {V : AV} (hx : av T x = .tup ds) (hi : (ds.getD i .any).force = some V) (hil : i < ds.length) (hn : d < n) (h : WpL P n m G md ops l ⟨(d, V) :: T, O⟩ Q) :
    WpL P n m G md ops ({ dst := some d, op := .extract x i, type := tt, pos := pos, after := after, guard := none } :: l) ⟨T, O⟩ Q :=
  WpL.pure rfl rfl hn (fun S ι F a w hr => by
    have he := hr.eval x
    rw [show av (St.mk T O).T x = _ from hx] at he
    obtain ⟨us, hu, hl⟩ := LRel.tup_inv he
    have hg : ds[i]? = some V := by
      rw [← AV.force_eq hi, List.getD_eq_getElem?_getD, List.getElem?_eq_getElem hil]; rfl
    obtain ⟨v, g, hv, hV, hgm⟩ := hl.get hg
    have hg0 : g = [] := List.eq_nil_iff_forall_not_mem.2 fun b hb => by simpa using hgm b hb
    subst hg0
    exact ⟨v, by simp [execOp, hu, Instr.extract, hv], hV⟩) h

theorem LRel.slice_len {S w ι O V x f} (h : VRel S w ι O V x f) : (∀ id ep off len ob, V = .own id ep off len → O[id]? = some ob → ob.ep = ep → ∃ a c, x = .slice a len c) ∧
    (∀ s len cs, V = .imm s len cs → ∃ a c, x = .slice a len c) ∧ (V = .nilS → x = .slice none 0 0) := by
  refine ⟨?_, ?_, ?_⟩
  · rintro id ep off len ob rfl ho he
    cases h with
    | own a b c r =>
      rw [ho] at a
      cases a
      have := c he.symm
      cases hs : ι id with
      | none => rw [hs] at this; obtain ⟨h1, _, h3⟩ := this; subst h3; exact ⟨_, _, h1⟩
      | some p => obtain ⟨b', k⟩ := p; rw [hs] at this; obtain ⟨cap, h1, _⟩ := this; exact ⟨_, _, h1⟩
  · rintro s len cs rfl
    cases h with
    | imm0 _ r => exact ⟨_, _, rfl⟩
    | imm => exact ⟨_, _, rfl⟩
  · rintro rfl
    cases h; rfl

theorem run_len_slice (P : Program) (t : TypeId) (e : TypeId) (ht : P.underlying t = some (.slice e)) (ty : TypeId) (a : Option Addr) (len c : Nat) (w : World) :
    (Builtin.len_ #[t] ty #[.slice a len c]).run P w = .ok (.int .i64 len) w := by
  simp [Builtin.len_, run_underlying ht, goInt]

theorem WpL.lenOwn {t e : TypeId} {x : Operand} {id ep off len : Nat} {ob : AObj} (ht : P.underlying t = some (.slice e)) (hx : av T x = .own id ep off len) (ho : O[id]? = some ob) (he : ob.ep = ep) (hn : d < n)
    (h : WpL P n m G md ops l ⟨(d, .sc (.int .i64 len)) :: T, O⟩ Q) :
    WpL P n m G md ops ({ dst := some d, op := .call { callee := .builtin .len, args := #[x], argTypes := #[t] }, type := tt, pos := pos, after := after, guard := none } :: l) ⟨T, O⟩ Q :=
  WpL.pure rfl rfl hn (fun S ι F a w hr => by
    have hv := hr.eval x
    rw [show av (St.mk T O).T x = _ from hx] at hv
    obtain ⟨ad, c, hxe⟩ := (LRel.slice_len hv).1 _ _ _ _ ob rfl ho he
    refine ⟨.int .i64 len, ?_, .sc .nil⟩
    simp [execOp, resolve, invoke, builtin, hxe, run_len_slice P t e ht, Sem.run_bind]) h
theorem WpL.lenImm {t e : TypeId} {x : Operand} {s len : Nat} {cs : List AV} (ht : P.underlying t = some (.slice e)) (hx : av T x = .imm s len cs) (hn : d < n)
    (h : WpL P n m G md ops l ⟨(d, .sc (.int .i64 len)) :: T, O⟩ Q) :
    WpL P n m G md ops ({ dst := some d, op := .call { callee := .builtin .len, args := #[x], argTypes := #[t] }, type := tt, pos := pos, after := after, guard := none } :: l) ⟨T, O⟩ Q :=
  WpL.pure rfl rfl hn (fun S ι F a w hr => by
    have hv := hr.eval x
    rw [show av (St.mk T O).T x = _ from hx] at hv
    obtain ⟨ad, c, hxe⟩ := (LRel.slice_len hv).2.1 _ _ _ rfl
    refine ⟨.int .i64 len, ?_, .sc .nil⟩
    simp [execOp, resolve, invoke, builtin, hxe, run_len_slice P t e ht, Sem.run_bind]) h
theorem WpL.lenNil {t e : TypeId} {x : Operand} (ht : P.underlying t = some (.slice e)) (hx : av T x = .nilS) (hn : d < n)
    (h : WpL P n m G md ops l ⟨(d, .sc (.int .i64 0)) :: T, O⟩ Q) :
    WpL P n m G md ops ({ dst := some d, op := .call { callee := .builtin .len, args := #[x], argTypes := #[t] }, type := tt, pos := pos, after := after, guard := none } :: l) ⟨T, O⟩ Q :=
  WpL.pure rfl rfl hn (fun S ι F a w hr => by
    have hv := hr.eval x
    rw [show av (St.mk T O).T x = _ from hx] at hv
    have hxe := (LRel.slice_len hv).2.2 rfl
    refine ⟨.int .i64 0, ?_, .sc .nil⟩
    have := run_len_slice P t e ht tt none 0 0 w
    simp [execOp, resolve, invoke, builtin, hxe, this, Sem.run_bind]) h
theorem WpL.lenStr {t : TypeId} {x : Operand} {p : List UInt8} (ht : P.underlying t = some .string) (hx : av T x = .sc (.string ⟨p.toArray⟩)) (hn : d < n)
    (h : WpL P n m G md ops l ⟨(d, .sc (.int .i64 p.length)) :: T, O⟩ Q) :
    WpL P n m G md ops ({ dst := some d, op := .call { callee := .builtin .len, args := #[x], argTypes := #[t] }, type := tt, pos := pos, after := after, guard := none } :: l) ⟨T, O⟩ Q :=
  WpL.pure rfl rfl hn (fun S ι F a w hr => by
    refine ⟨.int .i64 p.length, ?_, .sc .nil⟩
    have hsz : (ByteArray.mk p.toArray).size = p.length := by simp [ByteArray.size]
    have hl : (Builtin.len_ #[t] tt #[.string ⟨p.toArray⟩]).run P w = .ok (.int .i64 p.length) w := by
      simp only [Builtin.len_, List.getElem?_toArray, List.getElem?_cons_zero, Sem.run_bind, run_underlying ht, Result.andThen_ok, goInt, hsz, Sem.run_pure]
    simp [execOp, resolve, invoke, builtin, hr.sc hx, hl, Sem.run_bind]) h

theorem WpL.min2 {t1 t2 : TypeId} {x y : Operand} {p q : Int} (hx : av T x = .sc (.int .i64 p)) (hy : av T y = .sc (.int .i64 q)) (hn : d < n)
    (h : WpL P n m G md ops l ⟨(d, .sc (.int .i64 (min p q))) :: T, O⟩ Q) :
    WpL P n m G md ops ({ dst := some d, op := .call { callee := .builtin .min, args := #[x, y], argTypes := #[t1, t2] }, type := tt, pos := pos, after := after, guard := none } :: l) ⟨T, O⟩ Q :=
  WpL.pure rfl rfl hn (fun S ι F a w hr => by
    refine ⟨.int .i64 (min p q), ?_, .sc .nil⟩
    have e : (if q < p then q else p) = min p q := by omega
    simp [execOp, resolve, invoke, builtin, hr.sc hx, hr.sc hy, Builtin.min_, Builtin.min2, e, Sem.run_bind]) h
theorem WpL.max2 {t1 t2 : TypeId} {x y : Operand} {p q : Int} (hx : av T x = .sc (.int .i64 p)) (hy : av T y = .sc (.int .i64 q)) (hn : d < n)
    (h : WpL P n m G md ops l ⟨(d, .sc (.int .i64 (max p q))) :: T, O⟩ Q) :
    WpL P n m G md ops ({ dst := some d, op := .call { callee := .builtin .max, args := #[x, y], argTypes := #[t1, t2] }, type := tt, pos := pos, after := after, guard := none } :: l) ⟨T, O⟩ Q :=
  WpL.pure rfl rfl hn (fun S ι F a w hr => by
    refine ⟨.int .i64 (max p q), ?_, .sc .nil⟩
    have e : (if p < q then q else p) = max p q := by omega
    simp [execOp, resolve, invoke, builtin, hr.sc hx, hr.sc hy, Builtin.max_, Builtin.max2, e, Sem.run_bind]) h

end
end Go.Abs
