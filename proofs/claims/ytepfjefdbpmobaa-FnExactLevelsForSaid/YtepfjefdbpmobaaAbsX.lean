/- Room made ahead: append of zeros to a nil slice, the capacity of a nil slice, the empty beginning of a slice. No condition. -/
import Derived.Test.YtepfjefdbpmobaaAbsW
import Derived.Lib.AppendZeros
namespace Go.Abs
open Go
set_option linter.unusedVariables false
set_option linter.unusedSimpArgs false
section
variable {P : Program} {n m : Nat} {G : Ctx} {T : List (Nat × AV)} {O : List AObj} {Q : Exit → St → Prop} {ops : Array Oper} {l : List Oper} {d : Nat} {md : Bool} {tt : TypeId} {pos : String} {after : Array Edge} {tab : List (Nat × Ty)}
theorem WpL.capNil {t e : TypeId} {x : Operand} (ht : P.underlying t = some (.slice e)) (hx : av T x = .nilS) (hn : d < n)
    (h : WpL P n m G md ops l ⟨(d, .sc (.int .i64 0)) :: T, O⟩ Q) :
    WpL P n m G md ops ({ dst := some d, op := .call { callee := .builtin .cap, args := #[x], argTypes := #[t] }, type := tt, pos := pos, after := after, guard := none } :: l) ⟨T, O⟩ Q :=
  WpL.pure rfl rfl hn (fun S ι F a w hr => by
    have hv := hr.eval x
    rw [show av (St.mk T O).T x = _ from hx] at hv
    have hxe := (LRel.slice_len hv).2.2 rfl
    refine ⟨.int .i64 0, ?_, .sc .nil⟩
    have : (Builtin.cap_ #[t] tt #[.slice none 0 0]).run P w = .ok (.int .i64 0) w := by simp [Builtin.cap_, run_underlying ht, goInt]
    simp [execOp, resolve, invoke, builtin, hxe, this, Sem.run_bind]) h
theorem WpL.subNil (hP : TabOk P tab) {t e k b : Nat} {zs : List AV} {x y : Operand} {kk : IntKind} (ht : tlook tab t = some (.slice e k b zs)) (hx : av T x = .nilS) (hy : av T y = .sc (.int kk 0)) (hn : d < n)
    (h : WpL P n m G md ops l ⟨(d, .nilS) :: T, O⟩ Q) :
    WpL P n m G md ops ({ dst := some d, op := .slice t x none (some y) none, type := tt, pos := pos, after := after, guard := none } :: l) ⟨T, O⟩ Q :=
  WpL.pure rfl rfl hn (fun S ι F a w hr => by
    obtain ⟨hu, inf, z, hinf, _, hk, _, _, hk0, _⟩ := hP.slice ht
    have hv := hr.eval x
    rw [show av (St.mk T O).T x = _ from hx] at hv
    have hxe := (LRel.slice_len hv).2.2 rfl
    have hye := hr.sc hy
    refine ⟨.slice none 0 0, ?_, .nilS .nil⟩
    have hrun : (Instr.sliceAt t (.slice none 0 0) none (some (.int kk 0)) none).run P w = .ok (.slice none 0 0) w := by
      simp [Instr.sliceAt, Instr.slice, run_underlying hu, Instr.sliceBounds, Instr.sliceBound, asIntOf, run_sizeOf hinf hk, Sem.run_bind]
    simp [execOp, hxe, hye, hrun, Sem.run_bind]) h
/-- The empty beginning of a slice of the call's own. -/
theorem WpL.subOwn0 (hP : TabOk P tab) {t e k b : Nat} {zs : List AV} {x y : Operand} {kk : IntKind} {id ep len : Nat} {ob : AObj} (ht : tlook tab t = some (.slice e k b zs)) (hx : av T x = .own id ep 0 len) (ho : O[id]? = some ob) (he : ob.ep = ep) (hy : av T y = .sc (.int kk 0)) (hn : d < n)
    (h : WpL P n m G md ops l ⟨(d, .own id ep 0 0) :: T, O⟩ Q) :
    WpL P n m G md ops ({ dst := some d, op := .slice t x none (some y) none, type := tt, pos := pos, after := after, guard := none } :: l) ⟨T, O⟩ Q :=
  WpL.pure rfl rfl hn (fun S ι F a w hr => by
    obtain ⟨hu, inf, z, hinf, _, hk, _, _, hk0, _⟩ := hP.slice ht
    have hv := hr.eval x
    rw [show av (St.mk T O).T x = _ from hx] at hv
    have hye := hr.sc hy
    have hown : OwnAt (ι id) ob.size 0 len (a.eval x) := by
      cases hv with
      | own q1 q2 q3 r =>
        rw [show (St.mk T O).O[id]? = some ob from ho] at q1
        cases q1
        exact q3 he.symm
    cases hs : ι id with
    | none =>
      rw [hs] at hown
      obtain ⟨hxe, _, _⟩ := hown
      refine ⟨.slice none 0 0, ?_, .own ho (by omega) (fun _ => by rw [hs]; exact ⟨rfl, rfl, rfl⟩) .nil⟩
      have hrun : (Instr.sliceAt t (.slice none 0 0) none (some (.int kk 0)) none).run P w = .ok (.slice none 0 0) w := by
        simp [Instr.sliceAt, Instr.slice, run_underlying hu, Instr.sliceBounds, Instr.sliceBound, asIntOf, run_sizeOf hinf hk, Sem.run_bind]
      simp [execOp, hxe, hye, hrun, Sem.run_bind]
    | some p =>
      obtain ⟨bb, kb⟩ := p
      rw [hs] at hown
      obtain ⟨cap, hxe, h1, h2, h3⟩ := hown
      have hrun := run_sliceSl hu hinf hk ⟨bb, 0, none⟩ len cap none (some (.int kk 0)) 0 0 (.inl ⟨rfl, rfl⟩) (.inr ⟨kk, rfl⟩) (by omega) w
      have e1 : (if cap = 0 then (⟨bb, 0, none⟩ : Addr) else (⟨bb, 0, none⟩ : Addr).add (0 * k)) = ⟨bb, 0, none⟩ := by
        split
        · rfl
        · rw [addr_add]; simp
      rw [e1, Nat.sub_zero, Nat.sub_zero] at hrun
      refine ⟨.slice (some ⟨bb, 0, none⟩) 0 cap, by simp [execOp, hxe, hye, hrun, Sem.run_bind], .own ho (by omega) (fun _ => by rw [hs]; exact ⟨cap, rfl, h1, Nat.zero_le _, h3⟩) .nil⟩) h
/-- append of so many zeros to a nil slice; its cells are left unsaid. -/
theorem WpL.appZeros (hP : TabOk P tab) {t u e k b id : Nat} {zs : List AV} {x y : Operand} {kn : IntKind} {p : Nat} (ht : tlook tab t = some (.slice e k b zs)) (hut : tlook tab u = some (.int kn)) (hx : av T x = .nilS) (hy : av T y = .sc (.int .i64 p))
    (hp : 0 < p) (hb : p * b ≤ 140737488355328 ∧ p ≤ 9223372036854775807) (hid : nid O 0 = some id) (hn : d < n)
    (h : WpL P n m G false ops l ⟨(d, .own id 0 0 p) :: T, O ++ [⟨[], 0, k, some e⟩]⟩ Q) :
    WpL P n m G false ops ({ dst := some d, op := .call { callee := .builtin .append, args := #[x, y], argTypes := #[t, u] }, type := tt, pos := pos, after := after, guard := none } :: l) ⟨T, O⟩ Q :=
  WpL.value rfl (fun a w hr => by
    obtain ⟨S, ι, F, hr⟩ := hr
    have hid : id = O.length := by have := nid_eq hid; omega
    subst hid
    obtain ⟨hu, i, z, hi, hz, hk, hby, hzk, hk0, _⟩ := hP.slice ht
    have htn := (hP.ty hut).1
    have hv := hr.eval x
    rw [show av (St.mk T O).T x = _ from hx] at hv
    have hxe := (LRel.slice_len hv).2.2 rfl
    have hye := hr.sc hy
    have hrun := Lib.run_append_nil_zeros (P := P) w t u tt e i z .i64 kn hu htn hi hz p hp (by omega) (by omega) (by rw [hby]; omega)
    have hcap := grownCap_ge w p 0 e
    have hcm := grownCap_le_maxLen w p 0 e (by simp only [maxLen]; omega)
    have hsz : (Builtin.zeroCells z.cells p ++ Builtin.zeroCells z.cells (grownCap w p 0 e - p)).size = grownCap w p 0 e * k := by
      simp only [Array.size_append, zeroCells_size, hzk, ← Nat.add_mul]
      congr 1; omega
    have hr' := hr.alloc (ob := ⟨[], 0, k, some e⟩) (cur := Builtin.zeroCells z.cells p ++ Builtin.zeroCells z.cells (grownCap w p 0 e - p)) (t := e) (fz := (0, 0)) (adds_drew_alloc w _) (by simp; exact .nil) (by simp) (by simp) (by simp)
    refine ⟨.slice (some ⟨w.heap.size, 0, none⟩) p (grownCap w p 0 e), _, by simp only [execOp, resolve, invoke, builtin, Sem.run_bind, Sem.run_pure, Result.andThen_ok, List.map_toArray, List.map_cons, List.map_nil, hxe, hye, hrun], _, _, _, hr'.put hn ?_⟩
    exact own_new (ob := ⟨[], 0, k, some e⟩) hsz.symm hcap hcm) h
/-- A row that a slice of slices owns: it becomes an object of its own. -/
theorem WpL.loadOwnLi (hP : TabOk P tab) {t : TypeId} {x : Operand} {ty : Ty} {id ep sz off : Nat} {te : Option TypeId} {M : List (List Int)} (ht : tlook tab t = some ty) (hp : ty.plain = true) (hx : av T x = .ptr id ep off) (ho : O[id]? = some ⟨rows liF M, ep, sz, te⟩)
    (hi : off < M.length) (hn : d < n) {j : Nat} (hcnt : cnt O.length 0 = some j)
    (h : WpL P n m G false ops l ⟨(d, .own j 0 0 (M.getD off default).length) :: T, O.set id ⟨(rows liF M).set off (.own j 0 0 (M.getD off default).length), ep, sz, te⟩ ++ [⟨ints (M.getD off default), 0, 1, none⟩]⟩ Q) :
    WpL P n m G false ops ({ dst := some d, op := .load t x, type := tt, pos := pos, after := after, guard := none } :: l) ⟨T, O⟩ Q := by
  have e : off * 1 + 0 = off := by omega
  refine WpL.loadOwn (f := liF) (xs := M) (i := off) (k := 1) (o := 0) (s := 1) (len := (M.getD off default).length) (cs := ints (M.getD off default)) hP ht hp (by rw [e]; exact hx) ho (fun _ => rfl) rfl hi hn hcnt ?_
  rw [e]; exact h
end
end Go.Abs
