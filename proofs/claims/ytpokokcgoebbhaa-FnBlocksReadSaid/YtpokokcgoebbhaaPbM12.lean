/- Proved in this text: lemmas and contracts of functions that the claim uses (parts: RdT, Lw, Cache, AbsEq, AbsAz, Ln, Ent, UeT, UeT2, Work, RdB, RdW, FLev, SyT, FMb, DefsQ, Bits). No condition. -/
import Derived.Test.YtpokokcgoebbhaaPbM11
import Derived.Test.YtpokokcgoebbhaaPbM10
import Derived.Test.YtpokokcgoebbhaaPbM7
import Derived.Laws.StructEq
import Derived.Lib.AppendZeros

/- Plain laws: where a reader stands stays in its text; how much is read; streams as they are parsed. No condition. -/
namespace Go.Proofs.Ytpokokcgoebbhaa
open Go Go.Abs
set_option linter.unusedVariables false
set_option linter.unusedSimpArgs false

theorem rbA_ok {p : List UInt8} {s n : Int} (h : RdOk p s) : RdOk p (rbA p s n) := by
  by_cases ho : RbOk p s n
  · rw [(rb_yes ho).1]
    have h1 := lft_ok h
    have h2 := ho.2.2
    have h3 := ho.2.1
    have h4 := h.1
    constructor <;> omega
  · rw [(rb_no ho).1]; exact h
theorem ueA_ok {p : List UInt8} {s : Int} (h : RdOk p s) : RdOk p (ueA p s) := by
  unfold ueA; split
  · exact rbA_ok h
  · exact h
theorem fuA_ok {p : List UInt8} {s c : Int} {k : Int → Int} (h : RdOk p s) : RdOk p (fuA p s c k) := by
  unfold fuA; split
  · exact ueA_ok h
  · exact h
theorem fbA_ok {p : List UInt8} {s c n : Int} {k : Int → Int} (h : RdOk p s) : RdOk p (fbA p s c n k) := by
  unfold fbA; split
  · exact rbA_ok h
  · exact h
theorem smA_ok {p : List UInt8} {s : Int} {l : List Int} (h : RdOk p s) : RdOk p (smA p s l) := by
  by_cases hc : smC p s l = 0
  · rw [smA, if_pos hc]
    have hm : symM p s l < 6 := by
      unfold smC at hc
      split at hc
      · split at hc
        · assumption
        · exact absurd hc (by decide)
      · exact absurd hc (by decide)
    have h0 := symM_lt hm
    have h1 := lft_ok h
    have h2 := h0.2.1.2.2
    have h3 := h0.1
    have h4 := h.1
    constructor <;> omega
  · rw [smA, if_neg hc]; exact h
theorem lvStep_ok {p : List UInt8} {nn : Int} {x : LvS} (h : RdOk p x.a) : RdOk p (lvStep p nn x).a := by
  unfold lvStep; split
  · simp only; split <;> exact fuA_ok (fuA_ok h)
  · exact h
theorem lvRun_ok {p : List UInt8} {nn : Int} {x : LvS} (h : RdOk p x.a) : ∀ k, RdOk p (lvRun p nn x k).a
  | 0 => h
  | k + 1 => by rw [lvRun]; exact lvStep_ok (lvRun_ok h k)
theorem lvS_ok {p : List UInt8} {s n : Int} (h : RdOk p s) : RdOk p (lvS p s n).a := by
  unfold lvS; simp only; split
  · exact fbA_ok h
  · exact lvRun_ok (x := ⟨_, _, _, _⟩) (fuA_ok (fbA_ok h)) _
theorem blS_ok {p : List UInt8} {s : Int} {lens : List Int} {n : Int} (h : RdOk p s) : RdOk p (blS p s lens n).a := by
  unfold blS; split
  · split
    · simp only; split <;> exact lvS_ok (smA_ok h)
    · exact h
  · exact h
theorem mbRun_ok {p : List UInt8} {s : Int} {lens : List Int} {n : Int} (h : RdOk p s) : ∀ k, RdOk p (mbRun p s lens n k).a
  | 0 => h
  | k + 1 => by
    have ih := mbRun_ok (lens := lens) (n := n) h k
    rw [mbRun]; simp only; split
    · split <;> exact blS_ok ih
    · exact ih
theorem mbS_ok {p : List UInt8} {s : Int} {lens : List Int} (h : RdOk p s) : RdOk p (mbS p s lens).1.a := by
  unfold mbS; split
  · rename_i ho
    have : RdOk p (s + 1) := by have := rbA_ok (n := 1) h; rwa [(rb_yes ho).1] at this
    exact mbRun_ok this _
  · exact h
/-! How much is read. -/
/-! Streams that are parsed. -/
structure PrS where
  W : Int
  H : Int
  Q : Int
  B : Bool
  D : Bool
  L : List Int
  ms : List Mbk
  a : Int
  c : Int
def prS (p : List UInt8) : PrS :=
  let x := hdS p 0
  if x.c = 0 then
    let y := stRun p x.a x.L (cntM x.W x.H).toNat
    if y.c = 0 then
      if endC p y.a = 0 then ⟨x.W, x.H, x.Q, x.B, x.D, x.L, y.ms, y.a, 0⟩ else ⟨0, 0, 0, false, false, [], [], y.a, endC p y.a⟩
    else ⟨0, 0, 0, false, false, [], [], y.a, y.c⟩
  else ⟨0, 0, 0, false, false, [], [], x.a, x.c⟩
end Go.Proofs.Ytpokokcgoebbhaa

/- Contracts of the laws' own functions over numbers, truth values, options, headers, blocks, macroblocks, streams: sizes, copies, comparisons, marks. No condition. -/
namespace Go.Proofs.Ytpokokcgoebbhaa
open Go Go.Abs
set_option linter.unusedVariables false
set_option linter.unusedSimpArgs false
set_option maxRecDepth 100000
set_option maxHeartbeats 4000000
attribute [local irreducible] WpA WpL Rnd Blk Abs.Seq Abs.Fin Abs.FinG FnC FnG Only

def marksI (k : Int) (n : Nat) : List Int := (List.range n).map fun i : Nat => k + (i : Int)
@[simp] theorem marksI_len (k : Int) (n : Nat) : (marksI k n).length = n := by simp [marksI]
def marksB (k : Int) (n : Nat) : List Bool := (List.range n).map fun i : Nat => decide ((k + (i : Int)) % 3 = 0)
@[simp] theorem marksB_len (k : Int) (n : Nat) : (marksB k n).length = n := by simp [marksB]
/-! Options. -/
end Go.Proofs.Ytpokokcgoebbhaa

/- Contracts: caches of bits by the program and by the specification, and those of the laws. No condition. -/
namespace Go.Proofs.Ytpokokcgoebbhaa
open Go Go.Abs
set_option linter.unusedVariables false
set_option linter.unusedSimpArgs false
set_option maxRecDepth 100000
set_option maxHeartbeats 4000000
attribute [local irreducible] WpA WpL Rnd Blk Abs.Seq Abs.Fin Abs.FinG FnC FnG Only

abbrev CA (p : List UInt8) (s w h : Int) : AV := .agg [Z p, I s, I w, I h]
abbrev CaOk (p : List UInt8) (s w h : Int) : Prop := (0 ≤ s ∧ s ≤ p.length) ∧ (0 ≤ h ∧ h ≤ 56 ∧ h ≤ 8 * s) ∧ w = numB p (8 * s - h) h.toNat
instance CacheOk_c : Con 53 (∀ (p : List UInt8) (s w h : Int), p.length ≤ 1099511627776 → Fn 53 [CA p s w h] [] (B (decide (CaOk p s w h)))) := ⟨fun p s w h hl => by
  refine FnC.of_body tabOk Try.func53 Try.ntmps53 rfl (by decide +kernel) (by simp) fun G => ?_
  refine go (r := ?_); and_intros <;> intros <;> try exact True.intro
  all_goals first | (simp_all; done) | (rw [Bool.eq_iff_iff]; simp; omega) | trace_state⟩
def plA (p : List UInt8) (s w h : Int) : Int := if CaOk p s w h then 8 * s - h else -1
instance PlaceIn_c : Con 25 (∀ (p : List UInt8) (s w h : Int), p.length ≤ 1099511627776 → Fn 25 [CA p s w h] [] (I (plA p s w h))) := ⟨fun p s w h hl => by
  unfold plA
  refine FnC.of_body tabOk Try.func25 Try.ntmps25 rfl (by decide +kernel) (by simp) fun G => ?_
  by_cases hc : CaOk p s w h
  · rw [if_pos hc]
    refine go (r := ?_); and_intros <;> intros <;> try exact True.intro
    all_goals first | contradiction | omega | trace_state
  · rw [if_neg hc]
    refine go (r := ?_); and_intros <;> intros <;> try exact True.intro
    all_goals first | contradiction | omega | trace_state⟩
abbrev SetV (p : List UInt8) (s : Int) : AV := CA p ((s + 7) / 8) (numB p s (8 * ((s + 7) / 8) - s).toNat) (8 * ((s + 7) / 8) - s)
instance settledAt_c : Con 55 (∀ (p : List UInt8) (s : Int), p.length ≤ 1099511627776 ∧ RdOk p s → Fn 55 [Z p, I s] [] (SetV p s)) := ⟨fun p s hl => by
  refine FnC.of_body tabOk Try.func55 Try.ntmps55 rfl (by decide +kernel) (by simp) fun G => ?_
  refine go (r := ?_); and_intros <;> intros <;> try exact True.intro
  all_goals first | omega | trace_state⟩
end Go.Proofs.Ytpokokcgoebbhaa

/- Comparisons of structs of two numbers. No condition. -/
namespace Go.Abs
open Go
set_option linter.unusedVariables false
set_option linter.unusedSimpArgs false

theorem run_eq_pr {P : Program} {t : TypeId} {f1 f2 : Field} (hu : P.underlying t = some (.struct #[f1, f2])) (h1 : f1.name ≠ "_") (h2 : f2.name ≠ "_") (o1 : f1.offset = 0) (o2 : f2.offset = 1)
    (hi1 : P.underlying f1.type = some (.int .i64)) (hi2 : P.underlying f2.type = some (.int .i64)) (hp : P.stoodInHeld t = false) (w : World) (a b c d : Int) :
    (Op.equalIn 10000 t (.agg #[.int .i64 a, .int .i64 b]) (.agg #[.int .i64 c, .int .i64 d])).run P w = .ok (decide (a = c ∧ b = d)) w := by
  have hf : P.fieldsOf t = #[f1, f2] := by unfold Program.fieldsOf; rw [hu]
  have h := run_equalIn_struct (P := P) w 9999 t #[.int .i64 a, .int .i64 b] #[.int .i64 c, .int .i64 d] (by rw [hf]; exact hu) hp
  rw [hf] at h
  show (Op.equalIn (9999 + 1) _ _ _).run P w = _
  rw [h]
  have p1 : ∀ (i : Nat) (x y : Int), (part f1.type #[.int .i64 x, .int .i64 y] 0).run P w = .ok (.int .i64 x) w := fun i x y => by
    simp [part, isAgg, Sem.run_bind, run_underlying hi1]
  have p2 : ∀ (x y : Int), (part f2.type #[.int .i64 x, .int .i64 y] 1).run P w = .ok (.int .i64 y) w := fun x y => by
    simp [part, isAgg, Sem.run_bind, run_underlying hi2]
  have q1 := fun x y => run_equalIn_int (P := P) w 9998 f1.type .i64 .i64 x y hi1
  have q2 := fun x y => run_equalIn_int (P := P) w 9998 f2.type .i64 .i64 x y hi2
  simp only [Op.eqFields, h1, h2, o1, o2, ne_eq, not_false_eq_true, if_true, Sem.run_bind, p1 0, Result.andThen_ok, q1]
  by_cases e1 : a = c
  · by_cases e2 : b = d
    · simp [e1, e2, Sem.run_bind, p2, q2]
    · simp [e1, e2, Sem.run_bind, p2, q2]
  · simp [e1]
/-- A type whose values are two numbers that are compared one by one. -/
class EqPr (P : Program) (t : TypeId) : Prop where
  eq : ∀ (w : World) (a b c d : Int), (Op.equalIn 10000 t (.agg #[.int .i64 a, .int .i64 b]) (.agg #[.int .i64 c, .int .i64 d])).run P w = .ok (decide (a = c ∧ b = d)) w
  gd : P.eqGuardType P.depth t = false
section
variable {P : Program} {n m : Nat} {G : Ctx} {T : List (Nat × AV)} {O : List AObj} {Q : Exit → St → Prop} {md : Bool} {ops : Array Oper} {l : List Oper} {d : Nat} {tt : TypeId} {pos : String} {after : Array Edge}
theorem RelAt.pr {S ι F a w} (hr : RelAt n m G S ι F ⟨T, O⟩ a w) {x : Operand} {p q : Int} (hx : av T x = .agg [I p, I q]) : a.eval x = .agg #[.int .i64 p, .int .i64 q] := by
  have h := hr.eval x
  rw [hx] at h
  obtain ⟨us, e, hu⟩ := LRel.agg_inv h
  rw [e]
  cases hu with
  | sc h2 => cases h2 with
    | sc h3 => cases h3; rfl
theorem WpL.prNe {t ty : TypeId} {x y : Operand} {a b c e : Int} [hE : EqPr P t] (hx : av T x = .agg [I a, I b]) (hy : av T y = .agg [I c, I e]) (hn : d < n)
    (h : WpL P n m G md ops l ⟨(d, .sc (.bool (!decide (a = c ∧ b = e)))) :: T, O⟩ Q) :
    WpL P n m G md ops ({ dst := some d, op := .binOp .neq t x y ty, type := tt, pos := pos, after := after, guard := none } :: l) ⟨T, O⟩ Q :=
  WpL.pure rfl rfl hn (fun S ι F act w hr => ⟨_, by
    simp only [execOp, hr.pr hx, hr.pr hy, Sem.run_bind, run_eqGuard_agg (P := P) w _ _ _ _ _ _ hE.gd, Result.andThen_ok, run_neq_struct (P := P) w, hE.eq, Sem.run_pure], .sc .nil⟩) h
end
end Go.Abs

/- Appending zeros to a slice of numbers that is owned. No condition. -/
namespace Go.Abs
open Go
set_option linter.unusedVariables false
set_option linter.unusedSimpArgs false

theorem zav_one {z : Value} (h : [I 0] = z.cells.toList.map zav) : z.cells = #[.int .i64 0] := by
  have hl : z.cells.toList.length = 1 := by have := congrArg List.length h; simpa using this.symm
  match hz : z.cells.toList, hl with
  | [v], _ =>
    rw [hz] at h
    simp only [List.map_cons, List.map_nil, List.cons.injEq, and_true] at h
    have hv : v = .int .i64 0 := by
      unfold zav at h
      split at h
      · cases h
      · simpa using h.symm
    apply Array.ext'
    rw [hz, hv]
theorem zero_cells {z : Value} (h : z.cells = #[.int .i64 0]) (c : Nat) : Builtin.zeroCells z.cells c = (List.replicate c (Value.int .i64 0)).toArray := by
  rw [h]
  apply Array.ext
  · simp [Builtin.zeroCells]
  · intro i h1 h2
    simp [Builtin.zeroCells, Nat.mod_one]
theorem lrel_zeros {S w ι O} : ∀ c, LRel S w ι O (ints (List.replicate c 0)) (List.replicate c (Value.int .i64 0)) []
  | 0 => .nil
  | c + 1 => .sc (lrel_zeros c)
section
variable {P : Program} (w : World)
theorem run_append_room_zeros (t u ty e : TypeId) (i : TypeInfo) (z : Value) (kn : IntKind) (ht : P.underlying t = some (.slice e)) (hu : P.underlying u = some (.int kn)) (hi : P.info? e = some i) (hz : i.zero = some z) (hzc : z.cells = #[.int .i64 0]) (hs1 : i.size = 1)
    (g sLen sCap c : Nat) (cur : Array Value) (hg : w.heap[g]? = some (.cells cur e (0, 0))) (h0 : 0 < c) (h63 : (c : Int) * (i.bytes : Int) ≤ 281474976710656 ∧ (c : Int) ≤ 9223372036854775807)
    (hroom : sLen + c ≤ sCap) (hfit : sLen * i.size + c ≤ cur.size) :
    (Builtin.append_ #[t, u] ty #[.slice (some ⟨g, 0, none⟩) sLen sCap, .int .i64 c]).run P w =
      .ok (.slice (some ⟨g, 0, none⟩) (sLen + c) sCap) (w.setRow g (cur.toList.take (sLen * i.size) ++ List.replicate c (Value.int .i64 0) ++ cur.toList.drop (sLen * i.size + (List.replicate c (Value.int .i64 0)).length)).toArray) := by
  have hn : c ≠ 0 := by omega
  have hw : IntKind.i64.wrap (c : Int) = c := by rw [IntKind.wrap_i64]; omega
  have hneg : ¬ ((c : Int) < 0) := by omega
  have h48i : ¬ (281474976710656 < (c : Int) * (i.bytes : Int)) := by omega
  have hns : ¬ (c * i.size = 0) := by rw [hs1]; omega
  have hst := run_storeCells_at P g (sLen * i.size) e (List.replicate c (Value.int .i64 0)) 0 cur w hg (by simpa using hfit) (by intro v hv; rw [List.eq_of_mem_replicate hv]; rfl)
  simp only [Nat.add_zero] at hst
  simp [Builtin.append_, run_underlying ht, run_underlying hu, sizeOf, typeInfo, zeroValue, hi, hz, asInt, asIntOf, hw, hn, hneg, hns, h48i, hroom, Addr.add_lit, zero_cells hzc, hst]
theorem run_append_grow_zeros (t u ty e : TypeId) (i : TypeInfo) (z : Value) (kn : IntKind) (ht : P.underlying t = some (.slice e)) (hu : P.underlying u = some (.int kn)) (hi : P.info? e = some i) (hz : i.zero = some z) (hzc : z.cells = #[.int .i64 0]) (hs1 : i.size = 1)
    (b : Addr) (sLen sCap c : Nat) (olds : List Value) (hlo : olds.length = sLen * i.size) (holds : ∀ j v, olds[j]? = some v → w.cell? (b.add j) = some v) (h0 : 0 < c) (h48 : (c : Int) * (i.bytes : Int) ≤ 281474976710656 ∧ (c : Int) ≤ 9223372036854775807)
    (hg : sCap < sLen + c) (h63 : sLen + c ≤ 9223372036854775807) (hfit : Builtin.nextslicecap (sLen + c) sCap * i.bytes ≤ 281474976710656) :
    (Builtin.append_ #[t, u] ty #[.slice (some b) sLen sCap, .int .i64 c]).run P w =
      .ok (.slice (some ⟨w.heap.size, 0, none⟩) (sLen + c) (grownCap w (sLen + c) sCap e))
        (w.drew.alloc (.cells (olds.toArray ++ (List.replicate c (Value.int .i64 0)).toArray ++ Builtin.zeroCells z.cells (grownCap w (sLen + c) sCap e - (sLen + c))) e)) := by
  have hn : c ≠ 0 := by omega
  have hw : IntKind.i64.wrap (c : Int) = c := by rw [IntKind.wrap_i64]; omega
  have hneg : ¬ ((c : Int) < 0) := by omega
  have h48i : ¬ (281474976710656 < (c : Int) * (i.bytes : Int)) := by omega
  have hns : ¬ (c * i.size = 0) := by rw [hs1]; omega
  have hno : ¬ (sLen + c ≤ sCap) := by omega
  have h48' : ¬ (281474976710656 < Builtin.nextslicecap (sLen + c) sCap * i.bytes) := by omega
  have h63' : ¬ (9223372036854775807 < ((sLen : Int) + (c : Int))) := by omega
  have hfo := run_firstCells_some (P := P) w.drew i.size sLen b sLen sCap olds hlo (by simpa using holds)
  simp [Builtin.append_, run_underlying ht, run_underlying hu, sizeOf, typeInfo, zeroValue, hi, hz, asInt, asIntOf, hw, hn, hneg, hns, h48i, hno, h63', h48', Question.forced, hfo, newRow, grownCap]
  rw [zero_cells hzc c]; simp
end
section
variable {P : Program} {n m : Nat} {G : Ctx} {T : List (Nat × AV)} {O : List AObj} {Q : Exit → St → Prop} {ops : Array Oper} {l : List Oper} {d : Nat} {tt : TypeId} {pos : String} {after : Array Edge} {tab : List (Nat × Ty)}
theorem WpL.appOwnZ (hP : TabOk P tab) {t u e b c : Nat} {kn : IntKind} {x y : Operand} {id ep len : Nat} {ob : AObj} (ht : tlook tab t = some (.slice e 1 b [I 0])) (hut : tlook tab u = some (.int kn)) (hx : av T x = .own id ep 0 len)
    (ho : O[id]? = some ob) (he : ob.ep = ep) (hty : ob.ty = some e) (hsz : ob.size = 1) (hol : ob.cells.length = len * 1) (hm : m ≤ id) (hy : av T y = .sc (.int .i64 c)) (hc0 : 0 < c)
    (hb : (len + c) * b ≤ 140737488355328 ∧ len + c ≤ 9223372036854775807) (hn : d < n)
    (h : WpL P n m G false ops l ⟨(d, .own id (ep + 1) 0 (len + c)) :: T, O.set id ⟨ob.cells ++ ints (List.replicate c 0), ep + 1, 1, some e⟩⟩ Q) :
    WpL P n m G false ops ({ dst := some d, op := .call { callee := .builtin .append, args := #[x, y], argTypes := #[t, u] }, type := tt, pos := pos, after := after, guard := none } :: l) ⟨T, O⟩ Q :=
  WpL.value rfl (fun a w hr => by
    obtain ⟨S, ι, F, hr⟩ := hr
    obtain ⟨hu, i, z, hi, hz, hk, hby, hzk, hk0, hzs⟩ := hP.slice ht
    have htu := (hP.ty hut).1
    have hzc := zav_one hzs
    have hcb : (c : Int) * (i.bytes : Int) ≤ 281474976710656 := by
      have h1 := Nat.mul_le_mul_right b (show c ≤ len + c by omega)
      rw [hby, ← Int.natCast_mul]; omega
    have hid : id < O.length := (List.getElem?_eq_some_iff.1 ho).1
    have hye := hr.sc hy
    have huslen : (List.replicate c (Value.int .i64 0)).length = c * 1 := by simp
    have hl : LRel S w ι O (ints (List.replicate c 0)) (List.replicate c (Value.int .i64 0)) [] := lrel_zeros c
    have hv := hr.eval x
    rw [show av (St.mk T O).T x = _ from hx] at hv
    have hob := hr.objs.obj id ob ho
    unfold ObjAt at hob
    have hown : OwnAt (ι id) ob.size 0 len (a.eval x) := by
      cases hv with
      | own q1 q2 q3 r =>
        rw [show (St.mk T O).O[id]? = some ob from ho] at q1
        cases q1
        exact q3 he.symm
    have hlenA : (ob.cells ++ ints (List.replicate c 0)).length = (len + c) * 1 := by rw [List.length_append, hol, show (ints (List.replicate c 0)).length = c * 1 by simp [ints], Nat.add_mul]
    -- what the end looks like
    have finish : ∀ (w' : World) (s' : Spot) (f' : List Nat) (v : Value), (Builtin.append_ #[t, u] tt #[a.eval x, a.eval y]).run P w = .ok v w' →
        Later S w ι O S w' (upd ι id s') (O.set id ⟨ob.cells ++ ints (List.replicate c 0), ep + 1, 1, some e⟩) ∧ RelAt n m G S (upd ι id s') (upd F id f') ⟨T, O.set id ⟨ob.cells ++ ints (List.replicate c 0), ep + 1, 1, some e⟩⟩ a w' → OwnAt s' 1 0 (len + c) v →
        ∃ v w', (execOp a.eval { dst := some d, op := .call { callee := .builtin .append, args := #[x, y], argTypes := #[t, u] }, type := tt, pos := pos, after := after, guard := none }).run P w = .ok (.value v) w' ∧
          Rel n m G ⟨(d, .own id (ep + 1) 0 (len + c)) :: T, O.set id ⟨ob.cells ++ ints (List.replicate c 0), ep + 1, 1, some e⟩⟩ (a.put (some d) v) w' := by
      intro w' s' f' v hrun hr' hoa
      refine ⟨v, w', by simp only [execOp, resolve, invoke, builtin, Sem.run_bind, Sem.run_pure, Result.andThen_ok, List.map_toArray, List.map_cons, List.map_nil, hrun], _, _, _, hr'.2.put hn ?_⟩
      exact .own (ob := ⟨ob.cells ++ ints (List.replicate c 0), ep + 1, 1, some e⟩) (by rw [List.getElem?_set_self hid]) (Nat.le_refl _) (fun _ => by rw [upd_same]; exact hoa) .nil
    -- a new block
    have fresh : ∀ (oldc : Nat) (olds : List Value) (f0 : List Nat), LRel S w ι O ob.cells olds f0 → f0.Nodup → (∀ b, b ∈ f0 → b ∈ F id) → (∀ b0 k0, ι id = some (b0, k0) → b0 ∉ f0) → len + c ≤ grownCap w (len + c) oldc e →
        (Builtin.append_ #[t, u] tt #[a.eval x, a.eval y]).run P w = .ok (.slice (some ⟨w.heap.size, 0, none⟩) (len + c) (grownCap w (len + c) oldc e)) (w.drew.alloc (.cells (olds.toArray ++ (List.replicate c (Value.int .i64 0)).toArray ++ Builtin.zeroCells z.cells (grownCap w (len + c) oldc e - (len + c))) e)) →
        ∃ v w', (execOp a.eval { dst := some d, op := .call { callee := .builtin .append, args := #[x, y], argTypes := #[t, u] }, type := tt, pos := pos, after := after, guard := none }).run P w = .ok (.value v) w' ∧
          Rel n m G ⟨(d, .own id (ep + 1) 0 (len + c)) :: T, O.set id ⟨ob.cells ++ ints (List.replicate c 0), ep + 1, 1, some e⟩⟩ (a.put (some d) v) w' := by
      intro oldc olds f0 hlo hnd0 hsub hnb hge hrun
      have hcm := grownCap_le_maxLen w (len + c) oldc e (by simp only [maxLen]; omega)
      have hA := adds_drew_alloc w (.cells (olds.toArray ++ (List.replicate c (Value.int .i64 0)).toArray ++ Builtin.zeroCells z.cells (grownCap w (len + c) oldc e - (len + c))) e)
      have holds : olds.length = len * 1 := by rw [← hlo.len]; exact hol
      have hszc : (olds.toArray ++ (List.replicate c (Value.int .i64 0)).toArray ++ Builtin.zeroCells z.cells (grownCap w (len + c) oldc e - (len + c))).size = grownCap w (len + c) oldc e * 1 := by
        simp only [Array.size_append, List.size_toArray, zeroCells_size, hzk, huslen, holds, ← Nat.add_mul]
        congr 1; omega
      refine finish _ (some (w.heap.size, grownCap w (len + c) oldc e * 1)) (w.heap.size :: f0) _ hrun (hr.renew (ob := ob) ho hm (by simp [he]) rfl rfl rfl (by rw [hA.size]; omega) (fun b' hb' _ => hA.old hb') ?_ ?_ ?_) ⟨_, rfl, by omega, hge, hcm⟩
      · intro hlat
        refine ⟨_, e, (0, 0), f0, rfl, hA.new, hszc, by rw [hlenA]; exact Nat.mul_le_mul_right _ hge, by simp, by simp, ?_⟩
        have htk : (olds.toArray ++ (List.replicate c (Value.int .i64 0)).toArray ++ Builtin.zeroCells z.cells (grownCap w (len + c) oldc e - (len + c))).toList.take (ob.cells ++ ints (List.replicate c 0)).length = olds ++ List.replicate c (Value.int .i64 0) := by
          rw [Array.toList_append, Array.toList_append]
          exact List.take_left' (by rw [hlenA, Nat.add_mul]; simp [holds, huslen])
        show LRel S _ _ _ (ob.cells ++ ints (List.replicate c 0)) _ f0
        rw [htk]
        have h1 := hlo.mono hlat (fun b' hb' => hA.old (hr.foot id hid b' (hsub b' hb')).2.2)
        have h2 := hl.mono hlat (by simp)
        simpa using h1.append h2
      · refine List.nodup_cons.2 ⟨fun hb => ?_, hnd0⟩
        have := (hr.foot id hid _ (hsub _ hb)).2.2
        omega
      · intro b' hb'
        rcases List.mem_cons.1 hb' with rfl | hb'
        · exact .inr ⟨Nat.le_refl _, by rw [hA.size]; omega⟩
        · exact .inl (hsub b' hb')
    cases hspot : ι id with
    | none =>
      rw [hspot] at hown hob
      obtain ⟨hxe, _, hlen0⟩ := hown
      subst hlen0
      obtain ⟨hcells, hFid⟩ := hob
      have hrun := Lib.run_append_nil_zeros (P := P) w t u tt e i z .i64 kn hu htu hi hz c hc0 (by omega) (by omega) (by rw [hby]; have := hb.1; simp only [Nat.zero_add] at this; omega)
      refine fresh 0 [] [] (by rw [hcells]; exact .nil) (by simp) (by simp) (by simp) (grownCap_ge _ _ _ _) ?_
      simp only [Nat.zero_add] at hrun ⊢
      rw [hxe, hye, hrun, zero_cells hzc]; simp
    | some p =>
      obtain ⟨b0, k0⟩ := p
      rw [hspot] at hown hob
      obtain ⟨cap, hxe, hcap0, hlc, hcm⟩ := hown
      obtain ⟨cur, t', fz, f', hF, hh, hcur, hle, hfz, htyp, hlo⟩ := hob
      obtain ⟨rfl, rfl⟩ := htyp e hty
      have hcurs : cur.size = cap * 1 := by rw [hcur, ← hcap0, hsz]; omega
      have hndF : (b0 :: f').Nodup := by rw [← hF]; exact hr.objs.nodup id hid
      have holdsl : (cur.toList.take ob.cells.length).length = len * 1 := by rw [← hlo.len]; exact hol
      by_cases hroom : len + c ≤ cap
      · -- in place
        have hfit : len * i.size + (List.replicate c (Value.int .i64 0)).length ≤ cur.size := by rw [hk, huslen, hcurs, ← Nat.add_mul]; exact Nat.mul_le_mul_right _ hroom
        have hrun : (Builtin.append_ #[t, u] tt #[a.eval x, a.eval y]).run P w =
            .ok (.slice (some ⟨b0, 0, none⟩) (len + c) cap) (w.setRow b0 (cur.toList.take (len * i.size) ++ List.replicate c (Value.int .i64 0) ++ cur.toList.drop (len * i.size + (List.replicate c (Value.int .i64 0)).length)).toArray) := by
          rw [hxe, hye]
          exact run_append_room_zeros (P := P) w t u tt t' i z kn hu htu hi hz hzc (by omega) b0 len cap c cur hh hc0 (by omega) hroom (by simpa using hfit)
        have hsr := setRow_heap w b0 cur (cur.toList.take (len * i.size) ++ List.replicate c (Value.int .i64 0) ++ cur.toList.drop (len * i.size + (List.replicate c (Value.int .i64 0)).length)).toArray t' (0, 0) hh
        have hso : ∀ b', b' ≠ b0 → (w.setRow b0 (cur.toList.take (len * i.size) ++ List.replicate c (Value.int .i64 0) ++ cur.toList.drop (len * i.size + (List.replicate c (Value.int .i64 0)).length)).toArray).heap[b']? = w.heap[b']? := fun b' hb' => setRow_other w b0 b' _ hb'
        refine finish _ (some (b0, k0)) (b0 :: f') _ hrun (hr.renew (ob := ob) ho hm (by simp [he]) rfl rfl rfl (by simp) ?_ ?_ hndF ?_) ⟨cap, rfl, by rw [← hcap0, hsz], hroom, hcm⟩
        · intro b' _ hb'
          refine hso b' ?_
          rintro rfl
          rcases hb' with hb' | ⟨_, hb'⟩
          · exact hb' (by rw [hF]; simp)
          · exact hb' k0 rfl
        · intro hlat
          have hlenk : ob.cells.length = len * i.size := by rw [hol, hk]
          refine ⟨_, t', (0, 0), f', rfl, hsr, ?_, ?_, by simp, by simp, ?_⟩
          · rw [← hcur]; simp; omega
          · show (ob.cells ++ ints (List.replicate c 0)).length ≤ k0
            rw [hlenA, ← hcur, hcurs]; exact Nat.mul_le_mul_right _ hroom
          · show LRel S _ _ _ (ob.cells ++ ints (List.replicate c 0)) _ f'
            have htk : (cur.toList.take (len * i.size) ++ List.replicate c (Value.int .i64 0) ++ cur.toList.drop (len * i.size + (List.replicate c (Value.int .i64 0)).length)).take (ob.cells ++ ints (List.replicate c 0)).length = cur.toList.take (len * i.size) ++ List.replicate c (Value.int .i64 0) := by
              refine List.take_left' ?_
              rw [List.length_append, List.length_append, ← hl.len, ← hlenk, ← hlo.len]
            show LRel S _ _ _ (ob.cells ++ ints (List.replicate c 0)) ((cur.toList.take (len * i.size) ++ List.replicate c (Value.int .i64 0) ++ cur.toList.drop (len * i.size + (List.replicate c (Value.int .i64 0)).length)).toArray.toList.take (ob.cells ++ ints (List.replicate c 0)).length) f'
            rw [show (cur.toList.take (len * i.size) ++ List.replicate c (Value.int .i64 0) ++ cur.toList.drop (len * i.size + (List.replicate c (Value.int .i64 0)).length)).toArray.toList = cur.toList.take (len * i.size) ++ List.replicate c (Value.int .i64 0) ++ cur.toList.drop (len * i.size + (List.replicate c (Value.int .i64 0)).length) from by simp, htk]
            have h1 := hlo.mono hlat (fun b' hb' => hso b' (by rintro rfl; exact (List.nodup_cons.1 hndF).1 hb'))
            have h2 := hl.mono hlat (by simp)
            rw [hlenk] at h1
            simpa using h1.append h2
        · intro b' hb'; exact .inl (by rw [hF]; exact hb')
      · -- a new block
        have hrun := run_append_grow_zeros (P := P) w t u tt t' i z kn hu htu hi hz hzc (by omega) ⟨b0, 0, none⟩ len cap c (cur.toList.take ob.cells.length) (by rw [hk]; exact holdsl) (by
            intro j v hj
            have hlt := (List.getElem?_eq_some_iff.1 hj).1
            rw [addr_add, Nat.zero_add, cell_of_row w b0 j cur _ _ hh]
            rw [List.getElem?_take] at hj
            split at hj
            · simpa using hj
            · simp at hj) hc0 (by omega) (by omega) hb.2 (by rw [hby]; exact growslice_fits (by omega) hb.1)
        refine fresh cap _ f' hlo (List.nodup_cons.1 hndF).2 (fun b hb => by rw [hF]; simp [hb]) (fun b1 k1 hb1 => by rw [hspot] at hb1; cases hb1; exact (List.nodup_cons.1 hndF).1) (grownCap_ge _ _ _ _) ?_
        rw [hxe, hye]; exact hrun) h
end
end Go.Abs

/- Contracts of the laws' own functions over headers, blocks, macroblocks and streams. No condition. -/
namespace Go.Proofs.Ytpokokcgoebbhaa
open Go Go.Abs
set_option linter.unusedVariables false
set_option linter.unusedSimpArgs false
set_option maxRecDepth 100000
set_option maxHeartbeats 4000000
attribute [local irreducible] WpA WpL Rnd Blk Abs.Seq Abs.Fin Abs.FinG FnC FnG Only

/-! Headers. -/
/-! Blocks. -/
def endB (k : Int) (l : List Blok) : Int := k + bw l
def markB : Int → List Blok → List Blok
  | _, [] => []
  | k, b :: l => (k, marksI (k + 1) b.2.length) :: markB (k + 1 + b.2.length) l
@[simp] theorem markB_len : ∀ (l : List Blok) (k : Int), (markB k l).length = l.length
  | [], k => rfl
  | b :: l, k => by rw [markB, List.length_cons, List.length_cons, markB_len l]
/-! Macroblocks. -/
def markM : Int → List Mbk → List Mbk
  | _, [] => []
  | k, m :: l => (decide (k % 3 = 0), markB (k + 1) m.2) :: markM (k + 1 + bw m.2) l
@[simp] theorem markM_len : ∀ (l : List Mbk) (k : Int), (markM k l).length = l.length
  | [], k => rfl
  | b :: l, k => by rw [markM, List.length_cons, List.length_cons, markM_len l]
/-! Streams. -/
end Go.Proofs.Ytpokokcgoebbhaa

/- Contracts: tables of entries; bits and bytes of numbers; the table of short codes, by the program and by the specification. No condition. -/
namespace Go.Proofs.Ytpokokcgoebbhaa
open Go Go.Abs
set_option linter.unusedVariables false
set_option linter.unusedSimpArgs false
set_option maxRecDepth 100000
set_option maxHeartbeats 4000000
attribute [local irreducible] WpA WpL Rnd Blk Abs.Seq Abs.Fin Abs.FinG FnC FnG Only

abbrev Ent := Int × Int
abbrev XE (l : List Ent) : AObj := ⟨rows prF l, 0, 2, some 93⟩
abbrev EnL (l : List Ent) : AV := .imm 2 l.length (rows prF l)
instance eqEnt : EqPr Try.prog 93 := ⟨run_eq_pr Try.underlying93 (by decide) (by decide) rfl rfl Try.underlying3 Try.underlying3 Try.stoodInHeld93, Try.eqGuardType93⟩
def markE : Int → List Ent → List Ent
  | _, [] => []
  | k, _ :: l => (k, k + 1) :: markE (k + 2) l
abbrev EnN (l : List Ent) : AObj := ⟨rows prF l, 0, 2, none⟩
end Go.Proofs.Ytpokokcgoebbhaa

/- Contracts: bits and bytes of numbers, the table of short codes, by the program and by the specification. No condition. -/
namespace Go.Proofs.Ytpokokcgoebbhaa
open Go Go.Abs
set_option linter.unusedVariables false
set_option linter.unusedSimpArgs false
set_option maxRecDepth 100000
set_option maxHeartbeats 4000000
attribute [local irreducible] WpA WpL Rnd Blk Abs.Seq Abs.Fin Abs.FinG FnC FnG Only

def Bits (l : List Int) : Prop := ∀ x ∈ l, x = 0 ∨ x = 1
instance areBits_c : Con 94 (∀ l : List Int, l.length ≤ 1099511627776 ∧ Bits l → Fn 94 [IL l] [] (B true)) := ⟨fun l hl => by
  refine FnC.of_body tabOk Try.func94 Try.ntmps94 rfl (by decide +kernel) (by simp) fun G => ?_
  refine go (r := ?_); and_intros <;> intros <;> try exact True.intro
  refine WpA.loop (fun k : Nat => ⟨[(5, IL l), (6, I l.length), (7, I k)], []⟩) (fun k => k ≤ l.length) (fun k => l.length - k) 0 (by omega) (go (r := ?_)) (fun k hk => ?_)
  · trivial
  have hb : k < l.length → l.getD k 0 = 0 ∨ l.getD k 0 = 1 := fun h => hl.2 _ (by simp [h])
  refine go (r := ?_); and_intros <;> intros <;> try exact True.intro
  all_goals first | (have := hb (by omega); omega) | trace_state⟩
instance EqualE_c : Con 98 (∀ xs ys : List Ent, xs.length ≤ 1099511627776 ∧ ys.length ≤ 1099511627776 → Fn 98 [EnL xs, EnL ys] [] (B (decide (xs = ys)))) := ⟨fun xs ys hl => by
  refine FnC.of_body tabOk Try.func98 Try.ntmps98 rfl (by decide +kernel) (by simp) fun G => ?_
  refine go (r := ?_); and_intros <;> intros <;> try exact True.intro
  · simp; intro h; subst h; simp_all
  · refine WpA.loop (fun k : Nat => ⟨[(0, EnL xs), (1, EnL ys), (12, I xs.length), (13, I k)], []⟩) (fun k => k ≤ xs.length ∧ ∀ j < k, xs.getD j default = ys.getD j default) (fun k => xs.length - k) 0 (by simp) (go (r := trivial)) (fun k hk => ?_)
    refine go (r := ?_); and_intros <;> intros <;> try exact True.intro
    · refine WpL.prNe rfl rfl (by decide) ?_
      refine go (r := ?_); and_intros <;> intros <;> try exact True.intro
      · simp; rintro rfl; simp_all
      · rename_i j hj; by_cases h : j = k
        · subst h; apply Prod.ext <;> simp_all
        · exact hk.2 j (by omega)
    · have := eq_all default (xs := xs) (ys := ys) (by omega) (fun j hj => hk.2 j (by omega))
      simp [this]⟩
def byB (l : List Int) : Nat → List Int
  | 0 => List.replicate (l.length / 8) 0
  | k + 1 => (byB l k).set (k / 8) (IntKind.u8.wrap ((BitVec.ofInt IntKind.u8.bits ((byB l k).getD (k / 8) 0) ||| BitVec.ofInt IntKind.u8.bits (IntKind.u8.wrap (IntKind.i64.wrap (l.getD k 0 * 2 ^ (7 - k % 8))))).toNat : Nat))
theorem byB_len (l : List Int) : ∀ k, (byB l k).length = l.length / 8
  | 0 => by simp [byB]
  | k + 1 => by rw [byB, List.length_set, byB_len l k]
def strB (l : List Int) : List UInt8 := (byB l l.length).map fun n : Int => UInt8.ofNat n.toNat
instance BytesOf_c : Con 50 (∀ l : List Int, l.length ≤ 1099511627776 ∧ Bits l ∧ l.length % 8 = 0 → Fn 50 [IL l] [] (.tup [Z (strB l), B true])) := ⟨fun l hl => by
  refine FnC.of_body tabOk Try.func50 Try.ntmps50 rfl (by decide +kernel) (by simp) fun G => ?_
  refine go (r := ?_); and_intros <;> intros <;> try exact True.intro
  all_goals first | exact hl.2.1 | exact hl.2.1 _ (by assumption) | omega | skip
  refine WpA.loop (fun k : Nat => ⟨[(4, .own 0 0 0 (l.length / 8)), (20, IL l), (21, I l.length), (22, I k)], [⟨u8s (byB l k), 0, 1, some 5⟩]⟩) (fun k => k ≤ l.length) (fun k => l.length - k) 0 (by omega) (go (r := ?_)) (fun k hk => ?_)
  · and_intros <;> first | exact True.intro | rfl | trace_state
  have hb : k < l.length → l.getD k 0 = 0 ∨ l.getD k 0 = 1 := fun h => hl.2.1 _ (by simp [h])
  have hln := byB_len l k
  refine go (r := ?_); and_intros <;> intros <;> try exact True.intro
  · rw [show ((k : Int) / 8).toNat = k / 8 by omega, show (7 - (k : Int) % 8).toNat = 7 - k % 8 by omega]; rfl
  · obtain rfl : k = l.length := by omega
    refine K.cv ?_
    refine WpL.ofBytes tabOk rfl rfl rfl rfl rfl (by simp [u8s, hln]) (by decide) ?_
    refine go (r := ?_); and_intros <;> intros <;> try exact True.intro
    all_goals trace_state⟩
end Go.Proofs.Ytpokokcgoebbhaa

/- Contracts: the table of short codes by the program and by the specification. No condition. -/
namespace Go.Abs
open Go
section
variable {P : Program} {n m : Nat} {G : Ctx} {T : List (Nat × AV)} {O : List AObj} {Q : Exit → St → Prop} {ops : Array Oper} {l : List Oper} {d : Nat} {tt : TypeId} {pos : String} {after : Array Edge} {tab : List (Nat × Ty)}
theorem WpL.appIntsZ (hP : TabOk P tab) {t u e b c : Nat} {kn : IntKind} {x y : Operand} {id ep len : Nat} {xs : List Int} (ht : tlook tab t = some (.slice e 1 b [I 0])) (hut : tlook tab u = some (.int kn)) (hx : av T x = .own id ep 0 len)
    (ho : O[id]? = some ⟨ints xs, ep, 1, some e⟩) (hlen : xs.length = len) (hm : m ≤ id) (hy : av T y = .sc (.int .i64 c)) (hc0 : 0 < c)
    (hb : (len + c) * b ≤ 140737488355328 ∧ len + c ≤ 9223372036854775807) (hn : d < n)
    (h : WpL P n m G false ops l ⟨(d, .own id (ep + 1) 0 (len + c)) :: T, O.set id ⟨ints (xs ++ List.replicate c 0), ep + 1, 1, some e⟩⟩ Q) :
    WpL P n m G false ops ({ dst := some d, op := .call { callee := .builtin .append, args := #[x, y], argTypes := #[t, u] }, type := tt, pos := pos, after := after, guard := none } :: l) ⟨T, O⟩ Q :=
  WpL.appOwnZ hP ht hut hx ho rfl rfl rfl (by simp [ints, hlen]) hm hy hc0 hb hn (by
    rw [show ints xs ++ ints (List.replicate c 0) = ints (xs ++ List.replicate c 0) from by simp [ints]]; exact h)
end
end Go.Abs
namespace Go.Proofs.Ytpokokcgoebbhaa
open Go Go.Abs
set_option linter.unusedVariables false
set_option linter.unusedSimpArgs false
set_option maxRecDepth 100000
set_option maxHeartbeats 4000000
attribute [local irreducible] WpA WpL Rnd Blk Abs.Seq Abs.Fin Abs.FinG FnC FnG Only

def ueStr (i : Nat) : List UInt8 := strB (bitsL i 9 ++ List.replicate 7 0)
def ueE (i : Nat) : Ent := if ueC (ueStr i) 0 = 0 ∧ ueA (ueStr i) 0 ≤ 9 then (ueA (ueStr i) 0, ueV (ueStr i) 0) else (0, 0)
def ueTab : List Ent := (List.range 512).map ueE
def usz (n : Nat) : Nat := 2 * Nat.log2 (n + 1) + 1
def fillI (n : Nat) (t : List Ent) : Nat → List Ent
  | 0 => t
  | k + 1 => (fillI n t k).set ((n + 1) * 2 ^ (9 - usz n) + k) ((usz n : Nat), n)
def tabS : Nat → List Ent
  | 0 => List.replicate 512 (0, 0)
  | n + 1 => fillI n (tabS n) (2 ^ (9 - usz n))
theorem ueTab_len : ueTab.length = 512 := by simp [ueTab]
theorem bit16 {i : Nat} (h : i < 512) : Bits (bitsL i 9 ++ List.replicate 7 0) ∧ (bitsL i 9).length = 9 := by
  have hq : (i : Int) / 2 ^ (9 : Int).toNat = 0 := Int.ediv_eq_zero_of_lt (by omega) (show (i : Int) < 512 by omega)
  have e : bitsL i 9 = bitsR i 9 9 := by rw [bitsL, if_pos ⟨by decide, by omega, hq⟩]; rfl
  rw [e]
  refine ⟨fun x hx => ?_, bitsR_len _ _ _⟩
  rcases List.mem_append.1 hx with hx | hx
  · obtain ⟨j, _, rfl⟩ := List.mem_map.1 hx; omega
  · rw [List.eq_of_mem_replicate hx]; exact .inl rfl
theorem strB_len (l : List Int) : (strB l).length = l.length / 8 := by rw [strB, List.length_map, byB_len]
theorem fillT {k : Nat} (h : k < 512) {v : Ent} (hv : v = ueE k) : ((List.range k).map ueE ++ List.replicate (512 - k) (0, 0)).set k v = (List.range (k + 1)).map ueE ++ List.replicate (512 - (k + 1)) (0, 0) := by
  subst hv
  obtain ⟨r, hr⟩ : ∃ r, 512 - k = r + 1 := ⟨511 - k, by omega⟩
  rw [hr, show 512 - (k + 1) = r by omega, List.replicate_succ, List.set_append_right _ _ (by simp), List.length_map, List.length_range, Nat.sub_self, List.set_cons_zero, List.range_succ, List.map_append]
  simp
theorem fillN {k : Nat} (h : k < 512) (hv : ueE k = (0, 0)) : (List.range k).map ueE ++ List.replicate (512 - k) (0, 0) = (List.range (k + 1)).map ueE ++ List.replicate (512 - (k + 1)) (0, 0) := by
  obtain ⟨r, hr⟩ : ∃ r, 512 - k = r + 1 := ⟨511 - k, by omega⟩
  rw [hr, show 512 - (k + 1) = r by omega, List.replicate_succ, List.range_succ, List.map_append]
  simp [hv]
section
attribute [local irreducible] ueC ueA ueV strB bitsL
instance UeTable_c : Con 23 (Fn 23 [] [XE ueTab] (.own 0 0 0 512)) := ⟨by
  refine FnC.of_body tabOk Try.func23 Try.ntmps23 rfl (by decide +kernel) (by simp) fun G => ?_
  refine go (r := ?_); and_intros <;> intros <;> try exact True.intro
  refine WpA.loop (fun k : Nat => ⟨[(1, .own 0 0 0 512), (10, I 512), (11, I k)], [XE ((List.range k).map ueE ++ List.replicate (512 - k) (0, 0))]⟩) (fun k => k ≤ 512) (fun k => 512 - k) 0 (by omega) (go (r := ?_)) (fun k hk => ?_)
  · and_intros <;> first | exact True.intro | rfl | trace_state
  have hb := fun h => bit16 (i := k) h
  refine go (r := ?_); and_intros <;> intros <;> try exact True.intro
  · have hb := hb (by omega)
    refine K.bi ?_
    refine WpL.appIntsZ (c := 7) tabOk rfl rfl rfl rfl rfl (Nat.zero_le _) rfl (by decide) (by omega) (by decide) ?_
    have hlen : (bitsL k 9 ++ List.replicate 7 0).length = 16 := by rw [List.length_append, hb.2]; rfl
    have hsl := strB_len (bitsL k 9 ++ List.replicate 7 0)
    have hln : ((List.range k).map ueE ++ List.replicate (512 - k) (0, 0)).length = 512 := by simp; omega
    refine go (r := ?_); and_intros <;> intros <;> try exact True.intro
    all_goals first | exact hb.1 _ (by assumption) | omega | (rw [hsl, hlen]; decide) | (refine fillT (by omega) ?_; rw [ueE, ueStr, if_pos ⟨by assumption, by assumption⟩]; done) | (refine fillN (by omega) ?_; rw [ueE, ueStr, if_neg (fun hh => absurd hh.2 (by assumption))]; done) | (refine fillN (by omega) ?_; rw [ueE, ueStr, if_neg (fun hh => absurd hh.1 (by assumption))]; done) | trace_state
  · obtain rfl : k = 512 := by omega
    rw [Nat.sub_self, List.replicate_zero, List.append_nil]; rfl⟩
attribute [local irreducible] usz
end
end Go.Proofs.Ytpokokcgoebbhaa

/- Contracts: macroblocks and streams that are right, pairs, the work of a stream. No condition. -/
namespace Go.Proofs.Ytpokokcgoebbhaa
open Go Go.Abs
set_option linter.unusedVariables false
set_option linter.unusedSimpArgs false
set_option maxRecDepth 100000
set_option maxHeartbeats 4000000
attribute [local irreducible] WpA WpL Rnd Blk Abs.Seq Abs.Fin Abs.FinG FnC FnG Only

theorem any_at {α : Type} [Inhabited α] {p : α → Bool} {l : List α} {i : Nat} (hi : i < l.length) (h : p (l.getD i default) = true) : l.any p = true :=
  List.any_eq_true.2 ⟨l.getD i default, by simp [hi], h⟩
theorem any_none {α : Type} [Inhabited α] {p : α → Bool} {l : List α} (h : ∀ j < l.length, p (l.getD j default) = false) : l.any p = false := by
  rw [List.any_eq_false]
  intro x hx
  obtain ⟨j, hj, rfl⟩ := List.getElem_of_mem hx
  have := h j hj
  have e : l.getD j default = l[j] := by simp [hj]
  rw [e] at this; simp [this]
theorem any_get {α : Type} [Inhabited α] {p : α → Bool} {l : List α} (h : l.any p = false) {i : Nat} (hi : i < l.length) : p (l.getD i default) = false := by
  cases hp : p (l.getD i default) with
  | false => rfl
  | true => rw [any_at hi hp] at h; cases h
instance ContainsFuncB_c : Con 47 (∀ (l : List Blok) (lens : List Int) (n : Int), l.length ≤ 1099511627776 ∧ SmB 1099511627776 l ∧ lens.length ≤ 1099511627776 → Fn 47 [BkL l, fB lens n] [] (B (l.any (badB lens n)))) := ⟨fun l lens n hl => by
  have hge := ixF_ge (badB lens n) l
  refine FnC.of_body tabOk Try.func47 Try.ntmps47 rfl (by decide +kernel) (by simp) fun G => ?_
  refine go (r := ?_); and_intros <;> intros <;> try exact True.intro
  all_goals first | exact hl.2.1 | (rw [Bool.eq_iff_iff, ← hge]; simp)⟩
def sz8 (e : Bool) : Int := bif e then 8 else 4
def nm8 (e : Bool) : Int := bif e then 1 else 4
theorem sz8_cases (e : Bool) : (sz8 e = 4 ∧ nm8 e = 4) ∨ (sz8 e = 8 ∧ nm8 e = 1) := by cases e <;> simp [sz8, nm8]
instance l23Side_s : Con 45 (∀ e : Bool, Fn 45 [B e] [] (I (sz8 e))) := ⟨fun e => by
  cases e
  · refine FnC.of_body tabOk Try.func45 Try.ntmps45 rfl (by decide +kernel) (by simp) fun G => ?_
    refine go (r := ?_); and_intros <;> intros <;> try exact True.intro
    all_goals rfl
  · refine FnC.of_body tabOk Try.func45 Try.ntmps45 rfl (by decide +kernel) (by simp) fun G => ?_
    refine go (r := ?_); and_intros <;> intros <;> try exact True.intro
    all_goals rfl⟩
instance shape_c : Con 43 (∀ e : Bool, Fn 43 [B e] [] (.tup [I (nm8 e), I (sz8 e)])) := ⟨fun e => by
  cases e
  · refine FnC.of_body tabOk Try.func43 Try.ntmps43 rfl (by decide +kernel) (by simp) fun G => ?_
    refine go (r := ?_); and_intros <;> intros <;> try exact True.intro
    all_goals rfl
  · refine FnC.of_body tabOk Try.func43 Try.ntmps43 rfl (by decide +kernel) (by simp) fun G => ?_
    refine go (r := ?_); and_intros <;> intros <;> try exact True.intro
    all_goals rfl⟩
abbrev MbkOk (e : Bool) (bs : List Blok) (lens : List Int) : Prop := (bs.length : Int) = nm8 e ∧ bs.any (badB lens (sz8 e)) = false
instance MbOk_s : Con 16 (∀ (e : Bool) (bs : List Blok) (lens : List Int), bs.length ≤ 1099511627776 ∧ SmB 1099511627776 bs ∧ lens.length ≤ 1099511627776 → Fn 16 [.agg [B e, BkL bs], IL lens] [] (B (decide (MbkOk e bs lens)))) := ⟨fun e bs lens hl => by
  have hc := sz8_cases e
  refine FnC.of_body tabOk Try.func16 Try.ntmps16 rfl (by decide +kernel) (by simp) fun G => ?_
  refine go (r := ?_); and_intros <;> intros <;> try exact True.intro
  refine WpA.loop (fun k : Nat => ⟨[(1, IL lens), (2, .ptr 0 0 0), (5, I (sz8 e)), (6, I k)], [⟨[B e, BkL bs], 0, 0, none⟩]⟩) (fun k => k ≤ bs.length ∧ ∀ j < k, badB lens (sz8 e) (bs.getD j default) = false) (fun k => bs.length - k) 0 (by simp) (go (r := ?_)) (fun k hk => ?_)
  · trivial
  have hg := fun h => smB_get hl.2.1 (k := k) h
  have hnn : sz8 e * sz8 e = 16 ∨ sz8 e * sz8 e = 64 := by rcases hc with ⟨h, _⟩ | ⟨h, _⟩ <;> rw [h] <;> decide
  have hq : 64 / (sz8 e * sz8 e) = nm8 e := by rcases hc with ⟨h, h2⟩ | ⟨h, h2⟩ <;> rw [h, h2] <;> decide
  refine go (r := ?_); and_intros <;> intros <;> try exact True.intro
  · have : bs.any (badB lens (sz8 e)) = true := any_at (i := k) (by omega) (by unfold badB; exact decide_eq_true ‹_›)
    simp [this]
  · rename_i j hj; by_cases h : j = k
    · subst h; unfold badB; exact decide_eq_false (fun hh => hh ‹BlkOk _ _ _ _›)
    · exact hk.2 j (by omega)
  all_goals have e2 : k = bs.length := by omega
  all_goals subst e2
  have := any_none (p := badB lens (sz8 e)) hk.2
  rw [hq]; simp [this]⟩
instance MbOk_c : Con 17 (∀ (e : Bool) (bs : List Blok) (lens : List Int), bs.length ≤ 1099511627776 ∧ SmB 1099511627776 bs ∧ lens.length ≤ 1099511627776 → Fn 17 [.agg [B e, BkL bs], IL lens] [] (B (decide (MbkOk e bs lens)))) := ⟨fun e bs lens hl => by
  have hc := sz8_cases e
  refine FnC.of_body tabOk Try.func17 Try.ntmps17 rfl (by decide +kernel) (by simp) fun G => ?_
  refine go (r := ?_); and_intros <;> intros <;> try exact True.intro
  all_goals simp_all⟩

/-! Streams. -/
def badM (lens : List Int) (m : Mbk) : Bool := decide (¬ MbkOk m.1 m.2 lens)
abbrev StC (w h q : Int) (b d : Bool) (l : List Int) (M : List Mbk) : List AV := [I w, I h, I q, B b, B d, IL l, MbL M]
abbrev fM (w h q : Int) (b d : Bool) (l : List Int) (M : List Mbk) : AV := .fn 79 [.iptr (StC w h q b d l M) 0]
abbrev StOk (w h q : Int) (l : List Int) (M : List Mbk) : Prop := HdOk w h q l ∧ (M.length : Int) = cntM w h ∧ M.any (badM l) = false
/-! Pairs. -/
def pk (l : List Int) : Nat → List (Int × Int) × Int
  | 0 => ([], 0)
  | k + 1 => if l.getD k 0 = 0 then ((pk l k).1, (pk l k).2 + 1) else ((pk l k).1 ++ [((pk l k).2, l.getD k 0)], 0)
def prsL (l : List Int) : List (Int × Int) := if LvOk l then (pk l l.length).1 else []
theorem pk_bd (l : List Int) : ∀ k, (pk l k).1.length ≤ k ∧ 0 ≤ (pk l k).2 ∧ (pk l k).2 ≤ k
  | 0 => by simp [pk]
  | k + 1 => by have := pk_bd l k; rw [pk]; split <;> simp <;> omega
theorem pk_nz (l : List Int) : ∀ k, k ≤ l.length → (pk l k).1.length = ((l.take k).map nz1).sum
  | 0, _ => by simp [pk]
  | k + 1, hk => by
    have ih := pk_nz l k (by omega)
    rw [take_snoc l k (by omega), List.map_append, List.sum_append, pk]
    have e : l.getD k default = l.getD k 0 := rfl
    rw [e]
    split
    · rename_i h; rw [h]; simp [nz1, ih]
    · rename_i h; have e2 : nz1 (l.getD k 0) = 1 := if_neg h
      simp only [List.map_cons, List.map_nil, List.sum_cons, List.sum_nil, e2, List.length_append, List.length_singleton, ih, Nat.add_zero]
theorem prs_nz {l : List Int} (h : LvOk l) : (prsL l).length = (l.map nz1).sum := by
  rw [prsL, if_pos h, pk_nz l _ (Nat.le_refl _), List.take_length]
abbrev XP (l : List (Int × Int)) : AObj := ⟨rows prF l, 0, 2, some 108⟩
/-! The work of a stream. -/
def wkB (b : Blok) : Nat := 2 + (if nzB b = 0 then 0 else 1 + 2 * nzB b)
def wkM (m : Mbk) : Nat := 1 + (m.2.map wkB).sum
def workL (w h q : Int) (l : List Int) (M : List Mbk) : Int := if StOk w h q l M then 7 + ((M.map wkM).sum : Nat) else 0
theorem ok_lv {e : Bool} {bs : List Blok} {l : List Int} (hs : MbkOk e bs l) {k : Nat} (hk : k < bs.length) : BlkOk (bs.getD k default).1 (bs.getD k default).2 l (sz8 e) := by
  have := any_get hs.2 hk
  unfold badB at this
  exact Decidable.not_not.1 (of_decide_eq_false this)
end Go.Proofs.Ytpokokcgoebbhaa

/- Contracts: blocks, macroblocks and streams that are read by the program. No condition. -/
namespace Go.Proofs.Ytpokokcgoebbhaa
open Go Go.Abs
set_option linter.unusedVariables false
set_option linter.unusedSimpArgs false
set_option maxRecDepth 100000
set_option maxHeartbeats 4000000
attribute [local irreducible] WpA WpL Rnd Blk Abs.Seq Abs.Fin Abs.FinG FnC FnG Only

abbrev BkV (m : Int) (l : List Int) : AV := .agg [I m, .own 0 0 0 l.length]
theorem blS_1 {p : List UInt8} {s : Int} {lens : List Int} {n : Int} (hn : n = 4 ∨ n = 8) (hs : smC p s lens = 0) (hc : (lvS p (smA p s lens) n).c = 0) : blS p s lens n = ⟨(lvS p (smA p s lens) n).a, 0, smV p s lens, (lvS p (smA p s lens) n).out⟩ := by
  unfold blS; rw [if_pos hn, if_pos hs]; simp only; rw [if_pos hc]
theorem blS_2 {p : List UInt8} {s : Int} {lens : List Int} {n : Int} (hn : n = 4 ∨ n = 8) (hs : smC p s lens = 0) (hc : (lvS p (smA p s lens) n).c ≠ 0) : blS p s lens n = ⟨(lvS p (smA p s lens) n).a, (lvS p (smA p s lens) n).c, 0, []⟩ := by
  unfold blS; rw [if_pos hn, if_pos hs]; simp only; rw [if_neg hc]
theorem blS_3 {p : List UInt8} {s : Int} {lens : List Int} {n : Int} (hn : n = 4 ∨ n = 8) (hs : smC p s lens ≠ 0) : blS p s lens n = ⟨s, smC p s lens, 0, []⟩ := by
  unfold blS; rw [if_pos hn, if_neg hs]
theorem blS_4 {p : List UInt8} {s : Int} {lens : List Int} {n : Int} (hn : ¬ (n = 4 ∨ n = 8)) : blS p s lens n = ⟨s, 5, 0, []⟩ := by
  unfold blS; rw [if_neg hn]
theorem smA_bad {p : List UInt8} {s : Int} {l : List Int} (h : smC p s l ≠ 0) : smA p s l = s := by rw [smA, if_neg h]
instance ReadBlock_c : Con 24 (∀ (p : List UInt8) (s : Int) (lens : List Int) (n : Int), p.length ≤ 1099511627776 ∧ lens.length ≤ 1099511627776 → Fn 24 [RA p s, IL lens, I n] [XI (blS p s lens n).l] (.tup [RA p (blS p s lens n).a, BkV (blS p s lens n).m (blS p s lens n).l, I (blS p s lens n).c])) := ⟨fun p s lens n hl => by
  refine FnC.of_body tabOk Try.func24 Try.ntmps24 rfl (by decide +kernel) (by simp) fun G => ?_
  by_cases hn : n = 4 ∨ n = 8
  · by_cases hs : smC p s lens = 0
    · refine go (r := ?_); and_intros <;> intros <;> try exact True.intro
      all_goals first | (exact absurd hs (by assumption)) | (exact absurd hn (by assumption)) | skip
      refine K.call ?_
      refine WpL.callM (hs := [3]) (flv_c p (smA p s lens) n hl.1 hn) handA handOA rfl rfl (.cons rfl (.sc (.sc (.sc .nil))) .nil) outA rfl rfl rfl rfl (by decide) ?_
      have e1 := blS_1 (p := p) (s := s) (lens := lens) hn hs
      have e2 := blS_2 (p := p) (s := s) (lens := lens) hn hs
      generalize lvS p (smA p s lens) n = y at e1 e2 ⊢
      by_cases hy : y.c = 0
      · rw [e1 hy]
        refine go (r := ?_); and_intros <;> intros <;> try exact True.intro
      · rw [e2 hy]
        refine go (r := ?_); and_intros <;> intros <;> try exact True.intro
    · rw [blS_3 hn hs]
      have ea := smA_bad hs
      refine go (r := ?_); and_intros <;> intros <;> try exact True.intro
  · rw [blS_4 hn]
    refine go (r := ?_); and_intros <;> intros <;> try exact True.intro⟩
/-! Macroblocks. -/
theorem mbRun_len (p : List UInt8) (s : Int) (lens : List Int) (n : Int) : ∀ k, (mbRun p s lens n k).c = 0 → (mbRun p s lens n k).bs.length = k
  | 0, _ => rfl
  | k + 1, h => by
    have ih := mbRun_len p s lens n k
    rw [mbRun] at h ⊢
    simp only at h ⊢
    split at h
    · rename_i hx
      rw [if_pos hx]
      split at h
      · rename_i hb; rw [if_pos hb]; simp [ih hx]
      · rename_i hb; exact absurd h hb
    · rename_i hx; exact absurd h hx
theorem mbRun_stop {p : List UInt8} {s : Int} {lens : List Int} {n : Int} {k : Nat} (h : (mbRun p s lens n k).c ≠ 0) : ∀ j, k ≤ j → mbRun p s lens n j = mbRun p s lens n k
  | 0, hj => by have : k = 0 := by omega
                subst this; rfl
  | j + 1, hj => by
    rcases Nat.lt_or_ge j k with h2 | h2
    · have : k = j + 1 := by omega
      subst this; rfl
    · have e := mbRun_stop h j h2
      rw [mbRun]; simp only; rw [e, if_neg h]
theorem mbS_no {p : List UInt8} {s : Int} {lens : List Int} (h : ¬ RbOk p s 1) : mbS p s lens = (⟨s, 1, []⟩, false) := by unfold mbS; rw [if_neg h]
theorem nm8_nat (e : Bool) : (bif e then 1 else 4 : Nat) = (nm8 e).toNat := by cases e <;> rfl
theorem mbS_yes {p : List UInt8} {s : Int} {lens : List Int} {E : Bool} (h : RbOk p s 1) (hE : decide (rbV p s 1 = 1) = E) : mbS p s lens = (mbRun p (s + 1) lens (sz8 E) (nm8 E).toNat, bif decide ((mbRun p (s + 1) lens (sz8 E) (nm8 E).toNat).c = 0) then E else false) := by
  unfold mbS; rw [if_pos h, hE]; simp only; rw [nm8_nat]; rfl
theorem mbRun_bad {p : List UInt8} {s : Int} {lens : List Int} {n : Int} {k : Nat} (h : (mbRun p s lens n k).c = 0) (hb : (blS p (mbRun p s lens n k).a lens n).c ≠ 0) : ∀ j, k < j → mbRun p s lens n j = ⟨(blS p (mbRun p s lens n k).a lens n).a, (blS p (mbRun p s lens n k).a lens n).c, []⟩ := by
  intro j hj
  have e : mbRun p s lens n (k + 1) = ⟨(blS p (mbRun p s lens n k).a lens n).a, (blS p (mbRun p s lens n k).a lens n).c, []⟩ := by
    rw [mbRun]; simp only; rw [if_pos h, if_neg hb]
  rw [mbRun_stop (k := k + 1) (by rw [e]; exact hb) j hj, e]
theorem mbRun_next {p : List UInt8} {s : Int} {lens : List Int} {n : Int} {k : Nat} (h : (mbRun p s lens n k).c = 0) (hb : (blS p (mbRun p s lens n k).a lens n).c = 0) : mbRun p s lens n (k + 1) = ⟨(blS p (mbRun p s lens n k).a lens n).a, 0, (mbRun p s lens n k).bs ++ [((blS p (mbRun p s lens n k).a lens n).m, (blS p (mbRun p s lens n k).a lens n).l)]⟩ := by
  rw [mbRun]; simp only; rw [if_pos h, if_pos hb]
abbrev MbV (e : Bool) (n : Nat) : AV := .agg [B e, .own 0 0 0 n]
instance ReadMb_c : Con 19 (∀ (p : List UInt8) (s : Int) (lens : List Int), p.length ≤ 1099511627776 ∧ lens.length ≤ 1099511627776 → Fn 19 [RA p s, IL lens] [BkO (mbS p s lens).1.bs] (.tup [RA p (mbS p s lens).1.a, MbV (mbS p s lens).2 (mbS p s lens).1.bs.length, I (mbS p s lens).1.c])) := ⟨fun p s lens hl => by
  refine FnC.of_body tabOk Try.func19 Try.ntmps19 rfl (by decide +kernel) (by simp) fun G => ?_
  by_cases ho : RbOk p s 1
  · have ea := (rb_yes ho).1
    generalize hE : decide (rbV p s 1 = 1) = E
    rw [mbS_yes ho hE]
    have hc8 := sz8_cases E
    refine go (r := ?_); and_intros <;> intros <;> try exact True.intro
    all_goals first | contradiction | skip
    rw [hE, ea]
    have hz : (mbRun p (s + 1) lens (sz8 E) 0) = ⟨s + 1, 0, []⟩ := rfl
    have hln := fun k h => mbRun_len p (s + 1) lens (sz8 E) k h
    have hnx := fun k h hb => mbRun_next (p := p) (s := s + 1) (lens := lens) (n := sz8 E) (k := k) h hb
    have hbd := fun k h hb j hj => mbRun_bad (p := p) (s := s + 1) (lens := lens) (n := sz8 E) (k := k) h hb j hj
    generalize mbRun p (s + 1) lens (sz8 E) = X at hz hln hnx hbd ⊢
    refine WpA.loop (fun k : Nat => ⟨[(1, IL lens), (2, .ptr 0 0 0), (4, .ptr 1 0 0), (5, .ptr 2 0 0), (9, .ptr 3 0 0), (11, I (sz8 E)), (34, I (nm8 E)), (35, I k)], [⟨[Z p, I (X k).a], 0, 0, none⟩, R0, ⟨[B false, .nilS], 0, 0, none⟩, ⟨[B E, .own 4 0 0 k], 0, 0, none⟩, BkO (X k).bs]⟩) (fun k => (k : Int) ≤ nm8 E ∧ (X k).c = 0) (fun k => (nm8 E).toNat - k) 0 (by rw [hz]; exact ⟨by omega, rfl⟩) ?_ (fun k hk => ?_)
    · rw [hz]; exact Weak.nil1 (by first | (show 0 ≤ _; exact Nat.zero_le _) | (repeat' (first | exact RzT.nil | refine RzT.cons ?_ ?_ | exact Rz.nil | refine Rz.keep rfl rfl ?_ | refine Rz.own rfl rfl rfl rfl rfl (by first | rfl | omega | (simp; done)) ?_ | refine Rz.ptr rfl rfl rfl rfl ?_ | refine Rz.nilO rfl rfl rfl (by first | rfl | omega | (simp; done)) ?_ | refine Rz.agg ?_ ?_ | exact RzO.last rfl | (refine RzO.cons ?_ (.inr rfl) ?_) | exact Rz.same rfl (still_ints _) | exact Rz.same rfl (still_rows (fun _ => rfl) _)))) (by first | (show 0 ≤ _; exact Nat.zero_le _) | (repeat' (first | exact RzT.nil | refine RzT.cons ?_ ?_ | exact Rz.nil | refine Rz.keep rfl rfl ?_ | refine Rz.own rfl rfl rfl rfl rfl (by first | rfl | omega | (simp; done)) ?_ | refine Rz.ptr rfl rfl rfl rfl ?_ | refine Rz.nilO rfl rfl rfl (by first | rfl | omega | (simp; done)) ?_ | refine Rz.agg ?_ ?_ | exact RzO.last rfl | (refine RzO.cons ?_ (.inr rfl) ?_) | exact Rz.same rfl (still_ints _) | exact Rz.same rfl (still_rows (fun _ => rfl) _)))) (Nat.zero_le _)
    have hln := hln k hk.2
    have hnx := hnx k hk.2
    have hbd := hbd k hk.2
    have hfin : ¬ (k : Int) < nm8 E → X (nm8 E).toNat = X k := fun h => by rw [show (nm8 E).toNat = k by omega]
    generalize hy : X k = y at hk hln hnx hbd hfin ⊢
    have hln : y.bs.length = k := hln
    by_cases hb : (blS p y.a lens (sz8 E)).c = 0
    · have hnx := hnx hb
      clear hbd
      refine go (r := ?_); and_intros <;> intros <;> try exact True.intro
      all_goals first | contradiction | (rw [hnx]; done) | (rw [hfin (by assumption)]; first | done | omega | (simp [hk.2]; done) | (simp only; omega)) | trace_state
    · have hbd := hbd hb
      clear hnx
      refine go (r := ?_); and_intros <;> intros <;> try exact True.intro
      all_goals first | contradiction | (rw [hbd _ (by omega)]; first | done | (simp [hb]; done)) | (rw [hfin (by assumption)]; first | done | omega | (simp [hk.2]; done) | (simp only; omega)) | trace_state
  · rw [mbS_no ho]
    have ea := (rb_no ho).1
    refine go (r := ?_); and_intros <;> intros <;> try exact True.intro
    all_goals first | contradiction | trace_state⟩
end Go.Proofs.Ytpokokcgoebbhaa

/- Contracts: levels, blocks and macroblocks that are read by the specification. No condition. -/
namespace Go.Proofs.Ytpokokcgoebbhaa
open Go Go.Abs
set_option linter.unusedVariables false
set_option linter.unusedSimpArgs false
set_option maxRecDepth 100000
set_option maxHeartbeats 4000000
attribute [local irreducible] WpA WpL Rnd Blk Abs.Seq Abs.Fin Abs.FinG FnC FnG Only

def pvC (p : List UInt8) (s room : Int) : Int := fuC p (fuA p s 0 (kR room)) (fuC p s 0 (kR room)) kL
def pvA (p : List UInt8) (s room : Int) : Int := fuA p (fuA p s 0 (kR room)) (fuC p s 0 (kR room)) kL
def pvR (p : List UInt8) (s room : Int) : Int := if pvC p s room = 0 then fuV p s 0 (kR room) else 0
def pvL (p : List UInt8) (s room : Int) : Int := if pvC p s room = 0 then lvOf (fuV p (fuA p s 0 (kR room)) (fuC p s 0 (kR room)) kL) else 0
theorem fu_yes {p : List UInt8} {s : Int} {k : Int → Int} (h : ueC p s = 0) (hk : k (ueV p s) = 0) : fuC p s 0 k = 0 ∧ fuA p s 0 k = ueA p s ∧ fuV p s 0 k = ueV p s := by
  have e : fuC p s 0 k = 0 := by rw [fuC, if_pos rfl, if_pos h, hk]
  exact ⟨e, by rw [fuA, if_pos e], by rw [fuV, if_pos e]⟩
theorem pv_5 {p : List UInt8} {s room : Int} (h : ueC p s = 0) (h2 : ueV p s < room) (h3 : ueC p (ueA p s) = 0) (h4 : -16383 ≤ lvOf (ueV p (ueA p s)) ∧ lvOf (ueV p (ueA p s)) ≤ 16383) : pvA p s room = ueA p (ueA p s) ∧ pvC p s room = 0 ∧ pvR p s room = ueV p s ∧ pvL p s room = lvOf (ueV p (ueA p s)) := by
  have e := fu_yes (k := kR room) h (ifE_yes h2)
  have f := fu_yes (k := kL) h3 (ifE_yes h4)
  have e2 : pvC p s room = 0 := by rw [pvC, e.1, e.2.1, f.1]
  exact ⟨by rw [pvA, e.1, e.2.1, f.2.1], e2, by rw [pvR, if_pos e2, e.2.2], by rw [pvL, if_pos e2, e.1, e.2.1, f.2.2]⟩
theorem lvStep_pv0 {p : List UInt8} {nn : Int} {x : LvS} (hc : x.c = 0) (h : pvC p x.a (nn - x.at_) = 0) : lvStep p nn x = ⟨pvA p x.a (nn - x.at_), 0, x.at_ + pvR p x.a (nn - x.at_) + 1, x.out.set (x.at_ + pvR p x.a (nn - x.at_)).toNat (pvL p x.a (nn - x.at_))⟩ := by
  have h' := h
  rw [pvC] at h'
  have e3 : pvR p x.a (nn - x.at_) = fuV p x.a 0 (kR (nn - x.at_)) := by rw [pvR, if_pos h]
  have e4 : pvL p x.a (nn - x.at_) = lvOf (fuV p (fuA p x.a 0 (kR (nn - x.at_))) (fuC p x.a 0 (kR (nn - x.at_))) kL) := by rw [pvL, if_pos h]
  rw [lvStep_yes hc, if_pos h', e3, e4, h']; rfl
section
attribute [local irreducible] ueA ueV ueC pvC pvA pvR pvL lvOf
end
theorem k0_ok {p : List UInt8} {s : Int} (h : RbOk p s 1) : fbC p s 0 1 k0C = 0 ∧ fbA p s 0 1 k0C = rbA p s 1 ∧ fbV p s 0 1 k0C = rbV p s 1 := by
  have e1 : fbC p s 0 1 k0C = 0 := by rw [fbC, if_pos rfl, if_pos h]
  exact ⟨e1, by rw [fbA, if_pos ⟨rfl, e1⟩], by rw [fbV, if_pos e1]⟩
theorem lv_2 {p : List UInt8} {s n : Int} (h : RbOk p s 1) (hv : rbV p s 1 = 0) : lvS p s n = ⟨rbA p s 1, 0, 0, List.replicate (n * n).toNat 0⟩ := by
  obtain ⟨e1, e2, e3⟩ := k0_ok h
  rw [lvS_no (by rw [e3]; exact hv), e1, e2]
theorem lv_5 {p : List UInt8} {s n : Int} (h : RbOk p s 1) (hv : rbV p s 1 ≠ 0) (hu : ueC p (rbA p s 1) = 0) (h2 : ueV p (rbA p s 1) < n * n) : lvS p s n = lvRun p (n * n) ⟨ueA p (rbA p s 1), 0, 0, List.replicate (n * n).toNat 0⟩ (1 + ueV p (rbA p s 1)).toNat := by
  obtain ⟨e1, e2, e3⟩ := k0_ok h
  have f := fu_yes (k := kR (n * n)) hu (ifE_yes h2)
  rw [lvS_yes (by rw [e3]; exact hv), e1, e2, f.1, f.2.1, f.2.2]
section
attribute [local irreducible] rbA rbV ueA ueV ueC pvC pvA pvR pvL lvOf lvS lvRun
end
section
attribute [local irreducible] lvS smA smV smC blS
end
section
attribute [local irreducible] rbA rbV blS mbS mbRun sz8 nm8
end
end Go.Proofs.Ytpokokcgoebbhaa

/- Contracts: the check of tables, levels out of a cache; the law FnExactFastLevels. No condition. -/
namespace Go.Proofs.Ytpokokcgoebbhaa
open Go Go.Abs
set_option linter.unusedVariables false
set_option linter.unusedSimpArgs false
set_option maxRecDepth 100000
set_option maxHeartbeats 4000000
attribute [local irreducible] WpA WpL Rnd Blk Abs.Seq Abs.Fin Abs.FinG FnC FnG Only

attribute [local irreducible] ueTab
instance TableOk_c : Con 54 (∀ t : List Ent, t.length ≤ 1099511627776 → Fn 54 [EnL t] [] (B (decide (t = ueTab)))) := ⟨fun t hl => by
  have h5 := ueTab_len
  refine FnC.of_body tabOk Try.func54 Try.ntmps54 rfl (by decide +kernel) (by simp) fun G => ?_
  refine go (r := ?_); and_intros <;> intros <;> try exact True.intro
  all_goals first | omega | trace_state⟩
/-! Levels out of a cache. -/
abbrev FlOk (p : List UInt8) (s w h n : Int) (t : List Ent) : Prop := CaOk p s w h ∧ t = ueTab ∧ (n = 4 ∨ n = 8)
structure FlS where
  s : Int
  w : Int
  h : Int
  l : List Int
  c : Int
def flS (p : List UInt8) (s w h n : Int) (t : List Ent) : FlS :=
  if FlOk p s w h n t then
    let x := lvS p (plA p s w h) n
    let y : Int := (x.a + 7) / 8
    ⟨y, numB p x.a (8 * y - x.a).toNat, 8 * y - x.a, if x.c = 0 then x.out else [], x.c⟩
  else ⟨s, w, h, [], 5⟩
theorem ca_rd {p : List UInt8} {s w h : Int} (hc : CaOk p s w h) : RdOk p (8 * s - h) := by have := hc.1; have := hc.2.1; constructor <;> omega
theorem plA_yes {p : List UInt8} {s w h : Int} (hc : CaOk p s w h) : plA p s w h = 8 * s - h := if_pos hc
abbrev FlV (x : FlS) (p : List UInt8) : AV := .tup [CA p x.s x.w x.h, .own 0 0 0 x.l.length, I x.c]
section
attribute [local irreducible] lvS numB
end
section
attribute [local irreducible] flS
end
end Go.Proofs.Ytpokokcgoebbhaa

/- Contracts: the table of symbols by the program and by the specification. No condition. -/
namespace Go.Proofs.Ytpokokcgoebbhaa
open Go Go.Abs
set_option linter.unusedVariables false
set_option linter.unusedSimpArgs false
set_option maxRecDepth 100000
set_option maxHeartbeats 4000000
attribute [local irreducible] WpA WpL Rnd Blk Abs.Seq Abs.Fin Abs.FinG FnC FnG Only

/-! Plain: which symbol seven bits begin with. -/
def byT (i : Nat) : List UInt8 := [UInt8.ofNat (2 * i)]
theorem byT_num : ∀ i < 128, numB (byT i) 0 7 = i := by decide +kernel
theorem byT_eq : ∀ i : Nat, i < 128 → List.map (fun n : Int => UInt8.ofNat n.toNat) [IntKind.u8.wrap (IntKind.i64.wrap ((i : Int) * 2 ^ Int.toNat 1))] = byT i := by decide +kernel
theorem byT_eq' (i : Nat) (h : i < 128) : List.map (fun n : Int => UInt8.ofNat n.toNat) [IntKind.u8.wrap (IntKind.i64.wrap ((i : Int) * 2 ^ Int.toNat 1))] = byT i := byT_eq i h
theorem byT_rb {i : Nat} {n : Int} (h : 0 ≤ n ∧ n ≤ 7) : RbOk (byT i) 0 n := by
  have hl : (byT i).length = 1 := rfl
  refine ⟨⟨by omega, by rw [hl]; omega⟩, ⟨h.1, by omega⟩, ?_⟩
  rw [lft_ok ⟨by omega, by rw [hl]; omega⟩, hl]; omega
def syE (l : List Int) (i : Nat) : Ent := (smA (byT i) 0 l, smV (byT i) 0 l)
def syTab (l : List Int) : List Ent := (List.range 128).map (syE l)
theorem syTab_len (l : List Int) : (syTab l).length = 128 := by simp [syTab]
instance (l : List Int) (m : Nat) (v : Int) : Decidable (hit (codes l) l m v) := by unfold hit; infer_instance
abbrev hitI (l : List Int) (m i : Nat) : Prop := l.getD m 0 ≠ 0 ∧ hit (codes l) l m i
def pickE (l : List Int) (m i : Nat) : Ent := match (List.range m).find? (fun q => decide (hitI l q i)) with
  | some q => (l.getD q 0, q)
  | none => (0, 0)
theorem pickE_some {l : List Int} (hl : CodeOk l) {m i q : Nat} (hm : m ≤ 6) (hq : q < m) (h : hitI l q i) : pickE l m i = (l.getD q 0, (q : Int)) := by
  unfold pickE
  cases hf : (List.range m).find? (fun q => decide (hitI l q i)) with
  | none =>
    rw [List.find?_eq_none] at hf
    exact absurd (decide_eq_true h) (hf q (List.mem_range.2 hq))
  | some r =>
    have h1 := List.find?_some hf
    have h2 := List.mem_of_find?_eq_some hf
    have hr : hitI l r i := of_decide_eq_true h1
    have hrm : r < m := by simpa using h2
    have : r = q := code_uni hl (by omega) (by omega) hr.1 h.1 hr.2 h.2
    rw [this]
theorem pick_sy {l : List Int} (hl : CodeOk l) {i : Nat} (hi : i < 128) : pickE l 6 i = syE l i := by
  obtain ⟨m, hm, hs⟩ := sym_cov (p := byT i) (s := 0) hl (byT_rb (by omega))
  have hh := sym_hit hl hm hs
  rw [byT_num i hi] at hh
  obtain ⟨e1, e2, _⟩ := sm_yes hl hm hs
  rw [pickE_some hl (Nat.le_refl 6) hm ⟨by omega, hh⟩, syE, e1, e2, Int.zero_add]
def bsI (l : List Int) (m : Nat) : Int := (codes l).getD m 0 * cw (l.getD m 0)
/-- The table when so many of a symbol's entries are laid. -/
def entS (l : List Int) (m : Nat) (k : Int) (i : Nat) : Ent := if l.getD m 0 ≠ 0 ∧ bsI l m ≤ i ∧ (i : Int) < bsI l m + k then (l.getD m 0, (m : Int)) else pickE l m i
def tabM (l : List Int) (m : Nat) (k : Int) : List Ent := (List.range 128).map (entS l m k)
def syTR (l : List Int) : List Ent := if CodeOk l then syTab l else []
attribute [local irreducible] syE tabM codes cw smA smV smC
instance SymTable_c : Con 22 (∀ l : List Int, l.length ≤ 1099511627776 → Fn 22 [IL l] [XE (syTR l)] (.own 0 0 0 (syTR l).length)) := ⟨fun l hl => by
  refine FnC.of_body tabOk Try.func22 Try.ntmps22 rfl (by decide +kernel) (by simp) fun G => ?_
  by_cases hc : CodeOk l
  · have e : syTR l = syTab l := if_pos hc
    rw [e]
    refine go (r := ?_); and_intros <;> intros <;> try exact True.intro
    all_goals first | contradiction | skip
    refine WpA.loop (fun k : Nat => ⟨[(0, IL l), (3, .own 0 0 0 k), (12, I k)], [XE ((List.range k).map (syE l))]⟩) (fun k => k ≤ 128) (fun k => 128 - k) 0 (by omega) (go (r := ?_)) (fun k hk => ?_)
    · and_intros <;> first | exact True.intro | rfl | trace_state
    have hln : ((List.range k).map (syE l)).length = k := by simp
    refine go (r := ?_); and_intros <;> intros <;> try exact True.intro
    · exact Nat.le_of_ble_eq_true rfl
    · rw [byT_eq' k (by omega), List.range_succ, List.map_append, List.map_singleton, syE]
    all_goals obtain rfl : k = 128 := by omega
    · exact (syTab_len l).symm
    · rfl
  · have e : syTR l = [] := if_neg hc
    rw [e]
    refine go (r := ?_); and_intros <;> intros <;> try exact True.intro
    all_goals first | contradiction | trace_state⟩
end Go.Proofs.Ytpokokcgoebbhaa

/- Contracts: macroblocks out of a cache; the law FnExactFastMb. No condition. -/
namespace Go.Proofs.Ytpokokcgoebbhaa
open Go Go.Abs
set_option linter.unusedVariables false
set_option linter.unusedSimpArgs false
set_option maxRecDepth 100000
set_option maxHeartbeats 4000000
attribute [local irreducible] WpA WpL Rnd Blk Abs.Seq Abs.Fin Abs.FinG FnC FnG Only

/-! The lengths of which a table of symbols is made. -/
def lnS (t : List Ent) : Nat → List Int
  | 0 => List.replicate 6 0
  | k + 1 => (lnS t k).set (t.getD k default).2.toNat (t.getD k default).1
theorem lnS_len (t : List Ent) : ∀ k, (lnS t k).length = 6
  | 0 => rfl
  | k + 1 => by rw [lnS, List.length_set, lnS_len t k]
abbrev VlOk (e : Ent) : Prop := 0 ≤ e.2 ∧ e.2 ≤ 5
abbrev VlsOk (t : List Ent) : Prop := ∀ e ∈ t, VlOk e
abbrev LfOk (t : List Ent) : Prop := VlsOk t ∧ CodeOk (lnS t t.length) ∧ syTab (lnS t t.length) = t
def lnR (t : List Ent) : List Int := if LfOk t then lnS t t.length else []
theorem vls_of {t : List Ent} (h : ∀ j < t.length, VlOk (t.getD j default)) : VlsOk t := by
  intro e he
  obtain ⟨j, hj, rfl⟩ := List.getElem_of_mem he
  have := h j hj
  simpa [hj] using this
theorem vls_at {t : List Ent} (h : VlsOk t) {j : Nat} (hj : j < t.length) : VlOk (t.getD j default) := h _ (by simp [hj])
theorem lfOk_no1 {t : List Ent} (h : ¬ VlsOk t) : ¬ LfOk t := fun hh => h hh.1
theorem syTR_len (l : List Int) : (syTR l).length ≤ 128 := by
  unfold syTR; split
  · rw [syTab_len]; exact Nat.le_refl _
  · exact Nat.zero_le _
attribute [local irreducible] syTab CodeOk lnS syTR
instance lensFor_c : Con 52 (∀ t : List Ent, t.length ≤ 1099511627776 → Fn 52 [EnL t] [XI (if VlsOk t then lnS t t.length else [])] (.tup [.own 0 0 0 (if VlsOk t then lnS t t.length else []).length, B (decide (LfOk t))])) := ⟨fun t hl => by
  have hll := lnS_len t
  have hst : ∀ k, lnS t (k + 1) = (lnS t k).set (t.getD k default).2.toNat (t.getD k default).1 := fun k => by rw [lnS]
  have hz : lnS t 0 = List.replicate 6 0 := by rw [lnS]
  refine FnC.of_body tabOk Try.func52 Try.ntmps52 rfl (by decide +kernel) (by simp) fun G => ?_
  refine go (r := ?_); and_intros <;> intros <;> try exact True.intro
  refine WpA.loop (fun k : Nat => ⟨[(0, EnL t), (4, .own 0 0 0 6), (8, EnL t), (9, I t.length), (10, I k)], [XI (lnS t k)]⟩) (fun k => k ≤ t.length ∧ ∀ j < k, VlOk (t.getD j default)) (fun k => t.length - k) 0 (by simp) (go (r := ?_)) (fun k hk => ?_)
  · rw [hz]; and_intros <;> first | exact True.intro | rfl | trace_state
  have hll := hll k
  have hst := hst k
  have hex : ¬ VlOk (t.getD k default) → k < t.length → ¬ VlsOk t := fun h h2 hh => h (vls_at hh h2)
  have hfin : k = t.length → VlsOk t := fun h => vls_of fun j hj => hk.2 j (by omega)
  by_cases hkl : k < t.length
  · by_cases hv : VlOk (t.getD k default)
    · refine go (r := ?_); and_intros <;> intros <;> try exact True.intro
      all_goals first | contradiction | (rw [hst]; done) | (rename_i j hj; by_cases h : j = k; (subst h; omega); (have := hk.2 j (by omega); omega)) | trace_state
    · have hn := hex hv hkl
      rw [if_neg hn, decide_eq_false (lfOk_no1 hn)]
      refine go (r := ?_); and_intros <;> intros <;> try exact True.intro
      all_goals first | contradiction | trace_state
  · obtain rfl : k = t.length := by omega
    have hv := hfin rfl
    rw [if_pos hv]
    have h128 := syTR_len (lnS t t.length)
    refine go (r := ?_); and_intros <;> intros <;> try exact True.intro
    · rename_i hc
      have e : syTR (lnS t t.length) = syTab (lnS t t.length) := by unfold syTR; rw [if_pos hc]
      rw [e, Bool.eq_iff_iff, decide_eq_true_eq, decide_eq_true_eq]
      exact ⟨fun h => ⟨hv, hc, h⟩, fun h => h.2.2⟩
    · rename_i hc
      exact (decide_eq_false (fun h : LfOk t => hc h.2.1)).symm⟩
/-! A macroblock out of a cache. -/
abbrev FmOk (p : List UInt8) (s w h : Int) (y t : List Ent) : Prop := LfOk y ∧ CaOk p s w h ∧ t = ueTab
structure FmS where
  s : Int
  w : Int
  h : Int
  e : Bool
  bs : List Blok
  c : Int
def fmS (p : List UInt8) (s w h : Int) (y t : List Ent) : FmS :=
  if FmOk p s w h y t then
    let x := mbS p (plA p s w h) (lnS y y.length)
    let u : Int := (x.1.a + 7) / 8
    ⟨u, numB p x.1.a (8 * u - x.1.a).toNat, 8 * u - x.1.a, x.2, x.1.bs, x.1.c⟩
  else ⟨s, w, h, false, [], 4⟩
theorem fmS_no {p : List UInt8} {s w h : Int} {y t : List Ent} (hf : ¬ FmOk p s w h y t) : fmS p s w h y t = ⟨s, w, h, false, [], 4⟩ := if_neg hf
theorem fmS_yes {p : List UInt8} {s w h : Int} {y t : List Ent} (hf : FmOk p s w h y t) : fmS p s w h y t = ⟨((mbS p (plA p s w h) (lnS y y.length)).1.a + 7) / 8, numB p (mbS p (plA p s w h) (lnS y y.length)).1.a (8 * (((mbS p (plA p s w h) (lnS y y.length)).1.a + 7) / 8) - (mbS p (plA p s w h) (lnS y y.length)).1.a).toNat, 8 * (((mbS p (plA p s w h) (lnS y y.length)).1.a + 7) / 8) - (mbS p (plA p s w h) (lnS y y.length)).1.a, (mbS p (plA p s w h) (lnS y y.length)).2, (mbS p (plA p s w h) (lnS y y.length)).1.bs, (mbS p (plA p s w h) (lnS y y.length)).1.c⟩ := if_pos hf
abbrev FmV (x : FmS) (p : List UInt8) : AV := .tup [CA p x.s x.w x.h, MbV x.e x.bs.length, I x.c]
attribute [local irreducible] mbS numB lnR ueTab
end Go.Proofs.Ytpokokcgoebbhaa

/- Short names of objects. No condition. -/
namespace Go.Proofs.Ytpokokcgoebbhaa
open Go Go.Abs
abbrev XD (l : List Int) : AObj := ⟨ints l, 1, 1, some 3⟩
abbrev XQ (l : List (Int × Int)) : AObj := ⟨rows prF l, 1, 2, some 108⟩
abbrev DD : AObj := ⟨[], 2, 0, none⟩
end Go.Proofs.Ytpokokcgoebbhaa

/- Contracts: pairs by the program; bits of blocks, macroblocks, headers. No condition. -/
namespace Go.Proofs.Ytpokokcgoebbhaa
open Go Go.Abs
set_option linter.unusedVariables false
set_option linter.unusedSimpArgs false
set_option maxRecDepth 100000
set_option maxHeartbeats 4000000
attribute [local irreducible] WpA WpL Rnd Blk Abs.Seq Abs.Fin Abs.FinG FnC FnG Only

/-! Lists joined. -/
theorem fm_snoc {α β : Type} [Inhabited α] (f : α → List β) (l : List α) (k : Nat) (h : k < l.length) : (l.take (k + 1)).flatMap f = (l.take k).flatMap f ++ f (l.getD k default) := by
  rw [take_snoc l k h, List.flatMap_append]; simp
theorem fm_bd {α β : Type} (f : α → List β) (c : Nat) (h : ∀ a, (f a).length ≤ c) : ∀ l : List α, (l.flatMap f).length ≤ c * l.length
  | [] => by simp
  | a :: l => by
    have := fm_bd f c h l
    have h1 := h a
    rw [List.flatMap_cons, List.length_append, List.length_cons, Nat.mul_add]; omega

/-! Pairs. -/
theorem pk_in (l : List Int) : ∀ k, k ≤ l.length → ∀ p ∈ (pk l k).1, (0 ≤ p.1 ∧ p.1 ≤ k) ∧ p.2 ≠ 0 ∧ p.2 ∈ l
  | 0, _, p, hp => by simp [pk] at hp
  | k + 1, hk, p, hp => by
    have ih := pk_in l k (by omega)
    have hb := pk_bd l k
    rw [pk] at hp
    split at hp
    · obtain ⟨a, b, c⟩ := ih p hp; exact ⟨by omega, b, c⟩
    · rename_i hz
      rcases List.mem_append.1 hp with hp | hp
      · obtain ⟨a, b, c⟩ := ih p hp; exact ⟨by omega, b, c⟩
      · simp only [List.mem_singleton] at hp
        subst hp
        refine ⟨by omega, hz, ?_⟩
        have e : l.getD k 0 = l[k]'(by omega) := by simp [show k < l.length by omega]
        simp only [e]; exact List.getElem_mem _
theorem in_mem {l : List Int} {lo hi : Int} (h : In l lo hi) {x : Int} (hx : x ∈ l) : lo ≤ x ∧ x ≤ hi := by
  unfold In at h; exact h x hx
theorem prs_in {l : List Int} (h : LvOk l) {k : Nat} (hk : k < (prsL l).length) : (0 ≤ ((prsL l).getD k default).1 ∧ ((prsL l).getD k default).1 ≤ 64) ∧ ((prsL l).getD k default).2 ≠ 0 ∧ -16383 ≤ ((prsL l).getD k default).2 ∧ ((prsL l).getD k default).2 ≤ 16383 := by
  have hm : (prsL l).getD k default ∈ (prsL l) := by simp [hk]
  generalize (prsL l).getD k default = p at hm
  rw [prsL, if_pos h] at hm
  obtain ⟨h1, h2, h3⟩ := pk_in l l.length (Nat.le_refl _) p hm
  have h4 := in_mem h.1 h3
  have h5 : l.length ≤ 64 := by rcases h.2 with h | h <;> omega
  refine ⟨by omega, h2, h4⟩
theorem prs_len (l : List Int) : (prsL l).length ≤ 64 := by
  unfold prsL; split
  · rename_i h
    have := (pk_bd l l.length).1
    rcases h.2 with h | h <;> omega
  · simp
theorem nolL_in {v : Int} (h : v ≠ 0 ∧ -16383 ≤ v ∧ v ≤ 16383) : 0 ≤ nolL v ∧ nolL v ≤ 65534 := by unfold nolL; split <;> (try split) <;> omega
instance PairsOf_c : Con 68 (∀ l : List Int, LvOk l → Fn 68 [IL l] [XP (prsL l)] (.own 0 0 0 (prsL l).length)) := ⟨fun l h => by
  have hl : l.length ≤ 64 := by rcases h.2 with h | h <;> omega
  refine FnC.of_body tabOk Try.func68 Try.ntmps68 rfl (by decide +kernel) (by simp) fun G => ?_
  refine go (r := ?_); and_intros <;> intros <;> try exact True.intro
  all_goals first | (exact absurd h (by assumption)) | skip
  refine WpA.loop (fun k : Nat => ⟨[(3, .own 0 0 0 (pk l k).1.length), (4, I (pk l k).2), (11, IL l), (12, I l.length), (13, I k)], [XP (pk l k).1]⟩) (fun k => k ≤ l.length) (fun k => l.length - k) 0 (by simp) (go (r := ?_)) (fun k hk => ?_)
  · simp [pk]
  have hb := pk_bd l k
  have hend : k = l.length → (pk l k).1 = prsL l := by rintro rfl; rw [prsL, if_pos h]
  by_cases hz : l.getD k 0 = 0
  · have e1 : pk l (k + 1) = ((pk l k).1, (pk l k).2 + 1) := by rw [pk, if_pos hz]
    have e2 : (pk l (k + 1)).1.length = (pk l k).1.length := by rw [e1]
    refine go (r := ?_); and_intros <;> intros <;> try exact True.intro
    all_goals first | (rw [e1]; done) | (rw [hend (by omega)]; done)
  · have e1 : pk l (k + 1) = ((pk l k).1 ++ [((pk l k).2, l.getD k 0)], 0) := by rw [pk, if_neg hz]
    have e2 : (pk l (k + 1)).1.length = (pk l k).1.length + 1 := by rw [e1, List.length_append, List.length_singleton]
    refine go (r := ?_); and_intros <;> intros <;> try exact True.intro
    all_goals first | (rw [e1]; done) | (rw [e1]; rfl) | (rw [hend (by omega)]; done) | trace_state⟩

/-! Bits of blocks. -/
def prB (p : Int × Int) : List Int := ueL p.1 ++ ueL (nolL p.2)
theorem prB_len (p : Int × Int) : (prB p).length ≤ 128 := by
  have h1 := ueL_len p.1
  have h2 := ueL_len (nolL p.2)
  unfold prB; rw [List.length_append]; omega
def bkK (m : Int) (lv lens : List Int) (k : Nat) : List Int := (symL lens m ++ [1] ++ ueL ((prsL lv).length - 1)) ++ ((prsL lv).take k).flatMap prB
def bkL (m : Int) (lv lens : List Int) (n : Int) : List Int := if BlkOk m lv lens n then (if (prsL lv).length = 0 then symL lens m ++ [0] else bkK m lv lens (prsL lv).length) else []
theorem symL_len7 (l : List Int) (m : Int) : (symL l m).length ≤ 48 := by
  unfold symL; split
  · exact bitsL_len _ _
  · simp
theorem bkK_len (m : Int) (lv lens : List Int) (k : Nat) : (bkK m lv lens k).length ≤ 113 + 128 * k := by
  have h1 := symL_len7 lens m
  have h2 := ueL_len ((prsL lv).length - 1)
  have h3 := fm_bd prB 128 prB_len ((prsL lv).take k)
  have h4 : ((prsL lv).take k).length ≤ k := by simp; omega
  unfold bkK; simp only [List.length_append, List.length_cons, List.length_nil]; omega
theorem bkK_zero (m : Int) (lv lens : List Int) : bkK m lv lens 0 = symL lens m ++ [1] ++ ueL ((prsL lv).length - 1) := by simp [bkK]
theorem bkK_succ (m : Int) (lv lens : List Int) (k : Nat) (h : k < (prsL lv).length) : bkK m lv lens (k + 1) = bkK m lv lens k ++ ueL ((prsL lv).getD k default).1 ++ ueL (nolL ((prsL lv).getD k default).2) := by
  unfold bkK; rw [fm_snoc prB _ k h, ← List.append_assoc, prB, ← List.append_assoc]
theorem bkL_len (m : Int) (lv lens : List Int) (n : Int) : (bkL m lv lens n).length ≤ 8400 := by
  have h1 := symL_len7 lens m
  have h2 := bkK_len m lv lens (prsL lv).length
  have h3 := prs_len lv
  unfold bkL; split
  · split
    · simp; omega
    · omega
  · simp
abbrev BoxB (m : Int) (lv : List Int) : AObj := ⟨[I m, IL lv], 0, 0, none⟩
instance BlockBits_c : Con 30 (∀ (m : Int) (lv lens : List Int) (n : Int), lv.length ≤ 1099511627776 ∧ lens.length ≤ 1099511627776 ∧ BlkOk m lv lens n → Fn 30 [.agg [I m, IL lv], IL lens, I n] [XI (bkL m lv lens n)] (.own 0 0 0 (bkL m lv lens n).length)) := ⟨fun m lv lens n hl => by
  have hs := symL_len7 lens m
  have hu := ueL_len ((prsL lv).length - 1)
  have hp := prs_len lv
  have h := hl.2.2
  refine FnC.of_body tabOk Try.func30 Try.ntmps30 rfl (by decide +kernel) (by simp) fun G => ?_
  refine goR (r := ?_); and_intros <;> intros <;> try exact True.intro
  all_goals first | (exact absurd h (by assumption)) | skip
  apply WpA.regionQF (O := [BoxB m lv]) (Or := []) (O1 := [BoxB m lv, XD (symL lens m), XQ (prsL lv), deadO, deadO]) 7 2 [] rfl mixed (by decide +kernel)
  · exact rfl
  · apply HeadQ.consF .none rfl
    · exact rfl
    · exact in1
    · exact rfl
    · exact rfl
    apply HeadQ.consF .none rfl
    · exact rfl
    · exact in1
    · exact rfl
    · exact rfl
    apply HeadQ.consF .none rfl
    · exact rfl
    · exact in1
    · exact rfl
    · exact rfl
    apply HeadQ.consF (V := .own 1 1 0 (symL lens m).length) (.put 0 (XD (symL lens m))) rfl
    · exact rfl
    · intro Tv Ov hc hp hd hk
      refine K.call ?_
      refine K.con (fun hcon => ?_)
      refine WpL.callF (hcon _ _ hl.2.1) snapA locA outA (cnt_some _ 0) rfl rfl (by decide) ?_
      rw [Nat.zero_add]
      apply WpL.putNil (p := 0)
      · exact hp 0 _ rfl
      · exact Nat.zero_le _
      · exact rfl
      · first | exact still_ints _ | exact still_rows (fun _ => rfl) _ | rfl
    · exact rfl
    · exact rfl
    apply HeadQ.consF .none rfl
    · exact rfl
    · exact in1
    · exact rfl
    · exact rfl
    apply HeadQ.consF .none rfl
    · exact rfl
    · exact in1
    · exact rfl
    · exact rfl
    apply HeadQ.consF (V := .own 2 1 0 (prsL lv).length) (.put 1 (XQ (prsL lv))) rfl
    · exact rfl
    · intro Tv Ov hc hp hd hk
      refine K.call ?_
      refine K.con (fun hcon => ?_)
      refine WpL.callF (hcon _ h.2.2.2) snapA locA outA (cnt_some _ 0) rfl rfl (by decide) ?_
      rw [Nat.zero_add]
      apply WpL.putNil (p := 1)
      · exact hp 1 _ rfl
      · exact Nat.zero_le _
      · exact rfl
      · first | exact still_ints _ | exact still_rows (fun _ => rfl) _ | rfl
    · exact rfl
    · exact rfl
    exact HeadQ.nil
  · exact rfl
  · exact rfl
  · exact rfl
  · exact rfl
  · exact rfl
  · exact rfl
  · exact rfl
  by_cases h0 : (prsL lv).length = 0
  · have e : bkL m lv lens n = symL lens m ++ [0] := by rw [bkL, if_pos h, if_pos h0]
    refine go (r := ?_); and_intros <;> intros <;> try exact True.intro
    all_goals first | (rw [e]; done) | (rw [e]; simp; done) | trace_state
  · have e : bkL m lv lens n = bkK m lv lens (prsL lv).length := by rw [bkL, if_pos h, if_neg h0]
    have e0 := bkK_zero m lv lens
    have el0 : (symL lens m).length + 1 + (ueL ((prsL lv).length - 1)).length = (bkK m lv lens 0).length := by rw [e0]; simp; omega
    refine goR (r := ?_); and_intros <;> intros <;> try exact True.intro
    (apply WpL.nestLis (id := 7) (cs2 := [.fre 1 _ _, .fre 1 _ _, .fre 1 _ _]) [0, 1, 2]
     · repeat' (first
         | exact NestC.nil
         | (apply NestC.consF
            · exact rfl
            · exact rfl
            · exact rfl
            · exact rfl
            · first | exact Nat.zero_le _ | exact Nat.le_of_ble_eq_true rfl
            · exact still_ints _
            · first | (simp; done) | rfl
            · exact rfl
            · exact rfl))
     · exact rfl
     · repeat' (first
         | exact ToLis.nil
         | (apply ToLis.cons
            · exact rfl
            · first | rfl | (simp; done)))
     · exact rfl)
    refine go (r := ?_); and_intros <;> intros <;> try exact True.intro
    · simp
    · exact smL_cons (by omega) (smL_cons (by decide) (smL_cons (by omega) (smL_nil _)))
    have ef : [symL lens m, [1], ueL ((prsL lv).length - 1)].flatten = bkK m lv lens 0 := by rw [e0]; simp
    refine WpA.loop (fun k : Nat => ⟨[(7, .own 8 0 0 (bkK m lv lens k).length), (37, .own 2 1 0 (prsL lv).length), (38, I (prsL lv).length), (39, I k)], [BoxB m lv, ⟨[], 2, 0, none⟩, XQ (prsL lv), deadO, deadO, deadO, deadO, ⟨rows liF [symL lens m, [1], ueL ((prsL lv).length - 1)], 0, 1, some 24⟩, XI (bkK m lv lens k)]⟩) (fun k => k ≤ (prsL lv).length) (fun k => (prsL lv).length - k) 0 (by omega) (go (r := ?_)) (fun k hk => ?_)
    · trivial
    have hb := bkK_len m lv lens k
    have hsc := fun h => bkK_succ m lv lens k h
    refine goR (r := ?_); and_intros <;> intros <;> try exact True.intro
    · have hk2 : k < (prsL lv).length := by omega
      have hpi := prs_in h.2.2.2 hk2
      have hni := nolL_in (v := ((prsL lv).getD k default).2) (by omega)
      have hsc := hsc hk2
      have ha := ueL_len ((prsL lv).getD k default).1
      have hbb := ueL_len (nolL ((prsL lv).getD k default).2)
      have hfl : [bkK m lv lens k, ueL ((prsL lv).getD k default).1, ueL (nolL ((prsL lv).getD k default).2)].flatten = bkK m lv lens (k + 1) := by rw [hsc]; simp
      have hsm : [bkK m lv lens k, ueL ((prsL lv).getD k default).1, ueL (nolL ((prsL lv).getD k default).2)].length ≤ 1024 ∧ SmL 1048576 [bkK m lv lens k, ueL ((prsL lv).getD k default).1, ueL (nolL ((prsL lv).getD k default).2)] := ⟨by simp, smL_cons (by omega) (smL_cons (by omega) (smL_cons (by omega) (smL_nil _)))⟩
      apply WpA.regionQ0 8 2 mixed (by decide +kernel)
      · exact rfl
      · apply HeadQ.consF .none rfl
        · exact rfl
        · exact in1
        · exact rfl
        · exact rfl
        apply HeadQ.consF .none rfl
        · exact rfl
        · exact in1
        · exact rfl
        · exact rfl
        apply HeadQ.consF .none rfl
        · exact rfl
        · exact in1
        · exact rfl
        · exact rfl
        apply HeadQ.consF (V := .own 10 1 0 (ueL ((prsL lv).getD k default).1).length) (.put 0 (XD (ueL ((prsL lv).getD k default).1))) rfl
        · exact rfl
        · intro Tv Ov hc hp hd hk
          refine K.call ?_
          refine K.con (fun hcon => ?_)
          refine WpL.callF (hcon ((prsL lv).getD k default).1 (by omega)) snapA locA outA (cnt_some _ 0) rfl rfl (by decide) ?_
          rw [Nat.zero_add]
          apply WpL.putNil (p := 0)
          · exact hp 0 _ rfl
          · exact Nat.zero_le _
          · exact rfl
          · first | exact still_ints _ | exact still_rows (fun _ => rfl) _ | rfl
        · exact rfl
        · exact rfl
        apply HeadQ.consF .none rfl
        · exact rfl
        · exact in1
        · exact rfl
        · exact rfl
        apply HeadQ.consF .none rfl
        · exact rfl
        · exact in1
        · exact rfl
        · exact rfl
        apply HeadQ.consF .none rfl
        · exact rfl
        · exact in0
        · exact rfl
        · exact rfl
        apply HeadQ.consF (V := .own 11 1 0 (ueL (nolL ((prsL lv).getD k default).2)).length) (.put 1 (XD (ueL (nolL ((prsL lv).getD k default).2)))) rfl
        · exact rfl
        · intro Tv Ov hc hp hd hk
          refine K.call ?_
          refine K.con (fun hcon => ?_)
          refine WpL.callF (hcon (nolL ((prsL lv).getD k default).2) hni) snapA locA outA (cnt_some _ 0) rfl rfl (by decide) ?_
          rw [Nat.zero_add]
          apply WpL.putNil (p := 1)
          · exact hp 1 _ rfl
          · exact Nat.zero_le _
          · exact rfl
          · first | exact still_ints _ | exact still_rows (fun _ => rfl) _ | rfl
        · exact rfl
        · exact rfl
        exact HeadQ.nil
      · exact rfl
      · exact rfl
      · exact rfl
      · exact rfl
      · exact rfl
      · exact rfl
      refine goR (r := ?_); and_intros <;> intros <;> try exact True.intro
      (apply WpL.nestLis (id := 14) (cs2 := [.fre 1 _ _, .fre 1 _ _, .fre 1 _ _]) [0, 1, 2]
       · repeat' (first
           | exact NestC.nil
           | (apply NestC.consF
              · exact rfl
              · exact rfl
              · exact rfl
              · exact rfl
              · first | exact Nat.zero_le _ | exact Nat.le_of_ble_eq_true rfl
              · exact still_ints _
              · first | (simp; done) | rfl
              · exact rfl
              · exact rfl))
       · exact rfl
       · repeat' (first
           | exact ToLis.nil
           | (apply ToLis.cons
              · exact rfl
              · first | rfl | (simp; done)))
       · exact rfl)
      refine K.call ?_
      refine K.con (fun hcon => ?_)
      refine WpL.callF (hcon [bkK m lv lens k, ueL ((prsL lv).getD k default).1, ueL (nolL ((prsL lv).getD k default).2)] hsm) snapA locA outA rfl rfl rfl (by decide) ?_
      clear hcon
      refine WpL.weak (Weak.fillF (j := 8) rfl rfl rfl (Nat.zero_le _) rfl (still_ints _) rfl rfl) ?_
      rw [hfl]
      refine go (r := ?_); and_intros <;> intros <;> try exact True.intro
      all_goals trace_state
    all_goals have ek : k = (prsL lv).length := by omega
    all_goals subst ek
    all_goals rw [e]⟩
end Go.Proofs.Ytpokokcgoebbhaa
