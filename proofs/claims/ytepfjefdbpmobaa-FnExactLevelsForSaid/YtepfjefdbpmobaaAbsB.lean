/- States of abstract values, what they say of a frame and a world, and the rules of the control structures over them. No condition. -/
import Derived.StillTail
import Derived.Test.YtepfjefdbpmobaaAbsA
namespace Go.Abs
open Go
set_option linter.unusedVariables false
set_option linter.unusedSimpArgs false

def ObjAt (S : Nat → Prop) (w : World) (ι : Nat → Spot) (O : List AObj) (ob : AObj) (s : Spot) (f : List Nat) : Prop :=
  match s with
  | none => ob.cells = [] ∧ f = []
  | some (b, k) => ∃ cur t fz f', f = b :: f' ∧ w.heap[b]? = some (.cells cur t fz) ∧ cur.size = k ∧ ob.cells.length ≤ k ∧ (∀ i, i < k → ¬ (fz.1 ≤ i ∧ i < fz.2)) ∧
      (∀ e, ob.ty = some e → t = e ∧ fz = (0, 0)) ∧ LRel S w ι O ob.cells (cur.toList.take ob.cells.length) f'

structure ORel (S : Nat → Prop) (w : World) (ι : Nat → Spot) (O : List AObj) (F : Nat → List Nat) : Prop where
  obj : ∀ id ob, O[id]? = some ob → ObjAt S w ι O ob (ι id) (F id)
  nodup : ∀ id, id < O.length → (F id).Nodup
  apart : ∀ i j, i < O.length → j < O.length → i ≠ j → ∀ b, b ∈ F i → b ∉ F j

structure St where
  T : List (Nat × AV)
  O : List AObj

def look : List (Nat × AV) → Nat → AV
  | [], _ => .any
  | (k, V) :: r, t => match Nat.beq k t with | true => V | false => look r t

theorem look_cons_same (T : List (Nat × AV)) (t : Nat) (V : AV) : look ((t, V) :: T) t = V := by simp [look]
theorem look_cons_other (T : List (Nat × AV)) (k t : Nat) (V : AV) (h : k ≠ t) : look ((k, V) :: T) t = look T t := by
  have : Nat.beq k t = false := by
    cases hb : Nat.beq k t with
    | false => rfl
    | true => exact (h (Nat.eq_of_beq_eq_true hb)).elim
  simp [look, this]

/-- The call's beginning: its world, what was stable, the blocks that it was handed, where they lie. -/
structure Ctx where
  w0 : World
  S0 : Nat → Prop
  M0 : Nat → Prop
  ι0 : Nat → Spot

structure Keeps (w0 : World) (M0 : Nat → Prop) (w : World) : Prop where
  os : w.os = w0.os
  tape : w.tape = w0.tape
  output : w.output = w0.output
  size : w0.heap.size ≤ w.heap.size
  block : ∀ b, b < w0.heap.size → ¬ M0 b → w.heap[b]? = w0.heap[b]?

theorem Keeps.refl (w : World) (M0 : Nat → Prop) : Keeps w M0 w := ⟨rfl, rfl, rfl, Nat.le_refl _, fun _ _ _ => rfl⟩

structure RelAt (n m : Nat) (G : Ctx) (S : Nat → Prop) (ι : Nat → Spot) (F : Nat → List Nat) (σ : St) (a : Act) (w : World) : Prop where
  defers : a.defers = []
  size : a.tmps.size = n
  tmps : ∀ t, VRel S w ι σ.O (look σ.T t) (a.tmps.getD t undef) []
  objs : ORel S w ι σ.O F
  foot : ∀ id, id < σ.O.length → ∀ b, b ∈ F id → (G.M0 b ∨ G.w0.heap.size ≤ b) ∧ ¬ S b ∧ b < w.heap.size
  base : (∀ b, G.S0 b → S b) ∧ (∀ b, S b → G.S0 b ∨ G.w0.heap.size ≤ b)
  stable : ∀ b, S b → b < w.heap.size
  keeps : Keeps G.w0 G.M0 w
  spots : ∀ id, id < m → ι id = G.ι0 id
  mle : m ≤ σ.O.length

def Rel (n m : Nat) (G : Ctx) (σ : St) (a : Act) (w : World) : Prop := ∃ S ι F, RelAt n m G S ι F σ a w

def WpA (P : Program) (n m : Nat) (G : Ctx) (c : Code) (σ : St) (Q : Exit → St → Prop) : Prop :=
  ∀ a w, Rel n m G σ a w → c.wp P (fun e a' w' => ∃ σ', Q e σ' ∧ Rel n m G σ' a' w') a w

def Weak (m : Nat) (σ σ' : St) : Prop := ∀ n G a w, Rel n m G σ a w → Rel n m G σ' a w

def Seq (Y : St → Prop) (Q : Exit → St → Prop) : Exit → St → Prop
  | .normal, σ => Y σ
  | e, σ => Q e σ

theorem Seq.n {Y : St → Prop} {Q : Exit → St → Prop} {σ : St} (h : Y σ) : Seq Y Q .normal σ := h
theorem Seq.ret {Y : St → Prop} {Q : Exit → St → Prop} {σ : St} (h : Q .ret σ) : Seq Y Q .ret σ := h
theorem Seq.exit {Y : St → Prop} {Q : Exit → St → Prop} {σ : St} {id : Nat} (h : Q (.exit id) σ) : Seq Y Q (.exit id) σ := h

def Blk (id : Nat) (Q : Exit → St → Prop) : Exit → St → Prop
  | .exit id', σ => (id' = id ∧ Q .normal σ) ∨ (id' ≠ id ∧ Q (.exit id') σ)
  | e, σ => Q e σ

theorem Blk.n {id : Nat} {Q : Exit → St → Prop} {σ : St} (h : Q .normal σ) : Blk id Q .normal σ := h
theorem Blk.ret {id : Nat} {Q : Exit → St → Prop} {σ : St} (h : Q .ret σ) : Blk id Q .ret σ := h
theorem Blk.exitHere {id : Nat} {Q : Exit → St → Prop} {σ : St} (h : Q .normal σ) : Blk id Q (.exit id) σ := .inl ⟨rfl, h⟩
theorem Blk.exitOther {id id' : Nat} {Q : Exit → St → Prop} {σ : St} (hn : Nat.beq id' id = false) (h : Q (.exit id') σ) : Blk id Q (.exit id') σ :=
  .inr ⟨(fun e => by subst e; rw [Nat.beq_refl] at hn; cases hn), h⟩

section
variable {P : Program} {n m : Nat} {G : Ctx} {σ : St} {Q : Exit → St → Prop}

theorem WpA.mono {c : Code} {Q' : Exit → St → Prop} (h : WpA P n m G c σ Q) (hq : ∀ e σ, Q e σ → Q' e σ) : WpA P n m G c σ Q' :=
  fun a w hr => wp_mono (h a w hr) fun e a' w' ⟨σ', hQ, hR⟩ => ⟨σ', hq _ _ hQ, hR⟩

theorem WpA.weak {c : Code} {σ' : St} (hw : Weak m σ σ') (h : WpA P n m G c σ' Q) : WpA P n m G c σ Q :=
  fun a w hr => h a w (hw n G a w hr)

theorem WpA.skip (h : Q .normal σ) : WpA P n m G .skip σ Q := fun a w hr => wp_skip ⟨σ, h, hr⟩
theorem WpA.ret (h : Q .ret σ) : WpA P n m G .ret σ Q := fun a w hr => wp_ret ⟨σ, h, hr⟩
theorem WpA.exit {id : Nat} (h : Q (.exit id) σ) : WpA P n m G (.exit id) σ Q := fun a w hr => wp_exit ⟨σ, h, hr⟩

theorem WpA.seq {x y : Code} (h : WpA P n m G x σ (Seq (fun σ => WpA P n m G y σ Q) Q)) : WpA P n m G (.seq x y) σ Q := fun a w hr =>
  wp_seq (wp_mono (h a w hr) fun e a' w' ⟨σ', hQ, hR⟩ => by
    cases e with
    | normal => exact hQ a' w' hR
    | _ => exact ⟨σ', hQ, hR⟩)

theorem WpA.block {id : Nat} {c : Code} (h : WpA P n m G c σ (Blk id Q)) : WpA P n m G (.block id c) σ Q := fun a w hr =>
  wp_block (wp_mono (h a w hr) fun e a' w' ⟨σ', hQ, hR⟩ => by
    cases e with
    | exit id' =>
      rcases hQ with ⟨h1, h2⟩ | ⟨h1, h2⟩
      · simp only [Exit.inBlock, h1, if_true]; exact ⟨σ', h2, hR⟩
      · simp only [Exit.inBlock, h1, if_false]; exact ⟨σ', h2, hR⟩
    | _ => exact ⟨σ', hQ, hR⟩)

theorem VRel.sc_eq {S w ι O v x f} (h : VRel S w ι O (.sc v) x f) : x = v := by cases h; rfl

def zav : Value → AV
  | .slice none 0 0 => .nilS
  | v => .sc v

theorem vrel_zav {S w ι O} (v : Value) : VRel S w ι O (zav v) v [] := by
  unfold zav
  split
  · exact .nilS .nil
  · exact .sc .nil

def av (T : List (Nat × AV)) : Operand → AV
  | .tmp t => look T t
  | .const v => zav v
  | .func f => .fn f []
  | .global _ => .any

theorem RelAt.eval {S ι F a w} (h : RelAt n m G S ι F σ a w) (x : Operand) : VRel S w ι σ.O (av σ.T x) (a.eval x) [] := by
  cases x with
  | tmp t => exact h.tmps t
  | const v => exact vrel_zav v
  | func f => exact .fn (us := []) .nil .nil
  | global g => exact .any .nil

theorem Rel.eval_sc {a w} (h : Rel n m G σ a w) {x : Operand} {v : Value} (hx : av σ.T x = .sc v) : a.eval x = v := by
  obtain ⟨S, ι, F, h⟩ := h
  have := h.eval x
  rw [hx] at this
  exact this.sc_eq

theorem WpA.condT {x : Operand} {A B : Code} (hx : av σ.T x = .sc (.bool true)) (h : WpA P n m G A σ Q) : WpA P n m G (.cond x A B) σ Q :=
  fun a w hr => wp_cond_true (hr.eval_sc hx) (h a w hr)
theorem WpA.condF {x : Operand} {A B : Code} (hx : av σ.T x = .sc (.bool false)) (h : WpA P n m G B σ Q) : WpA P n m G (.cond x A B) σ Q :=
  fun a w hr => wp_cond_false (hr.eval_sc hx) (h a w hr)
theorem WpA.condS {x : Operand} {A B : Code} {b : Bool} (hx : av σ.T x = .sc (.bool b)) (h1 : b = true → WpA P n m G A σ Q) (h2 : b = false → WpA P n m G B σ Q) :
    WpA P n m G (.cond x A B) σ Q :=
  fun a w hr => wp_cond_split (hr.eval_sc hx) (fun e => h1 e a w hr) (fun e => h2 e a w hr)
theorem WpA.condD {x : Operand} {A B : Code} {p : Prop} [Decidable p] (hx : av σ.T x = .sc (.bool (decide p))) (h1 : p → WpA P n m G A σ Q) (h2 : ¬ p → WpA P n m G B σ Q) :
    WpA P n m G (.cond x A B) σ Q :=
  WpA.condS hx (fun e => h1 (of_decide_eq_true e)) (fun e => h2 (of_decide_eq_false e))
theorem WpA.condN {x : Operand} {A B : Code} {p : Prop} [Decidable p] (hx : av σ.T x = .sc (.bool (!decide p))) (h1 : ¬ p → WpA P n m G A σ Q) (h2 : p → WpA P n m G B σ Q) :
    WpA P n m G (.cond x A B) σ Q :=
  WpA.condS hx (fun e => h1 (by simpa using e)) (fun e => h2 (by simpa using e))

theorem wp_loop_ghost {P : Program} {c : Code} {Q : Exit → Act → World → Prop} {β : Type} (I : β → Act → World → Prop) (μ : β → Nat)
    (round : ∀ x a w, I x a w → c.wp P (Exit.then (fun a' w' => ∃ y, μ y < μ x ∧ I y a' w') Q) a w) : ∀ x a w, I x a w → (Code.loop c).wp P Q a w := by
  have key : ∀ k x a w, μ x = k → I x a w → ∀ (b : Frame) (kk : List Item) (cs : List Frame),
      ∃ e a' w', Q e a' w' ∧ Arrives P (lone (b.at a (.code c :: .inLoop c :: kk)) cs w) b kk cs e a' w' := by
    intro k
    induction k using Nat.strongRecOn with
    | _ k ih =>
      intro x a w hk hI b kk cs
      obtain ⟨e, a₁, w₁, hq, harr⟩ := round x a w hI b (.inLoop c :: kk) cs
      cases e with
      | normal =>
        obtain ⟨y, hlt, hI₁⟩ := hq
        obtain ⟨e₂, a₂, w₂, hq₂, harr₂⟩ := ih (μ y) (hk ▸ hlt) y a₁ w₁ rfl hI₁ b kk cs
        exact ⟨e₂, a₂, w₂, hq₂, .of_steps (Steps.trans harr (.one step_inLoop)) harr₂⟩
      | exit id => exact ⟨_, a₁, w₁, hq, .pass (x := .inLoop c) rfl (fun _ _ => .inl (by simp)) harr⟩
      | goto l => exact ⟨_, a₁, w₁, hq, .pass (x := .inLoop c) rfl (fun _ _ => .inl (by simp)) harr⟩
      | ret => exact ⟨_, a₁, w₁, hq, .pass (x := .inLoop c) rfl (fun _ _ => .inl (by simp)) harr⟩
      | panic ch => exact ⟨_, a₁, w₁, hq, .pass (x := .inLoop c) rfl (fun _ _ => .inl (by simp)) harr⟩
      | outgrown => exact ⟨_, a₁, w₁, hq, .pass (x := .inLoop c) rfl (fun _ _ => .inl (by simp)) harr⟩
  intro x a w hI b kk cs
  obtain ⟨e, a', w', hq, harr⟩ := key (μ x) x a w rfl hI b kk cs
  exact ⟨e, a', w', hq, .of_steps (.one step_loop) harr⟩

/-- What a round of a loop must come to. -/
def Rnd {β : Type} (m : Nat) (Inv : β → St) (C : β → Prop) (μ : β → Nat) (x : β) (Q : Exit → St → Prop) : Exit → St → Prop
  | .normal, σ => ∃ y, C y ∧ μ y < μ x ∧ Weak m σ (Inv y)
  | e, σ => Q e σ

theorem Rnd.go {β : Type} {m : Nat} {Inv : β → St} {C : β → Prop} {μ : β → Nat} {x : β} {Q : Exit → St → Prop} {σ : St} (y : β) (h1 : C y) (h2 : μ y < μ x) (h3 : Weak m σ (Inv y)) :
    Rnd m Inv C μ x Q .normal σ := ⟨y, h1, h2, h3⟩
theorem Rnd.ret {β : Type} {m : Nat} {Inv : β → St} {C : β → Prop} {μ : β → Nat} {x : β} {Q : Exit → St → Prop} {σ : St} (h : Q .ret σ) : Rnd m Inv C μ x Q .ret σ := h
theorem Rnd.exit {β : Type} {m : Nat} {Inv : β → St} {C : β → Prop} {μ : β → Nat} {x : β} {Q : Exit → St → Prop} {σ : St} {id : Nat} (h : Q (.exit id) σ) : Rnd m Inv C μ x Q (.exit id) σ := h

theorem WpA.loop {c : Code} {β : Type} (Inv : β → St) (C : β → Prop) (μ : β → Nat) (x0 : β) (hc : C x0) (h0 : Weak m σ (Inv x0))
    (round : ∀ x, C x → WpA P n m G c (Inv x) (Rnd m Inv C μ x Q)) : WpA P n m G (.loop c) σ Q := fun a w hr => by
  refine wp_loop_ghost (fun x a w => C x ∧ Rel n m G (Inv x) a w) μ ?_ x0 a w ⟨hc, h0 n G a w hr⟩
  rintro x a w ⟨hx, hR⟩
  refine wp_mono (round x hx a w hR) fun e a' w' ⟨σ', hQ, hR'⟩ => ?_
  cases e with
  | normal =>
    obtain ⟨y, h1, h2, h3⟩ := hQ
    exact ⟨y, h2, h1, h3 n G a' w' hR'⟩
  | _ => exact ⟨σ', hQ, hR'⟩

/-- A draw turns nothing. -/
theorem Rel.drew {a w} (h : Rel n m G σ a w) : Rel n m G σ a w.drew := by
  obtain ⟨S, ι, F, hr⟩ := h
  have hlat : Later S w ι σ.O S w.drew ι σ.O := ⟨fun _ h => h, fun _ _ => rfl, fun _ ob h => ⟨ob, h, .inr ⟨rfl, rfl, rfl⟩⟩⟩
  refine ⟨S, ι, F, hr.defers, hr.size, fun t => (hr.tmps t).mono hlat (fun _ _ => rfl), ⟨fun id ob h => ?_, hr.objs.nodup, hr.objs.apart⟩, hr.foot, hr.base, hr.stable, ⟨hr.keeps.os, hr.keeps.tape, hr.keeps.output, hr.keeps.size, hr.keeps.block⟩, hr.spots, hr.mle⟩
  have ho := hr.objs.obj id ob h
  unfold ObjAt at ho ⊢
  cases hs : ι id with
  | none => rw [hs] at ho; exact ho
  | some p =>
    obtain ⟨b, k⟩ := p
    rw [hs] at ho
    obtain ⟨cur', t', fz', f2, h1, h2, h3, h4, h5, h6, h7⟩ := ho
    exact ⟨cur', t', fz', f2, h1, h2, h3, h4, h5, h6, h7.mono hlat (fun _ _ => rfl)⟩

/-! ### Lists of operations -/

/-- 'md': false: one order, the world may turn; true: a region that draws its order and whose operations leave the world alone. -/
def WpL (P : Program) (n m : Nat) (G : Ctx) (md : Bool) (ops : Array Oper) (l : List Oper) (σ : St) (Q : Exit → St → Prop) : Prop :=
  ∀ a w, Rel n m G σ a w → match md with
    | false => wpList P ops (fun e a' w' => ∃ σ', Q e σ' ∧ Rel n m G σ' a' w') l a w
    | true => wpStill P ops w (fun a' => ∃ σ', Q .normal σ' ∧ Rel n m G σ' a' w) l a

variable {md : Bool}

theorem WpA.region {id : Nat} {l : List Oper} (h : WpL P n m G false l.toArray l σ Q) : WpA P n m G (.region id l.toArray false) σ Q :=
  fun a w hr => wp_region_lit (h a w hr)

theorem WpA.regionD {id : Nat} {l : List Oper} (hm : P.follows .mixedOrders = true) (hB : Region.lexB .any l.toArray = true) (h : WpL P n m G true l.toArray l σ Q) : WpA P n m G (.region id l.toArray true) σ Q :=
  fun a w hr => wp_region_still_lit hm hB (h a w.drew hr.drew)

theorem wpStill_mono {P : Program} {ops : Array Oper} {w : World} {Q Q' : Act → Prop} (hq : ∀ a, Q a → Q' a) : ∀ {l : List Oper} {a : Act}, wpStill P ops w Q l a → wpStill P ops w Q' l a
  | [], _, h => hq _ h
  | o :: l, a, h => by
    unfold wpStill at h ⊢
    split
    · rename_i hw; rw [if_pos hw] at h; exact Oper.still_mono (fun a h => wpStill_mono hq h) h
    · rename_i hw; rw [if_neg hw] at h; exact wpStill_mono hq h

/-- A region that draws its order, whose operations from the n-th on stand behind all others and one behind the other. -/
theorem WpA.regionT {id : Nat} {l : List Oper} (k : Nat) (hm : P.follows .mixedOrders = true) (hB : Region.lexTailB .any l.toArray k = true)
    (h : WpL P n m G true l.toArray (l.take k) σ (Seq (fun σ' => WpL P n m G false l.toArray (l.drop k) σ' Q) Q)) : WpA P n m G (.region id l.toArray true) σ Q :=
  fun a w hr => wp_region_still_tail k hm hB (wpStill_mono (fun a' ⟨σ', hq, hr'⟩ => hq a' _ hr') (h a w.drew hr.drew))

theorem WpL.nil {ops : Array Oper} (h : Q .normal σ) : WpL P n m G md ops [] σ Q := fun a w hr => by
  cases md with
  | false => exact wpList_nil ⟨σ, h, hr⟩
  | true => exact wpStill_nil ⟨σ, h, hr⟩

theorem WpL.weak {ops : Array Oper} {l : List Oper} {σ' : St} (hw : Weak m σ σ') (h : WpL P n m G md ops l σ' Q) : WpL P n m G md ops l σ Q :=
  fun a w hr => h a w (hw n G a w hr)

/-- An operation: whatever the frame and the world, it is carried out and leaves what the next state says. -/
theorem WpL.op {ops : Array Oper} {o : Oper} {l : List Oper} {σ' : St} (hg : o.guard = none)
    (hop : ∀ a w, Rel n m G σ a w → o.wp P a w (fun a' w' => Rel n m G σ' a' w') (fun _ _ _ => False)) (h : WpL P n m G false ops l σ' Q) : WpL P n m G false ops (o :: l) σ Q := fun a w hr =>
  wpList_plain hg fun K hK => by
    have h1 := hop a w hr
    have hm : ∀ r, o.upon P a (fun a' w' => Rel n m G σ' a' w') (fun _ _ _ => False) r → o.upon P a K (fun e a' w' => ∃ σ', Q e σ' ∧ Rel n m G σ' a' w') r := by
      intro r hr'
      cases r with
      | ok x w1 =>
        cases x <;> simp only [Oper.upon] at hr' ⊢
        case value v => exact hK _ _ (h _ _ hr')
        case skip => exact hK _ _ (h _ _ hr')
        case defer d => exact hK _ _ (h _ _ hr')
        case enter f args =>
          refine hr'.mono fun e w2 h2 => ?_
          cases e with
          | returned v => exact hK _ _ (h _ _ h2)
          | panicked c => exact h2.elim
          | outgrown => obtain ⟨_, _, hf⟩ := h2; exact hf.elim
        case row r ar => exact hr'.mono fun v w2 h2 => hK _ _ (h _ _ h2)
      | halt x w1 => cases x <;> exact hr'.elim
    exact hm _ h1

/-- The plain way: a value, in a world that may have turned. -/
theorem WpL.value {ops : Array Oper} {o : Oper} {l : List Oper} {σ' : St} (hg : o.guard = none)
    (hop : ∀ a w, Rel n m G σ a w → ∃ v w', (execOp a.eval o).run P w = .ok (.value v) w' ∧ Rel n m G σ' (a.put o.dst v) w') (h : WpL P n m G false ops l σ' Q) :
    WpL P n m G false ops (o :: l) σ Q :=
  WpL.op hg (fun a w hr => by obtain ⟨v, w', h1, h2⟩ := hop a w hr; unfold Oper.wp; rw [h1]; exact h2) h

/-- A guarded operation whose guard holds; one whose guard does not hold. -/
theorem WpL.guardT {ops : Array Oper} {o : Oper} {l : List Oper} {j t : Nat} {want : Bool} (hg : o.guard = some (j, want)) (hj : ((ops[j]?).bind (·.dst)) = some t) (htn : t < n)
    (ht : look σ.T t = .sc (.bool want)) (h : WpL P n m G md ops ({ o with guard := none } :: l) σ Q) : WpL P n m G md ops (o :: l) σ Q := fun a w hr => by
  have hv : a.tmps.getD t undef = .bool want := hr.eval_sc (x := .tmp t) ht
  have hsz : a.tmps.size = n := by obtain ⟨_, _, _, h⟩ := hr; exact h.size
  have h1 := h a w hr
  have hv' : a.tmps[t]? = some (.bool want) := by
    rw [Array.getD_eq_getD_getElem?] at hv
    rw [Array.getElem?_eq_getElem (by omega)] at hv ⊢
    simpa using hv
  have hw : Region.wanted o (yielded ops a.tmps) = true := by
    simp [Region.wanted, hg, yielded, hj, hv']
  cases md with
  | false =>
    simp only at h1 ⊢
    unfold wpList at h1 ⊢
    rw [if_pos hw]
    rw [if_pos (by simp [Region.wanted])] at h1
    exact h1
  | true =>
    simp only at h1 ⊢
    unfold wpStill at h1 ⊢
    rw [if_pos hw]
    rw [if_pos (by simp [Region.wanted])] at h1
    exact h1

theorem WpL.guardF {ops : Array Oper} {o : Oper} {l : List Oper} {j t d : Nat} {want : Bool} (hg : o.guard = some (j, want)) (hj : ((ops[j]?).bind (·.dst)) = some t) (htn : t < n)
    (ht : look σ.T t = .sc (.bool !want)) (hd : o.dst = some d) (h : WpL P n m G md ops l ⟨(d, .any) :: σ.T, σ.O⟩ Q) : WpL P n m G md ops (o :: l) σ Q := fun a w hr => by
  have hv : a.tmps.getD t undef = .bool !want := hr.eval_sc (x := .tmp t) ht
  have hsz : a.tmps.size = n := by obtain ⟨_, _, _, h⟩ := hr; exact h.size
  have hv' : a.tmps[t]? = some (.bool !want) := by
    rw [Array.getD_eq_getD_getElem?] at hv
    rw [Array.getElem?_eq_getElem (by omega)] at hv ⊢
    simpa using hv
  have hw : Region.wanted o (yielded ops a.tmps) = false := by
    simp [Region.wanted, hg, yielded, hj, hv']
  have hrel : Rel n m G ⟨(d, .any) :: σ.T, σ.O⟩ (a.put o.dst undef) w := ?_
  · cases md with
    | false =>
      simp only
      unfold wpList
      rw [if_neg (by simp [hw])]
      exact h _ _ hrel
    | true =>
      simp only
      unfold wpStill
      rw [if_neg (by simp [hw])]
      exact h _ _ hrel
  obtain ⟨S, ι, F, hr⟩ := hr
  refine ⟨S, ι, F, by simpa [Act.put, hd] using hr.defers, by simp [Act.put, hd, hr.size], fun t' => ?_, hr.objs, hr.foot, hr.base, hr.stable, hr.keeps, hr.spots, hr.mle⟩
  by_cases he : d = t'
  · subst he; rw [look_cons_same]; exact .any .nil
  · rw [look_cons_other _ _ _ _ he]
    have := hr.tmps t'
    simpa [Act.put, hd, Array.getD_eq_getD_getElem?, Array.getElem?_setIfInBounds, he] using this

/-- A boolean that is not known: both ways. -/
theorem WpL.splitB {ops : Array Oper} {l : List Oper} {t : Nat} {b : Bool} (ht : look σ.T t = .sc (.bool b))
    (h1 : b = true → WpL P n m G md ops l ⟨(t, .sc (.bool true)) :: σ.T, σ.O⟩ Q) (h2 : b = false → WpL P n m G md ops l ⟨(t, .sc (.bool false)) :: σ.T, σ.O⟩ Q) : WpL P n m G md ops l σ Q := by
  have key : ∀ c, b = c → Weak m σ ⟨(t, .sc (.bool c)) :: σ.T, σ.O⟩ := by
    rintro c rfl n' G' a w ⟨S, ι, F, hr⟩
    refine ⟨S, ι, F, hr.defers, hr.size, fun t' => ?_, hr.objs, hr.foot, hr.base, hr.stable, hr.keeps, hr.spots, hr.mle⟩
    by_cases he : t = t'
    · subst he; rw [look_cons_same, ← ht]; exact hr.tmps t
    · rw [look_cons_other _ _ _ _ he]; exact hr.tmps t'
  cases hb : b with
  | true => exact WpL.weak (key true hb) (h1 hb)
  | false => exact WpL.weak (key false hb) (h2 hb)
theorem WpL.guardS {ops : Array Oper} {o : Oper} {l : List Oper} {j t : Nat} {want b : Bool} (hg : o.guard = some (j, want)) (hj : ((ops[j]?).bind (·.dst)) = some t) (ht : look σ.T t = .sc (.bool b))
    (h1 : b = true → WpL P n m G md ops (o :: l) ⟨(t, .sc (.bool true)) :: σ.T, σ.O⟩ Q) (h2 : b = false → WpL P n m G md ops (o :: l) ⟨(t, .sc (.bool false)) :: σ.T, σ.O⟩ Q) : WpL P n m G md ops (o :: l) σ Q :=
  WpL.splitB ht h1 h2
theorem WpL.guardD {ops : Array Oper} {o : Oper} {l : List Oper} {j t : Nat} {want : Bool} {p : Prop} [Decidable p] (hg : o.guard = some (j, want)) (hj : ((ops[j]?).bind (·.dst)) = some t) (ht : look σ.T t = .sc (.bool (decide p)))
    (h1 : p → WpL P n m G md ops (o :: l) ⟨(t, .sc (.bool true)) :: σ.T, σ.O⟩ Q) (h2 : ¬ p → WpL P n m G md ops (o :: l) ⟨(t, .sc (.bool false)) :: σ.T, σ.O⟩ Q) : WpL P n m G md ops (o :: l) σ Q :=
  WpL.splitB ht (fun e => h1 (of_decide_eq_true e)) (fun e => h2 (of_decide_eq_false e))
theorem WpL.guardN {ops : Array Oper} {o : Oper} {l : List Oper} {j t : Nat} {want : Bool} {p : Prop} [Decidable p] (hg : o.guard = some (j, want)) (hj : ((ops[j]?).bind (·.dst)) = some t) (ht : look σ.T t = .sc (.bool (!decide p)))
    (h1 : ¬ p → WpL P n m G md ops (o :: l) ⟨(t, .sc (.bool true)) :: σ.T, σ.O⟩ Q) (h2 : p → WpL P n m G md ops (o :: l) ⟨(t, .sc (.bool false)) :: σ.T, σ.O⟩ Q) : WpL P n m G md ops (o :: l) σ Q :=
  WpL.splitB ht (fun e => h1 (by simpa using e)) (fun e => h2 (by simpa using e))
end

/-- A value is put into a slot, the world as it was. -/
theorem RelAt.put {n m G S ι F σ a w} (hr : RelAt n m G S ι F σ a w) {d : Nat} {V : AV} {v : Value} (hd : d < n) (hv : VRel S w ι σ.O V v []) :
    RelAt n m G S ι F ⟨(d, V) :: σ.T, σ.O⟩ (a.put (some d) v) w := by
  refine ⟨hr.defers, by simp [Act.put, hr.size], fun t' => ?_, hr.objs, hr.foot, hr.base, hr.stable, hr.keeps, hr.spots, hr.mle⟩
  by_cases he : d = t'
  · subst he; rw [look_cons_same]
    have : (a.put (some d) v).tmps.getD d undef = v := by
      have hs := hr.size
      have hlt : d < a.tmps.size := by omega
      simp [Act.put, Array.getD_eq_getD_getElem?, Array.getElem?_setIfInBounds, hlt]
    rw [this]; exact hv
  · rw [look_cons_other _ _ _ _ he]
    have := hr.tmps t'
    simpa [Act.put, Array.getD_eq_getD_getElem?, Array.getElem?_setIfInBounds, he] using this

theorem RelAt.put_none {n m G S ι F σ a w} (hr : RelAt n m G S ι F σ a w) (v : Value) : RelAt n m G S ι F σ (a.put none v) w := hr
end Go.Abs
