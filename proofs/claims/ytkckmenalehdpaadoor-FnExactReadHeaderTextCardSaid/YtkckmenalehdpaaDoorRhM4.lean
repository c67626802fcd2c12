/- Proved in this text: lemmas and contracts of functions that the claim uses (parts: AbsS, AbsT, AbsU, AbsV, AbsW, AbsX, AbsY, AbsZ, AbsRoll, AbsHa, AbsNil, AbsSh). No condition. -/
import Derived.Test.YtkckmenalehdpaaDoorRhM3
import Derived.Laws.Tables
import Derived.Lib.AppendZeros
import Derived.LoopN
import Derived.Below
import Derived.Sort.Grow
import Derived.Deep.Draws
set_option linter.unusedVariables false
set_option linter.unusedSimpArgs false
set_option maxRecDepth 100000
set_option maxHeartbeats 4000000


namespace Go.Abs
open Go
def rows {α : Type} (f : α → List AV) (l : List α) : List AV := l.flatMap f
section
variable {α : Type} {f : α → List AV} {k : Nat}
theorem rows_cons (a : α) (l : List α) : rows f (a :: l) = f a ++ rows f l := by simp [rows]
theorem rows_len (hk : ∀ a, (f a).length = k) (l : List α) : (rows f l).length = l.length * k := by
  induction l with
  | nil => simp [rows]
  | cons a l ih => rw [rows_cons, List.length_append, hk, ih, List.length_cons, Nat.add_mul]; omega
variable [Inhabited α]
end
theorem still_rows {α : Type} {f : α → List AV} (h : ∀ a, (f a).all AV.still = true) (l : List α) : (rows f l).all AV.still = true := by
  unfold rows; rw [List.all_flatMap]; rw [List.all_eq_true]; intro a _; exact h a
theorem nofre_rows {α : Type} {f : α → List AV} (h : ∀ a, (f a).all AV.nofre = true) (l : List α) : (rows f l).all AV.nofre = true := by
  unfold rows; rw [List.all_flatMap]; rw [List.all_eq_true]; intro a _; exact h a
theorem Loc.append {a b : List AV} (h1 : Loc a) (h2 : Loc b) : Loc (a ++ b) := by
  induction h1 with
  | nil => exact h2
  | any _ ih => exact .any ih
  | sc _ ih => exact .sc ih
  | nilS _ ih => exact .nilS ih
  | imm0 _ ih => exact .imm0 ih
  | own _ ih => exact .own ih
  | fre h _ _ ih => exact .fre h ih
  | agg h _ _ ih => exact .agg h ih
  | tup h _ _ ih => exact .tup h ih
  | ifc h _ _ ih => exact .ifc h ih
theorem Loc.rows {α : Type} {f : α → List AV} (h : ∀ a, Loc (f a)) (l : List α) : Loc (rows f l) := by
  induction l with
  | nil => exact .nil
  | cons a l ih => rw [rows_cons]; exact Loc.append (h a) ih
theorem Snap.append {O : List AObj} {a b c d : List AV} (h1 : Snap O a c) (h2 : Snap O b d) : Snap O (a ++ b) (c ++ d) := by
  induction h1 with
  | nil => exact h2
  | any _ ih => exact .any ih
  | keep p q _ ih => exact .keep p q ih
  | nilI _ ih => exact .nilI ih
  | own p q r s t u _ _ ih => exact .own p q r s t u ih
  | ownO p q r s t u v _ _ ih => exact .ownO p q r s t u v ih
  | fre h _ _ ih => exact .fre h ih
  | ptr p q h _ _ ih => exact .ptr p q h ih
  | agg h _ _ ih => exact .agg h ih
  | fn h _ _ ih => exact .fn h ih
theorem Snap.rows {α : Type} {O : List AObj} {f g : α → List AV} (h : ∀ a, Snap O (f a) (g a)) (l : List α) : Snap O (rows f l) (rows g l) := by
  induction l with
  | nil => exact .nil
  | cons a l ih => rw [rows_cons, rows_cons]; exact Snap.append (h a) ih
section
variable {P : Program} {n m : Nat} {G : Ctx} {T : List (Nat × AV)} {O : List AObj} {Q : Exit → St → Prop} {ops : Array Oper} {l : List Oper} {d : Nat} {tt : TypeId} {pos : String} {after : Array Edge} {tab : List (Nat × Ty)} {md : Bool}
variable {α : Type} [Inhabited α] {f : α → List AV} {k i : Nat} {xs : List α}
theorem WpL.idxIJ (hP : TabOk P tab) {t e b : Nat} {zs cs : List AV} {x y : Operand} {len : Nat} {j : Int} {kk : IntKind} (ht : tlook tab t = some (.slice e 1 b zs)) (hx : av T x = .imm 1 len cs) (hy : av T y = .sc (.int kk j))
    (hj : 0 ≤ j ∧ j < len) (hn : d < n) (h : WpL P n m G md ops l ⟨(d, .iptr cs j.toNat) :: T, O⟩ Q) :
    WpL P n m G md ops ({ dst := some d, op := .indexAddr t x y, type := tt, pos := pos, after := after, guard := none } :: l) ⟨T, O⟩ Q :=
  WpL.idxI hP ht hx hy hj hn (by simpa using h)
theorem WpL.idxOJ (hP : TabOk P tab) {t e b : Nat} {zs : List AV} {x y : Operand} {id ep len : Nat} {ob : AObj} {j : Int} {kk : IntKind} (ht : tlook tab t = some (.slice e 1 b zs)) (hx : av T x = .own id ep 0 len)
    (ho : O[id]? = some ob) (he : ob.ep = ep) (hy : av T y = .sc (.int kk j)) (hj : 0 ≤ j ∧ j < len) (hn : d < n) (h : WpL P n m G md ops l ⟨(d, .ptr id ep j.toNat) :: T, O⟩ Q) :
    WpL P n m G md ops ({ dst := some d, op := .indexAddr t x y, type := tt, pos := pos, after := after, guard := none } :: l) ⟨T, O⟩ Q :=
  WpL.idxO hP ht hx ho he hy hj hn (by simpa using h)
theorem Weak.trans {m : Nat} {σ σ' σ'' : St} (h1 : Weak m σ σ') (h2 : Weak m σ' σ'') : Weak m σ σ'' := fun n G a w h => h2 n G a w (h1 n G a w h)
end
section
variable {P : Program} {n m : Nat} {G : Ctx} {T : List (Nat × AV)} {O : List AObj} {Q : Exit → St → Prop} {ops : Array Oper} {l : List Oper} {d : Nat} {tt : TypeId} {pos : String} {after : Array Edge} {tab : List (Nat × Ty)} {md : Bool}
variable {α : Type} {f : α → List AV} {k i : Nat} {xs : List α}
end
section
variable {O : List AObj} {ids : List (Option Nat)} {N : List AObj} {α : Type} {f : α → List AV}
theorem NEx.rows {id ep sz : Nat} {ty : Option TypeId} {xs ys : List α} (hf : ∀ a, (f a).all AV.still = true) (ho : O[id]? = some ⟨Abs.rows f xs, ep, sz, ty⟩) (h : xs = ys) (r : NEx O ids N) : NEx O (some id :: ids) (⟨Abs.rows f ys, 0, sz, ty⟩ :: N) :=
  .obj ho (by rw [h]) (still_rows hf _) rfl rfl (.inr rfl) r
variable {O' os os' : List AObj} {ep ep' sz sz' : Nat} {ty ty' : Option TypeId}
theorem ReO.rows {xs ys : List α} (hf : ∀ a, (f a).all AV.still = true) (h : xs = ys) (ht : ty' = none ∨ ty' = ty) (r : ReO O O' os os') : ReO O O' (⟨Abs.rows f xs, ep, sz, ty⟩ :: os) (⟨Abs.rows f ys, ep', sz', ty'⟩ :: os') := .cons (Re.same (by rw [h]) (still_rows hf _)) ht r
end
inductive Nf : List AV → List AV → Prop
  | nil : Nf [] []
  | keep {V vs us} : Nf vs us → Nf (V :: vs) (V :: us)
  | fre {s vs us} : Nf vs us → Nf (.nilS :: vs) (.fre s 0 [] :: us)
theorem Nf.rel {vs us : List AV} (h : Nf vs us) : ∀ {S w ι O xs f}, LRel S w ι O vs xs f → LRel S w ι O us xs f := by
  induction h with
  | nil => intro S w ι O xs f hl; exact hl
  | keep _ ih =>
    intro S w ι O xs f hl
    obtain ⟨v, vs', f1, f2, rfl, hv, hr, rfl⟩ := hl.uncons
    exact LRel.cons hv (ih hr)
  | fre _ ih =>
    intro S w ι O xs f hl
    cases hl with
    | nilS r => exact .fre0 (ih r)
theorem Nf.len {vs us : List AV} (h : Nf vs us) : vs.length = us.length := by
  induction h with
  | nil => rfl
  | keep _ ih => simp [ih]
  | fre _ ih => simp [ih]
theorem Nf.append {a b c d : List AV} (h1 : Nf a c) (h2 : Nf b d) : Nf (a ++ b) (c ++ d) := by
  induction h1 with
  | nil => exact h2
  | keep _ ih => exact .keep ih
  | fre _ ih => exact .fre ih
theorem RelAt.cells {n m G S ι F T O a w} (hr : RelAt n m G S ι F ⟨T, O⟩ a w) {id : Nat} {ob : AObj} {cs : List AV} (ho : O[id]? = some ob) (h : ∀ O' xs f, LRel S w ι O' ob.cells xs f → LRel S w ι O' cs xs f) (hl : cs.length = ob.cells.length) :
    RelAt n m G S ι F ⟨T, O.set id ⟨cs, ob.ep, ob.size, ob.ty⟩⟩ a w := by
  have hidl : id < O.length := (List.getElem?_eq_some_iff.1 ho).1
  have hlat : Later S w ι O S w ι (O.set id ⟨cs, ob.ep, ob.size, ob.ty⟩) := by
    refine ⟨fun _ h => h, fun _ _ => rfl, fun i obi hi => ?_⟩
    by_cases e : id = i
    · subst e; rw [ho] at hi; cases hi
      exact ⟨⟨cs, ob.ep, ob.size, ob.ty⟩, by simp [hidl], .inr ⟨rfl, rfl, rfl⟩⟩
    · exact ⟨obi, by rw [List.getElem?_set, if_neg e]; exact hi, .inr ⟨rfl, rfl, rfl⟩⟩
  refine ⟨hr.defers, hr.size, fun t' => (hr.tmps t').mono hlat (fun _ _ => rfl), ⟨fun i obi hi => ?_, fun i hi => hr.objs.nodup i (by simpa using hi), fun i j hi hj => hr.objs.apart i j (by simpa using hi) (by simpa using hj)⟩, fun i hi => hr.foot i (by simpa using hi), hr.base, hr.stable, hr.keeps, hr.spots, by show m ≤ (O.set id _).length; simp only [List.length_set]; exact hr.mle⟩
  have hi : (O.set id ⟨cs, ob.ep, ob.size, ob.ty⟩)[i]? = some obi := hi
  by_cases e : id = i
  · subst e
    simp only [List.getElem?_set_self hidl, Option.some.injEq] at hi
    subst hi
    have hob := hr.objs.obj id ob ho
    unfold ObjAt at hob ⊢
    cases hs : ι id with
    | none =>
      rw [hs] at hob
      refine ⟨?_, hob.2⟩
      have : cs.length = 0 := by rw [hl, hob.1]; rfl
      exact List.eq_nil_of_length_eq_zero this
    | some p =>
      rw [hs] at hob
      obtain ⟨cur', t', fz', f2, q1, q2, q3, q4, q5, q6, q7⟩ := hob
      exact ⟨cur', t', fz', f2, q1, q2, q3, by simp only; rw [hl]; exact q4, q5, q6, by simp only; rw [hl]; exact h _ _ _ (q7.mono hlat (fun _ _ => rfl))⟩
  · rw [List.getElem?_set, if_neg e] at hi
    have hob := hr.objs.obj i obi hi
    unfold ObjAt at hob ⊢
    cases hs : ι i with
    | none => rw [hs] at hob; exact hob
    | some p =>
      rw [hs] at hob
      obtain ⟨cur', t', fz', f2, q1, q2, q3, q4, q5, q6, q7⟩ := hob
      exact ⟨cur', t', fz', f2, q1, q2, q3, q4, q5, q6, q7.mono hlat (fun _ _ => rfl)⟩
section
variable {P : Program} {n m : Nat} {G : Ctx} {T : List (Nat × AV)} {O : List AObj} {Q : Exit → St → Prop} {ops : Array Oper} {l : List Oper} {d : Nat} {tt : TypeId} {pos : String} {after : Array Edge} {tab : List (Nat × Ty)}
variable {α : Type} {f : α → List AV} {k : Nat}
end
def prF (a : Int × Int) : List AV := [I a.1, I a.2]
def plF (a : Int × Int × Int) : List AV := [I a.1, I a.2.1, I a.2.2]
abbrev Blok := Int × List Int
def blkI (b : Blok) : List AV := [I b.1, .imm 1 b.2.length (ints b.2)]
def blkF (b : Blok) : List AV := [I b.1, .fre 1 b.2.length (ints b.2)]
abbrev Mbk := Bool × List Blok
def mbI (b : Mbk) : List AV := [B b.1, .imm 2 b.2.length (rows blkI b.2)]
def mbF (b : Mbk) : List AV := [B b.1, .fre 2 b.2.length (rows blkF b.2)]
abbrev Fra := Int × Int × List Int
def frI (b : Fra) : List AV := [I b.1, I b.2.1, .imm 1 b.2.2.length (ints b.2.2)]
def frF (b : Fra) : List AV := [I b.1, I b.2.1, .fre 1 b.2.2.length (ints b.2.2)]
def liF (b : List Int) : List AV := [.fre 1 b.length (ints b)]
@[simp] theorem len_pr (l : List (Int × Int)) : (rows prF l).length = l.length * 2 := rows_len (f := prF) (fun _ => rfl) l
@[simp] theorem len_pl (l : List (Int × Int × Int)) : (rows plF l).length = l.length * 3 := rows_len (f := plF) (fun _ => rfl) l
@[simp] theorem len_bI (l : List Blok) : (rows blkI l).length = l.length * 2 := rows_len (f := blkI) (fun _ => rfl) l
@[simp] theorem len_bF (l : List Blok) : (rows blkF l).length = l.length * 2 := rows_len (f := blkF) (fun _ => rfl) l
@[simp] theorem len_mI (l : List Mbk) : (rows mbI l).length = l.length * 2 := rows_len (f := mbI) (fun _ => rfl) l
@[simp] theorem len_mF (l : List Mbk) : (rows mbF l).length = l.length * 2 := rows_len (f := mbF) (fun _ => rfl) l
@[simp] theorem len_fI (l : List Fra) : (rows frI l).length = l.length * 3 := rows_len (f := frI) (fun _ => rfl) l
@[simp] theorem len_fF (l : List Fra) : (rows frF l).length = l.length * 3 := rows_len (f := frF) (fun _ => rfl) l
theorem loc_pr (a : Int × Int) : Loc (prF a) := .sc (.sc .nil)
theorem loc_pl (a : Int × Int × Int) : Loc (plF a) := .sc (.sc (.sc .nil))
theorem loc_blk (b : Blok) : Loc (blkF b) := .sc (.fre (Loc.ints _) .nil)
theorem loc_mb (b : Mbk) : Loc (mbF b) := .sc (.fre (Loc.rows loc_blk _) .nil)
theorem loc_fr (b : Fra) : Loc (frF b) := .sc (.sc (.fre (Loc.ints _) .nil))
theorem loc_li (b : List Int) : Loc (liF b) := .fre (Loc.ints _) .nil
section
variable {P : Program} {n m : Nat} {G : Ctx} {T : List (Nat × AV)} {O : List AObj} {Q : Exit → St → Prop} {ops : Array Oper} {l : List Oper} {d : Nat} {tt : TypeId} {pos : String} {after : Array Edge} {tab : List (Nat × Ty)} {i : Nat}
end
end Go.Abs


namespace Go.Abs
open Go
section
variable {P : Program} {n m : Nat} {G : Ctx} {md : Bool} {T : List (Nat × AV)} {O : List AObj} {Q : Exit → St → Prop} {ops : Array Oper} {l : List Oper} {d : Nat} {tt : TypeId} {pos : String} {after : Array Edge}
end
section
variable {P : Program} {n m : Nat} {G : Ctx} {md : Bool} {T : List (Nat × AV)} {O : List AObj} {Q : Exit → St → Prop} {ops : Array Oper} {l : List Oper} {d : Nat} {tt : TypeId} {pos : String} {after : Array Edge} {tab : List (Nat × Ty)}
end
def FnB (P : Program) (f : FuncId) (args : List AV) (p : Prop) (N1 : List AObj) (r1 : AV) (N0 : List AObj) (r0 : AV) : Prop := (p → FnC P f args N1 r1) ∧ (¬ p → FnC P f args N0 r0)
theorem WpL.callB {P : Program} {n m : Nat} {G : Ctx} {T : List (Nat × AV)} {O : List AObj} {Q : Exit → St → Prop} {ops : Array Oper} {l : List Oper} {d : Nat} {tt : TypeId} {pos : String} {after : Array Edge} {f : FuncId} {xs : List Operand} {ats : Array TypeId} {As : List AV} {p : Prop} {N1 N0 : List AObj} {r1 r0 r1' r0' : AV} {id : Nat} (hc : FnB P f As p N1 r1 N0 r0) (hs : Snap O (xs.map (av T)) As)
    (hl1 : Loc [r1]) (hN1 : Out N1) (hl0 : Loc [r0]) (hN0 : Out N0) (hid : cnt O.length 0 = some id) (hok1 : r1.shOk = true) (hre1 : r1.shF id = some r1') (hok0 : r0.shOk = true) (hre0 : r0.shF id = some r0') (hn : d < n)
    (h1 : p → WpL P n m G false ops l ⟨(d, r1') :: T, O ++ N1⟩ Q) (h0 : ¬ p → WpL P n m G false ops l ⟨(d, r0') :: T, O ++ N0⟩ Q) :
    WpL P n m G false ops ({ dst := some d, op := .call { callee := .value (.func f), args := xs.toArray, argTypes := ats }, type := tt, pos := pos, after := after, guard := none } :: l) ⟨T, O⟩ Q := by
  by_cases hp : p
  · exact WpL.callF (hc.1 hp) hs hl1 hN1 hid hok1 hre1 hn (h1 hp)
  · exact WpL.callF (hc.2 hp) hs hl0 hN0 hid hok0 hre0 hn (h0 hp)
end Go.Abs


namespace Go.Abs
open Go
abbrev GFact := Option (Nat × AV)
def gdeps (fs : List GFact) (o : Oper) : List (Nat × AV) := o.after.toList.filterMap fun e => if Region.binds .any e = true then (fs[e.on]?).join else none
def reach (ops : Array Oper) : Nat → Nat → Nat → Bool
  | 0, _, _ => false
  | f + 1, i, j => match ops[i]? with
    | none => false
    | some o => (o.after.toList.any fun e => Region.binds .any e && Nat.beq e.on j) || (o.after.toList.any fun e => Region.binds .any e && reach ops f e.on j)
theorem reach_listed {ops : Array Oper} {n : Nat} {listed : Array Bool} (inv : HeadInv .any ops n listed) : ∀ (f i j : Nat), reach ops f i j = true → listed.getD i false = true → listed.getD j false = true
  | 0, i, j, h, _ => by simp [reach] at h
  | f + 1, i, j, h, hl => by
    rw [reach] at h
    split at h
    · cases h
    · rename_i o ho
      rcases Bool.or_eq_true_iff.1 h with h | h
      · obtain ⟨e, he, hx⟩ := List.any_eq_true.1 h
        rw [Bool.and_eq_true] at hx
        have := inv.closed i o ho hl e (by simpa using he) hx.1
        rw [Nat.eq_of_beq_eq_true hx.2] at this; exact this
      · obtain ⟨e, he, hx⟩ := List.any_eq_true.1 h
        rw [Bool.and_eq_true] at hx
        exact reach_listed inv f _ _ hx.2 (inv.closed i o ho hl e (by simpa using he) hx.1)
inductive Pat : List (Option AObj) → List AObj → Prop
  | nil {R} : Pat [] R
  | one {ob ps R} (r : Pat ps R) : Pat (some ob :: ps) (ob :: R)
  | any {ob ps R} (r : Pat ps R) : Pat (none :: ps) (ob :: R)
theorem Pat.all : ∀ {Op A : List AObj}, Pat (Op.map some) A → ∃ R, A = Op ++ R
  | [], A, _ => ⟨A, rfl⟩
  | ob :: Op, _, .one r => by obtain ⟨R, rfl⟩ := Pat.all r; exact ⟨R, rfl⟩
inductive OpG (P : Program) (n m : Nat) (G : Ctx) (ops : Array Oper) (T0 : List (Nat × AV)) (F : List (Nat × AV)) (o : Oper) : Nat → GFact → Option (List (Option AObj)) → List AObj → List AObj → Prop
  | pre {d V O} (Op : List (Option AObj)) (hd : o.dst = some d) (h : ∀ Tv Ov, Pat Op Ov → WpL P n m G false ops [o] ⟨F ++ (T0 ++ Tv), Ov⟩ (Only ⟨(d, V) :: (F ++ (T0 ++ Tv)), Ov⟩)) : OpG P n m G ops T0 F o 0 (some (d, V)) (some Op) O O
  | fixed {d V O} (hd : o.dst = some d) (h : ∀ Tv, WpL P n m G false ops [o] ⟨F ++ (T0 ++ Tv), O⟩ (Only ⟨(d, V) :: (F ++ (T0 ++ Tv)), O⟩)) : OpG P n m G ops T0 F o 1 (some (d, V)) none O O
  | step {d V O O'} (hd : o.dst = some d) (h : ∀ Tv, WpL P n m G false ops [o] ⟨F ++ (T0 ++ Tv), O⟩ (Only ⟨(d, V) :: (F ++ (T0 ++ Tv)), O'⟩)) : OpG P n m G ops T0 F o 2 (some (d, V)) none O O'
  | stepN {O O'} (hd : o.dst = none) (h : ∀ Tv, WpL P n m G false ops [o] ⟨F ++ (T0 ++ Tv), O⟩ (Only ⟨F ++ (T0 ++ Tv), O'⟩)) : OpG P n m G ops T0 F o 2 none none O O'
inductive HeadG (P : Program) (n m : Nat) (G : Ctx) (ops : Array Oper) (T0 : List (Nat × AV)) : List GFact → List AObj → List Oper → List GFact → List Nat → List (Option (List (Option AObj))) → List (List AObj) → List AObj → Prop
  | nil {fs O} : HeadG P n m G ops T0 fs O [] [] [] [] [O] O
  | still {fs O o l x k y out ks ds Os O' F} (hF : gdeps fs o = F) (hk : k < 2) (h : OpG P n m G ops T0 F o k x y O O) (r : HeadG P n m G ops T0 (fs ++ [x]) O l out ks ds Os O') : HeadG P n m G ops T0 fs O (o :: l) (x :: out) (k :: ks) (y :: ds) Os O'
  | step {fs O o l x y out ks ds Os O1 O' F} (hF : gdeps fs o = F) (h : OpG P n m G ops T0 F o 2 x y O O1) (r : HeadG P n m G ops T0 (fs ++ [x]) O1 l out ks ds Os O') : HeadG P n m G ops T0 fs O (o :: l) (x :: out) (2 :: ks) (y :: ds) (O :: Os) O'
def isS (ks : List Nat) (j : Nat) : Bool := Nat.beq (ks.getD j 0) 2
def sc (ks : List Nat) (j : Nat) : Nat := ((List.range j).filter (isS ks)).length
theorem sc_cons (k : Nat) (ks : List Nat) (j : Nat) : sc (k :: ks) (j + 1) = (if Nat.beq k 2 = true then 1 else 0) + sc ks j := by
  unfold sc
  rw [List.range_succ_eq_map, List.filter_cons, List.filter_map]
  have : (isS (k :: ks) ∘ Nat.succ) = isS ks := by funext x; simp [isS]
  rw [this]
  have h0 : isS (k :: ks) 0 = Nat.beq k 2 := by simp [isS]
  rw [h0]
  split <;> simp <;> omega
section
variable {P : Program} {n m : Nat} {G : Ctx} {ops : Array Oper} {T0 : List (Nat × AV)}
theorem HeadG.hd {fs O l out ks ds Os O'} (h : HeadG P n m G ops T0 fs O l out ks ds Os O') : Os[0]? = some O := by
  induction h with
  | nil => rfl
  | still _ _ _ _ ih => exact ih
  | step => rfl
theorem HeadG.at {fs O l out ks ds Os O'} (h : HeadG P n m G ops T0 fs O l out ks ds Os O') : ∀ {j : Nat} {o : Oper}, l[j]? = some o → ∃ x k y A B, out[j]? = some x ∧ ks[j]? = some k ∧ ds[j]? = some y ∧ Os[sc ks j]? = some A ∧
    Os[(if isS ks j = true then 1 else 0) + sc ks j]? = some B ∧ OpG P n m G ops T0 (gdeps (fs ++ out.take j) o) o k x y A B := by
  induction h with
  | nil => intro j o h; simp at h
  | @still fs O o l x k y out ks ds Os O' F hF hk h r ih =>
    intro j o' hj
    have e : ¬ Nat.beq k 2 = true := by intro h; have := Nat.eq_of_beq_eq_true h; omega
    cases j with
    | zero =>
      simp only [List.getElem?_cons_zero, Option.some.injEq] at hj
      subst hj
      have h0 : isS (k :: ks) 0 = Nat.beq k 2 := by simp [isS]
      refine ⟨x, k, y, O, O, rfl, rfl, rfl, r.hd, ?_, ?_⟩
      · rw [h0, if_neg e]; exact r.hd
      · simp only [List.take_zero, List.append_nil]; rw [hF]; exact h
    | succ j =>
      obtain ⟨x', k', y', A, B, h1, h2, h2', h3, h4, h5⟩ := ih (j := j) (o := o') (by simpa using hj)
      have hs : isS (k :: ks) (j + 1) = isS ks j := by simp [isS]
      refine ⟨x', k', y', A, B, by simpa using h1, by simpa using h2, by simpa using h2', ?_, ?_, ?_⟩
      · rw [sc_cons, if_neg e, Nat.zero_add]; exact h3
      · rw [hs, sc_cons, if_neg e, Nat.zero_add]; exact h4
      · rw [List.take_succ_cons]; rw [List.append_assoc] at h5; exact h5
  | @step fs O o l x y out ks ds Os O1 O' F hF h r ih =>
    intro j o' hj
    cases j with
    | zero =>
      simp only [List.getElem?_cons_zero, Option.some.injEq] at hj
      subst hj
      have h0 : isS (2 :: ks) 0 = true := by simp [isS]
      refine ⟨x, 2, y, O, O1, rfl, rfl, rfl, rfl, ?_, ?_⟩
      · rw [h0, if_pos rfl]; exact r.hd
      · simp only [List.take_zero, List.append_nil]; rw [hF]; exact h
    | succ j =>
      obtain ⟨x', k', y', A, B, h1, h2, h2', h3, h4, h5⟩ := ih (j := j) (o := o') (by simpa using hj)
      have hs : isS (2 :: ks) (j + 1) = isS ks j := by simp [isS]
      refine ⟨x', k', y', A, B, by simpa using h1, by simpa using h2, by simpa using h2', ?_, ?_, ?_⟩
      · rw [sc_cons, if_pos (show Nat.beq 2 2 = true from rfl), Nat.add_comm]; simpa using h3
      · rw [hs, sc_cons, if_pos (show Nat.beq 2 2 = true from rfl), ← Nat.add_assoc, Nat.add_comm _ 1, Nat.add_assoc, Nat.add_comm 1]; simpa using h4
      · rw [List.take_succ_cons]; rw [List.append_assoc] at h5; exact h5
def lo (ops : Array Oper) (ks : List Nat) (k f i : Nat) : Nat := ((List.range k).filter fun j => isS ks j && reach ops f i j).length
def hiS (ops : Array Oper) (ks : List Nat) (k f i : Nat) : Nat := ((List.range k).filter fun j => isS ks j && !reach ops f j i).length
end
section
variable {P : Program} {n m : Nat} {G : Ctx} {ops : Array Oper} {T0 : List (Nat × AV)}
inductive PreL (Op : List (Option AObj)) : List (List AObj) → Prop
  | nil : PreL Op []
  | cons {A Os} (h : Pat Op A) (r : PreL Op Os) : PreL Op (A :: Os)
theorem PreL.at {Op : List (Option AObj)} {Os : List (List AObj)} (h : PreL Op Os) : ∀ {q : Nat} {A : List AObj}, Os[q]? = some A → Pat Op A := by
  induction h with
  | nil => intro q A h; simp at h
  | cons h r ih =>
    intro q A hA
    cases q with
    | zero => simp only [List.getElem?_cons_zero, Option.some.injEq] at hA; subst hA; exact h
    | succ q => exact ih (by simpa using hA)
inductive DemAll (ops : Array Oper) (ks : List Nat) (k f : Nat) (Os : List (List AObj)) : Nat → List (Option (List (Option AObj))) → Prop
  | nil {i} : DemAll ops ks k f Os i []
  | skip {i ds} (r : DemAll ops ks k f Os (i + 1) ds) : DemAll ops ks k f Os i (none :: ds)
  | zero {i ds} (r : DemAll ops ks k f Os (i + 1) ds) : DemAll ops ks k f Os i (some [] :: ds)
  | all {i ds Op} (h : PreL Op Os) (r : DemAll ops ks k f Os (i + 1) ds) : DemAll ops ks k f Os i (some Op :: ds)
  | past {i ds Op c Os'} (hc : cnt (lo ops ks k f i) 0 = some c) (hO : Os.drop c = Os') (h : PreL Op Os') (r : DemAll ops ks k f Os (i + 1) ds) : DemAll ops ks k f Os i (some Op :: ds)
  | betw {i ds Op c c2 Os'} (hc : cnt (lo ops ks k f i) 0 = some c) (hc2 : cnt (hiS ops ks k f i) 0 = some c2) (hO : (Os.take (c2 + 1)).drop c = Os') (h : PreL Op Os') (r : DemAll ops ks k f Os (i + 1) ds) : DemAll ops ks k f Os i (some Op :: ds)
theorem DemAll.at {ks : List Nat} {k f : Nat} {Os : List (List AObj)} {i ds} (h : DemAll ops ks k f Os i ds) : ∀ {j Op}, ds[j]? = some (some Op) → ∀ q A, lo ops ks k f (i + j) ≤ q → q ≤ hiS ops ks k f (i + j) → Os[q]? = some A → Pat Op A := by
  induction h with
  | nil => intro j Op h; simp at h
  | @skip i ds r ih =>
    intro j Op h q A hq hq2 hA
    cases j with
    | zero => simp at h
    | succ j => exact ih (by simpa using h) q A (by rw [show i + 1 + j = i + (j + 1) by omega]; exact hq) (by rw [show i + 1 + j = i + (j + 1) by omega]; exact hq2) hA
  | @zero i ds r ih =>
    intro j Op h q A hq hq2 hA
    cases j with
    | zero => simp only [List.getElem?_cons_zero, Option.some.injEq] at h; subst h; exact .nil
    | succ j => exact ih (by simpa using h) q A (by rw [show i + 1 + j = i + (j + 1) by omega]; exact hq) (by rw [show i + 1 + j = i + (j + 1) by omega]; exact hq2) hA
  | @all i ds Op' hp r ih =>
    intro j Op h q A hq hq2 hA
    cases j with
    | zero => simp only [List.getElem?_cons_zero, Option.some.injEq] at h; subst h; exact hp.at hA
    | succ j => exact ih (by simpa using h) q A (by rw [show i + 1 + j = i + (j + 1) by omega]; exact hq) (by rw [show i + 1 + j = i + (j + 1) by omega]; exact hq2) hA
  | @past i ds Op' c Os' hc hO hp r ih =>
    intro j Op h q A hq hq2 hA
    cases j with
    | zero =>
      simp only [List.getElem?_cons_zero, Option.some.injEq] at h; subst h
      have hc := cnt_eq hc
      rw [Nat.add_zero] at hc hq
      refine hp.at (q := q - c) ?_
      rw [← hO, List.getElem?_drop, show c + (q - c) = q by omega]; exact hA
    | succ j => exact ih (by simpa using h) q A (by rw [show i + 1 + j = i + (j + 1) by omega]; exact hq) (by rw [show i + 1 + j = i + (j + 1) by omega]; exact hq2) hA
  | @betw i ds Op' c c2 Os' hc hc2 hO hp r ih =>
    intro j Op h q A hq hq2 hA
    cases j with
    | zero =>
      simp only [List.getElem?_cons_zero, Option.some.injEq] at h; subst h
      have hc := cnt_eq hc
      have hc2 := cnt_eq hc2
      rw [Nat.add_zero] at hc hq hc2 hq2
      refine hp.at (q := q - c) ?_
      rw [← hO, List.getElem?_drop, show c + (q - c) = q by omega, List.getElem?_take, if_pos (by omega)]; exact hA
    | succ j => exact ih (by simpa using h) q A (by rw [show i + 1 + j = i + (j + 1) by omega]; exact hq) (by rw [show i + 1 + j = i + (j + 1) by omega]; exact hq2) hA
end
end Go.Abs
namespace Go.Abs.K
end Go.Abs.K


namespace Go.Abs
open Go
section
variable {P : Program} {n m : Nat} {G : Ctx} {T : List (Nat × AV)} {O : List AObj} {Q : Exit → St → Prop} {ops : Array Oper} {l : List Oper} {d : Nat} {tt : TypeId} {pos : String} {after : Array Edge} {tab : List (Nat × Ty)}
end
section
variable {P : Program} {n m : Nat} {G : Ctx} {T : List (Nat × AV)} {O : List AObj} {Q : Exit → St → Prop} {ops : Array Oper} {l : List Oper} {d : Nat} {tt : TypeId} {pos : String} {after : Array Edge} {tab : List (Nat × Ty)}
end
end Go.Abs
namespace Go.Abs.K
open Go Go.Abs
variable {P : Program} {n m : Nat} {G : Ctx} {σ : St} {Q : Exit → St → Prop} {md : Bool} {ops : Array Oper} {l : List Oper} {dd : Option Nat} {tt : TypeId} {pos : String} {after : Array Edge}
end Go.Abs.K


namespace Go.Abs
open Go
def wrC : List AV → Nat → List AV → Option (List AV)
  | [], _, [] => some []
  | [], _, _ :: _ => none
  | z :: zs, 0, [] => some (z :: zs)
  | z :: zs, 0, d :: ds => match wrC zs 0 ds with
    | none => none
    | some r => some (d :: r)
  | z :: zs, off + 1, ds => match wrC zs off ds with
    | none => none
    | some r => some (z :: r)
theorem wrC_eq : ∀ {zs : List AV} {off : Nat} {ds r : List AV}, wrC zs off ds = some r → r = zs.take off ++ ds ++ zs.drop (off + ds.length)
  | [], off, [], r, h => by simp [wrC] at h; subst h; simp
  | [], _, _ :: _, r, h => by simp [wrC] at h
  | z :: zs, 0, [], r, h => by simp [wrC] at h; subst h; simp
  | z :: zs, 0, d :: ds, r, h => by
    rw [wrC] at h
    cases hr : wrC zs 0 ds with
    | none => rw [hr] at h; cases h
    | some r' =>
      rw [hr] at h; cases h
      have := wrC_eq hr; subst this
      simp [Nat.add_comm]
  | z :: zs, off + 1, ds, r, h => by
    rw [wrC] at h
    cases hr : wrC zs off ds with
    | none => rw [hr] at h; cases h
    | some r' =>
      rw [hr] at h; cases h
      have := wrC_eq hr; subst this
      simp [Nat.add_right_comm]
def bldC (T : List (Nat × AV)) (O : List AObj) (offs : List Nat) : List AV → List (Nat × Operand) → Option (List AV × List (Nat × Nat × Nat))
  | zs, [] => some (zs, [])
  | zs, (i, x) :: r => match offs[i]? with
    | none => none
    | some off => match (av T x).force with
      | none => none
      | some V => match cellsV O V with
        | none => none
        | some ds => match Nat.ble (off + ds.length) zs.length with
          | false => none
          | true => match wrC zs off ds with
            | none => none
            | some zs' => match bldC T O offs zs' r with
              | none => none
              | some (cs, q) => some (cs, (i, off, ds.length) :: q)
def buildB (P : Program) (t : TypeId) (q : List (Nat × Nat × Nat)) : Bool := match P.underlying t with
  | some (.struct fs) => match fs.toList.mapM (fun f => (P.info? f.type).map fun i => (f.offset, i.size)) with
    | some places => q.all fun r => match places[r.1]? with | some p => Nat.beq p.1 r.2.1 && Nat.beq p.2 r.2.2 | none => false
    | none => false
  | _ => false
theorem lrel_nil_of {S : Nat → Prop} {w : World} {ι : Nat → Spot} {O : List AObj} {cs vs g} (h : LRel S w ι O cs vs g) (hg : ∀ b ∈ g, b ∈ ([] : List Nat)) : LRel S w ι O cs vs [] := by
  have : g = [] := List.eq_nil_iff_forall_not_mem.2 fun b hb => by cases hg b hb
  subst this; exact h
theorem bldC_rel {n m G S ι F T O a w} (hr : RelAt n m G S ι F ⟨T, O⟩ a w) {offs : List Nat} (places : Nat → Option (Nat × Nat)) : ∀ {parts : List (Nat × Operand)} {zs cs : List AV} {q : List (Nat × Nat × Nat)} {us : Array Value}, bldC T O offs zs parts = some (cs, q) → (∀ r ∈ q, places r.1 = some r.2) →
    LRel S w ι O zs us.toList [] → ∃ out : Array Value, Instr.fill places us (parts.map fun p => (p.1, a.eval p.2)) = some out ∧ LRel S w ι O cs out.toList []
  | [], zs, cs, q, us, h, hq, hl => by
    simp only [bldC, Option.some.injEq, Prod.mk.injEq] at h
    obtain ⟨rfl, rfl⟩ := h
    exact ⟨us, rfl, hl⟩
  | (i, x) :: parts, zs, cs, q, us, h, hq, hl => by
    simp only [bldC] at h
    split at h
    · cases h
    rename_i off hoff
    split at h
    · cases h
    rename_i V hV
    split at h
    · cases h
    rename_i ds hds
    split at h
    · cases h
    rename_i hble
    split at h
    · cases h
    rename_i zs' hzs
    split at h
    · cases h
    rename_i cs' q' hrest
    cases h
    have hp := hq (i, off, ds.length) (by simp)
    have hv := hr.eval x
    rw [show av (St.mk T O).T x = V from AV.force_eq hV] at hv
    have hc := cellsV_rel hv hds
    have hlen := hc.len
    have hzl : zs.length = us.size := by simpa using hl.len
    have hle := Nat.le_of_ble_eq_true hble
    have e := wrC_eq hzs
    have hsz : (a.eval x).cells.size = ds.length := by rw [hlen]; simp
    have hf := fold_set (a.eval x).cells.toList 0 off us (by rw [← hlen]; omega)
    obtain ⟨g1, t1, k1, _⟩ := hl.take off
    obtain ⟨g2, t2, k2, _⟩ := hl.drop (off + ds.length)
    have l1 := lrel_nil_of t1 k1
    have l2 := lrel_nil_of t2 k2
    have hnew : LRel S w ι O zs' ((((a.eval x).cells.toList.zipIdx 0).foldl (fun cs (c, q) => cs.setIfInBounds (off + q) c) us).toList) [] := by
      rw [hf, e, ← hlen]
      simpa using (l1.append hc).append l2
    have hz : (a.eval x).cells.zipIdx.foldl (fun cs (c, q) => cs.setIfInBounds (off + q) c) us = ((a.eval x).cells.toList.zipIdx 0).foldl (fun cs (c, q) => cs.setIfInBounds (off + q) c) us := by
      rw [← Array.foldl_toList, Array.toList_zipIdx]
    rw [← hz] at hnew
    obtain ⟨out, ho, hlo⟩ := bldC_rel hr places hrest (fun r hr => hq r (by simp [hr])) hnew
    refine ⟨out, ?_, hlo⟩
    simp only [List.map_cons]
    rw [Instr.fill, hp]
    have hng : ¬ (off + ds.length > us.size) := by omega
    simp only [hsz, ne_eq, not_true_eq_false, decide_false, hng, Bool.or_false, Bool.false_eq_true, if_false]
    exact ho
section
variable {P : Program} {n m : Nat} {md : Bool} {G : Ctx} {T : List (Nat × AV)} {O : List AObj} {Q : Exit → St → Prop} {ops : Array Oper} {l : List Oper} {d : Nat} {tt : TypeId} {pos : String} {after : Array Edge} {tab : List (Nat × Ty)}
theorem WpL.build (hP : TabOk P tab) {t k : Nat} {offs : List Nat} {zs cs : List AV} {parts : List (Nat × Operand)} {q : List (Nat × Nat × Nat)} (ht : tlook tab t = some (.struct offs k zs)) (hc : bldC T O offs zs parts = some (cs, q)) (hb : buildB P t q = true) (hn : d < n)
    (h : WpL P n m G md ops l ⟨(d, .agg cs) :: T, O⟩ Q) :
    WpL P n m G md ops ({ dst := some d, op := .build t parts.toArray, type := tt, pos := pos, after := after, guard := none } :: l) ⟨T, O⟩ Q :=
  WpL.pure rfl rfl hn (fun S ι F a w hr => by
    obtain ⟨fs, hu, ⟨z, hz, hzk, hzs⟩, _⟩ := hP.ty ht
    unfold buildB at hb
    rw [hu] at hb
    simp only at hb
    split at hb
    · rename_i places hpl
      have hq : ∀ r ∈ q, (fun i => places.toArray[i]?) r.1 = some r.2 := by
        intro r hr
        have := List.all_eq_true.1 hb r hr
        show places.toArray[r.1]? = some r.2
        simp only [List.getElem?_toArray]
        split at this
        · rename_i p hp
          simp only [Bool.and_eq_true] at this
          rw [hp]; exact congrArg some (Prod.ext (Nat.eq_of_beq_eq_true this.1) (Nat.eq_of_beq_eq_true this.2))
        · cases this
      have hl0 : LRel S w ι O zs z.cells.toList [] := by rw [hzs]; exact lrel_zav _
      obtain ⟨out, ho, hl⟩ := bldC_rel hr _ hc hq hl0
      refine ⟨.agg out, ?_, ?_⟩
      · have hbt : P.built t ((parts.toArray.map fun (i, x) => (i, a.eval x)).toList) = some out := by
          unfold Program.built
          cases hit : P.info? t with
          | none => rw [hit] at hz; simp at hz
          | some it =>
            rw [hit] at hz
            simp only [Option.map_some, Option.some.injEq, Prod.mk.injEq] at hz
            simp only [hu, hz.1, hpl]
            rw [Array.toList_map]; exact ho
        have hrun := run_build w t (parts.toArray.map fun (i, x) => (i, a.eval x)) out hbt
        simp only [execOp, Sem.run_bind]
        simp at hrun ⊢
        rw [hrun]; rfl
      · have := LRel.agg (us := out.toList) hl .nil
        simpa using this
    · cases hb) h
end
end Go.Abs


namespace Go.Abs
open Go
section
variable {P : Program} {n m : Nat} {G : Ctx} {T : List (Nat × AV)} {O : List AObj} {Q : Exit → St → Prop} {ops : Array Oper} {l : List Oper} {d : Nat} {md : Bool} {tt : TypeId} {pos : String} {after : Array Edge} {tab : List (Nat × Ty)}
end
end Go.Abs


namespace Go.Abs
open Go
def deadO : AObj := ⟨[], 1, 0, none⟩
def roomO : AObj := ⟨[], 0, 0, none⟩
def AObj.putE (ob : AObj) (e : Nat) : AObj := ⟨ob.cells, e, ob.size, ob.ty⟩
def AObj.put1 (ob : AObj) : AObj := ⟨ob.cells, 1, ob.size, ob.ty⟩
theorem RelAt.fill {n m G S ι F T O a w} {d j off len : Nat} {ob oj : AObj} (hr : RelAt n m G S ι F ⟨(d, .own O.length 0 off len) :: T, O ++ [ob]⟩ a w) (hj : O[j]? = some oj) (hm : m ≤ j) (hob : ob.ep = 0) (hst : ob.cells.all AV.still = true) :
    ∃ ι' F', RelAt n m G S ι' F' ⟨(d, .own j (oj.ep + 1) off len) :: T, O.set j (ob.putE (oj.ep + 1)) ++ [deadO]⟩ a w := by
  have hjl : j < O.length := (List.getElem?_eq_some_iff.1 hj).1
  have hlast : (O ++ [ob])[O.length]? = some ob := List.getElem?_concat_length
  have hO2 : ∀ i : Nat, (O.set j (ob.putE (oj.ep + 1)) ++ [deadO])[i]? = if i = j then some (ob.putE (oj.ep + 1)) else if i = O.length then some deadO else O[i]? := by
    intro i
    by_cases h1 : i = j
    · subst h1; rw [if_pos rfl, List.getElem?_append_left (by simpa using hjl)]; simp [hjl]
    · rw [if_neg h1]
      have h1' : ¬ j = i := fun e => h1 e.symm
      by_cases h2 : i = O.length
      · subst h2; rw [if_pos rfl, List.getElem?_append_right (by simp)]; simp
      · rw [if_neg h2]
        rcases Nat.lt_or_ge i O.length with h | h
        · rw [List.getElem?_append_left (by simpa using h)]; simp [List.getElem?_set, h1']
        · rw [List.getElem?_eq_none (by simp; omega), List.getElem?_eq_none h]
  have hO1 : ∀ i : Nat, i ≠ O.length → (O ++ [ob])[i]? = O[i]? := by
    intro i hi
    rcases Nat.lt_or_ge i O.length with h | h
    · rw [List.getElem?_append_left h]
    · rw [List.getElem?_eq_none (by simp; omega), List.getElem?_eq_none h]
  have hjn : j ≠ O.length := by omega
  have hlat : Later S w ι (O ++ [ob]) S w (upd (upd ι j (ι O.length)) O.length none) (O.set j (ob.putE (oj.ep + 1)) ++ [deadO]) := by
    refine ⟨fun _ h => h, fun _ _ => rfl, fun i obi hi => ?_⟩
    by_cases h1 : i = j
    · subst h1; rw [hO1 _ hjn, hj] at hi; cases hi
      exact ⟨(ob.putE (oj.ep + 1)), by rw [hO2, if_pos rfl], .inl (Nat.lt_succ_self _)⟩
    · by_cases h2 : i = O.length
      · subst h2; rw [hlast] at hi; cases hi
        exact ⟨deadO, by rw [hO2, if_neg h1, if_pos rfl], .inl (by rw [hob]; exact Nat.lt_succ_self _)⟩
      · rw [hO1 _ h2] at hi
        exact ⟨obi, by rw [hO2, if_neg h1, if_neg h2]; exact hi, .inr ⟨rfl, rfl, by rw [upd_other _ _ h2, upd_other _ _ h1]⟩⟩
  have hn := hr.objs.obj O.length ob hlast
  refine ⟨upd (upd ι j (ι O.length)) O.length none, upd (upd F j (F O.length)) O.length [], hr.defers, hr.size, fun t' => ?_, ⟨fun i obi hi => ?_, fun i hi => ?_, fun i i' hi hi' hii c hcm => ?_⟩, fun i hi c hcm => ?_, hr.base, hr.stable, hr.keeps, fun i hi => ?_, ?_⟩
  · have ht := hr.tmps t'
    by_cases e : d = t'
    · subst e
      have ht : VRel S w ι (O ++ [ob]) (look ((d, .own O.length 0 off len) :: T) d) (a.tmps.getD d undef) [] := ht
      show VRel _ _ _ _ (look ((d, .own j (oj.ep + 1) off len) :: T) d) _ _
      rw [look_cons_same] at ht ⊢
      cases ht with
      | own q1 q2 q3 r =>
        rw [hlast] at q1; cases q1
        refine .own (ob := (ob.putE (oj.ep + 1))) (by rw [hO2, if_pos rfl]) (Nat.le_refl _) (fun _ => ?_) .nil
        rw [upd_other _ _ hjn, upd_same]
        exact q3 hob.symm
    · have ht : VRel S w ι (O ++ [ob]) (look ((d, .own O.length 0 off len) :: T) t') (a.tmps.getD t' undef) [] := ht
      show VRel _ _ _ _ (look ((d, .own j (oj.ep + 1) off len) :: T) t') _ _
      rw [look_cons_other _ _ _ _ e] at ht ⊢
      exact ht.mono hlat (fun _ _ => rfl)
  · have hi : (O.set j (ob.putE (oj.ep + 1)) ++ [deadO])[i]? = some obi := hi
    rw [hO2] at hi
    by_cases e1 : i = j
    · subst e1
      rw [if_pos rfl] at hi; cases hi
      rw [upd_other _ _ hjn, upd_other _ _ hjn, upd_same, upd_same]
      unfold ObjAt at hn ⊢
      cases hs : ι O.length with
      | none => rw [hs] at hn; exact hn
      | some p =>
        obtain ⟨b, k⟩ := p
        rw [hs] at hn
        obtain ⟨cur, t, fz, f', h1, h2, h3, h4, h5, h6, h7⟩ := hn
        have h8 := h7.mono hlat (fun _ _ => rfl)
        rw [hs] at h8
        exact ⟨cur, t, fz, f', h1, h2, h3, h4, h5, h6, h8⟩
    · rw [if_neg e1] at hi
      by_cases e2 : i = O.length
      · subst e2
        rw [if_pos rfl] at hi; cases hi
        rw [upd_same, upd_same]; exact ⟨rfl, rfl⟩
      · rw [if_neg e2] at hi
        rw [upd_other _ _ e2, upd_other _ _ e2, upd_other _ _ e1, upd_other _ _ e1]
        have ho := hr.objs.obj i obi (by show (O ++ [ob])[i]? = _; rw [hO1 _ e2]; exact hi)
        unfold ObjAt at ho ⊢
        cases hs : ι i with
        | none => rw [hs] at ho; exact ho
        | some p =>
          obtain ⟨b, k⟩ := p
          rw [hs] at ho
          obtain ⟨cur, t, fz, f', h1, h2, h3, h4, h5, h6, h7⟩ := ho
          exact ⟨cur, t, fz, f', h1, h2, h3, h4, h5, h6, h7.mono hlat (fun _ _ => rfl)⟩
  · have hi : i < (O.set j (ob.putE (oj.ep + 1)) ++ [deadO]).length := hi
    simp only [List.length_append, List.length_set, List.length_singleton] at hi
    by_cases e2 : i = O.length
    · subst e2; rw [upd_same]; exact List.nodup_nil
    · rw [upd_other _ _ e2]
      by_cases e1 : i = j
      · subst e1; rw [upd_same]; exact hr.objs.nodup O.length (by show O.length < (O ++ [ob]).length; simp)
      · rw [upd_other _ _ e1]; exact hr.objs.nodup i (by show i < (O ++ [ob]).length; simp; omega)
  · have hi : i < (O.set j (ob.putE (oj.ep + 1)) ++ [deadO]).length := hi
    have hi' : i' < (O.set j (ob.putE (oj.ep + 1)) ++ [deadO]).length := hi'
    simp only [List.length_append, List.length_set, List.length_singleton] at hi hi'
    by_cases e2 : i = O.length
    · subst e2; rw [upd_same] at hcm; cases hcm
    · rw [upd_other _ _ e2] at hcm
      by_cases e3 : i' = O.length
      · subst e3; rw [upd_same]; intro h; cases h
      · rw [upd_other _ _ e3]
        have hL : (O ++ [ob]).length = O.length + 1 := by simp
        by_cases e1 : i = j
        · subst e1
          rw [upd_same] at hcm
          rw [upd_other _ _ (fun e => hii e.symm)]
          exact hr.objs.apart O.length i' (by show O.length < (O ++ [ob]).length; omega) (by show i' < (O ++ [ob]).length; omega) (fun e => e3 e.symm) c hcm
        · rw [upd_other _ _ e1] at hcm
          by_cases e4 : i' = j
          · subst e4; rw [upd_same]
            exact hr.objs.apart i O.length (by show i < (O ++ [ob]).length; omega) (by show O.length < (O ++ [ob]).length; omega) e2 c hcm
          · rw [upd_other _ _ e4]
            exact hr.objs.apart i i' (by show i < (O ++ [ob]).length; omega) (by show i' < (O ++ [ob]).length; omega) hii c hcm
  · have hi : i < (O.set j (ob.putE (oj.ep + 1)) ++ [deadO]).length := hi
    simp only [List.length_append, List.length_set, List.length_singleton] at hi
    have hL : (O ++ [ob]).length = O.length + 1 := by simp
    by_cases e2 : i = O.length
    · subst e2; rw [upd_same] at hcm; cases hcm
    · rw [upd_other _ _ e2] at hcm
      by_cases e1 : i = j
      · subst e1; rw [upd_same] at hcm; exact hr.foot O.length (by show O.length < (O ++ [ob]).length; omega) c hcm
      · rw [upd_other _ _ e1] at hcm; exact hr.foot i (by show i < (O ++ [ob]).length; omega) c hcm
  · rw [upd_other _ _ (by omega), upd_other _ _ (by omega)]; exact hr.spots i hi
  · show m ≤ (O.set j (ob.putE (oj.ep + 1)) ++ [deadO]).length
    simp only [List.length_append, List.length_set, List.length_singleton]; omega
theorem Weak.fillE {m d j off len : Nat} {ob oj : AObj} {T : List (Nat × AV)} {O : List AObj} (hj : O[j]? = some oj) (hm : m ≤ j) (hob : ob.ep = 0) (hst : ob.cells.all AV.still = true) :
    Weak m ⟨(d, .own O.length 0 off len) :: T, O ++ [ob]⟩ ⟨(d, .own j (oj.ep + 1) off len) :: T, O.set j (ob.putE (oj.ep + 1)) ++ [deadO]⟩ := by
  rintro n' G' a w ⟨S, ι, F, hr⟩
  obtain ⟨ι', F', hr'⟩ := hr.fill hj hm hob hst
  exact ⟨S, ι', F', hr'⟩
theorem Weak.fill {m d j off len : Nat} {ob oj : AObj} {T : List (Nat × AV)} {O : List AObj} (hj : O[j]? = some oj) (hm : m ≤ j) (hje : oj.ep = 0) (hob : ob.ep = 0) (hst : ob.cells.all AV.still = true) :
    Weak m ⟨(d, .own O.length 0 off len) :: T, O ++ [ob]⟩ ⟨(d, .own j 1 off len) :: T, O.set j ob.put1 ++ [deadO]⟩ := by
  have := Weak.fillE (d := d) (off := off) (len := len) (T := T) hj hm hob hst
  rw [hje] at this; exact this
inductive Fil where
  | none
  | put (p : Nat) (ob : AObj)
  | step (p : Nat) (ob : AObj)
def Fil.spot : Fil → Option (Nat × AObj)
  | .none => Option.none
  | .put p ob => some (p, ob)
  | .step p ob => some (p, ob)
def Fil.isPut : Fil → Bool
  | .put _ _ => true
  | _ => false
def Fil.run : Fil → List AObj → List AObj
  | .none, Ov => Ov
  | .put p ob, Ov => Ov.set p ob ++ [deadO]
  | .step p ob, Ov => Ov.set p ob
def waits (o : Oper) (j : Nat) : Bool := o.after.toList.any fun e => Region.binds .any e && Nat.beq e.on j
def memB (p : Nat) : List Nat → Bool
  | [] => false
  | q :: l => Nat.beq p q || memB p l
inductive HeadQ (P : Program) (n m : Nat) (G : Ctx) (ops : Array Oper) (T0 : List (Nat × AV)) (O Oi : List AObj) (keep : List Nat) : List (Nat × AV) → List Fil → List Oper → List (Nat × AV) → List Fil → Prop
  | nil {fs gs} : HeadQ P n m G ops T0 O Oi keep fs gs [] fs gs
  | cons {fs out : List (Nat × AV)} {gs : List Fil} {o : Oper} {l : List Oper} {d : Nat} {V : AV} {F : List (Nat × AV)} {ks : List Fil} (k : Fil) (hd : o.dst = some d) (hF : deps fs o = F)
      (h : ∀ Tv Ov, Oi.length ≤ Ov.length → (∀ p ob, k.spot = some (p, ob) → Ov[p]? = Oi[p]?) → (∀ j f p ob, waits o j = true → gs[j]? = some f → f.spot = some (p, ob) → Ov[p]? = some ob) → (∀ q, memB q keep = true → Ov[q]? = Oi[q]?) →
        WpL P n m G false ops [o] ⟨F ++ (T0 ++ Tv), O ++ Ov⟩ (Only ⟨(d, V) :: (F ++ (T0 ++ Tv)), O ++ k.run Ov⟩)) (r : HeadQ P n m G ops T0 O Oi keep (fs ++ [(d, V)]) (gs ++ [k]) l out ks) : HeadQ P n m G ops T0 O Oi keep fs gs (o :: l) out ks
section
variable {P : Program} {n m : Nat} {G : Ctx} {ops : Array Oper} {T0 : List (Nat × AV)} {O Oi : List AObj} {keep : List Nat}
theorem HeadQ.pre {fs gs l out ks} (h : HeadQ P n m G ops T0 O Oi keep fs gs l out ks) : ∃ r s, out = fs ++ r ∧ r.length = l.length ∧ ks = gs ++ s ∧ s.length = l.length := by
  induction h with
  | nil => exact ⟨[], [], by simp, rfl, by simp, rfl⟩
  | @cons fs out gs o l d V F ks k _ _ _ _ ih => obtain ⟨r, s, h1, h2, h3, h4⟩ := ih; exact ⟨(d, V) :: r, k :: s, by rw [h1]; simp, by simp [h2], by rw [h3]; simp, by simp [h4]⟩
theorem HeadQ.at {fs gs l out ks} (h : HeadQ P n m G ops T0 O Oi keep fs gs l out ks) (hg : gs.length = fs.length) : ∀ {j : Nat} {o : Oper}, l[j]? = some o → ∃ d V k, o.dst = some d ∧ out[fs.length + j]? = some (d, V) ∧ ks[fs.length + j]? = some k ∧
    ∀ Tv Ov, Oi.length ≤ Ov.length → (∀ p ob, k.spot = some (p, ob) → Ov[p]? = Oi[p]?) → (∀ i f p ob, waits o i = true → (ks.take (fs.length + j))[i]? = some f → f.spot = some (p, ob) → Ov[p]? = some ob) → (∀ q, memB q keep = true → Ov[q]? = Oi[q]?) →
      WpL P n m G false ops [o] ⟨deps (out.take (fs.length + j)) o ++ (T0 ++ Tv), O ++ Ov⟩ (Only ⟨(d, V) :: (deps (out.take (fs.length + j)) o ++ (T0 ++ Tv)), O ++ k.run Ov⟩) := by
  induction h with
  | nil => intro j o h; simp at h
  | @cons fs out gs o l d V F ks k hd hF h r ih =>
    intro j o' hj
    obtain ⟨r', s', h1, h2, h3, h4⟩ := r.pre
    cases j with
    | zero =>
      simp only [List.getElem?_cons_zero, Option.some.injEq] at hj
      subst hj
      refine ⟨d, V, k, hd, by rw [h1]; simp, by rw [h3]; simp [hg], ?_⟩
      have : out.take (fs.length + 0) = fs := by rw [h1, Nat.add_zero, List.append_assoc, List.take_left']; rfl
      have e2 : ks.take (fs.length + 0) = gs := by rw [h3, Nat.add_zero, List.append_assoc, List.take_left']; exact hg
      rw [this, hF, e2]; exact h
    | succ j =>
      have := ih (by simp [hg]) (j := j) (o := o') (by simpa using hj)
      rw [List.length_append, List.length_singleton, Nat.add_assoc, Nat.add_comm 1 j] at this
      simpa using this
structure RoomAt (ks : List Fil) (Oi : List AObj) (k : Nat) (listed : Array Bool) (Ov : List AObj) : Prop where
  len : Ov.length = Oi.length + ((List.range k).filter fun i => listed.getD i false && ((ks[i]?.map Fil.isPut).getD false)).length
  full : ∀ i f p ob, i < k → ks[i]? = some f → f.spot = some (p, ob) → listed.getD i false = true → Ov[p]? = some ob
  room : ∀ i f p ob, i < k → ks[i]? = some f → f.spot = some (p, ob) → listed.getD i false = false → Ov[p]? = Oi[p]?
  rest : ∀ q, q < Oi.length → (∀ i f p ob, i < k → ks[i]? = some f → f.spot = some (p, ob) → p ≠ q) → Ov[q]? = Oi[q]?
  dead : ∀ q, Oi.length ≤ q → q < Ov.length → Ov[q]? = some deadO
def isPut (ks : List Fil) (i : Nat) : Bool := (ks[i]?.map Fil.isPut).getD false
structure RoomOk (ks : List Fil) (c k : Nat) : Prop where
  lt : ∀ i f p ob, i < k → ks[i]? = some f → f.spot = some (p, ob) → p < c
  inj : ∀ i j f g p q ob oc, i < k → j < k → ks[i]? = some f → ks[j]? = some g → f.spot = some (p, ob) → g.spot = some (q, oc) → p = q → i = j
theorem count_set {f : Nat → Bool} {k i : Nat} {listed : Array Bool} (hik : i < k) (hs : i < listed.size) (hu : listed.getD i false = false) : ((List.range k).filter fun j => (listed.setIfInBounds i true).getD j false && f j).length = ((List.range k).filter fun j => listed.getD j false && f j).length + (if f i = true then 1 else 0) := by
  have hself : (listed.setIfInBounds i true).getD i false = true := by simp [hs]
  have key : ∀ (L : List Nat), L.Nodup → i ∈ L → (L.filter fun j => (listed.setIfInBounds i true).getD j false && f j).length = (L.filter fun j => listed.getD j false && f j).length + (if f i = true then 1 else 0) := by
    intro L
    induction L with
    | nil => intro _ h; cases h
    | cons x L ih =>
      intro hnd hm
      rw [List.nodup_cons] at hnd
      by_cases hx : x = i
      · subst hx
        have hsame : (L.filter fun j => (listed.setIfInBounds x true).getD j false && f j) = L.filter fun j => listed.getD j false && f j := by
          refine List.filter_congr fun j hj => ?_
          rw [getD_set_ne false (by rintro rfl; exact hnd.1 hj)]
        rw [List.filter_cons, List.filter_cons, hsame, hself, hu]
        cases f x <;> simp
      · have hm' : i ∈ L := by
          rcases List.mem_cons.1 hm with h | h
          · exact (hx h.symm).elim
          · exact h
        have := ih hnd.2 hm'
        rw [List.filter_cons, List.filter_cons, getD_set_ne false (Ne.symm hx)]
        split <;> (try simp only [List.length_cons]) <;> omega
  exact key _ List.nodup_range (List.mem_range.2 hik)
theorem RoomAt.step {ks : List Fil} {k i : Nat} {listed : Array Bool} {Ov : List AObj} {f : Fil} (h : RoomAt ks Oi k listed Ov) (ok : RoomOk ks Oi.length k) (hik : i < k) (hs : i < listed.size) (hu : listed.getD i false = false) (hf : ks[i]? = some f) :
    RoomAt ks Oi k (listed.setIfInBounds i true) (f.run Ov) := by
  have hself : (listed.setIfInBounds i true).getD i false = true := by simp [hs]
  have hcnt := count_set (f := isPut ks) hik hs hu
  have hlen := h.len
  have e0 : ∀ L : Array Bool, ((List.range k).filter fun i => L.getD i false && ((ks[i]?.map Fil.isPut).getD false)).length = ((List.range k).filter fun i => L.getD i false && isPut ks i).length := fun _ => rfl
  rw [e0] at hlen
  have hp : isPut ks i = f.isPut := by unfold isPut; rw [hf]; rfl
  rw [hp] at hcnt
  have hrl : (f.run Ov).length = Ov.length + (if f.isPut = true then 1 else 0) := by cases f <;> simp [Fil.run, Fil.isPut]
  have hle : Oi.length ≤ Ov.length := by omega
  -- a place that is not the operation's own keeps what it has
  have hoth : ∀ q, q < Ov.length → (∀ p ob, f.spot = some (p, ob) → p ≠ q) → (f.run Ov)[q]? = Ov[q]? := by
    intro q hq hne
    cases f with
    | none => rfl
    | put p ob =>
      have := hne p ob rfl
      unfold Fil.run
      rw [List.getElem?_append_left (by simpa using hq), List.getElem?_set, if_neg this]
    | step p ob =>
      have := hne p ob rfl
      unfold Fil.run
      rw [List.getElem?_set, if_neg this]
  have hown : ∀ p ob, f.spot = some (p, ob) → (f.run Ov)[p]? = some ob := by
    intro p ob e
    have hpc := ok.lt i f p ob hik hf e
    cases f with
    | none => cases e
    | put p' ob' =>
      cases e
      unfold Fil.run
      rw [List.getElem?_append_left (by rw [List.length_set]; omega), List.getElem?_set_self (by omega)]
    | step p' ob' =>
      cases e
      unfold Fil.run
      rw [List.getElem?_set_self (by omega)]
  refine ⟨by rw [e0, hrl, hcnt, hlen]; split <;> omega, fun j g q oc hj hk hsp hl => ?_, fun j g q oc hj hk hsp hl => ?_, fun q hq hno => ?_, fun q h1 h2 => ?_⟩
  · by_cases e : i = j
    · subst e; rw [hf] at hk; cases hk; exact hown q oc hsp
    · rw [getD_set_ne false e] at hl
      have hqc := ok.lt j g q oc hj hk hsp
      rw [hoth q (by omega) (fun p ob e1 e2 => e (ok.inj i j f g p q ob oc hik hj hf hk e1 hsp e2))]
      exact h.full j g q oc hj hk hsp hl
  · have e : i ≠ j := by rintro rfl; rw [hself] at hl; cases hl
    rw [getD_set_ne false e] at hl
    have hqc := ok.lt j g q oc hj hk hsp
    rw [hoth q (by omega) (fun p ob e1 e2 => e (ok.inj i j f g p q ob oc hik hj hf hk e1 hsp e2))]
    exact h.room j g q oc hj hk hsp hl
  · rw [hoth q (by omega) (fun p ob e1 => hno i f p ob hik hf e1)]
    exact h.rest q hq hno
  · rcases Nat.lt_or_ge q Ov.length with h3 | h3
    · rw [hoth q h3 (fun p ob e1 => by have := ok.lt i f p ob hik hf e1; omega)]
      exact h.dead q h1 h3
    · cases f with
      | none => exact absurd h2 (by simp [Fil.run]; omega)
      | step p ob => exact absurd h2 (by simp [Fil.run]; omega)
      | put p ob =>
        simp [Fil.run] at h2
        have e : q = Ov.length := by omega
        subst e
        unfold Fil.run
        rw [List.getElem?_append_right (by simp)]; simp
theorem any_order {out : List (Nat × AV)} {k g : Nat} {GP : Array Bool → Act → World → Prop} (H : Heads ops T0 out k) (hks : k ≤ ops.size) (hs : k < ops.size → Region.sinkB .any ops k = true ∧ Region.chainB .any ops k = true) {Q : Exit → Act → World → Prop}
    (hstep : ∀ {listed : Array Bool} (inv : HeadInv .any ops k listed) {i : Nat} (hi : i ∈ Region.ready .any ops listed) (hik : i < k) {a w} (hg : GP listed a w) {K : Act → World → Prop} (hK : ∀ a' w', GP (listed.setIfInBounds i true) a' w' → K a' w'), wpOp P ops Q i K a w)
    (hT : ∀ listed a w, HeadInv .any ops k listed → (∀ i, i < k → listed.getD i false = true) → GP listed a w → wpAny P .any ops Q g listed a w) :
    ∀ (f : Nat) (listed : Array Bool) (a : Act) (w : World), HeadInv .any ops k listed → ((List.range k).filter fun i => !listed.getD i false).length = f → GP listed a w →
      wpAny P .any ops Q (f + g) listed a w := by
  intro f
  induction f with
  | zero =>
    intro listed a w inv hc hg
    rw [Nat.zero_add]
    refine hT listed a w inv (fun i hi => ?_) hg
    have h0 := List.eq_nil_of_length_eq_zero hc
    cases hl : listed.getD i false with
    | true => rfl
    | false =>
      have : i ∈ (List.range k).filter fun i => !listed.getD i false := by simp [List.mem_filter, hi]; simpa using hl
      rw [h0] at this; cases this
  | succ f ih =>
    intro listed a w inv hc hg
    have hgetD : ∀ i, i < k → listed.getD i false = false → listed.getD i true = false := fun i hi h => getD_in (by rw [inv.size]; omega) h
    -- the least that is not listed is ready
    have hex : ∃ i, i < k ∧ listed.getD i false = false := by
      cases hl : (List.range k).filter fun i => !listed.getD i false with
      | nil => rw [hl] at hc; simp at hc
      | cons i r =>
        have : i ∈ (List.range k).filter fun i => !listed.getD i false := by rw [hl]; simp
        rw [List.mem_filter, List.mem_range] at this
        exact ⟨i, this.1, by simpa using this.2⟩
    obtain ⟨i0, hi0, hl0⟩ := hex
    have least : ∀ d i, i = d → i < k → listed.getD i false = false → ∃ j, j < k ∧ j ∈ Region.ready .any ops listed := by
      intro d
      induction d using Nat.strongRecOn with
      | _ d ihd =>
        rintro i rfl hi hl
        by_cases hh : ∃ j, j < i ∧ listed.getD j false = false
        · obtain ⟨j, hj, hjl⟩ := hh
          exact ihd j hj j rfl (by omega) hjl
        · have hlt : i < ops.size := by omega
          refine ⟨i, hi, mem_ready.2 ⟨hgetD i hi hl, ops[i], by simp [hlt], fun e he hb => ?_⟩⟩
          have hlt' := H.back i hi _ (by simp [hlt]) e he hb
          cases hx : listed.getD e.on false with
          | true => rfl
          | false => exact (hh ⟨_, hlt', hx⟩).elim
    obtain ⟨j0, hj0, hr0⟩ := least i0 i0 rfl hi0 hl0
    rw [show f + 1 + g = (f + g) + 1 by omega]
    refine ⟨fun h => (by rw [h] at hr0; cases hr0), fun i hi => ?_⟩
    have hik : i < k := by
      rcases Nat.lt_or_ge i k with h | h
      · exact h
      · by_cases hk : k < ops.size
        · exact absurd hi (tail_waits (hs hk).1 (hs hk).2 hk inv _ i0 rfl hi0 (hgetD i0 hi0 hl0) i h)
        · obtain ⟨_, o, ho, _⟩ := mem_ready.1 hi
          have := (Array.getElem?_eq_some_iff.1 ho).1
          omega
    have hiu : listed.getD i false = false := getD_both (mem_ready.1 hi).1
    refine hstep inv hi hik hg fun a' w' hg' => ih _ _ _ (inv.set hi hik) ?_ hg'
    have key : ∀ (L : List Nat), L.Nodup → i ∈ L → (L.filter fun j => !(listed.setIfInBounds i true).getD j false).length + 1 = (L.filter fun j => !listed.getD j false).length := by
      intro L
      have hself : (listed.setIfInBounds i true).getD i false = true := by
        have : i < listed.size := by rw [inv.size]; omega
        simp [this]
      induction L with
      | nil => intro _ h; cases h
      | cons x L ihL =>
        intro hnd hm
        rw [List.nodup_cons] at hnd
        by_cases hx : x = i
        · subst hx
          have hsame : (L.filter fun j => !(listed.setIfInBounds x true).getD j false) = L.filter fun j => !listed.getD j false := by
            refine List.filter_congr fun j hj => ?_
            rw [getD_set_ne false (by rintro rfl; exact hnd.1 hj)]
          rw [List.filter_cons, List.filter_cons, hsame, hself, hiu]; simp
        · have hm' : i ∈ L := by
            rcases List.mem_cons.1 hm with h | h
            · exact (hx h.symm).elim
            · exact h
          have := ihL hnd.2 hm'
          rw [List.filter_cons, List.filter_cons, getD_set_ne false (Ne.symm hx)]
          split <;> (try simp only [List.length_cons]) <;> omega
    have := key (List.range k) List.nodup_range (List.mem_range.2 hik)
    omega
theorem RelAt.room {n m G S ι F T O a w} (hr : RelAt n m G S ι F ⟨T, O⟩ a w) : RelAt n m G S (upd ι O.length none) (upd F O.length []) ⟨T, O ++ [roomO]⟩ a w := by
  have hlat : Later S w ι O S w (upd ι O.length none) (O ++ [roomO]) := by
    refine ⟨fun _ h => h, fun _ _ => rfl, fun id ob' h => ?_⟩
    have hlt : id < O.length := (List.getElem?_eq_some_iff.1 h).1
    exact ⟨ob', by rw [List.getElem?_append_left hlt]; exact h, .inr ⟨rfl, rfl, upd_other _ _ (by omega)⟩⟩
  refine ⟨hr.defers, hr.size, fun t' => (hr.tmps t').mono hlat (by simp), ⟨fun id ob' h => ?_, fun id h => ?_, fun i j hi hj hij b hb => ?_⟩, fun id h b hb => ?_, hr.base, hr.stable, hr.keeps, fun id h => ?_, ?_⟩
  · rcases getElem?_snoc O _ ob' id h with ⟨hlt, h⟩ | ⟨rfl, rfl⟩
    · rw [upd_other _ _ (by omega), upd_other _ _ (by omega)]
      have ho := hr.objs.obj id ob' h
      unfold ObjAt at ho ⊢
      cases hs : ι id with
      | none => rw [hs] at ho; exact ho
      | some p =>
        obtain ⟨b, k⟩ := p
        rw [hs] at ho
        obtain ⟨cur', t', fz', f', h1, h2, h3, h4, h5, h6, h7⟩ := ho
        exact ⟨cur', t', fz', f', h1, h2, h3, h4, h5, h6, h7.mono hlat fun _ _ => rfl⟩
    · rw [upd_same, upd_same]; exact ⟨rfl, rfl⟩
  · simp only [List.length_append, List.length_cons, List.length_nil] at h
    by_cases he : id = O.length
    · subst he; rw [upd_same]; simp
    · rw [upd_other _ _ he]; exact hr.objs.nodup id (by show id < O.length; omega)
  · simp only [List.length_append, List.length_cons, List.length_nil] at hi hj
    by_cases h1 : i = O.length
    · subst h1; rw [upd_same] at hb; simp at hb
    · rw [upd_other _ _ h1] at hb
      by_cases h2 : j = O.length
      · subst h2; rw [upd_same]; simp
      · rw [upd_other _ _ h2]; exact hr.objs.apart i j (by show i < O.length; omega) (by show j < O.length; omega) hij b hb
  · simp only [List.length_append, List.length_cons, List.length_nil] at h
    by_cases he : id = O.length
    · subst he; rw [upd_same] at hb; simp at hb
    · rw [upd_other _ _ he] at hb; exact hr.foot id (by show id < O.length; omega) b hb
  · have hm : m ≤ O.length := hr.mle
    rw [upd_other _ _ (by omega)]; exact hr.spots id h
  · have hm : m ≤ O.length := hr.mle
    show m ≤ (O ++ [_]).length
    simp; omega
theorem Weak.rooms {T : List (Nat × AV)} : ∀ (c : Nat) (O : List AObj), Weak m ⟨T, O⟩ ⟨T, O ++ List.replicate c roomO⟩
  | 0, O => by simp; exact fun n G a w h => h
  | c + 1, O => by
    have h1 : Weak m ⟨T, O⟩ ⟨T, O ++ [roomO]⟩ := by
      rintro n' G' a w ⟨S, ι, F, hr⟩
      exact ⟨S, _, _, hr.room⟩
    have h2 := Weak.rooms (T := T) c (O ++ [roomO])
    rw [List.append_assoc] at h2
    exact h1.trans h2
theorem cnt_some : ∀ (n k : Nat), cnt n k = some (n + k)
  | 0, k => by simp [cnt]
  | n + 1, k => by rw [cnt, cnt_some n (k + 1)]; congr 1; omega
theorem fill_eq (Ov : List AObj) {p : Nat} (x : AObj) : (O ++ Ov).set (O.length + p) x ++ [deadO] = O ++ (Ov.set p x ++ [deadO]) := by
  rw [List.set_append_right _ _ (by omega), Nat.add_sub_cancel_left, List.append_assoc]
theorem fill_at {Ov : List AObj} {p : Nat} {x : AObj} (h : Ov[p]? = some x) : (O ++ Ov)[O.length + p]? = some x := by
  rw [List.getElem?_append_right (by omega), Nat.add_sub_cancel_left]; exact h
theorem WpL.putNil {T : List (Nat × AV)} {Ov : List AObj} {p d off len : Nat} {ob : AObj} (hp : Ov[p]? = some roomO) (hm : m ≤ O.length + p) (hob : ob.ep = 0) (hst : ob.cells.all AV.still = true) :
    WpL P n m G false ops [] ⟨(d, .own (O ++ Ov).length 0 off len) :: T, O ++ Ov ++ [ob]⟩ (Only ⟨(d, .own (O.length + p) 1 off len) :: T, O ++ (Fil.put p ob.put1).run Ov⟩) := by
  refine WpL.weak (Weak.fill (j := O.length + p) (fill_at hp) hm rfl hob hst) ?_
  refine WpL.nil (Only.mk ?_)
  rw [fill_eq]; rfl
def fillAll : List Fil → List AObj → List AObj
  | [], Oi => Oi
  | f :: ks, Oi => fillAll ks (match f.spot with | some (p, ob) => Oi.set p ob | none => Oi)
def spots : List Fil → List Nat
  | [] => []
  | f :: ks => match f.spot with | some (p, _) => p :: spots ks | none => spots ks
theorem memB_false {p : Nat} : ∀ {l : List Nat}, memB p l = false → p ∉ l
  | [], _ => by simp
  | q :: l, h => by
    rw [memB, Bool.or_eq_false_iff] at h
    have h2 := memB_false h.2
    have h1 : p ≠ q := by rintro rfl; have := h.1; simp at this
    simp [h1, h2]
def keepB (c : Nat) (sp : List Nat) : List Nat → Bool
  | [] => true
  | q :: l => Nat.blt q c && !memB q sp && keepB c sp l
end
end Go.Abs


namespace Go.Abs
open Go
section
variable {P : Program} {n m : Nat} {G : Ctx} {T0 : List (Nat × AV)} {O : List AObj}
end
end Go.Abs


namespace Go.Abs
open Go
def RollN (P : Program) (n m : Nat) (G : Ctx) (c : Code) (Q : Exit → St → Prop) : Nat → St → Prop
  | 0, _ => False
  | k + 1, σ => WpA P n m G c σ (Seq (RollN P n m G c Q k) Q)
section
variable {P : Program} {n m : Nat} {G : Ctx} {c : Code} {Q : Exit → St → Prop} {σ : St}
theorem RollN.s {k : Nat} (h : WpA P n m G c σ (Seq (RollN P n m G c Q k) Q)) : RollN P n m G c Q (k + 1) σ := h
end
end Go.Abs


namespace Go.Abs
open Go
inductive ResH (tab : List (Nat × Ty)) (OO : List AObj) (r : AV) : Array ResultVar → St → Prop
  | zero {T} : r = .tup [] → ResH tab OO r #[] ⟨T, OO⟩
  | one {r1 T} : ResV tab T OO r1 r → ResH tab OO r #[r1] ⟨T, OO⟩
  | two {r1 r2 V1 V2 T} : ResV tab T OO r1 V1 → ResV tab T OO r2 V2 → r = .tup [V1, V2] → ResH tab OO r #[r1, r2] ⟨T, OO⟩
def FinH (tab : List (Nat × Ty)) (rs : Array ResultVar) (OO : List AObj) (r : AV) : Exit → St → Prop
  | .ret, σ => ResH tab OO r rs σ
  | .normal, σ => ResH tab OO r rs σ
  | _, _ => False
section
variable {P : Program} {n m : Nat} {G : Ctx} {T : List (Nat × AV)} {O : List AObj} {Q : Exit → St → Prop} {ops : Array Oper} {l : List Oper} {d : Nat} {tt : TypeId} {pos : String} {after : Array Edge} {tab : List (Nat × Ty)}
theorem FinH.ret {rs : Array ResultVar} {OO : List AObj} {r : AV} {σ : St} (h : ResH tab OO r rs σ) : FinH tab rs OO r .ret σ := h
theorem FinH.normal {rs : Array ResultVar} {OO : List AObj} {r : AV} {σ : St} (h : ResH tab OO r rs σ) : FinH tab rs OO r .normal σ := h
end
inductive HandH (O : List AObj) (hs0 : List Nat) : List Nat → List AObj → Prop
  | nil : HandH O hs0 [] []
  | still {id hs ob mb M} : O[id]? = some ob → ob.cells = mb.cells → mb.cells.all AV.still = true → mb.ep = 0 → mb.size = ob.size → (mb.ty = none ∨ mb.ty = ob.ty) → HandH O hs0 hs M → HandH O hs0 (id :: hs) (mb :: M)
  | hand {id hs ob mb M} : O[id]? = some ob → Hand O hs0 ob.cells mb.cells → ob.cells.all AV.nofre = true → mb.ep = 0 → mb.size = ob.size → (mb.ty = none ∨ mb.ty = ob.ty) → HandH O hs0 hs M → HandH O hs0 (id :: hs) (mb :: M)
theorem HandH.at {O hs0 hs M} (h : HandH O hs0 hs M) : hs.length = M.length ∧ ∀ (j : Nat) (mb : AObj), M[j]? = some mb → ∃ id ob, hs[j]? = some id ∧ O[id]? = some ob ∧ ((ob.cells = mb.cells ∧ mb.cells.all AV.still = true) ∨ (Hand O hs0 ob.cells mb.cells ∧ ob.cells.all AV.nofre = true)) ∧ mb.ep = 0 ∧ mb.size = ob.size ∧ (mb.ty = none ∨ mb.ty = ob.ty) := by
  induction h with
  | nil => exact ⟨rfl, by simp⟩
  | still h1 h2 h3 h4 h5 h6 _ ih =>
    refine ⟨by simp [ih.1], fun j mb hj => ?_⟩
    cases j with
    | zero => simp at hj; subst hj; exact ⟨_, _, by simp, h1, .inl ⟨h2, h3⟩, h4, h5, h6⟩
    | succ j => simpa using ih.2 j mb (by simpa using hj)
  | hand h1 h2 h3 h4 h5 h6 _ ih =>
    refine ⟨by simp [ih.1], fun j mb hj => ?_⟩
    cases j with
    | zero => simp at hj; subst hj; exact ⟨_, _, by simp, h1, .inr ⟨h2, h3⟩, h4, h5, h6⟩
    | succ j => simpa using ih.2 j mb (by simpa using hj)
inductive Back (O : List AObj) (hs : List Nat) (m base : Nat) : List AV → List AV → Prop
  | nil : Back O hs m base [] []
  | loc {V vs us} : V.still = true → Loc [V] → Back O hs m base vs us → Back O hs m base (V :: vs) (V :: us)
  | old {j off len id ob vs us} : j < m → hs[j]? = some id → O[id]? = some ob → Back O hs m base vs us → Back O hs m base (.own j 0 off len :: vs) (.own id ob.ep off len :: us)
  | new {j i ep off len vs us} : m ≤ j → i = j - m + base → Back O hs m base vs us → Back O hs m base (.own j ep off len :: vs) (.own i ep off len :: us)
  | pold {j off id ob vs us} : j < m → hs[j]? = some id → O[id]? = some ob → Back O hs m base vs us → Back O hs m base (.ptr j 0 off :: vs) (.ptr id ob.ep off :: us)
  | pnew {j i ep off vs us} : m ≤ j → i = j - m + base → Back O hs m base vs us → Back O hs m base (.ptr j ep off :: vs) (.ptr i ep off :: us)
  | agg {ds es vs us} : Back O hs m base ds es → Back O hs m base vs us → Back O hs m base (.agg ds :: vs) (.agg es :: us)
  | tup {ds es vs us} : Back O hs m base ds es → Back O hs m base vs us → Back O hs m base (.tup ds :: vs) (.tup es :: us)
theorem Back.all {O : List AObj} {hs : List Nat} {m base : Nat} {cs cs' : List AV} (he : cs = cs') (h1 : cs'.all AV.still = true) (h2 : Loc cs') : Back O hs m base cs cs' := by
  subst he
  induction cs with
  | nil => exact .nil
  | cons c cs ih =>
    rw [List.all_cons, Bool.and_eq_true] at h1
    cases h2 with
    | any r => exact .loc rfl (.any .nil) (ih h1.2 r)
    | sc r => exact .loc rfl (.sc .nil) (ih h1.2 r)
    | nilS r => exact .loc rfl (.nilS .nil) (ih h1.2 r)
    | imm0 r => exact .loc rfl (.imm0 .nil) (ih h1.2 r)
    | own r => simp [AV.still] at h1
    | fre a r => exact .loc rfl (.fre a .nil) (ih h1.2 r)
    | agg => simp [AV.still] at h1
    | tup => simp [AV.still] at h1
    | ifc a r => exact .loc h1.1 (.ifc a .nil) (ih h1.2 r)
theorem Back.rel {O OO O3 : List AObj} {hs : List Nat} {m base : Nat} {S' S3 : Nat → Prop} {w' ι' ι3} (hold : ∀ (j id : Nat) (ob : AObj), j < m → hs[j]? = some id → O[id]? = some ob → ∃ oj o3, OO[j]? = some oj ∧ oj.ep = 0 ∧ O3[id]? = some o3 ∧ o3.ep = ob.ep ∧ o3.size = oj.size ∧ ι3 id = ι' j)
    (hnew : ∀ (j : Nat) (oj : AObj), m ≤ j → OO[j]? = some oj → ∃ o3, O3[j - m + base]? = some o3 ∧ o3.ep = oj.ep ∧ o3.size = oj.size ∧ ι3 (j - m + base) = ι' j) {vs us} (h : Back O hs m base vs us) :
    ∀ {xs f}, LRel S' w' ι' OO vs xs f → LRel S3 w' ι3 O3 us xs f := by
  induction h with
  | nil => intro xs f hl; cases hl; exact .nil
  | loc hs1 hL _ ih =>
    intro xs f hl
    obtain ⟨v, vs', f1, f2, rfl, hv, hr, rfl⟩ := hl.uncons
    exact LRel.cons (Loc.rel hL (still_any (S' := S') hv hs1 O3 (fun _ h => h) (fun _ _ => rfl) (fun _ _ => rfl))) (ih hr)
  | @old j off len id ob vs us hj hjs ho _ ih =>
    intro xs f hl
    obtain ⟨oj, o3, e1, e2, e3, e4, e5, e6⟩ := hold j id ob hj hjs ho
    cases hl with
    | own q1 q2 q3 r =>
      rw [e1] at q1; cases q1
      exact .own e3 (by omega) (fun _ => by rw [e6, e5]; exact q3 e2.symm) (ih r)
  | @new j i ep off len vs us hj hi _ ih =>
    intro xs f hl
    subst hi
    cases hl with
    | own q1 q2 q3 r =>
      obtain ⟨o3, e1, e2, e3, e4⟩ := hnew j _ hj q1
      exact .own e1 (by omega) (fun e => by rw [e4, e3]; exact q3 (by omega)) (ih r)
  | @pold j off id ob vs us hj hjs ho _ ih =>
    intro xs f hl
    obtain ⟨oj, o3, e1, e2, e3, e4, e5, e6⟩ := hold j id ob hj hjs ho
    cases hl with
    | ptr q1 q2 q3 r =>
      rw [e1] at q1; cases q1
      exact .ptr e3 (by omega) (fun _ => by rw [e6]; exact q3 e2.symm) (ih r)
  | @pnew j i ep off vs us hj hi _ ih =>
    intro xs f hl
    subst hi
    cases hl with
    | ptr q1 q2 q3 r =>
      obtain ⟨o3, e1, e2, e3, e4⟩ := hnew j _ hj q1
      exact .ptr e1 (by omega) (fun e => by rw [e4]; exact q3 (by omega)) (ih r)
  | agg _ _ ih1 ih2 =>
    intro xs f hl
    obtain ⟨v, vs', f1, f2, rfl, hv, hr, rfl⟩ := hl.uncons
    obtain ⟨us', rfl, ha⟩ := LRel.agg_inv hv
    exact .agg (ih1 ha) (ih2 hr)
  | tup _ _ ih1 ih2 =>
    intro xs f hl
    obtain ⟨v, vs', f1, f2, rfl, hv, hr, rfl⟩ := hl.uncons
    obtain ⟨us', rfl, ha⟩ := LRel.tup_inv hv
    exact .tup (ih1 ha) (ih2 hr)
theorem Back.len {O : List AObj} {hs : List Nat} {m base : Nat} {vs us : List AV} (h : Back O hs m base vs us) : us.length = vs.length := by
  induction h <;> simp_all
inductive AftO (O : List AObj) (hs : List Nat) (m base : Nat) (OO : List AObj) : Nat → List AObj → List AObj → Prop
  | nil {k} : AftO O hs m base OO k [] []
  | keep {k ob os us} : findN hs k 0 = none → AftO O hs m base OO (k + 1) os us → AftO O hs m base OO k (ob :: os) (ob :: us)
  | turn {k c e s t os us j cj sj tj cs} : findN hs k 0 = some j → j < m → OO[j]? = some ⟨cj, 0, sj, tj⟩ → sj = s → Back O hs m base cj cs → AftO O hs m base OO (k + 1) os us → AftO O hs m base OO k (⟨c, e, s, t⟩ :: os) (⟨cs, e, sj, tj⟩ :: us)
  | dead {k c e s t os us j} : findN hs k 0 = some j → m ≤ j → AftO O hs m base OO (k + 1) os us → AftO O hs m base OO k (⟨c, e, s, t⟩ :: os) (⟨[], e + 1, 0, none⟩ :: us)
inductive AftN (O : List AObj) (hs : List Nat) (m base : Nat) : List AObj → List AObj → Prop
  | nil : AftN O hs m base [] []
  | cons {c e s t cs os us} : Back O hs m base c cs → AftN O hs m base os us → AftN O hs m base (⟨c, e, s, t⟩ :: os) (⟨cs, e, s, t⟩ :: us)
theorem AftN.at {O hs m base os us} (h : AftN O hs m base os us) : us.length = os.length ∧ ∀ (i : Nat) (oj : AObj), os[i]? = some oj → ∃ cs, us[i]? = some ⟨cs, oj.ep, oj.size, oj.ty⟩ ∧ Back O hs m base oj.cells cs := by
  induction h with
  | nil => exact ⟨rfl, by simp⟩
  | @cons c e s t cs os us hb _ ih =>
    refine ⟨by simp [ih.1], fun i oj hi => ?_⟩
    cases i with
    | zero => simp at hi; subst hi; exact ⟨cs, by simp, hb⟩
    | succ i => simpa using ih.2 i oj (by simpa using hi)
theorem AftO.at {O hs m base OO k os us} (h : AftO O hs m base OO k os us) : us.length = os.length ∧ ∀ (i : Nat) (ob : AObj), os[i]? = some ob →
    (findN hs (k + i) 0 = none ∧ us[i]? = some ob) ∨ (∃ j oj cs, findN hs (k + i) 0 = some j ∧ j < m ∧ OO[j]? = some oj ∧ oj.ep = 0 ∧ oj.size = ob.size ∧ us[i]? = some ⟨cs, ob.ep, oj.size, oj.ty⟩ ∧ Back O hs m base oj.cells cs) ∨
      (∃ j, findN hs (k + i) 0 = some j ∧ m ≤ j ∧ us[i]? = some ⟨[], ob.ep + 1, 0, none⟩) := by
  induction h with
  | nil => exact ⟨rfl, by simp⟩
  | @keep k ob os us hf _ ih =>
    refine ⟨by simp [ih.1], fun i o hi => ?_⟩
    cases i with
    | zero => simp at hi; subst hi; exact .inl ⟨hf, by simp⟩
    | succ i => have := ih.2 i o (by simpa using hi); rw [show k + 1 + i = k + (i + 1) by omega] at this; simpa using this
  | @turn k c e s t os us j cj sj tj cs hf hj hoj hsz hb _ ih =>
    refine ⟨by simp [ih.1], fun i o hi => ?_⟩
    cases i with
    | zero => simp at hi; subst hi; exact .inr (.inl ⟨j, _, cs, hf, hj, hoj, rfl, hsz, by simp, hb⟩)
    | succ i => have := ih.2 i o (by simpa using hi); rw [show k + 1 + i = k + (i + 1) by omega] at this; simpa using this
  | @dead k c e s t os us j hf hj _ ih =>
    refine ⟨by simp [ih.1], fun i o hi => ?_⟩
    cases i with
    | zero => simp at hi; subst hi; exact .inr (.inr ⟨j, hf, hj, by simp⟩)
    | succ i => have := ih.2 i o (by simpa using hi); rw [show k + 1 + i = k + (i + 1) by omega] at this; simpa using this
section
variable {P : Program} {n m : Nat} {G : Ctx} {T : List (Nat × AV)} {O : List AObj} {Q : Exit → St → Prop} {ops : Array Oper} {l : List Oper} {tt : TypeId} {pos : String} {after : Array Edge} {tab : List (Nat × Ty)}
end
end Go.Abs


namespace Go.Abs
open Go
inductive Rz (O O' : List AObj) (j : Nat) : List AV → List AV → Prop
  | nil : Rz O O' j [] []
  | any {V vs us} : Rz O O' j vs us → Rz O O' j (V :: vs) (.any :: us)
  | keep {V V' vs us} : V = V' → V'.still = true → Rz O O' j vs us → Rz O O' j (V :: vs) (V' :: us)
  | own {id ep ep' off len len' ob ob' vs us} : O[id]? = some ob → O'[id]? = some ob' → ob.ep = ep → ob'.ep = ep' → ob'.size = ob.size → len = len' → Rz O O' j vs us → Rz O O' j (.own id ep off len :: vs) (.own id ep' off len' :: us)
  | ptr {id ep ep' off ob ob' vs us} : O[id]? = some ob → O'[id]? = some ob' → ob.ep = ep → ob'.ep = ep' → Rz O O' j vs us → Rz O O' j (.ptr id ep off :: vs) (.ptr id ep' off :: us)
  | agg {ds es vs us} : Rz O O' j ds es → Rz O O' j vs us → Rz O O' j (.agg ds :: vs) (.agg es :: us)
  | nilO {ob' k len vs us} : O'[k]? = some ob' → k = j → ob'.ep = 0 → 0 = len → Rz O O' j vs us → Rz O O' j (.nilS :: vs) (.own k 0 0 len :: us)
theorem Rz.same {O O' : List AObj} {j : Nat} {cs cs' : List AV} (h : cs = cs') (hs : cs'.all AV.still = true) : Rz O O' j cs cs' := by
  subst h
  induction cs with
  | nil => exact .nil
  | cons c cs ih =>
    simp only [List.all_cons, Bool.and_eq_true] at hs
    exact .keep rfl hs.1 (ih hs.2)
theorem Rz.rel {O O' : List AObj} {j : Nat} {S w} {ι ι' : Nat → Spot} (hj : ι' j = none) (hι : ∀ id, id < O.length → ι' id = ι id) {vs us : List AV} (h : Rz O O' j vs us) : ∀ {xs f}, LRel S w ι O vs xs f → ∃ f', LRel S w ι' O' us xs f' ∧ (∀ b ∈ f', b ∈ f) ∧ (f.Nodup → f'.Nodup) := by
  induction h with
  | nil => intro xs f hl; cases hl; exact ⟨[], .nil, by simp, by simp⟩
  | any _ ih =>
    intro xs f hl
    obtain ⟨v, vs', f1, f2, rfl, hv, hr, rfl⟩ := hl.uncons
    obtain ⟨f', h1, h2, h3⟩ := ih hr
    exact ⟨f', .any h1, fun b hb => List.mem_append_right _ (h2 b hb), fun hn => h3 (List.nodup_append.1 hn).2.1⟩
  | keep he hs _ ih =>
    intro xs f hl
    subst he
    obtain ⟨v, vs', f1, f2, rfl, hv, hr, rfl⟩ := hl.uncons
    obtain ⟨f', h1, h2, h3⟩ := ih hr
    refine ⟨f1 ++ f', LRel.cons (still_any hv hs O' (fun _ h => h) (fun _ _ => rfl) (fun _ _ => rfl)) h1, ?_, ?_⟩
    · intro b hb
      rcases List.mem_append.1 hb with hb | hb
      · exact List.mem_append_left _ hb
      · exact List.mem_append_right _ (h2 b hb)
    · intro hn
      obtain ⟨n1, n2, n3⟩ := List.nodup_append.1 hn
      exact List.nodup_append.2 ⟨n1, h3 n2, fun a ha b hb => n3 a ha b (h2 b hb)⟩
  | own ho ho' he he' hsz hln _ ih =>
    intro xs f hl
    subst hln
    obtain ⟨v, vs', f1, f2, rfl, hv, hr, rfl⟩ := hl.uncons
    obtain ⟨f', h1, h2, h3⟩ := ih hr
    refine ⟨f', ?_, fun b hb => List.mem_append_right _ (h2 b hb), fun hn => h3 (List.nodup_append.1 hn).2.1⟩
    cases hv with
    | own q1 q2 q3 r =>
      rw [ho] at q1; cases q1
      exact .own ho' (by omega) (fun _ => by rw [hsz, hι _ (List.getElem?_eq_some_iff.1 ho).1]; exact q3 he.symm) h1
  | ptr ho ho' he he' _ ih =>
    intro xs f hl
    obtain ⟨v, vs', f1, f2, rfl, hv, hr, rfl⟩ := hl.uncons
    obtain ⟨f', h1, h2, h3⟩ := ih hr
    refine ⟨f', ?_, fun b hb => List.mem_append_right _ (h2 b hb), fun hn => h3 (List.nodup_append.1 hn).2.1⟩
    cases hv with
    | ptr q1 q2 q3 r =>
      rw [ho] at q1; cases q1
      exact .ptr ho' (by omega) (fun _ => by rw [hι _ (List.getElem?_eq_some_iff.1 ho).1]; exact q3 he.symm) h1
  | agg _ _ ih1 ih2 =>
    intro xs f hl
    obtain ⟨v, vs', f1, f2, rfl, hv, hr, rfl⟩ := hl.uncons
    obtain ⟨us', rfl, ha⟩ := LRel.agg_inv hv
    obtain ⟨g', a1, a2, a3⟩ := ih1 ha
    obtain ⟨f', h1, h2, h3⟩ := ih2 hr
    refine ⟨g' ++ f', .agg a1 h1, ?_, ?_⟩
    · intro b hb
      rcases List.mem_append.1 hb with hb | hb
      · exact List.mem_append_left _ (a2 b hb)
      · exact List.mem_append_right _ (h2 b hb)
    · intro hn
      obtain ⟨n1, n2, n3⟩ := List.nodup_append.1 hn
      exact List.nodup_append.2 ⟨a3 n1, h3 n2, fun a ha b hb => n3 a (a2 a ha) b (h2 b hb)⟩
  | nilO hk hkj hep hlen _ ih =>
    intro xs f hl
    subst hkj; subst hlen
    obtain ⟨v, vs', f1, f2, rfl, hv, hr, rfl⟩ := hl.uncons
    obtain ⟨f', h1, h2, h3⟩ := ih hr
    refine ⟨f', ?_, fun b hb => List.mem_append_right _ (h2 b hb), fun hn => h3 (List.nodup_append.1 hn).2.1⟩
    cases hv with
    | nilS r => exact .own hk (by omega) (fun _ => by rw [hj]; exact ⟨rfl, rfl, rfl⟩) h1
inductive RzT (O O' : List AObj) (j : Nat) (T : List (Nat × AV)) : List (Nat × AV) → Prop
  | nil : RzT O O' j T []
  | cons {t V T'} : Rz O O' j [look T t] [V] → RzT O O' j T T' → RzT O O' j T ((t, V) :: T')
theorem RzT.at {O O' j T T'} (h : RzT O O' j T T') (t : Nat) : Rz O O' j [look T t] [look T' t] := by
  induction h with
  | nil => exact .any .nil
  | @cons k V T' hk _ ih =>
    by_cases he : k = t
    · subst he; rw [look_cons_same]; exact hk
    · rw [look_cons_other _ _ _ _ he]; exact ih
inductive RzO (O O' : List AObj) (j : Nat) : List AObj → List AObj → Prop
  | last {ob'} : ob'.cells = [] → RzO O O' j [] [ob']
  | cons {ob ob' os os'} : Rz O O' j ob.cells ob'.cells → (ob'.ty = none ∨ ob'.ty = ob.ty) → RzO O O' j os os' → RzO O O' j (ob :: os) (ob' :: os')
theorem RzO.len {O O' j os os'} (h : RzO O O' j os os') : os'.length = os.length + 1 := by
  induction h with
  | last => rfl
  | cons _ _ _ ih => simp [ih]
theorem RzO.at {O O' j os os'} (h : RzO O O' j os os') {id : Nat} {ob' : AObj} (hi : os'[id]? = some ob') : (id = os.length ∧ ob'.cells = []) ∨ ∃ ob, os[id]? = some ob ∧ Rz O O' j ob.cells ob'.cells ∧ (ob'.ty = none ∨ ob'.ty = ob.ty) := by
  induction h generalizing id with
  | last h =>
    cases id with
    | zero => simp at hi; subst hi; exact .inl ⟨rfl, h⟩
    | succ id => simp at hi
  | cons h1 h2 _ ih =>
    cases id with
    | zero => simp at hi; subst hi; exact .inr ⟨_, by simp, h1, h2⟩
    | succ id =>
      rcases ih (by simpa using hi) with ⟨h3, h4⟩ | ⟨ob, h3, h4⟩
      · exact .inl ⟨by simp [h3], h4⟩
      · exact .inr ⟨ob, by simpa using h3, h4⟩
end Go.Abs


namespace Go.Abs
open Go Go.RowKit
theorem keeps_below {w w' : World} (h : Below w.heap.size w w') : Keeps w (fun _ => False) w' := ⟨h.os, h.tape, h.output, h.size, fun b hb _ => h.block b hb⟩
theorem keeps_grow {w : World} {k : Nat} {os : Array Obj} : Keeps w (fun _ => False) (Go.Sort.grow (w.drewN k) os) := ⟨rfl, rfl, rfl, by show w.heap.size ≤ (w.heap ++ os).size; simp, fun b hb _ => by
  show (w.heap ++ os)[b]? = _
  rw [Array.getElem?_append_left (by simpa using hb)]⟩
theorem FnC.of_calls {P : Program} {f : FuncId} {args : List AV} {r : AV} {x : Value} (hr : Runs P f) (hx : ∀ S w ι O, VRel S w ι O r x []) (h : ∀ (w : World) (S : Nat → Prop) (vs : List Value), (∀ b, S b → b < w.heap.size) → GlbOk S w → LRel S w (fun _ => none) [] args vs [] →
    Calls P f vs.toArray w fun e w' => e = .returned x ∧ Keeps w (fun _ => False) w') : FnC P f args [] r := by
  refine ⟨hr, fun w S vs hS hg hl => (h w S vs hS hg hl).mono fun e w' he => ?_⟩
  obtain ⟨he, hk⟩ := he
  exact ⟨x, S, fun _ => none, fun _ => [], he, fun _ h => h, fun _ h => .inl h, fun b hb => Nat.lt_of_lt_of_le (hS b hb) hk.size, ⟨fun id ob h => by simp at h, fun id h => by simp at h, fun i j h => by simp at h⟩, fun id h => by simp at h, hx _ _ _ _, hk⟩
theorem FnC.of_callsN {P : Program} {f : FuncId} {args : List AV} {e : TypeId} {us : List Value} {cs : List AV} (hr : Runs P f) (hu : ∀ S w ι O, LRel S w ι O cs us []) (hl : us.length ≤ maxLen) (h : ∀ (w : World) (S : Nat → Prop) (vs : List Value), (∀ b, S b → b < w.heap.size) → GlbOk S w → LRel S w (fun _ => none) [] args vs [] →
    Calls P f vs.toArray w fun e' w' => e' = .returned (.slice (some ⟨w.heap.size, 0, none⟩) us.length us.length) ∧ w' = w.alloc (.cells us.toArray e)) : FnC P f args [] (.imm 1 us.length cs) := by
  refine ⟨hr, fun w S vs hS hg hl' => (h w S vs hS hg hl').mono fun e' w' he => ?_⟩
  obtain ⟨he, rfl⟩ := he
  have hA := Adds.alloc w (.cells us.toArray e)
  have hsz := hA.size
  refine ⟨_, fun b => S b ∨ b = w.heap.size, fun _ => none, fun _ => [], he, fun _ h => .inl h, fun b h => ?_, fun b hb => ?_, ⟨fun id ob h => by simp at h, fun id h => by simp at h, fun i j h => by simp at h⟩, fun id h => by simp at h, ?_, ⟨rfl, rfl, rfl, by omega, fun b hb _ => ?_⟩⟩
  · rcases h with h | h
    · exact .inl h
    · exact .inr (by omega)
  · rcases hb with h | h
    · have := hS b h; omega
    · omega
  · by_cases h0 : us.length = 0
    · have : us = [] := List.eq_nil_of_length_eq_zero h0
      subst this
      have hcs := (hu S w (fun _ => none) []).len
      have : cs = [] := List.eq_nil_of_length_eq_zero (by simpa using hcs)
      subst this
      exact .imm0 ⟨by simp, by simp⟩ .nil
    · refine .imm (us := us) (.inr rfl) (fun i hi => ?_) (hu _ _ _ _) (by rw [Nat.mul_one]; exact ((hu S w (fun _ => none) []).len).symm) (Nat.le_refl _) hl .nil
      rw [Nat.zero_add]
      have hn := hA.new
      unfold World.cell?
      simp only [hn]
      simp
  · exact hA.old hb
theorem glb_cell {S : Nat → Prop} {w : World} (h : GlbOk S w) : ∃ W, Laid W ∧ ∀ b, b < NGlb → w.heap[b]? = W.heap[b]? ∧ ∀ i, w.cell? ⟨b, i, none⟩ = W.cell? ⟨b, i, none⟩ := by
  obtain ⟨W, h1, h2⟩ := h
  exact ⟨W, h1, fun b hb => ⟨(h2 b hb).2, fun i => World.cell?_of_block (h2 b hb).2⟩⟩
end Go.Abs
