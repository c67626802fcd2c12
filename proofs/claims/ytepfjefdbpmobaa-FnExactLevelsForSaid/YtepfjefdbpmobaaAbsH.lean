/- The rules of slice literals, make and append. No condition. -/
import Derived.Test.YtepfjefdbpmobaaAbsG
namespace Go.Abs
open Go
set_option linter.unusedVariables false
set_option linter.unusedSimpArgs false

/-- An object is changed, and perhaps moved: what must hold. -/
theorem RelAt.renew {n m G S ι F T O a w} (hr : RelAt n m G S ι F ⟨T, O⟩ a w) {w' : World} {id : Nat} {ob ob' : AObj} {s' : Spot} {f' : List Nat} (ho : O[id]? = some ob) (hm : m ≤ id) (hep : ob.ep < ob'.ep)
    (hos : w'.os = w.os) (htape : w'.tape = w.tape) (hout : w'.output = w.output) (hsize : w.heap.size ≤ w'.heap.size)
    (hold : ∀ b', b' < w.heap.size → b' ∉ F id ∨ b' ∈ f' ∧ (∀ k, s' ≠ some (b', k)) → w'.heap[b']? = w.heap[b']?)
    (hobj : Later S w ι O S w' (upd ι id s') (O.set id ob') → ObjAt S w' (upd ι id s') (O.set id ob') ob' s' f') (hnd : f'.Nodup)
    (hf : ∀ b', b' ∈ f' → b' ∈ F id ∨ (w.heap.size ≤ b' ∧ b' < w'.heap.size)) :
    Later S w ι O S w' (upd ι id s') (O.set id ob') ∧ RelAt n m G S (upd ι id s') (upd F id f') ⟨T, O.set id ob'⟩ a w' := by
  have hid : id < O.length := (List.getElem?_eq_some_iff.1 ho).1
  have hlat : Later S w ι O S w' (upd ι id s') (O.set id ob') := by
    refine ⟨fun _ h => h, fun b hb => hold b (hr.stable b hb) (.inl fun h => (hr.foot id hid b h).2.1 hb), fun id' ob2 h => ?_⟩
    by_cases he : id' = id
    · subst he
      rw [ho] at h; cases h
      exact ⟨ob', by rw [List.getElem?_set_self hid], .inl hep⟩
    · exact ⟨ob2, by rw [List.getElem?_set_ne (by omega)]; exact h, .inr ⟨rfl, rfl, upd_other _ _ he⟩⟩
  refine ⟨hlat, hr.defers, hr.size, fun t' => (hr.tmps t').mono hlat (by simp), ⟨fun id' ob2 h => ?_, fun id' h => ?_, fun i j hi hj hij b' hb' => ?_⟩, fun id' h b' hb' => ?_, hr.base, fun b' hb' => ?_, ?_, fun id' h => ?_, ?_⟩
  · by_cases he : id' = id
    · subst he
      rw [upd_same, upd_same]
      have h : (O.set id' ob')[id']? = some ob2 := h
      rw [List.getElem?_set_self hid] at h
      cases h
      exact hobj hlat
    · rw [upd_other _ _ he, upd_other _ _ he]
      have h : (O.set id ob')[id']? = some ob2 := h
      rw [List.getElem?_set_ne (by omega)] at h
      have hlt : id' < O.length := (List.getElem?_eq_some_iff.1 h).1
      have ho' := hr.objs.obj id' ob2 h
      unfold ObjAt at ho' ⊢
      cases hs' : ι id' with
      | none => rw [hs'] at ho'; exact ho'
      | some p =>
        obtain ⟨b2, k2⟩ := p
        rw [hs'] at ho'
        obtain ⟨cur', t', fz', f2, h1, h2, h3, h4, h5, h6, h7⟩ := ho'
        have key : ∀ b', b' ∈ F id' → w'.heap[b']? = w.heap[b']? := fun b' hb' =>
          hold b' (hr.foot id' hlt b' hb').2.2 (.inl fun h => hr.objs.apart id' id hlt hid he b' hb' h)
        exact ⟨cur', t', fz', f2, h1, by rw [key b2 (by rw [h1]; simp)]; exact h2, h3, h4, h5, h6, h7.mono hlat fun b' hb' => key b' (by rw [h1]; simp [hb'])⟩
  · by_cases he : id' = id
    · subst he; rw [upd_same]; exact hnd
    · rw [upd_other _ _ he]; exact hr.objs.nodup id' (by simpa using h)
  · have hi2 : i < O.length := by simpa using hi
    have hj2 : j < O.length := by simpa using hj
    have key : ∀ j, j < O.length → j ≠ id → ∀ b', b' ∈ f' → b' ∉ F j := by
      intro j hj hne b' hb' hbj
      rcases hf b' hb' with h | ⟨h, _⟩
      · exact hr.objs.apart id j hid hj (by omega) b' h hbj
      · have := (hr.foot j hj b' hbj).2.2; omega
    by_cases h1 : i = id
    · subst h1
      rw [upd_same] at hb'
      rw [upd_other _ _ (by omega)]
      exact key j hj2 (by omega) b' hb'
    · rw [upd_other _ _ h1] at hb'
      by_cases h2 : j = id
      · subst h2
        rw [upd_same]
        exact fun h => key i hi2 h1 b' h hb'
      · rw [upd_other _ _ h2]; exact hr.objs.apart i j hi2 hj2 hij b' hb'
  · have h3 : id' < O.length := by simpa using h
    by_cases he : id' = id
    · subst he
      rw [upd_same] at hb'
      rcases hf b' hb' with h | ⟨h, h'⟩
      · obtain ⟨q1, q2, q3⟩ := hr.foot id' h3 b' h
        exact ⟨q1, q2, by omega⟩
      · exact ⟨.inr (by have := hr.keeps.size; omega), fun hS => by have := hr.stable b' hS; omega, h'⟩
    · rw [upd_other _ _ he] at hb'
      obtain ⟨q1, q2, q3⟩ := hr.foot id' h3 b' hb'
      exact ⟨q1, q2, by omega⟩
  · have := hr.stable b' hb'; omega
  · refine ⟨hos.trans hr.keeps.os, htape.trans hr.keeps.tape, hout.trans hr.keeps.output, by have := hr.keeps.size; omega, fun b' hb' hM => ?_⟩
    rw [hold b' (by have := hr.keeps.size; omega) (.inl fun h => ?_)]
    · exact hr.keeps.block b' hb' hM
    · rcases (hr.foot id hid b' h).1 with h | h
      · exact hM h
      · omega
  · rw [upd_other _ _ (by omega)]; exact hr.spots id' h
  · have := hr.mle
    simpa using this

/-- The cells of a slice that is read whole, and how many elements it has. -/
def srcB (O : List AObj) : AV → Option (List AV × Nat)
  | .nilS => some ([], 0)
  | .imm _ len cs => some (cs, len)
  | .own id ep 0 len => match O[id]? with
    | some ob => match Nat.beq ob.ep ep with
      | true => some (ob.cells, len)
      | false => none
    | none => none
  | _ => none

theorem src_cells {S w ι O F V x ys c k} (ho : ORel S w ι O F) (hv : VRel S w ι O V x []) (hs : srcB O V = some (ys, c)) (hlen : ys.length = c * k) (hone : ys.all (oneB O) = true) :
    ∃ us, LRel S w ι O ys us [] ∧ (∀ u, u ∈ us → u.oneCell' = true) ∧ ((∃ ad cap, x = .slice ad 0 cap ∧ ((ad = none → cap = 0) ∧ cap ≤ maxLen) ∧ c = 0 ∧ us = []) ∨
      ∃ b o cap, x = .slice (some ⟨b, o, none⟩) c cap ∧ (∀ i, i < us.length → w.cell? ⟨b, o + i, none⟩ = us[i]?)) := by
  have ones : ∀ us f, LRel S w ι O ys us f → f = [] ∧ ∀ u, u ∈ us → u.oneCell' = true := by
    intro us f hl
    clear hs hlen
    induction ys generalizing us f with
    | nil => cases hl; exact ⟨rfl, by simp⟩
    | cons y ys ih =>
      obtain ⟨v, vs', f1, f2, rfl, hv, hr, rfl⟩ := hl.uncons
      simp only [List.all_cons, Bool.and_eq_true] at hone
      obtain ⟨h1, h2⟩ := ih hone.2 _ _ hr
      have h3 := one_of hv hone.1
      refine ⟨by rw [h3.2.2, h1]; rfl, fun u hu => ?_⟩
      rcases List.mem_cons.1 hu with rfl | hu
      · exact h3.1
      · exact h2 u hu
  unfold srcB at hs
  split at hs
  · simp only [Option.some.injEq, Prod.mk.injEq] at hs
    obtain ⟨rfl, rfl⟩ := hs
    exact ⟨[], .nil, by simp, .inl ⟨_, _, (LRel.slice_len hv).2.2 rfl, by simp, rfl, rfl⟩⟩
  · simp only [Option.some.injEq, Prod.mk.injEq] at hs
    obtain ⟨rfl, rfl⟩ := hs
    rcases (imm_inv hv).2 with ⟨ad, cp, h1, h0, h2, h3⟩ | ⟨b, o, cap, us, h1, hS, hc, hl, _⟩
    · subst h3; exact ⟨[], .nil, by simp, .inl ⟨_, _, h1, h0, h2, rfl⟩⟩
    · exact ⟨us, hl.lift, (ones _ _ hl.lift).2, .inr ⟨b, o, cap, h1, hc⟩⟩
  · rename_i id ep len
    split at hs
    · rename_i ob hob
      split at hs
      · rename_i hep
        simp only [Option.some.injEq, Prod.mk.injEq] at hs
        obtain ⟨rfl, rfl⟩ := hs
        have hep := Nat.eq_of_beq_eq_true hep
        cases hv with
        | own q1 q2 q3 r =>
          rw [hob] at q1
          cases q1
          have hc := q3 hep.symm
          have hob' := ho.obj _ _ hob
          unfold ObjAt at hob'
          cases hs : ι id with
          | none =>
            rw [hs] at hc hob'
            obtain ⟨h1, _, h3⟩ := hc
            refine ⟨[], by rw [hob'.1]; exact .nil, by simp, .inl ⟨_, _, h1, by simp, h3, rfl⟩⟩
          | some p =>
            obtain ⟨b, kk⟩ := p
            rw [hs] at hc hob'
            obtain ⟨cap, h1, _⟩ := hc
            obtain ⟨cur, t, fz, f', _, hh, hk, hle, _, _, hl⟩ := hob'
            obtain ⟨hf', h2⟩ := ones _ _ hl
            subst hf'
            refine ⟨_, hl, h2, .inr ⟨b, 0, cap, h1, fun i hi => ?_⟩⟩
            rw [Nat.zero_add, cell_of_row w b i cur t fz hh, List.getElem?_take, if_pos (by have := hl.len; omega)]
            simp
      · simp at hs
    · simp at hs
  · simp at hs

theorem own_new {S w ι O ob b k c cap} (hk : cap * ob.size = k) (hc : c ≤ cap) (hm : cap ≤ maxLen) : VRel S w (upd ι O.length (some (b, k))) (O ++ [ob]) (.own O.length ob.ep 0 c) (.slice (some ⟨b, 0, none⟩) c cap) [] :=
  .own (by simp) (Nat.le_refl _) (fun _ => by rw [upd_same]; exact ⟨cap, rfl, by omega, hc, hm⟩) .nil

theorem adds_drew_alloc (w : World) (o : Obj) : Adds w (w.drew.alloc o) o := .push rfl rfl rfl rfl

theorem zeroCells_size (z : Array Value) (n : Nat) : (Builtin.zeroCells z n).size = n * z.size := by simp [Builtin.zeroCells]

section
variable {P : Program} {n m : Nat} {G : Ctx} {T : List (Nat × AV)} {O : List AObj} {Q : Exit → St → Prop} {ops : Array Oper} {l : List Oper} {d : Nat} {tt : TypeId} {pos : String} {after : Array Edge} {tab : List (Nat × Ty)}

/-- append to a nil slice: a new object. -/
theorem WpL.appNil (hP : TabOk P tab) {t e k b : Nat} {zs ys : List AV} {x y : Operand} {c id : Nat} {Vy : AV} (ht : tlook tab t = some (.slice e k b zs)) (hx : av T x = .nilS) (hy : (av T y).force = some Vy) (hs : srcB O Vy = some (ys, c))
    (hlen : ys.length = c * k) (hone : ys.all (oneB O) = true) (hb : c * b ≤ 140737488355328 ∧ c ≤ 9223372036854775807) (hid : nid O 0 = some id) (hn : d < n)
    (h : WpL P n m G false ops l ⟨(d, .own id 0 0 c) :: T, O ++ [⟨ys, 0, k, some e⟩]⟩ Q) :
    WpL P n m G false ops ({ dst := some d, op := .call { callee := .builtin .append, args := #[x, y], argTypes := #[t, t] }, type := tt, pos := pos, after := after, guard := none } :: l) ⟨T, O⟩ Q :=
  WpL.value rfl (fun a w hr => by
    obtain ⟨S, ι, F, hr⟩ := hr
    have hid : id = O.length := by have := nid_eq hid; omega
    subst hid
    obtain ⟨hu, i, z, hi, hz, hk, hby, hzk, hk0, _⟩ := hP.slice ht
    have hv := hr.eval x
    rw [show av (St.mk T O).T x = _ from hx] at hv
    have hxe := (LRel.slice_len hv).2.2 rfl
    have hw := hr.eval y
    rw [show av (St.mk T O).T y = Vy from AV.force_eq hy] at hw
    obtain ⟨us, hl, hone', hcase⟩ := src_cells hr.objs hw hs hlen hone
    have huslen : us.length = c * k := by rw [← hl.len]; exact hlen
    by_cases hc0 : c = 0
    · subst hc0
      have hys : ys = [] := List.eq_nil_of_length_eq_zero (by simpa using hlen)
      subst hys
      cases hl
      have hrun : (Builtin.append_ #[t, t] tt #[a.eval x, a.eval y]).run P w = .ok (.slice none 0 0) w := by
        rcases hcase with ⟨ad, _, h1, _⟩ | ⟨b', o, cap, h1, _⟩
        · rw [hxe, h1]; cases ad <;> simp [loadCells, loadCellsFrom, Builtin.append_, run_underlying hu, sizeOf, typeInfo, hi, Builtin.lenOf, Builtin.firstCells]
        · rw [hxe, h1]; simp [Builtin.append_, run_underlying hu, sizeOf, typeInfo, hi, Builtin.lenOf, Builtin.firstCells, loadCells, loadCellsFrom]
      refine ⟨.slice none 0 0, w, by simp [execOp, resolve, invoke, builtin, hrun, Sem.run_bind], ?_⟩
      -- a virtual object
      have hlat : Later S w ι O S w (upd ι O.length none) (O ++ [⟨[], 0, k, some e⟩]) := by
        refine ⟨fun _ h => h, fun _ _ => rfl, fun id ob' h => ?_⟩
        have hlt : id < O.length := (List.getElem?_eq_some_iff.1 h).1
        exact ⟨ob', by rw [List.getElem?_append_left hlt]; exact h, .inr ⟨rfl, rfl, upd_other _ _ (by omega)⟩⟩
      have hr' : RelAt n m G S (upd ι O.length none) (upd F O.length []) ⟨T, O ++ [⟨[], 0, k, some e⟩]⟩ a w := by
        refine ⟨hr.defers, hr.size, fun t' => (hr.tmps t').mono hlat (by simp), ⟨fun id ob' h => ?_, fun id h => ?_, fun i j hi hj hij b hb => ?_⟩, fun id h b hb => ?_, hr.base, hr.stable, hr.keeps, fun id h => ?_, ?_⟩
        · rcases getElem?_snoc O _ ob' id h with ⟨hlt, h⟩ | ⟨rfl, rfl⟩
          · rw [upd_other _ _ (by omega), upd_other _ _ (by omega)]
            have ho := hr.objs.obj id ob' h
            unfold ObjAt at ho ⊢
            cases hs : ι id with
            | none => rw [hs] at ho; exact ho
            | some p =>
              obtain ⟨b, k⟩ := p
              rw [hs] at ho
              obtain ⟨cur', t', fz', f', h1, h2, h3, h4, h5, h6, h7⟩ := ho
              exact ⟨cur', t', fz', f', h1, h2, h3, h4, h5, h6, h7.mono hlat fun _ _ => rfl⟩
          · rw [upd_same, upd_same]; exact ⟨rfl, rfl⟩
        · simp only [List.length_append, List.length_cons, List.length_nil] at h
          by_cases he : id = O.length
          · subst he; rw [upd_same]; simp
          · rw [upd_other _ _ he]; exact hr.objs.nodup id (by show id < O.length; omega)
        · simp only [List.length_append, List.length_cons, List.length_nil] at hi hj
          by_cases h1 : i = O.length
          · subst h1; rw [upd_same] at hb; simp at hb
          · rw [upd_other _ _ h1] at hb
            by_cases h2 : j = O.length
            · subst h2; rw [upd_same]; simp
            · rw [upd_other _ _ h2]; exact hr.objs.apart i j (by show i < O.length; omega) (by show j < O.length; omega) hij b hb
        · simp only [List.length_append, List.length_cons, List.length_nil] at h
          by_cases he : id = O.length
          · subst he; rw [upd_same] at hb; simp at hb
          · rw [upd_other _ _ he] at hb; exact hr.foot id (by show id < O.length; omega) b hb
        · have hm : m ≤ O.length := hr.mle
          rw [upd_other _ _ (by omega)]; exact hr.spots id h
        · have hm : m ≤ O.length := hr.mle
          show m ≤ (O ++ [_]).length
          simp; omega
      exact ⟨_, _, _, hr'.put hn (.own (ob := ⟨[], 0, k, some e⟩) (by simp) (Nat.le_refl _) (fun _ => by rw [upd_same]; exact ⟨rfl, rfl, rfl⟩) .nil)⟩
    · rcases hcase with ⟨_, _, _, _, h0, _⟩ | ⟨b', o, cap, h1, hcell⟩
      · exact (hc0 h0).elim
      · have hrun := run_append_nil (P := P) w t tt e i z hu hi hz ⟨b', o, none⟩ c cap us (by rw [hk]; exact huslen) (by
          intro j v hj
          have hlt := (List.getElem?_eq_some_iff.1 hj).1
          rw [addr_add, hcell j hlt]; exact hj) (by omega) (by omega) (by rw [hby]; omega)
        have hcap := grownCap_ge w c 0 e
        have hcm := grownCap_le_maxLen w c 0 e (by simp only [maxLen]; omega)
        have hsz : (us.toArray ++ Builtin.zeroCells z.cells (grownCap w c 0 e - c)).size = grownCap w c 0 e * k := by
          simp only [Array.size_append, List.size_toArray, zeroCells_size, hzk, huslen, ← Nat.add_mul]
          congr 1; omega
        have hr' := hr.alloc (ob := ⟨ys, 0, k, some e⟩) (cur := us.toArray ++ Builtin.zeroCells z.cells (grownCap w c 0 e - c)) (t := e) (fz := (0, 0)) (adds_drew_alloc w _) (by
          have : (us.toArray ++ Builtin.zeroCells z.cells (grownCap w c 0 e - c)).toList.take ys.length = us := by
            rw [Array.toList_append]; exact List.take_left' (by simpa using hl.len.symm)
          rw [this]; exact hl) (by rw [hsz, hlen]; exact Nat.mul_le_mul_right _ hcap) (by simp) (by simp)
        refine ⟨.slice (some ⟨w.heap.size, 0, none⟩) c (grownCap w c 0 e), _, by simp only [execOp, resolve, invoke, builtin, Sem.run_bind, Sem.run_pure, Result.andThen_ok, List.map_toArray, List.map_cons, List.map_nil, hxe, h1, hrun], _, _, _, hr'.put hn ?_⟩
        exact own_new (ob := ⟨ys, 0, k, some e⟩) hsz.symm hcap hcm) h
/-- append to a slice of the call's own that is whole. -/
theorem WpL.appOwn (hP : TabOk P tab) {t e k b : Nat} {zs ys : List AV} {x y : Operand} {id ep len c : Nat} {ob : AObj} {Vy : AV} (ht : tlook tab t = some (.slice e k b zs)) (hx : av T x = .own id ep 0 len)
    (ho : O[id]? = some ob) (he : ob.ep = ep) (hty : ob.ty = some e) (hsz : ob.size = k) (hol : ob.cells.length = len * k) (hm : m ≤ id) (hy : (av T y).force = some Vy) (hs : srcB O Vy = some (ys, c))
    (hlen : ys.length = c * k) (hone : ys.all (oneB O) = true) (hb : (len + c) * b ≤ 140737488355328 ∧ len + c ≤ 9223372036854775807) (hn : d < n)
    (h : WpL P n m G false ops l ⟨(d, .own id (ep + 1) 0 (len + c)) :: T, O.set id ⟨ob.cells ++ ys, ep + 1, k, some e⟩⟩ Q) :
    WpL P n m G false ops ({ dst := some d, op := .call { callee := .builtin .append, args := #[x, y], argTypes := #[t, t] }, type := tt, pos := pos, after := after, guard := none } :: l) ⟨T, O⟩ Q :=
  WpL.value rfl (fun a w hr => by
    obtain ⟨S, ι, F, hr⟩ := hr
    obtain ⟨hu, i, z, hi, hz, hk, hby, hzk, hk0, _⟩ := hP.slice ht
    have hid : id < O.length := (List.getElem?_eq_some_iff.1 ho).1
    have hw := hr.eval y
    rw [show av (St.mk T O).T y = Vy from AV.force_eq hy] at hw
    obtain ⟨us, hl, hone', hcase⟩ := src_cells hr.objs hw hs hlen hone
    have huslen : us.length = c * k := by rw [← hl.len]; exact hlen
    have hv := hr.eval x
    rw [show av (St.mk T O).T x = _ from hx] at hv
    have hob := hr.objs.obj id ob ho
    unfold ObjAt at hob
    have hown : OwnAt (ι id) ob.size 0 len (a.eval x) := by
      cases hv with
      | own q1 q2 q3 r =>
        rw [show (St.mk T O).O[id]? = some ob from ho] at q1
        cases q1
        exact q3 he.symm
    have hlenA : (ob.cells ++ ys).length = (len + c) * k := by rw [List.length_append, hol, hlen, Nat.add_mul]
    -- what the end looks like
    have finish : ∀ (w' : World) (s' : Spot) (f' : List Nat) (v : Value), (Builtin.append_ #[t, t] tt #[a.eval x, a.eval y]).run P w = .ok v w' →
        Later S w ι O S w' (upd ι id s') (O.set id ⟨ob.cells ++ ys, ep + 1, k, some e⟩) ∧ RelAt n m G S (upd ι id s') (upd F id f') ⟨T, O.set id ⟨ob.cells ++ ys, ep + 1, k, some e⟩⟩ a w' → OwnAt s' k 0 (len + c) v →
        ∃ v w', (execOp a.eval { dst := some d, op := .call { callee := .builtin .append, args := #[x, y], argTypes := #[t, t] }, type := tt, pos := pos, after := after, guard := none }).run P w = .ok (.value v) w' ∧
          Rel n m G ⟨(d, .own id (ep + 1) 0 (len + c)) :: T, O.set id ⟨ob.cells ++ ys, ep + 1, k, some e⟩⟩ (a.put (some d) v) w' := by
      intro w' s' f' v hrun hr' hoa
      refine ⟨v, w', by simp only [execOp, resolve, invoke, builtin, Sem.run_bind, Sem.run_pure, Result.andThen_ok, List.map_toArray, List.map_cons, List.map_nil, hrun], _, _, _, hr'.2.put hn ?_⟩
      exact .own (ob := ⟨ob.cells ++ ys, ep + 1, k, some e⟩) (by rw [List.getElem?_set_self hid]) (Nat.le_refl _) (fun _ => by rw [upd_same]; exact hoa) .nil
    -- a new block
    have fresh : ∀ (oldc : Nat) (olds : List Value) (f0 : List Nat), LRel S w ι O ob.cells olds f0 → f0.Nodup → (∀ b, b ∈ f0 → b ∈ F id) → (∀ b0 k0, ι id = some (b0, k0) → b0 ∉ f0) → len + c ≤ grownCap w (len + c) oldc e →
        (Builtin.append_ #[t, t] tt #[a.eval x, a.eval y]).run P w = .ok (.slice (some ⟨w.heap.size, 0, none⟩) (len + c) (grownCap w (len + c) oldc e)) (w.drew.alloc (.cells (olds.toArray ++ us.toArray ++ Builtin.zeroCells z.cells (grownCap w (len + c) oldc e - (len + c))) e)) →
        ∃ v w', (execOp a.eval { dst := some d, op := .call { callee := .builtin .append, args := #[x, y], argTypes := #[t, t] }, type := tt, pos := pos, after := after, guard := none }).run P w = .ok (.value v) w' ∧
          Rel n m G ⟨(d, .own id (ep + 1) 0 (len + c)) :: T, O.set id ⟨ob.cells ++ ys, ep + 1, k, some e⟩⟩ (a.put (some d) v) w' := by
      intro oldc olds f0 hlo hnd0 hsub hnb hge hrun
      have hcm := grownCap_le_maxLen w (len + c) oldc e (by simp only [maxLen]; omega)
      have hA := adds_drew_alloc w (.cells (olds.toArray ++ us.toArray ++ Builtin.zeroCells z.cells (grownCap w (len + c) oldc e - (len + c))) e)
      have holds : olds.length = len * k := by rw [← hlo.len]; exact hol
      have hszc : (olds.toArray ++ us.toArray ++ Builtin.zeroCells z.cells (grownCap w (len + c) oldc e - (len + c))).size = grownCap w (len + c) oldc e * k := by
        simp only [Array.size_append, List.size_toArray, zeroCells_size, hzk, huslen, holds, ← Nat.add_mul]
        congr 1; omega
      refine finish _ (some (w.heap.size, grownCap w (len + c) oldc e * k)) (w.heap.size :: f0) _ hrun (hr.renew (ob := ob) ho hm (by simp [he]) rfl rfl rfl (by rw [hA.size]; omega) (fun b' hb' _ => hA.old hb') ?_ ?_ ?_) ⟨_, rfl, by omega, hge, hcm⟩
      · intro hlat
        refine ⟨_, e, (0, 0), f0, rfl, hA.new, hszc, by rw [hlenA]; exact Nat.mul_le_mul_right _ hge, by simp, by simp, ?_⟩
        have htk : (olds.toArray ++ us.toArray ++ Builtin.zeroCells z.cells (grownCap w (len + c) oldc e - (len + c))).toList.take (ob.cells ++ ys).length = olds ++ us := by
          rw [Array.toList_append, Array.toList_append]
          exact List.take_left' (by rw [hlenA, Nat.add_mul]; simp [holds, huslen])
        show LRel S _ _ _ (ob.cells ++ ys) _ f0
        rw [htk]
        have h1 := hlo.mono hlat (fun b' hb' => hA.old (hr.foot id hid b' (hsub b' hb')).2.2)
        have h2 := hl.mono hlat (by simp)
        simpa using h1.append h2
      · refine List.nodup_cons.2 ⟨fun hb => ?_, hnd0⟩
        have := (hr.foot id hid _ (hsub _ hb)).2.2
        omega
      · intro b' hb'
        rcases List.mem_cons.1 hb' with rfl | hb'
        · exact .inr ⟨Nat.le_refl _, by rw [hA.size]; omega⟩
        · exact .inl (hsub b' hb')
    cases hspot : ι id with
    | none =>
      rw [hspot] at hown hob
      obtain ⟨hxe, _, hlen0⟩ := hown
      subst hlen0
      obtain ⟨hcells, hFid⟩ := hob
      by_cases hc0 : c = 0
      · subst hc0
        have hys : ys = [] := List.eq_nil_of_length_eq_zero (by simpa using hlen)
        subst hys
        have hrun : (Builtin.append_ #[t, t] tt #[a.eval x, a.eval y]).run P w = .ok (.slice none 0 0) w := by
          rcases hcase with ⟨ad, _, h1, _⟩ | ⟨b', o, cap, h1, _⟩
          · rw [hxe, h1]; cases ad <;> simp [loadCells, loadCellsFrom, Builtin.append_, run_underlying hu, sizeOf, typeInfo, hi, Builtin.lenOf, Builtin.firstCells]
          · rw [hxe, h1]; simp [Builtin.append_, run_underlying hu, sizeOf, typeInfo, hi, Builtin.lenOf, Builtin.firstCells, loadCells, loadCellsFrom]
        refine finish w none [] _ hrun (hr.renew (ob := ob) ho hm (by simp [he]) rfl rfl rfl (Nat.le_refl _) (fun _ _ _ => rfl) (fun _ => ⟨by simp [hcells], rfl⟩) (by simp) (by simp)) ⟨rfl, rfl, rfl⟩
      · rcases hcase with ⟨_, _, _, _, h0, _⟩ | ⟨b', o, cap, h1, hcell⟩
        · exact (hc0 h0).elim
        · have hrun := run_append_nil (P := P) w t tt e i z hu hi hz ⟨b', o, none⟩ c cap us (by rw [hk]; exact huslen) (by
            intro j v hj
            have hlt := (List.getElem?_eq_some_iff.1 hj).1
            rw [addr_add, hcell j hlt]; exact hj) (by omega) (by omega) (by rw [hby]; have := hb.1; simp only [Nat.zero_add] at this; omega)
          refine fresh 0 [] [] (by rw [hcells]; exact .nil) (by simp) (by simp) (by simp) (grownCap_ge _ _ _ _) ?_
          simp only [Nat.zero_add, List.nil_append, Array.empty_append] at hrun ⊢
          rw [hxe, h1]; exact hrun
    | some p =>
      obtain ⟨b0, k0⟩ := p
      rw [hspot] at hown hob
      obtain ⟨cap, hxe, hcap0, hlc, hcm⟩ := hown
      obtain ⟨cur, t', fz, f', hF, hh, hcur, hle, hfz, htyp, hlo⟩ := hob
      obtain ⟨rfl, rfl⟩ := htyp e hty
      have hcurs : cur.size = cap * k := by rw [hcur, ← hcap0, hsz]; omega
      have hndF : (b0 :: f').Nodup := by rw [← hF]; exact hr.objs.nodup id hid
      have holdsl : (cur.toList.take ob.cells.length).length = len * k := by rw [← hlo.len]; exact hol
      by_cases hroom : len + c ≤ cap
      · -- in place
        obtain ⟨ad, mm, cc, hye, hnews⟩ : ∃ ad mm cc, a.eval y = .slice ad mm cc ∧ mm = c ∧ ((mm = 0 ∧ us = []) ∨ ∃ b' o, ad = some ⟨b', o, none⟩ ∧ ∀ i, i < us.length → w.cell? ⟨b', o + i, none⟩ = us[i]?) := by
          rcases hcase with ⟨ad, cp, h1, _, h2, h3⟩ | ⟨b', o, cap', h1, h2⟩
          · exact ⟨ad, 0, cp, h1, h2.symm, .inl ⟨rfl, h3⟩⟩
          · exact ⟨some ⟨b', o, none⟩, c, cap', h1, rfl, .inr ⟨b', o, rfl, h2⟩⟩
        obtain ⟨rfl, hnews⟩ := hnews
        have hfit : len * i.size + us.length ≤ cur.size := by rw [hk, huslen, hcurs, ← Nat.add_mul]; exact Nat.mul_le_mul_right _ hroom
        have hrun : (Builtin.append_ #[t, t] tt #[a.eval x, a.eval y]).run P w =
            .ok (.slice (some ⟨b0, 0, none⟩) (len + mm) cap) (w.setRow b0 (cur.toList.take (len * i.size) ++ us ++ cur.toList.drop (len * i.size + us.length)).toArray) := by
          rcases hnews with ⟨rfl, rfl⟩ | ⟨b', o, rfl, hcell⟩
          · have hself : w.setRow b0 (cur.toList.take (len * i.size) ++ [] ++ cur.toList.drop (len * i.size + ([] : List Value).length)).toArray = w := by
              have : (cur.toList.take (len * i.size) ++ [] ++ cur.toList.drop (len * i.size + ([] : List Value).length)).toArray = cur := by simp
              rw [this]; exact setRow_self w b0 cur _ _ hh
            rw [hself, hxe, hye]
            have : len + 0 ≤ cap := hroom
            cases ad <;> simp [Builtin.append_, run_underlying hu, sizeOf, typeInfo, hi, Builtin.lenOf, Builtin.firstCells, hlc, storeCells, loadCells, loadCellsFrom]
          · rw [hxe, hye]
            exact run_append_room (P := P) w t tt t' i hu hi b0 len cap cur hh ⟨b', o, none⟩ mm cc us (by rw [hk]; exact huslen) (by
              intro j v hj
              have hlt := (List.getElem?_eq_some_iff.1 hj).1
              rw [addr_add, hcell j hlt]; exact hj) hone' hroom hfit
        have hsr := setRow_heap w b0 cur (cur.toList.take (len * i.size) ++ us ++ cur.toList.drop (len * i.size + us.length)).toArray t' (0, 0) hh
        have hso : ∀ b', b' ≠ b0 → (w.setRow b0 (cur.toList.take (len * i.size) ++ us ++ cur.toList.drop (len * i.size + us.length)).toArray).heap[b']? = w.heap[b']? := fun b' hb' => setRow_other w b0 b' _ hb'
        refine finish _ (some (b0, k0)) (b0 :: f') _ hrun (hr.renew (ob := ob) ho hm (by simp [he]) rfl rfl rfl (by simp) ?_ ?_ hndF ?_) ⟨cap, rfl, by rw [← hcap0, hsz], hroom, hcm⟩
        · intro b' _ hb'
          refine hso b' ?_
          rintro rfl
          rcases hb' with hb' | ⟨_, hb'⟩
          · exact hb' (by rw [hF]; simp)
          · exact hb' k0 rfl
        · intro hlat
          have hlenk : ob.cells.length = len * i.size := by rw [hol, hk]
          refine ⟨_, t', (0, 0), f', rfl, hsr, ?_, ?_, by simp, by simp, ?_⟩
          · rw [← hcur]; simp; omega
          · show (ob.cells ++ ys).length ≤ k0
            rw [hlenA, ← hcur, hcurs]; exact Nat.mul_le_mul_right _ hroom
          · show LRel S _ _ _ (ob.cells ++ ys) _ f'
            have htk : (cur.toList.take (len * i.size) ++ us ++ cur.toList.drop (len * i.size + us.length)).take (ob.cells ++ ys).length = cur.toList.take (len * i.size) ++ us := by
              refine List.take_left' ?_
              rw [List.length_append, List.length_append, ← hl.len, ← hlenk, ← hlo.len]
            show LRel S _ _ _ (ob.cells ++ ys) ((cur.toList.take (len * i.size) ++ us ++ cur.toList.drop (len * i.size + us.length)).toArray.toList.take (ob.cells ++ ys).length) f'
            rw [show (cur.toList.take (len * i.size) ++ us ++ cur.toList.drop (len * i.size + us.length)).toArray.toList = cur.toList.take (len * i.size) ++ us ++ cur.toList.drop (len * i.size + us.length) from by simp, htk]
            have h1 := hlo.mono hlat (fun b' hb' => hso b' (by rintro rfl; exact (List.nodup_cons.1 hndF).1 hb'))
            have h2 := hl.mono hlat (by simp)
            rw [hlenk] at h1
            simpa using h1.append h2
        · intro b' hb'; exact .inl (by rw [hF]; exact hb')
      · -- a new block
        rcases hcase with ⟨_, _, _, _, h0, _⟩ | ⟨b', o, cap', h1, hcell⟩
        · omega
        · have hrun := run_append_grow (P := P) w t tt t' i z hu hi hz ⟨b0, 0, none⟩ len cap (cur.toList.take ob.cells.length) (by rw [hk]; exact holdsl) (by
            intro j v hj
            have hlt := (List.getElem?_eq_some_iff.1 hj).1
            rw [addr_add, Nat.zero_add, cell_of_row w b0 j cur _ _ hh]
            rw [List.getElem?_take] at hj
            split at hj
            · simpa using hj
            · simp at hj) ⟨b', o, none⟩ c cap' us (by rw [hk]; exact huslen) (by
            intro j v hj
            have hlt := (List.getElem?_eq_some_iff.1 hj).1
            rw [addr_add, hcell j hlt]; exact hj) (by omega) (by omega) (by rw [hby]; exact growslice_fits (by omega) hb.1)
          refine fresh cap _ f' hlo (List.nodup_cons.1 hndF).2 (fun b hb => by rw [hF]; simp [hb]) (fun b1 k1 hb1 => by rw [hspot] at hb1; cases hb1; exact (List.nodup_cons.1 hndF).1) (grownCap_ge _ _ _ _) ?_
          rw [hxe, h1]; exact hrun) h
end
end Go.Abs
