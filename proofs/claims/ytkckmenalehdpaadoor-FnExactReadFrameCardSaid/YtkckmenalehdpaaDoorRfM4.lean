/- Proved in this text: lemmas and contracts of functions that the claim uses (parts: AbsQ, AbsR, AbsS, AbsT, AbsU, AbsV, AbsW). No condition. -/
import Derived.Test.YtkckmenalehdpaaDoorRfM3
import Derived.Laws.Tables
set_option linter.unusedVariables false
set_option linter.unusedSimpArgs false
set_option maxRecDepth 100000
set_option maxHeartbeats 4000000


namespace Go.Abs
open Go
def findN : List Nat → Nat → Nat → Option Nat
  | [], _, _ => none
  | h :: hs, i, k => match Nat.beq h i with
    | true => some k
    | false => findN hs i (k + 1)
theorem findN_some : ∀ {hs : List Nat} {i k j : Nat}, findN hs i k = some j → ∃ q, j = k + q ∧ hs[q]? = some i
  | [], _, _, _, h => by simp [findN] at h
  | a :: hs, i, k, j, h => by
    rw [findN] at h
    cases hb : Nat.beq a i with
    | true => rw [hb] at h; cases h; exact ⟨0, rfl, by simp [Nat.eq_of_beq_eq_true hb]⟩
    | false =>
      rw [hb] at h
      obtain ⟨q, h1, h2⟩ := findN_some h
      exact ⟨q + 1, by omega, by simpa using h2⟩
theorem findN_none : ∀ {hs : List Nat} {i k : Nat}, findN hs i k = none → i ∉ hs
  | [], _, _, _ => by simp
  | a :: hs, i, k, h => by
    rw [findN] at h
    cases hb : Nat.beq a i with
    | true => rw [hb] at h; cases h
    | false =>
      rw [hb] at h
      have h1 : a ≠ i := by rintro rfl; rw [Nat.beq_refl] at hb; cases hb
      have := findN_none h
      simp only [List.mem_cons, not_or]
      exact ⟨fun e => h1 e.symm, this⟩
inductive SnapX (O : List AObj) (hs : List Nat) : List AV → List AV → Prop
  | nil : SnapX O hs [] []
  | any {V vs us} : SnapX O hs vs us → SnapX O hs (V :: vs) (.any :: us)
  | keep {V vs us} : V.still = true → V.nofre = true → SnapX O hs vs us → SnapX O hs (V :: vs) (V :: us)
  | nilI {s vs us} : SnapX O hs vs us → SnapX O hs (.nilS :: vs) (.imm s 0 [] :: us)
  | own {id ep len len' sz ob es vs us} : findN hs id 0 = none → O[id]? = some ob → ob.ep = ep → ob.size = sz → len * ob.size = ob.cells.length → len = len' → SnapX O hs ob.cells es → SnapX O hs vs us → SnapX O hs (.own id ep 0 len :: vs) (.imm sz len' es :: us)
  | fre {s l ds es vs us} : SnapX O hs ds es → SnapX O hs vs us → SnapX O hs (.fre s l ds :: vs) (.imm s l es :: us)
  | ptr {id ep off ob es vs us} : findN hs id 0 = none → O[id]? = some ob → ob.ep = ep → SnapX O hs ob.cells es → SnapX O hs vs us → SnapX O hs (.ptr id ep off :: vs) (.iptr es off :: us)
  | agg {ds es vs us} : SnapX O hs ds es → SnapX O hs vs us → SnapX O hs (.agg ds :: vs) (.agg es :: us)
  | fn {f ds es vs us} : SnapX O hs ds es → SnapX O hs vs us → SnapX O hs (.fn f ds :: vs) (.fn f es :: us)
theorem SnapX.same {O : List AObj} {hs : List Nat} {cs cs' : List AV} (h : cs = cs') (hs' : cs'.all AV.still = true) (hf : cs'.all AV.nofre = true) : SnapX O hs cs cs' := by
  subst h
  induction cs with
  | nil => exact .nil
  | cons c cs ih =>
    simp only [List.all_cons, Bool.and_eq_true] at hs' hf
    exact .keep hs'.1 hf.1 (ih hs'.2 hf.2)
theorem SnapX.rel {O : List AObj} {hs : List Nat} {S S2 : Nat → Prop} {w ι ιM} {F : Nat → List Nat} (ho : ORel S w ι O F) (hS : ∀ b, S b → S2 b) (hS2 : ∀ b, b < w.heap.size → (∀ id ∈ hs, b ∉ F id) → S2 b) (hlt : ∀ id ∈ hs, id < O.length) {vs us : List AV} (h : SnapX O hs vs us) :
    ∀ {xs f}, LRel S w ι O vs xs f → (∀ b ∈ f, ∀ id ∈ hs, b ∉ F id) → LRel S2 w ιM [] us xs [] := by
  have blk : ∀ {b : Nat} {o : Obj}, w.heap[b]? = some o → b < w.heap.size := fun h => (Array.getElem?_eq_some_iff.1 h).1
  have apt : ∀ {id : Nat} {ob : AObj}, O[id]? = some ob → findN hs id 0 = none → ∀ b ∈ F id, ∀ id' ∈ hs, b ∉ F id' := fun {id ob} h1 h2 b hb id' hid' => by
    have hne : id ≠ id' := by rintro rfl; exact findN_none h2 hid'
    exact ho.apart id id' (List.getElem?_eq_some_iff.1 h1).1 (hlt id' hid') hne b hb
  induction h with
  | nil => intro xs f hl _; cases hl; exact .nil
  | any _ ih =>
    intro xs f hl hf
    obtain ⟨v, vs', f1, f2, rfl, hv, hr, rfl⟩ := hl.uncons
    exact .any (ih hr fun b hb => hf b (List.mem_append_right _ hb))
  | keep hs hn _ ih =>
    intro xs f hl hf
    obtain ⟨v, vs', f1, f2, rfl, hv, hr, rfl⟩ := hl.uncons
    have := nofre_nil hv hn
    subst this
    have := LRel.cons (still_any hv hs [] hS (fun _ _ => rfl) (by simp)) (ih hr fun b hb => hf b (List.mem_append_right _ hb))
    simpa using this
  | fn _ _ ih1 ih2 =>
    intro xs f hl hf
    obtain ⟨v, vs', f1, f2, rfl, hv, hr, rfl⟩ := hl.uncons
    cases hv with | fn a r => cases r; exact .fn (ih1 a (by simp)) (ih2 hr fun b hb => hf b (List.mem_append_right _ hb))
  | nilI _ ih =>
    intro xs f hl hf
    obtain ⟨v, vs', f1, f2, rfl, hv, hr, rfl⟩ := hl.uncons
    have := (LRel.slice_len hv).2.2 rfl
    subst this
    exact .imm0 (by simp) (ih hr fun b hb => hf b (List.mem_append_right _ hb))
  | @own id ep len len' sz ob es vs us hnf hob hep hsz hlen hll _ _ ih1 ih2 =>
    intro xs f hl hf
    subst hll hsz
    obtain ⟨v, vs', f1, f2, rfl, hv, hr, rfl⟩ := hl.uncons
    have hr2 := ih2 hr fun b hb => hf b (List.mem_append_right _ hb)
    have hoa := ho.obj id ob hob
    unfold ObjAt at hoa
    cases hv with
    | own q1 q2 q3 r =>
      rw [hob] at q1; cases q1
      have hc := q3 hep.symm
      cases hs : ι id with
      | none =>
        rw [hs] at hc hoa
        obtain ⟨h1, _, h3⟩ := hc
        subst h1; subst h3
        have : es = [] := by
          have := ih1 (xs := []) (f := []) (by rw [hoa.1]; exact .nil) (by simp)
          cases this; rfl
        subst this
        exact .imm0 (by simp) hr2
      | some p =>
        obtain ⟨b, k⟩ := p
        rw [hs] at hc hoa
        obtain ⟨cap, h1, _, h3, h4⟩ := hc
        obtain ⟨cur, t, fz, f', hF, hh, _, _, _, _, hl'⟩ := hoa
        subst h1
        have hap := apt hob hnf
        rw [hF] at hap
        have hi := ih1 hl' fun b hb => hap b (by simp [hb])
        refine .imm (us := cur.toList.take ob.cells.length) (hS2 _ (blk hh) (hap b (by simp))) (fun i hi => cell_of_heap hh _ i hi) ?_ ?_ h3 h4 hr2
        · exact hi
        · rw [hlen, hl'.len, hi.len]
  | @fre s l ds es vs us _ _ ih1 ih2 =>
    intro xs f hl hf
    obtain ⟨v, vs', f1, f2, rfl, hv, hr, rfl⟩ := hl.uncons
    have hr2 := ih2 hr fun b hb => hf b (List.mem_append_right _ hb)
    cases hv with
    | fre0 r =>
      have := ih1 (xs := []) (f := []) .nil (by simp)
      cases this
      exact .imm0 (by simp) hr2
    | @fre _ _ b _ cap cur t fz _ us' f' _ _ _ hh0 hsz hu hl' h1 h2 h3 r =>
      have hh := hh0.1
      have hi := ih1 hl'.lift fun b hb => hf b (by simp [hb])
      subst hu
      refine .imm (us := cur.toList.take ds.length) (hS2 _ (blk hh) (hf b (by simp))) (fun i hi => cell_of_heap hh _ i hi) hi ?_ h2 h3 hr2
      rw [h1, hl'.len, hi.len]
  | @ptr id ep off ob es vs us hnf hob hep _ _ ih1 ih2 =>
    intro xs f hl hf
    obtain ⟨v, vs', f1, f2, rfl, hv, hr, rfl⟩ := hl.uncons
    have hr2 := ih2 hr fun b hb => hf b (List.mem_append_right _ hb)
    have hoa := ho.obj id ob hob
    unfold ObjAt at hoa
    cases hv with
    | ptr q1 q2 q3 r =>
      rw [hob] at q1; cases q1
      have hc := q3 hep.symm
      cases hs : ι id with
      | none => rw [hs] at hc; exact hc.elim
      | some p =>
        obtain ⟨b, k⟩ := p
        rw [hs] at hc hoa
        obtain ⟨cur, t, fz, f', hF, hh, _, _, _, _, hl'⟩ := hoa
        have h1 : _ = Value.pointer (some ⟨b, off, none⟩) := hc
        subst h1
        have hap := apt hob hnf
        rw [hF] at hap
        have := LRel.iptr (O := []) (ι := ιM) (off := off) (S := S2) (us := cur.toList.take ob.cells.length) (hS2 _ (blk hh) (hap b (by simp))) (fun i hi => cell_of_heap hh _ i hi) (ih1 hl' fun b hb => hap b (by simp [hb])) hr2
        rwa [Nat.zero_add] at this
  | agg _ _ ih1 ih2 =>
    intro xs f hl hf
    obtain ⟨v, vs', f1, f2, rfl, hv, hr, rfl⟩ := hl.uncons
    obtain ⟨us', rfl, ha⟩ := LRel.agg_inv hv
    have := LRel.agg (ih1 ha fun b hb => hf b (List.mem_append_left _ hb)) (ih2 hr fun b hb => hf b (List.mem_append_right _ hb))
    simpa using this
inductive Hand (O : List AObj) (hs : List Nat) : List AV → List AV → Prop
  | nil : Hand O hs [] []
  | any {V vs us} : Hand O hs vs us → Hand O hs (V :: vs) (.any :: us)
  | keep {V vs us} : V.still = true → V.nofre = true → Hand O hs vs us → Hand O hs (V :: vs) (V :: us)
  | own {id ep off len len' j ob vs us} : hs[j]? = some id → O[id]? = some ob → ob.ep = ep → len = len' → Hand O hs vs us → Hand O hs (.own id ep off len :: vs) (.own j 0 off len' :: us)
  | ptr {id ep off j ob vs us} : hs[j]? = some id → O[id]? = some ob → ob.ep = ep → Hand O hs vs us → Hand O hs (.ptr id ep off :: vs) (.ptr j 0 off :: us)
  | agg {ds es vs us} : Hand O hs ds es → Hand O hs vs us → Hand O hs (.agg ds :: vs) (.agg es :: us)
  | snap {V U vs us} : SnapX O hs [V] [U] → Hand O hs vs us → Hand O hs (V :: vs) (U :: us)
inductive HandO (O : List AObj) : List Nat → List AObj → Prop
  | nil : HandO O [] []
  | cons {id hs ob mb M} : O[id]? = some ob → ob.cells = mb.cells → mb.cells.all AV.still = true → mb.ep = 0 → mb.size = ob.size → (mb.ty = none ∨ mb.ty = ob.ty) → HandO O hs M → HandO O (id :: hs) (mb :: M)
theorem HandO.at {O hs M} (h : HandO O hs M) : hs.length = M.length ∧ ∀ (j : Nat) (mb : AObj), M[j]? = some mb → ∃ id ob, hs[j]? = some id ∧ O[id]? = some ob ∧ ob.cells = mb.cells ∧ mb.cells.all AV.still = true ∧ mb.ep = 0 ∧ mb.size = ob.size ∧ (mb.ty = none ∨ mb.ty = ob.ty) := by
  induction h with
  | nil => exact ⟨rfl, by simp⟩
  | cons h1 h2 h3 h4 h5 h6 _ ih =>
    refine ⟨by simp [ih.1], fun j mb hj => ?_⟩
    cases j with
    | zero => simp at hj; subst hj; exact ⟨_, _, by simp, h1, h2, h3, h4, h5, h6⟩
    | succ j => simpa using ih.2 j mb (by simpa using hj)
def newOb (hs : List Nat) (M' : List AObj) (i : Nat) (ob : AObj) : AObj := match findN hs i 0 with
  | none => ob
  | some j => match M'[j]? with
    | none => ob
    | some mb => ⟨mb.cells, ob.ep, mb.size, mb.ty⟩
def newO (hs : List Nat) (M' : List AObj) : Nat → List AObj → List AObj
  | _, [] => []
  | k, ob :: O => newOb hs M' k ob :: newO hs M' (k + 1) O
theorem newO_len (hs : List Nat) (M' : List AObj) : ∀ (k : Nat) (O : List AObj), (newO hs M' k O).length = O.length
  | _, [] => rfl
  | k, _ :: O => by simp [newO, newO_len hs M' (k + 1) O]
theorem newO_at (hs : List Nat) (M' : List AObj) : ∀ (k : Nat) (O : List AObj) (i : Nat), (newO hs M' k O)[i]? = (O[i]?).map (newOb hs M' (k + i))
  | _, [], i => by simp [newO]
  | k, ob :: O, 0 => by simp [newO]
  | k, ob :: O, i + 1 => by rw [newO, List.getElem?_cons_succ, List.getElem?_cons_succ, newO_at hs M' (k + 1) O i]; congr 2; omega
def obF (hs : List Nat) (M' : List AObj) (i : Nat) (ob : AObj) : Option AObj := match findN hs i 0 with
  | none => match ob with
    | ⟨c, e, z, t⟩ => some ⟨c, e, z, t⟩
  | some j => match M'[j]? with
    | none => none
    | some ⟨c, _, z, t⟩ => match ob with
      | ⟨_, e, _, _⟩ => some ⟨c, e, z, t⟩
theorem obF_eq {hs : List Nat} {M' : List AObj} {i : Nat} {ob x : AObj} (h : obF hs M' i ob = some x) : newOb hs M' i ob = x := by
  unfold obF at h; unfold newOb
  cases hf : findN hs i 0 with
  | none => rw [hf] at h; exact Option.some.inj h
  | some j =>
    rw [hf] at h
    simp only at h ⊢
    cases hm : M'[j]? with
    | none => rw [hm] at h; cases h
    | some mb => rw [hm] at h; exact Option.some.inj h
def newF (hs : List Nat) (M' : List AObj) : Nat → List AObj → List AObj → Option (List AObj)
  | _, [], N => flatO N
  | k, ob :: O, N => match obF hs M' k ob with
    | none => none
    | some x => match newF hs M' (k + 1) O N with
      | none => none
      | some r => some (x :: r)
theorem newF_eq {hs : List Nat} {M' : List AObj} : ∀ {k : Nat} {O N O2 : List AObj}, newF hs M' k O N = some O2 → newO hs M' k O ++ N = O2
  | _, [], N, O2, h => by rw [newF] at h; rw [newO]; exact flatO_eq h
  | k, ob :: O, N, O2, h => by
    rw [newF] at h
    cases hx : obF hs M' k ob with
    | none => rw [hx] at h; cases h
    | some x =>
      rw [hx] at h
      cases hr : newF hs M' (k + 1) O N with
      | none => simp only [hr] at h; cases h
      | some r => simp only [hr] at h; rw [newO, obF_eq hx, List.cons_append, newF_eq hr]; exact Option.some.inj h
mutual
def AV.reF (m base : Nat) : AV → Option AV
  | .own id ep off len => match Nat.ble m id with
    | true => some (.own (id - m + base) ep off len)
    | false => none
  | .agg ds => match AV.reFL m base ds with
    | some r => some (.agg r)
    | none => none
  | .tup ds => match AV.reFL m base ds with
    | some r => some (.tup r)
    | none => none
  | .any => some .any
  | .sc v => some (.sc v)
  | .nilS => some .nilS
  | .imm s 0 [] => some (.imm s 0 [])
  | _ => none
def AV.reFL (m base : Nat) : List AV → Option (List AV)
  | [] => some []
  | V :: Vs => match AV.reF m base V with
    | none => none
    | some W => match AV.reFL m base Vs with
      | some r => some (W :: r)
      | none => none
end
section
variable {S S3 : Nat → Prop} {w : World} {ι ι3 : Nat → Spot} {O O3 : List AObj} {m base : Nat}
mutual
theorem AV.reF_rel (hι : ∀ id, m ≤ id → ι3 (id - m + base) = ι id) (hO : ∀ id ob, m ≤ id → O[id]? = some ob → O3[id - m + base]? = some ob) : ∀ (V W : AV), V.reF m base = some W → ∀ {x f}, VRel S w ι O V x f → VRel S3 w ι3 O3 W x f
  | .own id ep off len, W, h, x, f, hv => by
    rw [AV.reF] at h
    cases hb : Nat.ble m id with
    | false => rw [hb] at h; cases h
    | true =>
      rw [hb] at h; cases h
      have hle := Nat.le_of_ble_eq_true hb
      cases hv with | own a b c r => cases r; exact .own (hO _ _ hle a) b (fun e => by rw [hι _ hle]; exact c e) .nil
  | .agg ds, W, h, x, f, hv => by
    rw [AV.reF] at h
    cases hr : AV.reFL m base ds with
    | none => rw [hr] at h; cases h
    | some r =>
      rw [hr] at h; cases h
      cases hv with | agg a r' => cases r'; exact .agg (AV.reFL_rel hι hO ds r hr a) .nil
  | .tup ds, W, h, x, f, hv => by
    rw [AV.reF] at h
    cases hr : AV.reFL m base ds with
    | none => rw [hr] at h; cases h
    | some r =>
      rw [hr] at h; cases h
      cases hv with | tup a r' => cases r'; exact .tup (AV.reFL_rel hι hO ds r hr a) .nil
  | .any, W, h, x, f, hv => by rw [AV.reF] at h; cases h; cases hv with | any r => cases r; exact .any .nil
  | .sc _, W, h, x, f, hv => by rw [AV.reF] at h; cases h; cases hv with | sc r => cases r; exact .sc .nil
  | .nilS, W, h, x, f, hv => by rw [AV.reF] at h; cases h; cases hv with | nilS r => cases r; exact .nilS .nil
  | .imm s l cs, W, h, x, f, hv => by
    match l, cs, h, hv with
    | 0, [], h, hv =>
      rw [AV.reF] at h; cases h
      cases hv with
      | imm0 h0 r => cases r; exact .imm0 h0 .nil
      | imm a b c d e f r => cases r; exact .imm0 ⟨fun h => (by cases h), f⟩ .nil
    | l + 1, cs, h, hv => simp [AV.reF] at h
    | 0, c :: cs, h, hv => simp [AV.reF] at h
  | .fre _ _ _, W, h, x, f, hv => by simp [AV.reF] at h
  | .ptr _ _ _, W, h, x, f, hv => by simp [AV.reF] at h
  | .iptr _ _, W, h, x, f, hv => by simp [AV.reF] at h
  | .fn _ _, W, h, x, f, hv => by simp [AV.reF] at h
  | .ifc _ _, W, h, x, f, hv => by simp [AV.reF] at h
theorem AV.reFL_rel (hι : ∀ id, m ≤ id → ι3 (id - m + base) = ι id) (hO : ∀ id ob, m ≤ id → O[id]? = some ob → O3[id - m + base]? = some ob) : ∀ (Vs Ws : List AV), AV.reFL m base Vs = some Ws → ∀ {xs f}, LRel S w ι O Vs xs f → LRel S3 w ι3 O3 Ws xs f
  | [], Ws, h, xs, f, hl => by rw [AV.reFL] at h; cases h; cases hl; exact .nil
  | V :: Vs, Ws, h, xs, f, hl => by
    rw [AV.reFL] at h
    cases hv : AV.reF m base V with
    | none => rw [hv] at h; cases h
    | some W =>
      rw [hv] at h
      cases hr : AV.reFL m base Vs with
      | none => simp only [hr] at h; cases h
      | some r =>
        simp only [hr] at h; cases h
        obtain ⟨v, vs', f1, f2, rfl, hv1, hr1, rfl⟩ := hl.uncons
        exact LRel.cons (AV.reF_rel hι hO V W hv hv1) (AV.reFL_rel hι hO Vs r hr hr1)
end
end
theorem still_all {S w ι O S' w' ι' O'} : ∀ {cs : List AV} {xs f}, cs.all AV.still = true → LRel S w ι O cs xs f → (∀ b, S b → S' b) → (∀ b, S b → w'.heap[b]? = w.heap[b]?) → (∀ b ∈ f, w'.heap[b]? = w.heap[b]?) → LRel S' w' ι' O' cs xs f := by
  intro cs
  induction cs with
  | nil => intro xs f _ hl _ _ _; cases hl; exact .nil
  | cons c cs ih =>
    intro xs f hs hl h1 h2 h3
    simp only [List.all_cons, Bool.and_eq_true] at hs
    obtain ⟨v, vs', f1, f2, rfl, hv, hr, rfl⟩ := hl.uncons
    exact LRel.cons (still_any hv hs.1 O' h1 h2 fun b hb => h3 b (by simp [hb])) (ih hs.2 hr h1 h2 fun b hb => h3 b (by simp [hb]))
theorem Hand.rel {O : List AObj} {hs : List Nat} {M : List AObj} {S S2 : Nat → Prop} {w ι ιM} (hM : HandO O hs M) (hι : ∀ (j id : Nat), hs[j]? = some id → ιM j = ι id) (hS : ∀ b, S b → S2 b) {F : Nat → List Nat} (hO : ORel S w ι O F) (hS2 : ∀ b, b < w.heap.size → (∀ id ∈ hs, b ∉ F id) → S2 b) (hlt : ∀ id ∈ hs, id < O.length) {vs us} (h : Hand O hs vs us) : ∀ {xs f}, LRel S w ι O vs xs f → (∀ b ∈ f, ∀ id ∈ hs, b ∉ F id) → ∃ f', LRel S2 w ιM M us xs f' ∧ (∀ b ∈ f', b ∈ f) := by
  induction h with
  | nil => intro xs f hl _; cases hl; exact ⟨[], .nil, by simp⟩
  | any _ ih =>
    intro xs f hl hfn
    obtain ⟨v, vs', f1, f2, rfl, hv, hr, rfl⟩ := hl.uncons
    obtain ⟨f', h1, h2⟩ := ih hr fun b hb => hfn b (List.mem_append_right _ hb)
    exact ⟨f', .any h1, fun b hb => List.mem_append_right _ (h2 b hb)⟩
  | keep hs hn _ ih =>
    intro xs f hl hfn
    obtain ⟨v, vs', f1, f2, rfl, hv, hr, rfl⟩ := hl.uncons
    have := nofre_nil hv hn
    subst this
    obtain ⟨f', h1, h2⟩ := ih hr fun b hb => hfn b (List.mem_append_right _ hb)
    exact ⟨f', by simpa using LRel.cons (still_any hv hs M hS (fun _ _ => rfl) (by simp)) h1, fun b hb => List.mem_append_right _ (h2 b hb)⟩
  | @own id ep off len len' j ob vs us hj ho he hln _ ih =>
    intro xs f hl hfn
    subst hln
    obtain ⟨v, vs', f1, f2, rfl, hv, hr, rfl⟩ := hl.uncons
    obtain ⟨f', h1, h2⟩ := ih hr fun b hb => hfn b (List.mem_append_right _ hb)
    refine ⟨f', ?_, fun b hb => List.mem_append_right _ (h2 b hb)⟩
    cases hv with
    | own q1 q2 q3 r =>
      rw [ho] at q1; cases q1
      have hjl : j < M.length := by rw [← hM.at.1]; exact (List.getElem?_eq_some_iff.1 hj).1
      obtain ⟨id', ob', e1, e2, _, _, e5, e6, _⟩ := hM.at.2 j _ (List.getElem?_eq_getElem hjl)
      rw [hj] at e1; cases e1
      rw [ho] at e2; cases e2
      exact .own (List.getElem?_eq_getElem hjl) (by omega) (fun _ => by rw [hι j _ hj, e6]; exact q3 he.symm) h1
  | @ptr id ep off j ob vs us hj ho he _ ih =>
    intro xs f hl hfn
    obtain ⟨v, vs', f1, f2, rfl, hv, hr, rfl⟩ := hl.uncons
    obtain ⟨f', h1, h2⟩ := ih hr fun b hb => hfn b (List.mem_append_right _ hb)
    refine ⟨f', ?_, fun b hb => List.mem_append_right _ (h2 b hb)⟩
    cases hv with
    | ptr q1 q2 q3 r =>
      rw [ho] at q1; cases q1
      have hjl : j < M.length := by rw [← hM.at.1]; exact (List.getElem?_eq_some_iff.1 hj).1
      obtain ⟨id', ob', e1, e2, _, _, e5, e6, _⟩ := hM.at.2 j _ (List.getElem?_eq_getElem hjl)
      rw [hj] at e1; cases e1
      rw [ho] at e2; cases e2
      exact .ptr (List.getElem?_eq_getElem hjl) (by omega) (fun _ => by rw [hι j _ hj]; exact q3 he.symm) h1
  | agg _ _ ih1 ih2 =>
    intro xs f hl hfn
    obtain ⟨v, vs', f1, f2, rfl, hv, hr, rfl⟩ := hl.uncons
    obtain ⟨us', rfl, ha⟩ := LRel.agg_inv hv
    obtain ⟨g', a1, a2⟩ := ih1 ha fun b hb => hfn b (List.mem_append_left _ hb)
    obtain ⟨f', h1, h2⟩ := ih2 hr fun b hb => hfn b (List.mem_append_right _ hb)
    refine ⟨g' ++ f', .agg a1 h1, fun b hb => ?_⟩
    rcases List.mem_append.1 hb with hb | hb
    · exact List.mem_append_left _ (a2 b hb)
    · exact List.mem_append_right _ (h2 b hb)
  | snap hx _ ih =>
    intro xs f hl hfn
    obtain ⟨v, vs', f1, f2, rfl, hv, hr, rfl⟩ := hl.uncons
    obtain ⟨f', h1, h2⟩ := ih hr fun b hb => hfn b (List.mem_append_right _ hb)
    have := SnapX.rel (ιM := ιM) hO hS hS2 hlt hx hv fun b hb => hfn b (List.mem_append_left _ hb)
    exact ⟨[] ++ f', LRel.cons this.lift h1, fun b hb => List.mem_append_right _ (h2 b (by simpa using hb))⟩
section
variable {P : Program} {n m : Nat} {G : Ctx} {T : List (Nat × AV)} {O : List AObj} {Q : Exit → St → Prop} {ops : Array Oper} {l : List Oper} {tt : TypeId} {pos : String} {after : Array Edge} {tab : List (Nat × Ty)}
theorem nodup_get {hs : List Nat} (h : hs.Nodup) {i j id : Nat} (h1 : hs[i]? = some id) (h2 : hs[j]? = some id) : i = j :=
  (List.getElem?_inj (List.getElem?_eq_some_iff.1 h1).1 h).1 (h1.trans h2.symm)
theorem callG_rel {f : FuncId} {xs : List Operand} {As : List AV} {M M' N : List AObj} {r r' : AV} {hs : List Nat} (hc : FnG P f As M M' N r) (hh : Hand O hs (xs.map (av T)) As) (hM : HandO O hs M) (hnd : hs.Nodup) (hlen : M'.length = M.length)
    (hsz : ∀ (j : Nat) (a b : AObj), M[j]? = some a → M'[j]? = some b → b.size = a.size) (hM' : Out M') (hN : Out N) (hre : r.reF M.length O.length = some r') {a : Act} {w : World} (hr : Rel n m G ⟨T, O⟩ a w) :
    Calls P f (xs.map a.eval).toArray w fun e w' => ∃ v, e = .returned v ∧ ∃ S ι F, RelAt n m G S ι F ⟨T, newO hs M' 0 O ++ N⟩ a w' ∧ VRel S w' ι (newO hs M' 0 O ++ N) r' v [] := by
  obtain ⟨S, ι, F, hr⟩ := hr
  obtain ⟨⟨fn, hf, hb, hnm⟩, hcall⟩ := hc
  obtain ⟨hlM, hatM⟩ := hM.at
  let S2 : Nat → Prop := fun b => b < w.heap.size ∧ ∀ id ∈ hs, b ∉ F id
  let ιM : Nat → Spot := fun j => match hs[j]? with | some id => ι id | none => none
  let FM : Nat → List Nat := fun j => match hs[j]? with | some id => F id | none => []
  have hιM : ∀ (j id : Nat), hs[j]? = some id → ιM j = ι id := fun j id h => by show (match hs[j]? with | some id => ι id | none => none) = _; rw [h]
  have hFM : ∀ (j id : Nat), hs[j]? = some id → FM j = F id := fun j id h => by show (match hs[j]? with | some id => F id | none => []) = _; rw [h]
  have hidl : ∀ (j id : Nat), hs[j]? = some id → id < O.length := fun j id h => by
    have hj : j < M.length := by rw [← hlM]; exact (List.getElem?_eq_some_iff.1 h).1
    obtain ⟨id', ob, e1, e2, _⟩ := hatM j _ (List.getElem?_eq_getElem hj)
    rw [h] at e1; cases e1; exact (List.getElem?_eq_some_iff.1 e2).1
  have hmem : ∀ id ∈ hs, ∃ j, j < M.length ∧ hs[j]? = some id := fun id h => by
    obtain ⟨j, hj, e⟩ := List.getElem_of_mem h
    exact ⟨j, by omega, by rw [List.getElem?_eq_getElem hj, e]⟩
  have hex : ∀ j, j < M.length → ∃ id, hs[j]? = some id := fun j hj => ⟨hs[j], List.getElem?_eq_getElem (by omega)⟩
  have hSS : ∀ b, S b → S2 b := fun b hb => ⟨hr.stable b hb, fun id hid hbf => by
    obtain ⟨j, hj, e⟩ := hmem id hid
    exact (hr.foot id (hidl j id e) b hbf).2.1 hb⟩
  have hOM : ORel S2 w ιM M FM := by
    refine ⟨fun j mb hj => ?_, fun j hj => ?_, fun i j hi hj hij b hb => ?_⟩
    · obtain ⟨id, ob, e1, e2, e3, e4, e5, e6, e7⟩ := hatM j mb hj
      rw [hιM j id e1, hFM j id e1]
      have ho := hr.objs.obj id ob e2
      unfold ObjAt at ho ⊢
      cases hs' : ι id with
      | none => rw [hs'] at ho; rw [← e3]; exact ho
      | some p =>
        obtain ⟨b, k⟩ := p
        rw [hs'] at ho
        obtain ⟨cur', t', fz', f2, q1, q2, q3, q4, q5, q6, q7⟩ := ho
        refine ⟨cur', t', fz', f2, q1, q2, q3, by rw [← e3]; exact q4, q5, fun e he => ?_, ?_⟩
        · rcases e7 with e7 | e7
          · rw [e7] at he; cases he
          · exact q6 e (by rw [← e7]; exact he)
        · rw [← e3]
          exact still_all (by rw [e3]; exact e4) q7 hSS (fun _ _ => rfl) (fun _ _ => rfl)
    · obtain ⟨id, e⟩ := hex j hj
      rw [hFM j id e]; exact hr.objs.nodup id (hidl j id e)
    · obtain ⟨id1, e1⟩ := hex i hi
      obtain ⟨id2, e2⟩ := hex j hj
      rw [hFM i id1 e1] at hb; rw [hFM j id2 e2]
      exact hr.objs.apart id1 id2 (hidl i id1 e1) (hidl j id2 e2) (fun e => hij (nodup_get hnd e1 (e ▸ e2))) b hb
  have hl := hr.evals xs
  obtain ⟨f', hl2, hf'⟩ := hh.rel (S2 := S2) (ιM := ιM) hM hιM hSS hr.objs (fun b h1 h2 => ⟨h1, h2⟩) (fun id hid => by obtain ⟨j, hj, e⟩ := hmem id hid; exact hidl j id e) hl (by simp)
  have hf0 : f' = [] := List.eq_nil_iff_forall_not_mem.2 fun b hb => by simpa using hf' b hb
  subst hf0
  refine (hcall w S2 ιM FM (xs.map a.eval) (fun b h => h.1) (hr.glb.mono hSS) hOM (fun j hj b hb => ?_) hl2).mono fun e w' he => ?_
  · obtain ⟨id, e⟩ := hex j hj
    rw [hFM j id e] at hb
    exact ⟨fun h => h.2 id (List.mem_of_getElem? e) hb, (hr.foot id (hidl j id e) b hb).2.2⟩
  obtain ⟨v, S', ι', F', rfl, hS1, hS2, hS3, hι', hO', hF', hv, hk⟩ := he
  refine ⟨v, rfl, ?_⟩
  have hold : ∀ b, b < w.heap.size → (∀ id ∈ hs, b ∉ F id) → w'.heap[b]? = w.heap[b]? := fun b hb hn => hk.block b hb (by
    rintro ⟨i, hi, hbf⟩
    obtain ⟨id, e⟩ := hex i hi
    rw [hFM i id e] at hbf
    exact hn id (List.mem_of_getElem? e) hbf)
  let S3 : Nat → Prop := fun b => S b ∨ (S' b ∧ w.heap.size ≤ b)
  let ι3 : Nat → Spot := fun i => if i < O.length then ι i else ι' (M.length + (i - O.length))
  let F3 : Nat → List Nat := fun i => if i < O.length then (match findN hs i 0 with | some j => F' j | none => F i) else F' (M.length + (i - O.length))
  let O3 := newO hs M' 0 O ++ N
  have hl3 : (newO hs M' 0 O).length = O.length := newO_len hs M' 0 O
  have hO3lt : ∀ i, i < O.length → O3[i]? = (O[i]?).map (newOb hs M' i) := fun i hi => by
    show (newO hs M' 0 O ++ N)[i]? = _
    rw [List.getElem?_append_left (by omega), newO_at, Nat.zero_add]
  have hO3ge : ∀ i, O.length ≤ i → O3[i]? = N[i - O.length]? := fun i hi => by
    show (newO hs M' 0 O ++ N)[i]? = _
    rw [List.getElem?_append_right (by omega), hl3]
  have hob : ∀ i ob, O[i]? = some ob → (newOb hs M' i ob).ep = ob.ep ∧ (newOb hs M' i ob).size = ob.size := fun i ob h => by
    unfold newOb
    cases hfd : findN hs i 0 with
    | none => exact ⟨rfl, rfl⟩
    | some j =>
      cases hmj : M'[j]? with
      | none => exact ⟨by simp [hmj], by simp [hmj]⟩
      | some mb =>
        obtain ⟨q, rfl, hq⟩ := findN_some hfd
        rw [Nat.zero_add] at hmj
        have hqm : q < M.length := by rw [← hlM]; exact (List.getElem?_eq_some_iff.1 hq).1
        obtain ⟨id', ob', e1, e2, _, _, _, e6, _⟩ := hatM q _ (List.getElem?_eq_getElem hqm)
        rw [hq] at e1; cases e1
        rw [h] at e2; cases e2
        simp only [Nat.zero_add, hmj, true_and]
        exact (hsz q _ _ (List.getElem?_eq_getElem hqm) hmj).trans e6
  have hlat : Later S w ι O S3 w' ι3 O3 := by
    refine ⟨fun b h => .inl h, fun b hb => hold b (hr.stable b hb) (hSS b hb).2, fun id ob h => ?_⟩
    have hlt : id < O.length := (List.getElem?_eq_some_iff.1 h).1
    obtain ⟨h1, h2⟩ := hob id ob h
    exact ⟨newOb hs M' id ob, by rw [hO3lt id hlt, h]; rfl, .inr ⟨h1, h2, by show (if _ then _ else _) = _; rw [if_pos hlt]⟩⟩
  have hF3f : ∀ (i j : Nat), i < O.length → findN hs i 0 = some j → F3 i = F' j := fun i j hi h => by show (if _ then _ else _) = _; rw [if_pos hi, h]
  have hF3n : ∀ (i : Nat), i < O.length → findN hs i 0 = none → F3 i = F i := fun i hi h => by show (if _ then _ else _) = _; rw [if_pos hi, h]
  have hF3g : ∀ (i : Nat), O.length ≤ i → F3 i = F' (M.length + (i - O.length)) := fun i hi => by show (if _ then _ else _) = _; rw [if_neg (by omega)]
  have hlMN : (M' ++ N).length = M.length + N.length := by rw [List.length_append, hlen]
  have hfind : ∀ (i j : Nat), findN hs i 0 = some j → j < M.length ∧ hs[j]? = some i := fun i j h => by
    obtain ⟨q, rfl, hq⟩ := findN_some h
    rw [Nat.zero_add]
    exact ⟨by rw [← hlM]; exact (List.getElem?_eq_some_iff.1 hq).1, hq⟩
  have hl3' : O3.length = O.length + N.length := by show (newO hs M' 0 O ++ N).length = _; rw [List.length_append, hl3]
  -- each place's blocks: where they come from
  have hsrc : ∀ k, k < (M' ++ N).length → ∀ b ∈ F' k, ((∃ id, id ∈ hs ∧ id < O.length ∧ b ∈ F id) ∨ w.heap.size ≤ b) ∧ ¬ S' b ∧ b < w'.heap.size := fun k hk' b hb => by
    obtain ⟨q1, q2, q3⟩ := hF' k hk' b hb
    refine ⟨?_, q2, q3⟩
    rcases q1 with ⟨i, hi, hbf⟩ | q1
    · obtain ⟨id, e⟩ := hex i hi
      rw [hFM i id e] at hbf
      exact .inl ⟨id, List.mem_of_getElem? e, hidl i id e, hbf⟩
    · exact .inr q1
  have hnoS : ∀ k, k < (M' ++ N).length → ∀ b ∈ F' k, (G.M0 b ∨ G.w0.heap.size ≤ b) ∧ ¬ S3 b ∧ b < w'.heap.size := fun k hk' b hb => by
    obtain ⟨q1, q2, q3⟩ := hsrc k hk' b hb
    rcases q1 with ⟨id, hid, hlt, hbf⟩ | q1
    · obtain ⟨p1, p2, p3⟩ := hr.foot id hlt b hbf
      refine ⟨p1, ?_, q3⟩
      rintro (h | ⟨h, _⟩)
      · exact p2 h
      · exact q2 h
    · refine ⟨.inr (by have := hr.keeps.size; omega), ?_, q3⟩
      rintro (h | ⟨h, _⟩)
      · have := hr.stable b h; omega
      · exact q2 h
  have hnotin : ∀ i, i < O.length → findN hs i 0 = none → ∀ b ∈ F i, w'.heap[b]? = w.heap[b]? := fun i hi h b hb => hold b (hr.foot i hi b hb).2.2 fun id hid hbf => by
    obtain ⟨j, hj, e⟩ := hmem id hid
    have hne : i ≠ id := by rintro rfl; exact findN_none h hid
    exact hr.objs.apart i id hi (hidl j id e) hne b hb hbf
  have hcells : ∀ {cs : List AV} {us g}, cs.all AV.still = true → Loc cs → LRel S' w' ι' (M' ++ N) cs us g → LRel S3 w' ι3 O3 cs us g := fun h1 h2 hl =>
    Loc.rel h2 (still_all (S' := S') h1 hl (fun _ h => h) (fun _ _ => rfl) (fun _ _ => rfl))
  refine ⟨S3, ι3, F3, ⟨hr.defers, hr.size, fun t => (hr.tmps t).mono hlat (by simp), ⟨fun i ob h => ?_, fun i h => ?_, fun i j hi hj hij b hb => ?_⟩, fun i h b hb => ?_, ⟨fun b hb => .inl (hr.base.1 b hb), ?_⟩, ?_, ?_, fun i h => ?_, ?_⟩, ?_⟩
  · have h : O3[i]? = some ob := h
    by_cases hlt : i < O.length
    · rw [hO3lt i hlt, List.getElem?_eq_getElem hlt] at h
      simp only [Option.map_some, Option.some.injEq] at h
      rw [show ι3 i = ι i from if_pos hlt]
      cases hfd : findN hs i 0 with
      | some j =>
        obtain ⟨hjm, hji⟩ := hfind i j hfd
        rw [hF3f i j hlt hfd]
        have hjM' : j < M'.length := by omega
        have hmb : M'[j]? = some M'[j] := List.getElem?_eq_getElem hjM'
        have h' : ob = ⟨M'[j].cells, (O[i]).ep, M'[j].size, M'[j].ty⟩ := by
          rw [← h]; unfold newOb; rw [hfd]; simp only [hmb]
        have ho := hO'.obj j M'[j] (by rw [List.getElem?_append_left hjM']; exact hmb)
        rw [hι' j hjm, hιM j i hji] at ho
        have hout := hM'.at hmb
        rw [h']
        unfold ObjAt at ho ⊢
        cases hs' : ι i with
        | none => rw [hs'] at ho; exact ho
        | some p =>
          obtain ⟨b, k⟩ := p
          rw [hs'] at ho
          obtain ⟨cur', t', fz', f2, q1, q2, q3, q4, q5, q6, q7⟩ := ho
          exact ⟨cur', t', fz', f2, q1, q2, q3, q4, q5, q6, hcells hout.1 hout.2 q7⟩
      | none =>
        rw [hF3n i hlt hfd]
        have h' : ob = O[i] := by rw [← h]; unfold newOb; rw [hfd]
        subst h'
        have ho := hr.objs.obj i O[i] (List.getElem?_eq_getElem hlt)
        have key := hnotin i hlt hfd
        unfold ObjAt at ho ⊢
        cases hs' : ι i with
        | none => rw [hs'] at ho; exact ho
        | some p =>
          obtain ⟨b, k⟩ := p
          rw [hs'] at ho
          obtain ⟨cur', t', fz', f2, q1, q2, q3, q4, q5, q6, q7⟩ := ho
          exact ⟨cur', t', fz', f2, q1, by rw [key b (by rw [q1]; simp)]; exact q2, q3, q4, q5, q6, q7.mono hlat fun b' hb' => key b' (by rw [q1]; simp [hb'])⟩
    · rw [hO3ge i (by omega)] at h
      rw [show ι3 i = ι' (M.length + (i - O.length)) from if_neg hlt, hF3g i (by omega)]
      have ho := hO'.obj (M.length + (i - O.length)) ob (by rw [List.getElem?_append_right (by omega), hlen, Nat.add_sub_cancel_left]; exact h)
      have hout := hN.at h
      unfold ObjAt at ho ⊢
      cases hs' : ι' (M.length + (i - O.length)) with
      | none => rw [hs'] at ho; exact ho
      | some p =>
        obtain ⟨b, k⟩ := p
        rw [hs'] at ho
        obtain ⟨cur', t', fz', f2, q1, q2, q3, q4, q5, q6, q7⟩ := ho
        exact ⟨cur', t', fz', f2, q1, q2, q3, q4, q5, q6, hcells hout.1 hout.2 q7⟩
  · have h : i < O3.length := h
    by_cases hlt : i < O.length
    · cases hfd : findN hs i 0 with
      | some j => rw [hF3f i j hlt hfd]; exact hO'.nodup j (by have := (hfind i j hfd).1; omega)
      | none => rw [hF3n i hlt hfd]; exact hr.objs.nodup i hlt
    · rw [hF3g i (by omega)]; exact hO'.nodup _ (by omega)
  · have hi : i < O3.length := hi
    have hj : j < O3.length := hj
    -- the place in the callee's list, if there is one
    have hpl : ∀ k, k < O3.length → (∃ q, q < (M' ++ N).length ∧ F3 k = F' q ∧ ((q < M.length ∧ hs[q]? = some k) ∨ (O.length ≤ k ∧ q = M.length + (k - O.length)))) ∨ (k < O.length ∧ findN hs k 0 = none ∧ F3 k = F k) := fun k hk' => by
      by_cases hlt : k < O.length
      · cases hfd : findN hs k 0 with
        | some q => obtain ⟨h1, h2⟩ := hfind k q hfd; exact .inl ⟨q, by omega, hF3f k q hlt hfd, .inl ⟨h1, h2⟩⟩
        | none => exact .inr ⟨hlt, rfl, hF3n k hlt hfd⟩
      · exact .inl ⟨_, by omega, hF3g k (by omega), .inr ⟨by omega, rfl⟩⟩
    have hcross : ∀ k q, k < O.length → findN hs k 0 = none → q < (M' ++ N).length → ∀ b ∈ F k, b ∉ F' q := fun k q hk' hn hq b hb hb' => by
      rcases (hsrc q hq b hb').1 with ⟨id, hid, hlt, hbf⟩ | h
      · have hne : k ≠ id := by rintro rfl; exact findN_none hn hid
        exact hr.objs.apart k id hk' hlt hne b hb hbf
      · have := (hr.foot k hk' b hb).2.2; omega
    rcases hpl i hi with ⟨q1, p1, p2, p3⟩ | ⟨p1, p2, p3⟩ <;> rcases hpl j hj with ⟨q2, r1, r2, r3⟩ | ⟨r1, r2, r3⟩
    · rw [p2] at hb; rw [r2]
      refine hO'.apart q1 q2 p1 r1 (fun e => ?_) b hb
      subst e
      rcases p3 with ⟨a1, a2⟩ | ⟨a1, a2⟩ <;> rcases r3 with ⟨b1, b2⟩ | ⟨b1, b2⟩
      · rw [a2] at b2; cases b2; exact hij rfl
      · omega
      · omega
      · omega
    · rw [p2] at hb; rw [r3]; intro hb'; exact hcross j q1 r1 r2 p1 b hb' hb
    · rw [p3] at hb; rw [r2]; exact hcross i q2 p1 p2 r1 b hb
    · rw [p3] at hb; rw [r3]; exact hr.objs.apart i j p1 r1 hij b hb
  · have h : i < O3.length := h
    by_cases hlt : i < O.length
    · cases hfd : findN hs i 0 with
      | some j => rw [hF3f i j hlt hfd] at hb; exact hnoS j (by have := (hfind i j hfd).1; omega) b hb
      | none =>
        rw [hF3n i hlt hfd] at hb
        obtain ⟨q1, q2, q3⟩ := hr.foot i hlt b hb
        refine ⟨q1, ?_, by have := hk.size; omega⟩
        rintro (h' | ⟨_, h'⟩)
        · exact q2 h'
        · omega
    · rw [hF3g i (by omega)] at hb; exact hnoS _ (by omega) b hb
  · rintro b (h' | ⟨_, h'⟩)
    · exact hr.base.2 b h'
    · exact .inr (by have := hr.keeps.size; omega)
  · rintro b (h' | ⟨h', _⟩)
    · have := hr.stable b h'; have := hk.size; omega
    · exact hS3 b h'
  · refine ⟨hk.os.trans hr.keeps.os, hk.tape.trans hr.keeps.tape, hk.output.trans hr.keeps.output, by have := hr.keeps.size; have := hk.size; omega, fun b hb hM0 => ?_⟩
    rw [hold b (by have := hr.keeps.size; omega) fun id hid hbf => ?_]
    · exact hr.keeps.block b hb hM0
    · obtain ⟨j, hj, e⟩ := hmem id hid
      rcases (hr.foot id (hidl j id e) b hbf).1 with h | h
      · exact hM0 h
      · omega
  · have hm : m ≤ O.length := hr.mle
    rw [show ι3 i = ι i from if_pos (by omega)]; exact hr.spots i h
  · have hm : m ≤ O.length := hr.mle
    show m ≤ O3.length
    omega
  · refine AV.reF_rel (S := S') (ι := ι') (O := M' ++ N) (fun id hid => ?_) (fun id ob hid h => ?_) r r' hre hv
    · show (if _ then _ else _) = _
      rw [if_neg (by omega)]; congr 1; omega
    · show O3[id - M.length + O.length]? = some ob
      rw [hO3ge _ (by omega), Nat.add_sub_cancel]
      rw [List.getElem?_append_right (by omega), hlen] at h
      exact h
theorem WpL.callG {f : FuncId} {xs : List Operand} {ats : Array TypeId} {As : List AV} {M M' N O2 : List AObj} {r r' : AV} {hs : List Nat} {k base d : Nat} (hc : FnG P f As M M' N r) (hh : Hand O hs (xs.map (av T)) As) (hM : HandO O hs M) (hnd : nodupB hs = true)
    (hlen : (M'.map AObj.size) = (M.map AObj.size)) (hM' : Out M') (hN : Out N) (hk : cnt M.length 0 = some k) (hb : cnt O.length 0 = some base) (hre : r.reF k base = some r') (hO2 : newF hs M' 0 O N = some O2) (hn : d < n) (h : WpL P n m G false ops l ⟨(d, r') :: T, O2⟩ Q) :
    WpL P n m G false ops ({ dst := some d, op := .call { callee := .value (.func f), args := xs.toArray, argTypes := ats }, type := tt, pos := pos, after := after, guard := none } :: l) ⟨T, O⟩ Q :=
  WpL.op rfl (fun a w hr => by
    have := newF_eq hO2; subst this
    have e1 := cnt_eq hk; rw [Nat.add_zero] at e1; subst e1
    have e2 := cnt_eq hb; rw [Nat.add_zero] at e2; subst e2
    have hl : M'.length = M.length := by have := congrArg List.length hlen; simpa using this
    have hcl := callG_rel hc hh hM (nodupB_spec hnd) hl (fun j x y hx hy => by
      have := congrArg (fun l : List Nat => l[j]?) hlen
      simp only [List.getElem?_map, hx, hy, Option.map_some, Option.some.injEq] at this
      exact this) hM' hN hre hr
    obtain ⟨⟨fn, hf, hbd, hnm⟩, _⟩ := hc
    have hex : (execOp a.eval { dst := some d, op := .call { callee := .value (.func f), args := xs.toArray, argTypes := ats }, type := tt, pos := pos, after := after, guard := none }).run P w = .ok (.enter f (xs.map a.eval).toArray) w := by
      simp only [execOp, resolve, Act.eval, Deferred.ofValue, invoke, callFunc, Sem.run_bind, Sem.run_pure, Result.andThen_ok, program, Sem.run, hf, hnm, hbd, Bool.false_eq_true, if_false]
      simp
    unfold Oper.wp
    rw [hex]
    refine hcl.mono fun e w' ⟨v, he, S, ι, F, hr', hv⟩ => ?_
    subst he
    exact ⟨S, ι, F, hr'.put hn hv⟩) h
end
def HandM (O : List AObj) (hs : List Nat) (M : List AObj) (vs us : List AV) : Prop := Hand O hs vs us
section
variable {O : List AObj} {hs : List Nat} {M : List AObj} {vs us : List AV}
theorem HandM.nil : HandM O hs M [] [] := Hand.nil
theorem HandM.any {V} (r : HandM O hs M vs us) : HandM O hs M (V :: vs) (.any :: us) := Hand.any r
theorem HandM.keep {V : AV} (h1 : V.still = true) (h2 : V.nofre = true) (r : HandM O hs M vs us) : HandM O hs M (V :: vs) (V :: us) := Hand.keep h1 h2 r
theorem HandM.own {id ep off len len' j : Nat} {ob mb : AObj} (hj : hs[j]? = some id) (ho : O[id]? = some ob) (he : ob.ep = ep) (hm : M[j]? = some mb) (hc : ob.cells = mb.cells) (hl : len = len') (r : HandM O hs M vs us) : HandM O hs M (.own id ep off len :: vs) (.own j 0 off len' :: us) := Hand.own hj ho he hl r
theorem HandM.ptr {id ep off j : Nat} {ob mb : AObj} (hj : hs[j]? = some id) (ho : O[id]? = some ob) (he : ob.ep = ep) (hm : M[j]? = some mb) (hc : ob.cells = mb.cells) (r : HandM O hs M vs us) : HandM O hs M (.ptr id ep off :: vs) (.ptr j 0 off :: us) := Hand.ptr hj ho he r
theorem HandM.agg {ds es} (r1 : HandM O hs M ds es) (r : HandM O hs M vs us) : HandM O hs M (.agg ds :: vs) (.agg es :: us) := Hand.agg r1 r
end
section
variable {P : Program} {n m : Nat} {G : Ctx} {T : List (Nat × AV)} {O : List AObj} {Q : Exit → St → Prop} {ops : Array Oper} {l : List Oper} {tt : TypeId} {pos : String} {after : Array Edge} {tab : List (Nat × Ty)}
theorem WpL.callM {f : FuncId} {xs : List Operand} {ats : Array TypeId} {As : List AV} {M M' N O2 : List AObj} {r r' : AV} {hs : List Nat} {k base d : Nat} (hc : FnG P f As M M' N r) (hh : HandM O hs M (xs.map (av T)) As) (hM : HandO O hs M) (hnd : nodupB hs = true)
    (hlen : (M'.map AObj.size) = (M.map AObj.size)) (hM' : Out M') (hN : Out N) (hk : cnt M.length 0 = some k) (hb : cnt O.length 0 = some base) (hre : r.reF k base = some r') (hO2 : newF hs M' 0 O N = some O2) (hn : d < n) (h : WpL P n m G false ops l ⟨(d, r') :: T, O2⟩ Q) :
    WpL P n m G false ops ({ dst := some d, op := .call { callee := .value (.func f), args := xs.toArray, argTypes := ats }, type := tt, pos := pos, after := after, guard := none } :: l) ⟨T, O⟩ Q := WpL.callG hc hh hM hnd hlen hM' hN hk hb hre hO2 hn h
theorem FnG.of_bodyF (hP : TabOk P tab) {f : FuncId} {fn : Func} {c : Code} {args : List AV} {M M' N MN : List AObj} {r : AV} {k : Nat} (hf : P.funcs[f]? = some fn) (hnt : fn.ntmps = k) (hb : fn.body = some c) (hnm : (fn.name == "runtime.NumGoroutine") = false)
    (hal : args.length ≤ k) (hml : cnt M.length 0 = some m) (hMN : catF M' N = some MN) (h : ∀ G, WpA P k m G c ⟨enumT 0 args, M⟩ (FinG tab m fn.results MN r)) : FnG P f args M M' N r := by
  have := catF_eq hMN; subst this
  exact FnG.of_body hP hf hnt hb hnm hal (cnt_eq hml) h
variable {r r1v r2v : AV} {r1 r2 : ResultVar} {e' : Exit} {a b : Option Nat} {o1 o2 o3 o4 o5 : AObj}
theorem FinG.e {rs : Array ResultVar} {N : List AObj} {r : AV} {σ : St} {e : Exit} (he : endB e = true) (h : ResG tab m N r rs σ) : FinG tab m rs N r e σ := by
  cases e <;> first | exact h | cases he
theorem FinG.o10 (he : endB e' = true) (hv : ResV tab T O r1 r1v) (hx : Ex O [some 0] [r1v] [r]) (hN : NEx O [some 0] [o1]) : FinG tab 1 #[r1] [o1] r e' ⟨T, O⟩ := FinG.e he (.one hv hN (nodupB_spec rfl) rfl hx)
end
end Go.Abs
namespace Go.Abs.K
theorem FG {tab : List (Nat × Ty)} {m : Nat} {rs : Array ResultVar} {N : List AObj} {r : AV} {e : Exit} {σ : St} (h : Abs.FinG tab m rs N r e σ) : Abs.FinG tab m rs N r e σ := h
end Go.Abs.K


namespace Go.Abs
open Go
theorem LRel.at {S w ι O cs vs f} (h : LRel S w ι O cs vs f) {i : Nat} {V : AV} (hi : cs[i]? = some V) : ∃ x f1 g f2, vs[i]? = some x ∧ f = f1 ++ (g ++ f2) ∧ VRel S w ι O V x g ∧
    ∀ {S' w' ι' O'}, (∀ {as1 us e}, LRel S w ι O as1 us e → LRel S' w' ι' O' as1 us e) → ∀ V' g', VRel S' w' ι' O' V' x g' → LRel S' w' ι' O' (cs.set i V') vs (f1 ++ (g' ++ f2)) := by
  have hlt : i < cs.length := (List.getElem?_eq_some_iff.1 hi).1
  have hV : cs[i] = V := (List.getElem?_eq_some_iff.1 hi).2
  have e : cs = cs.take i ++ ([V] ++ cs.drop (i + 1)) := by
    rw [List.singleton_append, ← hV, ← List.drop_eq_getElem_cons hlt, List.take_append_drop]
  rw [e] at h
  obtain ⟨us, vs2, f1, f3, rfl, h1, h2, rfl⟩ := h.split
  obtain ⟨xs, vs3, g, f2, rfl, h3, h4, rfl⟩ := h2.split
  have hl1 := h1.len
  have hl3 := h3.len
  have hul : us.length = i := by rw [← hl1, List.length_take]; omega
  obtain ⟨x, rfl⟩ : ∃ x, xs = [x] := by
    cases xs with
    | nil => simp at hl3
    | cons x xs => cases xs with
      | nil => exact ⟨x, rfl⟩
      | cons y ys => simp at hl3
  refine ⟨x, f1, g, f2, by rw [List.getElem?_append_right (by omega), hul]; simp, rfl, h3, fun {S' w' ι' O'} mono V' g' hv => ?_⟩
  have e2 : cs.set i V' = cs.take i ++ ([V'] ++ cs.drop (i + 1)) := by
    rw [List.set_eq_take_append_cons_drop, if_pos hlt]; simp
  rw [e2]
  exact LRel.append (mono h1) (LRel.append hv (mono h4))
end Go.Abs


namespace Go.Abs
open Go
def rows {α : Type} (f : α → List AV) (l : List α) : List AV := l.flatMap f
section
variable {α : Type} {f : α → List AV} {k : Nat}
theorem rows_cons (a : α) (l : List α) : rows f (a :: l) = f a ++ rows f l := by simp [rows]
theorem rows_len (hk : ∀ a, (f a).length = k) (l : List α) : (rows f l).length = l.length * k := by
  induction l with
  | nil => simp [rows]
  | cons a l ih => rw [rows_cons, List.length_append, hk, ih, List.length_cons, Nat.add_mul]; omega
variable [Inhabited α]
end
theorem still_rows {α : Type} {f : α → List AV} (h : ∀ a, (f a).all AV.still = true) (l : List α) : (rows f l).all AV.still = true := by
  unfold rows; rw [List.all_flatMap]; rw [List.all_eq_true]; intro a _; exact h a
theorem nofre_rows {α : Type} {f : α → List AV} (h : ∀ a, (f a).all AV.nofre = true) (l : List α) : (rows f l).all AV.nofre = true := by
  unfold rows; rw [List.all_flatMap]; rw [List.all_eq_true]; intro a _; exact h a
theorem Loc.append {a b : List AV} (h1 : Loc a) (h2 : Loc b) : Loc (a ++ b) := by
  induction h1 with
  | nil => exact h2
  | any _ ih => exact .any ih
  | sc _ ih => exact .sc ih
  | nilS _ ih => exact .nilS ih
  | imm0 _ ih => exact .imm0 ih
  | own _ ih => exact .own ih
  | fre h _ _ ih => exact .fre h ih
  | agg h _ _ ih => exact .agg h ih
  | tup h _ _ ih => exact .tup h ih
theorem Loc.rows {α : Type} {f : α → List AV} (h : ∀ a, Loc (f a)) (l : List α) : Loc (rows f l) := by
  induction l with
  | nil => exact .nil
  | cons a l ih => rw [rows_cons]; exact Loc.append (h a) ih
theorem Snap.append {O : List AObj} {a b c d : List AV} (h1 : Snap O a c) (h2 : Snap O b d) : Snap O (a ++ b) (c ++ d) := by
  induction h1 with
  | nil => exact h2
  | any _ ih => exact .any ih
  | keep p q _ ih => exact .keep p q ih
  | nilI _ ih => exact .nilI ih
  | own p q r s t u _ _ ih => exact .own p q r s t u ih
  | ownO p q r s t u v _ _ ih => exact .ownO p q r s t u v ih
  | fre h _ _ ih => exact .fre h ih
  | ptr p q h _ _ ih => exact .ptr p q h ih
  | agg h _ _ ih => exact .agg h ih
  | fn h _ _ ih => exact .fn h ih
theorem Snap.rows {α : Type} {O : List AObj} {f g : α → List AV} (h : ∀ a, Snap O (f a) (g a)) (l : List α) : Snap O (rows f l) (rows g l) := by
  induction l with
  | nil => exact .nil
  | cons a l ih => rw [rows_cons, rows_cons]; exact Snap.append (h a) ih
section
variable {P : Program} {n m : Nat} {G : Ctx} {T : List (Nat × AV)} {O : List AObj} {Q : Exit → St → Prop} {ops : Array Oper} {l : List Oper} {d : Nat} {tt : TypeId} {pos : String} {after : Array Edge} {tab : List (Nat × Ty)} {md : Bool}
variable {α : Type} [Inhabited α] {f : α → List AV} {k i : Nat} {xs : List α}
theorem WpL.idxOJ (hP : TabOk P tab) {t e b : Nat} {zs : List AV} {x y : Operand} {id ep len : Nat} {ob : AObj} {j : Int} {kk : IntKind} (ht : tlook tab t = some (.slice e 1 b zs)) (hx : av T x = .own id ep 0 len)
    (ho : O[id]? = some ob) (he : ob.ep = ep) (hy : av T y = .sc (.int kk j)) (hj : 0 ≤ j ∧ j < len) (hn : d < n) (h : WpL P n m G md ops l ⟨(d, .ptr id ep j.toNat) :: T, O⟩ Q) :
    WpL P n m G md ops ({ dst := some d, op := .indexAddr t x y, type := tt, pos := pos, after := after, guard := none } :: l) ⟨T, O⟩ Q :=
  WpL.idxO hP ht hx ho he hy hj hn (by simpa using h)
theorem Weak.trans {m : Nat} {σ σ' σ'' : St} (h1 : Weak m σ σ') (h2 : Weak m σ' σ'') : Weak m σ σ'' := fun n G a w h => h2 n G a w (h1 n G a w h)
end
section
variable {P : Program} {n m : Nat} {G : Ctx} {T : List (Nat × AV)} {O : List AObj} {Q : Exit → St → Prop} {ops : Array Oper} {l : List Oper} {d : Nat} {tt : TypeId} {pos : String} {after : Array Edge} {tab : List (Nat × Ty)} {md : Bool}
variable {α : Type} {f : α → List AV} {k i : Nat} {xs : List α}
end
section
variable {O : List AObj} {ids : List (Option Nat)} {N : List AObj} {α : Type} {f : α → List AV}
theorem NEx.rows {id ep sz : Nat} {ty : Option TypeId} {xs ys : List α} (hf : ∀ a, (f a).all AV.still = true) (ho : O[id]? = some ⟨Abs.rows f xs, ep, sz, ty⟩) (h : xs = ys) (r : NEx O ids N) : NEx O (some id :: ids) (⟨Abs.rows f ys, 0, sz, ty⟩ :: N) :=
  .obj ho (by rw [h]) (still_rows hf _) rfl rfl (.inr rfl) r
variable {O' os os' : List AObj} {ep ep' sz sz' : Nat} {ty ty' : Option TypeId}
theorem ReO.rows {xs ys : List α} (hf : ∀ a, (f a).all AV.still = true) (h : xs = ys) (ht : ty' = none ∨ ty' = ty) (r : ReO O O' os os') : ReO O O' (⟨Abs.rows f xs, ep, sz, ty⟩ :: os) (⟨Abs.rows f ys, ep', sz', ty'⟩ :: os') := .cons (Re.same (by rw [h]) (still_rows hf _)) ht r
end
inductive Nf : List AV → List AV → Prop
  | nil : Nf [] []
  | keep {V vs us} : Nf vs us → Nf (V :: vs) (V :: us)
  | fre {s vs us} : Nf vs us → Nf (.nilS :: vs) (.fre s 0 [] :: us)
theorem Nf.rel {vs us : List AV} (h : Nf vs us) : ∀ {S w ι O xs f}, LRel S w ι O vs xs f → LRel S w ι O us xs f := by
  induction h with
  | nil => intro S w ι O xs f hl; exact hl
  | keep _ ih =>
    intro S w ι O xs f hl
    obtain ⟨v, vs', f1, f2, rfl, hv, hr, rfl⟩ := hl.uncons
    exact LRel.cons hv (ih hr)
  | fre _ ih =>
    intro S w ι O xs f hl
    cases hl with
    | nilS r => exact .fre0 (ih r)
theorem Nf.len {vs us : List AV} (h : Nf vs us) : vs.length = us.length := by
  induction h with
  | nil => rfl
  | keep _ ih => simp [ih]
  | fre _ ih => simp [ih]
theorem Nf.append {a b c d : List AV} (h1 : Nf a c) (h2 : Nf b d) : Nf (a ++ b) (c ++ d) := by
  induction h1 with
  | nil => exact h2
  | keep _ ih => exact .keep ih
  | fre _ ih => exact .fre ih
theorem RelAt.cells {n m G S ι F T O a w} (hr : RelAt n m G S ι F ⟨T, O⟩ a w) {id : Nat} {ob : AObj} {cs : List AV} (ho : O[id]? = some ob) (h : ∀ O' xs f, LRel S w ι O' ob.cells xs f → LRel S w ι O' cs xs f) (hl : cs.length = ob.cells.length) :
    RelAt n m G S ι F ⟨T, O.set id ⟨cs, ob.ep, ob.size, ob.ty⟩⟩ a w := by
  have hidl : id < O.length := (List.getElem?_eq_some_iff.1 ho).1
  have hlat : Later S w ι O S w ι (O.set id ⟨cs, ob.ep, ob.size, ob.ty⟩) := by
    refine ⟨fun _ h => h, fun _ _ => rfl, fun i obi hi => ?_⟩
    by_cases e : id = i
    · subst e; rw [ho] at hi; cases hi
      exact ⟨⟨cs, ob.ep, ob.size, ob.ty⟩, by simp [hidl], .inr ⟨rfl, rfl, rfl⟩⟩
    · exact ⟨obi, by rw [List.getElem?_set, if_neg e]; exact hi, .inr ⟨rfl, rfl, rfl⟩⟩
  refine ⟨hr.defers, hr.size, fun t' => (hr.tmps t').mono hlat (fun _ _ => rfl), ⟨fun i obi hi => ?_, fun i hi => hr.objs.nodup i (by simpa using hi), fun i j hi hj => hr.objs.apart i j (by simpa using hi) (by simpa using hj)⟩, fun i hi => hr.foot i (by simpa using hi), hr.base, hr.stable, hr.keeps, hr.spots, by show m ≤ (O.set id _).length; simp only [List.length_set]; exact hr.mle⟩
  have hi : (O.set id ⟨cs, ob.ep, ob.size, ob.ty⟩)[i]? = some obi := hi
  by_cases e : id = i
  · subst e
    simp only [List.getElem?_set_self hidl, Option.some.injEq] at hi
    subst hi
    have hob := hr.objs.obj id ob ho
    unfold ObjAt at hob ⊢
    cases hs : ι id with
    | none =>
      rw [hs] at hob
      refine ⟨?_, hob.2⟩
      have : cs.length = 0 := by rw [hl, hob.1]; rfl
      exact List.eq_nil_of_length_eq_zero this
    | some p =>
      rw [hs] at hob
      obtain ⟨cur', t', fz', f2, q1, q2, q3, q4, q5, q6, q7⟩ := hob
      exact ⟨cur', t', fz', f2, q1, q2, q3, by simp only; rw [hl]; exact q4, q5, q6, by simp only; rw [hl]; exact h _ _ _ (q7.mono hlat (fun _ _ => rfl))⟩
  · rw [List.getElem?_set, if_neg e] at hi
    have hob := hr.objs.obj i obi hi
    unfold ObjAt at hob ⊢
    cases hs : ι i with
    | none => rw [hs] at hob; exact hob
    | some p =>
      rw [hs] at hob
      obtain ⟨cur', t', fz', f2, q1, q2, q3, q4, q5, q6, q7⟩ := hob
      exact ⟨cur', t', fz', f2, q1, q2, q3, q4, q5, q6, q7.mono hlat (fun _ _ => rfl)⟩
section
variable {P : Program} {n m : Nat} {G : Ctx} {T : List (Nat × AV)} {O : List AObj} {Q : Exit → St → Prop} {ops : Array Oper} {l : List Oper} {d : Nat} {tt : TypeId} {pos : String} {after : Array Edge} {tab : List (Nat × Ty)}
variable {α : Type} {f : α → List AV} {k : Nat}
end
def prF (a : Int × Int) : List AV := [I a.1, I a.2]
def plF (a : Int × Int × Int) : List AV := [I a.1, I a.2.1, I a.2.2]
abbrev Blok := Int × List Int
def blkI (b : Blok) : List AV := [I b.1, .imm 1 b.2.length (ints b.2)]
def blkF (b : Blok) : List AV := [I b.1, .fre 1 b.2.length (ints b.2)]
abbrev Mbk := Bool × List Blok
def mbI (b : Mbk) : List AV := [B b.1, .imm 2 b.2.length (rows blkI b.2)]
def mbF (b : Mbk) : List AV := [B b.1, .fre 2 b.2.length (rows blkF b.2)]
abbrev Fra := Int × Int × List Int
def frI (b : Fra) : List AV := [I b.1, I b.2.1, .imm 1 b.2.2.length (ints b.2.2)]
def frF (b : Fra) : List AV := [I b.1, I b.2.1, .fre 1 b.2.2.length (ints b.2.2)]
def liF (b : List Int) : List AV := [.fre 1 b.length (ints b)]
@[simp] theorem len_pr (l : List (Int × Int)) : (rows prF l).length = l.length * 2 := rows_len (f := prF) (fun _ => rfl) l
@[simp] theorem len_pl (l : List (Int × Int × Int)) : (rows plF l).length = l.length * 3 := rows_len (f := plF) (fun _ => rfl) l
@[simp] theorem len_bI (l : List Blok) : (rows blkI l).length = l.length * 2 := rows_len (f := blkI) (fun _ => rfl) l
@[simp] theorem len_bF (l : List Blok) : (rows blkF l).length = l.length * 2 := rows_len (f := blkF) (fun _ => rfl) l
@[simp] theorem len_mI (l : List Mbk) : (rows mbI l).length = l.length * 2 := rows_len (f := mbI) (fun _ => rfl) l
@[simp] theorem len_mF (l : List Mbk) : (rows mbF l).length = l.length * 2 := rows_len (f := mbF) (fun _ => rfl) l
@[simp] theorem len_fI (l : List Fra) : (rows frI l).length = l.length * 3 := rows_len (f := frI) (fun _ => rfl) l
@[simp] theorem len_fF (l : List Fra) : (rows frF l).length = l.length * 3 := rows_len (f := frF) (fun _ => rfl) l
theorem loc_pr (a : Int × Int) : Loc (prF a) := .sc (.sc .nil)
theorem loc_pl (a : Int × Int × Int) : Loc (plF a) := .sc (.sc (.sc .nil))
theorem loc_blk (b : Blok) : Loc (blkF b) := .sc (.fre (Loc.ints _) .nil)
theorem loc_mb (b : Mbk) : Loc (mbF b) := .sc (.fre (Loc.rows loc_blk _) .nil)
theorem loc_fr (b : Fra) : Loc (frF b) := .sc (.sc (.fre (Loc.ints _) .nil))
theorem loc_li (b : List Int) : Loc (liF b) := .fre (Loc.ints _) .nil
section
variable {P : Program} {n m : Nat} {G : Ctx} {T : List (Nat × AV)} {O : List AObj} {Q : Exit → St → Prop} {ops : Array Oper} {l : List Oper} {d : Nat} {tt : TypeId} {pos : String} {after : Array Edge} {tab : List (Nat × Ty)} {i : Nat}
end
end Go.Abs


namespace Go.Abs
open Go
section
variable {P : Program} {n m : Nat} {G : Ctx} {md : Bool} {T : List (Nat × AV)} {O : List AObj} {Q : Exit → St → Prop} {ops : Array Oper} {l : List Oper} {d : Nat} {tt : TypeId} {pos : String} {after : Array Edge}
end
section
variable {P : Program} {n m : Nat} {G : Ctx} {md : Bool} {T : List (Nat × AV)} {O : List AObj} {Q : Exit → St → Prop} {ops : Array Oper} {l : List Oper} {d : Nat} {tt : TypeId} {pos : String} {after : Array Edge} {tab : List (Nat × Ty)}
end
def FnB (P : Program) (f : FuncId) (args : List AV) (p : Prop) (N1 : List AObj) (r1 : AV) (N0 : List AObj) (r0 : AV) : Prop := (p → FnC P f args N1 r1) ∧ (¬ p → FnC P f args N0 r0)
theorem WpL.callB {P : Program} {n m : Nat} {G : Ctx} {T : List (Nat × AV)} {O : List AObj} {Q : Exit → St → Prop} {ops : Array Oper} {l : List Oper} {d : Nat} {tt : TypeId} {pos : String} {after : Array Edge} {f : FuncId} {xs : List Operand} {ats : Array TypeId} {As : List AV} {p : Prop} {N1 N0 : List AObj} {r1 r0 r1' r0' : AV} {id : Nat} (hc : FnB P f As p N1 r1 N0 r0) (hs : Snap O (xs.map (av T)) As)
    (hl1 : Loc [r1]) (hN1 : Out N1) (hl0 : Loc [r0]) (hN0 : Out N0) (hid : cnt O.length 0 = some id) (hok1 : r1.shOk = true) (hre1 : r1.shF id = some r1') (hok0 : r0.shOk = true) (hre0 : r0.shF id = some r0') (hn : d < n)
    (h1 : p → WpL P n m G false ops l ⟨(d, r1') :: T, O ++ N1⟩ Q) (h0 : ¬ p → WpL P n m G false ops l ⟨(d, r0') :: T, O ++ N0⟩ Q) :
    WpL P n m G false ops ({ dst := some d, op := .call { callee := .value (.func f), args := xs.toArray, argTypes := ats }, type := tt, pos := pos, after := after, guard := none } :: l) ⟨T, O⟩ Q := by
  by_cases hp : p
  · exact WpL.callF (hc.1 hp) hs hl1 hN1 hid hok1 hre1 hn (h1 hp)
  · exact WpL.callF (hc.2 hp) hs hl0 hN0 hid hok0 hre0 hn (h0 hp)
end Go.Abs


namespace Go.Abs
open Go
abbrev GFact := Option (Nat × AV)
def gdeps (fs : List GFact) (o : Oper) : List (Nat × AV) := o.after.toList.filterMap fun e => if Region.binds .any e = true then (fs[e.on]?).join else none
def reach (ops : Array Oper) : Nat → Nat → Nat → Bool
  | 0, _, _ => false
  | f + 1, i, j => match ops[i]? with
    | none => false
    | some o => (o.after.toList.any fun e => Region.binds .any e && Nat.beq e.on j) || (o.after.toList.any fun e => Region.binds .any e && reach ops f e.on j)
theorem reach_listed {ops : Array Oper} {n : Nat} {listed : Array Bool} (inv : HeadInv .any ops n listed) : ∀ (f i j : Nat), reach ops f i j = true → listed.getD i false = true → listed.getD j false = true
  | 0, i, j, h, _ => by simp [reach] at h
  | f + 1, i, j, h, hl => by
    rw [reach] at h
    split at h
    · cases h
    · rename_i o ho
      rcases Bool.or_eq_true_iff.1 h with h | h
      · obtain ⟨e, he, hx⟩ := List.any_eq_true.1 h
        rw [Bool.and_eq_true] at hx
        have := inv.closed i o ho hl e (by simpa using he) hx.1
        rw [Nat.eq_of_beq_eq_true hx.2] at this; exact this
      · obtain ⟨e, he, hx⟩ := List.any_eq_true.1 h
        rw [Bool.and_eq_true] at hx
        exact reach_listed inv f _ _ hx.2 (inv.closed i o ho hl e (by simpa using he) hx.1)
inductive Pat : List (Option AObj) → List AObj → Prop
  | nil {R} : Pat [] R
  | one {ob ps R} (r : Pat ps R) : Pat (some ob :: ps) (ob :: R)
  | any {ob ps R} (r : Pat ps R) : Pat (none :: ps) (ob :: R)
theorem Pat.all : ∀ {Op A : List AObj}, Pat (Op.map some) A → ∃ R, A = Op ++ R
  | [], A, _ => ⟨A, rfl⟩
  | ob :: Op, _, .one r => by obtain ⟨R, rfl⟩ := Pat.all r; exact ⟨R, rfl⟩
inductive OpG (P : Program) (n m : Nat) (G : Ctx) (ops : Array Oper) (T0 : List (Nat × AV)) (F : List (Nat × AV)) (o : Oper) : Nat → GFact → Option (List (Option AObj)) → List AObj → List AObj → Prop
  | pre {d V O} (Op : List (Option AObj)) (hd : o.dst = some d) (h : ∀ Tv Ov, Pat Op Ov → WpL P n m G false ops [o] ⟨F ++ (T0 ++ Tv), Ov⟩ (Only ⟨(d, V) :: (F ++ (T0 ++ Tv)), Ov⟩)) : OpG P n m G ops T0 F o 0 (some (d, V)) (some Op) O O
  | fixed {d V O} (hd : o.dst = some d) (h : ∀ Tv, WpL P n m G false ops [o] ⟨F ++ (T0 ++ Tv), O⟩ (Only ⟨(d, V) :: (F ++ (T0 ++ Tv)), O⟩)) : OpG P n m G ops T0 F o 1 (some (d, V)) none O O
  | step {d V O O'} (hd : o.dst = some d) (h : ∀ Tv, WpL P n m G false ops [o] ⟨F ++ (T0 ++ Tv), O⟩ (Only ⟨(d, V) :: (F ++ (T0 ++ Tv)), O'⟩)) : OpG P n m G ops T0 F o 2 (some (d, V)) none O O'
  | stepN {O O'} (hd : o.dst = none) (h : ∀ Tv, WpL P n m G false ops [o] ⟨F ++ (T0 ++ Tv), O⟩ (Only ⟨F ++ (T0 ++ Tv), O'⟩)) : OpG P n m G ops T0 F o 2 none none O O'
inductive HeadG (P : Program) (n m : Nat) (G : Ctx) (ops : Array Oper) (T0 : List (Nat × AV)) : List GFact → List AObj → List Oper → List GFact → List Nat → List (Option (List (Option AObj))) → List (List AObj) → List AObj → Prop
  | nil {fs O} : HeadG P n m G ops T0 fs O [] [] [] [] [O] O
  | still {fs O o l x k y out ks ds Os O' F} (hF : gdeps fs o = F) (hk : k < 2) (h : OpG P n m G ops T0 F o k x y O O) (r : HeadG P n m G ops T0 (fs ++ [x]) O l out ks ds Os O') : HeadG P n m G ops T0 fs O (o :: l) (x :: out) (k :: ks) (y :: ds) Os O'
  | step {fs O o l x y out ks ds Os O1 O' F} (hF : gdeps fs o = F) (h : OpG P n m G ops T0 F o 2 x y O O1) (r : HeadG P n m G ops T0 (fs ++ [x]) O1 l out ks ds Os O') : HeadG P n m G ops T0 fs O (o :: l) (x :: out) (2 :: ks) (y :: ds) (O :: Os) O'
def isS (ks : List Nat) (j : Nat) : Bool := Nat.beq (ks.getD j 0) 2
def sc (ks : List Nat) (j : Nat) : Nat := ((List.range j).filter (isS ks)).length
theorem sc_cons (k : Nat) (ks : List Nat) (j : Nat) : sc (k :: ks) (j + 1) = (if Nat.beq k 2 = true then 1 else 0) + sc ks j := by
  unfold sc
  rw [List.range_succ_eq_map, List.filter_cons, List.filter_map]
  have : (isS (k :: ks) ∘ Nat.succ) = isS ks := by funext x; simp [isS]
  rw [this]
  have h0 : isS (k :: ks) 0 = Nat.beq k 2 := by simp [isS]
  rw [h0]
  split <;> simp <;> omega
section
variable {P : Program} {n m : Nat} {G : Ctx} {ops : Array Oper} {T0 : List (Nat × AV)}
theorem HeadG.hd {fs O l out ks ds Os O'} (h : HeadG P n m G ops T0 fs O l out ks ds Os O') : Os[0]? = some O := by
  induction h with
  | nil => rfl
  | still _ _ _ _ ih => exact ih
  | step => rfl
theorem HeadG.at {fs O l out ks ds Os O'} (h : HeadG P n m G ops T0 fs O l out ks ds Os O') : ∀ {j : Nat} {o : Oper}, l[j]? = some o → ∃ x k y A B, out[j]? = some x ∧ ks[j]? = some k ∧ ds[j]? = some y ∧ Os[sc ks j]? = some A ∧
    Os[(if isS ks j = true then 1 else 0) + sc ks j]? = some B ∧ OpG P n m G ops T0 (gdeps (fs ++ out.take j) o) o k x y A B := by
  induction h with
  | nil => intro j o h; simp at h
  | @still fs O o l x k y out ks ds Os O' F hF hk h r ih =>
    intro j o' hj
    have e : ¬ Nat.beq k 2 = true := by intro h; have := Nat.eq_of_beq_eq_true h; omega
    cases j with
    | zero =>
      simp only [List.getElem?_cons_zero, Option.some.injEq] at hj
      subst hj
      have h0 : isS (k :: ks) 0 = Nat.beq k 2 := by simp [isS]
      refine ⟨x, k, y, O, O, rfl, rfl, rfl, r.hd, ?_, ?_⟩
      · rw [h0, if_neg e]; exact r.hd
      · simp only [List.take_zero, List.append_nil]; rw [hF]; exact h
    | succ j =>
      obtain ⟨x', k', y', A, B, h1, h2, h2', h3, h4, h5⟩ := ih (j := j) (o := o') (by simpa using hj)
      have hs : isS (k :: ks) (j + 1) = isS ks j := by simp [isS]
      refine ⟨x', k', y', A, B, by simpa using h1, by simpa using h2, by simpa using h2', ?_, ?_, ?_⟩
      · rw [sc_cons, if_neg e, Nat.zero_add]; exact h3
      · rw [hs, sc_cons, if_neg e, Nat.zero_add]; exact h4
      · rw [List.take_succ_cons]; rw [List.append_assoc] at h5; exact h5
  | @step fs O o l x y out ks ds Os O1 O' F hF h r ih =>
    intro j o' hj
    cases j with
    | zero =>
      simp only [List.getElem?_cons_zero, Option.some.injEq] at hj
      subst hj
      have h0 : isS (2 :: ks) 0 = true := by simp [isS]
      refine ⟨x, 2, y, O, O1, rfl, rfl, rfl, rfl, ?_, ?_⟩
      · rw [h0, if_pos rfl]; exact r.hd
      · simp only [List.take_zero, List.append_nil]; rw [hF]; exact h
    | succ j =>
      obtain ⟨x', k', y', A, B, h1, h2, h2', h3, h4, h5⟩ := ih (j := j) (o := o') (by simpa using hj)
      have hs : isS (2 :: ks) (j + 1) = isS ks j := by simp [isS]
      refine ⟨x', k', y', A, B, by simpa using h1, by simpa using h2, by simpa using h2', ?_, ?_, ?_⟩
      · rw [sc_cons, if_pos (show Nat.beq 2 2 = true from rfl), Nat.add_comm]; simpa using h3
      · rw [hs, sc_cons, if_pos (show Nat.beq 2 2 = true from rfl), ← Nat.add_assoc, Nat.add_comm _ 1, Nat.add_assoc, Nat.add_comm 1]; simpa using h4
      · rw [List.take_succ_cons]; rw [List.append_assoc] at h5; exact h5
def lo (ops : Array Oper) (ks : List Nat) (k f i : Nat) : Nat := ((List.range k).filter fun j => isS ks j && reach ops f i j).length
def hiS (ops : Array Oper) (ks : List Nat) (k f i : Nat) : Nat := ((List.range k).filter fun j => isS ks j && !reach ops f j i).length
end
section
variable {P : Program} {n m : Nat} {G : Ctx} {ops : Array Oper} {T0 : List (Nat × AV)}
inductive PreL (Op : List (Option AObj)) : List (List AObj) → Prop
  | nil : PreL Op []
  | cons {A Os} (h : Pat Op A) (r : PreL Op Os) : PreL Op (A :: Os)
theorem PreL.at {Op : List (Option AObj)} {Os : List (List AObj)} (h : PreL Op Os) : ∀ {q : Nat} {A : List AObj}, Os[q]? = some A → Pat Op A := by
  induction h with
  | nil => intro q A h; simp at h
  | cons h r ih =>
    intro q A hA
    cases q with
    | zero => simp only [List.getElem?_cons_zero, Option.some.injEq] at hA; subst hA; exact h
    | succ q => exact ih (by simpa using hA)
inductive DemAll (ops : Array Oper) (ks : List Nat) (k f : Nat) (Os : List (List AObj)) : Nat → List (Option (List (Option AObj))) → Prop
  | nil {i} : DemAll ops ks k f Os i []
  | skip {i ds} (r : DemAll ops ks k f Os (i + 1) ds) : DemAll ops ks k f Os i (none :: ds)
  | zero {i ds} (r : DemAll ops ks k f Os (i + 1) ds) : DemAll ops ks k f Os i (some [] :: ds)
  | all {i ds Op} (h : PreL Op Os) (r : DemAll ops ks k f Os (i + 1) ds) : DemAll ops ks k f Os i (some Op :: ds)
  | past {i ds Op c Os'} (hc : cnt (lo ops ks k f i) 0 = some c) (hO : Os.drop c = Os') (h : PreL Op Os') (r : DemAll ops ks k f Os (i + 1) ds) : DemAll ops ks k f Os i (some Op :: ds)
  | betw {i ds Op c c2 Os'} (hc : cnt (lo ops ks k f i) 0 = some c) (hc2 : cnt (hiS ops ks k f i) 0 = some c2) (hO : (Os.take (c2 + 1)).drop c = Os') (h : PreL Op Os') (r : DemAll ops ks k f Os (i + 1) ds) : DemAll ops ks k f Os i (some Op :: ds)
theorem DemAll.at {ks : List Nat} {k f : Nat} {Os : List (List AObj)} {i ds} (h : DemAll ops ks k f Os i ds) : ∀ {j Op}, ds[j]? = some (some Op) → ∀ q A, lo ops ks k f (i + j) ≤ q → q ≤ hiS ops ks k f (i + j) → Os[q]? = some A → Pat Op A := by
  induction h with
  | nil => intro j Op h; simp at h
  | @skip i ds r ih =>
    intro j Op h q A hq hq2 hA
    cases j with
    | zero => simp at h
    | succ j => exact ih (by simpa using h) q A (by rw [show i + 1 + j = i + (j + 1) by omega]; exact hq) (by rw [show i + 1 + j = i + (j + 1) by omega]; exact hq2) hA
  | @zero i ds r ih =>
    intro j Op h q A hq hq2 hA
    cases j with
    | zero => simp only [List.getElem?_cons_zero, Option.some.injEq] at h; subst h; exact .nil
    | succ j => exact ih (by simpa using h) q A (by rw [show i + 1 + j = i + (j + 1) by omega]; exact hq) (by rw [show i + 1 + j = i + (j + 1) by omega]; exact hq2) hA
  | @all i ds Op' hp r ih =>
    intro j Op h q A hq hq2 hA
    cases j with
    | zero => simp only [List.getElem?_cons_zero, Option.some.injEq] at h; subst h; exact hp.at hA
    | succ j => exact ih (by simpa using h) q A (by rw [show i + 1 + j = i + (j + 1) by omega]; exact hq) (by rw [show i + 1 + j = i + (j + 1) by omega]; exact hq2) hA
  | @past i ds Op' c Os' hc hO hp r ih =>
    intro j Op h q A hq hq2 hA
    cases j with
    | zero =>
      simp only [List.getElem?_cons_zero, Option.some.injEq] at h; subst h
      have hc := cnt_eq hc
      rw [Nat.add_zero] at hc hq
      refine hp.at (q := q - c) ?_
      rw [← hO, List.getElem?_drop, show c + (q - c) = q by omega]; exact hA
    | succ j => exact ih (by simpa using h) q A (by rw [show i + 1 + j = i + (j + 1) by omega]; exact hq) (by rw [show i + 1 + j = i + (j + 1) by omega]; exact hq2) hA
  | @betw i ds Op' c c2 Os' hc hc2 hO hp r ih =>
    intro j Op h q A hq hq2 hA
    cases j with
    | zero =>
      simp only [List.getElem?_cons_zero, Option.some.injEq] at h; subst h
      have hc := cnt_eq hc
      have hc2 := cnt_eq hc2
      rw [Nat.add_zero] at hc hq hc2 hq2
      refine hp.at (q := q - c) ?_
      rw [← hO, List.getElem?_drop, show c + (q - c) = q by omega, List.getElem?_take, if_pos (by omega)]; exact hA
    | succ j => exact ih (by simpa using h) q A (by rw [show i + 1 + j = i + (j + 1) by omega]; exact hq) (by rw [show i + 1 + j = i + (j + 1) by omega]; exact hq2) hA
def noDyn (o : Oper) : Bool := match o.op with
  | .call c => match c.callee with
    | .value (.tmp _) => false
    | _ => true
  | _ => true
def dstB (ops : Array Oper) (k : Nat) : Bool := (List.range k).all fun i => match ops[i]? with | some o => o.dst.isSome && noApp o && noDyn o | none => true
theorem WpA.regionTB {σ : St} {id : Nat} {l : List Oper} {Q : Exit → St → Prop} (k : Nat) (hm : P.follows .mixedOrders = true) (hB : (Region.lexTailB .any l.toArray k && dstB l.toArray k) = true)
    (h : WpL P n m G true l.toArray (l.take k) σ (Seq (fun σ' => WpL P n m G false l.toArray (l.drop k) σ' Q) Q)) : WpA P n m G (.region id l.toArray true) σ Q :=
  WpA.regionT k hm (by rw [Bool.and_eq_true] at hB; exact hB.1) h
end
end Go.Abs
namespace Go.Abs.K
end Go.Abs.K


namespace Go.Abs
open Go
section
variable {P : Program} {n m : Nat} {G : Ctx} {T : List (Nat × AV)} {O : List AObj} {Q : Exit → St → Prop} {ops : Array Oper} {l : List Oper} {d : Nat} {tt : TypeId} {pos : String} {after : Array Edge} {tab : List (Nat × Ty)}
end
section
variable {P : Program} {n m : Nat} {G : Ctx} {T : List (Nat × AV)} {O : List AObj} {Q : Exit → St → Prop} {ops : Array Oper} {l : List Oper} {d : Nat} {tt : TypeId} {pos : String} {after : Array Edge} {tab : List (Nat × Ty)}
end
end Go.Abs
namespace Go.Abs.K
open Go Go.Abs
variable {P : Program} {n m : Nat} {G : Ctx} {σ : St} {Q : Exit → St → Prop} {md : Bool} {ops : Array Oper} {l : List Oper} {dd : Option Nat} {tt : TypeId} {pos : String} {after : Array Edge}
end Go.Abs.K


namespace Go.Abs
open Go
def wrC : List AV → Nat → List AV → Option (List AV)
  | [], _, [] => some []
  | [], _, _ :: _ => none
  | z :: zs, 0, [] => some (z :: zs)
  | z :: zs, 0, d :: ds => match wrC zs 0 ds with
    | none => none
    | some r => some (d :: r)
  | z :: zs, off + 1, ds => match wrC zs off ds with
    | none => none
    | some r => some (z :: r)
theorem wrC_eq : ∀ {zs : List AV} {off : Nat} {ds r : List AV}, wrC zs off ds = some r → r = zs.take off ++ ds ++ zs.drop (off + ds.length)
  | [], off, [], r, h => by simp [wrC] at h; subst h; simp
  | [], _, _ :: _, r, h => by simp [wrC] at h
  | z :: zs, 0, [], r, h => by simp [wrC] at h; subst h; simp
  | z :: zs, 0, d :: ds, r, h => by
    rw [wrC] at h
    cases hr : wrC zs 0 ds with
    | none => rw [hr] at h; cases h
    | some r' =>
      rw [hr] at h; cases h
      have := wrC_eq hr; subst this
      simp [Nat.add_comm]
  | z :: zs, off + 1, ds, r, h => by
    rw [wrC] at h
    cases hr : wrC zs off ds with
    | none => rw [hr] at h; cases h
    | some r' =>
      rw [hr] at h; cases h
      have := wrC_eq hr; subst this
      simp [Nat.add_right_comm]
def bldC (T : List (Nat × AV)) (O : List AObj) (offs : List Nat) : List AV → List (Nat × Operand) → Option (List AV × List (Nat × Nat × Nat))
  | zs, [] => some (zs, [])
  | zs, (i, x) :: r => match offs[i]? with
    | none => none
    | some off => match (av T x).force with
      | none => none
      | some V => match cellsV O V with
        | none => none
        | some ds => match Nat.ble (off + ds.length) zs.length with
          | false => none
          | true => match wrC zs off ds with
            | none => none
            | some zs' => match bldC T O offs zs' r with
              | none => none
              | some (cs, q) => some (cs, (i, off, ds.length) :: q)
def buildB (P : Program) (t : TypeId) (q : List (Nat × Nat × Nat)) : Bool := match P.underlying t with
  | some (.struct fs) => match fs.toList.mapM (fun f => (P.info? f.type).map fun i => (f.offset, i.size)) with
    | some places => q.all fun r => match places[r.1]? with | some p => Nat.beq p.1 r.2.1 && Nat.beq p.2 r.2.2 | none => false
    | none => false
  | _ => false
theorem lrel_nil_of {S : Nat → Prop} {w : World} {ι : Nat → Spot} {O : List AObj} {cs vs g} (h : LRel S w ι O cs vs g) (hg : ∀ b ∈ g, b ∈ ([] : List Nat)) : LRel S w ι O cs vs [] := by
  have : g = [] := List.eq_nil_iff_forall_not_mem.2 fun b hb => by cases hg b hb
  subst this; exact h
theorem bldC_rel {n m G S ι F T O a w} (hr : RelAt n m G S ι F ⟨T, O⟩ a w) {offs : List Nat} (places : Nat → Option (Nat × Nat)) : ∀ {parts : List (Nat × Operand)} {zs cs : List AV} {q : List (Nat × Nat × Nat)} {us : Array Value}, bldC T O offs zs parts = some (cs, q) → (∀ r ∈ q, places r.1 = some r.2) →
    LRel S w ι O zs us.toList [] → ∃ out : Array Value, Instr.fill places us (parts.map fun p => (p.1, a.eval p.2)) = some out ∧ LRel S w ι O cs out.toList []
  | [], zs, cs, q, us, h, hq, hl => by
    simp only [bldC, Option.some.injEq, Prod.mk.injEq] at h
    obtain ⟨rfl, rfl⟩ := h
    exact ⟨us, rfl, hl⟩
  | (i, x) :: parts, zs, cs, q, us, h, hq, hl => by
    simp only [bldC] at h
    split at h
    · cases h
    rename_i off hoff
    split at h
    · cases h
    rename_i V hV
    split at h
    · cases h
    rename_i ds hds
    split at h
    · cases h
    rename_i hble
    split at h
    · cases h
    rename_i zs' hzs
    split at h
    · cases h
    rename_i cs' q' hrest
    cases h
    have hp := hq (i, off, ds.length) (by simp)
    have hv := hr.eval x
    rw [show av (St.mk T O).T x = V from AV.force_eq hV] at hv
    have hc := cellsV_rel hv hds
    have hlen := hc.len
    have hzl : zs.length = us.size := by simpa using hl.len
    have hle := Nat.le_of_ble_eq_true hble
    have e := wrC_eq hzs
    have hsz : (a.eval x).cells.size = ds.length := by rw [hlen]; simp
    have hf := fold_set (a.eval x).cells.toList 0 off us (by rw [← hlen]; omega)
    obtain ⟨g1, t1, k1, _⟩ := hl.take off
    obtain ⟨g2, t2, k2, _⟩ := hl.drop (off + ds.length)
    have l1 := lrel_nil_of t1 k1
    have l2 := lrel_nil_of t2 k2
    have hnew : LRel S w ι O zs' ((((a.eval x).cells.toList.zipIdx 0).foldl (fun cs (c, q) => cs.setIfInBounds (off + q) c) us).toList) [] := by
      rw [hf, e, ← hlen]
      simpa using (l1.append hc).append l2
    have hz : (a.eval x).cells.zipIdx.foldl (fun cs (c, q) => cs.setIfInBounds (off + q) c) us = ((a.eval x).cells.toList.zipIdx 0).foldl (fun cs (c, q) => cs.setIfInBounds (off + q) c) us := by
      rw [← Array.foldl_toList, Array.toList_zipIdx]
    rw [← hz] at hnew
    obtain ⟨out, ho, hlo⟩ := bldC_rel hr places hrest (fun r hr => hq r (by simp [hr])) hnew
    refine ⟨out, ?_, hlo⟩
    simp only [List.map_cons]
    rw [Instr.fill, hp]
    have hng : ¬ (off + ds.length > us.size) := by omega
    simp only [hsz, ne_eq, not_true_eq_false, decide_false, hng, Bool.or_false, Bool.false_eq_true, if_false]
    exact ho
section
variable {P : Program} {n m : Nat} {md : Bool} {G : Ctx} {T : List (Nat × AV)} {O : List AObj} {Q : Exit → St → Prop} {ops : Array Oper} {l : List Oper} {d : Nat} {tt : TypeId} {pos : String} {after : Array Edge} {tab : List (Nat × Ty)}
theorem WpL.build (hP : TabOk P tab) {t k : Nat} {offs : List Nat} {zs cs : List AV} {parts : List (Nat × Operand)} {q : List (Nat × Nat × Nat)} (ht : tlook tab t = some (.struct offs k zs)) (hc : bldC T O offs zs parts = some (cs, q)) (hb : buildB P t q = true) (hn : d < n)
    (h : WpL P n m G md ops l ⟨(d, .agg cs) :: T, O⟩ Q) :
    WpL P n m G md ops ({ dst := some d, op := .build t parts.toArray, type := tt, pos := pos, after := after, guard := none } :: l) ⟨T, O⟩ Q :=
  WpL.pure rfl rfl hn (fun S ι F a w hr => by
    obtain ⟨fs, hu, ⟨z, hz, hzk, hzs⟩, _⟩ := hP.ty ht
    unfold buildB at hb
    rw [hu] at hb
    simp only at hb
    split at hb
    · rename_i places hpl
      have hq : ∀ r ∈ q, (fun i => places.toArray[i]?) r.1 = some r.2 := by
        intro r hr
        have := List.all_eq_true.1 hb r hr
        show places.toArray[r.1]? = some r.2
        simp only [List.getElem?_toArray]
        split at this
        · rename_i p hp
          simp only [Bool.and_eq_true] at this
          rw [hp]; exact congrArg some (Prod.ext (Nat.eq_of_beq_eq_true this.1) (Nat.eq_of_beq_eq_true this.2))
        · cases this
      have hl0 : LRel S w ι O zs z.cells.toList [] := by rw [hzs]; exact lrel_zav _
      obtain ⟨out, ho, hl⟩ := bldC_rel hr _ hc hq hl0
      refine ⟨.agg out, ?_, ?_⟩
      · have hbt : P.built t ((parts.toArray.map fun (i, x) => (i, a.eval x)).toList) = some out := by
          unfold Program.built
          cases hit : P.info? t with
          | none => rw [hit] at hz; simp at hz
          | some it =>
            rw [hit] at hz
            simp only [Option.map_some, Option.some.injEq, Prod.mk.injEq] at hz
            simp only [hu, hz.1, hpl]
            rw [Array.toList_map]; exact ho
        have hrun := run_build w t (parts.toArray.map fun (i, x) => (i, a.eval x)) out hbt
        simp only [execOp, Sem.run_bind]
        simp at hrun ⊢
        rw [hrun]; rfl
      · have := LRel.agg (us := out.toList) hl .nil
        simpa using this
    · cases hb) h
end
def mayMake (o : Oper) : Bool := match o.op with
  | .makeSlice .. => true
  | .buildSlice .. => true
  | .alloc .. => true
  | .box .. => true
  | .call c => match c.callee with
    | .builtin _ => false
    | _ => true
  | _ => false
def ancs (ops : Array Oper) (k : Nat) : List (List Nat) := (List.range k).foldl (fun acc i => acc ++ [match ops[i]? with
  | some o => ((o.after.toList.filter fun e => Region.binds .any e).flatMap fun e => e.on :: acc.getD e.on []).eraseDups
  | none => []]) []
def ordP (ops : Array Oper) (k : Nat) : Bool := let A := ancs ops k; (List.range k).all fun i => match ops[i]? with
  | some o => !mayMake o || (List.range i).all fun j => match ops[j]? with
    | some u => !mayMake u || (A.getD i []).any fun q => Nat.beq q j
    | none => true
  | none => true
theorem WpA.regionNO {P : Program} {n m : Nat} {G : Ctx} {T0 : List (Nat × AV)} {l l1 l2 : List Oper} {id : Nat} {O O' : List AObj} {out : List Fact} {oc T1 : List (Nat × AV)} {c0 : Nat} {Q : Exit → St → Prop} (k : Nat) (hm : P.follows .mixedOrders = true) (hB : (mixB l.toArray k && bareN l.toArray k && ordP l.toArray k) = true)
    (hl : takeF k l = some l1) (hc : cnt O.length 0 = some c0) (hJ : HeadN P n m G l.toArray T0 c0 O [] l1 O' out) (hnd : TrueB (nodupB (out.map (·.1)))) (hfr : TrueB (out.all fun p => !has T0 p.1))
    (ho : factsF out = some oc) (hT1 : catF oc T0 = some T1) (h2 : l.drop k = l2) (h : WpL P n m G false l.toArray l2 ⟨T1, O'⟩ Q) : WpA P n m G (.region id l.toArray true) ⟨T0, O⟩ Q :=
  WpA.regionNB k hm (by simp only [Bool.and_eq_true] at hB ⊢; exact hB.1) hl hc hJ hnd hfr ho hT1 h2 h
end Go.Abs
