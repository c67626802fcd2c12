/- Weaker states, contracts of functions, calls and returns. No condition. -/
import Derived.Test.YtepfjefdbpmobaaAbsI
namespace Go.Abs
open Go
set_option linter.unusedVariables false
set_option linter.unusedSimpArgs false

/-- No object is named in it (at its top). -/
def AV.still : AV → Bool
  | .own _ _ _ _ => false
  | .ptr _ _ _ => false
  | .agg _ => false
  | .tup _ => false
  | .fn _ (_ :: _) => false
  | .ifc _ (.sc _) => true
  | .ifc _ _ => false
  | _ => true

theorem still_any {S w ι O S' w' ι' V x f} (h : VRel S w ι O V x f) (hs : V.still = true) (O' : List AObj) (h1 : ∀ b, S b → S' b) (h2 : ∀ b, S b → w'.heap[b]? = w.heap[b]?) (hf : ∀ b ∈ f, w'.heap[b]? = w.heap[b]?) : VRel S' w' ι' O' V x f := by
  have hn : Later S w ι [] S' w' ι' O' := Later.none O' h1 h2
  cases h with
  | any r => cases r; exact .any .nil
  | sc r => cases r; exact .sc .nil
  | agg => simp [AV.still] at hs
  | tup => simp [AV.still] at hs
  | nilS r => cases r; exact .nilS .nil
  | imm0 h0 r => cases r; exact .imm0 h0 .nil
  | imm a b c d e g r => cases r; exact LRel.mono hn (.imm (O := []) a b c d e g .nil) hf
  | fre0 r => cases r; exact .fre0 .nil
  | fre a b c d e g i r => cases r; exact LRel.mono hn (.fre (O := []) a b c d e g i .nil) hf
  | own => simp [AV.still] at hs
  | ptr => simp [AV.still] at hs
  | iptr a b c r => cases r; exact LRel.mono hn (.iptr (O := []) a b c .nil) hf
  | fn a r =>
    rename_i ff ds us
    cases r
    cases ds with
    | nil => cases a; exact .fn .nil .nil
    | cons d ds => simp [AV.still] at hs
  | ifc a r =>
    rename_i t v x
    cases r
    cases v <;> simp [AV.still] at hs
    cases a with
    | sc r => cases r; exact .ifc (.sc .nil) .nil

/-- Values that lean on no object. -/
def AV.simple : AV → Bool
  | .sc _ => true
  | .nilS => true
  | .imm _ _ _ => true
  | .iptr _ _ => true
  | _ => false
theorem simple_all {S w ι O O'} : ∀ {ds : List AV} {us f}, LRel S w ι O ds us f → ds.all AV.simple = true → LRel S w ι O' ds us f
  | [], us, f, h, _ => by cases h; exact .nil
  | d :: ds, us, f, h, hs => by
    simp only [List.all_cons, Bool.and_eq_true] at hs
    obtain ⟨v, vs', f1, f2, rfl, hv, hr, rfl⟩ := h.uncons
    have hst : d.still = true := by cases d <;> simp_all [AV.simple, AV.still]
    exact LRel.cons (still_any hv hst O' (fun _ h => h) (fun _ _ => rfl) (fun _ _ => rfl)) (simple_all hr hs.2)
/-- The same values, less known of them, over other objects. -/
inductive Re (O O' : List AObj) : List AV → List AV → Prop
  | nil : Re O O' [] []
  | any {V vs us} : Re O O' vs us → Re O O' (V :: vs) (.any :: us)
  | keep {V V' vs us} : V = V' → V'.still = true → Re O O' vs us → Re O O' (V :: vs) (V' :: us)
  | fn {f ds vs us} : ds.all AV.simple = true → Re O O' vs us → Re O O' (.fn f ds :: vs) (.fn f ds :: us)
  | own {id ep ep' off len len' ob ob' vs us} : O[id]? = some ob → O'[id]? = some ob' → ob.ep = ep → ob'.ep = ep' → ob'.size = ob.size → len = len' → Re O O' vs us → Re O O' (.own id ep off len :: vs) (.own id ep' off len' :: us)
  | ptr {id ep ep' off ob ob' vs us} : O[id]? = some ob → O'[id]? = some ob' → ob.ep = ep → ob'.ep = ep' → Re O O' vs us → Re O O' (.ptr id ep off :: vs) (.ptr id ep' off :: us)
  | agg {ds es vs us} : Re O O' ds es → Re O O' vs us → Re O O' (.agg ds :: vs) (.agg es :: us)
  | tup {ds es vs us} : Re O O' ds es → Re O O' vs us → Re O O' (.tup ds :: vs) (.tup es :: us)

theorem Re.same {O O' : List AObj} {cs cs' : List AV} (h : cs = cs') (hs : cs'.all AV.still = true) : Re O O' cs cs' := by
  subst h
  induction cs with
  | nil => exact .nil
  | cons c cs ih =>
    simp only [List.all_cons, Bool.and_eq_true] at hs
    exact .keep rfl hs.1 (ih hs.2)

theorem still_ints (xs : List Int) : (ints xs).all AV.still = true := by
  rw [List.all_eq_true]; intro V hV; simp only [ints, List.mem_map] at hV; obtain ⟨x, _, rfl⟩ := hV; rfl
theorem still_u8s (xs : List Int) : (u8s xs).all AV.still = true := by
  rw [List.all_eq_true]; intro V hV; simp only [u8s, List.mem_map] at hV; obtain ⟨x, _, rfl⟩ := hV; rfl
theorem still_bools (xs : List Bool) : (bools xs).all AV.still = true := by
  rw [List.all_eq_true]; intro V hV; simp only [bools, List.mem_map] at hV; obtain ⟨x, _, rfl⟩ := hV; rfl
theorem still_strs (xs : List (List UInt8)) : (strs xs).all AV.still = true := by
  rw [List.all_eq_true]; intro V hV; simp only [strs, List.mem_map] at hV; obtain ⟨x, _, rfl⟩ := hV; rfl

/-- Over the same world and places the weaker list is met; what it owns was owned. -/
theorem Re.rel {O O' : List AObj} {S w ι} {vs us : List AV} (h : Re O O' vs us) : ∀ {xs f}, LRel S w ι O vs xs f → ∃ f', LRel S w ι O' us xs f' ∧ (∀ b ∈ f', b ∈ f) ∧ (f.Nodup → f'.Nodup) := by
  induction h with
  | nil => intro xs f hl; cases hl; exact ⟨[], .nil, by simp, by simp⟩
  | any _ ih =>
    intro xs f hl
    obtain ⟨v, vs', f1, f2, rfl, hv, hr, rfl⟩ := hl.uncons
    obtain ⟨f', h1, h2, h3⟩ := ih hr
    exact ⟨f', .any h1, fun b hb => List.mem_append_right _ (h2 b hb), fun hn => h3 (List.nodup_append.1 hn).2.1⟩
  | keep he hs _ ih =>
    intro xs f hl
    subst he
    obtain ⟨v, vs', f1, f2, rfl, hv, hr, rfl⟩ := hl.uncons
    obtain ⟨f', h1, h2, h3⟩ := ih hr
    refine ⟨f1 ++ f', LRel.cons (still_any hv hs O' (fun _ h => h) (fun _ _ => rfl) (fun _ _ => rfl)) h1, ?_, ?_⟩
    · intro b hb
      rcases List.mem_append.1 hb with hb | hb
      · exact List.mem_append_left _ hb
      · exact List.mem_append_right _ (h2 b hb)
    · intro hn
      obtain ⟨n1, n2, n3⟩ := List.nodup_append.1 hn
      exact List.nodup_append.2 ⟨n1, h3 n2, fun a ha b hb => n3 a ha b (h2 b hb)⟩
  | fn hs _ ih =>
    intro xs f hl
    obtain ⟨v, vs', f1, f2, rfl, hv, hr, rfl⟩ := hl.uncons
    obtain ⟨f', h1, h2, h3⟩ := ih hr
    refine ⟨f', ?_, fun b hb => List.mem_append_right _ (h2 b hb), fun hn => h3 (List.nodup_append.1 hn).2.1⟩
    cases hv with
    | fn a r => cases r; exact .fn (simple_all a hs) h1
  | own ho ho' he he' hsz hln _ ih =>
    intro xs f hl
    subst hln
    obtain ⟨v, vs', f1, f2, rfl, hv, hr, rfl⟩ := hl.uncons
    obtain ⟨f', h1, h2, h3⟩ := ih hr
    refine ⟨f', ?_, fun b hb => List.mem_append_right _ (h2 b hb), fun hn => h3 (List.nodup_append.1 hn).2.1⟩
    cases hv with
    | own q1 q2 q3 r =>
      rw [ho] at q1; cases q1
      exact .own ho' (by omega) (fun _ => by rw [hsz]; exact q3 he.symm) h1
  | ptr ho ho' he he' _ ih =>
    intro xs f hl
    obtain ⟨v, vs', f1, f2, rfl, hv, hr, rfl⟩ := hl.uncons
    obtain ⟨f', h1, h2, h3⟩ := ih hr
    refine ⟨f', ?_, fun b hb => List.mem_append_right _ (h2 b hb), fun hn => h3 (List.nodup_append.1 hn).2.1⟩
    cases hv with
    | ptr q1 q2 q3 r =>
      rw [ho] at q1; cases q1
      exact .ptr ho' (by omega) (fun _ => q3 he.symm) h1
  | agg _ _ ih1 ih2 =>
    intro xs f hl
    obtain ⟨v, vs', f1, f2, rfl, hv, hr, rfl⟩ := hl.uncons
    obtain ⟨us', rfl, ha⟩ := LRel.agg_inv hv
    obtain ⟨g', a1, a2, a3⟩ := ih1 ha
    obtain ⟨f', h1, h2, h3⟩ := ih2 hr
    refine ⟨g' ++ f', .agg a1 h1, ?_, ?_⟩
    · intro b hb
      rcases List.mem_append.1 hb with hb | hb
      · exact List.mem_append_left _ (a2 b hb)
      · exact List.mem_append_right _ (h2 b hb)
    · intro hn
      obtain ⟨n1, n2, n3⟩ := List.nodup_append.1 hn
      exact List.nodup_append.2 ⟨a3 n1, h3 n2, fun a ha b hb => n3 a (a2 a ha) b (h2 b hb)⟩
  | tup _ _ ih1 ih2 =>
    intro xs f hl
    obtain ⟨v, vs', f1, f2, rfl, hv, hr, rfl⟩ := hl.uncons
    obtain ⟨us', rfl, ha⟩ := LRel.tup_inv hv
    obtain ⟨g', a1, a2, a3⟩ := ih1 ha
    obtain ⟨f', h1, h2, h3⟩ := ih2 hr
    refine ⟨g' ++ f', .tup a1 h1, ?_, ?_⟩
    · intro b hb
      rcases List.mem_append.1 hb with hb | hb
      · exact List.mem_append_left _ (a2 b hb)
      · exact List.mem_append_right _ (h2 b hb)
    · intro hn
      obtain ⟨n1, n2, n3⟩ := List.nodup_append.1 hn
      exact List.nodup_append.2 ⟨a3 n1, h3 n2, fun a ha b hb => n3 a (a2 a ha) b (h2 b hb)⟩

inductive ReT (O O' : List AObj) (T : List (Nat × AV)) : List (Nat × AV) → Prop
  | nil : ReT O O' T []
  | cons {t V T'} : Re O O' [look T t] [V] → ReT O O' T T' → ReT O O' T ((t, V) :: T')

theorem ReT.at {O O' T T'} (h : ReT O O' T T') (t : Nat) : Re O O' [look T t] [look T' t] := by
  induction h with
  | nil => exact .any .nil
  | @cons k V T' hk _ ih =>
    by_cases he : k = t
    · subst he; rw [look_cons_same]; exact hk
    · rw [look_cons_other _ _ _ _ he]; exact ih

/-- The objects that are kept, from the first on. -/
inductive ReO (O O' : List AObj) : List AObj → List AObj → Prop
  | nil {os} : ReO O O' os []
  | cons {ob ob' os os'} : Re O O' ob.cells ob'.cells → (ob'.ty = none ∨ ob'.ty = ob.ty) → ReO O O' os os' → ReO O O' (ob :: os) (ob' :: os')

theorem ReO.at {O O' os os'} (h : ReO O O' os os') {id : Nat} {ob' : AObj} (hi : os'[id]? = some ob') : ∃ ob, os[id]? = some ob ∧ Re O O' ob.cells ob'.cells ∧ (ob'.ty = none ∨ ob'.ty = ob.ty) := by
  induction h generalizing id with
  | nil => simp at hi
  | cons h1 h2 _ ih =>
    cases id with
    | zero => simp at hi; subst hi; exact ⟨_, by simp, h1, h2⟩
    | succ id => simpa using ih (by simpa using hi)

theorem Weak.mk {m : Nat} {T T' : List (Nat × AV)} {O O' : List AObj} (hT : ReT O O' T T') (hO : ReO O O' O O') (hm : m ≤ O'.length) : Weak m ⟨T, O⟩ ⟨T', O'⟩ := by
  rintro n G a w ⟨S, ι, F, hr⟩
  have hex : ∀ id, ∃ f, ∀ ob', O'[id]? = some ob' → ObjAt S w ι O' ob' (ι id) f ∧ (∀ b ∈ f, b ∈ F id) ∧ f.Nodup := by
    intro id
    cases hi : O'[id]? with
    | none => exact ⟨[], by simp⟩
    | some ob' =>
      obtain ⟨ob, ho, hre, hty⟩ := hO.at hi
      have hid : id < O.length := (List.getElem?_eq_some_iff.1 ho).1
      have hob := hr.objs.obj id ob ho
      unfold ObjAt at hob
      cases hs : ι id with
      | none =>
        rw [hs] at hob
        refine ⟨[], fun ob2 h2 => ?_⟩
        cases h2
        refine ⟨?_, by simp, by simp⟩
        rw [hob.1] at hre
        unfold ObjAt
        cases hc : ob'.cells with
        | nil => exact ⟨rfl, rfl⟩
        | cons c cs => rw [hc] at hre; cases hre
      | some p =>
        obtain ⟨b, k⟩ := p
        rw [hs] at hob
        obtain ⟨cur, t, fz, f', hF, h1, h2, h3, h4, h5, h6⟩ := hob
        obtain ⟨g, g1, g2, g3⟩ := hre.rel h6
        have hnd : (b :: f').Nodup := by rw [← hF]; exact hr.objs.nodup id hid
        have hlen : ob'.cells.length = ob.cells.length := by
          have e1 := g1.len
          have e2 := h6.len
          omega
        refine ⟨b :: g, fun ob2 hh => ?_⟩
        cases hh
        refine ⟨⟨cur, t, fz, g, rfl, h1, h2, by omega, h4, fun e he => ?_, by rw [hlen]; exact g1⟩, ?_, ?_⟩
        · rcases hty with hty | hty
          · rw [hty] at he; cases he
          · exact h5 e (by rw [← hty]; exact he)
        · intro b' hb'
          rw [hF]
          rcases List.mem_cons.1 hb' with rfl | hb'
          · simp
          · simp [g2 b' hb']
        · exact List.nodup_cons.2 ⟨fun hb => (List.nodup_cons.1 hnd).1 (g2 b hb), g3 (List.nodup_cons.1 hnd).2⟩
  have hFx : ∃ F' : Nat → List Nat, ∀ id ob', O'[id]? = some ob' → ObjAt S w ι O' ob' (ι id) (F' id) ∧ (∀ b ∈ F' id, b ∈ F id) ∧ (F' id).Nodup :=
    ⟨fun id => (hex id).choose, fun id => (hex id).choose_spec⟩
  obtain ⟨F', hF'⟩ := hFx
  have hle : ∀ id, id < O'.length → id < O.length := by
    intro id hid
    obtain ⟨ob, ho, _⟩ := hO.at (List.getElem?_eq_getElem hid)
    exact (List.getElem?_eq_some_iff.1 ho).1
  refine ⟨S, ι, F', hr.defers, hr.size, fun t => ?_, ⟨fun id ob' h => (hF' id ob' h).1, fun id h => (hF' id _ (List.getElem?_eq_getElem h)).2.2, fun i j hi hj hij b hb hb' => ?_⟩, fun id h b hb => ?_, hr.base, hr.stable, hr.keeps, hr.spots, hm⟩
  · obtain ⟨f', h1, h2, _⟩ := (hT.at t).rel (hr.tmps t)
    have : f' = [] := List.eq_nil_iff_forall_not_mem.2 fun b hb => by simpa using h2 b hb
    subst this
    exact h1
  · have hi : i < O'.length := hi
    have hj : j < O'.length := hj
    exact hr.objs.apart i j (hle i hi) (hle j hj) hij b ((hF' i _ (List.getElem?_eq_getElem hi)).2.1 b hb) ((hF' j _ (List.getElem?_eq_getElem hj)).2.1 b hb')
  · have h : id < O'.length := h
    exact hr.foot id (hle id h) b ((hF' id _ (List.getElem?_eq_getElem h)).2.1 b hb)

/-! ### Contracts -/

/-- The function has a body and is entered. -/
def Runs (P : Program) (f : FuncId) : Prop := ∃ fn, P.funcs[f]? = some fn ∧ fn.body.isNone = false ∧ (fn.name == "runtime.NumGoroutine") = false

/-- CALLED WITH SUCH ARGUMENTS IT RETURNS 'r', its objects 'N' in new memory; nothing that was there turns. -/
def FnC (P : Program) (f : FuncId) (args : List AV) (N : List AObj) (r : AV) : Prop :=
  Runs P f ∧ ∀ (w : World) (S : Nat → Prop) (vs : List Value), (∀ b, S b → b < w.heap.size) → LRel S w (fun _ => none) [] args vs [] →
    Calls P f vs.toArray w fun e w' => ∃ v S' ι F, e = .returned v ∧ (∀ b, S b → S' b) ∧ (∀ b, S' b → S b ∨ w.heap.size ≤ b) ∧ (∀ b, S' b → b < w'.heap.size) ∧ ORel S' w' ι N F ∧
      (∀ id, id < N.length → ∀ b ∈ F id, w.heap.size ≤ b ∧ ¬ S' b ∧ b < w'.heap.size) ∧ VRel S' w' ι N r v [] ∧ Keeps w (fun _ => False) w'

/-- What an own value is to a callee that only reads. -/
inductive Snap (O : List AObj) : List AV → List AV → Prop
  | nil : Snap O [] []
  | any {V vs us} : Snap O vs us → Snap O (V :: vs) (.any :: us)
  | keep {V vs us} : V.still = true → V.nofre = true → Snap O vs us → Snap O (V :: vs) (V :: us)
  | nilI {s vs us} : Snap O vs us → Snap O (.nilS :: vs) (.imm s 0 [] :: us)
  | own {id ep len len' sz ob es vs us} : O[id]? = some ob → ob.ep = ep → ob.size = sz → len * ob.size = ob.cells.length → len = len' → Snap O ob.cells es → Snap O vs us → Snap O (.own id ep 0 len :: vs) (.imm sz len' es :: us)
  | fre {s l ds es vs us} : Snap O ds es → Snap O vs us → Snap O (.fre s l ds :: vs) (.imm s l es :: us)
  | ptr {id ep off ob es vs us} : O[id]? = some ob → ob.ep = ep → Snap O ob.cells es → Snap O vs us → Snap O (.ptr id ep off :: vs) (.iptr es off :: us)
  | agg {ds es vs us} : Snap O ds es → Snap O vs us → Snap O (.agg ds :: vs) (.agg es :: us)
  | fn {f ds es vs us} : Snap O ds es → Snap O vs us → Snap O (.fn f ds :: vs) (.fn f es :: us)

theorem Snap.same {O : List AObj} {cs cs' : List AV} (h : cs = cs') (hs : cs'.all AV.still = true) (hf : cs'.all AV.nofre = true) : Snap O cs cs' := by
  subst h
  induction cs with
  | nil => exact .nil
  | cons c cs ih =>
    simp only [List.all_cons, Bool.and_eq_true] at hs hf
    exact .keep hs.1 hf.1 (ih hs.2 hf.2)

theorem nofre_ints (xs : List Int) : (ints xs).all AV.nofre = true := by
  rw [List.all_eq_true]; intro V hV; simp only [ints, List.mem_map] at hV; obtain ⟨x, _, rfl⟩ := hV; rfl
theorem nofre_u8s (xs : List Int) : (u8s xs).all AV.nofre = true := by
  rw [List.all_eq_true]; intro V hV; simp only [u8s, List.mem_map] at hV; obtain ⟨x, _, rfl⟩ := hV; rfl
theorem nofre_bools (xs : List Bool) : (bools xs).all AV.nofre = true := by
  rw [List.all_eq_true]; intro V hV; simp only [bools, List.mem_map] at hV; obtain ⟨x, _, rfl⟩ := hV; rfl
theorem nofre_strs (xs : List (List UInt8)) : (strs xs).all AV.nofre = true := by
  rw [List.all_eq_true]; intro V hV; simp only [strs, List.mem_map] at hV; obtain ⟨x, _, rfl⟩ := hV; rfl

theorem cell_of_heap {w : World} {b : Nat} {cur : Array Value} {t : TypeId} {fz : Nat × Nat} (h : w.heap[b]? = some (.cells cur t fz)) (n i : Nat) (hi : i < (cur.toList.take n).length) : w.cell? ⟨b, 0 + i, none⟩ = (cur.toList.take n)[i]? := by
  rw [Nat.zero_add, cell_of_row w b i cur t fz h, List.getElem?_take, if_pos (by simp at hi; omega)]
  simp

theorem Snap.rel {O : List AObj} {S w ι ι'} {vs us : List AV} (h : Snap O vs us) : ∀ {F xs f}, ORel S w ι O F → (∀ b, S b → b < w.heap.size) → LRel S w ι O vs xs f → LRel (fun b => b < w.heap.size) w ι' [] us xs [] := by
  have blk : ∀ {b : Nat} {o : Obj}, w.heap[b]? = some o → b < w.heap.size := fun h => (Array.getElem?_eq_some_iff.1 h).1
  induction h with
  | nil => intro F xs f _ _ hl; cases hl; exact .nil
  | any _ ih =>
    intro F xs f ho hS hl
    obtain ⟨v, vs', f1, f2, rfl, hv, hr, rfl⟩ := hl.uncons
    exact .any (ih ho hS hr)
  | keep hs hn _ ih =>
    intro F xs f ho hS hl
    obtain ⟨v, vs', f1, f2, rfl, hv, hr, rfl⟩ := hl.uncons
    have := nofre_nil hv hn
    subst this
    have := LRel.cons (still_any hv hs [] hS (fun _ _ => rfl) (by simp)) (ih ho hS hr)
    simpa using this
  | fn _ _ ih1 ih2 =>
    intro F xs f ho hS hl
    obtain ⟨v, vs', f1, f2, rfl, hv, hr, rfl⟩ := hl.uncons
    cases hv with | fn a r => cases r; exact .fn (ih1 ho hS a) (ih2 ho hS hr)
  | nilI _ ih =>
    intro F xs f ho hS hl
    obtain ⟨v, vs', f1, f2, rfl, hv, hr, rfl⟩ := hl.uncons
    have := (LRel.slice_len hv).2.2 rfl
    subst this
    exact .imm0 (by simp) (ih ho hS hr)
  | @own id ep len len' sz ob es vs us hob hep hsz hlen hll _ _ ih1 ih2 =>
    intro F xs f ho hS hl
    subst hll hsz
    obtain ⟨v, vs', f1, f2, rfl, hv, hr, rfl⟩ := hl.uncons
    have hoa := ho.obj id ob hob
    unfold ObjAt at hoa
    cases hv with
    | own q1 q2 q3 r =>
      rw [hob] at q1; cases q1
      have hc := q3 hep.symm
      cases hs : ι id with
      | none =>
        rw [hs] at hc hoa
        obtain ⟨h1, _, h3⟩ := hc
        subst h1; subst h3
        have : es = [] := by
          have := ih1 (xs := []) (f := []) ho hS (by rw [hoa.1]; exact .nil)
          cases this; rfl
        subst this
        exact .imm0 (by simp) (ih2 ho hS hr)
      | some p =>
        obtain ⟨b, k⟩ := p
        rw [hs] at hc hoa
        obtain ⟨cap, h1, _, h3, h4⟩ := hc
        obtain ⟨cur, t, fz, f', _, hh, _, _, _, _, hl'⟩ := hoa
        subst h1
        have hi := ih1 ho hS hl'
        refine .imm (us := cur.toList.take ob.cells.length) (blk hh) (fun i hi => cell_of_heap hh _ i hi) hi ?_ h3 h4 (ih2 ho hS hr)
        rw [hlen, hl'.len, hi.len]
  | @fre s l ds es vs us _ _ ih1 ih2 =>
    intro F xs f ho hS hl
    obtain ⟨v, vs', f1, f2, rfl, hv, hr, rfl⟩ := hl.uncons
    cases hv with
    | fre0 r =>
      have := ih1 (xs := []) (f := []) ho hS .nil
      cases this
      exact .imm0 (by simp) (ih2 ho hS hr)
    | @fre _ _ b _ cap cur t fz _ us' f' _ _ _ hh0 hsz hu hl' h1 h2 h3 r =>
      have hh := hh0.1
      have hi := ih1 ho hS hl'.lift
      subst hu
      refine .imm (us := cur.toList.take ds.length) (blk hh) (fun i hi => cell_of_heap hh _ i hi) hi ?_ h2 h3 (ih2 ho hS hr)
      rw [h1, hl'.len, hi.len]
  | @ptr id ep off ob es vs us hob hep _ _ ih1 ih2 =>
    intro F xs f ho hS hl
    obtain ⟨v, vs', f1, f2, rfl, hv, hr, rfl⟩ := hl.uncons
    have hoa := ho.obj id ob hob
    unfold ObjAt at hoa
    cases hv with
    | ptr q1 q2 q3 r =>
      rw [hob] at q1; cases q1
      have hc := q3 hep.symm
      cases hs : ι id with
      | none => rw [hs] at hc; exact hc.elim
      | some p =>
        obtain ⟨b, k⟩ := p
        rw [hs] at hc hoa
        obtain ⟨cur, t, fz, f', _, hh, _, _, _, _, hl'⟩ := hoa
        have h1 : _ = Value.pointer (some ⟨b, off, none⟩) := hc
        subst h1
        have := LRel.iptr (O := []) (ι := ι') (off := off) (S := fun b => b < w.heap.size) (us := cur.toList.take ob.cells.length) (blk hh) (fun i hi => cell_of_heap hh _ i hi) (ih1 ho hS hl') (ih2 ho hS hr)
        rwa [Nat.zero_add] at this
  | agg _ _ ih1 ih2 =>
    intro F xs f ho hS hl
    obtain ⟨v, vs', f1, f2, rfl, hv, hr, rfl⟩ := hl.uncons
    obtain ⟨us', rfl, ha⟩ := LRel.agg_inv hv
    have := LRel.agg (ih1 ho hS ha) (ih2 ho hS hr)
    simpa using this

end Go.Abs
