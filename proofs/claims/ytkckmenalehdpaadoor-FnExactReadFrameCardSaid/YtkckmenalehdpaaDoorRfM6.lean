/- Proved in this text: lemmas and contracts of functions that the claim uses (parts: AbsHa, AbsNil, AbsXq). No condition. -/
import Derived.Test.YtkckmenalehdpaaDoorRfM5
set_option linter.unusedVariables false
set_option linter.unusedSimpArgs false
set_option maxRecDepth 100000
set_option maxHeartbeats 4000000


namespace Go.Abs
open Go
def FnH (P : Program) (f : FuncId) (args : List AV) (k : Nat) (M OO : List AObj) (r : AV) : Prop :=
  Runs P f ∧ k ≤ M.length ∧ k ≤ OO.length ∧ ∀ (w : World) (S : Nat → Prop) (ι : Nat → Spot) (F : Nat → List Nat) (vs : List Value), (∀ b, S b → b < w.heap.size) → GlbOk S w → ORel S w ι M F → (∀ id, id < M.length → ∀ b ∈ F id, ¬ S b ∧ b < w.heap.size) →
    LRel S w ι M args vs [] → Calls P f vs.toArray w fun e w' => ∃ v S' ι' F', e = .returned v ∧ (∀ b, S b → S' b) ∧ (∀ b, S' b → S b ∨ w.heap.size ≤ b) ∧ (∀ b, S' b → b < w'.heap.size) ∧ (∀ id, id < k → ι' id = ι id) ∧
      ORel S' w' ι' OO F' ∧ (∀ id, id < OO.length → ∀ b ∈ F' id, ((∃ i, i < M.length ∧ b ∈ F i) ∨ w.heap.size ≤ b) ∧ ¬ S' b ∧ b < w'.heap.size) ∧ VRel S' w' ι' OO r v [] ∧
      Keeps w (fun b => ∃ i, i < M.length ∧ b ∈ F i) w'
inductive ResH (tab : List (Nat × Ty)) (OO : List AObj) (r : AV) : Array ResultVar → St → Prop
  | zero {T} : r = .tup [] → ResH tab OO r #[] ⟨T, OO⟩
  | one {r1 T} : ResV tab T OO r1 r → ResH tab OO r #[r1] ⟨T, OO⟩
  | two {r1 r2 V1 V2 T} : ResV tab T OO r1 V1 → ResV tab T OO r2 V2 → r = .tup [V1, V2] → ResH tab OO r #[r1, r2] ⟨T, OO⟩
def FinH (tab : List (Nat × Ty)) (rs : Array ResultVar) (OO : List AObj) (r : AV) : Exit → St → Prop
  | .ret, σ => ResH tab OO r rs σ
  | .normal, σ => ResH tab OO r rs σ
  | _, _ => False
section
variable {P : Program} {n m : Nat} {G : Ctx} {T : List (Nat × AV)} {O : List AObj} {Q : Exit → St → Prop} {ops : Array Oper} {l : List Oper} {d : Nat} {tt : TypeId} {pos : String} {after : Array Edge} {tab : List (Nat × Ty)}
theorem FinH.ret {rs : Array ResultVar} {OO : List AObj} {r : AV} {σ : St} (h : ResH tab OO r rs σ) : FinH tab rs OO r .ret σ := h
theorem FinH.normal {rs : Array ResultVar} {OO : List AObj} {r : AV} {σ : St} (h : ResH tab OO r rs σ) : FinH tab rs OO r .normal σ := h
theorem ResH.out (hP : TabOk P tab) {rs : Array ResultVar} {OO : List AObj} {r : AV} {σ : St} {a : Act} {w : World} {fn : Func} (hfr : fn.results = rs) (h : ResH tab OO r rs σ) (hr : Rel n m G σ a w) :
    ∃ v, (results fn a.tmps).run P w = .ok v w ∧ ∃ S' ι F, (∀ b, G.S0 b → S' b) ∧ (∀ b, S' b → G.S0 b ∨ G.w0.heap.size ≤ b) ∧ (∀ b, S' b → b < w.heap.size) ∧ (∀ id, id < m → ι id = G.ι0 id) ∧ ORel S' w ι OO F ∧
      (∀ id, id < OO.length → ∀ b ∈ F id, (G.M0 b ∨ G.w0.heap.size ≤ b) ∧ ¬ S' b ∧ b < w.heap.size) ∧ VRel S' w ι OO r v [] ∧ Keeps G.w0 G.M0 w := by
  obtain ⟨S, ι, F, hr⟩ := hr
  cases h with
  | zero e => subst e; exact ⟨_, run_results0 hfr, S, ι, F, hr.base.1, hr.base.2, hr.stable, hr.spots, hr.objs, hr.foot, by simpa using LRel.tup LRel.nil LRel.nil, hr.keeps⟩
  | one h1 =>
    obtain ⟨v, hv, hV⟩ := ResV.rel hP hr h1
    exact ⟨v, run_results1 hfr hv, S, ι, F, hr.base.1, hr.base.2, hr.stable, hr.spots, hr.objs, hr.foot, hV, hr.keeps⟩
  | two h1 h2 e =>
    subst e
    obtain ⟨v1, hv1, hV1⟩ := ResV.rel hP hr h1
    obtain ⟨v2, hv2, hV2⟩ := ResV.rel hP hr h2
    exact ⟨_, run_results2 hfr hv1 hv2, S, ι, F, hr.base.1, hr.base.2, hr.stable, hr.spots, hr.objs, hr.foot, by simpa using LRel.tup (LRel.cons hV1 hV2) .nil, hr.keeps⟩
theorem FnH.of_body (hP : TabOk P tab) {f : FuncId} {fn : Func} {c : Code} {args : List AV} {M OO : List AObj} {r : AV} {k m : Nat} (hf : P.funcs[f]? = some fn) (hnt : fn.ntmps = k) (hb : fn.body = some c) (hnm : (fn.name == "runtime.NumGoroutine") = false)
    (hal : args.length ≤ k) (hml : m ≤ M.length) (hmo : m ≤ OO.length) (h : ∀ G, WpA P k m G c ⟨enumT 0 args, M⟩ (FinH tab fn.results OO r)) : FnH P f args m M OO r := by
  refine ⟨⟨fn, hf, by rw [hb]; rfl, hnm⟩, hml, hmo, fun w S ι F vs hS hg hO hF hl => ?_⟩
  have hvl : vs.length = args.length := hl.len.symm
  refine calls_of_wp hf hb ?_
  have hrel : Rel k m ⟨w, S, fun b => ∃ i, i < M.length ∧ b ∈ F i, ι, hg.ctx hS fun b ⟨i, hi, hb⟩ => (hF i hi b hb).1⟩ ⟨enumT 0 args, M⟩ { tmps := vs.toArray ++ Array.replicate (fn.ntmps - vs.toArray.size) undef, defers := [] } w := by
    refine ⟨S, ι, F, rfl, ?_, fun t => ?_, hO, fun id hid b hb => ⟨.inl ⟨id, hid, hb⟩, hF id hid b hb⟩, ⟨fun _ h => h, fun _ h => .inl h⟩, hS, Keeps.refl _ _, fun _ _ => rfl, by show m ≤ M.length; omega⟩
    · simp [hnt]; omega
    · show VRel S w ι M (look (enumT 0 args) t) _ []
      rw [look_enumT]
      simp only [Nat.zero_le, if_true, Nat.sub_zero]
      by_cases ht : t < args.length
      · obtain ⟨x, g, hx, hV, hg⟩ := hl.get (List.getElem?_eq_getElem ht)
        have hg0 : g = [] := List.eq_nil_iff_forall_not_mem.2 fun b hb => by simpa using hg b hb
        subst hg0
        have e1 : args.getD t .any = args[t] := by simp [ht]
        have e2 : (vs.toArray ++ Array.replicate (fn.ntmps - vs.toArray.size) undef).getD t undef = x := by
          have : t < vs.length := by omega
          rw [List.getElem?_eq_getElem this] at hx
          simp only [Option.some.injEq] at hx
          simp [Array.getD_eq_getD_getElem?, Array.getElem?_append, this, hx]
        rw [e1, e2]; exact hV
      · have e1 : args.getD t .any = .any := by simp [List.getElem?_eq_none (Nat.le_of_not_lt ht)]
        rw [e1]; exact .any .nil
  refine wp_mono (h _ _ _ hrel) fun e a' w' ⟨σ', hq, hr'⟩ => ?_
  have hdef : a'.defers = [] := by obtain ⟨_, _, _, h⟩ := hr'; exact h.defers
  cases e with
  | normal =>
    obtain ⟨v, hv, S', ι', F', q1, q2, q3, q4, q5⟩ := ResH.out hP rfl hq hr'
    exact ⟨hdef, v, hv, v, S', ι', F', rfl, q1, q2, q3, q4, q5⟩
  | ret =>
    obtain ⟨v, hv, S', ι', F', q1, q2, q3, q4, q5⟩ := ResH.out hP rfl hq hr'
    exact ⟨hdef, v, hv, v, S', ι', F', rfl, q1, q2, q3, q4, q5⟩
  | _ => exact hq.elim
end
inductive HandH (O : List AObj) (hs0 : List Nat) : List Nat → List AObj → Prop
  | nil : HandH O hs0 [] []
  | still {id hs ob mb M} : O[id]? = some ob → ob.cells = mb.cells → mb.cells.all AV.still = true → mb.ep = 0 → mb.size = ob.size → (mb.ty = none ∨ mb.ty = ob.ty) → HandH O hs0 hs M → HandH O hs0 (id :: hs) (mb :: M)
  | hand {id hs ob mb M} : O[id]? = some ob → Hand O hs0 ob.cells mb.cells → ob.cells.all AV.nofre = true → mb.ep = 0 → mb.size = ob.size → (mb.ty = none ∨ mb.ty = ob.ty) → HandH O hs0 hs M → HandH O hs0 (id :: hs) (mb :: M)
theorem HandH.at {O hs0 hs M} (h : HandH O hs0 hs M) : hs.length = M.length ∧ ∀ (j : Nat) (mb : AObj), M[j]? = some mb → ∃ id ob, hs[j]? = some id ∧ O[id]? = some ob ∧ ((ob.cells = mb.cells ∧ mb.cells.all AV.still = true) ∨ (Hand O hs0 ob.cells mb.cells ∧ ob.cells.all AV.nofre = true)) ∧ mb.ep = 0 ∧ mb.size = ob.size ∧ (mb.ty = none ∨ mb.ty = ob.ty) := by
  induction h with
  | nil => exact ⟨rfl, by simp⟩
  | still h1 h2 h3 h4 h5 h6 _ ih =>
    refine ⟨by simp [ih.1], fun j mb hj => ?_⟩
    cases j with
    | zero => simp at hj; subst hj; exact ⟨_, _, by simp, h1, .inl ⟨h2, h3⟩, h4, h5, h6⟩
    | succ j => simpa using ih.2 j mb (by simpa using hj)
  | hand h1 h2 h3 h4 h5 h6 _ ih =>
    refine ⟨by simp [ih.1], fun j mb hj => ?_⟩
    cases j with
    | zero => simp at hj; subst hj; exact ⟨_, _, by simp, h1, .inr ⟨h2, h3⟩, h4, h5, h6⟩
    | succ j => simpa using ih.2 j mb (by simpa using hj)
theorem nofre_list {S w ι O} : ∀ {cs : List AV} {xs f}, LRel S w ι O cs xs f → cs.all AV.nofre = true → f = []
  | [], xs, f, h, _ => by cases h; rfl
  | c :: cs, xs, f, h, hn => by
    rw [List.all_cons, Bool.and_eq_true] at hn
    obtain ⟨v, vs', f1, f2, rfl, hv, hr, rfl⟩ := h.uncons
    rw [nofre_nil hv hn.1, nofre_list hr hn.2]; rfl
theorem Hand.relH {O : List AObj} {hs : List Nat} {M : List AObj} {S S2 : Nat → Prop} {w ι ιM} (hM : hs.length = M.length ∧ ∀ (j : Nat) (mb : AObj), M[j]? = some mb → ∃ id ob, hs[j]? = some id ∧ O[id]? = some ob ∧ mb.ep = 0 ∧ mb.size = ob.size) (hι : ∀ (j id : Nat), hs[j]? = some id → ιM j = ι id) (hS : ∀ b, S b → S2 b)
    {F : Nat → List Nat} (hO : ORel S w ι O F) (hS2 : ∀ b, b < w.heap.size → (∀ id ∈ hs, b ∉ F id) → S2 b) (hlt : ∀ id ∈ hs, id < O.length) {vs us} (h : Hand O hs vs us) : ∀ {xs}, LRel S w ι O vs xs [] → LRel S2 w ιM M us xs [] := by
  induction h with
  | nil => intro xs hl; cases hl; exact .nil
  | any _ ih =>
    intro xs hl
    obtain ⟨v, vs', f1, f2, rfl, hv, hr, hf⟩ := hl.uncons
    obtain ⟨rfl, rfl⟩ : f1 = [] ∧ f2 = [] := by simpa using hf
    exact .any (ih hr)
  | keep hs hn _ ih =>
    intro xs hl
    obtain ⟨v, vs', f1, f2, rfl, hv, hr, hf⟩ := hl.uncons
    obtain ⟨rfl, rfl⟩ : f1 = [] ∧ f2 = [] := by simpa using hf
    exact LRel.cons (still_any hv hs M hS (fun _ _ => rfl) (by simp)) (ih hr)
  | @own id ep off len len' j ob vs us hj ho he hln _ ih =>
    intro xs hl
    subst hln
    obtain ⟨v, vs', f1, f2, rfl, hv, hr, hf⟩ := hl.uncons
    obtain ⟨rfl, rfl⟩ : f1 = [] ∧ f2 = [] := by simpa using hf
    cases hv with
    | own q1 q2 q3 r =>
      rw [ho] at q1; cases q1
      have hjl : j < M.length := by rw [← hM.1]; exact (List.getElem?_eq_some_iff.1 hj).1
      obtain ⟨id', ob', e1, e2, e5, e6⟩ := hM.2 j _ (List.getElem?_eq_getElem hjl)
      rw [hj] at e1; cases e1
      rw [ho] at e2; cases e2
      exact .own (List.getElem?_eq_getElem hjl) (by omega) (fun _ => by rw [hι j _ hj, e6]; exact q3 he.symm) (ih hr)
  | @ptr id ep off j ob vs us hj ho he _ ih =>
    intro xs hl
    obtain ⟨v, vs', f1, f2, rfl, hv, hr, hf⟩ := hl.uncons
    obtain ⟨rfl, rfl⟩ : f1 = [] ∧ f2 = [] := by simpa using hf
    cases hv with
    | ptr q1 q2 q3 r =>
      rw [ho] at q1; cases q1
      have hjl : j < M.length := by rw [← hM.1]; exact (List.getElem?_eq_some_iff.1 hj).1
      obtain ⟨id', ob', e1, e2, e5, e6⟩ := hM.2 j _ (List.getElem?_eq_getElem hjl)
      rw [hj] at e1; cases e1
      rw [ho] at e2; cases e2
      exact .ptr (List.getElem?_eq_getElem hjl) (by omega) (fun _ => by rw [hι j _ hj]; exact q3 he.symm) (ih hr)
  | agg _ _ ih1 ih2 =>
    intro xs hl
    obtain ⟨v, vs', f1, f2, rfl, hv, hr, hf⟩ := hl.uncons
    obtain ⟨rfl, rfl⟩ : f1 = [] ∧ f2 = [] := by simpa using hf
    obtain ⟨us', rfl, ha⟩ := LRel.agg_inv hv
    simpa using LRel.agg (ih1 ha) (ih2 hr)
  | snap hx _ ih =>
    intro xs hl
    obtain ⟨v, vs', f1, f2, rfl, hv, hr, hf⟩ := hl.uncons
    obtain ⟨rfl, rfl⟩ : f1 = [] ∧ f2 = [] := by simpa using hf
    have := SnapX.rel (ιM := ιM) hO hS hS2 hlt hx hv (by simp)
    simpa using LRel.cons this.lift (ih hr)
inductive Back (O : List AObj) (hs : List Nat) (m base : Nat) : List AV → List AV → Prop
  | nil : Back O hs m base [] []
  | loc {V vs us} : V.still = true → Loc [V] → Back O hs m base vs us → Back O hs m base (V :: vs) (V :: us)
  | old {j off len id ob vs us} : j < m → hs[j]? = some id → O[id]? = some ob → Back O hs m base vs us → Back O hs m base (.own j 0 off len :: vs) (.own id ob.ep off len :: us)
  | new {j i ep off len vs us} : m ≤ j → i = j - m + base → Back O hs m base vs us → Back O hs m base (.own j ep off len :: vs) (.own i ep off len :: us)
  | pold {j off id ob vs us} : j < m → hs[j]? = some id → O[id]? = some ob → Back O hs m base vs us → Back O hs m base (.ptr j 0 off :: vs) (.ptr id ob.ep off :: us)
  | pnew {j i ep off vs us} : m ≤ j → i = j - m + base → Back O hs m base vs us → Back O hs m base (.ptr j ep off :: vs) (.ptr i ep off :: us)
  | agg {ds es vs us} : Back O hs m base ds es → Back O hs m base vs us → Back O hs m base (.agg ds :: vs) (.agg es :: us)
  | tup {ds es vs us} : Back O hs m base ds es → Back O hs m base vs us → Back O hs m base (.tup ds :: vs) (.tup es :: us)
theorem Back.all {O : List AObj} {hs : List Nat} {m base : Nat} {cs cs' : List AV} (he : cs = cs') (h1 : cs'.all AV.still = true) (h2 : Loc cs') : Back O hs m base cs cs' := by
  subst he
  induction cs with
  | nil => exact .nil
  | cons c cs ih =>
    rw [List.all_cons, Bool.and_eq_true] at h1
    cases h2 with
    | any r => exact .loc rfl (.any .nil) (ih h1.2 r)
    | sc r => exact .loc rfl (.sc .nil) (ih h1.2 r)
    | nilS r => exact .loc rfl (.nilS .nil) (ih h1.2 r)
    | imm0 r => exact .loc rfl (.imm0 .nil) (ih h1.2 r)
    | own r => simp [AV.still] at h1
    | fre a r => exact .loc rfl (.fre a .nil) (ih h1.2 r)
    | agg => simp [AV.still] at h1
    | tup => simp [AV.still] at h1
theorem Back.rel {O OO O3 : List AObj} {hs : List Nat} {m base : Nat} {S' S3 : Nat → Prop} {w' ι' ι3} (hold : ∀ (j id : Nat) (ob : AObj), j < m → hs[j]? = some id → O[id]? = some ob → ∃ oj o3, OO[j]? = some oj ∧ oj.ep = 0 ∧ O3[id]? = some o3 ∧ o3.ep = ob.ep ∧ o3.size = oj.size ∧ ι3 id = ι' j)
    (hnew : ∀ (j : Nat) (oj : AObj), m ≤ j → OO[j]? = some oj → ∃ o3, O3[j - m + base]? = some o3 ∧ o3.ep = oj.ep ∧ o3.size = oj.size ∧ ι3 (j - m + base) = ι' j) {vs us} (h : Back O hs m base vs us) :
    ∀ {xs f}, LRel S' w' ι' OO vs xs f → LRel S3 w' ι3 O3 us xs f := by
  induction h with
  | nil => intro xs f hl; cases hl; exact .nil
  | loc hs1 hL _ ih =>
    intro xs f hl
    obtain ⟨v, vs', f1, f2, rfl, hv, hr, rfl⟩ := hl.uncons
    exact LRel.cons (Loc.rel hL (still_any (S' := S') hv hs1 O3 (fun _ h => h) (fun _ _ => rfl) (fun _ _ => rfl))) (ih hr)
  | @old j off len id ob vs us hj hjs ho _ ih =>
    intro xs f hl
    obtain ⟨oj, o3, e1, e2, e3, e4, e5, e6⟩ := hold j id ob hj hjs ho
    cases hl with
    | own q1 q2 q3 r =>
      rw [e1] at q1; cases q1
      exact .own e3 (by omega) (fun _ => by rw [e6, e5]; exact q3 e2.symm) (ih r)
  | @new j i ep off len vs us hj hi _ ih =>
    intro xs f hl
    subst hi
    cases hl with
    | own q1 q2 q3 r =>
      obtain ⟨o3, e1, e2, e3, e4⟩ := hnew j _ hj q1
      exact .own e1 (by omega) (fun e => by rw [e4, e3]; exact q3 (by omega)) (ih r)
  | @pold j off id ob vs us hj hjs ho _ ih =>
    intro xs f hl
    obtain ⟨oj, o3, e1, e2, e3, e4, e5, e6⟩ := hold j id ob hj hjs ho
    cases hl with
    | ptr q1 q2 q3 r =>
      rw [e1] at q1; cases q1
      exact .ptr e3 (by omega) (fun _ => by rw [e6]; exact q3 e2.symm) (ih r)
  | @pnew j i ep off vs us hj hi _ ih =>
    intro xs f hl
    subst hi
    cases hl with
    | ptr q1 q2 q3 r =>
      obtain ⟨o3, e1, e2, e3, e4⟩ := hnew j _ hj q1
      exact .ptr e1 (by omega) (fun e => by rw [e4]; exact q3 (by omega)) (ih r)
  | agg _ _ ih1 ih2 =>
    intro xs f hl
    obtain ⟨v, vs', f1, f2, rfl, hv, hr, rfl⟩ := hl.uncons
    obtain ⟨us', rfl, ha⟩ := LRel.agg_inv hv
    exact .agg (ih1 ha) (ih2 hr)
  | tup _ _ ih1 ih2 =>
    intro xs f hl
    obtain ⟨v, vs', f1, f2, rfl, hv, hr, rfl⟩ := hl.uncons
    obtain ⟨us', rfl, ha⟩ := LRel.tup_inv hv
    exact .tup (ih1 ha) (ih2 hr)
theorem Back.len {O : List AObj} {hs : List Nat} {m base : Nat} {vs us : List AV} (h : Back O hs m base vs us) : us.length = vs.length := by
  induction h <;> simp_all
inductive AftO (O : List AObj) (hs : List Nat) (m base : Nat) (OO : List AObj) : Nat → List AObj → List AObj → Prop
  | nil {k} : AftO O hs m base OO k [] []
  | keep {k ob os us} : findN hs k 0 = none → AftO O hs m base OO (k + 1) os us → AftO O hs m base OO k (ob :: os) (ob :: us)
  | turn {k c e s t os us j cj sj tj cs} : findN hs k 0 = some j → j < m → OO[j]? = some ⟨cj, 0, sj, tj⟩ → sj = s → Back O hs m base cj cs → AftO O hs m base OO (k + 1) os us → AftO O hs m base OO k (⟨c, e, s, t⟩ :: os) (⟨cs, e, sj, tj⟩ :: us)
  | dead {k c e s t os us j} : findN hs k 0 = some j → m ≤ j → AftO O hs m base OO (k + 1) os us → AftO O hs m base OO k (⟨c, e, s, t⟩ :: os) (⟨[], e + 1, 0, none⟩ :: us)
inductive AftN (O : List AObj) (hs : List Nat) (m base : Nat) : List AObj → List AObj → Prop
  | nil : AftN O hs m base [] []
  | cons {c e s t cs os us} : Back O hs m base c cs → AftN O hs m base os us → AftN O hs m base (⟨c, e, s, t⟩ :: os) (⟨cs, e, s, t⟩ :: us)
theorem AftN.at {O hs m base os us} (h : AftN O hs m base os us) : us.length = os.length ∧ ∀ (i : Nat) (oj : AObj), os[i]? = some oj → ∃ cs, us[i]? = some ⟨cs, oj.ep, oj.size, oj.ty⟩ ∧ Back O hs m base oj.cells cs := by
  induction h with
  | nil => exact ⟨rfl, by simp⟩
  | @cons c e s t cs os us hb _ ih =>
    refine ⟨by simp [ih.1], fun i oj hi => ?_⟩
    cases i with
    | zero => simp at hi; subst hi; exact ⟨cs, by simp, hb⟩
    | succ i => simpa using ih.2 i oj (by simpa using hi)
theorem AftO.at {O hs m base OO k os us} (h : AftO O hs m base OO k os us) : us.length = os.length ∧ ∀ (i : Nat) (ob : AObj), os[i]? = some ob →
    (findN hs (k + i) 0 = none ∧ us[i]? = some ob) ∨ (∃ j oj cs, findN hs (k + i) 0 = some j ∧ j < m ∧ OO[j]? = some oj ∧ oj.ep = 0 ∧ oj.size = ob.size ∧ us[i]? = some ⟨cs, ob.ep, oj.size, oj.ty⟩ ∧ Back O hs m base oj.cells cs) ∨
      (∃ j, findN hs (k + i) 0 = some j ∧ m ≤ j ∧ us[i]? = some ⟨[], ob.ep + 1, 0, none⟩) := by
  induction h with
  | nil => exact ⟨rfl, by simp⟩
  | @keep k ob os us hf _ ih =>
    refine ⟨by simp [ih.1], fun i o hi => ?_⟩
    cases i with
    | zero => simp at hi; subst hi; exact .inl ⟨hf, by simp⟩
    | succ i => have := ih.2 i o (by simpa using hi); rw [show k + 1 + i = k + (i + 1) by omega] at this; simpa using this
  | @turn k c e s t os us j cj sj tj cs hf hj hoj hsz hb _ ih =>
    refine ⟨by simp [ih.1], fun i o hi => ?_⟩
    cases i with
    | zero => simp at hi; subst hi; exact .inr (.inl ⟨j, _, cs, hf, hj, hoj, rfl, hsz, by simp, hb⟩)
    | succ i => have := ih.2 i o (by simpa using hi); rw [show k + 1 + i = k + (i + 1) by omega] at this; simpa using this
  | @dead k c e s t os us j hf hj _ ih =>
    refine ⟨by simp [ih.1], fun i o hi => ?_⟩
    cases i with
    | zero => simp at hi; subst hi; exact .inr (.inr ⟨j, hf, hj, by simp⟩)
    | succ i => have := ih.2 i o (by simpa using hi); rw [show k + 1 + i = k + (i + 1) by omega] at this; simpa using this
section
variable {P : Program} {n m : Nat} {G : Ctx} {T : List (Nat × AV)} {O : List AObj} {Q : Exit → St → Prop} {ops : Array Oper} {l : List Oper} {tt : TypeId} {pos : String} {after : Array Edge} {tab : List (Nat × Ty)}
theorem callH_rel {f : FuncId} {xs : List Operand} {As : List AV} {M OO A B : List AObj} {r r' : AV} {hs : List Nat} {k : Nat} (hc : FnH P f As k M OO r) (hh : Hand O hs (xs.map (av T)) As) (hM : HandH O hs hs M) (hnd : hs.Nodup) (hmk : ∀ (j id : Nat), k ≤ j → hs[j]? = some id → m ≤ id)
    (hA : AftO O hs k O.length OO 0 O A) (hB : AftN O hs k O.length (OO.drop k) B) (hre : Back O hs k O.length [r] [r']) {a : Act} {w : World} (hr : Rel n m G ⟨T, O⟩ a w) :
    Calls P f (xs.map a.eval).toArray w fun e w' => ∃ v, e = .returned v ∧ ∃ S ι F, RelAt n m G S ι F ⟨T, A ++ B⟩ a w' ∧ VRel S w' ι (A ++ B) r' v [] := by
  obtain ⟨S, ι, F, hr⟩ := hr
  obtain ⟨⟨fn, hf, hb, hnm⟩, hkM, hkO, hcall⟩ := hc
  obtain ⟨hlM, hatM⟩ := hM.at
  let S2 : Nat → Prop := fun b => b < w.heap.size ∧ ∀ id ∈ hs, b ∉ F id
  let ιM : Nat → Spot := fun j => match hs[j]? with | some id => ι id | none => none
  let FM : Nat → List Nat := fun j => match hs[j]? with | some id => F id | none => []
  have hιM : ∀ (j id : Nat), hs[j]? = some id → ιM j = ι id := fun j id h => by show (match hs[j]? with | some id => ι id | none => none) = _; rw [h]
  have hFM : ∀ (j id : Nat), hs[j]? = some id → FM j = F id := fun j id h => by show (match hs[j]? with | some id => F id | none => []) = _; rw [h]
  have hidl : ∀ (j id : Nat), hs[j]? = some id → id < O.length := fun j id h => by
    have hj : j < M.length := by rw [← hlM]; exact (List.getElem?_eq_some_iff.1 h).1
    obtain ⟨id', ob, e1, e2, _⟩ := hatM j _ (List.getElem?_eq_getElem hj)
    rw [h] at e1; cases e1; exact (List.getElem?_eq_some_iff.1 e2).1
  have hmem : ∀ id ∈ hs, ∃ j, j < M.length ∧ hs[j]? = some id := fun id h => by
    obtain ⟨j, hj, e⟩ := List.getElem_of_mem h
    exact ⟨j, by omega, by rw [List.getElem?_eq_getElem hj, e]⟩
  have hex : ∀ j, j < M.length → ∃ id, hs[j]? = some id := fun j hj => ⟨hs[j], List.getElem?_eq_getElem (by omega)⟩
  have hidm : ∀ id ∈ hs, id < O.length := fun id hid => by obtain ⟨j, hj, e⟩ := hmem id hid; exact hidl j id e
  have hSS : ∀ b, S b → S2 b := fun b hb => ⟨hr.stable b hb, fun id hid hbf => by
    obtain ⟨j, hj, e⟩ := hmem id hid
    exact (hr.foot id (hidl j id e) b hbf).2.1 hb⟩
  have hMw : hs.length = M.length ∧ ∀ (j : Nat) (mb : AObj), M[j]? = some mb → ∃ id ob, hs[j]? = some id ∧ O[id]? = some ob ∧ mb.ep = 0 ∧ mb.size = ob.size := ⟨hlM, fun j mb hj => by
    obtain ⟨id, ob, e1, e2, _, e4, e5, _⟩ := hatM j mb hj; exact ⟨id, ob, e1, e2, e4, e5⟩⟩
  have hOM : ORel S2 w ιM M FM := by
    refine ⟨fun j mb hj => ?_, fun j hj => ?_, fun i j hi hj hij b hb => ?_⟩
    · obtain ⟨id, ob, e1, e2, e3, e4, e5, e7⟩ := hatM j mb hj
      rw [hιM j id e1, hFM j id e1]
      have ho := hr.objs.obj id ob e2
      unfold ObjAt at ho ⊢
      cases hs' : ι id with
      | none =>
        rw [hs'] at ho
        rcases e3 with ⟨e3, _⟩ | ⟨e3, _⟩
        · rw [← e3]; exact ho
        · rw [ho.1] at e3; generalize mb.cells = z at e3; cases e3; exact ⟨rfl, ho.2⟩
      | some p =>
        obtain ⟨b, k⟩ := p
        rw [hs'] at ho
        obtain ⟨cur', t', fz', f2, q1, q2, q3, q4, q5, q6, q7⟩ := ho
        have hty : ∀ e, mb.ty = some e → t' = e ∧ fz' = (0, 0) := fun e he => by
          rcases e7 with e7 | e7
          · rw [e7] at he; cases he
          · exact q6 e (by rw [← e7]; exact he)
        rcases e3 with ⟨e3, e3'⟩ | ⟨e3, e3'⟩
        · refine ⟨cur', t', fz', f2, q1, q2, q3, by rw [← e3]; exact q4, q5, hty, ?_⟩
          rw [← e3]
          exact still_all (by rw [e3]; exact e3') q7 hSS (fun _ _ => rfl) (fun _ _ => rfl)
        · have hf2 := nofre_list q7 e3'
          subst hf2
          have hl2 := Hand.relH (S2 := S2) (ιM := ιM) hMw hιM hSS hr.objs (fun b h1 h2 => ⟨h1, h2⟩) hidm e3 q7
          have hlen : mb.cells.length = ob.cells.length := by have := hl2.len; have := q7.len; omega
          refine ⟨cur', t', fz', [], q1, q2, q3, by omega, q5, hty, ?_⟩
          rw [hlen]; exact hl2
    · obtain ⟨id, e⟩ := hex j hj
      rw [hFM j id e]; exact hr.objs.nodup id (hidl j id e)
    · obtain ⟨id1, e1⟩ := hex i hi
      obtain ⟨id2, e2⟩ := hex j hj
      rw [hFM i id1 e1] at hb; rw [hFM j id2 e2]
      exact hr.objs.apart id1 id2 (hidl i id1 e1) (hidl j id2 e2) (fun e => hij (nodup_get hnd e1 (e ▸ e2))) b hb
  have hl := hr.evals xs
  have hl2 := Hand.relH (S2 := S2) (ιM := ιM) hMw hιM hSS hr.objs (fun b h1 h2 => ⟨h1, h2⟩) hidm hh hl
  refine (hcall w S2 ιM FM (xs.map a.eval) (fun b h => h.1) (hr.glb.mono hSS) hOM (fun j hj b hb => ?_) hl2).mono fun e w' he => ?_
  · obtain ⟨id, e⟩ := hex j hj
    rw [hFM j id e] at hb
    exact ⟨fun h => h.2 id (List.mem_of_getElem? e) hb, (hr.foot id (hidl j id e) b hb).2.2⟩
  obtain ⟨v, S', ι', F', rfl, hS1, hS2, hS3, hι', hO', hF', hv, hk⟩ := he
  refine ⟨v, rfl, ?_⟩
  have hold : ∀ b, b < w.heap.size → (∀ id ∈ hs, b ∉ F id) → w'.heap[b]? = w.heap[b]? := fun b hb hn => hk.block b hb (by
    rintro ⟨i, hi, hbf⟩
    obtain ⟨id, e⟩ := hex i hi
    rw [hFM i id e] at hbf
    exact hn id (List.mem_of_getElem? e) hbf)
  obtain ⟨hAl, hAt⟩ := hA.at
  obtain ⟨hBl, hBt⟩ := hB.at
  have hBl2 : B.length = OO.length - k := by rw [hBl, List.length_drop]
  have hfind : ∀ (i j : Nat), findN hs i 0 = some j → j < M.length ∧ hs[j]? = some i := fun i j h => by
    obtain ⟨q, rfl, hq⟩ := findN_some h
    rw [Nat.zero_add]
    exact ⟨by rw [← hlM]; exact (List.getElem?_eq_some_iff.1 hq).1, hq⟩
  have hfound : ∀ (i j : Nat), hs[j]? = some i → findN hs i 0 = some j := fun i j h => by
    cases hfd : findN hs i 0 with
    | none => exact absurd (List.mem_of_getElem? h) (findN_none hfd)
    | some q => obtain ⟨_, h2⟩ := hfind i q hfd; rw [nodup_get hnd h2 h]
  let S3 : Nat → Prop := fun b => S b ∨ (S' b ∧ w.heap.size ≤ b)
  let ι3 : Nat → Spot := fun i => if i < O.length then (match findN hs i 0 with | some j => if j < k then ι i else none | none => ι i) else ι' (k + (i - O.length))
  let F3 : Nat → List Nat := fun i => if i < O.length then (match findN hs i 0 with | some j => if j < k then F' j else [] | none => F i) else F' (k + (i - O.length))
  let O3 := A ++ B
  have hlO3 : O3.length = O.length + (OO.length - k) := by show (A ++ B).length = _; rw [List.length_append, hAl, hBl2]
  have hι3n : ∀ i, i < O.length → findN hs i 0 = none → ι3 i = ι i := fun i hi h => by show (if _ then _ else _) = _; rw [if_pos hi, h]
  have hι3t : ∀ i j, i < O.length → findN hs i 0 = some j → j < k → ι3 i = ι i := fun i j hi h hj => by show (if _ then _ else _) = _; rw [if_pos hi, h]; exact if_pos hj
  have hι3d : ∀ i j, i < O.length → findN hs i 0 = some j → k ≤ j → ι3 i = none := fun i j hi h hj => by show (if _ then _ else _) = _; rw [if_pos hi, h]; exact if_neg (by omega)
  have hι3g : ∀ i, O.length ≤ i → ι3 i = ι' (k + (i - O.length)) := fun i hi => if_neg (by omega)
  have hF3n : ∀ i, i < O.length → findN hs i 0 = none → F3 i = F i := fun i hi h => by show (if _ then _ else _) = _; rw [if_pos hi, h]
  have hF3t : ∀ i j, i < O.length → findN hs i 0 = some j → j < k → F3 i = F' j := fun i j hi h hj => by show (if _ then _ else _) = _; rw [if_pos hi, h]; exact if_pos hj
  have hF3d : ∀ i j, i < O.length → findN hs i 0 = some j → k ≤ j → F3 i = [] := fun i j hi h hj => by show (if _ then _ else _) = _; rw [if_pos hi, h]; exact if_neg (by omega)
  have hF3g : ∀ i, O.length ≤ i → F3 i = F' (k + (i - O.length)) := fun i hi => if_neg (by omega)
  have hO3lt : ∀ i : Nat, i < O.length → O3[i]? = A[i]? := fun i hi => by show (A ++ B)[i]? = _; rw [List.getElem?_append_left (by omega)]
  have hO3ge : ∀ i : Nat, O.length ≤ i → O3[i]? = B[i - O.length]? := fun i hi => by show (A ++ B)[i]? = _; rw [List.getElem?_append_right (by omega), hAl]
  have hB3 : ∀ (j : Nat) (oj : AObj), k ≤ j → OO[j]? = some oj → ∃ cs, B[j - k]? = some ⟨cs, oj.ep, oj.size, oj.ty⟩ ∧ Back O hs k O.length oj.cells cs := fun j oj hj h => by
    refine hBt (j - k) oj ?_
    rw [List.getElem?_drop, show k + (j - k) = j by omega]; exact h
  have bkold : ∀ (j id : Nat) (ob : AObj), j < k → hs[j]? = some id → O[id]? = some ob → ∃ oj o3, OO[j]? = some oj ∧ oj.ep = 0 ∧ O3[id]? = some o3 ∧ o3.ep = ob.ep ∧ o3.size = oj.size ∧ ι3 id = ι' j := fun j id ob hj hjs ho => by
    have hlt := hidl j id hjs
    have hfd := hfound id j hjs
    rcases hAt id ob ho with ⟨h1, _⟩ | ⟨j', oj, cs, h1, h2, h3, h4, h5, h6, h7⟩ | ⟨j', h1, h2, _⟩
    · rw [Nat.zero_add, hfd] at h1; cases h1
    · rw [Nat.zero_add, hfd] at h1; cases h1
      exact ⟨oj, ⟨cs, ob.ep, oj.size, oj.ty⟩, h3, h4, by rw [hO3lt id hlt]; exact h6, rfl, rfl, by rw [hι3t id j hlt hfd hj, hι' j hj, hιM j id hjs]⟩
    · rw [Nat.zero_add, hfd] at h1; cases h1; omega
  have bknew : ∀ (j : Nat) (oj : AObj), k ≤ j → OO[j]? = some oj → ∃ o3, O3[j - k + O.length]? = some o3 ∧ o3.ep = oj.ep ∧ o3.size = oj.size ∧ ι3 (j - k + O.length) = ι' j := fun j oj hj h => by
    obtain ⟨cs, h1, h2⟩ := hB3 j oj hj h
    refine ⟨⟨cs, oj.ep, oj.size, oj.ty⟩, by rw [hO3ge _ (by omega), Nat.add_sub_cancel]; exact h1, rfl, rfl, ?_⟩
    rw [hι3g _ (by omega), Nat.add_sub_cancel]; congr 1; omega
  have hlat : Later S w ι O S3 w' ι3 O3 := by
    refine ⟨fun b h => .inl h, fun b hb => hold b (hr.stable b hb) (hSS b hb).2, fun id ob h => ?_⟩
    have hlt : id < O.length := (List.getElem?_eq_some_iff.1 h).1
    rcases hAt id ob h with ⟨h1, h2⟩ | ⟨j, oj, cs, h1, h2, h3, h4, h5, h6, h7⟩ | ⟨j, h1, h2, h3⟩
    · rw [Nat.zero_add] at h1
      exact ⟨ob, by rw [hO3lt id hlt]; exact h2, .inr ⟨rfl, rfl, hι3n id hlt h1⟩⟩
    · rw [Nat.zero_add] at h1
      exact ⟨⟨cs, ob.ep, oj.size, oj.ty⟩, by rw [hO3lt id hlt]; exact h6, .inr ⟨rfl, h5, hι3t id j hlt h1 h2⟩⟩
    · exact ⟨⟨[], ob.ep + 1, 0, none⟩, by rw [hO3lt id hlt]; exact h3, .inl (Nat.lt_succ_self _)⟩
  have hsrc : ∀ q, q < OO.length → ∀ b ∈ F' q, ((∃ id, id ∈ hs ∧ id < O.length ∧ b ∈ F id) ∨ w.heap.size ≤ b) ∧ ¬ S' b ∧ b < w'.heap.size := fun q hq b hb => by
    obtain ⟨q1, q2, q3⟩ := hF' q hq b hb
    refine ⟨?_, q2, q3⟩
    rcases q1 with ⟨i, hi, hbf⟩ | q1
    · obtain ⟨id, e⟩ := hex i hi
      rw [hFM i id e] at hbf
      exact .inl ⟨id, List.mem_of_getElem? e, hidl i id e, hbf⟩
    · exact .inr q1
  have hnoS : ∀ q, q < OO.length → ∀ b ∈ F' q, (G.M0 b ∨ G.w0.heap.size ≤ b) ∧ ¬ S3 b ∧ b < w'.heap.size := fun q hq b hb => by
    obtain ⟨q1, q2, q3⟩ := hsrc q hq b hb
    rcases q1 with ⟨id, hid, hlt, hbf⟩ | q1
    · obtain ⟨p1, p2, p3⟩ := hr.foot id hlt b hbf
      refine ⟨p1, ?_, q3⟩
      rintro (h | ⟨h, _⟩)
      · exact p2 h
      · exact q2 h
    · refine ⟨.inr (by have := hr.keeps.size; omega), ?_, q3⟩
      rintro (h | ⟨h, _⟩)
      · have := hr.stable b h; omega
      · exact q2 h
  have hnotin : ∀ i, i < O.length → findN hs i 0 = none → ∀ b ∈ F i, w'.heap[b]? = w.heap[b]? := fun i hi h b hb => hold b (hr.foot i hi b hb).2.2 fun id hid hbf => by
    obtain ⟨j, hj, e⟩ := hmem id hid
    have hne : i ≠ id := by rintro rfl; exact findN_none h hid
    exact hr.objs.apart i id hi (hidl j id e) hne b hb hbf
  have hback : ∀ {cs cs' : List AV}, Back O hs k O.length cs cs' → ∀ {ys g}, LRel S' w' ι' OO cs ys g → LRel S3 w' ι3 O3 cs' ys g := fun hb => Back.rel bkold bknew hb
  -- an object of the callee's, in its place
  have hobj : ∀ (q : Nat) (oj : AObj) (cs : List AV) (e : Nat), OO[q]? = some oj → Back O hs k O.length oj.cells cs → ObjAt S3 w' ι3 O3 ⟨cs, e, oj.size, oj.ty⟩ (ι' q) (F' q) := fun q oj cs e hq hb => by
    have ho := hO'.obj q oj hq
    have hl := hb.len
    unfold ObjAt at ho ⊢
    cases hs' : ι' q with
    | none =>
      rw [hs'] at ho
      refine ⟨List.length_eq_zero_iff.1 ?_, ho.2⟩
      rw [hl, ho.1]; rfl
    | some p =>
      obtain ⟨b, kk⟩ := p
      rw [hs'] at ho
      obtain ⟨cur', t', fz', f2, q1, q2, q3, q4, q5, q6, q7⟩ := ho
      refine ⟨cur', t', fz', f2, q1, q2, q3, by show cs.length ≤ kk; omega, q5, q6, ?_⟩
      show LRel S3 w' ι3 O3 cs (cur'.toList.take cs.length) f2
      rw [hl]; exact hback hb q7
  -- whence a place's blocks come
  have hpl : ∀ i, i < O3.length → (∃ q, q < OO.length ∧ F3 i = F' q ∧ ((q < k ∧ hs[q]? = some i) ∨ (O.length ≤ i ∧ q = k + (i - O.length)))) ∨ (i < O.length ∧ findN hs i 0 = none ∧ F3 i = F i) ∨ F3 i = [] := fun i hi => by
    by_cases hlt : i < O.length
    · cases hfd : findN hs i 0 with
      | some j =>
        by_cases hj : j < k
        · exact .inl ⟨j, by omega, hF3t i j hlt hfd hj, .inl ⟨hj, (hfind i j hfd).2⟩⟩
        · exact .inr (.inr (hF3d i j hlt hfd (by omega)))
      | none => exact .inr (.inl ⟨hlt, rfl, hF3n i hlt hfd⟩)
    · exact .inl ⟨_, by omega, hF3g i (by omega), .inr ⟨by omega, rfl⟩⟩
  refine ⟨S3, ι3, F3, ⟨hr.defers, hr.size, fun t => (hr.tmps t).mono hlat (by simp), ⟨fun i ob h => ?_, fun i h => ?_, fun i j hi hj hij b hb => ?_⟩, fun i h b hb => ?_, ⟨fun b hb => .inl (hr.base.1 b hb), ?_⟩, ?_, ?_, fun i h => ?_, ?_⟩, ?_⟩
  · have h : O3[i]? = some ob := h
    by_cases hlt : i < O.length
    · rw [hO3lt i hlt] at h
      rcases hAt i O[i] (List.getElem?_eq_getElem hlt) with ⟨h1, h2⟩ | ⟨j, oj, cs, h1, h2, h3, h4, h5, h6, h7⟩ | ⟨j, h1, h2, h3⟩
      · rw [Nat.zero_add] at h1
        rw [h2] at h; cases h
        rw [hι3n i hlt h1, hF3n i hlt h1]
        have ho := hr.objs.obj i O[i] (List.getElem?_eq_getElem hlt)
        have key := hnotin i hlt h1
        unfold ObjAt at ho ⊢
        cases hs' : ι i with
        | none => rw [hs'] at ho; exact ho
        | some p =>
          obtain ⟨b, kk⟩ := p
          rw [hs'] at ho
          obtain ⟨cur', t', fz', f2, q1, q2, q3, q4, q5, q6, q7⟩ := ho
          exact ⟨cur', t', fz', f2, q1, by rw [key b (by rw [q1]; simp)]; exact q2, q3, q4, q5, q6, q7.mono hlat fun b' hb' => key b' (by rw [q1]; simp [hb'])⟩
      · rw [Nat.zero_add] at h1
        rw [h6] at h; cases h
        have e : ι i = ι' j := by rw [hι' j h2, hιM j i (hfind i j h1).2]
        rw [hι3t i j hlt h1 h2, hF3t i j hlt h1 h2, e]
        exact hobj j oj cs _ h3 h7
      · rw [Nat.zero_add] at h1
        rw [h3] at h; cases h
        rw [hι3d i j hlt h1 h2, hF3d i j hlt h1 h2]
        exact ⟨rfl, rfl⟩
    · have hil : i < O3.length := (List.getElem?_eq_some_iff.1 h).1
      rw [hO3ge i (by omega)] at h
      have hq : k + (i - O.length) < OO.length := by omega
      obtain ⟨cs, h1, h2⟩ := hB3 (k + (i - O.length)) _ (by omega) (List.getElem?_eq_getElem hq)
      rw [show k + (i - O.length) - k = i - O.length by omega] at h1
      rw [h1] at h; cases h
      rw [hι3g i (by omega), hF3g i (by omega)]
      exact hobj _ _ cs _ (List.getElem?_eq_getElem hq) h2
  · rcases hpl i h with ⟨q, h1, h2, _⟩ | ⟨h1, _, h2⟩ | h2
    · rw [h2]; exact hO'.nodup q h1
    · rw [h2]; exact hr.objs.nodup i h1
    · rw [h2]; exact List.nodup_nil
  · have hcross : ∀ i q, i < O.length → findN hs i 0 = none → q < OO.length → ∀ b ∈ F i, b ∉ F' q := fun i q hi hn hq b hb hb' => by
      rcases (hsrc q hq b hb').1 with ⟨id, hid, hlt, hbf⟩ | h
      · have hne : i ≠ id := by rintro rfl; exact findN_none hn hid
        exact hr.objs.apart i id hi hlt hne b hb hbf
      · have := (hr.foot i hi b hb).2.2; omega
    rcases hpl i hi with ⟨q1, p1, p2, p3⟩ | ⟨p1, p2, p3⟩ | p3 <;> rcases hpl j hj with ⟨q2, r1, r2, r3⟩ | ⟨r1, r2, r3⟩ | r3
    · rw [p2] at hb; rw [r2]
      refine hO'.apart q1 q2 p1 r1 (fun e => ?_) b hb
      subst e
      rcases p3 with ⟨a1, a2⟩ | ⟨a1, a2⟩ <;> rcases r3 with ⟨b1, b2⟩ | ⟨b1, b2⟩
      · rw [a2] at b2; cases b2; exact hij rfl
      · omega
      · omega
      · omega
    · rw [p2] at hb; rw [r3]; intro hb'; exact hcross j q1 r1 r2 p1 b hb' hb
    · rw [r3]; simp
    · rw [p3] at hb; rw [r2]; exact hcross i q2 p1 p2 r1 b hb
    · rw [p3] at hb; rw [r3]; exact hr.objs.apart i j p1 r1 hij b hb
    · rw [r3]; simp
    · rw [p3] at hb; simp at hb
    · rw [p3] at hb; simp at hb
    · rw [p3] at hb; simp at hb
  · rcases hpl i h with ⟨q, h1, h2, _⟩ | ⟨h1, _, h2⟩ | h2
    · rw [h2] at hb; exact hnoS q h1 b hb
    · rw [h2] at hb
      obtain ⟨q1, q2, q3⟩ := hr.foot i h1 b hb
      refine ⟨q1, ?_, by have := hk.size; omega⟩
      rintro (h' | ⟨_, h'⟩)
      · exact q2 h'
      · omega
    · rw [h2] at hb; simp at hb
  · rintro b (h' | ⟨_, h'⟩)
    · exact hr.base.2 b h'
    · exact .inr (by have := hr.keeps.size; omega)
  · rintro b (h' | ⟨h', _⟩)
    · have := hr.stable b h'; have := hk.size; omega
    · exact hS3 b h'
  · refine ⟨hk.os.trans hr.keeps.os, hk.tape.trans hr.keeps.tape, hk.output.trans hr.keeps.output, by have := hr.keeps.size; have := hk.size; omega, fun b hb hM0 => ?_⟩
    rw [hold b (by have := hr.keeps.size; omega) fun id hid hbf => ?_]
    · exact hr.keeps.block b hb hM0
    · obtain ⟨j, hj, e⟩ := hmem id hid
      rcases (hr.foot id (hidl j id e) b hbf).1 with h | h
      · exact hM0 h
      · omega
  · have hm : m ≤ O.length := hr.mle
    have hlt : i < O.length := by omega
    have e : ι3 i = ι i := by
      cases hfd : findN hs i 0 with
      | none => exact hι3n i hlt hfd
      | some j =>
        by_cases hj : j < k
        · exact hι3t i j hlt hfd hj
        · have := hmk j i (by omega) (hfind i j hfd).2; omega
    rw [e]; exact hr.spots i h
  · have hm : m ≤ O.length := hr.mle
    show m ≤ O3.length
    omega
  · exact hback hre hv
theorem WpL.callH {f : FuncId} {xs : List Operand} {ats : Array TypeId} {As : List AV} {M OO A B O2 : List AObj} {r r' : AV} {hs : List Nat} {k base d : Nat} (hc : FnH P f As k M OO r) (hh : Hand O hs (xs.map (av T)) As) (hM : HandH O hs hs M) (hnd : nodupB hs = true) (hmk : ∀ (j id : Nat), k ≤ j → hs[j]? = some id → m ≤ id)
    (hb : nid O 0 = some base) (hA : AftO O hs k base OO 0 O A) (hB : AftN O hs k base (OO.drop k) B) (hre : Back O hs k base [r] [r']) (hO2 : catF A B = some O2) (hn : d < n) (h : WpL P n m G false ops l ⟨(d, r') :: T, O2⟩ Q) :
    WpL P n m G false ops ({ dst := some d, op := .call { callee := .value (.func f), args := xs.toArray, argTypes := ats }, type := tt, pos := pos, after := after, guard := none } :: l) ⟨T, O⟩ Q :=
  WpL.op rfl (fun a w hr => by
    have := catF_eq hO2; subst this
    have e2 : base = O.length := by rw [nid_len, Nat.zero_add] at hb; exact (Option.some.inj hb).symm
    subst e2
    have hcl := callH_rel hc hh hM (nodupB_spec hnd) hmk hA hB hre hr
    obtain ⟨⟨fn, hf, hbd, hnm⟩, _⟩ := hc
    have hex : (execOp a.eval { dst := some d, op := .call { callee := .value (.func f), args := xs.toArray, argTypes := ats }, type := tt, pos := pos, after := after, guard := none }).run P w = .ok (.enter f (xs.map a.eval).toArray) w := by
      simp only [execOp, resolve, Act.eval, Deferred.ofValue, invoke, callFunc, Sem.run_bind, Sem.run_pure, Result.andThen_ok, program, Sem.run, hf, hnm, hbd, Bool.false_eq_true, if_false]
      simp
    unfold Oper.wp
    rw [hex]
    refine hcl.mono fun e w' ⟨v, he, S, ι, F, hr', hv⟩ => ?_
    subst he
    exact ⟨S, ι, F, hr'.put hn hv⟩) h
end
end Go.Abs


namespace Go.Abs
open Go
inductive Rz (O O' : List AObj) (j : Nat) : List AV → List AV → Prop
  | nil : Rz O O' j [] []
  | any {V vs us} : Rz O O' j vs us → Rz O O' j (V :: vs) (.any :: us)
  | keep {V V' vs us} : V = V' → V'.still = true → Rz O O' j vs us → Rz O O' j (V :: vs) (V' :: us)
  | own {id ep ep' off len len' ob ob' vs us} : O[id]? = some ob → O'[id]? = some ob' → ob.ep = ep → ob'.ep = ep' → ob'.size = ob.size → len = len' → Rz O O' j vs us → Rz O O' j (.own id ep off len :: vs) (.own id ep' off len' :: us)
  | ptr {id ep ep' off ob ob' vs us} : O[id]? = some ob → O'[id]? = some ob' → ob.ep = ep → ob'.ep = ep' → Rz O O' j vs us → Rz O O' j (.ptr id ep off :: vs) (.ptr id ep' off :: us)
  | agg {ds es vs us} : Rz O O' j ds es → Rz O O' j vs us → Rz O O' j (.agg ds :: vs) (.agg es :: us)
  | nilO {ob' k len vs us} : O'[k]? = some ob' → k = j → ob'.ep = 0 → 0 = len → Rz O O' j vs us → Rz O O' j (.nilS :: vs) (.own k 0 0 len :: us)
theorem Rz.same {O O' : List AObj} {j : Nat} {cs cs' : List AV} (h : cs = cs') (hs : cs'.all AV.still = true) : Rz O O' j cs cs' := by
  subst h
  induction cs with
  | nil => exact .nil
  | cons c cs ih =>
    simp only [List.all_cons, Bool.and_eq_true] at hs
    exact .keep rfl hs.1 (ih hs.2)
theorem Rz.rel {O O' : List AObj} {j : Nat} {S w} {ι ι' : Nat → Spot} (hj : ι' j = none) (hι : ∀ id, id < O.length → ι' id = ι id) {vs us : List AV} (h : Rz O O' j vs us) : ∀ {xs f}, LRel S w ι O vs xs f → ∃ f', LRel S w ι' O' us xs f' ∧ (∀ b ∈ f', b ∈ f) ∧ (f.Nodup → f'.Nodup) := by
  induction h with
  | nil => intro xs f hl; cases hl; exact ⟨[], .nil, by simp, by simp⟩
  | any _ ih =>
    intro xs f hl
    obtain ⟨v, vs', f1, f2, rfl, hv, hr, rfl⟩ := hl.uncons
    obtain ⟨f', h1, h2, h3⟩ := ih hr
    exact ⟨f', .any h1, fun b hb => List.mem_append_right _ (h2 b hb), fun hn => h3 (List.nodup_append.1 hn).2.1⟩
  | keep he hs _ ih =>
    intro xs f hl
    subst he
    obtain ⟨v, vs', f1, f2, rfl, hv, hr, rfl⟩ := hl.uncons
    obtain ⟨f', h1, h2, h3⟩ := ih hr
    refine ⟨f1 ++ f', LRel.cons (still_any hv hs O' (fun _ h => h) (fun _ _ => rfl) (fun _ _ => rfl)) h1, ?_, ?_⟩
    · intro b hb
      rcases List.mem_append.1 hb with hb | hb
      · exact List.mem_append_left _ hb
      · exact List.mem_append_right _ (h2 b hb)
    · intro hn
      obtain ⟨n1, n2, n3⟩ := List.nodup_append.1 hn
      exact List.nodup_append.2 ⟨n1, h3 n2, fun a ha b hb => n3 a ha b (h2 b hb)⟩
  | own ho ho' he he' hsz hln _ ih =>
    intro xs f hl
    subst hln
    obtain ⟨v, vs', f1, f2, rfl, hv, hr, rfl⟩ := hl.uncons
    obtain ⟨f', h1, h2, h3⟩ := ih hr
    refine ⟨f', ?_, fun b hb => List.mem_append_right _ (h2 b hb), fun hn => h3 (List.nodup_append.1 hn).2.1⟩
    cases hv with
    | own q1 q2 q3 r =>
      rw [ho] at q1; cases q1
      exact .own ho' (by omega) (fun _ => by rw [hsz, hι _ (List.getElem?_eq_some_iff.1 ho).1]; exact q3 he.symm) h1
  | ptr ho ho' he he' _ ih =>
    intro xs f hl
    obtain ⟨v, vs', f1, f2, rfl, hv, hr, rfl⟩ := hl.uncons
    obtain ⟨f', h1, h2, h3⟩ := ih hr
    refine ⟨f', ?_, fun b hb => List.mem_append_right _ (h2 b hb), fun hn => h3 (List.nodup_append.1 hn).2.1⟩
    cases hv with
    | ptr q1 q2 q3 r =>
      rw [ho] at q1; cases q1
      exact .ptr ho' (by omega) (fun _ => by rw [hι _ (List.getElem?_eq_some_iff.1 ho).1]; exact q3 he.symm) h1
  | agg _ _ ih1 ih2 =>
    intro xs f hl
    obtain ⟨v, vs', f1, f2, rfl, hv, hr, rfl⟩ := hl.uncons
    obtain ⟨us', rfl, ha⟩ := LRel.agg_inv hv
    obtain ⟨g', a1, a2, a3⟩ := ih1 ha
    obtain ⟨f', h1, h2, h3⟩ := ih2 hr
    refine ⟨g' ++ f', .agg a1 h1, ?_, ?_⟩
    · intro b hb
      rcases List.mem_append.1 hb with hb | hb
      · exact List.mem_append_left _ (a2 b hb)
      · exact List.mem_append_right _ (h2 b hb)
    · intro hn
      obtain ⟨n1, n2, n3⟩ := List.nodup_append.1 hn
      exact List.nodup_append.2 ⟨a3 n1, h3 n2, fun a ha b hb => n3 a (a2 a ha) b (h2 b hb)⟩
  | nilO hk hkj hep hlen _ ih =>
    intro xs f hl
    subst hkj; subst hlen
    obtain ⟨v, vs', f1, f2, rfl, hv, hr, rfl⟩ := hl.uncons
    obtain ⟨f', h1, h2, h3⟩ := ih hr
    refine ⟨f', ?_, fun b hb => List.mem_append_right _ (h2 b hb), fun hn => h3 (List.nodup_append.1 hn).2.1⟩
    cases hv with
    | nilS r => exact .own hk (by omega) (fun _ => by rw [hj]; exact ⟨rfl, rfl, rfl⟩) h1
inductive RzT (O O' : List AObj) (j : Nat) (T : List (Nat × AV)) : List (Nat × AV) → Prop
  | nil : RzT O O' j T []
  | cons {t V T'} : Rz O O' j [look T t] [V] → RzT O O' j T T' → RzT O O' j T ((t, V) :: T')
theorem RzT.at {O O' j T T'} (h : RzT O O' j T T') (t : Nat) : Rz O O' j [look T t] [look T' t] := by
  induction h with
  | nil => exact .any .nil
  | @cons k V T' hk _ ih =>
    by_cases he : k = t
    · subst he; rw [look_cons_same]; exact hk
    · rw [look_cons_other _ _ _ _ he]; exact ih
inductive RzO (O O' : List AObj) (j : Nat) : List AObj → List AObj → Prop
  | last {ob'} : ob'.cells = [] → RzO O O' j [] [ob']
  | cons {ob ob' os os'} : Rz O O' j ob.cells ob'.cells → (ob'.ty = none ∨ ob'.ty = ob.ty) → RzO O O' j os os' → RzO O O' j (ob :: os) (ob' :: os')
theorem RzO.len {O O' j os os'} (h : RzO O O' j os os') : os'.length = os.length + 1 := by
  induction h with
  | last => rfl
  | cons _ _ _ ih => simp [ih]
theorem RzO.at {O O' j os os'} (h : RzO O O' j os os') {id : Nat} {ob' : AObj} (hi : os'[id]? = some ob') : (id = os.length ∧ ob'.cells = []) ∨ ∃ ob, os[id]? = some ob ∧ Rz O O' j ob.cells ob'.cells ∧ (ob'.ty = none ∨ ob'.ty = ob.ty) := by
  induction h generalizing id with
  | last h =>
    cases id with
    | zero => simp at hi; subst hi; exact .inl ⟨rfl, h⟩
    | succ id => simp at hi
  | cons h1 h2 _ ih =>
    cases id with
    | zero => simp at hi; subst hi; exact .inr ⟨_, by simp, h1, h2⟩
    | succ id =>
      rcases ih (by simpa using hi) with ⟨h3, h4⟩ | ⟨ob, h3, h4⟩
      · exact .inl ⟨by simp [h3], h4⟩
      · exact .inr ⟨ob, by simpa using h3, h4⟩
theorem Weak.nil1 {m : Nat} {T T' : List (Nat × AV)} {O O' : List AObj} (hT : RzT O O' O.length T T') (hO : RzO O O' O.length O O') (hm : m ≤ O.length) : Weak m ⟨T, O⟩ ⟨T', O'⟩ := by
  rintro n G a w ⟨S, ι, F, hr⟩
  have hlen := hO.len
  have hι0 : (fun id => if id < O.length then ι id else none) O.length = none := by simp
  have hι1 : ∀ id, id < O.length → (fun id => if id < O.length then ι id else none) id = ι id := fun id h => by simp [h]
  generalize (fun id => if id < O.length then ι id else none) = ι' at hι0 hι1
  have hex : ∀ id, ∃ f, ∀ ob', O'[id]? = some ob' → ObjAt S w ι' O' ob' (ι' id) f ∧ (∀ b ∈ f, id < O.length ∧ b ∈ F id) ∧ f.Nodup := by
    intro id
    cases hi : O'[id]? with
    | none => exact ⟨[], by simp⟩
    | some ob' =>
      rcases hO.at hi with ⟨h1, h2⟩ | ⟨ob, ho, hre, hty⟩
      · refine ⟨[], fun ob2 h3 => ?_⟩
        cases h3
        refine ⟨?_, by simp, by simp⟩
        rw [h1, hι0]
        unfold ObjAt
        exact ⟨h2, rfl⟩
      have hid : id < O.length := (List.getElem?_eq_some_iff.1 ho).1
      have hob := hr.objs.obj id ob ho
      unfold ObjAt at hob
      cases hs : ι id with
      | none =>
        rw [hs] at hob
        refine ⟨[], fun ob2 h2 => ?_⟩
        cases h2
        refine ⟨?_, by simp, by simp⟩
        rw [hob.1] at hre
        unfold ObjAt
        rw [hι1 id hid, hs]
        cases hc : ob'.cells with
        | nil => exact ⟨rfl, rfl⟩
        | cons c cs => rw [hc] at hre; cases hre
      | some p =>
        obtain ⟨b, k⟩ := p
        rw [hs] at hob
        obtain ⟨cur, t, fz, f', hF, h1, h2, h3, h4, h5, h6⟩ := hob
        obtain ⟨g, g1, g2, g3⟩ := hre.rel hι0 hι1 h6
        have hnd : (b :: f').Nodup := by rw [← hF]; exact hr.objs.nodup id hid
        have hlen : ob'.cells.length = ob.cells.length := by
          have e1 := g1.len
          have e2 := h6.len
          omega
        refine ⟨b :: g, fun ob2 hh => ?_⟩
        cases hh
        rw [hι1 id hid, hs]
        refine ⟨⟨cur, t, fz, g, rfl, h1, h2, by omega, h4, fun e he => ?_, by rw [hlen]; exact g1⟩, ?_, ?_⟩
        · rcases hty with hty | hty
          · rw [hty] at he; cases he
          · exact h5 e (by rw [← hty]; exact he)
        · intro b' hb'
          rw [hF]
          rcases List.mem_cons.1 hb' with rfl | hb'
          · simp [hid]
          · simp [g2 b' hb', hid]
        · exact List.nodup_cons.2 ⟨fun hb => (List.nodup_cons.1 hnd).1 (g2 b hb), g3 (List.nodup_cons.1 hnd).2⟩
  have hFx : ∃ F' : Nat → List Nat, ∀ id ob', O'[id]? = some ob' → ObjAt S w ι' O' ob' (ι' id) (F' id) ∧ (∀ b ∈ F' id, id < O.length ∧ b ∈ F id) ∧ (F' id).Nodup :=
    ⟨fun id => (hex id).choose, fun id => (hex id).choose_spec⟩
  obtain ⟨F', hF'⟩ := hFx
  refine ⟨S, ι', F', hr.defers, hr.size, fun t => ?_, ⟨fun id ob' h => (hF' id ob' h).1, fun id h => (hF' id _ (List.getElem?_eq_getElem h)).2.2, fun i j hi hj hij b hb hb' => ?_⟩, fun id h b hb => ?_, hr.base, hr.stable, hr.keeps, fun id h => ?_, by show m ≤ O'.length; omega⟩
  · obtain ⟨f', h1, h2, _⟩ := (hT.at t).rel hι0 hι1 (hr.tmps t)
    have : f' = [] := List.eq_nil_iff_forall_not_mem.2 fun b hb => by simpa using h2 b hb
    subst this
    exact h1
  · have hi : i < O'.length := hi
    have hj : j < O'.length := hj
    obtain ⟨a1, a2⟩ := (hF' i _ (List.getElem?_eq_getElem hi)).2.1 b hb
    obtain ⟨b1, b2⟩ := (hF' j _ (List.getElem?_eq_getElem hj)).2.1 b hb'
    exact hr.objs.apart i j a1 b1 hij b a2 b2
  · have h : id < O'.length := h
    obtain ⟨a1, a2⟩ := (hF' id _ (List.getElem?_eq_getElem h)).2.1 b hb
    exact hr.foot id a1 b a2
  · rw [hι1 id (by omega)]; exact hr.spots id h
end Go.Abs


namespace Go.Abs
open Go
structure Pin (G : Ctx) (pv : List Value) (pa : List AV) : Prop where
  rel : LRel G.S0 G.w0 (fun _ => none) [] pa pv []
  still : pa.all AV.still = true
  old : ∀ b, G.S0 b → ¬ G.M0 b ∧ b < G.w0.heap.size
theorem Pin.at {n m : Nat} {G : Ctx} {S : Nat → Prop} {ι : Nat → Spot} {F : Nat → List Nat} {σ : St} {a : Act} {w : World} {pv : List Value} {pa : List AV} (hp : Pin G pv pa) (hr : RelAt n m G S ι F σ a w) {S2 : Nat → Prop} (h2 : ∀ b, S b → S2 b) (O : List AObj) (ι2 : Nat → Spot) : LRel S2 w ι2 O pa pv [] :=
  still_all hp.still hp.rel (fun b hb => h2 b (hr.base.1 b hb)) (fun b hb => hr.keeps.block b (hp.old b hb).2 (hp.old b hb).1) (by simp)
def FnX (P : Program) (f : FuncId) (args : List AV) (M : List AObj) (pv : List Value) (pa : List AV) (β : Type) (C : β → Prop) (M' N : β → List AObj) (r : β → AV) : Prop :=
  Runs P f ∧ ∀ (w : World) (S : Nat → Prop) (ι : Nat → Spot) (F : Nat → List Nat) (vs : List Value), (∀ b, S b → b < w.heap.size) → GlbOk S w → ORel S w ι M F → (∀ id, id < M.length → ∀ b ∈ F id, ¬ S b ∧ b < w.heap.size) →
    LRel S w ι M args vs [] → LRel S w (fun _ => none) [] pa pv [] → Calls P f vs.toArray w fun e w' => ∃ y, C y ∧ ∃ v S' ι' F', e = .returned v ∧ (∀ b, S b → S' b) ∧ (∀ b, S' b → S b ∨ w.heap.size ≤ b) ∧ (∀ b, S' b → b < w'.heap.size) ∧ (∀ id, id < M.length → ι' id = ι id) ∧
      ORel S' w' ι' (M' y ++ N y) F' ∧ (∀ id, id < (M' y ++ N y).length → ∀ b ∈ F' id, ((∃ i, i < M.length ∧ b ∈ F i) ∨ w.heap.size ≤ b) ∧ ¬ S' b ∧ b < w'.heap.size) ∧ VRel S' w' ι' (M' y ++ N y) (r y) v [] ∧
      Keeps w (fun b => ∃ i, i < M.length ∧ b ∈ F i) w'
section
variable {P : Program} {n m : Nat} {G : Ctx} {T : List (Nat × AV)} {O : List AObj} {Q : Exit → St → Prop} {ops : Array Oper} {l : List Oper} {tt : TypeId} {pos : String} {after : Array Edge} {tab : List (Nat × Ty)}
theorem callX_rel {β : Type} {f : FuncId} {xs : List Operand} {As : List AV} {M : List AObj} {MX NX : β → List AObj} {rX rX' : β → AV} {C : β → Prop} {hs : List Nat} {pv : List Value} {pa : List AV} (hc : FnX P f As M pv pa β C MX NX rX) (hp : Pin G pv pa) (hh : Hand O hs (xs.map (av T)) As) (hM : HandO O hs M) (hnd : hs.Nodup) (hlenX : ∀ y, (MX y).length = M.length)
    (hszX : ∀ (y : β) (j : Nat) (a b : AObj), M[j]? = some a → (MX y)[j]? = some b → b.size = a.size) (hMX' : ∀ y, Out (MX y)) (hNX : ∀ y, Out (NX y)) (hreX : ∀ y, (rX y).reF M.length O.length = some (rX' y)) {a : Act} {w : World} (hr : Rel n m G ⟨T, O⟩ a w) :
    Calls P f (xs.map a.eval).toArray w fun e w' => ∃ y, C y ∧ ∃ v, e = .returned v ∧ ∃ S ι F, RelAt n m G S ι F ⟨T, newO hs (MX y) 0 O ++ NX y⟩ a w' ∧ VRel S w' ι (newO hs (MX y) 0 O ++ NX y) (rX' y) v [] := by
  obtain ⟨S, ι, F, hr⟩ := hr
  obtain ⟨⟨fn, hf, hb, hnm⟩, hcall⟩ := hc
  obtain ⟨hlM, hatM⟩ := hM.at
  let S2 : Nat → Prop := fun b => b < w.heap.size ∧ ∀ id ∈ hs, b ∉ F id
  let ιM : Nat → Spot := fun j => match hs[j]? with | some id => ι id | none => none
  let FM : Nat → List Nat := fun j => match hs[j]? with | some id => F id | none => []
  have hιM : ∀ (j id : Nat), hs[j]? = some id → ιM j = ι id := fun j id h => by show (match hs[j]? with | some id => ι id | none => none) = _; rw [h]
  have hFM : ∀ (j id : Nat), hs[j]? = some id → FM j = F id := fun j id h => by show (match hs[j]? with | some id => F id | none => []) = _; rw [h]
  have hidl : ∀ (j id : Nat), hs[j]? = some id → id < O.length := fun j id h => by
    have hj : j < M.length := by rw [← hlM]; exact (List.getElem?_eq_some_iff.1 h).1
    obtain ⟨id', ob, e1, e2, _⟩ := hatM j _ (List.getElem?_eq_getElem hj)
    rw [h] at e1; cases e1; exact (List.getElem?_eq_some_iff.1 e2).1
  have hmem : ∀ id ∈ hs, ∃ j, j < M.length ∧ hs[j]? = some id := fun id h => by
    obtain ⟨j, hj, e⟩ := List.getElem_of_mem h
    exact ⟨j, by omega, by rw [List.getElem?_eq_getElem hj, e]⟩
  have hex : ∀ j, j < M.length → ∃ id, hs[j]? = some id := fun j hj => ⟨hs[j], List.getElem?_eq_getElem (by omega)⟩
  have hSS : ∀ b, S b → S2 b := fun b hb => ⟨hr.stable b hb, fun id hid hbf => by
    obtain ⟨j, hj, e⟩ := hmem id hid
    exact (hr.foot id (hidl j id e) b hbf).2.1 hb⟩
  have hOM : ORel S2 w ιM M FM := by
    refine ⟨fun j mb hj => ?_, fun j hj => ?_, fun i j hi hj hij b hb => ?_⟩
    · obtain ⟨id, ob, e1, e2, e3, e4, e5, e6, e7⟩ := hatM j mb hj
      rw [hιM j id e1, hFM j id e1]
      have ho := hr.objs.obj id ob e2
      unfold ObjAt at ho ⊢
      cases hs' : ι id with
      | none => rw [hs'] at ho; rw [← e3]; exact ho
      | some p =>
        obtain ⟨b, k⟩ := p
        rw [hs'] at ho
        obtain ⟨cur', t', fz', f2, q1, q2, q3, q4, q5, q6, q7⟩ := ho
        refine ⟨cur', t', fz', f2, q1, q2, q3, by rw [← e3]; exact q4, q5, fun e he => ?_, ?_⟩
        · rcases e7 with e7 | e7
          · rw [e7] at he; cases he
          · exact q6 e (by rw [← e7]; exact he)
        · rw [← e3]
          exact still_all (by rw [e3]; exact e4) q7 hSS (fun _ _ => rfl) (fun _ _ => rfl)
    · obtain ⟨id, e⟩ := hex j hj
      rw [hFM j id e]; exact hr.objs.nodup id (hidl j id e)
    · obtain ⟨id1, e1⟩ := hex i hi
      obtain ⟨id2, e2⟩ := hex j hj
      rw [hFM i id1 e1] at hb; rw [hFM j id2 e2]
      exact hr.objs.apart id1 id2 (hidl i id1 e1) (hidl j id2 e2) (fun e => hij (nodup_get hnd e1 (e ▸ e2))) b hb
  have hl := hr.evals xs
  obtain ⟨f', hl2, hf'⟩ := hh.rel (S2 := S2) (ιM := ιM) hM hιM hSS hr.objs (fun b h1 h2 => ⟨h1, h2⟩) (fun id hid => by obtain ⟨j, hj, e⟩ := hmem id hid; exact hidl j id e) hl (by simp)
  have hf0 : f' = [] := List.eq_nil_iff_forall_not_mem.2 fun b hb => by simpa using hf' b hb
  subst hf0
  refine (hcall w S2 ιM FM (xs.map a.eval) (fun b h => h.1) (hr.glb.mono hSS) hOM (fun j hj b hb => ?_) hl2 (hp.at hr hSS [] (fun _ => none))).mono fun e w' he => ?_
  · obtain ⟨id, e⟩ := hex j hj
    rw [hFM j id e] at hb
    exact ⟨fun h => h.2 id (List.mem_of_getElem? e) hb, (hr.foot id (hidl j id e) b hb).2.2⟩
  obtain ⟨y, hy, v, S', ι', F', rfl, hS1, hS2, hS3, hι', hO', hF', hv, hk⟩ := he
  refine ⟨y, hy, v, rfl, ?_⟩
  have hlen := hlenX y
  have hsz := hszX y
  have hM' := hMX' y
  have hN := hNX y
  have hre := hreX y
  generalize MX y = M' at hlen hsz hM' hO' hF' hv ⊢
  generalize NX y = N at hN hO' hF' hv ⊢
  generalize rX y = r at hre hv
  generalize rX' y = r' at hre ⊢
  have hold : ∀ b, b < w.heap.size → (∀ id ∈ hs, b ∉ F id) → w'.heap[b]? = w.heap[b]? := fun b hb hn => hk.block b hb (by
    rintro ⟨i, hi, hbf⟩
    obtain ⟨id, e⟩ := hex i hi
    rw [hFM i id e] at hbf
    exact hn id (List.mem_of_getElem? e) hbf)
  let S3 : Nat → Prop := fun b => S b ∨ (S' b ∧ w.heap.size ≤ b)
  let ι3 : Nat → Spot := fun i => if i < O.length then ι i else ι' (M.length + (i - O.length))
  let F3 : Nat → List Nat := fun i => if i < O.length then (match findN hs i 0 with | some j => F' j | none => F i) else F' (M.length + (i - O.length))
  let O3 := newO hs M' 0 O ++ N
  have hl3 : (newO hs M' 0 O).length = O.length := newO_len hs M' 0 O
  have hO3lt : ∀ i, i < O.length → O3[i]? = (O[i]?).map (newOb hs M' i) := fun i hi => by
    show (newO hs M' 0 O ++ N)[i]? = _
    rw [List.getElem?_append_left (by omega), newO_at, Nat.zero_add]
  have hO3ge : ∀ i, O.length ≤ i → O3[i]? = N[i - O.length]? := fun i hi => by
    show (newO hs M' 0 O ++ N)[i]? = _
    rw [List.getElem?_append_right (by omega), hl3]
  have hob : ∀ i ob, O[i]? = some ob → (newOb hs M' i ob).ep = ob.ep ∧ (newOb hs M' i ob).size = ob.size := fun i ob h => by
    unfold newOb
    cases hfd : findN hs i 0 with
    | none => exact ⟨rfl, rfl⟩
    | some j =>
      cases hmj : M'[j]? with
      | none => exact ⟨by simp [hmj], by simp [hmj]⟩
      | some mb =>
        obtain ⟨q, rfl, hq⟩ := findN_some hfd
        rw [Nat.zero_add] at hmj
        have hqm : q < M.length := by rw [← hlM]; exact (List.getElem?_eq_some_iff.1 hq).1
        obtain ⟨id', ob', e1, e2, _, _, _, e6, _⟩ := hatM q _ (List.getElem?_eq_getElem hqm)
        rw [hq] at e1; cases e1
        rw [h] at e2; cases e2
        simp only [Nat.zero_add, hmj, true_and]
        exact (hsz q _ _ (List.getElem?_eq_getElem hqm) hmj).trans e6
  have hlat : Later S w ι O S3 w' ι3 O3 := by
    refine ⟨fun b h => .inl h, fun b hb => hold b (hr.stable b hb) (hSS b hb).2, fun id ob h => ?_⟩
    have hlt : id < O.length := (List.getElem?_eq_some_iff.1 h).1
    obtain ⟨h1, h2⟩ := hob id ob h
    exact ⟨newOb hs M' id ob, by rw [hO3lt id hlt, h]; rfl, .inr ⟨h1, h2, by show (if _ then _ else _) = _; rw [if_pos hlt]⟩⟩
  have hF3f : ∀ (i j : Nat), i < O.length → findN hs i 0 = some j → F3 i = F' j := fun i j hi h => by show (if _ then _ else _) = _; rw [if_pos hi, h]
  have hF3n : ∀ (i : Nat), i < O.length → findN hs i 0 = none → F3 i = F i := fun i hi h => by show (if _ then _ else _) = _; rw [if_pos hi, h]
  have hF3g : ∀ (i : Nat), O.length ≤ i → F3 i = F' (M.length + (i - O.length)) := fun i hi => by show (if _ then _ else _) = _; rw [if_neg (by omega)]
  have hlMN : (M' ++ N).length = M.length + N.length := by rw [List.length_append, hlen]
  have hfind : ∀ (i j : Nat), findN hs i 0 = some j → j < M.length ∧ hs[j]? = some i := fun i j h => by
    obtain ⟨q, rfl, hq⟩ := findN_some h
    rw [Nat.zero_add]
    exact ⟨by rw [← hlM]; exact (List.getElem?_eq_some_iff.1 hq).1, hq⟩
  have hl3' : O3.length = O.length + N.length := by show (newO hs M' 0 O ++ N).length = _; rw [List.length_append, hl3]
  -- each place's blocks: where they come from
  have hsrc : ∀ k, k < (M' ++ N).length → ∀ b ∈ F' k, ((∃ id, id ∈ hs ∧ id < O.length ∧ b ∈ F id) ∨ w.heap.size ≤ b) ∧ ¬ S' b ∧ b < w'.heap.size := fun k hk' b hb => by
    obtain ⟨q1, q2, q3⟩ := hF' k hk' b hb
    refine ⟨?_, q2, q3⟩
    rcases q1 with ⟨i, hi, hbf⟩ | q1
    · obtain ⟨id, e⟩ := hex i hi
      rw [hFM i id e] at hbf
      exact .inl ⟨id, List.mem_of_getElem? e, hidl i id e, hbf⟩
    · exact .inr q1
  have hnoS : ∀ k, k < (M' ++ N).length → ∀ b ∈ F' k, (G.M0 b ∨ G.w0.heap.size ≤ b) ∧ ¬ S3 b ∧ b < w'.heap.size := fun k hk' b hb => by
    obtain ⟨q1, q2, q3⟩ := hsrc k hk' b hb
    rcases q1 with ⟨id, hid, hlt, hbf⟩ | q1
    · obtain ⟨p1, p2, p3⟩ := hr.foot id hlt b hbf
      refine ⟨p1, ?_, q3⟩
      rintro (h | ⟨h, _⟩)
      · exact p2 h
      · exact q2 h
    · refine ⟨.inr (by have := hr.keeps.size; omega), ?_, q3⟩
      rintro (h | ⟨h, _⟩)
      · have := hr.stable b h; omega
      · exact q2 h
  have hnotin : ∀ i, i < O.length → findN hs i 0 = none → ∀ b ∈ F i, w'.heap[b]? = w.heap[b]? := fun i hi h b hb => hold b (hr.foot i hi b hb).2.2 fun id hid hbf => by
    obtain ⟨j, hj, e⟩ := hmem id hid
    have hne : i ≠ id := by rintro rfl; exact findN_none h hid
    exact hr.objs.apart i id hi (hidl j id e) hne b hb hbf
  have hcells : ∀ {cs : List AV} {us g}, cs.all AV.still = true → Loc cs → LRel S' w' ι' (M' ++ N) cs us g → LRel S3 w' ι3 O3 cs us g := fun h1 h2 hl =>
    Loc.rel h2 (still_all (S' := S') h1 hl (fun _ h => h) (fun _ _ => rfl) (fun _ _ => rfl))
  refine ⟨S3, ι3, F3, ⟨hr.defers, hr.size, fun t => (hr.tmps t).mono hlat (by simp), ⟨fun i ob h => ?_, fun i h => ?_, fun i j hi hj hij b hb => ?_⟩, fun i h b hb => ?_, ⟨fun b hb => .inl (hr.base.1 b hb), ?_⟩, ?_, ?_, fun i h => ?_, ?_⟩, ?_⟩
  · have h : O3[i]? = some ob := h
    by_cases hlt : i < O.length
    · rw [hO3lt i hlt, List.getElem?_eq_getElem hlt] at h
      simp only [Option.map_some, Option.some.injEq] at h
      rw [show ι3 i = ι i from if_pos hlt]
      cases hfd : findN hs i 0 with
      | some j =>
        obtain ⟨hjm, hji⟩ := hfind i j hfd
        rw [hF3f i j hlt hfd]
        have hjM' : j < M'.length := by omega
        have hmb : M'[j]? = some M'[j] := List.getElem?_eq_getElem hjM'
        have h' : ob = ⟨M'[j].cells, (O[i]).ep, M'[j].size, M'[j].ty⟩ := by
          rw [← h]; unfold newOb; rw [hfd]; simp only [hmb]
        have ho := hO'.obj j M'[j] (by rw [List.getElem?_append_left hjM']; exact hmb)
        rw [hι' j hjm, hιM j i hji] at ho
        have hout := hM'.at hmb
        rw [h']
        unfold ObjAt at ho ⊢
        cases hs' : ι i with
        | none => rw [hs'] at ho; exact ho
        | some p =>
          obtain ⟨b, k⟩ := p
          rw [hs'] at ho
          obtain ⟨cur', t', fz', f2, q1, q2, q3, q4, q5, q6, q7⟩ := ho
          exact ⟨cur', t', fz', f2, q1, q2, q3, q4, q5, q6, hcells hout.1 hout.2 q7⟩
      | none =>
        rw [hF3n i hlt hfd]
        have h' : ob = O[i] := by rw [← h]; unfold newOb; rw [hfd]
        subst h'
        have ho := hr.objs.obj i O[i] (List.getElem?_eq_getElem hlt)
        have key := hnotin i hlt hfd
        unfold ObjAt at ho ⊢
        cases hs' : ι i with
        | none => rw [hs'] at ho; exact ho
        | some p =>
          obtain ⟨b, k⟩ := p
          rw [hs'] at ho
          obtain ⟨cur', t', fz', f2, q1, q2, q3, q4, q5, q6, q7⟩ := ho
          exact ⟨cur', t', fz', f2, q1, by rw [key b (by rw [q1]; simp)]; exact q2, q3, q4, q5, q6, q7.mono hlat fun b' hb' => key b' (by rw [q1]; simp [hb'])⟩
    · rw [hO3ge i (by omega)] at h
      rw [show ι3 i = ι' (M.length + (i - O.length)) from if_neg hlt, hF3g i (by omega)]
      have ho := hO'.obj (M.length + (i - O.length)) ob (by rw [List.getElem?_append_right (by omega), hlen, Nat.add_sub_cancel_left]; exact h)
      have hout := hN.at h
      unfold ObjAt at ho ⊢
      cases hs' : ι' (M.length + (i - O.length)) with
      | none => rw [hs'] at ho; exact ho
      | some p =>
        obtain ⟨b, k⟩ := p
        rw [hs'] at ho
        obtain ⟨cur', t', fz', f2, q1, q2, q3, q4, q5, q6, q7⟩ := ho
        exact ⟨cur', t', fz', f2, q1, q2, q3, q4, q5, q6, hcells hout.1 hout.2 q7⟩
  · have h : i < O3.length := h
    by_cases hlt : i < O.length
    · cases hfd : findN hs i 0 with
      | some j => rw [hF3f i j hlt hfd]; exact hO'.nodup j (by have := (hfind i j hfd).1; omega)
      | none => rw [hF3n i hlt hfd]; exact hr.objs.nodup i hlt
    · rw [hF3g i (by omega)]; exact hO'.nodup _ (by omega)
  · have hi : i < O3.length := hi
    have hj : j < O3.length := hj
    -- the place in the callee's list, if there is one
    have hpl : ∀ k, k < O3.length → (∃ q, q < (M' ++ N).length ∧ F3 k = F' q ∧ ((q < M.length ∧ hs[q]? = some k) ∨ (O.length ≤ k ∧ q = M.length + (k - O.length)))) ∨ (k < O.length ∧ findN hs k 0 = none ∧ F3 k = F k) := fun k hk' => by
      by_cases hlt : k < O.length
      · cases hfd : findN hs k 0 with
        | some q => obtain ⟨h1, h2⟩ := hfind k q hfd; exact .inl ⟨q, by omega, hF3f k q hlt hfd, .inl ⟨h1, h2⟩⟩
        | none => exact .inr ⟨hlt, rfl, hF3n k hlt hfd⟩
      · exact .inl ⟨_, by omega, hF3g k (by omega), .inr ⟨by omega, rfl⟩⟩
    have hcross : ∀ k q, k < O.length → findN hs k 0 = none → q < (M' ++ N).length → ∀ b ∈ F k, b ∉ F' q := fun k q hk' hn hq b hb hb' => by
      rcases (hsrc q hq b hb').1 with ⟨id, hid, hlt, hbf⟩ | h
      · have hne : k ≠ id := by rintro rfl; exact findN_none hn hid
        exact hr.objs.apart k id hk' hlt hne b hb hbf
      · have := (hr.foot k hk' b hb).2.2; omega
    rcases hpl i hi with ⟨q1, p1, p2, p3⟩ | ⟨p1, p2, p3⟩ <;> rcases hpl j hj with ⟨q2, r1, r2, r3⟩ | ⟨r1, r2, r3⟩
    · rw [p2] at hb; rw [r2]
      refine hO'.apart q1 q2 p1 r1 (fun e => ?_) b hb
      subst e
      rcases p3 with ⟨a1, a2⟩ | ⟨a1, a2⟩ <;> rcases r3 with ⟨b1, b2⟩ | ⟨b1, b2⟩
      · rw [a2] at b2; cases b2; exact hij rfl
      · omega
      · omega
      · omega
    · rw [p2] at hb; rw [r3]; intro hb'; exact hcross j q1 r1 r2 p1 b hb' hb
    · rw [p3] at hb; rw [r2]; exact hcross i q2 p1 p2 r1 b hb
    · rw [p3] at hb; rw [r3]; exact hr.objs.apart i j p1 r1 hij b hb
  · have h : i < O3.length := h
    by_cases hlt : i < O.length
    · cases hfd : findN hs i 0 with
      | some j => rw [hF3f i j hlt hfd] at hb; exact hnoS j (by have := (hfind i j hfd).1; omega) b hb
      | none =>
        rw [hF3n i hlt hfd] at hb
        obtain ⟨q1, q2, q3⟩ := hr.foot i hlt b hb
        refine ⟨q1, ?_, by have := hk.size; omega⟩
        rintro (h' | ⟨_, h'⟩)
        · exact q2 h'
        · omega
    · rw [hF3g i (by omega)] at hb; exact hnoS _ (by omega) b hb
  · rintro b (h' | ⟨_, h'⟩)
    · exact hr.base.2 b h'
    · exact .inr (by have := hr.keeps.size; omega)
  · rintro b (h' | ⟨h', _⟩)
    · have := hr.stable b h'; have := hk.size; omega
    · exact hS3 b h'
  · refine ⟨hk.os.trans hr.keeps.os, hk.tape.trans hr.keeps.tape, hk.output.trans hr.keeps.output, by have := hr.keeps.size; have := hk.size; omega, fun b hb hM0 => ?_⟩
    rw [hold b (by have := hr.keeps.size; omega) fun id hid hbf => ?_]
    · exact hr.keeps.block b hb hM0
    · obtain ⟨j, hj, e⟩ := hmem id hid
      rcases (hr.foot id (hidl j id e) b hbf).1 with h | h
      · exact hM0 h
      · omega
  · have hm : m ≤ O.length := hr.mle
    rw [show ι3 i = ι i from if_pos (by omega)]; exact hr.spots i h
  · have hm : m ≤ O.length := hr.mle
    show m ≤ O3.length
    omega
  · refine AV.reF_rel (S := S') (ι := ι') (O := M' ++ N) (fun id hid => ?_) (fun id ob hid h => ?_) r r' hre hv
    · show (if _ then _ else _) = _
      rw [if_neg (by omega)]; congr 1; omega
    · show O3[id - M.length + O.length]? = some ob
      rw [hO3ge _ (by omega), Nat.add_sub_cancel]
      rw [List.getElem?_append_right (by omega), hlen] at h
      exact h
theorem WpL.opX {β : Type} {o : Oper} {σ : St} {σX : β → St} {C : β → Prop} (hg : o.guard = none)
    (hop : ∀ a w, Rel n m G σ a w → o.wp P a w (fun a' w' => ∃ y, C y ∧ Rel n m G (σX y) a' w') (fun _ _ _ => False)) (h : ∀ y, C y → WpL P n m G false ops l (σX y) Q) : WpL P n m G false ops (o :: l) σ Q := by
  exact fun a w hr => wpList_plain hg fun K hK => by
    have h1 := hop a w hr
    have hm : ∀ r, o.upon P a (fun a' w' => ∃ y, C y ∧ Rel n m G (σX y) a' w') (fun _ _ _ => False) r → o.upon P a K (fun e a' w' => ∃ σ', Q e σ' ∧ Rel n m G σ' a' w') r := by
      intro r hr'
      cases r with
      | ok x w1 =>
        cases x <;> simp only [Oper.upon] at hr' ⊢
        case value v => obtain ⟨y, hy, h2⟩ := hr'; exact hK _ _ (h y hy _ _ h2)
        case skip => obtain ⟨y, hy, h2⟩ := hr'; exact hK _ _ (h y hy _ _ h2)
        case defer d => obtain ⟨y, hy, h2⟩ := hr'; exact hK _ _ (h y hy _ _ h2)
        case enter f args =>
          refine hr'.mono fun e w2 h2 => ?_
          cases e with
          | returned v => obtain ⟨y, hy, h2⟩ := h2; exact hK _ _ (h y hy _ _ h2)
          | panicked c => exact h2.elim
          | outgrown => obtain ⟨_, _, hf⟩ := h2; exact hf.elim
        case row r ar => exact hr'.mono fun v w2 h2 => by obtain ⟨y, hy, h2⟩ := h2; exact hK _ _ (h y hy _ _ h2)
      | halt x w1 => cases x <;> exact hr'.elim
    exact hm _ h1
theorem WpL.callE {β : Type} {f : FuncId} {xs : List Operand} {ats : Array TypeId} {As : List AV} {M : List AObj} {MX NX OX : β → List AObj} {rX rX' : β → AV} {C : β → Prop} {hs : List Nat} {k base d : Nat} {pv : List Value} {pa : List AV} (hc : FnX P f As M pv pa β C MX NX rX) (hp : Pin G pv pa) (hh : HandM O hs M (xs.map (av T)) As) (hM : HandO O hs M) (hnd : nodupB hs = true)
    (hlen : ∀ y, ((MX y).map AObj.size) = (M.map AObj.size)) (hM' : ∀ y, Out (MX y)) (hN : ∀ y, Out (NX y)) (hk : cnt M.length 0 = some k) (hb : cnt O.length 0 = some base) (hre : ∀ y, (rX y).reF k base = some (rX' y)) (hO2 : ∀ y, newF hs (MX y) 0 O (NX y) = some (OX y)) (hn : d < n)
    (h : ∀ y, C y → WpL P n m G false ops l ⟨(d, rX' y) :: T, OX y⟩ Q) :
    WpL P n m G false ops ({ dst := some d, op := .call { callee := .value (.func f), args := xs.toArray, argTypes := ats }, type := tt, pos := pos, after := after, guard := none } :: l) ⟨T, O⟩ Q :=
  WpL.opX (σX := fun y => ⟨(d, rX' y) :: T, OX y⟩) rfl (fun a w hr => by
    have e1 := cnt_eq hk; rw [Nat.add_zero] at e1; subst e1
    have e2 := cnt_eq hb; rw [Nat.add_zero] at e2; subst e2
    have hl : ∀ y, (MX y).length = M.length := fun y => by have := congrArg List.length (hlen y); simpa using this
    have hcl := callX_rel hc hp hh hM (nodupB_spec hnd) hl (fun y j a b hx hy => by
      have := congrArg (fun l : List Nat => l[j]?) (hlen y)
      simp only [List.getElem?_map, hx, hy, Option.map_some, Option.some.injEq] at this
      exact this) hM' hN hre hr
    obtain ⟨⟨fn, hf, hbd, hnm⟩, _⟩ := hc
    have hex : (execOp a.eval { dst := some d, op := .call { callee := .value (.func f), args := xs.toArray, argTypes := ats }, type := tt, pos := pos, after := after, guard := none }).run P w = .ok (.enter f (xs.map a.eval).toArray) w := by
      simp only [execOp, resolve, Act.eval, Deferred.ofValue, invoke, callFunc, Sem.run_bind, Sem.run_pure, Result.andThen_ok, program, Sem.run, hf, hnm, hbd, Bool.false_eq_true, if_false]
      simp
    unfold Oper.wp
    rw [hex]
    refine hcl.mono fun e w' ⟨y, hy, v, he, S, ι, F, hr', hv⟩ => ?_
    subst he
    rw [newF_eq (hO2 y)] at hr' hv
    exact ⟨y, hy, S, ι, F, hr'.put hn hv⟩) h
end
def FnP (P : Program) (f : FuncId) (args : List AV) (M : List AObj) (pv : List Value) (pa : List AV) (M' N : List AObj) (r : AV) : Prop := FnX P f args M pv pa Unit (fun _ => True) (fun _ => M') (fun _ => N) (fun _ => r)
section
variable {P : Program} {n m : Nat} {G : Ctx} {T : List (Nat × AV)} {O : List AObj} {Q : Exit → St → Prop} {ops : Array Oper} {l : List Oper} {tt : TypeId} {pos : String} {after : Array Edge} {tab : List (Nat × Ty)}
theorem WpL.callP {f : FuncId} {xs : List Operand} {ats : Array TypeId} {As : List AV} {M M' N O2 : List AObj} {pv : List Value} {pa : List AV} {r r' : AV} {hs : List Nat} {k base d : Nat} (hc : FnP P f As M pv pa M' N r) (hp : Pin G pv pa) (hh : HandM O hs M (xs.map (av T)) As) (hM : HandO O hs M) (hnd : nodupB hs = true)
    (hlen : (M'.map AObj.size) = (M.map AObj.size)) (hM' : Out M') (hN : Out N) (hk : cnt M.length 0 = some k) (hb : cnt O.length 0 = some base) (hre : r.reF k base = some r') (hO2 : newF hs M' 0 O N = some O2) (hn : d < n) (h : WpL P n m G false ops l ⟨(d, r') :: T, O2⟩ Q) :
    WpL P n m G false ops ({ dst := some d, op := .call { callee := .value (.func f), args := xs.toArray, argTypes := ats }, type := tt, pos := pos, after := after, guard := none } :: l) ⟨T, O⟩ Q :=
  WpL.callE hc hp hh hM hnd (fun _ => hlen) (fun _ => hM') (fun _ => hN) hk hb (fun _ => hre) (fun _ => hO2) hn (fun _ _ => h)
end
end Go.Abs
