/- Contracts of functions that write into what they are handed, and calls under them. No condition. -/
import Derived.Test.YtepfjefdbpmobaaAbsO
namespace Go.Abs
open Go
set_option linter.unusedVariables false
set_option linter.unusedSimpArgs false

/-- CALLED WITH SUCH ARGUMENTS, WHICH NAME THE OBJECTS 'M', IT RETURNS 'r'; the objects it was handed are then 'M'', new ones 'N'; nothing else turns. -/
def FnG (P : Program) (f : FuncId) (args : List AV) (M M' N : List AObj) (r : AV) : Prop :=
  Runs P f ∧ ∀ (w : World) (S : Nat → Prop) (ι : Nat → Spot) (F : Nat → List Nat) (vs : List Value), (∀ b, S b → b < w.heap.size) → ORel S w ι M F → (∀ id, id < M.length → ∀ b ∈ F id, ¬ S b ∧ b < w.heap.size) →
    LRel S w ι M args vs [] → Calls P f vs.toArray w fun e w' => ∃ v S' ι' F', e = .returned v ∧ (∀ b, S b → S' b) ∧ (∀ b, S' b → S b ∨ w.heap.size ≤ b) ∧ (∀ b, S' b → b < w'.heap.size) ∧ (∀ id, id < M.length → ι' id = ι id) ∧
      ORel S' w' ι' (M' ++ N) F' ∧ (∀ id, id < (M' ++ N).length → ∀ b ∈ F' id, ((∃ i, i < M.length ∧ b ∈ F i) ∨ w.heap.size ≤ b) ∧ ¬ S' b ∧ b < w'.heap.size) ∧ VRel S' w' ι' (M' ++ N) r v [] ∧
      Keeps w (fun b => ∃ i, i < M.length ∧ b ∈ F i) w'

def preB : List (Option Nat) → Nat → Nat → Bool
  | _, 0, _ => true
  | some i :: ids, m + 1, k => Nat.beq i k && preB ids m (k + 1)
  | _, _ + 1, _ => false
theorem preB_at : ∀ {ids : List (Option Nat)} {m k : Nat}, preB ids m k = true → ∀ j, j < m → ids[j]? = some (some (k + j))
  | _, 0, _, _, j, hj => by omega
  | some i :: ids, m + 1, k, h, j, hj => by
    simp only [preB, Bool.and_eq_true] at h
    have h1 := Nat.eq_of_beq_eq_true h.1
    subst h1
    cases j with
    | zero => simp
    | succ j => have := preB_at h.2 j (by omega); rw [List.getElem?_cons_succ, this]; congr 2; omega
  | [], _ + 1, _, h, _, _ => by simp [preB] at h
  | none :: _, _ + 1, _, h, _, _ => by simp [preB] at h

/-- The results of a state in which the first m objects were handed in. -/
inductive ResG (tab : List (Nat × Ty)) (m : Nat) (N : List AObj) (r : AV) : Array ResultVar → St → Prop
  | zero {T O ids} : NEx O ids N → (ids.filterMap id).Nodup → preB ids m 0 = true → Ex O ids [.tup []] [r] → ResG tab m N r #[] ⟨T, O⟩
  | one {r1 V1 T O ids} : ResV tab T O r1 V1 → NEx O ids N → (ids.filterMap id).Nodup → preB ids m 0 = true → Ex O ids [V1] [r] → ResG tab m N r #[r1] ⟨T, O⟩
  | two {r1 r2 V1 V2 T O ids} : ResV tab T O r1 V1 → ResV tab T O r2 V2 → NEx O ids N → (ids.filterMap id).Nodup → preB ids m 0 = true → Ex O ids [.tup [V1, V2]] [r] → ResG tab m N r #[r1, r2] ⟨T, O⟩

def FinG (tab : List (Nat × Ty)) (m : Nat) (rs : Array ResultVar) (N : List AObj) (r : AV) : Exit → St → Prop
  | .ret, σ => ResG tab m N r rs σ
  | .normal, σ => ResG tab m N r rs σ
  | _, _ => False

theorem run_results0 {P : Program} {fn : Func} {tmps : Array Value} {w : World} (h : fn.results = #[]) : (results fn tmps).run P w = .ok (.tuple #[]) w := by
  rw [results_eq, h]; simp

section
variable {P : Program} {n m : Nat} {G : Ctx} {T : List (Nat × AV)} {O : List AObj} {Q : Exit → St → Prop} {ops : Array Oper} {l : List Oper} {d : Nat} {tt : TypeId} {pos : String} {after : Array Edge} {tab : List (Nat × Ty)}

theorem ResG.out (hP : TabOk P tab) {rs : Array ResultVar} {N : List AObj} {r : AV} {σ : St} {a : Act} {w : World} {fn : Func} (hfr : fn.results = rs) (h : ResG tab m N r rs σ) (hr : Rel n m G σ a w) :
    ∃ v, (results fn a.tmps).run P w = .ok v w ∧ ∃ S' ι F, (∀ b, G.S0 b → S' b) ∧ (∀ b, S' b → G.S0 b ∨ G.w0.heap.size ≤ b) ∧ (∀ b, S' b → b < w.heap.size) ∧ (∀ id, id < m → ι id = G.ι0 id) ∧ ORel S' w ι N F ∧
      (∀ id, id < N.length → ∀ b ∈ F id, (G.M0 b ∨ G.w0.heap.size ≤ b) ∧ ¬ S' b ∧ b < w.heap.size) ∧ VRel S' w ι N r v [] ∧ Keeps G.w0 G.M0 w := by
  obtain ⟨S, ι, F, hr⟩ := hr
  have fin : ∀ {T O ids V v}, σ = ⟨T, O⟩ → NEx O ids N → (ids.filterMap id).Nodup → preB ids m 0 = true → Ex O ids [V] [r] → VRel S w ι O V v [] →
      ∃ S' ι F, (∀ b, G.S0 b → S' b) ∧ (∀ b, S' b → G.S0 b ∨ G.w0.heap.size ≤ b) ∧ (∀ b, S' b → b < w.heap.size) ∧ (∀ id, id < m → ι id = G.ι0 id) ∧ ORel S' w ι N F ∧
      (∀ id, id < N.length → ∀ b ∈ F id, (G.M0 b ∨ G.w0.heap.size ≤ b) ∧ ¬ S' b ∧ b < w.heap.size) ∧ VRel S' w ι N r v [] ∧ Keeps G.w0 G.M0 w := by
    rintro T O ids V v rfl hN hnd hpre hex hv
    have hids : ∀ (i j id : Nat), ids[i]? = some (some id) → ids[j]? = some (some id) → i = j := by
      clear hN hex hv hpre
      induction ids with
      | nil => intro i j id h; simp at h
      | cons x ids ih =>
        intro i j id hi hj
        cases x with
        | none =>
          cases i with
          | zero => simp at hi
          | succ i => cases j with
            | zero => simp at hj
            | succ j => rw [ih (by simpa using hnd) i j id (by simpa using hi) (by simpa using hj)]
        | some y =>
          have hnd' : y ∉ ids.filterMap _root_.id ∧ (ids.filterMap _root_.id).Nodup := by simpa using hnd
          have mem : ∀ k : Nat, ids[k]? = some (some id) → id ∈ ids.filterMap _root_.id := fun k hk => List.mem_filterMap.2 ⟨some id, List.mem_of_getElem? hk, rfl⟩
          cases i with
          | zero =>
            simp at hi; subst hi
            cases j with
            | zero => rfl
            | succ j => exact (hnd'.1 (mem j (by simpa using hj))).elim
          | succ i => cases j with
            | zero => simp at hj; subst hj; exact (hnd'.1 (mem i (by simpa using hi))).elim
            | succ j => rw [ih hnd'.2 i j id (by simpa using hi) (by simpa using hj)]
    have hcase : ∀ j : Nat, (∃ id, ids[j]? = some (some id) ∧ exSpot ι ids j = ι id ∧ exF F ids j = F id) ∨ ((∀ id, ids[j]? ≠ some (some id)) ∧ exSpot ι ids j = none ∧ exF F ids j = []) := by
      intro j
      unfold exSpot exF
      cases h : ids[j]? with
      | none => exact .inr ⟨by simp, rfl, rfl⟩
      | some o => cases o with
        | none => exact .inr ⟨by simp, rfl, rfl⟩
        | some id => exact .inl ⟨id, rfl, rfl, rfl⟩
    have hlt : ∀ (j id : Nat), j < N.length → ids[j]? = some (some id) → id < O.length := by
      intro j id hj hi
      obtain ⟨_, h1 | ⟨id2, ob2, h1, h2, _⟩⟩ := hN.at (List.getElem?_eq_getElem hj)
      · rw [hi] at h1; cases h1.1
      · rw [hi] at h1; cases h1; exact (List.getElem?_eq_some_iff.1 h2).1
    refine ⟨S, exSpot ι ids, exF F ids, hr.base.1, hr.base.2, hr.stable, fun j hj => ?_, ⟨fun j ob' hj => ?_, fun j hj => ?_, fun i j hi hj hij b hb => ?_⟩, fun j hj b hb => ?_, hex.rel hN hv, hr.keeps⟩
    · have h1 := preB_at hpre j hj
      rw [Nat.zero_add] at h1
      rcases hcase j with ⟨id, h, e1, _⟩ | ⟨h, _⟩
      · rw [h1] at h; cases h; rw [e1]; exact hr.spots j hj
      · exact (h _ h1).elim
    · obtain ⟨h0, h1 | ⟨id2, ob2, h1, h2, h3, h4, h5, h6⟩⟩ := hN.at hj
      · rcases hcase j with ⟨id, h, _⟩ | ⟨_, h, h'⟩
        · rw [h1.1] at h; cases h
        · rw [h, h']; exact ⟨h1.2, rfl⟩
      · rcases hcase j with ⟨id, h, e1, e2⟩ | ⟨h, h'⟩
        · rw [h1] at h; cases h
          rw [e1, e2]
          have ho := hr.objs.obj _ ob2 h2
          unfold ObjAt at ho ⊢
          cases hs : ι id2 with
          | none => rw [hs] at ho; rw [← h3]; exact ho
          | some p =>
            obtain ⟨b, k⟩ := p
            rw [hs] at ho
            obtain ⟨cur', t', fz', f2, q1, q2, q3, q4, q5, q6, q7⟩ := ho
            have q8 : LRel S w (exSpot ι ids) N ob'.cells (cur'.toList.take ob'.cells.length) f2 := by
              rw [h3] at q7
              have key : ∀ {cs : List AV} {xs f}, cs.all AV.still = true → LRel S w ι O cs xs f → LRel S w (exSpot ι ids) N cs xs f := by
                intro cs
                induction cs with
                | nil => intro xs f _ hl; cases hl; exact .nil
                | cons c cs ih =>
                  intro xs f hs hl
                  simp only [List.all_cons, Bool.and_eq_true] at hs
                  obtain ⟨v, vs', f1, f2, rfl, hv, hr, rfl⟩ := hl.uncons
                  exact LRel.cons (still_any hv hs.1 N (fun _ h => h) (fun _ _ => rfl) (fun _ _ => rfl)) (ih hs.2 hr)
              exact key h4 q7
            refine ⟨cur', t', fz', f2, q1, q2, q3, by rw [← h3]; exact q4, q5, fun e he => ?_, q8⟩
            rcases h6 with h6 | h6
            · rw [h6] at he; cases he
            · exact q6 e (by rw [← h6]; exact he)
        · exact (h _ h1).elim
    · rcases hcase j with ⟨id, h, _, e2⟩ | ⟨_, _, e2⟩
      · rw [e2]; exact hr.objs.nodup id (hlt j id hj h)
      · rw [e2]; simp
    · rcases hcase i with ⟨id1, h1, _, e1⟩ | ⟨_, _, e1⟩ <;> rcases hcase j with ⟨id2, h2, _, e2⟩ | ⟨_, _, e2⟩ <;> rw [e1] at hb <;> rw [e2]
      · exact hr.objs.apart id1 id2 (hlt i id1 hi h1) (hlt j id2 hj h2) (fun e => hij (hids i j id1 h1 (e ▸ h2))) b hb
      · simp
      · simp at hb
      · simp
    · rcases hcase j with ⟨id, h, _, e2⟩ | ⟨_, _, e2⟩
      · rw [e2] at hb
        exact hr.foot id (hlt j id hj h) b hb
      · rw [e2] at hb; simp at hb
  cases h with
  | zero hN hnd hpre hex => exact ⟨_, run_results0 hfr, fin rfl hN hnd hpre hex (by simpa using LRel.tup LRel.nil LRel.nil)⟩
  | one h1 hN hnd hpre hex =>
    obtain ⟨v, hv, hV⟩ := ResV.rel hP hr h1
    exact ⟨v, run_results1 hfr hv, fin rfl hN hnd hpre hex hV⟩
  | two h1 h2 hN hnd hpre hex =>
    obtain ⟨v1, hv1, hV1⟩ := ResV.rel hP hr h1
    obtain ⟨v2, hv2, hV2⟩ := ResV.rel hP hr h2
    exact ⟨_, run_results2 hfr hv1 hv2, fin rfl hN hnd hpre hex (by simpa using LRel.tup (LRel.cons hV1 hV2) .nil)⟩

theorem FnG.of_body (hP : TabOk P tab) {f : FuncId} {fn : Func} {c : Code} {args : List AV} {M M' N : List AObj} {r : AV} {k : Nat} (hf : P.funcs[f]? = some fn) (hnt : fn.ntmps = k) (hb : fn.body = some c) (hnm : (fn.name == "runtime.NumGoroutine") = false)
    (hal : args.length ≤ k) (hml : M.length = m) (h : ∀ G, WpA P k m G c ⟨enumT 0 args, M⟩ (FinG tab m fn.results (M' ++ N) r)) : FnG P f args M M' N r := by
  refine ⟨⟨fn, hf, by rw [hb]; rfl, hnm⟩, fun w S ι F vs hS hO hF hl => ?_⟩
  have hvl : vs.length = args.length := hl.len.symm
  refine calls_of_wp hf hb ?_
  have hrel : Rel k m ⟨w, S, fun b => ∃ i, i < M.length ∧ b ∈ F i, ι⟩ ⟨enumT 0 args, M⟩ { tmps := vs.toArray ++ Array.replicate (fn.ntmps - vs.toArray.size) undef, defers := [] } w := by
    refine ⟨S, ι, F, rfl, ?_, fun t => ?_, hO, fun id hid b hb => ⟨.inl ⟨id, hid, hb⟩, hF id hid b hb⟩, ⟨fun _ h => h, fun _ h => .inl h⟩, hS, Keeps.refl _ _, fun _ _ => rfl, by show m ≤ M.length; omega⟩
    · simp [hnt]; omega
    · show VRel S w ι M (look (enumT 0 args) t) _ []
      rw [look_enumT]
      simp only [Nat.zero_le, if_true, Nat.sub_zero]
      by_cases ht : t < args.length
      · obtain ⟨x, g, hx, hV, hg⟩ := hl.get (List.getElem?_eq_getElem ht)
        have hg0 : g = [] := List.eq_nil_iff_forall_not_mem.2 fun b hb => by simpa using hg b hb
        subst hg0
        have e1 : args.getD t .any = args[t] := by simp [ht]
        have e2 : (vs.toArray ++ Array.replicate (fn.ntmps - vs.toArray.size) undef).getD t undef = x := by
          have : t < vs.length := by omega
          rw [List.getElem?_eq_getElem this] at hx
          simp only [Option.some.injEq] at hx
          simp [Array.getD_eq_getD_getElem?, Array.getElem?_append, this, hx]
        rw [e1, e2]; exact hV
      · have e1 : args.getD t .any = .any := by simp [List.getElem?_eq_none (Nat.le_of_not_lt ht)]
        rw [e1]; exact .any .nil
  refine wp_mono (h _ _ _ hrel) fun e a' w' ⟨σ', hq, hr'⟩ => ?_
  have hdef : a'.defers = [] := by obtain ⟨_, _, _, h⟩ := hr'; exact h.defers
  have key : ∀ v S' ι' F', ((∀ b, S b → S' b) ∧ (∀ b, S' b → S b ∨ w.heap.size ≤ b) ∧ (∀ b, S' b → b < w'.heap.size) ∧ (∀ id, id < m → ι' id = ι id) ∧ ORel S' w' ι' (M' ++ N) F' ∧
      (∀ id, id < (M' ++ N).length → ∀ b ∈ F' id, ((∃ i, i < M.length ∧ b ∈ F i) ∨ w.heap.size ≤ b) ∧ ¬ S' b ∧ b < w'.heap.size) ∧ VRel S' w' ι' (M' ++ N) r v [] ∧ Keeps w (fun b => ∃ i, i < M.length ∧ b ∈ F i) w') →
      ∃ v' S' ι' F', Ending.returned v = .returned v' ∧ (∀ b, S b → S' b) ∧ (∀ b, S' b → S b ∨ w.heap.size ≤ b) ∧ (∀ b, S' b → b < w'.heap.size) ∧ (∀ id, id < M.length → ι' id = ι id) ∧ ORel S' w' ι' (M' ++ N) F' ∧
      (∀ id, id < (M' ++ N).length → ∀ b ∈ F' id, ((∃ i, i < M.length ∧ b ∈ F i) ∨ w.heap.size ≤ b) ∧ ¬ S' b ∧ b < w'.heap.size) ∧ VRel S' w' ι' (M' ++ N) r v' [] ∧ Keeps w (fun b => ∃ i, i < M.length ∧ b ∈ F i) w' :=
    fun v S' ι' F' ⟨q1, q2, q3, q4, q5⟩ => ⟨v, S', ι', F', rfl, q1, q2, q3, by rw [hml]; exact q4, q5⟩
  cases e with
  | normal =>
    obtain ⟨v, hv, S', ι', F', q⟩ := ResG.out hP rfl hq hr'
    exact ⟨hdef, v, hv, key v S' ι' F' q⟩
  | ret =>
    obtain ⟨v, hv, S', ι', F', q⟩ := ResG.out hP rfl hq hr'
    exact ⟨hdef, v, hv, key v S' ι' F' q⟩
  | _ => exact hq.elim
end
end Go.Abs
