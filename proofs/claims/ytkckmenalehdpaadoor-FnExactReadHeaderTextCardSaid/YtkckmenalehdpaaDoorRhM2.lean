/- Proved in this text: lemmas and contracts of functions that the claim uses (parts: AbsK, AbsL, AbsM, AbsN). No condition. -/
import Derived.Test.YtkckmenalehdpaaDoorRhM1
set_option linter.unusedVariables false
set_option linter.unusedSimpArgs false
set_option maxRecDepth 100000
set_option maxHeartbeats 4000000


namespace Go.Abs
open Go
inductive Loc : List AV → Prop
  | nil : Loc []
  | any {vs} : Loc vs → Loc (.any :: vs)
  | sc {v vs} : Loc vs → Loc (.sc v :: vs)
  | nilS {vs} : Loc vs → Loc (.nilS :: vs)
  | imm0 {s vs} : Loc vs → Loc (.imm s 0 [] :: vs)
  | own {id ep off len vs} : Loc vs → Loc (.own id ep off len :: vs)
  | fre {s l ds vs} : Loc ds → Loc vs → Loc (.fre s l ds :: vs)
  | agg {ds vs} : Loc ds → Loc vs → Loc (.agg ds :: vs)
  | tup {ds vs} : Loc ds → Loc vs → Loc (.tup ds :: vs)
  | ifc {t v vs} : Loc [v] → Loc vs → Loc (.ifc t v :: vs)
theorem Loc.scs {cs : List AV} (h : ∀ V ∈ cs, ∃ v, V = .sc v) : Loc cs := by
  induction cs with
  | nil => exact .nil
  | cons c cs ih =>
    obtain ⟨v, rfl⟩ := h c (by simp)
    exact .sc (ih fun V hV => h V (by simp [hV]))
theorem Loc.ints (xs : List Int) : Loc (ints xs) := Loc.scs fun V hV => by simp only [Abs.ints, List.mem_map] at hV; obtain ⟨x, _, rfl⟩ := hV; exact ⟨_, rfl⟩
theorem Loc.u8s (xs : List Int) : Loc (u8s xs) := Loc.scs fun V hV => by simp only [Abs.u8s, List.mem_map] at hV; obtain ⟨x, _, rfl⟩ := hV; exact ⟨_, rfl⟩
theorem Loc.bools (xs : List Bool) : Loc (bools xs) := Loc.scs fun V hV => by simp only [Abs.bools, List.mem_map] at hV; obtain ⟨x, _, rfl⟩ := hV; exact ⟨_, rfl⟩
theorem Loc.strs (xs : List (List UInt8)) : Loc (strs xs) := Loc.scs fun V hV => by simp only [Abs.strs, List.mem_map] at hV; obtain ⟨x, _, rfl⟩ := hV; exact ⟨_, rfl⟩
inductive Sh (k : Nat) : List AV → List AV → Prop
  | nil : Sh k [] []
  | keep {V vs us} : V.still = true → Sh k vs us → Sh k (V :: vs) (V :: us)
  | own {id ep off len vs us} : Sh k vs us → Sh k (.own id ep off len :: vs) (.own (id + k) ep off len :: us)
  | agg {ds es vs us} : Sh k ds es → Sh k vs us → Sh k (.agg ds :: vs) (.agg es :: us)
  | tup {ds es vs us} : Sh k ds es → Sh k vs us → Sh k (.tup ds :: vs) (.tup es :: us)
theorem Loc.rel {S1 S2 : Nat → Prop} {w ι cs} (hL : Loc cs) : ∀ {O vs f}, LRel S1 w ι O cs vs f → LRel S2 w ι O cs vs f := by
  induction hL with
  | nil => intro O vs f h; cases h; exact .nil
  | any _ ih => intro O vs f h; cases h with | any r => exact .any (ih r)
  | sc _ ih => intro O vs f h; cases h with | sc r => exact .sc (ih r)
  | nilS _ ih => intro O vs f h; cases h with | nilS r => exact .nilS (ih r)
  | imm0 _ ih =>
    intro O vs f h
    cases h with
    | imm0 h0 r => exact .imm0 h0 (ih r)
    | imm a b c d e f r => exact .imm0 ⟨fun h => (by cases h), f⟩ (ih r)
  | own _ ih => intro O vs f h; cases h with | own a b c r => exact .own a b c (ih r)
  | fre _ _ ih1 ih2 =>
    intro O vs f h
    cases h with
    | fre0 r => exact .fre0 (ih2 r)
    | fre a b c d e g i r => exact .fre a b c (ih1 d) e g i (ih2 r)
  | agg _ _ ih1 ih2 => intro O vs f h; cases h with | agg a r => exact .agg (ih1 a) (ih2 r)
  | tup _ _ ih1 ih2 => intro O vs f h; cases h with | tup a r => exact .tup (ih1 a) (ih2 r)
  | ifc _ _ ih1 ih2 => intro O vs f h; cases h with | ifc a r => exact .ifc (ih1 a) (ih2 r)
theorem Sh.rel {k : Nat} {S w ι ι2} {N O2 : List AObj} (hι : ∀ id, ι2 (id + k) = ι id) (hO : ∀ id ob, N[id]? = some ob → O2[id + k]? = some ob) {vs us} (h : Sh k vs us) :
    ∀ {xs f}, LRel S w ι N vs xs f → LRel S w ι2 O2 us xs f := by
  induction h with
  | nil => intro xs f hl; cases hl; exact .nil
  | keep hs _ ih =>
    intro xs f hl
    obtain ⟨v, vs', f1, f2, rfl, hv, hr, rfl⟩ := hl.uncons
    exact LRel.cons (still_any hv hs O2 (fun _ h => h) (fun _ _ => rfl) (fun _ _ => rfl)) (ih hr)
  | own _ ih =>
    intro xs f hl
    cases hl with
    | own a b c r => exact .own (hO _ _ a) b (fun e => by rw [hι]; exact c e) (ih r)
  | agg _ _ ih1 ih2 => intro xs f hl; cases hl with | agg a r => exact .agg (ih1 a) (ih2 r)
  | tup _ _ ih1 ih2 => intro xs f hl; cases hl with | tup a r => exact .tup (ih1 a) (ih2 r)
theorem Sh.same (k : Nat) {cs : List AV} (h : cs.all AV.still = true) : Sh k cs cs := by
  induction cs with
  | nil => exact .nil
  | cons c cs ih =>
    simp only [List.all_cons, Bool.and_eq_true] at h
    exact .keep h.1 (ih h.2)
mutual
def AV.sh (k : Nat) : AV → AV
  | .own id ep off len => .own (id + k) ep off len
  | .agg ds => .agg (AV.shL k ds)
  | .tup ds => .tup (AV.shL k ds)
  | .any => .any
  | .sc v => .sc v
  | .nilS => .nilS
  | .imm s l ds => .imm s l ds
  | .fre s l ds => .fre s l ds
  | .ptr id ep off => .ptr id ep off
  | .iptr ds off => .iptr ds off
  | .fn f ds => .fn f ds
  | .ifc t v => .ifc t v
def AV.shL (k : Nat) : List AV → List AV
  | [] => []
  | V :: Vs => V.sh k :: AV.shL k Vs
end
mutual
def AV.shOk : AV → Bool
  | .own _ _ _ _ => true
  | .agg ds => AV.shOkL ds
  | .tup ds => AV.shOkL ds
  | V => V.still
def AV.shOkL : List AV → Bool
  | [] => true
  | V :: Vs => V.shOk && AV.shOkL Vs
end
mutual
theorem Sh.of1 (k : Nat) : ∀ (V : AV), V.shOk = true → ∀ {vs us : List AV}, Sh k vs us → Sh k (V :: vs) (V.sh k :: us)
  | .own id ep off len, _, _, _, hr => by rw [AV.sh]; exact .own hr
  | .agg ds, h, _, _, hr => by rw [AV.sh]; exact .agg (Sh.ofL k ds (by simpa [AV.shOk] using h)) hr
  | .tup ds, h, _, _, hr => by rw [AV.sh]; exact .tup (Sh.ofL k ds (by simpa [AV.shOk] using h)) hr
  | .any, h, _, _, hr => by rw [AV.sh]; exact .keep rfl hr
  | .sc v, h, _, _, hr => by rw [AV.sh]; exact .keep rfl hr
  | .nilS, h, _, _, hr => by rw [AV.sh]; exact .keep rfl hr
  | .imm s l ds, h, _, _, hr => by rw [AV.sh]; exact .keep rfl hr
  | .fre s l ds, h, _, _, hr => by rw [AV.sh]; exact .keep rfl hr
  | .ptr id ep off, h, _, _, hr => by simp [AV.shOk, AV.still] at h
  | .iptr ds off, h, _, _, hr => by rw [AV.sh]; exact .keep rfl hr
  | .fn f ds, h, _, _, hr => by rw [AV.sh]; exact .keep (by simpa [AV.shOk] using h) hr
  | .ifc t v, h, _, _, hr => by rw [AV.sh]; exact .keep (by simpa [AV.shOk] using h) hr
theorem Sh.ofL (k : Nat) : ∀ (Vs : List AV), AV.shOkL Vs = true → Sh k Vs (AV.shL k Vs)
  | [], _ => by rw [AV.shL]; exact .nil
  | V :: Vs, h => by
    rw [AV.shL]
    simp only [AV.shOkL, Bool.and_eq_true] at h
    exact Sh.of1 k V h.1 (Sh.ofL k Vs h.2)
end
inductive Out : List AObj → Prop
  | nil : Out []
  | cons {ob N} : ob.cells.all AV.still = true → Loc ob.cells → Out N → Out (ob :: N)
theorem Out.at {N} (h : Out N) {id : Nat} {ob : AObj} (hi : N[id]? = some ob) : ob.cells.all AV.still = true ∧ Loc ob.cells := by
  induction h generalizing id with
  | nil => simp at hi
  | cons h1 h2 _ ih =>
    cases id with
    | zero => simp at hi; subst hi; exact ⟨h1, h2⟩
    | succ id => exact ih (by simpa using hi)
theorem Out.ints {xs : List Int} {ty : Option TypeId} : Out [⟨ints xs, 0, 1, ty⟩] := .cons (still_ints xs) (Loc.ints xs) .nil
theorem Out.u8s {xs : List Int} {ty : Option TypeId} : Out [⟨u8s xs, 0, 1, ty⟩] := .cons (still_u8s xs) (Loc.u8s xs) .nil
theorem Out.bools {xs : List Bool} {ty : Option TypeId} : Out [⟨bools xs, 0, 1, ty⟩] := .cons (still_bools xs) (Loc.bools xs) .nil
theorem Out.strs {xs : List (List UInt8)} {ty : Option TypeId} : Out [⟨strs xs, 0, 1, ty⟩] := .cons (still_strs xs) (Loc.strs xs) .nil
section
variable {P : Program} {n m : Nat} {G : Ctx} {T : List (Nat × AV)} {O : List AObj} {Q : Exit → St → Prop} {ops : Array Oper} {l : List Oper} {d : Nat} {tt : TypeId} {pos : String} {after : Array Edge} {tab : List (Nat × Ty)}
theorem WpL.callX {f : FuncId} {o : Oper} {Vs : List AV} {As : List AV} {N : List AObj} {r r' : AV} {id : Nat} (hg : o.guard = none) (hd : o.dst = some d) (hc : FnC P f As N r) (hs : Snap O Vs As) (hloc : Loc [r]) (hN : Out N)
    (hex0 : Runs P f → ∀ S ι F a w, RelAt n m G S ι F ⟨T, O⟩ a w → ∃ vs, LRel S w ι O Vs vs [] ∧ (execOp a.eval o).run P w = .ok (.enter f vs.toArray) w)
    (hid : nid O 0 = some id) (hok : r.shOk = true) (hre : (r.sh id).force = some r') (hn : d < n) (h : WpL P n m G false ops l ⟨(d, r') :: T, O ++ N⟩ Q) :
    WpL P n m G false ops (o :: l) ⟨T, O⟩ Q :=
  WpL.op hg (fun a w hr => by
    obtain ⟨S, ι, F, hr⟩ := hr
    have hid : id = O.length := by have := nid_eq hid; omega
    subst hid
    have hr' : Sh O.length [r] [r'] := by rw [← AV.force_eq hre]; exact Sh.of1 _ r hok .nil
    obtain ⟨hruns, hcall⟩ := hc
    obtain ⟨vs, hl, hex⟩ := hex0 hruns S ι F a w hr
    have hsn := hs.rel (ι' := fun _ => none) hr.objs hr.stable hl
    unfold Oper.wp
    rw [hex]
    refine (hcall w (fun b => b < w.heap.size) vs (fun _ h => h) (hr.glb.mono hr.stable) hsn).mono fun e w' he => ?_
    obtain ⟨v, S', ι', F', rfl, hS1, hS2, hS3, hO', hF', hv, hk⟩ := he
    show Rel n m G ⟨(d, r') :: T, O ++ N⟩ (a.put o.dst v) w'
    rw [hd]
    have hold : ∀ b, b < w.heap.size → w'.heap[b]? = w.heap[b]? := fun b hb => hk.block b hb (fun h => h)
    let S2 : Nat → Prop := fun b => S b ∨ (S' b ∧ w.heap.size ≤ b)
    let ι2 : Nat → Spot := fun id => if id < O.length then ι id else ι' (id - O.length)
    let F2 : Nat → List Nat := fun id => if id < O.length then F id else F' (id - O.length)
    have hι : ∀ id, ι2 (id + O.length) = ι' id := fun id => by
      show (if _ then _ else _) = _
      rw [if_neg (by omega), Nat.add_sub_cancel]
    have hFn : ∀ id, F2 (id + O.length) = F' id := fun id => by
      show (if _ then _ else _) = _
      rw [if_neg (by omega), Nat.add_sub_cancel]
    have hON : ∀ id ob, N[id]? = some ob → (O ++ N)[id + O.length]? = some ob := fun id ob h => by
      rw [List.getElem?_append_right (by omega), Nat.add_sub_cancel]; exact h
    have hlat : Later S w ι O S2 w' ι2 (O ++ N) := by
      refine ⟨fun b h => .inl h, fun b hb => hold b (hr.stable b hb), fun id ob h => ?_⟩
      have hlt : id < O.length := (List.getElem?_eq_some_iff.1 h).1
      exact ⟨ob, by rw [List.getElem?_append_left hlt]; exact h, .inr ⟨rfl, rfl, by show (if _ then _ else _) = _; rw [if_pos hlt]⟩⟩
    have hnewF : ∀ id, id < N.length → ∀ b, b ∈ F' id → w.heap.size ≤ b ∧ ¬ S2 b ∧ b < w'.heap.size := by
      intro id hid b hb
      obtain ⟨h1, h2, h3⟩ := hF' id hid b hb
      refine ⟨h1, ?_, h3⟩
      rintro (h | ⟨h, _⟩)
      · have := hr.stable b h; omega
      · exact h2 h
    have hcell : ∀ (id : Nat) (ob : AObj), N[id]? = some ob → ∀ us g, LRel S' w' ι' N ob.cells us g → LRel S2 w' ι2 (O ++ N) ob.cells us g := fun id ob hi us g hl =>
      Loc.rel (hN.at hi).2 ((Sh.same O.length (hN.at hi).1).rel hι hON hl)
    have hrel : RelAt n m G S2 ι2 F2 ⟨T, O ++ N⟩ a w' := by
      refine ⟨hr.defers, hr.size, fun t => (hr.tmps t).mono hlat (by simp), ⟨fun id ob h => ?_, fun id h => ?_, fun i j hi hj hij b hb => ?_⟩, fun id h b hb => ?_, ⟨fun b hb => .inl (hr.base.1 b hb), ?_⟩, ?_, ?_, fun id h => ?_, ?_⟩
      · have h : (O ++ N)[id]? = some ob := h
        by_cases hlt : id < O.length
        · rw [List.getElem?_append_left hlt] at h
          rw [show ι2 id = ι id from if_pos hlt, show F2 id = F id from if_pos hlt]
          have ho := hr.objs.obj id ob h
          unfold ObjAt at ho ⊢
          cases hs : ι id with
          | none => rw [hs] at ho; exact ho
          | some p =>
            obtain ⟨b, k⟩ := p
            rw [hs] at ho
            obtain ⟨cur', t', fz', f2, h1, h2, h3, h4, h5, h6, h7⟩ := ho
            have key : ∀ b', b' ∈ F id → w'.heap[b']? = w.heap[b']? := fun b' hb' => hold b' (hr.foot id hlt b' hb').2.2
            exact ⟨cur', t', fz', f2, h1, by rw [key b (by rw [h1]; simp)]; exact h2, h3, h4, h5, h6, h7.mono hlat fun b' hb' => key b' (by rw [h1]; simp [hb'])⟩
        · rw [List.getElem?_append_right (by omega)] at h
          rw [show ι2 id = ι' (id - O.length) from if_neg hlt, show F2 id = F' (id - O.length) from if_neg hlt]
          have ho := hO'.obj _ ob h
          unfold ObjAt at ho ⊢
          cases hs : ι' (id - O.length) with
          | none => rw [hs] at ho; exact ho
          | some p =>
            obtain ⟨b, k⟩ := p
            rw [hs] at ho
            obtain ⟨cur', t', fz', f2, h1, h2, h3, h4, h5, h6, h7⟩ := ho
            exact ⟨cur', t', fz', f2, h1, h2, h3, h4, h5, h6, hcell _ ob h _ _ h7⟩
      · have h : id < (O ++ N).length := h
        rw [List.length_append] at h
        by_cases hlt : id < O.length
        · rw [show F2 id = F id from if_pos hlt]; exact hr.objs.nodup id hlt
        · rw [show F2 id = F' (id - O.length) from if_neg hlt]; exact hO'.nodup _ (by omega)
      · have hi : i < (O ++ N).length := hi
        have hj : j < (O ++ N).length := hj
        rw [List.length_append] at hi hj
        by_cases h1 : i < O.length <;> by_cases h2 : j < O.length
        · rw [show F2 i = F i from if_pos h1] at hb; rw [show F2 j = F j from if_pos h2]
          exact hr.objs.apart i j h1 h2 hij b hb
        · rw [show F2 i = F i from if_pos h1] at hb; rw [show F2 j = F' (j - O.length) from if_neg h2]
          intro hb'
          have := (hr.foot i h1 b hb).2.2
          have := (hF' _ (by omega) b hb').1
          omega
        · rw [show F2 i = F' (i - O.length) from if_neg h1] at hb; rw [show F2 j = F j from if_pos h2]
          intro hb'
          have := (hr.foot j h2 b hb').2.2
          have := (hF' _ (by omega) b hb).1
          omega
        · rw [show F2 i = F' (i - O.length) from if_neg h1] at hb; rw [show F2 j = F' (j - O.length) from if_neg h2]
          exact hO'.apart _ _ (by omega) (by omega) (by omega) b hb
      · have h : id < (O ++ N).length := h
        rw [List.length_append] at h
        by_cases hlt : id < O.length
        · rw [show F2 id = F id from if_pos hlt] at hb
          obtain ⟨q1, q2, q3⟩ := hr.foot id hlt b hb
          refine ⟨q1, ?_, by have := hk.size; omega⟩
          rintro (h' | ⟨_, h'⟩)
          · exact q2 h'
          · omega
        · rw [show F2 id = F' (id - O.length) from if_neg hlt] at hb
          obtain ⟨q1, q2, q3⟩ := hnewF _ (by omega) b hb
          exact ⟨.inr (by have := hr.keeps.size; omega), q2, q3⟩
      · rintro b (h' | ⟨_, h'⟩)
        · exact hr.base.2 b h'
        · exact .inr (by have := hr.keeps.size; omega)
      · rintro b (h' | ⟨h', _⟩)
        · have := hr.stable b h'; have := hk.size; omega
        · exact hS3 b h'
      · exact ⟨hk.os.trans hr.keeps.os, hk.tape.trans hr.keeps.tape, hk.output.trans hr.keeps.output, by have := hr.keeps.size; have := hk.size; omega, fun b hb hM => by
          rw [hold b (by have := hr.keeps.size; omega)]; exact hr.keeps.block b hb hM⟩
      · have hm : m ≤ O.length := hr.mle
        rw [show ι2 id = ι id from if_pos (by omega)]; exact hr.spots id h
      · have hm : m ≤ O.length := hr.mle
        show m ≤ (O ++ N).length
        rw [List.length_append]; omega
    exact ⟨S2, ι2, F2, hrel.put hn (Loc.rel (S1 := S') (S2 := S2) (by
      -- the shifted value names no old memory either
      have : ∀ {vs us}, Sh O.length vs us → Loc vs → Loc us := by
        intro vs us hsh
        induction hsh with
        | nil => intro h; exact h
        | keep hs _ ih =>
          intro h
          cases h with
          | any h => exact .any (ih h)
          | sc h => exact .sc (ih h)
          | nilS h => exact .nilS (ih h)
          | imm0 h => exact .imm0 (ih h)
          | own h => simp [AV.still] at hs
          | fre h1 h2 => exact .fre h1 (ih h2)
          | agg => simp [AV.still] at hs
          | tup => simp [AV.still] at hs
          | ifc h1 h2 => exact .ifc h1 (ih h2)
        | own _ ih => intro h; cases h with | own h => exact .own (ih h)
        | agg _ _ ih1 ih2 => intro h; cases h with | agg a b => exact .agg (ih1 a) (ih2 b)
        | tup _ _ ih1 ih2 => intro h; cases h with | tup a b => exact .tup (ih1 a) (ih2 b)
      exact this hr' hloc) (hr'.rel hι hON hv))⟩) h
theorem WpL.call {f : FuncId} {xs : List Operand} {ats : Array TypeId} {As : List AV} {N : List AObj} {r r' : AV} {id : Nat} (hc : FnC P f As N r) (hs : Snap O (xs.map (av T)) As) (hloc : Loc [r]) (hN : Out N)
    (hid : nid O 0 = some id) (hok : r.shOk = true) (hre : (r.sh id).force = some r') (hn : d < n) (h : WpL P n m G false ops l ⟨(d, r') :: T, O ++ N⟩ Q) :
    WpL P n m G false ops ({ dst := some d, op := .call { callee := .value (.func f), args := xs.toArray, argTypes := ats }, type := tt, pos := pos, after := after, guard := none } :: l) ⟨T, O⟩ Q :=
  WpL.callX rfl rfl hc hs hloc hN (fun ⟨fn, hf, hb, hnm⟩ S ι F a w hr => by
    refine ⟨xs.map a.eval, hr.evals xs, ?_⟩
    simp only [execOp, resolve, Act.eval, Deferred.ofValue, invoke, callFunc, Sem.run_bind, Sem.run_pure, Result.andThen_ok, program, Sem.run, hf, hnm, hb, Bool.false_eq_true, if_false]
    simp) hid hok hre hn h
def resSem (tmps : Array Value) : ResultVar → Sem Value
  | .tmp t => pure (tmps.getD t undef)
  | .cell a t => do loadVar t (← asAddr (tmps.getD a undef))
theorem results_eq (fn : Func) (tmps : Array Value) : results fn tmps = (do let vs ← fn.results.mapM (resSem tmps); pure (if h : vs.size = 1 then vs[0] else .tuple vs)) := by
  have : (fun r => match r with
    | ResultVar.tmp t => pure (tmps.getD t undef)
    | ResultVar.cell a t => do loadVar t (← asAddr (tmps.getD a undef))) = resSem tmps := by
    funext r; cases r <;> rfl
  unfold results
  rw [← this]
  rfl
theorem run_results1 {fn : Func} {tmps : Array Value} {r1 : ResultVar} {v1 : Value} {w : World} (h : fn.results = #[r1]) (h1 : (resSem tmps r1).run P w = .ok v1 w) : (results fn tmps).run P w = .ok v1 w := by
  rw [results_eq, h]; simp [Sem.run_bind, h1]
theorem run_results2 {fn : Func} {tmps : Array Value} {r1 r2 : ResultVar} {v1 v2 : Value} {w : World} (h : fn.results = #[r1, r2]) (h1 : (resSem tmps r1).run P w = .ok v1 w) (h2 : (resSem tmps r2).run P w = .ok v2 w) :
    (results fn tmps).run P w = .ok (.tuple #[v1, v2]) w := by
  rw [results_eq, h]; simp [Sem.run_bind, h1, h2]
theorem run_results3 {fn : Func} {tmps : Array Value} {r1 r2 r3 : ResultVar} {v1 v2 v3 : Value} {w : World} (h : fn.results = #[r1, r2, r3]) (h1 : (resSem tmps r1).run P w = .ok v1 w) (h2 : (resSem tmps r2).run P w = .ok v2 w) (h3 : (resSem tmps r3).run P w = .ok v3 w) :
    (results fn tmps).run P w = .ok (.tuple #[v1, v2, v3]) w := by
  rw [results_eq, h]; simp [Sem.run_bind, h1, h2, h3]
inductive ResV (tab : List (Nat × Ty)) (T : List (Nat × AV)) (O : List AObj) : ResultVar → AV → Prop
  | tmp {t V} : (look T t).force = some V → ResV tab T O (.tmp t) V
  | cell {t ty offs k zs cells off ds} : tlook tab ty = some (.struct offs k zs) → reg O (look T t) = some (cells, off) → (cells.drop off).take k = ds → ds.length = k → ds.all AV.nofre = true → ResV tab T O (.cell t ty) (.agg ds)
  | cellP {t ty tp cells off V} : tlook tab ty = some tp → tp.plain = true → reg O (look T t) = some (cells, off) → cells[off]? = some V → V.nofre = true → ResV tab T O (.cell t ty) V
theorem load_agg (hP : TabOk P tab) {S ι F σ a w} (hr : RelAt n m G S ι F σ a w) {V : AV} {x : Value} (hv : VRel S w ι σ.O V x []) {t : Nat} {offs : List Nat} {k : Nat} {zs cells ds : List AV} {off : Nat} (ht : tlook tab t = some (.struct offs k zs))
    (hm : reg σ.O V = some (cells, off)) (hd : (cells.drop off).take k = ds) (hk : ds.length = k) (hf : ds.all AV.nofre = true) : ∃ b o v, x = .pointer (some ⟨b, o, none⟩) ∧ (loadVar t ⟨b, o, none⟩).run P w = .ok v w ∧ VRel S w ι σ.O (.agg ds) v [] := by
  obtain ⟨b, o, us, g, hx, hc, hl⟩ := reg_cells hr.objs hv hm
  obtain ⟨g1, h1, _, _⟩ := hl.drop off
  obtain ⟨g2, h2, _, _⟩ := h1.take k
  rw [hd] at h2
  have := lrel_nofre_nil h2 hf
  subst this
  refine ⟨b, o + off, .agg ((us.drop off).take k).toArray, hx, ?_, by simpa using LRel.agg h2 .nil⟩
  obtain ⟨fs, hu, ⟨z, hz, _⟩, _⟩ := hP.ty ht
  have hagg : (isAgg t).run P w = .ok true w := by simp [isAgg, run_underlying hu]
  obtain ⟨i, hi, hi2⟩ : ∃ i, P.info? t = some i ∧ i.size = k := by
    cases hh : P.info? t with
    | none => simp [hh] at hz
    | some i => rw [hh] at hz; simp at hz; exact ⟨i, rfl, hz.2⟩
  have hlen : ((us.drop off).take k).length = k := by rw [← h2.len, hk]
  have hcs : ∀ j v, ((us.drop off).take k)[j]? = some v → w.cell? ((⟨b, o + off, none⟩ : Addr).add j) = some v := by
    intro j v hj
    have hjk : j < ((us.drop off).take k).length := (List.getElem?_eq_some_iff.1 hj).1
    rw [hlen] at hjk
    rw [List.getElem?_take, if_pos hjk, List.getElem?_drop] at hj
    have hlt : off + j < us.length := (List.getElem?_eq_some_iff.1 hj).1
    have := hc (off + j) hlt
    rw [hj] at this
    rw [addr_add, Nat.add_assoc]; exact this
  have hld : (loadCells ⟨b, o + off, none⟩ k).run P w = .ok ((us.drop off).take k).toArray w := by
    have := run_loadCells_list (P := P) w ⟨b, o + off, none⟩ _ hcs
    rwa [hlen] at this
  simp [loadVar, hagg, run_sizeOf hi hi2, hld, Sem.run_bind]
theorem load_plain (hP : TabOk P tab) {S ι F σ a w} (hr : RelAt n m G S ι F σ a w) {V0 : AV} {x : Value} (hv0 : VRel S w ι σ.O V0 x []) {t : Nat} {tp : Ty} {cells : List AV} {V : AV} {off : Nat} (ht : tlook tab t = some tp) (hp : tp.plain = true)
    (hm : reg σ.O V0 = some (cells, off)) (hv : cells[off]? = some V) (hf : V.nofre = true) : ∃ b o v, x = .pointer (some ⟨b, o, none⟩) ∧ (loadVar t ⟨b, o, none⟩).run P w = .ok v w ∧ VRel S w ι σ.O V v [] := by
  obtain ⟨b, o, us, g, hx, hc, hl⟩ := reg_cells hr.objs hv0 hm
  obtain ⟨v, g', hv', hV, _⟩ := hl.get hv
  have := nofre_nil hV hf
  subst this
  refine ⟨b, o + off, v, hx, ?_, hV⟩
  have hlt : off < us.length := (List.getElem?_eq_some_iff.1 hv').1
  have hcell : w.cell? ⟨b, o + off, none⟩ = some v := by rw [hc off hlt, hv']
  simp [loadVar, run_isAgg_plain (hP.ty ht) hp, load, hcell, Sem.run_bind, Sem.run]
theorem ResV.rel (hP : TabOk P tab) {S ι F a w} (hr : RelAt n m G S ι F ⟨T, O⟩ a w) {r : ResultVar} {V : AV} (h : ResV tab T O r V) : ∃ v, (resSem a.tmps r).run P w = .ok v w ∧ VRel S w ι O V v [] := by
  cases h with
  | tmp ht => exact ⟨_, rfl, by rw [← AV.force_eq ht]; exact hr.tmps _⟩
  | cell ht hm hd hk hf =>
    obtain ⟨b, o, v, hx, hl, hv⟩ := load_agg hP hr (hr.tmps _) ht hm hd hk hf
    refine ⟨v, ?_, hv⟩
    simp only [resSem, Sem.run_bind]
    rw [hx]
    simp [asAddr, hl]
  | cellP ht hp hm hd hf =>
    obtain ⟨b, o, v, hx, hl, hv⟩ := load_plain hP hr (hr.tmps _) ht hp hm hd hf
    refine ⟨v, ?_, hv⟩
    simp only [resSem, Sem.run_bind]
    rw [hx]
    simp [asAddr, hl]
inductive Ex (O : List AObj) (ids : List (Option Nat)) : List AV → List AV → Prop
  | nil : Ex O ids [] []
  | keep {V V' vs us} : V = V' → V'.still = true → V'.nofre = true → Ex O ids vs us → Ex O ids (V :: vs) (V' :: us)
  | own {id ep off len len' j ob vs us} : ids[j]? = some (some id) → O[id]? = some ob → ob.ep = ep → len = len' → Ex O ids vs us → Ex O ids (.own id ep off len :: vs) (.own j 0 off len' :: us)
  | nilO {j vs us} : ids[j]? = some none → Ex O ids vs us → Ex O ids (.nilS :: vs) (.own j 0 0 0 :: us)
  | agg {ds es vs us} : Ex O ids ds es → Ex O ids vs us → Ex O ids (.agg ds :: vs) (.agg es :: us)
  | tup {ds es vs us} : Ex O ids ds es → Ex O ids vs us → Ex O ids (.tup ds :: vs) (.tup es :: us)
inductive NEx (O : List AObj) : List (Option Nat) → List AObj → Prop
  | nil : NEx O [] []
  | gone {ids N ob'} : ob'.cells = [] → ob'.ep = 0 → NEx O ids N → NEx O (none :: ids) (ob' :: N)
  | obj {id ids N ob ob'} : O[id]? = some ob → ob.cells = ob'.cells → ob'.cells.all AV.still = true → ob'.ep = 0 → ob'.size = ob.size → (ob'.ty = none ∨ ob'.ty = ob.ty) → NEx O ids N → NEx O (some id :: ids) (ob' :: N)
theorem NEx.len {O ids N} (h : NEx O ids N) : ids.length = N.length := by induction h <;> simp_all
theorem NEx.at {O ids N} (h : NEx O ids N) {j : Nat} {ob' : AObj} (hj : N[j]? = some ob') : ob'.ep = 0 ∧ ((ids[j]? = some none ∧ ob'.cells = []) ∨
    ∃ id ob, ids[j]? = some (some id) ∧ O[id]? = some ob ∧ ob.cells = ob'.cells ∧ ob'.cells.all AV.still = true ∧ ob'.size = ob.size ∧ (ob'.ty = none ∨ ob'.ty = ob.ty)) := by
  induction h generalizing j with
  | nil => simp at hj
  | gone h1 h2 _ ih =>
    cases j with
    | zero => simp at hj; subst hj; exact ⟨h2, .inl ⟨by simp, h1⟩⟩
    | succ j => simpa using ih (by simpa using hj)
  | obj h1 h2 h3 h4 h5 h6 _ ih =>
    cases j with
    | zero => simp at hj; subst hj; exact ⟨h4, .inr ⟨_, _, by simp, h1, h2, h3, h5, h6⟩⟩
    | succ j => simpa using ih (by simpa using hj)
def exSpot (ι : Nat → Spot) (ids : List (Option Nat)) : Nat → Spot := fun j => match ids[j]? with | some (some id) => ι id | _ => none
def exF (F : Nat → List Nat) (ids : List (Option Nat)) : Nat → List Nat := fun j => match ids[j]? with | some (some id) => F id | _ => []
theorem Ex.rel {O N : List AObj} {ids : List (Option Nat)} {S w ι} (hN : NEx O ids N) {vs us} (h : Ex O ids vs us) : ∀ {xs}, LRel S w ι O vs xs [] → LRel S w (exSpot ι ids) N us xs [] := by
  induction h with
  | nil => intro xs hl; cases hl; exact .nil
  | keep he hs hn _ ih =>
    intro xs hl
    subst he
    obtain ⟨v, vs', f1, f2, rfl, hv, hr, hf⟩ := hl.uncons
    obtain ⟨rfl, rfl⟩ : f1 = [] ∧ f2 = [] := by simpa using hf
    exact LRel.cons (still_any hv hs N (fun _ h => h) (fun _ _ => rfl) (fun _ _ => rfl)) (ih hr)
  | @own id ep off len len' j ob vs us hj ho he hlen _ ih =>
    intro xs hl
    subst hlen
    cases hl with
    | own a b c r =>
      rw [ho] at a; cases a
      have hjl : j < N.length := by rw [← hN.len]; exact (List.getElem?_eq_some_iff.1 hj).1
      obtain ⟨h0, hc⟩ := hN.at (List.getElem?_eq_getElem hjl)
      rcases hc with ⟨h1, _⟩ | ⟨id2, ob2, h1, h2, h3, _, h5, _⟩
      · rw [hj] at h1; cases h1
      · rw [hj] at h1; cases h1
        rw [ho] at h2; cases h2
        exact .own (List.getElem?_eq_getElem hjl) (by omega) (fun _ => by
          rw [h5]
          show OwnAt (exSpot ι ids j) _ _ _ _
          unfold exSpot; rw [hj]; exact c he.symm) (ih r)
  | @nilO j vs us hj _ ih =>
    intro xs hl
    cases hl with
    | nilS r =>
      have hjl : j < N.length := by rw [← hN.len]; exact (List.getElem?_eq_some_iff.1 hj).1
      obtain ⟨h0, _⟩ := hN.at (List.getElem?_eq_getElem hjl)
      exact .own (List.getElem?_eq_getElem hjl) (by omega) (fun _ => by
        show OwnAt (exSpot ι ids j) _ _ _ _
        unfold exSpot; rw [hj]; exact ⟨rfl, rfl, rfl⟩) (ih r)
  | agg _ _ ih1 ih2 =>
    intro xs hl
    obtain ⟨v, vs', f1, f2, rfl, hv, hr, hf⟩ := hl.uncons
    obtain ⟨rfl, rfl⟩ : f1 = [] ∧ f2 = [] := by simpa using hf
    obtain ⟨us', rfl, ha⟩ := LRel.agg_inv hv
    simpa using LRel.agg (ih1 ha) (ih2 hr)
  | tup _ _ ih1 ih2 =>
    intro xs hl
    obtain ⟨v, vs', f1, f2, rfl, hv, hr, hf⟩ := hl.uncons
    obtain ⟨rfl, rfl⟩ : f1 = [] ∧ f2 = [] := by simpa using hf
    obtain ⟨us', rfl, ha⟩ := LRel.tup_inv hv
    simpa using LRel.tup (ih1 ha) (ih2 hr)
inductive Res (tab : List (Nat × Ty)) (N : List AObj) (r : AV) : Array ResultVar → St → Prop
  | one {r1 V1 T O ids} : ResV tab T O r1 V1 → NEx O ids N → (ids.filterMap id).Nodup → Ex O ids [V1] [r] → Res tab N r #[r1] ⟨T, O⟩
  | two {r1 r2 V1 V2 T O ids} : ResV tab T O r1 V1 → ResV tab T O r2 V2 → NEx O ids N → (ids.filterMap id).Nodup → Ex O ids [.tup [V1, V2]] [r] → Res tab N r #[r1, r2] ⟨T, O⟩
  | three {r1 r2 r3 V1 V2 V3 T O ids} : ResV tab T O r1 V1 → ResV tab T O r2 V2 → ResV tab T O r3 V3 → NEx O ids N → (ids.filterMap id).Nodup → Ex O ids [.tup [V1, V2, V3]] [r] → Res tab N r #[r1, r2, r3] ⟨T, O⟩
def Fin (tab : List (Nat × Ty)) (rs : Array ResultVar) (N : List AObj) (r : AV) : Exit → St → Prop
  | .ret, σ => Res tab N r rs σ
  | .normal, σ => Res tab N r rs σ
  | _, _ => False
theorem Fin.ret {rs : Array ResultVar} {N : List AObj} {r : AV} {σ : St} (h : Res tab N r rs σ) : Fin tab rs N r .ret σ := h
def enumT : Nat → List AV → List (Nat × AV)
  | _, [] => []
  | k, V :: Vs => (k, V) :: enumT (k + 1) Vs
theorem look_enumT (Vs : List AV) (k t : Nat) : look (enumT k Vs) t = if k ≤ t then Vs.getD (t - k) .any else .any := by
  induction Vs generalizing k with
  | nil => simp [enumT, look]
  | cons V Vs ih =>
    unfold enumT
    by_cases h : k = t
    · subst h; rw [look_cons_same]; simp
    · rw [look_cons_other _ _ _ _ h, ih]
      by_cases h2 : k ≤ t
      · rw [if_pos (by omega), if_pos h2]
        rw [show t - k = (t - (k + 1)) + 1 from by omega]
        simp
      · rw [if_neg (by omega), if_neg h2]
theorem Res.out (hP : TabOk P tab) {w0 : World} {S0 : Nat → Prop} {rs : Array ResultVar} {N : List AObj} {r : AV} {σ : St} {a : Act} {w : World} {fn : Func} {gl : ∃ W : World, Laid W ∧ ∀ b, b < NGlb → S0 b ∧ ¬ (fun _ => False) b ∧ b < w0.heap.size ∧ w0.heap[b]? = W.heap[b]?} (hfr : fn.results = rs) (h : Res tab N r rs σ)
    (hr : Rel n 0 ⟨w0, S0, fun _ => False, fun _ => none, gl⟩ σ a w) :
    ∃ v, (results fn a.tmps).run P w = .ok v w ∧ ∃ S' ι F, (∀ b, S0 b → S' b) ∧ (∀ b, S' b → S0 b ∨ w0.heap.size ≤ b) ∧ (∀ b, S' b → b < w.heap.size) ∧ ORel S' w ι N F ∧
      (∀ id, id < N.length → ∀ b ∈ F id, w0.heap.size ≤ b ∧ ¬ S' b ∧ b < w.heap.size) ∧ VRel S' w ι N r v [] ∧ Keeps w0 (fun _ => False) w := by
  obtain ⟨S, ι, F, hr⟩ := hr
  have fin : ∀ {T O ids V v}, σ = ⟨T, O⟩ → NEx O ids N → (ids.filterMap id).Nodup → Ex O ids [V] [r] → VRel S w ι O V v [] →
      ∃ S' ι F, (∀ b, S0 b → S' b) ∧ (∀ b, S' b → S0 b ∨ w0.heap.size ≤ b) ∧ (∀ b, S' b → b < w.heap.size) ∧ ORel S' w ι N F ∧
      (∀ id, id < N.length → ∀ b ∈ F id, w0.heap.size ≤ b ∧ ¬ S' b ∧ b < w.heap.size) ∧ VRel S' w ι N r v [] ∧ Keeps w0 (fun _ => False) w := by
    rintro T O ids V v rfl hN hnd hex hv
    have hids : ∀ (i j id : Nat), ids[i]? = some (some id) → ids[j]? = some (some id) → i = j := by
      clear hN hex hv
      induction ids with
      | nil => intro i j id h; simp at h
      | cons x ids ih =>
        intro i j id hi hj
        cases x with
        | none =>
          cases i with
          | zero => simp at hi
          | succ i => cases j with
            | zero => simp at hj
            | succ j => rw [ih (by simpa using hnd) i j id (by simpa using hi) (by simpa using hj)]
        | some y =>
          have hnd' : y ∉ ids.filterMap _root_.id ∧ (ids.filterMap _root_.id).Nodup := by simpa using hnd
          have mem : ∀ k : Nat, ids[k]? = some (some id) → id ∈ ids.filterMap _root_.id := fun k hk => List.mem_filterMap.2 ⟨some id, List.mem_of_getElem? hk, rfl⟩
          cases i with
          | zero =>
            simp at hi; subst hi
            cases j with
            | zero => rfl
            | succ j => exact (hnd'.1 (mem j (by simpa using hj))).elim
          | succ i => cases j with
            | zero => simp at hj; subst hj; exact (hnd'.1 (mem i (by simpa using hi))).elim
            | succ j => rw [ih hnd'.2 i j id (by simpa using hi) (by simpa using hj)]
    have hcase : ∀ j : Nat, (∃ id, ids[j]? = some (some id) ∧ exSpot ι ids j = ι id ∧ exF F ids j = F id) ∨ ((∀ id, ids[j]? ≠ some (some id)) ∧ exSpot ι ids j = none ∧ exF F ids j = []) := by
      intro j
      unfold exSpot exF
      cases h : ids[j]? with
      | none => exact .inr ⟨by simp, rfl, rfl⟩
      | some o => cases o with
        | none => exact .inr ⟨by simp, rfl, rfl⟩
        | some id => exact .inl ⟨id, rfl, rfl, rfl⟩
    have hlt : ∀ (j id : Nat), j < N.length → ids[j]? = some (some id) → id < O.length := by
      intro j id hj hi
      obtain ⟨_, h1 | ⟨id2, ob2, h1, h2, _⟩⟩ := hN.at (List.getElem?_eq_getElem hj)
      · rw [hi] at h1; cases h1.1
      · rw [hi] at h1; cases h1; exact (List.getElem?_eq_some_iff.1 h2).1
    refine ⟨S, exSpot ι ids, exF F ids, hr.base.1, hr.base.2, hr.stable, ⟨fun j ob' hj => ?_, fun j hj => ?_, fun i j hi hj hij b hb => ?_⟩, fun j hj b hb => ?_, hex.rel hN hv, hr.keeps⟩
    · obtain ⟨h0, h1 | ⟨id2, ob2, h1, h2, h3, h4, h5, h6⟩⟩ := hN.at hj
      · rcases hcase j with ⟨id, h, _⟩ | ⟨_, h, h'⟩
        · rw [h1.1] at h; cases h
        · rw [h, h']; exact ⟨h1.2, rfl⟩
      · rcases hcase j with ⟨id, h, e1, e2⟩ | ⟨h, h'⟩
        · rw [h1] at h; cases h
          rw [e1, e2]
          have ho := hr.objs.obj _ ob2 h2
          unfold ObjAt at ho ⊢
          cases hs : ι id2 with
          | none => rw [hs] at ho; rw [← h3]; exact ho
          | some p =>
            obtain ⟨b, k⟩ := p
            rw [hs] at ho
            obtain ⟨cur', t', fz', f2, q1, q2, q3, q4, q5, q6, q7⟩ := ho
            have q8 : LRel S w (exSpot ι ids) N ob'.cells (cur'.toList.take ob'.cells.length) f2 := by
              rw [h3] at q7
              have hre := Re.same (O := O) (O' := N) (rfl : ob'.cells = ob'.cells) h4
              clear h3
              generalize ob'.cells = cs at *
              generalize (cur'.toList.take cs.length) = xs at *
              clear hre
              have key : ∀ {cs : List AV} {xs f}, cs.all AV.still = true → LRel S w ι O cs xs f → LRel S w (exSpot ι ids) N cs xs f := by
                intro cs
                induction cs with
                | nil => intro xs f _ hl; cases hl; exact .nil
                | cons c cs ih =>
                  intro xs f hs hl
                  simp only [List.all_cons, Bool.and_eq_true] at hs
                  obtain ⟨v, vs', f1, f2, rfl, hv, hr, rfl⟩ := hl.uncons
                  exact LRel.cons (still_any hv hs.1 N (fun _ h => h) (fun _ _ => rfl) (fun _ _ => rfl)) (ih hs.2 hr)
              exact key h4 q7
            refine ⟨cur', t', fz', f2, q1, q2, q3, by rw [← h3]; exact q4, q5, fun e he => ?_, q8⟩
            rcases h6 with h6 | h6
            · rw [h6] at he; cases he
            · exact q6 e (by rw [← h6]; exact he)
        · exact (h _ h1).elim
    · rcases hcase j with ⟨id, h, _, e2⟩ | ⟨_, _, e2⟩
      · rw [e2]; exact hr.objs.nodup id (hlt j id hj h)
      · rw [e2]; simp
    · rcases hcase i with ⟨id1, h1, _, e1⟩ | ⟨_, _, e1⟩ <;> rcases hcase j with ⟨id2, h2, _, e2⟩ | ⟨_, _, e2⟩ <;> rw [e1] at hb <;> rw [e2]
      · exact hr.objs.apart id1 id2 (hlt i id1 hi h1) (hlt j id2 hj h2) (fun e => hij (hids i j id1 h1 (e ▸ h2))) b hb
      · simp
      · simp at hb
      · simp
    · rcases hcase j with ⟨id, h, _, e2⟩ | ⟨_, _, e2⟩
      · rw [e2] at hb
        obtain ⟨q1, q2, q3⟩ := hr.foot id (hlt j id hj h) b hb
        exact ⟨q1.resolve_left (fun h => h), q2, q3⟩
      · rw [e2] at hb; simp at hb
  cases h with
  | one h1 hN hnd hex =>
    obtain ⟨v, hv, hV⟩ := ResV.rel hP hr h1
    exact ⟨v, run_results1 hfr hv, fin rfl hN hnd hex hV⟩
  | two h1 h2 hN hnd hex =>
    obtain ⟨v1, hv1, hV1⟩ := ResV.rel hP hr h1
    obtain ⟨v2, hv2, hV2⟩ := ResV.rel hP hr h2
    exact ⟨_, run_results2 hfr hv1 hv2, fin rfl hN hnd hex (by simpa using LRel.tup (LRel.cons hV1 hV2) .nil)⟩
  | three h1 h2 h3 hN hnd hex =>
    obtain ⟨v1, hv1, hV1⟩ := ResV.rel hP hr h1
    obtain ⟨v2, hv2, hV2⟩ := ResV.rel hP hr h2
    obtain ⟨v3, hv3, hV3⟩ := ResV.rel hP hr h3
    exact ⟨_, run_results3 hfr hv1 hv2 hv3, fin rfl hN hnd hex (by simpa using LRel.tup (LRel.cons hV1 (LRel.cons hV2 hV3)) .nil)⟩
theorem FnC.of_bodyM (hP : TabOk P tab) {f : FuncId} {fn : Func} {c : Code} {args : List AV} {N : List AObj} {r : AV} {k : Nat} (hf : P.funcs[f]? = some fn) (hnt : fn.ntmps = k) (hb : fn.body = some c) (hnm : (fn.name == "runtime.NumGoroutine") = false)
    (hal : args.length ≤ k) (h : ∀ G, (∀ b, ¬ G.M0 b) → WpA P k 0 G c ⟨enumT 0 args, []⟩ (Fin tab fn.results N r)) : FnC P f args N r := by
  refine ⟨⟨fn, hf, by rw [hb]; rfl, hnm⟩, fun w S vs hS hg hl => ?_⟩
  have hvl : vs.length = args.length := hl.len.symm
  refine calls_of_wp hf hb ?_
  have hrel : Rel k 0 ⟨w, S, fun _ => False, fun _ => none, hg.ctx hS fun _ h => h.elim⟩ ⟨enumT 0 args, []⟩ { tmps := vs.toArray ++ Array.replicate (fn.ntmps - vs.toArray.size) undef, defers := [] } w := by
    refine ⟨S, fun _ => none, fun _ => [], rfl, ?_, fun t => ?_, ⟨by simp, by simp, by simp⟩, by simp, ⟨fun _ h => h, fun _ h => .inl h⟩, hS, Keeps.refl _ _, by simp, by simp⟩
    · simp [hnt]; omega
    · show VRel S w _ [] (look (enumT 0 args) t) _ []
      rw [look_enumT]
      simp only [Nat.zero_le, if_true, Nat.sub_zero]
      by_cases ht : t < args.length
      · obtain ⟨x, g, hx, hV, hg⟩ := hl.get (List.getElem?_eq_getElem ht)
        have hg0 : g = [] := List.eq_nil_iff_forall_not_mem.2 fun b hb => by simpa using hg b hb
        subst hg0
        have e1 : args.getD t .any = args[t] := by simp [ht]
        have e2 : (vs.toArray ++ Array.replicate (fn.ntmps - vs.toArray.size) undef).getD t undef = x := by
          have : t < vs.length := by omega
          rw [List.getElem?_eq_getElem this] at hx
          simp only [Option.some.injEq] at hx
          simp [Array.getD_eq_getD_getElem?, Array.getElem?_append, this, hx]
        rw [e1, e2]; exact hV
      · have e1 : args.getD t .any = .any := by simp [List.getElem?_eq_none (Nat.le_of_not_lt ht)]
        rw [e1]; exact .any .nil
  refine wp_mono (h _ (fun _ h => h) _ _ hrel) fun e a' w' ⟨σ', hq, hr'⟩ => ?_
  have hdef : a'.defers = [] := by obtain ⟨_, _, _, h⟩ := hr'; exact h.defers
  cases e with
  | normal =>
    obtain ⟨v, hv, S', ι, F, q⟩ := Res.out hP rfl hq hr'
    exact ⟨hdef, v, hv, v, S', ι, F, rfl, q⟩
  | ret =>
    obtain ⟨v, hv, S', ι, F, q⟩ := Res.out hP rfl hq hr'
    exact ⟨hdef, v, hv, v, S', ι, F, rfl, q⟩
  | _ => exact hq.elim
theorem FnC.of_body (hP : TabOk P tab) {f : FuncId} {fn : Func} {c : Code} {args : List AV} {N : List AObj} {r : AV} {k : Nat} (hf : P.funcs[f]? = some fn) (hnt : fn.ntmps = k) (hb : fn.body = some c) (hnm : (fn.name == "runtime.NumGoroutine") = false)
    (hal : args.length ≤ k) (h : ∀ G, WpA P k 0 G c ⟨enumT 0 args, []⟩ (Fin tab fn.results N r)) : FnC P f args N r := FnC.of_bodyM hP hf hnt hb hnm hal fun G _ => h G
end
end Go.Abs


namespace Go.Abs.K
open Go Go.Abs
variable {P : Program} {n m : Nat} {G : Ctx} {σ : St} {Q : Exit → St → Prop} {md : Bool} {ops : Array Oper} {l : List Oper} {dd : Option Nat} {tt : TypeId} {pos : String} {after : Array Edge}
theorem L {o : Oper} (h : WpL P n m G md ops (o :: l) σ Q) : WpL P n m G md ops (o :: l) σ Q := h
theorem A {c : Code} (h : WpA P n m G c σ Q) : WpA P n m G c σ Q := h
theorem cond {x : Operand} {c d : Code} (h : WpA P n m G (.cond x c d) σ Q) : WpA P n m G (.cond x c d) σ Q := h
theorem mv {x : Operand} (h : WpL P n m G md ops ({ dst := dd, op := .move x, type := tt, pos := pos, after := after, guard := none } :: l) σ Q) : WpL P n m G md ops ({ dst := dd, op := .move x, type := tt, pos := pos, after := after, guard := none } :: l) σ Q := h
theorem asg {x : Operand} (h : WpL P n m G md ops ({ dst := dd, op := .assign x, type := tt, pos := pos, after := after, guard := none } :: l) σ Q) : WpL P n m G md ops ({ dst := dd, op := .assign x, type := tt, pos := pos, after := after, guard := none } :: l) σ Q := h
theorem bin {b : BinOp} {t u : TypeId} {x y : Operand} (h : WpL P n m G md ops ({ dst := dd, op := .binOp b t x y u, type := tt, pos := pos, after := after, guard := none } :: l) σ Q) : WpL P n m G md ops ({ dst := dd, op := .binOp b t x y u, type := tt, pos := pos, after := after, guard := none } :: l) σ Q := h
theorem un {b : UnOp} {t : TypeId} {x : Operand} (h : WpL P n m G md ops ({ dst := dd, op := .unOp b t x, type := tt, pos := pos, after := after, guard := none } :: l) σ Q) : WpL P n m G md ops ({ dst := dd, op := .unOp b t x, type := tt, pos := pos, after := after, guard := none } :: l) σ Q := h
theorem ld {t : TypeId} {x : Operand} (h : WpL P n m G md ops ({ dst := dd, op := .load t x, type := tt, pos := pos, after := after, guard := none } :: l) σ Q) : WpL P n m G md ops ({ dst := dd, op := .load t x, type := tt, pos := pos, after := after, guard := none } :: l) σ Q := h
theorem call {x : Operand} {xs : Array Operand} {ats : Array TypeId} (h : WpL P n m G md ops ({ dst := dd, op := .call { callee := .value x, args := xs, argTypes := ats }, type := tt, pos := pos, after := after, guard := none } :: l) σ Q) : WpL P n m G md ops ({ dst := dd, op := .call { callee := .value x, args := xs, argTypes := ats }, type := tt, pos := pos, after := after, guard := none } :: l) σ Q := h
theorem bi {b : Builtin} {xs : Array Operand} {ats : Array TypeId} (h : WpL P n m G md ops ({ dst := dd, op := .call { callee := .builtin b, args := xs, argTypes := ats }, type := tt, pos := pos, after := after, guard := none } :: l) σ Q) : WpL P n m G md ops ({ dst := dd, op := .call { callee := .builtin b, args := xs, argTypes := ats }, type := tt, pos := pos, after := after, guard := none } :: l) σ Q := h
theorem ixa {t : TypeId} {x y : Operand} (h : WpL P n m G md ops ({ dst := dd, op := .indexAddr t x y, type := tt, pos := pos, after := after, guard := none } :: l) σ Q) : WpL P n m G md ops ({ dst := dd, op := .indexAddr t x y, type := tt, pos := pos, after := after, guard := none } :: l) σ Q := h
theorem ix {t : TypeId} {x y : Operand} (h : WpL P n m G md ops ({ dst := dd, op := .index t x y, type := tt, pos := pos, after := after, guard := none } :: l) σ Q) : WpL P n m G md ops ({ dst := dd, op := .index t x y, type := tt, pos := pos, after := after, guard := none } :: l) σ Q := h
theorem fld {t : TypeId} {x : Operand} {k : Nat} (h : WpL P n m G md ops ({ dst := dd, op := .fieldAddr t x k, type := tt, pos := pos, after := after, guard := none } :: l) σ Q) : WpL P n m G md ops ({ dst := dd, op := .fieldAddr t x k, type := tt, pos := pos, after := after, guard := none } :: l) σ Q := h
theorem pick {x y z : Operand} (h : WpL P n m G md ops ({ dst := dd, op := .pick x y z, type := tt, pos := pos, after := after, guard := none } :: l) σ Q) : WpL P n m G md ops ({ dst := dd, op := .pick x y z, type := tt, pos := pos, after := after, guard := none } :: l) σ Q := h
theorem ext {x : Operand} {k : Nat} (h : WpL P n m G md ops ({ dst := dd, op := .extract x k, type := tt, pos := pos, after := after, guard := none } :: l) σ Q) : WpL P n m G md ops ({ dst := dd, op := .extract x k, type := tt, pos := pos, after := after, guard := none } :: l) σ Q := h
theorem cv {t u : TypeId} {x : Operand} (h : WpL P n m G md ops ({ dst := dd, op := .convert t u x, type := tt, pos := pos, after := after, guard := none } :: l) σ Q) : WpL P n m G md ops ({ dst := dd, op := .convert t u x, type := tt, pos := pos, after := after, guard := none } :: l) σ Q := h
theorem all {t : TypeId} (h : WpL P n m G md ops ({ dst := dd, op := .alloc t, type := tt, pos := pos, after := after, guard := none } :: l) σ Q) : WpL P n m G md ops ({ dst := dd, op := .alloc t, type := tt, pos := pos, after := after, guard := none } :: l) σ Q := h
theorem box {t : TypeId} {x : Operand} (h : WpL P n m G md ops ({ dst := dd, op := .box t x, type := tt, pos := pos, after := after, guard := none } :: l) σ Q) : WpL P n m G md ops ({ dst := dd, op := .box t x, type := tt, pos := pos, after := after, guard := none } :: l) σ Q := h
theorem lit {t : TypeId} {k : Nat} {xs : Array (Nat × Operand)} (h : WpL P n m G md ops ({ dst := dd, op := .buildSlice t k xs, type := tt, pos := pos, after := after, guard := none } :: l) σ Q) : WpL P n m G md ops ({ dst := dd, op := .buildSlice t k xs, type := tt, pos := pos, after := after, guard := none } :: l) σ Q := h
theorem bld {t : TypeId} {xs : Array (Nat × Operand)} (h : WpL P n m G md ops ({ dst := dd, op := .build t xs, type := tt, pos := pos, after := after, guard := none } :: l) σ Q) : WpL P n m G md ops ({ dst := dd, op := .build t xs, type := tt, pos := pos, after := after, guard := none } :: l) σ Q := h
theorem sl {t : TypeId} {x : Operand} {lo hi mx : Option Operand} (h : WpL P n m G md ops ({ dst := dd, op := .slice t x lo hi mx, type := tt, pos := pos, after := after, guard := none } :: l) σ Q) : WpL P n m G md ops ({ dst := dd, op := .slice t x lo hi mx, type := tt, pos := pos, after := after, guard := none } :: l) σ Q := h
theorem ms {t : TypeId} {x y : Operand} (h : WpL P n m G md ops ({ dst := dd, op := .makeSlice t x y, type := tt, pos := pos, after := after, guard := none } :: l) σ Q) : WpL P n m G md ops ({ dst := dd, op := .makeSlice t x y, type := tt, pos := pos, after := after, guard := none } :: l) σ Q := h
theorem st {t : TypeId} {x y : Operand} (h : WpL P n m G md ops ({ dst := dd, op := .store t x y, type := tt, pos := pos, after := after, guard := none } :: l) σ Q) : WpL P n m G md ops ({ dst := dd, op := .store t x y, type := tt, pos := pos, after := after, guard := none } :: l) σ Q := h
theorem gd {op : Op} {g : Nat × Bool} (h : WpL P n m G md ops ({ dst := dd, op := op, type := tt, pos := pos, after := after, guard := some g } :: l) σ Q) : WpL P n m G md ops ({ dst := dd, op := op, type := tt, pos := pos, after := after, guard := some g } :: l) σ Q := h
theorem tyStr {tab : List (Nat × Ty)} (hP : TabOk P tab) {t : Nat} (ht : tlook tab t = some .string) : P.underlying t = some .string := (hP.ty ht).1
theorem tyBool {tab : List (Nat × Ty)} (hP : TabOk P tab) {t : Nat} (ht : tlook tab t = some .bool) : P.underlying t = some .bool := (hP.ty ht).1
theorem tyInt {tab : List (Nat × Ty)} (hP : TabOk P tab) {t : Nat} {k : IntKind} (ht : tlook tab t = some (.int k)) : P.underlying t = some (.int k) := (hP.ty ht).1
section
variable {T : List (Nat × AV)} {O : List AObj} {op : Op} {j t : Nat} {want : Bool}
theorem gT (hj : ((ops[j]?).bind (·.dst)) = some t) (htn : t < n) (ht : look T t = .sc (.bool want)) (h : WpL P n m G md ops ({ dst := dd, op := op, type := tt, pos := pos, after := after, guard := none } :: l) ⟨T, O⟩ Q) :
    WpL P n m G md ops ({ dst := dd, op := op, type := tt, pos := pos, after := after, guard := some (j, want) } :: l) ⟨T, O⟩ Q := WpL.guardT (σ := ⟨T, O⟩) rfl hj htn ht h
theorem gF {d : Nat} (hj : ((ops[j]?).bind (·.dst)) = some t) (htn : t < n) (ht : look T t = .sc (.bool !want)) (h : WpL P n m G md ops l ⟨(d, .any) :: T, O⟩ Q) :
    WpL P n m G md ops ({ dst := some d, op := op, type := tt, pos := pos, after := after, guard := some (j, want) } :: l) ⟨T, O⟩ Q := WpL.guardF (σ := ⟨T, O⟩) rfl hj htn ht rfl h
theorem gS {b : Bool} (hj : ((ops[j]?).bind (·.dst)) = some t) (ht : look T t = .sc (.bool b))
    (h1 : b = true → WpL P n m G md ops ({ dst := dd, op := op, type := tt, pos := pos, after := after, guard := some (j, want) } :: l) ⟨(t, .sc (.bool true)) :: T, O⟩ Q)
    (h2 : b = false → WpL P n m G md ops ({ dst := dd, op := op, type := tt, pos := pos, after := after, guard := some (j, want) } :: l) ⟨(t, .sc (.bool false)) :: T, O⟩ Q) :
    WpL P n m G md ops ({ dst := dd, op := op, type := tt, pos := pos, after := after, guard := some (j, want) } :: l) ⟨T, O⟩ Q := WpL.guardS (σ := ⟨T, O⟩) rfl hj ht h1 h2
theorem gD {p : Prop} [Decidable p] (hj : ((ops[j]?).bind (·.dst)) = some t) (ht : look T t = .sc (.bool (decide p)))
    (h1 : p → WpL P n m G md ops ({ dst := dd, op := op, type := tt, pos := pos, after := after, guard := some (j, want) } :: l) ⟨(t, .sc (.bool true)) :: T, O⟩ Q)
    (h2 : ¬ p → WpL P n m G md ops ({ dst := dd, op := op, type := tt, pos := pos, after := after, guard := some (j, want) } :: l) ⟨(t, .sc (.bool false)) :: T, O⟩ Q) :
    WpL P n m G md ops ({ dst := dd, op := op, type := tt, pos := pos, after := after, guard := some (j, want) } :: l) ⟨T, O⟩ Q := WpL.guardD (σ := ⟨T, O⟩) rfl hj ht h1 h2
theorem gN {p : Prop} [Decidable p] (hj : ((ops[j]?).bind (·.dst)) = some t) (ht : look T t = .sc (.bool (!decide p)))
    (h1 : ¬ p → WpL P n m G md ops ({ dst := dd, op := op, type := tt, pos := pos, after := after, guard := some (j, want) } :: l) ⟨(t, .sc (.bool true)) :: T, O⟩ Q)
    (h2 : p → WpL P n m G md ops ({ dst := dd, op := op, type := tt, pos := pos, after := after, guard := some (j, want) } :: l) ⟨(t, .sc (.bool false)) :: T, O⟩ Q) :
    WpL P n m G md ops ({ dst := dd, op := op, type := tt, pos := pos, after := after, guard := some (j, want) } :: l) ⟨T, O⟩ Q := WpL.guardN (σ := ⟨T, O⟩) rfl hj ht h1 h2
end
end Go.Abs.K
namespace Go.Abs
open Go
section
variable {P : Program} {n m : Nat} {G : Ctx} {T : List (Nat × AV)} {O : List AObj} {Q : Exit → St → Prop} {ops : Array Oper} {l : List Oper} {d : Nat} {tt : TypeId} {pos : String} {after : Array Edge} {tab : List (Nat × Ty)}
theorem WpL.storeInts (hP : TabOk P tab) {t : Nat} {ty : Ty} {x y : Operand} {id ep off sz : Nat} {et : Option TypeId} {xs : List Int} {v : Int} (ht : tlook tab t = some ty) (hx : av T x = .ptr id ep off)
    (ho : O[id]? = some ⟨ints xs, ep, sz, et⟩) (hy : av T y = (fun v : Int => AV.sc (.int .i64 v)) v) (hk : ty.cellsN = some 1) (hle : off < xs.length)
    (h : WpL P n m G false ops l ⟨T, O.set id ⟨ints (xs.set off v), ep, sz, et⟩⟩ Q) :
    WpL P n m G false ops ({ dst := none, op := .store t x y, type := tt, pos := pos, after := after, guard := none } :: l) ⟨T, O⟩ Q :=
  WpL.store hP ht hx ho rfl (V := (fun v : Int => AV.sc (.int .i64 v)) v) (Vs := [(fun v : Int => AV.sc (.int .i64 v)) v]) (by rw [hy]; rfl) rfl hk (by simp [oneB, Value.oneCell']) (by simp; omega) (by
    have e : setL (ints xs) off [(fun v : Int => AV.sc (.int .i64 v)) v] = ints (xs.set off v) := by simp [setL, ints, List.map_set]
    simp only [e]; exact h)
end
end Go.Abs
namespace Go.Abs
open Go
section
variable {P : Program} {n m : Nat} {G : Ctx} {T : List (Nat × AV)} {O : List AObj} {Q : Exit → St → Prop} {ops : Array Oper} {l : List Oper} {d : Nat} {tt : TypeId} {pos : String} {after : Array Edge} {tab : List (Nat × Ty)}
theorem WpL.app1Ints (hP : TabOk P tab) {t e b : Nat} {zs : List AV} {xs : List Int} {v : Int} {x y : Operand} {id ep len : Nat} {Vy : AV} (ht : tlook tab t = some (.slice e 1 b zs)) (hx : av T x = .own id ep 0 len)
    (ho : O[id]? = some ⟨ints xs, ep, 1, some e⟩) (hm : m ≤ id) (hy : (av T y).force = some Vy) (hs : srcB O Vy = some ([.sc (.int .i64 v)], 1)) (hol : xs.length = len)
    (hb : (len + 1) * b ≤ 140737488355328 ∧ len + 1 ≤ 9223372036854775807) (hn : d < n)
    (h : WpL P n m G false ops l ⟨(d, .own id (ep + 1) 0 (len + 1)) :: T, O.set id ⟨ints (xs ++ [v]), ep + 1, 1, some e⟩⟩ Q) :
    WpL P n m G false ops ({ dst := some d, op := .call { callee := .builtin .append, args := #[x, y], argTypes := #[t, t] }, type := tt, pos := pos, after := after, guard := none } :: l) ⟨T, O⟩ Q :=
  WpL.appOwn hP ht hx ho rfl rfl rfl (by simp [hol]) hm hy hs rfl (by simp [oneB, Value.oneCell']) hb hn (by
    have e2 : ints xs ++ [.sc (.int .i64 v)] = ints (xs ++ [v]) := by simp [ints]
    simp only [e2]; exact h)
theorem WpL.app1Strs (hP : TabOk P tab) {t e b : Nat} {zs : List AV} {xs : List (List UInt8)} {v : (List UInt8)} {x y : Operand} {id ep len : Nat} {Vy : AV} (ht : tlook tab t = some (.slice e 1 b zs)) (hx : av T x = .own id ep 0 len)
    (ho : O[id]? = some ⟨strs xs, ep, 1, some e⟩) (hm : m ≤ id) (hy : (av T y).force = some Vy) (hs : srcB O Vy = some ([.sc (.string ⟨v.toArray⟩)], 1)) (hol : xs.length = len)
    (hb : (len + 1) * b ≤ 140737488355328 ∧ len + 1 ≤ 9223372036854775807) (hn : d < n)
    (h : WpL P n m G false ops l ⟨(d, .own id (ep + 1) 0 (len + 1)) :: T, O.set id ⟨strs (xs ++ [v]), ep + 1, 1, some e⟩⟩ Q) :
    WpL P n m G false ops ({ dst := some d, op := .call { callee := .builtin .append, args := #[x, y], argTypes := #[t, t] }, type := tt, pos := pos, after := after, guard := none } :: l) ⟨T, O⟩ Q :=
  WpL.appOwn hP ht hx ho rfl rfl rfl (by simp [hol]) hm hy hs rfl (by simp [oneB, Value.oneCell']) hb hn (by
    have e2 : strs xs ++ [.sc (.string ⟨v.toArray⟩)] = strs (xs ++ [v]) := by simp [strs]
    simp only [e2]; exact h)
end
end Go.Abs
namespace Go.Abs
open Go
section
variable {P : Program} {n m : Nat} {G : Ctx} {T : List (Nat × AV)} {O : List AObj} {Q : Exit → St → Prop} {ops : Array Oper} {l : List Oper} {d : Nat} {tt : TypeId} {pos : String} {after : Array Edge} {tab : List (Nat × Ty)}
theorem WpL.lit0Ints (hP : TabOk P tab) {t e b id : Nat} {ps : Array (Nat × Operand)} (ht : tlook tab t = some (.slice e 1 b [.sc (.int .i64 0)])) (hps : ps.toList = []) (hid : nid O 0 = some id) (hn : d < n)
    (h : WpL P n m G false ops l ⟨(d, .own id 0 0 0) :: T, O ++ [⟨ints [], 0, 1, some e⟩]⟩ Q) :
    WpL P n m G false ops ({ dst := some d, op := .buildSlice t 0 ps, type := tt, pos := pos, after := after, guard := none } :: l) ⟨T, O⟩ Q := by
  have e1 : ps = ([] : List (Nat × Operand)).toArray := by rw [← hps]
  rw [e1]
  exact WpL.lit hP ht rfl rfl .nil (by decide) hid hn h
end
end Go.Abs
namespace Go.Abs
open Go
section
variable {P : Program} {n m : Nat} {G : Ctx} {T : List (Nat × AV)} {O : List AObj} {Q : Exit → St → Prop} {ops : Array Oper} {l : List Oper} {d : Nat} {tt : TypeId} {pos : String} {after : Array Edge} {tab : List (Nat × Ty)}
def litC (T : List (Nat × AV)) (O : List AObj) (k : Nat) : List Operand → Option (List AV)
  | [] => some []
  | x :: xs => match (av T x).force with
    | none => none
    | some V => match oneB O V && Nat.beq k 1 with
      | true => match litC T O k xs with
        | none => none
        | some cs => some (V :: cs)
      | false => match cellsV O V with
        | none => none
        | some ds => match Nat.beq ds.length k with
          | false => none
          | true => match litC T O k xs with
            | none => none
            | some cs => some (ds ++ cs)
theorem litC_lit {k : Nat} : ∀ {xs : List Operand} {cs : List AV}, litC T O k xs = some cs → Lit T O k xs cs
  | [], cs, h => by simp only [litC, Option.some.injEq] at h; subst h; exact .nil
  | x :: xs, cs, h => by
    simp only [litC] at h
    split at h
    · simp at h
    · rename_i V hV
      split at h
      · rename_i hb
        simp only [Bool.and_eq_true] at hb
        split at h
        · simp at h
        · rename_i cs' hc
          simp only [Option.some.injEq] at h; subst h
          exact .one hV hb.1 (Nat.eq_of_beq_eq_true hb.2) (litC_lit hc)
      · split at h
        · simp at h
        · rename_i ds hds
          split at h
          · simp at h
          · rename_i hlen
            split at h
            · simp at h
            · rename_i cs' hc
              simp only [Option.some.injEq] at h; subst h
              exact .cons hV hds (Nat.eq_of_beq_eq_true hlen) (litC_lit hc)
theorem WpL.litF (hP : TabOk P tab) {t e k b len id : Nat} {zs cs : List AV} {parts : List (Nat × Operand)} (ht : tlook tab t = some (.slice e k b zs)) (hidx : parts.map (·.1) = List.range' 0 parts.length) (hlen : parts.length = len)
    (hlit : litC T O k (parts.map (·.2)) = some cs) (hsm : len * k ≤ 16777216) (hid : nid O 0 = some id) (hn : d < n)
    (h : WpL P n m G false ops l ⟨(d, .own id 0 0 len) :: T, O ++ [⟨cs, 0, k, some e⟩]⟩ Q) :
    WpL P n m G false ops ({ dst := some d, op := .buildSlice t len parts.toArray, type := tt, pos := pos, after := after, guard := none } :: l) ⟨T, O⟩ Q :=
  WpL.lit hP ht hidx hlen (litC_lit hlit) hsm hid hn h
end
end Go.Abs
namespace Go.Abs
open Go
section
variable {P : Program} {n m : Nat} {G : Ctx} {T : List (Nat × AV)} {O : List AObj} {Q : Exit → St → Prop} {ops : Array Oper} {l : List Oper} {d : Nat} {tt : TypeId} {pos : String} {after : Array Edge} {tab : List (Nat × Ty)}
end
end Go.Abs


namespace Go.Abs
open Go
def Only (σ : St) : Exit → St → Prop
  | .normal, σ' => σ' = σ
  | _, _ => False
theorem Only.mk {σ σ' : St} (h : σ' = σ) : Only σ .normal σ' := h
def deps (fs : List (Nat × AV)) (o : Oper) : List (Nat × AV) := o.after.toList.filterMap fun e => if Region.binds .any e = true then fs[e.on]? else none
inductive HeadJ (P : Program) (n m : Nat) (G : Ctx) (ops : Array Oper) (T0 : List (Nat × AV)) (O : List AObj) : List (Nat × AV) → List Oper → List (Nat × AV) → Prop
  | nil {fs} : HeadJ P n m G ops T0 O fs [] fs
  | cons {fs out : List (Nat × AV)} {o : Oper} {l : List Oper} {d : Nat} {V : AV} {F : List (Nat × AV)} (hd : o.dst = some d) (hF : deps fs o = F)
      (h : ∀ Tv, WpL P n m G false ops [o] ⟨F ++ (T0 ++ Tv), O⟩ (Only ⟨(d, V) :: (F ++ (T0 ++ Tv)), O⟩)) (r : HeadJ P n m G ops T0 O (fs ++ [(d, V)]) l out) : HeadJ P n m G ops T0 O fs (o :: l) out
section
variable {P : Program} {n m : Nat} {G : Ctx} {ops : Array Oper} {T0 : List (Nat × AV)} {O : List AObj}
theorem HeadJ.pre {fs l out} (h : HeadJ P n m G ops T0 O fs l out) : ∃ r, out = fs ++ r ∧ r.length = l.length := by
  induction h with
  | nil => exact ⟨[], by simp, rfl⟩
  | @cons fs out o l d V F _ _ _ _ ih => obtain ⟨r, h1, h2⟩ := ih; exact ⟨(d, V) :: r, by rw [h1]; simp, by simp [h2]⟩
theorem HeadJ.at {fs l out} (h : HeadJ P n m G ops T0 O fs l out) : ∀ {j : Nat} {o : Oper}, l[j]? = some o → ∃ d V, o.dst = some d ∧ out[fs.length + j]? = some (d, V) ∧
    ∀ Tv, WpL P n m G false ops [o] ⟨deps (out.take (fs.length + j)) o ++ (T0 ++ Tv), O⟩ (Only ⟨(d, V) :: (deps (out.take (fs.length + j)) o ++ (T0 ++ Tv)), O⟩) := by
  induction h with
  | nil => intro j o h; simp at h
  | @cons fs out o l d V F hd hF h r ih =>
    intro j o' hj
    obtain ⟨r', h1, h2⟩ := r.pre
    cases j with
    | zero =>
      simp only [List.getElem?_cons_zero, Option.some.injEq] at hj
      subst hj
      refine ⟨d, V, hd, by rw [h1]; simp, ?_⟩
      have : out.take (fs.length + 0) = fs := by rw [h1, Nat.add_zero, List.append_assoc, List.take_left']; rfl
      rw [this, hF]; exact h
    | succ j =>
      have := ih (j := j) (o := o') (by simpa using hj)
      rw [List.length_append, List.length_singleton, Nat.add_assoc, Nat.add_comm 1 j] at this
      exact this
def has (A : List (Nat × AV)) (t : Nat) : Bool := A.any fun p => Nat.beq p.1 t
theorem look_append (A B : List (Nat × AV)) (t : Nat) : look (A ++ B) t = if has A t = true then look A t else look B t := by
  induction A with
  | nil => simp [has]
  | cons p A ih =>
    obtain ⟨k, V⟩ := p
    by_cases h : k = t
    · subst h; simp [has, look_cons_same]
    · rw [List.cons_append, look_cons_other _ _ _ _ h, look_cons_other _ _ _ _ h, ih]
      have : Nat.beq k t = false := by rw [← Bool.not_eq_true]; intro h'; exact h (Nat.eq_of_beq_eq_true h')
      simp only [has, List.any_cons, this, Bool.false_or]
      rfl
theorem has_look {A : List (Nat × AV)} {t : Nat} (h : has A t = true) : (t, look A t) ∈ A := by
  induction A with
  | nil => simp [has] at h
  | cons p A ih =>
    obtain ⟨k, V⟩ := p
    by_cases hk : k = t
    · subst hk; rw [look_cons_same]; simp
    · rw [look_cons_other _ _ _ _ hk]
      refine List.mem_cons_of_mem _ (ih ?_)
      have : Nat.beq k t = false := by rw [← Bool.not_eq_true]; intro h'; exact hk (Nat.eq_of_beq_eq_true h')
      simpa [has, this] using h
theorem has_mem {A : List (Nat × AV)} {t : Nat} {V : AV} (h : (t, V) ∈ A) : has A t = true := by
  simp only [has, List.any_eq_true]
  exact ⟨_, h, by simp⟩
theorem Rel.relook {T T' : List (Nat × AV)} {a w} (h : Rel n m G ⟨T, O⟩ a w) (he : ∀ t, look T' t = look T t) : Rel n m G ⟨T', O⟩ a w := by
  obtain ⟨S, ι, F, hr⟩ := h
  exact ⟨S, ι, F, hr.defers, hr.size, fun t => by rw [show look (St.mk T' O).T t = look T t from he t]; exact hr.tmps t, hr.objs, hr.foot, hr.base, hr.stable, hr.keeps, hr.spots, hr.mle⟩
structure Heads (ops : Array Oper) (T0 out : List (Nat × AV)) (k : Nat) : Prop where
  len : out.length = k
  nodup : (out.map (·.1)).Nodup
  fresh : ∀ p, p ∈ out → has T0 p.1 = false
  back : ∀ i, i < k → ∀ o, ops[i]? = some o → ∀ e ∈ o.after, Region.binds .any e = true → e.on < i
def Good (n m : Nat) (G : Ctx) (T0 out : List (Nat × AV)) (O : List AObj) (listed : Array Bool) (a : Act) (w : World) : Prop :=
  ∃ T, Rel n m G ⟨T, O⟩ a w ∧ (∀ (i d : Nat) (V : AV), out[i]? = some (d, V) → listed.getD i false = true → look T d = V) ∧ ∀ t, has out t = false → look T t = look T0 t
theorem out_inj {out : List (Nat × AV)} (h : (out.map (·.1)).Nodup) {i j d : Nat} {V W : AV} (hi : out[i]? = some (d, V)) (hj : out[j]? = some (d, W)) : i = j := by
  have hi' := (List.getElem?_eq_some_iff.1 hi).1
  refine (List.getElem?_inj (l := out.map (·.1)) (by simpa using hi') h).1 ?_
  simp [hi, hj]
theorem head_step {out : List (Nat × AV)} {k : Nat} (H : Heads ops T0 out k) {Q : Exit → Act → World → Prop} (hJ : ∀ {j : Nat} {o : Oper}, j < k → ops[j]? = some o → ∃ d V, o.dst = some d ∧ out[j]? = some (d, V) ∧
      ∀ Tv, WpL P n m G false ops [o] ⟨deps (out.take j) o ++ (T0 ++ Tv), O⟩ (Only ⟨(d, V) :: (deps (out.take j) o ++ (T0 ++ Tv)), O⟩))
    {listed : Array Bool} (inv : HeadInv .any ops k listed) {i : Nat} (hi : i ∈ Region.ready .any ops listed) (hik : i < k) {a w} (hg : Good n m G T0 out O listed a w) {K : Act → World → Prop}
    (hK : ∀ a' w', Good n m G T0 out O (listed.setIfInBounds i true) a' w' → K a' w') : wpOp P ops Q i K a w := by
  obtain ⟨hun, o, ho, hall⟩ := mem_ready.1 hi
  obtain ⟨T, hr, h1, h2⟩ := hg
  obtain ⟨d, V, hd, hout, hw⟩ := hJ hik ho
  have hF : ∀ t U, (t, U) ∈ deps (out.take i) o → look T t = U := by
    intro t U hm
    simp only [deps, List.mem_filterMap] at hm
    obtain ⟨e, he, hx⟩ := hm
    split at hx
    · rename_i hb
      have he' : e ∈ o.after := by simpa using he
      have hx' : out[e.on]? = some (t, U) := by
        rw [List.getElem?_take] at hx
        split at hx
        · exact hx
        · simp at hx
      exact h1 _ _ _ hx' (hall e he' hb)
    · simp at hx
  have same : ∀ t, look (deps (out.take i) o ++ (T0 ++ T)) t = look T t := by
    intro t
    rw [look_append]
    split
    · rename_i h; exact (hF _ _ (has_look h)).symm
    · rw [look_append]
      split
      · rename_i h
        refine (h2 t ?_).symm
        cases hc : has out t with
        | false => rfl
        | true => have := H.fresh _ (has_look hc); simp only at this; rw [this] at h; cases h
      · rfl
  have hw' := hw T a w (hr.relook same)
  simp only at hw'
  have good : ∀ a' w', Rel n m G ⟨(d, V) :: (deps (out.take i) o ++ (T0 ++ T)), O⟩ a' w' → Good n m G T0 out O (listed.setIfInBounds i true) a' w' := by
    intro a' w' hr'
    refine ⟨_, hr', fun j d' V' hj hl => ?_, fun t ht => ?_⟩
    · by_cases hij : i = j
      · subst hij; rw [hout] at hj; cases hj; exact look_cons_same _ _ _
      · rw [getD_set_ne false hij] at hl
        have hne : d ≠ d' := by rintro rfl; exact hij (out_inj H.nodup hout hj)
        rw [look_cons_other _ _ _ _ hne, same]
        exact h1 _ _ _ hj hl
    · have hne : d ≠ t := by
        rintro rfl
        have := has_mem (List.mem_of_getElem? hout)
        rw [ht] at this; cases this
      rw [look_cons_other _ _ _ _ hne, same]; exact h2 t ht
  have only : ∀ e a' w', (∃ σ', Only ⟨(d, V) :: (deps (out.take i) o ++ (T0 ++ T)), O⟩ e σ' ∧ Rel n m G σ' a' w') → e = .normal ∧ K a' w' := by
    rintro e a' w' ⟨σ', hq, hr'⟩
    cases e <;> first | (simp only [Only] at hq; subst hq; exact ⟨rfl, hK _ _ (good _ _ hr')⟩) | exact hq.elim
  unfold wpOp
  simp only [ho]
  change wpList P ops _ [o] a w at hw'
  unfold wpList at hw'
  by_cases hwant : Region.wanted o (yielded ops a.tmps) = true
  · rw [if_pos hwant] at hw' ⊢
    rcases hw' with hw' | ⟨_, a', w', hx⟩
    · refine .inl ?_
      unfold Oper.wp at hw' ⊢
      generalize (execOp a.eval o).run P w = r at *
      cases r with
      | ok x w1 =>
        cases x <;> simp only [Oper.upon] at hw' ⊢
        case value v => exact (only _ _ _ hw').2
        case skip => exact (only _ _ _ hw').2
        case defer d => exact (only _ _ _ hw').2
        case enter f args =>
          refine hw'.mono fun e w2 h2 => ?_
          cases e with
          | returned v => exact (only _ _ _ h2).2
          | panicked c => exact absurd (only _ _ _ h2).1 (by simp)
          | outgrown => obtain ⟨_, _, hf⟩ := h2; exact absurd (only _ _ _ hf).1 (by simp)
        case row r ar => exact hw'.mono fun v w2 h2 => (only _ _ _ h2).2
      | halt x w1 => cases x <;> simp only [Oper.upon] at hw' ⊢ <;> first | exact absurd (only _ _ _ hw').1 (by simp) | exact hw'.elim | (obtain ⟨_, _, hf⟩ := hw'; exact absurd (only _ _ _ hf).1 (by simp))
    · exact absurd (only _ _ _ hx).1 (by simp)
  · rw [if_neg hwant] at hw' ⊢
    exact (only _ _ _ hw').2
theorem head_any {out : List (Nat × AV)} {k g : Nat} (H : Heads ops T0 out k) (hks : k ≤ ops.size) (hs : k < ops.size → Region.sinkB .any ops k = true ∧ Region.chainB .any ops k = true)
    (hJ : ∀ {j : Nat} {o : Oper}, j < k → ops[j]? = some o → ∃ d V, o.dst = some d ∧ out[j]? = some (d, V) ∧
      ∀ Tv, WpL P n m G false ops [o] ⟨deps (out.take j) o ++ (T0 ++ Tv), O⟩ (Only ⟨(d, V) :: (deps (out.take j) o ++ (T0 ++ Tv)), O⟩)) {Q : Exit → Act → World → Prop}
    (hT : ∀ listed a w, HeadInv .any ops k listed → (∀ i, i < k → listed.getD i false = true) → Good n m G T0 out O listed a w → wpAny P .any ops Q g listed a w) :
    ∀ (f : Nat) (listed : Array Bool) (a : Act) (w : World), HeadInv .any ops k listed → ((List.range k).filter fun i => !listed.getD i false).length = f → Good n m G T0 out O listed a w →
      wpAny P .any ops Q (f + g) listed a w := by
  intro f
  induction f with
  | zero =>
    intro listed a w inv hc hg
    rw [Nat.zero_add]
    refine hT listed a w inv (fun i hi => ?_) hg
    have h0 := List.eq_nil_of_length_eq_zero hc
    cases hl : listed.getD i false with
    | true => rfl
    | false =>
      have : i ∈ (List.range k).filter fun i => !listed.getD i false := by simp [List.mem_filter, hi]; simpa using hl
      rw [h0] at this; cases this
  | succ f ih =>
    intro listed a w inv hc hg
    have hgetD : ∀ i, i < k → listed.getD i false = false → listed.getD i true = false := fun i hi h => getD_in (by rw [inv.size]; omega) h
    -- the least that is not listed is ready
    have hex : ∃ i, i < k ∧ listed.getD i false = false := by
      cases hl : (List.range k).filter fun i => !listed.getD i false with
      | nil => rw [hl] at hc; simp at hc
      | cons i r =>
        have : i ∈ (List.range k).filter fun i => !listed.getD i false := by rw [hl]; simp
        rw [List.mem_filter, List.mem_range] at this
        exact ⟨i, this.1, by simpa using this.2⟩
    obtain ⟨i0, hi0, hl0⟩ := hex
    have least : ∀ d i, i = d → i < k → listed.getD i false = false → ∃ j, j < k ∧ j ∈ Region.ready .any ops listed := by
      intro d
      induction d using Nat.strongRecOn with
      | _ d ihd =>
        rintro i rfl hi hl
        by_cases hh : ∃ j, j < i ∧ listed.getD j false = false
        · obtain ⟨j, hj, hjl⟩ := hh
          exact ihd j hj j rfl (by omega) hjl
        · have hlt : i < ops.size := by omega
          refine ⟨i, hi, mem_ready.2 ⟨hgetD i hi hl, ops[i], by simp [hlt], fun e he hb => ?_⟩⟩
          have hlt' := H.back i hi _ (by simp [hlt]) e he hb
          cases hx : listed.getD e.on false with
          | true => rfl
          | false => exact (hh ⟨_, hlt', hx⟩).elim
    obtain ⟨j0, hj0, hr0⟩ := least i0 i0 rfl hi0 hl0
    rw [show f + 1 + g = (f + g) + 1 by omega]
    refine ⟨fun h => (by rw [h] at hr0; cases hr0), fun i hi => ?_⟩
    have hik : i < k := by
      rcases Nat.lt_or_ge i k with h | h
      · exact h
      · by_cases hk : k < ops.size
        · exact absurd hi (tail_waits (hs hk).1 (hs hk).2 hk inv _ i0 rfl hi0 (hgetD i0 hi0 hl0) i h)
        · obtain ⟨_, o, ho, _⟩ := mem_ready.1 hi
          have := (Array.getElem?_eq_some_iff.1 ho).1
          omega
    have hiu : listed.getD i false = false := getD_both (mem_ready.1 hi).1
    refine head_step H hJ inv hi hik hg fun a' w' hg' => ih _ _ _ (inv.set hi hik) ?_ hg'
    have key : ∀ (L : List Nat), L.Nodup → i ∈ L → (L.filter fun j => !(listed.setIfInBounds i true).getD j false).length + 1 = (L.filter fun j => !listed.getD j false).length := by
      intro L
      have hself : (listed.setIfInBounds i true).getD i false = true := by
        have : i < listed.size := by rw [inv.size]; omega
        simp [this]
      induction L with
      | nil => intro _ h; cases h
      | cons x L ihL =>
        intro hnd hm
        rw [List.nodup_cons] at hnd
        by_cases hx : x = i
        · subst hx
          have hsame : (L.filter fun j => !(listed.setIfInBounds x true).getD j false) = L.filter fun j => !listed.getD j false := by
            refine List.filter_congr fun j hj => ?_
            rw [getD_set_ne false (by rintro rfl; exact hnd.1 hj)]
          rw [List.filter_cons, List.filter_cons, hsame, hself, hiu]; simp
        · have hm' : i ∈ L := by
            rcases List.mem_cons.1 hm with h | h
            · exact (hx h.symm).elim
            · exact h
          have := ihL hnd.2 hm'
          rw [List.filter_cons, List.filter_cons, getD_set_ne false (Ne.symm hx)]
          split <;> (try simp only [List.length_cons]) <;> omega
    have := key (List.range k) List.nodup_range (List.mem_range.2 hik)
    omega
def nodupB : List Nat → Bool
  | [] => true
  | x :: xs => !(xs.any fun y => Nat.beq y x) && nodupB xs
theorem nodupB_spec {l : List Nat} (h : nodupB l = true) : l.Nodup := by
  induction l with
  | nil => simp
  | cons x xs ih =>
    simp only [nodupB, Bool.and_eq_true, Bool.not_eq_true', List.any_eq_false] at h
    refine List.nodup_cons.2 ⟨fun hm => ?_, ih h.2⟩
    exact h.1 x hm (by simp)
def mixB (ops : Array Oper) (k : Nat) : Bool :=
  decide (k ≤ ops.size) && (List.range k).all (fun i => match ops[i]? with | some o => o.after.toList.all fun e => !Region.binds .any e || decide (e.on < i) | none => true) &&
  (decide (k = ops.size) || (Region.sinkB .any ops k && Region.chainB .any ops k)) && Region.seqB .any ops (ops.size - k) k ((Array.range ops.size).map fun i => decide (i < k))
theorem WpA.regionM {l : List Oper} {id : Nat} {out T1 : List (Nat × AV)} {Q : Exit → St → Prop} (k : Nat) (hm : P.follows .mixedOrders = true) (hB : mixB l.toArray k = true)
    (hJ : HeadJ P n m G l.toArray T0 O [] (l.take k) out) (hnd : nodupB (out.map (·.1)) = true) (hfr : (out.all fun p => !has T0 p.1) = true)
    (hT1 : out ++ T0 = T1) (h : WpL P n m G false l.toArray (l.drop k) ⟨T1, O⟩ Q) : WpA P n m G (.region id l.toArray true) ⟨T0, O⟩ Q := fun a w hr => by
  subst hT1
  simp only [mixB, Bool.and_eq_true, decide_eq_true_eq, Bool.or_eq_true] at hB
  obtain ⟨⟨⟨hks, hback⟩, hsc⟩, hseq⟩ := hB
  have hkl : k ≤ l.length := by simpa using hks
  have htl : (l.take k).length = k := by simp; omega
  obtain ⟨r, hr1, hr2⟩ := hJ.pre
  have hlen : out.length = k := by rw [hr1]; simp [hr2]; omega
  have H : Heads l.toArray T0 out k := ⟨hlen, nodupB_spec hnd, fun p hp => by have := List.all_eq_true.1 hfr p hp; simpa using this, fun i hi o ho e he hb => by
    have h1 := List.all_eq_true.1 hback i (List.mem_range.2 hi)
    rw [ho] at h1
    have h2 := List.all_eq_true.1 h1 e (by simpa using he)
    simp only [Bool.or_eq_true, Bool.not_eq_true', decide_eq_true_eq] at h2
    rcases h2 with h2 | h2
    · rw [hb] at h2; cases h2
    · exact h2⟩
  have hJ' : ∀ {j : Nat} {o : Oper}, j < k → l.toArray[j]? = some o → ∃ d V, o.dst = some d ∧ out[j]? = some (d, V) ∧
      ∀ Tv, WpL P n m G false l.toArray [o] ⟨deps (out.take j) o ++ (T0 ++ Tv), O⟩ (Only ⟨(d, V) :: (deps (out.take j) o ++ (T0 ++ Tv)), O⟩) := by
    intro j o hj ho
    have ho' : (l.take k)[j]? = some o := by rw [List.getElem?_take, if_pos hj]; simpa using ho
    have := hJ.at ho'
    simpa using this
  have inv0 : HeadInv .any l.toArray k (Array.replicate l.toArray.size false) :=
    ⟨by simp, fun j oj _ hl => (by rw [getD_replicate_false] at hl; cases hl), fun t _ ht => getD_in (by simpa using ht) (getD_replicate_false _ _)⟩
  refine wp_region_any hm ?_
  have fin := head_any (P := P) (n := n) (m := m) (G := G) (O := O) (g := l.toArray.size - k) (Q := fun e a' w' => ∃ σ', Q e σ' ∧ Rel n m G σ' a' w') H hks (fun hk => hsc.resolve_left (by omega)) hJ' (fun listed a w inv hall hg => by
    obtain ⟨T, hrT, h1, h2⟩ := hg
    have hlist : listed = (Array.range l.toArray.size).map fun i => decide (i < k) := by
      apply Array.ext
      · simp [inv.size]
      · intro i hi1 hi2
        have hi : i < l.toArray.size := by rw [← inv.size]; exact hi1
        by_cases hik : i < k
        · have := hall i hik
          simp [hi1] at this
          simp [this, hik]
        · have := inv.tail i (by omega) hi
          simp [hi1] at this
          simp [this, hik]
    have hdl : (l.drop k).length = l.toArray.size - k := by simp
    rw [← hdl]
    refine wpAny_of_seq (l.drop k) k listed a w (fun j => by simp [List.getElem?_drop]) (by rw [hdl, hlist]; exact hseq) ?_
    refine h a w (hrT.relook fun t => ?_)
    rw [look_append]
    split
    · rename_i hh
      obtain ⟨i, hi, hi2⟩ := List.getElem_of_mem (has_look hh)
      have : out[i]? = some (t, look out t) := by rw [List.getElem?_eq_getElem hi, hi2]
      exact (h1 i _ _ this (hall i (by omega))).symm
    · rename_i hh
      exact (h2 t (by simpa using hh)).symm) k _ a w.drew inv0 (by
        have : ((List.range k).filter fun i => !(Array.replicate l.toArray.size false).getD i false) = List.range k := by
          rw [List.filter_eq_self]; intro i _; rw [getD_replicate_false]; rfl
        rw [this]; simp) ⟨T0, hr.drew, ⟨fun i d V _ hl => (by rw [getD_replicate_false] at hl; cases hl), fun _ _ => rfl⟩⟩
  rw [show k + (l.toArray.size - k) = l.toArray.size by omega] at fin
  exact fin
end
end Go.Abs
namespace Go.Abs.K
end Go.Abs.K


namespace Go.Abs
open Go
abbrev Fact := Nat × AV × Nat
def ndeps (fs : List Fact) (o : Oper) : List (Nat × AV) := o.after.toList.filterMap fun e => if Region.binds .any e = true then (fs[e.on]?).map fun x => (x.1, x.2.1) else none
def sure (c0 : Nat) (fs : List Fact) (o : Oper) : Nat := o.after.toList.foldl (fun c e => if Region.binds .any e = true then (match fs[e.on]? with | some x => max c x.2.2 | none => c) else c) c0
inductive HeadN (P : Program) (n m : Nat) (G : Ctx) (ops : Array Oper) (T0 : List (Nat × AV)) (c0 : Nat) : List AObj → List Fact → List Oper → List AObj → List Fact → Prop
  | nil {O fs} : HeadN P n m G ops T0 c0 O fs [] O fs
  | pure {O fs o l O' out d V F c Oc} (hd : o.dst = some d) (hF : ndeps fs o = F) (hc : sure c0 fs o = c) (hO : O.take c = Oc)
      (h : ∀ Tv Ov, WpL P n m G false ops [o] ⟨F ++ (T0 ++ Tv), Oc ++ Ov⟩ (Only ⟨(d, V) :: (F ++ (T0 ++ Tv)), Oc ++ Ov⟩)) (r : HeadN P n m G ops T0 c0 O (fs ++ [(d, V, c)]) l O' out) : HeadN P n m G ops T0 c0 O fs (o :: l) O' out
  | prod {O fs o l O' out d V F N} (hd : o.dst = some d) (hF : ndeps fs o = F) (hc : sure c0 fs o = O.length) (hN : N ≠ [])
      (h : ∀ Tv, WpL P n m G false ops [o] ⟨F ++ (T0 ++ Tv), O⟩ (Only ⟨(d, V) :: (F ++ (T0 ++ Tv)), O ++ N⟩)) (r : HeadN P n m G ops T0 c0 (O ++ N) (fs ++ [(d, V, O.length + N.length)]) l O' out) : HeadN P n m G ops T0 c0 O fs (o :: l) O' out
section
variable {P : Program} {n m : Nat} {G : Ctx} {ops : Array Oper} {T0 : List (Nat × AV)}
theorem foldl_sure_le (fs : List Fact) (q : Nat) (L : List Edge) (hL : ∀ e ∈ L, Region.binds .any e = true → ∀ x, fs[e.on]? = some x → x.2.2 ≤ q) : ∀ c0, c0 ≤ q →
    L.foldl (fun c e => if Region.binds .any e = true then (match fs[e.on]? with | some x => max c x.2.2 | none => c) else c) c0 ≤ q := by
  induction L with
  | nil => intro c0 h; exact h
  | cons e L ih =>
    intro c0 h
    rw [List.foldl_cons]
    refine ih (fun e' he' => hL e' (List.mem_cons_of_mem _ he')) _ ?_
    split
    · rename_i hb
      split
      · rename_i x hx; exact Nat.max_le.2 ⟨h, hL e (by simp) hb x hx⟩
      · exact h
    · exact h
theorem foldl_sure_ge (fs : List Fact) (L : List Edge) : ∀ c0, c0 ≤ L.foldl (fun c e => if Region.binds .any e = true then (match fs[e.on]? with | some x => max c x.2.2 | none => c) else c) c0 := by
  induction L with
  | nil => intro c0; exact Nat.le_refl _
  | cons e L ih =>
    intro c0
    rw [List.foldl_cons]
    refine Nat.le_trans ?_ (ih _)
    split
    · split
      · exact Nat.le_max_left _ _
      · exact Nat.le_refl _
    · exact Nat.le_refl _
structure Plan (P : Program) (n m : Nat) (G : Ctx) (ops : Array Oper) (T0 : List (Nat × AV)) (c0 : Nat) (k : Nat) (out : List Fact) (O' : List AObj) (isP : Nat → Bool) (p : Nat → Nat) : Prop where
  len : out.length = k
  nodup : (out.map (·.1)).Nodup
  fresh : ∀ x, x ∈ out → has T0 x.1 = false
  back : ∀ i, i < k → ∀ o, ops[i]? = some o → ∀ e ∈ o.after, Region.binds .any e = true → e.on < i
  pure : ∀ i o d V c, i < k → isP i = false → ops[i]? = some o → out[i]? = some (d, V, c) → o.dst = some d ∧ sure c0 (out.take i) o = c ∧
    ∀ Tv Ov, WpL P n m G false ops [o] ⟨ndeps (out.take i) o ++ (T0 ++ Tv), O'.take c ++ Ov⟩ (Only ⟨(d, V) :: (ndeps (out.take i) o ++ (T0 ++ Tv)), O'.take c ++ Ov⟩)
  prod : ∀ i o d V c, i < k → isP i = true → ops[i]? = some o → out[i]? = some (d, V, c) → o.dst = some d ∧ sure c0 (out.take i) o = p i ∧ p i < c ∧ c ≤ O'.length ∧
    ∀ Tv, WpL P n m G false ops [o] ⟨ndeps (out.take i) o ++ (T0 ++ Tv), O'.take (p i)⟩ (Only ⟨(d, V) :: (ndeps (out.take i) o ++ (T0 ++ Tv)), O'.take c⟩)
  mono : ∀ i j d V c, i < j → j < k → isP i = true → isP j = true → out[i]? = some (d, V, c) → c ≤ p j
  base : c0 ≤ O'.length
  all : ∀ i, i < k → ∃ o, ops[i]? = some o
structure GoodN (n m : Nat) (G : Ctx) (T0 : List (Nat × AV)) (c0 : Nat) (out : List Fact) (O' : List AObj) (isP : Nat → Bool) (listed : Array Bool) (a : Act) (w : World) (T : List (Nat × AV)) (q : Nat) : Prop where
  rel : Rel n m G ⟨T, O'.take q⟩ a w
  facts : ∀ i d V c, out[i]? = some (d, V, c) → listed.getD i false = true → look T d = V
  other : ∀ t, has (out.map fun x => (x.1, x.2.1)) t = false → look T t = look T0 t
  lo : c0 ≤ q
  hi : q ≤ O'.length
  le : ∀ i d V c, out[i]? = some (d, V, c) → listed.getD i false = true → c ≤ q
  top : q = c0 ∨ ∃ i d V, out[i]? = some (d, V, q) ∧ isP i = true ∧ listed.getD i false = true
  down : ∀ i j, i < j → isP i = true → isP j = true → listed.getD j false = true → listed.getD i false = true
theorem outN_inj {out : List Fact} (h : (out.map (·.1)).Nodup) {i j d : Nat} {V W : AV × Nat} (hi : out[i]? = some (d, V)) (hj : out[j]? = some (d, W)) : i = j := by
  have hi' := (List.getElem?_eq_some_iff.1 hi).1
  refine (List.getElem?_inj (l := out.map (·.1)) (by simpa using hi') h).1 ?_
  simp [hi, hj]
theorem wpOp_only {σ0 σ1 : St} {i : Nat} {o : Oper} (ho : ops[i]? = some o) (hw : WpL P n m G false ops [o] σ0 (Only σ1)) {a : Act} {w : World} (hr : Rel n m G σ0 a w) {K : Act → World → Prop}
    (hK : ∀ a' w', Rel n m G σ1 a' w' → K a' w') {Q : Exit → Act → World → Prop} : wpOp P ops Q i K a w := by
  have hw' := hw a w hr
  simp only at hw'
  have only : ∀ e a' w', (∃ σ', Only σ1 e σ' ∧ Rel n m G σ' a' w') → e = .normal ∧ K a' w' := by
    rintro e a' w' ⟨σ', hq, hr'⟩
    cases e <;> first | (simp only [Only] at hq; subst hq; exact ⟨rfl, hK _ _ hr'⟩) | exact hq.elim
  unfold wpOp
  simp only [ho]
  change wpList P ops _ [o] a w at hw'
  unfold wpList at hw'
  by_cases hwant : Region.wanted o (yielded ops a.tmps) = true
  · rw [if_pos hwant] at hw' ⊢
    rcases hw' with hw' | ⟨_, a', w', hx⟩
    · refine .inl ?_
      unfold Oper.wp at hw' ⊢
      generalize (execOp a.eval o).run P w = r at *
      cases r with
      | ok x w1 =>
        cases x <;> simp only [Oper.upon] at hw' ⊢
        case value v => exact (only _ _ _ hw').2
        case skip => exact (only _ _ _ hw').2
        case defer d => exact (only _ _ _ hw').2
        case enter f args =>
          refine hw'.mono fun e w2 h2 => ?_
          cases e with
          | returned v => exact (only _ _ _ h2).2
          | panicked c => exact absurd (only _ _ _ h2).1 (by simp)
          | outgrown => obtain ⟨_, _, hf⟩ := h2; exact absurd (only _ _ _ hf).1 (by simp)
        case row r ar => exact hw'.mono fun v w2 h2 => (only _ _ _ h2).2
      | halt x w1 => cases x <;> simp only [Oper.upon] at hw' ⊢ <;> first | exact absurd (only _ _ _ hw').1 (by simp) | exact hw'.elim | (obtain ⟨_, _, hf⟩ := hw'; exact absurd (only _ _ _ hf).1 (by simp))
    · exact absurd (only _ _ _ hx).1 (by simp)
  · rw [if_neg hwant] at hw' ⊢
    exact (only _ _ _ hw').2
theorem stepN {c0 k : Nat} {out : List Fact} {O' : List AObj} {isP : Nat → Bool} {p : Nat → Nat} (H : Plan P n m G ops T0 c0 k out O' isP p) {listed : Array Bool} (inv : HeadInv .any ops k listed)
    {i : Nat} (hi : i ∈ Region.ready .any ops listed) (hik : i < k) {a w T q} (hg : GoodN n m G T0 c0 out O' isP listed a w T q) {K : Act → World → Prop}
    (hK : ∀ a' w' T' q', GoodN n m G T0 c0 out O' isP (listed.setIfInBounds i true) a' w' T' q' → K a' w') {Q : Exit → Act → World → Prop} : wpOp P ops Q i K a w := by
  obtain ⟨hun, o, ho, hall⟩ := mem_ready.1 hi
  have hunf : listed.getD i false = false := getD_both hun
  have hil : i < out.length := by rw [H.len]; exact hik
  obtain ⟨⟨d, V, c⟩, hout⟩ : ∃ x, out[i]? = some x := ⟨out[i], by simp [hil]⟩
  have hdep : ∀ e ∈ o.after.toList, Region.binds .any e = true → ∀ x, (out.take i)[e.on]? = some x → out[e.on]? = some x ∧ listed.getD e.on false = true := by
    intro e he hb x hx
    rw [List.getElem?_take] at hx
    split at hx
    · exact ⟨hx, hall e (by simpa using he) hb⟩
    · simp at hx
  have hF : ∀ t U, (t, U) ∈ ndeps (out.take i) o → look T t = U := by
    intro t U hm
    simp only [ndeps, List.mem_filterMap] at hm
    obtain ⟨e, he, hx⟩ := hm
    split at hx
    · rename_i hb
      simp only [Option.map_eq_some_iff, Prod.mk.injEq] at hx
      obtain ⟨⟨d', V', c'⟩, hx1, rfl, rfl⟩ := hx
      obtain ⟨h1, h2⟩ := hdep e he hb _ hx1
      exact hg.facts _ _ _ _ h1 h2
    · simp at hx
  have same : ∀ t, look (ndeps (out.take i) o ++ (T0 ++ T)) t = look T t := by
    intro t
    rw [look_append]
    split
    · rename_i h; exact (hF _ _ (has_look h)).symm
    · rw [look_append]
      split
      · rename_i h
        refine (hg.other t ?_).symm
        cases hc : has (out.map fun x => (x.1, x.2.1)) t with
        | false => rfl
        | true =>
          have hm := has_look hc
          simp only [List.mem_map, Prod.mk.injEq] at hm
          obtain ⟨x, hx, hx1, _⟩ := hm
          have := H.fresh x hx
          rw [hx1] at this; rw [this] at h; cases h
      · rfl
  have hsle : sure c0 (out.take i) o ≤ q := foldl_sure_le _ q _ (fun e he hb x hx => by
    obtain ⟨h1, h2⟩ := hdep e he hb x hx
    obtain ⟨d', V', c'⟩ := x
    exact hg.le _ _ _ _ h1 h2) c0 hg.lo
  have hsge : c0 ≤ sure c0 (out.take i) o := foldl_sure_ge _ _ c0
  have facts' : ∀ (j d' : Nat) (V' : AV) (c' : Nat), out[j]? = some (d', V', c') → (listed.setIfInBounds i true).getD j false = true → look ((d, V) :: (ndeps (out.take i) o ++ (T0 ++ T))) d' = V' := by
    intro j d' V' c' hj hl
    by_cases hij : i = j
    · subst hij; rw [hout] at hj; cases hj; exact look_cons_same _ _ _
    · rw [getD_set_ne false hij] at hl
      have hne : d ≠ d' := by rintro rfl; exact hij (outN_inj H.nodup hout hj)
      rw [look_cons_other _ _ _ _ hne, same]
      exact hg.facts _ _ _ _ hj hl
  have other' : ∀ t, has (out.map fun x => (x.1, x.2.1)) t = false → look ((d, V) :: (ndeps (out.take i) o ++ (T0 ++ T))) t = look T0 t := by
    intro t ht
    have hne : d ≠ t := by
      rintro rfl
      have : has (out.map fun x => (x.1, x.2.1)) d = true := has_mem (V := V) (List.mem_map.2 ⟨_, List.mem_of_getElem? hout, rfl⟩)
      rw [ht] at this; cases this
    rw [look_cons_other _ _ _ _ hne, same]; exact hg.other t ht
  have le' : ∀ q', q ≤ q' → c ≤ q' → ∀ (j d' : Nat) (V' : AV) (c' : Nat), out[j]? = some (d', V', c') → (listed.setIfInBounds i true).getD j false = true → c' ≤ q' := by
    intro q' h1 h2 j d' V' c' hj hl
    by_cases hij : i = j
    · subst hij; rw [hout] at hj; cases hj; exact h2
    · rw [getD_set_ne false hij] at hl; exact Nat.le_trans (hg.le _ _ _ _ hj hl) h1
  have hself : (listed.setIfInBounds i true).getD i false = true := by
    have hlt := (Array.getElem?_eq_some_iff.1 ho).1
    have : i < listed.size := by rw [inv.size]; exact hlt
    simp [this]
  cases hp : isP i with
  | false =>
    obtain ⟨hd, hs, hj⟩ := H.pure i o d V c hik hp ho hout
    have hcq : c ≤ q := by omega
    have e : O'.take q = O'.take c ++ (O'.take q).drop c := by
      rw [← List.take_append_drop c (O'.take q), List.take_take, Nat.min_eq_left hcq, List.drop_append_of_le_length (by simp; have := hg.hi; omega)]
      simp
    have hr : Rel n m G ⟨ndeps (out.take i) o ++ (T0 ++ T), O'.take c ++ (O'.take q).drop c⟩ a w := by rw [← e]; exact hg.rel.relook same
    refine wpOp_only ho (hj T _) hr fun a' w' hr' => hK a' w' _ q ⟨by rw [e]; exact hr', facts', other', hg.lo, hg.hi, le' q (Nat.le_refl _) hcq, ?_, ?_⟩
    · rcases hg.top with h | ⟨r, d', V', h1, h2, h3⟩
      · exact .inl h
      · exact .inr ⟨r, d', V', h1, h2, getD_set_true h3⟩
    · intro i' j' hlt h1 h2 h3
      have hne : i ≠ j' := by rintro rfl; rw [hp] at h2; cases h2
      rw [getD_set_ne false hne] at h3
      exact getD_set_true (hg.down _ _ hlt h1 h2 h3)
  | true =>
    obtain ⟨hd, hs, hpc, hcO, hj⟩ := H.prod i o d V c hik hp ho hout
    have hq : q = p i := by
      have h1 : p i ≤ q := by omega
      rcases hg.top with h | ⟨r, d', V', h2, h3, h4⟩
      · omega
      · have hrlt : r < k := by rw [← H.len]; exact (List.getElem?_eq_some_iff.1 h2).1
        have hri : r < i := by
          rcases Nat.lt_trichotomy r i with h | h | h
          · exact h
          · subst h; rw [hunf] at h4; cases h4
          · have := hg.down _ _ h hp h3 h4; rw [hunf] at this; cases this
        have := H.mono r i d' V' q hri hik h3 hp h2
        omega
    subst hq
    refine wpOp_only ho (hj T) (hg.rel.relook same) fun a' w' hr' => hK a' w' _ c ⟨hr', facts', other', by omega, hcO, le' c (by omega) (Nat.le_refl _), .inr ⟨i, d, V, hout, hp, hself⟩, ?_⟩
    intro i' j' hlt h1 h2 h3
    by_cases hij : i = j'
    · subst hij
      have hi'k : i' < k := by omega
      obtain ⟨⟨d1, V1, c1⟩, ho1⟩ : ∃ x, out[i']? = some x := ⟨out[i']'(by rw [H.len]; exact hi'k), by simp⟩
      obtain ⟨o1, hoo1⟩ := H.all i' hi'k
      obtain ⟨_, hs1, hpc1, _, _⟩ := H.prod i' o1 d1 V1 c1 hi'k h1 hoo1 ho1
      have hm := H.mono i' i d1 V1 c1 hlt hik h1 hp ho1
      have hb := foldl_sure_ge (out.take i') o1.after.toList c0
      have hb' : c0 ≤ p i' := by rw [← hs1]; exact hb
      rcases hg.top with h | ⟨r, d', V', h4, h5, h6⟩
      · omega
      · rcases Nat.lt_trichotomy r i' with h | h | h
        · have := H.mono r i' d' V' _ h hi'k h5 h1 h4; omega
        · subst h; exact getD_set_true h6
        · exact getD_set_true (hg.down _ _ h h1 h5 h6)
    · rw [getD_set_ne false hij] at h3
      exact getD_set_true (hg.down _ _ hlt h1 h2 h3)
end
end Go.Abs
