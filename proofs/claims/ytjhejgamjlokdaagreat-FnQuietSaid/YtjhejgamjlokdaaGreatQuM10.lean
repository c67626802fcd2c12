/- Proved in this text: lemmas and contracts of functions that the claim uses (parts: AbsXn, Draw4, Draw5, MatL, Mat, DefsQ, Mat2, Mat3, Mat4, Pred, Scan, Quant, Scn, Lw). No condition. -/
import Derived.Test.YtjhejgamjlokdaaGreatQuM9
import Derived.Test.YtjhejgamjlokdaaGreatQuM5
import Derived.Test.YtjhejgamjlokdaaGreatQuM6
set_option linter.unusedVariables false
set_option linter.unusedSimpArgs false
set_option maxRecDepth 100000
set_option maxHeartbeats 16000000


namespace Go.Abs
open Go
structure Moves (k base : Nat) (V W : AV) : Prop where
  rel : ∀ {S S3 : Nat → Prop} {w : World} {ι ι3 : Nat → Spot} {O O3 : List AObj} {x : Value}, (∀ id, k ≤ id → ι3 (id - k + base) = ι id) → (∀ id ob, k ≤ id → O[id]? = some ob → O3[id - k + base]? = some ob) → VRel S w ι O V x [] → VRel S3 w ι3 O3 W x []
theorem Moves.ptr {k base id ep off : Nat} (h : k ≤ id) : Moves k base (.ptr id ep off) (.ptr (id - k + base) ep off) := by
  refine ⟨fun h1 h2 hv => ?_⟩
  cases hv with
  | ptr a b c r => cases r; exact .ptr (h2 _ _ h a) b (fun e => by rw [h1 _ h]; exact c e) .nil
section
variable {P : Program} {n m : Nat} {G : Ctx} {T : List (Nat × AV)} {O : List AObj} {Q : Exit → St → Prop} {ops : Array Oper} {l : List Oper} {tt : TypeId} {pos : String} {after : Array Edge} {tab : List (Nat × Ty)}
theorem callXm_rel {β : Type} {f : FuncId} {xs : List Operand} {As : List AV} {M : List AObj} {MX NX : β → List AObj} {rX rX' : β → AV} {C : β → Prop} {hs : List Nat} {pv : List Value} {pa : List AV} (hc : FnX P f As M pv pa β C MX NX rX) (hp : Pin G pv pa) (hh : Hand O hs (xs.map (av T)) As) (hM : HandO O hs M) (hnd : hs.Nodup) (hlenX : ∀ y, (MX y).length = M.length)
    (hszX : ∀ (y : β) (j : Nat) (a b : AObj), M[j]? = some a → (MX y)[j]? = some b → b.size = a.size) (hMX' : ∀ y, Out (MX y)) (hNX : ∀ y, Out (NX y)) (hreX : ∀ y, Moves M.length O.length (rX y) (rX' y)) {a : Act} {w : World} (hr : Rel n m G ⟨T, O⟩ a w) :
    Calls P f (xs.map a.eval).toArray w fun e w' => ∃ y, C y ∧ ∃ v, e = .returned v ∧ ∃ S ι F, RelAt n m G S ι F ⟨T, newO hs (MX y) 0 O ++ NX y⟩ a w' ∧ VRel S w' ι (newO hs (MX y) 0 O ++ NX y) (rX' y) v [] := by
  obtain ⟨S, ι, F, hr⟩ := hr
  obtain ⟨⟨fn, hf, hb, hnm⟩, hcall⟩ := hc
  obtain ⟨hlM, hatM⟩ := hM.at
  let S2 : Nat → Prop := fun b => b < w.heap.size ∧ ∀ id ∈ hs, b ∉ F id
  let ιM : Nat → Spot := fun j => match hs[j]? with | some id => ι id | none => none
  let FM : Nat → List Nat := fun j => match hs[j]? with | some id => F id | none => []
  have hιM : ∀ (j id : Nat), hs[j]? = some id → ιM j = ι id := fun j id h => by show (match hs[j]? with | some id => ι id | none => none) = _; rw [h]
  have hFM : ∀ (j id : Nat), hs[j]? = some id → FM j = F id := fun j id h => by show (match hs[j]? with | some id => F id | none => []) = _; rw [h]
  have hidl : ∀ (j id : Nat), hs[j]? = some id → id < O.length := fun j id h => by
    have hj : j < M.length := by rw [← hlM]; exact (List.getElem?_eq_some_iff.1 h).1
    obtain ⟨id', ob, e1, e2, _⟩ := hatM j _ (List.getElem?_eq_getElem hj)
    rw [h] at e1; cases e1; exact (List.getElem?_eq_some_iff.1 e2).1
  have hmem : ∀ id ∈ hs, ∃ j, j < M.length ∧ hs[j]? = some id := fun id h => by
    obtain ⟨j, hj, e⟩ := List.getElem_of_mem h
    exact ⟨j, by omega, by rw [List.getElem?_eq_getElem hj, e]⟩
  have hex : ∀ j, j < M.length → ∃ id, hs[j]? = some id := fun j hj => ⟨hs[j], List.getElem?_eq_getElem (by omega)⟩
  have hSS : ∀ b, S b → S2 b := fun b hb => ⟨hr.stable b hb, fun id hid hbf => by
    obtain ⟨j, hj, e⟩ := hmem id hid
    exact (hr.foot id (hidl j id e) b hbf).2.1 hb⟩
  have hOM : ORel S2 w ιM M FM := by
    refine ⟨fun j mb hj => ?_, fun j hj => ?_, fun i j hi hj hij b hb => ?_⟩
    · obtain ⟨id, ob, e1, e2, e3, e4, e5, e6, e7⟩ := hatM j mb hj
      rw [hιM j id e1, hFM j id e1]
      have ho := hr.objs.obj id ob e2
      unfold ObjAt at ho ⊢
      cases hs' : ι id with
      | none => rw [hs'] at ho; rw [← e3]; exact ho
      | some p =>
        obtain ⟨b, k⟩ := p
        rw [hs'] at ho
        obtain ⟨cur', t', fz', f2, q1, q2, q3, q4, q5, q6, q7⟩ := ho
        refine ⟨cur', t', fz', f2, q1, q2, q3, by rw [← e3]; exact q4, q5, fun e he => ?_, ?_⟩
        · rcases e7 with e7 | e7
          · rw [e7] at he; cases he
          · exact q6 e (by rw [← e7]; exact he)
        · rw [← e3]
          exact still_all (by rw [e3]; exact e4) q7 hSS (fun _ _ => rfl) (fun _ _ => rfl)
    · obtain ⟨id, e⟩ := hex j hj
      rw [hFM j id e]; exact hr.objs.nodup id (hidl j id e)
    · obtain ⟨id1, e1⟩ := hex i hi
      obtain ⟨id2, e2⟩ := hex j hj
      rw [hFM i id1 e1] at hb; rw [hFM j id2 e2]
      exact hr.objs.apart id1 id2 (hidl i id1 e1) (hidl j id2 e2) (fun e => hij (nodup_get hnd e1 (e ▸ e2))) b hb
  have hl := hr.evals xs
  obtain ⟨f', hl2, hf'⟩ := hh.rel (S2 := S2) (ιM := ιM) hM hιM hSS hr.objs (fun b h1 h2 => ⟨h1, h2⟩) (fun id hid => by obtain ⟨j, hj, e⟩ := hmem id hid; exact hidl j id e) hl (by simp)
  have hf0 : f' = [] := List.eq_nil_iff_forall_not_mem.2 fun b hb => by simpa using hf' b hb
  subst hf0
  refine (hcall w S2 ιM FM (xs.map a.eval) (fun b h => h.1) hOM (fun j hj b hb => ?_) hl2 (hp.at hr hSS [] (fun _ => none))).mono fun e w' he => ?_
  · obtain ⟨id, e⟩ := hex j hj
    rw [hFM j id e] at hb
    exact ⟨fun h => h.2 id (List.mem_of_getElem? e) hb, (hr.foot id (hidl j id e) b hb).2.2⟩
  obtain ⟨y, hy, v, S', ι', F', rfl, hS1, hS2, hS3, hι', hO', hF', hv, hk⟩ := he
  refine ⟨y, hy, v, rfl, ?_⟩
  have hlen := hlenX y
  have hsz := hszX y
  have hM' := hMX' y
  have hN := hNX y
  have hre := hreX y
  generalize MX y = M' at hlen hsz hM' hO' hF' hv ⊢
  generalize NX y = N at hN hO' hF' hv ⊢
  generalize rX y = r at hre hv
  generalize rX' y = r' at hre ⊢
  have hold : ∀ b, b < w.heap.size → (∀ id ∈ hs, b ∉ F id) → w'.heap[b]? = w.heap[b]? := fun b hb hn => hk.block b hb (by
    rintro ⟨i, hi, hbf⟩
    obtain ⟨id, e⟩ := hex i hi
    rw [hFM i id e] at hbf
    exact hn id (List.mem_of_getElem? e) hbf)
  let S3 : Nat → Prop := fun b => S b ∨ (S' b ∧ w.heap.size ≤ b)
  let ι3 : Nat → Spot := fun i => if i < O.length then ι i else ι' (M.length + (i - O.length))
  let F3 : Nat → List Nat := fun i => if i < O.length then (match findN hs i 0 with | some j => F' j | none => F i) else F' (M.length + (i - O.length))
  let O3 := newO hs M' 0 O ++ N
  have hl3 : (newO hs M' 0 O).length = O.length := newO_len hs M' 0 O
  have hO3lt : ∀ i, i < O.length → O3[i]? = (O[i]?).map (newOb hs M' i) := fun i hi => by
    show (newO hs M' 0 O ++ N)[i]? = _
    rw [List.getElem?_append_left (by omega), newO_at, Nat.zero_add]
  have hO3ge : ∀ i, O.length ≤ i → O3[i]? = N[i - O.length]? := fun i hi => by
    show (newO hs M' 0 O ++ N)[i]? = _
    rw [List.getElem?_append_right (by omega), hl3]
  have hob : ∀ i ob, O[i]? = some ob → (newOb hs M' i ob).ep = ob.ep ∧ (newOb hs M' i ob).size = ob.size := fun i ob h => by
    unfold newOb
    cases hfd : findN hs i 0 with
    | none => exact ⟨rfl, rfl⟩
    | some j =>
      cases hmj : M'[j]? with
      | none => exact ⟨by simp [hmj], by simp [hmj]⟩
      | some mb =>
        obtain ⟨q, rfl, hq⟩ := findN_some hfd
        rw [Nat.zero_add] at hmj
        have hqm : q < M.length := by rw [← hlM]; exact (List.getElem?_eq_some_iff.1 hq).1
        obtain ⟨id', ob', e1, e2, _, _, _, e6, _⟩ := hatM q _ (List.getElem?_eq_getElem hqm)
        rw [hq] at e1; cases e1
        rw [h] at e2; cases e2
        simp only [Nat.zero_add, hmj, true_and]
        exact (hsz q _ _ (List.getElem?_eq_getElem hqm) hmj).trans e6
  have hlat : Later S w ι O S3 w' ι3 O3 := by
    refine ⟨fun b h => .inl h, fun b hb => hold b (hr.stable b hb) (hSS b hb).2, fun id ob h => ?_⟩
    have hlt : id < O.length := (List.getElem?_eq_some_iff.1 h).1
    obtain ⟨h1, h2⟩ := hob id ob h
    exact ⟨newOb hs M' id ob, by rw [hO3lt id hlt, h]; rfl, .inr ⟨h1, h2, by show (if _ then _ else _) = _; rw [if_pos hlt]⟩⟩
  have hF3f : ∀ (i j : Nat), i < O.length → findN hs i 0 = some j → F3 i = F' j := fun i j hi h => by show (if _ then _ else _) = _; rw [if_pos hi, h]
  have hF3n : ∀ (i : Nat), i < O.length → findN hs i 0 = none → F3 i = F i := fun i hi h => by show (if _ then _ else _) = _; rw [if_pos hi, h]
  have hF3g : ∀ (i : Nat), O.length ≤ i → F3 i = F' (M.length + (i - O.length)) := fun i hi => by show (if _ then _ else _) = _; rw [if_neg (by omega)]
  have hlMN : (M' ++ N).length = M.length + N.length := by rw [List.length_append, hlen]
  have hfind : ∀ (i j : Nat), findN hs i 0 = some j → j < M.length ∧ hs[j]? = some i := fun i j h => by
    obtain ⟨q, rfl, hq⟩ := findN_some h
    rw [Nat.zero_add]
    exact ⟨by rw [← hlM]; exact (List.getElem?_eq_some_iff.1 hq).1, hq⟩
  have hl3' : O3.length = O.length + N.length := by show (newO hs M' 0 O ++ N).length = _; rw [List.length_append, hl3]
  -- each place's blocks: where they come from
  have hsrc : ∀ k, k < (M' ++ N).length → ∀ b ∈ F' k, ((∃ id, id ∈ hs ∧ id < O.length ∧ b ∈ F id) ∨ w.heap.size ≤ b) ∧ ¬ S' b ∧ b < w'.heap.size := fun k hk' b hb => by
    obtain ⟨q1, q2, q3⟩ := hF' k hk' b hb
    refine ⟨?_, q2, q3⟩
    rcases q1 with ⟨i, hi, hbf⟩ | q1
    · obtain ⟨id, e⟩ := hex i hi
      rw [hFM i id e] at hbf
      exact .inl ⟨id, List.mem_of_getElem? e, hidl i id e, hbf⟩
    · exact .inr q1
  have hnoS : ∀ k, k < (M' ++ N).length → ∀ b ∈ F' k, (G.M0 b ∨ G.w0.heap.size ≤ b) ∧ ¬ S3 b ∧ b < w'.heap.size := fun k hk' b hb => by
    obtain ⟨q1, q2, q3⟩ := hsrc k hk' b hb
    rcases q1 with ⟨id, hid, hlt, hbf⟩ | q1
    · obtain ⟨p1, p2, p3⟩ := hr.foot id hlt b hbf
      refine ⟨p1, ?_, q3⟩
      rintro (h | ⟨h, _⟩)
      · exact p2 h
      · exact q2 h
    · refine ⟨.inr (by have := hr.keeps.size; omega), ?_, q3⟩
      rintro (h | ⟨h, _⟩)
      · have := hr.stable b h; omega
      · exact q2 h
  have hnotin : ∀ i, i < O.length → findN hs i 0 = none → ∀ b ∈ F i, w'.heap[b]? = w.heap[b]? := fun i hi h b hb => hold b (hr.foot i hi b hb).2.2 fun id hid hbf => by
    obtain ⟨j, hj, e⟩ := hmem id hid
    have hne : i ≠ id := by rintro rfl; exact findN_none h hid
    exact hr.objs.apart i id hi (hidl j id e) hne b hb hbf
  have hcells : ∀ {cs : List AV} {us g}, cs.all AV.still = true → Loc cs → LRel S' w' ι' (M' ++ N) cs us g → LRel S3 w' ι3 O3 cs us g := fun h1 h2 hl =>
    Loc.rel h2 (still_all (S' := S') h1 hl (fun _ h => h) (fun _ _ => rfl) (fun _ _ => rfl))
  refine ⟨S3, ι3, F3, ⟨hr.defers, hr.size, fun t => (hr.tmps t).mono hlat (by simp), ⟨fun i ob h => ?_, fun i h => ?_, fun i j hi hj hij b hb => ?_⟩, fun i h b hb => ?_, ⟨fun b hb => .inl (hr.base.1 b hb), ?_⟩, ?_, ?_, fun i h => ?_, ?_⟩, ?_⟩
  · have h : O3[i]? = some ob := h
    by_cases hlt : i < O.length
    · rw [hO3lt i hlt, List.getElem?_eq_getElem hlt] at h
      simp only [Option.map_some, Option.some.injEq] at h
      rw [show ι3 i = ι i from if_pos hlt]
      cases hfd : findN hs i 0 with
      | some j =>
        obtain ⟨hjm, hji⟩ := hfind i j hfd
        rw [hF3f i j hlt hfd]
        have hjM' : j < M'.length := by omega
        have hmb : M'[j]? = some M'[j] := List.getElem?_eq_getElem hjM'
        have h' : ob = ⟨M'[j].cells, (O[i]).ep, M'[j].size, M'[j].ty⟩ := by
          rw [← h]; unfold newOb; rw [hfd]; simp only [hmb]
        have ho := hO'.obj j M'[j] (by rw [List.getElem?_append_left hjM']; exact hmb)
        rw [hι' j hjm, hιM j i hji] at ho
        have hout := hM'.at hmb
        rw [h']
        unfold ObjAt at ho ⊢
        cases hs' : ι i with
        | none => rw [hs'] at ho; exact ho
        | some p =>
          obtain ⟨b, k⟩ := p
          rw [hs'] at ho
          obtain ⟨cur', t', fz', f2, q1, q2, q3, q4, q5, q6, q7⟩ := ho
          exact ⟨cur', t', fz', f2, q1, q2, q3, q4, q5, q6, hcells hout.1 hout.2 q7⟩
      | none =>
        rw [hF3n i hlt hfd]
        have h' : ob = O[i] := by rw [← h]; unfold newOb; rw [hfd]
        subst h'
        have ho := hr.objs.obj i O[i] (List.getElem?_eq_getElem hlt)
        have key := hnotin i hlt hfd
        unfold ObjAt at ho ⊢
        cases hs' : ι i with
        | none => rw [hs'] at ho; exact ho
        | some p =>
          obtain ⟨b, k⟩ := p
          rw [hs'] at ho
          obtain ⟨cur', t', fz', f2, q1, q2, q3, q4, q5, q6, q7⟩ := ho
          exact ⟨cur', t', fz', f2, q1, by rw [key b (by rw [q1]; simp)]; exact q2, q3, q4, q5, q6, q7.mono hlat fun b' hb' => key b' (by rw [q1]; simp [hb'])⟩
    · rw [hO3ge i (by omega)] at h
      rw [show ι3 i = ι' (M.length + (i - O.length)) from if_neg hlt, hF3g i (by omega)]
      have ho := hO'.obj (M.length + (i - O.length)) ob (by rw [List.getElem?_append_right (by omega), hlen, Nat.add_sub_cancel_left]; exact h)
      have hout := hN.at h
      unfold ObjAt at ho ⊢
      cases hs' : ι' (M.length + (i - O.length)) with
      | none => rw [hs'] at ho; exact ho
      | some p =>
        obtain ⟨b, k⟩ := p
        rw [hs'] at ho
        obtain ⟨cur', t', fz', f2, q1, q2, q3, q4, q5, q6, q7⟩ := ho
        exact ⟨cur', t', fz', f2, q1, q2, q3, q4, q5, q6, hcells hout.1 hout.2 q7⟩
  · have h : i < O3.length := h
    by_cases hlt : i < O.length
    · cases hfd : findN hs i 0 with
      | some j => rw [hF3f i j hlt hfd]; exact hO'.nodup j (by have := (hfind i j hfd).1; omega)
      | none => rw [hF3n i hlt hfd]; exact hr.objs.nodup i hlt
    · rw [hF3g i (by omega)]; exact hO'.nodup _ (by omega)
  · have hi : i < O3.length := hi
    have hj : j < O3.length := hj
    -- the place in the callee's list, if there is one
    have hpl : ∀ k, k < O3.length → (∃ q, q < (M' ++ N).length ∧ F3 k = F' q ∧ ((q < M.length ∧ hs[q]? = some k) ∨ (O.length ≤ k ∧ q = M.length + (k - O.length)))) ∨ (k < O.length ∧ findN hs k 0 = none ∧ F3 k = F k) := fun k hk' => by
      by_cases hlt : k < O.length
      · cases hfd : findN hs k 0 with
        | some q => obtain ⟨h1, h2⟩ := hfind k q hfd; exact .inl ⟨q, by omega, hF3f k q hlt hfd, .inl ⟨h1, h2⟩⟩
        | none => exact .inr ⟨hlt, rfl, hF3n k hlt hfd⟩
      · exact .inl ⟨_, by omega, hF3g k (by omega), .inr ⟨by omega, rfl⟩⟩
    have hcross : ∀ k q, k < O.length → findN hs k 0 = none → q < (M' ++ N).length → ∀ b ∈ F k, b ∉ F' q := fun k q hk' hn hq b hb hb' => by
      rcases (hsrc q hq b hb').1 with ⟨id, hid, hlt, hbf⟩ | h
      · have hne : k ≠ id := by rintro rfl; exact findN_none hn hid
        exact hr.objs.apart k id hk' hlt hne b hb hbf
      · have := (hr.foot k hk' b hb).2.2; omega
    rcases hpl i hi with ⟨q1, p1, p2, p3⟩ | ⟨p1, p2, p3⟩ <;> rcases hpl j hj with ⟨q2, r1, r2, r3⟩ | ⟨r1, r2, r3⟩
    · rw [p2] at hb; rw [r2]
      refine hO'.apart q1 q2 p1 r1 (fun e => ?_) b hb
      subst e
      rcases p3 with ⟨a1, a2⟩ | ⟨a1, a2⟩ <;> rcases r3 with ⟨b1, b2⟩ | ⟨b1, b2⟩
      · rw [a2] at b2; cases b2; exact hij rfl
      · omega
      · omega
      · omega
    · rw [p2] at hb; rw [r3]; intro hb'; exact hcross j q1 r1 r2 p1 b hb' hb
    · rw [p3] at hb; rw [r2]; exact hcross i q2 p1 p2 r1 b hb
    · rw [p3] at hb; rw [r3]; exact hr.objs.apart i j p1 r1 hij b hb
  · have h : i < O3.length := h
    by_cases hlt : i < O.length
    · cases hfd : findN hs i 0 with
      | some j => rw [hF3f i j hlt hfd] at hb; exact hnoS j (by have := (hfind i j hfd).1; omega) b hb
      | none =>
        rw [hF3n i hlt hfd] at hb
        obtain ⟨q1, q2, q3⟩ := hr.foot i hlt b hb
        refine ⟨q1, ?_, by have := hk.size; omega⟩
        rintro (h' | ⟨_, h'⟩)
        · exact q2 h'
        · omega
    · rw [hF3g i (by omega)] at hb; exact hnoS _ (by omega) b hb
  · rintro b (h' | ⟨_, h'⟩)
    · exact hr.base.2 b h'
    · exact .inr (by have := hr.keeps.size; omega)
  · rintro b (h' | ⟨h', _⟩)
    · have := hr.stable b h'; have := hk.size; omega
    · exact hS3 b h'
  · refine ⟨hk.os.trans hr.keeps.os, hk.tape.trans hr.keeps.tape, hk.output.trans hr.keeps.output, by have := hr.keeps.size; have := hk.size; omega, fun b hb hM0 => ?_⟩
    rw [hold b (by have := hr.keeps.size; omega) fun id hid hbf => ?_]
    · exact hr.keeps.block b hb hM0
    · obtain ⟨j, hj, e⟩ := hmem id hid
      rcases (hr.foot id (hidl j id e) b hbf).1 with h | h
      · exact hM0 h
      · omega
  · have hm : m ≤ O.length := hr.mle
    rw [show ι3 i = ι i from if_pos (by omega)]; exact hr.spots i h
  · have hm : m ≤ O.length := hr.mle
    show m ≤ O3.length
    omega
  · refine hre.rel (S := S') (ι := ι') (O := M' ++ N) (fun id hid => ?_) (fun id ob hid h => ?_) hv
    · show (if _ then _ else _) = _
      rw [if_neg (by omega)]; congr 1; omega
    · show O3[id - M.length + O.length]? = some ob
      rw [hO3ge _ (by omega), Nat.add_sub_cancel]
      rw [List.getElem?_append_right (by omega), hlen] at h
      exact h
theorem FnP.of_new (hP : TabOk P tab) {f : FuncId} {fn : Func} {c : Code} {args : List AV} {pv : List Value} {pa : List AV} {k t sz : Nat} {cells : List AV} {ty : Option TypeId} (hf : P.funcs[f]? = some fn) (hnt : fn.ntmps = k) (hb : fn.body = some c) (hnm : (fn.name == "runtime.NumGoroutine") = false)
    (hal : args.length ≤ k) (hres : fn.results = #[.tmp t]) (hps : pa.all AV.still = true) (hst : cells.all AV.still = true) (h : ∀ G, Pin G pv pa → WpA P k 0 G c ⟨enumT 0 args, []⟩ (fun e σ => endB e = true ∧ ∃ id ep ob, look σ.T t = .ptr id ep 0 ∧ σ.O[id]? = some ob ∧ ob.ep = ep ∧ ob.cells = cells ∧ ob.size = sz ∧ (ty = none ∨ ty = ob.ty))) :
    FnP P f args [] pv pa [] [⟨cells, 0, sz, ty⟩] (.ptr 0 0 0) := by
  refine ⟨⟨fn, hf, by rw [hb]; rfl, hnm⟩, fun w S ι F vs hS hO hF hl hpin => ?_⟩
  have hvl : vs.length = args.length := hl.len.symm
  refine calls_of_wp hf hb ?_
  have hrel : Rel k 0 ⟨w, S, fun b => ∃ i, i < ([] : List AObj).length ∧ b ∈ F i, ι⟩ ⟨enumT 0 args, []⟩ { tmps := vs.toArray ++ Array.replicate (fn.ntmps - vs.toArray.size) undef, defers := [] } w := by
    refine ⟨S, ι, F, rfl, ?_, fun t => ?_, hO, fun id hid b hb => ⟨.inl ⟨id, hid, hb⟩, hF id hid b hb⟩, ⟨fun _ h => h, fun _ h => .inl h⟩, hS, Keeps.refl _ _, fun _ _ => rfl, Nat.zero_le _⟩
    · simp [hnt]; omega
    · show VRel S w ι [] (look (enumT 0 args) t) _ []
      rw [look_enumT]
      simp only [Nat.zero_le, if_true, Nat.sub_zero]
      by_cases ht : t < args.length
      · obtain ⟨x, g, hx, hV, hg⟩ := hl.get (List.getElem?_eq_getElem ht)
        have hg0 : g = [] := List.eq_nil_iff_forall_not_mem.2 fun b hb => by simpa using hg b hb
        subst hg0
        have e1 : args.getD t .any = args[t] := by simp [ht]
        have e2 : (vs.toArray ++ Array.replicate (fn.ntmps - vs.toArray.size) undef).getD t undef = x := by
          have : t < vs.length := by omega
          rw [List.getElem?_eq_getElem this] at hx
          simp only [Option.some.injEq] at hx
          simp [Array.getD_eq_getD_getElem?, Array.getElem?_append, this, hx]
        rw [e1, e2]; exact hV
      · have e1 : args.getD t .any = .any := by simp [List.getElem?_eq_none (Nat.le_of_not_lt ht)]
        rw [e1]; exact .any .nil
  refine wp_mono (h ⟨w, S, fun b => ∃ i, i < ([] : List AObj).length ∧ b ∈ F i, ι⟩ ⟨hpin, hps, fun b hb => ⟨fun ⟨i, hi, hbf⟩ => (hF i hi b hbf).1 hb, hS b hb⟩⟩ _ _ hrel) fun e a' w' ⟨σ', hq, hr'⟩ => ?_
  obtain ⟨he, id, ep, ob, h1, h2, h3, h4, h5, h6⟩ := hq
  obtain ⟨S2, ι2, F2, hr⟩ := hr'
  have hrun : (results fn a'.tmps).run P w' = .ok (a'.tmps.getD t undef) w' := run_results1 hres (by simp [resSem])
  have ht := hr.tmps t
  rw [h1] at ht
  have hid : id < σ'.O.length := (List.getElem?_eq_some_iff.1 h2).1
  have hobj := hr.objs.obj id ob h2
  have hfin : ∃ v S' ι' F', a'.tmps.getD t undef = v ∧ (∀ b, S b → S' b) ∧ (∀ b, S' b → S b ∨ w.heap.size ≤ b) ∧ (∀ b, S' b → b < w'.heap.size) ∧ (∀ id, id < ([] : List AObj).length → ι' id = ι id) ∧ ORel S' w' ι' ([] ++ [⟨cells, 0, sz, ty⟩]) F' ∧
      (∀ id, id < ([] ++ [(⟨cells, 0, sz, ty⟩ : AObj)]).length → ∀ b ∈ F' id, ((∃ i, i < ([] : List AObj).length ∧ b ∈ F i) ∨ w.heap.size ≤ b) ∧ ¬ S' b ∧ b < w'.heap.size) ∧ VRel S' w' ι' ([] ++ [⟨cells, 0, sz, ty⟩]) (.ptr 0 0 0) v [] ∧ Keeps w (fun b => ∃ i, i < ([] : List AObj).length ∧ b ∈ F i) w' := by
    refine ⟨_, S2, fun j => if j = 0 then ι2 id else none, fun j => if j = 0 then F2 id else [], rfl, hr.base.1, hr.base.2, hr.stable, fun i hi => by simp at hi, ⟨fun i ob' hi => ?_, fun i hi => ?_, fun i j hi hj hij => ?_⟩, fun i hi b hb => ?_, ?_, hr.keeps⟩
    · cases i with
      | succ i => simp at hi
      | zero =>
        simp at hi; subst hi
        simp only [if_true]
        unfold ObjAt at hobj ⊢
        cases hs : ι2 id with
        | none => rw [hs, h4] at hobj; exact hobj
        | some p =>
          obtain ⟨b, kk⟩ := p
          rw [hs, h4] at hobj
          obtain ⟨cur', t', fz', f2, q1, q2, q3, q4, q5, q6, q7⟩ := hobj
          refine ⟨cur', t', fz', f2, q1, q2, q3, q4, q5, fun e he => ?_, still_all hst q7 (fun _ h => h) (fun _ _ => rfl) (fun _ _ => rfl)⟩
          rcases h6 with h6 | h6
          · rw [h6] at he; cases he
          · exact q6 e (by rw [← h6]; exact he)
    · have : i = 0 := by simpa using hi
      subst this; simpa using hr.objs.nodup id hid
    · have e1 : i = 0 := by simpa using hi
      have e2 : j = 0 := by simpa using hj
      omega
    · have e1 : i = 0 := by simpa using hi
      subst e1
      obtain ⟨q1, q2, q3⟩ := hr.foot id hid b (by simpa using hb)
      exact ⟨q1, q2, q3⟩
    · cases ht with
      | ptr a b c r => rw [h2] at a; cases a; exact .ptr (ob := ⟨cells, 0, sz, ty⟩) rfl (Nat.le_refl _) (fun _ => by simpa using c h3.symm) .nil
  obtain ⟨v, S', ι', F', hv, q⟩ := hfin
  cases e with
  | normal => exact ⟨hr.defers, _, hrun, (), trivial, _, S', ι', F', rfl, hv ▸ q⟩
  | ret => exact ⟨hr.defers, _, hrun, (), trivial, _, S', ι', F', rfl, hv ▸ q⟩
  | _ => cases he
theorem WpL.callN {f : FuncId} {xs : List Operand} {ats : Array TypeId} {As : List AV} {ob : AObj} {O2 : List AObj} {pv : List Value} {pa : List AV} {base d : Nat} (hc : FnP P f As [] pv pa [] [ob] (.ptr 0 0 0)) (hp : Pin G pv pa) (hh : HandM O [] [] (xs.map (av T)) As) (hN : Out [ob]) (hb : cnt O.length 0 = some base) (hO2 : newF [] [] 0 O [ob] = some O2) (hn : d < n)
    (h : WpL P n m G false ops l ⟨(d, .ptr base 0 0) :: T, O2⟩ Q) :
    WpL P n m G false ops ({ dst := some d, op := .call { callee := .value (.func f), args := xs.toArray, argTypes := ats }, type := tt, pos := pos, after := after, guard := none } :: l) ⟨T, O⟩ Q := by
  refine WpL.opX (β := Unit) (C := fun _ => True) (σX := fun _ => ⟨(d, .ptr base 0 0) :: T, O2⟩) rfl (fun a w hr => ?_) (fun _ _ => h)
  have e2 := cnt_eq hb; rw [Nat.add_zero] at e2; subst e2
  have hcl := callXm_rel hc hp hh .nil (by simp) (fun _ => rfl) (fun _ j x y hx hy => by simp at hx) (fun _ => .nil) (fun _ => hN) (rX' := fun _ => .ptr O.length 0 0) (fun _ => by have := Moves.ptr (k := 0) (base := O.length) (id := 0) (ep := 0) (off := 0) (Nat.le_refl 0); rw [Nat.sub_zero, Nat.zero_add] at this; exact this) hr
  obtain ⟨⟨fn, hf, hbd, hnm⟩, _⟩ := hc
  have hex : (execOp a.eval { dst := some d, op := .call { callee := .value (.func f), args := xs.toArray, argTypes := ats }, type := tt, pos := pos, after := after, guard := none }).run P w = .ok (.enter f (xs.map a.eval).toArray) w := by
    simp only [execOp, resolve, Act.eval, Deferred.ofValue, invoke, callFunc, Sem.run_bind, Sem.run_pure, Result.andThen_ok, program, Sem.run, hf, hnm, hbd, Bool.false_eq_true, if_false]
    simp
  unfold Oper.wp
  rw [hex]
  refine hcl.mono fun e' w' ⟨y, hy, v', he, S, ι, F, hr', hv⟩ => ?_
  subst he
  rw [newF_eq hO2] at hr' hv
  exact ⟨y, hy, S, ι, F, hr'.put hn hv⟩
theorem FnC.of_pin {f : FuncId} {A : AV} {args : List AV} {N : List AObj} {r : AV} (h : ∀ v, FnP P f (.sc v :: args) [] [v] [A] [] N r) : FnC P f (A :: args) N r := by
  refine ⟨(h undef).1, fun w S vs hS hl => ?_⟩
  obtain ⟨v, vs', f1, f2, e, hv, hr, hf⟩ := hl.uncons
  obtain ⟨rfl, rfl⟩ : f1 = [] ∧ f2 = [] := by simpa using hf
  subst e
  refine ((h v).2 w S (fun _ => none) (fun _ => []) (v :: vs') hS ⟨fun id ob h => by simp at h, fun id h => by simp at h, fun i j h => by simp at h⟩ (fun id h => by simp at h) (.sc hr) (by simpa using LRel.cons hv .nil)).mono fun e w' ⟨y, _, v2, S', ι', F', h1, h2, h3, h4, h5, h6, h7, h8, h9⟩ => ?_
  refine ⟨v2, S', ι', F', h1, h2, h3, h4, by simpa using h6, fun id hid b hb => ?_, by simpa using h8, ?_⟩
  · obtain ⟨q1, q2, q3⟩ := h7 id (by simpa using hid) b hb
    refine ⟨?_, q2, q3⟩
    rcases q1 with ⟨i, hi, _⟩ | q1
    · simp at hi
    · exact q1
  · have : (fun b => ∃ i, i < ([] : List AObj).length ∧ b ∈ ((fun _ => []) : Nat → List Nat) i) = fun _ => False := by
      funext b; simp
    rw [this] at h9; exact h9
end
end Go.Abs


namespace Go.Proofs.YtjhejgamjlokdaaGreat
open Go Go.Abs
attribute [local irreducible] WpA WpL Rnd Blk Abs.Seq Abs.Fin Abs.FinG FnC FnG FnX FnP FinX Only
attribute [local irreducible] belowD onceD pickD modeD l8D l8AnyD optD
def seedS (k x : Int) : Int := IntKind.i64.wrap ((BitVec.ofInt IntKind.i64.bits (IntKind.i64.wrap (IntKind.i64.wrap (k * 131 + IntKind.i64.wrap x) + 7)) &&& BitVec.ofInt IntKind.i64.bits 1073741823).toNat : Nat)
def seedD (l : List Int) (i : Nat) : Int := (l.take i).foldl seedS (10101 + l.length)
theorem and30 (y : Int) : 0 ≤ IntKind.i64.wrap ((BitVec.ofInt IntKind.i64.bits y &&& BitVec.ofInt IntKind.i64.bits 1073741823).toNat : Nat) ∧ IntKind.i64.wrap ((BitVec.ofInt IntKind.i64.bits y &&& BitVec.ofInt IntKind.i64.bits 1073741823).toNat : Nat) ≤ 1073741823 := by
  have h : (BitVec.ofInt IntKind.i64.bits y &&& BitVec.ofInt IntKind.i64.bits 1073741823).toNat ≤ 1073741823 := by
    rw [BitVec.toNat_and]
    exact Nat.le_trans Nat.and_le_right (by decide)
  rw [IntWalk.i64_in _ (by omega)]
  omega
theorem seedD_succ {l : List Int} {i : Nat} (h : i < l.length) : seedD l (i + 1) = seedS (seedD l i) (l.getD i 0) := by
  unfold seedD; rw [List.take_succ_eq_append_getElem h, List.foldl_append]; simp [h]
theorem seedD_bd {l : List Int} (hl : l.length ≤ 1048576) : ∀ i, 0 ≤ seedD l i ∧ seedD l i ≤ 1073741823
  | 0 => by simp [seedD]; omega
  | i + 1 => by
    by_cases h : i < l.length
    · rw [seedD_succ h]; exact and30 _
    · have e : seedD l (i + 1) = seedD l i := by unfold seedD; rw [List.take_of_length_le (by omega), List.take_of_length_le (by omega)]
      rw [e]; exact seedD_bd hl i
abbrev newD (l : List Int) : Cr := (0, seedD l (min l.length 4000))
theorem pin_slice {G : Ctx} {v : Value} {l : List Int} (hp : Pin G [v] [CodA l]) : ∃ p q r, v = .slice p q r := by
  obtain ⟨a, c, e⟩ := (LRel.slice_len hp.rel).2.1 _ _ _ rfl
  exact ⟨_, _, _, e⟩
section
attribute [local irreducible] IntKind.wrap
theorem l1New_p (v : Value) (l : List Int) (hl : l.length ≤ 1048576) : FnP Tryz.prog 46 [.sc v] [] [v] [CodA l] [] [CurO v (newD l)] (.ptr 0 0 0) := by
  refine FnP.of_new (t := 2) tabOk Tryz.func46 Tryz.ntmps46 rfl (by decide +kernel) (by simp) rfl rfl rfl fun G hp => ?_
  refine go (r := ?_); and_intros <;> intros <;> try exact True.intro
  refine WpL.pin (d := 5) hp rfl ?_
  refine go (r := ?_); and_intros <;> intros <;> try exact True.intro
  refine WpA.loop (fun i : Nat => ⟨[(0, .sc v), (3, I (seedD l i)), (4, I i)], []⟩) (fun i => i ≤ min l.length 4000) (fun i => min l.length 4000 - i) 0 (Nat.zero_le _) (go (r := ?_)) (fun i hi => ?_)
  · exact trivial
  · have hb := seedD_bd hl i
    have hs := fun h => seedD_succ (l := l) (i := i) h
    unfold seedS at hs
    refine go (r := ?_); and_intros <;> intros <;> try exact True.intro
    refine WpL.pin (d := 9) hp rfl ?_
    refine go (r := ?_); and_intros <;> intros <;> try exact True.intro
    · refine WpL.pin (d := 20) hp rfl ?_
      have hs := hs (by omega)
      refine go (r := ?_); and_intros <;> intros <;> try exact True.intro
      all_goals first | exact hs.symm | trace_state
    all_goals obtain ⟨p, q, r, rfl⟩ := pin_slice hp
    · have e : i = min l.length 4000 := by omega
      subst e
      refine go (r := ?_); and_intros <;> intros <;> try exact True.intro
      exact ⟨_, _, _, rfl, rfl, rfl, rfl, rfl, .inl rfl⟩
    · have e : i = min l.length 4000 := by omega
      subst e
      refine go (r := ?_); and_intros <;> intros <;> try exact True.intro
      exact ⟨_, _, _, rfl, rfl, rfl, rfl, rfl, .inl rfl⟩
end
def anyD (l : List Int) (c : Cr) : Cr × Op6 :=
  let o := optD l c
  let s := belowD l o.1 14
  if s.2 = 0 then
    let p := pickD l s.1 [-1, 52]
    (p.1, { o.2 with q := p.2 })
  else if s.2 = 1 then
    let y := l8AnyD l s.1
    (y.1, { o.2 with lens := y.2 })
  else (s.1, o.2)
end Go.Proofs.YtjhejgamjlokdaaGreat


namespace Go.Proofs.YtjhejgamjlokdaaGreat
open Go Go.Abs
attribute [local irreducible] WpA WpL Rnd Blk Abs.Seq Abs.Fin Abs.FinG FnC FnG FnX FnP FinX Only
attribute [local irreducible] belowD onceD pickD modeD l8D l8AnyD optD anyD seedD
theorem newD_ok {l : List Int} (hl : l.length ≤ 1048576) : CrOk l (newD l) := ⟨hl, Int.le_refl 0, by show (0 : Int) ≤ _; omega⟩
end Go.Proofs.YtjhejgamjlokdaaGreat


namespace Go.Proofs.YtjhejgamjlokdaaGreat
open Go Go.Abs
def part (f : Nat → Int) (N j : Nat) (v : Int) : List Int := (List.range N).map fun q => if q < j then f q else if q = j then v else 0
def tabL (f : Nat → Int) (N : Nat) : List Int := (List.range N).map f
theorem part_len (f : Nat → Int) (N j : Nat) (v : Int) : (part f N j v).length = N := by simp [part]
theorem tabL_len (f : Nat → Int) (N : Nat) : (tabL f N).length = N := by simp [tabL]
theorem map_getD {f : Nat → Int} {N j : Nat} (h : j < N) : ((List.range N).map f).getD j 0 = f j := by
  simp only [List.getD_eq_getElem?_getD, List.getElem?_map, List.getElem?_range h, Option.map_some, Option.getD_some]
theorem part_get {f : Nat → Int} {N j : Nat} {v : Int} (h : j < N) : (part f N j v).getD j 0 = v := by
  unfold part; rw [map_getD h, if_neg (by omega), if_pos rfl]
theorem tabL_get {f : Nat → Int} {N j : Nat} (h : j < N) : (tabL f N).getD j 0 = f j := map_getD h
theorem list_ext {xs ys : List Int} {N : Nat} (h1 : xs.length = N) (h2 : ys.length = N) (h : ∀ j, j < N → xs.getD j 0 = ys.getD j 0) : xs = ys :=
  eq_all 0 (by omega) (fun j hj => h j (by omega))
theorem getD_set2 {c : List Int} {i j : Nat} {v : Int} (h : i < c.length) : (c.set i v).getD j 0 = if j = i then v else c.getD j 0 := by
  rw [List.getD_eq_getElem?_getD, List.getElem?_set]
  by_cases e : i = j
  · subst e; simp [h]
  · have : ¬ j = i := fun h => e h.symm
    simp [e, this]
theorem part_set {f : Nat → Int} {N j : Nat} {v u : Int} (h : j < N) : (part f N j v).set j u = part f N j u := by
  refine list_ext (N := N) (by simp [part]) (part_len _ _ _ _) fun q hq => ?_
  rw [getD_set2 (by rw [part_len]; exact h)]
  unfold part
  rw [map_getD hq, map_getD hq]
  by_cases e : q = j
  · rw [if_pos e, if_neg (by omega), if_pos e]
  · rw [if_neg e, if_neg e, if_neg e]
theorem part_next {f : Nat → Int} {N j : Nat} {v : Int} (h : v = f j) : part f N j v = part f N (j + 1) 0 := by
  refine list_ext (N := N) (part_len _ _ _ _) (part_len _ _ _ _) fun q hq => ?_
  unfold part
  rw [map_getD hq, map_getD hq]
  by_cases e : q < j
  · rw [if_pos e, if_pos (by omega)]
  · by_cases e2 : q = j
    · rw [if_neg e, if_pos e2, if_pos (by omega), h, e2]
    · rw [if_neg e, if_neg e2, if_neg (by omega)]; split <;> rfl
theorem part_zero (f : Nat → Int) (N : Nat) : part f N 0 0 = List.replicate N 0 := by
  refine list_ext (N := N) (part_len _ _ _ _) (by simp) fun q hq => ?_
  unfold part
  rw [map_getD hq, if_neg (by omega)]
  simp [hq]
theorem part_all (f : Nat → Int) (N : Nat) (v : Int) : part f N N v = tabL f N := by
  refine list_ext (N := N) (part_len _ _ _ _) (tabL_len _ _) fun q hq => ?_
  unfold part
  rw [map_getD hq, tabL_get hq, if_pos hq]
def sumF (f : Nat → Int) : Nat → Int
  | 0 => 0
  | k + 1 => sumF f k + f k
theorem sumF_bd {f : Nat → Int} {c : Int} (hc : 0 ≤ c) : ∀ k, (∀ i, i < k → -c ≤ f i ∧ f i ≤ c) → -(k * c) ≤ sumF f k ∧ sumF f k ≤ k * c
  | 0, h => by simp [sumF]
  | k + 1, h => by
    have h1 := sumF_bd hc k (fun i hi => h i (by omega))
    have h2 := h k (by omega)
    have e : ((k + 1 : Nat) : Int) * c = k * c + c := by rw [Int.natCast_add, Int.add_mul]; simp
    rw [sumF, e]; omega
theorem mul2 {a b c : Int} (ha : a = -2 ∨ a = -1 ∨ a = 0 ∨ a = 1 ∨ a = 2) (hb : -c ≤ b ∧ b ≤ c) (hc : 0 ≤ c) : -(2 * c) ≤ a * b ∧ a * b ≤ 2 * c := by
  rcases ha with rfl | rfl | rfl | rfl | rfl <;> omega
def A4 : List (List Int) := [[1, 1, 1, 1], [2, 1, -1, -2], [1, -1, -1, 1], [1, -2, 2, -1]]
def par (b : Nat) : Int := if (b % 2 + b / 2 % 2 + b / 4 % 2) % 2 = 0 then 1 else -1
def mx (n r i : Nat) : Int := if n = 4 then (A4.getD r []).getD i 0 else par (r &&& i)
theorem mx_val (n r i : Nat) : mx n r i = -2 ∨ mx n r i = -1 ∨ mx n r i = 0 ∨ mx n r i = 1 ∨ mx n r i = 2 := by
  unfold mx
  split
  · rcases Nat.lt_or_ge r 4 with h | h
    · rcases Nat.lt_or_ge i 4 with h2 | h2
      · have key : ∀ r i : Fin 4, (A4.getD r.val []).getD i.val 0 = -2 ∨ (A4.getD r.val []).getD i.val 0 = -1 ∨ (A4.getD r.val []).getD i.val 0 = 0 ∨ (A4.getD r.val []).getD i.val 0 = 1 ∨ (A4.getD r.val []).getD i.val 0 = 2 := by decide
        exact key ⟨r, h⟩ ⟨i, h2⟩
      · have key : ∀ r : Fin 4, (A4.getD r.val []).length = 4 := by decide
        have := key ⟨r, h⟩
        right; right; left
        rw [List.getD_eq_getElem?_getD, List.getElem?_eq_none (by simp only at this; omega)]; rfl
    · right; right; left
      have : A4.getD r [] = [] := by rw [List.getD_eq_getElem?_getD, List.getElem?_eq_none (by show 4 ≤ r; exact h)]; rfl
      rw [this]; rfl
  · unfold par; split <;> omega
theorem andw (p q : Nat) (h : p < 2 ^ 62) (h2 : q < 2 ^ 62) : IntKind.i64.wrap ((BitVec.ofInt IntKind.i64.bits (p : Int) &&& BitVec.ofInt IntKind.i64.bits (q : Int)).toNat : Nat) = ((p &&& q : Nat) : Int) := by
  have e1 : (BitVec.ofInt IntKind.i64.bits (p : Int)).toNat = p := by simp only [IntKind.bits, BitVec.toNat_ofInt]; omega
  have e2 : (BitVec.ofInt IntKind.i64.bits (q : Int)).toNat = q := by simp only [IntKind.bits, BitVec.toNat_ofInt]; omega
  rw [BitVec.toNat_and, e1, e2]
  have := Nat.and_le_left (n := p) (m := q)
  exact wrap64 _ (by omega)
def mg (n : Nat) (back : Bool) (r i : Nat) : Int := if back then mx n i r else mx n r i
theorem mg_val (n : Nat) (back : Bool) (r i : Nat) : mg n back r i = -2 ∨ mg n back r i = -1 ∨ mg n back r i = 0 ∨ mg n back r i = 1 ∨ mg n back r i = 2 := by unfold mg; split <;> exact mx_val _ _ _
def halfM (n : Nat) (g : Nat → Nat → Int) (l : List Int) (r k : Nat) : Int := sumF (fun i => g r i * l.getD (i * n + k) 0) n
def fullM (n : Nat) (g : Nat → Nat → Int) (l : List Int) (r k : Nat) : Int := sumF (fun i => halfM n g l r i * g k i) n
def mulM (n : Nat) (g : Nat → Nat → Int) (l : List Int) : List Int := tabL (fun q => fullM n g l (q / n) (q % n)) (n * n)
theorem in_getZ {l : List Int} {c : Int} (h : In l (-c) c) (hc : 0 ≤ c) (k : Nat) : -c ≤ l.getD k 0 ∧ l.getD k 0 ≤ c := by
  rcases Nat.lt_or_ge k l.length with h1 | h1
  · exact in_get h h1
  · rw [List.getD_eq_getElem?_getD, List.getElem?_eq_none h1, Option.getD_none]; omega
theorem half_bd {n : Nat} {g : Nat → Nat → Int} {l : List Int} {c : Int} (hg : ∀ r i, g r i = -2 ∨ g r i = -1 ∨ g r i = 0 ∨ g r i = 1 ∨ g r i = 2) (h : In l (-c) c) (hc : 0 ≤ c) (r k i : Nat) :
    -(i * (2 * c)) ≤ sumF (fun i => g r i * l.getD (i * n + k) 0) i ∧ sumF (fun i => g r i * l.getD (i * n + k) 0) i ≤ i * (2 * c) :=
  sumF_bd (by omega) i fun j _ => mul2 (hg r j) (in_getZ h hc _) hc
end Go.Proofs.YtjhejgamjlokdaaGreat


namespace Go.Proofs.YtjhejgamjlokdaaGreat
open Go Go.Abs
attribute [local irreducible] WpA WpL Rnd Blk Abs.Seq Abs.Fin Abs.FinG FnC FnG Only
theorem tabL_snoc (f : Nat → Int) (k : Nat) : tabL f (k + 1) = tabL f k ++ [f k] := by simp [tabL, List.range_succ]
def H8 : List (List Int) := (List.range 8).map fun r => tabL (mx 8 r) 8
instance matrixA_c : Con 118 (Fn 118 [] [⟨rows liF A4, 0, 1, some 22⟩] (.own 0 0 0 4)) := ⟨by
  refine FnC.of_body tabOk Tryz.func118 Tryz.ntmps118 rfl (by decide +kernel) (by simp) fun G => ?_
  refine go (r := ?_); and_intros <;> intros <;> try exact True.intro
  all_goals rfl⟩
end Go.Proofs.YtjhejgamjlokdaaGreat


namespace Go.Proofs.YtjhejgamjlokdaaGreat
open Go Go.Abs
abbrev XD (l : List Int) : AObj := ⟨ints l, 1, 1, some 3⟩
end Go.Proofs.YtjhejgamjlokdaaGreat


namespace Go.Proofs.YtjhejgamjlokdaaGreat
open Go Go.Abs
attribute [local irreducible] WpA WpL Rnd Blk Abs.Seq Abs.Fin Abs.FinG FnC FnG Only
abbrev fh (n : Nat) (g : Nat → Nat → Int) (l : List Int) (q : Nat) : Int := halfM n g l (q / n) (q % n)
abbrev fo (n : Nat) (g : Nat → Nat → Int) (l : List Int) (q : Nat) : Int := fullM n g l (q / n) (q % n)
abbrev sh (n : Nat) (g : Nat → Nat → Int) (l : List Int) (r k i : Nat) : Int := sumF (fun i => g r i * l.getD (i * n + k) 0) i
abbrev so (n : Nat) (g : Nat → Nat → Int) (l : List Int) (r k i : Nat) : Int := sumF (fun i => halfM n g l r i * g k i) i
theorem divmod {n r k : Nat} (h : k < n) : (r * n + k) / n = r ∧ (r * n + k) % n = k := by
  have hn : 0 < n := by omega
  constructor
  · rw [Nat.mul_comm, Nat.mul_add_div hn, Nat.div_eq_of_lt h, Nat.add_zero]
  · rw [Nat.mul_comm, Nat.mul_add_mod, Nat.mod_eq_of_lt h]
theorem mul_huge {a b : Int} (h : -17000000000 ≤ a ∧ a ≤ 17000000000) (h2 : b = -2 ∨ b = -1 ∨ b = 0 ∨ b = 1 ∨ b = 2) : -34000000000 ≤ a * b ∧ a * b ≤ 34000000000 := by
  rcases h2 with rfl | rfl | rfl | rfl | rfl <;> omega
abbrev Sgn (g : Nat → Nat → Int) : Prop := ∀ r i, g r i = -2 ∨ g r i = -1 ∨ g r i = 0 ∨ g r i = 1 ∨ g r i = 2
theorem half_in {n : Nat} {g : Nat → Nat → Int} {l : List Int} (hg : Sgn g) (hl : In l (-1000000000) 1000000000) (hn : n ≤ 8) (r k : Nat) : -17000000000 ≤ halfM n g l r k ∧ halfM n g l r k ≤ 17000000000 := by
  have := half_bd (n := n) (g := g) (l := l) (c := 1000000000) hg hl (by omega) r k n
  unfold halfM; omega
theorem so_bd {n : Nat} {g : Nat → Nat → Int} {l : List Int} (hg : Sgn g) (hl : In l (-1000000000) 1000000000) (hn : n ≤ 8) (r k i : Nat) : -(i * 34000000000) ≤ so n g l r k i ∧ so n g l r k i ≤ i * 34000000000 :=
  sumF_bd (by omega) i fun j _ => mul_huge (half_in hg hl hn r j) (hg k j)
abbrev RowsOk (n : Nat) (g : Nat → Nat → Int) (M : List (List Int)) : Prop := M.length = n ∧ (∀ r, r < n → (M.getD r default).length = n) ∧ ∀ r i, r < n → i < n → (M.getD r default).getD i 0 = g r i
def prodL (n : Nat) (g : Nat → Nat → Int) (l : List Int) : List Int := if l.length = n * n ∧ In l (-1000000000) 1000000000 then mulM n g l else []
theorem prodL_len (n : Nat) (g : Nat → Nat → Int) (l : List Int) : (prodL n g l).length = if l.length = n * n ∧ In l (-1000000000) 1000000000 then n * n else 0 := by
  unfold prodL; split
  · exact tabL_len _ _
  · rfl
abbrev LLn (n : Nat) (M : List (List Int)) : AV := .imm 1 n (rows liI M)
theorem product_4 (g : Nat → Nat → Int) (M : List (List Int)) (l : List Int) (hg : Sgn g) (hM : RowsOk 4 g M) (hl : l.length ≤ 1099511627776) : Fn 116 [LLn 4 M, IL l] [XI (prodL 4 g l)] (.own 0 0 0 (prodL 4 g l).length) := by
  obtain ⟨hM1, hM2, hM3⟩ := hM
  have hpl := prodL_len 4 g l
  by_cases h : l.length = 16 ∧ In l (-1000000000) 1000000000
  · obtain ⟨h1, h2⟩ := id h
    have e : prodL 4 g l = tabL (fo 4 g l) 16 := by rw [prodL, if_pos h]; rfl
    refine FnC.of_body tabOk Tryz.func116 Tryz.ntmps116 rfl (by decide +kernel) (by simp) fun G => ?_
    refine goR (r := ?_); and_intros <;> intros <;> try exact True.intro
    all_goals first | (exfalso; omega) | (exact absurd h2 (by assumption)) | skip
    apply WpA.regionQ0 (O1 := [XD (List.replicate 16 0), XD (List.replicate 16 0), deadO, deadO]) 9 2 mixed (by decide +kernel)
    · exact rfl
    · apply HeadQ.consF .none rfl
      · exact rfl
      · exact in1
      · exact rfl
      · exact rfl
      apply HeadQ.consF .none rfl
      · exact rfl
      · exact in1
      · exact rfl
      · exact rfl
      apply HeadQ.consF .none rfl
      · exact rfl
      · exact in1
      · exact rfl
      · exact rfl
      apply HeadQ.consF (V := .own 0 1 0 16) (.put 0 (XD (List.replicate 16 0))) rfl
      · exact rfl
      · intro Tv Ov hc hp hd hk
        refine WpL.makeInts tabOk rfl rfl rfl (by decide) (by decide) (by rw [nid_len, Nat.zero_add]) (by decide) ?_
        apply WpL.putNil (p := 0)
        · exact hp 0 _ rfl
        · exact Nat.zero_le _
        · exact rfl
        · first | exact still_ints _ | exact still_rows (fun _ => rfl) _ | rfl
      · exact rfl
      · exact rfl
      apply HeadQ.consF .none rfl
      · exact rfl
      · exact in1
      · exact rfl
      · exact rfl
      apply HeadQ.consF .none rfl
      · exact rfl
      · exact in1
      · exact rfl
      · exact rfl
      apply HeadQ.consF .none rfl
      · exact rfl
      · exact in1
      · exact rfl
      · exact rfl
      apply HeadQ.consF (V := .own 1 1 0 16) (.put 1 (XD (List.replicate 16 0))) rfl
      · exact rfl
      · intro Tv Ov hc hp hd hk
        refine WpL.makeInts tabOk rfl rfl rfl (by decide) (by decide) (by rw [nid_len, Nat.zero_add]) (by decide) ?_
        apply WpL.putNil (p := 1)
        · exact hp 1 _ rfl
        · exact Nat.zero_le _
        · exact rfl
        · first | exact still_ints _ | exact still_rows (fun _ => rfl) _ | rfl
      · exact rfl
      · exact rfl
      apply HeadQ.consF .none rfl
      · exact rfl
      · exact in1
      · exact rfl
      · exact rfl
      exact HeadQ.nil
    · exact rfl
    · exact rfl
    · exact rfl
    · exact rfl
    · exact rfl
    · exact rfl
    refine go (r := ?_); and_intros <;> intros <;> try exact True.intro
    refine WpA.loop (fun r : Nat => ⟨[(0, LLn 4 M), (1, IL l), (5, I 4), (6, .own 0 1 0 16), (7, .own 1 1 0 16), (35, I 4), (36, I r)], [XD (part (fh 4 g l) 16 (r * 4) 0), XD (List.replicate 16 0)]⟩) (fun r => r ≤ 4) (fun r => 4 - r) 0 (by omega) (go (r := ?_)) (fun r hr => ?_)
    · simp [part_zero]
    have hpl1 := part_len (fh 4 g l) 16 (r * 4) 0
    refine go (r := ?_); and_intros <;> intros <;> try exact True.intro
    · refine WpA.loop (fun k : Nat => ⟨[(0, LLn 4 M), (1, IL l), (5, I 4), (6, .own 0 1 0 16), (7, .own 1 1 0 16), (8, I r), (35, I 4), (36, I r), (39, I 4), (40, I k)], [XD (part (fh 4 g l) 16 (r * 4 + k) 0), XD (List.replicate 16 0)]⟩) (fun k => k ≤ 4) (fun k => 4 - k) 0 (by omega) (go (r := ?_)) (fun k hk => ?_)
      · trivial
      have hpl2 := part_len (fh 4 g l) 16 (r * 4 + k) 0
      refine go (r := ?_); and_intros <;> intros <;> try exact True.intro
      · refine WpA.loop (fun i : Nat => ⟨[(0, LLn 4 M), (1, IL l), (5, I 4), (6, .own 0 1 0 16), (7, .own 1 1 0 16), (8, I r), (9, I k), (35, I 4), (36, I r), (39, I 4), (40, I k), (43, I 4), (44, I i)], [XD (part (fh 4 g l) 16 (r * 4 + k) (sh 4 g l r k i)), XD (List.replicate 16 0)]⟩) (fun i => i ≤ 4) (fun i => 4 - i) 0 (by omega) (go (r := ?_)) (fun i hi => ?_)
        · simp [sumF]
        have hpl3 := part_len (fh 4 g l) 16 (r * 4 + k) (sh 4 g l r k i)
        have hM2r := hM2 r
        have hsb : -((i : Int) * (2 * 1000000000)) ≤ sh 4 g l r k i ∧ sh 4 g l r k i ≤ (i : Int) * (2 * 1000000000) := half_bd (n := 4) (g := g) (l := l) (c := 1000000000) hg h2 (by omega) r k i
        have hdm := divmod (n := 4) (r := r) (k := k)
        have hgl := in_getZ h2 (by decide) (i * 4 + k)
        have hgg := mul2 (hg r i) hgl (by decide)
        have hst : sh 4 g l r k (i + 1) = sh 4 g l r k i + g r i * l.getD (i * 4 + k) 0 := rfl
        refine go (r := ?_); and_intros <;> intros <;> try exact True.intro
        · rename_i hi1
          have hr1 : r < 4 := by omega
          have hk1 : k < 4 := by omega
          have e1 : ((r : Int) * 4 + k).toNat = r * 4 + k := by omega
          have e2 : ((i : Int) * 4 + k).toNat = i * 4 + k := by omega
          have e3 : (M.getD r default).getD i 0 = g r i := hM3 r i hr1 (by omega)
          rw [e1, e2, e3, part_get (by omega), part_set (by omega), wrap64 (g r i * l.getD (i * 4 + k) 0) (by omega), wrap64 _ (by omega), hst]
        · have hi1 : i = 4 := by omega
          subst hi1
          rw [← Nat.add_assoc]; exact part_next (by show sh 4 g l r k 4 = halfM 4 g l ((r * 4 + k) / 4) ((r * 4 + k) % 4); rw [(hdm (by omega)).1, (hdm (by omega)).2]; rfl)
      · have hk1 : k = 4 := by omega
        rw [hk1, Nat.succ_mul]
    have hr1 : r = 4 := by omega
    subst hr1
    have ep : part (fh 4 g l) 16 (4 * 4) 0 = tabL (fh 4 g l) 16 := part_all _ _ _
    rw [ep]
    have hplh := tabL_len (fh 4 g l) 16
    refine WpA.loop (fun r : Nat => ⟨[(0, LLn 4 M), (5, I 4), (6, .own 0 1 0 16), (7, .own 1 1 0 16), (76, I 4), (77, I r)], [XD (tabL (fh 4 g l) 16), XD (part (fo 4 g l) 16 (r * 4) 0)]⟩) (fun r => r ≤ 4) (fun r => 4 - r) 0 (by omega) (go (r := ?_)) (fun r hr => ?_)
    · simp [part_zero]
    have hpl1 := part_len (fo 4 g l) 16 (r * 4) 0
    refine go (r := ?_); and_intros <;> intros <;> try exact True.intro
    · refine WpA.loop (fun k : Nat => ⟨[(0, LLn 4 M), (5, I 4), (6, .own 0 1 0 16), (7, .own 1 1 0 16), (11, I r), (76, I 4), (77, I r), (80, I 4), (81, I k)], [XD (tabL (fh 4 g l) 16), XD (part (fo 4 g l) 16 (r * 4 + k) 0)]⟩) (fun k => k ≤ 4) (fun k => 4 - k) 0 (by omega) (go (r := ?_)) (fun k hk => ?_)
      · trivial
      have hpl2 := part_len (fo 4 g l) 16 (r * 4 + k) 0
      refine go (r := ?_); and_intros <;> intros <;> try exact True.intro
      · refine WpA.loop (fun i : Nat => ⟨[(0, LLn 4 M), (5, I 4), (6, .own 0 1 0 16), (7, .own 1 1 0 16), (11, I r), (12, I k), (76, I 4), (77, I r), (80, I 4), (81, I k), (84, I 4), (85, I i)], [XD (tabL (fh 4 g l) 16), XD (part (fo 4 g l) 16 (r * 4 + k) (so 4 g l r k i))]⟩) (fun i => i ≤ 4) (fun i => 4 - i) 0 (by omega) (go (r := ?_)) (fun i hi => ?_)
        · simp [sumF]
        have hpl3 := part_len (fo 4 g l) 16 (r * 4 + k) (so 4 g l r k i)
        have hM2r := hM2 k
        have hsb := so_bd (n := 4) hg h2 (by omega) r k i
        have hdm := divmod (n := 4) (r := r) (k := k)
        have hdi := divmod (n := 4) (r := r) (k := i)
        have hgl := half_in (n := 4) hg h2 (by omega) r i
        have hgg := mul_huge hgl (hg k i)
        have hst : so 4 g l r k (i + 1) = so 4 g l r k i + halfM 4 g l r i * g k i := rfl
        refine go (r := ?_); and_intros <;> intros <;> try exact True.intro
        · rename_i hi1
          have hr1 : r < 4 := by omega
          have hk1 : k < 4 := by omega
          have e1 : ((r : Int) * 4 + k).toNat = r * 4 + k := by omega
          have e2 : ((r : Int) * 4 + i).toNat = r * 4 + i := by omega
          have e3 : (M.getD k default).getD i 0 = g k i := hM3 k i hk1 (by omega)
          have e4 : (tabL (fh 4 g l) 16).getD (r * 4 + i) 0 = halfM 4 g l r i := by rw [tabL_get (by omega)]; show halfM 4 g l ((r * 4 + i) / 4) ((r * 4 + i) % 4) = _; rw [(hdi (by omega)).1, (hdi (by omega)).2]
          rw [e1, e2, e3, e4, part_get (by omega), part_set (by omega), wrap64 (halfM 4 g l r i * g k i) (by omega), wrap64 _ (by omega), hst]
        · have hi1 : i = 4 := by omega
          subst hi1
          rw [← Nat.add_assoc]; exact part_next (by show so 4 g l r k 4 = fullM 4 g l ((r * 4 + k) / 4) ((r * 4 + k) % 4); rw [(hdm (by omega)).1, (hdm (by omega)).2]; rfl)
      · have hk1 : k = 4 := by omega
        rw [hk1, Nat.succ_mul]
    all_goals have hr1 : r = 4 := by omega
    all_goals subst hr1
    all_goals first | (rw [e, tabL_len]; done) | (rw [e]; exact congrArg _ (part_all _ _ _)) | (rw [e]; exact part_all _ _ _) | trace_state
  · have e : prodL 4 g l = [] := by rw [prodL, if_neg h]
    refine FnC.of_body tabOk Tryz.func116 Tryz.ntmps116 rfl (by decide +kernel) (by simp) fun G => ?_
    refine goR (r := ?_); and_intros <;> intros <;> try exact True.intro
    all_goals first | (rw [e]; done) | (rw [e]; rfl) | (exact absurd ⟨by omega, by assumption⟩ h) | trace_state
theorem product_8 (g : Nat → Nat → Int) (M : List (List Int)) (l : List Int) (hg : Sgn g) (hM : RowsOk 8 g M) (hl : l.length ≤ 1099511627776) : Fn 116 [LLn 8 M, IL l] [XI (prodL 8 g l)] (.own 0 0 0 (prodL 8 g l).length) := by
  obtain ⟨hM1, hM2, hM3⟩ := hM
  have hpl := prodL_len 8 g l
  by_cases h : l.length = 64 ∧ In l (-1000000000) 1000000000
  · obtain ⟨h1, h2⟩ := id h
    have e : prodL 8 g l = tabL (fo 8 g l) 64 := by rw [prodL, if_pos h]; rfl
    refine FnC.of_body tabOk Tryz.func116 Tryz.ntmps116 rfl (by decide +kernel) (by simp) fun G => ?_
    refine goR (r := ?_); and_intros <;> intros <;> try exact True.intro
    all_goals first | (exfalso; omega) | (exact absurd h2 (by assumption)) | skip
    apply WpA.regionQ0 (O1 := [XD (List.replicate 64 0), XD (List.replicate 64 0), deadO, deadO]) 9 2 mixed (by decide +kernel)
    · exact rfl
    · apply HeadQ.consF .none rfl
      · exact rfl
      · exact in1
      · exact rfl
      · exact rfl
      apply HeadQ.consF .none rfl
      · exact rfl
      · exact in1
      · exact rfl
      · exact rfl
      apply HeadQ.consF .none rfl
      · exact rfl
      · exact in1
      · exact rfl
      · exact rfl
      apply HeadQ.consF (V := .own 0 1 0 64) (.put 0 (XD (List.replicate 64 0))) rfl
      · exact rfl
      · intro Tv Ov hc hp hd hk
        refine WpL.makeInts tabOk rfl rfl rfl (by decide) (by decide) (by rw [nid_len, Nat.zero_add]) (by decide) ?_
        apply WpL.putNil (p := 0)
        · exact hp 0 _ rfl
        · exact Nat.zero_le _
        · exact rfl
        · first | exact still_ints _ | exact still_rows (fun _ => rfl) _ | rfl
      · exact rfl
      · exact rfl
      apply HeadQ.consF .none rfl
      · exact rfl
      · exact in1
      · exact rfl
      · exact rfl
      apply HeadQ.consF .none rfl
      · exact rfl
      · exact in1
      · exact rfl
      · exact rfl
      apply HeadQ.consF .none rfl
      · exact rfl
      · exact in1
      · exact rfl
      · exact rfl
      apply HeadQ.consF (V := .own 1 1 0 64) (.put 1 (XD (List.replicate 64 0))) rfl
      · exact rfl
      · intro Tv Ov hc hp hd hk
        refine WpL.makeInts tabOk rfl rfl rfl (by decide) (by decide) (by rw [nid_len, Nat.zero_add]) (by decide) ?_
        apply WpL.putNil (p := 1)
        · exact hp 1 _ rfl
        · exact Nat.zero_le _
        · exact rfl
        · first | exact still_ints _ | exact still_rows (fun _ => rfl) _ | rfl
      · exact rfl
      · exact rfl
      apply HeadQ.consF .none rfl
      · exact rfl
      · exact in1
      · exact rfl
      · exact rfl
      exact HeadQ.nil
    · exact rfl
    · exact rfl
    · exact rfl
    · exact rfl
    · exact rfl
    · exact rfl
    refine go (r := ?_); and_intros <;> intros <;> try exact True.intro
    refine WpA.loop (fun r : Nat => ⟨[(0, LLn 8 M), (1, IL l), (5, I 8), (6, .own 0 1 0 64), (7, .own 1 1 0 64), (35, I 8), (36, I r)], [XD (part (fh 8 g l) 64 (r * 8) 0), XD (List.replicate 64 0)]⟩) (fun r => r ≤ 8) (fun r => 8 - r) 0 (by omega) (go (r := ?_)) (fun r hr => ?_)
    · simp [part_zero]
    have hpl1 := part_len (fh 8 g l) 64 (r * 8) 0
    refine go (r := ?_); and_intros <;> intros <;> try exact True.intro
    · refine WpA.loop (fun k : Nat => ⟨[(0, LLn 8 M), (1, IL l), (5, I 8), (6, .own 0 1 0 64), (7, .own 1 1 0 64), (8, I r), (35, I 8), (36, I r), (39, I 8), (40, I k)], [XD (part (fh 8 g l) 64 (r * 8 + k) 0), XD (List.replicate 64 0)]⟩) (fun k => k ≤ 8) (fun k => 8 - k) 0 (by omega) (go (r := ?_)) (fun k hk => ?_)
      · trivial
      have hpl2 := part_len (fh 8 g l) 64 (r * 8 + k) 0
      refine go (r := ?_); and_intros <;> intros <;> try exact True.intro
      · refine WpA.loop (fun i : Nat => ⟨[(0, LLn 8 M), (1, IL l), (5, I 8), (6, .own 0 1 0 64), (7, .own 1 1 0 64), (8, I r), (9, I k), (35, I 8), (36, I r), (39, I 8), (40, I k), (43, I 8), (44, I i)], [XD (part (fh 8 g l) 64 (r * 8 + k) (sh 8 g l r k i)), XD (List.replicate 64 0)]⟩) (fun i => i ≤ 8) (fun i => 8 - i) 0 (by omega) (go (r := ?_)) (fun i hi => ?_)
        · simp [sumF]
        have hpl3 := part_len (fh 8 g l) 64 (r * 8 + k) (sh 8 g l r k i)
        have hM2r := hM2 r
        have hsb : -((i : Int) * (2 * 1000000000)) ≤ sh 8 g l r k i ∧ sh 8 g l r k i ≤ (i : Int) * (2 * 1000000000) := half_bd (n := 8) (g := g) (l := l) (c := 1000000000) hg h2 (by omega) r k i
        have hdm := divmod (n := 8) (r := r) (k := k)
        have hgl := in_getZ h2 (by decide) (i * 8 + k)
        have hgg := mul2 (hg r i) hgl (by decide)
        have hst : sh 8 g l r k (i + 1) = sh 8 g l r k i + g r i * l.getD (i * 8 + k) 0 := rfl
        refine go (r := ?_); and_intros <;> intros <;> try exact True.intro
        · rename_i hi1
          have hr1 : r < 8 := by omega
          have hk1 : k < 8 := by omega
          have e1 : ((r : Int) * 8 + k).toNat = r * 8 + k := by omega
          have e2 : ((i : Int) * 8 + k).toNat = i * 8 + k := by omega
          have e3 : (M.getD r default).getD i 0 = g r i := hM3 r i hr1 (by omega)
          rw [e1, e2, e3, part_get (by omega), part_set (by omega), wrap64 (g r i * l.getD (i * 8 + k) 0) (by omega), wrap64 _ (by omega), hst]
        · have hi1 : i = 8 := by omega
          subst hi1
          rw [← Nat.add_assoc]; exact part_next (by show sh 8 g l r k 8 = halfM 8 g l ((r * 8 + k) / 8) ((r * 8 + k) % 8); rw [(hdm (by omega)).1, (hdm (by omega)).2]; rfl)
      · have hk1 : k = 8 := by omega
        rw [hk1, Nat.succ_mul]
    have hr1 : r = 8 := by omega
    subst hr1
    have ep : part (fh 8 g l) 64 (8 * 8) 0 = tabL (fh 8 g l) 64 := part_all _ _ _
    rw [ep]
    have hplh := tabL_len (fh 8 g l) 64
    refine WpA.loop (fun r : Nat => ⟨[(0, LLn 8 M), (5, I 8), (6, .own 0 1 0 64), (7, .own 1 1 0 64), (76, I 8), (77, I r)], [XD (tabL (fh 8 g l) 64), XD (part (fo 8 g l) 64 (r * 8) 0)]⟩) (fun r => r ≤ 8) (fun r => 8 - r) 0 (by omega) (go (r := ?_)) (fun r hr => ?_)
    · simp [part_zero]
    have hpl1 := part_len (fo 8 g l) 64 (r * 8) 0
    refine go (r := ?_); and_intros <;> intros <;> try exact True.intro
    · refine WpA.loop (fun k : Nat => ⟨[(0, LLn 8 M), (5, I 8), (6, .own 0 1 0 64), (7, .own 1 1 0 64), (11, I r), (76, I 8), (77, I r), (80, I 8), (81, I k)], [XD (tabL (fh 8 g l) 64), XD (part (fo 8 g l) 64 (r * 8 + k) 0)]⟩) (fun k => k ≤ 8) (fun k => 8 - k) 0 (by omega) (go (r := ?_)) (fun k hk => ?_)
      · trivial
      have hpl2 := part_len (fo 8 g l) 64 (r * 8 + k) 0
      refine go (r := ?_); and_intros <;> intros <;> try exact True.intro
      · refine WpA.loop (fun i : Nat => ⟨[(0, LLn 8 M), (5, I 8), (6, .own 0 1 0 64), (7, .own 1 1 0 64), (11, I r), (12, I k), (76, I 8), (77, I r), (80, I 8), (81, I k), (84, I 8), (85, I i)], [XD (tabL (fh 8 g l) 64), XD (part (fo 8 g l) 64 (r * 8 + k) (so 8 g l r k i))]⟩) (fun i => i ≤ 8) (fun i => 8 - i) 0 (by omega) (go (r := ?_)) (fun i hi => ?_)
        · simp [sumF]
        have hpl3 := part_len (fo 8 g l) 64 (r * 8 + k) (so 8 g l r k i)
        have hM2r := hM2 k
        have hsb := so_bd (n := 8) hg h2 (by omega) r k i
        have hdm := divmod (n := 8) (r := r) (k := k)
        have hdi := divmod (n := 8) (r := r) (k := i)
        have hgl := half_in (n := 8) hg h2 (by omega) r i
        have hgg := mul_huge hgl (hg k i)
        have hst : so 8 g l r k (i + 1) = so 8 g l r k i + halfM 8 g l r i * g k i := rfl
        refine go (r := ?_); and_intros <;> intros <;> try exact True.intro
        · rename_i hi1
          have hr1 : r < 8 := by omega
          have hk1 : k < 8 := by omega
          have e1 : ((r : Int) * 8 + k).toNat = r * 8 + k := by omega
          have e2 : ((r : Int) * 8 + i).toNat = r * 8 + i := by omega
          have e3 : (M.getD k default).getD i 0 = g k i := hM3 k i hk1 (by omega)
          have e4 : (tabL (fh 8 g l) 64).getD (r * 8 + i) 0 = halfM 8 g l r i := by rw [tabL_get (by omega)]; show halfM 8 g l ((r * 8 + i) / 8) ((r * 8 + i) % 8) = _; rw [(hdi (by omega)).1, (hdi (by omega)).2]
          rw [e1, e2, e3, e4, part_get (by omega), part_set (by omega), wrap64 (halfM 8 g l r i * g k i) (by omega), wrap64 _ (by omega), hst]
        · have hi1 : i = 8 := by omega
          subst hi1
          rw [← Nat.add_assoc]; exact part_next (by show so 8 g l r k 8 = fullM 8 g l ((r * 8 + k) / 8) ((r * 8 + k) % 8); rw [(hdm (by omega)).1, (hdm (by omega)).2]; rfl)
      · have hk1 : k = 8 := by omega
        rw [hk1, Nat.succ_mul]
    all_goals have hr1 : r = 8 := by omega
    all_goals subst hr1
    all_goals first | (rw [e, tabL_len]; done) | (rw [e]; exact congrArg _ (part_all _ _ _)) | (rw [e]; exact part_all _ _ _) | trace_state
  · have e : prodL 8 g l = [] := by rw [prodL, if_neg h]
    refine FnC.of_body tabOk Tryz.func116 Tryz.ntmps116 rfl (by decide +kernel) (by simp) fun G => ?_
    refine goR (r := ?_); and_intros <;> intros <;> try exact True.intro
    all_goals first | (rw [e]; done) | (rw [e]; rfl) | (exact absurd ⟨by omega, by assumption⟩ h) | trace_state
end Go.Proofs.YtjhejgamjlokdaaGreat


namespace Go.Proofs.YtjhejgamjlokdaaGreat
open Go Go.Abs
attribute [local irreducible] WpA WpL Rnd Blk Abs.Seq Abs.Fin Abs.FinG FnC FnG Only RollN
def ocF (x : Int) : Int := if x = 1 ∨ x = 2 ∨ x = 4 then 1 else if x = 3 ∨ x = 5 ∨ x = 6 then 2 else if x = 7 then 3 else 0
instance OnesCount64_c : Con 141 (∀ x : Int, 0 ≤ x ∧ x < 8 → Fn 141 [.sc (.int .u64 x)] [] (I (ocF x))) := ⟨fun x hx => by
  rcases (by omega : x = 0 ∨ x = 1 ∨ x = 2 ∨ x = 3 ∨ x = 4 ∨ x = 5 ∨ x = 6 ∨ x = 7) with rfl | rfl | rfl | rfl | rfl | rfl | rfl | rfl
  all_goals refine FnC.of_body tabOk Tryz.func141 Tryz.ntmps141 rfl (by decide +kernel) (by simp) fun G => ?_
  all_goals refine go (r := ?_); and_intros <;> intros <;> try exact True.intro
  all_goals first | (decide +kernel) | rfl | (apply Re.setA (c := cellsH r) (V := .own 2 _ 0 _) (V' := .own 2 _ 0 _); (· apply Re.own (id := 2) <;> first | exact rfl | exact .nil); exact hst)⟩
instance OnesCount_c : Con 134 (∀ x : Int, 0 ≤ x ∧ x < 8 → Fn 134 [.sc (.int .u64 x)] [] (I (ocF x))) := ⟨fun x hx => by
  refine FnC.of_body tabOk Tryz.func134 Tryz.ntmps134 rfl (by decide +kernel) (by simp) fun G => ?_
  refine go (r := ?_); and_intros <;> intros <;> try exact True.intro⟩
theorem ocF_bd (x : Int) : 0 ≤ ocF x ∧ ocF x ≤ 3 := by unfold ocF; split <;> (try split) <;> (try split) <;> omega
theorem ocF_par (b : Nat) (h : b < 8) : 1 - 2 * (ocF b % 2) = par b := by
  rcases (by omega : b = 0 ∨ b = 1 ∨ b = 2 ∨ b = 3 ∨ b = 4 ∨ b = 5 ∨ b = 6 ∨ b = 7) with rfl | rfl | rfl | rfl | rfl | rfl | rfl | rfl <;> rfl
def cellsH (r : Nat) : List AV := (List.range 8).map fun q => if q < r then .fre 1 8 (ints (tabL (mx 8 q) 8)) else .nilS
theorem andu (r k : Nat) (h : r < 8) (h2 : k < 8) : IntKind.u64.wrap (IntKind.i64.wrap ((BitVec.ofInt IntKind.i64.bits (r : Int) &&& BitVec.ofInt IntKind.i64.bits (k : Int)).toNat : Nat)) = ((r &&& k : Nat) : Int) ∧ r &&& k < 8 := by
  have := Nat.and_le_left (n := r) (m := k)
  rw [andw r k (by omega) (by omega)]
  refine ⟨?_, by omega⟩
  generalize r &&& k = b at this
  have hb : b < 8 := by omega
  rcases (by omega : b = 0 ∨ b = 1 ∨ b = 2 ∨ b = 3 ∨ b = 4 ∨ b = 5 ∨ b = 6 ∨ b = 7) with rfl | rfl | rfl | rfl | rfl | rfl | rfl | rfl <;> rfl
def invH (r : Nat) : Nat → List AObj
  | 0 => [⟨(cellsH r).set r .nilS, 0, 1, some 22⟩]
  | k + 1 => [⟨(cellsH r).set r (.own 2 0 0 (k + 1)), 0, 1, some 22⟩, ⟨[.any], 0, 1, none⟩, XI (tabL (mx 8 r) (k + 1))]
theorem cellsH_nil {r : Nat} (h : r < 8) : cellsH r = (cellsH r).set r .nilS := by
  rcases (by omega : r = 0 ∨ r = 1 ∨ r = 2 ∨ r = 3 ∨ r = 4 ∨ r = 5 ∨ r = 6 ∨ r = 7) with rfl | rfl | rfl | rfl | rfl | rfl | rfl | rfl <;> rfl
theorem cellsH_succ {r : Nat} (h : r < 8) (X : AV) : ((cellsH r).set r X).set r (.fre 1 8 (ints (tabL (mx 8 r) 8))) = cellsH (r + 1) := by
  rcases (by omega : r = 0 ∨ r = 1 ∨ r = 2 ∨ r = 3 ∨ r = 4 ∨ r = 5 ∨ r = 6 ∨ r = 7) with rfl | rfl | rfl | rfl | rfl | rfl | rfl | rfl <;> rfl
theorem hnest {r : Nat} (h : r < 8) : flatO [⟨((cellsH r).set r (.own 2 0 0 8)).set r (.fre 1 8 (ints (tabL (mx 8 r) 8))), 0, 1, some 22⟩, ⟨[.any], 0, 1, none⟩, ⟨[], 1, 0, none⟩] = some [⟨cellsH (r + 1), 0, 1, some 22⟩, ⟨[.any], 0, 1, none⟩, ⟨[], 1, 0, none⟩] := by
  rw [cellsH_succ h]; rfl
theorem Re.consA {O O' : List AObj} {V V' : AV} {vs us : List AV} (h : Re O O' [V] [V']) (r : Re O O' vs us) : Re O O' (V :: vs) (V' :: us) := by
  cases h with
  | any _ => exact .any r
  | keep a b _ => exact .keep a b r
  | fn a _ => exact .fn a r
  | own a b c d e f _ => exact .own a b c d e f r
  | ptr a b c d _ => exact .ptr a b c d r
  | agg a _ => exact .agg a r
  | tup a _ => exact .tup a r
theorem Re.setA {O O' : List AObj} {V V' : AV} (h : Re O O' [V] [V']) : ∀ {c : List AV} {i : Nat}, c.all AV.still = true → Re O O' (c.set i V) (c.set i V')
  | [], i, _ => .nil
  | a :: c, 0, hs => Re.consA h (Re.same rfl (by rw [List.all_cons, Bool.and_eq_true] at hs; exact hs.2))
  | a :: c, i + 1, hs => by
    rw [List.all_cons, Bool.and_eq_true] at hs
    exact Re.keep rfl hs.1 (Re.setA h hs.2)
theorem cellsH_still (r : Nat) : (cellsH r).all AV.still = true := by
  rw [List.all_eq_true]; intro V hV; simp only [cellsH, List.mem_map] at hV; obtain ⟨q, _, rfl⟩ := hV
  split <;> rfl
theorem cellsH_len (r : Nat) : (cellsH r).length = 8 := by simp [cellsH]
theorem cellsH_8 : cellsH 8 = rows liF H8 := rfl
theorem cellsH_0 : cellsH 0 = [.nilS, .nilS, .nilS, .nilS, .nilS, .nilS, .nilS, .nilS] := rfl
attribute [local irreducible] cellsH
instance matrixH_c : Con 119 (Fn 119 [] [⟨rows liF H8, 0, 1, some 22⟩] (.own 0 0 0 8)) := ⟨by
  refine FnC.of_body tabOk Tryz.func119 Tryz.ntmps119 rfl (by decide +kernel) (by simp) fun G => ?_
  refine K.A ?_
  refine WpA.seq ?_
  refine WpA.regionF rfl ?_
  refine WpL.assign rfl (by decide) ?_
  refine WpL.nil ?_
  refine Abs.Seq.n ?_
  refine WpA.seq ?_
  refine WpA.regionF rfl ?_
  refine WpL.make tabOk rfl rfl rfl (by decide) (by decide) rfl (by decide) ?_
  refine go (r := ?_); and_intros <;> intros <;> try exact True.intro
  refine WpA.loop (fun r : Nat => ⟨[(1, .own 0 0 0 8), (5, I r)], [⟨cellsH r, 0, 1, some 22⟩]⟩) (fun r => r ≤ 8) (fun r => 8 - r) 0 (by omega) (go (r := ?_)) (fun r hr => ?_)
  · and_intros <;> first | trivial | rfl | exact .nil | exact .inr rfl | exact Re.same cellsH_0.symm (cellsH_still 0) | trace_state
  by_cases h8 : r = 8
  · subst h8
    refine go (r := ?_); and_intros <;> intros <;> try exact True.intro
    all_goals first | exact cellsH_8 | trace_state
  have hr8 : r < 8 := by omega
  have hcl := cellsH_len r
  have hst := cellsH_still r
  have hc0 := cellsH_nil hr8
  refine go (r := ?_); and_intros <;> intros <;> try exact True.intro
  refine WpA.loop (fun k : Nat => ⟨[(1, .own 0 0 0 8), (2, I r), (5, I r), (8, I k)], invH r k⟩) (fun k => k ≤ 8) (fun k => 8 - k) 0 (by omega) (go (r := ?_)) (fun k hk => ?_)
  · and_intros <;> first | trivial | rfl | exact .nil | exact .inr rfl | (exact hc0) | exact Re.same hc0 (by rw [← hc0]; exact hst) | trace_state
  by_cases hk8 : k = 8
  · subst hk8
    refine WpA.weak (NestC.weak (id := 0) (offs := [r]) (O2 := [⟨cellsH (r + 1), 0, 1, some 22⟩, ⟨[.any], 0, 1, none⟩, ⟨[], 1, 0, none⟩]) ?_) ?_
    · apply NestC.cons (off := r) (j := 2) (O1 := [⟨cellsH (r + 1), 0, 1, some 22⟩, ⟨[.any], 0, 1, none⟩, ⟨[], 1, 0, none⟩])
      · exact rfl
      · exact List.getElem?_set_self (by omega)
      · exact rfl
      · exact rfl
      · decide
      · exact rfl
      · exact still_ints _
      · exact rfl
      · exact hnest hr8
      · exact .nil
    have hst1 := cellsH_still (r + 1)
    refine go (r := ?_); and_intros <;> intros <;> try exact True.intro
    all_goals first | exact Re.same rfl hst1 | trace_state
  obtain ⟨hau, hal⟩ := andu r k (by omega) (by omega)
  have hob := ocF_bd (IntKind.u64.wrap (IntKind.i64.wrap ((BitVec.ofInt IntKind.i64.bits ((r : Nat) : Int) &&& BitVec.ofInt IntKind.i64.bits (k : Int)).toNat : Nat)))
  have hop := ocF_par (r &&& k) hal
  have hkl := tabL_len (mx 8 r) k
  have hval : 1 - 2 * (ocF (IntKind.u64.wrap (IntKind.i64.wrap ((BitVec.ofInt IntKind.i64.bits ((r : Nat) : Int) &&& BitVec.ofInt IntKind.i64.bits (k : Int)).toNat : Nat))) % 2) = mx 8 r k := by rw [hau]; exact hop
  rcases k with _ | k
  · refine go (r := ?_); and_intros <;> intros <;> try exact True.intro
    all_goals first | exact Re.any Re.nil | exact .inl rfl | (rw [hval]; rfl) | (apply Re.setA (c := cellsH r) (V := .own 2 _ 0 _) (V' := .own 2 _ 0 _); (· apply Re.own (id := 2) <;> first | exact rfl | exact .nil); exact hst) | exact Re.same rfl hst | trace_state
  · refine go (r := ?_); and_intros <;> intros <;> try exact True.intro
    all_goals first | (rw [tabL_snoc _ (k + 1), hval]; done) | exact Re.any Re.nil | (apply Re.setA (c := cellsH r) (V := .own 2 _ 0 _) (V' := .own 2 _ 0 _); (· apply Re.own (id := 2) <;> first | exact rfl | exact .nil); exact hst) | (apply Re.setA (c := cellsH r) (V := .own 2 _ 0 _) (V' := .own 2 _ 0 _); (· apply Re.own (id := 2) <;> first | exact rfl | exact .nil); exact hst)⟩
end Go.Proofs.YtjhejgamjlokdaaGreat


namespace Go.Proofs.YtjhejgamjlokdaaGreat
open Go Go.Abs
attribute [local irreducible] WpA WpL Rnd Blk Abs.Seq Abs.Fin Abs.FinG FnC FnG Only
end Go.Proofs.YtjhejgamjlokdaaGreat


namespace Go.Proofs.YtjhejgamjlokdaaGreat
open Go Go.Abs
attribute [local irreducible] WpA WpL Rnd Blk Abs.Seq Abs.Fin Abs.FinG FnC FnG Only
def side (k : Nat) : Int := if k = 16 then 4 else if k = 64 then 8 else 0
theorem side_pos (k : Nat) : 0 < side k ↔ k = 16 ∨ k = 64 := by unfold side; split <;> (try split) <;> omega
theorem side_cases (k : Nat) : (k = 16 ∧ side k = 4) ∨ (k = 64 ∧ side k = 8) ∨ (k ≠ 16 ∧ k ≠ 64 ∧ side k = 0) := by unfold side; split <;> (try split) <;> omega
instance SizeOk_s : Con 70 (∀ n : Int, Fn 70 [I n] [] (B (decide (n = 4 ∨ n = 8)))) := ⟨fun n => by
  refine FnC.of_body tabOk Tryz.func70 Tryz.ntmps70 rfl (by decide +kernel) (by simp) fun G => ?_
  refine go (r := ?_); and_intros <;> intros <;> try exact True.intro
  all_goals simp_all⟩
instance SizeOk_c : Con 90 (∀ n : Int, Fn 90 [I n] [] (B (decide (n = 4 ∨ n = 8)))) := ⟨fun n => by
  refine FnC.of_body tabOk Tryz.func90 Tryz.ntmps90 rfl (by decide +kernel) (by simp) fun G => ?_
  refine go (r := ?_); and_intros <;> intros <;> try exact True.intro
  all_goals simp_all⟩
instance l9Side_s : Con 33 (∀ l : List Int, l.length ≤ 9223372036854775807 → Fn 33 [IL l] [] (I (side l.length))) := ⟨fun l hl => by
  refine FnC.of_body tabOk Tryz.func33 Tryz.ntmps33 rfl (by decide +kernel) (by simp) fun G => ?_
  have h := side_cases l.length
  refine go (r := ?_); and_intros <;> intros <;> try exact True.intro⟩
instance sizeOf_c : Con 48 (∀ k : Nat, Fn 48 [I k] [] (I (side k))) := ⟨fun k => by
  refine FnC.of_body tabOk Tryz.func48 Tryz.ntmps48 rfl (by decide +kernel) (by simp) fun G => ?_
  have h := side_cases k
  refine go (r := ?_); and_intros <;> intros <;> try exact True.intro⟩
def psum (l : List Int) (k : Nat) : Int := (l.take k).sum
theorem psum_zero (l : List Int) : psum l 0 = 0 := by simp [psum]
theorem psum_succ (l : List Int) (k : Nat) (h : k < l.length) : psum l (k + 1) = psum l k + l.getD k 0 := by
  unfold psum; rw [List.take_succ_eq_append_getElem h, List.sum_append]; simp [h]
theorem psum_all (l : List Int) : psum l l.length = l.sum := by simp [psum]
theorem psum_bd {l : List Int} (h : In l 0 255) (k : Nat) (hk : k ≤ l.length) : 0 ≤ psum l k ∧ psum l k ≤ 255 * k := by
  induction k with
  | zero => simp [psum]
  | succ k ih =>
    have h1 := in_get h (k := k) (by omega)
    have h2 := ih (by omega)
    rw [psum_succ l k (by omega)]; omega
theorem in_take {l : List Int} {lo hi : Int} (h : In l lo hi) (k : Nat) : In (l.take k) lo hi := by unfold In at *; intro v hv; exact h v (List.mem_of_mem_take hv)
instance l14Sum_s : Con 124 (∀ l : List Int, l.length ≤ 1099511627776 ∧ In l 0 255 → Fn 124 [IL l] [] (I l.sum)) := ⟨fun l hl => by
  refine FnC.of_body tabOk Tryz.func124 Tryz.ntmps124 rfl (by decide +kernel) (by simp) fun G => ?_
  refine go (r := ?_); and_intros <;> intros <;> try exact True.intro
  refine WpA.loop (fun k : Nat => ⟨[(0, IL l), (3, I (psum l k)), (4, I k)], []⟩) (fun k => k ≤ l.length) (fun k => l.length - k) 0 (by omega) (go (r := ?_)) (fun k hk => ?_)
  · simp [psum_zero]
  have hb := psum_bd hl.2 k hk
  have hg := fun h => in_get hl.2 (k := k) h
  have hs := fun h => psum_succ l k h
  refine go (r := ?_); and_intros <;> intros <;> try exact True.intro
  · have e : k = l.length := by omega
    subst e; rw [psum_all]⟩
instance Clone_c : Con 91 (∀ l : List Int, l.length ≤ 1099511627776 → Fn 91 [IL l] [XI l] (.own 0 0 0 l.length)) := ⟨fun l hl => by
  refine FnC.of_body tabOk Tryz.func91 Tryz.ntmps91 rfl (by decide +kernel) (by simp) fun G => ?_
  refine go (r := ?_); and_intros <;> intros <;> try exact True.intro
  all_goals (have e : l = [] := List.eq_nil_of_length_eq_zero (by omega)); subst e; rfl⟩
def revp (l : List Int) (i : Nat) : List Int := (List.range l.length).map fun k => if k < i ∨ l.length - 1 - k < i then l.getD (l.length - 1 - k) 0 else l.getD k 0
theorem revp_len (l : List Int) (i : Nat) : (revp l i).length = l.length := by simp [revp]
theorem revp_zero (l : List Int) : revp l 0 = l := by
  apply eq_all 0 (by rw [revp_len])
  intro j hj
  rw [revp_len] at hj
  simp [revp, hj]
theorem revp_get (l : List Int) (i j : Nat) (hj : j < l.length) : (revp l i).getD j 0 = if j < i ∨ l.length - 1 - j < i then l.getD (l.length - 1 - j) 0 else l.getD j 0 := by
  simp only [revp, List.getD_eq_getElem?_getD, List.getElem?_map, List.getElem?_range hj, Option.map_some, Option.getD_some]
theorem rev_get (l : List Int) (j : Nat) (hj : j < l.length) : l.reverse.getD j 0 = l.getD (l.length - 1 - j) 0 := by
  simp only [List.getD_eq_getElem?_getD, List.getElem?_reverse hj]
theorem revp_end (l : List Int) (i : Nat) (h : l.length ≤ 2 * i + 1) : revp l i = l.reverse := by
  apply eq_all 0 (by rw [revp_len, List.length_reverse])
  intro j hj
  rw [revp_len] at hj
  rw [revp_get l i j hj, rev_get l j hj]
  split
  · rfl
  · have : l.length - 1 - j = j := by omega
    rw [this]
theorem revp_step (l : List Int) (i : Nat) (h : 2 * i + 1 < l.length) : ((revp l i).set i ((revp l i).getD (l.length - 1 - i) 0)).set (l.length - 1 - i) ((revp l i).getD i 0) = revp l (i + 1) := by
  have e1 : (revp l i).getD (l.length - 1 - i) 0 = l.getD (l.length - 1 - i) 0 := by
    rw [revp_get l i _ (by omega), if_neg (by omega)]
  have e2 : (revp l i).getD i 0 = l.getD i 0 := by
    rw [revp_get l i _ (by omega), if_neg (by omega)]
  rw [e1, e2]
  apply eq_all 0 (by simp [revp_len])
  intro j hj
  simp only [List.length_set, revp_len] at hj
  rw [revp_get l (i + 1) j hj, List.getD_eq_getElem?_getD, List.getElem?_set, List.getElem?_set]
  simp only [List.length_set, revp_len]
  by_cases c1 : l.length - 1 - i = j
  · rw [if_pos c1, if_pos (by omega), if_pos (by omega), Option.getD_some]; congr 1; omega
  · rw [if_neg c1]
    by_cases c2 : i = j
    · rw [if_pos c2, if_pos (by omega), if_pos (by omega), Option.getD_some, c2]
    · rw [if_neg c2, ← List.getD_eq_getElem?_getD, revp_get l i j hj]
      by_cases c3 : j < i ∨ l.length - 1 - j < i
      · rw [if_pos c3, if_pos (by omega)]
      · rw [if_neg c3, if_neg (by omega)]
instance Reverse_c : ConG 135 (∀ l : List Int, 1 ≤ l.length ∧ l.length ≤ 1099511627776 → Gn 135 [.own 0 0 0 l.length] [XI l] [XI l.reverse] [] (.tup [])) := ⟨fun l hl => by
  refine FnG.of_bodyF tabOk Tryz.func135 Tryz.ntmps135 rfl (by decide +kernel) (by simp) rfl rfl fun G => ?_
  refine go (r := ?_); and_intros <;> intros <;> try exact True.intro
  refine WpA.loop (fun i : Nat => ⟨[(0, .own 0 0 0 l.length), (2, I i), (3, I ((l.length : Int) - 1 - i))], [XI (revp l i)]⟩) (fun i => 2 * i ≤ l.length) (fun i => l.length - i) 0 (by omega) (go (r := ?_)) (fun i hi => ?_)
  · simp [revp_zero]
  have hl2 := revp_len l i
  refine go (r := ?_); and_intros <;> intros <;> try exact True.intro
  · have e1 : ((l.length : Int) - 1 - (i : Int)).toNat = l.length - 1 - i := by omega
    rw [e1, Int.toNat_natCast]; exact revp_step l i (by omega)
  · exact revp_end l i (by omega)⟩
end Go.Proofs.YtjhejgamjlokdaaGreat


namespace Go.Proofs.YtjhejgamjlokdaaGreat
open Go Go.Abs
attribute [local irreducible] WpA WpL Rnd Blk Abs.Seq Abs.Fin Abs.FinG FnC FnG Only
def scX (d k : Nat) : Int := if (d : Int) % 2 = 0 then (d : Int) - k else k
def scIn (n : Int) (d : Nat) : Nat → List Int → List Int
  | 0, o => o
  | k + 1, o => if scX d k < n ∧ (d : Int) - scX d k < n then scIn n d k o ++ [((d : Int) - scX d k) * n + scX d k] else scIn n d k o
def scOut (n : Int) : Nat → List Int
  | 0 => []
  | d + 1 => scIn n d (d + 1) (scOut n d)
def scanL (n : Int) : List Int := if n = 4 ∨ n = 8 then scOut n (2 * n - 1).toNat else []
theorem scIn_yes {n : Int} {d k : Nat} {o : List Int} {x v : Int} (hx : scX d k = x) (h1 : x < n) (h2 : (d : Int) - x < n) (hv : v = ((d : Int) - x) * n + x) : scIn n d k o ++ [v] = scIn n d (k + 1) o := by
  rw [scIn, hx, if_pos ⟨h1, h2⟩, hv]
theorem scIn_no {n : Int} {d k : Nat} {o : List Int} {x : Int} (hx : scX d k = x) (h : ¬ (x < n ∧ (d : Int) - x < n)) : scIn n d k o = scIn n d (k + 1) o := by
  rw [scIn, hx, if_neg h]
theorem scIn_len (n : Int) (d : Nat) (o : List Int) : ∀ k, (scIn n d k o).length ≤ o.length + k
  | 0 => by simp [scIn]
  | k + 1 => by rw [scIn]; have := scIn_len n d o k; split <;> (try rw [List.length_append, List.length_singleton]) <;> omega
theorem scOut_len (n : Int) : ∀ d, d ≤ 16 → (scOut n d).length ≤ 16 * d
  | 0, _ => by simp [scOut]
  | d + 1, h => by rw [scOut]; have := scIn_len n d (scOut n d) (d + 1); have := scOut_len n d (by omega); omega
theorem scX_even {d k : Nat} (h : (d : Int) % 2 = 0) : scX d k = d - k := by rw [scX, if_pos h]
theorem scX_odd {d k : Nat} (h : ¬ (d : Int) % 2 = 0) : scX d k = k := by rw [scX, if_neg h]
theorem scIn_l1 {n : Int} {d k : Nat} {o : List Int} (h : scX d k < n ∧ (d : Int) - scX d k < n) : (scIn n d (k + 1) o).length = (scIn n d k o).length + 1 := by rw [scIn, if_pos h, List.length_append, List.length_singleton]
theorem scIn_l0 {n : Int} {d k : Nat} {o : List Int} (h : ¬ (scX d k < n ∧ (d : Int) - scX d k < n)) : (scIn n d (k + 1) o).length = (scIn n d k o).length := by rw [scIn, if_neg h]
instance ScanOrder_s : Con 100 (∀ n : Int, n = 0 ∨ n = 4 ∨ n = 8 → Fn 100 [I n] [XI (scanL n)] (.own 0 0 0 (scanL n).length)) := ⟨fun n hn => by
  refine FnC.of_body tabOk Tryz.func100 Tryz.ntmps100 rfl (by decide +kernel) (by simp) fun G => ?_
  have key : n = 0 → scanL n = [] := by rintro rfl; decide
  have k4 : n = 4 → scanL n = scOut 4 7 := by rintro rfl; rfl
  have k8 : n = 8 → scanL n = scOut 8 15 := by rintro rfl; rfl
  rcases hn with rfl | rfl | rfl
  · refine go (r := ?_); and_intros <;> intros <;> try exact True.intro
    refine WpA.loop (fun d : Nat => ⟨[(0, I 0), (3, .own 0 0 0 0), (4, I 0)], [XI []]⟩) (fun d => d ≤ 0) (fun d => 16 - d) 0 (by simp) (go (r := trivial)) (fun d hd => ?_)
    refine go (r := ?_); and_intros <;> intros <;> try exact True.intro
    all_goals rfl
  · refine go (r := ?_); and_intros <;> intros <;> try exact True.intro
    refine WpA.loop (fun d : Nat => ⟨[(0, I 4), (3, .own 0 0 0 (scOut 4 d).length), (4, I d)], [XI (scOut 4 d)]⟩) (fun d => d ≤ 7) (fun d => 7 - d) 0 (by simp) (go (r := ?_)) (fun d hd => ?_)
    · simp [scOut]
    have hol := scOut_len 4 d (by omega)
    have hso : (scOut 4 (d + 1)) = scIn 4 d (d + 1) (scOut 4 d) := rfl
    refine go (r := ?_); and_intros <;> intros <;> try exact True.intro
    · refine WpA.loop (fun k : Nat => ⟨[(0, I 4), (3, .own 0 0 0 (scIn 4 d k (scOut 4 d)).length), (4, I d), (5, I k)], [XI (scIn 4 d k (scOut 4 d))]⟩) (fun k => k ≤ d + 1) (fun k => d + 1 - k) 0 (by omega) (go (r := ?_)) (fun k hk => ?_)
      · simp [scIn]
      have hil := scIn_len 4 d (scOut 4 d) k
      have he := scX_even (d := d) (k := k)
      have hod := scX_odd (d := d) (k := k)
      have hl1 := scIn_l1 (n := 4) (d := d) (k := k) (o := scOut 4 d)
      have hl0 := scIn_l0 (n := 4) (d := d) (k := k) (o := scOut 4 d)
      have hso2 : k = d + 1 → (scOut 4 (d + 1)).length = (scIn 4 d k (scOut 4 d)).length := by rintro rfl; rfl
      refine go (r := ?_); and_intros <;> intros <;> try exact True.intro
      all_goals first
        | (exact scIn_yes (he ‹_›) (by omega) (by omega) (by omega))
        | (exact scIn_yes (hod ‹_›) (by omega) (by omega) (by omega))
        | (exact scIn_no (he ‹_›) (by omega))
        | (exact scIn_no (hod ‹_›) (by omega))
        | skip
      all_goals have e : k = d + 1 := by omega
      all_goals subst e
      all_goals rw [hso]
    all_goals have e : d = 7 := by omega
    all_goals subst e
    all_goals first | rfl | (rw [k4 rfl])
  · refine go (r := ?_); and_intros <;> intros <;> try exact True.intro
    refine WpA.loop (fun d : Nat => ⟨[(0, I 8), (3, .own 0 0 0 (scOut 8 d).length), (4, I d)], [XI (scOut 8 d)]⟩) (fun d => d ≤ 15) (fun d => 15 - d) 0 (by simp) (go (r := ?_)) (fun d hd => ?_)
    · simp [scOut]
    have hol := scOut_len 8 d (by omega)
    have hso : (scOut 8 (d + 1)) = scIn 8 d (d + 1) (scOut 8 d) := rfl
    refine go (r := ?_); and_intros <;> intros <;> try exact True.intro
    · refine WpA.loop (fun k : Nat => ⟨[(0, I 8), (3, .own 0 0 0 (scIn 8 d k (scOut 8 d)).length), (4, I d), (5, I k)], [XI (scIn 8 d k (scOut 8 d))]⟩) (fun k => k ≤ d + 1) (fun k => d + 1 - k) 0 (by omega) (go (r := ?_)) (fun k hk => ?_)
      · simp [scIn]
      have hil := scIn_len 8 d (scOut 8 d) k
      have he := scX_even (d := d) (k := k)
      have hod := scX_odd (d := d) (k := k)
      have hl1 := scIn_l1 (n := 8) (d := d) (k := k) (o := scOut 8 d)
      have hl0 := scIn_l0 (n := 8) (d := d) (k := k) (o := scOut 8 d)
      have hso2 : k = d + 1 → (scOut 8 (d + 1)).length = (scIn 8 d k (scOut 8 d)).length := by rintro rfl; rfl
      refine go (r := ?_); and_intros <;> intros <;> try exact True.intro
      all_goals first
        | (exact scIn_yes (he ‹_›) (by omega) (by omega) (by omega))
        | (exact scIn_yes (hod ‹_›) (by omega) (by omega) (by omega))
        | (exact scIn_no (he ‹_›) (by omega))
        | (exact scIn_no (hod ‹_›) (by omega))
        | skip
      all_goals have e : k = d + 1 := by omega
      all_goals subst e
      all_goals rw [hso]
    all_goals have e : d = 15 := by omega
    all_goals subst e
    all_goals first | rfl | (rw [k8 rfl])⟩
instance ScanOrder_c : Con 112 (∀ n : Int, n = 0 ∨ n = 4 ∨ n = 8 → Fn 112 [I n] [XI (scanL n)] (.own 0 0 0 (scanL n).length)) := ⟨fun n hn => by
  refine FnC.of_body tabOk Tryz.func112 Tryz.ntmps112 rfl (by decide +kernel) (by simp) fun G => ?_
  have k4 : n = 4 → scanL n = scOut 4 7 := by rintro rfl; rfl
  have k8 : n = 8 → scanL n = scOut 8 15 := by rintro rfl; rfl
  rcases hn with rfl | rfl | rfl
  · refine go (r := ?_); and_intros <;> intros <;> try exact True.intro
    all_goals rfl
  · refine go (r := ?_); and_intros <;> intros <;> try exact True.intro
    refine WpA.loop (fun d : Nat => ⟨[(0, I 4), (3, .own 0 0 0 (scOut 4 d).length), (14, I 7), (15, I d)], [XI (scOut 4 d)]⟩) (fun d => d ≤ 7) (fun d => 7 - d) 0 (by simp) (go (r := ?_)) (fun d hd => ?_)
    · simp [scOut]
    have hol := scOut_len 4 d (by omega)
    have hso : (scOut 4 (d + 1)) = scIn 4 d (d + 1) (scOut 4 d) := rfl
    refine go (r := ?_); and_intros <;> intros <;> try exact True.intro
    · refine WpA.loop (fun k : Nat => ⟨[(0, I 4), (3, .own 0 0 0 (scIn 4 d k (scOut 4 d)).length), (4, I d), (14, I 7), (15, I d), (19, I ((d : Int) + 1)), (20, I k)], [XI (scIn 4 d k (scOut 4 d))]⟩) (fun k => k ≤ d + 1) (fun k => d + 1 - k) 0 (by omega) (go (r := ?_)) (fun k hk => ?_)
      · simp [scIn]
      have hil := scIn_len 4 d (scOut 4 d) k
      have he := scX_even (d := d) (k := k)
      have hod := scX_odd (d := d) (k := k)
      have hl1 := scIn_l1 (n := 4) (d := d) (k := k) (o := scOut 4 d)
      have hl0 := scIn_l0 (n := 4) (d := d) (k := k) (o := scOut 4 d)
      have hso2 : k = d + 1 → (scOut 4 (d + 1)).length = (scIn 4 d k (scOut 4 d)).length := by rintro rfl; rfl
      refine go (r := ?_); and_intros <;> intros <;> try exact True.intro
      all_goals first
        | (exact scIn_yes (he ‹_›) (by omega) (by omega) (by omega))
        | (exact scIn_yes (hod ‹_›) (by omega) (by omega) (by omega))
        | (exact scIn_no (he ‹_›) (by omega))
        | (exact scIn_no (hod ‹_›) (by omega))
        | skip
      all_goals have e : k = d + 1 := by omega
      all_goals subst e
      all_goals rw [hso]
    all_goals have e : d = 7 := by omega
    all_goals subst e
    all_goals first | rfl | (rw [k4 rfl])
  · refine go (r := ?_); and_intros <;> intros <;> try exact True.intro
    refine WpA.loop (fun d : Nat => ⟨[(0, I 8), (3, .own 0 0 0 (scOut 8 d).length), (14, I 15), (15, I d)], [XI (scOut 8 d)]⟩) (fun d => d ≤ 15) (fun d => 15 - d) 0 (by simp) (go (r := ?_)) (fun d hd => ?_)
    · simp [scOut]
    have hol := scOut_len 8 d (by omega)
    have hso : (scOut 8 (d + 1)) = scIn 8 d (d + 1) (scOut 8 d) := rfl
    refine go (r := ?_); and_intros <;> intros <;> try exact True.intro
    · refine WpA.loop (fun k : Nat => ⟨[(0, I 8), (3, .own 0 0 0 (scIn 8 d k (scOut 8 d)).length), (4, I d), (14, I 15), (15, I d), (19, I ((d : Int) + 1)), (20, I k)], [XI (scIn 8 d k (scOut 8 d))]⟩) (fun k => k ≤ d + 1) (fun k => d + 1 - k) 0 (by omega) (go (r := ?_)) (fun k hk => ?_)
      · simp [scIn]
      have hil := scIn_len 8 d (scOut 8 d) k
      have he := scX_even (d := d) (k := k)
      have hod := scX_odd (d := d) (k := k)
      have hl1 := scIn_l1 (n := 8) (d := d) (k := k) (o := scOut 8 d)
      have hl0 := scIn_l0 (n := 8) (d := d) (k := k) (o := scOut 8 d)
      have hso2 : k = d + 1 → (scOut 8 (d + 1)).length = (scIn 8 d k (scOut 8 d)).length := by rintro rfl; rfl
      refine go (r := ?_); and_intros <;> intros <;> try exact True.intro
      all_goals first
        | (exact scIn_yes (he ‹_›) (by omega) (by omega) (by omega))
        | (exact scIn_yes (hod ‹_›) (by omega) (by omega) (by omega))
        | (exact scIn_no (he ‹_›) (by omega))
        | (exact scIn_no (hod ‹_›) (by omega))
        | skip
      all_goals have e : k = d + 1 := by omega
      all_goals subst e
      all_goals rw [hso]
    all_goals have e : d = 15 := by omega
    all_goals subst e
    all_goals first | rfl | (rw [k8 rfl])⟩
theorem scan_rg (n : Int) (h : n = 0 ∨ n = 4 ∨ n = 8) : In (scanL n) 0 (n * n - 1) ∧ ((scanL n).length : Int) = n * n := by
  rcases h with rfl | rfl | rfl <;> decide +kernel
end Go.Proofs.YtjhejgamjlokdaaGreat


namespace Go.Proofs.YtjhejgamjlokdaaGreat
open Go Go.Abs
attribute [local irreducible] WpA WpL Rnd Blk Abs.Seq Abs.Fin Abs.FinG FnC FnG Only
theorem qz_snoc (f : Int → Int) (l : List Int) (k : Nat) (h : k < l.length) : (l.take k).map f ++ [f (l.getD k 0)] = (l.take (k + 1)).map f := by
  rw [take_snoc l k h, List.map_append]; rfl
end Go.Proofs.YtjhejgamjlokdaaGreat


namespace Go.Proofs.YtjhejgamjlokdaaGreat
open Go Go.Abs
attribute [local irreducible] WpA WpL Rnd Blk Abs.Seq Abs.Fin Abs.FinG FnC FnG Only
theorem scan_fit (l : List Int) : In (scanL (side l.length)) 0 (l.length - 1) ∧ (scanL (side l.length)).length ≤ 64 := by
  rcases side_cases l.length with ⟨h, e⟩ | ⟨h, e⟩ | ⟨_, _, e⟩
  · have h2 := (scan_rg 4 (by omega)).2
    have h1 := (scan_rg 4 (by omega)).1
    rw [e, h]; exact ⟨h1, by omega⟩
  · have h2 := (scan_rg 8 (by omega)).2
    have h1 := (scan_rg 8 (by omega)).1
    rw [e, h]; exact ⟨h1, by omega⟩
  · rw [e]
    have h0 : scanL 0 = [] := rfl
    rw [h0]
    refine ⟨?_, by simp⟩
    unfold In; intro x hx; cases hx
end Go.Proofs.YtjhejgamjlokdaaGreat


namespace Go.Proofs.YtjhejgamjlokdaaGreat
open Go Go.Abs
attribute [local irreducible] WpA WpL Rnd Blk Abs.Seq Abs.Fin Abs.FinG FnC FnG Only
def marksI (k : Int) (n : Nat) : List Int := (List.range n).map fun i : Nat => k + (i : Int)
@[simp] theorem marksI_len (k : Int) (n : Nat) : (marksI k n).length = n := by simp [marksI]
def marksB (k : Int) (n : Nat) : List Bool := (List.range n).map fun i : Nat => decide ((k + (i : Int)) % 3 = 0)
@[simp] theorem marksB_len (k : Int) (n : Nat) : (marksB k n).length = n := by simp [marksB]
end Go.Proofs.YtjhejgamjlokdaaGreat
