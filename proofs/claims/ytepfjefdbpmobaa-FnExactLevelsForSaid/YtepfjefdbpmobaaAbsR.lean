/- Nested slices: a slice that a cell names becomes one that the cell owns, and back; a nil slice becomes an own one. No condition. -/
import Derived.Test.YtepfjefdbpmobaaAbsQ
namespace Go.Abs
open Go
set_option linter.unusedVariables false
set_option linter.unusedSimpArgs false

/-- One cell in its list: its footprint apart from the others', and how to put another in its place over the same values. -/
theorem LRel.at {S w ι O cs vs f} (h : LRel S w ι O cs vs f) {i : Nat} {V : AV} (hi : cs[i]? = some V) : ∃ x f1 g f2, vs[i]? = some x ∧ f = f1 ++ (g ++ f2) ∧ VRel S w ι O V x g ∧
    ∀ {S' w' ι' O'}, (∀ {as us e}, LRel S w ι O as us e → LRel S' w' ι' O' as us e) → ∀ V' g', VRel S' w' ι' O' V' x g' → LRel S' w' ι' O' (cs.set i V') vs (f1 ++ (g' ++ f2)) := by
  have hlt : i < cs.length := (List.getElem?_eq_some_iff.1 hi).1
  have hV : cs[i] = V := (List.getElem?_eq_some_iff.1 hi).2
  have e : cs = cs.take i ++ ([V] ++ cs.drop (i + 1)) := by
    rw [List.singleton_append, ← hV, ← List.drop_eq_getElem_cons hlt, List.take_append_drop]
  rw [e] at h
  obtain ⟨us, vs2, f1, f3, rfl, h1, h2, rfl⟩ := h.split
  obtain ⟨xs, vs3, g, f2, rfl, h3, h4, rfl⟩ := h2.split
  have hl1 := h1.len
  have hl3 := h3.len
  have hul : us.length = i := by rw [← hl1, List.length_take]; omega
  obtain ⟨x, rfl⟩ : ∃ x, xs = [x] := by
    cases xs with
    | nil => simp at hl3
    | cons x xs => cases xs with
      | nil => exact ⟨x, rfl⟩
      | cons y ys => simp at hl3
  refine ⟨x, f1, g, f2, by rw [List.getElem?_append_right (by omega), hul]; simp, rfl, h3, fun {S' w' ι' O'} mono V' g' hv => ?_⟩
  have e2 : cs.set i V' = cs.take i ++ ([V'] ++ cs.drop (i + 1)) := by
    rw [List.set_eq_take_append_cons_drop, if_pos hlt]; simp
  rw [e2]
  exact LRel.append (mono h1) (LRel.append hv (mono h4))

theorem getElem?_set2 {α : Type} {O : List α} {id j : Nat} {x y z : α} {i : Nat} (h : ((O.set id x).set j y)[i]? = some z) : (i = j ∧ z = y ∧ j < O.length) ∨ (i ≠ j ∧ i = id ∧ z = x ∧ id < O.length) ∨ (i ≠ j ∧ i ≠ id ∧ O[i]? = some z) := by
  have hlt : i < O.length := by have := (List.getElem?_eq_some_iff.1 h).1; simpa using this
  rw [List.getElem?_set] at h
  by_cases h1 : j = i
  · subst h1; simp [hlt] at h; exact .inl ⟨rfl, h.symm, hlt⟩
  · rw [if_neg h1, List.getElem?_set] at h
    by_cases h2 : id = i
    · subst h2; simp [hlt] at h; exact .inr (.inl ⟨fun e => h1 e.symm, rfl, h.symm, hlt⟩)
    · rw [if_neg h2] at h; exact .inr (.inr ⟨fun e => h1 e.symm, fun e => h2 e.symm, h⟩)

theorem RelAt.nest {n m G S ι F T O a w} (hr : RelAt n m G S ι F ⟨T, O⟩ a w) {id j off ep len : Nat} {ob oj : AObj} (ho : O[id]? = some ob) (hj : O[j]? = some oj) (hne : id ≠ j) (hm : m ≤ j)
    (hc : ob.cells[off]? = some (.own j ep 0 len)) (hep : oj.ep = ep) (hst : oj.cells.all AV.still = true) (hlen : len * oj.size = oj.cells.length) :
    ∃ F', RelAt n m G S (upd ι j none) F' ⟨T, (O.set id ⟨ob.cells.set off (.fre oj.size len oj.cells), ob.ep, ob.size, ob.ty⟩).set j ⟨[], oj.ep + 1, 0, none⟩⟩ a w := by
  have hidl : id < O.length := (List.getElem?_eq_some_iff.1 ho).1
  have hjl : j < O.length := (List.getElem?_eq_some_iff.1 hj).1
  generalize hob2 : (⟨ob.cells.set off (.fre oj.size len oj.cells), ob.ep, ob.size, ob.ty⟩ : AObj) = ob2
  generalize hoj2 : (⟨[], oj.ep + 1, 0, none⟩ : AObj) = oj2
  have hO2 : ∀ i : Nat, ((O.set id ob2).set j oj2)[i]? = if i = j then some oj2 else if i = id then some ob2 else O[i]? := by
    intro i
    by_cases h1 : i = j
    · subst h1; simp [hjl]
    · have h1' : ¬ j = i := fun e => h1 e.symm
      by_cases h2 : i = id
      · subst h2; simp [List.getElem?_set, h1, h1', hidl]
      · have h2' : ¬ id = i := fun e => h2 e.symm
        simp [List.getElem?_set, h1, h1', h2, h2']
  have hlat : Later S w ι O S w (upd ι j none) ((O.set id ob2).set j oj2) := by
    refine ⟨fun _ h => h, fun _ _ => rfl, fun i obi hi => ?_⟩
    by_cases h1 : i = j
    · subst h1; rw [hj] at hi; cases hi
      exact ⟨oj2, by rw [hO2, if_pos rfl], .inl (by rw [← hoj2]; exact Nat.lt_succ_self _)⟩
    · by_cases h2 : i = id
      · subst h2; rw [ho] at hi; cases hi
        exact ⟨ob2, by rw [hO2, if_neg h1, if_pos rfl], .inr ⟨by rw [← hob2], by rw [← hob2], upd_other _ _ h1⟩⟩
      · exact ⟨obi, by rw [hO2, if_neg h1, if_neg h2]; exact hi, .inr ⟨rfl, rfl, upd_other _ _ h1⟩⟩
  have hOid := hr.objs.obj id ob ho
  have hOj := hr.objs.obj j oj hj
  have hndi := hr.objs.nodup id hidl
  have hndj := hr.objs.nodup j hjl
  have hap := hr.objs.apart id j hidl hjl hne
  unfold ObjAt at hOid
  cases hs : ι id with
  | none => rw [hs] at hOid; rw [hOid.1] at hc; simp at hc
  | some p =>
    obtain ⟨b, k⟩ := p
    rw [hs] at hOid
    obtain ⟨cur, t, fz, f', hF, h1, h2, h3, h4, h5, h6⟩ := hOid
    obtain ⟨x, f1', g, f2', hx, hf', hV, hput⟩ := h6.at hc
    have hg : g = [] := nofre_nil hV rfl
    subst hg
    have hnew : VRel S w (upd ι j none) ((O.set id ob2).set j oj2) (.fre oj.size len oj.cells) x (F j) := by
      cases hV with
      | own q1 q2 q3 r =>
        rw [hj] at q1; cases q1
        have hown := q3 hep.symm
        unfold ObjAt at hOj
        cases hsj : ι j with
        | none =>
          rw [hsj] at hown hOj
          obtain ⟨rfl, _, rfl⟩ := hown
          rw [hOj.1, hOj.2]
          exact .fre0 .nil
        | some pj =>
          obtain ⟨bj, kj⟩ := pj
          rw [hsj] at hown hOj
          obtain ⟨cap, rfl, hk, hlc, hcm⟩ := hown
          obtain ⟨curj, tj, fzj, fj', hFj, j1, j2, j3, j4, _, j6⟩ := hOj
          rw [hFj]
          have := LRel.fre (S := S) (w := w) (ι := upd ι j none) (O := (O.set id ob2).set j oj2) (size := oj.size) (len := len) (cap := cap) (cs := []) (vs := []) (g := []) ⟨j1, fun i hi => j4 i (by omega)⟩ (by omega) rfl (still_all hst j6 (fun _ h => h) (fun _ _ => rfl) (fun _ _ => rfl)) hlen hlc hcm .nil
          simpa using this
    have hl2 := hput (fun h => h.mono hlat (fun _ _ => rfl)) _ _ hnew
    have hff : f1' ++ f2' = f' := by rw [hf']; simp
    refine ⟨upd (upd F id (b :: (f1' ++ (F j ++ f2')))) j [], hr.defers, hr.size, fun t' => (hr.tmps t').mono hlat (fun _ _ => rfl), ⟨fun i obi hi => ?_, fun i hi => ?_, fun i i' hi hi' hii c hcm => ?_⟩, fun i hi c hcm => ?_, hr.base, hr.stable, hr.keeps, fun i hi => ?_, ?_⟩
    · have hi : ((O.set id ob2).set j oj2)[i]? = some obi := hi
      rw [hO2] at hi
      by_cases e1 : i = j
      · subst e1
        rw [if_pos rfl] at hi; cases hi
        rw [upd_same, upd_same, ← hoj2]
        exact ⟨rfl, rfl⟩
      · rw [if_neg e1] at hi
        rw [upd_other _ _ e1, upd_other _ _ e1]
        by_cases e2 : i = id
        · subst e2
          rw [if_pos rfl] at hi; cases hi
          rw [upd_same, hs]
          refine ⟨cur, t, fz, f1' ++ (F j ++ f2'), rfl, h1, h2, by rw [← hob2]; simpa using h3, h4, fun e he => h5 e (by rw [← hob2] at he; exact he), ?_⟩
          rw [← hob2]
          simp only [List.length_set]
          rw [← hob2] at hl2
          exact hl2
        · rw [if_neg e2] at hi
          rw [upd_other _ _ e2]
          have hob := hr.objs.obj i obi hi
          unfold ObjAt at hob ⊢
          cases hsi : ι i with
          | none => rw [hsi] at hob; exact hob
          | some pi =>
            rw [hsi] at hob
            obtain ⟨cur', t', fz', f2'', q1, q2, q3, q4, q5, q6, q7⟩ := hob
            exact ⟨cur', t', fz', f2'', q1, q2, q3, q4, q5, q6, q7.mono hlat (fun _ _ => rfl)⟩
    · have hi : i < ((O.set id ob2).set j oj2).length := hi
      simp only [List.length_set] at hi
      by_cases e1 : i = j
      · subst e1; rw [upd_same]; exact List.nodup_nil
      · rw [upd_other _ _ e1]
        by_cases e2 : i = id
        · subst e2; rw [upd_same]
          rw [hF, ← hff] at hndi
          obtain ⟨n1, n2⟩ := List.nodup_cons.1 hndi
          obtain ⟨n3, n4, n5⟩ := List.nodup_append.1 n2
          have hap' : ∀ c, c ∈ f1' ++ f2' → c ∉ F j := fun c hc => hap c (by rw [hF, ← hff]; exact List.mem_cons_of_mem _ hc)
          refine List.nodup_cons.2 ⟨?_, List.nodup_append.2 ⟨n3, List.nodup_append.2 ⟨hndj, n4, ?_⟩, ?_⟩⟩
          · intro hb
            rcases List.mem_append.1 hb with hb | hb
            · exact n1 (List.mem_append_left _ hb)
            · rcases List.mem_append.1 hb with hb | hb
              · exact hap b (by rw [hF]; simp) hb
              · exact n1 (List.mem_append_right _ hb)
          · intro c hc d hd e; subst e
            exact hap' c (List.mem_append_right _ hd) hc
          · intro c hc d hd e; subst e
            rcases List.mem_append.1 hd with hd | hd
            · exact hap' c (List.mem_append_left _ hc) hd
            · exact n5 c hc c hd rfl
        · rw [upd_other _ _ e2]; exact hr.objs.nodup i hi
    · have hi : i < ((O.set id ob2).set j oj2).length := hi
      have hi' : i' < ((O.set id ob2).set j oj2).length := hi'
      have hi : i < O.length := by simpa using hi
      have hi' : i' < O.length := by simpa using hi'
      have memid : ∀ c, c ∈ b :: (f1' ++ (F j ++ f2')) → c ∈ F id ∨ c ∈ F j := by
        intro c hc
        rw [hF, ← hff]
        rcases List.mem_cons.1 hc with hc | hc
        · exact .inl (by simp [hc])
        · rcases List.mem_append.1 hc with hc | hc
          · exact .inl (by simp [hc])
          · rcases List.mem_append.1 hc with hc | hc
            · exact .inr hc
            · exact .inl (by simp [hc])
      by_cases e1 : i = j
      · subst e1; rw [upd_same] at hcm; simp at hcm
      · rw [upd_other _ _ e1] at hcm
        by_cases e1' : i' = j
        · subst e1'; rw [upd_same]; simp
        · rw [upd_other _ _ e1']
          by_cases e2 : i = id
          · subst e2; rw [upd_same] at hcm
            rw [upd_other _ _ (fun e => hii e.symm)]
            rcases memid c hcm with h | h
            · exact hr.objs.apart i i' hidl (by simpa using hi') hii c h
            · exact hr.objs.apart j i' hjl (by simpa using hi') (fun e => e1' e.symm) c h
          · rw [upd_other _ _ e2] at hcm
            by_cases e2' : i' = id
            · subst e2'; rw [upd_same]
              intro hc'
              rcases memid c hc' with h | h
              · exact hr.objs.apart i i' (by simpa using hi) hidl hii c hcm h
              · exact hr.objs.apart i j (by simpa using hi) hjl e1 c hcm h
            · rw [upd_other _ _ e2']; exact hr.objs.apart i i' (by simpa using hi) (by simpa using hi') hii c hcm
    · have hi : i < ((O.set id ob2).set j oj2).length := hi
      simp only [List.length_set] at hi
      by_cases e1 : i = j
      · subst e1; rw [upd_same] at hcm; simp at hcm
      · rw [upd_other _ _ e1] at hcm
        by_cases e2 : i = id
        · subst e2; rw [upd_same] at hcm
          rcases List.mem_cons.1 hcm with hc | hc
          · exact hr.foot i hidl c (by rw [hF, hc]; simp)
          · rcases List.mem_append.1 hc with hc | hc
            · exact hr.foot i hidl c (by rw [hF, ← hff]; simp [hc])
            · rcases List.mem_append.1 hc with hc | hc
              · exact hr.foot j hjl c hc
              · exact hr.foot i hidl c (by rw [hF, ← hff]; simp [hc])
        · rw [upd_other _ _ e2] at hcm; exact hr.foot i hi c hcm
    · rw [upd_other _ _ (by omega)]; exact hr.spots i hi
    · show m ≤ ((O.set id ob2).set j oj2).length
      simp only [List.length_set]; exact hr.mle

/-- The same object, its cell named by a new object's number. -/
theorem RelAt.unnest {n m G S ι F T O a w} (hr : RelAt n m G S ι F ⟨T, O⟩ a w) {id off s len : Nat} {ob : AObj} {cs : List AV} (ho : O[id]? = some ob) (hc : ob.cells[off]? = some (.fre s len cs)) :
    ∃ ι' F', RelAt n m G S ι' F' ⟨T, O.set id ⟨ob.cells.set off (.own O.length 0 0 len), ob.ep, ob.size, ob.ty⟩ ++ [⟨cs, 0, s, none⟩]⟩ a w := by
  have hidl : id < O.length := (List.getElem?_eq_some_iff.1 ho).1
  have apartO : ∀ i j, i < O.length → j < O.length → i ≠ j → ∀ b, b ∈ F i → b ∉ F j := hr.objs.apart
  have nodupO : ∀ i, i < O.length → (F i).Nodup := hr.objs.nodup
  have footO : ∀ id, id < O.length → ∀ b, b ∈ F id → (G.M0 b ∨ G.w0.heap.size ≤ b) ∧ ¬ S b ∧ b < w.heap.size := hr.foot
  generalize hob2 : (⟨ob.cells.set off (.own O.length 0 0 len), ob.ep, ob.size, ob.ty⟩ : AObj) = ob2
  generalize hojn : (⟨cs, 0, s, none⟩ : AObj) = oj
  have hO2 : ∀ i : Nat, (O.set id ob2 ++ [oj])[i]? = if i = O.length then some oj else if i = id then some ob2 else O[i]? := by
    intro i
    by_cases h1 : i = O.length
    · subst h1; rw [if_pos rfl, List.getElem?_append_right (by simp)]; simp
    · rw [if_neg h1]
      by_cases h3 : i < O.length
      · rw [List.getElem?_append_left (by simpa using h3), List.getElem?_set]
        by_cases h2 : id = i
        · subst h2; simp [hidl]
        · rw [if_neg h2, if_neg (fun e => h2 e.symm)]
      · rw [List.getElem?_eq_none (by simp; omega), if_neg (by omega), List.getElem?_eq_none (by omega)]
  have hOid := hr.objs.obj id ob ho
  have hndi := hr.objs.nodup id hidl
  unfold ObjAt at hOid
  cases hs : ι id with
  | none => rw [hs] at hOid; rw [hOid.1] at hc; simp at hc
  | some p =>
    obtain ⟨b, k⟩ := p
    rw [hs] at hOid
    obtain ⟨cur, t, fz, f', hF, h1, h2, h3, h4, h5, h6⟩ := hOid
    obtain ⟨x, f1', g', f2', hx, hff', hV, hput⟩ := h6.at hc
    -- where the new object lies
    have hsp : ∃ sp : Spot, ObjAt S w ι [] oj sp g' ∧ OwnAt sp s 0 len x := by
      cases hV with
      | fre0 r => cases r; exact ⟨none, by rw [← hojn]; exact ⟨rfl, rfl⟩, rfl, rfl, rfl⟩
      | @fre _ _ b' _ cap cur' t' fz' _ us f'' _ _ _ hh hsz hu hl q1 q2 q3 r =>
        cases r
        refine ⟨some (b', cap * s), ⟨cur', t', fz', f'', by simp, hh.1, hsz, ?_, fun i hi => hh.2 i (by omega), ?_, ?_⟩, cap, rfl, by omega, q2, q3⟩
        · rw [← hojn]; simp only; rw [← q1]; exact Nat.mul_le_mul_right _ q2
        · rw [← hojn]; intro e he; cases he
        · rw [← hojn]; simp only; rw [← hu]; exact hl
    obtain ⟨sp, hsp1, hsp2⟩ := hsp
    have hlat : Later S w ι O S w (upd ι O.length sp) (O.set id ob2 ++ [oj]) := by
      refine ⟨fun _ h => h, fun _ _ => rfl, fun i obi hi => ?_⟩
      have hlt : i < O.length := (List.getElem?_eq_some_iff.1 hi).1
      by_cases h2 : i = id
      · subst h2; rw [ho] at hi; cases hi
        exact ⟨ob2, by rw [hO2, if_neg (by omega), if_pos rfl], .inr ⟨by rw [← hob2], by rw [← hob2], upd_other _ _ (by omega)⟩⟩
      · exact ⟨obi, by rw [hO2, if_neg (by omega), if_neg h2]; exact hi, .inr ⟨rfl, rfl, upd_other _ _ (by omega)⟩⟩
    have hnew : VRel S w (upd ι O.length sp) (O.set id ob2 ++ [oj]) (.own O.length 0 0 len) x [] :=
      .own (ob := oj) (by rw [hO2, if_pos rfl]) (Nat.zero_le _) (fun _ => by rw [upd_same, ← hojn]; exact hsp2) .nil
    have hl2 := hput (fun h => h.mono hlat (fun _ _ => rfl)) _ _ hnew
    have hff : f1' ++ (g' ++ f2') = f' := hff'.symm
    clear hput hsp2
    have hsub : ∀ c, c ∈ b :: (f1' ++ ([] ++ f2')) → c ∈ F id := by
      intro c hc
      rw [hF, ← hff]
      rcases List.mem_cons.1 hc with hc | hc
      · simp [hc]
      · rcases List.mem_append.1 hc with hc | hc
        · simp [hc]
        · simp only [List.nil_append] at hc; simp [hc]
    have hsubg : ∀ c, c ∈ g' → c ∈ F id := by intro c hc; rw [hF, ← hff]; simp [hc]
    refine ⟨upd ι O.length sp, upd (upd F id (b :: (f1' ++ ([] ++ f2')))) O.length g', hr.defers, hr.size, fun t' => (hr.tmps t').mono hlat (fun _ _ => rfl), ⟨fun i obi hi => ?_, fun i hi => ?_, fun i i' hi hi' hii c hcm => ?_⟩, fun i hi c hcm => ?_, hr.base, hr.stable, hr.keeps, fun i hi => ?_, ?_⟩
    · have hi : (O.set id ob2 ++ [oj])[i]? = some obi := hi
      rw [hO2] at hi
      by_cases e1 : i = O.length
      · subst e1
        rw [if_pos rfl] at hi; cases hi
        rw [upd_same, upd_same]
        unfold ObjAt at hsp1 ⊢
        cases hq : sp with
        | none => rw [hq] at hsp1; exact hsp1
        | some pj =>
          rw [hq] at hsp1
          obtain ⟨cur', t', fz', f2'', q1, q2, q3, q4, q5, q6, q7⟩ := hsp1
          refine ⟨cur', t', fz', f2'', q1, q2, q3, q4, q5, q6, ?_⟩
          exact q7.mono (Later.none _ (fun _ h => h) (fun _ _ => rfl)) (fun _ _ => rfl)
      · rw [if_neg e1] at hi
        rw [upd_other _ _ e1, upd_other _ _ e1]
        by_cases e2 : i = id
        · subst e2
          rw [if_pos rfl] at hi; cases hi
          rw [upd_same, hs]
          refine ⟨cur, t, fz, f1' ++ ([] ++ f2'), rfl, h1, h2, by rw [← hob2]; simpa using h3, h4, fun e he => h5 e (by rw [← hob2] at he; exact he), ?_⟩
          rw [← hob2]
          simp only [List.length_set]
          rw [← hob2] at hl2
          exact hl2
        · rw [if_neg e2] at hi
          rw [upd_other _ _ e2]
          have hob := hr.objs.obj i obi hi
          unfold ObjAt at hob ⊢
          cases hsi : ι i with
          | none => rw [hsi] at hob; exact hob
          | some pi =>
            rw [hsi] at hob
            obtain ⟨cur', t', fz', f2'', q1, q2, q3, q4, q5, q6, q7⟩ := hob
            exact ⟨cur', t', fz', f2'', q1, q2, q3, q4, q5, q6, q7.mono hlat (fun _ _ => rfl)⟩
    all_goals rw [hF, ← hff] at hndi
    all_goals obtain ⟨n1, n2⟩ := List.nodup_cons.1 hndi
    all_goals obtain ⟨n3, n4, n5⟩ := List.nodup_append.1 n2
    all_goals obtain ⟨n6, n7, n8⟩ := List.nodup_append.1 n4
    · have hi : i < (O.set id ob2 ++ [oj]).length := hi
      simp only [List.length_append, List.length_set, List.length_singleton] at hi
      by_cases e1 : i = O.length
      · subst e1; rw [upd_same]; exact n6
      · rw [upd_other _ _ e1]
        by_cases e2 : i = id
        · subst e2; rw [upd_same]
          refine List.nodup_cons.2 ⟨fun hb => n1 ?_, List.nodup_append.2 ⟨n3, by simpa using n7, fun c hc d hd => n5 c hc d (List.mem_append_right _ (by simpa using hd))⟩⟩
          rcases List.mem_append.1 hb with hb | hb
          · exact List.mem_append_left _ hb
          · exact List.mem_append_right _ (List.mem_append_right _ (by simpa using hb))
        · rw [upd_other _ _ e2]; exact nodupO i (by omega)
    · have hi : i < (O.set id ob2 ++ [oj]).length := hi
      have hi' : i' < (O.set id ob2 ++ [oj]).length := hi'
      simp only [List.length_append, List.length_set, List.length_singleton] at hi hi'
      have hdis : ∀ c, c ∈ b :: (f1' ++ ([] ++ f2')) → c ∉ g' := by
        intro c hc hg
        rcases List.mem_cons.1 hc with hc | hc
        · subst hc; exact n1 (List.mem_append_right _ (List.mem_append_left _ hg))
        · rcases List.mem_append.1 hc with hc | hc
          · exact n5 c hc c (List.mem_append_left _ hg) rfl
          · exact n8 c hg c (by simpa using hc) rfl
      by_cases e1 : i = O.length
      · subst e1; rw [upd_same] at hcm
        rw [upd_other _ _ (fun e => hii e.symm)]
        by_cases e2' : i' = id
        · subst e2'; rw [upd_same]; exact fun h => hdis c h hcm
        · rw [upd_other _ _ e2']; exact apartO id i' hidl (by omega) (fun e => e2' e.symm) c (hsubg c hcm)
      · rw [upd_other _ _ e1] at hcm
        by_cases e1' : i' = O.length
        · subst e1'; rw [upd_same]
          by_cases e2 : i = id
          · subst e2; rw [upd_same] at hcm; exact hdis c hcm
          · rw [upd_other _ _ e2] at hcm; exact fun h => apartO i id (by omega) hidl e2 c hcm (hsubg c h)
        · rw [upd_other _ _ e1']
          by_cases e2 : i = id
          · subst e2; rw [upd_same] at hcm
            rw [upd_other _ _ (fun e => hii e.symm)]
            exact apartO i i' hidl (by omega) hii c (hsub c hcm)
          · rw [upd_other _ _ e2] at hcm
            by_cases e2' : i' = id
            · subst e2'; rw [upd_same]
              exact fun h => apartO i i' (by omega) hidl hii c hcm (hsub c h)
            · rw [upd_other _ _ e2']; exact apartO i i' (by omega) (by omega) hii c hcm
    · have hi : i < (O.set id ob2 ++ [oj]).length := hi
      simp only [List.length_append, List.length_set, List.length_singleton] at hi
      by_cases e1 : i = O.length
      · subst e1; rw [upd_same] at hcm; exact footO id hidl c (hsubg c hcm)
      · rw [upd_other _ _ e1] at hcm
        by_cases e2 : i = id
        · subst e2; rw [upd_same] at hcm; exact footO i hidl c (hsub c hcm)
        · rw [upd_other _ _ e2] at hcm; exact footO i (by omega) c hcm
    · have := hr.mle
      rw [upd_other _ _ (by have : m ≤ O.length := this; omega)]; exact hr.spots i hi
    · have : m ≤ O.length := hr.mle
      show m ≤ (O.set id ob2 ++ [oj]).length
      simp; omega
end Go.Abs
