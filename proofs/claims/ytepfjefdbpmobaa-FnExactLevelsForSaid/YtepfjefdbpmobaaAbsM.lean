/- Regions that draw their order and in which calls stand between loads. No condition. -/
import Derived.Test.YtepfjefdbpmobaaAbsL
namespace Go.Abs
open Go
set_option linter.unusedVariables false
set_option linter.unusedSimpArgs false

def Only (σ : St) : Exit → St → Prop
  | .normal, σ' => σ' = σ
  | _, _ => False
theorem Only.mk {σ σ' : St} (h : σ' = σ) : Only σ .normal σ' := h

/-- What the operations that this one waits for have yielded. -/
def deps (fs : List (Nat × AV)) (o : Oper) : List (Nat × AV) := o.after.toList.filterMap fun e => if Region.binds .any e = true then fs[e.on]? else none

inductive HeadJ (P : Program) (n m : Nat) (G : Ctx) (ops : Array Oper) (T0 : List (Nat × AV)) (O : List AObj) : List (Nat × AV) → List Oper → List (Nat × AV) → Prop
  | nil {fs} : HeadJ P n m G ops T0 O fs [] fs
  | cons {fs out : List (Nat × AV)} {o : Oper} {l : List Oper} {d : Nat} {V : AV} {F : List (Nat × AV)} (hd : o.dst = some d) (hF : deps fs o = F)
      (h : ∀ Tv, WpL P n m G false ops [o] ⟨F ++ (T0 ++ Tv), O⟩ (Only ⟨(d, V) :: (F ++ (T0 ++ Tv)), O⟩)) (r : HeadJ P n m G ops T0 O (fs ++ [(d, V)]) l out) : HeadJ P n m G ops T0 O fs (o :: l) out

section
variable {P : Program} {n m : Nat} {G : Ctx} {ops : Array Oper} {T0 : List (Nat × AV)} {O : List AObj}

theorem HeadJ.pre {fs l out} (h : HeadJ P n m G ops T0 O fs l out) : ∃ r, out = fs ++ r ∧ r.length = l.length := by
  induction h with
  | nil => exact ⟨[], by simp, rfl⟩
  | @cons fs out o l d V F _ _ _ _ ih => obtain ⟨r, h1, h2⟩ := ih; exact ⟨(d, V) :: r, by rw [h1]; simp, by simp [h2]⟩

theorem HeadJ.at {fs l out} (h : HeadJ P n m G ops T0 O fs l out) : ∀ {j : Nat} {o : Oper}, l[j]? = some o → ∃ d V, o.dst = some d ∧ out[fs.length + j]? = some (d, V) ∧
    ∀ Tv, WpL P n m G false ops [o] ⟨deps (out.take (fs.length + j)) o ++ (T0 ++ Tv), O⟩ (Only ⟨(d, V) :: (deps (out.take (fs.length + j)) o ++ (T0 ++ Tv)), O⟩) := by
  induction h with
  | nil => intro j o h; simp at h
  | @cons fs out o l d V F hd hF h r ih =>
    intro j o' hj
    obtain ⟨r', h1, h2⟩ := r.pre
    cases j with
    | zero =>
      simp only [List.getElem?_cons_zero, Option.some.injEq] at hj
      subst hj
      refine ⟨d, V, hd, by rw [h1]; simp, ?_⟩
      have : out.take (fs.length + 0) = fs := by rw [h1, Nat.add_zero, List.append_assoc, List.take_left']; rfl
      rw [this, hF]; exact h
    | succ j =>
      have := ih (j := j) (o := o') (by simpa using hj)
      rw [List.length_append, List.length_singleton, Nat.add_assoc, Nat.add_comm 1 j] at this
      exact this

def has (A : List (Nat × AV)) (t : Nat) : Bool := A.any fun p => Nat.beq p.1 t

theorem look_append (A B : List (Nat × AV)) (t : Nat) : look (A ++ B) t = if has A t = true then look A t else look B t := by
  induction A with
  | nil => simp [has]
  | cons p A ih =>
    obtain ⟨k, V⟩ := p
    by_cases h : k = t
    · subst h; simp [has, look_cons_same]
    · rw [List.cons_append, look_cons_other _ _ _ _ h, look_cons_other _ _ _ _ h, ih]
      have : Nat.beq k t = false := by rw [← Bool.not_eq_true]; intro h'; exact h (Nat.eq_of_beq_eq_true h')
      simp only [has, List.any_cons, this, Bool.false_or]
      rfl

theorem has_look {A : List (Nat × AV)} {t : Nat} (h : has A t = true) : (t, look A t) ∈ A := by
  induction A with
  | nil => simp [has] at h
  | cons p A ih =>
    obtain ⟨k, V⟩ := p
    by_cases hk : k = t
    · subst hk; rw [look_cons_same]; simp
    · rw [look_cons_other _ _ _ _ hk]
      refine List.mem_cons_of_mem _ (ih ?_)
      have : Nat.beq k t = false := by rw [← Bool.not_eq_true]; intro h'; exact hk (Nat.eq_of_beq_eq_true h')
      simpa [has, this] using h

theorem has_mem {A : List (Nat × AV)} {t : Nat} {V : AV} (h : (t, V) ∈ A) : has A t = true := by
  simp only [has, List.any_eq_true]
  exact ⟨_, h, by simp⟩

theorem Rel.relook {T T' : List (Nat × AV)} {a w} (h : Rel n m G ⟨T, O⟩ a w) (he : ∀ t, look T' t = look T t) : Rel n m G ⟨T', O⟩ a w := by
  obtain ⟨S, ι, F, hr⟩ := h
  exact ⟨S, ι, F, hr.defers, hr.size, fun t => by rw [show look (St.mk T' O).T t = look T t from he t]; exact hr.tmps t, hr.objs, hr.foot, hr.base, hr.stable, hr.keeps, hr.spots, hr.mle⟩

/-- Slots that the head fills are filled by one operation each, and nothing was known of them. -/
structure Heads (ops : Array Oper) (T0 out : List (Nat × AV)) (k : Nat) : Prop where
  len : out.length = k
  nodup : (out.map (·.1)).Nodup
  fresh : ∀ p, p ∈ out → has T0 p.1 = false
  back : ∀ i, i < k → ∀ o, ops[i]? = some o → ∀ e ∈ o.after, Region.binds .any e = true → e.on < i

def Good (n m : Nat) (G : Ctx) (T0 out : List (Nat × AV)) (O : List AObj) (listed : Array Bool) (a : Act) (w : World) : Prop :=
  ∃ T, Rel n m G ⟨T, O⟩ a w ∧ (∀ (i d : Nat) (V : AV), out[i]? = some (d, V) → listed.getD i false = true → look T d = V) ∧ ∀ t, has out t = false → look T t = look T0 t

theorem out_inj {out : List (Nat × AV)} (h : (out.map (·.1)).Nodup) {i j d : Nat} {V W : AV} (hi : out[i]? = some (d, V)) (hj : out[j]? = some (d, W)) : i = j := by
  have hi' := (List.getElem?_eq_some_iff.1 hi).1
  refine (List.getElem?_inj (l := out.map (·.1)) (by simpa using hi') h).1 ?_
  simp [hi, hj]

theorem head_step {out : List (Nat × AV)} {k : Nat} (H : Heads ops T0 out k) {Q : Exit → Act → World → Prop} (hJ : ∀ {j : Nat} {o : Oper}, j < k → ops[j]? = some o → ∃ d V, o.dst = some d ∧ out[j]? = some (d, V) ∧
      ∀ Tv, WpL P n m G false ops [o] ⟨deps (out.take j) o ++ (T0 ++ Tv), O⟩ (Only ⟨(d, V) :: (deps (out.take j) o ++ (T0 ++ Tv)), O⟩))
    {listed : Array Bool} (inv : HeadInv .any ops k listed) {i : Nat} (hi : i ∈ Region.ready .any ops listed) (hik : i < k) {a w} (hg : Good n m G T0 out O listed a w) {K : Act → World → Prop}
    (hK : ∀ a' w', Good n m G T0 out O (listed.setIfInBounds i true) a' w' → K a' w') : wpOp P ops Q i K a w := by
  obtain ⟨hun, o, ho, hall⟩ := mem_ready.1 hi
  obtain ⟨T, hr, h1, h2⟩ := hg
  obtain ⟨d, V, hd, hout, hw⟩ := hJ hik ho
  have hF : ∀ t U, (t, U) ∈ deps (out.take i) o → look T t = U := by
    intro t U hm
    simp only [deps, List.mem_filterMap] at hm
    obtain ⟨e, he, hx⟩ := hm
    split at hx
    · rename_i hb
      have he' : e ∈ o.after := by simpa using he
      have hx' : out[e.on]? = some (t, U) := by
        rw [List.getElem?_take] at hx
        split at hx
        · exact hx
        · simp at hx
      exact h1 _ _ _ hx' (hall e he' hb)
    · simp at hx
  have same : ∀ t, look (deps (out.take i) o ++ (T0 ++ T)) t = look T t := by
    intro t
    rw [look_append]
    split
    · rename_i h; exact (hF _ _ (has_look h)).symm
    · rw [look_append]
      split
      · rename_i h
        refine (h2 t ?_).symm
        cases hc : has out t with
        | false => rfl
        | true => have := H.fresh _ (has_look hc); simp only at this; rw [this] at h; cases h
      · rfl
  have hw' := hw T a w (hr.relook same)
  simp only at hw'
  have good : ∀ a' w', Rel n m G ⟨(d, V) :: (deps (out.take i) o ++ (T0 ++ T)), O⟩ a' w' → Good n m G T0 out O (listed.setIfInBounds i true) a' w' := by
    intro a' w' hr'
    refine ⟨_, hr', fun j d' V' hj hl => ?_, fun t ht => ?_⟩
    · by_cases hij : i = j
      · subst hij; rw [hout] at hj; cases hj; exact look_cons_same _ _ _
      · rw [getD_set_ne false hij] at hl
        have hne : d ≠ d' := by rintro rfl; exact hij (out_inj H.nodup hout hj)
        rw [look_cons_other _ _ _ _ hne, same]
        exact h1 _ _ _ hj hl
    · have hne : d ≠ t := by
        rintro rfl
        have := has_mem (List.mem_of_getElem? hout)
        rw [ht] at this; cases this
      rw [look_cons_other _ _ _ _ hne, same]; exact h2 t ht
  have only : ∀ e a' w', (∃ σ', Only ⟨(d, V) :: (deps (out.take i) o ++ (T0 ++ T)), O⟩ e σ' ∧ Rel n m G σ' a' w') → e = .normal ∧ K a' w' := by
    rintro e a' w' ⟨σ', hq, hr'⟩
    cases e <;> first | (simp only [Only] at hq; subst hq; exact ⟨rfl, hK _ _ (good _ _ hr')⟩) | exact hq.elim
  unfold wpOp
  simp only [ho]
  change wpList P ops _ [o] a w at hw'
  unfold wpList at hw'
  by_cases hwant : Region.wanted o (yielded ops a.tmps) = true
  · rw [if_pos hwant] at hw' ⊢
    rcases hw' with hw' | ⟨_, a', w', hx⟩
    · refine .inl ?_
      unfold Oper.wp at hw' ⊢
      generalize (execOp a.eval o).run P w = r at *
      cases r with
      | ok x w1 =>
        cases x <;> simp only [Oper.upon] at hw' ⊢
        case value v => exact (only _ _ _ hw').2
        case skip => exact (only _ _ _ hw').2
        case defer d => exact (only _ _ _ hw').2
        case enter f args =>
          refine hw'.mono fun e w2 h2 => ?_
          cases e with
          | returned v => exact (only _ _ _ h2).2
          | panicked c => exact absurd (only _ _ _ h2).1 (by simp)
          | outgrown => obtain ⟨_, _, hf⟩ := h2; exact absurd (only _ _ _ hf).1 (by simp)
        case row r ar => exact hw'.mono fun v w2 h2 => (only _ _ _ h2).2
      | halt x w1 => cases x <;> simp only [Oper.upon] at hw' ⊢ <;> first | exact absurd (only _ _ _ hw').1 (by simp) | exact hw'.elim | (obtain ⟨_, _, hf⟩ := hw'; exact absurd (only _ _ _ hf).1 (by simp))
    · exact absurd (only _ _ _ hx).1 (by simp)
  · rw [if_neg hwant] at hw' ⊢
    exact (only _ _ _ hw').2

theorem head_any {out : List (Nat × AV)} {k g : Nat} (H : Heads ops T0 out k) (hks : k ≤ ops.size) (hs : k < ops.size → Region.sinkB .any ops k = true ∧ Region.chainB .any ops k = true)
    (hJ : ∀ {j : Nat} {o : Oper}, j < k → ops[j]? = some o → ∃ d V, o.dst = some d ∧ out[j]? = some (d, V) ∧
      ∀ Tv, WpL P n m G false ops [o] ⟨deps (out.take j) o ++ (T0 ++ Tv), O⟩ (Only ⟨(d, V) :: (deps (out.take j) o ++ (T0 ++ Tv)), O⟩)) {Q : Exit → Act → World → Prop}
    (hT : ∀ listed a w, HeadInv .any ops k listed → (∀ i, i < k → listed.getD i false = true) → Good n m G T0 out O listed a w → wpAny P .any ops Q g listed a w) :
    ∀ (f : Nat) (listed : Array Bool) (a : Act) (w : World), HeadInv .any ops k listed → ((List.range k).filter fun i => !listed.getD i false).length = f → Good n m G T0 out O listed a w →
      wpAny P .any ops Q (f + g) listed a w := by
  intro f
  induction f with
  | zero =>
    intro listed a w inv hc hg
    rw [Nat.zero_add]
    refine hT listed a w inv (fun i hi => ?_) hg
    have h0 := List.eq_nil_of_length_eq_zero hc
    cases hl : listed.getD i false with
    | true => rfl
    | false =>
      have : i ∈ (List.range k).filter fun i => !listed.getD i false := by simp [List.mem_filter, hi]; simpa using hl
      rw [h0] at this; cases this
  | succ f ih =>
    intro listed a w inv hc hg
    have hgetD : ∀ i, i < k → listed.getD i false = false → listed.getD i true = false := fun i hi h => getD_in (by rw [inv.size]; omega) h
    -- the least that is not listed is ready
    have hex : ∃ i, i < k ∧ listed.getD i false = false := by
      cases hl : (List.range k).filter fun i => !listed.getD i false with
      | nil => rw [hl] at hc; simp at hc
      | cons i r =>
        have : i ∈ (List.range k).filter fun i => !listed.getD i false := by rw [hl]; simp
        rw [List.mem_filter, List.mem_range] at this
        exact ⟨i, this.1, by simpa using this.2⟩
    obtain ⟨i0, hi0, hl0⟩ := hex
    have least : ∀ d i, i = d → i < k → listed.getD i false = false → ∃ j, j < k ∧ j ∈ Region.ready .any ops listed := by
      intro d
      induction d using Nat.strongRecOn with
      | _ d ihd =>
        rintro i rfl hi hl
        by_cases hh : ∃ j, j < i ∧ listed.getD j false = false
        · obtain ⟨j, hj, hjl⟩ := hh
          exact ihd j hj j rfl (by omega) hjl
        · have hlt : i < ops.size := by omega
          refine ⟨i, hi, mem_ready.2 ⟨hgetD i hi hl, ops[i], by simp [hlt], fun e he hb => ?_⟩⟩
          have hlt' := H.back i hi _ (by simp [hlt]) e he hb
          cases hx : listed.getD e.on false with
          | true => rfl
          | false => exact (hh ⟨_, hlt', hx⟩).elim
    obtain ⟨j0, hj0, hr0⟩ := least i0 i0 rfl hi0 hl0
    rw [show f + 1 + g = (f + g) + 1 by omega]
    refine ⟨fun h => (by rw [h] at hr0; cases hr0), fun i hi => ?_⟩
    have hik : i < k := by
      rcases Nat.lt_or_ge i k with h | h
      · exact h
      · by_cases hk : k < ops.size
        · exact absurd hi (tail_waits (hs hk).1 (hs hk).2 hk inv _ i0 rfl hi0 (hgetD i0 hi0 hl0) i h)
        · obtain ⟨_, o, ho, _⟩ := mem_ready.1 hi
          have := (Array.getElem?_eq_some_iff.1 ho).1
          omega
    have hiu : listed.getD i false = false := getD_both (mem_ready.1 hi).1
    refine head_step H hJ inv hi hik hg fun a' w' hg' => ih _ _ _ (inv.set hi hik) ?_ hg'
    have key : ∀ (L : List Nat), L.Nodup → i ∈ L → (L.filter fun j => !(listed.setIfInBounds i true).getD j false).length + 1 = (L.filter fun j => !listed.getD j false).length := by
      intro L
      have hself : (listed.setIfInBounds i true).getD i false = true := by
        have : i < listed.size := by rw [inv.size]; omega
        simp [this]
      induction L with
      | nil => intro _ h; cases h
      | cons x L ihL =>
        intro hnd hm
        rw [List.nodup_cons] at hnd
        by_cases hx : x = i
        · subst hx
          have hsame : (L.filter fun j => !(listed.setIfInBounds x true).getD j false) = L.filter fun j => !listed.getD j false := by
            refine List.filter_congr fun j hj => ?_
            rw [getD_set_ne false (by rintro rfl; exact hnd.1 hj)]
          rw [List.filter_cons, List.filter_cons, hsame, hself, hiu]; simp
        · have hm' : i ∈ L := by
            rcases List.mem_cons.1 hm with h | h
            · exact (hx h.symm).elim
            · exact h
          have := ihL hnd.2 hm'
          rw [List.filter_cons, List.filter_cons, getD_set_ne false (Ne.symm hx)]
          split <;> (try simp only [List.length_cons]) <;> omega
    have := key (List.range k) List.nodup_range (List.mem_range.2 hik)
    omega

def nodupB : List Nat → Bool
  | [] => true
  | x :: xs => !(xs.any fun y => Nat.beq y x) && nodupB xs
theorem nodupB_spec {l : List Nat} (h : nodupB l = true) : l.Nodup := by
  induction l with
  | nil => simp
  | cons x xs ih =>
    simp only [nodupB, Bool.and_eq_true, Bool.not_eq_true', List.any_eq_false] at h
    refine List.nodup_cons.2 ⟨fun hm => ?_, ih h.2⟩
    exact h.1 x hm (by simp)

/-- The test of the shape: the first k operations in any order, then the rest in one order. -/
def mixB (ops : Array Oper) (k : Nat) : Bool :=
  decide (k ≤ ops.size) && (List.range k).all (fun i => match ops[i]? with | some o => o.after.toList.all fun e => !Region.binds .any e || decide (e.on < i) | none => true) &&
  (decide (k = ops.size) || (Region.sinkB .any ops k && Region.chainB .any ops k)) && Region.seqB .any ops (ops.size - k) k ((Array.range ops.size).map fun i => decide (i < k))

theorem WpA.regionM {l : List Oper} {id : Nat} {out T1 : List (Nat × AV)} {Q : Exit → St → Prop} (k : Nat) (hm : P.follows .mixedOrders = true) (hB : mixB l.toArray k = true)
    (hJ : HeadJ P n m G l.toArray T0 O [] (l.take k) out) (hnd : nodupB (out.map (·.1)) = true) (hfr : (out.all fun p => !has T0 p.1) = true)
    (hT1 : out ++ T0 = T1) (h : WpL P n m G false l.toArray (l.drop k) ⟨T1, O⟩ Q) : WpA P n m G (.region id l.toArray true) ⟨T0, O⟩ Q := fun a w hr => by
  subst hT1
  simp only [mixB, Bool.and_eq_true, decide_eq_true_eq, Bool.or_eq_true] at hB
  obtain ⟨⟨⟨hks, hback⟩, hsc⟩, hseq⟩ := hB
  have hkl : k ≤ l.length := by simpa using hks
  have htl : (l.take k).length = k := by simp; omega
  obtain ⟨r, hr1, hr2⟩ := hJ.pre
  have hlen : out.length = k := by rw [hr1]; simp [hr2]; omega
  have H : Heads l.toArray T0 out k := ⟨hlen, nodupB_spec hnd, fun p hp => by have := List.all_eq_true.1 hfr p hp; simpa using this, fun i hi o ho e he hb => by
    have h1 := List.all_eq_true.1 hback i (List.mem_range.2 hi)
    rw [ho] at h1
    have h2 := List.all_eq_true.1 h1 e (by simpa using he)
    simp only [Bool.or_eq_true, Bool.not_eq_true', decide_eq_true_eq] at h2
    rcases h2 with h2 | h2
    · rw [hb] at h2; cases h2
    · exact h2⟩
  have hJ' : ∀ {j : Nat} {o : Oper}, j < k → l.toArray[j]? = some o → ∃ d V, o.dst = some d ∧ out[j]? = some (d, V) ∧
      ∀ Tv, WpL P n m G false l.toArray [o] ⟨deps (out.take j) o ++ (T0 ++ Tv), O⟩ (Only ⟨(d, V) :: (deps (out.take j) o ++ (T0 ++ Tv)), O⟩) := by
    intro j o hj ho
    have ho' : (l.take k)[j]? = some o := by rw [List.getElem?_take, if_pos hj]; simpa using ho
    have := hJ.at ho'
    simpa using this
  have inv0 : HeadInv .any l.toArray k (Array.replicate l.toArray.size false) :=
    ⟨by simp, fun j oj _ hl => (by rw [getD_replicate_false] at hl; cases hl), fun t _ ht => getD_in (by simpa using ht) (getD_replicate_false _ _)⟩
  refine wp_region_any hm ?_
  have fin := head_any (P := P) (n := n) (m := m) (G := G) (O := O) (g := l.toArray.size - k) (Q := fun e a' w' => ∃ σ', Q e σ' ∧ Rel n m G σ' a' w') H hks (fun hk => hsc.resolve_left (by omega)) hJ' (fun listed a w inv hall hg => by
    obtain ⟨T, hrT, h1, h2⟩ := hg
    have hlist : listed = (Array.range l.toArray.size).map fun i => decide (i < k) := by
      apply Array.ext
      · simp [inv.size]
      · intro i hi1 hi2
        have hi : i < l.toArray.size := by rw [← inv.size]; exact hi1
        by_cases hik : i < k
        · have := hall i hik
          simp [hi1] at this
          simp [this, hik]
        · have := inv.tail i (by omega) hi
          simp [hi1] at this
          simp [this, hik]
    have hdl : (l.drop k).length = l.toArray.size - k := by simp
    rw [← hdl]
    refine wpAny_of_seq (l.drop k) k listed a w (fun j => by simp [List.getElem?_drop]) (by rw [hdl, hlist]; exact hseq) ?_
    refine h a w (hrT.relook fun t => ?_)
    rw [look_append]
    split
    · rename_i hh
      obtain ⟨i, hi, hi2⟩ := List.getElem_of_mem (has_look hh)
      have : out[i]? = some (t, look out t) := by rw [List.getElem?_eq_getElem hi, hi2]
      exact (h1 i _ _ this (hall i (by omega))).symm
    · rename_i hh
      exact (h2 t (by simpa using hh)).symm) k _ a w.drew inv0 (by
        have : ((List.range k).filter fun i => !(Array.replicate l.toArray.size false).getD i false) = List.range k := by
          rw [List.filter_eq_self]; intro i _; rw [getD_replicate_false]; rfl
        rw [this]; simp) ⟨T0, hr.drew, ⟨fun i d V _ hl => (by rw [getD_replicate_false] at hl; cases hl), fun _ _ => rfl⟩⟩
  rw [show k + (l.toArray.size - k) = l.toArray.size by omega] at fin
  exact fin
end
end Go.Abs
namespace Go.Abs.K
theorem depT {fs F : List (Nat × AV)} {o : Oper} (h : deps fs o = F) : deps fs o = F := h
theorem appT {A B T : List (Nat × AV)} (h : A ++ B = T) : A ++ B = T := h
theorem headJ {P : Program} {n m : Nat} {G : Ctx} {ops : Array Oper} {T0 : List (Nat × AV)} {O : List AObj} {fs l out} (h : HeadJ P n m G ops T0 O fs l out) : HeadJ P n m G ops T0 O fs l out := h
theorem isTrue {b : Bool} (h : b = true) : b = true := h
end Go.Abs.K
