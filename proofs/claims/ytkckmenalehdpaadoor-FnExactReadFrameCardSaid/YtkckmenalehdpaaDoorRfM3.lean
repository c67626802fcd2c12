/- Proved in this text: lemmas and contracts of functions that the claim uses (parts: AbsN, AbsO, AbsP). No condition. -/
import Derived.Test.YtkckmenalehdpaaDoorRfM2
set_option linter.unusedVariables false
set_option linter.unusedSimpArgs false
set_option maxRecDepth 100000
set_option maxHeartbeats 4000000


namespace Go.Abs
open Go
abbrev Fact := Nat × AV × Nat
def ndeps (fs : List Fact) (o : Oper) : List (Nat × AV) := o.after.toList.filterMap fun e => if Region.binds .any e = true then (fs[e.on]?).map fun x => (x.1, x.2.1) else none
def sure (c0 : Nat) (fs : List Fact) (o : Oper) : Nat := o.after.toList.foldl (fun c e => if Region.binds .any e = true then (match fs[e.on]? with | some x => max c x.2.2 | none => c) else c) c0
inductive HeadN (P : Program) (n m : Nat) (G : Ctx) (ops : Array Oper) (T0 : List (Nat × AV)) (c0 : Nat) : List AObj → List Fact → List Oper → List AObj → List Fact → Prop
  | nil {O fs} : HeadN P n m G ops T0 c0 O fs [] O fs
  | pure {O fs o l O' out d V F c Oc} (hd : o.dst = some d) (hF : ndeps fs o = F) (hc : sure c0 fs o = c) (hO : O.take c = Oc)
      (h : ∀ Tv Ov, WpL P n m G false ops [o] ⟨F ++ (T0 ++ Tv), Oc ++ Ov⟩ (Only ⟨(d, V) :: (F ++ (T0 ++ Tv)), Oc ++ Ov⟩)) (r : HeadN P n m G ops T0 c0 O (fs ++ [(d, V, c)]) l O' out) : HeadN P n m G ops T0 c0 O fs (o :: l) O' out
  | prod {O fs o l O' out d V F N} (hd : o.dst = some d) (hF : ndeps fs o = F) (hc : sure c0 fs o = O.length) (hN : N ≠ [])
      (h : ∀ Tv, WpL P n m G false ops [o] ⟨F ++ (T0 ++ Tv), O⟩ (Only ⟨(d, V) :: (F ++ (T0 ++ Tv)), O ++ N⟩)) (r : HeadN P n m G ops T0 c0 (O ++ N) (fs ++ [(d, V, O.length + N.length)]) l O' out) : HeadN P n m G ops T0 c0 O fs (o :: l) O' out
section
variable {P : Program} {n m : Nat} {G : Ctx} {ops : Array Oper} {T0 : List (Nat × AV)}
theorem foldl_sure_le (fs : List Fact) (q : Nat) (L : List Edge) (hL : ∀ e ∈ L, Region.binds .any e = true → ∀ x, fs[e.on]? = some x → x.2.2 ≤ q) : ∀ c0, c0 ≤ q →
    L.foldl (fun c e => if Region.binds .any e = true then (match fs[e.on]? with | some x => max c x.2.2 | none => c) else c) c0 ≤ q := by
  induction L with
  | nil => intro c0 h; exact h
  | cons e L ih =>
    intro c0 h
    rw [List.foldl_cons]
    refine ih (fun e' he' => hL e' (List.mem_cons_of_mem _ he')) _ ?_
    split
    · rename_i hb
      split
      · rename_i x hx; exact Nat.max_le.2 ⟨h, hL e (by simp) hb x hx⟩
      · exact h
    · exact h
theorem foldl_sure_ge (fs : List Fact) (L : List Edge) : ∀ c0, c0 ≤ L.foldl (fun c e => if Region.binds .any e = true then (match fs[e.on]? with | some x => max c x.2.2 | none => c) else c) c0 := by
  induction L with
  | nil => intro c0; exact Nat.le_refl _
  | cons e L ih =>
    intro c0
    rw [List.foldl_cons]
    refine Nat.le_trans ?_ (ih _)
    split
    · split
      · exact Nat.le_max_left _ _
      · exact Nat.le_refl _
    · exact Nat.le_refl _
structure Plan (P : Program) (n m : Nat) (G : Ctx) (ops : Array Oper) (T0 : List (Nat × AV)) (c0 : Nat) (k : Nat) (out : List Fact) (O' : List AObj) (isP : Nat → Bool) (p : Nat → Nat) : Prop where
  len : out.length = k
  nodup : (out.map (·.1)).Nodup
  fresh : ∀ x, x ∈ out → has T0 x.1 = false
  back : ∀ i, i < k → ∀ o, ops[i]? = some o → ∀ e ∈ o.after, Region.binds .any e = true → e.on < i
  pure : ∀ i o d V c, i < k → isP i = false → ops[i]? = some o → out[i]? = some (d, V, c) → o.dst = some d ∧ sure c0 (out.take i) o = c ∧
    ∀ Tv Ov, WpL P n m G false ops [o] ⟨ndeps (out.take i) o ++ (T0 ++ Tv), O'.take c ++ Ov⟩ (Only ⟨(d, V) :: (ndeps (out.take i) o ++ (T0 ++ Tv)), O'.take c ++ Ov⟩)
  prod : ∀ i o d V c, i < k → isP i = true → ops[i]? = some o → out[i]? = some (d, V, c) → o.dst = some d ∧ sure c0 (out.take i) o = p i ∧ p i < c ∧ c ≤ O'.length ∧
    ∀ Tv, WpL P n m G false ops [o] ⟨ndeps (out.take i) o ++ (T0 ++ Tv), O'.take (p i)⟩ (Only ⟨(d, V) :: (ndeps (out.take i) o ++ (T0 ++ Tv)), O'.take c⟩)
  mono : ∀ i j d V c, i < j → j < k → isP i = true → isP j = true → out[i]? = some (d, V, c) → c ≤ p j
  base : c0 ≤ O'.length
  all : ∀ i, i < k → ∃ o, ops[i]? = some o
structure GoodN (n m : Nat) (G : Ctx) (T0 : List (Nat × AV)) (c0 : Nat) (out : List Fact) (O' : List AObj) (isP : Nat → Bool) (listed : Array Bool) (a : Act) (w : World) (T : List (Nat × AV)) (q : Nat) : Prop where
  rel : Rel n m G ⟨T, O'.take q⟩ a w
  facts : ∀ i d V c, out[i]? = some (d, V, c) → listed.getD i false = true → look T d = V
  other : ∀ t, has (out.map fun x => (x.1, x.2.1)) t = false → look T t = look T0 t
  lo : c0 ≤ q
  hi : q ≤ O'.length
  le : ∀ i d V c, out[i]? = some (d, V, c) → listed.getD i false = true → c ≤ q
  top : q = c0 ∨ ∃ i d V, out[i]? = some (d, V, q) ∧ isP i = true ∧ listed.getD i false = true
  down : ∀ i j, i < j → isP i = true → isP j = true → listed.getD j false = true → listed.getD i false = true
theorem outN_inj {out : List Fact} (h : (out.map (·.1)).Nodup) {i j d : Nat} {V W : AV × Nat} (hi : out[i]? = some (d, V)) (hj : out[j]? = some (d, W)) : i = j := by
  have hi' := (List.getElem?_eq_some_iff.1 hi).1
  refine (List.getElem?_inj (l := out.map (·.1)) (by simpa using hi') h).1 ?_
  simp [hi, hj]
theorem wpOp_only {σ0 σ1 : St} {i : Nat} {o : Oper} (ho : ops[i]? = some o) (hw : WpL P n m G false ops [o] σ0 (Only σ1)) {a : Act} {w : World} (hr : Rel n m G σ0 a w) {K : Act → World → Prop}
    (hK : ∀ a' w', Rel n m G σ1 a' w' → K a' w') {Q : Exit → Act → World → Prop} : wpOp P ops Q i K a w := by
  have hw' := hw a w hr
  simp only at hw'
  have only : ∀ e a' w', (∃ σ', Only σ1 e σ' ∧ Rel n m G σ' a' w') → e = .normal ∧ K a' w' := by
    rintro e a' w' ⟨σ', hq, hr'⟩
    cases e <;> first | (simp only [Only] at hq; subst hq; exact ⟨rfl, hK _ _ hr'⟩) | exact hq.elim
  unfold wpOp
  simp only [ho]
  change wpList P ops _ [o] a w at hw'
  unfold wpList at hw'
  by_cases hwant : Region.wanted o (yielded ops a.tmps) = true
  · rw [if_pos hwant] at hw' ⊢
    rcases hw' with hw' | ⟨_, a', w', hx⟩
    · refine .inl ?_
      unfold Oper.wp at hw' ⊢
      generalize (execOp a.eval o).run P w = r at *
      cases r with
      | ok x w1 =>
        cases x <;> simp only [Oper.upon] at hw' ⊢
        case value v => exact (only _ _ _ hw').2
        case skip => exact (only _ _ _ hw').2
        case defer d => exact (only _ _ _ hw').2
        case enter f args =>
          refine hw'.mono fun e w2 h2 => ?_
          cases e with
          | returned v => exact (only _ _ _ h2).2
          | panicked c => exact absurd (only _ _ _ h2).1 (by simp)
          | outgrown => obtain ⟨_, _, hf⟩ := h2; exact absurd (only _ _ _ hf).1 (by simp)
        case row r ar => exact hw'.mono fun v w2 h2 => (only _ _ _ h2).2
      | halt x w1 => cases x <;> simp only [Oper.upon] at hw' ⊢ <;> first | exact absurd (only _ _ _ hw').1 (by simp) | exact hw'.elim | (obtain ⟨_, _, hf⟩ := hw'; exact absurd (only _ _ _ hf).1 (by simp))
    · exact absurd (only _ _ _ hx).1 (by simp)
  · rw [if_neg hwant] at hw' ⊢
    exact (only _ _ _ hw').2
theorem stepN {c0 k : Nat} {out : List Fact} {O' : List AObj} {isP : Nat → Bool} {p : Nat → Nat} (H : Plan P n m G ops T0 c0 k out O' isP p) {listed : Array Bool} (inv : HeadInv .any ops k listed)
    {i : Nat} (hi : i ∈ Region.ready .any ops listed) (hik : i < k) {a w T q} (hg : GoodN n m G T0 c0 out O' isP listed a w T q) {K : Act → World → Prop}
    (hK : ∀ a' w' T' q', GoodN n m G T0 c0 out O' isP (listed.setIfInBounds i true) a' w' T' q' → K a' w') {Q : Exit → Act → World → Prop} : wpOp P ops Q i K a w := by
  obtain ⟨hun, o, ho, hall⟩ := mem_ready.1 hi
  have hunf : listed.getD i false = false := getD_both hun
  have hil : i < out.length := by rw [H.len]; exact hik
  obtain ⟨⟨d, V, c⟩, hout⟩ : ∃ x, out[i]? = some x := ⟨out[i], by simp [hil]⟩
  have hdep : ∀ e ∈ o.after.toList, Region.binds .any e = true → ∀ x, (out.take i)[e.on]? = some x → out[e.on]? = some x ∧ listed.getD e.on false = true := by
    intro e he hb x hx
    rw [List.getElem?_take] at hx
    split at hx
    · exact ⟨hx, hall e (by simpa using he) hb⟩
    · simp at hx
  have hF : ∀ t U, (t, U) ∈ ndeps (out.take i) o → look T t = U := by
    intro t U hm
    simp only [ndeps, List.mem_filterMap] at hm
    obtain ⟨e, he, hx⟩ := hm
    split at hx
    · rename_i hb
      simp only [Option.map_eq_some_iff, Prod.mk.injEq] at hx
      obtain ⟨⟨d', V', c'⟩, hx1, rfl, rfl⟩ := hx
      obtain ⟨h1, h2⟩ := hdep e he hb _ hx1
      exact hg.facts _ _ _ _ h1 h2
    · simp at hx
  have same : ∀ t, look (ndeps (out.take i) o ++ (T0 ++ T)) t = look T t := by
    intro t
    rw [look_append]
    split
    · rename_i h; exact (hF _ _ (has_look h)).symm
    · rw [look_append]
      split
      · rename_i h
        refine (hg.other t ?_).symm
        cases hc : has (out.map fun x => (x.1, x.2.1)) t with
        | false => rfl
        | true =>
          have hm := has_look hc
          simp only [List.mem_map, Prod.mk.injEq] at hm
          obtain ⟨x, hx, hx1, _⟩ := hm
          have := H.fresh x hx
          rw [hx1] at this; rw [this] at h; cases h
      · rfl
  have hsle : sure c0 (out.take i) o ≤ q := foldl_sure_le _ q _ (fun e he hb x hx => by
    obtain ⟨h1, h2⟩ := hdep e he hb x hx
    obtain ⟨d', V', c'⟩ := x
    exact hg.le _ _ _ _ h1 h2) c0 hg.lo
  have hsge : c0 ≤ sure c0 (out.take i) o := foldl_sure_ge _ _ c0
  have facts' : ∀ (j d' : Nat) (V' : AV) (c' : Nat), out[j]? = some (d', V', c') → (listed.setIfInBounds i true).getD j false = true → look ((d, V) :: (ndeps (out.take i) o ++ (T0 ++ T))) d' = V' := by
    intro j d' V' c' hj hl
    by_cases hij : i = j
    · subst hij; rw [hout] at hj; cases hj; exact look_cons_same _ _ _
    · rw [getD_set_ne false hij] at hl
      have hne : d ≠ d' := by rintro rfl; exact hij (outN_inj H.nodup hout hj)
      rw [look_cons_other _ _ _ _ hne, same]
      exact hg.facts _ _ _ _ hj hl
  have other' : ∀ t, has (out.map fun x => (x.1, x.2.1)) t = false → look ((d, V) :: (ndeps (out.take i) o ++ (T0 ++ T))) t = look T0 t := by
    intro t ht
    have hne : d ≠ t := by
      rintro rfl
      have : has (out.map fun x => (x.1, x.2.1)) d = true := has_mem (V := V) (List.mem_map.2 ⟨_, List.mem_of_getElem? hout, rfl⟩)
      rw [ht] at this; cases this
    rw [look_cons_other _ _ _ _ hne, same]; exact hg.other t ht
  have le' : ∀ q', q ≤ q' → c ≤ q' → ∀ (j d' : Nat) (V' : AV) (c' : Nat), out[j]? = some (d', V', c') → (listed.setIfInBounds i true).getD j false = true → c' ≤ q' := by
    intro q' h1 h2 j d' V' c' hj hl
    by_cases hij : i = j
    · subst hij; rw [hout] at hj; cases hj; exact h2
    · rw [getD_set_ne false hij] at hl; exact Nat.le_trans (hg.le _ _ _ _ hj hl) h1
  have hself : (listed.setIfInBounds i true).getD i false = true := by
    have hlt := (Array.getElem?_eq_some_iff.1 ho).1
    have : i < listed.size := by rw [inv.size]; exact hlt
    simp [this]
  cases hp : isP i with
  | false =>
    obtain ⟨hd, hs, hj⟩ := H.pure i o d V c hik hp ho hout
    have hcq : c ≤ q := by omega
    have e : O'.take q = O'.take c ++ (O'.take q).drop c := by
      rw [← List.take_append_drop c (O'.take q), List.take_take, Nat.min_eq_left hcq, List.drop_append_of_le_length (by simp; have := hg.hi; omega)]
      simp
    have hr : Rel n m G ⟨ndeps (out.take i) o ++ (T0 ++ T), O'.take c ++ (O'.take q).drop c⟩ a w := by rw [← e]; exact hg.rel.relook same
    refine wpOp_only ho (hj T _) hr fun a' w' hr' => hK a' w' _ q ⟨by rw [e]; exact hr', facts', other', hg.lo, hg.hi, le' q (Nat.le_refl _) hcq, ?_, ?_⟩
    · rcases hg.top with h | ⟨r, d', V', h1, h2, h3⟩
      · exact .inl h
      · exact .inr ⟨r, d', V', h1, h2, getD_set_true h3⟩
    · intro i' j' hlt h1 h2 h3
      have hne : i ≠ j' := by rintro rfl; rw [hp] at h2; cases h2
      rw [getD_set_ne false hne] at h3
      exact getD_set_true (hg.down _ _ hlt h1 h2 h3)
  | true =>
    obtain ⟨hd, hs, hpc, hcO, hj⟩ := H.prod i o d V c hik hp ho hout
    have hq : q = p i := by
      have h1 : p i ≤ q := by omega
      rcases hg.top with h | ⟨r, d', V', h2, h3, h4⟩
      · omega
      · have hrlt : r < k := by rw [← H.len]; exact (List.getElem?_eq_some_iff.1 h2).1
        have hri : r < i := by
          rcases Nat.lt_trichotomy r i with h | h | h
          · exact h
          · subst h; rw [hunf] at h4; cases h4
          · have := hg.down _ _ h hp h3 h4; rw [hunf] at this; cases this
        have := H.mono r i d' V' q hri hik h3 hp h2
        omega
    subst hq
    refine wpOp_only ho (hj T) (hg.rel.relook same) fun a' w' hr' => hK a' w' _ c ⟨hr', facts', other', by omega, hcO, le' c (by omega) (Nat.le_refl _), .inr ⟨i, d, V, hout, hp, hself⟩, ?_⟩
    intro i' j' hlt h1 h2 h3
    by_cases hij : i = j'
    · subst hij
      have hi'k : i' < k := by omega
      obtain ⟨⟨d1, V1, c1⟩, ho1⟩ : ∃ x, out[i']? = some x := ⟨out[i']'(by rw [H.len]; exact hi'k), by simp⟩
      obtain ⟨o1, hoo1⟩ := H.all i' hi'k
      obtain ⟨_, hs1, hpc1, _, _⟩ := H.prod i' o1 d1 V1 c1 hi'k h1 hoo1 ho1
      have hm := H.mono i' i d1 V1 c1 hlt hik h1 hp ho1
      have hb := foldl_sure_ge (out.take i') o1.after.toList c0
      have hb' : c0 ≤ p i' := by rw [← hs1]; exact hb
      rcases hg.top with h | ⟨r, d', V', h4, h5, h6⟩
      · omega
      · rcases Nat.lt_trichotomy r i' with h | h | h
        · have := H.mono r i' d' V' _ h hi'k h5 h1 h4; omega
        · subst h; exact getD_set_true h6
        · exact getD_set_true (hg.down _ _ h h1 h5 h6)
    · rw [getD_set_ne false hij] at h3
      exact getD_set_true (hg.down _ _ hlt h1 h2 h3)
theorem anyN {c0 k g : Nat} {out : List Fact} {O' : List AObj} {isP : Nat → Bool} {p : Nat → Nat} (H : Plan P n m G ops T0 c0 k out O' isP p) (hks : k ≤ ops.size) (hs : k < ops.size → Region.sinkB .any ops k = true ∧ Region.chainB .any ops k = true)
    {Q : Exit → Act → World → Prop}
    (hT : ∀ listed a w, HeadInv .any ops k listed → (∀ i, i < k → listed.getD i false = true) → (∃ T q, GoodN n m G T0 c0 out O' isP listed a w T q) → wpAny P .any ops Q g listed a w) :
    ∀ (f : Nat) (listed : Array Bool) (a : Act) (w : World), HeadInv .any ops k listed → ((List.range k).filter fun i => !listed.getD i false).length = f → (∃ T q, GoodN n m G T0 c0 out O' isP listed a w T q) →
      wpAny P .any ops Q (f + g) listed a w := by
  intro f
  induction f with
  | zero =>
    intro listed a w inv hc hg
    rw [Nat.zero_add]
    refine hT listed a w inv (fun i hi => ?_) hg
    have h0 := List.eq_nil_of_length_eq_zero hc
    cases hl : listed.getD i false with
    | true => rfl
    | false =>
      have : i ∈ (List.range k).filter fun i => !listed.getD i false := by simp [List.mem_filter, hi]; simpa using hl
      rw [h0] at this; cases this
  | succ f ih =>
    intro listed a w inv hc hg
    have hgetD : ∀ i, i < k → listed.getD i false = false → listed.getD i true = false := fun i hi h => getD_in (by rw [inv.size]; omega) h
    -- the least that is not listed is ready
    have hex : ∃ i, i < k ∧ listed.getD i false = false := by
      cases hl : (List.range k).filter fun i => !listed.getD i false with
      | nil => rw [hl] at hc; simp at hc
      | cons i r =>
        have : i ∈ (List.range k).filter fun i => !listed.getD i false := by rw [hl]; simp
        rw [List.mem_filter, List.mem_range] at this
        exact ⟨i, this.1, by simpa using this.2⟩
    obtain ⟨i0, hi0, hl0⟩ := hex
    have least : ∀ d i, i = d → i < k → listed.getD i false = false → ∃ j, j < k ∧ j ∈ Region.ready .any ops listed := by
      intro d
      induction d using Nat.strongRecOn with
      | _ d ihd =>
        rintro i rfl hi hl
        by_cases hh : ∃ j, j < i ∧ listed.getD j false = false
        · obtain ⟨j, hj, hjl⟩ := hh
          exact ihd j hj j rfl (by omega) hjl
        · have hlt : i < ops.size := by omega
          refine ⟨i, hi, mem_ready.2 ⟨hgetD i hi hl, ops[i], by simp [hlt], fun e he hb => ?_⟩⟩
          have hlt' := H.back i hi _ (by simp [hlt]) e he hb
          cases hx : listed.getD e.on false with
          | true => rfl
          | false => exact (hh ⟨_, hlt', hx⟩).elim
    obtain ⟨j0, hj0, hr0⟩ := least i0 i0 rfl hi0 hl0
    rw [show f + 1 + g = (f + g) + 1 by omega]
    refine ⟨fun h => (by rw [h] at hr0; cases hr0), fun i hi => ?_⟩
    have hik : i < k := by
      rcases Nat.lt_or_ge i k with h | h
      · exact h
      · by_cases hk : k < ops.size
        · exact absurd hi (tail_waits (hs hk).1 (hs hk).2 hk inv _ i0 rfl hi0 (hgetD i0 hi0 hl0) i h)
        · obtain ⟨_, o, ho, _⟩ := mem_ready.1 hi
          have := (Array.getElem?_eq_some_iff.1 ho).1
          omega
    have hiu : listed.getD i false = false := getD_both (mem_ready.1 hi).1
    obtain ⟨T, q, hg⟩ := hg
    refine stepN H inv hi hik hg fun a' w' T' q' hg' => ih _ _ _ (inv.set hi hik) ?_ ⟨T', q', hg'⟩
    have key : ∀ (L : List Nat), L.Nodup → i ∈ L → (L.filter fun j => !(listed.setIfInBounds i true).getD j false).length + 1 = (L.filter fun j => !listed.getD j false).length := by
      intro L
      have hself : (listed.setIfInBounds i true).getD i false = true := by
        have : i < listed.size := by rw [inv.size]; omega
        simp [this]
      induction L with
      | nil => intro _ h; cases h
      | cons x L ihL =>
        intro hnd hm
        rw [List.nodup_cons] at hnd
        by_cases hx : x = i
        · subst hx
          have hsame : (L.filter fun j => !(listed.setIfInBounds x true).getD j false) = L.filter fun j => !listed.getD j false := by
            refine List.filter_congr fun j hj => ?_
            rw [getD_set_ne false (by rintro rfl; exact hnd.1 hj)]
          rw [List.filter_cons, List.filter_cons, hsame, hself, hiu]; simp
        · have hm' : i ∈ L := by
            rcases List.mem_cons.1 hm with h | h
            · exact (hx h.symm).elim
            · exact h
          have := ihL hnd.2 hm'
          rw [List.filter_cons, List.filter_cons, getD_set_ne false (Ne.symm hx)]
          split <;> (try simp only [List.length_cons]) <;> omega
    have := key (List.range k) List.nodup_range (List.mem_range.2 hik)
    omega
def Said (P : Program) (n m : Nat) (G : Ctx) (ops : Array Oper) (T0 : List (Nat × AV)) (c0 : Nat) (fs : List Fact) (O' : List AObj) (o : Oper) (kd : Option Nat) (d : Nat) (V : AV) (c : Nat) : Prop :=
  o.dst = some d ∧ match kd with
  | none => sure c0 fs o = c ∧ ∀ Tv Ov, WpL P n m G false ops [o] ⟨ndeps fs o ++ (T0 ++ Tv), O'.take c ++ Ov⟩ (Only ⟨(d, V) :: (ndeps fs o ++ (T0 ++ Tv)), O'.take c ++ Ov⟩)
  | some p => sure c0 fs o = p ∧ p < c ∧ c ≤ O'.length ∧ ∀ Tv, WpL P n m G false ops [o] ⟨ndeps fs o ++ (T0 ++ Tv), O'.take p⟩ (Only ⟨(d, V) :: (ndeps fs o ++ (T0 ++ Tv)), O'.take c⟩)
theorem HeadN.said {c0 O fs l O' out} (h : HeadN P n m G ops T0 c0 O fs l O' out) : c0 ≤ O.length → (∀ x ∈ fs, x.2.2 ≤ O.length) →
    O <+: O' ∧ ∃ (r : List Fact) (ks : List (Option Nat)), out = fs ++ r ∧ r.length = l.length ∧ ks.length = l.length ∧
      (∀ j o, l[j]? = some o → ∃ d V c kd, r[j]? = some (d, V, c) ∧ ks[j]? = some kd ∧ Said P n m G ops T0 c0 (out.take (fs.length + j)) O' o kd d V c) ∧
      (∀ (j : Nat) (p : Nat), ks[j]? = some (some p) → O.length ≤ p) ∧
      (∀ (i j p q d : Nat) (V : AV) (c : Nat), i < j → ks[i]? = some (some p) → ks[j]? = some (some q) → r[i]? = some (d, V, c) → c ≤ q) ∧
      (O' = O ∨ ∃ (j p d : Nat) (V : AV), ks[j]? = some (some p) ∧ r[j]? = some (d, V, O'.length)) := by
  induction h with
  | nil => intro _ _; exact ⟨List.prefix_refl _, [], [], by simp, rfl, rfl, by simp, by simp, by simp, .inl rfl⟩
  | @pure O fs o l O' out d V F c Oc hd hF hc hO h r ih =>
    intro h0 hfs
    have hcO : c ≤ O.length := by rw [← hc]; exact foldl_sure_le _ _ _ (fun e _ _ x hx => hfs x (List.mem_of_getElem? hx)) _ h0
    obtain ⟨hpre, rr, ks, e1, e2, e3, e4, e5, e6, e7⟩ := ih h0 (fun x hx => by
      rcases List.mem_append.1 hx with hx | hx
      · exact hfs x hx
      · have : x = (d, V, c) := by simpa using hx
        subst this; exact hcO)
    have htk : out.take (fs.length + 0) = fs := by rw [e1, Nat.add_zero, List.append_assoc, List.take_left']; rfl
    refine ⟨hpre, (d, V, c) :: rr, none :: ks, by rw [e1]; simp, by simp [e2], by simp [e3], fun j o' hj => ?_, fun j p hj => ?_, fun i j p q d' V' c' hij hi hj hr => ?_, ?_⟩
    · cases j with
      | zero =>
        simp only [List.getElem?_cons_zero, Option.some.injEq] at hj; subst hj
        refine ⟨d, V, c, none, by simp, by simp, hd, ?_⟩
        rw [htk]
        refine ⟨hc, ?_⟩
        have : O'.take c = Oc := by rw [← hO]; obtain ⟨z, hz⟩ := hpre; rw [← hz, List.take_append_of_le_length hcO]
        rw [this, hF]; exact h
      | succ j =>
        obtain ⟨d', V', c', kd, q1, q2, q3⟩ := e4 j o' (by simpa using hj)
        refine ⟨d', V', c', kd, by simpa using q1, by simpa using q2, ?_⟩
        rw [List.length_append, List.length_singleton, Nat.add_assoc, Nat.add_comm 1 j] at q3; exact q3
    · cases j with
      | zero => simp at hj
      | succ j => exact e5 j p (by simpa using hj)
    · cases i with
      | zero => simp at hi
      | succ i => cases j with
        | zero => omega
        | succ j => exact e6 i j p q d' V' c' (by omega) (by simpa using hi) (by simpa using hj) (by simpa using hr)
    · rcases e7 with h | ⟨j, p, d', V', h1, h2⟩
      · exact .inl h
      · exact .inr ⟨j + 1, p, d', V', by simpa using h1, by simpa using h2⟩
  | @prod O fs o l O' out d V F N hd hF hc hN h r ih =>
    intro h0 hfs
    have hNl : 0 < N.length := List.length_pos_iff.2 hN
    obtain ⟨hpre, rr, ks, e1, e2, e3, e4, e5, e6, e7⟩ := ih (by simp; omega) (fun x hx => by
      rcases List.mem_append.1 hx with hx | hx
      · have := hfs x hx; simp; omega
      · have : x = (d, V, O.length + N.length) := by simpa using hx
        subst this; simp)
    have htk : out.take (fs.length + 0) = fs := by rw [e1, Nat.add_zero, List.append_assoc, List.take_left']; rfl
    refine ⟨List.IsPrefix.trans (List.prefix_append O N) hpre, (d, V, O.length + N.length) :: rr, some O.length :: ks, by rw [e1]; simp, by simp [e2], by simp [e3], fun j o' hj => ?_, fun j p hj => ?_, fun i j p q d' V' c' hij hi hj hr => ?_, ?_⟩
    · cases j with
      | zero =>
        simp only [List.getElem?_cons_zero, Option.some.injEq] at hj; subst hj
        refine ⟨d, V, O.length + N.length, some O.length, by simp, by simp, hd, ?_⟩
        rw [htk]
        obtain ⟨z, hz⟩ := hpre
        have t1 : O'.take O.length = O := by rw [← hz, List.append_assoc]; exact List.take_left' rfl
        have t2 : O'.take (O.length + N.length) = O ++ N := by rw [← hz]; exact List.take_left' (by simp)
        refine ⟨hc, by omega, by rw [← hz]; simp, ?_⟩
        rw [t1, t2, hF]; exact h
      | succ j =>
        obtain ⟨d', V', c', kd, q1, q2, q3⟩ := e4 j o' (by simpa using hj)
        refine ⟨d', V', c', kd, by simpa using q1, by simpa using q2, ?_⟩
        rw [List.length_append, List.length_singleton, Nat.add_assoc, Nat.add_comm 1 j] at q3; exact q3
    · cases j with
      | zero => simp at hj; omega
      | succ j => have := e5 j p (by simpa using hj); simp at this; omega
    · cases j with
      | zero => omega
      | succ j => cases i with
        | zero =>
          have h1 := e5 j q (by simpa using hj)
          simp at hr h1
          omega
        | succ i => exact e6 i j p q d' V' c' (by omega) (by simpa using hi) (by simpa using hj) (by simpa using hr)
    · rcases e7 with h | ⟨j, p, d', V', h1, h2⟩
      · exact .inr ⟨0, O.length, d, V, by simp, by rw [h]; simp⟩
      · exact .inr ⟨j + 1, p, d', V', by simpa using h1, by simpa using h2⟩
theorem WpA.regionN {l : List Oper} {id : Nat} {O O' : List AObj} {out : List Fact} {T1 : List (Nat × AV)} {Q : Exit → St → Prop} (k : Nat) (hm : P.follows .mixedOrders = true) (hB : mixB l.toArray k = true)
    (hJ : HeadN P n m G l.toArray T0 O.length O [] (l.take k) O' out) (hnd : nodupB (out.map (·.1)) = true) (hfr : (out.all fun p => !has T0 p.1) = true)
    (hT1 : (out.map fun x => (x.1, x.2.1)) ++ T0 = T1) (h : WpL P n m G false l.toArray (l.drop k) ⟨T1, O'⟩ Q) : WpA P n m G (.region id l.toArray true) ⟨T0, O⟩ Q := fun a w hr => by
  subst hT1
  simp only [mixB, Bool.and_eq_true, decide_eq_true_eq, Bool.or_eq_true] at hB
  obtain ⟨⟨⟨hks, hback⟩, hsc⟩, hseq⟩ := hB
  have hkl : k ≤ l.length := by simpa using hks
  have htl : (l.take k).length = k := by simp; omega
  obtain ⟨hpre, r, kds, hr1, hr2, hr3, hsaid, hlow, hmono, hlast⟩ := hJ.said (Nat.le_refl _) (by simp)
  have hro : out = r := by simpa using hr1
  subst hro
  have hlen : out.length = k := by rw [hr2, htl]
  have hat : ∀ i, i < k → ∃ o d V c kd, l.toArray[i]? = some o ∧ out[i]? = some (d, V, c) ∧ kds[i]? = some kd ∧ Said P n m G l.toArray T0 O.length (out.take i) O' o kd d V c := by
    intro i hi
    have hil : i < (l.take k).length := by omega
    obtain ⟨d, V, c, kd, q1, q2, q3⟩ := hsaid i (l.take k)[i] (List.getElem?_eq_getElem hil)
    refine ⟨(l.take k)[i], d, V, c, kd, ?_, q1, q2, by simpa using q3⟩
    have : l[i]? = some (l.take k)[i] := by
      have h1 : (l.take k)[i]? = some (l.take k)[i] := List.getElem?_eq_getElem hil
      rw [List.getElem?_take, if_pos hi] at h1; exact h1
    rw [List.getElem?_toArray]; exact this
  have H : Plan P n m G l.toArray T0 O.length k out O' (fun i => match kds[i]? with | some (some _) => true | _ => false) (fun i => match kds[i]? with | some (some p) => p | _ => 0) := by
    refine ⟨hlen, nodupB_spec hnd, fun x hx => by have := List.all_eq_true.1 hfr x hx; simpa using this, fun i hi o ho e he hb => ?_, fun i o d V c hi hP ho hout => ?_, fun i o d V c hi hP ho hout => ?_, fun i j d V c hij hjk hP hP' hout => ?_, hpre.length_le, fun i hi => ?_⟩
    · have h1 := List.all_eq_true.1 hback i (List.mem_range.2 hi)
      rw [ho] at h1
      have h2 := List.all_eq_true.1 h1 e (by simpa using he)
      simp only [Bool.or_eq_true, Bool.not_eq_true', decide_eq_true_eq] at h2
      rcases h2 with h2 | h2
      · rw [hb] at h2; cases h2
      · exact h2
    · obtain ⟨o1, d1, V1, c1, kd, q1, q2, q3, q4⟩ := hat i hi
      rw [ho] at q1; cases q1
      rw [hout] at q2; cases q2
      simp only [q3] at hP
      cases kd with
      | some p => simp at hP
      | none => exact ⟨q4.1, q4.2.1, q4.2.2⟩
    · obtain ⟨o1, d1, V1, c1, kd, q1, q2, q3, q4⟩ := hat i hi
      rw [ho] at q1; cases q1
      rw [hout] at q2; cases q2
      simp only [q3] at hP ⊢
      cases kd with
      | none => simp at hP
      | some p => exact ⟨q4.1, q4.2.1, q4.2.2.1, q4.2.2.2.1, q4.2.2.2.2⟩
    · obtain ⟨_, _, _, _, k1, _, _, q3, _⟩ := hat i (by omega)
      obtain ⟨_, _, _, _, k2, _, _, q3', _⟩ := hat j hjk
      simp only [q3] at hP
      simp only [q3'] at hP' ⊢
      cases k1 with
      | none => simp at hP
      | some p => cases k2 with
        | none => simp at hP'
        | some q => exact hmono i j p q d V c hij q3 q3' hout
    · obtain ⟨o, _, _, _, _, q1, _⟩ := hat i hi; exact ⟨o, q1⟩
  have inv0 : HeadInv .any l.toArray k (Array.replicate l.toArray.size false) :=
    ⟨by simp, fun j oj _ hl => (by rw [getD_replicate_false] at hl; cases hl), fun t _ ht => getD_in (by simpa using ht) (getD_replicate_false _ _)⟩
  refine wp_region_any hm ?_
  have fin := anyN (P := P) (n := n) (m := m) (G := G) (g := l.toArray.size - k) (Q := fun e a' w' => ∃ σ', Q e σ' ∧ Rel n m G σ' a' w') H hks (fun hk => hsc.resolve_left (by omega)) (fun listed a w inv hall hg => by
    obtain ⟨T, q, hg⟩ := hg
    have hq : q = O'.length := by
      rcases hlast with hl | ⟨j, p, d, V, h1, h2⟩
      · have := hg.lo; have := hg.hi; rw [hl] at this ⊢; omega
      · have hjk : j < k := by rw [← hlen]; exact (List.getElem?_eq_some_iff.1 h2).1
        have := hg.le j d V _ h2 (hall j hjk); have := hg.hi; omega
    have hrT := hg.rel
    rw [hq, List.take_length] at hrT
    have hlist : listed = (Array.range l.toArray.size).map fun i => decide (i < k) := by
      apply Array.ext
      · simp [inv.size]
      · intro i hi1 hi2
        have hi : i < l.toArray.size := by rw [← inv.size]; exact hi1
        by_cases hik : i < k
        · have := hall i hik
          simp [hi1] at this
          simp [this, hik]
        · have := inv.tail i (by omega) hi
          simp [hi1] at this
          simp [this, hik]
    have hdl : (l.drop k).length = l.toArray.size - k := by simp
    rw [← hdl]
    refine wpAny_of_seq (l.drop k) k listed a w (fun j => by simp [List.getElem?_drop]) (by rw [hdl, hlist]; exact hseq) ?_
    refine h a w (hrT.relook fun t => ?_)
    rw [look_append]
    split
    · rename_i hh
      obtain ⟨⟨d, V, c⟩, hx, hx2⟩ := List.mem_map.1 (has_look hh)
      obtain ⟨i, hi⟩ := List.getElem?_of_mem hx
      simp only [Prod.mk.injEq] at hx2
      obtain ⟨rfl, hx2⟩ := hx2
      rw [← hx2]
      exact (hg.facts i _ _ _ hi (hall i (by rw [← hlen]; exact (List.getElem?_eq_some_iff.1 hi).1))).symm
    · rename_i hh
      exact (hg.other t (by simpa using hh)).symm) k _ a w.drew inv0 (by
        have : ((List.range k).filter fun i => !(Array.replicate l.toArray.size false).getD i false) = List.range k := by
          rw [List.filter_eq_self]; intro i _; rw [getD_replicate_false]; rfl
        rw [this]; simp) ⟨T0, O.length, ⟨by obtain ⟨z, hz⟩ := hpre; rw [← hz, List.take_left' rfl]; exact hr.drew, fun i d V c _ hl => (by rw [getD_replicate_false] at hl; cases hl), fun _ _ => rfl, Nat.le_refl _, hpre.length_le, fun i d V c _ hl => (by rw [getD_replicate_false] at hl; cases hl), .inl rfl, fun i j _ _ _ hl => (by rw [getD_replicate_false] at hl; cases hl)⟩⟩
  rw [show k + (l.toArray.size - k) = l.toArray.size by omega] at fin
  exact fin
end
end Go.Abs


namespace Go.Abs
open Go
abbrev I (n : Int) : AV := .sc (.int .i64 n)
abbrev B (b : Bool) : AV := .sc (.bool b)
abbrev Z (p : List UInt8) : AV := .sc (.string ⟨p.toArray⟩)
abbrev U (n : Int) : AV := .sc (.int .u8 n)
abbrev IL (xs : List Int) : AV := .imm 1 xs.length (ints xs)
theorem mul_in {a b : Int} (h : -2147483648 ≤ a ∧ a ≤ 2147483648) (h2 : -2147483648 ≤ b ∧ b ≤ 2147483648) : -9223372036854775808 ≤ a * b ∧ a * b ≤ 9223372036854775807 := by
  have h1 : a.natAbs ≤ 2147483648 := by omega
  have h3 : b.natAbs ≤ 2147483648 := by omega
  have h4 := Nat.mul_le_mul h1 h3
  rw [← Int.natAbs_mul] at h4
  omega
def cnt : Nat → Nat → Option Nat
  | 0, k => some k
  | n + 1, k => cnt n (k + 1)
theorem cnt_eq : ∀ {n k c : Nat}, cnt n k = some c → n + k = c
  | 0, k, c, h => by simp [cnt] at h; omega
  | n + 1, k, c, h => by rw [cnt] at h; have := cnt_eq h; omega
structure Hold (R : Prop) : Prop where
  out : R
theorem Hold.h {A B : Prop} (h : Hold (A ∧ B)) : A := h.out.1
structure IsT (R : Prop) : Prop where
  a : True
theorem IsT.t : IsT True := ⟨trivial⟩
theorem IsT.any {R : Prop} : IsT R := ⟨trivial⟩
theorem Hold.t {A B : Prop} (h : Hold (A ∧ B)) : Hold B := ⟨h.out.2⟩
section
variable {P : Program} {n m : Nat} {G : Ctx} {T : List (Nat × AV)} {O : List AObj} {Q : Exit → St → Prop} {ops : Array Oper} {l : List Oper} {d : Nat} {tt : TypeId} {pos : String} {after : Array Edge} {tab : List (Nat × Ty)}
mutual
def AV.flat : AV → Bool
  | .own _ _ _ _ => false
  | .agg ds => AV.flatL ds
  | .tup ds => AV.flatL ds
  | V => V.still
def AV.flatL : List AV → Bool
  | [] => true
  | V :: Vs => V.flat && AV.flatL Vs
end
mutual
theorem AV.flat_sh (k : Nat) : ∀ (V : AV), V.flat = true → V.shOk = true ∧ V.sh k = V
  | .own _ _ _ _, h => by simp [AV.flat] at h
  | .agg ds, h => by have := AV.flatL_sh k ds (by simpa [AV.flat] using h); simp [AV.shOk, AV.sh, this]
  | .tup ds, h => by have := AV.flatL_sh k ds (by simpa [AV.flat] using h); simp [AV.shOk, AV.sh, this]
  | .any, h => by simp [AV.shOk, AV.sh, AV.still]
  | .sc _, h => by simp [AV.shOk, AV.sh, AV.still]
  | .nilS, h => by simp [AV.shOk, AV.sh, AV.still]
  | .imm _ _ _, h => by simp [AV.shOk, AV.sh, AV.still]
  | .fre _ _ _, h => by simp [AV.shOk, AV.sh, AV.still]
  | .ptr _ _ _, h => by simp [AV.flat, AV.still] at h
  | .iptr _ _, h => by simp [AV.shOk, AV.sh, AV.still]
  | .fn _ _, h => by simp [AV.flat] at h; simp [AV.shOk, AV.sh, h]
  | .ifc _ _, h => by simp [AV.flat] at h; simp [AV.shOk, AV.sh, h]
theorem AV.flatL_sh (k : Nat) : ∀ (Vs : List AV), AV.flatL Vs = true → AV.shOkL Vs = true ∧ AV.shL k Vs = Vs
  | [], _ => by simp [AV.shOkL, AV.shL]
  | V :: Vs, h => by
    simp only [AV.flatL, Bool.and_eq_true] at h
    have h1 := AV.flat_sh k V h.1
    have h2 := AV.flatL_sh k Vs h.2
    simp [AV.shOkL, AV.shL, h1, h2]
end
theorem nid_len : ∀ (O : List AObj) (k : Nat), nid O k = some (k + O.length)
  | [], k => by simp [nid]
  | _ :: O, k => by rw [nid, nid_len O (k + 1)]; simp; omega
mutual
def AV.shF (k : Nat) : AV → Option AV
  | .own id ep off len => some (.own (id + k) ep off len)
  | .agg ds => match AV.shFL k ds with
    | some r => some (.agg r)
    | none => none
  | .tup ds => match AV.shFL k ds with
    | some r => some (.tup r)
    | none => none
  | .any => some .any
  | .sc v => some (.sc v)
  | .nilS => some .nilS
  | .imm s l ds => some (.imm s l ds)
  | .fre s l ds => some (.fre s l ds)
  | .ptr id ep off => some (.ptr id ep off)
  | .iptr ds off => some (.iptr ds off)
  | .fn f ds => some (.fn f ds)
  | .ifc t v => some (.ifc t v)
def AV.shFL (k : Nat) : List AV → Option (List AV)
  | [] => some []
  | V :: Vs => match AV.shF k V with
    | none => none
    | some W => match AV.shFL k Vs with
      | some r => some (W :: r)
      | none => none
end
mutual
theorem AV.shF_eq (k : Nat) : ∀ (V W : AV), AV.shF k V = some W → V.sh k = W
  | .own id ep off len, W, h => by rw [AV.shF] at h; rw [AV.sh]; exact Option.some.inj h
  | .agg ds, W, h => by
    rw [AV.shF] at h; rw [AV.sh]
    cases hr : AV.shFL k ds with
    | none => rw [hr] at h; cases h
    | some r => rw [hr] at h; rw [AV.shFL_eq k ds r hr]; exact Option.some.inj h
  | .tup ds, W, h => by
    rw [AV.shF] at h; rw [AV.sh]
    cases hr : AV.shFL k ds with
    | none => rw [hr] at h; cases h
    | some r => rw [hr] at h; rw [AV.shFL_eq k ds r hr]; exact Option.some.inj h
  | .any, W, h => by rw [AV.shF] at h; rw [AV.sh]; exact Option.some.inj h
  | .sc _, W, h => by rw [AV.shF] at h; rw [AV.sh]; exact Option.some.inj h
  | .nilS, W, h => by rw [AV.shF] at h; rw [AV.sh]; exact Option.some.inj h
  | .imm _ _ _, W, h => by rw [AV.shF] at h; rw [AV.sh]; exact Option.some.inj h
  | .fre _ _ _, W, h => by rw [AV.shF] at h; rw [AV.sh]; exact Option.some.inj h
  | .ptr _ _ _, W, h => by rw [AV.shF] at h; rw [AV.sh]; exact Option.some.inj h
  | .iptr _ _, W, h => by rw [AV.shF] at h; rw [AV.sh]; exact Option.some.inj h
  | .fn _ _, W, h => by rw [AV.shF] at h; rw [AV.sh]; exact Option.some.inj h
  | .ifc _ _, W, h => by rw [AV.shF] at h; rw [AV.sh]; exact Option.some.inj h
theorem AV.shFL_eq (k : Nat) : ∀ (Vs Ws : List AV), AV.shFL k Vs = some Ws → AV.shL k Vs = Ws
  | [], Ws, h => by rw [AV.shFL] at h; rw [AV.shL]; exact Option.some.inj h
  | V :: Vs, Ws, h => by
    rw [AV.shFL] at h; rw [AV.shL]
    cases hv : AV.shF k V with
    | none => rw [hv] at h; cases h
    | some W =>
      rw [hv] at h
      cases hr : AV.shFL k Vs with
      | none => simp only [hr] at h; cases h
      | some r => simp only [hr] at h; rw [AV.shF_eq k V W hv, AV.shFL_eq k Vs r hr]; exact Option.some.inj h
end
theorem AV.force_some (V : AV) : V.force = some V := by cases V <;> rfl
theorem WpL.callF {f : FuncId} {xs : List Operand} {ats : Array TypeId} {As : List AV} {N : List AObj} {r r' : AV} {id : Nat} (hc : FnC P f As N r) (hs : Snap O (xs.map (av T)) As) (hloc : Loc [r]) (hN : Out N)
    (hid : cnt O.length 0 = some id) (hok : r.shOk = true) (hre : r.shF id = some r') (hn : d < n) (h : WpL P n m G false ops l ⟨(d, r') :: T, O ++ N⟩ Q) :
    WpL P n m G false ops ({ dst := some d, op := .call { callee := .value (.func f), args := xs.toArray, argTypes := ats }, type := tt, pos := pos, after := after, guard := none } :: l) ⟨T, O⟩ Q := by
  have e : id = O.length := by have := cnt_eq hid; omega
  subst e
  exact WpL.call hc hs hloc hN (id := O.length) (by rw [nid_len, Nat.zero_add]) hok (by rw [AV.shF_eq _ _ _ hre]; exact AV.force_some _) hn h
theorem WpL.call0 {f : FuncId} {xs : List Operand} {ats : Array TypeId} {As : List AV} {r r' : AV} (hc : FnC P f As [] r) (hs : Snap O (xs.map (av T)) As) (hloc : Loc [r])
    (hok : r.flat = true) (hre : r.force = some r') (hn : d < n) (h : WpL P n m G false ops l ⟨(d, r') :: T, O⟩ Q) :
    WpL P n m G false ops ({ dst := some d, op := .call { callee := .value (.func f), args := xs.toArray, argTypes := ats }, type := tt, pos := pos, after := after, guard := none } :: l) ⟨T, O⟩ Q := by
  have hsh := AV.flat_sh O.length r hok
  refine WpL.call hc hs hloc .nil (id := O.length) (by rw [nid_len]; simp) hsh.1 (by rw [hsh.2]; exact hre) hn ?_
  rw [List.append_nil]; exact h
theorem WpL.idxI1 (hP : TabOk P tab) {t e b : Nat} {zs cs : List AV} {x y : Operand} {len i : Nat} {kk : IntKind} (ht : tlook tab t = some (.slice e 1 b zs)) (hx : av T x = .imm 1 len cs) (hy : av T y = .sc (.int kk (i : Int)))
    (hj : i < len) (hn : d < n) {md : Bool} (h : WpL P n m G md ops l ⟨(d, .iptr cs i) :: T, O⟩ Q) :
    WpL P n m G md ops ({ dst := some d, op := .indexAddr t x y, type := tt, pos := pos, after := after, guard := none } :: l) ⟨T, O⟩ Q :=
  WpL.idxI hP ht hx hy (by omega) hn (by simpa using h)
theorem WpL.idxStr1 (hP : TabOk P tab) {t : Nat} {x y : Operand} {p : List UInt8} {kk : IntKind} {i : Nat} (ht : tlook tab t = some .string) (hx : av T x = .sc (.string ⟨p.toArray⟩)) (hy : av T y = .sc (.int kk (i : Int)))
    (hj : i < p.length) (hn : d < n) {md : Bool} (h : (p.getD i 0).toNat < 256 → WpL P n m G md ops l ⟨(d, .sc (.int .u8 ((p.getD i 0).toNat))) :: T, O⟩ Q) :
    WpL P n m G md ops ({ dst := some d, op := .index t x y, type := tt, pos := pos, after := after, guard := none } :: l) ⟨T, O⟩ Q :=
  WpL.idxStr hP ht hx hy (by omega) hn (by simpa using h (UInt8.toNat_lt _))
theorem WpL.idxStrB (hP : TabOk P tab) {t : Nat} {x y : Operand} {p : List UInt8} {kk : IntKind} {j : Int} (ht : tlook tab t = some .string) (hx : av T x = .sc (.string ⟨p.toArray⟩)) (hy : av T y = .sc (.int kk j))
    (hj : 0 ≤ j ∧ j < p.length) (hn : d < n) {md : Bool} (h : (p.getD j.toNat 0).toNat < 256 → WpL P n m G md ops l ⟨(d, .sc (.int .u8 ((p.getD j.toNat 0).toNat))) :: T, O⟩ Q) :
    WpL P n m G md ops ({ dst := some d, op := .index t x y, type := tt, pos := pos, after := after, guard := none } :: l) ⟨T, O⟩ Q :=
  WpL.idxStr hP ht hx hy hj hn (h (UInt8.toNat_lt _))
theorem WpL.storeS (hP : TabOk P tab) {t : Nat} {ty : Ty} {x y : Operand} {id ep off : Nat} {ob : AObj} {V : AV} {Vs cs : List AV} (ht : tlook tab t = some ty) (hx : av T x = .ptr id ep off)
    (ho : O[id]? = some ob) (he : ob.ep = ep) (hy : (av T y).force = some V) (hV : cellsV O V = some Vs) (hk : ty.cellsN = some Vs.length) (hone : Vs.all (oneB O) = true) (hle : off + Vs.length ≤ ob.cells.length)
    (hset : setL ob.cells off Vs = cs) (h : WpL P n m G false ops l ⟨T, O.set id ⟨cs, ob.ep, ob.size, ob.ty⟩⟩ Q) :
    WpL P n m G false ops ({ dst := none, op := .store t x y, type := tt, pos := pos, after := after, guard := none } :: l) ⟨T, O⟩ Q :=
  WpL.store hP ht hx ho he hy hV hk hone hle (by subst hset; exact h)
def toInts : List AV → Option (List Int)
  | [] => some []
  | .sc (.int .i64 n) :: r => match toInts r with
    | some l => some (n :: l)
    | none => none
  | _ => none
theorem toInts_eq : ∀ {cs : List AV} {vs : List Int}, toInts cs = some vs → cs = ints vs
  | [], vs, h => by simp [toInts] at h; subst h; rfl
  | .sc (.int .i64 n) :: r, vs, h => by
    rw [toInts] at h
    cases hr : toInts r with
    | none => rw [hr] at h; cases h
    | some l => rw [hr] at h; cases h; rw [toInts_eq hr]; rfl
def toU8s : List AV → Option (List Int)
  | [] => some []
  | .sc (.int .u8 n) :: r => match toU8s r with
    | some l => some (n :: l)
    | none => none
  | _ => none
theorem toU8s_eq : ∀ {cs : List AV} {vs : List Int}, toU8s cs = some vs → cs = u8s vs
  | [], vs, h => by simp [toU8s] at h; subst h; rfl
  | .sc (.int .u8 n) :: r, vs, h => by
    rw [toU8s] at h
    cases hr : toU8s r with
    | none => rw [hr] at h; cases h
    | some l => rw [hr] at h; cases h; rw [toU8s_eq hr]; rfl
theorem WpL.litInts (hP : TabOk P tab) {t e k b len id : Nat} {zs cs : List AV} {vs : List Int} {parts : List (Nat × Operand)} (ht : tlook tab t = some (.slice e k b zs)) (hidx : parts.map (·.1) = List.range' 0 parts.length) (hlen : parts.length = len)
    (hlit : litC T O k (parts.map (·.2)) = some cs) (hc : toInts cs = some vs) (hsm : len * k ≤ 16777216) (hid : nid O 0 = some id) (hn : d < n)
    (h : WpL P n m G false ops l ⟨(d, .own id 0 0 len) :: T, O ++ [⟨ints vs, 0, k, some e⟩]⟩ Q) :
    WpL P n m G false ops ({ dst := some d, op := .buildSlice t len parts.toArray, type := tt, pos := pos, after := after, guard := none } :: l) ⟨T, O⟩ Q := by
  have := toInts_eq hc; subst this; exact WpL.litF hP ht hidx hlen hlit hsm hid hn h
theorem WpL.litU8s (hP : TabOk P tab) {t e k b len id : Nat} {zs cs : List AV} {vs : List Int} {parts : List (Nat × Operand)} (ht : tlook tab t = some (.slice e k b zs)) (hidx : parts.map (·.1) = List.range' 0 parts.length) (hlen : parts.length = len)
    (hlit : litC T O k (parts.map (·.2)) = some cs) (hc : toU8s cs = some vs) (hsm : len * k ≤ 16777216) (hid : nid O 0 = some id) (hn : d < n)
    (h : WpL P n m G false ops l ⟨(d, .own id 0 0 len) :: T, O ++ [⟨u8s vs, 0, k, some e⟩]⟩ Q) :
    WpL P n m G false ops ({ dst := some d, op := .buildSlice t len parts.toArray, type := tt, pos := pos, after := after, guard := none } :: l) ⟨T, O⟩ Q := by
  have := toU8s_eq hc; subst this; exact WpL.litF hP ht hidx hlen hlit hsm hid hn h
variable {ids : List (Option Nat)} {vs us : List AV}
theorem Ex.i {a b : Int} (h : a = b) (r : Ex O ids vs us) : Ex O ids (I a :: vs) (I b :: us) := .keep (by rw [h]) rfl rfl r
theorem Ex.b {a b : Bool} (h : a = b) (r : Ex O ids vs us) : Ex O ids (B a :: vs) (B b :: us) := .keep (by rw [h]) rfl rfl r
theorem Ex.z {a b : List UInt8} (h : a = b) (r : Ex O ids vs us) : Ex O ids (Z a :: vs) (Z b :: us) := .keep (by rw [h]) rfl rfl r
theorem Ex.z0 {b : List UInt8} (h : [] = b) (r : Ex O ids vs us) : Ex O ids (.sc (.string ⟨#[]⟩) :: vs) (Z b :: us) := .keep (by rw [← h]) rfl rfl r
theorem NEx.ints {id ep sz : Nat} {ty : Option TypeId} {xs ys : List Int} {N : List AObj} (ho : O[id]? = some ⟨Abs.ints xs, ep, sz, ty⟩) (h : xs = ys) (r : NEx O ids N) : NEx O (some id :: ids) (⟨Abs.ints ys, 0, sz, ty⟩ :: N) :=
  .obj ho (by rw [h]) (still_ints _) rfl rfl (.inr rfl) r
theorem NEx.bools {id ep sz : Nat} {ty : Option TypeId} {xs ys : List Bool} {N : List AObj} (ho : O[id]? = some ⟨Abs.bools xs, ep, sz, ty⟩) (h : xs = ys) (r : NEx O ids N) : NEx O (some id :: ids) (⟨Abs.bools ys, 0, sz, ty⟩ :: N) :=
  .obj ho (by rw [h]) (still_bools _) rfl rfl (.inr rfl) r
theorem NEx.strs {id ep sz : Nat} {ty : Option TypeId} {xs ys : List (List UInt8)} {N : List AObj} (ho : O[id]? = some ⟨Abs.strs xs, ep, sz, ty⟩) (h : xs = ys) (r : NEx O ids N) : NEx O (some id :: ids) (⟨Abs.strs ys, 0, sz, ty⟩ :: N) :=
  .obj ho (by rw [h]) (still_strs _) rfl rfl (.inr rfl) r
theorem NEx.noInts {sz : Nat} {ty : Option TypeId} {ys : List Int} {N : List AObj} (h : [] = ys) (r : NEx O ids N) : NEx O (none :: ids) (⟨Abs.ints ys, 0, sz, ty⟩ :: N) := .gone (by rw [← h]; rfl) rfl r
theorem Ex.nilO' {j len : Nat} (h : ids[j]? = some none) (hl : 0 = len) (r : Ex O ids vs us) : Ex O ids (.nilS :: vs) (.own j 0 0 len :: us) := by subst hl; exact .nilO h r
def endB : Exit → Bool
  | .ret => true
  | .normal => true
  | _ => false
theorem Fin.e {rs : Array ResultVar} {N : List AObj} {r : AV} {σ : St} {e : Exit} (he : endB e = true) (h : Res tab N r rs σ) : Fin tab rs N r e σ := by
  cases e <;> first | exact h | cases he
variable {r r1v r2v r3v : AV} {r1 r2 r3 : ResultVar} {e : Exit} {a b c : Option Nat} {oa ob oc : AObj}
theorem Fin.one0 (he : endB e = true) (hv : ResV tab T O r1 r1v) (hx : Ex O [] [r1v] [r]) : Fin tab #[r1] [] r e ⟨T, O⟩ := Fin.e he (.one hv .nil (by decide) hx)
theorem Fin.two0 (he : endB e = true) (hv : ResV tab T O r1 r1v) (hv2 : ResV tab T O r2 r2v) (hx : Ex O [] [.tup [r1v, r2v]] [r]) : Fin tab #[r1, r2] [] r e ⟨T, O⟩ := Fin.e he (.two hv hv2 .nil (by decide) hx)
theorem nd1 : ([a].filterMap id).Nodup := by cases a <;> simp
theorem Fin.two1 (he : endB e = true) (hv : ResV tab T O r1 r1v) (hv2 : ResV tab T O r2 r2v) (hx : Ex O [a] [.tup [r1v, r2v]] [r]) (hN : NEx O [a] [oa]) : Fin tab #[r1, r2] [oa] r e ⟨T, O⟩ := Fin.e he (.two hv hv2 hN nd1 hx)
end
section
variable {O O' : List AObj} {T T' : List (Nat × AV)} {t : Nat}
theorem ReT.same {V : AV} (h : look T t = V) (hs : V.still = true) (r : ReT O O' T T') : ReT O O' T ((t, V) :: T') := .cons (.keep h hs .nil) r
theorem ReT.i {a b : Int} (hl : look T t = I a) (h : a = b) (r : ReT O O' T T') : ReT O O' T ((t, I b) :: T') := .cons (.keep (by rw [hl, h]) rfl .nil) r
theorem ReT.u {a b : Int} (hl : look T t = U a) (h : a = b) (r : ReT O O' T T') : ReT O O' T ((t, U b) :: T') := .cons (.keep (by rw [hl, h]) rfl .nil) r
theorem ReT.b {a b : Bool} (hl : look T t = B a) (h : a = b) (r : ReT O O' T T') : ReT O O' T ((t, B b) :: T') := .cons (.keep (by rw [hl, h]) rfl .nil) r
theorem ReT.z0 {b : List UInt8} (hl : look T t = .sc (.string ⟨#[]⟩)) (h : [] = b) (r : ReT O O' T T') : ReT O O' T ((t, Z b) :: T') := .cons (.keep (by rw [hl, ← h]) rfl .nil) r
theorem ReT.own {id ep ep' off len len' : Nat} {ob ob' : AObj} (hl : look T t = .own id ep off len) (h1 : O[id]? = some ob) (h2 : O'[id]? = some ob') (h3 : ob.ep = ep) (h4 : ob'.ep = ep') (h5 : ob'.size = ob.size) (h : len = len') (r : ReT O O' T T') :
    ReT O O' T ((t, .own id ep' off len') :: T') := .cons (by rw [hl]; exact .own h1 h2 h3 h4 h5 h .nil) r
theorem ReT.ptr {id ep ep' off : Nat} {ob ob' : AObj} (hl : look T t = .ptr id ep off) (h1 : O[id]? = some ob) (h2 : O'[id]? = some ob') (h3 : ob.ep = ep) (h4 : ob'.ep = ep') (r : ReT O O' T T') : ReT O O' T ((t, .ptr id ep' off) :: T') :=
  .cons (by rw [hl]; exact .ptr h1 h2 h3 h4 .nil) r
variable {os os' : List AObj} {ep ep' sz sz' : Nat} {ty ty' : Option TypeId}
theorem ReO.ints {xs ys : List Int} (h : xs = ys) (ht : ty' = none ∨ ty' = ty) (r : ReO O O' os os') : ReO O O' (⟨Abs.ints xs, ep, sz, ty⟩ :: os) (⟨Abs.ints ys, ep', sz', ty'⟩ :: os') := .cons (Re.same (by rw [h]) (still_ints _)) ht r
theorem ReO.u8s {xs ys : List Int} (h : xs = ys) (ht : ty' = none ∨ ty' = ty) (r : ReO O O' os os') : ReO O O' (⟨Abs.u8s xs, ep, sz, ty⟩ :: os) (⟨Abs.u8s ys, ep', sz', ty'⟩ :: os') := .cons (Re.same (by rw [h]) (still_u8s _)) ht r
theorem ReO.bools {xs ys : List Bool} (h : xs = ys) (ht : ty' = none ∨ ty' = ty) (r : ReO O O' os os') : ReO O O' (⟨Abs.bools xs, ep, sz, ty⟩ :: os) (⟨Abs.bools ys, ep', sz', ty'⟩ :: os') := .cons (Re.same (by rw [h]) (still_bools _)) ht r
theorem ReO.strs {xs ys : List (List UInt8)} (h : xs = ys) (ht : ty' = none ∨ ty' = ty) (r : ReO O O' os os') : ReO O O' (⟨Abs.strs xs, ep, sz, ty⟩ :: os) (⟨Abs.strs ys, ep', sz', ty'⟩ :: os') := .cons (Re.same (by rw [h]) (still_strs _)) ht r
theorem Re.i {a b : Int} {vs us : List AV} (h : a = b) (r : Re O O' vs us) : Re O O' (I a :: vs) (I b :: us) := .keep (by rw [h]) rfl r
theorem Re.b {a b : Bool} {vs us : List AV} (h : a = b) (r : Re O O' vs us) : Re O O' (B a :: vs) (B b :: us) := .keep (by rw [h]) rfl r
end
theorem Rnd.succ {m : Nat} {Inv : Nat → St} {C : Nat → Prop} {μ : Nat → Nat} {x : Nat} {Q : Exit → St → Prop} {σ : St} (h1 : C (x + 1)) (h2 : μ (x + 1) < μ x) (h3 : Weak m σ (Inv (x + 1))) : Rnd m Inv C μ x Q .normal σ := Rnd.go (x + 1) h1 h2 h3
theorem Snap.ownL {O : List AObj} {id ep len len' sz : Nat} {ob : AObj} {es vs us : List AV} (h1 : O[id]? = some ob) (h2 : ob.ep = ep) (h3 : ob.size = sz) (r1 : Snap O ob.cells es) (h4 : len * ob.size = ob.cells.length) (h5 : len = len') (r2 : Snap O vs us) : Snap O (.own id ep 0 len :: vs) (.imm sz len' es :: us) := .own h1 h2 h3 h4 h5 r1 r2
def flatO : List AObj → Option (List AObj)
  | [] => some []
  | ⟨c, e, z, t⟩ :: O => match flatO O with
    | some r => some (⟨c, e, z, t⟩ :: r)
    | none => none
theorem flatO_eq : ∀ {O O2 : List AObj}, flatO O = some O2 → O = O2
  | [], O2, h => by simp [flatO] at h; exact h.symm
  | ⟨c, e, z, t⟩ :: O, O2, h => by
    rw [flatO] at h
    cases hr : flatO O with
    | none => rw [hr] at h; cases h
    | some r => rw [hr] at h; have := flatO_eq hr; subst this; simpa using h
theorem WpA.regionF {P : Program} {n m : Nat} {G : Ctx} {T : List (Nat × AV)} {O O2 : List AObj} {Q : Exit → St → Prop} {id : Nat} {l : List Oper} (hO : flatO O = some O2) (h : WpL P n m G false l.toArray l ⟨T, O2⟩ Q) : WpA P n m G (.region id l.toArray false) ⟨T, O⟩ Q := by
  have := flatO_eq hO; subst this; exact WpA.region h
theorem WpA.flat {P : Program} {n m : Nat} {G : Ctx} {T : List (Nat × AV)} {O O2 : List AObj} {Q : Exit → St → Prop} {c : Code} (hO : flatO O = some O2) (h : WpA P n m G c ⟨T, O2⟩ Q) : WpA P n m G c ⟨T, O⟩ Q := by
  have := flatO_eq hO; subst this; exact h
def catF {α : Type} : List α → List α → Option (List α)
  | [], B => some B
  | a :: A, B => match catF A B with
    | some r => some (a :: r)
    | none => none
theorem catF_eq {α : Type} : ∀ {A B C : List α}, catF A B = some C → A ++ B = C
  | [], B, C, h => by simp [catF] at h; simpa using h
  | a :: A, B, C, h => by
    rw [catF] at h
    cases hr : catF A B with
    | none => rw [hr] at h; cases h
    | some r => rw [hr] at h; have := catF_eq hr; subst this; simpa using h
def takeF {α : Type} : Nat → List α → Option (List α)
  | 0, _ => some []
  | _ + 1, [] => some []
  | n + 1, a :: A => match takeF n A with
    | some r => some (a :: r)
    | none => none
theorem takeF_eq {α : Type} : ∀ {n : Nat} {A C : List α}, takeF n A = some C → A.take n = C
  | 0, A, C, h => by simp [takeF] at h; simpa using h
  | n + 1, [], C, h => by simp [takeF] at h; simpa using h
  | n + 1, a :: A, C, h => by
    rw [takeF] at h
    cases hr : takeF n A with
    | none => rw [hr] at h; cases h
    | some r => rw [hr] at h; have := takeF_eq hr; subst this; simpa using h
def depsF (fs : List (Nat × AV)) : List Edge → Option (List (Nat × AV))
  | [] => some []
  | e :: es => match Region.binds .any e with
    | false => depsF fs es
    | true => match fs[e.on]? with
      | none => depsF fs es
      | some x => match depsF fs es with
        | some r => some (x :: r)
        | none => none
theorem depsF_eq {fs : List (Nat × AV)} : ∀ {es : List Edge} {F : List (Nat × AV)}, depsF fs es = some F → (es.filterMap fun e => if Region.binds .any e = true then fs[e.on]? else none) = F
  | [], F, h => by simp [depsF] at h; simpa using h
  | e :: es, F, h => by
    rw [depsF] at h
    rw [List.filterMap_cons]
    cases hb : Region.binds .any e with
    | false => rw [hb] at h; simpa using depsF_eq h
    | true =>
      rw [hb] at h
      cases hx : fs[e.on]? with
      | none => rw [hx] at h; simpa using depsF_eq h
      | some x =>
        rw [hx] at h
        cases hr : depsF fs es with
        | none => simp only [hr] at h; cases h
        | some r => simp only [hr] at h; have := depsF_eq hr; simp [this]; simpa using h
def factsF : List Fact → Option (List (Nat × AV))
  | [] => some []
  | x :: xs => match factsF xs with
    | some r => some ((x.1, x.2.1) :: r)
    | none => none
theorem factsF_eq : ∀ {xs : List Fact} {C : List (Nat × AV)}, factsF xs = some C → (xs.map fun x => (x.1, x.2.1)) = C
  | [], C, h => by simp [factsF] at h; simpa using h
  | x :: xs, C, h => by
    rw [factsF] at h
    cases hr : factsF xs with
    | none => rw [hr] at h; cases h
    | some r => rw [hr] at h; have := factsF_eq hr; subst this; simpa using h
def ndepsF (fs : List Fact) : List Edge → Option (List (Nat × AV))
  | [] => some []
  | e :: es => match Region.binds .any e with
    | false => ndepsF fs es
    | true => match fs[e.on]? with
      | none => ndepsF fs es
      | some x => match ndepsF fs es with
        | some r => some ((x.1, x.2.1) :: r)
        | none => none
theorem ndepsF_eq {fs : List Fact} : ∀ {es : List Edge} {F : List (Nat × AV)}, ndepsF fs es = some F → (es.filterMap fun e => if Region.binds .any e = true then (fs[e.on]?).map fun x => (x.1, x.2.1) else none) = F
  | [], F, h => by simp [ndepsF] at h; simpa using h
  | e :: es, F, h => by
    rw [ndepsF] at h
    rw [List.filterMap_cons]
    cases hb : Region.binds .any e with
    | false => rw [hb] at h; simpa using ndepsF_eq h
    | true =>
      rw [hb] at h
      cases hx : fs[e.on]? with
      | none => rw [hx] at h; simpa using ndepsF_eq h
      | some x =>
        rw [hx] at h
        cases hr : ndepsF fs es with
        | none => simp only [hr] at h; cases h
        | some r => simp only [hr] at h; have := ndepsF_eq hr; simp [this]; simpa using h
structure TrueB (b : Bool) : Prop where
  e : b = true
theorem HeadJ.consF {P : Program} {n m : Nat} {G : Ctx} {ops : Array Oper} {T0 : List (Nat × AV)} {O : List AObj} {fs fs2 out : List (Nat × AV)} {o : Oper} {l : List Oper} {d : Nat} {V : AV} {F : List (Nat × AV)} (hd : o.dst = some d) (hF : depsF fs o.after.toList = some F)
    (h : ∀ Tv, WpL P n m G false ops [o] ⟨F ++ (T0 ++ Tv), O⟩ (Only ⟨(d, V) :: (F ++ (T0 ++ Tv)), O⟩)) (hs : catF fs [(d, V)] = some fs2) (r : HeadJ P n m G ops T0 O fs2 l out) : HeadJ P n m G ops T0 O fs (o :: l) out := by
  have := catF_eq hs; subst this
  exact .cons hd (depsF_eq hF) h r
theorem HeadN.pureF {P : Program} {n m : Nat} {G : Ctx} {ops : Array Oper} {T0 : List (Nat × AV)} {c0 : Nat} {O fs fs2 o l O' out d V F c Oc} (hd : o.dst = some d) (hF : ndepsF fs o.after.toList = some F) (hc : cnt (sure c0 fs o) 0 = some c) (hO : takeF c O = some Oc)
    (h : ∀ Tv Ov, WpL P n m G false ops [o] ⟨F ++ (T0 ++ Tv), Oc ++ Ov⟩ (Only ⟨(d, V) :: (F ++ (T0 ++ Tv)), Oc ++ Ov⟩)) (hs : catF fs [(d, V, c)] = some fs2) (r : HeadN P n m G ops T0 c0 O fs2 l O' out) : HeadN P n m G ops T0 c0 O fs (o :: l) O' out := by
  have := catF_eq hs; subst this
  exact .pure hd (ndepsF_eq hF) (cnt_eq hc) (takeF_eq hO) h r
theorem HeadN.prodF {P : Program} {n m : Nat} {G : Ctx} {ops : Array Oper} {T0 : List (Nat × AV)} {c0 : Nat} {O fs fs2 o l O' out d V F N c O2} (hd : o.dst = some d) (hF : ndepsF fs o.after.toList = some F) (hc : Nat.beq (sure c0 fs o) O.length = true)
    (h : ∀ Tv, WpL P n m G false ops [o] ⟨F ++ (T0 ++ Tv), O⟩ (Only ⟨(d, V) :: (F ++ (T0 ++ Tv)), O ++ N⟩)) (hN : N ≠ []) (hl : cnt (O ++ N).length 0 = some c) (h2 : catF O N = some O2) (hs : catF fs [(d, V, c)] = some fs2) (r : HeadN P n m G ops T0 c0 O2 fs2 l O' out) : HeadN P n m G ops T0 c0 O fs (o :: l) O' out := by
  have := catF_eq h2; subst this
  have := cnt_eq hl
  rw [List.length_append] at this
  subst this
  have := catF_eq hs; subst this
  exact .prod hd (ndepsF_eq hF) (Nat.eq_of_beq_eq_true hc) hN h r
def noApp (o : Oper) : Bool := match o.op with
  | .call c => match c.callee with
    | .builtin .append => false
    | _ => true
  | _ => true
def bareM (ops : Array Oper) (k : Nat) : Bool := (List.range k).all fun i => match ops[i]? with
  | some o => o.guard.isNone && o.dst.isSome && noApp o && match o.op with
    | .call c => match c.callee with
      | .builtin _ => true
      | _ => false
    | .buildSlice .. => false
    | .makeSlice .. => false
    | .alloc .. => false
    | .box .. => false
    | _ => true
  | none => true
def bareN (ops : Array Oper) (k : Nat) : Bool := (List.range k).all fun i => match ops[i]? with | some o => o.guard.isNone && o.dst.isSome && noApp o | none => true
theorem WpA.regionMB {P : Program} {n m : Nat} {G : Ctx} {T0 : List (Nat × AV)} {O : List AObj} {l l1 l2 : List Oper} {id : Nat} {out T1 : List (Nat × AV)} {Q : Exit → St → Prop} (k : Nat) (hm : P.follows .mixedOrders = true) (hB : (mixB l.toArray k && bareM l.toArray k) = true)
    (hl : takeF k l = some l1) (hJ : HeadJ P n m G l.toArray T0 O [] l1 out) (hnd : TrueB (nodupB (out.map (·.1)))) (hfr : TrueB (out.all fun p => !has T0 p.1))
    (hT1 : catF out T0 = some T1) (h2 : l.drop k = l2) (h : WpL P n m G false l.toArray l2 ⟨T1, O⟩ Q) : WpA P n m G (.region id l.toArray true) ⟨T0, O⟩ Q := by
  have := takeF_eq hl; subst this; subst h2
  exact WpA.regionM k hm (by simp only [Bool.and_eq_true] at hB; exact hB.1) hJ hnd.e hfr.e (catF_eq hT1) h
theorem WpA.regionNB {P : Program} {n m : Nat} {G : Ctx} {T0 : List (Nat × AV)} {l l1 l2 : List Oper} {id : Nat} {O O' : List AObj} {out : List Fact} {oc T1 : List (Nat × AV)} {c0 : Nat} {Q : Exit → St → Prop} (k : Nat) (hm : P.follows .mixedOrders = true) (hB : (mixB l.toArray k && bareN l.toArray k) = true)
    (hl : takeF k l = some l1) (hc : cnt O.length 0 = some c0) (hJ : HeadN P n m G l.toArray T0 c0 O [] l1 O' out) (hnd : TrueB (nodupB (out.map (·.1)))) (hfr : TrueB (out.all fun p => !has T0 p.1))
    (ho : factsF out = some oc) (hT1 : catF oc T0 = some T1) (h2 : l.drop k = l2) (h : WpL P n m G false l.toArray l2 ⟨T1, O'⟩ Q) : WpA P n m G (.region id l.toArray true) ⟨T0, O⟩ Q := by
  have := takeF_eq hl; subst this; subst h2
  have := cnt_eq hc
  have : c0 = O.length := by omega
  subst this
  have := factsF_eq ho; subst this
  exact WpA.regionN k hm (by simp only [Bool.and_eq_true] at hB; exact hB.1) hJ hnd.e hfr.e (catF_eq hT1) h
end Go.Abs
namespace Go.Abs.K
open Go Go.Abs
theorem loop {P : Program} {n m : Nat} {G : Ctx} {σ : St} {Q : Exit → St → Prop} {c : Code} (h : WpA P n m G (.loop c) σ Q) : WpA P n m G (.loop c) σ Q := h
theorem W {m : Nat} {σ σ' : St} (h : Weak m σ σ') : Weak m σ σ' := h
theorem F {tab : List (Nat × Ty)} {rs : Array ResultVar} {N : List AObj} {r : AV} {e : Exit} {σ : St} (h : Abs.Fin tab rs N r e σ) : Abs.Fin tab rs N r e σ := h
theorem E {O : List AObj} {ids : List (Option Nat)} {vs us : List AV} (h : Ex O ids vs us) : Ex O ids vs us := h
theorem V {tab : List (Nat × Ty)} {T : List (Nat × AV)} {O : List AObj} {r : ResultVar} {V : AV} (h : ResV tab T O r V) : ResV tab T O r V := h
theorem NE {O : List AObj} {ids : List (Option Nat)} {N : List AObj} (h : NEx O ids N) : NEx O ids N := h
theorem RT {O O' : List AObj} {T T' : List (Nat × AV)} (h : ReT O O' T T') : ReT O O' T T' := h
theorem RO {O O' os os' : List AObj} (h : ReO O O' os os') : ReO O O' os os' := h
theorem R {m : Nat} {β : Type} {Inv : β → St} {C : β → Prop} {μ : β → Nat} {x : β} {Q : Exit → St → Prop} {e : Exit} {σ : St} (h : Rnd m Inv C μ x Q e σ) : Rnd m Inv C μ x Q e σ := h
theorem eq {α : Sort _} {a b : α} (h : a = b) : a = b := h
theorem le {α : Type} [LE α] {a b : α} (h : a ≤ b) : a ≤ b := h
theorem lt {α : Type} [LT α] {a b : α} (h : a < b) : a < b := h
section
variable {P : Program} {n m : Nat} {G : Ctx} {σ : St} {Q : Exit → St → Prop} {md : Bool} {ops : Array Oper} {l : List Oper} {dd : Option Nat} {tt : TypeId} {pos : String} {after : Array Edge}
theorem blen {xs : Array Operand} {ats : Array TypeId} (h : WpL P n m G md ops ({ dst := dd, op := .call { callee := .builtin .len, args := xs, argTypes := ats }, type := tt, pos := pos, after := after, guard := none } :: l) σ Q) : WpL P n m G md ops ({ dst := dd, op := .call { callee := .builtin .len, args := xs, argTypes := ats }, type := tt, pos := pos, after := after, guard := none } :: l) σ Q := h
theorem bapp {xs : Array Operand} {ats : Array TypeId} (h : WpL P n m G md ops ({ dst := dd, op := .call { callee := .builtin .append, args := xs, argTypes := ats }, type := tt, pos := pos, after := after, guard := none } :: l) σ Q) : WpL P n m G md ops ({ dst := dd, op := .call { callee := .builtin .append, args := xs, argTypes := ats }, type := tt, pos := pos, after := after, guard := none } :: l) σ Q := h
end
end Go.Abs.K


namespace Go.Abs
open Go
def FnG (P : Program) (f : FuncId) (args : List AV) (M M' N : List AObj) (r : AV) : Prop :=
  Runs P f ∧ ∀ (w : World) (S : Nat → Prop) (ι : Nat → Spot) (F : Nat → List Nat) (vs : List Value), (∀ b, S b → b < w.heap.size) → GlbOk S w → ORel S w ι M F → (∀ id, id < M.length → ∀ b ∈ F id, ¬ S b ∧ b < w.heap.size) →
    LRel S w ι M args vs [] → Calls P f vs.toArray w fun e w' => ∃ v S' ι' F', e = .returned v ∧ (∀ b, S b → S' b) ∧ (∀ b, S' b → S b ∨ w.heap.size ≤ b) ∧ (∀ b, S' b → b < w'.heap.size) ∧ (∀ id, id < M.length → ι' id = ι id) ∧
      ORel S' w' ι' (M' ++ N) F' ∧ (∀ id, id < (M' ++ N).length → ∀ b ∈ F' id, ((∃ i, i < M.length ∧ b ∈ F i) ∨ w.heap.size ≤ b) ∧ ¬ S' b ∧ b < w'.heap.size) ∧ VRel S' w' ι' (M' ++ N) r v [] ∧
      Keeps w (fun b => ∃ i, i < M.length ∧ b ∈ F i) w'
def preB : List (Option Nat) → Nat → Nat → Bool
  | _, 0, _ => true
  | some i :: ids, m + 1, k => Nat.beq i k && preB ids m (k + 1)
  | _, _ + 1, _ => false
theorem preB_at : ∀ {ids : List (Option Nat)} {m k : Nat}, preB ids m k = true → ∀ j, j < m → ids[j]? = some (some (k + j))
  | _, 0, _, _, j, hj => by omega
  | some i :: ids, m + 1, k, h, j, hj => by
    simp only [preB, Bool.and_eq_true] at h
    have h1 := Nat.eq_of_beq_eq_true h.1
    subst h1
    cases j with
    | zero => simp
    | succ j => have := preB_at h.2 j (by omega); rw [List.getElem?_cons_succ, this]; congr 2; omega
  | [], _ + 1, _, h, _, _ => by simp [preB] at h
  | none :: _, _ + 1, _, h, _, _ => by simp [preB] at h
inductive ResG (tab : List (Nat × Ty)) (m : Nat) (N : List AObj) (r : AV) : Array ResultVar → St → Prop
  | zero {T O ids} : NEx O ids N → (ids.filterMap id).Nodup → preB ids m 0 = true → Ex O ids [.tup []] [r] → ResG tab m N r #[] ⟨T, O⟩
  | one {r1 V1 T O ids} : ResV tab T O r1 V1 → NEx O ids N → (ids.filterMap id).Nodup → preB ids m 0 = true → Ex O ids [V1] [r] → ResG tab m N r #[r1] ⟨T, O⟩
  | two {r1 r2 V1 V2 T O ids} : ResV tab T O r1 V1 → ResV tab T O r2 V2 → NEx O ids N → (ids.filterMap id).Nodup → preB ids m 0 = true → Ex O ids [.tup [V1, V2]] [r] → ResG tab m N r #[r1, r2] ⟨T, O⟩
def FinG (tab : List (Nat × Ty)) (m : Nat) (rs : Array ResultVar) (N : List AObj) (r : AV) : Exit → St → Prop
  | .ret, σ => ResG tab m N r rs σ
  | .normal, σ => ResG tab m N r rs σ
  | _, _ => False
theorem run_results0 {P : Program} {fn : Func} {tmps : Array Value} {w : World} (h : fn.results = #[]) : (results fn tmps).run P w = .ok (.tuple #[]) w := by
  rw [results_eq, h]; simp
section
variable {P : Program} {n m : Nat} {G : Ctx} {T : List (Nat × AV)} {O : List AObj} {Q : Exit → St → Prop} {ops : Array Oper} {l : List Oper} {d : Nat} {tt : TypeId} {pos : String} {after : Array Edge} {tab : List (Nat × Ty)}
theorem ResG.out (hP : TabOk P tab) {rs : Array ResultVar} {N : List AObj} {r : AV} {σ : St} {a : Act} {w : World} {fn : Func} (hfr : fn.results = rs) (h : ResG tab m N r rs σ) (hr : Rel n m G σ a w) :
    ∃ v, (results fn a.tmps).run P w = .ok v w ∧ ∃ S' ι F, (∀ b, G.S0 b → S' b) ∧ (∀ b, S' b → G.S0 b ∨ G.w0.heap.size ≤ b) ∧ (∀ b, S' b → b < w.heap.size) ∧ (∀ id, id < m → ι id = G.ι0 id) ∧ ORel S' w ι N F ∧
      (∀ id, id < N.length → ∀ b ∈ F id, (G.M0 b ∨ G.w0.heap.size ≤ b) ∧ ¬ S' b ∧ b < w.heap.size) ∧ VRel S' w ι N r v [] ∧ Keeps G.w0 G.M0 w := by
  obtain ⟨S, ι, F, hr⟩ := hr
  have fin : ∀ {T O ids V v}, σ = ⟨T, O⟩ → NEx O ids N → (ids.filterMap id).Nodup → preB ids m 0 = true → Ex O ids [V] [r] → VRel S w ι O V v [] →
      ∃ S' ι F, (∀ b, G.S0 b → S' b) ∧ (∀ b, S' b → G.S0 b ∨ G.w0.heap.size ≤ b) ∧ (∀ b, S' b → b < w.heap.size) ∧ (∀ id, id < m → ι id = G.ι0 id) ∧ ORel S' w ι N F ∧
      (∀ id, id < N.length → ∀ b ∈ F id, (G.M0 b ∨ G.w0.heap.size ≤ b) ∧ ¬ S' b ∧ b < w.heap.size) ∧ VRel S' w ι N r v [] ∧ Keeps G.w0 G.M0 w := by
    rintro T O ids V v rfl hN hnd hpre hex hv
    have hids : ∀ (i j id : Nat), ids[i]? = some (some id) → ids[j]? = some (some id) → i = j := by
      clear hN hex hv hpre
      induction ids with
      | nil => intro i j id h; simp at h
      | cons x ids ih =>
        intro i j id hi hj
        cases x with
        | none =>
          cases i with
          | zero => simp at hi
          | succ i => cases j with
            | zero => simp at hj
            | succ j => rw [ih (by simpa using hnd) i j id (by simpa using hi) (by simpa using hj)]
        | some y =>
          have hnd' : y ∉ ids.filterMap _root_.id ∧ (ids.filterMap _root_.id).Nodup := by simpa using hnd
          have mem : ∀ k : Nat, ids[k]? = some (some id) → id ∈ ids.filterMap _root_.id := fun k hk => List.mem_filterMap.2 ⟨some id, List.mem_of_getElem? hk, rfl⟩
          cases i with
          | zero =>
            simp at hi; subst hi
            cases j with
            | zero => rfl
            | succ j => exact (hnd'.1 (mem j (by simpa using hj))).elim
          | succ i => cases j with
            | zero => simp at hj; subst hj; exact (hnd'.1 (mem i (by simpa using hi))).elim
            | succ j => rw [ih hnd'.2 i j id (by simpa using hi) (by simpa using hj)]
    have hcase : ∀ j : Nat, (∃ id, ids[j]? = some (some id) ∧ exSpot ι ids j = ι id ∧ exF F ids j = F id) ∨ ((∀ id, ids[j]? ≠ some (some id)) ∧ exSpot ι ids j = none ∧ exF F ids j = []) := by
      intro j
      unfold exSpot exF
      cases h : ids[j]? with
      | none => exact .inr ⟨by simp, rfl, rfl⟩
      | some o => cases o with
        | none => exact .inr ⟨by simp, rfl, rfl⟩
        | some id => exact .inl ⟨id, rfl, rfl, rfl⟩
    have hlt : ∀ (j id : Nat), j < N.length → ids[j]? = some (some id) → id < O.length := by
      intro j id hj hi
      obtain ⟨_, h1 | ⟨id2, ob2, h1, h2, _⟩⟩ := hN.at (List.getElem?_eq_getElem hj)
      · rw [hi] at h1; cases h1.1
      · rw [hi] at h1; cases h1; exact (List.getElem?_eq_some_iff.1 h2).1
    refine ⟨S, exSpot ι ids, exF F ids, hr.base.1, hr.base.2, hr.stable, fun j hj => ?_, ⟨fun j ob' hj => ?_, fun j hj => ?_, fun i j hi hj hij b hb => ?_⟩, fun j hj b hb => ?_, hex.rel hN hv, hr.keeps⟩
    · have h1 := preB_at hpre j hj
      rw [Nat.zero_add] at h1
      rcases hcase j with ⟨id, h, e1, _⟩ | ⟨h, _⟩
      · rw [h1] at h; cases h; rw [e1]; exact hr.spots j hj
      · exact (h _ h1).elim
    · obtain ⟨h0, h1 | ⟨id2, ob2, h1, h2, h3, h4, h5, h6⟩⟩ := hN.at hj
      · rcases hcase j with ⟨id, h, _⟩ | ⟨_, h, h'⟩
        · rw [h1.1] at h; cases h
        · rw [h, h']; exact ⟨h1.2, rfl⟩
      · rcases hcase j with ⟨id, h, e1, e2⟩ | ⟨h, h'⟩
        · rw [h1] at h; cases h
          rw [e1, e2]
          have ho := hr.objs.obj _ ob2 h2
          unfold ObjAt at ho ⊢
          cases hs : ι id2 with
          | none => rw [hs] at ho; rw [← h3]; exact ho
          | some p =>
            obtain ⟨b, k⟩ := p
            rw [hs] at ho
            obtain ⟨cur', t', fz', f2, q1, q2, q3, q4, q5, q6, q7⟩ := ho
            have q8 : LRel S w (exSpot ι ids) N ob'.cells (cur'.toList.take ob'.cells.length) f2 := by
              rw [h3] at q7
              have key : ∀ {cs : List AV} {xs f}, cs.all AV.still = true → LRel S w ι O cs xs f → LRel S w (exSpot ι ids) N cs xs f := by
                intro cs
                induction cs with
                | nil => intro xs f _ hl; cases hl; exact .nil
                | cons c cs ih =>
                  intro xs f hs hl
                  simp only [List.all_cons, Bool.and_eq_true] at hs
                  obtain ⟨v, vs', f1, f2, rfl, hv, hr, rfl⟩ := hl.uncons
                  exact LRel.cons (still_any hv hs.1 N (fun _ h => h) (fun _ _ => rfl) (fun _ _ => rfl)) (ih hs.2 hr)
              exact key h4 q7
            refine ⟨cur', t', fz', f2, q1, q2, q3, by rw [← h3]; exact q4, q5, fun e he => ?_, q8⟩
            rcases h6 with h6 | h6
            · rw [h6] at he; cases he
            · exact q6 e (by rw [← h6]; exact he)
        · exact (h _ h1).elim
    · rcases hcase j with ⟨id, h, _, e2⟩ | ⟨_, _, e2⟩
      · rw [e2]; exact hr.objs.nodup id (hlt j id hj h)
      · rw [e2]; simp
    · rcases hcase i with ⟨id1, h1, _, e1⟩ | ⟨_, _, e1⟩ <;> rcases hcase j with ⟨id2, h2, _, e2⟩ | ⟨_, _, e2⟩ <;> rw [e1] at hb <;> rw [e2]
      · exact hr.objs.apart id1 id2 (hlt i id1 hi h1) (hlt j id2 hj h2) (fun e => hij (hids i j id1 h1 (e ▸ h2))) b hb
      · simp
      · simp at hb
      · simp
    · rcases hcase j with ⟨id, h, _, e2⟩ | ⟨_, _, e2⟩
      · rw [e2] at hb
        exact hr.foot id (hlt j id hj h) b hb
      · rw [e2] at hb; simp at hb
  cases h with
  | zero hN hnd hpre hex => exact ⟨_, run_results0 hfr, fin rfl hN hnd hpre hex (by simpa using LRel.tup LRel.nil LRel.nil)⟩
  | one h1 hN hnd hpre hex =>
    obtain ⟨v, hv, hV⟩ := ResV.rel hP hr h1
    exact ⟨v, run_results1 hfr hv, fin rfl hN hnd hpre hex hV⟩
  | two h1 h2 hN hnd hpre hex =>
    obtain ⟨v1, hv1, hV1⟩ := ResV.rel hP hr h1
    obtain ⟨v2, hv2, hV2⟩ := ResV.rel hP hr h2
    exact ⟨_, run_results2 hfr hv1 hv2, fin rfl hN hnd hpre hex (by simpa using LRel.tup (LRel.cons hV1 hV2) .nil)⟩
theorem FnG.of_body (hP : TabOk P tab) {f : FuncId} {fn : Func} {c : Code} {args : List AV} {M M' N : List AObj} {r : AV} {k : Nat} (hf : P.funcs[f]? = some fn) (hnt : fn.ntmps = k) (hb : fn.body = some c) (hnm : (fn.name == "runtime.NumGoroutine") = false)
    (hal : args.length ≤ k) (hml : M.length = m) (h : ∀ G, WpA P k m G c ⟨enumT 0 args, M⟩ (FinG tab m fn.results (M' ++ N) r)) : FnG P f args M M' N r := by
  refine ⟨⟨fn, hf, by rw [hb]; rfl, hnm⟩, fun w S ι F vs hS hg hO hF hl => ?_⟩
  have hvl : vs.length = args.length := hl.len.symm
  refine calls_of_wp hf hb ?_
  have hrel : Rel k m ⟨w, S, fun b => ∃ i, i < M.length ∧ b ∈ F i, ι, hg.ctx hS fun b ⟨i, hi, hb⟩ => (hF i hi b hb).1⟩ ⟨enumT 0 args, M⟩ { tmps := vs.toArray ++ Array.replicate (fn.ntmps - vs.toArray.size) undef, defers := [] } w := by
    refine ⟨S, ι, F, rfl, ?_, fun t => ?_, hO, fun id hid b hb => ⟨.inl ⟨id, hid, hb⟩, hF id hid b hb⟩, ⟨fun _ h => h, fun _ h => .inl h⟩, hS, Keeps.refl _ _, fun _ _ => rfl, by show m ≤ M.length; omega⟩
    · simp [hnt]; omega
    · show VRel S w ι M (look (enumT 0 args) t) _ []
      rw [look_enumT]
      simp only [Nat.zero_le, if_true, Nat.sub_zero]
      by_cases ht : t < args.length
      · obtain ⟨x, g, hx, hV, hg⟩ := hl.get (List.getElem?_eq_getElem ht)
        have hg0 : g = [] := List.eq_nil_iff_forall_not_mem.2 fun b hb => by simpa using hg b hb
        subst hg0
        have e1 : args.getD t .any = args[t] := by simp [ht]
        have e2 : (vs.toArray ++ Array.replicate (fn.ntmps - vs.toArray.size) undef).getD t undef = x := by
          have : t < vs.length := by omega
          rw [List.getElem?_eq_getElem this] at hx
          simp only [Option.some.injEq] at hx
          simp [Array.getD_eq_getD_getElem?, Array.getElem?_append, this, hx]
        rw [e1, e2]; exact hV
      · have e1 : args.getD t .any = .any := by simp [List.getElem?_eq_none (Nat.le_of_not_lt ht)]
        rw [e1]; exact .any .nil
  refine wp_mono (h _ _ _ hrel) fun e a' w' ⟨σ', hq, hr'⟩ => ?_
  have hdef : a'.defers = [] := by obtain ⟨_, _, _, h⟩ := hr'; exact h.defers
  have key : ∀ v S' ι' F', ((∀ b, S b → S' b) ∧ (∀ b, S' b → S b ∨ w.heap.size ≤ b) ∧ (∀ b, S' b → b < w'.heap.size) ∧ (∀ id, id < m → ι' id = ι id) ∧ ORel S' w' ι' (M' ++ N) F' ∧
      (∀ id, id < (M' ++ N).length → ∀ b ∈ F' id, ((∃ i, i < M.length ∧ b ∈ F i) ∨ w.heap.size ≤ b) ∧ ¬ S' b ∧ b < w'.heap.size) ∧ VRel S' w' ι' (M' ++ N) r v [] ∧ Keeps w (fun b => ∃ i, i < M.length ∧ b ∈ F i) w') →
      ∃ v' S' ι' F', Ending.returned v = .returned v' ∧ (∀ b, S b → S' b) ∧ (∀ b, S' b → S b ∨ w.heap.size ≤ b) ∧ (∀ b, S' b → b < w'.heap.size) ∧ (∀ id, id < M.length → ι' id = ι id) ∧ ORel S' w' ι' (M' ++ N) F' ∧
      (∀ id, id < (M' ++ N).length → ∀ b ∈ F' id, ((∃ i, i < M.length ∧ b ∈ F i) ∨ w.heap.size ≤ b) ∧ ¬ S' b ∧ b < w'.heap.size) ∧ VRel S' w' ι' (M' ++ N) r v' [] ∧ Keeps w (fun b => ∃ i, i < M.length ∧ b ∈ F i) w' :=
    fun v S' ι' F' ⟨q1, q2, q3, q4, q5⟩ => ⟨v, S', ι', F', rfl, q1, q2, q3, by rw [hml]; exact q4, q5⟩
  cases e with
  | normal =>
    obtain ⟨v, hv, S', ι', F', q⟩ := ResG.out hP rfl hq hr'
    exact ⟨hdef, v, hv, key v S' ι' F' q⟩
  | ret =>
    obtain ⟨v, hv, S', ι', F', q⟩ := ResG.out hP rfl hq hr'
    exact ⟨hdef, v, hv, key v S' ι' F' q⟩
  | _ => exact hq.elim
end
end Go.Abs
