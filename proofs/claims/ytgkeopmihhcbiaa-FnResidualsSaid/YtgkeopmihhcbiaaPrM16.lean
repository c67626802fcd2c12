/- Proved in this text: lemmas and contracts of functions that the claim uses (parts: AbsYs, DrS, Res, Res2, Res3). No condition. -/
import Derived.Test.YtgkeopmihhcbiaaPrM15
import Derived.Test.YtgkeopmihhcbiaaPrM9
import Derived.Test.YtgkeopmihhcbiaaPrM14
import Derived.Test.YtgkeopmihhcbiaaPrM13

/- Regions that draw their order, further: an operation may leave several places changed and make an object, too (calls that turn what they are handed and return what they made). No condition. -/
namespace Go.Abs
open Go
set_option linter.unusedVariables false
set_option linter.unusedSimpArgs false

/-- What an operation leaves in places, and whether it leaves a dead object behind. -/
structure Fis where
  sets : List (Nat × AObj)
  dead : Bool
def lkF : List (Nat × AObj) → Nat → Option AObj
  | [], _ => Option.none
  | (p, ob) :: l, q => if Nat.beq p q = true then some ob else lkF l q
def setsF : List (Nat × AObj) → List AObj → List AObj
  | [], Ov => Ov
  | (p, ob) :: l, Ov => (setsF l Ov).set p ob
def Fis.got (f : Fis) (q : Nat) : Option AObj := lkF f.sets q
def Fis.isPutS (f : Fis) : Bool := f.dead
def Fis.run (f : Fis) (Ov : List AObj) : List AObj := match f.dead with
  | true => setsF f.sets Ov ++ [deadO]
  | false => setsF f.sets Ov
abbrev Fis.none : Fis := ⟨[], false⟩
abbrev Fis.put (p : Nat) (ob : AObj) : Fis := ⟨[(p, ob)], true⟩
abbrev Fis.step (p : Nat) (ob : AObj) : Fis := ⟨[(p, ob)], false⟩
abbrev Fis.both (c : Nat) (oc : AObj) (p : Nat) (ob : AObj) : Fis := ⟨[(p, ob), (c, oc)], true⟩
def isPutS (ks : List Fis) (i : Nat) : Bool := (ks[i]?.map Fis.isPutS).getD false
def fillAllS : List Fis → List AObj → List AObj
  | [], Oi => Oi
  | f :: ks, Oi => fillAllS ks (setsF f.sets Oi)
theorem setsF_len : ∀ (l : List (Nat × AObj)) (Ov : List AObj), (setsF l Ov).length = Ov.length
  | [], _ => rfl
  | (p, ob) :: l, Ov => by rw [setsF, List.length_set, setsF_len l Ov]
theorem setsF_at : ∀ (l : List (Nat × AObj)) (Ov : List AObj) (q : Nat), q < Ov.length → (setsF l Ov)[q]? = match lkF l q with | some ob => some ob | Option.none => Ov[q]?
  | [], _, _, _ => rfl
  | (p, ob) :: l, Ov, q, hq => by
    rw [setsF, lkF, List.getElem?_set]
    by_cases e : p = q
    · subst e
      rw [if_pos rfl, if_pos (by rw [setsF_len]; exact hq), if_pos (by simp)]
    · rw [if_neg e, if_neg (by simpa using e)]
      exact setsF_at l Ov q hq
theorem setsF_out : ∀ (l : List (Nat × AObj)) (Ov : List AObj) (q : Nat), lkF l q = Option.none → (setsF l Ov)[q]? = Ov[q]?
  | [], _, _, _ => rfl
  | (p, ob) :: l, Ov, q, h => by
    rw [lkF] at h
    split at h
    · cases h
    · rename_i e
      rw [setsF, List.getElem?_set, if_neg (by simpa using e)]
      exact setsF_out l Ov q h
theorem fillAllS_len : ∀ (ks : List Fis) (Oi : List AObj), (fillAllS ks Oi).length = Oi.length
  | [], _ => rfl
  | f :: ks, Oi => by rw [fillAllS, fillAllS_len ks, setsF_len]
theorem lkF_mem : ∀ {l : List (Nat × AObj)} {q : Nat} {ob : AObj}, lkF l q = some ob → ∃ x ∈ l, x.1 = q
  | [], _, _, h => by simp [lkF] at h
  | (p, o) :: l, q, ob, h => by
    rw [lkF] at h
    split at h
    · rename_i e; exact ⟨(p, o), by simp, by simpa using e⟩
    · obtain ⟨x, hx, e⟩ := lkF_mem h; exact ⟨x, List.mem_cons_of_mem _ hx, e⟩
def spotsS (ks : List Fis) : List Nat := ks.flatMap fun f => f.sets.map (·.1)
theorem keepB_ofS {c k : Nat} {ks : List Fis} : ∀ {l : List Nat}, keepB c (spotsS ks) l = true → ∀ {q}, memB q l = true → q < c ∧ ∀ i f p ob, i < k → ks[i]? = some f → f.got p = some ob → p ≠ q
  | [], _, q, h => by cases h
  | x :: l, hB, q, h => by
    simp only [keepB, Bool.and_eq_true, Bool.not_eq_true'] at hB
    simp only [memB, Bool.or_eq_true] at h
    rcases h with h | h
    · have e : q = x := Nat.eq_of_beq_eq_true h
      subst e
      refine ⟨Nat.le_of_ble_eq_true hB.1.1, fun i f p ob _ hf hg e => ?_⟩
      subst e
      obtain ⟨y, hy, e2⟩ := lkF_mem hg
      refine memB_false hB.1.2 ?_
      unfold spotsS
      rw [List.mem_flatMap]
      exact ⟨f, List.mem_of_getElem? hf, by rw [← e2]; exact List.mem_map_of_mem hy⟩
    · exact keepB_ofS hB.2 h

inductive HeadS (P : Program) (n m : Nat) (G : Ctx) (ops : Array Oper) (T0 : List (Nat × AV)) (O Oi : List AObj) (keep sh : List Nat) : List (Nat × AV) → List Fis → List Oper → List (Nat × AV) → List Fis → Prop
  | nil {fs gs} : HeadS P n m G ops T0 O Oi keep sh fs gs [] fs gs
  | cons {fs out : List (Nat × AV)} {gs : List Fis} {o : Oper} {l : List Oper} {d : Nat} {V : AV} {F : List (Nat × AV)} {ks : List Fis} (k : Fis) (hF : deps fs o = F)
      (h : ∀ Tv Ov, Oi.length ≤ Ov.length → (∀ p ob, k.got p = some ob → Ov[p]? = (fillAllS gs Oi)[p]?) → (∀ j f p ob, waits o j = true → gs[j]? = some f → f.got p = some ob → memB p sh = false → Ov[p]? = some ob) → (∀ q, memB q keep = true → Ov[q]? = Oi[q]?) →
        WpL P n m G false ops [o] ⟨F ++ (T0 ++ Tv), O ++ Ov⟩ (Only ⟨(d, V) :: (F ++ (T0 ++ Tv)), O ++ k.run Ov⟩)) (r : HeadS P n m G ops T0 O Oi keep sh (fs ++ [(d, V)]) (gs ++ [k]) l out ks) : HeadS P n m G ops T0 O Oi keep sh fs gs (o :: l) out ks

section
variable {P : Program} {n m : Nat} {G : Ctx} {ops : Array Oper} {T0 : List (Nat × AV)} {O Oi : List AObj} {keep sh : List Nat}

theorem HeadS.pre {fs gs l out ks} (h : HeadS P n m G ops T0 O Oi keep sh fs gs l out ks) : ∃ r s, out = fs ++ r ∧ r.length = l.length ∧ ks = gs ++ s ∧ s.length = l.length := by
  induction h with
  | nil => exact ⟨[], [], by simp, rfl, by simp, rfl⟩
  | @cons fs out gs o l d V F ks k _ _ _ ih => obtain ⟨r, s, h1, h2, h3, h4⟩ := ih; exact ⟨(d, V) :: r, k :: s, by rw [h1]; simp, by simp [h2], by rw [h3]; simp, by simp [h4]⟩

theorem HeadS.at {fs gs l out ks} (h : HeadS P n m G ops T0 O Oi keep sh fs gs l out ks) (hg : gs.length = fs.length) : ∀ {j : Nat} {o : Oper}, l[j]? = some o → ∃ d V k, out[fs.length + j]? = some (d, V) ∧ ks[fs.length + j]? = some k ∧
    ∀ Tv Ov, Oi.length ≤ Ov.length → (∀ p ob, k.got p = some ob → Ov[p]? = (fillAllS (ks.take (fs.length + j)) Oi)[p]?) → (∀ i f p ob, waits o i = true → (ks.take (fs.length + j))[i]? = some f → f.got p = some ob → memB p sh = false → Ov[p]? = some ob) → (∀ q, memB q keep = true → Ov[q]? = Oi[q]?) →
      WpL P n m G false ops [o] ⟨deps (out.take (fs.length + j)) o ++ (T0 ++ Tv), O ++ Ov⟩ (Only ⟨(d, V) :: (deps (out.take (fs.length + j)) o ++ (T0 ++ Tv)), O ++ k.run Ov⟩) := by
  induction h with
  | nil => intro j o h; simp at h
  | @cons fs out gs o l d V F ks k hF h r ih =>
    intro j o' hj
    obtain ⟨r', s', h1, h2, h3, h4⟩ := r.pre
    cases j with
    | zero =>
      simp only [List.getElem?_cons_zero, Option.some.injEq] at hj
      subst hj
      refine ⟨d, V, k, by rw [h1]; simp, by rw [h3]; simp [hg], ?_⟩
      have : out.take (fs.length + 0) = fs := by rw [h1, Nat.add_zero, List.append_assoc, List.take_left']; rfl
      have e2 : ks.take (fs.length + 0) = gs := by rw [h3, Nat.add_zero, List.append_assoc, List.take_left']; exact hg
      rw [this, hF, e2]; exact h
    | succ j =>
      have := ih (by simp [hg]) (j := j) (o := o') (by simpa using hj)
      rw [List.length_append, List.length_singleton, Nat.add_assoc, Nat.add_comm 1 j] at this
      simpa using this

/-- What a place holds: what the last operation that touches it left, or what was there. -/
theorem fillAllS_cases : ∀ (L : List Fis) (Oi : List AObj) (q : Nat), q < Oi.length → (∃ (i : Nat) (f : Fis) (ob : AObj), L[i]? = some f ∧ f.got q = some ob ∧ (∀ (j : Nat) (g : Fis) (oc : AObj), i < j → L[j]? = some g → g.got q ≠ some oc) ∧ (fillAllS L Oi)[q]? = some ob) ∨
    ((∀ (j : Nat) (g : Fis) (oc : AObj), L[j]? = some g → g.got q ≠ some oc) ∧ (fillAllS L Oi)[q]? = Oi[q]?)
  | [], Oi, q, hq => .inr ⟨fun j g oc h => by simp at h, rfl⟩
  | f :: L, Oi, q, hq => by
    rw [fillAllS]
    rcases fillAllS_cases L (setsF f.sets Oi) q (by rw [setsF_len]; exact hq) with ⟨i, g, ob, h1, h2, h3, h4⟩ | ⟨h1, h2⟩
    · refine .inl ⟨i + 1, g, ob, by simpa using h1, h2, fun j g' oc hj hg => ?_, h4⟩
      cases j with
      | zero => omega
      | succ j => exact h3 j g' oc (by omega) (by simpa using hg)
    · cases hs : f.got q with
      | some ob0 =>
        refine .inl ⟨0, f, ob0, by simp, hs, fun j g' oc hj hg => ?_, ?_⟩
        · cases j with
          | zero => omega
          | succ j => exact h1 j g' oc (by simpa using hg)
        · rw [h2, setsF_at _ _ _ hq]
          unfold Fis.got at hs; rw [hs]
      | none =>
        refine .inr ⟨fun j g oc hg => ?_, by rw [h2]; exact setsF_out _ _ _ hs⟩
        cases j with
        | zero => simp at hg; subst hg; rw [hs]; simp
        | succ j => exact h1 j g oc (by simpa using hg)

structure RoomS (ks : List Fis) (Oi : List AObj) (k : Nat) (listed : Array Bool) (Ov : List AObj) : Prop where
  len : Ov.length = Oi.length + ((List.range k).filter fun i => listed.getD i false && isPutS ks i).length
  cur : ∀ q, q < Oi.length → (∃ i f ob, i < k ∧ listed.getD i false = true ∧ ks[i]? = some f ∧ f.got q = some ob ∧ (∀ j g oc, i < j → j < k → listed.getD j false = true → ks[j]? = some g → g.got q ≠ some oc) ∧ Ov[q]? = some ob) ∨
    ((∀ j g oc, j < k → listed.getD j false = true → ks[j]? = some g → g.got q ≠ some oc) ∧ Ov[q]? = Oi[q]?)
  dead : ∀ q, Oi.length ≤ q → q < Ov.length → Ov[q]? = some deadO
/-- Every place lies among the places; what touches a place touched before is shared and waits for that. -/
structure RoomSOk (ops : Array Oper) (sh : List Nat) (ks : List Fis) (c k : Nat) : Prop where
  lt : ∀ i f p ob, i < k → ks[i]? = some f → f.got p = some ob → p < c
  chain : ∀ i j f g p ob oc, i < j → j < k → ks[i]? = some f → ks[j]? = some g → f.got p = some ob → g.got p = some oc → memB p sh = true ∧ ∃ o, ops[j]? = some o ∧ waits o i = true

theorem RoomS.before {ks : List Fis} {k i : Nat} {listed : Array Bool} {Ov : List AObj} {f : Fis} {o : Oper} (h : RoomS ks Oi k listed Ov) (ok : RoomSOk ops sh ks Oi.length k) (inv : HeadInv .any ops k listed) (hik : i < k) (hu : listed.getD i false = false) (hall : ∀ e ∈ o.after, Region.binds .any e = true → listed.getD e.on false = true) (ho : ops[i]? = some o) (hf : ks[i]? = some f) {p : Nat} {ob : AObj} (hsp : f.got p = some ob) :
    Ov[p]? = (fillAllS (ks.take i) Oi)[p]? := by
  have hp := ok.lt i f p ob hik hf hsp
  -- what touches the place before it is listed, what touches it behind is not
  have hbef : ∀ j g oc, j < i → ks[j]? = some g → g.got p = some oc → listed.getD j false = true := by
    intro j g oc hj hg hs
    obtain ⟨_, o', ho', hw⟩ := ok.chain j i g f p oc ob hj hik hg hf hs hsp
    rw [ho] at ho'; cases ho'
    obtain ⟨e, he, hb, rfl⟩ := waits_spec hw
    exact hall e he hb
  have haft : ∀ j g oc, i < j → j < k → ks[j]? = some g → g.got p = some oc → listed.getD j false = false := by
    intro j g oc hj hjk hg hs
    obtain ⟨_, o', ho', hw⟩ := ok.chain i j f g p ob oc hj hjk hf hg hsp hs
    cases hl : listed.getD j false with
    | false => rfl
    | true =>
      obtain ⟨e, he, hb, rfl⟩ := waits_spec hw
      have := inv.closed j o' ho' hl e he hb
      rw [hu] at this; cases this
  have htk : ∀ j g, (ks.take i)[j]? = some g → j < i ∧ ks[j]? = some g := by
    intro j g hg
    rw [List.getElem?_take] at hg
    split at hg
    · rename_i hj; exact ⟨hj, hg⟩
    · cases hg
  rcases h.cur p hp with ⟨j, g, oc, hjk, hl, hg, hs, hlast, hv⟩ | ⟨hno, hv⟩ <;> rcases fillAllS_cases (ks.take i) Oi p hp with ⟨j2, g2, oc2, hg2, hs2, hlast2, hv2⟩ | ⟨hno2, hv2⟩
  · obtain ⟨hj2, hg2⟩ := htk j2 g2 hg2
    have hji : j < i := by
      rcases Nat.lt_trichotomy j i with h1 | h1 | h1
      · exact h1
      · subst h1; rw [hu] at hl; cases hl
      · rw [haft j g oc h1 hjk hg hs] at hl; cases hl
    have : j = j2 := by
      rcases Nat.lt_trichotomy j j2 with h1 | h1 | h1
      · exact absurd hs2 (hlast j2 g2 oc2 h1 (by omega) (hbef j2 g2 oc2 hj2 hg2 hs2) hg2)
      · exact h1
      · exact absurd hs (hlast2 j g oc h1 (by rw [List.getElem?_take, if_pos hji]; exact hg))
    subst this
    rw [hg] at hg2; cases hg2
    rw [hs] at hs2; cases hs2
    rw [hv, hv2]
  · have hji : j < i := by
      rcases Nat.lt_trichotomy j i with h1 | h1 | h1
      · exact h1
      · subst h1; rw [hu] at hl; cases hl
      · rw [haft j g oc h1 hjk hg hs] at hl; cases hl
    exact absurd hs (hno2 j g oc (by rw [List.getElem?_take, if_pos hji]; exact hg))
  · obtain ⟨hj2, hg2⟩ := htk j2 g2 hg2
    exact absurd hs2 (hno j2 g2 oc2 (by omega) (hbef j2 g2 oc2 hj2 hg2 hs2) hg2)
  · rw [hv, hv2]

theorem RoomS.step {ks : List Fis} {k i : Nat} {listed : Array Bool} {Ov : List AObj} {f : Fis} (h : RoomS ks Oi k listed Ov) (ok : RoomSOk ops sh ks Oi.length k) (inv : HeadInv .any ops k listed) (hik : i < k) (hs : i < listed.size) (hu : listed.getD i false = false) (hf : ks[i]? = some f) :
    RoomS ks Oi k (listed.setIfInBounds i true) (f.run Ov) := by
  have hself : (listed.setIfInBounds i true).getD i false = true := by simp [hs]
  have hcnt := count_set (f := isPutS ks) hik hs hu
  have hlen := h.len
  have hp : isPutS ks i = f.isPutS := by unfold isPutS; rw [hf]; rfl
  rw [hp] at hcnt
  have hrl : (f.run Ov).length = Ov.length + (if f.isPutS = true then 1 else 0) := by
    unfold Fis.run Fis.isPutS
    cases f.dead <;> simp [setsF_len]
  have hle : Oi.length ≤ Ov.length := by omega
  have hrun : ∀ q, q < Ov.length → (f.run Ov)[q]? = (setsF f.sets Ov)[q]? := by
    intro q hq
    unfold Fis.run
    cases f.dead
    · rfl
    · simp only
      rw [List.getElem?_append_left (by rw [setsF_len]; exact hq)]
  have hoth : ∀ q, q < Ov.length → (∀ p ob, f.got p = some ob → p ≠ q) → (f.run Ov)[q]? = Ov[q]? := by
    intro q hq hne
    rw [hrun q hq]
    refine setsF_out _ _ _ ?_
    cases hc : lkF f.sets q with
    | none => rfl
    | some ob => exact absurd rfl (hne q ob hc)
  have hown : ∀ p ob, f.got p = some ob → (f.run Ov)[p]? = some ob := by
    intro p ob e
    have hpc := ok.lt i f p ob hik hf e
    rw [hrun p (by omega), setsF_at _ _ _ (by omega)]
    unfold Fis.got at e; rw [e]
  refine ⟨by rw [hrl, hcnt, hlen]; split <;> omega, fun q hq => ?_, fun q h1 h2 => ?_⟩
  · by_cases hq2 : ∃ ob, f.got q = some ob
    · obtain ⟨ob, hsp⟩ := hq2
      refine .inl ⟨i, f, ob, hik, hself, hf, hsp, fun j g oc hj hjk hl hg hs2 => ?_, hown q ob hsp⟩
      rw [getD_set_ne false (by omega)] at hl
      obtain ⟨_, o', ho', hw⟩ := ok.chain i j f g q ob oc hj hjk hf hg hsp hs2
      obtain ⟨e, he, hb, rfl⟩ := waits_spec hw
      have := inv.closed j o' ho' hl e he hb
      rw [hu] at this; cases this
    · have hne : ∀ p ob, f.got p = some ob → p ≠ q := fun p ob hsp e => hq2 ⟨ob, e ▸ hsp⟩
      rw [hoth q (by omega) hne]
      rcases h.cur q hq with ⟨j, g, oc, hjk, hl, hg, hs2, hlast, hv⟩ | ⟨hno, hv⟩
      · have hij : i ≠ j := by rintro rfl; rw [hu] at hl; cases hl
        refine .inl ⟨j, g, oc, hjk, by rw [getD_set_ne false hij]; exact hl, hg, hs2, fun j2 g2 oc2 h1 h2 h3 h4 => ?_, hv⟩
        by_cases e : i = j2
        · subst e; rw [hf] at h4; cases h4; exact fun h5 => hq2 ⟨_, h5⟩
        · rw [getD_set_ne false e] at h3; exact hlast j2 g2 oc2 h1 h2 h3 h4
      · refine .inr ⟨fun j2 g2 oc2 h2 h3 h4 => ?_, hv⟩
        by_cases e : i = j2
        · subst e; rw [hf] at h4; cases h4; exact fun h5 => hq2 ⟨_, h5⟩
        · rw [getD_set_ne false e] at h3; exact hno j2 g2 oc2 h2 h3 h4
  · rcases Nat.lt_or_ge q Ov.length with h3 | h3
    · rw [hoth q h3 (fun p ob e1 => by have := ok.lt i f p ob hik hf e1; omega)]
      exact h.dead q h1 h3
    · cases hd : f.dead with
      | false => exact absurd h2 (by rw [hrl]; unfold Fis.isPutS; rw [hd]; simp; omega)
      | true =>
        have e : q = Ov.length := by
          rw [hrl] at h2; unfold Fis.isPutS at h2; rw [hd] at h2; simp at h2; omega
        subst e
        unfold Fis.run; rw [hd]; simp only
        rw [List.getElem?_append_right (by rw [setsF_len]; exact Nat.le_refl _), setsF_len]; simp

def GoodS (n m : Nat) (G : Ctx) (T0 out : List (Nat × AV)) (O Oi : List AObj) (k : Nat) (ks : List Fis) (listed : Array Bool) (a : Act) (w : World) : Prop :=
  ∃ T Ov, Rel n m G ⟨T, O ++ Ov⟩ a w ∧ RoomS ks Oi k listed Ov ∧ (∀ (i d : Nat) (V : AV), out[i]? = some (d, V) → listed.getD i false = true → look T d = V) ∧ ∀ t, has out t = false → look T t = look T0 t
theorem head_stepS {out : List (Nat × AV)} {ks : List Fis} {k : Nat} (H : Heads ops T0 out k) (ok : RoomSOk ops sh ks Oi.length k) (hkp : ∀ q, memB q keep = true → q < Oi.length ∧ ∀ i f p ob, i < k → ks[i]? = some f → f.got p = some ob → p ≠ q) {Q : Exit → Act → World → Prop} (hJ : ∀ {j : Nat} {o : Oper}, j < k → ops[j]? = some o → ∃ d V f, out[j]? = some (d, V) ∧ ks[j]? = some f ∧
      ∀ Tv Ov, Oi.length ≤ Ov.length → (∀ p ob, f.got p = some ob → Ov[p]? = (fillAllS (ks.take j) Oi)[p]?) → (∀ i f p ob, waits o i = true → (ks.take j)[i]? = some f → f.got p = some ob → memB p sh = false → Ov[p]? = some ob) → (∀ q, memB q keep = true → Ov[q]? = Oi[q]?) → WpL P n m G false ops [o] ⟨deps (out.take j) o ++ (T0 ++ Tv), O ++ Ov⟩ (Only ⟨(d, V) :: (deps (out.take j) o ++ (T0 ++ Tv)), O ++ f.run Ov⟩))
    {listed : Array Bool} (inv : HeadInv .any ops k listed) {i : Nat} (hi : i ∈ Region.ready .any ops listed) (hik : i < k) {a w} (hg : GoodS n m G T0 out O Oi k ks listed a w) {K : Act → World → Prop}
    (hK : ∀ a' w', GoodS n m G T0 out O Oi k ks (listed.setIfInBounds i true) a' w' → K a' w') : wpOp P ops Q i K a w := by
  obtain ⟨hun, o, ho, hall⟩ := mem_ready.1 hi
  obtain ⟨T, Ov, hr, hroom, h1, h2⟩ := hg
  obtain ⟨d, V, f, hout, hkf, hw⟩ := hJ hik ho
  have hF : ∀ t U, (t, U) ∈ deps (out.take i) o → look T t = U := by
    intro t U hm
    simp only [deps, List.mem_filterMap] at hm
    obtain ⟨e, he, hx⟩ := hm
    split at hx
    · rename_i hb
      have he' : e ∈ o.after := by simpa using he
      have hx' : out[e.on]? = some (t, U) := by
        rw [List.getElem?_take] at hx
        split at hx
        · exact hx
        · simp at hx
      exact h1 _ _ _ hx' (hall e he' hb)
    · simp at hx
  have same : ∀ t, look (deps (out.take i) o ++ (T0 ++ T)) t = look T t := by
    intro t
    rw [look_append]
    split
    · rename_i h; exact (hF _ _ (has_look h)).symm
    · rw [look_append]
      split
      · rename_i h
        refine (h2 t ?_).symm
        cases hc : has out t with
        | false => rfl
        | true => have := H.fresh _ (has_look hc); simp only at this; rw [this] at h; cases h
      · rfl
  have hiu : listed.getD i false = false := getD_both hun
  have hdep : ∀ j g p ob, waits o j = true → (ks.take i)[j]? = some g → g.got p = some ob → memB p sh = false → Ov[p]? = some ob := by
    intro j g p ob hwt hg hsp hsh
    obtain ⟨e, he, hb, rfl⟩ := waits_spec hwt
    have hl := hall e he hb
    rw [List.getElem?_take] at hg
    split at hg
    · rename_i hji
      have hp := ok.lt e.on g p ob (by omega) hg hsp
      rcases hroom.cur p hp with ⟨j2, g2, oc, hjk, hl2, hg2, hs2, hlast, hv⟩ | ⟨hno, hv⟩
      · have hj : j2 = e.on := by
          rcases Nat.lt_trichotomy j2 e.on with h3 | h3 | h3
          · have := (ok.chain j2 e.on g2 g p oc ob h3 (by omega) hg2 hg hs2 hsp).1
            rw [hsh] at this; cases this
          · exact h3
          · have := (ok.chain e.on j2 g g2 p ob oc h3 hjk hg hg2 hsp hs2).1
            rw [hsh] at this; cases this
        subst hj
        rw [hg] at hg2; cases hg2
        rw [hsp] at hs2; cases hs2
        exact hv
      · exact absurd hsp (hno e.on g ob (by omega) hl hg)
    · cases hg
  have hrest : ∀ q, memB q keep = true → Ov[q]? = Oi[q]? := by
    intro q hq
    obtain ⟨hlt, hno⟩ := hkp q hq
    rcases hroom.cur q hlt with ⟨j, g, oc, hjk, _, hg, hs2, _, _⟩ | ⟨_, hv⟩
    · exact absurd rfl (hno j g q oc hjk hg hs2)
    · exact hv
  have hw' := hw T Ov (by rw [hroom.len]; omega) (fun p ob e => hroom.before ok inv hik hiu hall ho hkf e) hdep hrest a w (hr.relook same)
  have hst := hroom.step ok inv hik (by rw [inv.size]; have := (Array.getElem?_eq_some_iff.1 ho).1; omega) hiu hkf
  simp only at hw'
  have good : ∀ a' w', Rel n m G ⟨(d, V) :: (deps (out.take i) o ++ (T0 ++ T)), O ++ f.run Ov⟩ a' w' → GoodS n m G T0 out O Oi k ks (listed.setIfInBounds i true) a' w' := by
    intro a' w' hr'
    refine ⟨_, _, hr', hst, fun j d' V' hj hl => ?_, fun t ht => ?_⟩
    · by_cases hij : i = j
      · subst hij; rw [hout] at hj; cases hj; exact look_cons_same _ _ _
      · rw [getD_set_ne false hij] at hl
        have hne : d ≠ d' := by rintro rfl; exact hij (out_inj H.nodup hout hj)
        rw [look_cons_other _ _ _ _ hne, same]
        exact h1 _ _ _ hj hl
    · have hne : d ≠ t := by
        rintro rfl
        have := has_mem (List.mem_of_getElem? hout)
        rw [ht] at this; cases this
      rw [look_cons_other _ _ _ _ hne, same]; exact h2 t ht
  have only : ∀ e a' w', (∃ σ', Only ⟨(d, V) :: (deps (out.take i) o ++ (T0 ++ T)), O ++ f.run Ov⟩ e σ' ∧ Rel n m G σ' a' w') → e = .normal ∧ K a' w' := by
    rintro e a' w' ⟨σ', hq, hr'⟩
    cases e <;> first | (simp only [Only] at hq; subst hq; exact ⟨rfl, hK _ _ (good _ _ hr')⟩) | exact hq.elim
  unfold wpOp
  simp only [ho]
  change wpList P ops _ [o] a w at hw'
  unfold wpList at hw'
  by_cases hwant : Region.wanted o (yielded ops a.tmps) = true
  · rw [if_pos hwant] at hw' ⊢
    rcases hw' with hw' | ⟨_, a', w', hx⟩
    · refine .inl ?_
      unfold Oper.wp at hw' ⊢
      generalize (execOp a.eval o).run P w = r at *
      cases r with
      | ok x w1 =>
        cases x <;> simp only [Oper.upon] at hw' ⊢
        case value v => exact (only _ _ _ hw').2
        case skip => exact (only _ _ _ hw').2
        case defer d => exact (only _ _ _ hw').2
        case enter f args =>
          refine hw'.mono fun e w2 h2 => ?_
          cases e with
          | returned v => exact (only _ _ _ h2).2
          | panicked c => exact absurd (only _ _ _ h2).1 (by simp)
          | outgrown => obtain ⟨_, _, hf⟩ := h2; exact absurd (only _ _ _ hf).1 (by simp)
        case row r ar => exact hw'.mono fun v w2 h2 => (only _ _ _ h2).2
      | halt x w1 => cases x <;> simp only [Oper.upon] at hw' ⊢ <;> first | exact absurd (only _ _ _ hw').1 (by simp) | exact hw'.elim | (obtain ⟨_, _, hf⟩ := hw'; exact absurd (only _ _ _ hf).1 (by simp))
    · exact absurd (only _ _ _ hx).1 (by simp)
  · rw [if_neg hwant] at hw' ⊢
    exact (only _ _ _ hw').2

theorem WpA.regionS {l : List Oper} {id : Nat} {out T1 : List (Nat × AV)} {ks : List Fis} {Q : Exit → St → Prop} (k : Nat) (hm : P.follows .mixedOrders = true) (hB : mixB l.toArray k = true)
    (hJ : HeadS P n m G l.toArray T0 O Oi keep sh [] [] (l.take k) out ks) (hok : RoomSOk l.toArray sh ks Oi.length k) (hkp : ∀ q, memB q keep = true → q < Oi.length ∧ ∀ i f p ob, i < k → ks[i]? = some f → f.got p = some ob → p ≠ q) (hnd : nodupB (out.map (·.1)) = true) (hfr : (out.all fun p => !has T0 p.1) = true)
    (hT1 : out ++ T0 = T1) (h : WpL P n m G false l.toArray (l.drop k) ⟨T1, O ++ (fillAllS ks Oi ++ List.replicate ((List.range k).filter fun i => isPutS ks i).length deadO)⟩ Q) : WpA P n m G (.region id l.toArray true) ⟨T0, O ++ Oi⟩ Q := fun a w hr => by
  subst hT1
  simp only [mixB, Bool.and_eq_true, decide_eq_true_eq, Bool.or_eq_true] at hB
  obtain ⟨⟨⟨hks, hback⟩, hsc⟩, hseq⟩ := hB
  have hkl : k ≤ l.length := by simpa using hks
  have htl : (l.take k).length = k := by simp; omega
  obtain ⟨r, s, hr1, hr2, hr3, hr4⟩ := hJ.pre
  have hlen : out.length = k := by rw [hr1]; simp [hr2]; omega
  have hklen : ks.length = k := by rw [hr3]; simp [hr4]; omega
  have H : Heads l.toArray T0 out k := ⟨hlen, nodupB_spec hnd, fun p hp => by have := List.all_eq_true.1 hfr p hp; simpa using this, fun i hi o ho e he hb => by
    have h1 := List.all_eq_true.1 hback i (List.mem_range.2 hi)
    rw [ho] at h1
    have h2 := List.all_eq_true.1 h1 e (by simpa using he)
    simp only [Bool.or_eq_true, Bool.not_eq_true', decide_eq_true_eq] at h2
    rcases h2 with h2 | h2
    · rw [hb] at h2; cases h2
    · exact h2⟩
  have hJ' : ∀ {j : Nat} {o : Oper}, j < k → l.toArray[j]? = some o → ∃ d V f, out[j]? = some (d, V) ∧ ks[j]? = some f ∧
      ∀ Tv Ov, Oi.length ≤ Ov.length → (∀ p ob, f.got p = some ob → Ov[p]? = (fillAllS (ks.take j) Oi)[p]?) → (∀ i f p ob, waits o i = true → (ks.take j)[i]? = some f → f.got p = some ob → memB p sh = false → Ov[p]? = some ob) → (∀ q, memB q keep = true → Ov[q]? = Oi[q]?) → WpL P n m G false l.toArray [o] ⟨deps (out.take j) o ++ (T0 ++ Tv), O ++ Ov⟩ (Only ⟨(d, V) :: (deps (out.take j) o ++ (T0 ++ Tv)), O ++ f.run Ov⟩) := by
    intro j o hj ho
    have ho' : (l.take k)[j]? = some o := by rw [List.getElem?_take, if_pos hj]; simpa using ho
    have := hJ.at rfl ho'
    simpa using this
  have inv0 : HeadInv .any l.toArray k (Array.replicate l.toArray.size false) :=
    ⟨by simp, fun j oj _ hl => (by rw [getD_replicate_false] at hl; cases hl), fun t _ ht => getD_in (by simpa using ht) (getD_replicate_false _ _)⟩
  have room0 : RoomS ks Oi k (Array.replicate l.toArray.size false) Oi := by
    refine ⟨?_, fun q _ => .inr ⟨fun j g oc _ hl => (by rw [getD_replicate_false] at hl; cases hl), rfl⟩, fun q h1 h2 => by omega⟩
    have : ((List.range k).filter fun i => (Array.replicate l.toArray.size false).getD i false && isPutS ks i) = [] := by
      rw [List.filter_eq_nil_iff]; intro i _; rw [getD_replicate_false]; simp
    rw [this]; simp
  refine wp_region_any hm ?_
  have fin := any_order (P := P) (GP := GoodS n m G T0 out O Oi k ks) (g := l.toArray.size - k) (Q := fun e a' w' => ∃ σ', Q e σ' ∧ Rel n m G σ' a' w') H hks (fun hk => hsc.resolve_left (by omega)) (fun inv _ hi hik _ _ hg _ hK => head_stepS H hok hkp hJ' inv hi hik hg hK) (fun listed a w inv hall hg => by
    obtain ⟨T, Ov, hrT, hroom, h1, h2⟩ := hg
    have hOv : Ov = fillAllS ks Oi ++ List.replicate ((List.range k).filter fun i => isPutS ks i).length deadO := by
      have hcnt : ((List.range k).filter fun i => listed.getD i false && isPutS ks i) = (List.range k).filter fun i => isPutS ks i := by
        refine List.filter_congr fun i hi => ?_
        rw [hall i (List.mem_range.1 hi)]; rfl
      have hlen := hroom.len
      rw [hcnt] at hlen
      have hfl := fillAllS_len ks Oi
      apply List.ext_getElem?
      intro q
      rcases Nat.lt_or_ge q Oi.length with hq | hq
      · rw [List.getElem?_append_left (by omega)]
        rcases hroom.cur q hq with ⟨j, g, oc, hjk, hl, hg, hs, hlast, hv⟩ | ⟨hno, hv⟩ <;> rcases fillAllS_cases ks Oi q hq with ⟨j2, g2, oc2, hg2, hs2, hlast2, hv2⟩ | ⟨hno2, hv2⟩
        · have hj2k : j2 < k := by have := (List.getElem?_eq_some_iff.1 hg2).1; omega
          have : j = j2 := by
            rcases Nat.lt_trichotomy j j2 with h3 | h3 | h3
            · exact absurd hs2 (hlast j2 g2 oc2 h3 hj2k (hall j2 hj2k) hg2)
            · exact h3
            · exact absurd hs (hlast2 j g oc h3 hg)
          subst this
          rw [hg] at hg2; cases hg2
          rw [hs] at hs2; cases hs2
          rw [hv, hv2]
        · exact absurd hs (hno2 j g oc hg)
        · have hj2k : j2 < k := by have := (List.getElem?_eq_some_iff.1 hg2).1; omega
          exact absurd hs2 (hno j2 g2 oc2 hj2k (hall j2 hj2k) hg2)
        · rw [hv, hv2]
      · rcases Nat.lt_or_ge q Ov.length with h3 | h3
        · rw [hroom.dead q hq h3, List.getElem?_append_right (by omega), List.getElem?_replicate, if_pos (by omega)]
        · rw [List.getElem?_eq_none h3, List.getElem?_eq_none (by simp; omega)]
    subst hOv
    have hlist : listed = (Array.range l.toArray.size).map fun i => decide (i < k) := by
      apply Array.ext
      · simp [inv.size]
      · intro i hi1 hi2
        have hi : i < l.toArray.size := by rw [← inv.size]; exact hi1
        by_cases hik : i < k
        · have := hall i hik
          simp [hi1] at this
          simp [this, hik]
        · have := inv.tail i (by omega) hi
          simp [hi1] at this
          simp [this, hik]
    have hdl : (l.drop k).length = l.toArray.size - k := by simp
    rw [← hdl]
    refine wpAny_of_seq (l.drop k) k listed a w (fun j => by simp [List.getElem?_drop]) (by rw [hdl, hlist]; exact hseq) ?_
    refine h a w (hrT.relook fun t => ?_)
    rw [look_append]
    split
    · rename_i hh
      obtain ⟨i, hi, hi2⟩ := List.getElem_of_mem (has_look hh)
      have : out[i]? = some (t, look out t) := by rw [List.getElem?_eq_getElem hi, hi2]
      exact (h1 i _ _ this (hall i (by omega))).symm
    · rename_i hh
      exact (h2 t (by simpa using hh)).symm) k _ a w.drew inv0 (by
        have : ((List.range k).filter fun i => !(Array.replicate l.toArray.size false).getD i false) = List.range k := by
          rw [List.filter_eq_self]; intro i _; rw [getD_replicate_false]; rfl
        rw [this]; simp) ⟨T0, _, hr.drew, room0, ⟨fun i d V _ hl => (by rw [getD_replicate_false] at hl; cases hl), fun _ _ => rfl⟩⟩
  rw [show k + (l.toArray.size - k) = l.toArray.size by omega] at fin
  exact fin

/-- Every place lies among c places; the shared ones are touched in order. -/
def chainS (ops : Array Oper) (sh : List Nat) (c : Nat) : Nat → List (Nat × Nat) → List Fis → Bool
  | _, _, [] => true
  | j, seen, f :: ks => (f.sets.all fun x => Nat.blt x.1 c && seen.all fun s => !Nat.beq s.1 x.1 || (memB x.1 sh && match ops[j]? with | some o => waits o s.2 | none => false)) && chainS ops sh c (j + 1) (f.sets.map (fun x => (x.1, j)) ++ seen) ks
theorem chainS_lt {sh : List Nat} {c : Nat} : ∀ {ks : List Fis} {j : Nat} {seen : List (Nat × Nat)}, chainS ops sh c j seen ks = true → ∀ i f p ob, ks[i]? = some f → f.got p = some ob → p < c ∧ ∀ s ∈ seen, s.1 = p → memB p sh = true ∧ ∃ o, ops[j + i]? = some o ∧ waits o s.2 = true
  | [], _, _, _, i, f, p, ob, h, _ => by simp at h
  | g :: ks, j, seen, hB, i, f, p, ob, h, hs => by
    unfold chainS at hB
    rw [Bool.and_eq_true] at hB
    cases i with
    | zero =>
      simp at h; subst h
      obtain ⟨x, hx, e⟩ := lkF_mem hs
      have hx2 := List.all_eq_true.1 hB.1 x hx
      rw [Bool.and_eq_true] at hx2
      subst e
      refine ⟨Nat.le_of_ble_eq_true hx2.1, fun s hm e => ?_⟩
      have := List.all_eq_true.1 hx2.2 s hm
      simp only [Bool.or_eq_true, Bool.not_eq_true', Bool.and_eq_true] at this
      rcases this with h | ⟨h1, h2⟩
      · rw [e] at h; simp at h
      · refine ⟨h1, ?_⟩
        rw [Nat.add_zero]
        split at h2
        · rename_i o ho; exact ⟨o, ho, h2⟩
        · cases h2
    | succ i =>
      have e : j + (i + 1) = j + 1 + i := by omega
      rw [e]
      have := chainS_lt hB.2 i f p ob (by simpa using h) hs
      exact ⟨this.1, fun s hm e => this.2 s (List.mem_append_right _ hm) e⟩
theorem chainS_pair {sh : List Nat} {c : Nat} : ∀ {ks : List Fis} {j : Nat} {seen : List (Nat × Nat)}, chainS ops sh c j seen ks = true → ∀ i i2 f g p ob oc, i < i2 → ks[i]? = some f → ks[i2]? = some g → f.got p = some ob → g.got p = some oc → memB p sh = true ∧ ∃ o, ops[j + i2]? = some o ∧ waits o (j + i) = true
  | [], _, _, _, i, i2, f, g, p, ob, oc, _, h, _, _, _ => by simp at h
  | x :: ks, j, seen, hB, i, i2, f, g, p, ob, oc, hlt, h, h2, hs, hs2 => by
    unfold chainS at hB
    rw [Bool.and_eq_true] at hB
    cases i2 with
    | zero => omega
    | succ i2 =>
      have e2 : j + (i2 + 1) = j + 1 + i2 := by omega
      cases i with
      | zero =>
        simp at h; subst h
        obtain ⟨y, hy, e⟩ := lkF_mem hs
        have := (chainS_lt hB.2 i2 g p oc (by simpa using h2) hs2).2 (p, j) (List.mem_append_left _ (by rw [← e]; exact List.mem_map_of_mem (f := fun x : Nat × AObj => (x.1, j)) hy)) rfl
        rw [e2]; exact this
      | succ i =>
        have e : j + (i + 1) = j + 1 + i := by omega
        rw [e, e2]
        exact chainS_pair hB.2 i i2 f g p ob oc (by omega) (by simpa using h) (by simpa using h2) hs hs2
theorem roomSOk_of {ks : List Fis} {c k : Nat} (h : chainS ops sh c 0 [] ks = true) : RoomSOk ops sh ks c k :=
  ⟨fun i f p ob _ hk hs => (chainS_lt h i f p ob hk hs).1, fun i j f g p ob oc hij _ hi hj hf hg => by
    have := chainS_pair h i j f g p ob oc hij hi hj hf hg
    rw [Nat.zero_add, Nat.zero_add] at this; exact this⟩
theorem HeadS.consF {fs fs2 out : List (Nat × AV)} {gs gs2 : List Fis} {o : Oper} {l : List Oper} {d : Nat} {V : AV} {F : List (Nat × AV)} {ks : List Fis} {cur : List AObj} (k : Fis) (hd : o.dst = some d) (hF : depsF fs o.after.toList = some F) (hcur : fillAllS gs Oi = cur)
    (h : ∀ Tv Ov, Oi.length ≤ Ov.length → (∀ p ob, k.got p = some ob → Ov[p]? = cur[p]?) → (∀ j f p ob, waits o j = true → gs[j]? = some f → f.got p = some ob → memB p sh = false → Ov[p]? = some ob) → (∀ q, memB q keep = true → Ov[q]? = Oi[q]?) → WpL P n m G false ops [o] ⟨F ++ (T0 ++ Tv), O ++ Ov⟩ (Only ⟨(d, V) :: (F ++ (T0 ++ Tv)), O ++ k.run Ov⟩)) (hs : catF fs [(d, V)] = some fs2) (hg : catF gs [k] = some gs2) (r : HeadS P n m G ops T0 O Oi keep sh fs2 gs2 l out ks) : HeadS P n m G ops T0 O Oi keep sh fs gs (o :: l) out ks := by
  have := catF_eq hs; subst this; have := catF_eq hg; subst this; subst hcur
  exact .cons k (depsF_eq hF) h r
/-- A region whose operations make objects in any order, or turn some of Or: c places stand ready for what is made; the places of 'sh' are touched by several operations in their order. -/
theorem WpA.regionSF {l l1 l2 : List Oper} {id : Nat} {out T1 : List (Nat × AV)} {ks : List Fis} {Of Or O1 : List AObj} {Q : Exit → St → Prop} (k c : Nat) (keep sh : List Nat) (hO0 : Of = O ++ Or) (hm : P.follows .mixedOrders = true) (hB : mixB l.toArray k = true)
    (hl : takeF k l = some l1) (hJ : HeadS P n m G l.toArray T0 O (Or ++ List.replicate c roomO) keep sh [] [] l1 out ks) (hok : chainS l.toArray sh (Or.length + c) 0 [] ks = true) (hkp : keepB (Or.length + c) (spotsS ks) keep = true) (hnd : nodupB (out.map (·.1)) = true) (hfr : (out.all fun p => !has T0 p.1) = true)
    (hT1 : catF out T0 = some T1) (h2 : l.drop k = l2) (hO : O ++ (fillAllS ks (Or ++ List.replicate c roomO) ++ List.replicate ((List.range k).filter fun i => isPutS ks i).length deadO) = O1) (h : WpL P n m G false l.toArray l2 ⟨T1, O1⟩ Q) : WpA P n m G (.region id l.toArray true) ⟨T0, Of⟩ Q := by
  have := takeF_eq hl; subst this; subst h2; subst hO; subst hO0
  have hc : (Or ++ List.replicate c roomO).length = Or.length + c := by simp
  have hw := WpA.regionS (Q := Q) (id := id) k hm hB hJ (by rw [hc]; exact roomSOk_of hok) (fun q hq => by rw [hc]; exact keepB_ofS hkp hq) hnd hfr (catF_eq hT1) h
  have hr := Weak.rooms (m := m) (T := T0) c (O ++ Or)
  rw [List.append_assoc] at hr
  exact WpA.weak hr hw
theorem newO_after {n : Nat} (mb : AObj) : ∀ (k : Nat) (R : List AObj), n < k → newO [n] [mb] k R = R
  | _, [], _ => rfl
  | k, ob :: R, hk => by
    rw [newO, newO_after mb (k + 1) R (by omega)]
    have : findN [n] k 0 = none := by
      rw [findN]
      have : Nat.beq n k = false := by
        cases h : Nat.beq n k with
        | false => rfl
        | true => have := Nat.eq_of_beq_eq_true h; omega
      rw [this]; rfl
    unfold newOb; rw [this]
theorem newO_mid {n : Nat} (mb ob : AObj) (R : List AObj) : ∀ (k : Nat) (A : List AObj), k + A.length = n → newO [n] [mb] k (A ++ ob :: R) = A ++ ⟨mb.cells, ob.ep, mb.size, mb.ty⟩ :: R
  | k, [], h => by
    simp only [List.length_nil, Nat.add_zero] at h
    subst h
    rw [List.nil_append, newO, newO_after mb (k + 1) R (by omega), List.nil_append]
    have : findN [k] k 0 = some 0 := by
      rw [findN]
      have : Nat.beq k k = true := by simp
      rw [this]
      try rfl
    unfold newOb; rw [this]
    try rfl
  | k, a :: A, h => by
    simp only [List.length_cons] at h
    rw [List.cons_append, newO, newO_mid mb ob R (k + 1) A (by omega), List.cons_append]
    have : findN [n] k 0 = none := by
      rw [findN]
      have : Nat.beq n k = false := by
        cases h : Nat.beq n k with
        | false => rfl
        | true => have := Nat.eq_of_beq_eq_true h; omega
      rw [this]; rfl
    unfold newOb; rw [this]
/-- A function that turns one object and returns what it made. -/
theorem WpL.callP1N {n : Nat} {T : List (Nat × AV)} {Q : Exit → St → Prop} {l : List Oper} {tt : TypeId} {pos : String} {after : Array Edge} {f : FuncId} {xs : List Operand} {ats : Array TypeId} {As : List AV} {A R : List AObj} {ob mb0 mb nb : AObj} {pv : List Value} {pa : List AV} {r r' : AV} {d c : Nat} (hc : FnP P f As [mb0] pv pa [mb] [nb] r) (hp : Pin G pv pa) (hcA : cnt A.length 0 = some c) (hh : HandM (A ++ ob :: R) [c] [mb0] (xs.map (av T)) As) (hM : HandO (A ++ ob :: R) [c] [mb0]) (hsz : mb.size = mb0.size) (hM' : Out [mb]) (hN : Out [nb]) (hre : r.reF 1 (A ++ ob :: R).length = some r') (hn : d < n)
    (h : WpL P n m G false ops l ⟨(d, r') :: T, (A ++ ⟨mb.cells, ob.ep, mb.size, mb.ty⟩ :: R) ++ [nb]⟩ Q) :
    WpL P n m G false ops ({ dst := some d, op := .call { callee := .value (.func f), args := xs.toArray, argTypes := ats }, type := tt, pos := pos, after := after, guard := none } :: l) ⟨T, A ++ ob :: R⟩ Q := by
  have ec := cnt_eq hcA; rw [Nat.add_zero] at ec; subst ec
  refine WpL.opX (β := Unit) (C := fun _ => True) (σX := fun _ => ⟨(d, r') :: T, (A ++ ⟨mb.cells, ob.ep, mb.size, mb.ty⟩ :: R) ++ [nb]⟩) rfl (fun a w hr => ?_) (fun _ _ => h)
  have hcl := callX_rel hc hp hh hM (by simp) (fun _ => rfl) (fun _ j x y hx hy => by
    cases j with
    | zero => simp at hx hy; subst hx hy; exact hsz
    | succ j => simp at hx) (fun _ => hM') (fun _ => hN) (rX' := fun _ => r') (fun _ => hre) hr
  have e : newO [A.length] [mb] 0 (A ++ ob :: R) ++ [nb] = (A ++ ⟨mb.cells, ob.ep, mb.size, mb.ty⟩ :: R) ++ [nb] := by
    rw [newO_mid mb ob R 0 A (by omega)]
  obtain ⟨⟨fn, hf, hbd, hnm⟩, _⟩ := hc
  have hex : (execOp a.eval { dst := some d, op := .call { callee := .value (.func f), args := xs.toArray, argTypes := ats }, type := tt, pos := pos, after := after, guard := none }).run P w = .ok (.enter f (xs.map a.eval).toArray) w := by
    simp only [execOp, resolve, Act.eval, Deferred.ofValue, invoke, callFunc, Sem.run_bind, Sem.run_pure, Result.andThen_ok, program, Sem.run, hf, hnm, hbd, Bool.false_eq_true, if_false]
    simp
  unfold Oper.wp
  rw [hex]
  refine hcl.mono fun e' w' ⟨y, hy, v', he, S, ι, F, hr', hv⟩ => ?_
  subst he
  simp only [e] at hr' hv
  exact ⟨y, hy, S, ι, F, hr'.put hn hv⟩
theorem split3 {Ov : List AObj} {e : AObj} (h : Ov[2]? = some e) : ∃ a b R, Ov = a :: b :: e :: R := by
  match Ov, h with
  | a :: b :: e' :: R, h => simp at h; exact ⟨a, b, R, by rw [h]⟩
  | [], h => simp at h
  | [_], h => simp at h
  | [_, _], h => simp at h
end
end Go.Abs

/- What is drawn: levels, a header with levels. No condition. -/
namespace Go.Proofs.Ytgkeopmihhcbiaa
open Go Go.Abs
set_option linter.unusedVariables false
set_option linter.unusedSimpArgs false
set_option maxRecDepth 100000
set_option maxHeartbeats 4000000
attribute [local irreducible] WpA WpL Rnd Blk Abs.Seq Abs.Fin Abs.FinG FnC FnG FnX FnP FinX Only
attribute [local irreducible] belowD onceD pickD modeD l8D l8AnyD optD anyD seedD squareD headD headAnyD

theorem tf {P : Prop} {b : Bool} (h : b = true) (h' : b = false) : P := by rw [h] at h'; cases h'
def zerK (x : List Int) (j : Nat) : List Int := x.take 3 ++ List.replicate (j - 3) 0 ++ x.drop j
theorem zer_len (x : List Int) (j : Nat) (h : 3 ≤ j) (h2 : j ≤ x.length ∨ j = 3) : (zerK x j).length = x.length := by
  simp [zerK]; omega
theorem zer_3 (x : List Int) : zerK x 3 = x := by simp [zerK]
theorem zer_step (x : List Int) (j : Nat) (h : 3 ≤ j) (h2 : j < x.length) : (zerK x j).set j 0 = zerK x (j + 1) := by
  have e : (x.take 3 ++ List.replicate (j - 3) (0 : Int)).length = j := by simp; omega
  unfold zerK
  rw [List.set_append_right _ _ (by rw [e]; exact Nat.le_refl _), e, Nat.sub_self, List.drop_eq_getElem_cons h2, List.set_cons_zero, show j + 1 - 3 = (j - 3) + 1 by omega, List.replicate_succ']
  simp
theorem zer_end (x : List Int) (j : Nat) (h : 3 ≤ j) (h1 : ¬ j < x.length) (h2 : j ≤ x.length ∨ j = 3) : zerK x j = tail3 x := by
  unfold zerK tail3
  rw [List.drop_eq_nil_of_le (by omega), List.append_nil]
  congr 2
  omega
theorem lvB_z {l : List Int} {s : Cr × List Int} (h : s.2.length = 0) : lvB l s = s := by unfold lvB; rw [if_pos h]
theorem lvB_1 {l : List Int} {s : Cr × List Int} (h : ¬ s.2.length = 0) (h6 : (onceD l s.1 6).2 = true) : lvB l s = ((pickD l (belowD l (onceD l s.1 6).1 s.2.length).1 big4).1, s.2.set (belowD l (onceD l s.1 6).1 s.2.length).2.toNat (pickD l (belowD l (onceD l s.1 6).1 s.2.length).1 big4).2) := by
  unfold lvB lvA; rw [if_neg h, if_pos h6]
theorem lvB_0 {l : List Int} {s : Cr × List Int} (h : ¬ s.2.length = 0) (h6 : ¬ (onceD l s.1 6).2 = true) : lvB l s = ((onceD l s.1 6).1, s.2) := by
  unfold lvB lvA; rw [if_neg h, if_neg h6]
theorem lev10_1 {l : List Int} {c : Cr} {y : Cr × List Int} (hy : lvB l (squareD l c 30) = y) (h : (onceD l y.1 4).2 = true) : lev10D l c = ((onceD l y.1 4).1, tail3 y.2) := by
  unfold lev10D; rw [hy, if_pos h]
theorem lev10_0 {l : List Int} {c : Cr} {y : Cr × List Int} (hy : lvB l (squareD l c 30) = y) (h : ¬ (onceD l y.1 4).2 = true) : lev10D l c = ((onceD l y.1 4).1, y.2) := by
  unfold lev10D; rw [hy, if_neg h]
theorem squareD_ok' {l : List Int} {c : Cr} (most : Int) (h : CrOk l c) : CrOk l (squareD l c most).1 ∧ (squareD l c most).2.length ≤ 64 := squareD_ok most h
instance l10Levels_p : ConP 194 (∀ (v : Value) (l : List Int) (c : Cr), CrOk l c → Pn 194 v l c [] (lev10D l c).1 [XI (lev10D l c).2] (.own 1 0 0 (lev10D l c).2.length)) := ⟨fun v l c h => by
  have hs := squareD_ok' 30 h
  have hs1 := hs.1
  have hs2 := hs.2
  have h6o := onceD_ok 6 hs1
  by_cases hz : (squareD l c 30).2.length = 0
  · by_cases h4 : (onceD l (squareD l c 30).1 4).2 = true
    · rw [lev10_1 (lvB_z hz) h4, tail3_len]
      refine FnP.of_body tabOk Try.func194 Try.ntmps194 rfl (by decide +kernel) (by simp) rfl rfl rfl fun G hp => ?_
      refine go (r := ?_); and_intros <;> intros <;> try exact True.intro
      all_goals first | exact tf h4 (by assumption) | exact h | exact h.2.1 | exact h.2.2 | exact hs1.2.1 | exact hs1.2.2 | exact h6o.2.1 | exact h6o.2.2 | decide | omega | skip
      refine WpA.loop (fun j : Nat => ⟨[(3, .own 1 0 0 (((squareD l c 30).2).length)), (4, I j)], [CurO v (onceD l (squareD l c 30).1 4).1, XI (zerK (squareD l c 30).2 j)]⟩) (fun j => 3 ≤ j ∧ (j ≤ ((squareD l c 30).2).length ∨ j = 3)) (fun j => ((squareD l c 30).2).length - j) 3 ⟨Nat.le_refl 3, .inr rfl⟩ (go (r := ?_)) (fun j hj => ?_)
      · and_intros <;> first | exact True.intro | rfl | exact (zer_3 _).symm | exact zer_3 _ | trace_state
      have hln := zer_len ((squareD l c 30).2) j hj.1 hj.2
      have hls : ((squareD l c 30).2).length = ((squareD l c 30).2).length := by first | rfl | exact List.length_set ..
      have hzs := fun h => zer_step ((squareD l c 30).2) j hj.1 h
      have hze := fun h => zer_end ((squareD l c 30).2) j hj.1 h hj.2
      refine go (r := ?_); and_intros <;> intros <;> try exact True.intro
      all_goals first | exact hzs (by omega) | exact hze (by omega) | trace_state
    · rw [lev10_0 (lvB_z hz) h4]
      refine FnP.of_body tabOk Try.func194 Try.ntmps194 rfl (by decide +kernel) (by simp) rfl rfl rfl fun G hp => ?_
      refine go (r := ?_); and_intros <;> intros <;> try exact True.intro
      all_goals first | exact (h4 (by assumption)).elim | exact h | exact h.2.1 | exact h.2.2 | exact hs1.2.1 | exact hs1.2.2 | exact h6o.2.1 | exact h6o.2.2 | decide | trace_state
  · by_cases h6 : (onceD l (squareD l c 30).1 6).2 = true
    · have hb := belowD_ok (squareD l c 30).2.length h6o
      have hb0 := hb.2.1
      have hb1 := hb.2.2.1 (by omega)
      have hp := pickD_ok (xs := [16383, -16383, 16384, 5000]) hb.1 (by decide)
      have hp1 := hp.1.2.1
      have hp2 := hp.1.2.2
      by_cases h4 : (onceD l (pickD l (belowD l (onceD l (squareD l c 30).1 6).1 (squareD l c 30).2.length).1 big4).1 4).2 = true
      · rw [lev10_1 (lvB_1 hz h6) h4, tail3_len, List.length_set]
        refine FnP.of_body tabOk Try.func194 Try.ntmps194 rfl (by decide +kernel) (by simp) rfl rfl rfl fun G hp => ?_
        refine go (r := ?_); and_intros <;> intros <;> try exact True.intro
        all_goals first | exact tf h6 (by assumption) | exact tf h4 (by assumption) | exact h | exact h.2.1 | exact h.2.2 | exact hs1.2.1 | exact hs1.2.2 | exact h6o.2.1 | exact h6o.2.2 | exact hb.1.2.1 | exact hb.1.2.2 | exact hp.1.2.1 | exact hp.1.2.2 | decide | omega | skip
        refine WpA.loop (fun j : Nat => ⟨[(3, .own 1 0 0 ((squareD l c 30).2.length)), (4, I j)], [CurO v (onceD l (pickD l (belowD l (onceD l (squareD l c 30).1 6).1 (squareD l c 30).2.length).1 big4).1 4).1, XI (zerK ((squareD l c 30).2.set (belowD l (onceD l (squareD l c 30).1 6).1 (squareD l c 30).2.length).2.toNat (pickD l (belowD l (onceD l (squareD l c 30).1 6).1 (squareD l c 30).2.length).1 big4).2) j), XI big4]⟩) (fun j => 3 ≤ j ∧ (j ≤ (((squareD l c 30).2.set (belowD l (onceD l (squareD l c 30).1 6).1 (squareD l c 30).2.length).2.toNat (pickD l (belowD l (onceD l (squareD l c 30).1 6).1 (squareD l c 30).2.length).1 big4).2)).length ∨ j = 3)) (fun j => (((squareD l c 30).2.set (belowD l (onceD l (squareD l c 30).1 6).1 (squareD l c 30).2.length).2.toNat (pickD l (belowD l (onceD l (squareD l c 30).1 6).1 (squareD l c 30).2.length).1 big4).2)).length - j) 3 ⟨Nat.le_refl 3, .inr rfl⟩ (go (r := ?_)) (fun j hj => ?_)
        · and_intros <;> first | exact True.intro | rfl | exact (zer_3 _).symm | exact zer_3 _ | trace_state
        have hln := zer_len (((squareD l c 30).2.set (belowD l (onceD l (squareD l c 30).1 6).1 (squareD l c 30).2.length).2.toNat (pickD l (belowD l (onceD l (squareD l c 30).1 6).1 (squareD l c 30).2.length).1 big4).2)) j hj.1 hj.2
        have hls : (((squareD l c 30).2.set (belowD l (onceD l (squareD l c 30).1 6).1 (squareD l c 30).2.length).2.toNat (pickD l (belowD l (onceD l (squareD l c 30).1 6).1 (squareD l c 30).2.length).1 big4).2)).length = (squareD l c 30).2.length := by first | rfl | exact List.length_set ..
        have hzs := fun h => zer_step (((squareD l c 30).2.set (belowD l (onceD l (squareD l c 30).1 6).1 (squareD l c 30).2.length).2.toNat (pickD l (belowD l (onceD l (squareD l c 30).1 6).1 (squareD l c 30).2.length).1 big4).2)) j hj.1 h
        have hze := fun h => zer_end (((squareD l c 30).2.set (belowD l (onceD l (squareD l c 30).1 6).1 (squareD l c 30).2.length).2.toNat (pickD l (belowD l (onceD l (squareD l c 30).1 6).1 (squareD l c 30).2.length).1 big4).2)) j hj.1 h hj.2
        refine go (r := ?_); and_intros <;> intros <;> try exact True.intro
        all_goals first | exact hzs (by omega) | exact hze (by omega) | trace_state
      · rw [lev10_0 (lvB_1 hz h6) h4, List.length_set]
        refine FnP.of_body tabOk Try.func194 Try.ntmps194 rfl (by decide +kernel) (by simp) rfl rfl rfl fun G hp => ?_
        refine go (r := ?_); and_intros <;> intros <;> try exact True.intro
        all_goals first | exact tf h6 (by assumption) | exact (h4 (by assumption)).elim | exact h | exact h.2.1 | exact h.2.2 | exact hs1.2.1 | exact hs1.2.2 | exact h6o.2.1 | exact h6o.2.2 | exact hb.1.2.1 | exact hb.1.2.2 | exact hp.1.2.1 | exact hp.1.2.2 | decide | trace_state
    · by_cases h4 : (onceD l (onceD l (squareD l c 30).1 6).1 4).2 = true
      · rw [lev10_1 (lvB_0 hz h6) h4, tail3_len]
        refine FnP.of_body tabOk Try.func194 Try.ntmps194 rfl (by decide +kernel) (by simp) rfl rfl rfl fun G hp => ?_
        refine go (r := ?_); and_intros <;> intros <;> try exact True.intro
        all_goals first | exact (h6 (by assumption)).elim | exact tf h4 (by assumption) | exact h | exact h.2.1 | exact h.2.2 | exact hs1.2.1 | exact hs1.2.2 | exact h6o.2.1 | exact h6o.2.2 | decide | omega | skip
        refine WpA.loop (fun j : Nat => ⟨[(3, .own 1 0 0 (((squareD l c 30).2).length)), (4, I j)], [CurO v (onceD l (onceD l (squareD l c 30).1 6).1 4).1, XI (zerK (squareD l c 30).2 j)]⟩) (fun j => 3 ≤ j ∧ (j ≤ ((squareD l c 30).2).length ∨ j = 3)) (fun j => ((squareD l c 30).2).length - j) 3 ⟨Nat.le_refl 3, .inr rfl⟩ (go (r := ?_)) (fun j hj => ?_)
        · and_intros <;> first | exact True.intro | rfl | exact (zer_3 _).symm | exact zer_3 _ | trace_state
        have hln := zer_len ((squareD l c 30).2) j hj.1 hj.2
        have hls : ((squareD l c 30).2).length = ((squareD l c 30).2).length := by first | rfl | exact List.length_set ..
        have hzs := fun h => zer_step ((squareD l c 30).2) j hj.1 h
        have hze := fun h => zer_end ((squareD l c 30).2) j hj.1 h hj.2
        refine go (r := ?_); and_intros <;> intros <;> try exact True.intro
        all_goals first | exact hzs (by omega) | exact hze (by omega) | trace_state
      · rw [lev10_0 (lvB_0 hz h6) h4]
        refine FnP.of_body tabOk Try.func194 Try.ntmps194 rfl (by decide +kernel) (by simp) rfl rfl rfl fun G hp => ?_
        refine go (r := ?_); and_intros <;> intros <;> try exact True.intro
        all_goals first | exact (h6 (by assumption)).elim | exact (h4 (by assumption)).elim | exact h | exact h.2.1 | exact h.2.2 | exact hs1.2.1 | exact hs1.2.2 | exact h6o.2.1 | exact h6o.2.2 | decide | trace_state
  ⟩
section
attribute [local irreducible] lev10D
theorem lim_map (r : List Int) : (List.range r.length).map (fun i => lim3 (r.getD i 0)) = r.map lim3 := by
  apply List.ext_getElem (by simp)
  intro i h1 h2
  simp at h1
  simp [h1]
theorem lev25_1 {l : List Int} {c : Cr} (h : (onceD l (lev10D l c).1 2).2 = true) : lev25D l c = ((onceD l (lev10D l c).1 2).1, (lev10D l c).2.map lim3) := by unfold lev25D; rw [if_pos h]
theorem lev25_0 {l : List Int} {c : Cr} (h : ¬ (onceD l (lev10D l c).1 2).2 = true) : lev25D l c = ((onceD l (lev10D l c).1 2).1, (lev10D l c).2) := by unfold lev25D; rw [if_neg h]
instance l25Levels_p : ConP 95 (∀ (v : Value) (l : List Int) (c : Cr), CrOk l c → Pn 95 v l c [] (lev25D l c).1 [XI (lev25D l c).2] (.own 1 0 0 (lev25D l c).2.length)) := ⟨fun v l c h => by
  have hs := lev10D_ok h
  have hs1 := hs.1
  have hs2 := hs.2
  by_cases h2 : (onceD l (lev10D l c).1 2).2 = true
  · rw [lev25_1 h2, List.length_map]
    refine FnP.of_body tabOk Try.func95 Try.ntmps95 rfl (by decide +kernel) (by simp) rfl rfl rfl fun G hp => ?_
    refine go (r := ?_); and_intros <;> intros <;> try exact True.intro
    all_goals first | exact tf h2 (by assumption) | exact h | exact h.2.1 | exact h.2.2 | exact hs1.2.1 | exact hs1.2.2 | decide | omega | skip
    refine WpA.loop (fun k : Nat => ⟨[(3, .own 1 0 0 (lev10D l c).2.length), (4, I k)], [CurO v (onceD l (lev10D l c).1 2).1, XI ((List.range k).map (fun i => lim3 ((lev10D l c).2.getD i 0)) ++ (lev10D l c).2.drop k)]⟩) (fun k => k ≤ (lev10D l c).2.length) (fun k => (lev10D l c).2.length - k) 0 (by omega) (go (r := ?_)) (fun k hk => ?_)
    · simp
    have hkl : ((List.range k).map (fun i => lim3 ((lev10D l c).2.getD i 0)) ++ (lev10D l c).2.drop k).length = (lev10D l c).2.length := by simp; omega
    have hms := mark_step (fun i => lim3 ((lev10D l c).2.getD i 0)) (lev10D l c).2 k
    have hgd : k < (lev10D l c).2.length → ((List.range k).map (fun i => lim3 ((lev10D l c).2.getD i 0)) ++ (lev10D l c).2.drop k).getD k 0 = (lev10D l c).2.getD k 0 := fun _ => by
      rw [List.getD_eq_getElem?_getD, List.getElem?_append_right (by simp), List.getElem?_drop]; simp
    refine go (r := ?_); and_intros <;> intros <;> try exact True.intro
    · rename_i hk1
      rw [Int.toNat_natCast, hgd (by omega)]; exact hms (by omega)
    · have ek : k = (lev10D l c).2.length := by omega
      rw [ek, lim_map, List.drop_length, List.append_nil]
  · rw [lev25_0 h2]
    refine FnP.of_body tabOk Try.func95 Try.ntmps95 rfl (by decide +kernel) (by simp) rfl rfl rfl fun G hp => ?_
    refine go (r := ?_); and_intros <;> intros <;> try exact True.intro
    all_goals first | exact (h2 (by assumption)).elim | exact h | exact h.2.1 | exact h.2.2 | exact hs1.2.1 | exact hs1.2.2 | decide | trace_state⟩
end
section
attribute [local irreducible] lev25D
theorem DrawResidualOf_p (v : Value) (l : List Int) (hl : l.length ≤ 1048576) : FnP Try.prog 35 [.sc v] [] [v] [CodA l] [] [XI (resD l).1.lens, XI (resD l).2] (.tup [HdOwn 0 (resD l).1, .own 1 0 0 (resD l).2.length]) := by
  have hn := newD_ok hl
  have ha := headAnyD_ok hn
  have hb := lev25D_ok ha.1
  unfold resD
  refine FnP.of_body tabOk Try.func35 Try.ntmps35 rfl (by decide +kernel) (by simp) rfl rfl rfl fun G hp => ?_
  refine goR (r := ?_); and_intros <;> intros <;> try exact True.intro
  refine K.call ?_
  refine WpL.callN (l1New_p v l hl) hp handA (.cons rfl (.sc (.sc (.sc .nil))) .nil) rfl rfl (by decide) ?_
  refine goR (r := ?_); and_intros <;> intros <;> try exact True.intro
  all_goals first | exact hl | exact hn.2.1 | exact hn.2.2 | exact ha.1.2.1 | exact ha.1.2.2 | skip
  apply WpA.regionSF (O := [⟨[I 0, I 0, I 0, B false, B false, .nilS], 0, 0, none⟩]) (Or := [CurO v (headAnyD l (newD l)).1, XI (headAnyD l (newD l)).2.lens, ⟨[I (headAnyD l (newD l)).2.w, I (headAnyD l (newD l)).2.h, I (headAnyD l (newD l)).2.q, B (headAnyD l (newD l)).2.b, B (headAnyD l (newD l)).2.d, .own 2 0 0 (headAnyD l (newD l)).2.lens.length], 0, 0, none⟩]) (O1 := [⟨[I 0, I 0, I 0, B false, B false, .nilS], 0, 0, none⟩, CurO v (lev25D l (headAnyD l (newD l)).1).1, XI (headAnyD l (newD l)).2.lens, ⟨[I (headAnyD l (newD l)).2.w, I (headAnyD l (newD l)).2.h, I (headAnyD l (newD l)).2.q, B (headAnyD l (newD l)).2.b, B (headAnyD l (newD l)).2.d, .own 2 0 0 (headAnyD l (newD l)).2.lens.length], 0, 0, none⟩, ⟨ints (lev25D l (headAnyD l (newD l)).1).2, 1, 1, some 3⟩, deadO]) 3 1 [1, 2] [] rfl mixed (by decide +kernel)
  · exact rfl
  · apply HeadS.consF .none rfl
    · exact rfl
    · exact rfl
    · intro Tv Ov hc hp' hd hk
      obtain ⟨A0, A1, R0, rfl⟩ := split3 (hk 2 rfl)
      exact in1
    · exact rfl
    · exact rfl
    apply HeadS.consF .none rfl
    · exact rfl
    · exact rfl
    · exact in1
    · exact rfl
    · exact rfl
    apply HeadS.consF (V := .own 4 1 0 (lev25D l (headAnyD l (newD l)).1).2.length) (.both 0 (CurO v (lev25D l (headAnyD l (newD l)).1).1) 3 ⟨ints (lev25D l (headAnyD l (newD l)).1).2, 1, 1, some 3⟩) rfl
    · exact rfl
    · exact rfl
    · intro Tv Ov hc hp' hd hk
      obtain ⟨R, rfl⟩ := split1 (hp' 0 _ rfl)
      have h3 := hp' 3 _ rfl
      refine K.call ?_
      refine K.conP (fun hcon => ?_)
      refine WpL.callP1N (A := [⟨[I 0, I 0, I 0, B false, B false, .nilS], 0, 0, none⟩]) (hcon v l (headAnyD l (newD l)).1 ha.1) hp rfl handA handOA rfl (.cons rfl (.sc (.sc (.sc .nil))) .nil) outA rfl (by decide) ?_
      apply WpL.putV (p := 3) (Ov := CurO v (lev25D l (headAnyD l (newD l)).1).1 :: R)
      · exact .own (by first | rfl | simp) .nil
      · exact h3
      · exact Nat.zero_le _
      · exact rfl
      · exact still_ints _
    · exact rfl
    · exact rfl
    exact HeadS.nil
  · exact rfl
  · exact rfl
  · exact rfl
  · exact rfl
  · exact rfl
  · exact rfl
  · exact rfl
  refine go (r := ?_); and_intros <;> intros <;> try exact True.intro
  exact FinG.tI [some 2, some 4] rfl (ResV.cell (ds := [_, _, _, _, _, _]) rfl rfl rfl rfl rfl) (ResV.tmp rfl) (.tup (.agg (.keep rfl rfl rfl (.keep rfl rfl rfl (.keep rfl rfl rfl (.keep rfl rfl rfl (.keep rfl rfl rfl (.own rfl rfl rfl rfl .nil)))))) (.own rfl rfl rfl rfl .nil)) .nil) (.obj rfl rfl (still_ints _) rfl rfl (.inr rfl) (.obj rfl rfl (still_ints _) rfl rfl (.inr rfl) .nil)) rfl rfl
end
end Go.Proofs.Ytgkeopmihhcbiaa

/- Contracts: levels placed, scaled, transformed back, rounded; residuals, by the program and by the specification. No condition. -/
namespace Go.Proofs.Ytgkeopmihhcbiaa
open Go Go.Abs
set_option linter.unusedVariables false
set_option linter.unusedSimpArgs false
set_option maxRecDepth 100000
set_option maxHeartbeats 4000000
attribute [local irreducible] WpA WpL Rnd Blk Abs.Seq Abs.Fin Abs.FinG FnC FnG Only

theorem scan_own (k : Nat) : In (scanL (side k)) 0 (((scanL (side k)).length : Int) - 1) := by
  have h := scan_rg (side k) (by unfold side; split <;> (try split) <;> simp)
  rw [h.2]; exact h.1
instance Placed_s : Con 104 (∀ l : List Int, l.length ≤ 1099511627776 → Fn 104 [IL l] [XI (plcL l)] (.own 0 0 0 (plcL l).length)) := ⟨fun l hl => by
  obtain ⟨_, hs2⟩ := scan_fit l
  have hs1 := scan_own l.length
  have hsc := side_cases l.length
  have hpl := plcL_len l
  have hle : (scanL (side l.length)).length ≤ l.length := by
    rcases hsc with ⟨h, e⟩ | ⟨h, e⟩ | ⟨_, _, e⟩
    · rw [(scan_facts (.inl h)).1]; exact Nat.le_refl _
    · rw [(scan_facts (.inr h)).1]; exact Nat.le_refl _
    · rw [e]; exact Nat.zero_le _
  refine FnC.of_body tabOk Try.func104 Try.ntmps104 rfl (by decide +kernel) (by simp) fun G => ?_
  refine go (r := ?_); and_intros <;> intros <;> try exact True.intro
  refine WpA.loop (fun k : Nat => ⟨[(0, IL l), (3, .own 0 0 0 (scanL (side l.length)).length), (4, .own 1 0 0 (scanL (side l.length)).length), (5, I k)], [XI (scanL (side l.length)), XI (plcK (scanL (side l.length)) l k)]⟩) (fun k => k ≤ (scanL (side l.length)).length) (fun k => (scanL (side l.length)).length - k) 0 (by omega) (go (r := ?_)) (fun k hk => ?_)
  · simp [plcK]
  have hln := plcK_len (scanL (side l.length)) l k
  have hg := fun h => in_get hs1 (k := k) h
  have hg2 := fun h => in_get hs1 (k := ((k : Int)).toNat) h
  refine go (r := ?_); and_intros <;> intros <;> try exact True.intro
  have e : k = (scanL (side l.length)).length := by omega
  rw [e]; rfl⟩
instance Placed_c : Con 96 (∀ l : List Int, l.length ≤ 1099511627776 → Fn 96 [IL l] [XI (plcL l)] (.own 0 0 0 (plcL l).length)) := ⟨fun l hl => by
  obtain ⟨_, hs2⟩ := scan_fit l
  have hs1 := scan_own l.length
  have hsc := side_cases l.length
  have hpl := plcL_len l
  have hle : (scanL (side l.length)).length ≤ l.length := by
    rcases hsc with ⟨h, e⟩ | ⟨h, e⟩ | ⟨_, _, e⟩
    · rw [(scan_facts (.inl h)).1]; exact Nat.le_refl _
    · rw [(scan_facts (.inr h)).1]; exact Nat.le_refl _
    · rw [e]; exact Nat.zero_le _
  refine FnC.of_body tabOk Try.func96 Try.ntmps96 rfl (by decide +kernel) (by simp) fun G => ?_
  refine go (r := ?_); and_intros <;> intros <;> try exact True.intro
  refine WpA.loop (fun k : Nat => ⟨[(0, IL l), (4, .own 1 0 0 (scanL (side l.length)).length), (14, .own 0 0 0 (scanL (side l.length)).length), (15, I (scanL (side l.length)).length), (16, I k)], [XI (scanL (side l.length)), XI (plcK (scanL (side l.length)) l k)]⟩) (fun k => k ≤ (scanL (side l.length)).length) (fun k => (scanL (side l.length)).length - k) 0 (by omega) (go (r := ?_)) (fun k hk => ?_)
  · simp [plcK]
  have hln := plcK_len (scanL (side l.length)) l k
  have hg := fun h => in_get hs1 (k := k) h
  have hg2 := fun h => in_get hs1 (k := ((k : Int)).toNat) h
  refine go (r := ?_); and_intros <;> intros <;> try exact True.intro
  have e : k = (scanL (side l.length)).length := by omega
  rw [e]; rfl⟩
instance NormAt_s : Con 206 (∀ n i : Int, (n = 0 ∨ n = 4 ∨ n = 8) ∧ 0 ≤ i ∧ i ≤ 1000 → Fn 206 [I n, I i] [] (I (normL n i))) := ⟨fun n i h => by
  obtain ⟨rfl | rfl | rfl, h0, h1⟩ := h
  · refine FnC.of_body tabOk Try.func206 Try.ntmps206 rfl (by decide +kernel) (by simp) fun G => ?_
    refine go (r := ?_); and_intros <;> intros <;> try exact True.intro
    all_goals first | rfl | (unfold normL; rw [if_neg (by omega)]; done) | trace_state
  · refine FnC.of_body tabOk Try.func206 Try.ntmps206 rfl (by decide +kernel) (by simp) fun G => ?_
    have hc : i / 4 % 2 + i % 4 % 2 = 0 ∨ i / 4 % 2 + i % 4 % 2 = 1 ∨ i / 4 % 2 + i % 4 % 2 = 2 := by omega
    refine go (r := ?_); and_intros <;> intros <;> try exact True.intro
    all_goals first | rfl | (unfold normL; rw [if_neg (by omega)]; done) | skip
    rw [normL, if_pos (by omega), if_neg (by decide)]
    rcases hc with e | e | e
    · rw [if_pos e, e]; rfl
    · rw [if_neg (by omega), if_neg (by omega), e]; rfl
    · rw [if_neg (by omega), if_pos e, e]; rfl
  · refine FnC.of_body tabOk Try.func206 Try.ntmps206 rfl (by decide +kernel) (by simp) fun G => ?_
    refine go (r := ?_); and_intros <;> intros <;> try exact True.intro
    all_goals first | rfl | (unfold normL; rw [if_neg (by omega)]; done) | (rw [normL, if_pos (by omega), if_pos rfl]; done) | trace_state⟩
instance NormAt_c : Con 197 (∀ n i : Int, (n = 0 ∨ n = 4 ∨ n = 8) ∧ 0 ≤ i ∧ i ≤ 1000 → Fn 197 [I n, I i] [] (I (normL n i))) := ⟨fun n i h => by
  obtain ⟨rfl | rfl | rfl, h0, h1⟩ := h
  · refine FnC.of_body tabOk Try.func197 Try.ntmps197 rfl (by decide +kernel) (by simp) fun G => ?_
    refine go (r := ?_); and_intros <;> intros <;> try exact True.intro
    all_goals first | rfl | (unfold normL; rw [if_neg (by omega)]; done) | trace_state
  · refine FnC.of_body tabOk Try.func197 Try.ntmps197 rfl (by decide +kernel) (by simp) fun G => ?_
    refine go (r := ?_); and_intros <;> intros <;> try exact True.intro
    all_goals first | rfl | (unfold normL; rw [if_neg (by omega)]; done) | (rw [normL, if_pos (by omega), if_neg (by decide), if_pos (by omega)]; done) | (rw [normL, if_pos (by omega), if_neg (by decide), if_neg (by omega), if_pos (by omega)]; done) | (rw [normL, if_pos (by omega), if_neg (by decide), if_neg (by omega), if_neg (by omega)]; done) | trace_state
  · refine FnC.of_body tabOk Try.func197 Try.ntmps197 rfl (by decide +kernel) (by simp) fun G => ?_
    refine go (r := ?_); and_intros <;> intros <;> try exact True.intro
    all_goals first | rfl | (unfold normL; rw [if_neg (by omega)]; done) | (rw [normL, if_pos (by omega), if_pos rfl]; done) | trace_state⟩
theorem side_048 (k : Nat) : side k = 0 ∨ side k = 4 ∨ side k = 8 := by unfold side; split <;> (try split) <;> simp
theorem sca_snoc (l : List Int) (q : Int) (k : Nat) : tabL (scaF l q) (k + 1) = tabL (scaF l q) k ++ [l.getD k 0 * stepL q * normL (side l.length) k] := by rw [tabL_snoc]; rfl
instance Scaled_s : Con 107 (∀ (l : List Int) (q : Int), l.length ≤ 1099511627776 → Fn 107 [IL l, I q] [XI (scaL l q)] (.own 0 0 0 (scaL l q).length)) := ⟨fun l q hl => by
  have hsl := stepL_pos q
  have hsd := side_048 l.length
  refine FnC.of_body tabOk Try.func107 Try.ntmps107 rfl (by decide +kernel) (by simp) fun G => ?_
  by_cases h : LvOk l ∧ 0 < stepL q
  · have h1 := h.1
    have h2 := h.2
    have hin := h.1.1
    have hlen := h.1.2
    have hs := stepL_in q (hsl.1 h.2)
    have he : scaL l q = tabL (scaF l q) l.length := by unfold scaL; rw [if_pos h]
    refine go (r := ?_); and_intros <;> intros <;> try exact True.intro
    refine WpA.loop (fun k : Nat => ⟨[(0, IL l), (1, I q), (5, .own 0 0 0 k), (6, I k)], [XI (tabL (scaF l q) k)]⟩) (fun k => k ≤ l.length) (fun k => l.length - k) 0 (by omega) (go (r := ?_)) (fun k hk => ?_)
    · simp [tabL]
    have hlk := tabL_len (scaF l q) k
    have b1 := sca1_bd hin q k
    have b2 := scaF_bd hin q k
    have b3 := in_getZ (c := 16383) hin (by decide) k
    have b4 := normL_bd (side l.length) k
    unfold scaF at b2
    have hsn := sca_snoc l q k
    refine go (r := ?_); and_intros <;> intros <;> try exact True.intro
    all_goals first | (rw [hsn]; done) | skip
    all_goals have e : k = l.length := by omega
    all_goals subst e
    · rw [he, tabL_len]
    · rw [he]
  · have e : scaL l q = [] := by unfold scaL; rw [if_neg h]
    refine go (r := ?_); and_intros <;> intros <;> try exact True.intro
    refine WpA.loop (fun k : Nat => ⟨[(0, IL l), (1, I q), (5, .own 0 0 0 0), (6, I 0)], [XI []]⟩) (fun k => k ≤ 0) (fun k => l.length - k) 0 (by omega) (go (r := trivial)) (fun k hk => ?_)
    have hx : LvOk l → ¬ 0 < stepL q := fun a b => h ⟨a, b⟩
    by_cases h1 : LvOk l
    · have h2 := hx h1
      refine go (r := ?_); and_intros <;> intros <;> try exact True.intro
      all_goals first | (rw [e]; done) | (rw [e]; rfl) | trace_state
    · refine go (r := ?_); and_intros <;> intros <;> try exact True.intro
      all_goals first | (rw [e]; done) | (rw [e]; rfl) | trace_state⟩
instance Scaled_c : Con 97 (∀ (l : List Int) (q : Int), l.length ≤ 1099511627776 → Fn 97 [IL l, I q] [XI (scaL l q)] (.own 0 0 0 (scaL l q).length)) := ⟨fun l q hl => by
  have hsl := stepL_pos q
  have hsd := side_048 l.length
  have hsn : ¬ 0 < stepL q → stepL q = 0 := fun hh => by have := (stepL_bd q).1; omega
  refine FnC.of_body tabOk Try.func97 Try.ntmps97 rfl (by decide +kernel) (by simp) fun G => ?_
  by_cases h : LvOk l ∧ 0 < stepL q
  · have h1 := h.1
    have h2 := h.2
    have hin := h.1.1
    have hlen := h.1.2
    have hs := stepL_in q (hsl.1 h.2)
    have he : scaL l q = tabL (scaF l q) l.length := by unfold scaL; rw [if_pos h]
    refine go (r := ?_); and_intros <;> intros <;> try exact True.intro
    refine WpA.loop (fun k : Nat => ⟨[(0, IL l), (1, I q), (5, .own 0 0 0 k), (17, IL l), (18, I l.length), (19, I k)], [XI (tabL (scaF l q) k)]⟩) (fun k => k ≤ l.length) (fun k => l.length - k) 0 (by omega) (go (r := ?_)) (fun k hk => ?_)
    · simp [tabL]
    have hlk := tabL_len (scaF l q) k
    have b1 := sca1_bd hin q k
    have b2 := scaF_bd hin q k
    have b3 := in_getZ (c := 16383) hin (by decide) k
    have b4 := normL_bd (side l.length) k
    unfold scaF at b2
    have hsn := sca_snoc l q k
    refine go (r := ?_); and_intros <;> intros <;> try exact True.intro
    all_goals first | (rw [hsn]; done) | skip
    all_goals have e : k = l.length := by omega
    all_goals subst e
    · rw [he, tabL_len]
    · rw [he]
  · have e : scaL l q = [] := by unfold scaL; rw [if_neg h]
    by_cases h1 : LvOk l
    · have h2 : stepL q = 0 := hsn (fun hh => h ⟨h1, hh⟩)
      refine go (r := ?_); and_intros <;> intros <;> try exact True.intro
      all_goals first | (rw [e]; done) | (rw [e]; rfl) | trace_state
    · refine go (r := ?_); and_intros <;> intros <;> try exact True.intro
      all_goals first | (rw [e]; done) | (rw [e]; rfl) | trace_state⟩
abbrev Flo (v d : Int) : Prop := (-2000000000000 ≤ v ∧ v ≤ 2000000000000) ∧ 1 ≤ d ∧ d ≤ 2000
theorem flo_bd {v d : Int} (h : Flo v d) : -2000000000000 ≤ v / d ∧ v / d ≤ 2000000000000 := by
  obtain ⟨⟨h1, h2⟩, h3, h4⟩ := h
  constructor
  · exact Int.le_ediv_of_mul_le (by omega) (by omega)
  · rcases Int.lt_or_le v 0 with h | h
    · have := Int.ediv_neg_of_neg_of_pos h (show 0 < d by omega); omega
    · have := Int.ediv_le_self d h; omega
instance l12Floor_s : Con 204 (∀ v d : Int, Flo v d → Fn 204 [I v, I d] [] (I (v / d))) := ⟨fun v d h => by
  have hb := flo_bd h
  by_cases hv : v < 0
  · have he := floor_neg hv (show 0 < d by omega)
    refine FnC.of_body tabOk Try.func204 Try.ntmps204 rfl (by decide +kernel) (by simp) fun G => ?_
    refine go (r := ?_); and_intros <;> intros <;> try exact True.intro
    all_goals first | exact he | exact he.symm | trace_state
  · refine FnC.of_body tabOk Try.func204 Try.ntmps204 rfl (by decide +kernel) (by simp) fun G => ?_
    refine go (r := ?_); and_intros <;> intros <;> try exact True.intro
    all_goals trace_state⟩
theorem flo_t {v d : Int} (h : Flo v d) (hv : v < 0) : -2000000000000 ≤ v.tdiv d ∧ v.tdiv d ≤ 0 := by
  have h0 : (-v).tdiv d = -(v.tdiv d) := Int.neg_tdiv ..
  have h1 := Int.tdiv_eq_ediv_of_nonneg (a := -v) (b := d) (by omega)
  have h2 := Int.ediv_le_self d (show 0 ≤ -v by omega)
  have h3 := Int.ediv_nonneg (show 0 ≤ -v by omega) (show 0 ≤ d by omega)
  omega
instance floorDiv_c : Con 198 (∀ v d : Int, Flo v d → Fn 198 [I v, I d] [] (I (v / d))) := ⟨fun v d h => by
  have hb := flo_bd h
  have he := floor_t (a := v) (b := d) (by omega)
  by_cases hv : v < 0
  · have ht := flo_t h hv
    refine FnC.of_body tabOk Try.func198 Try.ntmps198 rfl (by decide +kernel) (by simp) fun G => ?_
    refine go (r := ?_); and_intros <;> intros <;> try exact True.intro
    refine WpL.quoT rfl rfl (by omega) (by decide) ?_
    refine go (r := ?_); and_intros <;> intros <;> try exact True.intro
    refine WpL.remT rfl rfl (by omega) (by decide) ?_
    by_cases hr : v.tmod d < 0
    · rw [if_pos hr] at he
      refine go (r := ?_); and_intros <;> intros <;> try exact True.intro
      all_goals first | exact he | exact he.symm | contradiction | omega | trace_state
    · rw [if_neg hr] at he
      refine go (r := ?_); and_intros <;> intros <;> try exact True.intro
      all_goals first | exact he | exact he.symm | contradiction | omega | trace_state
  · refine FnC.of_body tabOk Try.func198 Try.ntmps198 rfl (by decide +kernel) (by simp) fun G => ?_
    have h0 := Int.emod_nonneg v (show d ≠ 0 by omega)
    refine go (r := ?_); and_intros <;> intros <;> try exact True.intro
    all_goals trace_state⟩
end Go.Proofs.Ytgkeopmihhcbiaa

/- Contracts: what is rounded, the matrix turned, the transforms back, residuals. No condition. -/
namespace Go.Proofs.Ytgkeopmihhcbiaa
open Go Go.Abs
set_option linter.unusedVariables false
set_option linter.unusedSimpArgs false
set_option maxRecDepth 100000
set_option maxHeartbeats 4000000
attribute [local irreducible] WpA WpL Rnd Blk Abs.Seq Abs.Fin Abs.FinG FnC FnG Only

theorem rnd_snoc (f : Int → Int) (l : List Int) (k : Nat) (h : k < l.length) : (l.take k).map f ++ [f (l.getD k 0)] = (l.take (k + 1)).map f := qz_snoc f l k h
instance Rounded_s : Con 105 (∀ (l : List Int), l.length ≤ 1099511627776 → Fn 105 [IL l] [XI (rndL l)] (.own 0 0 0 (rndL l).length)) := ⟨fun l hl => by
  have hsd := side_cases l.length
  refine FnC.of_body tabOk Try.func105 Try.ntmps105 rfl (by decide +kernel) (by simp) fun G => ?_
  by_cases h : 0 < side l.length
  · have he : rndL l = l.map (rnd1 l.length) := by unfold rndL; rw [if_pos h]
    by_cases h16 : l.length = 16
    · refine go (r := ?_); and_intros <;> intros <;> try exact True.intro
      refine WpA.loop (fun k : Nat => ⟨[(0, IL l), (3, .own 0 0 0 k), (4, I k)], [XI ((l.take k).map (rnd1 l.length))]⟩) (fun k => k ≤ l.length) (fun k => l.length - k) 0 (by omega) (go (r := ?_)) (fun k hk => ?_)
      · simp
      have hlk : ((l.take k).map (rnd1 l.length)).length = k := by simp; omega
      have hsn := rnd_snoc (rnd1 l.length) l k
      have e1 : rnd1 l.length (l.getD k 0) = (max (-1000000000000) (min 1000000000000 (l.getD k 0)) + 800) / 1600 := by unfold rnd1; rw [if_pos h16]
      refine go (r := ?_); and_intros <;> intros <;> try exact True.intro
      all_goals first | (rw [← hsn (by omega), e1]; done) | (rw [← hsn (by omega), e1]; rfl) | skip
      all_goals have e : k = l.length := by omega
      all_goals subst e
      · rw [he, List.length_map]
      · rw [he, List.take_length]
    · refine go (r := ?_); and_intros <;> intros <;> try exact True.intro
      refine WpA.loop (fun k : Nat => ⟨[(0, IL l), (3, .own 0 0 0 k), (4, I k)], [XI ((l.take k).map (rnd1 l.length))]⟩) (fun k => k ≤ l.length) (fun k => l.length - k) 0 (by omega) (go (r := ?_)) (fun k hk => ?_)
      · simp
      have hlk : ((l.take k).map (rnd1 l.length)).length = k := by simp; omega
      have hsn := rnd_snoc (rnd1 l.length) l k
      have e1 : rnd1 l.length (l.getD k 0) = (max (-1000000000000) (min 1000000000000 (l.getD k 0)) + 32) / 64 := by unfold rnd1; rw [if_neg h16]
      refine go (r := ?_); and_intros <;> intros <;> try exact True.intro
      all_goals first | (rw [← hsn (by omega), e1]; done) | (rw [← hsn (by omega), e1]; rfl) | skip
      all_goals have e : k = l.length := by omega
      all_goals subst e
      · rw [he, List.length_map]
      · rw [he, List.take_length]
  · have e : rndL l = [] := by unfold rndL; rw [if_neg h]
    refine go (r := ?_); and_intros <;> intros <;> try exact True.intro
    refine WpA.loop (fun k : Nat => ⟨[(0, IL l), (3, .own 0 0 0 0), (4, I 0)], [XI []]⟩) (fun k => k ≤ 0) (fun k => l.length - k) 0 (by omega) (go (r := trivial)) (fun k hk => ?_)
    refine go (r := ?_); and_intros <;> intros <;> try exact True.intro
    all_goals first | (rw [e]; done) | (rw [e]; rfl) | trace_state⟩
instance Rounded_c : Con 99 (∀ (l : List Int), l.length ≤ 1099511627776 → Fn 99 [IL l] [XI (rndL l)] (.own 0 0 0 (rndL l).length)) := ⟨fun l hl => by
  have hsd := side_cases l.length
  refine FnC.of_body tabOk Try.func99 Try.ntmps99 rfl (by decide +kernel) (by simp) fun G => ?_
  by_cases h : 0 < side l.length
  · have he : rndL l = l.map (rnd1 l.length) := by unfold rndL; rw [if_pos h]
    by_cases h16 : l.length = 16
    · have e4 : side l.length = 4 := by omega
      refine go (r := ?_); and_intros <;> intros <;> try exact True.intro
      refine WpA.loop (fun k : Nat => ⟨[(3, I 1600), (4, .own 0 0 0 k), (15, IL l), (16, I l.length), (17, I k)], [XI ((l.take k).map (rnd1 l.length))]⟩) (fun k => k ≤ l.length) (fun k => l.length - k) 0 (by omega) (go (r := ?_)) (fun k hk => ?_)
      · simp
      have hlk : ((l.take k).map (rnd1 l.length)).length = k := by simp; omega
      have hsn := rnd_snoc (rnd1 l.length) l k
      have e1 : rnd1 l.length (l.getD k 0) = (max (-1000000000000) (min (l.getD k 0) 1000000000000) + 800) / 1600 := by unfold rnd1; rw [if_pos h16, Int.min_comm]
      refine go (r := ?_); and_intros <;> intros <;> try exact True.intro
      all_goals first | (rw [← hsn (by omega), e1]; done) | (rw [← hsn (by omega), e1]; rfl) | skip
      all_goals have e : k = l.length := by omega
      all_goals subst e
      · rw [he, List.length_map]
      · rw [he, List.take_length]
    · have e8 : side l.length = 8 := by omega
      refine go (r := ?_); and_intros <;> intros <;> try exact True.intro
      refine WpA.loop (fun k : Nat => ⟨[(3, I 64), (4, .own 0 0 0 k), (15, IL l), (16, I l.length), (17, I k)], [XI ((l.take k).map (rnd1 l.length))]⟩) (fun k => k ≤ l.length) (fun k => l.length - k) 0 (by omega) (go (r := ?_)) (fun k hk => ?_)
      · simp
      have hlk : ((l.take k).map (rnd1 l.length)).length = k := by simp; omega
      have hsn := rnd_snoc (rnd1 l.length) l k
      have e1 : rnd1 l.length (l.getD k 0) = (max (-1000000000000) (min (l.getD k 0) 1000000000000) + 32) / 64 := by unfold rnd1; rw [if_neg h16, Int.min_comm]
      refine go (r := ?_); and_intros <;> intros <;> try exact True.intro
      all_goals first | (rw [← hsn (by omega), e1]; done) | (rw [← hsn (by omega), e1]; rfl) | skip
      all_goals have e : k = l.length := by omega
      all_goals subst e
      · rw [he, List.length_map]
      · rw [he, List.take_length]
  · have e : rndL l = [] := by unfold rndL; rw [if_neg h]
    have e0 : side l.length = 0 := by omega
    refine go (r := ?_); and_intros <;> intros <;> try exact True.intro
    all_goals first | (rw [e]; done) | (rw [e]; rfl) | trace_state⟩

/-! The matrix turned. -/
def tA (r k : Nat) : Int := mx 4 k r
def T4 : List (List Int) := (List.range 4).map fun r => tabL (tA r) 4
def cellsT (r : Nat) : List AV := (List.range 4).map fun q => if q < r then .fre 1 4 (ints (tabL (tA q) 4)) else .nilS
def invT (r : Nat) : Nat → List AObj
  | 0 => [⟨(cellsT r).set r .nilS, 0, 1, some 44⟩]
  | k + 1 => [⟨(cellsT r).set r (.own 2 0 0 (k + 1)), 0, 1, some 44⟩, ⟨[.any], 0, 1, none⟩, XI (tabL (tA r) (k + 1))]
theorem cellsT_nil {r : Nat} (h : r < 4) : cellsT r = (cellsT r).set r .nilS := by
  rcases (by omega : r = 0 ∨ r = 1 ∨ r = 2 ∨ r = 3) with rfl | rfl | rfl | rfl <;> rfl
theorem cellsT_succ {r : Nat} (h : r < 4) (X : AV) : ((cellsT r).set r X).set r (.fre 1 4 (ints (tabL (tA r) 4))) = cellsT (r + 1) := by
  rcases (by omega : r = 0 ∨ r = 1 ∨ r = 2 ∨ r = 3) with rfl | rfl | rfl | rfl <;> rfl
theorem tnest {r : Nat} (h : r < 4) : flatO [⟨((cellsT r).set r (.own 2 0 0 4)).set r (.fre 1 4 (ints (tabL (tA r) 4))), 0, 1, some 44⟩, ⟨[.any], 0, 1, none⟩, ⟨[], 1, 0, none⟩] = some [⟨cellsT (r + 1), 0, 1, some 44⟩, ⟨[.any], 0, 1, none⟩, ⟨[], 1, 0, none⟩] := by
  rw [cellsT_succ h]; rfl
theorem cellsT_still (r : Nat) : (cellsT r).all AV.still = true := by
  rw [List.all_eq_true]; intro V hV; simp only [cellsT, List.mem_map] at hV; obtain ⟨q, _, rfl⟩ := hV
  split <;> rfl
theorem cellsT_len (r : Nat) : (cellsT r).length = 4 := by simp [cellsT]
theorem cellsT_4 : cellsT 4 = rows liF T4 := rfl
theorem cellsT_0 : cellsT 0 = [.nilS, .nilS, .nilS, .nilS] := rfl
section
attribute [local irreducible] cellsT
instance turned_c : Con 200 (Fn 200 [LLn 4 A4] [⟨rows liF T4, 0, 1, some 44⟩] (.own 0 0 0 4)) := ⟨by
  refine FnC.of_body tabOk Try.func200 Try.ntmps200 rfl (by decide +kernel) (by simp) fun G => ?_
  refine K.A ?_
  refine WpA.seq ?_
  refine WpA.regionF rfl ?_
  refine WpL.assign rfl (by decide) ?_
  refine WpL.nil ?_
  refine Abs.Seq.n ?_
  refine WpA.seq ?_
  refine WpA.regionF rfl ?_
  refine WpL.move rfl (by decide) ?_
  refine WpL.lenImm (TabOk.slice tabOk rfl).1 rfl (by decide) ?_
  refine WpL.make tabOk rfl rfl rfl (by decide) (by decide) rfl (by decide) ?_
  refine go (r := ?_); and_intros <;> intros <;> try exact True.intro
  refine WpA.loop (fun r : Nat => ⟨[(0, LLn 4 A4), (3, .own 0 0 0 4), (10, I 4), (11, I r)], [⟨cellsT r, 0, 1, some 44⟩]⟩) (fun r => r ≤ 4) (fun r => 4 - r) 0 (by omega) (go (r := ?_)) (fun r hr => ?_)
  · and_intros <;> first | trivial | rfl | exact .nil | exact .inr rfl | exact Re.same cellsT_0.symm (cellsT_still 0) | trace_state
  by_cases h8 : r = 4
  · subst h8
    refine go (r := ?_); and_intros <;> intros <;> try exact True.intro
    all_goals first | exact cellsT_4 | trace_state
  have hr8 : r < 4 := by omega
  have hcl := cellsT_len r
  have hst := cellsT_still r
  have hc0 := cellsT_nil hr8
  refine go (r := ?_); and_intros <;> intros <;> try exact True.intro
  refine WpA.loop (fun k : Nat => ⟨[(0, LLn 4 A4), (3, .own 0 0 0 4), (4, I r), (10, I 4), (11, I r), (15, I 4), (16, I k)], invT r k⟩) (fun k => k ≤ 4) (fun k => 4 - k) 0 (by omega) (go (r := ?_)) (fun k hk => ?_)
  · and_intros <;> first | trivial | rfl | exact .nil | exact .inr rfl | (exact hc0) | exact Re.same hc0 (by rw [← hc0]; exact hst) | trace_state
  by_cases hk8 : k = 4
  · subst hk8
    refine WpA.weak (NestC.weak (id := 0) (offs := [r]) (O2 := [⟨cellsT (r + 1), 0, 1, some 44⟩, ⟨[.any], 0, 1, none⟩, ⟨[], 1, 0, none⟩]) ?_) ?_
    · apply NestC.cons (off := r) (j := 2) (O1 := [⟨cellsT (r + 1), 0, 1, some 44⟩, ⟨[.any], 0, 1, none⟩, ⟨[], 1, 0, none⟩])
      · exact rfl
      · exact List.getElem?_set_self (by omega)
      · exact rfl
      · exact rfl
      · decide
      · exact rfl
      · exact still_ints _
      · exact rfl
      · exact tnest hr8
      · exact .nil
    have hst1 := cellsT_still (r + 1)
    refine go (r := ?_); and_intros <;> intros <;> try exact True.intro
    all_goals first | exact Re.same rfl hst1 | trace_state
  have hA := A4_ok.2.1 k (by omega)
  have hkl := tabL_len (tA r) k
  have hval : (A4.getD k default).getD r 0 = tA r k := rfl
  have hA2 : (A4.getD ((k : Nat) : Int).toNat default).length = 4 := hA
  have hAl : A4.length = 4 := rfl
  have hval2 : (A4.getD ((k : Nat) : Int).toNat default).getD ((r : Nat) : Int).toNat 0 = tA r k := rfl
  rcases k with _ | k
  · refine go (r := ?_); and_intros <;> intros <;> try exact True.intro
    all_goals first | exact Re.any Re.nil | exact .inl rfl | (rw [hval]; rfl) | (rw [hval2]; rfl) | (apply Re.setA (c := cellsT r) (V := .own 2 _ 0 _) (V' := .own 2 _ 0 _); (· apply Re.own (id := 2) <;> first | exact rfl | exact .nil); exact hst) | exact Re.same rfl hst | trace_state
  · refine go (r := ?_); and_intros <;> intros <;> try exact True.intro
    all_goals first | (rw [tabL_snoc _ (k + 1), hval]; done) | (rw [tabL_snoc _ (k + 1), hval2]; done) | (rw [tabL_snoc _ (k + 1), ← hval2]; rfl) | exact Re.any Re.nil | (apply Re.setA (c := cellsT r) (V := .own 2 _ 0 _) (V' := .own 2 _ 0 _); (· apply Re.own (id := 2) <;> first | exact rfl | exact .nil); exact hst) | trace_state⟩
end
end Go.Proofs.Ytgkeopmihhcbiaa

/- Contracts: the transforms back, residuals. No condition. -/
namespace Go.Proofs.Ytgkeopmihhcbiaa
open Go Go.Abs
set_option linter.unusedVariables false
set_option linter.unusedSimpArgs false
set_option maxRecDepth 100000
set_option maxHeartbeats 4000000
attribute [local irreducible] WpA WpL Rnd Blk Abs.Seq Abs.Fin Abs.FinG FnC FnG Only

theorem T4_row {r : Nat} (h : r < 4) : T4.getD r default = tabL (tA r) 4 := by simp [T4, h]
theorem gOf_T4 {r i : Nat} (h : r < 4) (h2 : i < 4) : gOf T4 r i = mx 4 i r := by rw [gOf, T4_row h, tabL_get h2]; rfl
theorem T4_ok : MatOk 4 T4 := by
  refine ⟨by simp [T4], fun r hr => by rw [T4_row hr, tabL_len], fun r i => ?_⟩
  by_cases h : r < 4
  · by_cases h2 : i < 4
    · rw [gOf_T4 h h2]; exact mx_val 4 i r
    · right; right; left
      rw [gOf, T4_row h, List.getD_eq_getElem?_getD, List.getElem?_eq_none (by rw [tabL_len]; omega)]; rfl
  · right; right; left
    have : T4.getD r default = [] := by rw [List.getD_eq_getElem?_getD, List.getElem?_eq_none (by simp [T4]; omega)]; rfl
    rw [gOf, this]; rfl
theorem trT4 (l : List Int) : prodL 4 (gOf T4) l = trL 4 true l := prodL_congr (by decide) fun r i hr hi => gOf_T4 hr hi
theorem trH8b (l : List Int) : prodL 8 (gOf H8) l = trL 8 true l := prodL_congr (by decide) fun r i hr hi => by
  rw [gOf_H8 hr hi]
  show par (r &&& i) = par (i &&& r)
  rw [Nat.and_comm]
instance Inverse4_c : Con 100 (∀ l : List Int, l.length ≤ 1099511627776 → Fn 100 [IL l] [XI (trL 4 true l)] (.own 0 0 0 (trL 4 true l).length)) := ⟨fun l h => by
  have hA := T4_ok
  rw [← trT4]
  refine FnC.of_body tabOk Try.func100 Try.ntmps100 rfl (by decide +kernel) (by simp) fun G => ?_
  refine go (r := ?_); and_intros <;> intros <;> try exact True.intro
  refine K.call ?_
  refine K.con (fun hcon => ?_)
  refine WpL.callF (hcon 4 T4 l ⟨by decide, hA, h⟩) snapA locA outA rfl rfl rfl (by decide) ?_
  refine go (r := ?_); and_intros <;> intros <;> try exact True.intro⟩
instance Inverse8_c : Con 101 (∀ l : List Int, l.length ≤ 1099511627776 → Fn 101 [IL l] [XI (trL 8 true l)] (.own 0 0 0 (trL 8 true l).length)) := ⟨fun l h => by
  have hA := H8_ok
  rw [← trH8b]
  refine FnC.of_body tabOk Try.func101 Try.ntmps101 rfl (by decide +kernel) (by simp) fun G => ?_
  refine go (r := ?_); and_intros <;> intros <;> try exact True.intro
  refine K.call ?_
  refine K.con (fun hcon => ?_)
  refine WpL.callF (hcon 8 H8 l ⟨by decide, hA, h⟩) snapA locA outA rfl rfl rfl (by decide) ?_
  refine go (r := ?_); and_intros <;> intros <;> try exact True.intro⟩

/-! Residuals. -/
theorem resL_b {q : Int} {l : List Int} (h : LvOk l ∧ 0 < stepL q) : resL true q l = plcL l := by unfold resL; rw [if_pos h, if_pos rfl]
theorem resL_t {q : Int} {l : List Int} (h : LvOk l ∧ 0 < stepL q) : resL false q l = rndL (trL (side l.length) true (scaL (plcL l) q)) := by unfold resL; rw [if_pos h, if_neg (by decide)]
theorem resL_n {b : Bool} {q : Int} {l : List Int} (h : ¬ (LvOk l ∧ 0 < stepL q)) : resL b q l = [] := by unfold resL; rw [if_neg h]
theorem trLe4 (b : Bool) (l : List Int) : (trL 4 b l).length ≤ 64 := trL_le (by decide)
theorem trLe8 (b : Bool) (l : List Int) : (trL 8 b l).length ≤ 64 := trL_le (by decide)
instance ResidualOf_s : Con 39 (∀ (w h q : Int) (b d : Bool) (lens l : List Int), l.length ≤ 1099511627776 → Fn 39 [HdA w h q b d lens, IL l] [XI (resL b q l)] (.own 0 0 0 (resL b q l).length)) := ⟨fun w h q b d lens l hl => by
  have hsl := stepL_pos q
  by_cases hok : LvOk l ∧ 0 < stepL q
  · have h1 := hok.1
    have h2 := hok.2
    have hlen := hok.1.2
    have hp := plcL_len2 hlen
    have hsc := scaL_len (plcL l) q
    have hs : (scaL (plcL l) q).length ≤ 64 := by split at hsc <;> omega
    have t4 := trLe4 true (scaL (plcL l) q)
    have t8 := trLe8 true (scaL (plcL l) q)
    cases b with
    | true =>
      rw [resL_b hok]
      refine FnC.of_body tabOk Try.func39 Try.ntmps39 rfl (by decide +kernel) (by simp) fun G => ?_
      refine go (r := ?_); and_intros <;> intros <;> try exact True.intro
      all_goals trace_state
    | false =>
      rw [resL_t hok]
      rcases hlen with e | e
      · have e4 : side l.length = 4 := by rw [e]; rfl
        rw [e4]
        refine FnC.of_body tabOk Try.func39 Try.ntmps39 rfl (by decide +kernel) (by simp) fun G => ?_
        refine go (r := ?_); and_intros <;> intros <;> try exact True.intro
        all_goals trace_state
      · have e8 : side l.length = 8 := by rw [e]; rfl
        rw [e8]
        refine FnC.of_body tabOk Try.func39 Try.ntmps39 rfl (by decide +kernel) (by simp) fun G => ?_
        refine go (r := ?_); and_intros <;> intros <;> try exact True.intro
        all_goals trace_state
  · rw [resL_n hok]
    refine FnC.of_body tabOk Try.func39 Try.ntmps39 rfl (by decide +kernel) (by simp) fun G => ?_
    have hx : LvOk l → ¬ 0 < stepL q := fun a b => hok ⟨a, b⟩
    have hsn : ¬ 0 < stepL q → stepL q = 0 := fun hh => by have := (stepL_bd q).1; omega
    by_cases h1 : LvOk l
    · have h2 := hsn (hx h1)
      refine go (r := ?_); and_intros <;> intros <;> try exact True.intro
      all_goals trace_state
    · refine go (r := ?_); and_intros <;> intros <;> try exact True.intro
      all_goals trace_state⟩
instance ResidualOf_c : Con 36 (∀ (w h q : Int) (b d : Bool) (lens l : List Int), l.length ≤ 1099511627776 → Fn 36 [HdA w h q b d lens, IL l] [XI (resL b q l)] (.own 0 0 0 (resL b q l).length)) := ⟨fun w h q b d lens l hl => by
  have hsl := stepL_pos q
  by_cases hok : LvOk l ∧ 0 < stepL q
  · have h1 := hok.1
    have h2 := hok.2
    have h3 := hsl.1 h2
    have hlen := hok.1.2
    have hp := plcL_len2 hlen
    have hsc := scaL_len (plcL l) q
    rw [if_pos ⟨plcL_ok h1, h2⟩, hp] at hsc
    have t4 := trLe4 true (scaL (plcL l) q)
    have t8 := trLe8 true (scaL (plcL l) q)
    cases b with
    | true =>
      rw [resL_b hok]
      refine FnC.of_body tabOk Try.func36 Try.ntmps36 rfl (by decide +kernel) (by simp) fun G => ?_
      refine go (r := ?_); and_intros <;> intros <;> try exact True.intro
      all_goals trace_state
    | false =>
      rw [resL_t hok]
      rcases hlen with e | e
      · have e4 : side l.length = 4 := by rw [e]; rfl
        have e5 : side (scaL (plcL l) q).length = 4 := by rw [hsc]; exact e4
        rw [e4]
        refine FnC.of_body tabOk Try.func36 Try.ntmps36 rfl (by decide +kernel) (by simp) fun G => ?_
        refine go (r := ?_); and_intros <;> intros <;> try exact True.intro
        all_goals trace_state
      · have e8 : side l.length = 8 := by rw [e]; rfl
        have e5 : side (scaL (plcL l) q).length = 8 := by rw [hsc]; exact e8
        rw [e8]
        refine FnC.of_body tabOk Try.func36 Try.ntmps36 rfl (by decide +kernel) (by simp) fun G => ?_
        refine go (r := ?_); and_intros <;> intros <;> try exact True.intro
        all_goals trace_state
  · rw [resL_n hok]
    refine FnC.of_body tabOk Try.func36 Try.ntmps36 rfl (by decide +kernel) (by simp) fun G => ?_
    have hx : LvOk l → ¬ (0 ≤ q ∧ q ≤ 51) := fun a b => hok ⟨a, hsl.2 b⟩
    by_cases h1 : LvOk l
    · have h2 := hx h1
      refine go (r := ?_); and_intros <;> intros <;> try exact True.intro
      all_goals trace_state
    · refine go (r := ?_); and_intros <;> intros <;> try exact True.intro
      all_goals trace_state⟩
instance FastResidual_c : Con 37 (∀ (w h q : Int) (b d : Bool) (lens l : List Int), l.length ≤ 1099511627776 → Fn 37 [HdA w h q b d lens, IL l] [XI (resL b q l)] (.own 0 0 0 (resL b q l).length)) := ⟨fun w h q b d lens l hl => by
  refine FnC.of_body tabOk Try.func37 Try.ntmps37 rfl (by decide +kernel) (by simp) fun G => ?_
  refine go (r := ?_); and_intros <;> intros <;> try exact True.intro
  all_goals trace_state⟩
end Go.Proofs.Ytgkeopmihhcbiaa
