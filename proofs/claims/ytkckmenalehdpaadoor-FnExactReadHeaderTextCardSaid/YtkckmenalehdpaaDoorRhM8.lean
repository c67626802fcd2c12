/- Proved in this text: lemmas and contracts of functions that the claim uses (parts: AbsEq, AbsFl, AbsYr, AbsYs, TxG, RhI, RhJ, RhS, Lw, Ln, RhX, Bridge). No condition. -/
import Derived.Test.YtkckmenalehdpaaDoorRhM4
import Derived.Laws.StructEq
import Derived.Test.YtkckmenalehdpaaDoorRhM5
import Derived.Test.YtkckmenalehdpaaDoorRhM7
import Derived.Test.YtkckmenalehdpaaDoorRhM6
import Derived.Test.YtkckmenalehdpaaDoorRhM2
import Derived.Below
set_option linter.unusedVariables false
set_option linter.unusedSimpArgs false
set_option maxRecDepth 100000
set_option maxHeartbeats 4000000


namespace Go.Abs
open Go
section
variable {P : Program} {n m : Nat} {G : Ctx} {T : List (Nat × AV)} {O : List AObj} {Q : Exit → St → Prop} {md : Bool} {ops : Array Oper} {l : List Oper} {d : Nat} {tt : TypeId} {pos : String} {after : Array Edge}
end
end Go.Abs


namespace Go.Abs
open Go
inductive Rf (k j e : Nat) : List AV → List AV → Prop
  | nil : Rf k j e [] []
  | keep {V vs us} : V.still = true → V.nofre = true → Rf k j e vs us → Rf k j e (V :: vs) (V :: us)
  | own {k' off len vs us} : k' = k → Rf k j e vs us → Rf k j e (.own k' 0 off len :: vs) (.own j e off len :: us)
  | ptr {k' off vs us} : k' = k → Rf k j e vs us → Rf k j e (.ptr k' 0 off :: vs) (.ptr j e off :: us)
  | agg {ds es vs us} : Rf k j e ds es → Rf k j e vs us → Rf k j e (.agg ds :: vs) (.agg es :: us)
  | tup {ds es vs us} : Rf k j e ds es → Rf k j e vs us → Rf k j e (.tup ds :: vs) (.tup es :: us)
theorem Rf.rel {k j e : Nat} {S w} {ι ι' : Nat → Spot} {O O' : List AObj} {ob ob' : AObj} (ho : O[k]? = some ob) (ho' : O'[j]? = some ob') (he : ob.ep = 0) (he' : ob'.ep = e) (hsz : ob'.size = ob.size) (hι : ι' j = ι k) {vs us : List AV} (h : Rf k j e vs us) : ∀ {xs}, LRel S w ι O vs xs [] → LRel S w ι' O' us xs [] := by
  induction h with
  | nil => intro xs hl; cases hl; exact .nil
  | keep hs hn _ ih =>
    intro xs hl
    obtain ⟨v, vs', f1, f2, rfl, hv, hr, hf⟩ := hl.uncons
    obtain ⟨rfl, rfl⟩ : f1 = [] ∧ f2 = [] := by simpa using hf
    exact LRel.cons (still_any hv hs O' (fun _ h => h) (fun _ _ => rfl) (fun _ _ => rfl)) (ih hr)
  | own hk _ ih =>
    intro xs hl
    subst hk
    cases hl with
    | own q1 q2 q3 r =>
      rw [ho] at q1; cases q1
      exact .own ho' (by omega) (fun _ => by rw [hsz, hι]; exact q3 he.symm) (ih r)
  | ptr hk _ ih =>
    intro xs hl
    subst hk
    cases hl with
    | ptr q1 q2 q3 r =>
      rw [ho] at q1; cases q1
      exact .ptr ho' (by omega) (fun _ => by rw [hι]; exact q3 he.symm) (ih r)
  | agg _ _ ih1 ih2 =>
    intro xs hl
    obtain ⟨v, vs', f1, f2, rfl, hv, hr, hf⟩ := hl.uncons
    obtain ⟨rfl, rfl⟩ : f1 = [] ∧ f2 = [] := by simpa using hf
    obtain ⟨us', rfl, ha⟩ := LRel.agg_inv hv
    simpa using LRel.agg (ih1 ha) (ih2 hr)
  | tup _ _ ih1 ih2 =>
    intro xs hl
    obtain ⟨v, vs', f1, f2, rfl, hv, hr, hf⟩ := hl.uncons
    obtain ⟨rfl, rfl⟩ : f1 = [] ∧ f2 = [] := by simpa using hf
    obtain ⟨us', rfl, ha⟩ := LRel.tup_inv hv
    simpa using LRel.tup (ih1 ha) (ih2 hr)
section
variable {P : Program} {n m : Nat} {G : Ctx} {O : List AObj} {Q : Exit → St → Prop} {ops : Array Oper}
end
end Go.Abs


namespace Go.Abs
open Go
inductive HeadR (P : Program) (n m : Nat) (G : Ctx) (ops : Array Oper) (T0 : List (Nat × AV)) (O Oi : List AObj) (keep sh : List Nat) : List (Nat × AV) → List Fil → List Oper → List (Nat × AV) → List Fil → Prop
  | nil {fs gs} : HeadR P n m G ops T0 O Oi keep sh fs gs [] fs gs
  | cons {fs out : List (Nat × AV)} {gs : List Fil} {o : Oper} {l : List Oper} {d : Nat} {V : AV} {F : List (Nat × AV)} {ks : List Fil} (k : Fil) (hF : deps fs o = F)
      (h : ∀ Tv Ov, Oi.length ≤ Ov.length → (∀ p ob, k.spot = some (p, ob) → Ov[p]? = (fillAll gs Oi)[p]?) → (∀ j f p ob, waits o j = true → gs[j]? = some f → f.spot = some (p, ob) → memB p sh = false → Ov[p]? = some ob) → (∀ q, memB q keep = true → Ov[q]? = Oi[q]?) →
        WpL P n m G false ops [o] ⟨F ++ (T0 ++ Tv), O ++ Ov⟩ (Only ⟨(d, V) :: (F ++ (T0 ++ Tv)), O ++ k.run Ov⟩)) (r : HeadR P n m G ops T0 O Oi keep sh (fs ++ [(d, V)]) (gs ++ [k]) l out ks) : HeadR P n m G ops T0 O Oi keep sh fs gs (o :: l) out ks
section
variable {P : Program} {n m : Nat} {G : Ctx} {ops : Array Oper} {T0 : List (Nat × AV)} {O Oi : List AObj} {keep sh : List Nat}
theorem HeadR.pre {fs gs l out ks} (h : HeadR P n m G ops T0 O Oi keep sh fs gs l out ks) : ∃ r s, out = fs ++ r ∧ r.length = l.length ∧ ks = gs ++ s ∧ s.length = l.length := by
  induction h with
  | nil => exact ⟨[], [], by simp, rfl, by simp, rfl⟩
  | @cons fs out gs o l d V F ks k _ _ _ ih => obtain ⟨r, s, h1, h2, h3, h4⟩ := ih; exact ⟨(d, V) :: r, k :: s, by rw [h1]; simp, by simp [h2], by rw [h3]; simp, by simp [h4]⟩
theorem HeadR.at {fs gs l out ks} (h : HeadR P n m G ops T0 O Oi keep sh fs gs l out ks) (hg : gs.length = fs.length) : ∀ {j : Nat} {o : Oper}, l[j]? = some o → ∃ d V k, out[fs.length + j]? = some (d, V) ∧ ks[fs.length + j]? = some k ∧
    ∀ Tv Ov, Oi.length ≤ Ov.length → (∀ p ob, k.spot = some (p, ob) → Ov[p]? = (fillAll (ks.take (fs.length + j)) Oi)[p]?) → (∀ i f p ob, waits o i = true → (ks.take (fs.length + j))[i]? = some f → f.spot = some (p, ob) → memB p sh = false → Ov[p]? = some ob) → (∀ q, memB q keep = true → Ov[q]? = Oi[q]?) →
      WpL P n m G false ops [o] ⟨deps (out.take (fs.length + j)) o ++ (T0 ++ Tv), O ++ Ov⟩ (Only ⟨(d, V) :: (deps (out.take (fs.length + j)) o ++ (T0 ++ Tv)), O ++ k.run Ov⟩) := by
  induction h with
  | nil => intro j o h; simp at h
  | @cons fs out gs o l d V F ks k hF h r ih =>
    intro j o' hj
    obtain ⟨r', s', h1, h2, h3, h4⟩ := r.pre
    cases j with
    | zero =>
      simp only [List.getElem?_cons_zero, Option.some.injEq] at hj
      subst hj
      refine ⟨d, V, k, by rw [h1]; simp, by rw [h3]; simp [hg], ?_⟩
      have : out.take (fs.length + 0) = fs := by rw [h1, Nat.add_zero, List.append_assoc, List.take_left']; rfl
      have e2 : ks.take (fs.length + 0) = gs := by rw [h3, Nat.add_zero, List.append_assoc, List.take_left']; exact hg
      rw [this, hF, e2]; exact h
    | succ j =>
      have := ih (by simp [hg]) (j := j) (o := o') (by simpa using hj)
      rw [List.length_append, List.length_singleton, Nat.add_assoc, Nat.add_comm 1 j] at this
      simpa using this
theorem fillAll_cases : ∀ (L : List Fil) (Oi : List AObj) (q : Nat), q < Oi.length → (∃ (i : Nat) (f : Fil) (ob : AObj), L[i]? = some f ∧ f.spot = some (q, ob) ∧ (∀ (j : Nat) (g : Fil) (oc : AObj), i < j → L[j]? = some g → g.spot ≠ some (q, oc)) ∧ (fillAll L Oi)[q]? = some ob) ∨
    ((∀ (j : Nat) (g : Fil) (oc : AObj), L[j]? = some g → g.spot ≠ some (q, oc)) ∧ (fillAll L Oi)[q]? = Oi[q]?)
  | [], Oi, q, hq => .inr ⟨fun j g oc h => by simp at h, rfl⟩
  | f :: L, Oi, q, hq => by
    rw [fillAll]
    cases hs : f.spot with
    | none =>
      rcases fillAll_cases L Oi q hq with ⟨i, g, ob, h1, h2, h3, h4⟩ | ⟨h1, h2⟩
      · refine .inl ⟨i + 1, g, ob, by simpa using h1, h2, fun j g' oc hj hg => ?_, h4⟩
        cases j with
        | zero => omega
        | succ j => exact h3 j g' oc (by omega) (by simpa using hg)
      · refine .inr ⟨fun j g oc hg => ?_, h2⟩
        cases j with
        | zero => simp at hg; subst hg; rw [hs]; simp
        | succ j => exact h1 j g oc (by simpa using hg)
    | some x =>
      obtain ⟨p, ob0⟩ := x
      simp only
      rcases fillAll_cases L (Oi.set p ob0) q (by simpa using hq) with ⟨i, g, ob, h1, h2, h3, h4⟩ | ⟨h1, h2⟩
      · refine .inl ⟨i + 1, g, ob, by simpa using h1, h2, fun j g' oc hj hg => ?_, h4⟩
        cases j with
        | zero => omega
        | succ j => exact h3 j g' oc (by omega) (by simpa using hg)
      · by_cases e : p = q
        · subst e
          refine .inl ⟨0, f, ob0, by simp, hs, fun j g' oc hj hg => ?_, by rw [h2, List.getElem?_set_self hq]⟩
          cases j with
          | zero => omega
          | succ j => exact h1 j g' oc (by simpa using hg)
        · refine .inr ⟨fun j g oc hg => ?_, by rw [h2, List.getElem?_set, if_neg e]⟩
          cases j with
          | zero => simp at hg; subst hg; rw [hs]; intro h; cases h; exact e rfl
          | succ j => exact h1 j g oc (by simpa using hg)
structure RoomR (ks : List Fil) (Oi : List AObj) (k : Nat) (listed : Array Bool) (Ov : List AObj) : Prop where
  len : Ov.length = Oi.length + ((List.range k).filter fun i => listed.getD i false && isPut ks i).length
  cur : ∀ q, q < Oi.length → (∃ i f ob, i < k ∧ listed.getD i false = true ∧ ks[i]? = some f ∧ f.spot = some (q, ob) ∧ (∀ j g oc, i < j → j < k → listed.getD j false = true → ks[j]? = some g → g.spot ≠ some (q, oc)) ∧ Ov[q]? = some ob) ∨
    ((∀ j g oc, j < k → listed.getD j false = true → ks[j]? = some g → g.spot ≠ some (q, oc)) ∧ Ov[q]? = Oi[q]?)
  dead : ∀ q, Oi.length ≤ q → q < Ov.length → Ov[q]? = some deadO
structure RoomROk (ops : Array Oper) (sh : List Nat) (ks : List Fil) (c k : Nat) : Prop where
  lt : ∀ i f p ob, i < k → ks[i]? = some f → f.spot = some (p, ob) → p < c
  chain : ∀ i j f g p ob oc, i < j → j < k → ks[i]? = some f → ks[j]? = some g → f.spot = some (p, ob) → g.spot = some (p, oc) → memB p sh = true ∧ ∃ o, ops[j]? = some o ∧ waits o i = true
theorem waits_spec {o : Oper} {j : Nat} (h : waits o j = true) : ∃ e ∈ o.after, Region.binds .any e = true ∧ e.on = j := by
  obtain ⟨e, he, hb⟩ := List.any_eq_true.1 h
  rw [Bool.and_eq_true] at hb
  exact ⟨e, by simpa using he, hb.1, Nat.eq_of_beq_eq_true hb.2⟩
theorem RoomR.before {ks : List Fil} {k i : Nat} {listed : Array Bool} {Ov : List AObj} {f : Fil} {o : Oper} (h : RoomR ks Oi k listed Ov) (ok : RoomROk ops sh ks Oi.length k) (inv : HeadInv .any ops k listed) (hik : i < k) (hu : listed.getD i false = false) (hall : ∀ e ∈ o.after, Region.binds .any e = true → listed.getD e.on false = true) (ho : ops[i]? = some o) (hf : ks[i]? = some f) {p : Nat} {ob : AObj} (hsp : f.spot = some (p, ob)) :
    Ov[p]? = (fillAll (ks.take i) Oi)[p]? := by
  have hp := ok.lt i f p ob hik hf hsp
  -- what touches the place before it is listed, what touches it behind is not
  have hbef : ∀ j g oc, j < i → ks[j]? = some g → g.spot = some (p, oc) → listed.getD j false = true := by
    intro j g oc hj hg hs
    obtain ⟨_, o', ho', hw⟩ := ok.chain j i g f p oc ob hj hik hg hf hs hsp
    rw [ho] at ho'; cases ho'
    obtain ⟨e, he, hb, rfl⟩ := waits_spec hw
    exact hall e he hb
  have haft : ∀ j g oc, i < j → j < k → ks[j]? = some g → g.spot = some (p, oc) → listed.getD j false = false := by
    intro j g oc hj hjk hg hs
    obtain ⟨_, o', ho', hw⟩ := ok.chain i j f g p ob oc hj hjk hf hg hsp hs
    cases hl : listed.getD j false with
    | false => rfl
    | true =>
      obtain ⟨e, he, hb, rfl⟩ := waits_spec hw
      have := inv.closed j o' ho' hl e he hb
      rw [hu] at this; cases this
  have htk : ∀ j g, (ks.take i)[j]? = some g → j < i ∧ ks[j]? = some g := by
    intro j g hg
    rw [List.getElem?_take] at hg
    split at hg
    · rename_i hj; exact ⟨hj, hg⟩
    · cases hg
  rcases h.cur p hp with ⟨j, g, oc, hjk, hl, hg, hs, hlast, hv⟩ | ⟨hno, hv⟩ <;> rcases fillAll_cases (ks.take i) Oi p hp with ⟨j2, g2, oc2, hg2, hs2, hlast2, hv2⟩ | ⟨hno2, hv2⟩
  · obtain ⟨hj2, hg2⟩ := htk j2 g2 hg2
    have hji : j < i := by
      rcases Nat.lt_trichotomy j i with h1 | h1 | h1
      · exact h1
      · subst h1; rw [hu] at hl; cases hl
      · rw [haft j g oc h1 hjk hg hs] at hl; cases hl
    have : j = j2 := by
      rcases Nat.lt_trichotomy j j2 with h1 | h1 | h1
      · exact absurd hs2 (hlast j2 g2 oc2 h1 (by omega) (hbef j2 g2 oc2 hj2 hg2 hs2) hg2)
      · exact h1
      · exact absurd hs (hlast2 j g oc h1 (by rw [List.getElem?_take, if_pos hji]; exact hg))
    subst this
    rw [hg] at hg2; cases hg2
    rw [hs] at hs2; cases hs2
    rw [hv, hv2]
  · have hji : j < i := by
      rcases Nat.lt_trichotomy j i with h1 | h1 | h1
      · exact h1
      · subst h1; rw [hu] at hl; cases hl
      · rw [haft j g oc h1 hjk hg hs] at hl; cases hl
    exact absurd hs (hno2 j g oc (by rw [List.getElem?_take, if_pos hji]; exact hg))
  · obtain ⟨hj2, hg2⟩ := htk j2 g2 hg2
    exact absurd hs2 (hno j2 g2 oc2 (by omega) (hbef j2 g2 oc2 hj2 hg2 hs2) hg2)
  · rw [hv, hv2]
theorem RoomR.step {ks : List Fil} {k i : Nat} {listed : Array Bool} {Ov : List AObj} {f : Fil} (h : RoomR ks Oi k listed Ov) (ok : RoomROk ops sh ks Oi.length k) (inv : HeadInv .any ops k listed) (hik : i < k) (hs : i < listed.size) (hu : listed.getD i false = false) (hf : ks[i]? = some f) :
    RoomR ks Oi k (listed.setIfInBounds i true) (f.run Ov) := by
  have hself : (listed.setIfInBounds i true).getD i false = true := by simp [hs]
  have hcnt := count_set (f := isPut ks) hik hs hu
  have hlen := h.len
  have hp : isPut ks i = f.isPut := by unfold isPut; rw [hf]; rfl
  rw [hp] at hcnt
  have hrl : (f.run Ov).length = Ov.length + (if f.isPut = true then 1 else 0) := by cases f <;> simp [Fil.run, Fil.isPut]
  have hle : Oi.length ≤ Ov.length := by omega
  have hoth : ∀ q, q < Ov.length → (∀ p ob, f.spot = some (p, ob) → p ≠ q) → (f.run Ov)[q]? = Ov[q]? := by
    intro q hq hne
    cases f with
    | none => rfl
    | put p ob =>
      have := hne p ob rfl
      unfold Fil.run
      rw [List.getElem?_append_left (by simpa using hq), List.getElem?_set, if_neg this]
    | step p ob =>
      have := hne p ob rfl
      unfold Fil.run
      rw [List.getElem?_set, if_neg this]
  have hown : ∀ p ob, f.spot = some (p, ob) → (f.run Ov)[p]? = some ob := by
    intro p ob e
    have hpc := ok.lt i f p ob hik hf e
    cases f with
    | none => cases e
    | put p' ob' =>
      cases e
      unfold Fil.run
      rw [List.getElem?_append_left (by rw [List.length_set]; omega), List.getElem?_set_self (by omega)]
    | step p' ob' =>
      cases e
      unfold Fil.run
      rw [List.getElem?_set_self (by omega)]
  refine ⟨by rw [hrl, hcnt, hlen]; split <;> omega, fun q hq => ?_, fun q h1 h2 => ?_⟩
  · by_cases hq2 : ∃ ob, f.spot = some (q, ob)
    · obtain ⟨ob, hsp⟩ := hq2
      refine .inl ⟨i, f, ob, hik, hself, hf, hsp, fun j g oc hj hjk hl hg hs2 => ?_, hown q ob hsp⟩
      rw [getD_set_ne false (by omega)] at hl
      obtain ⟨_, o', ho', hw⟩ := ok.chain i j f g q ob oc hj hjk hf hg hsp hs2
      obtain ⟨e, he, hb, rfl⟩ := waits_spec hw
      have := inv.closed j o' ho' hl e he hb
      rw [hu] at this; cases this
    · have hne : ∀ p ob, f.spot = some (p, ob) → p ≠ q := fun p ob hsp e => hq2 ⟨ob, e ▸ hsp⟩
      rw [hoth q (by omega) hne]
      rcases h.cur q hq with ⟨j, g, oc, hjk, hl, hg, hs2, hlast, hv⟩ | ⟨hno, hv⟩
      · have hij : i ≠ j := by rintro rfl; rw [hu] at hl; cases hl
        refine .inl ⟨j, g, oc, hjk, by rw [getD_set_ne false hij]; exact hl, hg, hs2, fun j2 g2 oc2 h1 h2 h3 h4 => ?_, hv⟩
        by_cases e : i = j2
        · subst e; rw [hf] at h4; cases h4; exact fun h5 => hq2 ⟨_, h5⟩
        · rw [getD_set_ne false e] at h3; exact hlast j2 g2 oc2 h1 h2 h3 h4
      · refine .inr ⟨fun j2 g2 oc2 h2 h3 h4 => ?_, hv⟩
        by_cases e : i = j2
        · subst e; rw [hf] at h4; cases h4; exact fun h5 => hq2 ⟨_, h5⟩
        · rw [getD_set_ne false e] at h3; exact hno j2 g2 oc2 h2 h3 h4
  · rcases Nat.lt_or_ge q Ov.length with h3 | h3
    · rw [hoth q h3 (fun p ob e1 => by have := ok.lt i f p ob hik hf e1; omega)]
      exact h.dead q h1 h3
    · cases f with
      | none => exact absurd h2 (by simp [Fil.run]; omega)
      | step p ob => exact absurd h2 (by simp [Fil.run]; omega)
      | put p ob =>
        simp [Fil.run] at h2
        have e : q = Ov.length := by omega
        subst e
        unfold Fil.run
        rw [List.getElem?_append_right (by simp)]; simp
end
end Go.Abs


namespace Go.Abs
open Go
structure Fis where
  sets : List (Nat × AObj)
  dead : Bool
def lkF : List (Nat × AObj) → Nat → Option AObj
  | [], _ => Option.none
  | (p, ob) :: l, q => if Nat.beq p q = true then some ob else lkF l q
def setsF : List (Nat × AObj) → List AObj → List AObj
  | [], Ov => Ov
  | (p, ob) :: l, Ov => (setsF l Ov).set p ob
def Fis.got (f : Fis) (q : Nat) : Option AObj := lkF f.sets q
def Fis.isPutS (f : Fis) : Bool := f.dead
def Fis.run (f : Fis) (Ov : List AObj) : List AObj := match f.dead with
  | true => setsF f.sets Ov ++ [deadO]
  | false => setsF f.sets Ov
abbrev Fis.none : Fis := ⟨[], false⟩
abbrev Fis.put (p : Nat) (ob : AObj) : Fis := ⟨[(p, ob)], true⟩
abbrev Fis.step (p : Nat) (ob : AObj) : Fis := ⟨[(p, ob)], false⟩
def isPutS (ks : List Fis) (i : Nat) : Bool := (ks[i]?.map Fis.isPutS).getD false
def fillAllS : List Fis → List AObj → List AObj
  | [], Oi => Oi
  | f :: ks, Oi => fillAllS ks (setsF f.sets Oi)
theorem setsF_len : ∀ (l : List (Nat × AObj)) (Ov : List AObj), (setsF l Ov).length = Ov.length
  | [], _ => rfl
  | (p, ob) :: l, Ov => by rw [setsF, List.length_set, setsF_len l Ov]
theorem setsF_at : ∀ (l : List (Nat × AObj)) (Ov : List AObj) (q : Nat), q < Ov.length → (setsF l Ov)[q]? = match lkF l q with | some ob => some ob | Option.none => Ov[q]?
  | [], _, _, _ => rfl
  | (p, ob) :: l, Ov, q, hq => by
    rw [setsF, lkF, List.getElem?_set]
    by_cases e : p = q
    · subst e
      rw [if_pos rfl, if_pos (by rw [setsF_len]; exact hq), if_pos (by simp)]
    · rw [if_neg e, if_neg (by simpa using e)]
      exact setsF_at l Ov q hq
theorem setsF_out : ∀ (l : List (Nat × AObj)) (Ov : List AObj) (q : Nat), lkF l q = Option.none → (setsF l Ov)[q]? = Ov[q]?
  | [], _, _, _ => rfl
  | (p, ob) :: l, Ov, q, h => by
    rw [lkF] at h
    split at h
    · cases h
    · rename_i e
      rw [setsF, List.getElem?_set, if_neg (by simpa using e)]
      exact setsF_out l Ov q h
theorem fillAllS_len : ∀ (ks : List Fis) (Oi : List AObj), (fillAllS ks Oi).length = Oi.length
  | [], _ => rfl
  | f :: ks, Oi => by rw [fillAllS, fillAllS_len ks, setsF_len]
theorem lkF_mem : ∀ {l : List (Nat × AObj)} {q : Nat} {ob : AObj}, lkF l q = some ob → ∃ x ∈ l, x.1 = q
  | [], _, _, h => by simp [lkF] at h
  | (p, o) :: l, q, ob, h => by
    rw [lkF] at h
    split at h
    · rename_i e; exact ⟨(p, o), by simp, by simpa using e⟩
    · obtain ⟨x, hx, e⟩ := lkF_mem h; exact ⟨x, List.mem_cons_of_mem _ hx, e⟩
def spotsS (ks : List Fis) : List Nat := ks.flatMap fun f => f.sets.map (·.1)
theorem keepB_ofS {c k : Nat} {ks : List Fis} : ∀ {l : List Nat}, keepB c (spotsS ks) l = true → ∀ {q}, memB q l = true → q < c ∧ ∀ i f p ob, i < k → ks[i]? = some f → f.got p = some ob → p ≠ q
  | [], _, q, h => by cases h
  | x :: l, hB, q, h => by
    simp only [keepB, Bool.and_eq_true, Bool.not_eq_true'] at hB
    simp only [memB, Bool.or_eq_true] at h
    rcases h with h | h
    · have e : q = x := Nat.eq_of_beq_eq_true h
      subst e
      refine ⟨Nat.le_of_ble_eq_true hB.1.1, fun i f p ob _ hf hg e => ?_⟩
      subst e
      obtain ⟨y, hy, e2⟩ := lkF_mem hg
      refine memB_false hB.1.2 ?_
      unfold spotsS
      rw [List.mem_flatMap]
      exact ⟨f, List.mem_of_getElem? hf, by rw [← e2]; exact List.mem_map_of_mem hy⟩
    · exact keepB_ofS hB.2 h
inductive HeadS (P : Program) (n m : Nat) (G : Ctx) (ops : Array Oper) (T0 : List (Nat × AV)) (O Oi : List AObj) (keep sh : List Nat) : List (Nat × AV) → List Fis → List Oper → List (Nat × AV) → List Fis → Prop
  | nil {fs gs} : HeadS P n m G ops T0 O Oi keep sh fs gs [] fs gs
  | cons {fs out : List (Nat × AV)} {gs : List Fis} {o : Oper} {l : List Oper} {d : Nat} {V : AV} {F : List (Nat × AV)} {ks : List Fis} (k : Fis) (hF : deps fs o = F)
      (h : ∀ Tv Ov, Oi.length ≤ Ov.length → (∀ p ob, k.got p = some ob → Ov[p]? = (fillAllS gs Oi)[p]?) → (∀ j f p ob, waits o j = true → gs[j]? = some f → f.got p = some ob → memB p sh = false → Ov[p]? = some ob) → (∀ q, memB q keep = true → Ov[q]? = Oi[q]?) →
        WpL P n m G false ops [o] ⟨F ++ (T0 ++ Tv), O ++ Ov⟩ (Only ⟨(d, V) :: (F ++ (T0 ++ Tv)), O ++ k.run Ov⟩)) (r : HeadS P n m G ops T0 O Oi keep sh (fs ++ [(d, V)]) (gs ++ [k]) l out ks) : HeadS P n m G ops T0 O Oi keep sh fs gs (o :: l) out ks
section
variable {P : Program} {n m : Nat} {G : Ctx} {ops : Array Oper} {T0 : List (Nat × AV)} {O Oi : List AObj} {keep sh : List Nat}
theorem HeadS.pre {fs gs l out ks} (h : HeadS P n m G ops T0 O Oi keep sh fs gs l out ks) : ∃ r s, out = fs ++ r ∧ r.length = l.length ∧ ks = gs ++ s ∧ s.length = l.length := by
  induction h with
  | nil => exact ⟨[], [], by simp, rfl, by simp, rfl⟩
  | @cons fs out gs o l d V F ks k _ _ _ ih => obtain ⟨r, s, h1, h2, h3, h4⟩ := ih; exact ⟨(d, V) :: r, k :: s, by rw [h1]; simp, by simp [h2], by rw [h3]; simp, by simp [h4]⟩
theorem HeadS.at {fs gs l out ks} (h : HeadS P n m G ops T0 O Oi keep sh fs gs l out ks) (hg : gs.length = fs.length) : ∀ {j : Nat} {o : Oper}, l[j]? = some o → ∃ d V k, out[fs.length + j]? = some (d, V) ∧ ks[fs.length + j]? = some k ∧
    ∀ Tv Ov, Oi.length ≤ Ov.length → (∀ p ob, k.got p = some ob → Ov[p]? = (fillAllS (ks.take (fs.length + j)) Oi)[p]?) → (∀ i f p ob, waits o i = true → (ks.take (fs.length + j))[i]? = some f → f.got p = some ob → memB p sh = false → Ov[p]? = some ob) → (∀ q, memB q keep = true → Ov[q]? = Oi[q]?) →
      WpL P n m G false ops [o] ⟨deps (out.take (fs.length + j)) o ++ (T0 ++ Tv), O ++ Ov⟩ (Only ⟨(d, V) :: (deps (out.take (fs.length + j)) o ++ (T0 ++ Tv)), O ++ k.run Ov⟩) := by
  induction h with
  | nil => intro j o h; simp at h
  | @cons fs out gs o l d V F ks k hF h r ih =>
    intro j o' hj
    obtain ⟨r', s', h1, h2, h3, h4⟩ := r.pre
    cases j with
    | zero =>
      simp only [List.getElem?_cons_zero, Option.some.injEq] at hj
      subst hj
      refine ⟨d, V, k, by rw [h1]; simp, by rw [h3]; simp [hg], ?_⟩
      have : out.take (fs.length + 0) = fs := by rw [h1, Nat.add_zero, List.append_assoc, List.take_left']; rfl
      have e2 : ks.take (fs.length + 0) = gs := by rw [h3, Nat.add_zero, List.append_assoc, List.take_left']; exact hg
      rw [this, hF, e2]; exact h
    | succ j =>
      have := ih (by simp [hg]) (j := j) (o := o') (by simpa using hj)
      rw [List.length_append, List.length_singleton, Nat.add_assoc, Nat.add_comm 1 j] at this
      simpa using this
theorem fillAllS_cases : ∀ (L : List Fis) (Oi : List AObj) (q : Nat), q < Oi.length → (∃ (i : Nat) (f : Fis) (ob : AObj), L[i]? = some f ∧ f.got q = some ob ∧ (∀ (j : Nat) (g : Fis) (oc : AObj), i < j → L[j]? = some g → g.got q ≠ some oc) ∧ (fillAllS L Oi)[q]? = some ob) ∨
    ((∀ (j : Nat) (g : Fis) (oc : AObj), L[j]? = some g → g.got q ≠ some oc) ∧ (fillAllS L Oi)[q]? = Oi[q]?)
  | [], Oi, q, hq => .inr ⟨fun j g oc h => by simp at h, rfl⟩
  | f :: L, Oi, q, hq => by
    rw [fillAllS]
    rcases fillAllS_cases L (setsF f.sets Oi) q (by rw [setsF_len]; exact hq) with ⟨i, g, ob, h1, h2, h3, h4⟩ | ⟨h1, h2⟩
    · refine .inl ⟨i + 1, g, ob, by simpa using h1, h2, fun j g' oc hj hg => ?_, h4⟩
      cases j with
      | zero => omega
      | succ j => exact h3 j g' oc (by omega) (by simpa using hg)
    · cases hs : f.got q with
      | some ob0 =>
        refine .inl ⟨0, f, ob0, by simp, hs, fun j g' oc hj hg => ?_, ?_⟩
        · cases j with
          | zero => omega
          | succ j => exact h1 j g' oc (by simpa using hg)
        · rw [h2, setsF_at _ _ _ hq]
          unfold Fis.got at hs; rw [hs]
      | none =>
        refine .inr ⟨fun j g oc hg => ?_, by rw [h2]; exact setsF_out _ _ _ hs⟩
        cases j with
        | zero => simp at hg; subst hg; rw [hs]; simp
        | succ j => exact h1 j g oc (by simpa using hg)
structure RoomS (ks : List Fis) (Oi : List AObj) (k : Nat) (listed : Array Bool) (Ov : List AObj) : Prop where
  len : Ov.length = Oi.length + ((List.range k).filter fun i => listed.getD i false && isPutS ks i).length
  cur : ∀ q, q < Oi.length → (∃ i f ob, i < k ∧ listed.getD i false = true ∧ ks[i]? = some f ∧ f.got q = some ob ∧ (∀ j g oc, i < j → j < k → listed.getD j false = true → ks[j]? = some g → g.got q ≠ some oc) ∧ Ov[q]? = some ob) ∨
    ((∀ j g oc, j < k → listed.getD j false = true → ks[j]? = some g → g.got q ≠ some oc) ∧ Ov[q]? = Oi[q]?)
  dead : ∀ q, Oi.length ≤ q → q < Ov.length → Ov[q]? = some deadO
structure RoomSOk (ops : Array Oper) (sh : List Nat) (ks : List Fis) (c k : Nat) : Prop where
  lt : ∀ i f p ob, i < k → ks[i]? = some f → f.got p = some ob → p < c
  chain : ∀ i j f g p ob oc, i < j → j < k → ks[i]? = some f → ks[j]? = some g → f.got p = some ob → g.got p = some oc → memB p sh = true ∧ reach ops 24 j i = true
theorem reach_hall {k : Nat} {listed : Array Bool} {o : Oper} {i j f : Nat} (inv : HeadInv .any ops k listed) (ho : ops[i]? = some o) (hall : ∀ e ∈ o.after, Region.binds .any e = true → listed.getD e.on false = true) (h : reach ops f i j = true) : listed.getD j false = true := by
  cases f with
  | zero => simp [reach] at h
  | succ f =>
    rw [reach, ho] at h
    rcases Bool.or_eq_true_iff.1 h with h | h
    · obtain ⟨e, he, hx⟩ := List.any_eq_true.1 h
      rw [Bool.and_eq_true] at hx
      have := hall e (by simpa using he) hx.1
      rw [Nat.eq_of_beq_eq_true hx.2] at this; exact this
    · obtain ⟨e, he, hx⟩ := List.any_eq_true.1 h
      rw [Bool.and_eq_true] at hx
      exact reach_listed inv f _ _ hx.2 (hall e (by simpa using he) hx.1)
theorem RoomS.before {ks : List Fis} {k i : Nat} {listed : Array Bool} {Ov : List AObj} {f : Fis} {o : Oper} (h : RoomS ks Oi k listed Ov) (ok : RoomSOk ops sh ks Oi.length k) (inv : HeadInv .any ops k listed) (hik : i < k) (hu : listed.getD i false = false) (hall : ∀ e ∈ o.after, Region.binds .any e = true → listed.getD e.on false = true) (ho : ops[i]? = some o) (hf : ks[i]? = some f) {p : Nat} {ob : AObj} (hsp : f.got p = some ob) :
    Ov[p]? = (fillAllS (ks.take i) Oi)[p]? := by
  have hp := ok.lt i f p ob hik hf hsp
  -- what touches the place before it is listed, what touches it behind is not
  have hbef : ∀ j g oc, j < i → ks[j]? = some g → g.got p = some oc → listed.getD j false = true := by
    intro j g oc hj hg hs
    exact reach_hall inv ho hall (ok.chain j i g f p oc ob hj hik hg hf hs hsp).2
  have haft : ∀ j g oc, i < j → j < k → ks[j]? = some g → g.got p = some oc → listed.getD j false = false := by
    intro j g oc hj hjk hg hs
    have hw := (ok.chain i j f g p ob oc hj hjk hf hg hsp hs).2
    cases hl : listed.getD j false with
    | false => rfl
    | true =>
      have := reach_listed inv _ _ _ hw hl
      rw [hu] at this; cases this
  have htk : ∀ j g, (ks.take i)[j]? = some g → j < i ∧ ks[j]? = some g := by
    intro j g hg
    rw [List.getElem?_take] at hg
    split at hg
    · rename_i hj; exact ⟨hj, hg⟩
    · cases hg
  rcases h.cur p hp with ⟨j, g, oc, hjk, hl, hg, hs, hlast, hv⟩ | ⟨hno, hv⟩ <;> rcases fillAllS_cases (ks.take i) Oi p hp with ⟨j2, g2, oc2, hg2, hs2, hlast2, hv2⟩ | ⟨hno2, hv2⟩
  · obtain ⟨hj2, hg2⟩ := htk j2 g2 hg2
    have hji : j < i := by
      rcases Nat.lt_trichotomy j i with h1 | h1 | h1
      · exact h1
      · subst h1; rw [hu] at hl; cases hl
      · rw [haft j g oc h1 hjk hg hs] at hl; cases hl
    have : j = j2 := by
      rcases Nat.lt_trichotomy j j2 with h1 | h1 | h1
      · exact absurd hs2 (hlast j2 g2 oc2 h1 (by omega) (hbef j2 g2 oc2 hj2 hg2 hs2) hg2)
      · exact h1
      · exact absurd hs (hlast2 j g oc h1 (by rw [List.getElem?_take, if_pos hji]; exact hg))
    subst this
    rw [hg] at hg2; cases hg2
    rw [hs] at hs2; cases hs2
    rw [hv, hv2]
  · have hji : j < i := by
      rcases Nat.lt_trichotomy j i with h1 | h1 | h1
      · exact h1
      · subst h1; rw [hu] at hl; cases hl
      · rw [haft j g oc h1 hjk hg hs] at hl; cases hl
    exact absurd hs (hno2 j g oc (by rw [List.getElem?_take, if_pos hji]; exact hg))
  · obtain ⟨hj2, hg2⟩ := htk j2 g2 hg2
    exact absurd hs2 (hno j2 g2 oc2 (by omega) (hbef j2 g2 oc2 hj2 hg2 hs2) hg2)
  · rw [hv, hv2]
theorem RoomS.step {ks : List Fis} {k i : Nat} {listed : Array Bool} {Ov : List AObj} {f : Fis} (h : RoomS ks Oi k listed Ov) (ok : RoomSOk ops sh ks Oi.length k) (inv : HeadInv .any ops k listed) (hik : i < k) (hs : i < listed.size) (hu : listed.getD i false = false) (hf : ks[i]? = some f) :
    RoomS ks Oi k (listed.setIfInBounds i true) (f.run Ov) := by
  have hself : (listed.setIfInBounds i true).getD i false = true := by simp [hs]
  have hcnt := count_set (f := isPutS ks) hik hs hu
  have hlen := h.len
  have hp : isPutS ks i = f.isPutS := by unfold isPutS; rw [hf]; rfl
  rw [hp] at hcnt
  have hrl : (f.run Ov).length = Ov.length + (if f.isPutS = true then 1 else 0) := by
    unfold Fis.run Fis.isPutS
    cases f.dead <;> simp [setsF_len]
  have hle : Oi.length ≤ Ov.length := by omega
  have hrun : ∀ q, q < Ov.length → (f.run Ov)[q]? = (setsF f.sets Ov)[q]? := by
    intro q hq
    unfold Fis.run
    cases f.dead
    · rfl
    · simp only
      rw [List.getElem?_append_left (by rw [setsF_len]; exact hq)]
  have hoth : ∀ q, q < Ov.length → (∀ p ob, f.got p = some ob → p ≠ q) → (f.run Ov)[q]? = Ov[q]? := by
    intro q hq hne
    rw [hrun q hq]
    refine setsF_out _ _ _ ?_
    cases hc : lkF f.sets q with
    | none => rfl
    | some ob => exact absurd rfl (hne q ob hc)
  have hown : ∀ p ob, f.got p = some ob → (f.run Ov)[p]? = some ob := by
    intro p ob e
    have hpc := ok.lt i f p ob hik hf e
    rw [hrun p (by omega), setsF_at _ _ _ (by omega)]
    unfold Fis.got at e; rw [e]
  refine ⟨by rw [hrl, hcnt, hlen]; split <;> omega, fun q hq => ?_, fun q h1 h2 => ?_⟩
  · by_cases hq2 : ∃ ob, f.got q = some ob
    · obtain ⟨ob, hsp⟩ := hq2
      refine .inl ⟨i, f, ob, hik, hself, hf, hsp, fun j g oc hj hjk hl hg hs2 => ?_, hown q ob hsp⟩
      rw [getD_set_ne false (by omega)] at hl
      have := reach_listed inv _ _ _ (ok.chain i j f g q ob oc hj hjk hf hg hsp hs2).2 hl
      rw [hu] at this; cases this
    · have hne : ∀ p ob, f.got p = some ob → p ≠ q := fun p ob hsp e => hq2 ⟨ob, e ▸ hsp⟩
      rw [hoth q (by omega) hne]
      rcases h.cur q hq with ⟨j, g, oc, hjk, hl, hg, hs2, hlast, hv⟩ | ⟨hno, hv⟩
      · have hij : i ≠ j := by rintro rfl; rw [hu] at hl; cases hl
        refine .inl ⟨j, g, oc, hjk, by rw [getD_set_ne false hij]; exact hl, hg, hs2, fun j2 g2 oc2 h1 h2 h3 h4 => ?_, hv⟩
        by_cases e : i = j2
        · subst e; rw [hf] at h4; cases h4; exact fun h5 => hq2 ⟨_, h5⟩
        · rw [getD_set_ne false e] at h3; exact hlast j2 g2 oc2 h1 h2 h3 h4
      · refine .inr ⟨fun j2 g2 oc2 h2 h3 h4 => ?_, hv⟩
        by_cases e : i = j2
        · subst e; rw [hf] at h4; cases h4; exact fun h5 => hq2 ⟨_, h5⟩
        · rw [getD_set_ne false e] at h3; exact hno j2 g2 oc2 h2 h3 h4
  · rcases Nat.lt_or_ge q Ov.length with h3 | h3
    · rw [hoth q h3 (fun p ob e1 => by have := ok.lt i f p ob hik hf e1; omega)]
      exact h.dead q h1 h3
    · cases hd : f.dead with
      | false => exact absurd h2 (by rw [hrl]; unfold Fis.isPutS; rw [hd]; simp; omega)
      | true =>
        have e : q = Ov.length := by
          rw [hrl] at h2; unfold Fis.isPutS at h2; rw [hd] at h2; simp at h2; omega
        subst e
        unfold Fis.run; rw [hd]; simp only
        rw [List.getElem?_append_right (by rw [setsF_len]; exact Nat.le_refl _), setsF_len]; simp
def GoodS (n m : Nat) (G : Ctx) (T0 out : List (Nat × AV)) (O Oi : List AObj) (k : Nat) (ks : List Fis) (listed : Array Bool) (a : Act) (w : World) : Prop :=
  ∃ T Ov, Rel n m G ⟨T, O ++ Ov⟩ a w ∧ RoomS ks Oi k listed Ov ∧ (∀ (i d : Nat) (V : AV), out[i]? = some (d, V) → listed.getD i false = true → look T d = V) ∧ ∀ t, has out t = false → look T t = look T0 t
theorem head_stepS {out : List (Nat × AV)} {ks : List Fis} {k : Nat} (H : Heads ops T0 out k) (ok : RoomSOk ops sh ks Oi.length k) (hkp : ∀ q, memB q keep = true → q < Oi.length ∧ ∀ i f p ob, i < k → ks[i]? = some f → f.got p = some ob → p ≠ q) {Q : Exit → Act → World → Prop} (hJ : ∀ {j : Nat} {o : Oper}, j < k → ops[j]? = some o → ∃ d V f, out[j]? = some (d, V) ∧ ks[j]? = some f ∧
      ∀ Tv Ov, Oi.length ≤ Ov.length → (∀ p ob, f.got p = some ob → Ov[p]? = (fillAllS (ks.take j) Oi)[p]?) → (∀ i f p ob, waits o i = true → (ks.take j)[i]? = some f → f.got p = some ob → memB p sh = false → Ov[p]? = some ob) → (∀ q, memB q keep = true → Ov[q]? = Oi[q]?) → WpL P n m G false ops [o] ⟨deps (out.take j) o ++ (T0 ++ Tv), O ++ Ov⟩ (Only ⟨(d, V) :: (deps (out.take j) o ++ (T0 ++ Tv)), O ++ f.run Ov⟩))
    {listed : Array Bool} (inv : HeadInv .any ops k listed) {i : Nat} (hi : i ∈ Region.ready .any ops listed) (hik : i < k) {a w} (hg : GoodS n m G T0 out O Oi k ks listed a w) {K : Act → World → Prop}
    (hK : ∀ a' w', GoodS n m G T0 out O Oi k ks (listed.setIfInBounds i true) a' w' → K a' w') : wpOp P ops Q i K a w := by
  obtain ⟨hun, o, ho, hall⟩ := mem_ready.1 hi
  obtain ⟨T, Ov, hr, hroom, h1, h2⟩ := hg
  obtain ⟨d, V, f, hout, hkf, hw⟩ := hJ hik ho
  have hF : ∀ t U, (t, U) ∈ deps (out.take i) o → look T t = U := by
    intro t U hm
    simp only [deps, List.mem_filterMap] at hm
    obtain ⟨e, he, hx⟩ := hm
    split at hx
    · rename_i hb
      have he' : e ∈ o.after := by simpa using he
      have hx' : out[e.on]? = some (t, U) := by
        rw [List.getElem?_take] at hx
        split at hx
        · exact hx
        · simp at hx
      exact h1 _ _ _ hx' (hall e he' hb)
    · simp at hx
  have same : ∀ t, look (deps (out.take i) o ++ (T0 ++ T)) t = look T t := by
    intro t
    rw [look_append]
    split
    · rename_i h; exact (hF _ _ (has_look h)).symm
    · rw [look_append]
      split
      · rename_i h
        refine (h2 t ?_).symm
        cases hc : has out t with
        | false => rfl
        | true => have := H.fresh _ (has_look hc); simp only at this; rw [this] at h; cases h
      · rfl
  have hiu : listed.getD i false = false := getD_both hun
  have hdep : ∀ j g p ob, waits o j = true → (ks.take i)[j]? = some g → g.got p = some ob → memB p sh = false → Ov[p]? = some ob := by
    intro j g p ob hwt hg hsp hsh
    obtain ⟨e, he, hb, rfl⟩ := waits_spec hwt
    have hl := hall e he hb
    rw [List.getElem?_take] at hg
    split at hg
    · rename_i hji
      have hp := ok.lt e.on g p ob (by omega) hg hsp
      rcases hroom.cur p hp with ⟨j2, g2, oc, hjk, hl2, hg2, hs2, hlast, hv⟩ | ⟨hno, hv⟩
      · have hj : j2 = e.on := by
          rcases Nat.lt_trichotomy j2 e.on with h3 | h3 | h3
          · have := (ok.chain j2 e.on g2 g p oc ob h3 (by omega) hg2 hg hs2 hsp).1
            rw [hsh] at this; cases this
          · exact h3
          · have := (ok.chain e.on j2 g g2 p ob oc h3 hjk hg hg2 hsp hs2).1
            rw [hsh] at this; cases this
        subst hj
        rw [hg] at hg2; cases hg2
        rw [hsp] at hs2; cases hs2
        exact hv
      · exact absurd hsp (hno e.on g ob (by omega) hl hg)
    · cases hg
  have hrest : ∀ q, memB q keep = true → Ov[q]? = Oi[q]? := by
    intro q hq
    obtain ⟨hlt, hno⟩ := hkp q hq
    rcases hroom.cur q hlt with ⟨j, g, oc, hjk, _, hg, hs2, _, _⟩ | ⟨_, hv⟩
    · exact absurd rfl (hno j g q oc hjk hg hs2)
    · exact hv
  have hw' := hw T Ov (by rw [hroom.len]; omega) (fun p ob e => hroom.before ok inv hik hiu hall ho hkf e) hdep hrest a w (hr.relook same)
  have hst := hroom.step ok inv hik (by rw [inv.size]; have := (Array.getElem?_eq_some_iff.1 ho).1; omega) hiu hkf
  simp only at hw'
  have good : ∀ a' w', Rel n m G ⟨(d, V) :: (deps (out.take i) o ++ (T0 ++ T)), O ++ f.run Ov⟩ a' w' → GoodS n m G T0 out O Oi k ks (listed.setIfInBounds i true) a' w' := by
    intro a' w' hr'
    refine ⟨_, _, hr', hst, fun j d' V' hj hl => ?_, fun t ht => ?_⟩
    · by_cases hij : i = j
      · subst hij; rw [hout] at hj; cases hj; exact look_cons_same _ _ _
      · rw [getD_set_ne false hij] at hl
        have hne : d ≠ d' := by rintro rfl; exact hij (out_inj H.nodup hout hj)
        rw [look_cons_other _ _ _ _ hne, same]
        exact h1 _ _ _ hj hl
    · have hne : d ≠ t := by
        rintro rfl
        have := has_mem (List.mem_of_getElem? hout)
        rw [ht] at this; cases this
      rw [look_cons_other _ _ _ _ hne, same]; exact h2 t ht
  have only : ∀ e a' w', (∃ σ', Only ⟨(d, V) :: (deps (out.take i) o ++ (T0 ++ T)), O ++ f.run Ov⟩ e σ' ∧ Rel n m G σ' a' w') → e = .normal ∧ K a' w' := by
    rintro e a' w' ⟨σ', hq, hr'⟩
    cases e <;> first | (simp only [Only] at hq; subst hq; exact ⟨rfl, hK _ _ (good _ _ hr')⟩) | exact hq.elim
  unfold wpOp
  simp only [ho]
  change wpList P ops _ [o] a w at hw'
  unfold wpList at hw'
  by_cases hwant : Region.wanted o (yielded ops a.tmps) = true
  · rw [if_pos hwant] at hw' ⊢
    rcases hw' with hw' | ⟨_, a', w', hx⟩
    · refine .inl ?_
      unfold Oper.wp at hw' ⊢
      generalize (execOp a.eval o).run P w = r at *
      cases r with
      | ok x w1 =>
        cases x <;> simp only [Oper.upon] at hw' ⊢
        case value v => exact (only _ _ _ hw').2
        case skip => exact (only _ _ _ hw').2
        case defer d => exact (only _ _ _ hw').2
        case enter f args =>
          refine hw'.mono fun e w2 h2 => ?_
          cases e with
          | returned v => exact (only _ _ _ h2).2
          | panicked c => exact absurd (only _ _ _ h2).1 (by simp)
          | outgrown => obtain ⟨_, _, hf⟩ := h2; exact absurd (only _ _ _ hf).1 (by simp)
        case row r ar => exact hw'.mono fun v w2 h2 => (only _ _ _ h2).2
      | halt x w1 => cases x <;> simp only [Oper.upon] at hw' ⊢ <;> first | exact absurd (only _ _ _ hw').1 (by simp) | exact hw'.elim | (obtain ⟨_, _, hf⟩ := hw'; exact absurd (only _ _ _ hf).1 (by simp))
    · exact absurd (only _ _ _ hx).1 (by simp)
  · rw [if_neg hwant] at hw' ⊢
    exact (only _ _ _ hw').2
theorem WpA.regionS {l : List Oper} {id : Nat} {out T1 : List (Nat × AV)} {ks : List Fis} {Q : Exit → St → Prop} (k : Nat) (hm : P.follows .mixedOrders = true) (hB : mixB l.toArray k = true)
    (hJ : HeadS P n m G l.toArray T0 O Oi keep sh [] [] (l.take k) out ks) (hok : RoomSOk l.toArray sh ks Oi.length k) (hkp : ∀ q, memB q keep = true → q < Oi.length ∧ ∀ i f p ob, i < k → ks[i]? = some f → f.got p = some ob → p ≠ q) (hnd : nodupB (out.map (·.1)) = true) (hfr : (out.all fun p => !has T0 p.1) = true)
    (hT1 : out ++ T0 = T1) (h : WpL P n m G false l.toArray (l.drop k) ⟨T1, O ++ (fillAllS ks Oi ++ List.replicate ((List.range k).filter fun i => isPutS ks i).length deadO)⟩ Q) : WpA P n m G (.region id l.toArray true) ⟨T0, O ++ Oi⟩ Q := fun a w hr => by
  subst hT1
  simp only [mixB, Bool.and_eq_true, decide_eq_true_eq, Bool.or_eq_true] at hB
  obtain ⟨⟨⟨hks, hback⟩, hsc⟩, hseq⟩ := hB
  have hkl : k ≤ l.length := by simpa using hks
  have htl : (l.take k).length = k := by simp; omega
  obtain ⟨r, s, hr1, hr2, hr3, hr4⟩ := hJ.pre
  have hlen : out.length = k := by rw [hr1]; simp [hr2]; omega
  have hklen : ks.length = k := by rw [hr3]; simp [hr4]; omega
  have H : Heads l.toArray T0 out k := ⟨hlen, nodupB_spec hnd, fun p hp => by have := List.all_eq_true.1 hfr p hp; simpa using this, fun i hi o ho e he hb => by
    have h1 := List.all_eq_true.1 hback i (List.mem_range.2 hi)
    rw [ho] at h1
    have h2 := List.all_eq_true.1 h1 e (by simpa using he)
    simp only [Bool.or_eq_true, Bool.not_eq_true', decide_eq_true_eq] at h2
    rcases h2 with h2 | h2
    · rw [hb] at h2; cases h2
    · exact h2⟩
  have hJ' : ∀ {j : Nat} {o : Oper}, j < k → l.toArray[j]? = some o → ∃ d V f, out[j]? = some (d, V) ∧ ks[j]? = some f ∧
      ∀ Tv Ov, Oi.length ≤ Ov.length → (∀ p ob, f.got p = some ob → Ov[p]? = (fillAllS (ks.take j) Oi)[p]?) → (∀ i f p ob, waits o i = true → (ks.take j)[i]? = some f → f.got p = some ob → memB p sh = false → Ov[p]? = some ob) → (∀ q, memB q keep = true → Ov[q]? = Oi[q]?) → WpL P n m G false l.toArray [o] ⟨deps (out.take j) o ++ (T0 ++ Tv), O ++ Ov⟩ (Only ⟨(d, V) :: (deps (out.take j) o ++ (T0 ++ Tv)), O ++ f.run Ov⟩) := by
    intro j o hj ho
    have ho' : (l.take k)[j]? = some o := by rw [List.getElem?_take, if_pos hj]; simpa using ho
    have := hJ.at rfl ho'
    simpa using this
  have inv0 : HeadInv .any l.toArray k (Array.replicate l.toArray.size false) :=
    ⟨by simp, fun j oj _ hl => (by rw [getD_replicate_false] at hl; cases hl), fun t _ ht => getD_in (by simpa using ht) (getD_replicate_false _ _)⟩
  have room0 : RoomS ks Oi k (Array.replicate l.toArray.size false) Oi := by
    refine ⟨?_, fun q _ => .inr ⟨fun j g oc _ hl => (by rw [getD_replicate_false] at hl; cases hl), rfl⟩, fun q h1 h2 => by omega⟩
    have : ((List.range k).filter fun i => (Array.replicate l.toArray.size false).getD i false && isPutS ks i) = [] := by
      rw [List.filter_eq_nil_iff]; intro i _; rw [getD_replicate_false]; simp
    rw [this]; simp
  refine wp_region_any hm ?_
  have fin := any_order (P := P) (GP := GoodS n m G T0 out O Oi k ks) (g := l.toArray.size - k) (Q := fun e a' w' => ∃ σ', Q e σ' ∧ Rel n m G σ' a' w') H hks (fun hk => hsc.resolve_left (by omega)) (fun inv _ hi hik _ _ hg _ hK => head_stepS H hok hkp hJ' inv hi hik hg hK) (fun listed a w inv hall hg => by
    obtain ⟨T, Ov, hrT, hroom, h1, h2⟩ := hg
    have hOv : Ov = fillAllS ks Oi ++ List.replicate ((List.range k).filter fun i => isPutS ks i).length deadO := by
      have hcnt : ((List.range k).filter fun i => listed.getD i false && isPutS ks i) = (List.range k).filter fun i => isPutS ks i := by
        refine List.filter_congr fun i hi => ?_
        rw [hall i (List.mem_range.1 hi)]; rfl
      have hlen := hroom.len
      rw [hcnt] at hlen
      have hfl := fillAllS_len ks Oi
      apply List.ext_getElem?
      intro q
      rcases Nat.lt_or_ge q Oi.length with hq | hq
      · rw [List.getElem?_append_left (by omega)]
        rcases hroom.cur q hq with ⟨j, g, oc, hjk, hl, hg, hs, hlast, hv⟩ | ⟨hno, hv⟩ <;> rcases fillAllS_cases ks Oi q hq with ⟨j2, g2, oc2, hg2, hs2, hlast2, hv2⟩ | ⟨hno2, hv2⟩
        · have hj2k : j2 < k := by have := (List.getElem?_eq_some_iff.1 hg2).1; omega
          have : j = j2 := by
            rcases Nat.lt_trichotomy j j2 with h3 | h3 | h3
            · exact absurd hs2 (hlast j2 g2 oc2 h3 hj2k (hall j2 hj2k) hg2)
            · exact h3
            · exact absurd hs (hlast2 j g oc h3 hg)
          subst this
          rw [hg] at hg2; cases hg2
          rw [hs] at hs2; cases hs2
          rw [hv, hv2]
        · exact absurd hs (hno2 j g oc hg)
        · have hj2k : j2 < k := by have := (List.getElem?_eq_some_iff.1 hg2).1; omega
          exact absurd hs2 (hno j2 g2 oc2 hj2k (hall j2 hj2k) hg2)
        · rw [hv, hv2]
      · rcases Nat.lt_or_ge q Ov.length with h3 | h3
        · rw [hroom.dead q hq h3, List.getElem?_append_right (by omega), List.getElem?_replicate, if_pos (by omega)]
        · rw [List.getElem?_eq_none h3, List.getElem?_eq_none (by simp; omega)]
    subst hOv
    have hlist : listed = (Array.range l.toArray.size).map fun i => decide (i < k) := by
      apply Array.ext
      · simp [inv.size]
      · intro i hi1 hi2
        have hi : i < l.toArray.size := by rw [← inv.size]; exact hi1
        by_cases hik : i < k
        · have := hall i hik
          simp [hi1] at this
          simp [this, hik]
        · have := inv.tail i (by omega) hi
          simp [hi1] at this
          simp [this, hik]
    have hdl : (l.drop k).length = l.toArray.size - k := by simp
    rw [← hdl]
    refine wpAny_of_seq (l.drop k) k listed a w (fun j => by simp [List.getElem?_drop]) (by rw [hdl, hlist]; exact hseq) ?_
    refine h a w (hrT.relook fun t => ?_)
    rw [look_append]
    split
    · rename_i hh
      obtain ⟨i, hi, hi2⟩ := List.getElem_of_mem (has_look hh)
      have : out[i]? = some (t, look out t) := by rw [List.getElem?_eq_getElem hi, hi2]
      exact (h1 i _ _ this (hall i (by omega))).symm
    · rename_i hh
      exact (h2 t (by simpa using hh)).symm) k _ a w.drew inv0 (by
        have : ((List.range k).filter fun i => !(Array.replicate l.toArray.size false).getD i false) = List.range k := by
          rw [List.filter_eq_self]; intro i _; rw [getD_replicate_false]; rfl
        rw [this]; simp) ⟨T0, _, hr.drew, room0, ⟨fun i d V _ hl => (by rw [getD_replicate_false] at hl; cases hl), fun _ _ => rfl⟩⟩
  rw [show k + (l.toArray.size - k) = l.toArray.size by omega] at fin
  exact fin
def chainS (ops : Array Oper) (sh : List Nat) (c : Nat) : Nat → List (Nat × Nat) → List Fis → Bool
  | _, _, [] => true
  | j, seen, f :: ks => (f.sets.all fun x => Nat.blt x.1 c && seen.all fun s => !Nat.beq s.1 x.1 || (memB x.1 sh && reach ops 24 j s.2)) && chainS ops sh c (j + 1) (f.sets.map (fun x => (x.1, j)) ++ seen) ks
theorem chainS_lt {sh : List Nat} {c : Nat} : ∀ {ks : List Fis} {j : Nat} {seen : List (Nat × Nat)}, chainS ops sh c j seen ks = true → ∀ i f p ob, ks[i]? = some f → f.got p = some ob → p < c ∧ ∀ s ∈ seen, s.1 = p → memB p sh = true ∧ reach ops 24 (j + i) s.2 = true
  | [], _, _, _, i, f, p, ob, h, _ => by simp at h
  | g :: ks, j, seen, hB, i, f, p, ob, h, hs => by
    unfold chainS at hB
    rw [Bool.and_eq_true] at hB
    cases i with
    | zero =>
      simp at h; subst h
      obtain ⟨x, hx, e⟩ := lkF_mem hs
      have hx2 := List.all_eq_true.1 hB.1 x hx
      rw [Bool.and_eq_true] at hx2
      subst e
      refine ⟨Nat.le_of_ble_eq_true hx2.1, fun s hm e => ?_⟩
      have := List.all_eq_true.1 hx2.2 s hm
      simp only [Bool.or_eq_true, Bool.not_eq_true', Bool.and_eq_true] at this
      rcases this with h | ⟨h1, h2⟩
      · rw [e] at h; simp at h
      · refine ⟨h1, ?_⟩
        rw [Nat.add_zero]; exact h2
    | succ i =>
      have e : j + (i + 1) = j + 1 + i := by omega
      rw [e]
      have := chainS_lt hB.2 i f p ob (by simpa using h) hs
      exact ⟨this.1, fun s hm e => this.2 s (List.mem_append_right _ hm) e⟩
theorem chainS_pair {sh : List Nat} {c : Nat} : ∀ {ks : List Fis} {j : Nat} {seen : List (Nat × Nat)}, chainS ops sh c j seen ks = true → ∀ i i2 f g p ob oc, i < i2 → ks[i]? = some f → ks[i2]? = some g → f.got p = some ob → g.got p = some oc → memB p sh = true ∧ reach ops 24 (j + i2) (j + i) = true
  | [], _, _, _, i, i2, f, g, p, ob, oc, _, h, _, _, _ => by simp at h
  | x :: ks, j, seen, hB, i, i2, f, g, p, ob, oc, hlt, h, h2, hs, hs2 => by
    unfold chainS at hB
    rw [Bool.and_eq_true] at hB
    cases i2 with
    | zero => omega
    | succ i2 =>
      have e2 : j + (i2 + 1) = j + 1 + i2 := by omega
      cases i with
      | zero =>
        simp at h; subst h
        obtain ⟨y, hy, e⟩ := lkF_mem hs
        have := (chainS_lt hB.2 i2 g p oc (by simpa using h2) hs2).2 (p, j) (List.mem_append_left _ (by rw [← e]; exact List.mem_map_of_mem (f := fun x : Nat × AObj => (x.1, j)) hy)) rfl
        rw [e2]; exact this
      | succ i =>
        have e : j + (i + 1) = j + 1 + i := by omega
        rw [e, e2]
        exact chainS_pair hB.2 i i2 f g p ob oc (by omega) (by simpa using h) (by simpa using h2) hs hs2
theorem roomSOk_of {ks : List Fis} {c k : Nat} (h : chainS ops sh c 0 [] ks = true) : RoomSOk ops sh ks c k :=
  ⟨fun i f p ob _ hk hs => (chainS_lt h i f p ob hk hs).1, fun i j f g p ob oc hij _ hi hj hf hg => by
    have := chainS_pair h i j f g p ob oc hij hi hj hf hg
    rw [Nat.zero_add, Nat.zero_add] at this; exact this⟩
theorem HeadS.consF {fs fs2 out : List (Nat × AV)} {gs gs2 : List Fis} {o : Oper} {l : List Oper} {d : Nat} {V : AV} {F : List (Nat × AV)} {ks : List Fis} {cur : List AObj} (k : Fis) (hd : o.dst = some d) (hF : depsF fs o.after.toList = some F) (hcur : fillAllS gs Oi = cur)
    (h : ∀ Tv Ov, Oi.length ≤ Ov.length → (∀ p ob, k.got p = some ob → Ov[p]? = cur[p]?) → (∀ j f p ob, waits o j = true → gs[j]? = some f → f.got p = some ob → memB p sh = false → Ov[p]? = some ob) → (∀ q, memB q keep = true → Ov[q]? = Oi[q]?) → WpL P n m G false ops [o] ⟨F ++ (T0 ++ Tv), O ++ Ov⟩ (Only ⟨(d, V) :: (F ++ (T0 ++ Tv)), O ++ k.run Ov⟩)) (hs : catF fs [(d, V)] = some fs2) (hg : catF gs [k] = some gs2) (r : HeadS P n m G ops T0 O Oi keep sh fs2 gs2 l out ks) : HeadS P n m G ops T0 O Oi keep sh fs gs (o :: l) out ks := by
  have := catF_eq hs; subst this; have := catF_eq hg; subst this; subst hcur
  exact .cons k (depsF_eq hF) h r
theorem WpA.regionSF {l l1 l2 : List Oper} {id : Nat} {out T1 : List (Nat × AV)} {ks : List Fis} {Of Or O1 : List AObj} {Q : Exit → St → Prop} (k c : Nat) (keep sh : List Nat) (hO0 : Of = O ++ Or) (hm : P.follows .mixedOrders = true) (hB : mixB l.toArray k = true)
    (hl : takeF k l = some l1) (hJ : HeadS P n m G l.toArray T0 O (Or ++ List.replicate c roomO) keep sh [] [] l1 out ks) (hok : chainS l.toArray sh (Or.length + c) 0 [] ks = true) (hkp : keepB (Or.length + c) (spotsS ks) keep = true) (hnd : nodupB (out.map (·.1)) = true) (hfr : (out.all fun p => !has T0 p.1) = true)
    (hT1 : catF out T0 = some T1) (h2 : l.drop k = l2) (hO : O ++ (fillAllS ks (Or ++ List.replicate c roomO) ++ List.replicate ((List.range k).filter fun i => isPutS ks i).length deadO) = O1) (h : WpL P n m G false l.toArray l2 ⟨T1, O1⟩ Q) : WpA P n m G (.region id l.toArray true) ⟨T0, Of⟩ Q := by
  have := takeF_eq hl; subst this; subst h2; subst hO; subst hO0
  have hc : (Or ++ List.replicate c roomO).length = Or.length + c := by simp
  have hw := WpA.regionS (Q := Q) (id := id) k hm hB hJ (by rw [hc]; exact roomSOk_of hok) (fun q hq => by rw [hc]; exact keepB_ofS hkp hq) hnd hfr (catF_eq hT1) h
  have hr := Weak.rooms (m := m) (T := T0) c (O ++ Or)
  rw [List.append_assoc] at hr
  exact WpA.weak hr hw
end
end Go.Abs


namespace Go.Proofs.YtkckmenalehdpaaDoor
open Go Go.Abs
attribute [local irreducible] WpA WpL Rnd Blk Abs.Seq Abs.Fin Abs.FinG FnC FnG Only Go.Lib.itoa digL Go.Lib.join
theorem join4 (a b c d : List UInt8) : Go.Lib.join [a, b, c, d] [32] = a ++ [32] ++ b ++ [32] ++ c ++ [32] ++ d := by unfold Go.Lib.join; simp [List.intercalate]
theorem join5 (a b c d e : List UInt8) : Go.Lib.join [a, b, c, d, e] [32] = a ++ [32] ++ b ++ [32] ++ c ++ [32] ++ d ++ [32] ++ e := by unfold Go.Lib.join; simp [List.intercalate]
theorem join3 (a b c : List UInt8) : Go.Lib.join [a, b, c] [32] = a ++ [32] ++ b ++ [32] ++ c := by unfold Go.Lib.join; simp [List.intercalate]
instance ShowHeader_c : Con 9 (∀ (w h q : Int) (b d : Bool) (l : List Int), l.length ≤ 1048576 → Fn 9 [HdA w h q b d l] [] (Z (showH w h q b d l))) := ⟨fun w h q b d l hl => by
  refine FnC.of_body tabOk Tryd.func9 Tryd.ntmps9 rfl (by decide +kernel) (by simp) fun G => ?_
  refine goR (r := ?_); and_intros <;> intros <;> try exact True.intro
  · unfold showH; rw [if_neg (by assumption)]
  have ho : HdOk w h q l := by assumption
  have hw : I64 w := ⟨by have := ho.1.1; omega, by have := ho.1.2.1; omega⟩
  have hh : I64 h := ⟨by have := ho.1.2.2.1; omega, by have := ho.1.2.2.2.1; omega⟩
  have hq : I64 q := ⟨by have := ho.2.1; omega, by have := ho.2.1; omega⟩
  have hwl := decL_len w hw
  have hhl := decL_len h hh
  have hql := decL_len q hq
  obtain ⟨h9, h6⟩ := codeIn ho.2.2
  have hll : (digL l).length ≤ 126 := by
    have h1 := digL_len (l := l) fun v hv => by
      unfold In at h9
      have := h9 v hv
      exact ⟨by omega, by omega⟩
    omega
  apply WpA.regionSF (O := [⟨[I w, I h, I q, B b, B d, IL l], 0, 0, none⟩]) (Or := []) (O1 := [⟨[I w, I h, I q, B b, B d, IL l], 0, 0, none⟩, ⟨strs [decL w ++ [120] ++ decL h, [113] ++ decL q], 1, 1, some 9⟩, deadO]) 13 1 [] [] rfl mixed (by decide +kernel)
  · exact rfl
  · apply HeadS.consF .none rfl
    · exact rfl
    · exact rfl
    · exact in1
    · exact rfl
    · exact rfl
    apply HeadS.consF .none rfl
    · exact rfl
    · exact rfl
    · exact in1
    · exact rfl
    · exact rfl
    apply HeadS.consF (V := Z (decL w)) .none rfl
    · exact rfl
    · exact rfl
    · intro Tv Ov hc hp' hd hk
      refine K.call ?_
      refine K.con (fun hcon => ?_)
      refine WpL.callF (hcon w hw) snapA locA outA (cnt_some _ 0) rfl rfl (by decide) ?_
      rw [List.append_nil]
      exact WpL.nil (Only.mk rfl)
    · exact rfl
    · exact rfl
    apply HeadS.consF .none rfl
    · exact rfl
    · exact rfl
    · exact in1
    · exact rfl
    · exact rfl
    apply HeadS.consF .none rfl
    · exact rfl
    · exact rfl
    · exact in1
    · exact rfl
    · exact rfl
    apply HeadS.consF .none rfl
    · exact rfl
    · exact rfl
    · exact in1
    · exact rfl
    · exact rfl
    apply HeadS.consF (V := Z (decL h)) .none rfl
    · exact rfl
    · exact rfl
    · intro Tv Ov hc hp' hd hk
      refine K.call ?_
      refine K.con (fun hcon => ?_)
      refine WpL.callF (hcon h hh) snapA locA outA (cnt_some _ 0) rfl rfl (by decide) ?_
      rw [List.append_nil]
      exact WpL.nil (Only.mk rfl)
    · exact rfl
    · exact rfl
    apply HeadS.consF .none rfl
    · exact rfl
    · exact rfl
    · exact in1
    · exact rfl
    · exact rfl
    apply HeadS.consF .none rfl
    · exact rfl
    · exact rfl
    · exact in1
    · exact rfl
    · exact rfl
    apply HeadS.consF .none rfl
    · exact rfl
    · exact rfl
    · exact in1
    · exact rfl
    · exact rfl
    apply HeadS.consF (V := Z (decL q)) .none rfl
    · exact rfl
    · exact rfl
    · intro Tv Ov hc hp' hd hk
      refine K.call ?_
      refine K.con (fun hcon => ?_)
      refine WpL.callF (hcon q hq) snapA locA outA (cnt_some _ 0) rfl rfl (by decide) ?_
      rw [List.append_nil]
      exact WpL.nil (Only.mk rfl)
    · exact rfl
    · exact rfl
    apply HeadS.consF .none rfl
    · exact rfl
    · exact rfl
    · exact in1
    · exact rfl
    · exact rfl
    apply HeadS.consF (V := .own 1 1 0 2) (.put 0 (⟨strs [decL w ++ [120] ++ decL h, [113] ++ decL q], 1, 1, some 9⟩)) rfl
    · exact rfl
    · exact rfl
    · intro Tv Ov hc hp' hd hk
      refine WpL.litStrs tabOk rfl rfl rfl rfl rfl (by decide) (by rw [nid_len, Nat.zero_add]) (by decide) ?_
      apply WpL.putNil (p := 0)
      · exact hp' 0 _ rfl
      · exact Nat.le_of_ble_eq_true rfl
      · exact rfl
      · first | exact still_ints _ | exact still_rows (fun _ => rfl) _ | rfl
    · exact rfl
    · exact rfl
    exact HeadS.nil
  · exact rfl
  · exact rfl
  · exact rfl
  · exact rfl
  · exact rfl
  · exact rfl
  · exact rfl
  refine go (r := ?_); and_intros <;> intros <;> try exact True.intro
  all_goals simp only [List.cons_append, List.nil_append, join3, join4, join5]
  all_goals first
    | (simp only [List.length_append, List.length_cons, List.length_nil]; omega)
    | (unfold showH; rw [if_pos ho, show b = _ from by assumption, show d = _ from by assumption]; simp [bypassW, deblockW]; done)⟩
end Go.Proofs.YtkckmenalehdpaaDoor


namespace Go.Proofs.YtkckmenalehdpaaDoor
open Go Go.Abs
attribute [local irreducible] WpA WpL Rnd Blk Abs.Seq Abs.Fin Abs.FinG FnC FnG Only Go.Lib.itoa
theorem subD_take (s : List UInt8) (k : Nat) (h : k < s.length) : subD (s.take (k + 1)) = subD (s.take k) ++ [((s.getD k 0).toNat : Int) - 48] := by
  rw [List.take_succ_eq_append_getElem h]
  unfold subD
  rw [List.map_append]
  simp [h]
theorem all_take {s : List UInt8} {k : Nat} (h : k < s.length) : (s.take (k + 1)).all isD = ((s.take k).all isD && isD (s.getD k 0)) := by
  rw [List.take_succ_eq_append_getElem h, List.all_append]
  simp [h]
theorem all_not {s : List UInt8} {k : Nat} (h : k < s.length) (h2 : isD (s.getD k 0) = false) : s.all isD = false := by
  refine Bool.eq_false_iff.2 fun ha => ?_
  have := List.all_eq_true.1 ha (s.getD k 0) (by simp [h])
  rw [h2] at this; cases this
abbrev rdgR (s : List UInt8) : AV := .tup [.own 0 0 0 (rdg s).length, B (s.all isD && !s.isEmpty)]
instance readDigits_c : Con 43 (∀ s : List UInt8, s.length ≤ 1048576 → Fn 43 [Z s] [⟨ints (rdg s), 0, 1, some 3⟩] (rdgR s)) := ⟨fun s hl => by
  refine FnC.of_body tabOk Tryd.func43 Tryd.ntmps43 rfl (by decide +kernel) (by simp) fun G => ?_
  refine go (r := ?_); and_intros <;> intros <;> try exact True.intro
  refine WpA.loop (fun k : Nat => ⟨[(0, Z s), (4, .own 0 0 0 k), (8, I s.length), (9, I k)], [⟨ints (subD (s.take k)), 0, 1, some 3⟩]⟩) (fun k => k ≤ s.length ∧ (s.take k).all isD = true) (fun k => s.length - k) 0 ⟨by omega, by simp⟩ (go (r := trivial)) (fun k hk => ?_)
  obtain ⟨hk1, hk2⟩ := hk
  have hsl : (subD (s.take k)).length = k := by unfold subD; rw [List.length_map, List.length_take]; omega
  have hno : k < s.length → (((s.getD k 0).toNat : Int) < 48 ∨ ((s.getD k 0).toNat : Int) > 57) → s.all isD = false := fun h1 h2 => all_not h1 (by unfold isD; exact decide_eq_false (by omega))
  have hrd : s.all isD = false → rdg s = [] := fun h => by unfold rdg; rw [h]; rfl
  have hok : k = s.length → s.all isD = true := fun h => by rw [h, List.take_length] at hk2; exact hk2
  refine go (r := ?_); and_intros <;> intros <;> try exact True.intro
  all_goals first
  | (have h1 := hno (by omega) (.inl (by assumption))
     have h2 := hrd h1
     first | (rw [h2]; done) | (rw [h2]; rfl) | (rw [h1]; rfl))
  | (have h1 := hno (by omega) (.inr (by assumption))
     have h2 := hrd h1
     first | (rw [h2]; done) | (rw [h2]; rfl) | (rw [h1]; rfl))
  | (rw [all_take (by omega), hk2, Bool.true_and]; exact decide_eq_true (by omega))
  | (rw [subD_take s k (by omega), u8w _ (by omega), IntWalk.i64_in _ (by omega)]; done)
  | (have e : k = s.length := by omega
     have h1 := hok e
     have h2 : rdg s = subD s := by unfold rdg; rw [if_pos h1]
     have h3 : (subD s).length = s.length := by unfold subD; rw [List.length_map]
     first
     | (rw [h2, h3]; exact e)
     | (rw [h1]; cases s <;> rfl)
     | (rw [h2, e, List.take_length]))
  | trace_state⟩
theorem splitK_len (sep : List UInt8) : ∀ (k : Nat) (s : List UInt8), ∀ x ∈ Go.Lib.splitK sep 0 k s, x.length ≤ s.length
  | 0, s, x, h => by simp [Go.Lib.splitK] at h; subst h; exact Nat.le_refl _
  | k + 1, s, x, h => by
    rw [Go.Lib.splitK] at h
    split at h
    · simp at h; subst h; exact Nat.le_refl _
    · rcases List.mem_cons.1 h with rfl | h
      · rw [List.length_take]; omega
      · have := splitK_len sep k _ x h
        rw [List.length_drop] at this; omega
theorem wds_len (s : List UInt8) (i : Nat) : ((wds s).getD i []).length ≤ s.length := by
  by_cases h : i < (wds s).length
  · have hm : (wds s).getD i [] ∈ wds s := by simp [h]
    unfold wds at hm ⊢
    rw [splitL_split] at hm ⊢
    exact splitK_len _ _ _ _ hm
  · simp [List.getD_eq_getElem?_getD, List.getElem?_eq_none (Nat.le_of_not_lt h)]
theorem wds_num (s : List UInt8) : (wds s).length ≤ s.length + 1 := by
  have h1 := splitL_len s [32] (by decide)
  have h2 := Go.Lib.countB_le ⟨[32].toArray⟩ (by decide) s.length ⟨s.toArray⟩ (by rw [ba_size]; exact Nat.le_refl _)
  rw [ba_size] at h2
  unfold wds; omega
theorem cut_len (s sep : List UInt8) : (Go.Lib.cut s sep).1.length ≤ s.length ∧ (Go.Lib.cut s sep).2.1.length ≤ s.length := by
  unfold Go.Lib.cut
  split
  · simp only [List.length_take, List.length_drop]; omega
  · simp
theorem trim_len (s p : List UInt8) : (Go.Lib.trimPrefix s p).length ≤ s.length := by
  unfold Go.Lib.trimPrefix
  split
  · rw [List.length_drop]; omega
  · exact Nat.le_refl _
end Go.Proofs.YtkckmenalehdpaaDoor


namespace Go.Proofs.YtkckmenalehdpaaDoor
open Go Go.Abs
attribute [local irreducible] WpA WpL Rnd Blk Abs.Seq Abs.Fin Abs.FinG FnC FnG Only Go.Lib.itoa splitL Go.Lib.cut Go.Lib.trimPrefix rdec rdg
def rhW (s : List UInt8) : Int := if RhOk s then hW s else 0
def rhH (s : List UInt8) : Int := if RhOk s then hH s else 0
def rhQ (s : List UInt8) : Int := if RhOk s then hQ s else 0
def rhB (s : List UInt8) : Bool := if RhOk s then hB s else false
def rhD (s : List UInt8) : Bool := if RhOk s then hD s else false
def rhL (s : List UInt8) : List Int := if RhOk s then hL s else []
abbrev RhR (s : List UInt8) : AV := .tup [.agg [I (rhW s), I (rhH s), I (rhQ s), B (rhB s), B (rhD s), .own 0 0 0 (rhL s).length], B (decide (RhOk s))]
theorem rh_no {s : List UInt8} (h : ¬RhOk s) : 0 = rhW s ∧ 0 = rhH s ∧ 0 = rhQ s ∧ false = rhB s ∧ false = rhD s ∧ 0 = (rhL s).length ∧ false = decide (RhOk s) ∧ [] = rhL s := by
  unfold rhW rhH rhQ rhB rhD rhL
  simp only [if_neg h, decide_eq_false h, List.length_nil, and_self]
theorem rh_yes {s : List UInt8} (h : RhOk s) : hW s = rhW s ∧ hH s = rhH s ∧ hQ s = rhQ s ∧ hB s = rhB s ∧ hD s = rhD s ∧ (hL s).length = (rhL s).length ∧ true = decide (RhOk s) ∧ hL s = rhL s := by
  unfold rhW rhH rhQ rhB rhD rhL
  simp only [if_pos h, decide_eq_true h, and_self]
theorem rdg_len (s : List UInt8) : (rdg s).length ≤ s.length := by
  unfold rdg
  split
  · unfold subD; rw [List.length_map]; exact Nat.le_refl _
  · simp
abbrev anyW (w : List UInt8) (ws : List (List UInt8)) : Bool := ws.any fun x => decide (x = w)
theorem any_take (w : List UInt8) (ws : List (List UInt8)) (k : Nat) (h : k < ws.length) : anyW w (ws.take (k + 1)) = (anyW w (ws.take k) || decide (ws.getD k [] = w)) := by
  unfold anyW
  rw [List.take_succ_eq_append_getElem h, List.any_append]
  simp [h]
theorem mid_len (s : List UInt8) : (midW (wds s)).length = (wds s).length - 1 - 2 := by unfold midW; rw [List.length_take, List.length_drop]; omega
instance ReadHeaderText_c : Con 17 (∀ s : List UInt8, s.length ≤ 1048576 → Fn 17 [Z s] [⟨ints (rhL s), 0, 1, some 3⟩] (RhR s)) := ⟨fun s hl => by
  have hn := wds_num s
  have hwl := wds_len s
  have hw0 := hwl (Int.toNat 0)
  have hw1 := hwl (Int.toNat 1)
  have hw2 := hwl (((wds s).length : Int) - 1).toNat
  have hrl := rdg_len ((wds s).getD (((wds s).length : Int) - 1).toNat [])
  have hml := mid_len s
  have hc := cut_len ((wds s).getD (Int.toNat 0) []) [120]
  have ht := trim_len ((wds s).getD (Int.toNat 1) []) [113]
  have hS := Split_c.ok s [32] ⟨by omega, by decide⟩
  unfold wds at hn hw0 hw1 hw2 hc ht hrl hml
  refine FnC.of_body tabOk Tryd.func17 Tryd.ntmps17 rfl (by decide +kernel) (by simp) fun G => ?_
  refine goR (r := ?_); and_intros <;> intros <;> try exact True.intro
  refine K.call ?_
  apply WpL.callK hS
  · exact .keep rfl rfl (.keep rfl rfl .nil)
  · decide
  refine go (r := ?_); and_intros <;> intros <;> try exact True.intro
  all_goals first
  | (have hbad : ¬RhOk s := fun h => by have := h.1; unfold wds at this; omega
     have hr := rh_no hbad
     first | exact hr.1 | exact hr.2.1 | exact hr.2.2.1 | exact hr.2.2.2.1 | exact hr.2.2.2.2.1 | exact hr.2.2.2.2.2.1 | exact hr.2.2.2.2.2.2.1 | exact hr.2.2.2.2.2.2.2)
  | skip
  have h3 : ¬ ((splitL s [32]).length : Int) < 3 := by assumption
  have e51 : List.take (((((splitL s [32]).length : Int) - 1).toNat - Int.toNat 2) * 1) (List.drop (Int.toNat 2 * 1) (strs (splitL s [32]))) = strs (midW (splitL s [32])) := by
    unfold midW strs
    rw [Nat.mul_one, Nat.mul_one, ← List.map_drop, ← List.map_take]
    congr 2
    omega
  have e52 : ((((splitL s [32]).length : Int) - 1).toNat - Int.toNat 2) = (midW (splitL s [32])).length := by rw [hml]; omega
  rw [e51, e52]
  refine WpA.loop (fun k : Nat => ⟨[(0, Z s), (2, .ptr 0 0 0), (4, SL (splitL s [32])), (8, .ptr 1 0 0), (51, SL (midW (splitL s [32]))), (52, I (midW (splitL s [32])).length), (53, I k)], [⟨[I 0, I 0, I 0, B false, B false, .nilS], 0, 0, none⟩, ⟨[I (hW s), I (hH s), I (hQ s), B (anyW bypassW ((midW (splitL s [32])).take k)), B (anyW deblockW ((midW (splitL s [32])).take k)), .nilS], 0, 0, none⟩]⟩) (fun k => k ≤ (midW (splitL s [32])).length) (fun k => (midW (splitL s [32])).length - k) 0 (by omega) (go (r := trivial)) (fun k hk => ?_)
  have hend : ¬ ((k : Int) < (midW (splitL s [32])).length) → anyW bypassW ((midW (splitL s [32])).take k) = hB s ∧ anyW deblockW ((midW (splitL s [32])).take k) = hD s := fun h => by
    have e : k = (midW (splitL s [32])).length := by omega
    rw [e, List.take_length]; exact ⟨rfl, rfl⟩
  have elast : (((splitL s [32]).length : Int) - 1).toNat = (splitL s [32]).length - 1 := by omega
  have hLs : rdg ((splitL s [32]).getD (((splitL s [32]).length : Int) - 1).toNat []) = hL s := by rw [elast]; rfl
  have hstep : ∀ w, k < (midW (splitL s [32])).length → anyW w ((midW (splitL s [32])).take (k + 1)) = (anyW w ((midW (splitL s [32])).take k) || decide ((midW (splitL s [32])).getD k [] = w)) := fun w h => any_take w _ k h
  refine go (r := ?_); and_intros <;> intros <;> try exact True.intro
  all_goals first
  | (rw [hstep _ (by omega), show anyW bypassW ((midW (splitL s [32])).take k) = _ from by assumption]; rfl)
  | (rw [hstep _ (by omega), show anyW deblockW ((midW (splitL s [32])).take k) = _ from by assumption]; rfl)
  | (obtain ⟨b1, b2⟩ := hend (by assumption)
     have hbad : ¬RhOk s := fun h => absurd h.2 (by rw [← b1, ← b2, ← hLs]; assumption)
     have hr := rh_no hbad
     first | exact hr.1 | exact hr.2.1 | exact hr.2.2.1 | exact hr.2.2.2.1 | exact hr.2.2.2.2.1 | exact hr.2.2.2.2.2.1 | exact hr.2.2.2.2.2.2.1 | exact hr.2.2.2.2.2.2.2)
  | (obtain ⟨b1, b2⟩ := hend (by assumption)
     have hok : RhOk s := ⟨by unfold wds; omega, by rw [← b1, ← b2, ← hLs]; assumption⟩
     have hr := rh_yes hok
     first | exact hr.1 | exact hr.2.1 | exact hr.2.2.1 | (rw [b1]; exact hr.2.2.2.1) | (rw [b2]; exact hr.2.2.2.2.1) | (rw [hLs]; exact hr.2.2.2.2.2.1) | exact hr.2.2.2.2.2.2.1 | (rw [hLs]; exact hr.2.2.2.2.2.2.2))
  | trace_state⟩
end Go.Proofs.YtkckmenalehdpaaDoor


namespace Go.Proofs.YtkckmenalehdpaaDoor
open Go Go.Abs
attribute [local irreducible] WpA WpL Rnd Blk Abs.Seq Abs.Fin Abs.FinG FnC FnG Only Go.Lib.itoa splitL Go.Lib.cut Go.Lib.trimPrefix rdec rdg RhOk hW hH hQ hB hD hL
theorem sub6_succ (s : List UInt8) (j k : Nat) (h : j + k < s.length) : subD ((s.drop j).take (k + 1)) = subD ((s.drop j).take k) ++ [((s.getD (j + k) 0).toNat : Int) - 48] := by
  rw [List.take_succ_eq_append_getElem (by rw [List.length_drop]; omega)]
  unfold subD
  rw [List.map_append]
  simp [h]
def kB (k : Nat) : Bool := decide (1 < k)
def kD (k : Nat) : Bool := decide (k % 2 = 1)
def kOf (b d : Bool) : Nat := (if b then 2 else 0) + (if d then 1 else 0)
theorem kOf_ok (b d : Bool) : kOf b d < 4 ∧ kB (kOf b d) = b ∧ kD (kOf b d) = d := by cases b <;> cases d <;> decide
def Left (s : List UInt8) (w h q k : Int) : Prop := RhOk s → w < hW s ∨ (w = hW s ∧ (h < hH s ∨ (h = hH s ∧ (q < hQ s ∨ (q = hQ s ∧ k ≤ kOf (hB s) (hD s))))))
theorem left_bd {s : List UInt8} (hr : RhOk s) : 8 ≤ hW s ∧ hW s ≤ 32 ∧ hW s % 8 = 0 ∧ 8 ≤ hH s ∧ hH s ≤ 32 ∧ hH s % 8 = 0 ∧ 0 ≤ hQ s ∧ hQ s ≤ 51 := by
  obtain ⟨ho, _⟩ := rh_back hr
  obtain ⟨⟨h1, h2, h3, h4, h5, h6⟩, ⟨h7, h8⟩, _⟩ := ho
  exact ⟨h1, h2, by omega, h3, h4, by omega, h7, h8⟩
theorem left_init (s : List UInt8) : Left s (8 * ((1 : Nat) : Int)) 0 0 0 := fun hr => by have := left_bd hr; omega
theorem left_h {s : List UInt8} {w : Int} (h : Left s w 0 0 0) : Left s w (8 * ((1 : Nat) : Int)) 0 0 := fun hr => by have := left_bd hr; have := h hr; omega
theorem left_w {s : List UInt8} {u v : Nat} (hh : ¬ 8 * (v : Int) ≤ 32) (hl : Left s (8 * (u : Int)) (8 * (v : Int)) 0 0) : Left s (8 * ((u + 1 : Nat) : Int)) 0 0 0 := fun hr => by have := left_bd hr; have := hl hr; omega
theorem left_q {s : List UInt8} {u v q : Nat} (hq : ¬ (q : Int) ≤ 51) (hl : Left s (8 * (u : Int)) (8 * (v : Int)) q 0) : Left s (8 * (u : Int)) (8 * ((v + 1 : Nat) : Int)) 0 0 := fun hr => by have := left_bd hr; have := hl hr; omega
theorem left_p {s : List UInt8} {u v : Nat} (hp : RhOk s → ¬ (8 * (u : Int) = hW s ∧ 8 * (v : Int) = hH s)) (hl : Left s (8 * (u : Int)) (8 * (v : Int)) 0 0) : Left s (8 * (u : Int)) (8 * ((v + 1 : Nat) : Int)) 0 0 := fun hr => by have := left_bd hr; have := hl hr; have := hp hr; omega
theorem left_k {s : List UInt8} {w h : Int} {q k : Nat} (hk : ¬ (k : Int) < 4) (hl : Left s w h q k) : Left s w h ((q + 1 : Nat) : Int) 0 := fun hr => by
  have := left_bd hr; have := hl hr; have := (kOf_ok (hB s) (hD s)).1; omega
theorem left_end {s : List UInt8} {u : Nat} (hw : ¬ 8 * (u : Int) ≤ 32) (hl : Left s (8 * (u : Int)) 0 0 0) : ¬RhOk s := fun hr => by have := left_bd hr; have := hl hr; omega
theorem left_x {s : List UInt8} {w h q : Int} {k : Nat} (hx : ¬ showH w h q (decide ((k : Int) > 1)) (decide ((k : Int) % 2 = 1)) (sp6 s) = s) (hl : Left s w h q k) : Left s w h q ((k + 1 : Nat) : Int) := fun hr => by
  have := hl hr
  by_cases he : w = hW s ∧ h = hH s ∧ q = hQ s ∧ k = kOf (hB s) (hD s)
  · obtain ⟨rfl, rfl, rfl, hk⟩ := he
    obtain ⟨_, k2, k3⟩ := kOf_ok (hB s) (hD s)
    rw [← hk] at k2 k3
    have b1 : decide ((k : Int) > 1) = hB s := by rw [← k2]; unfold kB; exact decide_eq_decide.2 (by omega)
    have b2 : decide ((k : Int) % 2 = 1) = hD s := by rw [← k3]; unfold kD; exact decide_eq_decide.2 (by omega)
    rw [b1, b2, ← (rh_back hr).2.2.1] at hx
    unfold RhOk at hr
    exact absurd hr.2 hx
  · omega
theorem left_pre {s : List UInt8} {w h : Int} (hp : ((s.length : Int) < (decL w ++ [120] ++ decL h ++ [32, 113]).length) ∨ ¬ s.take (decL w ++ [120] ++ decL h ++ [32, 113]).length = decL w ++ [120] ++ decL h ++ [32, 113]) : RhOk s → ¬ (w = hW s ∧ h = hH s) := fun hr he => by
  obtain ⟨rfl, rfl⟩ := he
  obtain ⟨_, _, _, r, hs⟩ := rh_back hr
  generalize decL (hW s) ++ [120] ++ decL (hH s) ++ [32, 113] = p at hp hs
  rcases hp with hp | hp
  · have := congrArg List.length hs
    rw [List.length_append] at this; omega
  · exact hp (by conv => lhs; rw [hs]
                 exact List.take_left)
attribute [local irreducible] Left
instance ReadHeaderText_s : Con 16 (∀ s : List UInt8, s.length ≤ 1048576 → Fn 16 [Z s] [⟨ints (rhL s), 0, 1, some 3⟩] (RhR s)) := ⟨fun s hl => by
  refine FnC.of_body tabOk Tryd.func16 Tryd.ntmps16 rfl (by decide +kernel) (by simp) fun G => ?_
  refine go (r := ?_); and_intros <;> intros <;> try exact True.intro
  all_goals first
  | (have hbad : ¬RhOk s := fun h => by have := (rh_back h).2.1; omega
     have hr := rh_no hbad
     first | exact hr.1 | exact hr.2.1 | exact hr.2.2.1 | exact hr.2.2.2.1 | exact hr.2.2.2.2.1 | exact hr.2.2.2.2.2.1 | exact hr.2.2.2.2.2.2.1 | exact hr.2.2.2.2.2.2.2)
  | skip
  have h6 : ¬ (s.length : Int) < 6 := by assumption
  refine WpA.loop (fun j : Nat => ⟨[(0, Z s), (2, .ptr 0 0 0), (4, .own 1 0 0 j), (5, I ((s.length : Int) - 6 + j))], [⟨[I 0, I 0, I 0, B false, B false, .nilS], 0, 0, none⟩, ⟨ints (subD ((s.drop (s.length - 6)).take j)), 0, 1, some 3⟩]⟩) (fun j => j ≤ 6) (fun j => 6 - j) 0 (by omega) (go (r := ?_)) (fun j hj => ?_)
  · and_intros <;> first | exact True.intro | omega | rfl | trace_state
  have hsl : (subD ((s.drop (s.length - 6)).take j)).length = j := by unfold subD; rw [List.length_map, List.length_take, List.length_drop]; omega
  have hij : ((s.length : Int) - 6 + j).toNat = (s.length - 6) + j := by omega
  refine go (r := ?_); and_intros <;> intros <;> try exact True.intro
  · rw [hij, sub6_succ s _ j (by omega)]
  have hj6 : j = 6 := by omega
  subst hj6
  have e6 : subD ((s.drop (s.length - 6)).take 6) = sp6 s := by unfold sp6; rw [List.take_of_length_le (by rw [List.length_drop]; omega)]
  rw [e6] at hsl ⊢
  refine WpA.loop (fun u : Nat => ⟨[(0, Z s), (2, .ptr 0 0 0), (4, .own 1 0 0 6), (6, I (8 * (u : Int)))], [⟨[I 0, I 0, I 0, B false, B false, .nilS], 0, 0, none⟩, ⟨ints (sp6 s), 0, 1, some 3⟩]⟩) (fun u => 1 ≤ u ∧ u ≤ 5 ∧ Left s (8 * (u : Int)) 0 0 0) (fun u => 5 - u) 1 ⟨by decide, by decide, left_init s⟩ (go (r := trivial)) (fun u hu => ?_)
  obtain ⟨hu1, hu2, hu3⟩ := hu
  refine go (r := ?_); and_intros <;> intros <;> try exact True.intro
  all_goals first
  | (have hbad := left_end (by assumption) hu3
     have hr := rh_no hbad
     first | exact hr.1 | exact hr.2.1 | exact hr.2.2.1 | exact hr.2.2.2.1 | exact hr.2.2.2.2.1 | exact hr.2.2.2.2.2.1 | exact hr.2.2.2.2.2.2.1 | exact hr.2.2.2.2.2.2.2)
  | skip
  refine WpA.loop (fun v : Nat => ⟨[(0, Z s), (2, .ptr 0 0 0), (4, .own 1 0 0 6), (6, I (8 * (u : Int))), (7, I (8 * (v : Int)))], [⟨[I 0, I 0, I 0, B false, B false, .nilS], 0, 0, none⟩, ⟨ints (sp6 s), 0, 1, some 3⟩]⟩) (fun v => 1 ≤ v ∧ v ≤ 5 ∧ Left s (8 * (u : Int)) (8 * (v : Int)) 0 0) (fun v => 5 - v) 1 ⟨by decide, by decide, left_h hu3⟩ (go (r := trivial)) (fun v hv => ?_)
  obtain ⟨hv1, hv2, hv3⟩ := hv
  have hwl := decL_len (8 * (u : Int)) ⟨by omega, by omega⟩
  have hhl := decL_len (8 * (v : Int)) ⟨by omega, by omega⟩
  refine go (r := ?_); and_intros <;> intros <;> try exact True.intro
  all_goals first
  | exact left_w (by assumption) hv3
  | exact left_p (left_pre (.inl (by assumption))) hv3
  | exact left_p (left_pre (.inr (by assumption))) hv3
  | skip
  refine WpA.loop (fun q : Nat => ⟨[(0, Z s), (2, .ptr 0 0 0), (4, .own 1 0 0 6), (6, I (8 * (u : Int))), (7, I (8 * (v : Int))), (9, I q)], [⟨[I 0, I 0, I 0, B false, B false, .nilS], 0, 0, none⟩, ⟨ints (sp6 s), 0, 1, some 3⟩]⟩) (fun q => q ≤ 52 ∧ Left s (8 * (u : Int)) (8 * (v : Int)) q 0) (fun q => 52 - q) 0 ⟨by decide, hv3⟩ (go (r := trivial)) (fun q hq => ?_)
  obtain ⟨hq1, hq2⟩ := hq
  refine go (r := ?_); and_intros <;> intros <;> try exact True.intro
  all_goals first
  | exact left_q (by assumption) hq2
  | skip
  refine WpA.loop (fun k : Nat => ⟨[(0, Z s), (2, .ptr 0 0 0), (4, .own 1 0 0 6), (6, I (8 * (u : Int))), (7, I (8 * (v : Int))), (9, I q), (10, I k)], [⟨[I 0, I 0, I 0, B false, B false, .nilS], 0, 0, none⟩, ⟨ints (sp6 s), 0, 1, some 3⟩]⟩) (fun k => k ≤ 4 ∧ Left s (8 * (u : Int)) (8 * (v : Int)) q k) (fun k => 4 - k) 0 ⟨by decide, hq2⟩ (go (r := trivial)) (fun k hk => ?_)
  obtain ⟨hk1, hk2⟩ := hk
  refine go (r := ?_); and_intros <;> intros <;> try exact True.intro
  all_goals first
  | exact left_k (by assumption) hk2
  | exact left_x (by assumption) hk2
  | (have hs0 : s ≠ [] := fun e => by rw [e] at h6; exact h6 (by decide)
     obtain ⟨f0, f1, f2, f3, f4, f5, f6⟩ := rh_found hs0 (show showH _ _ _ _ _ _ = s from by assumption)
     have hr := rh_yes f0
     rw [f1, f2, f3, f4, f5, f6] at hr
     first | exact hr.1 | exact hr.2.1 | exact hr.2.2.1 | exact hr.2.2.2.1 | exact hr.2.2.2.2.1 | exact hsl.symm.trans hr.2.2.2.2.2.1 | exact hr.2.2.2.2.2.2.1 | exact hr.2.2.2.2.2.2.2)
  | trace_state⟩
end Go.Proofs.YtkckmenalehdpaaDoor


namespace Go.Proofs.YtkckmenalehdpaaDoor
open Go Go.Abs
attribute [local irreducible] WpA WpL Rnd Blk Abs.Seq Abs.Fin Abs.FinG FnC FnG Only
def marksI (k : Int) (n : Nat) : List Int := (List.range n).map fun i : Nat => k + (i : Int)
@[simp] theorem marksI_len (k : Int) (n : Nat) : (marksI k n).length = n := by simp [marksI]
instance markIntS_c : ConG 37 (∀ (l : List Int) (k : Int), l.length ≤ 1099511627776 ∧ 0 ≤ k ∧ k ≤ 1099511627776 → Gn 37 [.own 0 0 0 l.length, I k] [IN l] [IN (marksI k l.length)] [] (I (k + l.length))) := ⟨fun l k hk => by
  refine FnG.of_bodyF tabOk Tryd.func37 Tryd.ntmps37 rfl (by decide +kernel) (by simp) rfl rfl fun G => ?_
  refine go (r := ?_); and_intros <;> intros <;> try exact True.intro
  refine WpA.loop (fun i : Nat => ⟨[(0, .own 0 0 0 l.length), (1, I (k + i)), (5, I i)], [IN (marksI k i ++ l.drop i)]⟩) (fun i => i ≤ l.length) (fun i => l.length - i) 0 (by simp) (go (r := ?_)) (fun i hi => ?_)
  · simp [marksI]
  have hml := marksI_len k i
  refine go (r := ?_); and_intros <;> intros <;> try exact True.intro
  · first | exact mark_step (fun i : Nat => k + (i : Int)) l i (by omega) | (simp only [Nat.mul_one, Int.toNat_natCast]; exact mark_step (fun i : Nat => k + (i : Int)) l i (by omega))
  · have : i = l.length := by omega
    subst this; simp⟩
instance heldIntS_c : Con 38 (∀ (l : List Int) (k : Int), l.length ≤ 1099511627776 ∧ 0 ≤ k ∧ k ≤ 1099511627776 → Fn 38 [IL l, I k] [] (I (if l = marksI k l.length then k + l.length else -1))) := ⟨fun l k hk => by
  refine FnC.of_body tabOk Tryd.func38 Tryd.ntmps38 rfl (by decide +kernel) (by simp) fun G => ?_
  refine go (r := ?_); and_intros <;> intros <;> try exact True.intro
  refine WpA.loop (fun i : Nat => ⟨[(0, IL l), (1, I (k + i)), (5, I i)], []⟩) (fun i => i ≤ l.length ∧ l.take i = marksI k i) (fun i => l.length - i) 0 (by simp [marksI]) (go (r := ?_)) (fun i hi => ?_)
  · simp
  refine go (r := ?_); and_intros <;> intros <;> try exact True.intro
  · rw [if_neg]; exact held_not (fun i : Nat => k + (i : Int)) 0 l i (by omega) ‹_›
  · exact held_step (fun i : Nat => k + (i : Int)) 0 l i (by omega) hi.2 ‹_›
  · have : i = l.length := by omega
    subst this; rw [if_pos (by simpa using hi.2)]⟩
def marksB (k : Int) (n : Nat) : List Bool := (List.range n).map fun i : Nat => decide ((k + (i : Int)) % 3 = 0)
@[simp] theorem marksB_len (k : Int) (n : Nat) : (marksB k n).length = n := by simp [marksB]
end Go.Proofs.YtkckmenalehdpaaDoor


namespace Go.Proofs.YtkckmenalehdpaaDoor
open Go Go.Abs
attribute [local irreducible] WpA WpL Rnd Blk Abs.Seq Abs.Fin Abs.FinG FnC FnG Only
attribute [local simp] Abs.setL
instance eqHeader_c : Con 10 (∀ (w h q : Int) (b d : Bool) (l : List Int) (w2 h2 q2 : Int) (b2 d2 : Bool) (l2 : List Int), l.length ≤ 1099511627776 ∧ l2.length ≤ 1099511627776 →
    Fn 10 [HdA w h q b d l, HdA w2 h2 q2 b2 d2 l2] [] (B (decide (w = w2 ∧ h = h2 ∧ q = q2 ∧ b = b2 ∧ d = d2 ∧ l = l2)))) := ⟨fun w h q b d l w2 h2 q2 b2 d2 l2 hl => by
  refine FnC.of_body tabOk Tryd.func10 Tryd.ntmps10 rfl (by decide +kernel) (by simp) fun G => ?_
  refine go (r := ?_); and_intros <;> intros <;> try exact True.intro
  all_goals simp_all⟩
instance markHeader_c : ConG 18 (∀ (w h q : Int) (b d : Bool) (l : List Int) (k : Int), l.length ≤ 1048576 ∧ 0 ≤ k ∧ k ≤ 1073741824 →
    Gn 18 [.agg [I w, I h, I q, B b, B d, .own 0 0 0 l.length], I k] [IN l] [IN (marksI k l.length)] [] (I (k + l.length))) := ⟨fun w h q b d l k hk => by
  refine FnG.of_bodyF tabOk Tryd.func18 Tryd.ntmps18 rfl (by decide +kernel) (by simp) rfl rfl fun G => ?_
  refine go (r := ?_); and_intros <;> intros <;> try exact True.intro⟩
def endB (k : Int) (l : List Blok) : Int := k + bw l
def markB : Int → List Blok → List Blok
  | _, [] => []
  | k, b :: l => (k, marksI (k + 1) b.2.length) :: markB (k + 1 + b.2.length) l
@[simp] theorem markB_len : ∀ (l : List Blok) (k : Int), (markB k l).length = l.length
  | [], k => rfl
  | b :: l, k => by rw [markB, List.length_cons, List.length_cons, markB_len l]
def markM : Int → List Mbk → List Mbk
  | _, [] => []
  | k, m :: l => (decide (k % 3 = 0), markB (k + 1) m.2) :: markM (k + 1 + bw m.2) l
@[simp] theorem markM_len : ∀ (l : List Mbk) (k : Int), (markM k l).length = l.length
  | [], k => rfl
  | b :: l, k => by rw [markM, List.length_cons, List.length_cons, markM_len l]
instance heldHeader_c : Con 19 (∀ (w h q : Int) (b d : Bool) (l : List Int) (k : Int), (l.length ≤ 1048576 ∧ 0 ≤ k ∧ k ≤ 1024) ∧ l = marksI k l.length → Fn 19 [HdA w h q b d l, I k] [] (I (k + l.length))) := ⟨fun w h q b d l k hk => by
  obtain ⟨hk, hm⟩ := hk
  refine FnC.of_body tabOk Tryd.func19 Tryd.ntmps19 rfl (by decide +kernel) (by simp) fun G => ?_
  refine go (r := ?_); and_intros <;> intros <;> try exact True.intro
  all_goals first | (rw [if_pos hm] at *; first | omega | contradiction | rfl) | trace_state⟩
end Go.Proofs.YtkckmenalehdpaaDoor


namespace Go.Proofs.YtkckmenalehdpaaDoor
open Go Go.Abs
attribute [local irreducible] WpA WpL Rnd Blk Abs.Seq Abs.Fin Abs.FinG FnC FnG Only
attribute [local irreducible] RhOk rhW rhH rhQ rhB rhD rhL
theorem rhL_len {s : List UInt8} : (rhL s).length ≤ 6 := by
  unfold rhL
  split
  · rename_i h
    have := (codeIn (rh_back h).1.2.2).2
    omega
  · simp
section
attribute [-instance] ReadHeaderText_c ReadHeaderText_s
theorem rhX_0 (s : List UInt8) (hl : s.length ≤ 1048576) : Fn 5 [Z s] [] (B true) := by
  have hs := ReadHeaderText_s.ok s hl
  have hi := ReadHeaderText_c.ok s hl
  have hrl := rhL_len (s := s)
  have hml : ∀ n, (marksI 1 n).length = n := fun n => by simp [marksI]
  unfold RhR at hs hi
  generalize rhL s = R at *
  generalize rhW s = W at *
  generalize rhH s = H at *
  generalize rhQ s = Q at *
  generalize rhB s = b at *
  generalize rhD s = d at *
  generalize decide (RhOk s) = ok at *
  refine FnC.of_body tabOk Tryd.func5 Tryd.ntmps5 rfl (by decide +kernel) (by simp) fun G => ?_
  refine goR (r := ?_); and_intros <;> intros <;> try exact True.intro
  all_goals first | contradiction | omega | skip
  refine K.call ?_
  refine WpL.callF hs snapA locA outA rfl rfl rfl (by decide) ?_
  refine goR (r := ?_); and_intros <;> intros <;> try exact True.intro
  all_goals first | contradiction | omega | (exfalso; rename_i hg; revert hg; simp; done) | skip
  refine K.call ?_
  refine WpL.callF hi snapA locA outA rfl rfl rfl (by decide) ?_
  refine goR (r := ?_); and_intros <;> intros <;> try exact True.intro
  all_goals first | contradiction | omega | (exfalso; rename_i hg; revert hg; simp; done) | skip
  refine K.call ?_
  refine WpL.callF hi snapA locA outA rfl rfl rfl (by decide) ?_
  refine goR (r := ?_); and_intros <;> intros <;> try exact True.intro
  all_goals first | contradiction | omega | (exfalso; rename_i hg; revert hg; simp; done) | trace_state
end
theorem rhX_big (s : List UInt8) (hl : s.length ≤ 9223372036854775807) (hb : ¬ s.length ≤ 1048576) : Fn 5 [Z s] [] (B true) := by
  refine FnC.of_body tabOk Tryd.func5 Tryd.ntmps5 rfl (by decide +kernel) (by simp) fun G => ?_
  refine goR (r := ?_); and_intros <;> intros <;> try exact True.intro
  all_goals first | contradiction | omega | trace_state
theorem FnExactReadHeaderText_c (s : List UInt8) (hl : s.length ≤ 9223372036854775807) : Fn 5 [Z s] [] (B true) := by
  by_cases hb : s.length ≤ 1048576
  · exact rhX_0 s hb
  · exact rhX_big s hl hb
end Go.Proofs.YtkckmenalehdpaaDoor


namespace Go.Abs
open Go Go.RowKit
theorem FnC.walk {P : Program} {f : FuncId} {args : List AV} {N : List AObj} {x : Value} (hc : FnC P f args N (.sc x)) {w : World} {S : Nat → Prop} {vs : List Value} (hS : ∀ b, S b → b < w.heap.size) (hg : GlbOk S w)
    (hl : LRel S w (fun _ => none) [] args vs []) : Calls P f vs.toArray w fun e w' => e = .returned x ∧ Below w.heap.size w w' := by
  refine (hc.2 w S vs hS hg hl).mono fun e w' h => ?_
  obtain ⟨v, S', ι, F, rfl, _, _, _, _, _, hv, hk⟩ := h
  cases hv with
  | sc r => exact ⟨rfl, hk.os, hk.tape, hk.output, hk.size, fun b hb => hk.block b hb (fun h => h)⟩
theorem spot_none {w : World} {x : Addr} {n : Nat} (h : 0 < n) (hc : ∀ i, i < n → ∃ v, w.cell? (x.add i) = some v) : x.spot = none := by
  obtain ⟨v, hv⟩ := hc 0 h
  simpa [Addr.add] using World.cell?_spot hv
end Go.Abs
