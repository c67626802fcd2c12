/- Proved in this text: lemmas and contracts of functions that the claim uses (parts: AbsYr, FMbL, RdHs, RdP, ParL, FMbX, Bridge, Read, Read2, Read3). No condition. -/
import Derived.Test.YtgkeopmihhcbiaaPkM14
import Derived.Test.YtgkeopmihhcbiaaPkM13
import Derived.Test.YtgkeopmihhcbiaaPkM3
import Derived.Below
import Derived.ChangeArms
import Derived.Test.YtgkeopmihhcbiaaPkM4
import Derived.Test.YtgkeopmihhcbiaaPkM11

/- Regions that draw their order, further: operations that yield nothing (stores), and places that several operations touch, each waiting for those before it. No condition. -/
namespace Go.Abs
open Go
set_option linter.unusedVariables false
set_option linter.unusedSimpArgs false

inductive HeadR (P : Program) (n m : Nat) (G : Ctx) (ops : Array Oper) (T0 : List (Nat × AV)) (O Oi : List AObj) (keep sh : List Nat) : List (Nat × AV) → List Fil → List Oper → List (Nat × AV) → List Fil → Prop
  | nil {fs gs} : HeadR P n m G ops T0 O Oi keep sh fs gs [] fs gs
  | cons {fs out : List (Nat × AV)} {gs : List Fil} {o : Oper} {l : List Oper} {d : Nat} {V : AV} {F : List (Nat × AV)} {ks : List Fil} (k : Fil) (hF : deps fs o = F)
      (h : ∀ Tv Ov, Oi.length ≤ Ov.length → (∀ p ob, k.spot = some (p, ob) → Ov[p]? = (fillAll gs Oi)[p]?) → (∀ j f p ob, waits o j = true → gs[j]? = some f → f.spot = some (p, ob) → memB p sh = false → Ov[p]? = some ob) → (∀ q, memB q keep = true → Ov[q]? = Oi[q]?) →
        WpL P n m G false ops [o] ⟨F ++ (T0 ++ Tv), O ++ Ov⟩ (Only ⟨(d, V) :: (F ++ (T0 ++ Tv)), O ++ k.run Ov⟩)) (r : HeadR P n m G ops T0 O Oi keep sh (fs ++ [(d, V)]) (gs ++ [k]) l out ks) : HeadR P n m G ops T0 O Oi keep sh fs gs (o :: l) out ks

section
variable {P : Program} {n m : Nat} {G : Ctx} {ops : Array Oper} {T0 : List (Nat × AV)} {O Oi : List AObj} {keep sh : List Nat}

theorem HeadR.pre {fs gs l out ks} (h : HeadR P n m G ops T0 O Oi keep sh fs gs l out ks) : ∃ r s, out = fs ++ r ∧ r.length = l.length ∧ ks = gs ++ s ∧ s.length = l.length := by
  induction h with
  | nil => exact ⟨[], [], by simp, rfl, by simp, rfl⟩
  | @cons fs out gs o l d V F ks k _ _ _ ih => obtain ⟨r, s, h1, h2, h3, h4⟩ := ih; exact ⟨(d, V) :: r, k :: s, by rw [h1]; simp, by simp [h2], by rw [h3]; simp, by simp [h4]⟩

theorem HeadR.at {fs gs l out ks} (h : HeadR P n m G ops T0 O Oi keep sh fs gs l out ks) (hg : gs.length = fs.length) : ∀ {j : Nat} {o : Oper}, l[j]? = some o → ∃ d V k, out[fs.length + j]? = some (d, V) ∧ ks[fs.length + j]? = some k ∧
    ∀ Tv Ov, Oi.length ≤ Ov.length → (∀ p ob, k.spot = some (p, ob) → Ov[p]? = (fillAll (ks.take (fs.length + j)) Oi)[p]?) → (∀ i f p ob, waits o i = true → (ks.take (fs.length + j))[i]? = some f → f.spot = some (p, ob) → memB p sh = false → Ov[p]? = some ob) → (∀ q, memB q keep = true → Ov[q]? = Oi[q]?) →
      WpL P n m G false ops [o] ⟨deps (out.take (fs.length + j)) o ++ (T0 ++ Tv), O ++ Ov⟩ (Only ⟨(d, V) :: (deps (out.take (fs.length + j)) o ++ (T0 ++ Tv)), O ++ k.run Ov⟩) := by
  induction h with
  | nil => intro j o h; simp at h
  | @cons fs out gs o l d V F ks k hF h r ih =>
    intro j o' hj
    obtain ⟨r', s', h1, h2, h3, h4⟩ := r.pre
    cases j with
    | zero =>
      simp only [List.getElem?_cons_zero, Option.some.injEq] at hj
      subst hj
      refine ⟨d, V, k, by rw [h1]; simp, by rw [h3]; simp [hg], ?_⟩
      have : out.take (fs.length + 0) = fs := by rw [h1, Nat.add_zero, List.append_assoc, List.take_left']; rfl
      have e2 : ks.take (fs.length + 0) = gs := by rw [h3, Nat.add_zero, List.append_assoc, List.take_left']; exact hg
      rw [this, hF, e2]; exact h
    | succ j =>
      have := ih (by simp [hg]) (j := j) (o := o') (by simpa using hj)
      rw [List.length_append, List.length_singleton, Nat.add_assoc, Nat.add_comm 1 j] at this
      simpa using this

/-- What a place holds: what the last operation that touches it left, or what was there. -/
theorem fillAll_cases : ∀ (L : List Fil) (Oi : List AObj) (q : Nat), q < Oi.length → (∃ (i : Nat) (f : Fil) (ob : AObj), L[i]? = some f ∧ f.spot = some (q, ob) ∧ (∀ (j : Nat) (g : Fil) (oc : AObj), i < j → L[j]? = some g → g.spot ≠ some (q, oc)) ∧ (fillAll L Oi)[q]? = some ob) ∨
    ((∀ (j : Nat) (g : Fil) (oc : AObj), L[j]? = some g → g.spot ≠ some (q, oc)) ∧ (fillAll L Oi)[q]? = Oi[q]?)
  | [], Oi, q, hq => .inr ⟨fun j g oc h => by simp at h, rfl⟩
  | f :: L, Oi, q, hq => by
    rw [fillAll]
    cases hs : f.spot with
    | none =>
      rcases fillAll_cases L Oi q hq with ⟨i, g, ob, h1, h2, h3, h4⟩ | ⟨h1, h2⟩
      · refine .inl ⟨i + 1, g, ob, by simpa using h1, h2, fun j g' oc hj hg => ?_, h4⟩
        cases j with
        | zero => omega
        | succ j => exact h3 j g' oc (by omega) (by simpa using hg)
      · refine .inr ⟨fun j g oc hg => ?_, h2⟩
        cases j with
        | zero => simp at hg; subst hg; rw [hs]; simp
        | succ j => exact h1 j g oc (by simpa using hg)
    | some x =>
      obtain ⟨p, ob0⟩ := x
      simp only
      rcases fillAll_cases L (Oi.set p ob0) q (by simpa using hq) with ⟨i, g, ob, h1, h2, h3, h4⟩ | ⟨h1, h2⟩
      · refine .inl ⟨i + 1, g, ob, by simpa using h1, h2, fun j g' oc hj hg => ?_, h4⟩
        cases j with
        | zero => omega
        | succ j => exact h3 j g' oc (by omega) (by simpa using hg)
      · by_cases e : p = q
        · subst e
          refine .inl ⟨0, f, ob0, by simp, hs, fun j g' oc hj hg => ?_, by rw [h2, List.getElem?_set_self hq]⟩
          cases j with
          | zero => omega
          | succ j => exact h1 j g' oc (by simpa using hg)
        · refine .inr ⟨fun j g oc hg => ?_, by rw [h2, List.getElem?_set, if_neg e]⟩
          cases j with
          | zero => simp at hg; subst hg; rw [hs]; intro h; cases h; exact e rfl
          | succ j => exact h1 j g oc (by simpa using hg)

structure RoomR (ks : List Fil) (Oi : List AObj) (k : Nat) (listed : Array Bool) (Ov : List AObj) : Prop where
  len : Ov.length = Oi.length + ((List.range k).filter fun i => listed.getD i false && isPut ks i).length
  cur : ∀ q, q < Oi.length → (∃ i f ob, i < k ∧ listed.getD i false = true ∧ ks[i]? = some f ∧ f.spot = some (q, ob) ∧ (∀ j g oc, i < j → j < k → listed.getD j false = true → ks[j]? = some g → g.spot ≠ some (q, oc)) ∧ Ov[q]? = some ob) ∨
    ((∀ j g oc, j < k → listed.getD j false = true → ks[j]? = some g → g.spot ≠ some (q, oc)) ∧ Ov[q]? = Oi[q]?)
  dead : ∀ q, Oi.length ≤ q → q < Ov.length → Ov[q]? = some deadO
/-- Every place lies among the places; what touches a place touched before is shared and waits for that. -/
structure RoomROk (ops : Array Oper) (sh : List Nat) (ks : List Fil) (c k : Nat) : Prop where
  lt : ∀ i f p ob, i < k → ks[i]? = some f → f.spot = some (p, ob) → p < c
  chain : ∀ i j f g p ob oc, i < j → j < k → ks[i]? = some f → ks[j]? = some g → f.spot = some (p, ob) → g.spot = some (p, oc) → memB p sh = true ∧ ∃ o, ops[j]? = some o ∧ waits o i = true

theorem waits_spec {o : Oper} {j : Nat} (h : waits o j = true) : ∃ e ∈ o.after, Region.binds .any e = true ∧ e.on = j := by
  obtain ⟨e, he, hb⟩ := List.any_eq_true.1 h
  rw [Bool.and_eq_true] at hb
  exact ⟨e, by simpa using he, hb.1, Nat.eq_of_beq_eq_true hb.2⟩

theorem RoomR.before {ks : List Fil} {k i : Nat} {listed : Array Bool} {Ov : List AObj} {f : Fil} {o : Oper} (h : RoomR ks Oi k listed Ov) (ok : RoomROk ops sh ks Oi.length k) (inv : HeadInv .any ops k listed) (hik : i < k) (hu : listed.getD i false = false) (hall : ∀ e ∈ o.after, Region.binds .any e = true → listed.getD e.on false = true) (ho : ops[i]? = some o) (hf : ks[i]? = some f) {p : Nat} {ob : AObj} (hsp : f.spot = some (p, ob)) :
    Ov[p]? = (fillAll (ks.take i) Oi)[p]? := by
  have hp := ok.lt i f p ob hik hf hsp
  -- what touches the place before it is listed, what touches it behind is not
  have hbef : ∀ j g oc, j < i → ks[j]? = some g → g.spot = some (p, oc) → listed.getD j false = true := by
    intro j g oc hj hg hs
    obtain ⟨_, o', ho', hw⟩ := ok.chain j i g f p oc ob hj hik hg hf hs hsp
    rw [ho] at ho'; cases ho'
    obtain ⟨e, he, hb, rfl⟩ := waits_spec hw
    exact hall e he hb
  have haft : ∀ j g oc, i < j → j < k → ks[j]? = some g → g.spot = some (p, oc) → listed.getD j false = false := by
    intro j g oc hj hjk hg hs
    obtain ⟨_, o', ho', hw⟩ := ok.chain i j f g p ob oc hj hjk hf hg hsp hs
    cases hl : listed.getD j false with
    | false => rfl
    | true =>
      obtain ⟨e, he, hb, rfl⟩ := waits_spec hw
      have := inv.closed j o' ho' hl e he hb
      rw [hu] at this; cases this
  have htk : ∀ j g, (ks.take i)[j]? = some g → j < i ∧ ks[j]? = some g := by
    intro j g hg
    rw [List.getElem?_take] at hg
    split at hg
    · rename_i hj; exact ⟨hj, hg⟩
    · cases hg
  rcases h.cur p hp with ⟨j, g, oc, hjk, hl, hg, hs, hlast, hv⟩ | ⟨hno, hv⟩ <;> rcases fillAll_cases (ks.take i) Oi p hp with ⟨j2, g2, oc2, hg2, hs2, hlast2, hv2⟩ | ⟨hno2, hv2⟩
  · obtain ⟨hj2, hg2⟩ := htk j2 g2 hg2
    have hji : j < i := by
      rcases Nat.lt_trichotomy j i with h1 | h1 | h1
      · exact h1
      · subst h1; rw [hu] at hl; cases hl
      · rw [haft j g oc h1 hjk hg hs] at hl; cases hl
    have : j = j2 := by
      rcases Nat.lt_trichotomy j j2 with h1 | h1 | h1
      · exact absurd hs2 (hlast j2 g2 oc2 h1 (by omega) (hbef j2 g2 oc2 hj2 hg2 hs2) hg2)
      · exact h1
      · exact absurd hs (hlast2 j g oc h1 (by rw [List.getElem?_take, if_pos hji]; exact hg))
    subst this
    rw [hg] at hg2; cases hg2
    rw [hs] at hs2; cases hs2
    rw [hv, hv2]
  · have hji : j < i := by
      rcases Nat.lt_trichotomy j i with h1 | h1 | h1
      · exact h1
      · subst h1; rw [hu] at hl; cases hl
      · rw [haft j g oc h1 hjk hg hs] at hl; cases hl
    exact absurd hs (hno2 j g oc (by rw [List.getElem?_take, if_pos hji]; exact hg))
  · obtain ⟨hj2, hg2⟩ := htk j2 g2 hg2
    exact absurd hs2 (hno j2 g2 oc2 (by omega) (hbef j2 g2 oc2 hj2 hg2 hs2) hg2)
  · rw [hv, hv2]

theorem RoomR.step {ks : List Fil} {k i : Nat} {listed : Array Bool} {Ov : List AObj} {f : Fil} (h : RoomR ks Oi k listed Ov) (ok : RoomROk ops sh ks Oi.length k) (inv : HeadInv .any ops k listed) (hik : i < k) (hs : i < listed.size) (hu : listed.getD i false = false) (hf : ks[i]? = some f) :
    RoomR ks Oi k (listed.setIfInBounds i true) (f.run Ov) := by
  have hself : (listed.setIfInBounds i true).getD i false = true := by simp [hs]
  have hcnt := count_set (f := isPut ks) hik hs hu
  have hlen := h.len
  have hp : isPut ks i = f.isPut := by unfold isPut; rw [hf]; rfl
  rw [hp] at hcnt
  have hrl : (f.run Ov).length = Ov.length + (if f.isPut = true then 1 else 0) := by cases f <;> simp [Fil.run, Fil.isPut]
  have hle : Oi.length ≤ Ov.length := by omega
  have hoth : ∀ q, q < Ov.length → (∀ p ob, f.spot = some (p, ob) → p ≠ q) → (f.run Ov)[q]? = Ov[q]? := by
    intro q hq hne
    cases f with
    | none => rfl
    | put p ob =>
      have := hne p ob rfl
      unfold Fil.run
      rw [List.getElem?_append_left (by simpa using hq), List.getElem?_set, if_neg this]
    | step p ob =>
      have := hne p ob rfl
      unfold Fil.run
      rw [List.getElem?_set, if_neg this]
  have hown : ∀ p ob, f.spot = some (p, ob) → (f.run Ov)[p]? = some ob := by
    intro p ob e
    have hpc := ok.lt i f p ob hik hf e
    cases f with
    | none => cases e
    | put p' ob' =>
      cases e
      unfold Fil.run
      rw [List.getElem?_append_left (by rw [List.length_set]; omega), List.getElem?_set_self (by omega)]
    | step p' ob' =>
      cases e
      unfold Fil.run
      rw [List.getElem?_set_self (by omega)]
  refine ⟨by rw [hrl, hcnt, hlen]; split <;> omega, fun q hq => ?_, fun q h1 h2 => ?_⟩
  · by_cases hq2 : ∃ ob, f.spot = some (q, ob)
    · obtain ⟨ob, hsp⟩ := hq2
      refine .inl ⟨i, f, ob, hik, hself, hf, hsp, fun j g oc hj hjk hl hg hs2 => ?_, hown q ob hsp⟩
      rw [getD_set_ne false (by omega)] at hl
      obtain ⟨_, o', ho', hw⟩ := ok.chain i j f g q ob oc hj hjk hf hg hsp hs2
      obtain ⟨e, he, hb, rfl⟩ := waits_spec hw
      have := inv.closed j o' ho' hl e he hb
      rw [hu] at this; cases this
    · have hne : ∀ p ob, f.spot = some (p, ob) → p ≠ q := fun p ob hsp e => hq2 ⟨ob, e ▸ hsp⟩
      rw [hoth q (by omega) hne]
      rcases h.cur q hq with ⟨j, g, oc, hjk, hl, hg, hs2, hlast, hv⟩ | ⟨hno, hv⟩
      · have hij : i ≠ j := by rintro rfl; rw [hu] at hl; cases hl
        refine .inl ⟨j, g, oc, hjk, by rw [getD_set_ne false hij]; exact hl, hg, hs2, fun j2 g2 oc2 h1 h2 h3 h4 => ?_, hv⟩
        by_cases e : i = j2
        · subst e; rw [hf] at h4; cases h4; exact fun h5 => hq2 ⟨_, h5⟩
        · rw [getD_set_ne false e] at h3; exact hlast j2 g2 oc2 h1 h2 h3 h4
      · refine .inr ⟨fun j2 g2 oc2 h2 h3 h4 => ?_, hv⟩
        by_cases e : i = j2
        · subst e; rw [hf] at h4; cases h4; exact fun h5 => hq2 ⟨_, h5⟩
        · rw [getD_set_ne false e] at h3; exact hno j2 g2 oc2 h2 h3 h4
  · rcases Nat.lt_or_ge q Ov.length with h3 | h3
    · rw [hoth q h3 (fun p ob e1 => by have := ok.lt i f p ob hik hf e1; omega)]
      exact h.dead q h1 h3
    · cases f with
      | none => exact absurd h2 (by simp [Fil.run]; omega)
      | step p ob => exact absurd h2 (by simp [Fil.run]; omega)
      | put p ob =>
        simp [Fil.run] at h2
        have e : q = Ov.length := by omega
        subst e
        unfold Fil.run
        rw [List.getElem?_append_right (by simp)]; simp

def GoodR (n m : Nat) (G : Ctx) (T0 out : List (Nat × AV)) (O Oi : List AObj) (k : Nat) (ks : List Fil) (listed : Array Bool) (a : Act) (w : World) : Prop :=
  ∃ T Ov, Rel n m G ⟨T, O ++ Ov⟩ a w ∧ RoomR ks Oi k listed Ov ∧ (∀ (i d : Nat) (V : AV), out[i]? = some (d, V) → listed.getD i false = true → look T d = V) ∧ ∀ t, has out t = false → look T t = look T0 t
theorem head_stepR {out : List (Nat × AV)} {ks : List Fil} {k : Nat} (H : Heads ops T0 out k) (ok : RoomROk ops sh ks Oi.length k) (hkp : ∀ q, memB q keep = true → q < Oi.length ∧ ∀ i f p ob, i < k → ks[i]? = some f → f.spot = some (p, ob) → p ≠ q) {Q : Exit → Act → World → Prop} (hJ : ∀ {j : Nat} {o : Oper}, j < k → ops[j]? = some o → ∃ d V f, out[j]? = some (d, V) ∧ ks[j]? = some f ∧
      ∀ Tv Ov, Oi.length ≤ Ov.length → (∀ p ob, f.spot = some (p, ob) → Ov[p]? = (fillAll (ks.take j) Oi)[p]?) → (∀ i f p ob, waits o i = true → (ks.take j)[i]? = some f → f.spot = some (p, ob) → memB p sh = false → Ov[p]? = some ob) → (∀ q, memB q keep = true → Ov[q]? = Oi[q]?) → WpL P n m G false ops [o] ⟨deps (out.take j) o ++ (T0 ++ Tv), O ++ Ov⟩ (Only ⟨(d, V) :: (deps (out.take j) o ++ (T0 ++ Tv)), O ++ f.run Ov⟩))
    {listed : Array Bool} (inv : HeadInv .any ops k listed) {i : Nat} (hi : i ∈ Region.ready .any ops listed) (hik : i < k) {a w} (hg : GoodR n m G T0 out O Oi k ks listed a w) {K : Act → World → Prop}
    (hK : ∀ a' w', GoodR n m G T0 out O Oi k ks (listed.setIfInBounds i true) a' w' → K a' w') : wpOp P ops Q i K a w := by
  obtain ⟨hun, o, ho, hall⟩ := mem_ready.1 hi
  obtain ⟨T, Ov, hr, hroom, h1, h2⟩ := hg
  obtain ⟨d, V, f, hout, hkf, hw⟩ := hJ hik ho
  have hF : ∀ t U, (t, U) ∈ deps (out.take i) o → look T t = U := by
    intro t U hm
    simp only [deps, List.mem_filterMap] at hm
    obtain ⟨e, he, hx⟩ := hm
    split at hx
    · rename_i hb
      have he' : e ∈ o.after := by simpa using he
      have hx' : out[e.on]? = some (t, U) := by
        rw [List.getElem?_take] at hx
        split at hx
        · exact hx
        · simp at hx
      exact h1 _ _ _ hx' (hall e he' hb)
    · simp at hx
  have same : ∀ t, look (deps (out.take i) o ++ (T0 ++ T)) t = look T t := by
    intro t
    rw [look_append]
    split
    · rename_i h; exact (hF _ _ (has_look h)).symm
    · rw [look_append]
      split
      · rename_i h
        refine (h2 t ?_).symm
        cases hc : has out t with
        | false => rfl
        | true => have := H.fresh _ (has_look hc); simp only at this; rw [this] at h; cases h
      · rfl
  have hiu : listed.getD i false = false := getD_both hun
  have hdep : ∀ j g p ob, waits o j = true → (ks.take i)[j]? = some g → g.spot = some (p, ob) → memB p sh = false → Ov[p]? = some ob := by
    intro j g p ob hwt hg hsp hsh
    obtain ⟨e, he, hb, rfl⟩ := waits_spec hwt
    have hl := hall e he hb
    rw [List.getElem?_take] at hg
    split at hg
    · rename_i hji
      have hp := ok.lt e.on g p ob (by omega) hg hsp
      rcases hroom.cur p hp with ⟨j2, g2, oc, hjk, hl2, hg2, hs2, hlast, hv⟩ | ⟨hno, hv⟩
      · have hj : j2 = e.on := by
          rcases Nat.lt_trichotomy j2 e.on with h3 | h3 | h3
          · have := (ok.chain j2 e.on g2 g p oc ob h3 (by omega) hg2 hg hs2 hsp).1
            rw [hsh] at this; cases this
          · exact h3
          · have := (ok.chain e.on j2 g g2 p ob oc h3 hjk hg hg2 hsp hs2).1
            rw [hsh] at this; cases this
        subst hj
        rw [hg] at hg2; cases hg2
        rw [hsp] at hs2; cases hs2
        exact hv
      · exact absurd hsp (hno e.on g ob (by omega) hl hg)
    · cases hg
  have hrest : ∀ q, memB q keep = true → Ov[q]? = Oi[q]? := by
    intro q hq
    obtain ⟨hlt, hno⟩ := hkp q hq
    rcases hroom.cur q hlt with ⟨j, g, oc, hjk, _, hg, hs2, _, _⟩ | ⟨_, hv⟩
    · exact absurd rfl (hno j g q oc hjk hg hs2)
    · exact hv
  have hw' := hw T Ov (by rw [hroom.len]; omega) (fun p ob e => hroom.before ok inv hik hiu hall ho hkf e) hdep hrest a w (hr.relook same)
  have hst := hroom.step ok inv hik (by rw [inv.size]; have := (Array.getElem?_eq_some_iff.1 ho).1; omega) hiu hkf
  simp only at hw'
  have good : ∀ a' w', Rel n m G ⟨(d, V) :: (deps (out.take i) o ++ (T0 ++ T)), O ++ f.run Ov⟩ a' w' → GoodR n m G T0 out O Oi k ks (listed.setIfInBounds i true) a' w' := by
    intro a' w' hr'
    refine ⟨_, _, hr', hst, fun j d' V' hj hl => ?_, fun t ht => ?_⟩
    · by_cases hij : i = j
      · subst hij; rw [hout] at hj; cases hj; exact look_cons_same _ _ _
      · rw [getD_set_ne false hij] at hl
        have hne : d ≠ d' := by rintro rfl; exact hij (out_inj H.nodup hout hj)
        rw [look_cons_other _ _ _ _ hne, same]
        exact h1 _ _ _ hj hl
    · have hne : d ≠ t := by
        rintro rfl
        have := has_mem (List.mem_of_getElem? hout)
        rw [ht] at this; cases this
      rw [look_cons_other _ _ _ _ hne, same]; exact h2 t ht
  have only : ∀ e a' w', (∃ σ', Only ⟨(d, V) :: (deps (out.take i) o ++ (T0 ++ T)), O ++ f.run Ov⟩ e σ' ∧ Rel n m G σ' a' w') → e = .normal ∧ K a' w' := by
    rintro e a' w' ⟨σ', hq, hr'⟩
    cases e <;> first | (simp only [Only] at hq; subst hq; exact ⟨rfl, hK _ _ (good _ _ hr')⟩) | exact hq.elim
  unfold wpOp
  simp only [ho]
  change wpList P ops _ [o] a w at hw'
  unfold wpList at hw'
  by_cases hwant : Region.wanted o (yielded ops a.tmps) = true
  · rw [if_pos hwant] at hw' ⊢
    rcases hw' with hw' | ⟨_, a', w', hx⟩
    · refine .inl ?_
      unfold Oper.wp at hw' ⊢
      generalize (execOp a.eval o).run P w = r at *
      cases r with
      | ok x w1 =>
        cases x <;> simp only [Oper.upon] at hw' ⊢
        case value v => exact (only _ _ _ hw').2
        case skip => exact (only _ _ _ hw').2
        case defer d => exact (only _ _ _ hw').2
        case enter f args =>
          refine hw'.mono fun e w2 h2 => ?_
          cases e with
          | returned v => exact (only _ _ _ h2).2
          | panicked c => exact absurd (only _ _ _ h2).1 (by simp)
          | outgrown => obtain ⟨_, _, hf⟩ := h2; exact absurd (only _ _ _ hf).1 (by simp)
        case row r ar => exact hw'.mono fun v w2 h2 => (only _ _ _ h2).2
      | halt x w1 => cases x <;> simp only [Oper.upon] at hw' ⊢ <;> first | exact absurd (only _ _ _ hw').1 (by simp) | exact hw'.elim | (obtain ⟨_, _, hf⟩ := hw'; exact absurd (only _ _ _ hf).1 (by simp))
    · exact absurd (only _ _ _ hx).1 (by simp)
  · rw [if_neg hwant] at hw' ⊢
    exact (only _ _ _ hw').2

theorem WpA.regionR {l : List Oper} {id : Nat} {out T1 : List (Nat × AV)} {ks : List Fil} {Q : Exit → St → Prop} (k : Nat) (hm : P.follows .mixedOrders = true) (hB : mixB l.toArray k = true)
    (hJ : HeadR P n m G l.toArray T0 O Oi keep sh [] [] (l.take k) out ks) (hok : RoomROk l.toArray sh ks Oi.length k) (hkp : ∀ q, memB q keep = true → q < Oi.length ∧ ∀ i f p ob, i < k → ks[i]? = some f → f.spot = some (p, ob) → p ≠ q) (hnd : nodupB (out.map (·.1)) = true) (hfr : (out.all fun p => !has T0 p.1) = true)
    (hT1 : out ++ T0 = T1) (h : WpL P n m G false l.toArray (l.drop k) ⟨T1, O ++ (fillAll ks Oi ++ List.replicate ((List.range k).filter fun i => isPut ks i).length deadO)⟩ Q) : WpA P n m G (.region id l.toArray true) ⟨T0, O ++ Oi⟩ Q := fun a w hr => by
  subst hT1
  simp only [mixB, Bool.and_eq_true, decide_eq_true_eq, Bool.or_eq_true] at hB
  obtain ⟨⟨⟨hks, hback⟩, hsc⟩, hseq⟩ := hB
  have hkl : k ≤ l.length := by simpa using hks
  have htl : (l.take k).length = k := by simp; omega
  obtain ⟨r, s, hr1, hr2, hr3, hr4⟩ := hJ.pre
  have hlen : out.length = k := by rw [hr1]; simp [hr2]; omega
  have hklen : ks.length = k := by rw [hr3]; simp [hr4]; omega
  have H : Heads l.toArray T0 out k := ⟨hlen, nodupB_spec hnd, fun p hp => by have := List.all_eq_true.1 hfr p hp; simpa using this, fun i hi o ho e he hb => by
    have h1 := List.all_eq_true.1 hback i (List.mem_range.2 hi)
    rw [ho] at h1
    have h2 := List.all_eq_true.1 h1 e (by simpa using he)
    simp only [Bool.or_eq_true, Bool.not_eq_true', decide_eq_true_eq] at h2
    rcases h2 with h2 | h2
    · rw [hb] at h2; cases h2
    · exact h2⟩
  have hJ' : ∀ {j : Nat} {o : Oper}, j < k → l.toArray[j]? = some o → ∃ d V f, out[j]? = some (d, V) ∧ ks[j]? = some f ∧
      ∀ Tv Ov, Oi.length ≤ Ov.length → (∀ p ob, f.spot = some (p, ob) → Ov[p]? = (fillAll (ks.take j) Oi)[p]?) → (∀ i f p ob, waits o i = true → (ks.take j)[i]? = some f → f.spot = some (p, ob) → memB p sh = false → Ov[p]? = some ob) → (∀ q, memB q keep = true → Ov[q]? = Oi[q]?) → WpL P n m G false l.toArray [o] ⟨deps (out.take j) o ++ (T0 ++ Tv), O ++ Ov⟩ (Only ⟨(d, V) :: (deps (out.take j) o ++ (T0 ++ Tv)), O ++ f.run Ov⟩) := by
    intro j o hj ho
    have ho' : (l.take k)[j]? = some o := by rw [List.getElem?_take, if_pos hj]; simpa using ho
    have := hJ.at rfl ho'
    simpa using this
  have inv0 : HeadInv .any l.toArray k (Array.replicate l.toArray.size false) :=
    ⟨by simp, fun j oj _ hl => (by rw [getD_replicate_false] at hl; cases hl), fun t _ ht => getD_in (by simpa using ht) (getD_replicate_false _ _)⟩
  have room0 : RoomR ks Oi k (Array.replicate l.toArray.size false) Oi := by
    refine ⟨?_, fun q _ => .inr ⟨fun j g oc _ hl => (by rw [getD_replicate_false] at hl; cases hl), rfl⟩, fun q h1 h2 => by omega⟩
    have : ((List.range k).filter fun i => (Array.replicate l.toArray.size false).getD i false && isPut ks i) = [] := by
      rw [List.filter_eq_nil_iff]; intro i _; rw [getD_replicate_false]; simp
    rw [this]; simp
  refine wp_region_any hm ?_
  have fin := any_order (P := P) (GP := GoodR n m G T0 out O Oi k ks) (g := l.toArray.size - k) (Q := fun e a' w' => ∃ σ', Q e σ' ∧ Rel n m G σ' a' w') H hks (fun hk => hsc.resolve_left (by omega)) (fun inv _ hi hik _ _ hg _ hK => head_stepR H hok hkp hJ' inv hi hik hg hK) (fun listed a w inv hall hg => by
    obtain ⟨T, Ov, hrT, hroom, h1, h2⟩ := hg
    have hOv : Ov = fillAll ks Oi ++ List.replicate ((List.range k).filter fun i => isPut ks i).length deadO := by
      have hcnt : ((List.range k).filter fun i => listed.getD i false && isPut ks i) = (List.range k).filter fun i => isPut ks i := by
        refine List.filter_congr fun i hi => ?_
        rw [hall i (List.mem_range.1 hi)]; rfl
      have hlen := hroom.len
      rw [hcnt] at hlen
      have hfl := fillAll_len ks Oi
      apply List.ext_getElem?
      intro q
      rcases Nat.lt_or_ge q Oi.length with hq | hq
      · rw [List.getElem?_append_left (by omega)]
        rcases hroom.cur q hq with ⟨j, g, oc, hjk, hl, hg, hs, hlast, hv⟩ | ⟨hno, hv⟩ <;> rcases fillAll_cases ks Oi q hq with ⟨j2, g2, oc2, hg2, hs2, hlast2, hv2⟩ | ⟨hno2, hv2⟩
        · have hj2k : j2 < k := by have := (List.getElem?_eq_some_iff.1 hg2).1; omega
          have : j = j2 := by
            rcases Nat.lt_trichotomy j j2 with h3 | h3 | h3
            · exact absurd hs2 (hlast j2 g2 oc2 h3 hj2k (hall j2 hj2k) hg2)
            · exact h3
            · exact absurd hs (hlast2 j g oc h3 hg)
          subst this
          rw [hg] at hg2; cases hg2
          rw [hs] at hs2; cases hs2
          rw [hv, hv2]
        · exact absurd hs (hno2 j g oc hg)
        · have hj2k : j2 < k := by have := (List.getElem?_eq_some_iff.1 hg2).1; omega
          exact absurd hs2 (hno j2 g2 oc2 hj2k (hall j2 hj2k) hg2)
        · rw [hv, hv2]
      · rcases Nat.lt_or_ge q Ov.length with h3 | h3
        · rw [hroom.dead q hq h3, List.getElem?_append_right (by omega), List.getElem?_replicate, if_pos (by omega)]
        · rw [List.getElem?_eq_none h3, List.getElem?_eq_none (by simp; omega)]
    subst hOv
    have hlist : listed = (Array.range l.toArray.size).map fun i => decide (i < k) := by
      apply Array.ext
      · simp [inv.size]
      · intro i hi1 hi2
        have hi : i < l.toArray.size := by rw [← inv.size]; exact hi1
        by_cases hik : i < k
        · have := hall i hik
          simp [hi1] at this
          simp [this, hik]
        · have := inv.tail i (by omega) hi
          simp [hi1] at this
          simp [this, hik]
    have hdl : (l.drop k).length = l.toArray.size - k := by simp
    rw [← hdl]
    refine wpAny_of_seq (l.drop k) k listed a w (fun j => by simp [List.getElem?_drop]) (by rw [hdl, hlist]; exact hseq) ?_
    refine h a w (hrT.relook fun t => ?_)
    rw [look_append]
    split
    · rename_i hh
      obtain ⟨i, hi, hi2⟩ := List.getElem_of_mem (has_look hh)
      have : out[i]? = some (t, look out t) := by rw [List.getElem?_eq_getElem hi, hi2]
      exact (h1 i _ _ this (hall i (by omega))).symm
    · rename_i hh
      exact (h2 t (by simpa using hh)).symm) k _ a w.drew inv0 (by
        have : ((List.range k).filter fun i => !(Array.replicate l.toArray.size false).getD i false) = List.range k := by
          rw [List.filter_eq_self]; intro i _; rw [getD_replicate_false]; rfl
        rw [this]; simp) ⟨T0, _, hr.drew, room0, ⟨fun i d V _ hl => (by rw [getD_replicate_false] at hl; cases hl), fun _ _ => rfl⟩⟩
  rw [show k + (l.toArray.size - k) = l.toArray.size by omega] at fin
  exact fin

/-- Every place lies among c places; the shared ones are touched in order. -/
def chainR (ops : Array Oper) (sh : List Nat) (c : Nat) : Nat → List (Nat × Nat) → List Fil → Bool
  | _, _, [] => true
  | j, seen, f :: ks => match f.spot with
    | none => chainR ops sh c (j + 1) seen ks
    | some (p, _) => Nat.blt p c && (seen.all fun s => !Nat.beq s.1 p || (memB p sh && match ops[j]? with | some o => waits o s.2 | none => false)) && chainR ops sh c (j + 1) ((p, j) :: seen) ks
theorem chainR_lt {sh : List Nat} {c : Nat} : ∀ {ks : List Fil} {j : Nat} {seen : List (Nat × Nat)}, chainR ops sh c j seen ks = true → ∀ i f p ob, ks[i]? = some f → f.spot = some (p, ob) → p < c ∧ ∀ s ∈ seen, s.1 = p → memB p sh = true ∧ ∃ o, ops[j + i]? = some o ∧ waits o s.2 = true
  | [], _, _, _, i, f, p, ob, h, _ => by simp at h
  | g :: ks, j, seen, hB, i, f, p, ob, h, hs => by
    unfold chainR at hB
    cases i with
    | zero =>
      simp at h; subst h
      rw [hs] at hB
      simp only [Bool.and_eq_true] at hB
      refine ⟨Nat.le_of_ble_eq_true hB.1.1, fun s hm e => ?_⟩
      have := List.all_eq_true.1 hB.1.2 s hm
      simp only [Bool.or_eq_true, Bool.not_eq_true', Bool.and_eq_true] at this
      rcases this with h | ⟨h1, h2⟩
      · subst e; simp at h
      · refine ⟨h1, ?_⟩
        rw [Nat.add_zero]
        split at h2
        · rename_i o ho; exact ⟨o, ho, h2⟩
        · cases h2
    | succ i =>
      have e : j + (i + 1) = j + 1 + i := by omega
      rw [e]
      cases hg : g.spot with
      | none => rw [hg] at hB; exact chainR_lt hB i f p ob (by simpa using h) hs
      | some x =>
        obtain ⟨p', ob'⟩ := x
        rw [hg] at hB
        simp only [Bool.and_eq_true] at hB
        have := chainR_lt hB.2 i f p ob (by simpa using h) hs
        exact ⟨this.1, fun s hm e => this.2 s (List.mem_cons_of_mem _ hm) e⟩
theorem chainR_pair {sh : List Nat} {c : Nat} : ∀ {ks : List Fil} {j : Nat} {seen : List (Nat × Nat)}, chainR ops sh c j seen ks = true → ∀ i i2 f g p ob oc, i < i2 → ks[i]? = some f → ks[i2]? = some g → f.spot = some (p, ob) → g.spot = some (p, oc) → memB p sh = true ∧ ∃ o, ops[j + i2]? = some o ∧ waits o (j + i) = true
  | [], _, _, _, i, i2, f, g, p, ob, oc, _, h, _, _, _ => by simp at h
  | x :: ks, j, seen, hB, i, i2, f, g, p, ob, oc, hlt, h, h2, hs, hs2 => by
    unfold chainR at hB
    cases i2 with
    | zero => omega
    | succ i2 =>
      have e2 : j + (i2 + 1) = j + 1 + i2 := by omega
      cases i with
      | zero =>
        simp at h; subst h
        rw [hs] at hB
        simp only [Bool.and_eq_true] at hB
        have := (chainR_lt hB.2 i2 g p oc (by simpa using h2) hs2).2 (p, j) (by simp) rfl
        rw [e2]; exact this
      | succ i =>
        have e : j + (i + 1) = j + 1 + i := by omega
        rw [e, e2]
        cases hg : x.spot with
        | none => rw [hg] at hB; exact chainR_pair hB i i2 f g p ob oc (by omega) (by simpa using h) (by simpa using h2) hs hs2
        | some y =>
          obtain ⟨p', ob'⟩ := y
          rw [hg] at hB
          simp only [Bool.and_eq_true] at hB
          exact chainR_pair hB.2 i i2 f g p ob oc (by omega) (by simpa using h) (by simpa using h2) hs hs2
theorem roomROk_of {ks : List Fil} {c k : Nat} (h : chainR ops sh c 0 [] ks = true) : RoomROk ops sh ks c k :=
  ⟨fun i f p ob _ hk hs => (chainR_lt h i f p ob hk hs).1, fun i j f g p ob oc hij _ hi hj hf hg => by
    have := chainR_pair h i j f g p ob oc hij hi hj hf hg
    rw [Nat.zero_add, Nat.zero_add] at this; exact this⟩
theorem HeadR.consF {fs fs2 out : List (Nat × AV)} {gs gs2 : List Fil} {o : Oper} {l : List Oper} {d : Nat} {V : AV} {F : List (Nat × AV)} {ks : List Fil} {cur : List AObj} (k : Fil) (hd : o.dst = some d) (hF : depsF fs o.after.toList = some F) (hcur : fillAll gs Oi = cur)
    (h : ∀ Tv Ov, Oi.length ≤ Ov.length → (∀ p ob, k.spot = some (p, ob) → Ov[p]? = cur[p]?) → (∀ j f p ob, waits o j = true → gs[j]? = some f → f.spot = some (p, ob) → memB p sh = false → Ov[p]? = some ob) → (∀ q, memB q keep = true → Ov[q]? = Oi[q]?) → WpL P n m G false ops [o] ⟨F ++ (T0 ++ Tv), O ++ Ov⟩ (Only ⟨(d, V) :: (F ++ (T0 ++ Tv)), O ++ k.run Ov⟩)) (hs : catF fs [(d, V)] = some fs2) (hg : catF gs [k] = some gs2) (r : HeadR P n m G ops T0 O Oi keep sh fs2 gs2 l out ks) : HeadR P n m G ops T0 O Oi keep sh fs gs (o :: l) out ks := by
  have := catF_eq hs; subst this; have := catF_eq hg; subst this; subst hcur
  exact .cons k (depsF_eq hF) h r
theorem Weak.any1 {d : Nat} {T : List (Nat × AV)} : Weak m ⟨T, O⟩ ⟨(d, .any) :: T, O⟩ := by
  rintro n G a w ⟨S, ι, F, hr⟩
  refine ⟨S, ι, F, hr.defers, hr.size, fun t => ?_, hr.objs, hr.foot, hr.base, hr.stable, hr.keeps, hr.spots, hr.mle⟩
  show VRel S w ι O (look ((d, .any) :: T) t) _ []
  by_cases he : d = t
  · subst he; rw [look_cons_same]; exact .any .nil
  · rw [look_cons_other _ _ _ _ he]; exact hr.tmps t
/-- An operation that yields nothing: 'd' is a slot that stands for it alone. -/
theorem HeadR.consN {fs fs2 out : List (Nat × AV)} {gs gs2 : List Fil} {o : Oper} {l : List Oper} {F : List (Nat × AV)} {ks : List Fil} {cur : List AObj} (k : Fil) (d : Nat) (hF : depsF fs o.after.toList = some F) (hcur : fillAll gs Oi = cur)
    (h : ∀ Tv Ov, Oi.length ≤ Ov.length → (∀ p ob, k.spot = some (p, ob) → Ov[p]? = cur[p]?) → (∀ j f p ob, waits o j = true → gs[j]? = some f → f.spot = some (p, ob) → memB p sh = false → Ov[p]? = some ob) → (∀ q, memB q keep = true → Ov[q]? = Oi[q]?) → WpL P n m G false ops [o] ⟨F ++ (T0 ++ Tv), O ++ Ov⟩ (Only ⟨(d, .any) :: (F ++ (T0 ++ Tv)), O ++ k.run Ov⟩)) (hs : catF fs [(d, .any)] = some fs2) (hg : catF gs [k] = some gs2) (r : HeadR P n m G ops T0 O Oi keep sh fs2 gs2 l out ks) : HeadR P n m G ops T0 O Oi keep sh fs gs (o :: l) out ks := by
  have := catF_eq hs; subst this; have := catF_eq hg; subst this; subst hcur
  exact .cons k (depsF_eq hF) h r
/-- A region whose operations make objects in any order, or turn some of Or: c places stand ready for what is made; the places of 'sh' are touched by several operations in their order. -/
theorem WpA.regionRF {l l1 l2 : List Oper} {id : Nat} {out T1 : List (Nat × AV)} {ks : List Fil} {Of Or O1 : List AObj} {Q : Exit → St → Prop} (k c : Nat) (keep sh : List Nat) (hO0 : Of = O ++ Or) (hm : P.follows .mixedOrders = true) (hB : mixB l.toArray k = true)
    (hl : takeF k l = some l1) (hJ : HeadR P n m G l.toArray T0 O (Or ++ List.replicate c roomO) keep sh [] [] l1 out ks) (hok : chainR l.toArray sh (Or.length + c) 0 [] ks = true) (hkp : keepB (Or.length + c) (spots ks) keep = true) (hnd : nodupB (out.map (·.1)) = true) (hfr : (out.all fun p => !has T0 p.1) = true)
    (hT1 : catF out T0 = some T1) (h2 : l.drop k = l2) (hO : O ++ (fillAll ks (Or ++ List.replicate c roomO) ++ List.replicate ((List.range k).filter fun i => isPut ks i).length deadO) = O1) (h : WpL P n m G false l.toArray l2 ⟨T1, O1⟩ Q) : WpA P n m G (.region id l.toArray true) ⟨T0, Of⟩ Q := by
  have := takeF_eq hl; subst this; subst h2; subst hO; subst hO0
  have hc : (Or ++ List.replicate c roomO).length = Or.length + c := by simp
  have hw := WpA.regionR (Q := Q) (id := id) k hm hB hJ (by rw [hc]; exact roomROk_of hok) (fun q hq => by rw [hc]; exact keepB_of hkp hq) hnd hfr (catF_eq hT1) h
  have hr := Weak.rooms (m := m) (T := T0) c (O ++ Or)
  rw [List.append_assoc] at hr
  exact WpA.weak hr hw
end
end Go.Abs

/- Contracts: macroblocks out of a cache by the program; the law FnExactFastMb. No condition. -/
namespace Go.Proofs.Ytgkeopmihhcbiaa
open Go Go.Abs
set_option linter.unusedVariables false
set_option linter.unusedSimpArgs false
set_option maxRecDepth 100000
set_option maxHeartbeats 4000000
attribute [local irreducible] WpA WpL Rnd Blk Abs.Seq Abs.Fin Abs.FinG FnC FnG Only
attribute [local irreducible] mbS numB lnR ueTab syTab CodeOk lnS syTR

abbrev BkD (l : List Blok) : AObj := ⟨rows blkF l, 1, 2, some 85⟩
theorem splitC {Ov : List AObj} {e : AObj} (h : Ov[2]? = some e) : ∃ a b R, Ov = a :: b :: e :: R := by
  match Ov, h with
  | a :: b :: e' :: R, h => simp at h; exact ⟨a, b, R, by rw [h]⟩
  | [], h => simp at h
  | [_], h => simp at h
  | [_, _], h => simp at h
instance FastMb_c : Con 14 (∀ (p : List UInt8) (s w h : Int) (y t : List Ent), p.length ≤ 1099511627776 ∧ y.length ≤ 1099511627776 ∧ t.length ≤ 1099511627776 → Fn 14 [CA p s w h, EnL y, EnL t] [BkO (fmS p s w h y t).bs] (FmV (fmS p s w h y t) p)) := ⟨fun p s w h y t hl => by
  have h6 := lnS_len y y.length
  refine FnC.of_body tabOk Try.func14 Try.ntmps14 rfl (by decide +kernel) (by simp) fun G => ?_
  by_cases hf : FmOk p s w h y t
  · have hy := hf.1
    have hc := hf.2.1
    have ht := hf.2.2
    have hv := hy.1
    have hr : RdOk p (plA p s w h) := by rw [plA_yes hc]; exact ca_rd hc
    have hok := mbS_ok (lens := lnS y y.length) hr
    have e : (if VlsOk y then lnS y y.length else []) = lnS y y.length := if_pos hv
    have e6 : (if VlsOk y then lnS y y.length else []).length = 6 := by rw [e]; exact h6
    rw [fmS_yes hf]
    have hlm : p.length ≤ 1099511627776 ∧ (lnS y y.length).length ≤ 1099511627776 := ⟨hl.1, by rw [h6]; decide⟩
    refine goR (r := ?_); and_intros <;> intros <;> try exact True.intro
    rw [e]
    generalize hX : mbS p (plA p s w h) (lnS y y.length) = x at hok ⊢
    apply WpA.regionRF (O := [⟨[Z p, I s, I w, I h], 0, 0, none⟩, ⟨[Z [], I 0, I 0, I 0], 0, 0, none⟩, ⟨[B false, .nilS], 0, 0, none⟩, XI (lnS y y.length)]) (Or := []) (O1 := [⟨[Z p, I s, I w, I h], 0, 0, none⟩, ⟨[Z [], I 0, I 0, I 0], 0, 0, none⟩, ⟨[B false, .nilS], 0, 0, none⟩, XI (lnS y y.length), BkD x.1.bs, ⟨[Z p, I x.1.a], 1, 0, none⟩, ⟨[B x.2, .own 4 1 0 x.1.bs.length], 1, 0, none⟩, deadO, deadO, deadO]) 15 3 [] [1, 2] rfl mixed (by decide +kernel)
    · exact rfl
    · apply HeadR.consF .none rfl
      · exact rfl
      · exact rfl
      · exact in1
      · exact rfl
      · exact rfl
      apply HeadR.consF .none rfl
      · exact rfl
      · exact rfl
      · exact in1
      · exact rfl
      · exact rfl
      apply HeadR.consF .none rfl
      · exact rfl
      · exact rfl
      · exact in1
      · exact rfl
      · exact rfl
      apply HeadR.consF .none rfl
      · exact rfl
      · exact rfl
      · exact in0
      · exact rfl
      · exact rfl
      apply HeadR.consF .none rfl
      · exact rfl
      · exact rfl
      · exact in1
      · exact rfl
      · exact rfl
      apply HeadR.consF .none rfl
      · exact rfl
      · exact rfl
      · exact in1
      · exact rfl
      · exact rfl
      apply HeadR.consF (V := .tup [RA p x.1.a, .agg [B x.2, .own 4 1 0 x.1.bs.length], I x.1.c]) (.put 0 (BkD x.1.bs)) rfl
      · exact rfl
      · exact rfl
      · intro Tv Ov hc2 hp hd hk
        subst hX
        refine K.call ?_
        refine K.con (fun hcon => ?_)
        refine WpL.callF (hcon p (plA p s w h) (lnS y y.length) hlm) snapA locA outA (cnt_some _ 0) rfl rfl (by decide) ?_
        rw [Nat.zero_add]
        apply WpL.putV (p := 0)
        · exact .tup (.agg (.keep rfl rfl (.keep rfl rfl .nil)) (.agg (.keep rfl rfl (.own (by first | rfl | exact Nat.zero_add _) .nil)) (.keep rfl rfl .nil))) .nil
        · exact hp 0 _ rfl
        · exact Nat.zero_le _
        · exact rfl
        · exact still_rows (fun _ => rfl) _
      · exact rfl
      · exact rfl
      apply HeadR.consF .none rfl
      · exact rfl
      · exact rfl
      · exact in1
      · exact rfl
      · exact rfl
      apply HeadR.consF .none rfl
      · exact rfl
      · exact rfl
      · exact in1
      · exact rfl
      · exact rfl
      apply HeadR.consF .none rfl
      · exact rfl
      · exact rfl
      · exact in1
      · exact rfl
      · exact rfl
      apply HeadR.consF .none rfl
      · exact rfl
      · exact rfl
      · exact in1
      · exact rfl
      · exact rfl
      apply HeadR.consF (V := .ptr 5 1 0) (.put 1 ⟨[Z [], I 0], 1, 0, none⟩) rfl
      · exact rfl
      · exact rfl
      · intro Tv Ov hc2 hp hd hk
        refine WpL.allocStruct tabOk rfl (nid_len _ 0) (by decide) ?_
        apply WpL.putV (p := 1)
        · exact .ptr (by first | rfl | exact Nat.zero_add _) .nil
        · exact hp 1 _ rfl
        · exact Nat.zero_le _
        · exact rfl
        · exact rfl
      · exact rfl
      · exact rfl
      apply HeadR.consF (V := .ptr 6 1 0) (.put 2 ⟨[B false, .nilS], 1, 0, none⟩) rfl
      · exact rfl
      · exact rfl
      · intro Tv Ov hc2 hp hd hk
        refine WpL.allocStruct tabOk rfl (nid_len _ 0) (by decide) ?_
        apply WpL.putV (p := 2)
        · exact .ptr (by first | rfl | exact Nat.zero_add _) .nil
        · exact hp 2 _ rfl
        · exact Nat.zero_le _
        · exact rfl
        · exact rfl
      · exact rfl
      · exact rfl
      apply HeadR.consN (.step 1 ⟨[Z p, I x.1.a], 1, 0, none⟩) 1000
      · exact rfl
      · exact rfl
      · intro Tv Ov hc2 hp hd hk
        obtain ⟨A0, R0, rfl⟩ := split2 (hp 1 _ rfl)
        refine K.st ?_
        refine WpL.store tabOk rfl rfl rfl rfl rfl rfl rfl rfl (Nat.le_of_ble_eq_true rfl) ?_
        refine WpL.weak (Weak.any1 (d := 1000)) ?_
        exact WpL.nil (Only.mk rfl)
      · exact rfl
      · exact rfl
      apply HeadR.consN (.step 2 ⟨[B x.2, .own 4 1 0 x.1.bs.length], 1, 0, none⟩) 1001
      · exact rfl
      · exact rfl
      · intro Tv Ov hc2 hp hd hk
        obtain ⟨A0, A1, R0, rfl⟩ := splitC (hp 2 _ rfl)
        have h0 := hd 6 _ 0 _ (by decide) rfl rfl rfl
        simp only [List.getElem?_cons_zero, Option.some.injEq] at h0
        subst h0
        refine K.st ?_
        refine WpL.store tabOk rfl rfl rfl rfl rfl rfl rfl rfl (Nat.le_of_ble_eq_true rfl) ?_
        refine WpL.weak (Weak.any1 (d := 1001)) ?_
        exact WpL.nil (Only.mk rfl)
      · exact rfl
      · exact rfl
      exact HeadR.nil
    · exact rfl
    · exact rfl
    · exact rfl
    · exact rfl
    · exact rfl
    · exact rfl
    · exact rfl
    refine go (r := ?_); and_intros <;> intros <;> try exact True.intro
    all_goals first | contradiction | exact hok.1 | exact hok.2 | trace_state
  · rw [fmS_no hf]
    have e : ¬ LfOk y ∨ ¬ CaOk p s w h ∨ t ≠ ueTab := by
      by_cases hy : LfOk y
      · by_cases hc : CaOk p s w h
        · exact .inr (.inr fun ht => hf ⟨hy, hc, ht⟩)
        · exact .inr (.inl hc)
      · exact .inl hy
    rcases e with e | e | e
    all_goals
      refine go (r := ?_); and_intros <;> intros <;> try exact True.intro
    all_goals first | contradiction | omega | trace_state⟩
end Go.Proofs.Ytgkeopmihhcbiaa

/- Contracts: headers that are read by the specification. No condition. -/
namespace Go.Proofs.Ytgkeopmihhcbiaa
open Go Go.Abs
set_option linter.unusedVariables false
set_option linter.unusedSimpArgs false
set_option maxRecDepth 100000
set_option maxHeartbeats 4000000
attribute [local irreducible] WpA WpL Rnd Blk Abs.Seq Abs.Fin Abs.FinG FnC FnG Only

/-! Where a header fails. -/
def sdV (p : List UInt8) (s : Int) : Int := if ueC p s = 0 ∧ ueV p s > 3 then 0 else 8 * ueV p s + 8
def lnL (p : List UInt8) (s : Int) : List Int := if RbOk p s 18 then lensV (rbV p s 18) else []
attribute [local irreducible] rbA rbV ueA ueV ueC fuA fuC fuV fbA fbC fbV sdV lnL zrs numB lft hdS lensV
theorem WpA.hide {P : Program} {n m : Nat} {G : Ctx} {c : Code} {σ : St} {Q : Exit → St → Prop} (h : ∀ Q', Q' = Q → WpA P n m G c σ Q') : WpA P n m G c σ Q := h Q rfl
end Go.Proofs.Ytgkeopmihhcbiaa

/- Contracts: streams that are parsed by the program and by the specification. No condition. -/
namespace Go.Proofs.Ytgkeopmihhcbiaa
open Go Go.Abs
set_option linter.unusedVariables false
set_option linter.unusedSimpArgs false
set_option maxRecDepth 100000
set_option maxHeartbeats 4000000
attribute [local irreducible] WpA WpL Rnd Blk Abs.Seq Abs.Fin Abs.FinG FnC FnG Only

abbrev StV (x : PrS) : AV := .agg [I x.W, I x.H, I x.Q, B x.B, B x.D, .own 0 0 0 x.L.length, .own 1 0 0 x.ms.length]
def PrN (a c : Int) : PrS := ⟨0, 0, 0, false, false, [], [], a, c⟩
abbrev HdC (W H Q : Int) (b d : Bool) (l : AV) : List AV := [I W, I H, I Q, B b, B d, l]
section
attribute [local irreducible] hdS stRun mbS endC cntM
end
end Go.Proofs.Ytgkeopmihhcbiaa

/- Contracts: FastParse; the law FnExactFastParse. No condition. -/
namespace Go.Proofs.Ytgkeopmihhcbiaa
open Go Go.Abs
set_option linter.unusedVariables false
set_option linter.unusedSimpArgs false
set_option maxRecDepth 100000
set_option maxHeartbeats 4000000
attribute [local irreducible] WpA WpL Rnd Blk Abs.Seq Abs.Fin Abs.FinG FnC FnG Only

theorem bw_small {l : List Blok} (h : ∀ b ∈ l, b.2.length ≤ 64) : bw l ≤ 65 * l.length := by
  induction l with
  | nil => simp [bw_nil]
  | cons b l ih =>
    have h1 := h b (by simp)
    have h2 := ih fun x hx => h x (by simp [hx])
    rw [bw_cons, List.length_cons]; omega
section
attribute [local irreducible] prS
end
end Go.Proofs.Ytgkeopmihhcbiaa

/- The law FnExactFastMb. No condition. -/
namespace Go.Proofs.Ytgkeopmihhcbiaa
open Go Go.Abs
set_option linter.unusedVariables false
set_option linter.unusedSimpArgs false
set_option maxRecDepth 100000
set_option maxHeartbeats 4000000
attribute [local irreducible] WpA WpL Rnd Blk Abs.Seq Abs.Fin Abs.FinG FnC FnG Only

instance markMb_c : ConG 19 (∀ (e : Bool) (l : List Blok) (k : Int), bw l ≤ 1048576 ∧ 0 ≤ k ∧ k ≤ 1073741824 → Gn 19 [.agg [B e, .own 0 0 0 l.length], I k] [BkN l] [BkN (markB k l)] [] (I (k + bw l))) := ⟨fun e l k hk => by
  refine FnG.of_bodyF tabOk Try.func19 Try.ntmps19 rfl (by decide +kernel) (by simp) rfl rfl fun G => ?_
  refine go (r := ?_); and_intros <;> intros <;> try exact True.intro⟩
instance heldMb_c : Con 20 (∀ (e : Bool) (l : List Blok) (k : Int), (bw l ≤ 1048576 ∧ 0 ≤ k ∧ k ≤ 1073741824) ∧ l = markB k l → Fn 20 [.agg [B e, BkL l], I k] [] (I (k + bw l))) := ⟨fun e l k hk => by
  obtain ⟨hk, hm⟩ := hk
  refine FnC.of_body tabOk Try.func20 Try.ntmps20 rfl (by decide +kernel) (by simp) fun G => ?_
  refine go (r := ?_); and_intros <;> intros <;> try exact True.intro
  all_goals first | omega | contradiction | exact hm | trace_state⟩
theorem smB_of64 {l : List Blok} (h : ∀ b ∈ l, b.2.length ≤ 64) : SmB 1099511627776 l := by
  unfold SmB
  intro b hb
  have := h b hb
  omega
theorem fmS_sm (p : List UInt8) (s w h : Int) (y t : List Ent) : (fmS p s w h y t).bs.length ≤ 4 ∧ bw (fmS p s w h y t).bs ≤ 260 ∧ SmB 1099511627776 (fmS p s w h y t).bs := by
  have hx : (fmS p s w h y t).bs.length ≤ 4 ∧ ∀ b ∈ (fmS p s w h y t).bs, b.2.length ≤ 64 := by
    by_cases hf : FmOk p s w h y t
    · rw [fmS_yes hf]; exact mbS_sm
    · rw [fmS_no hf]; exact ⟨Nat.zero_le _, fun b hb => by cases hb⟩
  have h1 := bw_small hx.2
  exact ⟨hx.1, by omega, smB_of64 hx.2⟩
section
attribute [local irreducible] fmS
theorem FnExactFastMb_c : ∀ (p : List UInt8) (s w h : Int) (y t : List Ent), p.length ≤ 9223372036854775807 ∧ y.length ≤ 9223372036854775807 ∧ t.length ≤ 9223372036854775807 → Fn 3 [CA p s w h, EnL y, EnL t] [] (B true) := fun p s w h y t hl => by
  have hs := fmS_sm p s w h y t
  have hi := markB_idem (fmS p s w h y t).bs
  have hmw := markB_bw (fmS p s w h y t).bs
  have hme := markE_len y
  have hmt := markE_len t
  refine FnC.of_body tabOk Try.func3 Try.ntmps3 rfl (by decide +kernel) (by simp) fun G => ?_
  refine go (r := ?_); and_intros <;> intros <;> try exact True.intro
  all_goals first | contradiction | omega | exact hs.2.2 | (rw [hmw]; omega) | (rename_i hg; simp at hg; done) | (simp_all; done) | trace_state
end
end Go.Proofs.Ytgkeopmihhcbiaa

/- From a contract to the form that a row's shell asks for. No condition. -/
namespace Go.Abs
open Go Go.RowKit
set_option linter.unusedVariables false

theorem FnC.walk {P : Program} {f : FuncId} {args : List AV} {N : List AObj} {x : Value} (hc : FnC P f args N (.sc x)) {w : World} {S : Nat → Prop} {vs : List Value} (hS : ∀ b, S b → b < w.heap.size)
    (hl : LRel S w (fun _ => none) [] args vs []) : Calls P f vs.toArray w fun e w' => e = .returned x ∧ Below w.heap.size w w' := by
  refine (hc.2 w S vs hS hl).mono fun e w' h => ?_
  obtain ⟨v, S', ι, F, rfl, _, _, _, _, _, hv, hk⟩ := h
  cases hv with
  | sc r => exact ⟨rfl, hk.os, hk.tape, hk.output, hk.size, fun b hb => hk.block b hb (fun h => h)⟩

theorem spot_none {w : World} {x : Addr} {n : Nat} (h : 0 < n) (hc : ∀ i, i < n → ∃ v, w.cell? (x.add i) = some v) : x.spot = none := by
  obtain ⟨v, hv⟩ := hc 0 h
  simpa [Addr.add] using World.cell?_spot hv

end Go.Abs

/- Reading what came in: a value of a plain shape (numbers, bools, strings, structs and slices of them) as an abstract value. No condition. -/
namespace Go.Abs
open Go Go.RowKit
set_option linter.unusedVariables false

inductive Sp where
  | int (k : IntKind) | bool | str | struct (fs : List Sp) | slice (k : Nat) (e : Sp)

mutual
inductive SpOk (P : Program) : TypeId → Sp → Prop
  | int {t k} : P.underlying t = some (.int k) → SpOk P t (.int k)
  | bool {t} : P.underlying t = some .bool → SpOk P t .bool
  | str {t} : P.underlying t = some .string → SpOk P t .str
  | struct {t fs sps n} : P.underlying t = some (.struct fs) → P.cellsOf t = n → SpF P 0 fs.toList sps n → SpOk P t (.struct sps)
  | slice {t e k sp} : P.underlying t = some (.slice e) → P.cellsOf e = k → 0 < k → SpOk P e sp → SpOk P t (.slice k sp)
inductive SpF (P : Program) : Nat → List Field → List Sp → Nat → Prop
  | nil {k} : SpF P k [] [] k
  | cons {k c f fs sp sps n} : f.offset = k → P.cellsOf f.type = c → SpOk P f.type sp → SpF P (k + c) fs sps n → SpF P k (f :: fs) (sp :: sps) n
end

mutual
inductive Rd : Sp → List AV → Prop
  | int {k n} : (Lit.int k n).wf = true → Rd (.int k) [.sc (.int k n)]
  | bool {b} : Rd .bool [.sc (.bool b)]
  | str {p : List UInt8} : p.length ≤ maxLen → Rd .str [.sc (.string ⟨p.toArray⟩)]
  | struct {sps cs} : RdF sps cs → Rd (.struct sps) cs
  | slice {sp len k cs} : len ≤ maxLen → RdN sp len k cs → Rd (.slice k sp) [.imm k len cs]
inductive RdF : List Sp → List AV → Prop
  | nil : RdF [] []
  | cons {sp sps a b} : Rd sp a → RdF sps b → RdF (sp :: sps) (a ++ b)
inductive RdN : Sp → Nat → Nat → List AV → Prop
  | nil {sp k} : RdN sp 0 k []
  | snoc {sp n k a b} : RdN sp n k a → Rd sp b → b.length = k → RdN sp (n + 1) k (a ++ b)
end

theorem RdN.len {sp n k cs} (h : RdN sp n k cs) : cs.length = n * k := by
  induction n generalizing cs with
  | zero => cases h; simp
  | succ n ih => cases h with | snoc h1 h2 h3 => rw [List.length_append, ih h1, h3, Nat.add_mul]; omega

section
variable {H : Type} {enc : TypeId × Value → H} {P : Program} {w : World} {base : Nat} {spare : Nat → Bool} {held : Bool}

theorem read {S : Nat → Prop} {ι : Nat → Spot} (hS : ∀ b, b < w.heap.size → S b) : ∀ (fuel : Nat) (t : TypeId) (sp : Sp) (cs : List Value) (x : DataW H × List MemPlace), SpOk P t sp →
    DataW.trod enc P w base spare held fuel t cs = some x → ∃ ds, Rd sp ds ∧ ∀ O, LRel S w ι O ds cs [] := by
  intro fuel
  induction fuel with
  | zero => intro t sp cs x _ h; simp [DataW.trod] at h
  | succ fuel ih =>
    intro t sp cs x hsp h
    cases hsp with
    | int ht =>
      obtain ⟨n, rfl, _, hw⟩ := DataW.trod_int ht h
      exact ⟨_, .int hw, fun O => .sc .nil⟩
    | bool ht =>
      obtain ⟨b, rfl, _⟩ := DataW.trod_bool ht h
      exact ⟨_, .bool, fun O => .sc .nil⟩
    | str ht =>
      obtain ⟨s, rfl, _, hs⟩ := DataW.trod_string ht h
      exact ⟨[.sc (.string ⟨s.data.toList.toArray⟩)], .str (by have : s.data.toList.length = s.size := rfl; omega), fun O => .sc .nil⟩
    | @struct _ fs sps n ht hn hf =>
      obtain ⟨xs, m, hm, _, hlen, hxl, hel⟩ := DataW.trod_struct ht h
      obtain rfl : fuel = m := by omega
      have key : ∀ (fl : List Field) (k : Nat) (sps : List Sp), SpF P k fl sps n → (∀ f ∈ fl, ∃ x, DataW.trod enc P w base spare held fuel f.type ((cs.drop f.offset).take (P.cellsOf f.type)) = some x) →
          k ≤ n → ∃ ds, RdF sps ds ∧ ∀ O, LRel S w ι O ds (cs.drop k) [] := by
        intro fl
        induction fl with
        | nil =>
          intro k sps hF _ _
          cases hF
          exact ⟨[], .nil, fun O => by rw [List.drop_eq_nil_of_le (by omega)]; exact .nil⟩
        | cons f fl ihf =>
          intro k sps hF hx hk
          cases hF with
          | cons h1 h2 h3 h4 =>
            obtain ⟨y, hy⟩ := hx f (by simp)
            obtain ⟨d1, r1, l1⟩ := ih _ _ _ _ h3 hy
            have hkn : ∀ {k fl sps}, SpF P k fl sps n → k ≤ n := by
              intro k fl
              induction fl generalizing k with
              | nil => intro sps h; cases h; exact Nat.le_refl _
              | cons f fl ih2 => intro sps h; cases h with | cons _ _ _ h => have := ih2 h; omega
            obtain ⟨d2, r2, l2⟩ := ihf _ _ h4 (fun g hg => hx g (by simp [hg])) (hkn h4)
            refine ⟨d1 ++ d2, .cons r1 r2, fun O => ?_⟩
            have e : cs.drop k = (cs.drop f.offset).take (P.cellsOf f.type) ++ cs.drop (k + P.cellsOf f.type) := by
              rw [h1, ← List.drop_drop, List.take_append_drop]
            rw [e, h2]
            rw [h2] at l1
            simpa using (l1 O).append (l2 O)
      obtain ⟨ds, r, l⟩ := key fs.toList 0 sps hf (fun f hf' => by
        obtain ⟨i, hi⟩ := List.getElem?_of_mem hf'
        have hi' : fs[i]? = some f := by simpa using hi
        have := hel i f hi'
        have hlt : i < xs.length := by have := (Array.getElem?_eq_some_iff.1 hi').1; omega
        exact ⟨xs[i], by rw [this]; simp [hlt]⟩) (Nat.zero_le _)
      exact ⟨ds, .struct r, fun O => by simpa using l O⟩
    | @slice _ e k sp ht hk hk0 he =>
      rcases DataW.trod_slice ht h with ⟨rfl, _⟩ | ⟨a, len, cap, elems, rest, m, hm, rfl, _, hb, hl, hc, hlen, hel, _, _⟩
      · exact ⟨[.imm k 0 []], .slice (by simp) .nil, fun O => .imm0 (by simp) .nil⟩
      obtain rfl : fuel = m := by omega
      have cells : ∀ j, j ≤ len → ∃ ds us, RdN sp j k ds ∧ us.length = j * k ∧ (∀ i, i < us.length → w.cell? (a.add i) = us[i]?) ∧ LRel S w ι [] ds us [] := by
        intro j
        induction j with
        | zero => intro _; exact ⟨[], [], .nil, by simp, by simp, .nil⟩
        | succ j ihj =>
          intro hj
          obtain ⟨ds, us, h1, h2, h3, h4⟩ := ihj (by omega)
          have hx := hel j (by omega)
          have hlt : j < elems.length := by omega
          rw [List.getElem?_eq_getElem hlt, Option.bind_eq_some_iff, hk] at hx
          obtain ⟨us2, hu, ht2⟩ := hx
          obtain ⟨d2, r2, l2⟩ := ih _ _ _ _ he ht2
          obtain ⟨_, c2, c3⟩ := World.cells?_some hu
          have l2' := l2 []
          have hd2 : d2.length = k := by rw [l2'.len, c2]
          refine ⟨ds ++ d2, us ++ us2, .snoc h1 r2 hd2, by rw [List.length_append, h2, c2, Nat.add_mul]; omega, fun i hi => ?_, by simpa using h4.append l2'⟩
          rw [List.length_append] at hi
          by_cases hlt2 : i < us.length
          · rw [h3 i hlt2, List.getElem?_append_left hlt2]
          · have hadd : a.add i = (a.add (j * k)).add (i - j * k) := by
              unfold Addr.add
              by_cases hz : j * k = 0
              · simp [hz]
              · by_cases hz2 : i - j * k = 0
                · have : i = j * k := by omega
                  simp [this]
                · rw [if_neg (by omega), if_neg hz, if_neg hz2]
                  simp only [Addr.mk.injEq, true_and, and_true]
                  omega
            rw [hadd, c3 (i - j * k) (by omega), List.getElem?_append_right (by omega), h2]
      obtain ⟨ds, us, h1, h2, h3, h4⟩ := cells len (Nat.le_refl _)
      refine ⟨[.imm k len ds], .slice (by omega) h1, fun O => ?_⟩
      by_cases h0 : len = 0
      · subst h0
        cases h1
        exact .imm0 ⟨by simp, hc⟩ .nil
      · have hul : 0 < us.length := by rw [h2]; exact Nat.mul_pos (by omega) hk0
        have hsp := spot_none (w := w) (x := a) (n := us.length) hul fun i hi => ⟨us[i], by rw [h3 i hi]; simp [hi]⟩
        obtain ⟨b, o, q⟩ := a
        simp only at hsp
        subst hsp
        have hcell : ∀ i, i < us.length → w.cell? ⟨b, o + i, none⟩ = us[i]? := fun i hi => by have := h3 i hi; rwa [addr_add] at this
        refine .imm (us := us) (hS _ ?_) hcell h4 (by rw [h1.len]) hl hc .nil
        by_cases hb' : b < w.heap.size
        · exact hb'
        · have := hcell 0 hul
          simp [World.cell?, Array.getElem?_eq_none (Nat.le_of_not_lt hb'), hul] at this
end
end Go.Abs

/- What a value that came in is: inversions of the readings by shape. No condition. -/
namespace Go.Abs
open Go Go.RowKit
set_option linter.unusedVariables false

abbrev i64 (n : Int) : Prop := -9223372036854775808 ≤ n ∧ n ≤ 9223372036854775807
theorem i64_wf {n : Int} (h : (Lit.int .i64 n).wf = true) : i64 n := by
  simp only [Lit.wf, Bool.and_eq_true, decide_eq_true_eq, show IntKind.i64.min = -9223372036854775808 from rfl, show IntKind.i64.max = 9223372036854775807 from rfl] at h
  exact h
theorem rd_int {ds : List AV} (h : Rd (.int .i64) ds) : ∃ n : Int, ds = [I n] ∧ i64 n := by
  cases h with | int hw => exact ⟨_, rfl, i64_wf hw⟩
theorem rd_str {ds : List AV} (h : Rd .str ds) : ∃ p : List UInt8, ds = [Z p] ∧ p.length ≤ 9223372036854775807 := by
  cases h with | str hp => exact ⟨_, rfl, by simp only [maxLen] at hp; omega⟩
theorem rd_struct {sps : List Sp} {ds : List AV} (h : Rd (.struct sps) ds) : RdF sps ds := by
  cases h with | struct h => exact h
theorem rdF_cons {sp : Sp} {sps : List Sp} {ds : List AV} (h : RdF (sp :: sps) ds) : ∃ a b, ds = a ++ b ∧ Rd sp a ∧ RdF sps b := by
  cases h with | cons h1 h2 => exact ⟨_, _, rfl, h1, h2⟩
theorem rdF_nil {ds : List AV} (h : RdF [] ds) : ds = [] := by cases h; rfl

abbrev spI : Sp := .int .i64
abbrev spIs : Sp := .slice 1 (.int .i64)
theorem lrel_agg {S : Nat → Prop} {w : World} {ι : Nat → Spot} {O : List AObj} {ds : List AV} {cs : Array Value} (h : LRel S w ι O ds cs.toList []) : VRel S w ι O (.agg ds) (.agg cs) [] := by
  simpa using LRel.agg h .nil
theorem lrel_cons0 {S : Nat → Prop} {w : World} {ι : Nat → Spot} {O : List AObj} {V : AV} {v : Value} {cs : List AV} {vs : List Value} (h1 : VRel S w ι O V v []) (h2 : LRel S w ι O cs vs []) : LRel S w ι O (V :: cs) (v :: vs) [] := LRel.cons h1 h2
end Go.Abs

/- What a value that came in is, further: options, headers, blocks, streams, neighbours, caches, entries, bytes. No condition. -/
namespace Go.Proofs.Ytgkeopmihhcbiaa
open Go Go.Abs Go.RowKit
set_option linter.unusedVariables false

theorem rdN_rows {sp : Sp} {k : Nat} {α : Type} {f : α → List AV} {C : α → Prop} (inv : ∀ ds, Rd sp ds → ∃ a, ds = f a ∧ C a) {n : Nat} {cs : List AV} (h : RdN sp n k cs) : ∃ l : List α, cs = rows f l ∧ l.length = n ∧ ∀ a ∈ l, C a := by
  induction n generalizing cs with
  | zero => cases h; exact ⟨[], rfl, rfl, by simp⟩
  | succ n ih =>
    cases h with
    | snoc h1 h2 h3 =>
      obtain ⟨l, rfl, h5, h6⟩ := ih h1
      obtain ⟨a, rfl, ha⟩ := inv _ h2
      refine ⟨l ++ [a], by rw [rows_append, rows_one], by simp [h5], fun x hx => ?_⟩
      rcases List.mem_append.1 hx with hx | hx
      · exact h6 x hx
      · have : x = a := by simpa using hx
        subst this; exact ha
theorem rd_rows {sp : Sp} {k : Nat} {α : Type} {f : α → List AV} {C : α → Prop} (inv : ∀ ds, Rd sp ds → ∃ a, ds = f a ∧ C a) {ds : List AV} (h : Rd (.slice k sp) ds) : ∃ l : List α, ds = [.imm k l.length (rows f l)] ∧ l.length ≤ 9223372036854775807 ∧ ∀ a ∈ l, C a := by
  cases h with
  | slice hl hn =>
    obtain ⟨l, rfl, h1, h2⟩ := rdN_rows inv hn
    subst h1
    exact ⟨l, rfl, by simp only [maxLen] at hl; omega, h2⟩

@[irreducible] def WfI (l : List Int) : Prop := ∀ x ∈ l, i64 x
abbrev spBs : Sp := .slice 1 .bool
abbrev spBk : Sp := .struct [spI, spIs]
abbrev spMb : Sp := .struct [.bool, .slice 2 spBk]
abbrev spHd : Sp := .struct [spI, spI, spI, .bool, .bool, spIs]
def CBk (b : Blok) : Prop := b.2.length ≤ 9223372036854775807 ∧ i64 b.1 ∧ WfI b.2
def CMb (m : Mbk) : Prop := m.2.length ≤ 9223372036854775807 ∧ ∀ b ∈ m.2, CBk b
@[irreducible] def WfM (M : List Mbk) : Prop := ∀ m ∈ M, ∀ b ∈ m.2, i64 b.1 ∧ WfI b.2
theorem rd_cache {ds : List AV} (h : Rd (.struct [.str, spI, spI, spI]) ds) : ∃ (s : List UInt8) (p w v : Int), ds = [Z s, I p, I w, I v] ∧ s.length ≤ 9223372036854775807 ∧ i64 p ∧ i64 w ∧ i64 v := by
  obtain ⟨_, _, rfl, h1, h⟩ := rdF_cons (rd_struct h)
  obtain ⟨_, _, rfl, h2, h⟩ := rdF_cons h
  obtain ⟨_, _, rfl, h3, h⟩ := rdF_cons h
  obtain ⟨_, _, rfl, h4, h⟩ := rdF_cons h
  obtain rfl := rdF_nil h
  obtain ⟨s, rfl, a1⟩ := rd_str h1
  obtain ⟨p, rfl, a2⟩ := rd_int h2
  obtain ⟨w, rfl, a3⟩ := rd_int h3
  obtain ⟨v, rfl, a4⟩ := rd_int h4
  exact ⟨s, p, w, v, rfl, a1, a2, a3, a4⟩
def CPr (a : Int × Int) : Prop := i64 a.1 ∧ i64 a.2
theorem rd_pr (ds : List AV) (h : Rd (.struct [spI, spI]) ds) : ∃ a : Int × Int, ds = prF a ∧ CPr a := by
  obtain ⟨_, _, rfl, h1, h⟩ := rdF_cons (rd_struct h)
  obtain ⟨_, _, rfl, h2, h⟩ := rdF_cons h
  obtain rfl := rdF_nil h
  obtain ⟨m, rfl, a1⟩ := rd_int h1
  obtain ⟨n, rfl, a2⟩ := rd_int h2
  exact ⟨(m, n), rfl, a1, a2⟩
@[irreducible] def WfP (l : List (Int × Int)) : Prop := ∀ a ∈ l, CPr a
theorem rd_entries {ds : List AV} (h : Rd (.slice 2 (.struct [spI, spI])) ds) : ∃ l : List (Int × Int), ds = [.imm 2 l.length (rows prF l)] ∧ l.length ≤ 9223372036854775807 ∧ WfP l := by
  obtain ⟨l, rfl, h1, h2⟩ := rd_rows rd_pr h
  exact ⟨l, rfl, h1, by unfold WfP; exact h2⟩
end Go.Proofs.Ytgkeopmihhcbiaa
