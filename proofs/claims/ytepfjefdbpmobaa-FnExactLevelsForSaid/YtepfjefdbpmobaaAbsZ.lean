/- Nests of slices written out, step by step in plain form. No condition. -/
import Derived.Test.YtepfjefdbpmobaaAbsY
namespace Go.Abs
open Go
set_option linter.unusedVariables false
set_option linter.unusedSimpArgs false

def flatV : List AV → Option (List AV)
  | [] => some []
  | c :: O => match flatV O with
    | some r => some (c :: r)
    | none => none
theorem flatV_eq : ∀ {O O2 : List AV}, flatV O = some O2 → O = O2
  | [], O2, h => by simp [flatV] at h; exact h.symm
  | c :: O, O2, h => by
    rw [flatV] at h
    cases hr : flatV O with
    | none => rw [hr] at h; cases h
    | some r => rw [hr] at h; have := flatV_eq hr; subst this; simpa using h
theorem NestC.consF {m id off j len e s ej sj : Nat} {t tj : Option TypeId} {offs : List Nat} {O O1 O2 : List AObj} {c cj cs2 : List AV} (ho : O[id]? = some ⟨c, e, s, t⟩) (hc : c[off]? = some (.own j ej 0 len)) (hj : O[j]? = some ⟨cj, ej, sj, tj⟩) (hne : Nat.beq id j = false) (hm : m ≤ j)
    (hst : cj.all AV.still = true) (hlen : len * sj = cj.length) (hcs : flatV (c.set off (.fre sj len cj)) = some cs2) (h1 : flatO ((O.set id ⟨cs2, e, s, t⟩).set j ⟨[], ej + 1, 0, none⟩) = some O1) (r : NestC m id offs O1 O2) : NestC m id (off :: offs) O O2 := by
  have := flatV_eq hcs; subst this
  exact .cons ho hc hj hne hm rfl hst hlen h1 r
/-- How many places are filled. -/
def cntP : List Fil → Nat
  | [] => 0
  | f :: ks => match f.isPut with
    | true => cntP ks + 1
    | false => cntP ks
theorem isPut_zero (f : Fil) (ks : List Fil) : isPut (f :: ks) 0 = f.isPut := by simp [isPut]
theorem isPut_succ (f : Fil) (ks : List Fil) (i : Nat) : isPut (f :: ks) (i + 1) = isPut ks i := by simp [isPut]
theorem isPut_nil (i : Nat) : isPut [] i = false := by simp [isPut]
theorem cntP_eq : ∀ (ks : List Fil) (k : Nat), ks.length ≤ k → ((List.range k).filter fun i => isPut ks i).length = cntP ks
  | [], k, _ => by
    simp only [isPut_nil, cntP]
    induction List.range k with
    | nil => rfl
    | cons a l ih => simp
  | f :: ks, 0, h => by simp at h
  | f :: ks, k + 1, h => by
    have ih := cntP_eq ks k (by simpa using h)
    rw [List.range_succ_eq_map, List.filter_cons, isPut_zero, List.filter_map]
    have e : ((fun i => isPut (f :: ks) i) ∘ Nat.succ) = fun i => isPut ks i := by funext i; exact isPut_succ f ks i
    rw [e]
    cases hf : f.isPut with
    | true => simp only [if_true, List.length_cons, List.length_map, ih, cntP, hf]
    | false => simp only [Bool.false_eq_true, if_false, List.length_map, ih, cntP, hf]
section
variable {P : Program} {n m : Nat} {G : Ctx} {T0 : List (Nat × AV)} {O : List AObj}
theorem WpA.regionQ1 {l l1 l2 : List Oper} {id : Nat} {out T1 : List (Nat × AV)} {ks : List Fil} {O1 F D : List AObj} {Q : Exit → St → Prop} (k c : Nat) (hm : P.follows .mixedOrders = true) (hB : mixB l.toArray k = true)
    (hl : takeF k l = some l1) (hJ : HeadQ P n m G l.toArray T0 O (List.replicate c roomO) [] [] [] l1 out ks) (hok : spotsB c (spots ks) = true) (hnd : nodupB (out.map (·.1)) = true) (hfr : (out.all fun p => !has T0 p.1) = true)
    (hT1 : catF out T0 = some T1) (h2 : l.drop k = l2) (hF : flatO (fillAll ks (List.replicate c roomO)) = some F) (hD : flatO (List.replicate (cntP ks) deadO) = some D) (hO : flatO (catO O (catO F D)) = some O1) (h : WpL P n m G false l.toArray l2 ⟨T1, O1⟩ Q) : WpA P n m G (.region id l.toArray true) ⟨T0, O⟩ Q := by
  have hkl : ks.length ≤ k := by
    obtain ⟨_, s, _, _, h3, h4⟩ := hJ.pre
    have e := takeF_eq hl
    have e2 : l1.length ≤ k := by rw [← e]; simp; omega
    rw [h3]; simp [h4]; omega
  refine WpA.regionQ0 k c hm hB hl hJ hok hnd hfr hT1 h2 ?_ h
  rw [cntP_eq ks k hkl, flatO_eq hF, flatO_eq hD, flatO_eq hO]
end
end Go.Abs
