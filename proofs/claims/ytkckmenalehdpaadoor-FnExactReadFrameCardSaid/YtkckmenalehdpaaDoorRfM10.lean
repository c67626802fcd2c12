/- Proved in this text: lemmas and contracts of functions that the claim uses (parts: AbsXk, AbsXm, ShF, RfI, RfS, Lw, Ln, PutM, RfX, Bridge, Read, Read2). No condition. -/
import Derived.Test.YtkckmenalehdpaaDoorRfM6
import Derived.Test.YtkckmenalehdpaaDoorRfM8
import Derived.Test.YtkckmenalehdpaaDoorRfM9
import Derived.Test.YtkckmenalehdpaaDoorRfM7
import Derived.Test.YtkckmenalehdpaaDoorRfM2
import Derived.Below
import Derived.ChangeArms
import Derived.Test.YtkckmenalehdpaaDoorRfM3
set_option linter.unusedVariables false
set_option linter.unusedSimpArgs false
set_option maxRecDepth 100000
set_option maxHeartbeats 4000000


namespace Go.Abs
open Go
section
variable {P : Program} {n m : Nat} {G : Ctx} {T : List (Nat × AV)} {O : List AObj} {Q : Exit → St → Prop} {ops : Array Oper} {l : List Oper} {d : Nat} {tt : TypeId} {pos : String} {after : Array Edge}
inductive KeepL : List AV → List AV → Prop
  | nil : KeepL [] []
  | any {V vs us} : KeepL vs us → KeepL (V :: vs) (.any :: us)
  | keep {V vs us} : V.still = true → V.nofre = true → KeepL vs us → KeepL (V :: vs) (V :: us)
  | agg {ds es vs us} : KeepL ds es → KeepL vs us → KeepL (.agg ds :: vs) (.agg es :: us)
theorem KeepL.rel {S : Nat → Prop} {w : World} {ι ι' : Nat → Spot} {vs us : List AV} (h : KeepL vs us) : ∀ {xs f}, LRel S w ι O vs xs f → LRel S w ι' [] us xs [] := by
  induction h with
  | nil => intro xs f hl; cases hl; exact .nil
  | any _ ih =>
    intro xs f hl
    obtain ⟨v, vs', f1, f2, rfl, hv, hr, rfl⟩ := hl.uncons
    exact .any (ih hr)
  | keep hs hn _ ih =>
    intro xs f hl
    obtain ⟨v, vs', f1, f2, rfl, hv, hr, rfl⟩ := hl.uncons
    have := nofre_nil hv hn
    subst this
    have := LRel.cons (still_any hv hs [] (fun _ h => h) (fun _ _ => rfl) (by simp)) (ih hr)
    simpa using this
  | agg _ _ ih1 ih2 =>
    intro xs f hl
    obtain ⟨v, vs', f1, f2, rfl, hv, hr, rfl⟩ := hl.uncons
    obtain ⟨us', rfl, ha⟩ := LRel.agg_inv hv
    have := LRel.agg (ih1 ha) (ih2 hr)
    simpa using this
end
theorem Snap.relG {O : List AObj} {S S2 : Nat → Prop} {w : World} {ι ι' : Nat → Spot} {vs us : List AV} (h : Snap O vs us) : ∀ {F xs f}, ORel S w ι O F → (∀ b, S b → S2 b) → (∀ id, id < O.length → ∀ b ∈ F id, S2 b) → (∀ b ∈ f, S2 b) → LRel S w ι O vs xs f → LRel S2 w ι' [] us xs [] := by
  induction h with
  | nil => intro F xs f _ _ _ _ hl; cases hl; exact .nil
  | any _ ih =>
    intro F xs f ho hS hF hf hl
    obtain ⟨v, vs', f1, f2, rfl, hv, hr, rfl⟩ := hl.uncons
    exact .any (ih ho hS hF (fun b hb => hf b (List.mem_append_right _ hb)) hr)
  | keep hs hn _ ih =>
    intro F xs f ho hS hF hf hl
    obtain ⟨v, vs', f1, f2, rfl, hv, hr, rfl⟩ := hl.uncons
    have := nofre_nil hv hn
    subst this
    have := LRel.cons (still_any hv hs [] hS (fun _ _ => rfl) (by simp)) (ih ho hS hF (fun b hb => hf b (List.mem_append_right _ hb)) hr)
    simpa using this
  | fn _ _ ih1 ih2 =>
    intro F xs f ho hS hF hf hl
    obtain ⟨v, vs', f1, f2, rfl, hv, hr, rfl⟩ := hl.uncons
    cases hv with | fn a r => cases r; exact .fn (ih1 ho hS hF (by simp) a) (ih2 ho hS hF (fun b hb => hf b (List.mem_append_right _ hb)) hr)
  | nilI _ ih =>
    intro F xs f ho hS hF hf hl
    obtain ⟨v, vs', f1, f2, rfl, hv, hr, rfl⟩ := hl.uncons
    have := (LRel.slice_len hv).2.2 rfl
    subst this
    exact .imm0 (by simp) (ih ho hS hF (fun b hb => hf b (List.mem_append_right _ hb)) hr)
  | @own id ep len len' sz ob es vs us hob hep hsz hlen hll _ _ ih1 ih2 =>
    intro F xs f ho hS hF hf hl
    subst hll hsz
    obtain ⟨v, vs', f1, f2, rfl, hv, hr, rfl⟩ := hl.uncons
    have hr2 := ih2 ho hS hF (fun b hb => hf b (List.mem_append_right _ hb)) hr
    have hidl := (List.getElem?_eq_some_iff.1 hob).1
    have hoa := ho.obj id ob hob
    unfold ObjAt at hoa
    cases hv with
    | own q1 q2 q3 r =>
      rw [hob] at q1; cases q1
      have hc := q3 hep.symm
      cases hs : ι id with
      | none =>
        rw [hs] at hc hoa
        obtain ⟨h1, _, h3⟩ := hc
        subst h1; subst h3
        have : es = [] := by
          have := ih1 (xs := []) (f := []) ho hS hF (by simp) (by rw [hoa.1]; exact .nil)
          cases this; rfl
        subst this
        exact .imm0 (by simp) hr2
      | some p =>
        obtain ⟨b, k⟩ := p
        rw [hs] at hc hoa
        obtain ⟨cap, h1, _, h3, h4⟩ := hc
        obtain ⟨cur, t, fz, f', hFe, hh, _, _, _, _, hl'⟩ := hoa
        subst h1
        have hi := ih1 ho hS hF (fun b' hb' => hF id hidl b' (by rw [hFe]; simp [hb'])) hl'
        refine .imm (us := cur.toList.take ob.cells.length) (hF id hidl b (by rw [hFe]; simp)) (fun i hi => cell_of_heap hh _ i hi) hi ?_ h3 h4 hr2
        rw [hlen, hl'.len, hi.len]
  | @ownO id ep off len len' sz ob ds es vs us hob hep hsz hds hlen hll _ _ ih1 ih2 =>
    intro F xs f ho hS hF hf hl
    subst hll hsz hds
    obtain ⟨v, vs', f1, f2, rfl, hv, hr, rfl⟩ := hl.uncons
    have hr2 := ih2 ho hS hF (fun b hb => hf b (List.mem_append_right _ hb)) hr
    have hidl := (List.getElem?_eq_some_iff.1 hob).1
    have hoa := ho.obj id ob hob
    unfold ObjAt at hoa
    cases hv with
    | own q1 q2 q3 r =>
      rw [hob] at q1; cases q1
      have hc := q3 hep.symm
      cases hs : ι id with
      | none =>
        rw [hs] at hc hoa
        obtain ⟨h1, h2, h3⟩ := hc
        subst h1; subst h3
        have : es = [] := by
          have := ih1 (xs := []) (f := []) ho hS hF (by simp) (by rw [hoa.1]; simpa using .nil)
          cases this; rfl
        subst this
        exact .imm0 (by simp) hr2
      | some p =>
        obtain ⟨b, k⟩ := p
        rw [hs] at hc hoa
        obtain ⟨cap, h1, _, h3, h4⟩ := hc
        obtain ⟨cur, t, fz, f', hFe, hh, _, _, _, _, hl'⟩ := hoa
        subst h1
        obtain ⟨g, hld, hgm, _⟩ := hl'.drop off
        have hi := ih1 ho hS hF (fun b' hb' => hF id hidl b' (by rw [hFe]; simp [hgm b' hb'])) hld
        refine .imm (us := (cur.toList.take ob.cells.length).drop off) (hF id hidl b (by rw [hFe]; simp)) (fun i hi => ?_) hi ?_ h3 h4 hr2
        · have := cell_of_heap hh ob.cells.length (off + i) (by simp only [List.length_drop] at hi; omega)
          rw [Nat.zero_add] at this
          rw [this, List.getElem?_drop]
        · rw [hlen, hld.len, hi.len]
  | @fre s l ds es vs us _ _ ih1 ih2 =>
    intro F xs f ho hS hF hf hl
    obtain ⟨v, vs', f1, f2, rfl, hv, hr, rfl⟩ := hl.uncons
    have hr2 := ih2 ho hS hF (fun b hb => hf b (List.mem_append_right _ hb)) hr
    cases hv with
    | fre0 r =>
      have := ih1 (xs := []) (f := []) ho hS hF (by simp) .nil
      cases this
      exact .imm0 (by simp) hr2
    | @fre _ _ b _ cap cur t fz _ us' f' _ _ _ hh0 hsz hu hl' h1 h2 h3 r =>
      have hh := hh0.1
      cases r
      have hi := ih1 ho hS hF (fun b' hb' => hf b' (by simp [hb'])) hl'.lift
      subst hu
      refine .imm (us := cur.toList.take ds.length) (hf b (by simp)) (fun i hi => cell_of_heap hh _ i hi) hi ?_ h2 h3 hr2
      rw [h1, hl'.len, hi.len]
  | @ptr id ep off ob es vs us hob hep _ _ ih1 ih2 =>
    intro F xs f ho hS hF hf hl
    obtain ⟨v, vs', f1, f2, rfl, hv, hr, rfl⟩ := hl.uncons
    have hr2 := ih2 ho hS hF (fun b hb => hf b (List.mem_append_right _ hb)) hr
    have hidl := (List.getElem?_eq_some_iff.1 hob).1
    have hoa := ho.obj id ob hob
    unfold ObjAt at hoa
    cases hv with
    | ptr q1 q2 q3 r =>
      rw [hob] at q1; cases q1
      have hc := q3 hep.symm
      cases hs : ι id with
      | none => rw [hs] at hc; exact hc.elim
      | some p =>
        obtain ⟨b, k⟩ := p
        rw [hs] at hc hoa
        obtain ⟨cur, t, fz, f', hFe, hh, _, _, _, _, hl'⟩ := hoa
        have h1 : _ = Value.pointer (some ⟨b, off, none⟩) := hc
        subst h1
        have := LRel.iptr (O := []) (ι := ι') (off := off) (S := S2) (us := cur.toList.take ob.cells.length) (hF id hidl b (by rw [hFe]; simp)) (fun i hi => cell_of_heap hh _ i hi) (ih1 ho hS hF (fun b' hb' => hF id hidl b' (by rw [hFe]; simp [hb'])) hl') hr2
        rwa [Nat.zero_add] at this
  | agg _ _ ih1 ih2 =>
    intro F xs f ho hS hF hf hl
    obtain ⟨v, vs', f1, f2, rfl, hv, hr, rfl⟩ := hl.uncons
    obtain ⟨us', rfl, ha⟩ := LRel.agg_inv hv
    have := LRel.agg (ih1 ho hS hF (fun b hb => hf b (List.mem_append_left _ hb)) ha) (ih2 ho hS hF (fun b hb => hf b (List.mem_append_right _ hb)) hr)
    simpa using this
theorem FnC.still {P : Program} {f : FuncId} {args : List AV} {N : List AObj} {r r' : AV} (hc : FnC P f args N r) (hs : Snap N [r] [r']) : FnC P f args [] r' := by
  refine ⟨hc.1, fun w S vs hS hg hl => (hc.2 w S vs hS hg hl).mono fun e w' he => ?_⟩
  obtain ⟨v, S', ι, F, rfl, h1, h2, h3, ho, hF, hv, hk⟩ := he
  refine ⟨v, fun b => S' b ∨ ∃ id, id < N.length ∧ b ∈ F id, fun _ => none, fun _ => [], rfl, fun b hb => .inl (h1 b hb), ?_, ?_, ⟨by simp, by simp, by simp⟩, by simp, ?_, hk⟩
  · rintro b (hb | ⟨id, hid, hb⟩)
    · exact h2 b hb
    · exact .inr (hF id hid b hb).1
  · rintro b (hb | ⟨id, hid, hb⟩)
    · exact h3 b hb
    · exact (hF id hid b hb).2.2
  · exact hs.relG ho (fun b hb => .inl hb) (fun id hid b hb => .inr ⟨id, hid, hb⟩) (by simp) hv
inductive FrzR (N : List AObj) : AV → AV → Prop
  | tup {rs rs' : List AV} : Snap N rs rs' → FrzR N (.tup rs) (.tup rs')
  | one {r r' : AV} : Snap N [r] [r'] → FrzR N r r'
theorem FrzR.rel {O : List AObj} {S S2 : Nat → Prop} {w : World} {ι ι' : Nat → Spot} {F : Nat → List Nat} {r r' : AV} {v : Value} (h : FrzR O r r') (ho : ORel S w ι O F) (hS : ∀ b, S b → S2 b) (hF : ∀ id, id < O.length → ∀ b ∈ F id, S2 b) (hl : VRel S w ι O r v []) : VRel S2 w ι' [] r' v [] := by
  cases h with
  | tup hs =>
    obtain ⟨us, rfl, hl'⟩ := LRel.tup_inv hl
    have h9 : LRel S2 w ι' [] _ us [] := hs.relG ho hS hF (by simp) hl'
    have := LRel.tup h9 .nil
    simpa using this
  | one hs => exact hs.relG ho hS hF (by simp) hl
section
variable {P : Program} {n m : Nat} {G : Ctx} {T : List (Nat × AV)} {O : List AObj} {Q : Exit → St → Prop} {ops : Array Oper} {l : List Oper} {d : Nat} {tt : TypeId} {pos : String} {after : Array Edge}
end
end Go.Abs


namespace Go.Abs
open Go
inductive Rv (q : List Nat) (O O' : List AObj) : List AV → List AV → Prop
  | nil : Rv q O O' [] []
  | any {V vs us} : Rv q O O' vs us → Rv q O O' (V :: vs) (.any :: us)
  | keep {V V' vs us} : V = V' → V'.still = true → Rv q O O' vs us → Rv q O O' (V :: vs) (V' :: us)
  | fn {f ds vs us} : ds.all AV.simple = true → Rv q O O' vs us → Rv q O O' (.fn f ds :: vs) (.fn f ds :: us)
  | own {i id ep ep' off len len' ob ob' vs us} : q[i]? = some id → O[id]? = some ob → O'[i]? = some ob' → ob.ep = ep → ob'.ep = ep' → ob'.size = ob.size → len = len' → Rv q O O' vs us → Rv q O O' (.own id ep off len :: vs) (.own i ep' off len' :: us)
  | ptr {i id ep ep' off ob ob' vs us} : q[i]? = some id → O[id]? = some ob → O'[i]? = some ob' → ob.ep = ep → ob'.ep = ep' → Rv q O O' vs us → Rv q O O' (.ptr id ep off :: vs) (.ptr i ep' off :: us)
  | agg {ds es vs us} : Rv q O O' ds es → Rv q O O' vs us → Rv q O O' (.agg ds :: vs) (.agg es :: us)
  | tup {ds es vs us} : Rv q O O' ds es → Rv q O O' vs us → Rv q O O' (.tup ds :: vs) (.tup es :: us)
theorem Rv.same {q : List Nat} {O O' : List AObj} {cs cs' : List AV} (h : cs = cs') (hs : cs'.all AV.still = true) : Rv q O O' cs cs' := by
  subst h
  induction cs with
  | nil => exact .nil
  | cons c cs ih =>
    simp only [List.all_cons, Bool.and_eq_true] at hs
    exact .keep rfl hs.1 (ih hs.2)
theorem Rv.rel {q : List Nat} {O O' : List AObj} {S w ι ι'} (hι : ∀ i id, q[i]? = some id → ι' i = ι id) {vs us : List AV} (h : Rv q O O' vs us) : ∀ {xs f}, LRel S w ι O vs xs f → ∃ f', LRel S w ι' O' us xs f' ∧ (∀ b ∈ f', b ∈ f) ∧ (f.Nodup → f'.Nodup) := by
  induction h with
  | nil => intro xs f hl; cases hl; exact ⟨[], .nil, by simp, by simp⟩
  | any _ ih =>
    intro xs f hl
    obtain ⟨v, vs', f1, f2, rfl, hv, hr, rfl⟩ := hl.uncons
    obtain ⟨f', h1, h2, h3⟩ := ih hr
    exact ⟨f', .any h1, fun b hb => List.mem_append_right _ (h2 b hb), fun hn => h3 (List.nodup_append.1 hn).2.1⟩
  | keep he hs _ ih =>
    intro xs f hl
    subst he
    obtain ⟨v, vs', f1, f2, rfl, hv, hr, rfl⟩ := hl.uncons
    obtain ⟨f', h1, h2, h3⟩ := ih hr
    refine ⟨f1 ++ f', LRel.cons (still_any hv hs O' (fun _ h => h) (fun _ _ => rfl) (fun _ _ => rfl)) h1, ?_, ?_⟩
    · intro b hb
      rcases List.mem_append.1 hb with hb | hb
      · exact List.mem_append_left _ hb
      · exact List.mem_append_right _ (h2 b hb)
    · intro hn
      obtain ⟨n1, n2, n3⟩ := List.nodup_append.1 hn
      exact List.nodup_append.2 ⟨n1, h3 n2, fun a ha b hb => n3 a ha b (h2 b hb)⟩
  | fn hs _ ih =>
    intro xs f hl
    obtain ⟨v, vs', f1, f2, rfl, hv, hr, rfl⟩ := hl.uncons
    obtain ⟨f', h1, h2, h3⟩ := ih hr
    refine ⟨f', ?_, fun b hb => List.mem_append_right _ (h2 b hb), fun hn => h3 (List.nodup_append.1 hn).2.1⟩
    cases hv with
    | fn a r =>
      cases r
      refine .fn ?_ h1
      have a' := simple_all (O' := []) a hs
      exact a'.mono (Later.none [] (fun _ h => h) (fun _ _ => rfl)) (by simp) |>.lift.mono ⟨fun _ h => h, fun _ _ => rfl, fun _ ob h => ⟨ob, h, .inr ⟨rfl, rfl, rfl⟩⟩⟩ (by simp)
  | own hq ho ho' he he' hsz hln _ ih =>
    intro xs f hl
    subst hln
    obtain ⟨v, vs', f1, f2, rfl, hv, hr, rfl⟩ := hl.uncons
    obtain ⟨f', h1, h2, h3⟩ := ih hr
    refine ⟨f', ?_, fun b hb => List.mem_append_right _ (h2 b hb), fun hn => h3 (List.nodup_append.1 hn).2.1⟩
    cases hv with
    | own q1 q2 q3 r =>
      rw [ho] at q1; cases q1
      exact .own ho' (by omega) (fun _ => by rw [hsz, hι _ _ hq]; exact q3 he.symm) h1
  | ptr hq ho ho' he he' _ ih =>
    intro xs f hl
    obtain ⟨v, vs', f1, f2, rfl, hv, hr, rfl⟩ := hl.uncons
    obtain ⟨f', h1, h2, h3⟩ := ih hr
    refine ⟨f', ?_, fun b hb => List.mem_append_right _ (h2 b hb), fun hn => h3 (List.nodup_append.1 hn).2.1⟩
    cases hv with
    | ptr q1 q2 q3 r =>
      rw [ho] at q1; cases q1
      exact .ptr ho' (by omega) (fun _ => by rw [hι _ _ hq]; exact q3 he.symm) h1
  | agg _ _ ih1 ih2 =>
    intro xs f hl
    obtain ⟨v, vs', f1, f2, rfl, hv, hr, rfl⟩ := hl.uncons
    obtain ⟨us', rfl, ha⟩ := LRel.agg_inv hv
    obtain ⟨g', a1, a2, a3⟩ := ih1 ha
    obtain ⟨f', h1, h2, h3⟩ := ih2 hr
    refine ⟨g' ++ f', .agg a1 h1, ?_, ?_⟩
    · intro b hb
      rcases List.mem_append.1 hb with hb | hb
      · exact List.mem_append_left _ (a2 b hb)
      · exact List.mem_append_right _ (h2 b hb)
    · intro hn
      obtain ⟨n1, n2, n3⟩ := List.nodup_append.1 hn
      exact List.nodup_append.2 ⟨a3 n1, h3 n2, fun a ha b hb => n3 a (a2 a ha) b (h2 b hb)⟩
  | tup _ _ ih1 ih2 =>
    intro xs f hl
    obtain ⟨v, vs', f1, f2, rfl, hv, hr, rfl⟩ := hl.uncons
    obtain ⟨us', rfl, ha⟩ := LRel.tup_inv hv
    obtain ⟨g', a1, a2, a3⟩ := ih1 ha
    obtain ⟨f', h1, h2, h3⟩ := ih2 hr
    refine ⟨g' ++ f', .tup a1 h1, ?_, ?_⟩
    · intro b hb
      rcases List.mem_append.1 hb with hb | hb
      · exact List.mem_append_left _ (a2 b hb)
      · exact List.mem_append_right _ (h2 b hb)
    · intro hn
      obtain ⟨n1, n2, n3⟩ := List.nodup_append.1 hn
      exact List.nodup_append.2 ⟨a3 n1, h3 n2, fun a ha b hb => n3 a (a2 a ha) b (h2 b hb)⟩
inductive RvT (q : List Nat) (O O' : List AObj) (T : List (Nat × AV)) : List (Nat × AV) → Prop
  | nil : RvT q O O' T []
  | cons {t V T'} : Rv q O O' [look T t] [V] → RvT q O O' T T' → RvT q O O' T ((t, V) :: T')
theorem RvT.at {q O O' T T'} (h : RvT q O O' T T') (t : Nat) : Rv q O O' [look T t] [look T' t] := by
  induction h with
  | nil => exact .any .nil
  | @cons k V T' hk _ ih =>
    by_cases he : k = t
    · subst he; rw [look_cons_same]; exact hk
    · rw [look_cons_other _ _ _ _ he]; exact ih
inductive RvO (q : List Nat) (O O' : List AObj) : List Nat → List AObj → Prop
  | nil : RvO q O O' [] []
  | cons {id ob ob' ids os'} : O[id]? = some ob → Rv q O O' ob.cells ob'.cells → (ob'.ty = none ∨ ob'.ty = ob.ty) → RvO q O O' ids os' → RvO q O O' (id :: ids) (ob' :: os')
theorem RvO.at {q O O' ids os'} (h : RvO q O O' ids os') {i : Nat} {ob' : AObj} (hi : os'[i]? = some ob') : ∃ id ob, ids[i]? = some id ∧ O[id]? = some ob ∧ Rv q O O' ob.cells ob'.cells ∧ (ob'.ty = none ∨ ob'.ty = ob.ty) := by
  induction h generalizing i with
  | nil => simp at hi
  | cons h0 h1 h2 _ ih =>
    cases i with
    | zero => simp at hi; subst hi; exact ⟨_, _, by simp, h0, h1, h2⟩
    | succ i => simpa using ih (by simpa using hi)
theorem Weak.mv {m : Nat} {T T' : List (Nat × AV)} {O O' : List AObj} (q : List Nat) (hnd : nodupB q = true) (hfix : ((List.range m).all fun i => q[i]? == some i) = true) (hm : Nat.ble m O'.length = true) (hT : RvT q O O' T T') (hO : RvO q O O' q O') : Weak m ⟨T, O⟩ ⟨T', O'⟩ := by
  rintro n G a w ⟨S, ι, F, hr⟩
  have hm : m ≤ O'.length := Nat.le_of_ble_eq_true hm
  let qf : Nat → Nat := fun i => q.getD i 0
  let ι2 : Nat → Spot := fun i => ι (qf i)
  have hq : ∀ i id, q[i]? = some id → qf i = id := fun i id h => by show q.getD i 0 = id; rw [List.getD_eq_getElem?_getD, h]; rfl
  have hι : ∀ i id, q[i]? = some id → ι2 i = ι id := fun i id h => by show ι (qf i) = _; rw [hq i id h]
  have hex : ∀ i, ∃ f, ∀ ob', O'[i]? = some ob' → ObjAt S w ι2 O' ob' (ι2 i) f ∧ (∀ b ∈ f, b ∈ F (qf i)) ∧ f.Nodup ∧ qf i < O.length ∧ q[i]? = some (qf i) := by
    intro i
    cases hi : O'[i]? with
    | none => exact ⟨[], by simp⟩
    | some ob' =>
      obtain ⟨id, ob, hqi, ho, hre, hty⟩ := hO.at hi
      have hid : id < O.length := (List.getElem?_eq_some_iff.1 ho).1
      have e := hq i id hqi
      rw [hι i id hqi, e]
      have hob := hr.objs.obj id ob ho
      unfold ObjAt at hob
      cases hs : ι id with
      | none =>
        rw [hs] at hob
        refine ⟨[], fun ob2 h2 => ?_⟩
        cases h2
        refine ⟨?_, by simp, by simp, hid, hqi⟩
        rw [hob.1] at hre
        unfold ObjAt
        cases hc : ob'.cells with
        | nil => exact ⟨rfl, rfl⟩
        | cons c cs => rw [hc] at hre; cases hre
      | some p =>
        obtain ⟨b, k⟩ := p
        rw [hs] at hob
        obtain ⟨cur, t, fz, f', hF, h1, h2, h3, h4, h5, h6⟩ := hob
        obtain ⟨g, g1, g2, g3⟩ := hre.rel hι h6
        have hnd2 : (b :: f').Nodup := by rw [← hF]; exact hr.objs.nodup id hid
        have hlen : ob'.cells.length = ob.cells.length := by
          have e1 := g1.len
          have e2 := h6.len
          omega
        refine ⟨b :: g, fun ob2 hh => ?_⟩
        cases hh
        refine ⟨⟨cur, t, fz, g, rfl, h1, h2, by omega, h4, fun e he => ?_, by rw [hlen]; exact g1⟩, ?_, ?_, hid, hqi⟩
        · rcases hty with hty | hty
          · rw [hty] at he; cases he
          · exact h5 e (by rw [← hty]; exact he)
        · intro b' hb'
          rw [hF]
          rcases List.mem_cons.1 hb' with rfl | hb'
          · simp
          · simp [g2 b' hb']
        · exact List.nodup_cons.2 ⟨fun hb => (List.nodup_cons.1 hnd2).1 (g2 b hb), g3 (List.nodup_cons.1 hnd2).2⟩
  have hFx : ∃ F' : Nat → List Nat, ∀ i ob', O'[i]? = some ob' → ObjAt S w ι2 O' ob' (ι2 i) (F' i) ∧ (∀ b ∈ F' i, b ∈ F (qf i)) ∧ (F' i).Nodup ∧ qf i < O.length ∧ q[i]? = some (qf i) :=
    ⟨fun id => (hex id).choose, fun id => (hex id).choose_spec⟩
  obtain ⟨F', hF'⟩ := hFx
  refine ⟨S, ι2, F', hr.defers, hr.size, fun t => ?_, ⟨fun id ob' h => (hF' id ob' h).1, fun id h => (hF' id _ (List.getElem?_eq_getElem h)).2.2.1, fun i j hi hj hij b hb hb' => ?_⟩, fun id h b hb => ?_, hr.base, hr.stable, hr.keeps, fun i hi => ?_, hm⟩
  · obtain ⟨f', h1, h2, _⟩ := (hT.at t).rel hι (hr.tmps t)
    have : f' = [] := List.eq_nil_iff_forall_not_mem.2 fun b hb => by simpa using h2 b hb
    subst this
    exact h1
  · have hi : i < O'.length := hi
    have hj : j < O'.length := hj
    obtain ⟨_, a1, _, a3, a4⟩ := hF' i _ (List.getElem?_eq_getElem hi)
    obtain ⟨_, b1, _, b3, b4⟩ := hF' j _ (List.getElem?_eq_getElem hj)
    have hne : qf i ≠ qf j := by
      intro e
      have hn := nodupB_spec hnd
      have hi2 := (List.getElem?_eq_some_iff.1 a4).1
      have hj2 := (List.getElem?_eq_some_iff.1 b4).1
      rw [e] at a4
      exact hij ((List.getElem?_inj hi2 hn).1 (a4.trans b4.symm))
    exact hr.objs.apart _ _ a3 b3 hne b (a1 b hb) (b1 b hb')
  · have h : id < O'.length := h
    obtain ⟨_, a1, _, a3, _⟩ := hF' id _ (List.getElem?_eq_getElem h)
    exact hr.foot _ a3 b (a1 b hb)
  · have h1 := List.all_eq_true.1 hfix i (List.mem_range.2 hi)
    have h2 : q[i]? = some i := by simpa using h1
    rw [hι i i h2]
    exact hr.spots i hi
end Go.Abs


namespace Go.Proofs.YtkckmenalehdpaaDoor
open Go Go.Abs
attribute [local irreducible] WpA WpL Rnd Blk Abs.Seq Abs.Fin Abs.FinG FnC FnG Only showK
instance ShowFrame_c : Con 36 (∀ (W H : Int) (p : List Int), p.length ≤ 1099511627776 → Fn 36 [FrA W H p] [] (Z (showF W H p))) := ⟨fun W H p hl => by
  refine FnC.of_body tabOk Tryd.func36 Tryd.ntmps36 rfl (by decide +kernel) (by simp) fun G => ?_
  refine goR (r := ?_); and_intros <;> intros <;> try exact True.intro
  · unfold showF; rw [if_neg (by assumption)]
  have hf : FrameOk W H p := by assumption
  have hlen := frame_len hf
  have hs0 : showF W H p = showK W p p.length := by unfold showF; rw [if_pos hf]
  have e0 : showK W p 0 = [] := by unfold showK; rfl
  refine WpA.loop (fun x : Bool × Nat => ⟨[(1, .ptr 0 0 0), (3, .ptr 1 0 0), (11, IL p), (12, I p.length), (13, I x.2)], [⟨[I W, I H, IL p], 0, 0, none⟩, ⟨[bpt x.1 1, .own 2 0 0 (showK W p x.2).length], 0, 0, some 71⟩, BB (showK W p x.2)]⟩) (fun x => x.2 ≤ p.length) (fun x => p.length - x.2) (false, 0) (by simp only; omega) ?_ (fun x hx => ?_)
  · simp only [e0]
    exact Weak.nil1 (by first | (show 0 ≤ _; exact Nat.zero_le _) | (repeat' (first | exact RzT.nil | refine RzT.cons ?_ ?_ | exact Rz.nil | refine Rz.keep rfl rfl ?_ | refine Rz.own rfl rfl rfl rfl rfl (by first | rfl | omega | (simp; done)) ?_ | refine Rz.ptr rfl rfl rfl rfl ?_ | refine Rz.nilO rfl rfl rfl (by first | rfl | omega | (simp; done)) ?_ | refine Rz.agg ?_ ?_ | exact RzO.last rfl | (refine RzO.cons ?_ (.inr rfl) ?_) | exact Rz.same rfl (still_ints _) | exact Rz.same rfl (still_rows (fun _ => rfl) _)))) (by first | (show 0 ≤ _; exact Nat.zero_le _) | (repeat' (first | exact RzT.nil | refine RzT.cons ?_ ?_ | exact Rz.nil | refine Rz.keep rfl rfl ?_ | refine Rz.own rfl rfl rfl rfl rfl (by first | rfl | omega | (simp; done)) ?_ | refine Rz.ptr rfl rfl rfl rfl ?_ | refine Rz.nilO rfl rfl rfl (by first | rfl | omega | (simp; done)) ?_ | refine Rz.agg ?_ ?_ | exact RzO.last rfl | (refine RzO.cons ?_ (.inr rfl) ?_) | exact Rz.same rfl (still_ints _) | exact Rz.same rfl (still_rows (fun _ => rfl) _)))) (Nat.le_of_ble_eq_true rfl)
  obtain ⟨b, k⟩ := x
  simp only at hx ⊢
  have hlk := showK_len W p k
  have hv := in_getD hf.2.2 k
  have hW : 8 ≤ W := hf.1.1
  refine goR (r := ?_); and_intros <;> intros <;> try exact True.intro
  · simp
  · have e1 : hexL (List.map (fun n : Int => UInt8.ofNat n.toNat) [IntKind.u8.wrap (p.getD k 0)]) = hexB (UInt8.ofNat (p.getD k 0).toNat) := by
      rw [u8w _ hv]
      simp [hexL]
    rw [e1]
    have hc := writeString_b b (showK W p k) (hexB (UInt8.ofNat (p.getD k 0).toNat)) ⟨by omega, by simp [hexB]⟩
    refine K.call ?_
    refine WpL.callH (hs := [1, 2]) (base := 4) hc (.ptr rfl rfl rfl (.keep rfl rfl .nil)) (.hand rfl (hand_bpt rfl rfl rfl (.own rfl rfl rfl rfl .nil)) (nofre_bpt rfl) rfl rfl (.inr rfl) (.still rfl rfl (still_u8s _) rfl rfl (.inr rfl) .nil)) rfl (fun _ _ _ _ => Nat.zero_le _) rfl (.keep rfl (.turn rfl (by decide) rfl rfl (.pold (by decide) rfl rfl (.new (by decide) rfl .nil)) (.dead rfl (by decide) (.keep rfl .nil)))) (.cons (Back.all rfl (still_u8s _) (Loc.u8s _)) .nil) (.tup (.loc rfl (.sc .nil) (.loc rfl (.sc .nil) .nil)) .nil) rfl (by decide) ?_
    refine go (r := ?_); and_intros <;> intros <;> try exact True.intro
    · have hc2 := writeByte_1 (showK W p k ++ hexB (UInt8.ofNat (p.getD k 0).toNat)) 10 (by simp [hexB]; omega)
      refine K.call ?_
      refine WpL.callH (hs := [1, 4]) (base := 5) hc2 (.ptr rfl rfl rfl (.keep rfl rfl .nil)) (.hand rfl (.ptr rfl rfl rfl (.own rfl rfl rfl rfl .nil)) rfl rfl rfl (.inr rfl) (.still rfl rfl (still_u8s _) rfl rfl (.inr rfl) .nil)) rfl (fun _ _ _ _ => Nat.zero_le _) rfl (.keep rfl (.turn rfl (by decide) rfl rfl (.pold (by decide) rfl rfl (.new (by decide) rfl .nil)) (.keep rfl (.keep rfl (.dead rfl (by decide) .nil))))) (.cons (Back.all rfl (still_u8s _) (Loc.u8s _)) .nil) (.loc rfl (.sc .nil) .nil) rfl (by decide) ?_
      refine go (r := ?_); and_intros <;> intros <;> try exact True.intro
      have e2 : showK W p (k + 1) = showK W p k ++ hexB (UInt8.ofNat (p.getD k 0).toNat) ++ [10] := by rw [showK_succ, tokF, if_pos (by assumption)]; simp
      refine Rnd.go (true, k + 1) (by simp only; omega) (by simp only; omega) ?_
      simp only [e2]
      exact Weak.mv [0, 1, 5] rfl rfl rfl (by repeat (first | exact RvT.nil | refine RvT.cons (.keep rfl rfl .nil) ?_ | refine RvT.cons (.fn rfl .nil) ?_ | refine RvT.cons (.ptr rfl rfl rfl rfl rfl .nil) ?_ | refine RvT.cons (.tup (.agg (.keep rfl rfl (.keep rfl rfl (.own rfl rfl rfl rfl rfl rfl (by first | rfl | omega) .nil))) (.any .nil)) .nil) ?_)) (.cons rfl (Rv.same rfl rfl) (.inl rfl) (.cons rfl (.ptr rfl rfl rfl rfl rfl (.own rfl rfl rfl rfl rfl rfl rfl .nil)) (.inr rfl) (.cons rfl (Rv.same rfl (still_u8s _)) (.inr rfl) .nil)))
    · have e2 : showK W p (k + 1) = showK W p k ++ hexB (UInt8.ofNat (p.getD k 0).toNat) := by rw [showK_succ, tokF, if_neg (by assumption)]; simp
      refine Rnd.go (true, k + 1) (by simp only; omega) (by simp only; omega) ?_
      simp only [e2]
      exact Weak.mv [0, 1, 4] rfl rfl rfl (by repeat (first | exact RvT.nil | refine RvT.cons (.keep rfl rfl .nil) ?_ | refine RvT.cons (.fn rfl .nil) ?_ | refine RvT.cons (.ptr rfl rfl rfl rfl rfl .nil) ?_ | refine RvT.cons (.tup (.agg (.keep rfl rfl (.keep rfl rfl (.own rfl rfl rfl rfl rfl rfl (by first | rfl | omega) .nil))) (.any .nil)) .nil) ?_)) (.cons rfl (Rv.same rfl rfl) (.inl rfl) (.cons rfl (.ptr rfl rfl rfl rfl rfl (.own rfl rfl rfl rfl rfl rfl rfl .nil)) (.inr rfl) (.cons rfl (Rv.same rfl (still_u8s _)) (.inr rfl) .nil)))
  · have ek : k = p.length := by omega
    have hge := showK_ge W p k
    have h8 : 1 ≤ p.length := by
      have h1 := hf.2.1
      have h2 : 8 * 8 ≤ W * H := Int.mul_le_mul hf.1.1 hf.1.2.2.1 (by decide) (by omega)
      omega
    have hc := bString b (showK W p k) (by omega) (by omega)
    refine K.call ?_
    refine WpL.callH (hs := [1, 2]) (base := 3) hc (.ptr rfl rfl rfl .nil) (.hand rfl (hand_bpt rfl rfl rfl (.own rfl rfl rfl rfl .nil)) (nofre_bpt rfl) rfl rfl (.inr rfl) (.still rfl rfl (still_u8s _) rfl rfl (.inr rfl) .nil)) rfl (fun _ _ _ _ => Nat.zero_le _) rfl (.keep rfl (.turn rfl (by decide) rfl rfl (.loc rfl (.any .nil) (.loc rfl (.any .nil) .nil)) (.dead rfl (by decide) .nil))) .nil (.loc rfl (.sc .nil) .nil) rfl (by decide) ?_
    refine go (r := ?_); and_intros <;> intros <;> try exact True.intro
    rw [hs0, ek]⟩
theorem row_mod {y Wn x : Nat} (h : x < Wn) : ((y * Wn + x : Nat) : Int) % (Wn : Int) = x := by
  have : (y * Wn + x) % Wn = x := by rw [Nat.mul_comm, Nat.mul_add_mod]; exact Nat.mod_eq_of_lt h
  rw [← Int.natCast_emod, this]
instance ShowFrame_s : Con 31 (∀ (W H : Int) (p : List Int), p.length ≤ 1099511627776 → Fn 31 [FrA W H p] [] (Z (showF W H p))) := ⟨fun W H p hl => by
  refine FnC.of_body tabOk Tryd.func31 Tryd.ntmps31 rfl (by decide +kernel) (by simp) fun G => ?_
  refine go (r := ?_); and_intros <;> intros <;> try exact True.intro
  have e0 : showK W p 0 = [] := by unfold showK; rfl
  refine WpA.loop (fun x : Nat × List UInt8 => ⟨[(1, .ptr 0 0 0), (3, Z x.2), (4, I x.1)], [⟨[I W, I H, IL p], 0, 0, none⟩]⟩) (fun x => (x.1 = 0 ∧ x.2 = []) ∨ (FrameOk W H p ∧ (x.1 : Int) ≤ H ∧ x.2 = showK W p (x.1 * W.toNat))) (fun x => H.toNat - x.1) (0, []) (.inl ⟨rfl, rfl⟩) (go (r := trivial)) (fun x hx => ?_)
  obtain ⟨y, s⟩ := x
  simp only at hx ⊢
  have hy0 : (y : Int) ≤ 32 := by
    rcases hx with ⟨h1, _⟩ | ⟨h1, h2, _⟩
    · omega
    · have := h1.1.2.2.2.1; omega
  refine goR (r := ?_); and_intros <;> intros <;> try exact True.intro
  · have hf : FrameOk W H p := by assumption
    have hlen := frame_len hf
    obtain ⟨Wn, rfl⟩ : ∃ Wn : Nat, W = Wn := ⟨W.toNat, by have := hf.1.1; omega⟩
    have hW : 8 ≤ Wn := by have := hf.1.1; omega
    have hs : s = showK Wn p (y * Wn) := by
      rcases hx with ⟨h1, h2⟩ | ⟨_, _, h3⟩
      · rw [h1, h2, Nat.zero_mul, e0]
      · rw [h3, Int.toNat_natCast]
    have hm : ((y * Wn : Nat) : Int) + Wn ≤ p.length := by
      have h1 : (Wn : Int) * (y + 1) ≤ Wn * H := Int.mul_le_mul_of_nonneg_left (by omega) (by omega)
      rw [hf.2.1, Int.natCast_mul]
      rw [Int.mul_add, Int.mul_one, Int.mul_comm] at h1
      exact h1
    have hsl := showK_len Wn p (y * Wn)
    refine WpA.loop (fun x : Nat × List UInt8 => ⟨[(1, .ptr 0 0 0), (3, Z x.2), (4, I y), (5, I x.1)], [⟨[I Wn, I H, IL p], 0, 0, none⟩]⟩) (fun x => x.1 ≤ Wn ∧ (x.1 < Wn → x.2 = showK Wn p (y * Wn + x.1)) ∧ (x.1 = Wn → x.2 ++ [10] = showK Wn p (y * Wn + Wn)) ∧ x.2.length ≤ 4096) (fun x => Wn - x.1) (0, s) ⟨by omega, fun _ => by simpa using hs, fun h => by simp only at h; omega, by simp only [hs]; omega⟩ (go (r := trivial)) (fun x hx2 => ?_)
    obtain ⟨x, u⟩ := x
    obtain ⟨hx1, hx2, hx3, hx4⟩ := hx2
    simp only at hx1 hx2 hx3 hx4 ⊢
    have hp1 : ((y : Int) * (Wn : Int)) = ((y * Wn : Nat) : Int) := by rw [Int.natCast_mul]
    have hv := in_getD hf.2.2 (y * Wn + x)
    refine goR (r := ?_); and_intros <;> intros <;> try exact True.intro
    · simp
    · have e1 : hexL (List.map (fun n : Int => UInt8.ofNat n.toNat) [IntKind.u8.wrap (p.getD (y * Wn + x) 0)]) = hexB (UInt8.ofNat (p.getD (y * Wn + x) 0).toNat) := by
        rw [u8w _ hv]
        simp [hexL]
      rw [e1]
      have hhl : (hexB (UInt8.ofNat (p.getD (y * Wn + x) 0).toNat)).length = 2 := rfl
      have hu := hx2 (by omega)
      have hul := showK_len Wn p (y * Wn + x)
      refine go (r := ?_); and_intros <;> intros <;> try exact True.intro
      have hmod := row_mod (y := y) (Wn := Wn) (x := x) (by omega)
      refine Rnd.go (x + 1, u ++ hexB (UInt8.ofNat (p.getD (y * Wn + x) 0).toNat)) ⟨by simp only; omega, fun h => ?_, fun h => ?_, ?_⟩ (by simp only; omega) (go (r := trivial))
      · simp only at h ⊢
        rw [← Nat.add_assoc, showK_succ, ← hu, tokF, hmod, if_neg (by omega)]; simp
      · simp only at h ⊢
        rw [show y * Wn + Wn = y * Wn + x + 1 from by omega, showK_succ, ← hu, tokF, hmod, if_pos (by omega)]; simp
      · simp only [List.length_append, hhl]
        rw [hu]; omega
    · have hxe : x = Wn := by omega
      have hu := hx3 hxe
      refine Rnd.go (y + 1, u ++ [10]) (.inr ⟨hf, by simp only; omega, ?_⟩) (by simp only; omega) (go (r := trivial))
      simp only
      rw [hu, Int.toNat_natCast, Nat.add_mul, Nat.one_mul]
  · rcases hx with ⟨h1, h2⟩ | ⟨h1, _⟩
    · rw [h2]; unfold showF; rw [if_neg (by assumption)]
    · contradiction
  · rcases hx with ⟨h1, h2⟩ | ⟨h1, h2, h3⟩
    · rw [h2]; unfold showF; rw [if_neg]
      intro h
      have := h.1.2.2.1
      omega
    · unfold showF
      rw [if_pos h1, h3]
      have h4 : (p.length : Int) = W * H := h1.2.1
      have h5 : (y : Int) = H := by omega
      have h6 : p.length = y * W.toNat := by
        have h7 : ((y * W.toNat : Nat) : Int) = W * H := by rw [Int.natCast_mul, Int.toNat_of_nonneg (by have := h1.1.1; omega), h5, Int.mul_comm]
        omega
      rw [h6]⟩
end Go.Proofs.YtkckmenalehdpaaDoor


namespace Go.Proofs.YtkckmenalehdpaaDoor
open Go Go.Abs
attribute [local irreducible] WpA WpL Rnd Blk Abs.Seq Abs.Fin Abs.FinG FnC FnG Only showK
theorem indexByte_le (s : List UInt8) (c : UInt8) : -1 ≤ Go.Lib.indexByte s c ∧ Go.Lib.indexByte s c ≤ s.length := by
  refine ⟨Go.Lib.indexByte_ge s c, ?_⟩
  induction s with
  | nil => simp [Go.Lib.indexByte]
  | cons b l ih =>
    rw [Go.Lib.indexByte]
    split
    · simp only [List.length_cons]; omega
    · split
      · simp only [List.length_cons]; omega
      · simp only [List.length_cons]; omega
theorem replace_len (s : List UInt8) (c : UInt8) : (Go.Lib.replaceAll s [c] []).length ≤ s.length := by
  rw [replace_filter]; exact List.length_filter_le _ _
theorem cD_len {s d : List UInt8} (h : cD s = some d) : d.length ≤ s.length := by
  have h1 := unhexL_len h
  have h2 := replace_len s 10
  omega
theorem nb_take (d : List UInt8) (k : Nat) (h : k < d.length) : nb (d.take (k + 1)) = nb (d.take k) ++ [((d.getD k 0).toNat : Int)] := by
  rw [List.take_succ_eq_append_getElem h]
  unfold nb
  rw [List.map_append]
  simp [h]
def rW (s : List UInt8) : Int := if RfOk s then cW s else 0
def rH (s : List UInt8) : Int := if RfOk s then cH s else 0
def rP (s : List UInt8) : List Int := if RfOk s then cP s else []
abbrev RfR (s : List UInt8) : AV := .tup [.agg [I (rW s), I (rH s), .own 0 0 0 (rP s).length], B (decide (RfOk s))]
instance ReadFrame_c : Con 12 (∀ s : List UInt8, s.length ≤ 1048576 → Fn 12 [Z s] [⟨ints (rP s), 0, 1, some 3⟩] (RfR s)) := ⟨fun s hl => by
  have hib := indexByte_le s ((10 : Int).toNat.toUInt8)
  have hrl := replace_len s 10
  refine FnC.of_body tabOk Tryd.func12 Tryd.ntmps12 rfl (by decide +kernel) (by simp) fun G => ?_
  refine go (r := ?_); and_intros <;> intros <;> try exact True.intro
  · decide
  generalize hd : (unhexL (Go.Lib.replaceAll s [10] [])).getD [] = d
  generalize ho : (unhexL (Go.Lib.replaceAll s [10] [])).isSome = ok
  have hdl : d.length ≤ 1048576 := by
    cases h : unhexL (Go.Lib.replaceAll s [10] []) with
    | none => rw [h] at hd; simp at hd; subst hd; simp
    | some x => rw [h] at hd; simp at hd; subst hd; have := unhexL_len h; omega
  refine WpA.loop (fun k : Nat => ⟨[(0, Z s), (2, .ptr 0 0 0), (4, .ptr 1 0 0), (5, Z d), (6, B ok), (22, I d.length), (23, I k)], [⟨[I 0, I 0, .nilS], 0, 0, none⟩, ⟨[I (cW s), I (cH s), .own 2 0 0 k], 0, 0, none⟩, ⟨ints (nb (d.take k)), 0, 1, some 3⟩]⟩) (fun k => k ≤ d.length) (fun k => d.length - k) 0 (by omega) ?_ (fun k hk => ?_)
  · exact Weak.nil1 (by first | (show 0 ≤ _; exact Nat.zero_le _) | (repeat' (first | exact RzT.nil | refine RzT.cons ?_ ?_ | exact Rz.nil | refine Rz.keep rfl rfl ?_ | refine Rz.own rfl rfl rfl rfl rfl (by first | rfl | omega | (simp; done)) ?_ | refine Rz.ptr rfl rfl rfl rfl ?_ | refine Rz.nilO rfl rfl rfl (by first | rfl | omega | (simp; done)) ?_ | refine Rz.agg ?_ ?_ | exact RzO.last rfl | (refine RzO.cons ?_ (.inr rfl) ?_) | exact Rz.same rfl (still_ints _) | exact Rz.same rfl (still_rows (fun _ => rfl) _)))) (by first | (show 0 ≤ _; exact Nat.zero_le _) | (repeat' (first | exact RzT.nil | refine RzT.cons ?_ ?_ | exact Rz.nil | refine Rz.keep rfl rfl ?_ | refine Rz.own rfl rfl rfl rfl rfl (by first | rfl | omega | (simp; done)) ?_ | refine Rz.ptr rfl rfl rfl rfl ?_ | refine Rz.nilO rfl rfl rfl (by first | rfl | omega | (simp; done)) ?_ | refine Rz.agg ?_ ?_ | exact RzO.last rfl | (refine RzO.cons ?_ (.inr rfl) ?_) | exact Rz.same rfl (still_ints _) | exact Rz.same rfl (still_rows (fun _ => rfl) _)))) (Nat.le_of_ble_eq_true rfl)
  have hnk : (nb (d.take k)).length = k := by rw [nb_len, List.length_take]; omega
  have hcd : cD s = unhexL (Go.Lib.replaceAll s [10] []) := rfl
  have hpd : k = d.length → nb (d.take k) = cP s := fun h => by
    unfold cP; rw [hcd, hd, h, List.take_length]
  have hw : max (Go.Lib.indexByte s ((10 : Int).toNat.toUInt8)) 0 / 2 = cW s := rfl
  have hnk2 : (nb (d.take k)).length ≤ 1048576 := by omega
  refine go (r := ?_); and_intros <;> intros <;> try exact True.intro
  · show nb (d.take k) ++ [IntKind.i64.wrap ((d.getD k 0).toNat : Int)] = nb (d.take (k + 1))
    have hb := (d.getD k 0).toNat_lt
    rw [IntWalk.i64_in _ (by omega), nb_take d k (by omega)]
  all_goals (
    have hpk := hpd (by omega)
    by_cases hr : RfOk s
    · have h1 := hr.1
      have h2 := hr.2.1
      have h3 := hr.2.2
      rw [hcd, ho] at h2
      rw [← hpk] at h3
      first
      | (simp only [rW, rH, rP, if_pos hr, decide_eq_true hr]; done)
      | (simp only [rP, if_pos hr]; first | exact hpk | (rw [← hpk]; omega))
      | (exfalso; simp_all; done)
    · first
      | (simp only [rW, rH, rP, if_neg hr, decide_eq_false hr, List.length_nil]; done)
      | exact absurd ⟨by assumption, by rw [hcd, ho]; simp_all, by rw [← hpk]; assumption⟩ hr)⟩
end Go.Proofs.YtkckmenalehdpaaDoor


namespace Go.Proofs.YtkckmenalehdpaaDoor
open Go Go.Abs
attribute [local irreducible] WpA WpL Rnd Blk Abs.Seq Abs.Fin Abs.FinG FnC FnG Only showK
def Ends {β : Type} (m id : Nat) (E : β → St) (C : β → Prop) : Exit → St → Prop
  | .exit i, σ => i = id ∧ ∃ x, C x ∧ Weak m σ (E x)
  | _, _ => False
theorem Ends.go {β : Type} {m id : Nat} {E : β → St} {C : β → Prop} {σ : St} (x : β) (h1 : C x) (h2 : Weak m σ (E x)) : Ends m id E C (.exit id) σ := ⟨rfl, x, h1, h2⟩
theorem WpA.once {P : Program} {n m : Nat} {G : Ctx} {c r : Code} {σ : St} {Q Q' : Exit → St → Prop} {id : Nat} {β : Type} (E : β → St) (C : β → Prop) (h1 : WpA P n m G c σ (Ends m id E C)) (h2 : ∀ x, C x → WpA P n m G r (E x) Q) :
    WpA P n m G c σ (Blk id (Abs.Seq (fun σ => WpA P n m G r σ Q) Q')) := by
  refine WpA.mono h1 fun e σ h => ?_
  cases e with
  | exit i =>
    obtain ⟨rfl, x, hx, hw⟩ := h
    exact Blk.exitHere (Seq.n (WpA.weak hw (h2 x hx)))
  | _ => exact h.elim
attribute [local irreducible] Ends
theorem fst10_drop {s : List UInt8} {w : Nat} (h : w < s.length) : fst10 (s.drop w) = if s.getD w 0 = 10 then 0 else fst10 (s.drop (w + 1)) + 1 := by
  rw [List.drop_eq_getElem_cons h, fst10]
  simp [h]
theorem rdP_at {s : List UInt8} {i : Nat} (h : i + 1 < s.length) : rdP (s.drop i) = if s.getD i 0 = 10 then rdP (s.drop (i + 1)) else (unhexL ((s.drop i).take 2)).bind fun t => (rdP (s.drop (i + 2))).map (nb t ++ ·) := by
  have e1 : s.drop i = s[i] :: s[i + 1] :: s.drop (i + 2) := by
    rw [List.drop_eq_getElem_cons (by omega), List.drop_eq_getElem_cons (show i + 1 < s.length from h)]
  have e2 : s.drop (i + 1) = s[i + 1] :: s.drop (i + 2) := by rw [List.drop_eq_getElem_cons (show i + 1 < s.length from h)]
  rw [e1, rdP, e2]
  have e3 : s.getD i 0 = s[i] := by simp [show i < s.length by omega]
  rw [e3]
  split
  · rfl
  · simp only [List.take_succ_cons, List.take_zero]
    cases unhexL [s[i], s[i + 1]] <;> rfl
theorem rdP_end {s : List UInt8} {i : Nat} (h : ¬ i + 1 < s.length) : rdP (s.drop i) = some [] := by
  have hl : (s.drop i).length ≤ 1 := by rw [List.length_drop]; omega
  match s.drop i, hl with
  | [], _ => rfl
  | [_], _ => rfl
theorem rf_no {s : List UInt8} (h : ¬RfOk s) : 0 = rW s ∧ 0 = rH s ∧ 0 = (rP s).length ∧ false = decide (RfOk s) ∧ [] = rP s := by
  unfold rW rH rP
  simp only [if_neg h, decide_eq_false h, List.length_nil, and_self]
theorem rf_yes {s : List UInt8} {P : List Int} (h : rdP s = some P) (hs : ¬ s = []) (he : showF (sW s) (sH s P) P = s) : sW s = rW s ∧ sH s P = rH s ∧ P.length = (rP s).length ∧ true = decide (RfOk s) ∧ P = rP s := by
  obtain ⟨h1, h2, h3, h4⟩ := rd_same h hs he
  unfold rW rH rP
  simp only [if_pos h1, decide_eq_true h1, h2, h3, h4, and_self]
theorem rf_fail {s : List UInt8} {P : List Int} (h : rdP s = some P) (hn : ¬ showF (sW s) (sH s P) P = s) : ¬RfOk s := fun hr => hn (by
  obtain ⟨h1, h2, h3⟩ := rd_back hr
  rw [h] at h1
  cases h1
  rw [h2, h3]; exact hr.2.2)
theorem take2 (s : List UInt8) (i : Nat) : List.take (((i : Int) + 2).toNat - (i : Int).toNat) (List.drop (i : Int).toNat s) = (s.drop i).take 2 := by
  rw [show ((i : Int) + 2).toNat - (i : Int).toNat = 2 by omega, Int.toNat_natCast]
theorem rf_bad {s : List UInt8} {P : List Int} {i : Nat} (h : (i : Int) + 1 < s.length) (hx : rdP s = (rdP (s.drop i)).map (P ++ ·)) (hn : ¬ ((s.getD i 0).toNat : Int) = 10)
    (hb : (!(unhexL (List.take (((i : Int) + 2).toNat - (i : Int).toNat) (List.drop (i : Int).toNat s))).isSome) = true) : ¬RfOk s := fun hr => by
  rw [take2] at hb
  obtain ⟨h1, _⟩ := rd_back hr
  have hq : unhexL ((s.drop i).take 2) = none := by
    cases hq : unhexL ((s.drop i).take 2) with
    | none => rfl
    | some t => rw [hq] at hb; simp at hb
  rw [hx, rdP_at (by omega), if_neg (fun h => hn (by rw [h]; rfl)), hq] at h1
  simp at h1
theorem rf_step {s : List UInt8} {P : List Int} {i : Nat} (h : (i : Int) + 1 < s.length) (hx : rdP s = (rdP (s.drop i)).map (P ++ ·)) (hn : ¬ ((s.getD i 0).toNat : Int) = 10)
    (hb : (!(unhexL (List.take (((i : Int) + 2).toNat - (i : Int).toNat) (List.drop (i : Int).toNat s))).isSome) = false) :
    ((unhexL (List.take (((i : Int) + 2).toNat - (i : Int).toNat) (List.drop (i : Int).toNat s))).getD []).length = 1 ∧
    rdP s = (rdP (s.drop (i + 2))).map ((P ++ [IntKind.i64.wrap ((((unhexL (List.take (((i : Int) + 2).toNat - (i : Int).toNat) (List.drop (i : Int).toNat s))).getD []).getD 0 0).toNat : Int)]) ++ ·) := by
  rw [take2] at hb ⊢
  cases hq : unhexL ((s.drop i).take 2) with
  | none => rw [hq] at hb; simp at hb
  | some t =>
    have hl := unhexL_len hq
    rw [List.length_take, List.length_drop] at hl
    have hl1 : t.length = 1 := by omega
    obtain ⟨b, rfl⟩ := List.length_eq_one_iff.1 hl1
    have hb := b.toNat_lt
    refine ⟨rfl, ?_⟩
    rw [hx, rdP_at (by omega), if_neg (fun h => hn (by rw [h]; rfl)), hq]
    simp only [Option.bind_some, Option.map_map, Option.getD_some, List.getD_cons_zero]
    rw [IntWalk.i64_in _ (by omega)]
    congr 1
    funext x
    simp [nb]
instance ReadFrame_s : Con 11 (∀ s : List UInt8, s.length ≤ 1048576 → Fn 11 [Z s] [⟨ints (rP s), 0, 1, some 3⟩] (RfR s)) := ⟨fun s hl => by
  refine FnC.of_body tabOk Tryd.func11 Tryd.ntmps11 rfl (by decide +kernel) (by simp) fun G => ?_
  refine go (r := ?_); and_intros <;> intros <;> try exact True.intro
  refine WpA.once (fun w : Nat => ⟨[(0, Z s), (2, .ptr 0 0 0), (4, I w)], [⟨[I 0, I 0, .nilS], 0, 0, none⟩]⟩) (fun w => w ≤ s.length ∧ fst10 s = w) (WpA.loop (fun w : Nat => ⟨[(0, Z s), (2, .ptr 0 0 0), (4, I w)], [⟨[I 0, I 0, .nilS], 0, 0, none⟩]⟩) (fun w => w ≤ s.length ∧ fst10 s = w + fst10 (s.drop w)) (fun w => s.length - w) 0 ⟨by omega, by simp⟩ (go (r := trivial)) (fun w hw => ?_)) (fun w hw => ?_)
  · obtain ⟨hw1, hw2⟩ := hw
    refine go (r := ?_); and_intros <;> intros <;> try exact True.intro
    · rw [hw2, fst10_drop (by omega), if_neg (fun h => ‹¬ ((s.getD w 0).toNat : Int) = 10› (by rw [h]; rfl))]; omega
    · refine Ends.go w ⟨hw1, ?_⟩ (go (r := trivial))
      rw [hw2, fst10_drop (by omega), if_pos (UInt8.toNat_inj.1 (by show _ = 10; omega))]; rfl
    · refine Ends.go w ⟨hw1, ?_⟩ (go (r := trivial))
      rw [hw2, List.drop_eq_nil_of_le (by omega)]; rfl
  obtain ⟨hw1, hwe⟩ := hw
  refine go (r := ?_); and_intros <;> intros <;> try exact True.intro
  refine WpA.loop (fun x : List Int × Nat => ⟨[(0, Z s), (2, .ptr 0 0 0), (5, .ptr 1 0 0), (6, I x.2)], [⟨[I 0, I 0, .nilS], 0, 0, none⟩, ⟨[I ((w : Int) / 2), I 0, .own 2 0 0 x.1.length], 0, 0, none⟩, ⟨ints x.1, 0, 1, some 3⟩]⟩) (fun x => rdP s = (rdP (s.drop x.2)).map (x.1 ++ ·) ∧ x.2 ≤ s.length ∧ x.1.length ≤ x.2) (fun x => s.length - x.2) ([], 0) ⟨by simp, by simp only; omega, by simp⟩ ?_ (fun x hx => ?_)
  · exact Weak.nil1 (by first | (show 0 ≤ _; exact Nat.zero_le _) | (repeat' (first | exact RzT.nil | refine RzT.cons ?_ ?_ | exact Rz.nil | refine Rz.keep rfl rfl ?_ | refine Rz.own rfl rfl rfl rfl rfl (by first | rfl | omega | (simp; done)) ?_ | refine Rz.ptr rfl rfl rfl rfl ?_ | refine Rz.nilO rfl rfl rfl (by first | rfl | omega | (simp; done)) ?_ | refine Rz.agg ?_ ?_ | exact RzO.last rfl | (refine RzO.cons ?_ (.inr rfl) ?_) | exact Rz.same rfl (still_ints _) | exact Rz.same rfl (still_rows (fun _ => rfl) _)))) (by first | (show 0 ≤ _; exact Nat.zero_le _) | (repeat' (first | exact RzT.nil | refine RzT.cons ?_ ?_ | exact Rz.nil | refine Rz.keep rfl rfl ?_ | refine Rz.own rfl rfl rfl rfl rfl (by first | rfl | omega | (simp; done)) ?_ | refine Rz.ptr rfl rfl rfl rfl ?_ | refine Rz.nilO rfl rfl rfl (by first | rfl | omega | (simp; done)) ?_ | refine Rz.agg ?_ ?_ | exact RzO.last rfl | (refine RzO.cons ?_ (.inr rfl) ?_) | exact Rz.same rfl (still_ints _) | exact Rz.same rfl (still_rows (fun _ => rfl) _)))) (Nat.le_of_ble_eq_true rfl)
  obtain ⟨P, i⟩ := x
  obtain ⟨hx1, hx2, hx3⟩ := hx
  simp only at hx1 hx2 hx3 ⊢
  by_cases hc : (i : Int) + 1 < s.length ∧ ¬ ((s.getD i 0).toNat : Int) = 10 ∧ (!(unhexL (List.take (((i : Int) + 2).toNat - (i : Int).toNat) (List.drop (i : Int).toNat s))).isSome) = false
  · obtain ⟨hc1, hc2, hc3⟩ := hc
    have hst := rf_step hc1 hx1 hc2 hc3
    obtain ⟨hst1, hst2⟩ := hst
    have hPl : P.length ≤ 1048576 := by omega
    refine go (r := ?_); and_intros <;> intros <;> try exact True.intro
    all_goals first
    | exact Bool.noConfusion (hc3.symm.trans (by assumption))
    | exact Rnd.go (P ++ [IntKind.i64.wrap ((((unhexL (List.take (((i : Int) + 2).toNat - (i : Int).toNat) (List.drop (i : Int).toNat s))).getD []).getD 0 0).toNat : Int)], i + 2) ⟨hst2, by simp only; omega, by simp only [List.length_append, List.length_cons, List.length_nil]; omega⟩ (by simp only; omega) (go (r := trivial))
    | trace_state
  have hsw : sW s = (w : Int) / 2 := by unfold sW; rw [hwe]; omega
  have hs1 : (w : Int) / 2 > 0 → sH s P = (P.length : Int) / ((w : Int) / 2) := fun h => by unfold sH; rw [hsw, if_pos h]
  have hs0 : ¬ (w : Int) / 2 > 0 → sH s P = 0 := fun h => by unfold sH; rw [hsw, if_neg h]
  have hend : ¬ ((i : Int) + 1 < s.length) → rdP s = some P := fun h => by rw [hx1, rdP_end (by omega)]; simp
  have hY : ∀ k : Int, ¬ ((i : Int) + 1 < s.length) → sH s P = k → ¬ s = [] → showF ((w : Int) / 2) k P = s → ((w : Int) / 2 = rW s ∧ k = rH s ∧ P.length = (rP s).length ∧ true = decide (RfOk s) ∧ P = rP s) := fun k h1 h2 h3 h4 => by
    rw [← hsw, ← h2] at h4 ⊢
    exact rf_yes (hend h1) h3 h4
  have hNo : ∀ k : Int, ¬ ((i : Int) + 1 < s.length) → sH s P = k → ¬ showF ((w : Int) / 2) k P = s → ¬RfOk s := fun k h1 h2 h4 => by
    rw [← hsw, ← h2] at h4
    exact rf_fail (hend h1) h4
  refine go (r := ?_); and_intros <;> intros <;> try exact True.intro
  all_goals first
  | (refine Rnd.go (P, i + 1) ⟨by rw [hx1, rdP_at (by omega), if_pos (UInt8.toNat_inj.1 (by show _ = 10; omega))], by simp only; omega, by simp only; omega⟩ (by simp only; omega) (go (r := trivial)); done)
  | (have hbad : ¬RfOk s := by
       first
       | exact fun h => h.1 (by assumption)
       | exact rf_bad (by assumption) hx1 (by assumption) (by assumption)
       | exact hNo _ (by assumption) (hs1 (by assumption)) (by assumption)
       | exact hNo _ (by assumption) (hs0 (by assumption)) (by assumption)
     have hr := rf_no hbad
     first | exact hr.1 | exact hr.2.1 | exact hr.2.2.1 | exact hr.2.2.2.1 | exact hr.2.2.2.2)
  | (have hr := hY _ (by assumption) (hs1 (by assumption)) (by assumption) (by assumption)
     first | exact hr.1 | exact hr.2.1 | exact hr.2.2.1 | exact hr.2.2.2.1 | exact hr.2.2.2.2)
  | (have hr := hY _ (by assumption) (hs0 (by assumption)) (by assumption) (by assumption)
     first | exact hr.1 | exact hr.2.1 | exact hr.2.2.1 | exact hr.2.2.2.1 | exact hr.2.2.2.2)
  | skip
  all_goals exact absurd ⟨by assumption, by assumption, by assumption⟩ hc⟩
end Go.Proofs.YtkckmenalehdpaaDoor


namespace Go.Proofs.YtkckmenalehdpaaDoor
open Go Go.Abs
attribute [local irreducible] WpA WpL Rnd Blk Abs.Seq Abs.Fin Abs.FinG FnC FnG Only
def marksI (k : Int) (n : Nat) : List Int := (List.range n).map fun i : Nat => k + (i : Int)
@[simp] theorem marksI_len (k : Int) (n : Nat) : (marksI k n).length = n := by simp [marksI]
instance markIntS_c : ConG 37 (∀ (l : List Int) (k : Int), l.length ≤ 1099511627776 ∧ 0 ≤ k ∧ k ≤ 1099511627776 → Gn 37 [.own 0 0 0 l.length, I k] [IN l] [IN (marksI k l.length)] [] (I (k + l.length))) := ⟨fun l k hk => by
  refine FnG.of_bodyF tabOk Tryd.func37 Tryd.ntmps37 rfl (by decide +kernel) (by simp) rfl rfl fun G => ?_
  refine go (r := ?_); and_intros <;> intros <;> try exact True.intro
  refine WpA.loop (fun i : Nat => ⟨[(0, .own 0 0 0 l.length), (1, I (k + i)), (5, I i)], [IN (marksI k i ++ l.drop i)]⟩) (fun i => i ≤ l.length) (fun i => l.length - i) 0 (by simp) (go (r := ?_)) (fun i hi => ?_)
  · simp [marksI]
  have hml := marksI_len k i
  refine go (r := ?_); and_intros <;> intros <;> try exact True.intro
  · first | exact mark_step (fun i : Nat => k + (i : Int)) l i (by omega) | (simp only [Nat.mul_one, Int.toNat_natCast]; exact mark_step (fun i : Nat => k + (i : Int)) l i (by omega))
  · have : i = l.length := by omega
    subst this; simp⟩
instance heldIntS_c : Con 38 (∀ (l : List Int) (k : Int), l.length ≤ 1099511627776 ∧ 0 ≤ k ∧ k ≤ 1099511627776 → Fn 38 [IL l, I k] [] (I (if l = marksI k l.length then k + l.length else -1))) := ⟨fun l k hk => by
  refine FnC.of_body tabOk Tryd.func38 Tryd.ntmps38 rfl (by decide +kernel) (by simp) fun G => ?_
  refine go (r := ?_); and_intros <;> intros <;> try exact True.intro
  refine WpA.loop (fun i : Nat => ⟨[(0, IL l), (1, I (k + i)), (5, I i)], []⟩) (fun i => i ≤ l.length ∧ l.take i = marksI k i) (fun i => l.length - i) 0 (by simp [marksI]) (go (r := ?_)) (fun i hi => ?_)
  · simp
  refine go (r := ?_); and_intros <;> intros <;> try exact True.intro
  · rw [if_neg]; exact held_not (fun i : Nat => k + (i : Int)) 0 l i (by omega) ‹_›
  · exact held_step (fun i : Nat => k + (i : Int)) 0 l i (by omega) hi.2 ‹_›
  · have : i = l.length := by omega
    subst this; rw [if_pos (by simpa using hi.2)]⟩
def marksB (k : Int) (n : Nat) : List Bool := (List.range n).map fun i : Nat => decide ((k + (i : Int)) % 3 = 0)
@[simp] theorem marksB_len (k : Int) (n : Nat) : (marksB k n).length = n := by simp [marksB]
end Go.Proofs.YtkckmenalehdpaaDoor


namespace Go.Proofs.YtkckmenalehdpaaDoor
open Go Go.Abs
attribute [local irreducible] WpA WpL Rnd Blk Abs.Seq Abs.Fin Abs.FinG FnC FnG Only
attribute [local simp] Abs.setL
def endB (k : Int) (l : List Blok) : Int := k + bw l
def markB : Int → List Blok → List Blok
  | _, [] => []
  | k, b :: l => (k, marksI (k + 1) b.2.length) :: markB (k + 1 + b.2.length) l
@[simp] theorem markB_len : ∀ (l : List Blok) (k : Int), (markB k l).length = l.length
  | [], k => rfl
  | b :: l, k => by rw [markB, List.length_cons, List.length_cons, markB_len l]
def markM : Int → List Mbk → List Mbk
  | _, [] => []
  | k, m :: l => (decide (k % 3 = 0), markB (k + 1) m.2) :: markM (k + 1 + bw m.2) l
@[simp] theorem markM_len : ∀ (l : List Mbk) (k : Int), (markM k l).length = l.length
  | [], k => rfl
  | b :: l, k => by rw [markM, List.length_cons, List.length_cons, markM_len l]
end Go.Proofs.YtkckmenalehdpaaDoor


namespace Go.Proofs.YtkckmenalehdpaaDoor
open Go Go.Abs
attribute [local irreducible] WpA WpL Rnd Blk Abs.Seq Abs.Fin Abs.FinG FnC FnG Only
instance markFrame_c : ConG 14 (∀ (W H : Int) (l : List Int) (k : Int), l.length ≤ 1048576 ∧ 0 ≤ k ∧ k ≤ 1073741824 →
    Gn 14 [.agg [I W, I H, .own 0 0 0 l.length], I k] [IN l] [IN (marksI k l.length)] [] (I (k + l.length))) := ⟨fun W H l k hk => by
  refine FnG.of_bodyF tabOk Tryd.func14 Tryd.ntmps14 rfl (by decide +kernel) (by simp) rfl rfl fun G => ?_
  refine go (r := ?_); and_intros <;> intros <;> try exact True.intro⟩
instance heldFrame_c : Con 15 (∀ (W H : Int) (l : List Int) (k : Int), (l.length ≤ 1048576 ∧ 0 ≤ k ∧ k ≤ 1073741824) ∧ l = marksI k l.length → Fn 15 [FrA W H l, I k] [] (I (k + l.length))) := ⟨fun W H l k hk => by
  obtain ⟨hk, hm⟩ := hk
  refine FnC.of_body tabOk Tryd.func15 Tryd.ntmps15 rfl (by decide +kernel) (by simp) fun G => ?_
  refine go (r := ?_); and_intros <;> intros <;> try exact True.intro
  all_goals first | (rw [if_pos hm] at *; first | omega | contradiction | rfl) | trace_state⟩
end Go.Proofs.YtkckmenalehdpaaDoor


namespace Go.Proofs.YtkckmenalehdpaaDoor
open Go Go.Abs
attribute [local irreducible] WpA WpL Rnd Blk Abs.Seq Abs.Fin Abs.FinG FnC FnG Only
attribute [local irreducible] RfOk rW rH rP
theorem rP_len {s : List UInt8} (hl : s.length ≤ 1048576) : (rP s).length ≤ 1048576 := by
  unfold rP
  split
  · unfold cP
    rw [nb_len]
    cases h : cD s with
    | none => simp
    | some d => have := cD_len h; simp only [Option.getD_some]; omega
  · simp
section
attribute [-instance] ReadFrame_c ReadFrame_s
theorem rfX_0 (s : List UInt8) (hl : s.length ≤ 1048576) : Fn 4 [Z s] [] (B true) := by
  have hs := ReadFrame_s.ok s hl
  have hi := ReadFrame_c.ok s hl
  have hrl := rP_len hl
  have hml : ∀ n, (marksI 1 n).length = n := fun n => by simp [marksI]
  unfold RfR at hs hi
  generalize rP s = R at *
  generalize rW s = W at *
  generalize rH s = H at *
  generalize decide (RfOk s) = ok at *
  refine FnC.of_body tabOk Tryd.func4 Tryd.ntmps4 rfl (by decide +kernel) (by simp) fun G => ?_
  refine goR (r := ?_); and_intros <;> intros <;> try exact True.intro
  all_goals first | contradiction | omega | skip
  refine K.call ?_
  refine WpL.callF hs snapA locA outA rfl rfl rfl (by decide) ?_
  refine goR (r := ?_); and_intros <;> intros <;> try exact True.intro
  all_goals first | contradiction | omega | (exfalso; rename_i hg; revert hg; simp; done) | skip
  refine K.call ?_
  refine WpL.callF hi snapA locA outA rfl rfl rfl (by decide) ?_
  refine goR (r := ?_); and_intros <;> intros <;> try exact True.intro
  all_goals first | contradiction | omega | (exfalso; rename_i hg; revert hg; simp; done) | skip
  refine K.call ?_
  refine WpL.callF hi snapA locA outA rfl rfl rfl (by decide) ?_
  refine goR (r := ?_); and_intros <;> intros <;> try exact True.intro
  all_goals first | contradiction | omega | (exfalso; rename_i hg; revert hg; simp; done) | trace_state
end
theorem rfX_big (s : List UInt8) (hl : s.length ≤ 9223372036854775807) (hb : ¬ s.length ≤ 1048576) : Fn 4 [Z s] [] (B true) := by
  refine FnC.of_body tabOk Tryd.func4 Tryd.ntmps4 rfl (by decide +kernel) (by simp) fun G => ?_
  refine goR (r := ?_); and_intros <;> intros <;> try exact True.intro
  all_goals first | contradiction | omega | trace_state
theorem FnExactReadFrame_c (s : List UInt8) (hl : s.length ≤ 9223372036854775807) : Fn 4 [Z s] [] (B true) := by
  by_cases hb : s.length ≤ 1048576
  · exact rfX_0 s hb
  · exact rfX_big s hl hb
end Go.Proofs.YtkckmenalehdpaaDoor


namespace Go.Abs
open Go Go.RowKit
theorem FnC.walk {P : Program} {f : FuncId} {args : List AV} {N : List AObj} {x : Value} (hc : FnC P f args N (.sc x)) {w : World} {S : Nat → Prop} {vs : List Value} (hS : ∀ b, S b → b < w.heap.size) (hg : GlbOk S w)
    (hl : LRel S w (fun _ => none) [] args vs []) : Calls P f vs.toArray w fun e w' => e = .returned x ∧ Below w.heap.size w w' := by
  refine (hc.2 w S vs hS hg hl).mono fun e w' h => ?_
  obtain ⟨v, S', ι, F, rfl, _, _, _, _, _, hv, hk⟩ := h
  cases hv with
  | sc r => exact ⟨rfl, hk.os, hk.tape, hk.output, hk.size, fun b hb => hk.block b hb (fun h => h)⟩
theorem spot_none {w : World} {x : Addr} {n : Nat} (h : 0 < n) (hc : ∀ i, i < n → ∃ v, w.cell? (x.add i) = some v) : x.spot = none := by
  obtain ⟨v, hv⟩ := hc 0 h
  simpa [Addr.add] using World.cell?_spot hv
end Go.Abs


namespace Go.Abs
open Go Go.RowKit
inductive Sp where
  | int (k : IntKind) | bool | str | struct (fs : List Sp) | slice (k : Nat) (e : Sp)
mutual
inductive SpOk (P : Program) : TypeId → Sp → Prop
  | int {t k} : P.underlying t = some (.int k) → SpOk P t (.int k)
  | bool {t} : P.underlying t = some .bool → SpOk P t .bool
  | str {t} : P.underlying t = some .string → SpOk P t .str
  | struct {t fs sps n} : P.underlying t = some (.struct fs) → P.cellsOf t = n → SpF P 0 fs.toList sps n → SpOk P t (.struct sps)
  | slice {t e k sp} : P.underlying t = some (.slice e) → P.cellsOf e = k → 0 < k → SpOk P e sp → SpOk P t (.slice k sp)
inductive SpF (P : Program) : Nat → List Field → List Sp → Nat → Prop
  | nil {k} : SpF P k [] [] k
  | cons {k c f fs sp sps n} : f.offset = k → P.cellsOf f.type = c → SpOk P f.type sp → SpF P (k + c) fs sps n → SpF P k (f :: fs) (sp :: sps) n
end
mutual
inductive Rd : Sp → List AV → Prop
  | int {k n} : (Lit.int k n).wf = true → Rd (.int k) [.sc (.int k n)]
  | bool {b} : Rd .bool [.sc (.bool b)]
  | str {p : List UInt8} : p.length ≤ maxLen → Rd .str [.sc (.string ⟨p.toArray⟩)]
  | struct {sps cs} : RdF sps cs → Rd (.struct sps) cs
  | slice {sp len k cs} : len ≤ maxLen → RdN sp len k cs → Rd (.slice k sp) [.imm k len cs]
inductive RdF : List Sp → List AV → Prop
  | nil : RdF [] []
  | cons {sp sps a b} : Rd sp a → RdF sps b → RdF (sp :: sps) (a ++ b)
inductive RdN : Sp → Nat → Nat → List AV → Prop
  | nil {sp k} : RdN sp 0 k []
  | snoc {sp n k a b} : RdN sp n k a → Rd sp b → b.length = k → RdN sp (n + 1) k (a ++ b)
end
theorem RdN.len {sp n k cs} (h : RdN sp n k cs) : cs.length = n * k := by
  induction n generalizing cs with
  | zero => cases h; simp
  | succ n ih => cases h with | snoc h1 h2 h3 => rw [List.length_append, ih h1, h3, Nat.add_mul]; omega
section
variable {H : Type} {enc : TypeId × Value → H} {P : Program} {w : World} {base : Nat} {spare : Nat → Bool} {held : Bool}
theorem read {S : Nat → Prop} {ι : Nat → Spot} (hS : ∀ b, b < w.heap.size → S b) : ∀ (fuel : Nat) (t : TypeId) (sp : Sp) (cs : List Value) (x : DataW H × List MemPlace), SpOk P t sp →
    DataW.trod enc P w base spare held fuel t cs = some x → ∃ ds, Rd sp ds ∧ ∀ O, LRel S w ι O ds cs [] := by
  intro fuel
  induction fuel with
  | zero => intro t sp cs x _ h; simp [DataW.trod] at h
  | succ fuel ih =>
    intro t sp cs x hsp h
    cases hsp with
    | int ht =>
      obtain ⟨n, rfl, _, hw⟩ := DataW.trod_int ht h
      exact ⟨_, .int hw, fun O => .sc .nil⟩
    | bool ht =>
      obtain ⟨b, rfl, _⟩ := DataW.trod_bool ht h
      exact ⟨_, .bool, fun O => .sc .nil⟩
    | str ht =>
      obtain ⟨s, rfl, _, hs⟩ := DataW.trod_string ht h
      exact ⟨[.sc (.string ⟨s.data.toList.toArray⟩)], .str (by have : s.data.toList.length = s.size := rfl; omega), fun O => .sc .nil⟩
    | @struct _ fs sps n ht hn hf =>
      obtain ⟨xs, m, hm, _, hlen, hxl, hel⟩ := DataW.trod_struct ht h
      obtain rfl : fuel = m := by omega
      have key : ∀ (fl : List Field) (k : Nat) (sps : List Sp), SpF P k fl sps n → (∀ f ∈ fl, ∃ x, DataW.trod enc P w base spare held fuel f.type ((cs.drop f.offset).take (P.cellsOf f.type)) = some x) →
          k ≤ n → ∃ ds, RdF sps ds ∧ ∀ O, LRel S w ι O ds (cs.drop k) [] := by
        intro fl
        induction fl with
        | nil =>
          intro k sps hF _ _
          cases hF
          exact ⟨[], .nil, fun O => by rw [List.drop_eq_nil_of_le (by omega)]; exact .nil⟩
        | cons f fl ihf =>
          intro k sps hF hx hk
          cases hF with
          | cons h1 h2 h3 h4 =>
            obtain ⟨y, hy⟩ := hx f (by simp)
            obtain ⟨d1, r1, l1⟩ := ih _ _ _ _ h3 hy
            have hkn : ∀ {k fl sps}, SpF P k fl sps n → k ≤ n := by
              intro k fl
              induction fl generalizing k with
              | nil => intro sps h; cases h; exact Nat.le_refl _
              | cons f fl ih2 => intro sps h; cases h with | cons _ _ _ h => have := ih2 h; omega
            obtain ⟨d2, r2, l2⟩ := ihf _ _ h4 (fun g hg => hx g (by simp [hg])) (hkn h4)
            refine ⟨d1 ++ d2, .cons r1 r2, fun O => ?_⟩
            have e : cs.drop k = (cs.drop f.offset).take (P.cellsOf f.type) ++ cs.drop (k + P.cellsOf f.type) := by
              rw [h1, ← List.drop_drop, List.take_append_drop]
            rw [e, h2]
            rw [h2] at l1
            simpa using (l1 O).append (l2 O)
      obtain ⟨ds, r, l⟩ := key fs.toList 0 sps hf (fun f hf' => by
        obtain ⟨i, hi⟩ := List.getElem?_of_mem hf'
        have hi' : fs[i]? = some f := by simpa using hi
        have := hel i f hi'
        have hlt : i < xs.length := by have := (Array.getElem?_eq_some_iff.1 hi').1; omega
        exact ⟨xs[i], by rw [this]; simp [hlt]⟩) (Nat.zero_le _)
      exact ⟨ds, .struct r, fun O => by simpa using l O⟩
    | @slice _ e k sp ht hk hk0 he =>
      rcases DataW.trod_slice ht h with ⟨rfl, _⟩ | ⟨a, len, cap, elems, rest, m, hm, rfl, _, hb, hl, hc, hlen, hel, _, _⟩
      · exact ⟨[.imm k 0 []], .slice (by simp) .nil, fun O => .imm0 (by simp) .nil⟩
      obtain rfl : fuel = m := by omega
      have cells : ∀ j, j ≤ len → ∃ ds us, RdN sp j k ds ∧ us.length = j * k ∧ (∀ i, i < us.length → w.cell? (a.add i) = us[i]?) ∧ LRel S w ι [] ds us [] := by
        intro j
        induction j with
        | zero => intro _; exact ⟨[], [], .nil, by simp, by simp, .nil⟩
        | succ j ihj =>
          intro hj
          obtain ⟨ds, us, h1, h2, h3, h4⟩ := ihj (by omega)
          have hx := hel j (by omega)
          have hlt : j < elems.length := by omega
          rw [List.getElem?_eq_getElem hlt, Option.bind_eq_some_iff, hk] at hx
          obtain ⟨us2, hu, ht2⟩ := hx
          obtain ⟨d2, r2, l2⟩ := ih _ _ _ _ he ht2
          obtain ⟨_, c2, c3⟩ := World.cells?_some hu
          have l2' := l2 []
          have hd2 : d2.length = k := by rw [l2'.len, c2]
          refine ⟨ds ++ d2, us ++ us2, .snoc h1 r2 hd2, by rw [List.length_append, h2, c2, Nat.add_mul]; omega, fun i hi => ?_, by simpa using h4.append l2'⟩
          rw [List.length_append] at hi
          by_cases hlt2 : i < us.length
          · rw [h3 i hlt2, List.getElem?_append_left hlt2]
          · have hadd : a.add i = (a.add (j * k)).add (i - j * k) := by
              unfold Addr.add
              by_cases hz : j * k = 0
              · simp [hz]
              · by_cases hz2 : i - j * k = 0
                · have : i = j * k := by omega
                  simp [this]
                · rw [if_neg (by omega), if_neg hz, if_neg hz2]
                  simp only [Addr.mk.injEq, true_and, and_true]
                  omega
            rw [hadd, c3 (i - j * k) (by omega), List.getElem?_append_right (by omega), h2]
      obtain ⟨ds, us, h1, h2, h3, h4⟩ := cells len (Nat.le_refl _)
      refine ⟨[.imm k len ds], .slice (by omega) h1, fun O => ?_⟩
      by_cases h0 : len = 0
      · subst h0
        cases h1
        exact .imm0 ⟨by simp, hc⟩ .nil
      · have hul : 0 < us.length := by rw [h2]; exact Nat.mul_pos (by omega) hk0
        have hsp := spot_none (w := w) (x := a) (n := us.length) hul fun i hi => ⟨us[i], by rw [h3 i hi]; simp [hi]⟩
        obtain ⟨b, o, q⟩ := a
        simp only at hsp
        subst hsp
        have hcell : ∀ i, i < us.length → w.cell? ⟨b, o + i, none⟩ = us[i]? := fun i hi => by have := h3 i hi; rwa [addr_add] at this
        refine .imm (us := us) (hS _ ?_) hcell h4 (by rw [h1.len]) hl hc .nil
        by_cases hb' : b < w.heap.size
        · exact hb'
        · have := hcell 0 hul
          simp [World.cell?, Array.getElem?_eq_none (Nat.le_of_not_lt hb'), hul] at this
end
end Go.Abs


namespace Go.Abs
open Go Go.RowKit
abbrev i64 (n : Int) : Prop := -9223372036854775808 ≤ n ∧ n ≤ 9223372036854775807
theorem rd_str {ds : List AV} (h : Rd .str ds) : ∃ p : List UInt8, ds = [Z p] ∧ p.length ≤ 9223372036854775807 := by
  cases h with | str hp => exact ⟨_, rfl, by simp only [maxLen] at hp; omega⟩
theorem lrel_cons0 {S : Nat → Prop} {w : World} {ι : Nat → Spot} {O : List AObj} {V : AV} {v : Value} {cs : List AV} {vs : List Value} (h1 : VRel S w ι O V v []) (h2 : LRel S w ι O cs vs []) : LRel S w ι O (V :: cs) (v :: vs) [] := LRel.cons h1 h2
end Go.Abs
