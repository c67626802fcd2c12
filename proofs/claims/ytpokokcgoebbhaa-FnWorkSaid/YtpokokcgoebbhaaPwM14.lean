/- Proved in this text: lemmas and contracts of functions that the claim uses (parts: Dm, AbsPc, Da, DrR, Dst, Da3, Da2, BitsM, BitsH, Ln). No condition. -/
import Derived.Test.YtpokokcgoebbhaaPwM13
import Derived.Test.YtpokokcgoebbhaaPwM9
import Derived.Test.YtpokokcgoebbhaaPwM5
import Derived.Test.YtpokokcgoebbhaaPwM11
import Derived.Test.YtpokokcgoebbhaaPwM12
import Derived.Test.YtpokokcgoebbhaaPwM10

/- What is drawn: macroblocks. No condition. -/
namespace Go.Proofs.Ytpokokcgoebbhaa
open Go Go.Abs
set_option linter.unusedVariables false
set_option linter.unusedSimpArgs false
set_option maxRecDepth 100000
set_option maxHeartbeats 4000000
attribute [local irreducible] WpA WpL Rnd Blk Abs.Seq Abs.Fin Abs.FinG FnC FnG FnX FnP FinX Only
attribute [local irreducible] belowD onceD pickD modeD l8D l8AnyD optD anyD seedD headD headAnyD symL HasC blkD

theorem split345 {Ov : List AObj} {x y z : AObj} (h3 : Ov[3]? = some x) (h4 : Ov[4]? = some y) (h5 : Ov[5]? = some z) : ∃ a b c R, Ov = a :: b :: c :: x :: y :: z :: R := by
  match Ov, h3, h4, h5 with
  | a :: b :: c :: x' :: y' :: z' :: R, h3, h4, h5 => simp at h3 h4 h5; exact ⟨a, b, c, R, by rw [h3, h4, h5]⟩
  | [], h3, h4, h5 => simp at h5
  | [_], h3, h4, h5 => simp at h5
  | [_, _], h3, h4, h5 => simp at h5
  | [_, _, _], h3, h4, h5 => simp at h5
  | [_, _, _, _], h3, h4, h5 => simp at h5
  | [_, _, _, _, _], h3, h4, h5 => simp at h5
theorem sz_nm (e : Bool) : 64 / (sz8 e * sz8 e) = nm8 e ∧ 1 ≤ sz8 e * sz8 e ∧ sz8 e * sz8 e ≤ 64 ∧ 0 ≤ nm8 e ∧ nm8 e ≤ 4 := by cases e <;> decide
instance l23Mb_p : ConP 113 (∀ (v : Value) (l : List Int) (c : Cr) (lens : List Int), CrOk l c ∧ lens.length ≤ 1099511627776 → Pn 113 v l c [IL lens] (mbD l lens c).1 [BkO (mbD l lens c).2.2] (.agg [B (mbD l lens c).2.1, .own 1 0 0 (mbD l lens c).2.2.length])) := ⟨fun v l c lens hh => by
  have h := hh.1
  have hlens := hh.2
  have ho := onceD_ok 3 h
  have ho1 := ho.2.1
  have ho2 := ho.2.2
  have hsz := sz8_48 (onceD l c 3).2
  have hnm := sz_nm (onceD l c 3).2
  have hn1 := hnm.1
  have hn2 := hnm.2.1
  have hn3 := hnm.2.2.1
  have hn4 := hnm.2.2.2.1
  have hn5 := hnm.2.2.2.2
  have hmul := mul_in (a := sz8 (onceD l c 3).2) (b := sz8 (onceD l c 3).2) (by omega) (by omega)
  unfold mbD
  generalize hS : mbsK l lens _ _ _ = S
  generalize he : (onceD l c 3).2 = e at hS hsz hn1 hn2 hn3 hn4 hn5 hmul
  generalize hcc : (onceD l c 3).1 = c0 at hS ho ho1 ho2
  refine FnP.of_body tabOk Try.func113 Try.ntmps113 rfl (by decide +kernel) (by simp) rfl rfl rfl fun G hp => ?_
  refine goR (r := ?_); and_intros <;> intros <;> try exact True.intro
  all_goals first | contradiction | omega | exact h.2.1 | exact h.2.2 | skip
  rw [he, hcc]
  refine WpA.loop (fun x : Nat × Cr × List Blok => ⟨[(0, .ptr 0 0 0), (1, IL lens), (4, .ptr 1 0 0), (5, .ptr 2 0 0), (6, I (sz8 e)), (7, I (nm8 e - x.1))], [CurO v x.2.1, ⟨[B false, .nilS], 0, 0, none⟩, ⟨[B e, .own 3 0 0 x.2.2.length], 0, 0, none⟩, BkO x.2.2]⟩) (fun x => CrOk l x.2.1 ∧ (x.1 : Int) ≤ nm8 e ∧ x.1 + x.2.2.length ≤ 4 ∧ mbsK l lens (sz8 e) x.1 x.2 = S) (fun x => x.1) ((nm8 e).toNat, c0, []) ⟨ho, by simp only; omega, by simp only [List.length_nil]; omega, hS⟩ ?_ ?_
  · have ez : nm8 e - ((nm8 e).toNat : Nat) = 0 := by omega
    simp only [ez]
    exact Weak.nil1 (by first | (show 0 ≤ _; exact Nat.zero_le _) | (repeat' (first | exact RzT.nil | refine RzT.cons ?_ ?_ | exact Rz.nil | refine Rz.keep rfl rfl ?_ | refine Rz.own rfl rfl rfl rfl rfl (by first | rfl | omega | (simp; done)) ?_ | refine Rz.ptr rfl rfl rfl rfl ?_ | refine Rz.nilO rfl rfl rfl (by first | rfl | omega | (simp; done)) ?_ | refine Rz.agg ?_ ?_ | exact RzO.last rfl | (refine RzO.cons ?_ (.inr rfl) ?_) | exact Rz.same rfl (still_ints _) | exact Rz.same rfl (still_rows (fun _ => rfl) _)))) (by first | (show 0 ≤ _; exact Nat.zero_le _) | (repeat' (first | exact RzT.nil | refine RzT.cons ?_ ?_ | exact Rz.nil | refine Rz.keep rfl rfl ?_ | refine Rz.own rfl rfl rfl rfl rfl (by first | rfl | omega | (simp; done)) ?_ | refine Rz.ptr rfl rfl rfl rfl ?_ | refine Rz.nilO rfl rfl rfl (by first | rfl | omega | (simp; done)) ?_ | refine Rz.agg ?_ ?_ | exact RzO.last rfl | (refine RzO.cons ?_ (.inr rfl) ?_) | exact Rz.same rfl (still_ints _) | exact Rz.same rfl (still_rows (fun _ => rfl) _)))) (Nat.le_of_ble_eq_true rfl)
  rintro ⟨k, c1, bs⟩ ⟨hc1, hk, hkl, hK⟩
  try simp only at hc1 hk hkl hK ⊢
  by_cases hk0 : k = 0
  · subst hk0
    have hSe : (c1, bs) = S := hK
    subst hSe
    refine go (r := ?_); and_intros <;> intros <;> try exact True.intro
    all_goals trace_state
  · have hE : mbsK l lens (sz8 e) (k - 1) ((blkD l lens (sz8 e) c1).1, bs ++ [(blkD l lens (sz8 e) c1).2]) = S := by
      obtain ⟨j, rfl⟩ : ∃ j, k = j + 1 := ⟨k - 1, by omega⟩
      exact hK
    have hb := blkD_ok (lens := lens) hsz hc1
    refine goR (r := ?_); and_intros <;> intros <;> try exact True.intro
    all_goals first | contradiction | omega | skip
    apply WpA.regionSF (O := []) (Or := [CurO v c1, ⟨[B false, .nilS], 0, 0, none⟩, ⟨[B e, .own 3 0 0 bs.length], 0, 0, none⟩, BkO bs]) (O1 := [CurO v (blkD l lens (sz8 e) c1).1, ⟨[B false, .nilS], 0, 0, none⟩, ⟨[B e, .own 3 0 0 bs.length], 0, 0, none⟩, ⟨rows blkF (bs ++ [(blkD l lens (sz8 e) c1).2]), 1, 2, some 56⟩, ⟨[], 2, 0, none⟩, ⟨[I (blkD l lens (sz8 e) c1).2.1, .own 4 1 0 (blkD l lens (sz8 e) c1).2.2.length], 1, 2, some 56⟩, deadO, deadO]) 8 2 [2] [4] rfl mixed (by decide +kernel)
    · exact rfl
    · apply HeadS.consF .none rfl
      · exact rfl
      · exact rfl
      · intro Tv Ov hc hp' hd hk
        obtain ⟨A0, A1, R0, rfl⟩ := Abs.split3 (hk 2 rfl)
        exact in1
      · exact rfl
      · exact rfl
      apply HeadS.consF .none rfl
      · exact rfl
      · exact rfl
      · intro Tv Ov hc hp' hd hk
        obtain ⟨A0, A1, R0, rfl⟩ := Abs.split3 (hk 2 rfl)
        exact in1
      · exact rfl
      · exact rfl
      apply HeadS.consF .none rfl
      · exact rfl
      · exact rfl
      · exact in1
      · exact rfl
      · exact rfl
      apply HeadS.consF .none rfl
      · exact rfl
      · exact rfl
      · exact in1
      · exact rfl
      · exact rfl
      apply HeadS.consF .none rfl
      · exact rfl
      · exact rfl
      · exact in1
      · exact rfl
      · exact rfl
      apply HeadS.consF (V := .agg [I (blkD l lens (sz8 e) c1).2.1, .own 4 1 0 (blkD l lens (sz8 e) c1).2.2.length]) (.both 0 (CurO v (blkD l lens (sz8 e) c1).1) 4 ⟨ints (blkD l lens (sz8 e) c1).2.2, 1, 1, some 3⟩) rfl
      · exact rfl
      · exact rfl
      · intro Tv Ov hc hp' hd hk
        obtain ⟨R, rfl⟩ := split1 (hp' 0 _ rfl)
        have h3 := hp' 4 _ rfl
        refine K.call ?_
        refine K.conP (fun hcon => ?_)
        refine WpL.callP1N (A := []) (hcon v l c1 lens (sz8 e) ⟨hc1, hsz, hlens⟩) hp rfl handA handOA rfl (.cons rfl (.sc (.sc (.sc .nil))) .nil) outA rfl (by decide) ?_
        apply WpL.putV (O := []) (p := 4) (Ov := CurO v (blkD l lens (sz8 e) c1).1 :: R)
        · exact .agg (.keep rfl rfl (.own (by first | rfl | simp) .nil)) .nil
        · exact h3
        · exact Nat.le_of_ble_eq_true rfl
        · exact rfl
        · exact still_ints _
      · exact rfl
      · exact rfl
      apply HeadS.consF (V := .own 5 1 0 1) (.put 5 (⟨[I (blkD l lens (sz8 e) c1).2.1, .own 4 1 0 (blkD l lens (sz8 e) c1).2.2.length], 1, 2, some 56⟩)) rfl
      · exact rfl
      · exact rfl
      · intro Tv Ov hc hp' hd hk
        refine WpL.litF (cs := [I (blkD l lens (sz8 e) c1).2.1, .own 4 1 0 (blkD l lens (sz8 e) c1).2.2.length]) tabOk rfl rfl rfl rfl (by decide) (by rw [nid_len, Nat.zero_add]) (by decide) ?_
        apply WpL.putA (p := 5)
        · exact .own rfl .nil
        · exact hp' 5 _ rfl
        · exact Nat.le_of_ble_eq_true rfl
        · exact rfl
      · exact rfl
      · exact rfl
      apply HeadS.consF (V := .own 3 1 0 (bs.length + 1)) (⟨[(4, ⟨[], 2, 0, none⟩), (3, ⟨rows blkF (bs ++ [(blkD l lens (sz8 e) c1).2]), 1, 2, some 56⟩)], false⟩) rfl
      · exact rfl
      · exact rfl
      · intro Tv Ov hc hp' hd hk
        obtain ⟨a0, a1, a2, R, rfl⟩ := split345 (hp' 3 _ rfl) (hp' 4 _ rfl) (hd 6 _ 5 _ (by decide) rfl rfl rfl)
        refine K.bi ?_
        refine WpL.appBlk (j := 4) (c := (blkD l lens (sz8 e) c1).2.1) (lv := (blkD l lens (sz8 e) c1).2.2) tabOk rfl rfl rfl (Nat.le_of_ble_eq_true rfl) rfl rfl rfl rfl rfl (Nat.le_of_ble_eq_true rfl) rfl rfl (by omega) (by decide) ?_
        exact WpL.nil (Only.mk rfl)
      · exact rfl
      · exact rfl
      exact HeadS.nil
    · exact rfl
    · exact rfl
    · exact rfl
    · exact rfl
    · exact rfl
    · exact rfl
    · exact rfl
    refine go (r := ?_); and_intros <;> intros <;> try exact True.intro
    all_goals first | contradiction | omega | skip
    have e1 : nm8 e - ((k - 1 : Nat) : Int) = nm8 e - k + 1 := by omega
    refine Rnd.go (k - 1, (blkD l lens (sz8 e) c1).1, bs ++ [(blkD l lens (sz8 e) c1).2]) ⟨hb.1, by simp only; omega, by simp only [List.length_append, List.length_singleton]; omega, hE⟩ ?_ ?_
    · show k - 1 < k; omega
    · simp only [e1, List.length_append, List.length_singleton]
      exact Weak.mk (by repeat (first | exact ReT.nil | refine ReT.cons (.keep rfl rfl .nil) ?_ | refine ReT.cons (.own rfl rfl rfl rfl rfl rfl .nil) ?_ | refine ReT.cons (.ptr rfl rfl rfl rfl .nil) ?_ | refine ReT.cons (.keep (congrArg (fun z => AV.sc (Value.int .i64 z)) (by first | omega | (skip))) rfl .nil) ?_ | refine ReT.cons (.keep (congrArg (fun z : List UInt8 => AV.sc (Value.string ⟨z.toArray⟩)) (by skip)) rfl .nil) ?_ | refine ReT.cons (.own rfl rfl rfl rfl rfl (by first | omega | (simp; done) | (simp; omega)) .nil) ?_)) (by repeat (first
          | exact ReO.nil
          | refine ReO.cons (Re.same rfl rfl) (.inr rfl) ?_
          | refine ReO.cons (Re.same rfl (still_rows (fun _ => rfl) _)) (.inr rfl) ?_
          | refine ReO.cons (.keep rfl rfl (.own rfl rfl rfl rfl rfl rfl .nil)) (.inr rfl) ?_)) (Nat.le_of_ble_eq_true rfl)⟩
end Go.Proofs.Ytpokokcgoebbhaa

/- Less known of an object: the beginning of its cells; a slice within a row taken out and put back. No condition. -/
namespace Go.Abs
open Go
set_option linter.unusedVariables false
set_option linter.unusedSimpArgs false

theorem RelAt.preC {n m G S ι F T O a w} (hr : RelAt n m G S ι F ⟨T, O⟩ a w) {id : Nat} (j : Nat) {ob : AObj} (ho : O[id]? = some ob) : ∃ F', RelAt n m G S ι F' ⟨T, O.set id ⟨ob.cells.take j, ob.ep, ob.size, ob.ty⟩⟩ a w := by
  have hid : id < O.length := (List.getElem?_eq_some_iff.1 ho).1
  have hlat : Later S w ι O S w ι (O.set id ⟨ob.cells.take j, ob.ep, ob.size, ob.ty⟩) := ⟨fun _ h => h, fun _ _ => rfl, fun i oi hi => by
    by_cases e : i = id
    · subst e; rw [ho] at hi; cases hi
      exact ⟨⟨ob.cells.take j, ob.ep, ob.size, ob.ty⟩, by rw [List.getElem?_set_self hid], .inr ⟨rfl, rfl, rfl⟩⟩
    · exact ⟨oi, by rw [List.getElem?_set, if_neg (fun h => e h.symm)]; exact hi, .inr ⟨rfl, rfl, rfl⟩⟩⟩
  obtain ⟨g, hg, hsub, hnd⟩ : ∃ g, ObjAt S w ι (O.set id ⟨ob.cells.take j, ob.ep, ob.size, ob.ty⟩) ⟨ob.cells.take j, ob.ep, ob.size, ob.ty⟩ (ι id) g ∧ (∀ b ∈ g, b ∈ F id) ∧ g.Nodup := by
    have h := hr.objs.obj id _ ho
    have hn := hr.objs.nodup id hid
    unfold ObjAt at h ⊢
    cases hs : ι id with
    | none => rw [hs] at h; exact ⟨[], ⟨by simp [h.1], rfl⟩, by simp, by simp⟩
    | some p =>
      obtain ⟨b, k⟩ := p
      rw [hs] at h
      obtain ⟨cur, t, fz, f', h1, h2, h3, h4, h5, h6, h7⟩ := h
      obtain ⟨g, g1, g2, g3⟩ := h7.take j
      rw [h1] at hn ⊢
      obtain ⟨n1, n2⟩ := List.nodup_cons.1 hn
      have hle : (ob.cells.take j).length ≤ ob.cells.length := List.length_take_le' _ _
      refine ⟨b :: g, ⟨cur, t, fz, g, rfl, h2, h3, by show (ob.cells.take j).length ≤ k; omega, h5, h6, ?_⟩, fun c hc => ?_, List.nodup_cons.2 ⟨fun hc => n1 (g2 _ hc), g3 n2⟩⟩
      · have e2 : cur.toList.take (ob.cells.take j).length = (cur.toList.take ob.cells.length).take j := by
          rw [List.take_take, List.length_take]
        show LRel S w ι _ (ob.cells.take j) (cur.toList.take (ob.cells.take j).length) g
        rw [e2]; exact g1.mono hlat (fun _ _ => rfl)
      · rcases List.mem_cons.1 hc with hc | hc
        · exact hc ▸ List.mem_cons_self
        · exact List.mem_cons_of_mem _ (g2 _ hc)
  have hF : ∀ i b, b ∈ upd F id g i → b ∈ F i := fun i b hb => by
    by_cases e : i = id
    · subst e; rw [upd_same] at hb; exact hsub b hb
    · rw [upd_other _ _ e] at hb; exact hb
  refine ⟨upd F id g, hr.defers, hr.size, fun t => (hr.tmps t).mono hlat (by simp), ⟨fun i oi hi => ?_, fun i hi => ?_, fun i j' hi hj hij b hb hb' => hr.objs.apart i j' (by simpa using hi) (by simpa using hj) hij b (hF i b hb) (hF j' b hb')⟩, fun i hi b hb => hr.foot i (by simpa using hi) b (hF i b hb), hr.base, hr.stable, hr.keeps, hr.spots, by have := hr.mle; simpa using this⟩
  · have hi : (O.set id ⟨ob.cells.take j, ob.ep, ob.size, ob.ty⟩)[i]? = some oi := hi
    by_cases e : i = id
    · subst e
      rw [List.getElem?_set_self hid] at hi; cases hi
      rw [upd_same]; exact hg
    · rw [upd_other _ _ e]
      rw [List.getElem?_set, if_neg (fun h => e h.symm)] at hi
      have h := hr.objs.obj i oi hi
      unfold ObjAt at h ⊢
      cases hs : ι i with
      | none => rw [hs] at h; exact h
      | some p =>
        obtain ⟨b, k⟩ := p
        rw [hs] at h
        obtain ⟨cur, t, fz, f', h1, h2, h3, h4, h5, h6, h7⟩ := h
        exact ⟨cur, t, fz, f', h1, h2, h3, h4, h5, h6, h7.mono hlat (fun _ _ => rfl)⟩
  · by_cases e : i = id
    · subst e; rw [upd_same]; exact hnd
    · rw [upd_other _ _ e]; exact hr.objs.nodup i (by simpa using hi)
theorem Weak.preC {m id : Nat} {T : List (Nat × AV)} {O : List AObj} {ob : AObj} (j : Nat) (ho : O[id]? = some ob) : Weak m ⟨T, O⟩ ⟨T, O.set id ⟨ob.cells.take j, ob.ep, ob.size, ob.ty⟩⟩ := by
  rintro n G a w ⟨S, ι, F, hr⟩
  obtain ⟨F', h⟩ := hr.preC j ho
  exact ⟨S, ι, F', h⟩
theorem rows_take {α : Type} {f : α → List AV} {k : Nat} (hk : ∀ a, (f a).length = k) : ∀ (xs : List α) (j : Nat), (rows f xs).take (j * k) = rows f (xs.take j)
  | [], j => by simp [rows]
  | x :: xs, 0 => by simp [rows]
  | x :: xs, j + 1 => by
    have ih := rows_take hk xs j
    have e : (j + 1) * k = (f x).length + j * k := by rw [hk, Nat.add_mul, Nat.one_mul, Nat.add_comm]
    rw [e]
    simp only [rows, List.flatMap_cons, List.take_succ_cons] at ih ⊢
    rw [List.take_append, Nat.add_sub_cancel_left, List.take_of_length_le (by omega), ih]
theorem Weak.preRows {m id k ep sz : Nat} {te : Option TypeId} {T : List (Nat × AV)} {O : List AObj} {α : Type} {f : α → List AV} {xs : List α} (j : Nat) (hk : ∀ a, (f a).length = k) (ho : O[id]? = some ⟨rows f xs, ep, sz, te⟩) : Weak m ⟨T, O⟩ ⟨T, O.set id ⟨rows f (xs.take j), ep, sz, te⟩⟩ := by
  have := Weak.preC (m := m) (T := T) (j * k) ho
  rw [rows_take hk] at this
  exact this
/-- A slice within a row becomes an object. -/
theorem Weak.unnestRow {id i k o len s ep sz j m : Nat} {T : List (Nat × AV)} {O : List AObj} {te : Option TypeId} {α : Type} [Inhabited α] {f : α → List AV} {xs : List α} {cs : List AV} {σ' : St} (ho : O[id]? = some ⟨rows f xs, ep, sz, te⟩) (hk : ∀ a, (f a).length = k) (hi : i < xs.length) (hv : (f (xs.getD i default))[o]? = some (.fre s len cs)) (hj : O.length = j)
    (h : Weak m ⟨T, O.set id ⟨(rows f xs).set (i * k + o) (.own j 0 0 len), ep, sz, te⟩ ++ [⟨cs, 0, s, none⟩]⟩ σ') : Weak m ⟨T, O⟩ σ' := by
  subst hj
  refine Weak.trans ?_ h
  rintro n' G' a w ⟨S, ι, F, hr⟩
  obtain ⟨ι', F', hr'⟩ := hr.unnest ho (rows_get hk hi hv)
  exact ⟨S, ι', F', hr'⟩
end Go.Abs

/- What is drawn: any macroblock. No condition. -/
namespace Go.Proofs.Ytpokokcgoebbhaa
open Go Go.Abs
set_option linter.unusedVariables false
set_option linter.unusedSimpArgs false
set_option maxRecDepth 100000
set_option maxHeartbeats 4000000
attribute [local irreducible] WpA WpL Rnd Blk Abs.Seq Abs.Fin Abs.FinG FnC FnG FnX FnP FinX Only
attribute [local irreducible] belowD onceD pickD modeD l8D l8AnyD optD anyD seedD headD headAnyD symL HasC blkD mbD

abbrev anyM : List Int := [-1, 6, 2]
abbrev anyL : List Int := [16383, 16384, -16384]
def mbAnyD (l lens : List Int) (c : Cr) : Cr × Mbk :=
  if (belowD l (belowD l (mbD l lens c).1 (mbD l lens c).2.2.length).1 14).2 = 0 then ((pickD l (belowD l (belowD l (mbD l lens c).1 (mbD l lens c).2.2.length).1 14).1 anyM).1, ((mbD l lens c).2.1, (mbD l lens c).2.2.set (belowD l (mbD l lens c).1 (mbD l lens c).2.2.length).2.toNat ((pickD l (belowD l (belowD l (mbD l lens c).1 (mbD l lens c).2.2.length).1 14).1 anyM).2, ((mbD l lens c).2.2.getD (belowD l (mbD l lens c).1 (mbD l lens c).2.2.length).2.toNat default).2)))
  else if (belowD l (belowD l (mbD l lens c).1 (mbD l lens c).2.2.length).1 14).2 = 1 then ((pickD l (belowD l (belowD l (mbD l lens c).1 (mbD l lens c).2.2.length).1 14).1 anyL).1, ((mbD l lens c).2.1, (mbD l lens c).2.2.set (belowD l (mbD l lens c).1 (mbD l lens c).2.2.length).2.toNat (((mbD l lens c).2.2.getD (belowD l (mbD l lens c).1 (mbD l lens c).2.2.length).2.toNat default).1, ((mbD l lens c).2.2.getD (belowD l (mbD l lens c).1 (mbD l lens c).2.2.length).2.toNat default).2.set 0 (pickD l (belowD l (belowD l (mbD l lens c).1 (mbD l lens c).2.2.length).1 14).1 anyL).2)))
  else if (belowD l (belowD l (mbD l lens c).1 (mbD l lens c).2.2.length).1 14).2 = 2 then ((belowD l (belowD l (mbD l lens c).1 (mbD l lens c).2.2.length).1 14).1, (!(mbD l lens c).2.1, (mbD l lens c).2.2))
  else if (belowD l (belowD l (mbD l lens c).1 (mbD l lens c).2.2.length).1 14).2 = 3 then ((belowD l (belowD l (mbD l lens c).1 (mbD l lens c).2.2.length).1 14).1, ((mbD l lens c).2.1, (mbD l lens c).2.2.take (belowD l (mbD l lens c).1 (mbD l lens c).2.2.length).2.toNat))
  else ((belowD l (belowD l (mbD l lens c).1 (mbD l lens c).2.2.length).1 14).1, ((mbD l lens c).2.1, (mbD l lens c).2.2))
theorem sp5 {Ov : List AObj} {e : AObj} (h : Ov[4]? = some e) : ∃ a b c d R, Ov = a :: b :: c :: d :: e :: R := by
  match Ov, h with
  | a :: b :: c :: d :: f :: R, h => exact ⟨a, b, c, d, R, by simp at h; rw [h]⟩
instance l23AnyMb_p : ConP 75 (∀ (v : Value) (l : List Int) (c : Cr) (lens : List Int), CrOk l c ∧ lens.length ≤ 1099511627776 → Pn 75 v l c [IL lens] (mbAnyD l lens c).1 [BkO (mbAnyD l lens c).2.2] (.agg [B (mbAnyD l lens c).2.1, .own 1 0 0 (mbAnyD l lens c).2.2.length])) := ⟨fun v l c lens hh => by
  have h := hh.1
  have hlens := hh.2
  have hm := mbD_ok (lens := lens) h
  obtain ⟨hm1, hm2, hm3⟩ := hm
  have hnm : nm8 (mbD l lens c).2.1 = 1 ∨ nm8 (mbD l lens c).2.1 = 4 := by cases (mbD l lens c).2.1 <;> simp [nm8]
  have hb := belowD_ok ((mbD l lens c).2.2.length : Int) hm1
  have hb0 := hb.2.1
  have hb1 := hb.2.2.1 (by omega)
  have hbc := hb.1
  have hs := belowD_ok 14 hbc
  have hs0 := hs.2.1
  have hs1 := hs.2.2.1 (by decide)
  have hsc := hs.1
  have hlv : 0 < ((mbD l lens c).2.2.getD (belowD l (mbD l lens c).1 (mbD l lens c).2.2.length).2.toNat default).2.length := by
    have hq := hm3 ((mbD l lens c).2.2.getD (belowD l (mbD l lens c).1 (mbD l lens c).2.2.length).2.toNat default) (by rw [List.getD_eq_getElem?_getD, List.getElem?_eq_getElem (show (belowD l (mbD l lens c).1 (mbD l lens c).2.2.length).2.toNat < (mbD l lens c).2.2.length by omega)]; exact List.getElem_mem _)
    have h48 := sz8_48 (mbD l lens c).2.1
    rcases h48 with h4 | h4 <;> rw [h4] at hq <;> omega
  unfold mbAnyD
  by_cases h0 : (belowD l (belowD l (mbD l lens c).1 (mbD l lens c).2.2.length).1 14).2 = 0
  · rw [if_pos h0]
    refine FnP.of_body tabOk Try.func75 Try.ntmps75 rfl (by decide +kernel) (by simp) rfl rfl rfl fun G hp => ?_
    refine goR (r := ?_); and_intros <;> intros <;> try exact True.intro
    all_goals first | contradiction | exact hm1.2.1 | exact hm1.2.2 | exact hbc.2.1 | exact hbc.2.2 | omega | skip
    apply WpA.regionSF (O := []) (Or := [CurO v (belowD l (belowD l (mbD l lens c).1 (mbD l lens c).2.2.length).1 14).1, ⟨[B false, .nilS], 0, 0, none⟩, ⟨rows blkF (mbD l lens c).2.2, 0, 2, some 56⟩, ⟨[B (mbD l lens c).2.1, .own 2 0 0 (mbD l lens c).2.2.length], 0, 0, none⟩]) (O1 := [CurO v (pickD l (belowD l (belowD l (mbD l lens c).1 (mbD l lens c).2.2.length).1 14).1 anyM).1, ⟨[B false, .nilS], 0, 0, none⟩, ⟨rows blkF (mbD l lens c).2.2, 0, 2, some 56⟩, ⟨[B (mbD l lens c).2.1, .own 2 0 0 (mbD l lens c).2.2.length], 0, 0, none⟩, ⟨ints anyM, 1, 1, some 3⟩, deadO]) 8 1 [2, 3] [] rfl mixed (by decide +kernel)
    · exact rfl
    · apply HeadS.consF .none rfl
      · exact rfl
      · exact rfl
      · intro Tv Ov hc hp' hd hk
        obtain ⟨x0, x1, x2, R, rfl⟩ := Abs.split4 (hk 3 rfl)
        exact in1
      · exact rfl
      · exact rfl
      apply HeadS.consF .none rfl
      · exact rfl
      · exact rfl
      · intro Tv Ov hc hp' hd hk
        obtain ⟨x0, x1, x2, R, rfl⟩ := Abs.split4 (hk 3 rfl)
        exact in1
      · exact rfl
      · exact rfl
      apply HeadS.consF .none rfl
      · exact rfl
      · exact rfl
      · exact in1
      · exact rfl
      · exact rfl
      apply HeadS.consF .none rfl
      · exact rfl
      · exact rfl
      · exact in1
      · exact rfl
      · exact rfl
      apply HeadS.consF (V := .own 4 1 0 3) (.put 4 (⟨ints anyM, 1, 1, some 3⟩)) rfl
      · exact rfl
      · exact rfl
      · intro Tv Ov hc hp' hd hk
        refine WpL.litInts tabOk rfl rfl rfl rfl rfl (by decide) (by rw [nid_len, Nat.zero_add]) (by decide) ?_
        apply WpL.putNil (p := 4)
        · exact hp' 4 _ rfl
        · exact Nat.le_of_ble_eq_true rfl
        · exact rfl
        · first | exact still_ints _ | exact still_rows (fun _ => rfl) _ | rfl
      · exact rfl
      · exact rfl
      apply HeadS.consF (V := I (pickD l (belowD l (belowD l (mbD l lens c).1 (mbD l lens c).2.2.length).1 14).1 anyM).2) (.step 0 (CurO v (pickD l (belowD l (belowD l (mbD l lens c).1 (mbD l lens c).2.2.length).1 14).1 anyM).1)) rfl
      · exact rfl
      · exact rfl
      · intro Tv Ov hc hp' hd hk
        obtain ⟨a1, a2, a3, R, rfl⟩ := split04 (hp' 0 _ rfl) (hd 4 _ 4 _ (by decide) rfl rfl rfl)
        refine K.call ?_
        refine K.conP (fun hcon => ?_)
        refine WpL.callP1 (hcon v l (belowD l (belowD l (mbD l lens c).1 (mbD l lens c).2.2.length).1 14).1 anyM ⟨hsc, by decide, by decide⟩) hp handA handOA rfl (.cons rfl (.sc (.sc (.sc .nil))) .nil) (by decide) ?_
        exact WpL.nil (Only.mk rfl)
      · exact rfl
      · exact rfl
      apply HeadS.consF .none rfl
      · exact rfl
      · exact rfl
      · intro Tv Ov hc hp' hd hk
        obtain ⟨A0, A1, R0, rfl⟩ := Abs.split3 (hk 2 rfl)
        exact in1
      · exact rfl
      · exact rfl
      apply HeadS.consF .none rfl
      · exact rfl
      · exact rfl
      · intro Tv Ov hc hp' hd hk
        obtain ⟨A0, A1, R0, rfl⟩ := Abs.split3 (hk 2 rfl)
        exact in1
      · exact rfl
      · exact rfl
      exact HeadS.nil
    · exact rfl
    · exact rfl
    · exact rfl
    · exact rfl
    · exact rfl
    · exact rfl
    · exact rfl
    refine go (r := ?_); and_intros <;> intros <;> try exact True.intro
    all_goals first | contradiction | exact hsc.2.1 | exact hsc.2.2 | omega | skip
    exact .obj rfl (rows_set (k := 2) (o := 0) (fun _ => rfl) (by omega) (by decide) rfl) (still_rows (fun _ => rfl) _) rfl rfl (.inr rfl) .nil
  by_cases h1 : (belowD l (belowD l (mbD l lens c).1 (mbD l lens c).2.2.length).1 14).2 = 1
  · rw [if_neg h0, if_pos h1]
    refine FnP.of_body tabOk Try.func75 Try.ntmps75 rfl (by decide +kernel) (by simp) rfl rfl rfl fun G hp => ?_
    refine goR (r := ?_); and_intros <;> intros <;> try exact True.intro
    all_goals first | contradiction | exact hm1.2.1 | exact hm1.2.2 | exact hbc.2.1 | exact hbc.2.2 | omega | skip
    refine WpA.weak (Weak.unnestRow (f := blkF) (id := 2) (i := (belowD l (mbD l lens c).1 (mbD l lens c).2.2.length).2.toNat) (k := 2) (o := 1) (j := 4) (len := ((mbD l lens c).2.2.getD (belowD l (mbD l lens c).1 (mbD l lens c).2.2.length).2.toNat default).2.length) (s := 1) (cs := ints ((mbD l lens c).2.2.getD (belowD l (mbD l lens c).1 (mbD l lens c).2.2.length).2.toNat default).2) rfl (fun _ => rfl) (by omega) rfl rfl (fun _ _ _ _ h => h)) ?_
    apply WpA.regionSF (O := []) (Or := [CurO v (belowD l (belowD l (mbD l lens c).1 (mbD l lens c).2.2.length).1 14).1, ⟨[B false, .nilS], 0, 0, none⟩, ⟨(rows blkF (mbD l lens c).2.2).set ((belowD l (mbD l lens c).1 (mbD l lens c).2.2.length).2.toNat * 2 + 1) (.own 4 0 0 ((mbD l lens c).2.2.getD (belowD l (mbD l lens c).1 (mbD l lens c).2.2.length).2.toNat default).2.length), 0, 2, some 56⟩, ⟨[B (mbD l lens c).2.1, .own 2 0 0 (mbD l lens c).2.2.length], 0, 0, none⟩, ⟨ints ((mbD l lens c).2.2.getD (belowD l (mbD l lens c).1 (mbD l lens c).2.2.length).2.toNat default).2, 0, 1, none⟩]) (O1 := [CurO v (pickD l (belowD l (belowD l (mbD l lens c).1 (mbD l lens c).2.2.length).1 14).1 anyL).1, ⟨[B false, .nilS], 0, 0, none⟩, ⟨(rows blkF (mbD l lens c).2.2).set ((belowD l (mbD l lens c).1 (mbD l lens c).2.2.length).2.toNat * 2 + 1) (.own 4 0 0 ((mbD l lens c).2.2.getD (belowD l (mbD l lens c).1 (mbD l lens c).2.2.length).2.toNat default).2.length), 0, 2, some 56⟩, ⟨[B (mbD l lens c).2.1, .own 2 0 0 (mbD l lens c).2.2.length], 0, 0, none⟩, ⟨ints ((mbD l lens c).2.2.getD (belowD l (mbD l lens c).1 (mbD l lens c).2.2.length).2.toNat default).2, 0, 1, none⟩, ⟨ints anyL, 1, 1, some 3⟩, deadO]) 10 1 [2, 3, 4] [] rfl mixed (by decide +kernel)
    · exact rfl
    · apply HeadS.consF .none rfl
      · exact rfl
      · exact rfl
      · intro Tv Ov hc hp' hd hk
        obtain ⟨x0, x1, x2, R, rfl⟩ := Abs.split4 (hk 3 rfl)
        exact in1
      · exact rfl
      · exact rfl
      apply HeadS.consF .none rfl
      · exact rfl
      · exact rfl
      · intro Tv Ov hc hp' hd hk
        obtain ⟨x0, x1, x2, R, rfl⟩ := Abs.split4 (hk 3 rfl)
        exact in1
      · exact rfl
      · exact rfl
      apply HeadS.consF .none rfl
      · exact rfl
      · exact rfl
      · exact in1
      · exact rfl
      · exact rfl
      apply HeadS.consF .none rfl
      · exact rfl
      · exact rfl
      · intro Tv Ov hc hp' hd hk
        obtain ⟨A0, A1, R0, rfl⟩ := Abs.split3 (hk 2 rfl)
        exact in1
      · exact rfl
      · exact rfl
      apply HeadS.consF .none rfl
      · exact rfl
      · exact rfl
      · intro Tv Ov hc hp' hd hk
        obtain ⟨A0, A1, R0, rfl⟩ := Abs.split3 (hk 2 rfl)
        exact in1
      · exact rfl
      · exact rfl
      apply HeadS.consF (V := .own 4 0 0 ((mbD l lens c).2.2.getD (belowD l (mbD l lens c).1 (mbD l lens c).2.2.length).2.toNat default).2.length) .none rfl
      · exact rfl
      · exact rfl
      · intro Tv Ov hc hp' hd hk
        obtain ⟨A0, A1, R0, rfl⟩ := Abs.split3 (hk 2 rfl)
        refine K.ld ?_
        refine WpL.load1 tabOk rfl rfl rfl (V := .own 4 0 0 ((mbD l lens c).2.2.getD (belowD l (mbD l lens c).1 (mbD l lens c).2.2.length).2.toNat default).2.length) ?_ rfl (by decide) ?_
        · have hlr : (rows blkF (mbD l lens c).2.2).length = (mbD l lens c).2.2.length * 2 := rows_len (f := blkF) (k := 2) (fun _ => rfl) _
          simp only [Nat.zero_add]
          rw [List.getElem?_set_self (by omega)]
        · exact WpL.nil (Only.mk rfl)
      · exact rfl
      · exact rfl
      apply HeadS.consF .none rfl
      · exact rfl
      · exact rfl
      · exact in1
      · exact rfl
      · exact rfl
      apply HeadS.consF (V := .own 5 1 0 3) (.put 5 (⟨ints anyL, 1, 1, some 3⟩)) rfl
      · exact rfl
      · exact rfl
      · intro Tv Ov hc hp' hd hk
        refine WpL.litInts tabOk rfl rfl rfl rfl rfl (by decide) (by rw [nid_len, Nat.zero_add]) (by decide) ?_
        apply WpL.putNil (p := 5)
        · exact hp' 5 _ rfl
        · exact Nat.le_of_ble_eq_true rfl
        · exact rfl
        · first | exact still_ints _ | exact still_rows (fun _ => rfl) _ | rfl
      · exact rfl
      · exact rfl
      apply HeadS.consF (V := I (pickD l (belowD l (belowD l (mbD l lens c).1 (mbD l lens c).2.2.length).1 14).1 anyL).2) (.step 0 (CurO v (pickD l (belowD l (belowD l (mbD l lens c).1 (mbD l lens c).2.2.length).1 14).1 anyL).1)) rfl
      · exact rfl
      · exact rfl
      · intro Tv Ov hc hp' hd hk
        obtain ⟨a1, a2, a3, a4, R, rfl⟩ := split05 (hp' 0 _ rfl) (hd 7 _ 5 _ (by decide) rfl rfl rfl)
        refine K.call ?_
        refine K.conP (fun hcon => ?_)
        refine WpL.callP1 (hcon v l (belowD l (belowD l (mbD l lens c).1 (mbD l lens c).2.2.length).1 14).1 anyL ⟨hsc, by decide, by decide⟩) hp handA handOA rfl (.cons rfl (.sc (.sc (.sc .nil))) .nil) (by decide) ?_
        exact WpL.nil (Only.mk rfl)
      · exact rfl
      · exact rfl
      apply HeadS.consF (V := .ptr 4 0 0) .none rfl
      · exact rfl
      · exact rfl
      · intro Tv Ov hc hp' hd hk
        obtain ⟨x0, x1, x2, x3, R, rfl⟩ := sp5 (hk 4 rfl)
        exact in1
      · exact rfl
      · exact rfl
      exact HeadS.nil
    · exact rfl
    · exact rfl
    · exact rfl
    · exact rfl
    · exact rfl
    · exact rfl
    · exact rfl
    refine K.st ?_
    refine WpL.storeInts tabOk rfl rfl rfl rfl rfl (by omega) ?_
    refine WpL.weak (Weak.nestBlk (id := 2) (j := 4) (i := (belowD l (mbD l lens c).1 (mbD l lens c).2.2.length).2.toNat) (lv := ((mbD l lens c).2.2.getD (belowD l (mbD l lens c).1 (mbD l lens c).2.2.length).2.toNat default).2.set 0 (pickD l (belowD l (belowD l (mbD l lens c).1 (mbD l lens c).2.2.length).1 14).1 anyL).2) rfl rfl rfl (by decide) (by simp only [List.length_set]) (by omega) (fun _ _ _ _ h => h)) ?_
    refine go (r := ?_); and_intros <;> intros <;> try exact True.intro
    all_goals first | contradiction | exact hsc.2.1 | exact hsc.2.2 | omega | trace_state
  by_cases h2 : (belowD l (belowD l (mbD l lens c).1 (mbD l lens c).2.2.length).1 14).2 = 2
  · rw [if_neg h0, if_neg h1, if_pos h2]
    refine FnP.of_body tabOk Try.func75 Try.ntmps75 rfl (by decide +kernel) (by simp) rfl rfl rfl fun G hp => ?_
    refine goR (r := ?_); and_intros <;> intros <;> try exact True.intro
    all_goals first | contradiction | exact hm1.2.1 | exact hm1.2.2 | exact hbc.2.1 | exact hbc.2.2 | omega | skip
    all_goals trace_state
  by_cases h3 : (belowD l (belowD l (mbD l lens c).1 (mbD l lens c).2.2.length).1 14).2 = 3
  · rw [if_neg h0, if_neg h1, if_neg h2, if_pos h3]
    obtain ⟨kn, hkn⟩ : ∃ kn : Nat, (belowD l (mbD l lens c).1 (mbD l lens c).2.2.length).2 = kn := ⟨(belowD l (mbD l lens c).1 (mbD l lens c).2.2.length).2.toNat, by omega⟩
    have e5 : ((mbD l lens c).2.2.take (belowD l (mbD l lens c).1 (mbD l lens c).2.2.length).2.toNat).length = kn := by rw [List.length_take]; omega
    simp only [e5]
    refine FnP.of_body tabOk Try.func75 Try.ntmps75 rfl (by decide +kernel) (by simp) rfl rfl rfl fun G hp => ?_
    refine goR (r := ?_); and_intros <;> intros <;> try exact True.intro
    all_goals first | contradiction | exact hm1.2.1 | exact hm1.2.2 | exact hbc.2.1 | exact hbc.2.2 | omega | skip
    refine K.sl ?_
    refine WpL.subOwn (j := kn) tabOk rfl rfl rfl rfl (by simp only [hkn]; rfl) (by omega) (by decide) ?_
    refine WpL.weak (Weak.preRows (f := blkF) (k := 2) (id := 2) (belowD l (mbD l lens c).1 (mbD l lens c).2.2.length).2.toNat (fun _ => rfl) rfl) ?_
    refine go (r := ?_); and_intros <;> intros <;> try exact True.intro
    all_goals first | contradiction | exact hsc.2.1 | exact hsc.2.2 | omega | trace_state
  rw [if_neg h0, if_neg h1, if_neg h2, if_neg h3]
  refine FnP.of_body tabOk Try.func75 Try.ntmps75 rfl (by decide +kernel) (by simp) rfl rfl rfl fun G hp => ?_
  refine goR (r := ?_); and_intros <;> intros <;> try exact True.intro
  all_goals first | contradiction | exact hm1.2.1 | exact hm1.2.2 | exact hbc.2.1 | exact hbc.2.2 | omega | skip
  all_goals trace_state⟩
end Go.Proofs.Ytpokokcgoebbhaa

/- What is drawn: headers, squares of numbers, levels. No condition. -/
namespace Go.Proofs.Ytpokokcgoebbhaa
open Go Go.Abs
set_option linter.unusedVariables false
set_option linter.unusedSimpArgs false
set_option maxRecDepth 100000
set_option maxHeartbeats 4000000
attribute [local irreducible] WpA WpL Rnd Blk Abs.Seq Abs.Fin Abs.FinG FnC FnG FnX FnP FinX Only
attribute [local irreducible] belowD onceD pickD modeD l8D l8AnyD optD anyD seedD

abbrev HdOwn (k : Nat) (x : Hd6) : AV := .agg [I x.w, I x.h, I x.q, B x.b, B x.d, .own k 0 0 x.lens.length]
instance l22Header_p : ConP 112 (∀ (v : Value) (l : List Int) (c : Cr), CrOk l c → Pn 112 v l c [] (headD l c).1 [XI (headD l c).2.lens] (HdOwn 1 (headD l c).2)) := ⟨fun v l c h => by
  have h1 := belowD_ok 2 h
  have h2 := belowD_ok 2 h1.1
  have h3 := pickD_ok (xs := quant6) h2.1 (by decide)
  have h4 := onceD_ok 4 h3.1
  have h5 := onceD_ok 2 h4
  have h6 := l8D_ok h5
  have a1 := h1.2.1
  have a2 := h1.2.2.1 (by decide)
  have a3 := h2.2.1
  have a4 := h2.2.2.1 (by decide)
  unfold headD
  simp only
  refine FnP.of_body tabOk Try.func112 Try.ntmps112 rfl (by decide +kernel) (by simp) rfl rfl rfl fun G hp => ?_
  refine go (r := ?_); and_intros <;> intros <;> try exact True.intro
  all_goals first | exact h | exact h.1 | exact h.2.1 | exact h.2.2 | exact h1.1.2.1 | exact h1.1.2.2 | exact h2.1.2.1 | exact h2.1.2.2 | exact h3.1.2.1 | exact h3.1.2.2 | exact h4.2.1 | exact h4.2.2 | exact h5.2.1 | exact h5.2.2 | decide | skip⟩
instance l22Any_p : ConP 74 (∀ (v : Value) (l : List Int) (c : Cr), CrOk l c → Pn 74 v l c [] (headAnyD l c).1 [XI (headAnyD l c).2.lens] (HdOwn 1 (headAnyD l c).2)) := ⟨fun v l c h => by
  have ho := headD_ok h
  have hs := belowD_ok 12 ho.1
  by_cases h0 : (belowD l (headD l c).1 12).2 = 0
  · rw [headAnyD_0 h0]
    refine FnP.of_body tabOk Try.func74 Try.ntmps74 rfl (by decide +kernel) (by simp) rfl rfl rfl fun G hp => ?_
    refine go (r := ?_); and_intros <;> intros <;> try exact True.intro
    all_goals first | exact hs.1 | exact hs.1.2.1 | exact hs.1.2.2 | exact ho.1.2.1 | exact ho.1.2.2 | exact h | exact h.2.1 | exact h.2.2 | decide | skip
  · by_cases h1 : (belowD l (headD l c).1 12).2 = 1
    · rw [headAnyD_1 h1]
      refine FnP.of_body tabOk Try.func74 Try.ntmps74 rfl (by decide +kernel) (by simp) rfl rfl rfl fun G hp => ?_
      refine go (r := ?_); and_intros <;> intros <;> try exact True.intro
      all_goals first | exact hs.1 | exact hs.1.2.1 | exact hs.1.2.2 | exact ho.1.2.1 | exact ho.1.2.2 | exact h | exact h.2.1 | exact h.2.2 | decide | skip
    · by_cases h2 : (belowD l (headD l c).1 12).2 = 2
      · rw [headAnyD_2 h2]
        refine FnP.of_body tabOk Try.func74 Try.ntmps74 rfl (by decide +kernel) (by simp) rfl rfl rfl fun G hp => ?_
        refine go (r := ?_); and_intros <;> intros <;> try exact True.intro
        all_goals first | exact hs.1 | exact hs.1.2.1 | exact hs.1.2.2 | exact ho.1.2.1 | exact ho.1.2.2 | exact h | exact h.2.1 | exact h.2.2 | decide | skip
      · rw [headAnyD_3 h0 h1 h2]
        refine FnP.of_body tabOk Try.func74 Try.ntmps74 rfl (by decide +kernel) (by simp) rfl rfl rfl fun G hp => ?_
        refine go (r := ?_); and_intros <;> intros <;> try exact True.intro
        all_goals first | exact hs.1 | exact hs.1.2.1 | exact hs.1.2.2 | exact ho.1.2.1 | exact ho.1.2.2 | exact h | exact h.2.1 | exact h.2.2 | decide | skip⟩
/-! Squares. -/
end Go.Proofs.Ytpokokcgoebbhaa

/- What is drawn: streams. No condition. -/
namespace Go.Proofs.Ytpokokcgoebbhaa
open Go Go.Abs
set_option linter.unusedVariables false
set_option linter.unusedSimpArgs false
set_option maxRecDepth 100000
set_option maxHeartbeats 4000000
attribute [local irreducible] WpA WpL Rnd Blk Abs.Seq Abs.Fin Abs.FinG FnC FnG FnX FnP FinX Only
attribute [local irreducible] belowD onceD pickD modeD l8D l8AnyD optD anyD seedD headD headAnyD symL HasC blkD mbD

theorem split02 {Ov : List AObj} {x y : AObj} (h0 : Ov[0]? = some x) (h : Ov[2]? = some y) : ∃ a R, Ov = x :: a :: y :: R := by
  match Ov, h0, h with
  | x' :: a :: y' :: R, h0, h => simp at h0 h; exact ⟨a, R, by rw [h0, h]⟩
  | [], h0, h => simp at h
  | [_], h0, h => simp at h
  | [_, _], h0, h => simp at h
theorem split456 {Ov : List AObj} {x y z : AObj} (h4 : Ov[4]? = some x) (h5 : Ov[5]? = some y) (h6 : Ov[6]? = some z) : ∃ a b c d R, Ov = a :: b :: c :: d :: x :: y :: z :: R := by
  match Ov, h4, h5, h6 with
  | a :: b :: c :: d :: x' :: y' :: z' :: R, h4, h5, h6 => simp at h4 h5 h6; exact ⟨a, b, c, d, R, by rw [h4, h5, h6]⟩
  | [], h4, h5, h6 => simp at h6
  | [_], h4, h5, h6 => simp at h6
  | [_, _], h4, h5, h6 => simp at h6
  | [_, _, _], h4, h5, h6 => simp at h6
  | [_, _, _, _], h4, h5, h6 => simp at h6
  | [_, _, _, _, _], h4, h5, h6 => simp at h6
  | [_, _, _, _, _, _], h4, h5, h6 => simp at h6
abbrev StOwn (s : Str8) : AV := .agg [I s.hd.w, I s.hd.h, I s.hd.q, B s.hd.b, B s.hd.d, .own 1 0 0 s.hd.lens.length, .own 2 0 0 s.ms.length]
abbrev Z7 : AObj := ⟨[I 0, I 0, I 0, B false, B false, .nilS, .nilS], 0, 0, none⟩
instance l24Stream_p : ConP 72 (∀ (v : Value) (l : List Int) (c : Cr), CrOk l c → Pn 72 v l c [] (strD l c).1 [XI (strD l c).2.hd.lens, MbO (strD l c).2.ms] (StOwn (strD l c).2)) := ⟨fun v l c h => by
  have hx := headD_ok h
  have hx1 := hx.1
  have hx2 := hx.2.1
  have hx3 := hx.2.2
  have hcm := cntM_bd hx3
  have hcm1 := hcm.2.2.1
  have hcm2 := hcm.2.2.2
  unfold strD
  generalize hS : strK l _ _ _ = S
  generalize hX : (headD l c).2 = X at *
  generalize hC : (headD l c).1 = c0 at *
  obtain ⟨w0, h0, q0, b0, d0, lens⟩ := X
  simp only at hx2 hx3 hcm hcm1 hcm2 hS
  refine FnP.of_body tabOk Try.func72 Try.ntmps72 rfl (by decide +kernel) (by simp) rfl rfl rfl fun G hp => ?_
  refine goR (r := ?_); and_intros <;> intros <;> try exact True.intro
  all_goals first | contradiction | omega | exact h.2.1 | exact h.2.2 | skip
  rw [hX, hC]
  refine WpA.loop (fun x : Nat × Cr × List Mbk => ⟨[(0, .ptr 0 0 0), (2, .ptr 1 0 0), (3, .ptr 3 0 0), (4, I (cntM w0 h0 - x.1))], [CurO v x.2.1, Z7, XI lens, ⟨[I w0, I h0, I q0, B b0, B d0, .own 2 0 0 lens.length, .own 4 0 0 x.2.2.length], 0, 0, none⟩, MbO x.2.2]⟩) (fun x => CrOk l x.2.1 ∧ (x.1 : Int) ≤ cntM w0 h0 ∧ x.1 + x.2.2.length ≤ 16 ∧ strK l lens x.1 x.2 = S) (fun x => x.1) ((cntM w0 h0).toNat, c0, []) ⟨hx1, by simp only; omega, by simp only [List.length_nil]; omega, hS⟩ ?_ ?_
  · have ez : cntM w0 h0 - ((cntM w0 h0).toNat : Nat) = 0 := by omega
    simp only [ez]
    exact Weak.nil1 (by first | (show 0 ≤ _; exact Nat.zero_le _) | (repeat' (first | exact RzT.nil | refine RzT.cons ?_ ?_ | exact Rz.nil | refine Rz.keep rfl rfl ?_ | refine Rz.own rfl rfl rfl rfl rfl (by first | rfl | omega | (simp; done)) ?_ | refine Rz.ptr rfl rfl rfl rfl ?_ | refine Rz.nilO rfl rfl rfl (by first | rfl | omega | (simp; done)) ?_ | refine Rz.agg ?_ ?_ | exact RzO.last rfl | (refine RzO.cons ?_ (.inr rfl) ?_) | exact Rz.same rfl (still_ints _) | exact Rz.same rfl (still_rows (fun _ => rfl) _)))) (by first | (show 0 ≤ _; exact Nat.zero_le _) | (repeat' (first | exact RzT.nil | refine RzT.cons ?_ ?_ | exact Rz.nil | refine Rz.keep rfl rfl ?_ | refine Rz.own rfl rfl rfl rfl rfl (by first | rfl | omega | (simp; done)) ?_ | refine Rz.ptr rfl rfl rfl rfl ?_ | refine Rz.nilO rfl rfl rfl (by first | rfl | omega | (simp; done)) ?_ | refine Rz.agg ?_ ?_ | exact RzO.last rfl | (refine RzO.cons ?_ (.inr rfl) ?_) | exact Rz.same rfl (still_ints _) | exact Rz.same rfl (still_rows (fun _ => rfl) _)))) (Nat.le_of_ble_eq_true rfl)
  rintro ⟨k, c1, ms⟩ ⟨hc1, hk, hkl, hK⟩
  try simp only at hc1 hk hkl hK ⊢
  by_cases hk0 : k = 0
  · subst hk0
    have hSe : (c1, ms) = S := hK
    subst hSe
    refine go (r := ?_); and_intros <;> intros <;> try exact True.intro
    all_goals first | exact hx3 | skip
    exact FinG.oI [some 0, some 2, some 4] rfl (ResV.cell (ds := [_, _, _, _, _, _, _]) rfl rfl rfl rfl rfl) (.agg (.keep rfl rfl rfl (.keep rfl rfl rfl (.keep rfl rfl rfl (.keep rfl rfl rfl (.keep rfl rfl rfl (.own rfl rfl rfl rfl (.own rfl rfl rfl rfl .nil))))))) .nil) (.obj rfl rfl rfl rfl rfl (.inr rfl) (.obj rfl rfl (still_ints _) rfl rfl (.inr rfl) (.obj rfl rfl (still_rows (fun _ => rfl) _) rfl rfl (.inr rfl) .nil))) rfl rfl
  · have hE : strK l lens (k - 1) ((mbD l lens c1).1, ms ++ [(mbD l lens c1).2]) = S := by
      obtain ⟨j, rfl⟩ : ∃ j, k = j + 1 := ⟨k - 1, by omega⟩
      exact hK
    have hb := mbD_ok (lens := lens) hc1
    refine goR (r := ?_); and_intros <;> intros <;> try exact True.intro
    all_goals first | contradiction | omega | exact hx3 | skip
    apply WpA.regionSF (O := []) (Or := [CurO v c1, Z7, XI lens, ⟨[I w0, I h0, I q0, B b0, B d0, .own 2 0 0 lens.length, .own 4 0 0 ms.length], 0, 0, none⟩, MbO ms]) (O1 := [CurO v (mbD l lens c1).1, Z7, XI lens, ⟨[I w0, I h0, I q0, B b0, B d0, .own 2 0 0 lens.length, .own 4 0 0 ms.length], 0, 0, none⟩, ⟨rows Go.Abs.mbF (ms ++ [(mbD l lens c1).2]), 1, 2, some 36⟩, ⟨[], 2, 0, none⟩, ⟨[B (mbD l lens c1).2.1, .own 5 1 0 (mbD l lens c1).2.2.length], 1, 2, some 36⟩, deadO, deadO]) 9 2 [2, 3] [5] rfl mixed (by decide +kernel)
    · exact rfl
    · apply HeadS.consF .none rfl
      · exact rfl
      · exact rfl
      · intro Tv Ov hc hp' hd hk
        obtain ⟨x0, x1, x2, R, rfl⟩ := Abs.split4 (hk 3 rfl)
        exact in1
      · exact rfl
      · exact rfl
      apply HeadS.consF .none rfl
      · exact rfl
      · exact rfl
      · intro Tv Ov hc hp' hd hk
        obtain ⟨x0, x1, x2, R, rfl⟩ := Abs.split4 (hk 3 rfl)
        exact in1
      · exact rfl
      · exact rfl
      apply HeadS.consF .none rfl
      · exact rfl
      · exact rfl
      · exact in1
      · exact rfl
      · exact rfl
      apply HeadS.consF .none rfl
      · exact rfl
      · exact rfl
      · intro Tv Ov hc hp' hd hk
        obtain ⟨x0, x1, x2, R, rfl⟩ := Abs.split4 (hk 3 rfl)
        exact in1
      · exact rfl
      · exact rfl
      apply HeadS.consF .none rfl
      · exact rfl
      · exact rfl
      · intro Tv Ov hc hp' hd hk
        obtain ⟨x0, x1, x2, R, rfl⟩ := Abs.split4 (hk 3 rfl)
        exact in1
      · exact rfl
      · exact rfl
      apply HeadS.consF .none rfl
      · exact rfl
      · exact rfl
      · intro Tv Ov hc hp' hd hk
        obtain ⟨x0, x1, x2, R, rfl⟩ := Abs.split4 (hk 3 rfl)
        exact in1
      · exact rfl
      · exact rfl
      apply HeadS.consF (V := .agg [B (mbD l lens c1).2.1, .own 5 1 0 (mbD l lens c1).2.2.length]) (.both 0 (CurO v (mbD l lens c1).1) 5 ⟨rows blkF (mbD l lens c1).2.2, 1, 2, some 56⟩) rfl
      · exact rfl
      · exact rfl
      · intro Tv Ov hc hp' hd hk
        have h3 := hp' 5 _ rfl
        obtain ⟨a0, R, rfl⟩ := split02 (hp' 0 _ rfl) (hk 2 rfl)
        refine K.call ?_
        refine K.conP (fun hcon => ?_)
        refine WpL.callP1N (A := []) (hcon v l c1 lens ⟨hc1, by omega⟩) hp rfl handA handOA rfl (.cons rfl (.sc (.sc (.sc .nil))) .nil) outA rfl (by decide) ?_
        apply WpL.putV (O := []) (p := 5) (Ov := CurO v (mbD l lens c1).1 :: a0 :: XI lens :: R)
        · exact .agg (.keep rfl rfl (.own (by first | rfl | simp) .nil)) .nil
        · exact h3
        · exact Nat.le_of_ble_eq_true rfl
        · exact rfl
        · exact still_rows (fun _ => rfl) _
      · exact rfl
      · exact rfl
      apply HeadS.consF (V := .own 6 1 0 1) (.put 6 (⟨[B (mbD l lens c1).2.1, .own 5 1 0 (mbD l lens c1).2.2.length], 1, 2, some 36⟩)) rfl
      · exact rfl
      · exact rfl
      · intro Tv Ov hc hp' hd hk
        refine WpL.litF (cs := [B (mbD l lens c1).2.1, .own 5 1 0 (mbD l lens c1).2.2.length]) tabOk rfl rfl rfl rfl (by decide) (by rw [nid_len, Nat.zero_add]) (by decide) ?_
        apply WpL.putA (p := 6)
        · exact .own rfl .nil
        · exact hp' 6 _ rfl
        · exact Nat.le_of_ble_eq_true rfl
        · exact rfl
      · exact rfl
      · exact rfl
      apply HeadS.consF (V := .own 4 1 0 (ms.length + 1)) (⟨[(5, ⟨[], 2, 0, none⟩), (4, ⟨rows Go.Abs.mbF (ms ++ [(mbD l lens c1).2]), 1, 2, some 36⟩)], false⟩) rfl
      · exact rfl
      · exact rfl
      · intro Tv Ov hc hp' hd hk
        obtain ⟨a0, a1, a2, a3, R, rfl⟩ := split456 (hp' 4 _ rfl) (hp' 5 _ rfl) (hd 7 _ 6 _ (by decide) rfl rfl rfl)
        refine K.bi ?_
        refine WpL.appMb (j := 5) (c := (mbD l lens c1).2.1) (lv := (mbD l lens c1).2.2) tabOk rfl rfl rfl (Nat.le_of_ble_eq_true rfl) rfl rfl rfl rfl rfl (Nat.le_of_ble_eq_true rfl) rfl rfl (by omega) (by decide) ?_
        exact WpL.nil (Only.mk rfl)
      · exact rfl
      · exact rfl
      exact HeadS.nil
    · exact rfl
    · exact rfl
    · exact rfl
    · exact rfl
    · exact rfl
    · exact rfl
    · exact rfl
    refine go (r := ?_); and_intros <;> intros <;> try exact True.intro
    all_goals first | contradiction | omega | exact hx3 | skip
    have e1 : cntM w0 h0 - ((k - 1 : Nat) : Int) = cntM w0 h0 - k + 1 := by omega
    refine Rnd.go (k - 1, (mbD l lens c1).1, ms ++ [(mbD l lens c1).2]) ⟨hb.1, by simp only; omega, by simp only [List.length_append, List.length_singleton]; omega, hE⟩ ?_ ?_
    · show k - 1 < k; omega
    · simp only [e1, List.length_append, List.length_singleton]
      exact Weak.mk (by repeat (first | exact ReT.nil | refine ReT.cons (.keep rfl rfl .nil) ?_ | refine ReT.cons (.own rfl rfl rfl rfl rfl rfl .nil) ?_ | refine ReT.cons (.ptr rfl rfl rfl rfl .nil) ?_ | refine ReT.cons (.keep (congrArg (fun z => AV.sc (Value.int .i64 z)) (by first | omega | (skip))) rfl .nil) ?_ | refine ReT.cons (.keep (congrArg (fun z : List UInt8 => AV.sc (Value.string ⟨z.toArray⟩)) (by skip)) rfl .nil) ?_ | refine ReT.cons (.own rfl rfl rfl rfl rfl (by first | omega | (simp; done) | (simp; omega)) .nil) ?_)) (by repeat (first
          | exact ReO.nil
          | refine ReO.cons (Re.same rfl rfl) (.inr rfl) ?_
          | refine ReO.cons (Re.same rfl (still_ints _)) (.inr rfl) ?_
          | refine ReO.cons (Re.same rfl (still_rows (fun _ => rfl) _)) (.inr rfl) ?_
          | refine ReO.cons (.keep rfl rfl (.keep rfl rfl (.keep rfl rfl (.keep rfl rfl (.keep rfl rfl (.own rfl rfl rfl rfl rfl rfl (.own rfl rfl rfl rfl rfl rfl .nil))))))) (.inr rfl) ?_)) (Nat.le_of_ble_eq_true rfl)⟩
end Go.Proofs.Ytpokokcgoebbhaa

/- What is drawn: any stream. No condition. -/
namespace Go.Proofs.Ytpokokcgoebbhaa
open Go Go.Abs
set_option linter.unusedVariables false
set_option linter.unusedSimpArgs false
set_option maxRecDepth 100000
set_option maxHeartbeats 4000000
attribute [local irreducible] WpA WpL Rnd Blk Abs.Seq Abs.Fin Abs.FinG FnC FnG FnX FnP FinX Only
attribute [local irreducible] belowD onceD pickD modeD l8D l8AnyD optD anyD seedD headD headAnyD symL HasC blkD mbD mbAnyD strD

theorem subOwnLo {P : Program} {n m : Nat} {G : Ctx} {T : List (Nat × AV)} {O : List AObj} {Q : Exit → St → Prop} {ops : Array Oper} {l : List Oper} {d : Nat} {md : Bool} {tt : TypeId} {pos : String} {after : Array Edge} {tab : List (Nat × Ty)} (hP : TabOk P tab) {t e k b : Nat} {zs : List AV} {x y : Operand} {kk : IntKind} {id ep len j off : Nat} {ob : AObj} (ht : tlook tab t = some (.slice e k b zs)) (hx : av T x = .own id ep 0 len) (ho : O[id]? = some ob) (he : ob.ep = ep) (hsz : ob.size = k) (hy : av T y = .sc (.int kk j)) (hj : j < len) (hoff : off = j * k) (hn : d < n)
    (h : WpL P n m G md ops l ⟨(d, .own id ep off (len - j)) :: T, O⟩ Q) :
    WpL P n m G md ops ({ dst := some d, op := .slice t x (some y) none none, type := tt, pos := pos, after := after, guard := none } :: l) ⟨T, O⟩ Q := by
  subst hoff
  exact WpL.pure rfl rfl hn (fun S ι F a w hr => by
    obtain ⟨hu, inf, z, hinf, _, hk, _, _, hk0, _⟩ := hP.slice ht
    have hv := hr.eval x
    rw [show av (St.mk T O).T x = _ from hx] at hv
    have hye := hr.sc hy
    have hown : OwnAt (ι id) ob.size 0 len (a.eval x) := by
      cases hv with
      | own q1 q2 q3 r =>
        rw [show (St.mk T O).O[id]? = some ob from ho] at q1
        cases q1
        exact q3 he.symm
    cases hs : ι id with
    | none =>
      rw [hs] at hown
      obtain ⟨_, _, hl⟩ := hown
      omega
    | some p =>
      obtain ⟨bb, kb⟩ := p
      rw [hs] at hown
      obtain ⟨cap, hxe, h1, h2, h3⟩ := hown
      have hrun := run_sliceSl hu hinf hk ⟨bb, 0, none⟩ len cap (some (.int kk j)) none j len (.inr ⟨kk, rfl⟩) (.inl ⟨rfl, rfl⟩) (by omega) w
      have e1 : (if cap = j then (⟨bb, 0, none⟩ : Addr) else (⟨bb, 0, none⟩ : Addr).add (j * k)) = ⟨bb, j * k, none⟩ := by
        rw [if_neg (by omega), addr_add]; simp
      rw [e1] at hrun
      refine ⟨.slice (some ⟨bb, j * k, none⟩) (len - j) (cap - j), by simp [execOp, hxe, hye, hrun, Sem.run_bind], .own ho (by omega) (fun _ => by
        rw [hs]
        refine ⟨cap - j, rfl, ?_, by omega, by omega⟩
        rw [hsz] at h1 ⊢
        rw [Nat.sub_mul]
        have := Nat.mul_le_mul_right k (show j ≤ cap by omega)
        omega) .nil⟩) h
theorem subOwnEnd {P : Program} {n m : Nat} {G : Ctx} {T : List (Nat × AV)} {O : List AObj} {Q : Exit → St → Prop} {ops : Array Oper} {l : List Oper} {d : Nat} {md : Bool} {tt : TypeId} {pos : String} {after : Array Edge} {tab : List (Nat × Ty)} (hP : TabOk P tab) {t e k b : Nat} {zs : List AV} {x y : Operand} {kk : IntKind} {id ep len : Nat} {ob : AObj} (ht : tlook tab t = some (.slice e k b zs)) (hx : av T x = .own id ep 0 len) (ho : O[id]? = some ob) (he : ob.ep = ep) {j : Int} (hy : av T y = .sc (.int kk j)) (hjl : j = len) (h0 : 0 < len) (hn : d < n)
    (h : WpL P n m G md ops l ⟨(d, .imm k 0 []) :: T, O⟩ Q) :
    WpL P n m G md ops ({ dst := some d, op := .slice t x (some y) none none, type := tt, pos := pos, after := after, guard := none } :: l) ⟨T, O⟩ Q := by
  subst hjl
  exact WpL.pure rfl rfl hn (fun S ι F a w hr => by
    obtain ⟨hu, inf, z, hinf, _, hk, _, _, hk0, _⟩ := hP.slice ht
    have hv := hr.eval x
    rw [show av (St.mk T O).T x = _ from hx] at hv
    have hye := hr.sc hy
    have hown : OwnAt (ι id) ob.size 0 len (a.eval x) := by
      cases hv with
      | own q1 q2 q3 r =>
        rw [show (St.mk T O).O[id]? = some ob from ho] at q1
        cases q1
        exact q3 he.symm
    cases hs : ι id with
    | none =>
      rw [hs] at hown
      obtain ⟨_, _, hl⟩ := hown
      omega
    | some p =>
      obtain ⟨bb, kb⟩ := p
      rw [hs] at hown
      obtain ⟨cap, hxe, h1, h2, h3⟩ := hown
      have hrun := run_sliceSl hu hinf hk ⟨bb, 0, none⟩ len cap (some (.int kk len)) none len len (.inr ⟨kk, rfl⟩) (.inl ⟨rfl, rfl⟩) (by omega) w
      rw [Nat.sub_self] at hrun
      exact ⟨.slice (some (if cap = len then (⟨bb, 0, none⟩ : Addr) else (⟨bb, 0, none⟩ : Addr).add (len * k))) 0 (cap - len), by simp [execOp, hxe, hye, hrun, Sem.run_bind], .imm0 ⟨by simp, by omega⟩ .nil⟩) h
/-- Any stream: the cursor behind it, the stream, whether its first macroblock is left out. -/
def anySD (l : List Int) (c : Cr) : Cr × Str8 × Bool :=
  if (belowD l (strD l c).1 14).2 = 0 then ((headAnyD l (belowD l (strD l c).1 14).1).1, ⟨(headAnyD l (belowD l (strD l c).1 14).1).2, (strD l c).2.ms⟩, false)
  else if (belowD l (strD l c).1 14).2 = 1 then ((mbAnyD l (strD l c).2.hd.lens (belowD l (strD l c).1 14).1).1, ⟨(strD l c).2.hd, (strD l c).2.ms.set 0 (mbAnyD l (strD l c).2.hd.lens (belowD l (strD l c).1 14).1).2⟩, false)
  else if (belowD l (strD l c).1 14).2 = 2 then ((belowD l (strD l c).1 14).1, (strD l c).2, true)
  else ((belowD l (strD l c).1 14).1, (strD l c).2, false)
/-- A stream's macroblocks as they are named: all of them, all but the first, none. -/
def drV (k : Nat) (o : Bool) (len : Nat) : AV := bif o then (if len ≤ 1 then .imm 2 ([] : List Mbk).length (rows mbI []) else .own k 0 2 (len - 1)) else .own k 0 0 len
theorem drV_0 (k len : Nat) : drV k false len = .own k 0 0 len := rfl
theorem drV_1 {k len : Nat} (h : len ≤ 1) : drV k true len = .imm 2 ([] : List Mbk).length (rows mbI []) := by unfold drV; rw [if_pos h]; rfl
theorem drV_2 {k len : Nat} (h : ¬ len ≤ 1) : drV k true len = .own k 0 2 (len - 1) := by unfold drV; rw [if_neg h]; rfl
abbrev StO (s : Str8) (o : Bool) : AV := .agg [I s.hd.w, I s.hd.h, I s.hd.q, B s.hd.b, B s.hd.d, .own 1 0 0 s.hd.lens.length, drV 2 o s.ms.length]
abbrev StS8 (i j k : Nat) (s : Str8) : AObj := ⟨[I s.hd.w, I s.hd.h, I s.hd.q, B s.hd.b, B s.hd.d, .own i 0 0 s.hd.lens.length, .own j 0 0 k], 0, 0, none⟩
instance l24Any_p : ConP 31 (∀ (v : Value) (l : List Int) (c : Cr), CrOk l c → Pn 31 v l c [] (anySD l c).1 [XI (anySD l c).2.1.hd.lens, MbO (anySD l c).2.1.ms] (StO (anySD l c).2.1 (anySD l c).2.2)) := ⟨fun v l c h => by
  have hs := strD_ok h
  have hs1 := hs.1
  have hs2 := hs.2.1
  have hcm := cntM_bd hs.2.2.1
  have hln := hs.2.2.2.1
  have hpos : 0 < (strD l c).2.ms.length := by
    have h8 := hs.2.2.1
    have h9 := Int.mul_pos (show 0 < (strD l c).2.hd.w / 8 by omega) (show 0 < (strD l c).2.hd.h / 8 by omega)
    unfold cntM at hln
    omega
  have hk := belowD_ok 14 hs1
  have hk0 := hk.2.1
  have hk1 := hk.2.2.1 (by decide)
  have hkc := hk.1
  unfold anySD
  by_cases h0 : (belowD l (strD l c).1 14).2 = 0
  · rw [if_pos h0]
    simp only [StO, drV_0]
    refine FnP.of_body tabOk Try.func31 Try.ntmps31 rfl (by decide +kernel) (by simp) rfl rfl rfl fun G hp => ?_
    refine goR (r := ?_); and_intros <;> intros <;> try exact True.intro
    all_goals first | contradiction | omega | exact h.2.1 | exact h.2.2 | exact hs1.2.1 | exact hs1.2.2 | exact hkc.2.1 | exact hkc.2.2 | skip
    exact FinG.oI [some 0, some 5, some 3] rfl (ResV.cell (ds := [_, _, _, _, _, _, _]) rfl rfl rfl rfl rfl) (.agg (.keep rfl rfl rfl (.keep rfl rfl rfl (.keep rfl rfl rfl (.keep rfl rfl rfl (.keep rfl rfl rfl (.own rfl rfl rfl rfl (.own rfl rfl rfl rfl .nil))))))) .nil) (.obj rfl rfl rfl rfl rfl (.inr rfl) (.obj rfl rfl (still_ints _) rfl rfl (.inr rfl) (.obj rfl rfl (still_rows (fun _ => rfl) _) rfl rfl (.inr rfl) .nil))) rfl rfl
  by_cases h1 : (belowD l (strD l c).1 14).2 = 1
  · rw [if_neg h0, if_pos h1]
    simp only [StO, drV_0, List.length_set]
    refine FnP.of_body tabOk Try.func31 Try.ntmps31 rfl (by decide +kernel) (by simp) rfl rfl rfl fun G hp => ?_
    refine goR (r := ?_); and_intros <;> intros <;> try exact True.intro
    all_goals first | contradiction | omega | exact h.2.1 | exact h.2.2 | exact hs1.2.1 | exact hs1.2.2 | exact hkc.2.1 | exact hkc.2.2 | skip
    apply WpA.regionSF (O := []) (Or := [CurO v (belowD l (strD l c).1 14).1, Z7, XI (strD l c).2.hd.lens, MbO (strD l c).2.ms, StS8 2 3 (strD l c).2.ms.length (strD l c).2]) (O1 := [CurO v (mbAnyD l (strD l c).2.hd.lens (belowD l (strD l c).1 14).1).1, Z7, XI (strD l c).2.hd.lens, MbO (strD l c).2.ms, StS8 2 3 (strD l c).2.ms.length (strD l c).2, ⟨rows blkF (mbAnyD l (strD l c).2.hd.lens (belowD l (strD l c).1 14).1).2.2, 1, 2, some 56⟩, deadO]) 7 1 [2, 4] [] rfl mixed (by decide +kernel)
    · exact rfl
    · apply HeadS.consF .none rfl
      · exact rfl
      · exact rfl
      · intro Tv Ov hc hp' hd hk
        obtain ⟨x0, x1, x2, x3, R, rfl⟩ := split5 (hk 4 rfl)
        exact in1
      · exact rfl
      · exact rfl
      apply HeadS.consF .none rfl
      · exact rfl
      · exact rfl
      · intro Tv Ov hc hp' hd hk
        obtain ⟨x0, x1, x2, x3, R, rfl⟩ := split5 (hk 4 rfl)
        exact in1
      · exact rfl
      · exact rfl
      apply HeadS.consF .none rfl
      · exact rfl
      · exact rfl
      · exact in1
      · exact rfl
      · exact rfl
      apply HeadS.consF .none rfl
      · exact rfl
      · exact rfl
      · intro Tv Ov hc hp' hd hk
        obtain ⟨x0, x1, x2, x3, R, rfl⟩ := split5 (hk 4 rfl)
        exact in1
      · exact rfl
      · exact rfl
      apply HeadS.consF .none rfl
      · exact rfl
      · exact rfl
      · intro Tv Ov hc hp' hd hk
        obtain ⟨x0, x1, x2, x3, R, rfl⟩ := split5 (hk 4 rfl)
        exact in1
      · exact rfl
      · exact rfl
      apply HeadS.consF .none rfl
      · exact rfl
      · exact rfl
      · intro Tv Ov hc hp' hd hk
        obtain ⟨x0, x1, x2, x3, R, rfl⟩ := split5 (hk 4 rfl)
        exact in1
      · exact rfl
      · exact rfl
      apply HeadS.consF (V := .agg [B (mbAnyD l (strD l c).2.hd.lens (belowD l (strD l c).1 14).1).2.1, .own 5 1 0 (mbAnyD l (strD l c).2.hd.lens (belowD l (strD l c).1 14).1).2.2.length]) (.both 0 (CurO v (mbAnyD l (strD l c).2.hd.lens (belowD l (strD l c).1 14).1).1) 5 ⟨rows blkF (mbAnyD l (strD l c).2.hd.lens (belowD l (strD l c).1 14).1).2.2, 1, 2, some 56⟩) rfl
      · exact rfl
      · exact rfl
      · intro Tv Ov hc hp' hd hk
        have h3 := hp' 5 _ rfl
        obtain ⟨a0, R, rfl⟩ := split02 (hp' 0 _ rfl) (hk 2 rfl)
        refine K.call ?_
        refine K.conP (fun hcon => ?_)
        refine WpL.callP1N (A := []) (hcon v l (belowD l (strD l c).1 14).1 (strD l c).2.hd.lens ⟨hkc, by omega⟩) hp rfl handA handOA rfl (.cons rfl (.sc (.sc (.sc .nil))) .nil) outA rfl (by decide) ?_
        apply WpL.putV (O := []) (p := 5) (Ov := CurO v (mbAnyD l (strD l c).2.hd.lens (belowD l (strD l c).1 14).1).1 :: a0 :: XI (strD l c).2.hd.lens :: R)
        · exact .agg (.keep rfl rfl (.own (by first | rfl | simp) .nil)) .nil
        · exact h3
        · exact Nat.le_of_ble_eq_true rfl
        · exact rfl
        · exact still_rows (fun _ => rfl) _
      · exact rfl
      · exact rfl
      exact HeadS.nil
    · exact rfl
    · exact rfl
    · exact rfl
    · exact rfl
    · exact rfl
    · exact rfl
    · exact rfl
    refine go (r := ?_); and_intros <;> intros <;> try exact True.intro
    all_goals first | contradiction | omega | skip
    exact FinG.oI [some 0, some 2, some 3] rfl (ResV.cell (ds := [_, _, _, _, _, _, _]) rfl rfl rfl rfl rfl) (.agg (.keep rfl rfl rfl (.keep rfl rfl rfl (.keep rfl rfl rfl (.keep rfl rfl rfl (.keep rfl rfl rfl (.own rfl rfl rfl rfl (.own rfl rfl rfl rfl .nil))))))) .nil) (.obj rfl rfl rfl rfl rfl (.inr rfl) (.obj rfl rfl (still_ints _) rfl rfl (.inr rfl) (.obj rfl rfl (still_rows (fun _ => rfl) _) rfl rfl (.inr rfl) .nil))) rfl rfl
  by_cases h2 : (belowD l (strD l c).1 14).2 = 2
  · rw [if_neg h0, if_neg h1, if_pos h2]
    by_cases hle : (strD l c).2.ms.length ≤ 1
    · simp only [StO, drV_1 hle]
      refine FnP.of_body tabOk Try.func31 Try.ntmps31 rfl (by decide +kernel) (by simp) rfl rfl rfl fun G hp => ?_
      refine goR (r := ?_); and_intros <;> intros <;> try exact True.intro
      all_goals first | contradiction | omega | exact h.2.1 | exact h.2.2 | exact hs1.2.1 | exact hs1.2.2 | exact hkc.2.1 | exact hkc.2.2 | skip
      refine K.sl ?_
      refine subOwnEnd (len := (strD l c).2.ms.length) tabOk rfl rfl rfl rfl rfl (by omega) hpos (by decide) ?_
      refine go (r := ?_); and_intros <;> intros <;> try exact True.intro
      all_goals first | contradiction | omega | skip
      exact FinG.oI [some 0, some 2, some 3] rfl (ResV.cell (ds := [_, _, _, _, _, _, _]) rfl rfl rfl rfl rfl) (.agg (.keep rfl rfl rfl (.keep rfl rfl rfl (.keep rfl rfl rfl (.keep rfl rfl rfl (.keep rfl rfl rfl (.own rfl rfl rfl rfl (.keep rfl rfl rfl .nil))))))) .nil) (.obj rfl rfl rfl rfl rfl (.inr rfl) (.obj rfl rfl (still_ints _) rfl rfl (.inr rfl) (.obj rfl rfl (still_rows (fun _ => rfl) _) rfl rfl (.inr rfl) .nil))) rfl rfl
    · simp only [StO, drV_2 hle]
      refine FnP.of_body tabOk Try.func31 Try.ntmps31 rfl (by decide +kernel) (by simp) rfl rfl rfl fun G hp => ?_
      refine goR (r := ?_); and_intros <;> intros <;> try exact True.intro
      all_goals first | contradiction | omega | exact h.2.1 | exact h.2.2 | exact hs1.2.1 | exact hs1.2.2 | exact hkc.2.1 | exact hkc.2.2 | skip
      refine K.sl ?_
      refine subOwnLo (j := 1) (off := 2) tabOk rfl rfl rfl rfl rfl rfl (by omega) rfl (by decide) ?_
      refine go (r := ?_); and_intros <;> intros <;> try exact True.intro
      all_goals first | contradiction | omega | skip
      exact FinG.oI [some 0, some 2, some 3] rfl (ResV.cell (ds := [_, _, _, _, _, _, _]) rfl rfl rfl rfl rfl) (.agg (.keep rfl rfl rfl (.keep rfl rfl rfl (.keep rfl rfl rfl (.keep rfl rfl rfl (.keep rfl rfl rfl (.own rfl rfl rfl rfl (.own rfl rfl rfl rfl .nil))))))) .nil) (.obj rfl rfl rfl rfl rfl (.inr rfl) (.obj rfl rfl (still_ints _) rfl rfl (.inr rfl) (.obj rfl rfl (still_rows (fun _ => rfl) _) rfl rfl (.inr rfl) .nil))) rfl rfl
  rw [if_neg h0, if_neg h1, if_neg h2]
  simp only [StO, drV_0]
  refine FnP.of_body tabOk Try.func31 Try.ntmps31 rfl (by decide +kernel) (by simp) rfl rfl rfl fun G hp => ?_
  refine goR (r := ?_); and_intros <;> intros <;> try exact True.intro
  all_goals first | contradiction | omega | exact h.2.1 | exact h.2.2 | exact hs1.2.1 | exact hs1.2.2 | exact hkc.2.1 | exact hkc.2.2 | skip
  exact FinG.oI [some 0, some 2, some 3] rfl (ResV.cell (ds := [_, _, _, _, _, _, _]) rfl rfl rfl rfl rfl) (.agg (.keep rfl rfl rfl (.keep rfl rfl rfl (.keep rfl rfl rfl (.keep rfl rfl rfl (.keep rfl rfl rfl (.own rfl rfl rfl rfl (.own rfl rfl rfl rfl .nil))))))) .nil) (.obj rfl rfl rfl rfl rfl (.inr rfl) (.obj rfl rfl (still_ints _) rfl rfl (.inr rfl) (.obj rfl rfl (still_rows (fun _ => rfl) _) rfl rfl (.inr rfl) .nil))) rfl rfl⟩
end Go.Proofs.Ytpokokcgoebbhaa

/- What is drawn: any macroblock and code lengths. No condition. -/
namespace Go.Proofs.Ytpokokcgoebbhaa
open Go Go.Abs
set_option linter.unusedVariables false
set_option linter.unusedSimpArgs false
set_option maxRecDepth 100000
set_option maxHeartbeats 4000000
attribute [local irreducible] WpA WpL Rnd Blk Abs.Seq Abs.Fin Abs.FinG FnC FnG FnX FnP FinX Only
attribute [local irreducible] belowD onceD pickD modeD l8D l8AnyD optD anyD seedD headD headAnyD symL HasC blkD mbD mbAnyD

theorem mbAnyD_ok {l lens : List Int} {c : Cr} (h : CrOk l c) : CrOk l (mbAnyD l lens c).1 ∧ (mbAnyD l lens c).2.2.length ≤ 4 ∧ ∀ b ∈ (mbAnyD l lens c).2.2, b.2.length ≤ 64 := by
  obtain ⟨hm1, hm2, hm3⟩ := mbD_ok (lens := lens) h
  have hb := (belowD_ok ((mbD l lens c).2.2.length : Int) hm1).1
  have hs := (belowD_ok 14 hb).1
  have hp0 := (pickD_ok (xs := anyM) hs (by decide)).1
  have hp1 := (pickD_ok (xs := anyL) hs (by decide)).1
  have h4 : (mbD l lens c).2.2.length ≤ 4 := by cases hx : (mbD l lens c).2.1 <;> rw [hx] at hm2 <;> simp [nm8] at hm2 <;> omega
  have h64 : ∀ b ∈ (mbD l lens c).2.2, b.2.length ≤ 64 := fun b hb => by
    have := hm3 b hb
    rcases sz8_48 (mbD l lens c).2.1 with e | e <;> rw [e] at this <;> omega
  have hd : ∀ i : Nat, ((mbD l lens c).2.2.getD i default).2.length ≤ 64 := fun i => by
    rcases Nat.lt_or_ge i (mbD l lens c).2.2.length with hi | hi
    · exact h64 _ (by rw [List.getD_eq_getElem?_getD, List.getElem?_eq_getElem hi]; exact List.getElem_mem _)
    · rw [List.getD_eq_getElem?_getD, List.getElem?_eq_none hi]; exact Nat.zero_le _
  unfold mbAnyD
  split
  · refine ⟨hp0, by simp only [List.length_set]; exact h4, fun b hb => ?_⟩
    rcases List.mem_or_eq_of_mem_set hb with hb | hb
    · exact h64 b hb
    · rw [hb]; exact hd _
  split
  · refine ⟨hp1, by simp only [List.length_set]; exact h4, fun b hb => ?_⟩
    rcases List.mem_or_eq_of_mem_set hb with hb | hb
    · exact h64 b hb
    · rw [hb]; simp only [List.length_set]; exact hd _
  split
  · exact ⟨hs, h4, h64⟩
  split
  · exact ⟨hs, by simp only [List.length_take]; omega, fun b hb => h64 b (List.mem_of_mem_take hb)⟩
  · exact ⟨hs, h4, h64⟩
def mbOkD (l : List Int) : List Int × Mbk := ((l8AnyD l (newD l)).2, (mbAnyD l (l8AnyD l (newD l)).2 (l8AnyD l (newD l)).1).2)
end Go.Proofs.Ytpokokcgoebbhaa

/- Contracts: bits of macroblocks; bits of headers by the laws' own program. No condition. -/
namespace Go.Proofs.Ytpokokcgoebbhaa
open Go Go.Abs
set_option linter.unusedVariables false
set_option linter.unusedSimpArgs false
set_option maxRecDepth 100000
set_option maxHeartbeats 4000000
attribute [local irreducible] WpA WpL Rnd Blk Abs.Seq Abs.Fin Abs.FinG FnC FnG Only

/-! Macroblocks. -/
def mbK (e : Bool) (bs : List Blok) (lens : List Int) (k : Nat) : List Int := [bif e then 1 else 0] ++ (bs.take k).flatMap fun b => bkL b.1 b.2 lens (sz8 e)
def mbbL (e : Bool) (bs : List Blok) (lens : List Int) : List Int := if MbkOk e bs lens then mbK e bs lens bs.length else []
theorem mbK_len (e : Bool) (bs : List Blok) (lens : List Int) (k : Nat) : (mbK e bs lens k).length ≤ 1 + 8400 * k := by
  have h3 := fm_bd (fun b : Blok => bkL b.1 b.2 lens (sz8 e)) 8400 (fun b => bkL_len _ _ _ _) (bs.take k)
  have h4 : (bs.take k).length ≤ k := by simp; omega
  unfold mbK; simp only [List.length_append, List.length_cons, List.length_nil]; omega
theorem mbK_succ (e : Bool) (bs : List Blok) (lens : List Int) (k : Nat) (h : k < bs.length) : mbK e bs lens (k + 1) = mbK e bs lens k ++ bkL (bs.getD k default).1 (bs.getD k default).2 lens (sz8 e) := by
  unfold mbK; rw [fm_snoc _ _ k h, ← List.append_assoc]
theorem mbbL_len (e : Bool) (bs : List Blok) (lens : List Int) : (mbbL e bs lens).length ≤ 33601 := by
  unfold mbbL; split
  · rename_i h
    have h1 := mbK_len e bs lens bs.length
    have h2 := sz8_cases e
    have h3 := h.1
    omega
  · simp
abbrev BoxM (e : Bool) (bs : List Blok) : AObj := ⟨[B e, BkL bs], 0, 0, none⟩
instance MbBits_s : Con 40 (∀ (e : Bool) (bs : List Blok) (lens : List Int), bs.length ≤ 1099511627776 ∧ SmB 1099511627776 bs ∧ lens.length ≤ 1099511627776 → Fn 40 [.agg [B e, BkL bs], IL lens] [XI (mbbL e bs lens)] (.own 0 0 0 (mbbL e bs lens).length)) := ⟨fun e bs lens hl => by
  have hc := sz8_cases e
  refine FnC.of_body tabOk Try.func40 Try.ntmps40 rfl (by decide +kernel) (by simp) fun G => ?_
  by_cases h : MbkOk e bs lens
  · have he : mbbL e bs lens = mbK e bs lens bs.length := by rw [mbbL, if_pos h]
    have hz : [bif e then (1 : Int) else 0] = mbK e bs lens 0 := by simp [mbK]
    have hn := h.1
    refine go (r := ?_); and_intros <;> intros <;> try exact True.intro
    all_goals first | exact hl.2.1 | (exact absurd h (by assumption)) | skip
    refine WpA.loop (fun k : Nat => ⟨[(1, IL lens), (2, .ptr 0 0 0), (5, .own 1 0 0 (mbK e bs lens k).length), (6, I k)], [BoxM e bs, XI (mbK e bs lens k)]⟩) (fun k => k ≤ bs.length) (fun k => bs.length - k) 0 (by omega) (go (r := ?_)) (fun k hk => ?_)
    · trivial
    have hb := mbK_len e bs lens k
    have hsc := fun h => mbK_succ e bs lens k h
    have hbl := bkL_len (bs.getD k default).1 (bs.getD k default).2 lens (sz8 e)
    have hsl : k < bs.length → (mbK e bs lens (k + 1)).length = (mbK e bs lens k).length + (bkL (bs.getD k default).1 (bs.getD k default).2 lens (sz8 e)).length := fun h => by rw [hsc h]; simp only [List.length_append]
    have hg := fun h => smB_get hl.2.1 (k := k) h
    refine go (r := ?_); and_intros <;> intros <;> try exact True.intro
    all_goals first | (rw [hsc (by omega)]; done) | skip
    all_goals have ek : k = bs.length := by omega
    all_goals subst ek
    all_goals rw [he]
  · have he : mbbL e bs lens = [] := by rw [mbbL, if_neg h]
    refine go (r := ?_); and_intros <;> intros <;> try exact True.intro
    all_goals first | exact hl.2.1 | (exact absurd (by assumption) h) | (rw [he]; done) | (rw [he]; rfl)⟩
instance MbBits_c : Con 15 (∀ (e : Bool) (bs : List Blok) (lens : List Int), SmB 1099511627776 bs ∧ lens.length ≤ 1099511627776 ∧ MbkOk e bs lens → Fn 15 [.agg [B e, BkL bs], IL lens] [XI (mbbL e bs lens)] (.own 0 0 0 (mbbL e bs lens).length)) := ⟨fun e bs lens hl => by
  have hc := sz8_cases e
  have h := hl.2.2
  have he : mbbL e bs lens = mbK e bs lens bs.length := by rw [mbbL, if_pos h]
  have hz : [bif e then (1 : Int) else 0] = mbK e bs lens 0 := by simp [mbK]
  have hn := h.1
  refine FnC.of_body tabOk Try.func15 Try.ntmps15 rfl (by decide +kernel) (by simp) fun G => ?_
  refine go (r := ?_); and_intros <;> intros <;> try exact True.intro
  all_goals first | exact hl.1 | (exact absurd h (by assumption)) | skip
  refine WpA.loop (fun k : Nat => ⟨[(1, IL lens), (6, I (sz8 e)), (7, .own 1 0 0 (mbK e bs lens k).length), (25, BkL bs), (26, I bs.length), (27, I k)], [BoxM e bs, XI (mbK e bs lens k)]⟩) (fun k => k ≤ bs.length) (fun k => bs.length - k) 0 (by omega) (go (r := ?_)) (fun k hk => ?_)
  · trivial
  have hb := mbK_len e bs lens k
  have hsc := fun h => mbK_succ e bs lens k h
  have hbl := bkL_len (bs.getD k default).1 (bs.getD k default).2 lens (sz8 e)
  have hsl : k < bs.length → (mbK e bs lens (k + 1)).length = (mbK e bs lens k).length + (bkL (bs.getD k default).1 (bs.getD k default).2 lens (sz8 e)).length := fun h => by rw [hsc h]; simp only [List.length_append]
  have hg := fun h => smB_get hl.1 (k := k) h
  have hok := fun hk => ok_lv h (k := k) hk
  refine go (r := ?_); and_intros <;> intros <;> try exact True.intro
  all_goals first | (rw [hsc (by omega)]; done) | skip
  all_goals first | (have hk2 : k < bs.length := by omega
                     obtain ⟨a1, ⟨⟨a2, a3, a4⟩, a5, a6⟩, a7, a8, a9⟩ := hok hk2
                     first | assumption | omega | exact a6 ‹_›) | skip
  all_goals have ek : k = bs.length := by omega
  all_goals subst ek
  all_goals rw [he]⟩

/-! Headers. -/
def hdB (w h q : Int) (b d : Bool) : List Int := bitsL 183 8 ++ ueL (w / 8 - 1) ++ ueL (h / 8 - 1) ++ bitsL q 6 ++ [bif b then 1 else 0, bif d then 1 else 0]
def hdK (w h q : Int) (b d : Bool) (l : List Int) (k : Nat) : List Int := hdB w h q b d ++ (l.take k).flatMap fun n => bitsL n 3
def hdL (w h q : Int) (b d : Bool) (l : List Int) : List Int := if HdOk w h q l then hdK w h q b d l l.length else []
theorem hdB_len (w h q : Int) (b d : Bool) : (hdB w h q b d).length ≤ 226 := by
  have h1 := bitsL_len 183 8
  have h2 := ueL_len (w / 8 - 1)
  have h3 := ueL_len (h / 8 - 1)
  have h4 := bitsL_len q 6
  unfold hdB; simp only [List.length_append, List.length_cons, List.length_nil]; omega
theorem hdK_len (w h q : Int) (b d : Bool) (l : List Int) (k : Nat) : (hdK w h q b d l k).length ≤ 226 + 48 * k := by
  have h1 := hdB_len w h q b d
  have h3 := fm_bd (fun n : Int => bitsL n 3) 48 (fun n => bitsL_len _ _) (l.take k)
  have h4 : (l.take k).length ≤ k := by simp; omega
  unfold hdK; simp only [List.length_append]; omega
theorem hdK_succ (w h q : Int) (b d : Bool) (l : List Int) (k : Nat) (hk : k < l.length) : hdK w h q b d l (k + 1) = hdK w h q b d l k ++ bitsL (l.getD k 0) 3 := by
  unfold hdK; rw [fm_snoc _ _ k hk, ← List.append_assoc]; rfl
theorem hdL_len (w h q : Int) (b d : Bool) (l : List Int) : (hdL w h q b d l).length ≤ 600 := by
  unfold hdL; split
  · rename_i hh
    have h1 := hdK_len w h q b d l l.length
    have h6 := hh.2.2.2.1
    omega
  · simp
theorem in_getH {l : List Int} {lo hi : Int} (h : In l lo hi) {k : Nat} (hk : k < l.length) : lo ≤ l.getD k 0 ∧ l.getD k 0 ≤ hi := by
  have e : l.getD k 0 = l[k] := by simp [hk]
  rw [e]; exact in_mem h (List.getElem_mem _)
abbrev BoxH (w h q : Int) (b d : Bool) (l : List Int) : AObj := ⟨[I w, I h, I q, B b, B d, IL l], 0, 0, none⟩
instance HeaderBits_s : Con 39 (∀ (w h q : Int) (b d : Bool) (l : List Int), l.length ≤ 1099511627776 → Fn 39 [HdA w h q b d l] [XI (hdL w h q b d l)] (.own 0 0 0 (hdL w h q b d l).length)) := ⟨fun w h q b d l hl => by
  have h1 := bitsL_len 183 8
  have h2 := ueL_len (w / 8 - 1)
  have h3 := ueL_len (h / 8 - 1)
  have h4 := bitsL_len q 6
  refine FnC.of_body tabOk Try.func39 Try.ntmps39 rfl (by decide +kernel) (by simp) fun G => ?_
  by_cases h0 : HdOk w h q l
  · have he : hdL w h q b d l = hdK w h q b d l l.length := by rw [hdL, if_pos h0]
    have hz : bitsL 183 8 ++ ueL (w / 8 - 1) ++ ueL (h / 8 - 1) ++ bitsL q 6 ++ [bif b then 1 else 0, bif d then 1 else 0] = hdK w h q b d l 0 := by simp [hdK, hdB]
    have h6 := h0.2.2.2.1
    have hs := h0.1
    have hq := h0.2.1
    have hzl : (bitsL 183 8).length + (ueL (w / 8 - 1)).length + (ueL (h / 8 - 1)).length + (bitsL q 6).length + 2 = (hdK w h q b d l 0).length := by rw [← hz]; simp only [List.length_append, List.length_cons, List.length_nil]
    refine go (r := ?_); and_intros <;> intros <;> try exact True.intro
    all_goals first | (exact absurd h0 (by assumption)) | skip
    refine WpA.loop (fun k : Nat => ⟨[(1, .ptr 0 0 0), (3, .own 1 0 0 (hdK w h q b d l k).length), (4, I k)], [BoxH w h q b d l, XI (hdK w h q b d l k)]⟩) (fun k => k ≤ l.length) (fun k => l.length - k) 0 (by omega) (go (r := ?_)) (fun k hk => ?_)
    · trivial
    have hb := hdK_len w h q b d l k
    have hsc := fun hk => hdK_succ w h q b d l k hk
    have hbl := bitsL_len (l.getD k 0) 3
    have hin := fun hk => in_getH h0.2.2.1 (k := k) hk
    have hsl : k < l.length → (hdK w h q b d l (k + 1)).length = (hdK w h q b d l k).length + (bitsL (l.getD k 0) 3).length := fun hk => by rw [hsc hk]; simp only [List.length_append]
    refine go (r := ?_); and_intros <;> intros <;> try exact True.intro
    all_goals first | (rw [hsc (by omega)]; done) | skip
    all_goals have ek : k = l.length := by omega
    all_goals subst ek
    all_goals rw [he]
  · have he : hdL w h q b d l = [] := by rw [hdL, if_neg h0]
    refine go (r := ?_); and_intros <;> intros <;> try exact True.intro
    all_goals first | (exact absurd (by assumption) h0) | (rw [he]; done) | (rw [he]; rfl)⟩
end Go.Proofs.Ytpokokcgoebbhaa

/- Contract: bits of headers by the program. No condition. -/
namespace Go.Proofs.Ytpokokcgoebbhaa
open Go Go.Abs
set_option linter.unusedVariables false
set_option linter.unusedSimpArgs false
set_option maxRecDepth 100000
set_option maxHeartbeats 4000000
attribute [local irreducible] WpA WpL Rnd Blk Abs.Seq Abs.Fin Abs.FinG FnC FnG Only

attribute [local irreducible] bitsL ueL
theorem hd_ws {w h : Int} (hs : SidesOk w h) : (0 ≤ w / 8 - 1 ∧ w / 8 - 1 ≤ 65534) ∧ (0 ≤ h / 8 - 1 ∧ h / 8 - 1 ≤ 65534) := by
  have := hs; unfold SidesOk at this; omega
instance HeaderBits_c : Con 83 (∀ (w h q : Int) (b d : Bool) (l : List Int), l.length ≤ 1099511627776 ∧ HdOk w h q l → Fn 83 [HdA w h q b d l] [XI (hdL w h q b d l)] (.own 0 0 0 (hdL w h q b d l).length)) := ⟨fun w h q b d l hl => by
  have h1 := bitsL_len 183 8
  have h2 := ueL_len (w / 8 - 1)
  have h3 := ueL_len (h / 8 - 1)
  have h4 := bitsL_len q 6
  have h0 := hl.2
  have he : hdL w h q b d l = hdK w h q b d l l.length := by rw [hdL, if_pos h0]
  have h6 := h0.2.2.2.1
  have hs := h0.1
  have hq := h0.2.1
  have hws := hd_ws hs
  have hfl : [bitsL 183 8, ueL (w / 8 - 1), ueL (h / 8 - 1), bitsL q 6, [bif b then 1 else 0, bif d then 1 else 0]].flatten = hdK w h q b d l 0 := by simp [hdK, hdB]
  have hsm : [bitsL 183 8, ueL (w / 8 - 1), ueL (h / 8 - 1), bitsL q 6, [bif b then (1 : Int) else 0, bif d then 1 else 0]].length ≤ 1024 ∧ SmL 1048576 [bitsL 183 8, ueL (w / 8 - 1), ueL (h / 8 - 1), bitsL q 6, [bif b then (1 : Int) else 0, bif d then 1 else 0]] := ⟨by simp, smL_cons (by omega) (smL_cons (by omega) (smL_cons (by omega) (smL_cons (by omega) (smL_cons (by simp) (smL_nil _)))))⟩
  refine FnC.of_body tabOk Try.func83 Try.ntmps83 rfl (by decide +kernel) (by simp) fun G => ?_
  refine goR (r := ?_); and_intros <;> intros <;> try exact True.intro
  all_goals first | (exact absurd h0 (by assumption)) | skip
  apply WpA.regionQ1 21 5 mixed (by decide +kernel)
  · exact rfl
  · apply HeadQ.consF (V := .own 1 1 0 (bitsL 183 8).length) (.put 0 (XD (bitsL 183 8))) rfl
    · exact rfl
    · intro Tv Ov hc hp hd hk
      refine K.call ?_
      refine K.con (fun hcon => ?_)
      refine WpL.callF (hcon 183 8 (by decide)) snapA locA outA (cnt_some _ 0) rfl rfl (by decide) ?_
      rw [Nat.zero_add]
      apply WpL.putNil (p := 0)
      · exact hp 0 _ rfl
      · exact Nat.zero_le _
      · exact rfl
      · first | exact still_ints _ | exact still_rows (fun _ => rfl) _ | rfl
    · exact rfl
    · exact rfl
    apply HeadQ.consF .none rfl
    · exact rfl
    · exact in1
    · exact rfl
    · exact rfl
    apply HeadQ.consF .none rfl
    · exact rfl
    · exact in1
    · exact rfl
    · exact rfl
    apply HeadQ.consF .none rfl
    · exact rfl
    · exact in1
    · exact rfl
    · exact rfl
    apply HeadQ.consF .none rfl
    · exact rfl
    · exact in1
    · exact rfl
    · exact rfl
    apply HeadQ.consF (V := .own 2 1 0 (ueL (w / 8 - 1)).length) (.put 1 (XD (ueL (w / 8 - 1)))) rfl
    · exact rfl
    · intro Tv Ov hc hp hd hk
      refine K.call ?_
      refine K.con (fun hcon => ?_)
      refine WpL.callF (hcon (w / 8 - 1) hws.1) snapA locA outA (cnt_some _ 0) rfl rfl (by decide) ?_
      rw [Nat.zero_add]
      apply WpL.putNil (p := 1)
      · exact hp 1 _ rfl
      · exact Nat.zero_le _
      · exact rfl
      · first | exact still_ints _ | exact still_rows (fun _ => rfl) _ | rfl
    · exact rfl
    · exact rfl
    apply HeadQ.consF .none rfl
    · exact rfl
    · exact in1
    · exact rfl
    · exact rfl
    apply HeadQ.consF .none rfl
    · exact rfl
    · exact in1
    · exact rfl
    · exact rfl
    apply HeadQ.consF .none rfl
    · exact rfl
    · exact in1
    · exact rfl
    · exact rfl
    apply HeadQ.consF .none rfl
    · exact rfl
    · exact in1
    · exact rfl
    · exact rfl
    apply HeadQ.consF (V := .own 3 1 0 (ueL (h / 8 - 1)).length) (.put 2 (XD (ueL (h / 8 - 1)))) rfl
    · exact rfl
    · intro Tv Ov hc hp hd hk
      refine K.call ?_
      refine K.con (fun hcon => ?_)
      refine WpL.callF (hcon (h / 8 - 1) hws.2) snapA locA outA (cnt_some _ 0) rfl rfl (by decide) ?_
      rw [Nat.zero_add]
      apply WpL.putNil (p := 2)
      · exact hp 2 _ rfl
      · exact Nat.zero_le _
      · exact rfl
      · first | exact still_ints _ | exact still_rows (fun _ => rfl) _ | rfl
    · exact rfl
    · exact rfl
    apply HeadQ.consF .none rfl
    · exact rfl
    · exact in1
    · exact rfl
    · exact rfl
    apply HeadQ.consF .none rfl
    · exact rfl
    · exact in1
    · exact rfl
    · exact rfl
    apply HeadQ.consF (V := .own 4 1 0 (bitsL q 6).length) (.put 3 (XD (bitsL q 6))) rfl
    · exact rfl
    · intro Tv Ov hc hp hd hk
      refine K.call ?_
      refine K.con (fun hcon => ?_)
      refine WpL.callF (hcon q 6 (by omega)) snapA locA outA (cnt_some _ 0) rfl rfl (by decide) ?_
      rw [Nat.zero_add]
      apply WpL.putNil (p := 3)
      · exact hp 3 _ rfl
      · exact Nat.zero_le _
      · exact rfl
      · first | exact still_ints _ | exact still_rows (fun _ => rfl) _ | rfl
    · exact rfl
    · exact rfl
    apply HeadQ.consF .none rfl
    · exact rfl
    · exact in1
    · exact rfl
    · exact rfl
    apply HeadQ.consF .none rfl
    · exact rfl
    · exact in1
    · exact rfl
    · exact rfl
    apply HeadQ.consF .none rfl
    · exact rfl
    · exact in0
    · exact rfl
    · exact rfl
    apply HeadQ.consF .none rfl
    · exact rfl
    · exact in1
    · exact rfl
    · exact rfl
    apply HeadQ.consF .none rfl
    · exact rfl
    · exact in1
    · exact rfl
    · exact rfl
    apply HeadQ.consF .none rfl
    · exact rfl
    · exact in0
    · exact rfl
    · exact rfl
    apply HeadQ.consF (V := .own 5 1 0 2) (.put 4 (XD [bif b then 1 else 0, bif d then 1 else 0])) rfl
    · exact rfl
    · intro Tv Ov hc hp hd hk
      refine WpL.litInts tabOk rfl rfl rfl rfl rfl (by decide) (by rw [nid_len, Nat.zero_add]) (by decide) ?_
      apply WpL.putNil (p := 4)
      · exact hp 4 _ rfl
      · exact Nat.zero_le _
      · exact rfl
      · first | exact still_ints _ | exact still_rows (fun _ => rfl) _ | rfl
    · exact rfl
    · exact rfl
    exact HeadQ.nil
  · exact rfl
  · exact rfl
  · exact rfl
  · exact rfl
  · exact rfl
  · exact rfl
  · exact rfl
  · exact rfl
  generalize bitsL 183 8 = L1 at *
  generalize ueL (w / 8 - 1) = L2 at *
  generalize ueL (h / 8 - 1) = L3 at *
  generalize bitsL q 6 = L4 at *
  refine goR (r := ?_); and_intros <;> intros <;> try exact True.intro
  (apply WpL.nestLis (id := 11) (cs2 := [.fre 1 _ _, .fre 1 _ _, .fre 1 _ _, .fre 1 _ _, .fre 1 _ _]) (O3 := [BoxH w h q b d l, DD, DD, DD, DD, DD, deadO, deadO, deadO, deadO, deadO, ⟨rows liF [L1, L2, L3, L4, [bif b then 1 else 0, bif d then 1 else 0]], 0, 1, some 24⟩]) [0, 1, 2, 3, 4]
   · repeat' (first
       | exact NestC.nil
       | (apply NestC.consF
          · exact rfl
          · exact rfl
          · exact rfl
          · exact rfl
          · first | exact Nat.zero_le _ | exact Nat.le_of_ble_eq_true rfl
          · exact still_ints _
          · first | (simp; done) | rfl
          · exact rfl
          · exact rfl))
   · exact rfl
   · repeat' (first
       | exact ToLis.nil
       | (apply ToLis.cons
          · exact rfl
          · first | rfl | (simp; done)))
   · exact rfl)
  refine K.call ?_
  refine K.con (fun hcon => ?_)
  refine WpL.callF (hcon [L1, L2, L3, L4, [bif b then 1 else 0, bif d then 1 else 0]] hsm) snapA locA outA rfl rfl rfl (by decide) ?_
  clear hcon
  refine WpL.weak (Weak.fillF (j := 1) (O3 := [BoxH w h q b d l, ⟨ints [L1, L2, L3, L4, [bif b then 1 else 0, bif d then 1 else 0]].flatten, 3, 1, some 3⟩, DD, DD, DD, DD, deadO, deadO, deadO, deadO, deadO, ⟨rows liF [L1, L2, L3, L4, [bif b then 1 else 0, bif d then 1 else 0]], 0, 1, some 24⟩, deadO]) rfl rfl rfl (Nat.zero_le _) rfl (still_ints _) rfl rfl) ?_
  rw [hfl]
  refine go (r := ?_); and_intros <;> intros <;> try exact True.intro
  refine WpA.loop (fun k : Nat => ⟨[(3, .own 1 0 0 (hdK w h q b d l k).length), (33, IL l), (34, I l.length), (35, I k)], [BoxH w h q b d l, XI (hdK w h q b d l k)]⟩) (fun k => k ≤ l.length) (fun k => l.length - k) 0 (by omega) (go (r := ?_)) (fun k hk => ?_)
  · trivial
  have hb := hdK_len w h q b d l k
  have hsc := fun hk => hdK_succ w h q b d l k hk
  have hbl := bitsL_len (l.getD k 0) 3
  have hin := fun hk => in_getH h0.2.2.1 (k := k) hk
  have hsl : k < l.length → (hdK w h q b d l (k + 1)).length = (hdK w h q b d l k).length + (bitsL (l.getD k 0) 3).length := fun hk => by rw [hsc hk]; simp only [List.length_append]
  refine go (r := ?_); and_intros <;> intros <;> try exact True.intro
  all_goals first | (rw [hsc (by omega)]; done) | skip
  all_goals have ek : k = l.length := by omega
  all_goals subst ek
  all_goals rw [he]⟩

end Go.Proofs.Ytpokokcgoebbhaa

/- Contracts of the laws' own functions over headers, blocks, macroblocks and streams. No condition. -/
namespace Go.Proofs.Ytpokokcgoebbhaa
open Go Go.Abs
set_option linter.unusedVariables false
set_option linter.unusedSimpArgs false
set_option maxRecDepth 100000
set_option maxHeartbeats 4000000
attribute [local irreducible] WpA WpL Rnd Blk Abs.Seq Abs.Fin Abs.FinG FnC FnG Only

/-! Headers. -/
/-! Blocks. -/
def endB (k : Int) (l : List Blok) : Int := k + bw l
def markB : Int → List Blok → List Blok
  | _, [] => []
  | k, b :: l => (k, marksI (k + 1) b.2.length) :: markB (k + 1 + b.2.length) l
theorem bw_nil : bw [] = 0 := rfl
theorem bw_cons (b : Blok) (l : List Blok) : bw (b :: l) = bw l + 1 + b.2.length := by unfold bw; rw [List.map_cons, List.sum_cons, List.length_cons]; unfold bn; omega
@[simp] theorem markB_len : ∀ (l : List Blok) (k : Int), (markB k l).length = l.length
  | [], k => rfl
  | b :: l, k => by rw [markB, List.length_cons, List.length_cons, markB_len l]
/-! Macroblocks. -/
def markM : Int → List Mbk → List Mbk
  | _, [] => []
  | k, m :: l => (decide (k % 3 = 0), markB (k + 1) m.2) :: markM (k + 1 + bw m.2) l
theorem mw_nil : mw [] = 0 := rfl
theorem mw_cons (b : Mbk) (l : List Mbk) : mw (b :: l) = mw l + 1 + bw b.2 := by unfold mw; rw [List.map_cons, List.sum_cons, List.length_cons]; unfold mn; omega
@[simp] theorem markM_len : ∀ (l : List Mbk) (k : Int), (markM k l).length = l.length
  | [], k => rfl
  | b :: l, k => by rw [markM, List.length_cons, List.length_cons, markM_len l]
/-! Streams. -/
end Go.Proofs.Ytpokokcgoebbhaa
