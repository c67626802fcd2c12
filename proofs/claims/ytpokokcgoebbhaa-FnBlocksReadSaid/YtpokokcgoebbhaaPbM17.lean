/- Proved in this text: lemmas and contracts of functions that the claim uses (parts: Dm, AbsPc, Da, Da2, FMbL, RdHs, RdP, ParL, FMbX, ScrB, DrR, DrS, Res, Res2, Res3, ResX, Br0, BrX, AbsXg, AbsXk). No condition. -/
import Derived.Test.YtpokokcgoebbhaaPbM16
import Derived.Test.YtpokokcgoebbhaaPbM13
import Derived.Test.YtpokokcgoebbhaaPbM6
import Derived.Test.YtpokokcgoebbhaaPbM12
import Derived.Test.YtpokokcgoebbhaaPbM15
import Derived.Test.YtpokokcgoebbhaaPbM11
import Derived.Test.YtpokokcgoebbhaaPbM14
import Derived.Test.YtpokokcgoebbhaaPbM8

/- What is drawn: macroblocks. No condition. -/
namespace Go.Proofs.Ytpokokcgoebbhaa
open Go Go.Abs
set_option linter.unusedVariables false
set_option linter.unusedSimpArgs false
set_option maxRecDepth 100000
set_option maxHeartbeats 4000000
attribute [local irreducible] WpA WpL Rnd Blk Abs.Seq Abs.Fin Abs.FinG FnC FnG FnX FnP FinX Only
attribute [local irreducible] belowD onceD pickD modeD l8D l8AnyD optD anyD seedD headD headAnyD symL HasC blkD

theorem split345 {Ov : List AObj} {x y z : AObj} (h3 : Ov[3]? = some x) (h4 : Ov[4]? = some y) (h5 : Ov[5]? = some z) : ∃ a b c R, Ov = a :: b :: c :: x :: y :: z :: R := by
  match Ov, h3, h4, h5 with
  | a :: b :: c :: x' :: y' :: z' :: R, h3, h4, h5 => simp at h3 h4 h5; exact ⟨a, b, c, R, by rw [h3, h4, h5]⟩
  | [], h3, h4, h5 => simp at h5
  | [_], h3, h4, h5 => simp at h5
  | [_, _], h3, h4, h5 => simp at h5
  | [_, _, _], h3, h4, h5 => simp at h5
  | [_, _, _, _], h3, h4, h5 => simp at h5
  | [_, _, _, _, _], h3, h4, h5 => simp at h5
theorem sz_nm (e : Bool) : 64 / (sz8 e * sz8 e) = nm8 e ∧ 1 ≤ sz8 e * sz8 e ∧ sz8 e * sz8 e ≤ 64 ∧ 0 ≤ nm8 e ∧ nm8 e ≤ 4 := by cases e <;> decide
instance l23Mb_p : ConP 113 (∀ (v : Value) (l : List Int) (c : Cr) (lens : List Int), CrOk l c ∧ lens.length ≤ 1099511627776 → Pn 113 v l c [IL lens] (mbD l lens c).1 [BkO (mbD l lens c).2.2] (.agg [B (mbD l lens c).2.1, .own 1 0 0 (mbD l lens c).2.2.length])) := ⟨fun v l c lens hh => by
  have h := hh.1
  have hlens := hh.2
  have ho := onceD_ok 3 h
  have ho1 := ho.2.1
  have ho2 := ho.2.2
  have hsz := sz8_48 (onceD l c 3).2
  have hnm := sz_nm (onceD l c 3).2
  have hn1 := hnm.1
  have hn2 := hnm.2.1
  have hn3 := hnm.2.2.1
  have hn4 := hnm.2.2.2.1
  have hn5 := hnm.2.2.2.2
  have hmul := mul_in (a := sz8 (onceD l c 3).2) (b := sz8 (onceD l c 3).2) (by omega) (by omega)
  unfold mbD
  generalize hS : mbsK l lens _ _ _ = S
  generalize he : (onceD l c 3).2 = e at hS hsz hn1 hn2 hn3 hn4 hn5 hmul
  generalize hcc : (onceD l c 3).1 = c0 at hS ho ho1 ho2
  refine FnP.of_body tabOk Try.func113 Try.ntmps113 rfl (by decide +kernel) (by simp) rfl rfl rfl fun G hp => ?_
  refine goR (r := ?_); and_intros <;> intros <;> try exact True.intro
  all_goals first | contradiction | omega | exact h.2.1 | exact h.2.2 | skip
  rw [he, hcc]
  refine WpA.loop (fun x : Nat × Cr × List Blok => ⟨[(0, .ptr 0 0 0), (1, IL lens), (4, .ptr 1 0 0), (5, .ptr 2 0 0), (6, I (sz8 e)), (7, I (nm8 e - x.1))], [CurO v x.2.1, ⟨[B false, .nilS], 0, 0, none⟩, ⟨[B e, .own 3 0 0 x.2.2.length], 0, 0, none⟩, BkO x.2.2]⟩) (fun x => CrOk l x.2.1 ∧ (x.1 : Int) ≤ nm8 e ∧ x.1 + x.2.2.length ≤ 4 ∧ mbsK l lens (sz8 e) x.1 x.2 = S) (fun x => x.1) ((nm8 e).toNat, c0, []) ⟨ho, by simp only; omega, by simp only [List.length_nil]; omega, hS⟩ ?_ ?_
  · have ez : nm8 e - ((nm8 e).toNat : Nat) = 0 := by omega
    simp only [ez]
    exact Weak.nil1 (by first | (show 0 ≤ _; exact Nat.zero_le _) | (repeat' (first | exact RzT.nil | refine RzT.cons ?_ ?_ | exact Rz.nil | refine Rz.keep rfl rfl ?_ | refine Rz.own rfl rfl rfl rfl rfl (by first | rfl | omega | (simp; done)) ?_ | refine Rz.ptr rfl rfl rfl rfl ?_ | refine Rz.nilO rfl rfl rfl (by first | rfl | omega | (simp; done)) ?_ | refine Rz.agg ?_ ?_ | exact RzO.last rfl | (refine RzO.cons ?_ (.inr rfl) ?_) | exact Rz.same rfl (still_ints _) | exact Rz.same rfl (still_rows (fun _ => rfl) _)))) (by first | (show 0 ≤ _; exact Nat.zero_le _) | (repeat' (first | exact RzT.nil | refine RzT.cons ?_ ?_ | exact Rz.nil | refine Rz.keep rfl rfl ?_ | refine Rz.own rfl rfl rfl rfl rfl (by first | rfl | omega | (simp; done)) ?_ | refine Rz.ptr rfl rfl rfl rfl ?_ | refine Rz.nilO rfl rfl rfl (by first | rfl | omega | (simp; done)) ?_ | refine Rz.agg ?_ ?_ | exact RzO.last rfl | (refine RzO.cons ?_ (.inr rfl) ?_) | exact Rz.same rfl (still_ints _) | exact Rz.same rfl (still_rows (fun _ => rfl) _)))) (Nat.le_of_ble_eq_true rfl)
  rintro ⟨k, c1, bs⟩ ⟨hc1, hk, hkl, hK⟩
  try simp only at hc1 hk hkl hK ⊢
  by_cases hk0 : k = 0
  · subst hk0
    have hSe : (c1, bs) = S := hK
    subst hSe
    refine go (r := ?_); and_intros <;> intros <;> try exact True.intro
    all_goals trace_state
  · have hE : mbsK l lens (sz8 e) (k - 1) ((blkD l lens (sz8 e) c1).1, bs ++ [(blkD l lens (sz8 e) c1).2]) = S := by
      obtain ⟨j, rfl⟩ : ∃ j, k = j + 1 := ⟨k - 1, by omega⟩
      exact hK
    have hb := blkD_ok (lens := lens) hsz hc1
    refine goR (r := ?_); and_intros <;> intros <;> try exact True.intro
    all_goals first | contradiction | omega | skip
    apply WpA.regionSF (O := []) (Or := [CurO v c1, ⟨[B false, .nilS], 0, 0, none⟩, ⟨[B e, .own 3 0 0 bs.length], 0, 0, none⟩, BkO bs]) (O1 := [CurO v (blkD l lens (sz8 e) c1).1, ⟨[B false, .nilS], 0, 0, none⟩, ⟨[B e, .own 3 0 0 bs.length], 0, 0, none⟩, ⟨rows blkF (bs ++ [(blkD l lens (sz8 e) c1).2]), 1, 2, some 56⟩, ⟨[], 2, 0, none⟩, ⟨[I (blkD l lens (sz8 e) c1).2.1, .own 4 1 0 (blkD l lens (sz8 e) c1).2.2.length], 1, 2, some 56⟩, deadO, deadO]) 8 2 [2] [4] rfl mixed (by decide +kernel)
    · exact rfl
    · apply HeadS.consF .none rfl
      · exact rfl
      · exact rfl
      · intro Tv Ov hc hp' hd hk
        obtain ⟨A0, A1, R0, rfl⟩ := Abs.split3 (hk 2 rfl)
        exact in1
      · exact rfl
      · exact rfl
      apply HeadS.consF .none rfl
      · exact rfl
      · exact rfl
      · intro Tv Ov hc hp' hd hk
        obtain ⟨A0, A1, R0, rfl⟩ := Abs.split3 (hk 2 rfl)
        exact in1
      · exact rfl
      · exact rfl
      apply HeadS.consF .none rfl
      · exact rfl
      · exact rfl
      · exact in1
      · exact rfl
      · exact rfl
      apply HeadS.consF .none rfl
      · exact rfl
      · exact rfl
      · exact in1
      · exact rfl
      · exact rfl
      apply HeadS.consF .none rfl
      · exact rfl
      · exact rfl
      · exact in1
      · exact rfl
      · exact rfl
      apply HeadS.consF (V := .agg [I (blkD l lens (sz8 e) c1).2.1, .own 4 1 0 (blkD l lens (sz8 e) c1).2.2.length]) (.both 0 (CurO v (blkD l lens (sz8 e) c1).1) 4 ⟨ints (blkD l lens (sz8 e) c1).2.2, 1, 1, some 3⟩) rfl
      · exact rfl
      · exact rfl
      · intro Tv Ov hc hp' hd hk
        obtain ⟨R, rfl⟩ := split1 (hp' 0 _ rfl)
        have h3 := hp' 4 _ rfl
        refine K.call ?_
        refine K.conP (fun hcon => ?_)
        refine WpL.callP1N (A := []) (hcon v l c1 lens (sz8 e) ⟨hc1, hsz, hlens⟩) hp rfl handA handOA rfl (.cons rfl (.sc (.sc (.sc .nil))) .nil) outA rfl (by decide) ?_
        apply WpL.putV (O := []) (p := 4) (Ov := CurO v (blkD l lens (sz8 e) c1).1 :: R)
        · exact .agg (.keep rfl rfl (.own (by first | rfl | simp) .nil)) .nil
        · exact h3
        · exact Nat.le_of_ble_eq_true rfl
        · exact rfl
        · exact still_ints _
      · exact rfl
      · exact rfl
      apply HeadS.consF (V := .own 5 1 0 1) (.put 5 (⟨[I (blkD l lens (sz8 e) c1).2.1, .own 4 1 0 (blkD l lens (sz8 e) c1).2.2.length], 1, 2, some 56⟩)) rfl
      · exact rfl
      · exact rfl
      · intro Tv Ov hc hp' hd hk
        refine WpL.litF (cs := [I (blkD l lens (sz8 e) c1).2.1, .own 4 1 0 (blkD l lens (sz8 e) c1).2.2.length]) tabOk rfl rfl rfl rfl (by decide) (by rw [nid_len, Nat.zero_add]) (by decide) ?_
        apply WpL.putA (p := 5)
        · exact .own rfl .nil
        · exact hp' 5 _ rfl
        · exact Nat.le_of_ble_eq_true rfl
        · exact rfl
      · exact rfl
      · exact rfl
      apply HeadS.consF (V := .own 3 1 0 (bs.length + 1)) (⟨[(4, ⟨[], 2, 0, none⟩), (3, ⟨rows blkF (bs ++ [(blkD l lens (sz8 e) c1).2]), 1, 2, some 56⟩)], false⟩) rfl
      · exact rfl
      · exact rfl
      · intro Tv Ov hc hp' hd hk
        obtain ⟨a0, a1, a2, R, rfl⟩ := split345 (hp' 3 _ rfl) (hp' 4 _ rfl) (hd 6 _ 5 _ (by decide) rfl rfl rfl)
        refine K.bi ?_
        refine WpL.appBlk (j := 4) (c := (blkD l lens (sz8 e) c1).2.1) (lv := (blkD l lens (sz8 e) c1).2.2) tabOk rfl rfl rfl (Nat.le_of_ble_eq_true rfl) rfl rfl rfl rfl rfl (Nat.le_of_ble_eq_true rfl) rfl rfl (by omega) (by decide) ?_
        exact WpL.nil (Only.mk rfl)
      · exact rfl
      · exact rfl
      exact HeadS.nil
    · exact rfl
    · exact rfl
    · exact rfl
    · exact rfl
    · exact rfl
    · exact rfl
    · exact rfl
    refine go (r := ?_); and_intros <;> intros <;> try exact True.intro
    all_goals first | contradiction | omega | skip
    have e1 : nm8 e - ((k - 1 : Nat) : Int) = nm8 e - k + 1 := by omega
    refine Rnd.go (k - 1, (blkD l lens (sz8 e) c1).1, bs ++ [(blkD l lens (sz8 e) c1).2]) ⟨hb.1, by simp only; omega, by simp only [List.length_append, List.length_singleton]; omega, hE⟩ ?_ ?_
    · show k - 1 < k; omega
    · simp only [e1, List.length_append, List.length_singleton]
      exact Weak.mk (by repeat (first | exact ReT.nil | refine ReT.cons (.keep rfl rfl .nil) ?_ | refine ReT.cons (.own rfl rfl rfl rfl rfl rfl .nil) ?_ | refine ReT.cons (.ptr rfl rfl rfl rfl .nil) ?_ | refine ReT.cons (.keep (congrArg (fun z => AV.sc (Value.int .i64 z)) (by first | omega | (skip))) rfl .nil) ?_ | refine ReT.cons (.keep (congrArg (fun z : List UInt8 => AV.sc (Value.string ⟨z.toArray⟩)) (by skip)) rfl .nil) ?_ | refine ReT.cons (.own rfl rfl rfl rfl rfl (by first | omega | (simp; done) | (simp; omega)) .nil) ?_)) (by repeat (first
          | exact ReO.nil
          | refine ReO.cons (Re.same rfl rfl) (.inr rfl) ?_
          | refine ReO.cons (Re.same rfl (still_rows (fun _ => rfl) _)) (.inr rfl) ?_
          | refine ReO.cons (.keep rfl rfl (.own rfl rfl rfl rfl rfl rfl .nil)) (.inr rfl) ?_)) (Nat.le_of_ble_eq_true rfl)⟩
end Go.Proofs.Ytpokokcgoebbhaa

/- Less known of an object: the beginning of its cells; a slice within a row taken out and put back. No condition. -/
namespace Go.Abs
open Go
set_option linter.unusedVariables false
set_option linter.unusedSimpArgs false

theorem RelAt.preC {n m G S ι F T O a w} (hr : RelAt n m G S ι F ⟨T, O⟩ a w) {id : Nat} (j : Nat) {ob : AObj} (ho : O[id]? = some ob) : ∃ F', RelAt n m G S ι F' ⟨T, O.set id ⟨ob.cells.take j, ob.ep, ob.size, ob.ty⟩⟩ a w := by
  have hid : id < O.length := (List.getElem?_eq_some_iff.1 ho).1
  have hlat : Later S w ι O S w ι (O.set id ⟨ob.cells.take j, ob.ep, ob.size, ob.ty⟩) := ⟨fun _ h => h, fun _ _ => rfl, fun i oi hi => by
    by_cases e : i = id
    · subst e; rw [ho] at hi; cases hi
      exact ⟨⟨ob.cells.take j, ob.ep, ob.size, ob.ty⟩, by rw [List.getElem?_set_self hid], .inr ⟨rfl, rfl, rfl⟩⟩
    · exact ⟨oi, by rw [List.getElem?_set, if_neg (fun h => e h.symm)]; exact hi, .inr ⟨rfl, rfl, rfl⟩⟩⟩
  obtain ⟨g, hg, hsub, hnd⟩ : ∃ g, ObjAt S w ι (O.set id ⟨ob.cells.take j, ob.ep, ob.size, ob.ty⟩) ⟨ob.cells.take j, ob.ep, ob.size, ob.ty⟩ (ι id) g ∧ (∀ b ∈ g, b ∈ F id) ∧ g.Nodup := by
    have h := hr.objs.obj id _ ho
    have hn := hr.objs.nodup id hid
    unfold ObjAt at h ⊢
    cases hs : ι id with
    | none => rw [hs] at h; exact ⟨[], ⟨by simp [h.1], rfl⟩, by simp, by simp⟩
    | some p =>
      obtain ⟨b, k⟩ := p
      rw [hs] at h
      obtain ⟨cur, t, fz, f', h1, h2, h3, h4, h5, h6, h7⟩ := h
      obtain ⟨g, g1, g2, g3⟩ := h7.take j
      rw [h1] at hn ⊢
      obtain ⟨n1, n2⟩ := List.nodup_cons.1 hn
      have hle : (ob.cells.take j).length ≤ ob.cells.length := List.length_take_le' _ _
      refine ⟨b :: g, ⟨cur, t, fz, g, rfl, h2, h3, by show (ob.cells.take j).length ≤ k; omega, h5, h6, ?_⟩, fun c hc => ?_, List.nodup_cons.2 ⟨fun hc => n1 (g2 _ hc), g3 n2⟩⟩
      · have e2 : cur.toList.take (ob.cells.take j).length = (cur.toList.take ob.cells.length).take j := by
          rw [List.take_take, List.length_take]
        show LRel S w ι _ (ob.cells.take j) (cur.toList.take (ob.cells.take j).length) g
        rw [e2]; exact g1.mono hlat (fun _ _ => rfl)
      · rcases List.mem_cons.1 hc with hc | hc
        · exact hc ▸ List.mem_cons_self
        · exact List.mem_cons_of_mem _ (g2 _ hc)
  have hF : ∀ i b, b ∈ upd F id g i → b ∈ F i := fun i b hb => by
    by_cases e : i = id
    · subst e; rw [upd_same] at hb; exact hsub b hb
    · rw [upd_other _ _ e] at hb; exact hb
  refine ⟨upd F id g, hr.defers, hr.size, fun t => (hr.tmps t).mono hlat (by simp), ⟨fun i oi hi => ?_, fun i hi => ?_, fun i j' hi hj hij b hb hb' => hr.objs.apart i j' (by simpa using hi) (by simpa using hj) hij b (hF i b hb) (hF j' b hb')⟩, fun i hi b hb => hr.foot i (by simpa using hi) b (hF i b hb), hr.base, hr.stable, hr.keeps, hr.spots, by have := hr.mle; simpa using this⟩
  · have hi : (O.set id ⟨ob.cells.take j, ob.ep, ob.size, ob.ty⟩)[i]? = some oi := hi
    by_cases e : i = id
    · subst e
      rw [List.getElem?_set_self hid] at hi; cases hi
      rw [upd_same]; exact hg
    · rw [upd_other _ _ e]
      rw [List.getElem?_set, if_neg (fun h => e h.symm)] at hi
      have h := hr.objs.obj i oi hi
      unfold ObjAt at h ⊢
      cases hs : ι i with
      | none => rw [hs] at h; exact h
      | some p =>
        obtain ⟨b, k⟩ := p
        rw [hs] at h
        obtain ⟨cur, t, fz, f', h1, h2, h3, h4, h5, h6, h7⟩ := h
        exact ⟨cur, t, fz, f', h1, h2, h3, h4, h5, h6, h7.mono hlat (fun _ _ => rfl)⟩
  · by_cases e : i = id
    · subst e; rw [upd_same]; exact hnd
    · rw [upd_other _ _ e]; exact hr.objs.nodup i (by simpa using hi)
theorem Weak.preC {m id : Nat} {T : List (Nat × AV)} {O : List AObj} {ob : AObj} (j : Nat) (ho : O[id]? = some ob) : Weak m ⟨T, O⟩ ⟨T, O.set id ⟨ob.cells.take j, ob.ep, ob.size, ob.ty⟩⟩ := by
  rintro n G a w ⟨S, ι, F, hr⟩
  obtain ⟨F', h⟩ := hr.preC j ho
  exact ⟨S, ι, F', h⟩
theorem rows_take {α : Type} {f : α → List AV} {k : Nat} (hk : ∀ a, (f a).length = k) : ∀ (xs : List α) (j : Nat), (rows f xs).take (j * k) = rows f (xs.take j)
  | [], j => by simp [rows]
  | x :: xs, 0 => by simp [rows]
  | x :: xs, j + 1 => by
    have ih := rows_take hk xs j
    have e : (j + 1) * k = (f x).length + j * k := by rw [hk, Nat.add_mul, Nat.one_mul, Nat.add_comm]
    rw [e]
    simp only [rows, List.flatMap_cons, List.take_succ_cons] at ih ⊢
    rw [List.take_append, Nat.add_sub_cancel_left, List.take_of_length_le (by omega), ih]
theorem Weak.preRows {m id k ep sz : Nat} {te : Option TypeId} {T : List (Nat × AV)} {O : List AObj} {α : Type} {f : α → List AV} {xs : List α} (j : Nat) (hk : ∀ a, (f a).length = k) (ho : O[id]? = some ⟨rows f xs, ep, sz, te⟩) : Weak m ⟨T, O⟩ ⟨T, O.set id ⟨rows f (xs.take j), ep, sz, te⟩⟩ := by
  have := Weak.preC (m := m) (T := T) (j * k) ho
  rw [rows_take hk] at this
  exact this
/-- A slice within a row becomes an object. -/
theorem Weak.unnestRow {id i k o len s ep sz j m : Nat} {T : List (Nat × AV)} {O : List AObj} {te : Option TypeId} {α : Type} [Inhabited α] {f : α → List AV} {xs : List α} {cs : List AV} {σ' : St} (ho : O[id]? = some ⟨rows f xs, ep, sz, te⟩) (hk : ∀ a, (f a).length = k) (hi : i < xs.length) (hv : (f (xs.getD i default))[o]? = some (.fre s len cs)) (hj : O.length = j)
    (h : Weak m ⟨T, O.set id ⟨(rows f xs).set (i * k + o) (.own j 0 0 len), ep, sz, te⟩ ++ [⟨cs, 0, s, none⟩]⟩ σ') : Weak m ⟨T, O⟩ σ' := by
  subst hj
  refine Weak.trans ?_ h
  rintro n' G' a w ⟨S, ι, F, hr⟩
  obtain ⟨ι', F', hr'⟩ := hr.unnest ho (rows_get hk hi hv)
  exact ⟨S, ι', F', hr'⟩
end Go.Abs

/- What is drawn: any macroblock. No condition. -/
namespace Go.Proofs.Ytpokokcgoebbhaa
open Go Go.Abs
set_option linter.unusedVariables false
set_option linter.unusedSimpArgs false
set_option maxRecDepth 100000
set_option maxHeartbeats 4000000
attribute [local irreducible] WpA WpL Rnd Blk Abs.Seq Abs.Fin Abs.FinG FnC FnG FnX FnP FinX Only
attribute [local irreducible] belowD onceD pickD modeD l8D l8AnyD optD anyD seedD headD headAnyD symL HasC blkD mbD

abbrev anyM : List Int := [-1, 6, 2]
abbrev anyL : List Int := [16383, 16384, -16384]
def mbAnyD (l lens : List Int) (c : Cr) : Cr × Mbk :=
  if (belowD l (belowD l (mbD l lens c).1 (mbD l lens c).2.2.length).1 14).2 = 0 then ((pickD l (belowD l (belowD l (mbD l lens c).1 (mbD l lens c).2.2.length).1 14).1 anyM).1, ((mbD l lens c).2.1, (mbD l lens c).2.2.set (belowD l (mbD l lens c).1 (mbD l lens c).2.2.length).2.toNat ((pickD l (belowD l (belowD l (mbD l lens c).1 (mbD l lens c).2.2.length).1 14).1 anyM).2, ((mbD l lens c).2.2.getD (belowD l (mbD l lens c).1 (mbD l lens c).2.2.length).2.toNat default).2)))
  else if (belowD l (belowD l (mbD l lens c).1 (mbD l lens c).2.2.length).1 14).2 = 1 then ((pickD l (belowD l (belowD l (mbD l lens c).1 (mbD l lens c).2.2.length).1 14).1 anyL).1, ((mbD l lens c).2.1, (mbD l lens c).2.2.set (belowD l (mbD l lens c).1 (mbD l lens c).2.2.length).2.toNat (((mbD l lens c).2.2.getD (belowD l (mbD l lens c).1 (mbD l lens c).2.2.length).2.toNat default).1, ((mbD l lens c).2.2.getD (belowD l (mbD l lens c).1 (mbD l lens c).2.2.length).2.toNat default).2.set 0 (pickD l (belowD l (belowD l (mbD l lens c).1 (mbD l lens c).2.2.length).1 14).1 anyL).2)))
  else if (belowD l (belowD l (mbD l lens c).1 (mbD l lens c).2.2.length).1 14).2 = 2 then ((belowD l (belowD l (mbD l lens c).1 (mbD l lens c).2.2.length).1 14).1, (!(mbD l lens c).2.1, (mbD l lens c).2.2))
  else if (belowD l (belowD l (mbD l lens c).1 (mbD l lens c).2.2.length).1 14).2 = 3 then ((belowD l (belowD l (mbD l lens c).1 (mbD l lens c).2.2.length).1 14).1, ((mbD l lens c).2.1, (mbD l lens c).2.2.take (belowD l (mbD l lens c).1 (mbD l lens c).2.2.length).2.toNat))
  else ((belowD l (belowD l (mbD l lens c).1 (mbD l lens c).2.2.length).1 14).1, ((mbD l lens c).2.1, (mbD l lens c).2.2))
theorem sp5 {Ov : List AObj} {e : AObj} (h : Ov[4]? = some e) : ∃ a b c d R, Ov = a :: b :: c :: d :: e :: R := by
  match Ov, h with
  | a :: b :: c :: d :: f :: R, h => exact ⟨a, b, c, d, R, by simp at h; rw [h]⟩
instance l23AnyMb_p : ConP 75 (∀ (v : Value) (l : List Int) (c : Cr) (lens : List Int), CrOk l c ∧ lens.length ≤ 1099511627776 → Pn 75 v l c [IL lens] (mbAnyD l lens c).1 [BkO (mbAnyD l lens c).2.2] (.agg [B (mbAnyD l lens c).2.1, .own 1 0 0 (mbAnyD l lens c).2.2.length])) := ⟨fun v l c lens hh => by
  have h := hh.1
  have hlens := hh.2
  have hm := mbD_ok (lens := lens) h
  obtain ⟨hm1, hm2, hm3⟩ := hm
  have hnm : nm8 (mbD l lens c).2.1 = 1 ∨ nm8 (mbD l lens c).2.1 = 4 := by cases (mbD l lens c).2.1 <;> simp [nm8]
  have hb := belowD_ok ((mbD l lens c).2.2.length : Int) hm1
  have hb0 := hb.2.1
  have hb1 := hb.2.2.1 (by omega)
  have hbc := hb.1
  have hs := belowD_ok 14 hbc
  have hs0 := hs.2.1
  have hs1 := hs.2.2.1 (by decide)
  have hsc := hs.1
  have hlv : 0 < ((mbD l lens c).2.2.getD (belowD l (mbD l lens c).1 (mbD l lens c).2.2.length).2.toNat default).2.length := by
    have hq := hm3 ((mbD l lens c).2.2.getD (belowD l (mbD l lens c).1 (mbD l lens c).2.2.length).2.toNat default) (by rw [List.getD_eq_getElem?_getD, List.getElem?_eq_getElem (show (belowD l (mbD l lens c).1 (mbD l lens c).2.2.length).2.toNat < (mbD l lens c).2.2.length by omega)]; exact List.getElem_mem _)
    have h48 := sz8_48 (mbD l lens c).2.1
    rcases h48 with h4 | h4 <;> rw [h4] at hq <;> omega
  unfold mbAnyD
  by_cases h0 : (belowD l (belowD l (mbD l lens c).1 (mbD l lens c).2.2.length).1 14).2 = 0
  · rw [if_pos h0]
    refine FnP.of_body tabOk Try.func75 Try.ntmps75 rfl (by decide +kernel) (by simp) rfl rfl rfl fun G hp => ?_
    refine goR (r := ?_); and_intros <;> intros <;> try exact True.intro
    all_goals first | contradiction | exact hm1.2.1 | exact hm1.2.2 | exact hbc.2.1 | exact hbc.2.2 | omega | skip
    apply WpA.regionSF (O := []) (Or := [CurO v (belowD l (belowD l (mbD l lens c).1 (mbD l lens c).2.2.length).1 14).1, ⟨[B false, .nilS], 0, 0, none⟩, ⟨rows blkF (mbD l lens c).2.2, 0, 2, some 56⟩, ⟨[B (mbD l lens c).2.1, .own 2 0 0 (mbD l lens c).2.2.length], 0, 0, none⟩]) (O1 := [CurO v (pickD l (belowD l (belowD l (mbD l lens c).1 (mbD l lens c).2.2.length).1 14).1 anyM).1, ⟨[B false, .nilS], 0, 0, none⟩, ⟨rows blkF (mbD l lens c).2.2, 0, 2, some 56⟩, ⟨[B (mbD l lens c).2.1, .own 2 0 0 (mbD l lens c).2.2.length], 0, 0, none⟩, ⟨ints anyM, 1, 1, some 3⟩, deadO]) 8 1 [2, 3] [] rfl mixed (by decide +kernel)
    · exact rfl
    · apply HeadS.consF .none rfl
      · exact rfl
      · exact rfl
      · intro Tv Ov hc hp' hd hk
        obtain ⟨x0, x1, x2, R, rfl⟩ := Abs.split4 (hk 3 rfl)
        exact in1
      · exact rfl
      · exact rfl
      apply HeadS.consF .none rfl
      · exact rfl
      · exact rfl
      · intro Tv Ov hc hp' hd hk
        obtain ⟨x0, x1, x2, R, rfl⟩ := Abs.split4 (hk 3 rfl)
        exact in1
      · exact rfl
      · exact rfl
      apply HeadS.consF .none rfl
      · exact rfl
      · exact rfl
      · exact in1
      · exact rfl
      · exact rfl
      apply HeadS.consF .none rfl
      · exact rfl
      · exact rfl
      · exact in1
      · exact rfl
      · exact rfl
      apply HeadS.consF (V := .own 4 1 0 3) (.put 4 (⟨ints anyM, 1, 1, some 3⟩)) rfl
      · exact rfl
      · exact rfl
      · intro Tv Ov hc hp' hd hk
        refine WpL.litInts tabOk rfl rfl rfl rfl rfl (by decide) (by rw [nid_len, Nat.zero_add]) (by decide) ?_
        apply WpL.putNil (p := 4)
        · exact hp' 4 _ rfl
        · exact Nat.le_of_ble_eq_true rfl
        · exact rfl
        · first | exact still_ints _ | exact still_rows (fun _ => rfl) _ | rfl
      · exact rfl
      · exact rfl
      apply HeadS.consF (V := I (pickD l (belowD l (belowD l (mbD l lens c).1 (mbD l lens c).2.2.length).1 14).1 anyM).2) (.step 0 (CurO v (pickD l (belowD l (belowD l (mbD l lens c).1 (mbD l lens c).2.2.length).1 14).1 anyM).1)) rfl
      · exact rfl
      · exact rfl
      · intro Tv Ov hc hp' hd hk
        obtain ⟨a1, a2, a3, R, rfl⟩ := split04 (hp' 0 _ rfl) (hd 4 _ 4 _ (by decide) rfl rfl rfl)
        refine K.call ?_
        refine K.conP (fun hcon => ?_)
        refine WpL.callP1 (hcon v l (belowD l (belowD l (mbD l lens c).1 (mbD l lens c).2.2.length).1 14).1 anyM ⟨hsc, by decide, by decide⟩) hp handA handOA rfl (.cons rfl (.sc (.sc (.sc .nil))) .nil) (by decide) ?_
        exact WpL.nil (Only.mk rfl)
      · exact rfl
      · exact rfl
      apply HeadS.consF .none rfl
      · exact rfl
      · exact rfl
      · intro Tv Ov hc hp' hd hk
        obtain ⟨A0, A1, R0, rfl⟩ := Abs.split3 (hk 2 rfl)
        exact in1
      · exact rfl
      · exact rfl
      apply HeadS.consF .none rfl
      · exact rfl
      · exact rfl
      · intro Tv Ov hc hp' hd hk
        obtain ⟨A0, A1, R0, rfl⟩ := Abs.split3 (hk 2 rfl)
        exact in1
      · exact rfl
      · exact rfl
      exact HeadS.nil
    · exact rfl
    · exact rfl
    · exact rfl
    · exact rfl
    · exact rfl
    · exact rfl
    · exact rfl
    refine go (r := ?_); and_intros <;> intros <;> try exact True.intro
    all_goals first | contradiction | exact hsc.2.1 | exact hsc.2.2 | omega | skip
    exact .obj rfl (rows_set (k := 2) (o := 0) (fun _ => rfl) (by omega) (by decide) rfl) (still_rows (fun _ => rfl) _) rfl rfl (.inr rfl) .nil
  by_cases h1 : (belowD l (belowD l (mbD l lens c).1 (mbD l lens c).2.2.length).1 14).2 = 1
  · rw [if_neg h0, if_pos h1]
    refine FnP.of_body tabOk Try.func75 Try.ntmps75 rfl (by decide +kernel) (by simp) rfl rfl rfl fun G hp => ?_
    refine goR (r := ?_); and_intros <;> intros <;> try exact True.intro
    all_goals first | contradiction | exact hm1.2.1 | exact hm1.2.2 | exact hbc.2.1 | exact hbc.2.2 | omega | skip
    refine WpA.weak (Weak.unnestRow (f := blkF) (id := 2) (i := (belowD l (mbD l lens c).1 (mbD l lens c).2.2.length).2.toNat) (k := 2) (o := 1) (j := 4) (len := ((mbD l lens c).2.2.getD (belowD l (mbD l lens c).1 (mbD l lens c).2.2.length).2.toNat default).2.length) (s := 1) (cs := ints ((mbD l lens c).2.2.getD (belowD l (mbD l lens c).1 (mbD l lens c).2.2.length).2.toNat default).2) rfl (fun _ => rfl) (by omega) rfl rfl (fun _ _ _ _ h => h)) ?_
    apply WpA.regionSF (O := []) (Or := [CurO v (belowD l (belowD l (mbD l lens c).1 (mbD l lens c).2.2.length).1 14).1, ⟨[B false, .nilS], 0, 0, none⟩, ⟨(rows blkF (mbD l lens c).2.2).set ((belowD l (mbD l lens c).1 (mbD l lens c).2.2.length).2.toNat * 2 + 1) (.own 4 0 0 ((mbD l lens c).2.2.getD (belowD l (mbD l lens c).1 (mbD l lens c).2.2.length).2.toNat default).2.length), 0, 2, some 56⟩, ⟨[B (mbD l lens c).2.1, .own 2 0 0 (mbD l lens c).2.2.length], 0, 0, none⟩, ⟨ints ((mbD l lens c).2.2.getD (belowD l (mbD l lens c).1 (mbD l lens c).2.2.length).2.toNat default).2, 0, 1, none⟩]) (O1 := [CurO v (pickD l (belowD l (belowD l (mbD l lens c).1 (mbD l lens c).2.2.length).1 14).1 anyL).1, ⟨[B false, .nilS], 0, 0, none⟩, ⟨(rows blkF (mbD l lens c).2.2).set ((belowD l (mbD l lens c).1 (mbD l lens c).2.2.length).2.toNat * 2 + 1) (.own 4 0 0 ((mbD l lens c).2.2.getD (belowD l (mbD l lens c).1 (mbD l lens c).2.2.length).2.toNat default).2.length), 0, 2, some 56⟩, ⟨[B (mbD l lens c).2.1, .own 2 0 0 (mbD l lens c).2.2.length], 0, 0, none⟩, ⟨ints ((mbD l lens c).2.2.getD (belowD l (mbD l lens c).1 (mbD l lens c).2.2.length).2.toNat default).2, 0, 1, none⟩, ⟨ints anyL, 1, 1, some 3⟩, deadO]) 10 1 [2, 3, 4] [] rfl mixed (by decide +kernel)
    · exact rfl
    · apply HeadS.consF .none rfl
      · exact rfl
      · exact rfl
      · intro Tv Ov hc hp' hd hk
        obtain ⟨x0, x1, x2, R, rfl⟩ := Abs.split4 (hk 3 rfl)
        exact in1
      · exact rfl
      · exact rfl
      apply HeadS.consF .none rfl
      · exact rfl
      · exact rfl
      · intro Tv Ov hc hp' hd hk
        obtain ⟨x0, x1, x2, R, rfl⟩ := Abs.split4 (hk 3 rfl)
        exact in1
      · exact rfl
      · exact rfl
      apply HeadS.consF .none rfl
      · exact rfl
      · exact rfl
      · exact in1
      · exact rfl
      · exact rfl
      apply HeadS.consF .none rfl
      · exact rfl
      · exact rfl
      · intro Tv Ov hc hp' hd hk
        obtain ⟨A0, A1, R0, rfl⟩ := Abs.split3 (hk 2 rfl)
        exact in1
      · exact rfl
      · exact rfl
      apply HeadS.consF .none rfl
      · exact rfl
      · exact rfl
      · intro Tv Ov hc hp' hd hk
        obtain ⟨A0, A1, R0, rfl⟩ := Abs.split3 (hk 2 rfl)
        exact in1
      · exact rfl
      · exact rfl
      apply HeadS.consF (V := .own 4 0 0 ((mbD l lens c).2.2.getD (belowD l (mbD l lens c).1 (mbD l lens c).2.2.length).2.toNat default).2.length) .none rfl
      · exact rfl
      · exact rfl
      · intro Tv Ov hc hp' hd hk
        obtain ⟨A0, A1, R0, rfl⟩ := Abs.split3 (hk 2 rfl)
        refine K.ld ?_
        refine WpL.load1 tabOk rfl rfl rfl (V := .own 4 0 0 ((mbD l lens c).2.2.getD (belowD l (mbD l lens c).1 (mbD l lens c).2.2.length).2.toNat default).2.length) ?_ rfl (by decide) ?_
        · have hlr : (rows blkF (mbD l lens c).2.2).length = (mbD l lens c).2.2.length * 2 := rows_len (f := blkF) (k := 2) (fun _ => rfl) _
          simp only [Nat.zero_add]
          rw [List.getElem?_set_self (by omega)]
        · exact WpL.nil (Only.mk rfl)
      · exact rfl
      · exact rfl
      apply HeadS.consF .none rfl
      · exact rfl
      · exact rfl
      · exact in1
      · exact rfl
      · exact rfl
      apply HeadS.consF (V := .own 5 1 0 3) (.put 5 (⟨ints anyL, 1, 1, some 3⟩)) rfl
      · exact rfl
      · exact rfl
      · intro Tv Ov hc hp' hd hk
        refine WpL.litInts tabOk rfl rfl rfl rfl rfl (by decide) (by rw [nid_len, Nat.zero_add]) (by decide) ?_
        apply WpL.putNil (p := 5)
        · exact hp' 5 _ rfl
        · exact Nat.le_of_ble_eq_true rfl
        · exact rfl
        · first | exact still_ints _ | exact still_rows (fun _ => rfl) _ | rfl
      · exact rfl
      · exact rfl
      apply HeadS.consF (V := I (pickD l (belowD l (belowD l (mbD l lens c).1 (mbD l lens c).2.2.length).1 14).1 anyL).2) (.step 0 (CurO v (pickD l (belowD l (belowD l (mbD l lens c).1 (mbD l lens c).2.2.length).1 14).1 anyL).1)) rfl
      · exact rfl
      · exact rfl
      · intro Tv Ov hc hp' hd hk
        obtain ⟨a1, a2, a3, a4, R, rfl⟩ := split05 (hp' 0 _ rfl) (hd 7 _ 5 _ (by decide) rfl rfl rfl)
        refine K.call ?_
        refine K.conP (fun hcon => ?_)
        refine WpL.callP1 (hcon v l (belowD l (belowD l (mbD l lens c).1 (mbD l lens c).2.2.length).1 14).1 anyL ⟨hsc, by decide, by decide⟩) hp handA handOA rfl (.cons rfl (.sc (.sc (.sc .nil))) .nil) (by decide) ?_
        exact WpL.nil (Only.mk rfl)
      · exact rfl
      · exact rfl
      apply HeadS.consF (V := .ptr 4 0 0) .none rfl
      · exact rfl
      · exact rfl
      · intro Tv Ov hc hp' hd hk
        obtain ⟨x0, x1, x2, x3, R, rfl⟩ := sp5 (hk 4 rfl)
        exact in1
      · exact rfl
      · exact rfl
      exact HeadS.nil
    · exact rfl
    · exact rfl
    · exact rfl
    · exact rfl
    · exact rfl
    · exact rfl
    · exact rfl
    refine K.st ?_
    refine WpL.storeInts tabOk rfl rfl rfl rfl rfl (by omega) ?_
    refine WpL.weak (Weak.nestBlk (id := 2) (j := 4) (i := (belowD l (mbD l lens c).1 (mbD l lens c).2.2.length).2.toNat) (lv := ((mbD l lens c).2.2.getD (belowD l (mbD l lens c).1 (mbD l lens c).2.2.length).2.toNat default).2.set 0 (pickD l (belowD l (belowD l (mbD l lens c).1 (mbD l lens c).2.2.length).1 14).1 anyL).2) rfl rfl rfl (by decide) (by simp only [List.length_set]) (by omega) (fun _ _ _ _ h => h)) ?_
    refine go (r := ?_); and_intros <;> intros <;> try exact True.intro
    all_goals first | contradiction | exact hsc.2.1 | exact hsc.2.2 | omega | trace_state
  by_cases h2 : (belowD l (belowD l (mbD l lens c).1 (mbD l lens c).2.2.length).1 14).2 = 2
  · rw [if_neg h0, if_neg h1, if_pos h2]
    refine FnP.of_body tabOk Try.func75 Try.ntmps75 rfl (by decide +kernel) (by simp) rfl rfl rfl fun G hp => ?_
    refine goR (r := ?_); and_intros <;> intros <;> try exact True.intro
    all_goals first | contradiction | exact hm1.2.1 | exact hm1.2.2 | exact hbc.2.1 | exact hbc.2.2 | omega | skip
    all_goals trace_state
  by_cases h3 : (belowD l (belowD l (mbD l lens c).1 (mbD l lens c).2.2.length).1 14).2 = 3
  · rw [if_neg h0, if_neg h1, if_neg h2, if_pos h3]
    obtain ⟨kn, hkn⟩ : ∃ kn : Nat, (belowD l (mbD l lens c).1 (mbD l lens c).2.2.length).2 = kn := ⟨(belowD l (mbD l lens c).1 (mbD l lens c).2.2.length).2.toNat, by omega⟩
    have e5 : ((mbD l lens c).2.2.take (belowD l (mbD l lens c).1 (mbD l lens c).2.2.length).2.toNat).length = kn := by rw [List.length_take]; omega
    simp only [e5]
    refine FnP.of_body tabOk Try.func75 Try.ntmps75 rfl (by decide +kernel) (by simp) rfl rfl rfl fun G hp => ?_
    refine goR (r := ?_); and_intros <;> intros <;> try exact True.intro
    all_goals first | contradiction | exact hm1.2.1 | exact hm1.2.2 | exact hbc.2.1 | exact hbc.2.2 | omega | skip
    refine K.sl ?_
    refine WpL.subOwn (j := kn) tabOk rfl rfl rfl rfl (by simp only [hkn]; rfl) (by omega) (by decide) ?_
    refine WpL.weak (Weak.preRows (f := blkF) (k := 2) (id := 2) (belowD l (mbD l lens c).1 (mbD l lens c).2.2.length).2.toNat (fun _ => rfl) rfl) ?_
    refine go (r := ?_); and_intros <;> intros <;> try exact True.intro
    all_goals first | contradiction | exact hsc.2.1 | exact hsc.2.2 | omega | trace_state
  rw [if_neg h0, if_neg h1, if_neg h2, if_neg h3]
  refine FnP.of_body tabOk Try.func75 Try.ntmps75 rfl (by decide +kernel) (by simp) rfl rfl rfl fun G hp => ?_
  refine goR (r := ?_); and_intros <;> intros <;> try exact True.intro
  all_goals first | contradiction | exact hm1.2.1 | exact hm1.2.2 | exact hbc.2.1 | exact hbc.2.2 | omega | skip
  all_goals trace_state⟩
end Go.Proofs.Ytpokokcgoebbhaa

/- What is drawn: any macroblock and code lengths. No condition. -/
namespace Go.Proofs.Ytpokokcgoebbhaa
open Go Go.Abs
set_option linter.unusedVariables false
set_option linter.unusedSimpArgs false
set_option maxRecDepth 100000
set_option maxHeartbeats 4000000
attribute [local irreducible] WpA WpL Rnd Blk Abs.Seq Abs.Fin Abs.FinG FnC FnG FnX FnP FinX Only
attribute [local irreducible] belowD onceD pickD modeD l8D l8AnyD optD anyD seedD headD headAnyD symL HasC blkD mbD mbAnyD

theorem mbAnyD_ok {l lens : List Int} {c : Cr} (h : CrOk l c) : CrOk l (mbAnyD l lens c).1 ∧ (mbAnyD l lens c).2.2.length ≤ 4 ∧ ∀ b ∈ (mbAnyD l lens c).2.2, b.2.length ≤ 64 := by
  obtain ⟨hm1, hm2, hm3⟩ := mbD_ok (lens := lens) h
  have hb := (belowD_ok ((mbD l lens c).2.2.length : Int) hm1).1
  have hs := (belowD_ok 14 hb).1
  have hp0 := (pickD_ok (xs := anyM) hs (by decide)).1
  have hp1 := (pickD_ok (xs := anyL) hs (by decide)).1
  have h4 : (mbD l lens c).2.2.length ≤ 4 := by cases hx : (mbD l lens c).2.1 <;> rw [hx] at hm2 <;> simp [nm8] at hm2 <;> omega
  have h64 : ∀ b ∈ (mbD l lens c).2.2, b.2.length ≤ 64 := fun b hb => by
    have := hm3 b hb
    rcases sz8_48 (mbD l lens c).2.1 with e | e <;> rw [e] at this <;> omega
  have hd : ∀ i : Nat, ((mbD l lens c).2.2.getD i default).2.length ≤ 64 := fun i => by
    rcases Nat.lt_or_ge i (mbD l lens c).2.2.length with hi | hi
    · exact h64 _ (by rw [List.getD_eq_getElem?_getD, List.getElem?_eq_getElem hi]; exact List.getElem_mem _)
    · rw [List.getD_eq_getElem?_getD, List.getElem?_eq_none hi]; exact Nat.zero_le _
  unfold mbAnyD
  split
  · refine ⟨hp0, by simp only [List.length_set]; exact h4, fun b hb => ?_⟩
    rcases List.mem_or_eq_of_mem_set hb with hb | hb
    · exact h64 b hb
    · rw [hb]; exact hd _
  split
  · refine ⟨hp1, by simp only [List.length_set]; exact h4, fun b hb => ?_⟩
    rcases List.mem_or_eq_of_mem_set hb with hb | hb
    · exact h64 b hb
    · rw [hb]; simp only [List.length_set]; exact hd _
  split
  · exact ⟨hs, h4, h64⟩
  split
  · exact ⟨hs, by simp only [List.length_take]; omega, fun b hb => h64 b (List.mem_of_mem_take hb)⟩
  · exact ⟨hs, h4, h64⟩
def mbOkD (l : List Int) : List Int × Mbk := ((l8AnyD l (newD l)).2, (mbAnyD l (l8AnyD l (newD l)).2 (l8AnyD l (newD l)).1).2)
theorem DrawMbOk_p (v : Value) (l : List Int) (hl : l.length ≤ 1048576) : FnP Try.prog 42 [.sc v] [] [v] [CodA l] [] [BkO (mbOkD l).2.2, XI (mbOkD l).1] (.tup [.agg [B (mbOkD l).2.1, .own 0 0 0 (mbOkD l).2.2.length], .own 1 0 0 (mbOkD l).1.length]) := by
  have hn := newD_ok hl
  have h8 := l8AnyD_ok hn
  have h9 := h8.2
  have hm := mbAnyD_ok (lens := (l8AnyD l (newD l)).2) h8.1
  unfold mbOkD
  refine FnP.of_body tabOk Try.func42 Try.ntmps42 rfl (by decide +kernel) (by simp) rfl rfl rfl fun G hp => ?_
  refine goR (r := ?_); and_intros <;> intros <;> try exact True.intro
  refine K.call ?_
  refine WpL.callN (l1New_p v l hl) hp handA (.cons rfl (.sc (.sc (.sc .nil))) .nil) rfl rfl (by decide) ?_
  refine goR (r := ?_); and_intros <;> intros <;> try exact True.intro
  all_goals first | exact hn.2.1 | exact hn.2.2 | exact h8.1.2.1 | exact h8.1.2.2 | omega | skip
  exact FinG.tI [some 3, some 2] rfl (ResV.cell (ds := [_, _]) rfl rfl rfl rfl rfl) (ResV.tmp rfl) (.tup (.agg (.keep rfl rfl rfl (.own rfl rfl rfl rfl .nil)) (.own rfl rfl rfl rfl .nil)) .nil) (.obj rfl rfl (still_rows (fun _ => rfl) _) rfl rfl (.inr rfl) (.obj rfl rfl (still_ints _) rfl rfl (.inr rfl) .nil)) rfl rfl
instance DrawMbOk_c : Con 42 (∀ l : List Int, l.length ≤ 1048576 → Fn 42 [CodA l] [BkO (mbOkD l).2.2, XI (mbOkD l).1] (.tup [.agg [B (mbOkD l).2.1, .own 0 0 0 (mbOkD l).2.2.length], .own 1 0 0 (mbOkD l).1.length])) := ⟨fun l hl => FnC.of_pin fun v => DrawMbOk_p v l hl⟩
instance DrawMbBits_c : Con 14 (∀ l : List Int, l.length ≤ 1048576 → Fn 14 [CodA l] [BkO (mbOkD l).2.2, XI (mbOkD l).1] (.tup [.agg [B (mbOkD l).2.1, .own 0 0 0 (mbOkD l).2.2.length], .own 1 0 0 (mbOkD l).1.length])) := ⟨fun l hl => by
  refine FnC.of_body tabOk Try.func14 Try.ntmps14 rfl (by decide +kernel) (by simp) fun G => ?_
  refine go (r := ?_); and_intros <;> intros <;> try exact True.intro
  all_goals trace_state⟩
end Go.Proofs.Ytpokokcgoebbhaa

/- Contracts: macroblocks out of a cache by the program; the law FnExactFastMb. No condition. -/
namespace Go.Proofs.Ytpokokcgoebbhaa
open Go Go.Abs
set_option linter.unusedVariables false
set_option linter.unusedSimpArgs false
set_option maxRecDepth 100000
set_option maxHeartbeats 4000000
attribute [local irreducible] WpA WpL Rnd Blk Abs.Seq Abs.Fin Abs.FinG FnC FnG Only
attribute [local irreducible] mbS numB lnR ueTab syTab CodeOk lnS syTR

abbrev BkD (l : List Blok) : AObj := ⟨rows blkF l, 1, 2, some 56⟩
theorem splitC {Ov : List AObj} {e : AObj} (h : Ov[2]? = some e) : ∃ a b R, Ov = a :: b :: e :: R := by
  match Ov, h with
  | a :: b :: e' :: R, h => simp at h; exact ⟨a, b, R, by rw [h]⟩
  | [], h => simp at h
  | [_], h => simp at h
  | [_, _], h => simp at h
instance FastMb_c : Con 20 (∀ (p : List UInt8) (s w h : Int) (y t : List Ent), p.length ≤ 1099511627776 ∧ y.length ≤ 1099511627776 ∧ t.length ≤ 1099511627776 → Fn 20 [CA p s w h, EnL y, EnL t] [BkO (fmS p s w h y t).bs] (FmV (fmS p s w h y t) p)) := ⟨fun p s w h y t hl => by
  have h6 := lnS_len y y.length
  refine FnC.of_body tabOk Try.func20 Try.ntmps20 rfl (by decide +kernel) (by simp) fun G => ?_
  by_cases hf : FmOk p s w h y t
  · have hy := hf.1
    have hc := hf.2.1
    have ht := hf.2.2
    have hv := hy.1
    have hr : RdOk p (plA p s w h) := by rw [plA_yes hc]; exact ca_rd hc
    have hok := mbS_ok (lens := lnS y y.length) hr
    have e : (if VlsOk y then lnS y y.length else []) = lnS y y.length := if_pos hv
    have e6 : (if VlsOk y then lnS y y.length else []).length = 6 := by rw [e]; exact h6
    rw [fmS_yes hf]
    have hlm : p.length ≤ 1099511627776 ∧ (lnS y y.length).length ≤ 1099511627776 := ⟨hl.1, by rw [h6]; decide⟩
    refine goR (r := ?_); and_intros <;> intros <;> try exact True.intro
    rw [e]
    generalize hX : mbS p (plA p s w h) (lnS y y.length) = x at hok ⊢
    apply WpA.regionRF (O := [⟨[Z p, I s, I w, I h], 0, 0, none⟩, ⟨[Z [], I 0, I 0, I 0], 0, 0, none⟩, ⟨[B false, .nilS], 0, 0, none⟩, XI (lnS y y.length)]) (Or := []) (O1 := [⟨[Z p, I s, I w, I h], 0, 0, none⟩, ⟨[Z [], I 0, I 0, I 0], 0, 0, none⟩, ⟨[B false, .nilS], 0, 0, none⟩, XI (lnS y y.length), BkD x.1.bs, ⟨[Z p, I x.1.a], 1, 0, none⟩, ⟨[B x.2, .own 4 1 0 x.1.bs.length], 1, 0, none⟩, deadO, deadO, deadO]) 15 3 [] [1, 2] rfl mixed (by decide +kernel)
    · exact rfl
    · apply HeadR.consF .none rfl
      · exact rfl
      · exact rfl
      · exact in1
      · exact rfl
      · exact rfl
      apply HeadR.consF .none rfl
      · exact rfl
      · exact rfl
      · exact in1
      · exact rfl
      · exact rfl
      apply HeadR.consF .none rfl
      · exact rfl
      · exact rfl
      · exact in1
      · exact rfl
      · exact rfl
      apply HeadR.consF .none rfl
      · exact rfl
      · exact rfl
      · exact in0
      · exact rfl
      · exact rfl
      apply HeadR.consF .none rfl
      · exact rfl
      · exact rfl
      · exact in1
      · exact rfl
      · exact rfl
      apply HeadR.consF .none rfl
      · exact rfl
      · exact rfl
      · exact in1
      · exact rfl
      · exact rfl
      apply HeadR.consF (V := .tup [RA p x.1.a, .agg [B x.2, .own 4 1 0 x.1.bs.length], I x.1.c]) (.put 0 (BkD x.1.bs)) rfl
      · exact rfl
      · exact rfl
      · intro Tv Ov hc2 hp hd hk
        subst hX
        refine K.call ?_
        refine K.con (fun hcon => ?_)
        refine WpL.callF (hcon p (plA p s w h) (lnS y y.length) hlm) snapA locA outA (cnt_some _ 0) rfl rfl (by decide) ?_
        rw [Nat.zero_add]
        apply WpL.putV (p := 0)
        · exact .tup (.agg (.keep rfl rfl (.keep rfl rfl .nil)) (.agg (.keep rfl rfl (.own (by first | rfl | exact Nat.zero_add _) .nil)) (.keep rfl rfl .nil))) .nil
        · exact hp 0 _ rfl
        · exact Nat.zero_le _
        · exact rfl
        · exact still_rows (fun _ => rfl) _
      · exact rfl
      · exact rfl
      apply HeadR.consF .none rfl
      · exact rfl
      · exact rfl
      · exact in1
      · exact rfl
      · exact rfl
      apply HeadR.consF .none rfl
      · exact rfl
      · exact rfl
      · exact in1
      · exact rfl
      · exact rfl
      apply HeadR.consF .none rfl
      · exact rfl
      · exact rfl
      · exact in1
      · exact rfl
      · exact rfl
      apply HeadR.consF .none rfl
      · exact rfl
      · exact rfl
      · exact in1
      · exact rfl
      · exact rfl
      apply HeadR.consF (V := .ptr 5 1 0) (.put 1 ⟨[Z [], I 0], 1, 0, none⟩) rfl
      · exact rfl
      · exact rfl
      · intro Tv Ov hc2 hp hd hk
        refine WpL.allocStruct tabOk rfl (nid_len _ 0) (by decide) ?_
        apply WpL.putV (p := 1)
        · exact .ptr (by first | rfl | exact Nat.zero_add _) .nil
        · exact hp 1 _ rfl
        · exact Nat.zero_le _
        · exact rfl
        · exact rfl
      · exact rfl
      · exact rfl
      apply HeadR.consF (V := .ptr 6 1 0) (.put 2 ⟨[B false, .nilS], 1, 0, none⟩) rfl
      · exact rfl
      · exact rfl
      · intro Tv Ov hc2 hp hd hk
        refine WpL.allocStruct tabOk rfl (nid_len _ 0) (by decide) ?_
        apply WpL.putV (p := 2)
        · exact .ptr (by first | rfl | exact Nat.zero_add _) .nil
        · exact hp 2 _ rfl
        · exact Nat.zero_le _
        · exact rfl
        · exact rfl
      · exact rfl
      · exact rfl
      apply HeadR.consN (.step 1 ⟨[Z p, I x.1.a], 1, 0, none⟩) 1000
      · exact rfl
      · exact rfl
      · intro Tv Ov hc2 hp hd hk
        obtain ⟨A0, R0, rfl⟩ := split2 (hp 1 _ rfl)
        refine K.st ?_
        refine WpL.store tabOk rfl rfl rfl rfl rfl rfl rfl rfl (Nat.le_of_ble_eq_true rfl) ?_
        refine WpL.weak (Weak.any1 (d := 1000)) ?_
        exact WpL.nil (Only.mk rfl)
      · exact rfl
      · exact rfl
      apply HeadR.consN (.step 2 ⟨[B x.2, .own 4 1 0 x.1.bs.length], 1, 0, none⟩) 1001
      · exact rfl
      · exact rfl
      · intro Tv Ov hc2 hp hd hk
        obtain ⟨A0, A1, R0, rfl⟩ := splitC (hp 2 _ rfl)
        have h0 := hd 6 _ 0 _ (by decide) rfl rfl rfl
        simp only [List.getElem?_cons_zero, Option.some.injEq] at h0
        subst h0
        refine K.st ?_
        refine WpL.store tabOk rfl rfl rfl rfl rfl rfl rfl rfl (Nat.le_of_ble_eq_true rfl) ?_
        refine WpL.weak (Weak.any1 (d := 1001)) ?_
        exact WpL.nil (Only.mk rfl)
      · exact rfl
      · exact rfl
      exact HeadR.nil
    · exact rfl
    · exact rfl
    · exact rfl
    · exact rfl
    · exact rfl
    · exact rfl
    · exact rfl
    refine go (r := ?_); and_intros <;> intros <;> try exact True.intro
    all_goals first | contradiction | exact hok.1 | exact hok.2 | trace_state
  · rw [fmS_no hf]
    have e : ¬ LfOk y ∨ ¬ CaOk p s w h ∨ t ≠ ueTab := by
      by_cases hy : LfOk y
      · by_cases hc : CaOk p s w h
        · exact .inr (.inr fun ht => hf ⟨hy, hc, ht⟩)
        · exact .inr (.inl hc)
      · exact .inl hy
    rcases e with e | e | e
    all_goals
      refine go (r := ?_); and_intros <;> intros <;> try exact True.intro
    all_goals first | contradiction | omega | trace_state⟩
end Go.Proofs.Ytpokokcgoebbhaa

/- Contracts: headers that are read by the specification. No condition. -/
namespace Go.Proofs.Ytpokokcgoebbhaa
open Go Go.Abs
set_option linter.unusedVariables false
set_option linter.unusedSimpArgs false
set_option maxRecDepth 100000
set_option maxHeartbeats 4000000
attribute [local irreducible] WpA WpL Rnd Blk Abs.Seq Abs.Fin Abs.FinG FnC FnG Only

/-! Where a header fails. -/
def sdV (p : List UInt8) (s : Int) : Int := if ueC p s = 0 ∧ ueV p s > 3 then 0 else 8 * ueV p s + 8
def lnL (p : List UInt8) (s : Int) : List Int := if RbOk p s 18 then lensV (rbV p s 18) else []
attribute [local irreducible] rbA rbV ueA ueV ueC fuA fuC fuV fbA fbC fbV sdV lnL zrs numB lft hdS lensV
end Go.Proofs.Ytpokokcgoebbhaa

/- Contracts: streams that are parsed by the program and by the specification. No condition. -/
namespace Go.Proofs.Ytpokokcgoebbhaa
open Go Go.Abs
set_option linter.unusedVariables false
set_option linter.unusedSimpArgs false
set_option maxRecDepth 100000
set_option maxHeartbeats 4000000
attribute [local irreducible] WpA WpL Rnd Blk Abs.Seq Abs.Fin Abs.FinG FnC FnG Only

abbrev StV (x : PrS) : AV := .agg [I x.W, I x.H, I x.Q, B x.B, B x.D, .own 0 0 0 x.L.length, .own 1 0 0 x.ms.length]
def PrN (a c : Int) : PrS := ⟨0, 0, 0, false, false, [], [], a, c⟩
abbrev HdC (W H Q : Int) (b d : Bool) (l : AV) : List AV := [I W, I H, I Q, B b, B d, l]
section
attribute [local irreducible] hdS stRun mbS endC cntM
end
end Go.Proofs.Ytpokokcgoebbhaa

/- Contracts: FastParse; the law FnExactFastParse. No condition. -/
namespace Go.Proofs.Ytpokokcgoebbhaa
open Go Go.Abs
set_option linter.unusedVariables false
set_option linter.unusedSimpArgs false
set_option maxRecDepth 100000
set_option maxHeartbeats 4000000
attribute [local irreducible] WpA WpL Rnd Blk Abs.Seq Abs.Fin Abs.FinG FnC FnG Only

section
attribute [local irreducible] prS
end
end Go.Proofs.Ytpokokcgoebbhaa

/- The law FnExactFastMb. No condition. -/
namespace Go.Proofs.Ytpokokcgoebbhaa
open Go Go.Abs
set_option linter.unusedVariables false
set_option linter.unusedSimpArgs false
set_option maxRecDepth 100000
set_option maxHeartbeats 4000000
attribute [local irreducible] WpA WpL Rnd Blk Abs.Seq Abs.Fin Abs.FinG FnC FnG Only

theorem smB_of64 {l : List Blok} (h : ∀ b ∈ l, b.2.length ≤ 64) : SmB 1099511627776 l := by
  unfold SmB
  intro b hb
  have := h b hb
  omega
section
attribute [local irreducible] fmS
end
end Go.Proofs.Ytpokokcgoebbhaa

/- Contract: codes that are too long. No condition. -/
namespace Go.Proofs.Ytpokokcgoebbhaa
open Go Go.Abs
set_option linter.unusedVariables false
set_option linter.unusedSimpArgs false
set_option maxRecDepth 100000
set_option maxHeartbeats 4000000
attribute [local irreducible] WpA WpL Rnd Blk Abs.Seq Abs.Fin Abs.FinG FnC FnG FnX FnP FinX Only

instance big_c : Con 5 (∀ l : List Int, l.length ≤ 9223372036854775807 → Fn 5 [CodA l] [] (B (decide ((l.length : Int) > 1048576)))) := ⟨fun l hl => by
  refine FnC.of_body tabOk Try.func5 Try.ntmps5 rfl (by decide +kernel) (by simp) fun G => ?_
  refine go (r := ?_); and_intros <;> intros <;> try exact True.intro⟩
end Go.Proofs.Ytpokokcgoebbhaa

/- What is drawn: headers, squares of numbers, levels. No condition. -/
namespace Go.Proofs.Ytpokokcgoebbhaa
open Go Go.Abs
set_option linter.unusedVariables false
set_option linter.unusedSimpArgs false
set_option maxRecDepth 100000
set_option maxHeartbeats 4000000
attribute [local irreducible] WpA WpL Rnd Blk Abs.Seq Abs.Fin Abs.FinG FnC FnG FnX FnP FinX Only
attribute [local irreducible] belowD onceD pickD modeD l8D l8AnyD optD anyD seedD

abbrev HdOwn (k : Nat) (x : Hd6) : AV := .agg [I x.w, I x.h, I x.q, B x.b, B x.d, .own k 0 0 x.lens.length]
/-! Squares. -/
end Go.Proofs.Ytpokokcgoebbhaa

/- What is drawn: levels, a header with levels. No condition. -/
namespace Go.Proofs.Ytpokokcgoebbhaa
open Go Go.Abs
set_option linter.unusedVariables false
set_option linter.unusedSimpArgs false
set_option maxRecDepth 100000
set_option maxHeartbeats 4000000
attribute [local irreducible] WpA WpL Rnd Blk Abs.Seq Abs.Fin Abs.FinG FnC FnG FnX FnP FinX Only
attribute [local irreducible] belowD onceD pickD modeD l8D l8AnyD optD anyD seedD squareD headD headAnyD

def zerK (x : List Int) (j : Nat) : List Int := x.take 3 ++ List.replicate (j - 3) 0 ++ x.drop j
section
attribute [local irreducible] lev10D
end
section
attribute [local irreducible] lev25D
end
end Go.Proofs.Ytpokokcgoebbhaa

/- Contracts: levels placed, scaled, transformed back, rounded; residuals, by the program and by the specification. No condition. -/
namespace Go.Proofs.Ytpokokcgoebbhaa
open Go Go.Abs
set_option linter.unusedVariables false
set_option linter.unusedSimpArgs false
set_option maxRecDepth 100000
set_option maxHeartbeats 4000000
attribute [local irreducible] WpA WpL Rnd Blk Abs.Seq Abs.Fin Abs.FinG FnC FnG Only

abbrev Flo (v d : Int) : Prop := (-2000000000000 ≤ v ∧ v ≤ 2000000000000) ∧ 1 ≤ d ∧ d ≤ 2000
end Go.Proofs.Ytpokokcgoebbhaa

/- Contracts: what is rounded, the matrix turned, the transforms back, residuals. No condition. -/
namespace Go.Proofs.Ytpokokcgoebbhaa
open Go Go.Abs
set_option linter.unusedVariables false
set_option linter.unusedSimpArgs false
set_option maxRecDepth 100000
set_option maxHeartbeats 4000000
attribute [local irreducible] WpA WpL Rnd Blk Abs.Seq Abs.Fin Abs.FinG FnC FnG Only

/-! The matrix turned. -/
def tA (r k : Nat) : Int := mx 4 k r
def T4 : List (List Int) := (List.range 4).map fun r => tabL (tA r) 4
def cellsT (r : Nat) : List AV := (List.range 4).map fun q => if q < r then .fre 1 4 (ints (tabL (tA q) 4)) else .nilS
def invT (r : Nat) : Nat → List AObj
  | 0 => [⟨(cellsT r).set r .nilS, 0, 1, some 24⟩]
  | k + 1 => [⟨(cellsT r).set r (.own 2 0 0 (k + 1)), 0, 1, some 24⟩, ⟨[.any], 0, 1, none⟩, XI (tabL (tA r) (k + 1))]
section
attribute [local irreducible] cellsT
end
end Go.Proofs.Ytpokokcgoebbhaa

/- Contracts: the transforms back, residuals. No condition. -/
namespace Go.Proofs.Ytpokokcgoebbhaa
open Go Go.Abs
set_option linter.unusedVariables false
set_option linter.unusedSimpArgs false
set_option maxRecDepth 100000
set_option maxHeartbeats 4000000
attribute [local irreducible] WpA WpL Rnd Blk Abs.Seq Abs.Fin Abs.FinG FnC FnG Only

/-! Residuals. -/
end Go.Proofs.Ytpokokcgoebbhaa

/- The laws FnResiduals and FnLevels; levels drawn. No condition. -/
namespace Go.Proofs.Ytpokokcgoebbhaa
open Go Go.Abs
set_option linter.unusedVariables false
set_option linter.unusedSimpArgs false
set_option maxRecDepth 100000
set_option maxHeartbeats 4000000
attribute [local irreducible] WpA WpL Rnd Blk Abs.Seq Abs.Fin Abs.FinG FnC FnG FnX FnP FinX Only
attribute [local irreducible] belowD onceD pickD modeD l8D l8AnyD optD anyD seedD squareD headD headAnyD lev10D lev25D

instance sameInts_c : Con 28 (∀ a b : List Int, a.length ≤ 1099511627776 ∧ b.length ≤ 1099511627776 → Fn 28 [IL a, IL b] [] (B (decide (a = b)))) := ⟨fun a b hl => by
  refine FnC.of_body tabOk Try.func28 Try.ntmps28 rfl (by decide +kernel) (by simp) fun G => ?_
  refine go (r := ?_); and_intros <;> intros <;> try exact True.intro
  · symm; rw [decide_eq_false_iff_not]; rintro rfl; omega
  · refine WpA.loop (fun k : Nat => ⟨[(0, IL a), (1, IL b), (5, I k)], []⟩) (fun k => k ≤ a.length ∧ ∀ j < k, a.getD j 0 = b.getD j 0) (fun k => a.length - k) 0 (by simp) (go (r := trivial)) (fun k hk => ?_)
    refine go (r := ?_); and_intros <;> intros <;> try exact True.intro
    · symm; rw [decide_eq_false_iff_not]; rintro rfl; simp_all
    · rename_i j hj; by_cases h : j = k
      · subst h; simp_all
      · exact hk.2 j (by omega)
    · have := eq_all 0 (xs := a) (ys := b) (by omega) (fun j hj => hk.2 j (by omega))
      simp [this]⟩
section
attribute [local irreducible] resD resL scnL plcL levL lvlD
set_option maxRecDepth 100000
end
end Go.Proofs.Ytpokokcgoebbhaa

/- FnBlocksRead where what is drawn is no square of blocks. No condition. -/
namespace Go.Proofs.Ytpokokcgoebbhaa
open Go Go.Abs
set_option linter.unusedVariables false
set_option linter.unusedSimpArgs false
set_option maxRecDepth 100000
set_option maxHeartbeats 4000000
attribute [local irreducible] WpA WpL Rnd Blk Abs.Seq Abs.Fin Abs.FinG FnC FnG Only
attribute [local irreducible] mbOkD mbbL mbS fmS stopS syTR ueTab

theorem mbOkD_bd {l : List Int} (hl : l.length ≤ 1048576) : (mbOkD l).1.length ≤ 6 ∧ (mbOkD l).2.2.length ≤ 4 ∧ SmB 1099511627776 (mbOkD l).2.2 := by
  have h8 := l8AnyD_ok (newD_ok hl)
  have hm := mbAnyD_ok (lens := (l8AnyD l (newD l)).2) h8.1
  unfold mbOkD
  exact ⟨h8.2, hm.2.1, smB_of64 hm.2.2⟩
section
attribute [-instance] MbBits_c
local instance MbBits_n : Con 15 (∀ (e : Bool) (bs : List Blok) (lens : List Int), bs.length ≤ 1099511627776 ∧ SmB 1099511627776 bs ∧ lens.length ≤ 1099511627776 ∧ ¬ MbkOk e bs lens → Fn 15 [.agg [B e, BkL bs], IL lens] [] .nilS) := ⟨fun e bs lens hl => by
  have hn := hl.2.2.2
  have hd : decide (MbkOk e bs lens) = false := decide_eq_false hn
  refine FnC.of_body tabOk Try.func15 Try.ntmps15 rfl (by decide +kernel) (by simp) fun G => ?_
  refine go (r := ?_); and_intros <;> intros <;> try exact True.intro
  all_goals first | contradiction | omega | exact hl.2.1 | (simp_all; done) | trace_state⟩
theorem br_no (l : List Int) (hl : l.length ≤ 1048576) (hn : ¬ MbkOk (mbOkD l).2.1 (mbOkD l).2.2 (mbOkD l).1) : Fn 4 [CodA l] [] (B true) := by
  have hbd := mbOkD_bd hl
  have hb1 := hbd.1
  have hb2 := hbd.2.1
  have hb3 := hbd.2.2
  refine FnC.of_body tabOk Try.func4 Try.ntmps4 rfl (by decide +kernel) (by simp) fun G => ?_
  refine goR (r := ?_); and_intros <;> intros <;> try exact True.intro
  all_goals first | contradiction | omega | exact hb3 | exact hn | (rw [decide_eq_false hn]; rfl) | (simp_all; done) | trace_state
end
end Go.Proofs.Ytpokokcgoebbhaa

/- Plain: what is read of a drawn square of blocks (for the law FnBlocksRead). No condition. -/
namespace Go.Proofs.Ytpokokcgoebbhaa
open Go Go.Abs
set_option linter.unusedVariables false
set_option linter.unusedSimpArgs false
set_option maxRecDepth 100000
set_option maxHeartbeats 4000000
attribute [local irreducible] WpA WpL Rnd Blk Abs.Seq Abs.Fin Abs.FinG FnC FnG Only
attribute [local irreducible] mbOkD mbbL mbS fmS stopS syTR ueTab blS

instance CacheNew_c : Con 21 (∀ p : List UInt8, p.length ≤ 1099511627776 → Fn 21 [Z p] [] (CA p 0 0 0)) := ⟨fun p hl => by
  refine FnC.of_body tabOk Try.func21 Try.ntmps21 rfl (by decide +kernel) (by simp) fun G => ?_
  refine go (r := ?_); and_intros <;> intros <;> try exact True.intro
  all_goals trace_state⟩
theorem mb_code {e : Bool} {bs : List Blok} {lens : List Int} (hm : MbkOk e bs lens) : CodeOk lens ∧ 0 < bs.length := by
  have hn : nm8 e = 1 ∨ nm8 e = 4 := by cases e <;> simp [nm8]
  have h0 : 0 < bs.length := by have := hm.1; omega
  exact ⟨(ok_lv hm h0).2.1.1, h0⟩
theorem br_mb {e : Bool} {bs : List Blok} {lens : List Int} (hm : MbkOk e bs lens) : mbS (stopS (mbbL e bs lens)) 0 lens = (⟨(mbbL e bs lens).length, 0, bs⟩, e) := by
  have hh := stop_holds (b01_mb e bs lens)
  have h0 : Holds (stopS (mbbL e bs lens)) 0 (mbbL e bs lens) := by unfold padL at hh; exact holds_left (holds_left hh)
  have := holds_mb hm h0
  rw [Int.zero_add] at this
  exact this
theorem br_blk {e : Bool} {bs : List Blok} {lens : List Int} (hm : MbkOk e bs lens) : (blS (stopS (mbbL e bs lens)) 1 lens (sz8 e)).c = 0 ∧ (blS (stopS (mbbL e bs lens)) 1 lens (sz8 e)).m = (bs.getD 0 default).1 ∧ (blS (stopS (mbbL e bs lens)) 1 lens (sz8 e)).l = (bs.getD 0 default).2 := by
  have hh := stop_holds (b01_mb e bs lens)
  have h0 : Holds (stopS (mbbL e bs lens)) 0 (mbbL e bs lens) := by unfold padL at hh; exact holds_left (holds_left hh)
  have hc := mb_code hm
  have hb : mbbL e bs lens = [bif e then 1 else 0] ++ (bkL (bs.getD 0 default).1 (bs.getD 0 default).2 lens (sz8 e) ++ (bs.drop 1).flatMap fun b => bkL b.1 b.2 lens (sz8 e)) := by
    unfold mbbL mbK
    rw [if_pos hm, List.take_length]
    match bs, hc.2 with
    | b :: r, _ => rfl
  rw [hb] at h0
  have h1 := holds_left (holds_right h0)
  rw [← hb] at h1
  have h2 := holds_blk (ok_lv hm hc.2) h1
  have e1 : (0 : Int) + (([bif e then (1 : Int) else 0] : List Int).length : Int) = 1 := by simp
  rw [e1] at h2
  rw [h2]
  exact ⟨rfl, rfl, rfl⟩
theorem br_fm {e : Bool} {bs : List Blok} {lens : List Int} (hm : MbkOk e bs lens) : (fmS (stopS (mbbL e bs lens)) 0 0 0 (syTR lens) ueTab).e = e ∧ (fmS (stopS (mbbL e bs lens)) 0 0 0 (syTR lens) ueTab).bs = bs ∧ (fmS (stopS (mbbL e bs lens)) 0 0 0 (syTR lens) ueTab).c = 0 ∧ plA (stopS (mbbL e bs lens)) (fmS (stopS (mbbL e bs lens)) 0 0 0 (syTR lens) ueTab).s (fmS (stopS (mbbL e bs lens)) 0 0 0 (syTR lens) ueTab).w (fmS (stopS (mbbL e bs lens)) 0 0 0 (syTR lens) ueTab).h = (mbbL e bs lens).length := by
  have hc := mb_code hm
  have es : syTR lens = syTab lens := by unfold syTR; rw [if_pos hc.1]
  have hca : CaOk (stopS (mbbL e bs lens)) 0 0 0 := ⟨⟨by decide, by omega⟩, ⟨by decide, by decide, by decide⟩, rfl⟩
  have hf : FmOk (stopS (mbbL e bs lens)) 0 0 0 (syTab lens) ueTab := ⟨lf_sy hc.1, hca, rfl⟩
  have hp : plA (stopS (mbbL e bs lens)) 0 0 0 = 0 := by unfold plA; rw [if_pos hca]; rfl
  have hh := stop_holds (b01_mb e bs lens)
  have hsl := stopS_len (mbbL e bs lens)
  rw [es, fmS_yes hf, hp, lnS_sy hc.1, br_mb hm]
  refine ⟨rfl, rfl, rfl, ?_⟩
  simp only
  unfold plA
  rw [if_pos ⟨⟨by omega, by omega⟩, ⟨by omega, by omega, by omega⟩, by
    have : 8 * (((mbbL e bs lens).length + 7 : Int) / 8) - (8 * (((mbbL e bs lens).length + 7 : Int) / 8) - (mbbL e bs lens).length) = (mbbL e bs lens).length := by omega
    rw [this]⟩]
  omega
end Go.Proofs.Ytpokokcgoebbhaa

/- Regions that draw their order and whose operations bear guards that are known to hold: a boolean that is known is noted as true. No condition. -/
namespace Go.Abs
open Go
set_option linter.unusedVariables false
set_option linter.unusedSimpArgs false

section
variable {P : Program} {n m : Nat} {G : Ctx} {ops : Array Oper} {T0 : List (Nat × AV)} {O : List AObj} {fs fs2 out : List (Nat × AV)} {o : Oper} {l : List Oper} {d : Nat} {F : List (Nat × AV)}
theorem HeadJ.consB {b : Bool} (hd : o.dst = some d) (hF : depsF fs o.after.toList = some F)
    (h : ∀ Tv, WpL P n m G false ops [o] ⟨F ++ (T0 ++ Tv), O⟩ (Only ⟨(d, .sc (.bool b)) :: (F ++ (T0 ++ Tv)), O⟩)) (hb : b = true) (hs : catF fs [(d, .sc (.bool true))] = some fs2) (r : HeadJ P n m G ops T0 O fs2 l out) : HeadJ P n m G ops T0 O fs (o :: l) out := by
  subst hb
  exact HeadJ.consF hd hF h hs r
theorem WpA.regionMG {l l1 l2 : List Oper} {id : Nat} {T1 : List (Nat × AV)} {Q : Exit → St → Prop} (k : Nat) (hm : P.follows .mixedOrders = true) (hB : mixB l.toArray k = true)
    (hl : takeF k l = some l1) (hJ : HeadJ P n m G l.toArray T0 O [] l1 out) (hnd : TrueB (nodupB (out.map (·.1)))) (hfr : TrueB (out.all fun p => !has T0 p.1))
    (hT1 : catF out T0 = some T1) (h2 : l.drop k = l2) (h : WpL P n m G false l.toArray l2 ⟨T1, O⟩ Q) : WpA P n m G (.region id l.toArray true) ⟨T0, O⟩ Q := by
  have := takeF_eq hl; subst this; subst h2
  exact WpA.regionM k hm hB hJ hnd.e hfr.e (catF_eq hT1) h
end
end Go.Abs
namespace Go.Abs.K
open Go Go.Abs
section
variable {P : Program} {n m : Nat} {G : Ctx} {ops : Array Oper} {T0 : List (Nat × AV)} {O : List AObj} {fs out : List (Nat × AV)} {l : List Oper} {dd : Option Nat} {tt : TypeId} {pos : String} {after : Array Edge} {gd : Option (Nat × Bool)}
theorem jbin {b : BinOp} {t u : TypeId} {x y : Operand} (h : HeadJ P n m G ops T0 O fs ({ dst := dd, op := .binOp b t x y u, type := tt, pos := pos, after := after, guard := gd } :: l) out) : HeadJ P n m G ops T0 O fs ({ dst := dd, op := .binOp b t x y u, type := tt, pos := pos, after := after, guard := gd } :: l) out := h
theorem jun {b : UnOp} {t : TypeId} {x : Operand} (h : HeadJ P n m G ops T0 O fs ({ dst := dd, op := .unOp b t x, type := tt, pos := pos, after := after, guard := gd } :: l) out) : HeadJ P n m G ops T0 O fs ({ dst := dd, op := .unOp b t x, type := tt, pos := pos, after := after, guard := gd } :: l) out := h
theorem jcall {f : FuncId} {xs : Array Operand} {ats : Array TypeId} (h : HeadJ P n m G ops T0 O fs ({ dst := dd, op := .call { callee := .value (.func f), args := xs, argTypes := ats }, type := tt, pos := pos, after := after, guard := gd } :: l) out) : HeadJ P n m G ops T0 O fs ({ dst := dd, op := .call { callee := .value (.func f), args := xs, argTypes := ats }, type := tt, pos := pos, after := after, guard := gd } :: l) out := h
end
end Go.Abs.K

/- What is never turned again becomes memory that stays; calls whose arguments all lie in memory that stays may return parts of it; whether an own slice is nil. No condition. -/
namespace Go.Abs
open Go
set_option linter.unusedVariables false
set_option linter.unusedSimpArgs false

section
variable {P : Program} {n m : Nat} {G : Ctx} {T : List (Nat × AV)} {O : List AObj} {Q : Exit → St → Prop} {ops : Array Oper} {l : List Oper} {d : Nat} {tt : TypeId} {pos : String} {after : Array Edge}

/-- Values that lie in memory that stays, or of which nothing is told. -/
inductive KeepL : List AV → List AV → Prop
  | nil : KeepL [] []
  | any {V vs us} : KeepL vs us → KeepL (V :: vs) (.any :: us)
  | keep {V vs us} : V.still = true → V.nofre = true → KeepL vs us → KeepL (V :: vs) (V :: us)
  | agg {ds es vs us} : KeepL ds es → KeepL vs us → KeepL (.agg ds :: vs) (.agg es :: us)
theorem KeepL.rel {S : Nat → Prop} {w : World} {ι ι' : Nat → Spot} {vs us : List AV} (h : KeepL vs us) : ∀ {xs f}, LRel S w ι O vs xs f → LRel S w ι' [] us xs [] := by
  induction h with
  | nil => intro xs f hl; cases hl; exact .nil
  | any _ ih =>
    intro xs f hl
    obtain ⟨v, vs', f1, f2, rfl, hv, hr, rfl⟩ := hl.uncons
    exact .any (ih hr)
  | keep hs hn _ ih =>
    intro xs f hl
    obtain ⟨v, vs', f1, f2, rfl, hv, hr, rfl⟩ := hl.uncons
    have := nofre_nil hv hn
    subst this
    have := LRel.cons (still_any hv hs [] (fun _ h => h) (fun _ _ => rfl) (by simp)) (ih hr)
    simpa using this
  | agg _ _ ih1 ih2 =>
    intro xs f hl
    obtain ⟨v, vs', f1, f2, rfl, hv, hr, rfl⟩ := hl.uncons
    obtain ⟨us', rfl, ha⟩ := LRel.agg_inv hv
    have := LRel.agg (ih1 ha) (ih2 hr)
    simpa using this
end
/-- What is seen of objects, where all their blocks stay. -/
theorem Snap.relG {O : List AObj} {S S2 : Nat → Prop} {w : World} {ι ι' : Nat → Spot} {vs us : List AV} (h : Snap O vs us) : ∀ {F xs f}, ORel S w ι O F → (∀ b, S b → S2 b) → (∀ id, id < O.length → ∀ b ∈ F id, S2 b) → (∀ b ∈ f, S2 b) → LRel S w ι O vs xs f → LRel S2 w ι' [] us xs [] := by
  induction h with
  | nil => intro F xs f _ _ _ _ hl; cases hl; exact .nil
  | any _ ih =>
    intro F xs f ho hS hF hf hl
    obtain ⟨v, vs', f1, f2, rfl, hv, hr, rfl⟩ := hl.uncons
    exact .any (ih ho hS hF (fun b hb => hf b (List.mem_append_right _ hb)) hr)
  | keep hs hn _ ih =>
    intro F xs f ho hS hF hf hl
    obtain ⟨v, vs', f1, f2, rfl, hv, hr, rfl⟩ := hl.uncons
    have := nofre_nil hv hn
    subst this
    have := LRel.cons (still_any hv hs [] hS (fun _ _ => rfl) (by simp)) (ih ho hS hF (fun b hb => hf b (List.mem_append_right _ hb)) hr)
    simpa using this
  | fn _ _ ih1 ih2 =>
    intro F xs f ho hS hF hf hl
    obtain ⟨v, vs', f1, f2, rfl, hv, hr, rfl⟩ := hl.uncons
    cases hv with | fn a r => cases r; exact .fn (ih1 ho hS hF (by simp) a) (ih2 ho hS hF (fun b hb => hf b (List.mem_append_right _ hb)) hr)
  | nilI _ ih =>
    intro F xs f ho hS hF hf hl
    obtain ⟨v, vs', f1, f2, rfl, hv, hr, rfl⟩ := hl.uncons
    have := (LRel.slice_len hv).2.2 rfl
    subst this
    exact .imm0 (by simp) (ih ho hS hF (fun b hb => hf b (List.mem_append_right _ hb)) hr)
  | @own id ep len len' sz ob es vs us hob hep hsz hlen hll _ _ ih1 ih2 =>
    intro F xs f ho hS hF hf hl
    subst hll hsz
    obtain ⟨v, vs', f1, f2, rfl, hv, hr, rfl⟩ := hl.uncons
    have hr2 := ih2 ho hS hF (fun b hb => hf b (List.mem_append_right _ hb)) hr
    have hidl := (List.getElem?_eq_some_iff.1 hob).1
    have hoa := ho.obj id ob hob
    unfold ObjAt at hoa
    cases hv with
    | own q1 q2 q3 r =>
      rw [hob] at q1; cases q1
      have hc := q3 hep.symm
      cases hs : ι id with
      | none =>
        rw [hs] at hc hoa
        obtain ⟨h1, _, h3⟩ := hc
        subst h1; subst h3
        have : es = [] := by
          have := ih1 (xs := []) (f := []) ho hS hF (by simp) (by rw [hoa.1]; exact .nil)
          cases this; rfl
        subst this
        exact .imm0 (by simp) hr2
      | some p =>
        obtain ⟨b, k⟩ := p
        rw [hs] at hc hoa
        obtain ⟨cap, h1, _, h3, h4⟩ := hc
        obtain ⟨cur, t, fz, f', hFe, hh, _, _, _, _, hl'⟩ := hoa
        subst h1
        have hi := ih1 ho hS hF (fun b' hb' => hF id hidl b' (by rw [hFe]; simp [hb'])) hl'
        refine .imm (us := cur.toList.take ob.cells.length) (hF id hidl b (by rw [hFe]; simp)) (fun i hi => cell_of_heap hh _ i hi) hi ?_ h3 h4 hr2
        rw [hlen, hl'.len, hi.len]
  | @ownO id ep off len len' sz ob ds es vs us hob hep hsz hds hlen hll _ _ ih1 ih2 =>
    intro F xs f ho hS hF hf hl
    subst hll hsz hds
    obtain ⟨v, vs', f1, f2, rfl, hv, hr, rfl⟩ := hl.uncons
    have hr2 := ih2 ho hS hF (fun b hb => hf b (List.mem_append_right _ hb)) hr
    have hidl := (List.getElem?_eq_some_iff.1 hob).1
    have hoa := ho.obj id ob hob
    unfold ObjAt at hoa
    cases hv with
    | own q1 q2 q3 r =>
      rw [hob] at q1; cases q1
      have hc := q3 hep.symm
      cases hs : ι id with
      | none =>
        rw [hs] at hc hoa
        obtain ⟨h1, h2, h3⟩ := hc
        subst h1; subst h3
        have : es = [] := by
          have := ih1 (xs := []) (f := []) ho hS hF (by simp) (by rw [hoa.1]; simpa using .nil)
          cases this; rfl
        subst this
        exact .imm0 (by simp) hr2
      | some p =>
        obtain ⟨b, k⟩ := p
        rw [hs] at hc hoa
        obtain ⟨cap, h1, _, h3, h4⟩ := hc
        obtain ⟨cur, t, fz, f', hFe, hh, _, _, _, _, hl'⟩ := hoa
        subst h1
        obtain ⟨g, hld, hgm, _⟩ := hl'.drop off
        have hi := ih1 ho hS hF (fun b' hb' => hF id hidl b' (by rw [hFe]; simp [hgm b' hb'])) hld
        refine .imm (us := (cur.toList.take ob.cells.length).drop off) (hF id hidl b (by rw [hFe]; simp)) (fun i hi => ?_) hi ?_ h3 h4 hr2
        · have := cell_of_heap hh ob.cells.length (off + i) (by simp only [List.length_drop] at hi; omega)
          rw [Nat.zero_add] at this
          rw [this, List.getElem?_drop]
        · rw [hlen, hld.len, hi.len]
  | @fre s l ds es vs us _ _ ih1 ih2 =>
    intro F xs f ho hS hF hf hl
    obtain ⟨v, vs', f1, f2, rfl, hv, hr, rfl⟩ := hl.uncons
    have hr2 := ih2 ho hS hF (fun b hb => hf b (List.mem_append_right _ hb)) hr
    cases hv with
    | fre0 r =>
      have := ih1 (xs := []) (f := []) ho hS hF (by simp) .nil
      cases this
      exact .imm0 (by simp) hr2
    | @fre _ _ b _ cap cur t fz _ us' f' _ _ _ hh0 hsz hu hl' h1 h2 h3 r =>
      have hh := hh0.1
      cases r
      have hi := ih1 ho hS hF (fun b' hb' => hf b' (by simp [hb'])) hl'.lift
      subst hu
      refine .imm (us := cur.toList.take ds.length) (hf b (by simp)) (fun i hi => cell_of_heap hh _ i hi) hi ?_ h2 h3 hr2
      rw [h1, hl'.len, hi.len]
  | @ptr id ep off ob es vs us hob hep _ _ ih1 ih2 =>
    intro F xs f ho hS hF hf hl
    obtain ⟨v, vs', f1, f2, rfl, hv, hr, rfl⟩ := hl.uncons
    have hr2 := ih2 ho hS hF (fun b hb => hf b (List.mem_append_right _ hb)) hr
    have hidl := (List.getElem?_eq_some_iff.1 hob).1
    have hoa := ho.obj id ob hob
    unfold ObjAt at hoa
    cases hv with
    | ptr q1 q2 q3 r =>
      rw [hob] at q1; cases q1
      have hc := q3 hep.symm
      cases hs : ι id with
      | none => rw [hs] at hc; exact hc.elim
      | some p =>
        obtain ⟨b, k⟩ := p
        rw [hs] at hc hoa
        obtain ⟨cur, t, fz, f', hFe, hh, _, _, _, _, hl'⟩ := hoa
        have h1 : _ = Value.pointer (some ⟨b, off, none⟩) := hc
        subst h1
        have := LRel.iptr (O := []) (ι := ι') (off := off) (S := S2) (us := cur.toList.take ob.cells.length) (hF id hidl b (by rw [hFe]; simp)) (fun i hi => cell_of_heap hh _ i hi) (ih1 ho hS hF (fun b' hb' => hF id hidl b' (by rw [hFe]; simp [hb'])) hl') hr2
        rwa [Nat.zero_add] at this
  | agg _ _ ih1 ih2 =>
    intro F xs f ho hS hF hf hl
    obtain ⟨v, vs', f1, f2, rfl, hv, hr, rfl⟩ := hl.uncons
    obtain ⟨us', rfl, ha⟩ := LRel.agg_inv hv
    have := LRel.agg (ih1 ho hS hF (fun b hb => hf b (List.mem_append_left _ hb)) ha) (ih2 ho hS hF (fun b hb => hf b (List.mem_append_right _ hb)) hr)
    simpa using this
/-- What a function made, if nobody turns it, lies in memory that stays: one value. -/
theorem FnC.still {P : Program} {f : FuncId} {args : List AV} {N : List AObj} {r r' : AV} (hc : FnC P f args N r) (hs : Snap N [r] [r']) : FnC P f args [] r' := by
  refine ⟨hc.1, fun w S vs hS hl => (hc.2 w S vs hS hl).mono fun e w' he => ?_⟩
  obtain ⟨v, S', ι, F, rfl, h1, h2, h3, ho, hF, hv, hk⟩ := he
  refine ⟨v, fun b => S' b ∨ ∃ id, id < N.length ∧ b ∈ F id, fun _ => none, fun _ => [], rfl, fun b hb => .inl (h1 b hb), ?_, ?_, ⟨by simp, by simp, by simp⟩, by simp, ?_, hk⟩
  · rintro b (hb | ⟨id, hid, hb⟩)
    · exact h2 b hb
    · exact .inr (hF id hid b hb).1
  · rintro b (hb | ⟨id, hid, hb⟩)
    · exact h3 b hb
    · exact (hF id hid b hb).2.2
  · exact hs.relG ho (fun b hb => .inl hb) (fun id hid b hb => .inr ⟨id, hid, hb⟩) (by simp) hv
theorem ORel.bare {S' : Nat → Prop} {w' : World} {ι' : Nat → Spot} {N : List AObj} {F' : Nat → List Nat} (hO : ORel S' w' ι' N F') (hN : Out N) : ORel (fun _ => False) w' ι' N F' := by
  refine ⟨fun id ob h => ?_, hO.nodup, hO.apart⟩
  have ho := hO.obj id ob h
  unfold ObjAt at ho ⊢
  cases hs : ι' id with
  | none => rw [hs] at ho; exact ho
  | some p =>
    obtain ⟨b, k⟩ := p
    rw [hs] at ho
    obtain ⟨cur', t', fz', f2, h1, h2, h3, h4, h5, h6, h7⟩ := ho
    exact ⟨cur', t', fz', f2, h1, h2, h3, h4, h5, h6, Loc.rel (hN.at h).2 h7⟩
/-- What is seen of a result. -/
inductive FrzR (N : List AObj) : AV → AV → Prop
  | tup {rs rs' : List AV} : Snap N rs rs' → FrzR N (.tup rs) (.tup rs')
  | one {r r' : AV} : Snap N [r] [r'] → FrzR N r r'
theorem FrzR.rel {O : List AObj} {S S2 : Nat → Prop} {w : World} {ι ι' : Nat → Spot} {F : Nat → List Nat} {r r' : AV} {v : Value} (h : FrzR O r r') (ho : ORel S w ι O F) (hS : ∀ b, S b → S2 b) (hF : ∀ id, id < O.length → ∀ b ∈ F id, S2 b) (hl : VRel S w ι O r v []) : VRel S2 w ι' [] r' v [] := by
  cases h with
  | tup hs =>
    obtain ⟨us, rfl, hl'⟩ := LRel.tup_inv hl
    have h9 : LRel S2 w ι' [] _ us [] := hs.relG ho hS hF (by simp) hl'
    have := LRel.tup h9 .nil
    simpa using this
  | one hs => exact hs.relG ho hS hF (by simp) hl
section
variable {P : Program} {n m : Nat} {G : Ctx} {T : List (Nat × AV)} {O : List AObj} {Q : Exit → St → Prop} {ops : Array Oper} {l : List Oper} {d : Nat} {tt : TypeId} {pos : String} {after : Array Edge}
/-- A call of a function; what it made nobody turns: it lies in memory that stays from here on. -/
theorem WpL.callI {f : FuncId} {xs : List Operand} {ats : Array TypeId} {As : List AV} {N : List AObj} {r r' : AV} (hc : FnC P f As N r) (hs : Snap O (xs.map (av T)) As) (hloc : Loc [r]) (hN : Out N) (hfz : FrzR N r r') (hn : d < n) (h : WpL P n m G false ops l ⟨(d, r') :: T, O⟩ Q) :
    WpL P n m G false ops ({ dst := some d, op := .call { callee := .value (.func f), args := xs.toArray, argTypes := ats }, type := tt, pos := pos, after := after, guard := none } :: l) ⟨T, O⟩ Q :=
  WpL.op rfl (fun a w hr => by
    obtain ⟨S, ι, F, hr⟩ := hr
    obtain ⟨⟨fn, hf, hb, hnm⟩, hcall⟩ := hc
    have hsn := hs.rel (ι' := fun _ => none) hr.objs hr.stable (hr.evals xs)
    have hex : (execOp a.eval { dst := some d, op := .call { callee := .value (.func f), args := xs.toArray, argTypes := ats }, type := tt, pos := pos, after := after, guard := none }).run P w = .ok (.enter f (xs.map a.eval).toArray) w := by
      simp only [execOp, resolve, Act.eval, Deferred.ofValue, invoke, callFunc, Sem.run_bind, Sem.run_pure, Result.andThen_ok, program, Sem.run, hf, hnm, hb, Bool.false_eq_true, if_false]
      simp
    unfold Oper.wp
    rw [hex]
    refine (hcall w (fun b => b < w.heap.size) (xs.map a.eval) (fun _ h => h) hsn).mono fun e w' he => ?_
    obtain ⟨v, S', ι', F', rfl, hS1, hS2, hS3, hO', hF', hv, hk⟩ := he
    show Rel n m G ⟨(d, r') :: T, O⟩ (a.put (some d) v) w'
    have hold : ∀ b, b < w.heap.size → w'.heap[b]? = w.heap[b]? := fun b hb => hk.block b hb (fun h => h)
    let S2 : Nat → Prop := fun b => S b ∨ ∃ id, id < N.length ∧ b ∈ F' id
    have hvr : VRel S2 w' (fun _ => none) [] r' v [] :=
      hfz.rel (hO'.bare hN) (fun _ h => h.elim) (fun id hid b hb => .inr ⟨id, hid, hb⟩) (Loc.rel hloc hv)
    have hlat : Later S w ι O S2 w' ι O := ⟨fun b h => .inl h, fun b hb => hold b (hr.stable b hb), fun id ob h => ⟨ob, h, .inr ⟨rfl, rfl, rfl⟩⟩⟩
    have hrel : RelAt n m G S2 ι F ⟨T, O⟩ a w' := by
      refine ⟨hr.defers, hr.size, fun t => (hr.tmps t).mono hlat (by simp), ⟨fun id ob h => ?_, hr.objs.nodup, hr.objs.apart⟩, fun id h b hb => ?_, ⟨fun b hb => .inl (hr.base.1 b hb), fun b hb => ?_⟩, fun b hb => ?_, ?_, hr.spots, hr.mle⟩
      · have h : O[id]? = some ob := h
        have hlt : id < O.length := (List.getElem?_eq_some_iff.1 h).1
        have ho := hr.objs.obj id ob h
        unfold ObjAt at ho ⊢
        cases hs : ι id with
        | none => rw [hs] at ho; exact ho
        | some p =>
          obtain ⟨b, k⟩ := p
          rw [hs] at ho
          obtain ⟨cur', t', fz', f2, h1, h2, h3, h4, h5, h6, h7⟩ := ho
          have key : ∀ b', b' ∈ F id → w'.heap[b']? = w.heap[b']? := fun b' hb' => hold b' (hr.foot id hlt b' hb').2.2
          exact ⟨cur', t', fz', f2, h1, by rw [key b (by rw [h1]; simp)]; exact h2, h3, h4, h5, h6, h7.mono hlat fun b' hb' => key b' (by rw [h1]; simp [hb'])⟩
      · obtain ⟨q1, q2, q3⟩ := hr.foot id h b hb
        refine ⟨q1, ?_, by have := hk.size; omega⟩
        rintro (h2 | ⟨i2, hi2, h2⟩)
        · exact q2 h2
        · have := (hF' i2 hi2 b h2).1; omega
      · rcases hb with h2 | ⟨i2, hi2, h2⟩
        · exact hr.base.2 b h2
        · have := (hF' i2 hi2 b h2).1
          exact .inr (by have := hr.keeps.size; omega)
      · rcases hb with h2 | ⟨i2, hi2, h2⟩
        · have := hr.stable b h2; have := hk.size; omega
        · exact (hF' i2 hi2 b h2).2.2
      · exact ⟨hk.os.trans hr.keeps.os, hk.tape.trans hr.keeps.tape, hk.output.trans hr.keeps.output, by have := hr.keeps.size; have := hk.size; omega, fun b hb hM => by
          rw [hold b (by have := hr.keeps.size; omega)]; exact hr.keeps.block b hb hM⟩
    exact ⟨S2, ι, F, hrel.put hn (hvr.mono (Later.none O (fun _ h => h) (fun _ _ => rfl)) (by simp))⟩) h
end
end Go.Abs
