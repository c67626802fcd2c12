/- Proved in this text: lemmas and contracts of functions that the claim uses (parts: Fr, AbsSl, AbsR5, Fr2, Fr3, SmF, PlcP, Rec2, Rec3, Rec5, Rec4). No condition. -/
import Derived.Test.YtjhejgamjlokdaaGreatQuM11
import Derived.Test.YtjhejgamjlokdaaGreatQuM13
import Derived.Test.YtjhejgamjlokdaaGreatQuM14
import Derived.Test.YtjhejgamjlokdaaGreatQuM15
import Derived.Test.YtjhejgamjlokdaaGreatQuM5
import Derived.Test.YtjhejgamjlokdaaGreatQuM9
import Derived.Test.YtjhejgamjlokdaaGreatQuM7
set_option linter.unusedVariables false
set_option linter.unusedSimpArgs false
set_option maxRecDepth 100000
set_option maxHeartbeats 16000000


namespace Go.Proofs.YtjhejgamjlokdaaGreat
open Go Go.Abs
attribute [local irreducible] WpA WpL Rnd Blk Abs.Seq Abs.Fin Abs.FinG FnC FnG FnX FnP FinX Only
attribute [local irreducible] belowD onceD pickD modeD l8D l8AnyD optD anyD seedD headD headAnyD symL HasC blkD lev25D frK
theorem wh_in {W H : Int} (h : SidesOk W H) : 64 ≤ W * H ∧ W * H ≤ 1024 := by
  have h1 : 8 * 8 ≤ W * H := Int.mul_le_mul h.1 h.2.2.1 (by omega) (by have := h.1; omega)
  have h2 : W * H ≤ 32 * 32 := Int.mul_le_mul h.2.1 h.2.2.2.1 (by have := h.2.2.1; omega) (by omega)
  omega
instance FrameNew_s : Con 139 (∀ W H : Int, SidesOk W H → Fn 139 [I W, I H] [XI (List.replicate (W * H).toNat 0)] (FrOwn 0 W H (W * H).toNat)) := ⟨fun W H h => by
  have hm := wh_in h
  refine FnC.of_body tabOk Tryz.func139 Tryz.ntmps139 rfl (by decide +kernel) (by simp) fun G => ?_
  refine go (r := ?_); and_intros <;> intros <;> try exact True.intro
  all_goals first | contradiction | trace_state⟩
theorem mul_sm {a b : Int} (ha : -4 ≤ a ∧ a ≤ 4) (hb : 0 ≤ b ∧ b ≤ 1024) : -4096 ≤ a * b ∧ a * b ≤ 4096 := by
  have : a = -4 ∨ a = -3 ∨ a = -2 ∨ a = -1 ∨ a = 0 ∨ a = 1 ∨ a = 2 ∨ a = 3 ∨ a = 4 := by omega
  rcases this with rfl | rfl | rfl | rfl | rfl | rfl | rfl | rfl | rfl <;> omega
instance l18Frame_p : ConP 128 (∀ (v : Value) (l : List Int) (c : Cr), CrOk l c → Pn 128 v l c [] (frD l c).1 [XI (frD l c).2.p] (FrOwn 1 (frD l c).2.w (frD l c).2.h (frD l c).2.p.length)) := ⟨fun v l c h => by
  have h1 := belowD_ok 3 h
  have h2 := belowD_ok 2 h1.1
  have h3 := belowD_ok 256 h2.1
  have h4 := belowD_ok 9 h3.1
  have h5 := belowD_ok 9 h4.1
  have h6 := pickD_ok (xs := noise5) h5.1 (by decide)
  have a1 := h1.2.1
  have a2 := h1.2.2.1 (by decide)
  have b1 := h2.2.1
  have b2 := h2.2.2.1 (by decide)
  have c1 : 0 ≤ (fB l c).2 := h3.2.1
  have c2 : (fB l c).2 < 256 := h3.2.2.1 (by decide)
  have d1 : 0 ≤ (fX l c).2 := h4.2.1
  have d2 : (fX l c).2 < 9 := h4.2.2.1 (by decide)
  have e1 : 0 ≤ (fY l c).2 := h5.2.1
  have e2 : (fY l c).2 < 9 := h5.2.2.1 (by decide)
  have n1 : 1 ≤ (fN l c).2 ∧ (fN l c).2 ≤ 256 := noise_in h6.2
  have hsd : SidesOk (frW l c) (frH l c) := by
    show SidesOk (8 * (1 + (belowD l c 3).2)) (8 * (1 + (belowD l (belowD l c 3).1 2).2))
    refine ⟨?_, ?_, ?_, ?_, ?_, ?_⟩ <;> omega
  have hwh := wh_in hsd
  have hok := frD_ok h
  unfold frD at hok ⊢
  simp only at hok ⊢
  generalize hS : frK l (frW l c) (fB l c).2 ((fX l c).2 - 4) ((fY l c).2 - 4) (fN l c).2 (frW l c * frH l c).toNat 0 ((fN l c).1, List.replicate (frW l c * frH l c).toNat 0) = S at hok ⊢
  refine FnP.of_body tabOk Tryz.func128 Tryz.ntmps128 rfl (by decide +kernel) (by simp) rfl rfl rfl fun G hp => ?_
  refine go (r := ?_); and_intros <;> intros <;> try exact True.intro
  all_goals first | exact h.2.1 | exact h.2.2 | exact hsd | exact h5.1.2.1 | exact h5.1.2.2 | (simp; done) | skip
  generalize hN : (frW l c * frH l c).toNat = N at *
  have hN2 : (frW l c * frH l c).toNat = N := hN
  have hwN : frW l c * frH l c = (N : Int) := by omega
  refine WpA.loop (fun x : Nat × Cr × List Int => ⟨[(0, .ptr 0 0 0), (2, .ptr 1 0 0), (3, I (frW l c)), (4, I (frH l c)), (5, .ptr 3 0 0), (6, I (fB l c).2), (7, I ((fX l c).2 - 4)), (8, I ((fY l c).2 - 4)), (9, I (fN l c).2), (10, I x.1)], [CurO v x.2.1, ⟨[I 0, I 0, .nilS], 0, 0, none⟩, XI x.2.2, ⟨[I (frW l c), I (frH l c), .own 2 0 0 N], 0, 0, none⟩]⟩) (fun x => x.1 ≤ N ∧ CrOk l x.2.1 ∧ x.2.2.length = N ∧ frK l (frW l c) (fB l c).2 ((fX l c).2 - 4) ((fY l c).2 - 4) (fN l c).2 (N - x.1) x.1 x.2 = S) (fun x => N - x.1) (0, (fN l c).1, List.replicate N 0) ⟨Nat.zero_le _, h6.1, by simp, hS⟩ ?_ ?_
  · exact Weak.mk (by repeat (first | exact ReT.nil | refine ReT.cons (.keep rfl rfl .nil) ?_ | refine ReT.cons (.own rfl rfl rfl rfl rfl rfl .nil) ?_ | refine ReT.cons (.ptr rfl rfl rfl rfl .nil) ?_ | refine ReT.cons (.keep (congrArg (fun z => AV.sc (Value.int .i64 z)) (by first | omega | (skip))) rfl .nil) ?_ | refine ReT.cons (.keep (congrArg (fun z : List UInt8 => AV.sc (Value.string ⟨z.toArray⟩)) (by skip)) rfl .nil) ?_ | refine ReT.cons (.own rfl rfl rfl rfl rfl (by first | omega | (simp; done) | (simp; omega)) .nil) ?_)) (by repeat (first | exact ReO.nil | refine ReO.cons (Re.same rfl rfl) (.inr rfl) ?_ | refine ReO.cons (Re.same rfl (still_ints _)) (.inr rfl) ?_ | refine ReO.cons (.keep rfl rfl (.keep rfl rfl (.own rfl rfl rfl rfl rfl rfl .nil))) (.inr rfl) ?_ | refine ReO.cons (.keep rfl rfl (.keep rfl rfl (.own rfl rfl rfl rfl rfl (by first | omega | (simp; done)) .nil))) (.inr rfl) ?_)) (Nat.le_of_ble_eq_true rfl)
  rintro ⟨k, c1, xs⟩ ⟨hk, hc1, hxl, hK⟩
  try simp only at hk hc1 hxl hK ⊢
  by_cases hlt : k < N
  · have hE : frK l (frW l c) (fB l c).2 ((fX l c).2 - 4) ((fY l c).2 - 4) (fN l c).2 (N - (k + 1)) (k + 1) (frS l (frW l c) (fB l c).2 ((fX l c).2 - 4) ((fY l c).2 - 4) (fN l c).2 k (c1, xs)) = S := by
      rw [show N - k = (N - (k + 1)) + 1 by omega, frK_succ] at hK; exact hK
    have hb := belowD_ok (fN l c).2 hc1
    have hb0 := hb.2.1
    have hb1 := hb.2.2.1 (by omega)
    have hr0 : 0 ≤ (k : Int) % frW l c ∧ (k : Int) % frW l c ≤ 1024 := ⟨Int.emod_nonneg _ (by omega), by have := Int.emod_lt_of_pos (k : Int) (show 0 < frW l c by omega); omega⟩
    have hq0 : 0 ≤ (k : Int) / frW l c ∧ (k : Int) / frW l c ≤ 1024 := ⟨Int.ediv_nonneg (by omega) (by omega), by have := Int.ediv_le_self (frW l c) (show 0 ≤ (k : Int) by omega); omega⟩
    have hm1 := mul_sm (a := (fX l c).2 - 4) (b := (k : Int) % frW l c) (by omega) hr0
    have hm2 := mul_sm (a := (fY l c).2 - 4) (b := (k : Int) / frW l c) (by omega) hq0
    refine goR (r := ?_); and_intros <;> intros <;> try exact True.intro
    all_goals first | contradiction | omega | skip
    apply WpA.regionSF (O := []) (Or := [CurO v c1, ⟨[I 0, I 0, .nilS], 0, 0, none⟩, XI xs, ⟨[I (frW l c), I (frH l c), .own 2 0 0 N], 0, 0, none⟩]) (O1 := [CurO v (belowD l c1 (fN l c).2).1, ⟨[I 0, I 0, .nilS], 0, 0, none⟩, XI xs, ⟨[I (frW l c), I (frH l c), .own 2 0 0 N], 0, 0, none⟩]) 21 0 [3] [] rfl mixed (by decide +kernel)
    · exact rfl
    · apply HeadS.consF .none rfl
      · exact rfl
      · exact rfl
      · intro Tv Ov hc hp' hd hk
        obtain ⟨x0, x1, x2, R, rfl⟩ := Abs.split4 (hk 3 rfl)
        exact in1
      · exact rfl
      · exact rfl
      apply HeadS.consF .none rfl
      · exact rfl
      · exact rfl
      · intro Tv Ov hc hp' hd hk
        obtain ⟨x0, x1, x2, R, rfl⟩ := Abs.split4 (hk 3 rfl)
        exact in1
      · exact rfl
      · exact rfl
      apply HeadS.consF .none rfl
      · exact rfl
      · exact rfl
      · exact in1
      · exact rfl
      · exact rfl
      apply HeadS.consF .none rfl
      · exact rfl
      · exact rfl
      · exact in1
      · exact rfl
      · exact rfl
      apply HeadS.consF .none rfl
      · exact rfl
      · exact rfl
      · exact in1
      · exact rfl
      · exact rfl
      apply HeadS.consF .none rfl
      · exact rfl
      · exact rfl
      · exact in1
      · exact rfl
      · exact rfl
      apply HeadS.consF .none rfl
      · exact rfl
      · exact rfl
      · exact in1
      · exact rfl
      · exact rfl
      apply HeadS.consF .none rfl
      · exact rfl
      · exact rfl
      · exact in1
      · exact rfl
      · exact rfl
      apply HeadS.consF .none rfl
      · exact rfl
      · exact rfl
      · exact in1
      · exact rfl
      · exact rfl
      apply HeadS.consF .none rfl
      · exact rfl
      · exact rfl
      · exact in1
      · exact rfl
      · exact rfl
      apply HeadS.consF .none rfl
      · exact rfl
      · exact rfl
      · exact in1
      · exact rfl
      · exact rfl
      apply HeadS.consF .none rfl
      · exact rfl
      · exact rfl
      · exact in1
      · exact rfl
      · exact rfl
      apply HeadS.consF .none rfl
      · exact rfl
      · exact rfl
      · exact in1
      · exact rfl
      · exact rfl
      apply HeadS.consF .none rfl
      · exact rfl
      · exact rfl
      · exact in1
      · exact rfl
      · exact rfl
      apply HeadS.consF .none rfl
      · exact rfl
      · exact rfl
      · exact in1
      · exact rfl
      · exact rfl
      apply HeadS.consF .none rfl
      · exact rfl
      · exact rfl
      · exact in1
      · exact rfl
      · exact rfl
      apply HeadS.consF .none rfl
      · exact rfl
      · exact rfl
      · exact in1
      · exact rfl
      · exact rfl
      apply HeadS.consF .none rfl
      · exact rfl
      · exact rfl
      · exact in1
      · exact rfl
      · exact rfl
      apply HeadS.consF (V := I (belowD l c1 (fN l c).2).2) (.step 0 (CurO v (belowD l c1 (fN l c).2).1)) rfl
      · exact rfl
      · exact rfl
      · intro Tv Ov hc hp' hd hk
        obtain ⟨R, rfl⟩ := split1 (hp' 0 _ rfl)
        refine K.call ?_
        refine K.conP (fun hcon => ?_)
        refine WpL.callP1 (hcon v l c1 (fN l c).2 hc1) hp handA handOA rfl (.cons rfl (.sc (.sc (.sc .nil))) .nil) (by decide) ?_
        exact WpL.nil (Only.mk rfl)
      · exact rfl
      · exact rfl
      apply HeadS.consF .none rfl
      · exact rfl
      · exact rfl
      · exact in1
      · exact rfl
      · exact rfl
      apply HeadS.consF (V := I (max 0 (min 255 ((fB l c).2 + ((fX l c).2 - 4) * ((k : Int) % frW l c) + ((fY l c).2 - 4) * ((k : Int) / frW l c) + (belowD l c1 (fN l c).2).2)))) .none rfl
      · exact rfl
      · exact rfl
      · intro Tv Ov hc hp' hd hk
        refine K.call ?_
        refine K.con (fun hcon => ?_)
        refine WpL.callF (hcon _) snapA locA outA (cnt_some _ 0) rfl rfl (by decide) ?_
        rw [List.append_nil]
        exact WpL.nil (Only.mk rfl)
      · exact rfl
      · exact rfl
      exact HeadS.nil
    · exact rfl
    · exact rfl
    · exact rfl
    · exact rfl
    · exact rfl
    · exact rfl
    · exact rfl
    refine go (r := ?_); and_intros <;> intros <;> try exact True.intro
    all_goals first | contradiction | omega | skip
    refine Rnd.go (k + 1, frS l (frW l c) (fB l c).2 ((fX l c).2 - 4) ((fY l c).2 - 4) (fN l c).2 k (c1, xs)) ⟨by simp only; omega, hb.1, by unfold frS; simp only [List.length_set]; exact hxl, hE⟩ ?_ ?_
    · show N - (k + 1) < N - k; omega
    · unfold frS
      exact Weak.mk (by repeat (first | exact ReT.nil | refine ReT.cons (.keep rfl rfl .nil) ?_ | refine ReT.cons (.own rfl rfl rfl rfl rfl rfl .nil) ?_ | refine ReT.cons (.ptr rfl rfl rfl rfl .nil) ?_ | refine ReT.cons (.keep (congrArg (fun z => AV.sc (Value.int .i64 z)) (by first | omega | (skip))) rfl .nil) ?_ | refine ReT.cons (.keep (congrArg (fun z : List UInt8 => AV.sc (Value.string ⟨z.toArray⟩)) (by skip)) rfl .nil) ?_ | refine ReT.cons (.own rfl rfl rfl rfl rfl (by first | omega | (simp; done) | (simp; omega)) .nil) ?_)) (by repeat (first | exact ReO.nil | refine ReO.cons (Re.same rfl rfl) (.inr rfl) ?_ | refine ReO.cons (Re.same rfl (still_ints _)) (.inr rfl) ?_ | refine ReO.cons (.keep rfl rfl (.keep rfl rfl (.own rfl rfl rfl rfl rfl rfl .nil))) (.inr rfl) ?_ | refine ReO.cons (.keep rfl rfl (.keep rfl rfl (.own rfl rfl rfl rfl rfl (by first | omega | (simp; done)) .nil))) (.inr rfl) ?_)) (Nat.le_of_ble_eq_true rfl)
  · obtain rfl : k = N := by omega
    rw [Nat.sub_self, frK_zero] at hK
    subst hK
    refine go (r := ?_); and_intros <;> intros <;> try exact True.intro
    all_goals first | contradiction | omega | exact hxl | trace_state
  ⟩
end Go.Proofs.YtjhejgamjlokdaaGreat


namespace Go.Proofs.YtjhejgamjlokdaaGreat
open Go Go.Abs
theorem subOwnLo {P : Program} {n m : Nat} {G : Ctx} {T : List (Nat × AV)} {O : List AObj} {Q : Exit → St → Prop} {ops : Array Oper} {l : List Oper} {d : Nat} {md : Bool} {tt : TypeId} {pos : String} {after : Array Edge} {tab : List (Nat × Ty)} (hP : TabOk P tab) {t e k b : Nat} {zs : List AV} {x y : Operand} {kk : IntKind} {id ep len j off : Nat} {ob : AObj} (ht : tlook tab t = some (.slice e k b zs)) (hx : av T x = .own id ep 0 len) (ho : O[id]? = some ob) (he : ob.ep = ep) (hsz : ob.size = k) (hy : av T y = .sc (.int kk j)) (hj : j < len) (hoff : off = j * k) (hn : d < n)
    (h : WpL P n m G md ops l ⟨(d, .own id ep off (len - j)) :: T, O⟩ Q) :
    WpL P n m G md ops ({ dst := some d, op := .slice t x (some y) none none, type := tt, pos := pos, after := after, guard := none } :: l) ⟨T, O⟩ Q := by
  subst hoff
  exact WpL.pure rfl rfl hn (fun S ι F a w hr => by
    obtain ⟨hu, inf, z, hinf, _, hk, _, _, hk0, _⟩ := hP.slice ht
    have hv := hr.eval x
    rw [show av (St.mk T O).T x = _ from hx] at hv
    have hye := hr.sc hy
    have hown : OwnAt (ι id) ob.size 0 len (a.eval x) := by
      cases hv with
      | own q1 q2 q3 r =>
        rw [show (St.mk T O).O[id]? = some ob from ho] at q1
        cases q1
        exact q3 he.symm
    cases hs : ι id with
    | none =>
      rw [hs] at hown
      obtain ⟨_, _, hl⟩ := hown
      omega
    | some p =>
      obtain ⟨bb, kb⟩ := p
      rw [hs] at hown
      obtain ⟨cap, hxe, h1, h2, h3⟩ := hown
      have hrun := run_sliceSl hu hinf hk ⟨bb, 0, none⟩ len cap (some (.int kk j)) none j len (.inr ⟨kk, rfl⟩) (.inl ⟨rfl, rfl⟩) (by omega) w
      have e1 : (if cap = j then (⟨bb, 0, none⟩ : Addr) else (⟨bb, 0, none⟩ : Addr).add (j * k)) = ⟨bb, j * k, none⟩ := by
        rw [if_neg (by omega), addr_add]; simp
      rw [e1] at hrun
      refine ⟨.slice (some ⟨bb, j * k, none⟩) (len - j) (cap - j), by simp [execOp, hxe, hye, hrun, Sem.run_bind], .own ho (by omega) (fun _ => by
        rw [hs]
        refine ⟨cap - j, rfl, ?_, by omega, by omega⟩
        rw [hsz] at h1 ⊢
        rw [Nat.sub_mul]
        have := Nat.mul_le_mul_right k (show j ≤ cap by omega)
        omega) .nil⟩) h
end Go.Proofs.YtjhejgamjlokdaaGreat


namespace Go.Abs
open Go
inductive AllV (tab : List (Nat × Ty)) (T : List (Nat × AV)) (O : List AObj) : List ResultVar → List AV → Prop
  | nil : AllV tab T O [] []
  | cons {r V rs Vs} : ResV tab T O r V → AllV tab T O rs Vs → AllV tab T O (r :: rs) (V :: Vs)
inductive ResW (tab : List (Nat × Ty)) (m : Nat) (N : List AObj) (r : AV) : Array ResultVar → St → Prop
  | mk {rs Vs T O ids} : 2 ≤ rs.length → AllV tab T O rs Vs → NEx O ids N → (ids.filterMap id).Nodup → preB ids m 0 = true → Ex O ids [.tup Vs] [r] → ResW tab m N r rs.toArray ⟨T, O⟩
def FinW (tab : List (Nat × Ty)) (m : Nat) (rs : Array ResultVar) (N : List AObj) (r : AV) : Exit → St → Prop
  | .ret, σ => ResW tab m N r rs σ
  | .normal, σ => ResW tab m N r rs σ
  | _, _ => False
section
variable {P : Program} {n m : Nat} {G : Ctx} {T : List (Nat × AV)} {O : List AObj} {tab : List (Nat × Ty)}
theorem AllV.rel (hP : TabOk P tab) {S ι F a w} (hr : RelAt n m G S ι F ⟨T, O⟩ a w) {rs : List ResultVar} {Vs : List AV} (h : AllV tab T O rs Vs) : ∃ vs : List Value, vs.length = rs.length ∧ (rs.mapM (resSem a.tmps)).run P w = .ok vs w ∧ LRel S w ι O Vs vs [] := by
  induction h with
  | nil => exact ⟨[], rfl, rfl, .nil⟩
  | cons h1 _ ih =>
    obtain ⟨v, hv, hV⟩ := ResV.rel hP hr h1
    obtain ⟨vs, hl, hm, hV2⟩ := ih
    refine ⟨v :: vs, by simp [hl], ?_, by simpa using LRel.cons hV hV2⟩
    rw [List.mapM_cons]
    simp only [Sem.run_bind, hv, hm, Result.andThen_ok, Sem.run_pure]
theorem run_resultsW {fn : Func} {tmps : Array Value} {rs : List ResultVar} {vs : List Value} {w : World} (h : fn.results = rs.toArray) (h2 : 2 ≤ vs.length) (hm : (rs.mapM (resSem tmps)).run P w = .ok vs w) : (results fn tmps).run P w = .ok (.tuple vs.toArray) w := by
  rw [results_eq, h]
  have e : (Array.mapM (resSem tmps) rs.toArray) = (do let l ← rs.mapM (resSem tmps); pure l.toArray) := by
    rw [List.mapM_toArray]
    try rfl
  rw [e]
  simp only [Sem.run_bind, hm, Result.andThen_ok, Sem.run_pure]
  have : ¬ vs.toArray.size = 1 := by simp; omega
  rw [dif_neg this]
theorem ResW.out (hP : TabOk P tab) {rs : Array ResultVar} {N : List AObj} {r : AV} {σ : St} {a : Act} {w : World} {fn : Func} (hn : 0 < n) (hfr : fn.results = rs) (h : ResW tab m N r rs σ) (hr : Rel n m G σ a w) :
    ∃ v, (results fn a.tmps).run P w = .ok v w ∧ ∃ S' ι F, (∀ b, G.S0 b → S' b) ∧ (∀ b, S' b → G.S0 b ∨ G.w0.heap.size ≤ b) ∧ (∀ b, S' b → b < w.heap.size) ∧ (∀ id, id < m → ι id = G.ι0 id) ∧ ORel S' w ι N F ∧
      (∀ id, id < N.length → ∀ b ∈ F id, (G.M0 b ∨ G.w0.heap.size ≤ b) ∧ ¬ S' b ∧ b < w.heap.size) ∧ VRel S' w ι N r v [] ∧ Keeps G.w0 G.M0 w := by
  cases h with
  | @mk rs Vs T O ids h2 hv hN hnd hpre hex =>
    obtain ⟨S, ι, F, hr⟩ := hr
    obtain ⟨vs, hl, hm, hV⟩ := hv.rel hP hr
    have hT : VRel S w ι O (.tup Vs) (.tuple vs.toArray) [] := by simpa using LRel.tup hV .nil
    refine ⟨.tuple vs.toArray, run_resultsW hfr (by omega) hm, ?_⟩
    have hr2 : Rel n m G ⟨(0, .tup Vs) :: T, O⟩ _ w := ⟨S, ι, F, hr.put hn hT⟩
    let fn2 : Func := { fn with results := #[.tmp 0] }
    obtain ⟨v2, hv2, h3⟩ := ResG.out (fn := fn2) hP rfl (ResG.one (ids := ids) (ResV.tmp (t := 0) rfl) hN hnd hpre hex) hr2
    have e : v2 = .tuple vs.toArray := by
      have hs : 0 < a.tmps.size := by rw [hr.size]; exact hn
      have hg : (resSem (a.put (some 0) (.tuple vs.toArray)).tmps (.tmp 0)).run P w = .ok (.tuple vs.toArray) w := by
        simp [resSem, Act.put, hs]
      have := run_results1 (P := P) (fn := fn2) (r1 := .tmp 0) (w := w) rfl hg
      rw [this] at hv2
      cases hv2; rfl
    rw [e] at h3
    exact h3
def FinXW (tab : List (Nat × Ty)) (m : Nat) (rs : Array ResultVar) (β : Type) (C : β → Prop) (MN : β → List AObj) (r : β → AV) : Exit → St → Prop
  | .ret, σ => ∃ y, C y ∧ ResW tab m (MN y) (r y) rs σ
  | .normal, σ => ∃ y, C y ∧ ResW tab m (MN y) (r y) rs σ
  | _, _ => False
theorem FnX.of_bodyW {pv : List Value} {pa : List AV} {β : Type} {C : β → Prop} {MX NX : β → List AObj} {rX : β → AV} (hP : TabOk P tab) {f : FuncId} {fn : Func} {c : Code} {args : List AV} {M : List AObj} {k : Nat} (hk0 : 0 < k) (hf : P.funcs[f]? = some fn) (hnt : fn.ntmps = k) (hb : fn.body = some c) (hnm : (fn.name == "runtime.NumGoroutine") = false)
    (hal : args.length ≤ k) (hml : M.length = m) (hps : pa.all AV.still = true) (h : ∀ G, Pin G pv pa → WpA P k m G c ⟨enumT 0 args, M⟩ (FinXW tab m fn.results β C (fun y => MX y ++ NX y) rX)) : FnX P f args M pv pa β C MX NX rX := by
  refine ⟨⟨fn, hf, by rw [hb]; rfl, hnm⟩, fun w S ι F vs hS hO hF hl hpin => ?_⟩
  have hvl : vs.length = args.length := hl.len.symm
  refine calls_of_wp hf hb ?_
  have hrel : Rel k m ⟨w, S, fun b => ∃ i, i < M.length ∧ b ∈ F i, ι⟩ ⟨enumT 0 args, M⟩ { tmps := vs.toArray ++ Array.replicate (fn.ntmps - vs.toArray.size) undef, defers := [] } w := by
    refine ⟨S, ι, F, rfl, ?_, fun t => ?_, hO, fun id hid b hb => ⟨.inl ⟨id, hid, hb⟩, hF id hid b hb⟩, ⟨fun _ h => h, fun _ h => .inl h⟩, hS, Keeps.refl _ _, fun _ _ => rfl, by show m ≤ M.length; omega⟩
    · simp [hnt]; omega
    · show VRel S w ι M (look (enumT 0 args) t) _ []
      rw [look_enumT]
      simp only [Nat.zero_le, if_true, Nat.sub_zero]
      by_cases ht : t < args.length
      · obtain ⟨x, g, hx, hV, hg⟩ := hl.get (List.getElem?_eq_getElem ht)
        have hg0 : g = [] := List.eq_nil_iff_forall_not_mem.2 fun b hb => by simpa using hg b hb
        subst hg0
        have e1 : args.getD t .any = args[t] := by simp [ht]
        have e2 : (vs.toArray ++ Array.replicate (fn.ntmps - vs.toArray.size) undef).getD t undef = x := by
          have : t < vs.length := by omega
          rw [List.getElem?_eq_getElem this] at hx
          simp only [Option.some.injEq] at hx
          simp [Array.getD_eq_getD_getElem?, Array.getElem?_append, this, hx]
        rw [e1, e2]; exact hV
      · have e1 : args.getD t .any = .any := by simp [List.getElem?_eq_none (Nat.le_of_not_lt ht)]
        rw [e1]; exact .any .nil
  refine wp_mono (h ⟨w, S, fun b => ∃ i, i < M.length ∧ b ∈ F i, ι⟩ ⟨hpin, hps, fun b hb => ⟨fun ⟨i, hi, hbf⟩ => (hF i hi b hbf).1 hb, hS b hb⟩⟩ _ _ hrel) fun e a' w' ⟨σ', hq, hr'⟩ => ?_
  have hdef : a'.defers = [] := by obtain ⟨_, _, _, h⟩ := hr'; exact h.defers
  have key : ∀ (y : β), C y → ∀ v S' ι' F', ((∀ b, S b → S' b) ∧ (∀ b, S' b → S b ∨ w.heap.size ≤ b) ∧ (∀ b, S' b → b < w'.heap.size) ∧ (∀ id, id < m → ι' id = ι id) ∧ ORel S' w' ι' (MX y ++ NX y) F' ∧
      (∀ id, id < (MX y ++ NX y).length → ∀ b ∈ F' id, ((∃ i, i < M.length ∧ b ∈ F i) ∨ w.heap.size ≤ b) ∧ ¬ S' b ∧ b < w'.heap.size) ∧ VRel S' w' ι' (MX y ++ NX y) (rX y) v [] ∧ Keeps w (fun b => ∃ i, i < M.length ∧ b ∈ F i) w') →
      ∃ y, C y ∧ ∃ v' S' ι' F', Ending.returned v = .returned v' ∧ (∀ b, S b → S' b) ∧ (∀ b, S' b → S b ∨ w.heap.size ≤ b) ∧ (∀ b, S' b → b < w'.heap.size) ∧ (∀ id, id < M.length → ι' id = ι id) ∧ ORel S' w' ι' (MX y ++ NX y) F' ∧
      (∀ id, id < (MX y ++ NX y).length → ∀ b ∈ F' id, ((∃ i, i < M.length ∧ b ∈ F i) ∨ w.heap.size ≤ b) ∧ ¬ S' b ∧ b < w'.heap.size) ∧ VRel S' w' ι' (MX y ++ NX y) (rX y) v' [] ∧ Keeps w (fun b => ∃ i, i < M.length ∧ b ∈ F i) w' :=
    fun y hy v S' ι' F' ⟨q1, q2, q3, q4, q5⟩ => ⟨y, hy, v, S', ι', F', rfl, q1, q2, q3, by rw [hml]; exact q4, q5⟩
  cases e with
  | normal =>
    obtain ⟨y, hy, hq⟩ := hq
    obtain ⟨v, hv, S', ι', F', q⟩ := ResW.out hP hk0 rfl hq hr'
    exact ⟨hdef, v, hv, key y hy v S' ι' F' q⟩
  | ret =>
    obtain ⟨y, hy, hq⟩ := hq
    obtain ⟨v, hv, S', ι', F', q⟩ := ResW.out hP hk0 rfl hq hr'
    exact ⟨hdef, v, hv, key y hy v S' ι' F' q⟩
  | _ => exact hq.elim
theorem FnP.of_bodyW (hP : TabOk P tab) {f : FuncId} {fn : Func} {c : Code} {args : List AV} {M M' N MN : List AObj} {pv : List Value} {pa : List AV} {r : AV} {k : Nat} (hk0 : 0 < k) (hf : P.funcs[f]? = some fn) (hnt : fn.ntmps = k) (hb : fn.body = some c) (hnm : (fn.name == "runtime.NumGoroutine") = false)
    (hal : args.length ≤ k) (hml : cnt M.length 0 = some m) (hMN : catF M' N = some MN) (hps : pa.all AV.still = true) (h : ∀ G, Pin G pv pa → WpA P k m G c ⟨enumT 0 args, M⟩ (FinW tab m fn.results MN r)) : FnP P f args M pv pa M' N r := by
  have := catF_eq hMN; subst this
  refine FnX.of_bodyW hP hk0 hf hnt hb hnm hal (cnt_eq hml) hps fun G hp => (h G hp).mono fun e σ hq => ?_
  cases e <;> first | exact ⟨(), trivial, hq⟩ | exact hq.elim
theorem FinW.mk {rs : List ResultVar} {Vs : List AV} {N : List AObj} {r : AV} {e : Exit} (ids : List (Option Nat)) (he : endB e = true) (h2 : 2 ≤ rs.length) (hv : AllV tab T O rs Vs) (hx : Ex O ids [.tup Vs] [r]) (hN : NEx O ids N) (hd : nodupB (ids.filterMap id) = true) (hp : preB ids m 0 = true) : FinW tab m rs.toArray N r e ⟨T, O⟩ := by
  have h : ResW tab m N r rs.toArray ⟨T, O⟩ := .mk h2 hv hN (nodupB_spec hd) hp hx
  cases e <;> first | exact h | cases he
theorem look_filter (ds : List Nat) (t : Nat) : ∀ T : List (Nat × AV), look (T.filter fun x => !memB x.1 ds) t = look T t ∨ look (T.filter fun x => !memB x.1 ds) t = .any
  | [] => .inl rfl
  | (k, V) :: T => by
    have ih := look_filter ds t T
    by_cases hm : memB k ds = true
    · rw [List.filter_cons_of_neg (by simp [hm])]
      by_cases e : k = t
      · subst e
        refine .inr ?_
        clear ih
        induction T with
        | nil => rfl
        | cons y T ih2 =>
          obtain ⟨k2, V2⟩ := y
          by_cases hm2 : memB k2 ds = true
          · rw [List.filter_cons_of_neg (by simp [hm2])]; exact ih2
          · rw [List.filter_cons_of_pos (by simp [hm2])]
            have hne : k2 ≠ k := by rintro rfl; exact hm2 hm
            rw [look_cons_other _ _ _ _ hne]
            exact ih2
      · rw [look_cons_other _ _ _ _ e]; exact ih
    · rw [List.filter_cons_of_pos (by simp [hm])]
      by_cases e : k = t
      · subst e; exact .inl (by rw [look_cons_same, look_cons_same])
      · rw [look_cons_other _ _ _ _ e, look_cons_other _ _ _ _ e]; exact ih
theorem Weak.drop {T T' : List (Nat × AV)} {O : List AObj} (ds : List Nat) (h : (T.filter fun x => !memB x.1 ds) = T') : Weak m ⟨T, O⟩ ⟨T', O⟩ := by
  subst h
  rintro n G a w ⟨S, ι, F, hr⟩
  refine ⟨S, ι, F, hr.defers, hr.size, fun t => ?_, hr.objs, hr.foot, hr.base, hr.stable, hr.keeps, hr.spots, hr.mle⟩
  have h1 := hr.tmps t
  rcases look_filter ds t T with e | e
  · show VRel S w ι O (look _ t) _ []; rw [e]; exact h1
  · show VRel S w ι O (look _ t) _ []; rw [e]; exact .any .nil
def dropF (ds : List Nat) : List (Nat × AV) → Option (List (Nat × AV))
  | [] => some []
  | (k, V) :: T => match dropF ds T with
    | some T' => (match memB k ds with | true => some T' | false => some ((k, V) :: T'))
    | none => none
theorem dropF_eq (ds : List Nat) : ∀ {T T' : List (Nat × AV)}, dropF ds T = some T' → (T.filter fun x => !memB x.1 ds) = T'
  | [], T', h => by cases h; rfl
  | (k, V) :: T, T', h => by
    unfold dropF at h
    cases h1 : dropF ds T with
    | none => rw [h1] at h; cases h
    | some T1 =>
      have ih := dropF_eq ds h1
      rw [h1] at h
      cases hm : memB k ds with
      | true => simp only [hm, Option.some.injEq] at h; rw [List.filter_cons_of_neg (by simp [hm]), ih, h]
      | false => simp only [hm, Option.some.injEq] at h; rw [List.filter_cons_of_pos (by simp [hm]), ih, h]
theorem Weak.dropS {T T' : List (Nat × AV)} {O : List AObj} (ds : List Nat) (h : dropF ds T = some T') : Weak m ⟨T, O⟩ ⟨T', O⟩ := Weak.drop ds (dropF_eq ds h)
end
section
variable {P : Program} {n m : Nat} {G : Ctx} {ops : Array Oper} {T0 : List (Nat × AV)}
theorem HeadG.hole9 {fs fs2 O o l out ks ds Os O' F d V ob} (hd : o.dst = some d) (hm : mayStep o = false) (hO : O[9]? = some ob) (hF : gdepsF fs o.after.toList = some F) (h : ∀ Tv x0 x1 x2 x3 x4 x5 x6 x7 x8 R, WpL P n m G false ops [o] ⟨F ++ (T0 ++ Tv), x0 :: x1 :: x2 :: x3 :: x4 :: x5 :: x6 :: x7 :: x8 :: ob :: R⟩ (Only ⟨(d, V) :: (F ++ (T0 ++ Tv)), x0 :: x1 :: x2 :: x3 :: x4 :: x5 :: x6 :: x7 :: x8 :: ob :: R⟩))
    (hs : catF fs [some (d, V)] = some fs2) (r : HeadG P n m G ops T0 fs2 O l out ks ds Os O') : HeadG P n m G ops T0 fs O (o :: l) (some (d, V) :: out) (0 :: ks) (some [none, none, none, none, none, none, none, none, none, some ob] :: ds) Os O' := by
  have := catF_eq hs; subst this
  refine .still (gdepsF_eq hF) (by decide) (.pre [none, none, none, none, none, none, none, none, none, some ob] hd fun Tv Ov hp => ?_) r
  obtain ⟨x0, R0, rfl, hp0⟩ := hp.un
  obtain ⟨x1, R1, rfl, hp1⟩ := hp0.un
  obtain ⟨x2, R2, rfl, hp2⟩ := hp1.un
  obtain ⟨x3, R3, rfl, hp3⟩ := hp2.un
  obtain ⟨x4, R4, rfl, hp4⟩ := hp3.un
  obtain ⟨x5, R5, rfl, hp5⟩ := hp4.un
  obtain ⟨x6, R6, rfl, hp6⟩ := hp5.un
  obtain ⟨x7, R7, rfl, hp7⟩ := hp6.un
  obtain ⟨x8, R8, rfl, hp8⟩ := hp7.un
  obtain ⟨R, rfl⟩ := hp8.un1
  exact h Tv x0 x1 x2 x3 x4 x5 x6 x7 x8 R
end
end Go.Abs


namespace Go.Proofs.YtjhejgamjlokdaaGreat
open Go Go.Abs
attribute [local irreducible] WpA WpL Rnd Blk Abs.Seq Abs.Fin Abs.FinG FnC FnG FnX FnP FinX Only
attribute [local irreducible] belowD onceD pickD modeD l8D l8AnyD optD anyD seedD headD headAnyD symL HasC blkD lev25D frK frD
attribute [local simp] Abs.setL
abbrev FrSub (k : Nat) (f : Fr3) : AV := .agg [I f.w, I f.h, .own k 0 f.o (f.p.length - f.o)]
instance l18Any_p : ConP 106 (∀ (v : Value) (l : List Int) (c : Cr), CrOk l c → Pn 106 v l c [] (frAnyD l c).1 [XI (frAnyD l c).2.p] (FrSub 1 (frAnyD l c).2)) := ⟨fun v l c h => by
  have ho := frD_ok h
  have ho1 := ho.1
  have hp1 := ho.2.2.2.1
  have hp2 := ho.2.2.2.2.1
  have hoo := ho.2.2.2.2.2
  unfold FrSub
  have hs := belowD_ok 16 ho1
  have hsc := hs.1
  have hs0 := hs.2.1
  have hs1 := hs.2.2.1 (by decide)
  by_cases h0 : (belowD l (frD l c).1 16).2 = 0
  · rw [frAnyD_0 h0]
    have hi := belowD_ok ((frD l c).2.p.length : Int) hsc
    have hi0 := hi.2.1
    have hi1 := hi.2.2.1 (by omega)
    have hic := hi.1
    rw [List.length_set, hoo, Nat.sub_zero]
    refine FnP.of_body tabOk Tryz.func106 Tryz.ntmps106 rfl (by decide +kernel) (by simp) rfl rfl rfl fun G hp => ?_
    refine goR (r := ?_); and_intros <;> intros <;> try exact True.intro
    all_goals first | contradiction | exact h.2.1 | exact h.2.2 | exact ho1.2.1 | exact ho1.2.2 | omega | skip
    apply WpA.regionSF (O := []) (Or := [CurO v (belowD l (frD l c).1 16).1, ⟨[I 0, I 0, .nilS], 0, 0, none⟩, XI (frD l c).2.p, ⟨[I (frD l c).2.w, I (frD l c).2.h, .own 2 0 0 (frD l c).2.p.length], 0, 0, none⟩]) (O1 := [CurO v (pickD l (belowD l (belowD l (frD l c).1 16).1 (frD l c).2.p.length).1 [-1, 256]).1, ⟨[I 0, I 0, .nilS], 0, 0, none⟩, XI (frD l c).2.p, ⟨[I (frD l c).2.w, I (frD l c).2.h, .own 2 0 0 (frD l c).2.p.length], 0, 0, none⟩, ⟨ints [-1, 256], 1, 1, some 3⟩, deadO]) 10 1 [2, 3] [0] rfl mixed (by decide +kernel)
    · exact rfl
    · apply HeadS.consF .none rfl
      · exact rfl
      · exact rfl
      · intro Tv Ov hc hp' hd hk
        obtain ⟨x0, x1, x2, R, rfl⟩ := Abs.split4 (hk 3 rfl)
        exact in1
      · exact rfl
      · exact rfl
      apply HeadS.consF .none rfl
      · exact rfl
      · exact rfl
      · intro Tv Ov hc hp' hd hk
        obtain ⟨x0, x1, x2, R, rfl⟩ := Abs.split4 (hk 3 rfl)
        exact in1
      · exact rfl
      · exact rfl
      apply HeadS.consF .none rfl
      · exact rfl
      · exact rfl
      · exact in1
      · exact rfl
      · exact rfl
      apply HeadS.consF .none rfl
      · exact rfl
      · exact rfl
      · intro Tv Ov hc hp' hd hk
        obtain ⟨x0, x1, x2, R, rfl⟩ := Abs.split4 (hk 3 rfl)
        exact in1
      · exact rfl
      · exact rfl
      apply HeadS.consF .none rfl
      · exact rfl
      · exact rfl
      · intro Tv Ov hc hp' hd hk
        obtain ⟨x0, x1, x2, R, rfl⟩ := Abs.split4 (hk 3 rfl)
        exact in1
      · exact rfl
      · exact rfl
      apply HeadS.consF .none rfl
      · exact rfl
      · exact rfl
      · intro Tv Ov hc hp' hd hk
        obtain ⟨A0, A1, R0, rfl⟩ := Abs.split3 (hk 2 rfl)
        exact in1
      · exact rfl
      · exact rfl
      apply HeadS.consF (V := I (belowD l (belowD l (frD l c).1 16).1 (frD l c).2.p.length).2) (.step 0 (CurO v (belowD l (belowD l (frD l c).1 16).1 (frD l c).2.p.length).1)) rfl
      · exact rfl
      · exact rfl
      · intro Tv Ov hc hp' hd hk
        obtain ⟨R, rfl⟩ := split1 (hp' 0 _ rfl)
        refine K.call ?_
        refine K.conP (fun hcon => ?_)
        refine WpL.callP1 (hcon v l (belowD l (frD l c).1 16).1 (frD l c).2.p.length hsc) hp handA handOA rfl (.cons rfl (.sc (.sc (.sc .nil))) .nil) (by decide) ?_
        exact WpL.nil (Only.mk rfl)
      · exact rfl
      · exact rfl
      apply HeadS.consF .none rfl
      · exact rfl
      · exact rfl
      · exact in1
      · exact rfl
      · exact rfl
      apply HeadS.consF (V := .own 4 1 0 2) (.put 4 (⟨ints [-1, 256], 1, 1, some 3⟩)) rfl
      · exact rfl
      · exact rfl
      · intro Tv Ov hc hp' hd hk
        refine WpL.litInts tabOk rfl rfl rfl rfl rfl (by decide) (by rw [nid_len, Nat.zero_add]) (by decide) ?_
        apply WpL.putNil (p := 4)
        · exact hp' 4 _ rfl
        · exact Nat.le_of_ble_eq_true rfl
        · exact rfl
        · first | exact still_ints _ | exact still_rows (fun _ => rfl) _ | rfl
      · exact rfl
      · exact rfl
      apply HeadS.consF (V := I (pickD l (belowD l (belowD l (frD l c).1 16).1 (frD l c).2.p.length).1 [-1, 256]).2) (.step 0 (CurO v (pickD l (belowD l (belowD l (frD l c).1 16).1 (frD l c).2.p.length).1 [-1, 256]).1)) rfl
      · exact rfl
      · exact rfl
      · intro Tv Ov hc hp' hd hk
        obtain ⟨a1, a2, a3, R, rfl⟩ := split04 (hp' 0 _ rfl) (hd 8 _ 4 _ (by decide) rfl rfl rfl)
        refine K.call ?_
        refine K.conP (fun hcon => ?_)
        refine WpL.callP1 (hcon v l (belowD l (belowD l (frD l c).1 16).1 (frD l c).2.p.length).1 [-1, 256] ⟨hic, by decide, by decide⟩) hp handA handOA rfl (.cons rfl (.sc (.sc (.sc .nil))) .nil) (by decide) ?_
        exact WpL.nil (Only.mk rfl)
      · exact rfl
      · exact rfl
      exact HeadS.nil
    · exact rfl
    · exact rfl
    · exact rfl
    · exact rfl
    · exact rfl
    · exact rfl
    · exact rfl
    refine go (r := ?_); and_intros <;> intros <;> try exact True.intro
    all_goals first | contradiction | omega | trace_state
  by_cases h1 : (belowD l (frD l c).1 16).2 = 1
  · rw [frAnyD_1 h1, hoo, Nat.sub_zero]
    have hw := ho.2.1
    refine FnP.of_body tabOk Tryz.func106 Tryz.ntmps106 rfl (by decide +kernel) (by simp) rfl rfl rfl fun G hp => ?_
    refine go (r := ?_); and_intros <;> intros <;> try exact True.intro
    all_goals first | contradiction | exact h.2.1 | exact h.2.2 | exact ho1.2.1 | exact ho1.2.2 | exact hsc.2.1 | exact hsc.2.2 | omega | (simp [Abs.setL]; done) | (simp; done) | trace_state
  by_cases h2 : (belowD l (frD l c).1 16).2 = 2
  · rw [frAnyD_2 h2]
    refine FnP.of_body tabOk Tryz.func106 Tryz.ntmps106 rfl (by decide +kernel) (by simp) rfl rfl rfl fun G hp => ?_
    refine go (r := ?_); and_intros <;> intros <;> try exact True.intro
    all_goals first | contradiction | exact h.2.1 | exact h.2.2 | exact ho1.2.1 | exact ho1.2.2 | omega | skip
    refine K.sl ?_
    refine subOwnLo (j := 1) (off := 1) tabOk rfl rfl rfl rfl rfl rfl (by omega) rfl (by decide) ?_
    refine go (r := ?_); and_intros <;> intros <;> try exact True.intro
    all_goals first | contradiction | omega | trace_state
  · rw [frAnyD_3 h0 h1 h2, hoo, Nat.sub_zero]
    refine FnP.of_body tabOk Tryz.func106 Tryz.ntmps106 rfl (by decide +kernel) (by simp) rfl rfl rfl fun G hp => ?_
    refine go (r := ?_); and_intros <;> intros <;> try exact True.intro
    all_goals first | contradiction | exact h.2.1 | exact h.2.2 | exact ho1.2.1 | exact ho1.2.2 | omega | trace_state⟩
section
attribute [local irreducible] frAnyD
theorem mul_q {n b : Int} (hn : n = 4 ∨ n = 8) (hb : 0 ≤ b ∧ b ≤ 1000) : -9223372036854775808 ≤ n * b ∧ n * b ≤ 9223372036854775807 := by rcases hn with rfl | rfl <;> omega
abbrev SpT (k : Nat) (s : Spt) : AV := .tup [FrSub k s.f, I s.x, I s.y, I s.n]
instance l18Spot_p : ConP 78 (∀ (v : Value) (l : List Int) (c : Cr), CrOk l c → Pn 78 v l c [] (spotD l c).1 [XI (spotD l c).2.f.p] (SpT 1 (spotD l c).2)) := ⟨fun v l c h => by
  have ho := frAnyD_ok h
  obtain ⟨s1, s2, s3, s4, s5, s6⟩ := spotD_crs h
  have hw := ho.2.1
  have hh := ho.2.2.1
  have hw8 : 0 ≤ (frAnyD l c).2.w / (sN l c).2 ∧ (frAnyD l c).2.w / (sN l c).2 ≤ 40 := by rcases s6 with e | e <;> rw [e] <;> omega
  have hh8 : 0 ≤ (frAnyD l c).2.h / (sN l c).2 ∧ (frAnyD l c).2.h / (sN l c).2 ≤ 40 := by rcases s6 with e | e <;> rw [e] <;> omega
  have hx := belowD_ok (max 1 ((frAnyD l c).2.w / (sN l c).2)) s2
  have hx0 := hx.2.1
  have hx1 := hx.2.2.1 (by omega)
  have hy := belowD_ok (max 1 ((frAnyD l c).2.h / (sN l c).2)) s3
  have hy0 := hy.2.1
  have hy1 := hy.2.2.1 (by omega)
  have hk := belowD_ok 14 s4
  have hk0 := hk.2.1
  have hk1 := hk.2.2.1 (by decide)
  have m1 := mul_q s6 (b := (sX l c).2) ⟨hx0, by show (belowD l _ _).2 ≤ 1000; omega⟩
  have m2 := mul_q s6 (b := (sY l c).2) ⟨hy0, by show (belowD l _ _).2 ≤ 1000; omega⟩
  by_cases h0 : (sK l c).2 = 0
  · rw [spotD_0 h0]
    simp only [sN, sX, sY, sK] at *
    refine FnP.of_bodyW tabOk (by decide) Tryz.func78 Tryz.ntmps78 rfl (by decide +kernel) (by simp) rfl rfl rfl fun G hp => ?_
    refine go (r := ?_); and_intros <;> intros <;> try exact True.intro
    all_goals first | contradiction | exact h.2.1 | exact h.2.2 | exact s1.2.1 | exact s1.2.2 | exact s2.2.1 | exact s2.2.2 | exact s3.2.1 | exact s3.2.2 | exact s4.2.1 | exact s4.2.2 | exact s5.2.1 | exact s5.2.2 | omega | (simp; done) | skip
    all_goals first | exact FinW.mk (rs := [_, _, _, _]) [some 0, some 2] rfl (by decide) (.cons (ResV.cell (ds := [_, _, _]) rfl rfl rfl rfl rfl) (.cons (ResV.tmp rfl) (.cons (ResV.tmp rfl) (.cons (ResV.tmp rfl) .nil)))) (.tup (.agg (.keep rfl rfl rfl (.keep rfl rfl rfl (.own rfl rfl rfl rfl .nil))) (.keep rfl rfl rfl (.keep rfl rfl rfl (.keep rfl rfl rfl .nil)))) .nil) (.obj rfl rfl rfl rfl rfl (.inr rfl) (.obj rfl rfl (still_ints _) rfl rfl (.inr rfl) .nil)) rfl rfl | trace_state
  by_cases h1 : (sK l c).2 = 1
  · rw [spotD_1 h1]
    simp only [sN, sX, sY, sK] at *
    refine FnP.of_bodyW tabOk (by decide) Tryz.func78 Tryz.ntmps78 rfl (by decide +kernel) (by simp) rfl rfl rfl fun G hp => ?_
    refine go (r := ?_); and_intros <;> intros <;> try exact True.intro
    all_goals first | contradiction | exact h.2.1 | exact h.2.2 | exact s1.2.1 | exact s1.2.2 | exact s2.2.1 | exact s2.2.2 | exact s3.2.1 | exact s3.2.2 | exact s4.2.1 | exact s4.2.2 | exact s5.2.1 | exact s5.2.2 | omega | (simp; done) | skip
    all_goals first | exact FinW.mk (rs := [_, _, _, _]) [some 0, some 2] rfl (by decide) (.cons (ResV.cell (ds := [_, _, _]) rfl rfl rfl rfl rfl) (.cons (ResV.tmp rfl) (.cons (ResV.tmp rfl) (.cons (ResV.tmp rfl) .nil)))) (.tup (.agg (.keep rfl rfl rfl (.keep rfl rfl rfl (.own rfl rfl rfl rfl .nil))) (.keep rfl rfl rfl (.keep rfl rfl rfl (.keep rfl rfl rfl .nil)))) .nil) (.obj rfl rfl rfl rfl rfl (.inr rfl) (.obj rfl rfl (still_ints _) rfl rfl (.inr rfl) .nil)) rfl rfl | trace_state
  · rw [spotD_2 h0 h1]
    simp only [sN, sX, sY, sK] at *
    refine FnP.of_bodyW tabOk (by decide) Tryz.func78 Tryz.ntmps78 rfl (by decide +kernel) (by simp) rfl rfl rfl fun G hp => ?_
    refine go (r := ?_); and_intros <;> intros <;> try exact True.intro
    all_goals first | contradiction | exact h.2.1 | exact h.2.2 | exact s1.2.1 | exact s1.2.2 | exact s2.2.1 | exact s2.2.2 | exact s3.2.1 | exact s3.2.2 | exact s4.2.1 | exact s4.2.2 | exact s5.2.1 | exact s5.2.2 | omega | (simp; done) | skip
    all_goals first | exact FinW.mk (rs := [_, _, _, _]) [some 0, some 2] rfl (by decide) (.cons (ResV.cell (ds := [_, _, _]) rfl rfl rfl rfl rfl) (.cons (ResV.tmp rfl) (.cons (ResV.tmp rfl) (.cons (ResV.tmp rfl) .nil)))) (.tup (.agg (.keep rfl rfl rfl (.keep rfl rfl rfl (.own rfl rfl rfl rfl .nil))) (.keep rfl rfl rfl (.keep rfl rfl rfl (.keep rfl rfl rfl .nil)))) .nil) (.obj rfl rfl rfl rfl rfl (.inr rfl) (.obj rfl rfl (still_ints _) rfl rfl (.inr rfl) .nil)) rfl rfl | trace_state⟩
end
end Go.Proofs.YtjhejgamjlokdaaGreat


namespace Go.Proofs.YtjhejgamjlokdaaGreat
open Go Go.Abs
attribute [local irreducible] WpA WpL Rnd Blk Abs.Seq Abs.Fin Abs.FinG FnC FnG FnX FnP FinX Only
attribute [local irreducible] belowD onceD pickD modeD l8D l8AnyD optD anyD seedD headD headAnyD symL HasC blkD lev25D frK frD
theorem headA9 {X : Prop} (h : X := by
  (repeat' (first
  | exact Abs.HeadG.nil
  | (apply HeadG.fixedF rfl rfl rfl (by decide +kernel)
     · exact rfl
     · exact in0
     · exact rfl)
  | (apply HeadG.preF 0 rfl rfl rfl
     · exact rfl
     · exact in0
     · exact rfl)
  | (apply HeadG.hole0 rfl rfl rfl
     · exact rfl
     · exact in0
     · exact rfl)
  | (apply HeadG.hole1 rfl rfl rfl
     · exact rfl
     · exact in0
     · exact rfl)
  | (apply HeadG.hole2 rfl rfl rfl
     · exact rfl
     · exact in0
     · exact rfl)
  | (apply HeadG.hole3 rfl rfl rfl
     · exact rfl
     · exact in0
     · exact rfl)
  | (apply HeadG.hole4 rfl rfl rfl
     · exact rfl
     · exact in0
     · exact rfl)
  | (apply HeadG.hole5 rfl rfl rfl
     · exact rfl
     · exact in0
     · exact rfl)
  | (apply HeadG.hole6 rfl rfl rfl
     · exact rfl
     · exact in0
     · exact rfl)
  | (apply HeadG.hole7 rfl rfl rfl
     · exact rfl
     · exact in0
     · exact rfl)
  | (apply HeadG.hole8 rfl rfl rfl
     · exact rfl
     · exact in0
     · exact rfl)
  | (apply HeadG.hole9 rfl rfl rfl
     · exact rfl
     · exact in0
     · exact rfl)
  | (apply HeadG.stepF rfl rfl
     · exact rfl
     · exact in1
     · exact rfl)
  | (apply HeadG.stepNF rfl
     · exact rfl
     · exact in1
     · exact rfl)))
  first | done | fail) : X := h
theorem fieldRd1 {n m : Nat} {G : Ctx} {T : List (Nat × AV)} {O : List AObj} {Q : Exit → St → Prop} {ops : Array Oper} {l : List Oper} {tt : TypeId} {pos : String} {after : Array Edge} {d : Nat} {md : Bool} {x : Operand} {V1 V2 : AV} (hx : av T x = .agg [V1, V2]) (hn : d < n) (h : WpL Tryz.prog n m G md ops l ⟨(d, V2) :: T, O⟩ Q) :
    WpL Tryz.prog n m G md ops ({ dst := some d, op := .field 38 x 1, type := tt, pos := pos, after := after, guard := none } :: l) ⟨T, O⟩ Q :=
  WpL.pure rfl rfl hn (fun S ι F a w hr => by
    have hv := hr.eval x
    rw [show av (St.mk T O).T x = _ from hx] at hv
    obtain ⟨us, hus, hl⟩ := LRel.agg_inv hv
    obtain ⟨v1, vs, f1, f2, rfl, h1, hr2, hf⟩ := hl.uncons
    obtain ⟨v2, vs2, f3, f4, rfl, h2, hr3, hf2⟩ := hr2.uncons
    have hf3 : f3 = [] := by simp_all
    rw [hf3] at h2
    have hp : (Go.part 22 (v1 :: v2 :: vs2).toArray 1).run Tryz.prog w = .ok v2 w := by simp [Go.part, isAgg, Sem.run_bind, run_underlying Tryz.underlying22]
    refine ⟨v2, ?_, h2⟩
    simp [execOp, Instr.field, hus, run_underlying Tryz.underlying38, asAgg, hp, Sem.run_bind]) h
section
attribute [local irreducible] spotD frAnyD
abbrev PutT (k : Nat) (A : Put8) : AV := .tup [FrSub k A.s.f, HdOwn (k + 1) A.hd, I A.s.x, I A.s.y, .agg [I A.m, .own (k + 2) 0 0 A.lv.length]]
instance l25Put_p : ConP 45 (∀ (v : Value) (l : List Int) (c : Cr), CrOk l c → Pn 45 v l c [] (putD l c).1 [XI (putD l c).2.s.f.p, XI (putD l c).2.hd.lens, XI (putD l c).2.lv] (PutT 1 (putD l c).2)) := ⟨fun v l c h => by
  obtain ⟨s1, s2, s3, s4, s5, s6, s7⟩ := putD_crs h
  have hn5 := (spotD_ok h).2.1
  by_cases hn : (pS l c).2.n = 4 ∨ (pS l c).2.n = 8
  · have hnd := decide_eq_true hn
    by_cases h6 : (pO l c).2 = true
    · rw [putD_1 hn h6]
      simp only [pS, pH, pM, pL, pO] at *
      refine FnP.of_bodyW tabOk (by decide) Tryz.func45 Tryz.ntmps45 rfl (by decide +kernel) (by simp) rfl rfl rfl fun G hp => ?_
      refine goR (r := ?_); and_intros <;> intros <;> try exact True.intro
      all_goals first | contradiction | exact h.2.1 | exact h.2.2 | exact s1.2.1 | exact s1.2.2 | exact s2.2.1 | exact s2.2.2 | exact s3.2.1 | exact s3.2.2 | exact s4.2.1 | exact s4.2.2 | exact s5.2.1 | exact s5.2.2 | omega | exact absurd ‹(!_) = true› (by rw [h6]; decide) | (simp; done) | skip
      refine WpA.weak (Weak.dropS [4, 5] rfl) ?_
      apply WpA.regionGB 10 mixed (by decide +kernel)
      · exact rfl
      · exact headA9
      · exact trueA
      · exact trueA
      · exact trueA
      · exact demA
      · exact rfl
      · exact rfl
      refine go (r := ?_); and_intros <;> intros <;> try exact True.intro
      all_goals first | contradiction | omega | (simp; done) | skip
      exact FinW.mk (rs := [_, _, _, _, _]) [some 0, some 4, some 6, some 8] rfl (by decide) (.cons (ResV.cell (ds := [_, _, _]) rfl rfl rfl rfl rfl) (.cons (ResV.cell (ds := [_, _, _, _, _, _]) rfl rfl rfl rfl rfl) (.cons (ResV.tmp rfl) (.cons (ResV.tmp rfl) (.cons (ResV.cell (ds := [_, _]) rfl rfl rfl rfl rfl) .nil))))) (.tup (.agg (.keep rfl rfl rfl (.keep rfl rfl rfl (.own rfl rfl rfl rfl .nil))) (.agg (.keep rfl rfl rfl (.keep rfl rfl rfl (.keep rfl rfl rfl (.keep rfl rfl rfl (.keep rfl rfl rfl (.own rfl rfl rfl rfl .nil)))))) (.keep rfl rfl rfl (.keep rfl rfl rfl (.agg (.keep rfl rfl rfl (.own rfl rfl rfl rfl .nil)) .nil))))) .nil) (.obj rfl rfl rfl rfl rfl (.inr rfl) (.obj rfl rfl (still_ints _) rfl rfl (.inr rfl) (.obj rfl rfl (still_ints _) rfl rfl (.inr rfl) (.obj rfl rfl (still_ints _) rfl rfl (.inr rfl) .nil)))) rfl rfl
    · rw [putD_2 hn h6]
      have h6f := h6
      rw [Bool.not_eq_true] at h6f
      simp only [pS, pH, pM, pL, pO] at *
      refine FnP.of_bodyW tabOk (by decide) Tryz.func45 Tryz.ntmps45 rfl (by decide +kernel) (by simp) rfl rfl rfl fun G hp => ?_
      refine goR (r := ?_); and_intros <;> intros <;> try exact True.intro
      all_goals first | contradiction | exact h.2.1 | exact h.2.2 | exact s1.2.1 | exact s1.2.2 | exact s2.2.1 | exact s2.2.2 | exact s3.2.1 | exact s3.2.2 | exact s4.2.1 | exact s4.2.2 | exact s5.2.1 | exact s5.2.2 | omega | exact absurd ‹(!_) = false› (by rw [h6f]; decide) | (simp; done) | skip
      refine fieldRd1 rfl (by decide) ?_
      refine goR (r := ?_); and_intros <;> intros <;> try exact True.intro
      all_goals first | contradiction | omega | (simp; done) | skip
      refine WpA.weak (Weak.dropS [4, 5] rfl) ?_
      apply WpA.regionGB 10 mixed (by decide +kernel)
      · exact rfl
      · exact headA9
      · exact trueA
      · exact trueA
      · exact trueA
      · exact demA
      · exact rfl
      · exact rfl
      refine go (r := ?_); and_intros <;> intros <;> try exact True.intro
      all_goals first | contradiction | omega | (simp; done) | skip
      exact FinW.mk (rs := [_, _, _, _, _]) [some 0, some 4, some 6, some 11] rfl (by decide) (.cons (ResV.cell (ds := [_, _, _]) rfl rfl rfl rfl rfl) (.cons (ResV.cell (ds := [_, _, _, _, _, _]) rfl rfl rfl rfl rfl) (.cons (ResV.tmp rfl) (.cons (ResV.tmp rfl) (.cons (ResV.cell (ds := [_, _]) rfl rfl rfl rfl rfl) .nil))))) (.tup (.agg (.keep rfl rfl rfl (.keep rfl rfl rfl (.own rfl rfl rfl rfl .nil))) (.agg (.keep rfl rfl rfl (.keep rfl rfl rfl (.keep rfl rfl rfl (.keep rfl rfl rfl (.keep rfl rfl rfl (.own rfl rfl rfl rfl .nil)))))) (.keep rfl rfl rfl (.keep rfl rfl rfl (.agg (.keep rfl rfl rfl (.own rfl rfl rfl rfl .nil)) .nil))))) .nil) (.obj rfl rfl rfl rfl rfl (.inr rfl) (.obj rfl rfl (still_ints _) rfl rfl (.inr rfl) (.obj rfl rfl (still_ints _) rfl rfl (.inr rfl) (.obj rfl rfl (still_ints _) rfl rfl (.inr rfl) .nil)))) rfl rfl
  · have hnd := decide_eq_false hn
    rw [putD_0 hn]
    simp only [pS, pH, pM, pL, pO] at *
    refine FnP.of_bodyW tabOk (by decide) Tryz.func45 Tryz.ntmps45 rfl (by decide +kernel) (by simp) rfl rfl rfl fun G hp => ?_
    refine goR (r := ?_); and_intros <;> intros <;> try exact True.intro
    all_goals first | contradiction | exact h.2.1 | exact h.2.2 | exact s1.2.1 | exact s1.2.2 | exact s2.2.1 | exact s2.2.2 | exact s3.2.1 | exact s3.2.2 | exact s4.2.1 | exact s4.2.2 | exact s5.2.1 | exact s5.2.2 | omega | (simp; done) | skip
    refine WpA.weak (Weak.dropS [4, 5] rfl) ?_
    apply WpA.regionGB 10 mixed (by decide +kernel)
    · exact rfl
    · exact headA9
    · exact trueA
    · exact trueA
    · exact trueA
    · exact demA
    · exact rfl
    · exact rfl
    refine go (r := ?_); and_intros <;> intros <;> try exact True.intro
    all_goals first | contradiction | omega | (simp; done) | skip
    exact FinW.mk (rs := [_, _, _, _, _]) [some 0, some 4, some 6, some 8] rfl (by decide) (.cons (ResV.cell (ds := [_, _, _]) rfl rfl rfl rfl rfl) (.cons (ResV.cell (ds := [_, _, _, _, _, _]) rfl rfl rfl rfl rfl) (.cons (ResV.tmp rfl) (.cons (ResV.tmp rfl) (.cons (ResV.cell (ds := [_, _]) rfl rfl rfl rfl rfl) .nil))))) (.tup (.agg (.keep rfl rfl rfl (.keep rfl rfl rfl (.own rfl rfl rfl rfl .nil))) (.agg (.keep rfl rfl rfl (.keep rfl rfl rfl (.keep rfl rfl rfl (.keep rfl rfl rfl (.keep rfl rfl rfl (.own rfl rfl rfl rfl .nil)))))) (.keep rfl rfl rfl (.keep rfl rfl rfl (.agg (.keep rfl rfl rfl (.own rfl rfl rfl rfl .nil)) .nil))))) .nil) (.obj rfl rfl rfl rfl rfl (.inr rfl) (.obj rfl rfl (still_ints _) rfl rfl (.inr rfl) (.obj rfl rfl (still_ints _) rfl rfl (.inr rfl) (.obj rfl rfl (still_ints _) rfl rfl (.inr rfl) .nil)))) rfl rfl
    ⟩
end
section
attribute [local irreducible] putD
theorem DrawPutFast_p (v : Value) (l : List Int) (hl : l.length ≤ 1048576) : FnP Tryz.prog 27 [.sc v] [] [v] [CodA l] [] [XI (putD l (newD l)).2.s.f.p, XI (putD l (newD l)).2.hd.lens, XI (putD l (newD l)).2.lv] (PutT 0 (putD l (newD l)).2) := by
  have hn := newD_ok hl
  refine FnP.of_bodyW tabOk (by decide) Tryz.func27 Tryz.ntmps27 rfl (by decide +kernel) (by simp) rfl rfl rfl fun G hp => ?_
  refine goR (r := ?_); and_intros <;> intros <;> try exact True.intro
  refine K.call ?_
  refine WpL.callN (l1New_p v l hl) hp handA (.cons rfl (.sc (.sc (.sc .nil))) .nil) rfl rfl (by decide) ?_
  refine goR (r := ?_); and_intros <;> intros <;> try exact True.intro
  all_goals first | exact hl | exact hn.2.1 | exact hn.2.2 | skip
  refine WpA.weak (Weak.dropS [4, 5] rfl) ?_
  apply WpA.regionGB 10 mixed (by decide +kernel)
  · exact rfl
  · exact headA9
  · exact trueA
  · exact trueA
  · exact trueA
  · exact demA
  · exact rfl
  · exact rfl
  refine go (r := ?_); and_intros <;> intros <;> try exact True.intro
  all_goals first | contradiction | omega | (simp; done) | skip
  exact FinW.mk (rs := [_, _, _, _, _]) [some 4, some 5, some 6] rfl (by decide) (.cons (ResV.cell (ds := [_, _, _]) rfl rfl rfl rfl rfl) (.cons (ResV.cell (ds := [_, _, _, _, _, _]) rfl rfl rfl rfl rfl) (.cons (ResV.tmp rfl) (.cons (ResV.tmp rfl) (.cons (ResV.cell (ds := [_, _]) rfl rfl rfl rfl rfl) .nil))))) (.tup (.agg (.keep rfl rfl rfl (.keep rfl rfl rfl (.own rfl rfl rfl rfl .nil))) (.agg (.keep rfl rfl rfl (.keep rfl rfl rfl (.keep rfl rfl rfl (.keep rfl rfl rfl (.keep rfl rfl rfl (.own rfl rfl rfl rfl .nil)))))) (.keep rfl rfl rfl (.keep rfl rfl rfl (.agg (.keep rfl rfl rfl (.own rfl rfl rfl rfl .nil)) .nil))))) .nil) (.obj rfl rfl (still_ints _) rfl rfl (.inr rfl) (.obj rfl rfl (still_ints _) rfl rfl (.inr rfl) (.obj rfl rfl (still_ints _) rfl rfl (.inr rfl) .nil))) rfl rfl
instance DrawPutFast_c : Con 27 (∀ l : List Int, l.length ≤ 1048576 → Fn 27 [CodA l] [XI (putD l (newD l)).2.s.f.p, XI (putD l (newD l)).2.hd.lens, XI (putD l (newD l)).2.lv] (PutT 0 (putD l (newD l)).2)) := ⟨fun l hl => FnC.of_pin fun v => DrawPutFast_p v l hl⟩
end
end Go.Proofs.YtjhejgamjlokdaaGreat


namespace Go.Proofs.YtjhejgamjlokdaaGreat
open Go Go.Abs
attribute [local irreducible] WpA WpL Rnd Blk Abs.Seq Abs.Fin Abs.FinG FnC FnG Only
instance sameInts_q : Con 28 (∀ a b : List Int, a.length ≤ 1099511627776 ∧ b.length ≤ 1099511627776 → Fn 28 [IL a, IL b] [] (B (decide (a = b)))) := ⟨fun a b hl => by
  refine FnC.of_body tabOk Tryz.func28 Tryz.ntmps28 rfl (by decide +kernel) (by simp) fun G => ?_
  refine go (r := ?_); and_intros <;> intros <;> try exact True.intro
  · symm; rw [decide_eq_false_iff_not]; rintro rfl; omega
  · refine WpA.loop (fun k : Nat => ⟨[(0, IL a), (1, IL b), (5, I k)], []⟩) (fun k => k ≤ a.length ∧ ∀ j < k, a.getD j 0 = b.getD j 0) (fun k => a.length - k) 0 (by simp) (go (r := trivial)) (fun k hk => ?_)
    refine go (r := ?_); and_intros <;> intros <;> try exact True.intro
    · symm; rw [decide_eq_false_iff_not]; rintro rfl; simp_all
    · rename_i j hj; by_cases h : j = k
      · subst h; simp_all
      · exact hk.2 j (by omega)
    · have := eq_all 0 (xs := a) (ys := b) (by omega) (fun j hj => hk.2 j (by omega))
      simp [this]⟩
end Go.Proofs.YtjhejgamjlokdaaGreat


namespace Go.Proofs.YtjhejgamjlokdaaGreat
open Go Go.Abs
theorem px_rc {W H : Int} {p : List Int} {x y n : Int} (h : Fits W H p x y n) {i : Nat} (hi : (i : Int) < n * n) : pxI W x y n i / W = y + (i : Int) / n ∧ pxI W x y n i % W = x + (i : Int) % n := by
  have hp := px_in h hi
  obtain ⟨h0, h1, hx, hy, _⟩ := h
  have hW := h0.1.1
  have hb : 0 ≤ x + (i : Int) % n ∧ x + (i : Int) % n < W := by omega
  have e : pxI W x y n i = x + (i : Int) % n + W * (y + (i : Int) / n) := by unfold pxI; rw [Int.mul_comm W]; omega
  rw [e, Int.add_mul_ediv_left _ _ (by omega), Int.add_mul_emod_self_left, Int.ediv_eq_zero_of_lt hb.1 hb.2, Int.emod_eq_of_lt hb.1 hb.2]
  exact ⟨by omega, rfl⟩
theorem px_one {W H : Int} {p : List Int} {x y n : Int} (h : Fits W H p x y n) {i j : Nat} (hi : (i : Int) < n * n) (hj : (j : Int) < n * n) (e : (pxI W x y n i).toNat = (pxI W x y n j).toNat) : i = j := by
  have h1 := px_rc h hi
  have h2 := px_rc h hj
  have h3 := px_in h hi
  have h4 := px_in h hj
  have e2 : pxI W x y n i = pxI W x y n j := by omega
  rw [e2] at h1
  rcases h.2.1 with rfl | rfl <;> omega
theorem setK_at {W H x y n : Int} {l p : List Int} {i : Nat} (h : Fits W H p x y n) : ∀ k : Nat, (k : Int) ≤ n * n → i < k → (setK W x y n l p k).getD (pxI W x y n i).toNat 0 = l.getD i 0
  | 0, _, hi => by omega
  | k + 1, hk, hi => by
    have hb := px_in h (i := k) (by omega)
    rw [setK, getD_set2 (by rw [setK_len]; omega)]
    by_cases e : (pxI W x y n i).toNat = (pxI W x y n k).toNat
    · rw [if_pos e, px_one h (by omega) (by omega) e]
    · rw [if_neg e]
      exact setK_at h k (by omega) (by
        rcases Nat.lt_or_ge i k with h1 | h1
        · exact h1
        · exact absurd (by rw [show i = k by omega]) e)
theorem side_sq {k : Nat} (h : side k = 4 ∨ side k = 8) : (k : Int) = side k * side k := by
  unfold side at *; split <;> (try split) <;> simp_all
theorem setL_at {W H : Int} {p : List Int} {x y : Int} {l : List Int} (h : SetOk W H p x y l) : blkL W H (setL W H p x y l) x y (side l.length) = l := by
  have hk := side_sq h.1.2.1
  have hf : Fits W H (setL W H p x y l) x y (side l.length) := ⟨setL_ok h.1.1, h.1.2⟩
  unfold blkL
  rw [if_pos hf, ← hk, Int.toNat_natCast]
  refine list_ext (N := l.length) (tabL_len _ _) rfl fun j hj => ?_
  rw [tabL_get hj]
  unfold blkV setL
  rw [if_pos h]
  exact setK_at h.1 l.length (by omega) hj
theorem zer_get (N k : Nat) : (List.replicate N (0 : Int)).getD k 0 = 0 := by
  rw [List.getD_eq_getElem?_getD, List.getElem?_replicate]; split <;> rfl
theorem in_zero {l : List Int} (h : In l (-0) 0) : l = List.replicate l.length 0 := by
  refine list_ext (N := l.length) rfl (by simp) fun j hj => ?_
  have := in_get h hj
  rw [zer_get]; omega
theorem zer_ok {N : Nat} (h : N = 16 ∨ N = 64) : LvOk (List.replicate N 0) := by
  refine ⟨?_, by rw [List.length_replicate]; exact h⟩
  unfold In
  intro v hv
  rw [List.eq_of_mem_replicate hv]; decide
theorem plc_zero {N : Nat} (h : N = 16 ∨ N = 64) : plcL (List.replicate N 0) = List.replicate N 0 := by
  have hl := plcL_len2 (l := List.replicate N 0) (by rw [List.length_replicate]; exact h)
  have hz : In (plcL (List.replicate N 0)) (-0) 0 := by
    unfold plcL
    exact plcK_in (by decide) (by unfold In; intro v hv; rw [List.eq_of_mem_replicate hv]; decide) _
  have e := in_zero hz
  rw [hl, List.length_replicate] at e
  exact e
theorem sumF_z {f : Nat → Int} (h : ∀ i, f i = 0) : ∀ n, sumF f n = 0
  | 0 => rfl
  | n + 1 => by rw [sumF, sumF_z h n, h n]; rfl
theorem mul_zeroM (n : Nat) (g : Nat → Nat → Int) (N : Nat) : mulM n g (List.replicate N 0) = List.replicate (n * n) 0 := by
  refine list_ext (N := n * n) (tabL_len _ _) (by simp) fun j hj => ?_
  unfold mulM
  rw [tabL_get hj, zer_get]
  unfold fullM
  refine sumF_z (fun i => ?_) n
  unfold halfM
  rw [sumF_z (fun i => by rw [zer_get, Int.mul_zero]) n, Int.zero_mul]
theorem res_zero {b : Bool} {q : Int} {N : Nat} (h : N = 16 ∨ N = 64) (hq : 0 < stepL q) : resL b q (List.replicate N 0) = List.replicate N 0 := by
  have hz := zer_ok h
  have hp := plc_zero h
  unfold resL
  rw [if_pos ⟨hz, hq⟩, hp]
  split
  · rfl
  · have hsc : scaL (List.replicate N 0) q = List.replicate N 0 := by
      unfold scaL
      rw [if_pos ⟨hz, hq⟩, List.length_replicate]
      refine list_ext (N := N) (tabL_len _ _) (by simp) fun j hj => ?_
      rw [tabL_get hj]
      unfold scaF
      rw [zer_get, Int.zero_mul, Int.zero_mul]
    have hfit : FitM (List.replicate N 0) := by
      unfold FitM In
      intro v hv
      rw [List.eq_of_mem_replicate hv]; decide
    rw [hsc, List.length_replicate]
    rcases h with rfl | rfl
    · rw [trL_yes (n := side 16) (.inl rfl) ⟨hfit, by rw [List.length_replicate]; rfl⟩, mul_zeroM]
      unfold rndL
      rw [if_pos (by rw [List.length_replicate]; decide), List.map_replicate, List.length_replicate]
      rfl
    · rw [trL_yes (n := side 64) (.inr rfl) ⟨hfit, by rw [List.length_replicate]; rfl⟩, mul_zeroM]
      unfold rndL
      rw [if_pos (by rw [List.length_replicate]; decide), List.map_replicate, List.length_replicate]
      rfl
theorem rec_zero {p : List Int} (h : 0 < side p.length) (hp : In p 0 255) : recL p (List.replicate p.length 0) = p := by
  unfold recL
  rw [if_pos ⟨h, by simp, hp⟩]
  refine list_ext (N := p.length) (tabL_len _ _) rfl fun j hj => ?_
  have := in_get hp hj
  rw [tabL_get hj]
  unfold recF
  rw [zer_get]; omega
theorem quiet {W H : Int} {p : List Int} {q x y m : Int} {b : Bool} {N : Nat} (h : PutOk W H p q x y m (List.replicate N 0)) : blkL W H (putL W H p q b x y m (List.replicate N 0)) x y (side N) = nbP W H p x y (side N) m := by
  have hN : N = 16 ∨ N = 64 := by have := h.2.1.1.2; rwa [List.length_replicate] at this
  have ht := put_two (b := b) h
  have hs := put_set (b := b) h
  unfold putL
  rw [if_pos h]
  rw [res_zero hN h.2.1.2, List.length_replicate] at *
  have hl : (nbP W H p x y (side N) m).length = N := ht.2
  have hr : recL (nbP W H p x y (side N) m) (List.replicate N 0) = nbP W H p x y (side N) m := by
    have := rec_zero ht.1.1 ht.1.2.2
    rw [hl] at this; exact this
  rw [hr] at hs ⊢
  have := setL_at hs
  rw [hl] at this; exact this
end Go.Proofs.YtjhejgamjlokdaaGreat


namespace Go.Proofs.YtjhejgamjlokdaaGreat
open Go Go.Abs
attribute [local irreducible] WpA WpL Rnd Blk Abs.Seq Abs.Fin Abs.FinG FnC FnG Only
theorem blkL_yes {W H : Int} {p : List Int} {x y n : Int} (h : Fits W H p x y n) : blkL W H p x y n = tabL (blkV W p x y n) (n * n).toNat := by unfold blkL; rw [if_pos h]
theorem blkL_no {W H : Int} {p : List Int} {x y n : Int} (h : ¬ Fits W H p x y n) : blkL W H p x y n = [] := by unfold blkL; rw [if_neg h]
instance BlockAt_c : Con 29 (∀ (W H : Int) (p : List Int) (x y n : Int), p.length ≤ 1099511627776 → Fn 29 [FrA W H p, I x, I y, I n] [XI (blkL W H p x y n)] (.own 0 0 0 (blkL W H p x y n).length)) := ⟨fun W H p x y n hl => by
  by_cases h : Fits W H p x y n
  · have e := blkL_yes h
    have hd := decide_eq_true h
    have hx := h.2.2.1
    have hy := h.2.2.2.1
    rcases h.2.1 with rfl | rfl
    · have e2 : blkL W H p x y 4 = tabL (blkV W p x y 4) 16 := e
      refine FnC.of_body tabOk Tryz.func29 Tryz.ntmps29 rfl (by decide +kernel) (by simp) fun G => ?_
      refine go (r := ?_); and_intros <;> intros <;> try exact True.intro
      all_goals first | contradiction | (exact absurd h (by assumption)) | skip
      refine WpA.loop (fun k : Nat => ⟨[(1, I x), (2, I y), (3, I 4), (4, .ptr 0 0 0), (9, .own 1 0 0 k), (20, I 16), (21, I k)], [FrO W H p, XI (tabL (blkV W p x y 4) k)]⟩) (fun k => k ≤ 16) (fun k => 16 - k) 0 (by omega) (go (r := ?_)) (fun k hk => ?_)
      · simp [tabL]
      have hkl := tabL_len (blkV W p x y 4) k
      by_cases hlt : k < 16
      · obtain ⟨⟨b1, b2, b3, b4⟩, b5, b6, b7, b8⟩ := px_in h (i := k) (by omega)
        unfold pxI at b7 b8
        refine go (r := ?_); and_intros <;> intros <;> try exact True.intro
        all_goals first | (rw [tabL_snoc]; rfl) | trace_state
      · obtain rfl : k = 16 := by omega
        refine go (r := ?_); and_intros <;> intros <;> try exact True.intro
        all_goals first | (rw [e2]; done) | (rw [e2, tabL_len]; done) | trace_state
    · have e2 : blkL W H p x y 8 = tabL (blkV W p x y 8) 64 := e
      refine FnC.of_body tabOk Tryz.func29 Tryz.ntmps29 rfl (by decide +kernel) (by simp) fun G => ?_
      refine go (r := ?_); and_intros <;> intros <;> try exact True.intro
      all_goals first | contradiction | (exact absurd h (by assumption)) | skip
      refine WpA.loop (fun k : Nat => ⟨[(1, I x), (2, I y), (3, I 8), (4, .ptr 0 0 0), (9, .own 1 0 0 k), (20, I 64), (21, I k)], [FrO W H p, XI (tabL (blkV W p x y 8) k)]⟩) (fun k => k ≤ 64) (fun k => 64 - k) 0 (by omega) (go (r := ?_)) (fun k hk => ?_)
      · simp [tabL]
      have hkl := tabL_len (blkV W p x y 8) k
      by_cases hlt : k < 64
      · obtain ⟨⟨b1, b2, b3, b4⟩, b5, b6, b7, b8⟩ := px_in h (i := k) (by omega)
        unfold pxI at b7 b8
        refine go (r := ?_); and_intros <;> intros <;> try exact True.intro
        all_goals first | (rw [tabL_snoc]; rfl) | trace_state
      · obtain rfl : k = 64 := by omega
        refine go (r := ?_); and_intros <;> intros <;> try exact True.intro
        all_goals first | (rw [e2]; done) | (rw [e2, tabL_len]; done) | trace_state
  · have e := blkL_no h
    have hd := decide_eq_false h
    refine FnC.of_body tabOk Tryz.func29 Tryz.ntmps29 rfl (by decide +kernel) (by simp) fun G => ?_
    refine go (r := ?_); and_intros <;> intros <;> try exact True.intro
    all_goals first | contradiction | (rw [e]; done) | (rw [e]; rfl) | (exact absurd (by assumption) h) | trace_state⟩
theorem setL_yes {W H : Int} {p : List Int} {x y : Int} {l : List Int} (h : SetOk W H p x y l) : setL W H p x y l = setK W x y (side l.length) l p l.length := by unfold setL; rw [if_pos h]
theorem setL_no {W H : Int} {p : List Int} {x y : Int} {l : List Int} (h : ¬ SetOk W H p x y l) : setL W H p x y l = p := by unfold setL; rw [if_neg h]
end Go.Proofs.YtjhejgamjlokdaaGreat


namespace Go.Proofs.YtjhejgamjlokdaaGreat
open Go Go.Abs
attribute [local irreducible] WpA WpL Rnd Blk Abs.Seq Abs.Fin Abs.FinG FnC FnG Only
theorem set_step (W x y n : Int) (l p : List Int) (k : Nat) : (setK W x y n l p k).set ((y + (k : Int) / n) * W + x + (k : Int) % n).toNat (l.getD k 0) = setK W x y n l p (k + 1) := rfl
instance SetBlock_c : Con 52 (∀ (W H : Int) (p : List Int) (x y : Int) (l : List Int), p.length ≤ 1099511627776 ∧ l.length ≤ 1099511627776 → Fn 52 [FrA W H p, I x, I y, IL l] [XI (setL W H p x y l)] (.tup [FrOwn 0 W H (setL W H p x y l).length, B (decide (SetOk W H p x y l))])) := ⟨fun W H p x y l hl => by
  have hlen := setL_len W H p x y l
  by_cases h : SetOk W H p x y l
  · have e := setL_yes h
    have hd := decide_eq_true h
    obtain ⟨h1, h2⟩ := id h
    have h1s := h1
    rcases h1.2.1 with e4 | e4
    · have hll : l.length = 16 := by have := side_cases l.length; omega
      have e2 : setL W H p x y l = setK W x y 4 l p 16 := by rw [e, e4, hll]
      rw [hlen, e2, hd]
      rw [e4] at h1
      refine FnC.of_body tabOk Tryz.func52 Tryz.ntmps52 rfl (by decide +kernel) (by simp) fun G => ?_
      refine goR (r := ?_); and_intros <;> intros <;> try exact True.intro
      apply WpA.regionSF (O := [FrO W H p, ⟨[I 0, I 0, .nilS], 0, 0, none⟩]) (Or := []) (O1 := [FrO W H p, ⟨[I 0, I 0, .nilS], 0, 0, none⟩, ⟨ints p, 1, 1, some 3⟩, ⟨[I 0, I 0, .nilS], 1, 0, none⟩, deadO, deadO]) 6 2 [] [] rfl mixed (by decide +kernel)
      · exact rfl
      · apply HeadS.consF .none rfl
        · exact rfl
        · exact rfl
        · exact in1
        · exact rfl
        · exact rfl
        apply HeadS.consF .none rfl
        · exact rfl
        · exact rfl
        · exact in1
        · exact rfl
        · exact rfl
        apply HeadS.consF .none rfl
        · exact rfl
        · exact rfl
        · exact in0
        · exact rfl
        · exact rfl
        apply HeadS.consF .none rfl
        · exact rfl
        · exact rfl
        · exact in1
        · exact rfl
        · exact rfl
        apply HeadS.consF (V := .agg [I W, I H, .own 2 1 0 p.length]) (.put 0 (⟨ints p, 1, 1, some 3⟩)) rfl
        · exact rfl
        · exact rfl
        · intro Tv Ov hc hp' hd hk
          skip
          refine K.call ?_
          refine K.con (fun hcon => ?_)
          refine WpL.callF (hcon W H p (by omega)) snapA locA outA (cnt_some _ 0) rfl rfl (by decide) ?_
          rw [Nat.zero_add]
          apply WpL.putV (p := 0)
          · first | exact .agg (.keep rfl rfl (.keep rfl rfl (.own (by first | rfl | simp) .nil))) .nil | exact .own (by first | rfl | simp) .nil
          · exact hp' 0 _ rfl
          · exact Nat.zero_le _
          · exact rfl
          · first | exact still_ints _ | exact still_rows (fun _ => rfl) _ | rfl
        · exact rfl
        · exact rfl
        apply HeadS.consF (V := .ptr 3 1 0) (.put 1 (⟨[I 0, I 0, .nilS], 1, 0, none⟩)) rfl
        · exact rfl
        · exact rfl
        · intro Tv Ov hc hp' hd hk
          refine K.all ?_
          refine WpL.allocStruct tabOk rfl (by rw [nid_len, Nat.zero_add]) (by decide) ?_
          apply WpL.putV (p := 1)
          · exact .ptr (by first | rfl | simp) .nil
          · exact hp' 1 _ rfl
          · exact Nat.zero_le _
          · exact rfl
          · rfl
        · exact rfl
        · exact rfl
        exact HeadS.nil
      · exact rfl
      · exact rfl
      · exact rfl
      · exact rfl
      · exact rfl
      · exact rfl
      · exact rfl
      refine goR (r := ?_); and_intros <;> intros <;> try exact True.intro
      all_goals first | contradiction | (exact absurd h1s (by assumption)) | skip
      refine WpA.loop (fun k : Nat => ⟨[(1, I x), (2, I y), (4, .ptr 0 0 0), (8, .ptr 1 0 0), (10, I 4), (11, .ptr 3 1 0), (31, IL l), (32, I 16), (33, I k)], [FrO W H p, ⟨[I 0, I 0, .nilS], 0, 0, none⟩, ⟨ints (setK W x y 4 l p k), 1, 1, some 3⟩, ⟨[I W, I H, .own 2 1 0 p.length], 1, 0, none⟩]⟩) (fun k => k ≤ 16) (fun k => 16 - k) 0 (by omega) (go (r := ?_)) (fun k hk => ?_)
      · and_intros <;> first | exact True.intro | rfl | trace_state
      have hkl := setK_len W x y 4 l p k
      by_cases hlt : k < 16
      · obtain ⟨⟨b1, b2, b3, b4⟩, b5, b6, b7, b8⟩ := px_in h1 (i := k) (by omega)
        unfold pxI at b7 b8
        refine go (r := ?_); and_intros <;> intros <;> try exact True.intro
        all_goals first | contradiction | omega | exact set_step .. | trace_state
      · obtain rfl : k = 16 := by omega
        refine go (r := ?_); and_intros <;> intros <;> try exact True.intro
        all_goals first | contradiction | exact hd | exact hd.symm | trace_state
    · have hll : l.length = 64 := by have := side_cases l.length; omega
      have e2 : setL W H p x y l = setK W x y 8 l p 64 := by rw [e, e4, hll]
      rw [hlen, e2, hd]
      rw [e4] at h1
      refine FnC.of_body tabOk Tryz.func52 Tryz.ntmps52 rfl (by decide +kernel) (by simp) fun G => ?_
      refine goR (r := ?_); and_intros <;> intros <;> try exact True.intro
      apply WpA.regionSF (O := [FrO W H p, ⟨[I 0, I 0, .nilS], 0, 0, none⟩]) (Or := []) (O1 := [FrO W H p, ⟨[I 0, I 0, .nilS], 0, 0, none⟩, ⟨ints p, 1, 1, some 3⟩, ⟨[I 0, I 0, .nilS], 1, 0, none⟩, deadO, deadO]) 6 2 [] [] rfl mixed (by decide +kernel)
      · exact rfl
      · apply HeadS.consF .none rfl
        · exact rfl
        · exact rfl
        · exact in1
        · exact rfl
        · exact rfl
        apply HeadS.consF .none rfl
        · exact rfl
        · exact rfl
        · exact in1
        · exact rfl
        · exact rfl
        apply HeadS.consF .none rfl
        · exact rfl
        · exact rfl
        · exact in0
        · exact rfl
        · exact rfl
        apply HeadS.consF .none rfl
        · exact rfl
        · exact rfl
        · exact in1
        · exact rfl
        · exact rfl
        apply HeadS.consF (V := .agg [I W, I H, .own 2 1 0 p.length]) (.put 0 (⟨ints p, 1, 1, some 3⟩)) rfl
        · exact rfl
        · exact rfl
        · intro Tv Ov hc hp' hd hk
          skip
          refine K.call ?_
          refine K.con (fun hcon => ?_)
          refine WpL.callF (hcon W H p (by omega)) snapA locA outA (cnt_some _ 0) rfl rfl (by decide) ?_
          rw [Nat.zero_add]
          apply WpL.putV (p := 0)
          · first | exact .agg (.keep rfl rfl (.keep rfl rfl (.own (by first | rfl | simp) .nil))) .nil | exact .own (by first | rfl | simp) .nil
          · exact hp' 0 _ rfl
          · exact Nat.zero_le _
          · exact rfl
          · first | exact still_ints _ | exact still_rows (fun _ => rfl) _ | rfl
        · exact rfl
        · exact rfl
        apply HeadS.consF (V := .ptr 3 1 0) (.put 1 (⟨[I 0, I 0, .nilS], 1, 0, none⟩)) rfl
        · exact rfl
        · exact rfl
        · intro Tv Ov hc hp' hd hk
          refine K.all ?_
          refine WpL.allocStruct tabOk rfl (by rw [nid_len, Nat.zero_add]) (by decide) ?_
          apply WpL.putV (p := 1)
          · exact .ptr (by first | rfl | simp) .nil
          · exact hp' 1 _ rfl
          · exact Nat.zero_le _
          · exact rfl
          · rfl
        · exact rfl
        · exact rfl
        exact HeadS.nil
      · exact rfl
      · exact rfl
      · exact rfl
      · exact rfl
      · exact rfl
      · exact rfl
      · exact rfl
      refine goR (r := ?_); and_intros <;> intros <;> try exact True.intro
      all_goals first | contradiction | (exact absurd h1s (by assumption)) | skip
      refine WpA.loop (fun k : Nat => ⟨[(1, I x), (2, I y), (4, .ptr 0 0 0), (8, .ptr 1 0 0), (10, I 8), (11, .ptr 3 1 0), (31, IL l), (32, I 64), (33, I k)], [FrO W H p, ⟨[I 0, I 0, .nilS], 0, 0, none⟩, ⟨ints (setK W x y 8 l p k), 1, 1, some 3⟩, ⟨[I W, I H, .own 2 1 0 p.length], 1, 0, none⟩]⟩) (fun k => k ≤ 64) (fun k => 64 - k) 0 (by omega) (go (r := ?_)) (fun k hk => ?_)
      · and_intros <;> first | exact True.intro | rfl | trace_state
      have hkl := setK_len W x y 8 l p k
      by_cases hlt : k < 64
      · obtain ⟨⟨b1, b2, b3, b4⟩, b5, b6, b7, b8⟩ := px_in h1 (i := k) (by omega)
        unfold pxI at b7 b8
        refine go (r := ?_); and_intros <;> intros <;> try exact True.intro
        all_goals first | contradiction | omega | exact set_step .. | trace_state
      · obtain rfl : k = 64 := by omega
        refine go (r := ?_); and_intros <;> intros <;> try exact True.intro
        all_goals first | contradiction | exact hd | exact hd.symm | trace_state
  · have e := setL_no h
    have hd := decide_eq_false h
    rw [e, hd]
    refine FnC.of_body tabOk Tryz.func52 Tryz.ntmps52 rfl (by decide +kernel) (by simp) fun G => ?_
    refine goR (r := ?_); and_intros <;> intros <;> try exact True.intro
    apply WpA.regionSF (O := [FrO W H p, ⟨[I 0, I 0, .nilS], 0, 0, none⟩]) (Or := []) (O1 := [FrO W H p, ⟨[I 0, I 0, .nilS], 0, 0, none⟩, ⟨ints p, 1, 1, some 3⟩, ⟨[I 0, I 0, .nilS], 1, 0, none⟩, deadO, deadO]) 6 2 [] [] rfl mixed (by decide +kernel)
    · exact rfl
    · apply HeadS.consF .none rfl
      · exact rfl
      · exact rfl
      · exact in1
      · exact rfl
      · exact rfl
      apply HeadS.consF .none rfl
      · exact rfl
      · exact rfl
      · exact in1
      · exact rfl
      · exact rfl
      apply HeadS.consF .none rfl
      · exact rfl
      · exact rfl
      · exact in0
      · exact rfl
      · exact rfl
      apply HeadS.consF .none rfl
      · exact rfl
      · exact rfl
      · exact in1
      · exact rfl
      · exact rfl
      apply HeadS.consF (V := .agg [I W, I H, .own 2 1 0 p.length]) (.put 0 (⟨ints p, 1, 1, some 3⟩)) rfl
      · exact rfl
      · exact rfl
      · intro Tv Ov hc hp' hd hk
        skip
        refine K.call ?_
        refine K.con (fun hcon => ?_)
        refine WpL.callF (hcon W H p (by omega)) snapA locA outA (cnt_some _ 0) rfl rfl (by decide) ?_
        rw [Nat.zero_add]
        apply WpL.putV (p := 0)
        · first | exact .agg (.keep rfl rfl (.keep rfl rfl (.own (by first | rfl | simp) .nil))) .nil | exact .own (by first | rfl | simp) .nil
        · exact hp' 0 _ rfl
        · exact Nat.zero_le _
        · exact rfl
        · first | exact still_ints _ | exact still_rows (fun _ => rfl) _ | rfl
      · exact rfl
      · exact rfl
      apply HeadS.consF (V := .ptr 3 1 0) (.put 1 (⟨[I 0, I 0, .nilS], 1, 0, none⟩)) rfl
      · exact rfl
      · exact rfl
      · intro Tv Ov hc hp' hd hk
        refine K.all ?_
        refine WpL.allocStruct tabOk rfl (by rw [nid_len, Nat.zero_add]) (by decide) ?_
        apply WpL.putV (p := 1)
        · exact .ptr (by first | rfl | simp) .nil
        · exact hp' 1 _ rfl
        · exact Nat.zero_le _
        · exact rfl
        · rfl
      · exact rfl
      · exact rfl
      exact HeadS.nil
    · exact rfl
    · exact rfl
    · exact rfl
    · exact rfl
    · exact rfl
    · exact rfl
    · exact rfl
    by_cases h1 : Fits W H p x y (side l.length)
    · have h2 : ¬ In l 0 255 := fun h3 => h ⟨h1, h3⟩
      refine go (r := ?_); and_intros <;> intros <;> try exact True.intro
      all_goals first | contradiction | exact hd | exact hd.symm | trace_state
    · refine go (r := ?_); and_intros <;> intros <;> try exact True.intro
      all_goals first | contradiction | exact hd | exact hd.symm | trace_state⟩
end Go.Proofs.YtjhejgamjlokdaaGreat


namespace Go.Proofs.YtjhejgamjlokdaaGreat
open Go Go.Abs
attribute [local irreducible] WpA WpL Rnd Blk Abs.Seq Abs.Fin Abs.FinG FnC FnG Only
theorem recL_yes {p r : List Int} (h : TwoOk p r) : recL p r = tabL (recF p r) p.length := by unfold recL; rw [if_pos h]
theorem recL_no {p r : List Int} (h : ¬ TwoOk p r) : recL p r = [] := by unfold recL; rw [if_neg h]
theorem rec_snoc (p r : List Int) (k : Nat) {v : Int} (h : v = recF p r k) : tabL (recF p r) k ++ [v] = tabL (recF p r) (k + 1) := by rw [tabL_snoc, h]
instance Recon_c : Con 53 (∀ p r : List Int, p.length ≤ 1099511627776 ∧ r.length ≤ 1099511627776 → Fn 53 [IL p, IL r] [XI (recL p r)] (.own 0 0 0 (recL p r).length)) := ⟨fun p r hl => by
  have hsp := side_pos p.length
  by_cases h : TwoOk p r
  · obtain ⟨h1, h2, h3⟩ := id h
    have e := recL_yes h
    refine FnC.of_body tabOk Tryz.func53 Tryz.ntmps53 rfl (by decide +kernel) (by simp) fun G => ?_
    refine go (r := ?_); and_intros <;> intros <;> try exact True.intro
    all_goals first | contradiction | omega | skip
    refine WpA.loop (fun k : Nat => ⟨[(1, IL r), (5, .own 0 0 0 k), (25, IL p), (26, I p.length), (27, I k)], [XI (tabL (recF p r) k)]⟩) (fun k => k ≤ p.length) (fun k => p.length - k) 0 (by omega) (go (r := ?_)) (fun k hk => ?_)
    · simp [tabL]
    have hkl := tabL_len (recF p r) k
    have g1 := fun hh => in_get h3 (k := k) hh
    by_cases hlt : k < p.length
    · have g2 := g1 hlt
      refine go (r := ?_); and_intros <;> intros <;> try exact True.intro
      all_goals first | contradiction | omega | (exact rec_snoc p r k (by unfold recF; omega)) | trace_state
    · obtain rfl : k = p.length := by omega
      refine go (r := ?_); and_intros <;> intros <;> try exact True.intro
      all_goals first | contradiction | omega | (rw [e, tabL_len]; done) | (rw [e]; done) | trace_state
  · have e := recL_no h
    have hno : 0 < side p.length → p.length = r.length → ¬ In p 0 255 := fun a b c => h ⟨a, b, c⟩
    refine FnC.of_body tabOk Tryz.func53 Tryz.ntmps53 rfl (by decide +kernel) (by simp) fun G => ?_
    by_cases ha : 0 < side p.length
    · by_cases hb : p.length = r.length
      · have hc := hno ha hb
        refine go (r := ?_); and_intros <;> intros <;> try exact True.intro
        all_goals first | contradiction | omega | (rw [e]; done) | (rw [e]; rfl) | trace_state
      · refine go (r := ?_); and_intros <;> intros <;> try exact True.intro
        all_goals first | contradiction | omega | (rw [e]; done) | (rw [e]; rfl) | trace_state
    · have hs0 : side p.length = 0 := by have := side_cases p.length; omega
      refine go (r := ?_); and_intros <;> intros <;> try exact True.intro
      all_goals first | contradiction | omega | (rw [e]; done) | (rw [e]; rfl) | trace_state⟩
def clpF (p r : List Int) (i : Nat) : Int := max 0 (min 255 (p.getD i 0 + max (-1023) (min 1023 (r.getD i 0))))
instance ClipAdd4_s : Con 74 (∀ p r : List Int, p.length = 4 ∧ r.length = 4 ∧ In p 0 255 → Fn 74 [IL p, IL r] [XI (tabL (clpF p r) 4)] (.own 0 0 0 4)) := ⟨fun p r hl => by
  obtain ⟨h1, h2, h3⟩ := hl
  refine FnC.of_body tabOk Tryz.func74 Tryz.ntmps74 rfl (by decide +kernel) (by simp) fun G => ?_
  refine go (r := ?_); and_intros <;> intros <;> try exact True.intro
  all_goals first | contradiction | omega | skip
  refine WpA.loop (fun k : Nat => ⟨[(0, IL p), (1, IL r), (5, .own 0 0 0 k), (6, I k)], [XI (tabL (clpF p r) k)]⟩) (fun k => k ≤ 4) (fun k => 4 - k) 0 (by omega) (go (r := ?_)) (fun k hk => ?_)
  · simp [tabL]
  have hkl := tabL_len (clpF p r) k
  have g1 := fun hh => in_get h3 (k := k) hh
  have hsn := tabL_snoc (clpF p r) k
  by_cases hlt : k < 4
  · have g2 := g1 (by omega)
    refine go (r := ?_); and_intros <;> intros <;> try exact True.intro
    all_goals first | contradiction | omega | (rw [hsn]; rfl) | trace_state
  · obtain rfl : k = 4 := by omega
    refine go (r := ?_); and_intros <;> intros <;> try exact True.intro
    all_goals first | contradiction | omega | trace_state⟩
theorem clp_step {p r : List Int} (h : In p 0 255) {k : Nat} (hk : 4 * k + 4 ≤ p.length) (hr : p.length = r.length) : tabL (recF p r) (4 * k) ++ tabL (clpF ((p.drop (4 * k)).take 4) ((r.drop (4 * k)).take 4)) 4 = tabL (recF p r) (4 * (k + 1)) := by
  refine list_ext (N := 4 * (k + 1)) (by rw [List.length_append, tabL_len, tabL_len]; omega) (tabL_len ..) fun j hj => ?_
  rw [tabL_get hj]
  rcases Nat.lt_or_ge j (4 * k) with hj2 | hj2
  · rw [List.getD_eq_getElem?_getD, List.getElem?_append_left (by rw [tabL_len]; exact hj2), ← List.getD_eq_getElem?_getD, tabL_get hj2]
  · obtain ⟨i, rfl⟩ : ∃ i, j = 4 * k + i := ⟨j - 4 * k, by omega⟩
    have hi : i < 4 := by omega
    rw [List.getD_eq_getElem?_getD, List.getElem?_append_right (by rw [tabL_len]; omega), tabL_len, Nat.add_sub_cancel_left, ← List.getD_eq_getElem?_getD, tabL_get hi]
    have e1 : ∀ z : List Int, ((z.drop (4 * k)).take 4).getD i 0 = z.getD (4 * k + i) 0 := fun z => by
      rw [List.getD_eq_getElem?_getD, List.getElem?_take, if_pos hi, List.getElem?_drop, ← List.getD_eq_getElem?_getD]
    have hg := in_get h (k := 4 * k + i) (by omega)
    unfold clpF recF
    rw [e1, e1]
    omega
instance FastRecon_s : Con 39 (∀ p r : List Int, TwoOk p r → Fn 39 [IL p, IL r] [XI (recL p r)] (.own 0 0 0 (recL p r).length)) := ⟨fun p r h => by
  have hsp := side_pos p.length
  obtain ⟨h1, h2, h3⟩ := id h
  have e := recL_yes h
  have hd := decide_eq_true h
  have h16 := hsp.1 h1
  refine FnC.of_body tabOk Tryz.func39 Tryz.ntmps39 rfl (by decide +kernel) (by simp) fun G => ?_
  refine go (r := ?_); and_intros <;> intros <;> try exact True.intro
  refine WpA.loop (fun k : Nat => ⟨[(0, IL p), (1, IL r), (5, .own 0 0 0 (4 * k)), (6, I (4 * (k : Int)))], [XI (tabL (recF p r) (4 * k))]⟩) (fun k => 4 * k ≤ p.length) (fun k => p.length - k) 0 (by omega) (go (r := ?_)) (fun k hk => ?_)
  · simp [tabL]
  have hkl := tabL_len (recF p r) (4 * k)
  by_cases hlt : 4 * k < p.length
  · have h4 : 4 * k + 4 ≤ p.length := by omega
    have hst := clp_step h3 h4 h2
    have e1 : (4 * (k : Int)).toNat = 4 * k := by omega
    have e2 : (4 * (k : Int) + 4).toNat - (4 * (k : Int)).toNat = 4 := by omega
    have hl1 : ((p.drop (4 * (k : Int)).toNat).take ((4 * (k : Int) + 4).toNat - (4 * (k : Int)).toNat)).length = 4 := by rw [e2, e1, List.length_take, List.length_drop]; omega
    have hl2 : ((r.drop (4 * (k : Int)).toNat).take ((4 * (k : Int) + 4).toNat - (4 * (k : Int)).toNat)).length = 4 := by rw [e2, e1, List.length_take, List.length_drop]; omega
    have hin : In ((p.drop (4 * (k : Int)).toNat).take ((4 * (k : Int) + 4).toNat - (4 * (k : Int)).toNat)) 0 255 := by
      unfold In at *
      intro v hv
      exact h3 v (List.mem_of_mem_drop (List.mem_of_mem_take hv))
    refine go (r := ?_); and_intros <;> intros <;> try exact True.intro
    all_goals first | contradiction | omega | exact hin | (rw [e2, e1]; exact hst) | trace_state
  · have hke : 4 * k = p.length := by omega
    refine go (r := ?_); and_intros <;> intros <;> try exact True.intro
    all_goals first | contradiction | omega | (rw [e, hke]; done) | (rw [e, tabL_len, hke]; done) | trace_state⟩
end Go.Proofs.YtjhejgamjlokdaaGreat


namespace Go.Proofs.YtjhejgamjlokdaaGreat
open Go Go.Abs
attribute [local irreducible] WpA WpL Rnd Blk Abs.Seq Abs.Fin Abs.FinG FnC FnG Only
theorem setK_zero (W x y n : Int) (l p : List Int) : setK W x y n l p 0 = p := rfl
attribute [local irreducible] setK
instance SetBlock_s : Con 38 (∀ (W H : Int) (p : List Int) (x y : Int) (l : List Int), p.length ≤ 1099511627776 ∧ l.length ≤ 1099511627776 → Fn 38 [FrA W H p, I x, I y, IL l] [XI (setL W H p x y l)] (.tup [FrOwn 0 W H (setL W H p x y l).length, B (decide (SetOk W H p x y l))])) := ⟨fun W H p x y l hl => by
  have hlen := setL_len W H p x y l
  by_cases h : SetOk W H p x y l
  · have e := setL_yes h
    have hd := decide_eq_true h
    obtain ⟨h1, h2⟩ := id h
    have h1s := h1
    rcases h1.2.1 with e4 | e4
    · have hll : l.length = 16 := by have := side_cases l.length; omega
      have e2 : setL W H p x y l = setK W x y 4 l p 16 := by rw [e, e4, hll]
      rw [hlen, e2, hd]
      rw [e4] at h1
      refine FnC.of_body tabOk Tryz.func38 Tryz.ntmps38 rfl (by decide +kernel) (by simp) fun G => ?_
      refine goR (r := ?_); and_intros <;> intros <;> try exact True.intro
      all_goals first | contradiction | (exact absurd h1s (by assumption)) | skip
      refine WpA.loop (fun k : Nat => ⟨[(1, I x), (2, I y), (3, IL l), (4, .ptr 0 0 0), (8, .ptr 1 0 0), (10, I 4), (11, .ptr 3 0 0), (12, I k)], [FrO W H p, ⟨[I 0, I 0, .nilS], 0, 0, none⟩, XI (setK W x y 4 l p k), ⟨[I W, I H, .own 2 0 0 p.length], 0, 0, none⟩]⟩) (fun k => k ≤ 16) (fun k => 16 - k) 0 (by omega) (go (r := ?_)) (fun k hk => ?_)
      · and_intros <;> first | exact True.intro | rfl | (rw [setK_zero]; done) | exact (setK_zero ..).symm | trace_state
      have hkl := setK_len W x y 4 l p k
      by_cases hlt : k < 16
      · obtain ⟨⟨b1, b2, b3, b4⟩, b5, b6, b7, b8⟩ := px_in h1 (i := k) (by omega)
        unfold pxI at b7 b8
        refine go (r := ?_); and_intros <;> intros <;> try exact True.intro
        all_goals first | contradiction | omega | exact set_step .. | trace_state
      · obtain rfl : k = 16 := by omega
        refine go (r := ?_); and_intros <;> intros <;> try exact True.intro
        all_goals first | contradiction | exact hd | exact hd.symm | trace_state
    · have hll : l.length = 64 := by have := side_cases l.length; omega
      have e2 : setL W H p x y l = setK W x y 8 l p 64 := by rw [e, e4, hll]
      rw [hlen, e2, hd]
      rw [e4] at h1
      refine FnC.of_body tabOk Tryz.func38 Tryz.ntmps38 rfl (by decide +kernel) (by simp) fun G => ?_
      refine goR (r := ?_); and_intros <;> intros <;> try exact True.intro
      all_goals first | contradiction | (exact absurd h1s (by assumption)) | skip
      refine WpA.loop (fun k : Nat => ⟨[(1, I x), (2, I y), (3, IL l), (4, .ptr 0 0 0), (8, .ptr 1 0 0), (10, I 8), (11, .ptr 3 0 0), (12, I k)], [FrO W H p, ⟨[I 0, I 0, .nilS], 0, 0, none⟩, XI (setK W x y 8 l p k), ⟨[I W, I H, .own 2 0 0 p.length], 0, 0, none⟩]⟩) (fun k => k ≤ 64) (fun k => 64 - k) 0 (by omega) (go (r := ?_)) (fun k hk => ?_)
      · and_intros <;> first | exact True.intro | rfl | (rw [setK_zero]; done) | exact (setK_zero ..).symm | trace_state
      have hkl := setK_len W x y 8 l p k
      by_cases hlt : k < 64
      · obtain ⟨⟨b1, b2, b3, b4⟩, b5, b6, b7, b8⟩ := px_in h1 (i := k) (by omega)
        unfold pxI at b7 b8
        refine go (r := ?_); and_intros <;> intros <;> try exact True.intro
        all_goals first | contradiction | omega | exact set_step .. | trace_state
      · obtain rfl : k = 64 := by omega
        refine go (r := ?_); and_intros <;> intros <;> try exact True.intro
        all_goals first | contradiction | exact hd | exact hd.symm | trace_state
  · have e := setL_no h
    have hd := decide_eq_false h
    rw [e, hd]
    refine FnC.of_body tabOk Tryz.func38 Tryz.ntmps38 rfl (by decide +kernel) (by simp) fun G => ?_
    by_cases h1 : Fits W H p x y (side l.length)
    · have h2 : ¬ In l 0 255 := fun h3 => h ⟨h1, h3⟩
      refine go (r := ?_); and_intros <;> intros <;> try exact True.intro
      all_goals first | contradiction | trace_state
    · refine go (r := ?_); and_intros <;> intros <;> try exact True.intro
      all_goals first | contradiction | trace_state⟩
end Go.Proofs.YtjhejgamjlokdaaGreat
