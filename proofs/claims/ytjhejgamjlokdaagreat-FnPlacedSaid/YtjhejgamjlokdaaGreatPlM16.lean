/- Proved in this text: lemmas and contracts of functions that the claim uses (parts: Fr, AbsSl, AbsR5, Fr2, Fr3, SmF, PlcP, Rec2, Rec3, Rec5, Rec4, Nba). No condition. -/
import Derived.Test.YtjhejgamjlokdaaGreatPlM11
import Derived.Test.YtjhejgamjlokdaaGreatPlM14
import Derived.Test.YtjhejgamjlokdaaGreatPlM15
import Derived.Test.YtjhejgamjlokdaaGreatPlM5
import Derived.Test.YtjhejgamjlokdaaGreatPlM9
import Derived.Test.YtjhejgamjlokdaaGreatPlM13
import Derived.Test.YtjhejgamjlokdaaGreatPlM7
import Derived.Test.YtjhejgamjlokdaaGreatPlM12
set_option linter.unusedVariables false
set_option linter.unusedSimpArgs false
set_option maxRecDepth 100000
set_option maxHeartbeats 16000000


namespace Go.Proofs.YtjhejgamjlokdaaGreat
open Go Go.Abs
attribute [local irreducible] WpA WpL Rnd Blk Abs.Seq Abs.Fin Abs.FinG FnC FnG FnX FnP FinX Only
attribute [local irreducible] belowD onceD pickD modeD l8D l8AnyD optD anyD seedD headD headAnyD symL HasC blkD lev25D frK
theorem wh_in {W H : Int} (h : SidesOk W H) : 64 ≤ W * H ∧ W * H ≤ 1024 := by
  have h1 : 8 * 8 ≤ W * H := Int.mul_le_mul h.1 h.2.2.1 (by omega) (by have := h.1; omega)
  have h2 : W * H ≤ 32 * 32 := Int.mul_le_mul h.2.1 h.2.2.2.1 (by have := h.2.2.1; omega) (by omega)
  omega
instance FrameNew_s : Con 139 (∀ W H : Int, SidesOk W H → Fn 139 [I W, I H] [XI (List.replicate (W * H).toNat 0)] (FrOwn 0 W H (W * H).toNat)) := ⟨fun W H h => by
  have hm := wh_in h
  refine FnC.of_body tabOk Tryz.func139 Tryz.ntmps139 rfl (by decide +kernel) (by simp) fun G => ?_
  refine go (r := ?_); and_intros <;> intros <;> try exact True.intro
  all_goals first | contradiction | trace_state⟩
theorem mul_sm {a b : Int} (ha : -4 ≤ a ∧ a ≤ 4) (hb : 0 ≤ b ∧ b ≤ 1024) : -4096 ≤ a * b ∧ a * b ≤ 4096 := by
  have : a = -4 ∨ a = -3 ∨ a = -2 ∨ a = -1 ∨ a = 0 ∨ a = 1 ∨ a = 2 ∨ a = 3 ∨ a = 4 := by omega
  rcases this with rfl | rfl | rfl | rfl | rfl | rfl | rfl | rfl | rfl <;> omega
instance l18Frame_p : ConP 128 (∀ (v : Value) (l : List Int) (c : Cr), CrOk l c → Pn 128 v l c [] (frD l c).1 [XI (frD l c).2.p] (FrOwn 1 (frD l c).2.w (frD l c).2.h (frD l c).2.p.length)) := ⟨fun v l c h => by
  have h1 := belowD_ok 3 h
  have h2 := belowD_ok 2 h1.1
  have h3 := belowD_ok 256 h2.1
  have h4 := belowD_ok 9 h3.1
  have h5 := belowD_ok 9 h4.1
  have h6 := pickD_ok (xs := noise5) h5.1 (by decide)
  have a1 := h1.2.1
  have a2 := h1.2.2.1 (by decide)
  have b1 := h2.2.1
  have b2 := h2.2.2.1 (by decide)
  have c1 : 0 ≤ (fB l c).2 := h3.2.1
  have c2 : (fB l c).2 < 256 := h3.2.2.1 (by decide)
  have d1 : 0 ≤ (fX l c).2 := h4.2.1
  have d2 : (fX l c).2 < 9 := h4.2.2.1 (by decide)
  have e1 : 0 ≤ (fY l c).2 := h5.2.1
  have e2 : (fY l c).2 < 9 := h5.2.2.1 (by decide)
  have n1 : 1 ≤ (fN l c).2 ∧ (fN l c).2 ≤ 256 := noise_in h6.2
  have hsd : SidesOk (frW l c) (frH l c) := by
    show SidesOk (8 * (1 + (belowD l c 3).2)) (8 * (1 + (belowD l (belowD l c 3).1 2).2))
    refine ⟨?_, ?_, ?_, ?_, ?_, ?_⟩ <;> omega
  have hwh := wh_in hsd
  have hok := frD_ok h
  unfold frD at hok ⊢
  simp only at hok ⊢
  generalize hS : frK l (frW l c) (fB l c).2 ((fX l c).2 - 4) ((fY l c).2 - 4) (fN l c).2 (frW l c * frH l c).toNat 0 ((fN l c).1, List.replicate (frW l c * frH l c).toNat 0) = S at hok ⊢
  refine FnP.of_body tabOk Tryz.func128 Tryz.ntmps128 rfl (by decide +kernel) (by simp) rfl rfl rfl fun G hp => ?_
  refine go (r := ?_); and_intros <;> intros <;> try exact True.intro
  all_goals first | exact h.2.1 | exact h.2.2 | exact hsd | exact h5.1.2.1 | exact h5.1.2.2 | (simp; done) | skip
  generalize hN : (frW l c * frH l c).toNat = N at *
  have hN2 : (frW l c * frH l c).toNat = N := hN
  have hwN : frW l c * frH l c = (N : Int) := by omega
  refine WpA.loop (fun x : Nat × Cr × List Int => ⟨[(0, .ptr 0 0 0), (2, .ptr 1 0 0), (3, I (frW l c)), (4, I (frH l c)), (5, .ptr 3 0 0), (6, I (fB l c).2), (7, I ((fX l c).2 - 4)), (8, I ((fY l c).2 - 4)), (9, I (fN l c).2), (10, I x.1)], [CurO v x.2.1, ⟨[I 0, I 0, .nilS], 0, 0, none⟩, XI x.2.2, ⟨[I (frW l c), I (frH l c), .own 2 0 0 N], 0, 0, none⟩]⟩) (fun x => x.1 ≤ N ∧ CrOk l x.2.1 ∧ x.2.2.length = N ∧ frK l (frW l c) (fB l c).2 ((fX l c).2 - 4) ((fY l c).2 - 4) (fN l c).2 (N - x.1) x.1 x.2 = S) (fun x => N - x.1) (0, (fN l c).1, List.replicate N 0) ⟨Nat.zero_le _, h6.1, by simp, hS⟩ ?_ ?_
  · exact Weak.mk (by repeat (first | exact ReT.nil | refine ReT.cons (.keep rfl rfl .nil) ?_ | refine ReT.cons (.own rfl rfl rfl rfl rfl rfl .nil) ?_ | refine ReT.cons (.ptr rfl rfl rfl rfl .nil) ?_ | refine ReT.cons (.keep (congrArg (fun z => AV.sc (Value.int .i64 z)) (by first | omega | (skip))) rfl .nil) ?_ | refine ReT.cons (.keep (congrArg (fun z : List UInt8 => AV.sc (Value.string ⟨z.toArray⟩)) (by skip)) rfl .nil) ?_ | refine ReT.cons (.own rfl rfl rfl rfl rfl (by first | omega | (simp; done) | (simp; omega)) .nil) ?_)) (by repeat (first | exact ReO.nil | refine ReO.cons (Re.same rfl rfl) (.inr rfl) ?_ | refine ReO.cons (Re.same rfl (still_ints _)) (.inr rfl) ?_ | refine ReO.cons (.keep rfl rfl (.keep rfl rfl (.own rfl rfl rfl rfl rfl rfl .nil))) (.inr rfl) ?_ | refine ReO.cons (.keep rfl rfl (.keep rfl rfl (.own rfl rfl rfl rfl rfl (by first | omega | (simp; done)) .nil))) (.inr rfl) ?_)) (Nat.le_of_ble_eq_true rfl)
  rintro ⟨k, c1, xs⟩ ⟨hk, hc1, hxl, hK⟩
  try simp only at hk hc1 hxl hK ⊢
  by_cases hlt : k < N
  · have hE : frK l (frW l c) (fB l c).2 ((fX l c).2 - 4) ((fY l c).2 - 4) (fN l c).2 (N - (k + 1)) (k + 1) (frS l (frW l c) (fB l c).2 ((fX l c).2 - 4) ((fY l c).2 - 4) (fN l c).2 k (c1, xs)) = S := by
      rw [show N - k = (N - (k + 1)) + 1 by omega, frK_succ] at hK; exact hK
    have hb := belowD_ok (fN l c).2 hc1
    have hb0 := hb.2.1
    have hb1 := hb.2.2.1 (by omega)
    have hr0 : 0 ≤ (k : Int) % frW l c ∧ (k : Int) % frW l c ≤ 1024 := ⟨Int.emod_nonneg _ (by omega), by have := Int.emod_lt_of_pos (k : Int) (show 0 < frW l c by omega); omega⟩
    have hq0 : 0 ≤ (k : Int) / frW l c ∧ (k : Int) / frW l c ≤ 1024 := ⟨Int.ediv_nonneg (by omega) (by omega), by have := Int.ediv_le_self (frW l c) (show 0 ≤ (k : Int) by omega); omega⟩
    have hm1 := mul_sm (a := (fX l c).2 - 4) (b := (k : Int) % frW l c) (by omega) hr0
    have hm2 := mul_sm (a := (fY l c).2 - 4) (b := (k : Int) / frW l c) (by omega) hq0
    refine goR (r := ?_); and_intros <;> intros <;> try exact True.intro
    all_goals first | contradiction | omega | skip
    apply WpA.regionSF (O := []) (Or := [CurO v c1, ⟨[I 0, I 0, .nilS], 0, 0, none⟩, XI xs, ⟨[I (frW l c), I (frH l c), .own 2 0 0 N], 0, 0, none⟩]) (O1 := [CurO v (belowD l c1 (fN l c).2).1, ⟨[I 0, I 0, .nilS], 0, 0, none⟩, XI xs, ⟨[I (frW l c), I (frH l c), .own 2 0 0 N], 0, 0, none⟩]) 21 0 [3] [] rfl mixed (by decide +kernel)
    · exact rfl
    · apply HeadS.consF .none rfl
      · exact rfl
      · exact rfl
      · intro Tv Ov hc hp' hd hk
        obtain ⟨x0, x1, x2, R, rfl⟩ := Abs.split4 (hk 3 rfl)
        exact in1
      · exact rfl
      · exact rfl
      apply HeadS.consF .none rfl
      · exact rfl
      · exact rfl
      · intro Tv Ov hc hp' hd hk
        obtain ⟨x0, x1, x2, R, rfl⟩ := Abs.split4 (hk 3 rfl)
        exact in1
      · exact rfl
      · exact rfl
      apply HeadS.consF .none rfl
      · exact rfl
      · exact rfl
      · exact in1
      · exact rfl
      · exact rfl
      apply HeadS.consF .none rfl
      · exact rfl
      · exact rfl
      · exact in1
      · exact rfl
      · exact rfl
      apply HeadS.consF .none rfl
      · exact rfl
      · exact rfl
      · exact in1
      · exact rfl
      · exact rfl
      apply HeadS.consF .none rfl
      · exact rfl
      · exact rfl
      · exact in1
      · exact rfl
      · exact rfl
      apply HeadS.consF .none rfl
      · exact rfl
      · exact rfl
      · exact in1
      · exact rfl
      · exact rfl
      apply HeadS.consF .none rfl
      · exact rfl
      · exact rfl
      · exact in1
      · exact rfl
      · exact rfl
      apply HeadS.consF .none rfl
      · exact rfl
      · exact rfl
      · exact in1
      · exact rfl
      · exact rfl
      apply HeadS.consF .none rfl
      · exact rfl
      · exact rfl
      · exact in1
      · exact rfl
      · exact rfl
      apply HeadS.consF .none rfl
      · exact rfl
      · exact rfl
      · exact in1
      · exact rfl
      · exact rfl
      apply HeadS.consF .none rfl
      · exact rfl
      · exact rfl
      · exact in1
      · exact rfl
      · exact rfl
      apply HeadS.consF .none rfl
      · exact rfl
      · exact rfl
      · exact in1
      · exact rfl
      · exact rfl
      apply HeadS.consF .none rfl
      · exact rfl
      · exact rfl
      · exact in1
      · exact rfl
      · exact rfl
      apply HeadS.consF .none rfl
      · exact rfl
      · exact rfl
      · exact in1
      · exact rfl
      · exact rfl
      apply HeadS.consF .none rfl
      · exact rfl
      · exact rfl
      · exact in1
      · exact rfl
      · exact rfl
      apply HeadS.consF .none rfl
      · exact rfl
      · exact rfl
      · exact in1
      · exact rfl
      · exact rfl
      apply HeadS.consF .none rfl
      · exact rfl
      · exact rfl
      · exact in1
      · exact rfl
      · exact rfl
      apply HeadS.consF (V := I (belowD l c1 (fN l c).2).2) (.step 0 (CurO v (belowD l c1 (fN l c).2).1)) rfl
      · exact rfl
      · exact rfl
      · intro Tv Ov hc hp' hd hk
        obtain ⟨R, rfl⟩ := split1 (hp' 0 _ rfl)
        refine K.call ?_
        refine K.conP (fun hcon => ?_)
        refine WpL.callP1 (hcon v l c1 (fN l c).2 hc1) hp handA handOA rfl (.cons rfl (.sc (.sc (.sc .nil))) .nil) (by decide) ?_
        exact WpL.nil (Only.mk rfl)
      · exact rfl
      · exact rfl
      apply HeadS.consF .none rfl
      · exact rfl
      · exact rfl
      · exact in1
      · exact rfl
      · exact rfl
      apply HeadS.consF (V := I (max 0 (min 255 ((fB l c).2 + ((fX l c).2 - 4) * ((k : Int) % frW l c) + ((fY l c).2 - 4) * ((k : Int) / frW l c) + (belowD l c1 (fN l c).2).2)))) .none rfl
      · exact rfl
      · exact rfl
      · intro Tv Ov hc hp' hd hk
        refine K.call ?_
        refine K.con (fun hcon => ?_)
        refine WpL.callF (hcon _) snapA locA outA (cnt_some _ 0) rfl rfl (by decide) ?_
        rw [List.append_nil]
        exact WpL.nil (Only.mk rfl)
      · exact rfl
      · exact rfl
      exact HeadS.nil
    · exact rfl
    · exact rfl
    · exact rfl
    · exact rfl
    · exact rfl
    · exact rfl
    · exact rfl
    refine go (r := ?_); and_intros <;> intros <;> try exact True.intro
    all_goals first | contradiction | omega | skip
    refine Rnd.go (k + 1, frS l (frW l c) (fB l c).2 ((fX l c).2 - 4) ((fY l c).2 - 4) (fN l c).2 k (c1, xs)) ⟨by simp only; omega, hb.1, by unfold frS; simp only [List.length_set]; exact hxl, hE⟩ ?_ ?_
    · show N - (k + 1) < N - k; omega
    · unfold frS
      exact Weak.mk (by repeat (first | exact ReT.nil | refine ReT.cons (.keep rfl rfl .nil) ?_ | refine ReT.cons (.own rfl rfl rfl rfl rfl rfl .nil) ?_ | refine ReT.cons (.ptr rfl rfl rfl rfl .nil) ?_ | refine ReT.cons (.keep (congrArg (fun z => AV.sc (Value.int .i64 z)) (by first | omega | (skip))) rfl .nil) ?_ | refine ReT.cons (.keep (congrArg (fun z : List UInt8 => AV.sc (Value.string ⟨z.toArray⟩)) (by skip)) rfl .nil) ?_ | refine ReT.cons (.own rfl rfl rfl rfl rfl (by first | omega | (simp; done) | (simp; omega)) .nil) ?_)) (by repeat (first | exact ReO.nil | refine ReO.cons (Re.same rfl rfl) (.inr rfl) ?_ | refine ReO.cons (Re.same rfl (still_ints _)) (.inr rfl) ?_ | refine ReO.cons (.keep rfl rfl (.keep rfl rfl (.own rfl rfl rfl rfl rfl rfl .nil))) (.inr rfl) ?_ | refine ReO.cons (.keep rfl rfl (.keep rfl rfl (.own rfl rfl rfl rfl rfl (by first | omega | (simp; done)) .nil))) (.inr rfl) ?_)) (Nat.le_of_ble_eq_true rfl)
  · obtain rfl : k = N := by omega
    rw [Nat.sub_self, frK_zero] at hK
    subst hK
    refine go (r := ?_); and_intros <;> intros <;> try exact True.intro
    all_goals first | contradiction | omega | exact hxl | trace_state
  ⟩
end Go.Proofs.YtjhejgamjlokdaaGreat


namespace Go.Proofs.YtjhejgamjlokdaaGreat
open Go Go.Abs
theorem subOwnLo {P : Program} {n m : Nat} {G : Ctx} {T : List (Nat × AV)} {O : List AObj} {Q : Exit → St → Prop} {ops : Array Oper} {l : List Oper} {d : Nat} {md : Bool} {tt : TypeId} {pos : String} {after : Array Edge} {tab : List (Nat × Ty)} (hP : TabOk P tab) {t e k b : Nat} {zs : List AV} {x y : Operand} {kk : IntKind} {id ep len j off : Nat} {ob : AObj} (ht : tlook tab t = some (.slice e k b zs)) (hx : av T x = .own id ep 0 len) (ho : O[id]? = some ob) (he : ob.ep = ep) (hsz : ob.size = k) (hy : av T y = .sc (.int kk j)) (hj : j < len) (hoff : off = j * k) (hn : d < n)
    (h : WpL P n m G md ops l ⟨(d, .own id ep off (len - j)) :: T, O⟩ Q) :
    WpL P n m G md ops ({ dst := some d, op := .slice t x (some y) none none, type := tt, pos := pos, after := after, guard := none } :: l) ⟨T, O⟩ Q := by
  subst hoff
  exact WpL.pure rfl rfl hn (fun S ι F a w hr => by
    obtain ⟨hu, inf, z, hinf, _, hk, _, _, hk0, _⟩ := hP.slice ht
    have hv := hr.eval x
    rw [show av (St.mk T O).T x = _ from hx] at hv
    have hye := hr.sc hy
    have hown : OwnAt (ι id) ob.size 0 len (a.eval x) := by
      cases hv with
      | own q1 q2 q3 r =>
        rw [show (St.mk T O).O[id]? = some ob from ho] at q1
        cases q1
        exact q3 he.symm
    cases hs : ι id with
    | none =>
      rw [hs] at hown
      obtain ⟨_, _, hl⟩ := hown
      omega
    | some p =>
      obtain ⟨bb, kb⟩ := p
      rw [hs] at hown
      obtain ⟨cap, hxe, h1, h2, h3⟩ := hown
      have hrun := run_sliceSl hu hinf hk ⟨bb, 0, none⟩ len cap (some (.int kk j)) none j len (.inr ⟨kk, rfl⟩) (.inl ⟨rfl, rfl⟩) (by omega) w
      have e1 : (if cap = j then (⟨bb, 0, none⟩ : Addr) else (⟨bb, 0, none⟩ : Addr).add (j * k)) = ⟨bb, j * k, none⟩ := by
        rw [if_neg (by omega), addr_add]; simp
      rw [e1] at hrun
      refine ⟨.slice (some ⟨bb, j * k, none⟩) (len - j) (cap - j), by simp [execOp, hxe, hye, hrun, Sem.run_bind], .own ho (by omega) (fun _ => by
        rw [hs]
        refine ⟨cap - j, rfl, ?_, by omega, by omega⟩
        rw [hsz] at h1 ⊢
        rw [Nat.sub_mul]
        have := Nat.mul_le_mul_right k (show j ≤ cap by omega)
        omega) .nil⟩) h
end Go.Proofs.YtjhejgamjlokdaaGreat


namespace Go.Abs
open Go
inductive AllV (tab : List (Nat × Ty)) (T : List (Nat × AV)) (O : List AObj) : List ResultVar → List AV → Prop
  | nil : AllV tab T O [] []
  | cons {r V rs Vs} : ResV tab T O r V → AllV tab T O rs Vs → AllV tab T O (r :: rs) (V :: Vs)
inductive ResW (tab : List (Nat × Ty)) (m : Nat) (N : List AObj) (r : AV) : Array ResultVar → St → Prop
  | mk {rs Vs T O ids} : 2 ≤ rs.length → AllV tab T O rs Vs → NEx O ids N → (ids.filterMap id).Nodup → preB ids m 0 = true → Ex O ids [.tup Vs] [r] → ResW tab m N r rs.toArray ⟨T, O⟩
def FinW (tab : List (Nat × Ty)) (m : Nat) (rs : Array ResultVar) (N : List AObj) (r : AV) : Exit → St → Prop
  | .ret, σ => ResW tab m N r rs σ
  | .normal, σ => ResW tab m N r rs σ
  | _, _ => False
section
variable {P : Program} {n m : Nat} {G : Ctx} {T : List (Nat × AV)} {O : List AObj} {tab : List (Nat × Ty)}
theorem AllV.rel (hP : TabOk P tab) {S ι F a w} (hr : RelAt n m G S ι F ⟨T, O⟩ a w) {rs : List ResultVar} {Vs : List AV} (h : AllV tab T O rs Vs) : ∃ vs : List Value, vs.length = rs.length ∧ (rs.mapM (resSem a.tmps)).run P w = .ok vs w ∧ LRel S w ι O Vs vs [] := by
  induction h with
  | nil => exact ⟨[], rfl, rfl, .nil⟩
  | cons h1 _ ih =>
    obtain ⟨v, hv, hV⟩ := ResV.rel hP hr h1
    obtain ⟨vs, hl, hm, hV2⟩ := ih
    refine ⟨v :: vs, by simp [hl], ?_, by simpa using LRel.cons hV hV2⟩
    rw [List.mapM_cons]
    simp only [Sem.run_bind, hv, hm, Result.andThen_ok, Sem.run_pure]
theorem run_resultsW {fn : Func} {tmps : Array Value} {rs : List ResultVar} {vs : List Value} {w : World} (h : fn.results = rs.toArray) (h2 : 2 ≤ vs.length) (hm : (rs.mapM (resSem tmps)).run P w = .ok vs w) : (results fn tmps).run P w = .ok (.tuple vs.toArray) w := by
  rw [results_eq, h]
  have e : (Array.mapM (resSem tmps) rs.toArray) = (do let l ← rs.mapM (resSem tmps); pure l.toArray) := by
    rw [List.mapM_toArray]
    try rfl
  rw [e]
  simp only [Sem.run_bind, hm, Result.andThen_ok, Sem.run_pure]
  have : ¬ vs.toArray.size = 1 := by simp; omega
  rw [dif_neg this]
theorem ResW.out (hP : TabOk P tab) {rs : Array ResultVar} {N : List AObj} {r : AV} {σ : St} {a : Act} {w : World} {fn : Func} (hn : 0 < n) (hfr : fn.results = rs) (h : ResW tab m N r rs σ) (hr : Rel n m G σ a w) :
    ∃ v, (results fn a.tmps).run P w = .ok v w ∧ ∃ S' ι F, (∀ b, G.S0 b → S' b) ∧ (∀ b, S' b → G.S0 b ∨ G.w0.heap.size ≤ b) ∧ (∀ b, S' b → b < w.heap.size) ∧ (∀ id, id < m → ι id = G.ι0 id) ∧ ORel S' w ι N F ∧
      (∀ id, id < N.length → ∀ b ∈ F id, (G.M0 b ∨ G.w0.heap.size ≤ b) ∧ ¬ S' b ∧ b < w.heap.size) ∧ VRel S' w ι N r v [] ∧ Keeps G.w0 G.M0 w := by
  cases h with
  | @mk rs Vs T O ids h2 hv hN hnd hpre hex =>
    obtain ⟨S, ι, F, hr⟩ := hr
    obtain ⟨vs, hl, hm, hV⟩ := hv.rel hP hr
    have hT : VRel S w ι O (.tup Vs) (.tuple vs.toArray) [] := by simpa using LRel.tup hV .nil
    refine ⟨.tuple vs.toArray, run_resultsW hfr (by omega) hm, ?_⟩
    have hr2 : Rel n m G ⟨(0, .tup Vs) :: T, O⟩ _ w := ⟨S, ι, F, hr.put hn hT⟩
    let fn2 : Func := { fn with results := #[.tmp 0] }
    obtain ⟨v2, hv2, h3⟩ := ResG.out (fn := fn2) hP rfl (ResG.one (ids := ids) (ResV.tmp (t := 0) rfl) hN hnd hpre hex) hr2
    have e : v2 = .tuple vs.toArray := by
      have hs : 0 < a.tmps.size := by rw [hr.size]; exact hn
      have hg : (resSem (a.put (some 0) (.tuple vs.toArray)).tmps (.tmp 0)).run P w = .ok (.tuple vs.toArray) w := by
        simp [resSem, Act.put, hs]
      have := run_results1 (P := P) (fn := fn2) (r1 := .tmp 0) (w := w) rfl hg
      rw [this] at hv2
      cases hv2; rfl
    rw [e] at h3
    exact h3
def FinXW (tab : List (Nat × Ty)) (m : Nat) (rs : Array ResultVar) (β : Type) (C : β → Prop) (MN : β → List AObj) (r : β → AV) : Exit → St → Prop
  | .ret, σ => ∃ y, C y ∧ ResW tab m (MN y) (r y) rs σ
  | .normal, σ => ∃ y, C y ∧ ResW tab m (MN y) (r y) rs σ
  | _, _ => False
theorem FnX.of_bodyW {pv : List Value} {pa : List AV} {β : Type} {C : β → Prop} {MX NX : β → List AObj} {rX : β → AV} (hP : TabOk P tab) {f : FuncId} {fn : Func} {c : Code} {args : List AV} {M : List AObj} {k : Nat} (hk0 : 0 < k) (hf : P.funcs[f]? = some fn) (hnt : fn.ntmps = k) (hb : fn.body = some c) (hnm : (fn.name == "runtime.NumGoroutine") = false)
    (hal : args.length ≤ k) (hml : M.length = m) (hps : pa.all AV.still = true) (h : ∀ G, Pin G pv pa → WpA P k m G c ⟨enumT 0 args, M⟩ (FinXW tab m fn.results β C (fun y => MX y ++ NX y) rX)) : FnX P f args M pv pa β C MX NX rX := by
  refine ⟨⟨fn, hf, by rw [hb]; rfl, hnm⟩, fun w S ι F vs hS hO hF hl hpin => ?_⟩
  have hvl : vs.length = args.length := hl.len.symm
  refine calls_of_wp hf hb ?_
  have hrel : Rel k m ⟨w, S, fun b => ∃ i, i < M.length ∧ b ∈ F i, ι⟩ ⟨enumT 0 args, M⟩ { tmps := vs.toArray ++ Array.replicate (fn.ntmps - vs.toArray.size) undef, defers := [] } w := by
    refine ⟨S, ι, F, rfl, ?_, fun t => ?_, hO, fun id hid b hb => ⟨.inl ⟨id, hid, hb⟩, hF id hid b hb⟩, ⟨fun _ h => h, fun _ h => .inl h⟩, hS, Keeps.refl _ _, fun _ _ => rfl, by show m ≤ M.length; omega⟩
    · simp [hnt]; omega
    · show VRel S w ι M (look (enumT 0 args) t) _ []
      rw [look_enumT]
      simp only [Nat.zero_le, if_true, Nat.sub_zero]
      by_cases ht : t < args.length
      · obtain ⟨x, g, hx, hV, hg⟩ := hl.get (List.getElem?_eq_getElem ht)
        have hg0 : g = [] := List.eq_nil_iff_forall_not_mem.2 fun b hb => by simpa using hg b hb
        subst hg0
        have e1 : args.getD t .any = args[t] := by simp [ht]
        have e2 : (vs.toArray ++ Array.replicate (fn.ntmps - vs.toArray.size) undef).getD t undef = x := by
          have : t < vs.length := by omega
          rw [List.getElem?_eq_getElem this] at hx
          simp only [Option.some.injEq] at hx
          simp [Array.getD_eq_getD_getElem?, Array.getElem?_append, this, hx]
        rw [e1, e2]; exact hV
      · have e1 : args.getD t .any = .any := by simp [List.getElem?_eq_none (Nat.le_of_not_lt ht)]
        rw [e1]; exact .any .nil
  refine wp_mono (h ⟨w, S, fun b => ∃ i, i < M.length ∧ b ∈ F i, ι⟩ ⟨hpin, hps, fun b hb => ⟨fun ⟨i, hi, hbf⟩ => (hF i hi b hbf).1 hb, hS b hb⟩⟩ _ _ hrel) fun e a' w' ⟨σ', hq, hr'⟩ => ?_
  have hdef : a'.defers = [] := by obtain ⟨_, _, _, h⟩ := hr'; exact h.defers
  have key : ∀ (y : β), C y → ∀ v S' ι' F', ((∀ b, S b → S' b) ∧ (∀ b, S' b → S b ∨ w.heap.size ≤ b) ∧ (∀ b, S' b → b < w'.heap.size) ∧ (∀ id, id < m → ι' id = ι id) ∧ ORel S' w' ι' (MX y ++ NX y) F' ∧
      (∀ id, id < (MX y ++ NX y).length → ∀ b ∈ F' id, ((∃ i, i < M.length ∧ b ∈ F i) ∨ w.heap.size ≤ b) ∧ ¬ S' b ∧ b < w'.heap.size) ∧ VRel S' w' ι' (MX y ++ NX y) (rX y) v [] ∧ Keeps w (fun b => ∃ i, i < M.length ∧ b ∈ F i) w') →
      ∃ y, C y ∧ ∃ v' S' ι' F', Ending.returned v = .returned v' ∧ (∀ b, S b → S' b) ∧ (∀ b, S' b → S b ∨ w.heap.size ≤ b) ∧ (∀ b, S' b → b < w'.heap.size) ∧ (∀ id, id < M.length → ι' id = ι id) ∧ ORel S' w' ι' (MX y ++ NX y) F' ∧
      (∀ id, id < (MX y ++ NX y).length → ∀ b ∈ F' id, ((∃ i, i < M.length ∧ b ∈ F i) ∨ w.heap.size ≤ b) ∧ ¬ S' b ∧ b < w'.heap.size) ∧ VRel S' w' ι' (MX y ++ NX y) (rX y) v' [] ∧ Keeps w (fun b => ∃ i, i < M.length ∧ b ∈ F i) w' :=
    fun y hy v S' ι' F' ⟨q1, q2, q3, q4, q5⟩ => ⟨y, hy, v, S', ι', F', rfl, q1, q2, q3, by rw [hml]; exact q4, q5⟩
  cases e with
  | normal =>
    obtain ⟨y, hy, hq⟩ := hq
    obtain ⟨v, hv, S', ι', F', q⟩ := ResW.out hP hk0 rfl hq hr'
    exact ⟨hdef, v, hv, key y hy v S' ι' F' q⟩
  | ret =>
    obtain ⟨y, hy, hq⟩ := hq
    obtain ⟨v, hv, S', ι', F', q⟩ := ResW.out hP hk0 rfl hq hr'
    exact ⟨hdef, v, hv, key y hy v S' ι' F' q⟩
  | _ => exact hq.elim
theorem FnP.of_bodyW (hP : TabOk P tab) {f : FuncId} {fn : Func} {c : Code} {args : List AV} {M M' N MN : List AObj} {pv : List Value} {pa : List AV} {r : AV} {k : Nat} (hk0 : 0 < k) (hf : P.funcs[f]? = some fn) (hnt : fn.ntmps = k) (hb : fn.body = some c) (hnm : (fn.name == "runtime.NumGoroutine") = false)
    (hal : args.length ≤ k) (hml : cnt M.length 0 = some m) (hMN : catF M' N = some MN) (hps : pa.all AV.still = true) (h : ∀ G, Pin G pv pa → WpA P k m G c ⟨enumT 0 args, M⟩ (FinW tab m fn.results MN r)) : FnP P f args M pv pa M' N r := by
  have := catF_eq hMN; subst this
  refine FnX.of_bodyW hP hk0 hf hnt hb hnm hal (cnt_eq hml) hps fun G hp => (h G hp).mono fun e σ hq => ?_
  cases e <;> first | exact ⟨(), trivial, hq⟩ | exact hq.elim
theorem FinW.mk {rs : List ResultVar} {Vs : List AV} {N : List AObj} {r : AV} {e : Exit} (ids : List (Option Nat)) (he : endB e = true) (h2 : 2 ≤ rs.length) (hv : AllV tab T O rs Vs) (hx : Ex O ids [.tup Vs] [r]) (hN : NEx O ids N) (hd : nodupB (ids.filterMap id) = true) (hp : preB ids m 0 = true) : FinW tab m rs.toArray N r e ⟨T, O⟩ := by
  have h : ResW tab m N r rs.toArray ⟨T, O⟩ := .mk h2 hv hN (nodupB_spec hd) hp hx
  cases e <;> first | exact h | cases he
theorem look_filter (ds : List Nat) (t : Nat) : ∀ T : List (Nat × AV), look (T.filter fun x => !memB x.1 ds) t = look T t ∨ look (T.filter fun x => !memB x.1 ds) t = .any
  | [] => .inl rfl
  | (k, V) :: T => by
    have ih := look_filter ds t T
    by_cases hm : memB k ds = true
    · rw [List.filter_cons_of_neg (by simp [hm])]
      by_cases e : k = t
      · subst e
        refine .inr ?_
        clear ih
        induction T with
        | nil => rfl
        | cons y T ih2 =>
          obtain ⟨k2, V2⟩ := y
          by_cases hm2 : memB k2 ds = true
          · rw [List.filter_cons_of_neg (by simp [hm2])]; exact ih2
          · rw [List.filter_cons_of_pos (by simp [hm2])]
            have hne : k2 ≠ k := by rintro rfl; exact hm2 hm
            rw [look_cons_other _ _ _ _ hne]
            exact ih2
      · rw [look_cons_other _ _ _ _ e]; exact ih
    · rw [List.filter_cons_of_pos (by simp [hm])]
      by_cases e : k = t
      · subst e; exact .inl (by rw [look_cons_same, look_cons_same])
      · rw [look_cons_other _ _ _ _ e, look_cons_other _ _ _ _ e]; exact ih
theorem Weak.drop {T T' : List (Nat × AV)} {O : List AObj} (ds : List Nat) (h : (T.filter fun x => !memB x.1 ds) = T') : Weak m ⟨T, O⟩ ⟨T', O⟩ := by
  subst h
  rintro n G a w ⟨S, ι, F, hr⟩
  refine ⟨S, ι, F, hr.defers, hr.size, fun t => ?_, hr.objs, hr.foot, hr.base, hr.stable, hr.keeps, hr.spots, hr.mle⟩
  have h1 := hr.tmps t
  rcases look_filter ds t T with e | e
  · show VRel S w ι O (look _ t) _ []; rw [e]; exact h1
  · show VRel S w ι O (look _ t) _ []; rw [e]; exact .any .nil
def dropF (ds : List Nat) : List (Nat × AV) → Option (List (Nat × AV))
  | [] => some []
  | (k, V) :: T => match dropF ds T with
    | some T' => (match memB k ds with | true => some T' | false => some ((k, V) :: T'))
    | none => none
theorem dropF_eq (ds : List Nat) : ∀ {T T' : List (Nat × AV)}, dropF ds T = some T' → (T.filter fun x => !memB x.1 ds) = T'
  | [], T', h => by cases h; rfl
  | (k, V) :: T, T', h => by
    unfold dropF at h
    cases h1 : dropF ds T with
    | none => rw [h1] at h; cases h
    | some T1 =>
      have ih := dropF_eq ds h1
      rw [h1] at h
      cases hm : memB k ds with
      | true => simp only [hm, Option.some.injEq] at h; rw [List.filter_cons_of_neg (by simp [hm]), ih, h]
      | false => simp only [hm, Option.some.injEq] at h; rw [List.filter_cons_of_pos (by simp [hm]), ih, h]
theorem Weak.dropS {T T' : List (Nat × AV)} {O : List AObj} (ds : List Nat) (h : dropF ds T = some T') : Weak m ⟨T, O⟩ ⟨T', O⟩ := Weak.drop ds (dropF_eq ds h)
end
section
variable {P : Program} {n m : Nat} {G : Ctx} {ops : Array Oper} {T0 : List (Nat × AV)}
theorem HeadG.hole9 {fs fs2 O o l out ks ds Os O' F d V ob} (hd : o.dst = some d) (hm : mayStep o = false) (hO : O[9]? = some ob) (hF : gdepsF fs o.after.toList = some F) (h : ∀ Tv x0 x1 x2 x3 x4 x5 x6 x7 x8 R, WpL P n m G false ops [o] ⟨F ++ (T0 ++ Tv), x0 :: x1 :: x2 :: x3 :: x4 :: x5 :: x6 :: x7 :: x8 :: ob :: R⟩ (Only ⟨(d, V) :: (F ++ (T0 ++ Tv)), x0 :: x1 :: x2 :: x3 :: x4 :: x5 :: x6 :: x7 :: x8 :: ob :: R⟩))
    (hs : catF fs [some (d, V)] = some fs2) (r : HeadG P n m G ops T0 fs2 O l out ks ds Os O') : HeadG P n m G ops T0 fs O (o :: l) (some (d, V) :: out) (0 :: ks) (some [none, none, none, none, none, none, none, none, none, some ob] :: ds) Os O' := by
  have := catF_eq hs; subst this
  refine .still (gdepsF_eq hF) (by decide) (.pre [none, none, none, none, none, none, none, none, none, some ob] hd fun Tv Ov hp => ?_) r
  obtain ⟨x0, R0, rfl, hp0⟩ := hp.un
  obtain ⟨x1, R1, rfl, hp1⟩ := hp0.un
  obtain ⟨x2, R2, rfl, hp2⟩ := hp1.un
  obtain ⟨x3, R3, rfl, hp3⟩ := hp2.un
  obtain ⟨x4, R4, rfl, hp4⟩ := hp3.un
  obtain ⟨x5, R5, rfl, hp5⟩ := hp4.un
  obtain ⟨x6, R6, rfl, hp6⟩ := hp5.un
  obtain ⟨x7, R7, rfl, hp7⟩ := hp6.un
  obtain ⟨x8, R8, rfl, hp8⟩ := hp7.un
  obtain ⟨R, rfl⟩ := hp8.un1
  exact h Tv x0 x1 x2 x3 x4 x5 x6 x7 x8 R
end
end Go.Abs


namespace Go.Proofs.YtjhejgamjlokdaaGreat
open Go Go.Abs
attribute [local irreducible] WpA WpL Rnd Blk Abs.Seq Abs.Fin Abs.FinG FnC FnG FnX FnP FinX Only
attribute [local irreducible] belowD onceD pickD modeD l8D l8AnyD optD anyD seedD headD headAnyD symL HasC blkD lev25D frK frD
attribute [local simp] Abs.setL
abbrev FrSub (k : Nat) (f : Fr3) : AV := .agg [I f.w, I f.h, .own k 0 f.o (f.p.length - f.o)]
instance l18Any_p : ConP 106 (∀ (v : Value) (l : List Int) (c : Cr), CrOk l c → Pn 106 v l c [] (frAnyD l c).1 [XI (frAnyD l c).2.p] (FrSub 1 (frAnyD l c).2)) := ⟨fun v l c h => by
  have ho := frD_ok h
  have ho1 := ho.1
  have hp1 := ho.2.2.2.1
  have hp2 := ho.2.2.2.2.1
  have hoo := ho.2.2.2.2.2
  unfold FrSub
  have hs := belowD_ok 16 ho1
  have hsc := hs.1
  have hs0 := hs.2.1
  have hs1 := hs.2.2.1 (by decide)
  by_cases h0 : (belowD l (frD l c).1 16).2 = 0
  · rw [frAnyD_0 h0]
    have hi := belowD_ok ((frD l c).2.p.length : Int) hsc
    have hi0 := hi.2.1
    have hi1 := hi.2.2.1 (by omega)
    have hic := hi.1
    rw [List.length_set, hoo, Nat.sub_zero]
    refine FnP.of_body tabOk Tryz.func106 Tryz.ntmps106 rfl (by decide +kernel) (by simp) rfl rfl rfl fun G hp => ?_
    refine goR (r := ?_); and_intros <;> intros <;> try exact True.intro
    all_goals first | contradiction | exact h.2.1 | exact h.2.2 | exact ho1.2.1 | exact ho1.2.2 | omega | skip
    apply WpA.regionSF (O := []) (Or := [CurO v (belowD l (frD l c).1 16).1, ⟨[I 0, I 0, .nilS], 0, 0, none⟩, XI (frD l c).2.p, ⟨[I (frD l c).2.w, I (frD l c).2.h, .own 2 0 0 (frD l c).2.p.length], 0, 0, none⟩]) (O1 := [CurO v (pickD l (belowD l (belowD l (frD l c).1 16).1 (frD l c).2.p.length).1 [-1, 256]).1, ⟨[I 0, I 0, .nilS], 0, 0, none⟩, XI (frD l c).2.p, ⟨[I (frD l c).2.w, I (frD l c).2.h, .own 2 0 0 (frD l c).2.p.length], 0, 0, none⟩, ⟨ints [-1, 256], 1, 1, some 3⟩, deadO]) 10 1 [2, 3] [0] rfl mixed (by decide +kernel)
    · exact rfl
    · apply HeadS.consF .none rfl
      · exact rfl
      · exact rfl
      · intro Tv Ov hc hp' hd hk
        obtain ⟨x0, x1, x2, R, rfl⟩ := Abs.split4 (hk 3 rfl)
        exact in1
      · exact rfl
      · exact rfl
      apply HeadS.consF .none rfl
      · exact rfl
      · exact rfl
      · intro Tv Ov hc hp' hd hk
        obtain ⟨x0, x1, x2, R, rfl⟩ := Abs.split4 (hk 3 rfl)
        exact in1
      · exact rfl
      · exact rfl
      apply HeadS.consF .none rfl
      · exact rfl
      · exact rfl
      · exact in1
      · exact rfl
      · exact rfl
      apply HeadS.consF .none rfl
      · exact rfl
      · exact rfl
      · intro Tv Ov hc hp' hd hk
        obtain ⟨x0, x1, x2, R, rfl⟩ := Abs.split4 (hk 3 rfl)
        exact in1
      · exact rfl
      · exact rfl
      apply HeadS.consF .none rfl
      · exact rfl
      · exact rfl
      · intro Tv Ov hc hp' hd hk
        obtain ⟨x0, x1, x2, R, rfl⟩ := Abs.split4 (hk 3 rfl)
        exact in1
      · exact rfl
      · exact rfl
      apply HeadS.consF .none rfl
      · exact rfl
      · exact rfl
      · intro Tv Ov hc hp' hd hk
        obtain ⟨A0, A1, R0, rfl⟩ := Abs.split3 (hk 2 rfl)
        exact in1
      · exact rfl
      · exact rfl
      apply HeadS.consF (V := I (belowD l (belowD l (frD l c).1 16).1 (frD l c).2.p.length).2) (.step 0 (CurO v (belowD l (belowD l (frD l c).1 16).1 (frD l c).2.p.length).1)) rfl
      · exact rfl
      · exact rfl
      · intro Tv Ov hc hp' hd hk
        obtain ⟨R, rfl⟩ := split1 (hp' 0 _ rfl)
        refine K.call ?_
        refine K.conP (fun hcon => ?_)
        refine WpL.callP1 (hcon v l (belowD l (frD l c).1 16).1 (frD l c).2.p.length hsc) hp handA handOA rfl (.cons rfl (.sc (.sc (.sc .nil))) .nil) (by decide) ?_
        exact WpL.nil (Only.mk rfl)
      · exact rfl
      · exact rfl
      apply HeadS.consF .none rfl
      · exact rfl
      · exact rfl
      · exact in1
      · exact rfl
      · exact rfl
      apply HeadS.consF (V := .own 4 1 0 2) (.put 4 (⟨ints [-1, 256], 1, 1, some 3⟩)) rfl
      · exact rfl
      · exact rfl
      · intro Tv Ov hc hp' hd hk
        refine WpL.litInts tabOk rfl rfl rfl rfl rfl (by decide) (by rw [nid_len, Nat.zero_add]) (by decide) ?_
        apply WpL.putNil (p := 4)
        · exact hp' 4 _ rfl
        · exact Nat.le_of_ble_eq_true rfl
        · exact rfl
        · first | exact still_ints _ | exact still_rows (fun _ => rfl) _ | rfl
      · exact rfl
      · exact rfl
      apply HeadS.consF (V := I (pickD l (belowD l (belowD l (frD l c).1 16).1 (frD l c).2.p.length).1 [-1, 256]).2) (.step 0 (CurO v (pickD l (belowD l (belowD l (frD l c).1 16).1 (frD l c).2.p.length).1 [-1, 256]).1)) rfl
      · exact rfl
      · exact rfl
      · intro Tv Ov hc hp' hd hk
        obtain ⟨a1, a2, a3, R, rfl⟩ := split04 (hp' 0 _ rfl) (hd 8 _ 4 _ (by decide) rfl rfl rfl)
        refine K.call ?_
        refine K.conP (fun hcon => ?_)
        refine WpL.callP1 (hcon v l (belowD l (belowD l (frD l c).1 16).1 (frD l c).2.p.length).1 [-1, 256] ⟨hic, by decide, by decide⟩) hp handA handOA rfl (.cons rfl (.sc (.sc (.sc .nil))) .nil) (by decide) ?_
        exact WpL.nil (Only.mk rfl)
      · exact rfl
      · exact rfl
      exact HeadS.nil
    · exact rfl
    · exact rfl
    · exact rfl
    · exact rfl
    · exact rfl
    · exact rfl
    · exact rfl
    refine go (r := ?_); and_intros <;> intros <;> try exact True.intro
    all_goals first | contradiction | omega | trace_state
  by_cases h1 : (belowD l (frD l c).1 16).2 = 1
  · rw [frAnyD_1 h1, hoo, Nat.sub_zero]
    have hw := ho.2.1
    refine FnP.of_body tabOk Tryz.func106 Tryz.ntmps106 rfl (by decide +kernel) (by simp) rfl rfl rfl fun G hp => ?_
    refine go (r := ?_); and_intros <;> intros <;> try exact True.intro
    all_goals first | contradiction | exact h.2.1 | exact h.2.2 | exact ho1.2.1 | exact ho1.2.2 | exact hsc.2.1 | exact hsc.2.2 | omega | (simp [Abs.setL]; done) | (simp; done) | trace_state
  by_cases h2 : (belowD l (frD l c).1 16).2 = 2
  · rw [frAnyD_2 h2]
    refine FnP.of_body tabOk Tryz.func106 Tryz.ntmps106 rfl (by decide +kernel) (by simp) rfl rfl rfl fun G hp => ?_
    refine go (r := ?_); and_intros <;> intros <;> try exact True.intro
    all_goals first | contradiction | exact h.2.1 | exact h.2.2 | exact ho1.2.1 | exact ho1.2.2 | omega | skip
    refine K.sl ?_
    refine subOwnLo (j := 1) (off := 1) tabOk rfl rfl rfl rfl rfl rfl (by omega) rfl (by decide) ?_
    refine go (r := ?_); and_intros <;> intros <;> try exact True.intro
    all_goals first | contradiction | omega | trace_state
  · rw [frAnyD_3 h0 h1 h2, hoo, Nat.sub_zero]
    refine FnP.of_body tabOk Tryz.func106 Tryz.ntmps106 rfl (by decide +kernel) (by simp) rfl rfl rfl fun G hp => ?_
    refine go (r := ?_); and_intros <;> intros <;> try exact True.intro
    all_goals first | contradiction | exact h.2.1 | exact h.2.2 | exact ho1.2.1 | exact ho1.2.2 | omega | trace_state⟩
section
attribute [local irreducible] frAnyD
theorem mul_q {n b : Int} (hn : n = 4 ∨ n = 8) (hb : 0 ≤ b ∧ b ≤ 1000) : -9223372036854775808 ≤ n * b ∧ n * b ≤ 9223372036854775807 := by rcases hn with rfl | rfl <;> omega
abbrev SpT (k : Nat) (s : Spt) : AV := .tup [FrSub k s.f, I s.x, I s.y, I s.n]
instance l18Spot_p : ConP 78 (∀ (v : Value) (l : List Int) (c : Cr), CrOk l c → Pn 78 v l c [] (spotD l c).1 [XI (spotD l c).2.f.p] (SpT 1 (spotD l c).2)) := ⟨fun v l c h => by
  have ho := frAnyD_ok h
  obtain ⟨s1, s2, s3, s4, s5, s6⟩ := spotD_crs h
  have hw := ho.2.1
  have hh := ho.2.2.1
  have hw8 : 0 ≤ (frAnyD l c).2.w / (sN l c).2 ∧ (frAnyD l c).2.w / (sN l c).2 ≤ 40 := by rcases s6 with e | e <;> rw [e] <;> omega
  have hh8 : 0 ≤ (frAnyD l c).2.h / (sN l c).2 ∧ (frAnyD l c).2.h / (sN l c).2 ≤ 40 := by rcases s6 with e | e <;> rw [e] <;> omega
  have hx := belowD_ok (max 1 ((frAnyD l c).2.w / (sN l c).2)) s2
  have hx0 := hx.2.1
  have hx1 := hx.2.2.1 (by omega)
  have hy := belowD_ok (max 1 ((frAnyD l c).2.h / (sN l c).2)) s3
  have hy0 := hy.2.1
  have hy1 := hy.2.2.1 (by omega)
  have hk := belowD_ok 14 s4
  have hk0 := hk.2.1
  have hk1 := hk.2.2.1 (by decide)
  have m1 := mul_q s6 (b := (sX l c).2) ⟨hx0, by show (belowD l _ _).2 ≤ 1000; omega⟩
  have m2 := mul_q s6 (b := (sY l c).2) ⟨hy0, by show (belowD l _ _).2 ≤ 1000; omega⟩
  by_cases h0 : (sK l c).2 = 0
  · rw [spotD_0 h0]
    simp only [sN, sX, sY, sK] at *
    refine FnP.of_bodyW tabOk (by decide) Tryz.func78 Tryz.ntmps78 rfl (by decide +kernel) (by simp) rfl rfl rfl fun G hp => ?_
    refine go (r := ?_); and_intros <;> intros <;> try exact True.intro
    all_goals first | contradiction | exact h.2.1 | exact h.2.2 | exact s1.2.1 | exact s1.2.2 | exact s2.2.1 | exact s2.2.2 | exact s3.2.1 | exact s3.2.2 | exact s4.2.1 | exact s4.2.2 | exact s5.2.1 | exact s5.2.2 | omega | (simp; done) | skip
    all_goals first | exact FinW.mk (rs := [_, _, _, _]) [some 0, some 2] rfl (by decide) (.cons (ResV.cell (ds := [_, _, _]) rfl rfl rfl rfl rfl) (.cons (ResV.tmp rfl) (.cons (ResV.tmp rfl) (.cons (ResV.tmp rfl) .nil)))) (.tup (.agg (.keep rfl rfl rfl (.keep rfl rfl rfl (.own rfl rfl rfl rfl .nil))) (.keep rfl rfl rfl (.keep rfl rfl rfl (.keep rfl rfl rfl .nil)))) .nil) (.obj rfl rfl rfl rfl rfl (.inr rfl) (.obj rfl rfl (still_ints _) rfl rfl (.inr rfl) .nil)) rfl rfl | trace_state
  by_cases h1 : (sK l c).2 = 1
  · rw [spotD_1 h1]
    simp only [sN, sX, sY, sK] at *
    refine FnP.of_bodyW tabOk (by decide) Tryz.func78 Tryz.ntmps78 rfl (by decide +kernel) (by simp) rfl rfl rfl fun G hp => ?_
    refine go (r := ?_); and_intros <;> intros <;> try exact True.intro
    all_goals first | contradiction | exact h.2.1 | exact h.2.2 | exact s1.2.1 | exact s1.2.2 | exact s2.2.1 | exact s2.2.2 | exact s3.2.1 | exact s3.2.2 | exact s4.2.1 | exact s4.2.2 | exact s5.2.1 | exact s5.2.2 | omega | (simp; done) | skip
    all_goals first | exact FinW.mk (rs := [_, _, _, _]) [some 0, some 2] rfl (by decide) (.cons (ResV.cell (ds := [_, _, _]) rfl rfl rfl rfl rfl) (.cons (ResV.tmp rfl) (.cons (ResV.tmp rfl) (.cons (ResV.tmp rfl) .nil)))) (.tup (.agg (.keep rfl rfl rfl (.keep rfl rfl rfl (.own rfl rfl rfl rfl .nil))) (.keep rfl rfl rfl (.keep rfl rfl rfl (.keep rfl rfl rfl .nil)))) .nil) (.obj rfl rfl rfl rfl rfl (.inr rfl) (.obj rfl rfl (still_ints _) rfl rfl (.inr rfl) .nil)) rfl rfl | trace_state
  · rw [spotD_2 h0 h1]
    simp only [sN, sX, sY, sK] at *
    refine FnP.of_bodyW tabOk (by decide) Tryz.func78 Tryz.ntmps78 rfl (by decide +kernel) (by simp) rfl rfl rfl fun G hp => ?_
    refine go (r := ?_); and_intros <;> intros <;> try exact True.intro
    all_goals first | contradiction | exact h.2.1 | exact h.2.2 | exact s1.2.1 | exact s1.2.2 | exact s2.2.1 | exact s2.2.2 | exact s3.2.1 | exact s3.2.2 | exact s4.2.1 | exact s4.2.2 | exact s5.2.1 | exact s5.2.2 | omega | (simp; done) | skip
    all_goals first | exact FinW.mk (rs := [_, _, _, _]) [some 0, some 2] rfl (by decide) (.cons (ResV.cell (ds := [_, _, _]) rfl rfl rfl rfl rfl) (.cons (ResV.tmp rfl) (.cons (ResV.tmp rfl) (.cons (ResV.tmp rfl) .nil)))) (.tup (.agg (.keep rfl rfl rfl (.keep rfl rfl rfl (.own rfl rfl rfl rfl .nil))) (.keep rfl rfl rfl (.keep rfl rfl rfl (.keep rfl rfl rfl .nil)))) .nil) (.obj rfl rfl rfl rfl rfl (.inr rfl) (.obj rfl rfl (still_ints _) rfl rfl (.inr rfl) .nil)) rfl rfl | trace_state⟩
end
end Go.Proofs.YtjhejgamjlokdaaGreat


namespace Go.Proofs.YtjhejgamjlokdaaGreat
open Go Go.Abs
attribute [local irreducible] WpA WpL Rnd Blk Abs.Seq Abs.Fin Abs.FinG FnC FnG FnX FnP FinX Only
attribute [local irreducible] belowD onceD pickD modeD l8D l8AnyD optD anyD seedD headD headAnyD symL HasC blkD lev25D frK frD
theorem headA9 {X : Prop} (h : X := by
  (repeat' (first
  | exact Abs.HeadG.nil
  | (apply HeadG.fixedF rfl rfl rfl (by decide +kernel)
     · exact rfl
     · exact in0
     · exact rfl)
  | (apply HeadG.preF 0 rfl rfl rfl
     · exact rfl
     · exact in0
     · exact rfl)
  | (apply HeadG.hole0 rfl rfl rfl
     · exact rfl
     · exact in0
     · exact rfl)
  | (apply HeadG.hole1 rfl rfl rfl
     · exact rfl
     · exact in0
     · exact rfl)
  | (apply HeadG.hole2 rfl rfl rfl
     · exact rfl
     · exact in0
     · exact rfl)
  | (apply HeadG.hole3 rfl rfl rfl
     · exact rfl
     · exact in0
     · exact rfl)
  | (apply HeadG.hole4 rfl rfl rfl
     · exact rfl
     · exact in0
     · exact rfl)
  | (apply HeadG.hole5 rfl rfl rfl
     · exact rfl
     · exact in0
     · exact rfl)
  | (apply HeadG.hole6 rfl rfl rfl
     · exact rfl
     · exact in0
     · exact rfl)
  | (apply HeadG.hole7 rfl rfl rfl
     · exact rfl
     · exact in0
     · exact rfl)
  | (apply HeadG.hole8 rfl rfl rfl
     · exact rfl
     · exact in0
     · exact rfl)
  | (apply HeadG.hole9 rfl rfl rfl
     · exact rfl
     · exact in0
     · exact rfl)
  | (apply HeadG.stepF rfl rfl
     · exact rfl
     · exact in1
     · exact rfl)
  | (apply HeadG.stepNF rfl
     · exact rfl
     · exact in1
     · exact rfl)))
  first | done | fail) : X := h
theorem fieldRd1 {n m : Nat} {G : Ctx} {T : List (Nat × AV)} {O : List AObj} {Q : Exit → St → Prop} {ops : Array Oper} {l : List Oper} {tt : TypeId} {pos : String} {after : Array Edge} {d : Nat} {md : Bool} {x : Operand} {V1 V2 : AV} (hx : av T x = .agg [V1, V2]) (hn : d < n) (h : WpL Tryz.prog n m G md ops l ⟨(d, V2) :: T, O⟩ Q) :
    WpL Tryz.prog n m G md ops ({ dst := some d, op := .field 38 x 1, type := tt, pos := pos, after := after, guard := none } :: l) ⟨T, O⟩ Q :=
  WpL.pure rfl rfl hn (fun S ι F a w hr => by
    have hv := hr.eval x
    rw [show av (St.mk T O).T x = _ from hx] at hv
    obtain ⟨us, hus, hl⟩ := LRel.agg_inv hv
    obtain ⟨v1, vs, f1, f2, rfl, h1, hr2, hf⟩ := hl.uncons
    obtain ⟨v2, vs2, f3, f4, rfl, h2, hr3, hf2⟩ := hr2.uncons
    have hf3 : f3 = [] := by simp_all
    rw [hf3] at h2
    have hp : (Go.part 22 (v1 :: v2 :: vs2).toArray 1).run Tryz.prog w = .ok v2 w := by simp [Go.part, isAgg, Sem.run_bind, run_underlying Tryz.underlying22]
    refine ⟨v2, ?_, h2⟩
    simp [execOp, Instr.field, hus, run_underlying Tryz.underlying38, asAgg, hp, Sem.run_bind]) h
section
attribute [local irreducible] spotD frAnyD
abbrev PutT (k : Nat) (A : Put8) : AV := .tup [FrSub k A.s.f, HdOwn (k + 1) A.hd, I A.s.x, I A.s.y, .agg [I A.m, .own (k + 2) 0 0 A.lv.length]]
instance l25Put_p : ConP 45 (∀ (v : Value) (l : List Int) (c : Cr), CrOk l c → Pn 45 v l c [] (putD l c).1 [XI (putD l c).2.s.f.p, XI (putD l c).2.hd.lens, XI (putD l c).2.lv] (PutT 1 (putD l c).2)) := ⟨fun v l c h => by
  obtain ⟨s1, s2, s3, s4, s5, s6, s7⟩ := putD_crs h
  have hn5 := (spotD_ok h).2.1
  by_cases hn : (pS l c).2.n = 4 ∨ (pS l c).2.n = 8
  · have hnd := decide_eq_true hn
    by_cases h6 : (pO l c).2 = true
    · rw [putD_1 hn h6]
      simp only [pS, pH, pM, pL, pO] at *
      refine FnP.of_bodyW tabOk (by decide) Tryz.func45 Tryz.ntmps45 rfl (by decide +kernel) (by simp) rfl rfl rfl fun G hp => ?_
      refine goR (r := ?_); and_intros <;> intros <;> try exact True.intro
      all_goals first | contradiction | exact h.2.1 | exact h.2.2 | exact s1.2.1 | exact s1.2.2 | exact s2.2.1 | exact s2.2.2 | exact s3.2.1 | exact s3.2.2 | exact s4.2.1 | exact s4.2.2 | exact s5.2.1 | exact s5.2.2 | omega | exact absurd ‹(!_) = true› (by rw [h6]; decide) | (simp; done) | skip
      refine WpA.weak (Weak.dropS [4, 5] rfl) ?_
      apply WpA.regionGB 10 mixed (by decide +kernel)
      · exact rfl
      · exact headA9
      · exact trueA
      · exact trueA
      · exact trueA
      · exact demA
      · exact rfl
      · exact rfl
      refine go (r := ?_); and_intros <;> intros <;> try exact True.intro
      all_goals first | contradiction | omega | (simp; done) | skip
      exact FinW.mk (rs := [_, _, _, _, _]) [some 0, some 4, some 6, some 8] rfl (by decide) (.cons (ResV.cell (ds := [_, _, _]) rfl rfl rfl rfl rfl) (.cons (ResV.cell (ds := [_, _, _, _, _, _]) rfl rfl rfl rfl rfl) (.cons (ResV.tmp rfl) (.cons (ResV.tmp rfl) (.cons (ResV.cell (ds := [_, _]) rfl rfl rfl rfl rfl) .nil))))) (.tup (.agg (.keep rfl rfl rfl (.keep rfl rfl rfl (.own rfl rfl rfl rfl .nil))) (.agg (.keep rfl rfl rfl (.keep rfl rfl rfl (.keep rfl rfl rfl (.keep rfl rfl rfl (.keep rfl rfl rfl (.own rfl rfl rfl rfl .nil)))))) (.keep rfl rfl rfl (.keep rfl rfl rfl (.agg (.keep rfl rfl rfl (.own rfl rfl rfl rfl .nil)) .nil))))) .nil) (.obj rfl rfl rfl rfl rfl (.inr rfl) (.obj rfl rfl (still_ints _) rfl rfl (.inr rfl) (.obj rfl rfl (still_ints _) rfl rfl (.inr rfl) (.obj rfl rfl (still_ints _) rfl rfl (.inr rfl) .nil)))) rfl rfl
    · rw [putD_2 hn h6]
      have h6f := h6
      rw [Bool.not_eq_true] at h6f
      simp only [pS, pH, pM, pL, pO] at *
      refine FnP.of_bodyW tabOk (by decide) Tryz.func45 Tryz.ntmps45 rfl (by decide +kernel) (by simp) rfl rfl rfl fun G hp => ?_
      refine goR (r := ?_); and_intros <;> intros <;> try exact True.intro
      all_goals first | contradiction | exact h.2.1 | exact h.2.2 | exact s1.2.1 | exact s1.2.2 | exact s2.2.1 | exact s2.2.2 | exact s3.2.1 | exact s3.2.2 | exact s4.2.1 | exact s4.2.2 | exact s5.2.1 | exact s5.2.2 | omega | exact absurd ‹(!_) = false› (by rw [h6f]; decide) | (simp; done) | skip
      refine fieldRd1 rfl (by decide) ?_
      refine goR (r := ?_); and_intros <;> intros <;> try exact True.intro
      all_goals first | contradiction | omega | (simp; done) | skip
      refine WpA.weak (Weak.dropS [4, 5] rfl) ?_
      apply WpA.regionGB 10 mixed (by decide +kernel)
      · exact rfl
      · exact headA9
      · exact trueA
      · exact trueA
      · exact trueA
      · exact demA
      · exact rfl
      · exact rfl
      refine go (r := ?_); and_intros <;> intros <;> try exact True.intro
      all_goals first | contradiction | omega | (simp; done) | skip
      exact FinW.mk (rs := [_, _, _, _, _]) [some 0, some 4, some 6, some 11] rfl (by decide) (.cons (ResV.cell (ds := [_, _, _]) rfl rfl rfl rfl rfl) (.cons (ResV.cell (ds := [_, _, _, _, _, _]) rfl rfl rfl rfl rfl) (.cons (ResV.tmp rfl) (.cons (ResV.tmp rfl) (.cons (ResV.cell (ds := [_, _]) rfl rfl rfl rfl rfl) .nil))))) (.tup (.agg (.keep rfl rfl rfl (.keep rfl rfl rfl (.own rfl rfl rfl rfl .nil))) (.agg (.keep rfl rfl rfl (.keep rfl rfl rfl (.keep rfl rfl rfl (.keep rfl rfl rfl (.keep rfl rfl rfl (.own rfl rfl rfl rfl .nil)))))) (.keep rfl rfl rfl (.keep rfl rfl rfl (.agg (.keep rfl rfl rfl (.own rfl rfl rfl rfl .nil)) .nil))))) .nil) (.obj rfl rfl rfl rfl rfl (.inr rfl) (.obj rfl rfl (still_ints _) rfl rfl (.inr rfl) (.obj rfl rfl (still_ints _) rfl rfl (.inr rfl) (.obj rfl rfl (still_ints _) rfl rfl (.inr rfl) .nil)))) rfl rfl
  · have hnd := decide_eq_false hn
    rw [putD_0 hn]
    simp only [pS, pH, pM, pL, pO] at *
    refine FnP.of_bodyW tabOk (by decide) Tryz.func45 Tryz.ntmps45 rfl (by decide +kernel) (by simp) rfl rfl rfl fun G hp => ?_
    refine goR (r := ?_); and_intros <;> intros <;> try exact True.intro
    all_goals first | contradiction | exact h.2.1 | exact h.2.2 | exact s1.2.1 | exact s1.2.2 | exact s2.2.1 | exact s2.2.2 | exact s3.2.1 | exact s3.2.2 | exact s4.2.1 | exact s4.2.2 | exact s5.2.1 | exact s5.2.2 | omega | (simp; done) | skip
    refine WpA.weak (Weak.dropS [4, 5] rfl) ?_
    apply WpA.regionGB 10 mixed (by decide +kernel)
    · exact rfl
    · exact headA9
    · exact trueA
    · exact trueA
    · exact trueA
    · exact demA
    · exact rfl
    · exact rfl
    refine go (r := ?_); and_intros <;> intros <;> try exact True.intro
    all_goals first | contradiction | omega | (simp; done) | skip
    exact FinW.mk (rs := [_, _, _, _, _]) [some 0, some 4, some 6, some 8] rfl (by decide) (.cons (ResV.cell (ds := [_, _, _]) rfl rfl rfl rfl rfl) (.cons (ResV.cell (ds := [_, _, _, _, _, _]) rfl rfl rfl rfl rfl) (.cons (ResV.tmp rfl) (.cons (ResV.tmp rfl) (.cons (ResV.cell (ds := [_, _]) rfl rfl rfl rfl rfl) .nil))))) (.tup (.agg (.keep rfl rfl rfl (.keep rfl rfl rfl (.own rfl rfl rfl rfl .nil))) (.agg (.keep rfl rfl rfl (.keep rfl rfl rfl (.keep rfl rfl rfl (.keep rfl rfl rfl (.keep rfl rfl rfl (.own rfl rfl rfl rfl .nil)))))) (.keep rfl rfl rfl (.keep rfl rfl rfl (.agg (.keep rfl rfl rfl (.own rfl rfl rfl rfl .nil)) .nil))))) .nil) (.obj rfl rfl rfl rfl rfl (.inr rfl) (.obj rfl rfl (still_ints _) rfl rfl (.inr rfl) (.obj rfl rfl (still_ints _) rfl rfl (.inr rfl) (.obj rfl rfl (still_ints _) rfl rfl (.inr rfl) .nil)))) rfl rfl
    ⟩
end
section
attribute [local irreducible] putD
theorem DrawPutRef_p (v : Value) (l : List Int) (hl : l.length ≤ 1048576) : FnP Tryz.prog 22 [.sc v] [] [v] [CodA l] [] [XI (putD l (newD l)).2.s.f.p, XI (putD l (newD l)).2.hd.lens, XI (putD l (newD l)).2.lv] (PutT 0 (putD l (newD l)).2) := by
  have hn := newD_ok hl
  refine FnP.of_bodyW tabOk (by decide) Tryz.func22 Tryz.ntmps22 rfl (by decide +kernel) (by simp) rfl rfl rfl fun G hp => ?_
  refine goR (r := ?_); and_intros <;> intros <;> try exact True.intro
  refine K.call ?_
  refine WpL.callN (l1New_p v l hl) hp handA (.cons rfl (.sc (.sc (.sc .nil))) .nil) rfl rfl (by decide) ?_
  refine goR (r := ?_); and_intros <;> intros <;> try exact True.intro
  all_goals first | exact hl | exact hn.2.1 | exact hn.2.2 | skip
  refine WpA.weak (Weak.dropS [4, 5] rfl) ?_
  apply WpA.regionGB 10 mixed (by decide +kernel)
  · exact rfl
  · exact headA9
  · exact trueA
  · exact trueA
  · exact trueA
  · exact demA
  · exact rfl
  · exact rfl
  refine go (r := ?_); and_intros <;> intros <;> try exact True.intro
  all_goals first | contradiction | omega | (simp; done) | skip
  exact FinW.mk (rs := [_, _, _, _, _]) [some 4, some 5, some 6] rfl (by decide) (.cons (ResV.cell (ds := [_, _, _]) rfl rfl rfl rfl rfl) (.cons (ResV.cell (ds := [_, _, _, _, _, _]) rfl rfl rfl rfl rfl) (.cons (ResV.tmp rfl) (.cons (ResV.tmp rfl) (.cons (ResV.cell (ds := [_, _]) rfl rfl rfl rfl rfl) .nil))))) (.tup (.agg (.keep rfl rfl rfl (.keep rfl rfl rfl (.own rfl rfl rfl rfl .nil))) (.agg (.keep rfl rfl rfl (.keep rfl rfl rfl (.keep rfl rfl rfl (.keep rfl rfl rfl (.keep rfl rfl rfl (.own rfl rfl rfl rfl .nil)))))) (.keep rfl rfl rfl (.keep rfl rfl rfl (.agg (.keep rfl rfl rfl (.own rfl rfl rfl rfl .nil)) .nil))))) .nil) (.obj rfl rfl (still_ints _) rfl rfl (.inr rfl) (.obj rfl rfl (still_ints _) rfl rfl (.inr rfl) (.obj rfl rfl (still_ints _) rfl rfl (.inr rfl) .nil))) rfl rfl
instance DrawPutRef_c : Con 22 (∀ l : List Int, l.length ≤ 1048576 → Fn 22 [CodA l] [XI (putD l (newD l)).2.s.f.p, XI (putD l (newD l)).2.hd.lens, XI (putD l (newD l)).2.lv] (PutT 0 (putD l (newD l)).2)) := ⟨fun l hl => FnC.of_pin fun v => DrawPutRef_p v l hl⟩
end
end Go.Proofs.YtjhejgamjlokdaaGreat


namespace Go.Proofs.YtjhejgamjlokdaaGreat
open Go Go.Abs
attribute [local irreducible] WpA WpL Rnd Blk Abs.Seq Abs.Fin Abs.FinG FnC FnG Only
instance SameFrame_s : Con 25 (∀ (W H : Int) (p : List Int) (W2 H2 : Int) (p2 : List Int), p.length ≤ 1099511627776 ∧ p2.length ≤ 1099511627776 → Fn 25 [FrA W H p, FrA W2 H2 p2] [] (B (decide (W = W2 ∧ H = H2 ∧ p = p2)))) := ⟨fun W H p W2 H2 p2 hl => by
  refine FnC.of_body tabOk Tryz.func25 Tryz.ntmps25 rfl (by decide +kernel) (by simp) fun G => ?_
  by_cases h : W = W2 ∧ H = H2 ∧ p.length = p2.length
  · obtain ⟨rfl, rfl, hpl⟩ := h
    refine go (r := ?_); and_intros <;> intros <;> try exact True.intro
    all_goals first | contradiction | omega | skip
    refine WpA.loop (fun k : Nat => ⟨[(2, .ptr 0 0 0), (3, .ptr 1 0 0), (5, I k)], [FrO W H p, FrO W H p2]⟩) (fun k => k ≤ p.length ∧ ∀ j < k, p.getD j 0 = p2.getD j 0) (fun k => p.length - k) 0 (by simp) (go (r := ?_)) (fun k hk => ?_)
    · and_intros <;> first | exact True.intro | rfl | trace_state
    obtain ⟨hk, hj⟩ := hk
    refine go (r := ?_); and_intros <;> intros <;> try exact True.intro
    all_goals first | contradiction | omega | skip
    · symm; rw [decide_eq_false_iff_not]; rintro ⟨_, _, rfl⟩; simp_all
    · rename_i j hj2
      by_cases h : j = k
      · subst h; assumption
      · exact hj j (by omega)
    · have := eq_all 0 (xs := p) (ys := p2) (by omega) (fun j hj2 => hj j (by omega))
      simp [this]
  · refine go (r := ?_); and_intros <;> intros <;> try exact True.intro
    all_goals first | contradiction | omega | (symm; rw [decide_eq_false_iff_not]; rintro ⟨rfl, rfl, rfl⟩; exact h ⟨rfl, rfl, rfl⟩) | trace_state⟩
end Go.Proofs.YtjhejgamjlokdaaGreat


namespace Go.Proofs.YtjhejgamjlokdaaGreat
open Go Go.Abs
theorem px_rc {W H : Int} {p : List Int} {x y n : Int} (h : Fits W H p x y n) {i : Nat} (hi : (i : Int) < n * n) : pxI W x y n i / W = y + (i : Int) / n ∧ pxI W x y n i % W = x + (i : Int) % n := by
  have hp := px_in h hi
  obtain ⟨h0, h1, hx, hy, _⟩ := h
  have hW := h0.1.1
  have hb : 0 ≤ x + (i : Int) % n ∧ x + (i : Int) % n < W := by omega
  have e : pxI W x y n i = x + (i : Int) % n + W * (y + (i : Int) / n) := by unfold pxI; rw [Int.mul_comm W]; omega
  rw [e, Int.add_mul_ediv_left _ _ (by omega), Int.add_mul_emod_self_left, Int.ediv_eq_zero_of_lt hb.1 hb.2, Int.emod_eq_of_lt hb.1 hb.2]
  exact ⟨by omega, rfl⟩
theorem setK_out {W x y n : Int} {l p : List Int} {i : Nat} : ∀ k : Nat, (∀ j, j < k → (pxI W x y n j).toNat ≠ i) → (setK W x y n l p k).getD i 0 = p.getD i 0
  | 0, _ => rfl
  | k + 1, h => by
    have hk := h k (by omega)
    rw [setK, List.getD_eq_getElem?_getD, List.getElem?_set_ne hk, ← List.getD_eq_getElem?_getD]
    exact setK_out k fun j hj => h j (by omega)
theorem side_sq {k : Nat} (h : side k = 4 ∨ side k = 8) : (k : Int) = side k * side k := by
  unfold side at *; split <;> (try split) <;> simp_all
theorem setL_out {W H : Int} {p : List Int} {x y : Int} {l : List Int} (h : SetOk W H p x y l) {i : Nat} (ho : (i : Int) % W < x ∨ x + side l.length ≤ (i : Int) % W ∨ (i : Int) / W < y ∨ y + side l.length ≤ (i : Int) / W) : (setL W H p x y l).getD i 0 = p.getD i 0 := by
  have hk := side_sq h.1.2.1
  unfold setL
  rw [if_pos h]
  refine setK_out l.length fun j hj e => ?_
  have h1 := px_rc h.1 (i := j) (by omega)
  have h2 := px_in h.1 (i := j) (by omega)
  rw [show pxI W x y (side l.length) j = (i : Int) by omega] at h1
  omega
theorem putL_out {W H : Int} {p : List Int} {q x y m : Int} {b : Bool} {lv : List Int} (h : PutOk W H p q x y m lv) {i : Nat} (ho : (i : Int) % W < x ∨ x + side lv.length ≤ (i : Int) % W ∨ (i : Int) / W < y ∨ y + side lv.length ≤ (i : Int) / W) : (putL W H p q b x y m lv).getD i 0 = p.getD i 0 := by
  have hs := put_set (b := b) h
  have ht := put_two (b := b) h
  unfold putL
  rw [if_pos h]
  refine setL_out hs ?_
  rw [recL_len, if_pos ht.1, ht.2]; exact ho
end Go.Proofs.YtjhejgamjlokdaaGreat


namespace Go.Proofs.YtjhejgamjlokdaaGreat
open Go Go.Abs
attribute [local irreducible] WpA WpL Rnd Blk Abs.Seq Abs.Fin Abs.FinG FnC FnG Only
theorem setL_yes {W H : Int} {p : List Int} {x y : Int} {l : List Int} (h : SetOk W H p x y l) : setL W H p x y l = setK W x y (side l.length) l p l.length := by unfold setL; rw [if_pos h]
theorem setL_no {W H : Int} {p : List Int} {x y : Int} {l : List Int} (h : ¬ SetOk W H p x y l) : setL W H p x y l = p := by unfold setL; rw [if_neg h]
end Go.Proofs.YtjhejgamjlokdaaGreat


namespace Go.Proofs.YtjhejgamjlokdaaGreat
open Go Go.Abs
attribute [local irreducible] WpA WpL Rnd Blk Abs.Seq Abs.Fin Abs.FinG FnC FnG Only
theorem set_step (W x y n : Int) (l p : List Int) (k : Nat) : (setK W x y n l p k).set ((y + (k : Int) / n) * W + x + (k : Int) % n).toNat (l.getD k 0) = setK W x y n l p (k + 1) := rfl
instance SetBlock_c : Con 52 (∀ (W H : Int) (p : List Int) (x y : Int) (l : List Int), p.length ≤ 1099511627776 ∧ l.length ≤ 1099511627776 → Fn 52 [FrA W H p, I x, I y, IL l] [XI (setL W H p x y l)] (.tup [FrOwn 0 W H (setL W H p x y l).length, B (decide (SetOk W H p x y l))])) := ⟨fun W H p x y l hl => by
  have hlen := setL_len W H p x y l
  by_cases h : SetOk W H p x y l
  · have e := setL_yes h
    have hd := decide_eq_true h
    obtain ⟨h1, h2⟩ := id h
    have h1s := h1
    rcases h1.2.1 with e4 | e4
    · have hll : l.length = 16 := by have := side_cases l.length; omega
      have e2 : setL W H p x y l = setK W x y 4 l p 16 := by rw [e, e4, hll]
      rw [hlen, e2, hd]
      rw [e4] at h1
      refine FnC.of_body tabOk Tryz.func52 Tryz.ntmps52 rfl (by decide +kernel) (by simp) fun G => ?_
      refine goR (r := ?_); and_intros <;> intros <;> try exact True.intro
      apply WpA.regionSF (O := [FrO W H p, ⟨[I 0, I 0, .nilS], 0, 0, none⟩]) (Or := []) (O1 := [FrO W H p, ⟨[I 0, I 0, .nilS], 0, 0, none⟩, ⟨ints p, 1, 1, some 3⟩, ⟨[I 0, I 0, .nilS], 1, 0, none⟩, deadO, deadO]) 6 2 [] [] rfl mixed (by decide +kernel)
      · exact rfl
      · apply HeadS.consF .none rfl
        · exact rfl
        · exact rfl
        · exact in1
        · exact rfl
        · exact rfl
        apply HeadS.consF .none rfl
        · exact rfl
        · exact rfl
        · exact in1
        · exact rfl
        · exact rfl
        apply HeadS.consF .none rfl
        · exact rfl
        · exact rfl
        · exact in0
        · exact rfl
        · exact rfl
        apply HeadS.consF .none rfl
        · exact rfl
        · exact rfl
        · exact in1
        · exact rfl
        · exact rfl
        apply HeadS.consF (V := .agg [I W, I H, .own 2 1 0 p.length]) (.put 0 (⟨ints p, 1, 1, some 3⟩)) rfl
        · exact rfl
        · exact rfl
        · intro Tv Ov hc hp' hd hk
          skip
          refine K.call ?_
          refine K.con (fun hcon => ?_)
          refine WpL.callF (hcon W H p (by omega)) snapA locA outA (cnt_some _ 0) rfl rfl (by decide) ?_
          rw [Nat.zero_add]
          apply WpL.putV (p := 0)
          · first | exact .agg (.keep rfl rfl (.keep rfl rfl (.own (by first | rfl | simp) .nil))) .nil | exact .own (by first | rfl | simp) .nil
          · exact hp' 0 _ rfl
          · exact Nat.zero_le _
          · exact rfl
          · first | exact still_ints _ | exact still_rows (fun _ => rfl) _ | rfl
        · exact rfl
        · exact rfl
        apply HeadS.consF (V := .ptr 3 1 0) (.put 1 (⟨[I 0, I 0, .nilS], 1, 0, none⟩)) rfl
        · exact rfl
        · exact rfl
        · intro Tv Ov hc hp' hd hk
          refine K.all ?_
          refine WpL.allocStruct tabOk rfl (by rw [nid_len, Nat.zero_add]) (by decide) ?_
          apply WpL.putV (p := 1)
          · exact .ptr (by first | rfl | simp) .nil
          · exact hp' 1 _ rfl
          · exact Nat.zero_le _
          · exact rfl
          · rfl
        · exact rfl
        · exact rfl
        exact HeadS.nil
      · exact rfl
      · exact rfl
      · exact rfl
      · exact rfl
      · exact rfl
      · exact rfl
      · exact rfl
      refine goR (r := ?_); and_intros <;> intros <;> try exact True.intro
      all_goals first | contradiction | (exact absurd h1s (by assumption)) | skip
      refine WpA.loop (fun k : Nat => ⟨[(1, I x), (2, I y), (4, .ptr 0 0 0), (8, .ptr 1 0 0), (10, I 4), (11, .ptr 3 1 0), (31, IL l), (32, I 16), (33, I k)], [FrO W H p, ⟨[I 0, I 0, .nilS], 0, 0, none⟩, ⟨ints (setK W x y 4 l p k), 1, 1, some 3⟩, ⟨[I W, I H, .own 2 1 0 p.length], 1, 0, none⟩]⟩) (fun k => k ≤ 16) (fun k => 16 - k) 0 (by omega) (go (r := ?_)) (fun k hk => ?_)
      · and_intros <;> first | exact True.intro | rfl | trace_state
      have hkl := setK_len W x y 4 l p k
      by_cases hlt : k < 16
      · obtain ⟨⟨b1, b2, b3, b4⟩, b5, b6, b7, b8⟩ := px_in h1 (i := k) (by omega)
        unfold pxI at b7 b8
        refine go (r := ?_); and_intros <;> intros <;> try exact True.intro
        all_goals first | contradiction | omega | exact set_step .. | trace_state
      · obtain rfl : k = 16 := by omega
        refine go (r := ?_); and_intros <;> intros <;> try exact True.intro
        all_goals first | contradiction | exact hd | exact hd.symm | trace_state
    · have hll : l.length = 64 := by have := side_cases l.length; omega
      have e2 : setL W H p x y l = setK W x y 8 l p 64 := by rw [e, e4, hll]
      rw [hlen, e2, hd]
      rw [e4] at h1
      refine FnC.of_body tabOk Tryz.func52 Tryz.ntmps52 rfl (by decide +kernel) (by simp) fun G => ?_
      refine goR (r := ?_); and_intros <;> intros <;> try exact True.intro
      apply WpA.regionSF (O := [FrO W H p, ⟨[I 0, I 0, .nilS], 0, 0, none⟩]) (Or := []) (O1 := [FrO W H p, ⟨[I 0, I 0, .nilS], 0, 0, none⟩, ⟨ints p, 1, 1, some 3⟩, ⟨[I 0, I 0, .nilS], 1, 0, none⟩, deadO, deadO]) 6 2 [] [] rfl mixed (by decide +kernel)
      · exact rfl
      · apply HeadS.consF .none rfl
        · exact rfl
        · exact rfl
        · exact in1
        · exact rfl
        · exact rfl
        apply HeadS.consF .none rfl
        · exact rfl
        · exact rfl
        · exact in1
        · exact rfl
        · exact rfl
        apply HeadS.consF .none rfl
        · exact rfl
        · exact rfl
        · exact in0
        · exact rfl
        · exact rfl
        apply HeadS.consF .none rfl
        · exact rfl
        · exact rfl
        · exact in1
        · exact rfl
        · exact rfl
        apply HeadS.consF (V := .agg [I W, I H, .own 2 1 0 p.length]) (.put 0 (⟨ints p, 1, 1, some 3⟩)) rfl
        · exact rfl
        · exact rfl
        · intro Tv Ov hc hp' hd hk
          skip
          refine K.call ?_
          refine K.con (fun hcon => ?_)
          refine WpL.callF (hcon W H p (by omega)) snapA locA outA (cnt_some _ 0) rfl rfl (by decide) ?_
          rw [Nat.zero_add]
          apply WpL.putV (p := 0)
          · first | exact .agg (.keep rfl rfl (.keep rfl rfl (.own (by first | rfl | simp) .nil))) .nil | exact .own (by first | rfl | simp) .nil
          · exact hp' 0 _ rfl
          · exact Nat.zero_le _
          · exact rfl
          · first | exact still_ints _ | exact still_rows (fun _ => rfl) _ | rfl
        · exact rfl
        · exact rfl
        apply HeadS.consF (V := .ptr 3 1 0) (.put 1 (⟨[I 0, I 0, .nilS], 1, 0, none⟩)) rfl
        · exact rfl
        · exact rfl
        · intro Tv Ov hc hp' hd hk
          refine K.all ?_
          refine WpL.allocStruct tabOk rfl (by rw [nid_len, Nat.zero_add]) (by decide) ?_
          apply WpL.putV (p := 1)
          · exact .ptr (by first | rfl | simp) .nil
          · exact hp' 1 _ rfl
          · exact Nat.zero_le _
          · exact rfl
          · rfl
        · exact rfl
        · exact rfl
        exact HeadS.nil
      · exact rfl
      · exact rfl
      · exact rfl
      · exact rfl
      · exact rfl
      · exact rfl
      · exact rfl
      refine goR (r := ?_); and_intros <;> intros <;> try exact True.intro
      all_goals first | contradiction | (exact absurd h1s (by assumption)) | skip
      refine WpA.loop (fun k : Nat => ⟨[(1, I x), (2, I y), (4, .ptr 0 0 0), (8, .ptr 1 0 0), (10, I 8), (11, .ptr 3 1 0), (31, IL l), (32, I 64), (33, I k)], [FrO W H p, ⟨[I 0, I 0, .nilS], 0, 0, none⟩, ⟨ints (setK W x y 8 l p k), 1, 1, some 3⟩, ⟨[I W, I H, .own 2 1 0 p.length], 1, 0, none⟩]⟩) (fun k => k ≤ 64) (fun k => 64 - k) 0 (by omega) (go (r := ?_)) (fun k hk => ?_)
      · and_intros <;> first | exact True.intro | rfl | trace_state
      have hkl := setK_len W x y 8 l p k
      by_cases hlt : k < 64
      · obtain ⟨⟨b1, b2, b3, b4⟩, b5, b6, b7, b8⟩ := px_in h1 (i := k) (by omega)
        unfold pxI at b7 b8
        refine go (r := ?_); and_intros <;> intros <;> try exact True.intro
        all_goals first | contradiction | omega | exact set_step .. | trace_state
      · obtain rfl : k = 64 := by omega
        refine go (r := ?_); and_intros <;> intros <;> try exact True.intro
        all_goals first | contradiction | exact hd | exact hd.symm | trace_state
  · have e := setL_no h
    have hd := decide_eq_false h
    rw [e, hd]
    refine FnC.of_body tabOk Tryz.func52 Tryz.ntmps52 rfl (by decide +kernel) (by simp) fun G => ?_
    refine goR (r := ?_); and_intros <;> intros <;> try exact True.intro
    apply WpA.regionSF (O := [FrO W H p, ⟨[I 0, I 0, .nilS], 0, 0, none⟩]) (Or := []) (O1 := [FrO W H p, ⟨[I 0, I 0, .nilS], 0, 0, none⟩, ⟨ints p, 1, 1, some 3⟩, ⟨[I 0, I 0, .nilS], 1, 0, none⟩, deadO, deadO]) 6 2 [] [] rfl mixed (by decide +kernel)
    · exact rfl
    · apply HeadS.consF .none rfl
      · exact rfl
      · exact rfl
      · exact in1
      · exact rfl
      · exact rfl
      apply HeadS.consF .none rfl
      · exact rfl
      · exact rfl
      · exact in1
      · exact rfl
      · exact rfl
      apply HeadS.consF .none rfl
      · exact rfl
      · exact rfl
      · exact in0
      · exact rfl
      · exact rfl
      apply HeadS.consF .none rfl
      · exact rfl
      · exact rfl
      · exact in1
      · exact rfl
      · exact rfl
      apply HeadS.consF (V := .agg [I W, I H, .own 2 1 0 p.length]) (.put 0 (⟨ints p, 1, 1, some 3⟩)) rfl
      · exact rfl
      · exact rfl
      · intro Tv Ov hc hp' hd hk
        skip
        refine K.call ?_
        refine K.con (fun hcon => ?_)
        refine WpL.callF (hcon W H p (by omega)) snapA locA outA (cnt_some _ 0) rfl rfl (by decide) ?_
        rw [Nat.zero_add]
        apply WpL.putV (p := 0)
        · first | exact .agg (.keep rfl rfl (.keep rfl rfl (.own (by first | rfl | simp) .nil))) .nil | exact .own (by first | rfl | simp) .nil
        · exact hp' 0 _ rfl
        · exact Nat.zero_le _
        · exact rfl
        · first | exact still_ints _ | exact still_rows (fun _ => rfl) _ | rfl
      · exact rfl
      · exact rfl
      apply HeadS.consF (V := .ptr 3 1 0) (.put 1 (⟨[I 0, I 0, .nilS], 1, 0, none⟩)) rfl
      · exact rfl
      · exact rfl
      · intro Tv Ov hc hp' hd hk
        refine K.all ?_
        refine WpL.allocStruct tabOk rfl (by rw [nid_len, Nat.zero_add]) (by decide) ?_
        apply WpL.putV (p := 1)
        · exact .ptr (by first | rfl | simp) .nil
        · exact hp' 1 _ rfl
        · exact Nat.zero_le _
        · exact rfl
        · rfl
      · exact rfl
      · exact rfl
      exact HeadS.nil
    · exact rfl
    · exact rfl
    · exact rfl
    · exact rfl
    · exact rfl
    · exact rfl
    · exact rfl
    by_cases h1 : Fits W H p x y (side l.length)
    · have h2 : ¬ In l 0 255 := fun h3 => h ⟨h1, h3⟩
      refine go (r := ?_); and_intros <;> intros <;> try exact True.intro
      all_goals first | contradiction | exact hd | exact hd.symm | trace_state
    · refine go (r := ?_); and_intros <;> intros <;> try exact True.intro
      all_goals first | contradiction | exact hd | exact hd.symm | trace_state⟩
end Go.Proofs.YtjhejgamjlokdaaGreat


namespace Go.Proofs.YtjhejgamjlokdaaGreat
open Go Go.Abs
attribute [local irreducible] WpA WpL Rnd Blk Abs.Seq Abs.Fin Abs.FinG FnC FnG Only
theorem recL_yes {p r : List Int} (h : TwoOk p r) : recL p r = tabL (recF p r) p.length := by unfold recL; rw [if_pos h]
theorem recL_no {p r : List Int} (h : ¬ TwoOk p r) : recL p r = [] := by unfold recL; rw [if_neg h]
theorem rec_snoc (p r : List Int) (k : Nat) {v : Int} (h : v = recF p r k) : tabL (recF p r) k ++ [v] = tabL (recF p r) (k + 1) := by rw [tabL_snoc, h]
instance Recon_c : Con 53 (∀ p r : List Int, p.length ≤ 1099511627776 ∧ r.length ≤ 1099511627776 → Fn 53 [IL p, IL r] [XI (recL p r)] (.own 0 0 0 (recL p r).length)) := ⟨fun p r hl => by
  have hsp := side_pos p.length
  by_cases h : TwoOk p r
  · obtain ⟨h1, h2, h3⟩ := id h
    have e := recL_yes h
    refine FnC.of_body tabOk Tryz.func53 Tryz.ntmps53 rfl (by decide +kernel) (by simp) fun G => ?_
    refine go (r := ?_); and_intros <;> intros <;> try exact True.intro
    all_goals first | contradiction | omega | skip
    refine WpA.loop (fun k : Nat => ⟨[(1, IL r), (5, .own 0 0 0 k), (25, IL p), (26, I p.length), (27, I k)], [XI (tabL (recF p r) k)]⟩) (fun k => k ≤ p.length) (fun k => p.length - k) 0 (by omega) (go (r := ?_)) (fun k hk => ?_)
    · simp [tabL]
    have hkl := tabL_len (recF p r) k
    have g1 := fun hh => in_get h3 (k := k) hh
    by_cases hlt : k < p.length
    · have g2 := g1 hlt
      refine go (r := ?_); and_intros <;> intros <;> try exact True.intro
      all_goals first | contradiction | omega | (exact rec_snoc p r k (by unfold recF; omega)) | trace_state
    · obtain rfl : k = p.length := by omega
      refine go (r := ?_); and_intros <;> intros <;> try exact True.intro
      all_goals first | contradiction | omega | (rw [e, tabL_len]; done) | (rw [e]; done) | trace_state
  · have e := recL_no h
    have hno : 0 < side p.length → p.length = r.length → ¬ In p 0 255 := fun a b c => h ⟨a, b, c⟩
    refine FnC.of_body tabOk Tryz.func53 Tryz.ntmps53 rfl (by decide +kernel) (by simp) fun G => ?_
    by_cases ha : 0 < side p.length
    · by_cases hb : p.length = r.length
      · have hc := hno ha hb
        refine go (r := ?_); and_intros <;> intros <;> try exact True.intro
        all_goals first | contradiction | omega | (rw [e]; done) | (rw [e]; rfl) | trace_state
      · refine go (r := ?_); and_intros <;> intros <;> try exact True.intro
        all_goals first | contradiction | omega | (rw [e]; done) | (rw [e]; rfl) | trace_state
    · have hs0 : side p.length = 0 := by have := side_cases p.length; omega
      refine go (r := ?_); and_intros <;> intros <;> try exact True.intro
      all_goals first | contradiction | omega | (rw [e]; done) | (rw [e]; rfl) | trace_state⟩
instance Recon_s : Con 57 (∀ p r : List Int, p.length ≤ 1099511627776 ∧ r.length ≤ 1099511627776 → Fn 57 [IL p, IL r] [XI (recL p r)] (.own 0 0 0 (recL p r).length)) := ⟨fun p r hl => by
  have hsp := side_pos p.length
  by_cases h : TwoOk p r
  · obtain ⟨h1, h2, h3⟩ := id h
    have e := recL_yes h
    have hd := decide_eq_true h
    refine FnC.of_body tabOk Tryz.func57 Tryz.ntmps57 rfl (by decide +kernel) (by simp) fun G => ?_
    refine go (r := ?_); and_intros <;> intros <;> try exact True.intro
    refine WpA.loop (fun k : Nat => ⟨[(0, IL p), (1, IL r), (5, .own 0 0 0 k), (6, I k)], [XI (tabL (recF p r) k)]⟩) (fun k => k ≤ p.length) (fun k => p.length - k) 0 (by omega) (go (r := ?_)) (fun k hk => ?_)
    · simp [tabL]
    have hkl := tabL_len (recF p r) k
    have g1 := fun hh => in_get h3 (k := k) hh
    by_cases hlt : k < p.length
    · have g2 := g1 hlt
      refine go (r := ?_); and_intros <;> intros <;> try exact True.intro
      all_goals first | contradiction | omega | (exact rec_snoc p r k (by unfold recF; omega)) | trace_state
    · obtain rfl : k = p.length := by omega
      refine go (r := ?_); and_intros <;> intros <;> try exact True.intro
      all_goals first | contradiction | omega | (rw [e, tabL_len]; done) | (rw [e]; done) | trace_state
  · have e := recL_no h
    have hd := decide_eq_false h
    refine FnC.of_body tabOk Tryz.func57 Tryz.ntmps57 rfl (by decide +kernel) (by simp) fun G => ?_
    refine go (r := ?_); and_intros <;> intros <;> try exact True.intro
    refine WpA.loop (fun k : Nat => ⟨[(0, IL p), (1, IL r), (5, .own 0 0 0 0), (6, I 0)], [XI []]⟩) (fun k => k ≤ 0) (fun k => 0) 0 (by omega) (go (r := trivial)) (fun k hk => ?_)
    refine go (r := ?_); and_intros <;> intros <;> try exact True.intro
    all_goals first | contradiction | omega | (rw [e]; done) | (rw [e]; rfl) | trace_state⟩
end Go.Proofs.YtjhejgamjlokdaaGreat


namespace Go.Proofs.YtjhejgamjlokdaaGreat
open Go Go.Abs
attribute [local irreducible] WpA WpL Rnd Blk Abs.Seq Abs.Fin Abs.FinG FnC FnG Only
theorem setK_zero (W x y n : Int) (l p : List Int) : setK W x y n l p 0 = p := rfl
attribute [local irreducible] setK
instance SetBlock_s : Con 38 (∀ (W H : Int) (p : List Int) (x y : Int) (l : List Int), p.length ≤ 1099511627776 ∧ l.length ≤ 1099511627776 → Fn 38 [FrA W H p, I x, I y, IL l] [XI (setL W H p x y l)] (.tup [FrOwn 0 W H (setL W H p x y l).length, B (decide (SetOk W H p x y l))])) := ⟨fun W H p x y l hl => by
  have hlen := setL_len W H p x y l
  by_cases h : SetOk W H p x y l
  · have e := setL_yes h
    have hd := decide_eq_true h
    obtain ⟨h1, h2⟩ := id h
    have h1s := h1
    rcases h1.2.1 with e4 | e4
    · have hll : l.length = 16 := by have := side_cases l.length; omega
      have e2 : setL W H p x y l = setK W x y 4 l p 16 := by rw [e, e4, hll]
      rw [hlen, e2, hd]
      rw [e4] at h1
      refine FnC.of_body tabOk Tryz.func38 Tryz.ntmps38 rfl (by decide +kernel) (by simp) fun G => ?_
      refine goR (r := ?_); and_intros <;> intros <;> try exact True.intro
      all_goals first | contradiction | (exact absurd h1s (by assumption)) | skip
      refine WpA.loop (fun k : Nat => ⟨[(1, I x), (2, I y), (3, IL l), (4, .ptr 0 0 0), (8, .ptr 1 0 0), (10, I 4), (11, .ptr 3 0 0), (12, I k)], [FrO W H p, ⟨[I 0, I 0, .nilS], 0, 0, none⟩, XI (setK W x y 4 l p k), ⟨[I W, I H, .own 2 0 0 p.length], 0, 0, none⟩]⟩) (fun k => k ≤ 16) (fun k => 16 - k) 0 (by omega) (go (r := ?_)) (fun k hk => ?_)
      · and_intros <;> first | exact True.intro | rfl | (rw [setK_zero]; done) | exact (setK_zero ..).symm | trace_state
      have hkl := setK_len W x y 4 l p k
      by_cases hlt : k < 16
      · obtain ⟨⟨b1, b2, b3, b4⟩, b5, b6, b7, b8⟩ := px_in h1 (i := k) (by omega)
        unfold pxI at b7 b8
        refine go (r := ?_); and_intros <;> intros <;> try exact True.intro
        all_goals first | contradiction | omega | exact set_step .. | trace_state
      · obtain rfl : k = 16 := by omega
        refine go (r := ?_); and_intros <;> intros <;> try exact True.intro
        all_goals first | contradiction | exact hd | exact hd.symm | trace_state
    · have hll : l.length = 64 := by have := side_cases l.length; omega
      have e2 : setL W H p x y l = setK W x y 8 l p 64 := by rw [e, e4, hll]
      rw [hlen, e2, hd]
      rw [e4] at h1
      refine FnC.of_body tabOk Tryz.func38 Tryz.ntmps38 rfl (by decide +kernel) (by simp) fun G => ?_
      refine goR (r := ?_); and_intros <;> intros <;> try exact True.intro
      all_goals first | contradiction | (exact absurd h1s (by assumption)) | skip
      refine WpA.loop (fun k : Nat => ⟨[(1, I x), (2, I y), (3, IL l), (4, .ptr 0 0 0), (8, .ptr 1 0 0), (10, I 8), (11, .ptr 3 0 0), (12, I k)], [FrO W H p, ⟨[I 0, I 0, .nilS], 0, 0, none⟩, XI (setK W x y 8 l p k), ⟨[I W, I H, .own 2 0 0 p.length], 0, 0, none⟩]⟩) (fun k => k ≤ 64) (fun k => 64 - k) 0 (by omega) (go (r := ?_)) (fun k hk => ?_)
      · and_intros <;> first | exact True.intro | rfl | (rw [setK_zero]; done) | exact (setK_zero ..).symm | trace_state
      have hkl := setK_len W x y 8 l p k
      by_cases hlt : k < 64
      · obtain ⟨⟨b1, b2, b3, b4⟩, b5, b6, b7, b8⟩ := px_in h1 (i := k) (by omega)
        unfold pxI at b7 b8
        refine go (r := ?_); and_intros <;> intros <;> try exact True.intro
        all_goals first | contradiction | omega | exact set_step .. | trace_state
      · obtain rfl : k = 64 := by omega
        refine go (r := ?_); and_intros <;> intros <;> try exact True.intro
        all_goals first | contradiction | exact hd | exact hd.symm | trace_state
  · have e := setL_no h
    have hd := decide_eq_false h
    rw [e, hd]
    refine FnC.of_body tabOk Tryz.func38 Tryz.ntmps38 rfl (by decide +kernel) (by simp) fun G => ?_
    by_cases h1 : Fits W H p x y (side l.length)
    · have h2 : ¬ In l 0 255 := fun h3 => h ⟨h1, h3⟩
      refine go (r := ?_); and_intros <;> intros <;> try exact True.intro
      all_goals first | contradiction | trace_state
    · refine go (r := ?_); and_intros <;> intros <;> try exact True.intro
      all_goals first | contradiction | trace_state⟩
end Go.Proofs.YtjhejgamjlokdaaGreat


namespace Go.Proofs.YtjhejgamjlokdaaGreat
open Go Go.Abs
attribute [local irreducible] WpA WpL Rnd Blk Abs.Seq Abs.Fin Abs.FinG FnC FnG Only
theorem topF_eq (W : Int) (p : List Int) (x y n : Int) (hn : 0 < n) (k : Nat) : topF W p x y n k = if y = 0 then 128 else if (k : Int) < n ∨ (y % 8 = 0 ∧ x + k < W) then p.getD ((y - 1) * W + x + k).toNat 0 else topF W p x y n (k - 1) := by
  cases k with
  | zero =>
    rw [topF]
    split
    · rfl
    · rw [if_pos (.inl (by simpa using hn))]
  | succ k => rw [topF]; rfl
theorem nb_ix {W H : Int} {p : List Int} {x y n : Int} (h : Fits W H p x y n) {k : Nat} (hk : (k : Int) < 2 * n) (hy : y ≠ 0) (hc : (k : Int) < n ∨ (y % 8 = 0 ∧ x + k < W)) : 0 ≤ (y - 1) * W ∧ (y - 1) * W ≤ 1024 ∧ (y - 1) * W + x + k < p.length := by
  obtain ⟨h0, h1, hx, hy2, _⟩ := h
  have := ix_in h0 (a := y - 1) (b := x + k) (by omega) (by omega)
  omega
theorem nb_lx {W H : Int} {p : List Int} {x y n : Int} (h : Fits W H p x y n) {k : Nat} (hk : (k : Int) < n) (hx0 : 0 < x) : 0 ≤ (y + k) * W ∧ (y + k) * W ≤ 1024 ∧ (y + k) * W + x - 1 < p.length := by
  obtain ⟨h0, h1, hx, hy2, _⟩ := h
  have := ix_in h0 (a := y + k) (b := x - 1) (by omega) (by omega)
  omega
theorem nb_cx {W H : Int} {p : List Int} {x y n : Int} (h : Fits W H p x y n) (hx0 : 0 < x) (hy0 : 0 < y) : 0 ≤ (y - 1) * W ∧ (y - 1) * W ≤ 1024 ∧ (y - 1) * W + x - 1 < p.length := by
  obtain ⟨h0, h1, hx, hy2, _⟩ := h
  have := ix_in h0 (a := y - 1) (b := x - 1) (by omega) (by omega)
  omega
abbrev NbOwn (W H : Int) (p : List Int) (x y n : Int) : AV := .agg [.own 0 0 0 (topL W H p x y n).length, .own 1 0 0 (lefL W H p x y n).length, I (corL W H p x y n), B (hasT W H p x y n), B (hasE W H p x y n)]
abbrev Nb0 : AObj := ⟨[.nilS, .nilS, I 0, B false, B false], 0, 0, none⟩
attribute [local irreducible] topF lefF
instance NbAt_c : Con 55 (∀ (W H : Int) (p : List Int) (x y n : Int), p.length ≤ 1099511627776 → Fn 55 [FrA W H p, I x, I y, I n] [XI (topL W H p x y n), XI (lefL W H p x y n)] (NbOwn W H p x y n)) := ⟨fun W H p x y n hl => by
  by_cases h : Fits W H p x y n
  · have ht : topL W H p x y n = tabL (topF W p x y n) (2 * n).toNat := by unfold topL; rw [if_pos h]
    have hle : lefL W H p x y n = tabL (lefF W p x y) n.toNat := by unfold lefL; rw [if_pos h]
    have hco : corL W H p x y n = if 0 < x ∧ 0 < y then p.getD ((y - 1) * W + x - 1).toNat 0 else 128 := by unfold corL; rw [if_pos h]
    have hhT : hasT W H p x y n = decide (0 < y) := by unfold hasT; rw [Bool.eq_iff_iff]; simp only [decide_eq_true_eq]; exact ⟨fun hh => hh.2, fun hh => ⟨h, hh⟩⟩
    have hhE : hasE W H p x y n = decide (0 < x) := by unfold hasE; rw [Bool.eq_iff_iff]; simp only [decide_eq_true_eq]; exact ⟨fun hh => hh.2, fun hh => ⟨h, hh⟩⟩
    unfold NbOwn
    rw [ht, hle, hco, hhT, hhE, tabL_len, tabL_len]
    have hd := decide_eq_true h
    obtain ⟨h0, h1, hx, hy, _⟩ := id h
    refine FnC.of_body tabOk Tryz.func55 Tryz.ntmps55 rfl (by decide +kernel) (by simp) fun G => ?_
    refine go (r := ?_); and_intros <;> intros <;> try exact True.intro
    all_goals first | contradiction | (exact absurd h (by assumption)) | skip
    refine WpA.loop (fun k : Nat => ⟨[(1, I x), (2, I y), (3, I n), (4, .ptr 0 0 0), (8, .ptr 1 0 0), (9, .ptr 2 0 0), (27, I (2 * n)), (28, I k)], [FrO W H p, Nb0, ⟨[.own 3 0 0 k, .nilS, I 128, B (decide (0 < y)), B (decide (0 < x))], 0, 0, none⟩, XI (tabL (topF W p x y n) k)]⟩) (fun k => (k : Int) ≤ 2 * n) (fun k => (2 * n).toNat - k) 0 (by omega) ?_ ?_
    · exact Weak.nil1 (by first | (show 0 ≤ _; exact Nat.zero_le _) | (repeat' (first | exact RzT.nil | refine RzT.cons ?_ ?_ | exact Rz.nil | refine Rz.keep rfl rfl ?_ | refine Rz.own rfl rfl rfl rfl rfl (by first | rfl | omega | (simp; done)) ?_ | refine Rz.ptr rfl rfl rfl rfl ?_ | refine Rz.nilO rfl rfl rfl (by first | rfl | omega | (simp; done)) ?_ | refine Rz.agg ?_ ?_ | exact RzO.last rfl | (refine RzO.cons ?_ (.inr rfl) ?_) | exact Rz.same rfl (still_ints _) | exact Rz.same rfl (still_rows (fun _ => rfl) _)))) (by first | (show 0 ≤ _; exact Nat.zero_le _) | (repeat' (first | exact RzT.nil | refine RzT.cons ?_ ?_ | exact Rz.nil | refine Rz.keep rfl rfl ?_ | refine Rz.own rfl rfl rfl rfl rfl (by first | rfl | omega | (simp; done)) ?_ | refine Rz.ptr rfl rfl rfl rfl ?_ | refine Rz.nilO rfl rfl rfl (by first | rfl | omega | (simp; done)) ?_ | refine Rz.agg ?_ ?_ | exact RzO.last rfl | (refine RzO.cons ?_ (.inr rfl) ?_) | exact Rz.same rfl (still_ints _) | exact Rz.same rfl (still_rows (fun _ => rfl) _)))) (Nat.le_of_ble_eq_true rfl)
    intro k hk
    try simp only at hk ⊢
    have hkl := tabL_len (topF W p x y n) k
    by_cases hlt : (k : Int) < 2 * n
    · have hq := topF_eq W p x y n (by omega) k
      have hsn := tabL_snoc (topF W p x y n) k
      by_cases hy0 : y = 0
      · rw [if_pos hy0] at hq
        rw [hq] at hsn
        refine go (r := ?_); and_intros <;> intros <;> try exact True.intro
        all_goals first | contradiction | omega | exact hsn.symm | trace_state
      · rw [if_neg hy0] at hq
        by_cases hc : (k : Int) < n ∨ (y % 8 = 0 ∧ x + k < W)
        · rw [if_pos hc] at hq
          rw [hq] at hsn
          obtain ⟨b1, b2, b3⟩ := nb_ix h hlt hy0 hc
          by_cases hc0 : (k : Int) < n
          · refine go (r := ?_); and_intros <;> intros <;> try exact True.intro
            refine WpL.openAny (t := 48) rfl (fun v0 => ?_)
            by_cases hv : v0 = .bool true
            · subst hv
              refine go (r := ?_); and_intros <;> intros <;> try exact True.intro
              all_goals first | contradiction | omega | exact hsn.symm | trace_state
            · repeat (refine WpL.guardV (σ := ⟨_, _⟩) rfl rfl (by decide) rfl hv rfl ?_)
              refine go (r := ?_); and_intros <;> intros <;> try exact True.intro
              all_goals first | contradiction | omega | exact hsn.symm | trace_state
          · obtain ⟨hc1, hc2⟩ : y % 8 = 0 ∧ x + k < W := hc.resolve_left hc0
            refine go (r := ?_); and_intros <;> intros <;> try exact True.intro
            all_goals first | contradiction | omega | exact hsn.symm | trace_state
        · rw [if_neg hc] at hq
          rw [hq] at hsn
          have hk0 : 0 < k := by omega
          have ek : ((k : Int) - 1).toNat = k - 1 := by omega
          have hge : (tabL (topF W p x y n) k).getD (k - 1) 0 = topF W p x y n (k - 1) := tabL_get (by omega)
          by_cases hc0 : (k : Int) < n
          · exact absurd (.inl hc0) hc
          by_cases hc1 : y % 8 = 0
          · have hc2 : ¬ x + k < W := fun hh => hc (.inr ⟨hc1, hh⟩)
            refine go (r := ?_); and_intros <;> intros <;> try exact True.intro
            all_goals first | contradiction | omega | (rw [ek, hge]; exact hsn.symm) | trace_state
          · refine go (r := ?_); and_intros <;> intros <;> try exact True.intro
            all_goals first | contradiction | omega | (rw [ek, hge]; exact hsn.symm) | trace_state
    · have hke : k = (2 * n).toNat := by omega
      subst hke
      refine go (r := ?_); and_intros <;> intros <;> try exact True.intro
      all_goals first | contradiction | omega | skip
      refine WpA.loop (fun k : Nat => ⟨[(1, I x), (2, I y), (4, .ptr 0 0 0), (8, .ptr 1 0 0), (9, .ptr 2 0 0), (77, I n), (78, I k)], [FrO W H p, Nb0, ⟨[.own 3 0 0 (2 * n).toNat, .own 4 0 0 k, I 128, B (decide (0 < y)), B (decide (0 < x))], 0, 0, none⟩, XI (tabL (topF W p x y n) (2 * n).toNat), XI (tabL (lefF W p x y) k)]⟩) (fun k => (k : Int) ≤ n) (fun k => n.toNat - k) 0 (by omega) ?_ ?_
      · exact Weak.nil1 (by first | (show 0 ≤ _; exact Nat.zero_le _) | (repeat' (first | exact RzT.nil | refine RzT.cons ?_ ?_ | exact Rz.nil | refine Rz.keep rfl rfl ?_ | refine Rz.own rfl rfl rfl rfl rfl (by first | rfl | omega | (simp; done)) ?_ | refine Rz.ptr rfl rfl rfl rfl ?_ | refine Rz.nilO rfl rfl rfl (by first | rfl | omega | (simp; done)) ?_ | refine Rz.agg ?_ ?_ | exact RzO.last rfl | (refine RzO.cons ?_ (.inr rfl) ?_) | exact Rz.same rfl (still_ints _) | exact Rz.same rfl (still_rows (fun _ => rfl) _)))) (by first | (show 0 ≤ _; exact Nat.zero_le _) | (repeat' (first | exact RzT.nil | refine RzT.cons ?_ ?_ | exact Rz.nil | refine Rz.keep rfl rfl ?_ | refine Rz.own rfl rfl rfl rfl rfl (by first | rfl | omega | (simp; done)) ?_ | refine Rz.ptr rfl rfl rfl rfl ?_ | refine Rz.nilO rfl rfl rfl (by first | rfl | omega | (simp; done)) ?_ | refine Rz.agg ?_ ?_ | exact RzO.last rfl | (refine RzO.cons ?_ (.inr rfl) ?_) | exact Rz.same rfl (still_ints _) | exact Rz.same rfl (still_rows (fun _ => rfl) _)))) (Nat.le_of_ble_eq_true rfl)
      intro k hk
      try simp only at hk ⊢
      have hkl2 := tabL_len (lefF W p x y) k
      by_cases hlt2 : (k : Int) < n
      · have hsn := tabL_snoc (lefF W p x y) k
        by_cases hx0 : 0 < x
        · obtain ⟨b1, b2, b3⟩ := nb_lx h hlt2 hx0
          have hq : lefF W p x y k = p.getD ((y + k) * W + x - 1).toNat 0 := by unfold lefF; rw [if_pos hx0]
          rw [hq] at hsn
          refine go (r := ?_); and_intros <;> intros <;> try exact True.intro
          all_goals first | contradiction | omega | exact hsn.symm | trace_state
        · have hq : lefF W p x y k = 128 := by unfold lefF; rw [if_neg hx0]
          rw [hq] at hsn
          refine go (r := ?_); and_intros <;> intros <;> try exact True.intro
          all_goals first | contradiction | omega | exact hsn.symm | trace_state
      · have hke : k = n.toNat := by omega
        subst hke
        by_cases hx0 : 0 < x
        · by_cases hy0 : 0 < y
          · obtain ⟨b1, b2, b3⟩ := nb_cx h hx0 hy0
            rw [if_pos ⟨hx0, hy0⟩]
            refine go (r := ?_); and_intros <;> intros <;> try exact True.intro
            all_goals first | contradiction | omega | trace_state
          · rw [if_neg (fun hh => hy0 hh.2)]
            refine go (r := ?_); and_intros <;> intros <;> try exact True.intro
            all_goals first | contradiction | omega | trace_state
        · rw [if_neg (fun hh => hx0 hh.1)]
          refine go (r := ?_); and_intros <;> intros <;> try exact True.intro
          all_goals first | contradiction | omega | trace_state
  · have ht : topL W H p x y n = [] := by unfold topL; rw [if_neg h]
    have hle : lefL W H p x y n = [] := by unfold lefL; rw [if_neg h]
    have hco : corL W H p x y n = 0 := by unfold corL; rw [if_neg h]
    have hhT : hasT W H p x y n = false := by unfold hasT; rw [decide_eq_false_iff_not]; exact fun hh => h hh.1
    have hhE : hasE W H p x y n = false := by unfold hasE; rw [decide_eq_false_iff_not]; exact fun hh => h hh.1
    unfold NbOwn
    rw [ht, hle, hco, hhT, hhE]
    have hd := decide_eq_false h
    refine FnC.of_body tabOk Tryz.func55 Tryz.ntmps55 rfl (by decide +kernel) (by simp) fun G => ?_
    refine go (r := ?_); and_intros <;> intros <;> try exact True.intro
    all_goals first | contradiction | omega | trace_state⟩
end Go.Proofs.YtjhejgamjlokdaaGreat
