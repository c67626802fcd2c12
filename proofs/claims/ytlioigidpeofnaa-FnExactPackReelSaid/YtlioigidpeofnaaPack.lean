/- Contracts for the law FnExactPackReel. No condition. -/
import Derived.Test.YtlioigidpeofnaaFlip
namespace Go.Proofs.Ytlioigidpeofnaa
open Go Go.Abs
set_option linter.unusedVariables false
set_option linter.unusedSimpArgs false
set_option maxRecDepth 100000
attribute [local irreducible] WpA WpL Rnd Blk Abs.Seq Abs.Fin FnC Only

/-- The bytes of a number below 128, or its low seven bits and the rest. -/
def vb (n : Nat) : List Int := if n < 128 then [(n : Int)] else (128 + (n : Int) % 128) :: vb (n / 128)
theorem vb_len (j : Nat) : ∀ n, n < 128 ^ (j + 1) → (vb n).length ≤ j + 1 := by
  induction j with
  | zero => intro n h; unfold vb; rw [if_pos (by simpa using h)]; simp
  | succ j ih =>
    intro n h
    unfold vb
    split
    · simp
    · have := ih (n / 128) (by rw [Nat.div_lt_iff_lt_mul (by decide)]; rw [Nat.pow_succ] at h; exact h)
      simp; omega
theorem vb_len7 (n : Nat) (h : n ≤ 562949953421311) : (vb n).length ≤ 7 := vb_len 6 n (by rw [show (128 : Nat) ^ (6 + 1) = 562949953421312 from by decide]; omega)
theorem vb_step (n : Nat) (h : 128 ≤ n) : vb n = (128 + (n : Int) % 128) :: vb (n / 128) := by rw [vb, if_neg (by omega)]
theorem vb_end (n : Nat) (h : n < 128) : vb n = [(n : Int)] := by rw [vb, if_pos h]
def vars (n : Int) : List UInt8 := if 0 ≤ n ∧ n ≤ 562949953421311 then (vb n.toNat).map (fun v : Int => UInt8.ofNat v.toNat) else []
theorem u8_wrap (v : Int) (h : 0 ≤ v ∧ v ≤ 255) : IntKind.u8.wrap v = v := by
  simp only [IntKind.wrap, IntKind.bits, IntKind.signed]; simp; omega

theorem Var_s (n : Int) : FnC Try.prog 37 [I n] [] (Z (vars n)) := by
  refine FnC.of_body tabOk Try.func37 Try.ntmps37 rfl (by decide +kernel) (by simp) fun G => ?_
  repeat' (first
    | (refine K.L ?_; first
      | (refine K.mv ?_; refine WpL.move rfl (by decide) ?_)
      | (refine K.call ?_; first
        | refine WpL.call (l1In_c _ _ _) (by repeat' (first | exact Snap.nil | refine Snap.keep rfl rfl ?_ | refine Snap.own rfl rfl rfl (by simp) rfl ?_ ?_ | refine Snap.agg ?_ ?_ | refine Snap.nilI ?_ | exact Snap.same rfl (still_ints _) (nofre_ints _) | exact Snap.same rfl (still_u8s _) (nofre_u8s _) | exact Snap.same rfl (still_strs _) (nofre_strs _) | exact Snap.same rfl (still_bools _) (nofre_bools _))) (by repeat' (first | exact Loc.nil | refine Loc.sc ?_ | refine Loc.own ?_ | refine Loc.nilS ?_ | refine Loc.agg ?_ ?_ | refine Loc.tup ?_ ?_)) (by first | exact Out.nil | exact Out.ints | exact Out.u8s | exact Out.strs | exact Out.bools) rfl rfl rfl (by decide) ?_
        )
      | (refine K.bin ?_; first
        | refine WpL.add rfl rfl (by omega) (by decide) ?_
        | refine WpL.sub rfl rfl (by omega) (by decide) ?_
        | refine WpL.mul rfl rfl (by omega) (by decide) ?_
        | refine WpL.quo rfl rfl (by omega) (by decide) ?_
        | refine WpL.rem rfl rfl (by omega) (by decide) ?_
        | refine WpL.bin rfl rfl rfl (by decide) ?_
        | refine WpL.strAdd rfl rfl (by first | omega | (simp only [List.length_append]; omega)) (by decide) ?_
        | refine WpL.strEq rfl rfl (by decide) ?_
        | refine WpL.strNe rfl rfl (by decide) ?_
        | refine WpL.boolEq (K.tyBool tabOk rfl) rfl rfl (by decide) ?_
        | refine WpL.boolNe (K.tyBool tabOk rfl) rfl rfl (by decide) ?_
        | refine WpL.shl rfl rfl (by first | decide | (simp only [IntKind.bits]; omega)) (by decide) ?_
        | refine WpL.shr rfl rfl (by first | decide | (simp only [IntKind.bits]; omega)) (by decide) ?_)
      | (refine K.ld ?_; first
        | refine WpL.loadInts tabOk rfl rfl rfl (by first | omega | (simp; omega)) (by decide) ?_
        | refine WpL.loadU8s tabOk rfl rfl rfl (by first | omega | (simp; omega)) (by decide) ?_
        | refine WpL.loadStrs tabOk rfl rfl rfl (by first | omega | (simp; omega)) (by decide) ?_
        | refine WpL.loadBools tabOk rfl rfl rfl (by first | omega | (simp; omega)) (by decide) ?_
        | refine WpL.load1 tabOk rfl rfl rfl rfl rfl (by decide) ?_)
      | (refine K.asg ?_; refine WpL.assign rfl (by decide) ?_)
      | (refine K.fld ?_; first
        | refine WpL.fieldI tabOk rfl rfl rfl (by decide) ?_
        | refine WpL.fieldP tabOk rfl rfl rfl rfl rfl (by decide) ?_)
      | (refine K.ixa ?_; first
        | refine WpL.idxI tabOk rfl rfl rfl (by omega) (by decide) ?_
        | refine WpL.idxO tabOk rfl rfl rfl rfl rfl (by omega) (by decide) ?_)
      | (refine K.ix ?_; refine WpL.idxStr tabOk rfl rfl rfl (by omega) (by decide) ?_)
      | (refine K.bi ?_; first
        | refine WpL.lenImm (TabOk.slice tabOk rfl).1 rfl (by decide) ?_
        | refine WpL.lenOwn (TabOk.slice tabOk rfl).1 rfl rfl rfl (by decide) ?_
        | refine WpL.lenNil (TabOk.slice tabOk rfl).1 rfl (by decide) ?_
        | refine WpL.lenStr (K.tyStr tabOk rfl) rfl (by decide) ?_
        | refine WpL.app1Ints tabOk rfl rfl rfl (Nat.zero_le _) rfl rfl (by first | rfl | omega | (simp; done) | (simp; omega)) (by omega) (by decide) ?_
        | refine WpL.appInts tabOk rfl rfl rfl (Nat.zero_le _) rfl rfl (by first | rfl | omega | (simp; done) | (simp; omega)) (by first | rfl | omega | (simp; done) | (simp; omega)) (by omega) (by decide) ?_
        | refine WpL.nil1Ints tabOk rfl rfl rfl rfl (by omega) rfl (by decide) ?_
        | refine WpL.app1U8s tabOk rfl rfl rfl (Nat.zero_le _) rfl rfl (by first | rfl | omega | (simp; done) | (simp; omega)) (by omega) (by decide) ?_
        | refine WpL.appU8s tabOk rfl rfl rfl (Nat.zero_le _) rfl rfl (by first | rfl | omega | (simp; done) | (simp; omega)) (by first | rfl | omega | (simp; done) | (simp; omega)) (by omega) (by decide) ?_
        | refine WpL.nil1U8s tabOk rfl rfl rfl rfl (by omega) rfl (by decide) ?_
        | refine WpL.app1Strs tabOk rfl rfl rfl (Nat.zero_le _) rfl rfl (by first | rfl | omega | (simp; done) | (simp; omega)) (by omega) (by decide) ?_
        | refine WpL.appStrs tabOk rfl rfl rfl (Nat.zero_le _) rfl rfl (by first | rfl | omega | (simp; done) | (simp; omega)) (by first | rfl | omega | (simp; done) | (simp; omega)) (by omega) (by decide) ?_
        | refine WpL.nil1Strs tabOk rfl rfl rfl rfl (by omega) rfl (by decide) ?_
        | refine WpL.appOwn tabOk rfl rfl rfl rfl rfl rfl (by simp) (Nat.zero_le _) rfl rfl (by simp) (by simp [all_ints, all_u8s, all_strs, oneB, Value.oneCell']) (by omega) (by decide) ?_
        | refine WpL.appNil tabOk rfl rfl rfl rfl (by simp) (by simp [all_ints, all_u8s, all_strs, oneB, Value.oneCell']) (by omega) rfl (by decide) ?_
        | refine WpL.min2 rfl rfl (by decide) ?_
        | refine WpL.max2 rfl rfl (by decide) ?_)
      | (refine K.un ?_; first
        | refine WpL.not rfl (by decide) ?_
        | refine WpL.neg rfl (by omega) (by decide) ?_)
      | (refine K.pick ?_; first
        | refine WpL.pickT rfl rfl (by decide) ?_
        | refine WpL.pickF rfl rfl (by decide) ?_)
      | (refine K.ext ?_; refine WpL.extract rfl rfl (by first | decide | simp [AV.shL]) (by decide) ?_)
      | (refine K.cv ?_; first
        | refine WpL.convI (P := Try.prog) (by rfl) (K.tyInt tabOk rfl) rfl (by omega) (by decide) ?_
        | refine WpL.conv (P := Try.prog) (by rfl) (K.tyInt tabOk rfl) rfl (by decide) ?_
        | refine WpL.toBytes tabOk rfl rfl rfl rfl (by omega) rfl (by decide) ?_
        | refine WpL.ofBytes tabOk rfl rfl rfl rfl rfl (by simp) (by decide) ?_)
      | (refine K.lit ?_; first
        | refine WpL.lit0U8s tabOk rfl rfl rfl (by decide) ?_
        | refine WpL.lit0Ints tabOk rfl rfl rfl (by decide) ?_
        | refine WpL.lit0Bools tabOk rfl rfl rfl (by decide) ?_
        | refine WpL.lit0Strs tabOk rfl rfl rfl (by decide) ?_
        | refine WpL.litF tabOk rfl rfl rfl rfl (by decide) rfl (by decide) ?_)
      | (refine K.ms ?_; first
        | refine WpL.makeInts tabOk rfl rfl rfl (by omega) (by omega) rfl (by decide) ?_
        | refine WpL.makeStrs tabOk rfl rfl rfl (by omega) (by omega) rfl (by decide) ?_
        | refine WpL.makeBools tabOk rfl rfl rfl (by omega) (by omega) rfl (by decide) ?_
        | refine WpL.makeU8s tabOk rfl rfl rfl (by omega) (by omega) rfl (by decide) ?_)
      | (refine K.st ?_; first
        | refine WpL.storeInts tabOk rfl rfl rfl rfl rfl (by first | omega | (simp; omega)) ?_
        | refine WpL.storeU8s tabOk rfl rfl rfl rfl rfl (by first | omega | (simp; omega)) ?_
        | refine WpL.storeBools tabOk rfl rfl rfl rfl rfl (by first | omega | (simp; omega)) ?_
        | refine WpL.storeStrs tabOk rfl rfl rfl rfl rfl (by first | omega | (simp; omega)) ?_
        | refine WpL.store tabOk rfl rfl rfl rfl rfl rfl rfl rfl (by first | omega | (simp; omega) | (simp; done)) ?_)
      | (refine K.all ?_; first
        | refine WpL.allocStruct tabOk rfl rfl (by decide) ?_
        | refine WpL.allocPlain tabOk rfl rfl rfl (by decide) ?_)
      | (refine K.box ?_; refine WpL.box rfl rfl rfl (by decide) ?_)
      | (refine K.nc ?_; first
        | refine WpL.nilCheckP rfl rfl rfl (by decide) ?_
        | refine WpL.nilCheckI rfl (by decide) ?_)
      | (refine K.sl ?_; first
        | refine WpL.subStr tabOk rfl rfl (by first | exact .inl ⟨rfl, rfl⟩ | exact .inr ⟨_, _, rfl, rfl⟩) (by first | exact .inl ⟨rfl, rfl⟩ | exact .inr ⟨_, _, rfl, rfl⟩) (by omega) (by decide) ?_
        | refine WpL.subImm tabOk rfl rfl (by first | exact .inl ⟨rfl, rfl⟩ | exact .inr ⟨_, _, rfl, rfl⟩) (by first | exact .inl ⟨rfl, rfl⟩ | exact .inr ⟨_, _, rfl, rfl⟩) (by omega) (by decide) ?_)
      | (refine K.gd ?_; first
        | refine K.gT rfl (by decide) rfl ?_
        | refine K.gF rfl (by decide) rfl ?_
        | refine K.gD rfl rfl (fun _ => ?_) (fun _ => ?_)
        | refine K.gN rfl rfl (fun _ => ?_) (fun _ => ?_)
        | refine K.gS rfl rfl (fun _ => ?_) (fun _ => ?_)))
    | refine WpL.nil ?_
    | refine Abs.Seq.n ?_
    | (refine K.A ?_; first
      | refine WpA.seq ?_
      | refine WpA.region ?_
      | (refine K.cond ?_; first
        | refine WpA.condT rfl ?_
        | refine WpA.condF rfl ?_
        | refine WpA.condD rfl (fun _ => ?_) (fun _ => ?_)
        | refine WpA.condN rfl (fun _ => ?_) (fun _ => ?_)
        | refine WpA.condS rfl (fun _ => ?_) (fun _ => ?_))
      | refine WpA.block ?_
      | refine WpA.ret ?_
      | refine WpA.exit ?_
      | refine WpA.skip ?_
      | apply WpA.regionM 1 mixed (by decide +kernel)
      | apply WpA.regionM 2 mixed (by decide +kernel)
      | apply WpA.regionM 3 mixed (by decide +kernel)
      | apply WpA.regionM 4 mixed (by decide +kernel)
      | apply WpA.regionM 5 mixed (by decide +kernel)
      | apply WpA.regionM 6 mixed (by decide +kernel)
      | apply WpA.regionM 7 mixed (by decide +kernel)
      | apply WpA.regionM 8 mixed (by decide +kernel)
      | apply WpA.regionM 9 mixed (by decide +kernel)
      | apply WpA.regionM 10 mixed (by decide +kernel)
      | apply WpA.regionM 11 mixed (by decide +kernel)
      | apply WpA.regionM 12 mixed (by decide +kernel)
      | apply WpA.regionM 13 mixed (by decide +kernel)
      | apply WpA.regionM 14 mixed (by decide +kernel)
      | apply WpA.regionM 15 mixed (by decide +kernel)
      | apply WpA.regionM 16 mixed (by decide +kernel)
      | apply WpA.regionM 17 mixed (by decide +kernel)
      | apply WpA.regionM 18 mixed (by decide +kernel)
      | apply WpA.regionM 19 mixed (by decide +kernel)
      | apply WpA.regionM 20 mixed (by decide +kernel)
      | apply WpA.regionM 21 mixed (by decide +kernel)
      | apply WpA.regionM 22 mixed (by decide +kernel)
      | apply WpA.regionM 23 mixed (by decide +kernel)
      | apply WpA.regionM 24 mixed (by decide +kernel)
      | apply WpA.regionM 25 mixed (by decide +kernel)
      | apply WpA.regionM 26 mixed (by decide +kernel)
      | apply WpA.regionM 27 mixed (by decide +kernel)
      | apply WpA.regionM 28 mixed (by decide +kernel)
      | apply WpA.regionM 29 mixed (by decide +kernel)
      | apply WpA.regionM 30 mixed (by decide +kernel)
      | apply WpA.regionM 31 mixed (by decide +kernel)
      | apply WpA.regionM 32 mixed (by decide +kernel)
      | refine WpA.regionD mixed (by decide +kernel) ?_)
    | refine Abs.Seq.ret ?_
    | refine Abs.Seq.exit ?_
    | refine Blk.n ?_
    | refine Blk.ret ?_
    | refine Blk.exitHere ?_
    | refine Blk.exitOther rfl ?_
    | refine Rnd.ret ?_
    | refine Rnd.exit ?_
    | exact Only.mk rfl
    | exact Abs.HeadJ.nil
    | apply Abs.HeadJ.cons rfl
    | (apply K.depT; simp only [deps, List.toList_toArray, List.filterMap_cons, List.filterMap_nil, Region.binds, if_true, List.nil_append, List.cons_append, List.getElem?_cons_succ, List.getElem?_cons_zero, List.getElem?_nil, reduceCtorEq, Bool.true_or, Bool.or_true]; exact rfl)
    | refine fun Tv => K.L ?_
    | (apply K.appT; simp only [List.nil_append, List.cons_append, List.append_assoc]; exact rfl)
    | (refine K.isTrue ?_; kernel_rfl)
    | exact rfl
    | contradiction
    | omega)
  · refine Abs.Fin.ret (.one (.tmp rfl) .nil (by decide) (.keep ?_ rfl rfl .nil))
    rw [vars, if_neg (by assumption)]
  have hn : 0 ≤ n ∧ n ≤ 562949953421311 := by assumption
  have h7 := vb_len7 n.toNat (by omega)
  refine WpA.loop (fun x : List Int × Nat => ⟨[(0, I x.2), (3, .own 0 0 0 x.1.length)], [⟨u8s x.1, 0, 1, some 5⟩]⟩) (fun x => x.1 ++ vb x.2 = vb n.toNat ∧ x.2 ≤ 562949953421311) (fun x => x.2) ([], n.toNat) (by simp; omega) ?_ (fun x hx => ?_)
  · exact Weak.mk (by repeat (first | exact ReT.nil | refine ReT.cons (.keep rfl rfl .nil) ?_ | refine ReT.cons (.own rfl rfl rfl rfl rfl rfl .nil) ?_ | refine ReT.cons (.ptr rfl rfl rfl rfl .nil) ?_ | refine ReT.cons (.keep (congrArg (fun z => AV.sc (Value.int .i64 z)) (by first | omega | (simp))) rfl .nil) ?_ | refine ReT.cons (.keep (congrArg (fun z : List UInt8 => AV.sc (Value.string ⟨z.toArray⟩)) (by simp)) rfl .nil) ?_ | refine ReT.cons (.own rfl rfl rfl rfl rfl (by first | omega | (simp; done) | (simp; omega)) .nil) ?_)) (by repeat (first | exact ReO.nil | refine ReO.cons (Re.same rfl (still_ints _)) (by simp) ?_ | refine ReO.cons (Re.same rfl rfl) (by simp) ?_ | refine ReO.cons (Re.same (by simp) (still_ints _)) (by simp) ?_ | refine ReO.cons (Re.same (by simp) (still_u8s _)) (by simp) ?_ | refine ReO.cons (Re.same (by simp) (still_strs _)) (by simp) ?_)) (Nat.zero_le _)
  obtain ⟨acc, k⟩ := x
  obtain ⟨hx1, hx2⟩ := hx
  simp only at hx1 hx2 ⊢
  have hla : acc.length ≤ 7 := by have := congrArg List.length hx1; simp at this; omega
  repeat' (first
    | (refine K.L ?_; first
      | (refine K.mv ?_; refine WpL.move rfl (by decide) ?_)
      | (refine K.call ?_; first
        | fail
        )
      | (refine K.bin ?_; first
        | refine WpL.add rfl rfl (by omega) (by decide) ?_
        | refine WpL.sub rfl rfl (by omega) (by decide) ?_
        | refine WpL.mul rfl rfl (by omega) (by decide) ?_
        | refine WpL.quo rfl rfl (by omega) (by decide) ?_
        | refine WpL.rem rfl rfl (by omega) (by decide) ?_
        | refine WpL.bin rfl rfl rfl (by decide) ?_
        | refine WpL.strAdd rfl rfl (by first | omega | (simp only [List.length_append]; omega)) (by decide) ?_
        | refine WpL.strEq rfl rfl (by decide) ?_
        | refine WpL.strNe rfl rfl (by decide) ?_
        | refine WpL.boolEq (K.tyBool tabOk rfl) rfl rfl (by decide) ?_
        | refine WpL.boolNe (K.tyBool tabOk rfl) rfl rfl (by decide) ?_
        | refine WpL.shl rfl rfl (by first | decide | (simp only [IntKind.bits]; omega)) (by decide) ?_
        | refine WpL.shr rfl rfl (by first | decide | (simp only [IntKind.bits]; omega)) (by decide) ?_)
      | (refine K.ld ?_; first
        | refine WpL.loadInts tabOk rfl rfl rfl (by first | omega | (simp; omega)) (by decide) ?_
        | refine WpL.loadU8s tabOk rfl rfl rfl (by first | omega | (simp; omega)) (by decide) ?_
        | refine WpL.loadStrs tabOk rfl rfl rfl (by first | omega | (simp; omega)) (by decide) ?_
        | refine WpL.loadBools tabOk rfl rfl rfl (by first | omega | (simp; omega)) (by decide) ?_
        | refine WpL.load1 tabOk rfl rfl rfl rfl rfl (by decide) ?_)
      | (refine K.asg ?_; refine WpL.assign rfl (by decide) ?_)
      | (refine K.fld ?_; first
        | refine WpL.fieldI tabOk rfl rfl rfl (by decide) ?_
        | refine WpL.fieldP tabOk rfl rfl rfl rfl rfl (by decide) ?_)
      | (refine K.ixa ?_; first
        | refine WpL.idxI tabOk rfl rfl rfl (by omega) (by decide) ?_
        | refine WpL.idxO tabOk rfl rfl rfl rfl rfl (by omega) (by decide) ?_)
      | (refine K.ix ?_; refine WpL.idxStr tabOk rfl rfl rfl (by omega) (by decide) ?_)
      | (refine K.bi ?_; first
        | refine WpL.lenImm (TabOk.slice tabOk rfl).1 rfl (by decide) ?_
        | refine WpL.lenOwn (TabOk.slice tabOk rfl).1 rfl rfl rfl (by decide) ?_
        | refine WpL.lenNil (TabOk.slice tabOk rfl).1 rfl (by decide) ?_
        | refine WpL.lenStr (K.tyStr tabOk rfl) rfl (by decide) ?_
        | refine WpL.app1Ints tabOk rfl rfl rfl (Nat.zero_le _) rfl rfl (by first | rfl | omega | (simp; done) | (simp; omega)) (by omega) (by decide) ?_
        | refine WpL.appInts tabOk rfl rfl rfl (Nat.zero_le _) rfl rfl (by first | rfl | omega | (simp; done) | (simp; omega)) (by first | rfl | omega | (simp; done) | (simp; omega)) (by omega) (by decide) ?_
        | refine WpL.nil1Ints tabOk rfl rfl rfl rfl (by omega) rfl (by decide) ?_
        | refine WpL.app1U8s tabOk rfl rfl rfl (Nat.zero_le _) rfl rfl (by first | rfl | omega | (simp; done) | (simp; omega)) (by omega) (by decide) ?_
        | refine WpL.appU8s tabOk rfl rfl rfl (Nat.zero_le _) rfl rfl (by first | rfl | omega | (simp; done) | (simp; omega)) (by first | rfl | omega | (simp; done) | (simp; omega)) (by omega) (by decide) ?_
        | refine WpL.nil1U8s tabOk rfl rfl rfl rfl (by omega) rfl (by decide) ?_
        | refine WpL.app1Strs tabOk rfl rfl rfl (Nat.zero_le _) rfl rfl (by first | rfl | omega | (simp; done) | (simp; omega)) (by omega) (by decide) ?_
        | refine WpL.appStrs tabOk rfl rfl rfl (Nat.zero_le _) rfl rfl (by first | rfl | omega | (simp; done) | (simp; omega)) (by first | rfl | omega | (simp; done) | (simp; omega)) (by omega) (by decide) ?_
        | refine WpL.nil1Strs tabOk rfl rfl rfl rfl (by omega) rfl (by decide) ?_
        | refine WpL.appOwn tabOk rfl rfl rfl rfl rfl rfl (by simp) (Nat.zero_le _) rfl rfl (by simp) (by simp [all_ints, all_u8s, all_strs, oneB, Value.oneCell']) (by omega) (by decide) ?_
        | refine WpL.appNil tabOk rfl rfl rfl rfl (by simp) (by simp [all_ints, all_u8s, all_strs, oneB, Value.oneCell']) (by omega) rfl (by decide) ?_
        | refine WpL.min2 rfl rfl (by decide) ?_
        | refine WpL.max2 rfl rfl (by decide) ?_)
      | (refine K.un ?_; first
        | refine WpL.not rfl (by decide) ?_
        | refine WpL.neg rfl (by omega) (by decide) ?_)
      | (refine K.pick ?_; first
        | refine WpL.pickT rfl rfl (by decide) ?_
        | refine WpL.pickF rfl rfl (by decide) ?_)
      | (refine K.ext ?_; refine WpL.extract rfl rfl (by first | decide | simp [AV.shL]) (by decide) ?_)
      | (refine K.cv ?_; first
        | refine WpL.convI (P := Try.prog) (by rfl) (K.tyInt tabOk rfl) rfl (by omega) (by decide) ?_
        | refine WpL.conv (P := Try.prog) (by rfl) (K.tyInt tabOk rfl) rfl (by decide) ?_
        | refine WpL.toBytes tabOk rfl rfl rfl rfl (by omega) rfl (by decide) ?_
        | refine WpL.ofBytes tabOk rfl rfl rfl rfl rfl (by simp) (by decide) ?_)
      | (refine K.lit ?_; first
        | refine WpL.lit0U8s tabOk rfl rfl rfl (by decide) ?_
        | refine WpL.lit0Ints tabOk rfl rfl rfl (by decide) ?_
        | refine WpL.lit0Bools tabOk rfl rfl rfl (by decide) ?_
        | refine WpL.lit0Strs tabOk rfl rfl rfl (by decide) ?_
        | refine WpL.litF tabOk rfl rfl rfl rfl (by decide) rfl (by decide) ?_)
      | (refine K.ms ?_; first
        | refine WpL.makeInts tabOk rfl rfl rfl (by omega) (by omega) rfl (by decide) ?_
        | refine WpL.makeStrs tabOk rfl rfl rfl (by omega) (by omega) rfl (by decide) ?_
        | refine WpL.makeBools tabOk rfl rfl rfl (by omega) (by omega) rfl (by decide) ?_
        | refine WpL.makeU8s tabOk rfl rfl rfl (by omega) (by omega) rfl (by decide) ?_)
      | (refine K.st ?_; first
        | refine WpL.storeInts tabOk rfl rfl rfl rfl rfl (by first | omega | (simp; omega)) ?_
        | refine WpL.storeU8s tabOk rfl rfl rfl rfl rfl (by first | omega | (simp; omega)) ?_
        | refine WpL.storeBools tabOk rfl rfl rfl rfl rfl (by first | omega | (simp; omega)) ?_
        | refine WpL.storeStrs tabOk rfl rfl rfl rfl rfl (by first | omega | (simp; omega)) ?_
        | refine WpL.store tabOk rfl rfl rfl rfl rfl rfl rfl rfl (by first | omega | (simp; omega) | (simp; done)) ?_)
      | (refine K.all ?_; first
        | refine WpL.allocStruct tabOk rfl rfl (by decide) ?_
        | refine WpL.allocPlain tabOk rfl rfl rfl (by decide) ?_)
      | (refine K.box ?_; refine WpL.box rfl rfl rfl (by decide) ?_)
      | (refine K.nc ?_; first
        | refine WpL.nilCheckP rfl rfl rfl (by decide) ?_
        | refine WpL.nilCheckI rfl (by decide) ?_)
      | (refine K.sl ?_; first
        | refine WpL.subStr tabOk rfl rfl (by first | exact .inl ⟨rfl, rfl⟩ | exact .inr ⟨_, _, rfl, rfl⟩) (by first | exact .inl ⟨rfl, rfl⟩ | exact .inr ⟨_, _, rfl, rfl⟩) (by omega) (by decide) ?_
        | refine WpL.subImm tabOk rfl rfl (by first | exact .inl ⟨rfl, rfl⟩ | exact .inr ⟨_, _, rfl, rfl⟩) (by first | exact .inl ⟨rfl, rfl⟩ | exact .inr ⟨_, _, rfl, rfl⟩) (by omega) (by decide) ?_)
      | (refine K.gd ?_; first
        | refine K.gT rfl (by decide) rfl ?_
        | refine K.gF rfl (by decide) rfl ?_
        | refine K.gD rfl rfl (fun _ => ?_) (fun _ => ?_)
        | refine K.gN rfl rfl (fun _ => ?_) (fun _ => ?_)
        | refine K.gS rfl rfl (fun _ => ?_) (fun _ => ?_)))
    | refine WpL.nil ?_
    | refine Abs.Seq.n ?_
    | (refine K.A ?_; first
      | refine WpA.seq ?_
      | refine WpA.region ?_
      | (refine K.cond ?_; first
        | refine WpA.condT rfl ?_
        | refine WpA.condF rfl ?_
        | refine WpA.condD rfl (fun _ => ?_) (fun _ => ?_)
        | refine WpA.condN rfl (fun _ => ?_) (fun _ => ?_)
        | refine WpA.condS rfl (fun _ => ?_) (fun _ => ?_))
      | refine WpA.block ?_
      | refine WpA.ret ?_
      | refine WpA.exit ?_
      | refine WpA.skip ?_
      | apply WpA.regionM 1 mixed (by decide +kernel)
      | apply WpA.regionM 2 mixed (by decide +kernel)
      | apply WpA.regionM 3 mixed (by decide +kernel)
      | apply WpA.regionM 4 mixed (by decide +kernel)
      | apply WpA.regionM 5 mixed (by decide +kernel)
      | apply WpA.regionM 6 mixed (by decide +kernel)
      | apply WpA.regionM 7 mixed (by decide +kernel)
      | apply WpA.regionM 8 mixed (by decide +kernel)
      | apply WpA.regionM 9 mixed (by decide +kernel)
      | apply WpA.regionM 10 mixed (by decide +kernel)
      | apply WpA.regionM 11 mixed (by decide +kernel)
      | apply WpA.regionM 12 mixed (by decide +kernel)
      | apply WpA.regionM 13 mixed (by decide +kernel)
      | apply WpA.regionM 14 mixed (by decide +kernel)
      | apply WpA.regionM 15 mixed (by decide +kernel)
      | apply WpA.regionM 16 mixed (by decide +kernel)
      | apply WpA.regionM 17 mixed (by decide +kernel)
      | apply WpA.regionM 18 mixed (by decide +kernel)
      | apply WpA.regionM 19 mixed (by decide +kernel)
      | apply WpA.regionM 20 mixed (by decide +kernel)
      | apply WpA.regionM 21 mixed (by decide +kernel)
      | apply WpA.regionM 22 mixed (by decide +kernel)
      | apply WpA.regionM 23 mixed (by decide +kernel)
      | apply WpA.regionM 24 mixed (by decide +kernel)
      | apply WpA.regionM 25 mixed (by decide +kernel)
      | apply WpA.regionM 26 mixed (by decide +kernel)
      | apply WpA.regionM 27 mixed (by decide +kernel)
      | apply WpA.regionM 28 mixed (by decide +kernel)
      | apply WpA.regionM 29 mixed (by decide +kernel)
      | apply WpA.regionM 30 mixed (by decide +kernel)
      | apply WpA.regionM 31 mixed (by decide +kernel)
      | apply WpA.regionM 32 mixed (by decide +kernel)
      | refine WpA.regionD mixed (by decide +kernel) ?_)
    | refine Abs.Seq.ret ?_
    | refine Abs.Seq.exit ?_
    | refine Blk.n ?_
    | refine Blk.ret ?_
    | refine Blk.exitHere ?_
    | refine Blk.exitOther rfl ?_
    | refine Rnd.ret ?_
    | refine Rnd.exit ?_
    | exact Only.mk rfl
    | exact Abs.HeadJ.nil
    | apply Abs.HeadJ.cons rfl
    | (apply K.depT; simp only [deps, List.toList_toArray, List.filterMap_cons, List.filterMap_nil, Region.binds, if_true, List.nil_append, List.cons_append, List.getElem?_cons_succ, List.getElem?_cons_zero, List.getElem?_nil, reduceCtorEq, Bool.true_or, Bool.or_true]; exact rfl)
    | refine fun Tv => K.L ?_
    | (apply K.appT; simp only [List.nil_append, List.cons_append, List.append_assoc]; exact rfl)
    | (refine K.isTrue ?_; kernel_rfl)
    | exact rfl
    | contradiction
    | omega)
  · have hk : 128 ≤ k := by omega
    refine Rnd.go (acc ++ [128 + (k : Int) % 128], k / 128) ⟨by simp only; rw [← hx1, vb_step k hk]; simp, by simp only; omega⟩ (by simp only; omega) ?_
    exact Weak.mk (by repeat (first | exact ReT.nil | refine ReT.cons (.keep rfl rfl .nil) ?_ | refine ReT.cons (.own rfl rfl rfl rfl rfl rfl .nil) ?_ | refine ReT.cons (.ptr rfl rfl rfl rfl .nil) ?_ | refine ReT.cons (.keep (congrArg (fun z => AV.sc (Value.int .i64 z)) (by first | omega | (rw [u8_wrap _ (by omega)]))) rfl .nil) ?_ | refine ReT.cons (.keep (congrArg (fun z : List UInt8 => AV.sc (Value.string ⟨z.toArray⟩)) (by rw [u8_wrap _ (by omega)])) rfl .nil) ?_ | refine ReT.cons (.own rfl rfl rfl rfl rfl (by first | omega | (simp; done) | (simp; omega)) .nil) ?_)) (by repeat (first | exact ReO.nil | refine ReO.cons (Re.same rfl (still_ints _)) (by simp) ?_ | refine ReO.cons (Re.same rfl rfl) (by simp) ?_ | refine ReO.cons (Re.same (by rw [u8_wrap _ (by omega)]) (still_ints _)) (by simp) ?_ | refine ReO.cons (Re.same (by rw [u8_wrap _ (by omega)]) (still_u8s _)) (by simp) ?_ | refine ReO.cons (Re.same (by rw [u8_wrap _ (by omega)]) (still_strs _)) (by simp) ?_)) (Nat.zero_le _)
  · refine Abs.Fin.ret (.one (.tmp rfl) .nil (by decide) (.keep ?_ rfl rfl .nil))
    have e := vb_end k (by omega)
    rw [vars, if_pos hn, ← hx1, e, u8_wrap _ (by omega)]

theorem ofInt_nat (k : Nat) (h : k < 9223372036854775808) : (BitVec.ofInt IntKind.i64.bits (k : Int)).toNat = k := by
  simp only [IntKind.bits, BitVec.toNat_ofInt]; omega
theorem or128 : ∀ r : Fin 128, (r.val ||| 128) = 128 + r.val := by decide
theorem low7 (k : Nat) (h : k ≤ 562949953421311) : IntKind.i64.wrap ((BitVec.ofInt IntKind.i64.bits (k : Int) &&& BitVec.ofInt IntKind.i64.bits 127).toNat : Nat) = (k : Int) % 128 := by
  have e : (BitVec.ofInt IntKind.i64.bits (k : Int) &&& BitVec.ofInt IntKind.i64.bits 127).toNat = k % 128 := by
    rw [BitVec.toNat_and, ofInt_nat k (by omega), show (BitVec.ofInt IntKind.i64.bits (127 : Int)).toNat = 2 ^ 7 - 1 from ofInt_nat 127 (by decide), Nat.and_two_pow_sub_one_eq_mod]
  rw [e, wrap_in _ (by omega)]; omega
theorem hi1 (k : Nat) : IntKind.i64.wrap ((BitVec.ofInt IntKind.i64.bits ((k : Int) % 128) ||| BitVec.ofInt IntKind.i64.bits 128).toNat : Nat) = 128 + (k : Int) % 128 := by
  have e : (BitVec.ofInt IntKind.i64.bits ((k : Int) % 128) ||| BitVec.ofInt IntKind.i64.bits 128).toNat = 128 + k % 128 := by
    rw [BitVec.toNat_or, show ((k : Int) % 128) = ((k % 128 : Nat) : Int) from by omega, ofInt_nat _ (by omega), show (BitVec.ofInt IntKind.i64.bits (128 : Int)).toNat = 128 from ofInt_nat 128 (by decide)]
    exact or128 ⟨k % 128, by omega⟩
  rw [e, wrap_in _ (by omega)]; omega

theorem Var_c (n : Int) : FnC Try.prog 38 [I n] [] (Z (vars n)) := by
  refine FnC.of_body tabOk Try.func38 Try.ntmps38 rfl (by decide +kernel) (by simp) fun G => ?_
  repeat' (first
    | (refine K.L ?_; first
      | (refine K.mv ?_; refine WpL.move rfl (by decide) ?_)
      | (refine K.call ?_; first
        | refine WpL.call (within_c _ _ _) (by repeat' (first | exact Snap.nil | refine Snap.keep rfl rfl ?_ | refine Snap.own rfl rfl rfl (by simp) rfl ?_ ?_ | refine Snap.agg ?_ ?_ | refine Snap.nilI ?_ | exact Snap.same rfl (still_ints _) (nofre_ints _) | exact Snap.same rfl (still_u8s _) (nofre_u8s _) | exact Snap.same rfl (still_strs _) (nofre_strs _) | exact Snap.same rfl (still_bools _) (nofre_bools _))) (by repeat' (first | exact Loc.nil | refine Loc.sc ?_ | refine Loc.own ?_ | refine Loc.nilS ?_ | refine Loc.agg ?_ ?_ | refine Loc.tup ?_ ?_)) (by first | exact Out.nil | exact Out.ints | exact Out.u8s | exact Out.strs | exact Out.bools) rfl rfl rfl (by decide) ?_
        )
      | (refine K.bin ?_; first
        | refine WpL.add rfl rfl (by omega) (by decide) ?_
        | refine WpL.sub rfl rfl (by omega) (by decide) ?_
        | refine WpL.mul rfl rfl (by omega) (by decide) ?_
        | refine WpL.quo rfl rfl (by omega) (by decide) ?_
        | refine WpL.rem rfl rfl (by omega) (by decide) ?_
        | refine WpL.bin rfl rfl rfl (by decide) ?_
        | refine WpL.strAdd rfl rfl (by first | omega | (simp only [List.length_append]; omega)) (by decide) ?_
        | refine WpL.strEq rfl rfl (by decide) ?_
        | refine WpL.strNe rfl rfl (by decide) ?_
        | refine WpL.boolEq (K.tyBool tabOk rfl) rfl rfl (by decide) ?_
        | refine WpL.boolNe (K.tyBool tabOk rfl) rfl rfl (by decide) ?_
        | refine WpL.shl rfl rfl (by first | decide | (simp only [IntKind.bits]; omega)) (by decide) ?_
        | refine WpL.shr rfl rfl (by first | decide | (simp only [IntKind.bits]; omega)) (by decide) ?_)
      | (refine K.ld ?_; first
        | refine WpL.loadInts tabOk rfl rfl rfl (by first | omega | (simp; omega)) (by decide) ?_
        | refine WpL.loadU8s tabOk rfl rfl rfl (by first | omega | (simp; omega)) (by decide) ?_
        | refine WpL.loadStrs tabOk rfl rfl rfl (by first | omega | (simp; omega)) (by decide) ?_
        | refine WpL.loadBools tabOk rfl rfl rfl (by first | omega | (simp; omega)) (by decide) ?_
        | refine WpL.load1 tabOk rfl rfl rfl rfl rfl (by decide) ?_)
      | (refine K.asg ?_; refine WpL.assign rfl (by decide) ?_)
      | (refine K.fld ?_; first
        | refine WpL.fieldI tabOk rfl rfl rfl (by decide) ?_
        | refine WpL.fieldP tabOk rfl rfl rfl rfl rfl (by decide) ?_)
      | (refine K.ixa ?_; first
        | refine WpL.idxI tabOk rfl rfl rfl (by omega) (by decide) ?_
        | refine WpL.idxO tabOk rfl rfl rfl rfl rfl (by omega) (by decide) ?_)
      | (refine K.ix ?_; refine WpL.idxStr tabOk rfl rfl rfl (by omega) (by decide) ?_)
      | (refine K.bi ?_; first
        | refine WpL.lenImm (TabOk.slice tabOk rfl).1 rfl (by decide) ?_
        | refine WpL.lenOwn (TabOk.slice tabOk rfl).1 rfl rfl rfl (by decide) ?_
        | refine WpL.lenNil (TabOk.slice tabOk rfl).1 rfl (by decide) ?_
        | refine WpL.lenStr (K.tyStr tabOk rfl) rfl (by decide) ?_
        | refine WpL.app1Ints tabOk rfl rfl rfl (Nat.zero_le _) rfl rfl (by first | rfl | omega | (simp; done) | (simp; omega)) (by omega) (by decide) ?_
        | refine WpL.appInts tabOk rfl rfl rfl (Nat.zero_le _) rfl rfl (by first | rfl | omega | (simp; done) | (simp; omega)) (by first | rfl | omega | (simp; done) | (simp; omega)) (by omega) (by decide) ?_
        | refine WpL.nil1Ints tabOk rfl rfl rfl rfl (by omega) rfl (by decide) ?_
        | refine WpL.app1U8s tabOk rfl rfl rfl (Nat.zero_le _) rfl rfl (by first | rfl | omega | (simp; done) | (simp; omega)) (by omega) (by decide) ?_
        | refine WpL.appU8s tabOk rfl rfl rfl (Nat.zero_le _) rfl rfl (by first | rfl | omega | (simp; done) | (simp; omega)) (by first | rfl | omega | (simp; done) | (simp; omega)) (by omega) (by decide) ?_
        | refine WpL.nil1U8s tabOk rfl rfl rfl rfl (by omega) rfl (by decide) ?_
        | refine WpL.app1Strs tabOk rfl rfl rfl (Nat.zero_le _) rfl rfl (by first | rfl | omega | (simp; done) | (simp; omega)) (by omega) (by decide) ?_
        | refine WpL.appStrs tabOk rfl rfl rfl (Nat.zero_le _) rfl rfl (by first | rfl | omega | (simp; done) | (simp; omega)) (by first | rfl | omega | (simp; done) | (simp; omega)) (by omega) (by decide) ?_
        | refine WpL.nil1Strs tabOk rfl rfl rfl rfl (by omega) rfl (by decide) ?_
        | refine WpL.appOwn tabOk rfl rfl rfl rfl rfl rfl (by simp) (Nat.zero_le _) rfl rfl (by simp) (by simp [all_ints, all_u8s, all_strs, oneB, Value.oneCell']) (by omega) (by decide) ?_
        | refine WpL.appNil tabOk rfl rfl rfl rfl (by simp) (by simp [all_ints, all_u8s, all_strs, oneB, Value.oneCell']) (by omega) rfl (by decide) ?_
        | refine WpL.min2 rfl rfl (by decide) ?_
        | refine WpL.max2 rfl rfl (by decide) ?_)
      | (refine K.un ?_; first
        | refine WpL.not rfl (by decide) ?_
        | refine WpL.neg rfl (by omega) (by decide) ?_)
      | (refine K.pick ?_; first
        | refine WpL.pickT rfl rfl (by decide) ?_
        | refine WpL.pickF rfl rfl (by decide) ?_)
      | (refine K.ext ?_; refine WpL.extract rfl rfl (by first | decide | simp [AV.shL]) (by decide) ?_)
      | (refine K.cv ?_; first
        | refine WpL.convI (P := Try.prog) (by rfl) (K.tyInt tabOk rfl) rfl (by omega) (by decide) ?_
        | refine WpL.conv (P := Try.prog) (by rfl) (K.tyInt tabOk rfl) rfl (by decide) ?_
        | refine WpL.toBytes tabOk rfl rfl rfl rfl (by omega) rfl (by decide) ?_
        | refine WpL.ofBytes tabOk rfl rfl rfl rfl rfl (by simp) (by decide) ?_)
      | (refine K.lit ?_; first
        | refine WpL.lit0U8s tabOk rfl rfl rfl (by decide) ?_
        | refine WpL.lit0Ints tabOk rfl rfl rfl (by decide) ?_
        | refine WpL.lit0Bools tabOk rfl rfl rfl (by decide) ?_
        | refine WpL.lit0Strs tabOk rfl rfl rfl (by decide) ?_
        | refine WpL.litF tabOk rfl rfl rfl rfl (by decide) rfl (by decide) ?_)
      | (refine K.ms ?_; first
        | refine WpL.makeInts tabOk rfl rfl rfl (by omega) (by omega) rfl (by decide) ?_
        | refine WpL.makeStrs tabOk rfl rfl rfl (by omega) (by omega) rfl (by decide) ?_
        | refine WpL.makeBools tabOk rfl rfl rfl (by omega) (by omega) rfl (by decide) ?_
        | refine WpL.makeU8s tabOk rfl rfl rfl (by omega) (by omega) rfl (by decide) ?_)
      | (refine K.st ?_; first
        | refine WpL.storeInts tabOk rfl rfl rfl rfl rfl (by first | omega | (simp; omega)) ?_
        | refine WpL.storeU8s tabOk rfl rfl rfl rfl rfl (by first | omega | (simp; omega)) ?_
        | refine WpL.storeBools tabOk rfl rfl rfl rfl rfl (by first | omega | (simp; omega)) ?_
        | refine WpL.storeStrs tabOk rfl rfl rfl rfl rfl (by first | omega | (simp; omega)) ?_
        | refine WpL.store tabOk rfl rfl rfl rfl rfl rfl rfl rfl (by first | omega | (simp; omega) | (simp; done)) ?_)
      | (refine K.all ?_; first
        | refine WpL.allocStruct tabOk rfl rfl (by decide) ?_
        | refine WpL.allocPlain tabOk rfl rfl rfl (by decide) ?_)
      | (refine K.box ?_; refine WpL.box rfl rfl rfl (by decide) ?_)
      | (refine K.nc ?_; first
        | refine WpL.nilCheckP rfl rfl rfl (by decide) ?_
        | refine WpL.nilCheckI rfl (by decide) ?_)
      | (refine K.sl ?_; first
        | refine WpL.subStr tabOk rfl rfl (by first | exact .inl ⟨rfl, rfl⟩ | exact .inr ⟨_, _, rfl, rfl⟩) (by first | exact .inl ⟨rfl, rfl⟩ | exact .inr ⟨_, _, rfl, rfl⟩) (by omega) (by decide) ?_
        | refine WpL.subImm tabOk rfl rfl (by first | exact .inl ⟨rfl, rfl⟩ | exact .inr ⟨_, _, rfl, rfl⟩) (by first | exact .inl ⟨rfl, rfl⟩ | exact .inr ⟨_, _, rfl, rfl⟩) (by omega) (by decide) ?_)
      | (refine K.gd ?_; first
        | refine K.gT rfl (by decide) rfl ?_
        | refine K.gF rfl (by decide) rfl ?_
        | refine K.gD rfl rfl (fun _ => ?_) (fun _ => ?_)
        | refine K.gN rfl rfl (fun _ => ?_) (fun _ => ?_)
        | refine K.gS rfl rfl (fun _ => ?_) (fun _ => ?_)))
    | refine WpL.nil ?_
    | refine Abs.Seq.n ?_
    | (refine K.A ?_; first
      | refine WpA.seq ?_
      | refine WpA.region ?_
      | (refine K.cond ?_; first
        | refine WpA.condT rfl ?_
        | refine WpA.condF rfl ?_
        | refine WpA.condD rfl (fun _ => ?_) (fun _ => ?_)
        | refine WpA.condN rfl (fun _ => ?_) (fun _ => ?_)
        | refine WpA.condS rfl (fun _ => ?_) (fun _ => ?_))
      | refine WpA.block ?_
      | refine WpA.ret ?_
      | refine WpA.exit ?_
      | refine WpA.skip ?_
      | apply WpA.regionM 1 mixed (by decide +kernel)
      | apply WpA.regionM 2 mixed (by decide +kernel)
      | apply WpA.regionM 3 mixed (by decide +kernel)
      | apply WpA.regionM 4 mixed (by decide +kernel)
      | apply WpA.regionM 5 mixed (by decide +kernel)
      | apply WpA.regionM 6 mixed (by decide +kernel)
      | apply WpA.regionM 7 mixed (by decide +kernel)
      | apply WpA.regionM 8 mixed (by decide +kernel)
      | apply WpA.regionM 9 mixed (by decide +kernel)
      | apply WpA.regionM 10 mixed (by decide +kernel)
      | apply WpA.regionM 11 mixed (by decide +kernel)
      | apply WpA.regionM 12 mixed (by decide +kernel)
      | apply WpA.regionM 13 mixed (by decide +kernel)
      | apply WpA.regionM 14 mixed (by decide +kernel)
      | apply WpA.regionM 15 mixed (by decide +kernel)
      | apply WpA.regionM 16 mixed (by decide +kernel)
      | apply WpA.regionM 17 mixed (by decide +kernel)
      | apply WpA.regionM 18 mixed (by decide +kernel)
      | apply WpA.regionM 19 mixed (by decide +kernel)
      | apply WpA.regionM 20 mixed (by decide +kernel)
      | apply WpA.regionM 21 mixed (by decide +kernel)
      | apply WpA.regionM 22 mixed (by decide +kernel)
      | apply WpA.regionM 23 mixed (by decide +kernel)
      | apply WpA.regionM 24 mixed (by decide +kernel)
      | apply WpA.regionM 25 mixed (by decide +kernel)
      | apply WpA.regionM 26 mixed (by decide +kernel)
      | apply WpA.regionM 27 mixed (by decide +kernel)
      | apply WpA.regionM 28 mixed (by decide +kernel)
      | apply WpA.regionM 29 mixed (by decide +kernel)
      | apply WpA.regionM 30 mixed (by decide +kernel)
      | apply WpA.regionM 31 mixed (by decide +kernel)
      | apply WpA.regionM 32 mixed (by decide +kernel)
      | refine WpA.regionD mixed (by decide +kernel) ?_)
    | refine Abs.Seq.ret ?_
    | refine Abs.Seq.exit ?_
    | refine Blk.n ?_
    | refine Blk.ret ?_
    | refine Blk.exitHere ?_
    | refine Blk.exitOther rfl ?_
    | refine Rnd.ret ?_
    | refine Rnd.exit ?_
    | exact Only.mk rfl
    | exact Abs.HeadJ.nil
    | apply Abs.HeadJ.cons rfl
    | (apply K.depT; simp only [deps, List.toList_toArray, List.filterMap_cons, List.filterMap_nil, Region.binds, if_true, List.nil_append, List.cons_append, List.getElem?_cons_succ, List.getElem?_cons_zero, List.getElem?_nil, reduceCtorEq, Bool.true_or, Bool.or_true]; exact rfl)
    | refine fun Tv => K.L ?_
    | (apply K.appT; simp only [List.nil_append, List.cons_append, List.append_assoc]; exact rfl)
    | (refine K.isTrue ?_; kernel_rfl)
    | exact rfl
    | contradiction
    | omega)
  · refine Abs.Fin.ret (.one (.tmp rfl) .nil (by decide) (.keep ?_ rfl rfl .nil))
    rw [vars, if_neg (by assumption)]
  have hn : 0 ≤ n ∧ n ≤ 562949953421311 := by assumption
  have h7 := vb_len7 n.toNat (by omega)
  refine WpA.loop (fun x : List Int × Nat => ⟨[(0, I x.2), (3, .own 0 0 0 x.1.length)], [⟨u8s x.1, 0, 1, some 5⟩]⟩) (fun x => x.1 ++ vb x.2 = vb n.toNat ∧ x.2 ≤ 562949953421311) (fun x => x.2) ([], n.toNat) (by simp; omega) ?_ (fun x hx => ?_)
  · exact Weak.mk (by repeat (first | exact ReT.nil | refine ReT.cons (.keep rfl rfl .nil) ?_ | refine ReT.cons (.own rfl rfl rfl rfl rfl rfl .nil) ?_ | refine ReT.cons (.ptr rfl rfl rfl rfl .nil) ?_ | refine ReT.cons (.keep (congrArg (fun z => AV.sc (Value.int .i64 z)) (by first | omega | (simp))) rfl .nil) ?_ | refine ReT.cons (.keep (congrArg (fun z : List UInt8 => AV.sc (Value.string ⟨z.toArray⟩)) (by simp)) rfl .nil) ?_ | refine ReT.cons (.own rfl rfl rfl rfl rfl (by first | omega | (simp; done) | (simp; omega)) .nil) ?_)) (by repeat (first | exact ReO.nil | refine ReO.cons (Re.same rfl (still_ints _)) (by simp) ?_ | refine ReO.cons (Re.same rfl rfl) (by simp) ?_ | refine ReO.cons (Re.same (by simp) (still_ints _)) (by simp) ?_ | refine ReO.cons (Re.same (by simp) (still_u8s _)) (by simp) ?_ | refine ReO.cons (Re.same (by simp) (still_strs _)) (by simp) ?_)) (Nat.zero_le _)
  obtain ⟨acc, k⟩ := x
  obtain ⟨hx1, hx2⟩ := hx
  simp only at hx1 hx2 ⊢
  have hla : acc.length ≤ 7 := by have := congrArg List.length hx1; simp at this; omega
  repeat' (first
    | (refine K.L ?_; first
      | (refine K.mv ?_; refine WpL.move rfl (by decide) ?_)
      | (refine K.call ?_; first
        | fail
        )
      | (refine K.bin ?_; first
        | refine WpL.add rfl rfl (by omega) (by decide) ?_
        | refine WpL.sub rfl rfl (by omega) (by decide) ?_
        | refine WpL.mul rfl rfl (by omega) (by decide) ?_
        | refine WpL.quo rfl rfl (by omega) (by decide) ?_
        | refine WpL.rem rfl rfl (by omega) (by decide) ?_
        | refine WpL.bin rfl rfl rfl (by decide) ?_
        | refine WpL.strAdd rfl rfl (by first | omega | (simp only [List.length_append]; omega)) (by decide) ?_
        | refine WpL.strEq rfl rfl (by decide) ?_
        | refine WpL.strNe rfl rfl (by decide) ?_
        | refine WpL.boolEq (K.tyBool tabOk rfl) rfl rfl (by decide) ?_
        | refine WpL.boolNe (K.tyBool tabOk rfl) rfl rfl (by decide) ?_
        | refine WpL.shl rfl rfl (by first | decide | (simp only [IntKind.bits]; omega)) (by decide) ?_
        | refine WpL.shr rfl rfl (by first | decide | (simp only [IntKind.bits]; omega)) (by decide) ?_)
      | (refine K.ld ?_; first
        | refine WpL.loadInts tabOk rfl rfl rfl (by first | omega | (simp; omega)) (by decide) ?_
        | refine WpL.loadU8s tabOk rfl rfl rfl (by first | omega | (simp; omega)) (by decide) ?_
        | refine WpL.loadStrs tabOk rfl rfl rfl (by first | omega | (simp; omega)) (by decide) ?_
        | refine WpL.loadBools tabOk rfl rfl rfl (by first | omega | (simp; omega)) (by decide) ?_
        | refine WpL.load1 tabOk rfl rfl rfl rfl rfl (by decide) ?_)
      | (refine K.asg ?_; refine WpL.assign rfl (by decide) ?_)
      | (refine K.fld ?_; first
        | refine WpL.fieldI tabOk rfl rfl rfl (by decide) ?_
        | refine WpL.fieldP tabOk rfl rfl rfl rfl rfl (by decide) ?_)
      | (refine K.ixa ?_; first
        | refine WpL.idxI tabOk rfl rfl rfl (by omega) (by decide) ?_
        | refine WpL.idxO tabOk rfl rfl rfl rfl rfl (by omega) (by decide) ?_)
      | (refine K.ix ?_; refine WpL.idxStr tabOk rfl rfl rfl (by omega) (by decide) ?_)
      | (refine K.bi ?_; first
        | refine WpL.lenImm (TabOk.slice tabOk rfl).1 rfl (by decide) ?_
        | refine WpL.lenOwn (TabOk.slice tabOk rfl).1 rfl rfl rfl (by decide) ?_
        | refine WpL.lenNil (TabOk.slice tabOk rfl).1 rfl (by decide) ?_
        | refine WpL.lenStr (K.tyStr tabOk rfl) rfl (by decide) ?_
        | refine WpL.app1Ints tabOk rfl rfl rfl (Nat.zero_le _) rfl rfl (by first | rfl | omega | (simp; done) | (simp; omega)) (by omega) (by decide) ?_
        | refine WpL.appInts tabOk rfl rfl rfl (Nat.zero_le _) rfl rfl (by first | rfl | omega | (simp; done) | (simp; omega)) (by first | rfl | omega | (simp; done) | (simp; omega)) (by omega) (by decide) ?_
        | refine WpL.nil1Ints tabOk rfl rfl rfl rfl (by omega) rfl (by decide) ?_
        | refine WpL.app1U8s tabOk rfl rfl rfl (Nat.zero_le _) rfl rfl (by first | rfl | omega | (simp; done) | (simp; omega)) (by omega) (by decide) ?_
        | refine WpL.appU8s tabOk rfl rfl rfl (Nat.zero_le _) rfl rfl (by first | rfl | omega | (simp; done) | (simp; omega)) (by first | rfl | omega | (simp; done) | (simp; omega)) (by omega) (by decide) ?_
        | refine WpL.nil1U8s tabOk rfl rfl rfl rfl (by omega) rfl (by decide) ?_
        | refine WpL.app1Strs tabOk rfl rfl rfl (Nat.zero_le _) rfl rfl (by first | rfl | omega | (simp; done) | (simp; omega)) (by omega) (by decide) ?_
        | refine WpL.appStrs tabOk rfl rfl rfl (Nat.zero_le _) rfl rfl (by first | rfl | omega | (simp; done) | (simp; omega)) (by first | rfl | omega | (simp; done) | (simp; omega)) (by omega) (by decide) ?_
        | refine WpL.nil1Strs tabOk rfl rfl rfl rfl (by omega) rfl (by decide) ?_
        | refine WpL.appOwn tabOk rfl rfl rfl rfl rfl rfl (by simp) (Nat.zero_le _) rfl rfl (by simp) (by simp [all_ints, all_u8s, all_strs, oneB, Value.oneCell']) (by omega) (by decide) ?_
        | refine WpL.appNil tabOk rfl rfl rfl rfl (by simp) (by simp [all_ints, all_u8s, all_strs, oneB, Value.oneCell']) (by omega) rfl (by decide) ?_
        | refine WpL.min2 rfl rfl (by decide) ?_
        | refine WpL.max2 rfl rfl (by decide) ?_)
      | (refine K.un ?_; first
        | refine WpL.not rfl (by decide) ?_
        | refine WpL.neg rfl (by omega) (by decide) ?_)
      | (refine K.pick ?_; first
        | refine WpL.pickT rfl rfl (by decide) ?_
        | refine WpL.pickF rfl rfl (by decide) ?_)
      | (refine K.ext ?_; refine WpL.extract rfl rfl (by first | decide | simp [AV.shL]) (by decide) ?_)
      | (refine K.cv ?_; first
        | refine WpL.convI (P := Try.prog) (by rfl) (K.tyInt tabOk rfl) rfl (by omega) (by decide) ?_
        | refine WpL.conv (P := Try.prog) (by rfl) (K.tyInt tabOk rfl) rfl (by decide) ?_
        | refine WpL.toBytes tabOk rfl rfl rfl rfl (by omega) rfl (by decide) ?_
        | refine WpL.ofBytes tabOk rfl rfl rfl rfl rfl (by simp) (by decide) ?_)
      | (refine K.lit ?_; first
        | refine WpL.lit0U8s tabOk rfl rfl rfl (by decide) ?_
        | refine WpL.lit0Ints tabOk rfl rfl rfl (by decide) ?_
        | refine WpL.lit0Bools tabOk rfl rfl rfl (by decide) ?_
        | refine WpL.lit0Strs tabOk rfl rfl rfl (by decide) ?_
        | refine WpL.litF tabOk rfl rfl rfl rfl (by decide) rfl (by decide) ?_)
      | (refine K.ms ?_; first
        | refine WpL.makeInts tabOk rfl rfl rfl (by omega) (by omega) rfl (by decide) ?_
        | refine WpL.makeStrs tabOk rfl rfl rfl (by omega) (by omega) rfl (by decide) ?_
        | refine WpL.makeBools tabOk rfl rfl rfl (by omega) (by omega) rfl (by decide) ?_
        | refine WpL.makeU8s tabOk rfl rfl rfl (by omega) (by omega) rfl (by decide) ?_)
      | (refine K.st ?_; first
        | refine WpL.storeInts tabOk rfl rfl rfl rfl rfl (by first | omega | (simp; omega)) ?_
        | refine WpL.storeU8s tabOk rfl rfl rfl rfl rfl (by first | omega | (simp; omega)) ?_
        | refine WpL.storeBools tabOk rfl rfl rfl rfl rfl (by first | omega | (simp; omega)) ?_
        | refine WpL.storeStrs tabOk rfl rfl rfl rfl rfl (by first | omega | (simp; omega)) ?_
        | refine WpL.store tabOk rfl rfl rfl rfl rfl rfl rfl rfl (by first | omega | (simp; omega) | (simp; done)) ?_)
      | (refine K.all ?_; first
        | refine WpL.allocStruct tabOk rfl rfl (by decide) ?_
        | refine WpL.allocPlain tabOk rfl rfl rfl (by decide) ?_)
      | (refine K.box ?_; refine WpL.box rfl rfl rfl (by decide) ?_)
      | (refine K.nc ?_; first
        | refine WpL.nilCheckP rfl rfl rfl (by decide) ?_
        | refine WpL.nilCheckI rfl (by decide) ?_)
      | (refine K.sl ?_; first
        | refine WpL.subStr tabOk rfl rfl (by first | exact .inl ⟨rfl, rfl⟩ | exact .inr ⟨_, _, rfl, rfl⟩) (by first | exact .inl ⟨rfl, rfl⟩ | exact .inr ⟨_, _, rfl, rfl⟩) (by omega) (by decide) ?_
        | refine WpL.subImm tabOk rfl rfl (by first | exact .inl ⟨rfl, rfl⟩ | exact .inr ⟨_, _, rfl, rfl⟩) (by first | exact .inl ⟨rfl, rfl⟩ | exact .inr ⟨_, _, rfl, rfl⟩) (by omega) (by decide) ?_)
      | (refine K.gd ?_; first
        | refine K.gT rfl (by decide) rfl ?_
        | refine K.gF rfl (by decide) rfl ?_
        | refine K.gD rfl rfl (fun _ => ?_) (fun _ => ?_)
        | refine K.gN rfl rfl (fun _ => ?_) (fun _ => ?_)
        | refine K.gS rfl rfl (fun _ => ?_) (fun _ => ?_)))
    | refine WpL.nil ?_
    | refine Abs.Seq.n ?_
    | (refine K.A ?_; first
      | refine WpA.seq ?_
      | refine WpA.region ?_
      | (refine K.cond ?_; first
        | refine WpA.condT rfl ?_
        | refine WpA.condF rfl ?_
        | refine WpA.condD rfl (fun _ => ?_) (fun _ => ?_)
        | refine WpA.condN rfl (fun _ => ?_) (fun _ => ?_)
        | refine WpA.condS rfl (fun _ => ?_) (fun _ => ?_))
      | refine WpA.block ?_
      | refine WpA.ret ?_
      | refine WpA.exit ?_
      | refine WpA.skip ?_
      | apply WpA.regionM 1 mixed (by decide +kernel)
      | apply WpA.regionM 2 mixed (by decide +kernel)
      | apply WpA.regionM 3 mixed (by decide +kernel)
      | apply WpA.regionM 4 mixed (by decide +kernel)
      | apply WpA.regionM 5 mixed (by decide +kernel)
      | apply WpA.regionM 6 mixed (by decide +kernel)
      | apply WpA.regionM 7 mixed (by decide +kernel)
      | apply WpA.regionM 8 mixed (by decide +kernel)
      | apply WpA.regionM 9 mixed (by decide +kernel)
      | apply WpA.regionM 10 mixed (by decide +kernel)
      | apply WpA.regionM 11 mixed (by decide +kernel)
      | apply WpA.regionM 12 mixed (by decide +kernel)
      | apply WpA.regionM 13 mixed (by decide +kernel)
      | apply WpA.regionM 14 mixed (by decide +kernel)
      | apply WpA.regionM 15 mixed (by decide +kernel)
      | apply WpA.regionM 16 mixed (by decide +kernel)
      | apply WpA.regionM 17 mixed (by decide +kernel)
      | apply WpA.regionM 18 mixed (by decide +kernel)
      | apply WpA.regionM 19 mixed (by decide +kernel)
      | apply WpA.regionM 20 mixed (by decide +kernel)
      | apply WpA.regionM 21 mixed (by decide +kernel)
      | apply WpA.regionM 22 mixed (by decide +kernel)
      | apply WpA.regionM 23 mixed (by decide +kernel)
      | apply WpA.regionM 24 mixed (by decide +kernel)
      | apply WpA.regionM 25 mixed (by decide +kernel)
      | apply WpA.regionM 26 mixed (by decide +kernel)
      | apply WpA.regionM 27 mixed (by decide +kernel)
      | apply WpA.regionM 28 mixed (by decide +kernel)
      | apply WpA.regionM 29 mixed (by decide +kernel)
      | apply WpA.regionM 30 mixed (by decide +kernel)
      | apply WpA.regionM 31 mixed (by decide +kernel)
      | apply WpA.regionM 32 mixed (by decide +kernel)
      | refine WpA.regionD mixed (by decide +kernel) ?_)
    | refine Abs.Seq.ret ?_
    | refine Abs.Seq.exit ?_
    | refine Blk.n ?_
    | refine Blk.ret ?_
    | refine Blk.exitHere ?_
    | refine Blk.exitOther rfl ?_
    | refine Rnd.ret ?_
    | refine Rnd.exit ?_
    | exact Only.mk rfl
    | exact Abs.HeadJ.nil
    | apply Abs.HeadJ.cons rfl
    | (apply K.depT; simp only [deps, List.toList_toArray, List.filterMap_cons, List.filterMap_nil, Region.binds, if_true, List.nil_append, List.cons_append, List.getElem?_cons_succ, List.getElem?_cons_zero, List.getElem?_nil, reduceCtorEq, Bool.true_or, Bool.or_true]; exact rfl)
    | refine fun Tv => K.L ?_
    | (apply K.appT; simp only [List.nil_append, List.cons_append, List.append_assoc]; exact rfl)
    | (refine K.isTrue ?_; kernel_rfl)
    | exact rfl
    | contradiction
    | omega)
  · have hk : 128 ≤ k := by omega
    refine Rnd.go (acc ++ [128 + (k : Int) % 128], k / 128) ⟨by simp only; rw [← hx1, vb_step k hk]; simp, by simp only; omega⟩ (by simp only; omega) ?_
    exact Weak.mk (by repeat (first | exact ReT.nil | refine ReT.cons (.keep rfl rfl .nil) ?_ | refine ReT.cons (.own rfl rfl rfl rfl rfl rfl .nil) ?_ | refine ReT.cons (.ptr rfl rfl rfl rfl .nil) ?_ | refine ReT.cons (.keep (congrArg (fun z => AV.sc (Value.int .i64 z)) (by first | omega | (rw [low7 k hx2, hi1, u8_wrap _ (by omega)]))) rfl .nil) ?_ | refine ReT.cons (.keep (congrArg (fun z : List UInt8 => AV.sc (Value.string ⟨z.toArray⟩)) (by rw [low7 k hx2, hi1, u8_wrap _ (by omega)])) rfl .nil) ?_ | refine ReT.cons (.own rfl rfl rfl rfl rfl (by first | omega | (simp; done) | (simp; omega)) .nil) ?_)) (by repeat (first | exact ReO.nil | refine ReO.cons (Re.same rfl (still_ints _)) (by simp) ?_ | refine ReO.cons (Re.same rfl rfl) (by simp) ?_ | refine ReO.cons (Re.same (by rw [low7 k hx2, hi1, u8_wrap _ (by omega)]) (still_ints _)) (by simp) ?_ | refine ReO.cons (Re.same (by rw [low7 k hx2, hi1, u8_wrap _ (by omega)]) (still_u8s _)) (by simp) ?_ | refine ReO.cons (Re.same (by rw [low7 k hx2, hi1, u8_wrap _ (by omega)]) (still_strs _)) (by simp) ?_)) (Nat.zero_le _)
  · refine Abs.Fin.ret (.one (.tmp rfl) .nil (by decide) (.keep ?_ rfl rfl .nil))
    have e := vb_end k (by omega)
    rw [vars, if_pos hn, ← hx1, e, u8_wrap _ (by omega)]

def tot (xs : List (List UInt8)) : Nat := (xs.map List.length).sum
theorem tot_snoc (xs : List (List UInt8)) (k : Nat) (h : k < xs.length) : tot (xs.take (k + 1)) = tot (xs.take k) + (xs.getD k []).length := by
  unfold tot; rw [List.take_succ_eq_append_getElem h, List.map_append, List.sum_append]; simp [List.getElem?_eq_getElem h]
theorem tot_take (xs : List (List UInt8)) (k : Nat) : tot (xs.take k) ≤ tot xs := by
  have : tot xs = tot (xs.take k) + tot (xs.drop k) := by unfold tot; rw [← List.sum_append, ← List.map_append, List.take_append_drop]
  omega
theorem tot_get (xs : List (List UInt8)) (k : Nat) : (xs.getD k []).length ≤ tot xs := by
  by_cases h : k < xs.length
  · have := tot_snoc xs k h; have := tot_take xs (k + 1); omega
  · simp [List.getElem?_eq_none (Nat.le_of_not_lt h)]
def szS (xs : List (List UInt8)) (left : Int) : Int := if left - xs.length - tot xs < 0 then -1 else left - xs.length - tot xs

theorem szStringS_c (xs : List (List UInt8)) (left : Int) (hl : xs.length ≤ 9223372036854775807) (hx : ∀ x ∈ xs, x.length ≤ 9223372036854775807) (h0 : 0 ≤ left ∧ left ≤ 1048576) :
    FnC Try.prog 17 [.imm 1 xs.length (strs xs), I left] [] (I (szS xs left)) := by
  refine FnC.of_body tabOk Try.func17 Try.ntmps17 rfl (by decide +kernel) (by simp) fun G => ?_
  repeat' (first
    | (refine K.L ?_; first
      | (refine K.mv ?_; refine WpL.move rfl (by decide) ?_)
      | (refine K.call ?_; first
        | fail
        )
      | (refine K.bin ?_; first
        | refine WpL.add rfl rfl (by omega) (by decide) ?_
        | refine WpL.sub rfl rfl (by omega) (by decide) ?_
        | refine WpL.mul rfl rfl (by omega) (by decide) ?_
        | refine WpL.quo rfl rfl (by omega) (by decide) ?_
        | refine WpL.rem rfl rfl (by omega) (by decide) ?_
        | refine WpL.bin rfl rfl rfl (by decide) ?_
        | refine WpL.strAdd rfl rfl (by first | omega | (simp only [List.length_append]; omega)) (by decide) ?_
        | refine WpL.strEq rfl rfl (by decide) ?_
        | refine WpL.strNe rfl rfl (by decide) ?_
        | refine WpL.boolEq (K.tyBool tabOk rfl) rfl rfl (by decide) ?_
        | refine WpL.boolNe (K.tyBool tabOk rfl) rfl rfl (by decide) ?_
        | refine WpL.shl rfl rfl (by first | decide | (simp only [IntKind.bits]; omega)) (by decide) ?_
        | refine WpL.shr rfl rfl (by first | decide | (simp only [IntKind.bits]; omega)) (by decide) ?_)
      | (refine K.ld ?_; first
        | refine WpL.loadInts tabOk rfl rfl rfl (by first | omega | (simp; omega)) (by decide) ?_
        | refine WpL.loadU8s tabOk rfl rfl rfl (by first | omega | (simp; omega)) (by decide) ?_
        | refine WpL.loadStrs tabOk rfl rfl rfl (by first | omega | (simp; omega)) (by decide) ?_
        | refine WpL.loadBools tabOk rfl rfl rfl (by first | omega | (simp; omega)) (by decide) ?_
        | refine WpL.load1 tabOk rfl rfl rfl rfl rfl (by decide) ?_)
      | (refine K.asg ?_; refine WpL.assign rfl (by decide) ?_)
      | (refine K.fld ?_; first
        | refine WpL.fieldI tabOk rfl rfl rfl (by decide) ?_
        | refine WpL.fieldP tabOk rfl rfl rfl rfl rfl (by decide) ?_)
      | (refine K.ixa ?_; first
        | refine WpL.idxI tabOk rfl rfl rfl (by omega) (by decide) ?_
        | refine WpL.idxO tabOk rfl rfl rfl rfl rfl (by omega) (by decide) ?_)
      | (refine K.ix ?_; refine WpL.idxStr tabOk rfl rfl rfl (by omega) (by decide) ?_)
      | (refine K.bi ?_; first
        | refine WpL.lenImm (TabOk.slice tabOk rfl).1 rfl (by decide) ?_
        | refine WpL.lenOwn (TabOk.slice tabOk rfl).1 rfl rfl rfl (by decide) ?_
        | refine WpL.lenNil (TabOk.slice tabOk rfl).1 rfl (by decide) ?_
        | refine WpL.lenStr (K.tyStr tabOk rfl) rfl (by decide) ?_
        | refine WpL.app1Ints tabOk rfl rfl rfl (Nat.zero_le _) rfl rfl (by first | rfl | omega | (simp; done) | (simp; omega)) (by omega) (by decide) ?_
        | refine WpL.appInts tabOk rfl rfl rfl (Nat.zero_le _) rfl rfl (by first | rfl | omega | (simp; done) | (simp; omega)) (by first | rfl | omega | (simp; done) | (simp; omega)) (by omega) (by decide) ?_
        | refine WpL.nil1Ints tabOk rfl rfl rfl rfl (by omega) rfl (by decide) ?_
        | refine WpL.app1U8s tabOk rfl rfl rfl (Nat.zero_le _) rfl rfl (by first | rfl | omega | (simp; done) | (simp; omega)) (by omega) (by decide) ?_
        | refine WpL.appU8s tabOk rfl rfl rfl (Nat.zero_le _) rfl rfl (by first | rfl | omega | (simp; done) | (simp; omega)) (by first | rfl | omega | (simp; done) | (simp; omega)) (by omega) (by decide) ?_
        | refine WpL.nil1U8s tabOk rfl rfl rfl rfl (by omega) rfl (by decide) ?_
        | refine WpL.app1Strs tabOk rfl rfl rfl (Nat.zero_le _) rfl rfl (by first | rfl | omega | (simp; done) | (simp; omega)) (by omega) (by decide) ?_
        | refine WpL.appStrs tabOk rfl rfl rfl (Nat.zero_le _) rfl rfl (by first | rfl | omega | (simp; done) | (simp; omega)) (by first | rfl | omega | (simp; done) | (simp; omega)) (by omega) (by decide) ?_
        | refine WpL.nil1Strs tabOk rfl rfl rfl rfl (by omega) rfl (by decide) ?_
        | refine WpL.appOwn tabOk rfl rfl rfl rfl rfl rfl (by simp) (Nat.zero_le _) rfl rfl (by simp) (by simp [all_ints, all_u8s, all_strs, oneB, Value.oneCell']) (by omega) (by decide) ?_
        | refine WpL.appNil tabOk rfl rfl rfl rfl (by simp) (by simp [all_ints, all_u8s, all_strs, oneB, Value.oneCell']) (by omega) rfl (by decide) ?_
        | refine WpL.min2 rfl rfl (by decide) ?_
        | refine WpL.max2 rfl rfl (by decide) ?_)
      | (refine K.un ?_; first
        | refine WpL.not rfl (by decide) ?_
        | refine WpL.neg rfl (by omega) (by decide) ?_)
      | (refine K.pick ?_; first
        | refine WpL.pickT rfl rfl (by decide) ?_
        | refine WpL.pickF rfl rfl (by decide) ?_)
      | (refine K.ext ?_; refine WpL.extract rfl rfl (by first | decide | simp [AV.shL]) (by decide) ?_)
      | (refine K.cv ?_; first
        | refine WpL.convI (P := Try.prog) (by rfl) (K.tyInt tabOk rfl) rfl (by omega) (by decide) ?_
        | refine WpL.conv (P := Try.prog) (by rfl) (K.tyInt tabOk rfl) rfl (by decide) ?_
        | refine WpL.toBytes tabOk rfl rfl rfl rfl (by omega) rfl (by decide) ?_
        | refine WpL.ofBytes tabOk rfl rfl rfl rfl rfl (by simp) (by decide) ?_)
      | (refine K.lit ?_; first
        | refine WpL.lit0U8s tabOk rfl rfl rfl (by decide) ?_
        | refine WpL.lit0Ints tabOk rfl rfl rfl (by decide) ?_
        | refine WpL.lit0Bools tabOk rfl rfl rfl (by decide) ?_
        | refine WpL.lit0Strs tabOk rfl rfl rfl (by decide) ?_
        | refine WpL.litF tabOk rfl rfl rfl rfl (by decide) rfl (by decide) ?_)
      | (refine K.ms ?_; first
        | refine WpL.makeInts tabOk rfl rfl rfl (by omega) (by omega) rfl (by decide) ?_
        | refine WpL.makeStrs tabOk rfl rfl rfl (by omega) (by omega) rfl (by decide) ?_
        | refine WpL.makeBools tabOk rfl rfl rfl (by omega) (by omega) rfl (by decide) ?_
        | refine WpL.makeU8s tabOk rfl rfl rfl (by omega) (by omega) rfl (by decide) ?_)
      | (refine K.st ?_; first
        | refine WpL.storeInts tabOk rfl rfl rfl rfl rfl (by first | omega | (simp; omega)) ?_
        | refine WpL.storeU8s tabOk rfl rfl rfl rfl rfl (by first | omega | (simp; omega)) ?_
        | refine WpL.storeBools tabOk rfl rfl rfl rfl rfl (by first | omega | (simp; omega)) ?_
        | refine WpL.storeStrs tabOk rfl rfl rfl rfl rfl (by first | omega | (simp; omega)) ?_
        | refine WpL.store tabOk rfl rfl rfl rfl rfl rfl rfl rfl (by first | omega | (simp; omega) | (simp; done)) ?_)
      | (refine K.all ?_; first
        | refine WpL.allocStruct tabOk rfl rfl (by decide) ?_
        | refine WpL.allocPlain tabOk rfl rfl rfl (by decide) ?_)
      | (refine K.box ?_; refine WpL.box rfl rfl rfl (by decide) ?_)
      | (refine K.nc ?_; first
        | refine WpL.nilCheckP rfl rfl rfl (by decide) ?_
        | refine WpL.nilCheckI rfl (by decide) ?_)
      | (refine K.sl ?_; first
        | refine WpL.subStr tabOk rfl rfl (by first | exact .inl ⟨rfl, rfl⟩ | exact .inr ⟨_, _, rfl, rfl⟩) (by first | exact .inl ⟨rfl, rfl⟩ | exact .inr ⟨_, _, rfl, rfl⟩) (by omega) (by decide) ?_
        | refine WpL.subImm tabOk rfl rfl (by first | exact .inl ⟨rfl, rfl⟩ | exact .inr ⟨_, _, rfl, rfl⟩) (by first | exact .inl ⟨rfl, rfl⟩ | exact .inr ⟨_, _, rfl, rfl⟩) (by omega) (by decide) ?_)
      | (refine K.gd ?_; first
        | refine K.gT rfl (by decide) rfl ?_
        | refine K.gF rfl (by decide) rfl ?_
        | refine K.gD rfl rfl (fun _ => ?_) (fun _ => ?_)
        | refine K.gN rfl rfl (fun _ => ?_) (fun _ => ?_)
        | refine K.gS rfl rfl (fun _ => ?_) (fun _ => ?_)))
    | refine WpL.nil ?_
    | refine Abs.Seq.n ?_
    | (refine K.A ?_; first
      | refine WpA.seq ?_
      | refine WpA.region ?_
      | (refine K.cond ?_; first
        | refine WpA.condT rfl ?_
        | refine WpA.condF rfl ?_
        | refine WpA.condD rfl (fun _ => ?_) (fun _ => ?_)
        | refine WpA.condN rfl (fun _ => ?_) (fun _ => ?_)
        | refine WpA.condS rfl (fun _ => ?_) (fun _ => ?_))
      | refine WpA.block ?_
      | refine WpA.ret ?_
      | refine WpA.exit ?_
      | refine WpA.skip ?_
      | apply WpA.regionM 1 mixed (by decide +kernel)
      | apply WpA.regionM 2 mixed (by decide +kernel)
      | apply WpA.regionM 3 mixed (by decide +kernel)
      | apply WpA.regionM 4 mixed (by decide +kernel)
      | apply WpA.regionM 5 mixed (by decide +kernel)
      | apply WpA.regionM 6 mixed (by decide +kernel)
      | apply WpA.regionM 7 mixed (by decide +kernel)
      | apply WpA.regionM 8 mixed (by decide +kernel)
      | apply WpA.regionM 9 mixed (by decide +kernel)
      | apply WpA.regionM 10 mixed (by decide +kernel)
      | apply WpA.regionM 11 mixed (by decide +kernel)
      | apply WpA.regionM 12 mixed (by decide +kernel)
      | apply WpA.regionM 13 mixed (by decide +kernel)
      | apply WpA.regionM 14 mixed (by decide +kernel)
      | apply WpA.regionM 15 mixed (by decide +kernel)
      | apply WpA.regionM 16 mixed (by decide +kernel)
      | apply WpA.regionM 17 mixed (by decide +kernel)
      | apply WpA.regionM 18 mixed (by decide +kernel)
      | apply WpA.regionM 19 mixed (by decide +kernel)
      | apply WpA.regionM 20 mixed (by decide +kernel)
      | apply WpA.regionM 21 mixed (by decide +kernel)
      | apply WpA.regionM 22 mixed (by decide +kernel)
      | apply WpA.regionM 23 mixed (by decide +kernel)
      | apply WpA.regionM 24 mixed (by decide +kernel)
      | apply WpA.regionM 25 mixed (by decide +kernel)
      | apply WpA.regionM 26 mixed (by decide +kernel)
      | apply WpA.regionM 27 mixed (by decide +kernel)
      | apply WpA.regionM 28 mixed (by decide +kernel)
      | apply WpA.regionM 29 mixed (by decide +kernel)
      | apply WpA.regionM 30 mixed (by decide +kernel)
      | apply WpA.regionM 31 mixed (by decide +kernel)
      | apply WpA.regionM 32 mixed (by decide +kernel)
      | refine WpA.regionD mixed (by decide +kernel) ?_)
    | refine Abs.Seq.ret ?_
    | refine Abs.Seq.exit ?_
    | refine Blk.n ?_
    | refine Blk.ret ?_
    | refine Blk.exitHere ?_
    | refine Blk.exitOther rfl ?_
    | refine Rnd.ret ?_
    | refine Rnd.exit ?_
    | exact Only.mk rfl
    | exact Abs.HeadJ.nil
    | apply Abs.HeadJ.cons rfl
    | (apply K.depT; simp only [deps, List.toList_toArray, List.filterMap_cons, List.filterMap_nil, Region.binds, if_true, List.nil_append, List.cons_append, List.getElem?_cons_succ, List.getElem?_cons_zero, List.getElem?_nil, reduceCtorEq, Bool.true_or, Bool.or_true]; exact rfl)
    | refine fun Tv => K.L ?_
    | (apply K.appT; simp only [List.nil_append, List.cons_append, List.append_assoc]; exact rfl)
    | (refine K.isTrue ?_; kernel_rfl)
    | exact rfl
    | contradiction
    | omega)
  · refine Abs.Fin.ret (.one (.tmp rfl) .nil (by decide) (.keep ?_ rfl rfl .nil))
    rw [szS, if_pos (by omega)]
  refine WpA.loop (fun k : Nat => ⟨[(0, .imm 1 xs.length (strs xs)), (1, I (left - xs.length - tot (xs.take k))), (5, I k)], []⟩) (fun k => k ≤ xs.length ∧ 0 ≤ left - xs.length - tot (xs.take k)) (fun k => xs.length - k) 0 (by simp [tot]; omega) ?_ (fun k hk => ?_)
  · exact Weak.mk (by repeat (first | exact ReT.nil | refine ReT.cons (.keep rfl rfl .nil) ?_ | refine ReT.cons (.own rfl rfl rfl rfl rfl rfl .nil) ?_ | refine ReT.cons (.ptr rfl rfl rfl rfl .nil) ?_ | refine ReT.cons (.keep (congrArg (fun z => AV.sc (Value.int .i64 z)) (by first | omega | (simp [tot]))) rfl .nil) ?_ | refine ReT.cons (.keep (congrArg (fun z : List UInt8 => AV.sc (Value.string ⟨z.toArray⟩)) (by simp [tot])) rfl .nil) ?_ | refine ReT.cons (.own rfl rfl rfl rfl rfl (by first | omega | (simp; done) | (simp; omega)) .nil) ?_)) (by repeat (first | exact ReO.nil | refine ReO.cons (Re.same rfl (still_ints _)) (by simp) ?_ | refine ReO.cons (Re.same rfl rfl) (by simp) ?_ | refine ReO.cons (Re.same (by simp [tot]) (still_ints _)) (by simp) ?_ | refine ReO.cons (Re.same (by simp [tot]) (still_u8s _)) (by simp) ?_ | refine ReO.cons (Re.same (by simp [tot]) (still_strs _)) (by simp) ?_)) (Nat.zero_le _)
  have hgl : k < xs.length → (xs.getD k []).length ≤ 9223372036854775807 := fun h => by
    have := hx (xs.getD k []) (by simp [List.getElem?_eq_getElem h])
    exact this
  have hgl' : (xs.getD k []).length ≤ 9223372036854775807 := by
    by_cases h : k < xs.length
    · exact hgl h
    · simp [List.getElem?_eq_none (Nat.le_of_not_lt h)]
  have hgk : (xs.getD (((k : Int).toNat) * 1) []).length = (xs.getD k []).length := by simp
  repeat' (first
    | (refine K.L ?_; first
      | (refine K.mv ?_; refine WpL.move rfl (by decide) ?_)
      | (refine K.call ?_; first
        | fail
        )
      | (refine K.bin ?_; first
        | refine WpL.add rfl rfl (by omega) (by decide) ?_
        | refine WpL.sub rfl rfl (by omega) (by decide) ?_
        | refine WpL.mul rfl rfl (by omega) (by decide) ?_
        | refine WpL.quo rfl rfl (by omega) (by decide) ?_
        | refine WpL.rem rfl rfl (by omega) (by decide) ?_
        | refine WpL.bin rfl rfl rfl (by decide) ?_
        | refine WpL.strAdd rfl rfl (by first | omega | (simp only [List.length_append]; omega)) (by decide) ?_
        | refine WpL.strEq rfl rfl (by decide) ?_
        | refine WpL.strNe rfl rfl (by decide) ?_
        | refine WpL.boolEq (K.tyBool tabOk rfl) rfl rfl (by decide) ?_
        | refine WpL.boolNe (K.tyBool tabOk rfl) rfl rfl (by decide) ?_
        | refine WpL.shl rfl rfl (by first | decide | (simp only [IntKind.bits]; omega)) (by decide) ?_
        | refine WpL.shr rfl rfl (by first | decide | (simp only [IntKind.bits]; omega)) (by decide) ?_)
      | (refine K.ld ?_; first
        | refine WpL.loadInts tabOk rfl rfl rfl (by first | omega | (simp; omega)) (by decide) ?_
        | refine WpL.loadU8s tabOk rfl rfl rfl (by first | omega | (simp; omega)) (by decide) ?_
        | refine WpL.loadStrs tabOk rfl rfl rfl (by first | omega | (simp; omega)) (by decide) ?_
        | refine WpL.loadBools tabOk rfl rfl rfl (by first | omega | (simp; omega)) (by decide) ?_
        | refine WpL.load1 tabOk rfl rfl rfl rfl rfl (by decide) ?_)
      | (refine K.asg ?_; refine WpL.assign rfl (by decide) ?_)
      | (refine K.fld ?_; first
        | refine WpL.fieldI tabOk rfl rfl rfl (by decide) ?_
        | refine WpL.fieldP tabOk rfl rfl rfl rfl rfl (by decide) ?_)
      | (refine K.ixa ?_; first
        | refine WpL.idxI tabOk rfl rfl rfl (by omega) (by decide) ?_
        | refine WpL.idxO tabOk rfl rfl rfl rfl rfl (by omega) (by decide) ?_)
      | (refine K.ix ?_; refine WpL.idxStr tabOk rfl rfl rfl (by omega) (by decide) ?_)
      | (refine K.bi ?_; first
        | refine WpL.lenImm (TabOk.slice tabOk rfl).1 rfl (by decide) ?_
        | refine WpL.lenOwn (TabOk.slice tabOk rfl).1 rfl rfl rfl (by decide) ?_
        | refine WpL.lenNil (TabOk.slice tabOk rfl).1 rfl (by decide) ?_
        | refine WpL.lenStr (K.tyStr tabOk rfl) rfl (by decide) ?_
        | refine WpL.app1Ints tabOk rfl rfl rfl (Nat.zero_le _) rfl rfl (by first | rfl | omega | (simp; done) | (simp; omega)) (by omega) (by decide) ?_
        | refine WpL.appInts tabOk rfl rfl rfl (Nat.zero_le _) rfl rfl (by first | rfl | omega | (simp; done) | (simp; omega)) (by first | rfl | omega | (simp; done) | (simp; omega)) (by omega) (by decide) ?_
        | refine WpL.nil1Ints tabOk rfl rfl rfl rfl (by omega) rfl (by decide) ?_
        | refine WpL.app1U8s tabOk rfl rfl rfl (Nat.zero_le _) rfl rfl (by first | rfl | omega | (simp; done) | (simp; omega)) (by omega) (by decide) ?_
        | refine WpL.appU8s tabOk rfl rfl rfl (Nat.zero_le _) rfl rfl (by first | rfl | omega | (simp; done) | (simp; omega)) (by first | rfl | omega | (simp; done) | (simp; omega)) (by omega) (by decide) ?_
        | refine WpL.nil1U8s tabOk rfl rfl rfl rfl (by omega) rfl (by decide) ?_
        | refine WpL.app1Strs tabOk rfl rfl rfl (Nat.zero_le _) rfl rfl (by first | rfl | omega | (simp; done) | (simp; omega)) (by omega) (by decide) ?_
        | refine WpL.appStrs tabOk rfl rfl rfl (Nat.zero_le _) rfl rfl (by first | rfl | omega | (simp; done) | (simp; omega)) (by first | rfl | omega | (simp; done) | (simp; omega)) (by omega) (by decide) ?_
        | refine WpL.nil1Strs tabOk rfl rfl rfl rfl (by omega) rfl (by decide) ?_
        | refine WpL.appOwn tabOk rfl rfl rfl rfl rfl rfl (by simp) (Nat.zero_le _) rfl rfl (by simp) (by simp [all_ints, all_u8s, all_strs, oneB, Value.oneCell']) (by omega) (by decide) ?_
        | refine WpL.appNil tabOk rfl rfl rfl rfl (by simp) (by simp [all_ints, all_u8s, all_strs, oneB, Value.oneCell']) (by omega) rfl (by decide) ?_
        | refine WpL.min2 rfl rfl (by decide) ?_
        | refine WpL.max2 rfl rfl (by decide) ?_)
      | (refine K.un ?_; first
        | refine WpL.not rfl (by decide) ?_
        | refine WpL.neg rfl (by omega) (by decide) ?_)
      | (refine K.pick ?_; first
        | refine WpL.pickT rfl rfl (by decide) ?_
        | refine WpL.pickF rfl rfl (by decide) ?_)
      | (refine K.ext ?_; refine WpL.extract rfl rfl (by first | decide | simp [AV.shL]) (by decide) ?_)
      | (refine K.cv ?_; first
        | refine WpL.convI (P := Try.prog) (by rfl) (K.tyInt tabOk rfl) rfl (by omega) (by decide) ?_
        | refine WpL.conv (P := Try.prog) (by rfl) (K.tyInt tabOk rfl) rfl (by decide) ?_
        | refine WpL.toBytes tabOk rfl rfl rfl rfl (by omega) rfl (by decide) ?_
        | refine WpL.ofBytes tabOk rfl rfl rfl rfl rfl (by simp) (by decide) ?_)
      | (refine K.lit ?_; first
        | refine WpL.lit0U8s tabOk rfl rfl rfl (by decide) ?_
        | refine WpL.lit0Ints tabOk rfl rfl rfl (by decide) ?_
        | refine WpL.lit0Bools tabOk rfl rfl rfl (by decide) ?_
        | refine WpL.lit0Strs tabOk rfl rfl rfl (by decide) ?_
        | refine WpL.litF tabOk rfl rfl rfl rfl (by decide) rfl (by decide) ?_)
      | (refine K.ms ?_; first
        | refine WpL.makeInts tabOk rfl rfl rfl (by omega) (by omega) rfl (by decide) ?_
        | refine WpL.makeStrs tabOk rfl rfl rfl (by omega) (by omega) rfl (by decide) ?_
        | refine WpL.makeBools tabOk rfl rfl rfl (by omega) (by omega) rfl (by decide) ?_
        | refine WpL.makeU8s tabOk rfl rfl rfl (by omega) (by omega) rfl (by decide) ?_)
      | (refine K.st ?_; first
        | refine WpL.storeInts tabOk rfl rfl rfl rfl rfl (by first | omega | (simp; omega)) ?_
        | refine WpL.storeU8s tabOk rfl rfl rfl rfl rfl (by first | omega | (simp; omega)) ?_
        | refine WpL.storeBools tabOk rfl rfl rfl rfl rfl (by first | omega | (simp; omega)) ?_
        | refine WpL.storeStrs tabOk rfl rfl rfl rfl rfl (by first | omega | (simp; omega)) ?_
        | refine WpL.store tabOk rfl rfl rfl rfl rfl rfl rfl rfl (by first | omega | (simp; omega) | (simp; done)) ?_)
      | (refine K.all ?_; first
        | refine WpL.allocStruct tabOk rfl rfl (by decide) ?_
        | refine WpL.allocPlain tabOk rfl rfl rfl (by decide) ?_)
      | (refine K.box ?_; refine WpL.box rfl rfl rfl (by decide) ?_)
      | (refine K.nc ?_; first
        | refine WpL.nilCheckP rfl rfl rfl (by decide) ?_
        | refine WpL.nilCheckI rfl (by decide) ?_)
      | (refine K.sl ?_; first
        | refine WpL.subStr tabOk rfl rfl (by first | exact .inl ⟨rfl, rfl⟩ | exact .inr ⟨_, _, rfl, rfl⟩) (by first | exact .inl ⟨rfl, rfl⟩ | exact .inr ⟨_, _, rfl, rfl⟩) (by omega) (by decide) ?_
        | refine WpL.subImm tabOk rfl rfl (by first | exact .inl ⟨rfl, rfl⟩ | exact .inr ⟨_, _, rfl, rfl⟩) (by first | exact .inl ⟨rfl, rfl⟩ | exact .inr ⟨_, _, rfl, rfl⟩) (by omega) (by decide) ?_)
      | (refine K.gd ?_; first
        | refine K.gT rfl (by decide) rfl ?_
        | refine K.gF rfl (by decide) rfl ?_
        | refine K.gD rfl rfl (fun _ => ?_) (fun _ => ?_)
        | refine K.gN rfl rfl (fun _ => ?_) (fun _ => ?_)
        | refine K.gS rfl rfl (fun _ => ?_) (fun _ => ?_)))
    | refine WpL.nil ?_
    | refine Abs.Seq.n ?_
    | (refine K.A ?_; first
      | refine WpA.seq ?_
      | refine WpA.region ?_
      | (refine K.cond ?_; first
        | refine WpA.condT rfl ?_
        | refine WpA.condF rfl ?_
        | refine WpA.condD rfl (fun _ => ?_) (fun _ => ?_)
        | refine WpA.condN rfl (fun _ => ?_) (fun _ => ?_)
        | refine WpA.condS rfl (fun _ => ?_) (fun _ => ?_))
      | refine WpA.block ?_
      | refine WpA.ret ?_
      | refine WpA.exit ?_
      | refine WpA.skip ?_
      | apply WpA.regionM 1 mixed (by decide +kernel)
      | apply WpA.regionM 2 mixed (by decide +kernel)
      | apply WpA.regionM 3 mixed (by decide +kernel)
      | apply WpA.regionM 4 mixed (by decide +kernel)
      | apply WpA.regionM 5 mixed (by decide +kernel)
      | apply WpA.regionM 6 mixed (by decide +kernel)
      | apply WpA.regionM 7 mixed (by decide +kernel)
      | apply WpA.regionM 8 mixed (by decide +kernel)
      | apply WpA.regionM 9 mixed (by decide +kernel)
      | apply WpA.regionM 10 mixed (by decide +kernel)
      | apply WpA.regionM 11 mixed (by decide +kernel)
      | apply WpA.regionM 12 mixed (by decide +kernel)
      | apply WpA.regionM 13 mixed (by decide +kernel)
      | apply WpA.regionM 14 mixed (by decide +kernel)
      | apply WpA.regionM 15 mixed (by decide +kernel)
      | apply WpA.regionM 16 mixed (by decide +kernel)
      | apply WpA.regionM 17 mixed (by decide +kernel)
      | apply WpA.regionM 18 mixed (by decide +kernel)
      | apply WpA.regionM 19 mixed (by decide +kernel)
      | apply WpA.regionM 20 mixed (by decide +kernel)
      | apply WpA.regionM 21 mixed (by decide +kernel)
      | apply WpA.regionM 22 mixed (by decide +kernel)
      | apply WpA.regionM 23 mixed (by decide +kernel)
      | apply WpA.regionM 24 mixed (by decide +kernel)
      | apply WpA.regionM 25 mixed (by decide +kernel)
      | apply WpA.regionM 26 mixed (by decide +kernel)
      | apply WpA.regionM 27 mixed (by decide +kernel)
      | apply WpA.regionM 28 mixed (by decide +kernel)
      | apply WpA.regionM 29 mixed (by decide +kernel)
      | apply WpA.regionM 30 mixed (by decide +kernel)
      | apply WpA.regionM 31 mixed (by decide +kernel)
      | apply WpA.regionM 32 mixed (by decide +kernel)
      | refine WpA.regionD mixed (by decide +kernel) ?_)
    | refine Abs.Seq.ret ?_
    | refine Abs.Seq.exit ?_
    | refine Blk.n ?_
    | refine Blk.ret ?_
    | refine Blk.exitHere ?_
    | refine Blk.exitOther rfl ?_
    | refine Rnd.ret ?_
    | refine Rnd.exit ?_
    | exact Only.mk rfl
    | exact Abs.HeadJ.nil
    | apply Abs.HeadJ.cons rfl
    | (apply K.depT; simp only [deps, List.toList_toArray, List.filterMap_cons, List.filterMap_nil, Region.binds, if_true, List.nil_append, List.cons_append, List.getElem?_cons_succ, List.getElem?_cons_zero, List.getElem?_nil, reduceCtorEq, Bool.true_or, Bool.or_true]; exact rfl)
    | refine fun Tv => K.L ?_
    | (apply K.appT; simp only [List.nil_append, List.cons_append, List.append_assoc]; exact rfl)
    | (refine K.isTrue ?_; kernel_rfl)
    | exact rfl
    | contradiction
    | omega)
  · refine Abs.Fin.ret (.one (.tmp rfl) .nil (by decide) (.keep ?_ rfl rfl .nil))
    have := tot_snoc xs k (by omega)
    have := tot_take xs (k + 1)
    rw [szS, if_pos (by omega)]
  · have := tot_snoc xs k (by omega)
    refine Rnd.go (k + 1) ⟨by omega, by (try dsimp only); omega⟩ (by (try dsimp only); omega) ?_
    exact Weak.mk (by repeat (first | exact ReT.nil | refine ReT.cons (.keep rfl rfl .nil) ?_ | refine ReT.cons (.own rfl rfl rfl rfl rfl rfl .nil) ?_ | refine ReT.cons (.ptr rfl rfl rfl rfl .nil) ?_ | refine ReT.cons (.keep (congrArg (fun z => AV.sc (Value.int .i64 z)) (by first | omega | (omega))) rfl .nil) ?_ | refine ReT.cons (.keep (congrArg (fun z : List UInt8 => AV.sc (Value.string ⟨z.toArray⟩)) (by omega)) rfl .nil) ?_ | refine ReT.cons (.own rfl rfl rfl rfl rfl (by first | omega | (simp; done) | (simp; omega)) .nil) ?_)) (by repeat (first | exact ReO.nil | refine ReO.cons (Re.same rfl (still_ints _)) (by simp) ?_ | refine ReO.cons (Re.same rfl rfl) (by simp) ?_ | refine ReO.cons (Re.same (by omega) (still_ints _)) (by simp) ?_ | refine ReO.cons (Re.same (by omega) (still_u8s _)) (by simp) ?_ | refine ReO.cons (Re.same (by omega) (still_strs _)) (by simp) ?_)) (Nat.zero_le _)
  · refine Abs.Fin.ret (.one (.tmp rfl) .nil (by decide) (.keep ?_ rfl rfl .nil))
    have : k = xs.length := by omega
    subst this
    simp only [List.take_length] at hk ⊢
    rw [szS, if_neg (by omega)]

theorem fills_step (xs : List (List UInt8)) (k : Nat) (h : k < xs.length) : (xs.take k ++ List.replicate (xs.length - k) []).set k (xs.getD k []) = xs.take (k + 1) ++ List.replicate (xs.length - (k + 1)) [] := by
  have e := List.take_succ_eq_append_getElem h
  rw [List.set_append_right _ _ (by simp; omega), e]
  obtain ⟨m, hm⟩ : ∃ m, xs.length - k = m + 1 := ⟨xs.length - k - 1, by omega⟩
  rw [hm, show xs.length - (k + 1) = m from by omega, List.replicate_succ]
  simp only [List.length_take, show min k xs.length = k from by omega, Nat.sub_self, List.set_cons_zero, List.getD_eq_getElem?_getD, List.getElem?_eq_getElem h, Option.getD_some, List.append_assoc, List.cons_append, List.nil_append]

theorem toStringS_c (xs : List (List UInt8)) (hl : xs.length ≤ 1048576) : FnC Try.prog 19 [.imm 1 xs.length (strs xs)] [⟨strs xs, 0, 1, some 9⟩] (.own 0 0 0 xs.length) := by
  refine FnC.of_body tabOk Try.func19 Try.ntmps19 rfl (by decide +kernel) (by simp) fun G => ?_
  repeat' (first
    | (refine K.L ?_; first
      | (refine K.mv ?_; refine WpL.move rfl (by decide) ?_)
      | (refine K.call ?_; first
        | fail
        )
      | (refine K.bin ?_; first
        | refine WpL.add rfl rfl (by omega) (by decide) ?_
        | refine WpL.sub rfl rfl (by omega) (by decide) ?_
        | refine WpL.mul rfl rfl (by omega) (by decide) ?_
        | refine WpL.quo rfl rfl (by omega) (by decide) ?_
        | refine WpL.rem rfl rfl (by omega) (by decide) ?_
        | refine WpL.bin rfl rfl rfl (by decide) ?_
        | refine WpL.strAdd rfl rfl (by first | omega | (simp only [List.length_append]; omega)) (by decide) ?_
        | refine WpL.strEq rfl rfl (by decide) ?_
        | refine WpL.strNe rfl rfl (by decide) ?_
        | refine WpL.boolEq (K.tyBool tabOk rfl) rfl rfl (by decide) ?_
        | refine WpL.boolNe (K.tyBool tabOk rfl) rfl rfl (by decide) ?_
        | refine WpL.shl rfl rfl (by first | decide | (simp only [IntKind.bits]; omega)) (by decide) ?_
        | refine WpL.shr rfl rfl (by first | decide | (simp only [IntKind.bits]; omega)) (by decide) ?_)
      | (refine K.ld ?_; first
        | refine WpL.loadInts tabOk rfl rfl rfl (by first | omega | (simp; omega)) (by decide) ?_
        | refine WpL.loadU8s tabOk rfl rfl rfl (by first | omega | (simp; omega)) (by decide) ?_
        | refine WpL.loadStrs tabOk rfl rfl rfl (by first | omega | (simp; omega)) (by decide) ?_
        | refine WpL.loadBools tabOk rfl rfl rfl (by first | omega | (simp; omega)) (by decide) ?_
        | refine WpL.load1 tabOk rfl rfl rfl rfl rfl (by decide) ?_)
      | (refine K.asg ?_; refine WpL.assign rfl (by decide) ?_)
      | (refine K.fld ?_; first
        | refine WpL.fieldI tabOk rfl rfl rfl (by decide) ?_
        | refine WpL.fieldP tabOk rfl rfl rfl rfl rfl (by decide) ?_)
      | (refine K.ixa ?_; first
        | refine WpL.idxI tabOk rfl rfl rfl (by omega) (by decide) ?_
        | refine WpL.idxO tabOk rfl rfl rfl rfl rfl (by omega) (by decide) ?_)
      | (refine K.ix ?_; refine WpL.idxStr tabOk rfl rfl rfl (by omega) (by decide) ?_)
      | (refine K.bi ?_; first
        | refine WpL.lenImm (TabOk.slice tabOk rfl).1 rfl (by decide) ?_
        | refine WpL.lenOwn (TabOk.slice tabOk rfl).1 rfl rfl rfl (by decide) ?_
        | refine WpL.lenNil (TabOk.slice tabOk rfl).1 rfl (by decide) ?_
        | refine WpL.lenStr (K.tyStr tabOk rfl) rfl (by decide) ?_
        | refine WpL.app1Ints tabOk rfl rfl rfl (Nat.zero_le _) rfl rfl (by first | rfl | omega | (simp; done) | (simp; omega)) (by omega) (by decide) ?_
        | refine WpL.appInts tabOk rfl rfl rfl (Nat.zero_le _) rfl rfl (by first | rfl | omega | (simp; done) | (simp; omega)) (by first | rfl | omega | (simp; done) | (simp; omega)) (by omega) (by decide) ?_
        | refine WpL.nil1Ints tabOk rfl rfl rfl rfl (by omega) rfl (by decide) ?_
        | refine WpL.app1U8s tabOk rfl rfl rfl (Nat.zero_le _) rfl rfl (by first | rfl | omega | (simp; done) | (simp; omega)) (by omega) (by decide) ?_
        | refine WpL.appU8s tabOk rfl rfl rfl (Nat.zero_le _) rfl rfl (by first | rfl | omega | (simp; done) | (simp; omega)) (by first | rfl | omega | (simp; done) | (simp; omega)) (by omega) (by decide) ?_
        | refine WpL.nil1U8s tabOk rfl rfl rfl rfl (by omega) rfl (by decide) ?_
        | refine WpL.app1Strs tabOk rfl rfl rfl (Nat.zero_le _) rfl rfl (by first | rfl | omega | (simp; done) | (simp; omega)) (by omega) (by decide) ?_
        | refine WpL.appStrs tabOk rfl rfl rfl (Nat.zero_le _) rfl rfl (by first | rfl | omega | (simp; done) | (simp; omega)) (by first | rfl | omega | (simp; done) | (simp; omega)) (by omega) (by decide) ?_
        | refine WpL.nil1Strs tabOk rfl rfl rfl rfl (by omega) rfl (by decide) ?_
        | refine WpL.appOwn tabOk rfl rfl rfl rfl rfl rfl (by simp) (Nat.zero_le _) rfl rfl (by simp) (by simp [all_ints, all_u8s, all_strs, oneB, Value.oneCell']) (by omega) (by decide) ?_
        | refine WpL.appNil tabOk rfl rfl rfl rfl (by simp) (by simp [all_ints, all_u8s, all_strs, oneB, Value.oneCell']) (by omega) rfl (by decide) ?_
        | refine WpL.min2 rfl rfl (by decide) ?_
        | refine WpL.max2 rfl rfl (by decide) ?_)
      | (refine K.un ?_; first
        | refine WpL.not rfl (by decide) ?_
        | refine WpL.neg rfl (by omega) (by decide) ?_)
      | (refine K.pick ?_; first
        | refine WpL.pickT rfl rfl (by decide) ?_
        | refine WpL.pickF rfl rfl (by decide) ?_)
      | (refine K.ext ?_; refine WpL.extract rfl rfl (by first | decide | simp [AV.shL]) (by decide) ?_)
      | (refine K.cv ?_; first
        | refine WpL.convI (P := Try.prog) (by rfl) (K.tyInt tabOk rfl) rfl (by omega) (by decide) ?_
        | refine WpL.conv (P := Try.prog) (by rfl) (K.tyInt tabOk rfl) rfl (by decide) ?_
        | refine WpL.toBytes tabOk rfl rfl rfl rfl (by omega) rfl (by decide) ?_
        | refine WpL.ofBytes tabOk rfl rfl rfl rfl rfl (by simp) (by decide) ?_)
      | (refine K.lit ?_; first
        | refine WpL.lit0U8s tabOk rfl rfl rfl (by decide) ?_
        | refine WpL.lit0Ints tabOk rfl rfl rfl (by decide) ?_
        | refine WpL.lit0Bools tabOk rfl rfl rfl (by decide) ?_
        | refine WpL.lit0Strs tabOk rfl rfl rfl (by decide) ?_
        | refine WpL.litF tabOk rfl rfl rfl rfl (by decide) rfl (by decide) ?_)
      | (refine K.ms ?_; first
        | refine WpL.makeInts tabOk rfl rfl rfl (by omega) (by omega) rfl (by decide) ?_
        | refine WpL.makeStrs tabOk rfl rfl rfl (by omega) (by omega) rfl (by decide) ?_
        | refine WpL.makeBools tabOk rfl rfl rfl (by omega) (by omega) rfl (by decide) ?_
        | refine WpL.makeU8s tabOk rfl rfl rfl (by omega) (by omega) rfl (by decide) ?_)
      | (refine K.st ?_; first
        | refine WpL.storeInts tabOk rfl rfl rfl rfl rfl (by first | omega | (simp; omega)) ?_
        | refine WpL.storeU8s tabOk rfl rfl rfl rfl rfl (by first | omega | (simp; omega)) ?_
        | refine WpL.storeBools tabOk rfl rfl rfl rfl rfl (by first | omega | (simp; omega)) ?_
        | refine WpL.storeStrs tabOk rfl rfl rfl rfl rfl (by first | omega | (simp; omega)) ?_
        | refine WpL.store tabOk rfl rfl rfl rfl rfl rfl rfl rfl (by first | omega | (simp; omega) | (simp; done)) ?_)
      | (refine K.all ?_; first
        | refine WpL.allocStruct tabOk rfl rfl (by decide) ?_
        | refine WpL.allocPlain tabOk rfl rfl rfl (by decide) ?_)
      | (refine K.box ?_; refine WpL.box rfl rfl rfl (by decide) ?_)
      | (refine K.nc ?_; first
        | refine WpL.nilCheckP rfl rfl rfl (by decide) ?_
        | refine WpL.nilCheckI rfl (by decide) ?_)
      | (refine K.sl ?_; first
        | refine WpL.subStr tabOk rfl rfl (by first | exact .inl ⟨rfl, rfl⟩ | exact .inr ⟨_, _, rfl, rfl⟩) (by first | exact .inl ⟨rfl, rfl⟩ | exact .inr ⟨_, _, rfl, rfl⟩) (by omega) (by decide) ?_
        | refine WpL.subImm tabOk rfl rfl (by first | exact .inl ⟨rfl, rfl⟩ | exact .inr ⟨_, _, rfl, rfl⟩) (by first | exact .inl ⟨rfl, rfl⟩ | exact .inr ⟨_, _, rfl, rfl⟩) (by omega) (by decide) ?_)
      | (refine K.gd ?_; first
        | refine K.gT rfl (by decide) rfl ?_
        | refine K.gF rfl (by decide) rfl ?_
        | refine K.gD rfl rfl (fun _ => ?_) (fun _ => ?_)
        | refine K.gN rfl rfl (fun _ => ?_) (fun _ => ?_)
        | refine K.gS rfl rfl (fun _ => ?_) (fun _ => ?_)))
    | refine WpL.nil ?_
    | refine Abs.Seq.n ?_
    | (refine K.A ?_; first
      | refine WpA.seq ?_
      | refine WpA.region ?_
      | (refine K.cond ?_; first
        | refine WpA.condT rfl ?_
        | refine WpA.condF rfl ?_
        | refine WpA.condD rfl (fun _ => ?_) (fun _ => ?_)
        | refine WpA.condN rfl (fun _ => ?_) (fun _ => ?_)
        | refine WpA.condS rfl (fun _ => ?_) (fun _ => ?_))
      | refine WpA.block ?_
      | refine WpA.ret ?_
      | refine WpA.exit ?_
      | refine WpA.skip ?_
      | apply WpA.regionM 1 mixed (by decide +kernel)
      | apply WpA.regionM 2 mixed (by decide +kernel)
      | apply WpA.regionM 3 mixed (by decide +kernel)
      | apply WpA.regionM 4 mixed (by decide +kernel)
      | apply WpA.regionM 5 mixed (by decide +kernel)
      | apply WpA.regionM 6 mixed (by decide +kernel)
      | apply WpA.regionM 7 mixed (by decide +kernel)
      | apply WpA.regionM 8 mixed (by decide +kernel)
      | apply WpA.regionM 9 mixed (by decide +kernel)
      | apply WpA.regionM 10 mixed (by decide +kernel)
      | apply WpA.regionM 11 mixed (by decide +kernel)
      | apply WpA.regionM 12 mixed (by decide +kernel)
      | apply WpA.regionM 13 mixed (by decide +kernel)
      | apply WpA.regionM 14 mixed (by decide +kernel)
      | apply WpA.regionM 15 mixed (by decide +kernel)
      | apply WpA.regionM 16 mixed (by decide +kernel)
      | apply WpA.regionM 17 mixed (by decide +kernel)
      | apply WpA.regionM 18 mixed (by decide +kernel)
      | apply WpA.regionM 19 mixed (by decide +kernel)
      | apply WpA.regionM 20 mixed (by decide +kernel)
      | apply WpA.regionM 21 mixed (by decide +kernel)
      | apply WpA.regionM 22 mixed (by decide +kernel)
      | apply WpA.regionM 23 mixed (by decide +kernel)
      | apply WpA.regionM 24 mixed (by decide +kernel)
      | apply WpA.regionM 25 mixed (by decide +kernel)
      | apply WpA.regionM 26 mixed (by decide +kernel)
      | apply WpA.regionM 27 mixed (by decide +kernel)
      | apply WpA.regionM 28 mixed (by decide +kernel)
      | apply WpA.regionM 29 mixed (by decide +kernel)
      | apply WpA.regionM 30 mixed (by decide +kernel)
      | apply WpA.regionM 31 mixed (by decide +kernel)
      | apply WpA.regionM 32 mixed (by decide +kernel)
      | refine WpA.regionD mixed (by decide +kernel) ?_)
    | refine Abs.Seq.ret ?_
    | refine Abs.Seq.exit ?_
    | refine Blk.n ?_
    | refine Blk.ret ?_
    | refine Blk.exitHere ?_
    | refine Blk.exitOther rfl ?_
    | refine Rnd.ret ?_
    | refine Rnd.exit ?_
    | exact Only.mk rfl
    | exact Abs.HeadJ.nil
    | apply Abs.HeadJ.cons rfl
    | (apply K.depT; simp only [deps, List.toList_toArray, List.filterMap_cons, List.filterMap_nil, Region.binds, if_true, List.nil_append, List.cons_append, List.getElem?_cons_succ, List.getElem?_cons_zero, List.getElem?_nil, reduceCtorEq, Bool.true_or, Bool.or_true]; exact rfl)
    | refine fun Tv => K.L ?_
    | (apply K.appT; simp only [List.nil_append, List.cons_append, List.append_assoc]; exact rfl)
    | (refine K.isTrue ?_; kernel_rfl)
    | exact rfl
    | contradiction
    | omega)
  refine WpA.loop (fun k : Nat => ⟨[(0, .imm 1 xs.length (strs xs)), (3, .own 0 0 0 xs.length), (4, I k)], [⟨strs (xs.take k ++ List.replicate (xs.length - k) []), 0, 1, some 9⟩]⟩) (fun k => k ≤ xs.length) (fun k => xs.length - k) 0 (by omega) ?_ (fun k hk => ?_)
  · exact Weak.mk (by repeat (first | exact ReT.nil | refine ReT.cons (.keep rfl rfl .nil) ?_ | refine ReT.cons (.own rfl rfl rfl rfl rfl rfl .nil) ?_ | refine ReT.cons (.ptr rfl rfl rfl rfl .nil) ?_ | refine ReT.cons (.keep (congrArg (fun z => AV.sc (Value.int .i64 z)) (by first | omega | (simp))) rfl .nil) ?_ | refine ReT.cons (.keep (congrArg (fun z : List UInt8 => AV.sc (Value.string ⟨z.toArray⟩)) (by simp)) rfl .nil) ?_ | refine ReT.cons (.own rfl rfl rfl rfl rfl (by first | omega | (simp; done) | (simp; omega)) .nil) ?_)) (by repeat (first | exact ReO.nil | refine ReO.cons (Re.same rfl (still_ints _)) (by simp) ?_ | refine ReO.cons (Re.same rfl rfl) (by simp) ?_ | refine ReO.cons (Re.same (by simp) (still_ints _)) (by simp) ?_ | refine ReO.cons (Re.same (by simp) (still_u8s _)) (by simp) ?_ | refine ReO.cons (Re.same (by simp) (still_strs _)) (by simp) ?_)) (Nat.zero_le _)
  have hll : (strs (xs.take k ++ List.replicate (xs.length - k) [])).length = xs.length := by simp [strs]; omega
  repeat' (first
    | (refine K.L ?_; first
      | (refine K.mv ?_; refine WpL.move rfl (by decide) ?_)
      | (refine K.call ?_; first
        | fail
        )
      | (refine K.bin ?_; first
        | refine WpL.add rfl rfl (by omega) (by decide) ?_
        | refine WpL.sub rfl rfl (by omega) (by decide) ?_
        | refine WpL.mul rfl rfl (by omega) (by decide) ?_
        | refine WpL.quo rfl rfl (by omega) (by decide) ?_
        | refine WpL.rem rfl rfl (by omega) (by decide) ?_
        | refine WpL.bin rfl rfl rfl (by decide) ?_
        | refine WpL.strAdd rfl rfl (by first | omega | (simp only [List.length_append]; omega)) (by decide) ?_
        | refine WpL.strEq rfl rfl (by decide) ?_
        | refine WpL.strNe rfl rfl (by decide) ?_
        | refine WpL.boolEq (K.tyBool tabOk rfl) rfl rfl (by decide) ?_
        | refine WpL.boolNe (K.tyBool tabOk rfl) rfl rfl (by decide) ?_
        | refine WpL.shl rfl rfl (by first | decide | (simp only [IntKind.bits]; omega)) (by decide) ?_
        | refine WpL.shr rfl rfl (by first | decide | (simp only [IntKind.bits]; omega)) (by decide) ?_)
      | (refine K.ld ?_; first
        | refine WpL.loadInts tabOk rfl rfl rfl (by first | omega | (simp; omega)) (by decide) ?_
        | refine WpL.loadU8s tabOk rfl rfl rfl (by first | omega | (simp; omega)) (by decide) ?_
        | refine WpL.loadStrs tabOk rfl rfl rfl (by first | omega | (simp; omega)) (by decide) ?_
        | refine WpL.loadBools tabOk rfl rfl rfl (by first | omega | (simp; omega)) (by decide) ?_
        | refine WpL.load1 tabOk rfl rfl rfl rfl rfl (by decide) ?_)
      | (refine K.asg ?_; refine WpL.assign rfl (by decide) ?_)
      | (refine K.fld ?_; first
        | refine WpL.fieldI tabOk rfl rfl rfl (by decide) ?_
        | refine WpL.fieldP tabOk rfl rfl rfl rfl rfl (by decide) ?_)
      | (refine K.ixa ?_; first
        | refine WpL.idxI tabOk rfl rfl rfl (by omega) (by decide) ?_
        | refine WpL.idxO tabOk rfl rfl rfl rfl rfl (by omega) (by decide) ?_)
      | (refine K.ix ?_; refine WpL.idxStr tabOk rfl rfl rfl (by omega) (by decide) ?_)
      | (refine K.bi ?_; first
        | refine WpL.lenImm (TabOk.slice tabOk rfl).1 rfl (by decide) ?_
        | refine WpL.lenOwn (TabOk.slice tabOk rfl).1 rfl rfl rfl (by decide) ?_
        | refine WpL.lenNil (TabOk.slice tabOk rfl).1 rfl (by decide) ?_
        | refine WpL.lenStr (K.tyStr tabOk rfl) rfl (by decide) ?_
        | refine WpL.app1Ints tabOk rfl rfl rfl (Nat.zero_le _) rfl rfl (by first | rfl | omega | (simp; done) | (simp; omega)) (by omega) (by decide) ?_
        | refine WpL.appInts tabOk rfl rfl rfl (Nat.zero_le _) rfl rfl (by first | rfl | omega | (simp; done) | (simp; omega)) (by first | rfl | omega | (simp; done) | (simp; omega)) (by omega) (by decide) ?_
        | refine WpL.nil1Ints tabOk rfl rfl rfl rfl (by omega) rfl (by decide) ?_
        | refine WpL.app1U8s tabOk rfl rfl rfl (Nat.zero_le _) rfl rfl (by first | rfl | omega | (simp; done) | (simp; omega)) (by omega) (by decide) ?_
        | refine WpL.appU8s tabOk rfl rfl rfl (Nat.zero_le _) rfl rfl (by first | rfl | omega | (simp; done) | (simp; omega)) (by first | rfl | omega | (simp; done) | (simp; omega)) (by omega) (by decide) ?_
        | refine WpL.nil1U8s tabOk rfl rfl rfl rfl (by omega) rfl (by decide) ?_
        | refine WpL.app1Strs tabOk rfl rfl rfl (Nat.zero_le _) rfl rfl (by first | rfl | omega | (simp; done) | (simp; omega)) (by omega) (by decide) ?_
        | refine WpL.appStrs tabOk rfl rfl rfl (Nat.zero_le _) rfl rfl (by first | rfl | omega | (simp; done) | (simp; omega)) (by first | rfl | omega | (simp; done) | (simp; omega)) (by omega) (by decide) ?_
        | refine WpL.nil1Strs tabOk rfl rfl rfl rfl (by omega) rfl (by decide) ?_
        | refine WpL.appOwn tabOk rfl rfl rfl rfl rfl rfl (by simp) (Nat.zero_le _) rfl rfl (by simp) (by simp [all_ints, all_u8s, all_strs, oneB, Value.oneCell']) (by omega) (by decide) ?_
        | refine WpL.appNil tabOk rfl rfl rfl rfl (by simp) (by simp [all_ints, all_u8s, all_strs, oneB, Value.oneCell']) (by omega) rfl (by decide) ?_
        | refine WpL.min2 rfl rfl (by decide) ?_
        | refine WpL.max2 rfl rfl (by decide) ?_)
      | (refine K.un ?_; first
        | refine WpL.not rfl (by decide) ?_
        | refine WpL.neg rfl (by omega) (by decide) ?_)
      | (refine K.pick ?_; first
        | refine WpL.pickT rfl rfl (by decide) ?_
        | refine WpL.pickF rfl rfl (by decide) ?_)
      | (refine K.ext ?_; refine WpL.extract rfl rfl (by first | decide | simp [AV.shL]) (by decide) ?_)
      | (refine K.cv ?_; first
        | refine WpL.convI (P := Try.prog) (by rfl) (K.tyInt tabOk rfl) rfl (by omega) (by decide) ?_
        | refine WpL.conv (P := Try.prog) (by rfl) (K.tyInt tabOk rfl) rfl (by decide) ?_
        | refine WpL.toBytes tabOk rfl rfl rfl rfl (by omega) rfl (by decide) ?_
        | refine WpL.ofBytes tabOk rfl rfl rfl rfl rfl (by simp) (by decide) ?_)
      | (refine K.lit ?_; first
        | refine WpL.lit0U8s tabOk rfl rfl rfl (by decide) ?_
        | refine WpL.lit0Ints tabOk rfl rfl rfl (by decide) ?_
        | refine WpL.lit0Bools tabOk rfl rfl rfl (by decide) ?_
        | refine WpL.lit0Strs tabOk rfl rfl rfl (by decide) ?_
        | refine WpL.litF tabOk rfl rfl rfl rfl (by decide) rfl (by decide) ?_)
      | (refine K.ms ?_; first
        | refine WpL.makeInts tabOk rfl rfl rfl (by omega) (by omega) rfl (by decide) ?_
        | refine WpL.makeStrs tabOk rfl rfl rfl (by omega) (by omega) rfl (by decide) ?_
        | refine WpL.makeBools tabOk rfl rfl rfl (by omega) (by omega) rfl (by decide) ?_
        | refine WpL.makeU8s tabOk rfl rfl rfl (by omega) (by omega) rfl (by decide) ?_)
      | (refine K.st ?_; first
        | refine WpL.storeInts tabOk rfl rfl rfl rfl rfl (by first | omega | (simp; omega)) ?_
        | refine WpL.storeU8s tabOk rfl rfl rfl rfl rfl (by first | omega | (simp; omega)) ?_
        | refine WpL.storeBools tabOk rfl rfl rfl rfl rfl (by first | omega | (simp; omega)) ?_
        | refine WpL.storeStrs tabOk rfl rfl rfl rfl rfl (by first | omega | (simp; omega)) ?_
        | refine WpL.store tabOk rfl rfl rfl rfl rfl rfl rfl rfl (by first | omega | (simp; omega) | (simp; done)) ?_)
      | (refine K.all ?_; first
        | refine WpL.allocStruct tabOk rfl rfl (by decide) ?_
        | refine WpL.allocPlain tabOk rfl rfl rfl (by decide) ?_)
      | (refine K.box ?_; refine WpL.box rfl rfl rfl (by decide) ?_)
      | (refine K.nc ?_; first
        | refine WpL.nilCheckP rfl rfl rfl (by decide) ?_
        | refine WpL.nilCheckI rfl (by decide) ?_)
      | (refine K.sl ?_; first
        | refine WpL.subStr tabOk rfl rfl (by first | exact .inl ⟨rfl, rfl⟩ | exact .inr ⟨_, _, rfl, rfl⟩) (by first | exact .inl ⟨rfl, rfl⟩ | exact .inr ⟨_, _, rfl, rfl⟩) (by omega) (by decide) ?_
        | refine WpL.subImm tabOk rfl rfl (by first | exact .inl ⟨rfl, rfl⟩ | exact .inr ⟨_, _, rfl, rfl⟩) (by first | exact .inl ⟨rfl, rfl⟩ | exact .inr ⟨_, _, rfl, rfl⟩) (by omega) (by decide) ?_)
      | (refine K.gd ?_; first
        | refine K.gT rfl (by decide) rfl ?_
        | refine K.gF rfl (by decide) rfl ?_
        | refine K.gD rfl rfl (fun _ => ?_) (fun _ => ?_)
        | refine K.gN rfl rfl (fun _ => ?_) (fun _ => ?_)
        | refine K.gS rfl rfl (fun _ => ?_) (fun _ => ?_)))
    | refine WpL.nil ?_
    | refine Abs.Seq.n ?_
    | (refine K.A ?_; first
      | refine WpA.seq ?_
      | refine WpA.region ?_
      | (refine K.cond ?_; first
        | refine WpA.condT rfl ?_
        | refine WpA.condF rfl ?_
        | refine WpA.condD rfl (fun _ => ?_) (fun _ => ?_)
        | refine WpA.condN rfl (fun _ => ?_) (fun _ => ?_)
        | refine WpA.condS rfl (fun _ => ?_) (fun _ => ?_))
      | refine WpA.block ?_
      | refine WpA.ret ?_
      | refine WpA.exit ?_
      | refine WpA.skip ?_
      | apply WpA.regionM 1 mixed (by decide +kernel)
      | apply WpA.regionM 2 mixed (by decide +kernel)
      | apply WpA.regionM 3 mixed (by decide +kernel)
      | apply WpA.regionM 4 mixed (by decide +kernel)
      | apply WpA.regionM 5 mixed (by decide +kernel)
      | apply WpA.regionM 6 mixed (by decide +kernel)
      | apply WpA.regionM 7 mixed (by decide +kernel)
      | apply WpA.regionM 8 mixed (by decide +kernel)
      | apply WpA.regionM 9 mixed (by decide +kernel)
      | apply WpA.regionM 10 mixed (by decide +kernel)
      | apply WpA.regionM 11 mixed (by decide +kernel)
      | apply WpA.regionM 12 mixed (by decide +kernel)
      | apply WpA.regionM 13 mixed (by decide +kernel)
      | apply WpA.regionM 14 mixed (by decide +kernel)
      | apply WpA.regionM 15 mixed (by decide +kernel)
      | apply WpA.regionM 16 mixed (by decide +kernel)
      | apply WpA.regionM 17 mixed (by decide +kernel)
      | apply WpA.regionM 18 mixed (by decide +kernel)
      | apply WpA.regionM 19 mixed (by decide +kernel)
      | apply WpA.regionM 20 mixed (by decide +kernel)
      | apply WpA.regionM 21 mixed (by decide +kernel)
      | apply WpA.regionM 22 mixed (by decide +kernel)
      | apply WpA.regionM 23 mixed (by decide +kernel)
      | apply WpA.regionM 24 mixed (by decide +kernel)
      | apply WpA.regionM 25 mixed (by decide +kernel)
      | apply WpA.regionM 26 mixed (by decide +kernel)
      | apply WpA.regionM 27 mixed (by decide +kernel)
      | apply WpA.regionM 28 mixed (by decide +kernel)
      | apply WpA.regionM 29 mixed (by decide +kernel)
      | apply WpA.regionM 30 mixed (by decide +kernel)
      | apply WpA.regionM 31 mixed (by decide +kernel)
      | apply WpA.regionM 32 mixed (by decide +kernel)
      | refine WpA.regionD mixed (by decide +kernel) ?_)
    | refine Abs.Seq.ret ?_
    | refine Abs.Seq.exit ?_
    | refine Blk.n ?_
    | refine Blk.ret ?_
    | refine Blk.exitHere ?_
    | refine Blk.exitOther rfl ?_
    | refine Rnd.ret ?_
    | refine Rnd.exit ?_
    | exact Only.mk rfl
    | exact Abs.HeadJ.nil
    | apply Abs.HeadJ.cons rfl
    | (apply K.depT; simp only [deps, List.toList_toArray, List.filterMap_cons, List.filterMap_nil, Region.binds, if_true, List.nil_append, List.cons_append, List.getElem?_cons_succ, List.getElem?_cons_zero, List.getElem?_nil, reduceCtorEq, Bool.true_or, Bool.or_true]; exact rfl)
    | refine fun Tv => K.L ?_
    | (apply K.appT; simp only [List.nil_append, List.cons_append, List.append_assoc]; exact rfl)
    | (refine K.isTrue ?_; kernel_rfl)
    | exact rfl
    | contradiction
    | omega)
  · refine Rnd.go (k + 1) ?_ ?_ ?_
    · (try dsimp only); omega
    · (try dsimp only); omega
    exact Weak.mk (by repeat (first | exact ReT.nil | refine ReT.cons (.keep rfl rfl .nil) ?_ | refine ReT.cons (.own rfl rfl rfl rfl rfl rfl .nil) ?_ | refine ReT.cons (.ptr rfl rfl rfl rfl .nil) ?_ | refine ReT.cons (.keep (congrArg (fun z => AV.sc (Value.int .i64 z)) (by first | omega | (rw [← fills_step _ _ (by omega)]; simp))) rfl .nil) ?_ | refine ReT.cons (.keep (congrArg (fun z : List UInt8 => AV.sc (Value.string ⟨z.toArray⟩)) (by rw [← fills_step _ _ (by omega)]; simp)) rfl .nil) ?_ | refine ReT.cons (.own rfl rfl rfl rfl rfl (by first | omega | (simp; done) | (simp; omega)) .nil) ?_)) (by repeat (first | exact ReO.nil | refine ReO.cons (Re.same rfl (still_ints _)) (by simp) ?_ | refine ReO.cons (Re.same rfl rfl) (by simp) ?_ | refine ReO.cons (Re.same (by rw [← fills_step _ _ (by omega)]; simp) (still_ints _)) (by simp) ?_ | refine ReO.cons (Re.same (by rw [← fills_step _ _ (by omega)]; simp) (still_u8s _)) (by simp) ?_ | refine ReO.cons (Re.same (by rw [← fills_step _ _ (by omega)]; simp) (still_strs _)) (by simp) ?_)) (Nat.zero_le _)
  · refine Abs.Fin.ret (.one (ids := [some 0]) (.tmp rfl) ?_ (by decide) (.own rfl rfl rfl rfl .nil))
    refine .obj rfl ?_ (still_strs _) rfl rfl (.inr rfl) .nil
    have : k = xs.length := by omega
    subst this; simp

theorem eqStringS_c (xs ys : List (List UInt8)) (hl : xs.length ≤ 1099511627776) (hl2 : ys.length ≤ 1099511627776) : FnC Try.prog 21 [.imm 1 xs.length (strs xs), .imm 1 ys.length (strs ys)] [] (B (decide (xs = ys))) := by
  refine FnC.of_body tabOk Try.func21 Try.ntmps21 rfl (by decide +kernel) (by simp) fun G => ?_
  repeat' (first
    | (refine K.L ?_; first
      | (refine K.mv ?_; refine WpL.move rfl (by decide) ?_)
      | (refine K.call ?_; first
        | fail
        )
      | (refine K.bin ?_; first
        | refine WpL.add rfl rfl (by omega) (by decide) ?_
        | refine WpL.sub rfl rfl (by omega) (by decide) ?_
        | refine WpL.mul rfl rfl (by omega) (by decide) ?_
        | refine WpL.quo rfl rfl (by omega) (by decide) ?_
        | refine WpL.rem rfl rfl (by omega) (by decide) ?_
        | refine WpL.bin rfl rfl rfl (by decide) ?_
        | refine WpL.strAdd rfl rfl (by first | omega | (simp only [List.length_append]; omega)) (by decide) ?_
        | refine WpL.strEq rfl rfl (by decide) ?_
        | refine WpL.strNe rfl rfl (by decide) ?_
        | refine WpL.boolEq (K.tyBool tabOk rfl) rfl rfl (by decide) ?_
        | refine WpL.boolNe (K.tyBool tabOk rfl) rfl rfl (by decide) ?_
        | refine WpL.shl rfl rfl (by first | decide | (simp only [IntKind.bits]; omega)) (by decide) ?_
        | refine WpL.shr rfl rfl (by first | decide | (simp only [IntKind.bits]; omega)) (by decide) ?_)
      | (refine K.ld ?_; first
        | refine WpL.loadInts tabOk rfl rfl rfl (by first | omega | (simp; omega)) (by decide) ?_
        | refine WpL.loadU8s tabOk rfl rfl rfl (by first | omega | (simp; omega)) (by decide) ?_
        | refine WpL.loadStrs tabOk rfl rfl rfl (by first | omega | (simp; omega)) (by decide) ?_
        | refine WpL.loadBools tabOk rfl rfl rfl (by first | omega | (simp; omega)) (by decide) ?_
        | refine WpL.load1 tabOk rfl rfl rfl rfl rfl (by decide) ?_)
      | (refine K.asg ?_; refine WpL.assign rfl (by decide) ?_)
      | (refine K.fld ?_; first
        | refine WpL.fieldI tabOk rfl rfl rfl (by decide) ?_
        | refine WpL.fieldP tabOk rfl rfl rfl rfl rfl (by decide) ?_)
      | (refine K.ixa ?_; first
        | refine WpL.idxI tabOk rfl rfl rfl (by omega) (by decide) ?_
        | refine WpL.idxO tabOk rfl rfl rfl rfl rfl (by omega) (by decide) ?_)
      | (refine K.ix ?_; refine WpL.idxStr tabOk rfl rfl rfl (by omega) (by decide) ?_)
      | (refine K.bi ?_; first
        | refine WpL.lenImm (TabOk.slice tabOk rfl).1 rfl (by decide) ?_
        | refine WpL.lenOwn (TabOk.slice tabOk rfl).1 rfl rfl rfl (by decide) ?_
        | refine WpL.lenNil (TabOk.slice tabOk rfl).1 rfl (by decide) ?_
        | refine WpL.lenStr (K.tyStr tabOk rfl) rfl (by decide) ?_
        | refine WpL.app1Ints tabOk rfl rfl rfl (Nat.zero_le _) rfl rfl (by first | rfl | omega | (simp; done) | (simp; omega)) (by omega) (by decide) ?_
        | refine WpL.appInts tabOk rfl rfl rfl (Nat.zero_le _) rfl rfl (by first | rfl | omega | (simp; done) | (simp; omega)) (by first | rfl | omega | (simp; done) | (simp; omega)) (by omega) (by decide) ?_
        | refine WpL.nil1Ints tabOk rfl rfl rfl rfl (by omega) rfl (by decide) ?_
        | refine WpL.app1U8s tabOk rfl rfl rfl (Nat.zero_le _) rfl rfl (by first | rfl | omega | (simp; done) | (simp; omega)) (by omega) (by decide) ?_
        | refine WpL.appU8s tabOk rfl rfl rfl (Nat.zero_le _) rfl rfl (by first | rfl | omega | (simp; done) | (simp; omega)) (by first | rfl | omega | (simp; done) | (simp; omega)) (by omega) (by decide) ?_
        | refine WpL.nil1U8s tabOk rfl rfl rfl rfl (by omega) rfl (by decide) ?_
        | refine WpL.app1Strs tabOk rfl rfl rfl (Nat.zero_le _) rfl rfl (by first | rfl | omega | (simp; done) | (simp; omega)) (by omega) (by decide) ?_
        | refine WpL.appStrs tabOk rfl rfl rfl (Nat.zero_le _) rfl rfl (by first | rfl | omega | (simp; done) | (simp; omega)) (by first | rfl | omega | (simp; done) | (simp; omega)) (by omega) (by decide) ?_
        | refine WpL.nil1Strs tabOk rfl rfl rfl rfl (by omega) rfl (by decide) ?_
        | refine WpL.appOwn tabOk rfl rfl rfl rfl rfl rfl (by simp) (Nat.zero_le _) rfl rfl (by simp) (by simp [all_ints, all_u8s, all_strs, oneB, Value.oneCell']) (by omega) (by decide) ?_
        | refine WpL.appNil tabOk rfl rfl rfl rfl (by simp) (by simp [all_ints, all_u8s, all_strs, oneB, Value.oneCell']) (by omega) rfl (by decide) ?_
        | refine WpL.min2 rfl rfl (by decide) ?_
        | refine WpL.max2 rfl rfl (by decide) ?_)
      | (refine K.un ?_; first
        | refine WpL.not rfl (by decide) ?_
        | refine WpL.neg rfl (by omega) (by decide) ?_)
      | (refine K.pick ?_; first
        | refine WpL.pickT rfl rfl (by decide) ?_
        | refine WpL.pickF rfl rfl (by decide) ?_)
      | (refine K.ext ?_; refine WpL.extract rfl rfl (by first | decide | simp [AV.shL]) (by decide) ?_)
      | (refine K.cv ?_; first
        | refine WpL.convI (P := Try.prog) (by rfl) (K.tyInt tabOk rfl) rfl (by omega) (by decide) ?_
        | refine WpL.conv (P := Try.prog) (by rfl) (K.tyInt tabOk rfl) rfl (by decide) ?_
        | refine WpL.toBytes tabOk rfl rfl rfl rfl (by omega) rfl (by decide) ?_
        | refine WpL.ofBytes tabOk rfl rfl rfl rfl rfl (by simp) (by decide) ?_)
      | (refine K.lit ?_; first
        | refine WpL.lit0U8s tabOk rfl rfl rfl (by decide) ?_
        | refine WpL.lit0Ints tabOk rfl rfl rfl (by decide) ?_
        | refine WpL.lit0Bools tabOk rfl rfl rfl (by decide) ?_
        | refine WpL.lit0Strs tabOk rfl rfl rfl (by decide) ?_
        | refine WpL.litF tabOk rfl rfl rfl rfl (by decide) rfl (by decide) ?_)
      | (refine K.ms ?_; first
        | refine WpL.makeInts tabOk rfl rfl rfl (by omega) (by omega) rfl (by decide) ?_
        | refine WpL.makeStrs tabOk rfl rfl rfl (by omega) (by omega) rfl (by decide) ?_
        | refine WpL.makeBools tabOk rfl rfl rfl (by omega) (by omega) rfl (by decide) ?_
        | refine WpL.makeU8s tabOk rfl rfl rfl (by omega) (by omega) rfl (by decide) ?_)
      | (refine K.st ?_; first
        | refine WpL.storeInts tabOk rfl rfl rfl rfl rfl (by first | omega | (simp; omega)) ?_
        | refine WpL.storeU8s tabOk rfl rfl rfl rfl rfl (by first | omega | (simp; omega)) ?_
        | refine WpL.storeBools tabOk rfl rfl rfl rfl rfl (by first | omega | (simp; omega)) ?_
        | refine WpL.storeStrs tabOk rfl rfl rfl rfl rfl (by first | omega | (simp; omega)) ?_
        | refine WpL.store tabOk rfl rfl rfl rfl rfl rfl rfl rfl (by first | omega | (simp; omega) | (simp; done)) ?_)
      | (refine K.all ?_; first
        | refine WpL.allocStruct tabOk rfl rfl (by decide) ?_
        | refine WpL.allocPlain tabOk rfl rfl rfl (by decide) ?_)
      | (refine K.box ?_; refine WpL.box rfl rfl rfl (by decide) ?_)
      | (refine K.nc ?_; first
        | refine WpL.nilCheckP rfl rfl rfl (by decide) ?_
        | refine WpL.nilCheckI rfl (by decide) ?_)
      | (refine K.sl ?_; first
        | refine WpL.subStr tabOk rfl rfl (by first | exact .inl ⟨rfl, rfl⟩ | exact .inr ⟨_, _, rfl, rfl⟩) (by first | exact .inl ⟨rfl, rfl⟩ | exact .inr ⟨_, _, rfl, rfl⟩) (by omega) (by decide) ?_
        | refine WpL.subImm tabOk rfl rfl (by first | exact .inl ⟨rfl, rfl⟩ | exact .inr ⟨_, _, rfl, rfl⟩) (by first | exact .inl ⟨rfl, rfl⟩ | exact .inr ⟨_, _, rfl, rfl⟩) (by omega) (by decide) ?_)
      | (refine K.gd ?_; first
        | refine K.gT rfl (by decide) rfl ?_
        | refine K.gF rfl (by decide) rfl ?_
        | refine K.gD rfl rfl (fun _ => ?_) (fun _ => ?_)
        | refine K.gN rfl rfl (fun _ => ?_) (fun _ => ?_)
        | refine K.gS rfl rfl (fun _ => ?_) (fun _ => ?_)))
    | refine WpL.nil ?_
    | refine Abs.Seq.n ?_
    | (refine K.A ?_; first
      | refine WpA.seq ?_
      | refine WpA.region ?_
      | (refine K.cond ?_; first
        | refine WpA.condT rfl ?_
        | refine WpA.condF rfl ?_
        | refine WpA.condD rfl (fun _ => ?_) (fun _ => ?_)
        | refine WpA.condN rfl (fun _ => ?_) (fun _ => ?_)
        | refine WpA.condS rfl (fun _ => ?_) (fun _ => ?_))
      | refine WpA.block ?_
      | refine WpA.ret ?_
      | refine WpA.exit ?_
      | refine WpA.skip ?_
      | apply WpA.regionM 1 mixed (by decide +kernel)
      | apply WpA.regionM 2 mixed (by decide +kernel)
      | apply WpA.regionM 3 mixed (by decide +kernel)
      | apply WpA.regionM 4 mixed (by decide +kernel)
      | apply WpA.regionM 5 mixed (by decide +kernel)
      | apply WpA.regionM 6 mixed (by decide +kernel)
      | apply WpA.regionM 7 mixed (by decide +kernel)
      | apply WpA.regionM 8 mixed (by decide +kernel)
      | apply WpA.regionM 9 mixed (by decide +kernel)
      | apply WpA.regionM 10 mixed (by decide +kernel)
      | apply WpA.regionM 11 mixed (by decide +kernel)
      | apply WpA.regionM 12 mixed (by decide +kernel)
      | apply WpA.regionM 13 mixed (by decide +kernel)
      | apply WpA.regionM 14 mixed (by decide +kernel)
      | apply WpA.regionM 15 mixed (by decide +kernel)
      | apply WpA.regionM 16 mixed (by decide +kernel)
      | apply WpA.regionM 17 mixed (by decide +kernel)
      | apply WpA.regionM 18 mixed (by decide +kernel)
      | apply WpA.regionM 19 mixed (by decide +kernel)
      | apply WpA.regionM 20 mixed (by decide +kernel)
      | apply WpA.regionM 21 mixed (by decide +kernel)
      | apply WpA.regionM 22 mixed (by decide +kernel)
      | apply WpA.regionM 23 mixed (by decide +kernel)
      | apply WpA.regionM 24 mixed (by decide +kernel)
      | apply WpA.regionM 25 mixed (by decide +kernel)
      | apply WpA.regionM 26 mixed (by decide +kernel)
      | apply WpA.regionM 27 mixed (by decide +kernel)
      | apply WpA.regionM 28 mixed (by decide +kernel)
      | apply WpA.regionM 29 mixed (by decide +kernel)
      | apply WpA.regionM 30 mixed (by decide +kernel)
      | apply WpA.regionM 31 mixed (by decide +kernel)
      | apply WpA.regionM 32 mixed (by decide +kernel)
      | refine WpA.regionD mixed (by decide +kernel) ?_)
    | refine Abs.Seq.ret ?_
    | refine Abs.Seq.exit ?_
    | refine Blk.n ?_
    | refine Blk.ret ?_
    | refine Blk.exitHere ?_
    | refine Blk.exitOther rfl ?_
    | refine Rnd.ret ?_
    | refine Rnd.exit ?_
    | exact Only.mk rfl
    | exact Abs.HeadJ.nil
    | apply Abs.HeadJ.cons rfl
    | (apply K.depT; simp only [deps, List.toList_toArray, List.filterMap_cons, List.filterMap_nil, Region.binds, if_true, List.nil_append, List.cons_append, List.getElem?_cons_succ, List.getElem?_cons_zero, List.getElem?_nil, reduceCtorEq, Bool.true_or, Bool.or_true]; exact rfl)
    | refine fun Tv => K.L ?_
    | (apply K.appT; simp only [List.nil_append, List.cons_append, List.append_assoc]; exact rfl)
    | (refine K.isTrue ?_; kernel_rfl)
    | exact rfl
    | contradiction
    | omega)
  · refine Abs.Fin.ret (.one (.tmp rfl) .nil (by decide) (.keep ?_ rfl rfl .nil))
    simp; intro h; subst h; contradiction
  have hll : xs.length = ys.length := by omega
  refine WpA.loop (fun k : Nat => ⟨[(0, .imm 1 xs.length (strs xs)), (1, .imm 1 ys.length (strs ys)), (5, I k)], []⟩) (fun k => k ≤ xs.length ∧ ∀ j < k, xs.getD j [] = ys.getD j []) (fun k => xs.length - k) 0 (by simp) ?_ (fun k hk => ?_)
  · exact Weak.mk (by repeat (first | exact ReT.nil | refine ReT.cons (.keep rfl rfl .nil) ?_ | refine ReT.cons (.own rfl rfl rfl rfl rfl rfl .nil) ?_ | refine ReT.cons (.ptr rfl rfl rfl rfl .nil) ?_ | refine ReT.cons (.keep (congrArg (fun z => AV.sc (Value.int .i64 z)) (by first | omega | (simp))) rfl .nil) ?_ | refine ReT.cons (.keep (congrArg (fun z : List UInt8 => AV.sc (Value.string ⟨z.toArray⟩)) (by simp)) rfl .nil) ?_ | refine ReT.cons (.own rfl rfl rfl rfl rfl (by first | omega | (simp; done) | (simp; omega)) .nil) ?_)) (by repeat (first | exact ReO.nil | refine ReO.cons (Re.same rfl (still_ints _)) (by simp) ?_ | refine ReO.cons (Re.same rfl rfl) (by simp) ?_ | refine ReO.cons (Re.same (by simp) (still_ints _)) (by simp) ?_ | refine ReO.cons (Re.same (by simp) (still_u8s _)) (by simp) ?_ | refine ReO.cons (Re.same (by simp) (still_strs _)) (by simp) ?_)) (Nat.zero_le _)
  repeat' (first
    | (refine K.L ?_; first
      | (refine K.mv ?_; refine WpL.move rfl (by decide) ?_)
      | (refine K.call ?_; first
        | fail
        )
      | (refine K.bin ?_; first
        | refine WpL.add rfl rfl (by omega) (by decide) ?_
        | refine WpL.sub rfl rfl (by omega) (by decide) ?_
        | refine WpL.mul rfl rfl (by omega) (by decide) ?_
        | refine WpL.quo rfl rfl (by omega) (by decide) ?_
        | refine WpL.rem rfl rfl (by omega) (by decide) ?_
        | refine WpL.bin rfl rfl rfl (by decide) ?_
        | refine WpL.strAdd rfl rfl (by first | omega | (simp only [List.length_append]; omega)) (by decide) ?_
        | refine WpL.strEq rfl rfl (by decide) ?_
        | refine WpL.strNe rfl rfl (by decide) ?_
        | refine WpL.boolEq (K.tyBool tabOk rfl) rfl rfl (by decide) ?_
        | refine WpL.boolNe (K.tyBool tabOk rfl) rfl rfl (by decide) ?_
        | refine WpL.shl rfl rfl (by first | decide | (simp only [IntKind.bits]; omega)) (by decide) ?_
        | refine WpL.shr rfl rfl (by first | decide | (simp only [IntKind.bits]; omega)) (by decide) ?_)
      | (refine K.ld ?_; first
        | refine WpL.loadInts tabOk rfl rfl rfl (by first | omega | (simp; omega)) (by decide) ?_
        | refine WpL.loadU8s tabOk rfl rfl rfl (by first | omega | (simp; omega)) (by decide) ?_
        | refine WpL.loadStrs tabOk rfl rfl rfl (by first | omega | (simp; omega)) (by decide) ?_
        | refine WpL.loadBools tabOk rfl rfl rfl (by first | omega | (simp; omega)) (by decide) ?_
        | refine WpL.load1 tabOk rfl rfl rfl rfl rfl (by decide) ?_)
      | (refine K.asg ?_; refine WpL.assign rfl (by decide) ?_)
      | (refine K.fld ?_; first
        | refine WpL.fieldI tabOk rfl rfl rfl (by decide) ?_
        | refine WpL.fieldP tabOk rfl rfl rfl rfl rfl (by decide) ?_)
      | (refine K.ixa ?_; first
        | refine WpL.idxI tabOk rfl rfl rfl (by omega) (by decide) ?_
        | refine WpL.idxO tabOk rfl rfl rfl rfl rfl (by omega) (by decide) ?_)
      | (refine K.ix ?_; refine WpL.idxStr tabOk rfl rfl rfl (by omega) (by decide) ?_)
      | (refine K.bi ?_; first
        | refine WpL.lenImm (TabOk.slice tabOk rfl).1 rfl (by decide) ?_
        | refine WpL.lenOwn (TabOk.slice tabOk rfl).1 rfl rfl rfl (by decide) ?_
        | refine WpL.lenNil (TabOk.slice tabOk rfl).1 rfl (by decide) ?_
        | refine WpL.lenStr (K.tyStr tabOk rfl) rfl (by decide) ?_
        | refine WpL.app1Ints tabOk rfl rfl rfl (Nat.zero_le _) rfl rfl (by first | rfl | omega | (simp; done) | (simp; omega)) (by omega) (by decide) ?_
        | refine WpL.appInts tabOk rfl rfl rfl (Nat.zero_le _) rfl rfl (by first | rfl | omega | (simp; done) | (simp; omega)) (by first | rfl | omega | (simp; done) | (simp; omega)) (by omega) (by decide) ?_
        | refine WpL.nil1Ints tabOk rfl rfl rfl rfl (by omega) rfl (by decide) ?_
        | refine WpL.app1U8s tabOk rfl rfl rfl (Nat.zero_le _) rfl rfl (by first | rfl | omega | (simp; done) | (simp; omega)) (by omega) (by decide) ?_
        | refine WpL.appU8s tabOk rfl rfl rfl (Nat.zero_le _) rfl rfl (by first | rfl | omega | (simp; done) | (simp; omega)) (by first | rfl | omega | (simp; done) | (simp; omega)) (by omega) (by decide) ?_
        | refine WpL.nil1U8s tabOk rfl rfl rfl rfl (by omega) rfl (by decide) ?_
        | refine WpL.app1Strs tabOk rfl rfl rfl (Nat.zero_le _) rfl rfl (by first | rfl | omega | (simp; done) | (simp; omega)) (by omega) (by decide) ?_
        | refine WpL.appStrs tabOk rfl rfl rfl (Nat.zero_le _) rfl rfl (by first | rfl | omega | (simp; done) | (simp; omega)) (by first | rfl | omega | (simp; done) | (simp; omega)) (by omega) (by decide) ?_
        | refine WpL.nil1Strs tabOk rfl rfl rfl rfl (by omega) rfl (by decide) ?_
        | refine WpL.appOwn tabOk rfl rfl rfl rfl rfl rfl (by simp) (Nat.zero_le _) rfl rfl (by simp) (by simp [all_ints, all_u8s, all_strs, oneB, Value.oneCell']) (by omega) (by decide) ?_
        | refine WpL.appNil tabOk rfl rfl rfl rfl (by simp) (by simp [all_ints, all_u8s, all_strs, oneB, Value.oneCell']) (by omega) rfl (by decide) ?_
        | refine WpL.min2 rfl rfl (by decide) ?_
        | refine WpL.max2 rfl rfl (by decide) ?_)
      | (refine K.un ?_; first
        | refine WpL.not rfl (by decide) ?_
        | refine WpL.neg rfl (by omega) (by decide) ?_)
      | (refine K.pick ?_; first
        | refine WpL.pickT rfl rfl (by decide) ?_
        | refine WpL.pickF rfl rfl (by decide) ?_)
      | (refine K.ext ?_; refine WpL.extract rfl rfl (by first | decide | simp [AV.shL]) (by decide) ?_)
      | (refine K.cv ?_; first
        | refine WpL.convI (P := Try.prog) (by rfl) (K.tyInt tabOk rfl) rfl (by omega) (by decide) ?_
        | refine WpL.conv (P := Try.prog) (by rfl) (K.tyInt tabOk rfl) rfl (by decide) ?_
        | refine WpL.toBytes tabOk rfl rfl rfl rfl (by omega) rfl (by decide) ?_
        | refine WpL.ofBytes tabOk rfl rfl rfl rfl rfl (by simp) (by decide) ?_)
      | (refine K.lit ?_; first
        | refine WpL.lit0U8s tabOk rfl rfl rfl (by decide) ?_
        | refine WpL.lit0Ints tabOk rfl rfl rfl (by decide) ?_
        | refine WpL.lit0Bools tabOk rfl rfl rfl (by decide) ?_
        | refine WpL.lit0Strs tabOk rfl rfl rfl (by decide) ?_
        | refine WpL.litF tabOk rfl rfl rfl rfl (by decide) rfl (by decide) ?_)
      | (refine K.ms ?_; first
        | refine WpL.makeInts tabOk rfl rfl rfl (by omega) (by omega) rfl (by decide) ?_
        | refine WpL.makeStrs tabOk rfl rfl rfl (by omega) (by omega) rfl (by decide) ?_
        | refine WpL.makeBools tabOk rfl rfl rfl (by omega) (by omega) rfl (by decide) ?_
        | refine WpL.makeU8s tabOk rfl rfl rfl (by omega) (by omega) rfl (by decide) ?_)
      | (refine K.st ?_; first
        | refine WpL.storeInts tabOk rfl rfl rfl rfl rfl (by first | omega | (simp; omega)) ?_
        | refine WpL.storeU8s tabOk rfl rfl rfl rfl rfl (by first | omega | (simp; omega)) ?_
        | refine WpL.storeBools tabOk rfl rfl rfl rfl rfl (by first | omega | (simp; omega)) ?_
        | refine WpL.storeStrs tabOk rfl rfl rfl rfl rfl (by first | omega | (simp; omega)) ?_
        | refine WpL.store tabOk rfl rfl rfl rfl rfl rfl rfl rfl (by first | omega | (simp; omega) | (simp; done)) ?_)
      | (refine K.all ?_; first
        | refine WpL.allocStruct tabOk rfl rfl (by decide) ?_
        | refine WpL.allocPlain tabOk rfl rfl rfl (by decide) ?_)
      | (refine K.box ?_; refine WpL.box rfl rfl rfl (by decide) ?_)
      | (refine K.nc ?_; first
        | refine WpL.nilCheckP rfl rfl rfl (by decide) ?_
        | refine WpL.nilCheckI rfl (by decide) ?_)
      | (refine K.sl ?_; first
        | refine WpL.subStr tabOk rfl rfl (by first | exact .inl ⟨rfl, rfl⟩ | exact .inr ⟨_, _, rfl, rfl⟩) (by first | exact .inl ⟨rfl, rfl⟩ | exact .inr ⟨_, _, rfl, rfl⟩) (by omega) (by decide) ?_
        | refine WpL.subImm tabOk rfl rfl (by first | exact .inl ⟨rfl, rfl⟩ | exact .inr ⟨_, _, rfl, rfl⟩) (by first | exact .inl ⟨rfl, rfl⟩ | exact .inr ⟨_, _, rfl, rfl⟩) (by omega) (by decide) ?_)
      | (refine K.gd ?_; first
        | refine K.gT rfl (by decide) rfl ?_
        | refine K.gF rfl (by decide) rfl ?_
        | refine K.gD rfl rfl (fun _ => ?_) (fun _ => ?_)
        | refine K.gN rfl rfl (fun _ => ?_) (fun _ => ?_)
        | refine K.gS rfl rfl (fun _ => ?_) (fun _ => ?_)))
    | refine WpL.nil ?_
    | refine Abs.Seq.n ?_
    | (refine K.A ?_; first
      | refine WpA.seq ?_
      | refine WpA.region ?_
      | (refine K.cond ?_; first
        | refine WpA.condT rfl ?_
        | refine WpA.condF rfl ?_
        | refine WpA.condD rfl (fun _ => ?_) (fun _ => ?_)
        | refine WpA.condN rfl (fun _ => ?_) (fun _ => ?_)
        | refine WpA.condS rfl (fun _ => ?_) (fun _ => ?_))
      | refine WpA.block ?_
      | refine WpA.ret ?_
      | refine WpA.exit ?_
      | refine WpA.skip ?_
      | apply WpA.regionM 1 mixed (by decide +kernel)
      | apply WpA.regionM 2 mixed (by decide +kernel)
      | apply WpA.regionM 3 mixed (by decide +kernel)
      | apply WpA.regionM 4 mixed (by decide +kernel)
      | apply WpA.regionM 5 mixed (by decide +kernel)
      | apply WpA.regionM 6 mixed (by decide +kernel)
      | apply WpA.regionM 7 mixed (by decide +kernel)
      | apply WpA.regionM 8 mixed (by decide +kernel)
      | apply WpA.regionM 9 mixed (by decide +kernel)
      | apply WpA.regionM 10 mixed (by decide +kernel)
      | apply WpA.regionM 11 mixed (by decide +kernel)
      | apply WpA.regionM 12 mixed (by decide +kernel)
      | apply WpA.regionM 13 mixed (by decide +kernel)
      | apply WpA.regionM 14 mixed (by decide +kernel)
      | apply WpA.regionM 15 mixed (by decide +kernel)
      | apply WpA.regionM 16 mixed (by decide +kernel)
      | apply WpA.regionM 17 mixed (by decide +kernel)
      | apply WpA.regionM 18 mixed (by decide +kernel)
      | apply WpA.regionM 19 mixed (by decide +kernel)
      | apply WpA.regionM 20 mixed (by decide +kernel)
      | apply WpA.regionM 21 mixed (by decide +kernel)
      | apply WpA.regionM 22 mixed (by decide +kernel)
      | apply WpA.regionM 23 mixed (by decide +kernel)
      | apply WpA.regionM 24 mixed (by decide +kernel)
      | apply WpA.regionM 25 mixed (by decide +kernel)
      | apply WpA.regionM 26 mixed (by decide +kernel)
      | apply WpA.regionM 27 mixed (by decide +kernel)
      | apply WpA.regionM 28 mixed (by decide +kernel)
      | apply WpA.regionM 29 mixed (by decide +kernel)
      | apply WpA.regionM 30 mixed (by decide +kernel)
      | apply WpA.regionM 31 mixed (by decide +kernel)
      | apply WpA.regionM 32 mixed (by decide +kernel)
      | refine WpA.regionD mixed (by decide +kernel) ?_)
    | refine Abs.Seq.ret ?_
    | refine Abs.Seq.exit ?_
    | refine Blk.n ?_
    | refine Blk.ret ?_
    | refine Blk.exitHere ?_
    | refine Blk.exitOther rfl ?_
    | refine Rnd.ret ?_
    | refine Rnd.exit ?_
    | exact Only.mk rfl
    | exact Abs.HeadJ.nil
    | apply Abs.HeadJ.cons rfl
    | (apply K.depT; simp only [deps, List.toList_toArray, List.filterMap_cons, List.filterMap_nil, Region.binds, if_true, List.nil_append, List.cons_append, List.getElem?_cons_succ, List.getElem?_cons_zero, List.getElem?_nil, reduceCtorEq, Bool.true_or, Bool.or_true]; exact rfl)
    | refine fun Tv => K.L ?_
    | (apply K.appT; simp only [List.nil_append, List.cons_append, List.append_assoc]; exact rfl)
    | (refine K.isTrue ?_; kernel_rfl)
    | exact rfl
    | contradiction
    | omega)
  · refine Abs.Fin.ret (.one (.tmp rfl) .nil (by decide) (.keep ?_ rfl rfl .nil))
    simp only [Value.bool.injEq, AV.sc.injEq]; symm; rw [decide_eq_false_iff_not]; rintro rfl; contradiction
  · refine Rnd.go (k + 1) ⟨by omega, fun j hj => ?_⟩ (by (try dsimp only); omega) ?_
    · by_cases h : j = k
      · subst h; simp_all
      · exact hk.2 j (by omega)
    exact Weak.mk (by repeat (first | exact ReT.nil | refine ReT.cons (.keep rfl rfl .nil) ?_ | refine ReT.cons (.own rfl rfl rfl rfl rfl rfl .nil) ?_ | refine ReT.cons (.ptr rfl rfl rfl rfl .nil) ?_ | refine ReT.cons (.keep (congrArg (fun z => AV.sc (Value.int .i64 z)) (by first | omega | (simp))) rfl .nil) ?_ | refine ReT.cons (.keep (congrArg (fun z : List UInt8 => AV.sc (Value.string ⟨z.toArray⟩)) (by simp)) rfl .nil) ?_ | refine ReT.cons (.own rfl rfl rfl rfl rfl (by first | omega | (simp; done) | (simp; omega)) .nil) ?_)) (by repeat (first | exact ReO.nil | refine ReO.cons (Re.same rfl (still_ints _)) (by simp) ?_ | refine ReO.cons (Re.same rfl rfl) (by simp) ?_ | refine ReO.cons (Re.same (by simp) (still_ints _)) (by simp) ?_ | refine ReO.cons (Re.same (by simp) (still_u8s _)) (by simp) ?_ | refine ReO.cons (Re.same (by simp) (still_strs _)) (by simp) ?_)) (Nat.zero_le _)
  · refine Abs.Fin.ret (.one (.tmp rfl) .nil (by decide) (.keep ?_ rfl rfl .nil))
    have : xs = ys := by
      apply List.ext_getElem hll
      intro i h1 h2
      have := hk.2 i (by omega)
      simpa [h1, h2] using this
    simp [this]
end Go.Proofs.Ytlioigidpeofnaa
