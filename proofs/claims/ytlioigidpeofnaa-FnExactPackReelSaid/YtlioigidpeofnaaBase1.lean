/- Contracts of small functions. No condition. -/
import Derived.Test.YtlioigidpeofnaaTab
namespace Go.Proofs.Ytlioigidpeofnaa
open Go Go.Abs
set_option linter.unusedVariables false
set_option linter.unusedSimpArgs false
set_option maxRecDepth 100000

abbrev I (n : Int) : AV := .sc (.int .i64 n)
abbrev B (b : Bool) : AV := .sc (.bool b)

attribute [local irreducible] WpA WpL Rnd Blk Abs.Seq Abs.Fin FnC Only

theorem mixed : Try.prog.follows .mixedOrders = true := by kernel_rfl

theorem within_c (n lo hi : Int) : FnC Try.prog 32 [I n, I lo, I hi] [] (B (decide (lo ≤ n ∧ n ≤ hi))) := by
  refine FnC.of_body tabOk Try.func32 Try.ntmps32 rfl (by decide +kernel) (by simp) fun G => ?_
  repeat' (first
    | (refine K.L ?_; first
      | (refine K.mv ?_; refine WpL.move rfl (by decide) ?_)
      | (refine K.call ?_; first
        | fail
        )
      | (refine K.bin ?_; first
        | refine WpL.add rfl rfl (by omega) (by decide) ?_
        | refine WpL.sub rfl rfl (by omega) (by decide) ?_
        | refine WpL.mul rfl rfl (by omega) (by decide) ?_
        | refine WpL.quo rfl rfl (by omega) (by decide) ?_
        | refine WpL.rem rfl rfl (by omega) (by decide) ?_
        | refine WpL.bin rfl rfl rfl (by decide) ?_
        | refine WpL.strAdd rfl rfl (by omega) (by decide) ?_
        | refine WpL.strEq rfl rfl (by decide) ?_
        | refine WpL.strNe rfl rfl (by decide) ?_
        | refine WpL.boolEq (K.tyBool tabOk rfl) rfl rfl (by decide) ?_
        | refine WpL.boolNe (K.tyBool tabOk rfl) rfl rfl (by decide) ?_
        | refine WpL.shl rfl rfl (by first | decide | (simp only [IntKind.bits]; omega)) (by decide) ?_
        | refine WpL.shr rfl rfl (by first | decide | (simp only [IntKind.bits]; omega)) (by decide) ?_)
      | (refine K.ld ?_; first
        | refine WpL.loadInts tabOk rfl rfl rfl (by first | omega | (simp; omega)) (by decide) ?_
        | refine WpL.loadU8s tabOk rfl rfl rfl (by first | omega | (simp; omega)) (by decide) ?_
        | refine WpL.loadStrs tabOk rfl rfl rfl (by first | omega | (simp; omega)) (by decide) ?_
        | refine WpL.loadBools tabOk rfl rfl rfl (by first | omega | (simp; omega)) (by decide) ?_
        | refine WpL.load1 tabOk rfl rfl rfl rfl rfl (by decide) ?_)
      | (refine K.asg ?_; refine WpL.assign rfl (by decide) ?_)
      | (refine K.fld ?_; first
        | refine WpL.fieldI tabOk rfl rfl rfl (by decide) ?_
        | refine WpL.fieldP tabOk rfl rfl rfl rfl rfl (by decide) ?_)
      | (refine K.ixa ?_; first
        | refine WpL.idxI tabOk rfl rfl rfl (by omega) (by decide) ?_
        | refine WpL.idxO tabOk rfl rfl rfl rfl rfl (by omega) (by decide) ?_)
      | (refine K.ix ?_; refine WpL.idxStr tabOk rfl rfl rfl (by omega) (by decide) ?_)
      | (refine K.bi ?_; first
        | refine WpL.lenImm (TabOk.slice tabOk rfl).1 rfl (by decide) ?_
        | refine WpL.lenOwn (TabOk.slice tabOk rfl).1 rfl rfl rfl (by decide) ?_
        | refine WpL.lenNil (TabOk.slice tabOk rfl).1 rfl (by decide) ?_
        | refine WpL.lenStr (K.tyStr tabOk rfl) rfl (by decide) ?_
        | refine WpL.app1Ints tabOk rfl rfl rfl (Nat.zero_le _) rfl rfl (by first | rfl | omega | (simp; done) | (simp; omega)) (by omega) (by decide) ?_
        | refine WpL.appInts tabOk rfl rfl rfl (Nat.zero_le _) rfl rfl (by first | rfl | omega | (simp; done) | (simp; omega)) (by first | rfl | omega | (simp; done) | (simp; omega)) (by omega) (by decide) ?_
        | refine WpL.nil1Ints tabOk rfl rfl rfl rfl (by omega) rfl (by decide) ?_
        | refine WpL.app1U8s tabOk rfl rfl rfl (Nat.zero_le _) rfl rfl (by first | rfl | omega | (simp; done) | (simp; omega)) (by omega) (by decide) ?_
        | refine WpL.appU8s tabOk rfl rfl rfl (Nat.zero_le _) rfl rfl (by first | rfl | omega | (simp; done) | (simp; omega)) (by first | rfl | omega | (simp; done) | (simp; omega)) (by omega) (by decide) ?_
        | refine WpL.nil1U8s tabOk rfl rfl rfl rfl (by omega) rfl (by decide) ?_
        | refine WpL.app1Strs tabOk rfl rfl rfl (Nat.zero_le _) rfl rfl (by first | rfl | omega | (simp; done) | (simp; omega)) (by omega) (by decide) ?_
        | refine WpL.appStrs tabOk rfl rfl rfl (Nat.zero_le _) rfl rfl (by first | rfl | omega | (simp; done) | (simp; omega)) (by first | rfl | omega | (simp; done) | (simp; omega)) (by omega) (by decide) ?_
        | refine WpL.nil1Strs tabOk rfl rfl rfl rfl (by omega) rfl (by decide) ?_
        | refine WpL.appOwn tabOk rfl rfl rfl rfl rfl rfl (by simp) (Nat.zero_le _) rfl rfl (by simp) (by simp [all_ints, all_u8s, all_strs, oneB, Value.oneCell']) (by omega) (by decide) ?_
        | refine WpL.appNil tabOk rfl rfl rfl rfl (by simp) (by simp [all_ints, all_u8s, all_strs, oneB, Value.oneCell']) (by omega) rfl (by decide) ?_
        | refine WpL.min2 rfl rfl (by decide) ?_
        | refine WpL.max2 rfl rfl (by decide) ?_)
      | (refine K.un ?_; first
        | refine WpL.not rfl (by decide) ?_
        | refine WpL.neg rfl (by omega) (by decide) ?_)
      | (refine K.pick ?_; first
        | refine WpL.pickT rfl rfl (by decide) ?_
        | refine WpL.pickF rfl rfl (by decide) ?_)
      | (refine K.ext ?_; refine WpL.extract rfl rfl (by first | decide | simp [AV.shL]) (by decide) ?_)
      | (refine K.cv ?_; first
        | refine WpL.convI (P := Try.prog) (by rfl) (K.tyInt tabOk rfl) rfl (by omega) (by decide) ?_
        | refine WpL.conv (P := Try.prog) (by rfl) (K.tyInt tabOk rfl) rfl (by decide) ?_
        | refine WpL.toBytes tabOk rfl rfl rfl rfl (by omega) rfl (by decide) ?_
        | refine WpL.ofBytes tabOk rfl rfl rfl rfl rfl (by simp) (by decide) ?_)
      | (refine K.lit ?_; first
        | refine WpL.lit0U8s tabOk rfl rfl rfl (by decide) ?_
        | refine WpL.lit0Ints tabOk rfl rfl rfl (by decide) ?_
        | refine WpL.lit0Bools tabOk rfl rfl rfl (by decide) ?_
        | refine WpL.lit0Strs tabOk rfl rfl rfl (by decide) ?_
        | refine WpL.litF tabOk rfl rfl rfl rfl (by decide) rfl (by decide) ?_)
      | (refine K.ms ?_; first
        | refine WpL.makeInts tabOk rfl rfl rfl (by omega) (by omega) rfl (by decide) ?_
        | refine WpL.makeStrs tabOk rfl rfl rfl (by omega) (by omega) rfl (by decide) ?_
        | refine WpL.makeBools tabOk rfl rfl rfl (by omega) (by omega) rfl (by decide) ?_
        | refine WpL.makeU8s tabOk rfl rfl rfl (by omega) (by omega) rfl (by decide) ?_)
      | (refine K.st ?_; first
        | refine WpL.storeInts tabOk rfl rfl rfl rfl rfl (by first | omega | (simp; omega)) ?_
        | refine WpL.storeU8s tabOk rfl rfl rfl rfl rfl (by first | omega | (simp; omega)) ?_
        | refine WpL.storeBools tabOk rfl rfl rfl rfl rfl (by first | omega | (simp; omega)) ?_
        | refine WpL.storeStrs tabOk rfl rfl rfl rfl rfl (by first | omega | (simp; omega)) ?_
        | refine WpL.store tabOk rfl rfl rfl rfl rfl rfl rfl rfl (by first | omega | (simp; omega) | (simp; done)) ?_)
      | (refine K.all ?_; first
        | refine WpL.allocStruct tabOk rfl rfl (by decide) ?_
        | refine WpL.allocPlain tabOk rfl rfl rfl (by decide) ?_)
      | (refine K.box ?_; refine WpL.box rfl rfl rfl (by decide) ?_)
      | (refine K.nc ?_; first
        | refine WpL.nilCheckP rfl rfl rfl (by decide) ?_
        | refine WpL.nilCheckI rfl (by decide) ?_)
      | (refine K.sl ?_; first
        | refine WpL.subStr tabOk rfl rfl (by first | exact .inl ⟨rfl, rfl⟩ | exact .inr ⟨_, _, rfl, rfl⟩) (by first | exact .inl ⟨rfl, rfl⟩ | exact .inr ⟨_, _, rfl, rfl⟩) (by omega) (by decide) ?_
        | refine WpL.subImm tabOk rfl rfl (by first | exact .inl ⟨rfl, rfl⟩ | exact .inr ⟨_, _, rfl, rfl⟩) (by first | exact .inl ⟨rfl, rfl⟩ | exact .inr ⟨_, _, rfl, rfl⟩) (by omega) (by decide) ?_)
      | (refine K.gd ?_; first
        | refine K.gT rfl (by decide) rfl ?_
        | refine K.gF rfl (by decide) rfl ?_
        | refine K.gD rfl rfl (fun _ => ?_) (fun _ => ?_)
        | refine K.gN rfl rfl (fun _ => ?_) (fun _ => ?_)
        | refine K.gS rfl rfl (fun _ => ?_) (fun _ => ?_)))
    | refine WpL.nil ?_
    | refine Abs.Seq.n ?_
    | (refine K.A ?_; first
      | refine WpA.seq ?_
      | refine WpA.region ?_
      | (refine K.cond ?_; first
        | refine WpA.condT rfl ?_
        | refine WpA.condF rfl ?_
        | refine WpA.condD rfl (fun _ => ?_) (fun _ => ?_)
        | refine WpA.condN rfl (fun _ => ?_) (fun _ => ?_)
        | refine WpA.condS rfl (fun _ => ?_) (fun _ => ?_))
      | refine WpA.block ?_
      | refine WpA.ret ?_
      | refine WpA.exit ?_
      | refine WpA.skip ?_
      | apply WpA.regionM 1 mixed (by decide +kernel)
      | apply WpA.regionM 2 mixed (by decide +kernel)
      | apply WpA.regionM 3 mixed (by decide +kernel)
      | apply WpA.regionM 4 mixed (by decide +kernel)
      | apply WpA.regionM 5 mixed (by decide +kernel)
      | apply WpA.regionM 6 mixed (by decide +kernel)
      | apply WpA.regionM 7 mixed (by decide +kernel)
      | apply WpA.regionM 8 mixed (by decide +kernel)
      | apply WpA.regionM 9 mixed (by decide +kernel)
      | apply WpA.regionM 10 mixed (by decide +kernel)
      | apply WpA.regionM 11 mixed (by decide +kernel)
      | apply WpA.regionM 12 mixed (by decide +kernel)
      | apply WpA.regionM 13 mixed (by decide +kernel)
      | apply WpA.regionM 14 mixed (by decide +kernel)
      | apply WpA.regionM 15 mixed (by decide +kernel)
      | apply WpA.regionM 16 mixed (by decide +kernel)
      | apply WpA.regionM 17 mixed (by decide +kernel)
      | apply WpA.regionM 18 mixed (by decide +kernel)
      | apply WpA.regionM 19 mixed (by decide +kernel)
      | apply WpA.regionM 20 mixed (by decide +kernel)
      | apply WpA.regionM 21 mixed (by decide +kernel)
      | apply WpA.regionM 22 mixed (by decide +kernel)
      | apply WpA.regionM 23 mixed (by decide +kernel)
      | apply WpA.regionM 24 mixed (by decide +kernel)
      | apply WpA.regionM 25 mixed (by decide +kernel)
      | apply WpA.regionM 26 mixed (by decide +kernel)
      | apply WpA.regionM 27 mixed (by decide +kernel)
      | apply WpA.regionM 28 mixed (by decide +kernel)
      | apply WpA.regionM 29 mixed (by decide +kernel)
      | apply WpA.regionM 30 mixed (by decide +kernel)
      | apply WpA.regionM 31 mixed (by decide +kernel)
      | apply WpA.regionM 32 mixed (by decide +kernel)
      | refine WpA.regionD mixed (by decide +kernel) ?_)
    | refine Abs.Seq.ret ?_
    | refine Abs.Seq.exit ?_
    | refine Blk.n ?_
    | refine Blk.ret ?_
    | refine Blk.exitHere ?_
    | refine Blk.exitOther rfl ?_
    | refine Rnd.ret ?_
    | refine Rnd.exit ?_
    | exact Only.mk rfl
    | exact Abs.HeadJ.nil
    | apply Abs.HeadJ.cons rfl
    | (apply K.depT; simp only [deps, List.toList_toArray, List.filterMap_cons, List.filterMap_nil, Region.binds, if_true, List.nil_append, List.cons_append, List.getElem?_cons_succ, List.getElem?_cons_zero, List.getElem?_nil, reduceCtorEq, Bool.true_or, Bool.or_true]; exact rfl)
    | refine fun Tv => K.L ?_
    | (apply K.appT; simp only [List.nil_append, List.cons_append, List.append_assoc]; exact rfl)
    | (refine K.isTrue ?_; kernel_rfl)
    | exact rfl
    | contradiction
    | omega)
  all_goals refine Abs.Fin.ret (.one (.tmp rfl) .nil (by decide) (.keep ?_ rfl rfl .nil))
  all_goals first | (simp_all; done) | (simp; omega)

theorem l1In_c (n lo hi : Int) : FnC Try.prog 31 [I n, I lo, I hi] [] (B (decide (lo ≤ n ∧ n ≤ hi))) := by
  refine FnC.of_body tabOk Try.func31 Try.ntmps31 rfl (by decide +kernel) (by simp) fun G => ?_
  repeat' (first
    | (refine K.L ?_; first
      | (refine K.mv ?_; refine WpL.move rfl (by decide) ?_)
      | (refine K.call ?_; first
        | fail
        )
      | (refine K.bin ?_; first
        | refine WpL.add rfl rfl (by omega) (by decide) ?_
        | refine WpL.sub rfl rfl (by omega) (by decide) ?_
        | refine WpL.mul rfl rfl (by omega) (by decide) ?_
        | refine WpL.quo rfl rfl (by omega) (by decide) ?_
        | refine WpL.rem rfl rfl (by omega) (by decide) ?_
        | refine WpL.bin rfl rfl rfl (by decide) ?_
        | refine WpL.strAdd rfl rfl (by omega) (by decide) ?_
        | refine WpL.strEq rfl rfl (by decide) ?_
        | refine WpL.strNe rfl rfl (by decide) ?_
        | refine WpL.boolEq (K.tyBool tabOk rfl) rfl rfl (by decide) ?_
        | refine WpL.boolNe (K.tyBool tabOk rfl) rfl rfl (by decide) ?_
        | refine WpL.shl rfl rfl (by first | decide | (simp only [IntKind.bits]; omega)) (by decide) ?_
        | refine WpL.shr rfl rfl (by first | decide | (simp only [IntKind.bits]; omega)) (by decide) ?_)
      | (refine K.ld ?_; first
        | refine WpL.loadInts tabOk rfl rfl rfl (by first | omega | (simp; omega)) (by decide) ?_
        | refine WpL.loadU8s tabOk rfl rfl rfl (by first | omega | (simp; omega)) (by decide) ?_
        | refine WpL.loadStrs tabOk rfl rfl rfl (by first | omega | (simp; omega)) (by decide) ?_
        | refine WpL.loadBools tabOk rfl rfl rfl (by first | omega | (simp; omega)) (by decide) ?_
        | refine WpL.load1 tabOk rfl rfl rfl rfl rfl (by decide) ?_)
      | (refine K.asg ?_; refine WpL.assign rfl (by decide) ?_)
      | (refine K.fld ?_; first
        | refine WpL.fieldI tabOk rfl rfl rfl (by decide) ?_
        | refine WpL.fieldP tabOk rfl rfl rfl rfl rfl (by decide) ?_)
      | (refine K.ixa ?_; first
        | refine WpL.idxI tabOk rfl rfl rfl (by omega) (by decide) ?_
        | refine WpL.idxO tabOk rfl rfl rfl rfl rfl (by omega) (by decide) ?_)
      | (refine K.ix ?_; refine WpL.idxStr tabOk rfl rfl rfl (by omega) (by decide) ?_)
      | (refine K.bi ?_; first
        | refine WpL.lenImm (TabOk.slice tabOk rfl).1 rfl (by decide) ?_
        | refine WpL.lenOwn (TabOk.slice tabOk rfl).1 rfl rfl rfl (by decide) ?_
        | refine WpL.lenNil (TabOk.slice tabOk rfl).1 rfl (by decide) ?_
        | refine WpL.lenStr (K.tyStr tabOk rfl) rfl (by decide) ?_
        | refine WpL.app1Ints tabOk rfl rfl rfl (Nat.zero_le _) rfl rfl (by first | rfl | omega | (simp; done) | (simp; omega)) (by omega) (by decide) ?_
        | refine WpL.appInts tabOk rfl rfl rfl (Nat.zero_le _) rfl rfl (by first | rfl | omega | (simp; done) | (simp; omega)) (by first | rfl | omega | (simp; done) | (simp; omega)) (by omega) (by decide) ?_
        | refine WpL.nil1Ints tabOk rfl rfl rfl rfl (by omega) rfl (by decide) ?_
        | refine WpL.app1U8s tabOk rfl rfl rfl (Nat.zero_le _) rfl rfl (by first | rfl | omega | (simp; done) | (simp; omega)) (by omega) (by decide) ?_
        | refine WpL.appU8s tabOk rfl rfl rfl (Nat.zero_le _) rfl rfl (by first | rfl | omega | (simp; done) | (simp; omega)) (by first | rfl | omega | (simp; done) | (simp; omega)) (by omega) (by decide) ?_
        | refine WpL.nil1U8s tabOk rfl rfl rfl rfl (by omega) rfl (by decide) ?_
        | refine WpL.app1Strs tabOk rfl rfl rfl (Nat.zero_le _) rfl rfl (by first | rfl | omega | (simp; done) | (simp; omega)) (by omega) (by decide) ?_
        | refine WpL.appStrs tabOk rfl rfl rfl (Nat.zero_le _) rfl rfl (by first | rfl | omega | (simp; done) | (simp; omega)) (by first | rfl | omega | (simp; done) | (simp; omega)) (by omega) (by decide) ?_
        | refine WpL.nil1Strs tabOk rfl rfl rfl rfl (by omega) rfl (by decide) ?_
        | refine WpL.appOwn tabOk rfl rfl rfl rfl rfl rfl (by simp) (Nat.zero_le _) rfl rfl (by simp) (by simp [all_ints, all_u8s, all_strs, oneB, Value.oneCell']) (by omega) (by decide) ?_
        | refine WpL.appNil tabOk rfl rfl rfl rfl (by simp) (by simp [all_ints, all_u8s, all_strs, oneB, Value.oneCell']) (by omega) rfl (by decide) ?_
        | refine WpL.min2 rfl rfl (by decide) ?_
        | refine WpL.max2 rfl rfl (by decide) ?_)
      | (refine K.un ?_; first
        | refine WpL.not rfl (by decide) ?_
        | refine WpL.neg rfl (by omega) (by decide) ?_)
      | (refine K.pick ?_; first
        | refine WpL.pickT rfl rfl (by decide) ?_
        | refine WpL.pickF rfl rfl (by decide) ?_)
      | (refine K.ext ?_; refine WpL.extract rfl rfl (by first | decide | simp [AV.shL]) (by decide) ?_)
      | (refine K.cv ?_; first
        | refine WpL.convI (P := Try.prog) (by rfl) (K.tyInt tabOk rfl) rfl (by omega) (by decide) ?_
        | refine WpL.conv (P := Try.prog) (by rfl) (K.tyInt tabOk rfl) rfl (by decide) ?_
        | refine WpL.toBytes tabOk rfl rfl rfl rfl (by omega) rfl (by decide) ?_
        | refine WpL.ofBytes tabOk rfl rfl rfl rfl rfl (by simp) (by decide) ?_)
      | (refine K.lit ?_; first
        | refine WpL.lit0U8s tabOk rfl rfl rfl (by decide) ?_
        | refine WpL.lit0Ints tabOk rfl rfl rfl (by decide) ?_
        | refine WpL.lit0Bools tabOk rfl rfl rfl (by decide) ?_
        | refine WpL.lit0Strs tabOk rfl rfl rfl (by decide) ?_
        | refine WpL.litF tabOk rfl rfl rfl rfl (by decide) rfl (by decide) ?_)
      | (refine K.ms ?_; first
        | refine WpL.makeInts tabOk rfl rfl rfl (by omega) (by omega) rfl (by decide) ?_
        | refine WpL.makeStrs tabOk rfl rfl rfl (by omega) (by omega) rfl (by decide) ?_
        | refine WpL.makeBools tabOk rfl rfl rfl (by omega) (by omega) rfl (by decide) ?_
        | refine WpL.makeU8s tabOk rfl rfl rfl (by omega) (by omega) rfl (by decide) ?_)
      | (refine K.st ?_; first
        | refine WpL.storeInts tabOk rfl rfl rfl rfl rfl (by first | omega | (simp; omega)) ?_
        | refine WpL.storeU8s tabOk rfl rfl rfl rfl rfl (by first | omega | (simp; omega)) ?_
        | refine WpL.storeBools tabOk rfl rfl rfl rfl rfl (by first | omega | (simp; omega)) ?_
        | refine WpL.storeStrs tabOk rfl rfl rfl rfl rfl (by first | omega | (simp; omega)) ?_
        | refine WpL.store tabOk rfl rfl rfl rfl rfl rfl rfl rfl (by first | omega | (simp; omega) | (simp; done)) ?_)
      | (refine K.all ?_; first
        | refine WpL.allocStruct tabOk rfl rfl (by decide) ?_
        | refine WpL.allocPlain tabOk rfl rfl rfl (by decide) ?_)
      | (refine K.box ?_; refine WpL.box rfl rfl rfl (by decide) ?_)
      | (refine K.nc ?_; first
        | refine WpL.nilCheckP rfl rfl rfl (by decide) ?_
        | refine WpL.nilCheckI rfl (by decide) ?_)
      | (refine K.sl ?_; first
        | refine WpL.subStr tabOk rfl rfl (by first | exact .inl ⟨rfl, rfl⟩ | exact .inr ⟨_, _, rfl, rfl⟩) (by first | exact .inl ⟨rfl, rfl⟩ | exact .inr ⟨_, _, rfl, rfl⟩) (by omega) (by decide) ?_
        | refine WpL.subImm tabOk rfl rfl (by first | exact .inl ⟨rfl, rfl⟩ | exact .inr ⟨_, _, rfl, rfl⟩) (by first | exact .inl ⟨rfl, rfl⟩ | exact .inr ⟨_, _, rfl, rfl⟩) (by omega) (by decide) ?_)
      | (refine K.gd ?_; first
        | refine K.gT rfl (by decide) rfl ?_
        | refine K.gF rfl (by decide) rfl ?_
        | refine K.gD rfl rfl (fun _ => ?_) (fun _ => ?_)
        | refine K.gN rfl rfl (fun _ => ?_) (fun _ => ?_)
        | refine K.gS rfl rfl (fun _ => ?_) (fun _ => ?_)))
    | refine WpL.nil ?_
    | refine Abs.Seq.n ?_
    | (refine K.A ?_; first
      | refine WpA.seq ?_
      | refine WpA.region ?_
      | (refine K.cond ?_; first
        | refine WpA.condT rfl ?_
        | refine WpA.condF rfl ?_
        | refine WpA.condD rfl (fun _ => ?_) (fun _ => ?_)
        | refine WpA.condN rfl (fun _ => ?_) (fun _ => ?_)
        | refine WpA.condS rfl (fun _ => ?_) (fun _ => ?_))
      | refine WpA.block ?_
      | refine WpA.ret ?_
      | refine WpA.exit ?_
      | refine WpA.skip ?_
      | apply WpA.regionM 1 mixed (by decide +kernel)
      | apply WpA.regionM 2 mixed (by decide +kernel)
      | apply WpA.regionM 3 mixed (by decide +kernel)
      | apply WpA.regionM 4 mixed (by decide +kernel)
      | apply WpA.regionM 5 mixed (by decide +kernel)
      | apply WpA.regionM 6 mixed (by decide +kernel)
      | apply WpA.regionM 7 mixed (by decide +kernel)
      | apply WpA.regionM 8 mixed (by decide +kernel)
      | apply WpA.regionM 9 mixed (by decide +kernel)
      | apply WpA.regionM 10 mixed (by decide +kernel)
      | apply WpA.regionM 11 mixed (by decide +kernel)
      | apply WpA.regionM 12 mixed (by decide +kernel)
      | apply WpA.regionM 13 mixed (by decide +kernel)
      | apply WpA.regionM 14 mixed (by decide +kernel)
      | apply WpA.regionM 15 mixed (by decide +kernel)
      | apply WpA.regionM 16 mixed (by decide +kernel)
      | apply WpA.regionM 17 mixed (by decide +kernel)
      | apply WpA.regionM 18 mixed (by decide +kernel)
      | apply WpA.regionM 19 mixed (by decide +kernel)
      | apply WpA.regionM 20 mixed (by decide +kernel)
      | apply WpA.regionM 21 mixed (by decide +kernel)
      | apply WpA.regionM 22 mixed (by decide +kernel)
      | apply WpA.regionM 23 mixed (by decide +kernel)
      | apply WpA.regionM 24 mixed (by decide +kernel)
      | apply WpA.regionM 25 mixed (by decide +kernel)
      | apply WpA.regionM 26 mixed (by decide +kernel)
      | apply WpA.regionM 27 mixed (by decide +kernel)
      | apply WpA.regionM 28 mixed (by decide +kernel)
      | apply WpA.regionM 29 mixed (by decide +kernel)
      | apply WpA.regionM 30 mixed (by decide +kernel)
      | apply WpA.regionM 31 mixed (by decide +kernel)
      | apply WpA.regionM 32 mixed (by decide +kernel)
      | refine WpA.regionD mixed (by decide +kernel) ?_)
    | refine Abs.Seq.ret ?_
    | refine Abs.Seq.exit ?_
    | refine Blk.n ?_
    | refine Blk.ret ?_
    | refine Blk.exitHere ?_
    | refine Blk.exitOther rfl ?_
    | refine Rnd.ret ?_
    | refine Rnd.exit ?_
    | exact Only.mk rfl
    | exact Abs.HeadJ.nil
    | apply Abs.HeadJ.cons rfl
    | (apply K.depT; simp only [deps, List.toList_toArray, List.filterMap_cons, List.filterMap_nil, Region.binds, if_true, List.nil_append, List.cons_append, List.getElem?_cons_succ, List.getElem?_cons_zero, List.getElem?_nil, reduceCtorEq, Bool.true_or, Bool.or_true]; exact rfl)
    | refine fun Tv => K.L ?_
    | (apply K.appT; simp only [List.nil_append, List.cons_append, List.append_assoc]; exact rfl)
    | (refine K.isTrue ?_; kernel_rfl)
    | exact rfl
    | contradiction
    | omega)
  all_goals refine Abs.Fin.ret (.one (.tmp rfl) .nil (by decide) (.keep ?_ rfl rfl .nil))
  all_goals first | (simp_all; done) | (simp; omega)

theorem limited_c (n lo hi : Int) : FnC Try.prog 36 [I n, I lo, I hi] [] (I (max lo (min n hi))) := by
  refine FnC.of_body tabOk Try.func36 Try.ntmps36 rfl (by decide +kernel) (by simp) fun G => ?_
  repeat' (first
    | (refine K.L ?_; first
      | (refine K.mv ?_; refine WpL.move rfl (by decide) ?_)
      | (refine K.call ?_; first
        | fail
        )
      | (refine K.bin ?_; first
        | refine WpL.add rfl rfl (by omega) (by decide) ?_
        | refine WpL.sub rfl rfl (by omega) (by decide) ?_
        | refine WpL.mul rfl rfl (by omega) (by decide) ?_
        | refine WpL.quo rfl rfl (by omega) (by decide) ?_
        | refine WpL.rem rfl rfl (by omega) (by decide) ?_
        | refine WpL.bin rfl rfl rfl (by decide) ?_
        | refine WpL.strAdd rfl rfl (by omega) (by decide) ?_
        | refine WpL.strEq rfl rfl (by decide) ?_
        | refine WpL.strNe rfl rfl (by decide) ?_
        | refine WpL.boolEq (K.tyBool tabOk rfl) rfl rfl (by decide) ?_
        | refine WpL.boolNe (K.tyBool tabOk rfl) rfl rfl (by decide) ?_
        | refine WpL.shl rfl rfl (by first | decide | (simp only [IntKind.bits]; omega)) (by decide) ?_
        | refine WpL.shr rfl rfl (by first | decide | (simp only [IntKind.bits]; omega)) (by decide) ?_)
      | (refine K.ld ?_; first
        | refine WpL.loadInts tabOk rfl rfl rfl (by first | omega | (simp; omega)) (by decide) ?_
        | refine WpL.loadU8s tabOk rfl rfl rfl (by first | omega | (simp; omega)) (by decide) ?_
        | refine WpL.loadStrs tabOk rfl rfl rfl (by first | omega | (simp; omega)) (by decide) ?_
        | refine WpL.loadBools tabOk rfl rfl rfl (by first | omega | (simp; omega)) (by decide) ?_
        | refine WpL.load1 tabOk rfl rfl rfl rfl rfl (by decide) ?_)
      | (refine K.asg ?_; refine WpL.assign rfl (by decide) ?_)
      | (refine K.fld ?_; first
        | refine WpL.fieldI tabOk rfl rfl rfl (by decide) ?_
        | refine WpL.fieldP tabOk rfl rfl rfl rfl rfl (by decide) ?_)
      | (refine K.ixa ?_; first
        | refine WpL.idxI tabOk rfl rfl rfl (by omega) (by decide) ?_
        | refine WpL.idxO tabOk rfl rfl rfl rfl rfl (by omega) (by decide) ?_)
      | (refine K.ix ?_; refine WpL.idxStr tabOk rfl rfl rfl (by omega) (by decide) ?_)
      | (refine K.bi ?_; first
        | refine WpL.lenImm (TabOk.slice tabOk rfl).1 rfl (by decide) ?_
        | refine WpL.lenOwn (TabOk.slice tabOk rfl).1 rfl rfl rfl (by decide) ?_
        | refine WpL.lenNil (TabOk.slice tabOk rfl).1 rfl (by decide) ?_
        | refine WpL.lenStr (K.tyStr tabOk rfl) rfl (by decide) ?_
        | refine WpL.app1Ints tabOk rfl rfl rfl (Nat.zero_le _) rfl rfl (by first | rfl | omega | (simp; done) | (simp; omega)) (by omega) (by decide) ?_
        | refine WpL.appInts tabOk rfl rfl rfl (Nat.zero_le _) rfl rfl (by first | rfl | omega | (simp; done) | (simp; omega)) (by first | rfl | omega | (simp; done) | (simp; omega)) (by omega) (by decide) ?_
        | refine WpL.nil1Ints tabOk rfl rfl rfl rfl (by omega) rfl (by decide) ?_
        | refine WpL.app1U8s tabOk rfl rfl rfl (Nat.zero_le _) rfl rfl (by first | rfl | omega | (simp; done) | (simp; omega)) (by omega) (by decide) ?_
        | refine WpL.appU8s tabOk rfl rfl rfl (Nat.zero_le _) rfl rfl (by first | rfl | omega | (simp; done) | (simp; omega)) (by first | rfl | omega | (simp; done) | (simp; omega)) (by omega) (by decide) ?_
        | refine WpL.nil1U8s tabOk rfl rfl rfl rfl (by omega) rfl (by decide) ?_
        | refine WpL.app1Strs tabOk rfl rfl rfl (Nat.zero_le _) rfl rfl (by first | rfl | omega | (simp; done) | (simp; omega)) (by omega) (by decide) ?_
        | refine WpL.appStrs tabOk rfl rfl rfl (Nat.zero_le _) rfl rfl (by first | rfl | omega | (simp; done) | (simp; omega)) (by first | rfl | omega | (simp; done) | (simp; omega)) (by omega) (by decide) ?_
        | refine WpL.nil1Strs tabOk rfl rfl rfl rfl (by omega) rfl (by decide) ?_
        | refine WpL.appOwn tabOk rfl rfl rfl rfl rfl rfl (by simp) (Nat.zero_le _) rfl rfl (by simp) (by simp [all_ints, all_u8s, all_strs, oneB, Value.oneCell']) (by omega) (by decide) ?_
        | refine WpL.appNil tabOk rfl rfl rfl rfl (by simp) (by simp [all_ints, all_u8s, all_strs, oneB, Value.oneCell']) (by omega) rfl (by decide) ?_
        | refine WpL.min2 rfl rfl (by decide) ?_
        | refine WpL.max2 rfl rfl (by decide) ?_)
      | (refine K.un ?_; first
        | refine WpL.not rfl (by decide) ?_
        | refine WpL.neg rfl (by omega) (by decide) ?_)
      | (refine K.pick ?_; first
        | refine WpL.pickT rfl rfl (by decide) ?_
        | refine WpL.pickF rfl rfl (by decide) ?_)
      | (refine K.ext ?_; refine WpL.extract rfl rfl (by first | decide | simp [AV.shL]) (by decide) ?_)
      | (refine K.cv ?_; first
        | refine WpL.convI (P := Try.prog) (by rfl) (K.tyInt tabOk rfl) rfl (by omega) (by decide) ?_
        | refine WpL.conv (P := Try.prog) (by rfl) (K.tyInt tabOk rfl) rfl (by decide) ?_
        | refine WpL.toBytes tabOk rfl rfl rfl rfl (by omega) rfl (by decide) ?_
        | refine WpL.ofBytes tabOk rfl rfl rfl rfl rfl (by simp) (by decide) ?_)
      | (refine K.lit ?_; first
        | refine WpL.lit0U8s tabOk rfl rfl rfl (by decide) ?_
        | refine WpL.lit0Ints tabOk rfl rfl rfl (by decide) ?_
        | refine WpL.lit0Bools tabOk rfl rfl rfl (by decide) ?_
        | refine WpL.lit0Strs tabOk rfl rfl rfl (by decide) ?_
        | refine WpL.litF tabOk rfl rfl rfl rfl (by decide) rfl (by decide) ?_)
      | (refine K.ms ?_; first
        | refine WpL.makeInts tabOk rfl rfl rfl (by omega) (by omega) rfl (by decide) ?_
        | refine WpL.makeStrs tabOk rfl rfl rfl (by omega) (by omega) rfl (by decide) ?_
        | refine WpL.makeBools tabOk rfl rfl rfl (by omega) (by omega) rfl (by decide) ?_
        | refine WpL.makeU8s tabOk rfl rfl rfl (by omega) (by omega) rfl (by decide) ?_)
      | (refine K.st ?_; first
        | refine WpL.storeInts tabOk rfl rfl rfl rfl rfl (by first | omega | (simp; omega)) ?_
        | refine WpL.storeU8s tabOk rfl rfl rfl rfl rfl (by first | omega | (simp; omega)) ?_
        | refine WpL.storeBools tabOk rfl rfl rfl rfl rfl (by first | omega | (simp; omega)) ?_
        | refine WpL.storeStrs tabOk rfl rfl rfl rfl rfl (by first | omega | (simp; omega)) ?_
        | refine WpL.store tabOk rfl rfl rfl rfl rfl rfl rfl rfl (by first | omega | (simp; omega) | (simp; done)) ?_)
      | (refine K.all ?_; first
        | refine WpL.allocStruct tabOk rfl rfl (by decide) ?_
        | refine WpL.allocPlain tabOk rfl rfl rfl (by decide) ?_)
      | (refine K.box ?_; refine WpL.box rfl rfl rfl (by decide) ?_)
      | (refine K.nc ?_; first
        | refine WpL.nilCheckP rfl rfl rfl (by decide) ?_
        | refine WpL.nilCheckI rfl (by decide) ?_)
      | (refine K.sl ?_; first
        | refine WpL.subStr tabOk rfl rfl (by first | exact .inl ⟨rfl, rfl⟩ | exact .inr ⟨_, _, rfl, rfl⟩) (by first | exact .inl ⟨rfl, rfl⟩ | exact .inr ⟨_, _, rfl, rfl⟩) (by omega) (by decide) ?_
        | refine WpL.subImm tabOk rfl rfl (by first | exact .inl ⟨rfl, rfl⟩ | exact .inr ⟨_, _, rfl, rfl⟩) (by first | exact .inl ⟨rfl, rfl⟩ | exact .inr ⟨_, _, rfl, rfl⟩) (by omega) (by decide) ?_)
      | (refine K.gd ?_; first
        | refine K.gT rfl (by decide) rfl ?_
        | refine K.gF rfl (by decide) rfl ?_
        | refine K.gD rfl rfl (fun _ => ?_) (fun _ => ?_)
        | refine K.gN rfl rfl (fun _ => ?_) (fun _ => ?_)
        | refine K.gS rfl rfl (fun _ => ?_) (fun _ => ?_)))
    | refine WpL.nil ?_
    | refine Abs.Seq.n ?_
    | (refine K.A ?_; first
      | refine WpA.seq ?_
      | refine WpA.region ?_
      | (refine K.cond ?_; first
        | refine WpA.condT rfl ?_
        | refine WpA.condF rfl ?_
        | refine WpA.condD rfl (fun _ => ?_) (fun _ => ?_)
        | refine WpA.condN rfl (fun _ => ?_) (fun _ => ?_)
        | refine WpA.condS rfl (fun _ => ?_) (fun _ => ?_))
      | refine WpA.block ?_
      | refine WpA.ret ?_
      | refine WpA.exit ?_
      | refine WpA.skip ?_
      | apply WpA.regionM 1 mixed (by decide +kernel)
      | apply WpA.regionM 2 mixed (by decide +kernel)
      | apply WpA.regionM 3 mixed (by decide +kernel)
      | apply WpA.regionM 4 mixed (by decide +kernel)
      | apply WpA.regionM 5 mixed (by decide +kernel)
      | apply WpA.regionM 6 mixed (by decide +kernel)
      | apply WpA.regionM 7 mixed (by decide +kernel)
      | apply WpA.regionM 8 mixed (by decide +kernel)
      | apply WpA.regionM 9 mixed (by decide +kernel)
      | apply WpA.regionM 10 mixed (by decide +kernel)
      | apply WpA.regionM 11 mixed (by decide +kernel)
      | apply WpA.regionM 12 mixed (by decide +kernel)
      | apply WpA.regionM 13 mixed (by decide +kernel)
      | apply WpA.regionM 14 mixed (by decide +kernel)
      | apply WpA.regionM 15 mixed (by decide +kernel)
      | apply WpA.regionM 16 mixed (by decide +kernel)
      | apply WpA.regionM 17 mixed (by decide +kernel)
      | apply WpA.regionM 18 mixed (by decide +kernel)
      | apply WpA.regionM 19 mixed (by decide +kernel)
      | apply WpA.regionM 20 mixed (by decide +kernel)
      | apply WpA.regionM 21 mixed (by decide +kernel)
      | apply WpA.regionM 22 mixed (by decide +kernel)
      | apply WpA.regionM 23 mixed (by decide +kernel)
      | apply WpA.regionM 24 mixed (by decide +kernel)
      | apply WpA.regionM 25 mixed (by decide +kernel)
      | apply WpA.regionM 26 mixed (by decide +kernel)
      | apply WpA.regionM 27 mixed (by decide +kernel)
      | apply WpA.regionM 28 mixed (by decide +kernel)
      | apply WpA.regionM 29 mixed (by decide +kernel)
      | apply WpA.regionM 30 mixed (by decide +kernel)
      | apply WpA.regionM 31 mixed (by decide +kernel)
      | apply WpA.regionM 32 mixed (by decide +kernel)
      | refine WpA.regionD mixed (by decide +kernel) ?_)
    | refine Abs.Seq.ret ?_
    | refine Abs.Seq.exit ?_
    | refine Blk.n ?_
    | refine Blk.ret ?_
    | refine Blk.exitHere ?_
    | refine Blk.exitOther rfl ?_
    | refine Rnd.ret ?_
    | refine Rnd.exit ?_
    | exact Only.mk rfl
    | exact Abs.HeadJ.nil
    | apply Abs.HeadJ.cons rfl
    | (apply K.depT; simp only [deps, List.toList_toArray, List.filterMap_cons, List.filterMap_nil, Region.binds, if_true, List.nil_append, List.cons_append, List.getElem?_cons_succ, List.getElem?_cons_zero, List.getElem?_nil, reduceCtorEq, Bool.true_or, Bool.or_true]; exact rfl)
    | refine fun Tv => K.L ?_
    | (apply K.appT; simp only [List.nil_append, List.cons_append, List.append_assoc]; exact rfl)
    | (refine K.isTrue ?_; kernel_rfl)
    | exact rfl
    | contradiction
    | omega)
  refine Abs.Fin.ret (.one (.tmp rfl) .nil (by decide) (.keep ?_ rfl rfl .nil))
  rfl

theorem l20Abs_c (n : Int) (h : -9223372036854775807 ≤ n ∧ n ≤ 9223372036854775807) : FnC Try.prog 35 [I n] [] (I (max n (-n))) := by
  refine FnC.of_body tabOk Try.func35 Try.ntmps35 rfl (by decide +kernel) (by simp) fun G => ?_
  repeat' (first
    | (refine K.L ?_; first
      | (refine K.mv ?_; refine WpL.move rfl (by decide) ?_)
      | (refine K.call ?_; first
        | fail
        )
      | (refine K.bin ?_; first
        | refine WpL.add rfl rfl (by omega) (by decide) ?_
        | refine WpL.sub rfl rfl (by omega) (by decide) ?_
        | refine WpL.mul rfl rfl (by omega) (by decide) ?_
        | refine WpL.quo rfl rfl (by omega) (by decide) ?_
        | refine WpL.rem rfl rfl (by omega) (by decide) ?_
        | refine WpL.bin rfl rfl rfl (by decide) ?_
        | refine WpL.strAdd rfl rfl (by omega) (by decide) ?_
        | refine WpL.strEq rfl rfl (by decide) ?_
        | refine WpL.strNe rfl rfl (by decide) ?_
        | refine WpL.boolEq (K.tyBool tabOk rfl) rfl rfl (by decide) ?_
        | refine WpL.boolNe (K.tyBool tabOk rfl) rfl rfl (by decide) ?_
        | refine WpL.shl rfl rfl (by first | decide | (simp only [IntKind.bits]; omega)) (by decide) ?_
        | refine WpL.shr rfl rfl (by first | decide | (simp only [IntKind.bits]; omega)) (by decide) ?_)
      | (refine K.ld ?_; first
        | refine WpL.loadInts tabOk rfl rfl rfl (by first | omega | (simp; omega)) (by decide) ?_
        | refine WpL.loadU8s tabOk rfl rfl rfl (by first | omega | (simp; omega)) (by decide) ?_
        | refine WpL.loadStrs tabOk rfl rfl rfl (by first | omega | (simp; omega)) (by decide) ?_
        | refine WpL.loadBools tabOk rfl rfl rfl (by first | omega | (simp; omega)) (by decide) ?_
        | refine WpL.load1 tabOk rfl rfl rfl rfl rfl (by decide) ?_)
      | (refine K.asg ?_; refine WpL.assign rfl (by decide) ?_)
      | (refine K.fld ?_; first
        | refine WpL.fieldI tabOk rfl rfl rfl (by decide) ?_
        | refine WpL.fieldP tabOk rfl rfl rfl rfl rfl (by decide) ?_)
      | (refine K.ixa ?_; first
        | refine WpL.idxI tabOk rfl rfl rfl (by omega) (by decide) ?_
        | refine WpL.idxO tabOk rfl rfl rfl rfl rfl (by omega) (by decide) ?_)
      | (refine K.ix ?_; refine WpL.idxStr tabOk rfl rfl rfl (by omega) (by decide) ?_)
      | (refine K.bi ?_; first
        | refine WpL.lenImm (TabOk.slice tabOk rfl).1 rfl (by decide) ?_
        | refine WpL.lenOwn (TabOk.slice tabOk rfl).1 rfl rfl rfl (by decide) ?_
        | refine WpL.lenNil (TabOk.slice tabOk rfl).1 rfl (by decide) ?_
        | refine WpL.lenStr (K.tyStr tabOk rfl) rfl (by decide) ?_
        | refine WpL.app1Ints tabOk rfl rfl rfl (Nat.zero_le _) rfl rfl (by first | rfl | omega | (simp; done) | (simp; omega)) (by omega) (by decide) ?_
        | refine WpL.appInts tabOk rfl rfl rfl (Nat.zero_le _) rfl rfl (by first | rfl | omega | (simp; done) | (simp; omega)) (by first | rfl | omega | (simp; done) | (simp; omega)) (by omega) (by decide) ?_
        | refine WpL.nil1Ints tabOk rfl rfl rfl rfl (by omega) rfl (by decide) ?_
        | refine WpL.app1U8s tabOk rfl rfl rfl (Nat.zero_le _) rfl rfl (by first | rfl | omega | (simp; done) | (simp; omega)) (by omega) (by decide) ?_
        | refine WpL.appU8s tabOk rfl rfl rfl (Nat.zero_le _) rfl rfl (by first | rfl | omega | (simp; done) | (simp; omega)) (by first | rfl | omega | (simp; done) | (simp; omega)) (by omega) (by decide) ?_
        | refine WpL.nil1U8s tabOk rfl rfl rfl rfl (by omega) rfl (by decide) ?_
        | refine WpL.app1Strs tabOk rfl rfl rfl (Nat.zero_le _) rfl rfl (by first | rfl | omega | (simp; done) | (simp; omega)) (by omega) (by decide) ?_
        | refine WpL.appStrs tabOk rfl rfl rfl (Nat.zero_le _) rfl rfl (by first | rfl | omega | (simp; done) | (simp; omega)) (by first | rfl | omega | (simp; done) | (simp; omega)) (by omega) (by decide) ?_
        | refine WpL.nil1Strs tabOk rfl rfl rfl rfl (by omega) rfl (by decide) ?_
        | refine WpL.appOwn tabOk rfl rfl rfl rfl rfl rfl (by simp) (Nat.zero_le _) rfl rfl (by simp) (by simp [all_ints, all_u8s, all_strs, oneB, Value.oneCell']) (by omega) (by decide) ?_
        | refine WpL.appNil tabOk rfl rfl rfl rfl (by simp) (by simp [all_ints, all_u8s, all_strs, oneB, Value.oneCell']) (by omega) rfl (by decide) ?_
        | refine WpL.min2 rfl rfl (by decide) ?_
        | refine WpL.max2 rfl rfl (by decide) ?_)
      | (refine K.un ?_; first
        | refine WpL.not rfl (by decide) ?_
        | refine WpL.neg rfl (by omega) (by decide) ?_)
      | (refine K.pick ?_; first
        | refine WpL.pickT rfl rfl (by decide) ?_
        | refine WpL.pickF rfl rfl (by decide) ?_)
      | (refine K.ext ?_; refine WpL.extract rfl rfl (by first | decide | simp [AV.shL]) (by decide) ?_)
      | (refine K.cv ?_; first
        | refine WpL.convI (P := Try.prog) (by rfl) (K.tyInt tabOk rfl) rfl (by omega) (by decide) ?_
        | refine WpL.conv (P := Try.prog) (by rfl) (K.tyInt tabOk rfl) rfl (by decide) ?_
        | refine WpL.toBytes tabOk rfl rfl rfl rfl (by omega) rfl (by decide) ?_
        | refine WpL.ofBytes tabOk rfl rfl rfl rfl rfl (by simp) (by decide) ?_)
      | (refine K.lit ?_; first
        | refine WpL.lit0U8s tabOk rfl rfl rfl (by decide) ?_
        | refine WpL.lit0Ints tabOk rfl rfl rfl (by decide) ?_
        | refine WpL.lit0Bools tabOk rfl rfl rfl (by decide) ?_
        | refine WpL.lit0Strs tabOk rfl rfl rfl (by decide) ?_
        | refine WpL.litF tabOk rfl rfl rfl rfl (by decide) rfl (by decide) ?_)
      | (refine K.ms ?_; first
        | refine WpL.makeInts tabOk rfl rfl rfl (by omega) (by omega) rfl (by decide) ?_
        | refine WpL.makeStrs tabOk rfl rfl rfl (by omega) (by omega) rfl (by decide) ?_
        | refine WpL.makeBools tabOk rfl rfl rfl (by omega) (by omega) rfl (by decide) ?_
        | refine WpL.makeU8s tabOk rfl rfl rfl (by omega) (by omega) rfl (by decide) ?_)
      | (refine K.st ?_; first
        | refine WpL.storeInts tabOk rfl rfl rfl rfl rfl (by first | omega | (simp; omega)) ?_
        | refine WpL.storeU8s tabOk rfl rfl rfl rfl rfl (by first | omega | (simp; omega)) ?_
        | refine WpL.storeBools tabOk rfl rfl rfl rfl rfl (by first | omega | (simp; omega)) ?_
        | refine WpL.storeStrs tabOk rfl rfl rfl rfl rfl (by first | omega | (simp; omega)) ?_
        | refine WpL.store tabOk rfl rfl rfl rfl rfl rfl rfl rfl (by first | omega | (simp; omega) | (simp; done)) ?_)
      | (refine K.all ?_; first
        | refine WpL.allocStruct tabOk rfl rfl (by decide) ?_
        | refine WpL.allocPlain tabOk rfl rfl rfl (by decide) ?_)
      | (refine K.box ?_; refine WpL.box rfl rfl rfl (by decide) ?_)
      | (refine K.nc ?_; first
        | refine WpL.nilCheckP rfl rfl rfl (by decide) ?_
        | refine WpL.nilCheckI rfl (by decide) ?_)
      | (refine K.sl ?_; first
        | refine WpL.subStr tabOk rfl rfl (by first | exact .inl ⟨rfl, rfl⟩ | exact .inr ⟨_, _, rfl, rfl⟩) (by first | exact .inl ⟨rfl, rfl⟩ | exact .inr ⟨_, _, rfl, rfl⟩) (by omega) (by decide) ?_
        | refine WpL.subImm tabOk rfl rfl (by first | exact .inl ⟨rfl, rfl⟩ | exact .inr ⟨_, _, rfl, rfl⟩) (by first | exact .inl ⟨rfl, rfl⟩ | exact .inr ⟨_, _, rfl, rfl⟩) (by omega) (by decide) ?_)
      | (refine K.gd ?_; first
        | refine K.gT rfl (by decide) rfl ?_
        | refine K.gF rfl (by decide) rfl ?_
        | refine K.gD rfl rfl (fun _ => ?_) (fun _ => ?_)
        | refine K.gN rfl rfl (fun _ => ?_) (fun _ => ?_)
        | refine K.gS rfl rfl (fun _ => ?_) (fun _ => ?_)))
    | refine WpL.nil ?_
    | refine Abs.Seq.n ?_
    | (refine K.A ?_; first
      | refine WpA.seq ?_
      | refine WpA.region ?_
      | (refine K.cond ?_; first
        | refine WpA.condT rfl ?_
        | refine WpA.condF rfl ?_
        | refine WpA.condD rfl (fun _ => ?_) (fun _ => ?_)
        | refine WpA.condN rfl (fun _ => ?_) (fun _ => ?_)
        | refine WpA.condS rfl (fun _ => ?_) (fun _ => ?_))
      | refine WpA.block ?_
      | refine WpA.ret ?_
      | refine WpA.exit ?_
      | refine WpA.skip ?_
      | apply WpA.regionM 1 mixed (by decide +kernel)
      | apply WpA.regionM 2 mixed (by decide +kernel)
      | apply WpA.regionM 3 mixed (by decide +kernel)
      | apply WpA.regionM 4 mixed (by decide +kernel)
      | apply WpA.regionM 5 mixed (by decide +kernel)
      | apply WpA.regionM 6 mixed (by decide +kernel)
      | apply WpA.regionM 7 mixed (by decide +kernel)
      | apply WpA.regionM 8 mixed (by decide +kernel)
      | apply WpA.regionM 9 mixed (by decide +kernel)
      | apply WpA.regionM 10 mixed (by decide +kernel)
      | apply WpA.regionM 11 mixed (by decide +kernel)
      | apply WpA.regionM 12 mixed (by decide +kernel)
      | apply WpA.regionM 13 mixed (by decide +kernel)
      | apply WpA.regionM 14 mixed (by decide +kernel)
      | apply WpA.regionM 15 mixed (by decide +kernel)
      | apply WpA.regionM 16 mixed (by decide +kernel)
      | apply WpA.regionM 17 mixed (by decide +kernel)
      | apply WpA.regionM 18 mixed (by decide +kernel)
      | apply WpA.regionM 19 mixed (by decide +kernel)
      | apply WpA.regionM 20 mixed (by decide +kernel)
      | apply WpA.regionM 21 mixed (by decide +kernel)
      | apply WpA.regionM 22 mixed (by decide +kernel)
      | apply WpA.regionM 23 mixed (by decide +kernel)
      | apply WpA.regionM 24 mixed (by decide +kernel)
      | apply WpA.regionM 25 mixed (by decide +kernel)
      | apply WpA.regionM 26 mixed (by decide +kernel)
      | apply WpA.regionM 27 mixed (by decide +kernel)
      | apply WpA.regionM 28 mixed (by decide +kernel)
      | apply WpA.regionM 29 mixed (by decide +kernel)
      | apply WpA.regionM 30 mixed (by decide +kernel)
      | apply WpA.regionM 31 mixed (by decide +kernel)
      | apply WpA.regionM 32 mixed (by decide +kernel)
      | refine WpA.regionD mixed (by decide +kernel) ?_)
    | refine Abs.Seq.ret ?_
    | refine Abs.Seq.exit ?_
    | refine Blk.n ?_
    | refine Blk.ret ?_
    | refine Blk.exitHere ?_
    | refine Blk.exitOther rfl ?_
    | refine Rnd.ret ?_
    | refine Rnd.exit ?_
    | exact Only.mk rfl
    | exact Abs.HeadJ.nil
    | apply Abs.HeadJ.cons rfl
    | (apply K.depT; simp only [deps, List.toList_toArray, List.filterMap_cons, List.filterMap_nil, Region.binds, if_true, List.nil_append, List.cons_append, List.getElem?_cons_succ, List.getElem?_cons_zero, List.getElem?_nil, reduceCtorEq, Bool.true_or, Bool.or_true]; exact rfl)
    | refine fun Tv => K.L ?_
    | (apply K.appT; simp only [List.nil_append, List.cons_append, List.append_assoc]; exact rfl)
    | (refine K.isTrue ?_; kernel_rfl)
    | exact rfl
    | contradiction
    | omega)
  all_goals refine Abs.Fin.ret (.one (.tmp rfl) .nil (by decide) (.keep ?_ rfl rfl .nil))
  all_goals refine congrArg (fun z => AV.sc (Value.int .i64 z)) ?_
  all_goals omega

def clampM (v : Int) : Int := max (-1000000) (min v 1000000)
def costs (xs : List Int) : Int := (xs.map fun v => max (clampM v) (- clampM v)).sum
theorem costs_bd (xs : List Int) : 0 ≤ costs xs ∧ costs xs ≤ 1000000 * xs.length := by
  induction xs with
  | nil => simp [costs]
  | cons x xs ih => simp only [costs, List.map_cons, List.sum_cons, List.length_cons, clampM] at ih ⊢; omega
theorem costs_snoc (xs : List Int) (k : Nat) (h : k < xs.length) : costs (xs.take (k + 1)) = costs (xs.take k) + max (clampM (xs.getD k 0)) (- clampM (xs.getD k 0)) := by
  unfold costs; rw [List.take_succ_eq_append_getElem h, List.map_append, List.sum_append]; simp [List.getElem?_eq_getElem h]

theorem CostOf_c (xs : List Int) (hl : xs.length ≤ 1099511627776) : FnC Try.prog 15 [.imm 1 xs.length (ints xs)] [] (I (costs xs)) := by
  refine FnC.of_body tabOk Try.func15 Try.ntmps15 rfl (by decide +kernel) (by simp) fun G => ?_
  repeat' (first
    | (refine K.L ?_; first
      | (refine K.mv ?_; refine WpL.move rfl (by decide) ?_)
      | (refine K.call ?_; first
        | fail
        )
      | (refine K.bin ?_; first
        | refine WpL.add rfl rfl (by omega) (by decide) ?_
        | refine WpL.sub rfl rfl (by omega) (by decide) ?_
        | refine WpL.mul rfl rfl (by omega) (by decide) ?_
        | refine WpL.quo rfl rfl (by omega) (by decide) ?_
        | refine WpL.rem rfl rfl (by omega) (by decide) ?_
        | refine WpL.bin rfl rfl rfl (by decide) ?_
        | refine WpL.strAdd rfl rfl (by omega) (by decide) ?_
        | refine WpL.strEq rfl rfl (by decide) ?_
        | refine WpL.strNe rfl rfl (by decide) ?_
        | refine WpL.boolEq (K.tyBool tabOk rfl) rfl rfl (by decide) ?_
        | refine WpL.boolNe (K.tyBool tabOk rfl) rfl rfl (by decide) ?_
        | refine WpL.shl rfl rfl (by first | decide | (simp only [IntKind.bits]; omega)) (by decide) ?_
        | refine WpL.shr rfl rfl (by first | decide | (simp only [IntKind.bits]; omega)) (by decide) ?_)
      | (refine K.ld ?_; first
        | refine WpL.loadInts tabOk rfl rfl rfl (by first | omega | (simp; omega)) (by decide) ?_
        | refine WpL.loadU8s tabOk rfl rfl rfl (by first | omega | (simp; omega)) (by decide) ?_
        | refine WpL.loadStrs tabOk rfl rfl rfl (by first | omega | (simp; omega)) (by decide) ?_
        | refine WpL.loadBools tabOk rfl rfl rfl (by first | omega | (simp; omega)) (by decide) ?_
        | refine WpL.load1 tabOk rfl rfl rfl rfl rfl (by decide) ?_)
      | (refine K.asg ?_; refine WpL.assign rfl (by decide) ?_)
      | (refine K.fld ?_; first
        | refine WpL.fieldI tabOk rfl rfl rfl (by decide) ?_
        | refine WpL.fieldP tabOk rfl rfl rfl rfl rfl (by decide) ?_)
      | (refine K.ixa ?_; first
        | refine WpL.idxI tabOk rfl rfl rfl (by omega) (by decide) ?_
        | refine WpL.idxO tabOk rfl rfl rfl rfl rfl (by omega) (by decide) ?_)
      | (refine K.ix ?_; refine WpL.idxStr tabOk rfl rfl rfl (by omega) (by decide) ?_)
      | (refine K.bi ?_; first
        | refine WpL.lenImm (TabOk.slice tabOk rfl).1 rfl (by decide) ?_
        | refine WpL.lenOwn (TabOk.slice tabOk rfl).1 rfl rfl rfl (by decide) ?_
        | refine WpL.lenNil (TabOk.slice tabOk rfl).1 rfl (by decide) ?_
        | refine WpL.lenStr (K.tyStr tabOk rfl) rfl (by decide) ?_
        | refine WpL.app1Ints tabOk rfl rfl rfl (Nat.zero_le _) rfl rfl (by first | rfl | omega | (simp; done) | (simp; omega)) (by omega) (by decide) ?_
        | refine WpL.appInts tabOk rfl rfl rfl (Nat.zero_le _) rfl rfl (by first | rfl | omega | (simp; done) | (simp; omega)) (by first | rfl | omega | (simp; done) | (simp; omega)) (by omega) (by decide) ?_
        | refine WpL.nil1Ints tabOk rfl rfl rfl rfl (by omega) rfl (by decide) ?_
        | refine WpL.app1U8s tabOk rfl rfl rfl (Nat.zero_le _) rfl rfl (by first | rfl | omega | (simp; done) | (simp; omega)) (by omega) (by decide) ?_
        | refine WpL.appU8s tabOk rfl rfl rfl (Nat.zero_le _) rfl rfl (by first | rfl | omega | (simp; done) | (simp; omega)) (by first | rfl | omega | (simp; done) | (simp; omega)) (by omega) (by decide) ?_
        | refine WpL.nil1U8s tabOk rfl rfl rfl rfl (by omega) rfl (by decide) ?_
        | refine WpL.app1Strs tabOk rfl rfl rfl (Nat.zero_le _) rfl rfl (by first | rfl | omega | (simp; done) | (simp; omega)) (by omega) (by decide) ?_
        | refine WpL.appStrs tabOk rfl rfl rfl (Nat.zero_le _) rfl rfl (by first | rfl | omega | (simp; done) | (simp; omega)) (by first | rfl | omega | (simp; done) | (simp; omega)) (by omega) (by decide) ?_
        | refine WpL.nil1Strs tabOk rfl rfl rfl rfl (by omega) rfl (by decide) ?_
        | refine WpL.appOwn tabOk rfl rfl rfl rfl rfl rfl (by simp) (Nat.zero_le _) rfl rfl (by simp) (by simp [all_ints, all_u8s, all_strs, oneB, Value.oneCell']) (by omega) (by decide) ?_
        | refine WpL.appNil tabOk rfl rfl rfl rfl (by simp) (by simp [all_ints, all_u8s, all_strs, oneB, Value.oneCell']) (by omega) rfl (by decide) ?_
        | refine WpL.min2 rfl rfl (by decide) ?_
        | refine WpL.max2 rfl rfl (by decide) ?_)
      | (refine K.un ?_; first
        | refine WpL.not rfl (by decide) ?_
        | refine WpL.neg rfl (by omega) (by decide) ?_)
      | (refine K.pick ?_; first
        | refine WpL.pickT rfl rfl (by decide) ?_
        | refine WpL.pickF rfl rfl (by decide) ?_)
      | (refine K.ext ?_; refine WpL.extract rfl rfl (by first | decide | simp [AV.shL]) (by decide) ?_)
      | (refine K.cv ?_; first
        | refine WpL.convI (P := Try.prog) (by rfl) (K.tyInt tabOk rfl) rfl (by omega) (by decide) ?_
        | refine WpL.conv (P := Try.prog) (by rfl) (K.tyInt tabOk rfl) rfl (by decide) ?_
        | refine WpL.toBytes tabOk rfl rfl rfl rfl (by omega) rfl (by decide) ?_
        | refine WpL.ofBytes tabOk rfl rfl rfl rfl rfl (by simp) (by decide) ?_)
      | (refine K.lit ?_; first
        | refine WpL.lit0U8s tabOk rfl rfl rfl (by decide) ?_
        | refine WpL.lit0Ints tabOk rfl rfl rfl (by decide) ?_
        | refine WpL.lit0Bools tabOk rfl rfl rfl (by decide) ?_
        | refine WpL.lit0Strs tabOk rfl rfl rfl (by decide) ?_
        | refine WpL.litF tabOk rfl rfl rfl rfl (by decide) rfl (by decide) ?_)
      | (refine K.ms ?_; first
        | refine WpL.makeInts tabOk rfl rfl rfl (by omega) (by omega) rfl (by decide) ?_
        | refine WpL.makeStrs tabOk rfl rfl rfl (by omega) (by omega) rfl (by decide) ?_
        | refine WpL.makeBools tabOk rfl rfl rfl (by omega) (by omega) rfl (by decide) ?_
        | refine WpL.makeU8s tabOk rfl rfl rfl (by omega) (by omega) rfl (by decide) ?_)
      | (refine K.st ?_; first
        | refine WpL.storeInts tabOk rfl rfl rfl rfl rfl (by first | omega | (simp; omega)) ?_
        | refine WpL.storeU8s tabOk rfl rfl rfl rfl rfl (by first | omega | (simp; omega)) ?_
        | refine WpL.storeBools tabOk rfl rfl rfl rfl rfl (by first | omega | (simp; omega)) ?_
        | refine WpL.storeStrs tabOk rfl rfl rfl rfl rfl (by first | omega | (simp; omega)) ?_
        | refine WpL.store tabOk rfl rfl rfl rfl rfl rfl rfl rfl (by first | omega | (simp; omega) | (simp; done)) ?_)
      | (refine K.all ?_; first
        | refine WpL.allocStruct tabOk rfl rfl (by decide) ?_
        | refine WpL.allocPlain tabOk rfl rfl rfl (by decide) ?_)
      | (refine K.box ?_; refine WpL.box rfl rfl rfl (by decide) ?_)
      | (refine K.nc ?_; first
        | refine WpL.nilCheckP rfl rfl rfl (by decide) ?_
        | refine WpL.nilCheckI rfl (by decide) ?_)
      | (refine K.sl ?_; first
        | refine WpL.subStr tabOk rfl rfl (by first | exact .inl ⟨rfl, rfl⟩ | exact .inr ⟨_, _, rfl, rfl⟩) (by first | exact .inl ⟨rfl, rfl⟩ | exact .inr ⟨_, _, rfl, rfl⟩) (by omega) (by decide) ?_
        | refine WpL.subImm tabOk rfl rfl (by first | exact .inl ⟨rfl, rfl⟩ | exact .inr ⟨_, _, rfl, rfl⟩) (by first | exact .inl ⟨rfl, rfl⟩ | exact .inr ⟨_, _, rfl, rfl⟩) (by omega) (by decide) ?_)
      | (refine K.gd ?_; first
        | refine K.gT rfl (by decide) rfl ?_
        | refine K.gF rfl (by decide) rfl ?_
        | refine K.gD rfl rfl (fun _ => ?_) (fun _ => ?_)
        | refine K.gN rfl rfl (fun _ => ?_) (fun _ => ?_)
        | refine K.gS rfl rfl (fun _ => ?_) (fun _ => ?_)))
    | refine WpL.nil ?_
    | refine Abs.Seq.n ?_
    | (refine K.A ?_; first
      | refine WpA.seq ?_
      | refine WpA.region ?_
      | (refine K.cond ?_; first
        | refine WpA.condT rfl ?_
        | refine WpA.condF rfl ?_
        | refine WpA.condD rfl (fun _ => ?_) (fun _ => ?_)
        | refine WpA.condN rfl (fun _ => ?_) (fun _ => ?_)
        | refine WpA.condS rfl (fun _ => ?_) (fun _ => ?_))
      | refine WpA.block ?_
      | refine WpA.ret ?_
      | refine WpA.exit ?_
      | refine WpA.skip ?_
      | apply WpA.regionM 1 mixed (by decide +kernel)
      | apply WpA.regionM 2 mixed (by decide +kernel)
      | apply WpA.regionM 3 mixed (by decide +kernel)
      | apply WpA.regionM 4 mixed (by decide +kernel)
      | apply WpA.regionM 5 mixed (by decide +kernel)
      | apply WpA.regionM 6 mixed (by decide +kernel)
      | apply WpA.regionM 7 mixed (by decide +kernel)
      | apply WpA.regionM 8 mixed (by decide +kernel)
      | apply WpA.regionM 9 mixed (by decide +kernel)
      | apply WpA.regionM 10 mixed (by decide +kernel)
      | apply WpA.regionM 11 mixed (by decide +kernel)
      | apply WpA.regionM 12 mixed (by decide +kernel)
      | apply WpA.regionM 13 mixed (by decide +kernel)
      | apply WpA.regionM 14 mixed (by decide +kernel)
      | apply WpA.regionM 15 mixed (by decide +kernel)
      | apply WpA.regionM 16 mixed (by decide +kernel)
      | apply WpA.regionM 17 mixed (by decide +kernel)
      | apply WpA.regionM 18 mixed (by decide +kernel)
      | apply WpA.regionM 19 mixed (by decide +kernel)
      | apply WpA.regionM 20 mixed (by decide +kernel)
      | apply WpA.regionM 21 mixed (by decide +kernel)
      | apply WpA.regionM 22 mixed (by decide +kernel)
      | apply WpA.regionM 23 mixed (by decide +kernel)
      | apply WpA.regionM 24 mixed (by decide +kernel)
      | apply WpA.regionM 25 mixed (by decide +kernel)
      | apply WpA.regionM 26 mixed (by decide +kernel)
      | apply WpA.regionM 27 mixed (by decide +kernel)
      | apply WpA.regionM 28 mixed (by decide +kernel)
      | apply WpA.regionM 29 mixed (by decide +kernel)
      | apply WpA.regionM 30 mixed (by decide +kernel)
      | apply WpA.regionM 31 mixed (by decide +kernel)
      | apply WpA.regionM 32 mixed (by decide +kernel)
      | refine WpA.regionD mixed (by decide +kernel) ?_)
    | refine Abs.Seq.ret ?_
    | refine Abs.Seq.exit ?_
    | refine Blk.n ?_
    | refine Blk.ret ?_
    | refine Blk.exitHere ?_
    | refine Blk.exitOther rfl ?_
    | refine Rnd.ret ?_
    | refine Rnd.exit ?_
    | exact Only.mk rfl
    | exact Abs.HeadJ.nil
    | apply Abs.HeadJ.cons rfl
    | (apply K.depT; simp only [deps, List.toList_toArray, List.filterMap_cons, List.filterMap_nil, Region.binds, if_true, List.nil_append, List.cons_append, List.getElem?_cons_succ, List.getElem?_cons_zero, List.getElem?_nil, reduceCtorEq, Bool.true_or, Bool.or_true]; exact rfl)
    | refine fun Tv => K.L ?_
    | (apply K.appT; simp only [List.nil_append, List.cons_append, List.append_assoc]; exact rfl)
    | (refine K.isTrue ?_; kernel_rfl)
    | exact rfl
    | contradiction
    | omega)
  refine WpA.loop (fun k : Nat => ⟨[(3, I (costs (xs.take k))), (6, .imm 1 xs.length (ints xs)), (7, I xs.length), (8, I k)], []⟩) (fun k => k ≤ xs.length) (fun k => xs.length - k) 0 (by omega) ?_ (fun k hk => ?_)
  · exact Weak.mk (by repeat (first | exact ReT.nil | refine ReT.cons (.keep rfl rfl .nil) ?_ | refine ReT.cons (.own rfl rfl rfl rfl rfl rfl .nil) ?_ | refine ReT.cons (.ptr rfl rfl rfl rfl .nil) ?_ | refine ReT.cons (.keep (congrArg (fun z => AV.sc (Value.int .i64 z)) (by first | omega | (skip))) rfl .nil) ?_ | refine ReT.cons (.own rfl rfl rfl rfl rfl (by first | omega | (simp; done) | (simp; omega)) .nil) ?_)) (by repeat (first | exact ReO.nil | refine ReO.cons (Re.same rfl (still_ints _)) (by simp) ?_ | refine ReO.cons (Re.same rfl rfl) (by simp) ?_ | refine ReO.cons (Re.same (by skip) (still_ints _)) (by simp) ?_ | refine ReO.cons (Re.same (by skip) (still_u8s _)) (by simp) ?_ | refine ReO.cons (Re.same (by skip) (still_strs _)) (by simp) ?_)) (Nat.zero_le _)
  have hb := costs_bd (xs.take k)
  have hlt := List.length_take_le k xs
  repeat' (first
    | (refine K.L ?_; first
      | (refine K.mv ?_; refine WpL.move rfl (by decide) ?_)
      | (refine K.call ?_; first
        | refine WpL.call (limited_c _ _ _) (by repeat' (first | exact Snap.nil | refine Snap.keep rfl rfl ?_ | refine Snap.own rfl rfl rfl (by simp) rfl ?_ ?_ | refine Snap.agg ?_ ?_ | refine Snap.nilI ?_ | exact Snap.same rfl (still_ints _) (nofre_ints _) | exact Snap.same rfl (still_u8s _) (nofre_u8s _) | exact Snap.same rfl (still_strs _) (nofre_strs _) | exact Snap.same rfl (still_bools _) (nofre_bools _))) (by repeat' (first | exact Loc.nil | refine Loc.sc ?_ | refine Loc.own ?_ | refine Loc.nilS ?_ | refine Loc.agg ?_ ?_ | refine Loc.tup ?_ ?_)) (by first | exact Out.nil | exact Out.ints | exact Out.u8s | exact Out.strs | exact Out.bools) rfl rfl rfl (by decide) ?_
        )
      | (refine K.bin ?_; first
        | refine WpL.add rfl rfl (by omega) (by decide) ?_
        | refine WpL.sub rfl rfl (by omega) (by decide) ?_
        | refine WpL.mul rfl rfl (by omega) (by decide) ?_
        | refine WpL.quo rfl rfl (by omega) (by decide) ?_
        | refine WpL.rem rfl rfl (by omega) (by decide) ?_
        | refine WpL.bin rfl rfl rfl (by decide) ?_
        | refine WpL.strAdd rfl rfl (by omega) (by decide) ?_
        | refine WpL.strEq rfl rfl (by decide) ?_
        | refine WpL.strNe rfl rfl (by decide) ?_
        | refine WpL.boolEq (K.tyBool tabOk rfl) rfl rfl (by decide) ?_
        | refine WpL.boolNe (K.tyBool tabOk rfl) rfl rfl (by decide) ?_
        | refine WpL.shl rfl rfl (by first | decide | (simp only [IntKind.bits]; omega)) (by decide) ?_
        | refine WpL.shr rfl rfl (by first | decide | (simp only [IntKind.bits]; omega)) (by decide) ?_)
      | (refine K.ld ?_; first
        | refine WpL.loadInts tabOk rfl rfl rfl (by first | omega | (simp; omega)) (by decide) ?_
        | refine WpL.loadU8s tabOk rfl rfl rfl (by first | omega | (simp; omega)) (by decide) ?_
        | refine WpL.loadStrs tabOk rfl rfl rfl (by first | omega | (simp; omega)) (by decide) ?_
        | refine WpL.loadBools tabOk rfl rfl rfl (by first | omega | (simp; omega)) (by decide) ?_
        | refine WpL.load1 tabOk rfl rfl rfl rfl rfl (by decide) ?_)
      | (refine K.asg ?_; refine WpL.assign rfl (by decide) ?_)
      | (refine K.fld ?_; first
        | refine WpL.fieldI tabOk rfl rfl rfl (by decide) ?_
        | refine WpL.fieldP tabOk rfl rfl rfl rfl rfl (by decide) ?_)
      | (refine K.ixa ?_; first
        | refine WpL.idxI tabOk rfl rfl rfl (by omega) (by decide) ?_
        | refine WpL.idxO tabOk rfl rfl rfl rfl rfl (by omega) (by decide) ?_)
      | (refine K.ix ?_; refine WpL.idxStr tabOk rfl rfl rfl (by omega) (by decide) ?_)
      | (refine K.bi ?_; first
        | refine WpL.lenImm (TabOk.slice tabOk rfl).1 rfl (by decide) ?_
        | refine WpL.lenOwn (TabOk.slice tabOk rfl).1 rfl rfl rfl (by decide) ?_
        | refine WpL.lenNil (TabOk.slice tabOk rfl).1 rfl (by decide) ?_
        | refine WpL.lenStr (K.tyStr tabOk rfl) rfl (by decide) ?_
        | refine WpL.app1Ints tabOk rfl rfl rfl (Nat.zero_le _) rfl rfl (by first | rfl | omega | (simp; done) | (simp; omega)) (by omega) (by decide) ?_
        | refine WpL.appInts tabOk rfl rfl rfl (Nat.zero_le _) rfl rfl (by first | rfl | omega | (simp; done) | (simp; omega)) (by first | rfl | omega | (simp; done) | (simp; omega)) (by omega) (by decide) ?_
        | refine WpL.nil1Ints tabOk rfl rfl rfl rfl (by omega) rfl (by decide) ?_
        | refine WpL.app1U8s tabOk rfl rfl rfl (Nat.zero_le _) rfl rfl (by first | rfl | omega | (simp; done) | (simp; omega)) (by omega) (by decide) ?_
        | refine WpL.appU8s tabOk rfl rfl rfl (Nat.zero_le _) rfl rfl (by first | rfl | omega | (simp; done) | (simp; omega)) (by first | rfl | omega | (simp; done) | (simp; omega)) (by omega) (by decide) ?_
        | refine WpL.nil1U8s tabOk rfl rfl rfl rfl (by omega) rfl (by decide) ?_
        | refine WpL.app1Strs tabOk rfl rfl rfl (Nat.zero_le _) rfl rfl (by first | rfl | omega | (simp; done) | (simp; omega)) (by omega) (by decide) ?_
        | refine WpL.appStrs tabOk rfl rfl rfl (Nat.zero_le _) rfl rfl (by first | rfl | omega | (simp; done) | (simp; omega)) (by first | rfl | omega | (simp; done) | (simp; omega)) (by omega) (by decide) ?_
        | refine WpL.nil1Strs tabOk rfl rfl rfl rfl (by omega) rfl (by decide) ?_
        | refine WpL.appOwn tabOk rfl rfl rfl rfl rfl rfl (by simp) (Nat.zero_le _) rfl rfl (by simp) (by simp [all_ints, all_u8s, all_strs, oneB, Value.oneCell']) (by omega) (by decide) ?_
        | refine WpL.appNil tabOk rfl rfl rfl rfl (by simp) (by simp [all_ints, all_u8s, all_strs, oneB, Value.oneCell']) (by omega) rfl (by decide) ?_
        | refine WpL.min2 rfl rfl (by decide) ?_
        | refine WpL.max2 rfl rfl (by decide) ?_)
      | (refine K.un ?_; first
        | refine WpL.not rfl (by decide) ?_
        | refine WpL.neg rfl (by omega) (by decide) ?_)
      | (refine K.pick ?_; first
        | refine WpL.pickT rfl rfl (by decide) ?_
        | refine WpL.pickF rfl rfl (by decide) ?_)
      | (refine K.ext ?_; refine WpL.extract rfl rfl (by first | decide | simp [AV.shL]) (by decide) ?_)
      | (refine K.cv ?_; first
        | refine WpL.convI (P := Try.prog) (by rfl) (K.tyInt tabOk rfl) rfl (by omega) (by decide) ?_
        | refine WpL.conv (P := Try.prog) (by rfl) (K.tyInt tabOk rfl) rfl (by decide) ?_
        | refine WpL.toBytes tabOk rfl rfl rfl rfl (by omega) rfl (by decide) ?_
        | refine WpL.ofBytes tabOk rfl rfl rfl rfl rfl (by simp) (by decide) ?_)
      | (refine K.lit ?_; first
        | refine WpL.lit0U8s tabOk rfl rfl rfl (by decide) ?_
        | refine WpL.lit0Ints tabOk rfl rfl rfl (by decide) ?_
        | refine WpL.lit0Bools tabOk rfl rfl rfl (by decide) ?_
        | refine WpL.lit0Strs tabOk rfl rfl rfl (by decide) ?_
        | refine WpL.litF tabOk rfl rfl rfl rfl (by decide) rfl (by decide) ?_)
      | (refine K.ms ?_; first
        | refine WpL.makeInts tabOk rfl rfl rfl (by omega) (by omega) rfl (by decide) ?_
        | refine WpL.makeStrs tabOk rfl rfl rfl (by omega) (by omega) rfl (by decide) ?_
        | refine WpL.makeBools tabOk rfl rfl rfl (by omega) (by omega) rfl (by decide) ?_
        | refine WpL.makeU8s tabOk rfl rfl rfl (by omega) (by omega) rfl (by decide) ?_)
      | (refine K.st ?_; first
        | refine WpL.storeInts tabOk rfl rfl rfl rfl rfl (by first | omega | (simp; omega)) ?_
        | refine WpL.storeU8s tabOk rfl rfl rfl rfl rfl (by first | omega | (simp; omega)) ?_
        | refine WpL.storeBools tabOk rfl rfl rfl rfl rfl (by first | omega | (simp; omega)) ?_
        | refine WpL.storeStrs tabOk rfl rfl rfl rfl rfl (by first | omega | (simp; omega)) ?_
        | refine WpL.store tabOk rfl rfl rfl rfl rfl rfl rfl rfl (by first | omega | (simp; omega) | (simp; done)) ?_)
      | (refine K.all ?_; first
        | refine WpL.allocStruct tabOk rfl rfl (by decide) ?_
        | refine WpL.allocPlain tabOk rfl rfl rfl (by decide) ?_)
      | (refine K.box ?_; refine WpL.box rfl rfl rfl (by decide) ?_)
      | (refine K.nc ?_; first
        | refine WpL.nilCheckP rfl rfl rfl (by decide) ?_
        | refine WpL.nilCheckI rfl (by decide) ?_)
      | (refine K.sl ?_; first
        | refine WpL.subStr tabOk rfl rfl (by first | exact .inl ⟨rfl, rfl⟩ | exact .inr ⟨_, _, rfl, rfl⟩) (by first | exact .inl ⟨rfl, rfl⟩ | exact .inr ⟨_, _, rfl, rfl⟩) (by omega) (by decide) ?_
        | refine WpL.subImm tabOk rfl rfl (by first | exact .inl ⟨rfl, rfl⟩ | exact .inr ⟨_, _, rfl, rfl⟩) (by first | exact .inl ⟨rfl, rfl⟩ | exact .inr ⟨_, _, rfl, rfl⟩) (by omega) (by decide) ?_)
      | (refine K.gd ?_; first
        | refine K.gT rfl (by decide) rfl ?_
        | refine K.gF rfl (by decide) rfl ?_
        | refine K.gD rfl rfl (fun _ => ?_) (fun _ => ?_)
        | refine K.gN rfl rfl (fun _ => ?_) (fun _ => ?_)
        | refine K.gS rfl rfl (fun _ => ?_) (fun _ => ?_)))
    | refine WpL.nil ?_
    | refine Abs.Seq.n ?_
    | (refine K.A ?_; first
      | refine WpA.seq ?_
      | refine WpA.region ?_
      | (refine K.cond ?_; first
        | refine WpA.condT rfl ?_
        | refine WpA.condF rfl ?_
        | refine WpA.condD rfl (fun _ => ?_) (fun _ => ?_)
        | refine WpA.condN rfl (fun _ => ?_) (fun _ => ?_)
        | refine WpA.condS rfl (fun _ => ?_) (fun _ => ?_))
      | refine WpA.block ?_
      | refine WpA.ret ?_
      | refine WpA.exit ?_
      | refine WpA.skip ?_
      | apply WpA.regionM 1 mixed (by decide +kernel)
      | apply WpA.regionM 2 mixed (by decide +kernel)
      | apply WpA.regionM 3 mixed (by decide +kernel)
      | apply WpA.regionM 4 mixed (by decide +kernel)
      | apply WpA.regionM 5 mixed (by decide +kernel)
      | apply WpA.regionM 6 mixed (by decide +kernel)
      | apply WpA.regionM 7 mixed (by decide +kernel)
      | apply WpA.regionM 8 mixed (by decide +kernel)
      | apply WpA.regionM 9 mixed (by decide +kernel)
      | apply WpA.regionM 10 mixed (by decide +kernel)
      | apply WpA.regionM 11 mixed (by decide +kernel)
      | apply WpA.regionM 12 mixed (by decide +kernel)
      | apply WpA.regionM 13 mixed (by decide +kernel)
      | apply WpA.regionM 14 mixed (by decide +kernel)
      | apply WpA.regionM 15 mixed (by decide +kernel)
      | apply WpA.regionM 16 mixed (by decide +kernel)
      | apply WpA.regionM 17 mixed (by decide +kernel)
      | apply WpA.regionM 18 mixed (by decide +kernel)
      | apply WpA.regionM 19 mixed (by decide +kernel)
      | apply WpA.regionM 20 mixed (by decide +kernel)
      | apply WpA.regionM 21 mixed (by decide +kernel)
      | apply WpA.regionM 22 mixed (by decide +kernel)
      | apply WpA.regionM 23 mixed (by decide +kernel)
      | apply WpA.regionM 24 mixed (by decide +kernel)
      | apply WpA.regionM 25 mixed (by decide +kernel)
      | apply WpA.regionM 26 mixed (by decide +kernel)
      | apply WpA.regionM 27 mixed (by decide +kernel)
      | apply WpA.regionM 28 mixed (by decide +kernel)
      | apply WpA.regionM 29 mixed (by decide +kernel)
      | apply WpA.regionM 30 mixed (by decide +kernel)
      | apply WpA.regionM 31 mixed (by decide +kernel)
      | apply WpA.regionM 32 mixed (by decide +kernel)
      | refine WpA.regionD mixed (by decide +kernel) ?_)
    | refine Abs.Seq.ret ?_
    | refine Abs.Seq.exit ?_
    | refine Blk.n ?_
    | refine Blk.ret ?_
    | refine Blk.exitHere ?_
    | refine Blk.exitOther rfl ?_
    | refine Rnd.ret ?_
    | refine Rnd.exit ?_
    | exact Only.mk rfl
    | exact Abs.HeadJ.nil
    | apply Abs.HeadJ.cons rfl
    | (apply K.depT; simp only [deps, List.toList_toArray, List.filterMap_cons, List.filterMap_nil, Region.binds, if_true, List.nil_append, List.cons_append, List.getElem?_cons_succ, List.getElem?_cons_zero, List.getElem?_nil, reduceCtorEq, Bool.true_or, Bool.or_true]; exact rfl)
    | refine fun Tv => K.L ?_
    | (apply K.appT; simp only [List.nil_append, List.cons_append, List.append_assoc]; exact rfl)
    | (refine K.isTrue ?_; kernel_rfl)
    | exact rfl
    | contradiction
    | omega)
  · refine Rnd.go (k + 1) ?_ ?_ ?_
    · (try dsimp only); omega
    · (try dsimp only); omega
    exact Weak.mk (by repeat (first | exact ReT.nil | refine ReT.cons (.keep rfl rfl .nil) ?_ | refine ReT.cons (.own rfl rfl rfl rfl rfl rfl .nil) ?_ | refine ReT.cons (.ptr rfl rfl rfl rfl .nil) ?_ | refine ReT.cons (.keep (congrArg (fun z => AV.sc (Value.int .i64 z)) (by first | omega | (rw [costs_snoc _ _ (by omega)]; simp [clampM]))) rfl .nil) ?_ | refine ReT.cons (.own rfl rfl rfl rfl rfl (by first | omega | (simp; done) | (simp; omega)) .nil) ?_)) (by repeat (first | exact ReO.nil | refine ReO.cons (Re.same rfl (still_ints _)) (by simp) ?_ | refine ReO.cons (Re.same rfl rfl) (by simp) ?_ | refine ReO.cons (Re.same (by rw [costs_snoc _ _ (by omega)]; simp [clampM]) (still_ints _)) (by simp) ?_ | refine ReO.cons (Re.same (by rw [costs_snoc _ _ (by omega)]; simp [clampM]) (still_u8s _)) (by simp) ?_ | refine ReO.cons (Re.same (by rw [costs_snoc _ _ (by omega)]; simp [clampM]) (still_strs _)) (by simp) ?_)) (Nat.zero_le _)
  · refine Abs.Fin.ret (.one (.tmp rfl) .nil (by decide) (.keep ?_ rfl rfl .nil))
    have : k = xs.length := by omega
    subst this; simp

theorem CostOf_s (xs : List Int) (hl : xs.length ≤ 1099511627776) : FnC Try.prog 13 [.imm 1 xs.length (ints xs)] [] (I (costs xs)) := by
  refine FnC.of_body tabOk Try.func13 Try.ntmps13 rfl (by decide +kernel) (by simp) fun G => ?_
  repeat' (first
    | (refine K.L ?_; first
      | (refine K.mv ?_; refine WpL.move rfl (by decide) ?_)
      | (refine K.call ?_; first
        | fail
        )
      | (refine K.bin ?_; first
        | refine WpL.add rfl rfl (by omega) (by decide) ?_
        | refine WpL.sub rfl rfl (by omega) (by decide) ?_
        | refine WpL.mul rfl rfl (by omega) (by decide) ?_
        | refine WpL.quo rfl rfl (by omega) (by decide) ?_
        | refine WpL.rem rfl rfl (by omega) (by decide) ?_
        | refine WpL.bin rfl rfl rfl (by decide) ?_
        | refine WpL.strAdd rfl rfl (by omega) (by decide) ?_
        | refine WpL.strEq rfl rfl (by decide) ?_
        | refine WpL.strNe rfl rfl (by decide) ?_
        | refine WpL.boolEq (K.tyBool tabOk rfl) rfl rfl (by decide) ?_
        | refine WpL.boolNe (K.tyBool tabOk rfl) rfl rfl (by decide) ?_
        | refine WpL.shl rfl rfl (by first | decide | (simp only [IntKind.bits]; omega)) (by decide) ?_
        | refine WpL.shr rfl rfl (by first | decide | (simp only [IntKind.bits]; omega)) (by decide) ?_)
      | (refine K.ld ?_; first
        | refine WpL.loadInts tabOk rfl rfl rfl (by first | omega | (simp; omega)) (by decide) ?_
        | refine WpL.loadU8s tabOk rfl rfl rfl (by first | omega | (simp; omega)) (by decide) ?_
        | refine WpL.loadStrs tabOk rfl rfl rfl (by first | omega | (simp; omega)) (by decide) ?_
        | refine WpL.loadBools tabOk rfl rfl rfl (by first | omega | (simp; omega)) (by decide) ?_
        | refine WpL.load1 tabOk rfl rfl rfl rfl rfl (by decide) ?_)
      | (refine K.asg ?_; refine WpL.assign rfl (by decide) ?_)
      | (refine K.fld ?_; first
        | refine WpL.fieldI tabOk rfl rfl rfl (by decide) ?_
        | refine WpL.fieldP tabOk rfl rfl rfl rfl rfl (by decide) ?_)
      | (refine K.ixa ?_; first
        | refine WpL.idxI tabOk rfl rfl rfl (by omega) (by decide) ?_
        | refine WpL.idxO tabOk rfl rfl rfl rfl rfl (by omega) (by decide) ?_)
      | (refine K.ix ?_; refine WpL.idxStr tabOk rfl rfl rfl (by omega) (by decide) ?_)
      | (refine K.bi ?_; first
        | refine WpL.lenImm (TabOk.slice tabOk rfl).1 rfl (by decide) ?_
        | refine WpL.lenOwn (TabOk.slice tabOk rfl).1 rfl rfl rfl (by decide) ?_
        | refine WpL.lenNil (TabOk.slice tabOk rfl).1 rfl (by decide) ?_
        | refine WpL.lenStr (K.tyStr tabOk rfl) rfl (by decide) ?_
        | refine WpL.app1Ints tabOk rfl rfl rfl (Nat.zero_le _) rfl rfl (by first | rfl | omega | (simp; done) | (simp; omega)) (by omega) (by decide) ?_
        | refine WpL.appInts tabOk rfl rfl rfl (Nat.zero_le _) rfl rfl (by first | rfl | omega | (simp; done) | (simp; omega)) (by first | rfl | omega | (simp; done) | (simp; omega)) (by omega) (by decide) ?_
        | refine WpL.nil1Ints tabOk rfl rfl rfl rfl (by omega) rfl (by decide) ?_
        | refine WpL.app1U8s tabOk rfl rfl rfl (Nat.zero_le _) rfl rfl (by first | rfl | omega | (simp; done) | (simp; omega)) (by omega) (by decide) ?_
        | refine WpL.appU8s tabOk rfl rfl rfl (Nat.zero_le _) rfl rfl (by first | rfl | omega | (simp; done) | (simp; omega)) (by first | rfl | omega | (simp; done) | (simp; omega)) (by omega) (by decide) ?_
        | refine WpL.nil1U8s tabOk rfl rfl rfl rfl (by omega) rfl (by decide) ?_
        | refine WpL.app1Strs tabOk rfl rfl rfl (Nat.zero_le _) rfl rfl (by first | rfl | omega | (simp; done) | (simp; omega)) (by omega) (by decide) ?_
        | refine WpL.appStrs tabOk rfl rfl rfl (Nat.zero_le _) rfl rfl (by first | rfl | omega | (simp; done) | (simp; omega)) (by first | rfl | omega | (simp; done) | (simp; omega)) (by omega) (by decide) ?_
        | refine WpL.nil1Strs tabOk rfl rfl rfl rfl (by omega) rfl (by decide) ?_
        | refine WpL.appOwn tabOk rfl rfl rfl rfl rfl rfl (by simp) (Nat.zero_le _) rfl rfl (by simp) (by simp [all_ints, all_u8s, all_strs, oneB, Value.oneCell']) (by omega) (by decide) ?_
        | refine WpL.appNil tabOk rfl rfl rfl rfl (by simp) (by simp [all_ints, all_u8s, all_strs, oneB, Value.oneCell']) (by omega) rfl (by decide) ?_
        | refine WpL.min2 rfl rfl (by decide) ?_
        | refine WpL.max2 rfl rfl (by decide) ?_)
      | (refine K.un ?_; first
        | refine WpL.not rfl (by decide) ?_
        | refine WpL.neg rfl (by omega) (by decide) ?_)
      | (refine K.pick ?_; first
        | refine WpL.pickT rfl rfl (by decide) ?_
        | refine WpL.pickF rfl rfl (by decide) ?_)
      | (refine K.ext ?_; refine WpL.extract rfl rfl (by first | decide | simp [AV.shL]) (by decide) ?_)
      | (refine K.cv ?_; first
        | refine WpL.convI (P := Try.prog) (by rfl) (K.tyInt tabOk rfl) rfl (by omega) (by decide) ?_
        | refine WpL.conv (P := Try.prog) (by rfl) (K.tyInt tabOk rfl) rfl (by decide) ?_
        | refine WpL.toBytes tabOk rfl rfl rfl rfl (by omega) rfl (by decide) ?_
        | refine WpL.ofBytes tabOk rfl rfl rfl rfl rfl (by simp) (by decide) ?_)
      | (refine K.lit ?_; first
        | refine WpL.lit0U8s tabOk rfl rfl rfl (by decide) ?_
        | refine WpL.lit0Ints tabOk rfl rfl rfl (by decide) ?_
        | refine WpL.lit0Bools tabOk rfl rfl rfl (by decide) ?_
        | refine WpL.lit0Strs tabOk rfl rfl rfl (by decide) ?_
        | refine WpL.litF tabOk rfl rfl rfl rfl (by decide) rfl (by decide) ?_)
      | (refine K.ms ?_; first
        | refine WpL.makeInts tabOk rfl rfl rfl (by omega) (by omega) rfl (by decide) ?_
        | refine WpL.makeStrs tabOk rfl rfl rfl (by omega) (by omega) rfl (by decide) ?_
        | refine WpL.makeBools tabOk rfl rfl rfl (by omega) (by omega) rfl (by decide) ?_
        | refine WpL.makeU8s tabOk rfl rfl rfl (by omega) (by omega) rfl (by decide) ?_)
      | (refine K.st ?_; first
        | refine WpL.storeInts tabOk rfl rfl rfl rfl rfl (by first | omega | (simp; omega)) ?_
        | refine WpL.storeU8s tabOk rfl rfl rfl rfl rfl (by first | omega | (simp; omega)) ?_
        | refine WpL.storeBools tabOk rfl rfl rfl rfl rfl (by first | omega | (simp; omega)) ?_
        | refine WpL.storeStrs tabOk rfl rfl rfl rfl rfl (by first | omega | (simp; omega)) ?_
        | refine WpL.store tabOk rfl rfl rfl rfl rfl rfl rfl rfl (by first | omega | (simp; omega) | (simp; done)) ?_)
      | (refine K.all ?_; first
        | refine WpL.allocStruct tabOk rfl rfl (by decide) ?_
        | refine WpL.allocPlain tabOk rfl rfl rfl (by decide) ?_)
      | (refine K.box ?_; refine WpL.box rfl rfl rfl (by decide) ?_)
      | (refine K.nc ?_; first
        | refine WpL.nilCheckP rfl rfl rfl (by decide) ?_
        | refine WpL.nilCheckI rfl (by decide) ?_)
      | (refine K.sl ?_; first
        | refine WpL.subStr tabOk rfl rfl (by first | exact .inl ⟨rfl, rfl⟩ | exact .inr ⟨_, _, rfl, rfl⟩) (by first | exact .inl ⟨rfl, rfl⟩ | exact .inr ⟨_, _, rfl, rfl⟩) (by omega) (by decide) ?_
        | refine WpL.subImm tabOk rfl rfl (by first | exact .inl ⟨rfl, rfl⟩ | exact .inr ⟨_, _, rfl, rfl⟩) (by first | exact .inl ⟨rfl, rfl⟩ | exact .inr ⟨_, _, rfl, rfl⟩) (by omega) (by decide) ?_)
      | (refine K.gd ?_; first
        | refine K.gT rfl (by decide) rfl ?_
        | refine K.gF rfl (by decide) rfl ?_
        | refine K.gD rfl rfl (fun _ => ?_) (fun _ => ?_)
        | refine K.gN rfl rfl (fun _ => ?_) (fun _ => ?_)
        | refine K.gS rfl rfl (fun _ => ?_) (fun _ => ?_)))
    | refine WpL.nil ?_
    | refine Abs.Seq.n ?_
    | (refine K.A ?_; first
      | refine WpA.seq ?_
      | refine WpA.region ?_
      | (refine K.cond ?_; first
        | refine WpA.condT rfl ?_
        | refine WpA.condF rfl ?_
        | refine WpA.condD rfl (fun _ => ?_) (fun _ => ?_)
        | refine WpA.condN rfl (fun _ => ?_) (fun _ => ?_)
        | refine WpA.condS rfl (fun _ => ?_) (fun _ => ?_))
      | refine WpA.block ?_
      | refine WpA.ret ?_
      | refine WpA.exit ?_
      | refine WpA.skip ?_
      | apply WpA.regionM 1 mixed (by decide +kernel)
      | apply WpA.regionM 2 mixed (by decide +kernel)
      | apply WpA.regionM 3 mixed (by decide +kernel)
      | apply WpA.regionM 4 mixed (by decide +kernel)
      | apply WpA.regionM 5 mixed (by decide +kernel)
      | apply WpA.regionM 6 mixed (by decide +kernel)
      | apply WpA.regionM 7 mixed (by decide +kernel)
      | apply WpA.regionM 8 mixed (by decide +kernel)
      | apply WpA.regionM 9 mixed (by decide +kernel)
      | apply WpA.regionM 10 mixed (by decide +kernel)
      | apply WpA.regionM 11 mixed (by decide +kernel)
      | apply WpA.regionM 12 mixed (by decide +kernel)
      | apply WpA.regionM 13 mixed (by decide +kernel)
      | apply WpA.regionM 14 mixed (by decide +kernel)
      | apply WpA.regionM 15 mixed (by decide +kernel)
      | apply WpA.regionM 16 mixed (by decide +kernel)
      | apply WpA.regionM 17 mixed (by decide +kernel)
      | apply WpA.regionM 18 mixed (by decide +kernel)
      | apply WpA.regionM 19 mixed (by decide +kernel)
      | apply WpA.regionM 20 mixed (by decide +kernel)
      | apply WpA.regionM 21 mixed (by decide +kernel)
      | apply WpA.regionM 22 mixed (by decide +kernel)
      | apply WpA.regionM 23 mixed (by decide +kernel)
      | apply WpA.regionM 24 mixed (by decide +kernel)
      | apply WpA.regionM 25 mixed (by decide +kernel)
      | apply WpA.regionM 26 mixed (by decide +kernel)
      | apply WpA.regionM 27 mixed (by decide +kernel)
      | apply WpA.regionM 28 mixed (by decide +kernel)
      | apply WpA.regionM 29 mixed (by decide +kernel)
      | apply WpA.regionM 30 mixed (by decide +kernel)
      | apply WpA.regionM 31 mixed (by decide +kernel)
      | apply WpA.regionM 32 mixed (by decide +kernel)
      | refine WpA.regionD mixed (by decide +kernel) ?_)
    | refine Abs.Seq.ret ?_
    | refine Abs.Seq.exit ?_
    | refine Blk.n ?_
    | refine Blk.ret ?_
    | refine Blk.exitHere ?_
    | refine Blk.exitOther rfl ?_
    | refine Rnd.ret ?_
    | refine Rnd.exit ?_
    | exact Only.mk rfl
    | exact Abs.HeadJ.nil
    | apply Abs.HeadJ.cons rfl
    | (apply K.depT; simp only [deps, List.toList_toArray, List.filterMap_cons, List.filterMap_nil, Region.binds, if_true, List.nil_append, List.cons_append, List.getElem?_cons_succ, List.getElem?_cons_zero, List.getElem?_nil, reduceCtorEq, Bool.true_or, Bool.or_true]; exact rfl)
    | refine fun Tv => K.L ?_
    | (apply K.appT; simp only [List.nil_append, List.cons_append, List.append_assoc]; exact rfl)
    | (refine K.isTrue ?_; kernel_rfl)
    | exact rfl
    | contradiction
    | omega)
  refine WpA.loop (fun k : Nat => ⟨[(0, .imm 1 xs.length (ints xs)), (3, I (costs (xs.take k))), (4, I k)], []⟩) (fun k => k ≤ xs.length) (fun k => xs.length - k) 0 (by omega) ?_ (fun k hk => ?_)
  · exact Weak.mk (by repeat (first | exact ReT.nil | refine ReT.cons (.keep rfl rfl .nil) ?_ | refine ReT.cons (.own rfl rfl rfl rfl rfl rfl .nil) ?_ | refine ReT.cons (.ptr rfl rfl rfl rfl .nil) ?_ | refine ReT.cons (.keep (congrArg (fun z => AV.sc (Value.int .i64 z)) (by first | omega | (skip))) rfl .nil) ?_ | refine ReT.cons (.own rfl rfl rfl rfl rfl (by first | omega | (simp; done) | (simp; omega)) .nil) ?_)) (by repeat (first | exact ReO.nil | refine ReO.cons (Re.same rfl (still_ints _)) (by simp) ?_ | refine ReO.cons (Re.same rfl rfl) (by simp) ?_ | refine ReO.cons (Re.same (by skip) (still_ints _)) (by simp) ?_ | refine ReO.cons (Re.same (by skip) (still_u8s _)) (by simp) ?_ | refine ReO.cons (Re.same (by skip) (still_strs _)) (by simp) ?_)) (Nat.zero_le _)
  have hb := costs_bd (xs.take k)
  have hlt := List.length_take_le k xs
  repeat' (first
    | (refine K.L ?_; first
      | (refine K.mv ?_; refine WpL.move rfl (by decide) ?_)
      | (refine K.call ?_; first
        | refine WpL.call (l20Abs_c _ ?_) (by repeat' (first | exact Snap.nil | refine Snap.keep rfl rfl ?_ | refine Snap.own rfl rfl rfl (by simp) rfl ?_ ?_ | refine Snap.agg ?_ ?_ | refine Snap.nilI ?_ | exact Snap.same rfl (still_ints _) (nofre_ints _) | exact Snap.same rfl (still_u8s _) (nofre_u8s _) | exact Snap.same rfl (still_strs _) (nofre_strs _) | exact Snap.same rfl (still_bools _) (nofre_bools _))) (by repeat' (first | exact Loc.nil | refine Loc.sc ?_ | refine Loc.own ?_ | refine Loc.nilS ?_ | refine Loc.agg ?_ ?_ | refine Loc.tup ?_ ?_)) (by first | exact Out.nil | exact Out.ints | exact Out.u8s | exact Out.strs | exact Out.bools) rfl rfl rfl (by decide) ?_
        )
      | (refine K.bin ?_; first
        | refine WpL.add rfl rfl (by omega) (by decide) ?_
        | refine WpL.sub rfl rfl (by omega) (by decide) ?_
        | refine WpL.mul rfl rfl (by omega) (by decide) ?_
        | refine WpL.quo rfl rfl (by omega) (by decide) ?_
        | refine WpL.rem rfl rfl (by omega) (by decide) ?_
        | refine WpL.bin rfl rfl rfl (by decide) ?_
        | refine WpL.strAdd rfl rfl (by omega) (by decide) ?_
        | refine WpL.strEq rfl rfl (by decide) ?_
        | refine WpL.strNe rfl rfl (by decide) ?_
        | refine WpL.boolEq (K.tyBool tabOk rfl) rfl rfl (by decide) ?_
        | refine WpL.boolNe (K.tyBool tabOk rfl) rfl rfl (by decide) ?_
        | refine WpL.shl rfl rfl (by first | decide | (simp only [IntKind.bits]; omega)) (by decide) ?_
        | refine WpL.shr rfl rfl (by first | decide | (simp only [IntKind.bits]; omega)) (by decide) ?_)
      | (refine K.ld ?_; first
        | refine WpL.loadInts tabOk rfl rfl rfl (by first | omega | (simp; omega)) (by decide) ?_
        | refine WpL.loadU8s tabOk rfl rfl rfl (by first | omega | (simp; omega)) (by decide) ?_
        | refine WpL.loadStrs tabOk rfl rfl rfl (by first | omega | (simp; omega)) (by decide) ?_
        | refine WpL.loadBools tabOk rfl rfl rfl (by first | omega | (simp; omega)) (by decide) ?_
        | refine WpL.load1 tabOk rfl rfl rfl rfl rfl (by decide) ?_)
      | (refine K.asg ?_; refine WpL.assign rfl (by decide) ?_)
      | (refine K.fld ?_; first
        | refine WpL.fieldI tabOk rfl rfl rfl (by decide) ?_
        | refine WpL.fieldP tabOk rfl rfl rfl rfl rfl (by decide) ?_)
      | (refine K.ixa ?_; first
        | refine WpL.idxI tabOk rfl rfl rfl (by omega) (by decide) ?_
        | refine WpL.idxO tabOk rfl rfl rfl rfl rfl (by omega) (by decide) ?_)
      | (refine K.ix ?_; refine WpL.idxStr tabOk rfl rfl rfl (by omega) (by decide) ?_)
      | (refine K.bi ?_; first
        | refine WpL.lenImm (TabOk.slice tabOk rfl).1 rfl (by decide) ?_
        | refine WpL.lenOwn (TabOk.slice tabOk rfl).1 rfl rfl rfl (by decide) ?_
        | refine WpL.lenNil (TabOk.slice tabOk rfl).1 rfl (by decide) ?_
        | refine WpL.lenStr (K.tyStr tabOk rfl) rfl (by decide) ?_
        | refine WpL.app1Ints tabOk rfl rfl rfl (Nat.zero_le _) rfl rfl (by first | rfl | omega | (simp; done) | (simp; omega)) (by omega) (by decide) ?_
        | refine WpL.appInts tabOk rfl rfl rfl (Nat.zero_le _) rfl rfl (by first | rfl | omega | (simp; done) | (simp; omega)) (by first | rfl | omega | (simp; done) | (simp; omega)) (by omega) (by decide) ?_
        | refine WpL.nil1Ints tabOk rfl rfl rfl rfl (by omega) rfl (by decide) ?_
        | refine WpL.app1U8s tabOk rfl rfl rfl (Nat.zero_le _) rfl rfl (by first | rfl | omega | (simp; done) | (simp; omega)) (by omega) (by decide) ?_
        | refine WpL.appU8s tabOk rfl rfl rfl (Nat.zero_le _) rfl rfl (by first | rfl | omega | (simp; done) | (simp; omega)) (by first | rfl | omega | (simp; done) | (simp; omega)) (by omega) (by decide) ?_
        | refine WpL.nil1U8s tabOk rfl rfl rfl rfl (by omega) rfl (by decide) ?_
        | refine WpL.app1Strs tabOk rfl rfl rfl (Nat.zero_le _) rfl rfl (by first | rfl | omega | (simp; done) | (simp; omega)) (by omega) (by decide) ?_
        | refine WpL.appStrs tabOk rfl rfl rfl (Nat.zero_le _) rfl rfl (by first | rfl | omega | (simp; done) | (simp; omega)) (by first | rfl | omega | (simp; done) | (simp; omega)) (by omega) (by decide) ?_
        | refine WpL.nil1Strs tabOk rfl rfl rfl rfl (by omega) rfl (by decide) ?_
        | refine WpL.appOwn tabOk rfl rfl rfl rfl rfl rfl (by simp) (Nat.zero_le _) rfl rfl (by simp) (by simp [all_ints, all_u8s, all_strs, oneB, Value.oneCell']) (by omega) (by decide) ?_
        | refine WpL.appNil tabOk rfl rfl rfl rfl (by simp) (by simp [all_ints, all_u8s, all_strs, oneB, Value.oneCell']) (by omega) rfl (by decide) ?_
        | refine WpL.min2 rfl rfl (by decide) ?_
        | refine WpL.max2 rfl rfl (by decide) ?_)
      | (refine K.un ?_; first
        | refine WpL.not rfl (by decide) ?_
        | refine WpL.neg rfl (by omega) (by decide) ?_)
      | (refine K.pick ?_; first
        | refine WpL.pickT rfl rfl (by decide) ?_
        | refine WpL.pickF rfl rfl (by decide) ?_)
      | (refine K.ext ?_; refine WpL.extract rfl rfl (by first | decide | simp [AV.shL]) (by decide) ?_)
      | (refine K.cv ?_; first
        | refine WpL.convI (P := Try.prog) (by rfl) (K.tyInt tabOk rfl) rfl (by omega) (by decide) ?_
        | refine WpL.conv (P := Try.prog) (by rfl) (K.tyInt tabOk rfl) rfl (by decide) ?_
        | refine WpL.toBytes tabOk rfl rfl rfl rfl (by omega) rfl (by decide) ?_
        | refine WpL.ofBytes tabOk rfl rfl rfl rfl rfl (by simp) (by decide) ?_)
      | (refine K.lit ?_; first
        | refine WpL.lit0U8s tabOk rfl rfl rfl (by decide) ?_
        | refine WpL.lit0Ints tabOk rfl rfl rfl (by decide) ?_
        | refine WpL.lit0Bools tabOk rfl rfl rfl (by decide) ?_
        | refine WpL.lit0Strs tabOk rfl rfl rfl (by decide) ?_
        | refine WpL.litF tabOk rfl rfl rfl rfl (by decide) rfl (by decide) ?_)
      | (refine K.ms ?_; first
        | refine WpL.makeInts tabOk rfl rfl rfl (by omega) (by omega) rfl (by decide) ?_
        | refine WpL.makeStrs tabOk rfl rfl rfl (by omega) (by omega) rfl (by decide) ?_
        | refine WpL.makeBools tabOk rfl rfl rfl (by omega) (by omega) rfl (by decide) ?_
        | refine WpL.makeU8s tabOk rfl rfl rfl (by omega) (by omega) rfl (by decide) ?_)
      | (refine K.st ?_; first
        | refine WpL.storeInts tabOk rfl rfl rfl rfl rfl (by first | omega | (simp; omega)) ?_
        | refine WpL.storeU8s tabOk rfl rfl rfl rfl rfl (by first | omega | (simp; omega)) ?_
        | refine WpL.storeBools tabOk rfl rfl rfl rfl rfl (by first | omega | (simp; omega)) ?_
        | refine WpL.storeStrs tabOk rfl rfl rfl rfl rfl (by first | omega | (simp; omega)) ?_
        | refine WpL.store tabOk rfl rfl rfl rfl rfl rfl rfl rfl (by first | omega | (simp; omega) | (simp; done)) ?_)
      | (refine K.all ?_; first
        | refine WpL.allocStruct tabOk rfl rfl (by decide) ?_
        | refine WpL.allocPlain tabOk rfl rfl rfl (by decide) ?_)
      | (refine K.box ?_; refine WpL.box rfl rfl rfl (by decide) ?_)
      | (refine K.nc ?_; first
        | refine WpL.nilCheckP rfl rfl rfl (by decide) ?_
        | refine WpL.nilCheckI rfl (by decide) ?_)
      | (refine K.sl ?_; first
        | refine WpL.subStr tabOk rfl rfl (by first | exact .inl ⟨rfl, rfl⟩ | exact .inr ⟨_, _, rfl, rfl⟩) (by first | exact .inl ⟨rfl, rfl⟩ | exact .inr ⟨_, _, rfl, rfl⟩) (by omega) (by decide) ?_
        | refine WpL.subImm tabOk rfl rfl (by first | exact .inl ⟨rfl, rfl⟩ | exact .inr ⟨_, _, rfl, rfl⟩) (by first | exact .inl ⟨rfl, rfl⟩ | exact .inr ⟨_, _, rfl, rfl⟩) (by omega) (by decide) ?_)
      | (refine K.gd ?_; first
        | refine K.gT rfl (by decide) rfl ?_
        | refine K.gF rfl (by decide) rfl ?_
        | refine K.gD rfl rfl (fun _ => ?_) (fun _ => ?_)
        | refine K.gN rfl rfl (fun _ => ?_) (fun _ => ?_)
        | refine K.gS rfl rfl (fun _ => ?_) (fun _ => ?_)))
    | refine WpL.nil ?_
    | refine Abs.Seq.n ?_
    | (refine K.A ?_; first
      | refine WpA.seq ?_
      | refine WpA.region ?_
      | (refine K.cond ?_; first
        | refine WpA.condT rfl ?_
        | refine WpA.condF rfl ?_
        | refine WpA.condD rfl (fun _ => ?_) (fun _ => ?_)
        | refine WpA.condN rfl (fun _ => ?_) (fun _ => ?_)
        | refine WpA.condS rfl (fun _ => ?_) (fun _ => ?_))
      | refine WpA.block ?_
      | refine WpA.ret ?_
      | refine WpA.exit ?_
      | refine WpA.skip ?_
      | apply WpA.regionM 1 mixed (by decide +kernel)
      | apply WpA.regionM 2 mixed (by decide +kernel)
      | apply WpA.regionM 3 mixed (by decide +kernel)
      | apply WpA.regionM 4 mixed (by decide +kernel)
      | apply WpA.regionM 5 mixed (by decide +kernel)
      | apply WpA.regionM 6 mixed (by decide +kernel)
      | apply WpA.regionM 7 mixed (by decide +kernel)
      | apply WpA.regionM 8 mixed (by decide +kernel)
      | apply WpA.regionM 9 mixed (by decide +kernel)
      | apply WpA.regionM 10 mixed (by decide +kernel)
      | apply WpA.regionM 11 mixed (by decide +kernel)
      | apply WpA.regionM 12 mixed (by decide +kernel)
      | apply WpA.regionM 13 mixed (by decide +kernel)
      | apply WpA.regionM 14 mixed (by decide +kernel)
      | apply WpA.regionM 15 mixed (by decide +kernel)
      | apply WpA.regionM 16 mixed (by decide +kernel)
      | apply WpA.regionM 17 mixed (by decide +kernel)
      | apply WpA.regionM 18 mixed (by decide +kernel)
      | apply WpA.regionM 19 mixed (by decide +kernel)
      | apply WpA.regionM 20 mixed (by decide +kernel)
      | apply WpA.regionM 21 mixed (by decide +kernel)
      | apply WpA.regionM 22 mixed (by decide +kernel)
      | apply WpA.regionM 23 mixed (by decide +kernel)
      | apply WpA.regionM 24 mixed (by decide +kernel)
      | apply WpA.regionM 25 mixed (by decide +kernel)
      | apply WpA.regionM 26 mixed (by decide +kernel)
      | apply WpA.regionM 27 mixed (by decide +kernel)
      | apply WpA.regionM 28 mixed (by decide +kernel)
      | apply WpA.regionM 29 mixed (by decide +kernel)
      | apply WpA.regionM 30 mixed (by decide +kernel)
      | apply WpA.regionM 31 mixed (by decide +kernel)
      | apply WpA.regionM 32 mixed (by decide +kernel)
      | refine WpA.regionD mixed (by decide +kernel) ?_)
    | refine Abs.Seq.ret ?_
    | refine Abs.Seq.exit ?_
    | refine Blk.n ?_
    | refine Blk.ret ?_
    | refine Blk.exitHere ?_
    | refine Blk.exitOther rfl ?_
    | refine Rnd.ret ?_
    | refine Rnd.exit ?_
    | exact Only.mk rfl
    | exact Abs.HeadJ.nil
    | apply Abs.HeadJ.cons rfl
    | (apply K.depT; simp only [deps, List.toList_toArray, List.filterMap_cons, List.filterMap_nil, Region.binds, if_true, List.nil_append, List.cons_append, List.getElem?_cons_succ, List.getElem?_cons_zero, List.getElem?_nil, reduceCtorEq, Bool.true_or, Bool.or_true]; exact rfl)
    | refine fun Tv => K.L ?_
    | (apply K.appT; simp only [List.nil_append, List.cons_append, List.append_assoc]; exact rfl)
    | (refine K.isTrue ?_; kernel_rfl)
    | exact rfl
    | contradiction
    | omega)
  · refine Rnd.go (k + 1) ?_ ?_ ?_
    · (try dsimp only); omega
    · (try dsimp only); omega
    exact Weak.mk (by repeat (first | exact ReT.nil | refine ReT.cons (.keep rfl rfl .nil) ?_ | refine ReT.cons (.own rfl rfl rfl rfl rfl rfl .nil) ?_ | refine ReT.cons (.ptr rfl rfl rfl rfl .nil) ?_ | refine ReT.cons (.keep (congrArg (fun z => AV.sc (Value.int .i64 z)) (by first | omega | (rw [costs_snoc _ _ (by omega)]; simp [clampM, Int.min_comm]))) rfl .nil) ?_ | refine ReT.cons (.own rfl rfl rfl rfl rfl (by first | omega | (simp; done) | (simp; omega)) .nil) ?_)) (by repeat (first | exact ReO.nil | refine ReO.cons (Re.same rfl (still_ints _)) (by simp) ?_ | refine ReO.cons (Re.same rfl rfl) (by simp) ?_ | refine ReO.cons (Re.same (by rw [costs_snoc _ _ (by omega)]; simp [clampM, Int.min_comm]) (still_ints _)) (by simp) ?_ | refine ReO.cons (Re.same (by rw [costs_snoc _ _ (by omega)]; simp [clampM, Int.min_comm]) (still_u8s _)) (by simp) ?_ | refine ReO.cons (Re.same (by rw [costs_snoc _ _ (by omega)]; simp [clampM, Int.min_comm]) (still_strs _)) (by simp) ?_)) (Nat.zero_le _)
  · refine Abs.Fin.ret (.one (.tmp rfl) .nil (by decide) (.keep ?_ rfl rfl .nil))
    have : k = xs.length := by omega
    subst this; simp

theorem fill_step (xs : List Int) (k : Nat) (h : k < xs.length) : (xs.take k ++ List.replicate (xs.length - k) 0).set k (xs.getD k 0) = xs.take (k + 1) ++ List.replicate (xs.length - (k + 1)) 0 := by
  have e := List.take_succ_eq_append_getElem h
  rw [List.set_append_right _ _ (by simp; omega), e]
  obtain ⟨m, hm⟩ : ∃ m, xs.length - k = m + 1 := ⟨xs.length - k - 1, by omega⟩
  rw [hm, show xs.length - (k + 1) = m from by omega, List.replicate_succ]
  simp only [List.length_take, show min k xs.length = k from by omega, Nat.sub_self, List.set_cons_zero, List.getD_eq_getElem?_getD, List.getElem?_eq_getElem h, Option.getD_some, List.append_assoc, List.cons_append, List.nil_append]
theorem set_ints (xs : List Int) (k : Nat) (v : Int) : setL (ints xs) k [I v] = ints (xs.set k v) := by
  simp [setL, ints, List.map_set]

theorem toIntS_c (xs : List Int) (hl : xs.length ≤ 1099511627776) : FnC Try.prog 14 [.imm 1 xs.length (ints xs)] [⟨ints xs, 0, 1, some 3⟩] (.own 0 0 0 xs.length) := by
  refine FnC.of_body tabOk Try.func14 Try.ntmps14 rfl (by decide +kernel) (by simp) fun G => ?_
  repeat' (first
    | (refine K.L ?_; first
      | (refine K.mv ?_; refine WpL.move rfl (by decide) ?_)
      | (refine K.call ?_; first
        | fail
        )
      | (refine K.bin ?_; first
        | refine WpL.add rfl rfl (by omega) (by decide) ?_
        | refine WpL.sub rfl rfl (by omega) (by decide) ?_
        | refine WpL.mul rfl rfl (by omega) (by decide) ?_
        | refine WpL.quo rfl rfl (by omega) (by decide) ?_
        | refine WpL.rem rfl rfl (by omega) (by decide) ?_
        | refine WpL.bin rfl rfl rfl (by decide) ?_
        | refine WpL.strAdd rfl rfl (by omega) (by decide) ?_
        | refine WpL.strEq rfl rfl (by decide) ?_
        | refine WpL.strNe rfl rfl (by decide) ?_
        | refine WpL.boolEq (K.tyBool tabOk rfl) rfl rfl (by decide) ?_
        | refine WpL.boolNe (K.tyBool tabOk rfl) rfl rfl (by decide) ?_
        | refine WpL.shl rfl rfl (by first | decide | (simp only [IntKind.bits]; omega)) (by decide) ?_
        | refine WpL.shr rfl rfl (by first | decide | (simp only [IntKind.bits]; omega)) (by decide) ?_)
      | (refine K.ld ?_; first
        | refine WpL.loadInts tabOk rfl rfl rfl (by first | omega | (simp; omega)) (by decide) ?_
        | refine WpL.loadU8s tabOk rfl rfl rfl (by first | omega | (simp; omega)) (by decide) ?_
        | refine WpL.loadStrs tabOk rfl rfl rfl (by first | omega | (simp; omega)) (by decide) ?_
        | refine WpL.loadBools tabOk rfl rfl rfl (by first | omega | (simp; omega)) (by decide) ?_
        | refine WpL.load1 tabOk rfl rfl rfl rfl rfl (by decide) ?_)
      | (refine K.asg ?_; refine WpL.assign rfl (by decide) ?_)
      | (refine K.fld ?_; first
        | refine WpL.fieldI tabOk rfl rfl rfl (by decide) ?_
        | refine WpL.fieldP tabOk rfl rfl rfl rfl rfl (by decide) ?_)
      | (refine K.ixa ?_; first
        | refine WpL.idxI tabOk rfl rfl rfl (by omega) (by decide) ?_
        | refine WpL.idxO tabOk rfl rfl rfl rfl rfl (by omega) (by decide) ?_)
      | (refine K.ix ?_; refine WpL.idxStr tabOk rfl rfl rfl (by omega) (by decide) ?_)
      | (refine K.bi ?_; first
        | refine WpL.lenImm (TabOk.slice tabOk rfl).1 rfl (by decide) ?_
        | refine WpL.lenOwn (TabOk.slice tabOk rfl).1 rfl rfl rfl (by decide) ?_
        | refine WpL.lenNil (TabOk.slice tabOk rfl).1 rfl (by decide) ?_
        | refine WpL.lenStr (K.tyStr tabOk rfl) rfl (by decide) ?_
        | refine WpL.app1Ints tabOk rfl rfl rfl (Nat.zero_le _) rfl rfl (by first | rfl | omega | (simp; done) | (simp; omega)) (by omega) (by decide) ?_
        | refine WpL.appInts tabOk rfl rfl rfl (Nat.zero_le _) rfl rfl (by first | rfl | omega | (simp; done) | (simp; omega)) (by first | rfl | omega | (simp; done) | (simp; omega)) (by omega) (by decide) ?_
        | refine WpL.nil1Ints tabOk rfl rfl rfl rfl (by omega) rfl (by decide) ?_
        | refine WpL.app1U8s tabOk rfl rfl rfl (Nat.zero_le _) rfl rfl (by first | rfl | omega | (simp; done) | (simp; omega)) (by omega) (by decide) ?_
        | refine WpL.appU8s tabOk rfl rfl rfl (Nat.zero_le _) rfl rfl (by first | rfl | omega | (simp; done) | (simp; omega)) (by first | rfl | omega | (simp; done) | (simp; omega)) (by omega) (by decide) ?_
        | refine WpL.nil1U8s tabOk rfl rfl rfl rfl (by omega) rfl (by decide) ?_
        | refine WpL.app1Strs tabOk rfl rfl rfl (Nat.zero_le _) rfl rfl (by first | rfl | omega | (simp; done) | (simp; omega)) (by omega) (by decide) ?_
        | refine WpL.appStrs tabOk rfl rfl rfl (Nat.zero_le _) rfl rfl (by first | rfl | omega | (simp; done) | (simp; omega)) (by first | rfl | omega | (simp; done) | (simp; omega)) (by omega) (by decide) ?_
        | refine WpL.nil1Strs tabOk rfl rfl rfl rfl (by omega) rfl (by decide) ?_
        | refine WpL.appOwn tabOk rfl rfl rfl rfl rfl rfl (by simp) (Nat.zero_le _) rfl rfl (by simp) (by simp [all_ints, all_u8s, all_strs, oneB, Value.oneCell']) (by omega) (by decide) ?_
        | refine WpL.appNil tabOk rfl rfl rfl rfl (by simp) (by simp [all_ints, all_u8s, all_strs, oneB, Value.oneCell']) (by omega) rfl (by decide) ?_
        | refine WpL.min2 rfl rfl (by decide) ?_
        | refine WpL.max2 rfl rfl (by decide) ?_)
      | (refine K.un ?_; first
        | refine WpL.not rfl (by decide) ?_
        | refine WpL.neg rfl (by omega) (by decide) ?_)
      | (refine K.pick ?_; first
        | refine WpL.pickT rfl rfl (by decide) ?_
        | refine WpL.pickF rfl rfl (by decide) ?_)
      | (refine K.ext ?_; refine WpL.extract rfl rfl (by first | decide | simp [AV.shL]) (by decide) ?_)
      | (refine K.cv ?_; first
        | refine WpL.convI (P := Try.prog) (by rfl) (K.tyInt tabOk rfl) rfl (by omega) (by decide) ?_
        | refine WpL.conv (P := Try.prog) (by rfl) (K.tyInt tabOk rfl) rfl (by decide) ?_
        | refine WpL.toBytes tabOk rfl rfl rfl rfl (by omega) rfl (by decide) ?_
        | refine WpL.ofBytes tabOk rfl rfl rfl rfl rfl (by simp) (by decide) ?_)
      | (refine K.lit ?_; first
        | refine WpL.lit0U8s tabOk rfl rfl rfl (by decide) ?_
        | refine WpL.lit0Ints tabOk rfl rfl rfl (by decide) ?_
        | refine WpL.lit0Bools tabOk rfl rfl rfl (by decide) ?_
        | refine WpL.lit0Strs tabOk rfl rfl rfl (by decide) ?_
        | refine WpL.litF tabOk rfl rfl rfl rfl (by decide) rfl (by decide) ?_)
      | (refine K.ms ?_; first
        | refine WpL.makeInts tabOk rfl rfl rfl (by omega) (by omega) rfl (by decide) ?_
        | refine WpL.makeStrs tabOk rfl rfl rfl (by omega) (by omega) rfl (by decide) ?_
        | refine WpL.makeBools tabOk rfl rfl rfl (by omega) (by omega) rfl (by decide) ?_
        | refine WpL.makeU8s tabOk rfl rfl rfl (by omega) (by omega) rfl (by decide) ?_)
      | (refine K.st ?_; first
        | refine WpL.storeInts tabOk rfl rfl rfl rfl rfl (by first | omega | (simp; omega)) ?_
        | refine WpL.storeU8s tabOk rfl rfl rfl rfl rfl (by first | omega | (simp; omega)) ?_
        | refine WpL.storeBools tabOk rfl rfl rfl rfl rfl (by first | omega | (simp; omega)) ?_
        | refine WpL.storeStrs tabOk rfl rfl rfl rfl rfl (by first | omega | (simp; omega)) ?_
        | refine WpL.store tabOk rfl rfl rfl rfl rfl rfl rfl rfl (by first | omega | (simp; omega) | (simp; done)) ?_)
      | (refine K.all ?_; first
        | refine WpL.allocStruct tabOk rfl rfl (by decide) ?_
        | refine WpL.allocPlain tabOk rfl rfl rfl (by decide) ?_)
      | (refine K.box ?_; refine WpL.box rfl rfl rfl (by decide) ?_)
      | (refine K.nc ?_; first
        | refine WpL.nilCheckP rfl rfl rfl (by decide) ?_
        | refine WpL.nilCheckI rfl (by decide) ?_)
      | (refine K.sl ?_; first
        | refine WpL.subStr tabOk rfl rfl (by first | exact .inl ⟨rfl, rfl⟩ | exact .inr ⟨_, _, rfl, rfl⟩) (by first | exact .inl ⟨rfl, rfl⟩ | exact .inr ⟨_, _, rfl, rfl⟩) (by omega) (by decide) ?_
        | refine WpL.subImm tabOk rfl rfl (by first | exact .inl ⟨rfl, rfl⟩ | exact .inr ⟨_, _, rfl, rfl⟩) (by first | exact .inl ⟨rfl, rfl⟩ | exact .inr ⟨_, _, rfl, rfl⟩) (by omega) (by decide) ?_)
      | (refine K.gd ?_; first
        | refine K.gT rfl (by decide) rfl ?_
        | refine K.gF rfl (by decide) rfl ?_
        | refine K.gD rfl rfl (fun _ => ?_) (fun _ => ?_)
        | refine K.gN rfl rfl (fun _ => ?_) (fun _ => ?_)
        | refine K.gS rfl rfl (fun _ => ?_) (fun _ => ?_)))
    | refine WpL.nil ?_
    | refine Abs.Seq.n ?_
    | (refine K.A ?_; first
      | refine WpA.seq ?_
      | refine WpA.region ?_
      | (refine K.cond ?_; first
        | refine WpA.condT rfl ?_
        | refine WpA.condF rfl ?_
        | refine WpA.condD rfl (fun _ => ?_) (fun _ => ?_)
        | refine WpA.condN rfl (fun _ => ?_) (fun _ => ?_)
        | refine WpA.condS rfl (fun _ => ?_) (fun _ => ?_))
      | refine WpA.block ?_
      | refine WpA.ret ?_
      | refine WpA.exit ?_
      | refine WpA.skip ?_
      | apply WpA.regionM 1 mixed (by decide +kernel)
      | apply WpA.regionM 2 mixed (by decide +kernel)
      | apply WpA.regionM 3 mixed (by decide +kernel)
      | apply WpA.regionM 4 mixed (by decide +kernel)
      | apply WpA.regionM 5 mixed (by decide +kernel)
      | apply WpA.regionM 6 mixed (by decide +kernel)
      | apply WpA.regionM 7 mixed (by decide +kernel)
      | apply WpA.regionM 8 mixed (by decide +kernel)
      | apply WpA.regionM 9 mixed (by decide +kernel)
      | apply WpA.regionM 10 mixed (by decide +kernel)
      | apply WpA.regionM 11 mixed (by decide +kernel)
      | apply WpA.regionM 12 mixed (by decide +kernel)
      | apply WpA.regionM 13 mixed (by decide +kernel)
      | apply WpA.regionM 14 mixed (by decide +kernel)
      | apply WpA.regionM 15 mixed (by decide +kernel)
      | apply WpA.regionM 16 mixed (by decide +kernel)
      | apply WpA.regionM 17 mixed (by decide +kernel)
      | apply WpA.regionM 18 mixed (by decide +kernel)
      | apply WpA.regionM 19 mixed (by decide +kernel)
      | apply WpA.regionM 20 mixed (by decide +kernel)
      | apply WpA.regionM 21 mixed (by decide +kernel)
      | apply WpA.regionM 22 mixed (by decide +kernel)
      | apply WpA.regionM 23 mixed (by decide +kernel)
      | apply WpA.regionM 24 mixed (by decide +kernel)
      | apply WpA.regionM 25 mixed (by decide +kernel)
      | apply WpA.regionM 26 mixed (by decide +kernel)
      | apply WpA.regionM 27 mixed (by decide +kernel)
      | apply WpA.regionM 28 mixed (by decide +kernel)
      | apply WpA.regionM 29 mixed (by decide +kernel)
      | apply WpA.regionM 30 mixed (by decide +kernel)
      | apply WpA.regionM 31 mixed (by decide +kernel)
      | apply WpA.regionM 32 mixed (by decide +kernel)
      | refine WpA.regionD mixed (by decide +kernel) ?_)
    | refine Abs.Seq.ret ?_
    | refine Abs.Seq.exit ?_
    | refine Blk.n ?_
    | refine Blk.ret ?_
    | refine Blk.exitHere ?_
    | refine Blk.exitOther rfl ?_
    | refine Rnd.ret ?_
    | refine Rnd.exit ?_
    | exact Only.mk rfl
    | exact Abs.HeadJ.nil
    | apply Abs.HeadJ.cons rfl
    | (apply K.depT; simp only [deps, List.toList_toArray, List.filterMap_cons, List.filterMap_nil, Region.binds, if_true, List.nil_append, List.cons_append, List.getElem?_cons_succ, List.getElem?_cons_zero, List.getElem?_nil, reduceCtorEq, Bool.true_or, Bool.or_true]; exact rfl)
    | refine fun Tv => K.L ?_
    | (apply K.appT; simp only [List.nil_append, List.cons_append, List.append_assoc]; exact rfl)
    | (refine K.isTrue ?_; kernel_rfl)
    | exact rfl
    | contradiction
    | omega)
  refine WpA.loop (fun k : Nat => ⟨[(0, .imm 1 xs.length (ints xs)), (3, .own 0 0 0 xs.length), (4, I k)], [⟨ints (xs.take k ++ List.replicate (xs.length - k) 0), 0, 1, some 3⟩]⟩) (fun k => k ≤ xs.length) (fun k => xs.length - k) 0 (by omega) ?_ (fun k hk => ?_)
  · exact Weak.mk (by repeat (first | exact ReT.nil | refine ReT.cons (.keep rfl rfl .nil) ?_ | refine ReT.cons (.own rfl rfl rfl rfl rfl rfl .nil) ?_ | refine ReT.cons (.ptr rfl rfl rfl rfl .nil) ?_ | refine ReT.cons (.keep (congrArg (fun z => AV.sc (Value.int .i64 z)) (by first | omega | (simp))) rfl .nil) ?_ | refine ReT.cons (.own rfl rfl rfl rfl rfl (by first | omega | (simp; done) | (simp; omega)) .nil) ?_)) (by repeat (first | exact ReO.nil | refine ReO.cons (Re.same rfl (still_ints _)) (by simp) ?_ | refine ReO.cons (Re.same rfl rfl) (by simp) ?_ | refine ReO.cons (Re.same (by simp) (still_ints _)) (by simp) ?_ | refine ReO.cons (Re.same (by simp) (still_u8s _)) (by simp) ?_ | refine ReO.cons (Re.same (by simp) (still_strs _)) (by simp) ?_)) (Nat.zero_le _)
  have hll : (ints (xs.take k ++ List.replicate (xs.length - k) 0)).length = xs.length := by simp [ints]; omega
  repeat' (first
    | (refine K.L ?_; first
      | (refine K.mv ?_; refine WpL.move rfl (by decide) ?_)
      | (refine K.call ?_; first
        | fail
        )
      | (refine K.bin ?_; first
        | refine WpL.add rfl rfl (by omega) (by decide) ?_
        | refine WpL.sub rfl rfl (by omega) (by decide) ?_
        | refine WpL.mul rfl rfl (by omega) (by decide) ?_
        | refine WpL.quo rfl rfl (by omega) (by decide) ?_
        | refine WpL.rem rfl rfl (by omega) (by decide) ?_
        | refine WpL.bin rfl rfl rfl (by decide) ?_
        | refine WpL.strAdd rfl rfl (by omega) (by decide) ?_
        | refine WpL.strEq rfl rfl (by decide) ?_
        | refine WpL.strNe rfl rfl (by decide) ?_
        | refine WpL.boolEq (K.tyBool tabOk rfl) rfl rfl (by decide) ?_
        | refine WpL.boolNe (K.tyBool tabOk rfl) rfl rfl (by decide) ?_
        | refine WpL.shl rfl rfl (by first | decide | (simp only [IntKind.bits]; omega)) (by decide) ?_
        | refine WpL.shr rfl rfl (by first | decide | (simp only [IntKind.bits]; omega)) (by decide) ?_)
      | (refine K.ld ?_; first
        | refine WpL.loadInts tabOk rfl rfl rfl (by first | omega | (simp; omega)) (by decide) ?_
        | refine WpL.loadU8s tabOk rfl rfl rfl (by first | omega | (simp; omega)) (by decide) ?_
        | refine WpL.loadStrs tabOk rfl rfl rfl (by first | omega | (simp; omega)) (by decide) ?_
        | refine WpL.loadBools tabOk rfl rfl rfl (by first | omega | (simp; omega)) (by decide) ?_
        | refine WpL.load1 tabOk rfl rfl rfl rfl rfl (by decide) ?_)
      | (refine K.asg ?_; refine WpL.assign rfl (by decide) ?_)
      | (refine K.fld ?_; first
        | refine WpL.fieldI tabOk rfl rfl rfl (by decide) ?_
        | refine WpL.fieldP tabOk rfl rfl rfl rfl rfl (by decide) ?_)
      | (refine K.ixa ?_; first
        | refine WpL.idxI tabOk rfl rfl rfl (by omega) (by decide) ?_
        | refine WpL.idxO tabOk rfl rfl rfl rfl rfl (by omega) (by decide) ?_)
      | (refine K.ix ?_; refine WpL.idxStr tabOk rfl rfl rfl (by omega) (by decide) ?_)
      | (refine K.bi ?_; first
        | refine WpL.lenImm (TabOk.slice tabOk rfl).1 rfl (by decide) ?_
        | refine WpL.lenOwn (TabOk.slice tabOk rfl).1 rfl rfl rfl (by decide) ?_
        | refine WpL.lenNil (TabOk.slice tabOk rfl).1 rfl (by decide) ?_
        | refine WpL.lenStr (K.tyStr tabOk rfl) rfl (by decide) ?_
        | refine WpL.app1Ints tabOk rfl rfl rfl (Nat.zero_le _) rfl rfl (by first | rfl | omega | (simp; done) | (simp; omega)) (by omega) (by decide) ?_
        | refine WpL.appInts tabOk rfl rfl rfl (Nat.zero_le _) rfl rfl (by first | rfl | omega | (simp; done) | (simp; omega)) (by first | rfl | omega | (simp; done) | (simp; omega)) (by omega) (by decide) ?_
        | refine WpL.nil1Ints tabOk rfl rfl rfl rfl (by omega) rfl (by decide) ?_
        | refine WpL.app1U8s tabOk rfl rfl rfl (Nat.zero_le _) rfl rfl (by first | rfl | omega | (simp; done) | (simp; omega)) (by omega) (by decide) ?_
        | refine WpL.appU8s tabOk rfl rfl rfl (Nat.zero_le _) rfl rfl (by first | rfl | omega | (simp; done) | (simp; omega)) (by first | rfl | omega | (simp; done) | (simp; omega)) (by omega) (by decide) ?_
        | refine WpL.nil1U8s tabOk rfl rfl rfl rfl (by omega) rfl (by decide) ?_
        | refine WpL.app1Strs tabOk rfl rfl rfl (Nat.zero_le _) rfl rfl (by first | rfl | omega | (simp; done) | (simp; omega)) (by omega) (by decide) ?_
        | refine WpL.appStrs tabOk rfl rfl rfl (Nat.zero_le _) rfl rfl (by first | rfl | omega | (simp; done) | (simp; omega)) (by first | rfl | omega | (simp; done) | (simp; omega)) (by omega) (by decide) ?_
        | refine WpL.nil1Strs tabOk rfl rfl rfl rfl (by omega) rfl (by decide) ?_
        | refine WpL.appOwn tabOk rfl rfl rfl rfl rfl rfl (by simp) (Nat.zero_le _) rfl rfl (by simp) (by simp [all_ints, all_u8s, all_strs, oneB, Value.oneCell']) (by omega) (by decide) ?_
        | refine WpL.appNil tabOk rfl rfl rfl rfl (by simp) (by simp [all_ints, all_u8s, all_strs, oneB, Value.oneCell']) (by omega) rfl (by decide) ?_
        | refine WpL.min2 rfl rfl (by decide) ?_
        | refine WpL.max2 rfl rfl (by decide) ?_)
      | (refine K.un ?_; first
        | refine WpL.not rfl (by decide) ?_
        | refine WpL.neg rfl (by omega) (by decide) ?_)
      | (refine K.pick ?_; first
        | refine WpL.pickT rfl rfl (by decide) ?_
        | refine WpL.pickF rfl rfl (by decide) ?_)
      | (refine K.ext ?_; refine WpL.extract rfl rfl (by first | decide | simp [AV.shL]) (by decide) ?_)
      | (refine K.cv ?_; first
        | refine WpL.convI (P := Try.prog) (by rfl) (K.tyInt tabOk rfl) rfl (by omega) (by decide) ?_
        | refine WpL.conv (P := Try.prog) (by rfl) (K.tyInt tabOk rfl) rfl (by decide) ?_
        | refine WpL.toBytes tabOk rfl rfl rfl rfl (by omega) rfl (by decide) ?_
        | refine WpL.ofBytes tabOk rfl rfl rfl rfl rfl (by simp) (by decide) ?_)
      | (refine K.lit ?_; first
        | refine WpL.lit0U8s tabOk rfl rfl rfl (by decide) ?_
        | refine WpL.lit0Ints tabOk rfl rfl rfl (by decide) ?_
        | refine WpL.lit0Bools tabOk rfl rfl rfl (by decide) ?_
        | refine WpL.lit0Strs tabOk rfl rfl rfl (by decide) ?_
        | refine WpL.litF tabOk rfl rfl rfl rfl (by decide) rfl (by decide) ?_)
      | (refine K.ms ?_; first
        | refine WpL.makeInts tabOk rfl rfl rfl (by omega) (by omega) rfl (by decide) ?_
        | refine WpL.makeStrs tabOk rfl rfl rfl (by omega) (by omega) rfl (by decide) ?_
        | refine WpL.makeBools tabOk rfl rfl rfl (by omega) (by omega) rfl (by decide) ?_
        | refine WpL.makeU8s tabOk rfl rfl rfl (by omega) (by omega) rfl (by decide) ?_)
      | (refine K.st ?_; first
        | refine WpL.storeInts tabOk rfl rfl rfl rfl rfl (by first | omega | (simp; omega)) ?_
        | refine WpL.storeU8s tabOk rfl rfl rfl rfl rfl (by first | omega | (simp; omega)) ?_
        | refine WpL.storeBools tabOk rfl rfl rfl rfl rfl (by first | omega | (simp; omega)) ?_
        | refine WpL.storeStrs tabOk rfl rfl rfl rfl rfl (by first | omega | (simp; omega)) ?_
        | refine WpL.store tabOk rfl rfl rfl rfl rfl rfl rfl rfl (by first | omega | (simp; omega) | (simp; done)) ?_)
      | (refine K.all ?_; first
        | refine WpL.allocStruct tabOk rfl rfl (by decide) ?_
        | refine WpL.allocPlain tabOk rfl rfl rfl (by decide) ?_)
      | (refine K.box ?_; refine WpL.box rfl rfl rfl (by decide) ?_)
      | (refine K.nc ?_; first
        | refine WpL.nilCheckP rfl rfl rfl (by decide) ?_
        | refine WpL.nilCheckI rfl (by decide) ?_)
      | (refine K.sl ?_; first
        | refine WpL.subStr tabOk rfl rfl (by first | exact .inl ⟨rfl, rfl⟩ | exact .inr ⟨_, _, rfl, rfl⟩) (by first | exact .inl ⟨rfl, rfl⟩ | exact .inr ⟨_, _, rfl, rfl⟩) (by omega) (by decide) ?_
        | refine WpL.subImm tabOk rfl rfl (by first | exact .inl ⟨rfl, rfl⟩ | exact .inr ⟨_, _, rfl, rfl⟩) (by first | exact .inl ⟨rfl, rfl⟩ | exact .inr ⟨_, _, rfl, rfl⟩) (by omega) (by decide) ?_)
      | (refine K.gd ?_; first
        | refine K.gT rfl (by decide) rfl ?_
        | refine K.gF rfl (by decide) rfl ?_
        | refine K.gD rfl rfl (fun _ => ?_) (fun _ => ?_)
        | refine K.gN rfl rfl (fun _ => ?_) (fun _ => ?_)
        | refine K.gS rfl rfl (fun _ => ?_) (fun _ => ?_)))
    | refine WpL.nil ?_
    | refine Abs.Seq.n ?_
    | (refine K.A ?_; first
      | refine WpA.seq ?_
      | refine WpA.region ?_
      | (refine K.cond ?_; first
        | refine WpA.condT rfl ?_
        | refine WpA.condF rfl ?_
        | refine WpA.condD rfl (fun _ => ?_) (fun _ => ?_)
        | refine WpA.condN rfl (fun _ => ?_) (fun _ => ?_)
        | refine WpA.condS rfl (fun _ => ?_) (fun _ => ?_))
      | refine WpA.block ?_
      | refine WpA.ret ?_
      | refine WpA.exit ?_
      | refine WpA.skip ?_
      | apply WpA.regionM 1 mixed (by decide +kernel)
      | apply WpA.regionM 2 mixed (by decide +kernel)
      | apply WpA.regionM 3 mixed (by decide +kernel)
      | apply WpA.regionM 4 mixed (by decide +kernel)
      | apply WpA.regionM 5 mixed (by decide +kernel)
      | apply WpA.regionM 6 mixed (by decide +kernel)
      | apply WpA.regionM 7 mixed (by decide +kernel)
      | apply WpA.regionM 8 mixed (by decide +kernel)
      | apply WpA.regionM 9 mixed (by decide +kernel)
      | apply WpA.regionM 10 mixed (by decide +kernel)
      | apply WpA.regionM 11 mixed (by decide +kernel)
      | apply WpA.regionM 12 mixed (by decide +kernel)
      | apply WpA.regionM 13 mixed (by decide +kernel)
      | apply WpA.regionM 14 mixed (by decide +kernel)
      | apply WpA.regionM 15 mixed (by decide +kernel)
      | apply WpA.regionM 16 mixed (by decide +kernel)
      | apply WpA.regionM 17 mixed (by decide +kernel)
      | apply WpA.regionM 18 mixed (by decide +kernel)
      | apply WpA.regionM 19 mixed (by decide +kernel)
      | apply WpA.regionM 20 mixed (by decide +kernel)
      | apply WpA.regionM 21 mixed (by decide +kernel)
      | apply WpA.regionM 22 mixed (by decide +kernel)
      | apply WpA.regionM 23 mixed (by decide +kernel)
      | apply WpA.regionM 24 mixed (by decide +kernel)
      | apply WpA.regionM 25 mixed (by decide +kernel)
      | apply WpA.regionM 26 mixed (by decide +kernel)
      | apply WpA.regionM 27 mixed (by decide +kernel)
      | apply WpA.regionM 28 mixed (by decide +kernel)
      | apply WpA.regionM 29 mixed (by decide +kernel)
      | apply WpA.regionM 30 mixed (by decide +kernel)
      | apply WpA.regionM 31 mixed (by decide +kernel)
      | apply WpA.regionM 32 mixed (by decide +kernel)
      | refine WpA.regionD mixed (by decide +kernel) ?_)
    | refine Abs.Seq.ret ?_
    | refine Abs.Seq.exit ?_
    | refine Blk.n ?_
    | refine Blk.ret ?_
    | refine Blk.exitHere ?_
    | refine Blk.exitOther rfl ?_
    | refine Rnd.ret ?_
    | refine Rnd.exit ?_
    | exact Only.mk rfl
    | exact Abs.HeadJ.nil
    | apply Abs.HeadJ.cons rfl
    | (apply K.depT; simp only [deps, List.toList_toArray, List.filterMap_cons, List.filterMap_nil, Region.binds, if_true, List.nil_append, List.cons_append, List.getElem?_cons_succ, List.getElem?_cons_zero, List.getElem?_nil, reduceCtorEq, Bool.true_or, Bool.or_true]; exact rfl)
    | refine fun Tv => K.L ?_
    | (apply K.appT; simp only [List.nil_append, List.cons_append, List.append_assoc]; exact rfl)
    | (refine K.isTrue ?_; kernel_rfl)
    | exact rfl
    | contradiction
    | omega)
  · refine Rnd.go (k + 1) ?_ ?_ ?_
    · (try dsimp only); omega
    · (try dsimp only); omega
    exact Weak.mk (by repeat (first | exact ReT.nil | refine ReT.cons (.keep rfl rfl .nil) ?_ | refine ReT.cons (.own rfl rfl rfl rfl rfl rfl .nil) ?_ | refine ReT.cons (.ptr rfl rfl rfl rfl .nil) ?_ | refine ReT.cons (.keep (congrArg (fun z => AV.sc (Value.int .i64 z)) (by first | omega | (rw [← fill_step _ _ (by omega)]; simp))) rfl .nil) ?_ | refine ReT.cons (.own rfl rfl rfl rfl rfl (by first | omega | (simp; done) | (simp; omega)) .nil) ?_)) (by repeat (first | exact ReO.nil | refine ReO.cons (Re.same rfl (still_ints _)) (by simp) ?_ | refine ReO.cons (Re.same rfl rfl) (by simp) ?_ | refine ReO.cons (Re.same (by rw [← fill_step _ _ (by omega)]; simp) (still_ints _)) (by simp) ?_ | refine ReO.cons (Re.same (by rw [← fill_step _ _ (by omega)]; simp) (still_u8s _)) (by simp) ?_ | refine ReO.cons (Re.same (by rw [← fill_step _ _ (by omega)]; simp) (still_strs _)) (by simp) ?_)) (Nat.zero_le _)
  · refine Abs.Fin.ret (.one (ids := [some 0]) (.tmp rfl) ?_ (by decide) (.own rfl rfl rfl rfl .nil))
    refine .obj rfl ?_ (still_ints _) rfl rfl (.inr rfl) .nil
    have : k = xs.length := by omega
    subst this; simp

theorem eqIntS_c (xs ys : List Int) (hl : xs.length ≤ 1099511627776) (hl2 : ys.length ≤ 1099511627776) : FnC Try.prog 16 [.imm 1 xs.length (ints xs), .imm 1 ys.length (ints ys)] [] (B (decide (xs = ys))) := by
  refine FnC.of_body tabOk Try.func16 Try.ntmps16 rfl (by decide +kernel) (by simp) fun G => ?_
  repeat' (first
    | (refine K.L ?_; first
      | (refine K.mv ?_; refine WpL.move rfl (by decide) ?_)
      | (refine K.call ?_; first
        | fail
        )
      | (refine K.bin ?_; first
        | refine WpL.add rfl rfl (by omega) (by decide) ?_
        | refine WpL.sub rfl rfl (by omega) (by decide) ?_
        | refine WpL.mul rfl rfl (by omega) (by decide) ?_
        | refine WpL.quo rfl rfl (by omega) (by decide) ?_
        | refine WpL.rem rfl rfl (by omega) (by decide) ?_
        | refine WpL.bin rfl rfl rfl (by decide) ?_
        | refine WpL.strAdd rfl rfl (by omega) (by decide) ?_
        | refine WpL.strEq rfl rfl (by decide) ?_
        | refine WpL.strNe rfl rfl (by decide) ?_
        | refine WpL.boolEq (K.tyBool tabOk rfl) rfl rfl (by decide) ?_
        | refine WpL.boolNe (K.tyBool tabOk rfl) rfl rfl (by decide) ?_
        | refine WpL.shl rfl rfl (by first | decide | (simp only [IntKind.bits]; omega)) (by decide) ?_
        | refine WpL.shr rfl rfl (by first | decide | (simp only [IntKind.bits]; omega)) (by decide) ?_)
      | (refine K.ld ?_; first
        | refine WpL.loadInts tabOk rfl rfl rfl (by first | omega | (simp; omega)) (by decide) ?_
        | refine WpL.loadU8s tabOk rfl rfl rfl (by first | omega | (simp; omega)) (by decide) ?_
        | refine WpL.loadStrs tabOk rfl rfl rfl (by first | omega | (simp; omega)) (by decide) ?_
        | refine WpL.loadBools tabOk rfl rfl rfl (by first | omega | (simp; omega)) (by decide) ?_
        | refine WpL.load1 tabOk rfl rfl rfl rfl rfl (by decide) ?_)
      | (refine K.asg ?_; refine WpL.assign rfl (by decide) ?_)
      | (refine K.fld ?_; first
        | refine WpL.fieldI tabOk rfl rfl rfl (by decide) ?_
        | refine WpL.fieldP tabOk rfl rfl rfl rfl rfl (by decide) ?_)
      | (refine K.ixa ?_; first
        | refine WpL.idxI tabOk rfl rfl rfl (by omega) (by decide) ?_
        | refine WpL.idxO tabOk rfl rfl rfl rfl rfl (by omega) (by decide) ?_)
      | (refine K.ix ?_; refine WpL.idxStr tabOk rfl rfl rfl (by omega) (by decide) ?_)
      | (refine K.bi ?_; first
        | refine WpL.lenImm (TabOk.slice tabOk rfl).1 rfl (by decide) ?_
        | refine WpL.lenOwn (TabOk.slice tabOk rfl).1 rfl rfl rfl (by decide) ?_
        | refine WpL.lenNil (TabOk.slice tabOk rfl).1 rfl (by decide) ?_
        | refine WpL.lenStr (K.tyStr tabOk rfl) rfl (by decide) ?_
        | refine WpL.app1Ints tabOk rfl rfl rfl (Nat.zero_le _) rfl rfl (by first | rfl | omega | (simp; done) | (simp; omega)) (by omega) (by decide) ?_
        | refine WpL.appInts tabOk rfl rfl rfl (Nat.zero_le _) rfl rfl (by first | rfl | omega | (simp; done) | (simp; omega)) (by first | rfl | omega | (simp; done) | (simp; omega)) (by omega) (by decide) ?_
        | refine WpL.nil1Ints tabOk rfl rfl rfl rfl (by omega) rfl (by decide) ?_
        | refine WpL.app1U8s tabOk rfl rfl rfl (Nat.zero_le _) rfl rfl (by first | rfl | omega | (simp; done) | (simp; omega)) (by omega) (by decide) ?_
        | refine WpL.appU8s tabOk rfl rfl rfl (Nat.zero_le _) rfl rfl (by first | rfl | omega | (simp; done) | (simp; omega)) (by first | rfl | omega | (simp; done) | (simp; omega)) (by omega) (by decide) ?_
        | refine WpL.nil1U8s tabOk rfl rfl rfl rfl (by omega) rfl (by decide) ?_
        | refine WpL.app1Strs tabOk rfl rfl rfl (Nat.zero_le _) rfl rfl (by first | rfl | omega | (simp; done) | (simp; omega)) (by omega) (by decide) ?_
        | refine WpL.appStrs tabOk rfl rfl rfl (Nat.zero_le _) rfl rfl (by first | rfl | omega | (simp; done) | (simp; omega)) (by first | rfl | omega | (simp; done) | (simp; omega)) (by omega) (by decide) ?_
        | refine WpL.nil1Strs tabOk rfl rfl rfl rfl (by omega) rfl (by decide) ?_
        | refine WpL.appOwn tabOk rfl rfl rfl rfl rfl rfl (by simp) (Nat.zero_le _) rfl rfl (by simp) (by simp [all_ints, all_u8s, all_strs, oneB, Value.oneCell']) (by omega) (by decide) ?_
        | refine WpL.appNil tabOk rfl rfl rfl rfl (by simp) (by simp [all_ints, all_u8s, all_strs, oneB, Value.oneCell']) (by omega) rfl (by decide) ?_
        | refine WpL.min2 rfl rfl (by decide) ?_
        | refine WpL.max2 rfl rfl (by decide) ?_)
      | (refine K.un ?_; first
        | refine WpL.not rfl (by decide) ?_
        | refine WpL.neg rfl (by omega) (by decide) ?_)
      | (refine K.pick ?_; first
        | refine WpL.pickT rfl rfl (by decide) ?_
        | refine WpL.pickF rfl rfl (by decide) ?_)
      | (refine K.ext ?_; refine WpL.extract rfl rfl (by first | decide | simp [AV.shL]) (by decide) ?_)
      | (refine K.cv ?_; first
        | refine WpL.convI (P := Try.prog) (by rfl) (K.tyInt tabOk rfl) rfl (by omega) (by decide) ?_
        | refine WpL.conv (P := Try.prog) (by rfl) (K.tyInt tabOk rfl) rfl (by decide) ?_
        | refine WpL.toBytes tabOk rfl rfl rfl rfl (by omega) rfl (by decide) ?_
        | refine WpL.ofBytes tabOk rfl rfl rfl rfl rfl (by simp) (by decide) ?_)
      | (refine K.lit ?_; first
        | refine WpL.lit0U8s tabOk rfl rfl rfl (by decide) ?_
        | refine WpL.lit0Ints tabOk rfl rfl rfl (by decide) ?_
        | refine WpL.lit0Bools tabOk rfl rfl rfl (by decide) ?_
        | refine WpL.lit0Strs tabOk rfl rfl rfl (by decide) ?_
        | refine WpL.litF tabOk rfl rfl rfl rfl (by decide) rfl (by decide) ?_)
      | (refine K.ms ?_; first
        | refine WpL.makeInts tabOk rfl rfl rfl (by omega) (by omega) rfl (by decide) ?_
        | refine WpL.makeStrs tabOk rfl rfl rfl (by omega) (by omega) rfl (by decide) ?_
        | refine WpL.makeBools tabOk rfl rfl rfl (by omega) (by omega) rfl (by decide) ?_
        | refine WpL.makeU8s tabOk rfl rfl rfl (by omega) (by omega) rfl (by decide) ?_)
      | (refine K.st ?_; first
        | refine WpL.storeInts tabOk rfl rfl rfl rfl rfl (by first | omega | (simp; omega)) ?_
        | refine WpL.storeU8s tabOk rfl rfl rfl rfl rfl (by first | omega | (simp; omega)) ?_
        | refine WpL.storeBools tabOk rfl rfl rfl rfl rfl (by first | omega | (simp; omega)) ?_
        | refine WpL.storeStrs tabOk rfl rfl rfl rfl rfl (by first | omega | (simp; omega)) ?_
        | refine WpL.store tabOk rfl rfl rfl rfl rfl rfl rfl rfl (by first | omega | (simp; omega) | (simp; done)) ?_)
      | (refine K.all ?_; first
        | refine WpL.allocStruct tabOk rfl rfl (by decide) ?_
        | refine WpL.allocPlain tabOk rfl rfl rfl (by decide) ?_)
      | (refine K.box ?_; refine WpL.box rfl rfl rfl (by decide) ?_)
      | (refine K.nc ?_; first
        | refine WpL.nilCheckP rfl rfl rfl (by decide) ?_
        | refine WpL.nilCheckI rfl (by decide) ?_)
      | (refine K.sl ?_; first
        | refine WpL.subStr tabOk rfl rfl (by first | exact .inl ⟨rfl, rfl⟩ | exact .inr ⟨_, _, rfl, rfl⟩) (by first | exact .inl ⟨rfl, rfl⟩ | exact .inr ⟨_, _, rfl, rfl⟩) (by omega) (by decide) ?_
        | refine WpL.subImm tabOk rfl rfl (by first | exact .inl ⟨rfl, rfl⟩ | exact .inr ⟨_, _, rfl, rfl⟩) (by first | exact .inl ⟨rfl, rfl⟩ | exact .inr ⟨_, _, rfl, rfl⟩) (by omega) (by decide) ?_)
      | (refine K.gd ?_; first
        | refine K.gT rfl (by decide) rfl ?_
        | refine K.gF rfl (by decide) rfl ?_
        | refine K.gD rfl rfl (fun _ => ?_) (fun _ => ?_)
        | refine K.gN rfl rfl (fun _ => ?_) (fun _ => ?_)
        | refine K.gS rfl rfl (fun _ => ?_) (fun _ => ?_)))
    | refine WpL.nil ?_
    | refine Abs.Seq.n ?_
    | (refine K.A ?_; first
      | refine WpA.seq ?_
      | refine WpA.region ?_
      | (refine K.cond ?_; first
        | refine WpA.condT rfl ?_
        | refine WpA.condF rfl ?_
        | refine WpA.condD rfl (fun _ => ?_) (fun _ => ?_)
        | refine WpA.condN rfl (fun _ => ?_) (fun _ => ?_)
        | refine WpA.condS rfl (fun _ => ?_) (fun _ => ?_))
      | refine WpA.block ?_
      | refine WpA.ret ?_
      | refine WpA.exit ?_
      | refine WpA.skip ?_
      | apply WpA.regionM 1 mixed (by decide +kernel)
      | apply WpA.regionM 2 mixed (by decide +kernel)
      | apply WpA.regionM 3 mixed (by decide +kernel)
      | apply WpA.regionM 4 mixed (by decide +kernel)
      | apply WpA.regionM 5 mixed (by decide +kernel)
      | apply WpA.regionM 6 mixed (by decide +kernel)
      | apply WpA.regionM 7 mixed (by decide +kernel)
      | apply WpA.regionM 8 mixed (by decide +kernel)
      | apply WpA.regionM 9 mixed (by decide +kernel)
      | apply WpA.regionM 10 mixed (by decide +kernel)
      | apply WpA.regionM 11 mixed (by decide +kernel)
      | apply WpA.regionM 12 mixed (by decide +kernel)
      | apply WpA.regionM 13 mixed (by decide +kernel)
      | apply WpA.regionM 14 mixed (by decide +kernel)
      | apply WpA.regionM 15 mixed (by decide +kernel)
      | apply WpA.regionM 16 mixed (by decide +kernel)
      | apply WpA.regionM 17 mixed (by decide +kernel)
      | apply WpA.regionM 18 mixed (by decide +kernel)
      | apply WpA.regionM 19 mixed (by decide +kernel)
      | apply WpA.regionM 20 mixed (by decide +kernel)
      | apply WpA.regionM 21 mixed (by decide +kernel)
      | apply WpA.regionM 22 mixed (by decide +kernel)
      | apply WpA.regionM 23 mixed (by decide +kernel)
      | apply WpA.regionM 24 mixed (by decide +kernel)
      | apply WpA.regionM 25 mixed (by decide +kernel)
      | apply WpA.regionM 26 mixed (by decide +kernel)
      | apply WpA.regionM 27 mixed (by decide +kernel)
      | apply WpA.regionM 28 mixed (by decide +kernel)
      | apply WpA.regionM 29 mixed (by decide +kernel)
      | apply WpA.regionM 30 mixed (by decide +kernel)
      | apply WpA.regionM 31 mixed (by decide +kernel)
      | apply WpA.regionM 32 mixed (by decide +kernel)
      | refine WpA.regionD mixed (by decide +kernel) ?_)
    | refine Abs.Seq.ret ?_
    | refine Abs.Seq.exit ?_
    | refine Blk.n ?_
    | refine Blk.ret ?_
    | refine Blk.exitHere ?_
    | refine Blk.exitOther rfl ?_
    | refine Rnd.ret ?_
    | refine Rnd.exit ?_
    | exact Only.mk rfl
    | exact Abs.HeadJ.nil
    | apply Abs.HeadJ.cons rfl
    | (apply K.depT; simp only [deps, List.toList_toArray, List.filterMap_cons, List.filterMap_nil, Region.binds, if_true, List.nil_append, List.cons_append, List.getElem?_cons_succ, List.getElem?_cons_zero, List.getElem?_nil, reduceCtorEq, Bool.true_or, Bool.or_true]; exact rfl)
    | refine fun Tv => K.L ?_
    | (apply K.appT; simp only [List.nil_append, List.cons_append, List.append_assoc]; exact rfl)
    | (refine K.isTrue ?_; kernel_rfl)
    | exact rfl
    | contradiction
    | omega)
  · refine Abs.Fin.ret (.one (.tmp rfl) .nil (by decide) (.keep ?_ rfl rfl .nil))
    simp; intro h; subst h; contradiction
  have hll : xs.length = ys.length := by omega
  refine WpA.loop (fun k : Nat => ⟨[(0, .imm 1 xs.length (ints xs)), (1, .imm 1 ys.length (ints ys)), (5, I k)], []⟩) (fun k => k ≤ xs.length ∧ ∀ j < k, xs.getD j 0 = ys.getD j 0) (fun k => xs.length - k) 0 (by simp) ?_ (fun k hk => ?_)
  · exact Weak.mk (by repeat (first | exact ReT.nil | refine ReT.cons (.keep rfl rfl .nil) ?_ | refine ReT.cons (.own rfl rfl rfl rfl rfl rfl .nil) ?_ | refine ReT.cons (.ptr rfl rfl rfl rfl .nil) ?_ | refine ReT.cons (.keep (congrArg (fun z => AV.sc (Value.int .i64 z)) (by first | omega | (simp))) rfl .nil) ?_ | refine ReT.cons (.own rfl rfl rfl rfl rfl (by first | omega | (simp; done) | (simp; omega)) .nil) ?_)) (by repeat (first | exact ReO.nil | refine ReO.cons (Re.same rfl (still_ints _)) (by simp) ?_ | refine ReO.cons (Re.same rfl rfl) (by simp) ?_ | refine ReO.cons (Re.same (by simp) (still_ints _)) (by simp) ?_ | refine ReO.cons (Re.same (by simp) (still_u8s _)) (by simp) ?_ | refine ReO.cons (Re.same (by simp) (still_strs _)) (by simp) ?_)) (Nat.zero_le _)
  repeat' (first
    | (refine K.L ?_; first
      | (refine K.mv ?_; refine WpL.move rfl (by decide) ?_)
      | (refine K.call ?_; first
        | fail
        )
      | (refine K.bin ?_; first
        | refine WpL.add rfl rfl (by omega) (by decide) ?_
        | refine WpL.sub rfl rfl (by omega) (by decide) ?_
        | refine WpL.mul rfl rfl (by omega) (by decide) ?_
        | refine WpL.quo rfl rfl (by omega) (by decide) ?_
        | refine WpL.rem rfl rfl (by omega) (by decide) ?_
        | refine WpL.bin rfl rfl rfl (by decide) ?_
        | refine WpL.strAdd rfl rfl (by omega) (by decide) ?_
        | refine WpL.strEq rfl rfl (by decide) ?_
        | refine WpL.strNe rfl rfl (by decide) ?_
        | refine WpL.boolEq (K.tyBool tabOk rfl) rfl rfl (by decide) ?_
        | refine WpL.boolNe (K.tyBool tabOk rfl) rfl rfl (by decide) ?_
        | refine WpL.shl rfl rfl (by first | decide | (simp only [IntKind.bits]; omega)) (by decide) ?_
        | refine WpL.shr rfl rfl (by first | decide | (simp only [IntKind.bits]; omega)) (by decide) ?_)
      | (refine K.ld ?_; first
        | refine WpL.loadInts tabOk rfl rfl rfl (by first | omega | (simp; omega)) (by decide) ?_
        | refine WpL.loadU8s tabOk rfl rfl rfl (by first | omega | (simp; omega)) (by decide) ?_
        | refine WpL.loadStrs tabOk rfl rfl rfl (by first | omega | (simp; omega)) (by decide) ?_
        | refine WpL.loadBools tabOk rfl rfl rfl (by first | omega | (simp; omega)) (by decide) ?_
        | refine WpL.load1 tabOk rfl rfl rfl rfl rfl (by decide) ?_)
      | (refine K.asg ?_; refine WpL.assign rfl (by decide) ?_)
      | (refine K.fld ?_; first
        | refine WpL.fieldI tabOk rfl rfl rfl (by decide) ?_
        | refine WpL.fieldP tabOk rfl rfl rfl rfl rfl (by decide) ?_)
      | (refine K.ixa ?_; first
        | refine WpL.idxI tabOk rfl rfl rfl (by omega) (by decide) ?_
        | refine WpL.idxO tabOk rfl rfl rfl rfl rfl (by omega) (by decide) ?_)
      | (refine K.ix ?_; refine WpL.idxStr tabOk rfl rfl rfl (by omega) (by decide) ?_)
      | (refine K.bi ?_; first
        | refine WpL.lenImm (TabOk.slice tabOk rfl).1 rfl (by decide) ?_
        | refine WpL.lenOwn (TabOk.slice tabOk rfl).1 rfl rfl rfl (by decide) ?_
        | refine WpL.lenNil (TabOk.slice tabOk rfl).1 rfl (by decide) ?_
        | refine WpL.lenStr (K.tyStr tabOk rfl) rfl (by decide) ?_
        | refine WpL.app1Ints tabOk rfl rfl rfl (Nat.zero_le _) rfl rfl (by first | rfl | omega | (simp; done) | (simp; omega)) (by omega) (by decide) ?_
        | refine WpL.appInts tabOk rfl rfl rfl (Nat.zero_le _) rfl rfl (by first | rfl | omega | (simp; done) | (simp; omega)) (by first | rfl | omega | (simp; done) | (simp; omega)) (by omega) (by decide) ?_
        | refine WpL.nil1Ints tabOk rfl rfl rfl rfl (by omega) rfl (by decide) ?_
        | refine WpL.app1U8s tabOk rfl rfl rfl (Nat.zero_le _) rfl rfl (by first | rfl | omega | (simp; done) | (simp; omega)) (by omega) (by decide) ?_
        | refine WpL.appU8s tabOk rfl rfl rfl (Nat.zero_le _) rfl rfl (by first | rfl | omega | (simp; done) | (simp; omega)) (by first | rfl | omega | (simp; done) | (simp; omega)) (by omega) (by decide) ?_
        | refine WpL.nil1U8s tabOk rfl rfl rfl rfl (by omega) rfl (by decide) ?_
        | refine WpL.app1Strs tabOk rfl rfl rfl (Nat.zero_le _) rfl rfl (by first | rfl | omega | (simp; done) | (simp; omega)) (by omega) (by decide) ?_
        | refine WpL.appStrs tabOk rfl rfl rfl (Nat.zero_le _) rfl rfl (by first | rfl | omega | (simp; done) | (simp; omega)) (by first | rfl | omega | (simp; done) | (simp; omega)) (by omega) (by decide) ?_
        | refine WpL.nil1Strs tabOk rfl rfl rfl rfl (by omega) rfl (by decide) ?_
        | refine WpL.appOwn tabOk rfl rfl rfl rfl rfl rfl (by simp) (Nat.zero_le _) rfl rfl (by simp) (by simp [all_ints, all_u8s, all_strs, oneB, Value.oneCell']) (by omega) (by decide) ?_
        | refine WpL.appNil tabOk rfl rfl rfl rfl (by simp) (by simp [all_ints, all_u8s, all_strs, oneB, Value.oneCell']) (by omega) rfl (by decide) ?_
        | refine WpL.min2 rfl rfl (by decide) ?_
        | refine WpL.max2 rfl rfl (by decide) ?_)
      | (refine K.un ?_; first
        | refine WpL.not rfl (by decide) ?_
        | refine WpL.neg rfl (by omega) (by decide) ?_)
      | (refine K.pick ?_; first
        | refine WpL.pickT rfl rfl (by decide) ?_
        | refine WpL.pickF rfl rfl (by decide) ?_)
      | (refine K.ext ?_; refine WpL.extract rfl rfl (by first | decide | simp [AV.shL]) (by decide) ?_)
      | (refine K.cv ?_; first
        | refine WpL.convI (P := Try.prog) (by rfl) (K.tyInt tabOk rfl) rfl (by omega) (by decide) ?_
        | refine WpL.conv (P := Try.prog) (by rfl) (K.tyInt tabOk rfl) rfl (by decide) ?_
        | refine WpL.toBytes tabOk rfl rfl rfl rfl (by omega) rfl (by decide) ?_
        | refine WpL.ofBytes tabOk rfl rfl rfl rfl rfl (by simp) (by decide) ?_)
      | (refine K.lit ?_; first
        | refine WpL.lit0U8s tabOk rfl rfl rfl (by decide) ?_
        | refine WpL.lit0Ints tabOk rfl rfl rfl (by decide) ?_
        | refine WpL.lit0Bools tabOk rfl rfl rfl (by decide) ?_
        | refine WpL.lit0Strs tabOk rfl rfl rfl (by decide) ?_
        | refine WpL.litF tabOk rfl rfl rfl rfl (by decide) rfl (by decide) ?_)
      | (refine K.ms ?_; first
        | refine WpL.makeInts tabOk rfl rfl rfl (by omega) (by omega) rfl (by decide) ?_
        | refine WpL.makeStrs tabOk rfl rfl rfl (by omega) (by omega) rfl (by decide) ?_
        | refine WpL.makeBools tabOk rfl rfl rfl (by omega) (by omega) rfl (by decide) ?_
        | refine WpL.makeU8s tabOk rfl rfl rfl (by omega) (by omega) rfl (by decide) ?_)
      | (refine K.st ?_; first
        | refine WpL.storeInts tabOk rfl rfl rfl rfl rfl (by first | omega | (simp; omega)) ?_
        | refine WpL.storeU8s tabOk rfl rfl rfl rfl rfl (by first | omega | (simp; omega)) ?_
        | refine WpL.storeBools tabOk rfl rfl rfl rfl rfl (by first | omega | (simp; omega)) ?_
        | refine WpL.storeStrs tabOk rfl rfl rfl rfl rfl (by first | omega | (simp; omega)) ?_
        | refine WpL.store tabOk rfl rfl rfl rfl rfl rfl rfl rfl (by first | omega | (simp; omega) | (simp; done)) ?_)
      | (refine K.all ?_; first
        | refine WpL.allocStruct tabOk rfl rfl (by decide) ?_
        | refine WpL.allocPlain tabOk rfl rfl rfl (by decide) ?_)
      | (refine K.box ?_; refine WpL.box rfl rfl rfl (by decide) ?_)
      | (refine K.nc ?_; first
        | refine WpL.nilCheckP rfl rfl rfl (by decide) ?_
        | refine WpL.nilCheckI rfl (by decide) ?_)
      | (refine K.sl ?_; first
        | refine WpL.subStr tabOk rfl rfl (by first | exact .inl ⟨rfl, rfl⟩ | exact .inr ⟨_, _, rfl, rfl⟩) (by first | exact .inl ⟨rfl, rfl⟩ | exact .inr ⟨_, _, rfl, rfl⟩) (by omega) (by decide) ?_
        | refine WpL.subImm tabOk rfl rfl (by first | exact .inl ⟨rfl, rfl⟩ | exact .inr ⟨_, _, rfl, rfl⟩) (by first | exact .inl ⟨rfl, rfl⟩ | exact .inr ⟨_, _, rfl, rfl⟩) (by omega) (by decide) ?_)
      | (refine K.gd ?_; first
        | refine K.gT rfl (by decide) rfl ?_
        | refine K.gF rfl (by decide) rfl ?_
        | refine K.gD rfl rfl (fun _ => ?_) (fun _ => ?_)
        | refine K.gN rfl rfl (fun _ => ?_) (fun _ => ?_)
        | refine K.gS rfl rfl (fun _ => ?_) (fun _ => ?_)))
    | refine WpL.nil ?_
    | refine Abs.Seq.n ?_
    | (refine K.A ?_; first
      | refine WpA.seq ?_
      | refine WpA.region ?_
      | (refine K.cond ?_; first
        | refine WpA.condT rfl ?_
        | refine WpA.condF rfl ?_
        | refine WpA.condD rfl (fun _ => ?_) (fun _ => ?_)
        | refine WpA.condN rfl (fun _ => ?_) (fun _ => ?_)
        | refine WpA.condS rfl (fun _ => ?_) (fun _ => ?_))
      | refine WpA.block ?_
      | refine WpA.ret ?_
      | refine WpA.exit ?_
      | refine WpA.skip ?_
      | apply WpA.regionM 1 mixed (by decide +kernel)
      | apply WpA.regionM 2 mixed (by decide +kernel)
      | apply WpA.regionM 3 mixed (by decide +kernel)
      | apply WpA.regionM 4 mixed (by decide +kernel)
      | apply WpA.regionM 5 mixed (by decide +kernel)
      | apply WpA.regionM 6 mixed (by decide +kernel)
      | apply WpA.regionM 7 mixed (by decide +kernel)
      | apply WpA.regionM 8 mixed (by decide +kernel)
      | apply WpA.regionM 9 mixed (by decide +kernel)
      | apply WpA.regionM 10 mixed (by decide +kernel)
      | apply WpA.regionM 11 mixed (by decide +kernel)
      | apply WpA.regionM 12 mixed (by decide +kernel)
      | apply WpA.regionM 13 mixed (by decide +kernel)
      | apply WpA.regionM 14 mixed (by decide +kernel)
      | apply WpA.regionM 15 mixed (by decide +kernel)
      | apply WpA.regionM 16 mixed (by decide +kernel)
      | apply WpA.regionM 17 mixed (by decide +kernel)
      | apply WpA.regionM 18 mixed (by decide +kernel)
      | apply WpA.regionM 19 mixed (by decide +kernel)
      | apply WpA.regionM 20 mixed (by decide +kernel)
      | apply WpA.regionM 21 mixed (by decide +kernel)
      | apply WpA.regionM 22 mixed (by decide +kernel)
      | apply WpA.regionM 23 mixed (by decide +kernel)
      | apply WpA.regionM 24 mixed (by decide +kernel)
      | apply WpA.regionM 25 mixed (by decide +kernel)
      | apply WpA.regionM 26 mixed (by decide +kernel)
      | apply WpA.regionM 27 mixed (by decide +kernel)
      | apply WpA.regionM 28 mixed (by decide +kernel)
      | apply WpA.regionM 29 mixed (by decide +kernel)
      | apply WpA.regionM 30 mixed (by decide +kernel)
      | apply WpA.regionM 31 mixed (by decide +kernel)
      | apply WpA.regionM 32 mixed (by decide +kernel)
      | refine WpA.regionD mixed (by decide +kernel) ?_)
    | refine Abs.Seq.ret ?_
    | refine Abs.Seq.exit ?_
    | refine Blk.n ?_
    | refine Blk.ret ?_
    | refine Blk.exitHere ?_
    | refine Blk.exitOther rfl ?_
    | refine Rnd.ret ?_
    | refine Rnd.exit ?_
    | exact Only.mk rfl
    | exact Abs.HeadJ.nil
    | apply Abs.HeadJ.cons rfl
    | (apply K.depT; simp only [deps, List.toList_toArray, List.filterMap_cons, List.filterMap_nil, Region.binds, if_true, List.nil_append, List.cons_append, List.getElem?_cons_succ, List.getElem?_cons_zero, List.getElem?_nil, reduceCtorEq, Bool.true_or, Bool.or_true]; exact rfl)
    | refine fun Tv => K.L ?_
    | (apply K.appT; simp only [List.nil_append, List.cons_append, List.append_assoc]; exact rfl)
    | (refine K.isTrue ?_; kernel_rfl)
    | exact rfl
    | contradiction
    | omega)
  · refine Abs.Fin.ret (.one (.tmp rfl) .nil (by decide) (.keep ?_ rfl rfl .nil))
    simp only [Value.bool.injEq, AV.sc.injEq]; symm; rw [decide_eq_false_iff_not]; rintro rfl; omega
  · refine Rnd.go (k + 1) ⟨by omega, fun j hj => ?_⟩ (by (try dsimp only); omega) ?_
    · by_cases h : j = k
      · subst h; simp_all
      · exact hk.2 j (by omega)
    exact Weak.mk (by repeat (first | exact ReT.nil | refine ReT.cons (.keep rfl rfl .nil) ?_ | refine ReT.cons (.own rfl rfl rfl rfl rfl rfl .nil) ?_ | refine ReT.cons (.ptr rfl rfl rfl rfl .nil) ?_ | refine ReT.cons (.keep (congrArg (fun z => AV.sc (Value.int .i64 z)) (by first | omega | (simp))) rfl .nil) ?_ | refine ReT.cons (.own rfl rfl rfl rfl rfl (by first | omega | (simp; done) | (simp; omega)) .nil) ?_)) (by repeat (first | exact ReO.nil | refine ReO.cons (Re.same rfl (still_ints _)) (by simp) ?_ | refine ReO.cons (Re.same rfl rfl) (by simp) ?_ | refine ReO.cons (Re.same (by simp) (still_ints _)) (by simp) ?_ | refine ReO.cons (Re.same (by simp) (still_u8s _)) (by simp) ?_ | refine ReO.cons (Re.same (by simp) (still_strs _)) (by simp) ?_)) (Nat.zero_le _)
  · refine Abs.Fin.ret (.one (.tmp rfl) .nil (by decide) (.keep ?_ rfl rfl .nil))
    have : xs = ys := by
      apply List.ext_getElem hll
      intro i h1 h2
      have := hk.2 i (by omega)
      simpa [h1, h2] using this
    simp [this]
end Go.Proofs.Ytlioigidpeofnaa
