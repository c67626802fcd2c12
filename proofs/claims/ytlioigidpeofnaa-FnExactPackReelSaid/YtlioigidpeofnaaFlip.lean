/- Contracts of the functions of bits and the law FnExactFlipBit. No condition. -/
import Derived.Test.YtlioigidpeofnaaBase1
namespace Go.Proofs.Ytlioigidpeofnaa
open Go Go.Abs
set_option linter.unusedVariables false
set_option linter.unusedSimpArgs false
set_option maxRecDepth 100000
attribute [local irreducible] WpA WpL Rnd Blk Abs.Seq Abs.Fin FnC Only

abbrev Z (p : List UInt8) : AV := .sc (.string ⟨p.toArray⟩)
theorem wrap_in (p : Int) (h : -9223372036854775808 ≤ p ∧ p ≤ 9223372036854775807) : IntKind.i64.wrap p = p := IntWalk.i64_in p h
theorem shr_in (x : UInt8) (k : Nat) : IntKind.i64.wrap ((x.toNat : Int) / 2 ^ k) = (x.toNat : Int) / 2 ^ k := by
  have h1 : (x.toNat : Int) / 2 ^ k ≤ x.toNat := Int.ediv_le_self _ (by omega)
  have h2 : 0 ≤ (x.toNat : Int) / 2 ^ k := Int.ediv_nonneg (by omega) (Int.pow_nonneg (by decide))
  have := x.toNat_lt
  exact wrap_in _ (by omega)
def bit (y : Int) : Int := IntKind.i64.wrap ((BitVec.ofInt IntKind.i64.bits y &&& BitVec.ofInt IntKind.i64.bits 1).toNat : Nat)
theorem bit_bd (y : Int) : 0 ≤ bit y ∧ bit y ≤ 1 := by
  have h : (BitVec.ofInt IntKind.i64.bits y &&& BitVec.ofInt IntKind.i64.bits 1).toNat ≤ 1 := by
    rw [BitVec.toNat_and]
    exact Nat.le_trans Nat.and_le_right (by decide)
  unfold bit
  rw [wrap_in _ (by omega)]
  omega
def bitAt (p : List UInt8) (i : Int) : Int := if i < 0 ∨ 8 * (p.length : Int) ≤ i then -1 else bit (((p.getD (i / 8).toNat 0).toNat : Int) / 2 ^ (7 - i % 8).toNat)
theorem bitAt_neg (p : List UInt8) (i : Int) : bitAt p i < 0 ↔ (i < 0 ∨ 8 * (p.length : Int) ≤ i) := by
  unfold bitAt
  have := bit_bd (((p.getD (i / 8).toNat 0).toNat : Int) / 2 ^ (7 - i % 8).toNat)
  split <;> omega

theorem BitAt_c (p : List UInt8) (i : Int) (hl : p.length ≤ 1048576) : FnC Try.prog 34 [Z p, I i] [] (I (bitAt p i)) := by
  refine FnC.of_body tabOk Try.func34 Try.ntmps34 rfl (by decide +kernel) (by simp) fun G => ?_
  repeat' (first
    | (refine K.L ?_; first
      | (refine K.mv ?_; refine WpL.move rfl (by decide) ?_)
      | (refine K.call ?_; first
        | fail
        )
      | (refine K.bin ?_; first
        | refine WpL.add rfl rfl (by omega) (by decide) ?_
        | refine WpL.sub rfl rfl (by omega) (by decide) ?_
        | refine WpL.mul rfl rfl (by omega) (by decide) ?_
        | refine WpL.quo rfl rfl (by omega) (by decide) ?_
        | refine WpL.rem rfl rfl (by omega) (by decide) ?_
        | refine WpL.bin rfl rfl rfl (by decide) ?_
        | refine WpL.strAdd rfl rfl (by omega) (by decide) ?_
        | refine WpL.strEq rfl rfl (by decide) ?_
        | refine WpL.strNe rfl rfl (by decide) ?_
        | refine WpL.boolEq (K.tyBool tabOk rfl) rfl rfl (by decide) ?_
        | refine WpL.boolNe (K.tyBool tabOk rfl) rfl rfl (by decide) ?_
        | refine WpL.shl rfl rfl (by first | decide | (simp only [IntKind.bits]; omega)) (by decide) ?_
        | refine WpL.shr rfl rfl (by first | decide | (simp only [IntKind.bits]; omega)) (by decide) ?_)
      | (refine K.ld ?_; first
        | refine WpL.loadInts tabOk rfl rfl rfl (by first | omega | (simp; omega)) (by decide) ?_
        | refine WpL.loadU8s tabOk rfl rfl rfl (by first | omega | (simp; omega)) (by decide) ?_
        | refine WpL.loadStrs tabOk rfl rfl rfl (by first | omega | (simp; omega)) (by decide) ?_
        | refine WpL.loadBools tabOk rfl rfl rfl (by first | omega | (simp; omega)) (by decide) ?_
        | refine WpL.load1 tabOk rfl rfl rfl rfl rfl (by decide) ?_)
      | (refine K.asg ?_; refine WpL.assign rfl (by decide) ?_)
      | (refine K.fld ?_; first
        | refine WpL.fieldI tabOk rfl rfl rfl (by decide) ?_
        | refine WpL.fieldP tabOk rfl rfl rfl rfl rfl (by decide) ?_)
      | (refine K.ixa ?_; first
        | refine WpL.idxI tabOk rfl rfl rfl (by omega) (by decide) ?_
        | refine WpL.idxO tabOk rfl rfl rfl rfl rfl (by omega) (by decide) ?_)
      | (refine K.ix ?_; refine WpL.idxStr tabOk rfl rfl rfl (by omega) (by decide) ?_)
      | (refine K.bi ?_; first
        | refine WpL.lenImm (TabOk.slice tabOk rfl).1 rfl (by decide) ?_
        | refine WpL.lenOwn (TabOk.slice tabOk rfl).1 rfl rfl rfl (by decide) ?_
        | refine WpL.lenNil (TabOk.slice tabOk rfl).1 rfl (by decide) ?_
        | refine WpL.lenStr (K.tyStr tabOk rfl) rfl (by decide) ?_
        | refine WpL.app1Ints tabOk rfl rfl rfl (Nat.zero_le _) rfl rfl (by first | rfl | omega | (simp; done) | (simp; omega)) (by omega) (by decide) ?_
        | refine WpL.appInts tabOk rfl rfl rfl (Nat.zero_le _) rfl rfl (by first | rfl | omega | (simp; done) | (simp; omega)) (by first | rfl | omega | (simp; done) | (simp; omega)) (by omega) (by decide) ?_
        | refine WpL.nil1Ints tabOk rfl rfl rfl rfl (by omega) rfl (by decide) ?_
        | refine WpL.app1U8s tabOk rfl rfl rfl (Nat.zero_le _) rfl rfl (by first | rfl | omega | (simp; done) | (simp; omega)) (by omega) (by decide) ?_
        | refine WpL.appU8s tabOk rfl rfl rfl (Nat.zero_le _) rfl rfl (by first | rfl | omega | (simp; done) | (simp; omega)) (by first | rfl | omega | (simp; done) | (simp; omega)) (by omega) (by decide) ?_
        | refine WpL.nil1U8s tabOk rfl rfl rfl rfl (by omega) rfl (by decide) ?_
        | refine WpL.app1Strs tabOk rfl rfl rfl (Nat.zero_le _) rfl rfl (by first | rfl | omega | (simp; done) | (simp; omega)) (by omega) (by decide) ?_
        | refine WpL.appStrs tabOk rfl rfl rfl (Nat.zero_le _) rfl rfl (by first | rfl | omega | (simp; done) | (simp; omega)) (by first | rfl | omega | (simp; done) | (simp; omega)) (by omega) (by decide) ?_
        | refine WpL.nil1Strs tabOk rfl rfl rfl rfl (by omega) rfl (by decide) ?_
        | refine WpL.appOwn tabOk rfl rfl rfl rfl rfl rfl (by simp) (Nat.zero_le _) rfl rfl (by simp) (by simp [all_ints, all_u8s, all_strs, oneB, Value.oneCell']) (by omega) (by decide) ?_
        | refine WpL.appNil tabOk rfl rfl rfl rfl (by simp) (by simp [all_ints, all_u8s, all_strs, oneB, Value.oneCell']) (by omega) rfl (by decide) ?_
        | refine WpL.min2 rfl rfl (by decide) ?_
        | refine WpL.max2 rfl rfl (by decide) ?_)
      | (refine K.un ?_; first
        | refine WpL.not rfl (by decide) ?_
        | refine WpL.neg rfl (by omega) (by decide) ?_)
      | (refine K.pick ?_; first
        | refine WpL.pickT rfl rfl (by decide) ?_
        | refine WpL.pickF rfl rfl (by decide) ?_)
      | (refine K.ext ?_; refine WpL.extract rfl rfl (by first | decide | simp [AV.shL]) (by decide) ?_)
      | (refine K.cv ?_; first
        | refine WpL.convI (P := Try.prog) (by rfl) (K.tyInt tabOk rfl) rfl (by omega) (by decide) ?_
        | refine WpL.conv (P := Try.prog) (by rfl) (K.tyInt tabOk rfl) rfl (by decide) ?_
        | refine WpL.toBytes tabOk rfl rfl rfl rfl (by omega) rfl (by decide) ?_
        | refine WpL.ofBytes tabOk rfl rfl rfl rfl rfl (by simp) (by decide) ?_)
      | (refine K.lit ?_; first
        | refine WpL.lit0U8s tabOk rfl rfl rfl (by decide) ?_
        | refine WpL.lit0Ints tabOk rfl rfl rfl (by decide) ?_
        | refine WpL.lit0Bools tabOk rfl rfl rfl (by decide) ?_
        | refine WpL.lit0Strs tabOk rfl rfl rfl (by decide) ?_
        | refine WpL.litF tabOk rfl rfl rfl rfl (by decide) rfl (by decide) ?_)
      | (refine K.ms ?_; first
        | refine WpL.makeInts tabOk rfl rfl rfl (by omega) (by omega) rfl (by decide) ?_
        | refine WpL.makeStrs tabOk rfl rfl rfl (by omega) (by omega) rfl (by decide) ?_
        | refine WpL.makeBools tabOk rfl rfl rfl (by omega) (by omega) rfl (by decide) ?_
        | refine WpL.makeU8s tabOk rfl rfl rfl (by omega) (by omega) rfl (by decide) ?_)
      | (refine K.st ?_; first
        | refine WpL.storeInts tabOk rfl rfl rfl rfl rfl (by first | omega | (simp; omega)) ?_
        | refine WpL.storeU8s tabOk rfl rfl rfl rfl rfl (by first | omega | (simp; omega)) ?_
        | refine WpL.storeBools tabOk rfl rfl rfl rfl rfl (by first | omega | (simp; omega)) ?_
        | refine WpL.storeStrs tabOk rfl rfl rfl rfl rfl (by first | omega | (simp; omega)) ?_
        | refine WpL.store tabOk rfl rfl rfl rfl rfl rfl rfl rfl (by first | omega | (simp; omega) | (simp; done)) ?_)
      | (refine K.all ?_; first
        | refine WpL.allocStruct tabOk rfl rfl (by decide) ?_
        | refine WpL.allocPlain tabOk rfl rfl rfl (by decide) ?_)
      | (refine K.box ?_; refine WpL.box rfl rfl rfl (by decide) ?_)
      | (refine K.nc ?_; first
        | refine WpL.nilCheckP rfl rfl rfl (by decide) ?_
        | refine WpL.nilCheckI rfl (by decide) ?_)
      | (refine K.sl ?_; first
        | refine WpL.subStr tabOk rfl rfl (by first | exact .inl ⟨rfl, rfl⟩ | exact .inr ⟨_, _, rfl, rfl⟩) (by first | exact .inl ⟨rfl, rfl⟩ | exact .inr ⟨_, _, rfl, rfl⟩) (by omega) (by decide) ?_
        | refine WpL.subImm tabOk rfl rfl (by first | exact .inl ⟨rfl, rfl⟩ | exact .inr ⟨_, _, rfl, rfl⟩) (by first | exact .inl ⟨rfl, rfl⟩ | exact .inr ⟨_, _, rfl, rfl⟩) (by omega) (by decide) ?_)
      | (refine K.gd ?_; first
        | refine K.gT rfl (by decide) rfl ?_
        | refine K.gF rfl (by decide) rfl ?_
        | refine K.gD rfl rfl (fun _ => ?_) (fun _ => ?_)
        | refine K.gN rfl rfl (fun _ => ?_) (fun _ => ?_)
        | refine K.gS rfl rfl (fun _ => ?_) (fun _ => ?_)))
    | refine WpL.nil ?_
    | refine Abs.Seq.n ?_
    | (refine K.A ?_; first
      | refine WpA.seq ?_
      | refine WpA.region ?_
      | (refine K.cond ?_; first
        | refine WpA.condT rfl ?_
        | refine WpA.condF rfl ?_
        | refine WpA.condD rfl (fun _ => ?_) (fun _ => ?_)
        | refine WpA.condN rfl (fun _ => ?_) (fun _ => ?_)
        | refine WpA.condS rfl (fun _ => ?_) (fun _ => ?_))
      | refine WpA.block ?_
      | refine WpA.ret ?_
      | refine WpA.exit ?_
      | refine WpA.skip ?_
      | apply WpA.regionM 1 mixed (by decide +kernel)
      | apply WpA.regionM 2 mixed (by decide +kernel)
      | apply WpA.regionM 3 mixed (by decide +kernel)
      | apply WpA.regionM 4 mixed (by decide +kernel)
      | apply WpA.regionM 5 mixed (by decide +kernel)
      | apply WpA.regionM 6 mixed (by decide +kernel)
      | apply WpA.regionM 7 mixed (by decide +kernel)
      | apply WpA.regionM 8 mixed (by decide +kernel)
      | apply WpA.regionM 9 mixed (by decide +kernel)
      | apply WpA.regionM 10 mixed (by decide +kernel)
      | apply WpA.regionM 11 mixed (by decide +kernel)
      | apply WpA.regionM 12 mixed (by decide +kernel)
      | apply WpA.regionM 13 mixed (by decide +kernel)
      | apply WpA.regionM 14 mixed (by decide +kernel)
      | apply WpA.regionM 15 mixed (by decide +kernel)
      | apply WpA.regionM 16 mixed (by decide +kernel)
      | apply WpA.regionM 17 mixed (by decide +kernel)
      | apply WpA.regionM 18 mixed (by decide +kernel)
      | apply WpA.regionM 19 mixed (by decide +kernel)
      | apply WpA.regionM 20 mixed (by decide +kernel)
      | apply WpA.regionM 21 mixed (by decide +kernel)
      | apply WpA.regionM 22 mixed (by decide +kernel)
      | apply WpA.regionM 23 mixed (by decide +kernel)
      | apply WpA.regionM 24 mixed (by decide +kernel)
      | apply WpA.regionM 25 mixed (by decide +kernel)
      | apply WpA.regionM 26 mixed (by decide +kernel)
      | apply WpA.regionM 27 mixed (by decide +kernel)
      | apply WpA.regionM 28 mixed (by decide +kernel)
      | apply WpA.regionM 29 mixed (by decide +kernel)
      | apply WpA.regionM 30 mixed (by decide +kernel)
      | apply WpA.regionM 31 mixed (by decide +kernel)
      | apply WpA.regionM 32 mixed (by decide +kernel)
      | refine WpA.regionD mixed (by decide +kernel) ?_)
    | refine Abs.Seq.ret ?_
    | refine Abs.Seq.exit ?_
    | refine Blk.n ?_
    | refine Blk.ret ?_
    | refine Blk.exitHere ?_
    | refine Blk.exitOther rfl ?_
    | refine Rnd.ret ?_
    | refine Rnd.exit ?_
    | exact Only.mk rfl
    | exact Abs.HeadJ.nil
    | apply Abs.HeadJ.cons rfl
    | (apply K.depT; simp only [deps, List.toList_toArray, List.filterMap_cons, List.filterMap_nil, Region.binds, if_true, List.nil_append, List.cons_append, List.getElem?_cons_succ, List.getElem?_cons_zero, List.getElem?_nil, reduceCtorEq, Bool.true_or, Bool.or_true]; exact rfl)
    | refine fun Tv => K.L ?_
    | (apply K.appT; simp only [List.nil_append, List.cons_append, List.append_assoc]; exact rfl)
    | (refine K.isTrue ?_; kernel_rfl)
    | exact rfl
    | contradiction
    | omega)
  all_goals refine Abs.Fin.ret (.one (.tmp rfl) .nil (by decide) (.keep ?_ rfl rfl .nil))
  all_goals refine congrArg (fun z => AV.sc (Value.int .i64 z)) ?_
  · rw [bitAt, if_pos (by omega)]
  · rw [bitAt, if_pos (by omega)]
  · rw [bitAt, if_neg (by omega), bit, shr_in]

theorem BitAt_s (p : List UInt8) (i : Int) (hl : p.length ≤ 1048576) : FnC Try.prog 33 [Z p, I i] [] (I (bitAt p i)) := by
  refine FnC.of_body tabOk Try.func33 Try.ntmps33 rfl (by decide +kernel) (by simp) fun G => ?_
  repeat' (first
    | (refine K.L ?_; first
      | (refine K.mv ?_; refine WpL.move rfl (by decide) ?_)
      | (refine K.call ?_; first
        | fail
        )
      | (refine K.bin ?_; first
        | refine WpL.add rfl rfl (by omega) (by decide) ?_
        | refine WpL.sub rfl rfl (by omega) (by decide) ?_
        | refine WpL.mul rfl rfl (by omega) (by decide) ?_
        | refine WpL.quo rfl rfl (by omega) (by decide) ?_
        | refine WpL.rem rfl rfl (by omega) (by decide) ?_
        | refine WpL.bin rfl rfl rfl (by decide) ?_
        | refine WpL.strAdd rfl rfl (by omega) (by decide) ?_
        | refine WpL.strEq rfl rfl (by decide) ?_
        | refine WpL.strNe rfl rfl (by decide) ?_
        | refine WpL.boolEq (K.tyBool tabOk rfl) rfl rfl (by decide) ?_
        | refine WpL.boolNe (K.tyBool tabOk rfl) rfl rfl (by decide) ?_
        | refine WpL.shl rfl rfl (by first | decide | (simp only [IntKind.bits]; omega)) (by decide) ?_
        | refine WpL.shr rfl rfl (by first | decide | (simp only [IntKind.bits]; omega)) (by decide) ?_)
      | (refine K.ld ?_; first
        | refine WpL.loadInts tabOk rfl rfl rfl (by first | omega | (simp; omega)) (by decide) ?_
        | refine WpL.loadU8s tabOk rfl rfl rfl (by first | omega | (simp; omega)) (by decide) ?_
        | refine WpL.loadStrs tabOk rfl rfl rfl (by first | omega | (simp; omega)) (by decide) ?_
        | refine WpL.loadBools tabOk rfl rfl rfl (by first | omega | (simp; omega)) (by decide) ?_
        | refine WpL.load1 tabOk rfl rfl rfl rfl rfl (by decide) ?_)
      | (refine K.asg ?_; refine WpL.assign rfl (by decide) ?_)
      | (refine K.fld ?_; first
        | refine WpL.fieldI tabOk rfl rfl rfl (by decide) ?_
        | refine WpL.fieldP tabOk rfl rfl rfl rfl rfl (by decide) ?_)
      | (refine K.ixa ?_; first
        | refine WpL.idxI tabOk rfl rfl rfl (by omega) (by decide) ?_
        | refine WpL.idxO tabOk rfl rfl rfl rfl rfl (by omega) (by decide) ?_)
      | (refine K.ix ?_; refine WpL.idxStr tabOk rfl rfl rfl (by omega) (by decide) ?_)
      | (refine K.bi ?_; first
        | refine WpL.lenImm (TabOk.slice tabOk rfl).1 rfl (by decide) ?_
        | refine WpL.lenOwn (TabOk.slice tabOk rfl).1 rfl rfl rfl (by decide) ?_
        | refine WpL.lenNil (TabOk.slice tabOk rfl).1 rfl (by decide) ?_
        | refine WpL.lenStr (K.tyStr tabOk rfl) rfl (by decide) ?_
        | refine WpL.app1Ints tabOk rfl rfl rfl (Nat.zero_le _) rfl rfl (by first | rfl | omega | (simp; done) | (simp; omega)) (by omega) (by decide) ?_
        | refine WpL.appInts tabOk rfl rfl rfl (Nat.zero_le _) rfl rfl (by first | rfl | omega | (simp; done) | (simp; omega)) (by first | rfl | omega | (simp; done) | (simp; omega)) (by omega) (by decide) ?_
        | refine WpL.nil1Ints tabOk rfl rfl rfl rfl (by omega) rfl (by decide) ?_
        | refine WpL.app1U8s tabOk rfl rfl rfl (Nat.zero_le _) rfl rfl (by first | rfl | omega | (simp; done) | (simp; omega)) (by omega) (by decide) ?_
        | refine WpL.appU8s tabOk rfl rfl rfl (Nat.zero_le _) rfl rfl (by first | rfl | omega | (simp; done) | (simp; omega)) (by first | rfl | omega | (simp; done) | (simp; omega)) (by omega) (by decide) ?_
        | refine WpL.nil1U8s tabOk rfl rfl rfl rfl (by omega) rfl (by decide) ?_
        | refine WpL.app1Strs tabOk rfl rfl rfl (Nat.zero_le _) rfl rfl (by first | rfl | omega | (simp; done) | (simp; omega)) (by omega) (by decide) ?_
        | refine WpL.appStrs tabOk rfl rfl rfl (Nat.zero_le _) rfl rfl (by first | rfl | omega | (simp; done) | (simp; omega)) (by first | rfl | omega | (simp; done) | (simp; omega)) (by omega) (by decide) ?_
        | refine WpL.nil1Strs tabOk rfl rfl rfl rfl (by omega) rfl (by decide) ?_
        | refine WpL.appOwn tabOk rfl rfl rfl rfl rfl rfl (by simp) (Nat.zero_le _) rfl rfl (by simp) (by simp [all_ints, all_u8s, all_strs, oneB, Value.oneCell']) (by omega) (by decide) ?_
        | refine WpL.appNil tabOk rfl rfl rfl rfl (by simp) (by simp [all_ints, all_u8s, all_strs, oneB, Value.oneCell']) (by omega) rfl (by decide) ?_
        | refine WpL.min2 rfl rfl (by decide) ?_
        | refine WpL.max2 rfl rfl (by decide) ?_)
      | (refine K.un ?_; first
        | refine WpL.not rfl (by decide) ?_
        | refine WpL.neg rfl (by omega) (by decide) ?_)
      | (refine K.pick ?_; first
        | refine WpL.pickT rfl rfl (by decide) ?_
        | refine WpL.pickF rfl rfl (by decide) ?_)
      | (refine K.ext ?_; refine WpL.extract rfl rfl (by first | decide | simp [AV.shL]) (by decide) ?_)
      | (refine K.cv ?_; first
        | refine WpL.convI (P := Try.prog) (by rfl) (K.tyInt tabOk rfl) rfl (by omega) (by decide) ?_
        | refine WpL.conv (P := Try.prog) (by rfl) (K.tyInt tabOk rfl) rfl (by decide) ?_
        | refine WpL.toBytes tabOk rfl rfl rfl rfl (by omega) rfl (by decide) ?_
        | refine WpL.ofBytes tabOk rfl rfl rfl rfl rfl (by simp) (by decide) ?_)
      | (refine K.lit ?_; first
        | refine WpL.lit0U8s tabOk rfl rfl rfl (by decide) ?_
        | refine WpL.lit0Ints tabOk rfl rfl rfl (by decide) ?_
        | refine WpL.lit0Bools tabOk rfl rfl rfl (by decide) ?_
        | refine WpL.lit0Strs tabOk rfl rfl rfl (by decide) ?_
        | refine WpL.litF tabOk rfl rfl rfl rfl (by decide) rfl (by decide) ?_)
      | (refine K.ms ?_; first
        | refine WpL.makeInts tabOk rfl rfl rfl (by omega) (by omega) rfl (by decide) ?_
        | refine WpL.makeStrs tabOk rfl rfl rfl (by omega) (by omega) rfl (by decide) ?_
        | refine WpL.makeBools tabOk rfl rfl rfl (by omega) (by omega) rfl (by decide) ?_
        | refine WpL.makeU8s tabOk rfl rfl rfl (by omega) (by omega) rfl (by decide) ?_)
      | (refine K.st ?_; first
        | refine WpL.storeInts tabOk rfl rfl rfl rfl rfl (by first | omega | (simp; omega)) ?_
        | refine WpL.storeU8s tabOk rfl rfl rfl rfl rfl (by first | omega | (simp; omega)) ?_
        | refine WpL.storeBools tabOk rfl rfl rfl rfl rfl (by first | omega | (simp; omega)) ?_
        | refine WpL.storeStrs tabOk rfl rfl rfl rfl rfl (by first | omega | (simp; omega)) ?_
        | refine WpL.store tabOk rfl rfl rfl rfl rfl rfl rfl rfl (by first | omega | (simp; omega) | (simp; done)) ?_)
      | (refine K.all ?_; first
        | refine WpL.allocStruct tabOk rfl rfl (by decide) ?_
        | refine WpL.allocPlain tabOk rfl rfl rfl (by decide) ?_)
      | (refine K.box ?_; refine WpL.box rfl rfl rfl (by decide) ?_)
      | (refine K.nc ?_; first
        | refine WpL.nilCheckP rfl rfl rfl (by decide) ?_
        | refine WpL.nilCheckI rfl (by decide) ?_)
      | (refine K.sl ?_; first
        | refine WpL.subStr tabOk rfl rfl (by first | exact .inl ⟨rfl, rfl⟩ | exact .inr ⟨_, _, rfl, rfl⟩) (by first | exact .inl ⟨rfl, rfl⟩ | exact .inr ⟨_, _, rfl, rfl⟩) (by omega) (by decide) ?_
        | refine WpL.subImm tabOk rfl rfl (by first | exact .inl ⟨rfl, rfl⟩ | exact .inr ⟨_, _, rfl, rfl⟩) (by first | exact .inl ⟨rfl, rfl⟩ | exact .inr ⟨_, _, rfl, rfl⟩) (by omega) (by decide) ?_)
      | (refine K.gd ?_; first
        | refine K.gT rfl (by decide) rfl ?_
        | refine K.gF rfl (by decide) rfl ?_
        | refine K.gD rfl rfl (fun _ => ?_) (fun _ => ?_)
        | refine K.gN rfl rfl (fun _ => ?_) (fun _ => ?_)
        | refine K.gS rfl rfl (fun _ => ?_) (fun _ => ?_)))
    | refine WpL.nil ?_
    | refine Abs.Seq.n ?_
    | (refine K.A ?_; first
      | refine WpA.seq ?_
      | refine WpA.region ?_
      | (refine K.cond ?_; first
        | refine WpA.condT rfl ?_
        | refine WpA.condF rfl ?_
        | refine WpA.condD rfl (fun _ => ?_) (fun _ => ?_)
        | refine WpA.condN rfl (fun _ => ?_) (fun _ => ?_)
        | refine WpA.condS rfl (fun _ => ?_) (fun _ => ?_))
      | refine WpA.block ?_
      | refine WpA.ret ?_
      | refine WpA.exit ?_
      | refine WpA.skip ?_
      | apply WpA.regionM 1 mixed (by decide +kernel)
      | apply WpA.regionM 2 mixed (by decide +kernel)
      | apply WpA.regionM 3 mixed (by decide +kernel)
      | apply WpA.regionM 4 mixed (by decide +kernel)
      | apply WpA.regionM 5 mixed (by decide +kernel)
      | apply WpA.regionM 6 mixed (by decide +kernel)
      | apply WpA.regionM 7 mixed (by decide +kernel)
      | apply WpA.regionM 8 mixed (by decide +kernel)
      | apply WpA.regionM 9 mixed (by decide +kernel)
      | apply WpA.regionM 10 mixed (by decide +kernel)
      | apply WpA.regionM 11 mixed (by decide +kernel)
      | apply WpA.regionM 12 mixed (by decide +kernel)
      | apply WpA.regionM 13 mixed (by decide +kernel)
      | apply WpA.regionM 14 mixed (by decide +kernel)
      | apply WpA.regionM 15 mixed (by decide +kernel)
      | apply WpA.regionM 16 mixed (by decide +kernel)
      | apply WpA.regionM 17 mixed (by decide +kernel)
      | apply WpA.regionM 18 mixed (by decide +kernel)
      | apply WpA.regionM 19 mixed (by decide +kernel)
      | apply WpA.regionM 20 mixed (by decide +kernel)
      | apply WpA.regionM 21 mixed (by decide +kernel)
      | apply WpA.regionM 22 mixed (by decide +kernel)
      | apply WpA.regionM 23 mixed (by decide +kernel)
      | apply WpA.regionM 24 mixed (by decide +kernel)
      | apply WpA.regionM 25 mixed (by decide +kernel)
      | apply WpA.regionM 26 mixed (by decide +kernel)
      | apply WpA.regionM 27 mixed (by decide +kernel)
      | apply WpA.regionM 28 mixed (by decide +kernel)
      | apply WpA.regionM 29 mixed (by decide +kernel)
      | apply WpA.regionM 30 mixed (by decide +kernel)
      | apply WpA.regionM 31 mixed (by decide +kernel)
      | apply WpA.regionM 32 mixed (by decide +kernel)
      | refine WpA.regionD mixed (by decide +kernel) ?_)
    | refine Abs.Seq.ret ?_
    | refine Abs.Seq.exit ?_
    | refine Blk.n ?_
    | refine Blk.ret ?_
    | refine Blk.exitHere ?_
    | refine Blk.exitOther rfl ?_
    | refine Rnd.ret ?_
    | refine Rnd.exit ?_
    | exact Only.mk rfl
    | exact Abs.HeadJ.nil
    | apply Abs.HeadJ.cons rfl
    | (apply K.depT; simp only [deps, List.toList_toArray, List.filterMap_cons, List.filterMap_nil, Region.binds, if_true, List.nil_append, List.cons_append, List.getElem?_cons_succ, List.getElem?_cons_zero, List.getElem?_nil, reduceCtorEq, Bool.true_or, Bool.or_true]; exact rfl)
    | refine fun Tv => K.L ?_
    | (apply K.appT; simp only [List.nil_append, List.cons_append, List.append_assoc]; exact rfl)
    | (refine K.isTrue ?_; kernel_rfl)
    | exact rfl
    | contradiction
    | omega)
  all_goals refine Abs.Fin.ret (.one (.tmp rfl) .nil (by decide) (.keep ?_ rfl rfl .nil))
  all_goals refine congrArg (fun z => AV.sc (Value.int .i64 z)) ?_
  · rw [bitAt, if_pos (by omega)]
  · rw [bitAt, if_pos (by omega)]
  · have := (p.getD (i / 8).toNat 0).toNat_lt
    rw [bitAt, if_neg (by omega), bit, wrap_in (((p.getD (i / 8).toNat 0).toNat : Int)) (by omega)]

def flipS (p : List UInt8) (i : Int) : List UInt8 := if bitAt p i < 0 then p else
  List.map (fun n : Int => UInt8.ofNat n.toNat) ((List.map (fun b : UInt8 => (b.toNat : Int)) p).set (0 + (i / 8).toNat * 1)
    (IntKind.u8.wrap ((BitVec.ofInt IntKind.u8.bits ((List.map (fun b : UInt8 => (b.toNat : Int)) p).getD (0 + (i / 8).toNat * 1) 0) ^^^ BitVec.ofInt IntKind.u8.bits (128 / 2 ^ (i % 8).toNat)).toNat : Nat)))

theorem FlipBit_c (p : List UInt8) (i : Int) (hl : p.length ≤ 1048576) : FnC Try.prog 12 [Z p, I i] [] (.tup [Z (flipS p i), B (!decide (bitAt p i < 0))]) := by
  refine FnC.of_body tabOk Try.func12 Try.ntmps12 rfl (by decide +kernel) (by simp) fun G => ?_
  have hb := bitAt_neg p i
  repeat' (first
    | (refine K.L ?_; first
      | (refine K.mv ?_; refine WpL.move rfl (by decide) ?_)
      | (refine K.call ?_; first
        | refine WpL.call (BitAt_c _ _ ?_) (by repeat' (first | exact Snap.nil | refine Snap.keep rfl rfl ?_ | refine Snap.own rfl rfl rfl (by simp) rfl ?_ ?_ | refine Snap.agg ?_ ?_ | refine Snap.nilI ?_ | exact Snap.same rfl (still_ints _) (nofre_ints _) | exact Snap.same rfl (still_u8s _) (nofre_u8s _) | exact Snap.same rfl (still_strs _) (nofre_strs _) | exact Snap.same rfl (still_bools _) (nofre_bools _))) (by repeat' (first | exact Loc.nil | refine Loc.sc ?_ | refine Loc.own ?_ | refine Loc.nilS ?_ | refine Loc.agg ?_ ?_ | refine Loc.tup ?_ ?_)) (by first | exact Out.nil | exact Out.ints | exact Out.u8s | exact Out.strs | exact Out.bools) rfl rfl rfl (by decide) ?_
        )
      | (refine K.bin ?_; first
        | refine WpL.add rfl rfl (by omega) (by decide) ?_
        | refine WpL.sub rfl rfl (by omega) (by decide) ?_
        | refine WpL.mul rfl rfl (by omega) (by decide) ?_
        | refine WpL.quo rfl rfl (by omega) (by decide) ?_
        | refine WpL.rem rfl rfl (by omega) (by decide) ?_
        | refine WpL.bin rfl rfl rfl (by decide) ?_
        | refine WpL.strAdd rfl rfl (by omega) (by decide) ?_
        | refine WpL.strEq rfl rfl (by decide) ?_
        | refine WpL.strNe rfl rfl (by decide) ?_
        | refine WpL.boolEq (K.tyBool tabOk rfl) rfl rfl (by decide) ?_
        | refine WpL.boolNe (K.tyBool tabOk rfl) rfl rfl (by decide) ?_
        | refine WpL.shl rfl rfl (by first | decide | (simp only [IntKind.bits]; omega)) (by decide) ?_
        | refine WpL.shr rfl rfl (by first | decide | (simp only [IntKind.bits]; omega)) (by decide) ?_)
      | (refine K.ld ?_; first
        | refine WpL.loadInts tabOk rfl rfl rfl (by first | omega | (simp; omega)) (by decide) ?_
        | refine WpL.loadU8s tabOk rfl rfl rfl (by first | omega | (simp; omega)) (by decide) ?_
        | refine WpL.loadStrs tabOk rfl rfl rfl (by first | omega | (simp; omega)) (by decide) ?_
        | refine WpL.loadBools tabOk rfl rfl rfl (by first | omega | (simp; omega)) (by decide) ?_
        | refine WpL.load1 tabOk rfl rfl rfl rfl rfl (by decide) ?_)
      | (refine K.asg ?_; refine WpL.assign rfl (by decide) ?_)
      | (refine K.fld ?_; first
        | refine WpL.fieldI tabOk rfl rfl rfl (by decide) ?_
        | refine WpL.fieldP tabOk rfl rfl rfl rfl rfl (by decide) ?_)
      | (refine K.ixa ?_; first
        | refine WpL.idxI tabOk rfl rfl rfl (by omega) (by decide) ?_
        | refine WpL.idxO tabOk rfl rfl rfl rfl rfl (by omega) (by decide) ?_)
      | (refine K.ix ?_; refine WpL.idxStr tabOk rfl rfl rfl (by omega) (by decide) ?_)
      | (refine K.bi ?_; first
        | refine WpL.lenImm (TabOk.slice tabOk rfl).1 rfl (by decide) ?_
        | refine WpL.lenOwn (TabOk.slice tabOk rfl).1 rfl rfl rfl (by decide) ?_
        | refine WpL.lenNil (TabOk.slice tabOk rfl).1 rfl (by decide) ?_
        | refine WpL.lenStr (K.tyStr tabOk rfl) rfl (by decide) ?_
        | refine WpL.app1Ints tabOk rfl rfl rfl (Nat.zero_le _) rfl rfl (by first | rfl | omega | (simp; done) | (simp; omega)) (by omega) (by decide) ?_
        | refine WpL.appInts tabOk rfl rfl rfl (Nat.zero_le _) rfl rfl (by first | rfl | omega | (simp; done) | (simp; omega)) (by first | rfl | omega | (simp; done) | (simp; omega)) (by omega) (by decide) ?_
        | refine WpL.nil1Ints tabOk rfl rfl rfl rfl (by omega) rfl (by decide) ?_
        | refine WpL.app1U8s tabOk rfl rfl rfl (Nat.zero_le _) rfl rfl (by first | rfl | omega | (simp; done) | (simp; omega)) (by omega) (by decide) ?_
        | refine WpL.appU8s tabOk rfl rfl rfl (Nat.zero_le _) rfl rfl (by first | rfl | omega | (simp; done) | (simp; omega)) (by first | rfl | omega | (simp; done) | (simp; omega)) (by omega) (by decide) ?_
        | refine WpL.nil1U8s tabOk rfl rfl rfl rfl (by omega) rfl (by decide) ?_
        | refine WpL.app1Strs tabOk rfl rfl rfl (Nat.zero_le _) rfl rfl (by first | rfl | omega | (simp; done) | (simp; omega)) (by omega) (by decide) ?_
        | refine WpL.appStrs tabOk rfl rfl rfl (Nat.zero_le _) rfl rfl (by first | rfl | omega | (simp; done) | (simp; omega)) (by first | rfl | omega | (simp; done) | (simp; omega)) (by omega) (by decide) ?_
        | refine WpL.nil1Strs tabOk rfl rfl rfl rfl (by omega) rfl (by decide) ?_
        | refine WpL.appOwn tabOk rfl rfl rfl rfl rfl rfl (by simp) (Nat.zero_le _) rfl rfl (by simp) (by simp [all_ints, all_u8s, all_strs, oneB, Value.oneCell']) (by omega) (by decide) ?_
        | refine WpL.appNil tabOk rfl rfl rfl rfl (by simp) (by simp [all_ints, all_u8s, all_strs, oneB, Value.oneCell']) (by omega) rfl (by decide) ?_
        | refine WpL.min2 rfl rfl (by decide) ?_
        | refine WpL.max2 rfl rfl (by decide) ?_)
      | (refine K.un ?_; first
        | refine WpL.not rfl (by decide) ?_
        | refine WpL.neg rfl (by omega) (by decide) ?_)
      | (refine K.pick ?_; first
        | refine WpL.pickT rfl rfl (by decide) ?_
        | refine WpL.pickF rfl rfl (by decide) ?_)
      | (refine K.ext ?_; refine WpL.extract rfl rfl (by first | decide | simp [AV.shL]) (by decide) ?_)
      | (refine K.cv ?_; first
        | refine WpL.convI (P := Try.prog) (by rfl) (K.tyInt tabOk rfl) rfl (by omega) (by decide) ?_
        | refine WpL.conv (P := Try.prog) (by rfl) (K.tyInt tabOk rfl) rfl (by decide) ?_
        | refine WpL.toBytes tabOk rfl rfl rfl rfl (by omega) rfl (by decide) ?_
        | refine WpL.ofBytes tabOk rfl rfl rfl rfl rfl (by simp) (by decide) ?_)
      | (refine K.lit ?_; first
        | refine WpL.lit0U8s tabOk rfl rfl rfl (by decide) ?_
        | refine WpL.lit0Ints tabOk rfl rfl rfl (by decide) ?_
        | refine WpL.lit0Bools tabOk rfl rfl rfl (by decide) ?_
        | refine WpL.lit0Strs tabOk rfl rfl rfl (by decide) ?_
        | refine WpL.litF tabOk rfl rfl rfl rfl (by decide) rfl (by decide) ?_)
      | (refine K.ms ?_; first
        | refine WpL.makeInts tabOk rfl rfl rfl (by omega) (by omega) rfl (by decide) ?_
        | refine WpL.makeStrs tabOk rfl rfl rfl (by omega) (by omega) rfl (by decide) ?_
        | refine WpL.makeBools tabOk rfl rfl rfl (by omega) (by omega) rfl (by decide) ?_
        | refine WpL.makeU8s tabOk rfl rfl rfl (by omega) (by omega) rfl (by decide) ?_)
      | (refine K.st ?_; first
        | refine WpL.storeInts tabOk rfl rfl rfl rfl rfl (by first | omega | (simp; omega)) ?_
        | refine WpL.storeU8s tabOk rfl rfl rfl rfl rfl (by first | omega | (simp; omega)) ?_
        | refine WpL.storeBools tabOk rfl rfl rfl rfl rfl (by first | omega | (simp; omega)) ?_
        | refine WpL.storeStrs tabOk rfl rfl rfl rfl rfl (by first | omega | (simp; omega)) ?_
        | refine WpL.store tabOk rfl rfl rfl rfl rfl rfl rfl rfl (by first | omega | (simp; omega) | (simp; done)) ?_)
      | (refine K.all ?_; first
        | refine WpL.allocStruct tabOk rfl rfl (by decide) ?_
        | refine WpL.allocPlain tabOk rfl rfl rfl (by decide) ?_)
      | (refine K.box ?_; refine WpL.box rfl rfl rfl (by decide) ?_)
      | (refine K.nc ?_; first
        | refine WpL.nilCheckP rfl rfl rfl (by decide) ?_
        | refine WpL.nilCheckI rfl (by decide) ?_)
      | (refine K.sl ?_; first
        | refine WpL.subStr tabOk rfl rfl (by first | exact .inl ⟨rfl, rfl⟩ | exact .inr ⟨_, _, rfl, rfl⟩) (by first | exact .inl ⟨rfl, rfl⟩ | exact .inr ⟨_, _, rfl, rfl⟩) (by omega) (by decide) ?_
        | refine WpL.subImm tabOk rfl rfl (by first | exact .inl ⟨rfl, rfl⟩ | exact .inr ⟨_, _, rfl, rfl⟩) (by first | exact .inl ⟨rfl, rfl⟩ | exact .inr ⟨_, _, rfl, rfl⟩) (by omega) (by decide) ?_)
      | (refine K.gd ?_; first
        | refine K.gT rfl (by decide) rfl ?_
        | refine K.gF rfl (by decide) rfl ?_
        | refine K.gD rfl rfl (fun _ => ?_) (fun _ => ?_)
        | refine K.gN rfl rfl (fun _ => ?_) (fun _ => ?_)
        | refine K.gS rfl rfl (fun _ => ?_) (fun _ => ?_)))
    | refine WpL.nil ?_
    | refine Abs.Seq.n ?_
    | (refine K.A ?_; first
      | refine WpA.seq ?_
      | refine WpA.region ?_
      | (refine K.cond ?_; first
        | refine WpA.condT rfl ?_
        | refine WpA.condF rfl ?_
        | refine WpA.condD rfl (fun _ => ?_) (fun _ => ?_)
        | refine WpA.condN rfl (fun _ => ?_) (fun _ => ?_)
        | refine WpA.condS rfl (fun _ => ?_) (fun _ => ?_))
      | refine WpA.block ?_
      | refine WpA.ret ?_
      | refine WpA.exit ?_
      | refine WpA.skip ?_
      | apply WpA.regionM 1 mixed (by decide +kernel)
      | apply WpA.regionM 2 mixed (by decide +kernel)
      | apply WpA.regionM 3 mixed (by decide +kernel)
      | apply WpA.regionM 4 mixed (by decide +kernel)
      | apply WpA.regionM 5 mixed (by decide +kernel)
      | apply WpA.regionM 6 mixed (by decide +kernel)
      | apply WpA.regionM 7 mixed (by decide +kernel)
      | apply WpA.regionM 8 mixed (by decide +kernel)
      | apply WpA.regionM 9 mixed (by decide +kernel)
      | apply WpA.regionM 10 mixed (by decide +kernel)
      | apply WpA.regionM 11 mixed (by decide +kernel)
      | apply WpA.regionM 12 mixed (by decide +kernel)
      | apply WpA.regionM 13 mixed (by decide +kernel)
      | apply WpA.regionM 14 mixed (by decide +kernel)
      | apply WpA.regionM 15 mixed (by decide +kernel)
      | apply WpA.regionM 16 mixed (by decide +kernel)
      | apply WpA.regionM 17 mixed (by decide +kernel)
      | apply WpA.regionM 18 mixed (by decide +kernel)
      | apply WpA.regionM 19 mixed (by decide +kernel)
      | apply WpA.regionM 20 mixed (by decide +kernel)
      | apply WpA.regionM 21 mixed (by decide +kernel)
      | apply WpA.regionM 22 mixed (by decide +kernel)
      | apply WpA.regionM 23 mixed (by decide +kernel)
      | apply WpA.regionM 24 mixed (by decide +kernel)
      | apply WpA.regionM 25 mixed (by decide +kernel)
      | apply WpA.regionM 26 mixed (by decide +kernel)
      | apply WpA.regionM 27 mixed (by decide +kernel)
      | apply WpA.regionM 28 mixed (by decide +kernel)
      | apply WpA.regionM 29 mixed (by decide +kernel)
      | apply WpA.regionM 30 mixed (by decide +kernel)
      | apply WpA.regionM 31 mixed (by decide +kernel)
      | apply WpA.regionM 32 mixed (by decide +kernel)
      | refine WpA.regionD mixed (by decide +kernel) ?_)
    | refine Abs.Seq.ret ?_
    | refine Abs.Seq.exit ?_
    | refine Blk.n ?_
    | refine Blk.ret ?_
    | refine Blk.exitHere ?_
    | refine Blk.exitOther rfl ?_
    | refine Rnd.ret ?_
    | refine Rnd.exit ?_
    | exact Only.mk rfl
    | exact Abs.HeadJ.nil
    | apply Abs.HeadJ.cons rfl
    | (apply K.depT; simp only [deps, List.toList_toArray, List.filterMap_cons, List.filterMap_nil, Region.binds, if_true, List.nil_append, List.cons_append, List.getElem?_cons_succ, List.getElem?_cons_zero, List.getElem?_nil, reduceCtorEq, Bool.true_or, Bool.or_true]; exact rfl)
    | refine fun Tv => K.L ?_
    | (apply K.appT; simp only [List.nil_append, List.cons_append, List.append_assoc]; exact rfl)
    | (refine K.isTrue ?_; kernel_rfl)
    | exact rfl
    | contradiction
    | omega)
  all_goals refine Abs.Fin.ret (.two (.tmp rfl) (.tmp rfl) .nil (by decide) (.tup (.keep ?_ rfl rfl (.keep ?_ rfl rfl .nil)) .nil))
  all_goals first | (rw [flipS, if_pos (by assumption)]; done) | (rw [flipS, if_neg (by assumption)]; done) | simp_all

theorem FlipBit_s (p : List UInt8) (i : Int) (hl : p.length ≤ 1048576) : FnC Try.prog 11 [Z p, I i] [] (.tup [Z (flipS p i), B (!decide (bitAt p i < 0))]) := by
  refine FnC.of_body tabOk Try.func11 Try.ntmps11 rfl (by decide +kernel) (by simp) fun G => ?_
  have hb := bitAt_neg p i
  repeat' (first
    | (refine K.L ?_; first
      | (refine K.mv ?_; refine WpL.move rfl (by decide) ?_)
      | (refine K.call ?_; first
        | refine WpL.call (BitAt_s _ _ ?_) (by repeat' (first | exact Snap.nil | refine Snap.keep rfl rfl ?_ | refine Snap.own rfl rfl rfl (by simp) rfl ?_ ?_ | refine Snap.agg ?_ ?_ | refine Snap.nilI ?_ | exact Snap.same rfl (still_ints _) (nofre_ints _) | exact Snap.same rfl (still_u8s _) (nofre_u8s _) | exact Snap.same rfl (still_strs _) (nofre_strs _) | exact Snap.same rfl (still_bools _) (nofre_bools _))) (by repeat' (first | exact Loc.nil | refine Loc.sc ?_ | refine Loc.own ?_ | refine Loc.nilS ?_ | refine Loc.agg ?_ ?_ | refine Loc.tup ?_ ?_)) (by first | exact Out.nil | exact Out.ints | exact Out.u8s | exact Out.strs | exact Out.bools) rfl rfl rfl (by decide) ?_
        )
      | (refine K.bin ?_; first
        | refine WpL.add rfl rfl (by omega) (by decide) ?_
        | refine WpL.sub rfl rfl (by omega) (by decide) ?_
        | refine WpL.mul rfl rfl (by omega) (by decide) ?_
        | refine WpL.quo rfl rfl (by omega) (by decide) ?_
        | refine WpL.rem rfl rfl (by omega) (by decide) ?_
        | refine WpL.bin rfl rfl rfl (by decide) ?_
        | refine WpL.strAdd rfl rfl (by omega) (by decide) ?_
        | refine WpL.strEq rfl rfl (by decide) ?_
        | refine WpL.strNe rfl rfl (by decide) ?_
        | refine WpL.boolEq (K.tyBool tabOk rfl) rfl rfl (by decide) ?_
        | refine WpL.boolNe (K.tyBool tabOk rfl) rfl rfl (by decide) ?_
        | refine WpL.shl rfl rfl (by first | decide | (simp only [IntKind.bits]; omega)) (by decide) ?_
        | refine WpL.shr rfl rfl (by first | decide | (simp only [IntKind.bits]; omega)) (by decide) ?_)
      | (refine K.ld ?_; first
        | refine WpL.loadInts tabOk rfl rfl rfl (by first | omega | (simp; omega)) (by decide) ?_
        | refine WpL.loadU8s tabOk rfl rfl rfl (by first | omega | (simp; omega)) (by decide) ?_
        | refine WpL.loadStrs tabOk rfl rfl rfl (by first | omega | (simp; omega)) (by decide) ?_
        | refine WpL.loadBools tabOk rfl rfl rfl (by first | omega | (simp; omega)) (by decide) ?_
        | refine WpL.load1 tabOk rfl rfl rfl rfl rfl (by decide) ?_)
      | (refine K.asg ?_; refine WpL.assign rfl (by decide) ?_)
      | (refine K.fld ?_; first
        | refine WpL.fieldI tabOk rfl rfl rfl (by decide) ?_
        | refine WpL.fieldP tabOk rfl rfl rfl rfl rfl (by decide) ?_)
      | (refine K.ixa ?_; first
        | refine WpL.idxI tabOk rfl rfl rfl (by omega) (by decide) ?_
        | refine WpL.idxO tabOk rfl rfl rfl rfl rfl (by omega) (by decide) ?_)
      | (refine K.ix ?_; refine WpL.idxStr tabOk rfl rfl rfl (by omega) (by decide) ?_)
      | (refine K.bi ?_; first
        | refine WpL.lenImm (TabOk.slice tabOk rfl).1 rfl (by decide) ?_
        | refine WpL.lenOwn (TabOk.slice tabOk rfl).1 rfl rfl rfl (by decide) ?_
        | refine WpL.lenNil (TabOk.slice tabOk rfl).1 rfl (by decide) ?_
        | refine WpL.lenStr (K.tyStr tabOk rfl) rfl (by decide) ?_
        | refine WpL.app1Ints tabOk rfl rfl rfl (Nat.zero_le _) rfl rfl (by first | rfl | omega | (simp; done) | (simp; omega)) (by omega) (by decide) ?_
        | refine WpL.appInts tabOk rfl rfl rfl (Nat.zero_le _) rfl rfl (by first | rfl | omega | (simp; done) | (simp; omega)) (by first | rfl | omega | (simp; done) | (simp; omega)) (by omega) (by decide) ?_
        | refine WpL.nil1Ints tabOk rfl rfl rfl rfl (by omega) rfl (by decide) ?_
        | refine WpL.app1U8s tabOk rfl rfl rfl (Nat.zero_le _) rfl rfl (by first | rfl | omega | (simp; done) | (simp; omega)) (by omega) (by decide) ?_
        | refine WpL.appU8s tabOk rfl rfl rfl (Nat.zero_le _) rfl rfl (by first | rfl | omega | (simp; done) | (simp; omega)) (by first | rfl | omega | (simp; done) | (simp; omega)) (by omega) (by decide) ?_
        | refine WpL.nil1U8s tabOk rfl rfl rfl rfl (by omega) rfl (by decide) ?_
        | refine WpL.app1Strs tabOk rfl rfl rfl (Nat.zero_le _) rfl rfl (by first | rfl | omega | (simp; done) | (simp; omega)) (by omega) (by decide) ?_
        | refine WpL.appStrs tabOk rfl rfl rfl (Nat.zero_le _) rfl rfl (by first | rfl | omega | (simp; done) | (simp; omega)) (by first | rfl | omega | (simp; done) | (simp; omega)) (by omega) (by decide) ?_
        | refine WpL.nil1Strs tabOk rfl rfl rfl rfl (by omega) rfl (by decide) ?_
        | refine WpL.appOwn tabOk rfl rfl rfl rfl rfl rfl (by simp) (Nat.zero_le _) rfl rfl (by simp) (by simp [all_ints, all_u8s, all_strs, oneB, Value.oneCell']) (by omega) (by decide) ?_
        | refine WpL.appNil tabOk rfl rfl rfl rfl (by simp) (by simp [all_ints, all_u8s, all_strs, oneB, Value.oneCell']) (by omega) rfl (by decide) ?_
        | refine WpL.min2 rfl rfl (by decide) ?_
        | refine WpL.max2 rfl rfl (by decide) ?_)
      | (refine K.un ?_; first
        | refine WpL.not rfl (by decide) ?_
        | refine WpL.neg rfl (by omega) (by decide) ?_)
      | (refine K.pick ?_; first
        | refine WpL.pickT rfl rfl (by decide) ?_
        | refine WpL.pickF rfl rfl (by decide) ?_)
      | (refine K.ext ?_; refine WpL.extract rfl rfl (by first | decide | simp [AV.shL]) (by decide) ?_)
      | (refine K.cv ?_; first
        | refine WpL.convI (P := Try.prog) (by rfl) (K.tyInt tabOk rfl) rfl (by omega) (by decide) ?_
        | refine WpL.conv (P := Try.prog) (by rfl) (K.tyInt tabOk rfl) rfl (by decide) ?_
        | refine WpL.toBytes tabOk rfl rfl rfl rfl (by omega) rfl (by decide) ?_
        | refine WpL.ofBytes tabOk rfl rfl rfl rfl rfl (by simp) (by decide) ?_)
      | (refine K.lit ?_; first
        | refine WpL.lit0U8s tabOk rfl rfl rfl (by decide) ?_
        | refine WpL.lit0Ints tabOk rfl rfl rfl (by decide) ?_
        | refine WpL.lit0Bools tabOk rfl rfl rfl (by decide) ?_
        | refine WpL.lit0Strs tabOk rfl rfl rfl (by decide) ?_
        | refine WpL.litF tabOk rfl rfl rfl rfl (by decide) rfl (by decide) ?_)
      | (refine K.ms ?_; first
        | refine WpL.makeInts tabOk rfl rfl rfl (by omega) (by omega) rfl (by decide) ?_
        | refine WpL.makeStrs tabOk rfl rfl rfl (by omega) (by omega) rfl (by decide) ?_
        | refine WpL.makeBools tabOk rfl rfl rfl (by omega) (by omega) rfl (by decide) ?_
        | refine WpL.makeU8s tabOk rfl rfl rfl (by omega) (by omega) rfl (by decide) ?_)
      | (refine K.st ?_; first
        | refine WpL.storeInts tabOk rfl rfl rfl rfl rfl (by first | omega | (simp; omega)) ?_
        | refine WpL.storeU8s tabOk rfl rfl rfl rfl rfl (by first | omega | (simp; omega)) ?_
        | refine WpL.storeBools tabOk rfl rfl rfl rfl rfl (by first | omega | (simp; omega)) ?_
        | refine WpL.storeStrs tabOk rfl rfl rfl rfl rfl (by first | omega | (simp; omega)) ?_
        | refine WpL.store tabOk rfl rfl rfl rfl rfl rfl rfl rfl (by first | omega | (simp; omega) | (simp; done)) ?_)
      | (refine K.all ?_; first
        | refine WpL.allocStruct tabOk rfl rfl (by decide) ?_
        | refine WpL.allocPlain tabOk rfl rfl rfl (by decide) ?_)
      | (refine K.box ?_; refine WpL.box rfl rfl rfl (by decide) ?_)
      | (refine K.nc ?_; first
        | refine WpL.nilCheckP rfl rfl rfl (by decide) ?_
        | refine WpL.nilCheckI rfl (by decide) ?_)
      | (refine K.sl ?_; first
        | refine WpL.subStr tabOk rfl rfl (by first | exact .inl ⟨rfl, rfl⟩ | exact .inr ⟨_, _, rfl, rfl⟩) (by first | exact .inl ⟨rfl, rfl⟩ | exact .inr ⟨_, _, rfl, rfl⟩) (by omega) (by decide) ?_
        | refine WpL.subImm tabOk rfl rfl (by first | exact .inl ⟨rfl, rfl⟩ | exact .inr ⟨_, _, rfl, rfl⟩) (by first | exact .inl ⟨rfl, rfl⟩ | exact .inr ⟨_, _, rfl, rfl⟩) (by omega) (by decide) ?_)
      | (refine K.gd ?_; first
        | refine K.gT rfl (by decide) rfl ?_
        | refine K.gF rfl (by decide) rfl ?_
        | refine K.gD rfl rfl (fun _ => ?_) (fun _ => ?_)
        | refine K.gN rfl rfl (fun _ => ?_) (fun _ => ?_)
        | refine K.gS rfl rfl (fun _ => ?_) (fun _ => ?_)))
    | refine WpL.nil ?_
    | refine Abs.Seq.n ?_
    | (refine K.A ?_; first
      | refine WpA.seq ?_
      | refine WpA.region ?_
      | (refine K.cond ?_; first
        | refine WpA.condT rfl ?_
        | refine WpA.condF rfl ?_
        | refine WpA.condD rfl (fun _ => ?_) (fun _ => ?_)
        | refine WpA.condN rfl (fun _ => ?_) (fun _ => ?_)
        | refine WpA.condS rfl (fun _ => ?_) (fun _ => ?_))
      | refine WpA.block ?_
      | refine WpA.ret ?_
      | refine WpA.exit ?_
      | refine WpA.skip ?_
      | apply WpA.regionM 1 mixed (by decide +kernel)
      | apply WpA.regionM 2 mixed (by decide +kernel)
      | apply WpA.regionM 3 mixed (by decide +kernel)
      | apply WpA.regionM 4 mixed (by decide +kernel)
      | apply WpA.regionM 5 mixed (by decide +kernel)
      | apply WpA.regionM 6 mixed (by decide +kernel)
      | apply WpA.regionM 7 mixed (by decide +kernel)
      | apply WpA.regionM 8 mixed (by decide +kernel)
      | apply WpA.regionM 9 mixed (by decide +kernel)
      | apply WpA.regionM 10 mixed (by decide +kernel)
      | apply WpA.regionM 11 mixed (by decide +kernel)
      | apply WpA.regionM 12 mixed (by decide +kernel)
      | apply WpA.regionM 13 mixed (by decide +kernel)
      | apply WpA.regionM 14 mixed (by decide +kernel)
      | apply WpA.regionM 15 mixed (by decide +kernel)
      | apply WpA.regionM 16 mixed (by decide +kernel)
      | apply WpA.regionM 17 mixed (by decide +kernel)
      | apply WpA.regionM 18 mixed (by decide +kernel)
      | apply WpA.regionM 19 mixed (by decide +kernel)
      | apply WpA.regionM 20 mixed (by decide +kernel)
      | apply WpA.regionM 21 mixed (by decide +kernel)
      | apply WpA.regionM 22 mixed (by decide +kernel)
      | apply WpA.regionM 23 mixed (by decide +kernel)
      | apply WpA.regionM 24 mixed (by decide +kernel)
      | apply WpA.regionM 25 mixed (by decide +kernel)
      | apply WpA.regionM 26 mixed (by decide +kernel)
      | apply WpA.regionM 27 mixed (by decide +kernel)
      | apply WpA.regionM 28 mixed (by decide +kernel)
      | apply WpA.regionM 29 mixed (by decide +kernel)
      | apply WpA.regionM 30 mixed (by decide +kernel)
      | apply WpA.regionM 31 mixed (by decide +kernel)
      | apply WpA.regionM 32 mixed (by decide +kernel)
      | refine WpA.regionD mixed (by decide +kernel) ?_)
    | refine Abs.Seq.ret ?_
    | refine Abs.Seq.exit ?_
    | refine Blk.n ?_
    | refine Blk.ret ?_
    | refine Blk.exitHere ?_
    | refine Blk.exitOther rfl ?_
    | refine Rnd.ret ?_
    | refine Rnd.exit ?_
    | exact Only.mk rfl
    | exact Abs.HeadJ.nil
    | apply Abs.HeadJ.cons rfl
    | (apply K.depT; simp only [deps, List.toList_toArray, List.filterMap_cons, List.filterMap_nil, Region.binds, if_true, List.nil_append, List.cons_append, List.getElem?_cons_succ, List.getElem?_cons_zero, List.getElem?_nil, reduceCtorEq, Bool.true_or, Bool.or_true]; exact rfl)
    | refine fun Tv => K.L ?_
    | (apply K.appT; simp only [List.nil_append, List.cons_append, List.append_assoc]; exact rfl)
    | (refine K.isTrue ?_; kernel_rfl)
    | exact rfl
    | contradiction
    | omega)
  all_goals refine Abs.Fin.ret (.two (.tmp rfl) (.tmp rfl) .nil (by decide) (.tup (.keep ?_ rfl rfl (.keep ?_ rfl rfl .nil)) .nil))
  all_goals first | (rw [flipS, if_pos (by assumption)]; done) | (rw [flipS, if_neg (by assumption)]; done) | simp_all

theorem FnExactFlipBit_c (p : List UInt8) (i : Int) (hl : p.length ≤ 9223372036854775807) : FnC Try.prog 4 [Z p, I i] [] (B true) := by
  refine FnC.of_body tabOk Try.func4 Try.ntmps4 rfl (by decide +kernel) (by simp) fun G => ?_
  repeat' (first
    | (refine K.L ?_; first
      | (refine K.mv ?_; refine WpL.move rfl (by decide) ?_)
      | (refine K.call ?_; first
        | refine WpL.call (FlipBit_c _ _ ?_) (by repeat' (first | exact Snap.nil | refine Snap.keep rfl rfl ?_ | refine Snap.own rfl rfl rfl (by simp) rfl ?_ ?_ | refine Snap.agg ?_ ?_ | refine Snap.nilI ?_ | exact Snap.same rfl (still_ints _) (nofre_ints _) | exact Snap.same rfl (still_u8s _) (nofre_u8s _) | exact Snap.same rfl (still_strs _) (nofre_strs _) | exact Snap.same rfl (still_bools _) (nofre_bools _))) (by repeat' (first | exact Loc.nil | refine Loc.sc ?_ | refine Loc.own ?_ | refine Loc.nilS ?_ | refine Loc.agg ?_ ?_ | refine Loc.tup ?_ ?_)) (by first | exact Out.nil | exact Out.ints | exact Out.u8s | exact Out.strs | exact Out.bools) rfl rfl rfl (by decide) ?_
        | refine WpL.call (FlipBit_s _ _ ?_) (by repeat' (first | exact Snap.nil | refine Snap.keep rfl rfl ?_ | refine Snap.own rfl rfl rfl (by simp) rfl ?_ ?_ | refine Snap.agg ?_ ?_ | refine Snap.nilI ?_ | exact Snap.same rfl (still_ints _) (nofre_ints _) | exact Snap.same rfl (still_u8s _) (nofre_u8s _) | exact Snap.same rfl (still_strs _) (nofre_strs _) | exact Snap.same rfl (still_bools _) (nofre_bools _))) (by repeat' (first | exact Loc.nil | refine Loc.sc ?_ | refine Loc.own ?_ | refine Loc.nilS ?_ | refine Loc.agg ?_ ?_ | refine Loc.tup ?_ ?_)) (by first | exact Out.nil | exact Out.ints | exact Out.u8s | exact Out.strs | exact Out.bools) rfl rfl rfl (by decide) ?_
        )
      | (refine K.bin ?_; first
        | refine WpL.add rfl rfl (by omega) (by decide) ?_
        | refine WpL.sub rfl rfl (by omega) (by decide) ?_
        | refine WpL.mul rfl rfl (by omega) (by decide) ?_
        | refine WpL.quo rfl rfl (by omega) (by decide) ?_
        | refine WpL.rem rfl rfl (by omega) (by decide) ?_
        | refine WpL.bin rfl rfl rfl (by decide) ?_
        | refine WpL.strAdd rfl rfl (by omega) (by decide) ?_
        | refine WpL.strEq rfl rfl (by decide) ?_
        | refine WpL.strNe rfl rfl (by decide) ?_
        | refine WpL.boolEq (K.tyBool tabOk rfl) rfl rfl (by decide) ?_
        | refine WpL.boolNe (K.tyBool tabOk rfl) rfl rfl (by decide) ?_
        | refine WpL.shl rfl rfl (by first | decide | (simp only [IntKind.bits]; omega)) (by decide) ?_
        | refine WpL.shr rfl rfl (by first | decide | (simp only [IntKind.bits]; omega)) (by decide) ?_)
      | (refine K.ld ?_; first
        | refine WpL.loadInts tabOk rfl rfl rfl (by first | omega | (simp; omega)) (by decide) ?_
        | refine WpL.loadU8s tabOk rfl rfl rfl (by first | omega | (simp; omega)) (by decide) ?_
        | refine WpL.loadStrs tabOk rfl rfl rfl (by first | omega | (simp; omega)) (by decide) ?_
        | refine WpL.loadBools tabOk rfl rfl rfl (by first | omega | (simp; omega)) (by decide) ?_
        | refine WpL.load1 tabOk rfl rfl rfl rfl rfl (by decide) ?_)
      | (refine K.asg ?_; refine WpL.assign rfl (by decide) ?_)
      | (refine K.fld ?_; first
        | refine WpL.fieldI tabOk rfl rfl rfl (by decide) ?_
        | refine WpL.fieldP tabOk rfl rfl rfl rfl rfl (by decide) ?_)
      | (refine K.ixa ?_; first
        | refine WpL.idxI tabOk rfl rfl rfl (by omega) (by decide) ?_
        | refine WpL.idxO tabOk rfl rfl rfl rfl rfl (by omega) (by decide) ?_)
      | (refine K.ix ?_; refine WpL.idxStr tabOk rfl rfl rfl (by omega) (by decide) ?_)
      | (refine K.bi ?_; first
        | refine WpL.lenImm (TabOk.slice tabOk rfl).1 rfl (by decide) ?_
        | refine WpL.lenOwn (TabOk.slice tabOk rfl).1 rfl rfl rfl (by decide) ?_
        | refine WpL.lenNil (TabOk.slice tabOk rfl).1 rfl (by decide) ?_
        | refine WpL.lenStr (K.tyStr tabOk rfl) rfl (by decide) ?_
        | refine WpL.app1Ints tabOk rfl rfl rfl (Nat.zero_le _) rfl rfl (by first | rfl | omega | (simp; done) | (simp; omega)) (by omega) (by decide) ?_
        | refine WpL.appInts tabOk rfl rfl rfl (Nat.zero_le _) rfl rfl (by first | rfl | omega | (simp; done) | (simp; omega)) (by first | rfl | omega | (simp; done) | (simp; omega)) (by omega) (by decide) ?_
        | refine WpL.nil1Ints tabOk rfl rfl rfl rfl (by omega) rfl (by decide) ?_
        | refine WpL.app1U8s tabOk rfl rfl rfl (Nat.zero_le _) rfl rfl (by first | rfl | omega | (simp; done) | (simp; omega)) (by omega) (by decide) ?_
        | refine WpL.appU8s tabOk rfl rfl rfl (Nat.zero_le _) rfl rfl (by first | rfl | omega | (simp; done) | (simp; omega)) (by first | rfl | omega | (simp; done) | (simp; omega)) (by omega) (by decide) ?_
        | refine WpL.nil1U8s tabOk rfl rfl rfl rfl (by omega) rfl (by decide) ?_
        | refine WpL.app1Strs tabOk rfl rfl rfl (Nat.zero_le _) rfl rfl (by first | rfl | omega | (simp; done) | (simp; omega)) (by omega) (by decide) ?_
        | refine WpL.appStrs tabOk rfl rfl rfl (Nat.zero_le _) rfl rfl (by first | rfl | omega | (simp; done) | (simp; omega)) (by first | rfl | omega | (simp; done) | (simp; omega)) (by omega) (by decide) ?_
        | refine WpL.nil1Strs tabOk rfl rfl rfl rfl (by omega) rfl (by decide) ?_
        | refine WpL.appOwn tabOk rfl rfl rfl rfl rfl rfl (by simp) (Nat.zero_le _) rfl rfl (by simp) (by simp [all_ints, all_u8s, all_strs, oneB, Value.oneCell']) (by omega) (by decide) ?_
        | refine WpL.appNil tabOk rfl rfl rfl rfl (by simp) (by simp [all_ints, all_u8s, all_strs, oneB, Value.oneCell']) (by omega) rfl (by decide) ?_
        | refine WpL.min2 rfl rfl (by decide) ?_
        | refine WpL.max2 rfl rfl (by decide) ?_)
      | (refine K.un ?_; first
        | refine WpL.not rfl (by decide) ?_
        | refine WpL.neg rfl (by omega) (by decide) ?_)
      | (refine K.pick ?_; first
        | refine WpL.pickT rfl rfl (by decide) ?_
        | refine WpL.pickF rfl rfl (by decide) ?_)
      | (refine K.ext ?_; refine WpL.extract rfl rfl (by first | decide | simp [AV.shL]) (by decide) ?_)
      | (refine K.cv ?_; first
        | refine WpL.convI (P := Try.prog) (by rfl) (K.tyInt tabOk rfl) rfl (by omega) (by decide) ?_
        | refine WpL.conv (P := Try.prog) (by rfl) (K.tyInt tabOk rfl) rfl (by decide) ?_
        | refine WpL.toBytes tabOk rfl rfl rfl rfl (by omega) rfl (by decide) ?_
        | refine WpL.ofBytes tabOk rfl rfl rfl rfl rfl (by simp) (by decide) ?_)
      | (refine K.lit ?_; first
        | refine WpL.lit0U8s tabOk rfl rfl rfl (by decide) ?_
        | refine WpL.lit0Ints tabOk rfl rfl rfl (by decide) ?_
        | refine WpL.lit0Bools tabOk rfl rfl rfl (by decide) ?_
        | refine WpL.lit0Strs tabOk rfl rfl rfl (by decide) ?_
        | refine WpL.litF tabOk rfl rfl rfl rfl (by decide) rfl (by decide) ?_)
      | (refine K.ms ?_; first
        | refine WpL.makeInts tabOk rfl rfl rfl (by omega) (by omega) rfl (by decide) ?_
        | refine WpL.makeStrs tabOk rfl rfl rfl (by omega) (by omega) rfl (by decide) ?_
        | refine WpL.makeBools tabOk rfl rfl rfl (by omega) (by omega) rfl (by decide) ?_
        | refine WpL.makeU8s tabOk rfl rfl rfl (by omega) (by omega) rfl (by decide) ?_)
      | (refine K.st ?_; first
        | refine WpL.storeInts tabOk rfl rfl rfl rfl rfl (by first | omega | (simp; omega)) ?_
        | refine WpL.storeU8s tabOk rfl rfl rfl rfl rfl (by first | omega | (simp; omega)) ?_
        | refine WpL.storeBools tabOk rfl rfl rfl rfl rfl (by first | omega | (simp; omega)) ?_
        | refine WpL.storeStrs tabOk rfl rfl rfl rfl rfl (by first | omega | (simp; omega)) ?_
        | refine WpL.store tabOk rfl rfl rfl rfl rfl rfl rfl rfl (by first | omega | (simp; omega) | (simp; done)) ?_)
      | (refine K.all ?_; first
        | refine WpL.allocStruct tabOk rfl rfl (by decide) ?_
        | refine WpL.allocPlain tabOk rfl rfl rfl (by decide) ?_)
      | (refine K.box ?_; refine WpL.box rfl rfl rfl (by decide) ?_)
      | (refine K.nc ?_; first
        | refine WpL.nilCheckP rfl rfl rfl (by decide) ?_
        | refine WpL.nilCheckI rfl (by decide) ?_)
      | (refine K.sl ?_; first
        | refine WpL.subStr tabOk rfl rfl (by first | exact .inl ⟨rfl, rfl⟩ | exact .inr ⟨_, _, rfl, rfl⟩) (by first | exact .inl ⟨rfl, rfl⟩ | exact .inr ⟨_, _, rfl, rfl⟩) (by omega) (by decide) ?_
        | refine WpL.subImm tabOk rfl rfl (by first | exact .inl ⟨rfl, rfl⟩ | exact .inr ⟨_, _, rfl, rfl⟩) (by first | exact .inl ⟨rfl, rfl⟩ | exact .inr ⟨_, _, rfl, rfl⟩) (by omega) (by decide) ?_)
      | (refine K.gd ?_; first
        | refine K.gT rfl (by decide) rfl ?_
        | refine K.gF rfl (by decide) rfl ?_
        | refine K.gD rfl rfl (fun _ => ?_) (fun _ => ?_)
        | refine K.gN rfl rfl (fun _ => ?_) (fun _ => ?_)
        | refine K.gS rfl rfl (fun _ => ?_) (fun _ => ?_)))
    | refine WpL.nil ?_
    | refine Abs.Seq.n ?_
    | (refine K.A ?_; first
      | refine WpA.seq ?_
      | refine WpA.region ?_
      | (refine K.cond ?_; first
        | refine WpA.condT rfl ?_
        | refine WpA.condF rfl ?_
        | refine WpA.condD rfl (fun _ => ?_) (fun _ => ?_)
        | refine WpA.condN rfl (fun _ => ?_) (fun _ => ?_)
        | refine WpA.condS rfl (fun _ => ?_) (fun _ => ?_))
      | refine WpA.block ?_
      | refine WpA.ret ?_
      | refine WpA.exit ?_
      | refine WpA.skip ?_
      | apply WpA.regionM 1 mixed (by decide +kernel)
      | apply WpA.regionM 2 mixed (by decide +kernel)
      | apply WpA.regionM 3 mixed (by decide +kernel)
      | apply WpA.regionM 4 mixed (by decide +kernel)
      | apply WpA.regionM 5 mixed (by decide +kernel)
      | apply WpA.regionM 6 mixed (by decide +kernel)
      | apply WpA.regionM 7 mixed (by decide +kernel)
      | apply WpA.regionM 8 mixed (by decide +kernel)
      | apply WpA.regionM 9 mixed (by decide +kernel)
      | apply WpA.regionM 10 mixed (by decide +kernel)
      | apply WpA.regionM 11 mixed (by decide +kernel)
      | apply WpA.regionM 12 mixed (by decide +kernel)
      | apply WpA.regionM 13 mixed (by decide +kernel)
      | apply WpA.regionM 14 mixed (by decide +kernel)
      | apply WpA.regionM 15 mixed (by decide +kernel)
      | apply WpA.regionM 16 mixed (by decide +kernel)
      | apply WpA.regionM 17 mixed (by decide +kernel)
      | apply WpA.regionM 18 mixed (by decide +kernel)
      | apply WpA.regionM 19 mixed (by decide +kernel)
      | apply WpA.regionM 20 mixed (by decide +kernel)
      | apply WpA.regionM 21 mixed (by decide +kernel)
      | apply WpA.regionM 22 mixed (by decide +kernel)
      | apply WpA.regionM 23 mixed (by decide +kernel)
      | apply WpA.regionM 24 mixed (by decide +kernel)
      | apply WpA.regionM 25 mixed (by decide +kernel)
      | apply WpA.regionM 26 mixed (by decide +kernel)
      | apply WpA.regionM 27 mixed (by decide +kernel)
      | apply WpA.regionM 28 mixed (by decide +kernel)
      | apply WpA.regionM 29 mixed (by decide +kernel)
      | apply WpA.regionM 30 mixed (by decide +kernel)
      | apply WpA.regionM 31 mixed (by decide +kernel)
      | apply WpA.regionM 32 mixed (by decide +kernel)
      | refine WpA.regionD mixed (by decide +kernel) ?_)
    | refine Abs.Seq.ret ?_
    | refine Abs.Seq.exit ?_
    | refine Blk.n ?_
    | refine Blk.ret ?_
    | refine Blk.exitHere ?_
    | refine Blk.exitOther rfl ?_
    | refine Rnd.ret ?_
    | refine Rnd.exit ?_
    | exact Only.mk rfl
    | exact Abs.HeadJ.nil
    | apply Abs.HeadJ.cons rfl
    | (apply K.depT; simp only [deps, List.toList_toArray, List.filterMap_cons, List.filterMap_nil, Region.binds, if_true, List.nil_append, List.cons_append, List.getElem?_cons_succ, List.getElem?_cons_zero, List.getElem?_nil, reduceCtorEq, Bool.true_or, Bool.or_true]; exact rfl)
    | refine fun Tv => K.L ?_
    | (apply K.appT; simp only [List.nil_append, List.cons_append, List.append_assoc]; exact rfl)
    | (refine K.isTrue ?_; kernel_rfl)
    | exact rfl
    | contradiction
    | omega)
  all_goals refine Abs.Fin.ret (.one (.tmp rfl) .nil (by decide) (.keep ?_ rfl rfl .nil))
  all_goals rfl
end Go.Proofs.Ytlioigidpeofnaa
