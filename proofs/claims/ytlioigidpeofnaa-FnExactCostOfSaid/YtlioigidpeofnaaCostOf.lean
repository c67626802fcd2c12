/- The law FnExactCostOf by contract. No condition. -/
import Derived.Test.YtlioigidpeofnaaBase1
namespace Go.Proofs.Ytlioigidpeofnaa
open Go Go.Abs
set_option linter.unusedVariables false
set_option linter.unusedSimpArgs false
set_option maxRecDepth 100000
attribute [local irreducible] WpA WpL Rnd Blk Abs.Seq Abs.Fin FnC

theorem FnExactCostOf_c (xs : List Int) (hl : xs.length ≤ 9223372036854775807) : FnC Try.prog 5 [.imm 1 xs.length (ints xs)] [] (B true) := by
  refine FnC.of_body tabOk Try.func5 Try.ntmps5 rfl (by decide +kernel) (by simp) fun G => ?_
  repeat' (first
    | (refine K.L ?_; first
      | (refine K.mv ?_; refine WpL.move rfl (by decide) ?_)
      | (refine K.call ?_; first
        | refine WpL.call (CostOf_c _ ?_) (by repeat' (first | exact Snap.nil | refine Snap.keep rfl rfl ?_ | refine Snap.own rfl rfl rfl (by simp) rfl ?_ ?_ | refine Snap.agg ?_ ?_ | refine Snap.nilI ?_ | exact Snap.same rfl (still_ints _) (nofre_ints _) | exact Snap.same rfl (still_u8s _) (nofre_u8s _) | exact Snap.same rfl (still_strs _) (nofre_strs _) | exact Snap.same rfl (still_bools _) (nofre_bools _))) (by repeat' (first | exact Loc.nil | refine Loc.sc ?_ | refine Loc.own ?_ | refine Loc.nilS ?_ | refine Loc.agg ?_ ?_ | refine Loc.tup ?_ ?_)) (by first | exact Out.nil | exact Out.ints | exact Out.u8s | exact Out.strs | exact Out.bools) rfl (by repeat' (first | exact Sh.nil | refine Sh.keep rfl ?_ | refine Sh.own ?_ | refine Sh.agg ?_ ?_ | refine Sh.tup ?_ ?_)) (by decide) ?_
        | refine WpL.call (CostOf_s _ ?_) (by repeat' (first | exact Snap.nil | refine Snap.keep rfl rfl ?_ | refine Snap.own rfl rfl rfl (by simp) rfl ?_ ?_ | refine Snap.agg ?_ ?_ | refine Snap.nilI ?_ | exact Snap.same rfl (still_ints _) (nofre_ints _) | exact Snap.same rfl (still_u8s _) (nofre_u8s _) | exact Snap.same rfl (still_strs _) (nofre_strs _) | exact Snap.same rfl (still_bools _) (nofre_bools _))) (by repeat' (first | exact Loc.nil | refine Loc.sc ?_ | refine Loc.own ?_ | refine Loc.nilS ?_ | refine Loc.agg ?_ ?_ | refine Loc.tup ?_ ?_)) (by first | exact Out.nil | exact Out.ints | exact Out.u8s | exact Out.strs | exact Out.bools) rfl (by repeat' (first | exact Sh.nil | refine Sh.keep rfl ?_ | refine Sh.own ?_ | refine Sh.agg ?_ ?_ | refine Sh.tup ?_ ?_)) (by decide) ?_
        | refine WpL.call (toIntS_c _ ?_) (by repeat' (first | exact Snap.nil | refine Snap.keep rfl rfl ?_ | refine Snap.own rfl rfl rfl (by simp) rfl ?_ ?_ | refine Snap.agg ?_ ?_ | refine Snap.nilI ?_ | exact Snap.same rfl (still_ints _) (nofre_ints _) | exact Snap.same rfl (still_u8s _) (nofre_u8s _) | exact Snap.same rfl (still_strs _) (nofre_strs _) | exact Snap.same rfl (still_bools _) (nofre_bools _))) (by repeat' (first | exact Loc.nil | refine Loc.sc ?_ | refine Loc.own ?_ | refine Loc.nilS ?_ | refine Loc.agg ?_ ?_ | refine Loc.tup ?_ ?_)) (by first | exact Out.nil | exact Out.ints | exact Out.u8s | exact Out.strs | exact Out.bools) rfl (by repeat' (first | exact Sh.nil | refine Sh.keep rfl ?_ | refine Sh.own ?_ | refine Sh.agg ?_ ?_ | refine Sh.tup ?_ ?_)) (by decide) ?_
        | refine WpL.call (eqIntS_c _ _ ?_ ?_) (by repeat' (first | exact Snap.nil | refine Snap.keep rfl rfl ?_ | refine Snap.own rfl rfl rfl (by simp) rfl ?_ ?_ | refine Snap.agg ?_ ?_ | refine Snap.nilI ?_ | exact Snap.same rfl (still_ints _) (nofre_ints _) | exact Snap.same rfl (still_u8s _) (nofre_u8s _) | exact Snap.same rfl (still_strs _) (nofre_strs _) | exact Snap.same rfl (still_bools _) (nofre_bools _))) (by repeat' (first | exact Loc.nil | refine Loc.sc ?_ | refine Loc.own ?_ | refine Loc.nilS ?_ | refine Loc.agg ?_ ?_ | refine Loc.tup ?_ ?_)) (by first | exact Out.nil | exact Out.ints | exact Out.u8s | exact Out.strs | exact Out.bools) rfl (by repeat' (first | exact Sh.nil | refine Sh.keep rfl ?_ | refine Sh.own ?_ | refine Sh.agg ?_ ?_ | refine Sh.tup ?_ ?_)) (by decide) ?_
        )
      | (refine K.bin ?_; first
        | refine WpL.add rfl rfl (by omega) (by decide) ?_
        | refine WpL.sub rfl rfl (by omega) (by decide) ?_
        | refine WpL.mul rfl rfl (by omega) (by decide) ?_
        | refine WpL.quo rfl rfl (by omega) (by decide) ?_
        | refine WpL.rem rfl rfl (by omega) (by decide) ?_
        | refine WpL.bin rfl rfl rfl (by decide) ?_
        | refine WpL.strAdd rfl rfl (by omega) (by decide) ?_
        | refine WpL.strEq rfl rfl (by decide) ?_
        | refine WpL.strNe rfl rfl (by decide) ?_
        | refine WpL.shl rfl rfl (by decide) (by decide) ?_
        | refine WpL.shr rfl rfl (by decide) (by decide) ?_)
      | (refine K.ld ?_; first
        | refine WpL.loadInts tabOk rfl rfl rfl (by omega) (by decide) ?_
        | refine WpL.loadU8s tabOk rfl rfl rfl (by omega) (by decide) ?_
        | refine WpL.loadStrs tabOk rfl rfl rfl (by omega) (by decide) ?_
        | refine WpL.loadBools tabOk rfl rfl rfl (by omega) (by decide) ?_
        | refine WpL.load1 tabOk rfl rfl rfl rfl rfl (by decide) ?_)
      | (refine K.asg ?_; refine WpL.assign rfl (by decide) ?_)
      | (refine K.fld ?_; first
        | refine WpL.fieldI tabOk rfl rfl rfl (by decide) ?_
        | refine WpL.fieldP tabOk rfl rfl rfl rfl rfl (by decide) ?_)
      | (refine K.ixa ?_; first
        | refine WpL.idxI tabOk rfl rfl rfl (by omega) (by decide) ?_
        | refine WpL.idxO tabOk rfl rfl rfl rfl rfl (by omega) (by decide) ?_)
      | (refine K.ix ?_; refine WpL.idxStr tabOk rfl rfl rfl (by omega) (by decide) ?_)
      | (refine K.bi ?_; first
        | refine WpL.lenImm (TabOk.slice tabOk rfl).1 rfl (by decide) ?_
        | refine WpL.lenOwn (TabOk.slice tabOk rfl).1 rfl rfl rfl (by decide) ?_
        | refine WpL.lenNil (TabOk.slice tabOk rfl).1 rfl (by decide) ?_
        | refine WpL.lenStr (TabOk.ty tabOk rfl).1 rfl (by decide) ?_
        | refine WpL.appOwn tabOk rfl rfl rfl rfl rfl rfl (by simp) (Nat.zero_le _) rfl rfl (by simp) (by simp [all_ints, all_u8s, all_strs, oneB, Value.oneCell']) (by omega) (by decide) ?_
        | refine WpL.appNil tabOk rfl rfl rfl rfl (by simp) (by simp [all_ints, all_u8s, all_strs, oneB, Value.oneCell']) (by omega) rfl (by decide) ?_
        | refine WpL.min2 rfl rfl (by decide) ?_
        | refine WpL.max2 rfl rfl (by decide) ?_)
      | (refine K.un ?_; first
        | refine WpL.not rfl (by decide) ?_
        | refine WpL.neg rfl (by omega) (by decide) ?_)
      | (refine K.pick ?_; first
        | refine WpL.pickT rfl rfl (by decide) ?_
        | refine WpL.pickF rfl rfl (by decide) ?_)
      | (refine K.ext ?_; refine WpL.extract rfl rfl (by decide) (by decide) ?_)
      | (refine K.cv ?_; first
        | refine WpL.convI (P := Try.prog) (by rfl) (TabOk.ty tabOk rfl).1 rfl (by omega) (by decide) ?_
        | refine WpL.conv (P := Try.prog) (by rfl) (TabOk.ty tabOk rfl).1 rfl (by decide) ?_
        | refine WpL.toBytes tabOk rfl rfl rfl rfl (by omega) rfl (by decide) ?_
        | refine WpL.ofBytes tabOk rfl rfl rfl rfl rfl (by simp) (by decide) ?_)
      | (refine K.lit ?_; refine WpL.lit tabOk rfl rfl rfl (by repeat' (first | exact Lit.nil | refine Lit.one rfl rfl rfl ?_ | refine Lit.cons rfl rfl rfl ?_)) (by decide) rfl (by decide) ?_)
      | (refine K.ms ?_; first
        | refine WpL.makeInts tabOk rfl rfl rfl (by omega) (by omega) rfl (by decide) ?_
        | refine WpL.makeU8s tabOk rfl rfl rfl (by omega) (by omega) rfl (by decide) ?_)
      | (refine K.st ?_; refine WpL.store tabOk rfl rfl rfl rfl rfl rfl rfl rfl (by first | omega | (simp; omega) | (simp; done)) ?_)
      | (refine K.all ?_; first
        | refine WpL.allocStruct tabOk rfl rfl (by decide) ?_
        | refine WpL.allocPlain tabOk rfl rfl rfl (by decide) ?_)
      | (refine K.box ?_; refine WpL.box rfl rfl rfl (by decide) ?_)
      | (refine K.nc ?_; first
        | refine WpL.nilCheckP rfl rfl rfl (by decide) ?_
        | refine WpL.nilCheckI rfl (by decide) ?_)
      | (refine K.sl ?_; first
        | refine WpL.subStr tabOk rfl rfl (by first | exact .inl ⟨rfl, rfl⟩ | exact .inr ⟨_, _, rfl, rfl⟩) (by first | exact .inl ⟨rfl, rfl⟩ | exact .inr ⟨_, _, rfl, rfl⟩) (by omega) (by decide) ?_
        | refine WpL.subImm tabOk rfl rfl (by first | exact .inl ⟨rfl, rfl⟩ | exact .inr ⟨_, _, rfl, rfl⟩) (by first | exact .inl ⟨rfl, rfl⟩ | exact .inr ⟨_, _, rfl, rfl⟩) (by omega) (by decide) ?_)
      | (refine K.gd ?_; first
        | refine WpL.guardT rfl rfl (by decide) rfl ?_
        | refine WpL.guardF rfl rfl (by decide) rfl rfl ?_
        | refine WpL.guardD rfl rfl rfl (fun _ => ?_) (fun _ => ?_)
        | refine WpL.guardN rfl rfl rfl (fun _ => ?_) (fun _ => ?_)
        | refine WpL.guardS rfl rfl rfl (fun _ => ?_) (fun _ => ?_)))
    | refine WpL.nil ?_
    | refine Abs.Seq.n ?_
    | (refine K.A ?_; first
      | refine WpA.seq ?_
      | refine WpA.region ?_
      | (refine K.cond ?_; first
        | refine WpA.condT rfl ?_
        | refine WpA.condF rfl ?_
        | refine WpA.condD rfl (fun _ => ?_) (fun _ => ?_)
        | refine WpA.condN rfl (fun _ => ?_) (fun _ => ?_)
        | refine WpA.condS rfl (fun _ => ?_) (fun _ => ?_))
      | refine WpA.block ?_
      | refine WpA.ret ?_
      | refine WpA.exit ?_
      | refine WpA.skip ?_
      | refine WpA.regionD mixed (by decide +kernel) ?_)
    | refine Abs.Seq.ret ?_
    | refine Abs.Seq.exit ?_
    | refine Blk.n ?_
    | refine Blk.ret ?_
    | refine Blk.exitHere ?_
    | refine Blk.exitOther rfl ?_
    | refine Rnd.ret ?_
    | refine Rnd.exit ?_
    | contradiction
    | omega)
  · refine Abs.Fin.ret (.one (.tmp rfl) .nil (by decide) (.keep ?_ rfl rfl .nil))
    rfl
  all_goals refine Abs.Fin.ret (.one (.tmp rfl) .nil (by decide) (.keep ?_ rfl rfl .nil))
  all_goals rfl
end Go.Proofs.Ytlioigidpeofnaa
