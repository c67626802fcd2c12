/- The law FnExactPackReel by contract. No condition. -/
import Derived.Test.YtlioigidpeofnaaPack
namespace Go.Proofs.Ytlioigidpeofnaa
open Go Go.Abs
set_option linter.unusedVariables false
set_option linter.unusedSimpArgs false
set_option maxRecDepth 100000
attribute [local irreducible] WpA WpL Rnd Blk Abs.Seq Abs.Fin FnC Only

def packed (xs : List (List UInt8)) : List UInt8 := xs.flatMap fun x => vars x.length ++ x
def packs (xs : List (List UInt8)) : List UInt8 := if xs.length ≤ 8 then packed xs else []
theorem vars_len (n : Int) : (vars n).length ≤ 7 := by
  unfold vars
  split
  · have := vb_len7 n.toNat (by omega); simpa using this
  · simp
theorem packed_snoc (xs : List (List UInt8)) (k : Nat) (h : k < xs.length) : packed (xs.take (k + 1)) = packed (xs.take k) ++ (vars (xs.getD k []).length ++ xs.getD k []) := by
  unfold packed; rw [List.take_succ_eq_append_getElem h, List.flatMap_append]; simp [List.getElem?_eq_getElem h]
theorem packed_len (xs : List (List UInt8)) : ∀ k, k ≤ xs.length → (packed (xs.take k)).length ≤ 7 * k + tot (xs.take k) := by
  intro k
  induction k with
  | zero => intro _; simp [packed]
  | succ k ih =>
    intro h
    have h1 := ih (by omega)
    have h2 := vars_len (xs.getD k []).length
    have h3 := tot_snoc xs k (by omega)
    rw [packed_snoc _ _ (by omega)]
    simp only [List.length_append]
    omega

theorem PackReel_c (xs : List (List UInt8)) (hl : xs.length ≤ 1048576) (ht : tot xs ≤ 1048576) : FnC Try.prog 20 [.imm 1 xs.length (strs xs)] [] (Z (packs xs)) := by
  refine FnC.of_body tabOk Try.func20 Try.ntmps20 rfl (by decide +kernel) (by simp) fun G => ?_
  repeat' (first
    | (refine K.L ?_; first
      | (refine K.mv ?_; refine WpL.move rfl (by decide) ?_)
      | (refine K.call ?_; first
        | fail
        )
      | (refine K.bin ?_; first
        | refine WpL.add rfl rfl (by omega) (by decide) ?_
        | refine WpL.sub rfl rfl (by omega) (by decide) ?_
        | refine WpL.mul rfl rfl (by omega) (by decide) ?_
        | refine WpL.quo rfl rfl (by omega) (by decide) ?_
        | refine WpL.rem rfl rfl (by omega) (by decide) ?_
        | refine WpL.bin rfl rfl rfl (by decide) ?_
        | refine WpL.strAdd rfl rfl (by first | omega | (simp only [List.length_append]; omega)) (by decide) ?_
        | refine WpL.strEq rfl rfl (by decide) ?_
        | refine WpL.strNe rfl rfl (by decide) ?_
        | refine WpL.boolEq (K.tyBool tabOk rfl) rfl rfl (by decide) ?_
        | refine WpL.boolNe (K.tyBool tabOk rfl) rfl rfl (by decide) ?_
        | refine WpL.shl rfl rfl (by first | decide | (simp only [IntKind.bits]; omega)) (by decide) ?_
        | refine WpL.shr rfl rfl (by first | decide | (simp only [IntKind.bits]; omega)) (by decide) ?_)
      | (refine K.ld ?_; first
        | refine WpL.loadInts tabOk rfl rfl rfl (by first | omega | (simp; omega)) (by decide) ?_
        | refine WpL.loadU8s tabOk rfl rfl rfl (by first | omega | (simp; omega)) (by decide) ?_
        | refine WpL.loadStrs tabOk rfl rfl rfl (by first | omega | (simp; omega)) (by decide) ?_
        | refine WpL.loadBools tabOk rfl rfl rfl (by first | omega | (simp; omega)) (by decide) ?_
        | refine WpL.load1 tabOk rfl rfl rfl rfl rfl (by decide) ?_)
      | (refine K.asg ?_; refine WpL.assign rfl (by decide) ?_)
      | (refine K.fld ?_; first
        | refine WpL.fieldI tabOk rfl rfl rfl (by decide) ?_
        | refine WpL.fieldP tabOk rfl rfl rfl rfl rfl (by decide) ?_)
      | (refine K.ixa ?_; first
        | refine WpL.idxI tabOk rfl rfl rfl (by omega) (by decide) ?_
        | refine WpL.idxO tabOk rfl rfl rfl rfl rfl (by omega) (by decide) ?_)
      | (refine K.ix ?_; refine WpL.idxStr tabOk rfl rfl rfl (by omega) (by decide) ?_)
      | (refine K.bi ?_; first
        | refine WpL.lenImm (TabOk.slice tabOk rfl).1 rfl (by decide) ?_
        | refine WpL.lenOwn (TabOk.slice tabOk rfl).1 rfl rfl rfl (by decide) ?_
        | refine WpL.lenNil (TabOk.slice tabOk rfl).1 rfl (by decide) ?_
        | refine WpL.lenStr (K.tyStr tabOk rfl) rfl (by decide) ?_
        | refine WpL.app1Ints tabOk rfl rfl rfl (Nat.zero_le _) rfl rfl (by first | rfl | omega | (simp; done) | (simp; omega)) (by omega) (by decide) ?_
        | refine WpL.appInts tabOk rfl rfl rfl (Nat.zero_le _) rfl rfl (by first | rfl | omega | (simp; done) | (simp; omega)) (by first | rfl | omega | (simp; done) | (simp; omega)) (by omega) (by decide) ?_
        | refine WpL.nil1Ints tabOk rfl rfl rfl rfl (by omega) rfl (by decide) ?_
        | refine WpL.app1U8s tabOk rfl rfl rfl (Nat.zero_le _) rfl rfl (by first | rfl | omega | (simp; done) | (simp; omega)) (by omega) (by decide) ?_
        | refine WpL.appU8s tabOk rfl rfl rfl (Nat.zero_le _) rfl rfl (by first | rfl | omega | (simp; done) | (simp; omega)) (by first | rfl | omega | (simp; done) | (simp; omega)) (by omega) (by decide) ?_
        | refine WpL.nil1U8s tabOk rfl rfl rfl rfl (by omega) rfl (by decide) ?_
        | refine WpL.app1Strs tabOk rfl rfl rfl (Nat.zero_le _) rfl rfl (by first | rfl | omega | (simp; done) | (simp; omega)) (by omega) (by decide) ?_
        | refine WpL.appStrs tabOk rfl rfl rfl (Nat.zero_le _) rfl rfl (by first | rfl | omega | (simp; done) | (simp; omega)) (by first | rfl | omega | (simp; done) | (simp; omega)) (by omega) (by decide) ?_
        | refine WpL.nil1Strs tabOk rfl rfl rfl rfl (by omega) rfl (by decide) ?_
        | refine WpL.appOwn tabOk rfl rfl rfl rfl rfl rfl (by simp) (Nat.zero_le _) rfl rfl (by simp) (by simp [all_ints, all_u8s, all_strs, oneB, Value.oneCell']) (by omega) (by decide) ?_
        | refine WpL.appNil tabOk rfl rfl rfl rfl (by simp) (by simp [all_ints, all_u8s, all_strs, oneB, Value.oneCell']) (by omega) rfl (by decide) ?_
        | refine WpL.min2 rfl rfl (by decide) ?_
        | refine WpL.max2 rfl rfl (by decide) ?_)
      | (refine K.un ?_; first
        | refine WpL.not rfl (by decide) ?_
        | refine WpL.neg rfl (by omega) (by decide) ?_)
      | (refine K.pick ?_; first
        | refine WpL.pickT rfl rfl (by decide) ?_
        | refine WpL.pickF rfl rfl (by decide) ?_)
      | (refine K.ext ?_; refine WpL.extract rfl rfl (by first | decide | simp [AV.shL]) (by decide) ?_)
      | (refine K.cv ?_; first
        | refine WpL.convI (P := Try.prog) (by rfl) (K.tyInt tabOk rfl) rfl (by omega) (by decide) ?_
        | refine WpL.conv (P := Try.prog) (by rfl) (K.tyInt tabOk rfl) rfl (by decide) ?_
        | refine WpL.toBytes tabOk rfl rfl rfl rfl (by omega) rfl (by decide) ?_
        | refine WpL.ofBytes tabOk rfl rfl rfl rfl rfl (by simp) (by decide) ?_)
      | (refine K.lit ?_; first
        | refine WpL.lit0U8s tabOk rfl rfl rfl (by decide) ?_
        | refine WpL.lit0Ints tabOk rfl rfl rfl (by decide) ?_
        | refine WpL.lit0Bools tabOk rfl rfl rfl (by decide) ?_
        | refine WpL.lit0Strs tabOk rfl rfl rfl (by decide) ?_
        | refine WpL.litF tabOk rfl rfl rfl rfl (by decide) rfl (by decide) ?_)
      | (refine K.ms ?_; first
        | refine WpL.makeInts tabOk rfl rfl rfl (by omega) (by omega) rfl (by decide) ?_
        | refine WpL.makeStrs tabOk rfl rfl rfl (by omega) (by omega) rfl (by decide) ?_
        | refine WpL.makeBools tabOk rfl rfl rfl (by omega) (by omega) rfl (by decide) ?_
        | refine WpL.makeU8s tabOk rfl rfl rfl (by omega) (by omega) rfl (by decide) ?_)
      | (refine K.st ?_; first
        | refine WpL.storeInts tabOk rfl rfl rfl rfl rfl (by first | omega | (simp; omega)) ?_
        | refine WpL.storeU8s tabOk rfl rfl rfl rfl rfl (by first | omega | (simp; omega)) ?_
        | refine WpL.storeBools tabOk rfl rfl rfl rfl rfl (by first | omega | (simp; omega)) ?_
        | refine WpL.storeStrs tabOk rfl rfl rfl rfl rfl (by first | omega | (simp; omega)) ?_
        | refine WpL.store tabOk rfl rfl rfl rfl rfl rfl rfl rfl (by first | omega | (simp; omega) | (simp; done)) ?_)
      | (refine K.all ?_; first
        | refine WpL.allocStruct tabOk rfl rfl (by decide) ?_
        | refine WpL.allocPlain tabOk rfl rfl rfl (by decide) ?_)
      | (refine K.box ?_; refine WpL.box rfl rfl rfl (by decide) ?_)
      | (refine K.nc ?_; first
        | refine WpL.nilCheckP rfl rfl rfl (by decide) ?_
        | refine WpL.nilCheckI rfl (by decide) ?_)
      | (refine K.sl ?_; first
        | refine WpL.subStr tabOk rfl rfl (by first | exact .inl ⟨rfl, rfl⟩ | exact .inr ⟨_, _, rfl, rfl⟩) (by first | exact .inl ⟨rfl, rfl⟩ | exact .inr ⟨_, _, rfl, rfl⟩) (by omega) (by decide) ?_
        | refine WpL.subImm tabOk rfl rfl (by first | exact .inl ⟨rfl, rfl⟩ | exact .inr ⟨_, _, rfl, rfl⟩) (by first | exact .inl ⟨rfl, rfl⟩ | exact .inr ⟨_, _, rfl, rfl⟩) (by omega) (by decide) ?_)
      | (refine K.gd ?_; first
        | refine K.gT rfl (by decide) rfl ?_
        | refine K.gF rfl (by decide) rfl ?_
        | refine K.gD rfl rfl (fun _ => ?_) (fun _ => ?_)
        | refine K.gN rfl rfl (fun _ => ?_) (fun _ => ?_)
        | refine K.gS rfl rfl (fun _ => ?_) (fun _ => ?_)))
    | refine WpL.nil ?_
    | refine Abs.Seq.n ?_
    | (refine K.A ?_; first
      | refine WpA.seq ?_
      | refine WpA.region ?_
      | (refine K.cond ?_; first
        | refine WpA.condT rfl ?_
        | refine WpA.condF rfl ?_
        | refine WpA.condD rfl (fun _ => ?_) (fun _ => ?_)
        | refine WpA.condN rfl (fun _ => ?_) (fun _ => ?_)
        | refine WpA.condS rfl (fun _ => ?_) (fun _ => ?_))
      | refine WpA.block ?_
      | refine WpA.ret ?_
      | refine WpA.exit ?_
      | refine WpA.skip ?_
      | apply WpA.regionM 1 mixed (by decide +kernel)
      | apply WpA.regionM 2 mixed (by decide +kernel)
      | apply WpA.regionM 3 mixed (by decide +kernel)
      | apply WpA.regionM 4 mixed (by decide +kernel)
      | apply WpA.regionM 5 mixed (by decide +kernel)
      | apply WpA.regionM 6 mixed (by decide +kernel)
      | apply WpA.regionM 7 mixed (by decide +kernel)
      | apply WpA.regionM 8 mixed (by decide +kernel)
      | apply WpA.regionM 9 mixed (by decide +kernel)
      | apply WpA.regionM 10 mixed (by decide +kernel)
      | apply WpA.regionM 11 mixed (by decide +kernel)
      | apply WpA.regionM 12 mixed (by decide +kernel)
      | apply WpA.regionM 13 mixed (by decide +kernel)
      | apply WpA.regionM 14 mixed (by decide +kernel)
      | apply WpA.regionM 15 mixed (by decide +kernel)
      | apply WpA.regionM 16 mixed (by decide +kernel)
      | apply WpA.regionM 17 mixed (by decide +kernel)
      | apply WpA.regionM 18 mixed (by decide +kernel)
      | apply WpA.regionM 19 mixed (by decide +kernel)
      | apply WpA.regionM 20 mixed (by decide +kernel)
      | apply WpA.regionM 21 mixed (by decide +kernel)
      | apply WpA.regionM 22 mixed (by decide +kernel)
      | apply WpA.regionM 23 mixed (by decide +kernel)
      | apply WpA.regionM 24 mixed (by decide +kernel)
      | apply WpA.regionM 25 mixed (by decide +kernel)
      | apply WpA.regionM 26 mixed (by decide +kernel)
      | apply WpA.regionM 27 mixed (by decide +kernel)
      | apply WpA.regionM 28 mixed (by decide +kernel)
      | apply WpA.regionM 29 mixed (by decide +kernel)
      | apply WpA.regionM 30 mixed (by decide +kernel)
      | apply WpA.regionM 31 mixed (by decide +kernel)
      | apply WpA.regionM 32 mixed (by decide +kernel)
      | refine WpA.regionD mixed (by decide +kernel) ?_)
    | refine Abs.Seq.ret ?_
    | refine Abs.Seq.exit ?_
    | refine Blk.n ?_
    | refine Blk.ret ?_
    | refine Blk.exitHere ?_
    | refine Blk.exitOther rfl ?_
    | refine Rnd.ret ?_
    | refine Rnd.exit ?_
    | exact Only.mk rfl
    | exact Abs.HeadJ.nil
    | apply Abs.HeadJ.cons rfl
    | (apply K.depT; simp only [deps, List.toList_toArray, List.filterMap_cons, List.filterMap_nil, Region.binds, if_true, List.nil_append, List.cons_append, List.getElem?_cons_succ, List.getElem?_cons_zero, List.getElem?_nil, reduceCtorEq, Bool.true_or, Bool.or_true]; exact rfl)
    | refine fun Tv => K.L ?_
    | (apply K.appT; simp only [List.nil_append, List.cons_append, List.append_assoc]; exact rfl)
    | (refine K.isTrue ?_; kernel_rfl)
    | exact rfl
    | contradiction
    | omega)
  · refine Abs.Fin.ret (.one (.tmp rfl) .nil (by decide) (.keep ?_ rfl rfl .nil))
    rw [packs, if_neg (by omega)]
  refine WpA.loop (fun k : Nat => ⟨[(3, Z (packed (xs.take k))), (9, .imm 1 xs.length (strs xs)), (10, I xs.length), (11, I k)], []⟩) (fun k => k ≤ xs.length) (fun k => xs.length - k) 0 (by omega) ?_ (fun k hk => ?_)
  · exact Weak.mk (by repeat (first | exact ReT.nil | refine ReT.cons (.keep rfl rfl .nil) ?_ | refine ReT.cons (.own rfl rfl rfl rfl rfl rfl .nil) ?_ | refine ReT.cons (.ptr rfl rfl rfl rfl .nil) ?_ | refine ReT.cons (.keep (congrArg (fun z => AV.sc (Value.int .i64 z)) (by first | omega | (simp))) rfl .nil) ?_ | refine ReT.cons (.keep (congrArg (fun z : List UInt8 => AV.sc (Value.string ⟨z.toArray⟩)) (by simp)) rfl .nil) ?_ | refine ReT.cons (.own rfl rfl rfl rfl rfl (by first | omega | (simp; done) | (simp; omega)) .nil) ?_)) (by repeat (first | exact ReO.nil | refine ReO.cons (Re.same rfl (still_ints _)) (by simp) ?_ | refine ReO.cons (Re.same rfl rfl) (by simp) ?_ | refine ReO.cons (Re.same (by simp) (still_ints _)) (by simp) ?_ | refine ReO.cons (Re.same (by simp) (still_u8s _)) (by simp) ?_ | refine ReO.cons (Re.same (by simp) (still_strs _)) (by simp) ?_)) (Nat.zero_le _)
  have h1 := packed_len xs k hk
  have h2 := vars_len (xs.getD k []).length
  have h3 := tot_take xs k
  have h4 := tot_get xs k
  have h5 : (xs.getD (((k : Int).toNat) * 1) []).length = (xs.getD k []).length := by simp
  have h6 : vars (xs.getD (((k : Int).toNat) * 1) []).length = vars (xs.getD k []).length := by simp
  have h7 : (vars (xs.getD (((k : Int).toNat) * 1) []).length).length ≤ 7 := by rw [h6]; exact h2
  repeat' (first
    | (refine K.L ?_; first
      | (refine K.mv ?_; refine WpL.move rfl (by decide) ?_)
      | (refine K.call ?_; first
        | refine WpL.call (Var_c _) (by repeat' (first | exact Snap.nil | refine Snap.keep rfl rfl ?_ | refine Snap.own rfl rfl rfl (by simp) rfl ?_ ?_ | refine Snap.agg ?_ ?_ | refine Snap.nilI ?_ | exact Snap.same rfl (still_ints _) (nofre_ints _) | exact Snap.same rfl (still_u8s _) (nofre_u8s _) | exact Snap.same rfl (still_strs _) (nofre_strs _) | exact Snap.same rfl (still_bools _) (nofre_bools _))) (by repeat' (first | exact Loc.nil | refine Loc.sc ?_ | refine Loc.own ?_ | refine Loc.nilS ?_ | refine Loc.agg ?_ ?_ | refine Loc.tup ?_ ?_)) (by first | exact Out.nil | exact Out.ints | exact Out.u8s | exact Out.strs | exact Out.bools) rfl rfl rfl (by decide) ?_
        )
      | (refine K.bin ?_; first
        | refine WpL.add rfl rfl (by omega) (by decide) ?_
        | refine WpL.sub rfl rfl (by omega) (by decide) ?_
        | refine WpL.mul rfl rfl (by omega) (by decide) ?_
        | refine WpL.quo rfl rfl (by omega) (by decide) ?_
        | refine WpL.rem rfl rfl (by omega) (by decide) ?_
        | refine WpL.bin rfl rfl rfl (by decide) ?_
        | refine WpL.strAdd rfl rfl (by first | omega | (simp only [List.length_append]; omega)) (by decide) ?_
        | refine WpL.strEq rfl rfl (by decide) ?_
        | refine WpL.strNe rfl rfl (by decide) ?_
        | refine WpL.boolEq (K.tyBool tabOk rfl) rfl rfl (by decide) ?_
        | refine WpL.boolNe (K.tyBool tabOk rfl) rfl rfl (by decide) ?_
        | refine WpL.shl rfl rfl (by first | decide | (simp only [IntKind.bits]; omega)) (by decide) ?_
        | refine WpL.shr rfl rfl (by first | decide | (simp only [IntKind.bits]; omega)) (by decide) ?_)
      | (refine K.ld ?_; first
        | refine WpL.loadInts tabOk rfl rfl rfl (by first | omega | (simp; omega)) (by decide) ?_
        | refine WpL.loadU8s tabOk rfl rfl rfl (by first | omega | (simp; omega)) (by decide) ?_
        | refine WpL.loadStrs tabOk rfl rfl rfl (by first | omega | (simp; omega)) (by decide) ?_
        | refine WpL.loadBools tabOk rfl rfl rfl (by first | omega | (simp; omega)) (by decide) ?_
        | refine WpL.load1 tabOk rfl rfl rfl rfl rfl (by decide) ?_)
      | (refine K.asg ?_; refine WpL.assign rfl (by decide) ?_)
      | (refine K.fld ?_; first
        | refine WpL.fieldI tabOk rfl rfl rfl (by decide) ?_
        | refine WpL.fieldP tabOk rfl rfl rfl rfl rfl (by decide) ?_)
      | (refine K.ixa ?_; first
        | refine WpL.idxI tabOk rfl rfl rfl (by omega) (by decide) ?_
        | refine WpL.idxO tabOk rfl rfl rfl rfl rfl (by omega) (by decide) ?_)
      | (refine K.ix ?_; refine WpL.idxStr tabOk rfl rfl rfl (by omega) (by decide) ?_)
      | (refine K.bi ?_; first
        | refine WpL.lenImm (TabOk.slice tabOk rfl).1 rfl (by decide) ?_
        | refine WpL.lenOwn (TabOk.slice tabOk rfl).1 rfl rfl rfl (by decide) ?_
        | refine WpL.lenNil (TabOk.slice tabOk rfl).1 rfl (by decide) ?_
        | refine WpL.lenStr (K.tyStr tabOk rfl) rfl (by decide) ?_
        | refine WpL.app1Ints tabOk rfl rfl rfl (Nat.zero_le _) rfl rfl (by first | rfl | omega | (simp; done) | (simp; omega)) (by omega) (by decide) ?_
        | refine WpL.appInts tabOk rfl rfl rfl (Nat.zero_le _) rfl rfl (by first | rfl | omega | (simp; done) | (simp; omega)) (by first | rfl | omega | (simp; done) | (simp; omega)) (by omega) (by decide) ?_
        | refine WpL.nil1Ints tabOk rfl rfl rfl rfl (by omega) rfl (by decide) ?_
        | refine WpL.app1U8s tabOk rfl rfl rfl (Nat.zero_le _) rfl rfl (by first | rfl | omega | (simp; done) | (simp; omega)) (by omega) (by decide) ?_
        | refine WpL.appU8s tabOk rfl rfl rfl (Nat.zero_le _) rfl rfl (by first | rfl | omega | (simp; done) | (simp; omega)) (by first | rfl | omega | (simp; done) | (simp; omega)) (by omega) (by decide) ?_
        | refine WpL.nil1U8s tabOk rfl rfl rfl rfl (by omega) rfl (by decide) ?_
        | refine WpL.app1Strs tabOk rfl rfl rfl (Nat.zero_le _) rfl rfl (by first | rfl | omega | (simp; done) | (simp; omega)) (by omega) (by decide) ?_
        | refine WpL.appStrs tabOk rfl rfl rfl (Nat.zero_le _) rfl rfl (by first | rfl | omega | (simp; done) | (simp; omega)) (by first | rfl | omega | (simp; done) | (simp; omega)) (by omega) (by decide) ?_
        | refine WpL.nil1Strs tabOk rfl rfl rfl rfl (by omega) rfl (by decide) ?_
        | refine WpL.appOwn tabOk rfl rfl rfl rfl rfl rfl (by simp) (Nat.zero_le _) rfl rfl (by simp) (by simp [all_ints, all_u8s, all_strs, oneB, Value.oneCell']) (by omega) (by decide) ?_
        | refine WpL.appNil tabOk rfl rfl rfl rfl (by simp) (by simp [all_ints, all_u8s, all_strs, oneB, Value.oneCell']) (by omega) rfl (by decide) ?_
        | refine WpL.min2 rfl rfl (by decide) ?_
        | refine WpL.max2 rfl rfl (by decide) ?_)
      | (refine K.un ?_; first
        | refine WpL.not rfl (by decide) ?_
        | refine WpL.neg rfl (by omega) (by decide) ?_)
      | (refine K.pick ?_; first
        | refine WpL.pickT rfl rfl (by decide) ?_
        | refine WpL.pickF rfl rfl (by decide) ?_)
      | (refine K.ext ?_; refine WpL.extract rfl rfl (by first | decide | simp [AV.shL]) (by decide) ?_)
      | (refine K.cv ?_; first
        | refine WpL.convI (P := Try.prog) (by rfl) (K.tyInt tabOk rfl) rfl (by omega) (by decide) ?_
        | refine WpL.conv (P := Try.prog) (by rfl) (K.tyInt tabOk rfl) rfl (by decide) ?_
        | refine WpL.toBytes tabOk rfl rfl rfl rfl (by omega) rfl (by decide) ?_
        | refine WpL.ofBytes tabOk rfl rfl rfl rfl rfl (by simp) (by decide) ?_)
      | (refine K.lit ?_; first
        | refine WpL.lit0U8s tabOk rfl rfl rfl (by decide) ?_
        | refine WpL.lit0Ints tabOk rfl rfl rfl (by decide) ?_
        | refine WpL.lit0Bools tabOk rfl rfl rfl (by decide) ?_
        | refine WpL.lit0Strs tabOk rfl rfl rfl (by decide) ?_
        | refine WpL.litF tabOk rfl rfl rfl rfl (by decide) rfl (by decide) ?_)
      | (refine K.ms ?_; first
        | refine WpL.makeInts tabOk rfl rfl rfl (by omega) (by omega) rfl (by decide) ?_
        | refine WpL.makeStrs tabOk rfl rfl rfl (by omega) (by omega) rfl (by decide) ?_
        | refine WpL.makeBools tabOk rfl rfl rfl (by omega) (by omega) rfl (by decide) ?_
        | refine WpL.makeU8s tabOk rfl rfl rfl (by omega) (by omega) rfl (by decide) ?_)
      | (refine K.st ?_; first
        | refine WpL.storeInts tabOk rfl rfl rfl rfl rfl (by first | omega | (simp; omega)) ?_
        | refine WpL.storeU8s tabOk rfl rfl rfl rfl rfl (by first | omega | (simp; omega)) ?_
        | refine WpL.storeBools tabOk rfl rfl rfl rfl rfl (by first | omega | (simp; omega)) ?_
        | refine WpL.storeStrs tabOk rfl rfl rfl rfl rfl (by first | omega | (simp; omega)) ?_
        | refine WpL.store tabOk rfl rfl rfl rfl rfl rfl rfl rfl (by first | omega | (simp; omega) | (simp; done)) ?_)
      | (refine K.all ?_; first
        | refine WpL.allocStruct tabOk rfl rfl (by decide) ?_
        | refine WpL.allocPlain tabOk rfl rfl rfl (by decide) ?_)
      | (refine K.box ?_; refine WpL.box rfl rfl rfl (by decide) ?_)
      | (refine K.nc ?_; first
        | refine WpL.nilCheckP rfl rfl rfl (by decide) ?_
        | refine WpL.nilCheckI rfl (by decide) ?_)
      | (refine K.sl ?_; first
        | refine WpL.subStr tabOk rfl rfl (by first | exact .inl ⟨rfl, rfl⟩ | exact .inr ⟨_, _, rfl, rfl⟩) (by first | exact .inl ⟨rfl, rfl⟩ | exact .inr ⟨_, _, rfl, rfl⟩) (by omega) (by decide) ?_
        | refine WpL.subImm tabOk rfl rfl (by first | exact .inl ⟨rfl, rfl⟩ | exact .inr ⟨_, _, rfl, rfl⟩) (by first | exact .inl ⟨rfl, rfl⟩ | exact .inr ⟨_, _, rfl, rfl⟩) (by omega) (by decide) ?_)
      | (refine K.gd ?_; first
        | refine K.gT rfl (by decide) rfl ?_
        | refine K.gF rfl (by decide) rfl ?_
        | refine K.gD rfl rfl (fun _ => ?_) (fun _ => ?_)
        | refine K.gN rfl rfl (fun _ => ?_) (fun _ => ?_)
        | refine K.gS rfl rfl (fun _ => ?_) (fun _ => ?_)))
    | refine WpL.nil ?_
    | refine Abs.Seq.n ?_
    | (refine K.A ?_; first
      | refine WpA.seq ?_
      | refine WpA.region ?_
      | (refine K.cond ?_; first
        | refine WpA.condT rfl ?_
        | refine WpA.condF rfl ?_
        | refine WpA.condD rfl (fun _ => ?_) (fun _ => ?_)
        | refine WpA.condN rfl (fun _ => ?_) (fun _ => ?_)
        | refine WpA.condS rfl (fun _ => ?_) (fun _ => ?_))
      | refine WpA.block ?_
      | refine WpA.ret ?_
      | refine WpA.exit ?_
      | refine WpA.skip ?_
      | apply WpA.regionM 1 mixed (by decide +kernel)
      | apply WpA.regionM 2 mixed (by decide +kernel)
      | apply WpA.regionM 3 mixed (by decide +kernel)
      | apply WpA.regionM 4 mixed (by decide +kernel)
      | apply WpA.regionM 5 mixed (by decide +kernel)
      | apply WpA.regionM 6 mixed (by decide +kernel)
      | apply WpA.regionM 7 mixed (by decide +kernel)
      | apply WpA.regionM 8 mixed (by decide +kernel)
      | apply WpA.regionM 9 mixed (by decide +kernel)
      | apply WpA.regionM 10 mixed (by decide +kernel)
      | apply WpA.regionM 11 mixed (by decide +kernel)
      | apply WpA.regionM 12 mixed (by decide +kernel)
      | apply WpA.regionM 13 mixed (by decide +kernel)
      | apply WpA.regionM 14 mixed (by decide +kernel)
      | apply WpA.regionM 15 mixed (by decide +kernel)
      | apply WpA.regionM 16 mixed (by decide +kernel)
      | apply WpA.regionM 17 mixed (by decide +kernel)
      | apply WpA.regionM 18 mixed (by decide +kernel)
      | apply WpA.regionM 19 mixed (by decide +kernel)
      | apply WpA.regionM 20 mixed (by decide +kernel)
      | apply WpA.regionM 21 mixed (by decide +kernel)
      | apply WpA.regionM 22 mixed (by decide +kernel)
      | apply WpA.regionM 23 mixed (by decide +kernel)
      | apply WpA.regionM 24 mixed (by decide +kernel)
      | apply WpA.regionM 25 mixed (by decide +kernel)
      | apply WpA.regionM 26 mixed (by decide +kernel)
      | apply WpA.regionM 27 mixed (by decide +kernel)
      | apply WpA.regionM 28 mixed (by decide +kernel)
      | apply WpA.regionM 29 mixed (by decide +kernel)
      | apply WpA.regionM 30 mixed (by decide +kernel)
      | apply WpA.regionM 31 mixed (by decide +kernel)
      | apply WpA.regionM 32 mixed (by decide +kernel)
      | refine WpA.regionD mixed (by decide +kernel) ?_)
    | refine Abs.Seq.ret ?_
    | refine Abs.Seq.exit ?_
    | refine Blk.n ?_
    | refine Blk.ret ?_
    | refine Blk.exitHere ?_
    | refine Blk.exitOther rfl ?_
    | refine Rnd.ret ?_
    | refine Rnd.exit ?_
    | exact Only.mk rfl
    | exact Abs.HeadJ.nil
    | apply Abs.HeadJ.cons rfl
    | (apply K.depT; simp only [deps, List.toList_toArray, List.filterMap_cons, List.filterMap_nil, Region.binds, if_true, List.nil_append, List.cons_append, List.getElem?_cons_succ, List.getElem?_cons_zero, List.getElem?_nil, reduceCtorEq, Bool.true_or, Bool.or_true]; exact rfl)
    | refine fun Tv => K.L ?_
    | (apply K.appT; simp only [List.nil_append, List.cons_append, List.append_assoc]; exact rfl)
    | (refine K.isTrue ?_; kernel_rfl)
    | exact rfl
    | contradiction
    | omega)
  · refine Rnd.go (k + 1) ?_ ?_ ?_
    · (try dsimp only); omega
    · (try dsimp only); omega
    exact Weak.mk (by repeat (first | exact ReT.nil | refine ReT.cons (.keep rfl rfl .nil) ?_ | refine ReT.cons (.own rfl rfl rfl rfl rfl rfl .nil) ?_ | refine ReT.cons (.ptr rfl rfl rfl rfl .nil) ?_ | refine ReT.cons (.keep (congrArg (fun z => AV.sc (Value.int .i64 z)) (by first | omega | (rw [packed_snoc _ _ (by omega)]; simp))) rfl .nil) ?_ | refine ReT.cons (.keep (congrArg (fun z : List UInt8 => AV.sc (Value.string ⟨z.toArray⟩)) (by rw [packed_snoc _ _ (by omega)]; simp)) rfl .nil) ?_ | refine ReT.cons (.own rfl rfl rfl rfl rfl (by first | omega | (simp; done) | (simp; omega)) .nil) ?_)) (by repeat (first | exact ReO.nil | refine ReO.cons (Re.same rfl (still_ints _)) (by simp) ?_ | refine ReO.cons (Re.same rfl rfl) (by simp) ?_ | refine ReO.cons (Re.same (by rw [packed_snoc _ _ (by omega)]; simp) (still_ints _)) (by simp) ?_ | refine ReO.cons (Re.same (by rw [packed_snoc _ _ (by omega)]; simp) (still_u8s _)) (by simp) ?_ | refine ReO.cons (Re.same (by rw [packed_snoc _ _ (by omega)]; simp) (still_strs _)) (by simp) ?_)) (Nat.zero_le _)
  · refine Abs.Fin.ret (.one (.tmp rfl) .nil (by decide) (.keep ?_ rfl rfl .nil))
    have : k = xs.length := by omega
    subst this
    rw [packs, if_pos (by omega), List.take_length]

theorem PackReel_s (xs : List (List UInt8)) (hl : xs.length ≤ 1048576) (ht : tot xs ≤ 1048576) : FnC Try.prog 18 [.imm 1 xs.length (strs xs)] [] (Z (packs xs)) := by
  refine FnC.of_body tabOk Try.func18 Try.ntmps18 rfl (by decide +kernel) (by simp) fun G => ?_
  repeat' (first
    | (refine K.L ?_; first
      | (refine K.mv ?_; refine WpL.move rfl (by decide) ?_)
      | (refine K.call ?_; first
        | fail
        )
      | (refine K.bin ?_; first
        | refine WpL.add rfl rfl (by omega) (by decide) ?_
        | refine WpL.sub rfl rfl (by omega) (by decide) ?_
        | refine WpL.mul rfl rfl (by omega) (by decide) ?_
        | refine WpL.quo rfl rfl (by omega) (by decide) ?_
        | refine WpL.rem rfl rfl (by omega) (by decide) ?_
        | refine WpL.bin rfl rfl rfl (by decide) ?_
        | refine WpL.strAdd rfl rfl (by first | omega | (simp only [List.length_append]; omega)) (by decide) ?_
        | refine WpL.strEq rfl rfl (by decide) ?_
        | refine WpL.strNe rfl rfl (by decide) ?_
        | refine WpL.boolEq (K.tyBool tabOk rfl) rfl rfl (by decide) ?_
        | refine WpL.boolNe (K.tyBool tabOk rfl) rfl rfl (by decide) ?_
        | refine WpL.shl rfl rfl (by first | decide | (simp only [IntKind.bits]; omega)) (by decide) ?_
        | refine WpL.shr rfl rfl (by first | decide | (simp only [IntKind.bits]; omega)) (by decide) ?_)
      | (refine K.ld ?_; first
        | refine WpL.loadInts tabOk rfl rfl rfl (by first | omega | (simp; omega)) (by decide) ?_
        | refine WpL.loadU8s tabOk rfl rfl rfl (by first | omega | (simp; omega)) (by decide) ?_
        | refine WpL.loadStrs tabOk rfl rfl rfl (by first | omega | (simp; omega)) (by decide) ?_
        | refine WpL.loadBools tabOk rfl rfl rfl (by first | omega | (simp; omega)) (by decide) ?_
        | refine WpL.load1 tabOk rfl rfl rfl rfl rfl (by decide) ?_)
      | (refine K.asg ?_; refine WpL.assign rfl (by decide) ?_)
      | (refine K.fld ?_; first
        | refine WpL.fieldI tabOk rfl rfl rfl (by decide) ?_
        | refine WpL.fieldP tabOk rfl rfl rfl rfl rfl (by decide) ?_)
      | (refine K.ixa ?_; first
        | refine WpL.idxI tabOk rfl rfl rfl (by omega) (by decide) ?_
        | refine WpL.idxO tabOk rfl rfl rfl rfl rfl (by omega) (by decide) ?_)
      | (refine K.ix ?_; refine WpL.idxStr tabOk rfl rfl rfl (by omega) (by decide) ?_)
      | (refine K.bi ?_; first
        | refine WpL.lenImm (TabOk.slice tabOk rfl).1 rfl (by decide) ?_
        | refine WpL.lenOwn (TabOk.slice tabOk rfl).1 rfl rfl rfl (by decide) ?_
        | refine WpL.lenNil (TabOk.slice tabOk rfl).1 rfl (by decide) ?_
        | refine WpL.lenStr (K.tyStr tabOk rfl) rfl (by decide) ?_
        | refine WpL.app1Ints tabOk rfl rfl rfl (Nat.zero_le _) rfl rfl (by first | rfl | omega | (simp; done) | (simp; omega)) (by omega) (by decide) ?_
        | refine WpL.appInts tabOk rfl rfl rfl (Nat.zero_le _) rfl rfl (by first | rfl | omega | (simp; done) | (simp; omega)) (by first | rfl | omega | (simp; done) | (simp; omega)) (by omega) (by decide) ?_
        | refine WpL.nil1Ints tabOk rfl rfl rfl rfl (by omega) rfl (by decide) ?_
        | refine WpL.app1U8s tabOk rfl rfl rfl (Nat.zero_le _) rfl rfl (by first | rfl | omega | (simp; done) | (simp; omega)) (by omega) (by decide) ?_
        | refine WpL.appU8s tabOk rfl rfl rfl (Nat.zero_le _) rfl rfl (by first | rfl | omega | (simp; done) | (simp; omega)) (by first | rfl | omega | (simp; done) | (simp; omega)) (by omega) (by decide) ?_
        | refine WpL.nil1U8s tabOk rfl rfl rfl rfl (by omega) rfl (by decide) ?_
        | refine WpL.app1Strs tabOk rfl rfl rfl (Nat.zero_le _) rfl rfl (by first | rfl | omega | (simp; done) | (simp; omega)) (by omega) (by decide) ?_
        | refine WpL.appStrs tabOk rfl rfl rfl (Nat.zero_le _) rfl rfl (by first | rfl | omega | (simp; done) | (simp; omega)) (by first | rfl | omega | (simp; done) | (simp; omega)) (by omega) (by decide) ?_
        | refine WpL.nil1Strs tabOk rfl rfl rfl rfl (by omega) rfl (by decide) ?_
        | refine WpL.appOwn tabOk rfl rfl rfl rfl rfl rfl (by simp) (Nat.zero_le _) rfl rfl (by simp) (by simp [all_ints, all_u8s, all_strs, oneB, Value.oneCell']) (by omega) (by decide) ?_
        | refine WpL.appNil tabOk rfl rfl rfl rfl (by simp) (by simp [all_ints, all_u8s, all_strs, oneB, Value.oneCell']) (by omega) rfl (by decide) ?_
        | refine WpL.min2 rfl rfl (by decide) ?_
        | refine WpL.max2 rfl rfl (by decide) ?_)
      | (refine K.un ?_; first
        | refine WpL.not rfl (by decide) ?_
        | refine WpL.neg rfl (by omega) (by decide) ?_)
      | (refine K.pick ?_; first
        | refine WpL.pickT rfl rfl (by decide) ?_
        | refine WpL.pickF rfl rfl (by decide) ?_)
      | (refine K.ext ?_; refine WpL.extract rfl rfl (by first | decide | simp [AV.shL]) (by decide) ?_)
      | (refine K.cv ?_; first
        | refine WpL.convI (P := Try.prog) (by rfl) (K.tyInt tabOk rfl) rfl (by omega) (by decide) ?_
        | refine WpL.conv (P := Try.prog) (by rfl) (K.tyInt tabOk rfl) rfl (by decide) ?_
        | refine WpL.toBytes tabOk rfl rfl rfl rfl (by omega) rfl (by decide) ?_
        | refine WpL.ofBytes tabOk rfl rfl rfl rfl rfl (by simp) (by decide) ?_)
      | (refine K.lit ?_; first
        | refine WpL.lit0U8s tabOk rfl rfl rfl (by decide) ?_
        | refine WpL.lit0Ints tabOk rfl rfl rfl (by decide) ?_
        | refine WpL.lit0Bools tabOk rfl rfl rfl (by decide) ?_
        | refine WpL.lit0Strs tabOk rfl rfl rfl (by decide) ?_
        | refine WpL.litF tabOk rfl rfl rfl rfl (by decide) rfl (by decide) ?_)
      | (refine K.ms ?_; first
        | refine WpL.makeInts tabOk rfl rfl rfl (by omega) (by omega) rfl (by decide) ?_
        | refine WpL.makeStrs tabOk rfl rfl rfl (by omega) (by omega) rfl (by decide) ?_
        | refine WpL.makeBools tabOk rfl rfl rfl (by omega) (by omega) rfl (by decide) ?_
        | refine WpL.makeU8s tabOk rfl rfl rfl (by omega) (by omega) rfl (by decide) ?_)
      | (refine K.st ?_; first
        | refine WpL.storeInts tabOk rfl rfl rfl rfl rfl (by first | omega | (simp; omega)) ?_
        | refine WpL.storeU8s tabOk rfl rfl rfl rfl rfl (by first | omega | (simp; omega)) ?_
        | refine WpL.storeBools tabOk rfl rfl rfl rfl rfl (by first | omega | (simp; omega)) ?_
        | refine WpL.storeStrs tabOk rfl rfl rfl rfl rfl (by first | omega | (simp; omega)) ?_
        | refine WpL.store tabOk rfl rfl rfl rfl rfl rfl rfl rfl (by first | omega | (simp; omega) | (simp; done)) ?_)
      | (refine K.all ?_; first
        | refine WpL.allocStruct tabOk rfl rfl (by decide) ?_
        | refine WpL.allocPlain tabOk rfl rfl rfl (by decide) ?_)
      | (refine K.box ?_; refine WpL.box rfl rfl rfl (by decide) ?_)
      | (refine K.nc ?_; first
        | refine WpL.nilCheckP rfl rfl rfl (by decide) ?_
        | refine WpL.nilCheckI rfl (by decide) ?_)
      | (refine K.sl ?_; first
        | refine WpL.subStr tabOk rfl rfl (by first | exact .inl ⟨rfl, rfl⟩ | exact .inr ⟨_, _, rfl, rfl⟩) (by first | exact .inl ⟨rfl, rfl⟩ | exact .inr ⟨_, _, rfl, rfl⟩) (by omega) (by decide) ?_
        | refine WpL.subImm tabOk rfl rfl (by first | exact .inl ⟨rfl, rfl⟩ | exact .inr ⟨_, _, rfl, rfl⟩) (by first | exact .inl ⟨rfl, rfl⟩ | exact .inr ⟨_, _, rfl, rfl⟩) (by omega) (by decide) ?_)
      | (refine K.gd ?_; first
        | refine K.gT rfl (by decide) rfl ?_
        | refine K.gF rfl (by decide) rfl ?_
        | refine K.gD rfl rfl (fun _ => ?_) (fun _ => ?_)
        | refine K.gN rfl rfl (fun _ => ?_) (fun _ => ?_)
        | refine K.gS rfl rfl (fun _ => ?_) (fun _ => ?_)))
    | refine WpL.nil ?_
    | refine Abs.Seq.n ?_
    | (refine K.A ?_; first
      | refine WpA.seq ?_
      | refine WpA.region ?_
      | (refine K.cond ?_; first
        | refine WpA.condT rfl ?_
        | refine WpA.condF rfl ?_
        | refine WpA.condD rfl (fun _ => ?_) (fun _ => ?_)
        | refine WpA.condN rfl (fun _ => ?_) (fun _ => ?_)
        | refine WpA.condS rfl (fun _ => ?_) (fun _ => ?_))
      | refine WpA.block ?_
      | refine WpA.ret ?_
      | refine WpA.exit ?_
      | refine WpA.skip ?_
      | apply WpA.regionM 1 mixed (by decide +kernel)
      | apply WpA.regionM 2 mixed (by decide +kernel)
      | apply WpA.regionM 3 mixed (by decide +kernel)
      | apply WpA.regionM 4 mixed (by decide +kernel)
      | apply WpA.regionM 5 mixed (by decide +kernel)
      | apply WpA.regionM 6 mixed (by decide +kernel)
      | apply WpA.regionM 7 mixed (by decide +kernel)
      | apply WpA.regionM 8 mixed (by decide +kernel)
      | apply WpA.regionM 9 mixed (by decide +kernel)
      | apply WpA.regionM 10 mixed (by decide +kernel)
      | apply WpA.regionM 11 mixed (by decide +kernel)
      | apply WpA.regionM 12 mixed (by decide +kernel)
      | apply WpA.regionM 13 mixed (by decide +kernel)
      | apply WpA.regionM 14 mixed (by decide +kernel)
      | apply WpA.regionM 15 mixed (by decide +kernel)
      | apply WpA.regionM 16 mixed (by decide +kernel)
      | apply WpA.regionM 17 mixed (by decide +kernel)
      | apply WpA.regionM 18 mixed (by decide +kernel)
      | apply WpA.regionM 19 mixed (by decide +kernel)
      | apply WpA.regionM 20 mixed (by decide +kernel)
      | apply WpA.regionM 21 mixed (by decide +kernel)
      | apply WpA.regionM 22 mixed (by decide +kernel)
      | apply WpA.regionM 23 mixed (by decide +kernel)
      | apply WpA.regionM 24 mixed (by decide +kernel)
      | apply WpA.regionM 25 mixed (by decide +kernel)
      | apply WpA.regionM 26 mixed (by decide +kernel)
      | apply WpA.regionM 27 mixed (by decide +kernel)
      | apply WpA.regionM 28 mixed (by decide +kernel)
      | apply WpA.regionM 29 mixed (by decide +kernel)
      | apply WpA.regionM 30 mixed (by decide +kernel)
      | apply WpA.regionM 31 mixed (by decide +kernel)
      | apply WpA.regionM 32 mixed (by decide +kernel)
      | refine WpA.regionD mixed (by decide +kernel) ?_)
    | refine Abs.Seq.ret ?_
    | refine Abs.Seq.exit ?_
    | refine Blk.n ?_
    | refine Blk.ret ?_
    | refine Blk.exitHere ?_
    | refine Blk.exitOther rfl ?_
    | refine Rnd.ret ?_
    | refine Rnd.exit ?_
    | exact Only.mk rfl
    | exact Abs.HeadJ.nil
    | apply Abs.HeadJ.cons rfl
    | (apply K.depT; simp only [deps, List.toList_toArray, List.filterMap_cons, List.filterMap_nil, Region.binds, if_true, List.nil_append, List.cons_append, List.getElem?_cons_succ, List.getElem?_cons_zero, List.getElem?_nil, reduceCtorEq, Bool.true_or, Bool.or_true]; exact rfl)
    | refine fun Tv => K.L ?_
    | (apply K.appT; simp only [List.nil_append, List.cons_append, List.append_assoc]; exact rfl)
    | (refine K.isTrue ?_; kernel_rfl)
    | exact rfl
    | contradiction
    | omega)
  refine WpA.loop (fun k : Nat => ⟨[(0, .imm 1 xs.length (strs xs)), (3, Z (packed (xs.take k))), (4, I k)], []⟩) (fun k => k ≤ xs.length ∧ (8 < xs.length → k = 0)) (fun k => xs.length - k) 0 (by omega) ?_ (fun k hk => ?_)
  · exact Weak.mk (by repeat (first | exact ReT.nil | refine ReT.cons (.keep rfl rfl .nil) ?_ | refine ReT.cons (.own rfl rfl rfl rfl rfl rfl .nil) ?_ | refine ReT.cons (.ptr rfl rfl rfl rfl .nil) ?_ | refine ReT.cons (.keep (congrArg (fun z => AV.sc (Value.int .i64 z)) (by first | omega | (simp [packed]))) rfl .nil) ?_ | refine ReT.cons (.keep (congrArg (fun z : List UInt8 => AV.sc (Value.string ⟨z.toArray⟩)) (by simp [packed])) rfl .nil) ?_ | refine ReT.cons (.own rfl rfl rfl rfl rfl (by first | omega | (simp; done) | (simp; omega)) .nil) ?_)) (by repeat (first | exact ReO.nil | refine ReO.cons (Re.same rfl (still_ints _)) (by simp) ?_ | refine ReO.cons (Re.same rfl rfl) (by simp) ?_ | refine ReO.cons (Re.same (by simp [packed]) (still_ints _)) (by simp) ?_ | refine ReO.cons (Re.same (by simp [packed]) (still_u8s _)) (by simp) ?_ | refine ReO.cons (Re.same (by simp [packed]) (still_strs _)) (by simp) ?_)) (Nat.zero_le _)
  have h1 := packed_len xs k hk.1
  have h2 := vars_len (xs.getD k []).length
  have h3 := tot_take xs k
  have h4 := tot_get xs k
  have h5 : (xs.getD (((k : Int).toNat) * 1) []).length = (xs.getD k []).length := by simp
  have h6 : vars (xs.getD (((k : Int).toNat) * 1) []).length = vars (xs.getD k []).length := by simp
  have h7 : (vars (xs.getD (((k : Int).toNat) * 1) []).length).length ≤ 7 := by rw [h6]; exact h2
  repeat' (first
    | (refine K.L ?_; first
      | (refine K.mv ?_; refine WpL.move rfl (by decide) ?_)
      | (refine K.call ?_; first
        | refine WpL.call (Var_s _) (by repeat' (first | exact Snap.nil | refine Snap.keep rfl rfl ?_ | refine Snap.own rfl rfl rfl (by simp) rfl ?_ ?_ | refine Snap.agg ?_ ?_ | refine Snap.nilI ?_ | exact Snap.same rfl (still_ints _) (nofre_ints _) | exact Snap.same rfl (still_u8s _) (nofre_u8s _) | exact Snap.same rfl (still_strs _) (nofre_strs _) | exact Snap.same rfl (still_bools _) (nofre_bools _))) (by repeat' (first | exact Loc.nil | refine Loc.sc ?_ | refine Loc.own ?_ | refine Loc.nilS ?_ | refine Loc.agg ?_ ?_ | refine Loc.tup ?_ ?_)) (by first | exact Out.nil | exact Out.ints | exact Out.u8s | exact Out.strs | exact Out.bools) rfl rfl rfl (by decide) ?_
        )
      | (refine K.bin ?_; first
        | refine WpL.add rfl rfl (by omega) (by decide) ?_
        | refine WpL.sub rfl rfl (by omega) (by decide) ?_
        | refine WpL.mul rfl rfl (by omega) (by decide) ?_
        | refine WpL.quo rfl rfl (by omega) (by decide) ?_
        | refine WpL.rem rfl rfl (by omega) (by decide) ?_
        | refine WpL.bin rfl rfl rfl (by decide) ?_
        | refine WpL.strAdd rfl rfl (by first | omega | (simp only [List.length_append]; omega)) (by decide) ?_
        | refine WpL.strEq rfl rfl (by decide) ?_
        | refine WpL.strNe rfl rfl (by decide) ?_
        | refine WpL.boolEq (K.tyBool tabOk rfl) rfl rfl (by decide) ?_
        | refine WpL.boolNe (K.tyBool tabOk rfl) rfl rfl (by decide) ?_
        | refine WpL.shl rfl rfl (by first | decide | (simp only [IntKind.bits]; omega)) (by decide) ?_
        | refine WpL.shr rfl rfl (by first | decide | (simp only [IntKind.bits]; omega)) (by decide) ?_)
      | (refine K.ld ?_; first
        | refine WpL.loadInts tabOk rfl rfl rfl (by first | omega | (simp; omega)) (by decide) ?_
        | refine WpL.loadU8s tabOk rfl rfl rfl (by first | omega | (simp; omega)) (by decide) ?_
        | refine WpL.loadStrs tabOk rfl rfl rfl (by first | omega | (simp; omega)) (by decide) ?_
        | refine WpL.loadBools tabOk rfl rfl rfl (by first | omega | (simp; omega)) (by decide) ?_
        | refine WpL.load1 tabOk rfl rfl rfl rfl rfl (by decide) ?_)
      | (refine K.asg ?_; refine WpL.assign rfl (by decide) ?_)
      | (refine K.fld ?_; first
        | refine WpL.fieldI tabOk rfl rfl rfl (by decide) ?_
        | refine WpL.fieldP tabOk rfl rfl rfl rfl rfl (by decide) ?_)
      | (refine K.ixa ?_; first
        | refine WpL.idxI tabOk rfl rfl rfl (by omega) (by decide) ?_
        | refine WpL.idxO tabOk rfl rfl rfl rfl rfl (by omega) (by decide) ?_)
      | (refine K.ix ?_; refine WpL.idxStr tabOk rfl rfl rfl (by omega) (by decide) ?_)
      | (refine K.bi ?_; first
        | refine WpL.lenImm (TabOk.slice tabOk rfl).1 rfl (by decide) ?_
        | refine WpL.lenOwn (TabOk.slice tabOk rfl).1 rfl rfl rfl (by decide) ?_
        | refine WpL.lenNil (TabOk.slice tabOk rfl).1 rfl (by decide) ?_
        | refine WpL.lenStr (K.tyStr tabOk rfl) rfl (by decide) ?_
        | refine WpL.app1Ints tabOk rfl rfl rfl (Nat.zero_le _) rfl rfl (by first | rfl | omega | (simp; done) | (simp; omega)) (by omega) (by decide) ?_
        | refine WpL.appInts tabOk rfl rfl rfl (Nat.zero_le _) rfl rfl (by first | rfl | omega | (simp; done) | (simp; omega)) (by first | rfl | omega | (simp; done) | (simp; omega)) (by omega) (by decide) ?_
        | refine WpL.nil1Ints tabOk rfl rfl rfl rfl (by omega) rfl (by decide) ?_
        | refine WpL.app1U8s tabOk rfl rfl rfl (Nat.zero_le _) rfl rfl (by first | rfl | omega | (simp; done) | (simp; omega)) (by omega) (by decide) ?_
        | refine WpL.appU8s tabOk rfl rfl rfl (Nat.zero_le _) rfl rfl (by first | rfl | omega | (simp; done) | (simp; omega)) (by first | rfl | omega | (simp; done) | (simp; omega)) (by omega) (by decide) ?_
        | refine WpL.nil1U8s tabOk rfl rfl rfl rfl (by omega) rfl (by decide) ?_
        | refine WpL.app1Strs tabOk rfl rfl rfl (Nat.zero_le _) rfl rfl (by first | rfl | omega | (simp; done) | (simp; omega)) (by omega) (by decide) ?_
        | refine WpL.appStrs tabOk rfl rfl rfl (Nat.zero_le _) rfl rfl (by first | rfl | omega | (simp; done) | (simp; omega)) (by first | rfl | omega | (simp; done) | (simp; omega)) (by omega) (by decide) ?_
        | refine WpL.nil1Strs tabOk rfl rfl rfl rfl (by omega) rfl (by decide) ?_
        | refine WpL.appOwn tabOk rfl rfl rfl rfl rfl rfl (by simp) (Nat.zero_le _) rfl rfl (by simp) (by simp [all_ints, all_u8s, all_strs, oneB, Value.oneCell']) (by omega) (by decide) ?_
        | refine WpL.appNil tabOk rfl rfl rfl rfl (by simp) (by simp [all_ints, all_u8s, all_strs, oneB, Value.oneCell']) (by omega) rfl (by decide) ?_
        | refine WpL.min2 rfl rfl (by decide) ?_
        | refine WpL.max2 rfl rfl (by decide) ?_)
      | (refine K.un ?_; first
        | refine WpL.not rfl (by decide) ?_
        | refine WpL.neg rfl (by omega) (by decide) ?_)
      | (refine K.pick ?_; first
        | refine WpL.pickT rfl rfl (by decide) ?_
        | refine WpL.pickF rfl rfl (by decide) ?_)
      | (refine K.ext ?_; refine WpL.extract rfl rfl (by first | decide | simp [AV.shL]) (by decide) ?_)
      | (refine K.cv ?_; first
        | refine WpL.convI (P := Try.prog) (by rfl) (K.tyInt tabOk rfl) rfl (by omega) (by decide) ?_
        | refine WpL.conv (P := Try.prog) (by rfl) (K.tyInt tabOk rfl) rfl (by decide) ?_
        | refine WpL.toBytes tabOk rfl rfl rfl rfl (by omega) rfl (by decide) ?_
        | refine WpL.ofBytes tabOk rfl rfl rfl rfl rfl (by simp) (by decide) ?_)
      | (refine K.lit ?_; first
        | refine WpL.lit0U8s tabOk rfl rfl rfl (by decide) ?_
        | refine WpL.lit0Ints tabOk rfl rfl rfl (by decide) ?_
        | refine WpL.lit0Bools tabOk rfl rfl rfl (by decide) ?_
        | refine WpL.lit0Strs tabOk rfl rfl rfl (by decide) ?_
        | refine WpL.litF tabOk rfl rfl rfl rfl (by decide) rfl (by decide) ?_)
      | (refine K.ms ?_; first
        | refine WpL.makeInts tabOk rfl rfl rfl (by omega) (by omega) rfl (by decide) ?_
        | refine WpL.makeStrs tabOk rfl rfl rfl (by omega) (by omega) rfl (by decide) ?_
        | refine WpL.makeBools tabOk rfl rfl rfl (by omega) (by omega) rfl (by decide) ?_
        | refine WpL.makeU8s tabOk rfl rfl rfl (by omega) (by omega) rfl (by decide) ?_)
      | (refine K.st ?_; first
        | refine WpL.storeInts tabOk rfl rfl rfl rfl rfl (by first | omega | (simp; omega)) ?_
        | refine WpL.storeU8s tabOk rfl rfl rfl rfl rfl (by first | omega | (simp; omega)) ?_
        | refine WpL.storeBools tabOk rfl rfl rfl rfl rfl (by first | omega | (simp; omega)) ?_
        | refine WpL.storeStrs tabOk rfl rfl rfl rfl rfl (by first | omega | (simp; omega)) ?_
        | refine WpL.store tabOk rfl rfl rfl rfl rfl rfl rfl rfl (by first | omega | (simp; omega) | (simp; done)) ?_)
      | (refine K.all ?_; first
        | refine WpL.allocStruct tabOk rfl rfl (by decide) ?_
        | refine WpL.allocPlain tabOk rfl rfl rfl (by decide) ?_)
      | (refine K.box ?_; refine WpL.box rfl rfl rfl (by decide) ?_)
      | (refine K.nc ?_; first
        | refine WpL.nilCheckP rfl rfl rfl (by decide) ?_
        | refine WpL.nilCheckI rfl (by decide) ?_)
      | (refine K.sl ?_; first
        | refine WpL.subStr tabOk rfl rfl (by first | exact .inl ⟨rfl, rfl⟩ | exact .inr ⟨_, _, rfl, rfl⟩) (by first | exact .inl ⟨rfl, rfl⟩ | exact .inr ⟨_, _, rfl, rfl⟩) (by omega) (by decide) ?_
        | refine WpL.subImm tabOk rfl rfl (by first | exact .inl ⟨rfl, rfl⟩ | exact .inr ⟨_, _, rfl, rfl⟩) (by first | exact .inl ⟨rfl, rfl⟩ | exact .inr ⟨_, _, rfl, rfl⟩) (by omega) (by decide) ?_)
      | (refine K.gd ?_; first
        | refine K.gT rfl (by decide) rfl ?_
        | refine K.gF rfl (by decide) rfl ?_
        | refine K.gD rfl rfl (fun _ => ?_) (fun _ => ?_)
        | refine K.gN rfl rfl (fun _ => ?_) (fun _ => ?_)
        | refine K.gS rfl rfl (fun _ => ?_) (fun _ => ?_)))
    | refine WpL.nil ?_
    | refine Abs.Seq.n ?_
    | (refine K.A ?_; first
      | refine WpA.seq ?_
      | refine WpA.region ?_
      | (refine K.cond ?_; first
        | refine WpA.condT rfl ?_
        | refine WpA.condF rfl ?_
        | refine WpA.condD rfl (fun _ => ?_) (fun _ => ?_)
        | refine WpA.condN rfl (fun _ => ?_) (fun _ => ?_)
        | refine WpA.condS rfl (fun _ => ?_) (fun _ => ?_))
      | refine WpA.block ?_
      | refine WpA.ret ?_
      | refine WpA.exit ?_
      | refine WpA.skip ?_
      | apply WpA.regionM 1 mixed (by decide +kernel)
      | apply WpA.regionM 2 mixed (by decide +kernel)
      | apply WpA.regionM 3 mixed (by decide +kernel)
      | apply WpA.regionM 4 mixed (by decide +kernel)
      | apply WpA.regionM 5 mixed (by decide +kernel)
      | apply WpA.regionM 6 mixed (by decide +kernel)
      | apply WpA.regionM 7 mixed (by decide +kernel)
      | apply WpA.regionM 8 mixed (by decide +kernel)
      | apply WpA.regionM 9 mixed (by decide +kernel)
      | apply WpA.regionM 10 mixed (by decide +kernel)
      | apply WpA.regionM 11 mixed (by decide +kernel)
      | apply WpA.regionM 12 mixed (by decide +kernel)
      | apply WpA.regionM 13 mixed (by decide +kernel)
      | apply WpA.regionM 14 mixed (by decide +kernel)
      | apply WpA.regionM 15 mixed (by decide +kernel)
      | apply WpA.regionM 16 mixed (by decide +kernel)
      | apply WpA.regionM 17 mixed (by decide +kernel)
      | apply WpA.regionM 18 mixed (by decide +kernel)
      | apply WpA.regionM 19 mixed (by decide +kernel)
      | apply WpA.regionM 20 mixed (by decide +kernel)
      | apply WpA.regionM 21 mixed (by decide +kernel)
      | apply WpA.regionM 22 mixed (by decide +kernel)
      | apply WpA.regionM 23 mixed (by decide +kernel)
      | apply WpA.regionM 24 mixed (by decide +kernel)
      | apply WpA.regionM 25 mixed (by decide +kernel)
      | apply WpA.regionM 26 mixed (by decide +kernel)
      | apply WpA.regionM 27 mixed (by decide +kernel)
      | apply WpA.regionM 28 mixed (by decide +kernel)
      | apply WpA.regionM 29 mixed (by decide +kernel)
      | apply WpA.regionM 30 mixed (by decide +kernel)
      | apply WpA.regionM 31 mixed (by decide +kernel)
      | apply WpA.regionM 32 mixed (by decide +kernel)
      | refine WpA.regionD mixed (by decide +kernel) ?_)
    | refine Abs.Seq.ret ?_
    | refine Abs.Seq.exit ?_
    | refine Blk.n ?_
    | refine Blk.ret ?_
    | refine Blk.exitHere ?_
    | refine Blk.exitOther rfl ?_
    | refine Rnd.ret ?_
    | refine Rnd.exit ?_
    | exact Only.mk rfl
    | exact Abs.HeadJ.nil
    | apply Abs.HeadJ.cons rfl
    | (apply K.depT; simp only [deps, List.toList_toArray, List.filterMap_cons, List.filterMap_nil, Region.binds, if_true, List.nil_append, List.cons_append, List.getElem?_cons_succ, List.getElem?_cons_zero, List.getElem?_nil, reduceCtorEq, Bool.true_or, Bool.or_true]; exact rfl)
    | refine fun Tv => K.L ?_
    | (apply K.appT; simp only [List.nil_append, List.cons_append, List.append_assoc]; exact rfl)
    | (refine K.isTrue ?_; kernel_rfl)
    | exact rfl
    | contradiction
    | omega)
  · refine Rnd.go (k + 1) ⟨by omega, by omega⟩ (by (try dsimp only); omega) ?_
    exact Weak.mk (by repeat (first | exact ReT.nil | refine ReT.cons (.keep rfl rfl .nil) ?_ | refine ReT.cons (.own rfl rfl rfl rfl rfl rfl .nil) ?_ | refine ReT.cons (.ptr rfl rfl rfl rfl .nil) ?_ | refine ReT.cons (.keep (congrArg (fun z => AV.sc (Value.int .i64 z)) (by first | omega | (rw [packed_snoc _ _ (by omega)]; simp))) rfl .nil) ?_ | refine ReT.cons (.keep (congrArg (fun z : List UInt8 => AV.sc (Value.string ⟨z.toArray⟩)) (by rw [packed_snoc _ _ (by omega)]; simp)) rfl .nil) ?_ | refine ReT.cons (.own rfl rfl rfl rfl rfl (by first | omega | (simp; done) | (simp; omega)) .nil) ?_)) (by repeat (first | exact ReO.nil | refine ReO.cons (Re.same rfl (still_ints _)) (by simp) ?_ | refine ReO.cons (Re.same rfl rfl) (by simp) ?_ | refine ReO.cons (Re.same (by rw [packed_snoc _ _ (by omega)]; simp) (still_ints _)) (by simp) ?_ | refine ReO.cons (Re.same (by rw [packed_snoc _ _ (by omega)]; simp) (still_u8s _)) (by simp) ?_ | refine ReO.cons (Re.same (by rw [packed_snoc _ _ (by omega)]; simp) (still_strs _)) (by simp) ?_)) (Nat.zero_le _)
  · refine Abs.Fin.ret (.one (.tmp rfl) .nil (by decide) (.keep ?_ rfl rfl .nil))
    have hk0 : k = 0 := hk.2 (by omega)
    subst hk0
    rw [packs, if_neg (by omega)]; simp [packed]
  · refine Abs.Fin.ret (.one (.tmp rfl) .nil (by decide) (.keep ?_ rfl rfl .nil))
    have hkx : k = xs.length := by omega
    subst hkx
    rw [List.take_length]
    by_cases h8 : xs.length ≤ 8
    · rw [packs, if_pos h8]
    · have : xs.length = 0 := hk.2 (by omega)
      omega

theorem FnExactPackReel_c (xs : List (List UInt8)) (hl : xs.length ≤ 9223372036854775807) (hx : ∀ x ∈ xs, x.length ≤ 9223372036854775807) : FnC Try.prog 6 [.imm 1 xs.length (strs xs)] [] (B true) := by
  refine FnC.of_body tabOk Try.func6 Try.ntmps6 rfl (by decide +kernel) (by simp) fun G => ?_
  repeat' (first
    | (refine K.L ?_; first
      | (refine K.mv ?_; refine WpL.move rfl (by decide) ?_)
      | (refine K.call ?_; first
        | refine WpL.call (szStringS_c _ _ hl hx ?_) (by repeat' (first | exact Snap.nil | refine Snap.keep rfl rfl ?_ | refine Snap.own rfl rfl rfl (by simp) rfl ?_ ?_ | refine Snap.agg ?_ ?_ | refine Snap.nilI ?_ | exact Snap.same rfl (still_ints _) (nofre_ints _) | exact Snap.same rfl (still_u8s _) (nofre_u8s _) | exact Snap.same rfl (still_strs _) (nofre_strs _) | exact Snap.same rfl (still_bools _) (nofre_bools _))) (by repeat' (first | exact Loc.nil | refine Loc.sc ?_ | refine Loc.own ?_ | refine Loc.nilS ?_ | refine Loc.agg ?_ ?_ | refine Loc.tup ?_ ?_)) (by first | exact Out.nil | exact Out.ints | exact Out.u8s | exact Out.strs | exact Out.bools) rfl rfl rfl (by decide) ?_
        )
      | (refine K.bin ?_; first
        | refine WpL.add rfl rfl (by omega) (by decide) ?_
        | refine WpL.sub rfl rfl (by omega) (by decide) ?_
        | refine WpL.mul rfl rfl (by omega) (by decide) ?_
        | refine WpL.quo rfl rfl (by omega) (by decide) ?_
        | refine WpL.rem rfl rfl (by omega) (by decide) ?_
        | refine WpL.bin rfl rfl rfl (by decide) ?_
        | refine WpL.strAdd rfl rfl (by first | omega | (simp only [List.length_append]; omega)) (by decide) ?_
        | refine WpL.strEq rfl rfl (by decide) ?_
        | refine WpL.strNe rfl rfl (by decide) ?_
        | refine WpL.boolEq (K.tyBool tabOk rfl) rfl rfl (by decide) ?_
        | refine WpL.boolNe (K.tyBool tabOk rfl) rfl rfl (by decide) ?_
        | refine WpL.shl rfl rfl (by first | decide | (simp only [IntKind.bits]; omega)) (by decide) ?_
        | refine WpL.shr rfl rfl (by first | decide | (simp only [IntKind.bits]; omega)) (by decide) ?_)
      | (refine K.ld ?_; first
        | refine WpL.loadInts tabOk rfl rfl rfl (by first | omega | (simp; omega)) (by decide) ?_
        | refine WpL.loadU8s tabOk rfl rfl rfl (by first | omega | (simp; omega)) (by decide) ?_
        | refine WpL.loadStrs tabOk rfl rfl rfl (by first | omega | (simp; omega)) (by decide) ?_
        | refine WpL.loadBools tabOk rfl rfl rfl (by first | omega | (simp; omega)) (by decide) ?_
        | refine WpL.load1 tabOk rfl rfl rfl rfl rfl (by decide) ?_)
      | (refine K.asg ?_; refine WpL.assign rfl (by decide) ?_)
      | (refine K.fld ?_; first
        | refine WpL.fieldI tabOk rfl rfl rfl (by decide) ?_
        | refine WpL.fieldP tabOk rfl rfl rfl rfl rfl (by decide) ?_)
      | (refine K.ixa ?_; first
        | refine WpL.idxI tabOk rfl rfl rfl (by omega) (by decide) ?_
        | refine WpL.idxO tabOk rfl rfl rfl rfl rfl (by omega) (by decide) ?_)
      | (refine K.ix ?_; refine WpL.idxStr tabOk rfl rfl rfl (by omega) (by decide) ?_)
      | (refine K.bi ?_; first
        | refine WpL.lenImm (TabOk.slice tabOk rfl).1 rfl (by decide) ?_
        | refine WpL.lenOwn (TabOk.slice tabOk rfl).1 rfl rfl rfl (by decide) ?_
        | refine WpL.lenNil (TabOk.slice tabOk rfl).1 rfl (by decide) ?_
        | refine WpL.lenStr (K.tyStr tabOk rfl) rfl (by decide) ?_
        | refine WpL.app1Ints tabOk rfl rfl rfl (Nat.zero_le _) rfl rfl (by first | rfl | omega | (simp; done) | (simp; omega)) (by omega) (by decide) ?_
        | refine WpL.appInts tabOk rfl rfl rfl (Nat.zero_le _) rfl rfl (by first | rfl | omega | (simp; done) | (simp; omega)) (by first | rfl | omega | (simp; done) | (simp; omega)) (by omega) (by decide) ?_
        | refine WpL.nil1Ints tabOk rfl rfl rfl rfl (by omega) rfl (by decide) ?_
        | refine WpL.app1U8s tabOk rfl rfl rfl (Nat.zero_le _) rfl rfl (by first | rfl | omega | (simp; done) | (simp; omega)) (by omega) (by decide) ?_
        | refine WpL.appU8s tabOk rfl rfl rfl (Nat.zero_le _) rfl rfl (by first | rfl | omega | (simp; done) | (simp; omega)) (by first | rfl | omega | (simp; done) | (simp; omega)) (by omega) (by decide) ?_
        | refine WpL.nil1U8s tabOk rfl rfl rfl rfl (by omega) rfl (by decide) ?_
        | refine WpL.app1Strs tabOk rfl rfl rfl (Nat.zero_le _) rfl rfl (by first | rfl | omega | (simp; done) | (simp; omega)) (by omega) (by decide) ?_
        | refine WpL.appStrs tabOk rfl rfl rfl (Nat.zero_le _) rfl rfl (by first | rfl | omega | (simp; done) | (simp; omega)) (by first | rfl | omega | (simp; done) | (simp; omega)) (by omega) (by decide) ?_
        | refine WpL.nil1Strs tabOk rfl rfl rfl rfl (by omega) rfl (by decide) ?_
        | refine WpL.appOwn tabOk rfl rfl rfl rfl rfl rfl (by simp) (Nat.zero_le _) rfl rfl (by simp) (by simp [all_ints, all_u8s, all_strs, oneB, Value.oneCell']) (by omega) (by decide) ?_
        | refine WpL.appNil tabOk rfl rfl rfl rfl (by simp) (by simp [all_ints, all_u8s, all_strs, oneB, Value.oneCell']) (by omega) rfl (by decide) ?_
        | refine WpL.min2 rfl rfl (by decide) ?_
        | refine WpL.max2 rfl rfl (by decide) ?_)
      | (refine K.un ?_; first
        | refine WpL.not rfl (by decide) ?_
        | refine WpL.neg rfl (by omega) (by decide) ?_)
      | (refine K.pick ?_; first
        | refine WpL.pickT rfl rfl (by decide) ?_
        | refine WpL.pickF rfl rfl (by decide) ?_)
      | (refine K.ext ?_; refine WpL.extract rfl rfl (by first | decide | simp [AV.shL]) (by decide) ?_)
      | (refine K.cv ?_; first
        | refine WpL.convI (P := Try.prog) (by rfl) (K.tyInt tabOk rfl) rfl (by omega) (by decide) ?_
        | refine WpL.conv (P := Try.prog) (by rfl) (K.tyInt tabOk rfl) rfl (by decide) ?_
        | refine WpL.toBytes tabOk rfl rfl rfl rfl (by omega) rfl (by decide) ?_
        | refine WpL.ofBytes tabOk rfl rfl rfl rfl rfl (by simp) (by decide) ?_)
      | (refine K.lit ?_; first
        | refine WpL.lit0U8s tabOk rfl rfl rfl (by decide) ?_
        | refine WpL.lit0Ints tabOk rfl rfl rfl (by decide) ?_
        | refine WpL.lit0Bools tabOk rfl rfl rfl (by decide) ?_
        | refine WpL.lit0Strs tabOk rfl rfl rfl (by decide) ?_
        | refine WpL.litF tabOk rfl rfl rfl rfl (by decide) rfl (by decide) ?_)
      | (refine K.ms ?_; first
        | refine WpL.makeInts tabOk rfl rfl rfl (by omega) (by omega) rfl (by decide) ?_
        | refine WpL.makeStrs tabOk rfl rfl rfl (by omega) (by omega) rfl (by decide) ?_
        | refine WpL.makeBools tabOk rfl rfl rfl (by omega) (by omega) rfl (by decide) ?_
        | refine WpL.makeU8s tabOk rfl rfl rfl (by omega) (by omega) rfl (by decide) ?_)
      | (refine K.st ?_; first
        | refine WpL.storeInts tabOk rfl rfl rfl rfl rfl (by first | omega | (simp; omega)) ?_
        | refine WpL.storeU8s tabOk rfl rfl rfl rfl rfl (by first | omega | (simp; omega)) ?_
        | refine WpL.storeBools tabOk rfl rfl rfl rfl rfl (by first | omega | (simp; omega)) ?_
        | refine WpL.storeStrs tabOk rfl rfl rfl rfl rfl (by first | omega | (simp; omega)) ?_
        | refine WpL.store tabOk rfl rfl rfl rfl rfl rfl rfl rfl (by first | omega | (simp; omega) | (simp; done)) ?_)
      | (refine K.all ?_; first
        | refine WpL.allocStruct tabOk rfl rfl (by decide) ?_
        | refine WpL.allocPlain tabOk rfl rfl rfl (by decide) ?_)
      | (refine K.box ?_; refine WpL.box rfl rfl rfl (by decide) ?_)
      | (refine K.nc ?_; first
        | refine WpL.nilCheckP rfl rfl rfl (by decide) ?_
        | refine WpL.nilCheckI rfl (by decide) ?_)
      | (refine K.sl ?_; first
        | refine WpL.subStr tabOk rfl rfl (by first | exact .inl ⟨rfl, rfl⟩ | exact .inr ⟨_, _, rfl, rfl⟩) (by first | exact .inl ⟨rfl, rfl⟩ | exact .inr ⟨_, _, rfl, rfl⟩) (by omega) (by decide) ?_
        | refine WpL.subImm tabOk rfl rfl (by first | exact .inl ⟨rfl, rfl⟩ | exact .inr ⟨_, _, rfl, rfl⟩) (by first | exact .inl ⟨rfl, rfl⟩ | exact .inr ⟨_, _, rfl, rfl⟩) (by omega) (by decide) ?_)
      | (refine K.gd ?_; first
        | refine K.gT rfl (by decide) rfl ?_
        | refine K.gF rfl (by decide) rfl ?_
        | refine K.gD rfl rfl (fun _ => ?_) (fun _ => ?_)
        | refine K.gN rfl rfl (fun _ => ?_) (fun _ => ?_)
        | refine K.gS rfl rfl (fun _ => ?_) (fun _ => ?_)))
    | refine WpL.nil ?_
    | refine Abs.Seq.n ?_
    | (refine K.A ?_; first
      | refine WpA.seq ?_
      | refine WpA.region ?_
      | (refine K.cond ?_; first
        | refine WpA.condT rfl ?_
        | refine WpA.condF rfl ?_
        | refine WpA.condD rfl (fun _ => ?_) (fun _ => ?_)
        | refine WpA.condN rfl (fun _ => ?_) (fun _ => ?_)
        | refine WpA.condS rfl (fun _ => ?_) (fun _ => ?_))
      | refine WpA.block ?_
      | refine WpA.ret ?_
      | refine WpA.exit ?_
      | refine WpA.skip ?_
      | apply WpA.regionM 1 mixed (by decide +kernel)
      | apply WpA.regionM 2 mixed (by decide +kernel)
      | apply WpA.regionM 3 mixed (by decide +kernel)
      | apply WpA.regionM 4 mixed (by decide +kernel)
      | apply WpA.regionM 5 mixed (by decide +kernel)
      | apply WpA.regionM 6 mixed (by decide +kernel)
      | apply WpA.regionM 7 mixed (by decide +kernel)
      | apply WpA.regionM 8 mixed (by decide +kernel)
      | apply WpA.regionM 9 mixed (by decide +kernel)
      | apply WpA.regionM 10 mixed (by decide +kernel)
      | apply WpA.regionM 11 mixed (by decide +kernel)
      | apply WpA.regionM 12 mixed (by decide +kernel)
      | apply WpA.regionM 13 mixed (by decide +kernel)
      | apply WpA.regionM 14 mixed (by decide +kernel)
      | apply WpA.regionM 15 mixed (by decide +kernel)
      | apply WpA.regionM 16 mixed (by decide +kernel)
      | apply WpA.regionM 17 mixed (by decide +kernel)
      | apply WpA.regionM 18 mixed (by decide +kernel)
      | apply WpA.regionM 19 mixed (by decide +kernel)
      | apply WpA.regionM 20 mixed (by decide +kernel)
      | apply WpA.regionM 21 mixed (by decide +kernel)
      | apply WpA.regionM 22 mixed (by decide +kernel)
      | apply WpA.regionM 23 mixed (by decide +kernel)
      | apply WpA.regionM 24 mixed (by decide +kernel)
      | apply WpA.regionM 25 mixed (by decide +kernel)
      | apply WpA.regionM 26 mixed (by decide +kernel)
      | apply WpA.regionM 27 mixed (by decide +kernel)
      | apply WpA.regionM 28 mixed (by decide +kernel)
      | apply WpA.regionM 29 mixed (by decide +kernel)
      | apply WpA.regionM 30 mixed (by decide +kernel)
      | apply WpA.regionM 31 mixed (by decide +kernel)
      | apply WpA.regionM 32 mixed (by decide +kernel)
      | refine WpA.regionD mixed (by decide +kernel) ?_)
    | refine Abs.Seq.ret ?_
    | refine Abs.Seq.exit ?_
    | refine Blk.n ?_
    | refine Blk.ret ?_
    | refine Blk.exitHere ?_
    | refine Blk.exitOther rfl ?_
    | refine Rnd.ret ?_
    | refine Rnd.exit ?_
    | exact Only.mk rfl
    | exact Abs.HeadJ.nil
    | apply Abs.HeadJ.cons rfl
    | (apply K.depT; simp only [deps, List.toList_toArray, List.filterMap_cons, List.filterMap_nil, Region.binds, if_true, List.nil_append, List.cons_append, List.getElem?_cons_succ, List.getElem?_cons_zero, List.getElem?_nil, reduceCtorEq, Bool.true_or, Bool.or_true]; exact rfl)
    | refine fun Tv => K.L ?_
    | (apply K.appT; simp only [List.nil_append, List.cons_append, List.append_assoc]; exact rfl)
    | (refine K.isTrue ?_; kernel_rfl)
    | exact rfl
    | contradiction
    | omega)
  · refine Abs.Fin.ret (.one (.tmp rfl) .nil (by decide) (.keep ?_ rfl rfl .nil))
    rfl
  have hz : ¬ szS xs 1048576 < 0 := by assumption
  have hb1 : xs.length ≤ 1048576 := by unfold szS at hz; split at hz <;> omega
  have hb2 : tot xs ≤ 1048576 := by unfold szS at hz; split at hz <;> omega
  repeat' (first
    | (refine K.L ?_; first
      | (refine K.mv ?_; refine WpL.move rfl (by decide) ?_)
      | (refine K.call ?_; first
        | refine WpL.call (toStringS_c _ hb1) (by repeat' (first | exact Snap.nil | refine Snap.keep rfl rfl ?_ | refine Snap.own rfl rfl rfl (by simp) rfl ?_ ?_ | refine Snap.agg ?_ ?_ | refine Snap.nilI ?_ | exact Snap.same rfl (still_ints _) (nofre_ints _) | exact Snap.same rfl (still_u8s _) (nofre_u8s _) | exact Snap.same rfl (still_strs _) (nofre_strs _) | exact Snap.same rfl (still_bools _) (nofre_bools _))) (by repeat' (first | exact Loc.nil | refine Loc.sc ?_ | refine Loc.own ?_ | refine Loc.nilS ?_ | refine Loc.agg ?_ ?_ | refine Loc.tup ?_ ?_)) (by first | exact Out.nil | exact Out.ints | exact Out.u8s | exact Out.strs | exact Out.bools) rfl rfl rfl (by decide) ?_
        | refine WpL.call (PackReel_c _ hb1 hb2) (by repeat' (first | exact Snap.nil | refine Snap.keep rfl rfl ?_ | refine Snap.own rfl rfl rfl (by simp) rfl ?_ ?_ | refine Snap.agg ?_ ?_ | refine Snap.nilI ?_ | exact Snap.same rfl (still_ints _) (nofre_ints _) | exact Snap.same rfl (still_u8s _) (nofre_u8s _) | exact Snap.same rfl (still_strs _) (nofre_strs _) | exact Snap.same rfl (still_bools _) (nofre_bools _))) (by repeat' (first | exact Loc.nil | refine Loc.sc ?_ | refine Loc.own ?_ | refine Loc.nilS ?_ | refine Loc.agg ?_ ?_ | refine Loc.tup ?_ ?_)) (by first | exact Out.nil | exact Out.ints | exact Out.u8s | exact Out.strs | exact Out.bools) rfl rfl rfl (by decide) ?_
        | refine WpL.call (PackReel_s _ hb1 hb2) (by repeat' (first | exact Snap.nil | refine Snap.keep rfl rfl ?_ | refine Snap.own rfl rfl rfl (by simp) rfl ?_ ?_ | refine Snap.agg ?_ ?_ | refine Snap.nilI ?_ | exact Snap.same rfl (still_ints _) (nofre_ints _) | exact Snap.same rfl (still_u8s _) (nofre_u8s _) | exact Snap.same rfl (still_strs _) (nofre_strs _) | exact Snap.same rfl (still_bools _) (nofre_bools _))) (by repeat' (first | exact Loc.nil | refine Loc.sc ?_ | refine Loc.own ?_ | refine Loc.nilS ?_ | refine Loc.agg ?_ ?_ | refine Loc.tup ?_ ?_)) (by first | exact Out.nil | exact Out.ints | exact Out.u8s | exact Out.strs | exact Out.bools) rfl rfl rfl (by decide) ?_
        | refine WpL.call (eqStringS_c _ _ ?_ ?_) (by repeat' (first | exact Snap.nil | refine Snap.keep rfl rfl ?_ | refine Snap.own rfl rfl rfl (by simp) rfl ?_ ?_ | refine Snap.agg ?_ ?_ | refine Snap.nilI ?_ | exact Snap.same rfl (still_ints _) (nofre_ints _) | exact Snap.same rfl (still_u8s _) (nofre_u8s _) | exact Snap.same rfl (still_strs _) (nofre_strs _) | exact Snap.same rfl (still_bools _) (nofre_bools _))) (by repeat' (first | exact Loc.nil | refine Loc.sc ?_ | refine Loc.own ?_ | refine Loc.nilS ?_ | refine Loc.agg ?_ ?_ | refine Loc.tup ?_ ?_)) (by first | exact Out.nil | exact Out.ints | exact Out.u8s | exact Out.strs | exact Out.bools) rfl rfl rfl (by decide) ?_
        )
      | (refine K.bin ?_; first
        | refine WpL.add rfl rfl (by omega) (by decide) ?_
        | refine WpL.sub rfl rfl (by omega) (by decide) ?_
        | refine WpL.mul rfl rfl (by omega) (by decide) ?_
        | refine WpL.quo rfl rfl (by omega) (by decide) ?_
        | refine WpL.rem rfl rfl (by omega) (by decide) ?_
        | refine WpL.bin rfl rfl rfl (by decide) ?_
        | refine WpL.strAdd rfl rfl (by first | omega | (simp only [List.length_append]; omega)) (by decide) ?_
        | refine WpL.strEq rfl rfl (by decide) ?_
        | refine WpL.strNe rfl rfl (by decide) ?_
        | refine WpL.boolEq (K.tyBool tabOk rfl) rfl rfl (by decide) ?_
        | refine WpL.boolNe (K.tyBool tabOk rfl) rfl rfl (by decide) ?_
        | refine WpL.shl rfl rfl (by first | decide | (simp only [IntKind.bits]; omega)) (by decide) ?_
        | refine WpL.shr rfl rfl (by first | decide | (simp only [IntKind.bits]; omega)) (by decide) ?_)
      | (refine K.ld ?_; first
        | refine WpL.loadInts tabOk rfl rfl rfl (by first | omega | (simp; omega)) (by decide) ?_
        | refine WpL.loadU8s tabOk rfl rfl rfl (by first | omega | (simp; omega)) (by decide) ?_
        | refine WpL.loadStrs tabOk rfl rfl rfl (by first | omega | (simp; omega)) (by decide) ?_
        | refine WpL.loadBools tabOk rfl rfl rfl (by first | omega | (simp; omega)) (by decide) ?_
        | refine WpL.load1 tabOk rfl rfl rfl rfl rfl (by decide) ?_)
      | (refine K.asg ?_; refine WpL.assign rfl (by decide) ?_)
      | (refine K.fld ?_; first
        | refine WpL.fieldI tabOk rfl rfl rfl (by decide) ?_
        | refine WpL.fieldP tabOk rfl rfl rfl rfl rfl (by decide) ?_)
      | (refine K.ixa ?_; first
        | refine WpL.idxI tabOk rfl rfl rfl (by omega) (by decide) ?_
        | refine WpL.idxO tabOk rfl rfl rfl rfl rfl (by omega) (by decide) ?_)
      | (refine K.ix ?_; refine WpL.idxStr tabOk rfl rfl rfl (by omega) (by decide) ?_)
      | (refine K.bi ?_; first
        | refine WpL.lenImm (TabOk.slice tabOk rfl).1 rfl (by decide) ?_
        | refine WpL.lenOwn (TabOk.slice tabOk rfl).1 rfl rfl rfl (by decide) ?_
        | refine WpL.lenNil (TabOk.slice tabOk rfl).1 rfl (by decide) ?_
        | refine WpL.lenStr (K.tyStr tabOk rfl) rfl (by decide) ?_
        | refine WpL.app1Ints tabOk rfl rfl rfl (Nat.zero_le _) rfl rfl (by first | rfl | omega | (simp; done) | (simp; omega)) (by omega) (by decide) ?_
        | refine WpL.appInts tabOk rfl rfl rfl (Nat.zero_le _) rfl rfl (by first | rfl | omega | (simp; done) | (simp; omega)) (by first | rfl | omega | (simp; done) | (simp; omega)) (by omega) (by decide) ?_
        | refine WpL.nil1Ints tabOk rfl rfl rfl rfl (by omega) rfl (by decide) ?_
        | refine WpL.app1U8s tabOk rfl rfl rfl (Nat.zero_le _) rfl rfl (by first | rfl | omega | (simp; done) | (simp; omega)) (by omega) (by decide) ?_
        | refine WpL.appU8s tabOk rfl rfl rfl (Nat.zero_le _) rfl rfl (by first | rfl | omega | (simp; done) | (simp; omega)) (by first | rfl | omega | (simp; done) | (simp; omega)) (by omega) (by decide) ?_
        | refine WpL.nil1U8s tabOk rfl rfl rfl rfl (by omega) rfl (by decide) ?_
        | refine WpL.app1Strs tabOk rfl rfl rfl (Nat.zero_le _) rfl rfl (by first | rfl | omega | (simp; done) | (simp; omega)) (by omega) (by decide) ?_
        | refine WpL.appStrs tabOk rfl rfl rfl (Nat.zero_le _) rfl rfl (by first | rfl | omega | (simp; done) | (simp; omega)) (by first | rfl | omega | (simp; done) | (simp; omega)) (by omega) (by decide) ?_
        | refine WpL.nil1Strs tabOk rfl rfl rfl rfl (by omega) rfl (by decide) ?_
        | refine WpL.appOwn tabOk rfl rfl rfl rfl rfl rfl (by simp) (Nat.zero_le _) rfl rfl (by simp) (by simp [all_ints, all_u8s, all_strs, oneB, Value.oneCell']) (by omega) (by decide) ?_
        | refine WpL.appNil tabOk rfl rfl rfl rfl (by simp) (by simp [all_ints, all_u8s, all_strs, oneB, Value.oneCell']) (by omega) rfl (by decide) ?_
        | refine WpL.min2 rfl rfl (by decide) ?_
        | refine WpL.max2 rfl rfl (by decide) ?_)
      | (refine K.un ?_; first
        | refine WpL.not rfl (by decide) ?_
        | refine WpL.neg rfl (by omega) (by decide) ?_)
      | (refine K.pick ?_; first
        | refine WpL.pickT rfl rfl (by decide) ?_
        | refine WpL.pickF rfl rfl (by decide) ?_)
      | (refine K.ext ?_; refine WpL.extract rfl rfl (by first | decide | simp [AV.shL]) (by decide) ?_)
      | (refine K.cv ?_; first
        | refine WpL.convI (P := Try.prog) (by rfl) (K.tyInt tabOk rfl) rfl (by omega) (by decide) ?_
        | refine WpL.conv (P := Try.prog) (by rfl) (K.tyInt tabOk rfl) rfl (by decide) ?_
        | refine WpL.toBytes tabOk rfl rfl rfl rfl (by omega) rfl (by decide) ?_
        | refine WpL.ofBytes tabOk rfl rfl rfl rfl rfl (by simp) (by decide) ?_)
      | (refine K.lit ?_; first
        | refine WpL.lit0U8s tabOk rfl rfl rfl (by decide) ?_
        | refine WpL.lit0Ints tabOk rfl rfl rfl (by decide) ?_
        | refine WpL.lit0Bools tabOk rfl rfl rfl (by decide) ?_
        | refine WpL.lit0Strs tabOk rfl rfl rfl (by decide) ?_
        | refine WpL.litF tabOk rfl rfl rfl rfl (by decide) rfl (by decide) ?_)
      | (refine K.ms ?_; first
        | refine WpL.makeInts tabOk rfl rfl rfl (by omega) (by omega) rfl (by decide) ?_
        | refine WpL.makeStrs tabOk rfl rfl rfl (by omega) (by omega) rfl (by decide) ?_
        | refine WpL.makeBools tabOk rfl rfl rfl (by omega) (by omega) rfl (by decide) ?_
        | refine WpL.makeU8s tabOk rfl rfl rfl (by omega) (by omega) rfl (by decide) ?_)
      | (refine K.st ?_; first
        | refine WpL.storeInts tabOk rfl rfl rfl rfl rfl (by first | omega | (simp; omega)) ?_
        | refine WpL.storeU8s tabOk rfl rfl rfl rfl rfl (by first | omega | (simp; omega)) ?_
        | refine WpL.storeBools tabOk rfl rfl rfl rfl rfl (by first | omega | (simp; omega)) ?_
        | refine WpL.storeStrs tabOk rfl rfl rfl rfl rfl (by first | omega | (simp; omega)) ?_
        | refine WpL.store tabOk rfl rfl rfl rfl rfl rfl rfl rfl (by first | omega | (simp; omega) | (simp; done)) ?_)
      | (refine K.all ?_; first
        | refine WpL.allocStruct tabOk rfl rfl (by decide) ?_
        | refine WpL.allocPlain tabOk rfl rfl rfl (by decide) ?_)
      | (refine K.box ?_; refine WpL.box rfl rfl rfl (by decide) ?_)
      | (refine K.nc ?_; first
        | refine WpL.nilCheckP rfl rfl rfl (by decide) ?_
        | refine WpL.nilCheckI rfl (by decide) ?_)
      | (refine K.sl ?_; first
        | refine WpL.subStr tabOk rfl rfl (by first | exact .inl ⟨rfl, rfl⟩ | exact .inr ⟨_, _, rfl, rfl⟩) (by first | exact .inl ⟨rfl, rfl⟩ | exact .inr ⟨_, _, rfl, rfl⟩) (by omega) (by decide) ?_
        | refine WpL.subImm tabOk rfl rfl (by first | exact .inl ⟨rfl, rfl⟩ | exact .inr ⟨_, _, rfl, rfl⟩) (by first | exact .inl ⟨rfl, rfl⟩ | exact .inr ⟨_, _, rfl, rfl⟩) (by omega) (by decide) ?_)
      | (refine K.gd ?_; first
        | refine K.gT rfl (by decide) rfl ?_
        | refine K.gF rfl (by decide) rfl ?_
        | refine K.gD rfl rfl (fun _ => ?_) (fun _ => ?_)
        | refine K.gN rfl rfl (fun _ => ?_) (fun _ => ?_)
        | refine K.gS rfl rfl (fun _ => ?_) (fun _ => ?_)))
    | refine WpL.nil ?_
    | refine Abs.Seq.n ?_
    | (refine K.A ?_; first
      | refine WpA.seq ?_
      | refine WpA.region ?_
      | (refine K.cond ?_; first
        | refine WpA.condT rfl ?_
        | refine WpA.condF rfl ?_
        | refine WpA.condD rfl (fun _ => ?_) (fun _ => ?_)
        | refine WpA.condN rfl (fun _ => ?_) (fun _ => ?_)
        | refine WpA.condS rfl (fun _ => ?_) (fun _ => ?_))
      | refine WpA.block ?_
      | refine WpA.ret ?_
      | refine WpA.exit ?_
      | refine WpA.skip ?_
      | apply WpA.regionM 1 mixed (by decide +kernel)
      | apply WpA.regionM 2 mixed (by decide +kernel)
      | apply WpA.regionM 3 mixed (by decide +kernel)
      | apply WpA.regionM 4 mixed (by decide +kernel)
      | apply WpA.regionM 5 mixed (by decide +kernel)
      | apply WpA.regionM 6 mixed (by decide +kernel)
      | apply WpA.regionM 7 mixed (by decide +kernel)
      | apply WpA.regionM 8 mixed (by decide +kernel)
      | apply WpA.regionM 9 mixed (by decide +kernel)
      | apply WpA.regionM 10 mixed (by decide +kernel)
      | apply WpA.regionM 11 mixed (by decide +kernel)
      | apply WpA.regionM 12 mixed (by decide +kernel)
      | apply WpA.regionM 13 mixed (by decide +kernel)
      | apply WpA.regionM 14 mixed (by decide +kernel)
      | apply WpA.regionM 15 mixed (by decide +kernel)
      | apply WpA.regionM 16 mixed (by decide +kernel)
      | apply WpA.regionM 17 mixed (by decide +kernel)
      | apply WpA.regionM 18 mixed (by decide +kernel)
      | apply WpA.regionM 19 mixed (by decide +kernel)
      | apply WpA.regionM 20 mixed (by decide +kernel)
      | apply WpA.regionM 21 mixed (by decide +kernel)
      | apply WpA.regionM 22 mixed (by decide +kernel)
      | apply WpA.regionM 23 mixed (by decide +kernel)
      | apply WpA.regionM 24 mixed (by decide +kernel)
      | apply WpA.regionM 25 mixed (by decide +kernel)
      | apply WpA.regionM 26 mixed (by decide +kernel)
      | apply WpA.regionM 27 mixed (by decide +kernel)
      | apply WpA.regionM 28 mixed (by decide +kernel)
      | apply WpA.regionM 29 mixed (by decide +kernel)
      | apply WpA.regionM 30 mixed (by decide +kernel)
      | apply WpA.regionM 31 mixed (by decide +kernel)
      | apply WpA.regionM 32 mixed (by decide +kernel)
      | refine WpA.regionD mixed (by decide +kernel) ?_)
    | refine Abs.Seq.ret ?_
    | refine Abs.Seq.exit ?_
    | refine Blk.n ?_
    | refine Blk.ret ?_
    | refine Blk.exitHere ?_
    | refine Blk.exitOther rfl ?_
    | refine Rnd.ret ?_
    | refine Rnd.exit ?_
    | exact Only.mk rfl
    | exact Abs.HeadJ.nil
    | apply Abs.HeadJ.cons rfl
    | (apply K.depT; simp only [deps, List.toList_toArray, List.filterMap_cons, List.filterMap_nil, Region.binds, if_true, List.nil_append, List.cons_append, List.getElem?_cons_succ, List.getElem?_cons_zero, List.getElem?_nil, reduceCtorEq, Bool.true_or, Bool.or_true]; exact rfl)
    | refine fun Tv => K.L ?_
    | (apply K.appT; simp only [List.nil_append, List.cons_append, List.append_assoc]; exact rfl)
    | (refine K.isTrue ?_; kernel_rfl)
    | exact rfl
    | contradiction
    | omega)
  all_goals refine Abs.Fin.ret (.one (.tmp rfl) .nil (by decide) (.keep ?_ rfl rfl .nil))
  all_goals rfl
end Go.Proofs.Ytlioigidpeofnaa
