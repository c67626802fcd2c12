/- Proved in this text: lemmas and contracts of functions that the claim uses (parts: Go, Base, Frame, TxP, GoR, AbsEq, AbsFl, AbsYr). No condition. -/
import Derived.Test.YtkckmenalehdpaaShM3
import Derived.Test.YtkckmenalehdpaaShM4
import Derived.Laws.StructEq
set_option linter.unusedVariables false
set_option linter.unusedSimpArgs false
set_option maxRecDepth 100000
set_option maxHeartbeats 4000000


namespace Go.Proofs.Ytkckmenalehdpaa
open Go Go.Abs
theorem mixed:Try.prog.follows .mixedOrders=true:=by kernel_rfl
class Con (f:Nat) (C:outParam Prop):Prop where
 ok:C
class ConB (f:Nat) (C:outParam Prop):Prop where
 ok:C
class ConG (f:Nat) (C:outParam Prop):Prop where
 ok:C
class ConP (f:Nat) (C:outParam Prop):Prop where
 ok:C
abbrev Fn (f:Nat) (args:List AV) (N:List AObj) (r:AV):Prop:=FnC Try.prog f args N r
theorem K.con {n m:Nat} {G:Ctx} {σ:St} {Q:Exit→St→Prop} {md:Bool} {ops:Array Oper} {l:List Oper} {dd:Option Nat} {tt:TypeId} {pos:String} {after:Array Edge} {f:Nat} {C:Prop} {xs:Array Operand} {ats:Array TypeId} [i:Con f C]
 (h:C→WpL Try.prog n m G md ops ({dst:=dd,op:=.call {callee:=.value (.func f),args:=xs,argTypes:=ats},type:=tt,pos:=pos,after:=after,guard:=none}::l) σ Q):WpL Try.prog n m G md ops ({dst:=dd,op:=.call {callee:=.value (.func f),args:=xs,argTypes:=ats},type:=tt,pos:=pos,after:=after,guard:=none}::l) σ Q:=h i.ok
theorem K.conG {n m:Nat} {G:Ctx} {σ:St} {Q:Exit→St→Prop} {md:Bool} {ops:Array Oper} {l:List Oper} {dd:Option Nat} {tt:TypeId} {pos:String} {after:Array Edge} {f:Nat} {C:Prop} {xs:Array Operand} {ats:Array TypeId} [i:ConG f C]
 (h:C→WpL Try.prog n m G md ops ({dst:=dd,op:=.call {callee:=.value (.func f),args:=xs,argTypes:=ats},type:=tt,pos:=pos,after:=after,guard:=none}::l) σ Q):WpL Try.prog n m G md ops ({dst:=dd,op:=.call {callee:=.value (.func f),args:=xs,argTypes:=ats},type:=tt,pos:=pos,after:=after,guard:=none}::l) σ Q:=h i.ok
theorem K.conB {n m:Nat} {G:Ctx} {σ:St} {Q:Exit→St→Prop} {md:Bool} {ops:Array Oper} {l:List Oper} {dd:Option Nat} {tt:TypeId} {pos:String} {after:Array Edge} {f:Nat} {C:Prop} {xs:Array Operand} {ats:Array TypeId} [i:ConB f C]
 (h:C→WpL Try.prog n m G md ops ({dst:=dd,op:=.call {callee:=.value (.func f),args:=xs,argTypes:=ats},type:=tt,pos:=pos,after:=after,guard:=none}::l) σ Q):WpL Try.prog n m G md ops ({dst:=dd,op:=.call {callee:=.value (.func f),args:=xs,argTypes:=ats},type:=tt,pos:=pos,after:=after,guard:=none}::l) σ Q:=h i.ok
theorem K.conP {n m:Nat} {G:Ctx} {σ:St} {Q:Exit→St→Prop} {md:Bool} {ops:Array Oper} {l:List Oper} {dd:Option Nat} {tt:TypeId} {pos:String} {after:Array Edge} {f:Nat} {C:Prop} {xs:Array Operand} {ats:Array TypeId} [i:ConP f C]
 (h:C→WpL Try.prog n m G md ops ({dst:=dd,op:=.call {callee:=.value (.func f),args:=xs,argTypes:=ats},type:=tt,pos:=pos,after:=after,guard:=none}::l) σ Q):WpL Try.prog n m G md ops ({dst:=dd,op:=.call {callee:=.value (.func f),args:=xs,argTypes:=ats},type:=tt,pos:=pos,after:=after,guard:=none}::l) σ Q:=h i.ok
theorem snapA {O:List AObj} {vs us:List AV} (h:Snap O vs us:=by
 (repeat' (first
 |exact Snap.nil
 |refine Snap.fn ?_ ?_
 |refine Snap.keep rfl rfl ?_
 |refine Snap.ownL rfl rfl rfl ?_ ?_ ?_ ?_
 |refine Snap.agg ?_ ?_
 |refine Snap.nilI ?_
 |refine Snap.fre ?_ ?_
 |refine Snap.ptr rfl rfl ?_ ?_
 |exact Snap.same rfl (still_ints _) (nofre_ints _)
 |exact Snap.same rfl (still_u8s _) (nofre_u8s _)
 |exact Snap.same rfl (still_strs _) (nofre_strs _)
 |exact Snap.same rfl (still_bools _) (nofre_bools _)
 |exact Snap.same rfl (still_rows (fun _=>rfl) _) (nofre_rows (fun _=>rfl) _)
 |(apply K.eq;first|exact rfl|omega|(simp;done)|(simp;omega))
 ));first|done|fail):Snap O vs us:=h
theorem locA {vs:List AV} (h:Abs.Loc vs:=by
 (repeat' (first
 |exact Loc.nil
 |refine Loc.sc ?_
 |refine Loc.own ?_
 |refine Loc.nilS ?_
 |refine Loc.imm0 ?_
 |refine Loc.agg ?_ ?_
 |refine Loc.tup ?_ ?_
 ));first|done|fail):Abs.Loc vs:=h
theorem outA {N:List AObj} (h:Out N:=by
 (repeat' (first
 |exact Out.nil
 |refine Out.cons (still_ints _) (Loc.ints _) ?_
 |refine Out.cons (still_u8s _) (Loc.u8s _) ?_
 |refine Out.cons (still_strs _) (Loc.strs _) ?_
 |refine Out.cons (still_bools _) (Loc.bools _) ?_
 |refine Out.cons (still_rows (fun _=>rfl) _) (Loc.rows loc_pr _) ?_
 |refine Out.cons (still_rows (fun _=>rfl) _) (Loc.rows loc_blk _) ?_
 |refine Out.cons (still_rows (fun _=>rfl) _) (Loc.rows loc_mb _) ?_
 |refine Out.cons (still_rows (fun _=>rfl) _) (Loc.rows loc_fr _) ?_
 |refine Out.cons (still_rows (fun _=>rfl) _) (Loc.rows loc_pl _) ?_
 |refine Out.cons (still_rows (fun _=>rfl) _) (Loc.rows loc_li _) ?_
 |refine Out.cons rfl (by repeat' (first|exact Loc.nil|refine Loc.sc ?_|refine Loc.nilS ?_|refine Loc.fre ?_ ?_|exact Loc.ints _|exact Loc.u8s _|exact Loc.bools _|exact Loc.strs _);first|done|fail) ?_
 ));first|done|fail):Out N:=h
theorem handA {O:List AObj} {hs:List Nat} {M:List AObj} {vs us:List AV} (h:HandM O hs M vs us:=by
 (repeat' (first|fail));first|done|fail):HandM O hs M vs us:=h
theorem handOA {O:List AObj} {hs:List Nat} {M:List AObj} (h:HandO O hs M:=by
 (repeat' (first
 |exact HandO.nil
 |refine HandO.cons rfl rfl (still_ints _) rfl rfl (by first|exact .inl rfl|exact .inr rfl) ?_
 |refine HandO.cons rfl rfl (still_strs _) rfl rfl (by first|exact .inl rfl|exact .inr rfl) ?_
 |refine HandO.cons rfl rfl (still_bools _) rfl rfl (by first|exact .inl rfl|exact .inr rfl) ?_
 |refine HandO.cons rfl rfl (still_u8s _) rfl rfl (by first|exact .inl rfl|exact .inr rfl) ?_
 |refine HandO.cons rfl rfl (still_rows (fun _=>rfl) _) rfl rfl (by first|exact .inl rfl|exact .inr rfl) ?_
 |refine HandO.cons rfl rfl rfl rfl rfl (by first|exact .inl rfl|exact .inr rfl) ?_
 ));first|done|fail):HandO O hs M:=h
theorem in0 {X:Prop} (h:X:=by
 (repeat' (first
  |refine fun hgo=>?_
  |exact Only.mk rfl
  |refine WpL.nil ?_
  |(refine K.L ?_;first
   |(refine K.mv ?_;refine WpL.move rfl (by decide) ?_)
   |(refine K.asg ?_;refine WpL.assign rfl (by decide) ?_)
   |(refine K.bin ?_;first
    |refine WpL.add rfl rfl (by omega) (by decide) ?_
    |refine WpL.sub rfl rfl (by omega) (by decide) ?_
    |refine WpL.mul rfl rfl (by first|omega|exact mul_in (by omega) (by omega)|assumption) (by decide) ?_
    |refine WpL.quo rfl rfl (by omega) (by decide) ?_
    |refine WpL.rem rfl rfl (by omega) (by decide) ?_
    |refine WpL.bin rfl rfl rfl (by decide) ?_
    |refine WpL.strAdd rfl rfl (by first|omega|(simp only [List.length_append];omega)|(simp;omega)) (by decide) ?_
    |refine WpL.strNe rfl rfl (by decide) ?_
    |refine WpL.shr rfl rfl (by first|decide|(simp only [IntKind.bits];omega)) (by decide) ?_)
   |(refine K.ld ?_;first
    |refine WpL.loadInts tabOk rfl rfl rfl (by first|omega|(simp;omega)) (by decide) ?_
    |refine WpL.load1 tabOk rfl rfl rfl rfl rfl (by decide) ?_
    |refine WpL.loadAgg (ds:=[_]) tabOk rfl rfl rfl rfl rfl (by decide) ?_
    |refine WpL.loadAgg (ds:=[_,_]) tabOk rfl rfl rfl rfl rfl (by decide) ?_
    |refine WpL.loadAgg (ds:=[_,_,_]) tabOk rfl rfl rfl rfl rfl (by decide) ?_
    |refine WpL.loadAgg (ds:=[_,_,_,_]) tabOk rfl rfl rfl rfl rfl (by decide) ?_
    |refine WpL.loadAgg (ds:=[_,_,_,_,_]) tabOk rfl rfl rfl rfl rfl (by decide) ?_
    |refine WpL.loadAgg (ds:=[_,_,_,_,_,_]) tabOk rfl rfl rfl rfl rfl (by decide) ?_
    |refine WpL.loadAgg (ds:=[_,_,_,_,_,_,_]) tabOk rfl rfl rfl rfl rfl (by decide) ?_
    |refine WpL.loadAgg (ds:=[_,_,_,_,_,_,_,_]) tabOk rfl rfl rfl rfl rfl (by decide) ?_)
   |(refine K.fld ?_;first
    |refine WpL.fieldP tabOk rfl rfl rfl rfl rfl (by decide) ?_)
   |(refine K.ixa ?_;first
    |refine WpL.idxI1 tabOk rfl rfl rfl (by omega) (by decide) ?_
    |refine WpL.idxOJ tabOk rfl rfl rfl rfl rfl (by omega) (by decide) ?_
    |refine WpL.idxI tabOk rfl rfl rfl (by omega) (by decide) ?_
    |refine WpL.idxO tabOk rfl rfl rfl rfl rfl (by omega) (by decide) ?_)
   |(refine K.call ?_;refine K.con (fun hcon=>?_);first
    |(refine WpL.call0 (hcon _ _ _ _ _ _ _ _ _ _ _ _ _ _ _ _ _ _) snapA locA rfl rfl (by decide) ?_<;>clear hcon))
   |(refine K.ix ?_;first
    |refine WpL.idxStr1 tabOk rfl rfl rfl (by omega) (by decide) (fun hgo=>?_)
    |refine WpL.idxStrB tabOk rfl rfl rfl (by omega) (by decide) (fun hgo=>?_))
   |(refine K.bi ?_;first
    |(refine K.blen ?_;first
     |refine WpL.lenImm (TabOk.slice tabOk rfl).1 rfl (by decide) ?_
     |refine WpL.lenOwn (TabOk.slice tabOk rfl).1 rfl rfl rfl (by decide) ?_
     |refine WpL.lenStr (K.tyStr tabOk rfl) rfl (by decide) ?_)
    |(refine K.bapp ?_;first
     |refine WpL.app1U8s tabOk rfl rfl rfl (by first|exact Nat.zero_le _|exact Nat.le_of_ble_eq_true rfl) rfl rfl (by first|rfl|omega|(simp;done)|(simp;omega)) (by omega) (by decide) ?_
     |refine WpL.appU8s tabOk rfl rfl rfl (by first|exact Nat.zero_le _|exact Nat.le_of_ble_eq_true rfl) rfl rfl (by first|rfl|omega|(simp;done)|(simp;omega)) (by first|rfl|omega|(simp;done)|(simp;omega)) (by omega) (by decide) ?_
     |refine WpL.appOwn tabOk rfl rfl rfl rfl rfl rfl (by simp) (by first|exact Nat.zero_le _|exact Nat.le_of_ble_eq_true rfl) rfl rfl (by simp) (by simp [all_ints,all_u8s,all_strs,oneB,Value.oneCell']) (by omega) (by decide) ?_))
   |(refine K.un ?_;first
    |refine WpL.not rfl (by decide) ?_)
   |(refine K.pick ?_;first
    |refine WpL.pickT rfl rfl (by decide) ?_
    |refine WpL.pickF rfl rfl (by decide) ?_)
   |(refine K.bld ?_;refine WpL.build tabOk rfl rfl (by kernel_rfl) (by decide) ?_)
   |(refine K.cv ?_;first
    |refine WpL.convI (P:=Try.prog) (by rfl) (K.tyInt tabOk rfl) rfl (by omega) (by decide) ?_
    |refine WpL.conv (P:=Try.prog) (by rfl) (K.tyInt tabOk rfl) rfl (by decide) ?_
    |refine WpL.ofBytes tabOk rfl rfl rfl rfl rfl (by simp) (by decide) ?_)
   |(refine K.lit ?_;first
    |refine WpL.lit0U8s tabOk rfl rfl rfl (by decide) ?_
    |refine WpL.litU8s tabOk rfl rfl rfl rfl rfl (by decide) rfl (by decide) ?_
    |refine WpL.litF tabOk rfl rfl rfl rfl (by decide) rfl (by decide) ?_)
   |(refine K.ms ?_;first
    |refine WpL.makeInts tabOk rfl rfl rfl (by omega) (by omega) rfl (by decide) ?_)
   |(refine K.st ?_;first
    |refine WpL.storeInts tabOk rfl rfl rfl rfl rfl (by first|omega|(simp;omega)) ?_
    |refine WpL.storeS tabOk rfl rfl rfl rfl rfl rfl rfl rfl (by first|decide|omega|(simp;omega)|(simp;done)) (by first|(simp only [Go.Abs.setL,List.set_cons_zero,List.set_cons_succ,Nat.zero_add,Nat.reduceAdd];exact rfl)|exact rfl) ?_)
   |(refine K.all ?_;first
    |refine WpL.allocB (b:=bldT) tabOk rfl rfl rfl (by decide) ?_
    |refine WpL.allocStruct tabOk rfl rfl (by decide) ?_)
   |(refine K.box ?_;refine WpL.box rfl rfl rfl (by decide) ?_)
   |(refine K.nc ?_;first
    |refine WpL.nilCheckP rfl rfl rfl (by decide) ?_))
  |(refine K.le ?_;first|omega|(simp;omega)|assumption)
  |(refine K.lt ?_;first|omega|(simp;omega)|assumption)
  |refine And.intro ?_ ?_
  |omega
  |assumption
  |(simp;done)))
 first|done|fail):X:=h
theorem in1 {X:Prop} (h:X:=by
 (repeat' (first
  |refine fun hgo=>?_
  |exact Only.mk rfl
  |refine WpL.nil ?_
  |(refine K.L ?_;first
   |(refine K.mv ?_;refine WpL.move rfl (by decide) ?_)
   |(refine K.asg ?_;refine WpL.assign rfl (by decide) ?_)
   |(refine K.bin ?_;first
    |refine WpL.add rfl rfl (by omega) (by decide) ?_
    |refine WpL.sub rfl rfl (by omega) (by decide) ?_
    |refine WpL.mul rfl rfl (by first|omega|exact mul_in (by omega) (by omega)|assumption) (by decide) ?_
    |refine WpL.quo rfl rfl (by omega) (by decide) ?_
    |refine WpL.rem rfl rfl (by omega) (by decide) ?_
    |refine WpL.bin rfl rfl rfl (by decide) ?_
    |refine WpL.strAdd rfl rfl (by first|omega|(simp only [List.length_append];omega)|(simp;omega)) (by decide) ?_
    |refine WpL.strNe rfl rfl (by decide) ?_
    |refine WpL.shr rfl rfl (by first|decide|(simp only [IntKind.bits];omega)) (by decide) ?_)
   |(refine K.ld ?_;first
    |refine WpL.loadInts tabOk rfl rfl rfl (by first|omega|(simp;omega)) (by decide) ?_
    |refine WpL.load1 tabOk rfl rfl rfl rfl rfl (by decide) ?_
    |refine WpL.loadAgg (ds:=[_]) tabOk rfl rfl rfl rfl rfl (by decide) ?_
    |refine WpL.loadAgg (ds:=[_,_]) tabOk rfl rfl rfl rfl rfl (by decide) ?_
    |refine WpL.loadAgg (ds:=[_,_,_]) tabOk rfl rfl rfl rfl rfl (by decide) ?_
    |refine WpL.loadAgg (ds:=[_,_,_,_]) tabOk rfl rfl rfl rfl rfl (by decide) ?_
    |refine WpL.loadAgg (ds:=[_,_,_,_,_]) tabOk rfl rfl rfl rfl rfl (by decide) ?_
    |refine WpL.loadAgg (ds:=[_,_,_,_,_,_]) tabOk rfl rfl rfl rfl rfl (by decide) ?_
    |refine WpL.loadAgg (ds:=[_,_,_,_,_,_,_]) tabOk rfl rfl rfl rfl rfl (by decide) ?_
    |refine WpL.loadAgg (ds:=[_,_,_,_,_,_,_,_]) tabOk rfl rfl rfl rfl rfl (by decide) ?_)
   |(refine K.fld ?_;first
    |refine WpL.fieldP tabOk rfl rfl rfl rfl rfl (by decide) ?_)
   |(refine K.ixa ?_;first
    |refine WpL.idxI1 tabOk rfl rfl rfl (by omega) (by decide) ?_
    |refine WpL.idxOJ tabOk rfl rfl rfl rfl rfl (by omega) (by decide) ?_
    |refine WpL.idxI tabOk rfl rfl rfl (by omega) (by decide) ?_
    |refine WpL.idxO tabOk rfl rfl rfl rfl rfl (by omega) (by decide) ?_)
   |(refine K.call ?_;refine K.con (fun hcon=>?_);first
    |(refine WpL.callF (hcon ?_) snapA locA outA rfl rfl rfl (by decide) ?_<;>clear hcon)
    |(refine WpL.callF (hcon) snapA locA outA rfl rfl rfl (by decide) ?_<;>clear hcon)
    |(refine WpL.callF (hcon _ ?_) snapA locA outA rfl rfl rfl (by decide) ?_<;>clear hcon)
    |(refine WpL.callF (hcon _) snapA locA outA rfl rfl rfl (by decide) ?_<;>clear hcon)
    |(refine WpL.callF (hcon _ _ ?_) snapA locA outA rfl rfl rfl (by decide) ?_<;>clear hcon)
    |(refine WpL.callF (hcon _ _) snapA locA outA rfl rfl rfl (by decide) ?_<;>clear hcon)
    |(refine WpL.callF (hcon _ _ _ ?_) snapA locA outA rfl rfl rfl (by decide) ?_<;>clear hcon)
    |(refine WpL.callF (hcon _ _ _) snapA locA outA rfl rfl rfl (by decide) ?_<;>clear hcon)
    |(refine WpL.callF (hcon _ _ _ _ ?_) snapA locA outA rfl rfl rfl (by decide) ?_<;>clear hcon)
    |(refine WpL.callF (hcon _ _ _ _) snapA locA outA rfl rfl rfl (by decide) ?_<;>clear hcon)
    |(refine WpL.callF (hcon _ _ _ _ _ ?_) snapA locA outA rfl rfl rfl (by decide) ?_<;>clear hcon)
    |(refine WpL.callF (hcon _ _ _ _ _) snapA locA outA rfl rfl rfl (by decide) ?_<;>clear hcon)
    |(refine WpL.callF (hcon _ _ _ _ _ _ ?_) snapA locA outA rfl rfl rfl (by decide) ?_<;>clear hcon)
    |(refine WpL.callF (hcon _ _ _ _ _ _) snapA locA outA rfl rfl rfl (by decide) ?_<;>clear hcon)
    |(refine WpL.callF (hcon _ _ _ _ _ _ _ ?_) snapA locA outA rfl rfl rfl (by decide) ?_<;>clear hcon)
    |(refine WpL.callF (hcon _ _ _ _ _ _ _) snapA locA outA rfl rfl rfl (by decide) ?_<;>clear hcon)
    |(refine WpL.callF (hcon _ _ _ _ _ _ _ _ ?_) snapA locA outA rfl rfl rfl (by decide) ?_<;>clear hcon)
    |(refine WpL.callF (hcon _ _ _ _ _ _ _ _) snapA locA outA rfl rfl rfl (by decide) ?_<;>clear hcon)
    |(refine WpL.callF (hcon _ _ _ _ _ _ _ _ _ ?_) snapA locA outA rfl rfl rfl (by decide) ?_<;>clear hcon)
    |(refine WpL.callF (hcon _ _ _ _ _ _ _ _ _) snapA locA outA rfl rfl rfl (by decide) ?_<;>clear hcon)
    |(refine WpL.callF (hcon _ _ _ _ _ _ _ _ _ _ ?_) snapA locA outA rfl rfl rfl (by decide) ?_<;>clear hcon)
    |(refine WpL.callF (hcon _ _ _ _ _ _ _ _ _ _) snapA locA outA rfl rfl rfl (by decide) ?_<;>clear hcon)
    |(refine WpL.callF (hcon _ _ _ _ _ _ _ _ _ _ _ ?_) snapA locA outA rfl rfl rfl (by decide) ?_<;>clear hcon)
    |(refine WpL.callF (hcon _ _ _ _ _ _ _ _ _ _ _) snapA locA outA rfl rfl rfl (by decide) ?_<;>clear hcon)
    |(refine WpL.callF (hcon _ _ _ _ _ _ _ _ _ _ _ _ ?_) snapA locA outA rfl rfl rfl (by decide) ?_<;>clear hcon)
    |(refine WpL.callF (hcon _ _ _ _ _ _ _ _ _ _ _ _) snapA locA outA rfl rfl rfl (by decide) ?_<;>clear hcon)
    |(refine WpL.callF (hcon _ _ _ _ _ _ _ _ _ _ _ _ _ ?_) snapA locA outA rfl rfl rfl (by decide) ?_<;>clear hcon)
    |(refine WpL.callF (hcon _ _ _ _ _ _ _ _ _ _ _ _ _) snapA locA outA rfl rfl rfl (by decide) ?_<;>clear hcon)
    |(refine WpL.callF (hcon _ _ _ _ _ _ _ _ _ _ _ _ _ _ ?_) snapA locA outA rfl rfl rfl (by decide) ?_<;>clear hcon)
    |(refine WpL.callF (hcon _ _ _ _ _ _ _ _ _ _ _ _ _ _) snapA locA outA rfl rfl rfl (by decide) ?_<;>clear hcon)
    |(refine WpL.callF (hcon _ _ _ _ _ _ _ _ _ _ _ _ _ _ _ ?_) snapA locA outA rfl rfl rfl (by decide) ?_<;>clear hcon)
    |(refine WpL.callF (hcon _ _ _ _ _ _ _ _ _ _ _ _ _ _ _) snapA locA outA rfl rfl rfl (by decide) ?_<;>clear hcon)
    |(refine WpL.callF (hcon _ _ _ _ _ _ _ _ _ _ _ _ _ _ _ _ ?_) snapA locA outA rfl rfl rfl (by decide) ?_<;>clear hcon)
    |(refine WpL.callF (hcon _ _ _ _ _ _ _ _ _ _ _ _ _ _ _ _) snapA locA outA rfl rfl rfl (by decide) ?_<;>clear hcon)
    |(refine WpL.callF (hcon _ _ _ _ _ _ _ _ _ _ _ _ _ _ _ _ _ ?_) snapA locA outA rfl rfl rfl (by decide) ?_<;>clear hcon)
    |(refine WpL.callF (hcon _ _ _ _ _ _ _ _ _ _ _ _ _ _ _ _ _) snapA locA outA rfl rfl rfl (by decide) ?_<;>clear hcon)
    |(refine WpL.callF (hcon _ _ _ _ _ _ _ _ _ _ _ _ _ _ _ _ _ _ ?_) snapA locA outA rfl rfl rfl (by decide) ?_<;>clear hcon)
    |(refine WpL.callF (hcon _ _ _ _ _ _ _ _ _ _ _ _ _ _ _ _ _ _) snapA locA outA rfl rfl rfl (by decide) ?_<;>clear hcon))
   |(refine K.call ?_;refine K.conG (fun hcon=>?_);first
    |(refine WpL.callM0 (hs:=[_,_,_,_]) (hcon _ _ _ _ _ _ _ _) handA handOA rfl rfl outA outA rfl rfl rfl rfl ?_<;>clear hcon))
   |(refine K.call ?_;refine K.conB (fun hcon=>?_);first
    |(refine WpL.callB (hcon _ _ _ _ _ _ _ _) snapA locA outA locA outA rfl rfl rfl rfl rfl (by decide) ?_ ?_<;>clear hcon))
   |(refine K.call ?_;refine K.conP (fun hcon=>?_);first
    |(refine WpL.callP (hs:=[_]) (hcon _ _ _ _ _ _ _ _ _ _) (by assumption) handA handOA rfl rfl (.cons rfl (.sc (.sc (.sc .nil))) .nil) outA rfl rfl rfl rfl (by decide) ?_<;>clear hcon))
   |(refine K.ix ?_;first
    |refine WpL.idxStr1 tabOk rfl rfl rfl (by omega) (by decide) (fun hgo=>?_)
    |refine WpL.idxStrB tabOk rfl rfl rfl (by omega) (by decide) (fun hgo=>?_))
   |(refine K.bi ?_;first
    |(refine K.blen ?_;first
     |refine WpL.lenImm (TabOk.slice tabOk rfl).1 rfl (by decide) ?_
     |refine WpL.lenOwn (TabOk.slice tabOk rfl).1 rfl rfl rfl (by decide) ?_
     |refine WpL.lenStr (K.tyStr tabOk rfl) rfl (by decide) ?_)
    |(refine K.bapp ?_;first
     |refine WpL.app1U8s tabOk rfl rfl rfl (by first|exact Nat.zero_le _|exact Nat.le_of_ble_eq_true rfl) rfl rfl (by first|rfl|omega|(simp;done)|(simp;omega)) (by omega) (by decide) ?_
     |refine WpL.appU8s tabOk rfl rfl rfl (by first|exact Nat.zero_le _|exact Nat.le_of_ble_eq_true rfl) rfl rfl (by first|rfl|omega|(simp;done)|(simp;omega)) (by first|rfl|omega|(simp;done)|(simp;omega)) (by omega) (by decide) ?_
     |refine WpL.appOwn tabOk rfl rfl rfl rfl rfl rfl (by simp) (by first|exact Nat.zero_le _|exact Nat.le_of_ble_eq_true rfl) rfl rfl (by simp) (by simp [all_ints,all_u8s,all_strs,oneB,Value.oneCell']) (by omega) (by decide) ?_))
   |(refine K.un ?_;first
    |refine WpL.not rfl (by decide) ?_)
   |(refine K.pick ?_;first
    |refine WpL.pickT rfl rfl (by decide) ?_
    |refine WpL.pickF rfl rfl (by decide) ?_)
   |(refine K.bld ?_;refine WpL.build tabOk rfl rfl (by kernel_rfl) (by decide) ?_)
   |(refine K.cv ?_;first
    |refine WpL.convI (P:=Try.prog) (by rfl) (K.tyInt tabOk rfl) rfl (by omega) (by decide) ?_
    |refine WpL.conv (P:=Try.prog) (by rfl) (K.tyInt tabOk rfl) rfl (by decide) ?_
    |refine WpL.ofBytes tabOk rfl rfl rfl rfl rfl (by simp) (by decide) ?_)
   |(refine K.lit ?_;first
    |refine WpL.lit0U8s tabOk rfl rfl rfl (by decide) ?_
    |refine WpL.litU8s tabOk rfl rfl rfl rfl rfl (by decide) rfl (by decide) ?_
    |refine WpL.litF tabOk rfl rfl rfl rfl (by decide) rfl (by decide) ?_)
   |(refine K.ms ?_;first
    |refine WpL.makeInts tabOk rfl rfl rfl (by omega) (by omega) rfl (by decide) ?_)
   |(refine K.st ?_;first
    |refine WpL.storeInts tabOk rfl rfl rfl rfl rfl (by first|omega|(simp;omega)) ?_
    |refine WpL.storeS tabOk rfl rfl rfl rfl rfl rfl rfl rfl (by first|decide|omega|(simp;omega)|(simp;done)) (by first|(simp only [Go.Abs.setL,List.set_cons_zero,List.set_cons_succ,Nat.zero_add,Nat.reduceAdd];exact rfl)|exact rfl) ?_)
   |(refine K.all ?_;first
    |refine WpL.allocB (b:=bldT) tabOk rfl rfl rfl (by decide) ?_
    |refine WpL.allocStruct tabOk rfl rfl (by decide) ?_)
   |(refine K.box ?_;refine WpL.box rfl rfl rfl (by decide) ?_)
   |(refine K.nc ?_;first
    |refine WpL.nilCheckP rfl rfl rfl (by decide) ?_))
  |(refine K.le ?_;first|omega|(simp;omega)|assumption)
  |(refine K.lt ?_;first|omega|(simp;omega)|assumption)
  |refine And.intro ?_ ?_
  |omega
  |assumption
  |(simp;done)))
 first|done|fail):X:=h
theorem headA {X:Prop} (h:X:=by
 (repeat' (first
 |exact Abs.HeadN.nil
 |exact Abs.HeadJ.nil
 |(apply HeadJ.consF rfl
   ·exact rfl
   ·exact in1
   ·exact rfl)
 |(apply HeadN.pureF rfl
   ·exact rfl
   ·exact rfl
   ·exact rfl
   ·exact in0
   ·exact rfl)
 |(apply HeadN.prodF rfl
   ·exact rfl
   ·exact rfl
   ·exact in1
   ·intro hgo;cases hgo
   ·exact rfl
   ·exact rfl
   ·exact rfl)
 |exact Abs.HeadG.nil))
 first|done|fail):X:=h
theorem trueA {b:Bool} (h:TrueB b:=by (refine TrueB.mk ?_;kernel_rfl)):TrueB b:=h
theorem go {P R:Prop} (h:(Hold R→P)∧IsT R:=by
 refine And.intro ?_ ?_
 ·intro hold
  repeat' (first
  |(refine K.L ?_;first
   |(refine K.mv ?_;refine WpL.move rfl (by decide) ?_)
   |(refine K.asg ?_;refine WpL.assign rfl (by decide) ?_)
   |(refine K.bin ?_;first
    |refine WpL.add rfl rfl (by omega) (by decide) ?_
    |refine WpL.sub rfl rfl (by omega) (by decide) ?_
    |refine WpL.mul rfl rfl (by first|omega|exact mul_in (by omega) (by omega)|assumption) (by decide) ?_
    |refine WpL.quo rfl rfl (by omega) (by decide) ?_
    |refine WpL.rem rfl rfl (by omega) (by decide) ?_
    |refine WpL.bin rfl rfl rfl (by decide) ?_
    |refine WpL.strAdd rfl rfl (by first|omega|(simp only [List.length_append];omega)|(simp;omega)) (by decide) ?_
    |refine WpL.strNe rfl rfl (by decide) ?_
    |refine WpL.shr rfl rfl (by first|decide|(simp only [IntKind.bits];omega)) (by decide) ?_)
   |(refine K.ld ?_;first
    |refine WpL.loadInts tabOk rfl rfl rfl (by first|omega|(simp;omega)) (by decide) ?_
    |refine WpL.load1 tabOk rfl rfl rfl rfl rfl (by decide) ?_
    |refine WpL.loadAgg (ds:=[_]) tabOk rfl rfl rfl rfl rfl (by decide) ?_
    |refine WpL.loadAgg (ds:=[_,_]) tabOk rfl rfl rfl rfl rfl (by decide) ?_
    |refine WpL.loadAgg (ds:=[_,_,_]) tabOk rfl rfl rfl rfl rfl (by decide) ?_
    |refine WpL.loadAgg (ds:=[_,_,_,_]) tabOk rfl rfl rfl rfl rfl (by decide) ?_
    |refine WpL.loadAgg (ds:=[_,_,_,_,_]) tabOk rfl rfl rfl rfl rfl (by decide) ?_
    |refine WpL.loadAgg (ds:=[_,_,_,_,_,_]) tabOk rfl rfl rfl rfl rfl (by decide) ?_
    |refine WpL.loadAgg (ds:=[_,_,_,_,_,_,_]) tabOk rfl rfl rfl rfl rfl (by decide) ?_
    |refine WpL.loadAgg (ds:=[_,_,_,_,_,_,_,_]) tabOk rfl rfl rfl rfl rfl (by decide) ?_)
   |(refine K.fld ?_;first
    |refine WpL.fieldP tabOk rfl rfl rfl rfl rfl (by decide) ?_)
   |(refine K.ixa ?_;first
    |refine WpL.idxI1 tabOk rfl rfl rfl (by omega) (by decide) ?_
    |refine WpL.idxOJ tabOk rfl rfl rfl rfl rfl (by omega) (by decide) ?_
    |refine WpL.idxI tabOk rfl rfl rfl (by omega) (by decide) ?_
    |refine WpL.idxO tabOk rfl rfl rfl rfl rfl (by omega) (by decide) ?_)
   |(refine K.call ?_;refine K.con (fun hcon=>?_);first
    |(refine WpL.callF (hcon ?_) snapA locA outA rfl rfl rfl (by decide) ?_<;>clear hcon)
    |(refine WpL.callF (hcon) snapA locA outA rfl rfl rfl (by decide) ?_<;>clear hcon)
    |(refine WpL.callF (hcon _ ?_) snapA locA outA rfl rfl rfl (by decide) ?_<;>clear hcon)
    |(refine WpL.callF (hcon _) snapA locA outA rfl rfl rfl (by decide) ?_<;>clear hcon)
    |(refine WpL.callF (hcon _ _ ?_) snapA locA outA rfl rfl rfl (by decide) ?_<;>clear hcon)
    |(refine WpL.callF (hcon _ _) snapA locA outA rfl rfl rfl (by decide) ?_<;>clear hcon)
    |(refine WpL.callF (hcon _ _ _ ?_) snapA locA outA rfl rfl rfl (by decide) ?_<;>clear hcon)
    |(refine WpL.callF (hcon _ _ _) snapA locA outA rfl rfl rfl (by decide) ?_<;>clear hcon)
    |(refine WpL.callF (hcon _ _ _ _ ?_) snapA locA outA rfl rfl rfl (by decide) ?_<;>clear hcon)
    |(refine WpL.callF (hcon _ _ _ _) snapA locA outA rfl rfl rfl (by decide) ?_<;>clear hcon)
    |(refine WpL.callF (hcon _ _ _ _ _ ?_) snapA locA outA rfl rfl rfl (by decide) ?_<;>clear hcon)
    |(refine WpL.callF (hcon _ _ _ _ _) snapA locA outA rfl rfl rfl (by decide) ?_<;>clear hcon)
    |(refine WpL.callF (hcon _ _ _ _ _ _ ?_) snapA locA outA rfl rfl rfl (by decide) ?_<;>clear hcon)
    |(refine WpL.callF (hcon _ _ _ _ _ _) snapA locA outA rfl rfl rfl (by decide) ?_<;>clear hcon)
    |(refine WpL.callF (hcon _ _ _ _ _ _ _ ?_) snapA locA outA rfl rfl rfl (by decide) ?_<;>clear hcon)
    |(refine WpL.callF (hcon _ _ _ _ _ _ _) snapA locA outA rfl rfl rfl (by decide) ?_<;>clear hcon)
    |(refine WpL.callF (hcon _ _ _ _ _ _ _ _ ?_) snapA locA outA rfl rfl rfl (by decide) ?_<;>clear hcon)
    |(refine WpL.callF (hcon _ _ _ _ _ _ _ _) snapA locA outA rfl rfl rfl (by decide) ?_<;>clear hcon)
    |(refine WpL.callF (hcon _ _ _ _ _ _ _ _ _ ?_) snapA locA outA rfl rfl rfl (by decide) ?_<;>clear hcon)
    |(refine WpL.callF (hcon _ _ _ _ _ _ _ _ _) snapA locA outA rfl rfl rfl (by decide) ?_<;>clear hcon)
    |(refine WpL.callF (hcon _ _ _ _ _ _ _ _ _ _ ?_) snapA locA outA rfl rfl rfl (by decide) ?_<;>clear hcon)
    |(refine WpL.callF (hcon _ _ _ _ _ _ _ _ _ _) snapA locA outA rfl rfl rfl (by decide) ?_<;>clear hcon)
    |(refine WpL.callF (hcon _ _ _ _ _ _ _ _ _ _ _ ?_) snapA locA outA rfl rfl rfl (by decide) ?_<;>clear hcon)
    |(refine WpL.callF (hcon _ _ _ _ _ _ _ _ _ _ _) snapA locA outA rfl rfl rfl (by decide) ?_<;>clear hcon)
    |(refine WpL.callF (hcon _ _ _ _ _ _ _ _ _ _ _ _ ?_) snapA locA outA rfl rfl rfl (by decide) ?_<;>clear hcon)
    |(refine WpL.callF (hcon _ _ _ _ _ _ _ _ _ _ _ _) snapA locA outA rfl rfl rfl (by decide) ?_<;>clear hcon)
    |(refine WpL.callF (hcon _ _ _ _ _ _ _ _ _ _ _ _ _ ?_) snapA locA outA rfl rfl rfl (by decide) ?_<;>clear hcon)
    |(refine WpL.callF (hcon _ _ _ _ _ _ _ _ _ _ _ _ _) snapA locA outA rfl rfl rfl (by decide) ?_<;>clear hcon)
    |(refine WpL.callF (hcon _ _ _ _ _ _ _ _ _ _ _ _ _ _ ?_) snapA locA outA rfl rfl rfl (by decide) ?_<;>clear hcon)
    |(refine WpL.callF (hcon _ _ _ _ _ _ _ _ _ _ _ _ _ _) snapA locA outA rfl rfl rfl (by decide) ?_<;>clear hcon)
    |(refine WpL.callF (hcon _ _ _ _ _ _ _ _ _ _ _ _ _ _ _ ?_) snapA locA outA rfl rfl rfl (by decide) ?_<;>clear hcon)
    |(refine WpL.callF (hcon _ _ _ _ _ _ _ _ _ _ _ _ _ _ _) snapA locA outA rfl rfl rfl (by decide) ?_<;>clear hcon)
    |(refine WpL.callF (hcon _ _ _ _ _ _ _ _ _ _ _ _ _ _ _ _ ?_) snapA locA outA rfl rfl rfl (by decide) ?_<;>clear hcon)
    |(refine WpL.callF (hcon _ _ _ _ _ _ _ _ _ _ _ _ _ _ _ _) snapA locA outA rfl rfl rfl (by decide) ?_<;>clear hcon)
    |(refine WpL.callF (hcon _ _ _ _ _ _ _ _ _ _ _ _ _ _ _ _ _ ?_) snapA locA outA rfl rfl rfl (by decide) ?_<;>clear hcon)
    |(refine WpL.callF (hcon _ _ _ _ _ _ _ _ _ _ _ _ _ _ _ _ _) snapA locA outA rfl rfl rfl (by decide) ?_<;>clear hcon)
    |(refine WpL.callF (hcon _ _ _ _ _ _ _ _ _ _ _ _ _ _ _ _ _ _ ?_) snapA locA outA rfl rfl rfl (by decide) ?_<;>clear hcon)
    |(refine WpL.callF (hcon _ _ _ _ _ _ _ _ _ _ _ _ _ _ _ _ _ _) snapA locA outA rfl rfl rfl (by decide) ?_<;>clear hcon))
   |(refine K.call ?_;refine K.conG (fun hcon=>?_);first
    |(refine WpL.callM0 (hs:=[_,_,_,_]) (hcon _ _ _ _ _ _ _ _) handA handOA rfl rfl outA outA rfl rfl rfl rfl ?_<;>clear hcon))
   |(refine K.call ?_;refine K.conB (fun hcon=>?_);first
    |(refine WpL.callB (hcon _ _ _ _ _ _ _ _) snapA locA outA locA outA rfl rfl rfl rfl rfl (by decide) ?_ ?_<;>clear hcon))
   |(refine K.call ?_;refine K.conP (fun hcon=>?_);first
    |(refine WpL.callP (hs:=[_]) (hcon _ _ _ _ _ _ _ _ _ _) (by assumption) handA handOA rfl rfl (.cons rfl (.sc (.sc (.sc .nil))) .nil) outA rfl rfl rfl rfl (by decide) ?_<;>clear hcon))
   |(refine K.ix ?_;first
    |refine WpL.idxStr1 tabOk rfl rfl rfl (by omega) (by decide) (fun hgo=>?_)
    |refine WpL.idxStrB tabOk rfl rfl rfl (by omega) (by decide) (fun hgo=>?_))
   |(refine K.bi ?_;first
    |(refine K.blen ?_;first
     |refine WpL.lenImm (TabOk.slice tabOk rfl).1 rfl (by decide) ?_
     |refine WpL.lenOwn (TabOk.slice tabOk rfl).1 rfl rfl rfl (by decide) ?_
     |refine WpL.lenStr (K.tyStr tabOk rfl) rfl (by decide) ?_)
    |(refine K.bapp ?_;first
     |refine WpL.app1U8s tabOk rfl rfl rfl (by first|exact Nat.zero_le _|exact Nat.le_of_ble_eq_true rfl) rfl rfl (by first|rfl|omega|(simp;done)|(simp;omega)) (by omega) (by decide) ?_
     |refine WpL.appU8s tabOk rfl rfl rfl (by first|exact Nat.zero_le _|exact Nat.le_of_ble_eq_true rfl) rfl rfl (by first|rfl|omega|(simp;done)|(simp;omega)) (by first|rfl|omega|(simp;done)|(simp;omega)) (by omega) (by decide) ?_
     |refine WpL.appOwn tabOk rfl rfl rfl rfl rfl rfl (by simp) (by first|exact Nat.zero_le _|exact Nat.le_of_ble_eq_true rfl) rfl rfl (by simp) (by simp [all_ints,all_u8s,all_strs,oneB,Value.oneCell']) (by omega) (by decide) ?_))
   |(refine K.un ?_;first
    |refine WpL.not rfl (by decide) ?_)
   |(refine K.pick ?_;first
    |refine WpL.pickT rfl rfl (by decide) ?_
    |refine WpL.pickF rfl rfl (by decide) ?_)
   |(refine K.bld ?_;refine WpL.build tabOk rfl rfl (by kernel_rfl) (by decide) ?_)
   |(refine K.cv ?_;first
    |refine WpL.convI (P:=Try.prog) (by rfl) (K.tyInt tabOk rfl) rfl (by omega) (by decide) ?_
    |refine WpL.conv (P:=Try.prog) (by rfl) (K.tyInt tabOk rfl) rfl (by decide) ?_
    |refine WpL.ofBytes tabOk rfl rfl rfl rfl rfl (by simp) (by decide) ?_)
   |(refine K.lit ?_;first
    |refine WpL.lit0U8s tabOk rfl rfl rfl (by decide) ?_
    |refine WpL.litU8s tabOk rfl rfl rfl rfl rfl (by decide) rfl (by decide) ?_
    |refine WpL.litF tabOk rfl rfl rfl rfl (by decide) rfl (by decide) ?_)
   |(refine K.ms ?_;first
    |refine WpL.makeInts tabOk rfl rfl rfl (by omega) (by omega) rfl (by decide) ?_)
   |(refine K.st ?_;first
    |refine WpL.storeInts tabOk rfl rfl rfl rfl rfl (by first|omega|(simp;omega)) ?_
    |refine WpL.storeS tabOk rfl rfl rfl rfl rfl rfl rfl rfl (by first|decide|omega|(simp;omega)|(simp;done)) (by first|(simp only [Go.Abs.setL,List.set_cons_zero,List.set_cons_succ,Nat.zero_add,Nat.reduceAdd];exact rfl)|exact rfl) ?_)
   |(refine K.all ?_;first
    |refine WpL.allocB (b:=bldT) tabOk rfl rfl rfl (by decide) ?_
    |refine WpL.allocStruct tabOk rfl rfl (by decide) ?_)
   |(refine K.box ?_;refine WpL.box rfl rfl rfl (by decide) ?_)
   |(refine K.nc ?_;first
    |refine WpL.nilCheckP rfl rfl rfl (by decide) ?_)
   |(refine K.gd ?_;first
    |refine K.gT rfl (by decide) rfl ?_
    |refine K.gF rfl (by decide) rfl ?_
    |(refine K.gD rfl rfl (fun hgo=>?_) (fun hgo=>?_)<;>(try (first|contradiction|(exfalso;omega)))))
   |((repeat (revert hgo));(repeat ((fail_if_success with_reducible apply Hold.h hold);replace hold:=Hold.t hold));with_reducible apply Hold.h hold))
  |refine WpL.nil ?_
  |refine Abs.Seq.n ?_
  |(refine K.A ?_;first
   |refine WpA.seq ?_
   |refine WpA.regionF rfl ?_
   |(refine K.cond ?_;first
    |refine WpA.condT rfl ?_
    |refine WpA.condF rfl ?_
    |(refine WpA.condD rfl (fun hgo=>?_) (fun hgo=>?_)<;>(try (first|contradiction|(exfalso;omega))))
    |(refine WpA.condN rfl (fun hgo=>?_) (fun hgo=>?_)<;>(try (first|contradiction|(exfalso;omega))))
    |(refine WpA.condS rfl (fun hgo=>?_) (fun hgo=>?_)<;>(try (first|contradiction|(exfalso;omega)))))
   |refine WpA.block ?_
   |refine WpA.ret ?_
   |refine WpA.exit ?_
   |refine WpA.skip ?_
   |(refine K.loop ?_;((repeat (revert hgo));(repeat ((fail_if_success with_reducible apply Hold.h hold);replace hold:=Hold.t hold));with_reducible apply Hold.h hold))
   |(refine WpA.flat rfl ?_;first
    |(apply WpA.regionMB 6 mixed (by decide +kernel);(· exact rfl);(· exact headA);(· exact trueA);(· exact trueA);(· exact rfl);(· exact rfl))
    |(apply WpA.regionMB 7 mixed (by decide +kernel);(· exact rfl);(· exact headA);(· exact trueA);(· exact trueA);(· exact rfl);(· exact rfl))
    |(apply WpA.regionMB 8 mixed (by decide +kernel);(· exact rfl);(· exact headA);(· exact trueA);(· exact trueA);(· exact rfl);(· exact rfl))
    |(apply WpA.regionMB 26 mixed (by decide +kernel);(· exact rfl);(· exact headA);(· exact trueA);(· exact trueA);(· exact rfl);(· exact rfl))
    |(apply WpA.regionMB 35 mixed (by decide +kernel);(· exact rfl);(· exact headA);(· exact trueA);(· exact trueA);(· exact rfl);(· exact rfl))
    |(apply WpA.regionNO 3 mixed (by decide +kernel);(· exact rfl);(· exact rfl);(· exact headA);(· exact trueA);(· exact trueA);(· exact rfl);(· exact rfl);(· exact rfl))
    |(apply WpA.regionNO 5 mixed (by decide +kernel);(· exact rfl);(· exact rfl);(· exact headA);(· exact trueA);(· exact trueA);(· exact rfl);(· exact rfl);(· exact rfl))
    |(apply WpA.regionNO 10 mixed (by decide +kernel);(· exact rfl);(· exact rfl);(· exact headA);(· exact trueA);(· exact trueA);(· exact rfl);(· exact rfl);(· exact rfl))
    |(apply WpA.regionNO 12 mixed (by decide +kernel);(· exact rfl);(· exact rfl);(· exact headA);(· exact trueA);(· exact trueA);(· exact rfl);(· exact rfl);(· exact rfl))
    |(apply WpA.regionNO 27 mixed (by decide +kernel);(· exact rfl);(· exact rfl);(· exact headA);(· exact trueA);(· exact trueA);(· exact rfl);(· exact rfl);(· exact rfl)))
   |((repeat (revert hgo));(repeat ((fail_if_success with_reducible apply Hold.h hold);replace hold:=Hold.t hold));with_reducible apply Hold.h hold))
  |(refine K.RT ?_;first
   |exact ReT.nil
   |refine ReT.same rfl rfl ?_
   |refine ReT.own rfl rfl rfl rfl rfl rfl (by first|rfl|omega|(simp;done)|(simp;omega)) ?_
   |refine ReT.ptr rfl rfl rfl rfl rfl ?_)
  |(refine TrueB.mk ?_;kernel_rfl)
  |(apply K.eq;first|exact rfl|omega|assumption|(simp;done)|(simp;omega)|(exact absurd (by simp;done) ‹¬ _›)|((repeat (revert hgo));(repeat ((fail_if_success with_reducible apply Hold.h hold);replace hold:=Hold.t hold));with_reducible apply Hold.h hold))
  |(refine K.le ?_;first|omega|(simp;omega)|assumption|((repeat (revert hgo));(repeat ((fail_if_success with_reducible apply Hold.h hold);replace hold:=Hold.t hold));with_reducible apply Hold.h hold))
  |(refine K.lt ?_;first|omega|(simp;omega)|assumption|((repeat (revert hgo));(repeat ((fail_if_success with_reducible apply Hold.h hold);replace hold:=Hold.t hold));with_reducible apply Hold.h hold))
  |refine And.intro ?_ ?_
  |(refine K.RO ?_;first
   |exact ReO.nil
   |refine ReO.ints ?_ (by first|exact .inl rfl|exact .inr rfl) ?_
   |refine ReO.u8s ?_ (by first|exact .inl rfl|exact .inr rfl) ?_
   |refine ReO.cons (Re.same rfl rfl) (by first|exact .inl rfl|exact .inr rfl) ?_
   |refine ReO.cons ?_ (by first|exact .inl rfl|exact .inr rfl) ?_)
  |(refine K.W ?_;first
   |refine Weak.mk ?_ ?_ (by first|exact Nat.zero_le _|exact Nat.le_of_ble_eq_true rfl))
  |refine Abs.Seq.ret ?_
  |refine Abs.Seq.exit ?_
  |refine Blk.n ?_
  |refine Blk.ret ?_
  |refine Blk.exitHere ?_
  |(refine K.R ?_;first
   |refine Rnd.ret ?_
   |refine Rnd.exit ?_
   |refine Rnd.succ ?_ ?_ ?_
   |((repeat (revert hgo));(repeat ((fail_if_success with_reducible apply Hold.h hold);replace hold:=Hold.t hold));with_reducible apply Hold.h hold))
  |(refine K.F ?_;first
   |apply Fin.one0
   |apply Fin.one1
   |((repeat (revert hgo));(repeat ((fail_if_success with_reducible apply Hold.h hold);replace hold:=Hold.t hold));with_reducible apply Hold.h hold))
  |exact ResV.tmp rfl
  |exact ResV.cellP rfl rfl rfl rfl rfl
  |exact ResV.cell (ds:=[_]) rfl rfl rfl rfl rfl
  |exact ResV.cell (ds:=[_,_]) rfl rfl rfl rfl rfl
  |exact ResV.cell (ds:=[_,_,_]) rfl rfl rfl rfl rfl
  |exact ResV.cell (ds:=[_,_,_,_]) rfl rfl rfl rfl rfl
  |exact ResV.cell (ds:=[_,_,_,_,_]) rfl rfl rfl rfl rfl
  |exact ResV.cell (ds:=[_,_,_,_,_,_]) rfl rfl rfl rfl rfl
  |exact ResV.cell (ds:=[_,_,_,_,_,_,_]) rfl rfl rfl rfl rfl
  |exact ResV.cell (ds:=[_,_,_,_,_,_,_,_]) rfl rfl rfl rfl rfl
  |(refine K.E ?_;first
   |exact Ex.nil
   |refine Ex.keep rfl rfl rfl ?_
   |refine Ex.own rfl rfl rfl rfl ?_
   |refine Ex.own rfl rfl rfl ?_ ?_
   |refine Ex.nilO rfl ?_
   |refine Ex.agg ?_ ?_
   |refine Ex.tup ?_ ?_
   |refine Ex.i ?_ ?_
   |refine Ex.b ?_ ?_
   |refine Ex.z ?_ ?_)
  |(refine K.NE ?_;first
   |exact NEx.nil
   |refine NEx.ints rfl ?_ ?_
   |refine NEx.gone ?_ rfl ?_
   |refine NEx.obj rfl ?_ rfl rfl rfl (.inr rfl) ?_)
  |exact Re.nil
  |refine Re.keep rfl rfl ?_
  |refine Re.fn rfl ?_
  |refine Re.own rfl rfl rfl rfl rfl (by first|rfl|omega|(simp;done)|(simp;omega)) ?_
  |refine Re.ptr rfl rfl rfl rfl ?_
  |refine Re.agg ?_ ?_
  |refine Re.tup ?_ ?_
  |exact rfl
  |omega
  |(refine fun hgo=>?_)
  |(simp;done)
  |(simp;omega)
  |((repeat (revert hgo));(repeat ((fail_if_success with_reducible apply Hold.h hold);replace hold:=Hold.t hold));with_reducible apply Hold.h hold))
  all_goals (try ((repeat (revert hgo));(repeat ((fail_if_success with_reducible apply Hold.h hold);replace hold:=Hold.t hold));with_reducible apply Hold.h hold))
  all_goals exact True
 ·first|exact IsT.t|exact IsT.any
 ) (r:R):P:=h.1 ⟨r⟩
end Go.Proofs.Ytkckmenalehdpaa


namespace Go.Proofs.Ytkckmenalehdpaa
open Go Go.Abs
attribute [local irreducible] WpA WpL Rnd Blk Abs.Seq Abs.Fin FnC Only
instance within_c:Con 26 (∀ n lo hi:Int,Fn 26 [I n,I lo,I hi] [] (B (decide (lo≤n∧n≤hi)))):=⟨fun n lo hi=>by
 refine FnC.of_body tabOk Try.func26 Try.ntmps26 rfl (by decide +kernel) (by simp) fun G=>?_
 refine go (r:=?_);and_intros<;>intros
 all_goals first|exact True.intro|(simp_all;done)|(simp;omega)⟩
instance l1In_c:Con 25 (∀ n lo hi:Int,Fn 25 [I n,I lo,I hi] [] (B (decide (lo≤n∧n≤hi)))):=⟨fun n lo hi=>by
 refine FnC.of_body tabOk Try.func25 Try.ntmps25 rfl (by decide +kernel) (by simp) fun G=>?_
 refine go (r:=?_);and_intros<;>intros
 all_goals first|exact True.intro|(simp_all;done)|(simp;omega)⟩
theorem fill_step {α:Type} (z:α) (xs:List α) (k:Nat) (h:k<xs.length):(xs.take k++List.replicate (xs.length-k) z).set k (xs.getD k z)=xs.take (k+1)++List.replicate (xs.length-(k+1)) z:=by
 have e:=List.take_succ_eq_append_getElem h
 rw [List.set_append_right _ _ (by simp;omega),e]
 obtain ⟨m,hm⟩:∃m,xs.length-k=m+1:=⟨xs.length-k-1,by omega⟩
 rw [hm,show xs.length-(k+1)=m from by omega,List.replicate_succ]
 simp only [List.length_take,show min k xs.length=k from by omega,Nat.sub_self,List.set_cons_zero,List.getD_eq_getElem?_getD,List.getElem?_eq_getElem h,Option.getD_some,List.append_assoc,List.cons_append,List.nil_append]
instance toIntS_c:Con 12 (∀ xs:List Int,xs.length≤1099511627776→Fn 12 [IL xs] [⟨ints xs,0,1,some 3⟩] (.own 0 0 0 xs.length)):=⟨fun xs hl=>by
 refine FnC.of_body tabOk Try.func12 Try.ntmps12 rfl (by decide +kernel) (by simp) fun G=>?_
 refine go (r:=?_);and_intros<;>intros<;>try exact True.intro
 refine WpA.loop (fun k:Nat=>⟨[(0,IL xs),(3,.own 0 0 0 xs.length),(4,I k)],[⟨ints (xs.take k++List.replicate (xs.length-k) 0),0,1,some 3⟩]⟩) (fun k=>k≤xs.length) (fun k=>xs.length-k) 0 (by omega) (go (r:=?_)) (fun k hk=>?_)
 ·simp
 refine go (r:=?_);and_intros<;>intros<;>try exact True.intro
 ·rw [←fill_step _ _ _ (by omega)];simp
 ·have:k=xs.length:=by omega
  subst this;simp⟩
instance eqIntS_c:Con 18 (∀ xs ys:List Int,xs.length≤1099511627776∧ys.length≤1099511627776→Fn 18 [IL xs,IL ys] [] (B (decide (xs=ys)))):=⟨fun xs ys hl=>by
 refine FnC.of_body tabOk Try.func18 Try.ntmps18 rfl (by decide +kernel) (by simp) fun G=>?_
 refine go (r:=?_);and_intros<;>intros<;>try exact True.intro
 ·simp;intro h;subst h;contradiction
 ·have hll:xs.length=ys.length:=by omega
  refine WpA.loop (fun k:Nat=>⟨[(0,IL xs),(1,IL ys),(5,I k)],[]⟩) (fun k=>k≤xs.length∧∀j<k,xs.getD j 0=ys.getD j 0) (fun k=>xs.length-k) 0 (by simp) (go (r:=trivial)) (fun k hk=>?_)
  refine go (r:=?_);and_intros<;>intros<;>try exact True.intro
  ·simp;rintro rfl;contradiction
  ·rename_i j hj;by_cases h:j=k
   ·subst h;simp_all
   ·exact hk.2 j (by omega)
  ·have:xs=ys:=by
    apply List.ext_getElem hll
    intro i h1 h2
    have:=hk.2 i (by omega)
    simpa [h1,h2] using this
   simp [this]⟩
end Go.Proofs.Ytkckmenalehdpaa


namespace Go.Proofs.Ytkckmenalehdpaa
open Go Go.Abs
attribute [local irreducible] WpA WpL Rnd Blk Abs.Seq Abs.Fin FnC Only
abbrev FrA (W H:Int) (p:List Int):AV:=.agg [I W,I H,IL p]
abbrev XO (p:List Int):AObj:=⟨ints p,0,1,some 3⟩
@[irreducible] def In (l:List Int) (lo hi:Int):Prop:=∀v∈l,lo≤v∧v≤hi
instance (l:List Int) (lo hi:Int):Decidable (In l lo hi):=by unfold In;exact List.decidableBAll _ l
theorem in_get {l:List Int} {lo hi:Int} (h:In l lo hi) {k:Nat} (hk:k<l.length):lo≤l.getD k 0∧l.getD k 0≤hi:=by
 unfold In at h
 have:=h (l.getD k 0) (by simp [List.getElem?_eq_getElem hk])
 exact this
theorem notin {l:List Int} {lo hi:Int} {k:Nat} (hk:k<l.length) (h:¬(lo≤l.getD k 0∧l.getD k 0≤hi)):false=decide (In l lo hi):=by
 symm;rw [decide_eq_false_iff_not];exact fun hh=>h (in_get hh hk)
theorem in_snoc {l:List Int} {lo hi:Int} {k:Nat} (hk:k<l.length):In (l.take (k+1)) lo hi↔In (l.take k) lo hi∧lo≤l.getD k 0∧l.getD k 0≤hi:=by
 unfold In;rw [List.take_succ_eq_append_getElem hk,List.forall_mem_append];simp [List.getElem?_eq_getElem hk]
theorem in_nil (lo hi:Int):In [] lo hi:=by unfold In;intro v hv;cases hv
instance allWithin_c:Con 23 (∀ (l:List Int) (lo hi:Int),l.length≤1099511627776→Fn 23 [IL l,I lo,I hi] [] (B (decide (In l lo hi)))):=⟨fun l lo hi hl=>by
 refine FnC.of_body tabOk Try.func23 Try.ntmps23 rfl (by decide +kernel) (by simp) fun G=>?_
 refine go (r:=?_);and_intros<;>intros<;>try exact True.intro
 refine WpA.loop (fun k:Nat=>⟨[(1,I lo),(2,I hi),(9,IL l),(10,I l.length),(11,I k)],[]⟩) (fun k=>k≤l.length∧In (l.take k) lo hi) (fun k=>l.length-k) 0 (by simp [in_nil]) (go (r:=trivial)) (fun k hk=>?_)
 refine go (r:=?_);and_intros<;>intros<;>try exact True.intro
 ·exact notin (k:=k) (by omega) ‹_›
 ·rw [in_snoc (by omega)];simp_all
 ·have e:k=l.length:=by omega
  subst e;simp_all⟩
instance l14Pix_c:Con 20 (∀ l:List Int,l.length≤1099511627776→Fn 20 [IL l] [] (B (decide (In l 0 255)))):=⟨fun l hl=>by
 refine FnC.of_body tabOk Try.func20 Try.ntmps20 rfl (by decide +kernel) (by simp) fun G=>?_
 refine go (r:=?_);and_intros<;>intros<;>try exact True.intro
 refine WpA.loop (fun k:Nat=>⟨[(0,IL l),(3,I k)],[]⟩) (fun k=>k≤l.length∧In (l.take k) 0 255) (fun k=>l.length-k) 0 (by simp [in_nil]) (go (r:=trivial)) (fun k hk=>?_)
 refine go (r:=?_);and_intros<;>intros<;>try exact True.intro
 ·exact notin (k:=k) (by omega) ‹_›
 ·rw [in_snoc (by omega)];simp_all
 ·have e:k=l.length:=by omega
  subst e;simp_all⟩
abbrev SidesOk (w h:Int):Prop:=8≤w∧w≤32∧8≤h∧h≤32∧w%8=0∧h%8=0
instance SidesOk_c:Con 22 (∀ w h:Int,Fn 22 [I w,I h] [] (B (decide (SidesOk w h)))):=⟨fun w h=>by
 refine FnC.of_body tabOk Try.func22 Try.ntmps22 rfl (by decide +kernel) (by simp) fun G=>?_
 refine go (r:=?_);and_intros<;>intros<;>try exact True.intro
 all_goals first|(simp_all;done)|(rw [Bool.eq_iff_iff];simp only [decide_eq_true_eq,Bool.not_eq_true',decide_eq_false_iff_not,Bool.false_eq_true,true_iff,false_iff,iff_true,iff_false,Bool.not_eq_eq_eq_not,Bool.not_true];omega)⟩
instance SidesOk_s:Con 19 (∀ w h:Int,Fn 19 [I w,I h] [] (B (decide (SidesOk w h)))):=⟨fun w h=>by
 refine FnC.of_body tabOk Try.func19 Try.ntmps19 rfl (by decide +kernel) (by simp) fun G=>?_
 refine go (r:=?_);and_intros<;>intros<;>try exact True.intro
 all_goals first|(simp_all;done)|(rw [Bool.eq_iff_iff];simp only [decide_eq_true_eq,Bool.not_eq_true',decide_eq_false_iff_not,Bool.false_eq_true,true_iff,false_iff,iff_true,iff_false,Bool.not_eq_eq_eq_not,Bool.not_true];omega)⟩
abbrev FrameOk (W H:Int) (p:List Int):Prop:=SidesOk W H∧(p.length:Int)=W*H∧In p 0 255
instance FrameOk_c:Con 13 (∀ (W H:Int) (p:List Int),p.length≤1099511627776→Fn 13 [FrA W H p] [] (B (decide (FrameOk W H p)))):=⟨fun W H p hl=>by
 refine FnC.of_body tabOk Try.func13 Try.ntmps13 rfl (by decide +kernel) (by simp) fun G=>?_
 refine go (r:=?_);and_intros<;>intros<;>try exact True.intro
 all_goals simp_all⟩
instance FrameOk_s:Con 10 (∀ (W H:Int) (p:List Int),p.length≤1099511627776→Fn 10 [FrA W H p] [] (B (decide (FrameOk W H p)))):=⟨fun W H p hl=>by
 refine FnC.of_body tabOk Try.func10 Try.ntmps10 rfl (by decide +kernel) (by simp) fun G=>?_
 refine go (r:=?_);and_intros<;>intros<;>try exact True.intro
 all_goals simp_all⟩
instance szIntS_c:Con 9 (∀ (p:List Int) (left:Int),p.length≤9223372036854775807∧0≤left∧left≤1048576→Fn 9 [IL p,I left] [] (I (max (-1) (left-p.length)))):=⟨fun p left hl=>by
 refine FnC.of_body tabOk Try.func9 Try.ntmps9 rfl (by decide +kernel) (by simp) fun G=>?_
 exact go (r:=trivial)⟩
instance szFrame_c:Con 4 (∀ (W H:Int) (p:List Int) (left:Int),p.length≤9223372036854775807∧0≤left∧left≤1048576→Fn 4 [FrA W H p,I left] [] (I (max (-1) (left-p.length)))):=⟨fun W H p left hl=>by
 refine FnC.of_body tabOk Try.func4 Try.ntmps4 rfl (by decide +kernel) (by simp) fun G=>?_
 exact go (r:=trivial)⟩
instance toFrame_c:Con 6 (∀ (W H:Int) (p:List Int),p.length≤1099511627776→Fn 6 [FrA W H p] [XO p] (.agg [I W,I H,.own 0 0 0 p.length])):=⟨fun W H p hl=>by
 refine FnC.of_body tabOk Try.func6 Try.ntmps6 rfl (by decide +kernel) (by simp) fun G=>?_
 refine go (r:=?_);and_intros<;>intros<;>try exact True.intro⟩
instance eqFrame_c:Con 8 (∀ (W H W2 H2:Int) (p q:List Int),p.length≤1099511627776∧q.length≤1099511627776→Fn 8 [FrA W H p,FrA W2 H2 q] [] (B (decide (W=W2∧H=H2∧p=q)))):=⟨fun W H W2 H2 p q hl=>by
 refine FnC.of_body tabOk Try.func8 Try.ntmps8 rfl (by decide +kernel) (by simp) fun G=>?_
 refine go (r:=?_);and_intros<;>intros<;>try exact True.intro
 all_goals first|(simp_all;done)|(rw [Bool.eq_iff_iff];simp only [decide_eq_true_eq,Bool.not_eq_true',decide_eq_false_iff_not,Bool.false_eq_true,true_iff,false_iff,iff_true,iff_false,Bool.not_eq_eq_eq_not,Bool.not_true];omega)⟩
theorem in_getD {l:List Int} (h:In l 0 255) (k:Nat):0≤l.getD k 0∧l.getD k 0≤255:=by
 by_cases hk:k<l.length
 ·exact in_get h hk
 ·simp [List.getElem?_eq_none (Nat.le_of_not_lt hk)]
theorem frame_len {W H:Int} {p:List Int} (h:FrameOk W H p):p.length≤1024:=by
 obtain ⟨⟨h1,h2,h3,h4,_⟩,h5,_⟩:=h
 have:W*H≤32*32:=Int.mul_le_mul h2 h4 (by omega) (by omega)
 omega
end Go.Proofs.Ytkckmenalehdpaa


namespace Go.Proofs.Ytkckmenalehdpaa
open Go Go.Abs
def hexD:List UInt8:=[48,49,50,51,52,53,54,55,56,57,97,98,99,100,101,102]
def hx (k:Nat):UInt8:=hexD.getD k 0
def hexB (b:UInt8):List UInt8:=[hx (b.toNat/16),hx (b.toNat%16)]
def hexL (s:List UInt8):List UInt8:=s.flatMap hexB
theorem hexL_len (s:List UInt8):(hexL s).length=2*s.length:=by
 induction s with
 |nil=>rfl
 |cons b s ih=>simp only [hexL,List.flatMap_cons,List.length_append,List.length_cons,hexB] at ih ⊢;rw [ih];simp;omega
theorem hexL_snoc (s:List UInt8) (b:UInt8):hexL (s++[b])=hexL s++hexB b:=by simp [hexL]
theorem hexL_take (s:List UInt8) (k:Nat) (h:k<s.length):hexL (s.take (k+1))=hexL (s.take k)++hexB (s.getD k 0):=by
 rw [List.take_succ_eq_append_getElem h,hexL_snoc];simp [h]
def tokF (W:Int) (i:Nat) (v:Int):List UInt8:=hexB (UInt8.ofNat v.toNat)++if (i:Int)%W=W-1 then [10] else []
def showK (W:Int) (p:List Int) (k:Nat):List UInt8:=(List.range k).flatMap fun i=>tokF W i (p.getD i 0)
theorem showK_succ (W:Int) (p:List Int) (k:Nat):showK W p (k+1)=showK W p k++tokF W k (p.getD k 0):=by simp [showK,List.range_succ]
theorem showK_len (W:Int) (p:List Int) (k:Nat):(showK W p k).length≤3*k:=by
 induction k with
 |zero=>simp [showK]
 |succ k ih=>
  rw [showK_succ,List.length_append]
  have:(tokF W k (p.getD k 0)).length≤3:=by unfold tokF hexB;split<;>simp
  omega
theorem showK_ge (W:Int) (p:List Int) (k:Nat):2*k≤(showK W p k).length:=by
 induction k with
 |zero=>simp
 |succ k ih=>
  rw [showK_succ,List.length_append]
  have:2≤(tokF W k (p.getD k 0)).length:=by unfold tokF hexB;split<;>simp
  omega
theorem u8w (v:Int) (h:0≤v∧v≤255):IntKind.u8.wrap v=v:=by
 simp only [IntKind.wrap,IntKind.bits,IntKind.signed];simp;omega
@[irreducible] def showF (W H:Int) (p:List Int):List UInt8:=if FrameOk W H p then showK W p p.length else []
end Go.Proofs.Ytkckmenalehdpaa


namespace Go.Proofs.Ytkckmenalehdpaa
open Go Go.Abs
theorem goR {P R:Prop} (h:(Hold R→P)∧IsT R:=by
 refine And.intro ?_ ?_
 ·intro hold
  repeat' (first
  |(refine K.L ?_;first
   |(refine K.mv ?_;refine WpL.move rfl (by decide) ?_)
   |(refine K.asg ?_;refine WpL.assign rfl (by decide) ?_)
   |(refine K.bin ?_;first
    |refine WpL.add rfl rfl (by omega) (by decide) ?_
    |refine WpL.sub rfl rfl (by omega) (by decide) ?_
    |refine WpL.mul rfl rfl (by first|omega|exact mul_in (by omega) (by omega)|assumption) (by decide) ?_
    |refine WpL.quo rfl rfl (by omega) (by decide) ?_
    |refine WpL.rem rfl rfl (by omega) (by decide) ?_
    |refine WpL.bin rfl rfl rfl (by decide) ?_
    |refine WpL.strAdd rfl rfl (by first|omega|(simp only [List.length_append];omega)|(simp;omega)) (by decide) ?_
    |refine WpL.strNe rfl rfl (by decide) ?_
    |refine WpL.shr rfl rfl (by first|decide|(simp only [IntKind.bits];omega)) (by decide) ?_)
   |(refine K.ld ?_;first
    |refine WpL.loadInts tabOk rfl rfl rfl (by first|omega|(simp;omega)) (by decide) ?_
    |refine WpL.load1 tabOk rfl rfl rfl rfl rfl (by decide) ?_
    |refine WpL.loadAgg (ds:=[_]) tabOk rfl rfl rfl rfl rfl (by decide) ?_
    |refine WpL.loadAgg (ds:=[_,_]) tabOk rfl rfl rfl rfl rfl (by decide) ?_
    |refine WpL.loadAgg (ds:=[_,_,_]) tabOk rfl rfl rfl rfl rfl (by decide) ?_
    |refine WpL.loadAgg (ds:=[_,_,_,_]) tabOk rfl rfl rfl rfl rfl (by decide) ?_
    |refine WpL.loadAgg (ds:=[_,_,_,_,_]) tabOk rfl rfl rfl rfl rfl (by decide) ?_
    |refine WpL.loadAgg (ds:=[_,_,_,_,_,_]) tabOk rfl rfl rfl rfl rfl (by decide) ?_
    |refine WpL.loadAgg (ds:=[_,_,_,_,_,_,_]) tabOk rfl rfl rfl rfl rfl (by decide) ?_
    |refine WpL.loadAgg (ds:=[_,_,_,_,_,_,_,_]) tabOk rfl rfl rfl rfl rfl (by decide) ?_)
   |(refine K.fld ?_;first
    |refine WpL.fieldP tabOk rfl rfl rfl rfl rfl (by decide) ?_)
   |(refine K.ixa ?_;first
    |refine WpL.idxI1 tabOk rfl rfl rfl (by omega) (by decide) ?_
    |refine WpL.idxOJ tabOk rfl rfl rfl rfl rfl (by omega) (by decide) ?_
    |refine WpL.idxI tabOk rfl rfl rfl (by omega) (by decide) ?_
    |refine WpL.idxO tabOk rfl rfl rfl rfl rfl (by omega) (by decide) ?_)
   |(refine K.call ?_;refine K.con (fun hcon=>?_);first
    |(refine WpL.callF (hcon ?_) snapA locA outA rfl rfl rfl (by decide) ?_<;>clear hcon)
    |(refine WpL.callF (hcon) snapA locA outA rfl rfl rfl (by decide) ?_<;>clear hcon)
    |(refine WpL.callF (hcon _ ?_) snapA locA outA rfl rfl rfl (by decide) ?_<;>clear hcon)
    |(refine WpL.callF (hcon _) snapA locA outA rfl rfl rfl (by decide) ?_<;>clear hcon)
    |(refine WpL.callF (hcon _ _ ?_) snapA locA outA rfl rfl rfl (by decide) ?_<;>clear hcon)
    |(refine WpL.callF (hcon _ _) snapA locA outA rfl rfl rfl (by decide) ?_<;>clear hcon)
    |(refine WpL.callF (hcon _ _ _ ?_) snapA locA outA rfl rfl rfl (by decide) ?_<;>clear hcon)
    |(refine WpL.callF (hcon _ _ _) snapA locA outA rfl rfl rfl (by decide) ?_<;>clear hcon)
    |(refine WpL.callF (hcon _ _ _ _ ?_) snapA locA outA rfl rfl rfl (by decide) ?_<;>clear hcon)
    |(refine WpL.callF (hcon _ _ _ _) snapA locA outA rfl rfl rfl (by decide) ?_<;>clear hcon)
    |(refine WpL.callF (hcon _ _ _ _ _ ?_) snapA locA outA rfl rfl rfl (by decide) ?_<;>clear hcon)
    |(refine WpL.callF (hcon _ _ _ _ _) snapA locA outA rfl rfl rfl (by decide) ?_<;>clear hcon)
    |(refine WpL.callF (hcon _ _ _ _ _ _ ?_) snapA locA outA rfl rfl rfl (by decide) ?_<;>clear hcon)
    |(refine WpL.callF (hcon _ _ _ _ _ _) snapA locA outA rfl rfl rfl (by decide) ?_<;>clear hcon)
    |(refine WpL.callF (hcon _ _ _ _ _ _ _ ?_) snapA locA outA rfl rfl rfl (by decide) ?_<;>clear hcon)
    |(refine WpL.callF (hcon _ _ _ _ _ _ _) snapA locA outA rfl rfl rfl (by decide) ?_<;>clear hcon)
    |(refine WpL.callF (hcon _ _ _ _ _ _ _ _ ?_) snapA locA outA rfl rfl rfl (by decide) ?_<;>clear hcon)
    |(refine WpL.callF (hcon _ _ _ _ _ _ _ _) snapA locA outA rfl rfl rfl (by decide) ?_<;>clear hcon)
    |(refine WpL.callF (hcon _ _ _ _ _ _ _ _ _ ?_) snapA locA outA rfl rfl rfl (by decide) ?_<;>clear hcon)
    |(refine WpL.callF (hcon _ _ _ _ _ _ _ _ _) snapA locA outA rfl rfl rfl (by decide) ?_<;>clear hcon)
    |(refine WpL.callF (hcon _ _ _ _ _ _ _ _ _ _ ?_) snapA locA outA rfl rfl rfl (by decide) ?_<;>clear hcon)
    |(refine WpL.callF (hcon _ _ _ _ _ _ _ _ _ _) snapA locA outA rfl rfl rfl (by decide) ?_<;>clear hcon)
    |(refine WpL.callF (hcon _ _ _ _ _ _ _ _ _ _ _ ?_) snapA locA outA rfl rfl rfl (by decide) ?_<;>clear hcon)
    |(refine WpL.callF (hcon _ _ _ _ _ _ _ _ _ _ _) snapA locA outA rfl rfl rfl (by decide) ?_<;>clear hcon)
    |(refine WpL.callF (hcon _ _ _ _ _ _ _ _ _ _ _ _ ?_) snapA locA outA rfl rfl rfl (by decide) ?_<;>clear hcon)
    |(refine WpL.callF (hcon _ _ _ _ _ _ _ _ _ _ _ _) snapA locA outA rfl rfl rfl (by decide) ?_<;>clear hcon)
    |(refine WpL.callF (hcon _ _ _ _ _ _ _ _ _ _ _ _ _ ?_) snapA locA outA rfl rfl rfl (by decide) ?_<;>clear hcon)
    |(refine WpL.callF (hcon _ _ _ _ _ _ _ _ _ _ _ _ _) snapA locA outA rfl rfl rfl (by decide) ?_<;>clear hcon)
    |(refine WpL.callF (hcon _ _ _ _ _ _ _ _ _ _ _ _ _ _ ?_) snapA locA outA rfl rfl rfl (by decide) ?_<;>clear hcon)
    |(refine WpL.callF (hcon _ _ _ _ _ _ _ _ _ _ _ _ _ _) snapA locA outA rfl rfl rfl (by decide) ?_<;>clear hcon)
    |(refine WpL.callF (hcon _ _ _ _ _ _ _ _ _ _ _ _ _ _ _ ?_) snapA locA outA rfl rfl rfl (by decide) ?_<;>clear hcon)
    |(refine WpL.callF (hcon _ _ _ _ _ _ _ _ _ _ _ _ _ _ _) snapA locA outA rfl rfl rfl (by decide) ?_<;>clear hcon)
    |(refine WpL.callF (hcon _ _ _ _ _ _ _ _ _ _ _ _ _ _ _ _ ?_) snapA locA outA rfl rfl rfl (by decide) ?_<;>clear hcon)
    |(refine WpL.callF (hcon _ _ _ _ _ _ _ _ _ _ _ _ _ _ _ _) snapA locA outA rfl rfl rfl (by decide) ?_<;>clear hcon)
    |(refine WpL.callF (hcon _ _ _ _ _ _ _ _ _ _ _ _ _ _ _ _ _ ?_) snapA locA outA rfl rfl rfl (by decide) ?_<;>clear hcon)
    |(refine WpL.callF (hcon _ _ _ _ _ _ _ _ _ _ _ _ _ _ _ _ _) snapA locA outA rfl rfl rfl (by decide) ?_<;>clear hcon)
    |(refine WpL.callF (hcon _ _ _ _ _ _ _ _ _ _ _ _ _ _ _ _ _ _ ?_) snapA locA outA rfl rfl rfl (by decide) ?_<;>clear hcon)
    |(refine WpL.callF (hcon _ _ _ _ _ _ _ _ _ _ _ _ _ _ _ _ _ _) snapA locA outA rfl rfl rfl (by decide) ?_<;>clear hcon))
   |(refine K.call ?_;refine K.conG (fun hcon=>?_);first
    |(refine WpL.callM0 (hs:=[_,_,_,_]) (hcon _ _ _ _ _ _ _ _) handA handOA rfl rfl outA outA rfl rfl rfl rfl ?_<;>clear hcon))
   |(refine K.call ?_;refine K.conB (fun hcon=>?_);first
    |(refine WpL.callB (hcon _ _ _ _ _ _ _ _) snapA locA outA locA outA rfl rfl rfl rfl rfl (by decide) ?_ ?_<;>clear hcon))
   |(refine K.call ?_;refine K.conP (fun hcon=>?_);first
    |(refine WpL.callP (hs:=[_]) (hcon _ _ _ _ _ _ _ _ _ _) (by assumption) handA handOA rfl rfl (.cons rfl (.sc (.sc (.sc .nil))) .nil) outA rfl rfl rfl rfl (by decide) ?_<;>clear hcon))
   |(refine K.ix ?_;first
    |refine WpL.idxStr1 tabOk rfl rfl rfl (by omega) (by decide) (fun hgo=>?_)
    |refine WpL.idxStrB tabOk rfl rfl rfl (by omega) (by decide) (fun hgo=>?_))
   |(refine K.bi ?_;first
    |(refine K.blen ?_;first
     |refine WpL.lenImm (TabOk.slice tabOk rfl).1 rfl (by decide) ?_
     |refine WpL.lenOwn (TabOk.slice tabOk rfl).1 rfl rfl rfl (by decide) ?_
     |refine WpL.lenStr (K.tyStr tabOk rfl) rfl (by decide) ?_)
    |(refine K.bapp ?_;first
     |refine WpL.app1U8s tabOk rfl rfl rfl (by first|exact Nat.zero_le _|exact Nat.le_of_ble_eq_true rfl) rfl rfl (by first|rfl|omega|(simp;done)|(simp;omega)) (by omega) (by decide) ?_
     |refine WpL.appU8s tabOk rfl rfl rfl (by first|exact Nat.zero_le _|exact Nat.le_of_ble_eq_true rfl) rfl rfl (by first|rfl|omega|(simp;done)|(simp;omega)) (by first|rfl|omega|(simp;done)|(simp;omega)) (by omega) (by decide) ?_
     |refine WpL.appOwn tabOk rfl rfl rfl rfl rfl rfl (by simp) (by first|exact Nat.zero_le _|exact Nat.le_of_ble_eq_true rfl) rfl rfl (by simp) (by simp [all_ints,all_u8s,all_strs,oneB,Value.oneCell']) (by omega) (by decide) ?_))
   |(refine K.un ?_;first
    |refine WpL.not rfl (by decide) ?_)
   |(refine K.pick ?_;first
    |refine WpL.pickT rfl rfl (by decide) ?_
    |refine WpL.pickF rfl rfl (by decide) ?_)
   |(refine K.bld ?_;refine WpL.build tabOk rfl rfl (by kernel_rfl) (by decide) ?_)
   |(refine K.cv ?_;first
    |refine WpL.convI (P:=Try.prog) (by rfl) (K.tyInt tabOk rfl) rfl (by omega) (by decide) ?_
    |refine WpL.conv (P:=Try.prog) (by rfl) (K.tyInt tabOk rfl) rfl (by decide) ?_
    |refine WpL.ofBytes tabOk rfl rfl rfl rfl rfl (by simp) (by decide) ?_)
   |(refine K.lit ?_;first
    |refine WpL.lit0U8s tabOk rfl rfl rfl (by decide) ?_
    |refine WpL.litU8s tabOk rfl rfl rfl rfl rfl (by decide) rfl (by decide) ?_
    |refine WpL.litF tabOk rfl rfl rfl rfl (by decide) rfl (by decide) ?_)
   |(refine K.ms ?_;first
    |refine WpL.makeInts tabOk rfl rfl rfl (by omega) (by omega) rfl (by decide) ?_)
   |(refine K.st ?_;first
    |refine WpL.storeInts tabOk rfl rfl rfl rfl rfl (by first|omega|(simp;omega)) ?_
    |refine WpL.storeS tabOk rfl rfl rfl rfl rfl rfl rfl rfl (by first|decide|omega|(simp;omega)|(simp;done)) (by first|(simp only [Go.Abs.setL,List.set_cons_zero,List.set_cons_succ,Nat.zero_add,Nat.reduceAdd];exact rfl)|exact rfl) ?_)
   |(refine K.all ?_;first
    |refine WpL.allocB (b:=bldT) tabOk rfl rfl rfl (by decide) ?_
    |refine WpL.allocStruct tabOk rfl rfl (by decide) ?_)
   |(refine K.box ?_;refine WpL.box rfl rfl rfl (by decide) ?_)
   |(refine K.nc ?_;first
    |refine WpL.nilCheckP rfl rfl rfl (by decide) ?_)
   |(refine K.gd ?_;first
    |refine K.gT rfl (by decide) rfl ?_
    |refine K.gF rfl (by decide) rfl ?_
    |(refine K.gD rfl rfl (fun hgo=>?_) (fun hgo=>?_)<;>(try (first|contradiction|(exfalso;omega)))))
   |((repeat (revert hgo));(repeat ((fail_if_success with_reducible apply Hold.h hold);replace hold:=Hold.t hold));with_reducible apply Hold.h hold))
  |refine WpL.nil ?_
  |refine Abs.Seq.n ?_
  |(refine K.A ?_;first
   |refine WpA.seq ?_
   |refine WpA.regionF rfl ?_
   |(refine K.cond ?_;first
    |refine WpA.condT rfl ?_
    |refine WpA.condF rfl ?_
    |(refine WpA.condD rfl (fun hgo=>?_) (fun hgo=>?_)<;>(try (first|contradiction|(exfalso;omega))))
    |(refine WpA.condN rfl (fun hgo=>?_) (fun hgo=>?_)<;>(try (first|contradiction|(exfalso;omega))))
    |(refine WpA.condS rfl (fun hgo=>?_) (fun hgo=>?_)<;>(try (first|contradiction|(exfalso;omega)))))
   |refine WpA.block ?_
   |refine WpA.ret ?_
   |refine WpA.exit ?_
   |refine WpA.skip ?_
   |(refine K.loop ?_;((repeat (revert hgo));(repeat ((fail_if_success with_reducible apply Hold.h hold);replace hold:=Hold.t hold));with_reducible apply Hold.h hold))
   |((repeat (revert hgo));(repeat ((fail_if_success with_reducible apply Hold.h hold);replace hold:=Hold.t hold));with_reducible apply Hold.h hold))
  |(refine K.RT ?_;first
   |exact ReT.nil
   |refine ReT.same rfl rfl ?_
   |refine ReT.own rfl rfl rfl rfl rfl rfl (by first|rfl|omega|(simp;done)|(simp;omega)) ?_
   |refine ReT.ptr rfl rfl rfl rfl rfl ?_)
  |(refine TrueB.mk ?_;kernel_rfl)
  |(apply K.eq;first|exact rfl|omega|assumption|(simp;done)|(simp;omega)|(exact absurd (by simp;done) ‹¬ _›)|((repeat (revert hgo));(repeat ((fail_if_success with_reducible apply Hold.h hold);replace hold:=Hold.t hold));with_reducible apply Hold.h hold))
  |(refine K.le ?_;first|omega|(simp;omega)|assumption|((repeat (revert hgo));(repeat ((fail_if_success with_reducible apply Hold.h hold);replace hold:=Hold.t hold));with_reducible apply Hold.h hold))
  |(refine K.lt ?_;first|omega|(simp;omega)|assumption|((repeat (revert hgo));(repeat ((fail_if_success with_reducible apply Hold.h hold);replace hold:=Hold.t hold));with_reducible apply Hold.h hold))
  |refine And.intro ?_ ?_
  |(refine K.RO ?_;first
   |exact ReO.nil
   |refine ReO.ints ?_ (by first|exact .inl rfl|exact .inr rfl) ?_
   |refine ReO.u8s ?_ (by first|exact .inl rfl|exact .inr rfl) ?_
   |refine ReO.cons (Re.same rfl rfl) (by first|exact .inl rfl|exact .inr rfl) ?_
   |refine ReO.cons ?_ (by first|exact .inl rfl|exact .inr rfl) ?_)
  |(refine K.W ?_;first
   |refine Weak.mk ?_ ?_ (by first|exact Nat.zero_le _|exact Nat.le_of_ble_eq_true rfl))
  |refine Abs.Seq.ret ?_
  |refine Abs.Seq.exit ?_
  |refine Blk.n ?_
  |refine Blk.ret ?_
  |refine Blk.exitHere ?_
  |(refine K.R ?_;first
   |refine Rnd.ret ?_
   |refine Rnd.exit ?_
   |refine Rnd.succ ?_ ?_ ?_
   |((repeat (revert hgo));(repeat ((fail_if_success with_reducible apply Hold.h hold);replace hold:=Hold.t hold));with_reducible apply Hold.h hold))
  |(refine K.F ?_;first
   |apply Fin.one0
   |apply Fin.one1
   |((repeat (revert hgo));(repeat ((fail_if_success with_reducible apply Hold.h hold);replace hold:=Hold.t hold));with_reducible apply Hold.h hold))
  |exact ResV.tmp rfl
  |exact ResV.cellP rfl rfl rfl rfl rfl
  |exact ResV.cell (ds:=[_]) rfl rfl rfl rfl rfl
  |exact ResV.cell (ds:=[_,_]) rfl rfl rfl rfl rfl
  |exact ResV.cell (ds:=[_,_,_]) rfl rfl rfl rfl rfl
  |exact ResV.cell (ds:=[_,_,_,_]) rfl rfl rfl rfl rfl
  |exact ResV.cell (ds:=[_,_,_,_,_]) rfl rfl rfl rfl rfl
  |exact ResV.cell (ds:=[_,_,_,_,_,_]) rfl rfl rfl rfl rfl
  |exact ResV.cell (ds:=[_,_,_,_,_,_,_]) rfl rfl rfl rfl rfl
  |exact ResV.cell (ds:=[_,_,_,_,_,_,_,_]) rfl rfl rfl rfl rfl
  |(refine K.E ?_;first
   |exact Ex.nil
   |refine Ex.keep rfl rfl rfl ?_
   |refine Ex.own rfl rfl rfl rfl ?_
   |refine Ex.own rfl rfl rfl ?_ ?_
   |refine Ex.nilO rfl ?_
   |refine Ex.agg ?_ ?_
   |refine Ex.tup ?_ ?_
   |refine Ex.i ?_ ?_
   |refine Ex.b ?_ ?_
   |refine Ex.z ?_ ?_)
  |(refine K.NE ?_;first
   |exact NEx.nil
   |refine NEx.ints rfl ?_ ?_
   |refine NEx.gone ?_ rfl ?_
   |refine NEx.obj rfl ?_ rfl rfl rfl (.inr rfl) ?_)
  |exact Re.nil
  |refine Re.keep rfl rfl ?_
  |refine Re.fn rfl ?_
  |refine Re.own rfl rfl rfl rfl rfl (by first|rfl|omega|(simp;done)|(simp;omega)) ?_
  |refine Re.ptr rfl rfl rfl rfl ?_
  |refine Re.agg ?_ ?_
  |refine Re.tup ?_ ?_
  |exact rfl
  |omega
  |(refine fun hgo=>?_)
  |(simp;done)
  |(simp;omega)
  |((repeat (revert hgo));(repeat ((fail_if_success with_reducible apply Hold.h hold);replace hold:=Hold.t hold));with_reducible apply Hold.h hold))
  all_goals (try ((repeat (revert hgo));(repeat ((fail_if_success with_reducible apply Hold.h hold);replace hold:=Hold.t hold));with_reducible apply Hold.h hold))
  all_goals exact True
 ·first|exact IsT.t|exact IsT.any
 ) (r:R):P:=h.1 ⟨r⟩
end Go.Proofs.Ytkckmenalehdpaa


namespace Go.Abs
open Go
section
variable {P:Program} {n m:Nat} {G:Ctx} {T:List (Nat×AV)} {O:List AObj} {Q:Exit→St→Prop} {md:Bool} {ops:Array Oper} {l:List Oper} {d:Nat} {tt:TypeId} {pos:String} {after:Array Edge}
end
end Go.Abs


namespace Go.Abs
open Go
inductive Rf (k j e:Nat):List AV→List AV→Prop
 |nil:Rf k j e [] []
 |keep {V vs us}:V.still=true→V.nofre=true→Rf k j e vs us→Rf k j e (V::vs) (V::us)
 |own {k' off len vs us}:k'=k→Rf k j e vs us→Rf k j e (.own k' 0 off len::vs) (.own j e off len::us)
 |ptr {k' off vs us}:k'=k→Rf k j e vs us→Rf k j e (.ptr k' 0 off::vs) (.ptr j e off::us)
 |agg {ds es vs us}:Rf k j e ds es→Rf k j e vs us→Rf k j e (.agg ds::vs) (.agg es::us)
 |tup {ds es vs us}:Rf k j e ds es→Rf k j e vs us→Rf k j e (.tup ds::vs) (.tup es::us)
theorem Rf.rel {k j e:Nat} {S w} {ι ι':Nat→Spot} {O O':List AObj} {ob ob':AObj} (ho:O[k]?=some ob) (ho':O'[j]?=some ob') (he:ob.ep=0) (he':ob'.ep=e) (hsz:ob'.size=ob.size) (hι:ι' j=ι k) {vs us:List AV} (h:Rf k j e vs us):∀{xs},LRel S w ι O vs xs []→LRel S w ι' O' us xs []:=by
 induction h with
 |nil=>intro xs hl;cases hl;exact .nil
 |keep hs hn _ ih=>
  intro xs hl
  obtain ⟨v,vs',f1,f2,rfl,hv,hr,hf⟩:=hl.uncons
  obtain ⟨rfl,rfl⟩:f1=[]∧f2=[]:=by simpa using hf
  exact LRel.cons (still_any hv hs O' (fun _ h=>h) (fun _ _=>rfl) (fun _ _=>rfl)) (ih hr)
 |own hk _ ih=>
  intro xs hl
  subst hk
  cases hl with
  |own q1 q2 q3 r=>
   rw [ho] at q1;cases q1
   exact .own ho' (by omega) (fun _=>by rw [hsz,hι];exact q3 he.symm) (ih r)
 |ptr hk _ ih=>
  intro xs hl
  subst hk
  cases hl with
  |ptr q1 q2 q3 r=>
   rw [ho] at q1;cases q1
   exact .ptr ho' (by omega) (fun _=>by rw [hι];exact q3 he.symm) (ih r)
 |agg _ _ ih1 ih2=>
  intro xs hl
  obtain ⟨v,vs',f1,f2,rfl,hv,hr,hf⟩:=hl.uncons
  obtain ⟨rfl,rfl⟩:f1=[]∧f2=[]:=by simpa using hf
  obtain ⟨us',rfl,ha⟩:=LRel.agg_inv hv
  simpa using LRel.agg (ih1 ha) (ih2 hr)
 |tup _ _ ih1 ih2=>
  intro xs hl
  obtain ⟨v,vs',f1,f2,rfl,hv,hr,hf⟩:=hl.uncons
  obtain ⟨rfl,rfl⟩:f1=[]∧f2=[]:=by simpa using hf
  obtain ⟨us',rfl,ha⟩:=LRel.tup_inv hv
  simpa using LRel.tup (ih1 ha) (ih2 hr)
section
variable {P:Program} {n m:Nat} {G:Ctx} {O:List AObj} {Q:Exit→St→Prop} {ops:Array Oper}
end
end Go.Abs


namespace Go.Abs
open Go
inductive HeadR (P:Program) (n m:Nat) (G:Ctx) (ops:Array Oper) (T0:List (Nat×AV)) (O Oi:List AObj) (keep sh:List Nat):List (Nat×AV)→List Fil→List Oper→List (Nat×AV)→List Fil→Prop
 |nil {fs gs}:HeadR P n m G ops T0 O Oi keep sh fs gs [] fs gs
 |cons {fs out:List (Nat×AV)} {gs:List Fil} {o:Oper} {l:List Oper} {d:Nat} {V:AV} {F:List (Nat×AV)} {ks:List Fil} (k:Fil) (hF:deps fs o=F)
   (h:∀Tv Ov,Oi.length≤Ov.length→(∀ p ob,k.spot=some (p,ob)→Ov[p]?=(fillAll gs Oi)[p]?)→(∀ j f p ob,waits o j=true→gs[j]?=some f→f.spot=some (p,ob)→memB p sh=false→Ov[p]?=some ob)→(∀ q,memB q keep=true→Ov[q]?=Oi[q]?)→
    WpL P n m G false ops [o] ⟨F++(T0++Tv),O++Ov⟩ (Only ⟨(d,V)::(F++(T0++Tv)),O++k.run Ov⟩)) (r:HeadR P n m G ops T0 O Oi keep sh (fs++[(d,V)]) (gs++[k]) l out ks):HeadR P n m G ops T0 O Oi keep sh fs gs (o::l) out ks
section
variable {P:Program} {n m:Nat} {G:Ctx} {ops:Array Oper} {T0:List (Nat×AV)} {O Oi:List AObj} {keep sh:List Nat}
theorem HeadR.pre {fs gs l out ks} (h:HeadR P n m G ops T0 O Oi keep sh fs gs l out ks):∃r s,out=fs++r∧r.length=l.length∧ks=gs++s∧s.length=l.length:=by
 induction h with
 |nil=>exact ⟨[],[],by simp,rfl,by simp,rfl⟩
 |@cons fs out gs o l d V F ks k _ _ _ ih=>obtain ⟨r,s,h1,h2,h3,h4⟩:=ih;exact ⟨(d,V)::r,k::s,by rw [h1];simp,by simp [h2],by rw [h3];simp,by simp [h4]⟩
theorem HeadR.at {fs gs l out ks} (h:HeadR P n m G ops T0 O Oi keep sh fs gs l out ks) (hg:gs.length=fs.length):∀{j:Nat} {o:Oper},l[j]?=some o→∃d V k,out[fs.length+j]?=some (d,V)∧ks[fs.length+j]?=some k∧
 ∀Tv Ov,Oi.length≤Ov.length→(∀ p ob,k.spot=some (p,ob)→Ov[p]?=(fillAll (ks.take (fs.length+j)) Oi)[p]?)→(∀ i f p ob,waits o i=true→(ks.take (fs.length+j))[i]?=some f→f.spot=some (p,ob)→memB p sh=false→Ov[p]?=some ob)→(∀ q,memB q keep=true→Ov[q]?=Oi[q]?)→
  WpL P n m G false ops [o] ⟨deps (out.take (fs.length+j)) o++(T0++Tv),O++Ov⟩ (Only ⟨(d,V)::(deps (out.take (fs.length+j)) o++(T0++Tv)),O++k.run Ov⟩):=by
 induction h with
 |nil=>intro j o h;simp at h
 |@cons fs out gs o l d V F ks k hF h r ih=>
  intro j o' hj
  obtain ⟨r',s',h1,h2,h3,h4⟩:=r.pre
  cases j with
  |zero=>
   simp only [List.getElem?_cons_zero,Option.some.injEq] at hj
   subst hj
   refine ⟨d,V,k,by rw [h1];simp,by rw [h3];simp [hg],?_⟩
   have:out.take (fs.length+0)=fs:=by rw [h1,Nat.add_zero,List.append_assoc,List.take_left'];rfl
   have e2:ks.take (fs.length+0)=gs:=by rw [h3,Nat.add_zero,List.append_assoc,List.take_left'];exact hg
   rw [this,hF,e2];exact h
  |succ j=>
   have:=ih (by simp [hg]) (j:=j) (o:=o') (by simpa using hj)
   rw [List.length_append,List.length_singleton,Nat.add_assoc,Nat.add_comm 1 j] at this
   simpa using this
theorem fillAll_cases:∀(L:List Fil) (Oi:List AObj) (q:Nat),q<Oi.length→(∃ (i:Nat) (f:Fil) (ob:AObj),L[i]?=some f∧f.spot=some (q,ob)∧(∀ (j:Nat) (g:Fil) (oc:AObj),i<j→L[j]?=some g→g.spot≠some (q,oc))∧(fillAll L Oi)[q]?=some ob)∨
 ((∀ (j:Nat) (g:Fil) (oc:AObj),L[j]?=some g→g.spot≠some (q,oc))∧(fillAll L Oi)[q]?=Oi[q]?)
 |[],Oi,q,hq=>.inr ⟨fun j g oc h=>by simp at h,rfl⟩
 |f::L,Oi,q,hq=>by
  rw [fillAll]
  cases hs:f.spot with
  |none=>
   rcases fillAll_cases L Oi q hq with ⟨i,g,ob,h1,h2,h3,h4⟩|⟨h1,h2⟩
   ·refine .inl ⟨i+1,g,ob,by simpa using h1,h2,fun j g' oc hj hg=>?_,h4⟩
    cases j with
    |zero=>omega
    |succ j=>exact h3 j g' oc (by omega) (by simpa using hg)
   ·refine .inr ⟨fun j g oc hg=>?_,h2⟩
    cases j with
    |zero=>simp at hg;subst hg;rw [hs];simp
    |succ j=>exact h1 j g oc (by simpa using hg)
  |some x=>
   obtain ⟨p,ob0⟩:=x
   simp only
   rcases fillAll_cases L (Oi.set p ob0) q (by simpa using hq) with ⟨i,g,ob,h1,h2,h3,h4⟩|⟨h1,h2⟩
   ·refine .inl ⟨i+1,g,ob,by simpa using h1,h2,fun j g' oc hj hg=>?_,h4⟩
    cases j with
    |zero=>omega
    |succ j=>exact h3 j g' oc (by omega) (by simpa using hg)
   ·by_cases e:p=q
    ·subst e
     refine .inl ⟨0,f,ob0,by simp,hs,fun j g' oc hj hg=>?_,by rw [h2,List.getElem?_set_self hq]⟩
     cases j with
     |zero=>omega
     |succ j=>exact h1 j g' oc (by simpa using hg)
    ·refine .inr ⟨fun j g oc hg=>?_,by rw [h2,List.getElem?_set,if_neg e]⟩
     cases j with
     |zero=>simp at hg;subst hg;rw [hs];intro h;cases h;exact e rfl
     |succ j=>exact h1 j g oc (by simpa using hg)
structure RoomR (ks:List Fil) (Oi:List AObj) (k:Nat) (listed:Array Bool) (Ov:List AObj):Prop where
 len:Ov.length=Oi.length+((List.range k).filter fun i=>listed.getD i false&&isPut ks i).length
 cur:∀q,q<Oi.length→(∃ i f ob,i<k∧listed.getD i false=true∧ks[i]?=some f∧f.spot=some (q,ob)∧(∀ j g oc,i<j→j<k→listed.getD j false=true→ks[j]?=some g→g.spot≠some (q,oc))∧Ov[q]?=some ob)∨
  ((∀ j g oc,j<k→listed.getD j false=true→ks[j]?=some g→g.spot≠some (q,oc))∧Ov[q]?=Oi[q]?)
 dead:∀q,Oi.length≤q→q<Ov.length→Ov[q]?=some deadO
structure RoomROk (ops:Array Oper) (sh:List Nat) (ks:List Fil) (c k:Nat):Prop where
 lt:∀i f p ob,i<k→ks[i]?=some f→f.spot=some (p,ob)→p<c
 chain:∀i j f g p ob oc,i<j→j<k→ks[i]?=some f→ks[j]?=some g→f.spot=some (p,ob)→g.spot=some (p,oc)→memB p sh=true∧∃o,ops[j]?=some o∧waits o i=true
theorem waits_spec {o:Oper} {j:Nat} (h:waits o j=true):∃e∈o.after,Region.binds .any e=true∧e.on=j:=by
 obtain ⟨e,he,hb⟩:=List.any_eq_true.1 h
 rw [Bool.and_eq_true] at hb
 exact ⟨e,by simpa using he,hb.1,Nat.eq_of_beq_eq_true hb.2⟩
theorem RoomR.before {ks:List Fil} {k i:Nat} {listed:Array Bool} {Ov:List AObj} {f:Fil} {o:Oper} (h:RoomR ks Oi k listed Ov) (ok:RoomROk ops sh ks Oi.length k) (inv:HeadInv .any ops k listed) (hik:i<k) (hu:listed.getD i false=false) (hall:∀e∈o.after,Region.binds .any e=true→listed.getD e.on false=true) (ho:ops[i]?=some o) (hf:ks[i]?=some f) {p:Nat} {ob:AObj} (hsp:f.spot=some (p,ob)):
 Ov[p]?=(fillAll (ks.take i) Oi)[p]?:=by
 have hp:=ok.lt i f p ob hik hf hsp
 have hbef:∀j g oc,j<i→ks[j]?=some g→g.spot=some (p,oc)→listed.getD j false=true:=by
  intro j g oc hj hg hs
  obtain ⟨_,o',ho',hw⟩:=ok.chain j i g f p oc ob hj hik hg hf hs hsp
  rw [ho] at ho';cases ho'
  obtain ⟨e,he,hb,rfl⟩:=waits_spec hw
  exact hall e he hb
 have haft:∀j g oc,i<j→j<k→ks[j]?=some g→g.spot=some (p,oc)→listed.getD j false=false:=by
  intro j g oc hj hjk hg hs
  obtain ⟨_,o',ho',hw⟩:=ok.chain i j f g p ob oc hj hjk hf hg hsp hs
  cases hl:listed.getD j false with
  |false=>rfl
  |true=>
   obtain ⟨e,he,hb,rfl⟩:=waits_spec hw
   have:=inv.closed j o' ho' hl e he hb
   rw [hu] at this;cases this
 have htk:∀j g,(ks.take i)[j]?=some g→j<i∧ks[j]?=some g:=by
  intro j g hg
  rw [List.getElem?_take] at hg
  split at hg
  ·rename_i hj;exact ⟨hj,hg⟩
  ·cases hg
 rcases h.cur p hp with ⟨j,g,oc,hjk,hl,hg,hs,hlast,hv⟩|⟨hno,hv⟩<;>rcases fillAll_cases (ks.take i) Oi p hp with ⟨j2,g2,oc2,hg2,hs2,hlast2,hv2⟩|⟨hno2,hv2⟩
 ·obtain ⟨hj2,hg2⟩:=htk j2 g2 hg2
  have hji:j<i:=by
   rcases Nat.lt_trichotomy j i with h1|h1|h1
   ·exact h1
   ·subst h1;rw [hu] at hl;cases hl
   ·rw [haft j g oc h1 hjk hg hs] at hl;cases hl
  have:j=j2:=by
   rcases Nat.lt_trichotomy j j2 with h1|h1|h1
   ·exact absurd hs2 (hlast j2 g2 oc2 h1 (by omega) (hbef j2 g2 oc2 hj2 hg2 hs2) hg2)
   ·exact h1
   ·exact absurd hs (hlast2 j g oc h1 (by rw [List.getElem?_take,if_pos hji];exact hg))
  subst this
  rw [hg] at hg2;cases hg2
  rw [hs] at hs2;cases hs2
  rw [hv,hv2]
 ·have hji:j<i:=by
   rcases Nat.lt_trichotomy j i with h1|h1|h1
   ·exact h1
   ·subst h1;rw [hu] at hl;cases hl
   ·rw [haft j g oc h1 hjk hg hs] at hl;cases hl
  exact absurd hs (hno2 j g oc (by rw [List.getElem?_take,if_pos hji];exact hg))
 ·obtain ⟨hj2,hg2⟩:=htk j2 g2 hg2
  exact absurd hs2 (hno j2 g2 oc2 (by omega) (hbef j2 g2 oc2 hj2 hg2 hs2) hg2)
 ·rw [hv,hv2]
theorem RoomR.step {ks:List Fil} {k i:Nat} {listed:Array Bool} {Ov:List AObj} {f:Fil} (h:RoomR ks Oi k listed Ov) (ok:RoomROk ops sh ks Oi.length k) (inv:HeadInv .any ops k listed) (hik:i<k) (hs:i<listed.size) (hu:listed.getD i false=false) (hf:ks[i]?=some f):
 RoomR ks Oi k (listed.setIfInBounds i true) (f.run Ov):=by
 have hself:(listed.setIfInBounds i true).getD i false=true:=by simp [hs]
 have hcnt:=count_set (f:=isPut ks) hik hs hu
 have hlen:=h.len
 have hp:isPut ks i=f.isPut:=by unfold isPut;rw [hf];rfl
 rw [hp] at hcnt
 have hrl:(f.run Ov).length=Ov.length+(if f.isPut=true then 1 else 0):=by cases f<;>simp [Fil.run,Fil.isPut]
 have hle:Oi.length≤Ov.length:=by omega
 have hoth:∀q,q<Ov.length→(∀ p ob,f.spot=some (p,ob)→p≠q)→(f.run Ov)[q]?=Ov[q]?:=by
  intro q hq hne
  cases f with
  |none=>rfl
  |put p ob=>
   have:=hne p ob rfl
   unfold Fil.run
   rw [List.getElem?_append_left (by simpa using hq),List.getElem?_set,if_neg this]
  |step p ob=>
   have:=hne p ob rfl
   unfold Fil.run
   rw [List.getElem?_set,if_neg this]
 have hown:∀p ob,f.spot=some (p,ob)→(f.run Ov)[p]?=some ob:=by
  intro p ob e
  have hpc:=ok.lt i f p ob hik hf e
  cases f with
  |none=>cases e
  |put p' ob'=>
   cases e
   unfold Fil.run
   rw [List.getElem?_append_left (by rw [List.length_set];omega),List.getElem?_set_self (by omega)]
  |step p' ob'=>
   cases e
   unfold Fil.run
   rw [List.getElem?_set_self (by omega)]
 refine ⟨by rw [hrl,hcnt,hlen];split<;>omega,fun q hq=>?_,fun q h1 h2=>?_⟩
 ·by_cases hq2:∃ob,f.spot=some (q,ob)
  ·obtain ⟨ob,hsp⟩:=hq2
   refine .inl ⟨i,f,ob,hik,hself,hf,hsp,fun j g oc hj hjk hl hg hs2=>?_,hown q ob hsp⟩
   rw [getD_set_ne false (by omega)] at hl
   obtain ⟨_,o',ho',hw⟩:=ok.chain i j f g q ob oc hj hjk hf hg hsp hs2
   obtain ⟨e,he,hb,rfl⟩:=waits_spec hw
   have:=inv.closed j o' ho' hl e he hb
   rw [hu] at this;cases this
  ·have hne:∀p ob,f.spot=some (p,ob)→p≠q:=fun p ob hsp e=>hq2 ⟨ob,e▸hsp⟩
   rw [hoth q (by omega) hne]
   rcases h.cur q hq with ⟨j,g,oc,hjk,hl,hg,hs2,hlast,hv⟩|⟨hno,hv⟩
   ·have hij:i≠j:=by rintro rfl;rw [hu] at hl;cases hl
    refine .inl ⟨j,g,oc,hjk,by rw [getD_set_ne false hij];exact hl,hg,hs2,fun j2 g2 oc2 h1 h2 h3 h4=>?_,hv⟩
    by_cases e:i=j2
    ·subst e;rw [hf] at h4;cases h4;exact fun h5=>hq2 ⟨_,h5⟩
    ·rw [getD_set_ne false e] at h3;exact hlast j2 g2 oc2 h1 h2 h3 h4
   ·refine .inr ⟨fun j2 g2 oc2 h2 h3 h4=>?_,hv⟩
    by_cases e:i=j2
    ·subst e;rw [hf] at h4;cases h4;exact fun h5=>hq2 ⟨_,h5⟩
    ·rw [getD_set_ne false e] at h3;exact hno j2 g2 oc2 h2 h3 h4
 ·rcases Nat.lt_or_ge q Ov.length with h3|h3
  ·rw [hoth q h3 (fun p ob e1=>by have:=ok.lt i f p ob hik hf e1;omega)]
   exact h.dead q h1 h3
  ·cases f with
   |none=>exact absurd h2 (by simp [Fil.run];omega)
   |step p ob=>exact absurd h2 (by simp [Fil.run];omega)
   |put p ob=>
    simp [Fil.run] at h2
    have e:q=Ov.length:=by omega
    subst e
    unfold Fil.run
    rw [List.getElem?_append_right (by simp)];simp
end
end Go.Abs
