/- Proved in this text: lemmas and contracts of functions that the claim uses (parts: Go, Base, Frame, TxP, GoR, TxI, TxD, TxJ, Defs, Code, Kraft, Sym, Stat, Pred, Sid, AbsXg, AbsXk). No condition. -/
import Derived.Test.YtkckmenalehdpaaDoorHdM4
import Derived.Lib.ItoaLen
set_option linter.unusedVariables false
set_option linter.unusedSimpArgs false
set_option maxRecDepth 100000
set_option maxHeartbeats 4000000


namespace Go.Proofs.YtkckmenalehdpaaDoor
open Go Go.Abs
theorem mixed:Tryd.prog.follows .mixedOrders=true:=by kernel_rfl
class Con (f:Nat) (C:outParam Prop):Prop where
 ok:C
class ConB (f:Nat) (C:outParam Prop):Prop where
 ok:C
class ConG (f:Nat) (C:outParam Prop):Prop where
 ok:C
class ConP (f:Nat) (C:outParam Prop):Prop where
 ok:C
abbrev Fn (f:Nat) (args:List AV) (N:List AObj) (r:AV):Prop:=FnC Tryd.prog f args N r
theorem K.con {n m:Nat} {G:Ctx} {σ:St} {Q:Exit→St→Prop} {md:Bool} {ops:Array Oper} {l:List Oper} {dd:Option Nat} {tt:TypeId} {pos:String} {after:Array Edge} {f:Nat} {C:Prop} {xs:Array Operand} {ats:Array TypeId} [i:Con f C]
 (h:C→WpL Tryd.prog n m G md ops ({dst:=dd,op:=.call {callee:=.value (.func f),args:=xs,argTypes:=ats},type:=tt,pos:=pos,after:=after,guard:=none}::l) σ Q):WpL Tryd.prog n m G md ops ({dst:=dd,op:=.call {callee:=.value (.func f),args:=xs,argTypes:=ats},type:=tt,pos:=pos,after:=after,guard:=none}::l) σ Q:=h i.ok
theorem K.conG {n m:Nat} {G:Ctx} {σ:St} {Q:Exit→St→Prop} {md:Bool} {ops:Array Oper} {l:List Oper} {dd:Option Nat} {tt:TypeId} {pos:String} {after:Array Edge} {f:Nat} {C:Prop} {xs:Array Operand} {ats:Array TypeId} [i:ConG f C]
 (h:C→WpL Tryd.prog n m G md ops ({dst:=dd,op:=.call {callee:=.value (.func f),args:=xs,argTypes:=ats},type:=tt,pos:=pos,after:=after,guard:=none}::l) σ Q):WpL Tryd.prog n m G md ops ({dst:=dd,op:=.call {callee:=.value (.func f),args:=xs,argTypes:=ats},type:=tt,pos:=pos,after:=after,guard:=none}::l) σ Q:=h i.ok
theorem K.conB {n m:Nat} {G:Ctx} {σ:St} {Q:Exit→St→Prop} {md:Bool} {ops:Array Oper} {l:List Oper} {dd:Option Nat} {tt:TypeId} {pos:String} {after:Array Edge} {f:Nat} {C:Prop} {xs:Array Operand} {ats:Array TypeId} [i:ConB f C]
 (h:C→WpL Tryd.prog n m G md ops ({dst:=dd,op:=.call {callee:=.value (.func f),args:=xs,argTypes:=ats},type:=tt,pos:=pos,after:=after,guard:=none}::l) σ Q):WpL Tryd.prog n m G md ops ({dst:=dd,op:=.call {callee:=.value (.func f),args:=xs,argTypes:=ats},type:=tt,pos:=pos,after:=after,guard:=none}::l) σ Q:=h i.ok
theorem K.conP {n m:Nat} {G:Ctx} {σ:St} {Q:Exit→St→Prop} {md:Bool} {ops:Array Oper} {l:List Oper} {dd:Option Nat} {tt:TypeId} {pos:String} {after:Array Edge} {f:Nat} {C:Prop} {xs:Array Operand} {ats:Array TypeId} [i:ConP f C]
 (h:C→WpL Tryd.prog n m G md ops ({dst:=dd,op:=.call {callee:=.value (.func f),args:=xs,argTypes:=ats},type:=tt,pos:=pos,after:=after,guard:=none}::l) σ Q):WpL Tryd.prog n m G md ops ({dst:=dd,op:=.call {callee:=.value (.func f),args:=xs,argTypes:=ats},type:=tt,pos:=pos,after:=after,guard:=none}::l) σ Q:=h i.ok
theorem snapA {O:List AObj} {vs us:List AV} (h:Snap O vs us:=by
 (repeat' (first
 |exact Snap.nil
 |refine Snap.fn ?_ ?_
 |refine Snap.keep rfl rfl ?_
 |refine Snap.ownL rfl rfl rfl ?_ ?_ ?_ ?_
 |refine Snap.agg ?_ ?_
 |refine Snap.nilI ?_
 |refine Snap.fre ?_ ?_
 |refine Snap.ptr rfl rfl ?_ ?_
 |exact Snap.same rfl (still_ints _) (nofre_ints _)
 |exact Snap.same rfl (still_u8s _) (nofre_u8s _)
 |exact Snap.same rfl (still_strs _) (nofre_strs _)
 |exact Snap.same rfl (still_bools _) (nofre_bools _)
 |exact Snap.same rfl (still_rows (fun _=>rfl) _) (nofre_rows (fun _=>rfl) _)
 |(apply K.eq;first|exact rfl|omega|(simp;done)|(simp;omega))
 ));first|done|fail):Snap O vs us:=h
theorem locA {vs:List AV} (h:Abs.Loc vs:=by
 (repeat' (first
 |exact Loc.nil
 |refine Loc.sc ?_
 |refine Loc.own ?_
 |refine Loc.nilS ?_
 |refine Loc.imm0 ?_
 |refine Loc.agg ?_ ?_
 |refine Loc.tup ?_ ?_
 ));first|done|fail):Abs.Loc vs:=h
theorem outA {N:List AObj} (h:Out N:=by
 (repeat' (first
 |exact Out.nil
 |refine Out.cons (still_ints _) (Loc.ints _) ?_
 |refine Out.cons (still_u8s _) (Loc.u8s _) ?_
 |refine Out.cons (still_strs _) (Loc.strs _) ?_
 |refine Out.cons (still_bools _) (Loc.bools _) ?_
 |refine Out.cons (still_rows (fun _=>rfl) _) (Loc.rows loc_pr _) ?_
 |refine Out.cons (still_rows (fun _=>rfl) _) (Loc.rows loc_blk _) ?_
 |refine Out.cons (still_rows (fun _=>rfl) _) (Loc.rows loc_mb _) ?_
 |refine Out.cons (still_rows (fun _=>rfl) _) (Loc.rows loc_fr _) ?_
 |refine Out.cons (still_rows (fun _=>rfl) _) (Loc.rows loc_pl _) ?_
 |refine Out.cons (still_rows (fun _=>rfl) _) (Loc.rows loc_li _) ?_
 |refine Out.cons rfl (by repeat' (first|exact Loc.nil|refine Loc.sc ?_|refine Loc.nilS ?_|refine Loc.fre ?_ ?_|exact Loc.ints _|exact Loc.u8s _|exact Loc.bools _|exact Loc.strs _);first|done|fail) ?_
 ));first|done|fail):Out N:=h
theorem handA {O:List AObj} {hs:List Nat} {M:List AObj} {vs us:List AV} (h:HandM O hs M vs us:=by
 (repeat' (first|fail));first|done|fail):HandM O hs M vs us:=h
theorem handOA {O:List AObj} {hs:List Nat} {M:List AObj} (h:HandO O hs M:=by
 (repeat' (first
 |exact HandO.nil
 |refine HandO.cons rfl rfl (still_ints _) rfl rfl (by first|exact .inl rfl|exact .inr rfl) ?_
 |refine HandO.cons rfl rfl (still_strs _) rfl rfl (by first|exact .inl rfl|exact .inr rfl) ?_
 |refine HandO.cons rfl rfl (still_bools _) rfl rfl (by first|exact .inl rfl|exact .inr rfl) ?_
 |refine HandO.cons rfl rfl (still_u8s _) rfl rfl (by first|exact .inl rfl|exact .inr rfl) ?_
 |refine HandO.cons rfl rfl (still_rows (fun _=>rfl) _) rfl rfl (by first|exact .inl rfl|exact .inr rfl) ?_
 |refine HandO.cons rfl rfl rfl rfl rfl (by first|exact .inl rfl|exact .inr rfl) ?_
 ));first|done|fail):HandO O hs M:=h
theorem in0 {X:Prop} (h:X:=by
 (repeat' (first
  |refine fun hgo=>?_
  |exact Only.mk rfl
  |refine WpL.nil ?_
  |(refine K.L ?_;first
   |(refine K.mv ?_;refine WpL.move rfl (by decide) ?_)
   |(refine K.asg ?_;refine WpL.assign rfl (by decide) ?_)
   |(refine K.bin ?_;first
    |refine WpL.add rfl rfl (by omega) (by decide) ?_
    |refine WpL.sub rfl rfl (by omega) (by decide) ?_
    |refine WpL.quo rfl rfl (by omega) (by decide) ?_
    |refine WpL.rem rfl rfl (by omega) (by decide) ?_
    |refine WpL.bin rfl rfl rfl (by decide) ?_
    |refine WpL.strAdd rfl rfl (by first|omega|(simp only [List.length_append];omega)|(simp;omega)) (by decide) ?_
    |refine WpL.strNe rfl rfl (by decide) ?_
    |refine WpL.boolNe (K.tyBool tabOk rfl) rfl rfl (by decide) ?_
    |refine WpL.shl rfl rfl (by first|decide|(simp only [IntKind.bits];omega)) (by decide) ?_)
   |(refine K.ld ?_;first
    |refine WpL.loadInts tabOk rfl rfl rfl (by first|omega|(simp;omega)) (by decide) ?_
    |refine WpL.load1 tabOk rfl rfl rfl rfl rfl (by decide) ?_
    |refine WpL.loadAgg (ds:=[_]) tabOk rfl rfl rfl rfl rfl (by decide) ?_
    |refine WpL.loadAgg (ds:=[_,_]) tabOk rfl rfl rfl rfl rfl (by decide) ?_
    |refine WpL.loadAgg (ds:=[_,_,_]) tabOk rfl rfl rfl rfl rfl (by decide) ?_
    |refine WpL.loadAgg (ds:=[_,_,_,_]) tabOk rfl rfl rfl rfl rfl (by decide) ?_
    |refine WpL.loadAgg (ds:=[_,_,_,_,_]) tabOk rfl rfl rfl rfl rfl (by decide) ?_
    |refine WpL.loadAgg (ds:=[_,_,_,_,_,_]) tabOk rfl rfl rfl rfl rfl (by decide) ?_
    |refine WpL.loadAgg (ds:=[_,_,_,_,_,_,_]) tabOk rfl rfl rfl rfl rfl (by decide) ?_
    |refine WpL.loadAgg (ds:=[_,_,_,_,_,_,_,_]) tabOk rfl rfl rfl rfl rfl (by decide) ?_)
   |(refine K.fld ?_;first
    |refine WpL.fieldP tabOk rfl rfl rfl rfl rfl (by decide) ?_)
   |(refine K.ixa ?_;first
    |refine WpL.idxI1 tabOk rfl rfl rfl (by omega) (by decide) ?_
    |refine WpL.idxOJ tabOk rfl rfl rfl rfl rfl (by omega) (by decide) ?_
    |refine WpL.idxI tabOk rfl rfl rfl (by omega) (by decide) ?_
    |refine WpL.idxO tabOk rfl rfl rfl rfl rfl (by omega) (by decide) ?_)
   |(refine K.call ?_;refine K.con (fun hcon=>?_);first
    |(refine WpL.call0 (hcon _ _ _ _ _ _ _ _ _ _ _ _ _ _ _ _ _ _) snapA locA rfl rfl (by decide) ?_<;>clear hcon))
   |(refine K.bi ?_;first
    |(refine K.blen ?_;first
     |refine WpL.lenImm (TabOk.slice tabOk rfl).1 rfl (by decide) ?_)
    |(refine K.bapp ?_;first
     |refine WpL.app1Strs tabOk rfl rfl rfl (by first|exact Nat.zero_le _|exact Nat.le_of_ble_eq_true rfl) rfl rfl (by first|rfl|omega|(simp;done)|(simp;omega)) (by omega) (by decide) ?_
     |refine WpL.appOwn tabOk rfl rfl rfl rfl rfl rfl (by simp) (by first|exact Nat.zero_le _|exact Nat.le_of_ble_eq_true rfl) rfl rfl (by simp) (by simp [all_ints,all_u8s,all_strs,oneB,Value.oneCell']) (by omega) (by decide) ?_))
   |(refine K.un ?_;first
    |refine WpL.not rfl (by decide) ?_
    |refine WpL.neg rfl (by omega) (by decide) ?_)
   |(refine K.pick ?_;first
    |refine WpL.pickT rfl rfl (by decide) ?_
    |refine WpL.pickF rfl rfl (by decide) ?_)
   |(refine K.cv ?_;first
    |refine WpL.conv (P:=Tryd.prog) (by rfl) (K.tyInt tabOk rfl) rfl (by decide) ?_
    |refine WpL.ofBytes tabOk rfl rfl rfl rfl rfl (by simp) (by decide) ?_)
   |(refine K.lit ?_;first
    |refine WpL.litInts tabOk rfl rfl rfl rfl rfl (by decide) rfl (by decide) ?_
    |refine WpL.litU8s tabOk rfl rfl rfl rfl rfl (by decide) rfl (by decide) ?_
    |refine WpL.litStrs tabOk rfl rfl rfl rfl rfl (by decide) rfl (by decide) ?_
    |refine WpL.litF tabOk rfl rfl rfl rfl (by decide) rfl (by decide) ?_)
   |(refine K.ms ?_;first
    |refine WpL.makeInts tabOk rfl rfl rfl (by omega) (by omega) rfl (by decide) ?_)
   |(refine K.st ?_;first
    |refine WpL.storeInts tabOk rfl rfl rfl rfl rfl (by first|omega|(simp;omega)) ?_
    |refine WpL.storeS tabOk rfl rfl rfl rfl rfl rfl rfl rfl (by first|decide|omega|(simp;omega)|(simp;done)) (by first|(simp only [Go.Abs.setL,List.set_cons_zero,List.set_cons_succ,Nat.zero_add,Nat.reduceAdd];exact rfl)|exact rfl) ?_)
   |(refine K.all ?_;first
    |refine WpL.allocStruct tabOk rfl rfl (by decide) ?_)
   |(refine K.box ?_;refine WpL.box rfl rfl rfl (by decide) ?_))
  |(refine K.le ?_;first|omega|(simp;omega)|assumption)
  |(refine K.lt ?_;first|omega|(simp;omega)|assumption)
  |refine And.intro ?_ ?_
  |omega
  |assumption
  |(simp;done)))
 first|done|fail):X:=h
theorem in1 {X:Prop} (h:X:=by
 (repeat' (first
  |refine fun hgo=>?_
  |exact Only.mk rfl
  |refine WpL.nil ?_
  |(refine K.L ?_;first
   |(refine K.mv ?_;refine WpL.move rfl (by decide) ?_)
   |(refine K.asg ?_;refine WpL.assign rfl (by decide) ?_)
   |(refine K.bin ?_;first
    |refine WpL.add rfl rfl (by omega) (by decide) ?_
    |refine WpL.sub rfl rfl (by omega) (by decide) ?_
    |refine WpL.quo rfl rfl (by omega) (by decide) ?_
    |refine WpL.rem rfl rfl (by omega) (by decide) ?_
    |refine WpL.bin rfl rfl rfl (by decide) ?_
    |refine WpL.strAdd rfl rfl (by first|omega|(simp only [List.length_append];omega)|(simp;omega)) (by decide) ?_
    |refine WpL.strNe rfl rfl (by decide) ?_
    |refine WpL.boolNe (K.tyBool tabOk rfl) rfl rfl (by decide) ?_
    |refine WpL.shl rfl rfl (by first|decide|(simp only [IntKind.bits];omega)) (by decide) ?_)
   |(refine K.ld ?_;first
    |refine WpL.loadInts tabOk rfl rfl rfl (by first|omega|(simp;omega)) (by decide) ?_
    |refine WpL.load1 tabOk rfl rfl rfl rfl rfl (by decide) ?_
    |refine WpL.loadAgg (ds:=[_]) tabOk rfl rfl rfl rfl rfl (by decide) ?_
    |refine WpL.loadAgg (ds:=[_,_]) tabOk rfl rfl rfl rfl rfl (by decide) ?_
    |refine WpL.loadAgg (ds:=[_,_,_]) tabOk rfl rfl rfl rfl rfl (by decide) ?_
    |refine WpL.loadAgg (ds:=[_,_,_,_]) tabOk rfl rfl rfl rfl rfl (by decide) ?_
    |refine WpL.loadAgg (ds:=[_,_,_,_,_]) tabOk rfl rfl rfl rfl rfl (by decide) ?_
    |refine WpL.loadAgg (ds:=[_,_,_,_,_,_]) tabOk rfl rfl rfl rfl rfl (by decide) ?_
    |refine WpL.loadAgg (ds:=[_,_,_,_,_,_,_]) tabOk rfl rfl rfl rfl rfl (by decide) ?_
    |refine WpL.loadAgg (ds:=[_,_,_,_,_,_,_,_]) tabOk rfl rfl rfl rfl rfl (by decide) ?_)
   |(refine K.fld ?_;first
    |refine WpL.fieldP tabOk rfl rfl rfl rfl rfl (by decide) ?_)
   |(refine K.ixa ?_;first
    |refine WpL.idxI1 tabOk rfl rfl rfl (by omega) (by decide) ?_
    |refine WpL.idxOJ tabOk rfl rfl rfl rfl rfl (by omega) (by decide) ?_
    |refine WpL.idxI tabOk rfl rfl rfl (by omega) (by decide) ?_
    |refine WpL.idxO tabOk rfl rfl rfl rfl rfl (by omega) (by decide) ?_)
   |(refine K.call ?_;refine K.con (fun hcon=>?_);first
    |(refine WpL.callF (hcon ?_) snapA locA outA rfl rfl rfl (by decide) ?_<;>clear hcon)
    |(refine WpL.callF (hcon) snapA locA outA rfl rfl rfl (by decide) ?_<;>clear hcon)
    |(refine WpL.callF (hcon _ ?_) snapA locA outA rfl rfl rfl (by decide) ?_<;>clear hcon)
    |(refine WpL.callF (hcon _) snapA locA outA rfl rfl rfl (by decide) ?_<;>clear hcon)
    |(refine WpL.callF (hcon _ _ ?_) snapA locA outA rfl rfl rfl (by decide) ?_<;>clear hcon)
    |(refine WpL.callF (hcon _ _) snapA locA outA rfl rfl rfl (by decide) ?_<;>clear hcon)
    |(refine WpL.callF (hcon _ _ _ ?_) snapA locA outA rfl rfl rfl (by decide) ?_<;>clear hcon)
    |(refine WpL.callF (hcon _ _ _) snapA locA outA rfl rfl rfl (by decide) ?_<;>clear hcon)
    |(refine WpL.callF (hcon _ _ _ _ ?_) snapA locA outA rfl rfl rfl (by decide) ?_<;>clear hcon)
    |(refine WpL.callF (hcon _ _ _ _) snapA locA outA rfl rfl rfl (by decide) ?_<;>clear hcon)
    |(refine WpL.callF (hcon _ _ _ _ _ ?_) snapA locA outA rfl rfl rfl (by decide) ?_<;>clear hcon)
    |(refine WpL.callF (hcon _ _ _ _ _) snapA locA outA rfl rfl rfl (by decide) ?_<;>clear hcon)
    |(refine WpL.callF (hcon _ _ _ _ _ _ ?_) snapA locA outA rfl rfl rfl (by decide) ?_<;>clear hcon)
    |(refine WpL.callF (hcon _ _ _ _ _ _) snapA locA outA rfl rfl rfl (by decide) ?_<;>clear hcon)
    |(refine WpL.callF (hcon _ _ _ _ _ _ _ ?_) snapA locA outA rfl rfl rfl (by decide) ?_<;>clear hcon)
    |(refine WpL.callF (hcon _ _ _ _ _ _ _) snapA locA outA rfl rfl rfl (by decide) ?_<;>clear hcon)
    |(refine WpL.callF (hcon _ _ _ _ _ _ _ _ ?_) snapA locA outA rfl rfl rfl (by decide) ?_<;>clear hcon)
    |(refine WpL.callF (hcon _ _ _ _ _ _ _ _) snapA locA outA rfl rfl rfl (by decide) ?_<;>clear hcon)
    |(refine WpL.callF (hcon _ _ _ _ _ _ _ _ _ ?_) snapA locA outA rfl rfl rfl (by decide) ?_<;>clear hcon)
    |(refine WpL.callF (hcon _ _ _ _ _ _ _ _ _) snapA locA outA rfl rfl rfl (by decide) ?_<;>clear hcon)
    |(refine WpL.callF (hcon _ _ _ _ _ _ _ _ _ _ ?_) snapA locA outA rfl rfl rfl (by decide) ?_<;>clear hcon)
    |(refine WpL.callF (hcon _ _ _ _ _ _ _ _ _ _) snapA locA outA rfl rfl rfl (by decide) ?_<;>clear hcon)
    |(refine WpL.callF (hcon _ _ _ _ _ _ _ _ _ _ _ ?_) snapA locA outA rfl rfl rfl (by decide) ?_<;>clear hcon)
    |(refine WpL.callF (hcon _ _ _ _ _ _ _ _ _ _ _) snapA locA outA rfl rfl rfl (by decide) ?_<;>clear hcon)
    |(refine WpL.callF (hcon _ _ _ _ _ _ _ _ _ _ _ _ ?_) snapA locA outA rfl rfl rfl (by decide) ?_<;>clear hcon)
    |(refine WpL.callF (hcon _ _ _ _ _ _ _ _ _ _ _ _) snapA locA outA rfl rfl rfl (by decide) ?_<;>clear hcon)
    |(refine WpL.callF (hcon _ _ _ _ _ _ _ _ _ _ _ _ _ ?_) snapA locA outA rfl rfl rfl (by decide) ?_<;>clear hcon)
    |(refine WpL.callF (hcon _ _ _ _ _ _ _ _ _ _ _ _ _) snapA locA outA rfl rfl rfl (by decide) ?_<;>clear hcon)
    |(refine WpL.callF (hcon _ _ _ _ _ _ _ _ _ _ _ _ _ _ ?_) snapA locA outA rfl rfl rfl (by decide) ?_<;>clear hcon)
    |(refine WpL.callF (hcon _ _ _ _ _ _ _ _ _ _ _ _ _ _) snapA locA outA rfl rfl rfl (by decide) ?_<;>clear hcon)
    |(refine WpL.callF (hcon _ _ _ _ _ _ _ _ _ _ _ _ _ _ _ ?_) snapA locA outA rfl rfl rfl (by decide) ?_<;>clear hcon)
    |(refine WpL.callF (hcon _ _ _ _ _ _ _ _ _ _ _ _ _ _ _) snapA locA outA rfl rfl rfl (by decide) ?_<;>clear hcon)
    |(refine WpL.callF (hcon _ _ _ _ _ _ _ _ _ _ _ _ _ _ _ _ ?_) snapA locA outA rfl rfl rfl (by decide) ?_<;>clear hcon)
    |(refine WpL.callF (hcon _ _ _ _ _ _ _ _ _ _ _ _ _ _ _ _) snapA locA outA rfl rfl rfl (by decide) ?_<;>clear hcon)
    |(refine WpL.callF (hcon _ _ _ _ _ _ _ _ _ _ _ _ _ _ _ _ _ ?_) snapA locA outA rfl rfl rfl (by decide) ?_<;>clear hcon)
    |(refine WpL.callF (hcon _ _ _ _ _ _ _ _ _ _ _ _ _ _ _ _ _) snapA locA outA rfl rfl rfl (by decide) ?_<;>clear hcon)
    |(refine WpL.callF (hcon _ _ _ _ _ _ _ _ _ _ _ _ _ _ _ _ _ _ ?_) snapA locA outA rfl rfl rfl (by decide) ?_<;>clear hcon)
    |(refine WpL.callF (hcon _ _ _ _ _ _ _ _ _ _ _ _ _ _ _ _ _ _) snapA locA outA rfl rfl rfl (by decide) ?_<;>clear hcon))
   |(refine K.call ?_;refine K.conG (fun hcon=>?_);first
    |(refine WpL.callM0 (hs:=[_,_,_,_]) (hcon _ _ _ _ _ _ _ _) handA handOA rfl rfl outA outA rfl rfl rfl rfl ?_<;>clear hcon))
   |(refine K.call ?_;refine K.conB (fun hcon=>?_);first
    |(refine WpL.callB (hcon _ _ _ _ _ _ _ _) snapA locA outA locA outA rfl rfl rfl rfl rfl (by decide) ?_ ?_<;>clear hcon))
   |(refine K.call ?_;refine K.conP (fun hcon=>?_);first
    |(refine WpL.callP (hs:=[_]) (hcon _ _ _ _ _ _ _ _ _ _) (by assumption) handA handOA rfl rfl (.cons rfl (.sc (.sc (.sc .nil))) .nil) outA rfl rfl rfl rfl (by decide) ?_<;>clear hcon))
   |(refine K.bi ?_;first
    |(refine K.blen ?_;first
     |refine WpL.lenImm (TabOk.slice tabOk rfl).1 rfl (by decide) ?_)
    |(refine K.bapp ?_;first
     |refine WpL.app1Strs tabOk rfl rfl rfl (by first|exact Nat.zero_le _|exact Nat.le_of_ble_eq_true rfl) rfl rfl (by first|rfl|omega|(simp;done)|(simp;omega)) (by omega) (by decide) ?_
     |refine WpL.appOwn tabOk rfl rfl rfl rfl rfl rfl (by simp) (by first|exact Nat.zero_le _|exact Nat.le_of_ble_eq_true rfl) rfl rfl (by simp) (by simp [all_ints,all_u8s,all_strs,oneB,Value.oneCell']) (by omega) (by decide) ?_))
   |(refine K.un ?_;first
    |refine WpL.not rfl (by decide) ?_
    |refine WpL.neg rfl (by omega) (by decide) ?_)
   |(refine K.pick ?_;first
    |refine WpL.pickT rfl rfl (by decide) ?_
    |refine WpL.pickF rfl rfl (by decide) ?_)
   |(refine K.cv ?_;first
    |refine WpL.conv (P:=Tryd.prog) (by rfl) (K.tyInt tabOk rfl) rfl (by decide) ?_
    |refine WpL.ofBytes tabOk rfl rfl rfl rfl rfl (by simp) (by decide) ?_)
   |(refine K.lit ?_;first
    |refine WpL.litInts tabOk rfl rfl rfl rfl rfl (by decide) rfl (by decide) ?_
    |refine WpL.litU8s tabOk rfl rfl rfl rfl rfl (by decide) rfl (by decide) ?_
    |refine WpL.litStrs tabOk rfl rfl rfl rfl rfl (by decide) rfl (by decide) ?_
    |refine WpL.litF tabOk rfl rfl rfl rfl (by decide) rfl (by decide) ?_)
   |(refine K.ms ?_;first
    |refine WpL.makeInts tabOk rfl rfl rfl (by omega) (by omega) rfl (by decide) ?_)
   |(refine K.st ?_;first
    |refine WpL.storeInts tabOk rfl rfl rfl rfl rfl (by first|omega|(simp;omega)) ?_
    |refine WpL.storeS tabOk rfl rfl rfl rfl rfl rfl rfl rfl (by first|decide|omega|(simp;omega)|(simp;done)) (by first|(simp only [Go.Abs.setL,List.set_cons_zero,List.set_cons_succ,Nat.zero_add,Nat.reduceAdd];exact rfl)|exact rfl) ?_)
   |(refine K.all ?_;first
    |refine WpL.allocStruct tabOk rfl rfl (by decide) ?_)
   |(refine K.box ?_;refine WpL.box rfl rfl rfl (by decide) ?_))
  |(refine K.le ?_;first|omega|(simp;omega)|assumption)
  |(refine K.lt ?_;first|omega|(simp;omega)|assumption)
  |refine And.intro ?_ ?_
  |omega
  |assumption
  |(simp;done)))
 first|done|fail):X:=h
theorem headA {X:Prop} (h:X:=by
 (repeat' (first
 |exact Abs.HeadN.nil
 |exact Abs.HeadJ.nil
 |(apply HeadJ.consF rfl
   ·exact rfl
   ·exact in1
   ·exact rfl)
 |(apply HeadN.pureF rfl
   ·exact rfl
   ·exact rfl
   ·exact rfl
   ·exact in0
   ·exact rfl)
 |(apply HeadN.prodF rfl
   ·exact rfl
   ·exact rfl
   ·exact in1
   ·intro hgo;cases hgo
   ·exact rfl
   ·exact rfl
   ·exact rfl)
 |exact Abs.HeadG.nil))
 first|done|fail):X:=h
theorem trueA {b:Bool} (h:TrueB b:=by (refine TrueB.mk ?_;kernel_rfl)):TrueB b:=h
theorem go {P R:Prop} (h:(Hold R→P)∧IsT R:=by
 refine And.intro ?_ ?_
 ·intro hold
  repeat' (first
  |(refine K.L ?_;first
   |(refine K.mv ?_;refine WpL.move rfl (by decide) ?_)
   |(refine K.asg ?_;refine WpL.assign rfl (by decide) ?_)
   |(refine K.bin ?_;first
    |refine WpL.add rfl rfl (by omega) (by decide) ?_
    |refine WpL.sub rfl rfl (by omega) (by decide) ?_
    |refine WpL.quo rfl rfl (by omega) (by decide) ?_
    |refine WpL.rem rfl rfl (by omega) (by decide) ?_
    |refine WpL.bin rfl rfl rfl (by decide) ?_
    |refine WpL.strAdd rfl rfl (by first|omega|(simp only [List.length_append];omega)|(simp;omega)) (by decide) ?_
    |refine WpL.strNe rfl rfl (by decide) ?_
    |refine WpL.boolNe (K.tyBool tabOk rfl) rfl rfl (by decide) ?_
    |refine WpL.shl rfl rfl (by first|decide|(simp only [IntKind.bits];omega)) (by decide) ?_)
   |(refine K.ld ?_;first
    |refine WpL.loadInts tabOk rfl rfl rfl (by first|omega|(simp;omega)) (by decide) ?_
    |refine WpL.load1 tabOk rfl rfl rfl rfl rfl (by decide) ?_
    |refine WpL.loadAgg (ds:=[_]) tabOk rfl rfl rfl rfl rfl (by decide) ?_
    |refine WpL.loadAgg (ds:=[_,_]) tabOk rfl rfl rfl rfl rfl (by decide) ?_
    |refine WpL.loadAgg (ds:=[_,_,_]) tabOk rfl rfl rfl rfl rfl (by decide) ?_
    |refine WpL.loadAgg (ds:=[_,_,_,_]) tabOk rfl rfl rfl rfl rfl (by decide) ?_
    |refine WpL.loadAgg (ds:=[_,_,_,_,_]) tabOk rfl rfl rfl rfl rfl (by decide) ?_
    |refine WpL.loadAgg (ds:=[_,_,_,_,_,_]) tabOk rfl rfl rfl rfl rfl (by decide) ?_
    |refine WpL.loadAgg (ds:=[_,_,_,_,_,_,_]) tabOk rfl rfl rfl rfl rfl (by decide) ?_
    |refine WpL.loadAgg (ds:=[_,_,_,_,_,_,_,_]) tabOk rfl rfl rfl rfl rfl (by decide) ?_)
   |(refine K.fld ?_;first
    |refine WpL.fieldP tabOk rfl rfl rfl rfl rfl (by decide) ?_)
   |(refine K.ixa ?_;first
    |refine WpL.idxI1 tabOk rfl rfl rfl (by omega) (by decide) ?_
    |refine WpL.idxOJ tabOk rfl rfl rfl rfl rfl (by omega) (by decide) ?_
    |refine WpL.idxI tabOk rfl rfl rfl (by omega) (by decide) ?_
    |refine WpL.idxO tabOk rfl rfl rfl rfl rfl (by omega) (by decide) ?_)
   |(refine K.call ?_;refine K.con (fun hcon=>?_);first
    |(refine WpL.callF (hcon ?_) snapA locA outA rfl rfl rfl (by decide) ?_<;>clear hcon)
    |(refine WpL.callF (hcon) snapA locA outA rfl rfl rfl (by decide) ?_<;>clear hcon)
    |(refine WpL.callF (hcon _ ?_) snapA locA outA rfl rfl rfl (by decide) ?_<;>clear hcon)
    |(refine WpL.callF (hcon _) snapA locA outA rfl rfl rfl (by decide) ?_<;>clear hcon)
    |(refine WpL.callF (hcon _ _ ?_) snapA locA outA rfl rfl rfl (by decide) ?_<;>clear hcon)
    |(refine WpL.callF (hcon _ _) snapA locA outA rfl rfl rfl (by decide) ?_<;>clear hcon)
    |(refine WpL.callF (hcon _ _ _ ?_) snapA locA outA rfl rfl rfl (by decide) ?_<;>clear hcon)
    |(refine WpL.callF (hcon _ _ _) snapA locA outA rfl rfl rfl (by decide) ?_<;>clear hcon)
    |(refine WpL.callF (hcon _ _ _ _ ?_) snapA locA outA rfl rfl rfl (by decide) ?_<;>clear hcon)
    |(refine WpL.callF (hcon _ _ _ _) snapA locA outA rfl rfl rfl (by decide) ?_<;>clear hcon)
    |(refine WpL.callF (hcon _ _ _ _ _ ?_) snapA locA outA rfl rfl rfl (by decide) ?_<;>clear hcon)
    |(refine WpL.callF (hcon _ _ _ _ _) snapA locA outA rfl rfl rfl (by decide) ?_<;>clear hcon)
    |(refine WpL.callF (hcon _ _ _ _ _ _ ?_) snapA locA outA rfl rfl rfl (by decide) ?_<;>clear hcon)
    |(refine WpL.callF (hcon _ _ _ _ _ _) snapA locA outA rfl rfl rfl (by decide) ?_<;>clear hcon)
    |(refine WpL.callF (hcon _ _ _ _ _ _ _ ?_) snapA locA outA rfl rfl rfl (by decide) ?_<;>clear hcon)
    |(refine WpL.callF (hcon _ _ _ _ _ _ _) snapA locA outA rfl rfl rfl (by decide) ?_<;>clear hcon)
    |(refine WpL.callF (hcon _ _ _ _ _ _ _ _ ?_) snapA locA outA rfl rfl rfl (by decide) ?_<;>clear hcon)
    |(refine WpL.callF (hcon _ _ _ _ _ _ _ _) snapA locA outA rfl rfl rfl (by decide) ?_<;>clear hcon)
    |(refine WpL.callF (hcon _ _ _ _ _ _ _ _ _ ?_) snapA locA outA rfl rfl rfl (by decide) ?_<;>clear hcon)
    |(refine WpL.callF (hcon _ _ _ _ _ _ _ _ _) snapA locA outA rfl rfl rfl (by decide) ?_<;>clear hcon)
    |(refine WpL.callF (hcon _ _ _ _ _ _ _ _ _ _ ?_) snapA locA outA rfl rfl rfl (by decide) ?_<;>clear hcon)
    |(refine WpL.callF (hcon _ _ _ _ _ _ _ _ _ _) snapA locA outA rfl rfl rfl (by decide) ?_<;>clear hcon)
    |(refine WpL.callF (hcon _ _ _ _ _ _ _ _ _ _ _ ?_) snapA locA outA rfl rfl rfl (by decide) ?_<;>clear hcon)
    |(refine WpL.callF (hcon _ _ _ _ _ _ _ _ _ _ _) snapA locA outA rfl rfl rfl (by decide) ?_<;>clear hcon)
    |(refine WpL.callF (hcon _ _ _ _ _ _ _ _ _ _ _ _ ?_) snapA locA outA rfl rfl rfl (by decide) ?_<;>clear hcon)
    |(refine WpL.callF (hcon _ _ _ _ _ _ _ _ _ _ _ _) snapA locA outA rfl rfl rfl (by decide) ?_<;>clear hcon)
    |(refine WpL.callF (hcon _ _ _ _ _ _ _ _ _ _ _ _ _ ?_) snapA locA outA rfl rfl rfl (by decide) ?_<;>clear hcon)
    |(refine WpL.callF (hcon _ _ _ _ _ _ _ _ _ _ _ _ _) snapA locA outA rfl rfl rfl (by decide) ?_<;>clear hcon)
    |(refine WpL.callF (hcon _ _ _ _ _ _ _ _ _ _ _ _ _ _ ?_) snapA locA outA rfl rfl rfl (by decide) ?_<;>clear hcon)
    |(refine WpL.callF (hcon _ _ _ _ _ _ _ _ _ _ _ _ _ _) snapA locA outA rfl rfl rfl (by decide) ?_<;>clear hcon)
    |(refine WpL.callF (hcon _ _ _ _ _ _ _ _ _ _ _ _ _ _ _ ?_) snapA locA outA rfl rfl rfl (by decide) ?_<;>clear hcon)
    |(refine WpL.callF (hcon _ _ _ _ _ _ _ _ _ _ _ _ _ _ _) snapA locA outA rfl rfl rfl (by decide) ?_<;>clear hcon)
    |(refine WpL.callF (hcon _ _ _ _ _ _ _ _ _ _ _ _ _ _ _ _ ?_) snapA locA outA rfl rfl rfl (by decide) ?_<;>clear hcon)
    |(refine WpL.callF (hcon _ _ _ _ _ _ _ _ _ _ _ _ _ _ _ _) snapA locA outA rfl rfl rfl (by decide) ?_<;>clear hcon)
    |(refine WpL.callF (hcon _ _ _ _ _ _ _ _ _ _ _ _ _ _ _ _ _ ?_) snapA locA outA rfl rfl rfl (by decide) ?_<;>clear hcon)
    |(refine WpL.callF (hcon _ _ _ _ _ _ _ _ _ _ _ _ _ _ _ _ _) snapA locA outA rfl rfl rfl (by decide) ?_<;>clear hcon)
    |(refine WpL.callF (hcon _ _ _ _ _ _ _ _ _ _ _ _ _ _ _ _ _ _ ?_) snapA locA outA rfl rfl rfl (by decide) ?_<;>clear hcon)
    |(refine WpL.callF (hcon _ _ _ _ _ _ _ _ _ _ _ _ _ _ _ _ _ _) snapA locA outA rfl rfl rfl (by decide) ?_<;>clear hcon))
   |(refine K.call ?_;refine K.conG (fun hcon=>?_);first
    |(refine WpL.callM0 (hs:=[_,_,_,_]) (hcon _ _ _ _ _ _ _ _) handA handOA rfl rfl outA outA rfl rfl rfl rfl ?_<;>clear hcon))
   |(refine K.call ?_;refine K.conB (fun hcon=>?_);first
    |(refine WpL.callB (hcon _ _ _ _ _ _ _ _) snapA locA outA locA outA rfl rfl rfl rfl rfl (by decide) ?_ ?_<;>clear hcon))
   |(refine K.call ?_;refine K.conP (fun hcon=>?_);first
    |(refine WpL.callP (hs:=[_]) (hcon _ _ _ _ _ _ _ _ _ _) (by assumption) handA handOA rfl rfl (.cons rfl (.sc (.sc (.sc .nil))) .nil) outA rfl rfl rfl rfl (by decide) ?_<;>clear hcon))
   |(refine K.bi ?_;first
    |(refine K.blen ?_;first
     |refine WpL.lenImm (TabOk.slice tabOk rfl).1 rfl (by decide) ?_)
    |(refine K.bapp ?_;first
     |refine WpL.app1Strs tabOk rfl rfl rfl (by first|exact Nat.zero_le _|exact Nat.le_of_ble_eq_true rfl) rfl rfl (by first|rfl|omega|(simp;done)|(simp;omega)) (by omega) (by decide) ?_
     |refine WpL.appOwn tabOk rfl rfl rfl rfl rfl rfl (by simp) (by first|exact Nat.zero_le _|exact Nat.le_of_ble_eq_true rfl) rfl rfl (by simp) (by simp [all_ints,all_u8s,all_strs,oneB,Value.oneCell']) (by omega) (by decide) ?_))
   |(refine K.un ?_;first
    |refine WpL.not rfl (by decide) ?_
    |refine WpL.neg rfl (by omega) (by decide) ?_)
   |(refine K.pick ?_;first
    |refine WpL.pickT rfl rfl (by decide) ?_
    |refine WpL.pickF rfl rfl (by decide) ?_)
   |(refine K.cv ?_;first
    |refine WpL.conv (P:=Tryd.prog) (by rfl) (K.tyInt tabOk rfl) rfl (by decide) ?_
    |refine WpL.ofBytes tabOk rfl rfl rfl rfl rfl (by simp) (by decide) ?_)
   |(refine K.lit ?_;first
    |refine WpL.litInts tabOk rfl rfl rfl rfl rfl (by decide) rfl (by decide) ?_
    |refine WpL.litU8s tabOk rfl rfl rfl rfl rfl (by decide) rfl (by decide) ?_
    |refine WpL.litStrs tabOk rfl rfl rfl rfl rfl (by decide) rfl (by decide) ?_
    |refine WpL.litF tabOk rfl rfl rfl rfl (by decide) rfl (by decide) ?_)
   |(refine K.ms ?_;first
    |refine WpL.makeInts tabOk rfl rfl rfl (by omega) (by omega) rfl (by decide) ?_)
   |(refine K.st ?_;first
    |refine WpL.storeInts tabOk rfl rfl rfl rfl rfl (by first|omega|(simp;omega)) ?_
    |refine WpL.storeS tabOk rfl rfl rfl rfl rfl rfl rfl rfl (by first|decide|omega|(simp;omega)|(simp;done)) (by first|(simp only [Go.Abs.setL,List.set_cons_zero,List.set_cons_succ,Nat.zero_add,Nat.reduceAdd];exact rfl)|exact rfl) ?_)
   |(refine K.all ?_;first
    |refine WpL.allocStruct tabOk rfl rfl (by decide) ?_)
   |(refine K.box ?_;refine WpL.box rfl rfl rfl (by decide) ?_)
   |(refine K.gd ?_;first
    |refine K.gT rfl (by decide) rfl ?_
    |refine K.gF rfl (by decide) rfl ?_
    |(refine K.gD rfl rfl (fun hgo=>?_) (fun hgo=>?_)<;>(try (first|contradiction|(exfalso;omega)))))
   |((repeat (revert hgo));(repeat ((fail_if_success with_reducible apply Hold.h hold);replace hold:=Hold.t hold));with_reducible apply Hold.h hold))
  |refine WpL.nil ?_
  |refine Abs.Seq.n ?_
  |(refine K.A ?_;first
   |refine WpA.seq ?_
   |refine WpA.regionF rfl ?_
   |(refine K.cond ?_;first
    |(refine WpA.condD rfl (fun hgo=>?_) (fun hgo=>?_)<;>(try (first|contradiction|(exfalso;omega))))
    |(refine WpA.condN rfl (fun hgo=>?_) (fun hgo=>?_)<;>(try (first|contradiction|(exfalso;omega))))
    |(refine WpA.condS rfl (fun hgo=>?_) (fun hgo=>?_)<;>(try (first|contradiction|(exfalso;omega)))))
   |refine WpA.block ?_
   |refine WpA.ret ?_
   |refine WpA.exit ?_
   |refine WpA.skip ?_
   |(refine K.loop ?_;((repeat (revert hgo));(repeat ((fail_if_success with_reducible apply Hold.h hold);replace hold:=Hold.t hold));with_reducible apply Hold.h hold))
   |(refine WpA.flat rfl ?_;first
    |(apply WpA.regionMB 6 mixed (by decide +kernel);(· exact rfl);(· exact headA);(· exact trueA);(· exact trueA);(· exact rfl);(· exact rfl))
    |(apply WpA.regionMB 8 mixed (by decide +kernel);(· exact rfl);(· exact headA);(· exact trueA);(· exact trueA);(· exact rfl);(· exact rfl))
    |(apply WpA.regionMB 26 mixed (by decide +kernel);(· exact rfl);(· exact headA);(· exact trueA);(· exact trueA);(· exact rfl);(· exact rfl))
    |(apply WpA.regionNO 3 mixed (by decide +kernel);(· exact rfl);(· exact rfl);(· exact headA);(· exact trueA);(· exact trueA);(· exact rfl);(· exact rfl);(· exact rfl))
    |(apply WpA.regionNO 10 mixed (by decide +kernel);(· exact rfl);(· exact rfl);(· exact headA);(· exact trueA);(· exact trueA);(· exact rfl);(· exact rfl);(· exact rfl))
    |(apply WpA.regionNO 27 mixed (by decide +kernel);(· exact rfl);(· exact rfl);(· exact headA);(· exact trueA);(· exact trueA);(· exact rfl);(· exact rfl);(· exact rfl)))
   |((repeat (revert hgo));(repeat ((fail_if_success with_reducible apply Hold.h hold);replace hold:=Hold.t hold));with_reducible apply Hold.h hold))
  |(refine K.RT ?_;first
   |exact ReT.nil
   |refine ReT.same rfl rfl ?_
   |refine ReT.own rfl rfl rfl rfl rfl rfl (by first|rfl|omega|(simp;done)|(simp;omega)) ?_
   |refine ReT.i rfl ?_ ?_
   |refine ReT.ptr rfl rfl rfl rfl rfl ?_)
  |(refine TrueB.mk ?_;kernel_rfl)
  |(apply K.eq;first|exact rfl|omega|assumption|(simp;done)|(simp;omega)|(exact absurd (by simp;done) ‹¬ _›)|((repeat (revert hgo));(repeat ((fail_if_success with_reducible apply Hold.h hold);replace hold:=Hold.t hold));with_reducible apply Hold.h hold))
  |(refine K.le ?_;first|omega|(simp;omega)|assumption|((repeat (revert hgo));(repeat ((fail_if_success with_reducible apply Hold.h hold);replace hold:=Hold.t hold));with_reducible apply Hold.h hold))
  |(refine K.lt ?_;first|omega|(simp;omega)|assumption|((repeat (revert hgo));(repeat ((fail_if_success with_reducible apply Hold.h hold);replace hold:=Hold.t hold));with_reducible apply Hold.h hold))
  |refine And.intro ?_ ?_
  |(refine K.RO ?_;first
   |exact ReO.nil
   |refine ReO.ints ?_ (by first|exact .inl rfl|exact .inr rfl) ?_
   |refine ReO.cons (Re.same rfl rfl) (by first|exact .inl rfl|exact .inr rfl) ?_
   |refine ReO.cons ?_ (by first|exact .inl rfl|exact .inr rfl) ?_)
  |(refine K.W ?_;first
   |refine Weak.mk ?_ ?_ (by first|exact Nat.zero_le _|exact Nat.le_of_ble_eq_true rfl))
  |refine Abs.Seq.ret ?_
  |refine Abs.Seq.exit ?_
  |refine Blk.n ?_
  |refine Blk.ret ?_
  |refine Blk.exitHere ?_
  |(refine K.R ?_;first
   |refine Rnd.ret ?_
   |refine Rnd.exit ?_
   |refine Rnd.succ ?_ ?_ ?_
   |((repeat (revert hgo));(repeat ((fail_if_success with_reducible apply Hold.h hold);replace hold:=Hold.t hold));with_reducible apply Hold.h hold))
  |(refine K.F ?_;first
   |apply Fin.one0
   |apply Fin.one1
   |((repeat (revert hgo));(repeat ((fail_if_success with_reducible apply Hold.h hold);replace hold:=Hold.t hold));with_reducible apply Hold.h hold))
  |exact ResV.tmp rfl
  |exact ResV.cellP rfl rfl rfl rfl rfl
  |exact ResV.cell (ds:=[_]) rfl rfl rfl rfl rfl
  |exact ResV.cell (ds:=[_,_]) rfl rfl rfl rfl rfl
  |exact ResV.cell (ds:=[_,_,_]) rfl rfl rfl rfl rfl
  |exact ResV.cell (ds:=[_,_,_,_]) rfl rfl rfl rfl rfl
  |exact ResV.cell (ds:=[_,_,_,_,_]) rfl rfl rfl rfl rfl
  |exact ResV.cell (ds:=[_,_,_,_,_,_]) rfl rfl rfl rfl rfl
  |exact ResV.cell (ds:=[_,_,_,_,_,_,_]) rfl rfl rfl rfl rfl
  |exact ResV.cell (ds:=[_,_,_,_,_,_,_,_]) rfl rfl rfl rfl rfl
  |(refine K.E ?_;first
   |exact Ex.nil
   |refine Ex.keep rfl rfl rfl ?_
   |refine Ex.own rfl rfl rfl rfl ?_
   |refine Ex.own rfl rfl rfl ?_ ?_
   |refine Ex.nilO rfl ?_
   |refine Ex.agg ?_ ?_
   |refine Ex.tup ?_ ?_
   |refine Ex.i ?_ ?_
   |refine Ex.b ?_ ?_
   |refine Ex.z ?_ ?_)
  |(refine K.NE ?_;first
   |exact NEx.nil
   |refine NEx.ints rfl ?_ ?_
   |refine NEx.gone ?_ rfl ?_
   |refine NEx.obj rfl ?_ rfl rfl rfl (.inr rfl) ?_)
  |exact Re.nil
  |refine Re.keep rfl rfl ?_
  |refine Re.fn rfl ?_
  |refine Re.own rfl rfl rfl rfl rfl (by first|rfl|omega|(simp;done)|(simp;omega)) ?_
  |refine Re.ptr rfl rfl rfl rfl ?_
  |refine Re.agg ?_ ?_
  |refine Re.tup ?_ ?_
  |exact rfl
  |omega
  |(refine fun hgo=>?_)
  |(simp;done)
  |(simp;omega)
  |((repeat (revert hgo));(repeat ((fail_if_success with_reducible apply Hold.h hold);replace hold:=Hold.t hold));with_reducible apply Hold.h hold))
  all_goals (try ((repeat (revert hgo));(repeat ((fail_if_success with_reducible apply Hold.h hold);replace hold:=Hold.t hold));with_reducible apply Hold.h hold))
  all_goals exact True
 ·first|exact IsT.t|exact IsT.any
 ) (r:R):P:=h.1 ⟨r⟩
end Go.Proofs.YtkckmenalehdpaaDoor


namespace Go.Proofs.YtkckmenalehdpaaDoor
open Go Go.Abs
attribute [local irreducible] WpA WpL Rnd Blk Abs.Seq Abs.Fin FnC Only
instance within_c:Con 48 (∀ n lo hi:Int,Fn 48 [I n,I lo,I hi] [] (B (decide (lo≤n∧n≤hi)))):=⟨fun n lo hi=>by
 refine FnC.of_body tabOk Tryd.func48 Tryd.ntmps48 rfl (by decide +kernel) (by simp) fun G=>?_
 refine go (r:=?_);and_intros<;>intros
 all_goals first|exact True.intro|(simp_all;done)|(simp;omega)⟩
instance l1In_c:Con 70 (∀ n lo hi:Int,Fn 70 [I n,I lo,I hi] [] (B (decide (lo≤n∧n≤hi)))):=⟨fun n lo hi=>by
 refine FnC.of_body tabOk Tryd.func70 Tryd.ntmps70 rfl (by decide +kernel) (by simp) fun G=>?_
 refine go (r:=?_);and_intros<;>intros
 all_goals first|exact True.intro|(simp_all;done)|(simp;omega)⟩
theorem fill_step {α:Type} (z:α) (xs:List α) (k:Nat) (h:k<xs.length):(xs.take k++List.replicate (xs.length-k) z).set k (xs.getD k z)=xs.take (k+1)++List.replicate (xs.length-(k+1)) z:=by
 have e:=List.take_succ_eq_append_getElem h
 rw [List.set_append_right _ _ (by simp;omega),e]
 obtain ⟨m,hm⟩:∃m,xs.length-k=m+1:=⟨xs.length-k-1,by omega⟩
 rw [hm,show xs.length-(k+1)=m from by omega,List.replicate_succ]
 simp only [List.length_take,show min k xs.length=k from by omega,Nat.sub_self,List.set_cons_zero,List.getD_eq_getElem?_getD,List.getElem?_eq_getElem h,Option.getD_some,List.append_assoc,List.cons_append,List.nil_append]
instance toIntS_c:Con 24 (∀ xs:List Int,xs.length≤1099511627776→Fn 24 [IL xs] [⟨ints xs,0,1,some 3⟩] (.own 0 0 0 xs.length)):=⟨fun xs hl=>by
 refine FnC.of_body tabOk Tryd.func24 Tryd.ntmps24 rfl (by decide +kernel) (by simp) fun G=>?_
 refine go (r:=?_);and_intros<;>intros<;>try exact True.intro
 refine WpA.loop (fun k:Nat=>⟨[(0,IL xs),(3,.own 0 0 0 xs.length),(4,I k)],[⟨ints (xs.take k++List.replicate (xs.length-k) 0),0,1,some 3⟩]⟩) (fun k=>k≤xs.length) (fun k=>xs.length-k) 0 (by omega) (go (r:=?_)) (fun k hk=>?_)
 ·simp
 refine go (r:=?_);and_intros<;>intros<;>try exact True.intro
 ·rw [←fill_step _ _ _ (by omega)];simp
 ·have:k=xs.length:=by omega
  subst this;simp⟩
instance eqIntS_c:Con 29 (∀ xs ys:List Int,xs.length≤1099511627776∧ys.length≤1099511627776→Fn 29 [IL xs,IL ys] [] (B (decide (xs=ys)))):=⟨fun xs ys hl=>by
 refine FnC.of_body tabOk Tryd.func29 Tryd.ntmps29 rfl (by decide +kernel) (by simp) fun G=>?_
 refine go (r:=?_);and_intros<;>intros<;>try exact True.intro
 ·simp;intro h;subst h;contradiction
 ·have hll:xs.length=ys.length:=by omega
  refine WpA.loop (fun k:Nat=>⟨[(0,IL xs),(1,IL ys),(5,I k)],[]⟩) (fun k=>k≤xs.length∧∀j<k,xs.getD j 0=ys.getD j 0) (fun k=>xs.length-k) 0 (by simp) (go (r:=trivial)) (fun k hk=>?_)
  refine go (r:=?_);and_intros<;>intros<;>try exact True.intro
  ·simp;rintro rfl;contradiction
  ·rename_i j hj;by_cases h:j=k
   ·subst h;simp_all
   ·exact hk.2 j (by omega)
  ·have:xs=ys:=by
    apply List.ext_getElem hll
    intro i h1 h2
    have:=hk.2 i (by omega)
    simpa [h1,h2] using this
   simp [this]⟩
end Go.Proofs.YtkckmenalehdpaaDoor


namespace Go.Proofs.YtkckmenalehdpaaDoor
open Go Go.Abs
attribute [local irreducible] WpA WpL Rnd Blk Abs.Seq Abs.Fin FnC Only
@[irreducible] def In (l:List Int) (lo hi:Int):Prop:=∀v∈l,lo≤v∧v≤hi
instance (l:List Int) (lo hi:Int):Decidable (In l lo hi):=by unfold In;exact List.decidableBAll _ l
theorem in_get {l:List Int} {lo hi:Int} (h:In l lo hi) {k:Nat} (hk:k<l.length):lo≤l.getD k 0∧l.getD k 0≤hi:=by
 unfold In at h
 have:=h (l.getD k 0) (by simp [List.getElem?_eq_getElem hk])
 exact this
theorem notin {l:List Int} {lo hi:Int} {k:Nat} (hk:k<l.length) (h:¬(lo≤l.getD k 0∧l.getD k 0≤hi)):false=decide (In l lo hi):=by
 symm;rw [decide_eq_false_iff_not];exact fun hh=>h (in_get hh hk)
theorem in_snoc {l:List Int} {lo hi:Int} {k:Nat} (hk:k<l.length):In (l.take (k+1)) lo hi↔In (l.take k) lo hi∧lo≤l.getD k 0∧l.getD k 0≤hi:=by
 unfold In;rw [List.take_succ_eq_append_getElem hk,List.forall_mem_append];simp [List.getElem?_eq_getElem hk]
theorem in_nil (lo hi:Int):In [] lo hi:=by unfold In;intro v hv;cases hv
abbrev SidesOk (w h:Int):Prop:=8≤w∧w≤32∧8≤h∧h≤32∧w%8=0∧h%8=0
instance SidesOk_c:Con 47 (∀ w h:Int,Fn 47 [I w,I h] [] (B (decide (SidesOk w h)))):=⟨fun w h=>by
 refine FnC.of_body tabOk Tryd.func47 Tryd.ntmps47 rfl (by decide +kernel) (by simp) fun G=>?_
 refine go (r:=?_);and_intros<;>intros<;>try exact True.intro
 all_goals first|(simp_all;done)|(rw [Bool.eq_iff_iff];simp only [decide_eq_true_eq,Bool.not_eq_true',decide_eq_false_iff_not,Bool.false_eq_true,true_iff,false_iff,iff_true,iff_false,Bool.not_eq_eq_eq_not,Bool.not_true];omega)⟩
instance SidesOk_s:Con 44 (∀ w h:Int,Fn 44 [I w,I h] [] (B (decide (SidesOk w h)))):=⟨fun w h=>by
 refine FnC.of_body tabOk Tryd.func44 Tryd.ntmps44 rfl (by decide +kernel) (by simp) fun G=>?_
 refine go (r:=?_);and_intros<;>intros<;>try exact True.intro
 all_goals first|(simp_all;done)|(rw [Bool.eq_iff_iff];simp only [decide_eq_true_eq,Bool.not_eq_true',decide_eq_false_iff_not,Bool.false_eq_true,true_iff,false_iff,iff_true,iff_false,Bool.not_eq_eq_eq_not,Bool.not_true];omega)⟩
instance szIntS_c:Con 20 (∀ (p:List Int) (left:Int),p.length≤9223372036854775807∧0≤left∧left≤1048576→Fn 20 [IL p,I left] [] (I (max (-1) (left-p.length)))):=⟨fun p left hl=>by
 refine FnC.of_body tabOk Tryd.func20 Tryd.ntmps20 rfl (by decide +kernel) (by simp) fun G=>?_
 exact go (r:=trivial)⟩
end Go.Proofs.YtkckmenalehdpaaDoor


namespace Go.Proofs.YtkckmenalehdpaaDoor
open Go Go.Abs
def hexD:List UInt8:=[48,49,50,51,52,53,54,55,56,57,97,98,99,100,101,102]
def hx (k:Nat):UInt8:=hexD.getD k 0
theorem u8w (v:Int) (h:0≤v∧v≤255):IntKind.u8.wrap v=v:=by
 simp only [IntKind.wrap,IntKind.bits,IntKind.signed];simp;omega
end Go.Proofs.YtkckmenalehdpaaDoor


namespace Go.Proofs.YtkckmenalehdpaaDoor
open Go Go.Abs
theorem goR {P R:Prop} (h:(Hold R→P)∧IsT R:=by
 refine And.intro ?_ ?_
 ·intro hold
  repeat' (first
  |(refine K.L ?_;first
   |(refine K.mv ?_;refine WpL.move rfl (by decide) ?_)
   |(refine K.asg ?_;refine WpL.assign rfl (by decide) ?_)
   |(refine K.bin ?_;first
    |refine WpL.add rfl rfl (by omega) (by decide) ?_
    |refine WpL.sub rfl rfl (by omega) (by decide) ?_
    |refine WpL.quo rfl rfl (by omega) (by decide) ?_
    |refine WpL.rem rfl rfl (by omega) (by decide) ?_
    |refine WpL.bin rfl rfl rfl (by decide) ?_
    |refine WpL.strAdd rfl rfl (by first|omega|(simp only [List.length_append];omega)|(simp;omega)) (by decide) ?_
    |refine WpL.strNe rfl rfl (by decide) ?_
    |refine WpL.boolNe (K.tyBool tabOk rfl) rfl rfl (by decide) ?_
    |refine WpL.shl rfl rfl (by first|decide|(simp only [IntKind.bits];omega)) (by decide) ?_)
   |(refine K.ld ?_;first
    |refine WpL.loadInts tabOk rfl rfl rfl (by first|omega|(simp;omega)) (by decide) ?_
    |refine WpL.load1 tabOk rfl rfl rfl rfl rfl (by decide) ?_
    |refine WpL.loadAgg (ds:=[_]) tabOk rfl rfl rfl rfl rfl (by decide) ?_
    |refine WpL.loadAgg (ds:=[_,_]) tabOk rfl rfl rfl rfl rfl (by decide) ?_
    |refine WpL.loadAgg (ds:=[_,_,_]) tabOk rfl rfl rfl rfl rfl (by decide) ?_
    |refine WpL.loadAgg (ds:=[_,_,_,_]) tabOk rfl rfl rfl rfl rfl (by decide) ?_
    |refine WpL.loadAgg (ds:=[_,_,_,_,_]) tabOk rfl rfl rfl rfl rfl (by decide) ?_
    |refine WpL.loadAgg (ds:=[_,_,_,_,_,_]) tabOk rfl rfl rfl rfl rfl (by decide) ?_
    |refine WpL.loadAgg (ds:=[_,_,_,_,_,_,_]) tabOk rfl rfl rfl rfl rfl (by decide) ?_
    |refine WpL.loadAgg (ds:=[_,_,_,_,_,_,_,_]) tabOk rfl rfl rfl rfl rfl (by decide) ?_)
   |(refine K.fld ?_;first
    |refine WpL.fieldP tabOk rfl rfl rfl rfl rfl (by decide) ?_)
   |(refine K.ixa ?_;first
    |refine WpL.idxI1 tabOk rfl rfl rfl (by omega) (by decide) ?_
    |refine WpL.idxOJ tabOk rfl rfl rfl rfl rfl (by omega) (by decide) ?_
    |refine WpL.idxI tabOk rfl rfl rfl (by omega) (by decide) ?_
    |refine WpL.idxO tabOk rfl rfl rfl rfl rfl (by omega) (by decide) ?_)
   |(refine K.call ?_;refine K.con (fun hcon=>?_);first
    |(refine WpL.callF (hcon ?_) snapA locA outA rfl rfl rfl (by decide) ?_<;>clear hcon)
    |(refine WpL.callF (hcon) snapA locA outA rfl rfl rfl (by decide) ?_<;>clear hcon)
    |(refine WpL.callF (hcon _ ?_) snapA locA outA rfl rfl rfl (by decide) ?_<;>clear hcon)
    |(refine WpL.callF (hcon _) snapA locA outA rfl rfl rfl (by decide) ?_<;>clear hcon)
    |(refine WpL.callF (hcon _ _ ?_) snapA locA outA rfl rfl rfl (by decide) ?_<;>clear hcon)
    |(refine WpL.callF (hcon _ _) snapA locA outA rfl rfl rfl (by decide) ?_<;>clear hcon)
    |(refine WpL.callF (hcon _ _ _ ?_) snapA locA outA rfl rfl rfl (by decide) ?_<;>clear hcon)
    |(refine WpL.callF (hcon _ _ _) snapA locA outA rfl rfl rfl (by decide) ?_<;>clear hcon)
    |(refine WpL.callF (hcon _ _ _ _ ?_) snapA locA outA rfl rfl rfl (by decide) ?_<;>clear hcon)
    |(refine WpL.callF (hcon _ _ _ _) snapA locA outA rfl rfl rfl (by decide) ?_<;>clear hcon)
    |(refine WpL.callF (hcon _ _ _ _ _ ?_) snapA locA outA rfl rfl rfl (by decide) ?_<;>clear hcon)
    |(refine WpL.callF (hcon _ _ _ _ _) snapA locA outA rfl rfl rfl (by decide) ?_<;>clear hcon)
    |(refine WpL.callF (hcon _ _ _ _ _ _ ?_) snapA locA outA rfl rfl rfl (by decide) ?_<;>clear hcon)
    |(refine WpL.callF (hcon _ _ _ _ _ _) snapA locA outA rfl rfl rfl (by decide) ?_<;>clear hcon)
    |(refine WpL.callF (hcon _ _ _ _ _ _ _ ?_) snapA locA outA rfl rfl rfl (by decide) ?_<;>clear hcon)
    |(refine WpL.callF (hcon _ _ _ _ _ _ _) snapA locA outA rfl rfl rfl (by decide) ?_<;>clear hcon)
    |(refine WpL.callF (hcon _ _ _ _ _ _ _ _ ?_) snapA locA outA rfl rfl rfl (by decide) ?_<;>clear hcon)
    |(refine WpL.callF (hcon _ _ _ _ _ _ _ _) snapA locA outA rfl rfl rfl (by decide) ?_<;>clear hcon)
    |(refine WpL.callF (hcon _ _ _ _ _ _ _ _ _ ?_) snapA locA outA rfl rfl rfl (by decide) ?_<;>clear hcon)
    |(refine WpL.callF (hcon _ _ _ _ _ _ _ _ _) snapA locA outA rfl rfl rfl (by decide) ?_<;>clear hcon)
    |(refine WpL.callF (hcon _ _ _ _ _ _ _ _ _ _ ?_) snapA locA outA rfl rfl rfl (by decide) ?_<;>clear hcon)
    |(refine WpL.callF (hcon _ _ _ _ _ _ _ _ _ _) snapA locA outA rfl rfl rfl (by decide) ?_<;>clear hcon)
    |(refine WpL.callF (hcon _ _ _ _ _ _ _ _ _ _ _ ?_) snapA locA outA rfl rfl rfl (by decide) ?_<;>clear hcon)
    |(refine WpL.callF (hcon _ _ _ _ _ _ _ _ _ _ _) snapA locA outA rfl rfl rfl (by decide) ?_<;>clear hcon)
    |(refine WpL.callF (hcon _ _ _ _ _ _ _ _ _ _ _ _ ?_) snapA locA outA rfl rfl rfl (by decide) ?_<;>clear hcon)
    |(refine WpL.callF (hcon _ _ _ _ _ _ _ _ _ _ _ _) snapA locA outA rfl rfl rfl (by decide) ?_<;>clear hcon)
    |(refine WpL.callF (hcon _ _ _ _ _ _ _ _ _ _ _ _ _ ?_) snapA locA outA rfl rfl rfl (by decide) ?_<;>clear hcon)
    |(refine WpL.callF (hcon _ _ _ _ _ _ _ _ _ _ _ _ _) snapA locA outA rfl rfl rfl (by decide) ?_<;>clear hcon)
    |(refine WpL.callF (hcon _ _ _ _ _ _ _ _ _ _ _ _ _ _ ?_) snapA locA outA rfl rfl rfl (by decide) ?_<;>clear hcon)
    |(refine WpL.callF (hcon _ _ _ _ _ _ _ _ _ _ _ _ _ _) snapA locA outA rfl rfl rfl (by decide) ?_<;>clear hcon)
    |(refine WpL.callF (hcon _ _ _ _ _ _ _ _ _ _ _ _ _ _ _ ?_) snapA locA outA rfl rfl rfl (by decide) ?_<;>clear hcon)
    |(refine WpL.callF (hcon _ _ _ _ _ _ _ _ _ _ _ _ _ _ _) snapA locA outA rfl rfl rfl (by decide) ?_<;>clear hcon)
    |(refine WpL.callF (hcon _ _ _ _ _ _ _ _ _ _ _ _ _ _ _ _ ?_) snapA locA outA rfl rfl rfl (by decide) ?_<;>clear hcon)
    |(refine WpL.callF (hcon _ _ _ _ _ _ _ _ _ _ _ _ _ _ _ _) snapA locA outA rfl rfl rfl (by decide) ?_<;>clear hcon)
    |(refine WpL.callF (hcon _ _ _ _ _ _ _ _ _ _ _ _ _ _ _ _ _ ?_) snapA locA outA rfl rfl rfl (by decide) ?_<;>clear hcon)
    |(refine WpL.callF (hcon _ _ _ _ _ _ _ _ _ _ _ _ _ _ _ _ _) snapA locA outA rfl rfl rfl (by decide) ?_<;>clear hcon)
    |(refine WpL.callF (hcon _ _ _ _ _ _ _ _ _ _ _ _ _ _ _ _ _ _ ?_) snapA locA outA rfl rfl rfl (by decide) ?_<;>clear hcon)
    |(refine WpL.callF (hcon _ _ _ _ _ _ _ _ _ _ _ _ _ _ _ _ _ _) snapA locA outA rfl rfl rfl (by decide) ?_<;>clear hcon))
   |(refine K.call ?_;refine K.conG (fun hcon=>?_);first
    |(refine WpL.callM0 (hs:=[_,_,_,_]) (hcon _ _ _ _ _ _ _ _) handA handOA rfl rfl outA outA rfl rfl rfl rfl ?_<;>clear hcon))
   |(refine K.call ?_;refine K.conB (fun hcon=>?_);first
    |(refine WpL.callB (hcon _ _ _ _ _ _ _ _) snapA locA outA locA outA rfl rfl rfl rfl rfl (by decide) ?_ ?_<;>clear hcon))
   |(refine K.call ?_;refine K.conP (fun hcon=>?_);first
    |(refine WpL.callP (hs:=[_]) (hcon _ _ _ _ _ _ _ _ _ _) (by assumption) handA handOA rfl rfl (.cons rfl (.sc (.sc (.sc .nil))) .nil) outA rfl rfl rfl rfl (by decide) ?_<;>clear hcon))
   |(refine K.bi ?_;first
    |(refine K.blen ?_;first
     |refine WpL.lenImm (TabOk.slice tabOk rfl).1 rfl (by decide) ?_)
    |(refine K.bapp ?_;first
     |refine WpL.app1Strs tabOk rfl rfl rfl (by first|exact Nat.zero_le _|exact Nat.le_of_ble_eq_true rfl) rfl rfl (by first|rfl|omega|(simp;done)|(simp;omega)) (by omega) (by decide) ?_
     |refine WpL.appOwn tabOk rfl rfl rfl rfl rfl rfl (by simp) (by first|exact Nat.zero_le _|exact Nat.le_of_ble_eq_true rfl) rfl rfl (by simp) (by simp [all_ints,all_u8s,all_strs,oneB,Value.oneCell']) (by omega) (by decide) ?_))
   |(refine K.un ?_;first
    |refine WpL.not rfl (by decide) ?_
    |refine WpL.neg rfl (by omega) (by decide) ?_)
   |(refine K.pick ?_;first
    |refine WpL.pickT rfl rfl (by decide) ?_
    |refine WpL.pickF rfl rfl (by decide) ?_)
   |(refine K.cv ?_;first
    |refine WpL.conv (P:=Tryd.prog) (by rfl) (K.tyInt tabOk rfl) rfl (by decide) ?_
    |refine WpL.ofBytes tabOk rfl rfl rfl rfl rfl (by simp) (by decide) ?_)
   |(refine K.lit ?_;first
    |refine WpL.litInts tabOk rfl rfl rfl rfl rfl (by decide) rfl (by decide) ?_
    |refine WpL.litU8s tabOk rfl rfl rfl rfl rfl (by decide) rfl (by decide) ?_
    |refine WpL.litStrs tabOk rfl rfl rfl rfl rfl (by decide) rfl (by decide) ?_
    |refine WpL.litF tabOk rfl rfl rfl rfl (by decide) rfl (by decide) ?_)
   |(refine K.ms ?_;first
    |refine WpL.makeInts tabOk rfl rfl rfl (by omega) (by omega) rfl (by decide) ?_)
   |(refine K.st ?_;first
    |refine WpL.storeInts tabOk rfl rfl rfl rfl rfl (by first|omega|(simp;omega)) ?_
    |refine WpL.storeS tabOk rfl rfl rfl rfl rfl rfl rfl rfl (by first|decide|omega|(simp;omega)|(simp;done)) (by first|(simp only [Go.Abs.setL,List.set_cons_zero,List.set_cons_succ,Nat.zero_add,Nat.reduceAdd];exact rfl)|exact rfl) ?_)
   |(refine K.all ?_;first
    |refine WpL.allocStruct tabOk rfl rfl (by decide) ?_)
   |(refine K.box ?_;refine WpL.box rfl rfl rfl (by decide) ?_)
   |(refine K.gd ?_;first
    |refine K.gT rfl (by decide) rfl ?_
    |refine K.gF rfl (by decide) rfl ?_
    |(refine K.gD rfl rfl (fun hgo=>?_) (fun hgo=>?_)<;>(try (first|contradiction|(exfalso;omega)))))
   |((repeat (revert hgo));(repeat ((fail_if_success with_reducible apply Hold.h hold);replace hold:=Hold.t hold));with_reducible apply Hold.h hold))
  |refine WpL.nil ?_
  |refine Abs.Seq.n ?_
  |(refine K.A ?_;first
   |refine WpA.seq ?_
   |refine WpA.regionF rfl ?_
   |(refine K.cond ?_;first
    |(refine WpA.condD rfl (fun hgo=>?_) (fun hgo=>?_)<;>(try (first|contradiction|(exfalso;omega))))
    |(refine WpA.condN rfl (fun hgo=>?_) (fun hgo=>?_)<;>(try (first|contradiction|(exfalso;omega))))
    |(refine WpA.condS rfl (fun hgo=>?_) (fun hgo=>?_)<;>(try (first|contradiction|(exfalso;omega)))))
   |refine WpA.block ?_
   |refine WpA.ret ?_
   |refine WpA.exit ?_
   |refine WpA.skip ?_
   |(refine K.loop ?_;((repeat (revert hgo));(repeat ((fail_if_success with_reducible apply Hold.h hold);replace hold:=Hold.t hold));with_reducible apply Hold.h hold))
   |((repeat (revert hgo));(repeat ((fail_if_success with_reducible apply Hold.h hold);replace hold:=Hold.t hold));with_reducible apply Hold.h hold))
  |(refine K.RT ?_;first
   |exact ReT.nil
   |refine ReT.same rfl rfl ?_
   |refine ReT.own rfl rfl rfl rfl rfl rfl (by first|rfl|omega|(simp;done)|(simp;omega)) ?_
   |refine ReT.i rfl ?_ ?_
   |refine ReT.ptr rfl rfl rfl rfl rfl ?_)
  |(refine TrueB.mk ?_;kernel_rfl)
  |(apply K.eq;first|exact rfl|omega|assumption|(simp;done)|(simp;omega)|(exact absurd (by simp;done) ‹¬ _›)|((repeat (revert hgo));(repeat ((fail_if_success with_reducible apply Hold.h hold);replace hold:=Hold.t hold));with_reducible apply Hold.h hold))
  |(refine K.le ?_;first|omega|(simp;omega)|assumption|((repeat (revert hgo));(repeat ((fail_if_success with_reducible apply Hold.h hold);replace hold:=Hold.t hold));with_reducible apply Hold.h hold))
  |(refine K.lt ?_;first|omega|(simp;omega)|assumption|((repeat (revert hgo));(repeat ((fail_if_success with_reducible apply Hold.h hold);replace hold:=Hold.t hold));with_reducible apply Hold.h hold))
  |refine And.intro ?_ ?_
  |(refine K.RO ?_;first
   |exact ReO.nil
   |refine ReO.ints ?_ (by first|exact .inl rfl|exact .inr rfl) ?_
   |refine ReO.cons (Re.same rfl rfl) (by first|exact .inl rfl|exact .inr rfl) ?_
   |refine ReO.cons ?_ (by first|exact .inl rfl|exact .inr rfl) ?_)
  |(refine K.W ?_;first
   |refine Weak.mk ?_ ?_ (by first|exact Nat.zero_le _|exact Nat.le_of_ble_eq_true rfl))
  |refine Abs.Seq.ret ?_
  |refine Abs.Seq.exit ?_
  |refine Blk.n ?_
  |refine Blk.ret ?_
  |refine Blk.exitHere ?_
  |(refine K.R ?_;first
   |refine Rnd.ret ?_
   |refine Rnd.exit ?_
   |refine Rnd.succ ?_ ?_ ?_
   |((repeat (revert hgo));(repeat ((fail_if_success with_reducible apply Hold.h hold);replace hold:=Hold.t hold));with_reducible apply Hold.h hold))
  |(refine K.F ?_;first
   |apply Fin.one0
   |apply Fin.one1
   |((repeat (revert hgo));(repeat ((fail_if_success with_reducible apply Hold.h hold);replace hold:=Hold.t hold));with_reducible apply Hold.h hold))
  |exact ResV.tmp rfl
  |exact ResV.cellP rfl rfl rfl rfl rfl
  |exact ResV.cell (ds:=[_]) rfl rfl rfl rfl rfl
  |exact ResV.cell (ds:=[_,_]) rfl rfl rfl rfl rfl
  |exact ResV.cell (ds:=[_,_,_]) rfl rfl rfl rfl rfl
  |exact ResV.cell (ds:=[_,_,_,_]) rfl rfl rfl rfl rfl
  |exact ResV.cell (ds:=[_,_,_,_,_]) rfl rfl rfl rfl rfl
  |exact ResV.cell (ds:=[_,_,_,_,_,_]) rfl rfl rfl rfl rfl
  |exact ResV.cell (ds:=[_,_,_,_,_,_,_]) rfl rfl rfl rfl rfl
  |exact ResV.cell (ds:=[_,_,_,_,_,_,_,_]) rfl rfl rfl rfl rfl
  |(refine K.E ?_;first
   |exact Ex.nil
   |refine Ex.keep rfl rfl rfl ?_
   |refine Ex.own rfl rfl rfl rfl ?_
   |refine Ex.own rfl rfl rfl ?_ ?_
   |refine Ex.nilO rfl ?_
   |refine Ex.agg ?_ ?_
   |refine Ex.tup ?_ ?_
   |refine Ex.i ?_ ?_
   |refine Ex.b ?_ ?_
   |refine Ex.z ?_ ?_)
  |(refine K.NE ?_;first
   |exact NEx.nil
   |refine NEx.ints rfl ?_ ?_
   |refine NEx.gone ?_ rfl ?_
   |refine NEx.obj rfl ?_ rfl rfl rfl (.inr rfl) ?_)
  |exact Re.nil
  |refine Re.keep rfl rfl ?_
  |refine Re.fn rfl ?_
  |refine Re.own rfl rfl rfl rfl rfl (by first|rfl|omega|(simp;done)|(simp;omega)) ?_
  |refine Re.ptr rfl rfl rfl rfl ?_
  |refine Re.agg ?_ ?_
  |refine Re.tup ?_ ?_
  |exact rfl
  |omega
  |(refine fun hgo=>?_)
  |(simp;done)
  |(simp;omega)
  |((repeat (revert hgo));(repeat ((fail_if_success with_reducible apply Hold.h hold);replace hold:=Hold.t hold));with_reducible apply Hold.h hold))
  all_goals (try ((repeat (revert hgo));(repeat ((fail_if_success with_reducible apply Hold.h hold);replace hold:=Hold.t hold));with_reducible apply Hold.h hold))
  all_goals exact True
 ·first|exact IsT.t|exact IsT.any
 ) (r:R):P:=h.1 ⟨r⟩
end Go.Proofs.YtkckmenalehdpaaDoor


namespace Go.Proofs.YtkckmenalehdpaaDoor
open Go Go.Abs
abbrev decL (n:Int):List UInt8:=Go.Lib.itoa n
theorem decL_len (n:Int) (h:-9223372036854775808≤n∧n≤9223372036854775807):(decL n).length≤21:=Go.Lib.itoa_length_le n h.1 h.2
instance Itoa_c:Con 50 (∀ n:Int,-9223372036854775808≤n∧n≤9223372036854775807→Fn 50 [I n] [] (Z (decL n))):=⟨fun n hn=>by
 refine FnC.of_calls (x:=.string ⟨(decL n).toArray⟩) ⟨_,Tryd.func50,rfl,by decide +kernel⟩ (fun _ _ _ _=>.sc .nil) fun w S vs hS hg hl=>?_
 cases hl with
 |sc h=>
  cases h
  refine (Any.strconv_Itoa laysM171 n hn.1 hn.2 w ?_).mono fun e w' he=>?_
  ·obtain ⟨W,h1,h2⟩:=glb_cell hg
   obtain ⟨t,fz,h3⟩:=h1.pow
   unfold Go.Lib.TabIs World.var?
   refine Eq.trans (congrArg (fun o=>Option.bind o _) (show _=some (5:Nat) from by kernel_rfl)) ?_
   show (match w.heap[(5:Nat)]? with|some (.cells cs _ _)=>some cs|_=>none)=_
   rw [(h2 5 (by decide)).1,h3]
   simp [Go.Lib.pow10Tab]
  ·obtain ⟨he,k,os,hw⟩:=he
   exact ⟨he,hw▸keeps_grow⟩⟩
end Go.Proofs.YtkckmenalehdpaaDoor


namespace Go.Proofs.YtkckmenalehdpaaDoor
open Go Go.Abs
attribute [local irreducible] WpA WpL Rnd Blk Abs.Seq Abs.Fin Abs.FinG FnC FnG Only Go.Lib.itoa
abbrev I64 (n:Int):Prop:=-9223372036854775808≤n∧n≤9223372036854775807
instance Dec_c:Con 26 (∀ n:Int,I64 n→Fn 26 [I n] [] (Z (decL n))):=⟨fun n hn=>by
 refine FnC.of_body tabOk Tryd.func26 Tryd.ntmps26 rfl (by decide +kernel) (by simp) fun G=>?_
 refine go (r:=?_);and_intros<;>intros<;>try exact True.intro⟩
def digs (m:Nat):List UInt8:=if m=0 then [] else Go.Lib.decDigits m
theorem digs_step (m:Nat) (h:m≠0):digs m=digs (m/10)++[UInt8.ofNat (48+m%10)]:=by
 unfold digs
 rw [if_neg h,Go.Lib.decDigits]
 split
 ·rw [if_pos (by omega),Nat.mod_eq_of_lt (by assumption)];rfl
 ·rw [if_neg (by omega)]
theorem digs_len {m:Nat} (h:m<18446744073709551616):(digs m).length≤20:=by
 unfold digs
 split
 ·simp
 ·rw [Go.Lib.decDigits_length];exact Go.Lib.nDigits_le20 m h
theorem decL_digs (n:Int) (h:n≠0):decL n=(if n<0 then [45] else [])++digs n.natAbs:=by
 unfold decL Go.Lib.itoa digs
 rw [if_neg (show ¬n.natAbs=0 by omega)]
 by_cases h2:n<0
 ·rw [if_pos h2,if_pos h2];rfl
 ·rw [if_neg h2,if_neg h2,show n.toNat=n.natAbs from by omega];rfl
theorem decL_zero:decL 0=[48]:=by decide +kernel
theorem dec_step {c d:Int} (u:List UInt8) (h:c≠0) (hd:d=(c.natAbs%10:Nat)):digs (c.tdiv 10).natAbs++(List.map (fun n:Int=>UInt8.ofNat n.toNat) [IntKind.u8.wrap (48+d)]++u)=digs c.natAbs++u:=by
 have e1:(c.tdiv 10).natAbs=c.natAbs/10:=Int.natAbs_tdiv c 10
 rw [digs_step c.natAbs (by omega),e1,u8w _ (by omega),hd]
 simp only [List.map_cons,List.map_nil,List.append_assoc]
 rw [show ((48:Int)+((c.natAbs%10:Nat):Int)).toNat=48+c.natAbs%10 from by omega]
instance Dec_s:Con 22 (∀ n:Int,I64 n→Fn 22 [I n] [] (Z (decL n))):=⟨fun n hn=>by
 refine FnC.of_body tabOk Tryd.func22 Tryd.ntmps22 rfl (by decide +kernel) (by simp) fun G=>?_
 refine go (r:=?_);and_intros<;>intros<;>try exact True.intro
 ·have h0:n=0:=by assumption
  subst h0
  exact decL_zero.symm
 have hn0:n≠0:=by assumption
 refine WpA.loop (fun x:Int×List UInt8=>⟨[(0,I x.1),(3,Z x.2),(4,B (decide (n<0)))],[]⟩) (fun x=>digs x.1.natAbs++x.2=digs n.natAbs∧I64 x.1) (fun x=>x.1.natAbs) (n,[]) ⟨by simp,hn⟩ (go (r:=trivial)) (fun x hx=>?_)
 obtain ⟨c,u⟩:=x
 obtain ⟨hx1,hx2⟩:=hx
 simp only at hx1 hx2 ⊢
 have hul:u.length≤20:=by
  have h1:=congrArg List.length hx1
  have h2:=digs_len (m:=n.natAbs) (by omega)
  simp only [List.length_append] at h1;omega
 have ht1:=Int.natAbs_tmod c 10
 have ht2:=Int.natAbs_tdiv c 10
 have ht3:(c.natAbs%(10:Int).natAbs)=c.natAbs%10:=rfl
 have ht4:c.natAbs.div (10:Int).natAbs=c.natAbs/10:=rfl
 rw [ht3] at ht1
 rw [ht4] at ht2
 have hb:-9≤c.tmod 10∧c.tmod 10≤9:=by omega
 refine go (r:=?_);and_intros<;>intros<;>try exact True.intro
 ·refine WpL.remT rfl rfl (by decide) (by decide) ?_
  refine go (r:=?_);and_intros<;>intros<;>try exact True.intro
  ·refine WpL.quoT rfl rfl (by omega) (by decide) ?_
   refine go (r:=?_);and_intros<;>intros<;>try exact True.intro
   refine Rnd.go (c.tdiv 10,List.map (fun n:Int=>UInt8.ofNat n.toNat) [IntKind.u8.wrap (48+-c.tmod 10)]++u) ⟨by rw [←hx1];exact dec_step u (by assumption) (by omega),by simp only;omega⟩ (by simp only;omega) (go (r:=trivial))
  ·refine WpL.quoT rfl rfl (by omega) (by decide) ?_
   refine go (r:=?_);and_intros<;>intros<;>try exact True.intro
   refine Rnd.go (c.tdiv 10,List.map (fun n:Int=>UInt8.ofNat n.toNat) [IntKind.u8.wrap (48+c.tmod 10)]++u) ⟨by rw [←hx1];exact dec_step u (by assumption) (by omega),by simp only;omega⟩ (by simp only;omega) (go (r:=trivial))
 ·have h0:c=0:=by assumption
  subst h0
  have hn:n<0:=by assumption
  rw [decL_digs n hn0,if_pos hn,←hx1];rfl
 ·have h0:c=0:=by assumption
  subst h0
  have hn:¬n<0:=by assumption
  rw [decL_digs n hn0,if_neg hn,←hx1];rfl⟩
end Go.Proofs.YtkckmenalehdpaaDoor


namespace Go.Proofs.YtkckmenalehdpaaDoor
open Go Go.Abs
abbrev SL (xs:List (List UInt8)):AV:=.imm 1 xs.length (strs xs)
abbrev bsA (xs:List (List UInt8)):List ByteArray:=xs.map fun p=>⟨p.toArray⟩
theorem bsA_data (xs:List (List UInt8)):(bsA xs).map (·.data.toList)=xs:=by simp [bsA,List.map_map,Function.comp_def]
theorem lrel_strs {S w ι O}:∀{xs:List (List UInt8)} {us f},LRel S w ι O (strs xs) us f→us=(bsA xs).map Value.string
 |[],us,f,h=>by cases h;rfl
 |x::xs,us,f,h=>by
  cases h with
  |sc h2=>rw [lrel_strs h2];rfl
theorem vrel_strs {S w ι O} {xs:List (List UInt8)} {v:Value} {f:List Nat} (h:VRel S w ι O (SL xs) v f):(xs=[]∧∃a cap,v=.slice a 0 cap)∨∃b o cap,v=.slice (some ⟨b,o,none⟩) (bsA xs).length cap∧S b∧(bsA xs).length≤cap∧∀(j:Nat) x,(bsA xs)[j]?=some x→w.cell? ⟨b,o+j,none⟩=some (.string x):=by
 unfold SL at h
 generalize hn:xs.length=n at h
 generalize hc:strs xs=cs at h
 cases h with
 |imm0 h0 h1=>
  refine .inl ⟨List.eq_nil_of_length_eq_zero hn,_,_,rfl⟩
 |imm hSb hcl hr hlen hle hcap h1=>
  subst hc
  have hu:=lrel_strs hr
  refine .inr ⟨_,_,_,by rw [show (bsA xs).length=n from by simp [bsA,hn]],hSb,by simp [hn];exact hle,fun j x hj=>?_⟩
  have hlt:=(List.getElem?_eq_some_iff.1 hj).1
  rw [hcl j (by rw [hu];simpa using hlt),hu,List.getElem?_map,hj];rfl
instance Join_c:Con 27 (∀ (xs:List (List UInt8)) (sep:List UInt8),xs.length≤140737488355328∧(Go.Lib.join xs sep).length≤140737488355328→Fn 27 [SL xs,Z sep] [] (Z (Go.Lib.join xs sep))):=⟨fun xs sep hn=>by
 refine FnC.of_calls (x:=.string ⟨(Go.Lib.join xs sep).toArray⟩) ⟨_,Tryd.func27,rfl,by decide +kernel⟩ (fun _ _ _ _=>.sc .nil) fun w S vs hS hg hl=>?_
 obtain ⟨v,vs',f1,f2,rfl,hv,hl2,hf⟩:=hl.uncons
 cases hl2 with
 |sc h=>
  cases h
  have hxs:=bsA_data xs
  rcases vrel_strs hv with ⟨rfl,a,cap,rfl⟩|⟨b,o,cap,rfl,hSb,hcap,hcell⟩
  ·refine (strings_Join_none a cap ⟨sep.toArray⟩ w).mono fun e w' he=>?_
   obtain ⟨he,hw⟩:=he
   exact ⟨he,hw▸Keeps.refl _ _⟩
  ·refine (strings_Join b o cap (bsA xs) ⟨sep.toArray⟩ w hcell (hS b hSb) (by simpa using hn.1) hcap (by rw [hxs];exact hn.2)).mono fun e w' he=>?_
   obtain ⟨he,hw⟩:=he
   rw [hxs] at he
   exact ⟨he,keeps_below hw⟩⟩
end Go.Proofs.YtkckmenalehdpaaDoor


namespace Go.Proofs.YtkckmenalehdpaaDoor
open Go Go.Abs
abbrev HdA (w h q:Int) (b d:Bool) (l:List Int):AV:=.agg [I w,I h,I q,B b,B d,IL l]
def bn (b:Blok):Nat:=b.2.length
def bw (l:List Blok):Nat:=l.length+(l.map bn).sum
end Go.Proofs.YtkckmenalehdpaaDoor


namespace Go.Proofs.YtkckmenalehdpaaDoor
open Go Go.Abs
attribute [local irreducible] WpA WpL Rnd Blk Abs.Seq Abs.Fin Abs.FinG FnC FnG Only
def stepX (q:Int):Int:=IntKind.i64.wrap (([8,9,10,11,13,14]:List Int).getD (q%6).toNat 0*2 ^ (q/6).toNat)
theorem stepX_bd (q:Int) (h:0≤q∧q≤51):8≤stepX q∧stepX q≤4000:=by
 have key:∀k:Fin 52,8≤stepX k.val∧stepX k.val≤4000:=by decide
 obtain ⟨k,rfl⟩:∃k:Nat,q=k:=⟨q.toNat,by omega⟩
 exact key ⟨k,by omega⟩
def stepL (q:Int):Int:=if 0≤q∧q≤51 then stepX q/8 else 0
theorem stepL_in (q:Int) (h:0≤q∧q≤51):1≤stepL q∧stepL q≤500:=by
 have:=stepX_bd q h
 rw [stepL,if_pos h];omega
theorem stepL_pos (q:Int):0<stepL q↔0≤q∧q≤51:=by
 by_cases h:0≤q∧q≤51
 ·have:=stepL_in q h;constructor<;>intro _<;>omega
 ·rw [stepL,if_neg h];constructor<;>intro _<;>omega
instance StepOf_s:Con 45 (∀ q:Int,Fn 45 [I q] [] (I (stepL q))):=⟨fun q=>by
 refine FnC.of_body tabOk Tryd.func45 Tryd.ntmps45 rfl (by decide +kernel) (by simp) fun G=>?_
 have hx:=stepX_bd q
 unfold stepX at hx
 refine go (r:=?_);and_intros<;>intros<;>try exact True.intro
 all_goals first|(rw [stepL,if_neg (by assumption)];done)|(rw [stepL,if_pos (by assumption)];rfl)⟩
def cw (n:Int):Int:=if 0<n then 2 ^ (7-n).toNat else 0
theorem cw_wrap (n:Int) (h:0≤n∧n≤7) (h0:n>0):IntKind.i64.wrap (1*2 ^ (7-n).toNat)=cw n∧1≤cw n∧cw n≤64:=by
 have key:∀k:Fin 8,0<k.val→IntKind.i64.wrap (1*2 ^ (7-(k.val:Int)).toNat)=cw k.val∧1≤cw k.val∧cw k.val≤64:=by decide
 obtain ⟨k,rfl⟩:∃k:Nat,n=k:=⟨n.toNat,by omega⟩
 exact key ⟨k,by omega⟩ (show 0<k by omega)
def csum (l:List Int):Int:=(l.map cw).sum
theorem csum_snoc (l:List Int) (k:Nat) (h:k<l.length):csum (l.take (k+1))=csum (l.take k)+cw (l.getD k 0):=by
 unfold csum;rw [List.take_succ_eq_append_getElem h,List.map_append,List.sum_append];simp [h]
def CodeOk (l:List Int):Prop:=In l 0 7∧l.length=6∧csum l=128
instance (l:List Int):Decidable (CodeOk l):=by unfold CodeOk;infer_instance
instance CodeOk_s:Con 46 (∀ l:List Int,l.length≤1099511627776→Fn 46 [IL l] [] (B (decide (CodeOk l)))):=⟨fun l hl=>by
 refine FnC.of_body tabOk Tryd.func46 Tryd.ntmps46 rfl (by decide +kernel) (by simp) fun G=>?_
 refine go (r:=?_);and_intros<;>intros<;>try exact True.intro
 refine WpA.loop (fun k:Nat=>⟨[(0,IL l),(3,I (csum (l.take k))),(4,I k)],[]⟩) (fun k=>k≤l.length∧In (l.take k) 0 7∧0≤csum (l.take k)∧csum (l.take k)≤64*k) (fun k=>l.length-k) 0 (by simp [in_nil,csum]) (go (r:=?_)) (fun k hk=>?_)
 ·simp [csum]
 have hs:=fun h=>csum_snoc l k h
 have hi:=fun h=>in_snoc (lo:=0) (hi:=7) (l:=l) (k:=k) h
 have hw:=cw_wrap (l.getD k 0)
 have hw0:¬l.getD k 0>0→cw (l.getD k 0)=0:=fun h=>by unfold cw;rw [if_neg (by omega)]
 refine go (r:=?_);and_intros<;>intros<;>try exact True.intro
 ·have:=notin (k:=k) (by omega) ‹¬ (0≤l.getD k 0∧_)›;rw [eq_comm,decide_eq_false_iff_not] at *;exact fun h=>this h.1
 ·rw [hi (by omega)];exact ⟨hk.2.1,‹_›⟩
 ·rw [hi (by omega)];exact ⟨hk.2.1,‹_›⟩
 all_goals have e:k=l.length:=by omega
 all_goals subst e
 all_goals rw [List.take_length] at*
 ·have h6:l.length=6:=by omega
  simp [CodeOk,hk.2.1,h6]
 ·have h6:¬l.length=6:=by omega
  simp [CodeOk,h6]⟩
instance CodeOk_c:Con 49 (∀ l:List Int,l.length≤1099511627776→Fn 49 [IL l] [] (B (decide (CodeOk l)))):=⟨fun l hl=>by
 refine FnC.of_body tabOk Tryd.func49 Tryd.ntmps49 rfl (by decide +kernel) (by simp) fun G=>?_
 refine go (r:=?_);and_intros<;>intros<;>try exact True.intro
 refine WpA.loop (fun k:Nat=>⟨[(0,IL l),(3,I (csum (l.take k))),(6,IL l),(7,I l.length),(8,I k)],[]⟩) (fun k=>k≤l.length∧In (l.take k) 0 7∧0≤csum (l.take k)∧csum (l.take k)≤64*k) (fun k=>l.length-k) 0 (by simp [in_nil,csum]) (go (r:=?_)) (fun k hk=>?_)
 ·simp [csum]
 have hs:=fun h=>csum_snoc l k h
 have hi:=fun h=>in_snoc (lo:=0) (hi:=7) (l:=l) (k:=k) h
 have hw:=cw_wrap (l.getD k 0)
 have hw0:¬l.getD k 0>0→cw (l.getD k 0)=0:=fun h=>by unfold cw;rw [if_neg (by omega)]
 refine go (r:=?_);and_intros<;>intros<;>try exact True.intro
 ·have:=notin (k:=k) (by omega) ‹¬ (0≤l.getD k 0∧_)›;rw [eq_comm,decide_eq_false_iff_not] at *;exact fun h=>this h.1
 ·rw [hi (by omega)];exact ⟨hk.2.1,‹_›⟩
 ·rw [hi (by omega)];exact ⟨hk.2.1,‹_›⟩
 all_goals have e:k=l.length:=by omega
 all_goals subst e
 all_goals rw [List.take_length] at*
 ·have h6:l.length=6:=by omega
  simp [CodeOk,hk.2.1,h6]
 ·have h6:¬l.length=6:=by omega
  simp [CodeOk,h6]⟩
def cIn (w:Int) (l:List Int):Nat→List Int×Int→List Int×Int
 |0,s=>s
 |i+1,s=>if l.getD i 0=w then ((cIn w l i s).1.set i (cIn w l i s).2,(cIn w l i s).2+1) else cIn w l i s
def cOut (l:List Int):Nat→List Int×Int
 |0=>(List.replicate l.length (-1),0)
 |w+1=>cIn ((w:Int)+1) l l.length ((cOut l w).1,(cOut l w).2*2)
def codes (l:List Int):List Int:=(cOut l 7).1
def bitOk (n w:Int):Prop:=(0≤w∧w≤48)∧0≤n∧n/2 ^ w.toNat=0
instance (n w:Int):Decidable (bitOk n w):=by unfold bitOk;infer_instance
def OptOk (q:Int) (l:List Int):Prop:=(0≤q∧q≤51)∧CodeOk l
instance (q:Int) (l:List Int):Decidable (OptOk q l):=by unfold OptOk;infer_instance
end Go.Proofs.YtkckmenalehdpaaDoor


namespace Go.Proofs.YtkckmenalehdpaaDoor
open Go Go.Abs
def Dn (l:List Int) (w:Int) (i m:Nat):Prop:=(1≤l.getD m 0∧l.getD m 0<w)∨(l.getD m 0=w∧m<i)
def hit (c l:List Int) (m:Nat) (v:Int):Prop:=c.getD m 0*cw (l.getD m 0)≤v∧v<(c.getD m 0+1)*cw (l.getD m 0)
structure J (l:List Int) (w p:Int) (i:Nat) (s:List Int×Int):Prop where
 len:s.1.length=l.length
 lo:0≤s.2
 cod:∀m,m<l.length→Dn l w i m→0≤s.1.getD m 0∧(s.1.getD m 0+1)*cw (l.getD m 0)≤s.2*p
 cov:∀v,0≤v→v<s.2*p→∃m,m<l.length∧Dn l w i m∧hit s.1 l m v
 uni:∀m m' v,m<l.length→m'<l.length→Dn l w i m→Dn l w i m'→hit s.1 l m v→hit s.1 l m' v→m=m'
theorem getD_set (c:List Int) (i m:Nat) (v:Int) (h:i<c.length):(c.set i v).getD m 0=if m=i then v else c.getD m 0:=by
 rw [List.getD_eq_getElem?_getD,List.getElem?_set]
 by_cases e:i=m
 ·subst e;simp [h]
 ·have:¬m=i:=fun h=>e h.symm
  simp [e,this]
theorem J.step {l:List Int} {w p:Int} {i:Nat} {s:List Int×Int} (h:J l w p i s) (hi:i<l.length) (hp:cw w=p) (hp0:0<p) (hw:1≤w):
 J l w p (i+1) (if l.getD i 0=w then (s.1.set i s.2,s.2+1) else s):=by
 by_cases e:l.getD i 0=w
 ·rw [if_pos e]
  have hl:=h.len
  have hmul:(s.2+1)*p=s.2*p+p:=by rw [Int.add_mul,Int.one_mul]
  have hD:∀m,Dn l w (i+1) m↔Dn l w i m∨m=i:=by
   intro m;unfold Dn;constructor
   ·rintro (h|⟨h1,h2⟩)
    ·exact .inl (.inl h)
    ·by_cases hm:m=i
     ·exact .inr hm
     ·exact .inl (.inr ⟨h1,by omega⟩)
   ·rintro ((h|⟨h1,h2⟩)|rfl)
    ·exact .inl h
    ·exact .inr ⟨h1,by omega⟩
    ·exact .inr ⟨e,by omega⟩
  have hne:∀m,Dn l w i m→m≠i:=by
   rintro m (h|⟨_,h⟩) rfl
   ·omega
   ·omega
  have hg:∀m,(s.1.set i s.2).getD m 0=if m=i then s.2 else s.1.getD m 0:=fun m=>getD_set s.1 i m s.2 (by omega)
  have hhit:∀m v,m≠i→(hit (s.1.set i s.2) l m v↔hit s.1 l m v):=by intro m v hm;unfold hit;rw [hg,if_neg hm]
  have hhi:∀v,hit (s.1.set i s.2) l i v↔s.2*p≤v∧v<s.2*p+p:=by intro v;unfold hit;rw [hg,if_pos rfl,e,hp,hmul]
  refine ⟨by simp [hl],by have:=h.lo;simp only;omega,fun m hm hd=>?_,fun v h0 hv=>?_,fun m m' v hm hm' hd hd' h1 h2=>?_⟩
  ·show 0≤(s.1.set i s.2).getD m 0∧((s.1.set i s.2).getD m 0+1)*_≤(s.2+1)*p
   rw [hg,hmul]
   rcases (hD m).1 hd with hd|rfl
   ·rw [if_neg (hne m hd)];have:=h.cod m hm hd;omega
   ·rw [if_pos rfl,e,hp,hmul];have:=h.lo;omega
  ·have hv:v<(s.2+1)*p:=hv
   rw [hmul] at hv
   by_cases hlt:v<s.2*p
   ·obtain ⟨m,h1,h2,h3⟩:=h.cov v h0 hlt
    exact ⟨m,h1,(hD m).2 (.inl h2),(hhit m v (hne m h2)).2 h3⟩
   ·exact ⟨i,hi,(hD i).2 (.inr rfl),(hhi v).2 ⟨by omega,hv⟩⟩
  ·rcases (hD m).1 hd with d1|rfl<;>rcases (hD m').1 hd' with d2|e2
   ·exact h.uni m m' v hm hm' d1 d2 ((hhit m v (hne m d1)).1 h1) ((hhit m' v (hne m' d2)).1 h2)
   ·subst e2
    have a:=(hhit m v (hne m d1)).1 h1
    have b:=(hhi v).1 h2
    have c:=h.cod m hm d1
    unfold hit at a;omega
   ·have a:=(hhit m' v (hne m' d2)).1 h2
    have b:=(hhi v).1 h1
    have c:=h.cod m' hm' d2
    unfold hit at a;omega
   ·exact e2.symm
 ·rw [if_neg e]
  have hD:∀m,Dn l w (i+1) m↔Dn l w i m:=by
   intro m;unfold Dn;constructor
   ·rintro (h|⟨h1,h2⟩)
    ·exact .inl h
    ·refine .inr ⟨h1,?_⟩
     have:m≠i:=by rintro rfl;exact e h1
     omega
   ·rintro (h|⟨h1,h2⟩)
    ·exact .inl h
    ·exact .inr ⟨h1,by omega⟩
  exact ⟨h.len,h.lo,fun m hm hd=>h.cod m hm ((hD m).1 hd),fun v h0 hv=>by
   obtain ⟨m,h1,h2,h3⟩:=h.cov v h0 hv
   exact ⟨m,h1,(hD m).2 h2,h3⟩,fun m m' v hm hm' hd hd'=>h.uni m m' v hm hm' ((hD m).1 hd) ((hD m').1 hd')⟩
end Go.Proofs.YtkckmenalehdpaaDoor


namespace Go.Proofs.YtkckmenalehdpaaDoor
open Go Go.Abs
attribute [local irreducible] WpA WpL Rnd Blk Abs.Seq Abs.Fin Abs.FinG FnC FnG Only
def HasC (l:List Int) (m:Int):Prop:=CodeOk l∧(0≤m∧m≤5)∧l.getD m.toNat 0≠0
instance (l:List Int) (m:Int):Decidable (HasC l m):=by unfold HasC;infer_instance
end Go.Proofs.YtkckmenalehdpaaDoor


namespace Go.Proofs.YtkckmenalehdpaaDoor
open Go Go.Abs
attribute [local irreducible] WpA WpL Rnd Blk Abs.Seq Abs.Fin Abs.FinG FnC FnG Only
end Go.Proofs.YtkckmenalehdpaaDoor


namespace Go.Proofs.YtkckmenalehdpaaDoor
open Go Go.Abs
attribute [local irreducible] WpA WpL Rnd Blk Abs.Seq Abs.Fin Abs.FinG FnC FnG Only
end Go.Proofs.YtkckmenalehdpaaDoor


namespace Go.Proofs.YtkckmenalehdpaaDoor
open Go Go.Abs
attribute [local irreducible] WpA WpL Rnd Blk Abs.Seq Abs.Fin Abs.FinG FnC FnG Only
abbrev HdOk (w h q:Int) (l:List Int):Prop:=SidesOk w h∧(0≤q∧q≤51)∧CodeOk l
instance HeaderOk_s:Con 21 (∀ (w h q:Int) (b d:Bool) (l:List Int),l.length≤1099511627776→Fn 21 [HdA w h q b d l] [] (B (decide (HdOk w h q l)))):=⟨fun w h q b d l hl=>by
 have hs:=stepL_pos q
 refine FnC.of_body tabOk Tryd.func21 Tryd.ntmps21 rfl (by decide +kernel) (by simp) fun G=>?_
 refine go (r:=?_);and_intros<;>intros<;>try exact True.intro
 all_goals simp_all⟩
instance HeaderOk_c:Con 25 (∀ (w h q:Int) (b d:Bool) (l:List Int),l.length≤1099511627776→Fn 25 [HdA w h q b d l] [] (B (decide (HdOk w h q l)))):=⟨fun w h q b d l hl=>by
 refine FnC.of_body tabOk Tryd.func25 Tryd.ntmps25 rfl (by decide +kernel) (by simp) fun G=>?_
 refine go (r:=?_);and_intros<;>intros<;>try exact True.intro
 all_goals simp_all⟩
end Go.Proofs.YtkckmenalehdpaaDoor


namespace Go.Abs
open Go
section
variable {P:Program} {n m:Nat} {G:Ctx} {ops:Array Oper} {T0:List (Nat×AV)} {O:List AObj} {fs fs2 out:List (Nat×AV)} {o:Oper} {l:List Oper} {d:Nat} {F:List (Nat×AV)}
theorem WpA.regionMG {l l1 l2:List Oper} {id:Nat} {T1:List (Nat×AV)} {Q:Exit→St→Prop} (k:Nat) (hm:P.follows .mixedOrders=true) (hB:mixB l.toArray k=true)
 (hl:takeF k l=some l1) (hJ:HeadJ P n m G l.toArray T0 O [] l1 out) (hnd:TrueB (nodupB (out.map (·.1)))) (hfr:TrueB (out.all fun p=>!has T0 p.1))
 (hT1:catF out T0=some T1) (h2:l.drop k=l2) (h:WpL P n m G false l.toArray l2 ⟨T1,O⟩ Q):WpA P n m G (.region id l.toArray true) ⟨T0,O⟩ Q:=by
 have:=takeF_eq hl;subst this;subst h2
 exact WpA.regionM k hm hB hJ hnd.e hfr.e (catF_eq hT1) h
end
end Go.Abs
namespace Go.Abs.K
open Go Go.Abs
section
variable {P:Program} {n m:Nat} {G:Ctx} {ops:Array Oper} {T0:List (Nat×AV)} {O:List AObj} {fs out:List (Nat×AV)} {l:List Oper} {dd:Option Nat} {tt:TypeId} {pos:String} {after:Array Edge} {gd:Option (Nat×Bool)}
end
end Go.Abs.K


namespace Go.Abs
open Go
section
variable {P:Program} {n m:Nat} {G:Ctx} {T:List (Nat×AV)} {O:List AObj} {Q:Exit→St→Prop} {ops:Array Oper} {l:List Oper} {d:Nat} {tt:TypeId} {pos:String} {after:Array Edge}
inductive KeepL:List AV→List AV→Prop
 |nil:KeepL [] []
 |any {V vs us}:KeepL vs us→KeepL (V::vs) (.any::us)
 |keep {V vs us}:V.still=true→V.nofre=true→KeepL vs us→KeepL (V::vs) (V::us)
 |agg {ds es vs us}:KeepL ds es→KeepL vs us→KeepL (.agg ds::vs) (.agg es::us)
theorem KeepL.rel {S:Nat→Prop} {w:World} {ι ι':Nat→Spot} {vs us:List AV} (h:KeepL vs us):∀{xs f},LRel S w ι O vs xs f→LRel S w ι' [] us xs []:=by
 induction h with
 |nil=>intro xs f hl;cases hl;exact .nil
 |any _ ih=>
  intro xs f hl
  obtain ⟨v,vs',f1,f2,rfl,hv,hr,rfl⟩:=hl.uncons
  exact .any (ih hr)
 |keep hs hn _ ih=>
  intro xs f hl
  obtain ⟨v,vs',f1,f2,rfl,hv,hr,rfl⟩:=hl.uncons
  have:=nofre_nil hv hn
  subst this
  have:=LRel.cons (still_any hv hs [] (fun _ h=>h) (fun _ _=>rfl) (by simp)) (ih hr)
  simpa using this
 |agg _ _ ih1 ih2=>
  intro xs f hl
  obtain ⟨v,vs',f1,f2,rfl,hv,hr,rfl⟩:=hl.uncons
  obtain ⟨us',rfl,ha⟩:=LRel.agg_inv hv
  have:=LRel.agg (ih1 ha) (ih2 hr)
  simpa using this
end
theorem Snap.relG {O:List AObj} {S S2:Nat→Prop} {w:World} {ι ι':Nat→Spot} {vs us:List AV} (h:Snap O vs us):∀{F xs f},ORel S w ι O F→(∀ b,S b→S2 b)→(∀ id,id<O.length→∀b∈F id,S2 b)→(∀ b∈f,S2 b)→LRel S w ι O vs xs f→LRel S2 w ι' [] us xs []:=by
 induction h with
 |nil=>intro F xs f _ _ _ _ hl;cases hl;exact .nil
 |any _ ih=>
  intro F xs f ho hS hF hf hl
  obtain ⟨v,vs',f1,f2,rfl,hv,hr,rfl⟩:=hl.uncons
  exact .any (ih ho hS hF (fun b hb=>hf b (List.mem_append_right _ hb)) hr)
 |keep hs hn _ ih=>
  intro F xs f ho hS hF hf hl
  obtain ⟨v,vs',f1,f2,rfl,hv,hr,rfl⟩:=hl.uncons
  have:=nofre_nil hv hn
  subst this
  have:=LRel.cons (still_any hv hs [] hS (fun _ _=>rfl) (by simp)) (ih ho hS hF (fun b hb=>hf b (List.mem_append_right _ hb)) hr)
  simpa using this
 |fn _ _ ih1 ih2=>
  intro F xs f ho hS hF hf hl
  obtain ⟨v,vs',f1,f2,rfl,hv,hr,rfl⟩:=hl.uncons
  cases hv with|fn a r=>cases r;exact .fn (ih1 ho hS hF (by simp) a) (ih2 ho hS hF (fun b hb=>hf b (List.mem_append_right _ hb)) hr)
 |nilI _ ih=>
  intro F xs f ho hS hF hf hl
  obtain ⟨v,vs',f1,f2,rfl,hv,hr,rfl⟩:=hl.uncons
  have:=(LRel.slice_len hv).2.2 rfl
  subst this
  exact .imm0 (by simp) (ih ho hS hF (fun b hb=>hf b (List.mem_append_right _ hb)) hr)
 |@own id ep len len' sz ob es vs us hob hep hsz hlen hll _ _ ih1 ih2=>
  intro F xs f ho hS hF hf hl
  subst hll hsz
  obtain ⟨v,vs',f1,f2,rfl,hv,hr,rfl⟩:=hl.uncons
  have hr2:=ih2 ho hS hF (fun b hb=>hf b (List.mem_append_right _ hb)) hr
  have hidl:=(List.getElem?_eq_some_iff.1 hob).1
  have hoa:=ho.obj id ob hob
  unfold ObjAt at hoa
  cases hv with
  |own q1 q2 q3 r=>
   rw [hob] at q1;cases q1
   have hc:=q3 hep.symm
   cases hs:ι id with
   |none=>
    rw [hs] at hc hoa
    obtain ⟨h1,_,h3⟩:=hc
    subst h1;subst h3
    have:es=[]:=by
     have:=ih1 (xs:=[]) (f:=[]) ho hS hF (by simp) (by rw [hoa.1];exact .nil)
     cases this;rfl
    subst this
    exact .imm0 (by simp) hr2
   |some p=>
    obtain ⟨b,k⟩:=p
    rw [hs] at hc hoa
    obtain ⟨cap,h1,_,h3,h4⟩:=hc
    obtain ⟨cur,t,fz,f',hFe,hh,_,_,_,_,hl'⟩:=hoa
    subst h1
    have hi:=ih1 ho hS hF (fun b' hb'=>hF id hidl b' (by rw [hFe];simp [hb'])) hl'
    refine .imm (us:=cur.toList.take ob.cells.length) (hF id hidl b (by rw [hFe];simp)) (fun i hi=>cell_of_heap hh _ i hi) hi ?_ h3 h4 hr2
    rw [hlen,hl'.len,hi.len]
 |@ownO id ep off len len' sz ob ds es vs us hob hep hsz hds hlen hll _ _ ih1 ih2=>
  intro F xs f ho hS hF hf hl
  subst hll hsz hds
  obtain ⟨v,vs',f1,f2,rfl,hv,hr,rfl⟩:=hl.uncons
  have hr2:=ih2 ho hS hF (fun b hb=>hf b (List.mem_append_right _ hb)) hr
  have hidl:=(List.getElem?_eq_some_iff.1 hob).1
  have hoa:=ho.obj id ob hob
  unfold ObjAt at hoa
  cases hv with
  |own q1 q2 q3 r=>
   rw [hob] at q1;cases q1
   have hc:=q3 hep.symm
   cases hs:ι id with
   |none=>
    rw [hs] at hc hoa
    obtain ⟨h1,h2,h3⟩:=hc
    subst h1;subst h3
    have:es=[]:=by
     have:=ih1 (xs:=[]) (f:=[]) ho hS hF (by simp) (by rw [hoa.1];simpa using .nil)
     cases this;rfl
    subst this
    exact .imm0 (by simp) hr2
   |some p=>
    obtain ⟨b,k⟩:=p
    rw [hs] at hc hoa
    obtain ⟨cap,h1,_,h3,h4⟩:=hc
    obtain ⟨cur,t,fz,f',hFe,hh,_,_,_,_,hl'⟩:=hoa
    subst h1
    obtain ⟨g,hld,hgm,_⟩:=hl'.drop off
    have hi:=ih1 ho hS hF (fun b' hb'=>hF id hidl b' (by rw [hFe];simp [hgm b' hb'])) hld
    refine .imm (us:=(cur.toList.take ob.cells.length).drop off) (hF id hidl b (by rw [hFe];simp)) (fun i hi=>?_) hi ?_ h3 h4 hr2
    ·have:=cell_of_heap hh ob.cells.length (off+i) (by simp only [List.length_drop] at hi;omega)
     rw [Nat.zero_add] at this
     rw [this,List.getElem?_drop]
    ·rw [hlen,hld.len,hi.len]
 |@fre s l ds es vs us _ _ ih1 ih2=>
  intro F xs f ho hS hF hf hl
  obtain ⟨v,vs',f1,f2,rfl,hv,hr,rfl⟩:=hl.uncons
  have hr2:=ih2 ho hS hF (fun b hb=>hf b (List.mem_append_right _ hb)) hr
  cases hv with
  |fre0 r=>
   have:=ih1 (xs:=[]) (f:=[]) ho hS hF (by simp) .nil
   cases this
   exact .imm0 (by simp) hr2
  |@fre _ _ b _ cap cur t fz _ us' f' _ _ _ hh0 hsz hu hl' h1 h2 h3 r=>
   have hh:=hh0.1
   cases r
   have hi:=ih1 ho hS hF (fun b' hb'=>hf b' (by simp [hb'])) hl'.lift
   subst hu
   refine .imm (us:=cur.toList.take ds.length) (hf b (by simp)) (fun i hi=>cell_of_heap hh _ i hi) hi ?_ h2 h3 hr2
   rw [h1,hl'.len,hi.len]
 |@ptr id ep off ob es vs us hob hep _ _ ih1 ih2=>
  intro F xs f ho hS hF hf hl
  obtain ⟨v,vs',f1,f2,rfl,hv,hr,rfl⟩:=hl.uncons
  have hr2:=ih2 ho hS hF (fun b hb=>hf b (List.mem_append_right _ hb)) hr
  have hidl:=(List.getElem?_eq_some_iff.1 hob).1
  have hoa:=ho.obj id ob hob
  unfold ObjAt at hoa
  cases hv with
  |ptr q1 q2 q3 r=>
   rw [hob] at q1;cases q1
   have hc:=q3 hep.symm
   cases hs:ι id with
   |none=>rw [hs] at hc;exact hc.elim
   |some p=>
    obtain ⟨b,k⟩:=p
    rw [hs] at hc hoa
    obtain ⟨cur,t,fz,f',hFe,hh,_,_,_,_,hl'⟩:=hoa
    have h1:_=Value.pointer (some ⟨b,off,none⟩):=hc
    subst h1
    have:=LRel.iptr (O:=[]) (ι:=ι') (off:=off) (S:=S2) (us:=cur.toList.take ob.cells.length) (hF id hidl b (by rw [hFe];simp)) (fun i hi=>cell_of_heap hh _ i hi) (ih1 ho hS hF (fun b' hb'=>hF id hidl b' (by rw [hFe];simp [hb'])) hl') hr2
    rwa [Nat.zero_add] at this
 |agg _ _ ih1 ih2=>
  intro F xs f ho hS hF hf hl
  obtain ⟨v,vs',f1,f2,rfl,hv,hr,rfl⟩:=hl.uncons
  obtain ⟨us',rfl,ha⟩:=LRel.agg_inv hv
  have:=LRel.agg (ih1 ho hS hF (fun b hb=>hf b (List.mem_append_left _ hb)) ha) (ih2 ho hS hF (fun b hb=>hf b (List.mem_append_right _ hb)) hr)
  simpa using this
theorem FnC.still {P:Program} {f:FuncId} {args:List AV} {N:List AObj} {r r':AV} (hc:FnC P f args N r) (hs:Snap N [r] [r']):FnC P f args [] r':=by
 refine ⟨hc.1,fun w S vs hS hg hl=>(hc.2 w S vs hS hg hl).mono fun e w' he=>?_⟩
 obtain ⟨v,S',ι,F,rfl,h1,h2,h3,ho,hF,hv,hk⟩:=he
 refine ⟨v,fun b=>S' b∨∃id,id<N.length∧b∈F id,fun _=>none,fun _=>[],rfl,fun b hb=>.inl (h1 b hb),?_,?_,⟨by simp,by simp,by simp⟩,by simp,?_,hk⟩
 ·rintro b (hb|⟨id,hid,hb⟩)
  ·exact h2 b hb
  ·exact .inr (hF id hid b hb).1
 ·rintro b (hb|⟨id,hid,hb⟩)
  ·exact h3 b hb
  ·exact (hF id hid b hb).2.2
 ·exact hs.relG ho (fun b hb=>.inl hb) (fun id hid b hb=>.inr ⟨id,hid,hb⟩) (by simp) hv
inductive FrzR (N:List AObj):AV→AV→Prop
 |tup {rs rs':List AV}:Snap N rs rs'→FrzR N (.tup rs) (.tup rs')
 |one {r r':AV}:Snap N [r] [r']→FrzR N r r'
theorem FrzR.rel {O:List AObj} {S S2:Nat→Prop} {w:World} {ι ι':Nat→Spot} {F:Nat→List Nat} {r r':AV} {v:Value} (h:FrzR O r r') (ho:ORel S w ι O F) (hS:∀b,S b→S2 b) (hF:∀id,id<O.length→∀b∈F id,S2 b) (hl:VRel S w ι O r v []):VRel S2 w ι' [] r' v []:=by
 cases h with
 |tup hs=>
  obtain ⟨us,rfl,hl'⟩:=LRel.tup_inv hl
  have h9:LRel S2 w ι' [] _ us []:=hs.relG ho hS hF (by simp) hl'
  have:=LRel.tup h9 .nil
  simpa using this
 |one hs=>exact hs.relG ho hS hF (by simp) hl
section
variable {P:Program} {n m:Nat} {G:Ctx} {T:List (Nat×AV)} {O:List AObj} {Q:Exit→St→Prop} {ops:Array Oper} {l:List Oper} {d:Nat} {tt:TypeId} {pos:String} {after:Array Edge}
end
end Go.Abs
