/- Proved in this text: lemmas and contracts of functions that the claim uses (parts: Go). No condition. -/
import Derived.Test.YtainhhfnnclfiaaGreatBsM6
import Derived.Test.YtainhhfnnclfiaaGreatBsM7
set_option linter.unusedVariables false
set_option linter.unusedSimpArgs false
set_option maxRecDepth 100000
set_option maxHeartbeats 16000000


namespace Go.Proofs.YtainhhfnnclfiaaGreat
open Go Go.Abs
theorem mixed:Tryz.prog.follows .mixedOrders=true:=by kernel_rfl
class Con (f:Nat) (C:outParam Prop):Prop where
 ok:C
class ConB (f:Nat) (C:outParam Prop):Prop where
 ok:C
class ConG (f:Nat) (C:outParam Prop):Prop where
 ok:C
class ConP (f:Nat) (C:outParam Prop):Prop where
 ok:C
abbrev Bn (f:Nat) (args:List AV) (p:Prop) (N1:List AObj) (r1:AV) (N0:List AObj) (r0:AV):Prop:=FnB Tryz.prog f args p N1 r1 N0 r0
abbrev Gn (f:Nat) (args:List AV) (M M' N:List AObj) (r:AV):Prop:=FnG Tryz.prog f args M M' N r
abbrev Fn (f:Nat) (args:List AV) (N:List AObj) (r:AV):Prop:=FnC Tryz.prog f args N r
theorem K.con {n m:Nat} {G:Ctx} {σ:St} {Q:Exit→St→Prop} {md:Bool} {ops:Array Oper} {l:List Oper} {dd:Option Nat} {tt:TypeId} {pos:String} {after:Array Edge} {f:Nat} {C:Prop} {xs:Array Operand} {ats:Array TypeId} [i:Con f C]
 (h:C→WpL Tryz.prog n m G md ops ({dst:=dd,op:=.call {callee:=.value (.func f),args:=xs,argTypes:=ats},type:=tt,pos:=pos,after:=after,guard:=none}::l) σ Q):WpL Tryz.prog n m G md ops ({dst:=dd,op:=.call {callee:=.value (.func f),args:=xs,argTypes:=ats},type:=tt,pos:=pos,after:=after,guard:=none}::l) σ Q:=h i.ok
theorem K.conV {n m:Nat} {G:Ctx} {σ:St} {Q:Exit→St→Prop} {md:Bool} {ops:Array Oper} {l:List Oper} {dd:Option Nat} {tt:TypeId} {pos:String} {after:Array Edge} {f:Nat} {C:Prop} {t:Nat} {caps:List AV} {xs:Array Operand} {ats:Array TypeId} (hx:av σ.T (.tmp t)=.fn f caps) [i:Con f C]
 (h:C→WpL Tryz.prog n m G md ops ({dst:=dd,op:=.call {callee:=.value (.tmp t),args:=xs,argTypes:=ats},type:=tt,pos:=pos,after:=after,guard:=none}::l) σ Q):WpL Tryz.prog n m G md ops ({dst:=dd,op:=.call {callee:=.value (.tmp t),args:=xs,argTypes:=ats},type:=tt,pos:=pos,after:=after,guard:=none}::l) σ Q:=h i.ok
theorem K.conG {n m:Nat} {G:Ctx} {σ:St} {Q:Exit→St→Prop} {md:Bool} {ops:Array Oper} {l:List Oper} {dd:Option Nat} {tt:TypeId} {pos:String} {after:Array Edge} {f:Nat} {C:Prop} {xs:Array Operand} {ats:Array TypeId} [i:ConG f C]
 (h:C→WpL Tryz.prog n m G md ops ({dst:=dd,op:=.call {callee:=.value (.func f),args:=xs,argTypes:=ats},type:=tt,pos:=pos,after:=after,guard:=none}::l) σ Q):WpL Tryz.prog n m G md ops ({dst:=dd,op:=.call {callee:=.value (.func f),args:=xs,argTypes:=ats},type:=tt,pos:=pos,after:=after,guard:=none}::l) σ Q:=h i.ok
theorem K.conB {n m:Nat} {G:Ctx} {σ:St} {Q:Exit→St→Prop} {md:Bool} {ops:Array Oper} {l:List Oper} {dd:Option Nat} {tt:TypeId} {pos:String} {after:Array Edge} {f:Nat} {C:Prop} {xs:Array Operand} {ats:Array TypeId} [i:ConB f C]
 (h:C→WpL Tryz.prog n m G md ops ({dst:=dd,op:=.call {callee:=.value (.func f),args:=xs,argTypes:=ats},type:=tt,pos:=pos,after:=after,guard:=none}::l) σ Q):WpL Tryz.prog n m G md ops ({dst:=dd,op:=.call {callee:=.value (.func f),args:=xs,argTypes:=ats},type:=tt,pos:=pos,after:=after,guard:=none}::l) σ Q:=h i.ok
theorem K.conP {n m:Nat} {G:Ctx} {σ:St} {Q:Exit→St→Prop} {md:Bool} {ops:Array Oper} {l:List Oper} {dd:Option Nat} {tt:TypeId} {pos:String} {after:Array Edge} {f:Nat} {C:Prop} {xs:Array Operand} {ats:Array TypeId} [i:ConP f C]
 (h:C→WpL Tryz.prog n m G md ops ({dst:=dd,op:=.call {callee:=.value (.func f),args:=xs,argTypes:=ats},type:=tt,pos:=pos,after:=after,guard:=none}::l) σ Q):WpL Tryz.prog n m G md ops ({dst:=dd,op:=.call {callee:=.value (.func f),args:=xs,argTypes:=ats},type:=tt,pos:=pos,after:=after,guard:=none}::l) σ Q:=h i.ok
theorem snapA {O:List AObj} {vs us:List AV} (h:Snap O vs us:=by
 (repeat' (first
 |exact Snap.nil
 |refine Snap.fn ?_ ?_
 |refine Snap.keep rfl rfl ?_
 |refine Snap.ownL rfl rfl rfl ?_ ?_ ?_ ?_
 |refine Snap.agg ?_ ?_
 |refine Snap.nilI ?_
 |refine Snap.fre ?_ ?_
 |refine Snap.ptr rfl rfl ?_ ?_
 |exact Snap.same rfl (still_ints _) (nofre_ints _)
 |exact Snap.same rfl (still_u8s _) (nofre_u8s _)
 |exact Snap.same rfl (still_strs _) (nofre_strs _)
 |exact Snap.same rfl (still_bools _) (nofre_bools _)
 |exact Snap.rows snap_blk _
 |exact Snap.rows snap_mb _
 |exact Snap.rows snap_fr _
 |exact Snap.rows snap_li _
 |exact Snap.same rfl (still_rows (fun _=>rfl) _) (nofre_rows (fun _=>rfl) _)
 |(apply K.eq;first|exact rfl|omega|(simp;done)|(simp;omega))
 ));first|done|fail):Snap O vs us:=h
theorem locA {vs:List AV} (h:Abs.Loc vs:=by
 (repeat' (first
 |exact Loc.nil
 |refine Loc.sc ?_
 |refine Loc.own ?_
 |refine Loc.nilS ?_
 |refine Loc.imm0 ?_
 |refine Loc.agg ?_ ?_
 |refine Loc.tup ?_ ?_
 ));first|done|fail):Abs.Loc vs:=h
theorem outA {N:List AObj} (h:Out N:=by
 (repeat' (first
 |exact Out.nil
 |refine Out.cons (still_ints _) (Loc.ints _) ?_
 |refine Out.cons (still_u8s _) (Loc.u8s _) ?_
 |refine Out.cons (still_strs _) (Loc.strs _) ?_
 |refine Out.cons (still_bools _) (Loc.bools _) ?_
 |refine Out.cons (still_rows (fun _=>rfl) _) (Loc.rows loc_pr _) ?_
 |refine Out.cons (still_rows (fun _=>rfl) _) (Loc.rows loc_blk _) ?_
 |refine Out.cons (still_rows (fun _=>rfl) _) (Loc.rows loc_mb _) ?_
 |refine Out.cons (still_rows (fun _=>rfl) _) (Loc.rows loc_fr _) ?_
 |refine Out.cons (still_rows (fun _=>rfl) _) (Loc.rows loc_pl _) ?_
 |refine Out.cons (still_rows (fun _=>rfl) _) (Loc.rows loc_li _) ?_
 |refine Out.cons rfl (by repeat' (first|exact Loc.nil|refine Loc.sc ?_|refine Loc.nilS ?_|refine Loc.fre ?_ ?_|exact Loc.ints _|exact Loc.u8s _|exact Loc.bools _|exact Loc.strs _);first|done|fail) ?_
 ));first|done|fail):Out N:=h
theorem snapXA {O:List AObj} {hs:List Nat} {vs us:List AV} (h:SnapX O hs vs us:=by
 (repeat' (first
 |exact SnapX.nil
 |refine SnapX.fn ?_ ?_
 |refine SnapX.keep rfl rfl ?_
 |refine SnapX.ownL rfl rfl rfl rfl ?_ ?_ ?_ ?_
 |refine SnapX.agg ?_ ?_
 |refine SnapX.nilI ?_
 |refine SnapX.fre ?_ ?_
 |refine SnapX.ptr rfl rfl rfl ?_ ?_
 |exact SnapX.of0 (Snap.same rfl (still_ints _) (nofre_ints _))
 |exact SnapX.of0 (Snap.same rfl (still_u8s _) (nofre_u8s _))
 |exact SnapX.of0 (Snap.same rfl (still_strs _) (nofre_strs _))
 |exact SnapX.of0 (Snap.same rfl (still_bools _) (nofre_bools _))
 |exact SnapX.of0 (Snap.rows snap_blk _)
 |exact SnapX.of0 (Snap.rows snap_mb _)
 |exact SnapX.of0 (Snap.rows snap_fr _)
 |exact SnapX.of0 (Snap.rows snap_li _)
 |exact SnapX.of0 (Snap.same rfl (still_rows (fun _=>rfl) _) (nofre_rows (fun _=>rfl) _))
 |(apply K.eq;first|exact rfl|omega|(simp;done)|(simp;omega))
 ));first|done|fail):SnapX O hs vs us:=h
theorem handA {O:List AObj} {hs:List Nat} {M:List AObj} {vs us:List AV} (h:HandM O hs M vs us:=by
 (repeat' (first
 |exact HandM.nil
 |refine HandM.keep rfl rfl ?_
 |refine HandM.own rfl rfl rfl rfl rfl (by first|rfl|omega|(simp;done)|(simp;omega)) ?_
 |refine HandM.ptr rfl rfl rfl rfl rfl ?_
 |refine HandM.agg ?_ ?_
 |refine HandM.snap snapXA ?_
 ));first|done|fail):HandM O hs M vs us:=h
theorem handOA {O:List AObj} {hs:List Nat} {M:List AObj} (h:HandO O hs M:=by
 (repeat' (first
 |exact HandO.nil
 |refine HandO.cons rfl rfl (still_ints _) rfl rfl (by first|exact .inl rfl|exact .inr rfl) ?_
 |refine HandO.cons rfl rfl (still_strs _) rfl rfl (by first|exact .inl rfl|exact .inr rfl) ?_
 |refine HandO.cons rfl rfl (still_bools _) rfl rfl (by first|exact .inl rfl|exact .inr rfl) ?_
 |refine HandO.cons rfl rfl (still_u8s _) rfl rfl (by first|exact .inl rfl|exact .inr rfl) ?_
 |refine HandO.cons rfl rfl (still_rows (fun _=>rfl) _) rfl rfl (by first|exact .inl rfl|exact .inr rfl) ?_
 |refine HandO.cons rfl rfl rfl rfl rfl (by first|exact .inl rfl|exact .inr rfl) ?_
 ));first|done|fail):HandO O hs M:=h
theorem in0 {X:Prop} (h:X:=by
 (repeat' (first
  |refine fun hgo=>?_
  |exact Only.mk rfl
  |refine WpL.nil ?_
  |(refine K.L ?_;first
   |(refine K.mv ?_;refine WpL.move rfl (by decide) ?_)
   |(refine K.asg ?_;refine WpL.assign rfl (by decide) ?_)
   |(refine K.bin ?_;first
    |refine WpL.add rfl rfl (by omega) (by decide) ?_
    |refine WpL.sub rfl rfl (by omega) (by decide) ?_
    |refine WpL.mul rfl rfl (by first|omega|exact mul_in (by omega) (by omega)|assumption) (by decide) ?_
    |refine WpL.quo rfl rfl (by omega) (by decide) ?_
    |refine WpL.rem rfl rfl (by omega) (by decide) ?_
    |refine WpL.bin rfl rfl rfl (by decide) ?_
    |refine WpL.strNe rfl rfl (by decide) ?_
    |refine WpL.nilEq (TabOk.slice tabOk rfl).1 rfl rfl (by decide) ?_
    |refine WpL.immEq (TabOk.slice tabOk rfl).1 rfl rfl (by decide) (fun hgo=>?_) ?_
    |refine WpL.ownEq (TabOk.slice tabOk rfl).1 rfl rfl rfl (by first|rfl|omega|(simp;done)|(simp;omega)) rfl (by decide) ?_
    |refine WpL.shl rfl rfl (by first|decide|(simp only [IntKind.bits];omega)) (by decide) ?_
    |refine WpL.shr rfl rfl (by first|decide|(simp only [IntKind.bits];omega)) (by decide) ?_)
   |(refine K.ld ?_;first
    |refine WpL.loadInts tabOk rfl rfl rfl (by first|omega|(simp;omega)) (by decide) ?_
    |refine WpL.loadU8s tabOk rfl rfl rfl (by first|omega|(simp;omega)) (by decide) ?_
    |refine WpL.loadStrs tabOk rfl rfl rfl (by first|omega|(simp;omega)) (by decide) ?_
    |refine WpL.loadBools tabOk rfl rfl rfl (by first|omega|(simp;omega)) (by decide) ?_
    |refine WpL.loadRow tabOk rfl rfl (fun _=>rfl) (fun _=>rfl) (by first|rfl|omega|(simp;done)|(simp;omega)) (by decide) rfl ?_
    |refine WpL.loadField tabOk rfl rfl rfl (fun _=>rfl) rfl rfl (by first|rfl|omega|(simp;done)|(simp;omega)) (by decide) ?_
    |refine WpL.load1 tabOk rfl rfl rfl rfl rfl (by decide) ?_
    |refine WpL.loadAgg (ds:=[_]) tabOk rfl rfl rfl rfl rfl (by decide) ?_
    |refine WpL.loadAgg (ds:=[_,_]) tabOk rfl rfl rfl rfl rfl (by decide) ?_
    |refine WpL.loadAgg (ds:=[_,_,_]) tabOk rfl rfl rfl rfl rfl (by decide) ?_
    |refine WpL.loadAgg (ds:=[_,_,_,_]) tabOk rfl rfl rfl rfl rfl (by decide) ?_
    |refine WpL.loadAgg (ds:=[_,_,_,_,_]) tabOk rfl rfl rfl rfl rfl (by decide) ?_
    |refine WpL.loadAgg (ds:=[_,_,_,_,_,_]) tabOk rfl rfl rfl rfl rfl (by decide) ?_
    |refine WpL.loadAgg (ds:=[_,_,_,_,_,_,_]) tabOk rfl rfl rfl rfl rfl (by decide) ?_
    |refine WpL.loadAgg (ds:=[_,_,_,_,_,_,_,_]) tabOk rfl rfl rfl rfl rfl (by decide) ?_
    |refine WpL.loadLi tabOk rfl rfl rfl (by first|rfl|omega|(simp;done)|(simp;omega)) (by decide) ?_
    |refine WpL.loadSlot tabOk rfl rfl rfl rfl (by first|rfl|omega|(simp;done)|(simp;omega)) (by first|omega|(simp;omega)|(simp;done)) rfl (by decide) ?_)
   |(refine K.fld ?_;first
    |refine WpL.fieldI tabOk rfl rfl rfl (by decide) ?_
    |refine WpL.fieldP tabOk rfl rfl rfl rfl rfl (by decide) ?_)
   |(refine K.ixa ?_;first
    |refine WpL.idxI1 tabOk rfl rfl rfl (by omega) (by decide) ?_
    |refine WpL.idxIJ tabOk rfl rfl rfl (by omega) (by decide) ?_
    |refine WpL.idxOJ tabOk rfl rfl rfl rfl rfl (by omega) (by decide) ?_
    |refine WpL.idxIN tabOk rfl rfl rfl (by omega) (by decide) ?_
    |refine WpL.idxI tabOk rfl rfl rfl (by omega) (by decide) ?_
    |refine WpL.idxO tabOk rfl rfl rfl rfl rfl (by omega) (by decide) ?_)
   |(refine K.call ?_;refine K.con (fun hcon=>?_);first
    |(refine WpL.call0 (hcon ?_) snapA locA rfl rfl (by decide) ?_<;>clear hcon)
    |(refine WpL.call0 (hcon) snapA locA rfl rfl (by decide) ?_<;>clear hcon)
    |(refine WpL.call0 (hcon _ ?_) snapA locA rfl rfl (by decide) ?_<;>clear hcon)
    |(refine WpL.call0 (hcon _) snapA locA rfl rfl (by decide) ?_<;>clear hcon)
    |(refine WpL.call0 (hcon _ _ ?_) snapA locA rfl rfl (by decide) ?_<;>clear hcon)
    |(refine WpL.call0 (hcon _ _) snapA locA rfl rfl (by decide) ?_<;>clear hcon)
    |(refine WpL.call0 (hcon _ _ _ ?_) snapA locA rfl rfl (by decide) ?_<;>clear hcon)
    |(refine WpL.call0 (hcon _ _ _) snapA locA rfl rfl (by decide) ?_<;>clear hcon)
    |(refine WpL.call0 (hcon _ _ _ _ ?_) snapA locA rfl rfl (by decide) ?_<;>clear hcon)
    |(refine WpL.call0 (hcon _ _ _ _) snapA locA rfl rfl (by decide) ?_<;>clear hcon)
    |(refine WpL.call0 (hcon _ _ _ _ _ ?_) snapA locA rfl rfl (by decide) ?_<;>clear hcon)
    |(refine WpL.call0 (hcon _ _ _ _ _) snapA locA rfl rfl (by decide) ?_<;>clear hcon)
    |(refine WpL.call0 (hcon _ _ _ _ _ _ ?_) snapA locA rfl rfl (by decide) ?_<;>clear hcon)
    |(refine WpL.call0 (hcon _ _ _ _ _ _) snapA locA rfl rfl (by decide) ?_<;>clear hcon)
    |(refine WpL.call0 (hcon _ _ _ _ _ _ _ ?_) snapA locA rfl rfl (by decide) ?_<;>clear hcon)
    |(refine WpL.call0 (hcon _ _ _ _ _ _ _) snapA locA rfl rfl (by decide) ?_<;>clear hcon)
    |(refine WpL.call0 (hcon _ _ _ _ _ _ _ _ ?_) snapA locA rfl rfl (by decide) ?_<;>clear hcon)
    |(refine WpL.call0 (hcon _ _ _ _ _ _ _ _) snapA locA rfl rfl (by decide) ?_<;>clear hcon)
    |(refine WpL.call0 (hcon _ _ _ _ _ _ _ _ _ ?_) snapA locA rfl rfl (by decide) ?_<;>clear hcon)
    |(refine WpL.call0 (hcon _ _ _ _ _ _ _ _ _) snapA locA rfl rfl (by decide) ?_<;>clear hcon)
    |(refine WpL.call0 (hcon _ _ _ _ _ _ _ _ _ _ ?_) snapA locA rfl rfl (by decide) ?_<;>clear hcon)
    |(refine WpL.call0 (hcon _ _ _ _ _ _ _ _ _ _) snapA locA rfl rfl (by decide) ?_<;>clear hcon)
    |(refine WpL.call0 (hcon _ _ _ _ _ _ _ _ _ _ _ ?_) snapA locA rfl rfl (by decide) ?_<;>clear hcon)
    |(refine WpL.call0 (hcon _ _ _ _ _ _ _ _ _ _ _) snapA locA rfl rfl (by decide) ?_<;>clear hcon)
    |(refine WpL.call0 (hcon _ _ _ _ _ _ _ _ _ _ _ _ ?_) snapA locA rfl rfl (by decide) ?_<;>clear hcon)
    |(refine WpL.call0 (hcon _ _ _ _ _ _ _ _ _ _ _ _) snapA locA rfl rfl (by decide) ?_<;>clear hcon)
    |(refine WpL.call0 (hcon _ _ _ _ _ _ _ _ _ _ _ _ _ ?_) snapA locA rfl rfl (by decide) ?_<;>clear hcon)
    |(refine WpL.call0 (hcon _ _ _ _ _ _ _ _ _ _ _ _ _) snapA locA rfl rfl (by decide) ?_<;>clear hcon)
    |(refine WpL.call0 (hcon _ _ _ _ _ _ _ _ _ _ _ _ _ _ ?_) snapA locA rfl rfl (by decide) ?_<;>clear hcon)
    |(refine WpL.call0 (hcon _ _ _ _ _ _ _ _ _ _ _ _ _ _) snapA locA rfl rfl (by decide) ?_<;>clear hcon)
    |(refine WpL.call0 (hcon _ _ _ _ _ _ _ _ _ _ _ _ _ _ _ ?_) snapA locA rfl rfl (by decide) ?_<;>clear hcon)
    |(refine WpL.call0 (hcon _ _ _ _ _ _ _ _ _ _ _ _ _ _ _) snapA locA rfl rfl (by decide) ?_<;>clear hcon)
    |(refine WpL.call0 (hcon _ _ _ _ _ _ _ _ _ _ _ _ _ _ _ _ ?_) snapA locA rfl rfl (by decide) ?_<;>clear hcon)
    |(refine WpL.call0 (hcon _ _ _ _ _ _ _ _ _ _ _ _ _ _ _ _) snapA locA rfl rfl (by decide) ?_<;>clear hcon)
    |(refine WpL.call0 (hcon _ _ _ _ _ _ _ _ _ _ _ _ _ _ _ _ _ ?_) snapA locA rfl rfl (by decide) ?_<;>clear hcon)
    |(refine WpL.call0 (hcon _ _ _ _ _ _ _ _ _ _ _ _ _ _ _ _ _) snapA locA rfl rfl (by decide) ?_<;>clear hcon)
    |(refine WpL.call0 (hcon _ _ _ _ _ _ _ _ _ _ _ _ _ _ _ _ _ _ ?_) snapA locA rfl rfl (by decide) ?_<;>clear hcon)
    |(refine WpL.call0 (hcon _ _ _ _ _ _ _ _ _ _ _ _ _ _ _ _ _ _) snapA locA rfl rfl (by decide) ?_<;>clear hcon))
   |(refine K.callT ?_;refine K.conV rfl (fun hcon=>?_);first
    |(refine WpL.callV0 rfl (hcon ?_) rfl snapA locA rfl rfl (by decide) ?_<;>clear hcon)
    |(refine WpL.callV0 rfl (hcon) rfl snapA locA rfl rfl (by decide) ?_<;>clear hcon)
    |(refine WpL.callV0 rfl (hcon _ ?_) rfl snapA locA rfl rfl (by decide) ?_<;>clear hcon)
    |(refine WpL.callV0 rfl (hcon _) rfl snapA locA rfl rfl (by decide) ?_<;>clear hcon)
    |(refine WpL.callV0 rfl (hcon _ _ ?_) rfl snapA locA rfl rfl (by decide) ?_<;>clear hcon)
    |(refine WpL.callV0 rfl (hcon _ _) rfl snapA locA rfl rfl (by decide) ?_<;>clear hcon)
    |(refine WpL.callV0 rfl (hcon _ _ _ ?_) rfl snapA locA rfl rfl (by decide) ?_<;>clear hcon)
    |(refine WpL.callV0 rfl (hcon _ _ _) rfl snapA locA rfl rfl (by decide) ?_<;>clear hcon)
    |(refine WpL.callV0 rfl (hcon _ _ _ _ ?_) rfl snapA locA rfl rfl (by decide) ?_<;>clear hcon)
    |(refine WpL.callV0 rfl (hcon _ _ _ _) rfl snapA locA rfl rfl (by decide) ?_<;>clear hcon)
    |(refine WpL.callV0 rfl (hcon _ _ _ _ _ ?_) rfl snapA locA rfl rfl (by decide) ?_<;>clear hcon)
    |(refine WpL.callV0 rfl (hcon _ _ _ _ _) rfl snapA locA rfl rfl (by decide) ?_<;>clear hcon)
    |(refine WpL.callV0 rfl (hcon _ _ _ _ _ _ ?_) rfl snapA locA rfl rfl (by decide) ?_<;>clear hcon)
    |(refine WpL.callV0 rfl (hcon _ _ _ _ _ _) rfl snapA locA rfl rfl (by decide) ?_<;>clear hcon)
    |(refine WpL.callV0 rfl (hcon _ _ _ _ _ _ _ ?_) rfl snapA locA rfl rfl (by decide) ?_<;>clear hcon)
    |(refine WpL.callV0 rfl (hcon _ _ _ _ _ _ _) rfl snapA locA rfl rfl (by decide) ?_<;>clear hcon)
    |(refine WpL.callV0 rfl (hcon _ _ _ _ _ _ _ _ ?_) rfl snapA locA rfl rfl (by decide) ?_<;>clear hcon)
    |(refine WpL.callV0 rfl (hcon _ _ _ _ _ _ _ _) rfl snapA locA rfl rfl (by decide) ?_<;>clear hcon)
    |(refine WpL.callV0 rfl (hcon _ _ _ _ _ _ _ _ _ ?_) rfl snapA locA rfl rfl (by decide) ?_<;>clear hcon)
    |(refine WpL.callV0 rfl (hcon _ _ _ _ _ _ _ _ _) rfl snapA locA rfl rfl (by decide) ?_<;>clear hcon)
    |(refine WpL.callV0 rfl (hcon _ _ _ _ _ _ _ _ _ _ ?_) rfl snapA locA rfl rfl (by decide) ?_<;>clear hcon)
    |(refine WpL.callV0 rfl (hcon _ _ _ _ _ _ _ _ _ _) rfl snapA locA rfl rfl (by decide) ?_<;>clear hcon)
    |(refine WpL.callV0 rfl (hcon _ _ _ _ _ _ _ _ _ _ _ ?_) rfl snapA locA rfl rfl (by decide) ?_<;>clear hcon)
    |(refine WpL.callV0 rfl (hcon _ _ _ _ _ _ _ _ _ _ _) rfl snapA locA rfl rfl (by decide) ?_<;>clear hcon)
    |(refine WpL.callV0 rfl (hcon _ _ _ _ _ _ _ _ _ _ _ _ ?_) rfl snapA locA rfl rfl (by decide) ?_<;>clear hcon)
    |(refine WpL.callV0 rfl (hcon _ _ _ _ _ _ _ _ _ _ _ _) rfl snapA locA rfl rfl (by decide) ?_<;>clear hcon))
   |(refine K.mkF ?_;refine WpL.makeFunc rfl (by decide) ?_)
   |(refine K.bi ?_;first
    |(refine K.blen ?_;first
     |refine WpL.lenImm (TabOk.slice tabOk rfl).1 rfl (by decide) ?_
     |refine WpL.lenOwn (TabOk.slice tabOk rfl).1 rfl rfl rfl (by decide) ?_)
    |(refine K.bapp ?_;first
     |refine WpL.app1Ints tabOk rfl rfl rfl (by first|exact Nat.zero_le _|exact Nat.le_of_ble_eq_true rfl) rfl rfl (by first|rfl|omega|(simp;done)|(simp;omega)) (by omega) (by decide) ?_
     |refine WpL.appInts tabOk rfl rfl rfl (by first|exact Nat.zero_le _|exact Nat.le_of_ble_eq_true rfl) rfl rfl (by first|rfl|omega|(simp;done)|(simp;omega)) (by first|rfl|omega|(simp;done)|(simp;omega)) (by omega) (by decide) ?_
     |refine WpL.nil1Ints tabOk rfl rfl rfl rfl (by omega) rfl (by decide) ?_
     |refine WpL.appRow (f:=prF) (v:=(_,_)) tabOk rfl rfl rfl (by first|exact Nat.zero_le _|exact Nat.le_of_ble_eq_true rfl) rfl rfl (fun _=>rfl) rfl rfl (by first|rfl|omega|(simp;done)|(simp;omega)) (by omega) (by decide) ?_
     |refine WpL.appRow (f:=plF) (v:=(_,_,_)) tabOk rfl rfl rfl (by first|exact Nat.zero_le _|exact Nat.le_of_ble_eq_true rfl) rfl rfl (fun _=>rfl) rfl rfl (by first|rfl|omega|(simp;done)|(simp;omega)) (by omega) (by decide) ?_
     |refine WpL.appOwn tabOk rfl rfl rfl rfl rfl rfl (by simp) (by first|exact Nat.zero_le _|exact Nat.le_of_ble_eq_true rfl) rfl rfl (by simp) (by simp [all_ints,all_u8s,all_strs,oneB,Value.oneCell']) (by omega) (by decide) ?_
     |refine WpL.appNil tabOk rfl rfl rfl rfl (by simp) (by simp [all_ints,all_u8s,all_strs,oneB,Value.oneCell']) (by omega) rfl (by decide) ?_)
    |refine WpL.min2 rfl rfl (by decide) ?_
    |refine WpL.max2 rfl rfl (by decide) ?_)
   |(refine K.un ?_;first
    |refine WpL.not rfl (by decide) ?_
    |refine WpL.neg rfl (by omega) (by decide) ?_)
   |(refine K.pick ?_;first
    |refine WpL.pickT rfl rfl (by decide) ?_
    |refine WpL.pickF rfl rfl (by decide) ?_)
   |(refine K.bld ?_;refine WpL.build tabOk rfl rfl (by kernel_rfl) (by decide) ?_)
   |(refine K.ext ?_;refine WpL.extract rfl rfl (by first|decide|simp [AV.shL]) (by decide) ?_)
   |(refine K.cv ?_;first
    |refine WpL.conv (P:=Tryz.prog) (by rfl) (K.tyInt tabOk rfl) rfl (by decide) ?_)
   |(refine K.lit ?_;first
    |refine WpL.lit0Ints tabOk rfl rfl rfl (by decide) ?_
    |refine WpL.litInts tabOk rfl rfl rfl rfl rfl (by decide) rfl (by decide) ?_
    |refine WpL.litStrs tabOk rfl rfl rfl rfl rfl (by decide) rfl (by decide) ?_
    |(apply WpL.litLis tabOk
      ·exact rfl
      ·exact rfl
      ·exact rfl
      ·exact rfl
      ·decide
      ·exact rfl
      ·exact rfl
      ·exact rfl
      ·decide
      ·repeat' (first
        |exact NestC.nil
        |(apply NestC.cons
          ·exact rfl
          ·exact rfl
          ·exact rfl
          ·exact rfl
          ·first|exact Nat.zero_le _|exact Nat.le_of_ble_eq_true rfl
          ·exact rfl
          ·first|rfl|exact still_ints _
          ·first|rfl|simp
          ·exact rfl))
      ·exact rfl
      ·exact rfl)
    |refine WpL.litF tabOk rfl rfl rfl rfl (by decide) rfl (by decide) ?_)
   |(refine K.ms ?_;first
    |refine WpL.makeInts tabOk rfl rfl rfl (by omega) (by omega) rfl (by decide) ?_)
   |(refine K.st ?_;first
    |refine WpL.storeInts tabOk rfl rfl rfl rfl rfl (by first|omega|(simp;omega)) ?_
    |refine WpL.storeSlot tabOk rfl rfl rfl rfl rfl rfl (by first|rfl|omega|(simp;done)|(simp;omega)) (by first|omega|(simp;omega)|(simp;done)) ?_
    |refine WpL.storeS tabOk rfl rfl rfl rfl rfl rfl rfl rfl (by first|decide|omega|(simp;omega)|(simp;done)) (by first|(simp only [Go.Abs.setL,List.set_cons_zero,List.set_cons_succ,Nat.zero_add,Nat.reduceAdd];exact rfl)|exact rfl) ?_)
   |(refine K.all ?_;first
    |refine WpL.allocStruct tabOk rfl rfl (by decide) ?_
    |refine WpL.allocPlain tabOk rfl rfl rfl (by decide) ?_)
   |(refine K.box ?_;refine WpL.box rfl rfl rfl (by decide) ?_)
   |(refine K.nc ?_;first
    |refine WpL.nilCheckP rfl rfl rfl (by decide) ?_)
   |(refine K.sl ?_;first
    |refine WpL.subIntsHi tabOk rfl rfl rfl (by first|rfl|omega|(simp;done)|(simp;omega)) (by omega) (by decide) ?_
    |refine WpL.subImm tabOk rfl rfl (by first|exact .inl ⟨rfl,rfl⟩|exact .inr ⟨_,_,rfl,rfl⟩) (by first|exact .inl ⟨rfl,rfl⟩|exact .inr ⟨_,_,rfl,rfl⟩) (by omega) (by decide) ?_))
  |(refine K.le ?_;first|omega|(simp;omega)|assumption)
  |(refine K.lt ?_;first|omega|(simp;omega)|assumption)
  |refine And.intro ?_ ?_
  |omega
  |assumption
  |(simp;done)))
 first|done|fail):X:=h
theorem in1 {X:Prop} (h:X:=by
 (repeat' (first
  |refine fun hgo=>?_
  |exact Only.mk rfl
  |refine WpL.nil ?_
  |(refine K.L ?_;first
   |(refine K.mv ?_;refine WpL.move rfl (by decide) ?_)
   |(refine K.asg ?_;refine WpL.assign rfl (by decide) ?_)
   |(refine K.bin ?_;first
    |refine WpL.add rfl rfl (by omega) (by decide) ?_
    |refine WpL.sub rfl rfl (by omega) (by decide) ?_
    |refine WpL.mul rfl rfl (by first|omega|exact mul_in (by omega) (by omega)|assumption) (by decide) ?_
    |refine WpL.quo rfl rfl (by omega) (by decide) ?_
    |refine WpL.rem rfl rfl (by omega) (by decide) ?_
    |refine WpL.bin rfl rfl rfl (by decide) ?_
    |refine WpL.strNe rfl rfl (by decide) ?_
    |refine WpL.nilEq (TabOk.slice tabOk rfl).1 rfl rfl (by decide) ?_
    |refine WpL.immEq (TabOk.slice tabOk rfl).1 rfl rfl (by decide) (fun hgo=>?_) ?_
    |refine WpL.ownEq (TabOk.slice tabOk rfl).1 rfl rfl rfl (by first|rfl|omega|(simp;done)|(simp;omega)) rfl (by decide) ?_
    |refine WpL.shl rfl rfl (by first|decide|(simp only [IntKind.bits];omega)) (by decide) ?_
    |refine WpL.shr rfl rfl (by first|decide|(simp only [IntKind.bits];omega)) (by decide) ?_)
   |(refine K.ld ?_;first
    |refine WpL.loadInts tabOk rfl rfl rfl (by first|omega|(simp;omega)) (by decide) ?_
    |refine WpL.loadU8s tabOk rfl rfl rfl (by first|omega|(simp;omega)) (by decide) ?_
    |refine WpL.loadStrs tabOk rfl rfl rfl (by first|omega|(simp;omega)) (by decide) ?_
    |refine WpL.loadBools tabOk rfl rfl rfl (by first|omega|(simp;omega)) (by decide) ?_
    |refine WpL.loadRow tabOk rfl rfl (fun _=>rfl) (fun _=>rfl) (by first|rfl|omega|(simp;done)|(simp;omega)) (by decide) rfl ?_
    |refine WpL.loadField tabOk rfl rfl rfl (fun _=>rfl) rfl rfl (by first|rfl|omega|(simp;done)|(simp;omega)) (by decide) ?_
    |refine WpL.loadOwn tabOk rfl rfl rfl rfl (fun _=>rfl) rfl (by first|rfl|omega|(simp;done)|(simp;omega)) (by decide) rfl ?_
    |refine WpL.load1 tabOk rfl rfl rfl rfl rfl (by decide) ?_
    |refine WpL.loadAgg (ds:=[_]) tabOk rfl rfl rfl rfl rfl (by decide) ?_
    |refine WpL.loadAgg (ds:=[_,_]) tabOk rfl rfl rfl rfl rfl (by decide) ?_
    |refine WpL.loadAgg (ds:=[_,_,_]) tabOk rfl rfl rfl rfl rfl (by decide) ?_
    |refine WpL.loadAgg (ds:=[_,_,_,_]) tabOk rfl rfl rfl rfl rfl (by decide) ?_
    |refine WpL.loadAgg (ds:=[_,_,_,_,_]) tabOk rfl rfl rfl rfl rfl (by decide) ?_
    |refine WpL.loadAgg (ds:=[_,_,_,_,_,_]) tabOk rfl rfl rfl rfl rfl (by decide) ?_
    |refine WpL.loadAgg (ds:=[_,_,_,_,_,_,_]) tabOk rfl rfl rfl rfl rfl (by decide) ?_
    |refine WpL.loadAgg (ds:=[_,_,_,_,_,_,_,_]) tabOk rfl rfl rfl rfl rfl (by decide) ?_
    |refine WpL.loadLi tabOk rfl rfl rfl (by first|rfl|omega|(simp;done)|(simp;omega)) (by decide) ?_
    |refine WpL.loadSlot tabOk rfl rfl rfl rfl (by first|rfl|omega|(simp;done)|(simp;omega)) (by first|omega|(simp;omega)|(simp;done)) rfl (by decide) ?_)
   |(refine K.fld ?_;first
    |refine WpL.fieldI tabOk rfl rfl rfl (by decide) ?_
    |refine WpL.fieldP tabOk rfl rfl rfl rfl rfl (by decide) ?_)
   |(refine K.ixa ?_;first
    |refine WpL.idxI1 tabOk rfl rfl rfl (by omega) (by decide) ?_
    |refine WpL.idxIJ tabOk rfl rfl rfl (by omega) (by decide) ?_
    |refine WpL.idxOJ tabOk rfl rfl rfl rfl rfl (by omega) (by decide) ?_
    |refine WpL.idxIN tabOk rfl rfl rfl (by omega) (by decide) ?_
    |refine WpL.idxI tabOk rfl rfl rfl (by omega) (by decide) ?_
    |refine WpL.idxO tabOk rfl rfl rfl rfl rfl (by omega) (by decide) ?_)
   |(refine K.call ?_;refine K.con (fun hcon=>?_);first
    |(refine WpL.callF (hcon ?_) snapA locA outA rfl rfl rfl (by decide) ?_<;>clear hcon)
    |(refine WpL.callF (hcon) snapA locA outA rfl rfl rfl (by decide) ?_<;>clear hcon)
    |(refine WpL.callF (hcon _ ?_) snapA locA outA rfl rfl rfl (by decide) ?_<;>clear hcon)
    |(refine WpL.callF (hcon _) snapA locA outA rfl rfl rfl (by decide) ?_<;>clear hcon)
    |(refine WpL.callF (hcon _ _ ?_) snapA locA outA rfl rfl rfl (by decide) ?_<;>clear hcon)
    |(refine WpL.callF (hcon _ _) snapA locA outA rfl rfl rfl (by decide) ?_<;>clear hcon)
    |(refine WpL.callF (hcon _ _ _ ?_) snapA locA outA rfl rfl rfl (by decide) ?_<;>clear hcon)
    |(refine WpL.callF (hcon _ _ _) snapA locA outA rfl rfl rfl (by decide) ?_<;>clear hcon)
    |(refine WpL.callF (hcon _ _ _ _ ?_) snapA locA outA rfl rfl rfl (by decide) ?_<;>clear hcon)
    |(refine WpL.callF (hcon _ _ _ _) snapA locA outA rfl rfl rfl (by decide) ?_<;>clear hcon)
    |(refine WpL.callF (hcon _ _ _ _ _ ?_) snapA locA outA rfl rfl rfl (by decide) ?_<;>clear hcon)
    |(refine WpL.callF (hcon _ _ _ _ _) snapA locA outA rfl rfl rfl (by decide) ?_<;>clear hcon)
    |(refine WpL.callF (hcon _ _ _ _ _ _ ?_) snapA locA outA rfl rfl rfl (by decide) ?_<;>clear hcon)
    |(refine WpL.callF (hcon _ _ _ _ _ _) snapA locA outA rfl rfl rfl (by decide) ?_<;>clear hcon)
    |(refine WpL.callF (hcon _ _ _ _ _ _ _ ?_) snapA locA outA rfl rfl rfl (by decide) ?_<;>clear hcon)
    |(refine WpL.callF (hcon _ _ _ _ _ _ _) snapA locA outA rfl rfl rfl (by decide) ?_<;>clear hcon)
    |(refine WpL.callF (hcon _ _ _ _ _ _ _ _ ?_) snapA locA outA rfl rfl rfl (by decide) ?_<;>clear hcon)
    |(refine WpL.callF (hcon _ _ _ _ _ _ _ _) snapA locA outA rfl rfl rfl (by decide) ?_<;>clear hcon)
    |(refine WpL.callF (hcon _ _ _ _ _ _ _ _ _ ?_) snapA locA outA rfl rfl rfl (by decide) ?_<;>clear hcon)
    |(refine WpL.callF (hcon _ _ _ _ _ _ _ _ _) snapA locA outA rfl rfl rfl (by decide) ?_<;>clear hcon)
    |(refine WpL.callF (hcon _ _ _ _ _ _ _ _ _ _ ?_) snapA locA outA rfl rfl rfl (by decide) ?_<;>clear hcon)
    |(refine WpL.callF (hcon _ _ _ _ _ _ _ _ _ _) snapA locA outA rfl rfl rfl (by decide) ?_<;>clear hcon)
    |(refine WpL.callF (hcon _ _ _ _ _ _ _ _ _ _ _ ?_) snapA locA outA rfl rfl rfl (by decide) ?_<;>clear hcon)
    |(refine WpL.callF (hcon _ _ _ _ _ _ _ _ _ _ _) snapA locA outA rfl rfl rfl (by decide) ?_<;>clear hcon)
    |(refine WpL.callF (hcon _ _ _ _ _ _ _ _ _ _ _ _ ?_) snapA locA outA rfl rfl rfl (by decide) ?_<;>clear hcon)
    |(refine WpL.callF (hcon _ _ _ _ _ _ _ _ _ _ _ _) snapA locA outA rfl rfl rfl (by decide) ?_<;>clear hcon)
    |(refine WpL.callF (hcon _ _ _ _ _ _ _ _ _ _ _ _ _ ?_) snapA locA outA rfl rfl rfl (by decide) ?_<;>clear hcon)
    |(refine WpL.callF (hcon _ _ _ _ _ _ _ _ _ _ _ _ _) snapA locA outA rfl rfl rfl (by decide) ?_<;>clear hcon)
    |(refine WpL.callF (hcon _ _ _ _ _ _ _ _ _ _ _ _ _ _ ?_) snapA locA outA rfl rfl rfl (by decide) ?_<;>clear hcon)
    |(refine WpL.callF (hcon _ _ _ _ _ _ _ _ _ _ _ _ _ _) snapA locA outA rfl rfl rfl (by decide) ?_<;>clear hcon)
    |(refine WpL.callF (hcon _ _ _ _ _ _ _ _ _ _ _ _ _ _ _ ?_) snapA locA outA rfl rfl rfl (by decide) ?_<;>clear hcon)
    |(refine WpL.callF (hcon _ _ _ _ _ _ _ _ _ _ _ _ _ _ _) snapA locA outA rfl rfl rfl (by decide) ?_<;>clear hcon)
    |(refine WpL.callF (hcon _ _ _ _ _ _ _ _ _ _ _ _ _ _ _ _ ?_) snapA locA outA rfl rfl rfl (by decide) ?_<;>clear hcon)
    |(refine WpL.callF (hcon _ _ _ _ _ _ _ _ _ _ _ _ _ _ _ _) snapA locA outA rfl rfl rfl (by decide) ?_<;>clear hcon)
    |(refine WpL.callF (hcon _ _ _ _ _ _ _ _ _ _ _ _ _ _ _ _ _ ?_) snapA locA outA rfl rfl rfl (by decide) ?_<;>clear hcon)
    |(refine WpL.callF (hcon _ _ _ _ _ _ _ _ _ _ _ _ _ _ _ _ _) snapA locA outA rfl rfl rfl (by decide) ?_<;>clear hcon)
    |(refine WpL.callF (hcon _ _ _ _ _ _ _ _ _ _ _ _ _ _ _ _ _ _ ?_) snapA locA outA rfl rfl rfl (by decide) ?_<;>clear hcon)
    |(refine WpL.callF (hcon _ _ _ _ _ _ _ _ _ _ _ _ _ _ _ _ _ _) snapA locA outA rfl rfl rfl (by decide) ?_<;>clear hcon))
   |(refine K.call ?_;refine K.conG (fun hcon=>?_);first
    |(refine WpL.callM (hs:=[_]) (hcon ?_) handA handOA rfl rfl outA outA rfl rfl rfl rfl (by decide) ?_<;>clear hcon)
    |(refine WpL.callM (hs:=[_]) (hcon) handA handOA rfl rfl outA outA rfl rfl rfl rfl (by decide) ?_<;>clear hcon)
    |(refine WpL.callM (hs:=[_]) (hcon _ ?_) handA handOA rfl rfl outA outA rfl rfl rfl rfl (by decide) ?_<;>clear hcon)
    |(refine WpL.callM (hs:=[_]) (hcon _) handA handOA rfl rfl outA outA rfl rfl rfl rfl (by decide) ?_<;>clear hcon)
    |(refine WpL.callM (hs:=[_]) (hcon _ _ ?_) handA handOA rfl rfl outA outA rfl rfl rfl rfl (by decide) ?_<;>clear hcon)
    |(refine WpL.callM (hs:=[_]) (hcon _ _) handA handOA rfl rfl outA outA rfl rfl rfl rfl (by decide) ?_<;>clear hcon)
    |(refine WpL.callM (hs:=[_]) (hcon _ _ _ ?_) handA handOA rfl rfl outA outA rfl rfl rfl rfl (by decide) ?_<;>clear hcon)
    |(refine WpL.callM (hs:=[_]) (hcon _ _ _) handA handOA rfl rfl outA outA rfl rfl rfl rfl (by decide) ?_<;>clear hcon)
    |(refine WpL.callM (hs:=[_]) (hcon _ _ _ _ ?_) handA handOA rfl rfl outA outA rfl rfl rfl rfl (by decide) ?_<;>clear hcon)
    |(refine WpL.callM (hs:=[_]) (hcon _ _ _ _) handA handOA rfl rfl outA outA rfl rfl rfl rfl (by decide) ?_<;>clear hcon)
    |(refine WpL.callM (hs:=[_]) (hcon _ _ _ _ _ ?_) handA handOA rfl rfl outA outA rfl rfl rfl rfl (by decide) ?_<;>clear hcon)
    |(refine WpL.callM (hs:=[_]) (hcon _ _ _ _ _) handA handOA rfl rfl outA outA rfl rfl rfl rfl (by decide) ?_<;>clear hcon)
    |(refine WpL.callM (hs:=[_]) (hcon _ _ _ _ _ _ ?_) handA handOA rfl rfl outA outA rfl rfl rfl rfl (by decide) ?_<;>clear hcon)
    |(refine WpL.callM (hs:=[_]) (hcon _ _ _ _ _ _) handA handOA rfl rfl outA outA rfl rfl rfl rfl (by decide) ?_<;>clear hcon)
    |(refine WpL.callM (hs:=[_]) (hcon _ _ _ _ _ _ _ ?_) handA handOA rfl rfl outA outA rfl rfl rfl rfl (by decide) ?_<;>clear hcon)
    |(refine WpL.callM (hs:=[_]) (hcon _ _ _ _ _ _ _) handA handOA rfl rfl outA outA rfl rfl rfl rfl (by decide) ?_<;>clear hcon)
    |(refine WpL.callM (hs:=[_]) (hcon _ _ _ _ _ _ _ _ ?_) handA handOA rfl rfl outA outA rfl rfl rfl rfl (by decide) ?_<;>clear hcon)
    |(refine WpL.callM (hs:=[_]) (hcon _ _ _ _ _ _ _ _) handA handOA rfl rfl outA outA rfl rfl rfl rfl (by decide) ?_<;>clear hcon)
    |(refine WpL.callM (hs:=[_,_]) (hcon ?_) handA handOA rfl rfl outA outA rfl rfl rfl rfl (by decide) ?_<;>clear hcon)
    |(refine WpL.callM (hs:=[_,_]) (hcon) handA handOA rfl rfl outA outA rfl rfl rfl rfl (by decide) ?_<;>clear hcon)
    |(refine WpL.callM (hs:=[_,_]) (hcon _ ?_) handA handOA rfl rfl outA outA rfl rfl rfl rfl (by decide) ?_<;>clear hcon)
    |(refine WpL.callM (hs:=[_,_]) (hcon _) handA handOA rfl rfl outA outA rfl rfl rfl rfl (by decide) ?_<;>clear hcon)
    |(refine WpL.callM (hs:=[_,_]) (hcon _ _ ?_) handA handOA rfl rfl outA outA rfl rfl rfl rfl (by decide) ?_<;>clear hcon)
    |(refine WpL.callM (hs:=[_,_]) (hcon _ _) handA handOA rfl rfl outA outA rfl rfl rfl rfl (by decide) ?_<;>clear hcon)
    |(refine WpL.callM (hs:=[_,_]) (hcon _ _ _ ?_) handA handOA rfl rfl outA outA rfl rfl rfl rfl (by decide) ?_<;>clear hcon)
    |(refine WpL.callM (hs:=[_,_]) (hcon _ _ _) handA handOA rfl rfl outA outA rfl rfl rfl rfl (by decide) ?_<;>clear hcon)
    |(refine WpL.callM (hs:=[_,_]) (hcon _ _ _ _ ?_) handA handOA rfl rfl outA outA rfl rfl rfl rfl (by decide) ?_<;>clear hcon)
    |(refine WpL.callM (hs:=[_,_]) (hcon _ _ _ _) handA handOA rfl rfl outA outA rfl rfl rfl rfl (by decide) ?_<;>clear hcon)
    |(refine WpL.callM (hs:=[_,_]) (hcon _ _ _ _ _ ?_) handA handOA rfl rfl outA outA rfl rfl rfl rfl (by decide) ?_<;>clear hcon)
    |(refine WpL.callM (hs:=[_,_]) (hcon _ _ _ _ _) handA handOA rfl rfl outA outA rfl rfl rfl rfl (by decide) ?_<;>clear hcon)
    |(refine WpL.callM (hs:=[_,_]) (hcon _ _ _ _ _ _ ?_) handA handOA rfl rfl outA outA rfl rfl rfl rfl (by decide) ?_<;>clear hcon)
    |(refine WpL.callM (hs:=[_,_]) (hcon _ _ _ _ _ _) handA handOA rfl rfl outA outA rfl rfl rfl rfl (by decide) ?_<;>clear hcon)
    |(refine WpL.callM (hs:=[_,_]) (hcon _ _ _ _ _ _ _ ?_) handA handOA rfl rfl outA outA rfl rfl rfl rfl (by decide) ?_<;>clear hcon)
    |(refine WpL.callM (hs:=[_,_]) (hcon _ _ _ _ _ _ _) handA handOA rfl rfl outA outA rfl rfl rfl rfl (by decide) ?_<;>clear hcon)
    |(refine WpL.callM (hs:=[_,_]) (hcon _ _ _ _ _ _ _ _ ?_) handA handOA rfl rfl outA outA rfl rfl rfl rfl (by decide) ?_<;>clear hcon)
    |(refine WpL.callM (hs:=[_,_]) (hcon _ _ _ _ _ _ _ _) handA handOA rfl rfl outA outA rfl rfl rfl rfl (by decide) ?_<;>clear hcon)
    |(refine WpL.callM (hs:=[_,_,_]) (hcon ?_) handA handOA rfl rfl outA outA rfl rfl rfl rfl (by decide) ?_<;>clear hcon)
    |(refine WpL.callM (hs:=[_,_,_]) (hcon) handA handOA rfl rfl outA outA rfl rfl rfl rfl (by decide) ?_<;>clear hcon)
    |(refine WpL.callM (hs:=[_,_,_]) (hcon _ ?_) handA handOA rfl rfl outA outA rfl rfl rfl rfl (by decide) ?_<;>clear hcon)
    |(refine WpL.callM (hs:=[_,_,_]) (hcon _) handA handOA rfl rfl outA outA rfl rfl rfl rfl (by decide) ?_<;>clear hcon)
    |(refine WpL.callM (hs:=[_,_,_]) (hcon _ _ ?_) handA handOA rfl rfl outA outA rfl rfl rfl rfl (by decide) ?_<;>clear hcon)
    |(refine WpL.callM (hs:=[_,_,_]) (hcon _ _) handA handOA rfl rfl outA outA rfl rfl rfl rfl (by decide) ?_<;>clear hcon)
    |(refine WpL.callM (hs:=[_,_,_]) (hcon _ _ _ ?_) handA handOA rfl rfl outA outA rfl rfl rfl rfl (by decide) ?_<;>clear hcon)
    |(refine WpL.callM (hs:=[_,_,_]) (hcon _ _ _) handA handOA rfl rfl outA outA rfl rfl rfl rfl (by decide) ?_<;>clear hcon)
    |(refine WpL.callM (hs:=[_,_,_]) (hcon _ _ _ _ ?_) handA handOA rfl rfl outA outA rfl rfl rfl rfl (by decide) ?_<;>clear hcon)
    |(refine WpL.callM (hs:=[_,_,_]) (hcon _ _ _ _) handA handOA rfl rfl outA outA rfl rfl rfl rfl (by decide) ?_<;>clear hcon)
    |(refine WpL.callM (hs:=[_,_,_]) (hcon _ _ _ _ _ ?_) handA handOA rfl rfl outA outA rfl rfl rfl rfl (by decide) ?_<;>clear hcon)
    |(refine WpL.callM (hs:=[_,_,_]) (hcon _ _ _ _ _) handA handOA rfl rfl outA outA rfl rfl rfl rfl (by decide) ?_<;>clear hcon)
    |(refine WpL.callM (hs:=[_,_,_]) (hcon _ _ _ _ _ _ ?_) handA handOA rfl rfl outA outA rfl rfl rfl rfl (by decide) ?_<;>clear hcon)
    |(refine WpL.callM (hs:=[_,_,_]) (hcon _ _ _ _ _ _) handA handOA rfl rfl outA outA rfl rfl rfl rfl (by decide) ?_<;>clear hcon)
    |(refine WpL.callM (hs:=[_,_,_]) (hcon _ _ _ _ _ _ _ ?_) handA handOA rfl rfl outA outA rfl rfl rfl rfl (by decide) ?_<;>clear hcon)
    |(refine WpL.callM (hs:=[_,_,_]) (hcon _ _ _ _ _ _ _) handA handOA rfl rfl outA outA rfl rfl rfl rfl (by decide) ?_<;>clear hcon)
    |(refine WpL.callM (hs:=[_,_,_]) (hcon _ _ _ _ _ _ _ _ ?_) handA handOA rfl rfl outA outA rfl rfl rfl rfl (by decide) ?_<;>clear hcon)
    |(refine WpL.callM (hs:=[_,_,_]) (hcon _ _ _ _ _ _ _ _) handA handOA rfl rfl outA outA rfl rfl rfl rfl (by decide) ?_<;>clear hcon)
    |(refine WpL.callM (hs:=[_,_,_,_]) (hcon ?_) handA handOA rfl rfl outA outA rfl rfl rfl rfl (by decide) ?_<;>clear hcon)
    |(refine WpL.callM (hs:=[_,_,_,_]) (hcon) handA handOA rfl rfl outA outA rfl rfl rfl rfl (by decide) ?_<;>clear hcon)
    |(refine WpL.callM (hs:=[_,_,_,_]) (hcon _ ?_) handA handOA rfl rfl outA outA rfl rfl rfl rfl (by decide) ?_<;>clear hcon)
    |(refine WpL.callM (hs:=[_,_,_,_]) (hcon _) handA handOA rfl rfl outA outA rfl rfl rfl rfl (by decide) ?_<;>clear hcon)
    |(refine WpL.callM (hs:=[_,_,_,_]) (hcon _ _ ?_) handA handOA rfl rfl outA outA rfl rfl rfl rfl (by decide) ?_<;>clear hcon)
    |(refine WpL.callM (hs:=[_,_,_,_]) (hcon _ _) handA handOA rfl rfl outA outA rfl rfl rfl rfl (by decide) ?_<;>clear hcon)
    |(refine WpL.callM (hs:=[_,_,_,_]) (hcon _ _ _ ?_) handA handOA rfl rfl outA outA rfl rfl rfl rfl (by decide) ?_<;>clear hcon)
    |(refine WpL.callM (hs:=[_,_,_,_]) (hcon _ _ _) handA handOA rfl rfl outA outA rfl rfl rfl rfl (by decide) ?_<;>clear hcon)
    |(refine WpL.callM (hs:=[_,_,_,_]) (hcon _ _ _ _ ?_) handA handOA rfl rfl outA outA rfl rfl rfl rfl (by decide) ?_<;>clear hcon)
    |(refine WpL.callM (hs:=[_,_,_,_]) (hcon _ _ _ _) handA handOA rfl rfl outA outA rfl rfl rfl rfl (by decide) ?_<;>clear hcon)
    |(refine WpL.callM (hs:=[_,_,_,_]) (hcon _ _ _ _ _ ?_) handA handOA rfl rfl outA outA rfl rfl rfl rfl (by decide) ?_<;>clear hcon)
    |(refine WpL.callM (hs:=[_,_,_,_]) (hcon _ _ _ _ _) handA handOA rfl rfl outA outA rfl rfl rfl rfl (by decide) ?_<;>clear hcon)
    |(refine WpL.callM (hs:=[_,_,_,_]) (hcon _ _ _ _ _ _ ?_) handA handOA rfl rfl outA outA rfl rfl rfl rfl (by decide) ?_<;>clear hcon)
    |(refine WpL.callM (hs:=[_,_,_,_]) (hcon _ _ _ _ _ _) handA handOA rfl rfl outA outA rfl rfl rfl rfl (by decide) ?_<;>clear hcon)
    |(refine WpL.callM (hs:=[_,_,_,_]) (hcon _ _ _ _ _ _ _ ?_) handA handOA rfl rfl outA outA rfl rfl rfl rfl (by decide) ?_<;>clear hcon)
    |(refine WpL.callM (hs:=[_,_,_,_]) (hcon _ _ _ _ _ _ _) handA handOA rfl rfl outA outA rfl rfl rfl rfl (by decide) ?_<;>clear hcon)
    |(refine WpL.callM (hs:=[_,_,_,_]) (hcon _ _ _ _ _ _ _ _ ?_) handA handOA rfl rfl outA outA rfl rfl rfl rfl (by decide) ?_<;>clear hcon)
    |(refine WpL.callM (hs:=[_,_,_,_]) (hcon _ _ _ _ _ _ _ _) handA handOA rfl rfl outA outA rfl rfl rfl rfl (by decide) ?_<;>clear hcon))
   |(refine K.call ?_;refine K.conB (fun hcon=>?_);first
    |(refine WpL.callB (hcon ?_) snapA locA outA locA outA rfl rfl rfl rfl rfl (by decide) ?_ ?_<;>clear hcon)
    |(refine WpL.callB (hcon) snapA locA outA locA outA rfl rfl rfl rfl rfl (by decide) ?_ ?_<;>clear hcon)
    |(refine WpL.callB (hcon _ ?_) snapA locA outA locA outA rfl rfl rfl rfl rfl (by decide) ?_ ?_<;>clear hcon)
    |(refine WpL.callB (hcon _) snapA locA outA locA outA rfl rfl rfl rfl rfl (by decide) ?_ ?_<;>clear hcon)
    |(refine WpL.callB (hcon _ _ ?_) snapA locA outA locA outA rfl rfl rfl rfl rfl (by decide) ?_ ?_<;>clear hcon)
    |(refine WpL.callB (hcon _ _) snapA locA outA locA outA rfl rfl rfl rfl rfl (by decide) ?_ ?_<;>clear hcon)
    |(refine WpL.callB (hcon _ _ _ ?_) snapA locA outA locA outA rfl rfl rfl rfl rfl (by decide) ?_ ?_<;>clear hcon)
    |(refine WpL.callB (hcon _ _ _) snapA locA outA locA outA rfl rfl rfl rfl rfl (by decide) ?_ ?_<;>clear hcon)
    |(refine WpL.callB (hcon _ _ _ _ ?_) snapA locA outA locA outA rfl rfl rfl rfl rfl (by decide) ?_ ?_<;>clear hcon)
    |(refine WpL.callB (hcon _ _ _ _) snapA locA outA locA outA rfl rfl rfl rfl rfl (by decide) ?_ ?_<;>clear hcon)
    |(refine WpL.callB (hcon _ _ _ _ _ ?_) snapA locA outA locA outA rfl rfl rfl rfl rfl (by decide) ?_ ?_<;>clear hcon)
    |(refine WpL.callB (hcon _ _ _ _ _) snapA locA outA locA outA rfl rfl rfl rfl rfl (by decide) ?_ ?_<;>clear hcon)
    |(refine WpL.callB (hcon _ _ _ _ _ _ ?_) snapA locA outA locA outA rfl rfl rfl rfl rfl (by decide) ?_ ?_<;>clear hcon)
    |(refine WpL.callB (hcon _ _ _ _ _ _) snapA locA outA locA outA rfl rfl rfl rfl rfl (by decide) ?_ ?_<;>clear hcon)
    |(refine WpL.callB (hcon _ _ _ _ _ _ _ ?_) snapA locA outA locA outA rfl rfl rfl rfl rfl (by decide) ?_ ?_<;>clear hcon)
    |(refine WpL.callB (hcon _ _ _ _ _ _ _) snapA locA outA locA outA rfl rfl rfl rfl rfl (by decide) ?_ ?_<;>clear hcon)
    |(refine WpL.callB (hcon _ _ _ _ _ _ _ _ ?_) snapA locA outA locA outA rfl rfl rfl rfl rfl (by decide) ?_ ?_<;>clear hcon)
    |(refine WpL.callB (hcon _ _ _ _ _ _ _ _) snapA locA outA locA outA rfl rfl rfl rfl rfl (by decide) ?_ ?_<;>clear hcon))
   |(refine K.call ?_;refine K.conP (fun hcon=>?_);first
    |(refine WpL.callP (hs:=[_]) (hcon ?_) (by assumption) handA handOA rfl rfl (.cons rfl (.sc (.sc (.sc .nil))) .nil) outA rfl rfl rfl rfl (by decide) ?_<;>clear hcon)
    |(refine WpL.callP (hs:=[_]) (hcon) (by assumption) handA handOA rfl rfl (.cons rfl (.sc (.sc (.sc .nil))) .nil) outA rfl rfl rfl rfl (by decide) ?_<;>clear hcon)
    |(refine WpL.callP (hs:=[_]) (hcon _ ?_) (by assumption) handA handOA rfl rfl (.cons rfl (.sc (.sc (.sc .nil))) .nil) outA rfl rfl rfl rfl (by decide) ?_<;>clear hcon)
    |(refine WpL.callP (hs:=[_]) (hcon _) (by assumption) handA handOA rfl rfl (.cons rfl (.sc (.sc (.sc .nil))) .nil) outA rfl rfl rfl rfl (by decide) ?_<;>clear hcon)
    |(refine WpL.callP (hs:=[_]) (hcon _ _ ?_) (by assumption) handA handOA rfl rfl (.cons rfl (.sc (.sc (.sc .nil))) .nil) outA rfl rfl rfl rfl (by decide) ?_<;>clear hcon)
    |(refine WpL.callP (hs:=[_]) (hcon _ _) (by assumption) handA handOA rfl rfl (.cons rfl (.sc (.sc (.sc .nil))) .nil) outA rfl rfl rfl rfl (by decide) ?_<;>clear hcon)
    |(refine WpL.callP (hs:=[_]) (hcon _ _ _ ?_) (by assumption) handA handOA rfl rfl (.cons rfl (.sc (.sc (.sc .nil))) .nil) outA rfl rfl rfl rfl (by decide) ?_<;>clear hcon)
    |(refine WpL.callP (hs:=[_]) (hcon _ _ _) (by assumption) handA handOA rfl rfl (.cons rfl (.sc (.sc (.sc .nil))) .nil) outA rfl rfl rfl rfl (by decide) ?_<;>clear hcon)
    |(refine WpL.callP (hs:=[_]) (hcon _ _ _ _ ?_) (by assumption) handA handOA rfl rfl (.cons rfl (.sc (.sc (.sc .nil))) .nil) outA rfl rfl rfl rfl (by decide) ?_<;>clear hcon)
    |(refine WpL.callP (hs:=[_]) (hcon _ _ _ _) (by assumption) handA handOA rfl rfl (.cons rfl (.sc (.sc (.sc .nil))) .nil) outA rfl rfl rfl rfl (by decide) ?_<;>clear hcon)
    |(refine WpL.callP (hs:=[_]) (hcon _ _ _ _ _ ?_) (by assumption) handA handOA rfl rfl (.cons rfl (.sc (.sc (.sc .nil))) .nil) outA rfl rfl rfl rfl (by decide) ?_<;>clear hcon)
    |(refine WpL.callP (hs:=[_]) (hcon _ _ _ _ _) (by assumption) handA handOA rfl rfl (.cons rfl (.sc (.sc (.sc .nil))) .nil) outA rfl rfl rfl rfl (by decide) ?_<;>clear hcon)
    |(refine WpL.callP (hs:=[_]) (hcon _ _ _ _ _ _ ?_) (by assumption) handA handOA rfl rfl (.cons rfl (.sc (.sc (.sc .nil))) .nil) outA rfl rfl rfl rfl (by decide) ?_<;>clear hcon)
    |(refine WpL.callP (hs:=[_]) (hcon _ _ _ _ _ _) (by assumption) handA handOA rfl rfl (.cons rfl (.sc (.sc (.sc .nil))) .nil) outA rfl rfl rfl rfl (by decide) ?_<;>clear hcon)
    |(refine WpL.callP (hs:=[_]) (hcon _ _ _ _ _ _ _ ?_) (by assumption) handA handOA rfl rfl (.cons rfl (.sc (.sc (.sc .nil))) .nil) outA rfl rfl rfl rfl (by decide) ?_<;>clear hcon)
    |(refine WpL.callP (hs:=[_]) (hcon _ _ _ _ _ _ _) (by assumption) handA handOA rfl rfl (.cons rfl (.sc (.sc (.sc .nil))) .nil) outA rfl rfl rfl rfl (by decide) ?_<;>clear hcon)
    |(refine WpL.callP (hs:=[_]) (hcon _ _ _ _ _ _ _ _ ?_) (by assumption) handA handOA rfl rfl (.cons rfl (.sc (.sc (.sc .nil))) .nil) outA rfl rfl rfl rfl (by decide) ?_<;>clear hcon)
    |(refine WpL.callP (hs:=[_]) (hcon _ _ _ _ _ _ _ _) (by assumption) handA handOA rfl rfl (.cons rfl (.sc (.sc (.sc .nil))) .nil) outA rfl rfl rfl rfl (by decide) ?_<;>clear hcon)
    |(refine WpL.callP (hs:=[_]) (hcon _ _ _ _ _ _ _ _ _ ?_) (by assumption) handA handOA rfl rfl (.cons rfl (.sc (.sc (.sc .nil))) .nil) outA rfl rfl rfl rfl (by decide) ?_<;>clear hcon)
    |(refine WpL.callP (hs:=[_]) (hcon _ _ _ _ _ _ _ _ _) (by assumption) handA handOA rfl rfl (.cons rfl (.sc (.sc (.sc .nil))) .nil) outA rfl rfl rfl rfl (by decide) ?_<;>clear hcon)
    |(refine WpL.callP (hs:=[_]) (hcon _ _ _ _ _ _ _ _ _ _ ?_) (by assumption) handA handOA rfl rfl (.cons rfl (.sc (.sc (.sc .nil))) .nil) outA rfl rfl rfl rfl (by decide) ?_<;>clear hcon)
    |(refine WpL.callP (hs:=[_]) (hcon _ _ _ _ _ _ _ _ _ _) (by assumption) handA handOA rfl rfl (.cons rfl (.sc (.sc (.sc .nil))) .nil) outA rfl rfl rfl rfl (by decide) ?_<;>clear hcon))
   |(refine K.callT ?_;refine K.conV rfl (fun hcon=>?_);first
    |(refine WpL.callVF rfl (hcon _ _ _ _ _ _ _ _ _ _ _ _) rfl snapA locA outA rfl rfl rfl (by decide) ?_<;>clear hcon))
   |(refine K.mkF ?_;refine WpL.makeFunc rfl (by decide) ?_)
   |(refine K.bi ?_;first
    |(refine K.blen ?_;first
     |refine WpL.lenImm (TabOk.slice tabOk rfl).1 rfl (by decide) ?_
     |refine WpL.lenOwn (TabOk.slice tabOk rfl).1 rfl rfl rfl (by decide) ?_)
    |(refine K.bapp ?_;first
     |refine WpL.app1Ints tabOk rfl rfl rfl (by first|exact Nat.zero_le _|exact Nat.le_of_ble_eq_true rfl) rfl rfl (by first|rfl|omega|(simp;done)|(simp;omega)) (by omega) (by decide) ?_
     |refine WpL.appInts tabOk rfl rfl rfl (by first|exact Nat.zero_le _|exact Nat.le_of_ble_eq_true rfl) rfl rfl (by first|rfl|omega|(simp;done)|(simp;omega)) (by first|rfl|omega|(simp;done)|(simp;omega)) (by omega) (by decide) ?_
     |refine WpL.nil1Ints tabOk rfl rfl rfl rfl (by omega) rfl (by decide) ?_
     |refine WpL.appRow (f:=prF) (v:=(_,_)) tabOk rfl rfl rfl (by first|exact Nat.zero_le _|exact Nat.le_of_ble_eq_true rfl) rfl rfl (fun _=>rfl) rfl rfl (by first|rfl|omega|(simp;done)|(simp;omega)) (by omega) (by decide) ?_
     |refine WpL.appRow (f:=plF) (v:=(_,_,_)) tabOk rfl rfl rfl (by first|exact Nat.zero_le _|exact Nat.le_of_ble_eq_true rfl) rfl rfl (fun _=>rfl) rfl rfl (by first|rfl|omega|(simp;done)|(simp;omega)) (by omega) (by decide) ?_
     |refine WpL.appOwn tabOk rfl rfl rfl rfl rfl rfl (by simp) (by first|exact Nat.zero_le _|exact Nat.le_of_ble_eq_true rfl) rfl rfl (by simp) (by simp [all_ints,all_u8s,all_strs,oneB,Value.oneCell']) (by omega) (by decide) ?_
     |refine WpL.appNil tabOk rfl rfl rfl rfl (by simp) (by simp [all_ints,all_u8s,all_strs,oneB,Value.oneCell']) (by omega) rfl (by decide) ?_)
    |refine WpL.min2 rfl rfl (by decide) ?_
    |refine WpL.max2 rfl rfl (by decide) ?_)
   |(refine K.un ?_;first
    |refine WpL.not rfl (by decide) ?_
    |refine WpL.neg rfl (by omega) (by decide) ?_)
   |(refine K.pick ?_;first
    |refine WpL.pickT rfl rfl (by decide) ?_
    |refine WpL.pickF rfl rfl (by decide) ?_)
   |(refine K.bld ?_;refine WpL.build tabOk rfl rfl (by kernel_rfl) (by decide) ?_)
   |(refine K.ext ?_;refine WpL.extract rfl rfl (by first|decide|simp [AV.shL]) (by decide) ?_)
   |(refine K.cv ?_;first
    |refine WpL.conv (P:=Tryz.prog) (by rfl) (K.tyInt tabOk rfl) rfl (by decide) ?_)
   |(refine K.lit ?_;first
    |refine WpL.lit0Ints tabOk rfl rfl rfl (by decide) ?_
    |refine WpL.litInts tabOk rfl rfl rfl rfl rfl (by decide) rfl (by decide) ?_
    |refine WpL.litStrs tabOk rfl rfl rfl rfl rfl (by decide) rfl (by decide) ?_
    |(apply WpL.litLis tabOk
      ·exact rfl
      ·exact rfl
      ·exact rfl
      ·exact rfl
      ·decide
      ·exact rfl
      ·exact rfl
      ·exact rfl
      ·decide
      ·repeat' (first
        |exact NestC.nil
        |(apply NestC.cons
          ·exact rfl
          ·exact rfl
          ·exact rfl
          ·exact rfl
          ·first|exact Nat.zero_le _|exact Nat.le_of_ble_eq_true rfl
          ·exact rfl
          ·first|rfl|exact still_ints _
          ·first|rfl|simp
          ·exact rfl))
      ·exact rfl
      ·exact rfl)
    |refine WpL.litF tabOk rfl rfl rfl rfl (by decide) rfl (by decide) ?_)
   |(refine K.ms ?_;first
    |refine WpL.makeInts tabOk rfl rfl rfl (by omega) (by omega) rfl (by decide) ?_)
   |(refine K.st ?_;first
    |refine WpL.storeInts tabOk rfl rfl rfl rfl rfl (by first|omega|(simp;omega)) ?_
    |refine WpL.storeSlot tabOk rfl rfl rfl rfl rfl rfl (by first|rfl|omega|(simp;done)|(simp;omega)) (by first|omega|(simp;omega)|(simp;done)) ?_
    |refine WpL.storeS tabOk rfl rfl rfl rfl rfl rfl rfl rfl (by first|decide|omega|(simp;omega)|(simp;done)) (by first|(simp only [Go.Abs.setL,List.set_cons_zero,List.set_cons_succ,Nat.zero_add,Nat.reduceAdd];exact rfl)|exact rfl) ?_)
   |(refine K.all ?_;first
    |refine WpL.allocStruct tabOk rfl rfl (by decide) ?_
    |refine WpL.allocPlain tabOk rfl rfl rfl (by decide) ?_)
   |(refine K.box ?_;refine WpL.box rfl rfl rfl (by decide) ?_)
   |(refine K.nc ?_;first
    |refine WpL.nilCheckP rfl rfl rfl (by decide) ?_)
   |(refine K.sl ?_;first
    |refine WpL.subIntsHi tabOk rfl rfl rfl (by first|rfl|omega|(simp;done)|(simp;omega)) (by omega) (by decide) ?_
    |refine WpL.subImm tabOk rfl rfl (by first|exact .inl ⟨rfl,rfl⟩|exact .inr ⟨_,_,rfl,rfl⟩) (by first|exact .inl ⟨rfl,rfl⟩|exact .inr ⟨_,_,rfl,rfl⟩) (by omega) (by decide) ?_))
  |(refine K.le ?_;first|omega|(simp;omega)|assumption)
  |(refine K.lt ?_;first|omega|(simp;omega)|assumption)
  |refine And.intro ?_ ?_
  |omega
  |assumption
  |(simp;done)))
 first|done|fail):X:=h
theorem headA {X:Prop} (h:X:=by
 (repeat' (first
 |exact Abs.HeadN.nil
 |exact Abs.HeadJ.nil
 |(apply HeadJ.consF rfl
   ·exact rfl
   ·exact in1
   ·exact rfl)
 |(apply HeadN.pureF rfl
   ·exact rfl
   ·exact rfl
   ·exact rfl
   ·exact in0
   ·exact rfl)
 |(apply HeadN.prodF rfl
   ·exact rfl
   ·exact rfl
   ·exact in1
   ·intro hgo;cases hgo
   ·exact rfl
   ·exact rfl
   ·exact rfl)
 |exact Abs.HeadG.nil
 |(apply HeadG.fixedF rfl rfl rfl (by decide +kernel)
   ·exact rfl
   ·exact in0
   ·exact rfl)
 |(apply HeadG.preF 0 rfl rfl rfl
   ·exact rfl
   ·exact in0
   ·exact rfl)
 |(apply HeadG.hole0 rfl rfl rfl
   ·exact rfl
   ·exact in0
   ·exact rfl)
 |(apply HeadG.hole1 rfl rfl rfl
   ·exact rfl
   ·exact in0
   ·exact rfl)
 |(apply HeadG.hole4 rfl rfl rfl
   ·exact rfl
   ·exact in0
   ·exact rfl)
 |(apply HeadG.hole5 rfl rfl rfl
   ·exact rfl
   ·exact in0
   ·exact rfl)
 |(apply HeadG.hole6 rfl rfl rfl
   ·exact rfl
   ·exact in0
   ·exact rfl)
 |(apply HeadG.hole7 rfl rfl rfl
   ·exact rfl
   ·exact in0
   ·exact rfl)
 |(apply HeadG.preF 1 rfl rfl rfl
   ·exact rfl
   ·exact in0
   ·exact rfl)
 |(apply HeadG.preF 2 rfl rfl rfl
   ·exact rfl
   ·exact in0
   ·exact rfl)
 |(apply HeadG.preF 3 rfl rfl rfl
   ·exact rfl
   ·exact in0
   ·exact rfl)
 |(apply HeadG.preF 4 rfl rfl rfl
   ·exact rfl
   ·exact in0
   ·exact rfl)
 |(apply HeadG.preF 5 rfl rfl rfl
   ·exact rfl
   ·exact in0
   ·exact rfl)
 |(apply HeadG.preF 6 rfl rfl rfl
   ·exact rfl
   ·exact in0
   ·exact rfl)
 |(apply HeadG.preF 30 rfl rfl rfl
   ·exact rfl
   ·exact in0
   ·exact rfl)
 |(apply HeadG.precF 0 rfl rfl
   ·exact rfl
   ·exact in0
   ·exact rfl)
 |(apply HeadG.precF 1 rfl rfl
   ·exact rfl
   ·exact in0
   ·exact rfl)
 |(apply HeadG.precF 2 rfl rfl
   ·exact rfl
   ·exact in0
   ·exact rfl)
 |(apply HeadG.precF 3 rfl rfl
   ·exact rfl
   ·exact in0
   ·exact rfl)
 |(apply HeadG.precF 4 rfl rfl
   ·exact rfl
   ·exact in0
   ·exact rfl)
 |(apply HeadG.precF 30 rfl rfl
   ·exact rfl
   ·exact in0
   ·exact rfl)
 |(apply HeadG.stepF rfl rfl
   ·exact rfl
   ·exact in1
   ·exact rfl)
 |(apply HeadG.stepNF rfl
   ·exact rfl
   ·exact in1
   ·exact rfl)))
 first|done|fail):X:=h
theorem trueA {b:Bool} (h:TrueB b:=by (refine TrueB.mk ?_;kernel_rfl)):TrueB b:=h
theorem demA {X:Prop} (h:X:=by
 (repeat' (first
 |(refine K.DA ?_;first
  |exact DemAll.nil
  |refine DemAll.skip ?_
  |refine DemAll.zero ?_
  |(refine DemAll.all ?_ ?_;(· (repeat' (first|exact PreL.nil|refine PreL.cons ?_ ?_|exact Pat.nil|refine Pat.one ?_|refine Pat.any ?_)));skip)
  |(refine DemAll.past rfl rfl ?_ ?_;(· (repeat' (first|exact PreL.nil|refine PreL.cons ?_ ?_|exact Pat.nil|refine Pat.one ?_|refine Pat.any ?_)));skip)
  |(refine DemAll.betw rfl rfl rfl ?_ ?_;(· (repeat' (first|exact PreL.nil|refine PreL.cons ?_ ?_|exact Pat.nil|refine Pat.one ?_|refine Pat.any ?_)));skip))))
 first|done|fail):X:=h
theorem go {P R:Prop} (h:(Hold R→P)∧IsT R:=by
 refine And.intro ?_ ?_
 ·intro hold
  repeat' (first
  |(refine K.L ?_;first
   |(refine K.mv ?_;refine WpL.move rfl (by decide) ?_)
   |(refine K.asg ?_;refine WpL.assign rfl (by decide) ?_)
   |(refine K.bin ?_;first
    |refine WpL.add rfl rfl (by omega) (by decide) ?_
    |refine WpL.sub rfl rfl (by omega) (by decide) ?_
    |refine WpL.mul rfl rfl (by first|omega|exact mul_in (by omega) (by omega)|assumption) (by decide) ?_
    |refine WpL.quo rfl rfl (by omega) (by decide) ?_
    |refine WpL.rem rfl rfl (by omega) (by decide) ?_
    |refine WpL.bin rfl rfl rfl (by decide) ?_
    |refine WpL.strNe rfl rfl (by decide) ?_
    |refine WpL.nilEq (TabOk.slice tabOk rfl).1 rfl rfl (by decide) ?_
    |refine WpL.immEq (TabOk.slice tabOk rfl).1 rfl rfl (by decide) (fun hgo=>?_) ?_
    |refine WpL.ownEq (TabOk.slice tabOk rfl).1 rfl rfl rfl (by first|rfl|omega|(simp;done)|(simp;omega)) rfl (by decide) ?_
    |refine WpL.shl rfl rfl (by first|decide|(simp only [IntKind.bits];omega)) (by decide) ?_
    |refine WpL.shr rfl rfl (by first|decide|(simp only [IntKind.bits];omega)) (by decide) ?_)
   |(refine K.ld ?_;first
    |refine WpL.loadInts tabOk rfl rfl rfl (by first|omega|(simp;omega)) (by decide) ?_
    |refine WpL.loadU8s tabOk rfl rfl rfl (by first|omega|(simp;omega)) (by decide) ?_
    |refine WpL.loadStrs tabOk rfl rfl rfl (by first|omega|(simp;omega)) (by decide) ?_
    |refine WpL.loadBools tabOk rfl rfl rfl (by first|omega|(simp;omega)) (by decide) ?_
    |refine WpL.loadRow tabOk rfl rfl (fun _=>rfl) (fun _=>rfl) (by first|rfl|omega|(simp;done)|(simp;omega)) (by decide) rfl ?_
    |refine WpL.loadField tabOk rfl rfl rfl (fun _=>rfl) rfl rfl (by first|rfl|omega|(simp;done)|(simp;omega)) (by decide) ?_
    |refine WpL.loadOwn tabOk rfl rfl rfl rfl (fun _=>rfl) rfl (by first|rfl|omega|(simp;done)|(simp;omega)) (by decide) rfl ?_
    |refine WpL.load1 tabOk rfl rfl rfl rfl rfl (by decide) ?_
    |refine WpL.loadAgg (ds:=[_]) tabOk rfl rfl rfl rfl rfl (by decide) ?_
    |refine WpL.loadAgg (ds:=[_,_]) tabOk rfl rfl rfl rfl rfl (by decide) ?_
    |refine WpL.loadAgg (ds:=[_,_,_]) tabOk rfl rfl rfl rfl rfl (by decide) ?_
    |refine WpL.loadAgg (ds:=[_,_,_,_]) tabOk rfl rfl rfl rfl rfl (by decide) ?_
    |refine WpL.loadAgg (ds:=[_,_,_,_,_]) tabOk rfl rfl rfl rfl rfl (by decide) ?_
    |refine WpL.loadAgg (ds:=[_,_,_,_,_,_]) tabOk rfl rfl rfl rfl rfl (by decide) ?_
    |refine WpL.loadAgg (ds:=[_,_,_,_,_,_,_]) tabOk rfl rfl rfl rfl rfl (by decide) ?_
    |refine WpL.loadAgg (ds:=[_,_,_,_,_,_,_,_]) tabOk rfl rfl rfl rfl rfl (by decide) ?_
    |refine WpL.loadLi tabOk rfl rfl rfl (by first|rfl|omega|(simp;done)|(simp;omega)) (by decide) ?_
    |refine WpL.loadSlot tabOk rfl rfl rfl rfl (by first|rfl|omega|(simp;done)|(simp;omega)) (by first|omega|(simp;omega)|(simp;done)) rfl (by decide) ?_)
   |(refine K.fld ?_;first
    |refine WpL.fieldI tabOk rfl rfl rfl (by decide) ?_
    |refine WpL.fieldP tabOk rfl rfl rfl rfl rfl (by decide) ?_)
   |(refine K.ixa ?_;first
    |refine WpL.idxI1 tabOk rfl rfl rfl (by omega) (by decide) ?_
    |refine WpL.idxIJ tabOk rfl rfl rfl (by omega) (by decide) ?_
    |refine WpL.idxOJ tabOk rfl rfl rfl rfl rfl (by omega) (by decide) ?_
    |refine WpL.idxIN tabOk rfl rfl rfl (by omega) (by decide) ?_
    |refine WpL.idxI tabOk rfl rfl rfl (by omega) (by decide) ?_
    |refine WpL.idxO tabOk rfl rfl rfl rfl rfl (by omega) (by decide) ?_)
   |(refine K.call ?_;refine K.con (fun hcon=>?_);first
    |(refine WpL.callF (hcon ?_) snapA locA outA rfl rfl rfl (by decide) ?_<;>clear hcon)
    |(refine WpL.callF (hcon) snapA locA outA rfl rfl rfl (by decide) ?_<;>clear hcon)
    |(refine WpL.callF (hcon _ ?_) snapA locA outA rfl rfl rfl (by decide) ?_<;>clear hcon)
    |(refine WpL.callF (hcon _) snapA locA outA rfl rfl rfl (by decide) ?_<;>clear hcon)
    |(refine WpL.callF (hcon _ _ ?_) snapA locA outA rfl rfl rfl (by decide) ?_<;>clear hcon)
    |(refine WpL.callF (hcon _ _) snapA locA outA rfl rfl rfl (by decide) ?_<;>clear hcon)
    |(refine WpL.callF (hcon _ _ _ ?_) snapA locA outA rfl rfl rfl (by decide) ?_<;>clear hcon)
    |(refine WpL.callF (hcon _ _ _) snapA locA outA rfl rfl rfl (by decide) ?_<;>clear hcon)
    |(refine WpL.callF (hcon _ _ _ _ ?_) snapA locA outA rfl rfl rfl (by decide) ?_<;>clear hcon)
    |(refine WpL.callF (hcon _ _ _ _) snapA locA outA rfl rfl rfl (by decide) ?_<;>clear hcon)
    |(refine WpL.callF (hcon _ _ _ _ _ ?_) snapA locA outA rfl rfl rfl (by decide) ?_<;>clear hcon)
    |(refine WpL.callF (hcon _ _ _ _ _) snapA locA outA rfl rfl rfl (by decide) ?_<;>clear hcon)
    |(refine WpL.callF (hcon _ _ _ _ _ _ ?_) snapA locA outA rfl rfl rfl (by decide) ?_<;>clear hcon)
    |(refine WpL.callF (hcon _ _ _ _ _ _) snapA locA outA rfl rfl rfl (by decide) ?_<;>clear hcon)
    |(refine WpL.callF (hcon _ _ _ _ _ _ _ ?_) snapA locA outA rfl rfl rfl (by decide) ?_<;>clear hcon)
    |(refine WpL.callF (hcon _ _ _ _ _ _ _) snapA locA outA rfl rfl rfl (by decide) ?_<;>clear hcon)
    |(refine WpL.callF (hcon _ _ _ _ _ _ _ _ ?_) snapA locA outA rfl rfl rfl (by decide) ?_<;>clear hcon)
    |(refine WpL.callF (hcon _ _ _ _ _ _ _ _) snapA locA outA rfl rfl rfl (by decide) ?_<;>clear hcon)
    |(refine WpL.callF (hcon _ _ _ _ _ _ _ _ _ ?_) snapA locA outA rfl rfl rfl (by decide) ?_<;>clear hcon)
    |(refine WpL.callF (hcon _ _ _ _ _ _ _ _ _) snapA locA outA rfl rfl rfl (by decide) ?_<;>clear hcon)
    |(refine WpL.callF (hcon _ _ _ _ _ _ _ _ _ _ ?_) snapA locA outA rfl rfl rfl (by decide) ?_<;>clear hcon)
    |(refine WpL.callF (hcon _ _ _ _ _ _ _ _ _ _) snapA locA outA rfl rfl rfl (by decide) ?_<;>clear hcon)
    |(refine WpL.callF (hcon _ _ _ _ _ _ _ _ _ _ _ ?_) snapA locA outA rfl rfl rfl (by decide) ?_<;>clear hcon)
    |(refine WpL.callF (hcon _ _ _ _ _ _ _ _ _ _ _) snapA locA outA rfl rfl rfl (by decide) ?_<;>clear hcon)
    |(refine WpL.callF (hcon _ _ _ _ _ _ _ _ _ _ _ _ ?_) snapA locA outA rfl rfl rfl (by decide) ?_<;>clear hcon)
    |(refine WpL.callF (hcon _ _ _ _ _ _ _ _ _ _ _ _) snapA locA outA rfl rfl rfl (by decide) ?_<;>clear hcon)
    |(refine WpL.callF (hcon _ _ _ _ _ _ _ _ _ _ _ _ _ ?_) snapA locA outA rfl rfl rfl (by decide) ?_<;>clear hcon)
    |(refine WpL.callF (hcon _ _ _ _ _ _ _ _ _ _ _ _ _) snapA locA outA rfl rfl rfl (by decide) ?_<;>clear hcon)
    |(refine WpL.callF (hcon _ _ _ _ _ _ _ _ _ _ _ _ _ _ ?_) snapA locA outA rfl rfl rfl (by decide) ?_<;>clear hcon)
    |(refine WpL.callF (hcon _ _ _ _ _ _ _ _ _ _ _ _ _ _) snapA locA outA rfl rfl rfl (by decide) ?_<;>clear hcon)
    |(refine WpL.callF (hcon _ _ _ _ _ _ _ _ _ _ _ _ _ _ _ ?_) snapA locA outA rfl rfl rfl (by decide) ?_<;>clear hcon)
    |(refine WpL.callF (hcon _ _ _ _ _ _ _ _ _ _ _ _ _ _ _) snapA locA outA rfl rfl rfl (by decide) ?_<;>clear hcon)
    |(refine WpL.callF (hcon _ _ _ _ _ _ _ _ _ _ _ _ _ _ _ _ ?_) snapA locA outA rfl rfl rfl (by decide) ?_<;>clear hcon)
    |(refine WpL.callF (hcon _ _ _ _ _ _ _ _ _ _ _ _ _ _ _ _) snapA locA outA rfl rfl rfl (by decide) ?_<;>clear hcon)
    |(refine WpL.callF (hcon _ _ _ _ _ _ _ _ _ _ _ _ _ _ _ _ _ ?_) snapA locA outA rfl rfl rfl (by decide) ?_<;>clear hcon)
    |(refine WpL.callF (hcon _ _ _ _ _ _ _ _ _ _ _ _ _ _ _ _ _) snapA locA outA rfl rfl rfl (by decide) ?_<;>clear hcon)
    |(refine WpL.callF (hcon _ _ _ _ _ _ _ _ _ _ _ _ _ _ _ _ _ _ ?_) snapA locA outA rfl rfl rfl (by decide) ?_<;>clear hcon)
    |(refine WpL.callF (hcon _ _ _ _ _ _ _ _ _ _ _ _ _ _ _ _ _ _) snapA locA outA rfl rfl rfl (by decide) ?_<;>clear hcon))
   |(refine K.call ?_;refine K.conG (fun hcon=>?_);first
    |(refine WpL.callM (hs:=[_]) (hcon ?_) handA handOA rfl rfl outA outA rfl rfl rfl rfl (by decide) ?_<;>clear hcon)
    |(refine WpL.callM (hs:=[_]) (hcon) handA handOA rfl rfl outA outA rfl rfl rfl rfl (by decide) ?_<;>clear hcon)
    |(refine WpL.callM (hs:=[_]) (hcon _ ?_) handA handOA rfl rfl outA outA rfl rfl rfl rfl (by decide) ?_<;>clear hcon)
    |(refine WpL.callM (hs:=[_]) (hcon _) handA handOA rfl rfl outA outA rfl rfl rfl rfl (by decide) ?_<;>clear hcon)
    |(refine WpL.callM (hs:=[_]) (hcon _ _ ?_) handA handOA rfl rfl outA outA rfl rfl rfl rfl (by decide) ?_<;>clear hcon)
    |(refine WpL.callM (hs:=[_]) (hcon _ _) handA handOA rfl rfl outA outA rfl rfl rfl rfl (by decide) ?_<;>clear hcon)
    |(refine WpL.callM (hs:=[_]) (hcon _ _ _ ?_) handA handOA rfl rfl outA outA rfl rfl rfl rfl (by decide) ?_<;>clear hcon)
    |(refine WpL.callM (hs:=[_]) (hcon _ _ _) handA handOA rfl rfl outA outA rfl rfl rfl rfl (by decide) ?_<;>clear hcon)
    |(refine WpL.callM (hs:=[_]) (hcon _ _ _ _ ?_) handA handOA rfl rfl outA outA rfl rfl rfl rfl (by decide) ?_<;>clear hcon)
    |(refine WpL.callM (hs:=[_]) (hcon _ _ _ _) handA handOA rfl rfl outA outA rfl rfl rfl rfl (by decide) ?_<;>clear hcon)
    |(refine WpL.callM (hs:=[_]) (hcon _ _ _ _ _ ?_) handA handOA rfl rfl outA outA rfl rfl rfl rfl (by decide) ?_<;>clear hcon)
    |(refine WpL.callM (hs:=[_]) (hcon _ _ _ _ _) handA handOA rfl rfl outA outA rfl rfl rfl rfl (by decide) ?_<;>clear hcon)
    |(refine WpL.callM (hs:=[_]) (hcon _ _ _ _ _ _ ?_) handA handOA rfl rfl outA outA rfl rfl rfl rfl (by decide) ?_<;>clear hcon)
    |(refine WpL.callM (hs:=[_]) (hcon _ _ _ _ _ _) handA handOA rfl rfl outA outA rfl rfl rfl rfl (by decide) ?_<;>clear hcon)
    |(refine WpL.callM (hs:=[_]) (hcon _ _ _ _ _ _ _ ?_) handA handOA rfl rfl outA outA rfl rfl rfl rfl (by decide) ?_<;>clear hcon)
    |(refine WpL.callM (hs:=[_]) (hcon _ _ _ _ _ _ _) handA handOA rfl rfl outA outA rfl rfl rfl rfl (by decide) ?_<;>clear hcon)
    |(refine WpL.callM (hs:=[_]) (hcon _ _ _ _ _ _ _ _ ?_) handA handOA rfl rfl outA outA rfl rfl rfl rfl (by decide) ?_<;>clear hcon)
    |(refine WpL.callM (hs:=[_]) (hcon _ _ _ _ _ _ _ _) handA handOA rfl rfl outA outA rfl rfl rfl rfl (by decide) ?_<;>clear hcon)
    |(refine WpL.callM (hs:=[_,_]) (hcon ?_) handA handOA rfl rfl outA outA rfl rfl rfl rfl (by decide) ?_<;>clear hcon)
    |(refine WpL.callM (hs:=[_,_]) (hcon) handA handOA rfl rfl outA outA rfl rfl rfl rfl (by decide) ?_<;>clear hcon)
    |(refine WpL.callM (hs:=[_,_]) (hcon _ ?_) handA handOA rfl rfl outA outA rfl rfl rfl rfl (by decide) ?_<;>clear hcon)
    |(refine WpL.callM (hs:=[_,_]) (hcon _) handA handOA rfl rfl outA outA rfl rfl rfl rfl (by decide) ?_<;>clear hcon)
    |(refine WpL.callM (hs:=[_,_]) (hcon _ _ ?_) handA handOA rfl rfl outA outA rfl rfl rfl rfl (by decide) ?_<;>clear hcon)
    |(refine WpL.callM (hs:=[_,_]) (hcon _ _) handA handOA rfl rfl outA outA rfl rfl rfl rfl (by decide) ?_<;>clear hcon)
    |(refine WpL.callM (hs:=[_,_]) (hcon _ _ _ ?_) handA handOA rfl rfl outA outA rfl rfl rfl rfl (by decide) ?_<;>clear hcon)
    |(refine WpL.callM (hs:=[_,_]) (hcon _ _ _) handA handOA rfl rfl outA outA rfl rfl rfl rfl (by decide) ?_<;>clear hcon)
    |(refine WpL.callM (hs:=[_,_]) (hcon _ _ _ _ ?_) handA handOA rfl rfl outA outA rfl rfl rfl rfl (by decide) ?_<;>clear hcon)
    |(refine WpL.callM (hs:=[_,_]) (hcon _ _ _ _) handA handOA rfl rfl outA outA rfl rfl rfl rfl (by decide) ?_<;>clear hcon)
    |(refine WpL.callM (hs:=[_,_]) (hcon _ _ _ _ _ ?_) handA handOA rfl rfl outA outA rfl rfl rfl rfl (by decide) ?_<;>clear hcon)
    |(refine WpL.callM (hs:=[_,_]) (hcon _ _ _ _ _) handA handOA rfl rfl outA outA rfl rfl rfl rfl (by decide) ?_<;>clear hcon)
    |(refine WpL.callM (hs:=[_,_]) (hcon _ _ _ _ _ _ ?_) handA handOA rfl rfl outA outA rfl rfl rfl rfl (by decide) ?_<;>clear hcon)
    |(refine WpL.callM (hs:=[_,_]) (hcon _ _ _ _ _ _) handA handOA rfl rfl outA outA rfl rfl rfl rfl (by decide) ?_<;>clear hcon)
    |(refine WpL.callM (hs:=[_,_]) (hcon _ _ _ _ _ _ _ ?_) handA handOA rfl rfl outA outA rfl rfl rfl rfl (by decide) ?_<;>clear hcon)
    |(refine WpL.callM (hs:=[_,_]) (hcon _ _ _ _ _ _ _) handA handOA rfl rfl outA outA rfl rfl rfl rfl (by decide) ?_<;>clear hcon)
    |(refine WpL.callM (hs:=[_,_]) (hcon _ _ _ _ _ _ _ _ ?_) handA handOA rfl rfl outA outA rfl rfl rfl rfl (by decide) ?_<;>clear hcon)
    |(refine WpL.callM (hs:=[_,_]) (hcon _ _ _ _ _ _ _ _) handA handOA rfl rfl outA outA rfl rfl rfl rfl (by decide) ?_<;>clear hcon)
    |(refine WpL.callM (hs:=[_,_,_]) (hcon ?_) handA handOA rfl rfl outA outA rfl rfl rfl rfl (by decide) ?_<;>clear hcon)
    |(refine WpL.callM (hs:=[_,_,_]) (hcon) handA handOA rfl rfl outA outA rfl rfl rfl rfl (by decide) ?_<;>clear hcon)
    |(refine WpL.callM (hs:=[_,_,_]) (hcon _ ?_) handA handOA rfl rfl outA outA rfl rfl rfl rfl (by decide) ?_<;>clear hcon)
    |(refine WpL.callM (hs:=[_,_,_]) (hcon _) handA handOA rfl rfl outA outA rfl rfl rfl rfl (by decide) ?_<;>clear hcon)
    |(refine WpL.callM (hs:=[_,_,_]) (hcon _ _ ?_) handA handOA rfl rfl outA outA rfl rfl rfl rfl (by decide) ?_<;>clear hcon)
    |(refine WpL.callM (hs:=[_,_,_]) (hcon _ _) handA handOA rfl rfl outA outA rfl rfl rfl rfl (by decide) ?_<;>clear hcon)
    |(refine WpL.callM (hs:=[_,_,_]) (hcon _ _ _ ?_) handA handOA rfl rfl outA outA rfl rfl rfl rfl (by decide) ?_<;>clear hcon)
    |(refine WpL.callM (hs:=[_,_,_]) (hcon _ _ _) handA handOA rfl rfl outA outA rfl rfl rfl rfl (by decide) ?_<;>clear hcon)
    |(refine WpL.callM (hs:=[_,_,_]) (hcon _ _ _ _ ?_) handA handOA rfl rfl outA outA rfl rfl rfl rfl (by decide) ?_<;>clear hcon)
    |(refine WpL.callM (hs:=[_,_,_]) (hcon _ _ _ _) handA handOA rfl rfl outA outA rfl rfl rfl rfl (by decide) ?_<;>clear hcon)
    |(refine WpL.callM (hs:=[_,_,_]) (hcon _ _ _ _ _ ?_) handA handOA rfl rfl outA outA rfl rfl rfl rfl (by decide) ?_<;>clear hcon)
    |(refine WpL.callM (hs:=[_,_,_]) (hcon _ _ _ _ _) handA handOA rfl rfl outA outA rfl rfl rfl rfl (by decide) ?_<;>clear hcon)
    |(refine WpL.callM (hs:=[_,_,_]) (hcon _ _ _ _ _ _ ?_) handA handOA rfl rfl outA outA rfl rfl rfl rfl (by decide) ?_<;>clear hcon)
    |(refine WpL.callM (hs:=[_,_,_]) (hcon _ _ _ _ _ _) handA handOA rfl rfl outA outA rfl rfl rfl rfl (by decide) ?_<;>clear hcon)
    |(refine WpL.callM (hs:=[_,_,_]) (hcon _ _ _ _ _ _ _ ?_) handA handOA rfl rfl outA outA rfl rfl rfl rfl (by decide) ?_<;>clear hcon)
    |(refine WpL.callM (hs:=[_,_,_]) (hcon _ _ _ _ _ _ _) handA handOA rfl rfl outA outA rfl rfl rfl rfl (by decide) ?_<;>clear hcon)
    |(refine WpL.callM (hs:=[_,_,_]) (hcon _ _ _ _ _ _ _ _ ?_) handA handOA rfl rfl outA outA rfl rfl rfl rfl (by decide) ?_<;>clear hcon)
    |(refine WpL.callM (hs:=[_,_,_]) (hcon _ _ _ _ _ _ _ _) handA handOA rfl rfl outA outA rfl rfl rfl rfl (by decide) ?_<;>clear hcon)
    |(refine WpL.callM (hs:=[_,_,_,_]) (hcon ?_) handA handOA rfl rfl outA outA rfl rfl rfl rfl (by decide) ?_<;>clear hcon)
    |(refine WpL.callM (hs:=[_,_,_,_]) (hcon) handA handOA rfl rfl outA outA rfl rfl rfl rfl (by decide) ?_<;>clear hcon)
    |(refine WpL.callM (hs:=[_,_,_,_]) (hcon _ ?_) handA handOA rfl rfl outA outA rfl rfl rfl rfl (by decide) ?_<;>clear hcon)
    |(refine WpL.callM (hs:=[_,_,_,_]) (hcon _) handA handOA rfl rfl outA outA rfl rfl rfl rfl (by decide) ?_<;>clear hcon)
    |(refine WpL.callM (hs:=[_,_,_,_]) (hcon _ _ ?_) handA handOA rfl rfl outA outA rfl rfl rfl rfl (by decide) ?_<;>clear hcon)
    |(refine WpL.callM (hs:=[_,_,_,_]) (hcon _ _) handA handOA rfl rfl outA outA rfl rfl rfl rfl (by decide) ?_<;>clear hcon)
    |(refine WpL.callM (hs:=[_,_,_,_]) (hcon _ _ _ ?_) handA handOA rfl rfl outA outA rfl rfl rfl rfl (by decide) ?_<;>clear hcon)
    |(refine WpL.callM (hs:=[_,_,_,_]) (hcon _ _ _) handA handOA rfl rfl outA outA rfl rfl rfl rfl (by decide) ?_<;>clear hcon)
    |(refine WpL.callM (hs:=[_,_,_,_]) (hcon _ _ _ _ ?_) handA handOA rfl rfl outA outA rfl rfl rfl rfl (by decide) ?_<;>clear hcon)
    |(refine WpL.callM (hs:=[_,_,_,_]) (hcon _ _ _ _) handA handOA rfl rfl outA outA rfl rfl rfl rfl (by decide) ?_<;>clear hcon)
    |(refine WpL.callM (hs:=[_,_,_,_]) (hcon _ _ _ _ _ ?_) handA handOA rfl rfl outA outA rfl rfl rfl rfl (by decide) ?_<;>clear hcon)
    |(refine WpL.callM (hs:=[_,_,_,_]) (hcon _ _ _ _ _) handA handOA rfl rfl outA outA rfl rfl rfl rfl (by decide) ?_<;>clear hcon)
    |(refine WpL.callM (hs:=[_,_,_,_]) (hcon _ _ _ _ _ _ ?_) handA handOA rfl rfl outA outA rfl rfl rfl rfl (by decide) ?_<;>clear hcon)
    |(refine WpL.callM (hs:=[_,_,_,_]) (hcon _ _ _ _ _ _) handA handOA rfl rfl outA outA rfl rfl rfl rfl (by decide) ?_<;>clear hcon)
    |(refine WpL.callM (hs:=[_,_,_,_]) (hcon _ _ _ _ _ _ _ ?_) handA handOA rfl rfl outA outA rfl rfl rfl rfl (by decide) ?_<;>clear hcon)
    |(refine WpL.callM (hs:=[_,_,_,_]) (hcon _ _ _ _ _ _ _) handA handOA rfl rfl outA outA rfl rfl rfl rfl (by decide) ?_<;>clear hcon)
    |(refine WpL.callM (hs:=[_,_,_,_]) (hcon _ _ _ _ _ _ _ _ ?_) handA handOA rfl rfl outA outA rfl rfl rfl rfl (by decide) ?_<;>clear hcon)
    |(refine WpL.callM (hs:=[_,_,_,_]) (hcon _ _ _ _ _ _ _ _) handA handOA rfl rfl outA outA rfl rfl rfl rfl (by decide) ?_<;>clear hcon))
   |(refine K.call ?_;refine K.conB (fun hcon=>?_);first
    |(refine WpL.callB (hcon ?_) snapA locA outA locA outA rfl rfl rfl rfl rfl (by decide) ?_ ?_<;>clear hcon)
    |(refine WpL.callB (hcon) snapA locA outA locA outA rfl rfl rfl rfl rfl (by decide) ?_ ?_<;>clear hcon)
    |(refine WpL.callB (hcon _ ?_) snapA locA outA locA outA rfl rfl rfl rfl rfl (by decide) ?_ ?_<;>clear hcon)
    |(refine WpL.callB (hcon _) snapA locA outA locA outA rfl rfl rfl rfl rfl (by decide) ?_ ?_<;>clear hcon)
    |(refine WpL.callB (hcon _ _ ?_) snapA locA outA locA outA rfl rfl rfl rfl rfl (by decide) ?_ ?_<;>clear hcon)
    |(refine WpL.callB (hcon _ _) snapA locA outA locA outA rfl rfl rfl rfl rfl (by decide) ?_ ?_<;>clear hcon)
    |(refine WpL.callB (hcon _ _ _ ?_) snapA locA outA locA outA rfl rfl rfl rfl rfl (by decide) ?_ ?_<;>clear hcon)
    |(refine WpL.callB (hcon _ _ _) snapA locA outA locA outA rfl rfl rfl rfl rfl (by decide) ?_ ?_<;>clear hcon)
    |(refine WpL.callB (hcon _ _ _ _ ?_) snapA locA outA locA outA rfl rfl rfl rfl rfl (by decide) ?_ ?_<;>clear hcon)
    |(refine WpL.callB (hcon _ _ _ _) snapA locA outA locA outA rfl rfl rfl rfl rfl (by decide) ?_ ?_<;>clear hcon)
    |(refine WpL.callB (hcon _ _ _ _ _ ?_) snapA locA outA locA outA rfl rfl rfl rfl rfl (by decide) ?_ ?_<;>clear hcon)
    |(refine WpL.callB (hcon _ _ _ _ _) snapA locA outA locA outA rfl rfl rfl rfl rfl (by decide) ?_ ?_<;>clear hcon)
    |(refine WpL.callB (hcon _ _ _ _ _ _ ?_) snapA locA outA locA outA rfl rfl rfl rfl rfl (by decide) ?_ ?_<;>clear hcon)
    |(refine WpL.callB (hcon _ _ _ _ _ _) snapA locA outA locA outA rfl rfl rfl rfl rfl (by decide) ?_ ?_<;>clear hcon)
    |(refine WpL.callB (hcon _ _ _ _ _ _ _ ?_) snapA locA outA locA outA rfl rfl rfl rfl rfl (by decide) ?_ ?_<;>clear hcon)
    |(refine WpL.callB (hcon _ _ _ _ _ _ _) snapA locA outA locA outA rfl rfl rfl rfl rfl (by decide) ?_ ?_<;>clear hcon)
    |(refine WpL.callB (hcon _ _ _ _ _ _ _ _ ?_) snapA locA outA locA outA rfl rfl rfl rfl rfl (by decide) ?_ ?_<;>clear hcon)
    |(refine WpL.callB (hcon _ _ _ _ _ _ _ _) snapA locA outA locA outA rfl rfl rfl rfl rfl (by decide) ?_ ?_<;>clear hcon))
   |(refine K.call ?_;refine K.conP (fun hcon=>?_);first
    |(refine WpL.callP (hs:=[_]) (hcon ?_) (by assumption) handA handOA rfl rfl (.cons rfl (.sc (.sc (.sc .nil))) .nil) outA rfl rfl rfl rfl (by decide) ?_<;>clear hcon)
    |(refine WpL.callP (hs:=[_]) (hcon) (by assumption) handA handOA rfl rfl (.cons rfl (.sc (.sc (.sc .nil))) .nil) outA rfl rfl rfl rfl (by decide) ?_<;>clear hcon)
    |(refine WpL.callP (hs:=[_]) (hcon _ ?_) (by assumption) handA handOA rfl rfl (.cons rfl (.sc (.sc (.sc .nil))) .nil) outA rfl rfl rfl rfl (by decide) ?_<;>clear hcon)
    |(refine WpL.callP (hs:=[_]) (hcon _) (by assumption) handA handOA rfl rfl (.cons rfl (.sc (.sc (.sc .nil))) .nil) outA rfl rfl rfl rfl (by decide) ?_<;>clear hcon)
    |(refine WpL.callP (hs:=[_]) (hcon _ _ ?_) (by assumption) handA handOA rfl rfl (.cons rfl (.sc (.sc (.sc .nil))) .nil) outA rfl rfl rfl rfl (by decide) ?_<;>clear hcon)
    |(refine WpL.callP (hs:=[_]) (hcon _ _) (by assumption) handA handOA rfl rfl (.cons rfl (.sc (.sc (.sc .nil))) .nil) outA rfl rfl rfl rfl (by decide) ?_<;>clear hcon)
    |(refine WpL.callP (hs:=[_]) (hcon _ _ _ ?_) (by assumption) handA handOA rfl rfl (.cons rfl (.sc (.sc (.sc .nil))) .nil) outA rfl rfl rfl rfl (by decide) ?_<;>clear hcon)
    |(refine WpL.callP (hs:=[_]) (hcon _ _ _) (by assumption) handA handOA rfl rfl (.cons rfl (.sc (.sc (.sc .nil))) .nil) outA rfl rfl rfl rfl (by decide) ?_<;>clear hcon)
    |(refine WpL.callP (hs:=[_]) (hcon _ _ _ _ ?_) (by assumption) handA handOA rfl rfl (.cons rfl (.sc (.sc (.sc .nil))) .nil) outA rfl rfl rfl rfl (by decide) ?_<;>clear hcon)
    |(refine WpL.callP (hs:=[_]) (hcon _ _ _ _) (by assumption) handA handOA rfl rfl (.cons rfl (.sc (.sc (.sc .nil))) .nil) outA rfl rfl rfl rfl (by decide) ?_<;>clear hcon)
    |(refine WpL.callP (hs:=[_]) (hcon _ _ _ _ _ ?_) (by assumption) handA handOA rfl rfl (.cons rfl (.sc (.sc (.sc .nil))) .nil) outA rfl rfl rfl rfl (by decide) ?_<;>clear hcon)
    |(refine WpL.callP (hs:=[_]) (hcon _ _ _ _ _) (by assumption) handA handOA rfl rfl (.cons rfl (.sc (.sc (.sc .nil))) .nil) outA rfl rfl rfl rfl (by decide) ?_<;>clear hcon)
    |(refine WpL.callP (hs:=[_]) (hcon _ _ _ _ _ _ ?_) (by assumption) handA handOA rfl rfl (.cons rfl (.sc (.sc (.sc .nil))) .nil) outA rfl rfl rfl rfl (by decide) ?_<;>clear hcon)
    |(refine WpL.callP (hs:=[_]) (hcon _ _ _ _ _ _) (by assumption) handA handOA rfl rfl (.cons rfl (.sc (.sc (.sc .nil))) .nil) outA rfl rfl rfl rfl (by decide) ?_<;>clear hcon)
    |(refine WpL.callP (hs:=[_]) (hcon _ _ _ _ _ _ _ ?_) (by assumption) handA handOA rfl rfl (.cons rfl (.sc (.sc (.sc .nil))) .nil) outA rfl rfl rfl rfl (by decide) ?_<;>clear hcon)
    |(refine WpL.callP (hs:=[_]) (hcon _ _ _ _ _ _ _) (by assumption) handA handOA rfl rfl (.cons rfl (.sc (.sc (.sc .nil))) .nil) outA rfl rfl rfl rfl (by decide) ?_<;>clear hcon)
    |(refine WpL.callP (hs:=[_]) (hcon _ _ _ _ _ _ _ _ ?_) (by assumption) handA handOA rfl rfl (.cons rfl (.sc (.sc (.sc .nil))) .nil) outA rfl rfl rfl rfl (by decide) ?_<;>clear hcon)
    |(refine WpL.callP (hs:=[_]) (hcon _ _ _ _ _ _ _ _) (by assumption) handA handOA rfl rfl (.cons rfl (.sc (.sc (.sc .nil))) .nil) outA rfl rfl rfl rfl (by decide) ?_<;>clear hcon)
    |(refine WpL.callP (hs:=[_]) (hcon _ _ _ _ _ _ _ _ _ ?_) (by assumption) handA handOA rfl rfl (.cons rfl (.sc (.sc (.sc .nil))) .nil) outA rfl rfl rfl rfl (by decide) ?_<;>clear hcon)
    |(refine WpL.callP (hs:=[_]) (hcon _ _ _ _ _ _ _ _ _) (by assumption) handA handOA rfl rfl (.cons rfl (.sc (.sc (.sc .nil))) .nil) outA rfl rfl rfl rfl (by decide) ?_<;>clear hcon)
    |(refine WpL.callP (hs:=[_]) (hcon _ _ _ _ _ _ _ _ _ _ ?_) (by assumption) handA handOA rfl rfl (.cons rfl (.sc (.sc (.sc .nil))) .nil) outA rfl rfl rfl rfl (by decide) ?_<;>clear hcon)
    |(refine WpL.callP (hs:=[_]) (hcon _ _ _ _ _ _ _ _ _ _) (by assumption) handA handOA rfl rfl (.cons rfl (.sc (.sc (.sc .nil))) .nil) outA rfl rfl rfl rfl (by decide) ?_<;>clear hcon))
   |(refine K.callT ?_;refine K.conV rfl (fun hcon=>?_);first
    |(refine WpL.callVF rfl (hcon _ _ _ _ _ _ _ _ _ _ _ _) rfl snapA locA outA rfl rfl rfl (by decide) ?_<;>clear hcon))
   |(refine K.mkF ?_;refine WpL.makeFunc rfl (by decide) ?_)
   |(refine K.bi ?_;first
    |(refine K.blen ?_;first
     |refine WpL.lenImm (TabOk.slice tabOk rfl).1 rfl (by decide) ?_
     |refine WpL.lenOwn (TabOk.slice tabOk rfl).1 rfl rfl rfl (by decide) ?_)
    |(refine K.bapp ?_;first
     |refine WpL.app1Ints tabOk rfl rfl rfl (by first|exact Nat.zero_le _|exact Nat.le_of_ble_eq_true rfl) rfl rfl (by first|rfl|omega|(simp;done)|(simp;omega)) (by omega) (by decide) ?_
     |refine WpL.appInts tabOk rfl rfl rfl (by first|exact Nat.zero_le _|exact Nat.le_of_ble_eq_true rfl) rfl rfl (by first|rfl|omega|(simp;done)|(simp;omega)) (by first|rfl|omega|(simp;done)|(simp;omega)) (by omega) (by decide) ?_
     |refine WpL.nil1Ints tabOk rfl rfl rfl rfl (by omega) rfl (by decide) ?_
     |refine WpL.appRow (f:=prF) (v:=(_,_)) tabOk rfl rfl rfl (by first|exact Nat.zero_le _|exact Nat.le_of_ble_eq_true rfl) rfl rfl (fun _=>rfl) rfl rfl (by first|rfl|omega|(simp;done)|(simp;omega)) (by omega) (by decide) ?_
     |refine WpL.appRow (f:=plF) (v:=(_,_,_)) tabOk rfl rfl rfl (by first|exact Nat.zero_le _|exact Nat.le_of_ble_eq_true rfl) rfl rfl (fun _=>rfl) rfl rfl (by first|rfl|omega|(simp;done)|(simp;omega)) (by omega) (by decide) ?_
     |refine WpL.appOwn tabOk rfl rfl rfl rfl rfl rfl (by simp) (by first|exact Nat.zero_le _|exact Nat.le_of_ble_eq_true rfl) rfl rfl (by simp) (by simp [all_ints,all_u8s,all_strs,oneB,Value.oneCell']) (by omega) (by decide) ?_
     |refine WpL.appNil tabOk rfl rfl rfl rfl (by simp) (by simp [all_ints,all_u8s,all_strs,oneB,Value.oneCell']) (by omega) rfl (by decide) ?_)
    |refine WpL.min2 rfl rfl (by decide) ?_
    |refine WpL.max2 rfl rfl (by decide) ?_)
   |(refine K.un ?_;first
    |refine WpL.not rfl (by decide) ?_
    |refine WpL.neg rfl (by omega) (by decide) ?_)
   |(refine K.pick ?_;first
    |refine WpL.pickT rfl rfl (by decide) ?_
    |refine WpL.pickF rfl rfl (by decide) ?_)
   |(refine K.bld ?_;refine WpL.build tabOk rfl rfl (by kernel_rfl) (by decide) ?_)
   |(refine K.ext ?_;refine WpL.extract rfl rfl (by first|decide|simp [AV.shL]) (by decide) ?_)
   |(refine K.cv ?_;first
    |refine WpL.conv (P:=Tryz.prog) (by rfl) (K.tyInt tabOk rfl) rfl (by decide) ?_)
   |(refine K.lit ?_;first
    |refine WpL.lit0Ints tabOk rfl rfl rfl (by decide) ?_
    |refine WpL.litInts tabOk rfl rfl rfl rfl rfl (by decide) rfl (by decide) ?_
    |refine WpL.litStrs tabOk rfl rfl rfl rfl rfl (by decide) rfl (by decide) ?_
    |(apply WpL.litLis tabOk
      ·exact rfl
      ·exact rfl
      ·exact rfl
      ·exact rfl
      ·decide
      ·exact rfl
      ·exact rfl
      ·exact rfl
      ·decide
      ·repeat' (first
        |exact NestC.nil
        |(apply NestC.cons
          ·exact rfl
          ·exact rfl
          ·exact rfl
          ·exact rfl
          ·first|exact Nat.zero_le _|exact Nat.le_of_ble_eq_true rfl
          ·exact rfl
          ·first|rfl|exact still_ints _
          ·first|rfl|simp
          ·exact rfl))
      ·exact rfl
      ·exact rfl)
    |refine WpL.litF tabOk rfl rfl rfl rfl (by decide) rfl (by decide) ?_)
   |(refine K.ms ?_;first
    |refine WpL.makeInts tabOk rfl rfl rfl (by omega) (by omega) rfl (by decide) ?_)
   |(refine K.st ?_;first
    |refine WpL.storeInts tabOk rfl rfl rfl rfl rfl (by first|omega|(simp;omega)) ?_
    |refine WpL.storeSlot tabOk rfl rfl rfl rfl rfl rfl (by first|rfl|omega|(simp;done)|(simp;omega)) (by first|omega|(simp;omega)|(simp;done)) ?_
    |refine WpL.storeS tabOk rfl rfl rfl rfl rfl rfl rfl rfl (by first|decide|omega|(simp;omega)|(simp;done)) (by first|(simp only [Go.Abs.setL,List.set_cons_zero,List.set_cons_succ,Nat.zero_add,Nat.reduceAdd];exact rfl)|exact rfl) ?_)
   |(refine K.all ?_;first
    |refine WpL.allocStruct tabOk rfl rfl (by decide) ?_
    |refine WpL.allocPlain tabOk rfl rfl rfl (by decide) ?_)
   |(refine K.box ?_;refine WpL.box rfl rfl rfl (by decide) ?_)
   |(refine K.nc ?_;first
    |refine WpL.nilCheckP rfl rfl rfl (by decide) ?_)
   |(refine K.sl ?_;first
    |refine WpL.subIntsHi tabOk rfl rfl rfl (by first|rfl|omega|(simp;done)|(simp;omega)) (by omega) (by decide) ?_
    |refine WpL.subImm tabOk rfl rfl (by first|exact .inl ⟨rfl,rfl⟩|exact .inr ⟨_,_,rfl,rfl⟩) (by first|exact .inl ⟨rfl,rfl⟩|exact .inr ⟨_,_,rfl,rfl⟩) (by omega) (by decide) ?_)
   |(refine K.gd ?_;first
    |refine K.gT rfl (by decide) rfl ?_
    |refine K.gF rfl (by decide) rfl ?_
    |(refine K.gD rfl rfl (fun hgo=>?_) (fun hgo=>?_)<;>(try (first|contradiction|(exfalso;omega))))
    |(refine K.gN rfl rfl (fun hgo=>?_) (fun hgo=>?_)<;>(try (first|contradiction|(exfalso;omega)))))
   |((repeat (revert hgo));(repeat ((fail_if_success with_reducible apply Hold.h hold);replace hold:=Hold.t hold));with_reducible apply Hold.h hold))
  |refine WpL.nil ?_
  |refine Abs.Seq.n ?_
  |(refine K.A ?_;first
   |refine WpA.seq ?_
   |refine WpA.regionF rfl ?_
   |(refine K.cond ?_;first
    |refine WpA.condT rfl ?_
    |refine WpA.condF rfl ?_
    |(refine WpA.condD rfl (fun hgo=>?_) (fun hgo=>?_)<;>(try (first|contradiction|(exfalso;omega))))
    |(refine WpA.condN rfl (fun hgo=>?_) (fun hgo=>?_)<;>(try (first|contradiction|(exfalso;omega))))
    |(refine WpA.condS rfl (fun hgo=>?_) (fun hgo=>?_)<;>(try (first|contradiction|(exfalso;omega)))))
   |refine WpA.block ?_
   |refine WpA.ret ?_
   |refine WpA.exit ?_
   |refine WpA.skip ?_
   |(refine K.loop ?_;((repeat (revert hgo));(repeat ((fail_if_success with_reducible apply Hold.h hold);replace hold:=Hold.t hold));with_reducible apply Hold.h hold))
   |(refine WpA.flat rfl ?_;first
    |(apply WpA.regionMB 2 mixed (by decide +kernel);(· exact rfl);(· exact headA);(· exact trueA);(· exact trueA);(· exact rfl);(· exact rfl))
    |(apply WpA.regionMB 3 mixed (by decide +kernel);(· exact rfl);(· exact headA);(· exact trueA);(· exact trueA);(· exact rfl);(· exact rfl))
    |(apply WpA.regionMB 4 mixed (by decide +kernel);(· exact rfl);(· exact headA);(· exact trueA);(· exact trueA);(· exact rfl);(· exact rfl))
    |(apply WpA.regionMB 6 mixed (by decide +kernel);(· exact rfl);(· exact headA);(· exact trueA);(· exact trueA);(· exact rfl);(· exact rfl))
    |(apply WpA.regionMB 7 mixed (by decide +kernel);(· exact rfl);(· exact headA);(· exact trueA);(· exact trueA);(· exact rfl);(· exact rfl))
    |(apply WpA.regionMB 8 mixed (by decide +kernel);(· exact rfl);(· exact headA);(· exact trueA);(· exact trueA);(· exact rfl);(· exact rfl))
    |(apply WpA.regionMB 10 mixed (by decide +kernel);(· exact rfl);(· exact headA);(· exact trueA);(· exact trueA);(· exact rfl);(· exact rfl))
    |(apply WpA.regionMB 11 mixed (by decide +kernel);(· exact rfl);(· exact headA);(· exact trueA);(· exact trueA);(· exact rfl);(· exact rfl))
    |(apply WpA.regionMB 13 mixed (by decide +kernel);(· exact rfl);(· exact headA);(· exact trueA);(· exact trueA);(· exact rfl);(· exact rfl))
    |(apply WpA.regionMB 14 mixed (by decide +kernel);(· exact rfl);(· exact headA);(· exact trueA);(· exact trueA);(· exact rfl);(· exact rfl))
    |(apply WpA.regionMB 16 mixed (by decide +kernel);(· exact rfl);(· exact headA);(· exact trueA);(· exact trueA);(· exact rfl);(· exact rfl))
    |(apply WpA.regionMB 17 mixed (by decide +kernel);(· exact rfl);(· exact headA);(· exact trueA);(· exact trueA);(· exact rfl);(· exact rfl))
    |(apply WpA.regionMB 18 mixed (by decide +kernel);(· exact rfl);(· exact headA);(· exact trueA);(· exact trueA);(· exact rfl);(· exact rfl))
    |(apply WpA.regionMB 24 mixed (by decide +kernel);(· exact rfl);(· exact headA);(· exact trueA);(· exact trueA);(· exact rfl);(· exact rfl))
    |(apply WpA.regionMB 27 mixed (by decide +kernel);(· exact rfl);(· exact headA);(· exact trueA);(· exact trueA);(· exact rfl);(· exact rfl))
    |(apply WpA.regionMB 31 mixed (by decide +kernel);(· exact rfl);(· exact headA);(· exact trueA);(· exact trueA);(· exact rfl);(· exact rfl))
    |(apply WpA.regionMB 32 mixed (by decide +kernel);(· exact rfl);(· exact headA);(· exact trueA);(· exact trueA);(· exact rfl);(· exact rfl))
    |(apply WpA.regionMB 34 mixed (by decide +kernel);(· exact rfl);(· exact headA);(· exact trueA);(· exact trueA);(· exact rfl);(· exact rfl))
    |(apply WpA.regionMB 36 mixed (by decide +kernel);(· exact rfl);(· exact headA);(· exact trueA);(· exact trueA);(· exact rfl);(· exact rfl))
    |(apply WpA.regionNO 1 mixed (by decide +kernel);(· exact rfl);(· exact rfl);(· exact headA);(· exact trueA);(· exact trueA);(· exact rfl);(· exact rfl);(· exact rfl))
    |(apply WpA.regionNO 3 mixed (by decide +kernel);(· exact rfl);(· exact rfl);(· exact headA);(· exact trueA);(· exact trueA);(· exact rfl);(· exact rfl);(· exact rfl))
    |(apply WpA.regionNO 4 mixed (by decide +kernel);(· exact rfl);(· exact rfl);(· exact headA);(· exact trueA);(· exact trueA);(· exact rfl);(· exact rfl);(· exact rfl))
    |(apply WpA.regionNO 5 mixed (by decide +kernel);(· exact rfl);(· exact rfl);(· exact headA);(· exact trueA);(· exact trueA);(· exact rfl);(· exact rfl);(· exact rfl))
    |(apply WpA.regionNO 6 mixed (by decide +kernel);(· exact rfl);(· exact rfl);(· exact headA);(· exact trueA);(· exact trueA);(· exact rfl);(· exact rfl);(· exact rfl))
    |(apply WpA.regionNO 7 mixed (by decide +kernel);(· exact rfl);(· exact rfl);(· exact headA);(· exact trueA);(· exact trueA);(· exact rfl);(· exact rfl);(· exact rfl))
    |(apply WpA.regionNO 8 mixed (by decide +kernel);(· exact rfl);(· exact rfl);(· exact headA);(· exact trueA);(· exact trueA);(· exact rfl);(· exact rfl);(· exact rfl))
    |(apply WpA.regionNO 9 mixed (by decide +kernel);(· exact rfl);(· exact rfl);(· exact headA);(· exact trueA);(· exact trueA);(· exact rfl);(· exact rfl);(· exact rfl))
    |(apply WpA.regionNO 11 mixed (by decide +kernel);(· exact rfl);(· exact rfl);(· exact headA);(· exact trueA);(· exact trueA);(· exact rfl);(· exact rfl);(· exact rfl))
    |(apply WpA.regionNO 12 mixed (by decide +kernel);(· exact rfl);(· exact rfl);(· exact headA);(· exact trueA);(· exact trueA);(· exact rfl);(· exact rfl);(· exact rfl))
    |(apply WpA.regionNO 13 mixed (by decide +kernel);(· exact rfl);(· exact rfl);(· exact headA);(· exact trueA);(· exact trueA);(· exact rfl);(· exact rfl);(· exact rfl))
    |(apply WpA.regionNO 17 mixed (by decide +kernel);(· exact rfl);(· exact rfl);(· exact headA);(· exact trueA);(· exact trueA);(· exact rfl);(· exact rfl);(· exact rfl))
    |(apply WpA.regionNO 20 mixed (by decide +kernel);(· exact rfl);(· exact rfl);(· exact headA);(· exact trueA);(· exact trueA);(· exact rfl);(· exact rfl);(· exact rfl))
    |(apply WpA.regionNO 24 mixed (by decide +kernel);(· exact rfl);(· exact rfl);(· exact headA);(· exact trueA);(· exact trueA);(· exact rfl);(· exact rfl);(· exact rfl))
    |(apply WpA.regionNO 31 mixed (by decide +kernel);(· exact rfl);(· exact rfl);(· exact headA);(· exact trueA);(· exact trueA);(· exact rfl);(· exact rfl);(· exact rfl))
    |(apply WpA.regionNO 32 mixed (by decide +kernel);(· exact rfl);(· exact rfl);(· exact headA);(· exact trueA);(· exact trueA);(· exact rfl);(· exact rfl);(· exact rfl))
    |(apply WpA.regionNO 36 mixed (by decide +kernel);(· exact rfl);(· exact rfl);(· exact headA);(· exact trueA);(· exact trueA);(· exact rfl);(· exact rfl);(· exact rfl))
    |(apply WpA.regionNO 40 mixed (by decide +kernel);(· exact rfl);(· exact rfl);(· exact headA);(· exact trueA);(· exact trueA);(· exact rfl);(· exact rfl);(· exact rfl))
    |refine WpA.regionTB 3 mixed (by decide +kernel) ?_
    |refine WpA.regionTB 4 mixed (by decide +kernel) ?_
    |refine WpA.regionTB 9 mixed (by decide +kernel) ?_
    |refine WpA.regionTB 12 mixed (by decide +kernel) ?_
    |refine WpA.regionTB 16 mixed (by decide +kernel) ?_
    |(apply WpA.regionGB 1 mixed (by decide +kernel);(· exact rfl);(· exact headA);(· exact trueA);(· exact trueA);(· exact trueA);(· exact demA);(· exact rfl);(· exact rfl))
    |(apply WpA.regionGB 3 mixed (by decide +kernel);(· exact rfl);(· exact headA);(· exact trueA);(· exact trueA);(· exact trueA);(· exact demA);(· exact rfl);(· exact rfl))
    |(apply WpA.regionGB 4 mixed (by decide +kernel);(· exact rfl);(· exact headA);(· exact trueA);(· exact trueA);(· exact trueA);(· exact demA);(· exact rfl);(· exact rfl))
    |(apply WpA.regionGB 5 mixed (by decide +kernel);(· exact rfl);(· exact headA);(· exact trueA);(· exact trueA);(· exact trueA);(· exact demA);(· exact rfl);(· exact rfl))
    |(apply WpA.regionGB 6 mixed (by decide +kernel);(· exact rfl);(· exact headA);(· exact trueA);(· exact trueA);(· exact trueA);(· exact demA);(· exact rfl);(· exact rfl))
    |(apply WpA.regionGB 7 mixed (by decide +kernel);(· exact rfl);(· exact headA);(· exact trueA);(· exact trueA);(· exact trueA);(· exact demA);(· exact rfl);(· exact rfl))
    |(apply WpA.regionGB 8 mixed (by decide +kernel);(· exact rfl);(· exact headA);(· exact trueA);(· exact trueA);(· exact trueA);(· exact demA);(· exact rfl);(· exact rfl))
    |(apply WpA.regionGB 9 mixed (by decide +kernel);(· exact rfl);(· exact headA);(· exact trueA);(· exact trueA);(· exact trueA);(· exact demA);(· exact rfl);(· exact rfl))
    |(apply WpA.regionGB 10 mixed (by decide +kernel);(· exact rfl);(· exact headA);(· exact trueA);(· exact trueA);(· exact trueA);(· exact demA);(· exact rfl);(· exact rfl))
    |(apply WpA.regionGB 12 mixed (by decide +kernel);(· exact rfl);(· exact headA);(· exact trueA);(· exact trueA);(· exact trueA);(· exact demA);(· exact rfl);(· exact rfl))
    |(apply WpA.regionGB 13 mixed (by decide +kernel);(· exact rfl);(· exact headA);(· exact trueA);(· exact trueA);(· exact trueA);(· exact demA);(· exact rfl);(· exact rfl))
    |(apply WpA.regionGB 14 mixed (by decide +kernel);(· exact rfl);(· exact headA);(· exact trueA);(· exact trueA);(· exact trueA);(· exact demA);(· exact rfl);(· exact rfl))
    |(apply WpA.regionGB 15 mixed (by decide +kernel);(· exact rfl);(· exact headA);(· exact trueA);(· exact trueA);(· exact trueA);(· exact demA);(· exact rfl);(· exact rfl))
    |(apply WpA.regionGB 16 mixed (by decide +kernel);(· exact rfl);(· exact headA);(· exact trueA);(· exact trueA);(· exact trueA);(· exact demA);(· exact rfl);(· exact rfl))
    |(apply WpA.regionGB 17 mixed (by decide +kernel);(· exact rfl);(· exact headA);(· exact trueA);(· exact trueA);(· exact trueA);(· exact demA);(· exact rfl);(· exact rfl))
    |(apply WpA.regionGB 19 mixed (by decide +kernel);(· exact rfl);(· exact headA);(· exact trueA);(· exact trueA);(· exact trueA);(· exact demA);(· exact rfl);(· exact rfl))
    |(apply WpA.regionGB 25 mixed (by decide +kernel);(· exact rfl);(· exact headA);(· exact trueA);(· exact trueA);(· exact trueA);(· exact demA);(· exact rfl);(· exact rfl))
    |(apply WpA.regionGB 28 mixed (by decide +kernel);(· exact rfl);(· exact headA);(· exact trueA);(· exact trueA);(· exact trueA);(· exact demA);(· exact rfl);(· exact rfl))
    |(apply WpA.regionGB 31 mixed (by decide +kernel);(· exact rfl);(· exact headA);(· exact trueA);(· exact trueA);(· exact trueA);(· exact demA);(· exact rfl);(· exact rfl))
    |(apply WpA.regionGB 38 mixed (by decide +kernel);(· exact rfl);(· exact headA);(· exact trueA);(· exact trueA);(· exact trueA);(· exact demA);(· exact rfl);(· exact rfl))
    |(apply WpA.regionGB 43 mixed (by decide +kernel);(· exact rfl);(· exact headA);(· exact trueA);(· exact trueA);(· exact trueA);(· exact demA);(· exact rfl);(· exact rfl))
    |(apply WpA.regionGB 44 mixed (by decide +kernel);(· exact rfl);(· exact headA);(· exact trueA);(· exact trueA);(· exact trueA);(· exact demA);(· exact rfl);(· exact rfl))
    |(apply WpA.regionGB 50 mixed (by decide +kernel);(· exact rfl);(· exact headA);(· exact trueA);(· exact trueA);(· exact trueA);(· exact demA);(· exact rfl);(· exact rfl)))
   |((repeat (revert hgo));(repeat ((fail_if_success with_reducible apply Hold.h hold);replace hold:=Hold.t hold));with_reducible apply Hold.h hold))
  |(refine K.RT ?_;first
   |exact ReT.nil
   |refine ReT.same rfl rfl ?_
   |refine ReT.own rfl rfl rfl rfl rfl rfl (by first|rfl|omega|(simp;done)|(simp;omega)) ?_
   |refine ReT.i rfl ?_ ?_
   |refine ReT.ptr rfl rfl rfl rfl rfl ?_
   |refine ReT.gen ?_ ?_)
  |(refine TrueB.mk ?_;kernel_rfl)
  |(apply K.eq;first|exact rfl|omega|assumption|(simp;done)|(simp;omega)|(exact absurd (by simp;done) ‹¬ _›)|((repeat (revert hgo));(repeat ((fail_if_success with_reducible apply Hold.h hold);replace hold:=Hold.t hold));with_reducible apply Hold.h hold))
  |(refine K.le ?_;first|omega|(simp;omega)|assumption|((repeat (revert hgo));(repeat ((fail_if_success with_reducible apply Hold.h hold);replace hold:=Hold.t hold));with_reducible apply Hold.h hold))
  |(refine K.lt ?_;first|omega|(simp;omega)|assumption|((repeat (revert hgo));(repeat ((fail_if_success with_reducible apply Hold.h hold);replace hold:=Hold.t hold));with_reducible apply Hold.h hold))
  |refine And.intro ?_ ?_
  |(refine K.RO ?_;first
   |exact ReO.nil
   |refine ReO.ints ?_ (by first|exact .inl rfl|exact .inr rfl) ?_
   |refine ReO.rows (fun _=>rfl) ?_ (by first|exact .inl rfl|exact .inr rfl) ?_
   |refine ReO.cons (Re.same rfl rfl) (by first|exact .inl rfl|exact .inr rfl) ?_
   |refine ReO.cons ?_ (by first|exact .inl rfl|exact .inr rfl) ?_)
  |(refine K.W ?_;first
   |refine Weak.mk ?_ ?_ (by first|exact Nat.zero_le _|exact Nat.le_of_ble_eq_true rfl))
  |refine Abs.Seq.ret ?_
  |refine Abs.Seq.exit ?_
  |refine Blk.n ?_
  |refine Blk.ret ?_
  |refine Blk.exitHere ?_
  |(refine K.R ?_;first
   |refine Rnd.ret ?_
   |refine Rnd.exit ?_
   |refine Rnd.succ ?_ ?_ ?_
   |((repeat (revert hgo));(repeat ((fail_if_success with_reducible apply Hold.h hold);replace hold:=Hold.t hold));with_reducible apply Hold.h hold))
  |(refine K.F ?_;first
   |apply Fin.one0
   |apply Fin.one1
   |apply Fin.one2
   |apply Fin.two0
   |apply Fin.two1
   |((repeat (revert hgo));(repeat ((fail_if_success with_reducible apply Hold.h hold);replace hold:=Hold.t hold));with_reducible apply Hold.h hold))
  |(refine K.FG ?_;first
   |apply FinG.o10
   |apply FinG.o11
   |apply FinG.z10
   |((repeat (revert hgo));(repeat ((fail_if_success with_reducible apply Hold.h hold);replace hold:=Hold.t hold));with_reducible apply Hold.h hold))
  |exact ResV.tmp rfl
  |exact ResV.cellP rfl rfl rfl rfl rfl
  |exact ResV.cell (ds:=[_]) rfl rfl rfl rfl rfl
  |exact ResV.cell (ds:=[_,_]) rfl rfl rfl rfl rfl
  |exact ResV.cell (ds:=[_,_,_]) rfl rfl rfl rfl rfl
  |exact ResV.cell (ds:=[_,_,_,_]) rfl rfl rfl rfl rfl
  |exact ResV.cell (ds:=[_,_,_,_,_]) rfl rfl rfl rfl rfl
  |exact ResV.cell (ds:=[_,_,_,_,_,_]) rfl rfl rfl rfl rfl
  |exact ResV.cell (ds:=[_,_,_,_,_,_,_]) rfl rfl rfl rfl rfl
  |exact ResV.cell (ds:=[_,_,_,_,_,_,_,_]) rfl rfl rfl rfl rfl
  |(refine K.E ?_;first
   |exact Ex.nil
   |refine Ex.keep rfl rfl rfl ?_
   |refine Ex.own rfl rfl rfl rfl ?_
   |refine Ex.own rfl rfl rfl ?_ ?_
   |refine Ex.nilO rfl ?_
   |refine Ex.nilO' rfl ?_ ?_
   |refine Ex.agg ?_ ?_
   |refine Ex.tup ?_ ?_
   |refine Ex.i ?_ ?_
   |refine Ex.b ?_ ?_
   |refine Ex.z ?_ ?_)
  |(refine K.NE ?_;first
   |exact NEx.nil
   |refine NEx.ints rfl ?_ ?_
   |refine NEx.noInts ?_ ?_
   |refine NEx.intsN rfl ?_ ?_
   |refine NEx.rows (fun _=>rfl) rfl ?_ ?_
   |refine NEx.gone ?_ rfl ?_
   |refine NEx.obj rfl ?_ rfl rfl rfl (.inr rfl) ?_)
  |exact Re.nil
  |refine Re.keep rfl rfl ?_
  |refine Re.fn rfl ?_
  |refine Re.own rfl rfl rfl rfl rfl (by first|rfl|omega|(simp;done)|(simp;omega)) ?_
  |refine Re.ptr rfl rfl rfl rfl ?_
  |refine Re.agg ?_ ?_
  |refine Re.tup ?_ ?_
  |refine Re.i ?_ ?_
  |exact rfl
  |omega
  |(refine fun hgo=>?_)
  |(simp;done)
  |(simp;omega)
  |((repeat (revert hgo));(repeat ((fail_if_success with_reducible apply Hold.h hold);replace hold:=Hold.t hold));with_reducible apply Hold.h hold))
  all_goals (try ((repeat (revert hgo));(repeat ((fail_if_success with_reducible apply Hold.h hold);replace hold:=Hold.t hold));with_reducible apply Hold.h hold))
  all_goals exact True
 ·first|exact IsT.t|exact IsT.any
 ) (r:R):P:=h.1 ⟨r⟩
end Go.Proofs.YtainhhfnnclfiaaGreat
