/- Proved in this text: lemmas and contracts of functions that the claim uses (parts: GoK, Rec, Rec2, Rec3, Res, Edg, Edg2, Edg3). No condition. -/
import Derived.Test.YtndflfipaddfoaaGreatPyM8
import Derived.Test.YtndflfipaddfoaaGreatPyM12
import Derived.Test.YtndflfipaddfoaaGreatPyM11
import Derived.Test.YtndflfipaddfoaaGreatPyM9
import Derived.Test.YtndflfipaddfoaaGreatPyM7
set_option linter.unusedVariables false
set_option linter.unusedSimpArgs false
set_option maxRecDepth 100000
set_option maxHeartbeats 16000000


namespace Go.Proofs.YtndflfipaddfoaaGreat
open Go Go.Abs
theorem frzS {O:List AObj} {vs us:List AV} (h:Snap O vs us:=by
 (repeat' (first
  |exact Snap.nil
  |(apply Snap.keep
    ·exact rfl
    ·exact rfl)
  |(apply Snap.ownL
    ·exact rfl
    ·exact rfl
    ·exact rfl)
  |apply Snap.agg
  |apply Snap.fre
  |exact Snap.same rfl (still_ints _) (nofre_ints _)
  |exact Snap.same rfl (still_u8s _) (nofre_u8s _)
  |exact Snap.same rfl (still_strs _) (nofre_strs _)
  |exact Snap.same rfl (still_bools _) (nofre_bools _)
  |exact Snap.rows snap_blk _
  |exact Snap.rows snap_mb _
  |exact Snap.rows snap_fr _
  |exact Snap.rows snap_li _
  |exact Snap.same rfl (still_rows (fun _=>rfl) _) (nofre_rows (fun _=>rfl) _)
  |(apply K.eq;first|exact rfl|omega|(simp;done)|(simp;omega))))
 first|done|fail):Snap O vs us:=h
theorem frzA {N:List AObj} {r r':AV} (h:FrzR N r r':=by
 first
 |(apply FrzR.tup
   exact frzS)
 |(apply FrzR.one
   exact frzS)):FrzR N r r':=h
theorem inG {X:Prop} (h:X:=by
 (repeat' (first
  |refine fun hgo=>?_
  |exact Only.mk rfl
  |refine WpL.nil ?_
  |(refine K.L ?_;first
   |(refine K.gd ?_;first
    |refine K.gT rfl (by decide) rfl ?_
    |refine K.gF rfl (by decide) rfl ?_)
   |(refine K.mv ?_;refine WpL.move rfl (by decide) ?_)
   |(refine K.asg ?_;refine WpL.assign rfl (by decide) ?_)
   |(refine K.bin ?_;first
    |refine WpL.add rfl rfl (by omega) (by decide) ?_
    |refine WpL.sub rfl rfl (by omega) (by decide) ?_
    |refine WpL.mul rfl rfl (by first|omega|exact mul_in (by omega) (by omega)|assumption) (by decide) ?_
    |refine WpL.quo rfl rfl (by omega) (by decide) ?_
    |refine WpL.rem rfl rfl (by omega) (by decide) ?_
    |refine WpL.bin rfl rfl rfl (by decide) ?_
    |refine WpL.strEq rfl rfl (by decide) ?_
    |refine WpL.strNe rfl rfl (by decide) ?_
    |refine WpL.nilEq (TabOk.slice tabOk rfl).1 rfl rfl (by decide) ?_
    |refine WpL.immEq (TabOk.slice tabOk rfl).1 rfl rfl (by decide) (fun hgo=>?_) ?_
    |refine WpL.ownEq (TabOk.slice tabOk rfl).1 rfl rfl rfl (by first|rfl|omega|(simp;done)|(simp;omega)) rfl (by decide) ?_
    |refine WpL.shl rfl rfl (by first|decide|(simp only [IntKind.bits];omega)) (by decide) ?_
    |refine WpL.shr rfl rfl (by first|decide|(simp only [IntKind.bits];omega)) (by decide) ?_)
   |(refine K.ld ?_;first
    |refine WpL.loadInts tabOk rfl rfl rfl (by first|omega|(simp;omega)) (by decide) ?_
    |refine WpL.loadStrs tabOk rfl rfl rfl (by first|omega|(simp;omega)) (by decide) ?_
    |refine WpL.loadRow tabOk rfl rfl (fun _=>rfl) (fun _=>rfl) (by first|rfl|omega|(simp;done)|(simp;omega)) (by decide) rfl ?_
    |refine WpL.loadField tabOk rfl rfl rfl (fun _=>rfl) rfl rfl (by first|rfl|omega|(simp;done)|(simp;omega)) (by decide) ?_
    |refine WpL.loadOwn tabOk rfl rfl rfl rfl (fun _=>rfl) rfl (by first|rfl|omega|(simp;done)|(simp;omega)) (by decide) rfl ?_
    |refine WpL.load1 tabOk rfl rfl rfl rfl rfl (by decide) ?_
    |refine WpL.loadAgg (ds:=[_]) tabOk rfl rfl rfl rfl rfl (by decide) ?_
    |refine WpL.loadAgg (ds:=[_,_]) tabOk rfl rfl rfl rfl rfl (by decide) ?_
    |refine WpL.loadAgg (ds:=[_,_,_]) tabOk rfl rfl rfl rfl rfl (by decide) ?_
    |refine WpL.loadAgg (ds:=[_,_,_,_]) tabOk rfl rfl rfl rfl rfl (by decide) ?_
    |refine WpL.loadAgg (ds:=[_,_,_,_,_]) tabOk rfl rfl rfl rfl rfl (by decide) ?_
    |refine WpL.loadAgg (ds:=[_,_,_,_,_,_]) tabOk rfl rfl rfl rfl rfl (by decide) ?_
    |refine WpL.loadAgg (ds:=[_,_,_,_,_,_,_]) tabOk rfl rfl rfl rfl rfl (by decide) ?_
    |refine WpL.loadAgg (ds:=[_,_,_,_,_,_,_,_]) tabOk rfl rfl rfl rfl rfl (by decide) ?_
    |refine WpL.loadLi tabOk rfl rfl rfl (by first|rfl|omega|(simp;done)|(simp;omega)) (by decide) ?_
    |refine WpL.loadSlot tabOk rfl rfl rfl rfl (by first|rfl|omega|(simp;done)|(simp;omega)) (by first|omega|(simp;omega)|(simp;done)) rfl (by decide) ?_)
   |(refine K.fld ?_;first
    |refine WpL.fieldI tabOk rfl rfl rfl (by decide) ?_
    |refine WpL.fieldP tabOk rfl rfl rfl rfl rfl (by decide) ?_)
   |(refine K.ixa ?_;first
    |refine WpL.idxI1 tabOk rfl rfl rfl (by omega) (by decide) ?_
    |refine WpL.idxIJ tabOk rfl rfl rfl (by omega) (by decide) ?_
    |refine WpL.idxOJ tabOk rfl rfl rfl rfl rfl (by omega) (by decide) ?_
    |refine WpL.idxIN tabOk rfl rfl rfl (by omega) (by decide) ?_
    |refine WpL.idxON tabOk rfl rfl rfl rfl rfl (by omega) (by decide) ?_
    |refine WpL.idxI tabOk rfl rfl rfl (by omega) (by decide) ?_
    |refine WpL.idxO tabOk rfl rfl rfl rfl rfl (by omega) (by decide) ?_)
   |(refine K.call ?_;refine K.con (fun hcon=>?_);first
    |(refine WpL.callF (hcon ?_) snapA locA outA rfl rfl rfl (by decide) ?_<;>clear hcon)
    |(refine WpL.callF (hcon) snapA locA outA rfl rfl rfl (by decide) ?_<;>clear hcon)
    |(refine WpL.callF (hcon _ ?_) snapA locA outA rfl rfl rfl (by decide) ?_<;>clear hcon)
    |(refine WpL.callF (hcon _) snapA locA outA rfl rfl rfl (by decide) ?_<;>clear hcon)
    |(refine WpL.callF (hcon _ _ ?_) snapA locA outA rfl rfl rfl (by decide) ?_<;>clear hcon)
    |(refine WpL.callF (hcon _ _) snapA locA outA rfl rfl rfl (by decide) ?_<;>clear hcon)
    |(refine WpL.callF (hcon _ _ _ ?_) snapA locA outA rfl rfl rfl (by decide) ?_<;>clear hcon)
    |(refine WpL.callF (hcon _ _ _) snapA locA outA rfl rfl rfl (by decide) ?_<;>clear hcon)
    |(refine WpL.callF (hcon _ _ _ _ ?_) snapA locA outA rfl rfl rfl (by decide) ?_<;>clear hcon)
    |(refine WpL.callF (hcon _ _ _ _) snapA locA outA rfl rfl rfl (by decide) ?_<;>clear hcon)
    |(refine WpL.callF (hcon _ _ _ _ _ ?_) snapA locA outA rfl rfl rfl (by decide) ?_<;>clear hcon)
    |(refine WpL.callF (hcon _ _ _ _ _) snapA locA outA rfl rfl rfl (by decide) ?_<;>clear hcon)
    |(refine WpL.callF (hcon _ _ _ _ _ _ ?_) snapA locA outA rfl rfl rfl (by decide) ?_<;>clear hcon)
    |(refine WpL.callF (hcon _ _ _ _ _ _) snapA locA outA rfl rfl rfl (by decide) ?_<;>clear hcon)
    |(refine WpL.callF (hcon _ _ _ _ _ _ _ ?_) snapA locA outA rfl rfl rfl (by decide) ?_<;>clear hcon)
    |(refine WpL.callF (hcon _ _ _ _ _ _ _) snapA locA outA rfl rfl rfl (by decide) ?_<;>clear hcon)
    |(refine WpL.callF (hcon _ _ _ _ _ _ _ _ ?_) snapA locA outA rfl rfl rfl (by decide) ?_<;>clear hcon)
    |(refine WpL.callF (hcon _ _ _ _ _ _ _ _) snapA locA outA rfl rfl rfl (by decide) ?_<;>clear hcon)
    |(refine WpL.callF (hcon _ _ _ _ _ _ _ _ _ ?_) snapA locA outA rfl rfl rfl (by decide) ?_<;>clear hcon)
    |(refine WpL.callF (hcon _ _ _ _ _ _ _ _ _) snapA locA outA rfl rfl rfl (by decide) ?_<;>clear hcon)
    |(refine WpL.callF (hcon _ _ _ _ _ _ _ _ _ _ ?_) snapA locA outA rfl rfl rfl (by decide) ?_<;>clear hcon)
    |(refine WpL.callF (hcon _ _ _ _ _ _ _ _ _ _) snapA locA outA rfl rfl rfl (by decide) ?_<;>clear hcon)
    |(refine WpL.callF (hcon _ _ _ _ _ _ _ _ _ _ _ ?_) snapA locA outA rfl rfl rfl (by decide) ?_<;>clear hcon)
    |(refine WpL.callF (hcon _ _ _ _ _ _ _ _ _ _ _) snapA locA outA rfl rfl rfl (by decide) ?_<;>clear hcon)
    |(refine WpL.callF (hcon _ _ _ _ _ _ _ _ _ _ _ _ ?_) snapA locA outA rfl rfl rfl (by decide) ?_<;>clear hcon)
    |(refine WpL.callF (hcon _ _ _ _ _ _ _ _ _ _ _ _) snapA locA outA rfl rfl rfl (by decide) ?_<;>clear hcon)
    |(refine WpL.callF (hcon _ _ _ _ _ _ _ _ _ _ _ _ _ ?_) snapA locA outA rfl rfl rfl (by decide) ?_<;>clear hcon)
    |(refine WpL.callF (hcon _ _ _ _ _ _ _ _ _ _ _ _ _) snapA locA outA rfl rfl rfl (by decide) ?_<;>clear hcon)
    |(refine WpL.callF (hcon _ _ _ _ _ _ _ _ _ _ _ _ _ _ ?_) snapA locA outA rfl rfl rfl (by decide) ?_<;>clear hcon)
    |(refine WpL.callF (hcon _ _ _ _ _ _ _ _ _ _ _ _ _ _) snapA locA outA rfl rfl rfl (by decide) ?_<;>clear hcon)
    |(refine WpL.callF (hcon _ _ _ _ _ _ _ _ _ _ _ _ _ _ _ ?_) snapA locA outA rfl rfl rfl (by decide) ?_<;>clear hcon)
    |(refine WpL.callF (hcon _ _ _ _ _ _ _ _ _ _ _ _ _ _ _) snapA locA outA rfl rfl rfl (by decide) ?_<;>clear hcon)
    |(refine WpL.callF (hcon _ _ _ _ _ _ _ _ _ _ _ _ _ _ _ _ ?_) snapA locA outA rfl rfl rfl (by decide) ?_<;>clear hcon)
    |(refine WpL.callF (hcon _ _ _ _ _ _ _ _ _ _ _ _ _ _ _ _) snapA locA outA rfl rfl rfl (by decide) ?_<;>clear hcon)
    |(refine WpL.callF (hcon _ _ _ _ _ _ _ _ _ _ _ _ _ _ _ _ _ ?_) snapA locA outA rfl rfl rfl (by decide) ?_<;>clear hcon)
    |(refine WpL.callF (hcon _ _ _ _ _ _ _ _ _ _ _ _ _ _ _ _ _) snapA locA outA rfl rfl rfl (by decide) ?_<;>clear hcon)
    |(refine WpL.callF (hcon _ _ _ _ _ _ _ _ _ _ _ _ _ _ _ _ _ _ ?_) snapA locA outA rfl rfl rfl (by decide) ?_<;>clear hcon)
    |(refine WpL.callF (hcon _ _ _ _ _ _ _ _ _ _ _ _ _ _ _ _ _ _) snapA locA outA rfl rfl rfl (by decide) ?_<;>clear hcon))
   |(refine K.call ?_;refine K.conG (fun hcon=>?_);first
    |(refine WpL.callM (hs:=[_]) (hcon ?_) handA handOA rfl rfl outA outA rfl rfl rfl rfl (by decide) ?_<;>clear hcon)
    |(refine WpL.callM (hs:=[_]) (hcon) handA handOA rfl rfl outA outA rfl rfl rfl rfl (by decide) ?_<;>clear hcon)
    |(refine WpL.callM (hs:=[_]) (hcon _ ?_) handA handOA rfl rfl outA outA rfl rfl rfl rfl (by decide) ?_<;>clear hcon)
    |(refine WpL.callM (hs:=[_]) (hcon _) handA handOA rfl rfl outA outA rfl rfl rfl rfl (by decide) ?_<;>clear hcon)
    |(refine WpL.callM (hs:=[_]) (hcon _ _ ?_) handA handOA rfl rfl outA outA rfl rfl rfl rfl (by decide) ?_<;>clear hcon)
    |(refine WpL.callM (hs:=[_]) (hcon _ _) handA handOA rfl rfl outA outA rfl rfl rfl rfl (by decide) ?_<;>clear hcon)
    |(refine WpL.callM (hs:=[_]) (hcon _ _ _ ?_) handA handOA rfl rfl outA outA rfl rfl rfl rfl (by decide) ?_<;>clear hcon)
    |(refine WpL.callM (hs:=[_]) (hcon _ _ _) handA handOA rfl rfl outA outA rfl rfl rfl rfl (by decide) ?_<;>clear hcon)
    |(refine WpL.callM (hs:=[_]) (hcon _ _ _ _ ?_) handA handOA rfl rfl outA outA rfl rfl rfl rfl (by decide) ?_<;>clear hcon)
    |(refine WpL.callM (hs:=[_]) (hcon _ _ _ _) handA handOA rfl rfl outA outA rfl rfl rfl rfl (by decide) ?_<;>clear hcon)
    |(refine WpL.callM (hs:=[_]) (hcon _ _ _ _ _ ?_) handA handOA rfl rfl outA outA rfl rfl rfl rfl (by decide) ?_<;>clear hcon)
    |(refine WpL.callM (hs:=[_]) (hcon _ _ _ _ _) handA handOA rfl rfl outA outA rfl rfl rfl rfl (by decide) ?_<;>clear hcon)
    |(refine WpL.callM (hs:=[_]) (hcon _ _ _ _ _ _ ?_) handA handOA rfl rfl outA outA rfl rfl rfl rfl (by decide) ?_<;>clear hcon)
    |(refine WpL.callM (hs:=[_]) (hcon _ _ _ _ _ _) handA handOA rfl rfl outA outA rfl rfl rfl rfl (by decide) ?_<;>clear hcon)
    |(refine WpL.callM (hs:=[_]) (hcon _ _ _ _ _ _ _ ?_) handA handOA rfl rfl outA outA rfl rfl rfl rfl (by decide) ?_<;>clear hcon)
    |(refine WpL.callM (hs:=[_]) (hcon _ _ _ _ _ _ _) handA handOA rfl rfl outA outA rfl rfl rfl rfl (by decide) ?_<;>clear hcon)
    |(refine WpL.callM (hs:=[_]) (hcon _ _ _ _ _ _ _ _ ?_) handA handOA rfl rfl outA outA rfl rfl rfl rfl (by decide) ?_<;>clear hcon)
    |(refine WpL.callM (hs:=[_]) (hcon _ _ _ _ _ _ _ _) handA handOA rfl rfl outA outA rfl rfl rfl rfl (by decide) ?_<;>clear hcon)
    |(refine WpL.callM (hs:=[_,_]) (hcon ?_) handA handOA rfl rfl outA outA rfl rfl rfl rfl (by decide) ?_<;>clear hcon)
    |(refine WpL.callM (hs:=[_,_]) (hcon) handA handOA rfl rfl outA outA rfl rfl rfl rfl (by decide) ?_<;>clear hcon)
    |(refine WpL.callM (hs:=[_,_]) (hcon _ ?_) handA handOA rfl rfl outA outA rfl rfl rfl rfl (by decide) ?_<;>clear hcon)
    |(refine WpL.callM (hs:=[_,_]) (hcon _) handA handOA rfl rfl outA outA rfl rfl rfl rfl (by decide) ?_<;>clear hcon)
    |(refine WpL.callM (hs:=[_,_]) (hcon _ _ ?_) handA handOA rfl rfl outA outA rfl rfl rfl rfl (by decide) ?_<;>clear hcon)
    |(refine WpL.callM (hs:=[_,_]) (hcon _ _) handA handOA rfl rfl outA outA rfl rfl rfl rfl (by decide) ?_<;>clear hcon)
    |(refine WpL.callM (hs:=[_,_]) (hcon _ _ _ ?_) handA handOA rfl rfl outA outA rfl rfl rfl rfl (by decide) ?_<;>clear hcon)
    |(refine WpL.callM (hs:=[_,_]) (hcon _ _ _) handA handOA rfl rfl outA outA rfl rfl rfl rfl (by decide) ?_<;>clear hcon)
    |(refine WpL.callM (hs:=[_,_]) (hcon _ _ _ _ ?_) handA handOA rfl rfl outA outA rfl rfl rfl rfl (by decide) ?_<;>clear hcon)
    |(refine WpL.callM (hs:=[_,_]) (hcon _ _ _ _) handA handOA rfl rfl outA outA rfl rfl rfl rfl (by decide) ?_<;>clear hcon)
    |(refine WpL.callM (hs:=[_,_]) (hcon _ _ _ _ _ ?_) handA handOA rfl rfl outA outA rfl rfl rfl rfl (by decide) ?_<;>clear hcon)
    |(refine WpL.callM (hs:=[_,_]) (hcon _ _ _ _ _) handA handOA rfl rfl outA outA rfl rfl rfl rfl (by decide) ?_<;>clear hcon)
    |(refine WpL.callM (hs:=[_,_]) (hcon _ _ _ _ _ _ ?_) handA handOA rfl rfl outA outA rfl rfl rfl rfl (by decide) ?_<;>clear hcon)
    |(refine WpL.callM (hs:=[_,_]) (hcon _ _ _ _ _ _) handA handOA rfl rfl outA outA rfl rfl rfl rfl (by decide) ?_<;>clear hcon)
    |(refine WpL.callM (hs:=[_,_]) (hcon _ _ _ _ _ _ _ ?_) handA handOA rfl rfl outA outA rfl rfl rfl rfl (by decide) ?_<;>clear hcon)
    |(refine WpL.callM (hs:=[_,_]) (hcon _ _ _ _ _ _ _) handA handOA rfl rfl outA outA rfl rfl rfl rfl (by decide) ?_<;>clear hcon)
    |(refine WpL.callM (hs:=[_,_]) (hcon _ _ _ _ _ _ _ _ ?_) handA handOA rfl rfl outA outA rfl rfl rfl rfl (by decide) ?_<;>clear hcon)
    |(refine WpL.callM (hs:=[_,_]) (hcon _ _ _ _ _ _ _ _) handA handOA rfl rfl outA outA rfl rfl rfl rfl (by decide) ?_<;>clear hcon)
    |(refine WpL.callM (hs:=[_,_,_]) (hcon ?_) handA handOA rfl rfl outA outA rfl rfl rfl rfl (by decide) ?_<;>clear hcon)
    |(refine WpL.callM (hs:=[_,_,_]) (hcon) handA handOA rfl rfl outA outA rfl rfl rfl rfl (by decide) ?_<;>clear hcon)
    |(refine WpL.callM (hs:=[_,_,_]) (hcon _ ?_) handA handOA rfl rfl outA outA rfl rfl rfl rfl (by decide) ?_<;>clear hcon)
    |(refine WpL.callM (hs:=[_,_,_]) (hcon _) handA handOA rfl rfl outA outA rfl rfl rfl rfl (by decide) ?_<;>clear hcon)
    |(refine WpL.callM (hs:=[_,_,_]) (hcon _ _ ?_) handA handOA rfl rfl outA outA rfl rfl rfl rfl (by decide) ?_<;>clear hcon)
    |(refine WpL.callM (hs:=[_,_,_]) (hcon _ _) handA handOA rfl rfl outA outA rfl rfl rfl rfl (by decide) ?_<;>clear hcon)
    |(refine WpL.callM (hs:=[_,_,_]) (hcon _ _ _ ?_) handA handOA rfl rfl outA outA rfl rfl rfl rfl (by decide) ?_<;>clear hcon)
    |(refine WpL.callM (hs:=[_,_,_]) (hcon _ _ _) handA handOA rfl rfl outA outA rfl rfl rfl rfl (by decide) ?_<;>clear hcon)
    |(refine WpL.callM (hs:=[_,_,_]) (hcon _ _ _ _ ?_) handA handOA rfl rfl outA outA rfl rfl rfl rfl (by decide) ?_<;>clear hcon)
    |(refine WpL.callM (hs:=[_,_,_]) (hcon _ _ _ _) handA handOA rfl rfl outA outA rfl rfl rfl rfl (by decide) ?_<;>clear hcon)
    |(refine WpL.callM (hs:=[_,_,_]) (hcon _ _ _ _ _ ?_) handA handOA rfl rfl outA outA rfl rfl rfl rfl (by decide) ?_<;>clear hcon)
    |(refine WpL.callM (hs:=[_,_,_]) (hcon _ _ _ _ _) handA handOA rfl rfl outA outA rfl rfl rfl rfl (by decide) ?_<;>clear hcon)
    |(refine WpL.callM (hs:=[_,_,_]) (hcon _ _ _ _ _ _ ?_) handA handOA rfl rfl outA outA rfl rfl rfl rfl (by decide) ?_<;>clear hcon)
    |(refine WpL.callM (hs:=[_,_,_]) (hcon _ _ _ _ _ _) handA handOA rfl rfl outA outA rfl rfl rfl rfl (by decide) ?_<;>clear hcon)
    |(refine WpL.callM (hs:=[_,_,_]) (hcon _ _ _ _ _ _ _ ?_) handA handOA rfl rfl outA outA rfl rfl rfl rfl (by decide) ?_<;>clear hcon)
    |(refine WpL.callM (hs:=[_,_,_]) (hcon _ _ _ _ _ _ _) handA handOA rfl rfl outA outA rfl rfl rfl rfl (by decide) ?_<;>clear hcon)
    |(refine WpL.callM (hs:=[_,_,_]) (hcon _ _ _ _ _ _ _ _ ?_) handA handOA rfl rfl outA outA rfl rfl rfl rfl (by decide) ?_<;>clear hcon)
    |(refine WpL.callM (hs:=[_,_,_]) (hcon _ _ _ _ _ _ _ _) handA handOA rfl rfl outA outA rfl rfl rfl rfl (by decide) ?_<;>clear hcon)
    |(refine WpL.callM (hs:=[_,_,_,_]) (hcon ?_) handA handOA rfl rfl outA outA rfl rfl rfl rfl (by decide) ?_<;>clear hcon)
    |(refine WpL.callM (hs:=[_,_,_,_]) (hcon) handA handOA rfl rfl outA outA rfl rfl rfl rfl (by decide) ?_<;>clear hcon)
    |(refine WpL.callM (hs:=[_,_,_,_]) (hcon _ ?_) handA handOA rfl rfl outA outA rfl rfl rfl rfl (by decide) ?_<;>clear hcon)
    |(refine WpL.callM (hs:=[_,_,_,_]) (hcon _) handA handOA rfl rfl outA outA rfl rfl rfl rfl (by decide) ?_<;>clear hcon)
    |(refine WpL.callM (hs:=[_,_,_,_]) (hcon _ _ ?_) handA handOA rfl rfl outA outA rfl rfl rfl rfl (by decide) ?_<;>clear hcon)
    |(refine WpL.callM (hs:=[_,_,_,_]) (hcon _ _) handA handOA rfl rfl outA outA rfl rfl rfl rfl (by decide) ?_<;>clear hcon)
    |(refine WpL.callM (hs:=[_,_,_,_]) (hcon _ _ _ ?_) handA handOA rfl rfl outA outA rfl rfl rfl rfl (by decide) ?_<;>clear hcon)
    |(refine WpL.callM (hs:=[_,_,_,_]) (hcon _ _ _) handA handOA rfl rfl outA outA rfl rfl rfl rfl (by decide) ?_<;>clear hcon)
    |(refine WpL.callM (hs:=[_,_,_,_]) (hcon _ _ _ _ ?_) handA handOA rfl rfl outA outA rfl rfl rfl rfl (by decide) ?_<;>clear hcon)
    |(refine WpL.callM (hs:=[_,_,_,_]) (hcon _ _ _ _) handA handOA rfl rfl outA outA rfl rfl rfl rfl (by decide) ?_<;>clear hcon)
    |(refine WpL.callM (hs:=[_,_,_,_]) (hcon _ _ _ _ _ ?_) handA handOA rfl rfl outA outA rfl rfl rfl rfl (by decide) ?_<;>clear hcon)
    |(refine WpL.callM (hs:=[_,_,_,_]) (hcon _ _ _ _ _) handA handOA rfl rfl outA outA rfl rfl rfl rfl (by decide) ?_<;>clear hcon)
    |(refine WpL.callM (hs:=[_,_,_,_]) (hcon _ _ _ _ _ _ ?_) handA handOA rfl rfl outA outA rfl rfl rfl rfl (by decide) ?_<;>clear hcon)
    |(refine WpL.callM (hs:=[_,_,_,_]) (hcon _ _ _ _ _ _) handA handOA rfl rfl outA outA rfl rfl rfl rfl (by decide) ?_<;>clear hcon)
    |(refine WpL.callM (hs:=[_,_,_,_]) (hcon _ _ _ _ _ _ _ ?_) handA handOA rfl rfl outA outA rfl rfl rfl rfl (by decide) ?_<;>clear hcon)
    |(refine WpL.callM (hs:=[_,_,_,_]) (hcon _ _ _ _ _ _ _) handA handOA rfl rfl outA outA rfl rfl rfl rfl (by decide) ?_<;>clear hcon)
    |(refine WpL.callM (hs:=[_,_,_,_]) (hcon _ _ _ _ _ _ _ _ ?_) handA handOA rfl rfl outA outA rfl rfl rfl rfl (by decide) ?_<;>clear hcon)
    |(refine WpL.callM (hs:=[_,_,_,_]) (hcon _ _ _ _ _ _ _ _) handA handOA rfl rfl outA outA rfl rfl rfl rfl (by decide) ?_<;>clear hcon))
   |(refine K.call ?_;refine K.conB (fun hcon=>?_);first
    |(refine WpL.callB (hcon ?_) snapA locA outA locA outA rfl rfl rfl rfl rfl (by decide) ?_ ?_<;>clear hcon)
    |(refine WpL.callB (hcon) snapA locA outA locA outA rfl rfl rfl rfl rfl (by decide) ?_ ?_<;>clear hcon)
    |(refine WpL.callB (hcon _ ?_) snapA locA outA locA outA rfl rfl rfl rfl rfl (by decide) ?_ ?_<;>clear hcon)
    |(refine WpL.callB (hcon _) snapA locA outA locA outA rfl rfl rfl rfl rfl (by decide) ?_ ?_<;>clear hcon)
    |(refine WpL.callB (hcon _ _ ?_) snapA locA outA locA outA rfl rfl rfl rfl rfl (by decide) ?_ ?_<;>clear hcon)
    |(refine WpL.callB (hcon _ _) snapA locA outA locA outA rfl rfl rfl rfl rfl (by decide) ?_ ?_<;>clear hcon)
    |(refine WpL.callB (hcon _ _ _ ?_) snapA locA outA locA outA rfl rfl rfl rfl rfl (by decide) ?_ ?_<;>clear hcon)
    |(refine WpL.callB (hcon _ _ _) snapA locA outA locA outA rfl rfl rfl rfl rfl (by decide) ?_ ?_<;>clear hcon)
    |(refine WpL.callB (hcon _ _ _ _ ?_) snapA locA outA locA outA rfl rfl rfl rfl rfl (by decide) ?_ ?_<;>clear hcon)
    |(refine WpL.callB (hcon _ _ _ _) snapA locA outA locA outA rfl rfl rfl rfl rfl (by decide) ?_ ?_<;>clear hcon)
    |(refine WpL.callB (hcon _ _ _ _ _ ?_) snapA locA outA locA outA rfl rfl rfl rfl rfl (by decide) ?_ ?_<;>clear hcon)
    |(refine WpL.callB (hcon _ _ _ _ _) snapA locA outA locA outA rfl rfl rfl rfl rfl (by decide) ?_ ?_<;>clear hcon)
    |(refine WpL.callB (hcon _ _ _ _ _ _ ?_) snapA locA outA locA outA rfl rfl rfl rfl rfl (by decide) ?_ ?_<;>clear hcon)
    |(refine WpL.callB (hcon _ _ _ _ _ _) snapA locA outA locA outA rfl rfl rfl rfl rfl (by decide) ?_ ?_<;>clear hcon)
    |(refine WpL.callB (hcon _ _ _ _ _ _ _ ?_) snapA locA outA locA outA rfl rfl rfl rfl rfl (by decide) ?_ ?_<;>clear hcon)
    |(refine WpL.callB (hcon _ _ _ _ _ _ _) snapA locA outA locA outA rfl rfl rfl rfl rfl (by decide) ?_ ?_<;>clear hcon)
    |(refine WpL.callB (hcon _ _ _ _ _ _ _ _ ?_) snapA locA outA locA outA rfl rfl rfl rfl rfl (by decide) ?_ ?_<;>clear hcon)
    |(refine WpL.callB (hcon _ _ _ _ _ _ _ _) snapA locA outA locA outA rfl rfl rfl rfl rfl (by decide) ?_ ?_<;>clear hcon))
   |(refine K.call ?_;refine K.conP (fun hcon=>?_);first
    |(refine WpL.callP (hs:=[_]) (hcon _ _ _ _ _ _ _ _ _ _) (by assumption) handA handOA rfl rfl (.cons rfl (.sc (.sc (.sc .nil))) .nil) outA rfl rfl rfl rfl (by decide) ?_<;>clear hcon))
   |(refine K.callT ?_;refine K.conV rfl (fun hcon=>?_);first
    |(refine WpL.callVF rfl (hcon ?_) rfl snapA locA outA rfl rfl rfl (by decide) ?_<;>clear hcon)
    |(refine WpL.callVF rfl (hcon) rfl snapA locA outA rfl rfl rfl (by decide) ?_<;>clear hcon)
    |(refine WpL.callVF rfl (hcon _ ?_) rfl snapA locA outA rfl rfl rfl (by decide) ?_<;>clear hcon)
    |(refine WpL.callVF rfl (hcon _) rfl snapA locA outA rfl rfl rfl (by decide) ?_<;>clear hcon)
    |(refine WpL.callVF rfl (hcon _ _ ?_) rfl snapA locA outA rfl rfl rfl (by decide) ?_<;>clear hcon)
    |(refine WpL.callVF rfl (hcon _ _) rfl snapA locA outA rfl rfl rfl (by decide) ?_<;>clear hcon)
    |(refine WpL.callVF rfl (hcon _ _ _ ?_) rfl snapA locA outA rfl rfl rfl (by decide) ?_<;>clear hcon)
    |(refine WpL.callVF rfl (hcon _ _ _) rfl snapA locA outA rfl rfl rfl (by decide) ?_<;>clear hcon)
    |(refine WpL.callVF rfl (hcon _ _ _ _ ?_) rfl snapA locA outA rfl rfl rfl (by decide) ?_<;>clear hcon)
    |(refine WpL.callVF rfl (hcon _ _ _ _) rfl snapA locA outA rfl rfl rfl (by decide) ?_<;>clear hcon)
    |(refine WpL.callVF rfl (hcon _ _ _ _ _ ?_) rfl snapA locA outA rfl rfl rfl (by decide) ?_<;>clear hcon)
    |(refine WpL.callVF rfl (hcon _ _ _ _ _) rfl snapA locA outA rfl rfl rfl (by decide) ?_<;>clear hcon)
    |(refine WpL.callVF rfl (hcon _ _ _ _ _ _ ?_) rfl snapA locA outA rfl rfl rfl (by decide) ?_<;>clear hcon)
    |(refine WpL.callVF rfl (hcon _ _ _ _ _ _) rfl snapA locA outA rfl rfl rfl (by decide) ?_<;>clear hcon)
    |(refine WpL.callVF rfl (hcon _ _ _ _ _ _ _ ?_) rfl snapA locA outA rfl rfl rfl (by decide) ?_<;>clear hcon)
    |(refine WpL.callVF rfl (hcon _ _ _ _ _ _ _) rfl snapA locA outA rfl rfl rfl (by decide) ?_<;>clear hcon)
    |(refine WpL.callVF rfl (hcon _ _ _ _ _ _ _ _ ?_) rfl snapA locA outA rfl rfl rfl (by decide) ?_<;>clear hcon)
    |(refine WpL.callVF rfl (hcon _ _ _ _ _ _ _ _) rfl snapA locA outA rfl rfl rfl (by decide) ?_<;>clear hcon)
    |(refine WpL.callVF rfl (hcon _ _ _ _ _ _ _ _ _ ?_) rfl snapA locA outA rfl rfl rfl (by decide) ?_<;>clear hcon)
    |(refine WpL.callVF rfl (hcon _ _ _ _ _ _ _ _ _) rfl snapA locA outA rfl rfl rfl (by decide) ?_<;>clear hcon)
    |(refine WpL.callVF rfl (hcon _ _ _ _ _ _ _ _ _ _ ?_) rfl snapA locA outA rfl rfl rfl (by decide) ?_<;>clear hcon)
    |(refine WpL.callVF rfl (hcon _ _ _ _ _ _ _ _ _ _) rfl snapA locA outA rfl rfl rfl (by decide) ?_<;>clear hcon)
    |(refine WpL.callVF rfl (hcon _ _ _ _ _ _ _ _ _ _ _ ?_) rfl snapA locA outA rfl rfl rfl (by decide) ?_<;>clear hcon)
    |(refine WpL.callVF rfl (hcon _ _ _ _ _ _ _ _ _ _ _) rfl snapA locA outA rfl rfl rfl (by decide) ?_<;>clear hcon)
    |(refine WpL.callVF rfl (hcon _ _ _ _ _ _ _ _ _ _ _ _ ?_) rfl snapA locA outA rfl rfl rfl (by decide) ?_<;>clear hcon)
    |(refine WpL.callVF rfl (hcon _ _ _ _ _ _ _ _ _ _ _ _) rfl snapA locA outA rfl rfl rfl (by decide) ?_<;>clear hcon))
   |(refine K.mkF ?_;refine WpL.makeFunc rfl (by decide) ?_)
   |(refine K.ix ?_;first
    |refine WpL.idxStr1 tabOk rfl rfl rfl (by omega) (by decide) (fun hgo=>?_)
    |refine WpL.idxStrB tabOk rfl rfl rfl (by omega) (by decide) (fun hgo=>?_))
   |(refine K.bi ?_;first
    |(refine K.blen ?_;first
     |refine WpL.lenImm (TabOk.slice tabOk rfl).1 rfl (by decide) ?_
     |refine WpL.lenOwn (TabOk.slice tabOk rfl).1 rfl rfl rfl (by decide) ?_
     |refine WpL.lenStr (K.tyStr tabOk rfl) rfl (by decide) ?_)
    |(refine K.bapp ?_;first
     |refine WpL.app1Ints tabOk rfl rfl rfl (by first|exact Nat.zero_le _|exact Nat.le_of_ble_eq_true rfl) rfl rfl (by first|rfl|omega|(simp;done)|(simp;omega)) (by omega) (by decide) ?_
     |refine WpL.appInts tabOk rfl rfl rfl (by first|exact Nat.zero_le _|exact Nat.le_of_ble_eq_true rfl) rfl rfl (by first|rfl|omega|(simp;done)|(simp;omega)) (by first|rfl|omega|(simp;done)|(simp;omega)) (by omega) (by decide) ?_
     |refine WpL.nil1Ints tabOk rfl rfl rfl rfl (by omega) rfl (by decide) ?_
     |refine WpL.app1U8s tabOk rfl rfl rfl (by first|exact Nat.zero_le _|exact Nat.le_of_ble_eq_true rfl) rfl rfl (by first|rfl|omega|(simp;done)|(simp;omega)) (by omega) (by decide) ?_
     |refine WpL.app1Strs tabOk rfl rfl rfl (by first|exact Nat.zero_le _|exact Nat.le_of_ble_eq_true rfl) rfl rfl (by first|rfl|omega|(simp;done)|(simp;omega)) (by omega) (by decide) ?_
     |refine WpL.appRow (f:=prF) (v:=(_,_)) tabOk rfl rfl rfl (by first|exact Nat.zero_le _|exact Nat.le_of_ble_eq_true rfl) rfl rfl (fun _=>rfl) rfl rfl (by first|rfl|omega|(simp;done)|(simp;omega)) (by omega) (by decide) ?_
     |refine WpL.appRow (f:=plF) (v:=(_,_,_)) tabOk rfl rfl rfl (by first|exact Nat.zero_le _|exact Nat.le_of_ble_eq_true rfl) rfl rfl (fun _=>rfl) rfl rfl (by first|rfl|omega|(simp;done)|(simp;omega)) (by omega) (by decide) ?_
     |refine WpL.appBlk tabOk rfl rfl rfl (by first|exact Nat.zero_le _|exact Nat.le_of_ble_eq_true rfl) rfl rfl rfl rfl rfl (by first|exact Nat.zero_le _|exact Nat.le_of_ble_eq_true rfl) (by first|rfl|omega|(simp;done)|(simp;omega)) (by first|rfl|omega|(simp;done)|(simp;omega)) (by omega) (by decide) ?_
     |refine WpL.appMb tabOk rfl rfl rfl (by first|exact Nat.zero_le _|exact Nat.le_of_ble_eq_true rfl) rfl rfl rfl rfl rfl (by first|exact Nat.zero_le _|exact Nat.le_of_ble_eq_true rfl) (by first|rfl|omega|(simp;done)|(simp;omega)) (by first|rfl|omega|(simp;done)|(simp;omega)) (by omega) (by decide) ?_
     |refine WpL.appFr tabOk rfl rfl rfl (by first|exact Nat.zero_le _|exact Nat.le_of_ble_eq_true rfl) rfl rfl rfl rfl rfl (by first|exact Nat.zero_le _|exact Nat.le_of_ble_eq_true rfl) (by first|rfl|omega|(simp;done)|(simp;omega)) (by first|rfl|omega|(simp;done)|(simp;omega)) (by omega) (by decide) ?_
     |refine WpL.appOwn tabOk rfl rfl rfl rfl rfl rfl (by simp) (by first|exact Nat.zero_le _|exact Nat.le_of_ble_eq_true rfl) rfl rfl (by simp) (by simp [all_ints,all_u8s,all_strs,oneB,Value.oneCell']) (by omega) (by decide) ?_
     |refine WpL.appNil tabOk rfl rfl rfl rfl (by simp) (by simp [all_ints,all_u8s,all_strs,oneB,Value.oneCell']) (by omega) rfl (by decide) ?_)
    |refine WpL.min2 rfl rfl (by decide) ?_
    |refine WpL.max2 rfl rfl (by decide) ?_)
   |(refine K.un ?_;first
    |refine WpL.not rfl (by decide) ?_
    |refine WpL.neg rfl (by omega) (by decide) ?_)
   |(refine K.pick ?_;first
    |refine WpL.pickT rfl rfl (by decide) ?_
    |refine WpL.pickF rfl rfl (by decide) ?_)
   |(refine K.bld ?_;refine WpL.build tabOk rfl rfl (by kernel_rfl) (by decide) ?_)
   |(refine K.ext ?_;refine WpL.extract rfl rfl (by first|decide|simp [AV.shL]) (by decide) ?_)
   |(refine K.cv ?_;first
    |refine WpL.convI (P:=Tryz.prog) (by rfl) (K.tyInt tabOk rfl) rfl (by omega) (by decide) ?_
    |refine WpL.conv (P:=Tryz.prog) (by rfl) (K.tyInt tabOk rfl) rfl (by decide) ?_
    |refine WpL.ofBytes tabOk rfl rfl rfl rfl rfl (by simp) (by decide) ?_)
   |(refine K.lit ?_;first
    |refine WpL.lit0U8s tabOk rfl rfl rfl (by decide) ?_
    |refine WpL.lit0Ints tabOk rfl rfl rfl (by decide) ?_
    |refine WpL.lit0Strs tabOk rfl rfl rfl (by decide) ?_
    |refine WpL.litInts tabOk rfl rfl rfl rfl rfl (by decide) rfl (by decide) ?_
    |refine WpL.litU8s tabOk rfl rfl rfl rfl rfl (by decide) rfl (by decide) ?_
    |refine WpL.litStrs tabOk rfl rfl rfl rfl rfl (by decide) rfl (by decide) ?_
    |(apply WpL.litLis tabOk
      ·exact rfl
      ·exact rfl
      ·exact rfl
      ·exact rfl
      ·decide
      ·exact rfl
      ·exact rfl
      ·exact rfl
      ·decide
      ·repeat' (first
        |exact NestC.nil
        |(apply NestC.cons
          ·exact rfl
          ·exact rfl
          ·exact rfl
          ·exact rfl
          ·first|exact Nat.zero_le _|exact Nat.le_of_ble_eq_true rfl
          ·exact rfl
          ·first|rfl|exact still_ints _
          ·first|rfl|simp
          ·exact rfl))
      ·exact rfl
      ·exact rfl)
    |refine WpL.litF tabOk rfl rfl rfl rfl (by decide) rfl (by decide) ?_)
   |(refine K.ms ?_;first
    |refine WpL.makeInts tabOk rfl rfl rfl (by omega) (by omega) rfl (by decide) ?_)
   |(refine K.st ?_;first
    |refine WpL.storeInts tabOk rfl rfl rfl rfl rfl (by first|omega|(simp;omega)) ?_
    |refine WpL.storeSlot tabOk rfl rfl rfl rfl rfl rfl (by first|rfl|omega|(simp;done)|(simp;omega)) (by first|omega|(simp;omega)|(simp;done)) ?_
    |refine WpL.storeS tabOk rfl rfl rfl rfl rfl rfl rfl rfl (by first|decide|omega|(simp;omega)|(simp;done)) (by first|(simp only [Go.Abs.setL,List.set_cons_zero,List.set_cons_succ,Nat.zero_add,Nat.reduceAdd];exact rfl)|exact rfl) ?_)
   |(refine K.all ?_;first
    |refine WpL.allocStruct tabOk rfl rfl (by decide) ?_
    |refine WpL.allocPlain tabOk rfl rfl rfl (by decide) ?_)
   |(refine K.box ?_;refine WpL.box rfl rfl rfl (by decide) ?_)
   |(refine K.nc ?_;first
    |refine WpL.nilCheckP rfl rfl rfl (by decide) ?_)
   |(refine K.sl ?_;first
    |refine WpL.subStrLo tabOk rfl rfl rfl (by omega) (by decide) ?_
    |refine WpL.subStrHi tabOk rfl rfl rfl (by omega) (by decide) ?_
    |refine WpL.subStrHi1 tabOk rfl rfl rfl (by omega) (by decide) ?_
    |refine WpL.subStr tabOk rfl rfl (by first|exact .inl ⟨rfl,rfl⟩|exact .inr ⟨_,_,rfl,rfl⟩) (by first|exact .inl ⟨rfl,rfl⟩|exact .inr ⟨_,_,rfl,rfl⟩) (by omega) (by decide) ?_
    |refine WpL.subIntsHi tabOk rfl rfl rfl (by first|rfl|omega|(simp;done)|(simp;omega)) (by omega) (by decide) ?_
    |refine WpL.subImm tabOk rfl rfl (by first|exact .inl ⟨rfl,rfl⟩|exact .inr ⟨_,_,rfl,rfl⟩) (by first|exact .inl ⟨rfl,rfl⟩|exact .inr ⟨_,_,rfl,rfl⟩) (by omega) (by decide) ?_))
  |(refine K.le ?_;first|omega|(simp;omega)|assumption)
  |(refine K.lt ?_;first|omega|(simp;omega)|assumption)
  |refine And.intro ?_ ?_
  |omega
  |assumption
  |(simp;done)))
 first|done|fail):X:=h
theorem inI {X:Prop} (h:X:=by
 (repeat' (first
  |refine fun hgo=>?_
  |exact Only.mk rfl
  |refine WpL.nil ?_
  |(refine K.L ?_;first
   |(refine K.gd ?_;first
    |refine K.gT rfl (by decide) rfl ?_
    |refine K.gF rfl (by decide) rfl ?_)
   |(refine K.mv ?_;refine WpL.move rfl (by decide) ?_)
   |(refine K.asg ?_;refine WpL.assign rfl (by decide) ?_)
   |(refine K.bin ?_;first
    |refine WpL.add rfl rfl (by omega) (by decide) ?_
    |refine WpL.sub rfl rfl (by omega) (by decide) ?_
    |refine WpL.mul rfl rfl (by first|omega|exact mul_in (by omega) (by omega)|assumption) (by decide) ?_
    |refine WpL.quo rfl rfl (by omega) (by decide) ?_
    |refine WpL.rem rfl rfl (by omega) (by decide) ?_
    |refine WpL.bin rfl rfl rfl (by decide) ?_
    |refine WpL.strEq rfl rfl (by decide) ?_
    |refine WpL.strNe rfl rfl (by decide) ?_
    |refine WpL.nilEq (TabOk.slice tabOk rfl).1 rfl rfl (by decide) ?_
    |refine WpL.immEq (TabOk.slice tabOk rfl).1 rfl rfl (by decide) (fun hgo=>?_) ?_
    |refine WpL.ownEq (TabOk.slice tabOk rfl).1 rfl rfl rfl (by first|rfl|omega|(simp;done)|(simp;omega)) rfl (by decide) ?_
    |refine WpL.shl rfl rfl (by first|decide|(simp only [IntKind.bits];omega)) (by decide) ?_
    |refine WpL.shr rfl rfl (by first|decide|(simp only [IntKind.bits];omega)) (by decide) ?_)
   |(refine K.ld ?_;first
    |refine WpL.loadInts tabOk rfl rfl rfl (by first|omega|(simp;omega)) (by decide) ?_
    |refine WpL.loadStrs tabOk rfl rfl rfl (by first|omega|(simp;omega)) (by decide) ?_
    |refine WpL.loadRow tabOk rfl rfl (fun _=>rfl) (fun _=>rfl) (by first|rfl|omega|(simp;done)|(simp;omega)) (by decide) rfl ?_
    |refine WpL.loadField tabOk rfl rfl rfl (fun _=>rfl) rfl rfl (by first|rfl|omega|(simp;done)|(simp;omega)) (by decide) ?_
    |refine WpL.loadOwn tabOk rfl rfl rfl rfl (fun _=>rfl) rfl (by first|rfl|omega|(simp;done)|(simp;omega)) (by decide) rfl ?_
    |refine WpL.load1 tabOk rfl rfl rfl rfl rfl (by decide) ?_
    |refine WpL.loadAgg (ds:=[_]) tabOk rfl rfl rfl rfl rfl (by decide) ?_
    |refine WpL.loadAgg (ds:=[_,_]) tabOk rfl rfl rfl rfl rfl (by decide) ?_
    |refine WpL.loadAgg (ds:=[_,_,_]) tabOk rfl rfl rfl rfl rfl (by decide) ?_
    |refine WpL.loadAgg (ds:=[_,_,_,_]) tabOk rfl rfl rfl rfl rfl (by decide) ?_
    |refine WpL.loadAgg (ds:=[_,_,_,_,_]) tabOk rfl rfl rfl rfl rfl (by decide) ?_
    |refine WpL.loadAgg (ds:=[_,_,_,_,_,_]) tabOk rfl rfl rfl rfl rfl (by decide) ?_
    |refine WpL.loadAgg (ds:=[_,_,_,_,_,_,_]) tabOk rfl rfl rfl rfl rfl (by decide) ?_
    |refine WpL.loadAgg (ds:=[_,_,_,_,_,_,_,_]) tabOk rfl rfl rfl rfl rfl (by decide) ?_
    |refine WpL.loadLi tabOk rfl rfl rfl (by first|rfl|omega|(simp;done)|(simp;omega)) (by decide) ?_
    |refine WpL.loadSlot tabOk rfl rfl rfl rfl (by first|rfl|omega|(simp;done)|(simp;omega)) (by first|omega|(simp;omega)|(simp;done)) rfl (by decide) ?_)
   |(refine K.fld ?_;first
    |refine WpL.fieldI tabOk rfl rfl rfl (by decide) ?_
    |refine WpL.fieldP tabOk rfl rfl rfl rfl rfl (by decide) ?_)
   |(refine K.ixa ?_;first
    |refine WpL.idxI1 tabOk rfl rfl rfl (by omega) (by decide) ?_
    |refine WpL.idxIJ tabOk rfl rfl rfl (by omega) (by decide) ?_
    |refine WpL.idxOJ tabOk rfl rfl rfl rfl rfl (by omega) (by decide) ?_
    |refine WpL.idxIN tabOk rfl rfl rfl (by omega) (by decide) ?_
    |refine WpL.idxON tabOk rfl rfl rfl rfl rfl (by omega) (by decide) ?_
    |refine WpL.idxI tabOk rfl rfl rfl (by omega) (by decide) ?_
    |refine WpL.idxO tabOk rfl rfl rfl rfl rfl (by omega) (by decide) ?_)
   |(refine K.call ?_;refine K.con (fun hcon=>?_);first
    |(apply WpL.callI (hcon _)
      ·exact snapA
      ·exact locA
      ·exact outA
      ·exact frzA
      ·decide
      all_goals clear hcon)
    |(apply WpL.callI (hcon)
      ·exact snapA
      ·exact locA
      ·exact outA
      ·exact frzA
      ·decide
      all_goals clear hcon)
    |(apply WpL.callI (hcon _ _)
      ·exact snapA
      ·exact locA
      ·exact outA
      ·exact frzA
      ·decide
      all_goals clear hcon)
    |(apply WpL.callI (hcon _)
      ·exact snapA
      ·exact locA
      ·exact outA
      ·exact frzA
      ·decide
      all_goals clear hcon)
    |(apply WpL.callI (hcon _ _ _)
      ·exact snapA
      ·exact locA
      ·exact outA
      ·exact frzA
      ·decide
      all_goals clear hcon)
    |(apply WpL.callI (hcon _ _)
      ·exact snapA
      ·exact locA
      ·exact outA
      ·exact frzA
      ·decide
      all_goals clear hcon)
    |(apply WpL.callI (hcon _ _ _ _)
      ·exact snapA
      ·exact locA
      ·exact outA
      ·exact frzA
      ·decide
      all_goals clear hcon)
    |(apply WpL.callI (hcon _ _ _)
      ·exact snapA
      ·exact locA
      ·exact outA
      ·exact frzA
      ·decide
      all_goals clear hcon)
    |(apply WpL.callI (hcon _ _ _ _ _)
      ·exact snapA
      ·exact locA
      ·exact outA
      ·exact frzA
      ·decide
      all_goals clear hcon)
    |(apply WpL.callI (hcon _ _ _ _)
      ·exact snapA
      ·exact locA
      ·exact outA
      ·exact frzA
      ·decide
      all_goals clear hcon)
    |(apply WpL.callI (hcon _ _ _ _ _ _)
      ·exact snapA
      ·exact locA
      ·exact outA
      ·exact frzA
      ·decide
      all_goals clear hcon)
    |(apply WpL.callI (hcon _ _ _ _ _)
      ·exact snapA
      ·exact locA
      ·exact outA
      ·exact frzA
      ·decide
      all_goals clear hcon)
    |(apply WpL.callI (hcon _ _ _ _ _ _ _)
      ·exact snapA
      ·exact locA
      ·exact outA
      ·exact frzA
      ·decide
      all_goals clear hcon)
    |(apply WpL.callI (hcon _ _ _ _ _ _)
      ·exact snapA
      ·exact locA
      ·exact outA
      ·exact frzA
      ·decide
      all_goals clear hcon)
    |(apply WpL.callI (hcon _ _ _ _ _ _ _ _)
      ·exact snapA
      ·exact locA
      ·exact outA
      ·exact frzA
      ·decide
      all_goals clear hcon)
    |(apply WpL.callI (hcon _ _ _ _ _ _ _)
      ·exact snapA
      ·exact locA
      ·exact outA
      ·exact frzA
      ·decide
      all_goals clear hcon)
    |(apply WpL.callI (hcon _ _ _ _ _ _ _ _ _)
      ·exact snapA
      ·exact locA
      ·exact outA
      ·exact frzA
      ·decide
      all_goals clear hcon)
    |(apply WpL.callI (hcon _ _ _ _ _ _ _ _)
      ·exact snapA
      ·exact locA
      ·exact outA
      ·exact frzA
      ·decide
      all_goals clear hcon)
    |(apply WpL.callI (hcon _ _ _ _ _ _ _ _ _ _)
      ·exact snapA
      ·exact locA
      ·exact outA
      ·exact frzA
      ·decide
      all_goals clear hcon)
    |(apply WpL.callI (hcon _ _ _ _ _ _ _ _ _)
      ·exact snapA
      ·exact locA
      ·exact outA
      ·exact frzA
      ·decide
      all_goals clear hcon)
    |(apply WpL.callI (hcon _ _ _ _ _ _ _ _ _ _ _)
      ·exact snapA
      ·exact locA
      ·exact outA
      ·exact frzA
      ·decide
      all_goals clear hcon)
    |(apply WpL.callI (hcon _ _ _ _ _ _ _ _ _ _)
      ·exact snapA
      ·exact locA
      ·exact outA
      ·exact frzA
      ·decide
      all_goals clear hcon)
    |(apply WpL.callI (hcon _ _ _ _ _ _ _ _ _ _ _ _)
      ·exact snapA
      ·exact locA
      ·exact outA
      ·exact frzA
      ·decide
      all_goals clear hcon)
    |(apply WpL.callI (hcon _ _ _ _ _ _ _ _ _ _ _)
      ·exact snapA
      ·exact locA
      ·exact outA
      ·exact frzA
      ·decide
      all_goals clear hcon)
    |(apply WpL.callI (hcon _ _ _ _ _ _ _ _ _ _ _ _ _)
      ·exact snapA
      ·exact locA
      ·exact outA
      ·exact frzA
      ·decide
      all_goals clear hcon)
    |(apply WpL.callI (hcon _ _ _ _ _ _ _ _ _ _ _ _)
      ·exact snapA
      ·exact locA
      ·exact outA
      ·exact frzA
      ·decide
      all_goals clear hcon)
    |(apply WpL.callI (hcon _ _ _ _ _ _ _ _ _ _ _ _ _ _)
      ·exact snapA
      ·exact locA
      ·exact outA
      ·exact frzA
      ·decide
      all_goals clear hcon)
    |(apply WpL.callI (hcon _ _ _ _ _ _ _ _ _ _ _ _ _)
      ·exact snapA
      ·exact locA
      ·exact outA
      ·exact frzA
      ·decide
      all_goals clear hcon)
    |(apply WpL.callI (hcon _ _ _ _ _ _ _ _ _ _ _ _ _ _ _)
      ·exact snapA
      ·exact locA
      ·exact outA
      ·exact frzA
      ·decide
      all_goals clear hcon)
    |(apply WpL.callI (hcon _ _ _ _ _ _ _ _ _ _ _ _ _ _)
      ·exact snapA
      ·exact locA
      ·exact outA
      ·exact frzA
      ·decide
      all_goals clear hcon))
   |(refine K.callT ?_;refine K.conV rfl (fun hcon=>?_);first
    |(refine WpL.callVF rfl (hcon ?_) rfl snapA locA outA rfl rfl rfl (by decide) ?_<;>clear hcon)
    |(refine WpL.callVF rfl (hcon) rfl snapA locA outA rfl rfl rfl (by decide) ?_<;>clear hcon)
    |(refine WpL.callVF rfl (hcon _ ?_) rfl snapA locA outA rfl rfl rfl (by decide) ?_<;>clear hcon)
    |(refine WpL.callVF rfl (hcon _) rfl snapA locA outA rfl rfl rfl (by decide) ?_<;>clear hcon)
    |(refine WpL.callVF rfl (hcon _ _ ?_) rfl snapA locA outA rfl rfl rfl (by decide) ?_<;>clear hcon)
    |(refine WpL.callVF rfl (hcon _ _) rfl snapA locA outA rfl rfl rfl (by decide) ?_<;>clear hcon)
    |(refine WpL.callVF rfl (hcon _ _ _ ?_) rfl snapA locA outA rfl rfl rfl (by decide) ?_<;>clear hcon)
    |(refine WpL.callVF rfl (hcon _ _ _) rfl snapA locA outA rfl rfl rfl (by decide) ?_<;>clear hcon)
    |(refine WpL.callVF rfl (hcon _ _ _ _ ?_) rfl snapA locA outA rfl rfl rfl (by decide) ?_<;>clear hcon)
    |(refine WpL.callVF rfl (hcon _ _ _ _) rfl snapA locA outA rfl rfl rfl (by decide) ?_<;>clear hcon)
    |(refine WpL.callVF rfl (hcon _ _ _ _ _ ?_) rfl snapA locA outA rfl rfl rfl (by decide) ?_<;>clear hcon)
    |(refine WpL.callVF rfl (hcon _ _ _ _ _) rfl snapA locA outA rfl rfl rfl (by decide) ?_<;>clear hcon)
    |(refine WpL.callVF rfl (hcon _ _ _ _ _ _ ?_) rfl snapA locA outA rfl rfl rfl (by decide) ?_<;>clear hcon)
    |(refine WpL.callVF rfl (hcon _ _ _ _ _ _) rfl snapA locA outA rfl rfl rfl (by decide) ?_<;>clear hcon)
    |(refine WpL.callVF rfl (hcon _ _ _ _ _ _ _ ?_) rfl snapA locA outA rfl rfl rfl (by decide) ?_<;>clear hcon)
    |(refine WpL.callVF rfl (hcon _ _ _ _ _ _ _) rfl snapA locA outA rfl rfl rfl (by decide) ?_<;>clear hcon)
    |(refine WpL.callVF rfl (hcon _ _ _ _ _ _ _ _ ?_) rfl snapA locA outA rfl rfl rfl (by decide) ?_<;>clear hcon)
    |(refine WpL.callVF rfl (hcon _ _ _ _ _ _ _ _) rfl snapA locA outA rfl rfl rfl (by decide) ?_<;>clear hcon)
    |(refine WpL.callVF rfl (hcon _ _ _ _ _ _ _ _ _ ?_) rfl snapA locA outA rfl rfl rfl (by decide) ?_<;>clear hcon)
    |(refine WpL.callVF rfl (hcon _ _ _ _ _ _ _ _ _) rfl snapA locA outA rfl rfl rfl (by decide) ?_<;>clear hcon)
    |(refine WpL.callVF rfl (hcon _ _ _ _ _ _ _ _ _ _ ?_) rfl snapA locA outA rfl rfl rfl (by decide) ?_<;>clear hcon)
    |(refine WpL.callVF rfl (hcon _ _ _ _ _ _ _ _ _ _) rfl snapA locA outA rfl rfl rfl (by decide) ?_<;>clear hcon)
    |(refine WpL.callVF rfl (hcon _ _ _ _ _ _ _ _ _ _ _ ?_) rfl snapA locA outA rfl rfl rfl (by decide) ?_<;>clear hcon)
    |(refine WpL.callVF rfl (hcon _ _ _ _ _ _ _ _ _ _ _) rfl snapA locA outA rfl rfl rfl (by decide) ?_<;>clear hcon)
    |(refine WpL.callVF rfl (hcon _ _ _ _ _ _ _ _ _ _ _ _ ?_) rfl snapA locA outA rfl rfl rfl (by decide) ?_<;>clear hcon)
    |(refine WpL.callVF rfl (hcon _ _ _ _ _ _ _ _ _ _ _ _) rfl snapA locA outA rfl rfl rfl (by decide) ?_<;>clear hcon))
   |(refine K.mkF ?_;refine WpL.makeFunc rfl (by decide) ?_)
   |(refine K.ix ?_;first
    |refine WpL.idxStr1 tabOk rfl rfl rfl (by omega) (by decide) (fun hgo=>?_)
    |refine WpL.idxStrB tabOk rfl rfl rfl (by omega) (by decide) (fun hgo=>?_))
   |(refine K.bi ?_;first
    |(refine K.blen ?_;first
     |refine WpL.lenImm (TabOk.slice tabOk rfl).1 rfl (by decide) ?_
     |refine WpL.lenOwn (TabOk.slice tabOk rfl).1 rfl rfl rfl (by decide) ?_
     |refine WpL.lenStr (K.tyStr tabOk rfl) rfl (by decide) ?_)
    |(refine K.bapp ?_;first
     |refine WpL.app1Ints tabOk rfl rfl rfl (by first|exact Nat.zero_le _|exact Nat.le_of_ble_eq_true rfl) rfl rfl (by first|rfl|omega|(simp;done)|(simp;omega)) (by omega) (by decide) ?_
     |refine WpL.appInts tabOk rfl rfl rfl (by first|exact Nat.zero_le _|exact Nat.le_of_ble_eq_true rfl) rfl rfl (by first|rfl|omega|(simp;done)|(simp;omega)) (by first|rfl|omega|(simp;done)|(simp;omega)) (by omega) (by decide) ?_
     |refine WpL.nil1Ints tabOk rfl rfl rfl rfl (by omega) rfl (by decide) ?_
     |refine WpL.app1U8s tabOk rfl rfl rfl (by first|exact Nat.zero_le _|exact Nat.le_of_ble_eq_true rfl) rfl rfl (by first|rfl|omega|(simp;done)|(simp;omega)) (by omega) (by decide) ?_
     |refine WpL.app1Strs tabOk rfl rfl rfl (by first|exact Nat.zero_le _|exact Nat.le_of_ble_eq_true rfl) rfl rfl (by first|rfl|omega|(simp;done)|(simp;omega)) (by omega) (by decide) ?_
     |refine WpL.appRow (f:=prF) (v:=(_,_)) tabOk rfl rfl rfl (by first|exact Nat.zero_le _|exact Nat.le_of_ble_eq_true rfl) rfl rfl (fun _=>rfl) rfl rfl (by first|rfl|omega|(simp;done)|(simp;omega)) (by omega) (by decide) ?_
     |refine WpL.appRow (f:=plF) (v:=(_,_,_)) tabOk rfl rfl rfl (by first|exact Nat.zero_le _|exact Nat.le_of_ble_eq_true rfl) rfl rfl (fun _=>rfl) rfl rfl (by first|rfl|omega|(simp;done)|(simp;omega)) (by omega) (by decide) ?_
     |refine WpL.appBlk tabOk rfl rfl rfl (by first|exact Nat.zero_le _|exact Nat.le_of_ble_eq_true rfl) rfl rfl rfl rfl rfl (by first|exact Nat.zero_le _|exact Nat.le_of_ble_eq_true rfl) (by first|rfl|omega|(simp;done)|(simp;omega)) (by first|rfl|omega|(simp;done)|(simp;omega)) (by omega) (by decide) ?_
     |refine WpL.appMb tabOk rfl rfl rfl (by first|exact Nat.zero_le _|exact Nat.le_of_ble_eq_true rfl) rfl rfl rfl rfl rfl (by first|exact Nat.zero_le _|exact Nat.le_of_ble_eq_true rfl) (by first|rfl|omega|(simp;done)|(simp;omega)) (by first|rfl|omega|(simp;done)|(simp;omega)) (by omega) (by decide) ?_
     |refine WpL.appFr tabOk rfl rfl rfl (by first|exact Nat.zero_le _|exact Nat.le_of_ble_eq_true rfl) rfl rfl rfl rfl rfl (by first|exact Nat.zero_le _|exact Nat.le_of_ble_eq_true rfl) (by first|rfl|omega|(simp;done)|(simp;omega)) (by first|rfl|omega|(simp;done)|(simp;omega)) (by omega) (by decide) ?_
     |refine WpL.appOwn tabOk rfl rfl rfl rfl rfl rfl (by simp) (by first|exact Nat.zero_le _|exact Nat.le_of_ble_eq_true rfl) rfl rfl (by simp) (by simp [all_ints,all_u8s,all_strs,oneB,Value.oneCell']) (by omega) (by decide) ?_
     |refine WpL.appNil tabOk rfl rfl rfl rfl (by simp) (by simp [all_ints,all_u8s,all_strs,oneB,Value.oneCell']) (by omega) rfl (by decide) ?_)
    |refine WpL.min2 rfl rfl (by decide) ?_
    |refine WpL.max2 rfl rfl (by decide) ?_)
   |(refine K.un ?_;first
    |refine WpL.not rfl (by decide) ?_
    |refine WpL.neg rfl (by omega) (by decide) ?_)
   |(refine K.pick ?_;first
    |refine WpL.pickT rfl rfl (by decide) ?_
    |refine WpL.pickF rfl rfl (by decide) ?_)
   |(refine K.bld ?_;refine WpL.build tabOk rfl rfl (by kernel_rfl) (by decide) ?_)
   |(refine K.ext ?_;refine WpL.extract rfl rfl (by first|decide|simp [AV.shL]) (by decide) ?_)
   |(refine K.cv ?_;first
    |refine WpL.convI (P:=Tryz.prog) (by rfl) (K.tyInt tabOk rfl) rfl (by omega) (by decide) ?_
    |refine WpL.conv (P:=Tryz.prog) (by rfl) (K.tyInt tabOk rfl) rfl (by decide) ?_
    |refine WpL.ofBytes tabOk rfl rfl rfl rfl rfl (by simp) (by decide) ?_)
   |(refine K.lit ?_;first
    |refine WpL.lit0U8s tabOk rfl rfl rfl (by decide) ?_
    |refine WpL.lit0Ints tabOk rfl rfl rfl (by decide) ?_
    |refine WpL.lit0Strs tabOk rfl rfl rfl (by decide) ?_
    |refine WpL.litInts tabOk rfl rfl rfl rfl rfl (by decide) rfl (by decide) ?_
    |refine WpL.litU8s tabOk rfl rfl rfl rfl rfl (by decide) rfl (by decide) ?_
    |refine WpL.litStrs tabOk rfl rfl rfl rfl rfl (by decide) rfl (by decide) ?_
    |(apply WpL.litLis tabOk
      ·exact rfl
      ·exact rfl
      ·exact rfl
      ·exact rfl
      ·decide
      ·exact rfl
      ·exact rfl
      ·exact rfl
      ·decide
      ·repeat' (first
        |exact NestC.nil
        |(apply NestC.cons
          ·exact rfl
          ·exact rfl
          ·exact rfl
          ·exact rfl
          ·first|exact Nat.zero_le _|exact Nat.le_of_ble_eq_true rfl
          ·exact rfl
          ·first|rfl|exact still_ints _
          ·first|rfl|simp
          ·exact rfl))
      ·exact rfl
      ·exact rfl)
    |refine WpL.litF tabOk rfl rfl rfl rfl (by decide) rfl (by decide) ?_)
   |(refine K.ms ?_;first
    |refine WpL.makeInts tabOk rfl rfl rfl (by omega) (by omega) rfl (by decide) ?_)
   |(refine K.st ?_;first
    |refine WpL.storeInts tabOk rfl rfl rfl rfl rfl (by first|omega|(simp;omega)) ?_
    |refine WpL.storeSlot tabOk rfl rfl rfl rfl rfl rfl (by first|rfl|omega|(simp;done)|(simp;omega)) (by first|omega|(simp;omega)|(simp;done)) ?_
    |refine WpL.storeS tabOk rfl rfl rfl rfl rfl rfl rfl rfl (by first|decide|omega|(simp;omega)|(simp;done)) (by first|(simp only [Go.Abs.setL,List.set_cons_zero,List.set_cons_succ,Nat.zero_add,Nat.reduceAdd];exact rfl)|exact rfl) ?_)
   |(refine K.all ?_;first
    |refine WpL.allocStruct tabOk rfl rfl (by decide) ?_
    |refine WpL.allocPlain tabOk rfl rfl rfl (by decide) ?_)
   |(refine K.box ?_;refine WpL.box rfl rfl rfl (by decide) ?_)
   |(refine K.nc ?_;first
    |refine WpL.nilCheckP rfl rfl rfl (by decide) ?_)
   |(refine K.sl ?_;first
    |refine WpL.subStrLo tabOk rfl rfl rfl (by omega) (by decide) ?_
    |refine WpL.subStrHi tabOk rfl rfl rfl (by omega) (by decide) ?_
    |refine WpL.subStrHi1 tabOk rfl rfl rfl (by omega) (by decide) ?_
    |refine WpL.subStr tabOk rfl rfl (by first|exact .inl ⟨rfl,rfl⟩|exact .inr ⟨_,_,rfl,rfl⟩) (by first|exact .inl ⟨rfl,rfl⟩|exact .inr ⟨_,_,rfl,rfl⟩) (by omega) (by decide) ?_
    |refine WpL.subIntsHi tabOk rfl rfl rfl (by first|rfl|omega|(simp;done)|(simp;omega)) (by omega) (by decide) ?_
    |refine WpL.subImm tabOk rfl rfl (by first|exact .inl ⟨rfl,rfl⟩|exact .inr ⟨_,_,rfl,rfl⟩) (by first|exact .inl ⟨rfl,rfl⟩|exact .inr ⟨_,_,rfl,rfl⟩) (by omega) (by decide) ?_))
  |(refine K.le ?_;first|omega|(simp;omega)|assumption)
  |(refine K.lt ?_;first|omega|(simp;omega)|assumption)
  |refine And.intro ?_ ?_
  |omega
  |assumption
  |(simp;done)))
 first|done|fail):X:=h
theorem headG {X:Prop} (h:X:=by
 (repeat' (first
 |exact Abs.HeadJ.nil
 |(apply HeadJ.consF rfl
   ·exact rfl
   ·exact inG
   ·exact rfl)))
 first|done|fail):X:=h
theorem headNI {X:Prop} (h:X:=by
 (repeat' (first
 |exact Abs.HeadN.nil
 |(apply HeadN.pureF rfl
   ·exact rfl
   ·exact rfl
   ·exact rfl
   ·exact inI
   ·exact rfl)
 |(apply HeadN.prodF rfl
   ·exact rfl
   ·exact rfl
   ·exact in1
   ·intro hgo;cases hgo
   ·exact rfl
   ·exact rfl
   ·exact rfl)))
 first|done|fail):X:=h
end Go.Proofs.YtndflfipaddfoaaGreat


namespace Go.Proofs.YtndflfipaddfoaaGreat
open Go Go.Abs
attribute [local irreducible] WpA WpL Rnd Blk Abs.Seq Abs.Fin Abs.FinG FnC FnG Only
abbrev FrO (W H:Int) (p:List Int):AObj:=⟨[I W,I H,IL p],0,0,none⟩
abbrev FrOwn (k:Nat) (W H:Int) (len:Nat):AV:=.agg [I W,I H,.own k 0 0 len]
instance fits_c:Con 158 (∀ (W H:Int) (p:List Int) (x y n:Int),p.length≤1099511627776→Fn 158 [FrA W H p,I x,I y,I n] [] (B (decide (Fits W H p x y n)))):=⟨fun W H p x y n hl=>by
 refine FnC.of_body tabOk Tryz.func158 Tryz.ntmps158 rfl (by decide +kernel) (by simp) fun G=>?_
 by_cases h0:FrameOk W H p
 ·have h1:=h0.1
  by_cases h2:n=4∨n=8
  ·refine go (r:=?_);and_intros<;>intros<;>try exact True.intro
   all_goals first|(simp_all;done)|(rw [Bool.eq_iff_iff];simp only [decide_eq_true_eq,Bool.not_eq_true',decide_eq_false_iff_not,Bool.false_eq_true,true_iff,false_iff,iff_true,iff_false,Bool.not_eq_eq_eq_not,Bool.not_true];omega)
  ·refine go (r:=?_);and_intros<;>intros<;>try exact True.intro
   all_goals first|(simp_all;done)|(rw [Bool.eq_iff_iff];simp only [decide_eq_true_eq,Bool.not_eq_true',decide_eq_false_iff_not,Bool.false_eq_true,true_iff,false_iff,iff_true,iff_false,Bool.not_eq_eq_eq_not,Bool.not_true];omega)
 ·refine go (r:=?_);and_intros<;>intros<;>try exact True.intro
  all_goals first|(simp_all;done)|(rw [Bool.eq_iff_iff];simp only [decide_eq_true_eq,Bool.not_eq_true',decide_eq_false_iff_not,Bool.false_eq_true,true_iff,false_iff,iff_true,iff_false,Bool.not_eq_eq_eq_not,Bool.not_true];omega)⟩
instance l18In_s:Con 141 (∀ (W H:Int) (p:List Int) (x y n:Int),p.length≤1099511627776→Fn 141 [FrA W H p,I x,I y,I n] [] (B (decide (Fits W H p x y n)))):=⟨fun W H p x y n hl=>by
 refine FnC.of_body tabOk Tryz.func141 Tryz.ntmps141 rfl (by decide +kernel) (by simp) fun G=>?_
 by_cases h0:FrameOk W H p
 ·have h1:=h0.1
  by_cases h2:n=4∨n=8
  ·refine go (r:=?_);and_intros<;>intros<;>try exact True.intro
   all_goals first|(simp_all;done)|(rw [Bool.eq_iff_iff];simp only [decide_eq_true_eq,Bool.not_eq_true',decide_eq_false_iff_not,Bool.false_eq_true,true_iff,false_iff,iff_true,iff_false,Bool.not_eq_eq_eq_not,Bool.not_true];omega)
  ·refine go (r:=?_);and_intros<;>intros<;>try exact True.intro
   all_goals first|(simp_all;done)|(rw [Bool.eq_iff_iff];simp only [decide_eq_true_eq,Bool.not_eq_true',decide_eq_false_iff_not,Bool.false_eq_true,true_iff,false_iff,iff_true,iff_false,Bool.not_eq_eq_eq_not,Bool.not_true];omega)
 ·refine go (r:=?_);and_intros<;>intros<;>try exact True.intro
  all_goals first|(simp_all;done)|(rw [Bool.eq_iff_iff];simp only [decide_eq_true_eq,Bool.not_eq_true',decide_eq_false_iff_not,Bool.false_eq_true,true_iff,false_iff,iff_true,iff_false,Bool.not_eq_eq_eq_not,Bool.not_true];omega)⟩
instance own_c:Con 159 (∀ (W H:Int) (p:List Int),p.length≤1099511627776→Fn 159 [FrA W H p] [XI p] (FrOwn 0 W H p.length)):=⟨fun W H p hl=>by
 refine FnC.of_body tabOk Tryz.func159 Tryz.ntmps159 rfl (by decide +kernel) (by simp) fun G=>?_
 refine go (r:=?_);and_intros<;>intros<;>try exact True.intro
 all_goals trace_state⟩
instance l18Copy_s:Con 143 (∀ (W H:Int) (p:List Int),p.length≤1099511627776→Fn 143 [FrA W H p] [XI p] (FrOwn 0 W H p.length)):=⟨fun W H p hl=>by
 refine FnC.of_body tabOk Tryz.func143 Tryz.ntmps143 rfl (by decide +kernel) (by simp) fun G=>?_
 refine go (r:=?_);and_intros<;>intros<;>try exact True.intro
 all_goals trace_state⟩
end Go.Proofs.YtndflfipaddfoaaGreat


namespace Go.Proofs.YtndflfipaddfoaaGreat
open Go Go.Abs
attribute [local irreducible] WpA WpL Rnd Blk Abs.Seq Abs.Fin Abs.FinG FnC FnG Only
theorem setL_yes {W H:Int} {p:List Int} {x y:Int} {l:List Int} (h:SetOk W H p x y l):setL W H p x y l=setK W x y (side l.length) l p l.length:=by unfold setL;rw [if_pos h]
theorem setL_no {W H:Int} {p:List Int} {x y:Int} {l:List Int} (h:¬SetOk W H p x y l):setL W H p x y l=p:=by unfold setL;rw [if_neg h]
end Go.Proofs.YtndflfipaddfoaaGreat


namespace Go.Proofs.YtndflfipaddfoaaGreat
open Go Go.Abs
attribute [local irreducible] WpA WpL Rnd Blk Abs.Seq Abs.Fin Abs.FinG FnC FnG Only
theorem set_step (W x y n:Int) (l p:List Int) (k:Nat):(setK W x y n l p k).set ((y+(k:Int)/n)*W+x+(k:Int)%n).toNat (l.getD k 0)=setK W x y n l p (k+1):=rfl
instance SetBlock_c:Con 160 (∀ (W H:Int) (p:List Int) (x y:Int) (l:List Int),p.length≤1099511627776∧l.length≤1099511627776→Fn 160 [FrA W H p,I x,I y,IL l] [XI (setL W H p x y l)] (.tup [FrOwn 0 W H (setL W H p x y l).length,B (decide (SetOk W H p x y l))])):=⟨fun W H p x y l hl=>by
 have hlen:=setL_len W H p x y l
 by_cases h:SetOk W H p x y l
 ·have e:=setL_yes h
  have hd:=decide_eq_true h
  obtain ⟨h1,h2⟩:=id h
  have h1s:=h1
  rcases h1.2.1 with e4|e4
  ·have hll:l.length=16:=by have:=side_cases l.length;omega
   have e2:setL W H p x y l=setK W x y 4 l p 16:=by rw [e,e4,hll]
   rw [hlen,e2,hd]
   rw [e4] at h1
   refine FnC.of_body tabOk Tryz.func160 Tryz.ntmps160 rfl (by decide +kernel) (by simp) fun G=>?_
   refine goR (r:=?_);and_intros<;>intros<;>try exact True.intro
   apply WpA.regionSF (O:=[FrO W H p,⟨[I 0,I 0,.nilS],0,0,none⟩]) (Or:=[]) (O1:=[FrO W H p,⟨[I 0,I 0,.nilS],0,0,none⟩,⟨ints p,1,1,some 3⟩,⟨[I 0,I 0,.nilS],1,0,none⟩,deadO,deadO]) 6 2 [] [] rfl mixed (by decide +kernel)
   ·exact rfl
   ·apply HeadS.consF .none rfl
    ·exact rfl
    ·exact rfl
    ·exact in1
    ·exact rfl
    ·exact rfl
    apply HeadS.consF .none rfl
    ·exact rfl
    ·exact rfl
    ·exact in1
    ·exact rfl
    ·exact rfl
    apply HeadS.consF .none rfl
    ·exact rfl
    ·exact rfl
    ·exact in0
    ·exact rfl
    ·exact rfl
    apply HeadS.consF .none rfl
    ·exact rfl
    ·exact rfl
    ·exact in1
    ·exact rfl
    ·exact rfl
    apply HeadS.consF (V:=.agg [I W,I H,.own 2 1 0 p.length]) (.put 0 (⟨ints p,1,1,some 3⟩)) rfl
    ·exact rfl
    ·exact rfl
    ·intro Tv Ov hc hp' hd hk
     skip
     refine K.call ?_
     refine K.con (fun hcon=>?_)
     refine WpL.callF (hcon W H p (by omega)) snapA locA outA (cnt_some _ 0) rfl rfl (by decide) ?_
     rw [Nat.zero_add]
     apply WpL.putV (p:=0)
     ·first|exact .agg (.keep rfl rfl (.keep rfl rfl (.own (by first|rfl|simp) .nil))) .nil|exact .own (by first|rfl|simp) .nil
     ·exact hp' 0 _ rfl
     ·exact Nat.zero_le _
     ·exact rfl
     ·first|exact still_ints _|exact still_rows (fun _=>rfl) _|rfl
    ·exact rfl
    ·exact rfl
    apply HeadS.consF (V:=.ptr 3 1 0) (.put 1 (⟨[I 0,I 0,.nilS],1,0,none⟩)) rfl
    ·exact rfl
    ·exact rfl
    ·intro Tv Ov hc hp' hd hk
     refine K.all ?_
     refine WpL.allocStruct tabOk rfl (by rw [nid_len,Nat.zero_add]) (by decide) ?_
     apply WpL.putV (p:=1)
     ·exact .ptr (by first|rfl|simp) .nil
     ·exact hp' 1 _ rfl
     ·exact Nat.zero_le _
     ·exact rfl
     ·rfl
    ·exact rfl
    ·exact rfl
    exact HeadS.nil
   ·exact rfl
   ·exact rfl
   ·exact rfl
   ·exact rfl
   ·exact rfl
   ·exact rfl
   ·exact rfl
   refine goR (r:=?_);and_intros<;>intros<;>try exact True.intro
   all_goals first|contradiction|(exact absurd h1s (by assumption))|skip
   refine WpA.loop (fun k:Nat=>⟨[(1,I x),(2,I y),(4,.ptr 0 0 0),(8,.ptr 1 0 0),(10,I 4),(11,.ptr 3 1 0),(31,IL l),(32,I 16),(33,I k)],[FrO W H p,⟨[I 0,I 0,.nilS],0,0,none⟩,⟨ints (setK W x y 4 l p k),1,1,some 3⟩,⟨[I W,I H,.own 2 1 0 p.length],1,0,none⟩]⟩) (fun k=>k≤16) (fun k=>16-k) 0 (by omega) (go (r:=?_)) (fun k hk=>?_)
   ·and_intros<;>first|exact True.intro|rfl
   have hkl:=setK_len W x y 4 l p k
   by_cases hlt:k<16
   ·obtain ⟨⟨b1,b2,b3,b4⟩,b5,b6,b7,b8⟩:=px_in h1 (i:=k) (by omega)
    unfold pxI at b7 b8
    refine go (r:=?_);and_intros<;>intros<;>try exact True.intro
    all_goals first|contradiction|omega|exact set_step ..
   ·obtain rfl:k=16:=by omega
    refine go (r:=?_);and_intros<;>intros<;>try exact True.intro
    all_goals first|contradiction|exact hd|exact hd.symm
  ·have hll:l.length=64:=by have:=side_cases l.length;omega
   have e2:setL W H p x y l=setK W x y 8 l p 64:=by rw [e,e4,hll]
   rw [hlen,e2,hd]
   rw [e4] at h1
   refine FnC.of_body tabOk Tryz.func160 Tryz.ntmps160 rfl (by decide +kernel) (by simp) fun G=>?_
   refine goR (r:=?_);and_intros<;>intros<;>try exact True.intro
   apply WpA.regionSF (O:=[FrO W H p,⟨[I 0,I 0,.nilS],0,0,none⟩]) (Or:=[]) (O1:=[FrO W H p,⟨[I 0,I 0,.nilS],0,0,none⟩,⟨ints p,1,1,some 3⟩,⟨[I 0,I 0,.nilS],1,0,none⟩,deadO,deadO]) 6 2 [] [] rfl mixed (by decide +kernel)
   ·exact rfl
   ·apply HeadS.consF .none rfl
    ·exact rfl
    ·exact rfl
    ·exact in1
    ·exact rfl
    ·exact rfl
    apply HeadS.consF .none rfl
    ·exact rfl
    ·exact rfl
    ·exact in1
    ·exact rfl
    ·exact rfl
    apply HeadS.consF .none rfl
    ·exact rfl
    ·exact rfl
    ·exact in0
    ·exact rfl
    ·exact rfl
    apply HeadS.consF .none rfl
    ·exact rfl
    ·exact rfl
    ·exact in1
    ·exact rfl
    ·exact rfl
    apply HeadS.consF (V:=.agg [I W,I H,.own 2 1 0 p.length]) (.put 0 (⟨ints p,1,1,some 3⟩)) rfl
    ·exact rfl
    ·exact rfl
    ·intro Tv Ov hc hp' hd hk
     skip
     refine K.call ?_
     refine K.con (fun hcon=>?_)
     refine WpL.callF (hcon W H p (by omega)) snapA locA outA (cnt_some _ 0) rfl rfl (by decide) ?_
     rw [Nat.zero_add]
     apply WpL.putV (p:=0)
     ·first|exact .agg (.keep rfl rfl (.keep rfl rfl (.own (by first|rfl|simp) .nil))) .nil|exact .own (by first|rfl|simp) .nil
     ·exact hp' 0 _ rfl
     ·exact Nat.zero_le _
     ·exact rfl
     ·first|exact still_ints _|exact still_rows (fun _=>rfl) _|rfl
    ·exact rfl
    ·exact rfl
    apply HeadS.consF (V:=.ptr 3 1 0) (.put 1 (⟨[I 0,I 0,.nilS],1,0,none⟩)) rfl
    ·exact rfl
    ·exact rfl
    ·intro Tv Ov hc hp' hd hk
     refine K.all ?_
     refine WpL.allocStruct tabOk rfl (by rw [nid_len,Nat.zero_add]) (by decide) ?_
     apply WpL.putV (p:=1)
     ·exact .ptr (by first|rfl|simp) .nil
     ·exact hp' 1 _ rfl
     ·exact Nat.zero_le _
     ·exact rfl
     ·rfl
    ·exact rfl
    ·exact rfl
    exact HeadS.nil
   ·exact rfl
   ·exact rfl
   ·exact rfl
   ·exact rfl
   ·exact rfl
   ·exact rfl
   ·exact rfl
   refine goR (r:=?_);and_intros<;>intros<;>try exact True.intro
   all_goals first|contradiction|(exact absurd h1s (by assumption))|skip
   refine WpA.loop (fun k:Nat=>⟨[(1,I x),(2,I y),(4,.ptr 0 0 0),(8,.ptr 1 0 0),(10,I 8),(11,.ptr 3 1 0),(31,IL l),(32,I 64),(33,I k)],[FrO W H p,⟨[I 0,I 0,.nilS],0,0,none⟩,⟨ints (setK W x y 8 l p k),1,1,some 3⟩,⟨[I W,I H,.own 2 1 0 p.length],1,0,none⟩]⟩) (fun k=>k≤64) (fun k=>64-k) 0 (by omega) (go (r:=?_)) (fun k hk=>?_)
   ·and_intros<;>first|exact True.intro|rfl
   have hkl:=setK_len W x y 8 l p k
   by_cases hlt:k<64
   ·obtain ⟨⟨b1,b2,b3,b4⟩,b5,b6,b7,b8⟩:=px_in h1 (i:=k) (by omega)
    unfold pxI at b7 b8
    refine go (r:=?_);and_intros<;>intros<;>try exact True.intro
    all_goals first|contradiction|omega|exact set_step ..
   ·obtain rfl:k=64:=by omega
    refine go (r:=?_);and_intros<;>intros<;>try exact True.intro
    all_goals first|contradiction|exact hd|exact hd.symm
 ·have e:=setL_no h
  have hd:=decide_eq_false h
  rw [e,hd]
  refine FnC.of_body tabOk Tryz.func160 Tryz.ntmps160 rfl (by decide +kernel) (by simp) fun G=>?_
  refine goR (r:=?_);and_intros<;>intros<;>try exact True.intro
  apply WpA.regionSF (O:=[FrO W H p,⟨[I 0,I 0,.nilS],0,0,none⟩]) (Or:=[]) (O1:=[FrO W H p,⟨[I 0,I 0,.nilS],0,0,none⟩,⟨ints p,1,1,some 3⟩,⟨[I 0,I 0,.nilS],1,0,none⟩,deadO,deadO]) 6 2 [] [] rfl mixed (by decide +kernel)
  ·exact rfl
  ·apply HeadS.consF .none rfl
   ·exact rfl
   ·exact rfl
   ·exact in1
   ·exact rfl
   ·exact rfl
   apply HeadS.consF .none rfl
   ·exact rfl
   ·exact rfl
   ·exact in1
   ·exact rfl
   ·exact rfl
   apply HeadS.consF .none rfl
   ·exact rfl
   ·exact rfl
   ·exact in0
   ·exact rfl
   ·exact rfl
   apply HeadS.consF .none rfl
   ·exact rfl
   ·exact rfl
   ·exact in1
   ·exact rfl
   ·exact rfl
   apply HeadS.consF (V:=.agg [I W,I H,.own 2 1 0 p.length]) (.put 0 (⟨ints p,1,1,some 3⟩)) rfl
   ·exact rfl
   ·exact rfl
   ·intro Tv Ov hc hp' hd hk
    skip
    refine K.call ?_
    refine K.con (fun hcon=>?_)
    refine WpL.callF (hcon W H p (by omega)) snapA locA outA (cnt_some _ 0) rfl rfl (by decide) ?_
    rw [Nat.zero_add]
    apply WpL.putV (p:=0)
    ·first|exact .agg (.keep rfl rfl (.keep rfl rfl (.own (by first|rfl|simp) .nil))) .nil|exact .own (by first|rfl|simp) .nil
    ·exact hp' 0 _ rfl
    ·exact Nat.zero_le _
    ·exact rfl
    ·first|exact still_ints _|exact still_rows (fun _=>rfl) _|rfl
   ·exact rfl
   ·exact rfl
   apply HeadS.consF (V:=.ptr 3 1 0) (.put 1 (⟨[I 0,I 0,.nilS],1,0,none⟩)) rfl
   ·exact rfl
   ·exact rfl
   ·intro Tv Ov hc hp' hd hk
    refine K.all ?_
    refine WpL.allocStruct tabOk rfl (by rw [nid_len,Nat.zero_add]) (by decide) ?_
    apply WpL.putV (p:=1)
    ·exact .ptr (by first|rfl|simp) .nil
    ·exact hp' 1 _ rfl
    ·exact Nat.zero_le _
    ·exact rfl
    ·rfl
   ·exact rfl
   ·exact rfl
   exact HeadS.nil
  ·exact rfl
  ·exact rfl
  ·exact rfl
  ·exact rfl
  ·exact rfl
  ·exact rfl
  ·exact rfl
  by_cases h1:Fits W H p x y (side l.length)
  ·have h2:¬In l 0 255:=fun h3=>h ⟨h1,h3⟩
   refine go (r:=?_);and_intros<;>intros<;>try exact True.intro
   all_goals first|contradiction|exact hd|exact hd.symm
  ·refine go (r:=?_);and_intros<;>intros<;>try exact True.intro
   all_goals first|contradiction|exact hd|exact hd.symm⟩
end Go.Proofs.YtndflfipaddfoaaGreat


namespace Go.Proofs.YtndflfipaddfoaaGreat
open Go Go.Abs
attribute [local irreducible] WpA WpL Rnd Blk Abs.Seq Abs.Fin Abs.FinG FnC FnG Only
theorem scan_own (k:Nat):In (scanL (side k)) 0 (((scanL (side k)).length:Int)-1):=by
 have h:=scan_rg (side k) (by unfold side;split<;>(try split)<;>simp)
 rw [h.2];exact h.1
instance Placed_s:Con 225 (∀ l:List Int,l.length≤1099511627776→Fn 225 [IL l] [XI (plcL l)] (.own 0 0 0 (plcL l).length)):=⟨fun l hl=>by
 obtain ⟨_,hs2⟩:=scan_fit l
 have hs1:=scan_own l.length
 have hsc:=side_cases l.length
 have hpl:=plcL_len l
 have hle:(scanL (side l.length)).length≤l.length:=by
  rcases hsc with ⟨h,e⟩|⟨h,e⟩|⟨_,_,e⟩
  ·rw [(scan_facts (.inl h)).1];exact Nat.le_refl _
  ·rw [(scan_facts (.inr h)).1];exact Nat.le_refl _
  ·rw [e];exact Nat.zero_le _
 refine FnC.of_body tabOk Tryz.func225 Tryz.ntmps225 rfl (by decide +kernel) (by simp) fun G=>?_
 refine go (r:=?_);and_intros<;>intros<;>try exact True.intro
 refine WpA.loop (fun k:Nat=>⟨[(0,IL l),(3,.own 0 0 0 (scanL (side l.length)).length),(4,.own 1 0 0 (scanL (side l.length)).length),(5,I k)],[XI (scanL (side l.length)),XI (plcK (scanL (side l.length)) l k)]⟩) (fun k=>k≤(scanL (side l.length)).length) (fun k=>(scanL (side l.length)).length-k) 0 (by omega) (go (r:=?_)) (fun k hk=>?_)
 ·simp [plcK]
 have hln:=plcK_len (scanL (side l.length)) l k
 have hg:=fun h=>in_get hs1 (k:=k) h
 have hg2:=fun h=>in_get hs1 (k:=((k:Int)).toNat) h
 refine go (r:=?_);and_intros<;>intros<;>try exact True.intro
 have e:k=(scanL (side l.length)).length:=by omega
 rw [e];rfl⟩
instance Placed_c:Con 244 (∀ l:List Int,l.length≤1099511627776→Fn 244 [IL l] [XI (plcL l)] (.own 0 0 0 (plcL l).length)):=⟨fun l hl=>by
 obtain ⟨_,hs2⟩:=scan_fit l
 have hs1:=scan_own l.length
 have hsc:=side_cases l.length
 have hpl:=plcL_len l
 have hle:(scanL (side l.length)).length≤l.length:=by
  rcases hsc with ⟨h,e⟩|⟨h,e⟩|⟨_,_,e⟩
  ·rw [(scan_facts (.inl h)).1];exact Nat.le_refl _
  ·rw [(scan_facts (.inr h)).1];exact Nat.le_refl _
  ·rw [e];exact Nat.zero_le _
 refine FnC.of_body tabOk Tryz.func244 Tryz.ntmps244 rfl (by decide +kernel) (by simp) fun G=>?_
 refine go (r:=?_);and_intros<;>intros<;>try exact True.intro
 refine WpA.loop (fun k:Nat=>⟨[(0,IL l),(4,.own 1 0 0 (scanL (side l.length)).length),(14,.own 0 0 0 (scanL (side l.length)).length),(15,I (scanL (side l.length)).length),(16,I k)],[XI (scanL (side l.length)),XI (plcK (scanL (side l.length)) l k)]⟩) (fun k=>k≤(scanL (side l.length)).length) (fun k=>(scanL (side l.length)).length-k) 0 (by omega) (go (r:=?_)) (fun k hk=>?_)
 ·simp [plcK]
 have hln:=plcK_len (scanL (side l.length)) l k
 have hg:=fun h=>in_get hs1 (k:=k) h
 have hg2:=fun h=>in_get hs1 (k:=((k:Int)).toNat) h
 refine go (r:=?_);and_intros<;>intros<;>try exact True.intro
 have e:k=(scanL (side l.length)).length:=by omega
 rw [e];rfl⟩
instance NormAt_s:Con 273 (∀ n i:Int,(n=0∨n=4∨n=8)∧0≤i∧i≤1000→Fn 273 [I n,I i] [] (I (normL n i))):=⟨fun n i h=>by
 obtain ⟨rfl|rfl|rfl,h0,h1⟩:=h
 ·refine FnC.of_body tabOk Tryz.func273 Tryz.ntmps273 rfl (by decide +kernel) (by simp) fun G=>?_
  refine go (r:=?_);and_intros<;>intros<;>try exact True.intro
  all_goals first|rfl|(unfold normL;rw [if_neg (by omega)];done)
 ·refine FnC.of_body tabOk Tryz.func273 Tryz.ntmps273 rfl (by decide +kernel) (by simp) fun G=>?_
  have hc:i/4%2+i%4%2=0∨i/4%2+i%4%2=1∨i/4%2+i%4%2=2:=by omega
  refine go (r:=?_);and_intros<;>intros<;>try exact True.intro
  all_goals first|rfl|(unfold normL;rw [if_neg (by omega)];done)|skip
  rw [normL,if_pos (by omega),if_neg (by decide)]
  rcases hc with e|e|e
  ·rw [if_pos e,e];rfl
  ·rw [if_neg (by omega),if_neg (by omega),e];rfl
  ·rw [if_neg (by omega),if_pos e,e];rfl
 ·refine FnC.of_body tabOk Tryz.func273 Tryz.ntmps273 rfl (by decide +kernel) (by simp) fun G=>?_
  refine go (r:=?_);and_intros<;>intros<;>try exact True.intro
  all_goals first|rfl|(unfold normL;rw [if_neg (by omega)];done)|(rw [normL,if_pos (by omega),if_pos rfl];done)⟩
instance NormAt_c:Con 284 (∀ n i:Int,(n=0∨n=4∨n=8)∧0≤i∧i≤1000→Fn 284 [I n,I i] [] (I (normL n i))):=⟨fun n i h=>by
 obtain ⟨rfl|rfl|rfl,h0,h1⟩:=h
 ·refine FnC.of_body tabOk Tryz.func284 Tryz.ntmps284 rfl (by decide +kernel) (by simp) fun G=>?_
  refine go (r:=?_);and_intros<;>intros<;>try exact True.intro
  all_goals first|rfl|(unfold normL;rw [if_neg (by omega)];done)
 ·refine FnC.of_body tabOk Tryz.func284 Tryz.ntmps284 rfl (by decide +kernel) (by simp) fun G=>?_
  refine go (r:=?_);and_intros<;>intros<;>try exact True.intro
  all_goals first|rfl|(unfold normL;rw [if_neg (by omega)];done)|(rw [normL,if_pos (by omega),if_neg (by decide),if_pos (by omega)];done)|(rw [normL,if_pos (by omega),if_neg (by decide),if_neg (by omega),if_pos (by omega)];done)|(rw [normL,if_pos (by omega),if_neg (by decide),if_neg (by omega),if_neg (by omega)];done)
 ·refine FnC.of_body tabOk Tryz.func284 Tryz.ntmps284 rfl (by decide +kernel) (by simp) fun G=>?_
  refine go (r:=?_);and_intros<;>intros<;>try exact True.intro
  all_goals first|rfl|(unfold normL;rw [if_neg (by omega)];done)|(rw [normL,if_pos (by omega),if_pos rfl];done)⟩
theorem side_048 (k:Nat):side k=0∨side k=4∨side k=8:=by unfold side;split<;>(try split)<;>simp
theorem sca_snoc (l:List Int) (q:Int) (k:Nat):tabL (scaF l q) (k+1)=tabL (scaF l q) k++[l.getD k 0*stepL q*normL (side l.length) k]:=by rw [tabL_snoc];rfl
instance Scaled_s:Con 228 (∀ (l:List Int) (q:Int),l.length≤1099511627776→Fn 228 [IL l,I q] [XI (scaL l q)] (.own 0 0 0 (scaL l q).length)):=⟨fun l q hl=>by
 have hsl:=stepL_pos q
 have hsd:=side_048 l.length
 refine FnC.of_body tabOk Tryz.func228 Tryz.ntmps228 rfl (by decide +kernel) (by simp) fun G=>?_
 by_cases h:LvOk l∧0<stepL q
 ·have h1:=h.1
  have h2:=h.2
  have hin:=h.1.1
  have hlen:=h.1.2
  have hs:=stepL_in q (hsl.1 h.2)
  have he:scaL l q=tabL (scaF l q) l.length:=by unfold scaL;rw [if_pos h]
  refine go (r:=?_);and_intros<;>intros<;>try exact True.intro
  refine WpA.loop (fun k:Nat=>⟨[(0,IL l),(1,I q),(5,.own 0 0 0 k),(6,I k)],[XI (tabL (scaF l q) k)]⟩) (fun k=>k≤l.length) (fun k=>l.length-k) 0 (by omega) (go (r:=?_)) (fun k hk=>?_)
  ·simp [tabL]
  have hlk:=tabL_len (scaF l q) k
  have b1:=sca1_bd hin q k
  have b2:=scaF_bd hin q k
  have b3:=in_getZ (c:=16383) hin (by decide) k
  have b4:=normL_bd (side l.length) k
  unfold scaF at b2
  have hsn:=sca_snoc l q k
  refine go (r:=?_);and_intros<;>intros<;>try exact True.intro
  all_goals first|(rw [hsn];done)|skip
  all_goals have e:k=l.length:=by omega
  all_goals subst e
  ·rw [he,tabL_len]
  ·rw [he]
 ·have e:scaL l q=[]:=by unfold scaL;rw [if_neg h]
  refine go (r:=?_);and_intros<;>intros<;>try exact True.intro
  refine WpA.loop (fun k:Nat=>⟨[(0,IL l),(1,I q),(5,.own 0 0 0 0),(6,I 0)],[XI []]⟩) (fun k=>k≤0) (fun k=>l.length-k) 0 (by omega) (go (r:=trivial)) (fun k hk=>?_)
  have hx:LvOk l→¬0<stepL q:=fun a b=>h ⟨a,b⟩
  by_cases h1:LvOk l
  ·have h2:=hx h1
   refine go (r:=?_);and_intros<;>intros<;>try exact True.intro
   all_goals first|(rw [e];done)|(rw [e];rfl)
  ·refine go (r:=?_);and_intros<;>intros<;>try exact True.intro
   all_goals first|(rw [e];done)|(rw [e];rfl)⟩
instance Scaled_c:Con 245 (∀ (l:List Int) (q:Int),l.length≤1099511627776→Fn 245 [IL l,I q] [XI (scaL l q)] (.own 0 0 0 (scaL l q).length)):=⟨fun l q hl=>by
 have hsl:=stepL_pos q
 have hsd:=side_048 l.length
 have hsn:¬0<stepL q→stepL q=0:=fun hh=>by have:=(stepL_bd q).1;omega
 refine FnC.of_body tabOk Tryz.func245 Tryz.ntmps245 rfl (by decide +kernel) (by simp) fun G=>?_
 by_cases h:LvOk l∧0<stepL q
 ·have h1:=h.1
  have h2:=h.2
  have hin:=h.1.1
  have hlen:=h.1.2
  have hs:=stepL_in q (hsl.1 h.2)
  have he:scaL l q=tabL (scaF l q) l.length:=by unfold scaL;rw [if_pos h]
  refine go (r:=?_);and_intros<;>intros<;>try exact True.intro
  refine WpA.loop (fun k:Nat=>⟨[(0,IL l),(1,I q),(5,.own 0 0 0 k),(17,IL l),(18,I l.length),(19,I k)],[XI (tabL (scaF l q) k)]⟩) (fun k=>k≤l.length) (fun k=>l.length-k) 0 (by omega) (go (r:=?_)) (fun k hk=>?_)
  ·simp [tabL]
  have hlk:=tabL_len (scaF l q) k
  have b1:=sca1_bd hin q k
  have b2:=scaF_bd hin q k
  have b3:=in_getZ (c:=16383) hin (by decide) k
  have b4:=normL_bd (side l.length) k
  unfold scaF at b2
  have hsn:=sca_snoc l q k
  refine go (r:=?_);and_intros<;>intros<;>try exact True.intro
  all_goals first|(rw [hsn];done)|skip
  all_goals have e:k=l.length:=by omega
  all_goals subst e
  ·rw [he,tabL_len]
  ·rw [he]
 ·have e:scaL l q=[]:=by unfold scaL;rw [if_neg h]
  by_cases h1:LvOk l
  ·have h2:stepL q=0:=hsn (fun hh=>h ⟨h1,hh⟩)
   refine go (r:=?_);and_intros<;>intros<;>try exact True.intro
   all_goals first|(rw [e];done)|(rw [e];rfl)
  ·refine go (r:=?_);and_intros<;>intros<;>try exact True.intro
   all_goals first|(rw [e];done)|(rw [e];rfl)⟩
abbrev Flo (v d:Int):Prop:=(-2000000000000≤v∧v≤2000000000000)∧1≤d∧d≤2000
theorem flo_bd {v d:Int} (h:Flo v d):-2000000000000≤v/d∧v/d≤2000000000000:=by
 obtain ⟨⟨h1,h2⟩,h3,h4⟩:=h
 constructor
 ·exact Int.le_ediv_of_mul_le (by omega) (by omega)
 ·rcases Int.lt_or_le v 0 with h|h
  ·have:=Int.ediv_neg_of_neg_of_pos h (show 0<d by omega);omega
  ·have:=Int.ediv_le_self d h;omega
instance l12Floor_s:Con 271 (∀ v d:Int,Flo v d→Fn 271 [I v,I d] [] (I (v/d))):=⟨fun v d h=>by
 have hb:=flo_bd h
 by_cases hv:v<0
 ·have he:=floor_neg hv (show 0<d by omega)
  refine FnC.of_body tabOk Tryz.func271 Tryz.ntmps271 rfl (by decide +kernel) (by simp) fun G=>?_
  refine go (r:=?_);and_intros<;>intros<;>try exact True.intro
  all_goals first|exact he|exact he.symm
 ·refine FnC.of_body tabOk Tryz.func271 Tryz.ntmps271 rfl (by decide +kernel) (by simp) fun G=>?_
  refine go (r:=?_);and_intros<;>intros<;>try exact True.intro
  all_goals trace_state⟩
theorem flo_t {v d:Int} (h:Flo v d) (hv:v<0):-2000000000000≤v.tdiv d∧v.tdiv d≤0:=by
 have h0:(-v).tdiv d=-(v.tdiv d):=Int.neg_tdiv ..
 have h1:=Int.tdiv_eq_ediv_of_nonneg (a:=-v) (b:=d) (by omega)
 have h2:=Int.ediv_le_self d (show 0≤-v by omega)
 have h3:=Int.ediv_nonneg (show 0≤-v by omega) (show 0≤d by omega)
 omega
instance floorDiv_c:Con 285 (∀ v d:Int,Flo v d→Fn 285 [I v,I d] [] (I (v/d))):=⟨fun v d h=>by
 have hb:=flo_bd h
 have he:=floor_t (a:=v) (b:=d) (by omega)
 by_cases hv:v<0
 ·have ht:=flo_t h hv
  refine FnC.of_body tabOk Tryz.func285 Tryz.ntmps285 rfl (by decide +kernel) (by simp) fun G=>?_
  refine go (r:=?_);and_intros<;>intros<;>try exact True.intro
  refine WpL.quoT rfl rfl (by omega) (by decide) ?_
  refine go (r:=?_);and_intros<;>intros<;>try exact True.intro
  refine WpL.remT rfl rfl (by omega) (by decide) ?_
  by_cases hr:v.tmod d<0
  ·rw [if_pos hr] at he
   refine go (r:=?_);and_intros<;>intros<;>try exact True.intro
   all_goals first|exact he|exact he.symm|contradiction|omega
  ·rw [if_neg hr] at he
   refine go (r:=?_);and_intros<;>intros<;>try exact True.intro
   all_goals first|exact he|exact he.symm|contradiction|omega
 ·refine FnC.of_body tabOk Tryz.func285 Tryz.ntmps285 rfl (by decide +kernel) (by simp) fun G=>?_
  have h0:=Int.emod_nonneg v (show d≠0 by omega)
  refine go (r:=?_);and_intros<;>intros<;>try exact True.intro
  all_goals trace_state⟩
end Go.Proofs.YtndflfipaddfoaaGreat


namespace Go.Proofs.YtndflfipaddfoaaGreat
open Go Go.Abs
attribute [local irreducible] WpA WpL Rnd Blk Abs.Seq Abs.Fin Abs.FinG FnC FnG Only
theorem alpha_yes {q:Int} (h:0≤q∧q≤51):alphaL q=q+4:=if_pos h
theorem alpha_no {q:Int} (h:¬(0≤q∧q≤51)):alphaL q=0:=if_neg h
theorem beta_yes {q:Int} (h:0≤q∧q≤51):betaL q=q/3+2:=if_pos h
theorem beta_no {q:Int} (h:¬(0≤q∧q≤51)):betaL q=0:=if_neg h
instance AlphaOf_s:Con 148 (∀ q:Int,Fn 148 [I q] [] (I (alphaL q))):=⟨fun q=>by
 by_cases h:0≤q∧q≤51
 ·rw [alpha_yes h,Int.add_comm]
  refine FnC.of_body tabOk Tryz.func148 Tryz.ntmps148 rfl (by decide +kernel) (by simp) fun G=>?_
  refine go (r:=?_);and_intros<;>intros<;>try exact True.intro
 ·rw [alpha_no h]
  refine FnC.of_body tabOk Tryz.func148 Tryz.ntmps148 rfl (by decide +kernel) (by simp) fun G=>?_
  refine go (r:=?_);and_intros<;>intros<;>try exact True.intro⟩
instance AlphaOf_c:Con 318 (∀ q:Int,Fn 318 [I q] [] (I (alphaL q))):=⟨fun q=>by
 by_cases h:0≤q∧q≤51
 ·rw [alpha_yes h]
  refine FnC.of_body tabOk Tryz.func318 Tryz.ntmps318 rfl (by decide +kernel) (by simp) fun G=>?_
  refine go (r:=?_);and_intros<;>intros<;>try exact True.intro
 ·rw [alpha_no h]
  refine FnC.of_body tabOk Tryz.func318 Tryz.ntmps318 rfl (by decide +kernel) (by simp) fun G=>?_
  refine go (r:=?_);and_intros<;>intros<;>try exact True.intro⟩
instance BetaOf_s:Con 304 (∀ q:Int,Fn 304 [I q] [] (I (betaL q))):=⟨fun q=>by
 by_cases h:0≤q∧q≤51
 ·rw [beta_yes h,Int.add_comm]
  have e:q.tdiv 3=q/3:=Int.tdiv_eq_ediv_of_nonneg h.1
  refine FnC.of_body tabOk Tryz.func304 Tryz.ntmps304 rfl (by decide +kernel) (by simp) fun G=>?_
  refine go (r:=?_);and_intros<;>intros<;>try exact True.intro
  all_goals first|contradiction|omega|(rw [e];done)
 ·rw [beta_no h]
  refine FnC.of_body tabOk Tryz.func304 Tryz.ntmps304 rfl (by decide +kernel) (by simp) fun G=>?_
  refine go (r:=?_);and_intros<;>intros<;>try exact True.intro⟩
instance BetaOf_c:Con 319 (∀ q:Int,Fn 319 [I q] [] (I (betaL q))):=⟨fun q=>by
 by_cases h:0≤q∧q≤51
 ·rw [beta_yes h]
  have e:q.tdiv 3=q/3:=Int.tdiv_eq_ediv_of_nonneg h.1
  refine FnC.of_body tabOk Tryz.func319 Tryz.ntmps319 rfl (by decide +kernel) (by simp) fun G=>?_
  refine go (r:=?_);and_intros<;>intros<;>try exact True.intro
  all_goals first|contradiction|omega|(rw [e];done)
 ·rw [beta_no h]
  refine FnC.of_body tabOk Tryz.func319 Tryz.ntmps319 rfl (by decide +kernel) (by simp) fun G=>?_
  refine go (r:=?_);and_intros<;>intros<;>try exact True.intro⟩
instance near_c:Con 317 (∀ a b n:Int,-1000000≤a∧a≤1000000∧-1000000≤b∧b≤1000000→Fn 317 [I a,I b,I n] [] (B (decide (max (a-b) (b-a)<n)))):=⟨fun a b n h=>by
 refine FnC.of_body tabOk Tryz.func317 Tryz.ntmps317 rfl (by decide +kernel) (by simp) fun G=>?_
 refine go (r:=?_);and_intros<;>intros<;>try exact True.intro⟩
theorem edP_yes {a b c d q:Int} (h:EdOk a b c d q):edP a b c d q=(max 0 (min 255 (b+edD a b c d q)),max 0 (min 255 (c-edD a b c d q))):=if_pos h
theorem edP_no {a b c d q:Int} (h:¬EdOk a b c d q):edP a b c d q=(b,c):=if_neg h
theorem alphaL_bd (q:Int):0≤alphaL q∧alphaL q≤55:=by unfold alphaL;split<;>omega
theorem betaL_bd (q:Int):0≤betaL q∧betaL q≤19:=by unfold betaL;split<;>omega
theorem in4 {a b c d:Int} (h:In [a,b,c,d] 0 255):(0≤a∧a≤255)∧(0≤b∧b≤255)∧(0≤c∧c≤255)∧0≤d∧d≤255:=by
 unfold In at h
 exact ⟨h a (by simp),h b (by simp),h c (by simp),h d (by simp)⟩
instance EdgeOf_s:Con 278 (∀ a b c d q:Int,In [a,b,c,d] 0 255→Fn 278 [I a,I b,I c,I d,I q] [] (.tup [I (edP a b c d q).1,I (edP a b c d q).2])):=⟨fun a b c d q hin=>by
 obtain ⟨ha,hb,hc,hd⟩:=in4 hin
 have hal:=alphaL_bd q
 have hbe:=betaL_bd q
 have hle:[a,b,c,d].length≤1099511627776:=by simp
 by_cases h:EdOk a b c d q
 ·obtain ⟨h0,h1,h2,h3⟩:=id h
  have hq:0≤q∧q≤51:=by
   refine Classical.byContradiction fun hn=>?_
   rw [alpha_no hn] at h1;omega
  have e4:q.tdiv 4=q/4:=Int.tdiv_eq_ediv_of_nonneg hq.1
  rw [edP_yes h]
  have hfl:Flo ((c-b)*4+a-d+4) 8:=by unfold Flo;omega
  refine FnC.of_body tabOk Tryz.func278 Tryz.ntmps278 rfl (by decide +kernel) (by simp) fun G=>?_
  refine go (r:=?_);and_intros<;>intros<;>try exact True.intro
  all_goals first|contradiction|omega|(show _=max 0 (min 255 (b+edD a b c d q));unfold edD;omega)|(show _=max 0 (min 255 (c-edD a b c d q));unfold edD;omega)
 ·rw [edP_no h]
  refine FnC.of_body tabOk Tryz.func278 Tryz.ntmps278 rfl (by decide +kernel) (by simp) fun G=>?_
  refine go (r:=?_);and_intros<;>intros<;>try exact True.intro
  all_goals first|contradiction|omega|(exfalso;exact h ⟨hin,by omega,by omega,by omega⟩)⟩
instance EdgeOf_c:Con 310 (∀ a b c d q:Int,In [a,b,c,d] 0 255→Fn 310 [I a,I b,I c,I d,I q] [] (.tup [I (edP a b c d q).1,I (edP a b c d q).2])):=⟨fun a b c d q hin=>by
 obtain ⟨ha,hb,hc,hd⟩:=in4 hin
 have hal:=alphaL_bd q
 have hbe:=betaL_bd q
 have hle:[a,b,c,d].length≤1099511627776:=by simp
 by_cases h:EdOk a b c d q
 ·obtain ⟨h0,h1,h2,h3⟩:=id h
  have hq:0≤q∧q≤51:=by
   refine Classical.byContradiction fun hn=>?_
   rw [alpha_no hn] at h1;omega
  have e4:q.tdiv 4=q/4:=Int.tdiv_eq_ediv_of_nonneg hq.1
  rw [edP_yes h]
  have hfl:Flo (4*(c-b)+(a-d)+4) 8:=by unfold Flo;omega
  refine FnC.of_body tabOk Tryz.func310 Tryz.ntmps310 rfl (by decide +kernel) (by simp) fun G=>?_
  refine go (r:=?_);and_intros<;>intros<;>try exact True.intro
  all_goals first|contradiction|omega|(show _=max 0 (min 255 (b+edD a b c d q));unfold edD;omega)|(show _=max 0 (min 255 (c-edD a b c d q));unfold edD;omega)
 ·rw [edP_no h]
  refine FnC.of_body tabOk Tryz.func310 Tryz.ntmps310 rfl (by decide +kernel) (by simp) fun G=>?_
  refine go (r:=?_);and_intros<;>intros<;>try exact True.intro
  all_goals first|contradiction|omega|(exfalso;exact h ⟨hin,by omega,by omega,by omega⟩)⟩
end Go.Proofs.YtndflfipaddfoaaGreat


namespace Go.Proofs.YtndflfipaddfoaaGreat
open Go Go.Abs
attribute [local irreducible] WpA WpL Rnd Blk Abs.Seq Abs.Fin Abs.FinG FnC FnG Only
theorem runF_snoc (q:Int) (f:List Int) (E:List (Nat×Nat)) (e s:Nat) (l:List Int):runF q f (E++[(e,s)]) l=edg q e s f (runF q f E l):=by rw [runF_app];rfl
theorem runF_nil (q:Int) (f l:List Int):runF q f [] l=l:=rfl
theorem vx_zero (w y:Nat):vx w y 0=[]:=rfl
theorem vy_zero (w a:Nat):vy w a 0=[]:=rfl
theorem row_le {w h y:Nat} (hy:y<h):y*w+w≤w*h:=by
 have:=Nat.mul_le_mul_right w (show y+1≤h by omega)
 rw [Nat.add_mul,Nat.one_mul,Nat.mul_comm h w] at this;exact this
theorem in4_of {f:List Int} (hf:In f 0 255) (a b c d:Nat):In [f.getD a 0,f.getD b 0,f.getD c 0,f.getD d 0] 0 255:=by
 have h1:=in_getZ255 hf a
 have h2:=in_getZ255 hf b
 have h3:=in_getZ255 hf c
 have h4:=in_getZ255 hf d
 unfold In
 intro v hv
 simp only [List.mem_cons,List.not_mem_nil,or_false] at hv
 rcases hv with rfl|rfl|rfl|rfl<;>assumption
abbrev FrOkN (w h:Nat) (f:List Int):Prop:=(w%8=0∧8≤w∧w≤64)∧(h%8=0∧8≤h∧h≤64)∧f.length=w*h∧In f 0 255
attribute [local irreducible] runF vx vy
instance l20Across_s:ConG 238 (∀ (w h:Nat) (f l:List Int) (W2 H2 q:Int) (a b:Nat),FrOkN w h f∧l.length=w*h∧a≤b∧b≤h→
 Gn 238 [FrA w h f,.agg [I W2,I H2,.own 0 0 0 l.length],I q,I a,I b] [IN l] [IN (runF q f (vy w a (b-a)) l)] [] (.agg [I W2,I H2,.own 0 0 0 l.length])):=⟨fun w h f l W2 H2 q a b hh=>by
 obtain ⟨⟨⟨hw,hw8,hw64⟩,⟨hh8,hh0,hh64⟩,hfl,hin⟩,hll,hab,hbh⟩:=hh
 have hwh:w*h≤64*64:=Nat.mul_le_mul hw64 hh64
 refine FnG.of_bodyF tabOk Tryz.func238 Tryz.ntmps238 rfl (by decide +kernel) (by simp) rfl rfl fun G=>?_
 refine go (r:=?_);and_intros<;>intros<;>try exact True.intro
 all_goals first|contradiction|omega|skip
 refine WpA.loop (fun k:Nat=>⟨[(2,I q),(4,I b),(5,.ptr 1 0 0),(6,.ptr 2 0 0),(10,.ptr 3 0 0),(11,I ((a+k:Nat):Int))],[IN (runF q f (vy w a k) l),FrO w h f,⟨[I W2,I H2,.own 0 0 0 l.length],0,0,none⟩,⟨[I 0,I 0,.nilS],0,0,none⟩]⟩) (fun k=>k≤b-a) (fun k=>b-a-k) 0 (by omega) (go (r:=?_)) (fun k hk=>?_)
 ·and_intros<;>first|exact True.intro|rfl|(rw [vy_zero,runF_nil];done)
 obtain ⟨y,hy⟩:∃y,a+k=y:=⟨_,rfl⟩
 have hkl:=runF_len q f (vy w a k) l
 by_cases hlt:k<b-a
 ·have hyh:y<h:=by omega
  have hrow:=row_le (w:=w) hyh
  have hyn:a+(k+1)=y+1:=by omega
  have hvs:=vy_succ w a k
  rw [hy] at hvs
  rw [hy]
  obtain ⟨m,hm⟩:∃m,y*w=m:=⟨_,rfl⟩
  have hpm:(y:Int)*(w:Int)=(m:Int):=by rw [←hm,Int.natCast_mul]
  rw [hm] at hrow
  refine go (r:=?_);and_intros<;>intros<;>try exact True.intro
  all_goals first|contradiction|omega|skip
  refine WpA.loop (fun j:Nat=>⟨[(2,I q),(4,I b),(5,.ptr 1 0 0),(6,.ptr 2 0 0),(10,.ptr 3 0 0),(11,I (y:Int)),(12,I (8*(j:Int)+8))],[IN (runF q f (vy w a k++vx w y j) l),FrO w h f,⟨[I W2,I H2,.own 0 0 0 l.length],0,0,none⟩,⟨[I 0,I 0,.nilS],0,0,none⟩]⟩) (fun j=>j≤w/8-1) (fun j=>w/8-1-j) 0 (by omega) (go (r:=?_)) (fun j hj=>?_)
  ·and_intros<;>first|exact True.intro|rfl|(rw [vx_zero,List.append_nil];done)
  have hjl:=runF_len q f (vy w a k++vx w y j) l
  by_cases hlt2:j<w/8-1
  ·have hst:=runF_snoc q f (vy w a k++vx w y j) (m+(8*j+8)) 1 l
   have hvx:=vx_succ w y j
   rw [hm] at hvx
   rw [List.append_assoc,←hvx] at hst
   have e0:((y:Int)*(w:Int)+(8*(j:Int)+8)).toNat=m+(8*j+8):=by rw [hpm];omega
   have e1:((y:Int)*(w:Int)+(8*(j:Int)+8)-1).toNat=m+(8*j+8)-1:=by rw [hpm];omega
   have e2:((y:Int)*(w:Int)+(8*(j:Int)+8)-2).toNat=m+(8*j+8)-2:=by rw [hpm];omega
   have e3:((y:Int)*(w:Int)+(8*(j:Int)+8)+1).toNat=m+(8*j+8)+1:=by rw [hpm];omega
   have h4:=in4_of hin ((y:Int)*(w:Int)+(8*(j:Int)+8)-2).toNat ((y:Int)*(w:Int)+(8*(j:Int)+8)-1).toNat ((y:Int)*(w:Int)+(8*(j:Int)+8)).toNat ((y:Int)*(w:Int)+(8*(j:Int)+8)+1).toNat
   unfold edg at hst
   refine goR (r:=?_);and_intros<;>intros<;>try exact True.intro
   all_goals first|contradiction|omega|skip
   apply WpA.regionMG 29 mixed (by decide +kernel)
   ·exact rfl
   ·exact headG
   ·exact trueA
   ·exact trueA
   ·exact rfl
   ·exact rfl
   refine goR (r:=?_);and_intros<;>intros<;>try exact True.intro
   all_goals first|contradiction|omega|(rw [hst,e0,e1,e2,e3];done)
  ·obtain rfl:j=w/8-1:=by omega
   refine go (r:=?_);and_intros<;>intros<;>try exact True.intro
   all_goals first|contradiction|omega|(rw [hvs];done)
 ·obtain rfl:k=b-a:=by omega
  have hyb:y=b:=by omega
  rw [hy,hyb]
  refine go (r:=?_);and_intros<;>intros<;>try exact True.intro
  all_goals first|contradiction|omega⟩
end Go.Proofs.YtndflfipaddfoaaGreat


namespace Go.Proofs.YtndflfipaddfoaaGreat
open Go Go.Abs
attribute [local irreducible] WpA WpL Rnd Blk Abs.Seq Abs.Fin Abs.FinG FnC FnG Only
theorem hx_zero (w y:Nat):hx w y 0=[]:=rfl
attribute [local irreducible] runF hx
instance l20Down_s:ConG 237 (∀ (w h:Nat) (f l:List Int) (W2 H2 q:Int) (y:Nat),FrOkN w h f∧l.length=w*h∧2≤y∧y+1<h→
 Gn 237 [FrA w h f,.agg [I W2,I H2,.own 0 0 0 l.length],I q,I y] [IN l] [IN (runF q f (hx w y w) l)] [] (.agg [I W2,I H2,.own 0 0 0 l.length])):=⟨fun w h f l W2 H2 q y hh=>by
 obtain ⟨⟨⟨hw,hw8,hw64⟩,⟨hh8,hh0,hh64⟩,hfl,hin⟩,hll,hy2,hyh⟩:=hh
 have hwh:w*h≤64*64:=Nat.mul_le_mul hw64 hh64
 have hr1:=Nat.mul_le_mul_right w hy2
 have hr2:=row_le (w:=w) hyh
 rw [Nat.add_mul,Nat.one_mul] at hr2
 obtain ⟨m,hm⟩:∃m,y*w=m:=⟨_,rfl⟩
 have hpm:(y:Int)*(w:Int)=(m:Int):=by rw [←hm,Int.natCast_mul]
 rw [hm] at hr1 hr2
 refine FnG.of_bodyF tabOk Tryz.func237 Tryz.ntmps237 rfl (by decide +kernel) (by simp) rfl rfl fun G=>?_
 refine go (r:=?_);and_intros<;>intros<;>try exact True.intro
 all_goals first|contradiction|omega|skip
 refine WpA.loop (fun k:Nat=>⟨[(2,I q),(3,I y),(4,.ptr 1 0 0),(5,.ptr 2 0 0),(8,.ptr 3 0 0),(9,I w),(10,I k)],[IN (runF q f (hx w y k) l),FrO w h f,⟨[I W2,I H2,.own 0 0 0 l.length],0,0,none⟩,⟨[I 0,I 0,.nilS],0,0,none⟩]⟩) (fun k=>k≤w) (fun k=>w-k) 0 (by omega) (go (r:=?_)) (fun k hk=>?_)
 ·and_intros<;>first|exact True.intro|rfl|(rw [hx_zero,runF_nil];done)
 have hkl:=runF_len q f (hx w y k) l
 by_cases hlt:k<w
 ·have hst:=runF_snoc q f (hx w y k) (m+k) w l
  have hvx:=hx_succ w y k
  rw [hm] at hvx
  rw [←hvx] at hst
  have e0:((y:Int)*(w:Int)+(k:Int)).toNat=m+k:=by rw [hpm];omega
  have e1:((y:Int)*(w:Int)+(k:Int)-(w:Int)).toNat=m+k-w:=by rw [hpm];omega
  have e2:((y:Int)*(w:Int)+(k:Int)-2*(w:Int)).toNat=m+k-2*w:=by rw [hpm];omega
  have e3:((y:Int)*(w:Int)+(k:Int)+(w:Int)).toNat=m+k+w:=by rw [hpm];omega
  have h4:=in4_of hin ((y:Int)*(w:Int)+(k:Int)-2*(w:Int)).toNat ((y:Int)*(w:Int)+(k:Int)-(w:Int)).toNat ((y:Int)*(w:Int)+(k:Int)).toNat ((y:Int)*(w:Int)+(k:Int)+(w:Int)).toNat
  unfold edg at hst
  refine goR (r:=?_);and_intros<;>intros<;>try exact True.intro
  all_goals first|contradiction|omega|skip
  apply WpA.regionMG 33 mixed (by decide +kernel)
  ·exact rfl
  ·exact headG
  ·exact trueA
  ·exact trueA
  ·exact rfl
  ·exact rfl
  refine goR (r:=?_);and_intros<;>intros<;>try exact True.intro
  all_goals first|contradiction|omega|(simp only [e0,e1,e2,e3,hm];exact hst.symm)
 ·obtain rfl:k=w:=by omega
  refine go (r:=?_);and_intros<;>intros<;>try exact True.intro
  all_goals first|contradiction|omega⟩
end Go.Proofs.YtndflfipaddfoaaGreat
