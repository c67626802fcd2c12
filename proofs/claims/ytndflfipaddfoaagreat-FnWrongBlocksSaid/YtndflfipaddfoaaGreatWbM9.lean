/- Proved in this text: lemmas and contracts of functions that the claim uses (parts: GoR, Base, Cur, CurP, Defs, Draw, AbsPre, Draw2, Frame, Code, Kraft, Sym, Draw3). No condition. -/
import Derived.Test.YtndflfipaddfoaaGreatWbM8
import Derived.Test.YtndflfipaddfoaaGreatWbM6
import Derived.Test.YtndflfipaddfoaaGreatWbM7
import Derived.Test.YtndflfipaddfoaaGreatWbM5
set_option linter.unusedVariables false
set_option linter.unusedSimpArgs false
set_option maxRecDepth 100000
set_option maxHeartbeats 4000000


namespace Go.Proofs.YtndflfipaddfoaaGreat
open Go Go.Abs
theorem goR {P R:Prop} (h:(Hold R→P)∧IsT R:=by
 refine And.intro ?_ ?_
 ·intro hold
  repeat' (first
  |(refine K.L ?_;first
   |(refine K.mv ?_;refine WpL.move rfl (by decide) ?_)
   |(refine K.asg ?_;refine WpL.assign rfl (by decide) ?_)
   |(refine K.bin ?_;first
    |refine WpL.add rfl rfl (by omega) (by decide) ?_
    |refine WpL.sub rfl rfl (by omega) (by decide) ?_
    |refine WpL.mul rfl rfl (by first|omega|exact mul_in (by omega) (by omega)|assumption) (by decide) ?_
    |refine WpL.quo rfl rfl (by omega) (by decide) ?_
    |refine WpL.rem rfl rfl (by omega) (by decide) ?_
    |refine WpL.bin rfl rfl rfl (by decide) ?_
    |refine WpL.strAdd rfl rfl (by first|omega|(simp only [List.length_append];omega)|(simp;omega)) (by decide) ?_
    |refine WpL.boolNe (K.tyBool tabOk rfl) rfl rfl (by decide) ?_
    |refine WpL.nilEq (TabOk.slice tabOk rfl).1 rfl rfl (by decide) ?_
    |refine WpL.ownEq (TabOk.slice tabOk rfl).1 rfl rfl rfl (by first|rfl|omega|(simp;done)|(simp;omega)) rfl (by decide) ?_
    |refine WpL.shl rfl rfl (by first|decide|(simp only [IntKind.bits];omega)) (by decide) ?_
    |refine WpL.shr rfl rfl (by first|decide|(simp only [IntKind.bits];omega)) (by decide) ?_)
   |(refine K.ld ?_;first
    |refine WpL.loadInts tabOk rfl rfl rfl (by first|omega|(simp;omega)) (by decide) ?_
    |refine WpL.loadU8s tabOk rfl rfl rfl (by first|omega|(simp;omega)) (by decide) ?_
    |refine WpL.loadRow tabOk rfl rfl (fun _=>rfl) (fun _=>rfl) (by first|rfl|omega|(simp;done)|(simp;omega)) (by decide) rfl ?_
    |refine WpL.loadField tabOk rfl rfl rfl (fun _=>rfl) rfl rfl (by first|rfl|omega|(simp;done)|(simp;omega)) (by decide) ?_
    |refine WpL.loadOwn tabOk rfl rfl rfl rfl (fun _=>rfl) rfl (by first|rfl|omega|(simp;done)|(simp;omega)) (by decide) rfl ?_
    |refine WpL.load1 tabOk rfl rfl rfl rfl rfl (by decide) ?_
    |refine WpL.loadAgg (ds:=[_]) tabOk rfl rfl rfl rfl rfl (by decide) ?_
    |refine WpL.loadAgg (ds:=[_,_]) tabOk rfl rfl rfl rfl rfl (by decide) ?_
    |refine WpL.loadAgg (ds:=[_,_,_]) tabOk rfl rfl rfl rfl rfl (by decide) ?_
    |refine WpL.loadAgg (ds:=[_,_,_,_]) tabOk rfl rfl rfl rfl rfl (by decide) ?_
    |refine WpL.loadAgg (ds:=[_,_,_,_,_]) tabOk rfl rfl rfl rfl rfl (by decide) ?_
    |refine WpL.loadAgg (ds:=[_,_,_,_,_,_]) tabOk rfl rfl rfl rfl rfl (by decide) ?_
    |refine WpL.loadAgg (ds:=[_,_,_,_,_,_,_]) tabOk rfl rfl rfl rfl rfl (by decide) ?_
    |refine WpL.loadAgg (ds:=[_,_,_,_,_,_,_,_]) tabOk rfl rfl rfl rfl rfl (by decide) ?_)
   |(refine K.fld ?_;first
    |refine WpL.fieldI tabOk rfl rfl rfl (by decide) ?_
    |refine WpL.fieldP tabOk rfl rfl rfl rfl rfl (by decide) ?_)
   |(refine K.ixa ?_;first
    |refine WpL.idxI1 tabOk rfl rfl rfl (by omega) (by decide) ?_
    |refine WpL.idxIJ tabOk rfl rfl rfl (by omega) (by decide) ?_
    |refine WpL.idxOJ tabOk rfl rfl rfl rfl rfl (by omega) (by decide) ?_
    |refine WpL.idxIN tabOk rfl rfl rfl (by omega) (by decide) ?_
    |refine WpL.idxON tabOk rfl rfl rfl rfl rfl (by omega) (by decide) ?_
    |refine WpL.idxI tabOk rfl rfl rfl (by omega) (by decide) ?_
    |refine WpL.idxO tabOk rfl rfl rfl rfl rfl (by omega) (by decide) ?_)
   |(refine K.call ?_;refine K.con (fun hcon=>?_);first
    |(refine WpL.callF (hcon ?_) snapA locA outA rfl rfl rfl (by decide) ?_<;>clear hcon)
    |(refine WpL.callF (hcon) snapA locA outA rfl rfl rfl (by decide) ?_<;>clear hcon)
    |(refine WpL.callF (hcon _ ?_) snapA locA outA rfl rfl rfl (by decide) ?_<;>clear hcon)
    |(refine WpL.callF (hcon _) snapA locA outA rfl rfl rfl (by decide) ?_<;>clear hcon)
    |(refine WpL.callF (hcon _ _ ?_) snapA locA outA rfl rfl rfl (by decide) ?_<;>clear hcon)
    |(refine WpL.callF (hcon _ _) snapA locA outA rfl rfl rfl (by decide) ?_<;>clear hcon)
    |(refine WpL.callF (hcon _ _ _ ?_) snapA locA outA rfl rfl rfl (by decide) ?_<;>clear hcon)
    |(refine WpL.callF (hcon _ _ _) snapA locA outA rfl rfl rfl (by decide) ?_<;>clear hcon)
    |(refine WpL.callF (hcon _ _ _ _ ?_) snapA locA outA rfl rfl rfl (by decide) ?_<;>clear hcon)
    |(refine WpL.callF (hcon _ _ _ _) snapA locA outA rfl rfl rfl (by decide) ?_<;>clear hcon)
    |(refine WpL.callF (hcon _ _ _ _ _ ?_) snapA locA outA rfl rfl rfl (by decide) ?_<;>clear hcon)
    |(refine WpL.callF (hcon _ _ _ _ _) snapA locA outA rfl rfl rfl (by decide) ?_<;>clear hcon)
    |(refine WpL.callF (hcon _ _ _ _ _ _ ?_) snapA locA outA rfl rfl rfl (by decide) ?_<;>clear hcon)
    |(refine WpL.callF (hcon _ _ _ _ _ _) snapA locA outA rfl rfl rfl (by decide) ?_<;>clear hcon)
    |(refine WpL.callF (hcon _ _ _ _ _ _ _ ?_) snapA locA outA rfl rfl rfl (by decide) ?_<;>clear hcon)
    |(refine WpL.callF (hcon _ _ _ _ _ _ _) snapA locA outA rfl rfl rfl (by decide) ?_<;>clear hcon)
    |(refine WpL.callF (hcon _ _ _ _ _ _ _ _ ?_) snapA locA outA rfl rfl rfl (by decide) ?_<;>clear hcon)
    |(refine WpL.callF (hcon _ _ _ _ _ _ _ _) snapA locA outA rfl rfl rfl (by decide) ?_<;>clear hcon)
    |(refine WpL.callF (hcon _ _ _ _ _ _ _ _ _ ?_) snapA locA outA rfl rfl rfl (by decide) ?_<;>clear hcon)
    |(refine WpL.callF (hcon _ _ _ _ _ _ _ _ _) snapA locA outA rfl rfl rfl (by decide) ?_<;>clear hcon)
    |(refine WpL.callF (hcon _ _ _ _ _ _ _ _ _ _ ?_) snapA locA outA rfl rfl rfl (by decide) ?_<;>clear hcon)
    |(refine WpL.callF (hcon _ _ _ _ _ _ _ _ _ _) snapA locA outA rfl rfl rfl (by decide) ?_<;>clear hcon)
    |(refine WpL.callF (hcon _ _ _ _ _ _ _ _ _ _ _ ?_) snapA locA outA rfl rfl rfl (by decide) ?_<;>clear hcon)
    |(refine WpL.callF (hcon _ _ _ _ _ _ _ _ _ _ _) snapA locA outA rfl rfl rfl (by decide) ?_<;>clear hcon)
    |(refine WpL.callF (hcon _ _ _ _ _ _ _ _ _ _ _ _ ?_) snapA locA outA rfl rfl rfl (by decide) ?_<;>clear hcon)
    |(refine WpL.callF (hcon _ _ _ _ _ _ _ _ _ _ _ _) snapA locA outA rfl rfl rfl (by decide) ?_<;>clear hcon)
    |(refine WpL.callF (hcon _ _ _ _ _ _ _ _ _ _ _ _ _ ?_) snapA locA outA rfl rfl rfl (by decide) ?_<;>clear hcon)
    |(refine WpL.callF (hcon _ _ _ _ _ _ _ _ _ _ _ _ _) snapA locA outA rfl rfl rfl (by decide) ?_<;>clear hcon)
    |(refine WpL.callF (hcon _ _ _ _ _ _ _ _ _ _ _ _ _ _ ?_) snapA locA outA rfl rfl rfl (by decide) ?_<;>clear hcon)
    |(refine WpL.callF (hcon _ _ _ _ _ _ _ _ _ _ _ _ _ _) snapA locA outA rfl rfl rfl (by decide) ?_<;>clear hcon)
    |(refine WpL.callF (hcon _ _ _ _ _ _ _ _ _ _ _ _ _ _ _ ?_) snapA locA outA rfl rfl rfl (by decide) ?_<;>clear hcon)
    |(refine WpL.callF (hcon _ _ _ _ _ _ _ _ _ _ _ _ _ _ _) snapA locA outA rfl rfl rfl (by decide) ?_<;>clear hcon)
    |(refine WpL.callF (hcon _ _ _ _ _ _ _ _ _ _ _ _ _ _ _ _ ?_) snapA locA outA rfl rfl rfl (by decide) ?_<;>clear hcon)
    |(refine WpL.callF (hcon _ _ _ _ _ _ _ _ _ _ _ _ _ _ _ _) snapA locA outA rfl rfl rfl (by decide) ?_<;>clear hcon)
    |(refine WpL.callF (hcon _ _ _ _ _ _ _ _ _ _ _ _ _ _ _ _ _ ?_) snapA locA outA rfl rfl rfl (by decide) ?_<;>clear hcon)
    |(refine WpL.callF (hcon _ _ _ _ _ _ _ _ _ _ _ _ _ _ _ _ _) snapA locA outA rfl rfl rfl (by decide) ?_<;>clear hcon)
    |(refine WpL.callF (hcon _ _ _ _ _ _ _ _ _ _ _ _ _ _ _ _ _ _ ?_) snapA locA outA rfl rfl rfl (by decide) ?_<;>clear hcon)
    |(refine WpL.callF (hcon _ _ _ _ _ _ _ _ _ _ _ _ _ _ _ _ _ _) snapA locA outA rfl rfl rfl (by decide) ?_<;>clear hcon))
   |(refine K.call ?_;refine K.conG (fun hcon=>?_);first
    |(refine WpL.callM (hs:=[_]) (hcon ?_) handA handOA rfl rfl outA outA rfl rfl rfl rfl (by decide) ?_<;>clear hcon)
    |(refine WpL.callM (hs:=[_]) (hcon) handA handOA rfl rfl outA outA rfl rfl rfl rfl (by decide) ?_<;>clear hcon)
    |(refine WpL.callM (hs:=[_]) (hcon _ ?_) handA handOA rfl rfl outA outA rfl rfl rfl rfl (by decide) ?_<;>clear hcon)
    |(refine WpL.callM (hs:=[_]) (hcon _) handA handOA rfl rfl outA outA rfl rfl rfl rfl (by decide) ?_<;>clear hcon)
    |(refine WpL.callM (hs:=[_]) (hcon _ _ ?_) handA handOA rfl rfl outA outA rfl rfl rfl rfl (by decide) ?_<;>clear hcon)
    |(refine WpL.callM (hs:=[_]) (hcon _ _) handA handOA rfl rfl outA outA rfl rfl rfl rfl (by decide) ?_<;>clear hcon)
    |(refine WpL.callM (hs:=[_]) (hcon _ _ _ ?_) handA handOA rfl rfl outA outA rfl rfl rfl rfl (by decide) ?_<;>clear hcon)
    |(refine WpL.callM (hs:=[_]) (hcon _ _ _) handA handOA rfl rfl outA outA rfl rfl rfl rfl (by decide) ?_<;>clear hcon)
    |(refine WpL.callM (hs:=[_]) (hcon _ _ _ _ ?_) handA handOA rfl rfl outA outA rfl rfl rfl rfl (by decide) ?_<;>clear hcon)
    |(refine WpL.callM (hs:=[_]) (hcon _ _ _ _) handA handOA rfl rfl outA outA rfl rfl rfl rfl (by decide) ?_<;>clear hcon)
    |(refine WpL.callM (hs:=[_]) (hcon _ _ _ _ _ ?_) handA handOA rfl rfl outA outA rfl rfl rfl rfl (by decide) ?_<;>clear hcon)
    |(refine WpL.callM (hs:=[_]) (hcon _ _ _ _ _) handA handOA rfl rfl outA outA rfl rfl rfl rfl (by decide) ?_<;>clear hcon)
    |(refine WpL.callM (hs:=[_]) (hcon _ _ _ _ _ _ ?_) handA handOA rfl rfl outA outA rfl rfl rfl rfl (by decide) ?_<;>clear hcon)
    |(refine WpL.callM (hs:=[_]) (hcon _ _ _ _ _ _) handA handOA rfl rfl outA outA rfl rfl rfl rfl (by decide) ?_<;>clear hcon)
    |(refine WpL.callM (hs:=[_]) (hcon _ _ _ _ _ _ _ ?_) handA handOA rfl rfl outA outA rfl rfl rfl rfl (by decide) ?_<;>clear hcon)
    |(refine WpL.callM (hs:=[_]) (hcon _ _ _ _ _ _ _) handA handOA rfl rfl outA outA rfl rfl rfl rfl (by decide) ?_<;>clear hcon)
    |(refine WpL.callM (hs:=[_]) (hcon _ _ _ _ _ _ _ _ ?_) handA handOA rfl rfl outA outA rfl rfl rfl rfl (by decide) ?_<;>clear hcon)
    |(refine WpL.callM (hs:=[_]) (hcon _ _ _ _ _ _ _ _) handA handOA rfl rfl outA outA rfl rfl rfl rfl (by decide) ?_<;>clear hcon)
    |(refine WpL.callM (hs:=[_,_]) (hcon ?_) handA handOA rfl rfl outA outA rfl rfl rfl rfl (by decide) ?_<;>clear hcon)
    |(refine WpL.callM (hs:=[_,_]) (hcon) handA handOA rfl rfl outA outA rfl rfl rfl rfl (by decide) ?_<;>clear hcon)
    |(refine WpL.callM (hs:=[_,_]) (hcon _ ?_) handA handOA rfl rfl outA outA rfl rfl rfl rfl (by decide) ?_<;>clear hcon)
    |(refine WpL.callM (hs:=[_,_]) (hcon _) handA handOA rfl rfl outA outA rfl rfl rfl rfl (by decide) ?_<;>clear hcon)
    |(refine WpL.callM (hs:=[_,_]) (hcon _ _ ?_) handA handOA rfl rfl outA outA rfl rfl rfl rfl (by decide) ?_<;>clear hcon)
    |(refine WpL.callM (hs:=[_,_]) (hcon _ _) handA handOA rfl rfl outA outA rfl rfl rfl rfl (by decide) ?_<;>clear hcon)
    |(refine WpL.callM (hs:=[_,_]) (hcon _ _ _ ?_) handA handOA rfl rfl outA outA rfl rfl rfl rfl (by decide) ?_<;>clear hcon)
    |(refine WpL.callM (hs:=[_,_]) (hcon _ _ _) handA handOA rfl rfl outA outA rfl rfl rfl rfl (by decide) ?_<;>clear hcon)
    |(refine WpL.callM (hs:=[_,_]) (hcon _ _ _ _ ?_) handA handOA rfl rfl outA outA rfl rfl rfl rfl (by decide) ?_<;>clear hcon)
    |(refine WpL.callM (hs:=[_,_]) (hcon _ _ _ _) handA handOA rfl rfl outA outA rfl rfl rfl rfl (by decide) ?_<;>clear hcon)
    |(refine WpL.callM (hs:=[_,_]) (hcon _ _ _ _ _ ?_) handA handOA rfl rfl outA outA rfl rfl rfl rfl (by decide) ?_<;>clear hcon)
    |(refine WpL.callM (hs:=[_,_]) (hcon _ _ _ _ _) handA handOA rfl rfl outA outA rfl rfl rfl rfl (by decide) ?_<;>clear hcon)
    |(refine WpL.callM (hs:=[_,_]) (hcon _ _ _ _ _ _ ?_) handA handOA rfl rfl outA outA rfl rfl rfl rfl (by decide) ?_<;>clear hcon)
    |(refine WpL.callM (hs:=[_,_]) (hcon _ _ _ _ _ _) handA handOA rfl rfl outA outA rfl rfl rfl rfl (by decide) ?_<;>clear hcon)
    |(refine WpL.callM (hs:=[_,_]) (hcon _ _ _ _ _ _ _ ?_) handA handOA rfl rfl outA outA rfl rfl rfl rfl (by decide) ?_<;>clear hcon)
    |(refine WpL.callM (hs:=[_,_]) (hcon _ _ _ _ _ _ _) handA handOA rfl rfl outA outA rfl rfl rfl rfl (by decide) ?_<;>clear hcon)
    |(refine WpL.callM (hs:=[_,_]) (hcon _ _ _ _ _ _ _ _ ?_) handA handOA rfl rfl outA outA rfl rfl rfl rfl (by decide) ?_<;>clear hcon)
    |(refine WpL.callM (hs:=[_,_]) (hcon _ _ _ _ _ _ _ _) handA handOA rfl rfl outA outA rfl rfl rfl rfl (by decide) ?_<;>clear hcon)
    |(refine WpL.callM (hs:=[_,_,_]) (hcon ?_) handA handOA rfl rfl outA outA rfl rfl rfl rfl (by decide) ?_<;>clear hcon)
    |(refine WpL.callM (hs:=[_,_,_]) (hcon) handA handOA rfl rfl outA outA rfl rfl rfl rfl (by decide) ?_<;>clear hcon)
    |(refine WpL.callM (hs:=[_,_,_]) (hcon _ ?_) handA handOA rfl rfl outA outA rfl rfl rfl rfl (by decide) ?_<;>clear hcon)
    |(refine WpL.callM (hs:=[_,_,_]) (hcon _) handA handOA rfl rfl outA outA rfl rfl rfl rfl (by decide) ?_<;>clear hcon)
    |(refine WpL.callM (hs:=[_,_,_]) (hcon _ _ ?_) handA handOA rfl rfl outA outA rfl rfl rfl rfl (by decide) ?_<;>clear hcon)
    |(refine WpL.callM (hs:=[_,_,_]) (hcon _ _) handA handOA rfl rfl outA outA rfl rfl rfl rfl (by decide) ?_<;>clear hcon)
    |(refine WpL.callM (hs:=[_,_,_]) (hcon _ _ _ ?_) handA handOA rfl rfl outA outA rfl rfl rfl rfl (by decide) ?_<;>clear hcon)
    |(refine WpL.callM (hs:=[_,_,_]) (hcon _ _ _) handA handOA rfl rfl outA outA rfl rfl rfl rfl (by decide) ?_<;>clear hcon)
    |(refine WpL.callM (hs:=[_,_,_]) (hcon _ _ _ _ ?_) handA handOA rfl rfl outA outA rfl rfl rfl rfl (by decide) ?_<;>clear hcon)
    |(refine WpL.callM (hs:=[_,_,_]) (hcon _ _ _ _) handA handOA rfl rfl outA outA rfl rfl rfl rfl (by decide) ?_<;>clear hcon)
    |(refine WpL.callM (hs:=[_,_,_]) (hcon _ _ _ _ _ ?_) handA handOA rfl rfl outA outA rfl rfl rfl rfl (by decide) ?_<;>clear hcon)
    |(refine WpL.callM (hs:=[_,_,_]) (hcon _ _ _ _ _) handA handOA rfl rfl outA outA rfl rfl rfl rfl (by decide) ?_<;>clear hcon)
    |(refine WpL.callM (hs:=[_,_,_]) (hcon _ _ _ _ _ _ ?_) handA handOA rfl rfl outA outA rfl rfl rfl rfl (by decide) ?_<;>clear hcon)
    |(refine WpL.callM (hs:=[_,_,_]) (hcon _ _ _ _ _ _) handA handOA rfl rfl outA outA rfl rfl rfl rfl (by decide) ?_<;>clear hcon)
    |(refine WpL.callM (hs:=[_,_,_]) (hcon _ _ _ _ _ _ _ ?_) handA handOA rfl rfl outA outA rfl rfl rfl rfl (by decide) ?_<;>clear hcon)
    |(refine WpL.callM (hs:=[_,_,_]) (hcon _ _ _ _ _ _ _) handA handOA rfl rfl outA outA rfl rfl rfl rfl (by decide) ?_<;>clear hcon)
    |(refine WpL.callM (hs:=[_,_,_]) (hcon _ _ _ _ _ _ _ _ ?_) handA handOA rfl rfl outA outA rfl rfl rfl rfl (by decide) ?_<;>clear hcon)
    |(refine WpL.callM (hs:=[_,_,_]) (hcon _ _ _ _ _ _ _ _) handA handOA rfl rfl outA outA rfl rfl rfl rfl (by decide) ?_<;>clear hcon)
    |(refine WpL.callM (hs:=[_,_,_,_]) (hcon ?_) handA handOA rfl rfl outA outA rfl rfl rfl rfl (by decide) ?_<;>clear hcon)
    |(refine WpL.callM (hs:=[_,_,_,_]) (hcon) handA handOA rfl rfl outA outA rfl rfl rfl rfl (by decide) ?_<;>clear hcon)
    |(refine WpL.callM (hs:=[_,_,_,_]) (hcon _ ?_) handA handOA rfl rfl outA outA rfl rfl rfl rfl (by decide) ?_<;>clear hcon)
    |(refine WpL.callM (hs:=[_,_,_,_]) (hcon _) handA handOA rfl rfl outA outA rfl rfl rfl rfl (by decide) ?_<;>clear hcon)
    |(refine WpL.callM (hs:=[_,_,_,_]) (hcon _ _ ?_) handA handOA rfl rfl outA outA rfl rfl rfl rfl (by decide) ?_<;>clear hcon)
    |(refine WpL.callM (hs:=[_,_,_,_]) (hcon _ _) handA handOA rfl rfl outA outA rfl rfl rfl rfl (by decide) ?_<;>clear hcon)
    |(refine WpL.callM (hs:=[_,_,_,_]) (hcon _ _ _ ?_) handA handOA rfl rfl outA outA rfl rfl rfl rfl (by decide) ?_<;>clear hcon)
    |(refine WpL.callM (hs:=[_,_,_,_]) (hcon _ _ _) handA handOA rfl rfl outA outA rfl rfl rfl rfl (by decide) ?_<;>clear hcon)
    |(refine WpL.callM (hs:=[_,_,_,_]) (hcon _ _ _ _ ?_) handA handOA rfl rfl outA outA rfl rfl rfl rfl (by decide) ?_<;>clear hcon)
    |(refine WpL.callM (hs:=[_,_,_,_]) (hcon _ _ _ _) handA handOA rfl rfl outA outA rfl rfl rfl rfl (by decide) ?_<;>clear hcon)
    |(refine WpL.callM (hs:=[_,_,_,_]) (hcon _ _ _ _ _ ?_) handA handOA rfl rfl outA outA rfl rfl rfl rfl (by decide) ?_<;>clear hcon)
    |(refine WpL.callM (hs:=[_,_,_,_]) (hcon _ _ _ _ _) handA handOA rfl rfl outA outA rfl rfl rfl rfl (by decide) ?_<;>clear hcon)
    |(refine WpL.callM (hs:=[_,_,_,_]) (hcon _ _ _ _ _ _ ?_) handA handOA rfl rfl outA outA rfl rfl rfl rfl (by decide) ?_<;>clear hcon)
    |(refine WpL.callM (hs:=[_,_,_,_]) (hcon _ _ _ _ _ _) handA handOA rfl rfl outA outA rfl rfl rfl rfl (by decide) ?_<;>clear hcon)
    |(refine WpL.callM (hs:=[_,_,_,_]) (hcon _ _ _ _ _ _ _ ?_) handA handOA rfl rfl outA outA rfl rfl rfl rfl (by decide) ?_<;>clear hcon)
    |(refine WpL.callM (hs:=[_,_,_,_]) (hcon _ _ _ _ _ _ _) handA handOA rfl rfl outA outA rfl rfl rfl rfl (by decide) ?_<;>clear hcon)
    |(refine WpL.callM (hs:=[_,_,_,_]) (hcon _ _ _ _ _ _ _ _ ?_) handA handOA rfl rfl outA outA rfl rfl rfl rfl (by decide) ?_<;>clear hcon)
    |(refine WpL.callM (hs:=[_,_,_,_]) (hcon _ _ _ _ _ _ _ _) handA handOA rfl rfl outA outA rfl rfl rfl rfl (by decide) ?_<;>clear hcon))
   |(refine K.call ?_;refine K.conB (fun hcon=>?_);first
    |(refine WpL.callB (hcon ?_) snapA locA outA locA outA rfl rfl rfl rfl rfl (by decide) ?_ ?_<;>clear hcon)
    |(refine WpL.callB (hcon) snapA locA outA locA outA rfl rfl rfl rfl rfl (by decide) ?_ ?_<;>clear hcon)
    |(refine WpL.callB (hcon _ ?_) snapA locA outA locA outA rfl rfl rfl rfl rfl (by decide) ?_ ?_<;>clear hcon)
    |(refine WpL.callB (hcon _) snapA locA outA locA outA rfl rfl rfl rfl rfl (by decide) ?_ ?_<;>clear hcon)
    |(refine WpL.callB (hcon _ _ ?_) snapA locA outA locA outA rfl rfl rfl rfl rfl (by decide) ?_ ?_<;>clear hcon)
    |(refine WpL.callB (hcon _ _) snapA locA outA locA outA rfl rfl rfl rfl rfl (by decide) ?_ ?_<;>clear hcon)
    |(refine WpL.callB (hcon _ _ _ ?_) snapA locA outA locA outA rfl rfl rfl rfl rfl (by decide) ?_ ?_<;>clear hcon)
    |(refine WpL.callB (hcon _ _ _) snapA locA outA locA outA rfl rfl rfl rfl rfl (by decide) ?_ ?_<;>clear hcon)
    |(refine WpL.callB (hcon _ _ _ _ ?_) snapA locA outA locA outA rfl rfl rfl rfl rfl (by decide) ?_ ?_<;>clear hcon)
    |(refine WpL.callB (hcon _ _ _ _) snapA locA outA locA outA rfl rfl rfl rfl rfl (by decide) ?_ ?_<;>clear hcon)
    |(refine WpL.callB (hcon _ _ _ _ _ ?_) snapA locA outA locA outA rfl rfl rfl rfl rfl (by decide) ?_ ?_<;>clear hcon)
    |(refine WpL.callB (hcon _ _ _ _ _) snapA locA outA locA outA rfl rfl rfl rfl rfl (by decide) ?_ ?_<;>clear hcon)
    |(refine WpL.callB (hcon _ _ _ _ _ _ ?_) snapA locA outA locA outA rfl rfl rfl rfl rfl (by decide) ?_ ?_<;>clear hcon)
    |(refine WpL.callB (hcon _ _ _ _ _ _) snapA locA outA locA outA rfl rfl rfl rfl rfl (by decide) ?_ ?_<;>clear hcon)
    |(refine WpL.callB (hcon _ _ _ _ _ _ _ ?_) snapA locA outA locA outA rfl rfl rfl rfl rfl (by decide) ?_ ?_<;>clear hcon)
    |(refine WpL.callB (hcon _ _ _ _ _ _ _) snapA locA outA locA outA rfl rfl rfl rfl rfl (by decide) ?_ ?_<;>clear hcon)
    |(refine WpL.callB (hcon _ _ _ _ _ _ _ _ ?_) snapA locA outA locA outA rfl rfl rfl rfl rfl (by decide) ?_ ?_<;>clear hcon)
    |(refine WpL.callB (hcon _ _ _ _ _ _ _ _) snapA locA outA locA outA rfl rfl rfl rfl rfl (by decide) ?_ ?_<;>clear hcon))
   |(refine K.call ?_;refine K.conP (fun hcon=>?_);first
    |(refine WpL.callP (hs:=[_]) (hcon ?_) (by assumption) handA handOA rfl rfl (.cons rfl (.sc (.sc (.sc .nil))) .nil) outA rfl rfl rfl rfl (by decide) ?_<;>clear hcon)
    |(refine WpL.callP (hs:=[_]) (hcon) (by assumption) handA handOA rfl rfl (.cons rfl (.sc (.sc (.sc .nil))) .nil) outA rfl rfl rfl rfl (by decide) ?_<;>clear hcon)
    |(refine WpL.callP (hs:=[_]) (hcon _ ?_) (by assumption) handA handOA rfl rfl (.cons rfl (.sc (.sc (.sc .nil))) .nil) outA rfl rfl rfl rfl (by decide) ?_<;>clear hcon)
    |(refine WpL.callP (hs:=[_]) (hcon _) (by assumption) handA handOA rfl rfl (.cons rfl (.sc (.sc (.sc .nil))) .nil) outA rfl rfl rfl rfl (by decide) ?_<;>clear hcon)
    |(refine WpL.callP (hs:=[_]) (hcon _ _ ?_) (by assumption) handA handOA rfl rfl (.cons rfl (.sc (.sc (.sc .nil))) .nil) outA rfl rfl rfl rfl (by decide) ?_<;>clear hcon)
    |(refine WpL.callP (hs:=[_]) (hcon _ _) (by assumption) handA handOA rfl rfl (.cons rfl (.sc (.sc (.sc .nil))) .nil) outA rfl rfl rfl rfl (by decide) ?_<;>clear hcon)
    |(refine WpL.callP (hs:=[_]) (hcon _ _ _ ?_) (by assumption) handA handOA rfl rfl (.cons rfl (.sc (.sc (.sc .nil))) .nil) outA rfl rfl rfl rfl (by decide) ?_<;>clear hcon)
    |(refine WpL.callP (hs:=[_]) (hcon _ _ _) (by assumption) handA handOA rfl rfl (.cons rfl (.sc (.sc (.sc .nil))) .nil) outA rfl rfl rfl rfl (by decide) ?_<;>clear hcon)
    |(refine WpL.callP (hs:=[_]) (hcon _ _ _ _ ?_) (by assumption) handA handOA rfl rfl (.cons rfl (.sc (.sc (.sc .nil))) .nil) outA rfl rfl rfl rfl (by decide) ?_<;>clear hcon)
    |(refine WpL.callP (hs:=[_]) (hcon _ _ _ _) (by assumption) handA handOA rfl rfl (.cons rfl (.sc (.sc (.sc .nil))) .nil) outA rfl rfl rfl rfl (by decide) ?_<;>clear hcon)
    |(refine WpL.callP (hs:=[_]) (hcon _ _ _ _ _ ?_) (by assumption) handA handOA rfl rfl (.cons rfl (.sc (.sc (.sc .nil))) .nil) outA rfl rfl rfl rfl (by decide) ?_<;>clear hcon)
    |(refine WpL.callP (hs:=[_]) (hcon _ _ _ _ _) (by assumption) handA handOA rfl rfl (.cons rfl (.sc (.sc (.sc .nil))) .nil) outA rfl rfl rfl rfl (by decide) ?_<;>clear hcon)
    |(refine WpL.callP (hs:=[_]) (hcon _ _ _ _ _ _ ?_) (by assumption) handA handOA rfl rfl (.cons rfl (.sc (.sc (.sc .nil))) .nil) outA rfl rfl rfl rfl (by decide) ?_<;>clear hcon)
    |(refine WpL.callP (hs:=[_]) (hcon _ _ _ _ _ _) (by assumption) handA handOA rfl rfl (.cons rfl (.sc (.sc (.sc .nil))) .nil) outA rfl rfl rfl rfl (by decide) ?_<;>clear hcon)
    |(refine WpL.callP (hs:=[_]) (hcon _ _ _ _ _ _ _ ?_) (by assumption) handA handOA rfl rfl (.cons rfl (.sc (.sc (.sc .nil))) .nil) outA rfl rfl rfl rfl (by decide) ?_<;>clear hcon)
    |(refine WpL.callP (hs:=[_]) (hcon _ _ _ _ _ _ _) (by assumption) handA handOA rfl rfl (.cons rfl (.sc (.sc (.sc .nil))) .nil) outA rfl rfl rfl rfl (by decide) ?_<;>clear hcon)
    |(refine WpL.callP (hs:=[_]) (hcon _ _ _ _ _ _ _ _ ?_) (by assumption) handA handOA rfl rfl (.cons rfl (.sc (.sc (.sc .nil))) .nil) outA rfl rfl rfl rfl (by decide) ?_<;>clear hcon)
    |(refine WpL.callP (hs:=[_]) (hcon _ _ _ _ _ _ _ _) (by assumption) handA handOA rfl rfl (.cons rfl (.sc (.sc (.sc .nil))) .nil) outA rfl rfl rfl rfl (by decide) ?_<;>clear hcon)
    |(refine WpL.callP (hs:=[_]) (hcon _ _ _ _ _ _ _ _ _ ?_) (by assumption) handA handOA rfl rfl (.cons rfl (.sc (.sc (.sc .nil))) .nil) outA rfl rfl rfl rfl (by decide) ?_<;>clear hcon)
    |(refine WpL.callP (hs:=[_]) (hcon _ _ _ _ _ _ _ _ _) (by assumption) handA handOA rfl rfl (.cons rfl (.sc (.sc (.sc .nil))) .nil) outA rfl rfl rfl rfl (by decide) ?_<;>clear hcon)
    |(refine WpL.callP (hs:=[_]) (hcon _ _ _ _ _ _ _ _ _ _ ?_) (by assumption) handA handOA rfl rfl (.cons rfl (.sc (.sc (.sc .nil))) .nil) outA rfl rfl rfl rfl (by decide) ?_<;>clear hcon)
    |(refine WpL.callP (hs:=[_]) (hcon _ _ _ _ _ _ _ _ _ _) (by assumption) handA handOA rfl rfl (.cons rfl (.sc (.sc (.sc .nil))) .nil) outA rfl rfl rfl rfl (by decide) ?_<;>clear hcon))
   |(refine K.callT ?_;refine K.conV rfl (fun hcon=>?_);first
    |(refine WpL.callVF rfl (hcon _ _ _ _ _ _ _ _ _ _ _ _) rfl snapA locA outA rfl rfl rfl (by decide) ?_<;>clear hcon))
   |(refine K.mkF ?_;refine WpL.makeFunc rfl (by decide) ?_)
   |(refine K.ix ?_;first
    |refine WpL.idxStrB tabOk rfl rfl rfl (by omega) (by decide) (fun hgo=>?_))
   |(refine K.bi ?_;first
    |(refine K.blen ?_;first
     |refine WpL.lenImm (TabOk.slice tabOk rfl).1 rfl (by decide) ?_
     |refine WpL.lenOwn (TabOk.slice tabOk rfl).1 rfl rfl rfl (by decide) ?_
     |refine WpL.lenStr (K.tyStr tabOk rfl) rfl (by decide) ?_)
    |(refine K.bapp ?_;first
     |refine WpL.app1Ints tabOk rfl rfl rfl (by first|exact Nat.zero_le _|exact Nat.le_of_ble_eq_true rfl) rfl rfl (by first|rfl|omega|(simp;done)|(simp;omega)) (by omega) (by decide) ?_
     |refine WpL.appInts tabOk rfl rfl rfl (by first|exact Nat.zero_le _|exact Nat.le_of_ble_eq_true rfl) rfl rfl (by first|rfl|omega|(simp;done)|(simp;omega)) (by first|rfl|omega|(simp;done)|(simp;omega)) (by omega) (by decide) ?_
     |refine WpL.app1U8s tabOk rfl rfl rfl (by first|exact Nat.zero_le _|exact Nat.le_of_ble_eq_true rfl) rfl rfl (by first|rfl|omega|(simp;done)|(simp;omega)) (by omega) (by decide) ?_
     |refine WpL.appRow (f:=prF) (v:=(_,_)) tabOk rfl rfl rfl (by first|exact Nat.zero_le _|exact Nat.le_of_ble_eq_true rfl) rfl rfl (fun _=>rfl) rfl rfl (by first|rfl|omega|(simp;done)|(simp;omega)) (by omega) (by decide) ?_
     |refine WpL.appRow (f:=plF) (v:=(_,_,_)) tabOk rfl rfl rfl (by first|exact Nat.zero_le _|exact Nat.le_of_ble_eq_true rfl) rfl rfl (fun _=>rfl) rfl rfl (by first|rfl|omega|(simp;done)|(simp;omega)) (by omega) (by decide) ?_
     |refine WpL.appBlk tabOk rfl rfl rfl (by first|exact Nat.zero_le _|exact Nat.le_of_ble_eq_true rfl) rfl rfl rfl rfl rfl (by first|exact Nat.zero_le _|exact Nat.le_of_ble_eq_true rfl) (by first|rfl|omega|(simp;done)|(simp;omega)) (by first|rfl|omega|(simp;done)|(simp;omega)) (by omega) (by decide) ?_
     |refine WpL.appOwn tabOk rfl rfl rfl rfl rfl rfl (by simp) (by first|exact Nat.zero_le _|exact Nat.le_of_ble_eq_true rfl) rfl rfl (by simp) (by simp [all_ints,all_u8s,all_strs,oneB,Value.oneCell']) (by omega) (by decide) ?_)
    |refine WpL.min2 rfl rfl (by decide) ?_
    |refine WpL.max2 rfl rfl (by decide) ?_)
   |(refine K.un ?_;first
    |refine WpL.not rfl (by decide) ?_
    |refine WpL.neg rfl (by omega) (by decide) ?_)
   |(refine K.pick ?_;first
    |refine WpL.pickT rfl rfl (by decide) ?_
    |refine WpL.pickF rfl rfl (by decide) ?_)
   |(refine K.bld ?_;refine WpL.build tabOk rfl rfl (by kernel_rfl) (by decide) ?_)
   |(refine K.ext ?_;refine WpL.extract rfl rfl (by first|decide|simp [AV.shL]) (by decide) ?_)
   |(refine K.cv ?_;first
    |refine WpL.convI (P:=Tryz.prog) (by rfl) (K.tyInt tabOk rfl) rfl (by omega) (by decide) ?_
    |refine WpL.conv (P:=Tryz.prog) (by rfl) (K.tyInt tabOk rfl) rfl (by decide) ?_
    |refine WpL.ofBytes tabOk rfl rfl rfl rfl rfl (by simp) (by decide) ?_)
   |(refine K.lit ?_;first
    |refine WpL.lit0U8s tabOk rfl rfl rfl (by decide) ?_
    |refine WpL.lit0Ints tabOk rfl rfl rfl (by decide) ?_
    |refine WpL.litInts tabOk rfl rfl rfl rfl rfl (by decide) rfl (by decide) ?_
    |refine WpL.litU8s tabOk rfl rfl rfl rfl rfl (by decide) rfl (by decide) ?_
    |(apply WpL.litLis tabOk
      ·exact rfl
      ·exact rfl
      ·exact rfl
      ·exact rfl
      ·decide
      ·exact rfl
      ·exact rfl
      ·exact rfl
      ·decide
      ·repeat' (first
        |exact NestC.nil
        |(apply NestC.cons
          ·exact rfl
          ·exact rfl
          ·exact rfl
          ·exact rfl
          ·first|exact Nat.zero_le _|exact Nat.le_of_ble_eq_true rfl
          ·exact rfl
          ·first|rfl|exact still_ints _
          ·first|rfl|simp
          ·exact rfl))
      ·exact rfl
      ·exact rfl)
    |refine WpL.litF tabOk rfl rfl rfl rfl (by decide) rfl (by decide) ?_)
   |(refine K.ms ?_;first
    |refine WpL.makeInts tabOk rfl rfl rfl (by omega) (by omega) rfl (by decide) ?_
    |refine WpL.makeU8s tabOk rfl rfl rfl (by omega) (by omega) rfl (by decide) ?_
    |refine WpL.makeRows (f:=prF) (z:=(0,0)) tabOk rfl rfl rfl rfl (by omega) (by omega) rfl (by decide) ?_)
   |(refine K.st ?_;first
    |refine WpL.storeInts tabOk rfl rfl rfl rfl rfl (by first|omega|(simp;omega)) ?_
    |refine WpL.storeU8s tabOk rfl rfl rfl rfl rfl (by first|omega|(simp;omega)) ?_
    |refine WpL.storeRow (f:=prF) (b:=(_,_)) tabOk rfl rfl rfl rfl rfl (fun _=>rfl) rfl (by first|rfl|omega|(simp;done)|(simp;omega)) ?_
    |refine WpL.storeS tabOk rfl rfl rfl rfl rfl rfl rfl rfl (by first|decide|omega|(simp;omega)|(simp;done)) (by first|(simp only [Go.Abs.setL,List.set_cons_zero,List.set_cons_succ,Nat.zero_add,Nat.reduceAdd];exact rfl)|exact rfl) ?_)
   |(refine K.all ?_;first
    |refine WpL.allocStruct tabOk rfl rfl (by decide) ?_
    |refine WpL.allocPlain tabOk rfl rfl rfl (by decide) ?_)
   |(refine K.box ?_;refine WpL.box rfl rfl rfl (by decide) ?_)
   |(refine K.nc ?_;first
    |refine WpL.nilCheckP rfl rfl rfl (by decide) ?_)
   |(refine K.sl ?_;first
    |refine WpL.subStr tabOk rfl rfl (by first|exact .inl ⟨rfl,rfl⟩|exact .inr ⟨_,_,rfl,rfl⟩) (by first|exact .inl ⟨rfl,rfl⟩|exact .inr ⟨_,_,rfl,rfl⟩) (by omega) (by decide) ?_
    |refine WpL.subInts tabOk rfl rfl rfl rfl (by first|rfl|omega|(simp;done)|(simp;omega)) (by omega) (by decide) ?_
    |refine WpL.subImm tabOk rfl rfl (by first|exact .inl ⟨rfl,rfl⟩|exact .inr ⟨_,_,rfl,rfl⟩) (by first|exact .inl ⟨rfl,rfl⟩|exact .inr ⟨_,_,rfl,rfl⟩) (by omega) (by decide) ?_)
   |(refine K.gd ?_;first
    |refine K.gT rfl (by decide) rfl ?_
    |refine K.gF rfl (by decide) rfl ?_
    |(refine K.gD rfl rfl (fun hgo=>?_) (fun hgo=>?_)<;>(try (first|contradiction|(exfalso;omega))))
    |(refine K.gN rfl rfl (fun hgo=>?_) (fun hgo=>?_)<;>(try (first|contradiction|(exfalso;omega)))))
   |((repeat (revert hgo));(repeat ((fail_if_success with_reducible apply Hold.h hold);replace hold:=Hold.t hold));with_reducible apply Hold.h hold))
  |refine WpL.nil ?_
  |refine Abs.Seq.n ?_
  |(refine K.A ?_;first
   |refine WpA.seq ?_
   |refine WpA.regionF rfl ?_
   |(refine K.cond ?_;first
    |refine WpA.condT rfl ?_
    |refine WpA.condF rfl ?_
    |(refine WpA.condD rfl (fun hgo=>?_) (fun hgo=>?_)<;>(try (first|contradiction|(exfalso;omega))))
    |(refine WpA.condN rfl (fun hgo=>?_) (fun hgo=>?_)<;>(try (first|contradiction|(exfalso;omega))))
    |(refine WpA.condS rfl (fun hgo=>?_) (fun hgo=>?_)<;>(try (first|contradiction|(exfalso;omega)))))
   |refine WpA.block ?_
   |refine WpA.ret ?_
   |refine WpA.exit ?_
   |refine WpA.skip ?_
   |(refine K.loop ?_;((repeat (revert hgo));(repeat ((fail_if_success with_reducible apply Hold.h hold);replace hold:=Hold.t hold));with_reducible apply Hold.h hold))
   |((repeat (revert hgo));(repeat ((fail_if_success with_reducible apply Hold.h hold);replace hold:=Hold.t hold));with_reducible apply Hold.h hold))
  |(refine K.RT ?_;first
   |exact ReT.nil
   |refine ReT.same rfl rfl ?_
   |refine ReT.own rfl rfl rfl rfl rfl rfl (by first|rfl|omega|(simp;done)|(simp;omega)) ?_
   |refine ReT.i rfl ?_ ?_
   |refine ReT.ptr rfl rfl rfl rfl rfl ?_)
  |(refine TrueB.mk ?_;kernel_rfl)
  |(apply K.eq;first|exact rfl|omega|assumption|(simp;done)|(simp;omega)|(exact absurd (by simp;done) ‹¬ _›)|((repeat (revert hgo));(repeat ((fail_if_success with_reducible apply Hold.h hold);replace hold:=Hold.t hold));with_reducible apply Hold.h hold))
  |(refine K.le ?_;first|omega|(simp;omega)|assumption|((repeat (revert hgo));(repeat ((fail_if_success with_reducible apply Hold.h hold);replace hold:=Hold.t hold));with_reducible apply Hold.h hold))
  |(refine K.lt ?_;first|omega|(simp;omega)|assumption|((repeat (revert hgo));(repeat ((fail_if_success with_reducible apply Hold.h hold);replace hold:=Hold.t hold));with_reducible apply Hold.h hold))
  |refine And.intro ?_ ?_
  |(refine K.RO ?_;first
   |exact ReO.nil
   |refine ReO.ints ?_ (by first|exact .inl rfl|exact .inr rfl) ?_
   |refine ReO.u8s ?_ (by first|exact .inl rfl|exact .inr rfl) ?_
   |refine ReO.rows (fun _=>rfl) ?_ (by first|exact .inl rfl|exact .inr rfl) ?_
   |refine ReO.cons (Re.same rfl rfl) (by first|exact .inl rfl|exact .inr rfl) ?_
   |refine ReO.cons ?_ (by first|exact .inl rfl|exact .inr rfl) ?_)
  |(refine K.W ?_;first
   |refine Weak.mk ?_ ?_ (by first|exact Nat.zero_le _|exact Nat.le_of_ble_eq_true rfl))
  |refine Abs.Seq.ret ?_
  |refine Abs.Seq.exit ?_
  |refine Blk.n ?_
  |refine Blk.ret ?_
  |refine Blk.exitHere ?_
  |(refine K.R ?_;first
   |refine Rnd.ret ?_
   |refine Rnd.exit ?_
   |refine Rnd.succ ?_ ?_ ?_
   |((repeat (revert hgo));(repeat ((fail_if_success with_reducible apply Hold.h hold);replace hold:=Hold.t hold));with_reducible apply Hold.h hold))
  |(refine K.F ?_;first
   |apply Fin.one0
   |apply Fin.one1
   |apply Fin.two0
   |apply Fin.two1
   |apply Fin.three0
   |apply Fin.three1
   |((repeat (revert hgo));(repeat ((fail_if_success with_reducible apply Hold.h hold);replace hold:=Hold.t hold));with_reducible apply Hold.h hold))
  |(refine K.FG ?_;first
   |apply FinG.o10
   |apply FinG.o11
   |((repeat (revert hgo));(repeat ((fail_if_success with_reducible apply Hold.h hold);replace hold:=Hold.t hold));with_reducible apply Hold.h hold))
  |exact ResV.tmp rfl
  |exact ResV.cellP rfl rfl rfl rfl rfl
  |exact ResV.cell (ds:=[_]) rfl rfl rfl rfl rfl
  |exact ResV.cell (ds:=[_,_]) rfl rfl rfl rfl rfl
  |exact ResV.cell (ds:=[_,_,_]) rfl rfl rfl rfl rfl
  |exact ResV.cell (ds:=[_,_,_,_]) rfl rfl rfl rfl rfl
  |exact ResV.cell (ds:=[_,_,_,_,_]) rfl rfl rfl rfl rfl
  |exact ResV.cell (ds:=[_,_,_,_,_,_]) rfl rfl rfl rfl rfl
  |exact ResV.cell (ds:=[_,_,_,_,_,_,_]) rfl rfl rfl rfl rfl
  |exact ResV.cell (ds:=[_,_,_,_,_,_,_,_]) rfl rfl rfl rfl rfl
  |(refine K.E ?_;first
   |exact Ex.nil
   |refine Ex.keep rfl rfl rfl ?_
   |refine Ex.own rfl rfl rfl rfl ?_
   |refine Ex.own rfl rfl rfl ?_ ?_
   |refine Ex.nilO rfl ?_
   |refine Ex.nilO' rfl ?_ ?_
   |refine Ex.agg ?_ ?_
   |refine Ex.tup ?_ ?_
   |refine Ex.i ?_ ?_
   |refine Ex.b ?_ ?_)
  |(refine K.NE ?_;first
   |exact NEx.nil
   |refine NEx.ints rfl ?_ ?_
   |refine NEx.noInts ?_ ?_
   |refine NEx.rows (fun _=>rfl) rfl ?_ ?_
   |refine NEx.noRows ?_ ?_
   |refine NEx.gone ?_ rfl ?_
   |refine NEx.obj rfl ?_ rfl rfl rfl (.inr rfl) ?_)
  |exact Re.nil
  |refine Re.keep rfl rfl ?_
  |refine Re.fn rfl ?_
  |refine Re.own rfl rfl rfl rfl rfl (by first|rfl|omega|(simp;done)|(simp;omega)) ?_
  |refine Re.ptr rfl rfl rfl rfl ?_
  |refine Re.agg ?_ ?_
  |refine Re.tup ?_ ?_
  |refine Re.i ?_ ?_
  |exact rfl
  |omega
  |(refine fun hgo=>?_)
  |(simp;done)
  |(simp;omega)
  |((repeat (revert hgo));(repeat ((fail_if_success with_reducible apply Hold.h hold);replace hold:=Hold.t hold));with_reducible apply Hold.h hold))
  all_goals (try ((repeat (revert hgo));(repeat ((fail_if_success with_reducible apply Hold.h hold);replace hold:=Hold.t hold));with_reducible apply Hold.h hold))
  all_goals exact True
 ·first|exact IsT.t|exact IsT.any
 ) (r:R):P:=h.1 ⟨r⟩
end Go.Proofs.YtndflfipaddfoaaGreat


namespace Go.Proofs.YtndflfipaddfoaaGreat
open Go Go.Abs
attribute [local irreducible] WpA WpL Rnd Blk Abs.Seq Abs.Fin FnC Only
instance within_c:Con 88 (∀ n lo hi:Int,Fn 88 [I n,I lo,I hi] [] (B (decide (lo≤n∧n≤hi)))):=⟨fun n lo hi=>by
 refine FnC.of_body tabOk Tryz.func88 Tryz.ntmps88 rfl (by decide +kernel) (by simp) fun G=>?_
 refine go (r:=?_);and_intros<;>intros
 all_goals first|exact True.intro|(simp_all;done)|(simp;omega)⟩
instance l1In_c:Con 117 (∀ n lo hi:Int,Fn 117 [I n,I lo,I hi] [] (B (decide (lo≤n∧n≤hi)))):=⟨fun n lo hi=>by
 refine FnC.of_body tabOk Tryz.func117 Tryz.ntmps117 rfl (by decide +kernel) (by simp) fun G=>?_
 refine go (r:=?_);and_intros<;>intros
 all_goals first|exact True.intro|(simp_all;done)|(simp;omega)⟩
def clampM (v:Int):Int:=max (-1000000) (min v 1000000)
end Go.Proofs.YtndflfipaddfoaaGreat


namespace Go.Proofs.YtndflfipaddfoaaGreat
open Go Go.Abs
attribute [local irreducible] WpA WpL Rnd Blk Abs.Seq Abs.Fin Abs.FinG FnC FnG FnX FinX Only
abbrev CurO (v:Value) (c:Int×Int):AObj:=⟨[.sc v,I c.1,I c.2],0,0,none⟩
abbrev CurOk (l:List Int) (c:Int×Int):Prop:=0≤c.1∧c.1≤l.length
abbrev CodA (l:List Int):AV:=.imm 1 l.length (u8s l)
theorem and255 (y:Int):0≤IntKind.i64.wrap ((BitVec.ofInt IntKind.i64.bits y &&& BitVec.ofInt IntKind.i64.bits 255).toNat:Nat)∧IntKind.i64.wrap ((BitVec.ofInt IntKind.i64.bits y &&& BitVec.ofInt IntKind.i64.bits 255).toNat:Nat)≤255:=by
 have h:(BitVec.ofInt IntKind.i64.bits y &&& BitVec.ofInt IntKind.i64.bits 255).toNat≤255:=by
  rw [BitVec.toNat_and]
  exact Nat.le_trans Nat.and_le_right (by decide)
 rw [IntWalk.i64_in _ (by omega)]
 omega
section
attribute [local irreducible] IntKind.wrap
end
end Go.Proofs.YtndflfipaddfoaaGreat


namespace Go.Proofs.YtndflfipaddfoaaGreat
open Go Go.Abs
attribute [local irreducible] WpA WpL Rnd Blk Abs.Seq Abs.Fin Abs.FinG FnC FnG FnX FnP FinX Only
abbrev Cr:=Int×Int
abbrev Pn (f:Nat) (v:Value) (l:List Int) (c:Cr) (args:List AV) (c':Cr) (N:List AObj) (r:AV):Prop:=FnP Tryz.prog f (.ptr 0 0 0::args) [CurO v c] [v] [CodA l] [CurO v c'] N r
abbrev CrOk (l:List Int) (c:Cr):Prop:=l.length≤1048576∧CurOk l c
def hD (h:Int):Int:=IntKind.i64.wrap (IntKind.i64.wrap (h*6364136223846793005)+1442695040888963407)
def mixD (y:Int):Int:=IntKind.i64.wrap ((BitVec.ofInt IntKind.i64.bits (IntKind.i64.wrap ((BitVec.ofInt IntKind.i64.bits (y/2 ^ Int.toNat 33) ^^^ BitVec.ofInt IntKind.i64.bits (y/2 ^ Int.toNat 45)).toNat:Nat)) &&& BitVec.ofInt IntKind.i64.bits 255).toNat:Nat)
def byD (l:List Int) (c:Cr):Cr×Int:=
 if c.1<l.length then ((c.1+1,hD c.2),IntKind.i64.wrap ((BitVec.ofInt IntKind.i64.bits (IntKind.i64.wrap (mixD (hD c.2)+IntKind.i64.wrap (l.getD c.1.toNat 0))) &&& BitVec.ofInt IntKind.i64.bits 255).toNat:Nat))
 else ((c.1,hD c.2),mixD (hD c.2))
theorem byD_ok {l:List Int} {c:Cr} (h:CrOk l c):CrOk l (byD l c).1∧0≤(byD l c).2∧(byD l c).2≤255:=by
 have h1:=h.2.1
 have h2:=h.2.2
 unfold byD;split
 ·exact ⟨⟨h.1,by show 0≤c.1+1;omega,by show c.1+1≤_;omega⟩,and255 _⟩
 ·exact ⟨⟨h.1,h1,h2⟩,and255 _⟩
section
attribute [local irreducible] IntKind.wrap
instance l1Byte_p:ConP 186 (∀ (v:Value) (l:List Int) (c:Cr),CrOk l c→Pn 186 v l c [] (byD l c).1 [] (I (byD l c).2)):=⟨fun v l c h=>by
 have hl:=h.1
 have hc1:=h.2.1
 have hc2:=h.2.2
 by_cases hlt:c.1<l.length
 ·rw [byD,if_pos hlt]
  refine FnP.of_body tabOk Tryz.func186 Tryz.ntmps186 rfl (by decide +kernel) (by simp) rfl rfl rfl fun G hp=>?_
  refine go (r:=?_);and_intros<;>intros<;>try exact True.intro
  refine WpL.pin (d:=32) hp rfl ?_
  refine go (r:=?_);and_intros<;>intros<;>try exact True.intro
  all_goals first|contradiction|omega|skip
  refine WpL.pin (d:=39) hp rfl ?_
  refine go (r:=?_);and_intros<;>intros<;>try exact True.intro
 ·rw [byD,if_neg hlt]
  refine FnP.of_body tabOk Tryz.func186 Tryz.ntmps186 rfl (by decide +kernel) (by simp) rfl rfl rfl fun G hp=>?_
  refine go (r:=?_);and_intros<;>intros<;>try exact True.intro
  refine WpL.pin (d:=32) hp rfl ?_
  refine go (r:=?_);and_intros<;>intros<;>try exact True.intro
  all_goals first|contradiction|omega|skip⟩
end
def belowD (l:List Int) (c:Cr) (n:Int):Cr×Int:=
 if n≤0 then (c,0) else if n≤256 then ((byD l c).1,(byD l c).2%n) else
  ((byD l (byD l (byD l (byD l c).1).1).1).1,((byD l c).2*16777216+(byD l (byD l c).1).2*65536+(byD l (byD l (byD l c).1).1).2*256+(byD l (byD l (byD l (byD l c).1).1).1).2)%n)
theorem belowD_ok {l:List Int} {c:Cr} (n:Int) (h:CrOk l c):CrOk l (belowD l c n).1∧0≤(belowD l c n).2∧(0<n→(belowD l c n).2<n)∧(n≤0→(belowD l c n).2=0):=by
 have h1:=byD_ok h
 have h2:=byD_ok h1.1
 have h3:=byD_ok h2.1
 have h4:=byD_ok h3.1
 unfold belowD
 split
 ·exact ⟨h,Int.le_refl 0,fun h=>by omega,fun _=>rfl⟩
 ·split
  ·exact ⟨h1.1,Int.emod_nonneg _ (by omega),fun h=>Int.emod_lt_of_pos _ h,fun h=>by omega⟩
  ·exact ⟨h4.1,Int.emod_nonneg _ (by omega),fun h=>Int.emod_lt_of_pos _ h,fun h=>by omega⟩
instance l1Below_p:ConP 93 (∀ (v:Value) (l:List Int) (c:Cr) (n:Int),CrOk l c→Pn 93 v l c [I n] (belowD l c n).1 [] (I (belowD l c n).2)):=⟨fun v l c n h=>by
 have h1:=byD_ok h
 have h2:=byD_ok h1.1
 have h3:=byD_ok h2.1
 have h4:=byD_ok h3.1
 unfold belowD
 by_cases h0:n≤0
 ·rw [if_pos h0]
  refine FnP.of_body tabOk Tryz.func93 Tryz.ntmps93 rfl (by decide +kernel) (by simp) rfl rfl rfl fun G hp=>?_
  refine go (r:=?_);and_intros<;>intros<;>try exact True.intro
  all_goals trace_state
 ·rw [if_neg h0]
  by_cases h256:n≤256
  ·rw [if_pos h256]
   refine FnP.of_body tabOk Tryz.func93 Tryz.ntmps93 rfl (by decide +kernel) (by simp) rfl rfl rfl fun G hp=>?_
   refine go (r:=?_);and_intros<;>intros<;>try exact True.intro
   all_goals trace_state
  ·rw [if_neg h256]
   refine FnP.of_body tabOk Tryz.func93 Tryz.ntmps93 rfl (by decide +kernel) (by simp) rfl rfl rfl fun G hp=>?_
   refine go (r:=?_);and_intros<;>intros<;>try exact True.intro
   all_goals trace_state⟩
end Go.Proofs.YtndflfipaddfoaaGreat


namespace Go.Proofs.YtndflfipaddfoaaGreat
open Go Go.Abs
theorem eq_all {α:Type} (z:α) {xs ys:List α} (hl:xs.length=ys.length) (h:∀j<xs.length,xs.getD j z=ys.getD j z):xs=ys:=by
 apply List.ext_getElem hl
 intro i h1 h2
 have:=h i h1
 simpa [h1,h2] using this
abbrev BkL (l:List Blok):AV:=.imm 2 l.length (rows blkI l)
abbrev BkO (l:List Blok):AObj:=⟨rows blkF l,0,2,some 92⟩
def bn (b:Blok):Nat:=b.2.length
def bw (l:List Blok):Nat:=l.length+(l.map bn).sum
@[irreducible] def SmB (c:Nat) (l:List Blok):Prop:=∀b∈l,b.2.length≤c
theorem smB_get {c:Nat} {l:List Blok} (h:SmB c l) {k:Nat} (hk:k<l.length):(l.getD k default).2.length≤c:=by
 unfold SmB at h;exact h _ (by simp [hk])
theorem take_snoc {α:Type} [Inhabited α] (l:List α) (i:Nat) (h:i<l.length):l.take (i+1)=l.take i++[l.getD i default]:=by
 rw [List.take_succ_eq_append_getElem h];simp [h]
abbrev XI (l:List Int):AObj:=⟨ints l,0,1,some 3⟩
end Go.Proofs.YtndflfipaddfoaaGreat


namespace Go.Proofs.YtndflfipaddfoaaGreat
open Go Go.Abs
attribute [local irreducible] WpA WpL Rnd Blk Abs.Seq Abs.Fin Abs.FinG FnC FnG FnX FnP FinX Only
def onceD (l:List Int) (c:Cr) (n:Int):Cr×Bool:=((belowD l c n).1,decide ((belowD l c n).2=0))
theorem onceD_ok {l:List Int} {c:Cr} (n:Int) (h:CrOk l c):CrOk l (onceD l c n).1:=(belowD_ok n h).1
def pickD (l:List Int) (c:Cr) (xs:List Int):Cr×Int:=((belowD l c xs.length).1,xs.getD (belowD l c xs.length).2.toNat 0)
theorem pickD_ok {l:List Int} {c:Cr} {xs:List Int} (h:CrOk l c) (hx:0<xs.length):CrOk l (pickD l c xs).1∧(pickD l c xs).2∈xs:=by
 have hb:=belowD_ok (xs.length:Int) h
 refine ⟨hb.1,?_⟩
 have h1:=hb.2.2.1 (by omega)
 have h2:=hb.2.1
 have:(belowD l c xs.length).2.toNat<xs.length:=by omega
 simp [pickD,this]
attribute [local irreducible] belowD
instance l1Once_p:ConP 110 (∀ (v:Value) (l:List Int) (c:Cr) (n:Int),CrOk l c→Pn 110 v l c [I n] (onceD l c n).1 [] (B (onceD l c n).2)):=⟨fun v l c n h=>by
 unfold onceD
 refine FnP.of_body tabOk Tryz.func110 Tryz.ntmps110 rfl (by decide +kernel) (by simp) rfl rfl rfl fun G hp=>?_
 refine go (r:=?_);and_intros<;>intros<;>try exact True.intro⟩
instance l1PickInt_p:ConP 127 (∀ (v:Value) (l:List Int) (c:Cr) (xs:List Int),CrOk l c∧0<xs.length∧xs.length≤1048576→Pn 127 v l c [IL xs] (pickD l c xs).1 [] (I (pickD l c xs).2)):=⟨fun v l c xs h=>by
 have hc:=h.1
 have hb:=belowD_ok (xs.length:Int) hc
 have h1:=hb.2.1
 have h2:=hb.2.2.1 (by omega)
 unfold pickD
 refine FnP.of_body tabOk Tryz.func127 Tryz.ntmps127 rfl (by decide +kernel) (by simp) rfl rfl rfl fun G hp=>?_
 refine go (r:=?_);and_intros<;>intros<;>try exact True.intro
 all_goals trace_state⟩
attribute [local irreducible] onceD pickD
abbrev mode14:List Int:=[0,1,2,3,4,5,0,1,2,3,4,5,-1,6]
def modeD (l:List Int) (c:Cr):Cr×Int:=pickD l c mode14
def lens7:List (List Int):=[[1,2,3,4,5,5],[3,3,3,3,2,2],[2,2,2,3,4,4],[1,1,0,0,0,0],[0,2,2,2,2,0],[5,5,4,3,2,1],[4,4,4,4,2,1]]
def l8D (l:List Int) (c:Cr):Cr×List Int:=
 let y:=belowD l c 7
 let b:=lens7.getD y.2.toNat []
 let o:=onceD l y.1 2
 if o.2=true then
  let i:=belowD l o.1 6
  let k:=belowD l i.1 6
  (k.1,(b.set i.2.toNat (b.getD k.2.toNat 0)).set k.2.toNat (b.getD i.2.toNat 0))
 else (o.1,b)
theorem lens7_6:∀k,k<7→(lens7.getD k []).length=6:=by decide
theorem l8D_yes {l:List Int} {c:Cr} (h:(onceD l (belowD l c 7).1 2).2=true):l8D l c=((belowD l (belowD l (onceD l (belowD l c 7).1 2).1 6).1 6).1,((lens7.getD (belowD l c 7).2.toNat []).set (belowD l (onceD l (belowD l c 7).1 2).1 6).2.toNat ((lens7.getD (belowD l c 7).2.toNat []).getD (belowD l (belowD l (onceD l (belowD l c 7).1 2).1 6).1 6).2.toNat 0)).set (belowD l (belowD l (onceD l (belowD l c 7).1 2).1 6).1 6).2.toNat ((lens7.getD (belowD l c 7).2.toNat []).getD (belowD l (onceD l (belowD l c 7).1 2).1 6).2.toNat 0)):=by
 unfold l8D;simp only;rw [if_pos h]
theorem l8D_no {l:List Int} {c:Cr} (h:¬(onceD l (belowD l c 7).1 2).2=true):l8D l c=((onceD l (belowD l c 7).1 2).1,lens7.getD (belowD l c 7).2.toNat []):=by
 unfold l8D;simp only;rw [if_neg h]
theorem l8D_ok {l:List Int} {c:Cr} (h:CrOk l c):CrOk l (l8D l c).1∧(l8D l c).2.length=6:=by
 have hb:=belowD_ok 7 h
 have ho:=onceD_ok 2 hb.1
 have h6:=lens7_6 (belowD l c 7).2.toNat (by have:=hb.2.1;have:=hb.2.2.1 (by decide);omega)
 by_cases hc:(onceD l (belowD l c 7).1 2).2=true
 ·rw [l8D_yes hc]
  exact ⟨(belowD_ok 6 (belowD_ok 6 ho).1).1,by simp only [List.length_set];exact h6⟩
 ·rw [l8D_no hc];exact ⟨ho,h6⟩
instance l8Lens_p:ConP 107 (∀ (v:Value) (l:List Int) (c:Cr),CrOk l c→Pn 107 v l c [] (l8D l c).1 [XI (l8D l c).2] (.own 1 0 0 (l8D l c).2.length)):=⟨fun v l c h=>by
 have hb:=belowD_ok 7 h
 have h70:=hb.2.1
 have h71:=hb.2.2.1 (by decide)
 have hlt:(belowD l c 7).2.toNat<lens7.length:=by show _<7;omega
 have h6:=lens7_6 (belowD l c 7).2.toNat (by omega)
 have h6':(lens7.getD (belowD l c 7).2.toNat default).length=6:=h6
 have ho:=onceD_ok 2 hb.1
 have hi:=belowD_ok 6 ho
 have hk:=belowD_ok 6 hi.1
 have hi1:=hi.2.2.1 (by decide)
 have hk1:=hk.2.2.1 (by decide)
 by_cases hc:(onceD l (belowD l c 7).1 2).2=true
 ·rw [l8D_yes hc]
  refine FnP.of_body tabOk Tryz.func107 Tryz.ntmps107 rfl (by decide +kernel) (by simp) rfl rfl rfl fun G hp=>?_
  refine go (r:=?_);and_intros<;>intros<;>try exact True.intro
  refine K.ld ?_
  refine WpL.loadOwnLi (M:=lens7) tabOk rfl rfl rfl rfl hlt (by decide) rfl ?_
  refine WpL.appInts tabOk rfl rfl rfl (Nat.le_refl 1) rfl rfl rfl rfl (by omega) (by decide) ?_
  rw [List.nil_append]
  refine WpL.weak (σ':=⟨[(0,.ptr 0 0 0),(20,.own 1 0 0 6)],[CurO v (belowD l c 7).1,XI (lens7.getD (belowD l c 7).2.toNat [])]⟩) (Weak.mk (.cons (.ptr rfl rfl rfl rfl .nil) (.cons (.own rfl rfl rfl rfl rfl (by omega) .nil) .nil)) (.cons (Re.same rfl rfl) (.inr rfl) (.cons (Re.same rfl (still_ints _)) (.inr rfl) .nil)) (Nat.le_of_ble_eq_true rfl)) ?_
  generalize lens7.getD (belowD l c 7).2.toNat []=b at h6 ⊢
  refine go (r:=?_);and_intros<;>intros<;>try exact True.intro
  all_goals first|(rename_i hg;rw [hc] at hg;cases hg;done)
 ·rw [l8D_no hc]
  refine FnP.of_body tabOk Tryz.func107 Tryz.ntmps107 rfl (by decide +kernel) (by simp) rfl rfl rfl fun G hp=>?_
  refine go (r:=?_);and_intros<;>intros<;>try exact True.intro
  refine K.ld ?_
  refine WpL.loadOwnLi (M:=lens7) tabOk rfl rfl rfl rfl hlt (by decide) rfl ?_
  refine WpL.appInts tabOk rfl rfl rfl (Nat.le_refl 1) rfl rfl rfl rfl (by omega) (by decide) ?_
  rw [List.nil_append]
  refine WpL.weak (σ':=⟨[(0,.ptr 0 0 0),(20,.own 1 0 0 6)],[CurO v (belowD l c 7).1,XI (lens7.getD (belowD l c 7).2.toNat [])]⟩) (Weak.mk (.cons (.ptr rfl rfl rfl rfl .nil) (.cons (.own rfl rfl rfl rfl rfl (by omega) .nil) .nil)) (.cons (Re.same rfl rfl) (.inr rfl) (.cons (Re.same rfl (still_ints _)) (.inr rfl) .nil)) (Nat.le_of_ble_eq_true rfl)) ?_
  generalize lens7.getD (belowD l c 7).2.toNat []=b at h6 ⊢
  refine go (r:=?_);and_intros<;>intros<;>try exact True.intro
  all_goals first|(rename_i hg;exact absurd hg hc)⟩
end Go.Proofs.YtndflfipaddfoaaGreat


namespace Go.Abs
open Go
theorem lrel_ints2 {S w ι O}:∀{xs:List Int} {us f},LRel S w ι O (ints xs) us f→us=xs.map (Value.int .i64)∧f=[]
 |[],us,f,h=>by cases h;exact ⟨rfl,rfl⟩
 |x::xs,us,f,h=>by
  cases h with
  |sc h=>obtain ⟨h1,h2⟩:=lrel_ints2 h;subst h1 h2;exact ⟨rfl,rfl⟩
theorem lrel_ints3 {S w ι O}:∀(xs:List Int),LRel S w ι O (ints xs) (xs.map (Value.int .i64)) []
 |[]=>.nil
 |x::xs=>.sc (lrel_ints3 xs)
theorem RelAt.pre {n m G S ι F T O a w} (hr:RelAt n m G S ι F ⟨T,O⟩ a w) {id j ep sz:Nat} {te:Option TypeId} {xs:List Int} (ho:O[id]?=some ⟨ints xs,ep,sz,te⟩):RelAt n m G S ι F ⟨T,O.set id ⟨ints (xs.take j),ep,sz,te⟩⟩ a w:=by
 have hid:id<O.length:=(List.getElem?_eq_some_iff.1 ho).1
 have hlat:Later S w ι O S w ι (O.set id ⟨ints (xs.take j),ep,sz,te⟩):=⟨fun _ h=>h,fun _ _=>rfl,fun i ob hi=>by
  by_cases e:i=id
  ·subst e;rw [ho] at hi;cases hi
   exact ⟨⟨ints (xs.take j),ep,sz,te⟩,by rw [List.getElem?_set_self hid],.inr ⟨rfl,rfl,rfl⟩⟩
  ·exact ⟨ob,by rw [List.getElem?_set,if_neg (fun h=>e h.symm)];exact hi,.inr ⟨rfl,rfl,rfl⟩⟩⟩
 refine ⟨hr.defers,hr.size,fun t=>(hr.tmps t).mono hlat (by simp),⟨fun i ob hi=>?_,fun i hi=>hr.objs.nodup i (by simpa using hi),fun i j' hi hj=>hr.objs.apart i j' (by simpa using hi) (by simpa using hj)⟩,fun i hi=>hr.foot i (by simpa using hi),hr.base,hr.stable,hr.keeps,hr.spots,by have:=hr.mle;simpa using this⟩
 have hi:(O.set id ⟨ints (xs.take j),ep,sz,te⟩)[i]?=some ob:=hi
 by_cases e:i=id
 ·subst e
  rw [List.getElem?_set_self hid] at hi;cases hi
  have h:=hr.objs.obj i _ ho
  unfold ObjAt at h ⊢
  cases hs:ι i with
  |none=>
   rw [hs] at h
   have h1:ints xs=[]:=h.1
   have:xs=[]:=by cases xs with|nil=>rfl|cons x xs=>cases h1
   subst this
   exact ⟨by simp [ints],h.2⟩
  |some p=>
   obtain ⟨b,k⟩:=p
   rw [hs] at h
   obtain ⟨cur,t,fz,f',h1,h2,h3,h4,h5,h6,h7⟩:=h
   obtain ⟨h8,h9⟩:=lrel_ints2 h7
   subst h9
   have hle:(xs.take j).length≤xs.length:=List.length_take_le' _ _
   have h4':xs.length≤k:=by simpa [ints] using h4
   refine ⟨cur,t,fz,[],h1,h2,h3,by show (ints (xs.take j)).length≤k;simp [ints];omega,h5,h6,?_⟩
   have e2:cur.toList.take (ints (xs.take j)).length=(xs.take j).map (Value.int .i64):=by
    have e3:(ints (xs.take j)).length=min j xs.length:=by simp [ints]
    have e4:cur.toList.take xs.length=xs.map (Value.int .i64):=by simpa [ints] using h8
    rw [e3,←List.take_take,e4,List.map_take]
   show LRel S w ι _ (ints (xs.take j)) (cur.toList.take (ints (xs.take j)).length) []
   rw [e2];exact lrel_ints3 _
 ·rw [List.getElem?_set,if_neg (fun h=>e h.symm)] at hi
  have h:=hr.objs.obj i ob hi
  unfold ObjAt at h ⊢
  cases hs:ι i with
  |none=>rw [hs] at h;exact h
  |some p=>
   obtain ⟨b,k⟩:=p
   rw [hs] at h
   obtain ⟨cur,t,fz,f',h1,h2,h3,h4,h5,h6,h7⟩:=h
   exact ⟨cur,t,fz,f',h1,h2,h3,h4,h5,h6,h7.mono hlat (fun _ _=>rfl)⟩
theorem Weak.pre {m id j ep sz:Nat} {T:List (Nat×AV)} {O:List AObj} {te:Option TypeId} {xs:List Int} (ho:O[id]?=some ⟨ints xs,ep,sz,te⟩):Weak m ⟨T,O⟩ ⟨T,O.set id ⟨ints (xs.take j),ep,sz,te⟩⟩:=by
 rintro n G a w ⟨S,ι,F,hr⟩
 exact ⟨S,ι,F,hr.pre ho⟩
section
variable {P:Program} {n m:Nat} {G:Ctx} {T:List (Nat×AV)} {O:List AObj} {Q:Exit→St→Prop} {ops:Array Oper} {l:List Oper} {d:Nat} {md:Bool} {tt:TypeId} {pos:String} {after:Array Edge} {tab:List (Nat×Ty)}
theorem WpL.subOwn (hP:TabOk P tab) {t e k b:Nat} {zs:List AV} {x y:Operand} {kk:IntKind} {id ep len j:Nat} {ob:AObj} (ht:tlook tab t=some (.slice e k b zs)) (hx:av T x=.own id ep 0 len) (ho:O[id]?=some ob) (he:ob.ep=ep) (hy:av T y=.sc (.int kk j)) (hj:j≤len) (hn:d<n)
 (h:WpL P n m G md ops l ⟨(d,.own id ep 0 j)::T,O⟩ Q):
 WpL P n m G md ops ({dst:=some d,op:=.slice t x none (some y) none,type:=tt,pos:=pos,after:=after,guard:=none}::l) ⟨T,O⟩ Q:=
 WpL.pure rfl rfl hn (fun S ι F a w hr=>by
  obtain ⟨hu,inf,z,hinf,_,hk,_,_,hk0,_⟩:=hP.slice ht
  have hv:=hr.eval x
  rw [show av (St.mk T O).T x=_ from hx] at hv
  have hye:=hr.sc hy
  have hown:OwnAt (ι id) ob.size 0 len (a.eval x):=by
   cases hv with
   |own q1 q2 q3 r=>
    rw [show (St.mk T O).O[id]?=some ob from ho] at q1
    cases q1
    exact q3 he.symm
  cases hs:ι id with
  |none=>
   rw [hs] at hown
   obtain ⟨hxe,h0,hl⟩:=hown
   have hj0:j=0:=by omega
   subst hj0
   refine ⟨.slice none 0 0,?_,.own ho (by omega) (fun _=>by rw [hs];exact ⟨rfl,rfl,rfl⟩) .nil⟩
   have hrun:(Instr.sliceAt t (.slice none 0 0) none (some (.int kk 0)) none).run P w=.ok (.slice none 0 0) w:=by
    simp [Instr.sliceAt,Instr.slice,run_underlying hu,Instr.sliceBounds,Instr.sliceBound,asIntOf,run_sizeOf hinf hk,Sem.run_bind]
   have hye':a.eval y=.int kk 0:=by rw [hye];rfl
   simp [execOp,hxe,hye',hrun,Sem.run_bind]
  |some p=>
   obtain ⟨bb,kb⟩:=p
   rw [hs] at hown
   obtain ⟨cap,hxe,h1,h2,h3⟩:=hown
   have hrun:=run_sliceSl hu hinf hk ⟨bb,0,none⟩ len cap none (some (.int kk j)) 0 j (.inl ⟨rfl,rfl⟩) (.inr ⟨kk,rfl⟩) (by omega) w
   have e1:(if cap=0 then (⟨bb,0,none⟩:Addr) else (⟨bb,0,none⟩:Addr).add (0*k))=⟨bb,0,none⟩:=by
    split
    ·rfl
    ·rw [addr_add];simp
   rw [e1,Nat.sub_zero,Nat.sub_zero] at hrun
   refine ⟨.slice (some ⟨bb,0,none⟩) j cap,by simp [execOp,hxe,hye,hrun,Sem.run_bind],.own ho (by omega) (fun _=>by rw [hs];exact ⟨cap,rfl,h1,by omega,h3⟩) .nil⟩) h
end
theorem split1 {Ov:List AObj} {a:AObj} (h0:Ov[0]?=some a):∃R,Ov=a::R:=by
 match Ov,h0 with
 |a'::R,h0=>simp at h0;exact ⟨R,by rw [h0]⟩
 |[],h=>simp at h
section
variable {m:Nat} {T:List (Nat×AV)} {O:List AObj} {tab:List (Nat×Ty)} {e':Exit} {r1 r2:ResultVar} {r1v r2v r:AV} {N:List AObj}
theorem FinG.oI (ids:List (Option Nat)) (he:endB e'=true) (hv:ResV tab T O r1 r1v) (hx:Ex O ids [r1v] [r]) (hN:NEx O ids N) (hd:nodupB (ids.filterMap id)=true) (hp:preB ids m 0=true):FinG tab m #[r1] N r e' ⟨T,O⟩:=FinG.e he (.one hv hN (nodupB_spec hd) hp hx)
end
end Go.Abs


namespace Go.Proofs.YtndflfipaddfoaaGreat
open Go Go.Abs
attribute [local irreducible] WpA WpL Rnd Blk Abs.Seq Abs.Fin Abs.FinG FnC FnG FnX FnP FinX Only
attribute [local irreducible] belowD onceD pickD modeD
abbrev any5:List Int:=[0,1,8,-1,7]
def l8AnyD (l:List Int) (c:Cr):Cr×List Int:=
 let y:=l8D l c
 let s:=belowD l y.1 12
 if s.2=0 then
  let i:=belowD l s.1 6
  let p:=pickD l i.1 any5
  (p.1,y.2.set i.2.toNat p.2)
 else if s.2=1 then (s.1,y.2.take 5) else (s.1,y.2)
theorem l8AnyD_0 {l:List Int} {c:Cr} (h:(belowD l (l8D l c).1 12).2=0):l8AnyD l c=((pickD l (belowD l (belowD l (l8D l c).1 12).1 6).1 any5).1,(l8D l c).2.set (belowD l (belowD l (l8D l c).1 12).1 6).2.toNat (pickD l (belowD l (belowD l (l8D l c).1 12).1 6).1 any5).2):=by
 unfold l8AnyD;simp only;rw [if_pos h]
theorem l8AnyD_1 {l:List Int} {c:Cr} (h:(belowD l (l8D l c).1 12).2=1):l8AnyD l c=((belowD l (l8D l c).1 12).1,(l8D l c).2.take 5):=by
 unfold l8AnyD;simp only;rw [if_neg (by omega),if_pos h]
theorem l8AnyD_2 {l:List Int} {c:Cr} (h:(belowD l (l8D l c).1 12).2≠0) (h1:(belowD l (l8D l c).1 12).2≠1):l8AnyD l c=((belowD l (l8D l c).1 12).1,(l8D l c).2):=by
 unfold l8AnyD;simp only;rw [if_neg h,if_neg h1]
theorem l8AnyD_ok {l:List Int} {c:Cr} (h:CrOk l c):CrOk l (l8AnyD l c).1∧(l8AnyD l c).2.length≤6:=by
 have h8:=l8D_ok h
 have hs:=belowD_ok 12 h8.1
 by_cases h0:(belowD l (l8D l c).1 12).2=0
 ·rw [l8AnyD_0 h0]
  exact ⟨(pickD_ok (belowD_ok 6 hs.1).1 (by decide)).1,by simp only [List.length_set];omega⟩
 ·by_cases h1:(belowD l (l8D l c).1 12).2=1
  ·rw [l8AnyD_1 h1];exact ⟨hs.1,by simp only [List.length_take];omega⟩
  ·rw [l8AnyD_2 h0 h1];exact ⟨hs.1,by simp only;omega⟩
instance l8Any_p:ConP 111 (∀ (v:Value) (l:List Int) (c:Cr),CrOk l c→Pn 111 v l c [] (l8AnyD l c).1 [XI (l8AnyD l c).2] (.own 1 0 0 (l8AnyD l c).2.length)):=⟨fun v l c h=>by
 have h8:=l8D_ok h
 have hs:=belowD_ok 12 h8.1
 have hi:=belowD_ok 6 hs.1
 have hi1:=hi.2.2.1 (by decide)
 have hi0:=hi.2.1
 by_cases h0:(belowD l (l8D l c).1 12).2=0
 ·rw [l8AnyD_0 h0]
  refine FnP.of_body tabOk Tryz.func111 Tryz.ntmps111 rfl (by decide +kernel) (by simp) rfl rfl rfl fun G hp=>?_
  refine go (r:=?_);and_intros<;>intros<;>try exact True.intro
  all_goals first|exact hi.1|exact hs.1|decide
 ·by_cases h1:(belowD l (l8D l c).1 12).2=1
  ·have e5:((l8D l c).2.take 5).length=5:=by rw [List.length_take,h8.2];rfl
   rw [l8AnyD_1 h1]
   simp only [e5]
   refine FnP.of_body tabOk Tryz.func111 Tryz.ntmps111 rfl (by decide +kernel) (by simp) rfl rfl rfl fun G hp=>?_
   refine go (r:=?_);and_intros<;>intros<;>try exact True.intro
   refine K.sl ?_
   refine WpL.subOwn (j:=5) tabOk rfl rfl rfl rfl rfl (by omega) (by decide) ?_
   refine WpL.weak (Weak.pre (id:=1) (j:=5) rfl) ?_
   refine go (r:=?_);and_intros<;>intros<;>try exact True.intro
   all_goals trace_state
  ·rw [l8AnyD_2 h0 h1]
   refine FnP.of_body tabOk Tryz.func111 Tryz.ntmps111 rfl (by decide +kernel) (by simp) rfl rfl rfl fun G hp=>?_
   refine go (r:=?_);and_intros<;>intros<;>try exact True.intro
   all_goals trace_state⟩
end Go.Proofs.YtndflfipaddfoaaGreat


namespace Go.Proofs.YtndflfipaddfoaaGreat
open Go Go.Abs
attribute [local irreducible] WpA WpL Rnd Blk Abs.Seq Abs.Fin FnC Only
@[irreducible] def In (l:List Int) (lo hi:Int):Prop:=∀v∈l,lo≤v∧v≤hi
instance (l:List Int) (lo hi:Int):Decidable (In l lo hi):=by unfold In;exact List.decidableBAll _ l
theorem in_get {l:List Int} {lo hi:Int} (h:In l lo hi) {k:Nat} (hk:k<l.length):lo≤l.getD k 0∧l.getD k 0≤hi:=by
 unfold In at h
 have:=h (l.getD k 0) (by simp [List.getElem?_eq_getElem hk])
 exact this
theorem notin {l:List Int} {lo hi:Int} {k:Nat} (hk:k<l.length) (h:¬(lo≤l.getD k 0∧l.getD k 0≤hi)):false=decide (In l lo hi):=by
 symm;rw [decide_eq_false_iff_not];exact fun hh=>h (in_get hh hk)
theorem in_snoc {l:List Int} {lo hi:Int} {k:Nat} (hk:k<l.length):In (l.take (k+1)) lo hi↔In (l.take k) lo hi∧lo≤l.getD k 0∧l.getD k 0≤hi:=by
 unfold In;rw [List.take_succ_eq_append_getElem hk,List.forall_mem_append];simp [List.getElem?_eq_getElem hk]
theorem in_nil (lo hi:Int):In [] lo hi:=by unfold In;intro v hv;cases hv
abbrev SidesOk (w h:Int):Prop:=8≤w∧w≤32∧8≤h∧h≤32∧w%8=0∧h%8=0
end Go.Proofs.YtndflfipaddfoaaGreat


namespace Go.Proofs.YtndflfipaddfoaaGreat
open Go Go.Abs
attribute [local irreducible] WpA WpL Rnd Blk Abs.Seq Abs.Fin Abs.FinG FnC FnG Only
theorem wrap64 (p:Int) (h:-9223372036854775808≤p∧p≤9223372036854775807):IntKind.i64.wrap p=p:=IntWalk.i64_in p h
def stepX (q:Int):Int:=IntKind.i64.wrap (([8,9,10,11,13,14]:List Int).getD (q%6).toNat 0*2 ^ (q/6).toNat)
def stepL (q:Int):Int:=if 0≤q∧q≤51 then stepX q/8 else 0
def cw (n:Int):Int:=if 0<n then 2 ^ (7-n).toNat else 0
theorem cw_bd (n:Int):0≤cw n:=by unfold cw;split<;>first|exact Int.le_of_lt (Int.pow_pos (by decide))|omega
theorem cw_wrap (n:Int) (h:0≤n∧n≤7) (h0:n>0):IntKind.i64.wrap (1*2 ^ (7-n).toNat)=cw n∧1≤cw n∧cw n≤64:=by
 have key:∀k:Fin 8,0<k.val→IntKind.i64.wrap (1*2 ^ (7-(k.val:Int)).toNat)=cw k.val∧1≤cw k.val∧cw k.val≤64:=by decide
 obtain ⟨k,rfl⟩:∃k:Nat,n=k:=⟨n.toNat,by omega⟩
 exact key ⟨k,by omega⟩ (show 0<k by omega)
def csum (l:List Int):Int:=(l.map cw).sum
theorem csum_snoc (l:List Int) (k:Nat) (h:k<l.length):csum (l.take (k+1))=csum (l.take k)+cw (l.getD k 0):=by
 unfold csum;rw [List.take_succ_eq_append_getElem h,List.map_append,List.sum_append];simp [h]
def CodeOk (l:List Int):Prop:=In l 0 7∧l.length=6∧csum l=128
instance (l:List Int):Decidable (CodeOk l):=by unfold CodeOk;infer_instance
instance CodeOk_s:Con 53 (∀ l:List Int,l.length≤1099511627776→Fn 53 [IL l] [] (B (decide (CodeOk l)))):=⟨fun l hl=>by
 refine FnC.of_body tabOk Tryz.func53 Tryz.ntmps53 rfl (by decide +kernel) (by simp) fun G=>?_
 refine go (r:=?_);and_intros<;>intros<;>try exact True.intro
 refine WpA.loop (fun k:Nat=>⟨[(0,IL l),(3,I (csum (l.take k))),(4,I k)],[]⟩) (fun k=>k≤l.length∧In (l.take k) 0 7∧0≤csum (l.take k)∧csum (l.take k)≤64*k) (fun k=>l.length-k) 0 (by simp [in_nil,csum]) (go (r:=?_)) (fun k hk=>?_)
 ·simp [csum]
 have hs:=fun h=>csum_snoc l k h
 have hi:=fun h=>in_snoc (lo:=0) (hi:=7) (l:=l) (k:=k) h
 have hw:=cw_wrap (l.getD k 0)
 have hw0:¬l.getD k 0>0→cw (l.getD k 0)=0:=fun h=>by unfold cw;rw [if_neg (by omega)]
 refine go (r:=?_);and_intros<;>intros<;>try exact True.intro
 ·have:=notin (k:=k) (by omega) ‹¬ (0≤l.getD k 0∧_)›;rw [eq_comm,decide_eq_false_iff_not] at *;exact fun h=>this h.1
 ·rw [hi (by omega)];exact ⟨hk.2.1,‹_›⟩
 ·rw [hi (by omega)];exact ⟨hk.2.1,‹_›⟩
 all_goals have e:k=l.length:=by omega
 all_goals subst e
 all_goals rw [List.take_length] at*
 ·have h6:l.length=6:=by omega
  simp [CodeOk,hk.2.1,h6]
 ·have h6:¬l.length=6:=by omega
  simp [CodeOk,h6]⟩
instance CodeOk_c:Con 182 (∀ l:List Int,l.length≤1099511627776→Fn 182 [IL l] [] (B (decide (CodeOk l)))):=⟨fun l hl=>by
 refine FnC.of_body tabOk Tryz.func182 Tryz.ntmps182 rfl (by decide +kernel) (by simp) fun G=>?_
 refine go (r:=?_);and_intros<;>intros<;>try exact True.intro
 refine WpA.loop (fun k:Nat=>⟨[(0,IL l),(3,I (csum (l.take k))),(6,IL l),(7,I l.length),(8,I k)],[]⟩) (fun k=>k≤l.length∧In (l.take k) 0 7∧0≤csum (l.take k)∧csum (l.take k)≤64*k) (fun k=>l.length-k) 0 (by simp [in_nil,csum]) (go (r:=?_)) (fun k hk=>?_)
 ·simp [csum]
 have hs:=fun h=>csum_snoc l k h
 have hi:=fun h=>in_snoc (lo:=0) (hi:=7) (l:=l) (k:=k) h
 have hw:=cw_wrap (l.getD k 0)
 have hw0:¬l.getD k 0>0→cw (l.getD k 0)=0:=fun h=>by unfold cw;rw [if_neg (by omega)]
 refine go (r:=?_);and_intros<;>intros<;>try exact True.intro
 ·have:=notin (k:=k) (by omega) ‹¬ (0≤l.getD k 0∧_)›;rw [eq_comm,decide_eq_false_iff_not] at *;exact fun h=>this h.1
 ·rw [hi (by omega)];exact ⟨hk.2.1,‹_›⟩
 ·rw [hi (by omega)];exact ⟨hk.2.1,‹_›⟩
 all_goals have e:k=l.length:=by omega
 all_goals subst e
 all_goals rw [List.take_length] at*
 ·have h6:l.length=6:=by omega
  simp [CodeOk,hk.2.1,h6]
 ·have h6:¬l.length=6:=by omega
  simp [CodeOk,h6]⟩
def cIn (w:Int) (l:List Int):Nat→List Int×Int→List Int×Int
 |0,s=>s
 |i+1,s=>if l.getD i 0=w then ((cIn w l i s).1.set i (cIn w l i s).2,(cIn w l i s).2+1) else cIn w l i s
def cOut (l:List Int):Nat→List Int×Int
 |0=>(List.replicate l.length (-1),0)
 |w+1=>cIn ((w:Int)+1) l l.length ((cOut l w).1,(cOut l w).2*2)
def codes (l:List Int):List Int:=(cOut l 7).1
theorem cIn_len (w:Int) (l:List Int):∀(i:Nat) (s:List Int×Int),(cIn w l i s).1.length=s.1.length
 |0,s=>rfl
 |i+1,s=>by
  rw [cIn];split
  ·rw [List.length_set];exact cIn_len w l i s
  ·exact cIn_len w l i s
theorem cOut_len (l:List Int):∀w,(cOut l w).1.length=l.length
 |0=>by simp [cOut]
 |w+1=>by rw [cOut,cIn_len,cOut_len l w]
theorem codes_len (l:List Int):(codes l).length=l.length:=cOut_len l 7
theorem cIn_bd (w:Int) (l:List Int):∀(i:Nat) (s:List Int×Int),s.2≤(cIn w l i s).2∧(cIn w l i s).2≤s.2+i
 |0,s=>by simp [cIn]
 |i+1,s=>by rw [cIn];have:=cIn_bd w l i s;split<;>first|(simp only;omega)|omega
theorem cOut_bd (l:List Int) (h:l.length=6):∀w,0≤(cOut l w).2∧(cOut l w).2≤6*(2 ^ w-1)
 |0=>by simp [cOut]
 |w+1=>by
  rw [cOut]
  have h1:=cIn_bd ((w:Int)+1) l l.length ((cOut l w).1,(cOut l w).2*2)
  have h2:=cOut_bd l h w
  simp only at h1
  rw [Int.pow_succ];omega
theorem cOut_bd7 (l:List Int) (h:l.length=6) (w:Nat) (hw:w≤7):0≤(cOut l w).2∧(cOut l w).2≤768:=by
 have h1:=cOut_bd l h w
 have:(2:Int) ^ w≤2 ^ 7:=by
  have:=Nat.pow_le_pow_right (n:=2) (by decide) hw
  exact_mod_cast this
 omega
def codesR (l:List Int):List Int:=if CodeOk l then codes l else []
theorem codesR_len (l:List Int) (h:CodeOk l):(codesR l).length=6:=by rw [codesR,if_pos h,codes_len,h.2.1]
theorem codesR_ok (l:List Int) (h:CodeOk l):codesR l=codes l:=by rw [codesR,if_pos h]
theorem codesR_no (l:List Int) (h:¬CodeOk l):codesR l=[]:=by rw [codesR,if_neg h]
theorem cIn_yes {w:Int} {l:List Int} {i:Nat} {s:List Int×Int} (h:l.getD i 0=w):cIn w l (i+1) s=((cIn w l i s).1.set i (cIn w l i s).2,(cIn w l i s).2+1):=by rw [cIn,if_pos h]
theorem cIn_no {w:Int} {l:List Int} {i:Nat} {s:List Int×Int} (h:¬l.getD i 0=w):cIn w l (i+1) s=cIn w l i s:=by rw [cIn,if_neg h]
instance CodesOf_s:Con 122 (∀ l:List Int,l.length≤1099511627776→Fn 122 [IL l] [XI (codesR l)] (.own 0 0 0 (codesR l).length)):=⟨fun l hl=>by
 refine FnC.of_body tabOk Tryz.func122 Tryz.ntmps122 rfl (by decide +kernel) (by simp) fun G=>?_
 refine go (r:=?_);and_intros<;>intros<;>try exact True.intro
 ·rw [codesR_no l ‹_›];rfl
 ·rw [codesR_no l ‹_›]
 have hok:CodeOk l:=‹_›
 have h6:=hok.2.1
 refine WpA.loop (fun k:Nat=>⟨[(0,IL l),(3,.own 0 0 0 k),(4,I k)],[XI (List.replicate k (-1))]⟩) (fun k=>k≤l.length) (fun k=>l.length-k) 0 (by simp) (go (r:=trivial)) (fun k hk=>?_)
 refine go (r:=?_);and_intros<;>intros<;>try exact True.intro
 ·rw [List.replicate_succ']
 have e:k=l.length:=by omega
 subst e
 refine WpA.loop (fun w:Nat=>⟨[(0,IL l),(3,.own 0 0 0 l.length),(5,I (cOut l w).2),(6,I ((w:Int)+1))],[XI (cOut l w).1]⟩) (fun w=>w≤7) (fun w=>7-w) 0 (by simp) (go (r:=?_)) (fun w hw=>?_)
 ·simp [cOut]
 have hb:=cOut_bd7 l h6 w hw
 refine go (r:=?_);and_intros<;>intros<;>try exact True.intro
 ·refine WpA.loop (fun i:Nat=>⟨[(0,IL l),(3,.own 0 0 0 l.length),(5,I (cIn ((w:Int)+1) l i ((cOut l w).1,(cOut l w).2*2)).2),(6,I ((w:Int)+1)),(7,I i)],[XI (cIn ((w:Int)+1) l i ((cOut l w).1,(cOut l w).2*2)).1]⟩) (fun i=>i≤l.length) (fun i=>l.length-i) 0 (by simp) (go (r:=?_)) (fun i hi=>?_)
  ·simp [cIn]
  have hb2:=cIn_bd ((w:Int)+1) l i ((cOut l w).1,(cOut l w).2*2)
  have hl2:=cIn_len ((w:Int)+1) l i ((cOut l w).1,(cOut l w).2*2)
  have hl3:=cOut_len l w
  simp only at hb2 hl2
  refine go (r:=?_);and_intros<;>intros<;>try exact True.intro
  ·rw [cIn_yes (by assumption)]
  ·rw [cIn_yes (by assumption)];rfl
  ·rw [cIn_no (by assumption)]
  ·rw [cIn_no (by assumption)]
  all_goals have e:i=l.length:=by omega
  all_goals subst e;rfl
 all_goals have e:w=7:=by omega
 all_goals subst e
 ·rw [codesR_len l hok,h6]
 ·rw [codesR_ok l hok];rfl⟩
instance CodesOf_c:ConB 265 (∀ l:List Int,l.length≤1099511627776→Bn 265 [IL l] (CodeOk l) [XI (codes l)] (.own 0 0 0 6) [] .nilS):=⟨fun l hl=>by
 refine ⟨fun hok=>?_,fun hno=>?_⟩
 ·have h6:=hok.2.1
  refine FnC.of_body tabOk Tryz.func265 Tryz.ntmps265 rfl (by decide +kernel) (by simp) fun G=>?_
  refine go (r:=?_);and_intros<;>intros<;>try exact True.intro
  all_goals first|(exact absurd hok ‹¬ CodeOk l›)|skip
  refine WpA.loop (fun w:Nat=>⟨[(0,IL l),(3,.own 0 0 0 l.length),(4,I (cOut l w).2),(5,I ((w:Int)+1))],[XI (cOut l w).1]⟩) (fun w=>w≤7) (fun w=>7-w) 0 (by simp) (go (r:=?_)) (fun w hw=>?_)
  ·simp [cOut,h6]
  have hb:=cOut_bd7 l h6 w hw
  have hsh:IntKind.i64.wrap ((cOut l w).2*2)=(cOut l w).2*2:=wrap64 _ (by omega)
  refine go (r:=?_);and_intros<;>intros<;>try exact True.intro
  ·refine WpA.loop (fun i:Nat=>⟨[(0,IL l),(3,.own 0 0 0 l.length),(4,I (cIn ((w:Int)+1) l i ((cOut l w).1,(cOut l w).2*2)).2),(5,I ((w:Int)+1)),(18,IL l),(19,I l.length),(20,I i)],[XI (cIn ((w:Int)+1) l i ((cOut l w).1,(cOut l w).2*2)).1]⟩) (fun i=>i≤l.length) (fun i=>l.length-i) 0 (by simp) (go (r:=?_)) (fun i hi=>?_)
   ·simp [cIn,hsh]
   have hb2:=cIn_bd ((w:Int)+1) l i ((cOut l w).1,(cOut l w).2*2)
   have hl2:=cIn_len ((w:Int)+1) l i ((cOut l w).1,(cOut l w).2*2)
   have hl3:=cOut_len l w
   simp only at hb2 hl2
   refine go (r:=?_);and_intros<;>intros<;>try exact True.intro
   ·rw [cIn_yes (by assumption)]
   ·rw [cIn_yes (by assumption)];rfl
   ·rw [cIn_no (by assumption)]
   ·rw [cIn_no (by assumption)]
   all_goals have e:i=l.length:=by omega
   all_goals subst e;rfl
  all_goals have e:w=7:=by omega
  all_goals subst e;rfl
 ·refine FnC.of_body tabOk Tryz.func265 Tryz.ntmps265 rfl (by decide +kernel) (by simp) fun G=>?_
  refine go (r:=?_);and_intros<;>intros<;>try exact True.intro
  all_goals exact absurd ‹CodeOk l› hno⟩
def bitOk (n w:Int):Prop:=(0≤w∧w≤48)∧0≤n∧n/2 ^ w.toNat=0
instance (n w:Int):Decidable (bitOk n w):=by unfold bitOk;infer_instance
def bitsR (n:Int) (w:Nat) (k:Nat):List Int:=(List.range k).map fun j:Nat=>n/2 ^ (w-1-j)%2
def bitsL (n w:Int):List Int:=if bitOk n w then bitsR n w.toNat w.toNat else []
theorem bitsR_len (n:Int) (w k:Nat):(bitsR n w k).length=k:=by simp [bitsR]
theorem bitsR_snoc (n:Int) (w k:Nat):bitsR n w (k+1)=bitsR n w k++[n/2 ^ (w-1-k)%2]:=by simp [bitsR,List.range_succ]
theorem bitsL_len (n w:Int):(bitsL n w).length≤48:=by
 unfold bitsL;split
 ·rename_i h;rw [bitsR_len];have:=h.1;omega
 ·simp
theorem low1 (k:Int) (h:0≤k∧k≤9223372036854775807):IntKind.i64.wrap ((BitVec.ofInt IntKind.i64.bits k &&& BitVec.ofInt IntKind.i64.bits 1).toNat:Nat)=k%2:=by
 obtain ⟨m,rfl⟩:∃m:Nat,k=m:=⟨k.toNat,by omega⟩
 have e1:(BitVec.ofInt IntKind.i64.bits (m:Int)).toNat=m:=by simp only [IntKind.bits,BitVec.toNat_ofInt];omega
 have e:(BitVec.ofInt IntKind.i64.bits (m:Int) &&& BitVec.ofInt IntKind.i64.bits 1).toNat=m%2:=by
  rw [BitVec.toNat_and,e1,show (BitVec.ofInt IntKind.i64.bits (1:Int)).toNat=2 ^ 1-1 from by decide,Nat.and_two_pow_sub_one_eq_mod]
 rw [e,wrap64 _ (by omega)];omega
theorem shr_bd (n:Int) (k:Nat) (h:0≤n):0≤n/2 ^ k∧n/2 ^ k≤n:=by
 constructor
 ·exact Int.ediv_nonneg h (Int.le_of_lt (Int.pow_pos (by decide)))
 ·exact Int.ediv_le_self _ h
instance BitsIn_s:Con 187 (∀ n w:Int,n≤9223372036854775807→Fn 187 [I n,I w] [XI (bitsL n w)] (.own 0 0 0 (bitsL n w).length)):=⟨fun n w hn=>by
 refine FnC.of_body tabOk Tryz.func187 Tryz.ntmps187 rfl (by decide +kernel) (by simp) fun G=>?_
 refine go (r:=?_);and_intros<;>intros<;>try exact True.intro
 all_goals first|(rw [bitsL,if_neg (by unfold bitOk;omega)];done)|(rw [bitsL,if_neg (by unfold bitOk;omega)];rfl)|skip
 have hok:bitOk n w:=⟨‹_›,by omega,‹_›⟩
 obtain ⟨⟨h0,h48⟩,hn0,_⟩:=id hok
 obtain ⟨W,rfl⟩:∃W:Nat,w=W:=⟨w.toNat,by omega⟩
 refine WpA.loop (fun k:Nat=>⟨[(0,I n),(5,.own 0 0 0 k),(6,I ((W:Int)-1-k))],[XI (bitsR n W k)]⟩) (fun k=>k≤W) (fun k=>W-k) 0 (by simp) (go (r:=?_)) (fun k hk=>?_)
 ·simp [bitsR]
 have hl:=bitsR_len n W k
 have hb:=shr_bd n ((W:Int)-1-k).toNat hn0
 refine go (r:=?_);and_intros<;>intros<;>try exact True.intro
 ·rw [bitsR_snoc,low1 _ (by omega)];congr 6;omega
 all_goals have e:k=W:=by omega
 all_goals subst e
 ·rw [bitsL,if_pos hok,bitsR_len];rfl
 ·rw [bitsL,if_pos hok];rfl⟩
instance BitsIn_c:Con 257 (∀ n w:Int,n≤9223372036854775807→Fn 257 [I n,I w] [XI (bitsL n w)] (.own 0 0 0 (bitsL n w).length)):=⟨fun n w hn=>by
 refine FnC.of_body tabOk Tryz.func257 Tryz.ntmps257 rfl (by decide +kernel) (by simp) fun G=>?_
 refine go (r:=?_);and_intros<;>intros<;>try exact True.intro
 all_goals first|(rw [bitsL,if_neg (by unfold bitOk;omega)];done)|(rw [bitsL,if_neg (by unfold bitOk;omega)];rfl)|skip
 have hok:bitOk n w:=⟨‹_›,by omega,‹_›⟩
 obtain ⟨⟨h0,h48⟩,hn0,_⟩:=id hok
 obtain ⟨W,rfl⟩:∃W:Nat,w=W:=⟨w.toNat,by omega⟩
 refine WpA.loop (fun k:Nat=>⟨[(0,I n),(5,.own 0 0 0 k),(6,I ((W:Int)-1-k))],[XI (bitsR n W k)]⟩) (fun k=>k≤W) (fun k=>W-k) 0 (by simp) (go (r:=?_)) (fun k hk=>?_)
 ·simp [bitsR]
 have hl:=bitsR_len n W k
 have hb:=shr_bd n ((W:Int)-1-k).toNat hn0
 refine go (r:=?_);and_intros<;>intros<;>try exact True.intro
 ·rw [bitsR_snoc,low1 _ (by omega)];congr 6;omega
 all_goals have e:k=W:=by omega
 all_goals subst e
 ·rw [bitsL,if_pos hok,bitsR_len];rfl
 ·rw [bitsL,if_pos hok];rfl⟩
def OptOk (q:Int) (l:List Int):Prop:=(0≤q∧q≤51)∧CodeOk l
instance (q:Int) (l:List Int):Decidable (OptOk q l):=by unfold OptOk;infer_instance
end Go.Proofs.YtndflfipaddfoaaGreat


namespace Go.Proofs.YtndflfipaddfoaaGreat
open Go Go.Abs
def Dn (l:List Int) (w:Int) (i m:Nat):Prop:=(1≤l.getD m 0∧l.getD m 0<w)∨(l.getD m 0=w∧m<i)
def hit (c l:List Int) (m:Nat) (v:Int):Prop:=c.getD m 0*cw (l.getD m 0)≤v∧v<(c.getD m 0+1)*cw (l.getD m 0)
structure J (l:List Int) (w p:Int) (i:Nat) (s:List Int×Int):Prop where
 len:s.1.length=l.length
 lo:0≤s.2
 cod:∀m,m<l.length→Dn l w i m→0≤s.1.getD m 0∧(s.1.getD m 0+1)*cw (l.getD m 0)≤s.2*p
 cov:∀v,0≤v→v<s.2*p→∃m,m<l.length∧Dn l w i m∧hit s.1 l m v
 uni:∀m m' v,m<l.length→m'<l.length→Dn l w i m→Dn l w i m'→hit s.1 l m v→hit s.1 l m' v→m=m'
theorem getD_set (c:List Int) (i m:Nat) (v:Int) (h:i<c.length):(c.set i v).getD m 0=if m=i then v else c.getD m 0:=by
 rw [List.getD_eq_getElem?_getD,List.getElem?_set]
 by_cases e:i=m
 ·subst e;simp [h]
 ·have:¬m=i:=fun h=>e h.symm
  simp [e,this]
theorem J.step {l:List Int} {w p:Int} {i:Nat} {s:List Int×Int} (h:J l w p i s) (hi:i<l.length) (hp:cw w=p) (hp0:0<p) (hw:1≤w):
 J l w p (i+1) (if l.getD i 0=w then (s.1.set i s.2,s.2+1) else s):=by
 by_cases e:l.getD i 0=w
 ·rw [if_pos e]
  have hl:=h.len
  have hmul:(s.2+1)*p=s.2*p+p:=by rw [Int.add_mul,Int.one_mul]
  have hD:∀m,Dn l w (i+1) m↔Dn l w i m∨m=i:=by
   intro m;unfold Dn;constructor
   ·rintro (h|⟨h1,h2⟩)
    ·exact .inl (.inl h)
    ·by_cases hm:m=i
     ·exact .inr hm
     ·exact .inl (.inr ⟨h1,by omega⟩)
   ·rintro ((h|⟨h1,h2⟩)|rfl)
    ·exact .inl h
    ·exact .inr ⟨h1,by omega⟩
    ·exact .inr ⟨e,by omega⟩
  have hne:∀m,Dn l w i m→m≠i:=by
   rintro m (h|⟨_,h⟩) rfl
   ·omega
   ·omega
  have hg:∀m,(s.1.set i s.2).getD m 0=if m=i then s.2 else s.1.getD m 0:=fun m=>getD_set s.1 i m s.2 (by omega)
  have hhit:∀m v,m≠i→(hit (s.1.set i s.2) l m v↔hit s.1 l m v):=by intro m v hm;unfold hit;rw [hg,if_neg hm]
  have hhi:∀v,hit (s.1.set i s.2) l i v↔s.2*p≤v∧v<s.2*p+p:=by intro v;unfold hit;rw [hg,if_pos rfl,e,hp,hmul]
  refine ⟨by simp [hl],by have:=h.lo;simp only;omega,fun m hm hd=>?_,fun v h0 hv=>?_,fun m m' v hm hm' hd hd' h1 h2=>?_⟩
  ·show 0≤(s.1.set i s.2).getD m 0∧((s.1.set i s.2).getD m 0+1)*_≤(s.2+1)*p
   rw [hg,hmul]
   rcases (hD m).1 hd with hd|rfl
   ·rw [if_neg (hne m hd)];have:=h.cod m hm hd;omega
   ·rw [if_pos rfl,e,hp,hmul];have:=h.lo;omega
  ·have hv:v<(s.2+1)*p:=hv
   rw [hmul] at hv
   by_cases hlt:v<s.2*p
   ·obtain ⟨m,h1,h2,h3⟩:=h.cov v h0 hlt
    exact ⟨m,h1,(hD m).2 (.inl h2),(hhit m v (hne m h2)).2 h3⟩
   ·exact ⟨i,hi,(hD i).2 (.inr rfl),(hhi v).2 ⟨by omega,hv⟩⟩
  ·rcases (hD m).1 hd with d1|rfl<;>rcases (hD m').1 hd' with d2|e2
   ·exact h.uni m m' v hm hm' d1 d2 ((hhit m v (hne m d1)).1 h1) ((hhit m' v (hne m' d2)).1 h2)
   ·subst e2
    have a:=(hhit m v (hne m d1)).1 h1
    have b:=(hhi v).1 h2
    have c:=h.cod m hm d1
    unfold hit at a;omega
   ·have a:=(hhit m' v (hne m' d2)).1 h2
    have b:=(hhi v).1 h1
    have c:=h.cod m' hm' d2
    unfold hit at a;omega
   ·exact e2.symm
 ·rw [if_neg e]
  have hD:∀m,Dn l w (i+1) m↔Dn l w i m:=by
   intro m;unfold Dn;constructor
   ·rintro (h|⟨h1,h2⟩)
    ·exact .inl h
    ·refine .inr ⟨h1,?_⟩
     have:m≠i:=by rintro rfl;exact e h1
     omega
   ·rintro (h|⟨h1,h2⟩)
    ·exact .inl h
    ·exact .inr ⟨h1,by omega⟩
  exact ⟨h.len,h.lo,fun m hm hd=>h.cod m hm ((hD m).1 hd),fun v h0 hv=>by
   obtain ⟨m,h1,h2,h3⟩:=h.cov v h0 hv
   exact ⟨m,h1,(hD m).2 h2,h3⟩,fun m m' v hm hm' hd hd'=>h.uni m m' v hm hm' ((hD m).1 hd) ((hD m').1 hd')⟩
theorem J.level {l:List Int} {w p q:Int} {s:List Int×Int} (h:J l w p l.length s) (hpq:p=2*q) (hw:1≤w):J l (w+1) q 0 (s.1,s.2*2):=by
 have e:s.2*2*q=s.2*p:=by rw [hpq,Int.mul_assoc]
 have hD:∀m,m<l.length→(Dn l (w+1) 0 m↔Dn l w l.length m):=by
  intro m hm;unfold Dn;constructor
  ·rintro (h|⟨h1,h2⟩)
   ·by_cases hw:l.getD m 0=w
    ·exact .inr ⟨hw,hm⟩
    ·exact .inl (by omega)
   ·omega
  ·rintro (h|⟨h1,h2⟩)
   ·exact .inl (by omega)
   ·exact .inl (by omega)
 refine ⟨h.len,?_,fun m hm hd=>?_,fun v h0 hv=>?_,fun m m' v hm hm' hd hd'=>h.uni m m' v hm hm' ((hD m hm).1 hd) ((hD m' hm').1 hd')⟩
 ·show 0≤s.2*2
  have:=h.lo;omega
 ·show 0≤s.1.getD m 0∧_≤s.2*2*q
  rw [e];exact h.cod m hm ((hD m hm).1 hd)
 ·have hv:v<s.2*2*q:=hv
  rw [e] at hv
  obtain ⟨m,h1,h2,h3⟩:=h.cov v h0 hv
  exact ⟨m,h1,(hD m h1).2 h2,h3⟩
theorem J.inn {l:List Int} {w p:Int} {s:List Int×Int} (h:J l w p 0 s) (hp:cw w=p) (hp0:0<p) (hw:1≤w):∀i,i≤l.length→J l w p i (cIn w l i s)
 |0,_=>h
 |i+1,hi=>by rw [cIn];exact J.step (J.inn h hp hp0 hw i (by omega)) (by omega) hp hp0 hw
theorem J7 (l:List Int):J l 7 1 l.length (cOut l 7):=by
 have j0:J l 1 64 0 ((cOut l 0).1,(cOut l 0).2*2):=by
  refine ⟨by simp [cOut],by simp [cOut],fun m hm hd=>?_,fun v h0 hv=>?_,fun m m' v hm hm' hd=>?_⟩
  ·unfold Dn at hd;omega
  ·have:v<0:=by simpa [cOut] using hv
   omega
  ·unfold Dn at hd;omega
 have j1:=(J.inn j0 (by decide) (by decide) (by decide) l.length (Nat.le_refl _)).level (q:=32) (by decide) (by decide)
 have j2:=(J.inn j1 (by decide) (by decide) (by decide) l.length (Nat.le_refl _)).level (q:=16) (by decide) (by decide)
 have j3:=(J.inn j2 (by decide) (by decide) (by decide) l.length (Nat.le_refl _)).level (q:=8) (by decide) (by decide)
 have j4:=(J.inn j3 (by decide) (by decide) (by decide) l.length (Nat.le_refl _)).level (q:=4) (by decide) (by decide)
 have j5:=(J.inn j4 (by decide) (by decide) (by decide) l.length (Nat.le_refl _)).level (q:=2) (by decide) (by decide)
 have j6:=(J.inn j5 (by decide) (by decide) (by decide) l.length (Nat.le_refl _)).level (q:=1) (by decide) (by decide)
 exact J.inn j6 (by decide) (by decide) (by decide) l.length (Nat.le_refl _)
theorem cIn_cnt (w:Int) (l:List Int) (s:List Int×Int):∀i,i≤l.length→(cIn w l i s).2=s.2+((l.take i).count w:Nat)
 |0,_=>by simp [cIn]
 |i+1,hi=>by
  have ih:=cIn_cnt w l s i (by omega)
  rw [cIn,List.take_succ_eq_append_getElem (by omega),List.count_append]
  have e:l.getD i 0=l[i]:=by simp [show i<l.length by omega]
  rw [e]
  by_cases h:l[i]=w
  ·rw [if_pos h];simp only [h,List.count_singleton_self];omega
  ·rw [if_neg h];simp only [List.count_singleton,beq_iff_eq,h,if_false];omega
theorem csum_cnt (l:List Int) (h:In l 0 7):csum l=64*(l.count 1:Nat)+32*(l.count 2:Nat)+16*(l.count 3:Nat)+8*(l.count 4:Nat)+4*(l.count 5:Nat)+2*(l.count 6:Nat)+(l.count 7:Nat):=by
 induction l with
 |nil=>simp [csum]
 |cons x l ih=>
  have hx:0≤x∧x≤7:=by unfold In at h;exact h x (by simp)
  have ih:=ih (by unfold In at *;exact fun v hv=>h v (List.mem_cons_of_mem _ hv))
  have hc:csum (x::l)=cw x+csum l:=by unfold csum;simp
  have key:∀k:Fin 8,cw (k.val:Int)+csum l=64*((((k.val:Int)::l).count 1:Nat):Int)+32*(((k.val:Int)::l).count 2:Nat)+16*(((k.val:Int)::l).count 3:Nat)+8*(((k.val:Int)::l).count 4:Nat)+4*(((k.val:Int)::l).count 5:Nat)+2*(((k.val:Int)::l).count 6:Nat)+(((k.val:Int)::l).count 7:Nat):=by
   have c0:cw 0=0:=by decide
   have c1:cw 1=64:=by decide
   have c2:cw 2=32:=by decide
   have c3:cw 3=16:=by decide
   have c4:cw 4=8:=by decide
   have c5:cw 5=4:=by decide
   have c6:cw 6=2:=by decide
   have c7:cw 7=1:=by decide
   rintro ⟨k,hk⟩
   rcases (by omega:k=0∨k=1∨k=2∨k=3∨k=4∨k=5∨k=6∨k=7) with rfl|rfl|rfl|rfl|rfl|rfl|rfl|rfl<;>simp [List.count_cons,c0,c1,c2,c3,c4,c5,c6,c7]<;>omega
  obtain ⟨k,rfl⟩:∃k:Nat,x=k:=⟨x.toNat,by omega⟩
  rw [hc];exact key ⟨k,by omega⟩
theorem next7 (l:List Int) (h:In l 0 7):(cOut l 7).2=csum l:=by
 have e:∀w,(cOut l (w+1)).2=(cOut l w).2*2+(l.count ((w:Int)+1):Nat):=by
  intro w;rw [cOut,cIn_cnt _ _ _ _ (Nat.le_refl _),List.take_length]
 have e1:=e 0;have e2:=e 1;have e3:=e 2;have e4:=e 3;have e5:=e 4;have e6:=e 5;have e7:=e 6
 have e0:(cOut l 0).2=0:=rfl
 rw [csum_cnt l h]
 simp only [Nat.reduceAdd,Int.natCast_zero,Int.reduceAdd,Int.zero_add] at e1 e2 e3 e4 e5 e6 e7
 simp only [show ((1:Nat):Int)+1=2 from rfl,show ((2:Nat):Int)+1=3 from rfl,show ((3:Nat):Int)+1=4 from rfl,show ((4:Nat):Int)+1=5 from rfl,show ((5:Nat):Int)+1=6 from rfl,show ((6:Nat):Int)+1=7 from rfl] at e1 e2 e3 e4 e5 e6 e7
 omega
theorem code_in {l:List Int} (h:CodeOk l) {m:Nat} (hm:m<6):0≤l.getD m 0∧l.getD m 0≤7:=by
 have h6:=h.2.1
 exact in_get h.1 (by omega)
theorem code_fit {l:List Int} (h:CodeOk l) {m:Nat} (hm:m<6) (h1:l.getD m 0≠0):0≤(codes l).getD m 0∧((codes l).getD m 0+1)*cw (l.getD m 0)≤128:=by
 have h6:=h.2.1
 have hb:=code_in h hm
 have:=(J7 l).cod m (by omega) (by unfold Dn;omega)
 rw [next7 l h.1,h.2.2] at this
 simpa [codes] using this
theorem code_lt {l:List Int} (h:CodeOk l) {m:Nat} (hm:m<6) (h1:l.getD m 0≠0):(codes l).getD m 0<2 ^ (l.getD m 0).toNat:=by
 have hb:=code_in h hm
 have hf:=(code_fit h hm h1).2
 generalize (codes l).getD m 0=c at*
 generalize l.getD m 0=n at*
 have key:∀k:Fin 8,k.val≠0→(c+1)*cw (k.val:Int)≤128→c<2 ^ ((k.val:Int)).toNat:=by
  rintro ⟨k,hk⟩ h0 hc
  rcases (by omega:k=0∨k=1∨k=2∨k=3∨k=4∨k=5∨k=6∨k=7) with rfl|rfl|rfl|rfl|rfl|rfl|rfl|rfl
  ·exact absurd rfl h0
  all_goals simp [cw] at hc ⊢
  all_goals omega
 obtain ⟨k,rfl⟩:∃k:Nat,n=k:=⟨n.toNat,by omega⟩
 exact key ⟨k,by omega⟩ (fun e=>h1 (by simp at e;simp [e])) hf
theorem code_cov {l:List Int} (h:CodeOk l) {v:Int} (h0:0≤v) (h1:v<128):∃m,m<6∧l.getD m 0≠0∧hit (codes l) l m v:=by
 have h6:=h.2.1
 obtain ⟨m,a,b,c⟩:=(J7 l).cov v h0 (by rw [next7 l h.1,h.2.2];omega)
 exact ⟨m,by omega,by unfold Dn at b;omega,c⟩
theorem code_uni {l:List Int} (h:CodeOk l) {m m':Nat} {v:Int} (hm:m<6) (hm':m'<6) (h0:l.getD m 0≠0) (h0':l.getD m' 0≠0) (h1:hit (codes l) l m v) (h2:hit (codes l) l m' v):m=m':=by
 have h6:=h.2.1
 have b1:=code_in h hm
 have b2:=code_in h hm'
 exact (J7 l).uni m m' v (by omega) (by omega) (by unfold Dn;omega) (by unfold Dn;omega) h1 h2
end Go.Proofs.YtndflfipaddfoaaGreat


namespace Go.Proofs.YtndflfipaddfoaaGreat
open Go Go.Abs
attribute [local irreducible] WpA WpL Rnd Blk Abs.Seq Abs.Fin Abs.FinG FnC FnG Only
def HasC (l:List Int) (m:Int):Prop:=CodeOk l∧(0≤m∧m≤5)∧l.getD m.toNat 0≠0
instance (l:List Int) (m:Int):Decidable (HasC l m):=by unfold HasC;infer_instance
def symL (l:List Int) (m:Int):List Int:=if HasC l m then bitsL ((codes l).getD m.toNat 0) (l.getD m.toNat 0) else []
theorem sym_fit {l:List Int} {m:Int} (h:HasC l m):(1≤l.getD m.toNat 0∧l.getD m.toNat 0≤7)∧0≤(codes l).getD m.toNat 0∧(codes l).getD m.toNat 0≤127∧bitOk ((codes l).getD m.toNat 0) (l.getD m.toNat 0):=by
 obtain ⟨h1,h2,h3⟩:=h
 have a:=code_in h1 (m:=m.toNat) (by omega)
 have b:=code_fit h1 (m:=m.toNat) (by omega) h3
 have c:=code_lt h1 (m:=m.toNat) (by omega) h3
 have d:(codes l).getD m.toNat 0≤127:=by
  have:(2:Int) ^ (l.getD m.toNat 0).toNat≤2 ^ 7:=by
   have:=Nat.pow_le_pow_right (n:=2) (by decide) (show (l.getD m.toNat 0).toNat≤7 by omega)
   exact_mod_cast this
  omega
 exact ⟨by omega,b.1,d,by omega,b.1,Int.ediv_eq_zero_of_lt b.1 c⟩
theorem symL_len (l:List Int) (m:Int):((symL l m).length:Int)=if HasC l m then l.getD m.toNat 0 else 0:=by
 unfold symL
 split
 ·rename_i h
  obtain ⟨h1,h2,h3,h4⟩:=sym_fit h
  rw [bitsL,if_pos h4,bitsR_len];omega
 ·rfl
theorem symL_pos (l:List Int) (m:Int):0<(symL l m).length↔HasC l m:=by
 have:=symL_len l m
 split at this
 ·rename_i h;have:=(sym_fit h).1;constructor<;>intro _<;>first|assumption|omega
 ·rename_i h;constructor
  ·intro h';omega
  ·intro h';exact absurd h' h
instance SymBits_s:Con 207 (∀ (l:List Int) (m:Int),l.length≤1099511627776→Fn 207 [IL l,I m] [XI (symL l m)] (.own 0 0 0 (symL l m).length)):=⟨fun l m hl=>by
 by_cases h:HasC l m
 ·obtain ⟨h1,h2,h3⟩:=id h
  obtain ⟨f1,f2,f3,f4⟩:=sym_fit h
  have h6:=h1.2.1
  have e:=codesR_ok l h1
  have h7:(codesR l).length=6:=codesR_len l h1
  rw [←e] at f2 f3
  refine FnC.of_body tabOk Tryz.func207 Tryz.ntmps207 rfl (by decide +kernel) (by simp) fun G=>?_
  refine go (r:=?_);and_intros<;>intros<;>try exact True.intro
  all_goals first|(exact absurd ‹CodeOk l› ‹¬ CodeOk l›)|(exact absurd h1 (by assumption))|(exact absurd h2 (by assumption))|(exact absurd (by assumption) h3)|skip
  ·rw [symL,if_pos h,e]
  ·rw [symL,if_pos h,e]
 ·have e:symL l m=[]:=by rw [symL,if_neg h]
  by_cases hc:CodeOk l
  ·have h6:=hc.2.1
   have h7:(codes l).length=6:=by rw [codes_len,h6]
   by_cases hm:0≤m∧m≤5
   ·have h0:l.getD m.toNat 0=0:=Decidable.not_not.1 fun hh=>h ⟨hc,hm,hh⟩
    refine FnC.of_body tabOk Tryz.func207 Tryz.ntmps207 rfl (by decide +kernel) (by simp) fun G=>?_
    refine go (r:=?_);and_intros<;>intros<;>try exact True.intro
    all_goals first|(rw [e];done)|(rw [e];rfl)|skip
   ·refine FnC.of_body tabOk Tryz.func207 Tryz.ntmps207 rfl (by decide +kernel) (by simp) fun G=>?_
    refine go (r:=?_);and_intros<;>intros<;>try exact True.intro
    all_goals first|(rw [e];done)|(rw [e];rfl)|skip
  ·refine FnC.of_body tabOk Tryz.func207 Tryz.ntmps207 rfl (by decide +kernel) (by simp) fun G=>?_
   refine go (r:=?_);and_intros<;>intros<;>try exact True.intro
   all_goals first|(rw [e];done)|(rw [e];rfl)|skip⟩
end Go.Proofs.YtndflfipaddfoaaGreat


namespace Go.Proofs.YtndflfipaddfoaaGreat
open Go Go.Abs
attribute [local irreducible] WpA WpL Rnd Blk Abs.Seq Abs.Fin Abs.FinG FnC FnG FnX FnP FinX Only
attribute [local irreducible] belowD onceD pickD modeD l8D l8AnyD
def modesD (l:List Int):Nat→Cr×List Int→Cr×List Int
 |0,s=>s
 |n+1,s=>modesD l n ((modeD l s.1).1,s.2++[(modeD l s.1).2])
def onesD (l:List Int):Nat→Cr×List Bool→Cr×List Bool
 |0,s=>s
 |n+1,s=>onesD l n ((onceD l s.1 2).1,s.2++[(onceD l s.1 2).2])
structure Op6 where
 q:Int
 b:Bool
 d:Bool
 lens:List Int
 ms:List Int
 es:List Bool
abbrev quant7:List Int:=[0,0,6,12,24,36,51]
def optD (l:List Int) (c:Cr):Cr×Op6:=
 let q:=pickD l c quant7
 let b:=onceD l q.1 4
 let d:=onceD l b.1 2
 let e:=l8D l d.1
 let n:=belowD l e.1 5
 let m:=modesD l n.2.toNat (n.1,[])
 let k:=belowD l m.1 4
 let s:=onesD l k.2.toNat (k.1,[])
 (s.1,⟨q.2,b.2,d.2,e.2,m.2,s.2⟩)
end Go.Proofs.YtndflfipaddfoaaGreat
