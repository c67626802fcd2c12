/- Proved in this text: lemmas and contracts of functions that the claim uses (parts: GoK, AbsEs, WbX, Bridge, Read, Read2, Read3). No condition. -/
import Derived.Test.YtndflfipaddfoaaGreatWbM8
import Derived.Test.YtndflfipaddfoaaGreatWbM15
import Derived.Test.YtndflfipaddfoaaGreatWbM13
import Derived.Test.YtndflfipaddfoaaGreatWbM10
import Derived.Test.YtndflfipaddfoaaGreatWbM2
import Derived.Below
import Derived.ChangeArms
import Derived.Test.YtndflfipaddfoaaGreatWbM3
import Derived.Test.YtndflfipaddfoaaGreatWbM9
set_option linter.unusedVariables false
set_option linter.unusedSimpArgs false
set_option maxRecDepth 100000
set_option maxHeartbeats 4000000


namespace Go.Proofs.YtndflfipaddfoaaGreat
open Go Go.Abs
theorem inG {X:Prop} (h:X:=by
 (repeat' (first
  |refine fun hgo=>?_
  |exact Only.mk rfl
  |refine WpL.nil ?_
  |(refine K.L ?_;first
   |(refine K.gd ?_;first
    |refine K.gT rfl (by decide) rfl ?_
    |refine K.gF rfl (by decide) rfl ?_)
   |(refine K.mv ?_;refine WpL.move rfl (by decide) ?_)
   |(refine K.asg ?_;refine WpL.assign rfl (by decide) ?_)
   |(refine K.bin ?_;first
    |refine WpL.add rfl rfl (by omega) (by decide) ?_
    |refine WpL.sub rfl rfl (by omega) (by decide) ?_
    |refine WpL.mul rfl rfl (by first|omega|exact mul_in (by omega) (by omega)|assumption) (by decide) ?_
    |refine WpL.quo rfl rfl (by omega) (by decide) ?_
    |refine WpL.rem rfl rfl (by omega) (by decide) ?_
    |refine WpL.bin rfl rfl rfl (by decide) ?_
    |refine WpL.strAdd rfl rfl (by first|omega|(simp only [List.length_append];omega)|(simp;omega)) (by decide) ?_
    |refine WpL.boolNe (K.tyBool tabOk rfl) rfl rfl (by decide) ?_
    |refine WpL.nilEq (TabOk.slice tabOk rfl).1 rfl rfl (by decide) ?_
    |refine WpL.ownEq (TabOk.slice tabOk rfl).1 rfl rfl rfl (by first|rfl|omega|(simp;done)|(simp;omega)) rfl (by decide) ?_
    |refine WpL.shl rfl rfl (by first|decide|(simp only [IntKind.bits];omega)) (by decide) ?_
    |refine WpL.shr rfl rfl (by first|decide|(simp only [IntKind.bits];omega)) (by decide) ?_)
   |(refine K.ld ?_;first
    |refine WpL.loadInts tabOk rfl rfl rfl (by first|omega|(simp;omega)) (by decide) ?_
    |refine WpL.loadU8s tabOk rfl rfl rfl (by first|omega|(simp;omega)) (by decide) ?_
    |refine WpL.loadRow tabOk rfl rfl (fun _=>rfl) (fun _=>rfl) (by first|rfl|omega|(simp;done)|(simp;omega)) (by decide) rfl ?_
    |refine WpL.loadField tabOk rfl rfl rfl (fun _=>rfl) rfl rfl (by first|rfl|omega|(simp;done)|(simp;omega)) (by decide) ?_
    |refine WpL.loadOwn tabOk rfl rfl rfl rfl (fun _=>rfl) rfl (by first|rfl|omega|(simp;done)|(simp;omega)) (by decide) rfl ?_
    |refine WpL.load1 tabOk rfl rfl rfl rfl rfl (by decide) ?_
    |refine WpL.loadAgg (ds:=[_]) tabOk rfl rfl rfl rfl rfl (by decide) ?_
    |refine WpL.loadAgg (ds:=[_,_]) tabOk rfl rfl rfl rfl rfl (by decide) ?_
    |refine WpL.loadAgg (ds:=[_,_,_]) tabOk rfl rfl rfl rfl rfl (by decide) ?_
    |refine WpL.loadAgg (ds:=[_,_,_,_]) tabOk rfl rfl rfl rfl rfl (by decide) ?_
    |refine WpL.loadAgg (ds:=[_,_,_,_,_]) tabOk rfl rfl rfl rfl rfl (by decide) ?_
    |refine WpL.loadAgg (ds:=[_,_,_,_,_,_]) tabOk rfl rfl rfl rfl rfl (by decide) ?_
    |refine WpL.loadAgg (ds:=[_,_,_,_,_,_,_]) tabOk rfl rfl rfl rfl rfl (by decide) ?_
    |refine WpL.loadAgg (ds:=[_,_,_,_,_,_,_,_]) tabOk rfl rfl rfl rfl rfl (by decide) ?_)
   |(refine K.fld ?_;first
    |refine WpL.fieldI tabOk rfl rfl rfl (by decide) ?_
    |refine WpL.fieldP tabOk rfl rfl rfl rfl rfl (by decide) ?_)
   |(refine K.ixa ?_;first
    |refine WpL.idxI1 tabOk rfl rfl rfl (by omega) (by decide) ?_
    |refine WpL.idxIJ tabOk rfl rfl rfl (by omega) (by decide) ?_
    |refine WpL.idxOJ tabOk rfl rfl rfl rfl rfl (by omega) (by decide) ?_
    |refine WpL.idxIN tabOk rfl rfl rfl (by omega) (by decide) ?_
    |refine WpL.idxON tabOk rfl rfl rfl rfl rfl (by omega) (by decide) ?_
    |refine WpL.idxI tabOk rfl rfl rfl (by omega) (by decide) ?_
    |refine WpL.idxO tabOk rfl rfl rfl rfl rfl (by omega) (by decide) ?_)
   |(refine K.call ?_;refine K.con (fun hcon=>?_);first
    |(refine WpL.callF (hcon ?_) snapA locA outA rfl rfl rfl (by decide) ?_<;>clear hcon)
    |(refine WpL.callF (hcon) snapA locA outA rfl rfl rfl (by decide) ?_<;>clear hcon)
    |(refine WpL.callF (hcon _ ?_) snapA locA outA rfl rfl rfl (by decide) ?_<;>clear hcon)
    |(refine WpL.callF (hcon _) snapA locA outA rfl rfl rfl (by decide) ?_<;>clear hcon)
    |(refine WpL.callF (hcon _ _ ?_) snapA locA outA rfl rfl rfl (by decide) ?_<;>clear hcon)
    |(refine WpL.callF (hcon _ _) snapA locA outA rfl rfl rfl (by decide) ?_<;>clear hcon)
    |(refine WpL.callF (hcon _ _ _ ?_) snapA locA outA rfl rfl rfl (by decide) ?_<;>clear hcon)
    |(refine WpL.callF (hcon _ _ _) snapA locA outA rfl rfl rfl (by decide) ?_<;>clear hcon)
    |(refine WpL.callF (hcon _ _ _ _ ?_) snapA locA outA rfl rfl rfl (by decide) ?_<;>clear hcon)
    |(refine WpL.callF (hcon _ _ _ _) snapA locA outA rfl rfl rfl (by decide) ?_<;>clear hcon)
    |(refine WpL.callF (hcon _ _ _ _ _ ?_) snapA locA outA rfl rfl rfl (by decide) ?_<;>clear hcon)
    |(refine WpL.callF (hcon _ _ _ _ _) snapA locA outA rfl rfl rfl (by decide) ?_<;>clear hcon)
    |(refine WpL.callF (hcon _ _ _ _ _ _ ?_) snapA locA outA rfl rfl rfl (by decide) ?_<;>clear hcon)
    |(refine WpL.callF (hcon _ _ _ _ _ _) snapA locA outA rfl rfl rfl (by decide) ?_<;>clear hcon)
    |(refine WpL.callF (hcon _ _ _ _ _ _ _ ?_) snapA locA outA rfl rfl rfl (by decide) ?_<;>clear hcon)
    |(refine WpL.callF (hcon _ _ _ _ _ _ _) snapA locA outA rfl rfl rfl (by decide) ?_<;>clear hcon)
    |(refine WpL.callF (hcon _ _ _ _ _ _ _ _ ?_) snapA locA outA rfl rfl rfl (by decide) ?_<;>clear hcon)
    |(refine WpL.callF (hcon _ _ _ _ _ _ _ _) snapA locA outA rfl rfl rfl (by decide) ?_<;>clear hcon)
    |(refine WpL.callF (hcon _ _ _ _ _ _ _ _ _ ?_) snapA locA outA rfl rfl rfl (by decide) ?_<;>clear hcon)
    |(refine WpL.callF (hcon _ _ _ _ _ _ _ _ _) snapA locA outA rfl rfl rfl (by decide) ?_<;>clear hcon)
    |(refine WpL.callF (hcon _ _ _ _ _ _ _ _ _ _ ?_) snapA locA outA rfl rfl rfl (by decide) ?_<;>clear hcon)
    |(refine WpL.callF (hcon _ _ _ _ _ _ _ _ _ _) snapA locA outA rfl rfl rfl (by decide) ?_<;>clear hcon)
    |(refine WpL.callF (hcon _ _ _ _ _ _ _ _ _ _ _ ?_) snapA locA outA rfl rfl rfl (by decide) ?_<;>clear hcon)
    |(refine WpL.callF (hcon _ _ _ _ _ _ _ _ _ _ _) snapA locA outA rfl rfl rfl (by decide) ?_<;>clear hcon)
    |(refine WpL.callF (hcon _ _ _ _ _ _ _ _ _ _ _ _ ?_) snapA locA outA rfl rfl rfl (by decide) ?_<;>clear hcon)
    |(refine WpL.callF (hcon _ _ _ _ _ _ _ _ _ _ _ _) snapA locA outA rfl rfl rfl (by decide) ?_<;>clear hcon)
    |(refine WpL.callF (hcon _ _ _ _ _ _ _ _ _ _ _ _ _ ?_) snapA locA outA rfl rfl rfl (by decide) ?_<;>clear hcon)
    |(refine WpL.callF (hcon _ _ _ _ _ _ _ _ _ _ _ _ _) snapA locA outA rfl rfl rfl (by decide) ?_<;>clear hcon)
    |(refine WpL.callF (hcon _ _ _ _ _ _ _ _ _ _ _ _ _ _ ?_) snapA locA outA rfl rfl rfl (by decide) ?_<;>clear hcon)
    |(refine WpL.callF (hcon _ _ _ _ _ _ _ _ _ _ _ _ _ _) snapA locA outA rfl rfl rfl (by decide) ?_<;>clear hcon)
    |(refine WpL.callF (hcon _ _ _ _ _ _ _ _ _ _ _ _ _ _ _ ?_) snapA locA outA rfl rfl rfl (by decide) ?_<;>clear hcon)
    |(refine WpL.callF (hcon _ _ _ _ _ _ _ _ _ _ _ _ _ _ _) snapA locA outA rfl rfl rfl (by decide) ?_<;>clear hcon)
    |(refine WpL.callF (hcon _ _ _ _ _ _ _ _ _ _ _ _ _ _ _ _ ?_) snapA locA outA rfl rfl rfl (by decide) ?_<;>clear hcon)
    |(refine WpL.callF (hcon _ _ _ _ _ _ _ _ _ _ _ _ _ _ _ _) snapA locA outA rfl rfl rfl (by decide) ?_<;>clear hcon)
    |(refine WpL.callF (hcon _ _ _ _ _ _ _ _ _ _ _ _ _ _ _ _ _ ?_) snapA locA outA rfl rfl rfl (by decide) ?_<;>clear hcon)
    |(refine WpL.callF (hcon _ _ _ _ _ _ _ _ _ _ _ _ _ _ _ _ _) snapA locA outA rfl rfl rfl (by decide) ?_<;>clear hcon)
    |(refine WpL.callF (hcon _ _ _ _ _ _ _ _ _ _ _ _ _ _ _ _ _ _ ?_) snapA locA outA rfl rfl rfl (by decide) ?_<;>clear hcon)
    |(refine WpL.callF (hcon _ _ _ _ _ _ _ _ _ _ _ _ _ _ _ _ _ _) snapA locA outA rfl rfl rfl (by decide) ?_<;>clear hcon))
   |(refine K.call ?_;refine K.conG (fun hcon=>?_);first
    |(refine WpL.callM (hs:=[_]) (hcon ?_) handA handOA rfl rfl outA outA rfl rfl rfl rfl (by decide) ?_<;>clear hcon)
    |(refine WpL.callM (hs:=[_]) (hcon) handA handOA rfl rfl outA outA rfl rfl rfl rfl (by decide) ?_<;>clear hcon)
    |(refine WpL.callM (hs:=[_]) (hcon _ ?_) handA handOA rfl rfl outA outA rfl rfl rfl rfl (by decide) ?_<;>clear hcon)
    |(refine WpL.callM (hs:=[_]) (hcon _) handA handOA rfl rfl outA outA rfl rfl rfl rfl (by decide) ?_<;>clear hcon)
    |(refine WpL.callM (hs:=[_]) (hcon _ _ ?_) handA handOA rfl rfl outA outA rfl rfl rfl rfl (by decide) ?_<;>clear hcon)
    |(refine WpL.callM (hs:=[_]) (hcon _ _) handA handOA rfl rfl outA outA rfl rfl rfl rfl (by decide) ?_<;>clear hcon)
    |(refine WpL.callM (hs:=[_]) (hcon _ _ _ ?_) handA handOA rfl rfl outA outA rfl rfl rfl rfl (by decide) ?_<;>clear hcon)
    |(refine WpL.callM (hs:=[_]) (hcon _ _ _) handA handOA rfl rfl outA outA rfl rfl rfl rfl (by decide) ?_<;>clear hcon)
    |(refine WpL.callM (hs:=[_]) (hcon _ _ _ _ ?_) handA handOA rfl rfl outA outA rfl rfl rfl rfl (by decide) ?_<;>clear hcon)
    |(refine WpL.callM (hs:=[_]) (hcon _ _ _ _) handA handOA rfl rfl outA outA rfl rfl rfl rfl (by decide) ?_<;>clear hcon)
    |(refine WpL.callM (hs:=[_]) (hcon _ _ _ _ _ ?_) handA handOA rfl rfl outA outA rfl rfl rfl rfl (by decide) ?_<;>clear hcon)
    |(refine WpL.callM (hs:=[_]) (hcon _ _ _ _ _) handA handOA rfl rfl outA outA rfl rfl rfl rfl (by decide) ?_<;>clear hcon)
    |(refine WpL.callM (hs:=[_]) (hcon _ _ _ _ _ _ ?_) handA handOA rfl rfl outA outA rfl rfl rfl rfl (by decide) ?_<;>clear hcon)
    |(refine WpL.callM (hs:=[_]) (hcon _ _ _ _ _ _) handA handOA rfl rfl outA outA rfl rfl rfl rfl (by decide) ?_<;>clear hcon)
    |(refine WpL.callM (hs:=[_]) (hcon _ _ _ _ _ _ _ ?_) handA handOA rfl rfl outA outA rfl rfl rfl rfl (by decide) ?_<;>clear hcon)
    |(refine WpL.callM (hs:=[_]) (hcon _ _ _ _ _ _ _) handA handOA rfl rfl outA outA rfl rfl rfl rfl (by decide) ?_<;>clear hcon)
    |(refine WpL.callM (hs:=[_]) (hcon _ _ _ _ _ _ _ _ ?_) handA handOA rfl rfl outA outA rfl rfl rfl rfl (by decide) ?_<;>clear hcon)
    |(refine WpL.callM (hs:=[_]) (hcon _ _ _ _ _ _ _ _) handA handOA rfl rfl outA outA rfl rfl rfl rfl (by decide) ?_<;>clear hcon)
    |(refine WpL.callM (hs:=[_,_]) (hcon ?_) handA handOA rfl rfl outA outA rfl rfl rfl rfl (by decide) ?_<;>clear hcon)
    |(refine WpL.callM (hs:=[_,_]) (hcon) handA handOA rfl rfl outA outA rfl rfl rfl rfl (by decide) ?_<;>clear hcon)
    |(refine WpL.callM (hs:=[_,_]) (hcon _ ?_) handA handOA rfl rfl outA outA rfl rfl rfl rfl (by decide) ?_<;>clear hcon)
    |(refine WpL.callM (hs:=[_,_]) (hcon _) handA handOA rfl rfl outA outA rfl rfl rfl rfl (by decide) ?_<;>clear hcon)
    |(refine WpL.callM (hs:=[_,_]) (hcon _ _ ?_) handA handOA rfl rfl outA outA rfl rfl rfl rfl (by decide) ?_<;>clear hcon)
    |(refine WpL.callM (hs:=[_,_]) (hcon _ _) handA handOA rfl rfl outA outA rfl rfl rfl rfl (by decide) ?_<;>clear hcon)
    |(refine WpL.callM (hs:=[_,_]) (hcon _ _ _ ?_) handA handOA rfl rfl outA outA rfl rfl rfl rfl (by decide) ?_<;>clear hcon)
    |(refine WpL.callM (hs:=[_,_]) (hcon _ _ _) handA handOA rfl rfl outA outA rfl rfl rfl rfl (by decide) ?_<;>clear hcon)
    |(refine WpL.callM (hs:=[_,_]) (hcon _ _ _ _ ?_) handA handOA rfl rfl outA outA rfl rfl rfl rfl (by decide) ?_<;>clear hcon)
    |(refine WpL.callM (hs:=[_,_]) (hcon _ _ _ _) handA handOA rfl rfl outA outA rfl rfl rfl rfl (by decide) ?_<;>clear hcon)
    |(refine WpL.callM (hs:=[_,_]) (hcon _ _ _ _ _ ?_) handA handOA rfl rfl outA outA rfl rfl rfl rfl (by decide) ?_<;>clear hcon)
    |(refine WpL.callM (hs:=[_,_]) (hcon _ _ _ _ _) handA handOA rfl rfl outA outA rfl rfl rfl rfl (by decide) ?_<;>clear hcon)
    |(refine WpL.callM (hs:=[_,_]) (hcon _ _ _ _ _ _ ?_) handA handOA rfl rfl outA outA rfl rfl rfl rfl (by decide) ?_<;>clear hcon)
    |(refine WpL.callM (hs:=[_,_]) (hcon _ _ _ _ _ _) handA handOA rfl rfl outA outA rfl rfl rfl rfl (by decide) ?_<;>clear hcon)
    |(refine WpL.callM (hs:=[_,_]) (hcon _ _ _ _ _ _ _ ?_) handA handOA rfl rfl outA outA rfl rfl rfl rfl (by decide) ?_<;>clear hcon)
    |(refine WpL.callM (hs:=[_,_]) (hcon _ _ _ _ _ _ _) handA handOA rfl rfl outA outA rfl rfl rfl rfl (by decide) ?_<;>clear hcon)
    |(refine WpL.callM (hs:=[_,_]) (hcon _ _ _ _ _ _ _ _ ?_) handA handOA rfl rfl outA outA rfl rfl rfl rfl (by decide) ?_<;>clear hcon)
    |(refine WpL.callM (hs:=[_,_]) (hcon _ _ _ _ _ _ _ _) handA handOA rfl rfl outA outA rfl rfl rfl rfl (by decide) ?_<;>clear hcon)
    |(refine WpL.callM (hs:=[_,_,_]) (hcon ?_) handA handOA rfl rfl outA outA rfl rfl rfl rfl (by decide) ?_<;>clear hcon)
    |(refine WpL.callM (hs:=[_,_,_]) (hcon) handA handOA rfl rfl outA outA rfl rfl rfl rfl (by decide) ?_<;>clear hcon)
    |(refine WpL.callM (hs:=[_,_,_]) (hcon _ ?_) handA handOA rfl rfl outA outA rfl rfl rfl rfl (by decide) ?_<;>clear hcon)
    |(refine WpL.callM (hs:=[_,_,_]) (hcon _) handA handOA rfl rfl outA outA rfl rfl rfl rfl (by decide) ?_<;>clear hcon)
    |(refine WpL.callM (hs:=[_,_,_]) (hcon _ _ ?_) handA handOA rfl rfl outA outA rfl rfl rfl rfl (by decide) ?_<;>clear hcon)
    |(refine WpL.callM (hs:=[_,_,_]) (hcon _ _) handA handOA rfl rfl outA outA rfl rfl rfl rfl (by decide) ?_<;>clear hcon)
    |(refine WpL.callM (hs:=[_,_,_]) (hcon _ _ _ ?_) handA handOA rfl rfl outA outA rfl rfl rfl rfl (by decide) ?_<;>clear hcon)
    |(refine WpL.callM (hs:=[_,_,_]) (hcon _ _ _) handA handOA rfl rfl outA outA rfl rfl rfl rfl (by decide) ?_<;>clear hcon)
    |(refine WpL.callM (hs:=[_,_,_]) (hcon _ _ _ _ ?_) handA handOA rfl rfl outA outA rfl rfl rfl rfl (by decide) ?_<;>clear hcon)
    |(refine WpL.callM (hs:=[_,_,_]) (hcon _ _ _ _) handA handOA rfl rfl outA outA rfl rfl rfl rfl (by decide) ?_<;>clear hcon)
    |(refine WpL.callM (hs:=[_,_,_]) (hcon _ _ _ _ _ ?_) handA handOA rfl rfl outA outA rfl rfl rfl rfl (by decide) ?_<;>clear hcon)
    |(refine WpL.callM (hs:=[_,_,_]) (hcon _ _ _ _ _) handA handOA rfl rfl outA outA rfl rfl rfl rfl (by decide) ?_<;>clear hcon)
    |(refine WpL.callM (hs:=[_,_,_]) (hcon _ _ _ _ _ _ ?_) handA handOA rfl rfl outA outA rfl rfl rfl rfl (by decide) ?_<;>clear hcon)
    |(refine WpL.callM (hs:=[_,_,_]) (hcon _ _ _ _ _ _) handA handOA rfl rfl outA outA rfl rfl rfl rfl (by decide) ?_<;>clear hcon)
    |(refine WpL.callM (hs:=[_,_,_]) (hcon _ _ _ _ _ _ _ ?_) handA handOA rfl rfl outA outA rfl rfl rfl rfl (by decide) ?_<;>clear hcon)
    |(refine WpL.callM (hs:=[_,_,_]) (hcon _ _ _ _ _ _ _) handA handOA rfl rfl outA outA rfl rfl rfl rfl (by decide) ?_<;>clear hcon)
    |(refine WpL.callM (hs:=[_,_,_]) (hcon _ _ _ _ _ _ _ _ ?_) handA handOA rfl rfl outA outA rfl rfl rfl rfl (by decide) ?_<;>clear hcon)
    |(refine WpL.callM (hs:=[_,_,_]) (hcon _ _ _ _ _ _ _ _) handA handOA rfl rfl outA outA rfl rfl rfl rfl (by decide) ?_<;>clear hcon)
    |(refine WpL.callM (hs:=[_,_,_,_]) (hcon ?_) handA handOA rfl rfl outA outA rfl rfl rfl rfl (by decide) ?_<;>clear hcon)
    |(refine WpL.callM (hs:=[_,_,_,_]) (hcon) handA handOA rfl rfl outA outA rfl rfl rfl rfl (by decide) ?_<;>clear hcon)
    |(refine WpL.callM (hs:=[_,_,_,_]) (hcon _ ?_) handA handOA rfl rfl outA outA rfl rfl rfl rfl (by decide) ?_<;>clear hcon)
    |(refine WpL.callM (hs:=[_,_,_,_]) (hcon _) handA handOA rfl rfl outA outA rfl rfl rfl rfl (by decide) ?_<;>clear hcon)
    |(refine WpL.callM (hs:=[_,_,_,_]) (hcon _ _ ?_) handA handOA rfl rfl outA outA rfl rfl rfl rfl (by decide) ?_<;>clear hcon)
    |(refine WpL.callM (hs:=[_,_,_,_]) (hcon _ _) handA handOA rfl rfl outA outA rfl rfl rfl rfl (by decide) ?_<;>clear hcon)
    |(refine WpL.callM (hs:=[_,_,_,_]) (hcon _ _ _ ?_) handA handOA rfl rfl outA outA rfl rfl rfl rfl (by decide) ?_<;>clear hcon)
    |(refine WpL.callM (hs:=[_,_,_,_]) (hcon _ _ _) handA handOA rfl rfl outA outA rfl rfl rfl rfl (by decide) ?_<;>clear hcon)
    |(refine WpL.callM (hs:=[_,_,_,_]) (hcon _ _ _ _ ?_) handA handOA rfl rfl outA outA rfl rfl rfl rfl (by decide) ?_<;>clear hcon)
    |(refine WpL.callM (hs:=[_,_,_,_]) (hcon _ _ _ _) handA handOA rfl rfl outA outA rfl rfl rfl rfl (by decide) ?_<;>clear hcon)
    |(refine WpL.callM (hs:=[_,_,_,_]) (hcon _ _ _ _ _ ?_) handA handOA rfl rfl outA outA rfl rfl rfl rfl (by decide) ?_<;>clear hcon)
    |(refine WpL.callM (hs:=[_,_,_,_]) (hcon _ _ _ _ _) handA handOA rfl rfl outA outA rfl rfl rfl rfl (by decide) ?_<;>clear hcon)
    |(refine WpL.callM (hs:=[_,_,_,_]) (hcon _ _ _ _ _ _ ?_) handA handOA rfl rfl outA outA rfl rfl rfl rfl (by decide) ?_<;>clear hcon)
    |(refine WpL.callM (hs:=[_,_,_,_]) (hcon _ _ _ _ _ _) handA handOA rfl rfl outA outA rfl rfl rfl rfl (by decide) ?_<;>clear hcon)
    |(refine WpL.callM (hs:=[_,_,_,_]) (hcon _ _ _ _ _ _ _ ?_) handA handOA rfl rfl outA outA rfl rfl rfl rfl (by decide) ?_<;>clear hcon)
    |(refine WpL.callM (hs:=[_,_,_,_]) (hcon _ _ _ _ _ _ _) handA handOA rfl rfl outA outA rfl rfl rfl rfl (by decide) ?_<;>clear hcon)
    |(refine WpL.callM (hs:=[_,_,_,_]) (hcon _ _ _ _ _ _ _ _ ?_) handA handOA rfl rfl outA outA rfl rfl rfl rfl (by decide) ?_<;>clear hcon)
    |(refine WpL.callM (hs:=[_,_,_,_]) (hcon _ _ _ _ _ _ _ _) handA handOA rfl rfl outA outA rfl rfl rfl rfl (by decide) ?_<;>clear hcon))
   |(refine K.call ?_;refine K.conB (fun hcon=>?_);first
    |(refine WpL.callB (hcon ?_) snapA locA outA locA outA rfl rfl rfl rfl rfl (by decide) ?_ ?_<;>clear hcon)
    |(refine WpL.callB (hcon) snapA locA outA locA outA rfl rfl rfl rfl rfl (by decide) ?_ ?_<;>clear hcon)
    |(refine WpL.callB (hcon _ ?_) snapA locA outA locA outA rfl rfl rfl rfl rfl (by decide) ?_ ?_<;>clear hcon)
    |(refine WpL.callB (hcon _) snapA locA outA locA outA rfl rfl rfl rfl rfl (by decide) ?_ ?_<;>clear hcon)
    |(refine WpL.callB (hcon _ _ ?_) snapA locA outA locA outA rfl rfl rfl rfl rfl (by decide) ?_ ?_<;>clear hcon)
    |(refine WpL.callB (hcon _ _) snapA locA outA locA outA rfl rfl rfl rfl rfl (by decide) ?_ ?_<;>clear hcon)
    |(refine WpL.callB (hcon _ _ _ ?_) snapA locA outA locA outA rfl rfl rfl rfl rfl (by decide) ?_ ?_<;>clear hcon)
    |(refine WpL.callB (hcon _ _ _) snapA locA outA locA outA rfl rfl rfl rfl rfl (by decide) ?_ ?_<;>clear hcon)
    |(refine WpL.callB (hcon _ _ _ _ ?_) snapA locA outA locA outA rfl rfl rfl rfl rfl (by decide) ?_ ?_<;>clear hcon)
    |(refine WpL.callB (hcon _ _ _ _) snapA locA outA locA outA rfl rfl rfl rfl rfl (by decide) ?_ ?_<;>clear hcon)
    |(refine WpL.callB (hcon _ _ _ _ _ ?_) snapA locA outA locA outA rfl rfl rfl rfl rfl (by decide) ?_ ?_<;>clear hcon)
    |(refine WpL.callB (hcon _ _ _ _ _) snapA locA outA locA outA rfl rfl rfl rfl rfl (by decide) ?_ ?_<;>clear hcon)
    |(refine WpL.callB (hcon _ _ _ _ _ _ ?_) snapA locA outA locA outA rfl rfl rfl rfl rfl (by decide) ?_ ?_<;>clear hcon)
    |(refine WpL.callB (hcon _ _ _ _ _ _) snapA locA outA locA outA rfl rfl rfl rfl rfl (by decide) ?_ ?_<;>clear hcon)
    |(refine WpL.callB (hcon _ _ _ _ _ _ _ ?_) snapA locA outA locA outA rfl rfl rfl rfl rfl (by decide) ?_ ?_<;>clear hcon)
    |(refine WpL.callB (hcon _ _ _ _ _ _ _) snapA locA outA locA outA rfl rfl rfl rfl rfl (by decide) ?_ ?_<;>clear hcon)
    |(refine WpL.callB (hcon _ _ _ _ _ _ _ _ ?_) snapA locA outA locA outA rfl rfl rfl rfl rfl (by decide) ?_ ?_<;>clear hcon)
    |(refine WpL.callB (hcon _ _ _ _ _ _ _ _) snapA locA outA locA outA rfl rfl rfl rfl rfl (by decide) ?_ ?_<;>clear hcon))
   |(refine K.call ?_;refine K.conP (fun hcon=>?_);first
    |(refine WpL.callP (hs:=[_]) (hcon ?_) (by assumption) handA handOA rfl rfl (.cons rfl (.sc (.sc (.sc .nil))) .nil) outA rfl rfl rfl rfl (by decide) ?_<;>clear hcon)
    |(refine WpL.callP (hs:=[_]) (hcon) (by assumption) handA handOA rfl rfl (.cons rfl (.sc (.sc (.sc .nil))) .nil) outA rfl rfl rfl rfl (by decide) ?_<;>clear hcon)
    |(refine WpL.callP (hs:=[_]) (hcon _ ?_) (by assumption) handA handOA rfl rfl (.cons rfl (.sc (.sc (.sc .nil))) .nil) outA rfl rfl rfl rfl (by decide) ?_<;>clear hcon)
    |(refine WpL.callP (hs:=[_]) (hcon _) (by assumption) handA handOA rfl rfl (.cons rfl (.sc (.sc (.sc .nil))) .nil) outA rfl rfl rfl rfl (by decide) ?_<;>clear hcon)
    |(refine WpL.callP (hs:=[_]) (hcon _ _ ?_) (by assumption) handA handOA rfl rfl (.cons rfl (.sc (.sc (.sc .nil))) .nil) outA rfl rfl rfl rfl (by decide) ?_<;>clear hcon)
    |(refine WpL.callP (hs:=[_]) (hcon _ _) (by assumption) handA handOA rfl rfl (.cons rfl (.sc (.sc (.sc .nil))) .nil) outA rfl rfl rfl rfl (by decide) ?_<;>clear hcon)
    |(refine WpL.callP (hs:=[_]) (hcon _ _ _ ?_) (by assumption) handA handOA rfl rfl (.cons rfl (.sc (.sc (.sc .nil))) .nil) outA rfl rfl rfl rfl (by decide) ?_<;>clear hcon)
    |(refine WpL.callP (hs:=[_]) (hcon _ _ _) (by assumption) handA handOA rfl rfl (.cons rfl (.sc (.sc (.sc .nil))) .nil) outA rfl rfl rfl rfl (by decide) ?_<;>clear hcon)
    |(refine WpL.callP (hs:=[_]) (hcon _ _ _ _ ?_) (by assumption) handA handOA rfl rfl (.cons rfl (.sc (.sc (.sc .nil))) .nil) outA rfl rfl rfl rfl (by decide) ?_<;>clear hcon)
    |(refine WpL.callP (hs:=[_]) (hcon _ _ _ _) (by assumption) handA handOA rfl rfl (.cons rfl (.sc (.sc (.sc .nil))) .nil) outA rfl rfl rfl rfl (by decide) ?_<;>clear hcon)
    |(refine WpL.callP (hs:=[_]) (hcon _ _ _ _ _ ?_) (by assumption) handA handOA rfl rfl (.cons rfl (.sc (.sc (.sc .nil))) .nil) outA rfl rfl rfl rfl (by decide) ?_<;>clear hcon)
    |(refine WpL.callP (hs:=[_]) (hcon _ _ _ _ _) (by assumption) handA handOA rfl rfl (.cons rfl (.sc (.sc (.sc .nil))) .nil) outA rfl rfl rfl rfl (by decide) ?_<;>clear hcon)
    |(refine WpL.callP (hs:=[_]) (hcon _ _ _ _ _ _ ?_) (by assumption) handA handOA rfl rfl (.cons rfl (.sc (.sc (.sc .nil))) .nil) outA rfl rfl rfl rfl (by decide) ?_<;>clear hcon)
    |(refine WpL.callP (hs:=[_]) (hcon _ _ _ _ _ _) (by assumption) handA handOA rfl rfl (.cons rfl (.sc (.sc (.sc .nil))) .nil) outA rfl rfl rfl rfl (by decide) ?_<;>clear hcon)
    |(refine WpL.callP (hs:=[_]) (hcon _ _ _ _ _ _ _ ?_) (by assumption) handA handOA rfl rfl (.cons rfl (.sc (.sc (.sc .nil))) .nil) outA rfl rfl rfl rfl (by decide) ?_<;>clear hcon)
    |(refine WpL.callP (hs:=[_]) (hcon _ _ _ _ _ _ _) (by assumption) handA handOA rfl rfl (.cons rfl (.sc (.sc (.sc .nil))) .nil) outA rfl rfl rfl rfl (by decide) ?_<;>clear hcon)
    |(refine WpL.callP (hs:=[_]) (hcon _ _ _ _ _ _ _ _ ?_) (by assumption) handA handOA rfl rfl (.cons rfl (.sc (.sc (.sc .nil))) .nil) outA rfl rfl rfl rfl (by decide) ?_<;>clear hcon)
    |(refine WpL.callP (hs:=[_]) (hcon _ _ _ _ _ _ _ _) (by assumption) handA handOA rfl rfl (.cons rfl (.sc (.sc (.sc .nil))) .nil) outA rfl rfl rfl rfl (by decide) ?_<;>clear hcon)
    |(refine WpL.callP (hs:=[_]) (hcon _ _ _ _ _ _ _ _ _ ?_) (by assumption) handA handOA rfl rfl (.cons rfl (.sc (.sc (.sc .nil))) .nil) outA rfl rfl rfl rfl (by decide) ?_<;>clear hcon)
    |(refine WpL.callP (hs:=[_]) (hcon _ _ _ _ _ _ _ _ _) (by assumption) handA handOA rfl rfl (.cons rfl (.sc (.sc (.sc .nil))) .nil) outA rfl rfl rfl rfl (by decide) ?_<;>clear hcon)
    |(refine WpL.callP (hs:=[_]) (hcon _ _ _ _ _ _ _ _ _ _ ?_) (by assumption) handA handOA rfl rfl (.cons rfl (.sc (.sc (.sc .nil))) .nil) outA rfl rfl rfl rfl (by decide) ?_<;>clear hcon)
    |(refine WpL.callP (hs:=[_]) (hcon _ _ _ _ _ _ _ _ _ _) (by assumption) handA handOA rfl rfl (.cons rfl (.sc (.sc (.sc .nil))) .nil) outA rfl rfl rfl rfl (by decide) ?_<;>clear hcon))
   |(refine K.callT ?_;refine K.conV rfl (fun hcon=>?_);first
    |(refine WpL.callVF rfl (hcon _ _ _ _ _ _ _ _ _ _ _ _) rfl snapA locA outA rfl rfl rfl (by decide) ?_<;>clear hcon))
   |(refine K.mkF ?_;refine WpL.makeFunc rfl (by decide) ?_)
   |(refine K.ix ?_;first
    |refine WpL.idxStrB tabOk rfl rfl rfl (by omega) (by decide) (fun hgo=>?_))
   |(refine K.bi ?_;first
    |(refine K.blen ?_;first
     |refine WpL.lenImm (TabOk.slice tabOk rfl).1 rfl (by decide) ?_
     |refine WpL.lenOwn (TabOk.slice tabOk rfl).1 rfl rfl rfl (by decide) ?_
     |refine WpL.lenStr (K.tyStr tabOk rfl) rfl (by decide) ?_)
    |(refine K.bapp ?_;first
     |refine WpL.app1Ints tabOk rfl rfl rfl (by first|exact Nat.zero_le _|exact Nat.le_of_ble_eq_true rfl) rfl rfl (by first|rfl|omega|(simp;done)|(simp;omega)) (by omega) (by decide) ?_
     |refine WpL.appInts tabOk rfl rfl rfl (by first|exact Nat.zero_le _|exact Nat.le_of_ble_eq_true rfl) rfl rfl (by first|rfl|omega|(simp;done)|(simp;omega)) (by first|rfl|omega|(simp;done)|(simp;omega)) (by omega) (by decide) ?_
     |refine WpL.app1U8s tabOk rfl rfl rfl (by first|exact Nat.zero_le _|exact Nat.le_of_ble_eq_true rfl) rfl rfl (by first|rfl|omega|(simp;done)|(simp;omega)) (by omega) (by decide) ?_
     |refine WpL.appRow (f:=prF) (v:=(_,_)) tabOk rfl rfl rfl (by first|exact Nat.zero_le _|exact Nat.le_of_ble_eq_true rfl) rfl rfl (fun _=>rfl) rfl rfl (by first|rfl|omega|(simp;done)|(simp;omega)) (by omega) (by decide) ?_
     |refine WpL.appRow (f:=plF) (v:=(_,_,_)) tabOk rfl rfl rfl (by first|exact Nat.zero_le _|exact Nat.le_of_ble_eq_true rfl) rfl rfl (fun _=>rfl) rfl rfl (by first|rfl|omega|(simp;done)|(simp;omega)) (by omega) (by decide) ?_
     |refine WpL.appBlk tabOk rfl rfl rfl (by first|exact Nat.zero_le _|exact Nat.le_of_ble_eq_true rfl) rfl rfl rfl rfl rfl (by first|exact Nat.zero_le _|exact Nat.le_of_ble_eq_true rfl) (by first|rfl|omega|(simp;done)|(simp;omega)) (by first|rfl|omega|(simp;done)|(simp;omega)) (by omega) (by decide) ?_
     |refine WpL.appOwn tabOk rfl rfl rfl rfl rfl rfl (by simp) (by first|exact Nat.zero_le _|exact Nat.le_of_ble_eq_true rfl) rfl rfl (by simp) (by simp [all_ints,all_u8s,all_strs,oneB,Value.oneCell']) (by omega) (by decide) ?_)
    |refine WpL.min2 rfl rfl (by decide) ?_
    |refine WpL.max2 rfl rfl (by decide) ?_)
   |(refine K.un ?_;first
    |refine WpL.not rfl (by decide) ?_
    |refine WpL.neg rfl (by omega) (by decide) ?_)
   |(refine K.pick ?_;first
    |refine WpL.pickT rfl rfl (by decide) ?_
    |refine WpL.pickF rfl rfl (by decide) ?_)
   |(refine K.bld ?_;refine WpL.build tabOk rfl rfl (by kernel_rfl) (by decide) ?_)
   |(refine K.ext ?_;refine WpL.extract rfl rfl (by first|decide|simp [AV.shL]) (by decide) ?_)
   |(refine K.cv ?_;first
    |refine WpL.convI (P:=Tryz.prog) (by rfl) (K.tyInt tabOk rfl) rfl (by omega) (by decide) ?_
    |refine WpL.conv (P:=Tryz.prog) (by rfl) (K.tyInt tabOk rfl) rfl (by decide) ?_
    |refine WpL.ofBytes tabOk rfl rfl rfl rfl rfl (by simp) (by decide) ?_)
   |(refine K.lit ?_;first
    |refine WpL.lit0U8s tabOk rfl rfl rfl (by decide) ?_
    |refine WpL.lit0Ints tabOk rfl rfl rfl (by decide) ?_
    |refine WpL.litInts tabOk rfl rfl rfl rfl rfl (by decide) rfl (by decide) ?_
    |refine WpL.litU8s tabOk rfl rfl rfl rfl rfl (by decide) rfl (by decide) ?_
    |(apply WpL.litLis tabOk
      ·exact rfl
      ·exact rfl
      ·exact rfl
      ·exact rfl
      ·decide
      ·exact rfl
      ·exact rfl
      ·exact rfl
      ·decide
      ·repeat' (first
        |exact NestC.nil
        |(apply NestC.cons
          ·exact rfl
          ·exact rfl
          ·exact rfl
          ·exact rfl
          ·first|exact Nat.zero_le _|exact Nat.le_of_ble_eq_true rfl
          ·exact rfl
          ·first|rfl|exact still_ints _
          ·first|rfl|simp
          ·exact rfl))
      ·exact rfl
      ·exact rfl)
    |refine WpL.litF tabOk rfl rfl rfl rfl (by decide) rfl (by decide) ?_)
   |(refine K.ms ?_;first
    |refine WpL.makeInts tabOk rfl rfl rfl (by omega) (by omega) rfl (by decide) ?_
    |refine WpL.makeU8s tabOk rfl rfl rfl (by omega) (by omega) rfl (by decide) ?_
    |refine WpL.makeRows (f:=prF) (z:=(0,0)) tabOk rfl rfl rfl rfl (by omega) (by omega) rfl (by decide) ?_)
   |(refine K.st ?_;first
    |refine WpL.storeInts tabOk rfl rfl rfl rfl rfl (by first|omega|(simp;omega)) ?_
    |refine WpL.storeU8s tabOk rfl rfl rfl rfl rfl (by first|omega|(simp;omega)) ?_
    |refine WpL.storeRow (f:=prF) (b:=(_,_)) tabOk rfl rfl rfl rfl rfl (fun _=>rfl) rfl (by first|rfl|omega|(simp;done)|(simp;omega)) ?_
    |refine WpL.storeS tabOk rfl rfl rfl rfl rfl rfl rfl rfl (by first|decide|omega|(simp;omega)|(simp;done)) (by first|(simp only [Go.Abs.setL,List.set_cons_zero,List.set_cons_succ,Nat.zero_add,Nat.reduceAdd];exact rfl)|exact rfl) ?_)
   |(refine K.all ?_;first
    |refine WpL.allocStruct tabOk rfl rfl (by decide) ?_
    |refine WpL.allocPlain tabOk rfl rfl rfl (by decide) ?_)
   |(refine K.box ?_;refine WpL.box rfl rfl rfl (by decide) ?_)
   |(refine K.nc ?_;first
    |refine WpL.nilCheckP rfl rfl rfl (by decide) ?_)
   |(refine K.sl ?_;first
    |refine WpL.subStr tabOk rfl rfl (by first|exact .inl ⟨rfl,rfl⟩|exact .inr ⟨_,_,rfl,rfl⟩) (by first|exact .inl ⟨rfl,rfl⟩|exact .inr ⟨_,_,rfl,rfl⟩) (by omega) (by decide) ?_
    |refine WpL.subInts tabOk rfl rfl rfl rfl (by first|rfl|omega|(simp;done)|(simp;omega)) (by omega) (by decide) ?_
    |refine WpL.subImm tabOk rfl rfl (by first|exact .inl ⟨rfl,rfl⟩|exact .inr ⟨_,_,rfl,rfl⟩) (by first|exact .inl ⟨rfl,rfl⟩|exact .inr ⟨_,_,rfl,rfl⟩) (by omega) (by decide) ?_))
  |(refine K.le ?_;first|omega|(simp;omega)|assumption)
  |(refine K.lt ?_;first|omega|(simp;omega)|assumption)
  |refine And.intro ?_ ?_
  |omega
  |assumption
  |(simp;done)))
 first|done|fail):X:=h
end Go.Proofs.YtndflfipaddfoaaGreat


namespace Go.Abs
open Go
theorem run_eqF_same {P:Program} (w:World) (d:Nat) (xs:Array Value):∀fs:List Field,(∀ f∈fs,∃v,(part f.type xs f.offset).run P w=.ok v w∧(Op.equalIn d f.type v v).run P w=.ok true w)→(Op.eqFields d xs xs fs).run P w=.ok true w
 |[],_=>by simp [Op.eqFields]
 |f::fs,h=>by
  obtain ⟨v,h1,h2⟩:=h f (by simp)
  have ih:=run_eqF_same w d xs fs fun g hg=>h g (by simp [hg])
  unfold Op.eqFields
  split
  ·simp [Sem.run_bind,h1,h2,ih]
  ·exact ih
theorem run_eq_zi {P:Program} {t:TypeId} {f1 f2:Field} (hu:P.underlying t=some (.struct #[f1,f2])) (o1:f1.offset=0) (o2:f2.offset=1)
 (hi1:P.underlying f1.type=some .string) (hi2:P.underlying f2.type=some (.int .i64)) (hp:P.stoodInHeld t=false) (w:World) (a:ByteArray) (b:Int):
 (Op.equalIn 10000 t (.agg #[.string a,.int .i64 b]) (.agg #[.string a,.int .i64 b])).run P w=.ok true w:=by
 have hf:P.fieldsOf t=#[f1,f2]:=by unfold Program.fieldsOf;rw [hu]
 have h:=run_equalIn_struct (P:=P) w 9999 t #[.string a,.int .i64 b] #[.string a,.int .i64 b] (by rw [hf];exact hu) hp
 rw [hf] at h
 show (Op.equalIn (9999+1) _ _ _).run P w=_
 rw [h]
 refine run_eqF_same w 9999 _ _ fun f hf=>?_
 simp only [List.mem_cons,List.not_mem_nil,or_false] at hf
 rcases hf with rfl|rfl
 ·exact ⟨.string a,by rw [o1];simp [part,isAgg,Sem.run_bind,run_underlying hi1],by rw [run_equalIn_string (P:=P) w 9998 _ a a hi1];simp⟩
 ·exact ⟨.int .i64 b,by rw [o2];simp [part,isAgg,Sem.run_bind,run_underlying hi2],by rw [run_equalIn_int (P:=P) w 9998 _ .i64 .i64 b b hi2];simp⟩
theorem run_eq_z3 {P:Program} {t:TypeId} {f1 f2 f3 f4:Field} (hu:P.underlying t=some (.struct #[f1,f2,f3,f4])) (o1:f1.offset=0) (o2:f2.offset=1) (o3:f3.offset=2) (o4:f4.offset=3)
 (hi1:P.underlying f1.type=some .string) (hi2:P.underlying f2.type=some (.int .i64)) (hi3:P.underlying f3.type=some (.int .i64)) (hi4:P.underlying f4.type=some (.int .i64)) (hp:P.stoodInHeld t=false) (w:World) (a:ByteArray) (b c e:Int):
 (Op.equalIn 10000 t (.agg #[.string a,.int .i64 b,.int .i64 c,.int .i64 e]) (.agg #[.string a,.int .i64 b,.int .i64 c,.int .i64 e])).run P w=.ok true w:=by
 have hf:P.fieldsOf t=#[f1,f2,f3,f4]:=by unfold Program.fieldsOf;rw [hu]
 have h:=run_equalIn_struct (P:=P) w 9999 t #[.string a,.int .i64 b,.int .i64 c,.int .i64 e] #[.string a,.int .i64 b,.int .i64 c,.int .i64 e] (by rw [hf];exact hu) hp
 rw [hf] at h
 show (Op.equalIn (9999+1) _ _ _).run P w=_
 rw [h]
 refine run_eqF_same w 9999 _ _ fun f hf=>?_
 simp only [List.mem_cons,List.not_mem_nil,or_false] at hf
 rcases hf with rfl|rfl|rfl|rfl
 ·exact ⟨.string a,by rw [o1];simp [part,isAgg,Sem.run_bind,run_underlying hi1],by rw [run_equalIn_string (P:=P) w 9998 _ a a hi1];simp⟩
 ·exact ⟨.int .i64 b,by rw [o2];simp [part,isAgg,Sem.run_bind,run_underlying hi2],by rw [run_equalIn_int (P:=P) w 9998 _ .i64 .i64 b b hi2];simp⟩
 ·exact ⟨.int .i64 c,by rw [o3];simp [part,isAgg,Sem.run_bind,run_underlying hi3],by rw [run_equalIn_int (P:=P) w 9998 _ .i64 .i64 c c hi3];simp⟩
 ·exact ⟨.int .i64 e,by rw [o4];simp [part,isAgg,Sem.run_bind,run_underlying hi4],by rw [run_equalIn_int (P:=P) w 9998 _ .i64 .i64 e e hi4];simp⟩
class EqSm (P:Program) (t:TypeId) (k:Nat):Prop where
 eq:∀(w:World) (a:ByteArray) (bs:List Int),bs.length=k→(Op.equalIn 10000 t (.agg (.string a::bs.map (Value.int .i64)).toArray) (.agg (.string a::bs.map (Value.int .i64)).toArray)).run P w=.ok true w
 gd:P.eqGuardType P.depth t=false
section
variable {P:Program} {n m:Nat} {G:Ctx} {T:List (Nat×AV)} {O:List AObj} {Q:Exit→St→Prop} {md:Bool} {ops:Array Oper} {l:List Oper} {d:Nat} {tt:TypeId} {pos:String} {after:Array Edge}
theorem LRel.nums {S w ι O}:∀{bs:List Int} {us:List Value} {f},LRel S w ι O (bs.map fun b=>.sc (.int .i64 b)) us f→us=bs.map (Value.int .i64)
 |[],_,_,h=>by cases h;rfl
 |b::bs,_,_,h=>by
  cases h with
  |sc h2=>rw [LRel.nums h2];rfl
theorem RelAt.zs {S ι F a w} (hr:RelAt n m G S ι F ⟨T,O⟩ a w) {x:Operand} {p:List UInt8} {bs:List Int} (hx:av T x=.agg (.sc (.string ⟨p.toArray⟩)::bs.map fun b=>.sc (.int .i64 b))):a.eval x=.agg (.string ⟨p.toArray⟩::bs.map (Value.int .i64)).toArray:=by
 have h:=hr.eval x
 rw [hx] at h
 obtain ⟨us,e,hu⟩:=LRel.agg_inv h
 rw [e]
 cases hu with
 |sc h2=>rw [LRel.nums h2]
theorem WpL.smNe {t ty:TypeId} {x y:Operand} {k:Nat} {p:List UInt8} {bs:List Int} [hE:EqSm P t k] (hk:bs.length=k) (hx:av T x=.agg (.sc (.string ⟨p.toArray⟩)::bs.map fun b=>.sc (.int .i64 b))) (hy:av T y=.agg (.sc (.string ⟨p.toArray⟩)::bs.map fun b=>.sc (.int .i64 b))) (hn:d<n)
 (h:WpL P n m G md ops l ⟨(d,.sc (.bool false))::T,O⟩ Q):
 WpL P n m G md ops ({dst:=some d,op:=.binOp .neq t x y ty,type:=tt,pos:=pos,after:=after,guard:=none}::l) ⟨T,O⟩ Q:=
 WpL.pure rfl rfl hn (fun S ι F act w hr=>⟨_,by
  simp only [execOp,hr.zs hx,hr.zs hy,Sem.run_bind,run_eqGuard_agg (P:=P) w _ _ _ _ _ _ hE.gd,Result.andThen_ok,run_neq_struct (P:=P) w,hE.eq w _ _ hk,Sem.run_pure,Bool.not_true],.sc .nil⟩) h
theorem WpL.smEq {t ty:TypeId} {x y:Operand} {k:Nat} {p:List UInt8} {bs:List Int} [hE:EqSm P t k] (hk:bs.length=k) (hx:av T x=.agg (.sc (.string ⟨p.toArray⟩)::bs.map fun b=>.sc (.int .i64 b))) (hy:av T y=.agg (.sc (.string ⟨p.toArray⟩)::bs.map fun b=>.sc (.int .i64 b))) (hn:d<n)
 (h:WpL P n m G md ops l ⟨(d,.sc (.bool true))::T,O⟩ Q):
 WpL P n m G md ops ({dst:=some d,op:=.binOp .eql t x y ty,type:=tt,pos:=pos,after:=after,guard:=none}::l) ⟨T,O⟩ Q:=
 WpL.pure rfl rfl hn (fun S ι F act w hr=>⟨_,by
  simp only [execOp,hr.zs hx,hr.zs hy,Sem.run_bind,run_eqGuard_agg (P:=P) w _ _ _ _ _ _ hE.gd,Result.andThen_ok,run_eql_struct (P:=P) w,hE.eq w _ _ hk,Sem.run_pure],.sc .nil⟩) h
end
end Go.Abs


namespace Go.Proofs.YtndflfipaddfoaaGreat
open Go Go.Abs
attribute [local irreducible] WpA WpL Rnd Blk Abs.Seq Abs.Fin Abs.FinG FnC FnG FnX FnP FinX FinXW Only
attribute [local irreducible] mbS fmS flS syTR ueTab numB
instance smRd:EqSm Tryz.prog 62 1:=⟨fun w a bs hb=>match bs,hb with
 |[b],_=>run_eq_zi Tryz.underlying62 rfl rfl Tryz.underlying9 Tryz.underlying3 Tryz.stoodInHeld62 w a b,Tryz.eqGuardType62⟩
instance smCa:EqSm Tryz.prog 73 3:=⟨fun w a bs hb=>match bs,hb with
 |[b,c,e],_=>run_eq_z3 Tryz.underlying73 rfl rfl rfl rfl Tryz.underlying9 Tryz.underlying3 Tryz.underlying3 Tryz.underlying3 Tryz.stoodInHeld73 w a b c e,Tryz.eqGuardType73⟩
theorem wb_fm {p:List UInt8} {lens:List Int} (hc:CodeOk lens):(fmS p 0 0 0 (syTR lens) ueTab).e=(mbS p 0 lens).2∧(fmS p 0 0 0 (syTR lens) ueTab).bs=(mbS p 0 lens).1.bs∧(fmS p 0 0 0 (syTR lens) ueTab).c=(mbS p 0 lens).1.c∧plA p (fmS p 0 0 0 (syTR lens) ueTab).s (fmS p 0 0 0 (syTR lens) ueTab).w (fmS p 0 0 0 (syTR lens) ueTab).h=(mbS p 0 lens).1.a:=by
 have es:syTR lens=syTab lens:=by unfold syTR;rw [if_pos hc]
 have hca:CaOk p 0 0 0:=⟨⟨by decide,by omega⟩,⟨by decide,by decide,by decide⟩,by unfold numB;rfl⟩
 have hf:FmOk p 0 0 0 (syTab lens) ueTab:=⟨lf_sy hc,hca,rfl⟩
 have hp:plA p 0 0 0=0:=by unfold plA;rw [if_pos hca];rfl
 have hr:=mbS_ok (p:=p) (s:=0) (lens:=lens) ⟨by omega,by omega⟩
 have h1:=hr.1
 have h2:=hr.2
 rw [es,fmS_yes hf,hp,lnS_sy hc]
 refine ⟨rfl,rfl,rfl,?_⟩
 simp only
 generalize (mbS p 0 lens).1.a=a at*
 unfold plA
 rw [if_pos ⟨⟨by omega,by omega⟩,⟨by omega,by omega,by omega⟩,by
  have:8*((a+7:Int)/8)-(8*((a+7:Int)/8)-a)=a:=by omega
  rw [this]⟩]
 omega
theorem FnWrongBlocks_p (v:Value) (l:List Int) (hl:l.length≤9223372036854775807):FnP Tryz.prog 10 [.sc v] [] [v] [CodA l] [] [] (B true):=by
 by_cases hb:(l.length:Int)>1048576
 ·refine FnP.of_body tabOk Tryz.func10 Tryz.ntmps10 rfl (by decide +kernel) (by simp) rfl rfl rfl fun G hp=>?_
  refine goR (r:=?_);and_intros<;>intros<;>try exact True.intro
  refine WpL.pin (d:=23) hp rfl ?_
  refine go (r:=?_);and_intros<;>intros<;>try exact True.intro
  exact FinG.oI [] rfl (ResV.tmp rfl) (.keep rfl rfl rfl .nil) .nil rfl rfl
 ·have hl2:l.length≤1048576:=by omega
  refine FnP.of_body tabOk Tryz.func10 Tryz.ntmps10 rfl (by decide +kernel) (by simp) rfl rfl rfl fun G hp=>?_
  refine goR (r:=?_);and_intros<;>intros<;>try exact True.intro
  refine WpL.pin (d:=23) hp rfl ?_
  refine goR (r:=?_);and_intros<;>intros<;>try exact True.intro
  all_goals first|contradiction|omega|skip
  refine K.call ?_
  refine WpL.callE (hs:=[]) (DrawReadMb_x v l hl2) hp handA handOA rfl (fun _=>rfl) (fun _=>.nil) (fun _=>outA) rfl rfl (fun _=>rfl) (fun _=>rfl) (by decide) (fun y hy=>?_)
  obtain ⟨p,lens⟩:=y
  have hp1:=hy.1
  have hl6:=hy.2
  clear hy
  simp only at hp1 hl6 ⊢
  have hsm:=mbS_sm (p:=p) (s:=0) (lens:=lens)
  have hsl:=syTR_len lens
  have h5:=ueTab_len
  have hmb:SmB 1099511627776 (mbS p 0 lens).1.bs:=by unfold SmB;intro b hb;have:=hsm.2 b hb;omega
  by_cases hc:CodeOk lens
  ·have hd:=decide_eq_true hc
   have hw:=wb_fm (p:=p) hc
   refine goR (r:=?_);and_intros<;>intros<;>try exact True.intro
   all_goals first|contradiction|exact hmb|omega|skip
   refine WpL.smNe (k:=1) (bs:=[_]) rfl rfl rfl (by decide) ?_
   refine goR (r:=?_);and_intros<;>intros<;>try exact True.intro
   all_goals first|contradiction|exact hmb|omega|skip
   refine K.call ?_
   refine WpL.callE (hs:=[]) (DrawFastLevels_x v l hl2) hp handA handOA rfl (fun _=>rfl) (fun _=>.nil) (fun _=>outA) rfl rfl (fun _=>rfl) (fun _=>rfl) (by decide) (fun z hz=>?_)
   obtain ⟨q,s,w,h,n,t,tn⟩:=z
   have hq1:=hz.1
   have ht1:=hz.2.1
   have ht2:=hz.2.2
   clear hz
   simp only at hq1 ht1 ht2 ⊢
   subst ht2
   have hfl:=flS_len q s w h n t
   refine goR (r:=?_);and_intros<;>intros<;>try exact True.intro
   all_goals first|contradiction|exact hmb|omega|skip
   simp only [hw.1,hw.2.1,hw.2.2.1]
   have hpl:=hw.2.2.2
   try dsimp only [List.append,List.cons_append,List.nil_append]
   apply WpA.regionMG 30 mixed (by decide +kernel)
   ·exact rfl
   ·(repeat' (first
     |exact Abs.HeadJ.nil
     |(apply K.jbin;apply HeadJ.consB rfl
       ·exact rfl
       ·exact inG
       ·(first|rfl|exact decide_eq_true (by first|rfl|assumption|omega)|assumption)
       ·exact rfl)
     |(apply K.jbin;apply HeadJ.consB rfl
       ·exact rfl
       ·(repeat refine fun hgo=>?_
         refine K.L ?_;refine K.gd ?_;refine K.gT rfl (by decide) rfl ?_
         refine WpL.smEq (k:=3) (bs:=[_,_,_]) rfl rfl rfl (by decide) ?_
         exact WpL.nil (Only.mk rfl))
       ·(first|rfl|exact decide_eq_true (by first|rfl|assumption|omega)|assumption)
       ·exact rfl)
     |(apply K.jun;apply HeadJ.consB rfl
       ·exact rfl
       ·exact inG
       ·(first|rfl|exact decide_eq_true (by first|rfl|assumption|omega)|assumption)
       ·exact rfl)
     |(apply K.jcall;apply HeadJ.consB rfl
       ·exact rfl
       ·exact inG
       ·(first|rfl|exact decide_eq_true (by first|rfl|assumption|omega)|assumption)
       ·exact rfl)
     |(apply HeadJ.consF rfl
       ·exact rfl
       ·exact inG
       ·exact rfl)))
   ·exact trueA
   ·exact trueA
   ·exact rfl
   ·exact rfl
   refine go (r:=?_);and_intros<;>intros<;>try exact True.intro
   all_goals exact FinG.oI [] rfl (ResV.tmp rfl) (.keep rfl rfl rfl .nil) .nil rfl rfl
  ·have hd:=decide_eq_false hc
   refine goR (r:=?_);and_intros<;>intros<;>try exact True.intro
   all_goals first|contradiction|exact hmb|omega|skip
   refine WpL.smNe (k:=1) (bs:=[_]) rfl rfl rfl (by decide) ?_
   refine goR (r:=?_);and_intros<;>intros<;>try exact True.intro
   all_goals first|contradiction|exact hmb|omega|skip
   exact FinG.oI [] rfl (ResV.tmp rfl) (.keep rfl rfl rfl .nil) .nil rfl rfl
theorem FnWrongBlocks_c (l:List Int) (hl:l.length≤9223372036854775807):Fn 10 [CodA l] [] (B true):=FnC.of_pin fun v=>FnWrongBlocks_p v l hl
end Go.Proofs.YtndflfipaddfoaaGreat


namespace Go.Abs
open Go Go.RowKit
theorem FnC.walk {P:Program} {f:FuncId} {args:List AV} {N:List AObj} {x:Value} (hc:FnC P f args N (.sc x)) {w:World} {S:Nat→Prop} {vs:List Value} (hS:∀b,S b→b<w.heap.size)
 (hl:LRel S w (fun _=>none) [] args vs []):Calls P f vs.toArray w fun e w'=>e=.returned x∧Below w.heap.size w w':=by
 refine (hc.2 w S vs hS hl).mono fun e w' h=>?_
 obtain ⟨v,S',ι,F,rfl,_,_,_,_,_,hv,hk⟩:=h
 cases hv with
 |sc r=>exact ⟨rfl,hk.os,hk.tape,hk.output,hk.size,fun b hb=>hk.block b hb (fun h=>h)⟩
theorem spot_none {w:World} {x:Addr} {n:Nat} (h:0<n) (hc:∀i,i<n→∃v,w.cell? (x.add i)=some v):x.spot=none:=by
 obtain ⟨v,hv⟩:=hc 0 h
 simpa [Addr.add] using World.cell?_spot hv
end Go.Abs


namespace Go.Abs
open Go Go.RowKit
inductive Sp where
 |int (k:IntKind)|bool|str|struct (fs:List Sp)|slice (k:Nat) (e:Sp)
mutual
inductive SpOk (P:Program):TypeId→Sp→Prop
 |int {t k}:P.underlying t=some (.int k)→SpOk P t (.int k)
 |bool {t}:P.underlying t=some .bool→SpOk P t .bool
 |str {t}:P.underlying t=some .string→SpOk P t .str
 |struct {t fs sps n}:P.underlying t=some (.struct fs)→P.cellsOf t=n→SpF P 0 fs.toList sps n→SpOk P t (.struct sps)
 |slice {t e k sp}:P.underlying t=some (.slice e)→P.cellsOf e=k→0<k→SpOk P e sp→SpOk P t (.slice k sp)
inductive SpF (P:Program):Nat→List Field→List Sp→Nat→Prop
 |nil {k}:SpF P k [] [] k
 |cons {k c f fs sp sps n}:f.offset=k→P.cellsOf f.type=c→SpOk P f.type sp→SpF P (k+c) fs sps n→SpF P k (f::fs) (sp::sps) n
end
mutual
inductive Rd:Sp→List AV→Prop
 |int {k n}:(Lit.int k n).wf=true→Rd (.int k) [.sc (.int k n)]
 |bool {b}:Rd .bool [.sc (.bool b)]
 |str {p:List UInt8}:p.length≤maxLen→Rd .str [.sc (.string ⟨p.toArray⟩)]
 |struct {sps cs}:RdF sps cs→Rd (.struct sps) cs
 |slice {sp len k cs}:len≤maxLen→RdN sp len k cs→Rd (.slice k sp) [.imm k len cs]
inductive RdF:List Sp→List AV→Prop
 |nil:RdF [] []
 |cons {sp sps a b}:Rd sp a→RdF sps b→RdF (sp::sps) (a++b)
inductive RdN:Sp→Nat→Nat→List AV→Prop
 |nil {sp k}:RdN sp 0 k []
 |snoc {sp n k a b}:RdN sp n k a→Rd sp b→b.length=k→RdN sp (n+1) k (a++b)
end
theorem RdN.len {sp n k cs} (h:RdN sp n k cs):cs.length=n*k:=by
 induction n generalizing cs with
 |zero=>cases h;simp
 |succ n ih=>cases h with|snoc h1 h2 h3=>rw [List.length_append,ih h1,h3,Nat.add_mul];omega
section
variable {H:Type} {enc:TypeId×Value→H} {P:Program} {w:World} {base:Nat} {spare:Nat→Bool} {held:Bool}
theorem read {S:Nat→Prop} {ι:Nat→Spot} (hS:∀b,b<w.heap.size→S b):∀(fuel:Nat) (t:TypeId) (sp:Sp) (cs:List Value) (x:DataW H×List MemPlace),SpOk P t sp→
 DataW.trod enc P w base spare held fuel t cs=some x→∃ds,Rd sp ds∧∀O,LRel S w ι O ds cs []:=by
 intro fuel
 induction fuel with
 |zero=>intro t sp cs x _ h;simp [DataW.trod] at h
 |succ fuel ih=>
  intro t sp cs x hsp h
  cases hsp with
  |int ht=>
   obtain ⟨n,rfl,_,hw⟩:=DataW.trod_int ht h
   exact ⟨_,.int hw,fun O=>.sc .nil⟩
  |bool ht=>
   obtain ⟨b,rfl,_⟩:=DataW.trod_bool ht h
   exact ⟨_,.bool,fun O=>.sc .nil⟩
  |str ht=>
   obtain ⟨s,rfl,_,hs⟩:=DataW.trod_string ht h
   exact ⟨[.sc (.string ⟨s.data.toList.toArray⟩)],.str (by have:s.data.toList.length=s.size:=rfl;omega),fun O=>.sc .nil⟩
  |@struct _ fs sps n ht hn hf=>
   obtain ⟨xs,m,hm,_,hlen,hxl,hel⟩:=DataW.trod_struct ht h
   obtain rfl:fuel=m:=by omega
   have key:∀(fl:List Field) (k:Nat) (sps:List Sp),SpF P k fl sps n→(∀ f∈fl,∃x,DataW.trod enc P w base spare held fuel f.type ((cs.drop f.offset).take (P.cellsOf f.type))=some x)→
    k≤n→∃ds,RdF sps ds∧∀O,LRel S w ι O ds (cs.drop k) []:=by
    intro fl
    induction fl with
    |nil=>
     intro k sps hF _ _
     cases hF
     exact ⟨[],.nil,fun O=>by rw [List.drop_eq_nil_of_le (by omega)];exact .nil⟩
    |cons f fl ihf=>
     intro k sps hF hx hk
     cases hF with
     |cons h1 h2 h3 h4=>
      obtain ⟨y,hy⟩:=hx f (by simp)
      obtain ⟨d1,r1,l1⟩:=ih _ _ _ _ h3 hy
      have hkn:∀{k fl sps},SpF P k fl sps n→k≤n:=by
       intro k fl
       induction fl generalizing k with
       |nil=>intro sps h;cases h;exact Nat.le_refl _
       |cons f fl ih2=>intro sps h;cases h with|cons _ _ _ h=>have:=ih2 h;omega
      obtain ⟨d2,r2,l2⟩:=ihf _ _ h4 (fun g hg=>hx g (by simp [hg])) (hkn h4)
      refine ⟨d1++d2,.cons r1 r2,fun O=>?_⟩
      have e:cs.drop k=(cs.drop f.offset).take (P.cellsOf f.type)++cs.drop (k+P.cellsOf f.type):=by
       rw [h1,←List.drop_drop,List.take_append_drop]
      rw [e,h2]
      rw [h2] at l1
      simpa using (l1 O).append (l2 O)
   obtain ⟨ds,r,l⟩:=key fs.toList 0 sps hf (fun f hf'=>by
    obtain ⟨i,hi⟩:=List.getElem?_of_mem hf'
    have hi':fs[i]?=some f:=by simpa using hi
    have:=hel i f hi'
    have hlt:i<xs.length:=by have:=(Array.getElem?_eq_some_iff.1 hi').1;omega
    exact ⟨xs[i],by rw [this];simp [hlt]⟩) (Nat.zero_le _)
   exact ⟨ds,.struct r,fun O=>by simpa using l O⟩
  |@slice _ e k sp ht hk hk0 he=>
   rcases DataW.trod_slice ht h with ⟨rfl,_⟩|⟨a,len,cap,elems,rest,m,hm,rfl,_,hb,hl,hc,hlen,hel,_,_⟩
   ·exact ⟨[.imm k 0 []],.slice (by simp) .nil,fun O=>.imm0 (by simp) .nil⟩
   obtain rfl:fuel=m:=by omega
   have cells:∀j,j≤len→∃ds us,RdN sp j k ds∧us.length=j*k∧(∀ i,i<us.length→w.cell? (a.add i)=us[i]?)∧LRel S w ι [] ds us []:=by
    intro j
    induction j with
    |zero=>intro _;exact ⟨[],[],.nil,by simp,by simp,.nil⟩
    |succ j ihj=>
     intro hj
     obtain ⟨ds,us,h1,h2,h3,h4⟩:=ihj (by omega)
     have hx:=hel j (by omega)
     have hlt:j<elems.length:=by omega
     rw [List.getElem?_eq_getElem hlt,Option.bind_eq_some_iff,hk] at hx
     obtain ⟨us2,hu,ht2⟩:=hx
     obtain ⟨d2,r2,l2⟩:=ih _ _ _ _ he ht2
     obtain ⟨_,c2,c3⟩:=World.cells?_some hu
     have l2':=l2 []
     have hd2:d2.length=k:=by rw [l2'.len,c2]
     refine ⟨ds++d2,us++us2,.snoc h1 r2 hd2,by rw [List.length_append,h2,c2,Nat.add_mul];omega,fun i hi=>?_,by simpa using h4.append l2'⟩
     rw [List.length_append] at hi
     by_cases hlt2:i<us.length
     ·rw [h3 i hlt2,List.getElem?_append_left hlt2]
     ·have hadd:a.add i=(a.add (j*k)).add (i-j*k):=by
       unfold Addr.add
       by_cases hz:j*k=0
       ·simp [hz]
       ·by_cases hz2:i-j*k=0
        ·have:i=j*k:=by omega
         simp [this]
        ·rw [if_neg (by omega),if_neg hz,if_neg hz2]
         simp only [Addr.mk.injEq,true_and,and_true]
         omega
      rw [hadd,c3 (i-j*k) (by omega),List.getElem?_append_right (by omega),h2]
   obtain ⟨ds,us,h1,h2,h3,h4⟩:=cells len (Nat.le_refl _)
   refine ⟨[.imm k len ds],.slice (by omega) h1,fun O=>?_⟩
   by_cases h0:len=0
   ·subst h0
    cases h1
    exact .imm0 ⟨by simp,hc⟩ .nil
   ·have hul:0<us.length:=by rw [h2];exact Nat.mul_pos (by omega) hk0
    have hsp:=spot_none (w:=w) (x:=a) (n:=us.length) hul fun i hi=>⟨us[i],by rw [h3 i hi];simp [hi]⟩
    obtain ⟨b,o,q⟩:=a
    simp only at hsp
    subst hsp
    have hcell:∀i,i<us.length→w.cell? ⟨b,o+i,none⟩=us[i]?:=fun i hi=>by have:=h3 i hi;rwa [addr_add] at this
    refine .imm (us:=us) (hS _ ?_) hcell h4 (by rw [h1.len]) hl hc .nil
    by_cases hb':b<w.heap.size
    ·exact hb'
    ·have:=hcell 0 hul
     simp [World.cell?,Array.getElem?_eq_none (Nat.le_of_not_lt hb'),hul] at this
end
end Go.Abs


namespace Go.Abs
open Go Go.RowKit
abbrev i64 (n:Int):Prop:=-9223372036854775808≤n∧n≤9223372036854775807
theorem lrel_cons0 {S:Nat→Prop} {w:World} {ι:Nat→Spot} {O:List AObj} {V:AV} {v:Value} {cs:List AV} {vs:List Value} (h1:VRel S w ι O V v []) (h2:LRel S w ι O cs vs []):LRel S w ι O (V::cs) (v::vs) []:=LRel.cons h1 h2
end Go.Abs


namespace Go.Proofs.YtndflfipaddfoaaGreat
open Go Go.Abs Go.RowKit
theorem rdN_u8s {n:Nat} {cs:List AV} (h:RdN (.int .u8) n 1 cs):∃xs:List Int,cs=u8s xs∧xs.length=n∧∀x∈xs,0≤x∧x≤255:=by
 induction n generalizing cs with
 |zero=>cases h;exact ⟨[],rfl,rfl,by simp⟩
 |succ n ih=>
  cases h with
  |snoc h1 h2 h3=>
   obtain ⟨xs,rfl,h5,h6⟩:=ih h1
   cases h2 with
   |@int k m hw=>
    refine ⟨xs++[m],by simp [u8s],by simp [h5],fun x hx=>?_⟩
    rcases List.mem_append.1 hx with hx|hx
    ·exact h6 x hx
    ·have:x=m:=by simpa using hx
     subst this
     simpa [Lit.wf,show IntKind.u8.min=0 from rfl,show IntKind.u8.max=255 from rfl] using hw
theorem rd_u8s {ds:List AV} (h:Rd (.slice 1 (.int .u8)) ds):∃xs:List Int,ds=[.imm 1 xs.length (u8s xs)]∧xs.length≤9223372036854775807∧∀x∈xs,0≤x∧x≤255:=by
 cases h with
 |slice hl hn=>
  obtain ⟨xs,rfl,h1,h2⟩:=rdN_u8s hn
  subst h1
  exact ⟨xs,rfl,by simp only [maxLen] at hl;omega,h2⟩
end Go.Proofs.YtndflfipaddfoaaGreat
