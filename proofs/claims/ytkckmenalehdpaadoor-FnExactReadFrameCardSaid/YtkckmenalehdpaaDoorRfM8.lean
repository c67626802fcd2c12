/- Proved in this text: lemmas and contracts of functions that the claim uses (parts: GoR, AbsEq, AbsFl, AbsYr, AbsYs, Txt). No condition. -/
import Derived.Test.YtkckmenalehdpaaDoorRfM7
import Derived.Test.YtkckmenalehdpaaDoorRfM6
import Derived.Laws.StructEq
set_option linter.unusedVariables false
set_option linter.unusedSimpArgs false
set_option maxRecDepth 100000
set_option maxHeartbeats 4000000


namespace Go.Proofs.YtkckmenalehdpaaDoor
open Go Go.Abs
theorem goR {P R : Prop} (h : (Hold R → P) ∧ IsT R := by
  refine And.intro ?_ ?_
  · intro hold
    repeat' (first
    | (refine K.L ?_; first
      | (refine K.mv ?_; refine WpL.move rfl (by decide) ?_)
      | (refine K.asg ?_; refine WpL.assign rfl (by decide) ?_)
      | (refine K.bin ?_; first
        | refine WpL.add rfl rfl (by omega) (by decide) ?_
        | refine WpL.sub rfl rfl (by omega) (by decide) ?_
        | refine WpL.mul rfl rfl (by first | omega | exact mul_in (by omega) (by omega) | assumption) (by decide) ?_
        | refine WpL.quo rfl rfl (by omega) (by decide) ?_
        | refine WpL.rem rfl rfl (by omega) (by decide) ?_
        | refine WpL.bin rfl rfl rfl (by decide) ?_
        | refine WpL.strAdd rfl rfl (by first | omega | (simp only [List.length_append]; omega) | (simp; omega)) (by decide) ?_
        | refine WpL.strEq rfl rfl (by decide) ?_
        | refine WpL.strNe rfl rfl (by decide) ?_
        | refine WpL.boolNe (K.tyBool tabOk rfl) rfl rfl (by decide) ?_
        | refine WpL.shl rfl rfl (by first | decide | (simp only [IntKind.bits]; omega)) (by decide) ?_
        | refine WpL.shr rfl rfl (by first | decide | (simp only [IntKind.bits]; omega)) (by decide) ?_)
      | (refine K.ld ?_; first
        | refine WpL.loadInts tabOk rfl rfl rfl (by first | omega | (simp; omega)) (by decide) ?_
        | refine WpL.load1 tabOk rfl rfl rfl rfl rfl (by decide) ?_
        | refine WpL.loadAgg (ds := [_]) tabOk rfl rfl rfl rfl rfl (by decide) ?_
        | refine WpL.loadAgg (ds := [_, _]) tabOk rfl rfl rfl rfl rfl (by decide) ?_
        | refine WpL.loadAgg (ds := [_, _, _]) tabOk rfl rfl rfl rfl rfl (by decide) ?_
        | refine WpL.loadAgg (ds := [_, _, _, _]) tabOk rfl rfl rfl rfl rfl (by decide) ?_
        | refine WpL.loadAgg (ds := [_, _, _, _, _]) tabOk rfl rfl rfl rfl rfl (by decide) ?_
        | refine WpL.loadAgg (ds := [_, _, _, _, _, _]) tabOk rfl rfl rfl rfl rfl (by decide) ?_
        | refine WpL.loadAgg (ds := [_, _, _, _, _, _, _]) tabOk rfl rfl rfl rfl rfl (by decide) ?_
        | refine WpL.loadAgg (ds := [_, _, _, _, _, _, _, _]) tabOk rfl rfl rfl rfl rfl (by decide) ?_)
      | (refine K.fld ?_; first
        | refine WpL.fieldP tabOk rfl rfl rfl rfl rfl (by decide) ?_)
      | (refine K.ixa ?_; first
        | refine WpL.idxI1 tabOk rfl rfl rfl (by omega) (by decide) ?_
        | refine WpL.idxOJ tabOk rfl rfl rfl rfl rfl (by omega) (by decide) ?_
        | refine WpL.idxI tabOk rfl rfl rfl (by omega) (by decide) ?_
        | refine WpL.idxO tabOk rfl rfl rfl rfl rfl (by omega) (by decide) ?_)
      | (refine K.call ?_; refine K.con (fun hcon => ?_); first
        | (refine WpL.callF (hcon ?_) snapA locA outA rfl rfl rfl (by decide) ?_ <;> clear hcon)
        | (refine WpL.callF (hcon) snapA locA outA rfl rfl rfl (by decide) ?_ <;> clear hcon)
        | (refine WpL.callF (hcon _ ?_) snapA locA outA rfl rfl rfl (by decide) ?_ <;> clear hcon)
        | (refine WpL.callF (hcon _) snapA locA outA rfl rfl rfl (by decide) ?_ <;> clear hcon)
        | (refine WpL.callF (hcon _ _ ?_) snapA locA outA rfl rfl rfl (by decide) ?_ <;> clear hcon)
        | (refine WpL.callF (hcon _ _) snapA locA outA rfl rfl rfl (by decide) ?_ <;> clear hcon)
        | (refine WpL.callF (hcon _ _ _ ?_) snapA locA outA rfl rfl rfl (by decide) ?_ <;> clear hcon)
        | (refine WpL.callF (hcon _ _ _) snapA locA outA rfl rfl rfl (by decide) ?_ <;> clear hcon)
        | (refine WpL.callF (hcon _ _ _ _ ?_) snapA locA outA rfl rfl rfl (by decide) ?_ <;> clear hcon)
        | (refine WpL.callF (hcon _ _ _ _) snapA locA outA rfl rfl rfl (by decide) ?_ <;> clear hcon)
        | (refine WpL.callF (hcon _ _ _ _ _ ?_) snapA locA outA rfl rfl rfl (by decide) ?_ <;> clear hcon)
        | (refine WpL.callF (hcon _ _ _ _ _) snapA locA outA rfl rfl rfl (by decide) ?_ <;> clear hcon)
        | (refine WpL.callF (hcon _ _ _ _ _ _ ?_) snapA locA outA rfl rfl rfl (by decide) ?_ <;> clear hcon)
        | (refine WpL.callF (hcon _ _ _ _ _ _) snapA locA outA rfl rfl rfl (by decide) ?_ <;> clear hcon)
        | (refine WpL.callF (hcon _ _ _ _ _ _ _ ?_) snapA locA outA rfl rfl rfl (by decide) ?_ <;> clear hcon)
        | (refine WpL.callF (hcon _ _ _ _ _ _ _) snapA locA outA rfl rfl rfl (by decide) ?_ <;> clear hcon)
        | (refine WpL.callF (hcon _ _ _ _ _ _ _ _ ?_) snapA locA outA rfl rfl rfl (by decide) ?_ <;> clear hcon)
        | (refine WpL.callF (hcon _ _ _ _ _ _ _ _) snapA locA outA rfl rfl rfl (by decide) ?_ <;> clear hcon)
        | (refine WpL.callF (hcon _ _ _ _ _ _ _ _ _ ?_) snapA locA outA rfl rfl rfl (by decide) ?_ <;> clear hcon)
        | (refine WpL.callF (hcon _ _ _ _ _ _ _ _ _) snapA locA outA rfl rfl rfl (by decide) ?_ <;> clear hcon)
        | (refine WpL.callF (hcon _ _ _ _ _ _ _ _ _ _ ?_) snapA locA outA rfl rfl rfl (by decide) ?_ <;> clear hcon)
        | (refine WpL.callF (hcon _ _ _ _ _ _ _ _ _ _) snapA locA outA rfl rfl rfl (by decide) ?_ <;> clear hcon)
        | (refine WpL.callF (hcon _ _ _ _ _ _ _ _ _ _ _ ?_) snapA locA outA rfl rfl rfl (by decide) ?_ <;> clear hcon)
        | (refine WpL.callF (hcon _ _ _ _ _ _ _ _ _ _ _) snapA locA outA rfl rfl rfl (by decide) ?_ <;> clear hcon)
        | (refine WpL.callF (hcon _ _ _ _ _ _ _ _ _ _ _ _ ?_) snapA locA outA rfl rfl rfl (by decide) ?_ <;> clear hcon)
        | (refine WpL.callF (hcon _ _ _ _ _ _ _ _ _ _ _ _) snapA locA outA rfl rfl rfl (by decide) ?_ <;> clear hcon)
        | (refine WpL.callF (hcon _ _ _ _ _ _ _ _ _ _ _ _ _ ?_) snapA locA outA rfl rfl rfl (by decide) ?_ <;> clear hcon)
        | (refine WpL.callF (hcon _ _ _ _ _ _ _ _ _ _ _ _ _) snapA locA outA rfl rfl rfl (by decide) ?_ <;> clear hcon)
        | (refine WpL.callF (hcon _ _ _ _ _ _ _ _ _ _ _ _ _ _ ?_) snapA locA outA rfl rfl rfl (by decide) ?_ <;> clear hcon)
        | (refine WpL.callF (hcon _ _ _ _ _ _ _ _ _ _ _ _ _ _) snapA locA outA rfl rfl rfl (by decide) ?_ <;> clear hcon)
        | (refine WpL.callF (hcon _ _ _ _ _ _ _ _ _ _ _ _ _ _ _ ?_) snapA locA outA rfl rfl rfl (by decide) ?_ <;> clear hcon)
        | (refine WpL.callF (hcon _ _ _ _ _ _ _ _ _ _ _ _ _ _ _) snapA locA outA rfl rfl rfl (by decide) ?_ <;> clear hcon)
        | (refine WpL.callF (hcon _ _ _ _ _ _ _ _ _ _ _ _ _ _ _ _ ?_) snapA locA outA rfl rfl rfl (by decide) ?_ <;> clear hcon)
        | (refine WpL.callF (hcon _ _ _ _ _ _ _ _ _ _ _ _ _ _ _ _) snapA locA outA rfl rfl rfl (by decide) ?_ <;> clear hcon)
        | (refine WpL.callF (hcon _ _ _ _ _ _ _ _ _ _ _ _ _ _ _ _ _ ?_) snapA locA outA rfl rfl rfl (by decide) ?_ <;> clear hcon)
        | (refine WpL.callF (hcon _ _ _ _ _ _ _ _ _ _ _ _ _ _ _ _ _) snapA locA outA rfl rfl rfl (by decide) ?_ <;> clear hcon)
        | (refine WpL.callF (hcon _ _ _ _ _ _ _ _ _ _ _ _ _ _ _ _ _ _ ?_) snapA locA outA rfl rfl rfl (by decide) ?_ <;> clear hcon)
        | (refine WpL.callF (hcon _ _ _ _ _ _ _ _ _ _ _ _ _ _ _ _ _ _) snapA locA outA rfl rfl rfl (by decide) ?_ <;> clear hcon))
      | (refine K.call ?_; refine K.conG (fun hcon => ?_); first
        | (refine WpL.callM (hs := [_]) (hcon ?_) handA handOA rfl rfl outA outA rfl rfl rfl rfl (by decide) ?_ <;> clear hcon)
        | (refine WpL.callM (hs := [_]) (hcon) handA handOA rfl rfl outA outA rfl rfl rfl rfl (by decide) ?_ <;> clear hcon)
        | (refine WpL.callM (hs := [_]) (hcon _ ?_) handA handOA rfl rfl outA outA rfl rfl rfl rfl (by decide) ?_ <;> clear hcon)
        | (refine WpL.callM (hs := [_]) (hcon _) handA handOA rfl rfl outA outA rfl rfl rfl rfl (by decide) ?_ <;> clear hcon)
        | (refine WpL.callM (hs := [_]) (hcon _ _ ?_) handA handOA rfl rfl outA outA rfl rfl rfl rfl (by decide) ?_ <;> clear hcon)
        | (refine WpL.callM (hs := [_]) (hcon _ _) handA handOA rfl rfl outA outA rfl rfl rfl rfl (by decide) ?_ <;> clear hcon)
        | (refine WpL.callM (hs := [_]) (hcon _ _ _ ?_) handA handOA rfl rfl outA outA rfl rfl rfl rfl (by decide) ?_ <;> clear hcon)
        | (refine WpL.callM (hs := [_]) (hcon _ _ _) handA handOA rfl rfl outA outA rfl rfl rfl rfl (by decide) ?_ <;> clear hcon)
        | (refine WpL.callM (hs := [_]) (hcon _ _ _ _ ?_) handA handOA rfl rfl outA outA rfl rfl rfl rfl (by decide) ?_ <;> clear hcon)
        | (refine WpL.callM (hs := [_]) (hcon _ _ _ _) handA handOA rfl rfl outA outA rfl rfl rfl rfl (by decide) ?_ <;> clear hcon)
        | (refine WpL.callM (hs := [_]) (hcon _ _ _ _ _ ?_) handA handOA rfl rfl outA outA rfl rfl rfl rfl (by decide) ?_ <;> clear hcon)
        | (refine WpL.callM (hs := [_]) (hcon _ _ _ _ _) handA handOA rfl rfl outA outA rfl rfl rfl rfl (by decide) ?_ <;> clear hcon)
        | (refine WpL.callM (hs := [_]) (hcon _ _ _ _ _ _ ?_) handA handOA rfl rfl outA outA rfl rfl rfl rfl (by decide) ?_ <;> clear hcon)
        | (refine WpL.callM (hs := [_]) (hcon _ _ _ _ _ _) handA handOA rfl rfl outA outA rfl rfl rfl rfl (by decide) ?_ <;> clear hcon)
        | (refine WpL.callM (hs := [_]) (hcon _ _ _ _ _ _ _ ?_) handA handOA rfl rfl outA outA rfl rfl rfl rfl (by decide) ?_ <;> clear hcon)
        | (refine WpL.callM (hs := [_]) (hcon _ _ _ _ _ _ _) handA handOA rfl rfl outA outA rfl rfl rfl rfl (by decide) ?_ <;> clear hcon)
        | (refine WpL.callM (hs := [_]) (hcon _ _ _ _ _ _ _ _ ?_) handA handOA rfl rfl outA outA rfl rfl rfl rfl (by decide) ?_ <;> clear hcon)
        | (refine WpL.callM (hs := [_]) (hcon _ _ _ _ _ _ _ _) handA handOA rfl rfl outA outA rfl rfl rfl rfl (by decide) ?_ <;> clear hcon)
        | (refine WpL.callM (hs := [_, _]) (hcon ?_) handA handOA rfl rfl outA outA rfl rfl rfl rfl (by decide) ?_ <;> clear hcon)
        | (refine WpL.callM (hs := [_, _]) (hcon) handA handOA rfl rfl outA outA rfl rfl rfl rfl (by decide) ?_ <;> clear hcon)
        | (refine WpL.callM (hs := [_, _]) (hcon _ ?_) handA handOA rfl rfl outA outA rfl rfl rfl rfl (by decide) ?_ <;> clear hcon)
        | (refine WpL.callM (hs := [_, _]) (hcon _) handA handOA rfl rfl outA outA rfl rfl rfl rfl (by decide) ?_ <;> clear hcon)
        | (refine WpL.callM (hs := [_, _]) (hcon _ _ ?_) handA handOA rfl rfl outA outA rfl rfl rfl rfl (by decide) ?_ <;> clear hcon)
        | (refine WpL.callM (hs := [_, _]) (hcon _ _) handA handOA rfl rfl outA outA rfl rfl rfl rfl (by decide) ?_ <;> clear hcon)
        | (refine WpL.callM (hs := [_, _]) (hcon _ _ _ ?_) handA handOA rfl rfl outA outA rfl rfl rfl rfl (by decide) ?_ <;> clear hcon)
        | (refine WpL.callM (hs := [_, _]) (hcon _ _ _) handA handOA rfl rfl outA outA rfl rfl rfl rfl (by decide) ?_ <;> clear hcon)
        | (refine WpL.callM (hs := [_, _]) (hcon _ _ _ _ ?_) handA handOA rfl rfl outA outA rfl rfl rfl rfl (by decide) ?_ <;> clear hcon)
        | (refine WpL.callM (hs := [_, _]) (hcon _ _ _ _) handA handOA rfl rfl outA outA rfl rfl rfl rfl (by decide) ?_ <;> clear hcon)
        | (refine WpL.callM (hs := [_, _]) (hcon _ _ _ _ _ ?_) handA handOA rfl rfl outA outA rfl rfl rfl rfl (by decide) ?_ <;> clear hcon)
        | (refine WpL.callM (hs := [_, _]) (hcon _ _ _ _ _) handA handOA rfl rfl outA outA rfl rfl rfl rfl (by decide) ?_ <;> clear hcon)
        | (refine WpL.callM (hs := [_, _]) (hcon _ _ _ _ _ _ ?_) handA handOA rfl rfl outA outA rfl rfl rfl rfl (by decide) ?_ <;> clear hcon)
        | (refine WpL.callM (hs := [_, _]) (hcon _ _ _ _ _ _) handA handOA rfl rfl outA outA rfl rfl rfl rfl (by decide) ?_ <;> clear hcon)
        | (refine WpL.callM (hs := [_, _]) (hcon _ _ _ _ _ _ _ ?_) handA handOA rfl rfl outA outA rfl rfl rfl rfl (by decide) ?_ <;> clear hcon)
        | (refine WpL.callM (hs := [_, _]) (hcon _ _ _ _ _ _ _) handA handOA rfl rfl outA outA rfl rfl rfl rfl (by decide) ?_ <;> clear hcon)
        | (refine WpL.callM (hs := [_, _]) (hcon _ _ _ _ _ _ _ _ ?_) handA handOA rfl rfl outA outA rfl rfl rfl rfl (by decide) ?_ <;> clear hcon)
        | (refine WpL.callM (hs := [_, _]) (hcon _ _ _ _ _ _ _ _) handA handOA rfl rfl outA outA rfl rfl rfl rfl (by decide) ?_ <;> clear hcon)
        | (refine WpL.callM (hs := [_, _, _]) (hcon ?_) handA handOA rfl rfl outA outA rfl rfl rfl rfl (by decide) ?_ <;> clear hcon)
        | (refine WpL.callM (hs := [_, _, _]) (hcon) handA handOA rfl rfl outA outA rfl rfl rfl rfl (by decide) ?_ <;> clear hcon)
        | (refine WpL.callM (hs := [_, _, _]) (hcon _ ?_) handA handOA rfl rfl outA outA rfl rfl rfl rfl (by decide) ?_ <;> clear hcon)
        | (refine WpL.callM (hs := [_, _, _]) (hcon _) handA handOA rfl rfl outA outA rfl rfl rfl rfl (by decide) ?_ <;> clear hcon)
        | (refine WpL.callM (hs := [_, _, _]) (hcon _ _ ?_) handA handOA rfl rfl outA outA rfl rfl rfl rfl (by decide) ?_ <;> clear hcon)
        | (refine WpL.callM (hs := [_, _, _]) (hcon _ _) handA handOA rfl rfl outA outA rfl rfl rfl rfl (by decide) ?_ <;> clear hcon)
        | (refine WpL.callM (hs := [_, _, _]) (hcon _ _ _ ?_) handA handOA rfl rfl outA outA rfl rfl rfl rfl (by decide) ?_ <;> clear hcon)
        | (refine WpL.callM (hs := [_, _, _]) (hcon _ _ _) handA handOA rfl rfl outA outA rfl rfl rfl rfl (by decide) ?_ <;> clear hcon)
        | (refine WpL.callM (hs := [_, _, _]) (hcon _ _ _ _ ?_) handA handOA rfl rfl outA outA rfl rfl rfl rfl (by decide) ?_ <;> clear hcon)
        | (refine WpL.callM (hs := [_, _, _]) (hcon _ _ _ _) handA handOA rfl rfl outA outA rfl rfl rfl rfl (by decide) ?_ <;> clear hcon)
        | (refine WpL.callM (hs := [_, _, _]) (hcon _ _ _ _ _ ?_) handA handOA rfl rfl outA outA rfl rfl rfl rfl (by decide) ?_ <;> clear hcon)
        | (refine WpL.callM (hs := [_, _, _]) (hcon _ _ _ _ _) handA handOA rfl rfl outA outA rfl rfl rfl rfl (by decide) ?_ <;> clear hcon)
        | (refine WpL.callM (hs := [_, _, _]) (hcon _ _ _ _ _ _ ?_) handA handOA rfl rfl outA outA rfl rfl rfl rfl (by decide) ?_ <;> clear hcon)
        | (refine WpL.callM (hs := [_, _, _]) (hcon _ _ _ _ _ _) handA handOA rfl rfl outA outA rfl rfl rfl rfl (by decide) ?_ <;> clear hcon)
        | (refine WpL.callM (hs := [_, _, _]) (hcon _ _ _ _ _ _ _ ?_) handA handOA rfl rfl outA outA rfl rfl rfl rfl (by decide) ?_ <;> clear hcon)
        | (refine WpL.callM (hs := [_, _, _]) (hcon _ _ _ _ _ _ _) handA handOA rfl rfl outA outA rfl rfl rfl rfl (by decide) ?_ <;> clear hcon)
        | (refine WpL.callM (hs := [_, _, _]) (hcon _ _ _ _ _ _ _ _ ?_) handA handOA rfl rfl outA outA rfl rfl rfl rfl (by decide) ?_ <;> clear hcon)
        | (refine WpL.callM (hs := [_, _, _]) (hcon _ _ _ _ _ _ _ _) handA handOA rfl rfl outA outA rfl rfl rfl rfl (by decide) ?_ <;> clear hcon)
        | (refine WpL.callM (hs := [_, _, _, _]) (hcon ?_) handA handOA rfl rfl outA outA rfl rfl rfl rfl (by decide) ?_ <;> clear hcon)
        | (refine WpL.callM (hs := [_, _, _, _]) (hcon) handA handOA rfl rfl outA outA rfl rfl rfl rfl (by decide) ?_ <;> clear hcon)
        | (refine WpL.callM (hs := [_, _, _, _]) (hcon _ ?_) handA handOA rfl rfl outA outA rfl rfl rfl rfl (by decide) ?_ <;> clear hcon)
        | (refine WpL.callM (hs := [_, _, _, _]) (hcon _) handA handOA rfl rfl outA outA rfl rfl rfl rfl (by decide) ?_ <;> clear hcon)
        | (refine WpL.callM (hs := [_, _, _, _]) (hcon _ _ ?_) handA handOA rfl rfl outA outA rfl rfl rfl rfl (by decide) ?_ <;> clear hcon)
        | (refine WpL.callM (hs := [_, _, _, _]) (hcon _ _) handA handOA rfl rfl outA outA rfl rfl rfl rfl (by decide) ?_ <;> clear hcon)
        | (refine WpL.callM (hs := [_, _, _, _]) (hcon _ _ _ ?_) handA handOA rfl rfl outA outA rfl rfl rfl rfl (by decide) ?_ <;> clear hcon)
        | (refine WpL.callM (hs := [_, _, _, _]) (hcon _ _ _) handA handOA rfl rfl outA outA rfl rfl rfl rfl (by decide) ?_ <;> clear hcon)
        | (refine WpL.callM (hs := [_, _, _, _]) (hcon _ _ _ _ ?_) handA handOA rfl rfl outA outA rfl rfl rfl rfl (by decide) ?_ <;> clear hcon)
        | (refine WpL.callM (hs := [_, _, _, _]) (hcon _ _ _ _) handA handOA rfl rfl outA outA rfl rfl rfl rfl (by decide) ?_ <;> clear hcon)
        | (refine WpL.callM (hs := [_, _, _, _]) (hcon _ _ _ _ _ ?_) handA handOA rfl rfl outA outA rfl rfl rfl rfl (by decide) ?_ <;> clear hcon)
        | (refine WpL.callM (hs := [_, _, _, _]) (hcon _ _ _ _ _) handA handOA rfl rfl outA outA rfl rfl rfl rfl (by decide) ?_ <;> clear hcon)
        | (refine WpL.callM (hs := [_, _, _, _]) (hcon _ _ _ _ _ _ ?_) handA handOA rfl rfl outA outA rfl rfl rfl rfl (by decide) ?_ <;> clear hcon)
        | (refine WpL.callM (hs := [_, _, _, _]) (hcon _ _ _ _ _ _) handA handOA rfl rfl outA outA rfl rfl rfl rfl (by decide) ?_ <;> clear hcon)
        | (refine WpL.callM (hs := [_, _, _, _]) (hcon _ _ _ _ _ _ _ ?_) handA handOA rfl rfl outA outA rfl rfl rfl rfl (by decide) ?_ <;> clear hcon)
        | (refine WpL.callM (hs := [_, _, _, _]) (hcon _ _ _ _ _ _ _) handA handOA rfl rfl outA outA rfl rfl rfl rfl (by decide) ?_ <;> clear hcon)
        | (refine WpL.callM (hs := [_, _, _, _]) (hcon _ _ _ _ _ _ _ _ ?_) handA handOA rfl rfl outA outA rfl rfl rfl rfl (by decide) ?_ <;> clear hcon)
        | (refine WpL.callM (hs := [_, _, _, _]) (hcon _ _ _ _ _ _ _ _) handA handOA rfl rfl outA outA rfl rfl rfl rfl (by decide) ?_ <;> clear hcon))
      | (refine K.call ?_; refine K.conB (fun hcon => ?_); first
        | (refine WpL.callB (hcon _ _ _ _ _ _ _ _) snapA locA outA locA outA rfl rfl rfl rfl rfl (by decide) ?_ ?_ <;> clear hcon))
      | (refine K.call ?_; refine K.conP (fun hcon => ?_); first
        | (refine WpL.callP (hs := [_]) (hcon _ _ _ _ _ _ _ _ _ _) (by assumption) handA handOA rfl rfl (.cons rfl (.sc (.sc (.sc .nil))) .nil) outA rfl rfl rfl rfl (by decide) ?_ <;> clear hcon))
      | (refine K.ix ?_; first
        | refine WpL.idxStr1 tabOk rfl rfl rfl (by omega) (by decide) (fun hgo => ?_)
        | refine WpL.idxStrB tabOk rfl rfl rfl (by omega) (by decide) (fun hgo => ?_))
      | (refine K.bi ?_; first
        | (refine K.blen ?_; first
          | refine WpL.lenImm (TabOk.slice tabOk rfl).1 rfl (by decide) ?_
          | refine WpL.lenOwn (TabOk.slice tabOk rfl).1 rfl rfl rfl (by decide) ?_
          | refine WpL.lenStr (K.tyStr tabOk rfl) rfl (by decide) ?_)
        | (refine K.bapp ?_; first
          | refine WpL.app1Ints tabOk rfl rfl rfl (by first | exact Nat.zero_le _ | exact Nat.le_of_ble_eq_true rfl) rfl rfl (by first | rfl | omega | (simp; done) | (simp; omega)) (by omega) (by decide) ?_
          | refine WpL.app1U8s tabOk rfl rfl rfl (by first | exact Nat.zero_le _ | exact Nat.le_of_ble_eq_true rfl) rfl rfl (by first | rfl | omega | (simp; done) | (simp; omega)) (by omega) (by decide) ?_
          | refine WpL.appU8s tabOk rfl rfl rfl (by first | exact Nat.zero_le _ | exact Nat.le_of_ble_eq_true rfl) rfl rfl (by first | rfl | omega | (simp; done) | (simp; omega)) (by first | rfl | omega | (simp; done) | (simp; omega)) (by omega) (by decide) ?_
          | refine WpL.appOwn tabOk rfl rfl rfl rfl rfl rfl (by simp) (by first | exact Nat.zero_le _ | exact Nat.le_of_ble_eq_true rfl) rfl rfl (by simp) (by simp [all_ints, all_u8s, all_strs, oneB, Value.oneCell']) (by omega) (by decide) ?_)
        | refine WpL.max2 rfl rfl (by decide) ?_)
      | (refine K.un ?_; first
        | refine WpL.not rfl (by decide) ?_)
      | (refine K.pick ?_; first
        | refine WpL.pickT rfl rfl (by decide) ?_
        | refine WpL.pickF rfl rfl (by decide) ?_)
      | (refine K.bld ?_; refine WpL.build tabOk rfl rfl (by kernel_rfl) (by decide) ?_)
      | (refine K.ext ?_; refine WpL.extract rfl rfl (by first | decide | simp [AV.shL]) (by decide) ?_)
      | (refine K.cv ?_; first
        | refine WpL.convI (P := Tryd.prog) (by rfl) (K.tyInt tabOk rfl) rfl (by omega) (by decide) ?_
        | refine WpL.conv (P := Tryd.prog) (by rfl) (K.tyInt tabOk rfl) rfl (by decide) ?_
        | refine WpL.ofBytes tabOk rfl rfl rfl rfl rfl (by simp) (by decide) ?_)
      | (refine K.lit ?_; first
        | refine WpL.lit0U8s tabOk rfl rfl rfl (by decide) ?_
        | refine WpL.litInts tabOk rfl rfl rfl rfl rfl (by decide) rfl (by decide) ?_
        | refine WpL.litU8s tabOk rfl rfl rfl rfl rfl (by decide) rfl (by decide) ?_
        | refine WpL.litF tabOk rfl rfl rfl rfl (by decide) rfl (by decide) ?_)
      | (refine K.st ?_; first
        | refine WpL.storeInts tabOk rfl rfl rfl rfl rfl (by first | omega | (simp; omega)) ?_
        | refine WpL.storeS tabOk rfl rfl rfl rfl rfl rfl rfl rfl (by first | decide | omega | (simp; omega) | (simp; done)) (by first | (simp only [Go.Abs.setL, List.set_cons_zero, List.set_cons_succ, Nat.zero_add, Nat.reduceAdd]; exact rfl) | exact rfl) ?_)
      | (refine K.all ?_; first
        | refine WpL.allocB (b := bldT) tabOk rfl rfl rfl (by decide) ?_
        | refine WpL.allocStruct tabOk rfl rfl (by decide) ?_)
      | (refine K.box ?_; refine WpL.box rfl rfl rfl (by decide) ?_)
      | (refine K.nc ?_; first
        | refine WpL.nilCheckP rfl rfl rfl (by decide) ?_)
      | (refine K.sl ?_; first
        | refine WpL.subStr tabOk rfl rfl (by first | exact .inl ⟨rfl, rfl⟩ | exact .inr ⟨_, _, rfl, rfl⟩) (by first | exact .inl ⟨rfl, rfl⟩ | exact .inr ⟨_, _, rfl, rfl⟩) (by omega) (by decide) ?_)
      | (refine K.gd ?_; first
        | refine K.gT rfl (by decide) rfl ?_
        | refine K.gF rfl (by decide) rfl ?_
        | (refine K.gD rfl rfl (fun hgo => ?_) (fun hgo => ?_) <;> (try (first | contradiction | (exfalso; omega))))
        | (refine K.gN rfl rfl (fun hgo => ?_) (fun hgo => ?_) <;> (try (first | contradiction | (exfalso; omega))))
        | (refine K.gS rfl rfl (fun hgo => ?_) (fun hgo => ?_) <;> (try (first | contradiction | (exfalso; omega)))))
      | ((repeat (revert hgo)); (repeat ((fail_if_success with_reducible apply Hold.h hold); replace hold := Hold.t hold)); with_reducible apply Hold.h hold))
    | refine WpL.nil ?_
    | refine Abs.Seq.n ?_
    | (refine K.A ?_; first
      | refine WpA.seq ?_
      | refine WpA.regionF rfl ?_
      | (refine K.cond ?_; first
        | refine WpA.condT rfl ?_
        | refine WpA.condF rfl ?_
        | (refine WpA.condD rfl (fun hgo => ?_) (fun hgo => ?_) <;> (try (first | contradiction | (exfalso; omega))))
        | (refine WpA.condN rfl (fun hgo => ?_) (fun hgo => ?_) <;> (try (first | contradiction | (exfalso; omega))))
        | (refine WpA.condS rfl (fun hgo => ?_) (fun hgo => ?_) <;> (try (first | contradiction | (exfalso; omega)))))
      | refine WpA.block ?_
      | refine WpA.ret ?_
      | refine WpA.exit ?_
      | refine WpA.skip ?_
      | (refine K.loop ?_; ((repeat (revert hgo)); (repeat ((fail_if_success with_reducible apply Hold.h hold); replace hold := Hold.t hold)); with_reducible apply Hold.h hold))
      | ((repeat (revert hgo)); (repeat ((fail_if_success with_reducible apply Hold.h hold); replace hold := Hold.t hold)); with_reducible apply Hold.h hold))
    | (refine K.RT ?_; first
      | exact ReT.nil
      | refine ReT.same rfl rfl ?_
      | refine ReT.own rfl rfl rfl rfl rfl rfl (by first | rfl | omega | (simp; done) | (simp; omega)) ?_
      | refine ReT.i rfl ?_ ?_
      | refine ReT.ptr rfl rfl rfl rfl rfl ?_)
    | (refine TrueB.mk ?_; kernel_rfl)
    | (apply K.eq; first | exact rfl | omega | assumption | (simp; done) | (simp; omega) | (exact absurd (by simp; done) ‹¬ _›) | ((repeat (revert hgo)); (repeat ((fail_if_success with_reducible apply Hold.h hold); replace hold := Hold.t hold)); with_reducible apply Hold.h hold))
    | (refine K.le ?_; first | omega | (simp; omega) | assumption | ((repeat (revert hgo)); (repeat ((fail_if_success with_reducible apply Hold.h hold); replace hold := Hold.t hold)); with_reducible apply Hold.h hold))
    | (refine K.lt ?_; first | omega | (simp; omega) | assumption | ((repeat (revert hgo)); (repeat ((fail_if_success with_reducible apply Hold.h hold); replace hold := Hold.t hold)); with_reducible apply Hold.h hold))
    | refine And.intro ?_ ?_
    | (refine K.RO ?_; first
      | exact ReO.nil
      | refine ReO.ints ?_ (by first | exact .inl rfl | exact .inr rfl) ?_
      | refine ReO.u8s ?_ (by first | exact .inl rfl | exact .inr rfl) ?_
      | refine ReO.cons (Re.same rfl rfl) (by first | exact .inl rfl | exact .inr rfl) ?_
      | refine ReO.cons ?_ (by first | exact .inl rfl | exact .inr rfl) ?_)
    | (refine K.W ?_; first
      | refine Weak.mk ?_ ?_ (by first | exact Nat.zero_le _ | exact Nat.le_of_ble_eq_true rfl))
    | refine Abs.Seq.ret ?_
    | refine Abs.Seq.exit ?_
    | refine Blk.n ?_
    | refine Blk.ret ?_
    | refine Blk.exitHere ?_
    | (refine K.R ?_; first
      | refine Rnd.ret ?_
      | refine Rnd.exit ?_
      | refine Rnd.succ ?_ ?_ ?_
      | ((repeat (revert hgo)); (repeat ((fail_if_success with_reducible apply Hold.h hold); replace hold := Hold.t hold)); with_reducible apply Hold.h hold))
    | (refine K.F ?_; first
      | apply Fin.one0
      | apply Fin.two0
      | apply Fin.two1
      | ((repeat (revert hgo)); (repeat ((fail_if_success with_reducible apply Hold.h hold); replace hold := Hold.t hold)); with_reducible apply Hold.h hold))
    | (refine K.FG ?_; first
      | apply FinG.o10
      | ((repeat (revert hgo)); (repeat ((fail_if_success with_reducible apply Hold.h hold); replace hold := Hold.t hold)); with_reducible apply Hold.h hold))
    | exact ResV.tmp rfl
    | exact ResV.cellP rfl rfl rfl rfl rfl
    | exact ResV.cell (ds := [_]) rfl rfl rfl rfl rfl
    | exact ResV.cell (ds := [_, _]) rfl rfl rfl rfl rfl
    | exact ResV.cell (ds := [_, _, _]) rfl rfl rfl rfl rfl
    | exact ResV.cell (ds := [_, _, _, _]) rfl rfl rfl rfl rfl
    | exact ResV.cell (ds := [_, _, _, _, _]) rfl rfl rfl rfl rfl
    | exact ResV.cell (ds := [_, _, _, _, _, _]) rfl rfl rfl rfl rfl
    | exact ResV.cell (ds := [_, _, _, _, _, _, _]) rfl rfl rfl rfl rfl
    | exact ResV.cell (ds := [_, _, _, _, _, _, _, _]) rfl rfl rfl rfl rfl
    | (refine K.E ?_; first
      | exact Ex.nil
      | refine Ex.keep rfl rfl rfl ?_
      | refine Ex.own rfl rfl rfl rfl ?_
      | refine Ex.own rfl rfl rfl ?_ ?_
      | refine Ex.nilO rfl ?_
      | refine Ex.nilO' rfl ?_ ?_
      | refine Ex.agg ?_ ?_
      | refine Ex.tup ?_ ?_
      | refine Ex.i ?_ ?_
      | refine Ex.b ?_ ?_
      | refine Ex.z ?_ ?_)
    | (refine K.NE ?_; first
      | exact NEx.nil
      | refine NEx.ints rfl ?_ ?_
      | refine NEx.noInts ?_ ?_
      | refine NEx.gone ?_ rfl ?_
      | refine NEx.obj rfl ?_ rfl rfl rfl (.inr rfl) ?_)
    | exact Re.nil
    | refine Re.keep rfl rfl ?_
    | refine Re.fn rfl ?_
    | refine Re.own rfl rfl rfl rfl rfl (by first | rfl | omega | (simp; done) | (simp; omega)) ?_
    | refine Re.ptr rfl rfl rfl rfl ?_
    | refine Re.agg ?_ ?_
    | refine Re.tup ?_ ?_
    | exact rfl
    | omega
    | (refine fun hgo => ?_)
    | (simp; done)
    | (simp; omega)
    | ((repeat (revert hgo)); (repeat ((fail_if_success with_reducible apply Hold.h hold); replace hold := Hold.t hold)); with_reducible apply Hold.h hold))
    all_goals (try ((repeat (revert hgo)); (repeat ((fail_if_success with_reducible apply Hold.h hold); replace hold := Hold.t hold)); with_reducible apply Hold.h hold))
    all_goals exact True
  · first | exact IsT.t | exact IsT.any
  ) (r : R) : P := h.1 ⟨r⟩
end Go.Proofs.YtkckmenalehdpaaDoor


namespace Go.Abs
open Go
section
variable {P : Program} {n m : Nat} {G : Ctx} {T : List (Nat × AV)} {O : List AObj} {Q : Exit → St → Prop} {md : Bool} {ops : Array Oper} {l : List Oper} {d : Nat} {tt : TypeId} {pos : String} {after : Array Edge}
end
end Go.Abs


namespace Go.Abs
open Go
inductive Rf (k j e : Nat) : List AV → List AV → Prop
  | nil : Rf k j e [] []
  | keep {V vs us} : V.still = true → V.nofre = true → Rf k j e vs us → Rf k j e (V :: vs) (V :: us)
  | own {k' off len vs us} : k' = k → Rf k j e vs us → Rf k j e (.own k' 0 off len :: vs) (.own j e off len :: us)
  | ptr {k' off vs us} : k' = k → Rf k j e vs us → Rf k j e (.ptr k' 0 off :: vs) (.ptr j e off :: us)
  | agg {ds es vs us} : Rf k j e ds es → Rf k j e vs us → Rf k j e (.agg ds :: vs) (.agg es :: us)
  | tup {ds es vs us} : Rf k j e ds es → Rf k j e vs us → Rf k j e (.tup ds :: vs) (.tup es :: us)
theorem Rf.rel {k j e : Nat} {S w} {ι ι' : Nat → Spot} {O O' : List AObj} {ob ob' : AObj} (ho : O[k]? = some ob) (ho' : O'[j]? = some ob') (he : ob.ep = 0) (he' : ob'.ep = e) (hsz : ob'.size = ob.size) (hι : ι' j = ι k) {vs us : List AV} (h : Rf k j e vs us) : ∀ {xs}, LRel S w ι O vs xs [] → LRel S w ι' O' us xs [] := by
  induction h with
  | nil => intro xs hl; cases hl; exact .nil
  | keep hs hn _ ih =>
    intro xs hl
    obtain ⟨v, vs', f1, f2, rfl, hv, hr, hf⟩ := hl.uncons
    obtain ⟨rfl, rfl⟩ : f1 = [] ∧ f2 = [] := by simpa using hf
    exact LRel.cons (still_any hv hs O' (fun _ h => h) (fun _ _ => rfl) (fun _ _ => rfl)) (ih hr)
  | own hk _ ih =>
    intro xs hl
    subst hk
    cases hl with
    | own q1 q2 q3 r =>
      rw [ho] at q1; cases q1
      exact .own ho' (by omega) (fun _ => by rw [hsz, hι]; exact q3 he.symm) (ih r)
  | ptr hk _ ih =>
    intro xs hl
    subst hk
    cases hl with
    | ptr q1 q2 q3 r =>
      rw [ho] at q1; cases q1
      exact .ptr ho' (by omega) (fun _ => by rw [hι]; exact q3 he.symm) (ih r)
  | agg _ _ ih1 ih2 =>
    intro xs hl
    obtain ⟨v, vs', f1, f2, rfl, hv, hr, hf⟩ := hl.uncons
    obtain ⟨rfl, rfl⟩ : f1 = [] ∧ f2 = [] := by simpa using hf
    obtain ⟨us', rfl, ha⟩ := LRel.agg_inv hv
    simpa using LRel.agg (ih1 ha) (ih2 hr)
  | tup _ _ ih1 ih2 =>
    intro xs hl
    obtain ⟨v, vs', f1, f2, rfl, hv, hr, hf⟩ := hl.uncons
    obtain ⟨rfl, rfl⟩ : f1 = [] ∧ f2 = [] := by simpa using hf
    obtain ⟨us', rfl, ha⟩ := LRel.tup_inv hv
    simpa using LRel.tup (ih1 ha) (ih2 hr)
section
variable {P : Program} {n m : Nat} {G : Ctx} {O : List AObj} {Q : Exit → St → Prop} {ops : Array Oper}
end
end Go.Abs


namespace Go.Abs
open Go
inductive HeadR (P : Program) (n m : Nat) (G : Ctx) (ops : Array Oper) (T0 : List (Nat × AV)) (O Oi : List AObj) (keep sh : List Nat) : List (Nat × AV) → List Fil → List Oper → List (Nat × AV) → List Fil → Prop
  | nil {fs gs} : HeadR P n m G ops T0 O Oi keep sh fs gs [] fs gs
  | cons {fs out : List (Nat × AV)} {gs : List Fil} {o : Oper} {l : List Oper} {d : Nat} {V : AV} {F : List (Nat × AV)} {ks : List Fil} (k : Fil) (hF : deps fs o = F)
      (h : ∀ Tv Ov, Oi.length ≤ Ov.length → (∀ p ob, k.spot = some (p, ob) → Ov[p]? = (fillAll gs Oi)[p]?) → (∀ j f p ob, waits o j = true → gs[j]? = some f → f.spot = some (p, ob) → memB p sh = false → Ov[p]? = some ob) → (∀ q, memB q keep = true → Ov[q]? = Oi[q]?) →
        WpL P n m G false ops [o] ⟨F ++ (T0 ++ Tv), O ++ Ov⟩ (Only ⟨(d, V) :: (F ++ (T0 ++ Tv)), O ++ k.run Ov⟩)) (r : HeadR P n m G ops T0 O Oi keep sh (fs ++ [(d, V)]) (gs ++ [k]) l out ks) : HeadR P n m G ops T0 O Oi keep sh fs gs (o :: l) out ks
section
variable {P : Program} {n m : Nat} {G : Ctx} {ops : Array Oper} {T0 : List (Nat × AV)} {O Oi : List AObj} {keep sh : List Nat}
theorem HeadR.pre {fs gs l out ks} (h : HeadR P n m G ops T0 O Oi keep sh fs gs l out ks) : ∃ r s, out = fs ++ r ∧ r.length = l.length ∧ ks = gs ++ s ∧ s.length = l.length := by
  induction h with
  | nil => exact ⟨[], [], by simp, rfl, by simp, rfl⟩
  | @cons fs out gs o l d V F ks k _ _ _ ih => obtain ⟨r, s, h1, h2, h3, h4⟩ := ih; exact ⟨(d, V) :: r, k :: s, by rw [h1]; simp, by simp [h2], by rw [h3]; simp, by simp [h4]⟩
theorem HeadR.at {fs gs l out ks} (h : HeadR P n m G ops T0 O Oi keep sh fs gs l out ks) (hg : gs.length = fs.length) : ∀ {j : Nat} {o : Oper}, l[j]? = some o → ∃ d V k, out[fs.length + j]? = some (d, V) ∧ ks[fs.length + j]? = some k ∧
    ∀ Tv Ov, Oi.length ≤ Ov.length → (∀ p ob, k.spot = some (p, ob) → Ov[p]? = (fillAll (ks.take (fs.length + j)) Oi)[p]?) → (∀ i f p ob, waits o i = true → (ks.take (fs.length + j))[i]? = some f → f.spot = some (p, ob) → memB p sh = false → Ov[p]? = some ob) → (∀ q, memB q keep = true → Ov[q]? = Oi[q]?) →
      WpL P n m G false ops [o] ⟨deps (out.take (fs.length + j)) o ++ (T0 ++ Tv), O ++ Ov⟩ (Only ⟨(d, V) :: (deps (out.take (fs.length + j)) o ++ (T0 ++ Tv)), O ++ k.run Ov⟩) := by
  induction h with
  | nil => intro j o h; simp at h
  | @cons fs out gs o l d V F ks k hF h r ih =>
    intro j o' hj
    obtain ⟨r', s', h1, h2, h3, h4⟩ := r.pre
    cases j with
    | zero =>
      simp only [List.getElem?_cons_zero, Option.some.injEq] at hj
      subst hj
      refine ⟨d, V, k, by rw [h1]; simp, by rw [h3]; simp [hg], ?_⟩
      have : out.take (fs.length + 0) = fs := by rw [h1, Nat.add_zero, List.append_assoc, List.take_left']; rfl
      have e2 : ks.take (fs.length + 0) = gs := by rw [h3, Nat.add_zero, List.append_assoc, List.take_left']; exact hg
      rw [this, hF, e2]; exact h
    | succ j =>
      have := ih (by simp [hg]) (j := j) (o := o') (by simpa using hj)
      rw [List.length_append, List.length_singleton, Nat.add_assoc, Nat.add_comm 1 j] at this
      simpa using this
theorem fillAll_cases : ∀ (L : List Fil) (Oi : List AObj) (q : Nat), q < Oi.length → (∃ (i : Nat) (f : Fil) (ob : AObj), L[i]? = some f ∧ f.spot = some (q, ob) ∧ (∀ (j : Nat) (g : Fil) (oc : AObj), i < j → L[j]? = some g → g.spot ≠ some (q, oc)) ∧ (fillAll L Oi)[q]? = some ob) ∨
    ((∀ (j : Nat) (g : Fil) (oc : AObj), L[j]? = some g → g.spot ≠ some (q, oc)) ∧ (fillAll L Oi)[q]? = Oi[q]?)
  | [], Oi, q, hq => .inr ⟨fun j g oc h => by simp at h, rfl⟩
  | f :: L, Oi, q, hq => by
    rw [fillAll]
    cases hs : f.spot with
    | none =>
      rcases fillAll_cases L Oi q hq with ⟨i, g, ob, h1, h2, h3, h4⟩ | ⟨h1, h2⟩
      · refine .inl ⟨i + 1, g, ob, by simpa using h1, h2, fun j g' oc hj hg => ?_, h4⟩
        cases j with
        | zero => omega
        | succ j => exact h3 j g' oc (by omega) (by simpa using hg)
      · refine .inr ⟨fun j g oc hg => ?_, h2⟩
        cases j with
        | zero => simp at hg; subst hg; rw [hs]; simp
        | succ j => exact h1 j g oc (by simpa using hg)
    | some x =>
      obtain ⟨p, ob0⟩ := x
      simp only
      rcases fillAll_cases L (Oi.set p ob0) q (by simpa using hq) with ⟨i, g, ob, h1, h2, h3, h4⟩ | ⟨h1, h2⟩
      · refine .inl ⟨i + 1, g, ob, by simpa using h1, h2, fun j g' oc hj hg => ?_, h4⟩
        cases j with
        | zero => omega
        | succ j => exact h3 j g' oc (by omega) (by simpa using hg)
      · by_cases e : p = q
        · subst e
          refine .inl ⟨0, f, ob0, by simp, hs, fun j g' oc hj hg => ?_, by rw [h2, List.getElem?_set_self hq]⟩
          cases j with
          | zero => omega
          | succ j => exact h1 j g' oc (by simpa using hg)
        · refine .inr ⟨fun j g oc hg => ?_, by rw [h2, List.getElem?_set, if_neg e]⟩
          cases j with
          | zero => simp at hg; subst hg; rw [hs]; intro h; cases h; exact e rfl
          | succ j => exact h1 j g oc (by simpa using hg)
structure RoomR (ks : List Fil) (Oi : List AObj) (k : Nat) (listed : Array Bool) (Ov : List AObj) : Prop where
  len : Ov.length = Oi.length + ((List.range k).filter fun i => listed.getD i false && isPut ks i).length
  cur : ∀ q, q < Oi.length → (∃ i f ob, i < k ∧ listed.getD i false = true ∧ ks[i]? = some f ∧ f.spot = some (q, ob) ∧ (∀ j g oc, i < j → j < k → listed.getD j false = true → ks[j]? = some g → g.spot ≠ some (q, oc)) ∧ Ov[q]? = some ob) ∨
    ((∀ j g oc, j < k → listed.getD j false = true → ks[j]? = some g → g.spot ≠ some (q, oc)) ∧ Ov[q]? = Oi[q]?)
  dead : ∀ q, Oi.length ≤ q → q < Ov.length → Ov[q]? = some deadO
structure RoomROk (ops : Array Oper) (sh : List Nat) (ks : List Fil) (c k : Nat) : Prop where
  lt : ∀ i f p ob, i < k → ks[i]? = some f → f.spot = some (p, ob) → p < c
  chain : ∀ i j f g p ob oc, i < j → j < k → ks[i]? = some f → ks[j]? = some g → f.spot = some (p, ob) → g.spot = some (p, oc) → memB p sh = true ∧ ∃ o, ops[j]? = some o ∧ waits o i = true
theorem waits_spec {o : Oper} {j : Nat} (h : waits o j = true) : ∃ e ∈ o.after, Region.binds .any e = true ∧ e.on = j := by
  obtain ⟨e, he, hb⟩ := List.any_eq_true.1 h
  rw [Bool.and_eq_true] at hb
  exact ⟨e, by simpa using he, hb.1, Nat.eq_of_beq_eq_true hb.2⟩
theorem RoomR.before {ks : List Fil} {k i : Nat} {listed : Array Bool} {Ov : List AObj} {f : Fil} {o : Oper} (h : RoomR ks Oi k listed Ov) (ok : RoomROk ops sh ks Oi.length k) (inv : HeadInv .any ops k listed) (hik : i < k) (hu : listed.getD i false = false) (hall : ∀ e ∈ o.after, Region.binds .any e = true → listed.getD e.on false = true) (ho : ops[i]? = some o) (hf : ks[i]? = some f) {p : Nat} {ob : AObj} (hsp : f.spot = some (p, ob)) :
    Ov[p]? = (fillAll (ks.take i) Oi)[p]? := by
  have hp := ok.lt i f p ob hik hf hsp
  -- what touches the place before it is listed, what touches it behind is not
  have hbef : ∀ j g oc, j < i → ks[j]? = some g → g.spot = some (p, oc) → listed.getD j false = true := by
    intro j g oc hj hg hs
    obtain ⟨_, o', ho', hw⟩ := ok.chain j i g f p oc ob hj hik hg hf hs hsp
    rw [ho] at ho'; cases ho'
    obtain ⟨e, he, hb, rfl⟩ := waits_spec hw
    exact hall e he hb
  have haft : ∀ j g oc, i < j → j < k → ks[j]? = some g → g.spot = some (p, oc) → listed.getD j false = false := by
    intro j g oc hj hjk hg hs
    obtain ⟨_, o', ho', hw⟩ := ok.chain i j f g p ob oc hj hjk hf hg hsp hs
    cases hl : listed.getD j false with
    | false => rfl
    | true =>
      obtain ⟨e, he, hb, rfl⟩ := waits_spec hw
      have := inv.closed j o' ho' hl e he hb
      rw [hu] at this; cases this
  have htk : ∀ j g, (ks.take i)[j]? = some g → j < i ∧ ks[j]? = some g := by
    intro j g hg
    rw [List.getElem?_take] at hg
    split at hg
    · rename_i hj; exact ⟨hj, hg⟩
    · cases hg
  rcases h.cur p hp with ⟨j, g, oc, hjk, hl, hg, hs, hlast, hv⟩ | ⟨hno, hv⟩ <;> rcases fillAll_cases (ks.take i) Oi p hp with ⟨j2, g2, oc2, hg2, hs2, hlast2, hv2⟩ | ⟨hno2, hv2⟩
  · obtain ⟨hj2, hg2⟩ := htk j2 g2 hg2
    have hji : j < i := by
      rcases Nat.lt_trichotomy j i with h1 | h1 | h1
      · exact h1
      · subst h1; rw [hu] at hl; cases hl
      · rw [haft j g oc h1 hjk hg hs] at hl; cases hl
    have : j = j2 := by
      rcases Nat.lt_trichotomy j j2 with h1 | h1 | h1
      · exact absurd hs2 (hlast j2 g2 oc2 h1 (by omega) (hbef j2 g2 oc2 hj2 hg2 hs2) hg2)
      · exact h1
      · exact absurd hs (hlast2 j g oc h1 (by rw [List.getElem?_take, if_pos hji]; exact hg))
    subst this
    rw [hg] at hg2; cases hg2
    rw [hs] at hs2; cases hs2
    rw [hv, hv2]
  · have hji : j < i := by
      rcases Nat.lt_trichotomy j i with h1 | h1 | h1
      · exact h1
      · subst h1; rw [hu] at hl; cases hl
      · rw [haft j g oc h1 hjk hg hs] at hl; cases hl
    exact absurd hs (hno2 j g oc (by rw [List.getElem?_take, if_pos hji]; exact hg))
  · obtain ⟨hj2, hg2⟩ := htk j2 g2 hg2
    exact absurd hs2 (hno j2 g2 oc2 (by omega) (hbef j2 g2 oc2 hj2 hg2 hs2) hg2)
  · rw [hv, hv2]
theorem RoomR.step {ks : List Fil} {k i : Nat} {listed : Array Bool} {Ov : List AObj} {f : Fil} (h : RoomR ks Oi k listed Ov) (ok : RoomROk ops sh ks Oi.length k) (inv : HeadInv .any ops k listed) (hik : i < k) (hs : i < listed.size) (hu : listed.getD i false = false) (hf : ks[i]? = some f) :
    RoomR ks Oi k (listed.setIfInBounds i true) (f.run Ov) := by
  have hself : (listed.setIfInBounds i true).getD i false = true := by simp [hs]
  have hcnt := count_set (f := isPut ks) hik hs hu
  have hlen := h.len
  have hp : isPut ks i = f.isPut := by unfold isPut; rw [hf]; rfl
  rw [hp] at hcnt
  have hrl : (f.run Ov).length = Ov.length + (if f.isPut = true then 1 else 0) := by cases f <;> simp [Fil.run, Fil.isPut]
  have hle : Oi.length ≤ Ov.length := by omega
  have hoth : ∀ q, q < Ov.length → (∀ p ob, f.spot = some (p, ob) → p ≠ q) → (f.run Ov)[q]? = Ov[q]? := by
    intro q hq hne
    cases f with
    | none => rfl
    | put p ob =>
      have := hne p ob rfl
      unfold Fil.run
      rw [List.getElem?_append_left (by simpa using hq), List.getElem?_set, if_neg this]
    | step p ob =>
      have := hne p ob rfl
      unfold Fil.run
      rw [List.getElem?_set, if_neg this]
  have hown : ∀ p ob, f.spot = some (p, ob) → (f.run Ov)[p]? = some ob := by
    intro p ob e
    have hpc := ok.lt i f p ob hik hf e
    cases f with
    | none => cases e
    | put p' ob' =>
      cases e
      unfold Fil.run
      rw [List.getElem?_append_left (by rw [List.length_set]; omega), List.getElem?_set_self (by omega)]
    | step p' ob' =>
      cases e
      unfold Fil.run
      rw [List.getElem?_set_self (by omega)]
  refine ⟨by rw [hrl, hcnt, hlen]; split <;> omega, fun q hq => ?_, fun q h1 h2 => ?_⟩
  · by_cases hq2 : ∃ ob, f.spot = some (q, ob)
    · obtain ⟨ob, hsp⟩ := hq2
      refine .inl ⟨i, f, ob, hik, hself, hf, hsp, fun j g oc hj hjk hl hg hs2 => ?_, hown q ob hsp⟩
      rw [getD_set_ne false (by omega)] at hl
      obtain ⟨_, o', ho', hw⟩ := ok.chain i j f g q ob oc hj hjk hf hg hsp hs2
      obtain ⟨e, he, hb, rfl⟩ := waits_spec hw
      have := inv.closed j o' ho' hl e he hb
      rw [hu] at this; cases this
    · have hne : ∀ p ob, f.spot = some (p, ob) → p ≠ q := fun p ob hsp e => hq2 ⟨ob, e ▸ hsp⟩
      rw [hoth q (by omega) hne]
      rcases h.cur q hq with ⟨j, g, oc, hjk, hl, hg, hs2, hlast, hv⟩ | ⟨hno, hv⟩
      · have hij : i ≠ j := by rintro rfl; rw [hu] at hl; cases hl
        refine .inl ⟨j, g, oc, hjk, by rw [getD_set_ne false hij]; exact hl, hg, hs2, fun j2 g2 oc2 h1 h2 h3 h4 => ?_, hv⟩
        by_cases e : i = j2
        · subst e; rw [hf] at h4; cases h4; exact fun h5 => hq2 ⟨_, h5⟩
        · rw [getD_set_ne false e] at h3; exact hlast j2 g2 oc2 h1 h2 h3 h4
      · refine .inr ⟨fun j2 g2 oc2 h2 h3 h4 => ?_, hv⟩
        by_cases e : i = j2
        · subst e; rw [hf] at h4; cases h4; exact fun h5 => hq2 ⟨_, h5⟩
        · rw [getD_set_ne false e] at h3; exact hno j2 g2 oc2 h2 h3 h4
  · rcases Nat.lt_or_ge q Ov.length with h3 | h3
    · rw [hoth q h3 (fun p ob e1 => by have := ok.lt i f p ob hik hf e1; omega)]
      exact h.dead q h1 h3
    · cases f with
      | none => exact absurd h2 (by simp [Fil.run]; omega)
      | step p ob => exact absurd h2 (by simp [Fil.run]; omega)
      | put p ob =>
        simp [Fil.run] at h2
        have e : q = Ov.length := by omega
        subst e
        unfold Fil.run
        rw [List.getElem?_append_right (by simp)]; simp
end
end Go.Abs


namespace Go.Abs
open Go
structure Fis where
  sets : List (Nat × AObj)
  dead : Bool
def lkF : List (Nat × AObj) → Nat → Option AObj
  | [], _ => Option.none
  | (p, ob) :: l, q => if Nat.beq p q = true then some ob else lkF l q
def setsF : List (Nat × AObj) → List AObj → List AObj
  | [], Ov => Ov
  | (p, ob) :: l, Ov => (setsF l Ov).set p ob
def Fis.got (f : Fis) (q : Nat) : Option AObj := lkF f.sets q
def Fis.isPutS (f : Fis) : Bool := f.dead
def Fis.run (f : Fis) (Ov : List AObj) : List AObj := match f.dead with
  | true => setsF f.sets Ov ++ [deadO]
  | false => setsF f.sets Ov
abbrev Fis.none : Fis := ⟨[], false⟩
abbrev Fis.put (p : Nat) (ob : AObj) : Fis := ⟨[(p, ob)], true⟩
abbrev Fis.step (p : Nat) (ob : AObj) : Fis := ⟨[(p, ob)], false⟩
def isPutS (ks : List Fis) (i : Nat) : Bool := (ks[i]?.map Fis.isPutS).getD false
def fillAllS : List Fis → List AObj → List AObj
  | [], Oi => Oi
  | f :: ks, Oi => fillAllS ks (setsF f.sets Oi)
theorem setsF_len : ∀ (l : List (Nat × AObj)) (Ov : List AObj), (setsF l Ov).length = Ov.length
  | [], _ => rfl
  | (p, ob) :: l, Ov => by rw [setsF, List.length_set, setsF_len l Ov]
theorem setsF_at : ∀ (l : List (Nat × AObj)) (Ov : List AObj) (q : Nat), q < Ov.length → (setsF l Ov)[q]? = match lkF l q with | some ob => some ob | Option.none => Ov[q]?
  | [], _, _, _ => rfl
  | (p, ob) :: l, Ov, q, hq => by
    rw [setsF, lkF, List.getElem?_set]
    by_cases e : p = q
    · subst e
      rw [if_pos rfl, if_pos (by rw [setsF_len]; exact hq), if_pos (by simp)]
    · rw [if_neg e, if_neg (by simpa using e)]
      exact setsF_at l Ov q hq
theorem setsF_out : ∀ (l : List (Nat × AObj)) (Ov : List AObj) (q : Nat), lkF l q = Option.none → (setsF l Ov)[q]? = Ov[q]?
  | [], _, _, _ => rfl
  | (p, ob) :: l, Ov, q, h => by
    rw [lkF] at h
    split at h
    · cases h
    · rename_i e
      rw [setsF, List.getElem?_set, if_neg (by simpa using e)]
      exact setsF_out l Ov q h
theorem fillAllS_len : ∀ (ks : List Fis) (Oi : List AObj), (fillAllS ks Oi).length = Oi.length
  | [], _ => rfl
  | f :: ks, Oi => by rw [fillAllS, fillAllS_len ks, setsF_len]
theorem lkF_mem : ∀ {l : List (Nat × AObj)} {q : Nat} {ob : AObj}, lkF l q = some ob → ∃ x ∈ l, x.1 = q
  | [], _, _, h => by simp [lkF] at h
  | (p, o) :: l, q, ob, h => by
    rw [lkF] at h
    split at h
    · rename_i e; exact ⟨(p, o), by simp, by simpa using e⟩
    · obtain ⟨x, hx, e⟩ := lkF_mem h; exact ⟨x, List.mem_cons_of_mem _ hx, e⟩
def spotsS (ks : List Fis) : List Nat := ks.flatMap fun f => f.sets.map (·.1)
theorem keepB_ofS {c k : Nat} {ks : List Fis} : ∀ {l : List Nat}, keepB c (spotsS ks) l = true → ∀ {q}, memB q l = true → q < c ∧ ∀ i f p ob, i < k → ks[i]? = some f → f.got p = some ob → p ≠ q
  | [], _, q, h => by cases h
  | x :: l, hB, q, h => by
    simp only [keepB, Bool.and_eq_true, Bool.not_eq_true'] at hB
    simp only [memB, Bool.or_eq_true] at h
    rcases h with h | h
    · have e : q = x := Nat.eq_of_beq_eq_true h
      subst e
      refine ⟨Nat.le_of_ble_eq_true hB.1.1, fun i f p ob _ hf hg e => ?_⟩
      subst e
      obtain ⟨y, hy, e2⟩ := lkF_mem hg
      refine memB_false hB.1.2 ?_
      unfold spotsS
      rw [List.mem_flatMap]
      exact ⟨f, List.mem_of_getElem? hf, by rw [← e2]; exact List.mem_map_of_mem hy⟩
    · exact keepB_ofS hB.2 h
inductive HeadS (P : Program) (n m : Nat) (G : Ctx) (ops : Array Oper) (T0 : List (Nat × AV)) (O Oi : List AObj) (keep sh : List Nat) : List (Nat × AV) → List Fis → List Oper → List (Nat × AV) → List Fis → Prop
  | nil {fs gs} : HeadS P n m G ops T0 O Oi keep sh fs gs [] fs gs
  | cons {fs out : List (Nat × AV)} {gs : List Fis} {o : Oper} {l : List Oper} {d : Nat} {V : AV} {F : List (Nat × AV)} {ks : List Fis} (k : Fis) (hF : deps fs o = F)
      (h : ∀ Tv Ov, Oi.length ≤ Ov.length → (∀ p ob, k.got p = some ob → Ov[p]? = (fillAllS gs Oi)[p]?) → (∀ j f p ob, waits o j = true → gs[j]? = some f → f.got p = some ob → memB p sh = false → Ov[p]? = some ob) → (∀ q, memB q keep = true → Ov[q]? = Oi[q]?) →
        WpL P n m G false ops [o] ⟨F ++ (T0 ++ Tv), O ++ Ov⟩ (Only ⟨(d, V) :: (F ++ (T0 ++ Tv)), O ++ k.run Ov⟩)) (r : HeadS P n m G ops T0 O Oi keep sh (fs ++ [(d, V)]) (gs ++ [k]) l out ks) : HeadS P n m G ops T0 O Oi keep sh fs gs (o :: l) out ks
section
variable {P : Program} {n m : Nat} {G : Ctx} {ops : Array Oper} {T0 : List (Nat × AV)} {O Oi : List AObj} {keep sh : List Nat}
theorem HeadS.pre {fs gs l out ks} (h : HeadS P n m G ops T0 O Oi keep sh fs gs l out ks) : ∃ r s, out = fs ++ r ∧ r.length = l.length ∧ ks = gs ++ s ∧ s.length = l.length := by
  induction h with
  | nil => exact ⟨[], [], by simp, rfl, by simp, rfl⟩
  | @cons fs out gs o l d V F ks k _ _ _ ih => obtain ⟨r, s, h1, h2, h3, h4⟩ := ih; exact ⟨(d, V) :: r, k :: s, by rw [h1]; simp, by simp [h2], by rw [h3]; simp, by simp [h4]⟩
theorem HeadS.at {fs gs l out ks} (h : HeadS P n m G ops T0 O Oi keep sh fs gs l out ks) (hg : gs.length = fs.length) : ∀ {j : Nat} {o : Oper}, l[j]? = some o → ∃ d V k, out[fs.length + j]? = some (d, V) ∧ ks[fs.length + j]? = some k ∧
    ∀ Tv Ov, Oi.length ≤ Ov.length → (∀ p ob, k.got p = some ob → Ov[p]? = (fillAllS (ks.take (fs.length + j)) Oi)[p]?) → (∀ i f p ob, waits o i = true → (ks.take (fs.length + j))[i]? = some f → f.got p = some ob → memB p sh = false → Ov[p]? = some ob) → (∀ q, memB q keep = true → Ov[q]? = Oi[q]?) →
      WpL P n m G false ops [o] ⟨deps (out.take (fs.length + j)) o ++ (T0 ++ Tv), O ++ Ov⟩ (Only ⟨(d, V) :: (deps (out.take (fs.length + j)) o ++ (T0 ++ Tv)), O ++ k.run Ov⟩) := by
  induction h with
  | nil => intro j o h; simp at h
  | @cons fs out gs o l d V F ks k hF h r ih =>
    intro j o' hj
    obtain ⟨r', s', h1, h2, h3, h4⟩ := r.pre
    cases j with
    | zero =>
      simp only [List.getElem?_cons_zero, Option.some.injEq] at hj
      subst hj
      refine ⟨d, V, k, by rw [h1]; simp, by rw [h3]; simp [hg], ?_⟩
      have : out.take (fs.length + 0) = fs := by rw [h1, Nat.add_zero, List.append_assoc, List.take_left']; rfl
      have e2 : ks.take (fs.length + 0) = gs := by rw [h3, Nat.add_zero, List.append_assoc, List.take_left']; exact hg
      rw [this, hF, e2]; exact h
    | succ j =>
      have := ih (by simp [hg]) (j := j) (o := o') (by simpa using hj)
      rw [List.length_append, List.length_singleton, Nat.add_assoc, Nat.add_comm 1 j] at this
      simpa using this
theorem fillAllS_cases : ∀ (L : List Fis) (Oi : List AObj) (q : Nat), q < Oi.length → (∃ (i : Nat) (f : Fis) (ob : AObj), L[i]? = some f ∧ f.got q = some ob ∧ (∀ (j : Nat) (g : Fis) (oc : AObj), i < j → L[j]? = some g → g.got q ≠ some oc) ∧ (fillAllS L Oi)[q]? = some ob) ∨
    ((∀ (j : Nat) (g : Fis) (oc : AObj), L[j]? = some g → g.got q ≠ some oc) ∧ (fillAllS L Oi)[q]? = Oi[q]?)
  | [], Oi, q, hq => .inr ⟨fun j g oc h => by simp at h, rfl⟩
  | f :: L, Oi, q, hq => by
    rw [fillAllS]
    rcases fillAllS_cases L (setsF f.sets Oi) q (by rw [setsF_len]; exact hq) with ⟨i, g, ob, h1, h2, h3, h4⟩ | ⟨h1, h2⟩
    · refine .inl ⟨i + 1, g, ob, by simpa using h1, h2, fun j g' oc hj hg => ?_, h4⟩
      cases j with
      | zero => omega
      | succ j => exact h3 j g' oc (by omega) (by simpa using hg)
    · cases hs : f.got q with
      | some ob0 =>
        refine .inl ⟨0, f, ob0, by simp, hs, fun j g' oc hj hg => ?_, ?_⟩
        · cases j with
          | zero => omega
          | succ j => exact h1 j g' oc (by simpa using hg)
        · rw [h2, setsF_at _ _ _ hq]
          unfold Fis.got at hs; rw [hs]
      | none =>
        refine .inr ⟨fun j g oc hg => ?_, by rw [h2]; exact setsF_out _ _ _ hs⟩
        cases j with
        | zero => simp at hg; subst hg; rw [hs]; simp
        | succ j => exact h1 j g oc (by simpa using hg)
structure RoomS (ks : List Fis) (Oi : List AObj) (k : Nat) (listed : Array Bool) (Ov : List AObj) : Prop where
  len : Ov.length = Oi.length + ((List.range k).filter fun i => listed.getD i false && isPutS ks i).length
  cur : ∀ q, q < Oi.length → (∃ i f ob, i < k ∧ listed.getD i false = true ∧ ks[i]? = some f ∧ f.got q = some ob ∧ (∀ j g oc, i < j → j < k → listed.getD j false = true → ks[j]? = some g → g.got q ≠ some oc) ∧ Ov[q]? = some ob) ∨
    ((∀ j g oc, j < k → listed.getD j false = true → ks[j]? = some g → g.got q ≠ some oc) ∧ Ov[q]? = Oi[q]?)
  dead : ∀ q, Oi.length ≤ q → q < Ov.length → Ov[q]? = some deadO
structure RoomSOk (ops : Array Oper) (sh : List Nat) (ks : List Fis) (c k : Nat) : Prop where
  lt : ∀ i f p ob, i < k → ks[i]? = some f → f.got p = some ob → p < c
  chain : ∀ i j f g p ob oc, i < j → j < k → ks[i]? = some f → ks[j]? = some g → f.got p = some ob → g.got p = some oc → memB p sh = true ∧ reach ops 24 j i = true
theorem reach_hall {k : Nat} {listed : Array Bool} {o : Oper} {i j f : Nat} (inv : HeadInv .any ops k listed) (ho : ops[i]? = some o) (hall : ∀ e ∈ o.after, Region.binds .any e = true → listed.getD e.on false = true) (h : reach ops f i j = true) : listed.getD j false = true := by
  cases f with
  | zero => simp [reach] at h
  | succ f =>
    rw [reach, ho] at h
    rcases Bool.or_eq_true_iff.1 h with h | h
    · obtain ⟨e, he, hx⟩ := List.any_eq_true.1 h
      rw [Bool.and_eq_true] at hx
      have := hall e (by simpa using he) hx.1
      rw [Nat.eq_of_beq_eq_true hx.2] at this; exact this
    · obtain ⟨e, he, hx⟩ := List.any_eq_true.1 h
      rw [Bool.and_eq_true] at hx
      exact reach_listed inv f _ _ hx.2 (hall e (by simpa using he) hx.1)
theorem RoomS.before {ks : List Fis} {k i : Nat} {listed : Array Bool} {Ov : List AObj} {f : Fis} {o : Oper} (h : RoomS ks Oi k listed Ov) (ok : RoomSOk ops sh ks Oi.length k) (inv : HeadInv .any ops k listed) (hik : i < k) (hu : listed.getD i false = false) (hall : ∀ e ∈ o.after, Region.binds .any e = true → listed.getD e.on false = true) (ho : ops[i]? = some o) (hf : ks[i]? = some f) {p : Nat} {ob : AObj} (hsp : f.got p = some ob) :
    Ov[p]? = (fillAllS (ks.take i) Oi)[p]? := by
  have hp := ok.lt i f p ob hik hf hsp
  -- what touches the place before it is listed, what touches it behind is not
  have hbef : ∀ j g oc, j < i → ks[j]? = some g → g.got p = some oc → listed.getD j false = true := by
    intro j g oc hj hg hs
    exact reach_hall inv ho hall (ok.chain j i g f p oc ob hj hik hg hf hs hsp).2
  have haft : ∀ j g oc, i < j → j < k → ks[j]? = some g → g.got p = some oc → listed.getD j false = false := by
    intro j g oc hj hjk hg hs
    have hw := (ok.chain i j f g p ob oc hj hjk hf hg hsp hs).2
    cases hl : listed.getD j false with
    | false => rfl
    | true =>
      have := reach_listed inv _ _ _ hw hl
      rw [hu] at this; cases this
  have htk : ∀ j g, (ks.take i)[j]? = some g → j < i ∧ ks[j]? = some g := by
    intro j g hg
    rw [List.getElem?_take] at hg
    split at hg
    · rename_i hj; exact ⟨hj, hg⟩
    · cases hg
  rcases h.cur p hp with ⟨j, g, oc, hjk, hl, hg, hs, hlast, hv⟩ | ⟨hno, hv⟩ <;> rcases fillAllS_cases (ks.take i) Oi p hp with ⟨j2, g2, oc2, hg2, hs2, hlast2, hv2⟩ | ⟨hno2, hv2⟩
  · obtain ⟨hj2, hg2⟩ := htk j2 g2 hg2
    have hji : j < i := by
      rcases Nat.lt_trichotomy j i with h1 | h1 | h1
      · exact h1
      · subst h1; rw [hu] at hl; cases hl
      · rw [haft j g oc h1 hjk hg hs] at hl; cases hl
    have : j = j2 := by
      rcases Nat.lt_trichotomy j j2 with h1 | h1 | h1
      · exact absurd hs2 (hlast j2 g2 oc2 h1 (by omega) (hbef j2 g2 oc2 hj2 hg2 hs2) hg2)
      · exact h1
      · exact absurd hs (hlast2 j g oc h1 (by rw [List.getElem?_take, if_pos hji]; exact hg))
    subst this
    rw [hg] at hg2; cases hg2
    rw [hs] at hs2; cases hs2
    rw [hv, hv2]
  · have hji : j < i := by
      rcases Nat.lt_trichotomy j i with h1 | h1 | h1
      · exact h1
      · subst h1; rw [hu] at hl; cases hl
      · rw [haft j g oc h1 hjk hg hs] at hl; cases hl
    exact absurd hs (hno2 j g oc (by rw [List.getElem?_take, if_pos hji]; exact hg))
  · obtain ⟨hj2, hg2⟩ := htk j2 g2 hg2
    exact absurd hs2 (hno j2 g2 oc2 (by omega) (hbef j2 g2 oc2 hj2 hg2 hs2) hg2)
  · rw [hv, hv2]
theorem RoomS.step {ks : List Fis} {k i : Nat} {listed : Array Bool} {Ov : List AObj} {f : Fis} (h : RoomS ks Oi k listed Ov) (ok : RoomSOk ops sh ks Oi.length k) (inv : HeadInv .any ops k listed) (hik : i < k) (hs : i < listed.size) (hu : listed.getD i false = false) (hf : ks[i]? = some f) :
    RoomS ks Oi k (listed.setIfInBounds i true) (f.run Ov) := by
  have hself : (listed.setIfInBounds i true).getD i false = true := by simp [hs]
  have hcnt := count_set (f := isPutS ks) hik hs hu
  have hlen := h.len
  have hp : isPutS ks i = f.isPutS := by unfold isPutS; rw [hf]; rfl
  rw [hp] at hcnt
  have hrl : (f.run Ov).length = Ov.length + (if f.isPutS = true then 1 else 0) := by
    unfold Fis.run Fis.isPutS
    cases f.dead <;> simp [setsF_len]
  have hle : Oi.length ≤ Ov.length := by omega
  have hrun : ∀ q, q < Ov.length → (f.run Ov)[q]? = (setsF f.sets Ov)[q]? := by
    intro q hq
    unfold Fis.run
    cases f.dead
    · rfl
    · simp only
      rw [List.getElem?_append_left (by rw [setsF_len]; exact hq)]
  have hoth : ∀ q, q < Ov.length → (∀ p ob, f.got p = some ob → p ≠ q) → (f.run Ov)[q]? = Ov[q]? := by
    intro q hq hne
    rw [hrun q hq]
    refine setsF_out _ _ _ ?_
    cases hc : lkF f.sets q with
    | none => rfl
    | some ob => exact absurd rfl (hne q ob hc)
  have hown : ∀ p ob, f.got p = some ob → (f.run Ov)[p]? = some ob := by
    intro p ob e
    have hpc := ok.lt i f p ob hik hf e
    rw [hrun p (by omega), setsF_at _ _ _ (by omega)]
    unfold Fis.got at e; rw [e]
  refine ⟨by rw [hrl, hcnt, hlen]; split <;> omega, fun q hq => ?_, fun q h1 h2 => ?_⟩
  · by_cases hq2 : ∃ ob, f.got q = some ob
    · obtain ⟨ob, hsp⟩ := hq2
      refine .inl ⟨i, f, ob, hik, hself, hf, hsp, fun j g oc hj hjk hl hg hs2 => ?_, hown q ob hsp⟩
      rw [getD_set_ne false (by omega)] at hl
      have := reach_listed inv _ _ _ (ok.chain i j f g q ob oc hj hjk hf hg hsp hs2).2 hl
      rw [hu] at this; cases this
    · have hne : ∀ p ob, f.got p = some ob → p ≠ q := fun p ob hsp e => hq2 ⟨ob, e ▸ hsp⟩
      rw [hoth q (by omega) hne]
      rcases h.cur q hq with ⟨j, g, oc, hjk, hl, hg, hs2, hlast, hv⟩ | ⟨hno, hv⟩
      · have hij : i ≠ j := by rintro rfl; rw [hu] at hl; cases hl
        refine .inl ⟨j, g, oc, hjk, by rw [getD_set_ne false hij]; exact hl, hg, hs2, fun j2 g2 oc2 h1 h2 h3 h4 => ?_, hv⟩
        by_cases e : i = j2
        · subst e; rw [hf] at h4; cases h4; exact fun h5 => hq2 ⟨_, h5⟩
        · rw [getD_set_ne false e] at h3; exact hlast j2 g2 oc2 h1 h2 h3 h4
      · refine .inr ⟨fun j2 g2 oc2 h2 h3 h4 => ?_, hv⟩
        by_cases e : i = j2
        · subst e; rw [hf] at h4; cases h4; exact fun h5 => hq2 ⟨_, h5⟩
        · rw [getD_set_ne false e] at h3; exact hno j2 g2 oc2 h2 h3 h4
  · rcases Nat.lt_or_ge q Ov.length with h3 | h3
    · rw [hoth q h3 (fun p ob e1 => by have := ok.lt i f p ob hik hf e1; omega)]
      exact h.dead q h1 h3
    · cases hd : f.dead with
      | false => exact absurd h2 (by rw [hrl]; unfold Fis.isPutS; rw [hd]; simp; omega)
      | true =>
        have e : q = Ov.length := by
          rw [hrl] at h2; unfold Fis.isPutS at h2; rw [hd] at h2; simp at h2; omega
        subst e
        unfold Fis.run; rw [hd]; simp only
        rw [List.getElem?_append_right (by rw [setsF_len]; exact Nat.le_refl _), setsF_len]; simp
def GoodS (n m : Nat) (G : Ctx) (T0 out : List (Nat × AV)) (O Oi : List AObj) (k : Nat) (ks : List Fis) (listed : Array Bool) (a : Act) (w : World) : Prop :=
  ∃ T Ov, Rel n m G ⟨T, O ++ Ov⟩ a w ∧ RoomS ks Oi k listed Ov ∧ (∀ (i d : Nat) (V : AV), out[i]? = some (d, V) → listed.getD i false = true → look T d = V) ∧ ∀ t, has out t = false → look T t = look T0 t
theorem head_stepS {out : List (Nat × AV)} {ks : List Fis} {k : Nat} (H : Heads ops T0 out k) (ok : RoomSOk ops sh ks Oi.length k) (hkp : ∀ q, memB q keep = true → q < Oi.length ∧ ∀ i f p ob, i < k → ks[i]? = some f → f.got p = some ob → p ≠ q) {Q : Exit → Act → World → Prop} (hJ : ∀ {j : Nat} {o : Oper}, j < k → ops[j]? = some o → ∃ d V f, out[j]? = some (d, V) ∧ ks[j]? = some f ∧
      ∀ Tv Ov, Oi.length ≤ Ov.length → (∀ p ob, f.got p = some ob → Ov[p]? = (fillAllS (ks.take j) Oi)[p]?) → (∀ i f p ob, waits o i = true → (ks.take j)[i]? = some f → f.got p = some ob → memB p sh = false → Ov[p]? = some ob) → (∀ q, memB q keep = true → Ov[q]? = Oi[q]?) → WpL P n m G false ops [o] ⟨deps (out.take j) o ++ (T0 ++ Tv), O ++ Ov⟩ (Only ⟨(d, V) :: (deps (out.take j) o ++ (T0 ++ Tv)), O ++ f.run Ov⟩))
    {listed : Array Bool} (inv : HeadInv .any ops k listed) {i : Nat} (hi : i ∈ Region.ready .any ops listed) (hik : i < k) {a w} (hg : GoodS n m G T0 out O Oi k ks listed a w) {K : Act → World → Prop}
    (hK : ∀ a' w', GoodS n m G T0 out O Oi k ks (listed.setIfInBounds i true) a' w' → K a' w') : wpOp P ops Q i K a w := by
  obtain ⟨hun, o, ho, hall⟩ := mem_ready.1 hi
  obtain ⟨T, Ov, hr, hroom, h1, h2⟩ := hg
  obtain ⟨d, V, f, hout, hkf, hw⟩ := hJ hik ho
  have hF : ∀ t U, (t, U) ∈ deps (out.take i) o → look T t = U := by
    intro t U hm
    simp only [deps, List.mem_filterMap] at hm
    obtain ⟨e, he, hx⟩ := hm
    split at hx
    · rename_i hb
      have he' : e ∈ o.after := by simpa using he
      have hx' : out[e.on]? = some (t, U) := by
        rw [List.getElem?_take] at hx
        split at hx
        · exact hx
        · simp at hx
      exact h1 _ _ _ hx' (hall e he' hb)
    · simp at hx
  have same : ∀ t, look (deps (out.take i) o ++ (T0 ++ T)) t = look T t := by
    intro t
    rw [look_append]
    split
    · rename_i h; exact (hF _ _ (has_look h)).symm
    · rw [look_append]
      split
      · rename_i h
        refine (h2 t ?_).symm
        cases hc : has out t with
        | false => rfl
        | true => have := H.fresh _ (has_look hc); simp only at this; rw [this] at h; cases h
      · rfl
  have hiu : listed.getD i false = false := getD_both hun
  have hdep : ∀ j g p ob, waits o j = true → (ks.take i)[j]? = some g → g.got p = some ob → memB p sh = false → Ov[p]? = some ob := by
    intro j g p ob hwt hg hsp hsh
    obtain ⟨e, he, hb, rfl⟩ := waits_spec hwt
    have hl := hall e he hb
    rw [List.getElem?_take] at hg
    split at hg
    · rename_i hji
      have hp := ok.lt e.on g p ob (by omega) hg hsp
      rcases hroom.cur p hp with ⟨j2, g2, oc, hjk, hl2, hg2, hs2, hlast, hv⟩ | ⟨hno, hv⟩
      · have hj : j2 = e.on := by
          rcases Nat.lt_trichotomy j2 e.on with h3 | h3 | h3
          · have := (ok.chain j2 e.on g2 g p oc ob h3 (by omega) hg2 hg hs2 hsp).1
            rw [hsh] at this; cases this
          · exact h3
          · have := (ok.chain e.on j2 g g2 p ob oc h3 hjk hg hg2 hsp hs2).1
            rw [hsh] at this; cases this
        subst hj
        rw [hg] at hg2; cases hg2
        rw [hsp] at hs2; cases hs2
        exact hv
      · exact absurd hsp (hno e.on g ob (by omega) hl hg)
    · cases hg
  have hrest : ∀ q, memB q keep = true → Ov[q]? = Oi[q]? := by
    intro q hq
    obtain ⟨hlt, hno⟩ := hkp q hq
    rcases hroom.cur q hlt with ⟨j, g, oc, hjk, _, hg, hs2, _, _⟩ | ⟨_, hv⟩
    · exact absurd rfl (hno j g q oc hjk hg hs2)
    · exact hv
  have hw' := hw T Ov (by rw [hroom.len]; omega) (fun p ob e => hroom.before ok inv hik hiu hall ho hkf e) hdep hrest a w (hr.relook same)
  have hst := hroom.step ok inv hik (by rw [inv.size]; have := (Array.getElem?_eq_some_iff.1 ho).1; omega) hiu hkf
  simp only at hw'
  have good : ∀ a' w', Rel n m G ⟨(d, V) :: (deps (out.take i) o ++ (T0 ++ T)), O ++ f.run Ov⟩ a' w' → GoodS n m G T0 out O Oi k ks (listed.setIfInBounds i true) a' w' := by
    intro a' w' hr'
    refine ⟨_, _, hr', hst, fun j d' V' hj hl => ?_, fun t ht => ?_⟩
    · by_cases hij : i = j
      · subst hij; rw [hout] at hj; cases hj; exact look_cons_same _ _ _
      · rw [getD_set_ne false hij] at hl
        have hne : d ≠ d' := by rintro rfl; exact hij (out_inj H.nodup hout hj)
        rw [look_cons_other _ _ _ _ hne, same]
        exact h1 _ _ _ hj hl
    · have hne : d ≠ t := by
        rintro rfl
        have := has_mem (List.mem_of_getElem? hout)
        rw [ht] at this; cases this
      rw [look_cons_other _ _ _ _ hne, same]; exact h2 t ht
  have only : ∀ e a' w', (∃ σ', Only ⟨(d, V) :: (deps (out.take i) o ++ (T0 ++ T)), O ++ f.run Ov⟩ e σ' ∧ Rel n m G σ' a' w') → e = .normal ∧ K a' w' := by
    rintro e a' w' ⟨σ', hq, hr'⟩
    cases e <;> first | (simp only [Only] at hq; subst hq; exact ⟨rfl, hK _ _ (good _ _ hr')⟩) | exact hq.elim
  unfold wpOp
  simp only [ho]
  change wpList P ops _ [o] a w at hw'
  unfold wpList at hw'
  by_cases hwant : Region.wanted o (yielded ops a.tmps) = true
  · rw [if_pos hwant] at hw' ⊢
    rcases hw' with hw' | ⟨_, a', w', hx⟩
    · refine .inl ?_
      unfold Oper.wp at hw' ⊢
      generalize (execOp a.eval o).run P w = r at *
      cases r with
      | ok x w1 =>
        cases x <;> simp only [Oper.upon] at hw' ⊢
        case value v => exact (only _ _ _ hw').2
        case skip => exact (only _ _ _ hw').2
        case defer d => exact (only _ _ _ hw').2
        case enter f args =>
          refine hw'.mono fun e w2 h2 => ?_
          cases e with
          | returned v => exact (only _ _ _ h2).2
          | panicked c => exact absurd (only _ _ _ h2).1 (by simp)
          | outgrown => obtain ⟨_, _, hf⟩ := h2; exact absurd (only _ _ _ hf).1 (by simp)
        case row r ar => exact hw'.mono fun v w2 h2 => (only _ _ _ h2).2
      | halt x w1 => cases x <;> simp only [Oper.upon] at hw' ⊢ <;> first | exact absurd (only _ _ _ hw').1 (by simp) | exact hw'.elim | (obtain ⟨_, _, hf⟩ := hw'; exact absurd (only _ _ _ hf).1 (by simp))
    · exact absurd (only _ _ _ hx).1 (by simp)
  · rw [if_neg hwant] at hw' ⊢
    exact (only _ _ _ hw').2
theorem WpA.regionS {l : List Oper} {id : Nat} {out T1 : List (Nat × AV)} {ks : List Fis} {Q : Exit → St → Prop} (k : Nat) (hm : P.follows .mixedOrders = true) (hB : mixB l.toArray k = true)
    (hJ : HeadS P n m G l.toArray T0 O Oi keep sh [] [] (l.take k) out ks) (hok : RoomSOk l.toArray sh ks Oi.length k) (hkp : ∀ q, memB q keep = true → q < Oi.length ∧ ∀ i f p ob, i < k → ks[i]? = some f → f.got p = some ob → p ≠ q) (hnd : nodupB (out.map (·.1)) = true) (hfr : (out.all fun p => !has T0 p.1) = true)
    (hT1 : out ++ T0 = T1) (h : WpL P n m G false l.toArray (l.drop k) ⟨T1, O ++ (fillAllS ks Oi ++ List.replicate ((List.range k).filter fun i => isPutS ks i).length deadO)⟩ Q) : WpA P n m G (.region id l.toArray true) ⟨T0, O ++ Oi⟩ Q := fun a w hr => by
  subst hT1
  simp only [mixB, Bool.and_eq_true, decide_eq_true_eq, Bool.or_eq_true] at hB
  obtain ⟨⟨⟨hks, hback⟩, hsc⟩, hseq⟩ := hB
  have hkl : k ≤ l.length := by simpa using hks
  have htl : (l.take k).length = k := by simp; omega
  obtain ⟨r, s, hr1, hr2, hr3, hr4⟩ := hJ.pre
  have hlen : out.length = k := by rw [hr1]; simp [hr2]; omega
  have hklen : ks.length = k := by rw [hr3]; simp [hr4]; omega
  have H : Heads l.toArray T0 out k := ⟨hlen, nodupB_spec hnd, fun p hp => by have := List.all_eq_true.1 hfr p hp; simpa using this, fun i hi o ho e he hb => by
    have h1 := List.all_eq_true.1 hback i (List.mem_range.2 hi)
    rw [ho] at h1
    have h2 := List.all_eq_true.1 h1 e (by simpa using he)
    simp only [Bool.or_eq_true, Bool.not_eq_true', decide_eq_true_eq] at h2
    rcases h2 with h2 | h2
    · rw [hb] at h2; cases h2
    · exact h2⟩
  have hJ' : ∀ {j : Nat} {o : Oper}, j < k → l.toArray[j]? = some o → ∃ d V f, out[j]? = some (d, V) ∧ ks[j]? = some f ∧
      ∀ Tv Ov, Oi.length ≤ Ov.length → (∀ p ob, f.got p = some ob → Ov[p]? = (fillAllS (ks.take j) Oi)[p]?) → (∀ i f p ob, waits o i = true → (ks.take j)[i]? = some f → f.got p = some ob → memB p sh = false → Ov[p]? = some ob) → (∀ q, memB q keep = true → Ov[q]? = Oi[q]?) → WpL P n m G false l.toArray [o] ⟨deps (out.take j) o ++ (T0 ++ Tv), O ++ Ov⟩ (Only ⟨(d, V) :: (deps (out.take j) o ++ (T0 ++ Tv)), O ++ f.run Ov⟩) := by
    intro j o hj ho
    have ho' : (l.take k)[j]? = some o := by rw [List.getElem?_take, if_pos hj]; simpa using ho
    have := hJ.at rfl ho'
    simpa using this
  have inv0 : HeadInv .any l.toArray k (Array.replicate l.toArray.size false) :=
    ⟨by simp, fun j oj _ hl => (by rw [getD_replicate_false] at hl; cases hl), fun t _ ht => getD_in (by simpa using ht) (getD_replicate_false _ _)⟩
  have room0 : RoomS ks Oi k (Array.replicate l.toArray.size false) Oi := by
    refine ⟨?_, fun q _ => .inr ⟨fun j g oc _ hl => (by rw [getD_replicate_false] at hl; cases hl), rfl⟩, fun q h1 h2 => by omega⟩
    have : ((List.range k).filter fun i => (Array.replicate l.toArray.size false).getD i false && isPutS ks i) = [] := by
      rw [List.filter_eq_nil_iff]; intro i _; rw [getD_replicate_false]; simp
    rw [this]; simp
  refine wp_region_any hm ?_
  have fin := any_order (P := P) (GP := GoodS n m G T0 out O Oi k ks) (g := l.toArray.size - k) (Q := fun e a' w' => ∃ σ', Q e σ' ∧ Rel n m G σ' a' w') H hks (fun hk => hsc.resolve_left (by omega)) (fun inv _ hi hik _ _ hg _ hK => head_stepS H hok hkp hJ' inv hi hik hg hK) (fun listed a w inv hall hg => by
    obtain ⟨T, Ov, hrT, hroom, h1, h2⟩ := hg
    have hOv : Ov = fillAllS ks Oi ++ List.replicate ((List.range k).filter fun i => isPutS ks i).length deadO := by
      have hcnt : ((List.range k).filter fun i => listed.getD i false && isPutS ks i) = (List.range k).filter fun i => isPutS ks i := by
        refine List.filter_congr fun i hi => ?_
        rw [hall i (List.mem_range.1 hi)]; rfl
      have hlen := hroom.len
      rw [hcnt] at hlen
      have hfl := fillAllS_len ks Oi
      apply List.ext_getElem?
      intro q
      rcases Nat.lt_or_ge q Oi.length with hq | hq
      · rw [List.getElem?_append_left (by omega)]
        rcases hroom.cur q hq with ⟨j, g, oc, hjk, hl, hg, hs, hlast, hv⟩ | ⟨hno, hv⟩ <;> rcases fillAllS_cases ks Oi q hq with ⟨j2, g2, oc2, hg2, hs2, hlast2, hv2⟩ | ⟨hno2, hv2⟩
        · have hj2k : j2 < k := by have := (List.getElem?_eq_some_iff.1 hg2).1; omega
          have : j = j2 := by
            rcases Nat.lt_trichotomy j j2 with h3 | h3 | h3
            · exact absurd hs2 (hlast j2 g2 oc2 h3 hj2k (hall j2 hj2k) hg2)
            · exact h3
            · exact absurd hs (hlast2 j g oc h3 hg)
          subst this
          rw [hg] at hg2; cases hg2
          rw [hs] at hs2; cases hs2
          rw [hv, hv2]
        · exact absurd hs (hno2 j g oc hg)
        · have hj2k : j2 < k := by have := (List.getElem?_eq_some_iff.1 hg2).1; omega
          exact absurd hs2 (hno j2 g2 oc2 hj2k (hall j2 hj2k) hg2)
        · rw [hv, hv2]
      · rcases Nat.lt_or_ge q Ov.length with h3 | h3
        · rw [hroom.dead q hq h3, List.getElem?_append_right (by omega), List.getElem?_replicate, if_pos (by omega)]
        · rw [List.getElem?_eq_none h3, List.getElem?_eq_none (by simp; omega)]
    subst hOv
    have hlist : listed = (Array.range l.toArray.size).map fun i => decide (i < k) := by
      apply Array.ext
      · simp [inv.size]
      · intro i hi1 hi2
        have hi : i < l.toArray.size := by rw [← inv.size]; exact hi1
        by_cases hik : i < k
        · have := hall i hik
          simp [hi1] at this
          simp [this, hik]
        · have := inv.tail i (by omega) hi
          simp [hi1] at this
          simp [this, hik]
    have hdl : (l.drop k).length = l.toArray.size - k := by simp
    rw [← hdl]
    refine wpAny_of_seq (l.drop k) k listed a w (fun j => by simp [List.getElem?_drop]) (by rw [hdl, hlist]; exact hseq) ?_
    refine h a w (hrT.relook fun t => ?_)
    rw [look_append]
    split
    · rename_i hh
      obtain ⟨i, hi, hi2⟩ := List.getElem_of_mem (has_look hh)
      have : out[i]? = some (t, look out t) := by rw [List.getElem?_eq_getElem hi, hi2]
      exact (h1 i _ _ this (hall i (by omega))).symm
    · rename_i hh
      exact (h2 t (by simpa using hh)).symm) k _ a w.drew inv0 (by
        have : ((List.range k).filter fun i => !(Array.replicate l.toArray.size false).getD i false) = List.range k := by
          rw [List.filter_eq_self]; intro i _; rw [getD_replicate_false]; rfl
        rw [this]; simp) ⟨T0, _, hr.drew, room0, ⟨fun i d V _ hl => (by rw [getD_replicate_false] at hl; cases hl), fun _ _ => rfl⟩⟩
  rw [show k + (l.toArray.size - k) = l.toArray.size by omega] at fin
  exact fin
def chainS (ops : Array Oper) (sh : List Nat) (c : Nat) : Nat → List (Nat × Nat) → List Fis → Bool
  | _, _, [] => true
  | j, seen, f :: ks => (f.sets.all fun x => Nat.blt x.1 c && seen.all fun s => !Nat.beq s.1 x.1 || (memB x.1 sh && reach ops 24 j s.2)) && chainS ops sh c (j + 1) (f.sets.map (fun x => (x.1, j)) ++ seen) ks
theorem chainS_lt {sh : List Nat} {c : Nat} : ∀ {ks : List Fis} {j : Nat} {seen : List (Nat × Nat)}, chainS ops sh c j seen ks = true → ∀ i f p ob, ks[i]? = some f → f.got p = some ob → p < c ∧ ∀ s ∈ seen, s.1 = p → memB p sh = true ∧ reach ops 24 (j + i) s.2 = true
  | [], _, _, _, i, f, p, ob, h, _ => by simp at h
  | g :: ks, j, seen, hB, i, f, p, ob, h, hs => by
    unfold chainS at hB
    rw [Bool.and_eq_true] at hB
    cases i with
    | zero =>
      simp at h; subst h
      obtain ⟨x, hx, e⟩ := lkF_mem hs
      have hx2 := List.all_eq_true.1 hB.1 x hx
      rw [Bool.and_eq_true] at hx2
      subst e
      refine ⟨Nat.le_of_ble_eq_true hx2.1, fun s hm e => ?_⟩
      have := List.all_eq_true.1 hx2.2 s hm
      simp only [Bool.or_eq_true, Bool.not_eq_true', Bool.and_eq_true] at this
      rcases this with h | ⟨h1, h2⟩
      · rw [e] at h; simp at h
      · refine ⟨h1, ?_⟩
        rw [Nat.add_zero]; exact h2
    | succ i =>
      have e : j + (i + 1) = j + 1 + i := by omega
      rw [e]
      have := chainS_lt hB.2 i f p ob (by simpa using h) hs
      exact ⟨this.1, fun s hm e => this.2 s (List.mem_append_right _ hm) e⟩
theorem chainS_pair {sh : List Nat} {c : Nat} : ∀ {ks : List Fis} {j : Nat} {seen : List (Nat × Nat)}, chainS ops sh c j seen ks = true → ∀ i i2 f g p ob oc, i < i2 → ks[i]? = some f → ks[i2]? = some g → f.got p = some ob → g.got p = some oc → memB p sh = true ∧ reach ops 24 (j + i2) (j + i) = true
  | [], _, _, _, i, i2, f, g, p, ob, oc, _, h, _, _, _ => by simp at h
  | x :: ks, j, seen, hB, i, i2, f, g, p, ob, oc, hlt, h, h2, hs, hs2 => by
    unfold chainS at hB
    rw [Bool.and_eq_true] at hB
    cases i2 with
    | zero => omega
    | succ i2 =>
      have e2 : j + (i2 + 1) = j + 1 + i2 := by omega
      cases i with
      | zero =>
        simp at h; subst h
        obtain ⟨y, hy, e⟩ := lkF_mem hs
        have := (chainS_lt hB.2 i2 g p oc (by simpa using h2) hs2).2 (p, j) (List.mem_append_left _ (by rw [← e]; exact List.mem_map_of_mem (f := fun x : Nat × AObj => (x.1, j)) hy)) rfl
        rw [e2]; exact this
      | succ i =>
        have e : j + (i + 1) = j + 1 + i := by omega
        rw [e, e2]
        exact chainS_pair hB.2 i i2 f g p ob oc (by omega) (by simpa using h) (by simpa using h2) hs hs2
theorem roomSOk_of {ks : List Fis} {c k : Nat} (h : chainS ops sh c 0 [] ks = true) : RoomSOk ops sh ks c k :=
  ⟨fun i f p ob _ hk hs => (chainS_lt h i f p ob hk hs).1, fun i j f g p ob oc hij _ hi hj hf hg => by
    have := chainS_pair h i j f g p ob oc hij hi hj hf hg
    rw [Nat.zero_add, Nat.zero_add] at this; exact this⟩
theorem HeadS.consF {fs fs2 out : List (Nat × AV)} {gs gs2 : List Fis} {o : Oper} {l : List Oper} {d : Nat} {V : AV} {F : List (Nat × AV)} {ks : List Fis} {cur : List AObj} (k : Fis) (hd : o.dst = some d) (hF : depsF fs o.after.toList = some F) (hcur : fillAllS gs Oi = cur)
    (h : ∀ Tv Ov, Oi.length ≤ Ov.length → (∀ p ob, k.got p = some ob → Ov[p]? = cur[p]?) → (∀ j f p ob, waits o j = true → gs[j]? = some f → f.got p = some ob → memB p sh = false → Ov[p]? = some ob) → (∀ q, memB q keep = true → Ov[q]? = Oi[q]?) → WpL P n m G false ops [o] ⟨F ++ (T0 ++ Tv), O ++ Ov⟩ (Only ⟨(d, V) :: (F ++ (T0 ++ Tv)), O ++ k.run Ov⟩)) (hs : catF fs [(d, V)] = some fs2) (hg : catF gs [k] = some gs2) (r : HeadS P n m G ops T0 O Oi keep sh fs2 gs2 l out ks) : HeadS P n m G ops T0 O Oi keep sh fs gs (o :: l) out ks := by
  have := catF_eq hs; subst this; have := catF_eq hg; subst this; subst hcur
  exact .cons k (depsF_eq hF) h r
theorem WpA.regionSF {l l1 l2 : List Oper} {id : Nat} {out T1 : List (Nat × AV)} {ks : List Fis} {Of Or O1 : List AObj} {Q : Exit → St → Prop} (k c : Nat) (keep sh : List Nat) (hO0 : Of = O ++ Or) (hm : P.follows .mixedOrders = true) (hB : mixB l.toArray k = true)
    (hl : takeF k l = some l1) (hJ : HeadS P n m G l.toArray T0 O (Or ++ List.replicate c roomO) keep sh [] [] l1 out ks) (hok : chainS l.toArray sh (Or.length + c) 0 [] ks = true) (hkp : keepB (Or.length + c) (spotsS ks) keep = true) (hnd : nodupB (out.map (·.1)) = true) (hfr : (out.all fun p => !has T0 p.1) = true)
    (hT1 : catF out T0 = some T1) (h2 : l.drop k = l2) (hO : O ++ (fillAllS ks (Or ++ List.replicate c roomO) ++ List.replicate ((List.range k).filter fun i => isPutS ks i).length deadO) = O1) (h : WpL P n m G false l.toArray l2 ⟨T1, O1⟩ Q) : WpA P n m G (.region id l.toArray true) ⟨T0, Of⟩ Q := by
  have := takeF_eq hl; subst this; subst h2; subst hO; subst hO0
  have hc : (Or ++ List.replicate c roomO).length = Or.length + c := by simp
  have hw := WpA.regionS (Q := Q) (id := id) k hm hB hJ (by rw [hc]; exact roomSOk_of hok) (fun q hq => by rw [hc]; exact keepB_ofS hkp hq) hnd hfr (catF_eq hT1) h
  have hr := Weak.rooms (m := m) (T := T0) c (O ++ Or)
  rw [List.append_assoc] at hr
  exact WpA.weak hr hw
end
end Go.Abs


namespace Go.Proofs.YtkckmenalehdpaaDoor
open Go Go.Abs
attribute [local irreducible] WpA WpL Rnd Blk Abs.Seq Abs.Fin Abs.FinG FnC FnG Only
def nb (s : List UInt8) : List Int := s.map fun b => (b.toNat : Int)
theorem nb_len (s : List UInt8) : (nb s).length = s.length := by simp [nb]
theorem bytes_nb (s : List UInt8) : (nb s).map (fun v : Int => UInt8.ofNat v.toNat) = s := by
  simp [nb, List.map_map, Function.comp_def]
theorem hi4 (x : Nat) : (x : Int) / 2 ^ Int.toNat 4 = ((x / 16 : Nat) : Int) := by show (x : Int) / 16 = _; omega
theorem lo4_fin : ∀ b : Fin 256, IntKind.u8.wrap ((BitVec.ofInt IntKind.u8.bits (b.val : Int) &&& BitVec.ofInt IntKind.u8.bits 15).toNat : Nat) = ((b.val % 16 : Nat) : Int) := by decide +kernel
theorem lo4 (b : UInt8) : IntKind.u8.wrap ((BitVec.ofInt IntKind.u8.bits (b.toNat : Int) &&& BitVec.ofInt IntKind.u8.bits 15).toNat : Nat) = ((b.toNat % 16 : Nat) : Int) := lo4_fin ⟨b.toNat, b.toNat_lt⟩
instance Hex_c : Con 64 (∀ s : List UInt8, s.length ≤ 274877906944 → Fn 64 [Z s] [] (Z (hexL s))) := ⟨fun s hl => by
  refine FnC.of_body tabOk Tryd.func64 Tryd.ntmps64 rfl (by decide +kernel) (by simp) fun G => ?_
  refine go (r := ?_); and_intros <;> intros <;> try exact True.intro
  refine WpA.loop (fun x : List Int × Nat => ⟨[(0, Z s), (3, .own 0 0 0 x.1.length), (7, I s.length), (8, I x.2)], [⟨u8s x.1, 0, 1, some 5⟩]⟩) (fun x => x.1 = nb (hexL (s.take x.2)) ∧ x.2 ≤ s.length) (fun x => s.length - x.2) ([], 0) (by simp [nb, hexL]) (go (r := trivial)) (fun x hx => ?_)
  obtain ⟨acc, k⟩ := x
  obtain ⟨hx1, hx2⟩ := hx
  simp only at hx1 hx2 ⊢
  have hla : acc.length = 2 * k := by rw [hx1, nb_len, hexL_len, List.length_take]; omega
  refine goR (r := ?_); and_intros <;> intros <;> try exact True.intro
  · have hb := (s.getD k 0).toNat_lt
    apply WpA.regionNO 12 mixed (by decide +kernel)
    · exact rfl
    · exact rfl
    · apply HeadN.pureF rfl
      · exact rfl
      · exact rfl
      · exact rfl
      · exact in0
      · exact rfl
      apply HeadN.pureF rfl
      · exact rfl
      · exact rfl
      · exact rfl
      · exact in0
      · exact rfl
      apply HeadN.pureF rfl
      · exact rfl
      · exact rfl
      · exact rfl
      · exact in0
      · exact rfl
      apply HeadN.pureF rfl
      · exact rfl
      · exact rfl
      · exact rfl
      · exact in0
      · exact rfl
      apply HeadN.pureF rfl
      · exact rfl
      · exact rfl
      · exact rfl
      · exact in0
      · exact rfl
      apply HeadN.pureF rfl
      · exact rfl
      · exact rfl
      · exact rfl
      · intro Tv Ov
        refine WpL.idxStrB (p := hexD) tabOk rfl rfl rfl (by show (0 : Int) ≤ ((s.getD k 0).toNat : Int) / 16 ∧ ((s.getD k 0).toNat : Int) / 16 < 16; omega) (by decide) (fun h1 => ?_)
        exact WpL.nil (Only.mk rfl)
      · exact rfl
      apply HeadN.pureF rfl
      · exact rfl
      · exact rfl
      · exact rfl
      · exact in0
      · exact rfl
      apply HeadN.pureF rfl
      · exact rfl
      · exact rfl
      · exact rfl
      · exact in0
      · exact rfl
      apply HeadN.pureF rfl
      · exact rfl
      · exact rfl
      · exact rfl
      · exact in0
      · exact rfl
      apply HeadN.pureF rfl
      · exact rfl
      · exact rfl
      · exact rfl
      · exact in0
      · exact rfl
      apply HeadN.pureF rfl
      · exact rfl
      · exact rfl
      · exact rfl
      · intro Tv Ov
        refine WpL.idxStrB (p := hexD) tabOk rfl rfl rfl (by rw [lo4]; show (0 : Int) ≤ (((s.getD k 0).toNat % 16 : Nat) : Int) ∧ (((s.getD k 0).toNat % 16 : Nat) : Int) < 16; omega) (by decide) (fun h1 => ?_)
        exact WpL.nil (Only.mk rfl)
      · exact rfl
      apply HeadN.prodF rfl
      · exact rfl
      · exact rfl
      · exact in1
      · intro hgo; cases hgo
      · exact rfl
      · exact rfl
      · exact rfl
      exact HeadN.nil
    · exact trueA
    · exact trueA
    · exact rfl
    · exact rfl
    · exact rfl
    · refine go (r := ?_); and_intros <;> intros <;> try exact True.intro
      refine Rnd.go (acc ++ [((hx ((s.getD k 0).toNat / 16)).toNat : Int), ((hx ((s.getD k 0).toNat % 16)).toNat : Int)], k + 1) ⟨by rw [hx1, hexL_take s k (by omega)]; simp [nb, hexB], by simp only; omega⟩ (by simp only; omega) ?_
      rw [hi4, lo4]
      exact go (r := trivial)
  · refine go (r := ?_); and_intros <;> intros <;> try exact True.intro
    have e : k = s.length := by omega
    rw [hx1, e, List.take_length]
    exact bytes_nb _⟩
abbrev U8 (b : UInt8) : AV := .sc (.int .u8 b.toNat)
instance l1Digit_s : Con 74 (∀ k : Int, 0 ≤ k ∧ k < 16 → Fn 74 [I k] [] (U8 (hx k.toNat))) := ⟨fun k hk => by
  refine FnC.of_body tabOk Tryd.func74 Tryd.ntmps74 rfl (by decide +kernel) (by simp) fun G => ?_
  refine go (r := ?_); and_intros <;> intros <;> try exact True.intro⟩
instance Hex_s : Con 56 (∀ s : List UInt8, s.length ≤ 274877906944 → Fn 56 [Z s] [] (Z (hexL s))) := ⟨fun s hl => by
  refine FnC.of_body tabOk Tryd.func56 Tryd.ntmps56 rfl (by decide +kernel) (by simp) fun G => ?_
  refine go (r := ?_); and_intros <;> intros <;> try exact True.intro
  refine WpA.loop (fun x : List Int × Nat => ⟨[(0, Z s), (3, .own 0 0 0 x.1.length), (4, I x.2)], [⟨u8s x.1, 0, 1, some 5⟩]⟩) (fun x => x.1 = nb (hexL (s.take x.2)) ∧ x.2 ≤ s.length) (fun x => s.length - x.2) ([], 0) (by simp [nb, hexL]) (go (r := trivial)) (fun x hx => ?_)
  obtain ⟨acc, k⟩ := x
  obtain ⟨hx1, hx2⟩ := hx
  simp only at hx1 hx2 ⊢
  have hla : acc.length = 2 * k := by rw [hx1, nb_len, hexL_len, List.length_take]; omega
  have hb : (s.getD k 0).toNat < 256 := (s.getD k 0).toNat_lt
  refine goR (r := ?_); and_intros <;> intros <;> try exact True.intro
  · apply WpA.regionSF (O := []) (Or := [⟨u8s acc, 0, 1, some 5⟩]) (O1 := [⟨u8s acc, 0, 1, some 5⟩, ⟨u8s [((hx ((s.getD k 0).toNat / 16)).toNat : Int), ((hx ((s.getD k 0).toNat % 16)).toNat : Int)], 1, 1, some 5⟩, deadO]) 14 1 [] [] rfl mixed (by decide +kernel)
    · exact rfl
    · apply HeadS.consF .none rfl
      · exact rfl
      · exact rfl
      · exact in1
      · exact rfl
      · exact rfl
      apply HeadS.consF .none rfl
      · exact rfl
      · exact rfl
      · exact in1
      · exact rfl
      · exact rfl
      apply HeadS.consF .none rfl
      · exact rfl
      · exact rfl
      · exact in1
      · exact rfl
      · exact rfl
      apply HeadS.consF .none rfl
      · exact rfl
      · exact rfl
      · exact in1
      · exact rfl
      · exact rfl
      apply HeadS.consF .none rfl
      · exact rfl
      · exact rfl
      · exact in1
      · exact rfl
      · exact rfl
      apply HeadS.consF .none rfl
      · exact rfl
      · exact rfl
      · exact in1
      · exact rfl
      · exact rfl
      apply HeadS.consF (V := U8 (hx ((s.getD k 0).toNat / 16))) .none rfl
      · exact rfl
      · exact rfl
      · intro Tv Ov hc hp' hd hk
        refine K.call ?_
        refine K.con (fun hcon => ?_)
        refine WpL.callF (hcon ((s.getD k 0).toNat / 16 : Nat) (by omega)) snapA locA outA (cnt_some _ 0) rfl rfl (by decide) ?_
        rw [List.append_nil]
        exact WpL.nil (Only.mk rfl)
      · exact rfl
      · exact rfl
      apply HeadS.consF .none rfl
      · exact rfl
      · exact rfl
      · exact in1
      · exact rfl
      · exact rfl
      apply HeadS.consF .none rfl
      · exact rfl
      · exact rfl
      · exact in1
      · exact rfl
      · exact rfl
      apply HeadS.consF .none rfl
      · exact rfl
      · exact rfl
      · exact in1
      · exact rfl
      · exact rfl
      apply HeadS.consF .none rfl
      · exact rfl
      · exact rfl
      · exact in1
      · exact rfl
      · exact rfl
      apply HeadS.consF .none rfl
      · exact rfl
      · exact rfl
      · exact in1
      · exact rfl
      · exact rfl
      apply HeadS.consF (V := U8 (hx ((s.getD k 0).toNat % 16))) .none rfl
      · exact rfl
      · exact rfl
      · intro Tv Ov hc hp' hd hk
        refine K.call ?_
        refine K.con (fun hcon => ?_)
        refine WpL.callF (hcon ((s.getD k 0).toNat % 16 : Nat) (by omega)) snapA locA outA (cnt_some _ 0) rfl rfl (by decide) ?_
        rw [List.append_nil]
        exact WpL.nil (Only.mk rfl)
      · exact rfl
      · exact rfl
      apply HeadS.consF (V := .own 1 1 0 2) (.put 1 (⟨u8s [((hx ((s.getD k 0).toNat / 16)).toNat : Int), ((hx ((s.getD k 0).toNat % 16)).toNat : Int)], 1, 1, some 5⟩)) rfl
      · exact rfl
      · exact rfl
      · intro Tv Ov hc hp' hd hk
        refine WpL.litU8s tabOk rfl rfl rfl rfl rfl (by decide) (by rw [nid_len, Nat.zero_add]) (by decide) ?_
        apply WpL.putNil (p := 1)
        · exact hp' 1 _ rfl
        · exact Nat.le_of_ble_eq_true rfl
        · exact rfl
        · first | exact still_ints _ | exact still_rows (fun _ => rfl) _ | rfl
      · exact rfl
      · exact rfl
      exact HeadS.nil
    · exact rfl
    · exact rfl
    · exact rfl
    · exact rfl
    · exact rfl
    · exact rfl
    · exact rfl
    refine go (r := ?_); and_intros <;> intros <;> try exact True.intro
    refine Rnd.go (acc ++ [((hx ((s.getD k 0).toNat / 16)).toNat : Int), ((hx ((s.getD k 0).toNat % 16)).toNat : Int)], k + 1) ⟨by rw [hx1, hexL_take s k (by omega)]; simp [nb, hexB], by simp only; omega⟩ (by simp only; omega) ?_
    exact go (r := trivial)
  · refine go (r := ?_); and_intros <;> intros <;> try exact True.intro
    have e : k = s.length := by omega
    rw [hx1, e, List.take_length]
    exact bytes_nb _⟩
end Go.Proofs.YtkckmenalehdpaaDoor
