/- Proved in this text: lemmas and contracts of functions that the claim uses (parts: GoR, Base, Cur, CurP, Defs). No condition. -/
import Derived.Test.YtgkeopmihhcbiaaPpM8
import Derived.Test.YtgkeopmihhcbiaaPpM7

/- The run of rules that stops at a region which draws its order. Written by a program of mine (mkgo.py). No condition. -/
namespace Go.Proofs.Ytgkeopmihhcbiaa
open Go Go.Abs
set_option linter.unusedVariables false
set_option linter.unusedSimpArgs false
set_option maxRecDepth 100000
theorem goR {P R : Prop} (h : (Hold R → P) ∧ IsT R := by
  refine And.intro ?_ ?_
  · intro hold
    repeat' (first
    | (refine K.L ?_; first
      | (refine K.mv ?_; refine WpL.move rfl (by decide) ?_)
      | (refine K.asg ?_; refine WpL.assign rfl (by decide) ?_)
      | (refine K.bin ?_; first
        | refine WpL.add rfl rfl (by omega) (by decide) ?_
        | refine WpL.sub rfl rfl (by omega) (by decide) ?_
        | refine WpL.mul rfl rfl (by first | omega | exact mul_in (by omega) (by omega) | assumption) (by decide) ?_
        | refine WpL.quo rfl rfl (by omega) (by decide) ?_
        | refine WpL.rem rfl rfl (by omega) (by decide) ?_
        | refine WpL.bin rfl rfl rfl (by decide) ?_
        | refine WpL.strAdd rfl rfl (by first | omega | (simp only [List.length_append]; omega) | (simp; omega)) (by decide) ?_
        | refine WpL.boolNe (K.tyBool tabOk rfl) rfl rfl (by decide) ?_
        | refine WpL.nilEq (TabOk.slice tabOk rfl).1 rfl rfl (by decide) ?_
        | refine WpL.ownEq (TabOk.slice tabOk rfl).1 rfl rfl rfl (by first | rfl | omega | (simp; done) | (simp; omega)) rfl (by decide) ?_
        | refine WpL.shl rfl rfl (by first | decide | (simp only [IntKind.bits]; omega)) (by decide) ?_
        | refine WpL.shr rfl rfl (by first | decide | (simp only [IntKind.bits]; omega)) (by decide) ?_)
      | (refine K.ld ?_; first
        | refine WpL.loadInts tabOk rfl rfl rfl (by first | omega | (simp; omega)) (by decide) ?_
        | refine WpL.loadU8s tabOk rfl rfl rfl (by first | omega | (simp; omega)) (by decide) ?_
        | refine WpL.loadStrs tabOk rfl rfl rfl (by first | omega | (simp; omega)) (by decide) ?_
        | refine WpL.loadRow tabOk rfl rfl (fun _ => rfl) (fun _ => rfl) (by first | rfl | omega | (simp; done) | (simp; omega)) (by decide) rfl ?_
        | refine WpL.loadField tabOk rfl rfl rfl (fun _ => rfl) rfl rfl (by first | rfl | omega | (simp; done) | (simp; omega)) (by decide) ?_
        | refine WpL.loadOwn tabOk rfl rfl rfl rfl (fun _ => rfl) rfl (by first | rfl | omega | (simp; done) | (simp; omega)) (by decide) rfl ?_
        | refine WpL.load1 tabOk rfl rfl rfl rfl rfl (by decide) ?_
        | refine WpL.loadAgg (ds := [_]) tabOk rfl rfl rfl rfl rfl (by decide) ?_
        | refine WpL.loadAgg (ds := [_, _]) tabOk rfl rfl rfl rfl rfl (by decide) ?_
        | refine WpL.loadAgg (ds := [_, _, _]) tabOk rfl rfl rfl rfl rfl (by decide) ?_
        | refine WpL.loadAgg (ds := [_, _, _, _]) tabOk rfl rfl rfl rfl rfl (by decide) ?_
        | refine WpL.loadAgg (ds := [_, _, _, _, _]) tabOk rfl rfl rfl rfl rfl (by decide) ?_
        | refine WpL.loadAgg (ds := [_, _, _, _, _, _]) tabOk rfl rfl rfl rfl rfl (by decide) ?_
        | refine WpL.loadAgg (ds := [_, _, _, _, _, _, _]) tabOk rfl rfl rfl rfl rfl (by decide) ?_
        | refine WpL.loadAgg (ds := [_, _, _, _, _, _, _, _]) tabOk rfl rfl rfl rfl rfl (by decide) ?_)
      | (refine K.fld ?_; first
        | refine WpL.fieldI tabOk rfl rfl rfl (by decide) ?_
        | refine WpL.fieldP tabOk rfl rfl rfl rfl rfl (by decide) ?_)
      | (refine K.ixa ?_; first
        | refine WpL.idxI1 tabOk rfl rfl rfl (by omega) (by decide) ?_
        | refine WpL.idxIJ tabOk rfl rfl rfl (by omega) (by decide) ?_
        | refine WpL.idxOJ tabOk rfl rfl rfl rfl rfl (by omega) (by decide) ?_
        | refine WpL.idxIN tabOk rfl rfl rfl (by omega) (by decide) ?_
        | refine WpL.idxON tabOk rfl rfl rfl rfl rfl (by omega) (by decide) ?_
        | refine WpL.idxI tabOk rfl rfl rfl (by omega) (by decide) ?_
        | refine WpL.idxO tabOk rfl rfl rfl rfl rfl (by omega) (by decide) ?_)
      | (refine K.call ?_; refine K.con (fun hcon => ?_); first
        | (refine WpL.callF (hcon ?_) snapA locA outA rfl rfl rfl (by decide) ?_ <;> clear hcon)
        | (refine WpL.callF (hcon) snapA locA outA rfl rfl rfl (by decide) ?_ <;> clear hcon)
        | (refine WpL.callF (hcon _ ?_) snapA locA outA rfl rfl rfl (by decide) ?_ <;> clear hcon)
        | (refine WpL.callF (hcon _) snapA locA outA rfl rfl rfl (by decide) ?_ <;> clear hcon)
        | (refine WpL.callF (hcon _ _ ?_) snapA locA outA rfl rfl rfl (by decide) ?_ <;> clear hcon)
        | (refine WpL.callF (hcon _ _) snapA locA outA rfl rfl rfl (by decide) ?_ <;> clear hcon)
        | (refine WpL.callF (hcon _ _ _ ?_) snapA locA outA rfl rfl rfl (by decide) ?_ <;> clear hcon)
        | (refine WpL.callF (hcon _ _ _) snapA locA outA rfl rfl rfl (by decide) ?_ <;> clear hcon)
        | (refine WpL.callF (hcon _ _ _ _ ?_) snapA locA outA rfl rfl rfl (by decide) ?_ <;> clear hcon)
        | (refine WpL.callF (hcon _ _ _ _) snapA locA outA rfl rfl rfl (by decide) ?_ <;> clear hcon)
        | (refine WpL.callF (hcon _ _ _ _ _ ?_) snapA locA outA rfl rfl rfl (by decide) ?_ <;> clear hcon)
        | (refine WpL.callF (hcon _ _ _ _ _) snapA locA outA rfl rfl rfl (by decide) ?_ <;> clear hcon)
        | (refine WpL.callF (hcon _ _ _ _ _ _ ?_) snapA locA outA rfl rfl rfl (by decide) ?_ <;> clear hcon)
        | (refine WpL.callF (hcon _ _ _ _ _ _) snapA locA outA rfl rfl rfl (by decide) ?_ <;> clear hcon)
        | (refine WpL.callF (hcon _ _ _ _ _ _ _ ?_) snapA locA outA rfl rfl rfl (by decide) ?_ <;> clear hcon)
        | (refine WpL.callF (hcon _ _ _ _ _ _ _) snapA locA outA rfl rfl rfl (by decide) ?_ <;> clear hcon)
        | (refine WpL.callF (hcon _ _ _ _ _ _ _ _ ?_) snapA locA outA rfl rfl rfl (by decide) ?_ <;> clear hcon)
        | (refine WpL.callF (hcon _ _ _ _ _ _ _ _) snapA locA outA rfl rfl rfl (by decide) ?_ <;> clear hcon)
        | (refine WpL.callF (hcon _ _ _ _ _ _ _ _ _ ?_) snapA locA outA rfl rfl rfl (by decide) ?_ <;> clear hcon)
        | (refine WpL.callF (hcon _ _ _ _ _ _ _ _ _) snapA locA outA rfl rfl rfl (by decide) ?_ <;> clear hcon)
        | (refine WpL.callF (hcon _ _ _ _ _ _ _ _ _ _ ?_) snapA locA outA rfl rfl rfl (by decide) ?_ <;> clear hcon)
        | (refine WpL.callF (hcon _ _ _ _ _ _ _ _ _ _) snapA locA outA rfl rfl rfl (by decide) ?_ <;> clear hcon)
        | (refine WpL.callF (hcon _ _ _ _ _ _ _ _ _ _ _ ?_) snapA locA outA rfl rfl rfl (by decide) ?_ <;> clear hcon)
        | (refine WpL.callF (hcon _ _ _ _ _ _ _ _ _ _ _) snapA locA outA rfl rfl rfl (by decide) ?_ <;> clear hcon)
        | (refine WpL.callF (hcon _ _ _ _ _ _ _ _ _ _ _ _ ?_) snapA locA outA rfl rfl rfl (by decide) ?_ <;> clear hcon)
        | (refine WpL.callF (hcon _ _ _ _ _ _ _ _ _ _ _ _) snapA locA outA rfl rfl rfl (by decide) ?_ <;> clear hcon)
        | (refine WpL.callF (hcon _ _ _ _ _ _ _ _ _ _ _ _ _ ?_) snapA locA outA rfl rfl rfl (by decide) ?_ <;> clear hcon)
        | (refine WpL.callF (hcon _ _ _ _ _ _ _ _ _ _ _ _ _) snapA locA outA rfl rfl rfl (by decide) ?_ <;> clear hcon)
        | (refine WpL.callF (hcon _ _ _ _ _ _ _ _ _ _ _ _ _ _ ?_) snapA locA outA rfl rfl rfl (by decide) ?_ <;> clear hcon)
        | (refine WpL.callF (hcon _ _ _ _ _ _ _ _ _ _ _ _ _ _) snapA locA outA rfl rfl rfl (by decide) ?_ <;> clear hcon)
        | (refine WpL.callF (hcon _ _ _ _ _ _ _ _ _ _ _ _ _ _ _ ?_) snapA locA outA rfl rfl rfl (by decide) ?_ <;> clear hcon)
        | (refine WpL.callF (hcon _ _ _ _ _ _ _ _ _ _ _ _ _ _ _) snapA locA outA rfl rfl rfl (by decide) ?_ <;> clear hcon)
        | (refine WpL.callF (hcon _ _ _ _ _ _ _ _ _ _ _ _ _ _ _ _ ?_) snapA locA outA rfl rfl rfl (by decide) ?_ <;> clear hcon)
        | (refine WpL.callF (hcon _ _ _ _ _ _ _ _ _ _ _ _ _ _ _ _) snapA locA outA rfl rfl rfl (by decide) ?_ <;> clear hcon)
        | (refine WpL.callF (hcon _ _ _ _ _ _ _ _ _ _ _ _ _ _ _ _ _ ?_) snapA locA outA rfl rfl rfl (by decide) ?_ <;> clear hcon)
        | (refine WpL.callF (hcon _ _ _ _ _ _ _ _ _ _ _ _ _ _ _ _ _) snapA locA outA rfl rfl rfl (by decide) ?_ <;> clear hcon)
        | (refine WpL.callF (hcon _ _ _ _ _ _ _ _ _ _ _ _ _ _ _ _ _ _ ?_) snapA locA outA rfl rfl rfl (by decide) ?_ <;> clear hcon)
        | (refine WpL.callF (hcon _ _ _ _ _ _ _ _ _ _ _ _ _ _ _ _ _ _) snapA locA outA rfl rfl rfl (by decide) ?_ <;> clear hcon))
      | (refine K.call ?_; refine K.conG (fun hcon => ?_); first
        | (refine WpL.callM (hs := [_]) (hcon ?_) handA handOA rfl rfl outA outA rfl rfl rfl rfl (by decide) ?_ <;> clear hcon)
        | (refine WpL.callM (hs := [_]) (hcon) handA handOA rfl rfl outA outA rfl rfl rfl rfl (by decide) ?_ <;> clear hcon)
        | (refine WpL.callM (hs := [_]) (hcon _ ?_) handA handOA rfl rfl outA outA rfl rfl rfl rfl (by decide) ?_ <;> clear hcon)
        | (refine WpL.callM (hs := [_]) (hcon _) handA handOA rfl rfl outA outA rfl rfl rfl rfl (by decide) ?_ <;> clear hcon)
        | (refine WpL.callM (hs := [_]) (hcon _ _ ?_) handA handOA rfl rfl outA outA rfl rfl rfl rfl (by decide) ?_ <;> clear hcon)
        | (refine WpL.callM (hs := [_]) (hcon _ _) handA handOA rfl rfl outA outA rfl rfl rfl rfl (by decide) ?_ <;> clear hcon)
        | (refine WpL.callM (hs := [_]) (hcon _ _ _ ?_) handA handOA rfl rfl outA outA rfl rfl rfl rfl (by decide) ?_ <;> clear hcon)
        | (refine WpL.callM (hs := [_]) (hcon _ _ _) handA handOA rfl rfl outA outA rfl rfl rfl rfl (by decide) ?_ <;> clear hcon)
        | (refine WpL.callM (hs := [_]) (hcon _ _ _ _ ?_) handA handOA rfl rfl outA outA rfl rfl rfl rfl (by decide) ?_ <;> clear hcon)
        | (refine WpL.callM (hs := [_]) (hcon _ _ _ _) handA handOA rfl rfl outA outA rfl rfl rfl rfl (by decide) ?_ <;> clear hcon)
        | (refine WpL.callM (hs := [_]) (hcon _ _ _ _ _ ?_) handA handOA rfl rfl outA outA rfl rfl rfl rfl (by decide) ?_ <;> clear hcon)
        | (refine WpL.callM (hs := [_]) (hcon _ _ _ _ _) handA handOA rfl rfl outA outA rfl rfl rfl rfl (by decide) ?_ <;> clear hcon)
        | (refine WpL.callM (hs := [_]) (hcon _ _ _ _ _ _ ?_) handA handOA rfl rfl outA outA rfl rfl rfl rfl (by decide) ?_ <;> clear hcon)
        | (refine WpL.callM (hs := [_]) (hcon _ _ _ _ _ _) handA handOA rfl rfl outA outA rfl rfl rfl rfl (by decide) ?_ <;> clear hcon)
        | (refine WpL.callM (hs := [_]) (hcon _ _ _ _ _ _ _ ?_) handA handOA rfl rfl outA outA rfl rfl rfl rfl (by decide) ?_ <;> clear hcon)
        | (refine WpL.callM (hs := [_]) (hcon _ _ _ _ _ _ _) handA handOA rfl rfl outA outA rfl rfl rfl rfl (by decide) ?_ <;> clear hcon)
        | (refine WpL.callM (hs := [_]) (hcon _ _ _ _ _ _ _ _ ?_) handA handOA rfl rfl outA outA rfl rfl rfl rfl (by decide) ?_ <;> clear hcon)
        | (refine WpL.callM (hs := [_]) (hcon _ _ _ _ _ _ _ _) handA handOA rfl rfl outA outA rfl rfl rfl rfl (by decide) ?_ <;> clear hcon)
        | (refine WpL.callM (hs := [_, _]) (hcon ?_) handA handOA rfl rfl outA outA rfl rfl rfl rfl (by decide) ?_ <;> clear hcon)
        | (refine WpL.callM (hs := [_, _]) (hcon) handA handOA rfl rfl outA outA rfl rfl rfl rfl (by decide) ?_ <;> clear hcon)
        | (refine WpL.callM (hs := [_, _]) (hcon _ ?_) handA handOA rfl rfl outA outA rfl rfl rfl rfl (by decide) ?_ <;> clear hcon)
        | (refine WpL.callM (hs := [_, _]) (hcon _) handA handOA rfl rfl outA outA rfl rfl rfl rfl (by decide) ?_ <;> clear hcon)
        | (refine WpL.callM (hs := [_, _]) (hcon _ _ ?_) handA handOA rfl rfl outA outA rfl rfl rfl rfl (by decide) ?_ <;> clear hcon)
        | (refine WpL.callM (hs := [_, _]) (hcon _ _) handA handOA rfl rfl outA outA rfl rfl rfl rfl (by decide) ?_ <;> clear hcon)
        | (refine WpL.callM (hs := [_, _]) (hcon _ _ _ ?_) handA handOA rfl rfl outA outA rfl rfl rfl rfl (by decide) ?_ <;> clear hcon)
        | (refine WpL.callM (hs := [_, _]) (hcon _ _ _) handA handOA rfl rfl outA outA rfl rfl rfl rfl (by decide) ?_ <;> clear hcon)
        | (refine WpL.callM (hs := [_, _]) (hcon _ _ _ _ ?_) handA handOA rfl rfl outA outA rfl rfl rfl rfl (by decide) ?_ <;> clear hcon)
        | (refine WpL.callM (hs := [_, _]) (hcon _ _ _ _) handA handOA rfl rfl outA outA rfl rfl rfl rfl (by decide) ?_ <;> clear hcon)
        | (refine WpL.callM (hs := [_, _]) (hcon _ _ _ _ _ ?_) handA handOA rfl rfl outA outA rfl rfl rfl rfl (by decide) ?_ <;> clear hcon)
        | (refine WpL.callM (hs := [_, _]) (hcon _ _ _ _ _) handA handOA rfl rfl outA outA rfl rfl rfl rfl (by decide) ?_ <;> clear hcon)
        | (refine WpL.callM (hs := [_, _]) (hcon _ _ _ _ _ _ ?_) handA handOA rfl rfl outA outA rfl rfl rfl rfl (by decide) ?_ <;> clear hcon)
        | (refine WpL.callM (hs := [_, _]) (hcon _ _ _ _ _ _) handA handOA rfl rfl outA outA rfl rfl rfl rfl (by decide) ?_ <;> clear hcon)
        | (refine WpL.callM (hs := [_, _]) (hcon _ _ _ _ _ _ _ ?_) handA handOA rfl rfl outA outA rfl rfl rfl rfl (by decide) ?_ <;> clear hcon)
        | (refine WpL.callM (hs := [_, _]) (hcon _ _ _ _ _ _ _) handA handOA rfl rfl outA outA rfl rfl rfl rfl (by decide) ?_ <;> clear hcon)
        | (refine WpL.callM (hs := [_, _]) (hcon _ _ _ _ _ _ _ _ ?_) handA handOA rfl rfl outA outA rfl rfl rfl rfl (by decide) ?_ <;> clear hcon)
        | (refine WpL.callM (hs := [_, _]) (hcon _ _ _ _ _ _ _ _) handA handOA rfl rfl outA outA rfl rfl rfl rfl (by decide) ?_ <;> clear hcon)
        | (refine WpL.callM (hs := [_, _, _]) (hcon ?_) handA handOA rfl rfl outA outA rfl rfl rfl rfl (by decide) ?_ <;> clear hcon)
        | (refine WpL.callM (hs := [_, _, _]) (hcon) handA handOA rfl rfl outA outA rfl rfl rfl rfl (by decide) ?_ <;> clear hcon)
        | (refine WpL.callM (hs := [_, _, _]) (hcon _ ?_) handA handOA rfl rfl outA outA rfl rfl rfl rfl (by decide) ?_ <;> clear hcon)
        | (refine WpL.callM (hs := [_, _, _]) (hcon _) handA handOA rfl rfl outA outA rfl rfl rfl rfl (by decide) ?_ <;> clear hcon)
        | (refine WpL.callM (hs := [_, _, _]) (hcon _ _ ?_) handA handOA rfl rfl outA outA rfl rfl rfl rfl (by decide) ?_ <;> clear hcon)
        | (refine WpL.callM (hs := [_, _, _]) (hcon _ _) handA handOA rfl rfl outA outA rfl rfl rfl rfl (by decide) ?_ <;> clear hcon)
        | (refine WpL.callM (hs := [_, _, _]) (hcon _ _ _ ?_) handA handOA rfl rfl outA outA rfl rfl rfl rfl (by decide) ?_ <;> clear hcon)
        | (refine WpL.callM (hs := [_, _, _]) (hcon _ _ _) handA handOA rfl rfl outA outA rfl rfl rfl rfl (by decide) ?_ <;> clear hcon)
        | (refine WpL.callM (hs := [_, _, _]) (hcon _ _ _ _ ?_) handA handOA rfl rfl outA outA rfl rfl rfl rfl (by decide) ?_ <;> clear hcon)
        | (refine WpL.callM (hs := [_, _, _]) (hcon _ _ _ _) handA handOA rfl rfl outA outA rfl rfl rfl rfl (by decide) ?_ <;> clear hcon)
        | (refine WpL.callM (hs := [_, _, _]) (hcon _ _ _ _ _ ?_) handA handOA rfl rfl outA outA rfl rfl rfl rfl (by decide) ?_ <;> clear hcon)
        | (refine WpL.callM (hs := [_, _, _]) (hcon _ _ _ _ _) handA handOA rfl rfl outA outA rfl rfl rfl rfl (by decide) ?_ <;> clear hcon)
        | (refine WpL.callM (hs := [_, _, _]) (hcon _ _ _ _ _ _ ?_) handA handOA rfl rfl outA outA rfl rfl rfl rfl (by decide) ?_ <;> clear hcon)
        | (refine WpL.callM (hs := [_, _, _]) (hcon _ _ _ _ _ _) handA handOA rfl rfl outA outA rfl rfl rfl rfl (by decide) ?_ <;> clear hcon)
        | (refine WpL.callM (hs := [_, _, _]) (hcon _ _ _ _ _ _ _ ?_) handA handOA rfl rfl outA outA rfl rfl rfl rfl (by decide) ?_ <;> clear hcon)
        | (refine WpL.callM (hs := [_, _, _]) (hcon _ _ _ _ _ _ _) handA handOA rfl rfl outA outA rfl rfl rfl rfl (by decide) ?_ <;> clear hcon)
        | (refine WpL.callM (hs := [_, _, _]) (hcon _ _ _ _ _ _ _ _ ?_) handA handOA rfl rfl outA outA rfl rfl rfl rfl (by decide) ?_ <;> clear hcon)
        | (refine WpL.callM (hs := [_, _, _]) (hcon _ _ _ _ _ _ _ _) handA handOA rfl rfl outA outA rfl rfl rfl rfl (by decide) ?_ <;> clear hcon)
        | (refine WpL.callM (hs := [_, _, _, _]) (hcon ?_) handA handOA rfl rfl outA outA rfl rfl rfl rfl (by decide) ?_ <;> clear hcon)
        | (refine WpL.callM (hs := [_, _, _, _]) (hcon) handA handOA rfl rfl outA outA rfl rfl rfl rfl (by decide) ?_ <;> clear hcon)
        | (refine WpL.callM (hs := [_, _, _, _]) (hcon _ ?_) handA handOA rfl rfl outA outA rfl rfl rfl rfl (by decide) ?_ <;> clear hcon)
        | (refine WpL.callM (hs := [_, _, _, _]) (hcon _) handA handOA rfl rfl outA outA rfl rfl rfl rfl (by decide) ?_ <;> clear hcon)
        | (refine WpL.callM (hs := [_, _, _, _]) (hcon _ _ ?_) handA handOA rfl rfl outA outA rfl rfl rfl rfl (by decide) ?_ <;> clear hcon)
        | (refine WpL.callM (hs := [_, _, _, _]) (hcon _ _) handA handOA rfl rfl outA outA rfl rfl rfl rfl (by decide) ?_ <;> clear hcon)
        | (refine WpL.callM (hs := [_, _, _, _]) (hcon _ _ _ ?_) handA handOA rfl rfl outA outA rfl rfl rfl rfl (by decide) ?_ <;> clear hcon)
        | (refine WpL.callM (hs := [_, _, _, _]) (hcon _ _ _) handA handOA rfl rfl outA outA rfl rfl rfl rfl (by decide) ?_ <;> clear hcon)
        | (refine WpL.callM (hs := [_, _, _, _]) (hcon _ _ _ _ ?_) handA handOA rfl rfl outA outA rfl rfl rfl rfl (by decide) ?_ <;> clear hcon)
        | (refine WpL.callM (hs := [_, _, _, _]) (hcon _ _ _ _) handA handOA rfl rfl outA outA rfl rfl rfl rfl (by decide) ?_ <;> clear hcon)
        | (refine WpL.callM (hs := [_, _, _, _]) (hcon _ _ _ _ _ ?_) handA handOA rfl rfl outA outA rfl rfl rfl rfl (by decide) ?_ <;> clear hcon)
        | (refine WpL.callM (hs := [_, _, _, _]) (hcon _ _ _ _ _) handA handOA rfl rfl outA outA rfl rfl rfl rfl (by decide) ?_ <;> clear hcon)
        | (refine WpL.callM (hs := [_, _, _, _]) (hcon _ _ _ _ _ _ ?_) handA handOA rfl rfl outA outA rfl rfl rfl rfl (by decide) ?_ <;> clear hcon)
        | (refine WpL.callM (hs := [_, _, _, _]) (hcon _ _ _ _ _ _) handA handOA rfl rfl outA outA rfl rfl rfl rfl (by decide) ?_ <;> clear hcon)
        | (refine WpL.callM (hs := [_, _, _, _]) (hcon _ _ _ _ _ _ _ ?_) handA handOA rfl rfl outA outA rfl rfl rfl rfl (by decide) ?_ <;> clear hcon)
        | (refine WpL.callM (hs := [_, _, _, _]) (hcon _ _ _ _ _ _ _) handA handOA rfl rfl outA outA rfl rfl rfl rfl (by decide) ?_ <;> clear hcon)
        | (refine WpL.callM (hs := [_, _, _, _]) (hcon _ _ _ _ _ _ _ _ ?_) handA handOA rfl rfl outA outA rfl rfl rfl rfl (by decide) ?_ <;> clear hcon)
        | (refine WpL.callM (hs := [_, _, _, _]) (hcon _ _ _ _ _ _ _ _) handA handOA rfl rfl outA outA rfl rfl rfl rfl (by decide) ?_ <;> clear hcon))
      | (refine K.call ?_; refine K.conB (fun hcon => ?_); first
        | (refine WpL.callB (hcon ?_) snapA locA outA locA outA rfl rfl rfl rfl rfl (by decide) ?_ ?_ <;> clear hcon)
        | (refine WpL.callB (hcon) snapA locA outA locA outA rfl rfl rfl rfl rfl (by decide) ?_ ?_ <;> clear hcon)
        | (refine WpL.callB (hcon _ ?_) snapA locA outA locA outA rfl rfl rfl rfl rfl (by decide) ?_ ?_ <;> clear hcon)
        | (refine WpL.callB (hcon _) snapA locA outA locA outA rfl rfl rfl rfl rfl (by decide) ?_ ?_ <;> clear hcon)
        | (refine WpL.callB (hcon _ _ ?_) snapA locA outA locA outA rfl rfl rfl rfl rfl (by decide) ?_ ?_ <;> clear hcon)
        | (refine WpL.callB (hcon _ _) snapA locA outA locA outA rfl rfl rfl rfl rfl (by decide) ?_ ?_ <;> clear hcon)
        | (refine WpL.callB (hcon _ _ _ ?_) snapA locA outA locA outA rfl rfl rfl rfl rfl (by decide) ?_ ?_ <;> clear hcon)
        | (refine WpL.callB (hcon _ _ _) snapA locA outA locA outA rfl rfl rfl rfl rfl (by decide) ?_ ?_ <;> clear hcon)
        | (refine WpL.callB (hcon _ _ _ _ ?_) snapA locA outA locA outA rfl rfl rfl rfl rfl (by decide) ?_ ?_ <;> clear hcon)
        | (refine WpL.callB (hcon _ _ _ _) snapA locA outA locA outA rfl rfl rfl rfl rfl (by decide) ?_ ?_ <;> clear hcon)
        | (refine WpL.callB (hcon _ _ _ _ _ ?_) snapA locA outA locA outA rfl rfl rfl rfl rfl (by decide) ?_ ?_ <;> clear hcon)
        | (refine WpL.callB (hcon _ _ _ _ _) snapA locA outA locA outA rfl rfl rfl rfl rfl (by decide) ?_ ?_ <;> clear hcon)
        | (refine WpL.callB (hcon _ _ _ _ _ _ ?_) snapA locA outA locA outA rfl rfl rfl rfl rfl (by decide) ?_ ?_ <;> clear hcon)
        | (refine WpL.callB (hcon _ _ _ _ _ _) snapA locA outA locA outA rfl rfl rfl rfl rfl (by decide) ?_ ?_ <;> clear hcon)
        | (refine WpL.callB (hcon _ _ _ _ _ _ _ ?_) snapA locA outA locA outA rfl rfl rfl rfl rfl (by decide) ?_ ?_ <;> clear hcon)
        | (refine WpL.callB (hcon _ _ _ _ _ _ _) snapA locA outA locA outA rfl rfl rfl rfl rfl (by decide) ?_ ?_ <;> clear hcon)
        | (refine WpL.callB (hcon _ _ _ _ _ _ _ _ ?_) snapA locA outA locA outA rfl rfl rfl rfl rfl (by decide) ?_ ?_ <;> clear hcon)
        | (refine WpL.callB (hcon _ _ _ _ _ _ _ _) snapA locA outA locA outA rfl rfl rfl rfl rfl (by decide) ?_ ?_ <;> clear hcon))
      | (refine K.call ?_; refine K.conP (fun hcon => ?_); first
        | (refine WpL.callP (hs := [_]) (hcon ?_) (by assumption) handA handOA rfl rfl (.cons rfl (.sc (.sc (.sc .nil))) .nil) outA rfl rfl rfl rfl (by decide) ?_ <;> clear hcon)
        | (refine WpL.callP (hs := [_]) (hcon) (by assumption) handA handOA rfl rfl (.cons rfl (.sc (.sc (.sc .nil))) .nil) outA rfl rfl rfl rfl (by decide) ?_ <;> clear hcon)
        | (refine WpL.callP (hs := [_]) (hcon _ ?_) (by assumption) handA handOA rfl rfl (.cons rfl (.sc (.sc (.sc .nil))) .nil) outA rfl rfl rfl rfl (by decide) ?_ <;> clear hcon)
        | (refine WpL.callP (hs := [_]) (hcon _) (by assumption) handA handOA rfl rfl (.cons rfl (.sc (.sc (.sc .nil))) .nil) outA rfl rfl rfl rfl (by decide) ?_ <;> clear hcon)
        | (refine WpL.callP (hs := [_]) (hcon _ _ ?_) (by assumption) handA handOA rfl rfl (.cons rfl (.sc (.sc (.sc .nil))) .nil) outA rfl rfl rfl rfl (by decide) ?_ <;> clear hcon)
        | (refine WpL.callP (hs := [_]) (hcon _ _) (by assumption) handA handOA rfl rfl (.cons rfl (.sc (.sc (.sc .nil))) .nil) outA rfl rfl rfl rfl (by decide) ?_ <;> clear hcon)
        | (refine WpL.callP (hs := [_]) (hcon _ _ _ ?_) (by assumption) handA handOA rfl rfl (.cons rfl (.sc (.sc (.sc .nil))) .nil) outA rfl rfl rfl rfl (by decide) ?_ <;> clear hcon)
        | (refine WpL.callP (hs := [_]) (hcon _ _ _) (by assumption) handA handOA rfl rfl (.cons rfl (.sc (.sc (.sc .nil))) .nil) outA rfl rfl rfl rfl (by decide) ?_ <;> clear hcon)
        | (refine WpL.callP (hs := [_]) (hcon _ _ _ _ ?_) (by assumption) handA handOA rfl rfl (.cons rfl (.sc (.sc (.sc .nil))) .nil) outA rfl rfl rfl rfl (by decide) ?_ <;> clear hcon)
        | (refine WpL.callP (hs := [_]) (hcon _ _ _ _) (by assumption) handA handOA rfl rfl (.cons rfl (.sc (.sc (.sc .nil))) .nil) outA rfl rfl rfl rfl (by decide) ?_ <;> clear hcon)
        | (refine WpL.callP (hs := [_]) (hcon _ _ _ _ _ ?_) (by assumption) handA handOA rfl rfl (.cons rfl (.sc (.sc (.sc .nil))) .nil) outA rfl rfl rfl rfl (by decide) ?_ <;> clear hcon)
        | (refine WpL.callP (hs := [_]) (hcon _ _ _ _ _) (by assumption) handA handOA rfl rfl (.cons rfl (.sc (.sc (.sc .nil))) .nil) outA rfl rfl rfl rfl (by decide) ?_ <;> clear hcon)
        | (refine WpL.callP (hs := [_]) (hcon _ _ _ _ _ _ ?_) (by assumption) handA handOA rfl rfl (.cons rfl (.sc (.sc (.sc .nil))) .nil) outA rfl rfl rfl rfl (by decide) ?_ <;> clear hcon)
        | (refine WpL.callP (hs := [_]) (hcon _ _ _ _ _ _) (by assumption) handA handOA rfl rfl (.cons rfl (.sc (.sc (.sc .nil))) .nil) outA rfl rfl rfl rfl (by decide) ?_ <;> clear hcon)
        | (refine WpL.callP (hs := [_]) (hcon _ _ _ _ _ _ _ ?_) (by assumption) handA handOA rfl rfl (.cons rfl (.sc (.sc (.sc .nil))) .nil) outA rfl rfl rfl rfl (by decide) ?_ <;> clear hcon)
        | (refine WpL.callP (hs := [_]) (hcon _ _ _ _ _ _ _) (by assumption) handA handOA rfl rfl (.cons rfl (.sc (.sc (.sc .nil))) .nil) outA rfl rfl rfl rfl (by decide) ?_ <;> clear hcon)
        | (refine WpL.callP (hs := [_]) (hcon _ _ _ _ _ _ _ _ ?_) (by assumption) handA handOA rfl rfl (.cons rfl (.sc (.sc (.sc .nil))) .nil) outA rfl rfl rfl rfl (by decide) ?_ <;> clear hcon)
        | (refine WpL.callP (hs := [_]) (hcon _ _ _ _ _ _ _ _) (by assumption) handA handOA rfl rfl (.cons rfl (.sc (.sc (.sc .nil))) .nil) outA rfl rfl rfl rfl (by decide) ?_ <;> clear hcon)
        | (refine WpL.callP (hs := [_]) (hcon _ _ _ _ _ _ _ _ _ ?_) (by assumption) handA handOA rfl rfl (.cons rfl (.sc (.sc (.sc .nil))) .nil) outA rfl rfl rfl rfl (by decide) ?_ <;> clear hcon)
        | (refine WpL.callP (hs := [_]) (hcon _ _ _ _ _ _ _ _ _) (by assumption) handA handOA rfl rfl (.cons rfl (.sc (.sc (.sc .nil))) .nil) outA rfl rfl rfl rfl (by decide) ?_ <;> clear hcon)
        | (refine WpL.callP (hs := [_]) (hcon _ _ _ _ _ _ _ _ _ _ ?_) (by assumption) handA handOA rfl rfl (.cons rfl (.sc (.sc (.sc .nil))) .nil) outA rfl rfl rfl rfl (by decide) ?_ <;> clear hcon)
        | (refine WpL.callP (hs := [_]) (hcon _ _ _ _ _ _ _ _ _ _) (by assumption) handA handOA rfl rfl (.cons rfl (.sc (.sc (.sc .nil))) .nil) outA rfl rfl rfl rfl (by decide) ?_ <;> clear hcon))
      | (refine K.callT ?_; refine K.conV rfl (fun hcon => ?_); first
        | (refine WpL.callVF rfl (hcon ?_) rfl snapA locA outA rfl rfl rfl (by decide) ?_ <;> clear hcon)
        | (refine WpL.callVF rfl (hcon) rfl snapA locA outA rfl rfl rfl (by decide) ?_ <;> clear hcon)
        | (refine WpL.callVF rfl (hcon _ ?_) rfl snapA locA outA rfl rfl rfl (by decide) ?_ <;> clear hcon)
        | (refine WpL.callVF rfl (hcon _) rfl snapA locA outA rfl rfl rfl (by decide) ?_ <;> clear hcon)
        | (refine WpL.callVF rfl (hcon _ _ ?_) rfl snapA locA outA rfl rfl rfl (by decide) ?_ <;> clear hcon)
        | (refine WpL.callVF rfl (hcon _ _) rfl snapA locA outA rfl rfl rfl (by decide) ?_ <;> clear hcon)
        | (refine WpL.callVF rfl (hcon _ _ _ ?_) rfl snapA locA outA rfl rfl rfl (by decide) ?_ <;> clear hcon)
        | (refine WpL.callVF rfl (hcon _ _ _) rfl snapA locA outA rfl rfl rfl (by decide) ?_ <;> clear hcon)
        | (refine WpL.callVF rfl (hcon _ _ _ _ ?_) rfl snapA locA outA rfl rfl rfl (by decide) ?_ <;> clear hcon)
        | (refine WpL.callVF rfl (hcon _ _ _ _) rfl snapA locA outA rfl rfl rfl (by decide) ?_ <;> clear hcon)
        | (refine WpL.callVF rfl (hcon _ _ _ _ _ ?_) rfl snapA locA outA rfl rfl rfl (by decide) ?_ <;> clear hcon)
        | (refine WpL.callVF rfl (hcon _ _ _ _ _) rfl snapA locA outA rfl rfl rfl (by decide) ?_ <;> clear hcon)
        | (refine WpL.callVF rfl (hcon _ _ _ _ _ _ ?_) rfl snapA locA outA rfl rfl rfl (by decide) ?_ <;> clear hcon)
        | (refine WpL.callVF rfl (hcon _ _ _ _ _ _) rfl snapA locA outA rfl rfl rfl (by decide) ?_ <;> clear hcon)
        | (refine WpL.callVF rfl (hcon _ _ _ _ _ _ _ ?_) rfl snapA locA outA rfl rfl rfl (by decide) ?_ <;> clear hcon)
        | (refine WpL.callVF rfl (hcon _ _ _ _ _ _ _) rfl snapA locA outA rfl rfl rfl (by decide) ?_ <;> clear hcon)
        | (refine WpL.callVF rfl (hcon _ _ _ _ _ _ _ _ ?_) rfl snapA locA outA rfl rfl rfl (by decide) ?_ <;> clear hcon)
        | (refine WpL.callVF rfl (hcon _ _ _ _ _ _ _ _) rfl snapA locA outA rfl rfl rfl (by decide) ?_ <;> clear hcon)
        | (refine WpL.callVF rfl (hcon _ _ _ _ _ _ _ _ _ ?_) rfl snapA locA outA rfl rfl rfl (by decide) ?_ <;> clear hcon)
        | (refine WpL.callVF rfl (hcon _ _ _ _ _ _ _ _ _) rfl snapA locA outA rfl rfl rfl (by decide) ?_ <;> clear hcon)
        | (refine WpL.callVF rfl (hcon _ _ _ _ _ _ _ _ _ _ ?_) rfl snapA locA outA rfl rfl rfl (by decide) ?_ <;> clear hcon)
        | (refine WpL.callVF rfl (hcon _ _ _ _ _ _ _ _ _ _) rfl snapA locA outA rfl rfl rfl (by decide) ?_ <;> clear hcon)
        | (refine WpL.callVF rfl (hcon _ _ _ _ _ _ _ _ _ _ _ ?_) rfl snapA locA outA rfl rfl rfl (by decide) ?_ <;> clear hcon)
        | (refine WpL.callVF rfl (hcon _ _ _ _ _ _ _ _ _ _ _) rfl snapA locA outA rfl rfl rfl (by decide) ?_ <;> clear hcon)
        | (refine WpL.callVF rfl (hcon _ _ _ _ _ _ _ _ _ _ _ _ ?_) rfl snapA locA outA rfl rfl rfl (by decide) ?_ <;> clear hcon)
        | (refine WpL.callVF rfl (hcon _ _ _ _ _ _ _ _ _ _ _ _) rfl snapA locA outA rfl rfl rfl (by decide) ?_ <;> clear hcon))
      | (refine K.mkF ?_; refine WpL.makeFunc rfl (by decide) ?_)
      | (refine K.ix ?_; first
        | refine WpL.idxStrB tabOk rfl rfl rfl (by omega) (by decide) (fun hgo => ?_))
      | (refine K.bi ?_; first
        | (refine K.blen ?_; first
          | refine WpL.lenImm (TabOk.slice tabOk rfl).1 rfl (by decide) ?_
          | refine WpL.lenOwn (TabOk.slice tabOk rfl).1 rfl rfl rfl (by decide) ?_
          | refine WpL.lenStr (K.tyStr tabOk rfl) rfl (by decide) ?_)
        | (refine K.bapp ?_; first
          | refine WpL.app1Ints tabOk rfl rfl rfl (by first | exact Nat.zero_le _ | exact Nat.le_of_ble_eq_true rfl) rfl rfl (by first | rfl | omega | (simp; done) | (simp; omega)) (by omega) (by decide) ?_
          | refine WpL.appInts tabOk rfl rfl rfl (by first | exact Nat.zero_le _ | exact Nat.le_of_ble_eq_true rfl) rfl rfl (by first | rfl | omega | (simp; done) | (simp; omega)) (by first | rfl | omega | (simp; done) | (simp; omega)) (by omega) (by decide) ?_
          | refine WpL.app1U8s tabOk rfl rfl rfl (by first | exact Nat.zero_le _ | exact Nat.le_of_ble_eq_true rfl) rfl rfl (by first | rfl | omega | (simp; done) | (simp; omega)) (by omega) (by decide) ?_
          | refine WpL.appRow (f := prF) (v := (_, _)) tabOk rfl rfl rfl (by first | exact Nat.zero_le _ | exact Nat.le_of_ble_eq_true rfl) rfl rfl (fun _ => rfl) rfl rfl (by first | rfl | omega | (simp; done) | (simp; omega)) (by omega) (by decide) ?_
          | refine WpL.appRow (f := plF) (v := (_, _, _)) tabOk rfl rfl rfl (by first | exact Nat.zero_le _ | exact Nat.le_of_ble_eq_true rfl) rfl rfl (fun _ => rfl) rfl rfl (by first | rfl | omega | (simp; done) | (simp; omega)) (by omega) (by decide) ?_
          | refine WpL.appBlk tabOk rfl rfl rfl (by first | exact Nat.zero_le _ | exact Nat.le_of_ble_eq_true rfl) rfl rfl rfl rfl rfl (by first | exact Nat.zero_le _ | exact Nat.le_of_ble_eq_true rfl) (by first | rfl | omega | (simp; done) | (simp; omega)) (by first | rfl | omega | (simp; done) | (simp; omega)) (by omega) (by decide) ?_
          | refine WpL.appMb tabOk rfl rfl rfl (by first | exact Nat.zero_le _ | exact Nat.le_of_ble_eq_true rfl) rfl rfl rfl rfl rfl (by first | exact Nat.zero_le _ | exact Nat.le_of_ble_eq_true rfl) (by first | rfl | omega | (simp; done) | (simp; omega)) (by first | rfl | omega | (simp; done) | (simp; omega)) (by omega) (by decide) ?_
          | refine WpL.appOwn tabOk rfl rfl rfl rfl rfl rfl (by simp) (by first | exact Nat.zero_le _ | exact Nat.le_of_ble_eq_true rfl) rfl rfl (by simp) (by simp [all_ints, all_u8s, all_strs, oneB, Value.oneCell']) (by omega) (by decide) ?_)
        | refine WpL.max2 rfl rfl (by decide) ?_)
      | (refine K.un ?_; first
        | refine WpL.not rfl (by decide) ?_
        | refine WpL.neg rfl (by omega) (by decide) ?_)
      | (refine K.pick ?_; first
        | refine WpL.pickT rfl rfl (by decide) ?_
        | refine WpL.pickF rfl rfl (by decide) ?_)
      | (refine K.bld ?_; refine WpL.build tabOk rfl rfl (by kernel_rfl) (by decide) ?_)
      | (refine K.ext ?_; refine WpL.extract rfl rfl (by first | decide | simp [AV.shL]) (by decide) ?_)
      | (refine K.cv ?_; first
        | refine WpL.convI (P := Try.prog) (by rfl) (K.tyInt tabOk rfl) rfl (by omega) (by decide) ?_
        | refine WpL.conv (P := Try.prog) (by rfl) (K.tyInt tabOk rfl) rfl (by decide) ?_
        | refine WpL.toBytes tabOk rfl rfl rfl rfl (by omega) rfl (by decide) ?_
        | refine WpL.ofBytes tabOk rfl rfl rfl rfl rfl (by simp) (by decide) ?_)
      | (refine K.lit ?_; first
        | refine WpL.lit0U8s tabOk rfl rfl rfl (by decide) ?_
        | refine WpL.lit0Ints tabOk rfl rfl rfl (by decide) ?_
        | refine WpL.litInts tabOk rfl rfl rfl rfl rfl (by decide) rfl (by decide) ?_
        | refine WpL.litU8s tabOk rfl rfl rfl rfl rfl (by decide) rfl (by decide) ?_
        | refine WpL.litStrs tabOk rfl rfl rfl rfl rfl (by decide) rfl (by decide) ?_
        | (apply WpL.litLis tabOk
           · exact rfl
           · exact rfl
           · exact rfl
           · exact rfl
           · decide
           · exact rfl
           · exact rfl
           · exact rfl
           · decide
           · repeat' (first
               | exact NestC.nil
               | (apply NestC.cons
                  · exact rfl
                  · exact rfl
                  · exact rfl
                  · exact rfl
                  · first | exact Nat.zero_le _ | exact Nat.le_of_ble_eq_true rfl
                  · exact rfl
                  · first | rfl | exact still_ints _
                  · first | rfl | simp
                  · exact rfl))
           · exact rfl
           · exact rfl)
        | refine WpL.litF tabOk rfl rfl rfl rfl (by decide) rfl (by decide) ?_)
      | (refine K.ms ?_; first
        | refine WpL.makeInts tabOk rfl rfl rfl (by omega) (by omega) rfl (by decide) ?_)
      | (refine K.st ?_; first
        | refine WpL.storeInts tabOk rfl rfl rfl rfl rfl (by first | omega | (simp; omega)) ?_
        | refine WpL.storeU8s tabOk rfl rfl rfl rfl rfl (by first | omega | (simp; omega)) ?_
        | refine WpL.storeS tabOk rfl rfl rfl rfl rfl rfl rfl rfl (by first | decide | omega | (simp; omega) | (simp; done)) (by first | (simp only [setL, List.set_cons_zero, List.set_cons_succ, Nat.zero_add, Nat.reduceAdd]; exact rfl) | exact rfl) ?_)
      | (refine K.all ?_; first
        | refine WpL.allocStruct tabOk rfl rfl (by decide) ?_
        | refine WpL.allocPlain tabOk rfl rfl rfl (by decide) ?_)
      | (refine K.box ?_; refine WpL.box rfl rfl rfl (by decide) ?_)
      | (refine K.nc ?_; first
        | refine WpL.nilCheckP rfl rfl rfl (by decide) ?_)
      | (refine K.sl ?_; first
        | refine WpL.subStr tabOk rfl rfl (by first | exact .inl ⟨rfl, rfl⟩ | exact .inr ⟨_, _, rfl, rfl⟩) (by first | exact .inl ⟨rfl, rfl⟩ | exact .inr ⟨_, _, rfl, rfl⟩) (by omega) (by decide) ?_
        | refine WpL.subInts tabOk rfl rfl rfl rfl (by first | rfl | omega | (simp; done) | (simp; omega)) (by omega) (by decide) ?_
        | refine WpL.subImm tabOk rfl rfl (by first | exact .inl ⟨rfl, rfl⟩ | exact .inr ⟨_, _, rfl, rfl⟩) (by first | exact .inl ⟨rfl, rfl⟩ | exact .inr ⟨_, _, rfl, rfl⟩) (by omega) (by decide) ?_)
      | (refine K.gd ?_; first
        | refine K.gT rfl (by decide) rfl ?_
        | refine K.gF rfl (by decide) rfl ?_
        | (refine K.gD rfl rfl (fun hgo => ?_) (fun hgo => ?_) <;> (try (first | contradiction | (exfalso; omega))))
        | (refine K.gN rfl rfl (fun hgo => ?_) (fun hgo => ?_) <;> (try (first | contradiction | (exfalso; omega)))))
      | ((repeat (revert hgo)); first | with_reducible apply Hold.h hold | with_reducible apply Hold.h (Hold.t hold) | with_reducible apply Hold.h (Hold.t (Hold.t hold)) | with_reducible apply Hold.h (Hold.t (Hold.t (Hold.t hold))) | with_reducible apply Hold.h (Hold.t (Hold.t (Hold.t (Hold.t hold)))) | with_reducible apply Hold.h (Hold.t (Hold.t (Hold.t (Hold.t (Hold.t hold))))) | with_reducible apply Hold.h (Hold.t (Hold.t (Hold.t (Hold.t (Hold.t (Hold.t hold)))))) | with_reducible apply Hold.h (Hold.t (Hold.t (Hold.t (Hold.t (Hold.t (Hold.t (Hold.t hold))))))) | with_reducible apply Hold.h (Hold.t (Hold.t (Hold.t (Hold.t (Hold.t (Hold.t (Hold.t (Hold.t hold)))))))) | with_reducible apply Hold.h (Hold.t (Hold.t (Hold.t (Hold.t (Hold.t (Hold.t (Hold.t (Hold.t (Hold.t hold))))))))) | with_reducible apply Hold.h (Hold.t (Hold.t (Hold.t (Hold.t (Hold.t (Hold.t (Hold.t (Hold.t (Hold.t (Hold.t hold)))))))))) | with_reducible apply Hold.h (Hold.t (Hold.t (Hold.t (Hold.t (Hold.t (Hold.t (Hold.t (Hold.t (Hold.t (Hold.t (Hold.t hold))))))))))) | with_reducible apply Hold.h (Hold.t (Hold.t (Hold.t (Hold.t (Hold.t (Hold.t (Hold.t (Hold.t (Hold.t (Hold.t (Hold.t (Hold.t hold)))))))))))) | with_reducible apply Hold.h (Hold.t (Hold.t (Hold.t (Hold.t (Hold.t (Hold.t (Hold.t (Hold.t (Hold.t (Hold.t (Hold.t (Hold.t (Hold.t hold))))))))))))) | with_reducible apply Hold.h (Hold.t (Hold.t (Hold.t (Hold.t (Hold.t (Hold.t (Hold.t (Hold.t (Hold.t (Hold.t (Hold.t (Hold.t (Hold.t (Hold.t hold)))))))))))))) | with_reducible apply Hold.h (Hold.t (Hold.t (Hold.t (Hold.t (Hold.t (Hold.t (Hold.t (Hold.t (Hold.t (Hold.t (Hold.t (Hold.t (Hold.t (Hold.t (Hold.t hold))))))))))))))) | with_reducible apply Hold.h (Hold.t (Hold.t (Hold.t (Hold.t (Hold.t (Hold.t (Hold.t (Hold.t (Hold.t (Hold.t (Hold.t (Hold.t (Hold.t (Hold.t (Hold.t (Hold.t hold)))))))))))))))) | with_reducible apply Hold.h (Hold.t (Hold.t (Hold.t (Hold.t (Hold.t (Hold.t (Hold.t (Hold.t (Hold.t (Hold.t (Hold.t (Hold.t (Hold.t (Hold.t (Hold.t (Hold.t (Hold.t hold))))))))))))))))) | with_reducible apply Hold.h (Hold.t (Hold.t (Hold.t (Hold.t (Hold.t (Hold.t (Hold.t (Hold.t (Hold.t (Hold.t (Hold.t (Hold.t (Hold.t (Hold.t (Hold.t (Hold.t (Hold.t (Hold.t hold)))))))))))))))))) | with_reducible apply Hold.h (Hold.t (Hold.t (Hold.t (Hold.t (Hold.t (Hold.t (Hold.t (Hold.t (Hold.t (Hold.t (Hold.t (Hold.t (Hold.t (Hold.t (Hold.t (Hold.t (Hold.t (Hold.t (Hold.t hold))))))))))))))))))) | with_reducible apply Hold.h (Hold.t (Hold.t (Hold.t (Hold.t (Hold.t (Hold.t (Hold.t (Hold.t (Hold.t (Hold.t (Hold.t (Hold.t (Hold.t (Hold.t (Hold.t (Hold.t (Hold.t (Hold.t (Hold.t (Hold.t hold)))))))))))))))))))) | with_reducible apply Hold.h (Hold.t (Hold.t (Hold.t (Hold.t (Hold.t (Hold.t (Hold.t (Hold.t (Hold.t (Hold.t (Hold.t (Hold.t (Hold.t (Hold.t (Hold.t (Hold.t (Hold.t (Hold.t (Hold.t (Hold.t (Hold.t hold))))))))))))))))))))) | with_reducible apply Hold.h (Hold.t (Hold.t (Hold.t (Hold.t (Hold.t (Hold.t (Hold.t (Hold.t (Hold.t (Hold.t (Hold.t (Hold.t (Hold.t (Hold.t (Hold.t (Hold.t (Hold.t (Hold.t (Hold.t (Hold.t (Hold.t (Hold.t hold)))))))))))))))))))))) | with_reducible apply Hold.h (Hold.t (Hold.t (Hold.t (Hold.t (Hold.t (Hold.t (Hold.t (Hold.t (Hold.t (Hold.t (Hold.t (Hold.t (Hold.t (Hold.t (Hold.t (Hold.t (Hold.t (Hold.t (Hold.t (Hold.t (Hold.t (Hold.t (Hold.t hold)))))))))))))))))))))))))
    | refine WpL.nil ?_
    | refine Abs.Seq.n ?_
    | (refine K.A ?_; first
      | refine WpA.seq ?_
      | refine WpA.regionF rfl ?_
      | (refine K.cond ?_; first
        | refine WpA.condT rfl ?_
        | refine WpA.condF rfl ?_
        | (refine WpA.condD rfl (fun hgo => ?_) (fun hgo => ?_) <;> (try (first | contradiction | (exfalso; omega))))
        | (refine WpA.condN rfl (fun hgo => ?_) (fun hgo => ?_) <;> (try (first | contradiction | (exfalso; omega))))
        | (refine WpA.condS rfl (fun hgo => ?_) (fun hgo => ?_) <;> (try (first | contradiction | (exfalso; omega)))))
      | refine WpA.block ?_
      | refine WpA.ret ?_
      | refine WpA.exit ?_
      | refine WpA.skip ?_
      | (refine K.loop ?_; ((repeat (revert hgo)); first | with_reducible apply Hold.h hold | with_reducible apply Hold.h (Hold.t hold) | with_reducible apply Hold.h (Hold.t (Hold.t hold)) | with_reducible apply Hold.h (Hold.t (Hold.t (Hold.t hold))) | with_reducible apply Hold.h (Hold.t (Hold.t (Hold.t (Hold.t hold)))) | with_reducible apply Hold.h (Hold.t (Hold.t (Hold.t (Hold.t (Hold.t hold))))) | with_reducible apply Hold.h (Hold.t (Hold.t (Hold.t (Hold.t (Hold.t (Hold.t hold)))))) | with_reducible apply Hold.h (Hold.t (Hold.t (Hold.t (Hold.t (Hold.t (Hold.t (Hold.t hold))))))) | with_reducible apply Hold.h (Hold.t (Hold.t (Hold.t (Hold.t (Hold.t (Hold.t (Hold.t (Hold.t hold)))))))) | with_reducible apply Hold.h (Hold.t (Hold.t (Hold.t (Hold.t (Hold.t (Hold.t (Hold.t (Hold.t (Hold.t hold))))))))) | with_reducible apply Hold.h (Hold.t (Hold.t (Hold.t (Hold.t (Hold.t (Hold.t (Hold.t (Hold.t (Hold.t (Hold.t hold)))))))))) | with_reducible apply Hold.h (Hold.t (Hold.t (Hold.t (Hold.t (Hold.t (Hold.t (Hold.t (Hold.t (Hold.t (Hold.t (Hold.t hold))))))))))) | with_reducible apply Hold.h (Hold.t (Hold.t (Hold.t (Hold.t (Hold.t (Hold.t (Hold.t (Hold.t (Hold.t (Hold.t (Hold.t (Hold.t hold)))))))))))) | with_reducible apply Hold.h (Hold.t (Hold.t (Hold.t (Hold.t (Hold.t (Hold.t (Hold.t (Hold.t (Hold.t (Hold.t (Hold.t (Hold.t (Hold.t hold))))))))))))) | with_reducible apply Hold.h (Hold.t (Hold.t (Hold.t (Hold.t (Hold.t (Hold.t (Hold.t (Hold.t (Hold.t (Hold.t (Hold.t (Hold.t (Hold.t (Hold.t hold)))))))))))))) | with_reducible apply Hold.h (Hold.t (Hold.t (Hold.t (Hold.t (Hold.t (Hold.t (Hold.t (Hold.t (Hold.t (Hold.t (Hold.t (Hold.t (Hold.t (Hold.t (Hold.t hold))))))))))))))) | with_reducible apply Hold.h (Hold.t (Hold.t (Hold.t (Hold.t (Hold.t (Hold.t (Hold.t (Hold.t (Hold.t (Hold.t (Hold.t (Hold.t (Hold.t (Hold.t (Hold.t (Hold.t hold)))))))))))))))) | with_reducible apply Hold.h (Hold.t (Hold.t (Hold.t (Hold.t (Hold.t (Hold.t (Hold.t (Hold.t (Hold.t (Hold.t (Hold.t (Hold.t (Hold.t (Hold.t (Hold.t (Hold.t (Hold.t hold))))))))))))))))) | with_reducible apply Hold.h (Hold.t (Hold.t (Hold.t (Hold.t (Hold.t (Hold.t (Hold.t (Hold.t (Hold.t (Hold.t (Hold.t (Hold.t (Hold.t (Hold.t (Hold.t (Hold.t (Hold.t (Hold.t hold)))))))))))))))))) | with_reducible apply Hold.h (Hold.t (Hold.t (Hold.t (Hold.t (Hold.t (Hold.t (Hold.t (Hold.t (Hold.t (Hold.t (Hold.t (Hold.t (Hold.t (Hold.t (Hold.t (Hold.t (Hold.t (Hold.t (Hold.t hold))))))))))))))))))) | with_reducible apply Hold.h (Hold.t (Hold.t (Hold.t (Hold.t (Hold.t (Hold.t (Hold.t (Hold.t (Hold.t (Hold.t (Hold.t (Hold.t (Hold.t (Hold.t (Hold.t (Hold.t (Hold.t (Hold.t (Hold.t (Hold.t hold)))))))))))))))))))) | with_reducible apply Hold.h (Hold.t (Hold.t (Hold.t (Hold.t (Hold.t (Hold.t (Hold.t (Hold.t (Hold.t (Hold.t (Hold.t (Hold.t (Hold.t (Hold.t (Hold.t (Hold.t (Hold.t (Hold.t (Hold.t (Hold.t (Hold.t hold))))))))))))))))))))) | with_reducible apply Hold.h (Hold.t (Hold.t (Hold.t (Hold.t (Hold.t (Hold.t (Hold.t (Hold.t (Hold.t (Hold.t (Hold.t (Hold.t (Hold.t (Hold.t (Hold.t (Hold.t (Hold.t (Hold.t (Hold.t (Hold.t (Hold.t (Hold.t hold)))))))))))))))))))))) | with_reducible apply Hold.h (Hold.t (Hold.t (Hold.t (Hold.t (Hold.t (Hold.t (Hold.t (Hold.t (Hold.t (Hold.t (Hold.t (Hold.t (Hold.t (Hold.t (Hold.t (Hold.t (Hold.t (Hold.t (Hold.t (Hold.t (Hold.t (Hold.t (Hold.t hold)))))))))))))))))))))))))
      | ((repeat (revert hgo)); first | with_reducible apply Hold.h hold | with_reducible apply Hold.h (Hold.t hold) | with_reducible apply Hold.h (Hold.t (Hold.t hold)) | with_reducible apply Hold.h (Hold.t (Hold.t (Hold.t hold))) | with_reducible apply Hold.h (Hold.t (Hold.t (Hold.t (Hold.t hold)))) | with_reducible apply Hold.h (Hold.t (Hold.t (Hold.t (Hold.t (Hold.t hold))))) | with_reducible apply Hold.h (Hold.t (Hold.t (Hold.t (Hold.t (Hold.t (Hold.t hold)))))) | with_reducible apply Hold.h (Hold.t (Hold.t (Hold.t (Hold.t (Hold.t (Hold.t (Hold.t hold))))))) | with_reducible apply Hold.h (Hold.t (Hold.t (Hold.t (Hold.t (Hold.t (Hold.t (Hold.t (Hold.t hold)))))))) | with_reducible apply Hold.h (Hold.t (Hold.t (Hold.t (Hold.t (Hold.t (Hold.t (Hold.t (Hold.t (Hold.t hold))))))))) | with_reducible apply Hold.h (Hold.t (Hold.t (Hold.t (Hold.t (Hold.t (Hold.t (Hold.t (Hold.t (Hold.t (Hold.t hold)))))))))) | with_reducible apply Hold.h (Hold.t (Hold.t (Hold.t (Hold.t (Hold.t (Hold.t (Hold.t (Hold.t (Hold.t (Hold.t (Hold.t hold))))))))))) | with_reducible apply Hold.h (Hold.t (Hold.t (Hold.t (Hold.t (Hold.t (Hold.t (Hold.t (Hold.t (Hold.t (Hold.t (Hold.t (Hold.t hold)))))))))))) | with_reducible apply Hold.h (Hold.t (Hold.t (Hold.t (Hold.t (Hold.t (Hold.t (Hold.t (Hold.t (Hold.t (Hold.t (Hold.t (Hold.t (Hold.t hold))))))))))))) | with_reducible apply Hold.h (Hold.t (Hold.t (Hold.t (Hold.t (Hold.t (Hold.t (Hold.t (Hold.t (Hold.t (Hold.t (Hold.t (Hold.t (Hold.t (Hold.t hold)))))))))))))) | with_reducible apply Hold.h (Hold.t (Hold.t (Hold.t (Hold.t (Hold.t (Hold.t (Hold.t (Hold.t (Hold.t (Hold.t (Hold.t (Hold.t (Hold.t (Hold.t (Hold.t hold))))))))))))))) | with_reducible apply Hold.h (Hold.t (Hold.t (Hold.t (Hold.t (Hold.t (Hold.t (Hold.t (Hold.t (Hold.t (Hold.t (Hold.t (Hold.t (Hold.t (Hold.t (Hold.t (Hold.t hold)))))))))))))))) | with_reducible apply Hold.h (Hold.t (Hold.t (Hold.t (Hold.t (Hold.t (Hold.t (Hold.t (Hold.t (Hold.t (Hold.t (Hold.t (Hold.t (Hold.t (Hold.t (Hold.t (Hold.t (Hold.t hold))))))))))))))))) | with_reducible apply Hold.h (Hold.t (Hold.t (Hold.t (Hold.t (Hold.t (Hold.t (Hold.t (Hold.t (Hold.t (Hold.t (Hold.t (Hold.t (Hold.t (Hold.t (Hold.t (Hold.t (Hold.t (Hold.t hold)))))))))))))))))) | with_reducible apply Hold.h (Hold.t (Hold.t (Hold.t (Hold.t (Hold.t (Hold.t (Hold.t (Hold.t (Hold.t (Hold.t (Hold.t (Hold.t (Hold.t (Hold.t (Hold.t (Hold.t (Hold.t (Hold.t (Hold.t hold))))))))))))))))))) | with_reducible apply Hold.h (Hold.t (Hold.t (Hold.t (Hold.t (Hold.t (Hold.t (Hold.t (Hold.t (Hold.t (Hold.t (Hold.t (Hold.t (Hold.t (Hold.t (Hold.t (Hold.t (Hold.t (Hold.t (Hold.t (Hold.t hold)))))))))))))))))))) | with_reducible apply Hold.h (Hold.t (Hold.t (Hold.t (Hold.t (Hold.t (Hold.t (Hold.t (Hold.t (Hold.t (Hold.t (Hold.t (Hold.t (Hold.t (Hold.t (Hold.t (Hold.t (Hold.t (Hold.t (Hold.t (Hold.t (Hold.t hold))))))))))))))))))))) | with_reducible apply Hold.h (Hold.t (Hold.t (Hold.t (Hold.t (Hold.t (Hold.t (Hold.t (Hold.t (Hold.t (Hold.t (Hold.t (Hold.t (Hold.t (Hold.t (Hold.t (Hold.t (Hold.t (Hold.t (Hold.t (Hold.t (Hold.t (Hold.t hold)))))))))))))))))))))) | with_reducible apply Hold.h (Hold.t (Hold.t (Hold.t (Hold.t (Hold.t (Hold.t (Hold.t (Hold.t (Hold.t (Hold.t (Hold.t (Hold.t (Hold.t (Hold.t (Hold.t (Hold.t (Hold.t (Hold.t (Hold.t (Hold.t (Hold.t (Hold.t (Hold.t hold)))))))))))))))))))))))))
    | (refine K.RT ?_; first
      | exact ReT.nil
      | refine ReT.same rfl rfl ?_
      | refine ReT.own rfl rfl rfl rfl rfl rfl (by first | rfl | omega | (simp; done) | (simp; omega)) ?_
      | refine ReT.i rfl ?_ ?_
      | refine ReT.ptr rfl rfl rfl rfl rfl ?_)
    | (refine TrueB.mk ?_; kernel_rfl)
    | (apply K.eq; first | exact rfl | omega | assumption | (simp; done) | (simp; omega) | (exact absurd (by simp; done) ‹¬ _›) | ((repeat (revert hgo)); first | with_reducible apply Hold.h hold | with_reducible apply Hold.h (Hold.t hold) | with_reducible apply Hold.h (Hold.t (Hold.t hold)) | with_reducible apply Hold.h (Hold.t (Hold.t (Hold.t hold))) | with_reducible apply Hold.h (Hold.t (Hold.t (Hold.t (Hold.t hold)))) | with_reducible apply Hold.h (Hold.t (Hold.t (Hold.t (Hold.t (Hold.t hold))))) | with_reducible apply Hold.h (Hold.t (Hold.t (Hold.t (Hold.t (Hold.t (Hold.t hold)))))) | with_reducible apply Hold.h (Hold.t (Hold.t (Hold.t (Hold.t (Hold.t (Hold.t (Hold.t hold))))))) | with_reducible apply Hold.h (Hold.t (Hold.t (Hold.t (Hold.t (Hold.t (Hold.t (Hold.t (Hold.t hold)))))))) | with_reducible apply Hold.h (Hold.t (Hold.t (Hold.t (Hold.t (Hold.t (Hold.t (Hold.t (Hold.t (Hold.t hold))))))))) | with_reducible apply Hold.h (Hold.t (Hold.t (Hold.t (Hold.t (Hold.t (Hold.t (Hold.t (Hold.t (Hold.t (Hold.t hold)))))))))) | with_reducible apply Hold.h (Hold.t (Hold.t (Hold.t (Hold.t (Hold.t (Hold.t (Hold.t (Hold.t (Hold.t (Hold.t (Hold.t hold))))))))))) | with_reducible apply Hold.h (Hold.t (Hold.t (Hold.t (Hold.t (Hold.t (Hold.t (Hold.t (Hold.t (Hold.t (Hold.t (Hold.t (Hold.t hold)))))))))))) | with_reducible apply Hold.h (Hold.t (Hold.t (Hold.t (Hold.t (Hold.t (Hold.t (Hold.t (Hold.t (Hold.t (Hold.t (Hold.t (Hold.t (Hold.t hold))))))))))))) | with_reducible apply Hold.h (Hold.t (Hold.t (Hold.t (Hold.t (Hold.t (Hold.t (Hold.t (Hold.t (Hold.t (Hold.t (Hold.t (Hold.t (Hold.t (Hold.t hold)))))))))))))) | with_reducible apply Hold.h (Hold.t (Hold.t (Hold.t (Hold.t (Hold.t (Hold.t (Hold.t (Hold.t (Hold.t (Hold.t (Hold.t (Hold.t (Hold.t (Hold.t (Hold.t hold))))))))))))))) | with_reducible apply Hold.h (Hold.t (Hold.t (Hold.t (Hold.t (Hold.t (Hold.t (Hold.t (Hold.t (Hold.t (Hold.t (Hold.t (Hold.t (Hold.t (Hold.t (Hold.t (Hold.t hold)))))))))))))))) | with_reducible apply Hold.h (Hold.t (Hold.t (Hold.t (Hold.t (Hold.t (Hold.t (Hold.t (Hold.t (Hold.t (Hold.t (Hold.t (Hold.t (Hold.t (Hold.t (Hold.t (Hold.t (Hold.t hold))))))))))))))))) | with_reducible apply Hold.h (Hold.t (Hold.t (Hold.t (Hold.t (Hold.t (Hold.t (Hold.t (Hold.t (Hold.t (Hold.t (Hold.t (Hold.t (Hold.t (Hold.t (Hold.t (Hold.t (Hold.t (Hold.t hold)))))))))))))))))) | with_reducible apply Hold.h (Hold.t (Hold.t (Hold.t (Hold.t (Hold.t (Hold.t (Hold.t (Hold.t (Hold.t (Hold.t (Hold.t (Hold.t (Hold.t (Hold.t (Hold.t (Hold.t (Hold.t (Hold.t (Hold.t hold))))))))))))))))))) | with_reducible apply Hold.h (Hold.t (Hold.t (Hold.t (Hold.t (Hold.t (Hold.t (Hold.t (Hold.t (Hold.t (Hold.t (Hold.t (Hold.t (Hold.t (Hold.t (Hold.t (Hold.t (Hold.t (Hold.t (Hold.t (Hold.t hold)))))))))))))))))))) | with_reducible apply Hold.h (Hold.t (Hold.t (Hold.t (Hold.t (Hold.t (Hold.t (Hold.t (Hold.t (Hold.t (Hold.t (Hold.t (Hold.t (Hold.t (Hold.t (Hold.t (Hold.t (Hold.t (Hold.t (Hold.t (Hold.t (Hold.t hold))))))))))))))))))))) | with_reducible apply Hold.h (Hold.t (Hold.t (Hold.t (Hold.t (Hold.t (Hold.t (Hold.t (Hold.t (Hold.t (Hold.t (Hold.t (Hold.t (Hold.t (Hold.t (Hold.t (Hold.t (Hold.t (Hold.t (Hold.t (Hold.t (Hold.t (Hold.t hold)))))))))))))))))))))) | with_reducible apply Hold.h (Hold.t (Hold.t (Hold.t (Hold.t (Hold.t (Hold.t (Hold.t (Hold.t (Hold.t (Hold.t (Hold.t (Hold.t (Hold.t (Hold.t (Hold.t (Hold.t (Hold.t (Hold.t (Hold.t (Hold.t (Hold.t (Hold.t (Hold.t hold)))))))))))))))))))))))))
    | (refine K.le ?_; first | omega | (simp; omega) | assumption | ((repeat (revert hgo)); first | with_reducible apply Hold.h hold | with_reducible apply Hold.h (Hold.t hold) | with_reducible apply Hold.h (Hold.t (Hold.t hold)) | with_reducible apply Hold.h (Hold.t (Hold.t (Hold.t hold))) | with_reducible apply Hold.h (Hold.t (Hold.t (Hold.t (Hold.t hold)))) | with_reducible apply Hold.h (Hold.t (Hold.t (Hold.t (Hold.t (Hold.t hold))))) | with_reducible apply Hold.h (Hold.t (Hold.t (Hold.t (Hold.t (Hold.t (Hold.t hold)))))) | with_reducible apply Hold.h (Hold.t (Hold.t (Hold.t (Hold.t (Hold.t (Hold.t (Hold.t hold))))))) | with_reducible apply Hold.h (Hold.t (Hold.t (Hold.t (Hold.t (Hold.t (Hold.t (Hold.t (Hold.t hold)))))))) | with_reducible apply Hold.h (Hold.t (Hold.t (Hold.t (Hold.t (Hold.t (Hold.t (Hold.t (Hold.t (Hold.t hold))))))))) | with_reducible apply Hold.h (Hold.t (Hold.t (Hold.t (Hold.t (Hold.t (Hold.t (Hold.t (Hold.t (Hold.t (Hold.t hold)))))))))) | with_reducible apply Hold.h (Hold.t (Hold.t (Hold.t (Hold.t (Hold.t (Hold.t (Hold.t (Hold.t (Hold.t (Hold.t (Hold.t hold))))))))))) | with_reducible apply Hold.h (Hold.t (Hold.t (Hold.t (Hold.t (Hold.t (Hold.t (Hold.t (Hold.t (Hold.t (Hold.t (Hold.t (Hold.t hold)))))))))))) | with_reducible apply Hold.h (Hold.t (Hold.t (Hold.t (Hold.t (Hold.t (Hold.t (Hold.t (Hold.t (Hold.t (Hold.t (Hold.t (Hold.t (Hold.t hold))))))))))))) | with_reducible apply Hold.h (Hold.t (Hold.t (Hold.t (Hold.t (Hold.t (Hold.t (Hold.t (Hold.t (Hold.t (Hold.t (Hold.t (Hold.t (Hold.t (Hold.t hold)))))))))))))) | with_reducible apply Hold.h (Hold.t (Hold.t (Hold.t (Hold.t (Hold.t (Hold.t (Hold.t (Hold.t (Hold.t (Hold.t (Hold.t (Hold.t (Hold.t (Hold.t (Hold.t hold))))))))))))))) | with_reducible apply Hold.h (Hold.t (Hold.t (Hold.t (Hold.t (Hold.t (Hold.t (Hold.t (Hold.t (Hold.t (Hold.t (Hold.t (Hold.t (Hold.t (Hold.t (Hold.t (Hold.t hold)))))))))))))))) | with_reducible apply Hold.h (Hold.t (Hold.t (Hold.t (Hold.t (Hold.t (Hold.t (Hold.t (Hold.t (Hold.t (Hold.t (Hold.t (Hold.t (Hold.t (Hold.t (Hold.t (Hold.t (Hold.t hold))))))))))))))))) | with_reducible apply Hold.h (Hold.t (Hold.t (Hold.t (Hold.t (Hold.t (Hold.t (Hold.t (Hold.t (Hold.t (Hold.t (Hold.t (Hold.t (Hold.t (Hold.t (Hold.t (Hold.t (Hold.t (Hold.t hold)))))))))))))))))) | with_reducible apply Hold.h (Hold.t (Hold.t (Hold.t (Hold.t (Hold.t (Hold.t (Hold.t (Hold.t (Hold.t (Hold.t (Hold.t (Hold.t (Hold.t (Hold.t (Hold.t (Hold.t (Hold.t (Hold.t (Hold.t hold))))))))))))))))))) | with_reducible apply Hold.h (Hold.t (Hold.t (Hold.t (Hold.t (Hold.t (Hold.t (Hold.t (Hold.t (Hold.t (Hold.t (Hold.t (Hold.t (Hold.t (Hold.t (Hold.t (Hold.t (Hold.t (Hold.t (Hold.t (Hold.t hold)))))))))))))))))))) | with_reducible apply Hold.h (Hold.t (Hold.t (Hold.t (Hold.t (Hold.t (Hold.t (Hold.t (Hold.t (Hold.t (Hold.t (Hold.t (Hold.t (Hold.t (Hold.t (Hold.t (Hold.t (Hold.t (Hold.t (Hold.t (Hold.t (Hold.t hold))))))))))))))))))))) | with_reducible apply Hold.h (Hold.t (Hold.t (Hold.t (Hold.t (Hold.t (Hold.t (Hold.t (Hold.t (Hold.t (Hold.t (Hold.t (Hold.t (Hold.t (Hold.t (Hold.t (Hold.t (Hold.t (Hold.t (Hold.t (Hold.t (Hold.t (Hold.t hold)))))))))))))))))))))) | with_reducible apply Hold.h (Hold.t (Hold.t (Hold.t (Hold.t (Hold.t (Hold.t (Hold.t (Hold.t (Hold.t (Hold.t (Hold.t (Hold.t (Hold.t (Hold.t (Hold.t (Hold.t (Hold.t (Hold.t (Hold.t (Hold.t (Hold.t (Hold.t (Hold.t hold)))))))))))))))))))))))))
    | (refine K.lt ?_; first | omega | (simp; omega) | assumption | ((repeat (revert hgo)); first | with_reducible apply Hold.h hold | with_reducible apply Hold.h (Hold.t hold) | with_reducible apply Hold.h (Hold.t (Hold.t hold)) | with_reducible apply Hold.h (Hold.t (Hold.t (Hold.t hold))) | with_reducible apply Hold.h (Hold.t (Hold.t (Hold.t (Hold.t hold)))) | with_reducible apply Hold.h (Hold.t (Hold.t (Hold.t (Hold.t (Hold.t hold))))) | with_reducible apply Hold.h (Hold.t (Hold.t (Hold.t (Hold.t (Hold.t (Hold.t hold)))))) | with_reducible apply Hold.h (Hold.t (Hold.t (Hold.t (Hold.t (Hold.t (Hold.t (Hold.t hold))))))) | with_reducible apply Hold.h (Hold.t (Hold.t (Hold.t (Hold.t (Hold.t (Hold.t (Hold.t (Hold.t hold)))))))) | with_reducible apply Hold.h (Hold.t (Hold.t (Hold.t (Hold.t (Hold.t (Hold.t (Hold.t (Hold.t (Hold.t hold))))))))) | with_reducible apply Hold.h (Hold.t (Hold.t (Hold.t (Hold.t (Hold.t (Hold.t (Hold.t (Hold.t (Hold.t (Hold.t hold)))))))))) | with_reducible apply Hold.h (Hold.t (Hold.t (Hold.t (Hold.t (Hold.t (Hold.t (Hold.t (Hold.t (Hold.t (Hold.t (Hold.t hold))))))))))) | with_reducible apply Hold.h (Hold.t (Hold.t (Hold.t (Hold.t (Hold.t (Hold.t (Hold.t (Hold.t (Hold.t (Hold.t (Hold.t (Hold.t hold)))))))))))) | with_reducible apply Hold.h (Hold.t (Hold.t (Hold.t (Hold.t (Hold.t (Hold.t (Hold.t (Hold.t (Hold.t (Hold.t (Hold.t (Hold.t (Hold.t hold))))))))))))) | with_reducible apply Hold.h (Hold.t (Hold.t (Hold.t (Hold.t (Hold.t (Hold.t (Hold.t (Hold.t (Hold.t (Hold.t (Hold.t (Hold.t (Hold.t (Hold.t hold)))))))))))))) | with_reducible apply Hold.h (Hold.t (Hold.t (Hold.t (Hold.t (Hold.t (Hold.t (Hold.t (Hold.t (Hold.t (Hold.t (Hold.t (Hold.t (Hold.t (Hold.t (Hold.t hold))))))))))))))) | with_reducible apply Hold.h (Hold.t (Hold.t (Hold.t (Hold.t (Hold.t (Hold.t (Hold.t (Hold.t (Hold.t (Hold.t (Hold.t (Hold.t (Hold.t (Hold.t (Hold.t (Hold.t hold)))))))))))))))) | with_reducible apply Hold.h (Hold.t (Hold.t (Hold.t (Hold.t (Hold.t (Hold.t (Hold.t (Hold.t (Hold.t (Hold.t (Hold.t (Hold.t (Hold.t (Hold.t (Hold.t (Hold.t (Hold.t hold))))))))))))))))) | with_reducible apply Hold.h (Hold.t (Hold.t (Hold.t (Hold.t (Hold.t (Hold.t (Hold.t (Hold.t (Hold.t (Hold.t (Hold.t (Hold.t (Hold.t (Hold.t (Hold.t (Hold.t (Hold.t (Hold.t hold)))))))))))))))))) | with_reducible apply Hold.h (Hold.t (Hold.t (Hold.t (Hold.t (Hold.t (Hold.t (Hold.t (Hold.t (Hold.t (Hold.t (Hold.t (Hold.t (Hold.t (Hold.t (Hold.t (Hold.t (Hold.t (Hold.t (Hold.t hold))))))))))))))))))) | with_reducible apply Hold.h (Hold.t (Hold.t (Hold.t (Hold.t (Hold.t (Hold.t (Hold.t (Hold.t (Hold.t (Hold.t (Hold.t (Hold.t (Hold.t (Hold.t (Hold.t (Hold.t (Hold.t (Hold.t (Hold.t (Hold.t hold)))))))))))))))))))) | with_reducible apply Hold.h (Hold.t (Hold.t (Hold.t (Hold.t (Hold.t (Hold.t (Hold.t (Hold.t (Hold.t (Hold.t (Hold.t (Hold.t (Hold.t (Hold.t (Hold.t (Hold.t (Hold.t (Hold.t (Hold.t (Hold.t (Hold.t hold))))))))))))))))))))) | with_reducible apply Hold.h (Hold.t (Hold.t (Hold.t (Hold.t (Hold.t (Hold.t (Hold.t (Hold.t (Hold.t (Hold.t (Hold.t (Hold.t (Hold.t (Hold.t (Hold.t (Hold.t (Hold.t (Hold.t (Hold.t (Hold.t (Hold.t (Hold.t hold)))))))))))))))))))))) | with_reducible apply Hold.h (Hold.t (Hold.t (Hold.t (Hold.t (Hold.t (Hold.t (Hold.t (Hold.t (Hold.t (Hold.t (Hold.t (Hold.t (Hold.t (Hold.t (Hold.t (Hold.t (Hold.t (Hold.t (Hold.t (Hold.t (Hold.t (Hold.t (Hold.t hold)))))))))))))))))))))))))
    | refine And.intro ?_ ?_
    | (refine K.RO ?_; first
      | exact ReO.nil
      | refine ReO.ints ?_ (by first | exact .inl rfl | exact .inr rfl) ?_
      | refine ReO.u8s ?_ (by first | exact .inl rfl | exact .inr rfl) ?_
      | refine ReO.rows (fun _ => rfl) ?_ (by first | exact .inl rfl | exact .inr rfl) ?_
      | refine ReO.cons (Re.same rfl rfl) (by first | exact .inl rfl | exact .inr rfl) ?_
      | refine ReO.cons ?_ (by first | exact .inl rfl | exact .inr rfl) ?_)
    | (refine K.W ?_; first
      | refine Weak.mk ?_ ?_ (by first | exact Nat.zero_le _ | exact Nat.le_of_ble_eq_true rfl))
    | refine Abs.Seq.ret ?_
    | refine Abs.Seq.exit ?_
    | refine Blk.n ?_
    | refine Blk.ret ?_
    | refine Blk.exitHere ?_
    | (refine K.R ?_; first
      | refine Rnd.ret ?_
      | refine Rnd.exit ?_
      | refine Rnd.succ ?_ ?_ ?_
      | ((repeat (revert hgo)); first | with_reducible apply Hold.h hold | with_reducible apply Hold.h (Hold.t hold) | with_reducible apply Hold.h (Hold.t (Hold.t hold)) | with_reducible apply Hold.h (Hold.t (Hold.t (Hold.t hold))) | with_reducible apply Hold.h (Hold.t (Hold.t (Hold.t (Hold.t hold)))) | with_reducible apply Hold.h (Hold.t (Hold.t (Hold.t (Hold.t (Hold.t hold))))) | with_reducible apply Hold.h (Hold.t (Hold.t (Hold.t (Hold.t (Hold.t (Hold.t hold)))))) | with_reducible apply Hold.h (Hold.t (Hold.t (Hold.t (Hold.t (Hold.t (Hold.t (Hold.t hold))))))) | with_reducible apply Hold.h (Hold.t (Hold.t (Hold.t (Hold.t (Hold.t (Hold.t (Hold.t (Hold.t hold)))))))) | with_reducible apply Hold.h (Hold.t (Hold.t (Hold.t (Hold.t (Hold.t (Hold.t (Hold.t (Hold.t (Hold.t hold))))))))) | with_reducible apply Hold.h (Hold.t (Hold.t (Hold.t (Hold.t (Hold.t (Hold.t (Hold.t (Hold.t (Hold.t (Hold.t hold)))))))))) | with_reducible apply Hold.h (Hold.t (Hold.t (Hold.t (Hold.t (Hold.t (Hold.t (Hold.t (Hold.t (Hold.t (Hold.t (Hold.t hold))))))))))) | with_reducible apply Hold.h (Hold.t (Hold.t (Hold.t (Hold.t (Hold.t (Hold.t (Hold.t (Hold.t (Hold.t (Hold.t (Hold.t (Hold.t hold)))))))))))) | with_reducible apply Hold.h (Hold.t (Hold.t (Hold.t (Hold.t (Hold.t (Hold.t (Hold.t (Hold.t (Hold.t (Hold.t (Hold.t (Hold.t (Hold.t hold))))))))))))) | with_reducible apply Hold.h (Hold.t (Hold.t (Hold.t (Hold.t (Hold.t (Hold.t (Hold.t (Hold.t (Hold.t (Hold.t (Hold.t (Hold.t (Hold.t (Hold.t hold)))))))))))))) | with_reducible apply Hold.h (Hold.t (Hold.t (Hold.t (Hold.t (Hold.t (Hold.t (Hold.t (Hold.t (Hold.t (Hold.t (Hold.t (Hold.t (Hold.t (Hold.t (Hold.t hold))))))))))))))) | with_reducible apply Hold.h (Hold.t (Hold.t (Hold.t (Hold.t (Hold.t (Hold.t (Hold.t (Hold.t (Hold.t (Hold.t (Hold.t (Hold.t (Hold.t (Hold.t (Hold.t (Hold.t hold)))))))))))))))) | with_reducible apply Hold.h (Hold.t (Hold.t (Hold.t (Hold.t (Hold.t (Hold.t (Hold.t (Hold.t (Hold.t (Hold.t (Hold.t (Hold.t (Hold.t (Hold.t (Hold.t (Hold.t (Hold.t hold))))))))))))))))) | with_reducible apply Hold.h (Hold.t (Hold.t (Hold.t (Hold.t (Hold.t (Hold.t (Hold.t (Hold.t (Hold.t (Hold.t (Hold.t (Hold.t (Hold.t (Hold.t (Hold.t (Hold.t (Hold.t (Hold.t hold)))))))))))))))))) | with_reducible apply Hold.h (Hold.t (Hold.t (Hold.t (Hold.t (Hold.t (Hold.t (Hold.t (Hold.t (Hold.t (Hold.t (Hold.t (Hold.t (Hold.t (Hold.t (Hold.t (Hold.t (Hold.t (Hold.t (Hold.t hold))))))))))))))))))) | with_reducible apply Hold.h (Hold.t (Hold.t (Hold.t (Hold.t (Hold.t (Hold.t (Hold.t (Hold.t (Hold.t (Hold.t (Hold.t (Hold.t (Hold.t (Hold.t (Hold.t (Hold.t (Hold.t (Hold.t (Hold.t (Hold.t hold)))))))))))))))))))) | with_reducible apply Hold.h (Hold.t (Hold.t (Hold.t (Hold.t (Hold.t (Hold.t (Hold.t (Hold.t (Hold.t (Hold.t (Hold.t (Hold.t (Hold.t (Hold.t (Hold.t (Hold.t (Hold.t (Hold.t (Hold.t (Hold.t (Hold.t hold))))))))))))))))))))) | with_reducible apply Hold.h (Hold.t (Hold.t (Hold.t (Hold.t (Hold.t (Hold.t (Hold.t (Hold.t (Hold.t (Hold.t (Hold.t (Hold.t (Hold.t (Hold.t (Hold.t (Hold.t (Hold.t (Hold.t (Hold.t (Hold.t (Hold.t (Hold.t hold)))))))))))))))))))))) | with_reducible apply Hold.h (Hold.t (Hold.t (Hold.t (Hold.t (Hold.t (Hold.t (Hold.t (Hold.t (Hold.t (Hold.t (Hold.t (Hold.t (Hold.t (Hold.t (Hold.t (Hold.t (Hold.t (Hold.t (Hold.t (Hold.t (Hold.t (Hold.t (Hold.t hold)))))))))))))))))))))))))
    | (refine K.F ?_; first
      | apply Fin.one0
      | apply Fin.one1
      | apply Fin.one2
      | apply Fin.one3
      | apply Fin.two0
      | apply Fin.two1
      | apply Fin.two2
      | apply Fin.two3
      | apply Fin.three0
      | apply Fin.three1
      | apply Fin.three2
      | apply Fin.three3
      | ((repeat (revert hgo)); first | with_reducible apply Hold.h hold | with_reducible apply Hold.h (Hold.t hold) | with_reducible apply Hold.h (Hold.t (Hold.t hold)) | with_reducible apply Hold.h (Hold.t (Hold.t (Hold.t hold))) | with_reducible apply Hold.h (Hold.t (Hold.t (Hold.t (Hold.t hold)))) | with_reducible apply Hold.h (Hold.t (Hold.t (Hold.t (Hold.t (Hold.t hold))))) | with_reducible apply Hold.h (Hold.t (Hold.t (Hold.t (Hold.t (Hold.t (Hold.t hold)))))) | with_reducible apply Hold.h (Hold.t (Hold.t (Hold.t (Hold.t (Hold.t (Hold.t (Hold.t hold))))))) | with_reducible apply Hold.h (Hold.t (Hold.t (Hold.t (Hold.t (Hold.t (Hold.t (Hold.t (Hold.t hold)))))))) | with_reducible apply Hold.h (Hold.t (Hold.t (Hold.t (Hold.t (Hold.t (Hold.t (Hold.t (Hold.t (Hold.t hold))))))))) | with_reducible apply Hold.h (Hold.t (Hold.t (Hold.t (Hold.t (Hold.t (Hold.t (Hold.t (Hold.t (Hold.t (Hold.t hold)))))))))) | with_reducible apply Hold.h (Hold.t (Hold.t (Hold.t (Hold.t (Hold.t (Hold.t (Hold.t (Hold.t (Hold.t (Hold.t (Hold.t hold))))))))))) | with_reducible apply Hold.h (Hold.t (Hold.t (Hold.t (Hold.t (Hold.t (Hold.t (Hold.t (Hold.t (Hold.t (Hold.t (Hold.t (Hold.t hold)))))))))))) | with_reducible apply Hold.h (Hold.t (Hold.t (Hold.t (Hold.t (Hold.t (Hold.t (Hold.t (Hold.t (Hold.t (Hold.t (Hold.t (Hold.t (Hold.t hold))))))))))))) | with_reducible apply Hold.h (Hold.t (Hold.t (Hold.t (Hold.t (Hold.t (Hold.t (Hold.t (Hold.t (Hold.t (Hold.t (Hold.t (Hold.t (Hold.t (Hold.t hold)))))))))))))) | with_reducible apply Hold.h (Hold.t (Hold.t (Hold.t (Hold.t (Hold.t (Hold.t (Hold.t (Hold.t (Hold.t (Hold.t (Hold.t (Hold.t (Hold.t (Hold.t (Hold.t hold))))))))))))))) | with_reducible apply Hold.h (Hold.t (Hold.t (Hold.t (Hold.t (Hold.t (Hold.t (Hold.t (Hold.t (Hold.t (Hold.t (Hold.t (Hold.t (Hold.t (Hold.t (Hold.t (Hold.t hold)))))))))))))))) | with_reducible apply Hold.h (Hold.t (Hold.t (Hold.t (Hold.t (Hold.t (Hold.t (Hold.t (Hold.t (Hold.t (Hold.t (Hold.t (Hold.t (Hold.t (Hold.t (Hold.t (Hold.t (Hold.t hold))))))))))))))))) | with_reducible apply Hold.h (Hold.t (Hold.t (Hold.t (Hold.t (Hold.t (Hold.t (Hold.t (Hold.t (Hold.t (Hold.t (Hold.t (Hold.t (Hold.t (Hold.t (Hold.t (Hold.t (Hold.t (Hold.t hold)))))))))))))))))) | with_reducible apply Hold.h (Hold.t (Hold.t (Hold.t (Hold.t (Hold.t (Hold.t (Hold.t (Hold.t (Hold.t (Hold.t (Hold.t (Hold.t (Hold.t (Hold.t (Hold.t (Hold.t (Hold.t (Hold.t (Hold.t hold))))))))))))))))))) | with_reducible apply Hold.h (Hold.t (Hold.t (Hold.t (Hold.t (Hold.t (Hold.t (Hold.t (Hold.t (Hold.t (Hold.t (Hold.t (Hold.t (Hold.t (Hold.t (Hold.t (Hold.t (Hold.t (Hold.t (Hold.t (Hold.t hold)))))))))))))))))))) | with_reducible apply Hold.h (Hold.t (Hold.t (Hold.t (Hold.t (Hold.t (Hold.t (Hold.t (Hold.t (Hold.t (Hold.t (Hold.t (Hold.t (Hold.t (Hold.t (Hold.t (Hold.t (Hold.t (Hold.t (Hold.t (Hold.t (Hold.t hold))))))))))))))))))))) | with_reducible apply Hold.h (Hold.t (Hold.t (Hold.t (Hold.t (Hold.t (Hold.t (Hold.t (Hold.t (Hold.t (Hold.t (Hold.t (Hold.t (Hold.t (Hold.t (Hold.t (Hold.t (Hold.t (Hold.t (Hold.t (Hold.t (Hold.t (Hold.t hold)))))))))))))))))))))) | with_reducible apply Hold.h (Hold.t (Hold.t (Hold.t (Hold.t (Hold.t (Hold.t (Hold.t (Hold.t (Hold.t (Hold.t (Hold.t (Hold.t (Hold.t (Hold.t (Hold.t (Hold.t (Hold.t (Hold.t (Hold.t (Hold.t (Hold.t (Hold.t (Hold.t hold)))))))))))))))))))))))))
    | (refine K.FG ?_; first
      | apply FinG.o10
      | apply FinG.o11
      | apply FinG.o20
      | apply FinG.o21
      | apply FinG.o30
      | apply FinG.o31
      | apply FinG.o40
      | apply FinG.o41
      | apply FinG.z10
      | apply FinG.z11
      | apply FinG.z20
      | apply FinG.z21
      | apply FinG.z30
      | apply FinG.z31
      | apply FinG.z40
      | apply FinG.z41
      | apply FinG.t10
      | apply FinG.t11
      | apply FinG.t20
      | apply FinG.t21
      | apply FinG.t30
      | apply FinG.t31
      | apply FinG.t40
      | apply FinG.t41
      | ((repeat (revert hgo)); first | with_reducible apply Hold.h hold | with_reducible apply Hold.h (Hold.t hold) | with_reducible apply Hold.h (Hold.t (Hold.t hold)) | with_reducible apply Hold.h (Hold.t (Hold.t (Hold.t hold))) | with_reducible apply Hold.h (Hold.t (Hold.t (Hold.t (Hold.t hold)))) | with_reducible apply Hold.h (Hold.t (Hold.t (Hold.t (Hold.t (Hold.t hold))))) | with_reducible apply Hold.h (Hold.t (Hold.t (Hold.t (Hold.t (Hold.t (Hold.t hold)))))) | with_reducible apply Hold.h (Hold.t (Hold.t (Hold.t (Hold.t (Hold.t (Hold.t (Hold.t hold))))))) | with_reducible apply Hold.h (Hold.t (Hold.t (Hold.t (Hold.t (Hold.t (Hold.t (Hold.t (Hold.t hold)))))))) | with_reducible apply Hold.h (Hold.t (Hold.t (Hold.t (Hold.t (Hold.t (Hold.t (Hold.t (Hold.t (Hold.t hold))))))))) | with_reducible apply Hold.h (Hold.t (Hold.t (Hold.t (Hold.t (Hold.t (Hold.t (Hold.t (Hold.t (Hold.t (Hold.t hold)))))))))) | with_reducible apply Hold.h (Hold.t (Hold.t (Hold.t (Hold.t (Hold.t (Hold.t (Hold.t (Hold.t (Hold.t (Hold.t (Hold.t hold))))))))))) | with_reducible apply Hold.h (Hold.t (Hold.t (Hold.t (Hold.t (Hold.t (Hold.t (Hold.t (Hold.t (Hold.t (Hold.t (Hold.t (Hold.t hold)))))))))))) | with_reducible apply Hold.h (Hold.t (Hold.t (Hold.t (Hold.t (Hold.t (Hold.t (Hold.t (Hold.t (Hold.t (Hold.t (Hold.t (Hold.t (Hold.t hold))))))))))))) | with_reducible apply Hold.h (Hold.t (Hold.t (Hold.t (Hold.t (Hold.t (Hold.t (Hold.t (Hold.t (Hold.t (Hold.t (Hold.t (Hold.t (Hold.t (Hold.t hold)))))))))))))) | with_reducible apply Hold.h (Hold.t (Hold.t (Hold.t (Hold.t (Hold.t (Hold.t (Hold.t (Hold.t (Hold.t (Hold.t (Hold.t (Hold.t (Hold.t (Hold.t (Hold.t hold))))))))))))))) | with_reducible apply Hold.h (Hold.t (Hold.t (Hold.t (Hold.t (Hold.t (Hold.t (Hold.t (Hold.t (Hold.t (Hold.t (Hold.t (Hold.t (Hold.t (Hold.t (Hold.t (Hold.t hold)))))))))))))))) | with_reducible apply Hold.h (Hold.t (Hold.t (Hold.t (Hold.t (Hold.t (Hold.t (Hold.t (Hold.t (Hold.t (Hold.t (Hold.t (Hold.t (Hold.t (Hold.t (Hold.t (Hold.t (Hold.t hold))))))))))))))))) | with_reducible apply Hold.h (Hold.t (Hold.t (Hold.t (Hold.t (Hold.t (Hold.t (Hold.t (Hold.t (Hold.t (Hold.t (Hold.t (Hold.t (Hold.t (Hold.t (Hold.t (Hold.t (Hold.t (Hold.t hold)))))))))))))))))) | with_reducible apply Hold.h (Hold.t (Hold.t (Hold.t (Hold.t (Hold.t (Hold.t (Hold.t (Hold.t (Hold.t (Hold.t (Hold.t (Hold.t (Hold.t (Hold.t (Hold.t (Hold.t (Hold.t (Hold.t (Hold.t hold))))))))))))))))))) | with_reducible apply Hold.h (Hold.t (Hold.t (Hold.t (Hold.t (Hold.t (Hold.t (Hold.t (Hold.t (Hold.t (Hold.t (Hold.t (Hold.t (Hold.t (Hold.t (Hold.t (Hold.t (Hold.t (Hold.t (Hold.t (Hold.t hold)))))))))))))))))))) | with_reducible apply Hold.h (Hold.t (Hold.t (Hold.t (Hold.t (Hold.t (Hold.t (Hold.t (Hold.t (Hold.t (Hold.t (Hold.t (Hold.t (Hold.t (Hold.t (Hold.t (Hold.t (Hold.t (Hold.t (Hold.t (Hold.t (Hold.t hold))))))))))))))))))))) | with_reducible apply Hold.h (Hold.t (Hold.t (Hold.t (Hold.t (Hold.t (Hold.t (Hold.t (Hold.t (Hold.t (Hold.t (Hold.t (Hold.t (Hold.t (Hold.t (Hold.t (Hold.t (Hold.t (Hold.t (Hold.t (Hold.t (Hold.t (Hold.t hold)))))))))))))))))))))) | with_reducible apply Hold.h (Hold.t (Hold.t (Hold.t (Hold.t (Hold.t (Hold.t (Hold.t (Hold.t (Hold.t (Hold.t (Hold.t (Hold.t (Hold.t (Hold.t (Hold.t (Hold.t (Hold.t (Hold.t (Hold.t (Hold.t (Hold.t (Hold.t (Hold.t hold)))))))))))))))))))))))))
    | exact ResV.tmp rfl
    | exact ResV.cellP rfl rfl rfl rfl rfl
    | exact ResV.cell (ds := [_]) rfl rfl rfl rfl rfl
    | exact ResV.cell (ds := [_, _]) rfl rfl rfl rfl rfl
    | exact ResV.cell (ds := [_, _, _]) rfl rfl rfl rfl rfl
    | exact ResV.cell (ds := [_, _, _, _]) rfl rfl rfl rfl rfl
    | exact ResV.cell (ds := [_, _, _, _, _]) rfl rfl rfl rfl rfl
    | exact ResV.cell (ds := [_, _, _, _, _, _]) rfl rfl rfl rfl rfl
    | exact ResV.cell (ds := [_, _, _, _, _, _, _]) rfl rfl rfl rfl rfl
    | exact ResV.cell (ds := [_, _, _, _, _, _, _, _]) rfl rfl rfl rfl rfl
    | (refine K.E ?_; first
      | exact Ex.nil
      | refine Ex.keep rfl rfl rfl ?_
      | refine Ex.own rfl rfl rfl rfl ?_
      | refine Ex.own rfl rfl rfl ?_ ?_
      | refine Ex.nilO rfl ?_
      | refine Ex.nilO' rfl ?_ ?_
      | refine Ex.agg ?_ ?_
      | refine Ex.tup ?_ ?_
      | refine Ex.i ?_ ?_
      | refine Ex.b ?_ ?_
      | refine Ex.z ?_ ?_)
    | (refine K.NE ?_; first
      | exact NEx.nil
      | refine NEx.ints rfl ?_ ?_
      | refine NEx.noInts ?_ ?_
      | refine NEx.rows (fun _ => rfl) rfl ?_ ?_
      | refine NEx.noRows ?_ ?_
      | refine NEx.gone ?_ rfl ?_
      | refine NEx.obj rfl ?_ rfl rfl rfl (.inr rfl) ?_)
    | exact Re.nil
    | refine Re.keep rfl rfl ?_
    | refine Re.fn rfl ?_
    | refine Re.own rfl rfl rfl rfl rfl (by first | rfl | omega | (simp; done) | (simp; omega)) ?_
    | refine Re.ptr rfl rfl rfl rfl ?_
    | refine Re.agg ?_ ?_
    | refine Re.tup ?_ ?_
    | refine Re.i ?_ ?_
    | exact rfl
    | omega
    | (refine fun hgo => ?_)
    | (simp; done)
    | (simp; omega)
    | ((repeat (revert hgo)); first | with_reducible apply Hold.h hold | with_reducible apply Hold.h (Hold.t hold) | with_reducible apply Hold.h (Hold.t (Hold.t hold)) | with_reducible apply Hold.h (Hold.t (Hold.t (Hold.t hold))) | with_reducible apply Hold.h (Hold.t (Hold.t (Hold.t (Hold.t hold)))) | with_reducible apply Hold.h (Hold.t (Hold.t (Hold.t (Hold.t (Hold.t hold))))) | with_reducible apply Hold.h (Hold.t (Hold.t (Hold.t (Hold.t (Hold.t (Hold.t hold)))))) | with_reducible apply Hold.h (Hold.t (Hold.t (Hold.t (Hold.t (Hold.t (Hold.t (Hold.t hold))))))) | with_reducible apply Hold.h (Hold.t (Hold.t (Hold.t (Hold.t (Hold.t (Hold.t (Hold.t (Hold.t hold)))))))) | with_reducible apply Hold.h (Hold.t (Hold.t (Hold.t (Hold.t (Hold.t (Hold.t (Hold.t (Hold.t (Hold.t hold))))))))) | with_reducible apply Hold.h (Hold.t (Hold.t (Hold.t (Hold.t (Hold.t (Hold.t (Hold.t (Hold.t (Hold.t (Hold.t hold)))))))))) | with_reducible apply Hold.h (Hold.t (Hold.t (Hold.t (Hold.t (Hold.t (Hold.t (Hold.t (Hold.t (Hold.t (Hold.t (Hold.t hold))))))))))) | with_reducible apply Hold.h (Hold.t (Hold.t (Hold.t (Hold.t (Hold.t (Hold.t (Hold.t (Hold.t (Hold.t (Hold.t (Hold.t (Hold.t hold)))))))))))) | with_reducible apply Hold.h (Hold.t (Hold.t (Hold.t (Hold.t (Hold.t (Hold.t (Hold.t (Hold.t (Hold.t (Hold.t (Hold.t (Hold.t (Hold.t hold))))))))))))) | with_reducible apply Hold.h (Hold.t (Hold.t (Hold.t (Hold.t (Hold.t (Hold.t (Hold.t (Hold.t (Hold.t (Hold.t (Hold.t (Hold.t (Hold.t (Hold.t hold)))))))))))))) | with_reducible apply Hold.h (Hold.t (Hold.t (Hold.t (Hold.t (Hold.t (Hold.t (Hold.t (Hold.t (Hold.t (Hold.t (Hold.t (Hold.t (Hold.t (Hold.t (Hold.t hold))))))))))))))) | with_reducible apply Hold.h (Hold.t (Hold.t (Hold.t (Hold.t (Hold.t (Hold.t (Hold.t (Hold.t (Hold.t (Hold.t (Hold.t (Hold.t (Hold.t (Hold.t (Hold.t (Hold.t hold)))))))))))))))) | with_reducible apply Hold.h (Hold.t (Hold.t (Hold.t (Hold.t (Hold.t (Hold.t (Hold.t (Hold.t (Hold.t (Hold.t (Hold.t (Hold.t (Hold.t (Hold.t (Hold.t (Hold.t (Hold.t hold))))))))))))))))) | with_reducible apply Hold.h (Hold.t (Hold.t (Hold.t (Hold.t (Hold.t (Hold.t (Hold.t (Hold.t (Hold.t (Hold.t (Hold.t (Hold.t (Hold.t (Hold.t (Hold.t (Hold.t (Hold.t (Hold.t hold)))))))))))))))))) | with_reducible apply Hold.h (Hold.t (Hold.t (Hold.t (Hold.t (Hold.t (Hold.t (Hold.t (Hold.t (Hold.t (Hold.t (Hold.t (Hold.t (Hold.t (Hold.t (Hold.t (Hold.t (Hold.t (Hold.t (Hold.t hold))))))))))))))))))) | with_reducible apply Hold.h (Hold.t (Hold.t (Hold.t (Hold.t (Hold.t (Hold.t (Hold.t (Hold.t (Hold.t (Hold.t (Hold.t (Hold.t (Hold.t (Hold.t (Hold.t (Hold.t (Hold.t (Hold.t (Hold.t (Hold.t hold)))))))))))))))))))) | with_reducible apply Hold.h (Hold.t (Hold.t (Hold.t (Hold.t (Hold.t (Hold.t (Hold.t (Hold.t (Hold.t (Hold.t (Hold.t (Hold.t (Hold.t (Hold.t (Hold.t (Hold.t (Hold.t (Hold.t (Hold.t (Hold.t (Hold.t hold))))))))))))))))))))) | with_reducible apply Hold.h (Hold.t (Hold.t (Hold.t (Hold.t (Hold.t (Hold.t (Hold.t (Hold.t (Hold.t (Hold.t (Hold.t (Hold.t (Hold.t (Hold.t (Hold.t (Hold.t (Hold.t (Hold.t (Hold.t (Hold.t (Hold.t (Hold.t hold)))))))))))))))))))))) | with_reducible apply Hold.h (Hold.t (Hold.t (Hold.t (Hold.t (Hold.t (Hold.t (Hold.t (Hold.t (Hold.t (Hold.t (Hold.t (Hold.t (Hold.t (Hold.t (Hold.t (Hold.t (Hold.t (Hold.t (Hold.t (Hold.t (Hold.t (Hold.t (Hold.t hold)))))))))))))))))))))))))
    all_goals (try ((repeat (revert hgo)); first | with_reducible apply Hold.h hold | with_reducible apply Hold.h (Hold.t hold) | with_reducible apply Hold.h (Hold.t (Hold.t hold)) | with_reducible apply Hold.h (Hold.t (Hold.t (Hold.t hold))) | with_reducible apply Hold.h (Hold.t (Hold.t (Hold.t (Hold.t hold)))) | with_reducible apply Hold.h (Hold.t (Hold.t (Hold.t (Hold.t (Hold.t hold))))) | with_reducible apply Hold.h (Hold.t (Hold.t (Hold.t (Hold.t (Hold.t (Hold.t hold)))))) | with_reducible apply Hold.h (Hold.t (Hold.t (Hold.t (Hold.t (Hold.t (Hold.t (Hold.t hold))))))) | with_reducible apply Hold.h (Hold.t (Hold.t (Hold.t (Hold.t (Hold.t (Hold.t (Hold.t (Hold.t hold)))))))) | with_reducible apply Hold.h (Hold.t (Hold.t (Hold.t (Hold.t (Hold.t (Hold.t (Hold.t (Hold.t (Hold.t hold))))))))) | with_reducible apply Hold.h (Hold.t (Hold.t (Hold.t (Hold.t (Hold.t (Hold.t (Hold.t (Hold.t (Hold.t (Hold.t hold)))))))))) | with_reducible apply Hold.h (Hold.t (Hold.t (Hold.t (Hold.t (Hold.t (Hold.t (Hold.t (Hold.t (Hold.t (Hold.t (Hold.t hold))))))))))) | with_reducible apply Hold.h (Hold.t (Hold.t (Hold.t (Hold.t (Hold.t (Hold.t (Hold.t (Hold.t (Hold.t (Hold.t (Hold.t (Hold.t hold)))))))))))) | with_reducible apply Hold.h (Hold.t (Hold.t (Hold.t (Hold.t (Hold.t (Hold.t (Hold.t (Hold.t (Hold.t (Hold.t (Hold.t (Hold.t (Hold.t hold))))))))))))) | with_reducible apply Hold.h (Hold.t (Hold.t (Hold.t (Hold.t (Hold.t (Hold.t (Hold.t (Hold.t (Hold.t (Hold.t (Hold.t (Hold.t (Hold.t (Hold.t hold)))))))))))))) | with_reducible apply Hold.h (Hold.t (Hold.t (Hold.t (Hold.t (Hold.t (Hold.t (Hold.t (Hold.t (Hold.t (Hold.t (Hold.t (Hold.t (Hold.t (Hold.t (Hold.t hold))))))))))))))) | with_reducible apply Hold.h (Hold.t (Hold.t (Hold.t (Hold.t (Hold.t (Hold.t (Hold.t (Hold.t (Hold.t (Hold.t (Hold.t (Hold.t (Hold.t (Hold.t (Hold.t (Hold.t hold)))))))))))))))) | with_reducible apply Hold.h (Hold.t (Hold.t (Hold.t (Hold.t (Hold.t (Hold.t (Hold.t (Hold.t (Hold.t (Hold.t (Hold.t (Hold.t (Hold.t (Hold.t (Hold.t (Hold.t (Hold.t hold))))))))))))))))) | with_reducible apply Hold.h (Hold.t (Hold.t (Hold.t (Hold.t (Hold.t (Hold.t (Hold.t (Hold.t (Hold.t (Hold.t (Hold.t (Hold.t (Hold.t (Hold.t (Hold.t (Hold.t (Hold.t (Hold.t hold)))))))))))))))))) | with_reducible apply Hold.h (Hold.t (Hold.t (Hold.t (Hold.t (Hold.t (Hold.t (Hold.t (Hold.t (Hold.t (Hold.t (Hold.t (Hold.t (Hold.t (Hold.t (Hold.t (Hold.t (Hold.t (Hold.t (Hold.t hold))))))))))))))))))) | with_reducible apply Hold.h (Hold.t (Hold.t (Hold.t (Hold.t (Hold.t (Hold.t (Hold.t (Hold.t (Hold.t (Hold.t (Hold.t (Hold.t (Hold.t (Hold.t (Hold.t (Hold.t (Hold.t (Hold.t (Hold.t (Hold.t hold)))))))))))))))))))) | with_reducible apply Hold.h (Hold.t (Hold.t (Hold.t (Hold.t (Hold.t (Hold.t (Hold.t (Hold.t (Hold.t (Hold.t (Hold.t (Hold.t (Hold.t (Hold.t (Hold.t (Hold.t (Hold.t (Hold.t (Hold.t (Hold.t (Hold.t hold))))))))))))))))))))) | with_reducible apply Hold.h (Hold.t (Hold.t (Hold.t (Hold.t (Hold.t (Hold.t (Hold.t (Hold.t (Hold.t (Hold.t (Hold.t (Hold.t (Hold.t (Hold.t (Hold.t (Hold.t (Hold.t (Hold.t (Hold.t (Hold.t (Hold.t (Hold.t hold)))))))))))))))))))))) | with_reducible apply Hold.h (Hold.t (Hold.t (Hold.t (Hold.t (Hold.t (Hold.t (Hold.t (Hold.t (Hold.t (Hold.t (Hold.t (Hold.t (Hold.t (Hold.t (Hold.t (Hold.t (Hold.t (Hold.t (Hold.t (Hold.t (Hold.t (Hold.t (Hold.t hold)))))))))))))))))))))))))
    all_goals exact True
  · first | exact IsT.t | exact IsT.any
  ) (r : R) : P := h.1 ⟨r⟩
end Go.Proofs.Ytgkeopmihhcbiaa

/- Contracts of small functions. No condition. -/
namespace Go.Proofs.Ytgkeopmihhcbiaa
open Go Go.Abs
set_option linter.unusedVariables false
set_option linter.unusedSimpArgs false
set_option maxRecDepth 100000
attribute [local irreducible] WpA WpL Rnd Blk Abs.Seq Abs.Fin FnC Only

instance within_c : Con 83 (∀ n lo hi : Int, Fn 83 [I n, I lo, I hi] [] (B (decide (lo ≤ n ∧ n ≤ hi)))) := ⟨fun n lo hi => by
  refine FnC.of_body tabOk Try.func83 Try.ntmps83 rfl (by decide +kernel) (by simp) fun G => ?_
  refine go (r := ?_); and_intros <;> intros
  all_goals first | exact True.intro | (simp_all; done) | (simp; omega)⟩

instance l1In_c : Con 150 (∀ n lo hi : Int, Fn 150 [I n, I lo, I hi] [] (B (decide (lo ≤ n ∧ n ≤ hi)))) := ⟨fun n lo hi => by
  refine FnC.of_body tabOk Try.func150 Try.ntmps150 rfl (by decide +kernel) (by simp) fun G => ?_
  refine go (r := ?_); and_intros <;> intros
  all_goals first | exact True.intro | (simp_all; done) | (simp; omega)⟩

def clampM (v : Int) : Int := max (-1000000) (min v 1000000)
def costs (xs : List Int) : Int := (xs.map fun v => max (clampM v) (- clampM v)).sum
end Go.Proofs.Ytgkeopmihhcbiaa

/- Contracts: cursors over a code, out of which all is drawn. No condition. -/
namespace Go.Proofs.Ytgkeopmihhcbiaa
open Go Go.Abs
set_option linter.unusedVariables false
set_option linter.unusedSimpArgs false
set_option maxRecDepth 100000
set_option maxHeartbeats 4000000
attribute [local irreducible] WpA WpL Rnd Blk Abs.Seq Abs.Fin Abs.FinG FnC FnG FnX FinX Only

/-- A cursor: the bytes it goes over, where it stands, and what it mixes in. -/
abbrev CurO (v : Value) (c : Int × Int) : AObj := ⟨[.sc v, I c.1, I c.2], 0, 0, none⟩
abbrev CurOk (l : List Int) (c : Int × Int) : Prop := 0 ≤ c.1 ∧ c.1 ≤ l.length
abbrev CodA (l : List Int) : AV := .imm 1 l.length (u8s l)
/-- A function of a cursor and of more arguments that draws a number. -/
abbrev XnI (f : Nat) (v : Value) (l : List Int) (c : Int × Int) (args : List AV) (C : Int → Prop) : Prop := FnX Try.prog f (.ptr 0 0 0 :: args) [CurO v c] [v] [CodA l] ((Int × Int) × Int) (fun y => CurOk l y.1 ∧ C y.2) (fun y => [CurO v y.1]) (fun _ => []) (fun y => I y.2)
theorem and255 (y : Int) : 0 ≤ IntKind.i64.wrap ((BitVec.ofInt IntKind.i64.bits y &&& BitVec.ofInt IntKind.i64.bits 255).toNat : Nat) ∧ IntKind.i64.wrap ((BitVec.ofInt IntKind.i64.bits y &&& BitVec.ofInt IntKind.i64.bits 255).toNat : Nat) ≤ 255 := by
  have h : (BitVec.ofInt IntKind.i64.bits y &&& BitVec.ofInt IntKind.i64.bits 255).toNat ≤ 255 := by
    rw [BitVec.toNat_and]
    exact Nat.le_trans Nat.and_le_right (by decide)
  rw [IntWalk.i64_in _ (by omega)]
  omega
section
attribute [local irreducible] IntKind.wrap
end
/-- A function of a cursor that draws a truth value. -/
abbrev XnB (f : Nat) (v : Value) (l : List Int) (c : Int × Int) (args : List AV) : Prop := FnX Try.prog f (.ptr 0 0 0 :: args) [CurO v c] [v] [CodA l] ((Int × Int) × Bool) (fun y => CurOk l y.1 ∧ True) (fun y => [CurO v y.1]) (fun _ => []) (fun y => B y.2)
end Go.Proofs.Ytgkeopmihhcbiaa

/- Cursors over a code, out of which all is drawn: what is drawn as functions of the cursor. No condition. -/
namespace Go.Proofs.Ytgkeopmihhcbiaa
open Go Go.Abs
set_option linter.unusedVariables false
set_option linter.unusedSimpArgs false
set_option maxRecDepth 100000
set_option maxHeartbeats 4000000
attribute [local irreducible] WpA WpL Rnd Blk Abs.Seq Abs.Fin Abs.FinG FnC FnG FnX FnP FinX Only

abbrev Cr := Int × Int
/-- A function of a cursor and of more arguments, with its one result. -/
abbrev Pn (f : Nat) (v : Value) (l : List Int) (c : Cr) (args : List AV) (c' : Cr) (N : List AObj) (r : AV) : Prop := FnP Try.prog f (.ptr 0 0 0 :: args) [CurO v c] [v] [CodA l] [CurO v c'] N r
abbrev CrOk (l : List Int) (c : Cr) : Prop := l.length ≤ 1048576 ∧ CurOk l c
def hD (h : Int) : Int := IntKind.i64.wrap (IntKind.i64.wrap (h * 6364136223846793005) + 1442695040888963407)
def mixD (y : Int) : Int := IntKind.i64.wrap ((BitVec.ofInt IntKind.i64.bits (IntKind.i64.wrap ((BitVec.ofInt IntKind.i64.bits (y / 2 ^ Int.toNat 33) ^^^ BitVec.ofInt IntKind.i64.bits (y / 2 ^ Int.toNat 45)).toNat : Nat)) &&& BitVec.ofInt IntKind.i64.bits 255).toNat : Nat)
/-- The next byte. -/
def byD (l : List Int) (c : Cr) : Cr × Int :=
  if c.1 < l.length then ((c.1 + 1, hD c.2), IntKind.i64.wrap ((BitVec.ofInt IntKind.i64.bits (IntKind.i64.wrap (mixD (hD c.2) + IntKind.i64.wrap (l.getD c.1.toNat 0))) &&& BitVec.ofInt IntKind.i64.bits 255).toNat : Nat))
  else ((c.1, hD c.2), mixD (hD c.2))
theorem byD_ok {l : List Int} {c : Cr} (h : CrOk l c) : CrOk l (byD l c).1 ∧ 0 ≤ (byD l c).2 ∧ (byD l c).2 ≤ 255 := by
  have h1 := h.2.1
  have h2 := h.2.2
  unfold byD; split
  · exact ⟨⟨h.1, by show 0 ≤ c.1 + 1; omega, by show c.1 + 1 ≤ _; omega⟩, and255 _⟩
  · exact ⟨⟨h.1, h1, h2⟩, and255 _⟩
section
attribute [local irreducible] IntKind.wrap
instance l1Byte_p : ConP 208 (∀ (v : Value) (l : List Int) (c : Cr), CrOk l c → Pn 208 v l c [] (byD l c).1 [] (I (byD l c).2)) := ⟨fun v l c h => by
  have hl := h.1
  have hc1 := h.2.1
  have hc2 := h.2.2
  by_cases hlt : c.1 < l.length
  · rw [byD, if_pos hlt]
    refine FnP.of_body tabOk Try.func208 Try.ntmps208 rfl (by decide +kernel) (by simp) rfl rfl rfl fun G hp => ?_
    refine go (r := ?_); and_intros <;> intros <;> try exact True.intro
    refine WpL.pin (d := 32) hp rfl ?_
    refine go (r := ?_); and_intros <;> intros <;> try exact True.intro
    all_goals first | contradiction | omega | skip
    refine WpL.pin (d := 39) hp rfl ?_
    refine go (r := ?_); and_intros <;> intros <;> try exact True.intro
  · rw [byD, if_neg hlt]
    refine FnP.of_body tabOk Try.func208 Try.ntmps208 rfl (by decide +kernel) (by simp) rfl rfl rfl fun G hp => ?_
    refine go (r := ?_); and_intros <;> intros <;> try exact True.intro
    refine WpL.pin (d := 32) hp rfl ?_
    refine go (r := ?_); and_intros <;> intros <;> try exact True.intro
    all_goals first | contradiction | omega | skip⟩
end
def belowD (l : List Int) (c : Cr) (n : Int) : Cr × Int :=
  if n ≤ 0 then (c, 0) else if n ≤ 256 then ((byD l c).1, (byD l c).2 % n) else
    ((byD l (byD l (byD l (byD l c).1).1).1).1, ((byD l c).2 * 16777216 + (byD l (byD l c).1).2 * 65536 + (byD l (byD l (byD l c).1).1).2 * 256 + (byD l (byD l (byD l (byD l c).1).1).1).2) % n)
theorem belowD_ok {l : List Int} {c : Cr} (n : Int) (h : CrOk l c) : CrOk l (belowD l c n).1 ∧ 0 ≤ (belowD l c n).2 ∧ (0 < n → (belowD l c n).2 < n) ∧ (n ≤ 0 → (belowD l c n).2 = 0) := by
  have h1 := byD_ok h
  have h2 := byD_ok h1.1
  have h3 := byD_ok h2.1
  have h4 := byD_ok h3.1
  unfold belowD
  split
  · exact ⟨h, Int.le_refl 0, fun h => by omega, fun _ => rfl⟩
  · split
    · exact ⟨h1.1, Int.emod_nonneg _ (by omega), fun h => Int.emod_lt_of_pos _ h, fun h => by omega⟩
    · exact ⟨h4.1, Int.emod_nonneg _ (by omega), fun h => Int.emod_lt_of_pos _ h, fun h => by omega⟩
instance l1Below_p : ConP 112 (∀ (v : Value) (l : List Int) (c : Cr) (n : Int), CrOk l c → Pn 112 v l c [I n] (belowD l c n).1 [] (I (belowD l c n).2)) := ⟨fun v l c n h => by
  have h1 := byD_ok h
  have h2 := byD_ok h1.1
  have h3 := byD_ok h2.1
  have h4 := byD_ok h3.1
  unfold belowD
  by_cases h0 : n ≤ 0
  · rw [if_pos h0]
    refine FnP.of_body tabOk Try.func112 Try.ntmps112 rfl (by decide +kernel) (by simp) rfl rfl rfl fun G hp => ?_
    refine go (r := ?_); and_intros <;> intros <;> try exact True.intro
    all_goals trace_state
  · rw [if_neg h0]
    by_cases h256 : n ≤ 256
    · rw [if_pos h256]
      refine FnP.of_body tabOk Try.func112 Try.ntmps112 rfl (by decide +kernel) (by simp) rfl rfl rfl fun G hp => ?_
      refine go (r := ?_); and_intros <;> intros <;> try exact True.intro
      all_goals trace_state
    · rw [if_neg h256]
      refine FnP.of_body tabOk Try.func112 Try.ntmps112 rfl (by decide +kernel) (by simp) rfl rfl rfl fun G hp => ?_
      refine go (r := ?_); and_intros <;> intros <;> try exact True.intro
      all_goals trace_state⟩
end Go.Proofs.Ytgkeopmihhcbiaa

/- Names of abstract values and plain laws of lists. No condition. -/
namespace Go.Proofs.Ytgkeopmihhcbiaa
open Go Go.Abs
set_option linter.unusedVariables false
set_option linter.unusedSimpArgs false

/-! Lists, place by place. -/
def tk {α : Type} (f : α → Nat) (l : List α) (i : Nat) : Nat := ((l.take i).map f).sum
/-! Numbers and truth values. -/
abbrev IN (l : List Int) : AObj := ⟨ints l, 0, 1, none⟩
abbrev BN (l : List Bool) : AObj := ⟨bools l, 0, 1, none⟩
abbrev BO (l : List Bool) : AObj := ⟨bools l, 0, 1, some 4⟩
abbrev BL (xs : List Bool) : AV := .imm 1 xs.length (bools xs)
abbrev OpA (q : Int) (b d : Bool) (l m : List Int) (e : List Bool) : AV := .agg [I q, B b, B d, IL l, IL m, BL e]
abbrev HdA (w h q : Int) (b d : Bool) (l : List Int) : AV := .agg [I w, I h, I q, B b, B d, IL l]
abbrev StA (w h q : Int) (b d : Bool) (l : List Int) (M : List Mbk) : AV := .agg [I w, I h, I q, B b, B d, IL l, .imm 2 M.length (rows mbI M)]
abbrev BkL (l : List Blok) : AV := .imm 2 l.length (rows blkI l)
abbrev MbL (l : List Mbk) : AV := .imm 2 l.length (rows mbI l)
abbrev BkO (l : List Blok) : AObj := ⟨rows blkF l, 0, 2, some 85⟩
abbrev MbO (l : List Mbk) : AObj := ⟨rows mbF l, 0, 2, some 30⟩
abbrev BkN (l : List Blok) : AObj := ⟨rows blkF l, 0, 2, none⟩
abbrev MbN (l : List Mbk) : AObj := ⟨rows mbF l, 0, 2, none⟩

/-! How much they hold. -/
def bn (b : Blok) : Nat := b.2.length
def bw (l : List Blok) : Nat := l.length + (l.map bn).sum
def mn (m : Mbk) : Nat := bw m.2
def mw (l : List Mbk) : Nat := l.length + (l.map mn).sum
@[irreducible] def SmB (c : Nat) (l : List Blok) : Prop := ∀ b ∈ l, b.2.length ≤ c
@[irreducible] def SmM (c : Nat) (l : List Mbk) : Prop := ∀ m ∈ l, m.2.length ≤ c ∧ SmB c m.2
theorem smB_get {c : Nat} {l : List Blok} (h : SmB c l) {k : Nat} (hk : k < l.length) : (l.getD k default).2.length ≤ c := by
  unfold SmB at h; exact h _ (by simp [hk])
theorem smM_get {c : Nat} {l : List Mbk} (h : SmM c l) {k : Nat} (hk : k < l.length) : (l.getD k default).2.length ≤ c ∧ SmB c (l.getD k default).2 := by
  unfold SmM at h; exact h _ (by simp [hk])
theorem sum_mem {α : Type} (f : α → Nat) {l : List α} {a : α} (h : a ∈ l) : f a ≤ (l.map f).sum := by
  induction l with
  | nil => cases h
  | cons b l ih =>
    rw [List.map_cons, List.sum_cons]
    rcases List.mem_cons.1 h with rfl | h
    · omega
    · have := ih h; omega
theorem smB_of {c : Nat} {l : List Blok} (h : bw l ≤ c) : SmB c l := by
  unfold SmB bw at *
  intro b hb
  have : bn b ≤ _ := sum_mem bn hb
  unfold bn at this; unfold bn at h; omega
theorem smM_of {c : Nat} {l : List Mbk} (h : mw l ≤ c) : SmM c l := by
  unfold SmM mw at *
  intro m hm
  have h1 : mn m ≤ _ := sum_mem mn hm
  have h2 : bw m.2 ≤ c := by unfold mn at *; omega
  exact ⟨by unfold bw at h2; omega, smB_of h2⟩

theorem take_snoc {α : Type} [Inhabited α] (l : List α) (i : Nat) (h : i < l.length) : l.take (i + 1) = l.take i ++ [l.getD i default] := by
  rw [List.take_succ_eq_append_getElem h]; simp [h]
abbrev XI (l : List Int) : AObj := ⟨ints l, 0, 1, some 3⟩
end Go.Proofs.Ytgkeopmihhcbiaa
