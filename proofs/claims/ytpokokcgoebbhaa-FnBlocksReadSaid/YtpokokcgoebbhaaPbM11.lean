/- Proved in this text: lemmas and contracts of functions that the claim uses (parts: GoR, RdS, Fld, RdH, RdV, Sym, Stat, Pred, Sid). No condition. -/
import Derived.Test.YtpokokcgoebbhaaPbM9
import Derived.Test.YtpokokcgoebbhaaPbM10
import Derived.Test.YtpokokcgoebbhaaPbM7

/- The run of rules that stops at a region which draws its order. Written by a program of mine (mkgo.py). No condition. -/
namespace Go.Proofs.Ytpokokcgoebbhaa
open Go Go.Abs
set_option linter.unusedVariables false
set_option linter.unusedSimpArgs false
set_option maxRecDepth 100000
theorem goR {P R : Prop} (h : (Hold R → P) ∧ IsT R := by
  refine And.intro ?_ ?_
  · intro hold
    repeat' (first
    | (refine K.L ?_; first
      | (refine K.mv ?_; refine WpL.move rfl (by decide) ?_)
      | (refine K.asg ?_; refine WpL.assign rfl (by decide) ?_)
      | (refine K.bin ?_; first
        | refine WpL.add rfl rfl (by omega) (by decide) ?_
        | refine WpL.sub rfl rfl (by omega) (by decide) ?_
        | refine WpL.mul rfl rfl (by first | omega | exact mul_in (by omega) (by omega) | assumption) (by decide) ?_
        | refine WpL.quo rfl rfl (by omega) (by decide) ?_
        | refine WpL.rem rfl rfl (by omega) (by decide) ?_
        | refine WpL.bin rfl rfl rfl (by decide) ?_
        | refine WpL.boolEq (K.tyBool tabOk rfl) rfl rfl (by decide) ?_
        | refine WpL.boolNe (K.tyBool tabOk rfl) rfl rfl (by decide) ?_
        | refine WpL.nilEq (TabOk.slice tabOk rfl).1 rfl rfl (by decide) ?_
        | refine WpL.immEq (TabOk.slice tabOk rfl).1 rfl rfl (by decide) (fun hgo => ?_) ?_
        | refine WpL.ownEq (TabOk.slice tabOk rfl).1 rfl rfl rfl (by first | rfl | omega | (simp; done) | (simp; omega)) rfl (by decide) ?_
        | refine WpL.shl rfl rfl (by first | decide | (simp only [IntKind.bits]; omega)) (by decide) ?_
        | refine WpL.shr rfl rfl (by first | decide | (simp only [IntKind.bits]; omega)) (by decide) ?_)
      | (refine K.ld ?_; first
        | refine WpL.loadInts tabOk rfl rfl rfl (by first | omega | (simp; omega)) (by decide) ?_
        | refine WpL.loadU8s tabOk rfl rfl rfl (by first | omega | (simp; omega)) (by decide) ?_
        | refine WpL.loadRow tabOk rfl rfl (fun _ => rfl) (fun _ => rfl) (by first | rfl | omega | (simp; done) | (simp; omega)) (by decide) rfl ?_
        | refine WpL.loadField tabOk rfl rfl rfl (fun _ => rfl) rfl rfl (by first | rfl | omega | (simp; done) | (simp; omega)) (by decide) ?_
        | refine WpL.loadOwn tabOk rfl rfl rfl rfl (fun _ => rfl) rfl (by first | rfl | omega | (simp; done) | (simp; omega)) (by decide) rfl ?_
        | refine WpL.load1 tabOk rfl rfl rfl rfl rfl (by decide) ?_
        | refine WpL.loadAgg (ds := [_]) tabOk rfl rfl rfl rfl rfl (by decide) ?_
        | refine WpL.loadAgg (ds := [_, _]) tabOk rfl rfl rfl rfl rfl (by decide) ?_
        | refine WpL.loadAgg (ds := [_, _, _]) tabOk rfl rfl rfl rfl rfl (by decide) ?_
        | refine WpL.loadAgg (ds := [_, _, _, _]) tabOk rfl rfl rfl rfl rfl (by decide) ?_
        | refine WpL.loadAgg (ds := [_, _, _, _, _]) tabOk rfl rfl rfl rfl rfl (by decide) ?_
        | refine WpL.loadAgg (ds := [_, _, _, _, _, _]) tabOk rfl rfl rfl rfl rfl (by decide) ?_
        | refine WpL.loadAgg (ds := [_, _, _, _, _, _, _]) tabOk rfl rfl rfl rfl rfl (by decide) ?_
        | refine WpL.loadAgg (ds := [_, _, _, _, _, _, _, _]) tabOk rfl rfl rfl rfl rfl (by decide) ?_
        | refine WpL.loadLi tabOk rfl rfl rfl (by first | rfl | omega | (simp; done) | (simp; omega)) (by decide) ?_)
      | (refine K.fld ?_; first
        | refine WpL.fieldI tabOk rfl rfl rfl (by decide) ?_
        | refine WpL.fieldP tabOk rfl rfl rfl rfl rfl (by decide) ?_)
      | (refine K.ixa ?_; first
        | refine WpL.idxI1 tabOk rfl rfl rfl (by omega) (by decide) ?_
        | refine WpL.idxIJ tabOk rfl rfl rfl (by omega) (by decide) ?_
        | refine WpL.idxOJ tabOk rfl rfl rfl rfl rfl (by omega) (by decide) ?_
        | refine WpL.idxIN tabOk rfl rfl rfl (by omega) (by decide) ?_
        | refine WpL.idxON tabOk rfl rfl rfl rfl rfl (by omega) (by decide) ?_
        | refine WpL.idxI tabOk rfl rfl rfl (by omega) (by decide) ?_
        | refine WpL.idxO tabOk rfl rfl rfl rfl rfl (by omega) (by decide) ?_)
      | (refine K.call ?_; refine K.con (fun hcon => ?_); first
        | (refine WpL.callF (hcon ?_) snapA locA outA rfl rfl rfl (by decide) ?_ <;> clear hcon)
        | (refine WpL.callF (hcon) snapA locA outA rfl rfl rfl (by decide) ?_ <;> clear hcon)
        | (refine WpL.callF (hcon _ ?_) snapA locA outA rfl rfl rfl (by decide) ?_ <;> clear hcon)
        | (refine WpL.callF (hcon _) snapA locA outA rfl rfl rfl (by decide) ?_ <;> clear hcon)
        | (refine WpL.callF (hcon _ _ ?_) snapA locA outA rfl rfl rfl (by decide) ?_ <;> clear hcon)
        | (refine WpL.callF (hcon _ _) snapA locA outA rfl rfl rfl (by decide) ?_ <;> clear hcon)
        | (refine WpL.callF (hcon _ _ _ ?_) snapA locA outA rfl rfl rfl (by decide) ?_ <;> clear hcon)
        | (refine WpL.callF (hcon _ _ _) snapA locA outA rfl rfl rfl (by decide) ?_ <;> clear hcon)
        | (refine WpL.callF (hcon _ _ _ _ ?_) snapA locA outA rfl rfl rfl (by decide) ?_ <;> clear hcon)
        | (refine WpL.callF (hcon _ _ _ _) snapA locA outA rfl rfl rfl (by decide) ?_ <;> clear hcon)
        | (refine WpL.callF (hcon _ _ _ _ _ ?_) snapA locA outA rfl rfl rfl (by decide) ?_ <;> clear hcon)
        | (refine WpL.callF (hcon _ _ _ _ _) snapA locA outA rfl rfl rfl (by decide) ?_ <;> clear hcon)
        | (refine WpL.callF (hcon _ _ _ _ _ _ ?_) snapA locA outA rfl rfl rfl (by decide) ?_ <;> clear hcon)
        | (refine WpL.callF (hcon _ _ _ _ _ _) snapA locA outA rfl rfl rfl (by decide) ?_ <;> clear hcon)
        | (refine WpL.callF (hcon _ _ _ _ _ _ _ ?_) snapA locA outA rfl rfl rfl (by decide) ?_ <;> clear hcon)
        | (refine WpL.callF (hcon _ _ _ _ _ _ _) snapA locA outA rfl rfl rfl (by decide) ?_ <;> clear hcon)
        | (refine WpL.callF (hcon _ _ _ _ _ _ _ _ ?_) snapA locA outA rfl rfl rfl (by decide) ?_ <;> clear hcon)
        | (refine WpL.callF (hcon _ _ _ _ _ _ _ _) snapA locA outA rfl rfl rfl (by decide) ?_ <;> clear hcon)
        | (refine WpL.callF (hcon _ _ _ _ _ _ _ _ _ ?_) snapA locA outA rfl rfl rfl (by decide) ?_ <;> clear hcon)
        | (refine WpL.callF (hcon _ _ _ _ _ _ _ _ _) snapA locA outA rfl rfl rfl (by decide) ?_ <;> clear hcon)
        | (refine WpL.callF (hcon _ _ _ _ _ _ _ _ _ _ ?_) snapA locA outA rfl rfl rfl (by decide) ?_ <;> clear hcon)
        | (refine WpL.callF (hcon _ _ _ _ _ _ _ _ _ _) snapA locA outA rfl rfl rfl (by decide) ?_ <;> clear hcon)
        | (refine WpL.callF (hcon _ _ _ _ _ _ _ _ _ _ _ ?_) snapA locA outA rfl rfl rfl (by decide) ?_ <;> clear hcon)
        | (refine WpL.callF (hcon _ _ _ _ _ _ _ _ _ _ _) snapA locA outA rfl rfl rfl (by decide) ?_ <;> clear hcon)
        | (refine WpL.callF (hcon _ _ _ _ _ _ _ _ _ _ _ _ ?_) snapA locA outA rfl rfl rfl (by decide) ?_ <;> clear hcon)
        | (refine WpL.callF (hcon _ _ _ _ _ _ _ _ _ _ _ _) snapA locA outA rfl rfl rfl (by decide) ?_ <;> clear hcon)
        | (refine WpL.callF (hcon _ _ _ _ _ _ _ _ _ _ _ _ _ ?_) snapA locA outA rfl rfl rfl (by decide) ?_ <;> clear hcon)
        | (refine WpL.callF (hcon _ _ _ _ _ _ _ _ _ _ _ _ _) snapA locA outA rfl rfl rfl (by decide) ?_ <;> clear hcon)
        | (refine WpL.callF (hcon _ _ _ _ _ _ _ _ _ _ _ _ _ _ ?_) snapA locA outA rfl rfl rfl (by decide) ?_ <;> clear hcon)
        | (refine WpL.callF (hcon _ _ _ _ _ _ _ _ _ _ _ _ _ _) snapA locA outA rfl rfl rfl (by decide) ?_ <;> clear hcon)
        | (refine WpL.callF (hcon _ _ _ _ _ _ _ _ _ _ _ _ _ _ _ ?_) snapA locA outA rfl rfl rfl (by decide) ?_ <;> clear hcon)
        | (refine WpL.callF (hcon _ _ _ _ _ _ _ _ _ _ _ _ _ _ _) snapA locA outA rfl rfl rfl (by decide) ?_ <;> clear hcon)
        | (refine WpL.callF (hcon _ _ _ _ _ _ _ _ _ _ _ _ _ _ _ _ ?_) snapA locA outA rfl rfl rfl (by decide) ?_ <;> clear hcon)
        | (refine WpL.callF (hcon _ _ _ _ _ _ _ _ _ _ _ _ _ _ _ _) snapA locA outA rfl rfl rfl (by decide) ?_ <;> clear hcon)
        | (refine WpL.callF (hcon _ _ _ _ _ _ _ _ _ _ _ _ _ _ _ _ _ ?_) snapA locA outA rfl rfl rfl (by decide) ?_ <;> clear hcon)
        | (refine WpL.callF (hcon _ _ _ _ _ _ _ _ _ _ _ _ _ _ _ _ _) snapA locA outA rfl rfl rfl (by decide) ?_ <;> clear hcon)
        | (refine WpL.callF (hcon _ _ _ _ _ _ _ _ _ _ _ _ _ _ _ _ _ _ ?_) snapA locA outA rfl rfl rfl (by decide) ?_ <;> clear hcon)
        | (refine WpL.callF (hcon _ _ _ _ _ _ _ _ _ _ _ _ _ _ _ _ _ _) snapA locA outA rfl rfl rfl (by decide) ?_ <;> clear hcon))
      | (refine K.call ?_; refine K.conG (fun hcon => ?_); first
        | (refine WpL.callM (hs := [_]) (hcon ?_) handA handOA rfl rfl outA outA rfl rfl rfl rfl (by decide) ?_ <;> clear hcon)
        | (refine WpL.callM (hs := [_]) (hcon) handA handOA rfl rfl outA outA rfl rfl rfl rfl (by decide) ?_ <;> clear hcon)
        | (refine WpL.callM (hs := [_]) (hcon _ ?_) handA handOA rfl rfl outA outA rfl rfl rfl rfl (by decide) ?_ <;> clear hcon)
        | (refine WpL.callM (hs := [_]) (hcon _) handA handOA rfl rfl outA outA rfl rfl rfl rfl (by decide) ?_ <;> clear hcon)
        | (refine WpL.callM (hs := [_]) (hcon _ _ ?_) handA handOA rfl rfl outA outA rfl rfl rfl rfl (by decide) ?_ <;> clear hcon)
        | (refine WpL.callM (hs := [_]) (hcon _ _) handA handOA rfl rfl outA outA rfl rfl rfl rfl (by decide) ?_ <;> clear hcon)
        | (refine WpL.callM (hs := [_]) (hcon _ _ _ ?_) handA handOA rfl rfl outA outA rfl rfl rfl rfl (by decide) ?_ <;> clear hcon)
        | (refine WpL.callM (hs := [_]) (hcon _ _ _) handA handOA rfl rfl outA outA rfl rfl rfl rfl (by decide) ?_ <;> clear hcon)
        | (refine WpL.callM (hs := [_]) (hcon _ _ _ _ ?_) handA handOA rfl rfl outA outA rfl rfl rfl rfl (by decide) ?_ <;> clear hcon)
        | (refine WpL.callM (hs := [_]) (hcon _ _ _ _) handA handOA rfl rfl outA outA rfl rfl rfl rfl (by decide) ?_ <;> clear hcon)
        | (refine WpL.callM (hs := [_]) (hcon _ _ _ _ _ ?_) handA handOA rfl rfl outA outA rfl rfl rfl rfl (by decide) ?_ <;> clear hcon)
        | (refine WpL.callM (hs := [_]) (hcon _ _ _ _ _) handA handOA rfl rfl outA outA rfl rfl rfl rfl (by decide) ?_ <;> clear hcon)
        | (refine WpL.callM (hs := [_]) (hcon _ _ _ _ _ _ ?_) handA handOA rfl rfl outA outA rfl rfl rfl rfl (by decide) ?_ <;> clear hcon)
        | (refine WpL.callM (hs := [_]) (hcon _ _ _ _ _ _) handA handOA rfl rfl outA outA rfl rfl rfl rfl (by decide) ?_ <;> clear hcon)
        | (refine WpL.callM (hs := [_]) (hcon _ _ _ _ _ _ _ ?_) handA handOA rfl rfl outA outA rfl rfl rfl rfl (by decide) ?_ <;> clear hcon)
        | (refine WpL.callM (hs := [_]) (hcon _ _ _ _ _ _ _) handA handOA rfl rfl outA outA rfl rfl rfl rfl (by decide) ?_ <;> clear hcon)
        | (refine WpL.callM (hs := [_]) (hcon _ _ _ _ _ _ _ _ ?_) handA handOA rfl rfl outA outA rfl rfl rfl rfl (by decide) ?_ <;> clear hcon)
        | (refine WpL.callM (hs := [_]) (hcon _ _ _ _ _ _ _ _) handA handOA rfl rfl outA outA rfl rfl rfl rfl (by decide) ?_ <;> clear hcon)
        | (refine WpL.callM (hs := [_, _]) (hcon ?_) handA handOA rfl rfl outA outA rfl rfl rfl rfl (by decide) ?_ <;> clear hcon)
        | (refine WpL.callM (hs := [_, _]) (hcon) handA handOA rfl rfl outA outA rfl rfl rfl rfl (by decide) ?_ <;> clear hcon)
        | (refine WpL.callM (hs := [_, _]) (hcon _ ?_) handA handOA rfl rfl outA outA rfl rfl rfl rfl (by decide) ?_ <;> clear hcon)
        | (refine WpL.callM (hs := [_, _]) (hcon _) handA handOA rfl rfl outA outA rfl rfl rfl rfl (by decide) ?_ <;> clear hcon)
        | (refine WpL.callM (hs := [_, _]) (hcon _ _ ?_) handA handOA rfl rfl outA outA rfl rfl rfl rfl (by decide) ?_ <;> clear hcon)
        | (refine WpL.callM (hs := [_, _]) (hcon _ _) handA handOA rfl rfl outA outA rfl rfl rfl rfl (by decide) ?_ <;> clear hcon)
        | (refine WpL.callM (hs := [_, _]) (hcon _ _ _ ?_) handA handOA rfl rfl outA outA rfl rfl rfl rfl (by decide) ?_ <;> clear hcon)
        | (refine WpL.callM (hs := [_, _]) (hcon _ _ _) handA handOA rfl rfl outA outA rfl rfl rfl rfl (by decide) ?_ <;> clear hcon)
        | (refine WpL.callM (hs := [_, _]) (hcon _ _ _ _ ?_) handA handOA rfl rfl outA outA rfl rfl rfl rfl (by decide) ?_ <;> clear hcon)
        | (refine WpL.callM (hs := [_, _]) (hcon _ _ _ _) handA handOA rfl rfl outA outA rfl rfl rfl rfl (by decide) ?_ <;> clear hcon)
        | (refine WpL.callM (hs := [_, _]) (hcon _ _ _ _ _ ?_) handA handOA rfl rfl outA outA rfl rfl rfl rfl (by decide) ?_ <;> clear hcon)
        | (refine WpL.callM (hs := [_, _]) (hcon _ _ _ _ _) handA handOA rfl rfl outA outA rfl rfl rfl rfl (by decide) ?_ <;> clear hcon)
        | (refine WpL.callM (hs := [_, _]) (hcon _ _ _ _ _ _ ?_) handA handOA rfl rfl outA outA rfl rfl rfl rfl (by decide) ?_ <;> clear hcon)
        | (refine WpL.callM (hs := [_, _]) (hcon _ _ _ _ _ _) handA handOA rfl rfl outA outA rfl rfl rfl rfl (by decide) ?_ <;> clear hcon)
        | (refine WpL.callM (hs := [_, _]) (hcon _ _ _ _ _ _ _ ?_) handA handOA rfl rfl outA outA rfl rfl rfl rfl (by decide) ?_ <;> clear hcon)
        | (refine WpL.callM (hs := [_, _]) (hcon _ _ _ _ _ _ _) handA handOA rfl rfl outA outA rfl rfl rfl rfl (by decide) ?_ <;> clear hcon)
        | (refine WpL.callM (hs := [_, _]) (hcon _ _ _ _ _ _ _ _ ?_) handA handOA rfl rfl outA outA rfl rfl rfl rfl (by decide) ?_ <;> clear hcon)
        | (refine WpL.callM (hs := [_, _]) (hcon _ _ _ _ _ _ _ _) handA handOA rfl rfl outA outA rfl rfl rfl rfl (by decide) ?_ <;> clear hcon)
        | (refine WpL.callM (hs := [_, _, _]) (hcon ?_) handA handOA rfl rfl outA outA rfl rfl rfl rfl (by decide) ?_ <;> clear hcon)
        | (refine WpL.callM (hs := [_, _, _]) (hcon) handA handOA rfl rfl outA outA rfl rfl rfl rfl (by decide) ?_ <;> clear hcon)
        | (refine WpL.callM (hs := [_, _, _]) (hcon _ ?_) handA handOA rfl rfl outA outA rfl rfl rfl rfl (by decide) ?_ <;> clear hcon)
        | (refine WpL.callM (hs := [_, _, _]) (hcon _) handA handOA rfl rfl outA outA rfl rfl rfl rfl (by decide) ?_ <;> clear hcon)
        | (refine WpL.callM (hs := [_, _, _]) (hcon _ _ ?_) handA handOA rfl rfl outA outA rfl rfl rfl rfl (by decide) ?_ <;> clear hcon)
        | (refine WpL.callM (hs := [_, _, _]) (hcon _ _) handA handOA rfl rfl outA outA rfl rfl rfl rfl (by decide) ?_ <;> clear hcon)
        | (refine WpL.callM (hs := [_, _, _]) (hcon _ _ _ ?_) handA handOA rfl rfl outA outA rfl rfl rfl rfl (by decide) ?_ <;> clear hcon)
        | (refine WpL.callM (hs := [_, _, _]) (hcon _ _ _) handA handOA rfl rfl outA outA rfl rfl rfl rfl (by decide) ?_ <;> clear hcon)
        | (refine WpL.callM (hs := [_, _, _]) (hcon _ _ _ _ ?_) handA handOA rfl rfl outA outA rfl rfl rfl rfl (by decide) ?_ <;> clear hcon)
        | (refine WpL.callM (hs := [_, _, _]) (hcon _ _ _ _) handA handOA rfl rfl outA outA rfl rfl rfl rfl (by decide) ?_ <;> clear hcon)
        | (refine WpL.callM (hs := [_, _, _]) (hcon _ _ _ _ _ ?_) handA handOA rfl rfl outA outA rfl rfl rfl rfl (by decide) ?_ <;> clear hcon)
        | (refine WpL.callM (hs := [_, _, _]) (hcon _ _ _ _ _) handA handOA rfl rfl outA outA rfl rfl rfl rfl (by decide) ?_ <;> clear hcon)
        | (refine WpL.callM (hs := [_, _, _]) (hcon _ _ _ _ _ _ ?_) handA handOA rfl rfl outA outA rfl rfl rfl rfl (by decide) ?_ <;> clear hcon)
        | (refine WpL.callM (hs := [_, _, _]) (hcon _ _ _ _ _ _) handA handOA rfl rfl outA outA rfl rfl rfl rfl (by decide) ?_ <;> clear hcon)
        | (refine WpL.callM (hs := [_, _, _]) (hcon _ _ _ _ _ _ _ ?_) handA handOA rfl rfl outA outA rfl rfl rfl rfl (by decide) ?_ <;> clear hcon)
        | (refine WpL.callM (hs := [_, _, _]) (hcon _ _ _ _ _ _ _) handA handOA rfl rfl outA outA rfl rfl rfl rfl (by decide) ?_ <;> clear hcon)
        | (refine WpL.callM (hs := [_, _, _]) (hcon _ _ _ _ _ _ _ _ ?_) handA handOA rfl rfl outA outA rfl rfl rfl rfl (by decide) ?_ <;> clear hcon)
        | (refine WpL.callM (hs := [_, _, _]) (hcon _ _ _ _ _ _ _ _) handA handOA rfl rfl outA outA rfl rfl rfl rfl (by decide) ?_ <;> clear hcon)
        | (refine WpL.callM (hs := [_, _, _, _]) (hcon ?_) handA handOA rfl rfl outA outA rfl rfl rfl rfl (by decide) ?_ <;> clear hcon)
        | (refine WpL.callM (hs := [_, _, _, _]) (hcon) handA handOA rfl rfl outA outA rfl rfl rfl rfl (by decide) ?_ <;> clear hcon)
        | (refine WpL.callM (hs := [_, _, _, _]) (hcon _ ?_) handA handOA rfl rfl outA outA rfl rfl rfl rfl (by decide) ?_ <;> clear hcon)
        | (refine WpL.callM (hs := [_, _, _, _]) (hcon _) handA handOA rfl rfl outA outA rfl rfl rfl rfl (by decide) ?_ <;> clear hcon)
        | (refine WpL.callM (hs := [_, _, _, _]) (hcon _ _ ?_) handA handOA rfl rfl outA outA rfl rfl rfl rfl (by decide) ?_ <;> clear hcon)
        | (refine WpL.callM (hs := [_, _, _, _]) (hcon _ _) handA handOA rfl rfl outA outA rfl rfl rfl rfl (by decide) ?_ <;> clear hcon)
        | (refine WpL.callM (hs := [_, _, _, _]) (hcon _ _ _ ?_) handA handOA rfl rfl outA outA rfl rfl rfl rfl (by decide) ?_ <;> clear hcon)
        | (refine WpL.callM (hs := [_, _, _, _]) (hcon _ _ _) handA handOA rfl rfl outA outA rfl rfl rfl rfl (by decide) ?_ <;> clear hcon)
        | (refine WpL.callM (hs := [_, _, _, _]) (hcon _ _ _ _ ?_) handA handOA rfl rfl outA outA rfl rfl rfl rfl (by decide) ?_ <;> clear hcon)
        | (refine WpL.callM (hs := [_, _, _, _]) (hcon _ _ _ _) handA handOA rfl rfl outA outA rfl rfl rfl rfl (by decide) ?_ <;> clear hcon)
        | (refine WpL.callM (hs := [_, _, _, _]) (hcon _ _ _ _ _ ?_) handA handOA rfl rfl outA outA rfl rfl rfl rfl (by decide) ?_ <;> clear hcon)
        | (refine WpL.callM (hs := [_, _, _, _]) (hcon _ _ _ _ _) handA handOA rfl rfl outA outA rfl rfl rfl rfl (by decide) ?_ <;> clear hcon)
        | (refine WpL.callM (hs := [_, _, _, _]) (hcon _ _ _ _ _ _ ?_) handA handOA rfl rfl outA outA rfl rfl rfl rfl (by decide) ?_ <;> clear hcon)
        | (refine WpL.callM (hs := [_, _, _, _]) (hcon _ _ _ _ _ _) handA handOA rfl rfl outA outA rfl rfl rfl rfl (by decide) ?_ <;> clear hcon)
        | (refine WpL.callM (hs := [_, _, _, _]) (hcon _ _ _ _ _ _ _ ?_) handA handOA rfl rfl outA outA rfl rfl rfl rfl (by decide) ?_ <;> clear hcon)
        | (refine WpL.callM (hs := [_, _, _, _]) (hcon _ _ _ _ _ _ _) handA handOA rfl rfl outA outA rfl rfl rfl rfl (by decide) ?_ <;> clear hcon)
        | (refine WpL.callM (hs := [_, _, _, _]) (hcon _ _ _ _ _ _ _ _ ?_) handA handOA rfl rfl outA outA rfl rfl rfl rfl (by decide) ?_ <;> clear hcon)
        | (refine WpL.callM (hs := [_, _, _, _]) (hcon _ _ _ _ _ _ _ _) handA handOA rfl rfl outA outA rfl rfl rfl rfl (by decide) ?_ <;> clear hcon))
      | (refine K.call ?_; refine K.conB (fun hcon => ?_); first
        | (refine WpL.callB (hcon ?_) snapA locA outA locA outA rfl rfl rfl rfl rfl (by decide) ?_ ?_ <;> clear hcon)
        | (refine WpL.callB (hcon) snapA locA outA locA outA rfl rfl rfl rfl rfl (by decide) ?_ ?_ <;> clear hcon)
        | (refine WpL.callB (hcon _ ?_) snapA locA outA locA outA rfl rfl rfl rfl rfl (by decide) ?_ ?_ <;> clear hcon)
        | (refine WpL.callB (hcon _) snapA locA outA locA outA rfl rfl rfl rfl rfl (by decide) ?_ ?_ <;> clear hcon)
        | (refine WpL.callB (hcon _ _ ?_) snapA locA outA locA outA rfl rfl rfl rfl rfl (by decide) ?_ ?_ <;> clear hcon)
        | (refine WpL.callB (hcon _ _) snapA locA outA locA outA rfl rfl rfl rfl rfl (by decide) ?_ ?_ <;> clear hcon)
        | (refine WpL.callB (hcon _ _ _ ?_) snapA locA outA locA outA rfl rfl rfl rfl rfl (by decide) ?_ ?_ <;> clear hcon)
        | (refine WpL.callB (hcon _ _ _) snapA locA outA locA outA rfl rfl rfl rfl rfl (by decide) ?_ ?_ <;> clear hcon)
        | (refine WpL.callB (hcon _ _ _ _ ?_) snapA locA outA locA outA rfl rfl rfl rfl rfl (by decide) ?_ ?_ <;> clear hcon)
        | (refine WpL.callB (hcon _ _ _ _) snapA locA outA locA outA rfl rfl rfl rfl rfl (by decide) ?_ ?_ <;> clear hcon)
        | (refine WpL.callB (hcon _ _ _ _ _ ?_) snapA locA outA locA outA rfl rfl rfl rfl rfl (by decide) ?_ ?_ <;> clear hcon)
        | (refine WpL.callB (hcon _ _ _ _ _) snapA locA outA locA outA rfl rfl rfl rfl rfl (by decide) ?_ ?_ <;> clear hcon)
        | (refine WpL.callB (hcon _ _ _ _ _ _ ?_) snapA locA outA locA outA rfl rfl rfl rfl rfl (by decide) ?_ ?_ <;> clear hcon)
        | (refine WpL.callB (hcon _ _ _ _ _ _) snapA locA outA locA outA rfl rfl rfl rfl rfl (by decide) ?_ ?_ <;> clear hcon)
        | (refine WpL.callB (hcon _ _ _ _ _ _ _ ?_) snapA locA outA locA outA rfl rfl rfl rfl rfl (by decide) ?_ ?_ <;> clear hcon)
        | (refine WpL.callB (hcon _ _ _ _ _ _ _) snapA locA outA locA outA rfl rfl rfl rfl rfl (by decide) ?_ ?_ <;> clear hcon)
        | (refine WpL.callB (hcon _ _ _ _ _ _ _ _ ?_) snapA locA outA locA outA rfl rfl rfl rfl rfl (by decide) ?_ ?_ <;> clear hcon)
        | (refine WpL.callB (hcon _ _ _ _ _ _ _ _) snapA locA outA locA outA rfl rfl rfl rfl rfl (by decide) ?_ ?_ <;> clear hcon))
      | (refine K.call ?_; refine K.conP (fun hcon => ?_); first
        | (refine WpL.callP (hs := [_]) (hcon ?_) (by assumption) handA handOA rfl rfl (.cons rfl (.sc (.sc (.sc .nil))) .nil) outA rfl rfl rfl rfl (by decide) ?_ <;> clear hcon)
        | (refine WpL.callP (hs := [_]) (hcon) (by assumption) handA handOA rfl rfl (.cons rfl (.sc (.sc (.sc .nil))) .nil) outA rfl rfl rfl rfl (by decide) ?_ <;> clear hcon)
        | (refine WpL.callP (hs := [_]) (hcon _ ?_) (by assumption) handA handOA rfl rfl (.cons rfl (.sc (.sc (.sc .nil))) .nil) outA rfl rfl rfl rfl (by decide) ?_ <;> clear hcon)
        | (refine WpL.callP (hs := [_]) (hcon _) (by assumption) handA handOA rfl rfl (.cons rfl (.sc (.sc (.sc .nil))) .nil) outA rfl rfl rfl rfl (by decide) ?_ <;> clear hcon)
        | (refine WpL.callP (hs := [_]) (hcon _ _ ?_) (by assumption) handA handOA rfl rfl (.cons rfl (.sc (.sc (.sc .nil))) .nil) outA rfl rfl rfl rfl (by decide) ?_ <;> clear hcon)
        | (refine WpL.callP (hs := [_]) (hcon _ _) (by assumption) handA handOA rfl rfl (.cons rfl (.sc (.sc (.sc .nil))) .nil) outA rfl rfl rfl rfl (by decide) ?_ <;> clear hcon)
        | (refine WpL.callP (hs := [_]) (hcon _ _ _ ?_) (by assumption) handA handOA rfl rfl (.cons rfl (.sc (.sc (.sc .nil))) .nil) outA rfl rfl rfl rfl (by decide) ?_ <;> clear hcon)
        | (refine WpL.callP (hs := [_]) (hcon _ _ _) (by assumption) handA handOA rfl rfl (.cons rfl (.sc (.sc (.sc .nil))) .nil) outA rfl rfl rfl rfl (by decide) ?_ <;> clear hcon)
        | (refine WpL.callP (hs := [_]) (hcon _ _ _ _ ?_) (by assumption) handA handOA rfl rfl (.cons rfl (.sc (.sc (.sc .nil))) .nil) outA rfl rfl rfl rfl (by decide) ?_ <;> clear hcon)
        | (refine WpL.callP (hs := [_]) (hcon _ _ _ _) (by assumption) handA handOA rfl rfl (.cons rfl (.sc (.sc (.sc .nil))) .nil) outA rfl rfl rfl rfl (by decide) ?_ <;> clear hcon)
        | (refine WpL.callP (hs := [_]) (hcon _ _ _ _ _ ?_) (by assumption) handA handOA rfl rfl (.cons rfl (.sc (.sc (.sc .nil))) .nil) outA rfl rfl rfl rfl (by decide) ?_ <;> clear hcon)
        | (refine WpL.callP (hs := [_]) (hcon _ _ _ _ _) (by assumption) handA handOA rfl rfl (.cons rfl (.sc (.sc (.sc .nil))) .nil) outA rfl rfl rfl rfl (by decide) ?_ <;> clear hcon)
        | (refine WpL.callP (hs := [_]) (hcon _ _ _ _ _ _ ?_) (by assumption) handA handOA rfl rfl (.cons rfl (.sc (.sc (.sc .nil))) .nil) outA rfl rfl rfl rfl (by decide) ?_ <;> clear hcon)
        | (refine WpL.callP (hs := [_]) (hcon _ _ _ _ _ _) (by assumption) handA handOA rfl rfl (.cons rfl (.sc (.sc (.sc .nil))) .nil) outA rfl rfl rfl rfl (by decide) ?_ <;> clear hcon)
        | (refine WpL.callP (hs := [_]) (hcon _ _ _ _ _ _ _ ?_) (by assumption) handA handOA rfl rfl (.cons rfl (.sc (.sc (.sc .nil))) .nil) outA rfl rfl rfl rfl (by decide) ?_ <;> clear hcon)
        | (refine WpL.callP (hs := [_]) (hcon _ _ _ _ _ _ _) (by assumption) handA handOA rfl rfl (.cons rfl (.sc (.sc (.sc .nil))) .nil) outA rfl rfl rfl rfl (by decide) ?_ <;> clear hcon)
        | (refine WpL.callP (hs := [_]) (hcon _ _ _ _ _ _ _ _ ?_) (by assumption) handA handOA rfl rfl (.cons rfl (.sc (.sc (.sc .nil))) .nil) outA rfl rfl rfl rfl (by decide) ?_ <;> clear hcon)
        | (refine WpL.callP (hs := [_]) (hcon _ _ _ _ _ _ _ _) (by assumption) handA handOA rfl rfl (.cons rfl (.sc (.sc (.sc .nil))) .nil) outA rfl rfl rfl rfl (by decide) ?_ <;> clear hcon)
        | (refine WpL.callP (hs := [_]) (hcon _ _ _ _ _ _ _ _ _ ?_) (by assumption) handA handOA rfl rfl (.cons rfl (.sc (.sc (.sc .nil))) .nil) outA rfl rfl rfl rfl (by decide) ?_ <;> clear hcon)
        | (refine WpL.callP (hs := [_]) (hcon _ _ _ _ _ _ _ _ _) (by assumption) handA handOA rfl rfl (.cons rfl (.sc (.sc (.sc .nil))) .nil) outA rfl rfl rfl rfl (by decide) ?_ <;> clear hcon)
        | (refine WpL.callP (hs := [_]) (hcon _ _ _ _ _ _ _ _ _ _ ?_) (by assumption) handA handOA rfl rfl (.cons rfl (.sc (.sc (.sc .nil))) .nil) outA rfl rfl rfl rfl (by decide) ?_ <;> clear hcon)
        | (refine WpL.callP (hs := [_]) (hcon _ _ _ _ _ _ _ _ _ _) (by assumption) handA handOA rfl rfl (.cons rfl (.sc (.sc (.sc .nil))) .nil) outA rfl rfl rfl rfl (by decide) ?_ <;> clear hcon))
      | (refine K.callT ?_; refine K.conV rfl (fun hcon => ?_); first
        | (refine WpL.callVF rfl (hcon ?_) rfl snapA locA outA rfl rfl rfl (by decide) ?_ <;> clear hcon)
        | (refine WpL.callVF rfl (hcon) rfl snapA locA outA rfl rfl rfl (by decide) ?_ <;> clear hcon)
        | (refine WpL.callVF rfl (hcon _ ?_) rfl snapA locA outA rfl rfl rfl (by decide) ?_ <;> clear hcon)
        | (refine WpL.callVF rfl (hcon _) rfl snapA locA outA rfl rfl rfl (by decide) ?_ <;> clear hcon)
        | (refine WpL.callVF rfl (hcon _ _ ?_) rfl snapA locA outA rfl rfl rfl (by decide) ?_ <;> clear hcon)
        | (refine WpL.callVF rfl (hcon _ _) rfl snapA locA outA rfl rfl rfl (by decide) ?_ <;> clear hcon)
        | (refine WpL.callVF rfl (hcon _ _ _ ?_) rfl snapA locA outA rfl rfl rfl (by decide) ?_ <;> clear hcon)
        | (refine WpL.callVF rfl (hcon _ _ _) rfl snapA locA outA rfl rfl rfl (by decide) ?_ <;> clear hcon)
        | (refine WpL.callVF rfl (hcon _ _ _ _ ?_) rfl snapA locA outA rfl rfl rfl (by decide) ?_ <;> clear hcon)
        | (refine WpL.callVF rfl (hcon _ _ _ _) rfl snapA locA outA rfl rfl rfl (by decide) ?_ <;> clear hcon)
        | (refine WpL.callVF rfl (hcon _ _ _ _ _ ?_) rfl snapA locA outA rfl rfl rfl (by decide) ?_ <;> clear hcon)
        | (refine WpL.callVF rfl (hcon _ _ _ _ _) rfl snapA locA outA rfl rfl rfl (by decide) ?_ <;> clear hcon)
        | (refine WpL.callVF rfl (hcon _ _ _ _ _ _ ?_) rfl snapA locA outA rfl rfl rfl (by decide) ?_ <;> clear hcon)
        | (refine WpL.callVF rfl (hcon _ _ _ _ _ _) rfl snapA locA outA rfl rfl rfl (by decide) ?_ <;> clear hcon)
        | (refine WpL.callVF rfl (hcon _ _ _ _ _ _ _ ?_) rfl snapA locA outA rfl rfl rfl (by decide) ?_ <;> clear hcon)
        | (refine WpL.callVF rfl (hcon _ _ _ _ _ _ _) rfl snapA locA outA rfl rfl rfl (by decide) ?_ <;> clear hcon)
        | (refine WpL.callVF rfl (hcon _ _ _ _ _ _ _ _ ?_) rfl snapA locA outA rfl rfl rfl (by decide) ?_ <;> clear hcon)
        | (refine WpL.callVF rfl (hcon _ _ _ _ _ _ _ _) rfl snapA locA outA rfl rfl rfl (by decide) ?_ <;> clear hcon)
        | (refine WpL.callVF rfl (hcon _ _ _ _ _ _ _ _ _ ?_) rfl snapA locA outA rfl rfl rfl (by decide) ?_ <;> clear hcon)
        | (refine WpL.callVF rfl (hcon _ _ _ _ _ _ _ _ _) rfl snapA locA outA rfl rfl rfl (by decide) ?_ <;> clear hcon)
        | (refine WpL.callVF rfl (hcon _ _ _ _ _ _ _ _ _ _ ?_) rfl snapA locA outA rfl rfl rfl (by decide) ?_ <;> clear hcon)
        | (refine WpL.callVF rfl (hcon _ _ _ _ _ _ _ _ _ _) rfl snapA locA outA rfl rfl rfl (by decide) ?_ <;> clear hcon)
        | (refine WpL.callVF rfl (hcon _ _ _ _ _ _ _ _ _ _ _ ?_) rfl snapA locA outA rfl rfl rfl (by decide) ?_ <;> clear hcon)
        | (refine WpL.callVF rfl (hcon _ _ _ _ _ _ _ _ _ _ _) rfl snapA locA outA rfl rfl rfl (by decide) ?_ <;> clear hcon)
        | (refine WpL.callVF rfl (hcon _ _ _ _ _ _ _ _ _ _ _ _ ?_) rfl snapA locA outA rfl rfl rfl (by decide) ?_ <;> clear hcon)
        | (refine WpL.callVF rfl (hcon _ _ _ _ _ _ _ _ _ _ _ _) rfl snapA locA outA rfl rfl rfl (by decide) ?_ <;> clear hcon))
      | (refine K.mkF ?_; refine WpL.makeFunc rfl (by decide) ?_)
      | (refine K.ix ?_; first
        | refine WpL.idxStrB tabOk rfl rfl rfl (by omega) (by decide) (fun hgo => ?_))
      | (refine K.bi ?_; first
        | (refine K.blen ?_; first
          | refine WpL.lenImm (TabOk.slice tabOk rfl).1 rfl (by decide) ?_
          | refine WpL.lenOwn (TabOk.slice tabOk rfl).1 rfl rfl rfl (by decide) ?_
          | refine WpL.lenNil (TabOk.slice tabOk rfl).1 rfl (by decide) ?_
          | refine WpL.lenStr (K.tyStr tabOk rfl) rfl (by decide) ?_)
        | (refine K.bapp ?_; first
          | refine WpL.app1Ints tabOk rfl rfl rfl (by first | exact Nat.zero_le _ | exact Nat.le_of_ble_eq_true rfl) rfl rfl (by first | rfl | omega | (simp; done) | (simp; omega)) (by omega) (by decide) ?_
          | refine WpL.appInts tabOk rfl rfl rfl (by first | exact Nat.zero_le _ | exact Nat.le_of_ble_eq_true rfl) rfl rfl (by first | rfl | omega | (simp; done) | (simp; omega)) (by first | rfl | omega | (simp; done) | (simp; omega)) (by omega) (by decide) ?_
          | refine WpL.appRow (f := prF) (v := (_, _)) tabOk rfl rfl rfl (by first | exact Nat.zero_le _ | exact Nat.le_of_ble_eq_true rfl) rfl rfl (fun _ => rfl) rfl rfl (by first | rfl | omega | (simp; done) | (simp; omega)) (by omega) (by decide) ?_
          | refine WpL.appRow (f := plF) (v := (_, _, _)) tabOk rfl rfl rfl (by first | exact Nat.zero_le _ | exact Nat.le_of_ble_eq_true rfl) rfl rfl (fun _ => rfl) rfl rfl (by first | rfl | omega | (simp; done) | (simp; omega)) (by omega) (by decide) ?_
          | refine WpL.appBlk tabOk rfl rfl rfl (by first | exact Nat.zero_le _ | exact Nat.le_of_ble_eq_true rfl) rfl rfl rfl rfl rfl (by first | exact Nat.zero_le _ | exact Nat.le_of_ble_eq_true rfl) (by first | rfl | omega | (simp; done) | (simp; omega)) (by first | rfl | omega | (simp; done) | (simp; omega)) (by omega) (by decide) ?_
          | refine WpL.appOwn tabOk rfl rfl rfl rfl rfl rfl (by simp) (by first | exact Nat.zero_le _ | exact Nat.le_of_ble_eq_true rfl) rfl rfl (by simp) (by simp [all_ints, all_u8s, all_strs, oneB, Value.oneCell']) (by omega) (by decide) ?_)
        | refine WpL.min2 rfl rfl (by decide) ?_
        | refine WpL.max2 rfl rfl (by decide) ?_)
      | (refine K.un ?_; first
        | refine WpL.not rfl (by decide) ?_
        | refine WpL.neg rfl (by omega) (by decide) ?_)
      | (refine K.pick ?_; first
        | refine WpL.pickT rfl rfl (by decide) ?_
        | refine WpL.pickF rfl rfl (by decide) ?_)
      | (refine K.bld ?_; refine WpL.build tabOk rfl rfl (by kernel_rfl) (by decide) ?_)
      | (refine K.ext ?_; refine WpL.extract rfl rfl (by first | decide | simp [AV.shL]) (by decide) ?_)
      | (refine K.cv ?_; first
        | refine WpL.convI (P := Try.prog) (by rfl) (K.tyInt tabOk rfl) rfl (by omega) (by decide) ?_
        | refine WpL.conv (P := Try.prog) (by rfl) (K.tyInt tabOk rfl) rfl (by decide) ?_
        | refine WpL.ofBytes tabOk rfl rfl rfl rfl rfl (by simp) (by decide) ?_)
      | (refine K.lit ?_; first
        | refine WpL.lit0Ints tabOk rfl rfl rfl (by decide) ?_
        | refine WpL.litInts tabOk rfl rfl rfl rfl rfl (by decide) rfl (by decide) ?_
        | refine WpL.litU8s tabOk rfl rfl rfl rfl rfl (by decide) rfl (by decide) ?_
        | (apply WpL.litLis tabOk
           · exact rfl
           · exact rfl
           · exact rfl
           · exact rfl
           · decide
           · exact rfl
           · exact rfl
           · exact rfl
           · decide
           · repeat' (first
               | exact NestC.nil
               | (apply NestC.cons
                  · exact rfl
                  · exact rfl
                  · exact rfl
                  · exact rfl
                  · first | exact Nat.zero_le _ | exact Nat.le_of_ble_eq_true rfl
                  · exact rfl
                  · first | rfl | exact still_ints _
                  · first | rfl | simp
                  · exact rfl))
           · exact rfl
           · exact rfl)
        | refine WpL.litF tabOk rfl rfl rfl rfl (by decide) rfl (by decide) ?_)
      | (refine K.ms ?_; first
        | refine WpL.makeInts tabOk rfl rfl rfl (by omega) (by omega) rfl (by decide) ?_
        | refine WpL.makeU8s tabOk rfl rfl rfl (by omega) (by omega) rfl (by decide) ?_
        | refine WpL.makeRows (f := prF) (z := (0, 0)) tabOk rfl rfl rfl rfl (by omega) (by omega) rfl (by decide) ?_)
      | (refine K.st ?_; first
        | refine WpL.storeInts tabOk rfl rfl rfl rfl rfl (by first | omega | (simp; omega)) ?_
        | refine WpL.storeU8s tabOk rfl rfl rfl rfl rfl (by first | omega | (simp; omega)) ?_
        | refine WpL.storeRow (f := prF) (b := (_, _)) tabOk rfl rfl rfl rfl rfl (fun _ => rfl) rfl (by first | rfl | omega | (simp; done) | (simp; omega)) ?_
        | refine WpL.storeS tabOk rfl rfl rfl rfl rfl rfl rfl rfl (by first | decide | omega | (simp; omega) | (simp; done)) (by first | (simp only [setL, List.set_cons_zero, List.set_cons_succ, Nat.zero_add, Nat.reduceAdd]; exact rfl) | exact rfl) ?_)
      | (refine K.all ?_; first
        | refine WpL.allocStruct tabOk rfl rfl (by decide) ?_
        | refine WpL.allocPlain tabOk rfl rfl rfl (by decide) ?_)
      | (refine K.box ?_; refine WpL.box rfl rfl rfl (by decide) ?_)
      | (refine K.nc ?_; first
        | refine WpL.nilCheckP rfl rfl rfl (by decide) ?_)
      | (refine K.sl ?_; first
        | refine WpL.subImm tabOk rfl rfl (by first | exact .inl ⟨rfl, rfl⟩ | exact .inr ⟨_, _, rfl, rfl⟩) (by first | exact .inl ⟨rfl, rfl⟩ | exact .inr ⟨_, _, rfl, rfl⟩) (by omega) (by decide) ?_)
      | (refine K.gd ?_; first
        | refine K.gT rfl (by decide) rfl ?_
        | refine K.gF rfl (by decide) rfl ?_
        | (refine K.gD rfl rfl (fun hgo => ?_) (fun hgo => ?_) <;> (try (first | contradiction | (exfalso; omega))))
        | (refine K.gN rfl rfl (fun hgo => ?_) (fun hgo => ?_) <;> (try (first | contradiction | (exfalso; omega)))))
      | ((repeat (revert hgo)); (repeat ((fail_if_success with_reducible apply Hold.h hold); replace hold := Hold.t hold)); with_reducible apply Hold.h hold))
    | refine WpL.nil ?_
    | refine Abs.Seq.n ?_
    | (refine K.A ?_; first
      | refine WpA.seq ?_
      | refine WpA.regionF rfl ?_
      | (refine K.cond ?_; first
        | refine WpA.condT rfl ?_
        | refine WpA.condF rfl ?_
        | (refine WpA.condD rfl (fun hgo => ?_) (fun hgo => ?_) <;> (try (first | contradiction | (exfalso; omega))))
        | (refine WpA.condN rfl (fun hgo => ?_) (fun hgo => ?_) <;> (try (first | contradiction | (exfalso; omega))))
        | (refine WpA.condS rfl (fun hgo => ?_) (fun hgo => ?_) <;> (try (first | contradiction | (exfalso; omega)))))
      | refine WpA.block ?_
      | refine WpA.ret ?_
      | refine WpA.exit ?_
      | refine WpA.skip ?_
      | (refine K.loop ?_; ((repeat (revert hgo)); (repeat ((fail_if_success with_reducible apply Hold.h hold); replace hold := Hold.t hold)); with_reducible apply Hold.h hold))
      | ((repeat (revert hgo)); (repeat ((fail_if_success with_reducible apply Hold.h hold); replace hold := Hold.t hold)); with_reducible apply Hold.h hold))
    | (refine K.RT ?_; first
      | exact ReT.nil
      | refine ReT.same rfl rfl ?_
      | refine ReT.own rfl rfl rfl rfl rfl rfl (by first | rfl | omega | (simp; done) | (simp; omega)) ?_
      | refine ReT.i rfl ?_ ?_
      | refine ReT.ptr rfl rfl rfl rfl rfl ?_
      | refine ReT.gen ?_ ?_)
    | (refine TrueB.mk ?_; kernel_rfl)
    | (apply K.eq; first | exact rfl | omega | assumption | (simp; done) | (simp; omega) | (exact absurd (by simp; done) ‹¬ _›) | ((repeat (revert hgo)); (repeat ((fail_if_success with_reducible apply Hold.h hold); replace hold := Hold.t hold)); with_reducible apply Hold.h hold))
    | (refine K.le ?_; first | omega | (simp; omega) | assumption | ((repeat (revert hgo)); (repeat ((fail_if_success with_reducible apply Hold.h hold); replace hold := Hold.t hold)); with_reducible apply Hold.h hold))
    | (refine K.lt ?_; first | omega | (simp; omega) | assumption | ((repeat (revert hgo)); (repeat ((fail_if_success with_reducible apply Hold.h hold); replace hold := Hold.t hold)); with_reducible apply Hold.h hold))
    | refine And.intro ?_ ?_
    | (refine K.RO ?_; first
      | exact ReO.nil
      | refine ReO.ints ?_ (by first | exact .inl rfl | exact .inr rfl) ?_
      | refine ReO.u8s ?_ (by first | exact .inl rfl | exact .inr rfl) ?_
      | refine ReO.rows (fun _ => rfl) ?_ (by first | exact .inl rfl | exact .inr rfl) ?_
      | refine ReO.cons (Re.same rfl rfl) (by first | exact .inl rfl | exact .inr rfl) ?_
      | refine ReO.cons ?_ (by first | exact .inl rfl | exact .inr rfl) ?_)
    | (refine K.W ?_; first
      | refine Weak.nestBlk (id := 0) rfl rfl rfl (by first | exact Nat.zero_le _ | exact Nat.le_of_ble_eq_true rfl) (by first | rfl | omega | (simp; done) | (simp; omega)) (by first | rfl | omega | (simp; done) | (simp; omega)) ?_
      | refine Weak.nestBlk (id := 1) rfl rfl rfl (by first | exact Nat.zero_le _ | exact Nat.le_of_ble_eq_true rfl) (by first | rfl | omega | (simp; done) | (simp; omega)) (by first | rfl | omega | (simp; done) | (simp; omega)) ?_
      | refine Weak.mk ?_ ?_ (by first | exact Nat.zero_le _ | exact Nat.le_of_ble_eq_true rfl))
    | refine Abs.Seq.ret ?_
    | refine Abs.Seq.exit ?_
    | refine Blk.n ?_
    | refine Blk.ret ?_
    | refine Blk.exitHere ?_
    | (refine K.R ?_; first
      | refine Rnd.ret ?_
      | refine Rnd.exit ?_
      | refine Rnd.succ ?_ ?_ ?_
      | ((repeat (revert hgo)); (repeat ((fail_if_success with_reducible apply Hold.h hold); replace hold := Hold.t hold)); with_reducible apply Hold.h hold))
    | (refine K.F ?_; first
      | apply Fin.one0
      | apply Fin.one1
      | apply Fin.one2
      | apply Fin.one3
      | apply Fin.two0
      | apply Fin.two1
      | apply Fin.two2
      | apply Fin.two3
      | apply Fin.three0
      | apply Fin.three1
      | apply Fin.three2
      | apply Fin.three3
      | ((repeat (revert hgo)); (repeat ((fail_if_success with_reducible apply Hold.h hold); replace hold := Hold.t hold)); with_reducible apply Hold.h hold))
    | (refine K.FG ?_; first
      | apply FinG.o10
      | apply FinG.o11
      | apply FinG.o20
      | apply FinG.o21
      | apply FinG.o30
      | apply FinG.o31
      | apply FinG.o40
      | apply FinG.o41
      | apply FinG.z10
      | apply FinG.z11
      | apply FinG.z20
      | apply FinG.z21
      | apply FinG.z30
      | apply FinG.z31
      | apply FinG.z40
      | apply FinG.z41
      | apply FinG.t10
      | apply FinG.t11
      | apply FinG.t20
      | apply FinG.t21
      | apply FinG.t30
      | apply FinG.t31
      | apply FinG.t40
      | apply FinG.t41
      | ((repeat (revert hgo)); (repeat ((fail_if_success with_reducible apply Hold.h hold); replace hold := Hold.t hold)); with_reducible apply Hold.h hold))
    | exact ResV.tmp rfl
    | exact ResV.cellP rfl rfl rfl rfl rfl
    | exact ResV.cell (ds := [_]) rfl rfl rfl rfl rfl
    | exact ResV.cell (ds := [_, _]) rfl rfl rfl rfl rfl
    | exact ResV.cell (ds := [_, _, _]) rfl rfl rfl rfl rfl
    | exact ResV.cell (ds := [_, _, _, _]) rfl rfl rfl rfl rfl
    | exact ResV.cell (ds := [_, _, _, _, _]) rfl rfl rfl rfl rfl
    | exact ResV.cell (ds := [_, _, _, _, _, _]) rfl rfl rfl rfl rfl
    | exact ResV.cell (ds := [_, _, _, _, _, _, _]) rfl rfl rfl rfl rfl
    | exact ResV.cell (ds := [_, _, _, _, _, _, _, _]) rfl rfl rfl rfl rfl
    | (refine K.E ?_; first
      | exact Ex.nil
      | refine Ex.keep rfl rfl rfl ?_
      | refine Ex.own rfl rfl rfl rfl ?_
      | refine Ex.own rfl rfl rfl ?_ ?_
      | refine Ex.nilO rfl ?_
      | refine Ex.nilO' rfl ?_ ?_
      | refine Ex.agg ?_ ?_
      | refine Ex.tup ?_ ?_
      | refine Ex.i ?_ ?_
      | refine Ex.b ?_ ?_)
    | (refine K.NE ?_; first
      | exact NEx.nil
      | refine NEx.ints rfl ?_ ?_
      | refine NEx.noInts ?_ ?_
      | refine NEx.rows (fun _ => rfl) rfl ?_ ?_
      | refine NEx.noRows ?_ ?_
      | refine NEx.gone ?_ rfl ?_
      | refine NEx.obj rfl ?_ rfl rfl rfl (.inr rfl) ?_)
    | exact Re.nil
    | refine Re.keep rfl rfl ?_
    | refine Re.fn rfl ?_
    | refine Re.own rfl rfl rfl rfl rfl (by first | rfl | omega | (simp; done) | (simp; omega)) ?_
    | refine Re.ptr rfl rfl rfl rfl ?_
    | refine Re.agg ?_ ?_
    | refine Re.tup ?_ ?_
    | refine Re.i ?_ ?_
    | exact rfl
    | (refine K.prp ?_; contradiction)
    | omega
    | (refine K.prp ?_; assumption)
    | (refine fun hgo => ?_)
    | (simp; done)
    | (simp; omega)
    | ((repeat (revert hgo)); (repeat ((fail_if_success with_reducible apply Hold.h hold); replace hold := Hold.t hold)); with_reducible apply Hold.h hold))
    all_goals (try ((repeat (revert hgo)); (repeat ((fail_if_success with_reducible apply Hold.h hold); replace hold := Hold.t hold)); with_reducible apply Hold.h hold))
    all_goals exact True
  · first | exact IsT.t | exact IsT.any
  ) (r : R) : P := h.1 ⟨r⟩
end Go.Proofs.Ytpokokcgoebbhaa

/- Contracts: symbols that are read; what is left of a text. No condition. -/
namespace Go.Proofs.Ytpokokcgoebbhaa
open Go Go.Abs
set_option linter.unusedVariables false
set_option linter.unusedSimpArgs false
set_option maxRecDepth 100000
set_option maxHeartbeats 4000000
attribute [local irreducible] WpA WpL Rnd Blk Abs.Seq Abs.Fin Abs.FinG FnC FnG Only

abbrev R0 : AObj := ⟨[Z [], I 0], 0, 0, none⟩
instance ReadSym_c : Con 57 (∀ (p : List UInt8) (s : Int) (l : List Int), p.length ≤ 1099511627776 ∧ l.length ≤ 1099511627776 → Fn 57 [RA p s, IL l] [] (.tup [RA p (smA p s l), I (smV p s l), I (smC p s l)])) := ⟨fun p s l hl => by
  have hb := lft_bd p s
  refine FnC.of_body tabOk Try.func57 Try.ntmps57 rfl (by decide +kernel) (by simp) fun G => ?_
  by_cases hok : CodeOk l
  · have h6 := hok.2.1
    have hcr := codesR_ok l hok
    have hcl := codes_len l
    have hcn := codesR_len l hok
    refine go (r := ?_); and_intros <;> intros <;> try exact True.intro
    all_goals first | (exact absurd hok (by assumption)) | skip
    refine WpA.loop (fun k : Nat => ⟨[(2, .ptr 0 0 0), (4, .ptr 1 0 0), (7, .own 2 0 0 6), (18, IL l), (19, I l.length), (20, I k)], [BoxR p s, R0, XI (codes l)]⟩) (fun k => k ≤ 6 ∧ ∀ m < k, ¬ SymAt p s l m) (fun k => 6 - k) 0 ⟨by omega, fun j hj => by omega⟩ (go (r := ?_)) (fun k hk => ?_)
    · trivial
    have hcb := code_in hok (m := k)
    have hy := fun h => rb_yes (p := p) (s := s) (n := l.getD k 0) h
    refine go (r := ?_); and_intros <;> intros <;> try exact True.intro
    all_goals first
      | (have hsy : SymAt p s l k := ⟨by omega, by assumption, by rw [← (hy (by assumption)).2]; simpa using ‹rbV p s (l.getD k 0) = _›⟩
         obtain ⟨e1, e2, e3⟩ := sm_yes hok (by omega) hsy
         first | (rw [e1, (hy hsy.2.1).1]; done) | (rw [e2]; done) | (rw [e3]; done))
      | (rename_i j hj hs
         rcases Nat.lt_succ_iff_lt_or_eq.1 hj with h | h
         · exact hk.2 j h hs
         · subst h
           obtain ⟨a, b, c⟩ := hs
           first | omega | exact absurd b (by assumption) | (have hv := (hy b).2; rw [c] at hv; rw [Int.toNat_natCast] at *; exact absurd hv (by assumption)))
      | (obtain ⟨e1, e2, e3⟩ := sm_none hok (fun m hm => hk.2 m (by omega))
         first | (rw [e1]; done) | (rw [e2]; done) | (rw [e3]; done))
      | trace_state
  · obtain ⟨e1, e2, e3⟩ := sm_bad (p := p) (s := s) hok
    have hcr := codesR_no l hok
    refine go (r := ?_); and_intros <;> intros <;> try exact True.intro
    all_goals first | (exact absurd (by assumption) hok) | (rw [e1]; done) | (rw [e2]; done) | (rw [e3]; done) | trace_state⟩
end Go.Proofs.Ytpokokcgoebbhaa

/- Contracts: fields that are read one behind the other, and the checks handed to them. No condition. -/
namespace Go.Proofs.Ytpokokcgoebbhaa
open Go Go.Abs
set_option linter.unusedVariables false
set_option linter.unusedSimpArgs false
set_option maxRecDepth 100000
set_option maxHeartbeats 4000000
attribute [local irreducible] WpA WpL Rnd Blk Abs.Seq Abs.Fin Abs.FinG FnC FnG Only

instance unless_c : Con 105 (∀ (b : Bool) (c : Int), Fn 105 [B b, I c] [] (I (bif b then 0 else c))) := ⟨fun b c => by
  cases b
  · refine FnC.of_body tabOk Try.func105 Try.ntmps105 rfl (by decide +kernel) (by simp) fun G => ?_
    refine go (r := ?_); and_intros <;> intros <;> try exact True.intro
    all_goals rfl
  · refine FnC.of_body tabOk Try.func105 Try.ntmps105 rfl (by decide +kernel) (by simp) fun G => ?_
    refine go (r := ?_); and_intros <;> intros <;> try exact True.intro
    all_goals rfl⟩
instance levels1_c : Con 102 (∀ x : Int, Fn 102 [I x] [] (I 0)) := ⟨fun x => by
  refine FnC.of_body tabOk Try.func102 Try.ntmps102 rfl (by decide +kernel) (by simp) fun G => ?_
  refine go (r := ?_); and_intros <;> intros <;> try exact True.intro⟩
instance levels2_c : Con 104 (∀ x n : Int, 0 ≤ n ∧ n ≤ 8 → Fn 104 [I x, .iptr [I n] 0] [] (I (ifE (x < n * n) 5))) := ⟨fun x n h => by
  have hnn := mul_in (a := n) (b := n) (by omega) (by omega)
  refine FnC.of_body tabOk Try.func104 Try.ntmps104 rfl (by decide +kernel) (by simp) fun G => ?_
  refine go (r := ?_); and_intros <;> intros <;> try exact True.intro⟩
instance levels3_c : Con 106 (∀ x n t : Int, (0 ≤ n ∧ n ≤ 8) ∧ 0 ≤ t ∧ t ≤ 1099511627776 → Fn 106 [I x, .iptr [I n] 0, .iptr [I t] 0] [] (I (ifE (x < n * n - t) 5))) := ⟨fun x n t h => by
  have hnn : 0 ≤ n * n ∧ n * n ≤ 64 := ⟨Int.mul_nonneg h.1.1 h.1.1, by have := Int.mul_le_mul h.1.2 h.1.2 h.1.1 (by decide); omega⟩
  have hn2 := mul_in (a := n) (b := n) (by omega) (by omega)
  refine FnC.of_body tabOk Try.func106 Try.ntmps106 rfl (by decide +kernel) (by simp) fun G => ?_
  refine go (r := ?_); and_intros <;> intros <;> try exact True.intro⟩
instance levels4_c : Con 108 (∀ x : Int, -4611686018427387904 ≤ x ∧ x ≤ 4611686018427387904 → Fn 108 [I x] [] (I (ifE (-16383 ≤ lvOf x ∧ lvOf x ≤ 16383) 5))) := ⟨fun x h => by
  refine FnC.of_body tabOk Try.func108 Try.ntmps108 rfl (by decide +kernel) (by simp) fun G => ?_
  refine go (r := ?_); and_intros <;> intros <;> try exact True.intro⟩
abbrev FldO (p : List UInt8) (s c : Int) : AObj := ⟨[Z p, I s, I c], 0, 0, none⟩
/-- A check that is handed over. -/
abbrev Chk (g : Nat) (caps : List AV) (k : Int → Int) : Prop := caps.all AV.still = true ∧ caps.all AV.nofre = true ∧ ∀ x : Int, -1 ≤ x ∧ x ≤ 4294967296 → Fn g (I x :: caps) [] (I (k x))
abbrev ChkB (g : Nat) (caps : List AV) (k : Int → Int) : Prop := caps.all AV.still = true ∧ caps.all AV.nofre = true ∧ ∀ x : Int, 0 ≤ x ∧ x ≤ 4294967296 → Fn g (I x :: caps) [] (I (k x))
theorem fbits_c (p : List UInt8) (s c n : Int) (g : Nat) (caps : List AV) (k : Int → Int) (hl : p.length ≤ 1099511627776) (hk : ChkB g caps k) : Gn 101 [.ptr 0 0 0, I n, .fn g caps] [FldO p s c] [FldO p (fbA p s c n k) (fbC p s c n k)] [] (I (fbV p s c n k)) := by
  obtain ⟨hc1, hc2, hg⟩ := hk
  have hv := rbV_bd p s n
  refine FnG.of_bodyF tabOk Try.func101 Try.ntmps101 rfl (by decide +kernel) (by simp) rfl rfl fun G => ?_
  by_cases hc : c = 0
  · by_cases hok : RbOk p s n
    · have e1 : fbC p s c n k = k (rbV p s n) := by rw [fbC, if_pos hc, if_pos hok]
      refine go (r := ?_); and_intros <;> intros <;> try exact True.intro
      refine K.callT ?_
      refine WpL.callV0 rfl (hg (rbV p s n) ⟨by omega, by omega⟩) rfl (.keep rfl rfl (Snap.same rfl hc1 hc2)) (.sc .nil) rfl rfl (by decide) ?_
      by_cases hk0 : k (rbV p s n) = 0
      · have e2 : fbA p s c n k = rbA p s n := by rw [fbA, if_pos ⟨hc, by rw [e1, hk0]⟩]
        have e3 : fbV p s c n k = rbV p s n := by rw [fbV, if_pos (by rw [e1, hk0])]
        refine go (r := ?_); and_intros <;> intros <;> try exact True.intro
        all_goals first | (exact absurd hk0 (by assumption)) | (rw [e1]; done) | (rw [e2]; done) | (rw [e3]; done) | trace_state
      · have e2 : fbA p s c n k = s := by rw [fbA, if_neg (by rw [e1]; exact fun h => hk0 h.2)]
        have e3 : fbV p s c n k = 0 := by rw [fbV, if_neg (by rw [e1]; exact hk0)]
        refine go (r := ?_); and_intros <;> intros <;> try exact True.intro
        all_goals first | (exact absurd (by assumption) hk0) | (rw [e1]; done) | (rw [e2]; done) | (rw [e3]; done) | trace_state
    · have e1 : fbC p s c n k = 1 := by rw [fbC, if_pos hc, if_neg hok]
      have e2 : fbA p s c n k = s := by rw [fbA, if_neg (by rw [e1]; omega)]
      have e3 : fbV p s c n k = 0 := by rw [fbV, if_neg (by rw [e1]; omega)]
      refine go (r := ?_); and_intros <;> intros <;> try exact True.intro
      all_goals first | (exact absurd (by assumption) hok) | (rw [e1]; done) | (rw [e2]; done) | (rw [e3]; done) | trace_state
  · have e1 : fbC p s c n k = c := by rw [fbC, if_neg hc]
    have e2 : fbA p s c n k = s := by rw [fbA, if_neg (by omega)]
    have e3 : fbV p s c n k = 0 := by rw [fbV, if_neg (by rw [e1]; omega)]
    refine go (r := ?_); and_intros <;> intros <;> try exact True.intro
    all_goals first | (exact absurd (by assumption) hc) | (rw [e1]; done) | (rw [e2]; done) | (rw [e3]; done) | trace_state
theorem ueV_bd (p : List UInt8) (s : Int) : -1 ≤ ueV p s ∧ ueV p s ≤ 4294967296 := by
  have h := rbV_bd p s (2 * (zrs p s : Int) + 1)
  unfold ueV; split <;> omega
theorem fue_c (p : List UInt8) (s c : Int) (g : Nat) (caps : List AV) (k : Int → Int) (hl : p.length ≤ 1099511627776) (hk : Chk g caps k) : Gn 103 [.ptr 0 0 0, .fn g caps] [FldO p s c] [FldO p (fuA p s c k) (fuC p s c k)] [] (I (fuV p s c k)) := by
  obtain ⟨hc1, hc2, hg⟩ := hk
  have hv := ueV_bd p s
  refine FnG.of_bodyF tabOk Try.func103 Try.ntmps103 rfl (by decide +kernel) (by simp) rfl rfl fun G => ?_
  by_cases hc : c = 0
  · by_cases hok : ueC p s = 0
    · have e1 : fuC p s c k = k (ueV p s) := by rw [fuC, if_pos hc, if_pos hok]
      refine go (r := ?_); and_intros <;> intros <;> try exact True.intro
      all_goals first | (exact absurd hok (by assumption)) | skip
      refine K.callT ?_
      refine WpL.callV0 rfl (hg (ueV p s) hv) rfl (.keep rfl rfl (Snap.same rfl hc1 hc2)) (.sc .nil) rfl rfl (by decide) ?_
      by_cases hk0 : k (ueV p s) = 0
      · have e2 : fuA p s c k = ueA p s := by rw [fuA, if_pos (by rw [e1, hk0])]
        have e3 : fuV p s c k = ueV p s := by rw [fuV, if_pos (by rw [e1, hk0])]
        refine go (r := ?_); and_intros <;> intros <;> try exact True.intro
        all_goals first | (exact absurd hk0 (by assumption)) | (rw [e1]; done) | (rw [e2]; done) | (rw [e3]; done) | trace_state
      · have e2 : fuA p s c k = s := by rw [fuA, if_neg (by rw [e1]; exact hk0)]
        have e3 : fuV p s c k = 0 := by rw [fuV, if_neg (by rw [e1]; exact hk0)]
        refine go (r := ?_); and_intros <;> intros <;> try exact True.intro
        all_goals first | (exact absurd (by assumption) hk0) | (rw [e1]; done) | (rw [e2]; done) | (rw [e3]; done) | trace_state
    · have e1 : fuC p s c k = ueC p s := by rw [fuC, if_pos hc, if_neg hok]
      have e2 : fuA p s c k = s := by rw [fuA, if_neg (by rw [e1]; exact hok)]
      have e3 : fuV p s c k = 0 := by rw [fuV, if_neg (by rw [e1]; exact hok)]
      refine go (r := ?_); and_intros <;> intros <;> try exact True.intro
      all_goals first | (exact absurd (by assumption) hok) | (rw [e1]; done) | (rw [e2]; done) | (rw [e3]; done) | trace_state
  · have e1 : fuC p s c k = c := by rw [fuC, if_neg hc]
    have e2 : fuA p s c k = s := by rw [fuA, if_neg (by rw [e1]; exact hc)]
    have e3 : fuV p s c k = 0 := by rw [fuV, if_neg (by rw [e1]; exact hc)]
    refine go (r := ?_); and_intros <;> intros <;> try exact True.intro
    all_goals first | (exact absurd (by assumption) hc) | (rw [e1]; done) | (rw [e2]; done) | (rw [e3]; done) | trace_state

/-! The checks of headers. -/
def lensK (v : Int) (k : Nat) : List Int := (List.range k).map fun j => lenAt v (5 - j)
end Go.Proofs.Ytpokokcgoebbhaa

/- Contracts: headers that are read. No condition. -/
namespace Go.Proofs.Ytpokokcgoebbhaa
open Go Go.Abs
set_option linter.unusedVariables false
set_option linter.unusedSimpArgs false
set_option maxRecDepth 100000
set_option maxHeartbeats 4000000
attribute [local irreducible] WpA WpL Rnd Blk Abs.Seq Abs.Fin Abs.FinG FnC FnG Only

theorem fuV_bd (p : List UInt8) (s c : Int) (k : Int → Int) : -1 ≤ fuV p s c k ∧ fuV p s c k ≤ 4294967296 := by
  have := ueV_bd p s
  unfold fuV; split <;> omega
theorem fbV_bd (p : List UInt8) (s c n : Int) (k : Int → Int) : 0 ≤ fbV p s c n k ∧ fbV p s c n k ≤ 4294967296 := by
  have := rbV_bd p s n
  unfold fbV; split <;> omega
abbrev HdV (x : HdS) : AV := .agg [I x.W, I x.H, I x.Q, B x.B, B x.D, .own 0 0 0 x.L.length]
end Go.Proofs.Ytpokokcgoebbhaa

/- Plain laws: where levels are read to. Contracts: levels that are read by the program. No condition. -/
namespace Go.Proofs.Ytpokokcgoebbhaa
open Go Go.Abs
set_option linter.unusedVariables false
set_option linter.unusedSimpArgs false
set_option maxRecDepth 100000
set_option maxHeartbeats 4000000

theorem zrW_stop (p : List UInt8) (s : Int) : ∀ (f n : Nat), zrW p s f n = n + f ∨ btA p (s + (zrW p s f n : Nat)) ≠ 0
  | 0, n => .inl rfl
  | f + 1, n => by
    rw [zrW]; split
    · rcases zrW_stop p s f (n + 1) with h | h
      · exact .inl (by omega)
      · exact .inr h
    · rename_i h; exact .inr h
theorem zrs_stop (p : List UInt8) (s : Int) : (zrs p s : Int) = lft p s ∨ btA p (s + (zrs p s : Nat)) ≠ 0 := by
  have hb := lft_bd p s
  rcases zrW_stop p s (lft p s).toNat 0 with h | h
  · exact .inl (by unfold zrs; omega)
  · exact .inr h
theorem ueV_nn (p : List UInt8) (s : Int) : 0 ≤ ueV p s := by
  unfold ueV; split
  · rename_i h
    by_cases h15 : zrs p s ≤ 15
    · by_cases hok : RbOk p s (2 * (zrs p s : Int) + 1)
      · rw [(rb_yes hok).2]
        have hlo := lft_ok hok.1
        have hst := zrs_stop p s
        have hbo := btA_out p (s + (zrs p s : Nat))
        have hbd := btA_bd p (s + (zrs p s : Nat))
        have hb1 : btA p (s + (zrs p s : Nat)) = 1 := by
          rcases hst with h | h
          · omega
          · omega
        have e := numB_add p s (zrs p s + 1) (zrs p s)
        have h1 := numB_bd p (s + ((zrs p s + 1 : Nat) : Int)) (zrs p s)
        have h2 := numB_bd p s (zrs p s)
        have h3 : numB p s (zrs p s + 1) = numB p s (zrs p s) * 2 + bv p (s + (zrs p s : Nat)) := rfl
        have h4 : bv p (s + (zrs p s : Nat)) = 1 := by unfold bv; omega
        have hp : (0 : Int) < 2 ^ zrs p s := by exact_mod_cast Nat.pow_pos (by decide)
        have h5 : 1 * 2 ^ zrs p s ≤ numB p s (zrs p s + 1) * 2 ^ zrs p s := Int.mul_le_mul_of_nonneg_right (by omega) (by omega)
        rw [show (2 * (zrs p s : Int) + 1).toNat = zrs p s + 1 + zrs p s by omega, e]
        omega
      · rw [(ue_short h15 hok).2.1] at h; omega
    · rw [(ue_code (s := s) (p := p) h15).2.1] at h; omega
  · omega
theorem fuV_nn (p : List UInt8) (s c : Int) (k : Int → Int) : 0 ≤ fuV p s c k := by
  have := ueV_nn p s
  unfold fuV; split <;> omega
/-- What a check lets through. -/
theorem fuV_lt {p : List UInt8} {s c b e : Int} (he : e ≠ 0) (h : 0 < b) : fuV p s c (fun y => ifE (y < b) e) < b := by
  unfold fuV; split
  · rename_i h1
    unfold fuC at h1
    split at h1
    · split at h1
      · by_cases hlt : ueV p s < b
        · exact hlt
        · have h1 : ifE (ueV p s < b) e = 0 := h1
          rw [ifE_no hlt] at h1; exact absurd h1 he
      · omega
    · omega
  · omega
theorem fuV_zero {p : List UInt8} {s c : Int} {k : Int → Int} (h : fuC p s c k ≠ 0) : fuV p s c k = 0 := by rw [fuV, if_neg h]
abbrev kR (b : Int) : Int → Int := fun y => ifE (y < b) 5
abbrev kL : Int → Int := fun y => ifE (-16383 ≤ lvOf y ∧ lvOf y ≤ 16383) 5
theorem lvStep_yes {p : List UInt8} {nn : Int} {x : LvS} (hc : x.c = 0) : lvStep p nn x =
    (if fuC p (fuA p x.a 0 (kR (nn - x.at_))) (fuC p x.a 0 (kR (nn - x.at_))) kL = 0 then
      ⟨fuA p (fuA p x.a 0 (kR (nn - x.at_))) (fuC p x.a 0 (kR (nn - x.at_))) kL, fuC p (fuA p x.a 0 (kR (nn - x.at_))) (fuC p x.a 0 (kR (nn - x.at_))) kL, x.at_ + fuV p x.a 0 (kR (nn - x.at_)) + 1,
        x.out.set (x.at_ + fuV p x.a 0 (kR (nn - x.at_))).toNat (lvOf (fuV p (fuA p x.a 0 (kR (nn - x.at_))) (fuC p x.a 0 (kR (nn - x.at_))) kL))⟩
    else ⟨fuA p (fuA p x.a 0 (kR (nn - x.at_))) (fuC p x.a 0 (kR (nn - x.at_))) kL, fuC p (fuA p x.a 0 (kR (nn - x.at_))) (fuC p x.a 0 (kR (nn - x.at_))) kL, x.at_ + fuV p x.a 0 (kR (nn - x.at_)), x.out⟩) := by
  rw [lvStep, if_pos hc]
theorem lvStep_no {p : List UInt8} {nn : Int} {x : LvS} (hc : x.c ≠ 0) : lvStep p nn x = x := by rw [lvStep, if_neg hc]
theorem fuC_keep {p : List UInt8} {s c : Int} {k : Int → Int} (h : c ≠ 0) : fuC p s c k = c := by rw [fuC, if_neg h]
theorem lvStep_at {p : List UInt8} {nn : Int} {x : LvS} (h : 0 ≤ x.at_ ∧ x.at_ ≤ nn) : 0 ≤ (lvStep p nn x).at_ ∧ (lvStep p nn x).at_ ≤ nn := by
  by_cases hc : x.c = 0
  · rw [lvStep_yes hc]
    have h1 := fuV_nn p x.a 0 (kR (nn - x.at_))
    by_cases hr : fuC p x.a 0 (kR (nn - x.at_)) = 0
    · have h2 : fuV p x.a 0 (kR (nn - x.at_)) < nn - x.at_ := by
        rcases Int.lt_or_le 0 (nn - x.at_) with hp | hp
        · exact fuV_lt (by decide) hp
        · exfalso
          have hv := ueV_nn p x.a
          unfold fuC at hr
          simp only [if_true] at hr
          split at hr
          · have hr : ifE (ueV p x.a < nn - x.at_) 5 = 0 := hr
            rw [ifE_no (by omega)] at hr; cases hr
          · rename_i hh; exact hh hr
      split
      · show 0 ≤ x.at_ + _ + 1 ∧ x.at_ + _ + 1 ≤ nn; omega
      · show 0 ≤ x.at_ + _ ∧ x.at_ + _ ≤ nn; omega
    · rw [if_neg (by rw [fuC_keep hr]; exact hr)]
      show 0 ≤ x.at_ + _ ∧ x.at_ + _ ≤ nn
      rw [fuV_zero hr]; omega
  · rw [lvStep_no hc]; exact h
theorem lvRun_at {p : List UInt8} {nn : Int} {x : LvS} (h : 0 ≤ x.at_ ∧ x.at_ ≤ nn) : ∀ k, 0 ≤ (lvRun p nn x k).at_ ∧ (lvRun p nn x k).at_ ≤ nn
  | 0 => h
  | k + 1 => by rw [lvRun]; exact lvStep_at (lvRun_at h k)
theorem lvRun_stop {p : List UInt8} {nn : Int} {x : LvS} {k : Nat} (h : (lvRun p nn x k).c ≠ 0) : ∀ j, k ≤ j → lvRun p nn x j = lvRun p nn x k
  | 0, hj => by have : k = 0 := by omega
                subst this; rfl
  | j + 1, hj => by
    rcases Nat.lt_or_ge j k with h2 | h2
    · have : k = j + 1 := by omega
      subst this; rfl
    · have e := lvRun_stop h j h2
      rw [lvRun, e, lvStep_no h]

/-! One object is turned, the others stay. -/
theorem newO_tail (mb : AObj) : ∀ (k : Nat) (R : List AObj), 0 < k → newO [0] [mb] k R = R
  | _, [], _ => rfl
  | k, ob :: R, hk => by
    rw [newO, newO_tail mb (k + 1) R (by omega)]
    have : findN [0] k 0 = none := by
      rw [findN]
      have : Nat.beq 0 k = false := by cases k with | zero => omega | succ k => rfl
      rw [this]; rfl
    unfold newOb; rw [this]
theorem split4 {Ov : List AObj} {a b c d : AObj} (h0 : Ov[0]? = some a) (h1 : Ov[1]? = some b) (h2 : Ov[2]? = some c) (h3 : Ov[3]? = some d) : ∃ R, Ov = a :: b :: c :: d :: R := by
  match Ov, h3 with
  | a' :: b' :: c' :: d' :: R, h3 => simp at h0 h1 h2 h3; exact ⟨R, by rw [h0, h1, h2, h3]⟩
  | [], h => simp at h
  | [_], h => simp at h
  | [_, _], h => simp at h
  | [_, _, _], h => simp at h
theorem split3 {Ov : List AObj} {b c d : AObj} (hc : 4 ≤ Ov.length) (h1 : Ov[1]? = some b) (h2 : Ov[2]? = some c) (h3 : Ov[3]? = some d) : ∃ x R, Ov = x :: b :: c :: d :: R := by
  match Ov, h3 with
  | a' :: b' :: c' :: d' :: R, h3 => simp at h1 h2 h3; exact ⟨a', R, by rw [h1, h2, h3]⟩
  | [], h => simp at h
  | [_], h => simp at h
  | [_, _], h => simp at h
  | [_, _, _], h => simp at h
section
variable {P : Program} {n m : Nat} {G : Ctx} {T : List (Nat × AV)} {R : List AObj} {Q : Exit → St → Prop} {ops : Array Oper} {l : List Oper} {tt : TypeId} {pos : String} {after : Array Edge}
theorem callM1 {f : FuncId} {xs : List Operand} {ats : Array TypeId} {As : List AV} {ob mb0 mb : AObj} {v : Int} {d : Nat} (hc : FnG P f As [mb0] [mb] [] (I v)) (hh : HandM (ob :: R) [0] [mb0] (xs.map (av T)) As) (hM : HandO (ob :: R) [0] [mb0]) (hsz : mb.size = mb0.size) (hM' : Out [mb]) (hn : d < n)
    (h : WpL P n m G false ops l ⟨(d, I v) :: T, ⟨mb.cells, ob.ep, mb.size, mb.ty⟩ :: R⟩ Q) :
    WpL P n m G false ops ({ dst := some d, op := .call { callee := .value (.func f), args := xs.toArray, argTypes := ats }, type := tt, pos := pos, after := after, guard := none } :: l) ⟨T, ob :: R⟩ Q := by
  refine WpL.op rfl (fun a w hr => ?_) h
  have hcl := callG_rel hc hh hM (by simp) rfl (fun j x y hx hy => by
    cases j with
    | zero => simp at hx hy; subst hx hy; exact hsz
    | succ j => simp at hx) hM' .nil (r' := I v) rfl hr
  have e : newO [0] [mb] 0 (ob :: R) ++ [] = ⟨mb.cells, ob.ep, mb.size, mb.ty⟩ :: R := by
    rw [List.append_nil, newO, newO_tail mb 1 R (by omega)]; rfl
  rw [e] at hcl
  obtain ⟨⟨fn, hf, hbd, hnm⟩, _⟩ := hc
  have hex : (execOp a.eval { dst := some d, op := .call { callee := .value (.func f), args := xs.toArray, argTypes := ats }, type := tt, pos := pos, after := after, guard := none }).run P w = .ok (.enter f (xs.map a.eval).toArray) w := by
    simp only [execOp, resolve, Act.eval, Deferred.ofValue, invoke, callFunc, Sem.run_bind, Sem.run_pure, Result.andThen_ok, program, Sem.run, hf, hnm, hbd, Bool.false_eq_true, if_false]
    simp
  unfold Oper.wp
  rw [hex]
  refine hcl.mono fun e w' ⟨v, he, S, ι, F, hr', hv⟩ => ?_
  subst he
  exact ⟨S, ι, F, hr'.put hn hv⟩
end
attribute [local irreducible] WpA WpL Rnd Blk Abs.Seq Abs.Fin Abs.FinG FnC FnG Only
abbrev k0C : Int → Int := fun _ => 0
theorem lvS_no {p : List UInt8} {s n : Int} (h : fbV p s 0 1 k0C = 0) : lvS p s n = ⟨fbA p s 0 1 k0C, fbC p s 0 1 k0C, 0, List.replicate (n * n).toNat 0⟩ := by
  unfold lvS; simp only; rw [if_pos h]
theorem lvS_yes {p : List UInt8} {s n : Int} (h : fbV p s 0 1 k0C ≠ 0) : lvS p s n = lvRun p (n * n) ⟨fuA p (fbA p s 0 1 k0C) (fbC p s 0 1 k0C) (kR (n * n)), fuC p (fbA p s 0 1 k0C) (fbC p s 0 1 k0C) (kR (n * n)), 0, List.replicate (n * n).toNat 0⟩ (1 + fuV p (fbA p s 0 1 k0C) (fbC p s 0 1 k0C) (kR (n * n))).toNat := by
  unfold lvS; simp only; rw [if_neg h]
theorem lv_room {p : List UInt8} {s nn t : Int} (ht : 0 ≤ t ∧ t ≤ nn) (h : fuC p s 0 (kR (nn - t)) = 0) : t + fuV p s 0 (kR (nn - t)) < nn := by
  have h2 : fuV p s 0 (kR (nn - t)) < nn - t := by
    rcases Int.lt_or_le 0 (nn - t) with hp | hp
    · exact fuV_lt (by decide) hp
    · exfalso
      have hv := ueV_nn p s
      unfold fuC at h
      simp only [if_true] at h
      split at h
      · have h : ifE (ueV p s < nn - t) 5 = 0 := h
        rw [ifE_no (by omega)] at h; cases h
      · rename_i hh; exact hh h
  omega
theorem flv_c (p : List UInt8) (s n : Int) (hl : p.length ≤ 1099511627776) (hn : n = 4 ∨ n = 8) : Gn 61 [.ptr 0 0 0, I n] [FldO p s 0] [FldO p (lvS p s n).a (lvS p s n).c] [XI (lvS p s n).out] (.own 1 0 0 (lvS p s n).out.length) := by
  have hnn : 16 ≤ n * n ∧ n * n ≤ 64 := by rcases hn with rfl | rfl <;> decide
  have hn2 := mul_in (a := n) (b := n) (by omega) (by omega)
  generalize hx : lvS p s n = x
  refine FnG.of_bodyF tabOk Try.func61 Try.ntmps61 rfl (by decide +kernel) (by simp) rfl rfl fun G => ?_
  refine go (r := ?_); and_intros <;> intros <;> try exact True.intro
  refine K.call ?_
  refine WpL.callM (hs := [0]) (fbits_c p s 0 1 102 [] k0C hl ⟨rfl, rfl, fun x _ => levels1_c.ok x⟩) handA handOA rfl rfl (.cons rfl (.sc (.sc (.sc .nil))) .nil) outA rfl rfl rfl rfl (by decide) ?_
  have b1 := fbV_bd p s 0 1 k0C
  by_cases hv : fbV p s 0 1 k0C = 0
  · rw [lvS_no hv] at hx
    subst hx
    refine go (r := ?_); and_intros <;> intros <;> try exact True.intro
    all_goals first | (exact absurd hv (by assumption)) | trace_state
  · rw [lvS_yes hv] at hx
    generalize hv1 : fbV p s 0 1 k0C = v1 at b1 hv ⊢
    generalize ha1 : fbA p s 0 1 k0C = a1 at hx
    generalize hc1 : fbC p s 0 1 k0C = c1 at hx
    refine go (r := ?_); and_intros <;> intros <;> try exact True.intro
    all_goals first | (exact absurd (by assumption) hv) | skip
    refine K.call ?_
    refine WpL.callM (hs := [0]) (fue_c p a1 c1 104 [.iptr [I n] 0] (kR (n * n)) hl ⟨rfl, rfl, fun x _ => levels2_c.ok x n (by omega)⟩) handA handOA rfl rfl (.cons rfl (.sc (.sc (.sc .nil))) .nil) outA rfl rfl rfl rfl (by decide) ?_
    have b2 := fuV_bd p a1 c1 (kR (n * n))
    have b3 := fuV_nn p a1 c1 (kR (n * n))
    generalize hv2 : fuV p a1 c1 (kR (n * n)) = v2 at b2 b3 hx ⊢
    generalize ha2 : fuA p a1 c1 (kR (n * n)) = a2 at hx ⊢
    generalize hc2 : fuC p a1 c1 (kR (n * n)) = c2 at hx ⊢
    have hr0 := lvRun_at (p := p) (nn := n * n) (x := ⟨a2, c2, 0, List.replicate (n * n).toNat 0⟩) (show (0 : Int) ≤ 0 ∧ (0 : Int) ≤ n * n by omega)
    have hln := lvRun_len p (n * n) ⟨a2, c2, 0, List.replicate (n * n).toNat 0⟩
    have hst : ∀ k, lvRun p (n * n) ⟨a2, c2, 0, List.replicate (n * n).toNat 0⟩ (k + 1) = lvStep p (n * n) (lvRun p (n * n) ⟨a2, c2, 0, List.replicate (n * n).toNat 0⟩ k) := fun _ => rfl
    have hsp := fun k => lvRun_stop (p := p) (nn := n * n) (x := ⟨a2, c2, 0, List.replicate (n * n).toNat 0⟩) (k := k)
    have hz : lvRun p (n * n) ⟨a2, c2, 0, List.replicate (n * n).toNat 0⟩ 0 = ⟨a2, c2, 0, List.replicate (n * n).toNat 0⟩ := rfl
    generalize lvRun p (n * n) ⟨a2, c2, 0, List.replicate (n * n).toNat 0⟩ = X at hr0 hln hst hsp hz hx
    refine goR (r := ?_); and_intros <;> intros <;> try exact True.intro
    refine WpA.loop (fun k : Nat => ⟨[(0, .ptr 0 0 0), (3, .ptr 1 0 0), (5, .own 2 0 0 (n * n).toNat), (6, .ptr 3 0 0), (7, I (1 + v2)), (8, I k)], [FldO p (X k).a (X k).c, ⟨[I n], 0, 0, none⟩, XI (X k).out, ⟨[I (X k).at_], 0, 0, none⟩]⟩) (fun k => (k : Int) ≤ 1 + v2) (fun k => (1 + v2).toNat - k) 0 (by omega) (go (r := ?_)) (fun k hk => ?_)
    · rw [hz]; and_intros <;> first | exact True.intro | rfl | trace_state
    have hr0 := hr0 k
    have hln := hln k
    have hst := hst k
    have hsp := hsp k
    generalize hy : X k = y at hr0 hln hst hsp ⊢
    have hln : y.out.length = (n * n).toNat := by simpa using hln
    have hfin : (y.c ≠ 0 ∨ ¬ (k : Int) < 1 + v2) → y = x := by
      rintro (h | h)
      · rw [← hx, hsp h (1 + v2).toNat (by omega)]
      · have : k = (1 + v2).toNat := by omega
        rw [← hx, ← this, hy]
    refine goR (r := ?_); and_intros <;> intros <;> try exact True.intro
    · have hyc : y.c = 0 := by assumption
      have b4 := fuV_bd p y.a y.c (kR (n * n - y.at_))
      have b5 := fuV_nn p y.a y.c (kR (n * n - y.at_))
      have hkb : ∀ x : Int, -1 ≤ x ∧ x ≤ 4294967296 → Fn 106 (I x :: [.iptr [I n] 0, .iptr [I y.at_] 0]) [] (I (kR (n * n - y.at_) x)) := fun x _ => levels3_c.ok x n y.at_ (by omega)
      apply WpA.regionQF (O := []) (Or := [FldO p y.a y.c, ⟨[I n], 0, 0, none⟩, XI y.out, ⟨[I y.at_], 0, 0, none⟩]) (O1 := [FldO p (fuA p y.a y.c (kR (n * n - y.at_))) (fuC p y.a y.c (kR (n * n - y.at_))), ⟨[I n], 0, 0, none⟩, XI y.out, ⟨[I y.at_], 0, 0, none⟩]) 5 0 [1, 2, 3] rfl mixed (by decide +kernel)
      · exact rfl
      · apply HeadQ.consF (V := I y.at_) .none rfl
        · exact rfl
        · intro Tv Ov hc hp hd hk
          obtain ⟨x0, R, rfl⟩ := split3 hc (hk 1 rfl) (hk 2 rfl) (hk 3 rfl)
          exact in0
        · exact rfl
        · exact rfl
        apply HeadQ.consF .none rfl
        · exact rfl
        · exact in1
        · exact rfl
        · exact rfl
        apply HeadQ.consF (V := .fn 106 [.ptr 1 0 0, .ptr 3 0 0]) .none rfl
        · exact rfl
        · exact in1
        · exact rfl
        · exact rfl
        apply HeadQ.consF (V := I (fuV p y.a y.c (kR (n * n - y.at_)))) (.step 0 (FldO p (fuA p y.a y.c (kR (n * n - y.at_))) (fuC p y.a y.c (kR (n * n - y.at_))))) rfl
        · exact rfl
        · intro Tv Ov hc hp hd hk
          obtain ⟨R, rfl⟩ := split4 (hp 0 _ rfl) (hk 1 rfl) (hk 2 rfl) (hk 3 rfl)
          refine K.call ?_
          refine callM1 (fue_c p y.a y.c 106 [.iptr [I n] 0, .iptr [I y.at_] 0] (kR (n * n - y.at_)) hl ⟨rfl, rfl, hkb⟩) handA handOA rfl (.cons rfl (.sc (.sc (.sc .nil))) .nil) (by decide) ?_
          exact WpL.nil (Only.mk rfl)
        · exact rfl
        · exact rfl
        apply HeadQ.consF .none rfl
        · exact rfl
        · exact in1
        · exact rfl
        · exact rfl
        exact HeadQ.nil
      · exact rfl
      · exact rfl
      · exact rfl
      · exact rfl
      · exact rfl
      · exact rfl
      · exact rfl
      generalize hA1 : fuA p y.a y.c (kR (n * n - y.at_)) = A1
      generalize hC1 : fuC p y.a y.c (kR (n * n - y.at_)) = C1
      generalize hV1 : fuV p y.a y.c (kR (n * n - y.at_)) = w1 at b4 b5 ⊢
      rw [hyc] at hA1 hC1 hV1
      have hroom := lv_room (p := p) (s := y.a) hr0
      rw [hC1, hV1] at hroom
      rw [lvStep_yes hyc, hA1, hC1, hV1] at hst
      have hkeep := fun h => fuC_keep (p := p) (s := A1) (c := C1) (k := kL) h
      refine go (r := ?_); and_intros <;> intros <;> try exact True.intro
      refine K.call ?_
      refine WpL.callM (hs := [0]) (fue_c p A1 C1 108 [] kL hl ⟨rfl, rfl, fun x h => levels4_c.ok x (by omega)⟩) handA handOA rfl rfl (.cons rfl (.sc (.sc (.sc .nil))) .nil) outA rfl rfl rfl rfl (by decide) ?_
      have b6 := fuV_bd p A1 C1 kL
      by_cases hc2 : fuC p A1 C1 kL = 0
      · have h10 : C1 = 0 := by
          by_cases h : C1 = 0
          · exact h
          · exact absurd (hkeep h ▸ hc2) h
        have hroom := hroom h10
        rw [if_pos hc2] at hst
        refine go (r := ?_); and_intros <;> intros <;> try exact True.intro
        all_goals first | (exact absurd hc2 (by assumption)) | (rw [hst]; done) | (rw [hst]; rfl) | (rw [hst]; simp only; omega) | trace_state
      · rw [if_neg hc2] at hst
        refine go (r := ?_); and_intros <;> intros <;> try exact True.intro
        all_goals first | (exact absurd (by assumption) hc2) | (rw [hst]; done) | (rw [hst]; rfl) | trace_state
    all_goals first | (obtain rfl := hfin (by first | exact .inl (by assumption) | exact .inr (by assumption)); first | rfl | exact hln.symm | trace_state) | trace_state
end Go.Proofs.Ytpokokcgoebbhaa

/- Contracts: the bits of a mode, whether it has a code, which mode a block gets; the law FnExactModeFor. No condition. -/
namespace Go.Proofs.Ytpokokcgoebbhaa
open Go Go.Abs
set_option linter.unusedVariables false
set_option linter.unusedSimpArgs false
set_option maxRecDepth 100000
set_option maxHeartbeats 4000000
attribute [local irreducible] WpA WpL Rnd Blk Abs.Seq Abs.Fin Abs.FinG FnC FnG Only

def HasC (l : List Int) (m : Int) : Prop := CodeOk l ∧ (0 ≤ m ∧ m ≤ 5) ∧ l.getD m.toNat 0 ≠ 0
instance (l : List Int) (m : Int) : Decidable (HasC l m) := by unfold HasC; infer_instance
def symL (l : List Int) (m : Int) : List Int := if HasC l m then bitsL ((codes l).getD m.toNat 0) (l.getD m.toNat 0) else []
theorem sym_fit {l : List Int} {m : Int} (h : HasC l m) : (1 ≤ l.getD m.toNat 0 ∧ l.getD m.toNat 0 ≤ 7) ∧ 0 ≤ (codes l).getD m.toNat 0 ∧ (codes l).getD m.toNat 0 ≤ 127 ∧ bitOk ((codes l).getD m.toNat 0) (l.getD m.toNat 0) := by
  obtain ⟨h1, h2, h3⟩ := h
  have a := code_in h1 (m := m.toNat) (by omega)
  have b := code_fit h1 (m := m.toNat) (by omega) h3
  have c := code_lt h1 (m := m.toNat) (by omega) h3
  have d : (codes l).getD m.toNat 0 ≤ 127 := by
    have : (2 : Int) ^ (l.getD m.toNat 0).toNat ≤ 2 ^ 7 := by
      have := Nat.pow_le_pow_right (n := 2) (by decide) (show (l.getD m.toNat 0).toNat ≤ 7 by omega)
      exact_mod_cast this
    omega
  exact ⟨by omega, b.1, d, by omega, b.1, Int.ediv_eq_zero_of_lt b.1 c⟩
theorem symL_len (l : List Int) (m : Int) : ((symL l m).length : Int) = if HasC l m then l.getD m.toNat 0 else 0 := by
  unfold symL
  split
  · rename_i h
    obtain ⟨h1, h2, h3, h4⟩ := sym_fit h
    rw [bitsL, if_pos h4, bitsR_len]; omega
  · rfl
theorem symL_pos (l : List Int) (m : Int) : 0 < (symL l m).length ↔ HasC l m := by
  have := symL_len l m
  split at this
  · rename_i h; have := (sym_fit h).1; constructor <;> intro _ <;> first | assumption | omega
  · rename_i h; constructor
    · intro h'; omega
    · intro h'; exact absurd h' h
instance SymBits_s : Con 91 (∀ (l : List Int) (m : Int), l.length ≤ 1099511627776 → Fn 91 [IL l, I m] [XI (symL l m)] (.own 0 0 0 (symL l m).length)) := ⟨fun l m hl => by
  by_cases h : HasC l m
  · obtain ⟨h1, h2, h3⟩ := id h
    obtain ⟨f1, f2, f3, f4⟩ := sym_fit h
    have h6 := h1.2.1
    have e := codesR_ok l h1
    have h7 : (codesR l).length = 6 := codesR_len l h1
    rw [← e] at f2 f3
    refine FnC.of_body tabOk Try.func91 Try.ntmps91 rfl (by decide +kernel) (by simp) fun G => ?_
    refine go (r := ?_); and_intros <;> intros <;> try exact True.intro
    all_goals first | (exact absurd ‹CodeOk l› ‹¬ CodeOk l›) | (exact absurd h1 (by assumption)) | (exact absurd h2 (by assumption)) | (exact absurd (by assumption) h3) | skip
    · rw [symL, if_pos h, e]
    · rw [symL, if_pos h, e]
  · have e : symL l m = [] := by rw [symL, if_neg h]
    by_cases hc : CodeOk l
    · have h6 := hc.2.1
      have h7 : (codes l).length = 6 := by rw [codes_len, h6]
      by_cases hm : 0 ≤ m ∧ m ≤ 5
      · have h0 : l.getD m.toNat 0 = 0 := Decidable.not_not.1 fun hh => h ⟨hc, hm, hh⟩
        refine FnC.of_body tabOk Try.func91 Try.ntmps91 rfl (by decide +kernel) (by simp) fun G => ?_
        refine go (r := ?_); and_intros <;> intros <;> try exact True.intro
        all_goals first | (rw [e]; done) | (rw [e]; rfl) | skip
      · refine FnC.of_body tabOk Try.func91 Try.ntmps91 rfl (by decide +kernel) (by simp) fun G => ?_
        refine go (r := ?_); and_intros <;> intros <;> try exact True.intro
        all_goals first | (rw [e]; done) | (rw [e]; rfl) | skip
    · refine FnC.of_body tabOk Try.func91 Try.ntmps91 rfl (by decide +kernel) (by simp) fun G => ?_
      refine go (r := ?_); and_intros <;> intros <;> try exact True.intro
      all_goals first | (rw [e]; done) | (rw [e]; rfl) | skip⟩
instance SymBits_c : Con 66 (∀ (l : List Int) (m : Int), l.length ≤ 1099511627776 → Fn 66 [IL l, I m] [XI (symL l m)] (.own 0 0 0 (symL l m).length)) := ⟨fun l m hl => by
  by_cases h : HasC l m
  · obtain ⟨h1, h2, h3⟩ := id h
    obtain ⟨f1, f2, f3, f4⟩ := sym_fit h
    have h6 := h1.2.1
    have h7 : (codes l).length = 6 := by rw [codes_len, h6]
    refine FnC.of_body tabOk Try.func66 Try.ntmps66 rfl (by decide +kernel) (by simp) fun G => ?_
    refine go (r := ?_); and_intros <;> intros <;> try exact True.intro
    all_goals first | (exact absurd ‹CodeOk l› ‹¬ CodeOk l›) | (exact absurd h1 (by assumption)) | (exact absurd h2 (by assumption)) | (exact absurd (by assumption) h3) | skip
    · rw [symL, if_pos h]
    · rw [symL, if_pos h]
  · have e : symL l m = [] := by rw [symL, if_neg h]
    by_cases hc : CodeOk l
    · have h6 := hc.2.1
      have h7 : (codes l).length = 6 := by rw [codes_len, h6]
      by_cases hm : 0 ≤ m ∧ m ≤ 5
      · have h0 : l.getD m.toNat 0 = 0 := Decidable.not_not.1 fun hh => h ⟨hc, hm, hh⟩
        refine FnC.of_body tabOk Try.func66 Try.ntmps66 rfl (by decide +kernel) (by simp) fun G => ?_
        refine go (r := ?_); and_intros <;> intros <;> try exact True.intro
        all_goals first | (rw [e]; done) | (rw [e]; rfl) | skip
      · refine FnC.of_body tabOk Try.func66 Try.ntmps66 rfl (by decide +kernel) (by simp) fun G => ?_
        refine go (r := ?_); and_intros <;> intros <;> try exact True.intro
        all_goals first | (rw [e]; done) | (rw [e]; rfl) | skip
    · refine FnC.of_body tabOk Try.func66 Try.ntmps66 rfl (by decide +kernel) (by simp) fun G => ?_
      refine go (r := ?_); and_intros <;> intros <;> try exact True.intro
      all_goals first | (rw [e]; done) | (rw [e]; rfl) | skip⟩
/-! The first mode with a code. -/
def firstM (l : List Int) : Nat := l.findIdx (fun x => decide (x ≠ 0))
def modeF (q : Int) (l ms : List Int) (k : Int) : Int := if OptOk q l ∧ 0 ≤ k then
  (if ms ≠ [] ∧ HasC l (ms.getD (k % ms.length).toNat 0) then ms.getD (k % ms.length).toNat 0 else firstM l) else -1
abbrev OpO (q : Int) (b d : Bool) (l m : List Int) (e : List Bool) : AObj := ⟨[I q, B b, B d, IL l, IL m, BL e], 0, 0, none⟩
end Go.Proofs.Ytpokokcgoebbhaa

/- Contracts of the counts over a stream, and of the laws FnExactNonZeros and FnExactModeCounts. No condition. -/
namespace Go.Proofs.Ytpokokcgoebbhaa
open Go Go.Abs
set_option linter.unusedVariables false
set_option linter.unusedSimpArgs false
set_option maxRecDepth 100000
set_option maxHeartbeats 4000000
attribute [local irreducible] WpA WpL Rnd Blk Abs.Seq Abs.Fin Abs.FinG FnC FnG Only

def nz1 (x : Int) : Nat := if x = 0 then 0 else 1
def nzB (b : Blok) : Nat := (b.2.map nz1).sum
def nzM (m : Mbk) : Nat := (m.2.map nzB).sum
/-! How often each mode occurs. -/
def modeNames : List (List UInt8) := [[109, 101, 97, 110], [100, 111, 119, 110], [97, 99, 114, 111, 115, 115], [115, 108, 111, 112, 101], [108, 101, 102, 116], [114, 105, 103, 104, 116]]
def modeW (m : Int) : List UInt8 := if 0 ≤ m ∧ m ≤ 5 then modeNames.getD m.toNat [] else []
def addAt (c : List Int) (m : Int) : List Int := if 0 ≤ m ∧ m ≤ 5 then c.set m.toNat (c.getD m.toNat 0 + 1) else c
def mcB (c : List Int) (bs : List Blok) (k : Nat) : List Int := (bs.take k).foldl (fun c b => addAt c b.1) c
def mcM (M : List Mbk) (i : Nat) : List Int := (M.take i).foldl (fun c m => mcB c m.2 m.2.length) [0, 0, 0, 0, 0, 0]
end Go.Proofs.Ytpokokcgoebbhaa

/- Contracts: what lies around a square, the predictions, residuals. No condition. -/
namespace Go.Proofs.Ytpokokcgoebbhaa
open Go Go.Abs
set_option linter.unusedVariables false
set_option linter.unusedSimpArgs false
set_option maxRecDepth 100000
set_option maxHeartbeats 4000000
attribute [local irreducible] WpA WpL Rnd Blk Abs.Seq Abs.Fin Abs.FinG FnC FnG Only

/-! Sides. -/
def side (k : Nat) : Int := if k = 16 then 4 else if k = 64 then 8 else 0
theorem side_pos (k : Nat) : 0 < side k ↔ k = 16 ∨ k = 64 := by unfold side; split <;> (try split) <;> omega
theorem side_cases (k : Nat) : (k = 16 ∧ side k = 4) ∨ (k = 64 ∧ side k = 8) ∨ (k ≠ 16 ∧ k ≠ 64 ∧ side k = 0) := by unfold side; split <;> (try split) <;> omega
instance SizeOk_s : Con 90 (∀ n : Int, Fn 90 [I n] [] (B (decide (n = 4 ∨ n = 8)))) := ⟨fun n => by
  refine FnC.of_body tabOk Try.func90 Try.ntmps90 rfl (by decide +kernel) (by simp) fun G => ?_
  refine go (r := ?_); and_intros <;> intros <;> try exact True.intro
  all_goals simp_all⟩
instance SizeOk_c : Con 60 (∀ n : Int, Fn 60 [I n] [] (B (decide (n = 4 ∨ n = 8)))) := ⟨fun n => by
  refine FnC.of_body tabOk Try.func60 Try.ntmps60 rfl (by decide +kernel) (by simp) fun G => ?_
  refine go (r := ?_); and_intros <;> intros <;> try exact True.intro
  all_goals simp_all⟩
instance l9Side_s : Con 125 (∀ l : List Int, l.length ≤ 9223372036854775807 → Fn 125 [IL l] [] (I (side l.length))) := ⟨fun l hl => by
  refine FnC.of_body tabOk Try.func125 Try.ntmps125 rfl (by decide +kernel) (by simp) fun G => ?_
  have h := side_cases l.length
  refine go (r := ?_); and_intros <;> intros <;> try exact True.intro⟩
instance sizeOf_c : Con 109 (∀ k : Nat, Fn 109 [I k] [] (I (side k))) := ⟨fun k => by
  refine FnC.of_body tabOk Try.func109 Try.ntmps109 rfl (by decide +kernel) (by simp) fun G => ?_
  have h := side_cases k
  refine go (r := ?_); and_intros <;> intros <;> try exact True.intro⟩

/-! Sums. -/
def psum (l : List Int) (k : Nat) : Int := (l.take k).sum
instance Clone_c : Con 49 (∀ l : List Int, l.length ≤ 1099511627776 → Fn 49 [IL l] [XI l] (.own 0 0 0 l.length)) := ⟨fun l hl => by
  refine FnC.of_body tabOk Try.func49 Try.ntmps49 rfl (by decide +kernel) (by simp) fun G => ?_
  refine go (r := ?_); and_intros <;> intros <;> try exact True.intro
  all_goals (have e : l = [] := List.eq_nil_of_length_eq_zero (by omega)); subst e; rfl⟩
/-- The first i and the last i turned. -/
def revp (l : List Int) (i : Nat) : List Int := (List.range l.length).map fun k => if k < i ∨ l.length - 1 - k < i then l.getD (l.length - 1 - k) 0 else l.getD k 0
end Go.Proofs.Ytpokokcgoebbhaa

/- Contracts: headers, levels, blocks, macroblocks, streams that are right. No condition. -/
namespace Go.Proofs.Ytpokokcgoebbhaa
open Go Go.Abs
set_option linter.unusedVariables false
set_option linter.unusedSimpArgs false
set_option maxRecDepth 100000
set_option maxHeartbeats 4000000
attribute [local irreducible] WpA WpL Rnd Blk Abs.Seq Abs.Fin Abs.FinG FnC FnG Only

/-! Headers. -/
abbrev HdOk (w h q : Int) (l : List Int) : Prop := SidesOk w h ∧ (0 ≤ q ∧ q ≤ 51) ∧ CodeOk l
def cntM (w h : Int) : Int := w / 8 * (h / 8)
/-! Levels. -/
abbrev LvOk (l : List Int) : Prop := In l (-16383) 16383 ∧ (l.length = 16 ∨ l.length = 64)
instance LevelsOk_s : Con 92 (∀ l : List Int, l.length ≤ 1099511627776 → Fn 92 [IL l] [] (B (decide (LvOk l)))) := ⟨fun l hl => by
  have hsp := side_pos l.length
  refine FnC.of_body tabOk Try.func92 Try.ntmps92 rfl (by decide +kernel) (by simp) fun G => ?_
  refine go (r := ?_); and_intros <;> intros <;> try exact True.intro
  refine WpA.loop (fun k : Nat => ⟨[(0, IL l), (3, I k)], []⟩) (fun k => k ≤ l.length ∧ In (l.take k) (-16383) 16383) (fun k => l.length - k) 0 (by simp [in_nil]) (go (r := ?_)) (fun k hk => ?_)
  · trivial
  have hi := fun h => in_snoc (lo := -16383) (hi := 16383) (l := l) (k := k) h
  refine go (r := ?_); and_intros <;> intros <;> try exact True.intro
  · have := notin (k := k) (by omega) ‹¬ (-16383 ≤ l.getD k 0 ∧ _)›; rw [eq_comm, decide_eq_false_iff_not] at *; exact fun h => this h.1
  · rw [hi (by omega)]; exact ⟨hk.2, ‹_›⟩
  all_goals have e : k = l.length := by omega
  all_goals subst e
  all_goals rw [List.take_length] at *
  simp [hk.2, hsp]⟩
instance LevelsOk_c : Con 67 (∀ l : List Int, l.length ≤ 1099511627776 → Fn 67 [IL l] [] (B (decide (LvOk l)))) := ⟨fun l hl => by
  have hsp := side_pos l.length
  refine FnC.of_body tabOk Try.func67 Try.ntmps67 rfl (by decide +kernel) (by simp) fun G => ?_
  refine go (r := ?_); and_intros <;> intros <;> try exact True.intro
  refine WpA.loop (fun k : Nat => ⟨[(0, IL l), (5, IL l), (6, I l.length), (7, I k)], []⟩) (fun k => k ≤ l.length ∧ In (l.take k) (-16383) 16383) (fun k => l.length - k) 0 (by simp [in_nil]) (go (r := ?_)) (fun k hk => ?_)
  · trivial
  have hi := fun h => in_snoc (lo := -16383) (hi := 16383) (l := l) (k := k) h
  refine go (r := ?_); and_intros <;> intros <;> try exact True.intro
  · have := notin (k := k) (by omega) ‹¬ (-16383 ≤ l.getD k 0 ∧ _)›; rw [eq_comm, decide_eq_false_iff_not] at *; exact fun h => this h.1
  · rw [hi (by omega)]; exact ⟨hk.2, ‹_›⟩
  all_goals have e : k = l.length := by omega
  all_goals subst e
  all_goals rw [List.take_length] at *
  simp [hk.2, hsp]⟩

/-! Blocks. -/
abbrev BlkOk (m : Int) (lv : List Int) (lens : List Int) (n : Int) : Prop := (n = 4 ∨ n = 8) ∧ HasC lens m ∧ (lv.length : Int) = n * n ∧ LvOk lv
instance BlockOk_s : Con 46 (∀ (m : Int) (lv lens : List Int) (n : Int), lv.length ≤ 1099511627776 ∧ lens.length ≤ 1099511627776 → Fn 46 [.agg [I m, IL lv], IL lens, I n] [] (B (decide (BlkOk m lv lens n)))) := ⟨fun m lv lens n hl => by
  have hp := symL_pos lens m
  have hnn : n = 4 ∨ n = 8 → 0 ≤ n * n ∧ n * n ≤ 64 := by rintro (rfl | rfl) <;> decide
  refine FnC.of_body tabOk Try.func46 Try.ntmps46 rfl (by decide +kernel) (by simp) fun G => ?_
  refine go (r := ?_); and_intros <;> intros <;> try exact True.intro
  all_goals simp_all⟩
instance BlockOk_c : Con 29 (∀ (m : Int) (lv lens : List Int) (n : Int), lv.length ≤ 1099511627776 ∧ lens.length ≤ 1099511627776 → Fn 29 [.agg [I m, IL lv], IL lens, I n] [] (B (decide (BlkOk m lv lens n)))) := ⟨fun m lv lens n hl => by
  have hp := symL_pos lens m
  have hnn : n = 4 ∨ n = 8 → 0 ≤ n * n ∧ n * n ≤ 64 := by rintro (rfl | rfl) <;> decide
  refine FnC.of_body tabOk Try.func29 Try.ntmps29 rfl (by decide +kernel) (by simp) fun G => ?_
  refine go (r := ?_); and_intros <;> intros <;> try exact True.intro
  all_goals simp_all⟩

/-! The first place that passes a test. -/
def ixF {α : Type} (p : α → Bool) (l : List α) : Int := if l.any p = true then (l.findIdx p : Int) else -1
theorem ixF_at {α : Type} [Inhabited α] {p : α → Bool} {l : List α} {i : Nat} (hi : i < l.length) (h0 : ∀ j < i, p (l.getD j default) = false) (h1 : p (l.getD i default) = true) : (i : Int) = ixF p l := by
  have hg : ∀ j (hj : j < l.length), l.getD j default = l[j] := fun j hj => by simp [hj]
  unfold ixF
  rw [if_pos (List.any_eq_true.2 ⟨l[i], List.getElem_mem hi, by rw [← hg i hi]; exact h1⟩)]
  congr 1
  rw [eq_comm, List.findIdx_eq hi]
  exact ⟨by rw [← hg i hi]; exact h1, fun j hj => by rw [← hg j (by omega)]; exact h0 j hj⟩
theorem ixF_no {α : Type} [Inhabited α] {p : α → Bool} {l : List α} (h0 : ∀ j < l.length, p (l.getD j default) = false) : -1 = ixF p l := by
  have hg : ∀ j (hj : j < l.length), l.getD j default = l[j] := fun j hj => by simp [hj]
  unfold ixF
  rw [if_neg]
  intro h
  obtain ⟨x, hx, hp⟩ := List.any_eq_true.1 h
  obtain ⟨j, hj, rfl⟩ := List.getElem_of_mem hx
  have := h0 j hj
  rw [hg j hj, hp] at this; cases this
theorem ixF_ge {α : Type} (p : α → Bool) (l : List α) : ixF p l ≥ 0 ↔ l.any p = true := by
  unfold ixF; split
  · rename_i h; simp [h]
  · rename_i h; simp [h]
/-! Macroblocks. -/
def badB (lens : List Int) (n : Int) (b : Blok) : Bool := decide (¬ BlkOk b.1 b.2 lens n)
abbrev fB (lens : List Int) (n : Int) : AV := .fn 48 [.iptr [IL lens] 0, .iptr [I n] 0]
instance MbOk1_c : Con 48 (∀ (m : Int) (lv lens : List Int) (n : Int), lv.length ≤ 1099511627776 ∧ lens.length ≤ 1099511627776 → Fn 48 [.agg [I m, IL lv], .iptr [IL lens] 0, .iptr [I n] 0] [] (B (badB lens n (m, lv)))) := ⟨fun m lv lens n hl => by
  unfold badB
  refine FnC.of_body tabOk Try.func48 Try.ntmps48 rfl (by decide +kernel) (by simp) fun G => ?_
  refine go (r := ?_); and_intros <;> intros <;> try exact True.intro
  all_goals simp_all⟩
instance IndexFuncB_c : Con 93 (∀ (l : List Blok) (lens : List Int) (n : Int), l.length ≤ 1099511627776 ∧ SmB 1099511627776 l ∧ lens.length ≤ 1099511627776 → Fn 93 [BkL l, fB lens n] [] (I (ixF (badB lens n) l))) := ⟨fun l lens n hl => by
  refine FnC.of_body tabOk Try.func93 Try.ntmps93 rfl (by decide +kernel) (by simp) fun G => ?_
  refine go (r := ?_); and_intros <;> intros <;> try exact True.intro
  refine WpA.loop (fun k : Nat => ⟨[(0, BkL l), (1, fB lens n), (7, I l.length), (8, I k)], []⟩) (fun k => k ≤ l.length ∧ ∀ j < k, badB lens n (l.getD j default) = false) (fun k => l.length - k) 0 (by simp) (go (r := ?_)) (fun k hk => ?_)
  · trivial
  have hg := fun h => smB_get hl.2.1 (k := k) h
  refine go (r := ?_); and_intros <;> intros <;> try exact True.intro
  · exact ixF_at (by omega) hk.2 (by unfold badB; exact decide_eq_true ‹_›)
  · rename_i j hj; by_cases h : j = k
    · subst h; unfold badB; exact decide_eq_false ‹_›
    · exact hk.2 j (by omega)
  all_goals (have e : k = l.length := by omega); subst e; exact ixF_no hk.2⟩
end Go.Proofs.Ytpokokcgoebbhaa
