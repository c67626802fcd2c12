/- Proved in this text: lemmas and contracts of functions that the claim uses (parts: Go, Base, Frame, TxP, GoR). No condition. -/
import Derived.Test.YtkckmenalehdpaaDoorRhM5
set_option linter.unusedVariables false
set_option linter.unusedSimpArgs false
set_option maxRecDepth 100000
set_option maxHeartbeats 4000000


namespace Go.Proofs.YtkckmenalehdpaaDoor
open Go Go.Abs
theorem mixed : Tryd.prog.follows .mixedOrders = true := by kernel_rfl
class Con (f : Nat) (C : outParam Prop) : Prop where
  ok : C
class ConB (f : Nat) (C : outParam Prop) : Prop where
  ok : C
class ConG (f : Nat) (C : outParam Prop) : Prop where
  ok : C
class ConP (f : Nat) (C : outParam Prop) : Prop where
  ok : C
abbrev Gn (f : Nat) (args : List AV) (M M' N : List AObj) (r : AV) : Prop := FnG Tryd.prog f args M M' N r
abbrev Fn (f : Nat) (args : List AV) (N : List AObj) (r : AV) : Prop := FnC Tryd.prog f args N r
theorem K.con {n m : Nat} {G : Ctx} {σ : St} {Q : Exit → St → Prop} {md : Bool} {ops : Array Oper} {l : List Oper} {dd : Option Nat} {tt : TypeId} {pos : String} {after : Array Edge} {f : Nat} {C : Prop} {xs : Array Operand} {ats : Array TypeId} [i : Con f C]
    (h : C → WpL Tryd.prog n m G md ops ({ dst := dd, op := .call { callee := .value (.func f), args := xs, argTypes := ats }, type := tt, pos := pos, after := after, guard := none } :: l) σ Q) : WpL Tryd.prog n m G md ops ({ dst := dd, op := .call { callee := .value (.func f), args := xs, argTypes := ats }, type := tt, pos := pos, after := after, guard := none } :: l) σ Q := h i.ok
theorem K.conG {n m : Nat} {G : Ctx} {σ : St} {Q : Exit → St → Prop} {md : Bool} {ops : Array Oper} {l : List Oper} {dd : Option Nat} {tt : TypeId} {pos : String} {after : Array Edge} {f : Nat} {C : Prop} {xs : Array Operand} {ats : Array TypeId} [i : ConG f C]
    (h : C → WpL Tryd.prog n m G md ops ({ dst := dd, op := .call { callee := .value (.func f), args := xs, argTypes := ats }, type := tt, pos := pos, after := after, guard := none } :: l) σ Q) : WpL Tryd.prog n m G md ops ({ dst := dd, op := .call { callee := .value (.func f), args := xs, argTypes := ats }, type := tt, pos := pos, after := after, guard := none } :: l) σ Q := h i.ok
theorem K.conB {n m : Nat} {G : Ctx} {σ : St} {Q : Exit → St → Prop} {md : Bool} {ops : Array Oper} {l : List Oper} {dd : Option Nat} {tt : TypeId} {pos : String} {after : Array Edge} {f : Nat} {C : Prop} {xs : Array Operand} {ats : Array TypeId} [i : ConB f C]
    (h : C → WpL Tryd.prog n m G md ops ({ dst := dd, op := .call { callee := .value (.func f), args := xs, argTypes := ats }, type := tt, pos := pos, after := after, guard := none } :: l) σ Q) : WpL Tryd.prog n m G md ops ({ dst := dd, op := .call { callee := .value (.func f), args := xs, argTypes := ats }, type := tt, pos := pos, after := after, guard := none } :: l) σ Q := h i.ok
theorem K.conP {n m : Nat} {G : Ctx} {σ : St} {Q : Exit → St → Prop} {md : Bool} {ops : Array Oper} {l : List Oper} {dd : Option Nat} {tt : TypeId} {pos : String} {after : Array Edge} {f : Nat} {C : Prop} {xs : Array Operand} {ats : Array TypeId} [i : ConP f C]
    (h : C → WpL Tryd.prog n m G md ops ({ dst := dd, op := .call { callee := .value (.func f), args := xs, argTypes := ats }, type := tt, pos := pos, after := after, guard := none } :: l) σ Q) : WpL Tryd.prog n m G md ops ({ dst := dd, op := .call { callee := .value (.func f), args := xs, argTypes := ats }, type := tt, pos := pos, after := after, guard := none } :: l) σ Q := h i.ok
theorem snapA {O : List AObj} {vs us : List AV} (h : Snap O vs us := by
      (repeat' (first
      | exact Snap.nil
      | refine Snap.fn ?_ ?_
      | refine Snap.keep rfl rfl ?_
      | refine Snap.ownL rfl rfl rfl ?_ ?_ ?_ ?_
      | refine Snap.agg ?_ ?_
      | refine Snap.nilI ?_
      | refine Snap.fre ?_ ?_
      | refine Snap.ptr rfl rfl ?_ ?_
      | exact Snap.same rfl (still_ints _) (nofre_ints _)
      | exact Snap.same rfl (still_u8s _) (nofre_u8s _)
      | exact Snap.same rfl (still_strs _) (nofre_strs _)
      | exact Snap.same rfl (still_bools _) (nofre_bools _)
      | exact Snap.same rfl (still_rows (fun _ => rfl) _) (nofre_rows (fun _ => rfl) _)
      | (apply K.eq; first | exact rfl | omega | (simp; done) | (simp; omega))
      )); first | done | fail) : Snap O vs us := h
theorem locA {vs : List AV} (h : Abs.Loc vs := by
      (repeat' (first
      | exact Loc.nil
      | refine Loc.sc ?_
      | refine Loc.own ?_
      | refine Loc.nilS ?_
      | refine Loc.imm0 ?_
      | refine Loc.agg ?_ ?_
      | refine Loc.tup ?_ ?_
      | refine Loc.ifc ?_ ?_
      | refine Loc.any ?_
      )); first | done | fail) : Abs.Loc vs := h
theorem outA {N : List AObj} (h : Out N := by
      (repeat' (first
      | exact Out.nil
      | refine Out.cons (still_ints _) (Loc.ints _) ?_
      | refine Out.cons (still_u8s _) (Loc.u8s _) ?_
      | refine Out.cons (still_strs _) (Loc.strs _) ?_
      | refine Out.cons (still_bools _) (Loc.bools _) ?_
      | refine Out.cons (still_rows (fun _ => rfl) _) (Loc.rows loc_pr _) ?_
      | refine Out.cons (still_rows (fun _ => rfl) _) (Loc.rows loc_blk _) ?_
      | refine Out.cons (still_rows (fun _ => rfl) _) (Loc.rows loc_mb _) ?_
      | refine Out.cons (still_rows (fun _ => rfl) _) (Loc.rows loc_fr _) ?_
      | refine Out.cons (still_rows (fun _ => rfl) _) (Loc.rows loc_pl _) ?_
      | refine Out.cons (still_rows (fun _ => rfl) _) (Loc.rows loc_li _) ?_
      | refine Out.cons rfl (by repeat' (first | exact Loc.nil | refine Loc.sc ?_ | refine Loc.nilS ?_ | refine Loc.fre ?_ ?_ | exact Loc.ints _ | exact Loc.u8s _ | exact Loc.bools _ | exact Loc.strs _); first | done | fail) ?_
      )); first | done | fail) : Out N := h
theorem handA {O : List AObj} {hs : List Nat} {M : List AObj} {vs us : List AV} (h : HandM O hs M vs us := by
      (repeat' (first
      | exact HandM.nil
      | refine HandM.keep rfl rfl ?_
      | refine HandM.own rfl rfl rfl rfl rfl (by first | rfl | omega | (simp; done) | (simp; omega)) ?_
      | refine HandM.agg ?_ ?_
      )); first | done | fail) : HandM O hs M vs us := h
theorem handOA {O : List AObj} {hs : List Nat} {M : List AObj} (h : HandO O hs M := by
      (repeat' (first
      | exact HandO.nil
      | refine HandO.cons rfl rfl (still_ints _) rfl rfl (by first | exact .inl rfl | exact .inr rfl) ?_
      | refine HandO.cons rfl rfl (still_strs _) rfl rfl (by first | exact .inl rfl | exact .inr rfl) ?_
      | refine HandO.cons rfl rfl (still_bools _) rfl rfl (by first | exact .inl rfl | exact .inr rfl) ?_
      | refine HandO.cons rfl rfl (still_u8s _) rfl rfl (by first | exact .inl rfl | exact .inr rfl) ?_
      | refine HandO.cons rfl rfl (still_rows (fun _ => rfl) _) rfl rfl (by first | exact .inl rfl | exact .inr rfl) ?_
      | refine HandO.cons rfl rfl rfl rfl rfl (by first | exact .inl rfl | exact .inr rfl) ?_
      )); first | done | fail) : HandO O hs M := h
theorem in1 {X : Prop} (h : X := by
  (repeat' (first
     | refine fun hgo => ?_
     | exact Only.mk rfl
     | refine WpL.nil ?_
     | (refine K.L ?_; first
       | (refine K.mv ?_; refine WpL.move rfl (by decide) ?_)
       | (refine K.asg ?_; refine WpL.assign rfl (by decide) ?_)
       | (refine K.bin ?_; first
         | refine WpL.add rfl rfl (by omega) (by decide) ?_
         | refine WpL.sub rfl rfl (by omega) (by decide) ?_
         | refine WpL.quo rfl rfl (by omega) (by decide) ?_
         | refine WpL.rem rfl rfl (by omega) (by decide) ?_
         | refine WpL.bin rfl rfl rfl (by decide) ?_
         | refine WpL.strAdd rfl rfl (by first | omega | (simp only [List.length_append]; omega) | (simp; omega)) (by decide) ?_
         | refine WpL.strEq rfl rfl (by decide) ?_
         | refine WpL.strNe rfl rfl (by decide) ?_
         | refine WpL.boolNe (K.tyBool tabOk rfl) rfl rfl (by decide) ?_
         | refine WpL.ifcNe tabOk rfl rfl (by decide) ?_
         | refine WpL.nifNe tabOk rfl rfl (by decide) ?_
         | refine WpL.shl rfl rfl (by first | decide | (simp only [IntKind.bits]; omega)) (by decide) ?_)
       | (refine K.ld ?_; first
         | refine WpL.loadInts tabOk rfl rfl rfl (by first | omega | (simp; omega)) (by decide) ?_
         | refine WpL.loadStrs tabOk rfl rfl rfl (by first | omega | (simp; omega)) (by decide) ?_
         | refine WpL.load1 tabOk rfl rfl rfl rfl rfl (by decide) ?_
         | refine WpL.loadAgg (ds := [_]) tabOk rfl rfl rfl rfl rfl (by decide) ?_
         | refine WpL.loadAgg (ds := [_, _]) tabOk rfl rfl rfl rfl rfl (by decide) ?_
         | refine WpL.loadAgg (ds := [_, _, _]) tabOk rfl rfl rfl rfl rfl (by decide) ?_
         | refine WpL.loadAgg (ds := [_, _, _, _]) tabOk rfl rfl rfl rfl rfl (by decide) ?_
         | refine WpL.loadAgg (ds := [_, _, _, _, _]) tabOk rfl rfl rfl rfl rfl (by decide) ?_
         | refine WpL.loadAgg (ds := [_, _, _, _, _, _]) tabOk rfl rfl rfl rfl rfl (by decide) ?_
         | refine WpL.loadAgg (ds := [_, _, _, _, _, _, _]) tabOk rfl rfl rfl rfl rfl (by decide) ?_
         | refine WpL.loadAgg (ds := [_, _, _, _, _, _, _, _]) tabOk rfl rfl rfl rfl rfl (by decide) ?_)
       | (refine K.fld ?_; first
         | refine WpL.fieldP tabOk rfl rfl rfl rfl rfl (by decide) ?_)
       | (refine K.ixa ?_; first
         | refine WpL.idxI1 tabOk rfl rfl rfl (by omega) (by decide) ?_
         | refine WpL.idxIJ tabOk rfl rfl rfl (by omega) (by decide) ?_
         | refine WpL.idxOJ tabOk rfl rfl rfl rfl rfl (by omega) (by decide) ?_
         | refine WpL.idxI tabOk rfl rfl rfl (by omega) (by decide) ?_
         | refine WpL.idxO tabOk rfl rfl rfl rfl rfl (by omega) (by decide) ?_)
       | (refine K.call ?_; refine K.con (fun hcon => ?_); first
         | (refine WpL.callF (hcon ?_) snapA locA outA rfl rfl rfl (by decide) ?_ <;> clear hcon)
         | (refine WpL.callF (hcon) snapA locA outA rfl rfl rfl (by decide) ?_ <;> clear hcon)
         | (refine WpL.callF (hcon _ ?_) snapA locA outA rfl rfl rfl (by decide) ?_ <;> clear hcon)
         | (refine WpL.callF (hcon _) snapA locA outA rfl rfl rfl (by decide) ?_ <;> clear hcon)
         | (refine WpL.callF (hcon _ _ ?_) snapA locA outA rfl rfl rfl (by decide) ?_ <;> clear hcon)
         | (refine WpL.callF (hcon _ _) snapA locA outA rfl rfl rfl (by decide) ?_ <;> clear hcon)
         | (refine WpL.callF (hcon _ _ _ ?_) snapA locA outA rfl rfl rfl (by decide) ?_ <;> clear hcon)
         | (refine WpL.callF (hcon _ _ _) snapA locA outA rfl rfl rfl (by decide) ?_ <;> clear hcon)
         | (refine WpL.callF (hcon _ _ _ _ ?_) snapA locA outA rfl rfl rfl (by decide) ?_ <;> clear hcon)
         | (refine WpL.callF (hcon _ _ _ _) snapA locA outA rfl rfl rfl (by decide) ?_ <;> clear hcon)
         | (refine WpL.callF (hcon _ _ _ _ _ ?_) snapA locA outA rfl rfl rfl (by decide) ?_ <;> clear hcon)
         | (refine WpL.callF (hcon _ _ _ _ _) snapA locA outA rfl rfl rfl (by decide) ?_ <;> clear hcon)
         | (refine WpL.callF (hcon _ _ _ _ _ _ ?_) snapA locA outA rfl rfl rfl (by decide) ?_ <;> clear hcon)
         | (refine WpL.callF (hcon _ _ _ _ _ _) snapA locA outA rfl rfl rfl (by decide) ?_ <;> clear hcon)
         | (refine WpL.callF (hcon _ _ _ _ _ _ _ ?_) snapA locA outA rfl rfl rfl (by decide) ?_ <;> clear hcon)
         | (refine WpL.callF (hcon _ _ _ _ _ _ _) snapA locA outA rfl rfl rfl (by decide) ?_ <;> clear hcon)
         | (refine WpL.callF (hcon _ _ _ _ _ _ _ _ ?_) snapA locA outA rfl rfl rfl (by decide) ?_ <;> clear hcon)
         | (refine WpL.callF (hcon _ _ _ _ _ _ _ _) snapA locA outA rfl rfl rfl (by decide) ?_ <;> clear hcon)
         | (refine WpL.callF (hcon _ _ _ _ _ _ _ _ _ ?_) snapA locA outA rfl rfl rfl (by decide) ?_ <;> clear hcon)
         | (refine WpL.callF (hcon _ _ _ _ _ _ _ _ _) snapA locA outA rfl rfl rfl (by decide) ?_ <;> clear hcon)
         | (refine WpL.callF (hcon _ _ _ _ _ _ _ _ _ _ ?_) snapA locA outA rfl rfl rfl (by decide) ?_ <;> clear hcon)
         | (refine WpL.callF (hcon _ _ _ _ _ _ _ _ _ _) snapA locA outA rfl rfl rfl (by decide) ?_ <;> clear hcon)
         | (refine WpL.callF (hcon _ _ _ _ _ _ _ _ _ _ _ ?_) snapA locA outA rfl rfl rfl (by decide) ?_ <;> clear hcon)
         | (refine WpL.callF (hcon _ _ _ _ _ _ _ _ _ _ _) snapA locA outA rfl rfl rfl (by decide) ?_ <;> clear hcon)
         | (refine WpL.callF (hcon _ _ _ _ _ _ _ _ _ _ _ _ ?_) snapA locA outA rfl rfl rfl (by decide) ?_ <;> clear hcon)
         | (refine WpL.callF (hcon _ _ _ _ _ _ _ _ _ _ _ _) snapA locA outA rfl rfl rfl (by decide) ?_ <;> clear hcon)
         | (refine WpL.callF (hcon _ _ _ _ _ _ _ _ _ _ _ _ _ ?_) snapA locA outA rfl rfl rfl (by decide) ?_ <;> clear hcon)
         | (refine WpL.callF (hcon _ _ _ _ _ _ _ _ _ _ _ _ _) snapA locA outA rfl rfl rfl (by decide) ?_ <;> clear hcon)
         | (refine WpL.callF (hcon _ _ _ _ _ _ _ _ _ _ _ _ _ _ ?_) snapA locA outA rfl rfl rfl (by decide) ?_ <;> clear hcon)
         | (refine WpL.callF (hcon _ _ _ _ _ _ _ _ _ _ _ _ _ _) snapA locA outA rfl rfl rfl (by decide) ?_ <;> clear hcon)
         | (refine WpL.callF (hcon _ _ _ _ _ _ _ _ _ _ _ _ _ _ _ ?_) snapA locA outA rfl rfl rfl (by decide) ?_ <;> clear hcon)
         | (refine WpL.callF (hcon _ _ _ _ _ _ _ _ _ _ _ _ _ _ _) snapA locA outA rfl rfl rfl (by decide) ?_ <;> clear hcon)
         | (refine WpL.callF (hcon _ _ _ _ _ _ _ _ _ _ _ _ _ _ _ _ ?_) snapA locA outA rfl rfl rfl (by decide) ?_ <;> clear hcon)
         | (refine WpL.callF (hcon _ _ _ _ _ _ _ _ _ _ _ _ _ _ _ _) snapA locA outA rfl rfl rfl (by decide) ?_ <;> clear hcon)
         | (refine WpL.callF (hcon _ _ _ _ _ _ _ _ _ _ _ _ _ _ _ _ _ ?_) snapA locA outA rfl rfl rfl (by decide) ?_ <;> clear hcon)
         | (refine WpL.callF (hcon _ _ _ _ _ _ _ _ _ _ _ _ _ _ _ _ _) snapA locA outA rfl rfl rfl (by decide) ?_ <;> clear hcon)
         | (refine WpL.callF (hcon _ _ _ _ _ _ _ _ _ _ _ _ _ _ _ _ _ _ ?_) snapA locA outA rfl rfl rfl (by decide) ?_ <;> clear hcon)
         | (refine WpL.callF (hcon _ _ _ _ _ _ _ _ _ _ _ _ _ _ _ _ _ _) snapA locA outA rfl rfl rfl (by decide) ?_ <;> clear hcon))
       | (refine K.call ?_; refine K.conG (fun hcon => ?_); first
         | (refine WpL.callM (hs := [_]) (hcon ?_) handA handOA rfl rfl outA outA rfl rfl rfl rfl (by decide) ?_ <;> clear hcon)
         | (refine WpL.callM (hs := [_]) (hcon) handA handOA rfl rfl outA outA rfl rfl rfl rfl (by decide) ?_ <;> clear hcon)
         | (refine WpL.callM (hs := [_]) (hcon _ ?_) handA handOA rfl rfl outA outA rfl rfl rfl rfl (by decide) ?_ <;> clear hcon)
         | (refine WpL.callM (hs := [_]) (hcon _) handA handOA rfl rfl outA outA rfl rfl rfl rfl (by decide) ?_ <;> clear hcon)
         | (refine WpL.callM (hs := [_]) (hcon _ _ ?_) handA handOA rfl rfl outA outA rfl rfl rfl rfl (by decide) ?_ <;> clear hcon)
         | (refine WpL.callM (hs := [_]) (hcon _ _) handA handOA rfl rfl outA outA rfl rfl rfl rfl (by decide) ?_ <;> clear hcon)
         | (refine WpL.callM (hs := [_]) (hcon _ _ _ ?_) handA handOA rfl rfl outA outA rfl rfl rfl rfl (by decide) ?_ <;> clear hcon)
         | (refine WpL.callM (hs := [_]) (hcon _ _ _) handA handOA rfl rfl outA outA rfl rfl rfl rfl (by decide) ?_ <;> clear hcon)
         | (refine WpL.callM (hs := [_]) (hcon _ _ _ _ ?_) handA handOA rfl rfl outA outA rfl rfl rfl rfl (by decide) ?_ <;> clear hcon)
         | (refine WpL.callM (hs := [_]) (hcon _ _ _ _) handA handOA rfl rfl outA outA rfl rfl rfl rfl (by decide) ?_ <;> clear hcon)
         | (refine WpL.callM (hs := [_]) (hcon _ _ _ _ _ ?_) handA handOA rfl rfl outA outA rfl rfl rfl rfl (by decide) ?_ <;> clear hcon)
         | (refine WpL.callM (hs := [_]) (hcon _ _ _ _ _) handA handOA rfl rfl outA outA rfl rfl rfl rfl (by decide) ?_ <;> clear hcon)
         | (refine WpL.callM (hs := [_]) (hcon _ _ _ _ _ _ ?_) handA handOA rfl rfl outA outA rfl rfl rfl rfl (by decide) ?_ <;> clear hcon)
         | (refine WpL.callM (hs := [_]) (hcon _ _ _ _ _ _) handA handOA rfl rfl outA outA rfl rfl rfl rfl (by decide) ?_ <;> clear hcon)
         | (refine WpL.callM (hs := [_]) (hcon _ _ _ _ _ _ _ ?_) handA handOA rfl rfl outA outA rfl rfl rfl rfl (by decide) ?_ <;> clear hcon)
         | (refine WpL.callM (hs := [_]) (hcon _ _ _ _ _ _ _) handA handOA rfl rfl outA outA rfl rfl rfl rfl (by decide) ?_ <;> clear hcon)
         | (refine WpL.callM (hs := [_]) (hcon _ _ _ _ _ _ _ _ ?_) handA handOA rfl rfl outA outA rfl rfl rfl rfl (by decide) ?_ <;> clear hcon)
         | (refine WpL.callM (hs := [_]) (hcon _ _ _ _ _ _ _ _) handA handOA rfl rfl outA outA rfl rfl rfl rfl (by decide) ?_ <;> clear hcon)
         | (refine WpL.callM (hs := [_, _]) (hcon ?_) handA handOA rfl rfl outA outA rfl rfl rfl rfl (by decide) ?_ <;> clear hcon)
         | (refine WpL.callM (hs := [_, _]) (hcon) handA handOA rfl rfl outA outA rfl rfl rfl rfl (by decide) ?_ <;> clear hcon)
         | (refine WpL.callM (hs := [_, _]) (hcon _ ?_) handA handOA rfl rfl outA outA rfl rfl rfl rfl (by decide) ?_ <;> clear hcon)
         | (refine WpL.callM (hs := [_, _]) (hcon _) handA handOA rfl rfl outA outA rfl rfl rfl rfl (by decide) ?_ <;> clear hcon)
         | (refine WpL.callM (hs := [_, _]) (hcon _ _ ?_) handA handOA rfl rfl outA outA rfl rfl rfl rfl (by decide) ?_ <;> clear hcon)
         | (refine WpL.callM (hs := [_, _]) (hcon _ _) handA handOA rfl rfl outA outA rfl rfl rfl rfl (by decide) ?_ <;> clear hcon)
         | (refine WpL.callM (hs := [_, _]) (hcon _ _ _ ?_) handA handOA rfl rfl outA outA rfl rfl rfl rfl (by decide) ?_ <;> clear hcon)
         | (refine WpL.callM (hs := [_, _]) (hcon _ _ _) handA handOA rfl rfl outA outA rfl rfl rfl rfl (by decide) ?_ <;> clear hcon)
         | (refine WpL.callM (hs := [_, _]) (hcon _ _ _ _ ?_) handA handOA rfl rfl outA outA rfl rfl rfl rfl (by decide) ?_ <;> clear hcon)
         | (refine WpL.callM (hs := [_, _]) (hcon _ _ _ _) handA handOA rfl rfl outA outA rfl rfl rfl rfl (by decide) ?_ <;> clear hcon)
         | (refine WpL.callM (hs := [_, _]) (hcon _ _ _ _ _ ?_) handA handOA rfl rfl outA outA rfl rfl rfl rfl (by decide) ?_ <;> clear hcon)
         | (refine WpL.callM (hs := [_, _]) (hcon _ _ _ _ _) handA handOA rfl rfl outA outA rfl rfl rfl rfl (by decide) ?_ <;> clear hcon)
         | (refine WpL.callM (hs := [_, _]) (hcon _ _ _ _ _ _ ?_) handA handOA rfl rfl outA outA rfl rfl rfl rfl (by decide) ?_ <;> clear hcon)
         | (refine WpL.callM (hs := [_, _]) (hcon _ _ _ _ _ _) handA handOA rfl rfl outA outA rfl rfl rfl rfl (by decide) ?_ <;> clear hcon)
         | (refine WpL.callM (hs := [_, _]) (hcon _ _ _ _ _ _ _ ?_) handA handOA rfl rfl outA outA rfl rfl rfl rfl (by decide) ?_ <;> clear hcon)
         | (refine WpL.callM (hs := [_, _]) (hcon _ _ _ _ _ _ _) handA handOA rfl rfl outA outA rfl rfl rfl rfl (by decide) ?_ <;> clear hcon)
         | (refine WpL.callM (hs := [_, _]) (hcon _ _ _ _ _ _ _ _ ?_) handA handOA rfl rfl outA outA rfl rfl rfl rfl (by decide) ?_ <;> clear hcon)
         | (refine WpL.callM (hs := [_, _]) (hcon _ _ _ _ _ _ _ _) handA handOA rfl rfl outA outA rfl rfl rfl rfl (by decide) ?_ <;> clear hcon)
         | (refine WpL.callM (hs := [_, _, _]) (hcon ?_) handA handOA rfl rfl outA outA rfl rfl rfl rfl (by decide) ?_ <;> clear hcon)
         | (refine WpL.callM (hs := [_, _, _]) (hcon) handA handOA rfl rfl outA outA rfl rfl rfl rfl (by decide) ?_ <;> clear hcon)
         | (refine WpL.callM (hs := [_, _, _]) (hcon _ ?_) handA handOA rfl rfl outA outA rfl rfl rfl rfl (by decide) ?_ <;> clear hcon)
         | (refine WpL.callM (hs := [_, _, _]) (hcon _) handA handOA rfl rfl outA outA rfl rfl rfl rfl (by decide) ?_ <;> clear hcon)
         | (refine WpL.callM (hs := [_, _, _]) (hcon _ _ ?_) handA handOA rfl rfl outA outA rfl rfl rfl rfl (by decide) ?_ <;> clear hcon)
         | (refine WpL.callM (hs := [_, _, _]) (hcon _ _) handA handOA rfl rfl outA outA rfl rfl rfl rfl (by decide) ?_ <;> clear hcon)
         | (refine WpL.callM (hs := [_, _, _]) (hcon _ _ _ ?_) handA handOA rfl rfl outA outA rfl rfl rfl rfl (by decide) ?_ <;> clear hcon)
         | (refine WpL.callM (hs := [_, _, _]) (hcon _ _ _) handA handOA rfl rfl outA outA rfl rfl rfl rfl (by decide) ?_ <;> clear hcon)
         | (refine WpL.callM (hs := [_, _, _]) (hcon _ _ _ _ ?_) handA handOA rfl rfl outA outA rfl rfl rfl rfl (by decide) ?_ <;> clear hcon)
         | (refine WpL.callM (hs := [_, _, _]) (hcon _ _ _ _) handA handOA rfl rfl outA outA rfl rfl rfl rfl (by decide) ?_ <;> clear hcon)
         | (refine WpL.callM (hs := [_, _, _]) (hcon _ _ _ _ _ ?_) handA handOA rfl rfl outA outA rfl rfl rfl rfl (by decide) ?_ <;> clear hcon)
         | (refine WpL.callM (hs := [_, _, _]) (hcon _ _ _ _ _) handA handOA rfl rfl outA outA rfl rfl rfl rfl (by decide) ?_ <;> clear hcon)
         | (refine WpL.callM (hs := [_, _, _]) (hcon _ _ _ _ _ _ ?_) handA handOA rfl rfl outA outA rfl rfl rfl rfl (by decide) ?_ <;> clear hcon)
         | (refine WpL.callM (hs := [_, _, _]) (hcon _ _ _ _ _ _) handA handOA rfl rfl outA outA rfl rfl rfl rfl (by decide) ?_ <;> clear hcon)
         | (refine WpL.callM (hs := [_, _, _]) (hcon _ _ _ _ _ _ _ ?_) handA handOA rfl rfl outA outA rfl rfl rfl rfl (by decide) ?_ <;> clear hcon)
         | (refine WpL.callM (hs := [_, _, _]) (hcon _ _ _ _ _ _ _) handA handOA rfl rfl outA outA rfl rfl rfl rfl (by decide) ?_ <;> clear hcon)
         | (refine WpL.callM (hs := [_, _, _]) (hcon _ _ _ _ _ _ _ _ ?_) handA handOA rfl rfl outA outA rfl rfl rfl rfl (by decide) ?_ <;> clear hcon)
         | (refine WpL.callM (hs := [_, _, _]) (hcon _ _ _ _ _ _ _ _) handA handOA rfl rfl outA outA rfl rfl rfl rfl (by decide) ?_ <;> clear hcon)
         | (refine WpL.callM (hs := [_, _, _, _]) (hcon ?_) handA handOA rfl rfl outA outA rfl rfl rfl rfl (by decide) ?_ <;> clear hcon)
         | (refine WpL.callM (hs := [_, _, _, _]) (hcon) handA handOA rfl rfl outA outA rfl rfl rfl rfl (by decide) ?_ <;> clear hcon)
         | (refine WpL.callM (hs := [_, _, _, _]) (hcon _ ?_) handA handOA rfl rfl outA outA rfl rfl rfl rfl (by decide) ?_ <;> clear hcon)
         | (refine WpL.callM (hs := [_, _, _, _]) (hcon _) handA handOA rfl rfl outA outA rfl rfl rfl rfl (by decide) ?_ <;> clear hcon)
         | (refine WpL.callM (hs := [_, _, _, _]) (hcon _ _ ?_) handA handOA rfl rfl outA outA rfl rfl rfl rfl (by decide) ?_ <;> clear hcon)
         | (refine WpL.callM (hs := [_, _, _, _]) (hcon _ _) handA handOA rfl rfl outA outA rfl rfl rfl rfl (by decide) ?_ <;> clear hcon)
         | (refine WpL.callM (hs := [_, _, _, _]) (hcon _ _ _ ?_) handA handOA rfl rfl outA outA rfl rfl rfl rfl (by decide) ?_ <;> clear hcon)
         | (refine WpL.callM (hs := [_, _, _, _]) (hcon _ _ _) handA handOA rfl rfl outA outA rfl rfl rfl rfl (by decide) ?_ <;> clear hcon)
         | (refine WpL.callM (hs := [_, _, _, _]) (hcon _ _ _ _ ?_) handA handOA rfl rfl outA outA rfl rfl rfl rfl (by decide) ?_ <;> clear hcon)
         | (refine WpL.callM (hs := [_, _, _, _]) (hcon _ _ _ _) handA handOA rfl rfl outA outA rfl rfl rfl rfl (by decide) ?_ <;> clear hcon)
         | (refine WpL.callM (hs := [_, _, _, _]) (hcon _ _ _ _ _ ?_) handA handOA rfl rfl outA outA rfl rfl rfl rfl (by decide) ?_ <;> clear hcon)
         | (refine WpL.callM (hs := [_, _, _, _]) (hcon _ _ _ _ _) handA handOA rfl rfl outA outA rfl rfl rfl rfl (by decide) ?_ <;> clear hcon)
         | (refine WpL.callM (hs := [_, _, _, _]) (hcon _ _ _ _ _ _ ?_) handA handOA rfl rfl outA outA rfl rfl rfl rfl (by decide) ?_ <;> clear hcon)
         | (refine WpL.callM (hs := [_, _, _, _]) (hcon _ _ _ _ _ _) handA handOA rfl rfl outA outA rfl rfl rfl rfl (by decide) ?_ <;> clear hcon)
         | (refine WpL.callM (hs := [_, _, _, _]) (hcon _ _ _ _ _ _ _ ?_) handA handOA rfl rfl outA outA rfl rfl rfl rfl (by decide) ?_ <;> clear hcon)
         | (refine WpL.callM (hs := [_, _, _, _]) (hcon _ _ _ _ _ _ _) handA handOA rfl rfl outA outA rfl rfl rfl rfl (by decide) ?_ <;> clear hcon)
         | (refine WpL.callM (hs := [_, _, _, _]) (hcon _ _ _ _ _ _ _ _ ?_) handA handOA rfl rfl outA outA rfl rfl rfl rfl (by decide) ?_ <;> clear hcon)
         | (refine WpL.callM (hs := [_, _, _, _]) (hcon _ _ _ _ _ _ _ _) handA handOA rfl rfl outA outA rfl rfl rfl rfl (by decide) ?_ <;> clear hcon))
       | (refine K.call ?_; refine K.conB (fun hcon => ?_); first
         | (refine WpL.callB (hcon _ _ _ _ _ _ _ _) snapA locA outA locA outA rfl rfl rfl rfl rfl (by decide) ?_ ?_ <;> clear hcon))
       | (refine K.call ?_; refine K.conP (fun hcon => ?_); first
         | (refine WpL.callP (hs := [_]) (hcon _ _ _ _ _ _ _ _ _ _) (by assumption) handA handOA rfl rfl (.cons rfl (.sc (.sc (.sc .nil))) .nil) outA rfl rfl rfl rfl (by decide) ?_ <;> clear hcon))
       | (refine K.ix ?_; first
         | refine WpL.idxStr1 tabOk rfl rfl rfl (by omega) (by decide) (fun hgo => ?_)
         | refine WpL.idxStrB tabOk rfl rfl rfl (by omega) (by decide) (fun hgo => ?_))
       | (refine K.bi ?_; first
         | (refine K.blen ?_; first
           | refine WpL.lenImm (TabOk.slice tabOk rfl).1 rfl (by decide) ?_
           | refine WpL.lenOwn (TabOk.slice tabOk rfl).1 rfl rfl rfl (by decide) ?_
           | refine WpL.lenStr (K.tyStr tabOk rfl) rfl (by decide) ?_)
         | (refine K.bapp ?_; first
           | refine WpL.app1Ints tabOk rfl rfl rfl (by first | exact Nat.zero_le _ | exact Nat.le_of_ble_eq_true rfl) rfl rfl (by first | rfl | omega | (simp; done) | (simp; omega)) (by omega) (by decide) ?_
           | refine WpL.app1Strs tabOk rfl rfl rfl (by first | exact Nat.zero_le _ | exact Nat.le_of_ble_eq_true rfl) rfl rfl (by first | rfl | omega | (simp; done) | (simp; omega)) (by omega) (by decide) ?_
           | refine WpL.appOwn tabOk rfl rfl rfl rfl rfl rfl (by simp) (by first | exact Nat.zero_le _ | exact Nat.le_of_ble_eq_true rfl) rfl rfl (by simp) (by simp [all_ints, all_u8s, all_strs, oneB, Value.oneCell']) (by omega) (by decide) ?_))
       | (refine K.un ?_; first
         | refine WpL.not rfl (by decide) ?_
         | refine WpL.neg rfl (by omega) (by decide) ?_)
       | (refine K.pick ?_; first
         | refine WpL.pickT rfl rfl (by decide) ?_
         | refine WpL.pickF rfl rfl (by decide) ?_)
       | (refine K.bld ?_; refine WpL.build tabOk rfl rfl (by kernel_rfl) (by decide) ?_)
       | (refine K.ext ?_; refine WpL.extract rfl rfl (by first | decide | simp [AV.shL]) (by decide) ?_)
       | (refine K.cv ?_; first
         | refine WpL.convI (P := Tryd.prog) (by rfl) (K.tyInt tabOk rfl) rfl (by omega) (by decide) ?_
         | refine WpL.conv (P := Tryd.prog) (by rfl) (K.tyInt tabOk rfl) rfl (by decide) ?_
         | refine WpL.ofBytes tabOk rfl rfl rfl rfl rfl (by simp) (by decide) ?_)
       | (refine K.lit ?_; first
         | refine WpL.lit0Ints tabOk rfl rfl rfl (by decide) ?_
         | refine WpL.litInts tabOk rfl rfl rfl rfl rfl (by decide) rfl (by decide) ?_
         | refine WpL.litU8s tabOk rfl rfl rfl rfl rfl (by decide) rfl (by decide) ?_
         | refine WpL.litStrs tabOk rfl rfl rfl rfl rfl (by decide) rfl (by decide) ?_
         | refine WpL.litF tabOk rfl rfl rfl rfl (by decide) rfl (by decide) ?_)
       | (refine K.st ?_; first
         | refine WpL.storeInts tabOk rfl rfl rfl rfl rfl (by first | omega | (simp; omega)) ?_
         | refine WpL.storeS tabOk rfl rfl rfl rfl rfl rfl rfl rfl (by first | decide | omega | (simp; omega) | (simp; done)) (by first | (simp only [Go.Abs.setL, List.set_cons_zero, List.set_cons_succ, Nat.zero_add, Nat.reduceAdd]; exact rfl) | exact rfl) ?_)
       | (refine K.all ?_; first
         | refine WpL.allocStruct tabOk rfl rfl (by decide) ?_)
       | (refine K.box ?_; refine WpL.box rfl rfl rfl (by decide) ?_)
       | (refine K.sl ?_; first
         | refine WpL.subStrHi tabOk rfl rfl rfl (by omega) (by decide) ?_
         | refine WpL.subStr tabOk rfl rfl (by first | exact .inl ⟨rfl, rfl⟩ | exact .inr ⟨_, _, rfl, rfl⟩) (by first | exact .inl ⟨rfl, rfl⟩ | exact .inr ⟨_, _, rfl, rfl⟩) (by omega) (by decide) ?_
         | refine WpL.subImm tabOk rfl rfl (by first | exact .inl ⟨rfl, rfl⟩ | exact .inr ⟨_, _, rfl, rfl⟩) (by first | exact .inl ⟨rfl, rfl⟩ | exact .inr ⟨_, _, rfl, rfl⟩) (by omega) (by decide) ?_))
     | (refine K.le ?_; first | omega | (simp; omega) | assumption)
     | (refine K.lt ?_; first | omega | (simp; omega) | assumption)
     | refine And.intro ?_ ?_
     | omega
     | assumption
     | (simp; done)))
  first | done | fail) : X := h
theorem headA {X : Prop} (h : X := by
  (repeat' (first
  | exact Abs.HeadN.nil
  | exact Abs.HeadJ.nil
  | (apply HeadJ.consF rfl
     · exact rfl
     · exact in1
     · exact rfl)
  | exact Abs.HeadG.nil))
  first | done | fail) : X := h
theorem trueA {b : Bool} (h : TrueB b := by (refine TrueB.mk ?_; kernel_rfl)) : TrueB b := h
theorem go {P R : Prop} (h : (Hold R → P) ∧ IsT R := by
  refine And.intro ?_ ?_
  · intro hold
    repeat' (first
    | (refine K.L ?_; first
      | (refine K.mv ?_; refine WpL.move rfl (by decide) ?_)
      | (refine K.asg ?_; refine WpL.assign rfl (by decide) ?_)
      | (refine K.bin ?_; first
        | refine WpL.add rfl rfl (by omega) (by decide) ?_
        | refine WpL.sub rfl rfl (by omega) (by decide) ?_
        | refine WpL.quo rfl rfl (by omega) (by decide) ?_
        | refine WpL.rem rfl rfl (by omega) (by decide) ?_
        | refine WpL.bin rfl rfl rfl (by decide) ?_
        | refine WpL.strAdd rfl rfl (by first | omega | (simp only [List.length_append]; omega) | (simp; omega)) (by decide) ?_
        | refine WpL.strEq rfl rfl (by decide) ?_
        | refine WpL.strNe rfl rfl (by decide) ?_
        | refine WpL.boolNe (K.tyBool tabOk rfl) rfl rfl (by decide) ?_
        | refine WpL.ifcNe tabOk rfl rfl (by decide) ?_
        | refine WpL.nifNe tabOk rfl rfl (by decide) ?_
        | refine WpL.shl rfl rfl (by first | decide | (simp only [IntKind.bits]; omega)) (by decide) ?_)
      | (refine K.ld ?_; first
        | refine WpL.loadInts tabOk rfl rfl rfl (by first | omega | (simp; omega)) (by decide) ?_
        | refine WpL.loadStrs tabOk rfl rfl rfl (by first | omega | (simp; omega)) (by decide) ?_
        | refine WpL.load1 tabOk rfl rfl rfl rfl rfl (by decide) ?_
        | refine WpL.loadAgg (ds := [_]) tabOk rfl rfl rfl rfl rfl (by decide) ?_
        | refine WpL.loadAgg (ds := [_, _]) tabOk rfl rfl rfl rfl rfl (by decide) ?_
        | refine WpL.loadAgg (ds := [_, _, _]) tabOk rfl rfl rfl rfl rfl (by decide) ?_
        | refine WpL.loadAgg (ds := [_, _, _, _]) tabOk rfl rfl rfl rfl rfl (by decide) ?_
        | refine WpL.loadAgg (ds := [_, _, _, _, _]) tabOk rfl rfl rfl rfl rfl (by decide) ?_
        | refine WpL.loadAgg (ds := [_, _, _, _, _, _]) tabOk rfl rfl rfl rfl rfl (by decide) ?_
        | refine WpL.loadAgg (ds := [_, _, _, _, _, _, _]) tabOk rfl rfl rfl rfl rfl (by decide) ?_
        | refine WpL.loadAgg (ds := [_, _, _, _, _, _, _, _]) tabOk rfl rfl rfl rfl rfl (by decide) ?_)
      | (refine K.fld ?_; first
        | refine WpL.fieldP tabOk rfl rfl rfl rfl rfl (by decide) ?_)
      | (refine K.ixa ?_; first
        | refine WpL.idxI1 tabOk rfl rfl rfl (by omega) (by decide) ?_
        | refine WpL.idxIJ tabOk rfl rfl rfl (by omega) (by decide) ?_
        | refine WpL.idxOJ tabOk rfl rfl rfl rfl rfl (by omega) (by decide) ?_
        | refine WpL.idxI tabOk rfl rfl rfl (by omega) (by decide) ?_
        | refine WpL.idxO tabOk rfl rfl rfl rfl rfl (by omega) (by decide) ?_)
      | (refine K.call ?_; refine K.con (fun hcon => ?_); first
        | (refine WpL.callF (hcon ?_) snapA locA outA rfl rfl rfl (by decide) ?_ <;> clear hcon)
        | (refine WpL.callF (hcon) snapA locA outA rfl rfl rfl (by decide) ?_ <;> clear hcon)
        | (refine WpL.callF (hcon _ ?_) snapA locA outA rfl rfl rfl (by decide) ?_ <;> clear hcon)
        | (refine WpL.callF (hcon _) snapA locA outA rfl rfl rfl (by decide) ?_ <;> clear hcon)
        | (refine WpL.callF (hcon _ _ ?_) snapA locA outA rfl rfl rfl (by decide) ?_ <;> clear hcon)
        | (refine WpL.callF (hcon _ _) snapA locA outA rfl rfl rfl (by decide) ?_ <;> clear hcon)
        | (refine WpL.callF (hcon _ _ _ ?_) snapA locA outA rfl rfl rfl (by decide) ?_ <;> clear hcon)
        | (refine WpL.callF (hcon _ _ _) snapA locA outA rfl rfl rfl (by decide) ?_ <;> clear hcon)
        | (refine WpL.callF (hcon _ _ _ _ ?_) snapA locA outA rfl rfl rfl (by decide) ?_ <;> clear hcon)
        | (refine WpL.callF (hcon _ _ _ _) snapA locA outA rfl rfl rfl (by decide) ?_ <;> clear hcon)
        | (refine WpL.callF (hcon _ _ _ _ _ ?_) snapA locA outA rfl rfl rfl (by decide) ?_ <;> clear hcon)
        | (refine WpL.callF (hcon _ _ _ _ _) snapA locA outA rfl rfl rfl (by decide) ?_ <;> clear hcon)
        | (refine WpL.callF (hcon _ _ _ _ _ _ ?_) snapA locA outA rfl rfl rfl (by decide) ?_ <;> clear hcon)
        | (refine WpL.callF (hcon _ _ _ _ _ _) snapA locA outA rfl rfl rfl (by decide) ?_ <;> clear hcon)
        | (refine WpL.callF (hcon _ _ _ _ _ _ _ ?_) snapA locA outA rfl rfl rfl (by decide) ?_ <;> clear hcon)
        | (refine WpL.callF (hcon _ _ _ _ _ _ _) snapA locA outA rfl rfl rfl (by decide) ?_ <;> clear hcon)
        | (refine WpL.callF (hcon _ _ _ _ _ _ _ _ ?_) snapA locA outA rfl rfl rfl (by decide) ?_ <;> clear hcon)
        | (refine WpL.callF (hcon _ _ _ _ _ _ _ _) snapA locA outA rfl rfl rfl (by decide) ?_ <;> clear hcon)
        | (refine WpL.callF (hcon _ _ _ _ _ _ _ _ _ ?_) snapA locA outA rfl rfl rfl (by decide) ?_ <;> clear hcon)
        | (refine WpL.callF (hcon _ _ _ _ _ _ _ _ _) snapA locA outA rfl rfl rfl (by decide) ?_ <;> clear hcon)
        | (refine WpL.callF (hcon _ _ _ _ _ _ _ _ _ _ ?_) snapA locA outA rfl rfl rfl (by decide) ?_ <;> clear hcon)
        | (refine WpL.callF (hcon _ _ _ _ _ _ _ _ _ _) snapA locA outA rfl rfl rfl (by decide) ?_ <;> clear hcon)
        | (refine WpL.callF (hcon _ _ _ _ _ _ _ _ _ _ _ ?_) snapA locA outA rfl rfl rfl (by decide) ?_ <;> clear hcon)
        | (refine WpL.callF (hcon _ _ _ _ _ _ _ _ _ _ _) snapA locA outA rfl rfl rfl (by decide) ?_ <;> clear hcon)
        | (refine WpL.callF (hcon _ _ _ _ _ _ _ _ _ _ _ _ ?_) snapA locA outA rfl rfl rfl (by decide) ?_ <;> clear hcon)
        | (refine WpL.callF (hcon _ _ _ _ _ _ _ _ _ _ _ _) snapA locA outA rfl rfl rfl (by decide) ?_ <;> clear hcon)
        | (refine WpL.callF (hcon _ _ _ _ _ _ _ _ _ _ _ _ _ ?_) snapA locA outA rfl rfl rfl (by decide) ?_ <;> clear hcon)
        | (refine WpL.callF (hcon _ _ _ _ _ _ _ _ _ _ _ _ _) snapA locA outA rfl rfl rfl (by decide) ?_ <;> clear hcon)
        | (refine WpL.callF (hcon _ _ _ _ _ _ _ _ _ _ _ _ _ _ ?_) snapA locA outA rfl rfl rfl (by decide) ?_ <;> clear hcon)
        | (refine WpL.callF (hcon _ _ _ _ _ _ _ _ _ _ _ _ _ _) snapA locA outA rfl rfl rfl (by decide) ?_ <;> clear hcon)
        | (refine WpL.callF (hcon _ _ _ _ _ _ _ _ _ _ _ _ _ _ _ ?_) snapA locA outA rfl rfl rfl (by decide) ?_ <;> clear hcon)
        | (refine WpL.callF (hcon _ _ _ _ _ _ _ _ _ _ _ _ _ _ _) snapA locA outA rfl rfl rfl (by decide) ?_ <;> clear hcon)
        | (refine WpL.callF (hcon _ _ _ _ _ _ _ _ _ _ _ _ _ _ _ _ ?_) snapA locA outA rfl rfl rfl (by decide) ?_ <;> clear hcon)
        | (refine WpL.callF (hcon _ _ _ _ _ _ _ _ _ _ _ _ _ _ _ _) snapA locA outA rfl rfl rfl (by decide) ?_ <;> clear hcon)
        | (refine WpL.callF (hcon _ _ _ _ _ _ _ _ _ _ _ _ _ _ _ _ _ ?_) snapA locA outA rfl rfl rfl (by decide) ?_ <;> clear hcon)
        | (refine WpL.callF (hcon _ _ _ _ _ _ _ _ _ _ _ _ _ _ _ _ _) snapA locA outA rfl rfl rfl (by decide) ?_ <;> clear hcon)
        | (refine WpL.callF (hcon _ _ _ _ _ _ _ _ _ _ _ _ _ _ _ _ _ _ ?_) snapA locA outA rfl rfl rfl (by decide) ?_ <;> clear hcon)
        | (refine WpL.callF (hcon _ _ _ _ _ _ _ _ _ _ _ _ _ _ _ _ _ _) snapA locA outA rfl rfl rfl (by decide) ?_ <;> clear hcon))
      | (refine K.call ?_; refine K.conG (fun hcon => ?_); first
        | (refine WpL.callM (hs := [_]) (hcon ?_) handA handOA rfl rfl outA outA rfl rfl rfl rfl (by decide) ?_ <;> clear hcon)
        | (refine WpL.callM (hs := [_]) (hcon) handA handOA rfl rfl outA outA rfl rfl rfl rfl (by decide) ?_ <;> clear hcon)
        | (refine WpL.callM (hs := [_]) (hcon _ ?_) handA handOA rfl rfl outA outA rfl rfl rfl rfl (by decide) ?_ <;> clear hcon)
        | (refine WpL.callM (hs := [_]) (hcon _) handA handOA rfl rfl outA outA rfl rfl rfl rfl (by decide) ?_ <;> clear hcon)
        | (refine WpL.callM (hs := [_]) (hcon _ _ ?_) handA handOA rfl rfl outA outA rfl rfl rfl rfl (by decide) ?_ <;> clear hcon)
        | (refine WpL.callM (hs := [_]) (hcon _ _) handA handOA rfl rfl outA outA rfl rfl rfl rfl (by decide) ?_ <;> clear hcon)
        | (refine WpL.callM (hs := [_]) (hcon _ _ _ ?_) handA handOA rfl rfl outA outA rfl rfl rfl rfl (by decide) ?_ <;> clear hcon)
        | (refine WpL.callM (hs := [_]) (hcon _ _ _) handA handOA rfl rfl outA outA rfl rfl rfl rfl (by decide) ?_ <;> clear hcon)
        | (refine WpL.callM (hs := [_]) (hcon _ _ _ _ ?_) handA handOA rfl rfl outA outA rfl rfl rfl rfl (by decide) ?_ <;> clear hcon)
        | (refine WpL.callM (hs := [_]) (hcon _ _ _ _) handA handOA rfl rfl outA outA rfl rfl rfl rfl (by decide) ?_ <;> clear hcon)
        | (refine WpL.callM (hs := [_]) (hcon _ _ _ _ _ ?_) handA handOA rfl rfl outA outA rfl rfl rfl rfl (by decide) ?_ <;> clear hcon)
        | (refine WpL.callM (hs := [_]) (hcon _ _ _ _ _) handA handOA rfl rfl outA outA rfl rfl rfl rfl (by decide) ?_ <;> clear hcon)
        | (refine WpL.callM (hs := [_]) (hcon _ _ _ _ _ _ ?_) handA handOA rfl rfl outA outA rfl rfl rfl rfl (by decide) ?_ <;> clear hcon)
        | (refine WpL.callM (hs := [_]) (hcon _ _ _ _ _ _) handA handOA rfl rfl outA outA rfl rfl rfl rfl (by decide) ?_ <;> clear hcon)
        | (refine WpL.callM (hs := [_]) (hcon _ _ _ _ _ _ _ ?_) handA handOA rfl rfl outA outA rfl rfl rfl rfl (by decide) ?_ <;> clear hcon)
        | (refine WpL.callM (hs := [_]) (hcon _ _ _ _ _ _ _) handA handOA rfl rfl outA outA rfl rfl rfl rfl (by decide) ?_ <;> clear hcon)
        | (refine WpL.callM (hs := [_]) (hcon _ _ _ _ _ _ _ _ ?_) handA handOA rfl rfl outA outA rfl rfl rfl rfl (by decide) ?_ <;> clear hcon)
        | (refine WpL.callM (hs := [_]) (hcon _ _ _ _ _ _ _ _) handA handOA rfl rfl outA outA rfl rfl rfl rfl (by decide) ?_ <;> clear hcon)
        | (refine WpL.callM (hs := [_, _]) (hcon ?_) handA handOA rfl rfl outA outA rfl rfl rfl rfl (by decide) ?_ <;> clear hcon)
        | (refine WpL.callM (hs := [_, _]) (hcon) handA handOA rfl rfl outA outA rfl rfl rfl rfl (by decide) ?_ <;> clear hcon)
        | (refine WpL.callM (hs := [_, _]) (hcon _ ?_) handA handOA rfl rfl outA outA rfl rfl rfl rfl (by decide) ?_ <;> clear hcon)
        | (refine WpL.callM (hs := [_, _]) (hcon _) handA handOA rfl rfl outA outA rfl rfl rfl rfl (by decide) ?_ <;> clear hcon)
        | (refine WpL.callM (hs := [_, _]) (hcon _ _ ?_) handA handOA rfl rfl outA outA rfl rfl rfl rfl (by decide) ?_ <;> clear hcon)
        | (refine WpL.callM (hs := [_, _]) (hcon _ _) handA handOA rfl rfl outA outA rfl rfl rfl rfl (by decide) ?_ <;> clear hcon)
        | (refine WpL.callM (hs := [_, _]) (hcon _ _ _ ?_) handA handOA rfl rfl outA outA rfl rfl rfl rfl (by decide) ?_ <;> clear hcon)
        | (refine WpL.callM (hs := [_, _]) (hcon _ _ _) handA handOA rfl rfl outA outA rfl rfl rfl rfl (by decide) ?_ <;> clear hcon)
        | (refine WpL.callM (hs := [_, _]) (hcon _ _ _ _ ?_) handA handOA rfl rfl outA outA rfl rfl rfl rfl (by decide) ?_ <;> clear hcon)
        | (refine WpL.callM (hs := [_, _]) (hcon _ _ _ _) handA handOA rfl rfl outA outA rfl rfl rfl rfl (by decide) ?_ <;> clear hcon)
        | (refine WpL.callM (hs := [_, _]) (hcon _ _ _ _ _ ?_) handA handOA rfl rfl outA outA rfl rfl rfl rfl (by decide) ?_ <;> clear hcon)
        | (refine WpL.callM (hs := [_, _]) (hcon _ _ _ _ _) handA handOA rfl rfl outA outA rfl rfl rfl rfl (by decide) ?_ <;> clear hcon)
        | (refine WpL.callM (hs := [_, _]) (hcon _ _ _ _ _ _ ?_) handA handOA rfl rfl outA outA rfl rfl rfl rfl (by decide) ?_ <;> clear hcon)
        | (refine WpL.callM (hs := [_, _]) (hcon _ _ _ _ _ _) handA handOA rfl rfl outA outA rfl rfl rfl rfl (by decide) ?_ <;> clear hcon)
        | (refine WpL.callM (hs := [_, _]) (hcon _ _ _ _ _ _ _ ?_) handA handOA rfl rfl outA outA rfl rfl rfl rfl (by decide) ?_ <;> clear hcon)
        | (refine WpL.callM (hs := [_, _]) (hcon _ _ _ _ _ _ _) handA handOA rfl rfl outA outA rfl rfl rfl rfl (by decide) ?_ <;> clear hcon)
        | (refine WpL.callM (hs := [_, _]) (hcon _ _ _ _ _ _ _ _ ?_) handA handOA rfl rfl outA outA rfl rfl rfl rfl (by decide) ?_ <;> clear hcon)
        | (refine WpL.callM (hs := [_, _]) (hcon _ _ _ _ _ _ _ _) handA handOA rfl rfl outA outA rfl rfl rfl rfl (by decide) ?_ <;> clear hcon)
        | (refine WpL.callM (hs := [_, _, _]) (hcon ?_) handA handOA rfl rfl outA outA rfl rfl rfl rfl (by decide) ?_ <;> clear hcon)
        | (refine WpL.callM (hs := [_, _, _]) (hcon) handA handOA rfl rfl outA outA rfl rfl rfl rfl (by decide) ?_ <;> clear hcon)
        | (refine WpL.callM (hs := [_, _, _]) (hcon _ ?_) handA handOA rfl rfl outA outA rfl rfl rfl rfl (by decide) ?_ <;> clear hcon)
        | (refine WpL.callM (hs := [_, _, _]) (hcon _) handA handOA rfl rfl outA outA rfl rfl rfl rfl (by decide) ?_ <;> clear hcon)
        | (refine WpL.callM (hs := [_, _, _]) (hcon _ _ ?_) handA handOA rfl rfl outA outA rfl rfl rfl rfl (by decide) ?_ <;> clear hcon)
        | (refine WpL.callM (hs := [_, _, _]) (hcon _ _) handA handOA rfl rfl outA outA rfl rfl rfl rfl (by decide) ?_ <;> clear hcon)
        | (refine WpL.callM (hs := [_, _, _]) (hcon _ _ _ ?_) handA handOA rfl rfl outA outA rfl rfl rfl rfl (by decide) ?_ <;> clear hcon)
        | (refine WpL.callM (hs := [_, _, _]) (hcon _ _ _) handA handOA rfl rfl outA outA rfl rfl rfl rfl (by decide) ?_ <;> clear hcon)
        | (refine WpL.callM (hs := [_, _, _]) (hcon _ _ _ _ ?_) handA handOA rfl rfl outA outA rfl rfl rfl rfl (by decide) ?_ <;> clear hcon)
        | (refine WpL.callM (hs := [_, _, _]) (hcon _ _ _ _) handA handOA rfl rfl outA outA rfl rfl rfl rfl (by decide) ?_ <;> clear hcon)
        | (refine WpL.callM (hs := [_, _, _]) (hcon _ _ _ _ _ ?_) handA handOA rfl rfl outA outA rfl rfl rfl rfl (by decide) ?_ <;> clear hcon)
        | (refine WpL.callM (hs := [_, _, _]) (hcon _ _ _ _ _) handA handOA rfl rfl outA outA rfl rfl rfl rfl (by decide) ?_ <;> clear hcon)
        | (refine WpL.callM (hs := [_, _, _]) (hcon _ _ _ _ _ _ ?_) handA handOA rfl rfl outA outA rfl rfl rfl rfl (by decide) ?_ <;> clear hcon)
        | (refine WpL.callM (hs := [_, _, _]) (hcon _ _ _ _ _ _) handA handOA rfl rfl outA outA rfl rfl rfl rfl (by decide) ?_ <;> clear hcon)
        | (refine WpL.callM (hs := [_, _, _]) (hcon _ _ _ _ _ _ _ ?_) handA handOA rfl rfl outA outA rfl rfl rfl rfl (by decide) ?_ <;> clear hcon)
        | (refine WpL.callM (hs := [_, _, _]) (hcon _ _ _ _ _ _ _) handA handOA rfl rfl outA outA rfl rfl rfl rfl (by decide) ?_ <;> clear hcon)
        | (refine WpL.callM (hs := [_, _, _]) (hcon _ _ _ _ _ _ _ _ ?_) handA handOA rfl rfl outA outA rfl rfl rfl rfl (by decide) ?_ <;> clear hcon)
        | (refine WpL.callM (hs := [_, _, _]) (hcon _ _ _ _ _ _ _ _) handA handOA rfl rfl outA outA rfl rfl rfl rfl (by decide) ?_ <;> clear hcon)
        | (refine WpL.callM (hs := [_, _, _, _]) (hcon ?_) handA handOA rfl rfl outA outA rfl rfl rfl rfl (by decide) ?_ <;> clear hcon)
        | (refine WpL.callM (hs := [_, _, _, _]) (hcon) handA handOA rfl rfl outA outA rfl rfl rfl rfl (by decide) ?_ <;> clear hcon)
        | (refine WpL.callM (hs := [_, _, _, _]) (hcon _ ?_) handA handOA rfl rfl outA outA rfl rfl rfl rfl (by decide) ?_ <;> clear hcon)
        | (refine WpL.callM (hs := [_, _, _, _]) (hcon _) handA handOA rfl rfl outA outA rfl rfl rfl rfl (by decide) ?_ <;> clear hcon)
        | (refine WpL.callM (hs := [_, _, _, _]) (hcon _ _ ?_) handA handOA rfl rfl outA outA rfl rfl rfl rfl (by decide) ?_ <;> clear hcon)
        | (refine WpL.callM (hs := [_, _, _, _]) (hcon _ _) handA handOA rfl rfl outA outA rfl rfl rfl rfl (by decide) ?_ <;> clear hcon)
        | (refine WpL.callM (hs := [_, _, _, _]) (hcon _ _ _ ?_) handA handOA rfl rfl outA outA rfl rfl rfl rfl (by decide) ?_ <;> clear hcon)
        | (refine WpL.callM (hs := [_, _, _, _]) (hcon _ _ _) handA handOA rfl rfl outA outA rfl rfl rfl rfl (by decide) ?_ <;> clear hcon)
        | (refine WpL.callM (hs := [_, _, _, _]) (hcon _ _ _ _ ?_) handA handOA rfl rfl outA outA rfl rfl rfl rfl (by decide) ?_ <;> clear hcon)
        | (refine WpL.callM (hs := [_, _, _, _]) (hcon _ _ _ _) handA handOA rfl rfl outA outA rfl rfl rfl rfl (by decide) ?_ <;> clear hcon)
        | (refine WpL.callM (hs := [_, _, _, _]) (hcon _ _ _ _ _ ?_) handA handOA rfl rfl outA outA rfl rfl rfl rfl (by decide) ?_ <;> clear hcon)
        | (refine WpL.callM (hs := [_, _, _, _]) (hcon _ _ _ _ _) handA handOA rfl rfl outA outA rfl rfl rfl rfl (by decide) ?_ <;> clear hcon)
        | (refine WpL.callM (hs := [_, _, _, _]) (hcon _ _ _ _ _ _ ?_) handA handOA rfl rfl outA outA rfl rfl rfl rfl (by decide) ?_ <;> clear hcon)
        | (refine WpL.callM (hs := [_, _, _, _]) (hcon _ _ _ _ _ _) handA handOA rfl rfl outA outA rfl rfl rfl rfl (by decide) ?_ <;> clear hcon)
        | (refine WpL.callM (hs := [_, _, _, _]) (hcon _ _ _ _ _ _ _ ?_) handA handOA rfl rfl outA outA rfl rfl rfl rfl (by decide) ?_ <;> clear hcon)
        | (refine WpL.callM (hs := [_, _, _, _]) (hcon _ _ _ _ _ _ _) handA handOA rfl rfl outA outA rfl rfl rfl rfl (by decide) ?_ <;> clear hcon)
        | (refine WpL.callM (hs := [_, _, _, _]) (hcon _ _ _ _ _ _ _ _ ?_) handA handOA rfl rfl outA outA rfl rfl rfl rfl (by decide) ?_ <;> clear hcon)
        | (refine WpL.callM (hs := [_, _, _, _]) (hcon _ _ _ _ _ _ _ _) handA handOA rfl rfl outA outA rfl rfl rfl rfl (by decide) ?_ <;> clear hcon))
      | (refine K.call ?_; refine K.conB (fun hcon => ?_); first
        | (refine WpL.callB (hcon _ _ _ _ _ _ _ _) snapA locA outA locA outA rfl rfl rfl rfl rfl (by decide) ?_ ?_ <;> clear hcon))
      | (refine K.call ?_; refine K.conP (fun hcon => ?_); first
        | (refine WpL.callP (hs := [_]) (hcon _ _ _ _ _ _ _ _ _ _) (by assumption) handA handOA rfl rfl (.cons rfl (.sc (.sc (.sc .nil))) .nil) outA rfl rfl rfl rfl (by decide) ?_ <;> clear hcon))
      | (refine K.ix ?_; first
        | refine WpL.idxStr1 tabOk rfl rfl rfl (by omega) (by decide) (fun hgo => ?_)
        | refine WpL.idxStrB tabOk rfl rfl rfl (by omega) (by decide) (fun hgo => ?_))
      | (refine K.bi ?_; first
        | (refine K.blen ?_; first
          | refine WpL.lenImm (TabOk.slice tabOk rfl).1 rfl (by decide) ?_
          | refine WpL.lenOwn (TabOk.slice tabOk rfl).1 rfl rfl rfl (by decide) ?_
          | refine WpL.lenStr (K.tyStr tabOk rfl) rfl (by decide) ?_)
        | (refine K.bapp ?_; first
          | refine WpL.app1Ints tabOk rfl rfl rfl (by first | exact Nat.zero_le _ | exact Nat.le_of_ble_eq_true rfl) rfl rfl (by first | rfl | omega | (simp; done) | (simp; omega)) (by omega) (by decide) ?_
          | refine WpL.app1Strs tabOk rfl rfl rfl (by first | exact Nat.zero_le _ | exact Nat.le_of_ble_eq_true rfl) rfl rfl (by first | rfl | omega | (simp; done) | (simp; omega)) (by omega) (by decide) ?_
          | refine WpL.appOwn tabOk rfl rfl rfl rfl rfl rfl (by simp) (by first | exact Nat.zero_le _ | exact Nat.le_of_ble_eq_true rfl) rfl rfl (by simp) (by simp [all_ints, all_u8s, all_strs, oneB, Value.oneCell']) (by omega) (by decide) ?_))
      | (refine K.un ?_; first
        | refine WpL.not rfl (by decide) ?_
        | refine WpL.neg rfl (by omega) (by decide) ?_)
      | (refine K.pick ?_; first
        | refine WpL.pickT rfl rfl (by decide) ?_
        | refine WpL.pickF rfl rfl (by decide) ?_)
      | (refine K.bld ?_; refine WpL.build tabOk rfl rfl (by kernel_rfl) (by decide) ?_)
      | (refine K.ext ?_; refine WpL.extract rfl rfl (by first | decide | simp [AV.shL]) (by decide) ?_)
      | (refine K.cv ?_; first
        | refine WpL.convI (P := Tryd.prog) (by rfl) (K.tyInt tabOk rfl) rfl (by omega) (by decide) ?_
        | refine WpL.conv (P := Tryd.prog) (by rfl) (K.tyInt tabOk rfl) rfl (by decide) ?_
        | refine WpL.ofBytes tabOk rfl rfl rfl rfl rfl (by simp) (by decide) ?_)
      | (refine K.lit ?_; first
        | refine WpL.lit0Ints tabOk rfl rfl rfl (by decide) ?_
        | refine WpL.litInts tabOk rfl rfl rfl rfl rfl (by decide) rfl (by decide) ?_
        | refine WpL.litU8s tabOk rfl rfl rfl rfl rfl (by decide) rfl (by decide) ?_
        | refine WpL.litStrs tabOk rfl rfl rfl rfl rfl (by decide) rfl (by decide) ?_
        | refine WpL.litF tabOk rfl rfl rfl rfl (by decide) rfl (by decide) ?_)
      | (refine K.st ?_; first
        | refine WpL.storeInts tabOk rfl rfl rfl rfl rfl (by first | omega | (simp; omega)) ?_
        | refine WpL.storeS tabOk rfl rfl rfl rfl rfl rfl rfl rfl (by first | decide | omega | (simp; omega) | (simp; done)) (by first | (simp only [Go.Abs.setL, List.set_cons_zero, List.set_cons_succ, Nat.zero_add, Nat.reduceAdd]; exact rfl) | exact rfl) ?_)
      | (refine K.all ?_; first
        | refine WpL.allocStruct tabOk rfl rfl (by decide) ?_)
      | (refine K.box ?_; refine WpL.box rfl rfl rfl (by decide) ?_)
      | (refine K.sl ?_; first
        | refine WpL.subStrHi tabOk rfl rfl rfl (by omega) (by decide) ?_
        | refine WpL.subStr tabOk rfl rfl (by first | exact .inl ⟨rfl, rfl⟩ | exact .inr ⟨_, _, rfl, rfl⟩) (by first | exact .inl ⟨rfl, rfl⟩ | exact .inr ⟨_, _, rfl, rfl⟩) (by omega) (by decide) ?_
        | refine WpL.subImm tabOk rfl rfl (by first | exact .inl ⟨rfl, rfl⟩ | exact .inr ⟨_, _, rfl, rfl⟩) (by first | exact .inl ⟨rfl, rfl⟩ | exact .inr ⟨_, _, rfl, rfl⟩) (by omega) (by decide) ?_)
      | (refine K.gd ?_; first
        | refine K.gT rfl (by decide) rfl ?_
        | refine K.gF rfl (by decide) rfl ?_
        | (refine K.gD rfl rfl (fun hgo => ?_) (fun hgo => ?_) <;> (try (first | contradiction | (exfalso; omega))))
        | (refine K.gN rfl rfl (fun hgo => ?_) (fun hgo => ?_) <;> (try (first | contradiction | (exfalso; omega))))
        | (refine K.gS rfl rfl (fun hgo => ?_) (fun hgo => ?_) <;> (try (first | contradiction | (exfalso; omega)))))
      | ((repeat (revert hgo)); (repeat ((fail_if_success with_reducible apply Hold.h hold); replace hold := Hold.t hold)); with_reducible apply Hold.h hold))
    | refine WpL.nil ?_
    | refine Abs.Seq.n ?_
    | (refine K.A ?_; first
      | refine WpA.seq ?_
      | refine WpA.regionF rfl ?_
      | (refine K.cond ?_; first
        | refine WpA.condT rfl ?_
        | refine WpA.condF rfl ?_
        | (refine WpA.condD rfl (fun hgo => ?_) (fun hgo => ?_) <;> (try (first | contradiction | (exfalso; omega))))
        | (refine WpA.condN rfl (fun hgo => ?_) (fun hgo => ?_) <;> (try (first | contradiction | (exfalso; omega))))
        | (refine WpA.condS rfl (fun hgo => ?_) (fun hgo => ?_) <;> (try (first | contradiction | (exfalso; omega)))))
      | refine WpA.block ?_
      | refine WpA.ret ?_
      | refine WpA.exit ?_
      | refine WpA.skip ?_
      | (refine K.loop ?_; ((repeat (revert hgo)); (repeat ((fail_if_success with_reducible apply Hold.h hold); replace hold := Hold.t hold)); with_reducible apply Hold.h hold))
      | (refine WpA.flat rfl ?_; first
        | (apply WpA.regionMB 6 mixed (by decide +kernel); (· exact rfl); (· exact headA); (· exact trueA); (· exact trueA); (· exact rfl); (· exact rfl))
        | (apply WpA.regionMB 8 mixed (by decide +kernel); (· exact rfl); (· exact headA); (· exact trueA); (· exact trueA); (· exact rfl); (· exact rfl))
        | (apply WpA.regionMB 26 mixed (by decide +kernel); (· exact rfl); (· exact headA); (· exact trueA); (· exact trueA); (· exact rfl); (· exact rfl)))
      | ((repeat (revert hgo)); (repeat ((fail_if_success with_reducible apply Hold.h hold); replace hold := Hold.t hold)); with_reducible apply Hold.h hold))
    | (refine K.RT ?_; first
      | exact ReT.nil
      | refine ReT.same rfl rfl ?_
      | refine ReT.own rfl rfl rfl rfl rfl rfl (by first | rfl | omega | (simp; done) | (simp; omega)) ?_
      | refine ReT.i rfl ?_ ?_
      | refine ReT.ptr rfl rfl rfl rfl rfl ?_)
    | (refine TrueB.mk ?_; kernel_rfl)
    | (apply K.eq; first | exact rfl | omega | assumption | (simp; done) | (simp; omega) | (exact absurd (by simp; done) ‹¬ _›) | ((repeat (revert hgo)); (repeat ((fail_if_success with_reducible apply Hold.h hold); replace hold := Hold.t hold)); with_reducible apply Hold.h hold))
    | (refine K.le ?_; first | omega | (simp; omega) | assumption | ((repeat (revert hgo)); (repeat ((fail_if_success with_reducible apply Hold.h hold); replace hold := Hold.t hold)); with_reducible apply Hold.h hold))
    | (refine K.lt ?_; first | omega | (simp; omega) | assumption | ((repeat (revert hgo)); (repeat ((fail_if_success with_reducible apply Hold.h hold); replace hold := Hold.t hold)); with_reducible apply Hold.h hold))
    | refine And.intro ?_ ?_
    | (refine K.RO ?_; first
      | exact ReO.nil
      | refine ReO.ints ?_ (by first | exact .inl rfl | exact .inr rfl) ?_
      | refine ReO.cons (Re.same rfl rfl) (by first | exact .inl rfl | exact .inr rfl) ?_
      | refine ReO.cons ?_ (by first | exact .inl rfl | exact .inr rfl) ?_)
    | (refine K.W ?_; first
      | refine Weak.mk ?_ ?_ (by first | exact Nat.zero_le _ | exact Nat.le_of_ble_eq_true rfl))
    | refine Abs.Seq.ret ?_
    | refine Abs.Seq.exit ?_
    | refine Blk.n ?_
    | refine Blk.ret ?_
    | refine Blk.exitHere ?_
    | (refine K.R ?_; first
      | refine Rnd.ret ?_
      | refine Rnd.exit ?_
      | refine Rnd.succ ?_ ?_ ?_
      | ((repeat (revert hgo)); (repeat ((fail_if_success with_reducible apply Hold.h hold); replace hold := Hold.t hold)); with_reducible apply Hold.h hold))
    | (refine K.F ?_; first
      | apply Fin.one0
      | apply Fin.two0
      | apply Fin.two1
      | ((repeat (revert hgo)); (repeat ((fail_if_success with_reducible apply Hold.h hold); replace hold := Hold.t hold)); with_reducible apply Hold.h hold))
    | (refine K.FG ?_; first
      | apply FinG.o10
      | ((repeat (revert hgo)); (repeat ((fail_if_success with_reducible apply Hold.h hold); replace hold := Hold.t hold)); with_reducible apply Hold.h hold))
    | exact ResV.tmp rfl
    | exact ResV.cellP rfl rfl rfl rfl rfl
    | exact ResV.cell (ds := [_]) rfl rfl rfl rfl rfl
    | exact ResV.cell (ds := [_, _]) rfl rfl rfl rfl rfl
    | exact ResV.cell (ds := [_, _, _]) rfl rfl rfl rfl rfl
    | exact ResV.cell (ds := [_, _, _, _]) rfl rfl rfl rfl rfl
    | exact ResV.cell (ds := [_, _, _, _, _]) rfl rfl rfl rfl rfl
    | exact ResV.cell (ds := [_, _, _, _, _, _]) rfl rfl rfl rfl rfl
    | exact ResV.cell (ds := [_, _, _, _, _, _, _]) rfl rfl rfl rfl rfl
    | exact ResV.cell (ds := [_, _, _, _, _, _, _, _]) rfl rfl rfl rfl rfl
    | (refine K.E ?_; first
      | exact Ex.nil
      | refine Ex.keep rfl rfl rfl ?_
      | refine Ex.own rfl rfl rfl rfl ?_
      | refine Ex.own rfl rfl rfl ?_ ?_
      | refine Ex.nilO rfl ?_
      | refine Ex.nilO' rfl ?_ ?_
      | refine Ex.agg ?_ ?_
      | refine Ex.tup ?_ ?_
      | refine Ex.i ?_ ?_
      | refine Ex.b ?_ ?_
      | refine Ex.z ?_ ?_)
    | (refine K.NE ?_; first
      | exact NEx.nil
      | refine NEx.ints rfl ?_ ?_
      | refine NEx.noInts ?_ ?_
      | refine NEx.gone ?_ rfl ?_
      | refine NEx.obj rfl ?_ rfl rfl rfl (.inr rfl) ?_)
    | exact Re.nil
    | refine Re.keep rfl rfl ?_
    | refine Re.fn rfl ?_
    | refine Re.own rfl rfl rfl rfl rfl (by first | rfl | omega | (simp; done) | (simp; omega)) ?_
    | refine Re.ptr rfl rfl rfl rfl ?_
    | refine Re.agg ?_ ?_
    | refine Re.tup ?_ ?_
    | refine Re.b ?_ ?_
    | exact rfl
    | omega
    | (refine fun hgo => ?_)
    | (simp; done)
    | (simp; omega)
    | ((repeat (revert hgo)); (repeat ((fail_if_success with_reducible apply Hold.h hold); replace hold := Hold.t hold)); with_reducible apply Hold.h hold))
    all_goals (try ((repeat (revert hgo)); (repeat ((fail_if_success with_reducible apply Hold.h hold); replace hold := Hold.t hold)); with_reducible apply Hold.h hold))
    all_goals exact True
  · first | exact IsT.t | exact IsT.any
  ) (r : R) : P := h.1 ⟨r⟩
end Go.Proofs.YtkckmenalehdpaaDoor


namespace Go.Proofs.YtkckmenalehdpaaDoor
open Go Go.Abs
attribute [local irreducible] WpA WpL Rnd Blk Abs.Seq Abs.Fin FnC Only
instance within_c : Con 48 (∀ n lo hi : Int, Fn 48 [I n, I lo, I hi] [] (B (decide (lo ≤ n ∧ n ≤ hi)))) := ⟨fun n lo hi => by
  refine FnC.of_body tabOk Tryd.func48 Tryd.ntmps48 rfl (by decide +kernel) (by simp) fun G => ?_
  refine go (r := ?_); and_intros <;> intros
  all_goals first | exact True.intro | (simp_all; done) | (simp; omega)⟩
instance l1In_c : Con 70 (∀ n lo hi : Int, Fn 70 [I n, I lo, I hi] [] (B (decide (lo ≤ n ∧ n ≤ hi)))) := ⟨fun n lo hi => by
  refine FnC.of_body tabOk Tryd.func70 Tryd.ntmps70 rfl (by decide +kernel) (by simp) fun G => ?_
  refine go (r := ?_); and_intros <;> intros
  all_goals first | exact True.intro | (simp_all; done) | (simp; omega)⟩
instance eqIntS_c : Con 29 (∀ xs ys : List Int, xs.length ≤ 1099511627776 ∧ ys.length ≤ 1099511627776 → Fn 29 [IL xs, IL ys] [] (B (decide (xs = ys)))) := ⟨fun xs ys hl => by
  refine FnC.of_body tabOk Tryd.func29 Tryd.ntmps29 rfl (by decide +kernel) (by simp) fun G => ?_
  refine go (r := ?_); and_intros <;> intros <;> try exact True.intro
  · simp; intro h; subst h; contradiction
  · have hll : xs.length = ys.length := by omega
    refine WpA.loop (fun k : Nat => ⟨[(0, IL xs), (1, IL ys), (5, I k)], []⟩) (fun k => k ≤ xs.length ∧ ∀ j < k, xs.getD j 0 = ys.getD j 0) (fun k => xs.length - k) 0 (by simp) (go (r := trivial)) (fun k hk => ?_)
    refine go (r := ?_); and_intros <;> intros <;> try exact True.intro
    · simp; rintro rfl; contradiction
    · rename_i j hj; by_cases h : j = k
      · subst h; simp_all
      · exact hk.2 j (by omega)
    · have : xs = ys := by
        apply List.ext_getElem hll
        intro i h1 h2
        have := hk.2 i (by omega)
        simpa [h1, h2] using this
      simp [this]⟩
end Go.Proofs.YtkckmenalehdpaaDoor


namespace Go.Proofs.YtkckmenalehdpaaDoor
open Go Go.Abs
attribute [local irreducible] WpA WpL Rnd Blk Abs.Seq Abs.Fin FnC Only
@[irreducible] def In (l : List Int) (lo hi : Int) : Prop := ∀ v ∈ l, lo ≤ v ∧ v ≤ hi
instance (l : List Int) (lo hi : Int) : Decidable (In l lo hi) := by unfold In; exact List.decidableBAll _ l
theorem in_get {l : List Int} {lo hi : Int} (h : In l lo hi) {k : Nat} (hk : k < l.length) : lo ≤ l.getD k 0 ∧ l.getD k 0 ≤ hi := by
  unfold In at h
  have := h (l.getD k 0) (by simp [List.getElem?_eq_getElem hk])
  exact this
theorem notin {l : List Int} {lo hi : Int} {k : Nat} (hk : k < l.length) (h : ¬ (lo ≤ l.getD k 0 ∧ l.getD k 0 ≤ hi)) : false = decide (In l lo hi) := by
  symm; rw [decide_eq_false_iff_not]; exact fun hh => h (in_get hh hk)
theorem in_snoc {l : List Int} {lo hi : Int} {k : Nat} (hk : k < l.length) : In (l.take (k + 1)) lo hi ↔ In (l.take k) lo hi ∧ lo ≤ l.getD k 0 ∧ l.getD k 0 ≤ hi := by
  unfold In; rw [List.take_succ_eq_append_getElem hk, List.forall_mem_append]; simp [List.getElem?_eq_getElem hk]
theorem in_nil (lo hi : Int) : In [] lo hi := by unfold In; intro v hv; cases hv
abbrev SidesOk (w h : Int) : Prop := 8 ≤ w ∧ w ≤ 32 ∧ 8 ≤ h ∧ h ≤ 32 ∧ w % 8 = 0 ∧ h % 8 = 0
instance SidesOk_c : Con 47 (∀ w h : Int, Fn 47 [I w, I h] [] (B (decide (SidesOk w h)))) := ⟨fun w h => by
  refine FnC.of_body tabOk Tryd.func47 Tryd.ntmps47 rfl (by decide +kernel) (by simp) fun G => ?_
  refine go (r := ?_); and_intros <;> intros <;> try exact True.intro
  all_goals first | (simp_all; done) | (rw [Bool.eq_iff_iff]; simp only [decide_eq_true_eq, Bool.not_eq_true', decide_eq_false_iff_not, Bool.false_eq_true, true_iff, false_iff, iff_true, iff_false, Bool.not_eq_eq_eq_not, Bool.not_true]; omega)⟩
instance SidesOk_s : Con 44 (∀ w h : Int, Fn 44 [I w, I h] [] (B (decide (SidesOk w h)))) := ⟨fun w h => by
  refine FnC.of_body tabOk Tryd.func44 Tryd.ntmps44 rfl (by decide +kernel) (by simp) fun G => ?_
  refine go (r := ?_); and_intros <;> intros <;> try exact True.intro
  all_goals first | (simp_all; done) | (rw [Bool.eq_iff_iff]; simp only [decide_eq_true_eq, Bool.not_eq_true', decide_eq_false_iff_not, Bool.false_eq_true, true_iff, false_iff, iff_true, iff_false, Bool.not_eq_eq_eq_not, Bool.not_true]; omega)⟩
end Go.Proofs.YtkckmenalehdpaaDoor


namespace Go.Proofs.YtkckmenalehdpaaDoor
open Go Go.Abs
def hexD : List UInt8 := [48, 49, 50, 51, 52, 53, 54, 55, 56, 57, 97, 98, 99, 100, 101, 102]
def hx (k : Nat) : UInt8 := hexD.getD k 0
theorem u8w (v : Int) (h : 0 ≤ v ∧ v ≤ 255) : IntKind.u8.wrap v = v := by
  simp only [IntKind.wrap, IntKind.bits, IntKind.signed]; simp; omega
end Go.Proofs.YtkckmenalehdpaaDoor


namespace Go.Proofs.YtkckmenalehdpaaDoor
open Go Go.Abs
theorem goR {P R : Prop} (h : (Hold R → P) ∧ IsT R := by
  refine And.intro ?_ ?_
  · intro hold
    repeat' (first
    | (refine K.L ?_; first
      | (refine K.mv ?_; refine WpL.move rfl (by decide) ?_)
      | (refine K.asg ?_; refine WpL.assign rfl (by decide) ?_)
      | (refine K.bin ?_; first
        | refine WpL.add rfl rfl (by omega) (by decide) ?_
        | refine WpL.sub rfl rfl (by omega) (by decide) ?_
        | refine WpL.quo rfl rfl (by omega) (by decide) ?_
        | refine WpL.rem rfl rfl (by omega) (by decide) ?_
        | refine WpL.bin rfl rfl rfl (by decide) ?_
        | refine WpL.strAdd rfl rfl (by first | omega | (simp only [List.length_append]; omega) | (simp; omega)) (by decide) ?_
        | refine WpL.strEq rfl rfl (by decide) ?_
        | refine WpL.strNe rfl rfl (by decide) ?_
        | refine WpL.boolNe (K.tyBool tabOk rfl) rfl rfl (by decide) ?_
        | refine WpL.ifcNe tabOk rfl rfl (by decide) ?_
        | refine WpL.nifNe tabOk rfl rfl (by decide) ?_
        | refine WpL.shl rfl rfl (by first | decide | (simp only [IntKind.bits]; omega)) (by decide) ?_)
      | (refine K.ld ?_; first
        | refine WpL.loadInts tabOk rfl rfl rfl (by first | omega | (simp; omega)) (by decide) ?_
        | refine WpL.loadStrs tabOk rfl rfl rfl (by first | omega | (simp; omega)) (by decide) ?_
        | refine WpL.load1 tabOk rfl rfl rfl rfl rfl (by decide) ?_
        | refine WpL.loadAgg (ds := [_]) tabOk rfl rfl rfl rfl rfl (by decide) ?_
        | refine WpL.loadAgg (ds := [_, _]) tabOk rfl rfl rfl rfl rfl (by decide) ?_
        | refine WpL.loadAgg (ds := [_, _, _]) tabOk rfl rfl rfl rfl rfl (by decide) ?_
        | refine WpL.loadAgg (ds := [_, _, _, _]) tabOk rfl rfl rfl rfl rfl (by decide) ?_
        | refine WpL.loadAgg (ds := [_, _, _, _, _]) tabOk rfl rfl rfl rfl rfl (by decide) ?_
        | refine WpL.loadAgg (ds := [_, _, _, _, _, _]) tabOk rfl rfl rfl rfl rfl (by decide) ?_
        | refine WpL.loadAgg (ds := [_, _, _, _, _, _, _]) tabOk rfl rfl rfl rfl rfl (by decide) ?_
        | refine WpL.loadAgg (ds := [_, _, _, _, _, _, _, _]) tabOk rfl rfl rfl rfl rfl (by decide) ?_)
      | (refine K.fld ?_; first
        | refine WpL.fieldP tabOk rfl rfl rfl rfl rfl (by decide) ?_)
      | (refine K.ixa ?_; first
        | refine WpL.idxI1 tabOk rfl rfl rfl (by omega) (by decide) ?_
        | refine WpL.idxIJ tabOk rfl rfl rfl (by omega) (by decide) ?_
        | refine WpL.idxOJ tabOk rfl rfl rfl rfl rfl (by omega) (by decide) ?_
        | refine WpL.idxI tabOk rfl rfl rfl (by omega) (by decide) ?_
        | refine WpL.idxO tabOk rfl rfl rfl rfl rfl (by omega) (by decide) ?_)
      | (refine K.call ?_; refine K.con (fun hcon => ?_); first
        | (refine WpL.callF (hcon ?_) snapA locA outA rfl rfl rfl (by decide) ?_ <;> clear hcon)
        | (refine WpL.callF (hcon) snapA locA outA rfl rfl rfl (by decide) ?_ <;> clear hcon)
        | (refine WpL.callF (hcon _ ?_) snapA locA outA rfl rfl rfl (by decide) ?_ <;> clear hcon)
        | (refine WpL.callF (hcon _) snapA locA outA rfl rfl rfl (by decide) ?_ <;> clear hcon)
        | (refine WpL.callF (hcon _ _ ?_) snapA locA outA rfl rfl rfl (by decide) ?_ <;> clear hcon)
        | (refine WpL.callF (hcon _ _) snapA locA outA rfl rfl rfl (by decide) ?_ <;> clear hcon)
        | (refine WpL.callF (hcon _ _ _ ?_) snapA locA outA rfl rfl rfl (by decide) ?_ <;> clear hcon)
        | (refine WpL.callF (hcon _ _ _) snapA locA outA rfl rfl rfl (by decide) ?_ <;> clear hcon)
        | (refine WpL.callF (hcon _ _ _ _ ?_) snapA locA outA rfl rfl rfl (by decide) ?_ <;> clear hcon)
        | (refine WpL.callF (hcon _ _ _ _) snapA locA outA rfl rfl rfl (by decide) ?_ <;> clear hcon)
        | (refine WpL.callF (hcon _ _ _ _ _ ?_) snapA locA outA rfl rfl rfl (by decide) ?_ <;> clear hcon)
        | (refine WpL.callF (hcon _ _ _ _ _) snapA locA outA rfl rfl rfl (by decide) ?_ <;> clear hcon)
        | (refine WpL.callF (hcon _ _ _ _ _ _ ?_) snapA locA outA rfl rfl rfl (by decide) ?_ <;> clear hcon)
        | (refine WpL.callF (hcon _ _ _ _ _ _) snapA locA outA rfl rfl rfl (by decide) ?_ <;> clear hcon)
        | (refine WpL.callF (hcon _ _ _ _ _ _ _ ?_) snapA locA outA rfl rfl rfl (by decide) ?_ <;> clear hcon)
        | (refine WpL.callF (hcon _ _ _ _ _ _ _) snapA locA outA rfl rfl rfl (by decide) ?_ <;> clear hcon)
        | (refine WpL.callF (hcon _ _ _ _ _ _ _ _ ?_) snapA locA outA rfl rfl rfl (by decide) ?_ <;> clear hcon)
        | (refine WpL.callF (hcon _ _ _ _ _ _ _ _) snapA locA outA rfl rfl rfl (by decide) ?_ <;> clear hcon)
        | (refine WpL.callF (hcon _ _ _ _ _ _ _ _ _ ?_) snapA locA outA rfl rfl rfl (by decide) ?_ <;> clear hcon)
        | (refine WpL.callF (hcon _ _ _ _ _ _ _ _ _) snapA locA outA rfl rfl rfl (by decide) ?_ <;> clear hcon)
        | (refine WpL.callF (hcon _ _ _ _ _ _ _ _ _ _ ?_) snapA locA outA rfl rfl rfl (by decide) ?_ <;> clear hcon)
        | (refine WpL.callF (hcon _ _ _ _ _ _ _ _ _ _) snapA locA outA rfl rfl rfl (by decide) ?_ <;> clear hcon)
        | (refine WpL.callF (hcon _ _ _ _ _ _ _ _ _ _ _ ?_) snapA locA outA rfl rfl rfl (by decide) ?_ <;> clear hcon)
        | (refine WpL.callF (hcon _ _ _ _ _ _ _ _ _ _ _) snapA locA outA rfl rfl rfl (by decide) ?_ <;> clear hcon)
        | (refine WpL.callF (hcon _ _ _ _ _ _ _ _ _ _ _ _ ?_) snapA locA outA rfl rfl rfl (by decide) ?_ <;> clear hcon)
        | (refine WpL.callF (hcon _ _ _ _ _ _ _ _ _ _ _ _) snapA locA outA rfl rfl rfl (by decide) ?_ <;> clear hcon)
        | (refine WpL.callF (hcon _ _ _ _ _ _ _ _ _ _ _ _ _ ?_) snapA locA outA rfl rfl rfl (by decide) ?_ <;> clear hcon)
        | (refine WpL.callF (hcon _ _ _ _ _ _ _ _ _ _ _ _ _) snapA locA outA rfl rfl rfl (by decide) ?_ <;> clear hcon)
        | (refine WpL.callF (hcon _ _ _ _ _ _ _ _ _ _ _ _ _ _ ?_) snapA locA outA rfl rfl rfl (by decide) ?_ <;> clear hcon)
        | (refine WpL.callF (hcon _ _ _ _ _ _ _ _ _ _ _ _ _ _) snapA locA outA rfl rfl rfl (by decide) ?_ <;> clear hcon)
        | (refine WpL.callF (hcon _ _ _ _ _ _ _ _ _ _ _ _ _ _ _ ?_) snapA locA outA rfl rfl rfl (by decide) ?_ <;> clear hcon)
        | (refine WpL.callF (hcon _ _ _ _ _ _ _ _ _ _ _ _ _ _ _) snapA locA outA rfl rfl rfl (by decide) ?_ <;> clear hcon)
        | (refine WpL.callF (hcon _ _ _ _ _ _ _ _ _ _ _ _ _ _ _ _ ?_) snapA locA outA rfl rfl rfl (by decide) ?_ <;> clear hcon)
        | (refine WpL.callF (hcon _ _ _ _ _ _ _ _ _ _ _ _ _ _ _ _) snapA locA outA rfl rfl rfl (by decide) ?_ <;> clear hcon)
        | (refine WpL.callF (hcon _ _ _ _ _ _ _ _ _ _ _ _ _ _ _ _ _ ?_) snapA locA outA rfl rfl rfl (by decide) ?_ <;> clear hcon)
        | (refine WpL.callF (hcon _ _ _ _ _ _ _ _ _ _ _ _ _ _ _ _ _) snapA locA outA rfl rfl rfl (by decide) ?_ <;> clear hcon)
        | (refine WpL.callF (hcon _ _ _ _ _ _ _ _ _ _ _ _ _ _ _ _ _ _ ?_) snapA locA outA rfl rfl rfl (by decide) ?_ <;> clear hcon)
        | (refine WpL.callF (hcon _ _ _ _ _ _ _ _ _ _ _ _ _ _ _ _ _ _) snapA locA outA rfl rfl rfl (by decide) ?_ <;> clear hcon))
      | (refine K.call ?_; refine K.conG (fun hcon => ?_); first
        | (refine WpL.callM (hs := [_]) (hcon ?_) handA handOA rfl rfl outA outA rfl rfl rfl rfl (by decide) ?_ <;> clear hcon)
        | (refine WpL.callM (hs := [_]) (hcon) handA handOA rfl rfl outA outA rfl rfl rfl rfl (by decide) ?_ <;> clear hcon)
        | (refine WpL.callM (hs := [_]) (hcon _ ?_) handA handOA rfl rfl outA outA rfl rfl rfl rfl (by decide) ?_ <;> clear hcon)
        | (refine WpL.callM (hs := [_]) (hcon _) handA handOA rfl rfl outA outA rfl rfl rfl rfl (by decide) ?_ <;> clear hcon)
        | (refine WpL.callM (hs := [_]) (hcon _ _ ?_) handA handOA rfl rfl outA outA rfl rfl rfl rfl (by decide) ?_ <;> clear hcon)
        | (refine WpL.callM (hs := [_]) (hcon _ _) handA handOA rfl rfl outA outA rfl rfl rfl rfl (by decide) ?_ <;> clear hcon)
        | (refine WpL.callM (hs := [_]) (hcon _ _ _ ?_) handA handOA rfl rfl outA outA rfl rfl rfl rfl (by decide) ?_ <;> clear hcon)
        | (refine WpL.callM (hs := [_]) (hcon _ _ _) handA handOA rfl rfl outA outA rfl rfl rfl rfl (by decide) ?_ <;> clear hcon)
        | (refine WpL.callM (hs := [_]) (hcon _ _ _ _ ?_) handA handOA rfl rfl outA outA rfl rfl rfl rfl (by decide) ?_ <;> clear hcon)
        | (refine WpL.callM (hs := [_]) (hcon _ _ _ _) handA handOA rfl rfl outA outA rfl rfl rfl rfl (by decide) ?_ <;> clear hcon)
        | (refine WpL.callM (hs := [_]) (hcon _ _ _ _ _ ?_) handA handOA rfl rfl outA outA rfl rfl rfl rfl (by decide) ?_ <;> clear hcon)
        | (refine WpL.callM (hs := [_]) (hcon _ _ _ _ _) handA handOA rfl rfl outA outA rfl rfl rfl rfl (by decide) ?_ <;> clear hcon)
        | (refine WpL.callM (hs := [_]) (hcon _ _ _ _ _ _ ?_) handA handOA rfl rfl outA outA rfl rfl rfl rfl (by decide) ?_ <;> clear hcon)
        | (refine WpL.callM (hs := [_]) (hcon _ _ _ _ _ _) handA handOA rfl rfl outA outA rfl rfl rfl rfl (by decide) ?_ <;> clear hcon)
        | (refine WpL.callM (hs := [_]) (hcon _ _ _ _ _ _ _ ?_) handA handOA rfl rfl outA outA rfl rfl rfl rfl (by decide) ?_ <;> clear hcon)
        | (refine WpL.callM (hs := [_]) (hcon _ _ _ _ _ _ _) handA handOA rfl rfl outA outA rfl rfl rfl rfl (by decide) ?_ <;> clear hcon)
        | (refine WpL.callM (hs := [_]) (hcon _ _ _ _ _ _ _ _ ?_) handA handOA rfl rfl outA outA rfl rfl rfl rfl (by decide) ?_ <;> clear hcon)
        | (refine WpL.callM (hs := [_]) (hcon _ _ _ _ _ _ _ _) handA handOA rfl rfl outA outA rfl rfl rfl rfl (by decide) ?_ <;> clear hcon)
        | (refine WpL.callM (hs := [_, _]) (hcon ?_) handA handOA rfl rfl outA outA rfl rfl rfl rfl (by decide) ?_ <;> clear hcon)
        | (refine WpL.callM (hs := [_, _]) (hcon) handA handOA rfl rfl outA outA rfl rfl rfl rfl (by decide) ?_ <;> clear hcon)
        | (refine WpL.callM (hs := [_, _]) (hcon _ ?_) handA handOA rfl rfl outA outA rfl rfl rfl rfl (by decide) ?_ <;> clear hcon)
        | (refine WpL.callM (hs := [_, _]) (hcon _) handA handOA rfl rfl outA outA rfl rfl rfl rfl (by decide) ?_ <;> clear hcon)
        | (refine WpL.callM (hs := [_, _]) (hcon _ _ ?_) handA handOA rfl rfl outA outA rfl rfl rfl rfl (by decide) ?_ <;> clear hcon)
        | (refine WpL.callM (hs := [_, _]) (hcon _ _) handA handOA rfl rfl outA outA rfl rfl rfl rfl (by decide) ?_ <;> clear hcon)
        | (refine WpL.callM (hs := [_, _]) (hcon _ _ _ ?_) handA handOA rfl rfl outA outA rfl rfl rfl rfl (by decide) ?_ <;> clear hcon)
        | (refine WpL.callM (hs := [_, _]) (hcon _ _ _) handA handOA rfl rfl outA outA rfl rfl rfl rfl (by decide) ?_ <;> clear hcon)
        | (refine WpL.callM (hs := [_, _]) (hcon _ _ _ _ ?_) handA handOA rfl rfl outA outA rfl rfl rfl rfl (by decide) ?_ <;> clear hcon)
        | (refine WpL.callM (hs := [_, _]) (hcon _ _ _ _) handA handOA rfl rfl outA outA rfl rfl rfl rfl (by decide) ?_ <;> clear hcon)
        | (refine WpL.callM (hs := [_, _]) (hcon _ _ _ _ _ ?_) handA handOA rfl rfl outA outA rfl rfl rfl rfl (by decide) ?_ <;> clear hcon)
        | (refine WpL.callM (hs := [_, _]) (hcon _ _ _ _ _) handA handOA rfl rfl outA outA rfl rfl rfl rfl (by decide) ?_ <;> clear hcon)
        | (refine WpL.callM (hs := [_, _]) (hcon _ _ _ _ _ _ ?_) handA handOA rfl rfl outA outA rfl rfl rfl rfl (by decide) ?_ <;> clear hcon)
        | (refine WpL.callM (hs := [_, _]) (hcon _ _ _ _ _ _) handA handOA rfl rfl outA outA rfl rfl rfl rfl (by decide) ?_ <;> clear hcon)
        | (refine WpL.callM (hs := [_, _]) (hcon _ _ _ _ _ _ _ ?_) handA handOA rfl rfl outA outA rfl rfl rfl rfl (by decide) ?_ <;> clear hcon)
        | (refine WpL.callM (hs := [_, _]) (hcon _ _ _ _ _ _ _) handA handOA rfl rfl outA outA rfl rfl rfl rfl (by decide) ?_ <;> clear hcon)
        | (refine WpL.callM (hs := [_, _]) (hcon _ _ _ _ _ _ _ _ ?_) handA handOA rfl rfl outA outA rfl rfl rfl rfl (by decide) ?_ <;> clear hcon)
        | (refine WpL.callM (hs := [_, _]) (hcon _ _ _ _ _ _ _ _) handA handOA rfl rfl outA outA rfl rfl rfl rfl (by decide) ?_ <;> clear hcon)
        | (refine WpL.callM (hs := [_, _, _]) (hcon ?_) handA handOA rfl rfl outA outA rfl rfl rfl rfl (by decide) ?_ <;> clear hcon)
        | (refine WpL.callM (hs := [_, _, _]) (hcon) handA handOA rfl rfl outA outA rfl rfl rfl rfl (by decide) ?_ <;> clear hcon)
        | (refine WpL.callM (hs := [_, _, _]) (hcon _ ?_) handA handOA rfl rfl outA outA rfl rfl rfl rfl (by decide) ?_ <;> clear hcon)
        | (refine WpL.callM (hs := [_, _, _]) (hcon _) handA handOA rfl rfl outA outA rfl rfl rfl rfl (by decide) ?_ <;> clear hcon)
        | (refine WpL.callM (hs := [_, _, _]) (hcon _ _ ?_) handA handOA rfl rfl outA outA rfl rfl rfl rfl (by decide) ?_ <;> clear hcon)
        | (refine WpL.callM (hs := [_, _, _]) (hcon _ _) handA handOA rfl rfl outA outA rfl rfl rfl rfl (by decide) ?_ <;> clear hcon)
        | (refine WpL.callM (hs := [_, _, _]) (hcon _ _ _ ?_) handA handOA rfl rfl outA outA rfl rfl rfl rfl (by decide) ?_ <;> clear hcon)
        | (refine WpL.callM (hs := [_, _, _]) (hcon _ _ _) handA handOA rfl rfl outA outA rfl rfl rfl rfl (by decide) ?_ <;> clear hcon)
        | (refine WpL.callM (hs := [_, _, _]) (hcon _ _ _ _ ?_) handA handOA rfl rfl outA outA rfl rfl rfl rfl (by decide) ?_ <;> clear hcon)
        | (refine WpL.callM (hs := [_, _, _]) (hcon _ _ _ _) handA handOA rfl rfl outA outA rfl rfl rfl rfl (by decide) ?_ <;> clear hcon)
        | (refine WpL.callM (hs := [_, _, _]) (hcon _ _ _ _ _ ?_) handA handOA rfl rfl outA outA rfl rfl rfl rfl (by decide) ?_ <;> clear hcon)
        | (refine WpL.callM (hs := [_, _, _]) (hcon _ _ _ _ _) handA handOA rfl rfl outA outA rfl rfl rfl rfl (by decide) ?_ <;> clear hcon)
        | (refine WpL.callM (hs := [_, _, _]) (hcon _ _ _ _ _ _ ?_) handA handOA rfl rfl outA outA rfl rfl rfl rfl (by decide) ?_ <;> clear hcon)
        | (refine WpL.callM (hs := [_, _, _]) (hcon _ _ _ _ _ _) handA handOA rfl rfl outA outA rfl rfl rfl rfl (by decide) ?_ <;> clear hcon)
        | (refine WpL.callM (hs := [_, _, _]) (hcon _ _ _ _ _ _ _ ?_) handA handOA rfl rfl outA outA rfl rfl rfl rfl (by decide) ?_ <;> clear hcon)
        | (refine WpL.callM (hs := [_, _, _]) (hcon _ _ _ _ _ _ _) handA handOA rfl rfl outA outA rfl rfl rfl rfl (by decide) ?_ <;> clear hcon)
        | (refine WpL.callM (hs := [_, _, _]) (hcon _ _ _ _ _ _ _ _ ?_) handA handOA rfl rfl outA outA rfl rfl rfl rfl (by decide) ?_ <;> clear hcon)
        | (refine WpL.callM (hs := [_, _, _]) (hcon _ _ _ _ _ _ _ _) handA handOA rfl rfl outA outA rfl rfl rfl rfl (by decide) ?_ <;> clear hcon)
        | (refine WpL.callM (hs := [_, _, _, _]) (hcon ?_) handA handOA rfl rfl outA outA rfl rfl rfl rfl (by decide) ?_ <;> clear hcon)
        | (refine WpL.callM (hs := [_, _, _, _]) (hcon) handA handOA rfl rfl outA outA rfl rfl rfl rfl (by decide) ?_ <;> clear hcon)
        | (refine WpL.callM (hs := [_, _, _, _]) (hcon _ ?_) handA handOA rfl rfl outA outA rfl rfl rfl rfl (by decide) ?_ <;> clear hcon)
        | (refine WpL.callM (hs := [_, _, _, _]) (hcon _) handA handOA rfl rfl outA outA rfl rfl rfl rfl (by decide) ?_ <;> clear hcon)
        | (refine WpL.callM (hs := [_, _, _, _]) (hcon _ _ ?_) handA handOA rfl rfl outA outA rfl rfl rfl rfl (by decide) ?_ <;> clear hcon)
        | (refine WpL.callM (hs := [_, _, _, _]) (hcon _ _) handA handOA rfl rfl outA outA rfl rfl rfl rfl (by decide) ?_ <;> clear hcon)
        | (refine WpL.callM (hs := [_, _, _, _]) (hcon _ _ _ ?_) handA handOA rfl rfl outA outA rfl rfl rfl rfl (by decide) ?_ <;> clear hcon)
        | (refine WpL.callM (hs := [_, _, _, _]) (hcon _ _ _) handA handOA rfl rfl outA outA rfl rfl rfl rfl (by decide) ?_ <;> clear hcon)
        | (refine WpL.callM (hs := [_, _, _, _]) (hcon _ _ _ _ ?_) handA handOA rfl rfl outA outA rfl rfl rfl rfl (by decide) ?_ <;> clear hcon)
        | (refine WpL.callM (hs := [_, _, _, _]) (hcon _ _ _ _) handA handOA rfl rfl outA outA rfl rfl rfl rfl (by decide) ?_ <;> clear hcon)
        | (refine WpL.callM (hs := [_, _, _, _]) (hcon _ _ _ _ _ ?_) handA handOA rfl rfl outA outA rfl rfl rfl rfl (by decide) ?_ <;> clear hcon)
        | (refine WpL.callM (hs := [_, _, _, _]) (hcon _ _ _ _ _) handA handOA rfl rfl outA outA rfl rfl rfl rfl (by decide) ?_ <;> clear hcon)
        | (refine WpL.callM (hs := [_, _, _, _]) (hcon _ _ _ _ _ _ ?_) handA handOA rfl rfl outA outA rfl rfl rfl rfl (by decide) ?_ <;> clear hcon)
        | (refine WpL.callM (hs := [_, _, _, _]) (hcon _ _ _ _ _ _) handA handOA rfl rfl outA outA rfl rfl rfl rfl (by decide) ?_ <;> clear hcon)
        | (refine WpL.callM (hs := [_, _, _, _]) (hcon _ _ _ _ _ _ _ ?_) handA handOA rfl rfl outA outA rfl rfl rfl rfl (by decide) ?_ <;> clear hcon)
        | (refine WpL.callM (hs := [_, _, _, _]) (hcon _ _ _ _ _ _ _) handA handOA rfl rfl outA outA rfl rfl rfl rfl (by decide) ?_ <;> clear hcon)
        | (refine WpL.callM (hs := [_, _, _, _]) (hcon _ _ _ _ _ _ _ _ ?_) handA handOA rfl rfl outA outA rfl rfl rfl rfl (by decide) ?_ <;> clear hcon)
        | (refine WpL.callM (hs := [_, _, _, _]) (hcon _ _ _ _ _ _ _ _) handA handOA rfl rfl outA outA rfl rfl rfl rfl (by decide) ?_ <;> clear hcon))
      | (refine K.call ?_; refine K.conB (fun hcon => ?_); first
        | (refine WpL.callB (hcon _ _ _ _ _ _ _ _) snapA locA outA locA outA rfl rfl rfl rfl rfl (by decide) ?_ ?_ <;> clear hcon))
      | (refine K.call ?_; refine K.conP (fun hcon => ?_); first
        | (refine WpL.callP (hs := [_]) (hcon _ _ _ _ _ _ _ _ _ _) (by assumption) handA handOA rfl rfl (.cons rfl (.sc (.sc (.sc .nil))) .nil) outA rfl rfl rfl rfl (by decide) ?_ <;> clear hcon))
      | (refine K.ix ?_; first
        | refine WpL.idxStr1 tabOk rfl rfl rfl (by omega) (by decide) (fun hgo => ?_)
        | refine WpL.idxStrB tabOk rfl rfl rfl (by omega) (by decide) (fun hgo => ?_))
      | (refine K.bi ?_; first
        | (refine K.blen ?_; first
          | refine WpL.lenImm (TabOk.slice tabOk rfl).1 rfl (by decide) ?_
          | refine WpL.lenOwn (TabOk.slice tabOk rfl).1 rfl rfl rfl (by decide) ?_
          | refine WpL.lenStr (K.tyStr tabOk rfl) rfl (by decide) ?_)
        | (refine K.bapp ?_; first
          | refine WpL.app1Ints tabOk rfl rfl rfl (by first | exact Nat.zero_le _ | exact Nat.le_of_ble_eq_true rfl) rfl rfl (by first | rfl | omega | (simp; done) | (simp; omega)) (by omega) (by decide) ?_
          | refine WpL.app1Strs tabOk rfl rfl rfl (by first | exact Nat.zero_le _ | exact Nat.le_of_ble_eq_true rfl) rfl rfl (by first | rfl | omega | (simp; done) | (simp; omega)) (by omega) (by decide) ?_
          | refine WpL.appOwn tabOk rfl rfl rfl rfl rfl rfl (by simp) (by first | exact Nat.zero_le _ | exact Nat.le_of_ble_eq_true rfl) rfl rfl (by simp) (by simp [all_ints, all_u8s, all_strs, oneB, Value.oneCell']) (by omega) (by decide) ?_))
      | (refine K.un ?_; first
        | refine WpL.not rfl (by decide) ?_
        | refine WpL.neg rfl (by omega) (by decide) ?_)
      | (refine K.pick ?_; first
        | refine WpL.pickT rfl rfl (by decide) ?_
        | refine WpL.pickF rfl rfl (by decide) ?_)
      | (refine K.bld ?_; refine WpL.build tabOk rfl rfl (by kernel_rfl) (by decide) ?_)
      | (refine K.ext ?_; refine WpL.extract rfl rfl (by first | decide | simp [AV.shL]) (by decide) ?_)
      | (refine K.cv ?_; first
        | refine WpL.convI (P := Tryd.prog) (by rfl) (K.tyInt tabOk rfl) rfl (by omega) (by decide) ?_
        | refine WpL.conv (P := Tryd.prog) (by rfl) (K.tyInt tabOk rfl) rfl (by decide) ?_
        | refine WpL.ofBytes tabOk rfl rfl rfl rfl rfl (by simp) (by decide) ?_)
      | (refine K.lit ?_; first
        | refine WpL.lit0Ints tabOk rfl rfl rfl (by decide) ?_
        | refine WpL.litInts tabOk rfl rfl rfl rfl rfl (by decide) rfl (by decide) ?_
        | refine WpL.litU8s tabOk rfl rfl rfl rfl rfl (by decide) rfl (by decide) ?_
        | refine WpL.litStrs tabOk rfl rfl rfl rfl rfl (by decide) rfl (by decide) ?_
        | refine WpL.litF tabOk rfl rfl rfl rfl (by decide) rfl (by decide) ?_)
      | (refine K.st ?_; first
        | refine WpL.storeInts tabOk rfl rfl rfl rfl rfl (by first | omega | (simp; omega)) ?_
        | refine WpL.storeS tabOk rfl rfl rfl rfl rfl rfl rfl rfl (by first | decide | omega | (simp; omega) | (simp; done)) (by first | (simp only [Go.Abs.setL, List.set_cons_zero, List.set_cons_succ, Nat.zero_add, Nat.reduceAdd]; exact rfl) | exact rfl) ?_)
      | (refine K.all ?_; first
        | refine WpL.allocStruct tabOk rfl rfl (by decide) ?_)
      | (refine K.box ?_; refine WpL.box rfl rfl rfl (by decide) ?_)
      | (refine K.sl ?_; first
        | refine WpL.subStrHi tabOk rfl rfl rfl (by omega) (by decide) ?_
        | refine WpL.subStr tabOk rfl rfl (by first | exact .inl ⟨rfl, rfl⟩ | exact .inr ⟨_, _, rfl, rfl⟩) (by first | exact .inl ⟨rfl, rfl⟩ | exact .inr ⟨_, _, rfl, rfl⟩) (by omega) (by decide) ?_
        | refine WpL.subImm tabOk rfl rfl (by first | exact .inl ⟨rfl, rfl⟩ | exact .inr ⟨_, _, rfl, rfl⟩) (by first | exact .inl ⟨rfl, rfl⟩ | exact .inr ⟨_, _, rfl, rfl⟩) (by omega) (by decide) ?_)
      | (refine K.gd ?_; first
        | refine K.gT rfl (by decide) rfl ?_
        | refine K.gF rfl (by decide) rfl ?_
        | (refine K.gD rfl rfl (fun hgo => ?_) (fun hgo => ?_) <;> (try (first | contradiction | (exfalso; omega))))
        | (refine K.gN rfl rfl (fun hgo => ?_) (fun hgo => ?_) <;> (try (first | contradiction | (exfalso; omega))))
        | (refine K.gS rfl rfl (fun hgo => ?_) (fun hgo => ?_) <;> (try (first | contradiction | (exfalso; omega)))))
      | ((repeat (revert hgo)); (repeat ((fail_if_success with_reducible apply Hold.h hold); replace hold := Hold.t hold)); with_reducible apply Hold.h hold))
    | refine WpL.nil ?_
    | refine Abs.Seq.n ?_
    | (refine K.A ?_; first
      | refine WpA.seq ?_
      | refine WpA.regionF rfl ?_
      | (refine K.cond ?_; first
        | refine WpA.condT rfl ?_
        | refine WpA.condF rfl ?_
        | (refine WpA.condD rfl (fun hgo => ?_) (fun hgo => ?_) <;> (try (first | contradiction | (exfalso; omega))))
        | (refine WpA.condN rfl (fun hgo => ?_) (fun hgo => ?_) <;> (try (first | contradiction | (exfalso; omega))))
        | (refine WpA.condS rfl (fun hgo => ?_) (fun hgo => ?_) <;> (try (first | contradiction | (exfalso; omega)))))
      | refine WpA.block ?_
      | refine WpA.ret ?_
      | refine WpA.exit ?_
      | refine WpA.skip ?_
      | (refine K.loop ?_; ((repeat (revert hgo)); (repeat ((fail_if_success with_reducible apply Hold.h hold); replace hold := Hold.t hold)); with_reducible apply Hold.h hold))
      | ((repeat (revert hgo)); (repeat ((fail_if_success with_reducible apply Hold.h hold); replace hold := Hold.t hold)); with_reducible apply Hold.h hold))
    | (refine K.RT ?_; first
      | exact ReT.nil
      | refine ReT.same rfl rfl ?_
      | refine ReT.own rfl rfl rfl rfl rfl rfl (by first | rfl | omega | (simp; done) | (simp; omega)) ?_
      | refine ReT.i rfl ?_ ?_
      | refine ReT.ptr rfl rfl rfl rfl rfl ?_)
    | (refine TrueB.mk ?_; kernel_rfl)
    | (apply K.eq; first | exact rfl | omega | assumption | (simp; done) | (simp; omega) | (exact absurd (by simp; done) ‹¬ _›) | ((repeat (revert hgo)); (repeat ((fail_if_success with_reducible apply Hold.h hold); replace hold := Hold.t hold)); with_reducible apply Hold.h hold))
    | (refine K.le ?_; first | omega | (simp; omega) | assumption | ((repeat (revert hgo)); (repeat ((fail_if_success with_reducible apply Hold.h hold); replace hold := Hold.t hold)); with_reducible apply Hold.h hold))
    | (refine K.lt ?_; first | omega | (simp; omega) | assumption | ((repeat (revert hgo)); (repeat ((fail_if_success with_reducible apply Hold.h hold); replace hold := Hold.t hold)); with_reducible apply Hold.h hold))
    | refine And.intro ?_ ?_
    | (refine K.RO ?_; first
      | exact ReO.nil
      | refine ReO.ints ?_ (by first | exact .inl rfl | exact .inr rfl) ?_
      | refine ReO.cons (Re.same rfl rfl) (by first | exact .inl rfl | exact .inr rfl) ?_
      | refine ReO.cons ?_ (by first | exact .inl rfl | exact .inr rfl) ?_)
    | (refine K.W ?_; first
      | refine Weak.mk ?_ ?_ (by first | exact Nat.zero_le _ | exact Nat.le_of_ble_eq_true rfl))
    | refine Abs.Seq.ret ?_
    | refine Abs.Seq.exit ?_
    | refine Blk.n ?_
    | refine Blk.ret ?_
    | refine Blk.exitHere ?_
    | (refine K.R ?_; first
      | refine Rnd.ret ?_
      | refine Rnd.exit ?_
      | refine Rnd.succ ?_ ?_ ?_
      | ((repeat (revert hgo)); (repeat ((fail_if_success with_reducible apply Hold.h hold); replace hold := Hold.t hold)); with_reducible apply Hold.h hold))
    | (refine K.F ?_; first
      | apply Fin.one0
      | apply Fin.two0
      | apply Fin.two1
      | ((repeat (revert hgo)); (repeat ((fail_if_success with_reducible apply Hold.h hold); replace hold := Hold.t hold)); with_reducible apply Hold.h hold))
    | (refine K.FG ?_; first
      | apply FinG.o10
      | ((repeat (revert hgo)); (repeat ((fail_if_success with_reducible apply Hold.h hold); replace hold := Hold.t hold)); with_reducible apply Hold.h hold))
    | exact ResV.tmp rfl
    | exact ResV.cellP rfl rfl rfl rfl rfl
    | exact ResV.cell (ds := [_]) rfl rfl rfl rfl rfl
    | exact ResV.cell (ds := [_, _]) rfl rfl rfl rfl rfl
    | exact ResV.cell (ds := [_, _, _]) rfl rfl rfl rfl rfl
    | exact ResV.cell (ds := [_, _, _, _]) rfl rfl rfl rfl rfl
    | exact ResV.cell (ds := [_, _, _, _, _]) rfl rfl rfl rfl rfl
    | exact ResV.cell (ds := [_, _, _, _, _, _]) rfl rfl rfl rfl rfl
    | exact ResV.cell (ds := [_, _, _, _, _, _, _]) rfl rfl rfl rfl rfl
    | exact ResV.cell (ds := [_, _, _, _, _, _, _, _]) rfl rfl rfl rfl rfl
    | (refine K.E ?_; first
      | exact Ex.nil
      | refine Ex.keep rfl rfl rfl ?_
      | refine Ex.own rfl rfl rfl rfl ?_
      | refine Ex.own rfl rfl rfl ?_ ?_
      | refine Ex.nilO rfl ?_
      | refine Ex.nilO' rfl ?_ ?_
      | refine Ex.agg ?_ ?_
      | refine Ex.tup ?_ ?_
      | refine Ex.i ?_ ?_
      | refine Ex.b ?_ ?_
      | refine Ex.z ?_ ?_)
    | (refine K.NE ?_; first
      | exact NEx.nil
      | refine NEx.ints rfl ?_ ?_
      | refine NEx.noInts ?_ ?_
      | refine NEx.gone ?_ rfl ?_
      | refine NEx.obj rfl ?_ rfl rfl rfl (.inr rfl) ?_)
    | exact Re.nil
    | refine Re.keep rfl rfl ?_
    | refine Re.fn rfl ?_
    | refine Re.own rfl rfl rfl rfl rfl (by first | rfl | omega | (simp; done) | (simp; omega)) ?_
    | refine Re.ptr rfl rfl rfl rfl ?_
    | refine Re.agg ?_ ?_
    | refine Re.tup ?_ ?_
    | refine Re.b ?_ ?_
    | exact rfl
    | omega
    | (refine fun hgo => ?_)
    | (simp; done)
    | (simp; omega)
    | ((repeat (revert hgo)); (repeat ((fail_if_success with_reducible apply Hold.h hold); replace hold := Hold.t hold)); with_reducible apply Hold.h hold))
    all_goals (try ((repeat (revert hgo)); (repeat ((fail_if_success with_reducible apply Hold.h hold); replace hold := Hold.t hold)); with_reducible apply Hold.h hold))
    all_goals exact True
  · first | exact IsT.t | exact IsT.any
  ) (r : R) : P := h.1 ⟨r⟩
end Go.Proofs.YtkckmenalehdpaaDoor
