/- Proved in this text: lemmas and contracts of functions that the claim uses (parts: Work, BldI, BldR, RdL, RdM, Cat, Ue, Rd, RdS, Fld, RdH). No condition. -/
import Derived.Test.YtndflfipaddfoaaGreatPyM11
import Derived.Test.YtndflfipaddfoaaGreatPyM14
import Derived.Test.YtndflfipaddfoaaGreatPyM10
import Derived.Test.YtndflfipaddfoaaGreatPyM9
import Derived.Test.YtndflfipaddfoaaGreatPyM6
set_option linter.unusedVariables false
set_option linter.unusedSimpArgs false
set_option maxRecDepth 100000
set_option maxHeartbeats 16000000


namespace Go.Proofs.YtndflfipaddfoaaGreat
open Go Go.Abs
attribute [local irreducible] WpA WpL Rnd Blk Abs.Seq Abs.Fin Abs.FinG FnC FnG Only
theorem any_at {α:Type} [Inhabited α] {p:α→Bool} {l:List α} {i:Nat} (hi:i<l.length) (h:p (l.getD i default)=true):l.any p=true:=
 List.any_eq_true.2 ⟨l.getD i default,by simp [hi],h⟩
theorem any_none {α:Type} [Inhabited α] {p:α→Bool} {l:List α} (h:∀j<l.length,p (l.getD j default)=false):l.any p=false:=by
 rw [List.any_eq_false]
 intro x hx
 obtain ⟨j,hj,rfl⟩:=List.getElem_of_mem hx
 have:=h j hj
 have e:l.getD j default=l[j]:=by simp [hj]
 rw [e] at this;simp [this]
theorem any_get {α:Type} [Inhabited α] {p:α→Bool} {l:List α} (h:l.any p=false) {i:Nat} (hi:i<l.length):p (l.getD i default)=false:=by
 cases hp:p (l.getD i default) with
 |false=>rfl
 |true=>rw [any_at hi hp] at h;cases h
instance ContainsFuncB_c:Con 192 (∀ (l:List Blok) (lens:List Int) (n:Int),l.length≤1099511627776∧SmB 1099511627776 l∧lens.length≤1099511627776→Fn 192 [BkL l,fB lens n] [] (B (l.any (badB lens n)))):=⟨fun l lens n hl=>by
 have hge:=ixF_ge (badB lens n) l
 refine FnC.of_body tabOk Tryz.func192 Tryz.ntmps192 rfl (by decide +kernel) (by simp) fun G=>?_
 refine go (r:=?_);and_intros<;>intros<;>try exact True.intro
 all_goals first|exact hl.2.1|(rw [Bool.eq_iff_iff,←hge];simp)⟩
def sz8 (e:Bool):Int:=bif e then 8 else 4
def nm8 (e:Bool):Int:=bif e then 1 else 4
theorem sz8_cases (e:Bool):(sz8 e=4∧nm8 e=4)∨(sz8 e=8∧nm8 e=1):=by cases e<;>simp [sz8,nm8]
instance l23Side_s:Con 66 (∀ e:Bool,Fn 66 [B e] [] (I (sz8 e))):=⟨fun e=>by
 cases e
 ·refine FnC.of_body tabOk Tryz.func66 Tryz.ntmps66 rfl (by decide +kernel) (by simp) fun G=>?_
  refine go (r:=?_);and_intros<;>intros<;>try exact True.intro
  all_goals rfl
 ·refine FnC.of_body tabOk Tryz.func66 Tryz.ntmps66 rfl (by decide +kernel) (by simp) fun G=>?_
  refine go (r:=?_);and_intros<;>intros<;>try exact True.intro
  all_goals rfl⟩
instance shape_c:Con 113 (∀ e:Bool,Fn 113 [B e] [] (.tup [I (nm8 e),I (sz8 e)])):=⟨fun e=>by
 cases e
 ·refine FnC.of_body tabOk Tryz.func113 Tryz.ntmps113 rfl (by decide +kernel) (by simp) fun G=>?_
  refine go (r:=?_);and_intros<;>intros<;>try exact True.intro
  all_goals rfl
 ·refine FnC.of_body tabOk Tryz.func113 Tryz.ntmps113 rfl (by decide +kernel) (by simp) fun G=>?_
  refine go (r:=?_);and_intros<;>intros<;>try exact True.intro
  all_goals rfl⟩
abbrev MbkOk (e:Bool) (bs:List Blok) (lens:List Int):Prop:=(bs.length:Int)=nm8 e∧bs.any (badB lens (sz8 e))=false
instance MbOk_s:Con 79 (∀ (e:Bool) (bs:List Blok) (lens:List Int),bs.length≤1099511627776∧SmB 1099511627776 bs∧lens.length≤1099511627776→Fn 79 [.agg [B e,BkL bs],IL lens] [] (B (decide (MbkOk e bs lens)))):=⟨fun e bs lens hl=>by
 have hc:=sz8_cases e
 refine FnC.of_body tabOk Tryz.func79 Tryz.ntmps79 rfl (by decide +kernel) (by simp) fun G=>?_
 refine go (r:=?_);and_intros<;>intros<;>try exact True.intro
 refine WpA.loop (fun k:Nat=>⟨[(1,IL lens),(2,.ptr 0 0 0),(5,I (sz8 e)),(6,I k)],[⟨[B e,BkL bs],0,0,none⟩]⟩) (fun k=>k≤bs.length∧∀j<k,badB lens (sz8 e) (bs.getD j default)=false) (fun k=>bs.length-k) 0 (by simp) (go (r:=?_)) (fun k hk=>?_)
 ·trivial
 have hg:=fun h=>smB_get hl.2.1 (k:=k) h
 have hnn:sz8 e*sz8 e=16∨sz8 e*sz8 e=64:=by rcases hc with ⟨h,_⟩|⟨h,_⟩<;>rw [h]<;>decide
 have hq:64/(sz8 e*sz8 e)=nm8 e:=by rcases hc with ⟨h,h2⟩|⟨h,h2⟩<;>rw [h,h2]<;>decide
 refine go (r:=?_);and_intros<;>intros<;>try exact True.intro
 ·have:bs.any (badB lens (sz8 e))=true:=any_at (i:=k) (by omega) (by unfold badB;exact decide_eq_true ‹_›)
  simp [this]
 ·rename_i j hj;by_cases h:j=k
  ·subst h;unfold badB;exact decide_eq_false (fun hh=>hh ‹BlkOk _ _ _ _›)
  ·exact hk.2 j (by omega)
 all_goals have e2:k=bs.length:=by omega
 all_goals subst e2
 have:=any_none (p:=badB lens (sz8 e)) hk.2
 rw [hq];simp [this]⟩
instance MbOk_c:Con 103 (∀ (e:Bool) (bs:List Blok) (lens:List Int),bs.length≤1099511627776∧SmB 1099511627776 bs∧lens.length≤1099511627776→Fn 103 [.agg [B e,BkL bs],IL lens] [] (B (decide (MbkOk e bs lens)))):=⟨fun e bs lens hl=>by
 have hc:=sz8_cases e
 refine FnC.of_body tabOk Tryz.func103 Tryz.ntmps103 rfl (by decide +kernel) (by simp) fun G=>?_
 refine go (r:=?_);and_intros<;>intros<;>try exact True.intro
 all_goals simp_all⟩
def badM (lens:List Int) (m:Mbk):Bool:=decide (¬ MbkOk m.1 m.2 lens)
abbrev StC (w h q:Int) (b d:Bool) (l:List Int) (M:List Mbk):List AV:=[I w,I h,I q,B b,B d,IL l,MbL M]
abbrev fM (w h q:Int) (b d:Bool) (l:List Int) (M:List Mbk):AV:=.fn 102 [.iptr (StC w h q b d l M) 0]
instance StreamOk1_c:Con 102 (∀ (e:Bool) (bs:List Blok) (w h q:Int) (b d:Bool) (l:List Int) (M:List Mbk),bs.length≤1099511627776∧SmB 1099511627776 bs∧l.length≤1099511627776→Fn 102 [.agg [B e,BkL bs],.iptr (StC w h q b d l M) 0] [] (B (badM l (e,bs)))):=⟨fun e bs w h q b d l M hl=>by
 unfold badM
 refine FnC.of_body tabOk Tryz.func102 Tryz.ntmps102 rfl (by decide +kernel) (by simp) fun G=>?_
 refine go (r:=?_);and_intros<;>intros<;>try exact True.intro
 all_goals simp_all⟩
instance IndexFuncM_c:Con 191 (∀ (w h q:Int) (b d:Bool) (l:List Int) (M N:List Mbk),N.length≤1099511627776∧SmM 1099511627776 N∧l.length≤1099511627776→Fn 191 [MbL N,fM w h q b d l M] [] (I (ixF (badM l) N))):=⟨fun w h q b d l M N hl=>by
 refine FnC.of_body tabOk Tryz.func191 Tryz.ntmps191 rfl (by decide +kernel) (by simp) fun G=>?_
 refine go (r:=?_);and_intros<;>intros<;>try exact True.intro
 refine WpA.loop (fun k:Nat=>⟨[(0,MbL N),(1,fM w h q b d l M),(7,I N.length),(8,I k)],[]⟩) (fun k=>k≤N.length∧∀j<k,badM l (N.getD j default)=false) (fun k=>N.length-k) 0 (by simp) (go (r:=?_)) (fun k hk=>?_)
 ·trivial
 have hg:=fun h=>(smM_get hl.2.1 (k:=k) h).1
 have hg2:=fun h=>(smM_get hl.2.1 (k:=k) h).2
 refine go (r:=?_);and_intros<;>intros<;>try exact True.intro
 all_goals first|exact hg2 (by omega)|skip
 ·exact ixF_at (by omega) hk.2 (by unfold badM;exact decide_eq_true ‹_›)
 ·rename_i j hj;by_cases h:j=k
  ·subst h;unfold badM;exact decide_eq_false ‹_›
  ·exact hk.2 j (by omega)
 all_goals (have e:k=N.length:=by omega);subst e;exact ixF_no hk.2⟩
instance ContainsFuncM_c:Con 101 (∀ (w h q:Int) (b d:Bool) (l:List Int) (M N:List Mbk),N.length≤1099511627776∧SmM 1099511627776 N∧l.length≤1099511627776→Fn 101 [MbL N,fM w h q b d l M] [] (B (N.any (badM l)))):=⟨fun w h q b d l M N hl=>by
 have hge:=ixF_ge (badM l) N
 refine FnC.of_body tabOk Tryz.func101 Tryz.ntmps101 rfl (by decide +kernel) (by simp) fun G=>?_
 refine go (r:=?_);and_intros<;>intros<;>try exact True.intro
 all_goals first|exact hl.2.1|(rw [Bool.eq_iff_iff,←hge];simp)⟩
abbrev StOk (w h q:Int) (l:List Int) (M:List Mbk):Prop:=HdOk w h q l∧(M.length:Int)=cntM w h∧M.any (badM l)=false
instance StreamOk_s:Con 27 (∀ (w h q:Int) (b d:Bool) (l:List Int) (M:List Mbk),l.length≤1099511627776∧M.length≤1099511627776∧SmM 1099511627776 M→Fn 27 [StA w h q b d l M] [] (B (decide (StOk w h q l M)))):=⟨fun w h q b d l M hl=>by
 refine FnC.of_body tabOk Tryz.func27 Tryz.ntmps27 rfl (by decide +kernel) (by simp) fun G=>?_
 by_cases h0:HdOk w h q l
 ·have hcb:=cntM_bd h0.1
  refine go (r:=?_);and_intros<;>intros<;>try exact True.intro
  all_goals first|(exact absurd h0 (by assumption))|skip
  refine WpA.loop (fun k:Nat=>⟨[(1,.ptr 0 0 0),(3,I k)],[⟨StC w h q b d l M,0,0,none⟩]⟩) (fun k=>k≤M.length∧∀j<k,badM l (M.getD j default)=false) (fun k=>M.length-k) 0 (by simp) (go (r:=?_)) (fun k hk=>?_)
  ·trivial
  have hg:=fun h=>(smM_get hl.2.2 (k:=k) h).1
  have hg2:=fun h=>(smM_get hl.2.2 (k:=k) h).2
  refine go (r:=?_);and_intros<;>intros<;>try exact True.intro
  ·exact hg2 (by omega)
  ·have:M.any (badM l)=true:=any_at (i:=k) (by omega) (by unfold badM;exact decide_eq_true ‹_›)
   simp [this]
  ·rename_i j hj;by_cases h:j=k
   ·subst h;unfold badM;exact decide_eq_false (fun hh=>hh ‹MbkOk _ _ _›)
   ·exact hk.2 j (by omega)
  all_goals have e2:k=M.length:=by omega
  all_goals subst e2
  have:=any_none (p:=badM l) hk.2
  simp [this,h0]
 ·refine go (r:=?_);and_intros<;>intros<;>try exact True.intro
  all_goals simp [StOk,h0]⟩
theorem Weak.eqv {m d:Nat} {V V':AV} {T:List (Nat×AV)} {O:List AObj} (h:V=V'):Weak m ⟨(d,V)::T,O⟩ ⟨(d,V')::T,O⟩:=by subst h;exact fun n G a w h=>h
instance StreamOk_c:Con 46 (∀ (w h q:Int) (b d:Bool) (l:List Int) (M:List Mbk),l.length≤1099511627776∧M.length≤1099511627776∧SmM 1099511627776 M→Fn 46 [StA w h q b d l M] [] (B (decide (StOk w h q l M)))):=⟨fun w h q b d l M hl=>by
 refine FnC.of_body tabOk Tryz.func46 Tryz.ntmps46 rfl (by decide +kernel) (by simp) fun G=>?_
 refine K.A ?_
 refine WpA.seq ?_
 refine WpA.regionF rfl ?_
 refine WpL.box rfl rfl rfl (by decide) ?_
 refine WpL.assign rfl (by decide) ?_
 refine WpL.nil ?_
 refine Abs.Seq.n ?_
 refine WpA.seq ?_
 by_cases h0:HdOk w h q l
 ·have e0:decide (HdOk w h q l)=true:=decide_eq_true h0
  by_cases h1:(M.length:Int)=cntM w h
  ·have e1:decide ((M.length:Int)=cntM w h)=true:=decide_eq_true h1
   apply WpA.regionM 16 mixed (by decide +kernel)
   ·apply HeadJ.consF rfl
    ·exact rfl
    ·exact in1
    ·exact rfl
    apply HeadJ.consF rfl
    ·exact rfl
    ·exact in1
    ·exact rfl
    apply HeadJ.consF rfl
    ·exact rfl
    ·(refine fun Tv=>?_;refine K.call ?_;refine K.con (fun hcon=>?_);refine WpL.call0 (hcon _ _ _ _ _ _ ?_) snapA locA rfl rfl (by decide) ?_;(· exact hl.1);refine WpL.weak (Weak.eqv (V':=B true) (by rw [e0])) ?_;exact WpL.nil (Only.mk rfl))
    ·exact rfl
    apply HeadJ.consF rfl
    ·exact rfl
    ·exact in1
    ·exact rfl
    apply HeadJ.consF rfl
    ·exact rfl
    ·(refine fun Tv=>?_;refine K.gT rfl (by decide) rfl ?_;exact in1)
    ·exact rfl
    apply HeadJ.consF rfl
    ·exact rfl
    ·(refine fun Tv=>?_;refine K.gT rfl (by decide) rfl ?_;exact in1)
    ·exact rfl
    apply HeadJ.consF rfl
    ·exact rfl
    ·(refine fun Tv=>?_;refine K.gT rfl (by decide) rfl ?_;exact in1)
    ·exact rfl
    apply HeadJ.consF rfl
    ·exact rfl
    ·(refine fun Tv=>?_;refine K.gT rfl (by decide) rfl ?_;exact in1)
    ·exact rfl
    apply HeadJ.consF rfl
    ·exact rfl
    ·(refine fun Tv=>?_;refine K.gT rfl (by decide) rfl ?_;exact in1)
    ·exact rfl
    apply HeadJ.consF rfl
    ·exact rfl
    ·(refine fun Tv=>?_;refine K.gT rfl (by decide) rfl ?_;refine K.call ?_;refine K.con (fun hcon=>?_);refine WpL.call0 (hcon _ _ _ _ _ _ h0.1) snapA locA rfl rfl (by decide) ?_;exact WpL.nil (Only.mk rfl))
    ·exact rfl
    apply HeadJ.consF rfl
    ·exact rfl
    ·(refine fun Tv=>?_;refine K.gT rfl (by decide) rfl ?_;refine WpL.bin rfl rfl rfl (by decide) ?_;refine WpL.weak (Weak.eqv (V':=B true) (by simp only [e1])) ?_;exact WpL.nil (Only.mk rfl))
    ·exact rfl
    apply HeadJ.consF rfl
    ·exact rfl
    ·exact in1
    ·exact rfl
    apply HeadJ.consF rfl
    ·exact rfl
    ·exact in1
    ·exact rfl
    apply HeadJ.consF rfl
    ·exact rfl
    ·(refine fun Tv=>?_;refine K.gT rfl (by decide) rfl ?_;exact in1)
    ·exact rfl
    apply HeadJ.consF rfl
    ·exact rfl
    ·(refine fun Tv=>?_;refine K.gT rfl (by decide) rfl ?_;exact in1)
    ·exact rfl
    apply HeadJ.consF rfl
    ·exact rfl
    ·(refine fun Tv=>?_;refine K.gT rfl (by decide) rfl ?_;refine WpL.makeFunc (cs:=[.ptr 0 0 0]) rfl (by decide) ?_;exact WpL.nil (Only.mk rfl))
    ·exact rfl
    exact HeadJ.nil
   ·kernel_rfl
   ·kernel_rfl
   ·exact rfl
   refine go (r:=?_);and_intros<;>intros<;>try exact True.intro
   all_goals first|exact hl.2.2|(simp [StOk,h0,h1];done)
  ·have e1:decide ((M.length:Int)=cntM w h)=false:=decide_eq_false h1
   apply WpA.regionM 16 mixed (by decide +kernel)
   ·apply HeadJ.consF rfl
    ·exact rfl
    ·exact in1
    ·exact rfl
    apply HeadJ.consF rfl
    ·exact rfl
    ·exact in1
    ·exact rfl
    apply HeadJ.consF rfl
    ·exact rfl
    ·(refine fun Tv=>?_;refine K.call ?_;refine K.con (fun hcon=>?_);refine WpL.call0 (hcon _ _ _ _ _ _ ?_) snapA locA rfl rfl (by decide) ?_;(· exact hl.1);refine WpL.weak (Weak.eqv (V':=B true) (by rw [e0])) ?_;exact WpL.nil (Only.mk rfl))
    ·exact rfl
    apply HeadJ.consF rfl
    ·exact rfl
    ·exact in1
    ·exact rfl
    apply HeadJ.consF rfl
    ·exact rfl
    ·(refine fun Tv=>?_;refine K.gT rfl (by decide) rfl ?_;exact in1)
    ·exact rfl
    apply HeadJ.consF rfl
    ·exact rfl
    ·(refine fun Tv=>?_;refine K.gT rfl (by decide) rfl ?_;exact in1)
    ·exact rfl
    apply HeadJ.consF rfl
    ·exact rfl
    ·(refine fun Tv=>?_;refine K.gT rfl (by decide) rfl ?_;exact in1)
    ·exact rfl
    apply HeadJ.consF rfl
    ·exact rfl
    ·(refine fun Tv=>?_;refine K.gT rfl (by decide) rfl ?_;exact in1)
    ·exact rfl
    apply HeadJ.consF rfl
    ·exact rfl
    ·(refine fun Tv=>?_;refine K.gT rfl (by decide) rfl ?_;exact in1)
    ·exact rfl
    apply HeadJ.consF rfl
    ·exact rfl
    ·(refine fun Tv=>?_;refine K.gT rfl (by decide) rfl ?_;refine K.call ?_;refine K.con (fun hcon=>?_);refine WpL.call0 (hcon _ _ _ _ _ _ h0.1) snapA locA rfl rfl (by decide) ?_;exact WpL.nil (Only.mk rfl))
    ·exact rfl
    apply HeadJ.consF rfl
    ·exact rfl
    ·(refine fun Tv=>?_;refine K.gT rfl (by decide) rfl ?_;refine WpL.bin rfl rfl rfl (by decide) ?_;refine WpL.weak (Weak.eqv (V':=B false) (by simp only [e1])) ?_;exact WpL.nil (Only.mk rfl))
    ·exact rfl
    apply HeadJ.consF rfl
    ·exact rfl
    ·exact in1
    ·exact rfl
    apply HeadJ.consF rfl
    ·exact rfl
    ·exact in1
    ·exact rfl
    apply HeadJ.consF rfl
    ·exact rfl
    ·(refine fun Tv=>?_;refine K.gF rfl (by decide) rfl ?_;exact WpL.nil (Only.mk rfl))
    ·exact rfl
    apply HeadJ.consF rfl
    ·exact rfl
    ·(refine fun Tv=>?_;refine K.gF rfl (by decide) rfl ?_;exact WpL.nil (Only.mk rfl))
    ·exact rfl
    apply HeadJ.consF rfl
    ·exact rfl
    ·(refine fun Tv=>?_;refine K.gF rfl (by decide) rfl ?_;exact WpL.nil (Only.mk rfl))
    ·exact rfl
    exact HeadJ.nil
   ·kernel_rfl
   ·kernel_rfl
   ·exact rfl
   refine go (r:=?_);and_intros<;>intros<;>try exact True.intro
   all_goals simp [StOk,h1]
 ·have e0:decide (HdOk w h q l)=false:=decide_eq_false h0
  apply WpA.regionM 16 mixed (by decide +kernel)
  ·apply HeadJ.consF rfl
   ·exact rfl
   ·exact in1
   ·exact rfl
   apply HeadJ.consF rfl
   ·exact rfl
   ·exact in1
   ·exact rfl
   apply HeadJ.consF rfl
   ·exact rfl
   ·(refine fun Tv=>?_;refine K.call ?_;refine K.con (fun hcon=>?_);refine WpL.call0 (hcon _ _ _ _ _ _ ?_) snapA locA rfl rfl (by decide) ?_;(· exact hl.1);refine WpL.weak (Weak.eqv (V':=B false) (by rw [e0])) ?_;exact WpL.nil (Only.mk rfl))
   ·exact rfl
   apply HeadJ.consF rfl
   ·exact rfl
   ·exact in1
   ·exact rfl
   apply HeadJ.consF rfl
   ·exact rfl
   ·(refine fun Tv=>?_;refine K.gF rfl (by decide) rfl ?_;exact WpL.nil (Only.mk rfl))
   ·exact rfl
   apply HeadJ.consF rfl
   ·exact rfl
   ·(refine fun Tv=>?_;refine K.gF rfl (by decide) rfl ?_;exact WpL.nil (Only.mk rfl))
   ·exact rfl
   apply HeadJ.consF rfl
   ·exact rfl
   ·(refine fun Tv=>?_;refine K.gF rfl (by decide) rfl ?_;exact WpL.nil (Only.mk rfl))
   ·exact rfl
   apply HeadJ.consF rfl
   ·exact rfl
   ·(refine fun Tv=>?_;refine K.gF rfl (by decide) rfl ?_;exact WpL.nil (Only.mk rfl))
   ·exact rfl
   apply HeadJ.consF rfl
   ·exact rfl
   ·(refine fun Tv=>?_;refine K.gF rfl (by decide) rfl ?_;exact WpL.nil (Only.mk rfl))
   ·exact rfl
   apply HeadJ.consF rfl
   ·exact rfl
   ·(refine fun Tv=>?_;refine K.gF rfl (by decide) rfl ?_;exact WpL.nil (Only.mk rfl))
   ·exact rfl
   apply HeadJ.consF rfl
   ·exact rfl
   ·(refine fun Tv=>?_;refine K.gF rfl (by decide) rfl ?_;exact WpL.nil (Only.mk rfl))
   ·exact rfl
   apply HeadJ.consF rfl
   ·exact rfl
   ·exact in1
   ·exact rfl
   apply HeadJ.consF rfl
   ·exact rfl
   ·exact in1
   ·exact rfl
   apply HeadJ.consF rfl
   ·exact rfl
   ·(refine fun Tv=>?_;refine K.gF rfl (by decide) rfl ?_;exact WpL.nil (Only.mk rfl))
   ·exact rfl
   apply HeadJ.consF rfl
   ·exact rfl
   ·(refine fun Tv=>?_;refine K.gF rfl (by decide) rfl ?_;exact WpL.nil (Only.mk rfl))
   ·exact rfl
   apply HeadJ.consF rfl
   ·exact rfl
   ·(refine fun Tv=>?_;refine K.gF rfl (by decide) rfl ?_;exact WpL.nil (Only.mk rfl))
   ·exact rfl
   exact HeadJ.nil
  ·kernel_rfl
  ·kernel_rfl
  ·exact rfl
  refine go (r:=?_);and_intros<;>intros<;>try exact True.intro
  all_goals simp [StOk,h0]⟩
theorem ok_blk {w h q:Int} {l:List Int} {M:List Mbk} (hs:StOk w h q l M) {i:Nat} (hi:i<M.length):MbkOk (M.getD i default).1 (M.getD i default).2 l:=by
 have:=any_get hs.2.2 hi
 unfold badM at this
 exact Decidable.not_not.1 (of_decide_eq_false this)
theorem ok_lv {e:Bool} {bs:List Blok} {l:List Int} (hs:MbkOk e bs l) {k:Nat} (hk:k<bs.length):BlkOk (bs.getD k default).1 (bs.getD k default).2 l (sz8 e):=by
 have:=any_get hs.2 hk
 unfold badB at this
 exact Decidable.not_not.1 (of_decide_eq_false this)
end Go.Proofs.YtndflfipaddfoaaGreat


namespace Go.Proofs.YtndflfipaddfoaaGreat
open Go Go.Abs
attribute [local irreducible] WpA WpL Rnd Blk Abs.Seq Abs.Fin Abs.FinG FnC FnG Only
instance FrameNew_c:Con 74 (∀ W H:Int,SidesOk W H→Fn 74 [I W,I H] [XI (List.replicate (W*H).toNat 0)] (FrOwn 0 W H (W*H).toNat)):=⟨fun W H h=>by
 have h1:8*8≤W*H:=Int.mul_le_mul h.1 h.2.2.1 (by omega) (by have:=h.1;omega)
 have h2:W*H≤32*32:=Int.mul_le_mul h.2.1 h.2.2.2.1 (by have:=h.2.2.1;omega) (by omega)
 refine FnC.of_body tabOk Tryz.func74 Tryz.ntmps74 rfl (by decide +kernel) (by simp) fun G=>?_
 refine go (r:=?_);and_intros<;>intros<;>try exact True.intro
 all_goals first|contradiction⟩
def plc1 (w n:Int) (k i:Nat):Int×Int×Int:=((k:Int)%(w/8)*8+(i:Int)%2*4,(k:Int)/(w/8)*8+(i:Int)/2*4,n)
def plsL (w n:Int) (k:Nat) (many:Nat):List (Int×Int×Int):=(List.range many).map (plc1 w n k)
theorem plsL_len (w n:Int) (k many:Nat):(plsL w n k many).length=many:=by simp [plsL]
theorem plsL_snoc (w n:Int) (k many:Nat):plsL w n k (many+1)=plsL w n k many++[plc1 w n k many]:=by simp [plsL,List.range_succ]
abbrev manyE (e:Bool):Nat:=cond e 1 4
instance placesOf_c:Con 75 (∀ (w h q:Int) (b d:Bool) (lens:List Int) (k:Nat) (e:Bool),8≤w∧w≤1024∧k≤1048576→Fn 75 [HdA w h q b d lens,I k,B e] [⟨rows plF (plsL w (sz8 e) k (manyE e)),0,3,some 103⟩] (.own 0 0 0 (manyE e))):=⟨fun w h q b d lens k e hh=>by
 have hw8:1≤w/8∧w/8≤128:=by omega
 have hr0:0≤(k:Int)%(w/8)∧(k:Int)%(w/8)≤1048576:=⟨Int.emod_nonneg _ (by omega),by have:=Int.emod_lt_of_pos (k:Int) (show 0<w/8 by omega);omega⟩
 have hq0:0≤(k:Int)/(w/8)∧(k:Int)/(w/8)≤1048576:=⟨Int.ediv_nonneg (by omega) (by omega),by have:=Int.ediv_le_self (w/8) (show 0≤(k:Int) by omega);omega⟩
 refine FnC.of_body tabOk Tryz.func75 Tryz.ntmps75 rfl (by decide +kernel) (by simp) fun G=>?_
 refine go (r:=?_);and_intros<;>intros<;>try exact True.intro
 all_goals first|contradiction|omega|skip
 refine WpA.loop (fun i:Nat=>⟨[(1,I k),(3,.ptr 0 0 0),(8,I (sz8 e)),(9,.own 1 0 0 i),(17,I (nm8 e)),(18,I i)],[⟨[I w,I h,I q,B b,B d,IL lens],0,0,none⟩,⟨rows plF (plsL w (sz8 e) k i),0,3,some 103⟩]⟩) (fun i=>i≤manyE e) (fun i=>manyE e-i) 0 (Nat.zero_le _) (go (r:=?_)) (fun i hi=>?_)
 ·and_intros<;>first|exact True.intro|rfl
 have hlen:=plsL_len w (sz8 e) k i
 have hsn:=plsL_snoc w (sz8 e) k i
 have hmn:nm8 e=(manyE e:Nat):=by cases e<;>rfl
 have hm4:manyE e≤4:=by cases e<;>decide
 by_cases hlt:i<manyE e
 ·refine go (r:=?_);and_intros<;>intros<;>try exact True.intro
  all_goals first|contradiction|omega|(rw [hsn];cases e<;>rfl)
 ·obtain rfl:i=manyE e:=by omega
  refine go (r:=?_);and_intros<;>intros<;>try exact True.intro
  all_goals first|contradiction|omega⟩
end Go.Proofs.YtndflfipaddfoaaGreat


namespace Go.Proofs.YtndflfipaddfoaaGreat
open Go Go.Abs
attribute [local irreducible] WpA WpL Rnd Blk Abs.Seq Abs.Fin Abs.FinG FnC FnG Only
def endL (W H q:Int) (d:Bool) (p:List Int):List Int:=cond d (dbL W H q p) p
theorem endL_len (W H q:Int) (d:Bool) (p:List Int):(endL W H q d p).length=p.length:=by
 cases d
 ·rfl
 ·exact dbL_len ..
theorem ended1 (W H w h q:Int) (b:Bool) (lens p:List Int) (hl:p.length≤1099511627776):Fn 77 [HdA w h q b true lens,FrA W H p] [IN (dbL W H q p)] (FrOwn 0 W H p.length):=by
 have hdl:=dbL_len W H q p
 refine FnC.of_body tabOk Tryz.func77 Tryz.ntmps77 rfl (by decide +kernel) (by simp) fun G=>?_
 refine go (r:=?_);and_intros<;>intros<;>try exact True.intro
 all_goals first|contradiction|omega
def bldB (W H q:Int) (b:Bool) (n:Int) (k:Nat) (bs:List Blok) (p:List Int):Nat→List Int
 |0=>p
 |i+1=>putL W H (bldB W H q b n k bs p i) q b (plc1 W n k i).1 (plc1 W n k i).2.1 (bs.getD i default).1 (bs.getD i default).2
def bldM (W H q:Int) (b:Bool) (M:List Mbk) (p:List Int):Nat→List Int
 |0=>p
 |k+1=>bldB W H q b (sz8 (M.getD k default).1) k (M.getD k default).2 (bldM W H q b M p k) (manyE (M.getD k default).1)
theorem bldB_len (W H q:Int) (b:Bool) (n:Int) (k:Nat) (bs:List Blok) (p:List Int):∀i,(bldB W H q b n k bs p i).length=p.length
 |0=>rfl
 |i+1=>by rw [bldB,putL_len,bldB_len W H q b n k bs p i]
theorem bldM_len (W H q:Int) (b:Bool) (M:List Mbk) (p:List Int):∀k,(bldM W H q b M p k).length=p.length
 |0=>rfl
 |k+1=>by rw [bldM,bldB_len,bldM_len W H q b M p k]
theorem bldB_ok {W H q:Int} {b:Bool} {n:Int} {k:Nat} {bs:List Blok} {p:List Int} (h:FrameOk W H p):∀i,FrameOk W H (bldB W H q b n k bs p i)
 |0=>h
 |i+1=>by rw [bldB];exact putL_ok (bldB_ok h i)
theorem bldM_ok {W H q:Int} {b:Bool} {M:List Mbk} {p:List Int} (h:FrameOk W H p):∀k,FrameOk W H (bldM W H q b M p k)
 |0=>h
 |k+1=>by rw [bldM];exact bldB_ok (bldM_ok h k) _
theorem bldB_zero (W H q:Int) (b:Bool) (n:Int) (k:Nat) (bs:List Blok) (p:List Int):bldB W H q b n k bs p 0=p:=rfl
theorem bldM_zero (W H q:Int) (b:Bool) (M:List Mbk) (p:List Int):bldM W H q b M p 0=p:=rfl
theorem bldB_succ (W H q:Int) (b:Bool) (n:Int) (k:Nat) (bs:List Blok) (p:List Int) (i:Nat):bldB W H q b n k bs p (i+1)=putL W H (bldB W H q b n k bs p i) q b (plc1 W n k i).1 (plc1 W n k i).2.1 (bs.getD i default).1 (bs.getD i default).2:=rfl
theorem bldM_succ (W H q:Int) (b:Bool) (M:List Mbk) (p:List Int) (k:Nat):bldM W H q b M p (k+1)=bldB W H q b (sz8 (M.getD k default).1) k (M.getD k default).2 (bldM W H q b M p k) (manyE (M.getD k default).1):=rfl
def zerP (W H:Int):List Int:=List.replicate (W*H).toNat 0
def refL (W H q:Int) (b d:Bool) (M:List Mbk):List Int:=endL W H q d (bldM W H q b M (zerP W H) M.length)
section
attribute [local irreducible] bldB bldM putL endL
attribute [-instance] FrameNew_c placesOf_c
end
end Go.Proofs.YtndflfipaddfoaaGreat


namespace Go.Proofs.YtndflfipaddfoaaGreat
open Go Go.Abs
def bit1 (y:Int):Int:=IntKind.i64.wrap ((BitVec.ofInt IntKind.i64.bits y &&& BitVec.ofInt IntKind.i64.bits 1).toNat:Nat)
theorem bit1_bd (y:Int):0≤bit1 y∧bit1 y≤1:=by
 have h:(BitVec.ofInt IntKind.i64.bits y &&& BitVec.ofInt IntKind.i64.bits 1).toNat≤1:=by
  rw [BitVec.toNat_and]
  exact Nat.le_trans Nat.and_le_right (by decide)
 unfold bit1
 rw [wrap64 _ (by omega)]
 omega
def btA (p:List UInt8) (i:Int):Int:=if i<0∨8*(p.length:Int)≤i then -1 else bit1 (((p.getD (i/8).toNat 0).toNat:Int)/2 ^ (7-i%8).toNat)
theorem btA_out (p:List UInt8) (i:Int):btA p i<0↔(i<0∨8*(p.length:Int)≤i):=by
 unfold btA
 have:=bit1_bd (((p.getD (i/8).toNat 0).toNat:Int)/2 ^ (7-i%8).toNat)
 split<;>omega
theorem btA_bd (p:List UInt8) (i:Int):-1≤btA p i∧btA p i≤1:=by
 unfold btA
 have:=bit1_bd (((p.getD (i/8).toNat 0).toNat:Int)/2 ^ (7-i%8).toNat)
 split<;>omega
def bv (p:List UInt8) (i:Int):Int:=max (btA p i) 0
theorem bv_bd (p:List UInt8) (i:Int):0≤bv p i∧bv p i≤1:=by have:=btA_bd p i;unfold bv;omega
def numB (p:List UInt8) (s:Int):Nat→Int
 |0=>0
 |k+1=>numB p s k*2+bv p (s+k)
theorem numB_bd (p:List UInt8) (s:Int):∀k,0≤numB p s k∧numB p s k<2 ^ k
 |0=>by simp [numB]
 |k+1=>by
  have h1:=numB_bd p s k
  have h2:=bv_bd p (s+k)
  rw [numB,Int.pow_succ];omega
theorem numB_le (p:List UInt8) (s:Int) {k j:Nat} (h:k≤j):numB p s k<2 ^ j:=by
 have h1:=numB_bd p s k
 have h2:(2:Int) ^ k≤2 ^ j:=by exact_mod_cast Nat.pow_le_pow_right (by decide) h
 omega
theorem numB_add (p:List UInt8) (s:Int) (a:Nat):∀b,numB p s (a+b)=numB p s a*2 ^ b+numB p (s+a) b
 |0=>by simp [numB]
 |b+1=>by
  rw [←Nat.add_assoc,numB,numB_add p s a b,numB,Int.pow_succ,Int.natCast_add,←Int.add_assoc,Int.add_mul,Int.mul_assoc,Int.add_assoc]
abbrev RdOk (p:List UInt8) (s:Int):Prop:=0≤s∧s≤8*(p.length:Int)
def lft (p:List UInt8) (s:Int):Int:=if RdOk p s then 8*(p.length:Int)-s else 0
theorem lft_bd (p:List UInt8) (s:Int):0≤lft p s∧lft p s≤8*(p.length:Int):=by unfold lft;split<;>omega
theorem lft_ok {p:List UInt8} {s:Int} (h:RdOk p s):lft p s=8*(p.length:Int)-s:=by rw [lft,if_pos h]
theorem lft_no {p:List UInt8} {s:Int} (h:¬RdOk p s):lft p s=0:=by rw [lft,if_neg h]
abbrev RbOk (p:List UInt8) (s n:Int):Prop:=RdOk p s∧(0≤n∧n≤32)∧n≤lft p s
def rbA (p:List UInt8) (s n:Int):Int:=if RbOk p s n then s+n else s
def rbV (p:List UInt8) (s n:Int):Int:=if RbOk p s n then numB p s n.toNat else 0
theorem rbV_bd (p:List UInt8) (s n:Int):0≤rbV p s n∧rbV p s n<4294967296:=by
 unfold rbV;split
 ·rename_i h
  have h1:=numB_bd p s n.toNat
  have h2:=numB_le p s (k:=n.toNat) (j:=32) (by omega)
  omega
 ·omega
theorem rb_yes {p:List UInt8} {s n:Int} (h:RbOk p s n):rbA p s n=s+n∧rbV p s n=numB p s n.toNat:=⟨if_pos h,if_pos h⟩
theorem rb_no {p:List UInt8} {s n:Int} (h:¬RbOk p s n):rbA p s n=s∧rbV p s n=0:=⟨if_neg h,if_neg h⟩
def zrW (p:List UInt8) (s:Int):Nat→Nat→Nat
 |0,n=>n
 |f+1,n=>if btA p (s+n)=0 then zrW p s f (n+1) else n
def zrs (p:List UInt8) (s:Int):Nat:=zrW p s (lft p s).toNat 0
theorem zrW_le (p:List UInt8) (s:Int):∀f n,n≤zrW p s f n∧zrW p s f n≤n+f
 |0,n=>by simp [zrW]
 |f+1,n=>by
  rw [zrW];split
  ·have:=zrW_le p s f (n+1);omega
  ·omega
theorem zrs_le (p:List UInt8) (s:Int):(zrs p s:Int)≤lft p s:=by
 have:=zrW_le p s (lft p s).toNat 0
 have:=lft_bd p s
 unfold zrs;omega
theorem zrW_eq (p:List UInt8) (s:Int):∀(f n k:Nat),k≤f→(∀ j<k,btA p (s+(n+j:Nat))=0)→(k=f∨btA p (s+(n+k:Nat))≠0)→zrW p s f n=n+k
 |0,n,k,h1,_,_=>by have:k=0:=by omega
                   subst this;rfl
 |f+1,n,0,_,_,h3=>by
  rw [zrW]
  rcases h3 with h3|h3
  ·omega
  ·rw [if_neg (by simpa using h3)];rfl
 |f+1,n,k+1,h1,h2,h3=>by
  have h0:=h2 0 (by omega)
  rw [zrW,if_pos (by simpa using h0),zrW_eq p s f (n+1) k (by omega) (fun j hj=>by have:=h2 (j+1) (by omega);rw [show n+1+j=n+(j+1) by omega];exact this)
   (by rcases h3 with h3|h3;exact .inl (by omega);exact .inr (by rw [show n+1+k=n+(k+1) by omega];exact h3))]
  omega
theorem zrs_eq {p:List UInt8} {s:Int} {k:Nat} (h1:(k:Int)≤lft p s) (h2:∀j<k,btA p (s+(j:Nat))=0) (h3:(k:Int)=lft p s∨btA p (s+(k:Nat))≠0):zrs p s=k:=by
 have h0:=lft_bd p s
 unfold zrs
 rw [zrW_eq p s _ 0 k (by omega) (fun j hj=>by rw [Nat.zero_add];exact h2 j hj) (by rw [Nat.zero_add];rcases h3 with h3|h3;exact .inl (by omega);exact .inr h3)]
 omega
theorem zrW_zero (p:List UInt8) (s:Int):∀(f n j:Nat),n≤j→j<zrW p s f n→btA p (s+(j:Nat))=0
 |0,n,j,h1,h2=>by rw [zrW] at h2;omega
 |f+1,n,j,h1,h2=>by
  rw [zrW] at h2
  split at h2
  ·rename_i h0
   rcases Nat.lt_or_ge n j with h|h
   ·exact zrW_zero p s f (n+1) j (by omega) h2
   ·have:n=j:=by omega
    subst this;exact h0
  ·omega
theorem zrs_zero {p:List UInt8} {s:Int} {j:Nat} (h:j<zrs p s):btA p (s+(j:Nat))=0:=zrW_zero p s _ 0 j (Nat.zero_le _) h
theorem numB_zero (p:List UInt8) (s:Int):∀k,numB p s k=0↔∀j<k,bv p (s+(j:Nat))=0
 |0=>by simp [numB]
 |k+1=>by
  have ih:=numB_zero p s k
  have h1:=numB_bd p s k
  have h2:=bv_bd p (s+k)
  rw [numB]
  constructor
  ·intro h j hj
   rcases Nat.lt_or_ge j k with hj2|hj2
   ·exact ih.1 (by omega) j hj2
   ·have:j=k:=by omega
    subst this;omega
  ·intro h
   have h3:=ih.2 fun j hj=>h j (by omega)
   have h4:=h k (by omega)
   omega
theorem end_iff {p:List UInt8} {s:Int} (h:RdOk p s) (h1:1≤lft p s):numB p s (lft p s).toNat=2 ^ (lft p s-1).toNat↔btA p s=1∧(zrs p (s+1):Int)=lft p (s+1):=by
 have e1:=lft_ok h
 have h2:RdOk p (s+1):=by omega
 have e2:=lft_ok h2
 obtain ⟨k,hk⟩:∃k:Nat,lft p (s+1)=k:=⟨(lft p (s+1)).toNat,by omega⟩
 have e3:(lft p s).toNat=1+k:=by omega
 have e4:(lft p s-1).toNat=k:=by omega
 have e5:=numB_add p s 1 k
 have e6:numB p s 1=bv p s:=by simp [numB]
 have e7:=numB_bd p (s+1) k
 have e8:=bv_bd p s
 have e9:=btA_bd p s
 have e10:bv p s=max (btA p s) 0:=rfl
 have hp:(0:Int)<2 ^ k:=by exact_mod_cast Nat.pow_pos (by decide)
 have hz:=numB_zero p (s+1) k
 rw [e3,e4,e5,e6,hk]
 have e11:(s:Int)+((1:Nat):Int)=s+1:=rfl
 rw [e11]
 generalize (2:Int) ^ k=q at*
 have hzr:((zrs p (s+1):Int)=k)↔∀j<k,bv p (s+1+(j:Nat))=0:=by
  constructor
  ·intro hh j hj
   have:=zrs_zero (p:=p) (s:=s+1) (j:=j) (by omega)
   unfold bv;omega
  ·intro hh
   have:=zrs_eq (p:=p) (s:=s+1) (k:=k) (by omega) (fun j hj=>by
    have a:=hh j hj
    have b:=btA_out p (s+1+(j:Nat))
    have c:=btA_bd p (s+1+(j:Nat))
    unfold bv at a;omega) (.inl hk.symm)
   omega
 rw [hzr,←hz]
 rcases (by omega:bv p s=0∨bv p s=1) with hb|hb
 ·rw [hb];constructor
  ·intro hh;omega
  ·rintro ⟨hh,_⟩;omega
 ·rw [hb];constructor
  ·intro hh;exact ⟨by omega,by omega⟩
  ·rintro ⟨_,hh⟩;omega
def ueA (p:List UInt8) (s:Int):Int:=if zrs p s≤15 then rbA p s (2*(zrs p s:Int)+1) else s
def ueC (p:List UInt8) (s:Int):Int:=if zrs p s≤15 then (if RbOk p s (2*(zrs p s:Int)+1) then 0 else 1) else 4
def ueV (p:List UInt8) (s:Int):Int:=if ueC p s=0 then rbV p s (2*(zrs p s:Int)+1)-1 else 0
def lvOf (n:Int):Int:=if n<0 then 0 else if n%2=0 then n/2+1 else -(n/2)-1
theorem ue_yes {p:List UInt8} {s:Int} (h:zrs p s≤15) (h2:RbOk p s (2*(zrs p s:Int)+1)):ueA p s=s+(2*(zrs p s:Int)+1)∧ueC p s=0∧ueV p s=numB p s (2*(zrs p s:Int)+1).toNat-1:=by
 have e:ueC p s=0:=by rw [ueC,if_pos h,if_pos h2]
 exact ⟨by rw [ueA,if_pos h,(rb_yes h2).1],e,by rw [ueV,if_pos e,(rb_yes h2).2]⟩
theorem ue_short {p:List UInt8} {s:Int} (h:zrs p s≤15) (h2:¬RbOk p s (2*(zrs p s:Int)+1)):ueA p s=s∧ueC p s=1∧ueV p s=0:=by
 have e:ueC p s=1:=by rw [ueC,if_pos h,if_neg h2]
 exact ⟨by rw [ueA,if_pos h,(rb_no h2).1],e,by rw [ueV,if_neg (by omega)]⟩
theorem ue_code {p:List UInt8} {s:Int} (h:¬zrs p s≤15):ueA p s=s∧ueC p s=4∧ueV p s=0:=by
 have e:ueC p s=4:=by rw [ueC,if_neg h]
 exact ⟨by rw [ueA,if_neg h],e,by rw [ueV,if_neg (by omega)]⟩
abbrev SymAt (p:List UInt8) (s:Int) (l:List Int) (m:Nat):Prop:=0<l.getD m 0∧RbOk p s (l.getD m 0)∧numB p s (l.getD m 0).toNat=(codes l).getD m 0
theorem sym_hit {p:List UInt8} {s:Int} {l:List Int} {m:Nat} (hl:CodeOk l) (hm:m<6) (h:SymAt p s l m):hit (codes l) l m (numB p s 7):=by
 have hb:=code_in hl hm
 obtain ⟨w,hw⟩:∃w:Nat,l.getD m 0=w:=⟨(l.getD m 0).toNat,by omega⟩
 have hw7:w≤7:=by omega
 have h1:=numB_add p s w (7-w)
 have h2:=numB_bd p (s+w) (7-w)
 have h3:=h.2.2
 have h5:=h.1
 rw [show w+(7-w)=7 by omega] at h1
 rw [hw] at h3
 have h4:numB p s w=(codes l).getD m 0:=by simpa using h3
 unfold hit
 rw [hw]
 have hcw:cw (w:Int)=2 ^ (7-w):=by
  rcases (by omega:w=1∨w=2∨w=3∨w=4∨w=5∨w=6∨w=7) with rfl|rfl|rfl|rfl|rfl|rfl|rfl<;>rfl
 rw [hcw,h1,h4,Int.add_mul]
 omega
theorem sym_uni {p:List UInt8} {s:Int} {l:List Int} {m m':Nat} (hl:CodeOk l) (hm:m<6) (hm':m'<6) (h:SymAt p s l m) (h':SymAt p s l m'):m=m':=
 code_uni hl hm hm' (by omega) (by omega) (sym_hit hl hm h) (sym_hit hl hm' h')
theorem sym_cov {p:List UInt8} {s:Int} {l:List Int} (hl:CodeOk l) (h:RbOk p s 7):∃m,m<6∧SymAt p s l m:=by
 have hb:=numB_bd p s 7
 obtain ⟨m,hm,h0,h1,h2⟩:=code_cov hl (v:=numB p s 7) hb.1 hb.2
 have hb2:=code_in hl hm
 refine ⟨m,hm,by omega,⟨h.1,by omega,by omega⟩,?_⟩
 obtain ⟨w,hw⟩:∃w:Nat,l.getD m 0=w:=⟨(l.getD m 0).toNat,by omega⟩
 have hw7:w≤7:=by omega
 have h3:=numB_add p s w (7-w)
 have h4:=numB_bd p (s+w) (7-w)
 rw [show w+(7-w)=7 by omega] at h3
 have hcw:cw (w:Int)=2 ^ (7-w):=by
  rcases (by omega:w=1∨w=2∨w=3∨w=4∨w=5∨w=6∨w=7) with rfl|rfl|rfl|rfl|rfl|rfl|rfl<;>rfl
 rw [hw,hcw] at h1 h2
 rw [hw,show ((w:Int)).toNat=w by simp]
 rw [h3] at h1 h2
 have hp:(0:Int)<2 ^ (7-w):=by exact_mod_cast Nat.pow_pos (by decide)
 generalize (2:Int) ^ (7-w)=q at*
 have e1:(codes l).getD m 0*q≤numB p s w*q+numB p (s+w) (7-w):=h1
 have e2:numB p s w*q+numB p (s+w) (7-w)<((codes l).getD m 0+1)*q:=h2
 have a1:(codes l).getD m 0<numB p s w+1:=by
  apply Int.lt_of_mul_lt_mul_right (a:=q) _ (by omega)
  rw [Int.add_mul];omega
 have a2:numB p s w<(codes l).getD m 0+1:=by
  apply Int.lt_of_mul_lt_mul_right (a:=q) _ (by omega)
  omega
 omega
def symM (p:List UInt8) (s:Int) (l:List Int):Nat:=((List.range 6).find? fun m=>decide (SymAt p s l m)).getD 6
theorem symM_eq {p:List UInt8} {s:Int} {l:List Int} {m:Nat} (hl:CodeOk l) (hm:m<6) (h:SymAt p s l m):symM p s l=m:=by
 unfold symM
 cases hf:(List.range 6).find? fun m=>decide (SymAt p s l m) with
 |none=>
  have:=List.find?_eq_none.1 hf m (by simp [hm])
  exact absurd (decide_eq_true h) this
 |some m'=>
  have h1:=List.find?_some hf
  have h2:=List.mem_of_find?_eq_some hf
  exact (sym_uni hl (by simpa using h2) hm (of_decide_eq_true h1) h)
theorem symM_none {p:List UInt8} {s:Int} {l:List Int} (h:∀m,m<6→¬SymAt p s l m):symM p s l=6:=by
 unfold symM
 have:(List.range 6).find? (fun m=>decide (SymAt p s l m))=none:=List.find?_eq_none.2 fun m hm=>by simpa using h m (by simpa using hm)
 rw [this];rfl
theorem symM_lt {p:List UInt8} {s:Int} {l:List Int} (h:symM p s l<6):SymAt p s l (symM p s l):=by
 unfold symM at*
 cases hf:(List.range 6).find? fun m=>decide (SymAt p s l m) with
 |none=>rw [hf] at h;simp at h
 |some m'=>
  have h1:=List.find?_some hf
  exact of_decide_eq_true (p:=SymAt p s l m') h1
def smC (p:List UInt8) (s:Int) (l:List Int):Int:=if CodeOk l then (if symM p s l<6 then 0 else 1) else 4
def smA (p:List UInt8) (s:Int) (l:List Int):Int:=if smC p s l=0 then s+l.getD (symM p s l) 0 else s
def smV (p:List UInt8) (s:Int) (l:List Int):Int:=if smC p s l=0 then symM p s l else 0
theorem sm_yes {p:List UInt8} {s:Int} {l:List Int} {m:Nat} (hl:CodeOk l) (hm:m<6) (h:SymAt p s l m):smA p s l=s+l.getD m 0∧smV p s l=m∧smC p s l=0:=by
 have e:=symM_eq hl hm h
 have c:smC p s l=0:=by rw [smC,if_pos hl,if_pos (by omega)]
 exact ⟨by rw [smA,if_pos c,e],by rw [smV,if_pos c,e],c⟩
theorem sm_none {p:List UInt8} {s:Int} {l:List Int} (hl:CodeOk l) (h:∀m,m<6→¬SymAt p s l m):smA p s l=s∧smV p s l=0∧smC p s l=1:=by
 have e:=symM_none h
 have c:smC p s l=1:=by rw [smC,if_pos hl,if_neg (by omega)]
 exact ⟨by rw [smA,if_neg (by omega)],by rw [smV,if_neg (by omega)],c⟩
theorem sm_bad {p:List UInt8} {s:Int} {l:List Int} (hl:¬CodeOk l):smA p s l=s∧smV p s l=0∧smC p s l=4:=by
 have c:smC p s l=4:=by rw [smC,if_neg hl]
 exact ⟨by rw [smA,if_neg (by omega)],by rw [smV,if_neg (by omega)],c⟩
end Go.Proofs.YtndflfipaddfoaaGreat


namespace Go.Proofs.YtndflfipaddfoaaGreat
open Go Go.Abs
def fbC (p:List UInt8) (s c n:Int) (k:Int→Int):Int:=if c=0 then (if RbOk p s n then k (rbV p s n) else 1) else c
def fbA (p:List UInt8) (s c n:Int) (k:Int→Int):Int:=if c=0∧fbC p s c n k=0 then rbA p s n else s
def fbV (p:List UInt8) (s c n:Int) (k:Int→Int):Int:=if fbC p s c n k=0 then rbV p s n else 0
def fuC (p:List UInt8) (s c:Int) (k:Int→Int):Int:=if c=0 then (if ueC p s=0 then k (ueV p s) else ueC p s) else c
def fuA (p:List UInt8) (s c:Int) (k:Int→Int):Int:=if fuC p s c k=0 then ueA p s else s
def fuV (p:List UInt8) (s c:Int) (k:Int→Int):Int:=if fuC p s c k=0 then ueV p s else 0
def ifE (b:Prop) [Decidable b] (e:Int):Int:=bif decide b then 0 else e
theorem ifE_yes {b:Prop} [Decidable b] {e:Int} (h:b):ifE b e=0:=by rw [ifE,decide_eq_true h];rfl
theorem ifE_no {b:Prop} [Decidable b] {e:Int} (h:¬b):ifE b e=e:=by rw [ifE,decide_eq_false h];rfl
def lenAt (v:Int) (i:Nat):Int:=v/2 ^ (3*i)%8
def lensV (v:Int):List Int:=[lenAt v 5,lenAt v 4,lenAt v 3,lenAt v 2,lenAt v 1,lenAt v 0]
structure HdS where
 a:Int
 c:Int
 w:Int
 h:Int
 q:Int
 f:Int
 l:Int
abbrev hk1 (x:Int):Int:=ifE (x=183) 2
abbrev hk2 (x:Int):Int:=ifE (x≤3) 3
abbrev hk3 (x:Int):Int:=ifE (x≤51) 3
abbrev hk4 (x:Int):Int:=0
abbrev hk5 (x:Int):Int:=ifE (CodeOk (lensV x)) 4
def hdS (p:List UInt8) (s:Int):HdS:=
 let a1:=fbA p s 0 8 hk1
 let c1:=fbC p s 0 8 hk1
 let a2:=fuA p a1 c1 hk2
 let c2:=fuC p a1 c1 hk2
 let a3:=fuA p a2 c2 hk2
 let c3:=fuC p a2 c2 hk2
 let a4:=fbA p a3 c3 6 hk3
 let c4:=fbC p a3 c3 6 hk3
 let a5:=fbA p a4 c4 2 hk4
 let c5:=fbC p a4 c4 2 hk4
 let a6:=fbA p a5 c5 18 hk5
 let c6:=fbC p a5 c5 18 hk5
 ⟨a6,c6,fuV p a1 c1 hk2,fuV p a2 c2 hk2,fbV p a3 c3 6 hk3,fbV p a4 c4 2 hk4,fbV p a5 c5 18 hk5⟩
def HdS.W (x:HdS):Int:=if x.c=0 then 8*(x.w+1) else 0
def HdS.H (x:HdS):Int:=if x.c=0 then 8*(x.h+1) else 0
def HdS.Q (x:HdS):Int:=if x.c=0 then x.q else 0
def HdS.B (x:HdS):Bool:=decide (x.c=0∧x.f≥2)
def HdS.D (x:HdS):Bool:=decide (x.c=0∧x.f%2=1)
def HdS.L (x:HdS):List Int:=if x.c=0 then lensV x.l else []
structure LvS where
 a:Int
 c:Int
 at_:Int
 out:List Int
def lvStep (p:List UInt8) (nn:Int) (x:LvS):LvS:=
 if x.c=0 then
  let k1:=fun y:Int=>ifE (y<nn-x.at_) 5
  let k2:=fun y:Int=>ifE (-16383≤lvOf y∧lvOf y≤16383) 5
  let a1:=fuA p x.a 0 k1
  let c1:=fuC p x.a 0 k1
  let t1:=x.at_+fuV p x.a 0 k1
  let a2:=fuA p a1 c1 k2
  let c2:=fuC p a1 c1 k2
  if c2=0 then ⟨a2,c2,t1+1,x.out.set t1.toNat (lvOf (fuV p a1 c1 k2))⟩ else ⟨a2,c2,t1,x.out⟩
 else x
def lvRun (p:List UInt8) (nn:Int) (x:LvS):Nat→LvS
 |0=>x
 |k+1=>lvStep p nn (lvRun p nn x k)
def lvS (p:List UInt8) (s n:Int):LvS:=
 let nn:=n*n
 let z:=List.replicate nn.toNat 0
 let k0:=fun _:Int=>0
 let k1:=fun y:Int=>ifE (y<nn) 5
 let a1:=fbA p s 0 1 k0
 let c1:=fbC p s 0 1 k0
 if fbV p s 0 1 k0=0 then ⟨a1,c1,0,z⟩ else
  let a2:=fuA p a1 c1 k1
  let c2:=fuC p a1 c1 k1
  lvRun p nn ⟨a2,c2,0,z⟩ (1+fuV p a1 c1 k1).toNat
theorem lvStep_len (p:List UInt8) (nn:Int) (x:LvS):(lvStep p nn x).out.length=x.out.length:=by
 unfold lvStep;split
 ·simp only;split
  ·simp
  ·rfl
 ·rfl
theorem lvRun_len (p:List UInt8) (nn:Int) (x:LvS):∀k,(lvRun p nn x k).out.length=x.out.length
 |0=>rfl
 |k+1=>by rw [lvRun,lvStep_len,lvRun_len p nn x k]
theorem lvS_len (p:List UInt8) (s n:Int):(lvS p s n).out.length=(n*n).toNat:=by
 unfold lvS;simp only;split
 ·simp
 ·rw [lvRun_len];simp
structure BlS where
 a:Int
 c:Int
 m:Int
 l:List Int
def blS (p:List UInt8) (s:Int) (lens:List Int) (n:Int):BlS:=
 if n=4∨n=8 then
  if smC p s lens=0 then
   let x:=lvS p (smA p s lens) n
   if x.c=0 then ⟨x.a,0,smV p s lens,x.out⟩ else ⟨x.a,x.c,0,[]⟩
  else ⟨s,smC p s lens,0,[]⟩
 else ⟨s,5,0,[]⟩
theorem blS_len (p:List UInt8) (s:Int) (lens:List Int) (n:Int):(blS p s lens n).l.length≤64:=by
 unfold blS;split
 ·rename_i h
  split
  ·simp only;split
   ·have:=lvS_len p (smA p s lens) n
    rcases h with rfl|rfl
    ·have h2:((4:Int)*4).toNat=16:=rfl
     show (lvS p (smA p s lens) 4).out.length≤64
     omega
    ·have h2:((8:Int)*8).toNat=64:=rfl
     show (lvS p (smA p s lens) 8).out.length≤64
     omega
   ·simp
  ·simp
 ·simp
structure MbS where
 a:Int
 c:Int
 bs:List Blok
def mbRun (p:List UInt8) (s:Int) (lens:List Int) (n:Int):Nat→MbS
 |0=>⟨s,0,[]⟩
 |k+1=>
  let x:=mbRun p s lens n k
  if x.c=0 then
   let b:=blS p x.a lens n
   if b.c=0 then ⟨b.a,0,x.bs++[(b.m,b.l)]⟩ else ⟨b.a,b.c,[]⟩
  else x
def mbS (p:List UInt8) (s:Int) (lens:List Int):MbS×Bool:=
 if RbOk p s 1 then
  let e:=decide (rbV p s 1=1)
  let x:=mbRun p (s+1) lens (bif e then 8 else 4) (bif e then 1 else 4)
  (x,bif decide (x.c=0) then e else false)
 else (⟨s,1,[]⟩,false)
structure StS where
 a:Int
 c:Int
 ms:List Mbk
def stRun (p:List UInt8) (s:Int) (lens:List Int):Nat→StS
 |0=>⟨s,0,[]⟩
 |k+1=>
  let x:=stRun p s lens k
  if x.c=0 then
   let m:=mbS p x.a lens
   if m.1.c=0 then ⟨m.1.a,0,x.ms++[(m.2,m.1.bs)]⟩ else ⟨m.1.a,m.1.c,[]⟩
  else x
def endC (p:List UInt8) (s:Int):Int:=if lft p s=0 then 1 else if lft p s≤8∧numB p s (lft p s).toNat=2 ^ (lft p s-1).toNat then 0 else 6
end Go.Proofs.YtndflfipaddfoaaGreat


namespace Go.Proofs.YtndflfipaddfoaaGreat
open Go Go.Abs
attribute [local irreducible] WpA WpL Rnd Blk Abs.Seq Abs.Fin Abs.FinG FnC FnG Only
end Go.Proofs.YtndflfipaddfoaaGreat


namespace Go.Proofs.YtndflfipaddfoaaGreat
open Go Go.Abs
attribute [local irreducible] WpA WpL Rnd Blk Abs.Seq Abs.Fin Abs.FinG FnC FnG Only
end Go.Proofs.YtndflfipaddfoaaGreat


namespace Go.Proofs.YtndflfipaddfoaaGreat
open Go Go.Abs
attribute [local irreducible] WpA WpL Rnd Blk Abs.Seq Abs.Fin Abs.FinG FnC FnG Only
theorem shr8_in (x:UInt8) (k:Nat):IntKind.i64.wrap ((x.toNat:Int)/2 ^ k)=(x.toNat:Int)/2 ^ k:=by
 have h1:(x.toNat:Int)/2 ^ k≤x.toNat:=Int.ediv_le_self _ (by omega)
 have h2:0≤(x.toNat:Int)/2 ^ k:=Int.ediv_nonneg (by omega) (Int.pow_nonneg (by decide))
 have:=x.toNat_lt
 exact wrap64 _ (by omega)
instance BitAt_c:Con 94 (∀ (p:List UInt8) (i:Int),p.length≤1099511627776→Fn 94 [Z p,I i] [] (I (btA p i))):=⟨fun p i hl=>by
 refine FnC.of_body tabOk Tryz.func94 Tryz.ntmps94 rfl (by decide +kernel) (by simp) fun G=>?_
 refine go (r:=?_);and_intros<;>intros<;>try exact True.intro
 ·rw [btA,if_pos (by omega)]
 ·rw [btA,if_pos (by omega)]
 ·rw [btA,if_neg (by omega),bit1,shr8_in]⟩
instance BitAt_s:Con 201 (∀ (p:List UInt8) (i:Int),p.length≤1099511627776→Fn 201 [Z p,I i] [] (I (btA p i))):=⟨fun p i hl=>by
 refine FnC.of_body tabOk Tryz.func201 Tryz.ntmps201 rfl (by decide +kernel) (by simp) fun G=>?_
 refine go (r:=?_);and_intros<;>intros<;>try exact True.intro
 ·rw [btA,if_pos (by omega)]
 ·rw [btA,if_pos (by omega)]
 ·have:=(p.getD (i/8).toNat 0).toNat_lt
  rw [btA,if_neg (by omega),bit1]⟩
abbrev RA (p:List UInt8) (s:Int):AV:=.agg [Z p,I s]
theorem or1 (x b:Int) (h:0≤x∧x<2 ^ 61) (hb:0≤b∧b≤1):IntKind.i64.wrap ((BitVec.ofInt IntKind.i64.bits (IntKind.i64.wrap (x*2 ^ Int.toNat 1)) ||| BitVec.ofInt IntKind.i64.bits b).toNat:Nat)=x*2+b:=by
 have e0:x*2 ^ Int.toNat 1=x*2:=rfl
 rw [e0,wrap64 (x*2) (by omega)]
 obtain ⟨a,rfl⟩:∃a:Nat,x=a:=⟨x.toNat,by omega⟩
 obtain ⟨c,rfl⟩:∃c:Nat,b=c:=⟨b.toNat,by omega⟩
 have h1:(BitVec.ofInt IntKind.i64.bits ((a:Int)*2)).toNat=2*a:=by simp only [IntKind.bits,BitVec.toNat_ofInt];omega
 have h2:(BitVec.ofInt IntKind.i64.bits (c:Int)).toNat=c:=by simp only [IntKind.bits,BitVec.toNat_ofInt];omega
 rw [BitVec.toNat_or,h1,h2]
 have h3:=Nat.two_pow_add_eq_or_of_lt (i:=1) (b:=c) (by omega) a
 rw [show 2*a=2 ^ 1*a by omega,←h3,wrap64 _ (by omega)]
 omega
instance bits_c:Con 184 (∀ (p:List UInt8) (s n:Int),p.length≤1099511627776∧(-1125899906842624≤s∧s≤1125899906842624)∧0≤n∧n≤56→Fn 184 [Z p,I s,I n] [] (I (numB p s n.toNat))):=⟨fun p s n hl=>by
 obtain ⟨N,rfl⟩:∃N:Nat,n=N:=⟨n.toNat,by omega⟩
 refine FnC.of_body tabOk Tryz.func184 Tryz.ntmps184 rfl (by decide +kernel) (by simp) fun G=>?_
 refine go (r:=?_);and_intros<;>intros<;>try exact True.intro
 refine WpA.loop (fun k:Nat=>⟨[(0,Z p),(1,I s),(7,I (numB p s k)),(9,I N),(10,I k)],[]⟩) (fun k=>k≤N) (fun k=>N-k) 0 (by omega) (go (r:=?_)) (fun k hk=>?_)
 ·trivial
 have hb:=numB_bd p s k
 have hb2:=numB_le p s (k:=k) (j:=60) (by omega)
 have h1:=or1 (numB p s k) (max (btA p (s+k)) 0) (by omega) (bv_bd p (s+k))
 have h2:numB p s (k+1)=numB p s k*2+max (btA p (s+k)) 0:=rfl
 refine go (r:=?_);and_intros<;>intros<;>try exact True.intro
 all_goals first|(rw [h2,←h1];done)|(have e:k=N:=by omega);(first|(rw [e,Int.toNat_natCast];done)|(subst e;rfl))⟩
abbrev BoxR (p:List UInt8) (s:Int):AObj:=⟨[Z p,I s],0,0,none⟩
instance ReaderOk_c:Con 197 (∀ (p:List UInt8) (s:Int),p.length≤1099511627776→Fn 197 [RA p s] [] (B (decide (RdOk p s)))):=⟨fun p s hl=>by
 refine FnC.of_body tabOk Tryz.func197 Tryz.ntmps197 rfl (by decide +kernel) (by simp) fun G=>?_
 refine go (r:=?_);and_intros<;>intros<;>try exact True.intro⟩
instance ReaderOk_s:Con 199 (∀ (p:List UInt8) (s:Int),p.length≤1099511627776→Fn 199 [RA p s] [] (B (decide (RdOk p s)))):=⟨fun p s hl=>by
 refine FnC.of_body tabOk Tryz.func199 Tryz.ntmps199 rfl (by decide +kernel) (by simp) fun G=>?_
 refine go (r:=?_);and_intros<;>intros<;>try exact True.intro⟩
instance Left_c:Con 183 (∀ (p:List UInt8) (s:Int),p.length≤1099511627776→Fn 183 [RA p s] [] (I (lft p s))):=⟨fun p s hl=>by
 refine FnC.of_body tabOk Tryz.func183 Tryz.ntmps183 rfl (by decide +kernel) (by simp) fun G=>?_
 refine go (r:=?_);and_intros<;>intros<;>try exact True.intro
 all_goals first|(rw [lft_no (by assumption)];done)|(rw [lft_ok (by assumption)];done)⟩
instance Left_s:Con 200 (∀ (p:List UInt8) (s:Int),p.length≤1099511627776→Fn 200 [RA p s] [] (I (lft p s))):=⟨fun p s hl=>by
 refine FnC.of_body tabOk Tryz.func200 Tryz.ntmps200 rfl (by decide +kernel) (by simp) fun G=>?_
 refine go (r:=?_);and_intros<;>intros<;>try exact True.intro
 all_goals first|(rw [lft_no (by assumption)];done)|(rw [lft_ok (by assumption)];done)⟩
instance ReadBits_c:Con 112 (∀ (p:List UInt8) (s n:Int),p.length≤1099511627776→Fn 112 [RA p s,I n] [] (.tup [RA p (rbA p s n),I (rbV p s n),B (decide (RbOk p s n))])):=⟨fun p s n hl=>by
 have hb:=lft_bd p s
 refine FnC.of_body tabOk Tryz.func112 Tryz.ntmps112 rfl (by decide +kernel) (by simp) fun G=>?_
 by_cases hok:RbOk p s n
 ·obtain ⟨e1,e2⟩:=rb_yes hok
  obtain ⟨h1,h2,h3⟩:=id hok
  refine go (r:=?_);and_intros<;>intros<;>try exact True.intro
  all_goals first|(exact absurd (by assumption) (by assumption))|(rw [e1];done)|(rw [e2];done)|(simp [hok];done)|(exfalso;omega)
 ·obtain ⟨e1,e2⟩:=rb_no hok
  refine go (r:=?_);and_intros<;>intros<;>try exact True.intro
  all_goals first|(exact absurd ⟨by assumption,by assumption,by omega⟩ hok)|(rw [e1];done)|(rw [e2];done)|(simp [hok];done)⟩
instance ReadBits_s:Con 115 (∀ (p:List UInt8) (s n:Int),p.length≤1099511627776→Fn 115 [RA p s,I n] [] (.tup [RA p (rbA p s n),I (rbV p s n),B (decide (RbOk p s n))])):=⟨fun p s n hl=>by
 have hb:=lft_bd p s
 refine FnC.of_body tabOk Tryz.func115 Tryz.ntmps115 rfl (by decide +kernel) (by simp) fun G=>?_
 by_cases hok:RbOk p s n
 ·obtain ⟨e1,e2⟩:=rb_yes hok
  obtain ⟨h1,h2,h3⟩:=id hok
  have hlo:=lft_ok h1
  obtain ⟨N,rfl⟩:∃N:Nat,n=N:=⟨n.toNat,by omega⟩
  refine go (r:=?_);and_intros<;>intros<;>try exact True.intro
  all_goals first|(exact absurd (by assumption) (by assumption))|(exfalso;omega)|skip
  refine WpA.loop (fun k:Nat=>⟨[(1,I N),(2,.ptr 0 0 0),(4,.ptr 1 0 0),(7,I (numB p s k)),(8,I k)],[BoxR p s,⟨[Z [],I 0],0,0,none⟩]⟩) (fun k=>k≤N) (fun k=>N-k) 0 (by omega) (go (r:=?_)) (fun k hk=>?_)
  ·trivial
  have hbk:=numB_bd p s k
  have hb2:=numB_le p s (k:=k) (j:=33) (by omega)
  have hbt:=btA_bd p (s+k)
  have hbo:=btA_out p (s+k)
  have h2:numB p s (k+1)=numB p s k*2+max (btA p (s+k)) 0:=rfl
  refine go (r:=?_);and_intros<;>intros<;>try exact True.intro
  all_goals first|(rw [h2];omega)|(rw [e1];done)|(rw [e2,Int.toNat_natCast,show k=N by omega];done)|(simp [hok];done)
 ·obtain ⟨e1,e2⟩:=rb_no hok
  refine go (r:=?_);and_intros<;>intros<;>try exact True.intro
  all_goals first|(exact absurd ⟨by assumption,by assumption,by omega⟩ hok)|(rw [e1];done)|(rw [e2];done)|(simp [hok];done)⟩
instance ZerosAhead_c:Con 298 (∀ (p:List UInt8) (s:Int),p.length≤1099511627776→Fn 298 [RA p s] [] (I (zrs p s))):=⟨fun p s hl=>by
 have hb:=lft_bd p s
 refine FnC.of_body tabOk Tryz.func298 Tryz.ntmps298 rfl (by decide +kernel) (by simp) fun G=>?_
 by_cases hok:RdOk p s
 ·have hlo:=lft_ok hok
  refine go (r:=?_);and_intros<;>intros<;>try exact True.intro
  all_goals first|(exact absurd hok (by assumption))|skip
  refine WpA.loop (fun k:Nat=>⟨[(1,.ptr 0 0 0),(3,I k)],[BoxR p s]⟩) (fun k=>(k:Int)≤lft p s∧∀j<k,btA p (s+(j:Nat))=0) (fun k=>(lft p s).toNat-k) 0 ⟨by omega,fun j hj=>by omega⟩ (go (r:=?_)) (fun k hk=>?_)
  ·trivial
  have hbo:=btA_out p (s+k)
  have hz:=fun h3=>zrs_eq hk.1 hk.2 h3
  refine go (r:=?_);and_intros<;>intros<;>try exact True.intro
  all_goals first|(rename_i h1 j hj;rcases Nat.lt_succ_iff_lt_or_eq.1 hj with h|h;(exact hk.2 j h);(subst h;assumption))|(rw [hz (.inr (by assumption))];done)
 ·have hz:zrs p s=0:=by have:=zrs_le p s;rw [lft_no hok] at this;omega
  refine go (r:=?_);and_intros<;>intros<;>try exact True.intro
  all_goals first|(exact absurd (by assumption) hok)|(rw [hz];done)|(rw [hz];rfl)⟩
instance ZerosAhead_s:Con 266 (∀ (p:List UInt8) (s:Int),p.length≤1099511627776→Fn 266 [RA p s] [] (I (zrs p s))):=⟨fun p s hl=>by
 have hb:=lft_bd p s
 refine FnC.of_body tabOk Tryz.func266 Tryz.ntmps266 rfl (by decide +kernel) (by simp) fun G=>?_
 have hlo:=fun h:RdOk p s=>lft_ok h
 have hln:=fun h:¬RdOk p s=>lft_no h
 refine go (r:=?_);and_intros<;>intros<;>try exact True.intro
 refine WpA.loop (fun k:Nat=>⟨[(1,.ptr 0 0 0),(3,I k)],[BoxR p s]⟩) (fun k=>(k:Int)≤lft p s∧∀j<k,btA p (s+(j:Nat))=0) (fun k=>(lft p s).toNat-k) 0 ⟨by omega,fun j hj=>by omega⟩ (go (r:=?_)) (fun k hk=>?_)
 ·trivial
 have hbo:=btA_out p (s+k)
 have hz:=fun h3=>zrs_eq hk.1 hk.2 h3
 by_cases hok:RdOk p s
 ·have hlo:=lft_ok hok
  refine go (r:=?_);and_intros<;>intros<;>try exact True.intro
  all_goals first|(rename_i h1 h2 j hj;rcases Nat.lt_succ_iff_lt_or_eq.1 hj with h|h;(exact hk.2 j h);(subst h;assumption))|(rw [hz (.inr (by assumption))];done)|(rw [hz (.inl (by omega))];done)
 ·have hln:=lft_no hok
  refine go (r:=?_);and_intros<;>intros<;>try exact True.intro
  all_goals first|(rw [hz (.inl (by omega))];done)⟩
instance ReadUe_c:Con 261 (∀ (p:List UInt8) (s:Int),p.length≤1099511627776→Fn 261 [RA p s] [] (.tup [RA p (ueA p s),I (ueV p s),I (ueC p s)])):=⟨fun p s hl=>by
 have hb:=lft_bd p s
 have hz:=zrs_le p s
 have hv:=rbV_bd p s (2*(zrs p s:Int)+1)
 refine FnC.of_body tabOk Tryz.func261 Tryz.ntmps261 rfl (by decide +kernel) (by simp) fun G=>?_
 by_cases h15:zrs p s≤15
 ·by_cases hok:RbOk p s (2*(zrs p s:Int)+1)
  ·obtain ⟨e1,e2,e3⟩:=ue_yes h15 hok
   obtain ⟨e4,e5⟩:=rb_yes hok
   refine go (r:=?_);and_intros<;>intros<;>try exact True.intro
   all_goals first|(exact absurd hok (by assumption))|(exfalso;omega)|(rw [e1,e4];done)|(rw [e3,e5];done)|(rw [e2];done)
  ·obtain ⟨e1,e2,e3⟩:=ue_short h15 hok
   refine go (r:=?_);and_intros<;>intros<;>try exact True.intro
   all_goals first|(exact absurd (by assumption) hok)|(exfalso;omega)|(rw [e1];done)|(rw [e3];done)|(rw [e2];done)
 ·obtain ⟨e1,e2,e3⟩:=ue_code (s:=s) (p:=p) h15
  refine go (r:=?_);and_intros<;>intros<;>try exact True.intro
  all_goals first|(exfalso;omega)|(rw [e1];done)|(rw [e3];done)|(rw [e2];done)⟩
instance ReadUe_s:Con 218 (∀ (p:List UInt8) (s:Int),p.length≤1099511627776→Fn 218 [RA p s] [] (.tup [RA p (ueA p s),I (ueV p s),I (ueC p s)])):=⟨fun p s hl=>by
 have hb:=lft_bd p s
 have hz:=zrs_le p s
 have hv:=rbV_bd p s (2*(zrs p s:Int)+1)
 refine FnC.of_body tabOk Tryz.func218 Tryz.ntmps218 rfl (by decide +kernel) (by simp) fun G=>?_
 by_cases h15:zrs p s≤15
 ·by_cases hok:RbOk p s (2*(zrs p s:Int)+1)
  ·obtain ⟨e1,e2,e3⟩:=ue_yes h15 hok
   obtain ⟨e4,e5⟩:=rb_yes hok
   refine go (r:=?_);and_intros<;>intros<;>try exact True.intro
   all_goals first|(exact absurd hok (by assumption))|(exfalso;omega)|(rw [e1,e4];done)|(rw [e3,e5];done)|(rw [e2];done)
  ·obtain ⟨e1,e2,e3⟩:=ue_short h15 hok
   refine go (r:=?_);and_intros<;>intros<;>try exact True.intro
   all_goals first|(exact absurd (by assumption) hok)|(exfalso;omega)|(rw [e1];done)|(rw [e3];done)|(rw [e2];done)
 ·obtain ⟨e1,e2,e3⟩:=ue_code (s:=s) (p:=p) h15
  refine go (r:=?_);and_intros<;>intros<;>try exact True.intro
  all_goals first|(exfalso;omega)|(rw [e1];done)|(rw [e3];done)|(rw [e2];done)⟩
instance LevelOf_c:Con 216 (∀ n:Int,-4611686018427387904≤n∧n≤4611686018427387904→Fn 216 [I n] [] (I (lvOf n))):=⟨fun n h=>by
 refine FnC.of_body tabOk Tryz.func216 Tryz.ntmps216 rfl (by decide +kernel) (by simp) fun G=>?_
 refine go (r:=?_);and_intros<;>intros<;>try exact True.intro
 ·rw [lvOf,if_pos (by assumption)]
 ·rw [lvOf,if_neg (by omega),if_pos (by assumption)]
 ·rw [lvOf,if_neg (by omega),if_neg (by assumption)];omega⟩
instance LevelOf_s:Con 267 (∀ n:Int,-4611686018427387904≤n∧n≤4611686018427387904→Fn 267 [I n] [] (I (lvOf n))):=⟨fun n h=>by
 refine FnC.of_body tabOk Tryz.func267 Tryz.ntmps267 rfl (by decide +kernel) (by simp) fun G=>?_
 refine go (r:=?_);and_intros<;>intros<;>try exact True.intro
 ·rw [lvOf,if_pos (by assumption)]
 ·rw [lvOf,if_neg (by omega),if_pos (by assumption)]
 ·rw [lvOf,if_neg (by omega),if_neg (by assumption)]⟩
end Go.Proofs.YtndflfipaddfoaaGreat


namespace Go.Proofs.YtndflfipaddfoaaGreat
open Go Go.Abs
attribute [local irreducible] WpA WpL Rnd Blk Abs.Seq Abs.Fin Abs.FinG FnC FnG Only
abbrev R0:AObj:=⟨[Z [],I 0],0,0,none⟩
theorem rb_ok_le {p:List UInt8} {s n m:Int} (h:RbOk p s n) (h0:0≤m) (h1:m≤n):RbOk p s m:=⟨h.1,by omega,by omega⟩
instance ReadSym_c:Con 198 (∀ (p:List UInt8) (s:Int) (l:List Int),p.length≤1099511627776∧l.length≤1099511627776→Fn 198 [RA p s,IL l] [] (.tup [RA p (smA p s l),I (smV p s l),I (smC p s l)])):=⟨fun p s l hl=>by
 have hb:=lft_bd p s
 refine FnC.of_body tabOk Tryz.func198 Tryz.ntmps198 rfl (by decide +kernel) (by simp) fun G=>?_
 by_cases hok:CodeOk l
 ·have h6:=hok.2.1
  have hcr:=codesR_ok l hok
  have hcl:=codes_len l
  have hcn:=codesR_len l hok
  refine go (r:=?_);and_intros<;>intros<;>try exact True.intro
  all_goals first|(exact absurd hok (by assumption))|skip
  refine WpA.loop (fun k:Nat=>⟨[(2,.ptr 0 0 0),(4,.ptr 1 0 0),(7,.own 2 0 0 6),(18,IL l),(19,I l.length),(20,I k)],[BoxR p s,R0,XI (codes l)]⟩) (fun k=>k≤6∧∀m<k,¬SymAt p s l m) (fun k=>6-k) 0 ⟨by omega,fun j hj=>by omega⟩ (go (r:=?_)) (fun k hk=>?_)
  ·trivial
  have hcb:=code_in hok (m:=k)
  have hy:=fun h=>rb_yes (p:=p) (s:=s) (n:=l.getD k 0) h
  refine go (r:=?_);and_intros<;>intros<;>try exact True.intro
  all_goals first
   |(have hsy:SymAt p s l k:=⟨by omega,by assumption,by rw [←(hy (by assumption)).2];simpa using ‹rbV p s (l.getD k 0)=_›⟩
     obtain ⟨e1,e2,e3⟩:=sm_yes hok (by omega) hsy
     first|(rw [e1,(hy hsy.2.1).1];done)|(rw [e2];done)|(rw [e3];done))
   |(rename_i j hj hs
     rcases Nat.lt_succ_iff_lt_or_eq.1 hj with h|h
     ·exact hk.2 j h hs
     ·subst h
      obtain ⟨a,b,c⟩:=hs
      first|omega|exact absurd b (by assumption)|(have hv:=(hy b).2;rw [c] at hv;rw [Int.toNat_natCast] at *;exact absurd hv (by assumption)))
   |(obtain ⟨e1,e2,e3⟩:=sm_none hok (fun m hm=>hk.2 m (by omega))
     first|(rw [e1];done)|(rw [e2];done)|(rw [e3];done))
 ·obtain ⟨e1,e2,e3⟩:=sm_bad (p:=p) (s:=s) hok
  have hcr:=codesR_no l hok
  refine go (r:=?_);and_intros<;>intros<;>try exact True.intro
  all_goals first|(exact absurd (by assumption) hok)|(rw [e1];done)|(rw [e2];done)|(rw [e3];done)⟩
instance ReadSym_s:Con 202 (∀ (p:List UInt8) (s:Int) (l:List Int),p.length≤1099511627776∧l.length≤1099511627776→Fn 202 [RA p s,IL l] [] (.tup [RA p (smA p s l),I (smV p s l),I (smC p s l)])):=⟨fun p s l hl=>by
 have hb:=lft_bd p s
 refine FnC.of_body tabOk Tryz.func202 Tryz.ntmps202 rfl (by decide +kernel) (by simp) fun G=>?_
 by_cases hok:CodeOk l
 ·have h6:=hok.2.1
  have hcr:=codesR_ok l hok
  have hcl:=codes_len l
  have hcn:=codesR_len l hok
  refine go (r:=?_);and_intros<;>intros<;>try exact True.intro
  all_goals first|(exact absurd hok (by assumption))|(exfalso;omega)|skip
  rw [hcr]
  refine WpA.loop (fun w:Nat=>⟨[(1,IL l),(2,.ptr 0 0 0),(4,.ptr 1 0 0),(7,.own 2 0 0 6),(8,I ((w:Int)+1))],[BoxR p s,R0,XI (codes l)]⟩) (fun w=>w≤7∧(w=0∨RbOk p s w)∧∀m<6,l.getD m 0≤w→¬SymAt p s l m) (fun w=>7-w) 0 ⟨by omega,.inl rfl,fun m hm h1 h2=>by have:=h2.1;omega⟩ (go (r:=?_)) (fun w hw=>?_)
  ·and_intros<;>first|trivial|(rw [hcr];done)
  have hy:=fun h=>rb_yes (p:=p) (s:=s) (n:=(w:Int)+1) h
  obtain ⟨hw1,hw2,hw3⟩:=hw
  have hno:w<7→¬RbOk p s ((w:Int)+1)→∀m<6,¬SymAt p s l m:=fun h7 h m hm hs=>by
   by_cases hle:l.getD m 0≤w
   ·exact hw3 m hm hle hs
   ·exact h (rb_ok_le hs.2.1 (by omega) (by omega))
  have hall:w=7→False:=fun h7=>by
   subst h7
   obtain ⟨m,hm,hs⟩:=sym_cov (p:=p) (s:=s) hok (by rcases hw2 with h|h;omega;exact h)
   have:=code_in hok hm
   exact hw3 m hm (by omega) hs
  refine go (r:=?_);and_intros<;>intros<;>try exact True.intro
  all_goals first
   |(exact (hall (by omega)).elim)
   |(have hh:¬RbOk p s ((w:Int)+1):=by assumption
     obtain ⟨e1,e2,e3⟩:=sm_none hok (hno (by omega) hh)
     first|(rw [e1];done)|(rw [e2];done)|(rw [e3];done))
   |skip
  refine WpA.loop (fun m:Nat=>⟨[(1,IL l),(2,.ptr 0 0 0),(4,.ptr 1 0 0),(7,.own 2 0 0 6),(8,I ((w:Int)+1)),(9,.ptr 3 0 0),(10,I (rbV p s ((w:Int)+1))),(12,I m)],[BoxR p s,R0,XI (codes l),⟨[Z p,I (rbA p s ((w:Int)+1))],0,0,none⟩]⟩) (fun m=>m≤6∧∀j<m,l.getD j 0=(w:Int)+1→¬SymAt p s l j) (fun m=>6-m) 0 ⟨by omega,fun j hj=>by omega⟩ (go (r:=?_)) (fun m hm=>?_)
  ·trivial
  obtain ⟨hm1,hm2⟩:=hm
  have hrb:RbOk p s ((w:Int)+1):=by assumption
  obtain ⟨e4,e5⟩:=hy hrb
  refine go (r:=?_);and_intros<;>intros<;>try exact True.intro
  all_goals first
   |(have hlm:l.getD m 0=(w:Int)+1:=by assumption
     have hcm:(codes l).getD ((m:Int)).toNat 0=rbV p s ((w:Int)+1):=by assumption
     have hsy:SymAt p s l m:=by
      rw [Int.toNat_natCast] at hcm
      refine ⟨by omega,by rw [hlm];exact hrb,by rw [hlm,←e5,hcm]⟩
     obtain ⟨e1,e2,e3⟩:=sm_yes hok (by omega) hsy
     first|(rw [e1,e4,hlm];done)|(rw [e2];done)|(rw [e3];done))
   |(rename_i j hj hlj hs
     rcases Nat.lt_succ_iff_lt_or_eq.1 hj with h|h
     ·exact hm2 j h hlj hs
     ·subst h
      obtain ⟨a,b,c⟩:=hs
      first|(exact absurd hlj (by assumption))|(rw [hlj,←e5] at c;rw [Int.toNat_natCast] at *;exact absurd c.symm (by assumption)))
   |(rename_i j hj hlj hs
     have:m=6:=by omega
     subst this
     by_cases hle:l.getD j 0=(w:Int)+1
     ·exact hm2 j hj hle hs
     ·exact hw3 j hj (by omega) hs)
 ·obtain ⟨e1,e2,e3⟩:=sm_bad (p:=p) (s:=s) hok
  have hcr:=codesR_no l hok
  have hcr2:(codesR l).length=0:=by rw [hcr];rfl
  refine go (r:=?_);and_intros<;>intros<;>try exact True.intro
  all_goals first|(exact absurd (by assumption) hok)|(exfalso;omega)|(rw [e1];done)|(rw [e2];done)|(rw [e3];done)⟩
theorem _root_.Go.Abs.WpA.regionMB0 {P:Program} {n m:Nat} {G:Ctx} {T0:List (Nat×AV)} {O:List AObj} {l l1 l2:List Oper} {id:Nat} {out T1:List (Nat×AV)} {Q:Exit→St→Prop} (k:Nat) (hm:P.follows .mixedOrders=true) (hB:mixB l.toArray k=true)
 (hl:takeF k l=some l1) (hJ:HeadJ P n m G l.toArray T0 O [] l1 out) (hnd:TrueB (nodupB (out.map (·.1)))) (hfr:TrueB (out.all fun p=>!has T0 p.1))
 (hT1:catF out T0=some T1) (h2:l.drop k=l2) (h:WpL P n m G false l.toArray l2 ⟨T1,O⟩ Q):WpA P n m G (.region id l.toArray true) ⟨T0,O⟩ Q:=by
 have:=takeF_eq hl;subst this;subst h2
 exact WpA.regionM k hm hB hJ hnd.e hfr.e (catF_eq hT1) h
theorem end0 {p:List UInt8} {s:Int} (h:lft p s=0):endC p s=1:=by rw [endC,if_pos h]
instance StopOk_c:Con 91 (∀ (p:List UInt8) (s:Int),p.length≤1099511627776∧RdOk p s→Fn 91 [RA p s] [] (I (endC p s))):=⟨fun p s hl=>by
 have hb:=lft_bd p s
 obtain ⟨hl,h1,h2⟩:=hl
 refine FnC.of_body tabOk Tryz.func91 Tryz.ntmps91 rfl (by decide +kernel) (by simp) fun G=>?_
 refine goR (r:=?_);and_intros<;>intros<;>try exact True.intro
 ·rw [end0 (by assumption)]
 rename_i h0
 by_cases h8:lft p s≤8
 ·apply WpA.regionMB0 14 mixed (by decide +kernel)
  ·exact rfl
  ·skip
   apply HeadJ.consF rfl
   ·exact rfl
   ·exact in0
   ·exact rfl
   apply HeadJ.consF (V:=B true) rfl
   ·exact rfl
   ·intro Tv
    refine K.L ?_
    refine K.bin ?_
    refine WpL.bin rfl rfl rfl (by decide) ?_
    exact WpL.nil (Only.mk (by rw [decide_eq_true h8]))
   ·exact rfl
   apply HeadJ.consF rfl
   ·exact rfl
   ·exact in0
   ·exact rfl
   apply HeadJ.consF rfl
   ·exact rfl
   ·(intro Tv;refine K.L ?_;refine K.gd ?_;refine K.gT rfl (by decide) rfl ?_;exact in0)
   ·exact rfl
   apply HeadJ.consF rfl
   ·exact rfl
   ·(intro Tv;refine K.L ?_;refine K.gd ?_;refine K.gT rfl (by decide) rfl ?_;exact in0)
   ·exact rfl
   apply HeadJ.consF rfl
   ·exact rfl
   ·(intro Tv;refine K.L ?_;refine K.gd ?_;refine K.gT rfl (by decide) rfl ?_;exact in0)
   ·exact rfl
   apply HeadJ.consF rfl
   ·exact rfl
   ·(intro Tv;refine K.L ?_;refine K.gd ?_;refine K.gT rfl (by decide) rfl ?_;exact in0)
   ·exact rfl
   apply HeadJ.consF rfl
   ·exact rfl
   ·(intro Tv;refine K.L ?_;refine K.gd ?_;refine K.gT rfl (by decide) rfl ?_;exact in0)
   ·exact rfl
   apply HeadJ.consF rfl
   ·exact rfl
   ·(intro Tv;refine K.L ?_;refine K.gd ?_;refine K.gT rfl (by decide) rfl ?_;exact in0)
   ·exact rfl
   apply HeadJ.consF rfl
   ·exact rfl
   ·(intro Tv;refine K.L ?_;refine K.gd ?_;refine K.gT rfl (by decide) rfl ?_;exact in0)
   ·exact rfl
   apply HeadJ.consF rfl
   ·exact rfl
   ·(intro Tv;refine K.L ?_;refine K.gd ?_;refine K.gT rfl (by decide) rfl ?_;exact in0)
   ·exact rfl
   apply HeadJ.consF rfl
   ·exact rfl
   ·(intro Tv;refine K.L ?_;refine K.gd ?_;refine K.gT rfl (by decide) rfl ?_;exact in0)
   ·exact rfl
   apply HeadJ.consF rfl
   ·exact rfl
   ·(intro Tv;refine K.L ?_;refine K.gd ?_;refine K.gT rfl (by decide) rfl ?_;exact in0)
   ·exact rfl
   apply HeadJ.consF rfl
   ·exact rfl
   ·exact in0
   ·exact rfl
   exact HeadJ.nil
  ·exact trueA
  ·exact trueA
  ·exact rfl
  ·exact rfl
  have hw1:IntKind.i64.wrap (1*2 ^ (lft p s-1).toNat)=2 ^ (lft p s-1).toNat:=by
   have e:((1:Int)*2 ^ (lft p s-1).toNat)=2 ^ (lft p s-1).toNat:=Int.one_mul _
   have h4:(2:Int) ^ (lft p s-1).toNat≤2 ^ 8:=by exact_mod_cast Nat.pow_le_pow_right (by decide) (by omega)
   have h5:(0:Int)<2 ^ (lft p s-1).toNat:=by exact_mod_cast Nat.pow_pos (by decide)
   rw [e];exact wrap64 _ (by omega)
  refine go (r:=?_);and_intros<;>intros<;>try exact True.intro
  ·rename_i hn
   rw [hw1] at hn
   rw [endC,if_neg h0,if_pos ⟨h8,hn⟩]
  ·rename_i hn
   rw [hw1] at hn
   rw [endC,if_neg h0,if_neg fun h=>hn h.2]
 ·apply WpA.regionMB0 14 mixed (by decide +kernel)
  ·exact rfl
  ·skip
   apply HeadJ.consF rfl
   ·exact rfl
   ·exact in0
   ·exact rfl
   apply HeadJ.consF (V:=B false) rfl
   ·exact rfl
   ·intro Tv
    refine K.L ?_
    refine K.bin ?_
    refine WpL.bin rfl rfl rfl (by decide) ?_
    exact WpL.nil (Only.mk (by rw [decide_eq_false h8]))
   ·exact rfl
   apply HeadJ.consF rfl
   ·exact rfl
   ·exact in0
   ·exact rfl
   apply HeadJ.consF rfl
   ·exact rfl
   ·(intro Tv;refine K.L ?_;refine K.gd ?_;refine K.gF rfl (by decide) rfl ?_;exact WpL.nil (Only.mk rfl))
   ·exact rfl
   apply HeadJ.consF rfl
   ·exact rfl
   ·(intro Tv;refine K.L ?_;refine K.gd ?_;refine K.gF rfl (by decide) rfl ?_;exact WpL.nil (Only.mk rfl))
   ·exact rfl
   apply HeadJ.consF rfl
   ·exact rfl
   ·(intro Tv;refine K.L ?_;refine K.gd ?_;refine K.gF rfl (by decide) rfl ?_;exact WpL.nil (Only.mk rfl))
   ·exact rfl
   apply HeadJ.consF rfl
   ·exact rfl
   ·(intro Tv;refine K.L ?_;refine K.gd ?_;refine K.gF rfl (by decide) rfl ?_;exact WpL.nil (Only.mk rfl))
   ·exact rfl
   apply HeadJ.consF rfl
   ·exact rfl
   ·(intro Tv;refine K.L ?_;refine K.gd ?_;refine K.gF rfl (by decide) rfl ?_;exact WpL.nil (Only.mk rfl))
   ·exact rfl
   apply HeadJ.consF rfl
   ·exact rfl
   ·(intro Tv;refine K.L ?_;refine K.gd ?_;refine K.gF rfl (by decide) rfl ?_;exact WpL.nil (Only.mk rfl))
   ·exact rfl
   apply HeadJ.consF rfl
   ·exact rfl
   ·(intro Tv;refine K.L ?_;refine K.gd ?_;refine K.gF rfl (by decide) rfl ?_;exact WpL.nil (Only.mk rfl))
   ·exact rfl
   apply HeadJ.consF rfl
   ·exact rfl
   ·(intro Tv;refine K.L ?_;refine K.gd ?_;refine K.gF rfl (by decide) rfl ?_;exact WpL.nil (Only.mk rfl))
   ·exact rfl
   apply HeadJ.consF rfl
   ·exact rfl
   ·(intro Tv;refine K.L ?_;refine K.gd ?_;refine K.gF rfl (by decide) rfl ?_;exact WpL.nil (Only.mk rfl))
   ·exact rfl
   apply HeadJ.consF rfl
   ·exact rfl
   ·(intro Tv;refine K.L ?_;refine K.gd ?_;refine K.gF rfl (by decide) rfl ?_;exact WpL.nil (Only.mk rfl))
   ·exact rfl
   apply HeadJ.consF rfl
   ·exact rfl
   ·exact in0
   ·exact rfl
   exact HeadJ.nil
  ·exact trueA
  ·exact trueA
  ·exact rfl
  ·exact rfl
  refine go (r:=?_);and_intros<;>intros<;>try exact True.intro
  rw [endC,if_neg h0,if_neg fun h=>h8 h.1]⟩
instance StopOk_s:Con 223 (∀ (p:List UInt8) (s:Int),p.length≤1099511627776∧RdOk p s→Fn 223 [RA p s] [] (I (endC p s))):=⟨fun p s hl=>by
 have hb:=lft_bd p s
 have hei:=end_iff (p:=p) (s:=s) hl.2
 refine FnC.of_body tabOk Tryz.func223 Tryz.ntmps223 rfl (by decide +kernel) (by simp) fun G=>?_
 refine go (r:=?_);and_intros<;>intros<;>try exact True.intro
 ·rw [end0 (by assumption)]
 ·rename_i h0 h1
  rw [endC,if_neg h0,if_neg];exact fun h=>h1 ((hei (by omega)).1 h.2).1
 ·rename_i h0 _ h1
  rw [endC,if_neg h0,if_neg];omega
 ·rename_i h0 _ _ h1
  rw [endC,if_neg h0,if_neg];exact fun h=>h1 ((hei (by omega)).1 h.2).2
 ·rename_i h0 h1 h2 h3
  rw [endC,if_neg h0,if_pos];exact ⟨by omega,(hei (by omega)).2 ⟨h1,h3⟩⟩⟩
end Go.Proofs.YtndflfipaddfoaaGreat


namespace Go.Proofs.YtndflfipaddfoaaGreat
open Go Go.Abs
attribute [local irreducible] WpA WpL Rnd Blk Abs.Seq Abs.Fin Abs.FinG FnC FnG Only
instance unless_c:Con 175 (∀ (b:Bool) (c:Int),Fn 175 [B b,I c] [] (I (bif b then 0 else c))):=⟨fun b c=>by
 cases b
 ·refine FnC.of_body tabOk Tryz.func175 Tryz.ntmps175 rfl (by decide +kernel) (by simp) fun G=>?_
  refine go (r:=?_);and_intros<;>intros<;>try exact True.intro
  all_goals rfl
 ·refine FnC.of_body tabOk Tryz.func175 Tryz.ntmps175 rfl (by decide +kernel) (by simp) fun G=>?_
  refine go (r:=?_);and_intros<;>intros<;>try exact True.intro
  all_goals rfl⟩
instance levels1_c:Con 213 (∀ x:Int,Fn 213 [I x] [] (I 0)):=⟨fun x=>by
 refine FnC.of_body tabOk Tryz.func213 Tryz.ntmps213 rfl (by decide +kernel) (by simp) fun G=>?_
 refine go (r:=?_);and_intros<;>intros<;>try exact True.intro⟩
instance levels2_c:Con 214 (∀ x n:Int,0≤n∧n≤8→Fn 214 [I x,.iptr [I n] 0] [] (I (ifE (x<n*n) 5))):=⟨fun x n h=>by
 have hnn:=mul_in (a:=n) (b:=n) (by omega) (by omega)
 refine FnC.of_body tabOk Tryz.func214 Tryz.ntmps214 rfl (by decide +kernel) (by simp) fun G=>?_
 refine go (r:=?_);and_intros<;>intros<;>try exact True.intro⟩
instance levels3_c:Con 215 (∀ x n t:Int,(0≤n∧n≤8)∧0≤t∧t≤1099511627776→Fn 215 [I x,.iptr [I n] 0,.iptr [I t] 0] [] (I (ifE (x<n*n-t) 5))):=⟨fun x n t h=>by
 have hnn:0≤n*n∧n*n≤64:=⟨Int.mul_nonneg h.1.1 h.1.1,by have:=Int.mul_le_mul h.1.2 h.1.2 h.1.1 (by decide);omega⟩
 have hn2:=mul_in (a:=n) (b:=n) (by omega) (by omega)
 refine FnC.of_body tabOk Tryz.func215 Tryz.ntmps215 rfl (by decide +kernel) (by simp) fun G=>?_
 refine go (r:=?_);and_intros<;>intros<;>try exact True.intro⟩
instance levels4_c:Con 217 (∀ x:Int,-4611686018427387904≤x∧x≤4611686018427387904→Fn 217 [I x] [] (I (ifE (-16383≤lvOf x∧lvOf x≤16383) 5))):=⟨fun x h=>by
 refine FnC.of_body tabOk Tryz.func217 Tryz.ntmps217 rfl (by decide +kernel) (by simp) fun G=>?_
 refine go (r:=?_);and_intros<;>intros<;>try exact True.intro⟩
abbrev FldO (p:List UInt8) (s c:Int):AObj:=⟨[Z p,I s,I c],0,0,none⟩
abbrev Chk (g:Nat) (caps:List AV) (k:Int→Int):Prop:=caps.all AV.still=true∧caps.all AV.nofre=true∧∀x:Int,-1≤x∧x≤4294967296→Fn g (I x::caps) [] (I (k x))
abbrev ChkB (g:Nat) (caps:List AV) (k:Int→Int):Prop:=caps.all AV.still=true∧caps.all AV.nofre=true∧∀x:Int,0≤x∧x≤4294967296→Fn g (I x::caps) [] (I (k x))
theorem fbits_c (p:List UInt8) (s c n:Int) (g:Nat) (caps:List AV) (k:Int→Int) (hl:p.length≤1099511627776) (hk:ChkB g caps k):Gn 177 [.ptr 0 0 0,I n,.fn g caps] [FldO p s c] [FldO p (fbA p s c n k) (fbC p s c n k)] [] (I (fbV p s c n k)):=by
 obtain ⟨hc1,hc2,hg⟩:=hk
 have hv:=rbV_bd p s n
 refine FnG.of_bodyF tabOk Tryz.func177 Tryz.ntmps177 rfl (by decide +kernel) (by simp) rfl rfl fun G=>?_
 by_cases hc:c=0
 ·by_cases hok:RbOk p s n
  ·have e1:fbC p s c n k=k (rbV p s n):=by rw [fbC,if_pos hc,if_pos hok]
   refine go (r:=?_);and_intros<;>intros<;>try exact True.intro
   refine K.callT ?_
   refine WpL.callV0 rfl (hg (rbV p s n) ⟨by omega,by omega⟩) rfl (.keep rfl rfl (Snap.same rfl hc1 hc2)) (.sc .nil) rfl rfl (by decide) ?_
   by_cases hk0:k (rbV p s n)=0
   ·have e2:fbA p s c n k=rbA p s n:=by rw [fbA,if_pos ⟨hc,by rw [e1,hk0]⟩]
    have e3:fbV p s c n k=rbV p s n:=by rw [fbV,if_pos (by rw [e1,hk0])]
    refine go (r:=?_);and_intros<;>intros<;>try exact True.intro
    all_goals first|(exact absurd hk0 (by assumption))|(rw [e1];done)|(rw [e2];done)|(rw [e3];done)
   ·have e2:fbA p s c n k=s:=by rw [fbA,if_neg (by rw [e1];exact fun h=>hk0 h.2)]
    have e3:fbV p s c n k=0:=by rw [fbV,if_neg (by rw [e1];exact hk0)]
    refine go (r:=?_);and_intros<;>intros<;>try exact True.intro
    all_goals first|(exact absurd (by assumption) hk0)|(rw [e1];done)|(rw [e2];done)|(rw [e3];done)
  ·have e1:fbC p s c n k=1:=by rw [fbC,if_pos hc,if_neg hok]
   have e2:fbA p s c n k=s:=by rw [fbA,if_neg (by rw [e1];omega)]
   have e3:fbV p s c n k=0:=by rw [fbV,if_neg (by rw [e1];omega)]
   refine go (r:=?_);and_intros<;>intros<;>try exact True.intro
   all_goals first|(exact absurd (by assumption) hok)|(rw [e1];done)|(rw [e2];done)|(rw [e3];done)
 ·have e1:fbC p s c n k=c:=by rw [fbC,if_neg hc]
  have e2:fbA p s c n k=s:=by rw [fbA,if_neg (by omega)]
  have e3:fbV p s c n k=0:=by rw [fbV,if_neg (by rw [e1];omega)]
  refine go (r:=?_);and_intros<;>intros<;>try exact True.intro
  all_goals first|(exact absurd (by assumption) hc)|(rw [e1];done)|(rw [e2];done)|(rw [e3];done)
theorem ueV_bd (p:List UInt8) (s:Int):-1≤ueV p s∧ueV p s≤4294967296:=by
 have h:=rbV_bd p s (2*(zrs p s:Int)+1)
 unfold ueV;split<;>omega
theorem fue_c (p:List UInt8) (s c:Int) (g:Nat) (caps:List AV) (k:Int→Int) (hl:p.length≤1099511627776) (hk:Chk g caps k):Gn 179 [.ptr 0 0 0,.fn g caps] [FldO p s c] [FldO p (fuA p s c k) (fuC p s c k)] [] (I (fuV p s c k)):=by
 obtain ⟨hc1,hc2,hg⟩:=hk
 have hv:=ueV_bd p s
 refine FnG.of_bodyF tabOk Tryz.func179 Tryz.ntmps179 rfl (by decide +kernel) (by simp) rfl rfl fun G=>?_
 by_cases hc:c=0
 ·by_cases hok:ueC p s=0
  ·have e1:fuC p s c k=k (ueV p s):=by rw [fuC,if_pos hc,if_pos hok]
   refine go (r:=?_);and_intros<;>intros<;>try exact True.intro
   all_goals first|(exact absurd hok (by assumption))|skip
   refine K.callT ?_
   refine WpL.callV0 rfl (hg (ueV p s) hv) rfl (.keep rfl rfl (Snap.same rfl hc1 hc2)) (.sc .nil) rfl rfl (by decide) ?_
   by_cases hk0:k (ueV p s)=0
   ·have e2:fuA p s c k=ueA p s:=by rw [fuA,if_pos (by rw [e1,hk0])]
    have e3:fuV p s c k=ueV p s:=by rw [fuV,if_pos (by rw [e1,hk0])]
    refine go (r:=?_);and_intros<;>intros<;>try exact True.intro
    all_goals first|(exact absurd hk0 (by assumption))|(rw [e1];done)|(rw [e2];done)|(rw [e3];done)
   ·have e2:fuA p s c k=s:=by rw [fuA,if_neg (by rw [e1];exact hk0)]
    have e3:fuV p s c k=0:=by rw [fuV,if_neg (by rw [e1];exact hk0)]
    refine go (r:=?_);and_intros<;>intros<;>try exact True.intro
    all_goals first|(exact absurd (by assumption) hk0)|(rw [e1];done)|(rw [e2];done)|(rw [e3];done)
  ·have e1:fuC p s c k=ueC p s:=by rw [fuC,if_pos hc,if_neg hok]
   have e2:fuA p s c k=s:=by rw [fuA,if_neg (by rw [e1];exact hok)]
   have e3:fuV p s c k=0:=by rw [fuV,if_neg (by rw [e1];exact hok)]
   refine go (r:=?_);and_intros<;>intros<;>try exact True.intro
   all_goals first|(exact absurd (by assumption) hok)|(rw [e1];done)|(rw [e2];done)|(rw [e3];done)
 ·have e1:fuC p s c k=c:=by rw [fuC,if_neg hc]
  have e2:fuA p s c k=s:=by rw [fuA,if_neg (by rw [e1];exact hc)]
  have e3:fuV p s c k=0:=by rw [fuV,if_neg (by rw [e1];exact hc)]
  refine go (r:=?_);and_intros<;>intros<;>try exact True.intro
  all_goals first|(exact absurd (by assumption) hc)|(rw [e1];done)|(rw [e2];done)|(rw [e3];done)
instance rh1_c:Con 173 (∀ x:Int,Fn 173 [I x] [] (I 0)):=⟨fun x=>by
 refine FnC.of_body tabOk Tryz.func173 Tryz.ntmps173 rfl (by decide +kernel) (by simp) fun G=>?_
 refine go (r:=?_);and_intros<;>intros<;>try exact True.intro⟩
instance rh2_c:Con 174 (∀ x:Int,Fn 174 [I x] [] (I (ifE (x≤3) 3))):=⟨fun x=>by
 refine FnC.of_body tabOk Tryz.func174 Tryz.ntmps174 rfl (by decide +kernel) (by simp) fun G=>?_
 refine go (r:=?_);and_intros<;>intros<;>try exact True.intro⟩
instance rh4_c:Con 178 (∀ x:Int,Fn 178 [I x] [] (I (ifE (x=183) 2))):=⟨fun x=>by
 refine FnC.of_body tabOk Tryz.func178 Tryz.ntmps178 rfl (by decide +kernel) (by simp) fun G=>?_
 refine go (r:=?_);and_intros<;>intros<;>try exact True.intro⟩
instance rh5_c:Con 180 (∀ x:Int,Fn 180 [I x] [] (I (ifE (x≤51) 3))):=⟨fun x=>by
 refine FnC.of_body tabOk Tryz.func180 Tryz.ntmps180 rfl (by decide +kernel) (by simp) fun G=>?_
 refine go (r:=?_);and_intros<;>intros<;>try exact True.intro⟩
theorem and7 (a:Int) (h:0≤a∧a≤4611686018427387904):IntKind.i64.wrap ((BitVec.ofInt IntKind.i64.bits a &&& BitVec.ofInt IntKind.i64.bits 7).toNat:Nat)=a%8:=by
 obtain ⟨x,rfl⟩:∃x:Nat,a=x:=⟨a.toNat,by omega⟩
 have h1:(BitVec.ofInt IntKind.i64.bits (x:Int)).toNat=x:=by simp only [IntKind.bits,BitVec.toNat_ofInt];omega
 have h2:(BitVec.ofInt IntKind.i64.bits (7:Int)).toNat=2 ^ 3-1:=by decide
 rw [BitVec.toNat_and,h1,h2,Nat.and_two_pow_sub_one_eq_mod,wrap64 _ (by omega)]
 omega
def lensK (v:Int) (k:Nat):List Int:=(List.range k).map fun j=>lenAt v (5-j)
theorem lensK_6 (v:Int):lensK v 6=lensV v:=rfl
theorem lensK_succ (v:Int) (k:Nat):lensK v (k+1)=lensK v k++[lenAt v (5-k)]:=by simp [lensK,List.range_succ]
theorem lensK_len (v:Int) (k:Nat):(lensK v k).length=k:=by simp [lensK]
instance rh3_c:Con 176 (∀ x:Int,0≤x∧x≤4294967296→Fn 176 [I x] [XI (lensV x)] (.own 0 0 0 6)):=⟨fun x hx=>by
 refine FnC.of_body tabOk Tryz.func176 Tryz.ntmps176 rfl (by decide +kernel) (by simp) fun G=>?_
 refine go (r:=?_);and_intros<;>intros<;>try exact True.intro
 refine WpA.loop (fun k:Nat=>⟨[(0,I x),(3,.own 0 0 0 k),(4,I (5-(k:Int)))],[XI (lensK x k)]⟩) (fun k=>k≤6) (fun k=>6-k) 0 (by omega) (go (r:=?_)) (fun k hk=>?_)
 ·simp [lensK]
 have hkl:=lensK_len x k
 have hks:=lensK_succ x k
 have hd0:=Int.ediv_nonneg (a:=x) (b:=2 ^ (3*(5-(k:Int))).toNat) hx.1 (Int.pow_nonneg (by decide))
 have hd1:=Int.ediv_le_self (a:=x) (2 ^ (3*(5-(k:Int))).toNat) hx.1
 have hla:lenAt x (5-k)=x/2 ^ (3*(5-k))%8:=rfl
 refine go (r:=?_);and_intros<;>intros<;>try exact True.intro
 ·rw [hks,and7 _ ⟨hd0,by omega⟩,hla,show (3*(5-(k:Int))).toNat=3*(5-k) by omega]
 ·rw [show k=6 by omega,lensK_6]⟩
instance rh6_c:Con 181 (∀ x:Int,0≤x∧x≤4294967296→Fn 181 [I x,.iptr [.fn 176 []] 0] [] (I (ifE (CodeOk (lensV x)) 4))):=⟨fun x hx=>by
 have hll:(lensV x).length=6:=rfl
 refine FnC.of_body tabOk Tryz.func181 Tryz.ntmps181 rfl (by decide +kernel) (by simp) fun G=>?_
 refine go (r:=?_);and_intros<;>intros<;>try exact True.intro⟩
end Go.Proofs.YtndflfipaddfoaaGreat


namespace Go.Proofs.YtndflfipaddfoaaGreat
open Go Go.Abs
attribute [local irreducible] WpA WpL Rnd Blk Abs.Seq Abs.Fin Abs.FinG FnC FnG Only
theorem fuV_bd (p:List UInt8) (s c:Int) (k:Int→Int):-1≤fuV p s c k∧fuV p s c k≤4294967296:=by
 have:=ueV_bd p s
 unfold fuV;split<;>omega
theorem fbV_bd (p:List UInt8) (s c n:Int) (k:Int→Int):0≤fbV p s c n k∧fbV p s c n k≤4294967296:=by
 have:=rbV_bd p s n
 unfold fbV;split<;>omega
abbrev HdV (x:HdS):AV:=.agg [I x.W,I x.H,I x.Q,B x.B,B x.D,.own 0 0 0 x.L.length]
instance ReadHeader_c:Con 89 (∀ (p:List UInt8) (s:Int),p.length≤1099511627776→Fn 89 [RA p s] [XI (hdS p s).L] (.tup [RA p (hdS p s).a,HdV (hdS p s),I (hdS p s).c])):=⟨fun p s hl=>by
 refine FnC.of_body tabOk Tryz.func89 Tryz.ntmps89 rfl (by decide +kernel) (by simp) fun G=>?_
 refine go (r:=?_);and_intros<;>intros<;>try exact True.intro
 refine K.call ?_
 refine WpL.callM (hs:=[3]) (fbits_c p s 0 8 178 [] hk1 hl ⟨rfl,rfl,fun x _=>rh4_c.ok x⟩) handA handOA rfl rfl (.cons rfl (.sc (.sc (.sc .nil))) .nil) outA rfl rfl rfl rfl (by decide) ?_
 have b1:=fbV_bd p s 0 8 hk1
 generalize hv1:fbV p s 0 8 hk1=v1 at b1 ⊢
 generalize ha1:fbA p s 0 8 hk1=a1
 generalize hc1:fbC p s 0 8 hk1=c1
 refine go (r:=?_);and_intros<;>intros<;>try exact True.intro
 refine K.call ?_
 refine WpL.callM (hs:=[3]) (fue_c p a1 c1 174 [] hk2 hl ⟨rfl,rfl,fun x _=>rh2_c.ok x⟩) handA handOA rfl rfl (.cons rfl (.sc (.sc (.sc .nil))) .nil) outA rfl rfl rfl rfl (by decide) ?_
 have b2:=fuV_bd p a1 c1 hk2
 generalize hv2:fuV p a1 c1 hk2=v2 at b2 ⊢
 generalize ha2:fuA p a1 c1 hk2=a2
 generalize hc2:fuC p a1 c1 hk2=c2
 refine go (r:=?_);and_intros<;>intros<;>try exact True.intro
 refine K.call ?_
 refine WpL.callM (hs:=[3]) (fue_c p a2 c2 174 [] hk2 hl ⟨rfl,rfl,fun x _=>rh2_c.ok x⟩) handA handOA rfl rfl (.cons rfl (.sc (.sc (.sc .nil))) .nil) outA rfl rfl rfl rfl (by decide) ?_
 have b3:=fuV_bd p a2 c2 hk2
 generalize hv3:fuV p a2 c2 hk2=v3 at b3 ⊢
 generalize ha3:fuA p a2 c2 hk2=a3
 generalize hc3:fuC p a2 c2 hk2=c3
 refine go (r:=?_);and_intros<;>intros<;>try exact True.intro
 refine K.call ?_
 refine WpL.callM (hs:=[3]) (fbits_c p a3 c3 6 180 [] hk3 hl ⟨rfl,rfl,fun x _=>rh5_c.ok x⟩) handA handOA rfl rfl (.cons rfl (.sc (.sc (.sc .nil))) .nil) outA rfl rfl rfl rfl (by decide) ?_
 have b4:=fbV_bd p a3 c3 6 hk3
 generalize hv4:fbV p a3 c3 6 hk3=v4 at b4 ⊢
 generalize ha4:fbA p a3 c3 6 hk3=a4
 generalize hc4:fbC p a3 c3 6 hk3=c4
 refine go (r:=?_);and_intros<;>intros<;>try exact True.intro
 refine K.call ?_
 refine WpL.callM (hs:=[3]) (fbits_c p a4 c4 2 173 [] hk4 hl ⟨rfl,rfl,fun x _=>rh1_c.ok x⟩) handA handOA rfl rfl (.cons rfl (.sc (.sc (.sc .nil))) .nil) outA rfl rfl rfl rfl (by decide) ?_
 have b5:=fbV_bd p a4 c4 2 hk4
 generalize hv5:fbV p a4 c4 2 hk4=v5 at b5 ⊢
 generalize ha5:fbA p a4 c4 2 hk4=a5
 generalize hc5:fbC p a4 c4 2 hk4=c5
 refine go (r:=?_);and_intros<;>intros<;>try exact True.intro
 refine K.call ?_
 refine WpL.callM (hs:=[3]) (fbits_c p a5 c5 18 181 [.iptr [.fn 176 []] 0] hk5 hl ⟨rfl,rfl,fun x h=>rh6_c.ok x h⟩) handA handOA rfl rfl (.cons rfl (.sc (.sc (.sc .nil))) .nil) outA rfl rfl rfl rfl (by decide) ?_
 have b6:=fbV_bd p a5 c5 18 hk5
 generalize hv6:fbV p a5 c5 18 hk5=v6 at b6 ⊢
 generalize ha6:fbA p a5 c5 18 hk5=a6
 generalize hc6:fbC p a5 c5 18 hk5=c6
 have hS:hdS p s=⟨a6,c6,v2,v3,v4,v5,v6⟩:=by simp only [hdS,ha1,hc1,ha2,hc2,ha3,hc3,ha4,hc4,ha5,hc5,ha6,hc6,hv2,hv3,hv4,hv5,hv6]
 rw [hS]
 clear hS ha1 hc1 ha2 hc2 ha3 hc3 ha4 hc4 ha5 hc5 ha6 hc6 hv1 hv2 hv3 hv4 hv5 hv6
 have hll:(lensV v6).length=6:=rfl
 by_cases h0:c6=0
 ·have eW:HdS.W ⟨a6,c6,v2,v3,v4,v5,v6⟩=8*(v2+1):=if_pos h0
  have eH:HdS.H ⟨a6,c6,v2,v3,v4,v5,v6⟩=8*(v3+1):=if_pos h0
  have eQ:HdS.Q ⟨a6,c6,v2,v3,v4,v5,v6⟩=v4:=if_pos h0
  have eL:HdS.L ⟨a6,c6,v2,v3,v4,v5,v6⟩=lensV v6:=if_pos h0
  have eB:HdS.B ⟨a6,c6,v2,v3,v4,v5,v6⟩=decide (v5≥2):=by unfold HdS.B;simp [h0]
  have eD:HdS.D ⟨a6,c6,v2,v3,v4,v5,v6⟩=decide (v5%2=1):=by unfold HdS.D;simp [h0]
  have eV:∀y:HdS,HdV y=.agg [I y.W,I y.H,I y.Q,B y.B,B y.D,.own 0 0 0 y.L.length]:=fun _=>rfl
  rw [eV,eL,eW,eH,eQ,eB,eD]
  refine go (r:=?_);and_intros<;>intros<;>try exact True.intro
 ·have eW:HdS.W ⟨a6,c6,v2,v3,v4,v5,v6⟩=0:=if_neg h0
  have eH:HdS.H ⟨a6,c6,v2,v3,v4,v5,v6⟩=0:=if_neg h0
  have eQ:HdS.Q ⟨a6,c6,v2,v3,v4,v5,v6⟩=0:=if_neg h0
  have eL:HdS.L ⟨a6,c6,v2,v3,v4,v5,v6⟩=[]:=if_neg h0
  have eB:HdS.B ⟨a6,c6,v2,v3,v4,v5,v6⟩=false:=by unfold HdS.B;simp [h0]
  have eD:HdS.D ⟨a6,c6,v2,v3,v4,v5,v6⟩=false:=by unfold HdS.D;simp [h0]
  have eV:∀y:HdS,HdV y=.agg [I y.W,I y.H,I y.Q,B y.B,B y.D,.own 0 0 0 y.L.length]:=fun _=>rfl
  rw [eV,eL,eW,eH,eQ,eB,eD]
  refine go (r:=?_);and_intros<;>intros<;>try exact True.intro⟩
end Go.Proofs.YtndflfipaddfoaaGreat
