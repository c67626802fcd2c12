/- Proved in this text: lemmas and contracts of functions that the claim uses (parts: Work, BldI, BldR, RdL, RdM, Cat, Ue, Rd, RdS). No condition. -/
import Derived.Test.YtndflfipaddfoaaGreatBtM11
import Derived.Test.YtndflfipaddfoaaGreatBtM13
import Derived.Test.YtndflfipaddfoaaGreatBtM10
import Derived.Test.YtndflfipaddfoaaGreatBtM6
import Derived.Test.YtndflfipaddfoaaGreatBtM7
set_option linter.unusedVariables false
set_option linter.unusedSimpArgs false
set_option maxRecDepth 100000
set_option maxHeartbeats 16000000


namespace Go.Proofs.YtndflfipaddfoaaGreat
open Go Go.Abs
attribute [local irreducible] WpA WpL Rnd Blk Abs.Seq Abs.Fin Abs.FinG FnC FnG Only
theorem any_at {α:Type} [Inhabited α] {p:α→Bool} {l:List α} {i:Nat} (hi:i<l.length) (h:p (l.getD i default)=true):l.any p=true:=
 List.any_eq_true.2 ⟨l.getD i default,by simp [hi],h⟩
theorem any_none {α:Type} [Inhabited α] {p:α→Bool} {l:List α} (h:∀j<l.length,p (l.getD j default)=false):l.any p=false:=by
 rw [List.any_eq_false]
 intro x hx
 obtain ⟨j,hj,rfl⟩:=List.getElem_of_mem hx
 have:=h j hj
 have e:l.getD j default=l[j]:=by simp [hj]
 rw [e] at this;simp [this]
theorem any_get {α:Type} [Inhabited α] {p:α→Bool} {l:List α} (h:l.any p=false) {i:Nat} (hi:i<l.length):p (l.getD i default)=false:=by
 cases hp:p (l.getD i default) with
 |false=>rfl
 |true=>rw [any_at hi hp] at h;cases h
instance ContainsFuncB_c:Con 192 (∀ (l:List Blok) (lens:List Int) (n:Int),l.length≤1099511627776∧SmB 1099511627776 l∧lens.length≤1099511627776→Fn 192 [BkL l,fB lens n] [] (B (l.any (badB lens n)))):=⟨fun l lens n hl=>by
 have hge:=ixF_ge (badB lens n) l
 refine FnC.of_body tabOk Tryz.func192 Tryz.ntmps192 rfl (by decide +kernel) (by simp) fun G=>?_
 refine go (r:=?_);and_intros<;>intros<;>try exact True.intro
 all_goals first|exact hl.2.1|(rw [Bool.eq_iff_iff,←hge];simp)⟩
def sz8 (e:Bool):Int:=bif e then 8 else 4
def nm8 (e:Bool):Int:=bif e then 1 else 4
theorem sz8_cases (e:Bool):(sz8 e=4∧nm8 e=4)∨(sz8 e=8∧nm8 e=1):=by cases e<;>simp [sz8,nm8]
instance l23Side_s:Con 66 (∀ e:Bool,Fn 66 [B e] [] (I (sz8 e))):=⟨fun e=>by
 cases e
 ·refine FnC.of_body tabOk Tryz.func66 Tryz.ntmps66 rfl (by decide +kernel) (by simp) fun G=>?_
  refine go (r:=?_);and_intros<;>intros<;>try exact True.intro
  all_goals rfl
 ·refine FnC.of_body tabOk Tryz.func66 Tryz.ntmps66 rfl (by decide +kernel) (by simp) fun G=>?_
  refine go (r:=?_);and_intros<;>intros<;>try exact True.intro
  all_goals rfl⟩
instance shape_c:Con 113 (∀ e:Bool,Fn 113 [B e] [] (.tup [I (nm8 e),I (sz8 e)])):=⟨fun e=>by
 cases e
 ·refine FnC.of_body tabOk Tryz.func113 Tryz.ntmps113 rfl (by decide +kernel) (by simp) fun G=>?_
  refine go (r:=?_);and_intros<;>intros<;>try exact True.intro
  all_goals rfl
 ·refine FnC.of_body tabOk Tryz.func113 Tryz.ntmps113 rfl (by decide +kernel) (by simp) fun G=>?_
  refine go (r:=?_);and_intros<;>intros<;>try exact True.intro
  all_goals rfl⟩
abbrev MbkOk (e:Bool) (bs:List Blok) (lens:List Int):Prop:=(bs.length:Int)=nm8 e∧bs.any (badB lens (sz8 e))=false
instance MbOk_s:Con 79 (∀ (e:Bool) (bs:List Blok) (lens:List Int),bs.length≤1099511627776∧SmB 1099511627776 bs∧lens.length≤1099511627776→Fn 79 [.agg [B e,BkL bs],IL lens] [] (B (decide (MbkOk e bs lens)))):=⟨fun e bs lens hl=>by
 have hc:=sz8_cases e
 refine FnC.of_body tabOk Tryz.func79 Tryz.ntmps79 rfl (by decide +kernel) (by simp) fun G=>?_
 refine go (r:=?_);and_intros<;>intros<;>try exact True.intro
 refine WpA.loop (fun k:Nat=>⟨[(1,IL lens),(2,.ptr 0 0 0),(5,I (sz8 e)),(6,I k)],[⟨[B e,BkL bs],0,0,none⟩]⟩) (fun k=>k≤bs.length∧∀j<k,badB lens (sz8 e) (bs.getD j default)=false) (fun k=>bs.length-k) 0 (by simp) (go (r:=?_)) (fun k hk=>?_)
 ·trivial
 have hg:=fun h=>smB_get hl.2.1 (k:=k) h
 have hnn:sz8 e*sz8 e=16∨sz8 e*sz8 e=64:=by rcases hc with ⟨h,_⟩|⟨h,_⟩<;>rw [h]<;>decide
 have hq:64/(sz8 e*sz8 e)=nm8 e:=by rcases hc with ⟨h,h2⟩|⟨h,h2⟩<;>rw [h,h2]<;>decide
 refine go (r:=?_);and_intros<;>intros<;>try exact True.intro
 ·have:bs.any (badB lens (sz8 e))=true:=any_at (i:=k) (by omega) (by unfold badB;exact decide_eq_true ‹_›)
  simp [this]
 ·rename_i j hj;by_cases h:j=k
  ·subst h;unfold badB;exact decide_eq_false (fun hh=>hh ‹BlkOk _ _ _ _›)
  ·exact hk.2 j (by omega)
 all_goals have e2:k=bs.length:=by omega
 all_goals subst e2
 have:=any_none (p:=badB lens (sz8 e)) hk.2
 rw [hq];simp [this]⟩
instance MbOk_c:Con 103 (∀ (e:Bool) (bs:List Blok) (lens:List Int),bs.length≤1099511627776∧SmB 1099511627776 bs∧lens.length≤1099511627776→Fn 103 [.agg [B e,BkL bs],IL lens] [] (B (decide (MbkOk e bs lens)))):=⟨fun e bs lens hl=>by
 have hc:=sz8_cases e
 refine FnC.of_body tabOk Tryz.func103 Tryz.ntmps103 rfl (by decide +kernel) (by simp) fun G=>?_
 refine go (r:=?_);and_intros<;>intros<;>try exact True.intro
 all_goals simp_all⟩
def badM (lens:List Int) (m:Mbk):Bool:=decide (¬ MbkOk m.1 m.2 lens)
abbrev StC (w h q:Int) (b d:Bool) (l:List Int) (M:List Mbk):List AV:=[I w,I h,I q,B b,B d,IL l,MbL M]
abbrev fM (w h q:Int) (b d:Bool) (l:List Int) (M:List Mbk):AV:=.fn 102 [.iptr (StC w h q b d l M) 0]
instance StreamOk1_c:Con 102 (∀ (e:Bool) (bs:List Blok) (w h q:Int) (b d:Bool) (l:List Int) (M:List Mbk),bs.length≤1099511627776∧SmB 1099511627776 bs∧l.length≤1099511627776→Fn 102 [.agg [B e,BkL bs],.iptr (StC w h q b d l M) 0] [] (B (badM l (e,bs)))):=⟨fun e bs w h q b d l M hl=>by
 unfold badM
 refine FnC.of_body tabOk Tryz.func102 Tryz.ntmps102 rfl (by decide +kernel) (by simp) fun G=>?_
 refine go (r:=?_);and_intros<;>intros<;>try exact True.intro
 all_goals simp_all⟩
instance IndexFuncM_c:Con 191 (∀ (w h q:Int) (b d:Bool) (l:List Int) (M N:List Mbk),N.length≤1099511627776∧SmM 1099511627776 N∧l.length≤1099511627776→Fn 191 [MbL N,fM w h q b d l M] [] (I (ixF (badM l) N))):=⟨fun w h q b d l M N hl=>by
 refine FnC.of_body tabOk Tryz.func191 Tryz.ntmps191 rfl (by decide +kernel) (by simp) fun G=>?_
 refine go (r:=?_);and_intros<;>intros<;>try exact True.intro
 refine WpA.loop (fun k:Nat=>⟨[(0,MbL N),(1,fM w h q b d l M),(7,I N.length),(8,I k)],[]⟩) (fun k=>k≤N.length∧∀j<k,badM l (N.getD j default)=false) (fun k=>N.length-k) 0 (by simp) (go (r:=?_)) (fun k hk=>?_)
 ·trivial
 have hg:=fun h=>(smM_get hl.2.1 (k:=k) h).1
 have hg2:=fun h=>(smM_get hl.2.1 (k:=k) h).2
 refine go (r:=?_);and_intros<;>intros<;>try exact True.intro
 all_goals first|exact hg2 (by omega)|skip
 ·exact ixF_at (by omega) hk.2 (by unfold badM;exact decide_eq_true ‹_›)
 ·rename_i j hj;by_cases h:j=k
  ·subst h;unfold badM;exact decide_eq_false ‹_›
  ·exact hk.2 j (by omega)
 all_goals (have e:k=N.length:=by omega);subst e;exact ixF_no hk.2⟩
instance ContainsFuncM_c:Con 101 (∀ (w h q:Int) (b d:Bool) (l:List Int) (M N:List Mbk),N.length≤1099511627776∧SmM 1099511627776 N∧l.length≤1099511627776→Fn 101 [MbL N,fM w h q b d l M] [] (B (N.any (badM l)))):=⟨fun w h q b d l M N hl=>by
 have hge:=ixF_ge (badM l) N
 refine FnC.of_body tabOk Tryz.func101 Tryz.ntmps101 rfl (by decide +kernel) (by simp) fun G=>?_
 refine go (r:=?_);and_intros<;>intros<;>try exact True.intro
 all_goals first|exact hl.2.1|(rw [Bool.eq_iff_iff,←hge];simp)⟩
abbrev StOk (w h q:Int) (l:List Int) (M:List Mbk):Prop:=HdOk w h q l∧(M.length:Int)=cntM w h∧M.any (badM l)=false
instance StreamOk_s:Con 27 (∀ (w h q:Int) (b d:Bool) (l:List Int) (M:List Mbk),l.length≤1099511627776∧M.length≤1099511627776∧SmM 1099511627776 M→Fn 27 [StA w h q b d l M] [] (B (decide (StOk w h q l M)))):=⟨fun w h q b d l M hl=>by
 refine FnC.of_body tabOk Tryz.func27 Tryz.ntmps27 rfl (by decide +kernel) (by simp) fun G=>?_
 by_cases h0:HdOk w h q l
 ·have hcb:=cntM_bd h0.1
  refine go (r:=?_);and_intros<;>intros<;>try exact True.intro
  all_goals first|(exact absurd h0 (by assumption))|skip
  refine WpA.loop (fun k:Nat=>⟨[(1,.ptr 0 0 0),(3,I k)],[⟨StC w h q b d l M,0,0,none⟩]⟩) (fun k=>k≤M.length∧∀j<k,badM l (M.getD j default)=false) (fun k=>M.length-k) 0 (by simp) (go (r:=?_)) (fun k hk=>?_)
  ·trivial
  have hg:=fun h=>(smM_get hl.2.2 (k:=k) h).1
  have hg2:=fun h=>(smM_get hl.2.2 (k:=k) h).2
  refine go (r:=?_);and_intros<;>intros<;>try exact True.intro
  ·exact hg2 (by omega)
  ·have:M.any (badM l)=true:=any_at (i:=k) (by omega) (by unfold badM;exact decide_eq_true ‹_›)
   simp [this]
  ·rename_i j hj;by_cases h:j=k
   ·subst h;unfold badM;exact decide_eq_false (fun hh=>hh ‹MbkOk _ _ _›)
   ·exact hk.2 j (by omega)
  all_goals have e2:k=M.length:=by omega
  all_goals subst e2
  have:=any_none (p:=badM l) hk.2
  simp [this,h0]
 ·refine go (r:=?_);and_intros<;>intros<;>try exact True.intro
  all_goals simp [StOk,h0]⟩
theorem Weak.eqv {m d:Nat} {V V':AV} {T:List (Nat×AV)} {O:List AObj} (h:V=V'):Weak m ⟨(d,V)::T,O⟩ ⟨(d,V')::T,O⟩:=by subst h;exact fun n G a w h=>h
instance StreamOk_c:Con 46 (∀ (w h q:Int) (b d:Bool) (l:List Int) (M:List Mbk),l.length≤1099511627776∧M.length≤1099511627776∧SmM 1099511627776 M→Fn 46 [StA w h q b d l M] [] (B (decide (StOk w h q l M)))):=⟨fun w h q b d l M hl=>by
 refine FnC.of_body tabOk Tryz.func46 Tryz.ntmps46 rfl (by decide +kernel) (by simp) fun G=>?_
 refine K.A ?_
 refine WpA.seq ?_
 refine WpA.regionF rfl ?_
 refine WpL.box rfl rfl rfl (by decide) ?_
 refine WpL.assign rfl (by decide) ?_
 refine WpL.nil ?_
 refine Abs.Seq.n ?_
 refine WpA.seq ?_
 by_cases h0:HdOk w h q l
 ·have e0:decide (HdOk w h q l)=true:=decide_eq_true h0
  by_cases h1:(M.length:Int)=cntM w h
  ·have e1:decide ((M.length:Int)=cntM w h)=true:=decide_eq_true h1
   apply WpA.regionM 16 mixed (by decide +kernel)
   ·apply HeadJ.consF rfl
    ·exact rfl
    ·exact in1
    ·exact rfl
    apply HeadJ.consF rfl
    ·exact rfl
    ·exact in1
    ·exact rfl
    apply HeadJ.consF rfl
    ·exact rfl
    ·(refine fun Tv=>?_;refine K.call ?_;refine K.con (fun hcon=>?_);refine WpL.call0 (hcon _ _ _ _ _ _ ?_) snapA locA rfl rfl (by decide) ?_;(· exact hl.1);refine WpL.weak (Weak.eqv (V':=B true) (by rw [e0])) ?_;exact WpL.nil (Only.mk rfl))
    ·exact rfl
    apply HeadJ.consF rfl
    ·exact rfl
    ·exact in1
    ·exact rfl
    apply HeadJ.consF rfl
    ·exact rfl
    ·(refine fun Tv=>?_;refine K.gT rfl (by decide) rfl ?_;exact in1)
    ·exact rfl
    apply HeadJ.consF rfl
    ·exact rfl
    ·(refine fun Tv=>?_;refine K.gT rfl (by decide) rfl ?_;exact in1)
    ·exact rfl
    apply HeadJ.consF rfl
    ·exact rfl
    ·(refine fun Tv=>?_;refine K.gT rfl (by decide) rfl ?_;exact in1)
    ·exact rfl
    apply HeadJ.consF rfl
    ·exact rfl
    ·(refine fun Tv=>?_;refine K.gT rfl (by decide) rfl ?_;exact in1)
    ·exact rfl
    apply HeadJ.consF rfl
    ·exact rfl
    ·(refine fun Tv=>?_;refine K.gT rfl (by decide) rfl ?_;exact in1)
    ·exact rfl
    apply HeadJ.consF rfl
    ·exact rfl
    ·(refine fun Tv=>?_;refine K.gT rfl (by decide) rfl ?_;refine K.call ?_;refine K.con (fun hcon=>?_);refine WpL.call0 (hcon _ _ _ _ _ _ h0.1) snapA locA rfl rfl (by decide) ?_;exact WpL.nil (Only.mk rfl))
    ·exact rfl
    apply HeadJ.consF rfl
    ·exact rfl
    ·(refine fun Tv=>?_;refine K.gT rfl (by decide) rfl ?_;refine WpL.bin rfl rfl rfl (by decide) ?_;refine WpL.weak (Weak.eqv (V':=B true) (by simp only [e1])) ?_;exact WpL.nil (Only.mk rfl))
    ·exact rfl
    apply HeadJ.consF rfl
    ·exact rfl
    ·exact in1
    ·exact rfl
    apply HeadJ.consF rfl
    ·exact rfl
    ·exact in1
    ·exact rfl
    apply HeadJ.consF rfl
    ·exact rfl
    ·(refine fun Tv=>?_;refine K.gT rfl (by decide) rfl ?_;exact in1)
    ·exact rfl
    apply HeadJ.consF rfl
    ·exact rfl
    ·(refine fun Tv=>?_;refine K.gT rfl (by decide) rfl ?_;exact in1)
    ·exact rfl
    apply HeadJ.consF rfl
    ·exact rfl
    ·(refine fun Tv=>?_;refine K.gT rfl (by decide) rfl ?_;refine WpL.makeFunc (cs:=[.ptr 0 0 0]) rfl (by decide) ?_;exact WpL.nil (Only.mk rfl))
    ·exact rfl
    exact HeadJ.nil
   ·kernel_rfl
   ·kernel_rfl
   ·exact rfl
   refine go (r:=?_);and_intros<;>intros<;>try exact True.intro
   all_goals first|exact hl.2.2|(simp [StOk,h0,h1];done)
  ·have e1:decide ((M.length:Int)=cntM w h)=false:=decide_eq_false h1
   apply WpA.regionM 16 mixed (by decide +kernel)
   ·apply HeadJ.consF rfl
    ·exact rfl
    ·exact in1
    ·exact rfl
    apply HeadJ.consF rfl
    ·exact rfl
    ·exact in1
    ·exact rfl
    apply HeadJ.consF rfl
    ·exact rfl
    ·(refine fun Tv=>?_;refine K.call ?_;refine K.con (fun hcon=>?_);refine WpL.call0 (hcon _ _ _ _ _ _ ?_) snapA locA rfl rfl (by decide) ?_;(· exact hl.1);refine WpL.weak (Weak.eqv (V':=B true) (by rw [e0])) ?_;exact WpL.nil (Only.mk rfl))
    ·exact rfl
    apply HeadJ.consF rfl
    ·exact rfl
    ·exact in1
    ·exact rfl
    apply HeadJ.consF rfl
    ·exact rfl
    ·(refine fun Tv=>?_;refine K.gT rfl (by decide) rfl ?_;exact in1)
    ·exact rfl
    apply HeadJ.consF rfl
    ·exact rfl
    ·(refine fun Tv=>?_;refine K.gT rfl (by decide) rfl ?_;exact in1)
    ·exact rfl
    apply HeadJ.consF rfl
    ·exact rfl
    ·(refine fun Tv=>?_;refine K.gT rfl (by decide) rfl ?_;exact in1)
    ·exact rfl
    apply HeadJ.consF rfl
    ·exact rfl
    ·(refine fun Tv=>?_;refine K.gT rfl (by decide) rfl ?_;exact in1)
    ·exact rfl
    apply HeadJ.consF rfl
    ·exact rfl
    ·(refine fun Tv=>?_;refine K.gT rfl (by decide) rfl ?_;exact in1)
    ·exact rfl
    apply HeadJ.consF rfl
    ·exact rfl
    ·(refine fun Tv=>?_;refine K.gT rfl (by decide) rfl ?_;refine K.call ?_;refine K.con (fun hcon=>?_);refine WpL.call0 (hcon _ _ _ _ _ _ h0.1) snapA locA rfl rfl (by decide) ?_;exact WpL.nil (Only.mk rfl))
    ·exact rfl
    apply HeadJ.consF rfl
    ·exact rfl
    ·(refine fun Tv=>?_;refine K.gT rfl (by decide) rfl ?_;refine WpL.bin rfl rfl rfl (by decide) ?_;refine WpL.weak (Weak.eqv (V':=B false) (by simp only [e1])) ?_;exact WpL.nil (Only.mk rfl))
    ·exact rfl
    apply HeadJ.consF rfl
    ·exact rfl
    ·exact in1
    ·exact rfl
    apply HeadJ.consF rfl
    ·exact rfl
    ·exact in1
    ·exact rfl
    apply HeadJ.consF rfl
    ·exact rfl
    ·(refine fun Tv=>?_;refine K.gF rfl (by decide) rfl ?_;exact WpL.nil (Only.mk rfl))
    ·exact rfl
    apply HeadJ.consF rfl
    ·exact rfl
    ·(refine fun Tv=>?_;refine K.gF rfl (by decide) rfl ?_;exact WpL.nil (Only.mk rfl))
    ·exact rfl
    apply HeadJ.consF rfl
    ·exact rfl
    ·(refine fun Tv=>?_;refine K.gF rfl (by decide) rfl ?_;exact WpL.nil (Only.mk rfl))
    ·exact rfl
    exact HeadJ.nil
   ·kernel_rfl
   ·kernel_rfl
   ·exact rfl
   refine go (r:=?_);and_intros<;>intros<;>try exact True.intro
   all_goals simp [StOk,h1]
 ·have e0:decide (HdOk w h q l)=false:=decide_eq_false h0
  apply WpA.regionM 16 mixed (by decide +kernel)
  ·apply HeadJ.consF rfl
   ·exact rfl
   ·exact in1
   ·exact rfl
   apply HeadJ.consF rfl
   ·exact rfl
   ·exact in1
   ·exact rfl
   apply HeadJ.consF rfl
   ·exact rfl
   ·(refine fun Tv=>?_;refine K.call ?_;refine K.con (fun hcon=>?_);refine WpL.call0 (hcon _ _ _ _ _ _ ?_) snapA locA rfl rfl (by decide) ?_;(· exact hl.1);refine WpL.weak (Weak.eqv (V':=B false) (by rw [e0])) ?_;exact WpL.nil (Only.mk rfl))
   ·exact rfl
   apply HeadJ.consF rfl
   ·exact rfl
   ·exact in1
   ·exact rfl
   apply HeadJ.consF rfl
   ·exact rfl
   ·(refine fun Tv=>?_;refine K.gF rfl (by decide) rfl ?_;exact WpL.nil (Only.mk rfl))
   ·exact rfl
   apply HeadJ.consF rfl
   ·exact rfl
   ·(refine fun Tv=>?_;refine K.gF rfl (by decide) rfl ?_;exact WpL.nil (Only.mk rfl))
   ·exact rfl
   apply HeadJ.consF rfl
   ·exact rfl
   ·(refine fun Tv=>?_;refine K.gF rfl (by decide) rfl ?_;exact WpL.nil (Only.mk rfl))
   ·exact rfl
   apply HeadJ.consF rfl
   ·exact rfl
   ·(refine fun Tv=>?_;refine K.gF rfl (by decide) rfl ?_;exact WpL.nil (Only.mk rfl))
   ·exact rfl
   apply HeadJ.consF rfl
   ·exact rfl
   ·(refine fun Tv=>?_;refine K.gF rfl (by decide) rfl ?_;exact WpL.nil (Only.mk rfl))
   ·exact rfl
   apply HeadJ.consF rfl
   ·exact rfl
   ·(refine fun Tv=>?_;refine K.gF rfl (by decide) rfl ?_;exact WpL.nil (Only.mk rfl))
   ·exact rfl
   apply HeadJ.consF rfl
   ·exact rfl
   ·(refine fun Tv=>?_;refine K.gF rfl (by decide) rfl ?_;exact WpL.nil (Only.mk rfl))
   ·exact rfl
   apply HeadJ.consF rfl
   ·exact rfl
   ·exact in1
   ·exact rfl
   apply HeadJ.consF rfl
   ·exact rfl
   ·exact in1
   ·exact rfl
   apply HeadJ.consF rfl
   ·exact rfl
   ·(refine fun Tv=>?_;refine K.gF rfl (by decide) rfl ?_;exact WpL.nil (Only.mk rfl))
   ·exact rfl
   apply HeadJ.consF rfl
   ·exact rfl
   ·(refine fun Tv=>?_;refine K.gF rfl (by decide) rfl ?_;exact WpL.nil (Only.mk rfl))
   ·exact rfl
   apply HeadJ.consF rfl
   ·exact rfl
   ·(refine fun Tv=>?_;refine K.gF rfl (by decide) rfl ?_;exact WpL.nil (Only.mk rfl))
   ·exact rfl
   exact HeadJ.nil
  ·kernel_rfl
  ·kernel_rfl
  ·exact rfl
  refine go (r:=?_);and_intros<;>intros<;>try exact True.intro
  all_goals simp [StOk,h0]⟩
def pk (l:List Int):Nat→List (Int×Int)×Int
 |0=>([],0)
 |k+1=>if l.getD k 0=0 then ((pk l k).1,(pk l k).2+1) else ((pk l k).1++[((pk l k).2,l.getD k 0)],0)
def prsL (l:List Int):List (Int×Int):=if LvOk l then (pk l l.length).1 else []
theorem pk_bd (l:List Int):∀k,(pk l k).1.length≤k∧0≤(pk l k).2∧(pk l k).2≤k
 |0=>by simp [pk]
 |k+1=>by have:=pk_bd l k;rw [pk];split<;>simp<;>omega
abbrev XP (l:List (Int×Int)):AObj:=⟨rows prF l,0,2,some 197⟩
theorem ok_blk {w h q:Int} {l:List Int} {M:List Mbk} (hs:StOk w h q l M) {i:Nat} (hi:i<M.length):MbkOk (M.getD i default).1 (M.getD i default).2 l:=by
 have:=any_get hs.2.2 hi
 unfold badM at this
 exact Decidable.not_not.1 (of_decide_eq_false this)
theorem ok_lv {e:Bool} {bs:List Blok} {l:List Int} (hs:MbkOk e bs l) {k:Nat} (hk:k<bs.length):BlkOk (bs.getD k default).1 (bs.getD k default).2 l (sz8 e):=by
 have:=any_get hs.2 hk
 unfold badB at this
 exact Decidable.not_not.1 (of_decide_eq_false this)
end Go.Proofs.YtndflfipaddfoaaGreat


namespace Go.Proofs.YtndflfipaddfoaaGreat
open Go Go.Abs
attribute [local irreducible] WpA WpL Rnd Blk Abs.Seq Abs.Fin Abs.FinG FnC FnG Only
instance FrameNew_c:Con 74 (∀ W H:Int,SidesOk W H→Fn 74 [I W,I H] [XI (List.replicate (W*H).toNat 0)] (FrOwn 0 W H (W*H).toNat)):=⟨fun W H h=>by
 have h1:8*8≤W*H:=Int.mul_le_mul h.1 h.2.2.1 (by omega) (by have:=h.1;omega)
 have h2:W*H≤32*32:=Int.mul_le_mul h.2.1 h.2.2.2.1 (by have:=h.2.2.1;omega) (by omega)
 refine FnC.of_body tabOk Tryz.func74 Tryz.ntmps74 rfl (by decide +kernel) (by simp) fun G=>?_
 refine go (r:=?_);and_intros<;>intros<;>try exact True.intro
 all_goals first|contradiction⟩
def plc1 (w n:Int) (k i:Nat):Int×Int×Int:=((k:Int)%(w/8)*8+(i:Int)%2*4,(k:Int)/(w/8)*8+(i:Int)/2*4,n)
def plsL (w n:Int) (k:Nat) (many:Nat):List (Int×Int×Int):=(List.range many).map (plc1 w n k)
theorem plsL_len (w n:Int) (k many:Nat):(plsL w n k many).length=many:=by simp [plsL]
theorem plsL_snoc (w n:Int) (k many:Nat):plsL w n k (many+1)=plsL w n k many++[plc1 w n k many]:=by simp [plsL,List.range_succ]
abbrev manyE (e:Bool):Nat:=cond e 1 4
instance placesOf_c:Con 75 (∀ (w h q:Int) (b d:Bool) (lens:List Int) (k:Nat) (e:Bool),8≤w∧w≤1024∧k≤1048576→Fn 75 [HdA w h q b d lens,I k,B e] [⟨rows plF (plsL w (sz8 e) k (manyE e)),0,3,some 103⟩] (.own 0 0 0 (manyE e))):=⟨fun w h q b d lens k e hh=>by
 have hw8:1≤w/8∧w/8≤128:=by omega
 have hr0:0≤(k:Int)%(w/8)∧(k:Int)%(w/8)≤1048576:=⟨Int.emod_nonneg _ (by omega),by have:=Int.emod_lt_of_pos (k:Int) (show 0<w/8 by omega);omega⟩
 have hq0:0≤(k:Int)/(w/8)∧(k:Int)/(w/8)≤1048576:=⟨Int.ediv_nonneg (by omega) (by omega),by have:=Int.ediv_le_self (w/8) (show 0≤(k:Int) by omega);omega⟩
 refine FnC.of_body tabOk Tryz.func75 Tryz.ntmps75 rfl (by decide +kernel) (by simp) fun G=>?_
 refine go (r:=?_);and_intros<;>intros<;>try exact True.intro
 all_goals first|contradiction|omega|skip
 refine WpA.loop (fun i:Nat=>⟨[(1,I k),(3,.ptr 0 0 0),(8,I (sz8 e)),(9,.own 1 0 0 i),(17,I (nm8 e)),(18,I i)],[⟨[I w,I h,I q,B b,B d,IL lens],0,0,none⟩,⟨rows plF (plsL w (sz8 e) k i),0,3,some 103⟩]⟩) (fun i=>i≤manyE e) (fun i=>manyE e-i) 0 (Nat.zero_le _) (go (r:=?_)) (fun i hi=>?_)
 ·and_intros<;>first|exact True.intro|rfl
 have hlen:=plsL_len w (sz8 e) k i
 have hsn:=plsL_snoc w (sz8 e) k i
 have hmn:nm8 e=(manyE e:Nat):=by cases e<;>rfl
 have hm4:manyE e≤4:=by cases e<;>decide
 by_cases hlt:i<manyE e
 ·refine go (r:=?_);and_intros<;>intros<;>try exact True.intro
  all_goals first|contradiction|omega|(rw [hsn];cases e<;>rfl)
 ·obtain rfl:i=manyE e:=by omega
  refine go (r:=?_);and_intros<;>intros<;>try exact True.intro
  all_goals first|contradiction|omega⟩
end Go.Proofs.YtndflfipaddfoaaGreat


namespace Go.Proofs.YtndflfipaddfoaaGreat
open Go Go.Abs
attribute [local irreducible] WpA WpL Rnd Blk Abs.Seq Abs.Fin Abs.FinG FnC FnG Only
def endL (W H q:Int) (d:Bool) (p:List Int):List Int:=cond d (dbL W H q p) p
theorem endL_ok {W H q:Int} {d:Bool} {p:List Int} (h:FrameOk W H p):FrameOk W H (endL W H q d p):=by
 cases d
 ·exact h
 ·exact dbL_ok h
theorem ended1 (W H w h q:Int) (b:Bool) (lens p:List Int) (hl:p.length≤1099511627776):Fn 77 [HdA w h q b true lens,FrA W H p] [IN (dbL W H q p)] (FrOwn 0 W H p.length):=by
 have hdl:=dbL_len W H q p
 refine FnC.of_body tabOk Tryz.func77 Tryz.ntmps77 rfl (by decide +kernel) (by simp) fun G=>?_
 refine go (r:=?_);and_intros<;>intros<;>try exact True.intro
 all_goals first|contradiction|omega
theorem ended0 (W H w h q:Int) (b:Bool) (lens p:List Int):Fn 77 [HdA w h q b false lens,FrA W H p] [] (FrA W H p):=by
 refine FnC.of_body tabOk Tryz.func77 Tryz.ntmps77 rfl (by decide +kernel) (by simp) fun G=>?_
 refine go (r:=?_);and_intros<;>intros<;>try exact True.intro
 all_goals first|contradiction|omega
theorem ended_c (W H w h q:Int) (b d:Bool) (lens p:List Int) (hl:p.length≤1099511627776):Fn 77 [HdA w h q b d lens,FrA W H p] [] (FrA W H (endL W H q d p)):=by
 cases d with
 |false=>exact ended0 W H w h q b lens p
 |true=>exact FnC.still (ended1 W H w h q b lens p hl) (.agg (.keep rfl rfl (.keep rfl rfl (.own rfl rfl rfl (by simp [dbL_len]) (dbL_len W H q p).symm (Snap.same rfl (still_ints _) (nofre_ints _)) .nil))) .nil)
def bldB (W H q:Int) (b:Bool) (n:Int) (k:Nat) (bs:List Blok) (p:List Int):Nat→List Int
 |0=>p
 |i+1=>putL W H (bldB W H q b n k bs p i) q b (plc1 W n k i).1 (plc1 W n k i).2.1 (bs.getD i default).1 (bs.getD i default).2
def bldM (W H q:Int) (b:Bool) (M:List Mbk) (p:List Int):Nat→List Int
 |0=>p
 |k+1=>bldB W H q b (sz8 (M.getD k default).1) k (M.getD k default).2 (bldM W H q b M p k) (manyE (M.getD k default).1)
theorem bldB_len (W H q:Int) (b:Bool) (n:Int) (k:Nat) (bs:List Blok) (p:List Int):∀i,(bldB W H q b n k bs p i).length=p.length
 |0=>rfl
 |i+1=>by rw [bldB,putL_len,bldB_len W H q b n k bs p i]
theorem bldM_len (W H q:Int) (b:Bool) (M:List Mbk) (p:List Int):∀k,(bldM W H q b M p k).length=p.length
 |0=>rfl
 |k+1=>by rw [bldM,bldB_len,bldM_len W H q b M p k]
theorem bldB_ok {W H q:Int} {b:Bool} {n:Int} {k:Nat} {bs:List Blok} {p:List Int} (h:FrameOk W H p):∀i,FrameOk W H (bldB W H q b n k bs p i)
 |0=>h
 |i+1=>by rw [bldB];exact putL_ok (bldB_ok h i)
theorem bldM_ok {W H q:Int} {b:Bool} {M:List Mbk} {p:List Int} (h:FrameOk W H p):∀k,FrameOk W H (bldM W H q b M p k)
 |0=>h
 |k+1=>by rw [bldM];exact bldB_ok (bldM_ok h k) _
theorem bldB_zero (W H q:Int) (b:Bool) (n:Int) (k:Nat) (bs:List Blok) (p:List Int):bldB W H q b n k bs p 0=p:=rfl
theorem bldM_zero (W H q:Int) (b:Bool) (M:List Mbk) (p:List Int):bldM W H q b M p 0=p:=rfl
theorem bldB_succ (W H q:Int) (b:Bool) (n:Int) (k:Nat) (bs:List Blok) (p:List Int) (i:Nat):bldB W H q b n k bs p (i+1)=putL W H (bldB W H q b n k bs p i) q b (plc1 W n k i).1 (plc1 W n k i).2.1 (bs.getD i default).1 (bs.getD i default).2:=rfl
theorem bldM_succ (W H q:Int) (b:Bool) (M:List Mbk) (p:List Int) (k:Nat):bldM W H q b M p (k+1)=bldB W H q b (sz8 (M.getD k default).1) k (M.getD k default).2 (bldM W H q b M p k) (manyE (M.getD k default).1):=rfl
def zerP (W H:Int):List Int:=List.replicate (W*H).toNat 0
def refL (W H q:Int) (b d:Bool) (M:List Mbk):List Int:=endL W H q d (bldM W H q b M (zerP W H) M.length)
section
attribute [local irreducible] bldB bldM putL endL
attribute [-instance] FrameNew_c placesOf_c
theorem BuildRef_ok (w h q:Int) (b d:Bool) (L:List Int) (M:List Mbk) (hl:L.length≤1099511627776∧M.length≤1099511627776∧SmM 1099511627776 M) (hok:StOk w h q L M):Fn 26 [StA w h q b d L M] [] (FrA w h (refL w h q b d M)):=by
 have hd:=decide_eq_true hok
 have hsd:=hok.1.1
 have hcm:=cntM_bd hsd
 have hM16:M.length≤16:=by have:=hok.2.1;omega
 have hz:(zerP w h).length≤1024:=by
  unfold zerP
  rw [List.length_replicate]
  have h2:w*h≤32*32:=Int.mul_le_mul hsd.2.1 hsd.2.2.2.1 (by have:=hsd.2.2.1;omega) (by omega)
  omega
 unfold refL
 refine FnC.of_body tabOk Tryz.func26 Tryz.ntmps26 rfl (by decide +kernel) (by simp) fun G=>?_
 refine goR (r:=?_);and_intros<;>intros<;>try exact True.intro
 all_goals first|contradiction|omega|exact hl.2.2|skip
 refine K.call ?_
 apply WpL.callI (FrameNew_c.ok w h hsd)
 ·exact snapA
 ·exact locA
 ·exact outA
 ·exact frzA
 ·decide
 refine goR (r:=?_);and_intros<;>intros<;>try exact True.intro
 all_goals first|contradiction|omega|skip
 have hzl:(w*h).toNat=(zerP w h).length:=by simp [zerP]
 rw [show (List.replicate (w*h).toNat (0:Int))=zerP w h from rfl,hzl]
 generalize zerP w h=P0 at*
 refine WpA.loop (fun k:Nat=>⟨[(1,.ptr 0 0 0),(2,.ptr 1 0 0),(3,.ptr 2 0 0),(20,MbL M),(21,I M.length),(22,I k)],[⟨[I w,I h,I q,B b,B d,IL L,MbL M],0,0,none⟩,⟨[I 0,I 0,.nilS],0,0,none⟩,FrO w h (bldM w h q b M P0 k)]⟩) (fun k=>k≤M.length) (fun k=>M.length-k) 0 (Nat.zero_le _) (go (r:=?_)) (fun k hk=>?_)
 ·and_intros<;>first|exact True.intro|rfl|(rw [bldM_zero];exact .keep rfl rfl .nil)
 have hbl:=bldM_len w h q b M P0 k
 by_cases hlt:k<M.length
 ·have hmb:=ok_blk hok hlt
  have hsc:=bldM_succ w h q b M P0 k
  generalize hm:M.getD k default=mm at*
  obtain ⟨e,bs⟩:=mm
  simp only at hmb hsc
  have hbl4:bs.length=manyE e:=by have:=hmb.1;cases e<;>simp [nm8] at this<;>simp [manyE]<;>omega
  have hm4:manyE e≤4:=by cases e<;>decide
  refine goR (r:=?_);and_intros<;>intros<;>try exact True.intro
  all_goals first|contradiction|omega|skip
  rw [hm]
  refine K.call ?_
  apply WpL.callI (placesOf_c.ok w h q b d L k e ⟨by omega,by omega,by omega⟩)
  ·exact snapA
  ·exact locA
  ·exact outA
  ·exact FrzR.one (.own rfl rfl rfl (by rw [rows_len (k:=3) (fun _=>rfl),plsL_len]) rfl (Snap.same rfl (still_rows (fun _=>rfl) _) (nofre_rows (fun _=>rfl) _)) .nil)
  ·decide
  refine goR (r:=?_);and_intros<;>intros<;>try exact True.intro
  all_goals first|contradiction|omega|skip
  refine WpA.loop (fun i:Nat=>⟨[(1,.ptr 0 0 0),(2,.ptr 1 0 0),(3,.ptr 2 0 0),(5,.ptr 3 0 0),(20,MbL M),(21,I M.length),(22,I k),(32,.imm 3 (manyE e) (rows plF (plsL w (sz8 e) k (manyE e)))),(33,I (manyE e)),(34,I i)],[⟨[I w,I h,I q,B b,B d,IL L,MbL M],0,0,none⟩,⟨[I 0,I 0,.nilS],0,0,none⟩,FrO w h (bldB w h q b (sz8 e) k bs (bldM w h q b M P0 k) i),⟨[B e,.imm 2 bs.length (rows blkI bs)],0,0,none⟩]⟩) (fun i=>i≤manyE e) (fun i=>manyE e-i) 0 (Nat.zero_le _) (go (r:=?_)) (fun i hi=>?_)
  ·and_intros<;>first|exact True.intro|rfl|(rw [bldB_zero];exact .keep rfl rfl .nil)
  have hil:=bldB_len w h q b (sz8 e) k bs (bldM w h q b M P0 k) i
  by_cases hlt2:i<manyE e
  ·have hpl:=plsL_len w (sz8 e) k (manyE e)
   have hpg:(plsL w (sz8 e) k (manyE e)).getD i default=plc1 w (sz8 e) k i:=by
    unfold plsL
    simp [hlt2]
   have hbo:=ok_lv hmb (k:=i) (by omega)
   have hbn:=hbo.2.2.1
   have hsu:=bldB_succ w h q b (sz8 e) k bs (bldM w h q b M P0 k) i
   have hlv:(bs.getD i default).2.length≤64:=by cases e<;>simp [sz8] at hbn<;>omega
   generalize hPk:bldM w h q b M P0 k=Pk at*
   generalize hPi:bldB w h q b (sz8 e) k bs Pk i=Pi at*
   have hpu:=putL_len w h Pi q b (plc1 w (sz8 e) k i).1 (plc1 w (sz8 e) k i).2.1 (bs.getD i default).1 (bs.getD i default).2
   refine goR (r:=?_);and_intros<;>intros<;>try exact True.intro
   all_goals first|contradiction|omega|skip
   rw [hpg]
   try dsimp only [List.append,List.cons_append,List.nil_append]
   apply WpA.regionGB 17 mixed (by decide +kernel)
   ·exact rfl
   ·first|(apply HeadG.preF 0 rfl rfl rfl;exact rfl;exact in0;exact rfl)|(apply HeadG.hole0 rfl rfl rfl;exact rfl;exact in0;exact rfl)|(apply HeadG.hole2 rfl rfl rfl;exact rfl;exact in0;exact rfl)|(apply HeadG.hole3 rfl rfl rfl;exact rfl;exact in0;exact rfl)|(apply HeadG.hole4 rfl rfl rfl;exact rfl;exact in0;exact rfl)|(apply HeadG.stepNF rfl;exact rfl;exact in1;exact rfl)
    first|(apply HeadG.preF 0 rfl rfl rfl;exact rfl;exact in0;exact rfl)|(apply HeadG.hole0 rfl rfl rfl;exact rfl;exact in0;exact rfl)|(apply HeadG.hole2 rfl rfl rfl;exact rfl;exact in0;exact rfl)|(apply HeadG.hole3 rfl rfl rfl;exact rfl;exact in0;exact rfl)|(apply HeadG.hole4 rfl rfl rfl;exact rfl;exact in0;exact rfl)|(apply HeadG.stepNF rfl;exact rfl;exact in1;exact rfl)
    first|(apply HeadG.preF 0 rfl rfl rfl;exact rfl;exact in0;exact rfl)|(apply HeadG.hole0 rfl rfl rfl;exact rfl;exact in0;exact rfl)|(apply HeadG.hole2 rfl rfl rfl;exact rfl;exact in0;exact rfl)|(apply HeadG.hole3 rfl rfl rfl;exact rfl;exact in0;exact rfl)|(apply HeadG.hole4 rfl rfl rfl;exact rfl;exact in0;exact rfl)|(apply HeadG.stepNF rfl;exact rfl;exact in1;exact rfl)
    first|(apply HeadG.preF 0 rfl rfl rfl;exact rfl;exact in0;exact rfl)|(apply HeadG.hole0 rfl rfl rfl;exact rfl;exact in0;exact rfl)|(apply HeadG.hole2 rfl rfl rfl;exact rfl;exact in0;exact rfl)|(apply HeadG.hole3 rfl rfl rfl;exact rfl;exact in0;exact rfl)|(apply HeadG.hole4 rfl rfl rfl;exact rfl;exact in0;exact rfl)|(apply HeadG.stepNF rfl;exact rfl;exact in1;exact rfl)
    first|(apply HeadG.preF 0 rfl rfl rfl;exact rfl;exact in0;exact rfl)|(apply HeadG.hole0 rfl rfl rfl;exact rfl;exact in0;exact rfl)|(apply HeadG.hole2 rfl rfl rfl;exact rfl;exact in0;exact rfl)|(apply HeadG.hole3 rfl rfl rfl;exact rfl;exact in0;exact rfl)|(apply HeadG.hole4 rfl rfl rfl;exact rfl;exact in0;exact rfl)|(apply HeadG.stepNF rfl;exact rfl;exact in1;exact rfl)
    first|(apply HeadG.preF 0 rfl rfl rfl;exact rfl;exact in0;exact rfl)|(apply HeadG.hole0 rfl rfl rfl;exact rfl;exact in0;exact rfl)|(apply HeadG.hole2 rfl rfl rfl;exact rfl;exact in0;exact rfl)|(apply HeadG.hole3 rfl rfl rfl;exact rfl;exact in0;exact rfl)|(apply HeadG.hole4 rfl rfl rfl;exact rfl;exact in0;exact rfl)|(apply HeadG.stepNF rfl;exact rfl;exact in1;exact rfl)
    first|(apply HeadG.preF 0 rfl rfl rfl;exact rfl;exact in0;exact rfl)|(apply HeadG.hole0 rfl rfl rfl;exact rfl;exact in0;exact rfl)|(apply HeadG.hole2 rfl rfl rfl;exact rfl;exact in0;exact rfl)|(apply HeadG.hole3 rfl rfl rfl;exact rfl;exact in0;exact rfl)|(apply HeadG.hole4 rfl rfl rfl;exact rfl;exact in0;exact rfl)|(apply HeadG.stepNF rfl;exact rfl;exact in1;exact rfl)
    first|(apply HeadG.preF 0 rfl rfl rfl;exact rfl;exact in0;exact rfl)|(apply HeadG.hole0 rfl rfl rfl;exact rfl;exact in0;exact rfl)|(apply HeadG.hole2 rfl rfl rfl;exact rfl;exact in0;exact rfl)|(apply HeadG.hole3 rfl rfl rfl;exact rfl;exact in0;exact rfl)|(apply HeadG.hole4 rfl rfl rfl;exact rfl;exact in0;exact rfl)|(apply HeadG.stepNF rfl;exact rfl;exact in1;exact rfl)
    first|(apply HeadG.preF 0 rfl rfl rfl;exact rfl;exact in0;exact rfl)|(apply HeadG.hole0 rfl rfl rfl;exact rfl;exact in0;exact rfl)|(apply HeadG.hole2 rfl rfl rfl;exact rfl;exact in0;exact rfl)|(apply HeadG.hole3 rfl rfl rfl;exact rfl;exact in0;exact rfl)|(apply HeadG.hole4 rfl rfl rfl;exact rfl;exact in0;exact rfl)|(apply HeadG.stepNF rfl;exact rfl;exact in1;exact rfl)
    first|(apply HeadG.preF 0 rfl rfl rfl;exact rfl;exact in0;exact rfl)|(apply HeadG.hole0 rfl rfl rfl;exact rfl;exact in0;exact rfl)|(apply HeadG.hole2 rfl rfl rfl;exact rfl;exact in0;exact rfl)|(apply HeadG.hole3 rfl rfl rfl;exact rfl;exact in0;exact rfl)|(apply HeadG.hole4 rfl rfl rfl;exact rfl;exact in0;exact rfl)|(apply HeadG.stepNF rfl;exact rfl;exact in1;exact rfl)
    first|(apply HeadG.preF 0 rfl rfl rfl;exact rfl;exact in0;exact rfl)|(apply HeadG.hole0 rfl rfl rfl;exact rfl;exact in0;exact rfl)|(apply HeadG.hole2 rfl rfl rfl;exact rfl;exact in0;exact rfl)|(apply HeadG.hole3 rfl rfl rfl;exact rfl;exact in0;exact rfl)|(apply HeadG.hole4 rfl rfl rfl;exact rfl;exact in0;exact rfl)|(apply HeadG.stepNF rfl;exact rfl;exact in1;exact rfl)
    first|(apply HeadG.preF 0 rfl rfl rfl;exact rfl;exact in0;exact rfl)|(apply HeadG.hole0 rfl rfl rfl;exact rfl;exact in0;exact rfl)|(apply HeadG.hole2 rfl rfl rfl;exact rfl;exact in0;exact rfl)|(apply HeadG.hole3 rfl rfl rfl;exact rfl;exact in0;exact rfl)|(apply HeadG.hole4 rfl rfl rfl;exact rfl;exact in0;exact rfl)|(apply HeadG.stepNF rfl;exact rfl;exact in1;exact rfl)
    apply HeadG.precF 0 rfl rfl
    ·exact rfl
    ·intro Tv Ov
     refine K.call ?_
     apply WpL.callI (PutRef_c.ok w h Pi w h q b d L (plc1 w (sz8 e) k i).1 (plc1 w (sz8 e) k i).2.1 (bs.getD i default).1 (bs.getD i default).2 ⟨by omega,by omega⟩)
     ·exact snapA
     ·exact locA
     ·exact outA
     ·exact FrzR.tup (.agg (.keep rfl rfl (.keep rfl rfl (.own rfl rfl rfl (by show Pi.length*1=(List.map _ _).length;rw [Nat.mul_one,List.length_map];exact hpu.symm) hpu.symm (Snap.same rfl (still_ints _) (nofre_ints _)) .nil))) (.keep rfl rfl .nil))
     ·decide
     ·exact WpL.nil (Only.mk rfl)
    ·exact rfl
    first|(apply HeadG.preF 0 rfl rfl rfl;exact rfl;exact in0;exact rfl)|(apply HeadG.hole0 rfl rfl rfl;exact rfl;exact in0;exact rfl)|(apply HeadG.hole2 rfl rfl rfl;exact rfl;exact in0;exact rfl)|(apply HeadG.hole3 rfl rfl rfl;exact rfl;exact in0;exact rfl)|(apply HeadG.hole4 rfl rfl rfl;exact rfl;exact in0;exact rfl)|(apply HeadG.stepNF rfl;exact rfl;exact in1;exact rfl)
    first|(apply HeadG.preF 0 rfl rfl rfl;exact rfl;exact in0;exact rfl)|(apply HeadG.hole0 rfl rfl rfl;exact rfl;exact in0;exact rfl)|(apply HeadG.hole2 rfl rfl rfl;exact rfl;exact in0;exact rfl)|(apply HeadG.hole3 rfl rfl rfl;exact rfl;exact in0;exact rfl)|(apply HeadG.hole4 rfl rfl rfl;exact rfl;exact in0;exact rfl)|(apply HeadG.stepNF rfl;exact rfl;exact in1;exact rfl)
    first|(apply HeadG.preF 0 rfl rfl rfl;exact rfl;exact in0;exact rfl)|(apply HeadG.hole0 rfl rfl rfl;exact rfl;exact in0;exact rfl)|(apply HeadG.hole2 rfl rfl rfl;exact rfl;exact in0;exact rfl)|(apply HeadG.hole3 rfl rfl rfl;exact rfl;exact in0;exact rfl)|(apply HeadG.hole4 rfl rfl rfl;exact rfl;exact in0;exact rfl)|(apply HeadG.stepNF rfl;exact rfl;exact in1;exact rfl)
    first|(apply HeadG.preF 0 rfl rfl rfl;exact rfl;exact in0;exact rfl)|(apply HeadG.hole0 rfl rfl rfl;exact rfl;exact in0;exact rfl)|(apply HeadG.hole2 rfl rfl rfl;exact rfl;exact in0;exact rfl)|(apply HeadG.hole3 rfl rfl rfl;exact rfl;exact in0;exact rfl)|(apply HeadG.hole4 rfl rfl rfl;exact rfl;exact in0;exact rfl)|(apply HeadG.stepNF rfl;exact rfl;exact in1;exact rfl)
    exact Abs.HeadG.nil
   ·exact trueA
   ·exact trueA
   ·exact trueA
   ·exact demA
   ·exact rfl
   ·exact rfl
   refine goR (r:=?_);and_intros<;>intros<;>try exact True.intro
   all_goals first|contradiction|omega|(rw [hsu];exact .keep rfl rfl .nil)
  ·obtain rfl:i=manyE e:=by omega
   refine goR (r:=?_);and_intros<;>intros<;>try exact True.intro
   all_goals first|contradiction|omega|(rw [hsc];exact .keep rfl rfl .nil)
 ·obtain rfl:k=M.length:=by omega
  refine goR (r:=?_);and_intros<;>intros<;>try exact True.intro
  all_goals first|contradiction|omega|skip
  refine K.call ?_
  apply WpL.callK (ended_c w h w h q b d L (bldM w h q b M P0 M.length) (by omega))
  ·exact .agg (.keep rfl rfl (.keep rfl rfl (.keep rfl rfl (.keep rfl rfl (.keep rfl rfl (.keep rfl rfl .nil)))))) (.agg (.keep rfl rfl (.keep rfl rfl (.keep rfl rfl .nil))) .nil)
  ·decide
  refine goR (r:=?_);and_intros<;>intros<;>try exact True.intro
  all_goals first|contradiction|omega
end
end Go.Proofs.YtndflfipaddfoaaGreat


namespace Go.Proofs.YtndflfipaddfoaaGreat
open Go Go.Abs
def bit1 (y:Int):Int:=IntKind.i64.wrap ((BitVec.ofInt IntKind.i64.bits y &&& BitVec.ofInt IntKind.i64.bits 1).toNat:Nat)
theorem bit1_bd (y:Int):0≤bit1 y∧bit1 y≤1:=by
 have h:(BitVec.ofInt IntKind.i64.bits y &&& BitVec.ofInt IntKind.i64.bits 1).toNat≤1:=by
  rw [BitVec.toNat_and]
  exact Nat.le_trans Nat.and_le_right (by decide)
 unfold bit1
 rw [wrap64 _ (by omega)]
 omega
def btA (p:List UInt8) (i:Int):Int:=if i<0∨8*(p.length:Int)≤i then -1 else bit1 (((p.getD (i/8).toNat 0).toNat:Int)/2 ^ (7-i%8).toNat)
theorem btA_out (p:List UInt8) (i:Int):btA p i<0↔(i<0∨8*(p.length:Int)≤i):=by
 unfold btA
 have:=bit1_bd (((p.getD (i/8).toNat 0).toNat:Int)/2 ^ (7-i%8).toNat)
 split<;>omega
theorem btA_bd (p:List UInt8) (i:Int):-1≤btA p i∧btA p i≤1:=by
 unfold btA
 have:=bit1_bd (((p.getD (i/8).toNat 0).toNat:Int)/2 ^ (7-i%8).toNat)
 split<;>omega
def bv (p:List UInt8) (i:Int):Int:=max (btA p i) 0
theorem bv_bd (p:List UInt8) (i:Int):0≤bv p i∧bv p i≤1:=by have:=btA_bd p i;unfold bv;omega
def numB (p:List UInt8) (s:Int):Nat→Int
 |0=>0
 |k+1=>numB p s k*2+bv p (s+k)
theorem numB_bd (p:List UInt8) (s:Int):∀k,0≤numB p s k∧numB p s k<2 ^ k
 |0=>by simp [numB]
 |k+1=>by
  have h1:=numB_bd p s k
  have h2:=bv_bd p (s+k)
  rw [numB,Int.pow_succ];omega
theorem numB_le (p:List UInt8) (s:Int) {k j:Nat} (h:k≤j):numB p s k<2 ^ j:=by
 have h1:=numB_bd p s k
 have h2:(2:Int) ^ k≤2 ^ j:=by exact_mod_cast Nat.pow_le_pow_right (by decide) h
 omega
theorem numB_add (p:List UInt8) (s:Int) (a:Nat):∀b,numB p s (a+b)=numB p s a*2 ^ b+numB p (s+a) b
 |0=>by simp [numB]
 |b+1=>by
  rw [←Nat.add_assoc,numB,numB_add p s a b,numB,Int.pow_succ,Int.natCast_add,←Int.add_assoc,Int.add_mul,Int.mul_assoc,Int.add_assoc]
abbrev RdOk (p:List UInt8) (s:Int):Prop:=0≤s∧s≤8*(p.length:Int)
def lft (p:List UInt8) (s:Int):Int:=if RdOk p s then 8*(p.length:Int)-s else 0
theorem lft_bd (p:List UInt8) (s:Int):0≤lft p s∧lft p s≤8*(p.length:Int):=by unfold lft;split<;>omega
theorem lft_ok {p:List UInt8} {s:Int} (h:RdOk p s):lft p s=8*(p.length:Int)-s:=by rw [lft,if_pos h]
theorem lft_no {p:List UInt8} {s:Int} (h:¬RdOk p s):lft p s=0:=by rw [lft,if_neg h]
abbrev RbOk (p:List UInt8) (s n:Int):Prop:=RdOk p s∧(0≤n∧n≤32)∧n≤lft p s
def rbA (p:List UInt8) (s n:Int):Int:=if RbOk p s n then s+n else s
def rbV (p:List UInt8) (s n:Int):Int:=if RbOk p s n then numB p s n.toNat else 0
theorem rbV_bd (p:List UInt8) (s n:Int):0≤rbV p s n∧rbV p s n<4294967296:=by
 unfold rbV;split
 ·rename_i h
  have h1:=numB_bd p s n.toNat
  have h2:=numB_le p s (k:=n.toNat) (j:=32) (by omega)
  omega
 ·omega
theorem rb_yes {p:List UInt8} {s n:Int} (h:RbOk p s n):rbA p s n=s+n∧rbV p s n=numB p s n.toNat:=⟨if_pos h,if_pos h⟩
theorem rb_no {p:List UInt8} {s n:Int} (h:¬RbOk p s n):rbA p s n=s∧rbV p s n=0:=⟨if_neg h,if_neg h⟩
def zrW (p:List UInt8) (s:Int):Nat→Nat→Nat
 |0,n=>n
 |f+1,n=>if btA p (s+n)=0 then zrW p s f (n+1) else n
def zrs (p:List UInt8) (s:Int):Nat:=zrW p s (lft p s).toNat 0
theorem zrW_le (p:List UInt8) (s:Int):∀f n,n≤zrW p s f n∧zrW p s f n≤n+f
 |0,n=>by simp [zrW]
 |f+1,n=>by
  rw [zrW];split
  ·have:=zrW_le p s f (n+1);omega
  ·omega
theorem zrs_le (p:List UInt8) (s:Int):(zrs p s:Int)≤lft p s:=by
 have:=zrW_le p s (lft p s).toNat 0
 have:=lft_bd p s
 unfold zrs;omega
theorem zrW_eq (p:List UInt8) (s:Int):∀(f n k:Nat),k≤f→(∀ j<k,btA p (s+(n+j:Nat))=0)→(k=f∨btA p (s+(n+k:Nat))≠0)→zrW p s f n=n+k
 |0,n,k,h1,_,_=>by have:k=0:=by omega
                   subst this;rfl
 |f+1,n,0,_,_,h3=>by
  rw [zrW]
  rcases h3 with h3|h3
  ·omega
  ·rw [if_neg (by simpa using h3)];rfl
 |f+1,n,k+1,h1,h2,h3=>by
  have h0:=h2 0 (by omega)
  rw [zrW,if_pos (by simpa using h0),zrW_eq p s f (n+1) k (by omega) (fun j hj=>by have:=h2 (j+1) (by omega);rw [show n+1+j=n+(j+1) by omega];exact this)
   (by rcases h3 with h3|h3;exact .inl (by omega);exact .inr (by rw [show n+1+k=n+(k+1) by omega];exact h3))]
  omega
theorem zrs_eq {p:List UInt8} {s:Int} {k:Nat} (h1:(k:Int)≤lft p s) (h2:∀j<k,btA p (s+(j:Nat))=0) (h3:(k:Int)=lft p s∨btA p (s+(k:Nat))≠0):zrs p s=k:=by
 have h0:=lft_bd p s
 unfold zrs
 rw [zrW_eq p s _ 0 k (by omega) (fun j hj=>by rw [Nat.zero_add];exact h2 j hj) (by rw [Nat.zero_add];rcases h3 with h3|h3;exact .inl (by omega);exact .inr h3)]
 omega
theorem zrW_zero (p:List UInt8) (s:Int):∀(f n j:Nat),n≤j→j<zrW p s f n→btA p (s+(j:Nat))=0
 |0,n,j,h1,h2=>by rw [zrW] at h2;omega
 |f+1,n,j,h1,h2=>by
  rw [zrW] at h2
  split at h2
  ·rename_i h0
   rcases Nat.lt_or_ge n j with h|h
   ·exact zrW_zero p s f (n+1) j (by omega) h2
   ·have:n=j:=by omega
    subst this;exact h0
  ·omega
theorem zrs_zero {p:List UInt8} {s:Int} {j:Nat} (h:j<zrs p s):btA p (s+(j:Nat))=0:=zrW_zero p s _ 0 j (Nat.zero_le _) h
theorem numB_zero (p:List UInt8) (s:Int):∀k,numB p s k=0↔∀j<k,bv p (s+(j:Nat))=0
 |0=>by simp [numB]
 |k+1=>by
  have ih:=numB_zero p s k
  have h1:=numB_bd p s k
  have h2:=bv_bd p (s+k)
  rw [numB]
  constructor
  ·intro h j hj
   rcases Nat.lt_or_ge j k with hj2|hj2
   ·exact ih.1 (by omega) j hj2
   ·have:j=k:=by omega
    subst this;omega
  ·intro h
   have h3:=ih.2 fun j hj=>h j (by omega)
   have h4:=h k (by omega)
   omega
theorem end_iff {p:List UInt8} {s:Int} (h:RdOk p s) (h1:1≤lft p s):numB p s (lft p s).toNat=2 ^ (lft p s-1).toNat↔btA p s=1∧(zrs p (s+1):Int)=lft p (s+1):=by
 have e1:=lft_ok h
 have h2:RdOk p (s+1):=by omega
 have e2:=lft_ok h2
 obtain ⟨k,hk⟩:∃k:Nat,lft p (s+1)=k:=⟨(lft p (s+1)).toNat,by omega⟩
 have e3:(lft p s).toNat=1+k:=by omega
 have e4:(lft p s-1).toNat=k:=by omega
 have e5:=numB_add p s 1 k
 have e6:numB p s 1=bv p s:=by simp [numB]
 have e7:=numB_bd p (s+1) k
 have e8:=bv_bd p s
 have e9:=btA_bd p s
 have e10:bv p s=max (btA p s) 0:=rfl
 have hp:(0:Int)<2 ^ k:=by exact_mod_cast Nat.pow_pos (by decide)
 have hz:=numB_zero p (s+1) k
 rw [e3,e4,e5,e6,hk]
 have e11:(s:Int)+((1:Nat):Int)=s+1:=rfl
 rw [e11]
 generalize (2:Int) ^ k=q at*
 have hzr:((zrs p (s+1):Int)=k)↔∀j<k,bv p (s+1+(j:Nat))=0:=by
  constructor
  ·intro hh j hj
   have:=zrs_zero (p:=p) (s:=s+1) (j:=j) (by omega)
   unfold bv;omega
  ·intro hh
   have:=zrs_eq (p:=p) (s:=s+1) (k:=k) (by omega) (fun j hj=>by
    have a:=hh j hj
    have b:=btA_out p (s+1+(j:Nat))
    have c:=btA_bd p (s+1+(j:Nat))
    unfold bv at a;omega) (.inl hk.symm)
   omega
 rw [hzr,←hz]
 rcases (by omega:bv p s=0∨bv p s=1) with hb|hb
 ·rw [hb];constructor
  ·intro hh;omega
  ·rintro ⟨hh,_⟩;omega
 ·rw [hb];constructor
  ·intro hh;exact ⟨by omega,by omega⟩
  ·rintro ⟨_,hh⟩;omega
def ueA (p:List UInt8) (s:Int):Int:=if zrs p s≤15 then rbA p s (2*(zrs p s:Int)+1) else s
def ueC (p:List UInt8) (s:Int):Int:=if zrs p s≤15 then (if RbOk p s (2*(zrs p s:Int)+1) then 0 else 1) else 4
def ueV (p:List UInt8) (s:Int):Int:=if ueC p s=0 then rbV p s (2*(zrs p s:Int)+1)-1 else 0
def lvOf (n:Int):Int:=if n<0 then 0 else if n%2=0 then n/2+1 else -(n/2)-1
theorem ue_yes {p:List UInt8} {s:Int} (h:zrs p s≤15) (h2:RbOk p s (2*(zrs p s:Int)+1)):ueA p s=s+(2*(zrs p s:Int)+1)∧ueC p s=0∧ueV p s=numB p s (2*(zrs p s:Int)+1).toNat-1:=by
 have e:ueC p s=0:=by rw [ueC,if_pos h,if_pos h2]
 exact ⟨by rw [ueA,if_pos h,(rb_yes h2).1],e,by rw [ueV,if_pos e,(rb_yes h2).2]⟩
theorem ue_short {p:List UInt8} {s:Int} (h:zrs p s≤15) (h2:¬RbOk p s (2*(zrs p s:Int)+1)):ueA p s=s∧ueC p s=1∧ueV p s=0:=by
 have e:ueC p s=1:=by rw [ueC,if_pos h,if_neg h2]
 exact ⟨by rw [ueA,if_pos h,(rb_no h2).1],e,by rw [ueV,if_neg (by omega)]⟩
theorem ue_code {p:List UInt8} {s:Int} (h:¬zrs p s≤15):ueA p s=s∧ueC p s=4∧ueV p s=0:=by
 have e:ueC p s=4:=by rw [ueC,if_neg h]
 exact ⟨by rw [ueA,if_neg h],e,by rw [ueV,if_neg (by omega)]⟩
abbrev SymAt (p:List UInt8) (s:Int) (l:List Int) (m:Nat):Prop:=0<l.getD m 0∧RbOk p s (l.getD m 0)∧numB p s (l.getD m 0).toNat=(codes l).getD m 0
theorem sym_hit {p:List UInt8} {s:Int} {l:List Int} {m:Nat} (hl:CodeOk l) (hm:m<6) (h:SymAt p s l m):hit (codes l) l m (numB p s 7):=by
 have hb:=code_in hl hm
 obtain ⟨w,hw⟩:∃w:Nat,l.getD m 0=w:=⟨(l.getD m 0).toNat,by omega⟩
 have hw7:w≤7:=by omega
 have h1:=numB_add p s w (7-w)
 have h2:=numB_bd p (s+w) (7-w)
 have h3:=h.2.2
 have h5:=h.1
 rw [show w+(7-w)=7 by omega] at h1
 rw [hw] at h3
 have h4:numB p s w=(codes l).getD m 0:=by simpa using h3
 unfold hit
 rw [hw]
 have hcw:cw (w:Int)=2 ^ (7-w):=by
  rcases (by omega:w=1∨w=2∨w=3∨w=4∨w=5∨w=6∨w=7) with rfl|rfl|rfl|rfl|rfl|rfl|rfl<;>rfl
 rw [hcw,h1,h4,Int.add_mul]
 omega
theorem sym_uni {p:List UInt8} {s:Int} {l:List Int} {m m':Nat} (hl:CodeOk l) (hm:m<6) (hm':m'<6) (h:SymAt p s l m) (h':SymAt p s l m'):m=m':=
 code_uni hl hm hm' (by omega) (by omega) (sym_hit hl hm h) (sym_hit hl hm' h')
def symM (p:List UInt8) (s:Int) (l:List Int):Nat:=((List.range 6).find? fun m=>decide (SymAt p s l m)).getD 6
theorem symM_eq {p:List UInt8} {s:Int} {l:List Int} {m:Nat} (hl:CodeOk l) (hm:m<6) (h:SymAt p s l m):symM p s l=m:=by
 unfold symM
 cases hf:(List.range 6).find? fun m=>decide (SymAt p s l m) with
 |none=>
  have:=List.find?_eq_none.1 hf m (by simp [hm])
  exact absurd (decide_eq_true h) this
 |some m'=>
  have h1:=List.find?_some hf
  have h2:=List.mem_of_find?_eq_some hf
  exact (sym_uni hl (by simpa using h2) hm (of_decide_eq_true h1) h)
theorem symM_none {p:List UInt8} {s:Int} {l:List Int} (h:∀m,m<6→¬SymAt p s l m):symM p s l=6:=by
 unfold symM
 have:(List.range 6).find? (fun m=>decide (SymAt p s l m))=none:=List.find?_eq_none.2 fun m hm=>by simpa using h m (by simpa using hm)
 rw [this];rfl
theorem symM_lt {p:List UInt8} {s:Int} {l:List Int} (h:symM p s l<6):SymAt p s l (symM p s l):=by
 unfold symM at*
 cases hf:(List.range 6).find? fun m=>decide (SymAt p s l m) with
 |none=>rw [hf] at h;simp at h
 |some m'=>
  have h1:=List.find?_some hf
  exact of_decide_eq_true (p:=SymAt p s l m') h1
def smC (p:List UInt8) (s:Int) (l:List Int):Int:=if CodeOk l then (if symM p s l<6 then 0 else 1) else 4
def smA (p:List UInt8) (s:Int) (l:List Int):Int:=if smC p s l=0 then s+l.getD (symM p s l) 0 else s
def smV (p:List UInt8) (s:Int) (l:List Int):Int:=if smC p s l=0 then symM p s l else 0
theorem sm_yes {p:List UInt8} {s:Int} {l:List Int} {m:Nat} (hl:CodeOk l) (hm:m<6) (h:SymAt p s l m):smA p s l=s+l.getD m 0∧smV p s l=m∧smC p s l=0:=by
 have e:=symM_eq hl hm h
 have c:smC p s l=0:=by rw [smC,if_pos hl,if_pos (by omega)]
 exact ⟨by rw [smA,if_pos c,e],by rw [smV,if_pos c,e],c⟩
theorem sm_none {p:List UInt8} {s:Int} {l:List Int} (hl:CodeOk l) (h:∀m,m<6→¬SymAt p s l m):smA p s l=s∧smV p s l=0∧smC p s l=1:=by
 have e:=symM_none h
 have c:smC p s l=1:=by rw [smC,if_pos hl,if_neg (by omega)]
 exact ⟨by rw [smA,if_neg (by omega)],by rw [smV,if_neg (by omega)],c⟩
theorem sm_bad {p:List UInt8} {s:Int} {l:List Int} (hl:¬CodeOk l):smA p s l=s∧smV p s l=0∧smC p s l=4:=by
 have c:smC p s l=4:=by rw [smC,if_neg hl]
 exact ⟨by rw [smA,if_neg (by omega)],by rw [smV,if_neg (by omega)],c⟩
end Go.Proofs.YtndflfipaddfoaaGreat


namespace Go.Proofs.YtndflfipaddfoaaGreat
open Go Go.Abs
def fbC (p:List UInt8) (s c n:Int) (k:Int→Int):Int:=if c=0 then (if RbOk p s n then k (rbV p s n) else 1) else c
def fbA (p:List UInt8) (s c n:Int) (k:Int→Int):Int:=if c=0∧fbC p s c n k=0 then rbA p s n else s
def fbV (p:List UInt8) (s c n:Int) (k:Int→Int):Int:=if fbC p s c n k=0 then rbV p s n else 0
def fuC (p:List UInt8) (s c:Int) (k:Int→Int):Int:=if c=0 then (if ueC p s=0 then k (ueV p s) else ueC p s) else c
def fuA (p:List UInt8) (s c:Int) (k:Int→Int):Int:=if fuC p s c k=0 then ueA p s else s
def fuV (p:List UInt8) (s c:Int) (k:Int→Int):Int:=if fuC p s c k=0 then ueV p s else 0
def ifE (b:Prop) [Decidable b] (e:Int):Int:=bif decide b then 0 else e
theorem ifE_yes {b:Prop} [Decidable b] {e:Int} (h:b):ifE b e=0:=by rw [ifE,decide_eq_true h];rfl
theorem ifE_no {b:Prop} [Decidable b] {e:Int} (h:¬b):ifE b e=e:=by rw [ifE,decide_eq_false h];rfl
def lenAt (v:Int) (i:Nat):Int:=v/2 ^ (3*i)%8
def lensV (v:Int):List Int:=[lenAt v 5,lenAt v 4,lenAt v 3,lenAt v 2,lenAt v 1,lenAt v 0]
structure HdS where
 a:Int
 c:Int
 w:Int
 h:Int
 q:Int
 f:Int
 l:Int
abbrev hk1 (x:Int):Int:=ifE (x=183) 2
abbrev hk2 (x:Int):Int:=ifE (x≤3) 3
abbrev hk3 (x:Int):Int:=ifE (x≤51) 3
abbrev hk4 (x:Int):Int:=0
abbrev hk5 (x:Int):Int:=ifE (CodeOk (lensV x)) 4
def hdS (p:List UInt8) (s:Int):HdS:=
 let a1:=fbA p s 0 8 hk1
 let c1:=fbC p s 0 8 hk1
 let a2:=fuA p a1 c1 hk2
 let c2:=fuC p a1 c1 hk2
 let a3:=fuA p a2 c2 hk2
 let c3:=fuC p a2 c2 hk2
 let a4:=fbA p a3 c3 6 hk3
 let c4:=fbC p a3 c3 6 hk3
 let a5:=fbA p a4 c4 2 hk4
 let c5:=fbC p a4 c4 2 hk4
 let a6:=fbA p a5 c5 18 hk5
 let c6:=fbC p a5 c5 18 hk5
 ⟨a6,c6,fuV p a1 c1 hk2,fuV p a2 c2 hk2,fbV p a3 c3 6 hk3,fbV p a4 c4 2 hk4,fbV p a5 c5 18 hk5⟩
def HdS.W (x:HdS):Int:=if x.c=0 then 8*(x.w+1) else 0
def HdS.H (x:HdS):Int:=if x.c=0 then 8*(x.h+1) else 0
def HdS.Q (x:HdS):Int:=if x.c=0 then x.q else 0
def HdS.B (x:HdS):Bool:=decide (x.c=0∧x.f≥2)
def HdS.D (x:HdS):Bool:=decide (x.c=0∧x.f%2=1)
def HdS.L (x:HdS):List Int:=if x.c=0 then lensV x.l else []
structure LvS where
 a:Int
 c:Int
 at_:Int
 out:List Int
def lvStep (p:List UInt8) (nn:Int) (x:LvS):LvS:=
 if x.c=0 then
  let k1:=fun y:Int=>ifE (y<nn-x.at_) 5
  let k2:=fun y:Int=>ifE (-16383≤lvOf y∧lvOf y≤16383) 5
  let a1:=fuA p x.a 0 k1
  let c1:=fuC p x.a 0 k1
  let t1:=x.at_+fuV p x.a 0 k1
  let a2:=fuA p a1 c1 k2
  let c2:=fuC p a1 c1 k2
  if c2=0 then ⟨a2,c2,t1+1,x.out.set t1.toNat (lvOf (fuV p a1 c1 k2))⟩ else ⟨a2,c2,t1,x.out⟩
 else x
def lvRun (p:List UInt8) (nn:Int) (x:LvS):Nat→LvS
 |0=>x
 |k+1=>lvStep p nn (lvRun p nn x k)
def lvS (p:List UInt8) (s n:Int):LvS:=
 let nn:=n*n
 let z:=List.replicate nn.toNat 0
 let k0:=fun _:Int=>0
 let k1:=fun y:Int=>ifE (y<nn) 5
 let a1:=fbA p s 0 1 k0
 let c1:=fbC p s 0 1 k0
 if fbV p s 0 1 k0=0 then ⟨a1,c1,0,z⟩ else
  let a2:=fuA p a1 c1 k1
  let c2:=fuC p a1 c1 k1
  lvRun p nn ⟨a2,c2,0,z⟩ (1+fuV p a1 c1 k1).toNat
theorem lvStep_len (p:List UInt8) (nn:Int) (x:LvS):(lvStep p nn x).out.length=x.out.length:=by
 unfold lvStep;split
 ·simp only;split
  ·simp
  ·rfl
 ·rfl
theorem lvRun_len (p:List UInt8) (nn:Int) (x:LvS):∀k,(lvRun p nn x k).out.length=x.out.length
 |0=>rfl
 |k+1=>by rw [lvRun,lvStep_len,lvRun_len p nn x k]
theorem lvS_len (p:List UInt8) (s n:Int):(lvS p s n).out.length=(n*n).toNat:=by
 unfold lvS;simp only;split
 ·simp
 ·rw [lvRun_len];simp
structure BlS where
 a:Int
 c:Int
 m:Int
 l:List Int
def blS (p:List UInt8) (s:Int) (lens:List Int) (n:Int):BlS:=
 if n=4∨n=8 then
  if smC p s lens=0 then
   let x:=lvS p (smA p s lens) n
   if x.c=0 then ⟨x.a,0,smV p s lens,x.out⟩ else ⟨x.a,x.c,0,[]⟩
  else ⟨s,smC p s lens,0,[]⟩
 else ⟨s,5,0,[]⟩
theorem blS_len (p:List UInt8) (s:Int) (lens:List Int) (n:Int):(blS p s lens n).l.length≤64:=by
 unfold blS;split
 ·rename_i h
  split
  ·simp only;split
   ·have:=lvS_len p (smA p s lens) n
    rcases h with rfl|rfl
    ·have h2:((4:Int)*4).toNat=16:=rfl
     show (lvS p (smA p s lens) 4).out.length≤64
     omega
    ·have h2:((8:Int)*8).toNat=64:=rfl
     show (lvS p (smA p s lens) 8).out.length≤64
     omega
   ·simp
  ·simp
 ·simp
structure MbS where
 a:Int
 c:Int
 bs:List Blok
def mbRun (p:List UInt8) (s:Int) (lens:List Int) (n:Int):Nat→MbS
 |0=>⟨s,0,[]⟩
 |k+1=>
  let x:=mbRun p s lens n k
  if x.c=0 then
   let b:=blS p x.a lens n
   if b.c=0 then ⟨b.a,0,x.bs++[(b.m,b.l)]⟩ else ⟨b.a,b.c,[]⟩
  else x
def mbS (p:List UInt8) (s:Int) (lens:List Int):MbS×Bool:=
 if RbOk p s 1 then
  let e:=decide (rbV p s 1=1)
  let x:=mbRun p (s+1) lens (bif e then 8 else 4) (bif e then 1 else 4)
  (x,bif decide (x.c=0) then e else false)
 else (⟨s,1,[]⟩,false)
structure StS where
 a:Int
 c:Int
 ms:List Mbk
def stRun (p:List UInt8) (s:Int) (lens:List Int):Nat→StS
 |0=>⟨s,0,[]⟩
 |k+1=>
  let x:=stRun p s lens k
  if x.c=0 then
   let m:=mbS p x.a lens
   if m.1.c=0 then ⟨m.1.a,0,x.ms++[(m.2,m.1.bs)]⟩ else ⟨m.1.a,m.1.c,[]⟩
  else x
def endC (p:List UInt8) (s:Int):Int:=if lft p s=0 then 1 else if lft p s≤8∧numB p s (lft p s).toNat=2 ^ (lft p s-1).toNat then 0 else 6
end Go.Proofs.YtndflfipaddfoaaGreat


namespace Go.Proofs.YtndflfipaddfoaaGreat
open Go Go.Abs
attribute [local irreducible] WpA WpL Rnd Blk Abs.Seq Abs.Fin Abs.FinG FnC FnG Only
abbrev LL (M:List (List Int)):AV:=.imm 1 M.length (rows liI M)
instance Grow_c:Con 294 (∀ n:Nat,n≤1099511627776→Fn 294 [.nilS,I n] [XI []] (.own 0 0 0 0)):=⟨fun n hn=>by
 refine FnC.of_body tabOk Tryz.func294 Tryz.ntmps294 rfl (by decide +kernel) (by simp) fun G=>?_
 by_cases h0:n=0
 ·subst h0
  refine go (r:=?_);and_intros<;>intros<;>try exact True.intro
  refine WpL.capNil (TabOk.slice tabOk rfl).1 rfl (by decide) ?_
  refine go (r:=?_);and_intros<;>intros<;>try exact True.intro
  all_goals rfl
 ·refine go (r:=?_);and_intros<;>intros<;>try exact True.intro
  refine WpL.capNil (TabOk.slice tabOk rfl).1 rfl (by decide) ?_
  refine go (r:=?_);and_intros<;>intros<;>try exact True.intro
  refine WpL.capNil (TabOk.slice tabOk rfl).1 rfl (by decide) ?_
  refine WpL.subNil tabOk rfl rfl rfl (by decide) ?_
  refine WpL.move rfl (by decide) ?_
  refine WpL.appZeros (p:=n) tabOk rfl rfl rfl (show AV.sc (Value.int .i64 ((n:Int)-(0-0)))=_ by congr 2) (by omega) (by omega) rfl (by decide) ?_
  refine go (r:=?_);and_intros<;>intros<;>try exact True.intro
  refine WpL.subOwn0 tabOk rfl rfl rfl rfl rfl (by decide) ?_
  refine go (r:=?_);and_intros<;>intros<;>try exact True.intro
  all_goals rfl⟩
theorem flat_snoc (M:List (List Int)) (k:Nat) (h:k<M.length):(M.take (k+1)).flatten=(M.take k).flatten++M.getD k default:=by
 rw [take_snoc M k h,List.flatten_append];simp
@[irreducible] def SmL (c:Nat) (M:List (List Int)):Prop:=∀r∈M,r.length≤c
theorem smL_get {c:Nat} {M:List (List Int)} (h:SmL c M) {k:Nat} (hk:k<M.length):(M.getD k default).length≤c:=by
 unfold SmL at h;exact h _ (by simp [hk])
theorem smL_bd {c:Nat} {M:List (List Int)} (h:SmL c M):∀k,k≤M.length→(M.take k).flatten.length≤k*c
 |0,_=>by simp
 |k+1,hk=>by
  have h1:=smL_bd h k (by omega)
  have h2:=smL_get h (k:=k) (by omega)
  rw [flat_snoc M k (by omega),List.length_append,Nat.add_mul,Nat.one_mul];omega
theorem smL_nil (c:Nat):SmL c []:=by unfold SmL;intro r hr;cases hr
theorem smL_cons {c:Nat} {a:List Int} {M:List (List Int)} (h:a.length≤c) (r:SmL c M):SmL c (a::M):=by
 unfold SmL at *;intro x hx
 rcases List.mem_cons.1 hx with rfl|hx
 ·exact h
 ·exact r x hx
instance Concat_c:Con 256 (∀ M:List (List Int),M.length≤1024∧SmL 1048576 M→Fn 256 [LL M] [XI M.flatten] (.own 0 0 0 M.flatten.length)):=⟨fun M hM=>by
 refine FnC.of_body tabOk Tryz.func256 Tryz.ntmps256 rfl (by decide +kernel) (by simp) fun G=>?_
 refine go (r:=?_);and_intros<;>intros<;>try exact True.intro
 refine WpA.loop (fun k:Nat=>⟨[(0,LL M),(3,I (M.take k).flatten.length),(9,LL M),(10,I M.length),(11,I k)],[]⟩) (fun k=>k≤M.length) (fun k=>M.length-k) 0 (by omega) (go (r:=?_)) (fun k hk=>?_)
 ·simp
 have hb:=smL_bd hM.2 k hk
 have hg:=fun h=>smL_get hM.2 (k:=k) h
 have hs:=fun h=>flat_snoc M k h
 refine go (r:=?_);and_intros<;>intros<;>try exact True.intro
 ·rw [hs (by omega),List.length_append];omega
 have e:k=M.length:=by omega
 subst e
 rw [List.take_length] at*
 refine go (r:=?_);and_intros<;>intros<;>try exact True.intro
 refine WpA.loop (fun k:Nat=>⟨[(6,.own 0 0 0 (M.take k).flatten.length),(25,LL M),(26,I M.length),(27,I k)],[XI (M.take k).flatten]⟩) (fun k=>k≤M.length) (fun k=>M.length-k) 0 (by omega) (go (r:=?_)) (fun k hk=>?_)
 ·simp
 have hb2:=smL_bd hM.2 k hk
 have hg2:=fun h=>smL_get hM.2 (k:=k) h
 have hs2:=fun h=>flat_snoc M k h
 have hln:k<M.length→(M.take (k+1)).flatten.length=(M.take k).flatten.length+(M.getD k default).length:=fun h=>by rw [hs2 h,List.length_append]
 refine go (r:=?_);and_intros<;>intros<;>try exact True.intro
 ·rw [hs2 (by omega)]
 all_goals have e:k=M.length:=by omega
 all_goals subst e
 all_goals rw [List.take_length]⟩
end Go.Proofs.YtndflfipaddfoaaGreat


namespace Go.Proofs.YtndflfipaddfoaaGreat
open Go Go.Abs
attribute [local irreducible] WpA WpL Rnd Blk Abs.Seq Abs.Fin Abs.FinG FnC FnG Only
instance bitOf_c:Con 259 (∀ b:Bool,Fn 259 [B b] [] (I (bif b then 1 else 0))):=⟨fun b=>by
 cases b
 ·refine FnC.of_body tabOk Tryz.func259 Tryz.ntmps259 rfl (by decide +kernel) (by simp) fun G=>?_
  refine go (r:=?_);and_intros<;>intros<;>try exact True.intro
  all_goals rfl
 ·refine FnC.of_body tabOk Tryz.func259 Tryz.ntmps259 rfl (by decide +kernel) (by simp) fun G=>?_
  refine go (r:=?_);and_intros<;>intros<;>try exact True.intro
  all_goals rfl⟩
def nolL (v:Int):Int:=if v>0 then 2*v-2 else if v<0 then -2*v-1 else -1
instance NumOfLevel_c:Con 297 (∀ v:Int,-1000000≤v∧v≤1000000→Fn 297 [I v] [] (I (nolL v))):=⟨fun v hv=>by
 unfold nolL
 refine FnC.of_body tabOk Tryz.func297 Tryz.ntmps297 rfl (by decide +kernel) (by simp) fun G=>?_
 refine go (r:=?_);and_intros<;>intros<;>try exact True.intro
 all_goals (repeat' split)<;>omega⟩
theorem lg_lo (x:Nat) (h:0<x):2 ^ Nat.log2 x≤x:=Nat.log2_self_le (by omega)
theorem lg_hi (x:Nat):x<2 ^ (Nat.log2 x+1):=Nat.lt_log2_self
theorem lg_16 {x:Nat} (h0:0<x) (h:x≤65535):Nat.log2 x≤15:=by
 rcases Nat.lt_or_ge (Nat.log2 x) 16 with h1|h1
 ·omega
 ·have:=lg_lo x h0
  have:2 ^ 16≤2 ^ Nat.log2 x:=Nat.pow_le_pow_right (by decide) h1
  omega
def ueL (n:Int):List Int:=if 0≤n∧n≤65534 then List.replicate (Nat.log2 (n.toNat+1)) 0++bitsL (n+1) (Nat.log2 (n.toNat+1)+1) else []
theorem ueL_len (n:Int):(ueL n).length≤64:=by
 unfold ueL;split
 ·rename_i h
  have h1:=lg_16 (x:=n.toNat+1) (by omega) (by omega)
  have h2:=bitsL_len (n+1) ((Nat.log2 (n.toNat+1):Nat)+1)
  simp only [List.length_append,List.length_replicate];omega
 ·simp
theorem bitOk_ue {n:Nat} (w:Nat) (h:n≤65534) (hw:Nat.log2 (n+1)+1≤w) (hw2:w≤48):bitOk ((n:Int)+1) w:=by
 refine ⟨by omega,by omega,?_⟩
 have h1:=lg_hi (n+1)
 have h2:2 ^ (Nat.log2 (n+1)+1)≤2 ^ w:=Nat.pow_le_pow_right (by decide) hw
 have h3:(n+1)/2 ^ w=0:=Nat.div_eq_of_lt (by omega)
 have h4:(((n+1)/2 ^ w:Nat):Int)=0:=by rw [h3];rfl
 rw [Int.toNat_natCast];push_cast at h4;exact h4
theorem bits_wide {n:Nat} {z:Nat} (h:n≤65534) (hz:z=Nat.log2 (n+1)):bitsL ((n:Int)+1) ((2*z+1:Nat):Int)=List.replicate z 0++bitsL ((n:Int)+1) ((z+1:Nat):Int):=by
 have h16:=lg_16 (x:=n+1) (by omega) (by omega)
 have o1:=bitOk_ue (n:=n) (2*z+1) h (by omega) (by omega)
 have o2:=bitOk_ue (n:=n) (z+1) h (by omega) (by omega)
 rw [bitsL,if_pos o1,bitsL,if_pos o2,Int.toNat_natCast,Int.toNat_natCast]
 apply List.ext_getElem?
 intro q
 rcases Nat.lt_or_ge q z with hq|hq
 ·rw [List.getElem?_append_left (by simpa using hq),List.getElem?_replicate,if_pos hq]
  unfold bitsR
  rw [List.getElem?_map,List.getElem?_range (by omega)]
  simp only [Option.map_some]
  congr 1
  have h5:(n+1)/2 ^ (2*z+1-1-q)=0:=Nat.div_eq_of_lt (by
   have h1:=lg_hi (n+1)
   have h2:2 ^ (Nat.log2 (n+1)+1)≤2 ^ (2*z+1-1-q):=Nat.pow_le_pow_right (by decide) (by omega)
   omega)
  have h6:(((n+1)/2 ^ (2*z+1-1-q):Nat):Int)=0:=by rw [h5];rfl
  have h7:((n:Int)+1)/2 ^ (2*z+1-1-q)=0:=by
   have e:(((n+1)/2 ^ (2*z+1-1-q):Nat):Int)=((n:Int)+1)/2 ^ (2*z+1-1-q):=by rw [Int.natCast_ediv,Int.natCast_add,Int.natCast_pow];rfl
   rw [←e];exact h6
  rw [h7];rfl
 ·rw [List.getElem?_append_right (by simpa using hq),List.length_replicate]
  unfold bitsR
  rcases Nat.lt_or_ge q (2*z+1) with hq2|hq2
  ·rw [List.getElem?_map,List.getElem?_range (by omega),List.getElem?_map,List.getElem?_range (by omega)]
   simp only [Option.map_some]
   congr 4;omega
  ·rw [List.getElem?_eq_none (by simpa using hq2),List.getElem?_eq_none (by simp;omega)]
theorem ueL_wide {n:Nat} (h:n≤65534):bitsL ((n:Int)+1) ((2*Nat.log2 (n+1)+1:Nat):Int)=ueL n:=by
 rw [bits_wide h rfl,ueL,if_pos ⟨by omega,by omega⟩]
 simp
def lenL (x:Int):Int:=if x=0 then 0 else (Nat.log2 x.toNat:Int)+1
theorem lenL_bd {x:Int} (h:0≤x∧x≤65535):0≤lenL x∧lenL x≤16:=by
 unfold lenL;split
 ·omega
 ·have:=lg_16 (x:=x.toNat) (by omega) (by omega);omega
theorem u64_in {x:Int} (h:0≤x∧x≤65535):IntKind.u64.wrap x=x:=by
 have key:IntKind.u64.wrap x=x%18446744073709551616:=rfl
 rw [key];omega
theorem u8_in {x:Int} (h:0≤x∧x≤255):IntKind.u8.wrap x=x:=by
 have key:IntKind.u8.wrap x=x%256:=rfl
 rw [key];omega
def lenT:List UInt8:=(List.range 256).map fun i=>UInt8.ofNat (if i=0 then 0 else Nat.log2 i+1)
theorem lenT_len:lenT.length=256:=by simp [lenT]
theorem lenT_at {x:Int} (h:0≤x∧x≤255):((lenT.getD x.toNat 0).toNat:Int)=lenL x:=by
 have key:∀k:Fin 256,((lenT.getD (k.val:Int).toNat 0).toNat:Int)=lenL k.val:=by decide +kernel
 obtain ⟨k,rfl⟩:∃k:Nat,x=k:=⟨x.toNat,by omega⟩
 exact key ⟨k,by omega⟩
theorem lenL_hi {x:Int} (h:256≤x∧x≤65535):lenL x=8+lenL (x/256):=by
 unfold lenL
 rw [if_neg (by omega),if_neg (by omega)]
 obtain ⟨k,rfl⟩:∃k:Nat,x=k:=⟨x.toNat,by omega⟩
 have e:((k:Int)/256).toNat=k/256:=by omega
 rw [e,Int.toNat_natCast]
 have h1:Nat.log2 k=Nat.log2 (k/2)+1:=by rw [Nat.log2_def,if_pos (by omega)]
 have e2:∀j n:Nat,256≤j*n→1<n→n≤256→True:=fun _ _ _ _ _=>trivial
 have st:∀n:Nat,2≤n→Nat.log2 n=Nat.log2 (n/2)+1:=fun n hn=>by rw [Nat.log2_def,if_pos hn]
 rw [st k (by omega),st (k/2) (by omega),st (k/2/2) (by omega),st (k/2/2/2) (by omega),st (k/2/2/2/2) (by omega),st (k/2/2/2/2/2) (by omega),st (k/2/2/2/2/2/2) (by omega),st (k/2/2/2/2/2/2/2) (by omega)]
 have e3:k/2/2/2/2/2/2/2/2=k/256:=by omega
 rw [e3];omega
instance Len64_c:Con 321 (∀ x:Int,0≤x∧x≤65535→Fn 321 [.sc (.int .u64 x)] [] (I (lenL x))):=⟨fun x hx=>by
 have e8:x/2 ^ Int.toNat 8=x/256:=rfl
 have hb:=lenL_bd hx
 refine FnC.of_body tabOk Tryz.func321 Tryz.ntmps321 rfl (by decide +kernel) (by simp) fun G=>?_
 by_cases h:256≤x
 ·have h2:IntKind.u8.wrap (x/2 ^ Int.toNat 8)=x/256:=by rw [e8];exact u8_in (by omega)
  have hb2:=lenL_bd (x:=x/256) (by omega)
  have hh:=lenL_hi (x:=x) (by omega)
  refine go (r:=?_);and_intros<;>intros<;>try exact True.intro
  refine WpL.idxStrB (p:=lenT) tabOk rfl (by kernel_rfl) rfl (by rw [h2,lenT_len];omega) (by decide) (fun hgo=>?_)
  rw [h2,lenT_at (by omega)]
  refine go (r:=?_);and_intros<;>intros<;>try exact True.intro
 ·have h2:IntKind.u8.wrap x=x:=u8_in (by omega)
  refine go (r:=?_);and_intros<;>intros<;>try exact True.intro
  refine WpL.idxStrB (p:=lenT) tabOk rfl (by kernel_rfl) rfl (by rw [h2,lenT_len];omega) (by decide) (fun hgo=>?_)
  rw [h2,lenT_at (by omega)]
  refine go (r:=?_);and_intros<;>intros<;>try exact True.intro⟩
instance Len_c:Con 311 (∀ x:Int,0≤x∧x≤65535→Fn 311 [.sc (.int .u64 x)] [] (I (lenL x))):=⟨fun x hx=>by
 refine FnC.of_body tabOk Tryz.func311 Tryz.ntmps311 rfl (by decide +kernel) (by simp) fun G=>?_
 refine go (r:=?_);and_intros<;>intros<;>try exact True.intro⟩
instance UeSize_c:Con 295 (∀ n:Nat,n≤65534→Fn 295 [I n] [] (I ((2*Nat.log2 (n+1)+1:Nat):Int))):=⟨fun n hn=>by
 have hw:=u64_in (x:=(n:Int)+1) (by omega)
 have hb:=lenL_bd (x:=(n:Int)+1) (by omega)
 have he:lenL ((n:Int)+1)=(Nat.log2 (n+1):Int)+1:=by
  unfold lenL;rw [if_neg (by omega),show ((n:Int)+1).toNat=n+1 by omega]
 have he2:lenL (IntKind.u64.wrap ((n:Int)+1))=(Nat.log2 (n+1):Int)+1:=by rw [hw];exact he
 have h16:=lg_16 (x:=n+1) (by omega) (by omega)
 refine FnC.of_body tabOk Tryz.func295 Tryz.ntmps295 rfl (by decide +kernel) (by simp) fun G=>?_
 refine go (r:=?_);and_intros<;>intros<;>try exact True.intro
 all_goals trace_state⟩
instance UeBits_c:Con 258 (∀ n:Int,0≤n∧n≤65534→Fn 258 [I n] [XI (ueL n)] (.own 0 0 0 (ueL n).length)):=⟨fun n hn=>by
 obtain ⟨N,rfl⟩:∃N:Nat,n=N:=⟨n.toNat,by omega⟩
 have he:=ueL_wide (n:=N) (by omega)
 have hel:(bitsL ((N:Int)+1) ((2*Nat.log2 (N+1)+1:Nat):Int)).length=(ueL N).length:=by rw [he]
 refine FnC.of_body tabOk Tryz.func258 Tryz.ntmps258 rfl (by decide +kernel) (by simp) fun G=>?_
 refine go (r:=?_);and_intros<;>intros<;>try exact True.intro
 all_goals trace_state⟩
end Go.Proofs.YtndflfipaddfoaaGreat


namespace Go.Proofs.YtndflfipaddfoaaGreat
open Go Go.Abs
attribute [local irreducible] WpA WpL Rnd Blk Abs.Seq Abs.Fin Abs.FinG FnC FnG Only
theorem shr8_in (x:UInt8) (k:Nat):IntKind.i64.wrap ((x.toNat:Int)/2 ^ k)=(x.toNat:Int)/2 ^ k:=by
 have h1:(x.toNat:Int)/2 ^ k≤x.toNat:=Int.ediv_le_self _ (by omega)
 have h2:0≤(x.toNat:Int)/2 ^ k:=Int.ediv_nonneg (by omega) (Int.pow_nonneg (by decide))
 have:=x.toNat_lt
 exact wrap64 _ (by omega)
instance BitAt_c:Con 94 (∀ (p:List UInt8) (i:Int),p.length≤1099511627776→Fn 94 [Z p,I i] [] (I (btA p i))):=⟨fun p i hl=>by
 refine FnC.of_body tabOk Tryz.func94 Tryz.ntmps94 rfl (by decide +kernel) (by simp) fun G=>?_
 refine go (r:=?_);and_intros<;>intros<;>try exact True.intro
 ·rw [btA,if_pos (by omega)]
 ·rw [btA,if_pos (by omega)]
 ·rw [btA,if_neg (by omega),bit1,shr8_in]⟩
abbrev RA (p:List UInt8) (s:Int):AV:=.agg [Z p,I s]
theorem or1 (x b:Int) (h:0≤x∧x<2 ^ 61) (hb:0≤b∧b≤1):IntKind.i64.wrap ((BitVec.ofInt IntKind.i64.bits (IntKind.i64.wrap (x*2 ^ Int.toNat 1)) ||| BitVec.ofInt IntKind.i64.bits b).toNat:Nat)=x*2+b:=by
 have e0:x*2 ^ Int.toNat 1=x*2:=rfl
 rw [e0,wrap64 (x*2) (by omega)]
 obtain ⟨a,rfl⟩:∃a:Nat,x=a:=⟨x.toNat,by omega⟩
 obtain ⟨c,rfl⟩:∃c:Nat,b=c:=⟨b.toNat,by omega⟩
 have h1:(BitVec.ofInt IntKind.i64.bits ((a:Int)*2)).toNat=2*a:=by simp only [IntKind.bits,BitVec.toNat_ofInt];omega
 have h2:(BitVec.ofInt IntKind.i64.bits (c:Int)).toNat=c:=by simp only [IntKind.bits,BitVec.toNat_ofInt];omega
 rw [BitVec.toNat_or,h1,h2]
 have h3:=Nat.two_pow_add_eq_or_of_lt (i:=1) (b:=c) (by omega) a
 rw [show 2*a=2 ^ 1*a by omega,←h3,wrap64 _ (by omega)]
 omega
instance bits_c:Con 184 (∀ (p:List UInt8) (s n:Int),p.length≤1099511627776∧(-1125899906842624≤s∧s≤1125899906842624)∧0≤n∧n≤56→Fn 184 [Z p,I s,I n] [] (I (numB p s n.toNat))):=⟨fun p s n hl=>by
 obtain ⟨N,rfl⟩:∃N:Nat,n=N:=⟨n.toNat,by omega⟩
 refine FnC.of_body tabOk Tryz.func184 Tryz.ntmps184 rfl (by decide +kernel) (by simp) fun G=>?_
 refine go (r:=?_);and_intros<;>intros<;>try exact True.intro
 refine WpA.loop (fun k:Nat=>⟨[(0,Z p),(1,I s),(7,I (numB p s k)),(9,I N),(10,I k)],[]⟩) (fun k=>k≤N) (fun k=>N-k) 0 (by omega) (go (r:=?_)) (fun k hk=>?_)
 ·trivial
 have hb:=numB_bd p s k
 have hb2:=numB_le p s (k:=k) (j:=60) (by omega)
 have h1:=or1 (numB p s k) (max (btA p (s+k)) 0) (by omega) (bv_bd p (s+k))
 have h2:numB p s (k+1)=numB p s k*2+max (btA p (s+k)) 0:=rfl
 refine go (r:=?_);and_intros<;>intros<;>try exact True.intro
 all_goals first|(rw [h2,←h1];done)|(have e:k=N:=by omega);(first|(rw [e,Int.toNat_natCast];done)|(subst e;rfl))⟩
abbrev BoxR (p:List UInt8) (s:Int):AObj:=⟨[Z p,I s],0,0,none⟩
instance ReaderOk_c:Con 197 (∀ (p:List UInt8) (s:Int),p.length≤1099511627776→Fn 197 [RA p s] [] (B (decide (RdOk p s)))):=⟨fun p s hl=>by
 refine FnC.of_body tabOk Tryz.func197 Tryz.ntmps197 rfl (by decide +kernel) (by simp) fun G=>?_
 refine go (r:=?_);and_intros<;>intros<;>try exact True.intro⟩
instance Left_c:Con 183 (∀ (p:List UInt8) (s:Int),p.length≤1099511627776→Fn 183 [RA p s] [] (I (lft p s))):=⟨fun p s hl=>by
 refine FnC.of_body tabOk Tryz.func183 Tryz.ntmps183 rfl (by decide +kernel) (by simp) fun G=>?_
 refine go (r:=?_);and_intros<;>intros<;>try exact True.intro
 all_goals first|(rw [lft_no (by assumption)];done)|(rw [lft_ok (by assumption)];done)⟩
instance ReadBits_c:Con 112 (∀ (p:List UInt8) (s n:Int),p.length≤1099511627776→Fn 112 [RA p s,I n] [] (.tup [RA p (rbA p s n),I (rbV p s n),B (decide (RbOk p s n))])):=⟨fun p s n hl=>by
 have hb:=lft_bd p s
 refine FnC.of_body tabOk Tryz.func112 Tryz.ntmps112 rfl (by decide +kernel) (by simp) fun G=>?_
 by_cases hok:RbOk p s n
 ·obtain ⟨e1,e2⟩:=rb_yes hok
  obtain ⟨h1,h2,h3⟩:=id hok
  refine go (r:=?_);and_intros<;>intros<;>try exact True.intro
  all_goals first|(exact absurd (by assumption) (by assumption))|(rw [e1];done)|(rw [e2];done)|(simp [hok];done)|(exfalso;omega)
 ·obtain ⟨e1,e2⟩:=rb_no hok
  refine go (r:=?_);and_intros<;>intros<;>try exact True.intro
  all_goals first|(exact absurd ⟨by assumption,by assumption,by omega⟩ hok)|(rw [e1];done)|(rw [e2];done)|(simp [hok];done)⟩
instance ZerosAhead_c:Con 298 (∀ (p:List UInt8) (s:Int),p.length≤1099511627776→Fn 298 [RA p s] [] (I (zrs p s))):=⟨fun p s hl=>by
 have hb:=lft_bd p s
 refine FnC.of_body tabOk Tryz.func298 Tryz.ntmps298 rfl (by decide +kernel) (by simp) fun G=>?_
 by_cases hok:RdOk p s
 ·have hlo:=lft_ok hok
  refine go (r:=?_);and_intros<;>intros<;>try exact True.intro
  all_goals first|(exact absurd hok (by assumption))|skip
  refine WpA.loop (fun k:Nat=>⟨[(1,.ptr 0 0 0),(3,I k)],[BoxR p s]⟩) (fun k=>(k:Int)≤lft p s∧∀j<k,btA p (s+(j:Nat))=0) (fun k=>(lft p s).toNat-k) 0 ⟨by omega,fun j hj=>by omega⟩ (go (r:=?_)) (fun k hk=>?_)
  ·trivial
  have hbo:=btA_out p (s+k)
  have hz:=fun h3=>zrs_eq hk.1 hk.2 h3
  refine go (r:=?_);and_intros<;>intros<;>try exact True.intro
  all_goals first|(rename_i h1 j hj;rcases Nat.lt_succ_iff_lt_or_eq.1 hj with h|h;(exact hk.2 j h);(subst h;assumption))|(rw [hz (.inr (by assumption))];done)
 ·have hz:zrs p s=0:=by have:=zrs_le p s;rw [lft_no hok] at this;omega
  refine go (r:=?_);and_intros<;>intros<;>try exact True.intro
  all_goals first|(exact absurd (by assumption) hok)|(rw [hz];done)|(rw [hz];rfl)⟩
instance ReadUe_c:Con 261 (∀ (p:List UInt8) (s:Int),p.length≤1099511627776→Fn 261 [RA p s] [] (.tup [RA p (ueA p s),I (ueV p s),I (ueC p s)])):=⟨fun p s hl=>by
 have hb:=lft_bd p s
 have hz:=zrs_le p s
 have hv:=rbV_bd p s (2*(zrs p s:Int)+1)
 refine FnC.of_body tabOk Tryz.func261 Tryz.ntmps261 rfl (by decide +kernel) (by simp) fun G=>?_
 by_cases h15:zrs p s≤15
 ·by_cases hok:RbOk p s (2*(zrs p s:Int)+1)
  ·obtain ⟨e1,e2,e3⟩:=ue_yes h15 hok
   obtain ⟨e4,e5⟩:=rb_yes hok
   refine go (r:=?_);and_intros<;>intros<;>try exact True.intro
   all_goals first|(exact absurd hok (by assumption))|(exfalso;omega)|(rw [e1,e4];done)|(rw [e3,e5];done)|(rw [e2];done)
  ·obtain ⟨e1,e2,e3⟩:=ue_short h15 hok
   refine go (r:=?_);and_intros<;>intros<;>try exact True.intro
   all_goals first|(exact absurd (by assumption) hok)|(exfalso;omega)|(rw [e1];done)|(rw [e3];done)|(rw [e2];done)
 ·obtain ⟨e1,e2,e3⟩:=ue_code (s:=s) (p:=p) h15
  refine go (r:=?_);and_intros<;>intros<;>try exact True.intro
  all_goals first|(exfalso;omega)|(rw [e1];done)|(rw [e3];done)|(rw [e2];done)⟩
instance LevelOf_c:Con 216 (∀ n:Int,-4611686018427387904≤n∧n≤4611686018427387904→Fn 216 [I n] [] (I (lvOf n))):=⟨fun n h=>by
 refine FnC.of_body tabOk Tryz.func216 Tryz.ntmps216 rfl (by decide +kernel) (by simp) fun G=>?_
 refine go (r:=?_);and_intros<;>intros<;>try exact True.intro
 ·rw [lvOf,if_pos (by assumption)]
 ·rw [lvOf,if_neg (by omega),if_pos (by assumption)]
 ·rw [lvOf,if_neg (by omega),if_neg (by assumption)];omega⟩
end Go.Proofs.YtndflfipaddfoaaGreat


namespace Go.Proofs.YtndflfipaddfoaaGreat
open Go Go.Abs
attribute [local irreducible] WpA WpL Rnd Blk Abs.Seq Abs.Fin Abs.FinG FnC FnG Only
abbrev R0:AObj:=⟨[Z [],I 0],0,0,none⟩
instance ReadSym_c:Con 198 (∀ (p:List UInt8) (s:Int) (l:List Int),p.length≤1099511627776∧l.length≤1099511627776→Fn 198 [RA p s,IL l] [] (.tup [RA p (smA p s l),I (smV p s l),I (smC p s l)])):=⟨fun p s l hl=>by
 have hb:=lft_bd p s
 refine FnC.of_body tabOk Tryz.func198 Tryz.ntmps198 rfl (by decide +kernel) (by simp) fun G=>?_
 by_cases hok:CodeOk l
 ·have h6:=hok.2.1
  have hcr:=codesR_ok l hok
  have hcl:=codes_len l
  have hcn:=codesR_len l hok
  refine go (r:=?_);and_intros<;>intros<;>try exact True.intro
  all_goals first|(exact absurd hok (by assumption))|skip
  refine WpA.loop (fun k:Nat=>⟨[(2,.ptr 0 0 0),(4,.ptr 1 0 0),(7,.own 2 0 0 6),(18,IL l),(19,I l.length),(20,I k)],[BoxR p s,R0,XI (codes l)]⟩) (fun k=>k≤6∧∀m<k,¬SymAt p s l m) (fun k=>6-k) 0 ⟨by omega,fun j hj=>by omega⟩ (go (r:=?_)) (fun k hk=>?_)
  ·trivial
  have hcb:=code_in hok (m:=k)
  have hy:=fun h=>rb_yes (p:=p) (s:=s) (n:=l.getD k 0) h
  refine go (r:=?_);and_intros<;>intros<;>try exact True.intro
  all_goals first
   |(have hsy:SymAt p s l k:=⟨by omega,by assumption,by rw [←(hy (by assumption)).2];simpa using ‹rbV p s (l.getD k 0)=_›⟩
     obtain ⟨e1,e2,e3⟩:=sm_yes hok (by omega) hsy
     first|(rw [e1,(hy hsy.2.1).1];done)|(rw [e2];done)|(rw [e3];done))
   |(rename_i j hj hs
     rcases Nat.lt_succ_iff_lt_or_eq.1 hj with h|h
     ·exact hk.2 j h hs
     ·subst h
      obtain ⟨a,b,c⟩:=hs
      first|omega|exact absurd b (by assumption)|(have hv:=(hy b).2;rw [c] at hv;rw [Int.toNat_natCast] at *;exact absurd hv (by assumption)))
   |(obtain ⟨e1,e2,e3⟩:=sm_none hok (fun m hm=>hk.2 m (by omega))
     first|(rw [e1];done)|(rw [e2];done)|(rw [e3];done))
 ·obtain ⟨e1,e2,e3⟩:=sm_bad (p:=p) (s:=s) hok
  have hcr:=codesR_no l hok
  refine go (r:=?_);and_intros<;>intros<;>try exact True.intro
  all_goals first|(exact absurd (by assumption) hok)|(rw [e1];done)|(rw [e2];done)|(rw [e3];done)⟩
theorem _root_.Go.Abs.WpA.regionMB0 {P:Program} {n m:Nat} {G:Ctx} {T0:List (Nat×AV)} {O:List AObj} {l l1 l2:List Oper} {id:Nat} {out T1:List (Nat×AV)} {Q:Exit→St→Prop} (k:Nat) (hm:P.follows .mixedOrders=true) (hB:mixB l.toArray k=true)
 (hl:takeF k l=some l1) (hJ:HeadJ P n m G l.toArray T0 O [] l1 out) (hnd:TrueB (nodupB (out.map (·.1)))) (hfr:TrueB (out.all fun p=>!has T0 p.1))
 (hT1:catF out T0=some T1) (h2:l.drop k=l2) (h:WpL P n m G false l.toArray l2 ⟨T1,O⟩ Q):WpA P n m G (.region id l.toArray true) ⟨T0,O⟩ Q:=by
 have:=takeF_eq hl;subst this;subst h2
 exact WpA.regionM k hm hB hJ hnd.e hfr.e (catF_eq hT1) h
theorem end0 {p:List UInt8} {s:Int} (h:lft p s=0):endC p s=1:=by rw [endC,if_pos h]
instance StopOk_c:Con 91 (∀ (p:List UInt8) (s:Int),p.length≤1099511627776∧RdOk p s→Fn 91 [RA p s] [] (I (endC p s))):=⟨fun p s hl=>by
 have hb:=lft_bd p s
 obtain ⟨hl,h1,h2⟩:=hl
 refine FnC.of_body tabOk Tryz.func91 Tryz.ntmps91 rfl (by decide +kernel) (by simp) fun G=>?_
 refine goR (r:=?_);and_intros<;>intros<;>try exact True.intro
 ·rw [end0 (by assumption)]
 rename_i h0
 by_cases h8:lft p s≤8
 ·apply WpA.regionMB0 14 mixed (by decide +kernel)
  ·exact rfl
  ·skip
   apply HeadJ.consF rfl
   ·exact rfl
   ·exact in0
   ·exact rfl
   apply HeadJ.consF (V:=B true) rfl
   ·exact rfl
   ·intro Tv
    refine K.L ?_
    refine K.bin ?_
    refine WpL.bin rfl rfl rfl (by decide) ?_
    exact WpL.nil (Only.mk (by rw [decide_eq_true h8]))
   ·exact rfl
   apply HeadJ.consF rfl
   ·exact rfl
   ·exact in0
   ·exact rfl
   apply HeadJ.consF rfl
   ·exact rfl
   ·(intro Tv;refine K.L ?_;refine K.gd ?_;refine K.gT rfl (by decide) rfl ?_;exact in0)
   ·exact rfl
   apply HeadJ.consF rfl
   ·exact rfl
   ·(intro Tv;refine K.L ?_;refine K.gd ?_;refine K.gT rfl (by decide) rfl ?_;exact in0)
   ·exact rfl
   apply HeadJ.consF rfl
   ·exact rfl
   ·(intro Tv;refine K.L ?_;refine K.gd ?_;refine K.gT rfl (by decide) rfl ?_;exact in0)
   ·exact rfl
   apply HeadJ.consF rfl
   ·exact rfl
   ·(intro Tv;refine K.L ?_;refine K.gd ?_;refine K.gT rfl (by decide) rfl ?_;exact in0)
   ·exact rfl
   apply HeadJ.consF rfl
   ·exact rfl
   ·(intro Tv;refine K.L ?_;refine K.gd ?_;refine K.gT rfl (by decide) rfl ?_;exact in0)
   ·exact rfl
   apply HeadJ.consF rfl
   ·exact rfl
   ·(intro Tv;refine K.L ?_;refine K.gd ?_;refine K.gT rfl (by decide) rfl ?_;exact in0)
   ·exact rfl
   apply HeadJ.consF rfl
   ·exact rfl
   ·(intro Tv;refine K.L ?_;refine K.gd ?_;refine K.gT rfl (by decide) rfl ?_;exact in0)
   ·exact rfl
   apply HeadJ.consF rfl
   ·exact rfl
   ·(intro Tv;refine K.L ?_;refine K.gd ?_;refine K.gT rfl (by decide) rfl ?_;exact in0)
   ·exact rfl
   apply HeadJ.consF rfl
   ·exact rfl
   ·(intro Tv;refine K.L ?_;refine K.gd ?_;refine K.gT rfl (by decide) rfl ?_;exact in0)
   ·exact rfl
   apply HeadJ.consF rfl
   ·exact rfl
   ·(intro Tv;refine K.L ?_;refine K.gd ?_;refine K.gT rfl (by decide) rfl ?_;exact in0)
   ·exact rfl
   apply HeadJ.consF rfl
   ·exact rfl
   ·exact in0
   ·exact rfl
   exact HeadJ.nil
  ·exact trueA
  ·exact trueA
  ·exact rfl
  ·exact rfl
  have hw1:IntKind.i64.wrap (1*2 ^ (lft p s-1).toNat)=2 ^ (lft p s-1).toNat:=by
   have e:((1:Int)*2 ^ (lft p s-1).toNat)=2 ^ (lft p s-1).toNat:=Int.one_mul _
   have h4:(2:Int) ^ (lft p s-1).toNat≤2 ^ 8:=by exact_mod_cast Nat.pow_le_pow_right (by decide) (by omega)
   have h5:(0:Int)<2 ^ (lft p s-1).toNat:=by exact_mod_cast Nat.pow_pos (by decide)
   rw [e];exact wrap64 _ (by omega)
  refine go (r:=?_);and_intros<;>intros<;>try exact True.intro
  ·rename_i hn
   rw [hw1] at hn
   rw [endC,if_neg h0,if_pos ⟨h8,hn⟩]
  ·rename_i hn
   rw [hw1] at hn
   rw [endC,if_neg h0,if_neg fun h=>hn h.2]
 ·apply WpA.regionMB0 14 mixed (by decide +kernel)
  ·exact rfl
  ·skip
   apply HeadJ.consF rfl
   ·exact rfl
   ·exact in0
   ·exact rfl
   apply HeadJ.consF (V:=B false) rfl
   ·exact rfl
   ·intro Tv
    refine K.L ?_
    refine K.bin ?_
    refine WpL.bin rfl rfl rfl (by decide) ?_
    exact WpL.nil (Only.mk (by rw [decide_eq_false h8]))
   ·exact rfl
   apply HeadJ.consF rfl
   ·exact rfl
   ·exact in0
   ·exact rfl
   apply HeadJ.consF rfl
   ·exact rfl
   ·(intro Tv;refine K.L ?_;refine K.gd ?_;refine K.gF rfl (by decide) rfl ?_;exact WpL.nil (Only.mk rfl))
   ·exact rfl
   apply HeadJ.consF rfl
   ·exact rfl
   ·(intro Tv;refine K.L ?_;refine K.gd ?_;refine K.gF rfl (by decide) rfl ?_;exact WpL.nil (Only.mk rfl))
   ·exact rfl
   apply HeadJ.consF rfl
   ·exact rfl
   ·(intro Tv;refine K.L ?_;refine K.gd ?_;refine K.gF rfl (by decide) rfl ?_;exact WpL.nil (Only.mk rfl))
   ·exact rfl
   apply HeadJ.consF rfl
   ·exact rfl
   ·(intro Tv;refine K.L ?_;refine K.gd ?_;refine K.gF rfl (by decide) rfl ?_;exact WpL.nil (Only.mk rfl))
   ·exact rfl
   apply HeadJ.consF rfl
   ·exact rfl
   ·(intro Tv;refine K.L ?_;refine K.gd ?_;refine K.gF rfl (by decide) rfl ?_;exact WpL.nil (Only.mk rfl))
   ·exact rfl
   apply HeadJ.consF rfl
   ·exact rfl
   ·(intro Tv;refine K.L ?_;refine K.gd ?_;refine K.gF rfl (by decide) rfl ?_;exact WpL.nil (Only.mk rfl))
   ·exact rfl
   apply HeadJ.consF rfl
   ·exact rfl
   ·(intro Tv;refine K.L ?_;refine K.gd ?_;refine K.gF rfl (by decide) rfl ?_;exact WpL.nil (Only.mk rfl))
   ·exact rfl
   apply HeadJ.consF rfl
   ·exact rfl
   ·(intro Tv;refine K.L ?_;refine K.gd ?_;refine K.gF rfl (by decide) rfl ?_;exact WpL.nil (Only.mk rfl))
   ·exact rfl
   apply HeadJ.consF rfl
   ·exact rfl
   ·(intro Tv;refine K.L ?_;refine K.gd ?_;refine K.gF rfl (by decide) rfl ?_;exact WpL.nil (Only.mk rfl))
   ·exact rfl
   apply HeadJ.consF rfl
   ·exact rfl
   ·(intro Tv;refine K.L ?_;refine K.gd ?_;refine K.gF rfl (by decide) rfl ?_;exact WpL.nil (Only.mk rfl))
   ·exact rfl
   apply HeadJ.consF rfl
   ·exact rfl
   ·exact in0
   ·exact rfl
   exact HeadJ.nil
  ·exact trueA
  ·exact trueA
  ·exact rfl
  ·exact rfl
  refine go (r:=?_);and_intros<;>intros<;>try exact True.intro
  rw [endC,if_neg h0,if_neg fun h=>h8 h.1]⟩
end Go.Proofs.YtndflfipaddfoaaGreat
