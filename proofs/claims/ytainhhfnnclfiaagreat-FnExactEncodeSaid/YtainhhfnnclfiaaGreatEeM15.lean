/- Proved in this text: lemmas and contracts of functions that the claim uses (parts: Work, BldI, BldR, LevP, EncP, AbsNf, AbsYb, AbsPre, RdL, RdM, Cat, Ue, Rd, RdS, Fld, RdH, RdHs). No condition. -/
import Derived.Test.YtainhhfnnclfiaaGreatEeM11
import Derived.Test.YtainhhfnnclfiaaGreatEeM14
import Derived.Test.YtainhhfnnclfiaaGreatEeM7
import Derived.Test.YtainhhfnnclfiaaGreatEeM12
import Derived.Test.YtainhhfnnclfiaaGreatEeM13
import Derived.Test.YtainhhfnnclfiaaGreatEeM6
import Derived.Test.YtainhhfnnclfiaaGreatEeM10
import Derived.Test.YtainhhfnnclfiaaGreatEeM9
set_option linter.unusedVariables false
set_option linter.unusedSimpArgs false
set_option maxRecDepth 100000
set_option maxHeartbeats 16000000


namespace Go.Proofs.YtainhhfnnclfiaaGreat
open Go Go.Abs
attribute [local irreducible] WpA WpL Rnd Blk Abs.Seq Abs.Fin Abs.FinG FnC FnG Only
theorem any_at {α:Type} [Inhabited α] {p:α→Bool} {l:List α} {i:Nat} (hi:i<l.length) (h:p (l.getD i default)=true):l.any p=true:=
 List.any_eq_true.2 ⟨l.getD i default,by simp [hi],h⟩
theorem any_none {α:Type} [Inhabited α] {p:α→Bool} {l:List α} (h:∀j<l.length,p (l.getD j default)=false):l.any p=false:=by
 rw [List.any_eq_false]
 intro x hx
 obtain ⟨j,hj,rfl⟩:=List.getElem_of_mem hx
 have:=h j hj
 have e:l.getD j default=l[j]:=by simp [hj]
 rw [e] at this;simp [this]
theorem any_get {α:Type} [Inhabited α] {p:α→Bool} {l:List α} (h:l.any p=false) {i:Nat} (hi:i<l.length):p (l.getD i default)=false:=by
 cases hp:p (l.getD i default) with
 |false=>rfl
 |true=>rw [any_at hi hp] at h;cases h
instance ContainsFuncB_c:Con 218 (∀ (l:List Blok) (lens:List Int) (n:Int),l.length≤1099511627776∧SmB 1099511627776 l∧lens.length≤1099511627776→Fn 218 [BkL l,fB lens n] [] (B (l.any (badB lens n)))):=⟨fun l lens n hl=>by
 have hge:=ixF_ge (badB lens n) l
 refine FnC.of_body tabOk Tryz.func218 Tryz.ntmps218 rfl (by decide +kernel) (by simp) fun G=>?_
 refine go (r:=?_);and_intros<;>intros<;>try exact True.intro
 all_goals first|exact hl.2.1|(rw [Bool.eq_iff_iff,←hge];simp)⟩
def sz8 (e:Bool):Int:=bif e then 8 else 4
def nm8 (e:Bool):Int:=bif e then 1 else 4
theorem sz8_cases (e:Bool):(sz8 e=4∧nm8 e=4)∨(sz8 e=8∧nm8 e=1):=by cases e<;>simp [sz8,nm8]
instance l23Side_s:Con 86 (∀ e:Bool,Fn 86 [B e] [] (I (sz8 e))):=⟨fun e=>by
 cases e
 ·refine FnC.of_body tabOk Tryz.func86 Tryz.ntmps86 rfl (by decide +kernel) (by simp) fun G=>?_
  refine go (r:=?_);and_intros<;>intros<;>try exact True.intro
  all_goals rfl
 ·refine FnC.of_body tabOk Tryz.func86 Tryz.ntmps86 rfl (by decide +kernel) (by simp) fun G=>?_
  refine go (r:=?_);and_intros<;>intros<;>try exact True.intro
  all_goals rfl⟩
instance shape_c:Con 192 (∀ e:Bool,Fn 192 [B e] [] (.tup [I (nm8 e),I (sz8 e)])):=⟨fun e=>by
 cases e
 ·refine FnC.of_body tabOk Tryz.func192 Tryz.ntmps192 rfl (by decide +kernel) (by simp) fun G=>?_
  refine go (r:=?_);and_intros<;>intros<;>try exact True.intro
  all_goals rfl
 ·refine FnC.of_body tabOk Tryz.func192 Tryz.ntmps192 rfl (by decide +kernel) (by simp) fun G=>?_
  refine go (r:=?_);and_intros<;>intros<;>try exact True.intro
  all_goals rfl⟩
abbrev MbkOk (e:Bool) (bs:List Blok) (lens:List Int):Prop:=(bs.length:Int)=nm8 e∧bs.any (badB lens (sz8 e))=false
instance MbOk_s:Con 78 (∀ (e:Bool) (bs:List Blok) (lens:List Int),bs.length≤1099511627776∧SmB 1099511627776 bs∧lens.length≤1099511627776→Fn 78 [.agg [B e,BkL bs],IL lens] [] (B (decide (MbkOk e bs lens)))):=⟨fun e bs lens hl=>by
 have hc:=sz8_cases e
 refine FnC.of_body tabOk Tryz.func78 Tryz.ntmps78 rfl (by decide +kernel) (by simp) fun G=>?_
 refine go (r:=?_);and_intros<;>intros<;>try exact True.intro
 refine WpA.loop (fun k:Nat=>⟨[(1,IL lens),(2,.ptr 0 0 0),(5,I (sz8 e)),(6,I k)],[⟨[B e,BkL bs],0,0,none⟩]⟩) (fun k=>k≤bs.length∧∀j<k,badB lens (sz8 e) (bs.getD j default)=false) (fun k=>bs.length-k) 0 (by simp) (go (r:=?_)) (fun k hk=>?_)
 ·trivial
 have hg:=fun h=>smB_get hl.2.1 (k:=k) h
 have hnn:sz8 e*sz8 e=16∨sz8 e*sz8 e=64:=by rcases hc with ⟨h,_⟩|⟨h,_⟩<;>rw [h]<;>decide
 have hq:64/(sz8 e*sz8 e)=nm8 e:=by rcases hc with ⟨h,h2⟩|⟨h,h2⟩<;>rw [h,h2]<;>decide
 refine go (r:=?_);and_intros<;>intros<;>try exact True.intro
 ·have:bs.any (badB lens (sz8 e))=true:=any_at (i:=k) (by omega) (by unfold badB;exact decide_eq_true ‹_›)
  simp [this]
 ·rename_i j hj;by_cases h:j=k
  ·subst h;unfold badB;exact decide_eq_false (fun hh=>hh ‹BlkOk _ _ _ _›)
  ·exact hk.2 j (by omega)
 all_goals have e2:k=bs.length:=by omega
 all_goals subst e2
 have:=any_none (p:=badB lens (sz8 e)) hk.2
 rw [hq];simp [this]⟩
instance MbOk_c:Con 148 (∀ (e:Bool) (bs:List Blok) (lens:List Int),bs.length≤1099511627776∧SmB 1099511627776 bs∧lens.length≤1099511627776→Fn 148 [.agg [B e,BkL bs],IL lens] [] (B (decide (MbkOk e bs lens)))):=⟨fun e bs lens hl=>by
 have hc:=sz8_cases e
 refine FnC.of_body tabOk Tryz.func148 Tryz.ntmps148 rfl (by decide +kernel) (by simp) fun G=>?_
 refine go (r:=?_);and_intros<;>intros<;>try exact True.intro
 all_goals simp_all⟩
def badM (lens:List Int) (m:Mbk):Bool:=decide (¬ MbkOk m.1 m.2 lens)
abbrev StC (w h q:Int) (b d:Bool) (l:List Int) (M:List Mbk):List AV:=[I w,I h,I q,B b,B d,IL l,MbL M]
abbrev fM (w h q:Int) (b d:Bool) (l:List Int) (M:List Mbk):AV:=.fn 147 [.iptr (StC w h q b d l M) 0]
instance StreamOk1_c:Con 147 (∀ (e:Bool) (bs:List Blok) (w h q:Int) (b d:Bool) (l:List Int) (M:List Mbk),bs.length≤1099511627776∧SmB 1099511627776 bs∧l.length≤1099511627776→Fn 147 [.agg [B e,BkL bs],.iptr (StC w h q b d l M) 0] [] (B (badM l (e,bs)))):=⟨fun e bs w h q b d l M hl=>by
 unfold badM
 refine FnC.of_body tabOk Tryz.func147 Tryz.ntmps147 rfl (by decide +kernel) (by simp) fun G=>?_
 refine go (r:=?_);and_intros<;>intros<;>try exact True.intro
 all_goals simp_all⟩
instance IndexFuncM_c:Con 217 (∀ (w h q:Int) (b d:Bool) (l:List Int) (M N:List Mbk),N.length≤1099511627776∧SmM 1099511627776 N∧l.length≤1099511627776→Fn 217 [MbL N,fM w h q b d l M] [] (I (ixF (badM l) N))):=⟨fun w h q b d l M N hl=>by
 refine FnC.of_body tabOk Tryz.func217 Tryz.ntmps217 rfl (by decide +kernel) (by simp) fun G=>?_
 refine go (r:=?_);and_intros<;>intros<;>try exact True.intro
 refine WpA.loop (fun k:Nat=>⟨[(0,MbL N),(1,fM w h q b d l M),(7,I N.length),(8,I k)],[]⟩) (fun k=>k≤N.length∧∀j<k,badM l (N.getD j default)=false) (fun k=>N.length-k) 0 (by simp) (go (r:=?_)) (fun k hk=>?_)
 ·trivial
 have hg:=fun h=>(smM_get hl.2.1 (k:=k) h).1
 have hg2:=fun h=>(smM_get hl.2.1 (k:=k) h).2
 refine go (r:=?_);and_intros<;>intros<;>try exact True.intro
 all_goals first|exact hg2 (by omega)|skip
 ·exact ixF_at (by omega) hk.2 (by unfold badM;exact decide_eq_true ‹_›)
 ·rename_i j hj;by_cases h:j=k
  ·subst h;unfold badM;exact decide_eq_false ‹_›
  ·exact hk.2 j (by omega)
 all_goals (have e:k=N.length:=by omega);subst e;exact ixF_no hk.2⟩
instance ContainsFuncM_c:Con 146 (∀ (w h q:Int) (b d:Bool) (l:List Int) (M N:List Mbk),N.length≤1099511627776∧SmM 1099511627776 N∧l.length≤1099511627776→Fn 146 [MbL N,fM w h q b d l M] [] (B (N.any (badM l)))):=⟨fun w h q b d l M N hl=>by
 have hge:=ixF_ge (badM l) N
 refine FnC.of_body tabOk Tryz.func146 Tryz.ntmps146 rfl (by decide +kernel) (by simp) fun G=>?_
 refine go (r:=?_);and_intros<;>intros<;>try exact True.intro
 all_goals first|exact hl.2.1|(rw [Bool.eq_iff_iff,←hge];simp)⟩
abbrev StOk (w h q:Int) (l:List Int) (M:List Mbk):Prop:=HdOk w h q l∧(M.length:Int)=cntM w h∧M.any (badM l)=false
instance StreamOk_s:Con 27 (∀ (w h q:Int) (b d:Bool) (l:List Int) (M:List Mbk),l.length≤1099511627776∧M.length≤1099511627776∧SmM 1099511627776 M→Fn 27 [StA w h q b d l M] [] (B (decide (StOk w h q l M)))):=⟨fun w h q b d l M hl=>by
 refine FnC.of_body tabOk Tryz.func27 Tryz.ntmps27 rfl (by decide +kernel) (by simp) fun G=>?_
 by_cases h0:HdOk w h q l
 ·have hcb:=cntM_bd h0.1
  refine go (r:=?_);and_intros<;>intros<;>try exact True.intro
  all_goals first|(exact absurd h0 (by assumption))|skip
  refine WpA.loop (fun k:Nat=>⟨[(1,.ptr 0 0 0),(3,I k)],[⟨StC w h q b d l M,0,0,none⟩]⟩) (fun k=>k≤M.length∧∀j<k,badM l (M.getD j default)=false) (fun k=>M.length-k) 0 (by simp) (go (r:=?_)) (fun k hk=>?_)
  ·trivial
  have hg:=fun h=>(smM_get hl.2.2 (k:=k) h).1
  have hg2:=fun h=>(smM_get hl.2.2 (k:=k) h).2
  refine go (r:=?_);and_intros<;>intros<;>try exact True.intro
  ·exact hg2 (by omega)
  ·have:M.any (badM l)=true:=any_at (i:=k) (by omega) (by unfold badM;exact decide_eq_true ‹_›)
   simp [this]
  ·rename_i j hj;by_cases h:j=k
   ·subst h;unfold badM;exact decide_eq_false (fun hh=>hh ‹MbkOk _ _ _›)
   ·exact hk.2 j (by omega)
  all_goals have e2:k=M.length:=by omega
  all_goals subst e2
  have:=any_none (p:=badM l) hk.2
  simp [this,h0]
 ·refine go (r:=?_);and_intros<;>intros<;>try exact True.intro
  all_goals simp [StOk,h0]⟩
theorem Weak.eqv {m d:Nat} {V V':AV} {T:List (Nat×AV)} {O:List AObj} (h:V=V'):Weak m ⟨(d,V)::T,O⟩ ⟨(d,V')::T,O⟩:=by subst h;exact fun n G a w h=>h
instance StreamOk_c:Con 80 (∀ (w h q:Int) (b d:Bool) (l:List Int) (M:List Mbk),l.length≤1099511627776∧M.length≤1099511627776∧SmM 1099511627776 M→Fn 80 [StA w h q b d l M] [] (B (decide (StOk w h q l M)))):=⟨fun w h q b d l M hl=>by
 refine FnC.of_body tabOk Tryz.func80 Tryz.ntmps80 rfl (by decide +kernel) (by simp) fun G=>?_
 refine K.A ?_
 refine WpA.seq ?_
 refine WpA.regionF rfl ?_
 refine WpL.box rfl rfl rfl (by decide) ?_
 refine WpL.assign rfl (by decide) ?_
 refine WpL.nil ?_
 refine Abs.Seq.n ?_
 refine WpA.seq ?_
 by_cases h0:HdOk w h q l
 ·have e0:decide (HdOk w h q l)=true:=decide_eq_true h0
  by_cases h1:(M.length:Int)=cntM w h
  ·have e1:decide ((M.length:Int)=cntM w h)=true:=decide_eq_true h1
   apply WpA.regionM 16 mixed (by decide +kernel)
   ·apply HeadJ.consF rfl
    ·exact rfl
    ·exact in1
    ·exact rfl
    apply HeadJ.consF rfl
    ·exact rfl
    ·exact in1
    ·exact rfl
    apply HeadJ.consF rfl
    ·exact rfl
    ·(refine fun Tv=>?_;refine K.call ?_;refine K.con (fun hcon=>?_);refine WpL.call0 (hcon _ _ _ _ _ _ ?_) snapA locA rfl rfl (by decide) ?_;(· exact hl.1);refine WpL.weak (Weak.eqv (V':=B true) (by rw [e0])) ?_;exact WpL.nil (Only.mk rfl))
    ·exact rfl
    apply HeadJ.consF rfl
    ·exact rfl
    ·exact in1
    ·exact rfl
    apply HeadJ.consF rfl
    ·exact rfl
    ·(refine fun Tv=>?_;refine K.gT rfl (by decide) rfl ?_;exact in1)
    ·exact rfl
    apply HeadJ.consF rfl
    ·exact rfl
    ·(refine fun Tv=>?_;refine K.gT rfl (by decide) rfl ?_;exact in1)
    ·exact rfl
    apply HeadJ.consF rfl
    ·exact rfl
    ·(refine fun Tv=>?_;refine K.gT rfl (by decide) rfl ?_;exact in1)
    ·exact rfl
    apply HeadJ.consF rfl
    ·exact rfl
    ·(refine fun Tv=>?_;refine K.gT rfl (by decide) rfl ?_;exact in1)
    ·exact rfl
    apply HeadJ.consF rfl
    ·exact rfl
    ·(refine fun Tv=>?_;refine K.gT rfl (by decide) rfl ?_;exact in1)
    ·exact rfl
    apply HeadJ.consF rfl
    ·exact rfl
    ·(refine fun Tv=>?_;refine K.gT rfl (by decide) rfl ?_;refine K.call ?_;refine K.con (fun hcon=>?_);refine WpL.call0 (hcon _ _ _ _ _ _ h0.1) snapA locA rfl rfl (by decide) ?_;exact WpL.nil (Only.mk rfl))
    ·exact rfl
    apply HeadJ.consF rfl
    ·exact rfl
    ·(refine fun Tv=>?_;refine K.gT rfl (by decide) rfl ?_;refine WpL.bin rfl rfl rfl (by decide) ?_;refine WpL.weak (Weak.eqv (V':=B true) (by simp only [e1])) ?_;exact WpL.nil (Only.mk rfl))
    ·exact rfl
    apply HeadJ.consF rfl
    ·exact rfl
    ·exact in1
    ·exact rfl
    apply HeadJ.consF rfl
    ·exact rfl
    ·exact in1
    ·exact rfl
    apply HeadJ.consF rfl
    ·exact rfl
    ·(refine fun Tv=>?_;refine K.gT rfl (by decide) rfl ?_;exact in1)
    ·exact rfl
    apply HeadJ.consF rfl
    ·exact rfl
    ·(refine fun Tv=>?_;refine K.gT rfl (by decide) rfl ?_;exact in1)
    ·exact rfl
    apply HeadJ.consF rfl
    ·exact rfl
    ·(refine fun Tv=>?_;refine K.gT rfl (by decide) rfl ?_;refine WpL.makeFunc (cs:=[.ptr 0 0 0]) rfl (by decide) ?_;exact WpL.nil (Only.mk rfl))
    ·exact rfl
    exact HeadJ.nil
   ·kernel_rfl
   ·kernel_rfl
   ·exact rfl
   refine go (r:=?_);and_intros<;>intros<;>try exact True.intro
   all_goals first|exact hl.2.2|(simp [StOk,h0,h1];done)
  ·have e1:decide ((M.length:Int)=cntM w h)=false:=decide_eq_false h1
   apply WpA.regionM 16 mixed (by decide +kernel)
   ·apply HeadJ.consF rfl
    ·exact rfl
    ·exact in1
    ·exact rfl
    apply HeadJ.consF rfl
    ·exact rfl
    ·exact in1
    ·exact rfl
    apply HeadJ.consF rfl
    ·exact rfl
    ·(refine fun Tv=>?_;refine K.call ?_;refine K.con (fun hcon=>?_);refine WpL.call0 (hcon _ _ _ _ _ _ ?_) snapA locA rfl rfl (by decide) ?_;(· exact hl.1);refine WpL.weak (Weak.eqv (V':=B true) (by rw [e0])) ?_;exact WpL.nil (Only.mk rfl))
    ·exact rfl
    apply HeadJ.consF rfl
    ·exact rfl
    ·exact in1
    ·exact rfl
    apply HeadJ.consF rfl
    ·exact rfl
    ·(refine fun Tv=>?_;refine K.gT rfl (by decide) rfl ?_;exact in1)
    ·exact rfl
    apply HeadJ.consF rfl
    ·exact rfl
    ·(refine fun Tv=>?_;refine K.gT rfl (by decide) rfl ?_;exact in1)
    ·exact rfl
    apply HeadJ.consF rfl
    ·exact rfl
    ·(refine fun Tv=>?_;refine K.gT rfl (by decide) rfl ?_;exact in1)
    ·exact rfl
    apply HeadJ.consF rfl
    ·exact rfl
    ·(refine fun Tv=>?_;refine K.gT rfl (by decide) rfl ?_;exact in1)
    ·exact rfl
    apply HeadJ.consF rfl
    ·exact rfl
    ·(refine fun Tv=>?_;refine K.gT rfl (by decide) rfl ?_;exact in1)
    ·exact rfl
    apply HeadJ.consF rfl
    ·exact rfl
    ·(refine fun Tv=>?_;refine K.gT rfl (by decide) rfl ?_;refine K.call ?_;refine K.con (fun hcon=>?_);refine WpL.call0 (hcon _ _ _ _ _ _ h0.1) snapA locA rfl rfl (by decide) ?_;exact WpL.nil (Only.mk rfl))
    ·exact rfl
    apply HeadJ.consF rfl
    ·exact rfl
    ·(refine fun Tv=>?_;refine K.gT rfl (by decide) rfl ?_;refine WpL.bin rfl rfl rfl (by decide) ?_;refine WpL.weak (Weak.eqv (V':=B false) (by simp only [e1])) ?_;exact WpL.nil (Only.mk rfl))
    ·exact rfl
    apply HeadJ.consF rfl
    ·exact rfl
    ·exact in1
    ·exact rfl
    apply HeadJ.consF rfl
    ·exact rfl
    ·exact in1
    ·exact rfl
    apply HeadJ.consF rfl
    ·exact rfl
    ·(refine fun Tv=>?_;refine K.gF rfl (by decide) rfl ?_;exact WpL.nil (Only.mk rfl))
    ·exact rfl
    apply HeadJ.consF rfl
    ·exact rfl
    ·(refine fun Tv=>?_;refine K.gF rfl (by decide) rfl ?_;exact WpL.nil (Only.mk rfl))
    ·exact rfl
    apply HeadJ.consF rfl
    ·exact rfl
    ·(refine fun Tv=>?_;refine K.gF rfl (by decide) rfl ?_;exact WpL.nil (Only.mk rfl))
    ·exact rfl
    exact HeadJ.nil
   ·kernel_rfl
   ·kernel_rfl
   ·exact rfl
   refine go (r:=?_);and_intros<;>intros<;>try exact True.intro
   all_goals simp [StOk,h1]
 ·have e0:decide (HdOk w h q l)=false:=decide_eq_false h0
  apply WpA.regionM 16 mixed (by decide +kernel)
  ·apply HeadJ.consF rfl
   ·exact rfl
   ·exact in1
   ·exact rfl
   apply HeadJ.consF rfl
   ·exact rfl
   ·exact in1
   ·exact rfl
   apply HeadJ.consF rfl
   ·exact rfl
   ·(refine fun Tv=>?_;refine K.call ?_;refine K.con (fun hcon=>?_);refine WpL.call0 (hcon _ _ _ _ _ _ ?_) snapA locA rfl rfl (by decide) ?_;(· exact hl.1);refine WpL.weak (Weak.eqv (V':=B false) (by rw [e0])) ?_;exact WpL.nil (Only.mk rfl))
   ·exact rfl
   apply HeadJ.consF rfl
   ·exact rfl
   ·exact in1
   ·exact rfl
   apply HeadJ.consF rfl
   ·exact rfl
   ·(refine fun Tv=>?_;refine K.gF rfl (by decide) rfl ?_;exact WpL.nil (Only.mk rfl))
   ·exact rfl
   apply HeadJ.consF rfl
   ·exact rfl
   ·(refine fun Tv=>?_;refine K.gF rfl (by decide) rfl ?_;exact WpL.nil (Only.mk rfl))
   ·exact rfl
   apply HeadJ.consF rfl
   ·exact rfl
   ·(refine fun Tv=>?_;refine K.gF rfl (by decide) rfl ?_;exact WpL.nil (Only.mk rfl))
   ·exact rfl
   apply HeadJ.consF rfl
   ·exact rfl
   ·(refine fun Tv=>?_;refine K.gF rfl (by decide) rfl ?_;exact WpL.nil (Only.mk rfl))
   ·exact rfl
   apply HeadJ.consF rfl
   ·exact rfl
   ·(refine fun Tv=>?_;refine K.gF rfl (by decide) rfl ?_;exact WpL.nil (Only.mk rfl))
   ·exact rfl
   apply HeadJ.consF rfl
   ·exact rfl
   ·(refine fun Tv=>?_;refine K.gF rfl (by decide) rfl ?_;exact WpL.nil (Only.mk rfl))
   ·exact rfl
   apply HeadJ.consF rfl
   ·exact rfl
   ·(refine fun Tv=>?_;refine K.gF rfl (by decide) rfl ?_;exact WpL.nil (Only.mk rfl))
   ·exact rfl
   apply HeadJ.consF rfl
   ·exact rfl
   ·exact in1
   ·exact rfl
   apply HeadJ.consF rfl
   ·exact rfl
   ·exact in1
   ·exact rfl
   apply HeadJ.consF rfl
   ·exact rfl
   ·(refine fun Tv=>?_;refine K.gF rfl (by decide) rfl ?_;exact WpL.nil (Only.mk rfl))
   ·exact rfl
   apply HeadJ.consF rfl
   ·exact rfl
   ·(refine fun Tv=>?_;refine K.gF rfl (by decide) rfl ?_;exact WpL.nil (Only.mk rfl))
   ·exact rfl
   apply HeadJ.consF rfl
   ·exact rfl
   ·(refine fun Tv=>?_;refine K.gF rfl (by decide) rfl ?_;exact WpL.nil (Only.mk rfl))
   ·exact rfl
   exact HeadJ.nil
  ·kernel_rfl
  ·kernel_rfl
  ·exact rfl
  refine go (r:=?_);and_intros<;>intros<;>try exact True.intro
  all_goals simp [StOk,h0]⟩
def pk (l:List Int):Nat→List (Int×Int)×Int
 |0=>([],0)
 |k+1=>if l.getD k 0=0 then ((pk l k).1,(pk l k).2+1) else ((pk l k).1++[((pk l k).2,l.getD k 0)],0)
def prsL (l:List Int):List (Int×Int):=if LvOk l then (pk l l.length).1 else []
theorem pk_bd (l:List Int):∀k,(pk l k).1.length≤k∧0≤(pk l k).2∧(pk l k).2≤k
 |0=>by simp [pk]
 |k+1=>by have:=pk_bd l k;rw [pk];split<;>simp<;>omega
abbrev XP (l:List (Int×Int)):AObj:=⟨rows prF l,0,2,some 221⟩
instance PairsOf_s:Con 280 (∀ l:List Int,l.length≤1099511627776→Fn 280 [IL l] [XP (prsL l)] (.own 0 0 0 (prsL l).length)):=⟨fun l hl=>by
 refine FnC.of_body tabOk Tryz.func280 Tryz.ntmps280 rfl (by decide +kernel) (by simp) fun G=>?_
 by_cases h:LvOk l
 ·refine go (r:=?_);and_intros<;>intros<;>try exact True.intro
  refine WpA.loop (fun k:Nat=>⟨[(0,IL l),(3,.own 0 0 0 (pk l k).1.length),(4,I (pk l k).2),(5,I k)],[XP (pk l k).1]⟩) (fun k=>k≤l.length) (fun k=>l.length-k) 0 (by simp) (go (r:=?_)) (fun k hk=>?_)
  ·simp [pk]
  have hb:=pk_bd l k
  have hend:k=l.length→(pk l k).1=prsL l:=by rintro rfl;rw [prsL,if_pos h]
  by_cases hz:l.getD k 0=0
  ·have e1:pk l (k+1)=((pk l k).1,(pk l k).2+1):=by rw [pk,if_pos hz]
   have e2:(pk l (k+1)).1.length=(pk l k).1.length:=by rw [e1]
   refine go (r:=?_);and_intros<;>intros<;>try exact True.intro
   all_goals first|(rw [e1];done)|(rw [hend (by omega)];done)
  ·have e1:pk l (k+1)=((pk l k).1++[((pk l k).2,l.getD k 0)],0):=by rw [pk,if_neg hz]
   have e2:(pk l (k+1)).1.length=(pk l k).1.length+1:=by rw [e1,List.length_append,List.length_singleton]
   refine go (r:=?_);and_intros<;>intros<;>try exact True.intro
   all_goals first|(rw [e1];done)|(rw [e1];rfl)|(rw [hend (by omega)];done)
 ·have e:prsL l=[]:=by rw [prsL,if_neg h]
  refine go (r:=?_);and_intros<;>intros<;>try exact True.intro
  refine WpA.loop (fun k:Nat=>⟨[(0,IL l),(3,.own 0 0 0 0),(4,I 0),(5,I 0)],[XP []]⟩) (fun k=>k≤0) (fun k=>0) 0 (by omega) (go (r:=?_)) (fun k hk=>?_)
  ·first|trivial|(refine ⟨?_,?_⟩<;>trivial)|skip
  refine go (r:=?_);and_intros<;>intros<;>try exact True.intro
  all_goals first|(rw [e];done)|(rw [e];rfl)⟩
theorem ok_blk {w h q:Int} {l:List Int} {M:List Mbk} (hs:StOk w h q l M) {i:Nat} (hi:i<M.length):MbkOk (M.getD i default).1 (M.getD i default).2 l:=by
 have:=any_get hs.2.2 hi
 unfold badM at this
 exact Decidable.not_not.1 (of_decide_eq_false this)
theorem ok_lv {e:Bool} {bs:List Blok} {l:List Int} (hs:MbkOk e bs l) {k:Nat} (hk:k<bs.length):BlkOk (bs.getD k default).1 (bs.getD k default).2 l (sz8 e):=by
 have:=any_get hs.2 hk
 unfold badB at this
 exact Decidable.not_not.1 (of_decide_eq_false this)
end Go.Proofs.YtainhhfnnclfiaaGreat


namespace Go.Proofs.YtainhhfnnclfiaaGreat
open Go Go.Abs
attribute [local irreducible] WpA WpL Rnd Blk Abs.Seq Abs.Fin Abs.FinG FnC FnG Only
instance FrameNew_c:Con 132 (∀ W H:Int,SidesOk W H→Fn 132 [I W,I H] [XI (List.replicate (W*H).toNat 0)] (FrOwn 0 W H (W*H).toNat)):=⟨fun W H h=>by
 have h1:8*8≤W*H:=Int.mul_le_mul h.1 h.2.2.1 (by omega) (by have:=h.1;omega)
 have h2:W*H≤32*32:=Int.mul_le_mul h.2.1 h.2.2.2.1 (by have:=h.2.2.1;omega) (by omega)
 refine FnC.of_body tabOk Tryz.func132 Tryz.ntmps132 rfl (by decide +kernel) (by simp) fun G=>?_
 refine go (r:=?_);and_intros<;>intros<;>try exact True.intro
 all_goals first|contradiction⟩
def plc1 (w n:Int) (k i:Nat):Int×Int×Int:=((k:Int)%(w/8)*8+(i:Int)%2*4,(k:Int)/(w/8)*8+(i:Int)/2*4,n)
def plsL (w n:Int) (k:Nat) (many:Nat):List (Int×Int×Int):=(List.range many).map (plc1 w n k)
theorem plsL_len (w n:Int) (k many:Nat):(plsL w n k many).length=many:=by simp [plsL]
theorem plsL_snoc (w n:Int) (k many:Nat):plsL w n k (many+1)=plsL w n k many++[plc1 w n k many]:=by simp [plsL,List.range_succ]
abbrev manyE (e:Bool):Nat:=cond e 1 4
instance placesOf_c:Con 134 (∀ (w h q:Int) (b d:Bool) (lens:List Int) (k:Nat) (e:Bool),8≤w∧w≤1024∧k≤1048576→Fn 134 [HdA w h q b d lens,I k,B e] [⟨rows plF (plsL w (sz8 e) k (manyE e)),0,3,some 149⟩] (.own 0 0 0 (manyE e))):=⟨fun w h q b d lens k e hh=>by
 have hw8:1≤w/8∧w/8≤128:=by omega
 have hr0:0≤(k:Int)%(w/8)∧(k:Int)%(w/8)≤1048576:=⟨Int.emod_nonneg _ (by omega),by have:=Int.emod_lt_of_pos (k:Int) (show 0<w/8 by omega);omega⟩
 have hq0:0≤(k:Int)/(w/8)∧(k:Int)/(w/8)≤1048576:=⟨Int.ediv_nonneg (by omega) (by omega),by have:=Int.ediv_le_self (w/8) (show 0≤(k:Int) by omega);omega⟩
 refine FnC.of_body tabOk Tryz.func134 Tryz.ntmps134 rfl (by decide +kernel) (by simp) fun G=>?_
 refine go (r:=?_);and_intros<;>intros<;>try exact True.intro
 all_goals first|contradiction|omega|skip
 refine WpA.loop (fun i:Nat=>⟨[(1,I k),(3,.ptr 0 0 0),(8,I (sz8 e)),(9,.own 1 0 0 i),(17,I (nm8 e)),(18,I i)],[⟨[I w,I h,I q,B b,B d,IL lens],0,0,none⟩,⟨rows plF (plsL w (sz8 e) k i),0,3,some 149⟩]⟩) (fun i=>i≤manyE e) (fun i=>manyE e-i) 0 (Nat.zero_le _) (go (r:=?_)) (fun i hi=>?_)
 ·and_intros<;>first|exact True.intro|rfl
 have hlen:=plsL_len w (sz8 e) k i
 have hsn:=plsL_snoc w (sz8 e) k i
 have hmn:nm8 e=(manyE e:Nat):=by cases e<;>rfl
 have hm4:manyE e≤4:=by cases e<;>decide
 by_cases hlt:i<manyE e
 ·refine go (r:=?_);and_intros<;>intros<;>try exact True.intro
  all_goals first|contradiction|omega|(rw [hsn];cases e<;>rfl)
 ·obtain rfl:i=manyE e:=by omega
  refine go (r:=?_);and_intros<;>intros<;>try exact True.intro
  all_goals first|contradiction|omega⟩
end Go.Proofs.YtainhhfnnclfiaaGreat


namespace Go.Proofs.YtainhhfnnclfiaaGreat
open Go Go.Abs
attribute [local irreducible] WpA WpL Rnd Blk Abs.Seq Abs.Fin Abs.FinG FnC FnG Only
def endL (W H q:Int) (d:Bool) (p:List Int):List Int:=cond d (dbL W H q p) p
theorem ended1 (W H w h q:Int) (b:Bool) (lens p:List Int) (hl:p.length≤1099511627776):Fn 139 [HdA w h q b true lens,FrA W H p] [IN (dbL W H q p)] (FrOwn 0 W H p.length):=by
 have hdl:=dbL_len W H q p
 refine FnC.of_body tabOk Tryz.func139 Tryz.ntmps139 rfl (by decide +kernel) (by simp) fun G=>?_
 refine go (r:=?_);and_intros<;>intros<;>try exact True.intro
 all_goals first|contradiction|omega
theorem ended0 (W H w h q:Int) (b:Bool) (lens p:List Int):Fn 139 [HdA w h q b false lens,FrA W H p] [] (FrA W H p):=by
 refine FnC.of_body tabOk Tryz.func139 Tryz.ntmps139 rfl (by decide +kernel) (by simp) fun G=>?_
 refine go (r:=?_);and_intros<;>intros<;>try exact True.intro
 all_goals first|contradiction|omega
theorem ended_c (W H w h q:Int) (b d:Bool) (lens p:List Int) (hl:p.length≤1099511627776):Fn 139 [HdA w h q b d lens,FrA W H p] [] (FrA W H (endL W H q d p)):=by
 cases d with
 |false=>exact ended0 W H w h q b lens p
 |true=>exact FnC.still (ended1 W H w h q b lens p hl) (.agg (.keep rfl rfl (.keep rfl rfl (.own rfl rfl rfl (by simp [dbL_len]) (dbL_len W H q p).symm (Snap.same rfl (still_ints _) (nofre_ints _)) .nil))) .nil)
def bldB (W H q:Int) (b:Bool) (n:Int) (k:Nat) (bs:List Blok) (p:List Int):Nat→List Int
 |0=>p
 |i+1=>putL W H (bldB W H q b n k bs p i) q b (plc1 W n k i).1 (plc1 W n k i).2.1 (bs.getD i default).1 (bs.getD i default).2
def bldM (W H q:Int) (b:Bool) (M:List Mbk) (p:List Int):Nat→List Int
 |0=>p
 |k+1=>bldB W H q b (sz8 (M.getD k default).1) k (M.getD k default).2 (bldM W H q b M p k) (manyE (M.getD k default).1)
def zerP (W H:Int):List Int:=List.replicate (W*H).toNat 0
def refL (W H q:Int) (b d:Bool) (M:List Mbk):List Int:=endL W H q d (bldM W H q b M (zerP W H) M.length)
section
attribute [local irreducible] bldB bldM putL endL
attribute [-instance] FrameNew_c placesOf_c
end
end Go.Proofs.YtainhhfnnclfiaaGreat


namespace Go.Proofs.YtainhhfnnclfiaaGreat
open Go Go.Abs
theorem par_u (b:Nat):par b=1∨par b=-1:=by unfold par;split<;>simp
theorem mul1 {a b c:Int} (ha:a=1∨a=-1) (hb:-c≤b∧b≤c):-c≤a*b∧a*b≤c:=by rcases ha with rfl|rfl<;>omega
theorem full_bd4 {l:List Int} (h:In l (-255) 255) (r k:Nat):-16383≤fullM 4 (mg 4 false) l r k∧fullM 4 (mg 4 false) l r k≤16383:=by
 have h1:∀r k,-2040≤halfM 4 (mg 4 false) l r k∧halfM 4 (mg 4 false) l r k≤2040:=fun r k=>by
  have:=half_bd (n:=4) (mg_val 4 false) (c:=255) h (by decide) r k 4
  unfold halfM;omega
 have:=sumF_bd (f:=fun i=>halfM 4 (mg 4 false) l r i*mg 4 false k i) (c:=4080) (by decide) 4 fun i _=>by
  have:=mul2 (mg_val 4 false k i) (h1 r i) (by decide)
  rw [Int.mul_comm];omega
 unfold fullM;omega
theorem full_bd8 {l:List Int} (h:In l (-255) 255) (r k:Nat):-16383≤fullM 8 (mg 8 false) l r k∧fullM 8 (mg 8 false) l r k≤16383:=by
 have hg:∀r i,mg 8 false r i=1∨mg 8 false r i=-1:=fun r i=>par_u _
 have h1:∀r k,-2040≤halfM 8 (mg 8 false) l r k∧halfM 8 (mg 8 false) l r k≤2040:=fun r k=>by
  have:=sumF_bd (f:=fun i=>mg 8 false r i*l.getD (i*8+k) 0) (c:=255) (by decide) 8 fun i _=>mul1 (hg r i) (in_getZ h (by decide) _)
  unfold halfM;omega
 have:=sumF_bd (f:=fun i=>halfM 8 (mg 8 false) l r i*mg 8 false k i) (c:=2040) (by decide) 8 fun i _=>by
  rw [Int.mul_comm];exact mul1 (hg k i) (h1 r i)
 unfold fullM;omega
theorem scn_in {l:List Int} {c:Int} (h:In l (-c) c) (hc:0≤c):In (scnL l) (-c) c:=by
 unfold In scnL
 intro x hx
 obtain ⟨p,_,rfl⟩:=List.mem_map.1 hx
 exact in_getZ h hc _
theorem in_wide {l:List Int} {a b c d:Int} (h:In l a b) (h1:c≤a) (h2:b≤d):In l c d:=by
 unfold In at h ⊢
 exact fun x hx=>by have:=h x hx;omega
theorem in_tab {f:Nat→Int} {N:Nat} {a b:Int} (h:∀i,i<N→a≤f i∧f i≤b):In (tabL f N) a b:=by
 unfold In tabL
 intro x hx
 obtain ⟨i,hi,rfl⟩:=List.mem_map.1 hx
 exact h i (List.mem_range.1 hi)
theorem scn_ok {l:List Int} (h:l.length=16∨l.length=64) (hi:In l (-16383) 16383):LvOk (scnL l):=by
 refine ⟨scn_in hi (by decide),?_⟩
 rw [scnL_len,(scan_facts h).1];exact h
theorem tr_small {r:List Int} {n:Int} (hs:side r.length=n) (h:r.length=16∨r.length=64) (hr:In r (-255) 255):trL n false r=mulM n.toNat (mg n.toNat false) r∧(trL n false r).length=r.length∧In (trL n false r) (-16383) 16383:=by
 have hf:FitM r:=in_wide hr (by decide) (by decide)
 rcases h with e|e
 ·have:n=4:=by rw [←hs,e];rfl
  subst this
  have e1:trL 4 false r=mulM 4 (mg 4 false) r:=trL_yes (.inl rfl) ⟨hf,by omega⟩
  refine ⟨e1,?_,?_⟩
  ·rw [e1,e];exact tabL_len _ _
  ·rw [e1];exact in_tab fun i _=>full_bd4 hr _ _
 ·have:n=8:=by rw [←hs,e];rfl
  subst this
  have e1:trL 8 false r=mulM 8 (mg 8 false) r:=trL_yes (.inr rfl) ⟨hf,by omega⟩
  refine ⟨e1,?_,?_⟩
  ·rw [e1,e];exact tabL_len _ _
  ·rw [e1];exact in_tab fun i _=>full_bd8 hr _ _
theorem lev_ok {b:Bool} {q:Int} {l r:List Int} (ho:OptOk q l) (h:r.length=16∨r.length=64) (hr:In r (-255) 255):LvOk (levL b q l r):=by
 have hf:FitM r:=in_wide hr (by decide) (by decide)
 unfold levL
 rw [if_pos ⟨ho,(side_pos _).2 h,hf⟩]
 split
 ·refine scn_ok (by rw [List.length_map];exact h) ?_
  unfold In;intro x hx;obtain ⟨v,_,rfl⟩:=List.mem_map.1 hx;unfold clampL;omega
 ·obtain ⟨h1,h2,h3⟩:=tr_small (n:=side r.length) rfl h hr
  have hq:(quantL (trL (side r.length) false r) q).length=r.length:=by
   unfold quantL;rw [if_pos ⟨by rw [h2];exact (side_pos _).2 h,(stepL_pos q).2 ho.1⟩,List.length_map,h2]
  refine scn_ok (by rw [hq];exact h) ?_
  unfold quantL;rw [if_pos ⟨by rw [h2];exact (side_pos _).2 h,(stepL_pos q).2 ho.1⟩]
  unfold In;intro x hx;obtain ⟨v,_,rfl⟩:=List.mem_map.1 hx;unfold qz;omega
end Go.Proofs.YtainhhfnnclfiaaGreat


namespace Go.Proofs.YtainhhfnnclfiaaGreat
open Go Go.Abs
abbrev Chs:=Nat→List Int→List Int→List Int→Int→Bool→Bool→Int→Int
def chM (W H:Int) (F:List Int) (ch:Chs) (c:Nat) (P:List Int) (x y n:Int):Int:=ch c (blkL W H F x y n) (topL W H P x y n) (lefL W H P x y n) (corL W H P x y n) (hasT W H P x y n) (hasE W H P x y n) n
def chV (W H:Int) (F:List Int) (q:Int) (b:Bool) (L P:List Int) (x y n m:Int):List Int:=levL b q L (resS (blkL W H F x y n) (nbP W H P x y n m))
structure EncA where
 W:Int
 H:Int
 q:Int
 b:Bool
 L:List Int
 F:List Int
 ch:Chs
def encB (a:EncA) (e:Bool) (k c:Nat) (P:List Int):Nat→List Blok×List Int
 |0=>([],P)
 |i+1=>
  ((encB a e k c P i).1++[(chM a.W a.H a.F a.ch (c+i) (encB a e k c P i).2 (plc1 a.W (sz8 e) k i).1 (plc1 a.W (sz8 e) k i).2.1 (sz8 e),
   chV a.W a.H a.F a.q a.b a.L (encB a e k c P i).2 (plc1 a.W (sz8 e) k i).1 (plc1 a.W (sz8 e) k i).2.1 (sz8 e) (chM a.W a.H a.F a.ch (c+i) (encB a e k c P i).2 (plc1 a.W (sz8 e) k i).1 (plc1 a.W (sz8 e) k i).2.1 (sz8 e)))],
   putL a.W a.H (encB a e k c P i).2 a.q a.b (plc1 a.W (sz8 e) k i).1 (plc1 a.W (sz8 e) k i).2.1 (chM a.W a.H a.F a.ch (c+i) (encB a e k c P i).2 (plc1 a.W (sz8 e) k i).1 (plc1 a.W (sz8 e) k i).2.1 (sz8 e))
    (chV a.W a.H a.F a.q a.b a.L (encB a e k c P i).2 (plc1 a.W (sz8 e) k i).1 (plc1 a.W (sz8 e) k i).2.1 (sz8 e) (chM a.W a.H a.F a.ch (c+i) (encB a e k c P i).2 (plc1 a.W (sz8 e) k i).1 (plc1 a.W (sz8 e) k i).2.1 (sz8 e))))
def encM (a:EncA) (E:Nat→Bool) (P:List Int):Nat→List Mbk×List Int×Nat
 |0=>([],P,0)
 |k+1=>
  ((encM a E P k).1++[(E k,(encB a (E k) k (encM a E P k).2.2 (encM a E P k).2.1 (manyE (E k))).1)],
   (encB a (E k) k (encM a E P k).2.2 (encM a E P k).2.1 (manyE (E k))).2,(encM a E P k).2.2+manyE (E k))
theorem encB_len (a:EncA) (e:Bool) (k c:Nat) (P:List Int):∀i,(encB a e k c P i).1.length=i
 |0=>rfl
 |i+1=>by rw [encB];simp [encB_len a e k c P i]
theorem encB_plen (a:EncA) (e:Bool) (k c:Nat) (P:List Int):∀i,(encB a e k c P i).2.length=P.length
 |0=>rfl
 |i+1=>by rw [encB];exact (putL_len ..).trans (encB_plen a e k c P i)
theorem encM_len (a:EncA) (E:Nat→Bool) (P:List Int):∀k,(encM a E P k).1.length=k
 |0=>rfl
 |k+1=>by rw [encM];simp [encM_len a E P k]
theorem encM_plen (a:EncA) (E:Nat→Bool) (P:List Int):∀k,(encM a E P k).2.1.length=P.length
 |0=>rfl
 |k+1=>by rw [encM];exact (encB_plen ..).trans (encM_plen a E P k)
theorem encM_cnt (a:EncA) (E:Nat→Bool) (P:List Int):∀k,(encM a E P k).2.2≤4*k
 |0=>Nat.le_refl _
 |k+1=>by
  have:=encM_cnt a E P k
  rw [encM]
  show _+manyE (E k)≤_
  cases E k<;>simp [manyE]<;>omega
theorem encB_ok {a:EncA} {e:Bool} {k c:Nat} {P:List Int} (h:FrameOk a.W a.H P):∀i,FrameOk a.W a.H (encB a e k c P i).2
 |0=>h
 |i+1=>by rw [encB];exact putL_ok (encB_ok h i)
theorem encM_ok {a:EncA} {E:Nat→Bool} {P:List Int} (h:FrameOk a.W a.H P):∀k,FrameOk a.W a.H (encM a E P k).2.1
 |0=>h
 |k+1=>by rw [encM];exact encB_ok (encM_ok h k) _
theorem getD_app1 {α} {l r:List α} {i:Nat} {d:α} (h:i<l.length):(l++r).getD i d=l.getD i d:=by
 rw [List.getD_eq_getElem?_getD,List.getD_eq_getElem?_getD,List.getElem?_append_left h]
theorem getD_app2 {α} {l:List α} {x d:α}:(l++[x]).getD l.length d=x:=by
 rw [List.getD_eq_getElem?_getD,List.getElem?_append_right (Nat.le_refl _)];simp
theorem bldB_app (W H q:Int) (b:Bool) (n:Int) (k:Nat) (bs cs:List Blok) (p:List Int):∀i,i≤bs.length→bldB W H q b n k (bs++cs) p i=bldB W H q b n k bs p i
 |0,_=>rfl
 |i+1,h=>by rw [bldB,bldB,bldB_app W H q b n k bs cs p i (by omega),getD_app1 (by omega)]
theorem bldM_app (W H q:Int) (b:Bool) (M N:List Mbk) (p:List Int):∀k,k≤M.length→bldM W H q b (M++N) p k=bldM W H q b M p k
 |0,_=>rfl
 |k+1,h=>by rw [bldM,bldM,bldM_app W H q b M N p k (by omega),getD_app1 (by omega)]
theorem encB_bld (a:EncA) (e:Bool) (k c:Nat) (P:List Int):∀i,bldB a.W a.H a.q a.b (sz8 e) k (encB a e k c P i).1 P i=(encB a e k c P i).2
 |0=>rfl
 |i+1=>by
  have hl:=encB_len a e k c P i
  have ih:=encB_bld a e k c P i
  rw [bldB,encB]
  simp only
  rw [bldB_app _ _ _ _ _ _ _ _ _ i (by omega),ih]
  have:∀x:Blok,((encB a e k c P i).1++[x]).getD i default=x:=fun x=>by
   have:=getD_app2 (l:=(encB a e k c P i).1) (x:=x) (d:=default);rw [hl] at this;exact this
  rw [this]
theorem encM_bld (a:EncA) (E:Nat→Bool) (P:List Int):∀k,bldM a.W a.H a.q a.b (encM a E P k).1 P k=(encM a E P k).2.1
 |0=>rfl
 |k+1=>by
  have hl:=encM_len a E P k
  have ih:=encM_bld a E P k
  rw [bldM,encM]
  simp only
  rw [bldM_app _ _ _ _ _ _ _ k (by omega),ih]
  have:∀x:Mbk,((encM a E P k).1++[x]).getD k default=x:=fun x=>by
   have:=getD_app2 (l:=(encM a E P k).1) (x:=x) (d:=default);rw [hl] at this;exact this
  rw [this]
  exact encB_bld ..
theorem plc_fit {W H:Int} (h:SidesOk W H) {e:Bool} {k i:Nat} (hk:(k:Int)<cntM W H) (hi:i<manyE e):0≤(plc1 W (sz8 e) k i).1∧(plc1 W (sz8 e) k i).1≤W-sz8 e∧0≤(plc1 W (sz8 e) k i).2.1∧(plc1 W (sz8 e) k i).2.1≤H-sz8 e∧(plc1 W (sz8 e) k i).1%sz8 e=0∧(plc1 W (sz8 e) k i).2.1%sz8 e=0:=by
 unfold cntM at hk
 obtain ⟨h1,h2,h3,h4,h5,h6⟩:=h
 have hw:1≤W/8:=by omega
 have a0:0≤(k:Int)%(W/8)∧(k:Int)%(W/8)<W/8:=⟨Int.emod_nonneg _ (by omega),Int.emod_lt_of_pos _ (by omega)⟩
 have a1:0≤(k:Int)/(W/8)∧(k:Int)/(W/8)<H/8:=⟨Int.ediv_nonneg (by omega) (by omega),Int.ediv_lt_of_lt_mul (by omega) (by rw [Int.mul_comm];exact hk)⟩
 unfold plc1
 generalize (k:Int)%(W/8)=u at*
 generalize (k:Int)/(W/8)=v at*
 cases e with
 |true=>
  have:i=0:=by simp [manyE] at hi;exact hi
  subst this
  simp only [sz8,cond_true]
  omega
 |false=>
  have:i<4:=hi
  simp only [sz8,cond_false]
  omega
theorem plc_fits {W H:Int} {p:List Int} (h:FrameOk W H p) {e:Bool} {k i:Nat} (hk:(k:Int)<cntM W H) (hi:i<manyE e):Fits W H p (plc1 W (sz8 e) k i).1 (plc1 W (sz8 e) k i).2.1 (sz8 e):=by
 obtain ⟨a,b,c,d,f,g⟩:=plc_fit h.1 hk hi
 exact ⟨h,by cases e<;>simp [sz8],⟨a,b⟩,⟨c,d⟩,f,g⟩
theorem blk_in {W H:Int} {p:List Int} (h:In p 0 255) (x y n:Int):In (blkL W H p x y n) 0 255:=by
 unfold blkL;split
 ·exact tab_in fun i _=>in_getZ255 h _
 ·exact in_nil 0 255
theorem res_ok {W H:Int} {F P:List Int} {x y n m:Int} (hF:Fits W H F x y n) (hP:Fits W H P x y n) (hm:0≤m∧m≤5):ResOk (blkL W H F x y n) (nbP W H P x y n m)∧(blkL W H F x y n).length=(n*n).toNat:=by
 have hb:(blkL W H F x y n).length=(n*n).toNat:=by unfold blkL;rw [if_pos hF];exact tabL_len ..
 have hp:(nbP W H P x y n m).length=n.toNat*n.toNat:=by unfold nbP;rw [predS_len,if_pos ⟨nb_ok hP,hm⟩]
 have hn:=hF.2.1
 refine ⟨⟨?_,?_,blk_in hF.1.2.2 _ _ _,predS_in ..⟩,hb⟩
 ·rw [hb];rcases hn with rfl|rfl<;>decide
 ·rw [hb,hp];rcases hn with rfl|rfl<;>decide
theorem res_in {f p:List Int}:In (resS f p) (-255) 255:=by
 unfold resS;split
 ·rename_i h
  obtain ⟨_,_,h1,h2⟩:=h
  unfold In rsK;intro v hv
  obtain ⟨i,_,rfl⟩:=List.mem_map.1 hv
  have:=in_getZ255 h1 i
  have:=in_getZ255 h2 i
  omega
 ·unfold In;intro v hv;cases hv
theorem blk_enc {W H q:Int} {b:Bool} {L F P:List Int} {x y n m:Int} (ho:OptOk q L) (hm:HasC L m) (hF:Fits W H F x y n) (hP:Fits W H P x y n):BlkOk m (chV W H F q b L P x y n m) L n∧((chV W H F q b L P x y n m).length:Int)=n*n:=by
 have hr:=res_ok hF hP hm.2.1
 have hl:(resS (blkL W H F x y n) (nbP W H P x y n m)).length=(n*n).toNat:=by rw [resS_len,if_pos hr.1,hr.2]
 have h16:(resS (blkL W H F x y n) (nbP W H P x y n m)).length=16∨(resS (blkL W H F x y n) (nbP W H P x y n m)).length=64:=by
  rw [hl];rcases hF.2.1 with rfl|rfl<;>decide
 have hlv:=lev_ok (b:=b) ho h16 res_in
 have hlen:((chV W H F q b L P x y n m).length:Int)=n*n:=by
  unfold chV levL
  rw [if_pos ⟨ho,(side_pos _).2 h16,in_wide res_in (by decide) (by decide)⟩]
  have hs:side (resS (blkL W H F x y n) (nbP W H P x y n m)).length=n:=by rw [hl];rcases hF.2.1 with rfl|rfl<;>rfl
  have hn:=hF.2.1
  split
  ·rw [scnL_len,List.length_map,(scan_facts h16).1,hl];rcases hn with rfl|rfl<;>decide
  ·obtain ⟨h1,h2,h3⟩:=tr_small (n:=side (resS (blkL W H F x y n) (nbP W H P x y n m)).length) rfl h16 res_in
   have hq:(quantL (trL (side (resS (blkL W H F x y n) (nbP W H P x y n m)).length) false (resS (blkL W H F x y n) (nbP W H P x y n m))) q).length=(resS (blkL W H F x y n) (nbP W H P x y n m)).length:=by
    unfold quantL;rw [if_pos ⟨by rw [h2];exact (side_pos _).2 h16,(stepL_pos q).2 ho.1⟩,List.length_map,h2]
   rw [scnL_len,hq,(scan_facts h16).1,hl];rcases hn with rfl|rfl<;>decide
 exact ⟨⟨hF.2.1,hm,hlen,hlv⟩,hlen⟩
abbrev ChOk (a:EncA):Prop:=∀c x y n P,Fits a.W a.H P x y n→HasC a.L (chM a.W a.H a.F a.ch c P x y n)
theorem encB_good {a:EncA} (ho:OptOk a.q a.L) (hF:FrameOk a.W a.H a.F) (hc:ChOk a) {e:Bool} {k c:Nat} {P:List Int} (hP:FrameOk a.W a.H P) (hk:(k:Int)<cntM a.W a.H):∀i,i≤manyE e→∀x∈(encB a e k c P i).1,BlkOk x.1 x.2 a.L (sz8 e)
 |0,_=>fun x hx=>by cases hx
 |i+1,hi=>fun x hx=>by
  rw [encB] at hx
  rcases List.mem_append.1 hx with h|h
  ·exact encB_good ho hF hc hP hk i (by omega) x h
  ·rw [List.mem_singleton] at h
   subst h
   have h1:=plc_fits hF (e:=e) (i:=i) hk (by omega)
   have h2:=plc_fits (encB_ok (e:=e) (k:=k) (c:=c) hP i) (e:=e) (i:=i) hk (by omega)
   exact (blk_enc ho (hc _ _ _ _ _ h2) h1 h2).1
theorem encM_good {a:EncA} (ho:OptOk a.q a.L) (hF:FrameOk a.W a.H a.F) (hc:ChOk a) {E:Nat→Bool} {P:List Int} (hP:FrameOk a.W a.H P):∀k:Nat,(k:Int)≤cntM a.W a.H→∀x∈(encM a E P k).1,MbkOk x.1 x.2 a.L
 |0,_=>fun x hx=>by cases hx
 |k+1,hk=>fun x hx=>by
  rw [encM] at hx
  rcases List.mem_append.1 hx with h|h
  ·exact encM_good ho hF hc hP k (by omega) x h
  ·rw [List.mem_singleton] at h
   subst h
   refine ⟨?_,?_⟩
   ·simp only [encB_len];cases E k<;>simp [manyE,nm8]
   ·rw [List.any_eq_false]
    intro y hy
    have:=encB_good ho hF hc (encM_ok (a:=a) (E:=E) hP k) (by omega) (manyE (E k)) (Nat.le_refl _) y hy
    simp [badB,this]
def encS (a:EncA) (E:Nat→Bool):List Mbk:=(encM a E (zerP a.W a.H) (cntM a.W a.H).toNat).1
theorem zer_ok {W H:Int} (h:SidesOk W H):FrameOk W H (zerP W H):=by
 refine ⟨h,?_,?_⟩
 ·unfold zerP;rw [List.length_replicate];have h1:8*8≤W*H:=Int.mul_le_mul h.1 h.2.2.1 (by omega) (by have:=h.1;omega);omega
 ·unfold zerP In;intro v hv;rw [List.eq_of_mem_replicate hv];decide
theorem encS_ok {a:EncA} (ho:OptOk a.q a.L) (hF:FrameOk a.W a.H a.F) (hc:ChOk a) (E:Nat→Bool):StOk a.W a.H a.q a.L (encS a E):=by
 have hcm:=cntM_bd hF.1
 refine ⟨⟨hF.1,ho⟩,?_,?_⟩
 ·unfold encS;rw [encM_len];omega
 ·rw [List.any_eq_false]
  intro x hx
  have:=encM_good ho hF hc (E:=E) (zer_ok hF.1) (cntM a.W a.H).toNat (by omega) x hx
  simp [badM,this]
theorem encS_ref (a:EncA) (E:Nat→Bool) (d:Bool):refL a.W a.H a.q a.b d (encS a E)=endL a.W a.H a.q d (encM a E (zerP a.W a.H) (cntM a.W a.H).toNat).2.1:=by
 unfold refL encS
 rw [encM_len,encM_bld]
end Go.Proofs.YtainhhfnnclfiaaGreat


namespace Go.Abs
open Go
inductive Ry (O O':List AObj) (j:Nat):List AV→List AV→Prop
 |nil:Ry O O' j [] []
 |any {V vs us}:Ry O O' j vs us→Ry O O' j (V::vs) (.any::us)
 |keep {V V' vs us}:V=V'→V'.still=true→Ry O O' j vs us→Ry O O' j (V::vs) (V'::us)
 |own {id ep ep' off len len' ob ob' vs us}:O[id]?=some ob→O'[id]?=some ob'→ob.ep=ep→ob'.ep=ep'→ob'.size=ob.size→len=len'→Ry O O' j vs us→Ry O O' j (.own id ep off len::vs) (.own id ep' off len'::us)
 |ptr {id ep ep' off ob ob' vs us}:O[id]?=some ob→O'[id]?=some ob'→ob.ep=ep→ob'.ep=ep'→Ry O O' j vs us→Ry O O' j (.ptr id ep off::vs) (.ptr id ep' off::us)
 |fn {f ds vs us}:ds.all AV.simple=true→Ry O O' j vs us→Ry O O' j (.fn f ds::vs) (.fn f ds::us)
 |agg {ds es vs us}:Ry O O' j ds es→Ry O O' j vs us→Ry O O' j (.agg ds::vs) (.agg es::us)
 |nilO {ob' k len vs us}:O'[k]?=some ob'→k=j→ob'.ep=0→0=len→Ry O O' j vs us→Ry O O' j (.nilS::vs) (.own k 0 0 len::us)
theorem simple_allI {S w ι ι' O O'}:∀{ds:List AV} {us f},LRel S w ι O ds us f→ds.all AV.simple=true→LRel S w ι' O' ds us f
 |[],us,f,h,_=>by cases h;exact .nil
 |d::ds,us,f,h,hs=>by
  simp only [List.all_cons,Bool.and_eq_true] at hs
  obtain ⟨v,vs,f1,f2,rfl,hv,hr,rfl⟩:=h.uncons
  have hst:d.still=true:=by cases d<;>simp_all [AV.simple,AV.still]
  exact LRel.cons (still_any hv hst O' (fun _ h=>h) (fun _ _=>rfl) (fun _ _=>rfl)) (simple_allI hr hs.2)
theorem Ry.same {O O':List AObj} {j:Nat} {cs cs':List AV} (h:cs=cs') (hs:cs'.all AV.still=true):Ry O O' j cs cs':=by
 subst h
 induction cs with
 |nil=>exact .nil
 |cons c cs ih=>
  simp only [List.all_cons,Bool.and_eq_true] at hs
  exact .keep rfl hs.1 (ih hs.2)
theorem Ry.rel {O O':List AObj} {j:Nat} {S w} {ι ι':Nat→Spot} (hj:ι' j=none) (hι:∀id,id<O.length→ι' id=ι id) {vs us:List AV} (h:Ry O O' j vs us):∀{xs f},LRel S w ι O vs xs f→∃f',LRel S w ι' O' us xs f'∧(∀ b∈f',b∈f)∧(f.Nodup→f'.Nodup):=by
 induction h with
 |nil=>intro xs f hl;cases hl;exact ⟨[],.nil,by simp,by simp⟩
 |any _ ih=>
  intro xs f hl
  obtain ⟨v,vs',f1,f2,rfl,hv,hr,rfl⟩:=hl.uncons
  obtain ⟨f',h1,h2,h3⟩:=ih hr
  exact ⟨f',.any h1,fun b hb=>List.mem_append_right _ (h2 b hb),fun hn=>h3 (List.nodup_append.1 hn).2.1⟩
 |keep he hs _ ih=>
  intro xs f hl
  subst he
  obtain ⟨v,vs',f1,f2,rfl,hv,hr,rfl⟩:=hl.uncons
  obtain ⟨f',h1,h2,h3⟩:=ih hr
  refine ⟨f1++f',LRel.cons (still_any hv hs O' (fun _ h=>h) (fun _ _=>rfl) (fun _ _=>rfl)) h1,?_,?_⟩
  ·intro b hb
   rcases List.mem_append.1 hb with hb|hb
   ·exact List.mem_append_left _ hb
   ·exact List.mem_append_right _ (h2 b hb)
  ·intro hn
   obtain ⟨n1,n2,n3⟩:=List.nodup_append.1 hn
   exact List.nodup_append.2 ⟨n1,h3 n2,fun a ha b hb=>n3 a ha b (h2 b hb)⟩
 |own ho ho' he he' hsz hln _ ih=>
  intro xs f hl
  subst hln
  obtain ⟨v,vs',f1,f2,rfl,hv,hr,rfl⟩:=hl.uncons
  obtain ⟨f',h1,h2,h3⟩:=ih hr
  refine ⟨f',?_,fun b hb=>List.mem_append_right _ (h2 b hb),fun hn=>h3 (List.nodup_append.1 hn).2.1⟩
  cases hv with
  |own q1 q2 q3 r=>
   rw [ho] at q1;cases q1
   exact .own ho' (by omega) (fun _=>by rw [hsz,hι _ (List.getElem?_eq_some_iff.1 ho).1];exact q3 he.symm) h1
 |ptr ho ho' he he' _ ih=>
  intro xs f hl
  obtain ⟨v,vs',f1,f2,rfl,hv,hr,rfl⟩:=hl.uncons
  obtain ⟨f',h1,h2,h3⟩:=ih hr
  refine ⟨f',?_,fun b hb=>List.mem_append_right _ (h2 b hb),fun hn=>h3 (List.nodup_append.1 hn).2.1⟩
  cases hv with
  |ptr q1 q2 q3 r=>
   rw [ho] at q1;cases q1
   exact .ptr ho' (by omega) (fun _=>by rw [hι _ (List.getElem?_eq_some_iff.1 ho).1];exact q3 he.symm) h1
 |fn hs _ ih=>
  intro xs f hl
  obtain ⟨v,vs',f1,f2,rfl,hv,hr,rfl⟩:=hl.uncons
  obtain ⟨f',h1,h2,h3⟩:=ih hr
  refine ⟨f',?_,fun b hb=>List.mem_append_right _ (h2 b hb),fun hn=>h3 (List.nodup_append.1 hn).2.1⟩
  cases hv with
  |fn a r=>cases r;exact .fn (simple_allI a hs) h1
 |agg _ _ ih1 ih2=>
  intro xs f hl
  obtain ⟨v,vs',f1,f2,rfl,hv,hr,rfl⟩:=hl.uncons
  obtain ⟨us',rfl,ha⟩:=LRel.agg_inv hv
  obtain ⟨g',a1,a2,a3⟩:=ih1 ha
  obtain ⟨f',h1,h2,h3⟩:=ih2 hr
  refine ⟨g'++f',.agg a1 h1,?_,?_⟩
  ·intro b hb
   rcases List.mem_append.1 hb with hb|hb
   ·exact List.mem_append_left _ (a2 b hb)
   ·exact List.mem_append_right _ (h2 b hb)
  ·intro hn
   obtain ⟨n1,n2,n3⟩:=List.nodup_append.1 hn
   exact List.nodup_append.2 ⟨a3 n1,h3 n2,fun a ha b hb=>n3 a (a2 a ha) b (h2 b hb)⟩
 |nilO hk hkj hep hlen _ ih=>
  intro xs f hl
  subst hkj;subst hlen
  obtain ⟨v,vs',f1,f2,rfl,hv,hr,rfl⟩:=hl.uncons
  obtain ⟨f',h1,h2,h3⟩:=ih hr
  refine ⟨f',?_,fun b hb=>List.mem_append_right _ (h2 b hb),fun hn=>h3 (List.nodup_append.1 hn).2.1⟩
  cases hv with
  |nilS r=>exact .own hk (by omega) (fun _=>by rw [hj];exact ⟨rfl,rfl,rfl⟩) h1
inductive RyT (O O':List AObj) (j:Nat) (T:List (Nat×AV)):List (Nat×AV)→Prop
 |nil:RyT O O' j T []
 |cons {t V T'}:Ry O O' j [look T t] [V]→RyT O O' j T T'→RyT O O' j T ((t,V)::T')
theorem RyT.at {O O' j T T'} (h:RyT O O' j T T') (t:Nat):Ry O O' j [look T t] [look T' t]:=by
 induction h with
 |nil=>exact .any .nil
 |@cons k V T' hk _ ih=>
  by_cases he:k=t
  ·subst he;rw [look_cons_same];exact hk
  ·rw [look_cons_other _ _ _ _ he];exact ih
inductive RyO (O O':List AObj) (j:Nat):List AObj→List AObj→Prop
 |last {ob'}:ob'.cells=[]→RyO O O' j [] [ob']
 |cons {ob ob' os os'}:Ry O O' j ob.cells ob'.cells→(ob'.ty=none∨ob'.ty=ob.ty)→RyO O O' j os os'→RyO O O' j (ob::os) (ob'::os')
theorem RyO.len {O O' j os os'} (h:RyO O O' j os os'):os'.length=os.length+1:=by
 induction h with
 |last=>rfl
 |cons _ _ _ ih=>simp [ih]
theorem RyO.at {O O' j os os'} (h:RyO O O' j os os') {id:Nat} {ob':AObj} (hi:os'[id]?=some ob'):(id=os.length∧ob'.cells=[])∨∃ob,os[id]?=some ob∧Ry O O' j ob.cells ob'.cells∧(ob'.ty=none∨ob'.ty=ob.ty):=by
 induction h generalizing id with
 |last h=>
  cases id with
  |zero=>simp at hi;subst hi;exact .inl ⟨rfl,h⟩
  |succ id=>simp at hi
 |cons h1 h2 _ ih=>
  cases id with
  |zero=>simp at hi;subst hi;exact .inr ⟨_,by simp,h1,h2⟩
  |succ id=>
   rcases ih (by simpa using hi) with ⟨h3,h4⟩|⟨ob,h3,h4⟩
   ·exact .inl ⟨by simp [h3],h4⟩
   ·exact .inr ⟨ob,by simpa using h3,h4⟩
theorem Weak.nil1f {m:Nat} {T T':List (Nat×AV)} {O O':List AObj} (hT:RyT O O' O.length T T') (hO:RyO O O' O.length O O') (hm:m≤O.length):Weak m ⟨T,O⟩ ⟨T',O'⟩:=by
 rintro n G a w ⟨S,ι,F,hr⟩
 have hlen:=hO.len
 have hι0:(fun id=>if id<O.length then ι id else none) O.length=none:=by simp
 have hι1:∀id,id<O.length→(fun id=>if id<O.length then ι id else none) id=ι id:=fun id h=>by simp [h]
 generalize (fun id=>if id<O.length then ι id else none)=ι' at hι0 hι1
 have hex:∀id,∃f,∀ob',O'[id]?=some ob'→ObjAt S w ι' O' ob' (ι' id) f∧(∀ b∈f,id<O.length∧b∈F id)∧f.Nodup:=by
  intro id
  cases hi:O'[id]? with
  |none=>exact ⟨[],by simp⟩
  |some ob'=>
   rcases hO.at hi with ⟨h1,h2⟩|⟨ob,ho,hre,hty⟩
   ·refine ⟨[],fun ob2 h3=>?_⟩
    cases h3
    refine ⟨?_,by simp,by simp⟩
    rw [h1,hι0]
    unfold ObjAt
    exact ⟨h2,rfl⟩
   have hid:id<O.length:=(List.getElem?_eq_some_iff.1 ho).1
   have hob:=hr.objs.obj id ob ho
   unfold ObjAt at hob
   cases hs:ι id with
   |none=>
    rw [hs] at hob
    refine ⟨[],fun ob2 h2=>?_⟩
    cases h2
    refine ⟨?_,by simp,by simp⟩
    rw [hob.1] at hre
    unfold ObjAt
    rw [hι1 id hid,hs]
    cases hc:ob'.cells with
    |nil=>exact ⟨rfl,rfl⟩
    |cons c cs=>rw [hc] at hre;cases hre
   |some p=>
    obtain ⟨b,k⟩:=p
    rw [hs] at hob
    obtain ⟨cur,t,fz,f',hF,h1,h2,h3,h4,h5,h6⟩:=hob
    obtain ⟨g,g1,g2,g3⟩:=hre.rel hι0 hι1 h6
    have hnd:(b::f').Nodup:=by rw [←hF];exact hr.objs.nodup id hid
    have hlen:ob'.cells.length=ob.cells.length:=by
     have e1:=g1.len
     have e2:=h6.len
     omega
    refine ⟨b::g,fun ob2 hh=>?_⟩
    cases hh
    rw [hι1 id hid,hs]
    refine ⟨⟨cur,t,fz,g,rfl,h1,h2,by omega,h4,fun e he=>?_,by rw [hlen];exact g1⟩,?_,?_⟩
    ·rcases hty with hty|hty
     ·rw [hty] at he;cases he
     ·exact h5 e (by rw [←hty];exact he)
    ·intro b' hb'
     rw [hF]
     rcases List.mem_cons.1 hb' with rfl|hb'
     ·simp [hid]
     ·simp [g2 b' hb',hid]
    ·exact List.nodup_cons.2 ⟨fun hb=>(List.nodup_cons.1 hnd).1 (g2 b hb),g3 (List.nodup_cons.1 hnd).2⟩
 have hFx:∃F':Nat→List Nat,∀id ob',O'[id]?=some ob'→ObjAt S w ι' O' ob' (ι' id) (F' id)∧(∀ b∈F' id,id<O.length∧b∈F id)∧(F' id).Nodup:=
  ⟨fun id=>(hex id).choose,fun id=>(hex id).choose_spec⟩
 obtain ⟨F',hF'⟩:=hFx
 refine ⟨S,ι',F',hr.defers,hr.size,fun t=>?_,⟨fun id ob' h=>(hF' id ob' h).1,fun id h=>(hF' id _ (List.getElem?_eq_getElem h)).2.2,fun i j hi hj hij b hb hb'=>?_⟩,fun id h b hb=>?_,hr.base,hr.stable,hr.keeps,fun id h=>?_,by show m≤O'.length;omega⟩
 ·obtain ⟨f',h1,h2,_⟩:=(hT.at t).rel hι0 hι1 (hr.tmps t)
  have:f'=[]:=List.eq_nil_iff_forall_not_mem.2 fun b hb=>by simpa using h2 b hb
  subst this
  exact h1
 ·have hi:i<O'.length:=hi
  have hj:j<O'.length:=hj
  obtain ⟨a1,a2⟩:=(hF' i _ (List.getElem?_eq_getElem hi)).2.1 b hb
  obtain ⟨b1,b2⟩:=(hF' j _ (List.getElem?_eq_getElem hj)).2.1 b hb'
  exact hr.objs.apart i j a1 b1 hij b a2 b2
 ·have h:id<O'.length:=h
  obtain ⟨a1,a2⟩:=(hF' id _ (List.getElem?_eq_getElem h)).2.1 b hb
  exact hr.foot id a1 b a2
 ·rw [hι1 id (by omega)];exact hr.spots id h
end Go.Abs


namespace Go.Abs
open Go
section
variable {P:Program} {n m:Nat} {G:Ctx} {ops:Array Oper} {T0:List (Nat×AV)} {O Oi:List AObj} {keep sh:List Nat}
theorem HeadR.consV {fs fs2 out:List (Nat×AV)} {gs gs2:List Fil} {o:Oper} {l:List Oper} {d:Nat} {b bv:Bool} {F:List (Nat×AV)} {ks:List Fil} {cur:List AObj} (k:Fil) (hd:o.dst=some d) (hF:depsF fs o.after.toList=some F) (hcur:fillAll gs Oi=cur)
 (h:∀Tv Ov,Oi.length≤Ov.length→(∀ p ob,k.spot=some (p,ob)→Ov[p]?=cur[p]?)→(∀ j f p ob,waits o j=true→gs[j]?=some f→f.spot=some (p,ob)→memB p sh=false→Ov[p]?=some ob)→(∀ q,memB q keep=true→Ov[q]?=Oi[q]?)→WpL P n m G false ops [o] ⟨F++(T0++Tv),O++Ov⟩ (Only ⟨(d,.sc (.bool b))::(F++(T0++Tv)),O++k.run Ov⟩)) (hb:b=bv) (hs:catF fs [(d,.sc (.bool bv))]=some fs2) (hg:catF gs [k]=some gs2) (r:HeadR P n m G ops T0 O Oi keep sh fs2 gs2 l out ks):HeadR P n m G ops T0 O Oi keep sh fs gs (o::l) out ks:=by
 subst hb
 exact HeadR.consF k hd hF hcur h hs hg r
end
section
variable {P:Program} {n m:Nat} {G:Ctx} {ops:Array Oper} {T0:List (Nat×AV)} {O:List AObj}
end
theorem WpA.cut {P:Program} {n m:Nat} {G:Ctx} {c:Code} {σ σ1:St} {Q:Exit→St→Prop} (h1:WpA P n m G c σ (fun e s=>e=.normal∧Weak m s σ1)) (h2:Q .normal σ1):WpA P n m G c σ Q:=fun a w hr=>by
 refine wp_mono (h1 a w hr) fun e a' w' hh=>?_
 obtain ⟨σ',⟨he,hw⟩,hR⟩:=hh
 subst he
 exact ⟨σ1,h2,hw n G a' w' hR⟩
end Go.Abs


namespace Go.Abs
open Go
section
variable {P:Program} {n m:Nat} {G:Ctx} {T:List (Nat×AV)} {O:List AObj} {Q:Exit→St→Prop} {ops:Array Oper} {l:List Oper} {d:Nat} {md:Bool} {tt:TypeId} {pos:String} {after:Array Edge} {tab:List (Nat×Ty)}
end
theorem split1 {Ov:List AObj} {a:AObj} (h0:Ov[0]?=some a):∃R,Ov=a::R:=by
 match Ov,h0 with
 |a'::R,h0=>simp at h0;exact ⟨R,by rw [h0]⟩
 |[],h=>simp at h
section
variable {m:Nat} {T:List (Nat×AV)} {O:List AObj} {tab:List (Nat×Ty)} {e':Exit} {r1 r2:ResultVar} {r1v r2v r:AV} {N:List AObj}
end
end Go.Abs


namespace Go.Proofs.YtainhhfnnclfiaaGreat
open Go Go.Abs
def bit1 (y:Int):Int:=IntKind.i64.wrap ((BitVec.ofInt IntKind.i64.bits y &&& BitVec.ofInt IntKind.i64.bits 1).toNat:Nat)
def btA (p:List UInt8) (i:Int):Int:=if i<0∨8*(p.length:Int)≤i then -1 else bit1 (((p.getD (i/8).toNat 0).toNat:Int)/2 ^ (7-i%8).toNat)
def bv (p:List UInt8) (i:Int):Int:=max (btA p i) 0
def numB (p:List UInt8) (s:Int):Nat→Int
 |0=>0
 |k+1=>numB p s k*2+bv p (s+k)
abbrev RdOk (p:List UInt8) (s:Int):Prop:=0≤s∧s≤8*(p.length:Int)
def lft (p:List UInt8) (s:Int):Int:=if RdOk p s then 8*(p.length:Int)-s else 0
abbrev RbOk (p:List UInt8) (s n:Int):Prop:=RdOk p s∧(0≤n∧n≤32)∧n≤lft p s
def rbA (p:List UInt8) (s n:Int):Int:=if RbOk p s n then s+n else s
def rbV (p:List UInt8) (s n:Int):Int:=if RbOk p s n then numB p s n.toNat else 0
def zrW (p:List UInt8) (s:Int):Nat→Nat→Nat
 |0,n=>n
 |f+1,n=>if btA p (s+n)=0 then zrW p s f (n+1) else n
def zrs (p:List UInt8) (s:Int):Nat:=zrW p s (lft p s).toNat 0
def ueA (p:List UInt8) (s:Int):Int:=if zrs p s≤15 then rbA p s (2*(zrs p s:Int)+1) else s
def ueC (p:List UInt8) (s:Int):Int:=if zrs p s≤15 then (if RbOk p s (2*(zrs p s:Int)+1) then 0 else 1) else 4
def ueV (p:List UInt8) (s:Int):Int:=if ueC p s=0 then rbV p s (2*(zrs p s:Int)+1)-1 else 0
def lvOf (n:Int):Int:=if n<0 then 0 else if n%2=0 then n/2+1 else -(n/2)-1
abbrev SymAt (p:List UInt8) (s:Int) (l:List Int) (m:Nat):Prop:=0<l.getD m 0∧RbOk p s (l.getD m 0)∧numB p s (l.getD m 0).toNat=(codes l).getD m 0
def symM (p:List UInt8) (s:Int) (l:List Int):Nat:=((List.range 6).find? fun m=>decide (SymAt p s l m)).getD 6
def smC (p:List UInt8) (s:Int) (l:List Int):Int:=if CodeOk l then (if symM p s l<6 then 0 else 1) else 4
def smA (p:List UInt8) (s:Int) (l:List Int):Int:=if smC p s l=0 then s+l.getD (symM p s l) 0 else s
def smV (p:List UInt8) (s:Int) (l:List Int):Int:=if smC p s l=0 then symM p s l else 0
end Go.Proofs.YtainhhfnnclfiaaGreat


namespace Go.Proofs.YtainhhfnnclfiaaGreat
open Go Go.Abs
def fbC (p:List UInt8) (s c n:Int) (k:Int→Int):Int:=if c=0 then (if RbOk p s n then k (rbV p s n) else 1) else c
def fbA (p:List UInt8) (s c n:Int) (k:Int→Int):Int:=if c=0∧fbC p s c n k=0 then rbA p s n else s
def fbV (p:List UInt8) (s c n:Int) (k:Int→Int):Int:=if fbC p s c n k=0 then rbV p s n else 0
def fuC (p:List UInt8) (s c:Int) (k:Int→Int):Int:=if c=0 then (if ueC p s=0 then k (ueV p s) else ueC p s) else c
def fuA (p:List UInt8) (s c:Int) (k:Int→Int):Int:=if fuC p s c k=0 then ueA p s else s
def fuV (p:List UInt8) (s c:Int) (k:Int→Int):Int:=if fuC p s c k=0 then ueV p s else 0
def ifE (b:Prop) [Decidable b] (e:Int):Int:=bif decide b then 0 else e
def lenAt (v:Int) (i:Nat):Int:=v/2 ^ (3*i)%8
def lensV (v:Int):List Int:=[lenAt v 5,lenAt v 4,lenAt v 3,lenAt v 2,lenAt v 1,lenAt v 0]
structure HdS where
 a:Int
 c:Int
 w:Int
 h:Int
 q:Int
 f:Int
 l:Int
abbrev hk1 (x:Int):Int:=ifE (x=183) 2
abbrev hk2 (x:Int):Int:=ifE (x≤3) 3
abbrev hk3 (x:Int):Int:=ifE (x≤51) 3
abbrev hk4 (x:Int):Int:=0
abbrev hk5 (x:Int):Int:=ifE (CodeOk (lensV x)) 4
def hdS (p:List UInt8) (s:Int):HdS:=
 let a1:=fbA p s 0 8 hk1
 let c1:=fbC p s 0 8 hk1
 let a2:=fuA p a1 c1 hk2
 let c2:=fuC p a1 c1 hk2
 let a3:=fuA p a2 c2 hk2
 let c3:=fuC p a2 c2 hk2
 let a4:=fbA p a3 c3 6 hk3
 let c4:=fbC p a3 c3 6 hk3
 let a5:=fbA p a4 c4 2 hk4
 let c5:=fbC p a4 c4 2 hk4
 let a6:=fbA p a5 c5 18 hk5
 let c6:=fbC p a5 c5 18 hk5
 ⟨a6,c6,fuV p a1 c1 hk2,fuV p a2 c2 hk2,fbV p a3 c3 6 hk3,fbV p a4 c4 2 hk4,fbV p a5 c5 18 hk5⟩
def HdS.W (x:HdS):Int:=if x.c=0 then 8*(x.w+1) else 0
def HdS.H (x:HdS):Int:=if x.c=0 then 8*(x.h+1) else 0
structure LvS where
 a:Int
 c:Int
 at_:Int
 out:List Int
def lvStep (p:List UInt8) (nn:Int) (x:LvS):LvS:=
 if x.c=0 then
  let k1:=fun y:Int=>ifE (y<nn-x.at_) 5
  let k2:=fun y:Int=>ifE (-16383≤lvOf y∧lvOf y≤16383) 5
  let a1:=fuA p x.a 0 k1
  let c1:=fuC p x.a 0 k1
  let t1:=x.at_+fuV p x.a 0 k1
  let a2:=fuA p a1 c1 k2
  let c2:=fuC p a1 c1 k2
  if c2=0 then ⟨a2,c2,t1+1,x.out.set t1.toNat (lvOf (fuV p a1 c1 k2))⟩ else ⟨a2,c2,t1,x.out⟩
 else x
def lvRun (p:List UInt8) (nn:Int) (x:LvS):Nat→LvS
 |0=>x
 |k+1=>lvStep p nn (lvRun p nn x k)
def lvS (p:List UInt8) (s n:Int):LvS:=
 let nn:=n*n
 let z:=List.replicate nn.toNat 0
 let k0:=fun _:Int=>0
 let k1:=fun y:Int=>ifE (y<nn) 5
 let a1:=fbA p s 0 1 k0
 let c1:=fbC p s 0 1 k0
 if fbV p s 0 1 k0=0 then ⟨a1,c1,0,z⟩ else
  let a2:=fuA p a1 c1 k1
  let c2:=fuC p a1 c1 k1
  lvRun p nn ⟨a2,c2,0,z⟩ (1+fuV p a1 c1 k1).toNat
structure BlS where
 a:Int
 c:Int
 m:Int
 l:List Int
def blS (p:List UInt8) (s:Int) (lens:List Int) (n:Int):BlS:=
 if n=4∨n=8 then
  if smC p s lens=0 then
   let x:=lvS p (smA p s lens) n
   if x.c=0 then ⟨x.a,0,smV p s lens,x.out⟩ else ⟨x.a,x.c,0,[]⟩
  else ⟨s,smC p s lens,0,[]⟩
 else ⟨s,5,0,[]⟩
structure MbS where
 a:Int
 c:Int
 bs:List Blok
def mbRun (p:List UInt8) (s:Int) (lens:List Int) (n:Int):Nat→MbS
 |0=>⟨s,0,[]⟩
 |k+1=>
  let x:=mbRun p s lens n k
  if x.c=0 then
   let b:=blS p x.a lens n
   if b.c=0 then ⟨b.a,0,x.bs++[(b.m,b.l)]⟩ else ⟨b.a,b.c,[]⟩
  else x
def mbS (p:List UInt8) (s:Int) (lens:List Int):MbS×Bool:=
 if RbOk p s 1 then
  let e:=decide (rbV p s 1=1)
  let x:=mbRun p (s+1) lens (bif e then 8 else 4) (bif e then 1 else 4)
  (x,bif decide (x.c=0) then e else false)
 else (⟨s,1,[]⟩,false)
end Go.Proofs.YtainhhfnnclfiaaGreat


namespace Go.Proofs.YtainhhfnnclfiaaGreat
open Go Go.Abs
attribute [local irreducible] WpA WpL Rnd Blk Abs.Seq Abs.Fin Abs.FinG FnC FnG Only
abbrev LL (M:List (List Int)):AV:=.imm 1 M.length (rows liI M)
instance Grow_c:Con 270 (∀ n:Nat,n≤1099511627776→Fn 270 [.nilS,I n] [XI []] (.own 0 0 0 0)):=⟨fun n hn=>by
 refine FnC.of_body tabOk Tryz.func270 Tryz.ntmps270 rfl (by decide +kernel) (by simp) fun G=>?_
 by_cases h0:n=0
 ·subst h0
  refine go (r:=?_);and_intros<;>intros<;>try exact True.intro
  refine WpL.capNil (TabOk.slice tabOk rfl).1 rfl (by decide) ?_
  refine go (r:=?_);and_intros<;>intros<;>try exact True.intro
  all_goals rfl
 ·refine go (r:=?_);and_intros<;>intros<;>try exact True.intro
  refine WpL.capNil (TabOk.slice tabOk rfl).1 rfl (by decide) ?_
  refine go (r:=?_);and_intros<;>intros<;>try exact True.intro
  refine WpL.capNil (TabOk.slice tabOk rfl).1 rfl (by decide) ?_
  refine WpL.subNil tabOk rfl rfl rfl (by decide) ?_
  refine WpL.move rfl (by decide) ?_
  refine WpL.appZeros (p:=n) tabOk rfl rfl rfl (show AV.sc (Value.int .i64 ((n:Int)-(0-0)))=_ by congr 2) (by omega) (by omega) rfl (by decide) ?_
  refine go (r:=?_);and_intros<;>intros<;>try exact True.intro
  refine WpL.subOwn0 tabOk rfl rfl rfl rfl rfl (by decide) ?_
  refine go (r:=?_);and_intros<;>intros<;>try exact True.intro
  all_goals rfl⟩
theorem flat_snoc (M:List (List Int)) (k:Nat) (h:k<M.length):(M.take (k+1)).flatten=(M.take k).flatten++M.getD k default:=by
 rw [take_snoc M k h,List.flatten_append];simp
@[irreducible] def SmL (c:Nat) (M:List (List Int)):Prop:=∀r∈M,r.length≤c
theorem smL_get {c:Nat} {M:List (List Int)} (h:SmL c M) {k:Nat} (hk:k<M.length):(M.getD k default).length≤c:=by
 unfold SmL at h;exact h _ (by simp [hk])
theorem smL_bd {c:Nat} {M:List (List Int)} (h:SmL c M):∀k,k≤M.length→(M.take k).flatten.length≤k*c
 |0,_=>by simp
 |k+1,hk=>by
  have h1:=smL_bd h k (by omega)
  have h2:=smL_get h (k:=k) (by omega)
  rw [flat_snoc M k (by omega),List.length_append,Nat.add_mul,Nat.one_mul];omega
theorem smL_nil (c:Nat):SmL c []:=by unfold SmL;intro r hr;cases hr
theorem smL_cons {c:Nat} {a:List Int} {M:List (List Int)} (h:a.length≤c) (r:SmL c M):SmL c (a::M):=by
 unfold SmL at *;intro x hx
 rcases List.mem_cons.1 hx with rfl|hx
 ·exact h
 ·exact r x hx
instance Concat_c:Con 222 (∀ M:List (List Int),M.length≤1024∧SmL 1048576 M→Fn 222 [LL M] [XI M.flatten] (.own 0 0 0 M.flatten.length)):=⟨fun M hM=>by
 refine FnC.of_body tabOk Tryz.func222 Tryz.ntmps222 rfl (by decide +kernel) (by simp) fun G=>?_
 refine go (r:=?_);and_intros<;>intros<;>try exact True.intro
 refine WpA.loop (fun k:Nat=>⟨[(0,LL M),(3,I (M.take k).flatten.length),(9,LL M),(10,I M.length),(11,I k)],[]⟩) (fun k=>k≤M.length) (fun k=>M.length-k) 0 (by omega) (go (r:=?_)) (fun k hk=>?_)
 ·simp
 have hb:=smL_bd hM.2 k hk
 have hg:=fun h=>smL_get hM.2 (k:=k) h
 have hs:=fun h=>flat_snoc M k h
 refine go (r:=?_);and_intros<;>intros<;>try exact True.intro
 ·rw [hs (by omega),List.length_append];omega
 have e:k=M.length:=by omega
 subst e
 rw [List.take_length] at*
 refine go (r:=?_);and_intros<;>intros<;>try exact True.intro
 refine WpA.loop (fun k:Nat=>⟨[(6,.own 0 0 0 (M.take k).flatten.length),(25,LL M),(26,I M.length),(27,I k)],[XI (M.take k).flatten]⟩) (fun k=>k≤M.length) (fun k=>M.length-k) 0 (by omega) (go (r:=?_)) (fun k hk=>?_)
 ·simp
 have hb2:=smL_bd hM.2 k hk
 have hg2:=fun h=>smL_get hM.2 (k:=k) h
 have hs2:=fun h=>flat_snoc M k h
 have hln:k<M.length→(M.take (k+1)).flatten.length=(M.take k).flatten.length+(M.getD k default).length:=fun h=>by rw [hs2 h,List.length_append]
 refine go (r:=?_);and_intros<;>intros<;>try exact True.intro
 ·rw [hs2 (by omega)]
 all_goals have e:k=M.length:=by omega
 all_goals subst e
 all_goals rw [List.take_length]⟩
end Go.Proofs.YtainhhfnnclfiaaGreat


namespace Go.Proofs.YtainhhfnnclfiaaGreat
open Go Go.Abs
attribute [local irreducible] WpA WpL Rnd Blk Abs.Seq Abs.Fin Abs.FinG FnC FnG Only
instance l22Flag_s:Con 238 (∀ b:Bool,Fn 238 [B b] [] (I (bif b then 1 else 0))):=⟨fun b=>by
 cases b
 ·refine FnC.of_body tabOk Tryz.func238 Tryz.ntmps238 rfl (by decide +kernel) (by simp) fun G=>?_
  refine go (r:=?_);and_intros<;>intros<;>try exact True.intro
  all_goals rfl
 ·refine FnC.of_body tabOk Tryz.func238 Tryz.ntmps238 rfl (by decide +kernel) (by simp) fun G=>?_
  refine go (r:=?_);and_intros<;>intros<;>try exact True.intro
  all_goals rfl⟩
instance bitOf_c:Con 225 (∀ b:Bool,Fn 225 [B b] [] (I (bif b then 1 else 0))):=⟨fun b=>by
 cases b
 ·refine FnC.of_body tabOk Tryz.func225 Tryz.ntmps225 rfl (by decide +kernel) (by simp) fun G=>?_
  refine go (r:=?_);and_intros<;>intros<;>try exact True.intro
  all_goals rfl
 ·refine FnC.of_body tabOk Tryz.func225 Tryz.ntmps225 rfl (by decide +kernel) (by simp) fun G=>?_
  refine go (r:=?_);and_intros<;>intros<;>try exact True.intro
  all_goals rfl⟩
def nolL (v:Int):Int:=if v>0 then 2*v-2 else if v<0 then -2*v-1 else -1
instance NumOfLevel_s:Con 281 (∀ v:Int,-1000000≤v∧v≤1000000→Fn 281 [I v] [] (I (nolL v))):=⟨fun v hv=>by
 unfold nolL
 refine FnC.of_body tabOk Tryz.func281 Tryz.ntmps281 rfl (by decide +kernel) (by simp) fun G=>?_
 refine go (r:=?_);and_intros<;>intros<;>try exact True.intro
 all_goals (repeat' split)<;>omega⟩
instance NumOfLevel_c:Con 273 (∀ v:Int,-1000000≤v∧v≤1000000→Fn 273 [I v] [] (I (nolL v))):=⟨fun v hv=>by
 unfold nolL
 refine FnC.of_body tabOk Tryz.func273 Tryz.ntmps273 rfl (by decide +kernel) (by simp) fun G=>?_
 refine go (r:=?_);and_intros<;>intros<;>try exact True.intro
 all_goals (repeat' split)<;>omega⟩
theorem lg_lo (x:Nat) (h:0<x):2 ^ Nat.log2 x≤x:=Nat.log2_self_le (by omega)
theorem lg_hi (x:Nat):x<2 ^ (Nat.log2 x+1):=Nat.lt_log2_self
theorem lg_lt {x z:Nat} (hz:z<Nat.log2 x) (h:0<x):x/2 ^ (z+1)≠0:=by
 have h1:=lg_lo x h
 have h2:2 ^ (z+1)≤2 ^ Nat.log2 x:=Nat.pow_le_pow_right (by decide) hz
 have:=Nat.div_pos (Nat.le_trans h2 h1) (Nat.pow_pos (by decide))
 omega
theorem lg_end (x:Nat):x/2 ^ (Nat.log2 x+1)=0:=Nat.div_eq_of_lt (lg_hi x)
theorem lg_16 {x:Nat} (h0:0<x) (h:x≤65535):Nat.log2 x≤15:=by
 rcases Nat.lt_or_ge (Nat.log2 x) 16 with h1|h1
 ·omega
 ·have:=lg_lo x h0
  have:2 ^ 16≤2 ^ Nat.log2 x:=Nat.pow_le_pow_right (by decide) h1
  omega
instance l6Zeros_s:Con 279 (∀ n:Nat,n≤65534→Fn 279 [I n] [] (I (Nat.log2 (n+1)))):=⟨fun n hn=>by
 have h16:=lg_16 (x:=n+1) (by omega) (by omega)
 have hend:=lg_end (n+1)
 refine FnC.of_body tabOk Tryz.func279 Tryz.ntmps279 rfl (by decide +kernel) (by simp) fun G=>?_
 refine go (r:=?_);and_intros<;>intros<;>try exact True.intro
 refine WpA.loop (fun z:Nat=>⟨[(0,I n),(3,I z)],[]⟩) (fun z=>z≤Nat.log2 (n+1)) (fun z=>16-z) 0 (by omega) (go (r:=?_)) (fun z hz=>?_)
 ·trivial
 have hlt:=fun h=>lg_lt (x:=n+1) (z:=z) h (by omega)
 have hc:((n:Int)+1)/2 ^ ((z:Int)+1).toNat=(((n+1)/2 ^ (z+1):Nat):Int):=by
  rw [show ((z:Int)+1).toNat=z+1 by omega];push_cast;rfl
 rcases Nat.lt_or_ge z (Nat.log2 (n+1)) with hz2|hz2
 ·have hlt:=hlt hz2
  refine go (r:=?_);and_intros<;>intros<;>try exact True.intro
 ·have e:z=Nat.log2 (n+1):=by omega
  refine go (r:=?_);and_intros<;>intros<;>try exact True.intro
  rename_i hg;rw [hc,e,hend] at hg;exact absurd rfl hg⟩
def ueL (n:Int):List Int:=if 0≤n∧n≤65534 then List.replicate (Nat.log2 (n.toNat+1)) 0++bitsL (n+1) (Nat.log2 (n.toNat+1)+1) else []
theorem ueL_len (n:Int):(ueL n).length≤64:=by
 unfold ueL;split
 ·rename_i h
  have h1:=lg_16 (x:=n.toNat+1) (by omega) (by omega)
  have h2:=bitsL_len (n+1) ((Nat.log2 (n.toNat+1):Nat)+1)
  simp only [List.length_append,List.length_replicate];omega
 ·simp
theorem bitOk_ue {n:Nat} (w:Nat) (h:n≤65534) (hw:Nat.log2 (n+1)+1≤w) (hw2:w≤48):bitOk ((n:Int)+1) w:=by
 refine ⟨by omega,by omega,?_⟩
 have h1:=lg_hi (n+1)
 have h2:2 ^ (Nat.log2 (n+1)+1)≤2 ^ w:=Nat.pow_le_pow_right (by decide) hw
 have h3:(n+1)/2 ^ w=0:=Nat.div_eq_of_lt (by omega)
 have h4:(((n+1)/2 ^ w:Nat):Int)=0:=by rw [h3];rfl
 rw [Int.toNat_natCast];push_cast at h4;exact h4
theorem bits_wide {n:Nat} {z:Nat} (h:n≤65534) (hz:z=Nat.log2 (n+1)):bitsL ((n:Int)+1) ((2*z+1:Nat):Int)=List.replicate z 0++bitsL ((n:Int)+1) ((z+1:Nat):Int):=by
 have h16:=lg_16 (x:=n+1) (by omega) (by omega)
 have o1:=bitOk_ue (n:=n) (2*z+1) h (by omega) (by omega)
 have o2:=bitOk_ue (n:=n) (z+1) h (by omega) (by omega)
 rw [bitsL,if_pos o1,bitsL,if_pos o2,Int.toNat_natCast,Int.toNat_natCast]
 apply List.ext_getElem?
 intro q
 rcases Nat.lt_or_ge q z with hq|hq
 ·rw [List.getElem?_append_left (by simpa using hq),List.getElem?_replicate,if_pos hq]
  unfold bitsR
  rw [List.getElem?_map,List.getElem?_range (by omega)]
  simp only [Option.map_some]
  congr 1
  have h5:(n+1)/2 ^ (2*z+1-1-q)=0:=Nat.div_eq_of_lt (by
   have h1:=lg_hi (n+1)
   have h2:2 ^ (Nat.log2 (n+1)+1)≤2 ^ (2*z+1-1-q):=Nat.pow_le_pow_right (by decide) (by omega)
   omega)
  have h6:(((n+1)/2 ^ (2*z+1-1-q):Nat):Int)=0:=by rw [h5];rfl
  have h7:((n:Int)+1)/2 ^ (2*z+1-1-q)=0:=by
   have e:(((n+1)/2 ^ (2*z+1-1-q):Nat):Int)=((n:Int)+1)/2 ^ (2*z+1-1-q):=by rw [Int.natCast_ediv,Int.natCast_add,Int.natCast_pow];rfl
   rw [←e];exact h6
  rw [h7];rfl
 ·rw [List.getElem?_append_right (by simpa using hq),List.length_replicate]
  unfold bitsR
  rcases Nat.lt_or_ge q (2*z+1) with hq2|hq2
  ·rw [List.getElem?_map,List.getElem?_range (by omega),List.getElem?_map,List.getElem?_range (by omega)]
   simp only [Option.map_some]
   congr 4;omega
  ·rw [List.getElem?_eq_none (by simpa using hq2),List.getElem?_eq_none (by simp;omega)]
theorem ueL_wide {n:Nat} (h:n≤65534):bitsL ((n:Int)+1) ((2*Nat.log2 (n+1)+1:Nat):Int)=ueL n:=by
 rw [bits_wide h rfl,ueL,if_pos ⟨by omega,by omega⟩]
 simp
instance UeBits_s:Con 237 (∀ n:Int,Fn 237 [I n] [XI (ueL n)] (.own 0 0 0 (ueL n).length)):=⟨fun n=>by
 refine FnC.of_body tabOk Tryz.func237 Tryz.ntmps237 rfl (by decide +kernel) (by simp) fun G=>?_
 by_cases h:0≤n∧n≤65534
 ·obtain ⟨N,rfl⟩:∃N:Nat,n=N:=⟨n.toNat,by omega⟩
  have h16:=lg_16 (x:=N+1) (by omega) (by omega)
  have hu:ueL N=List.replicate (Nat.log2 (N+1)) 0++bitsL ((N:Int)+1) ((Nat.log2 (N+1):Nat)+1):=by rw [ueL,if_pos h,Int.toNat_natCast]
  have hbl:=bitsL_len ((N:Int)+1) ((Nat.log2 (N+1):Nat)+1)
  generalize hz:Nat.log2 (N+1)=z at hu h16 hbl
  repeat (refine K.A ?_;refine WpA.seq ?_)
  refine K.A ?_
  refine WpA.regionF rfl ?_
  refine WpL.assign rfl (by decide) ?_
  refine WpL.nil ?_
  refine Abs.Seq.n ?_
  repeat (refine K.A ?_;refine WpA.seq ?_)
  refine K.A ?_
  refine WpA.regionF rfl ?_
  refine WpL.move rfl (by decide) ?_
  refine K.call ?_
  refine K.con (fun hcon=>?_)
  refine WpL.call0 (hcon _ _ _) snapA locA rfl rfl (by decide) ?_
  clear hcon
  refine WpL.not rfl (by decide) ?_
  refine WpL.nil ?_
  refine Abs.Seq.n ?_
  repeat (refine K.A ?_;refine WpA.seq ?_)
  refine K.A ?_
  refine WpA.condN rfl (fun hin=>absurd h hin) (fun hin=>?_)
  refine K.A ?_
  refine WpA.skip ?_
  refine Abs.Seq.n ?_
  repeat (refine K.A ?_;refine WpA.seq ?_)
  refine K.A ?_
  refine WpA.regionF rfl ?_
  refine WpL.move rfl (by decide) ?_
  refine K.call ?_
  refine K.con (fun hcon=>?_)
  refine WpL.call0 (hcon N (by omega)) snapA locA rfl rfl (by decide) ?_
  clear hcon
  rw [hz]
  refine WpL.assign rfl (by decide) ?_
  refine WpL.nil ?_
  refine Abs.Seq.n ?_
  repeat (refine K.A ?_;refine WpA.seq ?_)
  refine K.A ?_
  apply WpA.regionQF (O:=[]) (Or:=[]) (O1:=[⟨ints (List.replicate z 0),1,1,some 3⟩,⟨ints (bitsL ((N:Int)+1) ((z:Int)+1)),1,1,some 3⟩,deadO,deadO]) 7 2 [] rfl mixed (by decide +kernel)
  ·exact rfl
  ·apply HeadQ.consF .none rfl
   ·exact rfl
   ·exact in1
   ·exact rfl
   ·exact rfl
   apply HeadQ.consF (V:=.own 0 1 0 z) (.put 0 (⟨ints (List.replicate z 0),1,1,some 3⟩)) rfl
   ·exact rfl
   ·intro Tv Ov hc hp hd hk
    refine WpL.makeInts tabOk rfl rfl rfl (by omega) (by omega) (id:=([]++Ov).length) (by rw [nid_len,Nat.zero_add]) (by decide) ?_;rw [Int.toNat_natCast]
    apply WpL.putNil (p:=0)
    ·exact hp 0 _ rfl
    ·exact Nat.zero_le _
    ·exact rfl
    ·first|exact still_ints _|exact still_rows (fun _=>rfl) _|rfl
   ·exact rfl
   ·exact rfl
   apply HeadQ.consF .none rfl
   ·exact rfl
   ·exact in1
   ·exact rfl
   ·exact rfl
   apply HeadQ.consF .none rfl
   ·exact rfl
   ·exact in1
   ·exact rfl
   ·exact rfl
   apply HeadQ.consF .none rfl
   ·exact rfl
   ·exact in1
   ·exact rfl
   ·exact rfl
   apply HeadQ.consF .none rfl
   ·exact rfl
   ·exact in1
   ·exact rfl
   ·exact rfl
   apply HeadQ.consF (V:=.own 1 1 0 (bitsL ((N:Int)+1) ((z:Int)+1)).length) (.put 1 (⟨ints (bitsL ((N:Int)+1) ((z:Int)+1)),1,1,some 3⟩)) rfl
   ·exact rfl
   ·intro Tv Ov hc hp hd hk
    refine K.call ?_
    refine K.con (fun hcon=>?_)
    refine WpL.callF (hcon ((N:Int)+1) ((z:Int)+1) (by omega)) snapA locA outA (cnt_some _ 0) rfl rfl (by decide) ?_
    rw [Nat.zero_add]
    apply WpL.putNil (p:=1)
    ·exact hp 1 _ rfl
    ·exact Nat.zero_le _
    ·exact rfl
    ·first|exact still_ints _|exact still_rows (fun _=>rfl) _|rfl
   ·exact rfl
   ·exact rfl
   exact HeadQ.nil
  ·exact rfl
  ·exact rfl
  ·exact rfl
  ·exact rfl
  ·exact rfl
  ·exact rfl
  ·exact rfl
  have hul:z+(bitsL ((N:Int)+1) ((z:Int)+1)).length=(ueL N).length:=by rw [hu,List.length_append,List.length_replicate]
  refine go (r:=?_);and_intros<;>intros<;>try exact True.intro
  all_goals first|(rw [hu];done)
 ·have e:ueL n=[]:=by rw [ueL,if_neg h]
  refine go (r:=?_);and_intros<;>intros<;>try exact True.intro
  all_goals first|(rw [e];done)|(rw [e];rfl)|(exact absurd (by assumption) h)⟩
def lenL (x:Int):Int:=if x=0 then 0 else (Nat.log2 x.toNat:Int)+1
theorem lenL_bd {x:Int} (h:0≤x∧x≤65535):0≤lenL x∧lenL x≤16:=by
 unfold lenL;split
 ·omega
 ·have:=lg_16 (x:=x.toNat) (by omega) (by omega);omega
theorem u64_in {x:Int} (h:0≤x∧x≤65535):IntKind.u64.wrap x=x:=by
 have key:IntKind.u64.wrap x=x%18446744073709551616:=rfl
 rw [key];omega
theorem u8_in {x:Int} (h:0≤x∧x≤255):IntKind.u8.wrap x=x:=by
 have key:IntKind.u8.wrap x=x%256:=rfl
 rw [key];omega
def lenT:List UInt8:=(List.range 256).map fun i=>UInt8.ofNat (if i=0 then 0 else Nat.log2 i+1)
theorem lenT_len:lenT.length=256:=by simp [lenT]
theorem lenT_at {x:Int} (h:0≤x∧x≤255):((lenT.getD x.toNat 0).toNat:Int)=lenL x:=by
 have key:∀k:Fin 256,((lenT.getD (k.val:Int).toNat 0).toNat:Int)=lenL k.val:=by decide +kernel
 obtain ⟨k,rfl⟩:∃k:Nat,x=k:=⟨x.toNat,by omega⟩
 exact key ⟨k,by omega⟩
theorem lenL_hi {x:Int} (h:256≤x∧x≤65535):lenL x=8+lenL (x/256):=by
 unfold lenL
 rw [if_neg (by omega),if_neg (by omega)]
 obtain ⟨k,rfl⟩:∃k:Nat,x=k:=⟨x.toNat,by omega⟩
 have e:((k:Int)/256).toNat=k/256:=by omega
 rw [e,Int.toNat_natCast]
 have h1:Nat.log2 k=Nat.log2 (k/2)+1:=by rw [Nat.log2_def,if_pos (by omega)]
 have e2:∀j n:Nat,256≤j*n→1<n→n≤256→True:=fun _ _ _ _ _=>trivial
 have st:∀n:Nat,2≤n→Nat.log2 n=Nat.log2 (n/2)+1:=fun n hn=>by rw [Nat.log2_def,if_pos hn]
 rw [st k (by omega),st (k/2) (by omega),st (k/2/2) (by omega),st (k/2/2/2) (by omega),st (k/2/2/2/2) (by omega),st (k/2/2/2/2/2) (by omega),st (k/2/2/2/2/2/2) (by omega),st (k/2/2/2/2/2/2/2) (by omega)]
 have e3:k/2/2/2/2/2/2/2/2=k/256:=by omega
 rw [e3];omega
instance Len64_c:Con 302 (∀ x:Int,0≤x∧x≤65535→Fn 302 [.sc (.int .u64 x)] [] (I (lenL x))):=⟨fun x hx=>by
 have e8:x/2 ^ Int.toNat 8=x/256:=rfl
 have hb:=lenL_bd hx
 refine FnC.of_body tabOk Tryz.func302 Tryz.ntmps302 rfl (by decide +kernel) (by simp) fun G=>?_
 by_cases h:256≤x
 ·have h2:IntKind.u8.wrap (x/2 ^ Int.toNat 8)=x/256:=by rw [e8];exact u8_in (by omega)
  have hb2:=lenL_bd (x:=x/256) (by omega)
  have hh:=lenL_hi (x:=x) (by omega)
  refine go (r:=?_);and_intros<;>intros<;>try exact True.intro
  refine WpL.idxStrB (p:=lenT) tabOk rfl (by kernel_rfl) rfl (by rw [h2,lenT_len];omega) (by decide) (fun hgo=>?_)
  rw [h2,lenT_at (by omega)]
  refine go (r:=?_);and_intros<;>intros<;>try exact True.intro
 ·have h2:IntKind.u8.wrap x=x:=u8_in (by omega)
  refine go (r:=?_);and_intros<;>intros<;>try exact True.intro
  refine WpL.idxStrB (p:=lenT) tabOk rfl (by kernel_rfl) rfl (by rw [h2,lenT_len];omega) (by decide) (fun hgo=>?_)
  rw [h2,lenT_at (by omega)]
  refine go (r:=?_);and_intros<;>intros<;>try exact True.intro⟩
instance Len_c:Con 296 (∀ x:Int,0≤x∧x≤65535→Fn 296 [.sc (.int .u64 x)] [] (I (lenL x))):=⟨fun x hx=>by
 refine FnC.of_body tabOk Tryz.func296 Tryz.ntmps296 rfl (by decide +kernel) (by simp) fun G=>?_
 refine go (r:=?_);and_intros<;>intros<;>try exact True.intro⟩
instance UeSize_c:Con 271 (∀ n:Nat,n≤65534→Fn 271 [I n] [] (I ((2*Nat.log2 (n+1)+1:Nat):Int))):=⟨fun n hn=>by
 have hw:=u64_in (x:=(n:Int)+1) (by omega)
 have hb:=lenL_bd (x:=(n:Int)+1) (by omega)
 have he:lenL ((n:Int)+1)=(Nat.log2 (n+1):Int)+1:=by
  unfold lenL;rw [if_neg (by omega),show ((n:Int)+1).toNat=n+1 by omega]
 have he2:lenL (IntKind.u64.wrap ((n:Int)+1))=(Nat.log2 (n+1):Int)+1:=by rw [hw];exact he
 have h16:=lg_16 (x:=n+1) (by omega) (by omega)
 refine FnC.of_body tabOk Tryz.func271 Tryz.ntmps271 rfl (by decide +kernel) (by simp) fun G=>?_
 refine go (r:=?_);and_intros<;>intros<;>try exact True.intro
 all_goals trace_state⟩
instance UeBits_c:Con 224 (∀ n:Int,0≤n∧n≤65534→Fn 224 [I n] [XI (ueL n)] (.own 0 0 0 (ueL n).length)):=⟨fun n hn=>by
 obtain ⟨N,rfl⟩:∃N:Nat,n=N:=⟨n.toNat,by omega⟩
 have he:=ueL_wide (n:=N) (by omega)
 have hel:(bitsL ((N:Int)+1) ((2*Nat.log2 (N+1)+1:Nat):Int)).length=(ueL N).length:=by rw [he]
 refine FnC.of_body tabOk Tryz.func224 Tryz.ntmps224 rfl (by decide +kernel) (by simp) fun G=>?_
 refine go (r:=?_);and_intros<;>intros<;>try exact True.intro
 all_goals trace_state⟩
end Go.Proofs.YtainhhfnnclfiaaGreat


namespace Go.Proofs.YtainhhfnnclfiaaGreat
open Go Go.Abs
attribute [local irreducible] WpA WpL Rnd Blk Abs.Seq Abs.Fin Abs.FinG FnC FnG Only
end Go.Proofs.YtainhhfnnclfiaaGreat


namespace Go.Proofs.YtainhhfnnclfiaaGreat
open Go Go.Abs
attribute [local irreducible] WpA WpL Rnd Blk Abs.Seq Abs.Fin Abs.FinG FnC FnG Only
abbrev R0:AObj:=⟨[Z [],I 0],0,0,none⟩
end Go.Proofs.YtainhhfnnclfiaaGreat


namespace Go.Proofs.YtainhhfnnclfiaaGreat
open Go Go.Abs
attribute [local irreducible] WpA WpL Rnd Blk Abs.Seq Abs.Fin Abs.FinG FnC FnG Only
end Go.Proofs.YtainhhfnnclfiaaGreat


namespace Go.Proofs.YtainhhfnnclfiaaGreat
open Go Go.Abs
attribute [local irreducible] WpA WpL Rnd Blk Abs.Seq Abs.Fin Abs.FinG FnC FnG Only
end Go.Proofs.YtainhhfnnclfiaaGreat


namespace Go.Proofs.YtainhhfnnclfiaaGreat
open Go Go.Abs
attribute [local irreducible] WpA WpL Rnd Blk Abs.Seq Abs.Fin Abs.FinG FnC FnG Only
def sdV (p:List UInt8) (s:Int):Int:=if ueC p s=0∧ueV p s>3 then 0 else 8*ueV p s+8
def lnL (p:List UInt8) (s:Int):List Int:=if RbOk p s 18 then lensV (rbV p s 18) else []
attribute [local irreducible] rbA rbV ueA ueV ueC fuA fuC fuV fbA fbC fbV sdV lnL zrs numB lft hdS lensV
theorem WpA.hide {P:Program} {n m:Nat} {G:Ctx} {c:Code} {σ:St} {Q:Exit→St→Prop} (h:∀Q',Q'=Q→WpA P n m G c σ Q'):WpA P n m G c σ Q:=h Q rfl
end Go.Proofs.YtainhhfnnclfiaaGreat
