/- Proved in this text: lemmas and contracts of functions that the claim uses (parts: Ln, SizeL, Unp, RdV, RdT, Cache, AbsAz, Ent, UeT, RdB, RdW, Back, Stop, UnpI, EncS, Edg2, Edg3, EdgH, AbsHh, DebS, Nbs). No condition. -/
import Derived.Test.YtainhhfnnclfiaaGreatEsM11
import Derived.Test.YtainhhfnnclfiaaGreatEsM16
import Derived.Test.YtainhhfnnclfiaaGreatEsM15
import Derived.Test.YtainhhfnnclfiaaGreatEsM7
import Derived.Test.YtainhhfnnclfiaaGreatEsM9
import Derived.Test.YtainhhfnnclfiaaGreatEsM12
import Derived.Lib.AppendZeros
import Derived.Test.YtainhhfnnclfiaaGreatEsM14
import Derived.Test.YtainhhfnnclfiaaGreatEsM13
import Derived.Test.YtainhhfnnclfiaaGreatEsM4
set_option linter.unusedVariables false
set_option linter.unusedSimpArgs false
set_option maxRecDepth 100000
set_option maxHeartbeats 16000000


namespace Go.Proofs.YtainhhfnnclfiaaGreat
open Go Go.Abs
attribute [local irreducible] WpA WpL Rnd Blk Abs.Seq Abs.Fin Abs.FinG FnC FnG Only
attribute [local simp] Abs.setL
instance eqHeader_c:Con 96 (∀ (w h q:Int) (b d:Bool) (l:List Int) (w2 h2 q2:Int) (b2 d2:Bool) (l2:List Int),l.length≤1099511627776∧l2.length≤1099511627776→
 Fn 96 [HdA w h q b d l,HdA w2 h2 q2 b2 d2 l2] [] (B (decide (w=w2∧h=h2∧q=q2∧b=b2∧d=d2∧l=l2)))):=⟨fun w h q b d l w2 h2 q2 b2 d2 l2 hl=>by
 refine FnC.of_body tabOk Tryz.func96 Tryz.ntmps96 rfl (by decide +kernel) (by simp) fun G=>?_
 refine go (r:=?_);and_intros<;>intros<;>try exact True.intro
 all_goals simp_all⟩
instance markHeader_c:ConG 100 (∀ (w h q:Int) (b d:Bool) (l:List Int) (k:Int),l.length≤1048576∧0≤k∧k≤1073741824→
 Gn 100 [.agg [I w,I h,I q,B b,B d,.own 0 0 0 l.length],I k] [IN l] [IN (marksI k l.length)] [] (I (k+l.length))):=⟨fun w h q b d l k hk=>by
 refine FnG.of_bodyF tabOk Tryz.func100 Tryz.ntmps100 rfl (by decide +kernel) (by simp) rfl rfl fun G=>?_
 refine go (r:=?_);and_intros<;>intros<;>try exact True.intro⟩
instance eqBlock_c:Con 278 (∀ (m:Int) (l:List Int) (m2:Int) (l2:List Int),l.length≤1099511627776∧l2.length≤1099511627776→Fn 278 [.agg [I m,IL l],.agg [I m2,IL l2]] [] (B (decide (m=m2∧l=l2)))):=⟨fun m l m2 l2 hl=>by
 refine FnC.of_body tabOk Tryz.func278 Tryz.ntmps278 rfl (by decide +kernel) (by simp) fun G=>?_
 refine go (r:=?_);and_intros<;>intros<;>try exact True.intro
 all_goals simp_all⟩
instance eqBlockS_c:Con 236 (∀ xs ys:List Blok,xs.length≤1099511627776∧ys.length≤1099511627776∧SmB 1099511627776 xs∧SmB 1099511627776 ys→Fn 236 [BkL xs,BkL ys] [] (B (decide (xs=ys)))):=⟨fun xs ys hl=>by
 refine FnC.of_body tabOk Tryz.func236 Tryz.ntmps236 rfl (by decide +kernel) (by simp) fun G=>?_
 refine go (r:=?_);and_intros<;>intros<;>try exact True.intro
 ·simp;intro h;subst h;simp_all
 ·refine WpA.loop (fun k:Nat=>⟨[(0,BkL xs),(1,BkL ys),(5,I k)],[]⟩) (fun k=>k≤xs.length∧∀j<k,xs.getD j default=ys.getD j default) (fun k=>xs.length-k) 0 (by simp) (go (r:=trivial)) (fun k hk=>?_)
  have hg:=fun h=>smB_get hl.2.2.1 (k:=k) h
  have hg2:=fun h=>smB_get hl.2.2.2 (k:=k) h
  refine go (r:=?_);and_intros<;>intros<;>try exact True.intro
  ·simp;rintro rfl;simp_all
  ·rename_i j hj;by_cases h:j=k
   ·subst h;apply Prod.ext<;>simp_all
   ·exact hk.2 j (by omega)
  ·have:=eq_all default (xs:=xs) (ys:=ys) (by omega) (fun j hj=>hk.2 j (by omega))
   simp [this]⟩
def endB (k:Int) (l:List Blok):Int:=k+bw l
def markB:Int→List Blok→List Blok
 |_,[]=>[]
 |k,b::l=>(k,marksI (k+1) b.2.length)::markB (k+1+b.2.length) l
theorem bw_nil:bw []=0:=rfl
theorem bw_cons (b:Blok) (l:List Blok):bw (b::l)=bw l+1+b.2.length:=by unfold bw;rw [List.map_cons,List.sum_cons,List.length_cons];unfold bn;omega
theorem bw_append (a b:List Blok):bw (a++b)=bw a+bw b:=by unfold bw;rw [List.map_append,List.sum_append,List.length_append];omega
theorem markB_append:∀(a b:List Blok) (k:Int),markB k (a++b)=markB k a++markB (k+bw a) b
 |[],b,k=>by simp [markB,bw_nil]
 |x::a,b,k=>by
  rw [List.cons_append,markB,markB,markB_append a b,bw_cons,List.cons_append]
  congr 3;omega
@[simp] theorem markB_len:∀(l:List Blok) (k:Int),(markB k l).length=l.length
 |[],k=>rfl
 |b::l,k=>by rw [markB,List.length_cons,List.length_cons,markB_len l]
theorem markB_bw:∀(l:List Blok) (k:Int),bw (markB k l)=bw l
 |[],k=>rfl
 |b::l,k=>by rw [markB,bw_cons,bw_cons,markB_bw l,marksI_len]
theorem bw_take (l:List Blok) (i:Nat) (h:i<l.length):bw (l.take (i+1))=bw (l.take i)+1+(l.getD i default).2.length:=by
 rw [take_snoc l i h,bw_append,bw_cons,bw_nil];omega
theorem bw_take_le (l:List Blok) (i:Nat):bw (l.take i)≤bw l:=by
 conv=>rhs;rw [←List.take_append_drop i l,bw_append]
 exact Nat.le_add_right _ _
theorem markB_take (l:List Blok) (i:Nat) (h:i<l.length) (k:Int):markB k (l.take (i+1))=markB k (l.take i)++[(k+bw (l.take i),marksI (k+bw (l.take i)+1) (l.getD i default).2.length)]:=by
 rw [take_snoc l i h,markB_append];rfl
theorem getD_mid {α:Type} [Inhabited α] (A:List α) (l:List α) (i:Nat) (hA:A.length=i) (h:i<l.length):(A++l.drop i).getD i default=l.getD i default:=by
 simp [List.getElem?_append_right,hA,h]
theorem set_mid {α:Type} (A:List α) (l:List α) (i:Nat) (hA:A.length=i) (h:i<l.length) (v:α):(A++l.drop i).set i v=(A++[v])++l.drop (i+1):=by
 rw [List.set_append_right _ _ (by omega),hA,Nat.sub_self,List.drop_eq_getElem_cons h];simp;rw [List.drop_eq_getElem_cons h];rfl
instance markBlockS_c:ConG 167 (∀ (l:List Blok) (k:Int),bw l≤1048576∧0≤k∧k≤1073741824→Gn 167 [.own 0 0 0 l.length,I k] [BkN l] [BkN (markB k l)] [] (I (k+bw l))):=⟨fun l k hk=>by
 refine FnG.of_bodyF tabOk Tryz.func167 Tryz.ntmps167 rfl (by decide +kernel) (by simp) rfl rfl fun G=>?_
 have hbw:bw l=l.length+(l.map bn).sum:=rfl
 refine go (r:=?_);and_intros<;>intros<;>try exact True.intro
 refine WpA.loop (fun i:Nat=>⟨[(0,.own 0 0 0 l.length),(1,I (k+bw (l.take i))),(5,I i)],[BkN (markB k (l.take i)++l.drop i)]⟩) (fun i=>i≤l.length) (fun i=>l.length-i) 0 (by simp) (go (r:=?_)) (fun i hi=>?_)
 ·simp [markB,bw_nil]
 have hml:=markB_len (l.take i) k
 have hlt:i≤l.length→(l.take i).length=i:=fun h=>by simp;omega
 have hsm:=smB_of hk.1
 have hle:=bw_take_le l i
 have hlen:i≤l.length→(markB k (l.take i)++l.drop i).length=l.length:=fun h=>by rw [List.length_append,hml];simp;omega
 have hget:i<l.length→∀v,((markB k (l.take i)++l.drop i).set i v).getD i default=v:=fun h v=>by simp [hlen (by omega),h]
 have hg:=fun h=>smB_get hsm (k:=i) h
 have hmid:=fun h=>getD_mid (markB k (l.take i)) l i (by rw [hml,hlt (by omega)]) h
 have hbt:=fun h=>bw_take l i h
 refine go (r:=?_);and_intros<;>intros<;>try exact True.intro
 ·rw [hget (by omega)];simp only;rw [hmid (by omega)];exact Nat.le_trans (hg (by omega)) (by decide)
 ·rw [hget (by omega)];simp only;rw [hmid (by omega),hbt (by omega)];generalize l.getD i default=x;obtain ⟨m0,lv⟩:=x;simp only;omega
 ·rw [List.set_set,hget (by omega)];simp only;rw [hmid (by omega),set_mid _ _ _ (by rw [hml,hlt (by omega)]) (by omega),markB_take _ _ (by omega)]
 all_goals have e:i=l.length:=by omega
 all_goals subst e;simp⟩
theorem markB_get (l:List Blok) (i:Nat) (h:i<l.length) (k:Int) (e:l=markB k l):(l.getD i default).1=k+bw (l.take i)∧(l.getD i default).2=marksI (k+bw (l.take i)+1) (l.getD i default).2.length:=by
 have h0:l=(l.take i++[l.getD i default])++l.drop (i+1):=by rw [←take_snoc l i h,List.take_append_drop]
 have h1:markB k l=(markB k (l.take i)++[(k+bw (l.take i),marksI (k+bw (l.take i)+1) (l.getD i default).2.length)])++markB (k+bw (l.take (i+1))) (l.drop (i+1)):=by
  rw [←markB_take l i h,←markB_append,List.take_append_drop]
 have h2:(markB k l).getD i default=(k+bw (l.take i),marksI (k+bw (l.take i)+1) (l.getD i default).2.length):=by
  rw [h1]
  have:(markB k (l.take i)).length=i:=by simp;omega
  simp [List.getElem?_append,this]
 have h3:l.getD i default=(markB k l).getD i default:=by rw [←e]
 rw [h2] at h3
 exact ⟨congrArg Prod.fst h3,congrArg Prod.snd h3⟩
theorem markB_idem:∀(l:List Blok) (k:Int),markB k (markB k l)=markB k l
 |[],_=>rfl
 |b::l,k=>by simp only [markB,marksI_len];rw [markB_idem l]
instance heldBlockS_c:Con 168 (∀ (l:List Blok) (k:Int),(bw l≤1048576∧0≤k∧k≤1073741824)∧l=markB k l→Fn 168 [BkL l,I k] [] (I (k+bw l))):=⟨fun l k hk=>by
 obtain ⟨hk,hm⟩:=hk
 refine FnC.of_body tabOk Tryz.func168 Tryz.ntmps168 rfl (by decide +kernel) (by simp) fun G=>?_
 have hbw:bw l=l.length+(l.map bn).sum:=rfl
 refine go (r:=?_);and_intros<;>intros<;>try exact True.intro
 refine WpA.loop (fun i:Nat=>⟨[(0,BkL l),(1,I (k+bw (l.take i))),(5,I i)],[]⟩) (fun i=>i≤l.length) (fun i=>l.length-i) 0 (by simp) (go (r:=?_)) (fun i hi=>?_)
 ·simp [bw_nil]
 have hsm:=smB_of hk.1
 have hle:=bw_take_le l i
 have hle2:=bw_take_le l (i+1)
 have hg:=fun h=>smB_get hsm (k:=i) h
 have hbt:=fun h=>bw_take l i h
 have hget:=fun h=>markB_get l i h k hm
 by_cases hlt:i<l.length
 ·obtain ⟨h1,h2⟩:=hget hlt
  have hg:=hg hlt
  have hbt:=hbt hlt
  refine go (r:=?_);and_intros<;>intros<;>try exact True.intro
  all_goals first|contradiction|omega|(exact Nat.le_trans hg (by decide))|(rename_i hg0;rw [if_pos h2] at hg0;omega)
 ·refine go (r:=?_);and_intros<;>intros<;>try exact True.intro
  all_goals first|contradiction|omega|(have e:i=l.length:=by omega);subst e;rw [List.take_length]⟩
instance eqMb_c:Con 166 (∀ (e:Bool) (l:List Blok) (e2:Bool) (l2:List Blok),l.length≤1099511627776∧l2.length≤1099511627776∧SmB 1099511627776 l∧SmB 1099511627776 l2→Fn 166 [.agg [B e,BkL l],.agg [B e2,BkL l2]] [] (B (decide (e=e2∧l=l2)))):=⟨fun e l e2 l2 hl=>by
 refine FnC.of_body tabOk Tryz.func166 Tryz.ntmps166 rfl (by decide +kernel) (by simp) fun G=>?_
 refine go (r:=?_);and_intros<;>intros<;>try exact True.intro
 all_goals simp_all⟩
instance eqMbS_c:Con 97 (∀ xs ys:List Mbk,xs.length≤1099511627776∧ys.length≤1099511627776∧SmM 1099511627776 xs∧SmM 1099511627776 ys→Fn 97 [MbL xs,MbL ys] [] (B (decide (xs=ys)))):=⟨fun xs ys hl=>by
 refine FnC.of_body tabOk Tryz.func97 Tryz.ntmps97 rfl (by decide +kernel) (by simp) fun G=>?_
 refine go (r:=?_);and_intros<;>intros<;>try exact True.intro
 ·simp;intro h;subst h;simp_all
 ·refine WpA.loop (fun k:Nat=>⟨[(0,MbL xs),(1,MbL ys),(5,I k)],[]⟩) (fun k=>k≤xs.length∧∀j<k,xs.getD j default=ys.getD j default) (fun k=>xs.length-k) 0 (by simp) (go (r:=trivial)) (fun k hk=>?_)
  have hg:=fun h=>smM_get hl.2.2.1 (k:=k) h
  have hg2:=fun h=>smM_get hl.2.2.2 (k:=k) h
  refine go (r:=?_);and_intros<;>intros<;>try exact True.intro
  all_goals first|exact (hg (by omega)).1|exact (hg (by omega)).2|exact (hg2 (by omega)).1|exact (hg2 (by omega)).2|skip
  ·simp;rintro rfl;simp_all
  ·rename_i j hj;by_cases h:j=k
   ·subst h;apply Prod.ext<;>simp_all
   ·exact hk.2 j (by omega)
  ·have:=eq_all default (xs:=xs) (ys:=ys) (by omega) (fun j hj=>hk.2 j (by omega))
   simp [this]⟩
def markM:Int→List Mbk→List Mbk
 |_,[]=>[]
 |k,m::l=>(decide (k%3=0),markB (k+1) m.2)::markM (k+1+bw m.2) l
theorem mw_nil:mw []=0:=rfl
theorem mw_cons (b:Mbk) (l:List Mbk):mw (b::l)=mw l+1+bw b.2:=by unfold mw;rw [List.map_cons,List.sum_cons,List.length_cons];unfold mn;omega
theorem mw_append (a b:List Mbk):mw (a++b)=mw a+mw b:=by unfold mw;rw [List.map_append,List.sum_append,List.length_append];omega
theorem markM_append:∀(a b:List Mbk) (k:Int),markM k (a++b)=markM k a++markM (k+mw a) b
 |[],b,k=>by simp [markM,mw_nil]
 |x::a,b,k=>by
  rw [List.cons_append,markM,markM,markM_append a b,mw_cons,List.cons_append]
  congr 3;omega
@[simp] theorem markM_len:∀(l:List Mbk) (k:Int),(markM k l).length=l.length
 |[],k=>rfl
 |b::l,k=>by rw [markM,List.length_cons,List.length_cons,markM_len l]
theorem mw_take (l:List Mbk) (i:Nat) (h:i<l.length):mw (l.take (i+1))=mw (l.take i)+1+bw (l.getD i default).2:=by
 rw [take_snoc l i h,mw_append,mw_cons,mw_nil];omega
theorem mw_take_le (l:List Mbk) (i:Nat):mw (l.take i)≤mw l:=by
 conv=>rhs;rw [←List.take_append_drop i l,mw_append]
 exact Nat.le_add_right _ _
theorem markM_take (l:List Mbk) (i:Nat) (h:i<l.length) (k:Int):markM k (l.take (i+1))=markM k (l.take i)++[(decide ((k+mw (l.take i))%3=0),markB (k+mw (l.take i)+1) (l.getD i default).2)]:=by
 rw [take_snoc l i h,markM_append];rfl
instance markMbS_c:ConG 101 (∀ (l:List Mbk) (k:Int),mw l≤1048576∧0≤k∧k≤536870912→Gn 101 [.own 0 0 0 l.length,I k] [MbN l] [MbN (markM k l)] [] (I (k+mw l))):=⟨fun l k hk=>by
 refine FnG.of_bodyF tabOk Tryz.func101 Tryz.ntmps101 rfl (by decide +kernel) (by simp) rfl rfl fun G=>?_
 have hmw:mw l=l.length+(l.map mn).sum:=rfl
 refine go (r:=?_);and_intros<;>intros<;>try exact True.intro
 refine WpA.loop (fun i:Nat=>⟨[(0,.own 0 0 0 l.length),(1,I (k+mw (l.take i))),(5,I i)],[MbN (markM k (l.take i)++l.drop i)]⟩) (fun i=>i≤l.length) (fun i=>l.length-i) 0 (by simp) (go (r:=?_)) (fun i hi=>?_)
 ·simp [markM,mw_nil]
 have hml:=markM_len (l.take i) k
 have hlt:i≤l.length→(l.take i).length=i:=fun h=>by simp;omega
 have hle:=mw_take_le l i
 have hle1:=mw_take_le l (i+1)
 have hlen:i≤l.length→(markM k (l.take i)++l.drop i).length=l.length:=fun h=>by rw [List.length_append,hml];simp;omega
 have hget:i<l.length→∀v,((markM k (l.take i)++l.drop i).set i v).getD i default=v:=fun h v=>by simp [hlen (by omega),h]
 have hmid:=fun h=>getD_mid (markM k (l.take i)) l i (by rw [hml,hlt (by omega)]) h
 have hbt:=fun h=>mw_take l i h
 refine go (r:=?_);and_intros<;>intros<;>try exact True.intro
 ·rw [hget (by omega)];simp only;rw [hmid (by omega)];have:=hbt (by omega);generalize l.getD i default=x at *;obtain ⟨m0,lv⟩:=x;simp only at *;omega
 ·rw [hget (by omega)];simp only;rw [hmid (by omega),hbt (by omega)];generalize l.getD i default=x;obtain ⟨m0,lv⟩:=x;simp only;omega
 ·rw [List.set_set,hget (by omega)];simp only;rw [hmid (by omega),set_mid _ _ _ (by rw [hml,hlt (by omega)]) (by omega),markM_take _ _ (by omega)]
 all_goals have e:i=l.length:=by omega
 all_goals subst e;simp⟩
theorem markM_idem:∀(l:List Mbk) (k:Int),markM k (markM k l)=markM k l
 |[],_=>rfl
 |b::l,k=>by simp only [markM,markB_idem,markB_bw];rw [markM_idem l]
theorem markM_mw:∀(l:List Mbk) (k:Int),mw (markM k l)=mw l
 |[],k=>rfl
 |b::l,k=>by rw [markM,mw_cons,mw_cons,markM_mw l];simp only [markB_bw]
theorem markM_get (l:List Mbk) (i:Nat) (h:i<l.length) (k:Int) (e:l=markM k l):(l.getD i default).1=decide ((k+mw (l.take i))%3=0)∧(l.getD i default).2=markB (k+mw (l.take i)+1) (l.getD i default).2:=by
 have h1:markM k l=(markM k (l.take i)++[(decide ((k+mw (l.take i))%3=0),markB (k+mw (l.take i)+1) (l.getD i default).2)])++markM (k+mw (l.take (i+1))) (l.drop (i+1)):=by
  rw [←markM_take l i h,←markM_append,List.take_append_drop]
 have h2:(markM k l).getD i default=(decide ((k+mw (l.take i))%3=0),markB (k+mw (l.take i)+1) (l.getD i default).2):=by
  rw [h1]
  have:(markM k (l.take i)).length=i:=by simp;omega
  simp [List.getElem?_append,this]
 have h3:l.getD i default=(markM k l).getD i default:=by rw [←e]
 rw [h2] at h3
 exact ⟨congrArg Prod.fst h3,congrArg Prod.snd h3⟩
instance heldMbS_c:Con 103 (∀ (l:List Mbk) (k:Int),(mw l≤1048576∧0≤k∧k≤536870912)∧l=markM k l→Fn 103 [MbL l,I k] [] (I (k+mw l))):=⟨fun l k hk=>by
 obtain ⟨hk,hm⟩:=hk
 refine FnC.of_body tabOk Tryz.func103 Tryz.ntmps103 rfl (by decide +kernel) (by simp) fun G=>?_
 have hmw:mw l=l.length+(l.map mn).sum:=rfl
 refine go (r:=?_);and_intros<;>intros<;>try exact True.intro
 refine WpA.loop (fun i:Nat=>⟨[(0,MbL l),(1,I (k+mw (l.take i))),(5,I i)],[]⟩) (fun i=>i≤l.length) (fun i=>l.length-i) 0 (by simp) (go (r:=?_)) (fun i hi=>?_)
 ·simp [mw_nil]
 have hle:=mw_take_le l i
 have hle2:=mw_take_le l (i+1)
 have hbt:=fun h=>mw_take l i h
 have hget:=fun h=>markM_get l i h k hm
 by_cases hlt:i<l.length
 ·obtain ⟨h1,h2⟩:=hget hlt
  have hbt:=hbt hlt
  have hbl:bw (l.getD i default).2≤1048576:=by omega
  refine go (r:=?_);and_intros<;>intros<;>try exact True.intro
  all_goals first|contradiction|omega
 ·refine go (r:=?_);and_intros<;>intros<;>try exact True.intro
  all_goals first|contradiction|omega|(have e:i=l.length:=by omega);subst e;rw [List.take_length]⟩
instance eqStream_c:Con 36 (∀ (w h q:Int) (b d:Bool) (l:List Int) (M:List Mbk) (w2 h2 q2:Int) (b2 d2:Bool) (l2:List Int) (M2:List Mbk),l.length≤1099511627776∧l2.length≤1099511627776∧M.length≤1099511627776∧M2.length≤1099511627776∧SmM 1099511627776 M∧SmM 1099511627776 M2→
 Fn 36 [StA w h q b d l M,StA w2 h2 q2 b2 d2 l2 M2] [] (B (decide ((w=w2∧h=h2∧q=q2∧b=b2∧d=d2∧l=l2)∧M=M2)))):=⟨fun w h q b d l M w2 h2 q2 b2 d2 l2 M2 hl=>by
 refine FnC.of_body tabOk Tryz.func36 Tryz.ntmps36 rfl (by decide +kernel) (by simp) fun G=>?_
 refine go (r:=?_);and_intros<;>intros<;>try (first|exact True.intro|(simp_all;done))⟩
instance markStream_c:ConG 41 (∀ (w h q:Int) (b d:Bool) (l:List Int) (M:List Mbk) (k:Int),l.length+mw M≤1048576∧0≤k∧k≤1024→
 Gn 41 [.agg [I w,I h,I q,B b,B d,.own 0 0 0 l.length,.own 1 0 0 M.length],I k] [IN l,MbN M] [IN (marksI k l.length),MbN (markM (k+l.length) M)] [] (I (k+l.length+mw M))):=⟨fun w h q b d l M k hk=>by
 refine FnG.of_bodyF tabOk Tryz.func41 Tryz.ntmps41 rfl (by decide +kernel) (by simp) rfl rfl fun G=>?_
 refine go (r:=?_);and_intros<;>intros<;>try exact True.intro⟩
instance heldHeader_c:Con 102 (∀ (w h q:Int) (b d:Bool) (l:List Int) (k:Int),(l.length≤1048576∧0≤k∧k≤1024)∧l=marksI k l.length→Fn 102 [HdA w h q b d l,I k] [] (I (k+l.length))):=⟨fun w h q b d l k hk=>by
 obtain ⟨hk,hm⟩:=hk
 refine FnC.of_body tabOk Tryz.func102 Tryz.ntmps102 rfl (by decide +kernel) (by simp) fun G=>?_
 refine go (r:=?_);and_intros<;>intros<;>try exact True.intro
 all_goals first|(rw [if_pos hm] at *;first|omega|contradiction|rfl)⟩
instance heldStream_c:Con 42 (∀ (w h q:Int) (b d:Bool) (l:List Int) (M:List Mbk) (k:Int),(l.length+mw M≤1048576∧0≤k∧k≤1024)∧l=marksI k l.length∧M=markM (k+l.length) M→
 Fn 42 [StA w h q b d l M,I k] [] (I (k+l.length+mw M))):=⟨fun w h q b d l M k hk=>by
 obtain ⟨hk,hm,hM⟩:=hk
 refine FnC.of_body tabOk Tryz.func42 Tryz.ntmps42 rfl (by decide +kernel) (by simp) fun G=>?_
 refine go (r:=?_);and_intros<;>intros<;>try exact True.intro
 all_goals first|omega|contradiction⟩
end Go.Proofs.YtainhhfnnclfiaaGreat


namespace Go.Proofs.YtainhhfnnclfiaaGreat
open Go Go.Abs
attribute [local irreducible] WpA WpL Rnd Blk Abs.Seq Abs.Fin Abs.FinG FnC FnG Only
def mbF (l:List Int) (m:Mbk):List Int:=mbbL m.1 m.2 l
def stK (w h q:Int) (b d:Bool) (l:List Int) (M:List Mbk) (k:Nat):List Int:=hdL w h q b d l++(M.take k).flatMap (mbF l)
end Go.Proofs.YtainhhfnnclfiaaGreat


namespace Go.Proofs.YtainhhfnnclfiaaGreat
open Go Go.Abs
attribute [local irreducible] WpA WpL Rnd Blk Abs.Seq Abs.Fin Abs.FinG FnC FnG Only
def numS (l:List Int) (k:Nat):Int:=(l.take k).foldl (fun n b=>n*2+b) 0
def byI (x:List Int) (k:Nat):List Int:=(List.range k).map fun i=>numS ((x.drop (8*i)).take 8) 8
def strS (x:List Int):List UInt8:=(byI x (x.length/8)).map fun n:Int=>UInt8.ofNat n.toNat
def padN (n:Nat):Nat:=(8-(n+1)%8)%8
def padL (b:List Int) (j:Nat):List Int:=b++[1]++List.replicate j 0
def stopS (b:List Int):List UInt8:=strS (padL b (padN b.length))
def unpS (w h q:Int) (b d:Bool) (l:List Int) (M:List Mbk):List UInt8:=if StOk w h q l M then stopS (stK w h q b d l M M.length) else []
end Go.Proofs.YtainhhfnnclfiaaGreat


namespace Go.Proofs.YtainhhfnnclfiaaGreat
open Go Go.Abs
abbrev kR (b:Int):Int→Int:=fun y=>ifE (y<b) 5
abbrev kL:Int→Int:=fun y=>ifE (-16383≤lvOf y∧lvOf y≤16383) 5
section
variable {P:Program} {n m:Nat} {G:Ctx} {T:List (Nat×AV)} {R:List AObj} {Q:Exit→St→Prop} {ops:Array Oper} {l:List Oper} {tt:TypeId} {pos:String} {after:Array Edge}
end
attribute [local irreducible] WpA WpL Rnd Blk Abs.Seq Abs.Fin Abs.FinG FnC FnG Only
end Go.Proofs.YtainhhfnnclfiaaGreat


namespace Go.Proofs.YtainhhfnnclfiaaGreat
open Go Go.Abs
end Go.Proofs.YtainhhfnnclfiaaGreat


namespace Go.Proofs.YtainhhfnnclfiaaGreat
open Go Go.Abs
attribute [local irreducible] WpA WpL Rnd Blk Abs.Seq Abs.Fin Abs.FinG FnC FnG Only
end Go.Proofs.YtainhhfnnclfiaaGreat


namespace Go.Abs
open Go
section
variable {P:Program} (w:World)
end
section
variable {P:Program} {n m:Nat} {G:Ctx} {T:List (Nat×AV)} {O:List AObj} {Q:Exit→St→Prop} {ops:Array Oper} {l:List Oper} {d:Nat} {tt:TypeId} {pos:String} {after:Array Edge} {tab:List (Nat×Ty)}
end
end Go.Abs


namespace Go.Proofs.YtainhhfnnclfiaaGreat
open Go Go.Abs
attribute [local irreducible] WpA WpL Rnd Blk Abs.Seq Abs.Fin Abs.FinG FnC FnG Only
end Go.Proofs.YtainhhfnnclfiaaGreat


namespace Go.Proofs.YtainhhfnnclfiaaGreat
open Go Go.Abs
attribute [local irreducible] WpA WpL Rnd Blk Abs.Seq Abs.Fin Abs.FinG FnC FnG Only
def Bits (l:List Int):Prop:=∀x∈l,x=0∨x=1
end Go.Proofs.YtainhhfnnclfiaaGreat


namespace Go.Proofs.YtainhhfnnclfiaaGreat
open Go Go.Abs
attribute [local irreducible] WpA WpL Rnd Blk Abs.Seq Abs.Fin Abs.FinG FnC FnG Only
end Go.Proofs.YtainhhfnnclfiaaGreat


namespace Go.Proofs.YtainhhfnnclfiaaGreat
open Go Go.Abs
attribute [local irreducible] WpA WpL Rnd Blk Abs.Seq Abs.Fin Abs.FinG FnC FnG Only
def pvC (p:List UInt8) (s room:Int):Int:=fuC p (fuA p s 0 (kR room)) (fuC p s 0 (kR room)) kL
def pvA (p:List UInt8) (s room:Int):Int:=fuA p (fuA p s 0 (kR room)) (fuC p s 0 (kR room)) kL
def pvR (p:List UInt8) (s room:Int):Int:=if pvC p s room=0 then fuV p s 0 (kR room) else 0
def pvL (p:List UInt8) (s room:Int):Int:=if pvC p s room=0 then lvOf (fuV p (fuA p s 0 (kR room)) (fuC p s 0 (kR room)) kL) else 0
section
attribute [local irreducible] ueA ueV ueC pvC pvA pvR pvL lvOf
end
section
attribute [local irreducible] rbA rbV ueA ueV ueC pvC pvA pvR pvL lvOf lvS lvRun
end
section
attribute [local irreducible] lvS smA smV smC blS
end
section
attribute [local irreducible] rbA rbV blS mbS mbRun sz8 nm8
end
end Go.Proofs.YtainhhfnnclfiaaGreat


namespace Go.Proofs.YtainhhfnnclfiaaGreat
open Go Go.Abs
end Go.Proofs.YtainhhfnnclfiaaGreat


namespace Go.Proofs.YtainhhfnnclfiaaGreat
open Go Go.Abs
attribute [local irreducible] WpA WpL Rnd Blk Abs.Seq Abs.Fin Abs.FinG FnC FnG Only
end Go.Proofs.YtainhhfnnclfiaaGreat


namespace Go.Proofs.YtainhhfnnclfiaaGreat
open Go Go.Abs
attribute [local irreducible] WpA WpL Rnd Blk Abs.Seq Abs.Fin Abs.FinG FnC FnG Only
end Go.Proofs.YtainhhfnnclfiaaGreat


namespace Go.Proofs.YtainhhfnnclfiaaGreat
open Go Go.Abs
attribute [local irreducible] WpA WpL Rnd Blk Abs.Seq Abs.Fin Abs.FinG FnC FnG Only
def chO (q:Int) (L ms:List Int):Chs:=fun c _ _ _ _ _ _ _=>modeF q L ms c
theorem modeF_has {q:Int} {L ms:List Int} {k:Int} (h:OptOk q L) (hk:0≤k):HasC L (modeF q L ms k):=by
 have hf:=firstM_has h.2
 rw [modeF,if_pos ⟨h,hk⟩]
 split
 ·rename_i hh;exact hh.2
 ·exact (has_code h.2 hf.1).2 hf.2
theorem choose_c (q:Int) (b d:Bool) (L ms:List Int) (es:List Bool) (hl:L.length≤1099511627776∧ms.length≤1099511627776):ChG 69 [I q,B b,B d,IL L,IL ms,BL es] (chO q L ms):=fun c k t l co a bb n hc=>by
 unfold chO
 refine FnC.of_body tabOk Tryz.func69 Tryz.ntmps69 rfl (by decide +kernel) (by simp) fun G=>?_
 refine go (r:=?_);and_intros<;>intros<;>try exact True.intro
 all_goals first|contradiction|omega
abbrev enA (w h q:Int) (b:Bool) (L ms F:List Int):EncA:=⟨w,h,q,b,L,F,chO q L ms⟩
def encT (w h q:Int) (b:Bool) (L ms F:List Int) (es:List Bool):List Mbk:=encS (enA w h q b L ms F) (eiF es)
theorem encT_ok {w h q:Int} {b:Bool} {L ms F:List Int} {es:List Bool} (hF:FrameOk w h F) (ho:OptOk q L):StOk w h q L (encT w h q b L ms F es):=
 encS_ok (a:=enA w h q b L ms F) ho hF (fun c P x y n hf=>modeF_has ho (Int.natCast_nonneg _)) (eiF es)
section
attribute [local irreducible] encM encS refL
theorem EncodeStream_1 (w h q:Int) (b d:Bool) (L ms F:List Int) (es:List Bool) (hF:FrameOk w h F) (ho:OptOk q L) (hl:ms.length≤1099511627776∧es.length≤1099511627776):
 Fn 22 [FrA w h F,OpA q b d L ms es] [] (.tup [StA w h q b d L (encT w h q b L ms F es),FrA w h (refL w h q b d (encT w h q b L ms F es))]):=by
 have hfo:=decide_eq_true hF
 have hoo:=decide_eq_true ho
 have hL6:L.length=6:=ho.2.2.1
 have hFl:F.length≤1024:=by
  have h2:w*h≤32*32:=Int.mul_le_mul hF.1.2.1 hF.1.2.2.2.1 (by have:=hF.1.2.2.1;omega) (by have:=hF.1.1;omega)
  have:=hF.2.1
  omega
 have hel:(encT w h q b L ms F es).length=(cntM w h).toNat:=by have:=(encT_ok (b:=b) (ms:=ms) (es:=es) hF ho).2.1;omega
 have hz:=encode_o w h q b d L ms F es 69 [I q,B b,B d,IL L,IL ms,BL es] (chO q L ms) hF ho hl (choose_c q b d L ms es ⟨by omega,hl.1⟩)
 have hM2:(encM (enA w h q b L ms F) (eiF es) (zerP w h) (cntM w h).toNat).1=encT w h q b L ms F es:=by unfold encT encS;rfl
 have hP2:endL w h q d (encM (enA w h q b L ms F) (eiF es) (zerP w h) (cntM w h).toNat).2.1=refL w h q b d (encT w h q b L ms F es):=(encS_ref (enA w h q b L ms F) (eiF es) d).symm
 rw [hM2,hP2] at hz
 have hzz:=FnC.stillT hz (rs':=[StA w h q b d L (encT w h q b L ms F es),FrA w h (refL w h q b d (encT w h q b L ms F es))]) (.agg (.keep rfl rfl (.keep rfl rfl (.keep rfl rfl (.keep rfl rfl (.keep rfl rfl (.keep rfl rfl (.own rfl rfl rfl (by show (cntM w h).toNat*2=_;rw [len_mG,hel]) hel.symm (Snap.rows snap_mG _) .nil))))))) (.agg (.keep rfl rfl (.keep rfl rfl (.keep rfl rfl .nil))) .nil))
 generalize encT w h q b L ms F es=M at*
 generalize refL w h q b d M=P at*
 refine FnC.of_bodyM tabOk Tryz.func22 Tryz.ntmps22 rfl (by decide +kernel) (by simp) fun G hM=>?_
 refine WpA.seq ?_
 refine WpA.cut (σ1:=⟨[(3,.ptr 1 0 0),(2,.ptr 0 0 0),(4,.ptr 2 0 0),(5,.ptr 3 0 0)],[FrO w h F,OpO q b d L ms es,⟨[I 0,I 0,I 0,B false,B false,.nilS,.nilS],0,0,none⟩,⟨[I 0,I 0,.nilS],0,0,none⟩]⟩) ?_ ?_
 ·refine goR (r:=?_);and_intros<;>intros<;>try exact True.intro
  all_goals first|contradiction|omega
 refine Abs.Seq.n ?_
 refine WpA.freezeP hM rfl (Nat.zero_le _) rfl rfl rfl rfl ?_
 refine goR (r:=?_);and_intros<;>intros<;>try exact True.intro
 all_goals first|contradiction|omega|skip
 refine K.call ?_
 refine WpL.callKF hzz (fun hh=>KeepL.fnEnd (vs:=[_,_]) (us:=[_,_]) (.agg (.keep rfl rfl (.keep rfl rfl (.keep rfl rfl .nil))) (.agg (.keep rfl rfl (.keep rfl rfl (.keep rfl rfl (.keep rfl rfl (.keep rfl rfl (.keep rfl rfl .nil)))))) .nil)) hh) (by decide) ?_
 refine goR (r:=?_);and_intros<;>intros<;>try exact True.intro
 all_goals first|contradiction|omega
end
end Go.Proofs.YtainhhfnnclfiaaGreat


namespace Go.Proofs.YtainhhfnnclfiaaGreat
open Go Go.Abs
attribute [local irreducible] WpA WpL Rnd Blk Abs.Seq Abs.Fin Abs.FinG FnC FnG Only
theorem runF_snoc (q:Int) (f:List Int) (E:List (Nat×Nat)) (e s:Nat) (l:List Int):runF q f (E++[(e,s)]) l=edg q e s f (runF q f E l):=by rw [runF_app];rfl
theorem runF_nil (q:Int) (f l:List Int):runF q f [] l=l:=rfl
theorem vx_zero (w y:Nat):vx w y 0=[]:=rfl
theorem vy_zero (w a:Nat):vy w a 0=[]:=rfl
theorem row_le {w h y:Nat} (hy:y<h):y*w+w≤w*h:=by
 have:=Nat.mul_le_mul_right w (show y+1≤h by omega)
 rw [Nat.add_mul,Nat.one_mul,Nat.mul_comm h w] at this;exact this
theorem in4_of {f:List Int} (hf:In f 0 255) (a b c d:Nat):In [f.getD a 0,f.getD b 0,f.getD c 0,f.getD d 0] 0 255:=by
 have h1:=in_getZ255 hf a
 have h2:=in_getZ255 hf b
 have h3:=in_getZ255 hf c
 have h4:=in_getZ255 hf d
 unfold In
 intro v hv
 simp only [List.mem_cons,List.not_mem_nil,or_false] at hv
 rcases hv with rfl|rfl|rfl|rfl<;>assumption
abbrev FrOkN (w h:Nat) (f:List Int):Prop:=(w%8=0∧8≤w∧w≤64)∧(h%8=0∧8≤h∧h≤64)∧f.length=w*h∧In f 0 255
attribute [local irreducible] runF vx vy
instance l20Across_s:ConG 164 (∀ (w h:Nat) (f l:List Int) (W2 H2 q:Int) (a b:Nat),FrOkN w h f∧l.length=w*h∧a≤b∧b≤h→
 Gn 164 [FrA w h f,.agg [I W2,I H2,.own 0 0 0 l.length],I q,I a,I b] [IN l] [IN (runF q f (vy w a (b-a)) l)] [] (.agg [I W2,I H2,.own 0 0 0 l.length])):=⟨fun w h f l W2 H2 q a b hh=>by
 obtain ⟨⟨⟨hw,hw8,hw64⟩,⟨hh8,hh0,hh64⟩,hfl,hin⟩,hll,hab,hbh⟩:=hh
 have hwh:w*h≤64*64:=Nat.mul_le_mul hw64 hh64
 refine FnG.of_bodyF tabOk Tryz.func164 Tryz.ntmps164 rfl (by decide +kernel) (by simp) rfl rfl fun G=>?_
 refine go (r:=?_);and_intros<;>intros<;>try exact True.intro
 all_goals first|contradiction|omega|skip
 refine WpA.loop (fun k:Nat=>⟨[(2,I q),(4,I b),(5,.ptr 1 0 0),(6,.ptr 2 0 0),(10,.ptr 3 0 0),(11,I ((a+k:Nat):Int))],[IN (runF q f (vy w a k) l),FrO w h f,⟨[I W2,I H2,.own 0 0 0 l.length],0,0,none⟩,⟨[I 0,I 0,.nilS],0,0,none⟩]⟩) (fun k=>k≤b-a) (fun k=>b-a-k) 0 (by omega) (go (r:=?_)) (fun k hk=>?_)
 ·and_intros<;>first|exact True.intro|rfl|(rw [vy_zero,runF_nil];done)
 obtain ⟨y,hy⟩:∃y,a+k=y:=⟨_,rfl⟩
 have hkl:=runF_len q f (vy w a k) l
 by_cases hlt:k<b-a
 ·have hyh:y<h:=by omega
  have hrow:=row_le (w:=w) hyh
  have hyn:a+(k+1)=y+1:=by omega
  have hvs:=vy_succ w a k
  rw [hy] at hvs
  rw [hy]
  obtain ⟨m,hm⟩:∃m,y*w=m:=⟨_,rfl⟩
  have hpm:(y:Int)*(w:Int)=(m:Int):=by rw [←hm,Int.natCast_mul]
  rw [hm] at hrow
  refine go (r:=?_);and_intros<;>intros<;>try exact True.intro
  all_goals first|contradiction|omega|skip
  refine WpA.loop (fun j:Nat=>⟨[(2,I q),(4,I b),(5,.ptr 1 0 0),(6,.ptr 2 0 0),(10,.ptr 3 0 0),(11,I (y:Int)),(12,I (8*(j:Int)+8))],[IN (runF q f (vy w a k++vx w y j) l),FrO w h f,⟨[I W2,I H2,.own 0 0 0 l.length],0,0,none⟩,⟨[I 0,I 0,.nilS],0,0,none⟩]⟩) (fun j=>j≤w/8-1) (fun j=>w/8-1-j) 0 (by omega) (go (r:=?_)) (fun j hj=>?_)
  ·and_intros<;>first|exact True.intro|rfl|(rw [vx_zero,List.append_nil];done)
  have hjl:=runF_len q f (vy w a k++vx w y j) l
  by_cases hlt2:j<w/8-1
  ·have hst:=runF_snoc q f (vy w a k++vx w y j) (m+(8*j+8)) 1 l
   have hvx:=vx_succ w y j
   rw [hm] at hvx
   rw [List.append_assoc,←hvx] at hst
   have e0:((y:Int)*(w:Int)+(8*(j:Int)+8)).toNat=m+(8*j+8):=by rw [hpm];omega
   have e1:((y:Int)*(w:Int)+(8*(j:Int)+8)-1).toNat=m+(8*j+8)-1:=by rw [hpm];omega
   have e2:((y:Int)*(w:Int)+(8*(j:Int)+8)-2).toNat=m+(8*j+8)-2:=by rw [hpm];omega
   have e3:((y:Int)*(w:Int)+(8*(j:Int)+8)+1).toNat=m+(8*j+8)+1:=by rw [hpm];omega
   have h4:=in4_of hin ((y:Int)*(w:Int)+(8*(j:Int)+8)-2).toNat ((y:Int)*(w:Int)+(8*(j:Int)+8)-1).toNat ((y:Int)*(w:Int)+(8*(j:Int)+8)).toNat ((y:Int)*(w:Int)+(8*(j:Int)+8)+1).toNat
   unfold edg at hst
   refine goR (r:=?_);and_intros<;>intros<;>try exact True.intro
   all_goals first|contradiction|omega|skip
   apply WpA.regionMG 29 mixed (by decide +kernel)
   ·exact rfl
   ·exact headG
   ·exact trueA
   ·exact trueA
   ·exact rfl
   ·exact rfl
   refine goR (r:=?_);and_intros<;>intros<;>try exact True.intro
   all_goals first|contradiction|omega|(rw [hst,e0,e1,e2,e3];done)
  ·obtain rfl:j=w/8-1:=by omega
   refine go (r:=?_);and_intros<;>intros<;>try exact True.intro
   all_goals first|contradiction|omega|(rw [hvs];done)
 ·obtain rfl:k=b-a:=by omega
  have hyb:y=b:=by omega
  rw [hy,hyb]
  refine go (r:=?_);and_intros<;>intros<;>try exact True.intro
  all_goals first|contradiction|omega⟩
end Go.Proofs.YtainhhfnnclfiaaGreat


namespace Go.Proofs.YtainhhfnnclfiaaGreat
open Go Go.Abs
attribute [local irreducible] WpA WpL Rnd Blk Abs.Seq Abs.Fin Abs.FinG FnC FnG Only
theorem hx_zero (w y:Nat):hx w y 0=[]:=rfl
attribute [local irreducible] runF hx
instance l20Down_s:ConG 165 (∀ (w h:Nat) (f l:List Int) (W2 H2 q:Int) (y:Nat),FrOkN w h f∧l.length=w*h∧2≤y∧y+1<h→
 Gn 165 [FrA w h f,.agg [I W2,I H2,.own 0 0 0 l.length],I q,I y] [IN l] [IN (runF q f (hx w y w) l)] [] (.agg [I W2,I H2,.own 0 0 0 l.length])):=⟨fun w h f l W2 H2 q y hh=>by
 obtain ⟨⟨⟨hw,hw8,hw64⟩,⟨hh8,hh0,hh64⟩,hfl,hin⟩,hll,hy2,hyh⟩:=hh
 have hwh:w*h≤64*64:=Nat.mul_le_mul hw64 hh64
 have hr1:=Nat.mul_le_mul_right w hy2
 have hr2:=row_le (w:=w) hyh
 rw [Nat.add_mul,Nat.one_mul] at hr2
 obtain ⟨m,hm⟩:∃m,y*w=m:=⟨_,rfl⟩
 have hpm:(y:Int)*(w:Int)=(m:Int):=by rw [←hm,Int.natCast_mul]
 rw [hm] at hr1 hr2
 refine FnG.of_bodyF tabOk Tryz.func165 Tryz.ntmps165 rfl (by decide +kernel) (by simp) rfl rfl fun G=>?_
 refine go (r:=?_);and_intros<;>intros<;>try exact True.intro
 all_goals first|contradiction|omega|skip
 refine WpA.loop (fun k:Nat=>⟨[(2,I q),(3,I y),(4,.ptr 1 0 0),(5,.ptr 2 0 0),(8,.ptr 3 0 0),(9,I w),(10,I k)],[IN (runF q f (hx w y k) l),FrO w h f,⟨[I W2,I H2,.own 0 0 0 l.length],0,0,none⟩,⟨[I 0,I 0,.nilS],0,0,none⟩]⟩) (fun k=>k≤w) (fun k=>w-k) 0 (by omega) (go (r:=?_)) (fun k hk=>?_)
 ·and_intros<;>first|exact True.intro|rfl|(rw [hx_zero,runF_nil];done)
 have hkl:=runF_len q f (hx w y k) l
 by_cases hlt:k<w
 ·have hst:=runF_snoc q f (hx w y k) (m+k) w l
  have hvx:=hx_succ w y k
  rw [hm] at hvx
  rw [←hvx] at hst
  have e0:((y:Int)*(w:Int)+(k:Int)).toNat=m+k:=by rw [hpm];omega
  have e1:((y:Int)*(w:Int)+(k:Int)-(w:Int)).toNat=m+k-w:=by rw [hpm];omega
  have e2:((y:Int)*(w:Int)+(k:Int)-2*(w:Int)).toNat=m+k-2*w:=by rw [hpm];omega
  have e3:((y:Int)*(w:Int)+(k:Int)+(w:Int)).toNat=m+k+w:=by rw [hpm];omega
  have h4:=in4_of hin ((y:Int)*(w:Int)+(k:Int)-2*(w:Int)).toNat ((y:Int)*(w:Int)+(k:Int)-(w:Int)).toNat ((y:Int)*(w:Int)+(k:Int)).toNat ((y:Int)*(w:Int)+(k:Int)+(w:Int)).toNat
  unfold edg at hst
  refine goR (r:=?_);and_intros<;>intros<;>try exact True.intro
  all_goals first|contradiction|omega|skip
  apply WpA.regionMG 33 mixed (by decide +kernel)
  ·exact rfl
  ·exact headG
  ·exact trueA
  ·exact trueA
  ·exact rfl
  ·exact rfl
  refine goR (r:=?_);and_intros<;>intros<;>try exact True.intro
  all_goals first|contradiction|omega|(simp only [e0,e1,e2,e3,hm];exact hst.symm)
 ·obtain rfl:k=w:=by omega
  refine go (r:=?_);and_intros<;>intros<;>try exact True.intro
  all_goals first|contradiction|omega⟩
end Go.Proofs.YtainhhfnnclfiaaGreat


namespace Go.Proofs.YtainhhfnnclfiaaGreat
open Go Go.Abs
attribute [local irreducible] WpA WpL Rnd Blk Abs.Seq Abs.Fin Abs.FinG FnC FnG Only
attribute [local irreducible] runF vx vy hx
end Go.Proofs.YtainhhfnnclfiaaGreat


namespace Go.Abs
open Go
section
variable {P:Program} {n m:Nat} {G:Ctx} {T:List (Nat×AV)} {O:List AObj} {Q:Exit→St→Prop} {ops:Array Oper} {l:List Oper} {tt:TypeId} {pos:String} {after:Array Edge} {tab:List (Nat×Ty)}
theorem callG_relH {f:FuncId} {xs:List Operand} {As:List AV} {M M' N:List AObj} {r:AV} {hs:List Nat} (hc:FnG P f As M M' N r) (hh:Hand O hs (xs.map (av T)) As) (hM:HandO O hs M) (hnd:hs.Nodup) (hlen:M'.length=M.length)
 (hsz:∀(j:Nat) (a b:AObj),M[j]?=some a→M'[j]?=some b→b.size=a.size) (hM':Out M') (hN:Out N) {a:Act} {w:World} (hr:Rel n m G ⟨T,O⟩ a w):
 Calls P f (xs.map a.eval).toArray w fun e w'=>∃v,e=.returned v∧∃S ι F S' ι',RelAt n m G S ι F ⟨T,newO hs M' 0 O++N⟩ a w'∧VRel S' w' ι' (M'++N) r v []∧(∀ (j id:Nat),hs[j]?=some id→ι id=ι' j)∧(∀ k:Nat,ι (O.length+k)=ι' (M.length+k)):=by
 obtain ⟨S,ι,F,hr⟩:=hr
 obtain ⟨⟨fn,hf,hb,hnm⟩,hcall⟩:=hc
 obtain ⟨hlM,hatM⟩:=hM.at
 let S2:Nat→Prop:=fun b=>b<w.heap.size∧∀id∈hs,b ∉ F id
 let ιM:Nat→Spot:=fun j=>match hs[j]? with|some id=>ι id|none=>none
 let FM:Nat→List Nat:=fun j=>match hs[j]? with|some id=>F id|none=>[]
 have hιM:∀(j id:Nat),hs[j]?=some id→ιM j=ι id:=fun j id h=>by show (match hs[j]? with|some id=>ι id|none=>none)=_;rw [h]
 have hFM:∀(j id:Nat),hs[j]?=some id→FM j=F id:=fun j id h=>by show (match hs[j]? with|some id=>F id|none=>[])=_;rw [h]
 have hidl:∀(j id:Nat),hs[j]?=some id→id<O.length:=fun j id h=>by
  have hj:j<M.length:=by rw [←hlM];exact (List.getElem?_eq_some_iff.1 h).1
  obtain ⟨id',ob,e1,e2,_⟩:=hatM j _ (List.getElem?_eq_getElem hj)
  rw [h] at e1;cases e1;exact (List.getElem?_eq_some_iff.1 e2).1
 have hmem:∀id∈hs,∃j,j<M.length∧hs[j]?=some id:=fun id h=>by
  obtain ⟨j,hj,e⟩:=List.getElem_of_mem h
  exact ⟨j,by omega,by rw [List.getElem?_eq_getElem hj,e]⟩
 have hex:∀j,j<M.length→∃id,hs[j]?=some id:=fun j hj=>⟨hs[j],List.getElem?_eq_getElem (by omega)⟩
 have hSS:∀b,S b→S2 b:=fun b hb=>⟨hr.stable b hb,fun id hid hbf=>by
  obtain ⟨j,hj,e⟩:=hmem id hid
  exact (hr.foot id (hidl j id e) b hbf).2.1 hb⟩
 have hOM:ORel S2 w ιM M FM:=by
  refine ⟨fun j mb hj=>?_,fun j hj=>?_,fun i j hi hj hij b hb=>?_⟩
  ·obtain ⟨id,ob,e1,e2,e3,e4,e5,e6,e7⟩:=hatM j mb hj
   rw [hιM j id e1,hFM j id e1]
   have ho:=hr.objs.obj id ob e2
   unfold ObjAt at ho ⊢
   cases hs':ι id with
   |none=>rw [hs'] at ho;rw [←e3];exact ho
   |some p=>
    obtain ⟨b,k⟩:=p
    rw [hs'] at ho
    obtain ⟨cur',t',fz',f2,q1,q2,q3,q4,q5,q6,q7⟩:=ho
    refine ⟨cur',t',fz',f2,q1,q2,q3,by rw [←e3];exact q4,q5,fun e he=>?_,?_⟩
    ·rcases e7 with e7|e7
     ·rw [e7] at he;cases he
     ·exact q6 e (by rw [←e7];exact he)
    ·rw [←e3]
     exact still_all (by rw [e3];exact e4) q7 hSS (fun _ _=>rfl) (fun _ _=>rfl)
  ·obtain ⟨id,e⟩:=hex j hj
   rw [hFM j id e];exact hr.objs.nodup id (hidl j id e)
  ·obtain ⟨id1,e1⟩:=hex i hi
   obtain ⟨id2,e2⟩:=hex j hj
   rw [hFM i id1 e1] at hb;rw [hFM j id2 e2]
   exact hr.objs.apart id1 id2 (hidl i id1 e1) (hidl j id2 e2) (fun e=>hij (nodup_get hnd e1 (e▸e2))) b hb
 have hl:=hr.evals xs
 obtain ⟨f',hl2,hf'⟩:=hh.rel (S2:=S2) (ιM:=ιM) hM hιM hSS hr.objs (fun b h1 h2=>⟨h1,h2⟩) (fun id hid=>by obtain ⟨j,hj,e⟩:=hmem id hid;exact hidl j id e) hl (by simp)
 have hf0:f'=[]:=List.eq_nil_iff_forall_not_mem.2 fun b hb=>by simpa using hf' b hb
 subst hf0
 refine (hcall w S2 ιM FM (xs.map a.eval) (fun b h=>h.1) hOM (fun j hj b hb=>?_) hl2).mono fun e w' he=>?_
 ·obtain ⟨id,e⟩:=hex j hj
  rw [hFM j id e] at hb
  exact ⟨fun h=>h.2 id (List.mem_of_getElem? e) hb,(hr.foot id (hidl j id e) b hb).2.2⟩
 obtain ⟨v,S',ι',F',rfl,hS1,hS2,hS3,hι',hO',hF',hv,hk⟩:=he
 refine ⟨v,rfl,?_⟩
 have hold:∀b,b<w.heap.size→(∀ id∈hs,b ∉ F id)→w'.heap[b]?=w.heap[b]?:=fun b hb hn=>hk.block b hb (by
  rintro ⟨i,hi,hbf⟩
  obtain ⟨id,e⟩:=hex i hi
  rw [hFM i id e] at hbf
  exact hn id (List.mem_of_getElem? e) hbf)
 let S3:Nat→Prop:=fun b=>S b∨(S' b∧w.heap.size≤b)
 let ι3:Nat→Spot:=fun i=>if i<O.length then ι i else ι' (M.length+(i-O.length))
 let F3:Nat→List Nat:=fun i=>if i<O.length then (match findN hs i 0 with|some j=>F' j|none=>F i) else F' (M.length+(i-O.length))
 let O3:=newO hs M' 0 O++N
 have hl3:(newO hs M' 0 O).length=O.length:=newO_len hs M' 0 O
 have hO3lt:∀i,i<O.length→O3[i]?=(O[i]?).map (newOb hs M' i):=fun i hi=>by
  show (newO hs M' 0 O++N)[i]?=_
  rw [List.getElem?_append_left (by omega),newO_at,Nat.zero_add]
 have hO3ge:∀i,O.length≤i→O3[i]?=N[i-O.length]?:=fun i hi=>by
  show (newO hs M' 0 O++N)[i]?=_
  rw [List.getElem?_append_right (by omega),hl3]
 have hob:∀i ob,O[i]?=some ob→(newOb hs M' i ob).ep=ob.ep∧(newOb hs M' i ob).size=ob.size:=fun i ob h=>by
  unfold newOb
  cases hfd:findN hs i 0 with
  |none=>exact ⟨rfl,rfl⟩
  |some j=>
   cases hmj:M'[j]? with
   |none=>exact ⟨by simp [hmj],by simp [hmj]⟩
   |some mb=>
    obtain ⟨q,rfl,hq⟩:=findN_some hfd
    rw [Nat.zero_add] at hmj
    have hqm:q<M.length:=by rw [←hlM];exact (List.getElem?_eq_some_iff.1 hq).1
    obtain ⟨id',ob',e1,e2,_,_,_,e6,_⟩:=hatM q _ (List.getElem?_eq_getElem hqm)
    rw [hq] at e1;cases e1
    rw [h] at e2;cases e2
    simp only [Nat.zero_add,hmj,true_and]
    exact (hsz q _ _ (List.getElem?_eq_getElem hqm) hmj).trans e6
 have hlat:Later S w ι O S3 w' ι3 O3:=by
  refine ⟨fun b h=>.inl h,fun b hb=>hold b (hr.stable b hb) (hSS b hb).2,fun id ob h=>?_⟩
  have hlt:id<O.length:=(List.getElem?_eq_some_iff.1 h).1
  obtain ⟨h1,h2⟩:=hob id ob h
  exact ⟨newOb hs M' id ob,by rw [hO3lt id hlt,h];rfl,.inr ⟨h1,h2,by show (if _ then _ else _)=_;rw [if_pos hlt]⟩⟩
 have hF3f:∀(i j:Nat),i<O.length→findN hs i 0=some j→F3 i=F' j:=fun i j hi h=>by show (if _ then _ else _)=_;rw [if_pos hi,h]
 have hF3n:∀(i:Nat),i<O.length→findN hs i 0=none→F3 i=F i:=fun i hi h=>by show (if _ then _ else _)=_;rw [if_pos hi,h]
 have hF3g:∀(i:Nat),O.length≤i→F3 i=F' (M.length+(i-O.length)):=fun i hi=>by show (if _ then _ else _)=_;rw [if_neg (by omega)]
 have hlMN:(M'++N).length=M.length+N.length:=by rw [List.length_append,hlen]
 have hfind:∀(i j:Nat),findN hs i 0=some j→j<M.length∧hs[j]?=some i:=fun i j h=>by
  obtain ⟨q,rfl,hq⟩:=findN_some h
  rw [Nat.zero_add]
  exact ⟨by rw [←hlM];exact (List.getElem?_eq_some_iff.1 hq).1,hq⟩
 have hl3':O3.length=O.length+N.length:=by show (newO hs M' 0 O++N).length=_;rw [List.length_append,hl3]
 have hsrc:∀k,k<(M'++N).length→∀b∈F' k,((∃ id,id∈hs∧id<O.length∧b∈F id)∨w.heap.size≤b)∧¬S' b∧b<w'.heap.size:=fun k hk' b hb=>by
  obtain ⟨q1,q2,q3⟩:=hF' k hk' b hb
  refine ⟨?_,q2,q3⟩
  rcases q1 with ⟨i,hi,hbf⟩|q1
  ·obtain ⟨id,e⟩:=hex i hi
   rw [hFM i id e] at hbf
   exact .inl ⟨id,List.mem_of_getElem? e,hidl i id e,hbf⟩
  ·exact .inr q1
 have hnoS:∀k,k<(M'++N).length→∀b∈F' k,(G.M0 b∨G.w0.heap.size≤b)∧¬S3 b∧b<w'.heap.size:=fun k hk' b hb=>by
  obtain ⟨q1,q2,q3⟩:=hsrc k hk' b hb
  rcases q1 with ⟨id,hid,hlt,hbf⟩|q1
  ·obtain ⟨p1,p2,p3⟩:=hr.foot id hlt b hbf
   refine ⟨p1,?_,q3⟩
   rintro (h|⟨h,_⟩)
   ·exact p2 h
   ·exact q2 h
  ·refine ⟨.inr (by have:=hr.keeps.size;omega),?_,q3⟩
   rintro (h|⟨h,_⟩)
   ·have:=hr.stable b h;omega
   ·exact q2 h
 have hnotin:∀i,i<O.length→findN hs i 0=none→∀b∈F i,w'.heap[b]?=w.heap[b]?:=fun i hi h b hb=>hold b (hr.foot i hi b hb).2.2 fun id hid hbf=>by
  obtain ⟨j,hj,e⟩:=hmem id hid
  have hne:i≠id:=by rintro rfl;exact findN_none h hid
  exact hr.objs.apart i id hi (hidl j id e) hne b hb hbf
 have hcells:∀{cs:List AV} {us g},cs.all AV.still=true→Loc cs→LRel S' w' ι' (M'++N) cs us g→LRel S3 w' ι3 O3 cs us g:=fun h1 h2 hl=>
  Loc.rel h2 (still_all (S':=S') h1 hl (fun _ h=>h) (fun _ _=>rfl) (fun _ _=>rfl))
 refine ⟨S3,ι3,F3,S',ι',⟨hr.defers,hr.size,fun t=>(hr.tmps t).mono hlat (by simp),⟨fun i ob h=>?_,fun i h=>?_,fun i j hi hj hij b hb=>?_⟩,fun i h b hb=>?_,⟨fun b hb=>.inl (hr.base.1 b hb),?_⟩,?_,?_,fun i h=>?_,?_⟩,hv,fun j id e=>?_,fun k=>?_⟩
 ·have h:O3[i]?=some ob:=h
  by_cases hlt:i<O.length
  ·rw [hO3lt i hlt,List.getElem?_eq_getElem hlt] at h
   simp only [Option.map_some,Option.some.injEq] at h
   rw [show ι3 i=ι i from if_pos hlt]
   cases hfd:findN hs i 0 with
   |some j=>
    obtain ⟨hjm,hji⟩:=hfind i j hfd
    rw [hF3f i j hlt hfd]
    have hjM':j<M'.length:=by omega
    have hmb:M'[j]?=some M'[j]:=List.getElem?_eq_getElem hjM'
    have h':ob=⟨M'[j].cells,(O[i]).ep,M'[j].size,M'[j].ty⟩:=by
     rw [←h];unfold newOb;rw [hfd];simp only [hmb]
    have ho:=hO'.obj j M'[j] (by rw [List.getElem?_append_left hjM'];exact hmb)
    rw [hι' j hjm,hιM j i hji] at ho
    have hout:=hM'.at hmb
    rw [h']
    unfold ObjAt at ho ⊢
    cases hs':ι i with
    |none=>rw [hs'] at ho;exact ho
    |some p=>
     obtain ⟨b,k⟩:=p
     rw [hs'] at ho
     obtain ⟨cur',t',fz',f2,q1,q2,q3,q4,q5,q6,q7⟩:=ho
     exact ⟨cur',t',fz',f2,q1,q2,q3,q4,q5,q6,hcells hout.1 hout.2 q7⟩
   |none=>
    rw [hF3n i hlt hfd]
    have h':ob=O[i]:=by rw [←h];unfold newOb;rw [hfd]
    subst h'
    have ho:=hr.objs.obj i O[i] (List.getElem?_eq_getElem hlt)
    have key:=hnotin i hlt hfd
    unfold ObjAt at ho ⊢
    cases hs':ι i with
    |none=>rw [hs'] at ho;exact ho
    |some p=>
     obtain ⟨b,k⟩:=p
     rw [hs'] at ho
     obtain ⟨cur',t',fz',f2,q1,q2,q3,q4,q5,q6,q7⟩:=ho
     exact ⟨cur',t',fz',f2,q1,by rw [key b (by rw [q1];simp)];exact q2,q3,q4,q5,q6,q7.mono hlat fun b' hb'=>key b' (by rw [q1];simp [hb'])⟩
  ·rw [hO3ge i (by omega)] at h
   rw [show ι3 i=ι' (M.length+(i-O.length)) from if_neg hlt,hF3g i (by omega)]
   have ho:=hO'.obj (M.length+(i-O.length)) ob (by rw [List.getElem?_append_right (by omega),hlen,Nat.add_sub_cancel_left];exact h)
   have hout:=hN.at h
   unfold ObjAt at ho ⊢
   cases hs':ι' (M.length+(i-O.length)) with
   |none=>rw [hs'] at ho;exact ho
   |some p=>
    obtain ⟨b,k⟩:=p
    rw [hs'] at ho
    obtain ⟨cur',t',fz',f2,q1,q2,q3,q4,q5,q6,q7⟩:=ho
    exact ⟨cur',t',fz',f2,q1,q2,q3,q4,q5,q6,hcells hout.1 hout.2 q7⟩
 ·have h:i<O3.length:=h
  by_cases hlt:i<O.length
  ·cases hfd:findN hs i 0 with
   |some j=>rw [hF3f i j hlt hfd];exact hO'.nodup j (by have:=(hfind i j hfd).1;omega)
   |none=>rw [hF3n i hlt hfd];exact hr.objs.nodup i hlt
  ·rw [hF3g i (by omega)];exact hO'.nodup _ (by omega)
 ·have hi:i<O3.length:=hi
  have hj:j<O3.length:=hj
  have hpl:∀k,k<O3.length→(∃ q,q<(M'++N).length∧F3 k=F' q∧((q<M.length∧hs[q]?=some k)∨(O.length≤k∧q=M.length+(k-O.length))))∨(k<O.length∧findN hs k 0=none∧F3 k=F k):=fun k hk'=>by
   by_cases hlt:k<O.length
   ·cases hfd:findN hs k 0 with
    |some q=>obtain ⟨h1,h2⟩:=hfind k q hfd;exact .inl ⟨q,by omega,hF3f k q hlt hfd,.inl ⟨h1,h2⟩⟩
    |none=>exact .inr ⟨hlt,rfl,hF3n k hlt hfd⟩
   ·exact .inl ⟨_,by omega,hF3g k (by omega),.inr ⟨by omega,rfl⟩⟩
  have hcross:∀k q,k<O.length→findN hs k 0=none→q<(M'++N).length→∀b∈F k,b ∉ F' q:=fun k q hk' hn hq b hb hb'=>by
   rcases (hsrc q hq b hb').1 with ⟨id,hid,hlt,hbf⟩|h
   ·have hne:k≠id:=by rintro rfl;exact findN_none hn hid
    exact hr.objs.apart k id hk' hlt hne b hb hbf
   ·have:=(hr.foot k hk' b hb).2.2;omega
  rcases hpl i hi with ⟨q1,p1,p2,p3⟩|⟨p1,p2,p3⟩<;>rcases hpl j hj with ⟨q2,r1,r2,r3⟩|⟨r1,r2,r3⟩
  ·rw [p2] at hb;rw [r2]
   refine hO'.apart q1 q2 p1 r1 (fun e=>?_) b hb
   subst e
   rcases p3 with ⟨a1,a2⟩|⟨a1,a2⟩<;>rcases r3 with ⟨b1,b2⟩|⟨b1,b2⟩
   ·rw [a2] at b2;cases b2;exact hij rfl
   ·omega
   ·omega
   ·omega
  ·rw [p2] at hb;rw [r3];intro hb';exact hcross j q1 r1 r2 p1 b hb' hb
  ·rw [p3] at hb;rw [r2];exact hcross i q2 p1 p2 r1 b hb
  ·rw [p3] at hb;rw [r3];exact hr.objs.apart i j p1 r1 hij b hb
 ·have h:i<O3.length:=h
  by_cases hlt:i<O.length
  ·cases hfd:findN hs i 0 with
   |some j=>rw [hF3f i j hlt hfd] at hb;exact hnoS j (by have:=(hfind i j hfd).1;omega) b hb
   |none=>
    rw [hF3n i hlt hfd] at hb
    obtain ⟨q1,q2,q3⟩:=hr.foot i hlt b hb
    refine ⟨q1,?_,by have:=hk.size;omega⟩
    rintro (h'|⟨_,h'⟩)
    ·exact q2 h'
    ·omega
  ·rw [hF3g i (by omega)] at hb;exact hnoS _ (by omega) b hb
 ·rintro b (h'|⟨_,h'⟩)
  ·exact hr.base.2 b h'
  ·exact .inr (by have:=hr.keeps.size;omega)
 ·rintro b (h'|⟨h',_⟩)
  ·have:=hr.stable b h';have:=hk.size;omega
  ·exact hS3 b h'
 ·refine ⟨hk.os.trans hr.keeps.os,hk.tape.trans hr.keeps.tape,hk.output.trans hr.keeps.output,by have:=hr.keeps.size;have:=hk.size;omega,fun b hb hM0=>?_⟩
  rw [hold b (by have:=hr.keeps.size;omega) fun id hid hbf=>?_]
  ·exact hr.keeps.block b hb hM0
  ·obtain ⟨j,hj,e⟩:=hmem id hid
   rcases (hr.foot id (hidl j id e) b hbf).1 with h|h
   ·exact hM0 h
   ·omega
 ·have hm:m≤O.length:=hr.mle
  rw [show ι3 i=ι i from if_pos (by omega)];exact hr.spots i h
 ·have hm:m≤O.length:=hr.mle
  show m≤O3.length
  omega
 ·have hj:j<M.length:=by rw [←hlM];exact (List.getElem?_eq_some_iff.1 e).1
  rw [show ι3 id=ι id from if_pos (hidl j id e),hι' j hj,hιM j id e]
 ·show (if _ then _ else _)=_
  rw [if_neg (by omega)];congr 1;omega
mutual
def AV.reO (e i e2:Nat):AV→Option AV
 |.own 0 ep off len=>match Nat.beq e ep with
  |true=>some (.own i e2 off len)
  |false=>none
 |.agg ds=>match AV.reOL e i e2 ds with
  |some r=>some (.agg r)
  |none=>none
 |.tup ds=>match AV.reOL e i e2 ds with
  |some r=>some (.tup r)
  |none=>none
 |.any=>some .any
 |.sc v=>some (.sc v)
 |.nilS=>some .nilS
 |_=>none
def AV.reOL (e i e2:Nat):List AV→Option (List AV)
 |[]=>some []
 |V::Vs=>match AV.reO e i e2 V with
  |none=>none
  |some W=>match AV.reOL e i e2 Vs with
   |some r=>some (W::r)
   |none=>none
end
section
variable {S S3:Nat→Prop} {w:World} {ι ι3:Nat→Spot} {O3:List AObj} {i:Nat} {mb ob:AObj}
mutual
theorem AV.reO_rel (hι:ι3 i=ι 0) (hO:O3[i]?=some ob) (hs:ob.size=mb.size):∀(V W:AV),V.reO mb.ep i ob.ep=some W→∀{x f},VRel S w ι [mb] V x f→VRel S3 w ι3 O3 W x f
 |.own 0 ep off len,W,h,x,f,hv=>by
  rw [AV.reO] at h
  cases hb:Nat.beq mb.ep ep with
  |false=>rw [hb] at h;cases h
  |true=>
   rw [hb] at h;cases h
   have he:=Nat.eq_of_beq_eq_true hb
   cases hv with|own a b c r=>cases r;cases a;exact .own hO (Nat.le_refl _) (fun _=>by rw [hι,hs];exact c he.symm) .nil
 |.own (k+1) ep off len,W,h,x,f,hv=>by simp [AV.reO] at h
 |.agg ds,W,h,x,f,hv=>by
  rw [AV.reO] at h
  cases hr:AV.reOL mb.ep i ob.ep ds with
  |none=>rw [hr] at h;cases h
  |some r=>
   rw [hr] at h;cases h
   cases hv with|agg a r'=>cases r';exact .agg (AV.reOL_rel hι hO hs ds r hr a) .nil
 |.tup ds,W,h,x,f,hv=>by
  rw [AV.reO] at h
  cases hr:AV.reOL mb.ep i ob.ep ds with
  |none=>rw [hr] at h;cases h
  |some r=>
   rw [hr] at h;cases h
   cases hv with|tup a r'=>cases r';exact .tup (AV.reOL_rel hι hO hs ds r hr a) .nil
 |.any,W,h,x,f,hv=>by rw [AV.reO] at h;cases h;cases hv with|any r=>cases r;exact .any .nil
 |.sc _,W,h,x,f,hv=>by rw [AV.reO] at h;cases h;cases hv with|sc r=>cases r;exact .sc .nil
 |.nilS,W,h,x,f,hv=>by rw [AV.reO] at h;cases h;cases hv with|nilS r=>cases r;exact .nilS .nil
 |.imm _ _ _,W,h,x,f,hv=>by simp [AV.reO] at h
 |.fre _ _ _,W,h,x,f,hv=>by simp [AV.reO] at h
 |.ptr _ _ _,W,h,x,f,hv=>by simp [AV.reO] at h
 |.iptr _ _,W,h,x,f,hv=>by simp [AV.reO] at h
 |.fn _ _,W,h,x,f,hv=>by simp [AV.reO] at h
 |.ifc _ _,W,h,x,f,hv=>by simp [AV.reO] at h
theorem AV.reOL_rel (hι:ι3 i=ι 0) (hO:O3[i]?=some ob) (hs:ob.size=mb.size):∀(Vs Ws:List AV),AV.reOL mb.ep i ob.ep Vs=some Ws→∀{xs f},LRel S w ι [mb] Vs xs f→LRel S3 w ι3 O3 Ws xs f
 |[],Ws,h,xs,f,hl=>by rw [AV.reOL] at h;cases h;cases hl;exact .nil
 |V::Vs,Ws,h,xs,f,hl=>by
  rw [AV.reOL] at h
  cases hv:AV.reO mb.ep i ob.ep V with
  |none=>rw [hv] at h;cases h
  |some W=>
   rw [hv] at h
   cases hr:AV.reOL mb.ep i ob.ep Vs with
   |none=>simp only [hr] at h;cases h
   |some r=>
    simp only [hr] at h;cases h
    obtain ⟨v,vs',f1,f2,rfl,hv1,hr1,rfl⟩:=hl.uncons
    exact LRel.cons (AV.reO_rel hι hO hs V W hv hv1) (AV.reOL_rel hι hO hs Vs r hr hr1)
end
end
theorem newOb_no {i k:Nat} {mb x:AObj} (h:¬i=k):newOb [i] [mb] k x=x:=by
 have hb:i.beq k=false:=by
  cases hh:i.beq k with
  |false=>rfl
  |true=>exact absurd (Nat.eq_of_beq_eq_true hh) h
 simp [newOb,findN,hb]
theorem newO_one {i:Nat} {mb ob:AObj}:∀{O:List AObj} {k:Nat},k≤i→O[i-k]?=some ob→newO [i] [mb] k O=O.set (i-k) ⟨mb.cells,ob.ep,mb.size,mb.ty⟩
 |[],k,_,h=>by simp at h
 |x::O,k,hk,h=>by
  by_cases e:i=k
  ·subst e
   rw [Nat.sub_self] at h ⊢
   simp only [List.getElem?_cons_zero,Option.some.injEq] at h
   subst h
   rw [newO,List.set_cons_zero]
   have h1:newOb [i] [mb] i x=⟨mb.cells,x.ep,mb.size,mb.ty⟩:=by simp [newOb,findN]
   have h2:∀(O:List AObj) (k:Nat),i<k→newO [i] [mb] k O=O:=fun O=>by
    induction O with
    |nil=>intro k _;rfl
    |cons y O ih=>intro k hk;rw [newO,ih (k+1) (by omega)];congr 1;exact newOb_no (by omega)
   rw [h1,h2 O (i+1) (by omega)]
  ·obtain ⟨q,hq⟩:∃q,i-k=q+1:=⟨i-k-1,by omega⟩
   rw [hq,List.getElem?_cons_succ] at h
   rw [newO,hq,List.set_cons_succ,newO_one (k:=k+1) (by omega) (by rw [show i-(k+1)=q by omega];exact h),show i-(k+1)=q by omega]
   congr 1
   exact newOb_no e
theorem WpL.callO {f:FuncId} {xs:List Operand} {ats:Array TypeId} {As:List AV} {mb mb' ob:AObj} {r r':AV} {i d:Nat} (hc:FnG P f As [mb] [mb'] [] r) (hh:HandM O [i] [mb] (xs.map (av T)) As) (hM:HandO O [i] [mb]) (ho:O[i]?=some ob)
 (hsz:mb'.size=mb.size) (hM':Out [mb']) (hre:r.reO mb'.ep i ob.ep=some r') (hn:d<n) (h:WpL P n m G false ops l ⟨(d,r')::T,O.set i ⟨mb'.cells,ob.ep,mb'.size,mb'.ty⟩⟩ Q):
 WpL P n m G false ops ({dst:=some d,op:=.call {callee:=.value (.func f),args:=xs.toArray,argTypes:=ats},type:=tt,pos:=pos,after:=after,guard:=none}::l) ⟨T,O⟩ Q:=
 WpL.op rfl (fun a w hr=>by
  have hcl:=callG_relH hc hh hM (by simp) rfl (fun j x y hx hy=>by
   match j with
   |0=>cases hx;cases hy;exact hsz
   |j+1=>simp at hx) hM' Out.nil hr
  obtain ⟨⟨fn,hf,hbd,hnm⟩,_⟩:=hc
  have hex:(execOp a.eval {dst:=some d,op:=.call {callee:=.value (.func f),args:=xs.toArray,argTypes:=ats},type:=tt,pos:=pos,after:=after,guard:=none}).run P w=.ok (.enter f (xs.map a.eval).toArray) w:=by
   simp only [execOp,resolve,Act.eval,Deferred.ofValue,invoke,callFunc,Sem.run_bind,Sem.run_pure,Result.andThen_ok,program,Sem.run,hf,hnm,hbd,Bool.false_eq_true,if_false]
   simp
  unfold Oper.wp
  rw [hex]
  refine hcl.mono fun e w' ⟨v,he,S,ι,F,S',ι',hr',hv,h1,h2⟩=>?_
  subst he
  have hio:i<O.length:=(List.getElem?_eq_some_iff.1 ho).1
  rw [newO_one (ob:=ob) (Nat.zero_le i) (by rw [Nat.sub_zero];exact ho),Nat.sub_zero,List.append_nil] at hr'
  exact ⟨S,ι,F,hr'.put hn (AV.reO_rel (mb:=mb') (ob:=⟨mb'.cells,ob.ep,mb'.size,mb'.ty⟩) (h1 0 i rfl) (List.getElem?_set_self hio) rfl r r' hre hv)⟩) h
end
end Go.Abs


namespace Go.Proofs.YtainhhfnnclfiaaGreat
open Go Go.Abs
attribute [local irreducible] WpA WpL Rnd Blk Abs.Seq Abs.Fin Abs.FinG FnC FnG Only
theorem alphaPos {q:Int} (h:0≤q∧q≤51):0<alphaL q:=by unfold alphaL;rw [if_pos h];omega
theorem frOkNat {w h:Nat} {p:List Int} (hf:FrameOk (w:Int) (h:Int) p):FrOkN w h p:=by
 have hs:=hf.1
 have hl:=hf.2.1
 refine ⟨by omega,by omega,?_,hf.2.2⟩
 have:(p.length:Int)=((w*h:Nat):Int):=by rw [hl];simp
 omega
section
attribute [-instance] l20Across_s l20Down_s
attribute [local irreducible] run runF vx vy hx hy edg
theorem DeblockRef_so (w h:Nat) (p:List Int) (q:Int) (hl:p.length≤1099511627776) (hok:FrameOk w h p∧0≤q∧q≤51) (hnk:FrOkN w h p):Fn 93 [FrA w h p,I q] [IN (debL q w h p)] (FrOwn 0 w h p.length):=by
 have hf:=hok.1
 have hd:=decide_eq_true hf
 have ha:=alphaPos ⟨hok.2.1,hok.2.2⟩
 have ha2:decide (alphaL q=0)=false:=decide_eq_false (by omega)
 obtain ⟨⟨h1,h2,h3⟩,⟨h4,h5,h6⟩,hpl2,hin⟩:=id hnk
 have hwh:w*h≤64*64:=Nat.mul_le_mul (by omega) (by omega)
 have hA:=across_eq (q:=q) h1 0 h p
 have hv1:=run_len q (vy w 0 h) p
 have hv2:=run_rg (q:=q) (E:=vy w 0 h) hin
 have hac:=l20Across_s.ok w h p p (w:Int) (h:Int) q 0 h ⟨hnk,hpl2,Nat.zero_le _,Nat.le_refl _⟩
 rw [Nat.sub_zero,hA] at hac
 generalize hP:run q (vy w 0 h) p=P at*
 refine FnC.of_body tabOk Tryz.func93 Tryz.ntmps93 rfl (by decide +kernel) (by simp) fun G=>?_
 refine goR (r:=?_);and_intros<;>intros<;>try exact True.intro
 all_goals first|contradiction|omega|skip
 try dsimp only [List.append,List.cons_append,List.nil_append]
 refine WpA.cut (σ1:=⟨[(1,I q),(2,.ptr 0 0 0),(4,.ptr 1 0 0),(5,.ptr 3 0 0)],[FrO w h p,⟨[I 0,I 0,.nilS],0,0,none⟩,IN P,⟨[I w,I h,.own 2 0 0 p.length],0,0,none⟩]⟩) ?_ ?_
 ·apply WpA.regionRF (O:=[FrO w h p,⟨[I 0,I 0,.nilS],0,0,none⟩]) (Or:=[]) (O1:=[FrO w h p,⟨[I 0,I 0,.nilS],0,0,none⟩,⟨ints P,1,1,none⟩,⟨[I 0,I 0,.nilS],1,0,none⟩,deadO,deadO]) 8 2 [] [0] rfl mixed (by decide +kernel)
  ·exact rfl
  ·apply HeadR.consF .none rfl
   ·exact rfl
   ·exact rfl
   ·exact in1
   ·exact rfl
   ·exact rfl
   apply HeadR.consF .none rfl
   ·exact rfl
   ·exact rfl
   ·exact in1
   ·exact rfl
   ·exact rfl
   apply HeadR.consF (V:=.agg [I w,I h,.own 2 1 0 p.length]) (.put 0 ⟨ints p,1,1,some 3⟩) rfl
   ·exact rfl
   ·exact rfl
   ·intro Tv Ov hc2 hp9 hd9 hk9
    refine K.call ?_
    refine WpL.callF (l18Copy_s.ok (w:Int) (h:Int) p hl) snapA locA outA (cnt_some _ 0) rfl rfl (by decide) ?_
    apply WpL.putV (p:=0)
    ·exact .agg (.keep rfl rfl (.keep rfl rfl (.own (by first|rfl|exact Nat.zero_add _) .nil))) .nil
    ·exact hp9 0 _ rfl
    ·exact Nat.zero_le _
    ·exact rfl
    ·exact still_ints _
   ·exact rfl
   ·exact rfl
   apply HeadR.consF .none rfl
   ·exact rfl
   ·exact rfl
   ·exact in1
   ·exact rfl
   ·exact rfl
   apply HeadR.consF .none rfl
   ·exact rfl
   ·exact rfl
   ·exact in1
   ·exact rfl
   ·exact rfl
   apply HeadR.consF .none rfl
   ·exact rfl
   ·exact rfl
   ·exact in1
   ·exact rfl
   ·exact rfl
   apply HeadR.consF (V:=.agg [I w,I h,.own 2 1 0 p.length]) (.step 0 ⟨ints P,1,1,none⟩) rfl
   ·exact rfl
   ·exact rfl
   ·intro Tv Ov hc2 hp9 hd9 hk9
    obtain ⟨R0,rfl⟩:=split1 (hp9 0 _ rfl)
    refine K.call ?_
    refine WpL.callO (i:=2) hac handA handOA rfl rfl outA rfl (by decide) ?_
    exact WpL.nil (Only.mk rfl)
   ·exact rfl
   ·exact rfl
   apply HeadR.consF (V:=.ptr 3 1 0) (.put 1 ⟨[I 0,I 0,.nilS],1,0,none⟩) rfl
   ·exact rfl
   ·exact rfl
   ·intro Tv Ov hc2 hp9 hd9 hk9
    refine WpL.allocStruct tabOk rfl (nid_len _ 0) (by decide) ?_
    apply WpL.putV (p:=1)
    ·exact .ptr (by first|rfl|exact Nat.zero_add _) .nil
    ·exact hp9 1 _ rfl
    ·exact Nat.zero_le _
    ·exact rfl
    ·exact rfl
   ·exact rfl
   ·exact rfl
   exact HeadR.nil
  ·exact rfl
  ·exact rfl
  ·exact rfl
  ·exact rfl
  ·exact rfl
  ·exact rfl
  ·exact rfl
  refine goR (r:=?_);and_intros<;>intros<;>try exact True.intro
  all_goals first|contradiction|omega
 refine goR (r:=?_);and_intros<;>intros<;>try exact True.intro
 all_goals first|contradiction|omega|skip
 refine WpA.loop (fun k:Nat=>⟨[(1,I q),(2,.ptr 0 0 0),(4,.ptr 1 0 0),(5,.ptr 3 0 0),(6,.ptr 5 0 0),(7,I (8*(k:Int)+8))],[FrO w h p,⟨[I 0,I 0,.nilS],0,0,none⟩,IN P,⟨[I w,I h,.own 2 0 0 p.length],0,0,none⟩,IN (runF q P (hy w k) P),⟨[I w,I h,.own 4 0 0 p.length],0,0,none⟩]⟩) (fun k=>k≤h/8-1) (fun k=>h/8-1-k) 0 (Nat.zero_le _) (go (r:=?_)) (fun k hk=>?_)
 ·and_intros<;>first|exact True.intro|rfl|(rw [hy_nil,runF_nil];done)
 have hkl:=runF_len q P (hy w k) P
 have hPn:FrOkN w h P:=⟨⟨h1,h2,h3⟩,⟨h4,h5,h6⟩,by rw [hv1];exact hpl2,hv2⟩
 by_cases hlt:k<h/8-1
 ·have hst:runF q P (hy w (k+1)) P=runF q P (hx w (8*k+8) w) (runF q P (hy w k) P):=by rw [hy_succ,runF_app]
  have hdn:=l20Down_s.ok w h P (runF q P (hy w k) P) (w:Int) (h:Int) q (8*k+8) ⟨hPn,by rw [hkl,hv1];exact hpl2,by omega,by omega⟩
  rw [←hst,hkl,hv1] at hdn
  have hkl2:=runF_len q P (hy w (k+1)) P
  generalize hX2:runF q P (hy w (k+1)) P=X2 at*
  generalize runF q P (hy w k) P=X at*
  refine goR (r:=?_);and_intros<;>intros<;>try exact True.intro
  all_goals first|contradiction|omega|skip
  refine K.call ?_
  refine WpL.callO (i:=4) hdn handA handOA rfl rfl outA rfl (by decide) ?_
  refine goR (r:=?_);and_intros<;>intros<;>try exact True.intro
  all_goals first|contradiction|omega|exact hX2.symm
 ·obtain rfl:k=h/8-1:=by omega
  rw [down_eq] at*
  have hdb:debL q w h p=run q (hy w (h/8-1)) P:=by rw [←hP];rfl
  rw [hdb]
  refine go (r:=?_);and_intros<;>intros<;>try exact True.intro
  all_goals first|contradiction|omega
end
instance DeblockRef_s:Con 93 (∀ (W H:Int) (p:List Int) (q:Int),p.length≤1099511627776→Fn 93 [FrA W H p,I q] [IN (dbL W H q p)] (FrOwn 0 W H p.length)):=⟨fun W H p q hl=>by
 by_cases hok:FrameOk W H p∧0≤q∧q≤51
 ·obtain ⟨⟨h1,h2,h3,h4,h5,h6⟩,hpl,hin⟩:=hok.1
  obtain ⟨w,rfl⟩:∃w:Nat,W=w:=⟨W.toNat,by omega⟩
  obtain ⟨h,rfl⟩:∃h:Nat,H=h:=⟨H.toNat,by omega⟩
  have e:dbL (w:Int) (h:Int) q p=debL q w h p:=by unfold dbL;rw [if_pos hok];rfl
  rw [e]
  exact DeblockRef_so w h p q hl hok (frOkNat hok.1)
 ·rw [dbL_no hok]
  by_cases hf:FrameOk W H p
  ·have hd:=decide_eq_true hf
   have hq:¬(0≤q∧q≤51):=fun hq=>hok ⟨hf,hq⟩
   have ha:alphaL q=0:=by unfold alphaL;rw [if_neg hq]
   refine FnC.of_body tabOk Tryz.func93 Tryz.ntmps93 rfl (by decide +kernel) (by simp) fun G=>?_
   refine go (r:=?_);and_intros<;>intros<;>try exact True.intro
   all_goals first|contradiction|omega
  ·have hd:=decide_eq_false hf
   refine FnC.of_body tabOk Tryz.func93 Tryz.ntmps93 rfl (by decide +kernel) (by simp) fun G=>?_
   refine go (r:=?_);and_intros<;>intros<;>try exact True.intro
   all_goals first|contradiction|omega⟩
end Go.Proofs.YtainhhfnnclfiaaGreat


namespace Go.Proofs.YtainhhfnnclfiaaGreat
open Go Go.Abs
attribute [local irreducible] WpA WpL Rnd Blk Abs.Seq Abs.Fin Abs.FinG FnC FnG Only
attribute [local irreducible] topF lefF
attribute [local simp] Abs.setL
instance NbAt_s:Con 91 (∀ (W H:Int) (p:List Int) (x y n:Int),p.length≤1099511627776→Fn 91 [FrA W H p,I x,I y,I n] [XI (topL W H p x y n),XI (lefL W H p x y n)] (NbOwn W H p x y n)):=⟨fun W H p x y n hl=>by
 by_cases h:Fits W H p x y n
 ·have ht:topL W H p x y n=tabL (topF W p x y n) (2*n).toNat:=by unfold topL;rw [if_pos h]
  have hle:lefL W H p x y n=tabL (lefF W p x y) n.toNat:=by unfold lefL;rw [if_pos h]
  have hco:corL W H p x y n=if 0<x∧0<y then p.getD ((y-1)*W+x-1).toNat 0 else 128:=by unfold corL;rw [if_pos h]
  have hhT:hasT W H p x y n=decide (0<y):=by unfold hasT;rw [Bool.eq_iff_iff];simp only [decide_eq_true_eq];exact ⟨fun hh=>hh.2,fun hh=>⟨h,hh⟩⟩
  have hhE:hasE W H p x y n=decide (0<x):=by unfold hasE;rw [Bool.eq_iff_iff];simp only [decide_eq_true_eq];exact ⟨fun hh=>hh.2,fun hh=>⟨h,hh⟩⟩
  unfold NbOwn
  rw [ht,hle,hco,hhT,hhE,tabL_len,tabL_len]
  have hd:=decide_eq_true h
  obtain ⟨h0,h1,hx,hy,_⟩:=id h
  by_cases hx0:0<x
  ·by_cases hy0:0<y
   ·obtain ⟨b1,b2,b3⟩:=nb_cx h hx0 hy0
    rw [if_pos ⟨hx0,hy0⟩]
    refine FnC.of_body tabOk Tryz.func91 Tryz.ntmps91 rfl (by decide +kernel) (by simp) fun G=>?_
    refine go (r:=?_);and_intros<;>intros<;>try exact True.intro
    all_goals first|contradiction|(exact absurd h (by assumption))|omega|skip
    refine WpA.loop (fun k:Nat=>⟨[(1,I x),(2,I y),(3,I n),(4,.ptr 0 0 0),(8,.ptr 1 0 0),(9,.ptr 2 0 0),(10,I k)],[FrO W H p,Nb0,⟨[.nilS,.own 3 0 0 k,I (p.getD ((y-1)*W+x-1).toNat 0),B (decide (0<y)),B (decide (0<x))],0,0,none⟩,XI (tabL (lefF W p x y) k)]⟩) (fun k=>(k:Int)≤n) (fun k=>n.toNat-k) 0 (by omega) ?_ ?_
    ·exact Weak.nil1 (by first|(show 0≤_;exact Nat.zero_le _)|(repeat' (first|exact RzT.nil|refine RzT.cons ?_ ?_|exact Rz.nil|refine Rz.keep rfl rfl ?_|refine Rz.own rfl rfl rfl rfl rfl (by first|rfl|omega|(simp;done)) ?_|refine Rz.ptr rfl rfl rfl rfl ?_|refine Rz.nilO rfl rfl rfl (by first|rfl|omega|(simp;done)) ?_|refine Rz.agg ?_ ?_|exact RzO.last rfl|(refine RzO.cons ?_ (.inr rfl) ?_)|exact Rz.same rfl (still_ints _)|exact Rz.same rfl (still_rows (fun _=>rfl) _)))) (by first|(show 0≤_;exact Nat.zero_le _)|(repeat' (first|exact RzT.nil|refine RzT.cons ?_ ?_|exact Rz.nil|refine Rz.keep rfl rfl ?_|refine Rz.own rfl rfl rfl rfl rfl (by first|rfl|omega|(simp;done)) ?_|refine Rz.ptr rfl rfl rfl rfl ?_|refine Rz.nilO rfl rfl rfl (by first|rfl|omega|(simp;done)) ?_|refine Rz.agg ?_ ?_|exact RzO.last rfl|(refine RzO.cons ?_ (.inr rfl) ?_)|exact Rz.same rfl (still_ints _)|exact Rz.same rfl (still_rows (fun _=>rfl) _)))) (Nat.le_of_ble_eq_true rfl)
    intro k hk
    try simp only at hk ⊢
    have hkl2:=tabL_len (lefF W p x y) k
    by_cases hlt2:(k:Int)<n
    ·have hsn:=tabL_snoc (lefF W p x y) k
     by_cases hx0:0<x
     ·obtain ⟨b1,b2,b3⟩:=nb_lx h hlt2 hx0
      have hq:lefF W p x y k=p.getD ((y+k)*W+x-1).toNat 0:=by unfold lefF;rw [if_pos hx0]
      rw [hq] at hsn
      refine go (r:=?_);and_intros<;>intros<;>try exact True.intro
      all_goals first|contradiction|omega|exact hsn.symm
     ·have hq:lefF W p x y k=128:=by unfold lefF;rw [if_neg hx0]
      rw [hq] at hsn
      refine go (r:=?_);and_intros<;>intros<;>try exact True.intro
      all_goals first|contradiction|omega|exact hsn.symm
    have hke:k=n.toNat:=by omega
    subst hke
    refine go (r:=?_);and_intros<;>intros<;>try exact True.intro
    all_goals first|contradiction|omega|skip
    refine WpA.loop (fun k:Nat=>⟨[(1,I x),(2,I y),(3,I n),(4,.ptr 0 0 0),(8,.ptr 1 0 0),(9,.ptr 2 0 0),(12,I k)],[FrO W H p,Nb0,⟨[.own 4 0 0 k,.own 3 0 0 n.toNat,I (p.getD ((y-1)*W+x-1).toNat 0),B (decide (0<y)),B (decide (0<x))],0,0,none⟩,XI (tabL (lefF W p x y) n.toNat),XI (tabL (topF W p x y n) k)]⟩) (fun k=>(k:Int)≤2*n) (fun k=>(2*n).toNat-k) 0 (by omega) ?_ ?_
    ·exact Weak.nil1 (by first|(show 0≤_;exact Nat.zero_le _)|(repeat' (first|exact RzT.nil|refine RzT.cons ?_ ?_|exact Rz.nil|refine Rz.keep rfl rfl ?_|refine Rz.own rfl rfl rfl rfl rfl (by first|rfl|omega|(simp;done)) ?_|refine Rz.ptr rfl rfl rfl rfl ?_|refine Rz.nilO rfl rfl rfl (by first|rfl|omega|(simp;done)) ?_|refine Rz.agg ?_ ?_|exact RzO.last rfl|(refine RzO.cons ?_ (.inr rfl) ?_)|exact Rz.same rfl (still_ints _)|exact Rz.same rfl (still_rows (fun _=>rfl) _)))) (by first|(show 0≤_;exact Nat.zero_le _)|(repeat' (first|exact RzT.nil|refine RzT.cons ?_ ?_|exact Rz.nil|refine Rz.keep rfl rfl ?_|refine Rz.own rfl rfl rfl rfl rfl (by first|rfl|omega|(simp;done)) ?_|refine Rz.ptr rfl rfl rfl rfl ?_|refine Rz.nilO rfl rfl rfl (by first|rfl|omega|(simp;done)) ?_|refine Rz.agg ?_ ?_|exact RzO.last rfl|(refine RzO.cons ?_ (.inr rfl) ?_)|exact Rz.same rfl (still_ints _)|exact Rz.same rfl (still_rows (fun _=>rfl) _)))) (Nat.le_of_ble_eq_true rfl)
    intro k hk
    try simp only at hk ⊢
    have hkl:=tabL_len (topF W p x y n) k
    by_cases hlt:(k:Int)<2*n
    ·have hq:=topF_eq W p x y n (by omega) k
     have hsn:=tabL_snoc (topF W p x y n) k
     by_cases hy0:y=0
     ·rw [if_pos hy0] at hq
      rw [hq] at hsn
      refine go (r:=?_);and_intros<;>intros<;>try exact True.intro
      all_goals first|contradiction|omega|skip
      all_goals
       refine WpL.openAny (t:=83) rfl (fun v0=>?_)
       by_cases hv:v0=.bool false
       ·subst hv
        refine go (r:=?_);and_intros<;>intros<;>try exact True.intro
        all_goals first|contradiction|omega|exact hsn.symm
       ·repeat (refine WpL.guardV (σ:=⟨_,_⟩) rfl rfl (by decide) rfl hv rfl ?_)
        refine WpL.openAny (t:=87) rfl (fun v1=>?_)
        by_cases hv1:v1=.bool true
        ·subst hv1
         refine go (r:=?_);and_intros<;>intros<;>try exact True.intro
         all_goals first|contradiction|omega|skip
         all_goals
          refine WpL.guardV (σ:=⟨_,_⟩) rfl rfl (by decide) rfl hv rfl ?_
          refine go (r:=?_);and_intros<;>intros<;>try exact True.intro
          all_goals first|contradiction|omega|exact hsn.symm
        ·repeat (refine WpL.guardV (σ:=⟨_,_⟩) rfl rfl (by decide) rfl hv1 rfl ?_)
         refine WpL.guardV (σ:=⟨_,_⟩) rfl rfl (by decide) rfl hv rfl ?_
         refine go (r:=?_);and_intros<;>intros<;>try exact True.intro
         all_goals first|contradiction|omega|exact hsn.symm
     ·rw [if_neg hy0] at hq
      by_cases hc:(k:Int)<n∨(y%8=0∧x+k<W)
      ·rw [if_pos hc] at hq
       rw [hq] at hsn
       obtain ⟨b1,b2,b3⟩:=nb_ix h hlt hy0 hc
       by_cases hc0:(k:Int)<n
       ·refine go (r:=?_);and_intros<;>intros<;>try exact True.intro
        all_goals first|contradiction|omega|skip
        all_goals
         refine WpL.openAny (t:=87) rfl (fun v0=>?_)
         by_cases hv:v0=.bool true
         ·subst hv
          refine go (r:=?_);and_intros<;>intros<;>try exact True.intro
          all_goals first|contradiction|omega|exact hsn.symm
         ·repeat (refine WpL.guardV (σ:=⟨_,_⟩) rfl rfl (by decide) rfl hv rfl ?_)
          refine go (r:=?_);and_intros<;>intros<;>try exact True.intro
          all_goals first|contradiction|omega|exact hsn.symm
       ·obtain ⟨hc1,hc2⟩:y%8=0∧x+k<W:=hc.resolve_left hc0
        refine go (r:=?_);and_intros<;>intros<;>try exact True.intro
        all_goals first|contradiction|omega|exact hsn.symm
      ·rw [if_neg hc] at hq
       rw [hq] at hsn
       have hk0:0<k:=by omega
       have ek:((k:Int)-1).toNat=k-1:=by omega
       have hge:(tabL (topF W p x y n) k).getD (k-1) 0=topF W p x y n (k-1):=tabL_get (by omega)
       by_cases hc0:(k:Int)<n
       ·exact absurd (.inl hc0) hc
       by_cases hc1:y%8=0
       ·have hc2:¬x+k<W:=fun hh=>hc (.inr ⟨hc1,hh⟩)
        refine go (r:=?_);and_intros<;>intros<;>try exact True.intro
        all_goals first|contradiction|omega|(rw [ek,hge];exact hsn.symm)
       ·refine go (r:=?_);and_intros<;>intros<;>try exact True.intro
        all_goals first|contradiction|omega|(rw [ek,hge];exact hsn.symm)
    have hke:k=(2*n).toNat:=by omega
    subst hke
    refine go (r:=?_);and_intros<;>intros<;>try exact True.intro
    all_goals first|contradiction|omega
   ·rw [if_neg (fun hh=>hy0 hh.2)]
    refine FnC.of_body tabOk Tryz.func91 Tryz.ntmps91 rfl (by decide +kernel) (by simp) fun G=>?_
    refine go (r:=?_);and_intros<;>intros<;>try exact True.intro
    all_goals first|contradiction|(exact absurd h (by assumption))|omega|skip
    refine WpA.loop (fun k:Nat=>⟨[(1,I x),(2,I y),(3,I n),(4,.ptr 0 0 0),(8,.ptr 1 0 0),(9,.ptr 2 0 0),(10,I k)],[FrO W H p,Nb0,⟨[.nilS,.own 3 0 0 k,I (128),B (decide (0<y)),B (decide (0<x))],0,0,none⟩,XI (tabL (lefF W p x y) k)]⟩) (fun k=>(k:Int)≤n) (fun k=>n.toNat-k) 0 (by omega) ?_ ?_
    ·exact Weak.nil1 (by first|(show 0≤_;exact Nat.zero_le _)|(repeat' (first|exact RzT.nil|refine RzT.cons ?_ ?_|exact Rz.nil|refine Rz.keep rfl rfl ?_|refine Rz.own rfl rfl rfl rfl rfl (by first|rfl|omega|(simp;done)) ?_|refine Rz.ptr rfl rfl rfl rfl ?_|refine Rz.nilO rfl rfl rfl (by first|rfl|omega|(simp;done)) ?_|refine Rz.agg ?_ ?_|exact RzO.last rfl|(refine RzO.cons ?_ (.inr rfl) ?_)|exact Rz.same rfl (still_ints _)|exact Rz.same rfl (still_rows (fun _=>rfl) _)))) (by first|(show 0≤_;exact Nat.zero_le _)|(repeat' (first|exact RzT.nil|refine RzT.cons ?_ ?_|exact Rz.nil|refine Rz.keep rfl rfl ?_|refine Rz.own rfl rfl rfl rfl rfl (by first|rfl|omega|(simp;done)) ?_|refine Rz.ptr rfl rfl rfl rfl ?_|refine Rz.nilO rfl rfl rfl (by first|rfl|omega|(simp;done)) ?_|refine Rz.agg ?_ ?_|exact RzO.last rfl|(refine RzO.cons ?_ (.inr rfl) ?_)|exact Rz.same rfl (still_ints _)|exact Rz.same rfl (still_rows (fun _=>rfl) _)))) (Nat.le_of_ble_eq_true rfl)
    intro k hk
    try simp only at hk ⊢
    have hkl2:=tabL_len (lefF W p x y) k
    by_cases hlt2:(k:Int)<n
    ·have hsn:=tabL_snoc (lefF W p x y) k
     by_cases hx0:0<x
     ·obtain ⟨b1,b2,b3⟩:=nb_lx h hlt2 hx0
      have hq:lefF W p x y k=p.getD ((y+k)*W+x-1).toNat 0:=by unfold lefF;rw [if_pos hx0]
      rw [hq] at hsn
      refine go (r:=?_);and_intros<;>intros<;>try exact True.intro
      all_goals first|contradiction|omega|exact hsn.symm
     ·have hq:lefF W p x y k=128:=by unfold lefF;rw [if_neg hx0]
      rw [hq] at hsn
      refine go (r:=?_);and_intros<;>intros<;>try exact True.intro
      all_goals first|contradiction|omega|exact hsn.symm
    have hke:k=n.toNat:=by omega
    subst hke
    refine go (r:=?_);and_intros<;>intros<;>try exact True.intro
    all_goals first|contradiction|omega|skip
    refine WpA.loop (fun k:Nat=>⟨[(1,I x),(2,I y),(3,I n),(4,.ptr 0 0 0),(8,.ptr 1 0 0),(9,.ptr 2 0 0),(12,I k)],[FrO W H p,Nb0,⟨[.own 4 0 0 k,.own 3 0 0 n.toNat,I (128),B (decide (0<y)),B (decide (0<x))],0,0,none⟩,XI (tabL (lefF W p x y) n.toNat),XI (tabL (topF W p x y n) k)]⟩) (fun k=>(k:Int)≤2*n) (fun k=>(2*n).toNat-k) 0 (by omega) ?_ ?_
    ·exact Weak.nil1 (by first|(show 0≤_;exact Nat.zero_le _)|(repeat' (first|exact RzT.nil|refine RzT.cons ?_ ?_|exact Rz.nil|refine Rz.keep rfl rfl ?_|refine Rz.own rfl rfl rfl rfl rfl (by first|rfl|omega|(simp;done)) ?_|refine Rz.ptr rfl rfl rfl rfl ?_|refine Rz.nilO rfl rfl rfl (by first|rfl|omega|(simp;done)) ?_|refine Rz.agg ?_ ?_|exact RzO.last rfl|(refine RzO.cons ?_ (.inr rfl) ?_)|exact Rz.same rfl (still_ints _)|exact Rz.same rfl (still_rows (fun _=>rfl) _)))) (by first|(show 0≤_;exact Nat.zero_le _)|(repeat' (first|exact RzT.nil|refine RzT.cons ?_ ?_|exact Rz.nil|refine Rz.keep rfl rfl ?_|refine Rz.own rfl rfl rfl rfl rfl (by first|rfl|omega|(simp;done)) ?_|refine Rz.ptr rfl rfl rfl rfl ?_|refine Rz.nilO rfl rfl rfl (by first|rfl|omega|(simp;done)) ?_|refine Rz.agg ?_ ?_|exact RzO.last rfl|(refine RzO.cons ?_ (.inr rfl) ?_)|exact Rz.same rfl (still_ints _)|exact Rz.same rfl (still_rows (fun _=>rfl) _)))) (Nat.le_of_ble_eq_true rfl)
    intro k hk
    try simp only at hk ⊢
    have hkl:=tabL_len (topF W p x y n) k
    by_cases hlt:(k:Int)<2*n
    ·have hq:=topF_eq W p x y n (by omega) k
     have hsn:=tabL_snoc (topF W p x y n) k
     by_cases hy0:y=0
     ·rw [if_pos hy0] at hq
      rw [hq] at hsn
      refine go (r:=?_);and_intros<;>intros<;>try exact True.intro
      all_goals first|contradiction|omega|skip
      all_goals
       refine WpL.openAny (t:=83) rfl (fun v0=>?_)
       by_cases hv:v0=.bool false
       ·subst hv
        refine go (r:=?_);and_intros<;>intros<;>try exact True.intro
        all_goals first|contradiction|omega|exact hsn.symm
       ·repeat (refine WpL.guardV (σ:=⟨_,_⟩) rfl rfl (by decide) rfl hv rfl ?_)
        refine WpL.openAny (t:=87) rfl (fun v1=>?_)
        by_cases hv1:v1=.bool true
        ·subst hv1
         refine go (r:=?_);and_intros<;>intros<;>try exact True.intro
         all_goals first|contradiction|omega|skip
         all_goals
          refine WpL.guardV (σ:=⟨_,_⟩) rfl rfl (by decide) rfl hv rfl ?_
          refine go (r:=?_);and_intros<;>intros<;>try exact True.intro
          all_goals first|contradiction|omega|exact hsn.symm
        ·repeat (refine WpL.guardV (σ:=⟨_,_⟩) rfl rfl (by decide) rfl hv1 rfl ?_)
         refine WpL.guardV (σ:=⟨_,_⟩) rfl rfl (by decide) rfl hv rfl ?_
         refine go (r:=?_);and_intros<;>intros<;>try exact True.intro
         all_goals first|contradiction|omega|exact hsn.symm
     ·rw [if_neg hy0] at hq
      by_cases hc:(k:Int)<n∨(y%8=0∧x+k<W)
      ·rw [if_pos hc] at hq
       rw [hq] at hsn
       obtain ⟨b1,b2,b3⟩:=nb_ix h hlt hy0 hc
       by_cases hc0:(k:Int)<n
       ·refine go (r:=?_);and_intros<;>intros<;>try exact True.intro
        all_goals first|contradiction|omega|skip
        all_goals
         refine WpL.openAny (t:=87) rfl (fun v0=>?_)
         by_cases hv:v0=.bool true
         ·subst hv
          refine go (r:=?_);and_intros<;>intros<;>try exact True.intro
          all_goals first|contradiction|omega|exact hsn.symm
         ·repeat (refine WpL.guardV (σ:=⟨_,_⟩) rfl rfl (by decide) rfl hv rfl ?_)
          refine go (r:=?_);and_intros<;>intros<;>try exact True.intro
          all_goals first|contradiction|omega|exact hsn.symm
       ·obtain ⟨hc1,hc2⟩:y%8=0∧x+k<W:=hc.resolve_left hc0
        refine go (r:=?_);and_intros<;>intros<;>try exact True.intro
        all_goals first|contradiction|omega|exact hsn.symm
      ·rw [if_neg hc] at hq
       rw [hq] at hsn
       have hk0:0<k:=by omega
       have ek:((k:Int)-1).toNat=k-1:=by omega
       have hge:(tabL (topF W p x y n) k).getD (k-1) 0=topF W p x y n (k-1):=tabL_get (by omega)
       by_cases hc0:(k:Int)<n
       ·exact absurd (.inl hc0) hc
       by_cases hc1:y%8=0
       ·have hc2:¬x+k<W:=fun hh=>hc (.inr ⟨hc1,hh⟩)
        refine go (r:=?_);and_intros<;>intros<;>try exact True.intro
        all_goals first|contradiction|omega|(rw [ek,hge];exact hsn.symm)
       ·refine go (r:=?_);and_intros<;>intros<;>try exact True.intro
        all_goals first|contradiction|omega|(rw [ek,hge];exact hsn.symm)
    have hke:k=(2*n).toNat:=by omega
    subst hke
    refine go (r:=?_);and_intros<;>intros<;>try exact True.intro
    all_goals first|contradiction|omega
  ·rw [if_neg (fun hh=>hx0 hh.1)]
   refine FnC.of_body tabOk Tryz.func91 Tryz.ntmps91 rfl (by decide +kernel) (by simp) fun G=>?_
   refine go (r:=?_);and_intros<;>intros<;>try exact True.intro
   all_goals first|contradiction|(exact absurd h (by assumption))|omega|skip
   refine WpA.loop (fun k:Nat=>⟨[(1,I x),(2,I y),(3,I n),(4,.ptr 0 0 0),(8,.ptr 1 0 0),(9,.ptr 2 0 0),(10,I k)],[FrO W H p,Nb0,⟨[.nilS,.own 3 0 0 k,I (128),B (decide (0<y)),B (decide (0<x))],0,0,none⟩,XI (tabL (lefF W p x y) k)]⟩) (fun k=>(k:Int)≤n) (fun k=>n.toNat-k) 0 (by omega) ?_ ?_
   ·exact Weak.nil1 (by first|(show 0≤_;exact Nat.zero_le _)|(repeat' (first|exact RzT.nil|refine RzT.cons ?_ ?_|exact Rz.nil|refine Rz.keep rfl rfl ?_|refine Rz.own rfl rfl rfl rfl rfl (by first|rfl|omega|(simp;done)) ?_|refine Rz.ptr rfl rfl rfl rfl ?_|refine Rz.nilO rfl rfl rfl (by first|rfl|omega|(simp;done)) ?_|refine Rz.agg ?_ ?_|exact RzO.last rfl|(refine RzO.cons ?_ (.inr rfl) ?_)|exact Rz.same rfl (still_ints _)|exact Rz.same rfl (still_rows (fun _=>rfl) _)))) (by first|(show 0≤_;exact Nat.zero_le _)|(repeat' (first|exact RzT.nil|refine RzT.cons ?_ ?_|exact Rz.nil|refine Rz.keep rfl rfl ?_|refine Rz.own rfl rfl rfl rfl rfl (by first|rfl|omega|(simp;done)) ?_|refine Rz.ptr rfl rfl rfl rfl ?_|refine Rz.nilO rfl rfl rfl (by first|rfl|omega|(simp;done)) ?_|refine Rz.agg ?_ ?_|exact RzO.last rfl|(refine RzO.cons ?_ (.inr rfl) ?_)|exact Rz.same rfl (still_ints _)|exact Rz.same rfl (still_rows (fun _=>rfl) _)))) (Nat.le_of_ble_eq_true rfl)
   intro k hk
   try simp only at hk ⊢
   have hkl2:=tabL_len (lefF W p x y) k
   by_cases hlt2:(k:Int)<n
   ·have hsn:=tabL_snoc (lefF W p x y) k
    by_cases hx0:0<x
    ·obtain ⟨b1,b2,b3⟩:=nb_lx h hlt2 hx0
     have hq:lefF W p x y k=p.getD ((y+k)*W+x-1).toNat 0:=by unfold lefF;rw [if_pos hx0]
     rw [hq] at hsn
     refine go (r:=?_);and_intros<;>intros<;>try exact True.intro
     all_goals first|contradiction|omega|exact hsn.symm
    ·have hq:lefF W p x y k=128:=by unfold lefF;rw [if_neg hx0]
     rw [hq] at hsn
     refine go (r:=?_);and_intros<;>intros<;>try exact True.intro
     all_goals first|contradiction|omega|exact hsn.symm
   have hke:k=n.toNat:=by omega
   subst hke
   refine go (r:=?_);and_intros<;>intros<;>try exact True.intro
   all_goals first|contradiction|omega|skip
   refine WpA.loop (fun k:Nat=>⟨[(1,I x),(2,I y),(3,I n),(4,.ptr 0 0 0),(8,.ptr 1 0 0),(9,.ptr 2 0 0),(12,I k)],[FrO W H p,Nb0,⟨[.own 4 0 0 k,.own 3 0 0 n.toNat,I (128),B (decide (0<y)),B (decide (0<x))],0,0,none⟩,XI (tabL (lefF W p x y) n.toNat),XI (tabL (topF W p x y n) k)]⟩) (fun k=>(k:Int)≤2*n) (fun k=>(2*n).toNat-k) 0 (by omega) ?_ ?_
   ·exact Weak.nil1 (by first|(show 0≤_;exact Nat.zero_le _)|(repeat' (first|exact RzT.nil|refine RzT.cons ?_ ?_|exact Rz.nil|refine Rz.keep rfl rfl ?_|refine Rz.own rfl rfl rfl rfl rfl (by first|rfl|omega|(simp;done)) ?_|refine Rz.ptr rfl rfl rfl rfl ?_|refine Rz.nilO rfl rfl rfl (by first|rfl|omega|(simp;done)) ?_|refine Rz.agg ?_ ?_|exact RzO.last rfl|(refine RzO.cons ?_ (.inr rfl) ?_)|exact Rz.same rfl (still_ints _)|exact Rz.same rfl (still_rows (fun _=>rfl) _)))) (by first|(show 0≤_;exact Nat.zero_le _)|(repeat' (first|exact RzT.nil|refine RzT.cons ?_ ?_|exact Rz.nil|refine Rz.keep rfl rfl ?_|refine Rz.own rfl rfl rfl rfl rfl (by first|rfl|omega|(simp;done)) ?_|refine Rz.ptr rfl rfl rfl rfl ?_|refine Rz.nilO rfl rfl rfl (by first|rfl|omega|(simp;done)) ?_|refine Rz.agg ?_ ?_|exact RzO.last rfl|(refine RzO.cons ?_ (.inr rfl) ?_)|exact Rz.same rfl (still_ints _)|exact Rz.same rfl (still_rows (fun _=>rfl) _)))) (Nat.le_of_ble_eq_true rfl)
   intro k hk
   try simp only at hk ⊢
   have hkl:=tabL_len (topF W p x y n) k
   by_cases hlt:(k:Int)<2*n
   ·have hq:=topF_eq W p x y n (by omega) k
    have hsn:=tabL_snoc (topF W p x y n) k
    by_cases hy0:y=0
    ·rw [if_pos hy0] at hq
     rw [hq] at hsn
     refine go (r:=?_);and_intros<;>intros<;>try exact True.intro
     all_goals first|contradiction|omega|skip
     all_goals
      refine WpL.openAny (t:=83) rfl (fun v0=>?_)
      by_cases hv:v0=.bool false
      ·subst hv
       refine go (r:=?_);and_intros<;>intros<;>try exact True.intro
       all_goals first|contradiction|omega|exact hsn.symm
      ·repeat (refine WpL.guardV (σ:=⟨_,_⟩) rfl rfl (by decide) rfl hv rfl ?_)
       refine WpL.openAny (t:=87) rfl (fun v1=>?_)
       by_cases hv1:v1=.bool true
       ·subst hv1
        refine go (r:=?_);and_intros<;>intros<;>try exact True.intro
        all_goals first|contradiction|omega|skip
        all_goals
         refine WpL.guardV (σ:=⟨_,_⟩) rfl rfl (by decide) rfl hv rfl ?_
         refine go (r:=?_);and_intros<;>intros<;>try exact True.intro
         all_goals first|contradiction|omega|exact hsn.symm
       ·repeat (refine WpL.guardV (σ:=⟨_,_⟩) rfl rfl (by decide) rfl hv1 rfl ?_)
        refine WpL.guardV (σ:=⟨_,_⟩) rfl rfl (by decide) rfl hv rfl ?_
        refine go (r:=?_);and_intros<;>intros<;>try exact True.intro
        all_goals first|contradiction|omega|exact hsn.symm
    ·rw [if_neg hy0] at hq
     by_cases hc:(k:Int)<n∨(y%8=0∧x+k<W)
     ·rw [if_pos hc] at hq
      rw [hq] at hsn
      obtain ⟨b1,b2,b3⟩:=nb_ix h hlt hy0 hc
      by_cases hc0:(k:Int)<n
      ·refine go (r:=?_);and_intros<;>intros<;>try exact True.intro
       all_goals first|contradiction|omega|skip
       all_goals
        refine WpL.openAny (t:=87) rfl (fun v0=>?_)
        by_cases hv:v0=.bool true
        ·subst hv
         refine go (r:=?_);and_intros<;>intros<;>try exact True.intro
         all_goals first|contradiction|omega|exact hsn.symm
        ·repeat (refine WpL.guardV (σ:=⟨_,_⟩) rfl rfl (by decide) rfl hv rfl ?_)
         refine go (r:=?_);and_intros<;>intros<;>try exact True.intro
         all_goals first|contradiction|omega|exact hsn.symm
      ·obtain ⟨hc1,hc2⟩:y%8=0∧x+k<W:=hc.resolve_left hc0
       refine go (r:=?_);and_intros<;>intros<;>try exact True.intro
       all_goals first|contradiction|omega|exact hsn.symm
     ·rw [if_neg hc] at hq
      rw [hq] at hsn
      have hk0:0<k:=by omega
      have ek:((k:Int)-1).toNat=k-1:=by omega
      have hge:(tabL (topF W p x y n) k).getD (k-1) 0=topF W p x y n (k-1):=tabL_get (by omega)
      by_cases hc0:(k:Int)<n
      ·exact absurd (.inl hc0) hc
      by_cases hc1:y%8=0
      ·have hc2:¬x+k<W:=fun hh=>hc (.inr ⟨hc1,hh⟩)
       refine go (r:=?_);and_intros<;>intros<;>try exact True.intro
       all_goals first|contradiction|omega|(rw [ek,hge];exact hsn.symm)
      ·refine go (r:=?_);and_intros<;>intros<;>try exact True.intro
       all_goals first|contradiction|omega|(rw [ek,hge];exact hsn.symm)
   have hke:k=(2*n).toNat:=by omega
   subst hke
   refine go (r:=?_);and_intros<;>intros<;>try exact True.intro
   all_goals first|contradiction|omega
 ·have ht:topL W H p x y n=[]:=by unfold topL;rw [if_neg h]
  have hle:lefL W H p x y n=[]:=by unfold lefL;rw [if_neg h]
  have hco:corL W H p x y n=0:=by unfold corL;rw [if_neg h]
  have hhT:hasT W H p x y n=false:=by unfold hasT;rw [decide_eq_false_iff_not];exact fun hh=>h hh.1
  have hhE:hasE W H p x y n=false:=by unfold hasE;rw [decide_eq_false_iff_not];exact fun hh=>h hh.1
  unfold NbOwn
  rw [ht,hle,hco,hhT,hhE]
  have hd:=decide_eq_false h
  refine FnC.of_body tabOk Tryz.func91 Tryz.ntmps91 rfl (by decide +kernel) (by simp) fun G=>?_
  refine go (r:=?_);and_intros<;>intros<;>try exact True.intro
  all_goals first|contradiction|omega⟩
end Go.Proofs.YtainhhfnnclfiaaGreat
