/- Proved in this text: lemmas and contracts of functions that the claim uses (parts: RdV, RdB, RdT, RdW, RdHs, RdP, Ln, ParL, Dec). No condition. -/
import Derived.Test.YtndflfipaddfoaaGreatPyM15
import Derived.Test.YtndflfipaddfoaaGreatPyM7
import Derived.Test.YtndflfipaddfoaaGreatPyM9
import Derived.Test.YtndflfipaddfoaaGreatPyM11
import Derived.Test.YtndflfipaddfoaaGreatPyM10
set_option linter.unusedVariables false
set_option linter.unusedSimpArgs false
set_option maxRecDepth 100000
set_option maxHeartbeats 16000000


namespace Go.Proofs.YtndflfipaddfoaaGreat
open Go Go.Abs
theorem zrW_stop (p:List UInt8) (s:Int):∀(f n:Nat),zrW p s f n=n+f∨btA p (s+(zrW p s f n:Nat))≠0
 |0,n=>.inl rfl
 |f+1,n=>by
  rw [zrW];split
  ·rcases zrW_stop p s f (n+1) with h|h
   ·exact .inl (by omega)
   ·exact .inr h
  ·rename_i h;exact .inr h
theorem zrs_stop (p:List UInt8) (s:Int):(zrs p s:Int)=lft p s∨btA p (s+(zrs p s:Nat))≠0:=by
 have hb:=lft_bd p s
 rcases zrW_stop p s (lft p s).toNat 0 with h|h
 ·exact .inl (by unfold zrs;omega)
 ·exact .inr h
theorem ueV_nn (p:List UInt8) (s:Int):0≤ueV p s:=by
 unfold ueV;split
 ·rename_i h
  by_cases h15:zrs p s≤15
  ·by_cases hok:RbOk p s (2*(zrs p s:Int)+1)
   ·rw [(rb_yes hok).2]
    have hlo:=lft_ok hok.1
    have hst:=zrs_stop p s
    have hbo:=btA_out p (s+(zrs p s:Nat))
    have hbd:=btA_bd p (s+(zrs p s:Nat))
    have hb1:btA p (s+(zrs p s:Nat))=1:=by
     rcases hst with h|h
     ·omega
     ·omega
    have e:=numB_add p s (zrs p s+1) (zrs p s)
    have h1:=numB_bd p (s+((zrs p s+1:Nat):Int)) (zrs p s)
    have h2:=numB_bd p s (zrs p s)
    have h3:numB p s (zrs p s+1)=numB p s (zrs p s)*2+bv p (s+(zrs p s:Nat)):=rfl
    have h4:bv p (s+(zrs p s:Nat))=1:=by unfold bv;omega
    have hp:(0:Int)<2 ^ zrs p s:=by exact_mod_cast Nat.pow_pos (by decide)
    have h5:1*2 ^ zrs p s≤numB p s (zrs p s+1)*2 ^ zrs p s:=Int.mul_le_mul_of_nonneg_right (by omega) (by omega)
    rw [show (2*(zrs p s:Int)+1).toNat=zrs p s+1+zrs p s by omega,e]
    omega
   ·rw [(ue_short h15 hok).2.1] at h;omega
  ·rw [(ue_code (s:=s) (p:=p) h15).2.1] at h;omega
 ·omega
theorem fuV_nn (p:List UInt8) (s c:Int) (k:Int→Int):0≤fuV p s c k:=by
 have:=ueV_nn p s
 unfold fuV;split<;>omega
theorem fuV_lt {p:List UInt8} {s c b e:Int} (he:e≠0) (h:0<b):fuV p s c (fun y=>ifE (y<b) e)<b:=by
 unfold fuV;split
 ·rename_i h1
  unfold fuC at h1
  split at h1
  ·split at h1
   ·by_cases hlt:ueV p s<b
    ·exact hlt
    ·have h1:ifE (ueV p s<b) e=0:=h1
     rw [ifE_no hlt] at h1;exact absurd h1 he
   ·omega
  ·omega
 ·omega
theorem fuV_zero {p:List UInt8} {s c:Int} {k:Int→Int} (h:fuC p s c k≠0):fuV p s c k=0:=by rw [fuV,if_neg h]
abbrev kR (b:Int):Int→Int:=fun y=>ifE (y<b) 5
abbrev kL:Int→Int:=fun y=>ifE (-16383≤lvOf y∧lvOf y≤16383) 5
theorem lvStep_yes {p:List UInt8} {nn:Int} {x:LvS} (hc:x.c=0):lvStep p nn x=
 (if fuC p (fuA p x.a 0 (kR (nn-x.at_))) (fuC p x.a 0 (kR (nn-x.at_))) kL=0 then
  ⟨fuA p (fuA p x.a 0 (kR (nn-x.at_))) (fuC p x.a 0 (kR (nn-x.at_))) kL,fuC p (fuA p x.a 0 (kR (nn-x.at_))) (fuC p x.a 0 (kR (nn-x.at_))) kL,x.at_+fuV p x.a 0 (kR (nn-x.at_))+1,
   x.out.set (x.at_+fuV p x.a 0 (kR (nn-x.at_))).toNat (lvOf (fuV p (fuA p x.a 0 (kR (nn-x.at_))) (fuC p x.a 0 (kR (nn-x.at_))) kL))⟩
 else ⟨fuA p (fuA p x.a 0 (kR (nn-x.at_))) (fuC p x.a 0 (kR (nn-x.at_))) kL,fuC p (fuA p x.a 0 (kR (nn-x.at_))) (fuC p x.a 0 (kR (nn-x.at_))) kL,x.at_+fuV p x.a 0 (kR (nn-x.at_)),x.out⟩):=by
 rw [lvStep,if_pos hc]
theorem lvStep_no {p:List UInt8} {nn:Int} {x:LvS} (hc:x.c≠0):lvStep p nn x=x:=by rw [lvStep,if_neg hc]
theorem fuC_keep {p:List UInt8} {s c:Int} {k:Int→Int} (h:c≠0):fuC p s c k=c:=by rw [fuC,if_neg h]
theorem lvStep_at {p:List UInt8} {nn:Int} {x:LvS} (h:0≤x.at_∧x.at_≤nn):0≤(lvStep p nn x).at_∧(lvStep p nn x).at_≤nn:=by
 by_cases hc:x.c=0
 ·rw [lvStep_yes hc]
  have h1:=fuV_nn p x.a 0 (kR (nn-x.at_))
  by_cases hr:fuC p x.a 0 (kR (nn-x.at_))=0
  ·have h2:fuV p x.a 0 (kR (nn-x.at_))<nn-x.at_:=by
    rcases Int.lt_or_le 0 (nn-x.at_) with hp|hp
    ·exact fuV_lt (by decide) hp
    ·exfalso
     have hv:=ueV_nn p x.a
     unfold fuC at hr
     simp only [if_true] at hr
     split at hr
     ·have hr:ifE (ueV p x.a<nn-x.at_) 5=0:=hr
      rw [ifE_no (by omega)] at hr;cases hr
     ·rename_i hh;exact hh hr
   split
   ·show 0≤x.at_+_+1∧x.at_+_+1≤nn;omega
   ·show 0≤x.at_+_∧x.at_+_≤nn;omega
  ·rw [if_neg (by rw [fuC_keep hr];exact hr)]
   show 0≤x.at_+_∧x.at_+_≤nn
   rw [fuV_zero hr];omega
 ·rw [lvStep_no hc];exact h
theorem lvRun_at {p:List UInt8} {nn:Int} {x:LvS} (h:0≤x.at_∧x.at_≤nn):∀k,0≤(lvRun p nn x k).at_∧(lvRun p nn x k).at_≤nn
 |0=>h
 |k+1=>by rw [lvRun];exact lvStep_at (lvRun_at h k)
theorem lvRun_stop {p:List UInt8} {nn:Int} {x:LvS} {k:Nat} (h:(lvRun p nn x k).c≠0):∀j,k≤j→lvRun p nn x j=lvRun p nn x k
 |0,hj=>by have:k=0:=by omega
           subst this;rfl
 |j+1,hj=>by
  rcases Nat.lt_or_ge j k with h2|h2
  ·have:k=j+1:=by omega
   subst this;rfl
  ·have e:=lvRun_stop h j h2
   rw [lvRun,e,lvStep_no h]
theorem newO_tail (mb:AObj):∀(k:Nat) (R:List AObj),0<k→newO [0] [mb] k R=R
 |_,[],_=>rfl
 |k,ob::R,hk=>by
  rw [newO,newO_tail mb (k+1) R (by omega)]
  have:findN [0] k 0=none:=by
   rw [findN]
   have:Nat.beq 0 k=false:=by cases k with|zero=>omega|succ k=>rfl
   rw [this];rfl
  unfold newOb;rw [this]
theorem split4 {Ov:List AObj} {a b c d:AObj} (h0:Ov[0]?=some a) (h1:Ov[1]?=some b) (h2:Ov[2]?=some c) (h3:Ov[3]?=some d):∃R,Ov=a::b::c::d::R:=by
 match Ov,h3 with
 |a'::b'::c'::d'::R,h3=>simp at h0 h1 h2 h3;exact ⟨R,by rw [h0,h1,h2,h3]⟩
 |[],h=>simp at h
 |[_],h=>simp at h
 |[_,_],h=>simp at h
 |[_,_,_],h=>simp at h
theorem split3 {Ov:List AObj} {b c d:AObj} (hc:4≤Ov.length) (h1:Ov[1]?=some b) (h2:Ov[2]?=some c) (h3:Ov[3]?=some d):∃x R,Ov=x::b::c::d::R:=by
 match Ov,h3 with
 |a'::b'::c'::d'::R,h3=>simp at h1 h2 h3;exact ⟨a',R,by rw [h1,h2,h3]⟩
 |[],h=>simp at h
 |[_],h=>simp at h
 |[_,_],h=>simp at h
 |[_,_,_],h=>simp at h
section
variable {P:Program} {n m:Nat} {G:Ctx} {T:List (Nat×AV)} {R:List AObj} {Q:Exit→St→Prop} {ops:Array Oper} {l:List Oper} {tt:TypeId} {pos:String} {after:Array Edge}
theorem callM1 {f:FuncId} {xs:List Operand} {ats:Array TypeId} {As:List AV} {ob mb0 mb:AObj} {v:Int} {d:Nat} (hc:FnG P f As [mb0] [mb] [] (I v)) (hh:HandM (ob::R) [0] [mb0] (xs.map (av T)) As) (hM:HandO (ob::R) [0] [mb0]) (hsz:mb.size=mb0.size) (hM':Out [mb]) (hn:d<n)
 (h:WpL P n m G false ops l ⟨(d,I v)::T,⟨mb.cells,ob.ep,mb.size,mb.ty⟩::R⟩ Q):
 WpL P n m G false ops ({dst:=some d,op:=.call {callee:=.value (.func f),args:=xs.toArray,argTypes:=ats},type:=tt,pos:=pos,after:=after,guard:=none}::l) ⟨T,ob::R⟩ Q:=by
 refine WpL.op rfl (fun a w hr=>?_) h
 have hcl:=callG_rel hc hh hM (by simp) rfl (fun j x y hx hy=>by
  cases j with
  |zero=>simp at hx hy;subst hx hy;exact hsz
  |succ j=>simp at hx) hM' .nil (r':=I v) rfl hr
 have e:newO [0] [mb] 0 (ob::R)++[]=⟨mb.cells,ob.ep,mb.size,mb.ty⟩::R:=by
  rw [List.append_nil,newO,newO_tail mb 1 R (by omega)];rfl
 rw [e] at hcl
 obtain ⟨⟨fn,hf,hbd,hnm⟩,_⟩:=hc
 have hex:(execOp a.eval {dst:=some d,op:=.call {callee:=.value (.func f),args:=xs.toArray,argTypes:=ats},type:=tt,pos:=pos,after:=after,guard:=none}).run P w=.ok (.enter f (xs.map a.eval).toArray) w:=by
  simp only [execOp,resolve,Act.eval,Deferred.ofValue,invoke,callFunc,Sem.run_bind,Sem.run_pure,Result.andThen_ok,program,Sem.run,hf,hnm,hbd,Bool.false_eq_true,if_false]
  simp
 unfold Oper.wp
 rw [hex]
 refine hcl.mono fun e w' ⟨v,he,S,ι,F,hr',hv⟩=>?_
 subst he
 exact ⟨S,ι,F,hr'.put hn hv⟩
end
attribute [local irreducible] WpA WpL Rnd Blk Abs.Seq Abs.Fin Abs.FinG FnC FnG Only
abbrev k0C:Int→Int:=fun _=>0
theorem lvS_no {p:List UInt8} {s n:Int} (h:fbV p s 0 1 k0C=0):lvS p s n=⟨fbA p s 0 1 k0C,fbC p s 0 1 k0C,0,List.replicate (n*n).toNat 0⟩:=by
 unfold lvS;simp only;rw [if_pos h]
theorem lvS_yes {p:List UInt8} {s n:Int} (h:fbV p s 0 1 k0C≠0):lvS p s n=lvRun p (n*n) ⟨fuA p (fbA p s 0 1 k0C) (fbC p s 0 1 k0C) (kR (n*n)),fuC p (fbA p s 0 1 k0C) (fbC p s 0 1 k0C) (kR (n*n)),0,List.replicate (n*n).toNat 0⟩ (1+fuV p (fbA p s 0 1 k0C) (fbC p s 0 1 k0C) (kR (n*n))).toNat:=by
 unfold lvS;simp only;rw [if_neg h]
theorem lv_room {p:List UInt8} {s nn t:Int} (ht:0≤t∧t≤nn) (h:fuC p s 0 (kR (nn-t))=0):t+fuV p s 0 (kR (nn-t))<nn:=by
 have h2:fuV p s 0 (kR (nn-t))<nn-t:=by
  rcases Int.lt_or_le 0 (nn-t) with hp|hp
  ·exact fuV_lt (by decide) hp
  ·exfalso
   have hv:=ueV_nn p s
   unfold fuC at h
   simp only [if_true] at h
   split at h
   ·have h:ifE (ueV p s<nn-t) 5=0:=h
    rw [ifE_no (by omega)] at h;cases h
   ·rename_i hh;exact hh h
 omega
theorem flv_c (p:List UInt8) (s n:Int) (hl:p.length≤1099511627776) (hn:n=4∨n=8):Gn 131 [.ptr 0 0 0,I n] [FldO p s 0] [FldO p (lvS p s n).a (lvS p s n).c] [XI (lvS p s n).out] (.own 1 0 0 (lvS p s n).out.length):=by
 have hnn:16≤n*n∧n*n≤64:=by rcases hn with rfl|rfl<;>decide
 have hn2:=mul_in (a:=n) (b:=n) (by omega) (by omega)
 generalize hx:lvS p s n=x
 refine FnG.of_bodyF tabOk Tryz.func131 Tryz.ntmps131 rfl (by decide +kernel) (by simp) rfl rfl fun G=>?_
 refine go (r:=?_);and_intros<;>intros<;>try exact True.intro
 refine K.call ?_
 refine WpL.callM (hs:=[0]) (fbits_c p s 0 1 213 [] k0C hl ⟨rfl,rfl,fun x _=>levels1_c.ok x⟩) handA handOA rfl rfl (.cons rfl (.sc (.sc (.sc .nil))) .nil) outA rfl rfl rfl rfl (by decide) ?_
 have b1:=fbV_bd p s 0 1 k0C
 by_cases hv:fbV p s 0 1 k0C=0
 ·rw [lvS_no hv] at hx
  subst hx
  refine go (r:=?_);and_intros<;>intros<;>try exact True.intro
  all_goals first|(exact absurd hv (by assumption))
 ·rw [lvS_yes hv] at hx
  generalize hv1:fbV p s 0 1 k0C=v1 at b1 hv ⊢
  generalize ha1:fbA p s 0 1 k0C=a1 at hx
  generalize hc1:fbC p s 0 1 k0C=c1 at hx
  refine go (r:=?_);and_intros<;>intros<;>try exact True.intro
  all_goals first|(exact absurd (by assumption) hv)|skip
  refine K.call ?_
  refine WpL.callM (hs:=[0]) (fue_c p a1 c1 214 [.iptr [I n] 0] (kR (n*n)) hl ⟨rfl,rfl,fun x _=>levels2_c.ok x n (by omega)⟩) handA handOA rfl rfl (.cons rfl (.sc (.sc (.sc .nil))) .nil) outA rfl rfl rfl rfl (by decide) ?_
  have b2:=fuV_bd p a1 c1 (kR (n*n))
  have b3:=fuV_nn p a1 c1 (kR (n*n))
  generalize hv2:fuV p a1 c1 (kR (n*n))=v2 at b2 b3 hx ⊢
  generalize ha2:fuA p a1 c1 (kR (n*n))=a2 at hx ⊢
  generalize hc2:fuC p a1 c1 (kR (n*n))=c2 at hx ⊢
  have hr0:=lvRun_at (p:=p) (nn:=n*n) (x:=⟨a2,c2,0,List.replicate (n*n).toNat 0⟩) (show (0:Int)≤0∧(0:Int)≤n*n by omega)
  have hln:=lvRun_len p (n*n) ⟨a2,c2,0,List.replicate (n*n).toNat 0⟩
  have hst:∀k,lvRun p (n*n) ⟨a2,c2,0,List.replicate (n*n).toNat 0⟩ (k+1)=lvStep p (n*n) (lvRun p (n*n) ⟨a2,c2,0,List.replicate (n*n).toNat 0⟩ k):=fun _=>rfl
  have hsp:=fun k=>lvRun_stop (p:=p) (nn:=n*n) (x:=⟨a2,c2,0,List.replicate (n*n).toNat 0⟩) (k:=k)
  have hz:lvRun p (n*n) ⟨a2,c2,0,List.replicate (n*n).toNat 0⟩ 0=⟨a2,c2,0,List.replicate (n*n).toNat 0⟩:=rfl
  generalize lvRun p (n*n) ⟨a2,c2,0,List.replicate (n*n).toNat 0⟩=X at hr0 hln hst hsp hz hx
  refine goR (r:=?_);and_intros<;>intros<;>try exact True.intro
  refine WpA.loop (fun k:Nat=>⟨[(0,.ptr 0 0 0),(3,.ptr 1 0 0),(5,.own 2 0 0 (n*n).toNat),(6,.ptr 3 0 0),(7,I (1+v2)),(8,I k)],[FldO p (X k).a (X k).c,⟨[I n],0,0,none⟩,XI (X k).out,⟨[I (X k).at_],0,0,none⟩]⟩) (fun k=>(k:Int)≤1+v2) (fun k=>(1+v2).toNat-k) 0 (by omega) (go (r:=?_)) (fun k hk=>?_)
  ·rw [hz];and_intros<;>first|exact True.intro|rfl
  have hr0:=hr0 k
  have hln:=hln k
  have hst:=hst k
  have hsp:=hsp k
  generalize hy:X k=y at hr0 hln hst hsp ⊢
  have hln:y.out.length=(n*n).toNat:=by simpa using hln
  have hfin:(y.c≠0∨¬(k:Int)<1+v2)→y=x:=by
   rintro (h|h)
   ·rw [←hx,hsp h (1+v2).toNat (by omega)]
   ·have:k=(1+v2).toNat:=by omega
    rw [←hx,←this,hy]
  refine goR (r:=?_);and_intros<;>intros<;>try exact True.intro
  ·have hyc:y.c=0:=by assumption
   have b4:=fuV_bd p y.a y.c (kR (n*n-y.at_))
   have b5:=fuV_nn p y.a y.c (kR (n*n-y.at_))
   have hkb:∀x:Int,-1≤x∧x≤4294967296→Fn 215 (I x::[.iptr [I n] 0,.iptr [I y.at_] 0]) [] (I (kR (n*n-y.at_) x)):=fun x _=>levels3_c.ok x n y.at_ (by omega)
   apply WpA.regionQF (O:=[]) (Or:=[FldO p y.a y.c,⟨[I n],0,0,none⟩,XI y.out,⟨[I y.at_],0,0,none⟩]) (O1:=[FldO p (fuA p y.a y.c (kR (n*n-y.at_))) (fuC p y.a y.c (kR (n*n-y.at_))),⟨[I n],0,0,none⟩,XI y.out,⟨[I y.at_],0,0,none⟩]) 5 0 [1,2,3] rfl mixed (by decide +kernel)
   ·exact rfl
   ·apply HeadQ.consF (V:=I y.at_) .none rfl
    ·exact rfl
    ·intro Tv Ov hc hp hd hk
     obtain ⟨x0,R,rfl⟩:=split3 hc (hk 1 rfl) (hk 2 rfl) (hk 3 rfl)
     exact in0
    ·exact rfl
    ·exact rfl
    apply HeadQ.consF .none rfl
    ·exact rfl
    ·exact in1
    ·exact rfl
    ·exact rfl
    apply HeadQ.consF (V:=.fn 215 [.ptr 1 0 0,.ptr 3 0 0]) .none rfl
    ·exact rfl
    ·exact in1
    ·exact rfl
    ·exact rfl
    apply HeadQ.consF (V:=I (fuV p y.a y.c (kR (n*n-y.at_)))) (.step 0 (FldO p (fuA p y.a y.c (kR (n*n-y.at_))) (fuC p y.a y.c (kR (n*n-y.at_))))) rfl
    ·exact rfl
    ·intro Tv Ov hc hp hd hk
     obtain ⟨R,rfl⟩:=split4 (hp 0 _ rfl) (hk 1 rfl) (hk 2 rfl) (hk 3 rfl)
     refine K.call ?_
     refine callM1 (fue_c p y.a y.c 215 [.iptr [I n] 0,.iptr [I y.at_] 0] (kR (n*n-y.at_)) hl ⟨rfl,rfl,hkb⟩) handA handOA rfl (.cons rfl (.sc (.sc (.sc .nil))) .nil) (by decide) ?_
     exact WpL.nil (Only.mk rfl)
    ·exact rfl
    ·exact rfl
    apply HeadQ.consF .none rfl
    ·exact rfl
    ·exact in1
    ·exact rfl
    ·exact rfl
    exact HeadQ.nil
   ·exact rfl
   ·exact rfl
   ·exact rfl
   ·exact rfl
   ·exact rfl
   ·exact rfl
   ·exact rfl
   generalize hA1:fuA p y.a y.c (kR (n*n-y.at_))=A1
   generalize hC1:fuC p y.a y.c (kR (n*n-y.at_))=C1
   generalize hV1:fuV p y.a y.c (kR (n*n-y.at_))=w1 at b4 b5 ⊢
   rw [hyc] at hA1 hC1 hV1
   have hroom:=lv_room (p:=p) (s:=y.a) hr0
   rw [hC1,hV1] at hroom
   rw [lvStep_yes hyc,hA1,hC1,hV1] at hst
   have hkeep:=fun h=>fuC_keep (p:=p) (s:=A1) (c:=C1) (k:=kL) h
   refine go (r:=?_);and_intros<;>intros<;>try exact True.intro
   refine K.call ?_
   refine WpL.callM (hs:=[0]) (fue_c p A1 C1 217 [] kL hl ⟨rfl,rfl,fun x h=>levels4_c.ok x (by omega)⟩) handA handOA rfl rfl (.cons rfl (.sc (.sc (.sc .nil))) .nil) outA rfl rfl rfl rfl (by decide) ?_
   have b6:=fuV_bd p A1 C1 kL
   by_cases hc2:fuC p A1 C1 kL=0
   ·have h10:C1=0:=by
     by_cases h:C1=0
     ·exact h
     ·exact absurd (hkeep h▸hc2) h
    have hroom:=hroom h10
    rw [if_pos hc2] at hst
    refine go (r:=?_);and_intros<;>intros<;>try exact True.intro
    all_goals first|(exact absurd hc2 (by assumption))|(rw [hst];done)|(rw [hst];rfl)|(rw [hst];simp only;omega)
   ·rw [if_neg hc2] at hst
    refine go (r:=?_);and_intros<;>intros<;>try exact True.intro
    all_goals first|(exact absurd (by assumption) hc2)|(rw [hst];done)|(rw [hst];rfl)
  all_goals first|(obtain rfl:=hfin (by first|exact .inl (by assumption)|exact .inr (by assumption));first|rfl|exact hln.symm)
end Go.Proofs.YtndflfipaddfoaaGreat


namespace Go.Proofs.YtndflfipaddfoaaGreat
open Go Go.Abs
attribute [local irreducible] WpA WpL Rnd Blk Abs.Seq Abs.Fin Abs.FinG FnC FnG Only
abbrev BkV (m:Int) (l:List Int):AV:=.agg [I m,.own 0 0 0 l.length]
theorem blS_1 {p:List UInt8} {s:Int} {lens:List Int} {n:Int} (hn:n=4∨n=8) (hs:smC p s lens=0) (hc:(lvS p (smA p s lens) n).c=0):blS p s lens n=⟨(lvS p (smA p s lens) n).a,0,smV p s lens,(lvS p (smA p s lens) n).out⟩:=by
 unfold blS;rw [if_pos hn,if_pos hs];simp only;rw [if_pos hc]
theorem blS_2 {p:List UInt8} {s:Int} {lens:List Int} {n:Int} (hn:n=4∨n=8) (hs:smC p s lens=0) (hc:(lvS p (smA p s lens) n).c≠0):blS p s lens n=⟨(lvS p (smA p s lens) n).a,(lvS p (smA p s lens) n).c,0,[]⟩:=by
 unfold blS;rw [if_pos hn,if_pos hs];simp only;rw [if_neg hc]
theorem blS_3 {p:List UInt8} {s:Int} {lens:List Int} {n:Int} (hn:n=4∨n=8) (hs:smC p s lens≠0):blS p s lens n=⟨s,smC p s lens,0,[]⟩:=by
 unfold blS;rw [if_pos hn,if_neg hs]
theorem blS_4 {p:List UInt8} {s:Int} {lens:List Int} {n:Int} (hn:¬(n=4∨n=8)):blS p s lens n=⟨s,5,0,[]⟩:=by
 unfold blS;rw [if_neg hn]
theorem smA_bad {p:List UInt8} {s:Int} {l:List Int} (h:smC p s l≠0):smA p s l=s:=by rw [smA,if_neg h]
instance ReadBlock_c:Con 114 (∀ (p:List UInt8) (s:Int) (lens:List Int) (n:Int),p.length≤1099511627776∧lens.length≤1099511627776→Fn 114 [RA p s,IL lens,I n] [XI (blS p s lens n).l] (.tup [RA p (blS p s lens n).a,BkV (blS p s lens n).m (blS p s lens n).l,I (blS p s lens n).c])):=⟨fun p s lens n hl=>by
 refine FnC.of_body tabOk Tryz.func114 Tryz.ntmps114 rfl (by decide +kernel) (by simp) fun G=>?_
 by_cases hn:n=4∨n=8
 ·by_cases hs:smC p s lens=0
  ·refine go (r:=?_);and_intros<;>intros<;>try exact True.intro
   all_goals first|(exact absurd hs (by assumption))|(exact absurd hn (by assumption))|skip
   refine K.call ?_
   refine WpL.callM (hs:=[3]) (flv_c p (smA p s lens) n hl.1 hn) handA handOA rfl rfl (.cons rfl (.sc (.sc (.sc .nil))) .nil) outA rfl rfl rfl rfl (by decide) ?_
   have e1:=blS_1 (p:=p) (s:=s) (lens:=lens) hn hs
   have e2:=blS_2 (p:=p) (s:=s) (lens:=lens) hn hs
   generalize lvS p (smA p s lens) n=y at e1 e2 ⊢
   by_cases hy:y.c=0
   ·rw [e1 hy]
    refine go (r:=?_);and_intros<;>intros<;>try exact True.intro
   ·rw [e2 hy]
    refine go (r:=?_);and_intros<;>intros<;>try exact True.intro
  ·rw [blS_3 hn hs]
   have ea:=smA_bad hs
   refine go (r:=?_);and_intros<;>intros<;>try exact True.intro
 ·rw [blS_4 hn]
  refine go (r:=?_);and_intros<;>intros<;>try exact True.intro⟩
theorem mbRun_len (p:List UInt8) (s:Int) (lens:List Int) (n:Int):∀k,(mbRun p s lens n k).c=0→(mbRun p s lens n k).bs.length=k
 |0,_=>rfl
 |k+1,h=>by
  have ih:=mbRun_len p s lens n k
  rw [mbRun] at h ⊢
  simp only at h ⊢
  split at h
  ·rename_i hx
   rw [if_pos hx]
   split at h
   ·rename_i hb;rw [if_pos hb];simp [ih hx]
   ·rename_i hb;exact absurd h hb
  ·rename_i hx;exact absurd h hx
theorem mbRun_stop {p:List UInt8} {s:Int} {lens:List Int} {n:Int} {k:Nat} (h:(mbRun p s lens n k).c≠0):∀j,k≤j→mbRun p s lens n j=mbRun p s lens n k
 |0,hj=>by have:k=0:=by omega
           subst this;rfl
 |j+1,hj=>by
  rcases Nat.lt_or_ge j k with h2|h2
  ·have:k=j+1:=by omega
   subst this;rfl
  ·have e:=mbRun_stop h j h2
   rw [mbRun];simp only;rw [e,if_neg h]
theorem mbS_no {p:List UInt8} {s:Int} {lens:List Int} (h:¬RbOk p s 1):mbS p s lens=(⟨s,1,[]⟩,false):=by unfold mbS;rw [if_neg h]
theorem nm8_nat (e:Bool):(bif e then 1 else 4:Nat)=(nm8 e).toNat:=by cases e<;>rfl
theorem mbS_yes {p:List UInt8} {s:Int} {lens:List Int} {E:Bool} (h:RbOk p s 1) (hE:decide (rbV p s 1=1)=E):mbS p s lens=(mbRun p (s+1) lens (sz8 E) (nm8 E).toNat,bif decide ((mbRun p (s+1) lens (sz8 E) (nm8 E).toNat).c=0) then E else false):=by
 unfold mbS;rw [if_pos h,hE];simp only;rw [nm8_nat];rfl
theorem mbRun_bad {p:List UInt8} {s:Int} {lens:List Int} {n:Int} {k:Nat} (h:(mbRun p s lens n k).c=0) (hb:(blS p (mbRun p s lens n k).a lens n).c≠0):∀j,k<j→mbRun p s lens n j=⟨(blS p (mbRun p s lens n k).a lens n).a,(blS p (mbRun p s lens n k).a lens n).c,[]⟩:=by
 intro j hj
 have e:mbRun p s lens n (k+1)=⟨(blS p (mbRun p s lens n k).a lens n).a,(blS p (mbRun p s lens n k).a lens n).c,[]⟩:=by
  rw [mbRun];simp only;rw [if_pos h,if_neg hb]
 rw [mbRun_stop (k:=k+1) (by rw [e];exact hb) j hj,e]
theorem mbRun_next {p:List UInt8} {s:Int} {lens:List Int} {n:Int} {k:Nat} (h:(mbRun p s lens n k).c=0) (hb:(blS p (mbRun p s lens n k).a lens n).c=0):mbRun p s lens n (k+1)=⟨(blS p (mbRun p s lens n k).a lens n).a,0,(mbRun p s lens n k).bs++[((blS p (mbRun p s lens n k).a lens n).m,(blS p (mbRun p s lens n k).a lens n).l)]⟩:=by
 rw [mbRun];simp only;rw [if_pos h,if_pos hb]
abbrev MbV (e:Bool) (n:Nat):AV:=.agg [B e,.own 0 0 0 n]
instance ReadMb_c:Con 50 (∀ (p:List UInt8) (s:Int) (lens:List Int),p.length≤1099511627776∧lens.length≤1099511627776→Fn 50 [RA p s,IL lens] [BkO (mbS p s lens).1.bs] (.tup [RA p (mbS p s lens).1.a,MbV (mbS p s lens).2 (mbS p s lens).1.bs.length,I (mbS p s lens).1.c])):=⟨fun p s lens hl=>by
 refine FnC.of_body tabOk Tryz.func50 Tryz.ntmps50 rfl (by decide +kernel) (by simp) fun G=>?_
 by_cases ho:RbOk p s 1
 ·have ea:=(rb_yes ho).1
  generalize hE:decide (rbV p s 1=1)=E
  rw [mbS_yes ho hE]
  have hc8:=sz8_cases E
  refine go (r:=?_);and_intros<;>intros<;>try exact True.intro
  all_goals first|contradiction|skip
  rw [hE,ea]
  have hz:(mbRun p (s+1) lens (sz8 E) 0)=⟨s+1,0,[]⟩:=rfl
  have hln:=fun k h=>mbRun_len p (s+1) lens (sz8 E) k h
  have hnx:=fun k h hb=>mbRun_next (p:=p) (s:=s+1) (lens:=lens) (n:=sz8 E) (k:=k) h hb
  have hbd:=fun k h hb j hj=>mbRun_bad (p:=p) (s:=s+1) (lens:=lens) (n:=sz8 E) (k:=k) h hb j hj
  generalize mbRun p (s+1) lens (sz8 E)=X at hz hln hnx hbd ⊢
  refine WpA.loop (fun k:Nat=>⟨[(1,IL lens),(2,.ptr 0 0 0),(4,.ptr 1 0 0),(5,.ptr 2 0 0),(9,.ptr 3 0 0),(11,I (sz8 E)),(34,I (nm8 E)),(35,I k)],[⟨[Z p,I (X k).a],0,0,none⟩,R0,⟨[B false,.nilS],0,0,none⟩,⟨[B E,.own 4 0 0 k],0,0,none⟩,BkO (X k).bs]⟩) (fun k=>(k:Int)≤nm8 E∧(X k).c=0) (fun k=>(nm8 E).toNat-k) 0 (by rw [hz];exact ⟨by omega,rfl⟩) ?_ (fun k hk=>?_)
  ·rw [hz];exact Weak.nil1 (by first|(show 0≤_;exact Nat.zero_le _)|(repeat' (first|exact RzT.nil|refine RzT.cons ?_ ?_|exact Rz.nil|refine Rz.keep rfl rfl ?_|refine Rz.own rfl rfl rfl rfl rfl (by first|rfl|omega|(simp;done)) ?_|refine Rz.ptr rfl rfl rfl rfl ?_|refine Rz.nilO rfl rfl rfl (by first|rfl|omega|(simp;done)) ?_|refine Rz.agg ?_ ?_|exact RzO.last rfl|(refine RzO.cons ?_ (.inr rfl) ?_)|exact Rz.same rfl (still_ints _)|exact Rz.same rfl (still_rows (fun _=>rfl) _)))) (by first|(show 0≤_;exact Nat.zero_le _)|(repeat' (first|exact RzT.nil|refine RzT.cons ?_ ?_|exact Rz.nil|refine Rz.keep rfl rfl ?_|refine Rz.own rfl rfl rfl rfl rfl (by first|rfl|omega|(simp;done)) ?_|refine Rz.ptr rfl rfl rfl rfl ?_|refine Rz.nilO rfl rfl rfl (by first|rfl|omega|(simp;done)) ?_|refine Rz.agg ?_ ?_|exact RzO.last rfl|(refine RzO.cons ?_ (.inr rfl) ?_)|exact Rz.same rfl (still_ints _)|exact Rz.same rfl (still_rows (fun _=>rfl) _)))) (Nat.zero_le _)
  have hln:=hln k hk.2
  have hnx:=hnx k hk.2
  have hbd:=hbd k hk.2
  have hfin:¬(k:Int)<nm8 E→X (nm8 E).toNat=X k:=fun h=>by rw [show (nm8 E).toNat=k by omega]
  generalize hy:X k=y at hk hln hnx hbd hfin ⊢
  have hln:y.bs.length=k:=hln
  by_cases hb:(blS p y.a lens (sz8 E)).c=0
  ·have hnx:=hnx hb
   clear hbd
   refine go (r:=?_);and_intros<;>intros<;>try exact True.intro
   all_goals first|contradiction|(rw [hnx];done)|(rw [hfin (by assumption)];first|done|omega|(simp [hk.2];done)|(simp only;omega))
  ·have hbd:=hbd hb
   clear hnx
   refine go (r:=?_);and_intros<;>intros<;>try exact True.intro
   all_goals first|contradiction|(rw [hbd _ (by omega)];first|done|(simp [hb];done))|(rw [hfin (by assumption)];first|done|omega|(simp [hk.2];done)|(simp only;omega))
 ·rw [mbS_no ho]
  have ea:=(rb_no ho).1
  refine go (r:=?_);and_intros<;>intros<;>try exact True.intro
  all_goals first|contradiction⟩
end Go.Proofs.YtndflfipaddfoaaGreat


namespace Go.Proofs.YtndflfipaddfoaaGreat
open Go Go.Abs
theorem rbA_ok {p:List UInt8} {s n:Int} (h:RdOk p s):RdOk p (rbA p s n):=by
 by_cases ho:RbOk p s n
 ·rw [(rb_yes ho).1]
  have h1:=lft_ok h
  have h2:=ho.2.2
  have h3:=ho.2.1
  have h4:=h.1
  constructor<;>omega
 ·rw [(rb_no ho).1];exact h
theorem ueA_ok {p:List UInt8} {s:Int} (h:RdOk p s):RdOk p (ueA p s):=by
 unfold ueA;split
 ·exact rbA_ok h
 ·exact h
theorem fuA_ok {p:List UInt8} {s c:Int} {k:Int→Int} (h:RdOk p s):RdOk p (fuA p s c k):=by
 unfold fuA;split
 ·exact ueA_ok h
 ·exact h
theorem fbA_ok {p:List UInt8} {s c n:Int} {k:Int→Int} (h:RdOk p s):RdOk p (fbA p s c n k):=by
 unfold fbA;split
 ·exact rbA_ok h
 ·exact h
theorem smA_ok {p:List UInt8} {s:Int} {l:List Int} (h:RdOk p s):RdOk p (smA p s l):=by
 by_cases hc:smC p s l=0
 ·rw [smA,if_pos hc]
  have hm:symM p s l<6:=by
   unfold smC at hc
   split at hc
   ·split at hc
    ·assumption
    ·exact absurd hc (by decide)
   ·exact absurd hc (by decide)
  have h0:=symM_lt hm
  have h1:=lft_ok h
  have h2:=h0.2.1.2.2
  have h3:=h0.1
  have h4:=h.1
  constructor<;>omega
 ·rw [smA,if_neg hc];exact h
theorem lvStep_ok {p:List UInt8} {nn:Int} {x:LvS} (h:RdOk p x.a):RdOk p (lvStep p nn x).a:=by
 unfold lvStep;split
 ·simp only;split<;>exact fuA_ok (fuA_ok h)
 ·exact h
theorem lvRun_ok {p:List UInt8} {nn:Int} {x:LvS} (h:RdOk p x.a):∀k,RdOk p (lvRun p nn x k).a
 |0=>h
 |k+1=>by rw [lvRun];exact lvStep_ok (lvRun_ok h k)
theorem lvS_ok {p:List UInt8} {s n:Int} (h:RdOk p s):RdOk p (lvS p s n).a:=by
 unfold lvS;simp only;split
 ·exact fbA_ok h
 ·exact lvRun_ok (x:=⟨_,_,_,_⟩) (fuA_ok (fbA_ok h)) _
theorem blS_ok {p:List UInt8} {s:Int} {lens:List Int} {n:Int} (h:RdOk p s):RdOk p (blS p s lens n).a:=by
 unfold blS;split
 ·split
  ·simp only;split<;>exact lvS_ok (smA_ok h)
  ·exact h
 ·exact h
theorem mbRun_ok {p:List UInt8} {s:Int} {lens:List Int} {n:Int} (h:RdOk p s):∀k,RdOk p (mbRun p s lens n k).a
 |0=>h
 |k+1=>by
  have ih:=mbRun_ok (lens:=lens) (n:=n) h k
  rw [mbRun];simp only;split
  ·split<;>exact blS_ok ih
  ·exact ih
theorem mbS_ok {p:List UInt8} {s:Int} {lens:List Int} (h:RdOk p s):RdOk p (mbS p s lens).1.a:=by
 unfold mbS;split
 ·rename_i ho
  have:RdOk p (s+1):=by have:=rbA_ok (n:=1) h;rwa [(rb_yes ho).1] at this
  exact mbRun_ok this _
 ·exact h
theorem stRun_ok {p:List UInt8} {s:Int} {lens:List Int} (h:RdOk p s):∀k,RdOk p (stRun p s lens k).a
 |0=>h
 |k+1=>by
  have ih:=stRun_ok (lens:=lens) h k
  rw [stRun];simp only;split
  ·split<;>exact mbS_ok ih
  ·exact ih
theorem hdS_ok {p:List UInt8} {s:Int} (h:RdOk p s):RdOk p (hdS p s).a:=by
 unfold hdS;simp only;exact fbA_ok (fbA_ok (fbA_ok (fuA_ok (fuA_ok (fbA_ok h)))))
theorem mbRun_sm {p:List UInt8} {s:Int} {lens:List Int} {n:Int}:∀k,∀b∈(mbRun p s lens n k).bs,b.2.length≤64
 |0,b,hb=>by simp [mbRun] at hb
 |k+1,b,hb=>by
  have ih:=mbRun_sm (p:=p) (s:=s) (lens:=lens) (n:=n) k
  rw [mbRun] at hb;simp only at hb
  split at hb
  ·split at hb
   ·simp at hb
    rcases hb with hb|hb
    ·exact ih b hb
    ·rw [hb];exact blS_len _ _ _ _
   ·simp at hb
  ·exact ih b hb
theorem mbRun_le {p:List UInt8} {s:Int} {lens:List Int} {n:Int}:∀k,(mbRun p s lens n k).bs.length≤k
 |0=>by simp [mbRun]
 |k+1=>by
  have ih:=mbRun_le (p:=p) (s:=s) (lens:=lens) (n:=n) k
  rw [mbRun];simp only
  split
  ·split
   ·simp;exact ih
   ·simp
  ·omega
theorem mbS_sm {p:List UInt8} {s:Int} {lens:List Int}:(mbS p s lens).1.bs.length≤4∧∀b∈(mbS p s lens).1.bs,b.2.length≤64:=by
 unfold mbS;split
 ·refine ⟨Nat.le_trans (mbRun_le _) ?_,mbRun_sm _⟩
  cases decide (rbV p s 1=1)<;>decide
 ·simp
theorem stRun_sm {p:List UInt8} {s:Int} {lens:List Int}:∀k,(stRun p s lens k).ms.length≤k∧∀m∈(stRun p s lens k).ms,m.2.length≤4∧∀b∈m.2,b.2.length≤64
 |0=>by simp [stRun]
 |k+1=>by
  have ih:=stRun_sm (p:=p) (s:=s) (lens:=lens) k
  rw [stRun];simp only
  split
  ·split
   ·simp only [List.length_append,List.length_singleton,List.mem_append,List.mem_singleton]
    refine ⟨by have:=ih.1;omega,fun m hm=>?_⟩
    rcases hm with hm|hm
    ·exact ih.2 m hm
    ·rw [hm];exact mbS_sm
   ·simp
  ·exact ⟨by have:=ih.1;omega,ih.2⟩
theorem stRun_stop {p:List UInt8} {s:Int} {lens:List Int} {k:Nat} (h:(stRun p s lens k).c≠0):∀j,k≤j→stRun p s lens j=stRun p s lens k
 |0,hj=>by have:k=0:=by omega
           subst this;rfl
 |j+1,hj=>by
  rcases Nat.lt_or_ge j k with h2|h2
  ·have:k=j+1:=by omega
   subst this;rfl
  ·have e:=stRun_stop h j h2
   rw [stRun];simp only;rw [e,if_neg h]
theorem stRun_len (p:List UInt8) (s:Int) (lens:List Int):∀k,(stRun p s lens k).c=0→(stRun p s lens k).ms.length=k
 |0,_=>rfl
 |k+1,h=>by
  have ih:=stRun_len p s lens k
  rw [stRun] at h ⊢
  simp only at h ⊢
  split at h
  ·rename_i hx
   rw [if_pos hx]
   split at h
   ·rename_i hb;rw [if_pos hb];simp [ih hx]
   ·rename_i hb;exact absurd h hb
  ·rename_i hx;exact absurd h hx
structure PrS where
 W:Int
 H:Int
 Q:Int
 B:Bool
 D:Bool
 L:List Int
 ms:List Mbk
 a:Int
 c:Int
def prS (p:List UInt8):PrS:=
 let x:=hdS p 0
 if x.c=0 then
  let y:=stRun p x.a x.L (cntM x.W x.H).toNat
  if y.c=0 then
   if endC p y.a=0 then ⟨x.W,x.H,x.Q,x.B,x.D,x.L,y.ms,y.a,0⟩ else ⟨0,0,0,false,false,[],[],y.a,endC p y.a⟩
  else ⟨0,0,0,false,false,[],[],y.a,y.c⟩
 else ⟨0,0,0,false,false,[],[],x.a,x.c⟩
theorem fuV_max {p:List UInt8} {s c:Int}:0≤fuV p s c hk2∧fuV p s c hk2≤3:=by
 refine ⟨fuV_nn _ _ _ _,?_⟩
 unfold fuV;split
 ·rename_i h
  unfold fuC at h
  split at h
  ·split at h
   ·by_cases hlt:ueV p s≤3
    ·exact hlt
    ·have h:ifE (ueV p s≤3) 3=0:=h
     rw [ifE_no hlt] at h;exact absurd h (by decide)
   ·rename_i hu;exact absurd h hu
  ·rename_i hc;exact absurd h hc
 ·omega
theorem hdS_sides {p:List UInt8} {s:Int} (h:(hdS p s).c=0):SidesOk (hdS p s).W (hdS p s).H:=by
 have hw:0≤(hdS p s).w∧(hdS p s).w≤3:=by unfold hdS;exact fuV_max
 have hh:0≤(hdS p s).h∧(hdS p s).h≤3:=by unfold hdS;exact fuV_max
 rw [HdS.W,if_pos h,HdS.H,if_pos h]
 omega
end Go.Proofs.YtndflfipaddfoaaGreat


namespace Go.Proofs.YtndflfipaddfoaaGreat
open Go Go.Abs
attribute [local irreducible] WpA WpL Rnd Blk Abs.Seq Abs.Fin Abs.FinG FnC FnG Only
def pvC (p:List UInt8) (s room:Int):Int:=fuC p (fuA p s 0 (kR room)) (fuC p s 0 (kR room)) kL
def pvA (p:List UInt8) (s room:Int):Int:=fuA p (fuA p s 0 (kR room)) (fuC p s 0 (kR room)) kL
def pvR (p:List UInt8) (s room:Int):Int:=if pvC p s room=0 then fuV p s 0 (kR room) else 0
def pvL (p:List UInt8) (s room:Int):Int:=if pvC p s room=0 then lvOf (fuV p (fuA p s 0 (kR room)) (fuC p s 0 (kR room)) kL) else 0
theorem fu_bad {p:List UInt8} {s:Int} {k:Int→Int} (h:ueC p s≠0):fuC p s 0 k=ueC p s∧fuA p s 0 k=s:=by
 have e:fuC p s 0 k=ueC p s:=by rw [fuC,if_pos rfl,if_neg h]
 exact ⟨e,by rw [fuA,if_neg (by rw [e];exact h)]⟩
theorem fu_chk {p:List UInt8} {s c:Int} {k:Int→Int} (h:ueC p s=0) (hk:k (ueV p s)=c) (hc:c≠0):fuC p s 0 k=c∧fuA p s 0 k=s:=by
 have e:fuC p s 0 k=c:=by rw [fuC,if_pos rfl,if_pos h,hk]
 exact ⟨e,by rw [fuA,if_neg (by rw [e];exact hc)]⟩
theorem fu_yes {p:List UInt8} {s:Int} {k:Int→Int} (h:ueC p s=0) (hk:k (ueV p s)=0):fuC p s 0 k=0∧fuA p s 0 k=ueA p s∧fuV p s 0 k=ueV p s:=by
 have e:fuC p s 0 k=0:=by rw [fuC,if_pos rfl,if_pos h,hk]
 exact ⟨e,by rw [fuA,if_pos e],by rw [fuV,if_pos e]⟩
theorem fu_off {p:List UInt8} {s c:Int} {k:Int→Int} (h:c≠0):fuC p s c k=c∧fuA p s c k=s:=by
 have e:fuC p s c k=c:=by rw [fuC,if_neg h]
 exact ⟨e,by rw [fuA,if_neg (by rw [e];exact h)]⟩
theorem pv_1 {p:List UInt8} {s room:Int} (h:ueC p s≠0):pvA p s room=s∧pvC p s room=ueC p s∧pvR p s room=0∧pvL p s room=0:=by
 have e:=fu_bad (k:=kR room) h
 have e2:pvC p s room=ueC p s:=by rw [pvC,e.1,e.2,(fu_off h).1]
 exact ⟨by rw [pvA,e.1,e.2,(fu_off h).2],e2,by rw [pvR,if_neg (by rw [e2];exact h)],by rw [pvL,if_neg (by rw [e2];exact h)]⟩
theorem pv_2 {p:List UInt8} {s room:Int} (h:ueC p s=0) (h2:¬ueV p s<room):pvA p s room=s∧pvC p s room=5∧pvR p s room=0∧pvL p s room=0:=by
 have e:=fu_chk (k:=kR room) h (ifE_no h2) (by decide)
 have e2:pvC p s room=5:=by rw [pvC,e.1,e.2,(fu_off (by decide)).1]
 exact ⟨by rw [pvA,e.1,e.2,(fu_off (by decide)).2],e2,by rw [pvR,if_neg (by rw [e2];decide)],by rw [pvL,if_neg (by rw [e2];decide)]⟩
theorem pv_3 {p:List UInt8} {s room:Int} (h:ueC p s=0) (h2:ueV p s<room) (h3:ueC p (ueA p s)≠0):pvA p s room=ueA p s∧pvC p s room=ueC p (ueA p s)∧pvR p s room=0∧pvL p s room=0:=by
 have e:=fu_yes (k:=kR room) h (ifE_yes h2)
 have f:=fu_bad (k:=kL) h3
 have e2:pvC p s room=ueC p (ueA p s):=by rw [pvC,e.1,e.2.1,f.1]
 exact ⟨by rw [pvA,e.1,e.2.1,f.2],e2,by rw [pvR,if_neg (by rw [e2];exact h3)],by rw [pvL,if_neg (by rw [e2];exact h3)]⟩
theorem pv_4 {p:List UInt8} {s room:Int} (h:ueC p s=0) (h2:ueV p s<room) (h3:ueC p (ueA p s)=0) (h4:¬(-16383≤lvOf (ueV p (ueA p s))∧lvOf (ueV p (ueA p s))≤16383)):pvA p s room=ueA p s∧pvC p s room=5∧pvR p s room=0∧pvL p s room=0:=by
 have e:=fu_yes (k:=kR room) h (ifE_yes h2)
 have f:=fu_chk (k:=kL) h3 (ifE_no h4) (by decide)
 have e2:pvC p s room=5:=by rw [pvC,e.1,e.2.1,f.1]
 exact ⟨by rw [pvA,e.1,e.2.1,f.2],e2,by rw [pvR,if_neg (by rw [e2];decide)],by rw [pvL,if_neg (by rw [e2];decide)]⟩
theorem pv_5 {p:List UInt8} {s room:Int} (h:ueC p s=0) (h2:ueV p s<room) (h3:ueC p (ueA p s)=0) (h4:-16383≤lvOf (ueV p (ueA p s))∧lvOf (ueV p (ueA p s))≤16383):pvA p s room=ueA p (ueA p s)∧pvC p s room=0∧pvR p s room=ueV p s∧pvL p s room=lvOf (ueV p (ueA p s)):=by
 have e:=fu_yes (k:=kR room) h (ifE_yes h2)
 have f:=fu_yes (k:=kL) h3 (ifE_yes h4)
 have e2:pvC p s room=0:=by rw [pvC,e.1,e.2.1,f.1]
 exact ⟨by rw [pvA,e.1,e.2.1,f.2.1],e2,by rw [pvR,if_pos e2,e.2.2],by rw [pvL,if_pos e2,e.1,e.2.1,f.2.2]⟩
theorem lvStep_pv0 {p:List UInt8} {nn:Int} {x:LvS} (hc:x.c=0) (h:pvC p x.a (nn-x.at_)=0):lvStep p nn x=⟨pvA p x.a (nn-x.at_),0,x.at_+pvR p x.a (nn-x.at_)+1,x.out.set (x.at_+pvR p x.a (nn-x.at_)).toNat (pvL p x.a (nn-x.at_))⟩:=by
 have h':=h
 rw [pvC] at h'
 have e3:pvR p x.a (nn-x.at_)=fuV p x.a 0 (kR (nn-x.at_)):=by rw [pvR,if_pos h]
 have e4:pvL p x.a (nn-x.at_)=lvOf (fuV p (fuA p x.a 0 (kR (nn-x.at_))) (fuC p x.a 0 (kR (nn-x.at_))) kL):=by rw [pvL,if_pos h]
 rw [lvStep_yes hc,if_pos h',e3,e4,h'];rfl
theorem lvStep_pv1 {p:List UInt8} {nn:Int} {x:LvS} (hc:x.c=0) (h:pvC p x.a (nn-x.at_)≠0):(lvStep p nn x).a=pvA p x.a (nn-x.at_)∧(lvStep p nn x).c=pvC p x.a (nn-x.at_)∧(lvStep p nn x).out=x.out:=by
 have h':=h
 rw [pvC] at h'
 rw [lvStep_yes hc,if_neg h'];exact ⟨rfl,rfl,rfl⟩
theorem pvR_bd {p:List UInt8} {s room:Int} (h:pvC p s room=0):0≤pvR p s room∧pvR p s room<room:=by
 have h1:fuC p s 0 (kR room)=0:=by
  by_cases h0:fuC p s 0 (kR room)=0
  ·exact h0
  ·rw [pvC,fuC_keep h0] at h;exact absurd h h0
 rw [pvR,if_pos h]
 refine ⟨fuV_nn _ _ _ _,?_⟩
 have hu:=ueV_nn p s
 rw [fuV,if_pos h1]
 rw [fuC,if_pos rfl] at h1
 split at h1
 ·by_cases hlt:ueV p s<room
  ·exact hlt
  ·have h1:ifE (ueV p s<room) 5=0:=h1
   rw [ifE_no hlt] at h1;cases h1
 ·rename_i hh;exact absurd h1 hh
section
attribute [local irreducible] ueA ueV ueC pvC pvA pvR pvL lvOf
instance l23Pair_s:Con 219 (∀ (p:List UInt8) (s room:Int),p.length≤1099511627776→Fn 219 [RA p s,I room] [] (.tup [RA p (pvA p s room),.agg [I (pvR p s room),I (pvL p s room)],I (pvC p s room)])):=⟨fun p s room hl=>by
 have hb:=ueV_bd p s
 have hb2:=ueV_bd p (ueA p s)
 refine FnC.of_body tabOk Tryz.func219 Tryz.ntmps219 rfl (by decide +kernel) (by simp) fun G=>?_
 by_cases h1:ueC p s=0
 rotate_left
 ·obtain ⟨e1,e2,e3,e4⟩:=pv_1 (room:=room) h1
  rw [e1,e2,e3,e4]
  refine go (r:=?_);and_intros<;>intros<;>try exact True.intro
  all_goals first|contradiction
 by_cases h2:ueV p s<room
 rotate_left
 ·obtain ⟨e1,e2,e3,e4⟩:=pv_2 (room:=room) h1 h2
  rw [e1,e2,e3,e4]
  refine go (r:=?_);and_intros<;>intros<;>try exact True.intro
  all_goals first|contradiction|omega
 by_cases h3:ueC p (ueA p s)=0
 rotate_left
 ·obtain ⟨e1,e2,e3,e4⟩:=pv_3 (room:=room) h1 h2 h3
  rw [e1,e2,e3,e4]
  refine go (r:=?_);and_intros<;>intros<;>try exact True.intro
  all_goals first|contradiction|omega
 by_cases h4:-16383≤lvOf (ueV p (ueA p s))∧lvOf (ueV p (ueA p s))≤16383
 rotate_left
 ·obtain ⟨e1,e2,e3,e4⟩:=pv_4 (room:=room) h1 h2 h3 h4
  rw [e1,e2,e3,e4]
  refine go (r:=?_);and_intros<;>intros<;>try exact True.intro
  all_goals first|contradiction|omega
 obtain ⟨e1,e2,e3,e4⟩:=pv_5 (room:=room) h1 h2 h3 h4
 rw [e1,e2,e3,e4]
 refine go (r:=?_);and_intros<;>intros<;>try exact True.intro
 all_goals first|contradiction|omega⟩
end
theorem lv_1 {p:List UInt8} {s n:Int} (h:¬RbOk p s 1):lvS p s n=⟨s,1,0,List.replicate (n*n).toNat 0⟩:=by
 have e1:fbC p s 0 1 k0C=1:=by rw [fbC,if_pos rfl,if_neg h]
 have e2:fbA p s 0 1 k0C=s:=by rw [fbA,if_neg (by rw [e1];decide)]
 rw [lvS_no (by rw [fbV,if_neg (by rw [e1];decide)]),e1,e2]
theorem k0_ok {p:List UInt8} {s:Int} (h:RbOk p s 1):fbC p s 0 1 k0C=0∧fbA p s 0 1 k0C=rbA p s 1∧fbV p s 0 1 k0C=rbV p s 1:=by
 have e1:fbC p s 0 1 k0C=0:=by rw [fbC,if_pos rfl,if_pos h]
 exact ⟨e1,by rw [fbA,if_pos ⟨rfl,e1⟩],by rw [fbV,if_pos e1]⟩
theorem lv_2 {p:List UInt8} {s n:Int} (h:RbOk p s 1) (hv:rbV p s 1=0):lvS p s n=⟨rbA p s 1,0,0,List.replicate (n*n).toNat 0⟩:=by
 obtain ⟨e1,e2,e3⟩:=k0_ok h
 rw [lvS_no (by rw [e3];exact hv),e1,e2]
theorem lvRun_c {p:List UInt8} {nn:Int} {x:LvS} (h:x.c≠0) (j:Nat):lvRun p nn x j=x:=lvRun_stop (k:=0) h j (Nat.zero_le _)
theorem lv_3 {p:List UInt8} {s n:Int} (h:RbOk p s 1) (hv:rbV p s 1≠0) (hu:ueC p (rbA p s 1)≠0):lvS p s n=⟨rbA p s 1,ueC p (rbA p s 1),0,List.replicate (n*n).toNat 0⟩:=by
 obtain ⟨e1,e2,e3⟩:=k0_ok h
 have f:=fu_bad (k:=kR (n*n)) hu
 rw [lvS_yes (by rw [e3];exact hv),e1,e2,f.1,f.2,lvRun_c hu]
theorem lv_4 {p:List UInt8} {s n:Int} (h:RbOk p s 1) (hv:rbV p s 1≠0) (hu:ueC p (rbA p s 1)=0) (h2:¬ueV p (rbA p s 1)<n*n):lvS p s n=⟨rbA p s 1,5,0,List.replicate (n*n).toNat 0⟩:=by
 obtain ⟨e1,e2,e3⟩:=k0_ok h
 have f:=fu_chk (k:=kR (n*n)) hu (ifE_no h2) (by decide)
 rw [lvS_yes (by rw [e3];exact hv),e1,e2,f.1,f.2,lvRun_c (show (5:Int)≠0 by decide)]
theorem lv_5 {p:List UInt8} {s n:Int} (h:RbOk p s 1) (hv:rbV p s 1≠0) (hu:ueC p (rbA p s 1)=0) (h2:ueV p (rbA p s 1)<n*n):lvS p s n=lvRun p (n*n) ⟨ueA p (rbA p s 1),0,0,List.replicate (n*n).toNat 0⟩ (1+ueV p (rbA p s 1)).toNat:=by
 obtain ⟨e1,e2,e3⟩:=k0_ok h
 have f:=fu_yes (k:=kR (n*n)) hu (ifE_yes h2)
 rw [lvS_yes (by rw [e3];exact hv),e1,e2,f.1,f.2.1,f.2.2]
section
attribute [local irreducible] rbA rbV ueA ueV ueC pvC pvA pvR pvL lvOf lvS lvRun
instance l23Levels_s:Con 135 (∀ (p:List UInt8) (s n:Int),p.length≤1099511627776∧(n=4∨n=8)→Fn 135 [RA p s,I n] [XI (lvS p s n).out] (.tup [RA p (lvS p s n).a,.own 0 0 0 (lvS p s n).out.length,I (lvS p s n).c])):=⟨fun p s n hl=>by
 obtain ⟨hl,hn⟩:=hl
 have hnn:16≤n*n∧n*n≤64:=by rcases hn with rfl|rfl<;>decide
 have hn2:=mul_in (a:=n) (b:=n) (by omega) (by omega)
 refine FnC.of_body tabOk Tryz.func135 Tryz.ntmps135 rfl (by decide +kernel) (by simp) fun G=>?_
 by_cases h1:RbOk p s 1
 rotate_left
 ·rw [lv_1 h1]
  refine go (r:=?_);and_intros<;>intros<;>try exact True.intro
  all_goals first|contradiction
 by_cases h2:rbV p s 1=0
 ·rw [lv_2 h1 h2]
  refine go (r:=?_);and_intros<;>intros<;>try exact True.intro
  all_goals first|contradiction
 have hb:=ueV_bd p (rbA p s 1)
 have hb2:=ueV_nn p (rbA p s 1)
 by_cases h3:ueC p (rbA p s 1)=0
 rotate_left
 ·rw [lv_3 h1 h2 h3]
  refine go (r:=?_);and_intros<;>intros<;>try exact True.intro
  all_goals first|contradiction
 by_cases h4:ueV p (rbA p s 1)<n*n
 rotate_left
 ·rw [lv_4 h1 h2 h3 h4]
  refine go (r:=?_);and_intros<;>intros<;>try exact True.intro
  all_goals first|contradiction|omega
 rw [lv_5 h1 h2 h3 h4]
 have hr0:=lvRun_at (p:=p) (nn:=n*n) (x:=⟨ueA p (rbA p s 1),0,0,List.replicate (n*n).toNat 0⟩) (show (0:Int)≤0∧(0:Int)≤n*n by omega)
 have hln:=lvRun_len p (n*n) ⟨ueA p (rbA p s 1),0,0,List.replicate (n*n).toNat 0⟩
 have hst:∀k,lvRun p (n*n) ⟨ueA p (rbA p s 1),0,0,List.replicate (n*n).toNat 0⟩ (k+1)=lvStep p (n*n) (lvRun p (n*n) ⟨ueA p (rbA p s 1),0,0,List.replicate (n*n).toNat 0⟩ k):=fun _=>by rw [lvRun]
 have hsp:=fun k=>lvRun_stop (p:=p) (nn:=n*n) (x:=⟨ueA p (rbA p s 1),0,0,List.replicate (n*n).toNat 0⟩) (k:=k)
 have hz:lvRun p (n*n) ⟨ueA p (rbA p s 1),0,0,List.replicate (n*n).toNat 0⟩ 0=⟨ueA p (rbA p s 1),0,0,List.replicate (n*n).toNat 0⟩:=by rw [lvRun]
 generalize lvRun p (n*n) ⟨ueA p (rbA p s 1),0,0,List.replicate (n*n).toNat 0⟩=X at hr0 hln hst hsp hz ⊢
 have hz2:(X (1+ueV p (rbA p s 1)).toNat).out.length=(n*n).toNat:=by rw [hln];simp
 refine go (r:=?_);and_intros<;>intros<;>try exact True.intro
 all_goals first|contradiction|omega|skip
 generalize ueV p (rbA p s 1)=u at hb hb2 h4 hz2 ⊢
 refine WpA.loop (fun k:Nat=>⟨[(1,I n),(4,.ptr 1 0 0),(7,.own 2 0 0 (n*n).toNat),(11,.ptr 4 0 0),(12,I u),(14,I (X k).at_),(15,I k)],[BoxR p s,R0,XI (X k).out,⟨[Z p,I (rbA p s 1)],0,0,none⟩,⟨[Z p,I (X k).a],0,0,none⟩]⟩) (fun k=>(k:Int)≤1+u∧(X k).c=0) (fun k=>(1+u).toNat-k) 0 (by rw [hz];exact ⟨by omega,rfl⟩) (go (r:=?_)) (fun k hk=>?_)
 ·rw [hz];and_intros<;>first|exact True.intro|rfl
 have hr0:=hr0 k
 have hln:=hln k
 have hst:=hst k
 have hsp1:=fun h=>hsp (k+1) h (1+u).toNat
 have hfin:¬(k:Int)≤u→X (1+u).toNat=X k:=fun h=>by rw [show (1+u).toNat=k by omega]
 generalize hy:X k=y at hr0 hln hst hsp1 hk hfin ⊢
 have hln:y.out.length=(n*n).toNat:=by simpa using hln
 have hrm:=pvR_bd (p:=p) (s:=y.a) (room:=n*n-y.at_)
 by_cases hp:pvC p y.a (n*n-y.at_)=0
 ·have hrm:=hrm hp
  rw [lvStep_pv0 hk.2 hp] at hst
  clear hsp1
  refine go (r:=?_);and_intros<;>intros<;>try exact True.intro
  all_goals first|contradiction|(rw [hst];done)|(rw [hfin (by assumption)];first|done|exact hk.2.symm)
 ·have e:=lvStep_pv1 (p:=p) (nn:=n*n) hk.2 hp
  rw [←hst] at e
  have hNk:=hsp1 (by rw [e.2.1];exact hp)
  clear hst hrm
  refine go (r:=?_);and_intros<;>intros<;>try exact True.intro
  all_goals first|contradiction|(rw [hfin (by assumption)];first|done|exact hk.2.symm)|(rw [hNk (by omega)];first|exact e.1.symm|exact e.2.1.symm|exact e.1|exact e.2.1|rw [e.1]|rw [e.2.1]|rw [e.2.2])⟩
end
section
attribute [local irreducible] lvS smA smV smC blS
instance ReadBlock_s:Con 116 (∀ (p:List UInt8) (s:Int) (lens:List Int) (n:Int),p.length≤1099511627776∧lens.length≤1099511627776→Fn 116 [RA p s,IL lens,I n] [XI (blS p s lens n).l] (.tup [RA p (blS p s lens n).a,BkV (blS p s lens n).m (blS p s lens n).l,I (blS p s lens n).c])):=⟨fun p s lens n hl=>by
 refine FnC.of_body tabOk Tryz.func116 Tryz.ntmps116 rfl (by decide +kernel) (by simp) fun G=>?_
 by_cases hn:n=4∨n=8
 rotate_left
 ·rw [blS_4 hn]
  refine go (r:=?_);and_intros<;>intros<;>try exact True.intro
  all_goals first|contradiction
 by_cases hs:smC p s lens=0
 rotate_left
 ·rw [blS_3 hn hs]
  have ea:=smA_bad hs
  refine go (r:=?_);and_intros<;>intros<;>try exact True.intro
  all_goals first|contradiction
 by_cases hy:(lvS p (smA p s lens) n).c=0
 ·rw [blS_1 hn hs hy]
  refine go (r:=?_);and_intros<;>intros<;>try exact True.intro
  all_goals first|contradiction
 ·rw [blS_2 hn hs hy]
  refine go (r:=?_);and_intros<;>intros<;>try exact True.intro
  all_goals first|contradiction⟩
end
section
attribute [local irreducible] rbA rbV blS mbS mbRun sz8 nm8
instance ReadMb_s:Con 51 (∀ (p:List UInt8) (s:Int) (lens:List Int),p.length≤1099511627776∧lens.length≤1099511627776→Fn 51 [RA p s,IL lens] [BkO (mbS p s lens).1.bs] (.tup [RA p (mbS p s lens).1.a,MbV (mbS p s lens).2 (mbS p s lens).1.bs.length,I (mbS p s lens).1.c])):=⟨fun p s lens hl=>by
 refine FnC.of_body tabOk Tryz.func51 Tryz.ntmps51 rfl (by decide +kernel) (by simp) fun G=>?_
 by_cases ho:RbOk p s 1
 rotate_left
 ·rw [mbS_no ho]
  refine go (r:=?_);and_intros<;>intros<;>try exact True.intro
  all_goals first|contradiction
 have ea:=(rb_yes ho).1
 generalize hE:decide (rbV p s 1=1)=E
 rw [mbS_yes ho hE]
 have hc8:=sz8_cases E
 have hnn:sz8 E*sz8 E=16∨sz8 E*sz8 E=64:=by rcases hc8 with ⟨h,_⟩|⟨h,_⟩<;>rw [h]<;>decide
 have hq:64/(sz8 E*sz8 E)=nm8 E:=by rcases hc8 with ⟨h,h2⟩|⟨h,h2⟩<;>rw [h,h2]<;>decide
 refine go (r:=?_);and_intros<;>intros<;>try exact True.intro
 all_goals first|contradiction|skip
 rw [hE,ea]
 have hz:(mbRun p (s+1) lens (sz8 E) 0)=⟨s+1,0,[]⟩:=by rw [mbRun]
 have hln:=fun k h=>mbRun_len p (s+1) lens (sz8 E) k h
 have hnx:=fun k h hb=>mbRun_next (p:=p) (s:=s+1) (lens:=lens) (n:=sz8 E) (k:=k) h hb
 have hbd:=fun k h hb j hj=>mbRun_bad (p:=p) (s:=s+1) (lens:=lens) (n:=sz8 E) (k:=k) h hb j hj
 generalize mbRun p (s+1) lens (sz8 E)=X at hz hln hnx hbd ⊢
 refine WpA.loop (fun k:Nat=>⟨[(1,IL lens),(4,.ptr 1 0 0),(5,.ptr 2 0 0),(7,.ptr 3 0 0),(10,.ptr 4 0 0),(11,I (sz8 E)),(12,I k)],[BoxR p s,R0,⟨[B false,.nilS],0,0,none⟩,⟨[Z p,I (X k).a],0,0,none⟩,⟨[B E,.own 5 0 0 k],0,0,none⟩,BkO (X k).bs]⟩) (fun k=>(k:Int)≤nm8 E∧(X k).c=0) (fun k=>(nm8 E).toNat-k) 0 (by rw [hz];exact ⟨by omega,rfl⟩) ?_ (fun k hk=>?_)
 ·rw [hz];exact Weak.nil1 (by first|(show 0≤_;exact Nat.zero_le _)|(repeat' (first|exact RzT.nil|refine RzT.cons ?_ ?_|exact Rz.nil|refine Rz.keep rfl rfl ?_|refine Rz.own rfl rfl rfl rfl rfl (by first|rfl|omega|(simp;done)) ?_|refine Rz.ptr rfl rfl rfl rfl ?_|refine Rz.nilO rfl rfl rfl (by first|rfl|omega|(simp;done)) ?_|refine Rz.agg ?_ ?_|exact RzO.last rfl|(refine RzO.cons ?_ (.inr rfl) ?_)|exact Rz.same rfl (still_ints _)|exact Rz.same rfl (still_rows (fun _=>rfl) _)))) (by first|(show 0≤_;exact Nat.zero_le _)|(repeat' (first|exact RzT.nil|refine RzT.cons ?_ ?_|exact Rz.nil|refine Rz.keep rfl rfl ?_|refine Rz.own rfl rfl rfl rfl rfl (by first|rfl|omega|(simp;done)) ?_|refine Rz.ptr rfl rfl rfl rfl ?_|refine Rz.nilO rfl rfl rfl (by first|rfl|omega|(simp;done)) ?_|refine Rz.agg ?_ ?_|exact RzO.last rfl|(refine RzO.cons ?_ (.inr rfl) ?_)|exact Rz.same rfl (still_ints _)|exact Rz.same rfl (still_rows (fun _=>rfl) _)))) (Nat.zero_le _)
 have hln:=hln k hk.2
 have hnx:=hnx k hk.2
 have hbd:=hbd k hk.2
 have hfin:¬(k:Int)<nm8 E→X (nm8 E).toNat=X k:=fun h=>by rw [show (nm8 E).toNat=k by omega]
 generalize hy:X k=y at hk hln hnx hbd hfin ⊢
 have hln:y.bs.length=k:=hln
 by_cases hb:(blS p y.a lens (sz8 E)).c=0
 ·have hnx:=hnx hb
  clear hbd
  refine go (r:=?_);and_intros<;>intros<;>try exact True.intro
  all_goals rw [hq] at*
  all_goals first|contradiction|omega|(rw [hnx];done)|(rw [hfin (by assumption)];first|done|omega|(simp [hk.2];done)|(simp only;omega))
 ·have hbd:=hbd hb
  clear hnx
  refine go (r:=?_);and_intros<;>intros<;>try exact True.intro
  all_goals rw [hq] at*
  all_goals first|contradiction|omega|(rw [hbd _ (by omega)];first|done|(simp [hb];done))|(rw [hfin (by assumption)];first|done|omega|(simp [hk.2];done)|(simp only;omega))⟩
end
end Go.Proofs.YtndflfipaddfoaaGreat


namespace Go.Proofs.YtndflfipaddfoaaGreat
open Go Go.Abs
attribute [local irreducible] WpA WpL Rnd Blk Abs.Seq Abs.Fin Abs.FinG FnC FnG Only
theorem ueA_badH {p:List UInt8} {s:Int} (h:ueC p s≠0):ueA p s=s:=by
 by_cases h15:zrs p s≤15
 ·by_cases hok:RbOk p s (2*(zrs p s:Int)+1)
  ·exact absurd (ue_yes h15 hok).2.1 h
  ·exact (ue_short h15 hok).1
 ·exact (ue_code (s:=s) (p:=p) h15).1
theorem fuC_k {p:List UInt8} {s c:Int} {k:Int→Int} (h:c≠0):fuC p s c k=c:=by rw [fuC,if_neg h]
theorem fuA_k {p:List UInt8} {s c:Int} {k:Int→Int} (h:c≠0):fuA p s c k=s:=by rw [fuA,if_neg (by rw [fuC_k h];exact h)]
theorem fbC_k {p:List UInt8} {s c n:Int} {k:Int→Int} (h:c≠0):fbC p s c n k=c:=by rw [fbC,if_neg h]
theorem fbA_k {p:List UInt8} {s c n:Int} {k:Int→Int} (h:c≠0):fbA p s c n k=s:=by rw [fbA,if_neg (fun hh=>h hh.1)]
theorem fbA_b {p:List UInt8} {s n:Int} {k:Int→Int} (h:fbC p s 0 n k≠0):fbA p s 0 n k=s:=by rw [fbA,if_neg (fun hh=>h hh.2)]
theorem fuA_b {p:List UInt8} {s:Int} {k:Int→Int} (h:fuC p s 0 k≠0):fuA p s 0 k=s:=by rw [fuA,if_neg h]
theorem hd_f1 {p:List UInt8} {s:Int} (h:fbC p s 0 8 hk1≠0):(hdS p s).a=s∧(hdS p s).c=fbC p s 0 8 hk1:=by
 constructor
 ·simp only [hdS,fuA_k h,fuC_k h,fbA_k h,fbC_k h];exact fbA_b h
 ·simp only [hdS,fuA_k h,fuC_k h,fbA_k h,fbC_k h]
theorem hd_f2 {p:List UInt8} {s A1:Int} (h1:fbC p s 0 8 hk1=0) (e1:fbA p s 0 8 hk1=A1) (h:fuC p A1 0 hk2≠0):(hdS p s).a=A1∧(hdS p s).c=fuC p A1 0 hk2:=by
 constructor
 ·simp only [hdS,h1,e1,fuA_k h,fuC_k h,fbA_k h,fbC_k h];exact fuA_b h
 ·simp only [hdS,h1,e1,fuA_k h,fuC_k h,fbA_k h,fbC_k h]
theorem hd_f3 {p:List UInt8} {s A1 A2:Int} (h1:fbC p s 0 8 hk1=0) (e1:fbA p s 0 8 hk1=A1) (h2:fuC p A1 0 hk2=0) (e2:fuA p A1 0 hk2=A2) (h:fuC p A2 0 hk2≠0):(hdS p s).a=A2∧(hdS p s).c=fuC p A2 0 hk2:=by
 constructor
 ·simp only [hdS,h1,e1,h2,e2,fuA_k h,fuC_k h,fbA_k h,fbC_k h];exact fuA_b h
 ·simp only [hdS,h1,e1,h2,e2,fuA_k h,fuC_k h,fbA_k h,fbC_k h]
theorem hd_f4 {p:List UInt8} {s A1 A2 A3:Int} (h1:fbC p s 0 8 hk1=0) (e1:fbA p s 0 8 hk1=A1) (h2:fuC p A1 0 hk2=0) (e2:fuA p A1 0 hk2=A2) (h3:fuC p A2 0 hk2=0) (e3:fuA p A2 0 hk2=A3) (h:fbC p A3 0 6 hk3≠0):(hdS p s).a=A3∧(hdS p s).c=fbC p A3 0 6 hk3:=by
 constructor
 ·simp only [hdS,h1,e1,h2,e2,h3,e3,fuA_k h,fuC_k h,fbA_k h,fbC_k h];exact fbA_b h
 ·simp only [hdS,h1,e1,h2,e2,h3,e3,fuA_k h,fuC_k h,fbA_k h,fbC_k h]
theorem hd_f5 {p:List UInt8} {s A1 A2 A3 A4:Int} (h1:fbC p s 0 8 hk1=0) (e1:fbA p s 0 8 hk1=A1) (h2:fuC p A1 0 hk2=0) (e2:fuA p A1 0 hk2=A2) (h3:fuC p A2 0 hk2=0) (e3:fuA p A2 0 hk2=A3) (h4:fbC p A3 0 6 hk3=0) (e4:fbA p A3 0 6 hk3=A4) (h:fbC p A4 0 2 hk4≠0):(hdS p s).a=A4∧(hdS p s).c=fbC p A4 0 2 hk4:=by
 constructor
 ·simp only [hdS,h1,e1,h2,e2,h3,e3,h4,e4,fuA_k h,fuC_k h,fbA_k h,fbC_k h];exact fbA_b h
 ·simp only [hdS,h1,e1,h2,e2,h3,e3,h4,e4,fuA_k h,fuC_k h,fbA_k h,fbC_k h]
theorem hd_f6 {p:List UInt8} {s A1 A2 A3 A4 A5:Int} (h1:fbC p s 0 8 hk1=0) (e1:fbA p s 0 8 hk1=A1) (h2:fuC p A1 0 hk2=0) (e2:fuA p A1 0 hk2=A2) (h3:fuC p A2 0 hk2=0) (e3:fuA p A2 0 hk2=A3) (h4:fbC p A3 0 6 hk3=0) (e4:fbA p A3 0 6 hk3=A4) (h5:fbC p A4 0 2 hk4=0) (e5:fbA p A4 0 2 hk4=A5):
 hdS p s=⟨fbA p A5 0 18 hk5,fbC p A5 0 18 hk5,fuV p A1 0 hk2,fuV p A2 0 hk2,fbV p A3 0 6 hk3,fbV p A4 0 2 hk4,fbV p A5 0 18 hk5⟩:=by
 simp only [hdS,h1,e1,h2,e2,h3,e3,h4,e4,h5,e5]
def sdV (p:List UInt8) (s:Int):Int:=if ueC p s=0∧ueV p s>3 then 0 else 8*ueV p s+8
instance l22Side_s:Con 268 (∀ (p:List UInt8) (s:Int),p.length≤1099511627776→Fn 268 [RA p s] [] (.tup [RA p (fuA p s 0 hk2),I (sdV p s),I (fuC p s 0 hk2)])):=⟨fun p s hl=>by
 have hb:=ueV_bd p s
 refine FnC.of_body tabOk Tryz.func268 Tryz.ntmps268 rfl (by decide +kernel) (by simp) fun G=>?_
 by_cases hc:ueC p s=0
 ·by_cases hv:ueV p s≤3
  ·have e1:fuC p s 0 hk2=0:=by rw [fuC,if_pos rfl,if_pos hc];exact ifE_yes hv
   have e2:fuA p s 0 hk2=ueA p s:=by rw [fuA,if_pos e1]
   have e3:sdV p s=8*ueV p s+8:=by rw [sdV,if_neg (by omega)]
   rw [e1,e2,e3]
   refine go (r:=?_);and_intros<;>intros<;>try exact True.intro
   all_goals first|(exact absurd hc (by assumption))|omega
  ·have e1:fuC p s 0 hk2=3:=by rw [fuC,if_pos rfl,if_pos hc];exact ifE_no hv
   have e2:fuA p s 0 hk2=s:=by rw [fuA,if_neg (by omega)]
   have e3:sdV p s=0:=by rw [sdV,if_pos (by omega)]
   rw [e1,e2,e3]
   refine go (r:=?_);and_intros<;>intros<;>try exact True.intro
   all_goals first|(exact absurd hc (by assumption))|omega
 ·have e1:fuC p s 0 hk2=ueC p s:=by rw [fuC,if_pos rfl,if_neg hc]
  have e2:fuA p s 0 hk2=ueA p s:=by rw [fuA,if_neg (by omega),ueA_badH hc]
  have e3:sdV p s=8*ueV p s+8:=by rw [sdV,if_neg (by omega)]
  rw [e1,e2,e3]
  refine go (r:=?_);and_intros<;>intros<;>try exact True.intro
  all_goals first|(exact absurd (by assumption) hc)|omega⟩
def lnL (p:List UInt8) (s:Int):List Int:=if RbOk p s 18 then lensV (rbV p s 18) else []
instance l22Lens_s:Con 269 (∀ (p:List UInt8) (s:Int),p.length≤1099511627776→Fn 269 [RA p s] [XI (lnL p s)] (.tup [RA p (fbA p s 0 18 hk5),.own 0 0 0 (lnL p s).length,I (fbC p s 0 18 hk5)])):=⟨fun p s hl=>by
 have hb:=rbV_bd p s 18
 refine FnC.of_body tabOk Tryz.func269 Tryz.ntmps269 rfl (by decide +kernel) (by simp) fun G=>?_
 by_cases hok:RbOk p s 18
 ·have eL:lnL p s=lensV (rbV p s 18):=if_pos hok
  have e1:fbC p s 0 18 hk5=ifE (CodeOk (lensV (rbV p s 18))) 4:=by rw [fbC,if_pos rfl,if_pos hok]
  have e2:fbA p s 0 18 hk5=if CodeOk (lensV (rbV p s 18)) then rbA p s 18 else s:=by
   rw [fbA,e1]
   by_cases h:CodeOk (lensV (rbV p s 18))
   ·rw [if_pos ⟨rfl,ifE_yes h⟩,if_pos h]
   ·rw [if_neg (by rw [ifE_no h];decide),if_neg h]
  rw [eL,e1,e2]
  refine go (r:=?_);and_intros<;>intros<;>try exact True.intro
  refine WpA.loop (fun k:Nat=>⟨[(1,.ptr 0 0 0),(2,.ptr 1 0 0),(5,.own 2 0 0 k),(6,.ptr 3 0 0),(7,I (rbV p s 18)),(9,I (5-(k:Int)))],[⟨[Z p,I s],0,0,none⟩,⟨[Z [],I 0],0,0,none⟩,XI (lensK (rbV p s 18) k),⟨[Z p,I (rbA p s 18)],0,0,none⟩]⟩) (fun k=>k≤6) (fun k=>6-k) 0 (by omega) (go (r:=?_)) (fun k hk=>?_)
  ·simp [lensK]
  have hkl:=lensK_len (rbV p s 18) k
  have hks:=lensK_succ (rbV p s 18) k
  have hd0:=Int.ediv_nonneg (a:=rbV p s 18) (b:=2 ^ (3*(5-(k:Int))).toNat) hb.1 (Int.pow_nonneg (by decide))
  have hd1:=Int.ediv_le_self (a:=rbV p s 18) (2 ^ (3*(5-(k:Int))).toNat) hb.1
  have hla:lenAt (rbV p s 18) (5-k)=rbV p s 18/2 ^ (3*(5-k))%8:=rfl
  refine go (r:=?_);and_intros<;>intros<;>try exact True.intro
  all_goals first|((have ek:k=6:=by omega);subst ek;exact lensK_6 _)|(rw [hks,and7 _ ⟨hd0,by omega⟩,hla,show (3*(5-(k:Int))).toNat=3*(5-k) by omega];done)|((have ek:k=6:=by omega);subst ek;rw [lensK_6] at *;first|rfl|(simp_all [ifE];done))
 ·have eL:lnL p s=[]:=if_neg hok
  have e1:fbC p s 0 18 hk5=1:=by rw [fbC,if_pos rfl,if_neg hok]
  have e2:fbA p s 0 18 hk5=s:=by rw [fbA,if_neg (by rw [e1];decide)]
  rw [eL,e1,e2]
  refine go (r:=?_);and_intros<;>intros<;>try exact True.intro
  all_goals first|(exact absurd (by assumption) hok)⟩
theorem fb_yes {p:List UInt8} {s n:Int} {k:Int→Int} (h:RbOk p s n) (hv:k (rbV p s n)=0):fbC p s 0 n k=0∧fbA p s 0 n k=rbA p s n∧fbV p s 0 n k=rbV p s n:=by
 have e:fbC p s 0 n k=0:=by rw [fbC,if_pos rfl,if_pos h,hv]
 exact ⟨e,by rw [fbA,if_pos ⟨rfl,e⟩],by rw [fbV,if_pos e]⟩
theorem fb_no1 {p:List UInt8} {s n:Int} {k:Int→Int} (h:¬RbOk p s n):fbC p s 0 n k=1:=by rw [fbC,if_pos rfl,if_neg h]
theorem fb_no2 {p:List UInt8} {s n:Int} {k:Int→Int} (h:RbOk p s n) {c:Int} (hv:k (rbV p s n)=c):fbC p s 0 n k=c:=by rw [fbC,if_pos rfl,if_pos h,hv]
theorem sdV_ok {p:List UInt8} {s:Int} (h:fuC p s 0 hk2=0):sdV p s=8*(fuV p s 0 hk2+1):=by
 have hu:ueC p s=0:=by
  by_cases hu:ueC p s=0
  ·exact hu
  ·rw [fuC,if_pos rfl,if_neg hu] at h;exact h
 have hv:ueV p s≤3:=by
  by_cases hv:ueV p s≤3
  ·exact hv
  ·rw [fuC,if_pos rfl,if_pos hu] at h
   have h:ifE (ueV p s≤3) 3=0:=h
   rw [ifE_no hv] at h;exact absurd h (by decide)
 rw [fuV,if_pos h,sdV,if_neg (by omega)];omega
attribute [local irreducible] rbA rbV ueA ueV ueC fuA fuC fuV fbA fbC fbV sdV lnL zrs numB lft hdS lensV
theorem WpA.hide {P:Program} {n m:Nat} {G:Ctx} {c:Code} {σ:St} {Q:Exit→St→Prop} (h:∀Q',Q'=Q→WpA P n m G c σ Q'):WpA P n m G c σ Q:=h Q rfl
theorem bad_all {x:HdS} (h:x.c≠0):x.W=0∧x.H=0∧x.Q=0∧x.B=false∧x.D=false∧x.L=[]:=
 ⟨if_neg h,if_neg h,if_neg h,by unfold HdS.B;simp [h],by unfold HdS.D;simp [h],if_neg h⟩
instance ReadHeader_s:Con 222 (∀ (p:List UInt8) (s:Int),p.length≤1099511627776→Fn 222 [RA p s] [XI (hdS p s).L] (.tup [RA p (hdS p s).a,HdV (hdS p s),I (hdS p s).c])):=⟨fun p s hl=>by
 have eV:∀y:HdS,HdV y=.agg [I y.W,I y.H,I y.Q,B y.B,B y.D,.own 0 0 0 y.L.length]:=fun _=>rfl
 rw [eV]
 have b5:=rbV_bd p (rbA p (fuA p (fuA p (rbA p s 8) 0 hk2) 0 hk2) 6) 2
 generalize hx:hdS p s=x
 refine FnC.of_body tabOk Tryz.func222 Tryz.ntmps222 rfl (by decide +kernel) (by simp) fun G=>?_
 refine WpA.hide fun Q' hQ'=>?_
 refine go (r:=?_);and_intros<;>intros<;>try exact True.intro
 ·rename_i o1
  have f:=fb_no1 (k:=hk1) o1
  have e:x.a=s∧x.c=1:=by have:=hd_f1 (p:=p) (s:=s) (by rw [f];decide);rw [f,hx] at this;exact this
  have hc0:x.c≠0:=by rw [e.2];first|decide|assumption
  obtain ⟨q1,q2,q3,q4,q5,q6⟩:=bad_all hc0
  subst hQ'
  rw [q1,q2,q3,q4,q5,q6,e.1,e.2]
  refine go (r:=?_);and_intros<;>intros<;>try exact True.intro
  all_goals first|rfl|exact fuA_b (by assumption)
 ·rename_i o1 v1
  have f:=fb_no2 (k:=hk1) o1 (c:=2) (ifE_no v1)
  have e:x.a=s∧x.c=2:=by have:=hd_f1 (p:=p) (s:=s) (by rw [f];decide);rw [f,hx] at this;exact this
  have hc0:x.c≠0:=by rw [e.2];first|decide|assumption
  obtain ⟨q1,q2,q3,q4,q5,q6⟩:=bad_all hc0
  subst hQ'
  rw [q1,q2,q3,q4,q5,q6,e.1,e.2]
  refine go (r:=?_);and_intros<;>intros<;>try exact True.intro
  all_goals first|rfl|exact fuA_b (by assumption)
 ·rename_i o1 v1 c2
  obtain ⟨c1,e1,-⟩:=fb_yes (k:=hk1) o1 (ifE_yes v1)
  have e:x.a=rbA p s 8∧x.c=fuC p (rbA p s 8) 0 hk2:=by have:=hd_f2 c1 e1 c2;rw [hx] at this;exact this
  have hc0:x.c≠0:=by rw [e.2];first|decide|assumption
  obtain ⟨q1,q2,q3,q4,q5,q6⟩:=bad_all hc0
  subst hQ'
  rw [q1,q2,q3,q4,q5,q6,e.1,e.2]
  refine go (r:=?_);and_intros<;>intros<;>try exact True.intro
  all_goals first|rfl|exact fuA_b (by assumption)
 ·rename_i o1 v1 c2 c3
  obtain ⟨c1,e1,-⟩:=fb_yes (k:=hk1) o1 (ifE_yes v1)
  have e:x.a=(fuA p (rbA p s 8) 0 hk2)∧x.c=fuC p (fuA p (rbA p s 8) 0 hk2) 0 hk2:=by have:=hd_f3 c1 e1 c2 rfl c3;rw [hx] at this;exact this
  have hc0:x.c≠0:=by rw [e.2];first|decide|assumption
  obtain ⟨q1,q2,q3,q4,q5,q6⟩:=bad_all hc0
  subst hQ'
  rw [q1,q2,q3,q4,q5,q6,e.1,e.2]
  refine go (r:=?_);and_intros<;>intros<;>try exact True.intro
  all_goals first|rfl|exact fuA_b (by assumption)
 ·rename_i o1 v1 c2 c3 o4
  obtain ⟨c1,e1,-⟩:=fb_yes (k:=hk1) o1 (ifE_yes v1)
  have f:=fb_no1 (k:=hk3) o4
  have e:x.a=(fuA p (fuA p (rbA p s 8) 0 hk2) 0 hk2)∧x.c=1:=by have:=hd_f4 c1 e1 c2 rfl c3 rfl (by rw [f];decide);rw [f,hx] at this;exact this
  have hc0:x.c≠0:=by rw [e.2];first|decide|assumption
  obtain ⟨q1,q2,q3,q4,q5,q6⟩:=bad_all hc0
  subst hQ'
  rw [q1,q2,q3,q4,q5,q6,e.1,e.2]
  refine go (r:=?_);and_intros<;>intros<;>try exact True.intro
  all_goals first|rfl|exact fuA_b (by assumption)
 ·rename_i o1 v1 c2 c3 o4 v4
  obtain ⟨c1,e1,-⟩:=fb_yes (k:=hk1) o1 (ifE_yes v1)
  have f:=fb_no2 (k:=hk3) o4 (c:=3) (ifE_no (by omega))
  have e:x.a=(fuA p (fuA p (rbA p s 8) 0 hk2) 0 hk2)∧x.c=3:=by have:=hd_f4 c1 e1 c2 rfl c3 rfl (by rw [f];decide);rw [f,hx] at this;exact this
  have hc0:x.c≠0:=by rw [e.2];first|decide|assumption
  obtain ⟨q1,q2,q3,q4,q5,q6⟩:=bad_all hc0
  subst hQ'
  rw [q1,q2,q3,q4,q5,q6,e.1,e.2]
  refine go (r:=?_);and_intros<;>intros<;>try exact True.intro
  all_goals first|rfl|exact fuA_b (by assumption)
 ·rename_i o1 v1 c2 c3 o4 v4 o5
  obtain ⟨c1,e1,-⟩:=fb_yes (k:=hk1) o1 (ifE_yes v1)
  obtain ⟨c4,e4,g4⟩:=fb_yes (k:=hk3) o4 (ifE_yes (by omega))
  have f:=fb_no1 (k:=hk4) o5
  have e:x.a=(rbA p (fuA p (fuA p (rbA p s 8) 0 hk2) 0 hk2) 6)∧x.c=1:=by have:=hd_f5 c1 e1 c2 rfl c3 rfl c4 e4 (by rw [f];decide);rw [f,hx] at this;exact this
  have hc0:x.c≠0:=by rw [e.2];first|decide|assumption
  obtain ⟨q1,q2,q3,q4,q5,q6⟩:=bad_all hc0
  subst hQ'
  rw [q1,q2,q3,q4,q5,q6,e.1,e.2]
  refine go (r:=?_);and_intros<;>intros<;>try exact True.intro
  all_goals first|rfl|exact fuA_b (by assumption)
 ·rename_i o1 v1 c2 c3 o4 v4 o5 c6
  obtain ⟨c1,e1,-⟩:=fb_yes (k:=hk1) o1 (ifE_yes v1)
  obtain ⟨c4,e4,g4⟩:=fb_yes (k:=hk3) o4 (ifE_yes (by omega))
  obtain ⟨c5,e5,g5⟩:=fb_yes (k:=hk4) o5 (show hk4 (rbV p (rbA p (fuA p (fuA p (rbA p s 8) 0 hk2) 0 hk2) 6) 2)=0 from rfl)
  have hS:=hd_f6 c1 e1 c2 rfl c3 rfl c4 e4 c5 e5
  rw [g4,g5,hx] at hS
  have e:x.a=fbA p (rbA p (rbA p (fuA p (fuA p (rbA p s 8) 0 hk2) 0 hk2) 6) 2) 0 18 hk5∧x.c=fbC p (rbA p (rbA p (fuA p (fuA p (rbA p s 8) 0 hk2) 0 hk2) 6) 2) 0 18 hk5:=⟨by rw [hS],by rw [hS]⟩
  have hc0:x.c≠0:=by rw [e.2];first|decide|assumption
  obtain ⟨q1,q2,q3,q4,q5,q6⟩:=bad_all hc0
  subst hQ'
  rw [q1,q2,q3,q4,q5,q6,e.1,e.2]
  refine go (r:=?_);and_intros<;>intros<;>try exact True.intro
  all_goals first|rfl|exact fuA_b (by assumption)
 ·rename_i o1 v1 c2 c3 o4 v4 o5 c6
  obtain ⟨c1,e1,-⟩:=fb_yes (k:=hk1) o1 (ifE_yes v1)
  obtain ⟨c4,e4,g4⟩:=fb_yes (k:=hk3) o4 (ifE_yes (by omega))
  obtain ⟨c5,e5,g5⟩:=fb_yes (k:=hk4) o5 (show hk4 (rbV p (rbA p (fuA p (fuA p (rbA p s 8) 0 hk2) 0 hk2) 6) 2)=0 from rfl)
  have hS:=hd_f6 c1 e1 c2 rfl c3 rfl c4 e4 c5 e5
  rw [g4,g5,hx] at hS
  have s2:=sdV_ok c2
  have s3:=sdV_ok c3
  have o6:RbOk p (rbA p (rbA p (fuA p (fuA p (rbA p s 8) 0 hk2) 0 hk2) 6) 2) 18:=by
   by_cases o6:RbOk p (rbA p (rbA p (fuA p (fuA p (rbA p s 8) 0 hk2) 0 hk2) 6) 2) 18
   ·exact o6
   ·rw [fb_no1 o6] at c6;exact absurd c6 (by decide)
  have g6:fbV p (rbA p (rbA p (fuA p (fuA p (rbA p s 8) 0 hk2) 0 hk2) 6) 2) 0 18 hk5=rbV p (rbA p (rbA p (fuA p (fuA p (rbA p s 8) 0 hk2) 0 hk2) 6) 2) 18:=by rw [fbV,if_pos c6]
  have eL:lnL p (rbA p (rbA p (fuA p (fuA p (rbA p s 8) 0 hk2) 0 hk2) 6) 2)=lensV (rbV p (rbA p (rbA p (fuA p (fuA p (rbA p s 8) 0 hk2) 0 hk2) 6) 2) 18):=by rw [lnL,if_pos o6]
  rw [g6] at hS
  have h0:x.c=0:=by rw [hS];exact c6
  have q1:x.W=sdV p (rbA p s 8):=by rw [s2,HdS.W,if_pos h0,hS]
  have q2:x.H=sdV p (fuA p (rbA p s 8) 0 hk2):=by rw [s3,HdS.H,if_pos h0,hS]
  have q3:x.Q=rbV p (fuA p (fuA p (rbA p s 8) 0 hk2) 0 hk2) 6:=by rw [HdS.Q,if_pos h0,hS]
  have q6:x.L=lnL p (rbA p (rbA p (fuA p (fuA p (rbA p s 8) 0 hk2) 0 hk2) 6) 2):=by rw [eL,HdS.L,if_pos h0,hS]
  have q4:x.B=decide (rbV p (rbA p (fuA p (fuA p (rbA p s 8) 0 hk2) 0 hk2) 6) 2>1):=by unfold HdS.B;rw [hS];simp [c6];omega
  have q5:x.D=decide (rbV p (rbA p (fuA p (fuA p (rbA p s 8) 0 hk2) 0 hk2) 6) 2%2=1):=by unfold HdS.D;rw [hS];simp [c6]
  have ea:x.a=fbA p (rbA p (rbA p (fuA p (fuA p (rbA p s 8) 0 hk2) 0 hk2) 6) 2) 0 18 hk5:=by rw [hS]
  subst hQ'
  rw [q1,q2,q3,q4,q5,q6,ea,h0]
  refine go (r:=?_);and_intros<;>intros<;>try exact True.intro
  all_goals first|rfl⟩
end Go.Proofs.YtndflfipaddfoaaGreat


namespace Go.Proofs.YtndflfipaddfoaaGreat
open Go Go.Abs
attribute [local irreducible] WpA WpL Rnd Blk Abs.Seq Abs.Fin Abs.FinG FnC FnG Only
theorem hdSL_len (x:HdS):x.L.length≤6:=by
 unfold HdS.L;split
 ·exact Nat.le_refl 6
 ·exact Nat.zero_le _
abbrev StV (x:PrS):AV:=.agg [I x.W,I x.H,I x.Q,B x.B,B x.D,.own 0 0 0 x.L.length,.own 1 0 0 x.ms.length]
def PrN (a c:Int):PrS:=⟨0,0,0,false,false,[],[],a,c⟩
theorem prS_1 {p:List UInt8} (h:(hdS p 0).c≠0):prS p=PrN (hdS p 0).a (hdS p 0).c:=by unfold prS;simp only;rw [if_neg h];rfl
theorem prS_2 {p:List UInt8} (h:(hdS p 0).c=0) (h2:(stRun p (hdS p 0).a (hdS p 0).L (cntM (hdS p 0).W (hdS p 0).H).toNat).c≠0):prS p=PrN (stRun p (hdS p 0).a (hdS p 0).L (cntM (hdS p 0).W (hdS p 0).H).toNat).a (stRun p (hdS p 0).a (hdS p 0).L (cntM (hdS p 0).W (hdS p 0).H).toNat).c:=by
 unfold prS;simp only;rw [if_pos h,if_neg h2];rfl
theorem prS_3 {p:List UInt8} (h:(hdS p 0).c=0) (h2:(stRun p (hdS p 0).a (hdS p 0).L (cntM (hdS p 0).W (hdS p 0).H).toNat).c=0) (h3:endC p (stRun p (hdS p 0).a (hdS p 0).L (cntM (hdS p 0).W (hdS p 0).H).toNat).a≠0):prS p=PrN (stRun p (hdS p 0).a (hdS p 0).L (cntM (hdS p 0).W (hdS p 0).H).toNat).a (endC p (stRun p (hdS p 0).a (hdS p 0).L (cntM (hdS p 0).W (hdS p 0).H).toNat).a):=by
 unfold prS;simp only;rw [if_pos h,if_pos h2,if_neg h3];rfl
theorem prS_4 {p:List UInt8} (h:(hdS p 0).c=0) (h2:(stRun p (hdS p 0).a (hdS p 0).L (cntM (hdS p 0).W (hdS p 0).H).toNat).c=0) (h3:endC p (stRun p (hdS p 0).a (hdS p 0).L (cntM (hdS p 0).W (hdS p 0).H).toNat).a=0):prS p=⟨(hdS p 0).W,(hdS p 0).H,(hdS p 0).Q,(hdS p 0).B,(hdS p 0).D,(hdS p 0).L,(stRun p (hdS p 0).a (hdS p 0).L (cntM (hdS p 0).W (hdS p 0).H).toNat).ms,(stRun p (hdS p 0).a (hdS p 0).L (cntM (hdS p 0).W (hdS p 0).H).toNat).a,0⟩:=by
 unfold prS;simp only;rw [if_pos h,if_pos h2,if_pos h3]
theorem stRun_next {p:List UInt8} {s:Int} {lens:List Int} {k:Nat} (h:(stRun p s lens k).c=0) (hb:(mbS p (stRun p s lens k).a lens).1.c=0):stRun p s lens (k+1)=⟨(mbS p (stRun p s lens k).a lens).1.a,0,(stRun p s lens k).ms++[((mbS p (stRun p s lens k).a lens).2,(mbS p (stRun p s lens k).a lens).1.bs)]⟩:=by
 rw [stRun];simp only;rw [if_pos h,if_pos hb]
theorem stRun_bad {p:List UInt8} {s:Int} {lens:List Int} {k:Nat} (h:(stRun p s lens k).c=0) (hb:(mbS p (stRun p s lens k).a lens).1.c≠0):∀j,k<j→stRun p s lens j=⟨(mbS p (stRun p s lens k).a lens).1.a,(mbS p (stRun p s lens k).a lens).1.c,[]⟩:=by
 intro j hj
 have e:stRun p s lens (k+1)=⟨(mbS p (stRun p s lens k).a lens).1.a,(mbS p (stRun p s lens k).a lens).1.c,[]⟩:=by
  rw [stRun];simp only;rw [if_pos h,if_neg hb]
 rw [stRun_stop (k:=k+1) (by rw [e];exact hb) j hj,e]
section
attribute [local irreducible] hdS stRun mbS endC cntM
instance Parse_c:Con 35 (∀ (p:List UInt8),p.length≤1099511627776→Fn 35 [Z p] [XI (prS p).L,MbO (prS p).ms] (.tup [StV (prS p),I (prS p).a,I (prS p).c])):=⟨fun p hl=>by
 have hr0:RdOk p 0:=⟨by omega,by omega⟩
 have hok:=hdS_ok hr0
 refine FnC.of_body tabOk Tryz.func35 Tryz.ntmps35 rfl (by decide +kernel) (by simp) fun G=>?_
 by_cases hc:(hdS p 0).c=0
 ·have hs:=hdS_sides hc
  have hL:=hdSL_len (hdS p 0)
  have e2:=prS_2 hc
  have e3:=prS_3 hc
  have e4:=prS_4 hc
  have hbd:=cntM_bd hs
  refine go (r:=?_);and_intros<;>intros<;>try exact True.intro
  all_goals first|contradiction|skip
  generalize hx:hdS p 0=x at hc hs hL e2 e3 e4 hbd hok ⊢
  have hz:stRun p x.a x.L 0=⟨x.a,0,[]⟩:=by rw [stRun]
  have hln:=fun k h=>stRun_len p x.a x.L k h
  have hok:=fun k=>stRun_ok (lens:=x.L) hok k
  have hnx:=fun k h hb=>stRun_next (p:=p) (s:=x.a) (lens:=x.L) (k:=k) h hb
  have hbd2:=fun k h hb j hj=>stRun_bad (p:=p) (s:=x.a) (lens:=x.L) (k:=k) h hb j hj
  generalize hN:cntM x.W x.H=N at hbd e2 e3 e4 ⊢
  generalize stRun p x.a x.L=X at hz hln hnx hbd2 hok e2 e3 e4 ⊢
  refine WpA.loop (fun k:Nat=>⟨[(2,.ptr 0 0 0),(5,.ptr 2 0 0),(6,.ptr 3 0 0),(8,.ptr 4 0 0),(29,I N),(30,I k)],[⟨[I 0,I 0,I 0,B false,B false,.nilS,.nilS],0,0,none⟩,XI x.L,⟨[Z p,I (X k).a],0,0,none⟩,⟨[I x.W,I x.H,I x.Q,B x.B,B x.D,.own 1 0 0 x.L.length],0,0,none⟩,⟨[I x.W,I x.H,I x.Q,B x.B,B x.D,.own 1 0 0 x.L.length,.own 5 0 0 k],0,0,none⟩,MbO (X k).ms]⟩) (fun k=>(k:Int)≤N∧(X k).c=0) (fun k=>N.toNat-k) 0 (by rw [hz];exact ⟨by omega,rfl⟩) ?_ (fun k hk=>?_)
  ·rw [hz];exact Weak.nil1 (by first|(show 0≤_;exact Nat.zero_le _)|(repeat' (first|exact RzT.nil|refine RzT.cons ?_ ?_|exact Rz.nil|refine Rz.keep rfl rfl ?_|refine Rz.own rfl rfl rfl rfl rfl (by first|rfl|omega|(simp;done)) ?_|refine Rz.ptr rfl rfl rfl rfl ?_|refine Rz.nilO rfl rfl rfl (by first|rfl|omega|(simp;done)) ?_|refine Rz.agg ?_ ?_|exact RzO.last rfl|(refine RzO.cons ?_ (.inr rfl) ?_)|exact Rz.same rfl (still_ints _)|exact Rz.same rfl (still_rows (fun _=>rfl) _)))) (by first|(show 0≤_;exact Nat.zero_le _)|(repeat' (first|exact RzT.nil|refine RzT.cons ?_ ?_|exact Rz.nil|refine Rz.keep rfl rfl ?_|refine Rz.own rfl rfl rfl rfl rfl (by first|rfl|omega|(simp;done)) ?_|refine Rz.ptr rfl rfl rfl rfl ?_|refine Rz.nilO rfl rfl rfl (by first|rfl|omega|(simp;done)) ?_|refine Rz.agg ?_ ?_|exact RzO.last rfl|(refine RzO.cons ?_ (.inr rfl) ?_)|exact Rz.same rfl (still_ints _)|exact Rz.same rfl (still_rows (fun _=>rfl) _)))) (Nat.zero_le _)
  have hln:=hln k hk.2
  have hnx:=hnx k hk.2
  have hbd2:=hbd2 k hk.2
  have hok:=hok k
  have hfin:¬(k:Int)<N→X N.toNat=X k:=fun h=>by rw [show N.toNat=k by omega]
  generalize hy:X k=y at hk hln hnx hbd2 hfin hok ⊢
  have hln:y.ms.length=k:=hln
  by_cases hlt:(k:Int)<N
  ·by_cases hb:(mbS p y.a x.L).1.c=0
   ·have hnx:=hnx hb
    clear hbd2 e2 e3 e4
    refine go (r:=?_);and_intros<;>intros<;>try exact True.intro
    all_goals first|contradiction|(rw [hnx];done)
   ·have hbd2:=hbd2 hb
    have e:=hbd2 N.toNat (by omega)
    rw [e2 (by rw [e];exact hb),e]
    clear hnx hbd2 e2 e3 e4
    refine go (r:=?_);and_intros<;>intros<;>try exact True.intro
    all_goals first|contradiction
  ·have hfin:=hfin hlt
   have hc2:(X N.toNat).c=0:=by rw [hfin];exact hk.2
   by_cases he:endC p y.a=0
   ·rw [e4 hc2 (by rw [hfin];exact he),hfin]
    clear e2 e3 e4 hnx hbd2
    refine go (r:=?_);and_intros<;>intros<;>try exact True.intro
    all_goals first|contradiction|exact hok
   ·rw [e3 hc2 (by rw [hfin];exact he),hfin]
    clear e2 e3 e4 hnx hbd2
    refine go (r:=?_);and_intros<;>intros<;>try exact True.intro
    all_goals first|contradiction|exact hok
 ·rw [prS_1 hc]
  refine goR (r:=?_);and_intros<;>intros<;>try exact True.intro
  refine WpA.weak (σ':=⟨[(2,.ptr 0 0 0),(5,.ptr 2 0 0),(7,I (hdS p 0).c)],[⟨[I 0,I 0,I 0,B false,B false,.nilS,.nilS],0,0,none⟩,XI (hdS p 0).L,⟨[Z p,I (hdS p 0).a],0,0,none⟩]⟩) (Weak.mk (by repeat (first|exact ReT.nil|refine ReT.cons (.keep rfl rfl .nil) ?_|refine ReT.cons (.own rfl rfl rfl rfl rfl rfl .nil) ?_|refine ReT.cons (.ptr rfl rfl rfl rfl .nil) ?_|refine ReT.cons (.keep (congrArg (fun z=>AV.sc (Value.int .i64 z)) (by first|omega|(skip))) rfl .nil) ?_|refine ReT.cons (.keep (congrArg (fun z:List UInt8=>AV.sc (Value.string ⟨z.toArray⟩)) (by skip)) rfl .nil) ?_|refine ReT.cons (.own rfl rfl rfl rfl rfl (by first|omega|(simp;done)|(simp;omega)) .nil) ?_)) (by repeat (first|exact ReO.nil|refine ReO.cons (Re.same rfl (still_ints _)) (by simp) ?_|refine ReO.cons (Re.same rfl rfl) (by simp) ?_)) (Nat.zero_le _)) ?_
  refine go (r:=?_);and_intros<;>intros<;>try exact True.intro
  all_goals first|contradiction⟩
instance Parse_s:Con 138 (∀ (p:List UInt8),p.length≤1099511627776→Fn 138 [Z p] [XI (prS p).L,MbO (prS p).ms] (.tup [StV (prS p),I (prS p).a,I (prS p).c])):=⟨fun p hl=>by
 have hr0:RdOk p 0:=⟨by omega,by omega⟩
 have hok:=hdS_ok hr0
 refine FnC.of_body tabOk Tryz.func138 Tryz.ntmps138 rfl (by decide +kernel) (by simp) fun G=>?_
 by_cases hc:(hdS p 0).c=0
 ·have hs:=hdS_sides hc
  have hL:=hdSL_len (hdS p 0)
  have e2:=prS_2 hc
  have e3:=prS_3 hc
  have e4:=prS_4 hc
  have hbd:=cntM_bd hs
  refine go (r:=?_);and_intros<;>intros<;>try exact True.intro
  all_goals first|contradiction|skip
  generalize hx:hdS p 0=x at hc hs hL e2 e3 e4 hbd hok ⊢
  have hz:stRun p x.a x.L 0=⟨x.a,0,[]⟩:=by rw [stRun]
  have hln:=fun k h=>stRun_len p x.a x.L k h
  have hok:=fun k=>stRun_ok (lens:=x.L) hok k
  have hnx:=fun k h hb=>stRun_next (p:=p) (s:=x.a) (lens:=x.L) (k:=k) h hb
  have hbd2:=fun k h hb j hj=>stRun_bad (p:=p) (s:=x.a) (lens:=x.L) (k:=k) h hb j hj
  generalize hN:cntM x.W x.H=N at hbd e2 e3 e4 ⊢
  generalize stRun p x.a x.L=X at hz hln hnx hbd2 hok e2 e3 e4 ⊢
  refine WpA.loop (fun k:Nat=>⟨[(2,.ptr 0 0 0),(5,.ptr 2 0 0),(6,.ptr 3 0 0),(8,.ptr 4 0 0),(9,I k)],[⟨[I 0,I 0,I 0,B false,B false,.nilS,.nilS],0,0,none⟩,XI x.L,⟨[Z p,I (X k).a],0,0,none⟩,⟨[I x.W,I x.H,I x.Q,B x.B,B x.D,.own 1 0 0 x.L.length],0,0,none⟩,⟨[I x.W,I x.H,I x.Q,B x.B,B x.D,.own 1 0 0 x.L.length,.own 5 0 0 k],0,0,none⟩,MbO (X k).ms]⟩) (fun k=>(k:Int)≤N∧(X k).c=0) (fun k=>N.toNat-k) 0 (by rw [hz];exact ⟨by omega,rfl⟩) ?_ (fun k hk=>?_)
  ·rw [hz];exact Weak.nil1 (by first|(show 0≤_;exact Nat.zero_le _)|(repeat' (first|exact RzT.nil|refine RzT.cons ?_ ?_|exact Rz.nil|refine Rz.keep rfl rfl ?_|refine Rz.own rfl rfl rfl rfl rfl (by first|rfl|omega|(simp;done)) ?_|refine Rz.ptr rfl rfl rfl rfl ?_|refine Rz.nilO rfl rfl rfl (by first|rfl|omega|(simp;done)) ?_|refine Rz.agg ?_ ?_|exact RzO.last rfl|(refine RzO.cons ?_ (.inr rfl) ?_)|exact Rz.same rfl (still_ints _)|exact Rz.same rfl (still_rows (fun _=>rfl) _)))) (by first|(show 0≤_;exact Nat.zero_le _)|(repeat' (first|exact RzT.nil|refine RzT.cons ?_ ?_|exact Rz.nil|refine Rz.keep rfl rfl ?_|refine Rz.own rfl rfl rfl rfl rfl (by first|rfl|omega|(simp;done)) ?_|refine Rz.ptr rfl rfl rfl rfl ?_|refine Rz.nilO rfl rfl rfl (by first|rfl|omega|(simp;done)) ?_|refine Rz.agg ?_ ?_|exact RzO.last rfl|(refine RzO.cons ?_ (.inr rfl) ?_)|exact Rz.same rfl (still_ints _)|exact Rz.same rfl (still_rows (fun _=>rfl) _)))) (Nat.zero_le _)
  have hln:=hln k hk.2
  have hnx:=hnx k hk.2
  have hbd2:=hbd2 k hk.2
  have hok:=hok k
  have hfin:¬(k:Int)<N→X N.toNat=X k:=fun h=>by rw [show N.toNat=k by omega]
  generalize hy:X k=y at hk hln hnx hbd2 hfin hok ⊢
  have hln:y.ms.length=k:=hln
  by_cases hlt:(k:Int)<N
  ·by_cases hb:(mbS p y.a x.L).1.c=0
   ·have hnx:=hnx hb
    clear hbd2 e2 e3 e4
    refine go (r:=?_);and_intros<;>intros<;>try exact True.intro
    all_goals first|contradiction|(rw [hnx];done)
   ·have hbd2:=hbd2 hb
    have e:=hbd2 N.toNat (by omega)
    rw [e2 (by rw [e];exact hb),e]
    clear hnx hbd2 e2 e3 e4
    refine go (r:=?_);and_intros<;>intros<;>try exact True.intro
    all_goals first|contradiction
  ·have hfin:=hfin hlt
   have hc2:(X N.toNat).c=0:=by rw [hfin];exact hk.2
   by_cases he:endC p y.a=0
   ·rw [e4 hc2 (by rw [hfin];exact he),hfin]
    clear e2 e3 e4 hnx hbd2
    refine go (r:=?_);and_intros<;>intros<;>try exact True.intro
    all_goals first|contradiction|exact hok
   ·rw [e3 hc2 (by rw [hfin];exact he),hfin]
    clear e2 e3 e4 hnx hbd2
    refine go (r:=?_);and_intros<;>intros<;>try exact True.intro
    all_goals first|contradiction|exact hok
 ·rw [prS_1 hc]
  refine goR (r:=?_);and_intros<;>intros<;>try exact True.intro
  refine WpA.weak (σ':=⟨[(2,.ptr 0 0 0),(5,.ptr 2 0 0),(7,I (hdS p 0).c)],[⟨[I 0,I 0,I 0,B false,B false,.nilS,.nilS],0,0,none⟩,XI (hdS p 0).L,⟨[Z p,I (hdS p 0).a],0,0,none⟩]⟩) (Weak.mk (by repeat (first|exact ReT.nil|refine ReT.cons (.keep rfl rfl .nil) ?_|refine ReT.cons (.own rfl rfl rfl rfl rfl rfl .nil) ?_|refine ReT.cons (.ptr rfl rfl rfl rfl .nil) ?_|refine ReT.cons (.keep (congrArg (fun z=>AV.sc (Value.int .i64 z)) (by first|omega|(skip))) rfl .nil) ?_|refine ReT.cons (.keep (congrArg (fun z:List UInt8=>AV.sc (Value.string ⟨z.toArray⟩)) (by skip)) rfl .nil) ?_|refine ReT.cons (.own rfl rfl rfl rfl rfl (by first|omega|(simp;done)|(simp;omega)) .nil) ?_)) (by repeat (first|exact ReO.nil|refine ReO.cons (Re.same rfl (still_ints _)) (by simp) ?_|refine ReO.cons (Re.same rfl rfl) (by simp) ?_)) (Nat.zero_le _)) ?_
  refine go (r:=?_);and_intros<;>intros<;>try exact True.intro
  all_goals first|contradiction⟩
end
end Go.Proofs.YtndflfipaddfoaaGreat


namespace Go.Proofs.YtndflfipaddfoaaGreat
open Go Go.Abs
attribute [local irreducible] WpA WpL Rnd Blk Abs.Seq Abs.Fin Abs.FinG FnC FnG Only
attribute [local simp] Abs.setL
def endB (k:Int) (l:List Blok):Int:=k+bw l
def markB:Int→List Blok→List Blok
 |_,[]=>[]
 |k,b::l=>(k,marksI (k+1) b.2.length)::markB (k+1+b.2.length) l
theorem bw_nil:bw []=0:=rfl
theorem bw_cons (b:Blok) (l:List Blok):bw (b::l)=bw l+1+b.2.length:=by unfold bw;rw [List.map_cons,List.sum_cons,List.length_cons];unfold bn;omega
@[simp] theorem markB_len:∀(l:List Blok) (k:Int),(markB k l).length=l.length
 |[],k=>rfl
 |b::l,k=>by rw [markB,List.length_cons,List.length_cons,markB_len l]
theorem getD_mid {α:Type} [Inhabited α] (A:List α) (l:List α) (i:Nat) (hA:A.length=i) (h:i<l.length):(A++l.drop i).getD i default=l.getD i default:=by
 simp [List.getElem?_append_right,hA,h]
theorem set_mid {α:Type} (A:List α) (l:List α) (i:Nat) (hA:A.length=i) (h:i<l.length) (v:α):(A++l.drop i).set i v=(A++[v])++l.drop (i+1):=by
 rw [List.set_append_right _ _ (by omega),hA,Nat.sub_self,List.drop_eq_getElem_cons h];simp;rw [List.drop_eq_getElem_cons h];rfl
def markM:Int→List Mbk→List Mbk
 |_,[]=>[]
 |k,m::l=>(decide (k%3=0),markB (k+1) m.2)::markM (k+1+bw m.2) l
theorem mw_nil:mw []=0:=rfl
theorem mw_cons (b:Mbk) (l:List Mbk):mw (b::l)=mw l+1+bw b.2:=by unfold mw;rw [List.map_cons,List.sum_cons,List.length_cons];unfold mn;omega
@[simp] theorem markM_len:∀(l:List Mbk) (k:Int),(markM k l).length=l.length
 |[],k=>rfl
 |b::l,k=>by rw [markM,List.length_cons,List.length_cons,markM_len l]
end Go.Proofs.YtndflfipaddfoaaGreat


namespace Go.Proofs.YtndflfipaddfoaaGreat
open Go Go.Abs
attribute [local irreducible] WpA WpL Rnd Blk Abs.Seq Abs.Fin Abs.FinG FnC FnG Only
theorem bw_small {l:List Blok} (h:∀b∈l,b.2.length≤64):bw l≤65*l.length:=by
 induction l with
 |nil=>simp [bw_nil]
 |cons b l ih=>
  have h1:=h b (by simp)
  have h2:=ih fun x hx=>h x (by simp [hx])
  rw [bw_cons,List.length_cons];omega
theorem mw_small {l:List Mbk} (h:∀m∈l,m.2.length≤4∧∀b∈m.2,b.2.length≤64):mw l≤261*l.length:=by
 induction l with
 |nil=>simp [mw_nil]
 |cons m l ih=>
  have h1:=h m (by simp)
  have h2:=ih fun x hx=>h x (by simp [hx])
  have h3:=bw_small h1.2
  rw [mw_cons,List.length_cons];omega
theorem prS_sz (p:List UInt8):(prS p).L.length≤6∧(prS p).ms.length≤16∧mw (prS p).ms≤4176∧SmM 1099511627776 (prS p).ms:=by
 have h:(prS p).L.length≤6∧(prS p).ms.length≤16∧mw (prS p).ms≤4176:=by
  by_cases h1:(hdS p 0).c=0
  ·by_cases h2:(stRun p (hdS p 0).a (hdS p 0).L (cntM (hdS p 0).W (hdS p 0).H).toNat).c=0
   ·by_cases h3:endC p (stRun p (hdS p 0).a (hdS p 0).L (cntM (hdS p 0).W (hdS p 0).H).toNat).a=0
    ·rw [prS_4 h1 h2 h3]
     have hb:=cntM_bd (hdS_sides h1)
     have hs:=stRun_sm (p:=p) (s:=(hdS p 0).a) (lens:=(hdS p 0).L) (cntM (hdS p 0).W (hdS p 0).H).toNat
     have hm:=mw_small hs.2
     have hL:=hdSL_len (hdS p 0)
     refine ⟨hL,?_,?_⟩
     ·show (stRun _ _ _ _).ms.length≤16
      omega
     ·show mw (stRun _ _ _ _).ms≤4176
      omega
    ·rw [prS_3 h1 h2 h3];exact ⟨Nat.zero_le _,Nat.zero_le _,Nat.zero_le _⟩
   ·rw [prS_2 h1 h2];exact ⟨Nat.zero_le _,Nat.zero_le _,Nat.zero_le _⟩
  ·rw [prS_1 h1];exact ⟨Nat.zero_le _,Nat.zero_le _,Nat.zero_le _⟩
 exact ⟨h.1,h.2.1,h.2.2,smM_of (by omega)⟩
section
attribute [local irreducible] prS
end
end Go.Proofs.YtndflfipaddfoaaGreat


namespace Go.Proofs.YtndflfipaddfoaaGreat
open Go Go.Abs
attribute [local irreducible] WpA WpL Rnd Blk Abs.Seq Abs.Fin Abs.FinG FnC FnG Only
attribute [local irreducible] prS refL
structure Frm where
 W:Int
 H:Int
 P:List Int
def bldF (w h q:Int) (b d:Bool) (L:List Int) (M:List Mbk):Frm:=if StOk w h q L M then ⟨w,h,refL w h q b d M⟩ else ⟨0,0,[]⟩
abbrev FrF (f:Frm):AV:=FrA f.W f.H f.P
def decF (p:List UInt8):Frm:=if (prS p).c=0 then bldF (prS p).W (prS p).H (prS p).Q (prS p).B (prS p).D (prS p).L (prS p).ms else ⟨0,0,[]⟩
section
attribute [-instance] Parse_c
attribute [local irreducible] bldF
theorem RefDecode_1 (p:List UInt8) (hl:p.length≤1048576) (h0:(prS p).c≠0):Fn 29 [Z p] [] (.tup [.agg [I 0,I 0,.nilS],I (prS p).c]):=by
 have hz:=prS_sz p
 have hlen:(prS p).ms.length*2=(rows Abs.mbF (prS p).ms).length:=(rows_len (f:=Abs.mbF) (k:=2) (fun _=>rfl) (prS p).ms).symm
 refine FnC.of_body tabOk Tryz.func29 Tryz.ntmps29 rfl (by decide +kernel) (by simp) fun G=>?_
 refine goR (r:=?_);and_intros<;>intros<;>try exact True.intro
 refine K.call ?_
 apply WpL.callI (Parse_c.ok p (by omega))
 ·exact snapA
 ·exact locA
 ·exact outA
 ·exact FrzR.tup (.agg (.keep rfl rfl (.keep rfl rfl (.keep rfl rfl (.keep rfl rfl (.keep rfl rfl (.own rfl rfl rfl (by simp) rfl (Snap.same rfl (still_ints _) (nofre_ints _)) (.own rfl rfl rfl hlen rfl (Snap.rows snap_mb _) .nil))))))) (.keep rfl rfl (.keep rfl rfl .nil)))
 ·decide
 refine goR (r:=?_);and_intros<;>intros<;>try exact True.intro
 all_goals first|contradiction|omega
end
end Go.Proofs.YtndflfipaddfoaaGreat
