/- Proved in this text: lemmas and contracts of functions that the claim uses (parts: RdW, Back, Back2, RdHs, RdP, RdK, Cnv, MatL, Mat, Mat2, Mat3, Mat4, Scan, Quant, Scn). No condition. -/
import Derived.Test.YtndflfipaddfoaaGreatTpM12
import Derived.Test.YtndflfipaddfoaaGreatTpM11
import Derived.Test.YtndflfipaddfoaaGreatTpM10
import Derived.Test.YtndflfipaddfoaaGreatTpM6
import Derived.Test.YtndflfipaddfoaaGreatTpM7
set_option linter.unusedVariables false
set_option linter.unusedSimpArgs false
set_option maxRecDepth 100000
set_option maxHeartbeats 16000000


namespace Go.Proofs.YtndflfipaddfoaaGreat
open Go Go.Abs
attribute [local irreducible] WpA WpL Rnd Blk Abs.Seq Abs.Fin Abs.FinG FnC FnG Only
def pvC (p:List UInt8) (s room:Int):Int:=fuC p (fuA p s 0 (kR room)) (fuC p s 0 (kR room)) kL
def pvA (p:List UInt8) (s room:Int):Int:=fuA p (fuA p s 0 (kR room)) (fuC p s 0 (kR room)) kL
def pvR (p:List UInt8) (s room:Int):Int:=if pvC p s room=0 then fuV p s 0 (kR room) else 0
def pvL (p:List UInt8) (s room:Int):Int:=if pvC p s room=0 then lvOf (fuV p (fuA p s 0 (kR room)) (fuC p s 0 (kR room)) kL) else 0
theorem fu_bad {p:List UInt8} {s:Int} {k:Int→Int} (h:ueC p s≠0):fuC p s 0 k=ueC p s∧fuA p s 0 k=s:=by
 have e:fuC p s 0 k=ueC p s:=by rw [fuC,if_pos rfl,if_neg h]
 exact ⟨e,by rw [fuA,if_neg (by rw [e];exact h)]⟩
theorem fu_chk {p:List UInt8} {s c:Int} {k:Int→Int} (h:ueC p s=0) (hk:k (ueV p s)=c) (hc:c≠0):fuC p s 0 k=c∧fuA p s 0 k=s:=by
 have e:fuC p s 0 k=c:=by rw [fuC,if_pos rfl,if_pos h,hk]
 exact ⟨e,by rw [fuA,if_neg (by rw [e];exact hc)]⟩
theorem fu_yes {p:List UInt8} {s:Int} {k:Int→Int} (h:ueC p s=0) (hk:k (ueV p s)=0):fuC p s 0 k=0∧fuA p s 0 k=ueA p s∧fuV p s 0 k=ueV p s:=by
 have e:fuC p s 0 k=0:=by rw [fuC,if_pos rfl,if_pos h,hk]
 exact ⟨e,by rw [fuA,if_pos e],by rw [fuV,if_pos e]⟩
theorem pv_5 {p:List UInt8} {s room:Int} (h:ueC p s=0) (h2:ueV p s<room) (h3:ueC p (ueA p s)=0) (h4:-16383≤lvOf (ueV p (ueA p s))∧lvOf (ueV p (ueA p s))≤16383):pvA p s room=ueA p (ueA p s)∧pvC p s room=0∧pvR p s room=ueV p s∧pvL p s room=lvOf (ueV p (ueA p s)):=by
 have e:=fu_yes (k:=kR room) h (ifE_yes h2)
 have f:=fu_yes (k:=kL) h3 (ifE_yes h4)
 have e2:pvC p s room=0:=by rw [pvC,e.1,e.2.1,f.1]
 exact ⟨by rw [pvA,e.1,e.2.1,f.2.1],e2,by rw [pvR,if_pos e2,e.2.2],by rw [pvL,if_pos e2,e.1,e.2.1,f.2.2]⟩
theorem lvStep_pv0 {p:List UInt8} {nn:Int} {x:LvS} (hc:x.c=0) (h:pvC p x.a (nn-x.at_)=0):lvStep p nn x=⟨pvA p x.a (nn-x.at_),0,x.at_+pvR p x.a (nn-x.at_)+1,x.out.set (x.at_+pvR p x.a (nn-x.at_)).toNat (pvL p x.a (nn-x.at_))⟩:=by
 have h':=h
 rw [pvC] at h'
 have e3:pvR p x.a (nn-x.at_)=fuV p x.a 0 (kR (nn-x.at_)):=by rw [pvR,if_pos h]
 have e4:pvL p x.a (nn-x.at_)=lvOf (fuV p (fuA p x.a 0 (kR (nn-x.at_))) (fuC p x.a 0 (kR (nn-x.at_))) kL):=by rw [pvL,if_pos h]
 rw [lvStep_yes hc,if_pos h',e3,e4,h'];rfl
theorem lvStep_pv1 {p:List UInt8} {nn:Int} {x:LvS} (hc:x.c=0) (h:pvC p x.a (nn-x.at_)≠0):(lvStep p nn x).a=pvA p x.a (nn-x.at_)∧(lvStep p nn x).c=pvC p x.a (nn-x.at_)∧(lvStep p nn x).out=x.out:=by
 have h':=h
 rw [pvC] at h'
 rw [lvStep_yes hc,if_neg h'];exact ⟨rfl,rfl,rfl⟩
section
attribute [local irreducible] ueA ueV ueC pvC pvA pvR pvL lvOf
end
theorem lv_1 {p:List UInt8} {s n:Int} (h:¬RbOk p s 1):lvS p s n=⟨s,1,0,List.replicate (n*n).toNat 0⟩:=by
 have e1:fbC p s 0 1 k0C=1:=by rw [fbC,if_pos rfl,if_neg h]
 have e2:fbA p s 0 1 k0C=s:=by rw [fbA,if_neg (by rw [e1];decide)]
 rw [lvS_no (by rw [fbV,if_neg (by rw [e1];decide)]),e1,e2]
theorem k0_ok {p:List UInt8} {s:Int} (h:RbOk p s 1):fbC p s 0 1 k0C=0∧fbA p s 0 1 k0C=rbA p s 1∧fbV p s 0 1 k0C=rbV p s 1:=by
 have e1:fbC p s 0 1 k0C=0:=by rw [fbC,if_pos rfl,if_pos h]
 exact ⟨e1,by rw [fbA,if_pos ⟨rfl,e1⟩],by rw [fbV,if_pos e1]⟩
theorem lv_2 {p:List UInt8} {s n:Int} (h:RbOk p s 1) (hv:rbV p s 1=0):lvS p s n=⟨rbA p s 1,0,0,List.replicate (n*n).toNat 0⟩:=by
 obtain ⟨e1,e2,e3⟩:=k0_ok h
 rw [lvS_no (by rw [e3];exact hv),e1,e2]
theorem lvRun_c {p:List UInt8} {nn:Int} {x:LvS} (h:x.c≠0) (j:Nat):lvRun p nn x j=x:=lvRun_stop (k:=0) h j (Nat.zero_le _)
theorem lv_3 {p:List UInt8} {s n:Int} (h:RbOk p s 1) (hv:rbV p s 1≠0) (hu:ueC p (rbA p s 1)≠0):lvS p s n=⟨rbA p s 1,ueC p (rbA p s 1),0,List.replicate (n*n).toNat 0⟩:=by
 obtain ⟨e1,e2,e3⟩:=k0_ok h
 have f:=fu_bad (k:=kR (n*n)) hu
 rw [lvS_yes (by rw [e3];exact hv),e1,e2,f.1,f.2,lvRun_c hu]
theorem lv_4 {p:List UInt8} {s n:Int} (h:RbOk p s 1) (hv:rbV p s 1≠0) (hu:ueC p (rbA p s 1)=0) (h2:¬ueV p (rbA p s 1)<n*n):lvS p s n=⟨rbA p s 1,5,0,List.replicate (n*n).toNat 0⟩:=by
 obtain ⟨e1,e2,e3⟩:=k0_ok h
 have f:=fu_chk (k:=kR (n*n)) hu (ifE_no h2) (by decide)
 rw [lvS_yes (by rw [e3];exact hv),e1,e2,f.1,f.2,lvRun_c (show (5:Int)≠0 by decide)]
theorem lv_5 {p:List UInt8} {s n:Int} (h:RbOk p s 1) (hv:rbV p s 1≠0) (hu:ueC p (rbA p s 1)=0) (h2:ueV p (rbA p s 1)<n*n):lvS p s n=lvRun p (n*n) ⟨ueA p (rbA p s 1),0,0,List.replicate (n*n).toNat 0⟩ (1+ueV p (rbA p s 1)).toNat:=by
 obtain ⟨e1,e2,e3⟩:=k0_ok h
 have f:=fu_yes (k:=kR (n*n)) hu (ifE_yes h2)
 rw [lvS_yes (by rw [e3];exact hv),e1,e2,f.1,f.2.1,f.2.2]
section
attribute [local irreducible] rbA rbV ueA ueV ueC pvC pvA pvR pvL lvOf lvS lvRun
end
section
attribute [local irreducible] lvS smA smV smC blS
end
section
attribute [local irreducible] rbA rbV blS mbS mbRun sz8 nm8
end
end Go.Proofs.YtndflfipaddfoaaGreat


namespace Go.Proofs.YtndflfipaddfoaaGreat
open Go Go.Abs
def Holds (p:List UInt8) (s:Int) (b:List Int):Prop:=0≤s∧s+b.length≤8*(p.length:Int)∧∀k<b.length,btA p (s+(k:Nat))=b.getD k 0
theorem numS_bit {l:List Int} (h:Bit01 l) (hl:l.length=8) (j:Nat) (hj:j<8):numS l 8/2 ^ (7-j)%2=l.getD j 0:=by
 match l,hl with
 |[a,b,c,d,e,f,g,i],_=>
  have ha:0≤a∧a≤1:=by rcases h a (by simp) with e|e<;>omega
  have hb:0≤b∧b≤1:=by rcases h b (by simp) with e|e<;>omega
  have hc:0≤c∧c≤1:=by rcases h c (by simp) with e|e<;>omega
  have hd:0≤d∧d≤1:=by rcases h d (by simp) with e|e<;>omega
  have he:0≤e∧e≤1:=by rcases h e (by simp) with e|e<;>omega
  have hf:0≤f∧f≤1:=by rcases h f (by simp) with e|e<;>omega
  have hg:0≤g∧g≤1:=by rcases h g (by simp) with e|e<;>omega
  have hi:0≤i∧i≤1:=by rcases h i (by simp) with e|e<;>omega
  have hj2:j=0∨j=1∨j=2∨j=3∨j=4∨j=5∨j=6∨j=7:=by omega
  have e8:numS [a,b,c,d,e,f,g,i] 8=((((((((0*2+a)*2+b)*2+c)*2+d)*2+e)*2+f)*2+g)*2+i):=rfl
  rw [e8]
  rcases hj2 with rfl|rfl|rfl|rfl|rfl|rfl|rfl|rfl
  ·show _/(128:Int)%2=a;omega
  ·show _/(64:Int)%2=b;omega
  ·show _/(32:Int)%2=c;omega
  ·show _/(16:Int)%2=d;omega
  ·show _/(8:Int)%2=e;omega
  ·show _/(4:Int)%2=f;omega
  ·show _/(2:Int)%2=g;omega
  ·show _/(1:Int)%2=i;omega
theorem bit1_eq {y:Int} (h:0≤y∧y≤255):bit1 y=y%2:=low1 y ⟨h.1,by omega⟩
theorem bits_len {n w:Int} (hb:bitOk n w):((bitsL n w).length:Int)=w:=by
 unfold bitsL
 rw [if_pos hb,bitsR_len]
 have:=hb.1.1
 omega
theorem set_next (l:List Int) (k:Nat) (h:k<l.length) (n:Nat) (hn:n=l.length):(l.take k++List.replicate (n-k) 0).set k (l.getD k 0)=l.take (k+1)++List.replicate (n-(k+1)) 0:=by
 subst hn
 have e1:(l.take k).length=k:=by simp;omega
 have e2:l.length-k=(l.length-(k+1))+1:=by omega
 rw [List.set_append,if_neg (by omega),e1,Nat.sub_self,e2,List.replicate_succ,List.set_cons_zero,List.take_succ_eq_append_getElem h,List.append_assoc]
 simp [h]
end Go.Proofs.YtndflfipaddfoaaGreat


namespace Go.Proofs.YtndflfipaddfoaaGreat
open Go Go.Abs
def lnum (l:List Int):Int:=((((l.getD 0 0*8+l.getD 1 0)*8+l.getD 2 0)*8+l.getD 3 0)*8+l.getD 4 0)*8+l.getD 5 0
theorem six_of {l:List Int} (h:CodeOk l):∃a b c d e f,l=[a,b,c,d,e,f]∧(0≤a∧a≤7)∧(0≤b∧b≤7)∧(0≤c∧c≤7)∧(0≤d∧d≤7)∧(0≤e∧e≤7)∧(0≤f∧f≤7):=by
 have h0:=code_in h (m:=0) (by decide)
 have h1:=code_in h (m:=1) (by decide)
 have h2:=code_in h (m:=2) (by decide)
 have h3:=code_in h (m:=3) (by decide)
 have h4:=code_in h (m:=4) (by decide)
 have h5:=code_in h (m:=5) (by decide)
 match l,h.2.1 with
 |[a,b,c,d,e,f],_=>exact ⟨a,b,c,d,e,f,rfl,h0,h1,h2,h3,h4,h5⟩
theorem bits3 {n:Int} (h:0≤n∧n≤7):bitsL n 3=[n/4%2,n/2%2,n/1%2]:=by
 have hb:bitOk n 3:=⟨by decide,h.1,by show n/8=0;omega⟩
 unfold bitsL
 rw [if_pos hb]
 rfl
theorem bits18 {n:Int} (h:0≤n∧n≤262143):bitsL n 18=[n/131072%2,n/65536%2,n/32768%2,n/16384%2,n/8192%2,n/4096%2,n/2048%2,n/1024%2,n/512%2,n/256%2,n/128%2,n/64%2,n/32%2,n/16%2,n/8%2,n/4%2,n/2%2,n/1%2]:=by
 have hb:bitOk n 18:=⟨by decide,h.1,by show n/262144=0;omega⟩
 unfold bitsL
 rw [if_pos hb]
 rfl
theorem lens_bits {l:List Int} (h:CodeOk l):(0≤lnum l∧lnum l≤262143)∧l.flatMap (fun n=>bitsL n 3)=bitsL (lnum l) 18∧lensV (lnum l)=l:=by
 obtain ⟨a,b,c,d,e,f,rfl,ha,hb,hc,hd,he,hf⟩:=six_of h
 have en:lnum [a,b,c,d,e,f]=((((a*8+b)*8+c)*8+d)*8+e)*8+f:=rfl
 rw [en]
 refine ⟨by omega,?_,?_⟩
 ·rw [bits18 (by omega)]
  simp only [List.flatMap_cons,List.flatMap_nil,bits3 ha,bits3 hb,bits3 hc,bits3 hd,bits3 he,bits3 hf,List.cons_append,List.nil_append]
  simp only [List.cons.injEq,and_true]
  and_intros<;>omega
 ·show [_/(32768:Int)%8,_/(4096:Int)%8,_/(512:Int)%8,_/(64:Int)%8,_/(8:Int)%8,_/(1:Int)%8]=_
  simp only [List.cons.injEq,and_true]
  and_intros<;>omega
theorem two_bits (b d:Bool):[bif b then (1:Int) else 0,bif d then 1 else 0]=bitsL (2*(bif b then 1 else 0)+(bif d then 1 else 0)) 2∧bitOk (2*(bif b then 1 else 0)+(bif d then 1 else 0)) 2:=by cases b<;>cases d<;>decide
theorem hdL_parts {w h q:Int} {b d:Bool} {l:List Int} (hh:HdOk w h q l):hdL w h q b d l=bitsL 183 8++(ueL (w/8-1)++(ueL (h/8-1)++(bitsL q 6++(bitsL (2*(bif b then 1 else 0)+(bif d then 1 else 0)) 2++bitsL (lnum l) 18)))):=by
 unfold hdL
 rw [if_pos hh]
 unfold hdK hdB
 rw [List.take_length,(lens_bits hh.2.2).2.1,(two_bits b d).1]
 simp only [List.append_assoc]
end Go.Proofs.YtndflfipaddfoaaGreat


namespace Go.Proofs.YtndflfipaddfoaaGreat
open Go Go.Abs
attribute [local irreducible] WpA WpL Rnd Blk Abs.Seq Abs.Fin Abs.FinG FnC FnG Only
def sdV (p:List UInt8) (s:Int):Int:=if ueC p s=0∧ueV p s>3 then 0 else 8*ueV p s+8
def lnL (p:List UInt8) (s:Int):List Int:=if RbOk p s 18 then lensV (rbV p s 18) else []
attribute [local irreducible] rbA rbV ueA ueV ueC fuA fuC fuV fbA fbC fbV sdV lnL zrs numB lft hdS lensV
end Go.Proofs.YtndflfipaddfoaaGreat


namespace Go.Proofs.YtndflfipaddfoaaGreat
open Go Go.Abs
attribute [local irreducible] WpA WpL Rnd Blk Abs.Seq Abs.Fin Abs.FinG FnC FnG Only
theorem hdSL_len (x:HdS):x.L.length≤6:=by
 unfold HdS.L;split
 ·exact Nat.le_refl 6
 ·exact Nat.zero_le _
abbrev StV (x:PrS):AV:=.agg [I x.W,I x.H,I x.Q,B x.B,B x.D,.own 0 0 0 x.L.length,.own 1 0 0 x.ms.length]
def PrN (a c:Int):PrS:=⟨0,0,0,false,false,[],[],a,c⟩
theorem prS_1 {p:List UInt8} (h:(hdS p 0).c≠0):prS p=PrN (hdS p 0).a (hdS p 0).c:=by unfold prS;simp only;rw [if_neg h];rfl
theorem prS_2 {p:List UInt8} (h:(hdS p 0).c=0) (h2:(stRun p (hdS p 0).a (hdS p 0).L (cntM (hdS p 0).W (hdS p 0).H).toNat).c≠0):prS p=PrN (stRun p (hdS p 0).a (hdS p 0).L (cntM (hdS p 0).W (hdS p 0).H).toNat).a (stRun p (hdS p 0).a (hdS p 0).L (cntM (hdS p 0).W (hdS p 0).H).toNat).c:=by
 unfold prS;simp only;rw [if_pos h,if_neg h2];rfl
theorem prS_3 {p:List UInt8} (h:(hdS p 0).c=0) (h2:(stRun p (hdS p 0).a (hdS p 0).L (cntM (hdS p 0).W (hdS p 0).H).toNat).c=0) (h3:endC p (stRun p (hdS p 0).a (hdS p 0).L (cntM (hdS p 0).W (hdS p 0).H).toNat).a≠0):prS p=PrN (stRun p (hdS p 0).a (hdS p 0).L (cntM (hdS p 0).W (hdS p 0).H).toNat).a (endC p (stRun p (hdS p 0).a (hdS p 0).L (cntM (hdS p 0).W (hdS p 0).H).toNat).a):=by
 unfold prS;simp only;rw [if_pos h,if_pos h2,if_neg h3];rfl
theorem prS_4 {p:List UInt8} (h:(hdS p 0).c=0) (h2:(stRun p (hdS p 0).a (hdS p 0).L (cntM (hdS p 0).W (hdS p 0).H).toNat).c=0) (h3:endC p (stRun p (hdS p 0).a (hdS p 0).L (cntM (hdS p 0).W (hdS p 0).H).toNat).a=0):prS p=⟨(hdS p 0).W,(hdS p 0).H,(hdS p 0).Q,(hdS p 0).B,(hdS p 0).D,(hdS p 0).L,(stRun p (hdS p 0).a (hdS p 0).L (cntM (hdS p 0).W (hdS p 0).H).toNat).ms,(stRun p (hdS p 0).a (hdS p 0).L (cntM (hdS p 0).W (hdS p 0).H).toNat).a,0⟩:=by
 unfold prS;simp only;rw [if_pos h,if_pos h2,if_pos h3]
theorem stRun_next {p:List UInt8} {s:Int} {lens:List Int} {k:Nat} (h:(stRun p s lens k).c=0) (hb:(mbS p (stRun p s lens k).a lens).1.c=0):stRun p s lens (k+1)=⟨(mbS p (stRun p s lens k).a lens).1.a,0,(stRun p s lens k).ms++[((mbS p (stRun p s lens k).a lens).2,(mbS p (stRun p s lens k).a lens).1.bs)]⟩:=by
 rw [stRun];simp only;rw [if_pos h,if_pos hb]
theorem stRun_bad {p:List UInt8} {s:Int} {lens:List Int} {k:Nat} (h:(stRun p s lens k).c=0) (hb:(mbS p (stRun p s lens k).a lens).1.c≠0):∀j,k<j→stRun p s lens j=⟨(mbS p (stRun p s lens k).a lens).1.a,(mbS p (stRun p s lens k).a lens).1.c,[]⟩:=by
 intro j hj
 have e:stRun p s lens (k+1)=⟨(mbS p (stRun p s lens k).a lens).1.a,(mbS p (stRun p s lens k).a lens).1.c,[]⟩:=by
  rw [stRun];simp only;rw [if_pos h,if_neg hb]
 rw [stRun_stop (k:=k+1) (by rw [e];exact hb) j hj,e]
section
attribute [local irreducible] hdS stRun mbS endC cntM
instance Parse_c:Con 35 (∀ (p:List UInt8),p.length≤1099511627776→Fn 35 [Z p] [XI (prS p).L,MbO (prS p).ms] (.tup [StV (prS p),I (prS p).a,I (prS p).c])):=⟨fun p hl=>by
 have hr0:RdOk p 0:=⟨by omega,by omega⟩
 have hok:=hdS_ok hr0
 refine FnC.of_body tabOk Tryz.func35 Tryz.ntmps35 rfl (by decide +kernel) (by simp) fun G=>?_
 by_cases hc:(hdS p 0).c=0
 ·have hs:=hdS_sides hc
  have hL:=hdSL_len (hdS p 0)
  have e2:=prS_2 hc
  have e3:=prS_3 hc
  have e4:=prS_4 hc
  have hbd:=cntM_bd hs
  refine go (r:=?_);and_intros<;>intros<;>try exact True.intro
  all_goals first|contradiction|skip
  generalize hx:hdS p 0=x at hc hs hL e2 e3 e4 hbd hok ⊢
  have hz:stRun p x.a x.L 0=⟨x.a,0,[]⟩:=by rw [stRun]
  have hln:=fun k h=>stRun_len p x.a x.L k h
  have hok:=fun k=>stRun_ok (lens:=x.L) hok k
  have hnx:=fun k h hb=>stRun_next (p:=p) (s:=x.a) (lens:=x.L) (k:=k) h hb
  have hbd2:=fun k h hb j hj=>stRun_bad (p:=p) (s:=x.a) (lens:=x.L) (k:=k) h hb j hj
  generalize hN:cntM x.W x.H=N at hbd e2 e3 e4 ⊢
  generalize stRun p x.a x.L=X at hz hln hnx hbd2 hok e2 e3 e4 ⊢
  refine WpA.loop (fun k:Nat=>⟨[(2,.ptr 0 0 0),(5,.ptr 2 0 0),(6,.ptr 3 0 0),(8,.ptr 4 0 0),(29,I N),(30,I k)],[⟨[I 0,I 0,I 0,B false,B false,.nilS,.nilS],0,0,none⟩,XI x.L,⟨[Z p,I (X k).a],0,0,none⟩,⟨[I x.W,I x.H,I x.Q,B x.B,B x.D,.own 1 0 0 x.L.length],0,0,none⟩,⟨[I x.W,I x.H,I x.Q,B x.B,B x.D,.own 1 0 0 x.L.length,.own 5 0 0 k],0,0,none⟩,MbO (X k).ms]⟩) (fun k=>(k:Int)≤N∧(X k).c=0) (fun k=>N.toNat-k) 0 (by rw [hz];exact ⟨by omega,rfl⟩) ?_ (fun k hk=>?_)
  ·rw [hz];exact Weak.nil1 (by first|(show 0≤_;exact Nat.zero_le _)|(repeat' (first|exact RzT.nil|refine RzT.cons ?_ ?_|exact Rz.nil|refine Rz.keep rfl rfl ?_|refine Rz.own rfl rfl rfl rfl rfl (by first|rfl|omega|(simp;done)) ?_|refine Rz.ptr rfl rfl rfl rfl ?_|refine Rz.nilO rfl rfl rfl (by first|rfl|omega|(simp;done)) ?_|refine Rz.agg ?_ ?_|exact RzO.last rfl|(refine RzO.cons ?_ (.inr rfl) ?_)|exact Rz.same rfl (still_ints _)|exact Rz.same rfl (still_rows (fun _=>rfl) _)))) (by first|(show 0≤_;exact Nat.zero_le _)|(repeat' (first|exact RzT.nil|refine RzT.cons ?_ ?_|exact Rz.nil|refine Rz.keep rfl rfl ?_|refine Rz.own rfl rfl rfl rfl rfl (by first|rfl|omega|(simp;done)) ?_|refine Rz.ptr rfl rfl rfl rfl ?_|refine Rz.nilO rfl rfl rfl (by first|rfl|omega|(simp;done)) ?_|refine Rz.agg ?_ ?_|exact RzO.last rfl|(refine RzO.cons ?_ (.inr rfl) ?_)|exact Rz.same rfl (still_ints _)|exact Rz.same rfl (still_rows (fun _=>rfl) _)))) (Nat.zero_le _)
  have hln:=hln k hk.2
  have hnx:=hnx k hk.2
  have hbd2:=hbd2 k hk.2
  have hok:=hok k
  have hfin:¬(k:Int)<N→X N.toNat=X k:=fun h=>by rw [show N.toNat=k by omega]
  generalize hy:X k=y at hk hln hnx hbd2 hfin hok ⊢
  have hln:y.ms.length=k:=hln
  by_cases hlt:(k:Int)<N
  ·by_cases hb:(mbS p y.a x.L).1.c=0
   ·have hnx:=hnx hb
    clear hbd2 e2 e3 e4
    refine go (r:=?_);and_intros<;>intros<;>try exact True.intro
    all_goals first|contradiction|(rw [hnx];done)
   ·have hbd2:=hbd2 hb
    have e:=hbd2 N.toNat (by omega)
    rw [e2 (by rw [e];exact hb),e]
    clear hnx hbd2 e2 e3 e4
    refine go (r:=?_);and_intros<;>intros<;>try exact True.intro
    all_goals first|contradiction
  ·have hfin:=hfin hlt
   have hc2:(X N.toNat).c=0:=by rw [hfin];exact hk.2
   by_cases he:endC p y.a=0
   ·rw [e4 hc2 (by rw [hfin];exact he),hfin]
    clear e2 e3 e4 hnx hbd2
    refine go (r:=?_);and_intros<;>intros<;>try exact True.intro
    all_goals first|contradiction|exact hok
   ·rw [e3 hc2 (by rw [hfin];exact he),hfin]
    clear e2 e3 e4 hnx hbd2
    refine go (r:=?_);and_intros<;>intros<;>try exact True.intro
    all_goals first|contradiction|exact hok
 ·rw [prS_1 hc]
  refine goR (r:=?_);and_intros<;>intros<;>try exact True.intro
  refine WpA.weak (σ':=⟨[(2,.ptr 0 0 0),(5,.ptr 2 0 0),(7,I (hdS p 0).c)],[⟨[I 0,I 0,I 0,B false,B false,.nilS,.nilS],0,0,none⟩,XI (hdS p 0).L,⟨[Z p,I (hdS p 0).a],0,0,none⟩]⟩) (Weak.mk (by repeat (first|exact ReT.nil|refine ReT.cons (.keep rfl rfl .nil) ?_|refine ReT.cons (.own rfl rfl rfl rfl rfl rfl .nil) ?_|refine ReT.cons (.ptr rfl rfl rfl rfl .nil) ?_|refine ReT.cons (.keep (congrArg (fun z=>AV.sc (Value.int .i64 z)) (by first|omega|(skip))) rfl .nil) ?_|refine ReT.cons (.keep (congrArg (fun z:List UInt8=>AV.sc (Value.string ⟨z.toArray⟩)) (by skip)) rfl .nil) ?_|refine ReT.cons (.own rfl rfl rfl rfl rfl (by first|omega|(simp;done)|(simp;omega)) .nil) ?_)) (by repeat (first|exact ReO.nil|refine ReO.cons (Re.same rfl (still_ints _)) (by simp) ?_|refine ReO.cons (Re.same rfl rfl) (by simp) ?_)) (Nat.zero_le _)) ?_
  refine go (r:=?_);and_intros<;>intros<;>try exact True.intro
  all_goals first|contradiction⟩
end
end Go.Proofs.YtndflfipaddfoaaGreat


namespace Go.Proofs.YtndflfipaddfoaaGreat
open Go Go.Abs
theorem ifE_of {b:Prop} [Decidable b] {e:Int} (he:e≠0) (h:ifE b e=0):b:=by
 refine Decidable.byContradiction fun hn=>?_
 rw [ifE_no hn] at h;exact he h
theorem fuC_0 {p:List UInt8} {s c:Int} {k:Int→Int} (h:fuC p s c k=0):c=0∧k (ueV p s)=0∧fuV p s c k=ueV p s:=by
 have hv:fuV p s c k=ueV p s:=by unfold fuV;rw [if_pos h]
 unfold fuC at h
 split at h
 ·rename_i hc
  split at h
  ·exact ⟨hc,h,hv⟩
  ·rename_i hu;exact absurd h hu
 ·rename_i hc;exact absurd h hc
theorem fbC_0 {p:List UInt8} {s c n:Int} {k:Int→Int} (h:fbC p s c n k=0):c=0∧k (rbV p s n)=0∧fbV p s c n k=rbV p s n:=by
 have hv:fbV p s c n k=rbV p s n:=by unfold fbV;rw [if_pos h]
 unfold fbC at h
 split at h
 ·rename_i hc
  split at h
  ·exact ⟨hc,h,hv⟩
  ·exact absurd h (by decide)
 ·rename_i hc;exact absurd h hc
theorem lvStep_in {p:List UInt8} {nn:Int} {x:LvS} (h:In x.out (-16383) 16383):In (lvStep p nn x).out (-16383) 16383:=by
 unfold lvStep;split
 ·simp only
  split
  ·rename_i hc
   have h2:=fuC_0 hc
   have h3:=ifE_of (by decide) h2.2.1
   unfold In at h ⊢
   intro v hv
   rcases List.mem_or_eq_of_mem_set hv with h4|h4
   ·exact h v h4
   ·rw [h4,h2.2.2];exact h3
  ·exact h
 ·exact h
theorem lvRun_in {p:List UInt8} {nn:Int} {x:LvS} (h:In x.out (-16383) 16383):∀k,In (lvRun p nn x k).out (-16383) 16383
 |0=>h
 |k+1=>by rw [lvRun];exact lvStep_in (lvRun_in h k)
theorem lvS_in (p:List UInt8) (s n:Int):In (lvS p s n).out (-16383) 16383:=by
 have hz:In (List.replicate (n*n).toNat (0:Int)) (-16383) 16383:=by
  unfold In
  intro v hv
  rw [List.eq_of_mem_replicate hv];decide
 unfold lvS;simp only;split
 ·exact hz
 ·exact lvRun_in hz _
theorem blS_good {p:List UInt8} {s:Int} {lens:List Int} {n:Int} (h:(blS p s lens n).c=0):BlkOk (blS p s lens n).m (blS p s lens n).l lens n:=by
 unfold blS at h ⊢
 split at h
 ·rename_i hn
  rw [if_pos hn]
  split at h
  ·rename_i hc
   rw [if_pos hc]
   simp only at h ⊢
   split at h
   ·rename_i hx
    rw [if_pos hx]
    have hcd:CodeOk lens∧symM p s lens<6:=by
     have h0:=hc
     unfold smC at h0
     split at h0
     ·rename_i h1
      split at h0
      ·exact ⟨h1,by assumption⟩
      ·exact absurd h0 (by decide)
     ·exact absurd h0 (by decide)
    have hs:=symM_lt hcd.2
    have hl:=lvS_len p (smA p s lens) n
    refine ⟨hn,⟨hcd.1,?_,?_⟩,?_,lvS_in _ _ _,?_⟩
    ·show 0≤smV p s lens∧smV p s lens≤5
     rw [smV,if_pos hc];omega
    ·show lens.getD (smV p s lens).toNat 0≠0
     rw [smV,if_pos hc,Int.toNat_natCast]
     have:=hs.1;omega
    ·show ((lvS p (smA p s lens) n).out.length:Int)=n*n
     rw [hl];rcases hn with rfl|rfl<;>decide
    ·show (lvS p (smA p s lens) n).out.length=16∨(lvS p (smA p s lens) n).out.length=64
     rw [hl];rcases hn with rfl|rfl<;>decide
   ·rename_i hx;exact absurd h hx
  ·rename_i hc;exact absurd h hc
 ·exact absurd (show (5:Int)=0 from h) (by decide)
theorem mbRun_good {p:List UInt8} {s:Int} {lens:List Int} {n:Int}:∀k,(mbRun p s lens n k).c=0→(mbRun p s lens n k).bs.length=k∧∀b∈(mbRun p s lens n k).bs,BlkOk b.1 b.2 lens n
 |0,_=>⟨rfl,fun b hb=>by simp [mbRun] at hb⟩
 |k+1,h=>by
  have ih:=mbRun_good (p:=p) (s:=s) (lens:=lens) (n:=n) k
  rw [mbRun] at h ⊢
  simp only at h ⊢
  split at h
  ·rename_i hx
   rw [if_pos hx]
   have ih:=ih hx
   split at h
   ·rename_i hb
    rw [if_pos hb]
    refine ⟨by simp [ih.1],fun b hm=>?_⟩
    simp only [List.mem_append,List.mem_singleton] at hm
    rcases hm with hm|hm
    ·exact ih.2 b hm
    ·rw [hm];exact blS_good hb
   ·rename_i hb;exact absurd h hb
  ·rename_i hx;exact absurd h hx
theorem mbS_good {p:List UInt8} {s:Int} {lens:List Int} (h:(mbS p s lens).1.c=0):MbkOk (mbS p s lens).2 (mbS p s lens).1.bs lens:=by
 unfold mbS at h ⊢
 split at h
 ·rename_i ho
  rw [if_pos ho]
  simp only at h ⊢
  have hg:=mbRun_good _ h
  rw [decide_eq_true h]
  show MbkOk (decide (rbV p s 1=1)) _ lens
  generalize decide (rbV p s 1=1)=e at*
  refine ⟨?_,?_⟩
  ·rw [hg.1];cases e<;>rfl
  ·rw [List.any_eq_false]
   intro b hb
   have:=hg.2 b hb
   unfold badB
   simp only [decide_eq_true_eq,Decidable.not_not]
   cases e<;>exact this
 ·exact absurd (show (1:Int)=0 from h) (by decide)
theorem stRun_good {p:List UInt8} {s:Int} {lens:List Int}:∀k,(stRun p s lens k).c=0→∀m∈(stRun p s lens k).ms,MbkOk m.1 m.2 lens
 |0,_,m,hm=>by simp [stRun] at hm
 |k+1,h,m,hm=>by
  have ih:=stRun_good (p:=p) (s:=s) (lens:=lens) k
  rw [stRun] at h hm
  simp only at h hm
  split at h
  ·rename_i hx
   rw [if_pos hx] at hm
   split at h
   ·rename_i hb
    rw [if_pos hb] at hm
    simp only [List.mem_append,List.mem_singleton] at hm
    rcases hm with hm|hm
    ·exact ih hx m hm
    ·rw [hm];exact mbS_good hb
   ·rename_i hb;exact absurd h hb
  ·rename_i hx;exact absurd h hx
theorem hdS_good {p:List UInt8} {s:Int} (h:(hdS p s).c=0):HdOk (hdS p s).W (hdS p s).H (hdS p s).Q (hdS p s).L:=by
 refine ⟨hdS_sides h,?_,?_⟩
 ·rw [HdS.Q,if_pos h]
  have h0:0≤(hdS p s).q:=by unfold hdS;exact (fbV_bd _ _ _ _ _).1
  refine ⟨h0,?_⟩
  unfold hdS at h ⊢
  simp only at h ⊢
  have h6:=fbC_0 h
  have h5:=fbC_0 h6.1
  have h4:=fbC_0 h5.1
  rw [h4.2.2]
  exact ifE_of (by decide) h4.2.1
 ·rw [HdS.L,if_pos h]
  unfold hdS at h ⊢
  simp only at h ⊢
  have h6:=fbC_0 h
  rw [h6.2.2]
  exact ifE_of (by decide) h6.2.1
theorem prS_good {p:List UInt8} (h:(prS p).c=0):StOk (prS p).W (prS p).H (prS p).Q (prS p).L (prS p).ms:=by
 by_cases h1:(hdS p 0).c=0
 ·by_cases h2:(stRun p (hdS p 0).a (hdS p 0).L (cntM (hdS p 0).W (hdS p 0).H).toNat).c=0
  ·by_cases h3:endC p (stRun p (hdS p 0).a (hdS p 0).L (cntM (hdS p 0).W (hdS p 0).H).toNat).a=0
   ·have hg:=hdS_good h1
    have hcm:=cntM_bd hg.1
    have hl:=stRun_len p _ _ _ h2
    rw [prS_4 h1 h2 h3]
    refine ⟨hg,?_,?_⟩
    ·show ((stRun p (hdS p 0).a (hdS p 0).L (cntM (hdS p 0).W (hdS p 0).H).toNat).ms.length:Int)=cntM (hdS p 0).W (hdS p 0).H
     rw [hl];omega
    ·rw [List.any_eq_false]
     intro m hm
     have:=stRun_good _ h2 m hm
     unfold badM
     simp only [decide_eq_true_eq,Decidable.not_not]
     exact this
   ·rw [prS_3 h1 h2 h3] at h;exact absurd h h3
  ·rw [prS_2 h1 h2] at h;exact absurd h h2
 ·rw [prS_1 h1] at h;exact absurd h h1
end Go.Proofs.YtndflfipaddfoaaGreat


namespace Go.Proofs.YtndflfipaddfoaaGreat
open Go Go.Abs
theorem holds_app {p:List UInt8} {s:Int} {a b:List Int} (h1:Holds p s a) (h2:Holds p (s+a.length) b):Holds p s (a++b):=by
 refine ⟨h1.1,?_,fun k hk=>?_⟩
 ·rw [List.length_append];have:=h2.2.1;omega
 ·rcases Nat.lt_or_ge k a.length with hk2|hk2
  ·rw [h1.2.2 k hk2];simp [List.getD_eq_getElem?_getD,List.getElem?_append_left hk2]
  ·have h3:=h2.2.2 (k-a.length) (by rw [List.length_append] at hk;omega)
   rw [show s+(a.length:Int)+((k-a.length:Nat):Int)=s+(k:Nat) by omega] at h3
   rw [h3];simp [List.getD_eq_getElem?_getD,List.getElem?_append_right hk2]
theorem holds_0 {p:List UInt8} {s:Int} (h:RdOk p s):Holds p s []:=⟨h.1,by have:=h.2;simp;omega,fun k hk=>by cases hk⟩
theorem bt_num {p:List UInt8} {s:Int} {w:Nat} (h0:0≤s) (hl:s+w≤8*(p.length:Int)) (j:Nat) (hj:j<w):numB p s w/2 ^ (w-1-j)%2=btA p (s+(j:Nat)):=by
 obtain ⟨r,hr⟩:∃r,w=(j+1)+r:=⟨w-(j+1),by omega⟩
 have e1:w-1-j=r:=by omega
 rw [e1,hr,numB_add p s (j+1) r]
 have hb:=numB_bd p (s+((j+1:Nat):Int)) r
 have hp:(0:Int)<2 ^ r:=Int.pow_pos (by decide)
 rw [Int.add_comm,Int.add_mul_ediv_right _ _ (Int.ne_of_gt hp),Int.ediv_eq_zero_of_lt hb.1 hb.2,Int.zero_add,numB]
 have h1:=btA_out p (s+(j:Nat))
 have h2:=btA_bd p (s+(j:Nat))
 unfold bv
 omega
theorem num_ok {p:List UInt8} {s:Int} {w:Nat} (hw:w≤48):bitOk (numB p s w) (w:Int):=by
 have hb:=numB_bd p s w
 refine ⟨⟨by omega,by omega⟩,hb.1,?_⟩
 rw [Int.toNat_natCast]
 exact Int.ediv_eq_zero_of_lt hb.1 hb.2
theorem num_holds {p:List UInt8} {s:Int} {w:Nat} (hw:w≤48) (h0:0≤s) (hl:s+w≤8*(p.length:Int)):Holds p s (bitsL (numB p s w) (w:Int)):=by
 have ho:=num_ok (p:=p) (s:=s) hw
 have hlen:=bits_len ho
 refine ⟨h0,by omega,fun k hk=>?_⟩
 have hk2:k<w:=by omega
 rw [bitsL,if_pos ho,Int.toNat_natCast]
 rw [←bt_num h0 hl k hk2]
 simp [bitsR,List.getD_eq_getElem?_getD,hk2]
theorem rb_holds {p:List UInt8} {s n:Int} (h:RbOk p s n):Holds p s (bitsL (rbV p s n) n)∧rbA p s n=s+(bitsL (rbV p s n) n).length∧bitOk (rbV p s n) n:=by
 obtain ⟨w,rfl⟩:∃w:Nat,n=w:=⟨n.toNat,by have:=h.2.1;omega⟩
 have hl:=lft_ok h.1
 have h2:=h.2
 have e:=rb_yes h
 rw [Int.toNat_natCast] at e
 rw [e.1,e.2]
 have ho:=num_ok (p:=p) (s:=s) (w:=w) (by omega)
 exact ⟨num_holds (by omega) h.1.1 (by omega),by rw [bits_len ho],ho⟩
theorem ue_holds {p:List UInt8} {s:Int} (h:ueC p s=0):Holds p s (ueL (ueV p s))∧ueA p s=s+(ueL (ueV p s)).length∧0≤ueV p s∧ueV p s≤65534:=by
 have h15:zrs p s≤15:=by
  refine Decidable.byContradiction fun hn=>?_
  rw [(ue_code hn).2.1] at h;cases h
 have hok:RbOk p s (2*(zrs p s:Int)+1):=by
  refine Decidable.byContradiction fun hn=>?_
  rw [(ue_short h15 hn).2.1] at h;cases h
 have hy:=ue_yes h15 hok
 have hlo:=lft_ok hok.1
 have hst:=zrs_stop p s
 have hz0:=fun j hj=>zrs_zero (p:=p) (s:=s) (j:=j) hj
 generalize hz:zrs p s=z at*
 have hbo:=btA_out p (s+(z:Nat))
 have hbd:=btA_bd p (s+(z:Nat))
 have hb1:btA p (s+(z:Nat))=1:=by
  rcases hst with h|h
  ·have:=hok.2.2;omega
  ·have:=hok.2.2;have:=hok.1.1;omega
 have e:numB p s (z+1+z)=numB p s (z+1)*2 ^ z+numB p (s+((z+1:Nat):Int)) z:=numB_add p s (z+1) z
 have h1:=numB_bd p (s+((z+1:Nat):Int)) z
 have h3:numB p s (z+1)=numB p s z*2+bv p (s+(z:Nat)):=rfl
 have h4:bv p (s+(z:Nat))=1:=by unfold bv;omega
 have h5:numB p s z=0:=(numB_zero p s z).2 fun j hj=>by have:=hz0 j hj;unfold bv;omega
 have h6:numB p s (z+1+z)=2 ^ z+numB p (s+((z+1:Nat):Int)) z:=by rw [e,h3,h4,h5];omega
 have e7:(2*(z:Int)+1).toNat=z+1+z:=by omega
 rw [e7] at hy
 obtain ⟨m,hm⟩:∃m:Nat,numB p (s+((z+1:Nat):Int)) z=m:=⟨(numB p (s+((z+1:Nat):Int)) z).toNat,by omega⟩
 obtain ⟨q,hq⟩:∃q:Nat,2 ^ z=q:=⟨_,rfl⟩
 have hq2:(2:Int) ^ z=(q:Int):=by rw [←hq];simp
 rw [hm,hq2] at h1 h6
 have hq1:1≤q:=by rw [←hq];exact Nat.pow_pos (by decide)
 have hV:ueV p s=((q+m-1:Nat):Int):=by rw [hy.2.2,h6];omega
 have hlog:Nat.log2 (q+m-1+1)=z:=by
  have:(Nat.log2 (q+m-1+1)=z):=(Nat.log2_eq_iff (by omega)).2 ⟨by rw [hq];omega,by rw [Nat.pow_succ,hq];omega⟩
  exact this
 have hq15:q≤32768:=by rw [←hq];exact Nat.pow_le_pow_right (by decide) (show z≤15 by omega)
 have hm2:q+m-1≤65534:=by omega
 have hw:=ueL_wide hm2
 rw [hlog] at hw
 have hh:=num_holds (p:=p) (s:=s) (w:=z+1+z) (by omega) hok.1.1 (by have:=hok.2.2;omega)
 have ho:=num_ok (p:=p) (s:=s) (w:=z+1+z) (by omega)
 have hlen:=bits_len ho
 rw [h6] at hh hlen
 rw [show ((z+1+z:Nat):Int)=((2*z+1:Nat):Int) by omega,show (q:Int)+(m:Int)=((q+m-1:Nat):Int)+1 by omega,hw,←hV] at hh hlen
 exact ⟨hh,by rw [hy.1];omega,by rw [hV];omega,by rw [hV];omega⟩
theorem fuC_ue {p:List UInt8} {s c:Int} {k:Int→Int} (h:fuC p s c k=0):ueC p s=0∧fuA p s c k=ueA p s:=by
 have ha:fuA p s c k=ueA p s:=by rw [fuA,if_pos h]
 unfold fuC at h
 split at h
 ·split at h
  ·exact ⟨by assumption,ha⟩
  ·exact ⟨h,ha⟩
 ·rename_i hc;exact absurd h hc
theorem fbC_rb {p:List UInt8} {s c n:Int} {k:Int→Int} (h:fbC p s c n k=0):RbOk p s n∧fbA p s c n k=rbA p s n:=by
 have h0:=(fbC_0 h).1
 have ha:fbA p s c n k=rbA p s n:=by rw [fbA,if_pos ⟨h0,h⟩]
 rw [fbC,if_pos h0] at h
 split at h
 ·exact ⟨by assumption,ha⟩
 ·exact absurd h (by decide)
theorem sym_holds {p:List UInt8} {s:Int} {l:List Int} (h:smC p s l=0):HasC l (smV p s l)∧Holds p s (symL l (smV p s l))∧smA p s l=s+(symL l (smV p s l)).length:=by
 have hcd:CodeOk l∧symM p s l<6:=by
  have h0:=h
  unfold smC at h0
  split at h0
  ·rename_i h1
   split at h0
   ·exact ⟨h1,by assumption⟩
   ·exact absurd h0 (by decide)
  ·exact absurd h0 (by decide)
 have hs:=symM_lt hcd.2
 have hv:smV p s l=symM p s l:=by rw [smV,if_pos h]
 have hH:HasC l (smV p s l):=⟨hcd.1,by rw [hv];omega,by rw [hv,Int.toNat_natCast];have:=hs.1;omega⟩
 have hrb:=rb_holds hs.2.1
 have hlen:=symL_len l (smV p s l)
 rw [if_pos hH] at hlen
 have e:symL l (smV p s l)=bitsL (rbV p s (l.getD (symM p s l) 0)) (l.getD (symM p s l) 0):=by
  rw [symL,if_pos hH,hv,Int.toNat_natCast,(rb_yes hs.2.1).2,hs.2.2]
 refine ⟨hH,by rw [e];exact hrb.1,?_⟩
 rw [smA,if_pos h,hlen,hv,Int.toNat_natCast]
theorem nol_lv {u:Int} (h:0≤u):nolL (lvOf u)=u∧lvOf u≠0:=by unfold lvOf nolL;constructor<;>split<;>(try split)<;>(try split)<;>omega
theorem pair_holds {p:List UInt8} {s room:Int} (h:pvC p s room=0):Holds p s (prB (pvR p s room,pvL p s room))∧pvA p s room=s+(prB (pvR p s room,pvL p s room)).length∧(0≤pvR p s room∧pvR p s room<room)∧pvL p s room≠0:=by
 have h':=h
 unfold pvC at h'
 have a1:=fuC_0 h'
 have a2:=fuC_ue h'
 have b1:=fuC_0 a1.1
 have b2:=fuC_ue a1.1
 rw [b2.2] at a1 a2
 have u1:=ue_holds b2.1
 have u2:=ue_holds a2.1
 have r1:ueV p s<room:=ifE_of (e:=5) (by decide) b1.2.1
 have r2:-16383≤lvOf (ueV p (ueA p s))∧lvOf (ueV p (ueA p s))≤16383:=ifE_of (e:=5) (by decide) a1.2.1
 have h5:=pv_5 b2.1 r1 a2.1 r2
 have hn:=nol_lv u2.2.2.1
 rw [h5.1,h5.2.2.1,h5.2.2.2]
 unfold prB
 simp only
 rw [hn.1]
 refine ⟨holds_app u1.1 (by rw [←u1.2.1];exact u2.1),?_,⟨u1.2.2.1,r1⟩,hn.2⟩
 rw [u2.2.1,u1.2.1,List.length_append];omega
theorem pk_same {a b:List Int}:∀k,(∀ j<k,a.getD j 0=b.getD j 0)→pk a k=pk b k
 |0,_=>rfl
 |k+1,h=>by rw [pk,pk,pk_same k fun j hj=>h j (by omega),h k (by omega)]
theorem pk_zero {a:List Int} {k:Nat}:∀r,(∀ j<r,a.getD (k+j) 0=0)→pk a (k+r)=((pk a k).1,(pk a k).2+r)
 |0,_=>by simp
 |r+1,h=>by
  rw [←Nat.add_assoc,pk,if_pos (h r (by omega)),pk_zero r fun j hj=>h j (by omega)]
  simp only [Prod.mk.injEq,true_and];omega
theorem getD_set_ne' {l:List Int} {i j:Nat} {v:Int} (h:i≠j):(l.set i v).getD j 0=l.getD j 0:=by
 simp [List.getD_eq_getElem?_getD,List.getElem?_set_ne h]
theorem getD_set_eq' {l:List Int} {i:Nat} {v:Int} (h:i<l.length):(l.set i v).getD i 0=v:=by
 simp [List.getD_eq_getElem?_getD,h]
theorem getD_rep0 (n j:Nat):(List.replicate n (0:Int)).getD j 0=0:=by
 rw [List.getD_eq_getElem?_getD,List.getElem?_replicate];split<;>rfl
theorem run_holds {p:List UInt8} {s:Int} {nn:Nat} (hr:RdOk p s):∀k,(lvRun p nn ⟨s,0,0,List.replicate nn 0⟩ k).c=0→
 let x:=lvRun p nn ⟨s,0,0,List.replicate nn 0⟩ k
 (∀ j,x.at_≤(j:Nat)→x.out.getD j 0=0)∧(pk x.out x.at_.toNat).2=0∧Holds p s ((pk x.out x.at_.toNat).1.flatMap prB)∧x.a=s+((pk x.out x.at_.toNat).1.flatMap prB).length∧(pk x.out x.at_.toNat).1.length=k
 |0,_=>by
  simp only [lvRun]
  exact ⟨fun j _=>getD_rep0 nn j,rfl,holds_0 hr,by simp [pk],rfl⟩
 |k+1,h=>by
  have ih:=run_holds (nn:=nn) hr k
  have hat:=lvRun_at (p:=p) (nn:=nn) (x:=⟨s,0,0,List.replicate nn 0⟩) ⟨by simp,by simp⟩ k
  have hln:=lvRun_len p nn ⟨s,0,0,List.replicate nn 0⟩ k
  rw [List.length_replicate] at hln
  rw [lvRun] at h ⊢
  generalize lvRun p nn ⟨s,0,0,List.replicate nn 0⟩ k=x at*
  obtain ⟨xa,xc,xat,xo⟩:=x
  replace hat:0≤xat∧xat≤(nn:Int):=hat
  replace hln:xo.length=nn:=hln
  by_cases hc:xc=0
  ·have ih:=ih hc
   simp only at ih
   obtain ⟨i1,i2,i3,i4,i5⟩:=ih
   by_cases hp:pvC p xa (nn-xat)=0
   ·have hq:=pair_holds hp
    rw [lvStep_pv0 hc hp] at h ⊢
    simp only
    generalize pvR p xa (nn-xat)=r at*
    generalize pvL p xa (nn-xat)=v at*
    obtain ⟨a,rfl⟩:∃a:Nat,xat=a:=⟨xat.toNat,by omega⟩
    obtain ⟨r',hr'⟩:∃r':Nat,r=r':=⟨r.toNat,by omega⟩
    subst hr'
    have e1:((a:Int)+(r':Int)+1).toNat=a+r'+1:=by omega
    have e2:((a:Int)+(r':Int)).toNat=a+r':=by omega
    rw [e1,e2]
    rw [Int.toNat_natCast] at i2 i3 i4 i5
    have hlt:a+r'<xo.length:=by omega
    have hz:=pk_zero (a:=xo) (k:=a) r' fun j _=>i1 (a+j) (by omega)
    have hs:=pk_same (a:=xo.set (a+r') v) (b:=xo) (a+r') fun j hj=>getD_set_ne' (by omega)
    have he:pk (xo.set (a+r') v) (a+r'+1)=((pk xo a).1++[((r':Int),v)],0):=by
     rw [pk,getD_set_eq' hlt,if_neg hq.2.2.2,hs,hz,i2];simp
    rw [he]
    simp only [List.flatMap_append,List.flatMap_cons,List.flatMap_nil,List.append_nil,List.length_append,List.length_singleton]
    refine ⟨fun j hj=>?_,trivial,holds_app i3 (by rw [←i4];exact hq.1),?_,by omega⟩
    ·rw [getD_set_ne' (by omega)];exact i1 j (by omega)
    ·rw [hq.2.1,i4];omega
   ·rw [(lvStep_pv1 hc hp).2.1] at h;exact absurd h hp
  ·rw [lvStep_no hc] at h;exact absurd h hc
theorem rb1 {p:List UInt8} {s:Int} (h:RbOk p s 1):(rbV p s 1=0∨rbV p s 1=1)∧Holds p s [rbV p s 1]∧rbA p s 1=s+1:=by
 have hb:=rb_holds h
 have e:=(rb_yes h).2
 have hb2:=numB_bd p s 1
 have e1:(1:Int).toNat=1:=rfl
 rw [e1] at e
 have hv:rbV p s 1=0∨rbV p s 1=1:=by omega
 refine ⟨hv,?_,(rb_yes h).1⟩
 have e2:bitsL (rbV p s 1) 1=[rbV p s 1]:=by rcases hv with h|h<;>rw [h]<;>rfl
 rw [←e2];exact hb.1
def lvBt (l:List Int):List Int:=if (prsL l).length=0 then [0] else [1]++ueL ((prsL l).length-1)++(prsL l).flatMap prB
theorem lv_holds {p:List UInt8} {s n:Int} (hn:n=4∨n=8) (hr:RdOk p s) (h:(lvS p s n).c=0):Holds p s (lvBt (lvS p s n).out)∧(lvS p s n).a=s+(lvBt (lvS p s n).out).length:=by
 have hlk:LvOk (lvS p s n).out:=by
  refine ⟨lvS_in _ _ _,?_⟩
  rw [lvS_len p s n];rcases hn with rfl|rfl<;>decide
 have hps:prsL (lvS p s n).out=(pk (lvS p s n).out (lvS p s n).out.length).1:=by unfold prsL;rw [if_pos hlk]
 have hln:=lvS_len p s n
 obtain ⟨nn,hnn⟩:∃nn:Nat,n*n=nn:=⟨(n*n).toNat,by rcases hn with rfl|rfl<;>rfl⟩
 by_cases h1:RbOk p s 1
 ·have hb:=rb1 h1
  by_cases h2:rbV p s 1=0
  ·have e:=lv_2 (n:=n) h1 h2
   rw [e] at hps ⊢
   simp only at hps ⊢
   have hz:prsL (List.replicate (n*n).toNat 0)=[]:=by
    rw [hps,List.length_replicate]
    have:=pk_zero (a:=List.replicate (n*n).toNat 0) (k:=0) (n*n).toNat fun j _=>getD_rep0 _ _
    rw [Nat.zero_add] at this
    rw [this];rfl
   unfold lvBt
   rw [hz,if_pos (List.length_nil (α:=Int×Int))]
   rw [h2] at hb
   exact ⟨hb.2.1,hb.2.2⟩
  ·by_cases h3:ueC p (rbA p s 1)=0
   ·by_cases h4:ueV p (rbA p s 1)<n*n
    ·have e:=lv_5 h1 h2 h3 h4
     have hu:=ue_holds h3
     rw [e] at h hps hln ⊢
     simp only [hnn,Int.toNat_natCast] at h hps hln ⊢
     have hh:=run_holds (nn:=nn) ((by rw [hu.2.1];exact ⟨by have:=hu.1.1;omega,hu.1.2.1⟩:RdOk p (ueA p (rbA p s 1)))) _ h
     have hat:=lvRun_at (p:=p) (nn:=nn) (x:=⟨ueA p (rbA p s 1),0,0,List.replicate nn 0⟩) ⟨by simp,by simp⟩ (1+ueV p (rbA p s 1)).toNat
     generalize lvRun p nn ⟨ueA p (rbA p s 1),0,0,List.replicate nn 0⟩ (1+ueV p (rbA p s 1)).toNat=x at*
     simp only at hh
     obtain ⟨i1,i2,i3,i4,i5⟩:=hh
     have e2:prsL x.out=(pk x.out x.at_.toNat).1:=by
      rw [hps,hln,show nn=x.at_.toNat+(nn-x.at_.toNat) by omega,pk_zero _ fun j _=>i1 _ (by omega)]
     rw [←e2] at i3 i4 i5
     have hv1:rbV p s 1=1:=by rcases hb.1 with h|h;exact absurd h h2;exact h
     rw [hv1] at hb
     unfold lvBt
     rw [if_neg (by omega),show ((prsL x.out).length:Int)-1=ueV p (rbA p s 1) by omega]
     refine ⟨holds_app (holds_app hb.2.1 (by rw [show s+(([1]:List Int).length:Int)=rbA p s 1 by rw [hb.2.2];rfl];exact hu.1)) (by rw [List.length_append,show s+((([1]:List Int).length+(ueL (ueV p (rbA p s 1))).length:Nat):Int)=ueA p (rbA p s 1) by rw [hu.2.1,hb.2.2];simp only [List.length_singleton];omega];exact i3),?_⟩
     rw [i4,hu.2.1,hb.2.2]
     simp only [List.length_append,List.length_singleton]
     omega
    ·rw [lv_4 h1 h2 h3 h4] at h;cases h
   ·rw [lv_3 h1 h2 h3] at h;exact absurd h h3
 ·rw [lv_1 h1] at h;cases h
theorem bkL_eq {m n:Int} {lv lens:List Int} (h:BlkOk m lv lens n):bkL m lv lens n=symL lens m++lvBt lv:=by
 unfold bkL lvBt
 rw [if_pos h]
 split
 ·rfl
 ·unfold bkK;rw [List.take_length];simp only [List.append_assoc]
theorem blk_holds {p:List UInt8} {s n:Int} {lens:List Int} (hr:RdOk p s) (h:(blS p s lens n).c=0):Holds p s (bkL (blS p s lens n).m (blS p s lens n).l lens n)∧(blS p s lens n).a=s+(bkL (blS p s lens n).m (blS p s lens n).l lens n).length:=by
 have hg:=blS_good h
 rw [bkL_eq hg]
 unfold blS at h ⊢
 rw [if_pos hg.1] at h ⊢
 split at h
 ·rename_i hc
  rw [if_pos hc]
  simp only at h ⊢
  split at h
  ·rename_i hx
   rw [if_pos hx]
   have h1:=sym_holds hc
   have h2:=lv_holds hg.1 (smA_ok hr) hx
   refine ⟨holds_app h1.2.1 (by rw [←h1.2.2];exact h2.1),?_⟩
   have e1:=h2.2
   have e2:=h1.2.2
   simp only [List.length_append]
   omega
  ·rename_i hx;exact absurd h hx
 ·rename_i hc;exact absurd h hc
theorem mbr_holds {p:List UInt8} {s:Int} {lens:List Int} {n:Int} (hr:RdOk p s):∀k,(mbRun p s lens n k).c=0→Holds p s ((mbRun p s lens n k).bs.flatMap fun b=>bkL b.1 b.2 lens n)∧(mbRun p s lens n k).a=s+((mbRun p s lens n k).bs.flatMap fun b=>bkL b.1 b.2 lens n).length
 |0,_=>⟨holds_0 hr,by simp [mbRun]⟩
 |k+1,h=>by
  have ih:=mbr_holds (lens:=lens) (n:=n) hr k
  have hrk:=mbRun_ok (lens:=lens) (n:=n) hr k
  rw [mbRun] at h ⊢
  simp only at h ⊢
  split at h
  ·rename_i hx
   rw [if_pos hx]
   have ih:=ih hx
   split at h
   ·rename_i hb
    rw [if_pos hb]
    have hk:=blk_holds hrk hb
    simp only [List.flatMap_append,List.flatMap_cons,List.flatMap_nil,List.append_nil,List.length_append]
    refine ⟨holds_app ih.1 (by rw [←ih.2];exact hk.1),?_⟩
    rw [hk.2,ih.2];omega
   ·rename_i hb;exact absurd h hb
  ·rename_i hx;exact absurd h hx
theorem mb_holds {p:List UInt8} {s:Int} {lens:List Int} (hr:RdOk p s) (h:(mbS p s lens).1.c=0):Holds p s (mbbL (mbS p s lens).2 (mbS p s lens).1.bs lens)∧(mbS p s lens).1.a=s+(mbbL (mbS p s lens).2 (mbS p s lens).1.bs lens).length:=by
 have hg:=mbS_good h
 unfold mbbL
 rw [if_pos hg]
 unfold mbK
 rw [List.take_length]
 clear hg
 unfold mbS at h ⊢
 split at h
 ·rename_i ho
  rw [if_pos ho]
  simp only at h ⊢
  have hb:=rb1 ho
  have hr1:RdOk p (s+1):=by have:=rbA_ok (n:=1) hr;rwa [hb.2.2] at this
  have hm:=mbr_holds hr1 _ h
  rw [decide_eq_true h]
  simp only [cond_true]
  have e:rbV p s 1=bif decide (rbV p s 1=1) then 1 else 0:=by rcases hb.1 with h|h<;>rw [h]<;>rfl
  rw [e] at hb
  generalize decide (rbV p s 1=1)=e at*
  refine ⟨holds_app hb.2.1 ?_,?_⟩
  ·rw [List.length_singleton]
   exact hm.1
  ·rw [hm.2,List.length_append,List.length_singleton]
   show s+1+_=s+((1+_:Nat):Int)
   unfold sz8
   omega
 ·exact absurd (show (1:Int)=0 from h) (by decide)
theorem st_holds {p:List UInt8} {s:Int} {lens:List Int} (hr:RdOk p s):∀k,(stRun p s lens k).c=0→Holds p s ((stRun p s lens k).ms.flatMap (mbF lens))∧(stRun p s lens k).a=s+((stRun p s lens k).ms.flatMap (mbF lens)).length
 |0,_=>⟨holds_0 hr,by simp [stRun]⟩
 |k+1,h=>by
  have ih:=st_holds (lens:=lens) hr k
  have hrk:=stRun_ok (lens:=lens) hr k
  rw [stRun] at h ⊢
  simp only at h ⊢
  split at h
  ·rename_i hx
   rw [if_pos hx]
   have ih:=ih hx
   split at h
   ·rename_i hb
    rw [if_pos hb]
    have hk:=mb_holds hrk hb
    simp only [List.flatMap_append,List.flatMap_cons,List.flatMap_nil,List.append_nil,List.length_append]
    refine ⟨holds_app ih.1 (by rw [←ih.2];exact hk.1),?_⟩
    have e1:=hk.2
    have e2:=ih.2
    have e3:(mbF lens ((mbS p (stRun p s lens k).a lens).2,(mbS p (stRun p s lens k).a lens).1.bs)).length=(mbbL (mbS p (stRun p s lens k).a lens).2 (mbS p (stRun p s lens k).a lens).1.bs lens).length:=rfl
    omega
   ·rename_i hb;exact absurd h hb
  ·rename_i hx;exact absurd h hx
theorem lnum_lens {v:Int} (h:0≤v∧v<262144):lnum (lensV v)=v:=by
 show ((((_/(32768:Int)%8*8+_/(4096:Int)%8)*8+_/(512:Int)%8)*8+_/(64:Int)%8)*8+_/(8:Int)%8)*8+_/(1:Int)%8=v
 omega
theorem hd_holds {p:List UInt8} (h:(hdS p 0).c=0):Holds p 0 (hdL (hdS p 0).W (hdS p 0).H (hdS p 0).Q (hdS p 0).B (hdS p 0).D (hdS p 0).L)∧(hdS p 0).a=(hdL (hdS p 0).W (hdS p 0).H (hdS p 0).Q (hdS p 0).B (hdS p 0).D (hdS p 0).L).length:=by
 rw [hdL_parts (hdS_good h)]
 have h':=h
 unfold hdS at h
 simp only at h
 have f6:=fbC_0 h
 have g6:=fbC_rb h
 have f5:=fbC_0 f6.1
 have g5:=fbC_rb f6.1
 have f4:=fbC_0 f5.1
 have g4:=fbC_rb f5.1
 have f3:=fuC_0 f4.1
 have g3:=fuC_ue f4.1
 have f2:=fuC_0 f3.1
 have g2:=fuC_ue f3.1
 have f1:=fbC_0 f2.1
 have g1:=fbC_rb f2.1
 have E:hdS p 0=⟨rbA p (rbA p (rbA p (ueA p (ueA p (rbA p 0 8))) 6) 2) 18,0,ueV p (rbA p 0 8),ueV p (ueA p (rbA p 0 8)),rbV p (ueA p (ueA p (rbA p 0 8))) 6,rbV p (rbA p (ueA p (ueA p (rbA p 0 8))) 6) 2,rbV p (rbA p (rbA p (ueA p (ueA p (rbA p 0 8))) 6) 2) 18⟩:=by
  unfold hdS
  simp only
  rw [h,f6.2.2,f5.2.2,f4.2.2,f3.2.2,f2.2.2,g6.2,g5.2,g4.2,g3.2,g2.2,g1.2]
 rw [g5.2,g4.2,g3.2,g2.2,g1.2] at g6
 rw [g4.2,g3.2,g2.2,g1.2] at g5
 rw [g3.2,g2.2,g1.2] at g4
 rw [g2.2,g1.2] at g3
 rw [g1.2] at g2
 unfold HdS.W HdS.H HdS.Q HdS.B HdS.D HdS.L
 rw [if_pos h',if_pos h',if_pos h',if_pos h']
 simp only [h',true_and]
 rw [E]
 simp only
 clear E h h' f6 f5 f4 f3 f2
 have r1:=rb_holds g1.1
 have r2:=ue_holds g2.1
 have r3:=ue_holds g3.1
 have r4:=rb_holds g4.1
 have r5:=rb_holds g5.1
 have r6:=rb_holds g6.1
 clear g1 g2 g3 g4 g5 g6
 have h183:rbV p 0 8=183:=ifE_of (e:=2) (by decide) f1.2.1
 clear f1
 generalize rbA p 0 8=a1 at*
 generalize ueA p a1=a2 at*
 generalize ueA p a2=a3 at*
 generalize rbA p a3 6=a4 at*
 generalize rbA p a4 2=a5 at*
 have b5:=r5.2.2
 have b6:=r6.2.2
 rw [h183] at r1
 generalize ueV p a1=w at*
 generalize ueV p a2=hh at*
 generalize rbV p a3 6=q at*
 generalize rbV p a4 2=f at*
 generalize rbV p a5 18=v at*
 have hf:0≤f∧f≤3:=by
  obtain ⟨_,h0,hz⟩:=b5
  have hz:f/4=0:=hz
  omega
 have hv:0≤v∧v<262144:=by
  obtain ⟨_,h0,hz⟩:=b6
  have hz:v/262144=0:=hz
  omega
 rw [lnum_lens hv,show 8*(w+1)/8-1=w by omega,show 8*(hh+1)/8-1=hh by omega]
 have e2:(2*(bif decide (f≥2) then 1 else 0)+(bif decide (f%2=1) then 1 else 0):Int)=f:=by
  rcases (by omega:f=0∨f=1∨f=2∨f=3) with rfl|rfl|rfl|rfl<;>rfl
 rw [e2]
 have l1:=r1.2.1
 have l2:=r2.2.1
 have l3:=r3.2.1
 have l4:=r4.2.1
 have l5:=r5.2.1
 refine ⟨holds_app r1.1 (holds_app (by rw [←l1];exact r2.1) (holds_app (by rw [←l1,←l2];exact r3.1) (holds_app (by rw [←l1,←l2,←l3];exact r4.1) (holds_app (by rw [←l1,←l2,←l3,←l4];exact r5.1) (by rw [←l1,←l2,←l3,←l4,←l5];exact r6.1))))),?_⟩
 rw [r6.2.1,l5,l4,l3,l2,l1]
 simp only [List.length_append]
 omega
theorem num8 {v:Int} (h:0≤v∧v≤255):numS [v/128%2,v/64%2,v/32%2,v/16%2,v/8%2,v/4%2,v/2%2,v/1%2] 8=v:=by
 show ((((((((0*2+v/128%2)*2+v/64%2)*2+v/32%2)*2+v/16%2)*2+v/8%2)*2+v/4%2)*2+v/2%2)*2+v/1%2)=v
 omega
theorem bt_at {p:List UInt8} {i j:Nat} (hi:i<p.length) (hj:j<8):btA p (((8*i+j:Nat):Int))=((p.getD i 0).toNat:Int)/2 ^ (7-j)%2:=by
 unfold btA
 rw [if_neg (by omega)]
 have e1:(((8*i+j:Nat):Int)/8).toNat=i:=by omega
 have e2:((7:Int)-((8*i+j:Nat):Int)%8).toNat=7-j:=by omega
 rw [e1,e2]
 have hb:(p.getD i 0).toNat<256:=UInt8.toNat_lt _
 have hq:=shr_bd ((p.getD i 0).toNat:Int) (7-j) (by omega)
 exact bit1_eq ⟨hq.1,by omega⟩
theorem str_of {p:List UInt8} {b:List Int} (h:Holds p 0 b) (hl:b.length=8*p.length):strS b=p:=by
 have hs:=strS_len b
 refine List.ext_getElem (by omega) fun i h1 h2=>?_
 have hb:=fun k hk=>h.2.2 k hk
 have e0:(strS b)[i]=UInt8.ofNat (numS ((b.drop (8*i)).take 8) 8).toNat:=by
  have:(strS b)[i]?=some (UInt8.ofNat (numS ((b.drop (8*i)).take 8) 8).toNat):=by
   unfold strS byI
   rw [List.getElem?_map,List.getElem?_map,List.getElem?_range (by omega)];rfl
  rw [List.getElem?_eq_getElem h1] at this
  exact Option.some.inj this
 rw [e0]
 have e:(b.drop (8*i)).take 8=[((p.getD i 0).toNat:Int)/128%2,((p.getD i 0).toNat:Int)/64%2,((p.getD i 0).toNat:Int)/32%2,((p.getD i 0).toNat:Int)/16%2,((p.getD i 0).toNat:Int)/8%2,((p.getD i 0).toNat:Int)/4%2,((p.getD i 0).toNat:Int)/2%2,((p.getD i 0).toNat:Int)/1%2]:=by
  have hg:∀j<8,b.getD (8*i+j) 0=((p.getD i 0).toNat:Int)/2 ^ (7-j)%2:=fun j hj=>by
   have:=hb (8*i+j) (by omega)
   rw [Int.zero_add] at this
   rw [←this,bt_at h2 hj]
  refine List.ext_getElem (by simp;omega) fun j g1 g2=>?_
  have hj:j<8:=by simpa using g2
  have g:=hg j hj
  rw [List.getD_eq_getElem?_getD,List.getElem?_eq_getElem (by omega),Option.getD_some] at g
  rw [List.getElem_take,List.getElem_drop,g]
  rcases (by omega:j=0∨j=1∨j=2∨j=3∨j=4∨j=5∨j=6∨j=7) with rfl|rfl|rfl|rfl|rfl|rfl|rfl|rfl<;>rfl
 rw [e,num8 ⟨by omega,by have:(p.getD i 0).toNat<256:=UInt8.toNat_lt _;omega⟩,Int.toNat_natCast]
 have:p.getD i 0=p[i]:=by rw [List.getD_eq_getElem?_getD,List.getElem?_eq_getElem h2];rfl
 rw [this]
 simp
theorem end_holds {p:List UInt8} {b:List Int} (h:Holds p 0 b) (he:endC p b.length=0):stopS b=p:=by
 have hr:RdOk p b.length:=⟨by omega,by have:=h.2.1;omega⟩
 have hl:=lft_ok hr
 unfold endC at he
 split at he
 ·cases he
 ·rename_i h0
  split at he
  ·rename_i h1
   have h2:=(end_iff hr (by have:=lft_bd p b.length;omega)).1 h1.2
   have hr2:RdOk p ((b.length:Int)+1):=⟨by omega,by have:=lft_bd p b.length;omega⟩
   have hl2:=lft_ok hr2
   have hp:(padN b.length:Int)=lft p b.length-1:=by unfold padN;omega
   have hpl:=padL_len b (padN b.length)
   refine str_of (b:=padL b (padN b.length)) (holds_app (holds_app h ?_) ?_) (by omega)
   ·rw [Int.zero_add]
    exact ⟨by omega,by simp;omega,fun k hk=>by
     have:k=0:=by simpa using hk
     subst this
     simpa using h2.1⟩
   ·rw [Int.zero_add,List.length_append,List.length_singleton]
    refine ⟨by omega,by rw [List.length_replicate];omega,fun k hk=>?_⟩
    rw [List.length_replicate] at hk
    have:=zrs_zero (p:=p) (s:=(b.length:Int)+1) (j:=k) (by omega)
    rw [getD_rep0,←this]
    congr 1
  ·cases he
theorem prS_unp {p:List UInt8} (h:(prS p).c=0):unpS (prS p).W (prS p).H (prS p).Q (prS p).B (prS p).D (prS p).L (prS p).ms=p:=by
 have hg:=prS_good h
 unfold unpS
 rw [if_pos hg]
 clear hg
 by_cases h1:(hdS p 0).c=0
 ·by_cases h2:(stRun p (hdS p 0).a (hdS p 0).L (cntM (hdS p 0).W (hdS p 0).H).toNat).c=0
  ·by_cases h3:endC p (stRun p (hdS p 0).a (hdS p 0).L (cntM (hdS p 0).W (hdS p 0).H).toNat).a=0
   ·rw [prS_4 h1 h2 h3]
    have a1:=hd_holds h1
    have a2:=st_holds (by rw [a1.2];exact ⟨by omega,by have:=a1.1.2.1;omega⟩) _ h2
    unfold stK
    simp only [List.take_length]
    refine end_holds (holds_app a1.1 (by rw [Int.zero_add,←a1.2];exact a2.1)) ?_
    rw [List.length_append,Int.natCast_add,←a1.2,←a2.2]
    exact h3
   ·rw [prS_3 h1 h2 h3] at h;exact absurd h h3
  ·rw [prS_2 h1 h2] at h;exact absurd h h2
 ·rw [prS_1 h1] at h;exact absurd h h1
end Go.Proofs.YtndflfipaddfoaaGreat


namespace Go.Proofs.YtndflfipaddfoaaGreat
open Go Go.Abs
def part (f:Nat→Int) (N j:Nat) (v:Int):List Int:=(List.range N).map fun q=>if q<j then f q else if q=j then v else 0
def tabL (f:Nat→Int) (N:Nat):List Int:=(List.range N).map f
theorem part_len (f:Nat→Int) (N j:Nat) (v:Int):(part f N j v).length=N:=by simp [part]
theorem tabL_len (f:Nat→Int) (N:Nat):(tabL f N).length=N:=by simp [tabL]
theorem map_getD {f:Nat→Int} {N j:Nat} (h:j<N):((List.range N).map f).getD j 0=f j:=by
 simp only [List.getD_eq_getElem?_getD,List.getElem?_map,List.getElem?_range h,Option.map_some,Option.getD_some]
theorem part_get {f:Nat→Int} {N j:Nat} {v:Int} (h:j<N):(part f N j v).getD j 0=v:=by
 unfold part;rw [map_getD h,if_neg (by omega),if_pos rfl]
theorem tabL_get {f:Nat→Int} {N j:Nat} (h:j<N):(tabL f N).getD j 0=f j:=map_getD h
theorem list_ext {xs ys:List Int} {N:Nat} (h1:xs.length=N) (h2:ys.length=N) (h:∀j,j<N→xs.getD j 0=ys.getD j 0):xs=ys:=
 eq_all 0 (by omega) (fun j hj=>h j (by omega))
theorem getD_set2 {c:List Int} {i j:Nat} {v:Int} (h:i<c.length):(c.set i v).getD j 0=if j=i then v else c.getD j 0:=by
 rw [List.getD_eq_getElem?_getD,List.getElem?_set]
 by_cases e:i=j
 ·subst e;simp [h]
 ·have:¬j=i:=fun h=>e h.symm
  simp [e,this]
theorem part_set {f:Nat→Int} {N j:Nat} {v u:Int} (h:j<N):(part f N j v).set j u=part f N j u:=by
 refine list_ext (N:=N) (by simp [part]) (part_len _ _ _ _) fun q hq=>?_
 rw [getD_set2 (by rw [part_len];exact h)]
 unfold part
 rw [map_getD hq,map_getD hq]
 by_cases e:q=j
 ·rw [if_pos e,if_neg (by omega),if_pos e]
 ·rw [if_neg e,if_neg e,if_neg e]
theorem part_next {f:Nat→Int} {N j:Nat} {v:Int} (h:v=f j):part f N j v=part f N (j+1) 0:=by
 refine list_ext (N:=N) (part_len _ _ _ _) (part_len _ _ _ _) fun q hq=>?_
 unfold part
 rw [map_getD hq,map_getD hq]
 by_cases e:q<j
 ·rw [if_pos e,if_pos (by omega)]
 ·by_cases e2:q=j
  ·rw [if_neg e,if_pos e2,if_pos (by omega),h,e2]
  ·rw [if_neg e,if_neg e2,if_neg (by omega)];split<;>rfl
theorem part_zero (f:Nat→Int) (N:Nat):part f N 0 0=List.replicate N 0:=by
 refine list_ext (N:=N) (part_len _ _ _ _) (by simp) fun q hq=>?_
 unfold part
 rw [map_getD hq,if_neg (by omega)]
 simp [hq]
theorem part_all (f:Nat→Int) (N:Nat) (v:Int):part f N N v=tabL f N:=by
 refine list_ext (N:=N) (part_len _ _ _ _) (tabL_len _ _) fun q hq=>?_
 unfold part
 rw [map_getD hq,tabL_get hq,if_pos hq]
def sumF (f:Nat→Int):Nat→Int
 |0=>0
 |k+1=>sumF f k+f k
theorem sumF_bd {f:Nat→Int} {c:Int} (hc:0≤c):∀k,(∀ i,i<k→-c≤f i∧f i≤c)→-(k*c)≤sumF f k∧sumF f k≤k*c
 |0,h=>by simp [sumF]
 |k+1,h=>by
  have h1:=sumF_bd hc k (fun i hi=>h i (by omega))
  have h2:=h k (by omega)
  have e:((k+1:Nat):Int)*c=k*c+c:=by rw [Int.natCast_add,Int.add_mul];simp
  rw [sumF,e];omega
theorem mul2 {a b c:Int} (ha:a=-2∨a=-1∨a=0∨a=1∨a=2) (hb:-c≤b∧b≤c) (hc:0≤c):-(2*c)≤a*b∧a*b≤2*c:=by
 rcases ha with rfl|rfl|rfl|rfl|rfl<;>omega
def A4:List (List Int):=[[1,1,1,1],[2,1,-1,-2],[1,-1,-1,1],[1,-2,2,-1]]
def par (b:Nat):Int:=if (b%2+b/2%2+b/4%2)%2=0 then 1 else -1
def mx (n r i:Nat):Int:=if n=4 then (A4.getD r []).getD i 0 else par (r &&& i)
theorem mx_val (n r i:Nat):mx n r i=-2∨mx n r i=-1∨mx n r i=0∨mx n r i=1∨mx n r i=2:=by
 unfold mx
 split
 ·rcases Nat.lt_or_ge r 4 with h|h
  ·rcases Nat.lt_or_ge i 4 with h2|h2
   ·have key:∀r i:Fin 4,(A4.getD r.val []).getD i.val 0=-2∨(A4.getD r.val []).getD i.val 0=-1∨(A4.getD r.val []).getD i.val 0=0∨(A4.getD r.val []).getD i.val 0=1∨(A4.getD r.val []).getD i.val 0=2:=by decide
    exact key ⟨r,h⟩ ⟨i,h2⟩
   ·have key:∀r:Fin 4,(A4.getD r.val []).length=4:=by decide
    have:=key ⟨r,h⟩
    right;right;left
    rw [List.getD_eq_getElem?_getD,List.getElem?_eq_none (by simp only at this;omega)];rfl
  ·right;right;left
   have:A4.getD r []=[]:=by rw [List.getD_eq_getElem?_getD,List.getElem?_eq_none (by show 4≤r;exact h)];rfl
   rw [this];rfl
 ·unfold par;split<;>omega
theorem andw (p q:Nat) (h:p<2 ^ 62) (h2:q<2 ^ 62):IntKind.i64.wrap ((BitVec.ofInt IntKind.i64.bits (p:Int) &&& BitVec.ofInt IntKind.i64.bits (q:Int)).toNat:Nat)=((p &&& q:Nat):Int):=by
 have e1:(BitVec.ofInt IntKind.i64.bits (p:Int)).toNat=p:=by simp only [IntKind.bits,BitVec.toNat_ofInt];omega
 have e2:(BitVec.ofInt IntKind.i64.bits (q:Int)).toNat=q:=by simp only [IntKind.bits,BitVec.toNat_ofInt];omega
 rw [BitVec.toNat_and,e1,e2]
 have:=Nat.and_le_left (n:=p) (m:=q)
 exact wrap64 _ (by omega)
def mg (n:Nat) (back:Bool) (r i:Nat):Int:=if back then mx n i r else mx n r i
def halfM (n:Nat) (g:Nat→Nat→Int) (l:List Int) (r k:Nat):Int:=sumF (fun i=>g r i*l.getD (i*n+k) 0) n
def fullM (n:Nat) (g:Nat→Nat→Int) (l:List Int) (r k:Nat):Int:=sumF (fun i=>halfM n g l r i*g k i) n
def mulM (n:Nat) (g:Nat→Nat→Int) (l:List Int):List Int:=tabL (fun q=>fullM n g l (q/n) (q%n)) (n*n)
theorem in_getZ {l:List Int} {c:Int} (h:In l (-c) c) (hc:0≤c) (k:Nat):-c≤l.getD k 0∧l.getD k 0≤c:=by
 rcases Nat.lt_or_ge k l.length with h1|h1
 ·exact in_get h h1
 ·rw [List.getD_eq_getElem?_getD,List.getElem?_eq_none h1,Option.getD_none];omega
theorem half_bd {n:Nat} {g:Nat→Nat→Int} {l:List Int} {c:Int} (hg:∀r i,g r i=-2∨g r i=-1∨g r i=0∨g r i=1∨g r i=2) (h:In l (-c) c) (hc:0≤c) (r k i:Nat):
 -(i*(2*c))≤sumF (fun i=>g r i*l.getD (i*n+k) 0) i∧sumF (fun i=>g r i*l.getD (i*n+k) 0) i≤i*(2*c):=
 sumF_bd (by omega) i fun j _=>mul2 (hg r j) (in_getZ h hc _) hc
end Go.Proofs.YtndflfipaddfoaaGreat


namespace Go.Proofs.YtndflfipaddfoaaGreat
open Go Go.Abs
attribute [local irreducible] WpA WpL Rnd Blk Abs.Seq Abs.Fin Abs.FinG FnC FnG Only
theorem tabL_snoc (f:Nat→Int) (k:Nat):tabL f (k+1)=tabL f k++[f k]:=by simp [tabL,List.range_succ]
def H8:List (List Int):=(List.range 8).map fun r=>tabL (mx 8 r) 8
instance matrixA_c:Con 288 (Fn 288 [] [⟨rows liF A4,0,1,some 22⟩] (.own 0 0 0 4)):=⟨by
 refine FnC.of_body tabOk Tryz.func288 Tryz.ntmps288 rfl (by decide +kernel) (by simp) fun G=>?_
 refine go (r:=?_);and_intros<;>intros<;>try exact True.intro
 all_goals rfl⟩
end Go.Proofs.YtndflfipaddfoaaGreat


namespace Go.Proofs.YtndflfipaddfoaaGreat
open Go Go.Abs
attribute [local irreducible] WpA WpL Rnd Blk Abs.Seq Abs.Fin Abs.FinG FnC FnG Only
abbrev fh (n:Nat) (g:Nat→Nat→Int) (l:List Int) (q:Nat):Int:=halfM n g l (q/n) (q%n)
abbrev fo (n:Nat) (g:Nat→Nat→Int) (l:List Int) (q:Nat):Int:=fullM n g l (q/n) (q%n)
abbrev sh (n:Nat) (g:Nat→Nat→Int) (l:List Int) (r k i:Nat):Int:=sumF (fun i=>g r i*l.getD (i*n+k) 0) i
abbrev so (n:Nat) (g:Nat→Nat→Int) (l:List Int) (r k i:Nat):Int:=sumF (fun i=>halfM n g l r i*g k i) i
theorem divmod {n r k:Nat} (h:k<n):(r*n+k)/n=r∧(r*n+k)%n=k:=by
 have hn:0<n:=by omega
 constructor
 ·rw [Nat.mul_comm,Nat.mul_add_div hn,Nat.div_eq_of_lt h,Nat.add_zero]
 ·rw [Nat.mul_comm,Nat.mul_add_mod,Nat.mod_eq_of_lt h]
theorem mul_huge {a b:Int} (h:-17000000000≤a∧a≤17000000000) (h2:b=-2∨b=-1∨b=0∨b=1∨b=2):-34000000000≤a*b∧a*b≤34000000000:=by
 rcases h2 with rfl|rfl|rfl|rfl|rfl<;>omega
abbrev Sgn (g:Nat→Nat→Int):Prop:=∀r i,g r i=-2∨g r i=-1∨g r i=0∨g r i=1∨g r i=2
theorem half_in {n:Nat} {g:Nat→Nat→Int} {l:List Int} (hg:Sgn g) (hl:In l (-1000000000) 1000000000) (hn:n≤8) (r k:Nat):-17000000000≤halfM n g l r k∧halfM n g l r k≤17000000000:=by
 have:=half_bd (n:=n) (g:=g) (l:=l) (c:=1000000000) hg hl (by omega) r k n
 unfold halfM;omega
theorem so_bd {n:Nat} {g:Nat→Nat→Int} {l:List Int} (hg:Sgn g) (hl:In l (-1000000000) 1000000000) (hn:n≤8) (r k i:Nat):-(i*34000000000)≤so n g l r k i∧so n g l r k i≤i*34000000000:=
 sumF_bd (by omega) i fun j _=>mul_huge (half_in hg hl hn r j) (hg k j)
abbrev RowsOk (n:Nat) (g:Nat→Nat→Int) (M:List (List Int)):Prop:=M.length=n∧(∀ r,r<n→(M.getD r default).length=n)∧∀r i,r<n→i<n→(M.getD r default).getD i 0=g r i
def prodL (n:Nat) (g:Nat→Nat→Int) (l:List Int):List Int:=if l.length=n*n∧In l (-1000000000) 1000000000 then mulM n g l else []
theorem prodL_len (n:Nat) (g:Nat→Nat→Int) (l:List Int):(prodL n g l).length=if l.length=n*n∧In l (-1000000000) 1000000000 then n*n else 0:=by
 unfold prodL;split
 ·exact tabL_len _ _
 ·rfl
abbrev LLn (n:Nat) (M:List (List Int)):AV:=.imm 1 n (rows liI M)
theorem product_4 (g:Nat→Nat→Int) (M:List (List Int)) (l:List Int) (hg:Sgn g) (hM:RowsOk 4 g M) (hl:l.length≤1099511627776):Fn 286 [LLn 4 M,IL l] [XI (prodL 4 g l)] (.own 0 0 0 (prodL 4 g l).length):=by
 obtain ⟨hM1,hM2,hM3⟩:=hM
 have hpl:=prodL_len 4 g l
 by_cases h:l.length=16∧In l (-1000000000) 1000000000
 ·obtain ⟨h1,h2⟩:=id h
  have e:prodL 4 g l=tabL (fo 4 g l) 16:=by rw [prodL,if_pos h];rfl
  refine FnC.of_body tabOk Tryz.func286 Tryz.ntmps286 rfl (by decide +kernel) (by simp) fun G=>?_
  refine goR (r:=?_);and_intros<;>intros<;>try exact True.intro
  all_goals first|(exfalso;omega)|(exact absurd h2 (by assumption))|skip
  apply WpA.regionQ0 (O1:=[XD (List.replicate 16 0),XD (List.replicate 16 0),deadO,deadO]) 9 2 mixed (by decide +kernel)
  ·exact rfl
  ·apply HeadQ.consF .none rfl
   ·exact rfl
   ·exact in1
   ·exact rfl
   ·exact rfl
   apply HeadQ.consF .none rfl
   ·exact rfl
   ·exact in1
   ·exact rfl
   ·exact rfl
   apply HeadQ.consF .none rfl
   ·exact rfl
   ·exact in1
   ·exact rfl
   ·exact rfl
   apply HeadQ.consF (V:=.own 0 1 0 16) (.put 0 (XD (List.replicate 16 0))) rfl
   ·exact rfl
   ·intro Tv Ov hc hp hd hk
    refine WpL.makeInts tabOk rfl rfl rfl (by decide) (by decide) (by rw [nid_len,Nat.zero_add]) (by decide) ?_
    apply WpL.putNil (p:=0)
    ·exact hp 0 _ rfl
    ·exact Nat.zero_le _
    ·exact rfl
    ·first|exact still_ints _|exact still_rows (fun _=>rfl) _|rfl
   ·exact rfl
   ·exact rfl
   apply HeadQ.consF .none rfl
   ·exact rfl
   ·exact in1
   ·exact rfl
   ·exact rfl
   apply HeadQ.consF .none rfl
   ·exact rfl
   ·exact in1
   ·exact rfl
   ·exact rfl
   apply HeadQ.consF .none rfl
   ·exact rfl
   ·exact in1
   ·exact rfl
   ·exact rfl
   apply HeadQ.consF (V:=.own 1 1 0 16) (.put 1 (XD (List.replicate 16 0))) rfl
   ·exact rfl
   ·intro Tv Ov hc hp hd hk
    refine WpL.makeInts tabOk rfl rfl rfl (by decide) (by decide) (by rw [nid_len,Nat.zero_add]) (by decide) ?_
    apply WpL.putNil (p:=1)
    ·exact hp 1 _ rfl
    ·exact Nat.zero_le _
    ·exact rfl
    ·first|exact still_ints _|exact still_rows (fun _=>rfl) _|rfl
   ·exact rfl
   ·exact rfl
   apply HeadQ.consF .none rfl
   ·exact rfl
   ·exact in1
   ·exact rfl
   ·exact rfl
   exact HeadQ.nil
  ·exact rfl
  ·exact rfl
  ·exact rfl
  ·exact rfl
  ·exact rfl
  ·exact rfl
  refine go (r:=?_);and_intros<;>intros<;>try exact True.intro
  refine WpA.loop (fun r:Nat=>⟨[(0,LLn 4 M),(1,IL l),(5,I 4),(6,.own 0 1 0 16),(7,.own 1 1 0 16),(35,I 4),(36,I r)],[XD (part (fh 4 g l) 16 (r*4) 0),XD (List.replicate 16 0)]⟩) (fun r=>r≤4) (fun r=>4-r) 0 (by omega) (go (r:=?_)) (fun r hr=>?_)
  ·simp [part_zero]
  have hpl1:=part_len (fh 4 g l) 16 (r*4) 0
  refine go (r:=?_);and_intros<;>intros<;>try exact True.intro
  ·refine WpA.loop (fun k:Nat=>⟨[(0,LLn 4 M),(1,IL l),(5,I 4),(6,.own 0 1 0 16),(7,.own 1 1 0 16),(8,I r),(35,I 4),(36,I r),(39,I 4),(40,I k)],[XD (part (fh 4 g l) 16 (r*4+k) 0),XD (List.replicate 16 0)]⟩) (fun k=>k≤4) (fun k=>4-k) 0 (by omega) (go (r:=?_)) (fun k hk=>?_)
   ·trivial
   have hpl2:=part_len (fh 4 g l) 16 (r*4+k) 0
   refine go (r:=?_);and_intros<;>intros<;>try exact True.intro
   ·refine WpA.loop (fun i:Nat=>⟨[(0,LLn 4 M),(1,IL l),(5,I 4),(6,.own 0 1 0 16),(7,.own 1 1 0 16),(8,I r),(9,I k),(35,I 4),(36,I r),(39,I 4),(40,I k),(43,I 4),(44,I i)],[XD (part (fh 4 g l) 16 (r*4+k) (sh 4 g l r k i)),XD (List.replicate 16 0)]⟩) (fun i=>i≤4) (fun i=>4-i) 0 (by omega) (go (r:=?_)) (fun i hi=>?_)
    ·simp [sumF]
    have hpl3:=part_len (fh 4 g l) 16 (r*4+k) (sh 4 g l r k i)
    have hM2r:=hM2 r
    have hsb:-((i:Int)*(2*1000000000))≤sh 4 g l r k i∧sh 4 g l r k i≤(i:Int)*(2*1000000000):=half_bd (n:=4) (g:=g) (l:=l) (c:=1000000000) hg h2 (by omega) r k i
    have hdm:=divmod (n:=4) (r:=r) (k:=k)
    have hgl:=in_getZ h2 (by decide) (i*4+k)
    have hgg:=mul2 (hg r i) hgl (by decide)
    have hst:sh 4 g l r k (i+1)=sh 4 g l r k i+g r i*l.getD (i*4+k) 0:=rfl
    refine go (r:=?_);and_intros<;>intros<;>try exact True.intro
    ·rename_i hi1
     have hr1:r<4:=by omega
     have hk1:k<4:=by omega
     have e1:((r:Int)*4+k).toNat=r*4+k:=by omega
     have e2:((i:Int)*4+k).toNat=i*4+k:=by omega
     have e3:(M.getD r default).getD i 0=g r i:=hM3 r i hr1 (by omega)
     rw [e1,e2,e3,part_get (by omega),part_set (by omega),wrap64 (g r i*l.getD (i*4+k) 0) (by omega),wrap64 _ (by omega),hst]
    ·have hi1:i=4:=by omega
     subst hi1
     rw [←Nat.add_assoc];exact part_next (by show sh 4 g l r k 4=halfM 4 g l ((r*4+k)/4) ((r*4+k)%4);rw [(hdm (by omega)).1,(hdm (by omega)).2];rfl)
   ·have hk1:k=4:=by omega
    rw [hk1,Nat.succ_mul]
  have hr1:r=4:=by omega
  subst hr1
  have ep:part (fh 4 g l) 16 (4*4) 0=tabL (fh 4 g l) 16:=part_all _ _ _
  rw [ep]
  have hplh:=tabL_len (fh 4 g l) 16
  refine WpA.loop (fun r:Nat=>⟨[(0,LLn 4 M),(5,I 4),(6,.own 0 1 0 16),(7,.own 1 1 0 16),(76,I 4),(77,I r)],[XD (tabL (fh 4 g l) 16),XD (part (fo 4 g l) 16 (r*4) 0)]⟩) (fun r=>r≤4) (fun r=>4-r) 0 (by omega) (go (r:=?_)) (fun r hr=>?_)
  ·simp [part_zero]
  have hpl1:=part_len (fo 4 g l) 16 (r*4) 0
  refine go (r:=?_);and_intros<;>intros<;>try exact True.intro
  ·refine WpA.loop (fun k:Nat=>⟨[(0,LLn 4 M),(5,I 4),(6,.own 0 1 0 16),(7,.own 1 1 0 16),(11,I r),(76,I 4),(77,I r),(80,I 4),(81,I k)],[XD (tabL (fh 4 g l) 16),XD (part (fo 4 g l) 16 (r*4+k) 0)]⟩) (fun k=>k≤4) (fun k=>4-k) 0 (by omega) (go (r:=?_)) (fun k hk=>?_)
   ·trivial
   have hpl2:=part_len (fo 4 g l) 16 (r*4+k) 0
   refine go (r:=?_);and_intros<;>intros<;>try exact True.intro
   ·refine WpA.loop (fun i:Nat=>⟨[(0,LLn 4 M),(5,I 4),(6,.own 0 1 0 16),(7,.own 1 1 0 16),(11,I r),(12,I k),(76,I 4),(77,I r),(80,I 4),(81,I k),(84,I 4),(85,I i)],[XD (tabL (fh 4 g l) 16),XD (part (fo 4 g l) 16 (r*4+k) (so 4 g l r k i))]⟩) (fun i=>i≤4) (fun i=>4-i) 0 (by omega) (go (r:=?_)) (fun i hi=>?_)
    ·simp [sumF]
    have hpl3:=part_len (fo 4 g l) 16 (r*4+k) (so 4 g l r k i)
    have hM2r:=hM2 k
    have hsb:=so_bd (n:=4) hg h2 (by omega) r k i
    have hdm:=divmod (n:=4) (r:=r) (k:=k)
    have hdi:=divmod (n:=4) (r:=r) (k:=i)
    have hgl:=half_in (n:=4) hg h2 (by omega) r i
    have hgg:=mul_huge hgl (hg k i)
    have hst:so 4 g l r k (i+1)=so 4 g l r k i+halfM 4 g l r i*g k i:=rfl
    refine go (r:=?_);and_intros<;>intros<;>try exact True.intro
    ·rename_i hi1
     have hr1:r<4:=by omega
     have hk1:k<4:=by omega
     have e1:((r:Int)*4+k).toNat=r*4+k:=by omega
     have e2:((r:Int)*4+i).toNat=r*4+i:=by omega
     have e3:(M.getD k default).getD i 0=g k i:=hM3 k i hk1 (by omega)
     have e4:(tabL (fh 4 g l) 16).getD (r*4+i) 0=halfM 4 g l r i:=by rw [tabL_get (by omega)];show halfM 4 g l ((r*4+i)/4) ((r*4+i)%4)=_;rw [(hdi (by omega)).1,(hdi (by omega)).2]
     rw [e1,e2,e3,e4,part_get (by omega),part_set (by omega),wrap64 (halfM 4 g l r i*g k i) (by omega),wrap64 _ (by omega),hst]
    ·have hi1:i=4:=by omega
     subst hi1
     rw [←Nat.add_assoc];exact part_next (by show so 4 g l r k 4=fullM 4 g l ((r*4+k)/4) ((r*4+k)%4);rw [(hdm (by omega)).1,(hdm (by omega)).2];rfl)
   ·have hk1:k=4:=by omega
    rw [hk1,Nat.succ_mul]
  all_goals have hr1:r=4:=by omega
  all_goals subst hr1
  all_goals first|(rw [e,tabL_len];done)|(rw [e];exact congrArg _ (part_all _ _ _))|(rw [e];exact part_all _ _ _)
 ·have e:prodL 4 g l=[]:=by rw [prodL,if_neg h]
  refine FnC.of_body tabOk Tryz.func286 Tryz.ntmps286 rfl (by decide +kernel) (by simp) fun G=>?_
  refine goR (r:=?_);and_intros<;>intros<;>try exact True.intro
  all_goals first|(rw [e];done)|(rw [e];rfl)|(exact absurd ⟨by omega,by assumption⟩ h)
theorem product_8 (g:Nat→Nat→Int) (M:List (List Int)) (l:List Int) (hg:Sgn g) (hM:RowsOk 8 g M) (hl:l.length≤1099511627776):Fn 286 [LLn 8 M,IL l] [XI (prodL 8 g l)] (.own 0 0 0 (prodL 8 g l).length):=by
 obtain ⟨hM1,hM2,hM3⟩:=hM
 have hpl:=prodL_len 8 g l
 by_cases h:l.length=64∧In l (-1000000000) 1000000000
 ·obtain ⟨h1,h2⟩:=id h
  have e:prodL 8 g l=tabL (fo 8 g l) 64:=by rw [prodL,if_pos h];rfl
  refine FnC.of_body tabOk Tryz.func286 Tryz.ntmps286 rfl (by decide +kernel) (by simp) fun G=>?_
  refine goR (r:=?_);and_intros<;>intros<;>try exact True.intro
  all_goals first|(exfalso;omega)|(exact absurd h2 (by assumption))|skip
  apply WpA.regionQ0 (O1:=[XD (List.replicate 64 0),XD (List.replicate 64 0),deadO,deadO]) 9 2 mixed (by decide +kernel)
  ·exact rfl
  ·apply HeadQ.consF .none rfl
   ·exact rfl
   ·exact in1
   ·exact rfl
   ·exact rfl
   apply HeadQ.consF .none rfl
   ·exact rfl
   ·exact in1
   ·exact rfl
   ·exact rfl
   apply HeadQ.consF .none rfl
   ·exact rfl
   ·exact in1
   ·exact rfl
   ·exact rfl
   apply HeadQ.consF (V:=.own 0 1 0 64) (.put 0 (XD (List.replicate 64 0))) rfl
   ·exact rfl
   ·intro Tv Ov hc hp hd hk
    refine WpL.makeInts tabOk rfl rfl rfl (by decide) (by decide) (by rw [nid_len,Nat.zero_add]) (by decide) ?_
    apply WpL.putNil (p:=0)
    ·exact hp 0 _ rfl
    ·exact Nat.zero_le _
    ·exact rfl
    ·first|exact still_ints _|exact still_rows (fun _=>rfl) _|rfl
   ·exact rfl
   ·exact rfl
   apply HeadQ.consF .none rfl
   ·exact rfl
   ·exact in1
   ·exact rfl
   ·exact rfl
   apply HeadQ.consF .none rfl
   ·exact rfl
   ·exact in1
   ·exact rfl
   ·exact rfl
   apply HeadQ.consF .none rfl
   ·exact rfl
   ·exact in1
   ·exact rfl
   ·exact rfl
   apply HeadQ.consF (V:=.own 1 1 0 64) (.put 1 (XD (List.replicate 64 0))) rfl
   ·exact rfl
   ·intro Tv Ov hc hp hd hk
    refine WpL.makeInts tabOk rfl rfl rfl (by decide) (by decide) (by rw [nid_len,Nat.zero_add]) (by decide) ?_
    apply WpL.putNil (p:=1)
    ·exact hp 1 _ rfl
    ·exact Nat.zero_le _
    ·exact rfl
    ·first|exact still_ints _|exact still_rows (fun _=>rfl) _|rfl
   ·exact rfl
   ·exact rfl
   apply HeadQ.consF .none rfl
   ·exact rfl
   ·exact in1
   ·exact rfl
   ·exact rfl
   exact HeadQ.nil
  ·exact rfl
  ·exact rfl
  ·exact rfl
  ·exact rfl
  ·exact rfl
  ·exact rfl
  refine go (r:=?_);and_intros<;>intros<;>try exact True.intro
  refine WpA.loop (fun r:Nat=>⟨[(0,LLn 8 M),(1,IL l),(5,I 8),(6,.own 0 1 0 64),(7,.own 1 1 0 64),(35,I 8),(36,I r)],[XD (part (fh 8 g l) 64 (r*8) 0),XD (List.replicate 64 0)]⟩) (fun r=>r≤8) (fun r=>8-r) 0 (by omega) (go (r:=?_)) (fun r hr=>?_)
  ·simp [part_zero]
  have hpl1:=part_len (fh 8 g l) 64 (r*8) 0
  refine go (r:=?_);and_intros<;>intros<;>try exact True.intro
  ·refine WpA.loop (fun k:Nat=>⟨[(0,LLn 8 M),(1,IL l),(5,I 8),(6,.own 0 1 0 64),(7,.own 1 1 0 64),(8,I r),(35,I 8),(36,I r),(39,I 8),(40,I k)],[XD (part (fh 8 g l) 64 (r*8+k) 0),XD (List.replicate 64 0)]⟩) (fun k=>k≤8) (fun k=>8-k) 0 (by omega) (go (r:=?_)) (fun k hk=>?_)
   ·trivial
   have hpl2:=part_len (fh 8 g l) 64 (r*8+k) 0
   refine go (r:=?_);and_intros<;>intros<;>try exact True.intro
   ·refine WpA.loop (fun i:Nat=>⟨[(0,LLn 8 M),(1,IL l),(5,I 8),(6,.own 0 1 0 64),(7,.own 1 1 0 64),(8,I r),(9,I k),(35,I 8),(36,I r),(39,I 8),(40,I k),(43,I 8),(44,I i)],[XD (part (fh 8 g l) 64 (r*8+k) (sh 8 g l r k i)),XD (List.replicate 64 0)]⟩) (fun i=>i≤8) (fun i=>8-i) 0 (by omega) (go (r:=?_)) (fun i hi=>?_)
    ·simp [sumF]
    have hpl3:=part_len (fh 8 g l) 64 (r*8+k) (sh 8 g l r k i)
    have hM2r:=hM2 r
    have hsb:-((i:Int)*(2*1000000000))≤sh 8 g l r k i∧sh 8 g l r k i≤(i:Int)*(2*1000000000):=half_bd (n:=8) (g:=g) (l:=l) (c:=1000000000) hg h2 (by omega) r k i
    have hdm:=divmod (n:=8) (r:=r) (k:=k)
    have hgl:=in_getZ h2 (by decide) (i*8+k)
    have hgg:=mul2 (hg r i) hgl (by decide)
    have hst:sh 8 g l r k (i+1)=sh 8 g l r k i+g r i*l.getD (i*8+k) 0:=rfl
    refine go (r:=?_);and_intros<;>intros<;>try exact True.intro
    ·rename_i hi1
     have hr1:r<8:=by omega
     have hk1:k<8:=by omega
     have e1:((r:Int)*8+k).toNat=r*8+k:=by omega
     have e2:((i:Int)*8+k).toNat=i*8+k:=by omega
     have e3:(M.getD r default).getD i 0=g r i:=hM3 r i hr1 (by omega)
     rw [e1,e2,e3,part_get (by omega),part_set (by omega),wrap64 (g r i*l.getD (i*8+k) 0) (by omega),wrap64 _ (by omega),hst]
    ·have hi1:i=8:=by omega
     subst hi1
     rw [←Nat.add_assoc];exact part_next (by show sh 8 g l r k 8=halfM 8 g l ((r*8+k)/8) ((r*8+k)%8);rw [(hdm (by omega)).1,(hdm (by omega)).2];rfl)
   ·have hk1:k=8:=by omega
    rw [hk1,Nat.succ_mul]
  have hr1:r=8:=by omega
  subst hr1
  have ep:part (fh 8 g l) 64 (8*8) 0=tabL (fh 8 g l) 64:=part_all _ _ _
  rw [ep]
  have hplh:=tabL_len (fh 8 g l) 64
  refine WpA.loop (fun r:Nat=>⟨[(0,LLn 8 M),(5,I 8),(6,.own 0 1 0 64),(7,.own 1 1 0 64),(76,I 8),(77,I r)],[XD (tabL (fh 8 g l) 64),XD (part (fo 8 g l) 64 (r*8) 0)]⟩) (fun r=>r≤8) (fun r=>8-r) 0 (by omega) (go (r:=?_)) (fun r hr=>?_)
  ·simp [part_zero]
  have hpl1:=part_len (fo 8 g l) 64 (r*8) 0
  refine go (r:=?_);and_intros<;>intros<;>try exact True.intro
  ·refine WpA.loop (fun k:Nat=>⟨[(0,LLn 8 M),(5,I 8),(6,.own 0 1 0 64),(7,.own 1 1 0 64),(11,I r),(76,I 8),(77,I r),(80,I 8),(81,I k)],[XD (tabL (fh 8 g l) 64),XD (part (fo 8 g l) 64 (r*8+k) 0)]⟩) (fun k=>k≤8) (fun k=>8-k) 0 (by omega) (go (r:=?_)) (fun k hk=>?_)
   ·trivial
   have hpl2:=part_len (fo 8 g l) 64 (r*8+k) 0
   refine go (r:=?_);and_intros<;>intros<;>try exact True.intro
   ·refine WpA.loop (fun i:Nat=>⟨[(0,LLn 8 M),(5,I 8),(6,.own 0 1 0 64),(7,.own 1 1 0 64),(11,I r),(12,I k),(76,I 8),(77,I r),(80,I 8),(81,I k),(84,I 8),(85,I i)],[XD (tabL (fh 8 g l) 64),XD (part (fo 8 g l) 64 (r*8+k) (so 8 g l r k i))]⟩) (fun i=>i≤8) (fun i=>8-i) 0 (by omega) (go (r:=?_)) (fun i hi=>?_)
    ·simp [sumF]
    have hpl3:=part_len (fo 8 g l) 64 (r*8+k) (so 8 g l r k i)
    have hM2r:=hM2 k
    have hsb:=so_bd (n:=8) hg h2 (by omega) r k i
    have hdm:=divmod (n:=8) (r:=r) (k:=k)
    have hdi:=divmod (n:=8) (r:=r) (k:=i)
    have hgl:=half_in (n:=8) hg h2 (by omega) r i
    have hgg:=mul_huge hgl (hg k i)
    have hst:so 8 g l r k (i+1)=so 8 g l r k i+halfM 8 g l r i*g k i:=rfl
    refine go (r:=?_);and_intros<;>intros<;>try exact True.intro
    ·rename_i hi1
     have hr1:r<8:=by omega
     have hk1:k<8:=by omega
     have e1:((r:Int)*8+k).toNat=r*8+k:=by omega
     have e2:((r:Int)*8+i).toNat=r*8+i:=by omega
     have e3:(M.getD k default).getD i 0=g k i:=hM3 k i hk1 (by omega)
     have e4:(tabL (fh 8 g l) 64).getD (r*8+i) 0=halfM 8 g l r i:=by rw [tabL_get (by omega)];show halfM 8 g l ((r*8+i)/8) ((r*8+i)%8)=_;rw [(hdi (by omega)).1,(hdi (by omega)).2]
     rw [e1,e2,e3,e4,part_get (by omega),part_set (by omega),wrap64 (halfM 8 g l r i*g k i) (by omega),wrap64 _ (by omega),hst]
    ·have hi1:i=8:=by omega
     subst hi1
     rw [←Nat.add_assoc];exact part_next (by show so 8 g l r k 8=fullM 8 g l ((r*8+k)/8) ((r*8+k)%8);rw [(hdm (by omega)).1,(hdm (by omega)).2];rfl)
   ·have hk1:k=8:=by omega
    rw [hk1,Nat.succ_mul]
  all_goals have hr1:r=8:=by omega
  all_goals subst hr1
  all_goals first|(rw [e,tabL_len];done)|(rw [e];exact congrArg _ (part_all _ _ _))|(rw [e];exact part_all _ _ _)
 ·have e:prodL 8 g l=[]:=by rw [prodL,if_neg h]
  refine FnC.of_body tabOk Tryz.func286 Tryz.ntmps286 rfl (by decide +kernel) (by simp) fun G=>?_
  refine goR (r:=?_);and_intros<;>intros<;>try exact True.intro
  all_goals first|(rw [e];done)|(rw [e];rfl)|(exact absurd ⟨by omega,by assumption⟩ h)
end Go.Proofs.YtndflfipaddfoaaGreat


namespace Go.Proofs.YtndflfipaddfoaaGreat
open Go Go.Abs
attribute [local irreducible] WpA WpL Rnd Blk Abs.Seq Abs.Fin Abs.FinG FnC FnG Only RollN
def ocF (x:Int):Int:=if x=1∨x=2∨x=4 then 1 else if x=3∨x=5∨x=6 then 2 else if x=7 then 3 else 0
instance OnesCount64_c:Con 316 (∀ x:Int,0≤x∧x<8→Fn 316 [.sc (.int .u64 x)] [] (I (ocF x))):=⟨fun x hx=>by
 rcases (by omega:x=0∨x=1∨x=2∨x=3∨x=4∨x=5∨x=6∨x=7) with rfl|rfl|rfl|rfl|rfl|rfl|rfl|rfl
 all_goals refine FnC.of_body tabOk Tryz.func316 Tryz.ntmps316 rfl (by decide +kernel) (by simp) fun G=>?_
 all_goals refine go (r:=?_);and_intros<;>intros<;>try exact True.intro
 all_goals first|(decide +kernel)|rfl|(apply Re.setA (c:=cellsH r) (V:=.own 2 _ 0 _) (V':=.own 2 _ 0 _);(· apply Re.own (id:=2)<;>first|exact rfl|exact .nil);exact hst)⟩
instance OnesCount_c:Con 308 (∀ x:Int,0≤x∧x<8→Fn 308 [.sc (.int .u64 x)] [] (I (ocF x))):=⟨fun x hx=>by
 refine FnC.of_body tabOk Tryz.func308 Tryz.ntmps308 rfl (by decide +kernel) (by simp) fun G=>?_
 refine go (r:=?_);and_intros<;>intros<;>try exact True.intro⟩
theorem ocF_bd (x:Int):0≤ocF x∧ocF x≤3:=by unfold ocF;split<;>(try split)<;>(try split)<;>omega
theorem ocF_par (b:Nat) (h:b<8):1-2*(ocF b%2)=par b:=by
 rcases (by omega:b=0∨b=1∨b=2∨b=3∨b=4∨b=5∨b=6∨b=7) with rfl|rfl|rfl|rfl|rfl|rfl|rfl|rfl<;>rfl
def cellsH (r:Nat):List AV:=(List.range 8).map fun q=>if q<r then .fre 1 8 (ints (tabL (mx 8 q) 8)) else .nilS
theorem andu (r k:Nat) (h:r<8) (h2:k<8):IntKind.u64.wrap (IntKind.i64.wrap ((BitVec.ofInt IntKind.i64.bits (r:Int) &&& BitVec.ofInt IntKind.i64.bits (k:Int)).toNat:Nat))=((r &&& k:Nat):Int)∧r &&& k<8:=by
 have:=Nat.and_le_left (n:=r) (m:=k)
 rw [andw r k (by omega) (by omega)]
 refine ⟨?_,by omega⟩
 generalize r &&& k=b at this
 have hb:b<8:=by omega
 rcases (by omega:b=0∨b=1∨b=2∨b=3∨b=4∨b=5∨b=6∨b=7) with rfl|rfl|rfl|rfl|rfl|rfl|rfl|rfl<;>rfl
def invH (r:Nat):Nat→List AObj
 |0=>[⟨(cellsH r).set r .nilS,0,1,some 22⟩]
 |k+1=>[⟨(cellsH r).set r (.own 2 0 0 (k+1)),0,1,some 22⟩,⟨[.any],0,1,none⟩,XI (tabL (mx 8 r) (k+1))]
theorem cellsH_nil {r:Nat} (h:r<8):cellsH r=(cellsH r).set r .nilS:=by
 rcases (by omega:r=0∨r=1∨r=2∨r=3∨r=4∨r=5∨r=6∨r=7) with rfl|rfl|rfl|rfl|rfl|rfl|rfl|rfl<;>rfl
theorem cellsH_succ {r:Nat} (h:r<8) (X:AV):((cellsH r).set r X).set r (.fre 1 8 (ints (tabL (mx 8 r) 8)))=cellsH (r+1):=by
 rcases (by omega:r=0∨r=1∨r=2∨r=3∨r=4∨r=5∨r=6∨r=7) with rfl|rfl|rfl|rfl|rfl|rfl|rfl|rfl<;>rfl
theorem hnest {r:Nat} (h:r<8):flatO [⟨((cellsH r).set r (.own 2 0 0 8)).set r (.fre 1 8 (ints (tabL (mx 8 r) 8))),0,1,some 22⟩,⟨[.any],0,1,none⟩,⟨[],1,0,none⟩]=some [⟨cellsH (r+1),0,1,some 22⟩,⟨[.any],0,1,none⟩,⟨[],1,0,none⟩]:=by
 rw [cellsH_succ h];rfl
theorem Re.consA {O O':List AObj} {V V':AV} {vs us:List AV} (h:Re O O' [V] [V']) (r:Re O O' vs us):Re O O' (V::vs) (V'::us):=by
 cases h with
 |any _=>exact .any r
 |keep a b _=>exact .keep a b r
 |fn a _=>exact .fn a r
 |own a b c d e f _=>exact .own a b c d e f r
 |ptr a b c d _=>exact .ptr a b c d r
 |agg a _=>exact .agg a r
 |tup a _=>exact .tup a r
theorem Re.setA {O O':List AObj} {V V':AV} (h:Re O O' [V] [V']):∀{c:List AV} {i:Nat},c.all AV.still=true→Re O O' (c.set i V) (c.set i V')
 |[],i,_=>.nil
 |a::c,0,hs=>Re.consA h (Re.same rfl (by rw [List.all_cons,Bool.and_eq_true] at hs;exact hs.2))
 |a::c,i+1,hs=>by
  rw [List.all_cons,Bool.and_eq_true] at hs
  exact Re.keep rfl hs.1 (Re.setA h hs.2)
theorem cellsH_still (r:Nat):(cellsH r).all AV.still=true:=by
 rw [List.all_eq_true];intro V hV;simp only [cellsH,List.mem_map] at hV;obtain ⟨q,_,rfl⟩:=hV
 split<;>rfl
theorem cellsH_len (r:Nat):(cellsH r).length=8:=by simp [cellsH]
theorem cellsH_8:cellsH 8=rows liF H8:=rfl
theorem cellsH_0:cellsH 0=[.nilS,.nilS,.nilS,.nilS,.nilS,.nilS,.nilS,.nilS]:=rfl
attribute [local irreducible] cellsH
instance matrixH_c:Con 289 (Fn 289 [] [⟨rows liF H8,0,1,some 22⟩] (.own 0 0 0 8)):=⟨by
 refine FnC.of_body tabOk Tryz.func289 Tryz.ntmps289 rfl (by decide +kernel) (by simp) fun G=>?_
 refine K.A ?_
 refine WpA.seq ?_
 refine WpA.regionF rfl ?_
 refine WpL.assign rfl (by decide) ?_
 refine WpL.nil ?_
 refine Abs.Seq.n ?_
 refine WpA.seq ?_
 refine WpA.regionF rfl ?_
 refine WpL.make tabOk rfl rfl rfl (by decide) (by decide) rfl (by decide) ?_
 refine go (r:=?_);and_intros<;>intros<;>try exact True.intro
 refine WpA.loop (fun r:Nat=>⟨[(1,.own 0 0 0 8),(5,I r)],[⟨cellsH r,0,1,some 22⟩]⟩) (fun r=>r≤8) (fun r=>8-r) 0 (by omega) (go (r:=?_)) (fun r hr=>?_)
 ·and_intros<;>first|trivial|rfl|exact .nil|exact .inr rfl|exact Re.same cellsH_0.symm (cellsH_still 0)
 by_cases h8:r=8
 ·subst h8
  refine go (r:=?_);and_intros<;>intros<;>try exact True.intro
  all_goals first|exact cellsH_8
 have hr8:r<8:=by omega
 have hcl:=cellsH_len r
 have hst:=cellsH_still r
 have hc0:=cellsH_nil hr8
 refine go (r:=?_);and_intros<;>intros<;>try exact True.intro
 refine WpA.loop (fun k:Nat=>⟨[(1,.own 0 0 0 8),(2,I r),(5,I r),(8,I k)],invH r k⟩) (fun k=>k≤8) (fun k=>8-k) 0 (by omega) (go (r:=?_)) (fun k hk=>?_)
 ·and_intros<;>first|trivial|rfl|exact .nil|exact .inr rfl|(exact hc0)|exact Re.same hc0 (by rw [←hc0];exact hst)
 by_cases hk8:k=8
 ·subst hk8
  refine WpA.weak (NestC.weak (id:=0) (offs:=[r]) (O2:=[⟨cellsH (r+1),0,1,some 22⟩,⟨[.any],0,1,none⟩,⟨[],1,0,none⟩]) ?_) ?_
  ·apply NestC.cons (off:=r) (j:=2) (O1:=[⟨cellsH (r+1),0,1,some 22⟩,⟨[.any],0,1,none⟩,⟨[],1,0,none⟩])
   ·exact rfl
   ·exact List.getElem?_set_self (by omega)
   ·exact rfl
   ·exact rfl
   ·decide
   ·exact rfl
   ·exact still_ints _
   ·exact rfl
   ·exact hnest hr8
   ·exact .nil
  have hst1:=cellsH_still (r+1)
  refine go (r:=?_);and_intros<;>intros<;>try exact True.intro
  all_goals first|exact Re.same rfl hst1
 obtain ⟨hau,hal⟩:=andu r k (by omega) (by omega)
 have hob:=ocF_bd (IntKind.u64.wrap (IntKind.i64.wrap ((BitVec.ofInt IntKind.i64.bits ((r:Nat):Int) &&& BitVec.ofInt IntKind.i64.bits (k:Int)).toNat:Nat)))
 have hop:=ocF_par (r &&& k) hal
 have hkl:=tabL_len (mx 8 r) k
 have hval:1-2*(ocF (IntKind.u64.wrap (IntKind.i64.wrap ((BitVec.ofInt IntKind.i64.bits ((r:Nat):Int) &&& BitVec.ofInt IntKind.i64.bits (k:Int)).toNat:Nat)))%2)=mx 8 r k:=by rw [hau];exact hop
 rcases k with _|k
 ·refine go (r:=?_);and_intros<;>intros<;>try exact True.intro
  all_goals first|exact Re.any Re.nil|exact .inl rfl|(rw [hval];rfl)|(apply Re.setA (c:=cellsH r) (V:=.own 2 _ 0 _) (V':=.own 2 _ 0 _);(· apply Re.own (id:=2)<;>first|exact rfl|exact .nil);exact hst)|exact Re.same rfl hst
 ·refine go (r:=?_);and_intros<;>intros<;>try exact True.intro
  all_goals first|(rw [tabL_snoc _ (k+1),hval];done)|exact Re.any Re.nil|(apply Re.setA (c:=cellsH r) (V:=.own 2 _ 0 _) (V':=.own 2 _ 0 _);(· apply Re.own (id:=2)<;>first|exact rfl|exact .nil);exact hst)|(apply Re.setA (c:=cellsH r) (V:=.own 2 _ 0 _) (V':=.own 2 _ 0 _);(· apply Re.own (id:=2)<;>first|exact rfl|exact .nil);exact hst)⟩
end Go.Proofs.YtndflfipaddfoaaGreat


namespace Go.Proofs.YtndflfipaddfoaaGreat
open Go Go.Abs
attribute [local irreducible] WpA WpL Rnd Blk Abs.Seq Abs.Fin Abs.FinG FnC FnG Only
end Go.Proofs.YtndflfipaddfoaaGreat


namespace Go.Proofs.YtndflfipaddfoaaGreat
open Go Go.Abs
attribute [local irreducible] WpA WpL Rnd Blk Abs.Seq Abs.Fin Abs.FinG FnC FnG Only
def scX (d k:Nat):Int:=if (d:Int)%2=0 then (d:Int)-k else k
def scIn (n:Int) (d:Nat):Nat→List Int→List Int
 |0,o=>o
 |k+1,o=>if scX d k<n∧(d:Int)-scX d k<n then scIn n d k o++[((d:Int)-scX d k)*n+scX d k] else scIn n d k o
def scOut (n:Int):Nat→List Int
 |0=>[]
 |d+1=>scIn n d (d+1) (scOut n d)
def scanL (n:Int):List Int:=if n=4∨n=8 then scOut n (2*n-1).toNat else []
theorem scIn_yes {n:Int} {d k:Nat} {o:List Int} {x v:Int} (hx:scX d k=x) (h1:x<n) (h2:(d:Int)-x<n) (hv:v=((d:Int)-x)*n+x):scIn n d k o++[v]=scIn n d (k+1) o:=by
 rw [scIn,hx,if_pos ⟨h1,h2⟩,hv]
theorem scIn_no {n:Int} {d k:Nat} {o:List Int} {x:Int} (hx:scX d k=x) (h:¬(x<n∧(d:Int)-x<n)):scIn n d k o=scIn n d (k+1) o:=by
 rw [scIn,hx,if_neg h]
theorem scIn_len (n:Int) (d:Nat) (o:List Int):∀k,(scIn n d k o).length≤o.length+k
 |0=>by simp [scIn]
 |k+1=>by rw [scIn];have:=scIn_len n d o k;split<;>(try rw [List.length_append,List.length_singleton])<;>omega
theorem scOut_len (n:Int):∀d,d≤16→(scOut n d).length≤16*d
 |0,_=>by simp [scOut]
 |d+1,h=>by rw [scOut];have:=scIn_len n d (scOut n d) (d+1);have:=scOut_len n d (by omega);omega
theorem scX_even {d k:Nat} (h:(d:Int)%2=0):scX d k=d-k:=by rw [scX,if_pos h]
theorem scX_odd {d k:Nat} (h:¬(d:Int)%2=0):scX d k=k:=by rw [scX,if_neg h]
theorem scIn_l1 {n:Int} {d k:Nat} {o:List Int} (h:scX d k<n∧(d:Int)-scX d k<n):(scIn n d (k+1) o).length=(scIn n d k o).length+1:=by rw [scIn,if_pos h,List.length_append,List.length_singleton]
theorem scIn_l0 {n:Int} {d k:Nat} {o:List Int} (h:¬(scX d k<n∧(d:Int)-scX d k<n)):(scIn n d (k+1) o).length=(scIn n d k o).length:=by rw [scIn,if_neg h]
instance ScanOrder_c:Con 282 (∀ n:Int,n=0∨n=4∨n=8→Fn 282 [I n] [XI (scanL n)] (.own 0 0 0 (scanL n).length)):=⟨fun n hn=>by
 refine FnC.of_body tabOk Tryz.func282 Tryz.ntmps282 rfl (by decide +kernel) (by simp) fun G=>?_
 have k4:n=4→scanL n=scOut 4 7:=by rintro rfl;rfl
 have k8:n=8→scanL n=scOut 8 15:=by rintro rfl;rfl
 rcases hn with rfl|rfl|rfl
 ·refine go (r:=?_);and_intros<;>intros<;>try exact True.intro
  all_goals rfl
 ·refine go (r:=?_);and_intros<;>intros<;>try exact True.intro
  refine WpA.loop (fun d:Nat=>⟨[(0,I 4),(3,.own 0 0 0 (scOut 4 d).length),(14,I 7),(15,I d)],[XI (scOut 4 d)]⟩) (fun d=>d≤7) (fun d=>7-d) 0 (by simp) (go (r:=?_)) (fun d hd=>?_)
  ·simp [scOut]
  have hol:=scOut_len 4 d (by omega)
  have hso:(scOut 4 (d+1))=scIn 4 d (d+1) (scOut 4 d):=rfl
  refine go (r:=?_);and_intros<;>intros<;>try exact True.intro
  ·refine WpA.loop (fun k:Nat=>⟨[(0,I 4),(3,.own 0 0 0 (scIn 4 d k (scOut 4 d)).length),(4,I d),(14,I 7),(15,I d),(19,I ((d:Int)+1)),(20,I k)],[XI (scIn 4 d k (scOut 4 d))]⟩) (fun k=>k≤d+1) (fun k=>d+1-k) 0 (by omega) (go (r:=?_)) (fun k hk=>?_)
   ·simp [scIn]
   have hil:=scIn_len 4 d (scOut 4 d) k
   have he:=scX_even (d:=d) (k:=k)
   have hod:=scX_odd (d:=d) (k:=k)
   have hl1:=scIn_l1 (n:=4) (d:=d) (k:=k) (o:=scOut 4 d)
   have hl0:=scIn_l0 (n:=4) (d:=d) (k:=k) (o:=scOut 4 d)
   have hso2:k=d+1→(scOut 4 (d+1)).length=(scIn 4 d k (scOut 4 d)).length:=by rintro rfl;rfl
   refine go (r:=?_);and_intros<;>intros<;>try exact True.intro
   all_goals first
    |(exact scIn_yes (he ‹_›) (by omega) (by omega) (by omega))
    |(exact scIn_yes (hod ‹_›) (by omega) (by omega) (by omega))
    |(exact scIn_no (he ‹_›) (by omega))
    |(exact scIn_no (hod ‹_›) (by omega))
    |skip
   all_goals have e:k=d+1:=by omega
   all_goals subst e
   all_goals rw [hso]
  all_goals have e:d=7:=by omega
  all_goals subst e
  all_goals first|rfl|(rw [k4 rfl])
 ·refine go (r:=?_);and_intros<;>intros<;>try exact True.intro
  refine WpA.loop (fun d:Nat=>⟨[(0,I 8),(3,.own 0 0 0 (scOut 8 d).length),(14,I 15),(15,I d)],[XI (scOut 8 d)]⟩) (fun d=>d≤15) (fun d=>15-d) 0 (by simp) (go (r:=?_)) (fun d hd=>?_)
  ·simp [scOut]
  have hol:=scOut_len 8 d (by omega)
  have hso:(scOut 8 (d+1))=scIn 8 d (d+1) (scOut 8 d):=rfl
  refine go (r:=?_);and_intros<;>intros<;>try exact True.intro
  ·refine WpA.loop (fun k:Nat=>⟨[(0,I 8),(3,.own 0 0 0 (scIn 8 d k (scOut 8 d)).length),(4,I d),(14,I 15),(15,I d),(19,I ((d:Int)+1)),(20,I k)],[XI (scIn 8 d k (scOut 8 d))]⟩) (fun k=>k≤d+1) (fun k=>d+1-k) 0 (by omega) (go (r:=?_)) (fun k hk=>?_)
   ·simp [scIn]
   have hil:=scIn_len 8 d (scOut 8 d) k
   have he:=scX_even (d:=d) (k:=k)
   have hod:=scX_odd (d:=d) (k:=k)
   have hl1:=scIn_l1 (n:=8) (d:=d) (k:=k) (o:=scOut 8 d)
   have hl0:=scIn_l0 (n:=8) (d:=d) (k:=k) (o:=scOut 8 d)
   have hso2:k=d+1→(scOut 8 (d+1)).length=(scIn 8 d k (scOut 8 d)).length:=by rintro rfl;rfl
   refine go (r:=?_);and_intros<;>intros<;>try exact True.intro
   all_goals first
    |(exact scIn_yes (he ‹_›) (by omega) (by omega) (by omega))
    |(exact scIn_yes (hod ‹_›) (by omega) (by omega) (by omega))
    |(exact scIn_no (he ‹_›) (by omega))
    |(exact scIn_no (hod ‹_›) (by omega))
    |skip
   all_goals have e:k=d+1:=by omega
   all_goals subst e
   all_goals rw [hso]
  all_goals have e:d=15:=by omega
  all_goals subst e
  all_goals first|rfl|(rw [k8 rfl])⟩
theorem scan_rg (n:Int) (h:n=0∨n=4∨n=8):In (scanL n) 0 (n*n-1)∧((scanL n).length:Int)=n*n:=by
 rcases h with rfl|rfl|rfl<;>decide +kernel
end Go.Proofs.YtndflfipaddfoaaGreat


namespace Go.Proofs.YtndflfipaddfoaaGreat
open Go Go.Abs
attribute [local irreducible] WpA WpL Rnd Blk Abs.Seq Abs.Fin Abs.FinG FnC FnG Only
theorem qz_snoc (f:Int→Int) (l:List Int) (k:Nat) (h:k<l.length):(l.take k).map f++[f (l.getD k 0)]=(l.take (k+1)).map f:=by
 rw [take_snoc l k h,List.map_append];rfl
end Go.Proofs.YtndflfipaddfoaaGreat


namespace Go.Proofs.YtndflfipaddfoaaGreat
open Go Go.Abs
attribute [local irreducible] WpA WpL Rnd Blk Abs.Seq Abs.Fin Abs.FinG FnC FnG Only
theorem scan_fit (l:List Int):In (scanL (side l.length)) 0 (l.length-1)∧(scanL (side l.length)).length≤64:=by
 rcases side_cases l.length with ⟨h,e⟩|⟨h,e⟩|⟨_,_,e⟩
 ·have h2:=(scan_rg 4 (by omega)).2
  have h1:=(scan_rg 4 (by omega)).1
  rw [e,h];exact ⟨h1,by omega⟩
 ·have h2:=(scan_rg 8 (by omega)).2
  have h1:=(scan_rg 8 (by omega)).1
  rw [e,h];exact ⟨h1,by omega⟩
 ·rw [e]
  have h0:scanL 0=[]:=rfl
  rw [h0]
  refine ⟨?_,by simp⟩
  unfold In;intro x hx;cases hx
end Go.Proofs.YtndflfipaddfoaaGreat
