/- Proved in this text: lemmas and contracts of functions that the claim uses (parts: AbsXn, Draw4, Draw5, MatL, Mat, Mat2, Mat3, Mat4, Scan, Quant, Scn, Lev, ResL, LevP, DrP, DbP, AbsYs, AbsUn). No condition. -/
import Derived.Test.YtndflfipaddfoaaGreatStM14
import Derived.Test.YtndflfipaddfoaaGreatStM10
import Derived.Test.YtndflfipaddfoaaGreatStM6
import Derived.Test.YtndflfipaddfoaaGreatStM7
import Derived.Test.YtndflfipaddfoaaGreatStM11
import Derived.Test.YtndflfipaddfoaaGreatStM8
set_option linter.unusedVariables false
set_option linter.unusedSimpArgs false
set_option maxRecDepth 100000
set_option maxHeartbeats 4000000


namespace Go.Abs
open Go
structure Moves (k base:Nat) (V W:AV):Prop where
 rel:∀{S S3:Nat→Prop} {w:World} {ι ι3:Nat→Spot} {O O3:List AObj} {x:Value},(∀ id,k≤id→ι3 (id-k+base)=ι id)→(∀ id ob,k≤id→O[id]?=some ob→O3[id-k+base]?=some ob)→VRel S w ι O V x []→VRel S3 w ι3 O3 W x []
theorem Moves.ptr {k base id ep off:Nat} (h:k≤id):Moves k base (.ptr id ep off) (.ptr (id-k+base) ep off):=by
 refine ⟨fun h1 h2 hv=>?_⟩
 cases hv with
 |ptr a b c r=>cases r;exact .ptr (h2 _ _ h a) b (fun e=>by rw [h1 _ h];exact c e) .nil
section
variable {P:Program} {n m:Nat} {G:Ctx} {T:List (Nat×AV)} {O:List AObj} {Q:Exit→St→Prop} {ops:Array Oper} {l:List Oper} {tt:TypeId} {pos:String} {after:Array Edge} {tab:List (Nat×Ty)}
theorem callXm_rel {β:Type} {f:FuncId} {xs:List Operand} {As:List AV} {M:List AObj} {MX NX:β→List AObj} {rX rX':β→AV} {C:β→Prop} {hs:List Nat} {pv:List Value} {pa:List AV} (hc:FnX P f As M pv pa β C MX NX rX) (hp:Pin G pv pa) (hh:Hand O hs (xs.map (av T)) As) (hM:HandO O hs M) (hnd:hs.Nodup) (hlenX:∀y,(MX y).length=M.length)
 (hszX:∀(y:β) (j:Nat) (a b:AObj),M[j]?=some a→(MX y)[j]?=some b→b.size=a.size) (hMX':∀y,Out (MX y)) (hNX:∀y,Out (NX y)) (hreX:∀y,Moves M.length O.length (rX y) (rX' y)) {a:Act} {w:World} (hr:Rel n m G ⟨T,O⟩ a w):
 Calls P f (xs.map a.eval).toArray w fun e w'=>∃y,C y∧∃v,e=.returned v∧∃S ι F,RelAt n m G S ι F ⟨T,newO hs (MX y) 0 O++NX y⟩ a w'∧VRel S w' ι (newO hs (MX y) 0 O++NX y) (rX' y) v []:=by
 obtain ⟨S,ι,F,hr⟩:=hr
 obtain ⟨⟨fn,hf,hb,hnm⟩,hcall⟩:=hc
 obtain ⟨hlM,hatM⟩:=hM.at
 let S2:Nat→Prop:=fun b=>b<w.heap.size∧∀id∈hs,b ∉ F id
 let ιM:Nat→Spot:=fun j=>match hs[j]? with|some id=>ι id|none=>none
 let FM:Nat→List Nat:=fun j=>match hs[j]? with|some id=>F id|none=>[]
 have hιM:∀(j id:Nat),hs[j]?=some id→ιM j=ι id:=fun j id h=>by show (match hs[j]? with|some id=>ι id|none=>none)=_;rw [h]
 have hFM:∀(j id:Nat),hs[j]?=some id→FM j=F id:=fun j id h=>by show (match hs[j]? with|some id=>F id|none=>[])=_;rw [h]
 have hidl:∀(j id:Nat),hs[j]?=some id→id<O.length:=fun j id h=>by
  have hj:j<M.length:=by rw [←hlM];exact (List.getElem?_eq_some_iff.1 h).1
  obtain ⟨id',ob,e1,e2,_⟩:=hatM j _ (List.getElem?_eq_getElem hj)
  rw [h] at e1;cases e1;exact (List.getElem?_eq_some_iff.1 e2).1
 have hmem:∀id∈hs,∃j,j<M.length∧hs[j]?=some id:=fun id h=>by
  obtain ⟨j,hj,e⟩:=List.getElem_of_mem h
  exact ⟨j,by omega,by rw [List.getElem?_eq_getElem hj,e]⟩
 have hex:∀j,j<M.length→∃id,hs[j]?=some id:=fun j hj=>⟨hs[j],List.getElem?_eq_getElem (by omega)⟩
 have hSS:∀b,S b→S2 b:=fun b hb=>⟨hr.stable b hb,fun id hid hbf=>by
  obtain ⟨j,hj,e⟩:=hmem id hid
  exact (hr.foot id (hidl j id e) b hbf).2.1 hb⟩
 have hOM:ORel S2 w ιM M FM:=by
  refine ⟨fun j mb hj=>?_,fun j hj=>?_,fun i j hi hj hij b hb=>?_⟩
  ·obtain ⟨id,ob,e1,e2,e3,e4,e5,e6,e7⟩:=hatM j mb hj
   rw [hιM j id e1,hFM j id e1]
   have ho:=hr.objs.obj id ob e2
   unfold ObjAt at ho ⊢
   cases hs':ι id with
   |none=>rw [hs'] at ho;rw [←e3];exact ho
   |some p=>
    obtain ⟨b,k⟩:=p
    rw [hs'] at ho
    obtain ⟨cur',t',fz',f2,q1,q2,q3,q4,q5,q6,q7⟩:=ho
    refine ⟨cur',t',fz',f2,q1,q2,q3,by rw [←e3];exact q4,q5,fun e he=>?_,?_⟩
    ·rcases e7 with e7|e7
     ·rw [e7] at he;cases he
     ·exact q6 e (by rw [←e7];exact he)
    ·rw [←e3]
     exact still_all (by rw [e3];exact e4) q7 hSS (fun _ _=>rfl) (fun _ _=>rfl)
  ·obtain ⟨id,e⟩:=hex j hj
   rw [hFM j id e];exact hr.objs.nodup id (hidl j id e)
  ·obtain ⟨id1,e1⟩:=hex i hi
   obtain ⟨id2,e2⟩:=hex j hj
   rw [hFM i id1 e1] at hb;rw [hFM j id2 e2]
   exact hr.objs.apart id1 id2 (hidl i id1 e1) (hidl j id2 e2) (fun e=>hij (nodup_get hnd e1 (e▸e2))) b hb
 have hl:=hr.evals xs
 obtain ⟨f',hl2,hf'⟩:=hh.rel (S2:=S2) (ιM:=ιM) hM hιM hSS hr.objs (fun b h1 h2=>⟨h1,h2⟩) (fun id hid=>by obtain ⟨j,hj,e⟩:=hmem id hid;exact hidl j id e) hl (by simp)
 have hf0:f'=[]:=List.eq_nil_iff_forall_not_mem.2 fun b hb=>by simpa using hf' b hb
 subst hf0
 refine (hcall w S2 ιM FM (xs.map a.eval) (fun b h=>h.1) hOM (fun j hj b hb=>?_) hl2 (hp.at hr hSS [] (fun _=>none))).mono fun e w' he=>?_
 ·obtain ⟨id,e⟩:=hex j hj
  rw [hFM j id e] at hb
  exact ⟨fun h=>h.2 id (List.mem_of_getElem? e) hb,(hr.foot id (hidl j id e) b hb).2.2⟩
 obtain ⟨y,hy,v,S',ι',F',rfl,hS1,hS2,hS3,hι',hO',hF',hv,hk⟩:=he
 refine ⟨y,hy,v,rfl,?_⟩
 have hlen:=hlenX y
 have hsz:=hszX y
 have hM':=hMX' y
 have hN:=hNX y
 have hre:=hreX y
 generalize MX y=M' at hlen hsz hM' hO' hF' hv ⊢
 generalize NX y=N at hN hO' hF' hv ⊢
 generalize rX y=r at hre hv
 generalize rX' y=r' at hre ⊢
 have hold:∀b,b<w.heap.size→(∀ id∈hs,b ∉ F id)→w'.heap[b]?=w.heap[b]?:=fun b hb hn=>hk.block b hb (by
  rintro ⟨i,hi,hbf⟩
  obtain ⟨id,e⟩:=hex i hi
  rw [hFM i id e] at hbf
  exact hn id (List.mem_of_getElem? e) hbf)
 let S3:Nat→Prop:=fun b=>S b∨(S' b∧w.heap.size≤b)
 let ι3:Nat→Spot:=fun i=>if i<O.length then ι i else ι' (M.length+(i-O.length))
 let F3:Nat→List Nat:=fun i=>if i<O.length then (match findN hs i 0 with|some j=>F' j|none=>F i) else F' (M.length+(i-O.length))
 let O3:=newO hs M' 0 O++N
 have hl3:(newO hs M' 0 O).length=O.length:=newO_len hs M' 0 O
 have hO3lt:∀i,i<O.length→O3[i]?=(O[i]?).map (newOb hs M' i):=fun i hi=>by
  show (newO hs M' 0 O++N)[i]?=_
  rw [List.getElem?_append_left (by omega),newO_at,Nat.zero_add]
 have hO3ge:∀i,O.length≤i→O3[i]?=N[i-O.length]?:=fun i hi=>by
  show (newO hs M' 0 O++N)[i]?=_
  rw [List.getElem?_append_right (by omega),hl3]
 have hob:∀i ob,O[i]?=some ob→(newOb hs M' i ob).ep=ob.ep∧(newOb hs M' i ob).size=ob.size:=fun i ob h=>by
  unfold newOb
  cases hfd:findN hs i 0 with
  |none=>exact ⟨rfl,rfl⟩
  |some j=>
   cases hmj:M'[j]? with
   |none=>exact ⟨by simp [hmj],by simp [hmj]⟩
   |some mb=>
    obtain ⟨q,rfl,hq⟩:=findN_some hfd
    rw [Nat.zero_add] at hmj
    have hqm:q<M.length:=by rw [←hlM];exact (List.getElem?_eq_some_iff.1 hq).1
    obtain ⟨id',ob',e1,e2,_,_,_,e6,_⟩:=hatM q _ (List.getElem?_eq_getElem hqm)
    rw [hq] at e1;cases e1
    rw [h] at e2;cases e2
    simp only [Nat.zero_add,hmj,true_and]
    exact (hsz q _ _ (List.getElem?_eq_getElem hqm) hmj).trans e6
 have hlat:Later S w ι O S3 w' ι3 O3:=by
  refine ⟨fun b h=>.inl h,fun b hb=>hold b (hr.stable b hb) (hSS b hb).2,fun id ob h=>?_⟩
  have hlt:id<O.length:=(List.getElem?_eq_some_iff.1 h).1
  obtain ⟨h1,h2⟩:=hob id ob h
  exact ⟨newOb hs M' id ob,by rw [hO3lt id hlt,h];rfl,.inr ⟨h1,h2,by show (if _ then _ else _)=_;rw [if_pos hlt]⟩⟩
 have hF3f:∀(i j:Nat),i<O.length→findN hs i 0=some j→F3 i=F' j:=fun i j hi h=>by show (if _ then _ else _)=_;rw [if_pos hi,h]
 have hF3n:∀(i:Nat),i<O.length→findN hs i 0=none→F3 i=F i:=fun i hi h=>by show (if _ then _ else _)=_;rw [if_pos hi,h]
 have hF3g:∀(i:Nat),O.length≤i→F3 i=F' (M.length+(i-O.length)):=fun i hi=>by show (if _ then _ else _)=_;rw [if_neg (by omega)]
 have hlMN:(M'++N).length=M.length+N.length:=by rw [List.length_append,hlen]
 have hfind:∀(i j:Nat),findN hs i 0=some j→j<M.length∧hs[j]?=some i:=fun i j h=>by
  obtain ⟨q,rfl,hq⟩:=findN_some h
  rw [Nat.zero_add]
  exact ⟨by rw [←hlM];exact (List.getElem?_eq_some_iff.1 hq).1,hq⟩
 have hl3':O3.length=O.length+N.length:=by show (newO hs M' 0 O++N).length=_;rw [List.length_append,hl3]
 have hsrc:∀k,k<(M'++N).length→∀b∈F' k,((∃ id,id∈hs∧id<O.length∧b∈F id)∨w.heap.size≤b)∧¬S' b∧b<w'.heap.size:=fun k hk' b hb=>by
  obtain ⟨q1,q2,q3⟩:=hF' k hk' b hb
  refine ⟨?_,q2,q3⟩
  rcases q1 with ⟨i,hi,hbf⟩|q1
  ·obtain ⟨id,e⟩:=hex i hi
   rw [hFM i id e] at hbf
   exact .inl ⟨id,List.mem_of_getElem? e,hidl i id e,hbf⟩
  ·exact .inr q1
 have hnoS:∀k,k<(M'++N).length→∀b∈F' k,(G.M0 b∨G.w0.heap.size≤b)∧¬S3 b∧b<w'.heap.size:=fun k hk' b hb=>by
  obtain ⟨q1,q2,q3⟩:=hsrc k hk' b hb
  rcases q1 with ⟨id,hid,hlt,hbf⟩|q1
  ·obtain ⟨p1,p2,p3⟩:=hr.foot id hlt b hbf
   refine ⟨p1,?_,q3⟩
   rintro (h|⟨h,_⟩)
   ·exact p2 h
   ·exact q2 h
  ·refine ⟨.inr (by have:=hr.keeps.size;omega),?_,q3⟩
   rintro (h|⟨h,_⟩)
   ·have:=hr.stable b h;omega
   ·exact q2 h
 have hnotin:∀i,i<O.length→findN hs i 0=none→∀b∈F i,w'.heap[b]?=w.heap[b]?:=fun i hi h b hb=>hold b (hr.foot i hi b hb).2.2 fun id hid hbf=>by
  obtain ⟨j,hj,e⟩:=hmem id hid
  have hne:i≠id:=by rintro rfl;exact findN_none h hid
  exact hr.objs.apart i id hi (hidl j id e) hne b hb hbf
 have hcells:∀{cs:List AV} {us g},cs.all AV.still=true→Loc cs→LRel S' w' ι' (M'++N) cs us g→LRel S3 w' ι3 O3 cs us g:=fun h1 h2 hl=>
  Loc.rel h2 (still_all (S':=S') h1 hl (fun _ h=>h) (fun _ _=>rfl) (fun _ _=>rfl))
 refine ⟨S3,ι3,F3,⟨hr.defers,hr.size,fun t=>(hr.tmps t).mono hlat (by simp),⟨fun i ob h=>?_,fun i h=>?_,fun i j hi hj hij b hb=>?_⟩,fun i h b hb=>?_,⟨fun b hb=>.inl (hr.base.1 b hb),?_⟩,?_,?_,fun i h=>?_,?_⟩,?_⟩
 ·have h:O3[i]?=some ob:=h
  by_cases hlt:i<O.length
  ·rw [hO3lt i hlt,List.getElem?_eq_getElem hlt] at h
   simp only [Option.map_some,Option.some.injEq] at h
   rw [show ι3 i=ι i from if_pos hlt]
   cases hfd:findN hs i 0 with
   |some j=>
    obtain ⟨hjm,hji⟩:=hfind i j hfd
    rw [hF3f i j hlt hfd]
    have hjM':j<M'.length:=by omega
    have hmb:M'[j]?=some M'[j]:=List.getElem?_eq_getElem hjM'
    have h':ob=⟨M'[j].cells,(O[i]).ep,M'[j].size,M'[j].ty⟩:=by
     rw [←h];unfold newOb;rw [hfd];simp only [hmb]
    have ho:=hO'.obj j M'[j] (by rw [List.getElem?_append_left hjM'];exact hmb)
    rw [hι' j hjm,hιM j i hji] at ho
    have hout:=hM'.at hmb
    rw [h']
    unfold ObjAt at ho ⊢
    cases hs':ι i with
    |none=>rw [hs'] at ho;exact ho
    |some p=>
     obtain ⟨b,k⟩:=p
     rw [hs'] at ho
     obtain ⟨cur',t',fz',f2,q1,q2,q3,q4,q5,q6,q7⟩:=ho
     exact ⟨cur',t',fz',f2,q1,q2,q3,q4,q5,q6,hcells hout.1 hout.2 q7⟩
   |none=>
    rw [hF3n i hlt hfd]
    have h':ob=O[i]:=by rw [←h];unfold newOb;rw [hfd]
    subst h'
    have ho:=hr.objs.obj i O[i] (List.getElem?_eq_getElem hlt)
    have key:=hnotin i hlt hfd
    unfold ObjAt at ho ⊢
    cases hs':ι i with
    |none=>rw [hs'] at ho;exact ho
    |some p=>
     obtain ⟨b,k⟩:=p
     rw [hs'] at ho
     obtain ⟨cur',t',fz',f2,q1,q2,q3,q4,q5,q6,q7⟩:=ho
     exact ⟨cur',t',fz',f2,q1,by rw [key b (by rw [q1];simp)];exact q2,q3,q4,q5,q6,q7.mono hlat fun b' hb'=>key b' (by rw [q1];simp [hb'])⟩
  ·rw [hO3ge i (by omega)] at h
   rw [show ι3 i=ι' (M.length+(i-O.length)) from if_neg hlt,hF3g i (by omega)]
   have ho:=hO'.obj (M.length+(i-O.length)) ob (by rw [List.getElem?_append_right (by omega),hlen,Nat.add_sub_cancel_left];exact h)
   have hout:=hN.at h
   unfold ObjAt at ho ⊢
   cases hs':ι' (M.length+(i-O.length)) with
   |none=>rw [hs'] at ho;exact ho
   |some p=>
    obtain ⟨b,k⟩:=p
    rw [hs'] at ho
    obtain ⟨cur',t',fz',f2,q1,q2,q3,q4,q5,q6,q7⟩:=ho
    exact ⟨cur',t',fz',f2,q1,q2,q3,q4,q5,q6,hcells hout.1 hout.2 q7⟩
 ·have h:i<O3.length:=h
  by_cases hlt:i<O.length
  ·cases hfd:findN hs i 0 with
   |some j=>rw [hF3f i j hlt hfd];exact hO'.nodup j (by have:=(hfind i j hfd).1;omega)
   |none=>rw [hF3n i hlt hfd];exact hr.objs.nodup i hlt
  ·rw [hF3g i (by omega)];exact hO'.nodup _ (by omega)
 ·have hi:i<O3.length:=hi
  have hj:j<O3.length:=hj
  have hpl:∀k,k<O3.length→(∃ q,q<(M'++N).length∧F3 k=F' q∧((q<M.length∧hs[q]?=some k)∨(O.length≤k∧q=M.length+(k-O.length))))∨(k<O.length∧findN hs k 0=none∧F3 k=F k):=fun k hk'=>by
   by_cases hlt:k<O.length
   ·cases hfd:findN hs k 0 with
    |some q=>obtain ⟨h1,h2⟩:=hfind k q hfd;exact .inl ⟨q,by omega,hF3f k q hlt hfd,.inl ⟨h1,h2⟩⟩
    |none=>exact .inr ⟨hlt,rfl,hF3n k hlt hfd⟩
   ·exact .inl ⟨_,by omega,hF3g k (by omega),.inr ⟨by omega,rfl⟩⟩
  have hcross:∀k q,k<O.length→findN hs k 0=none→q<(M'++N).length→∀b∈F k,b ∉ F' q:=fun k q hk' hn hq b hb hb'=>by
   rcases (hsrc q hq b hb').1 with ⟨id,hid,hlt,hbf⟩|h
   ·have hne:k≠id:=by rintro rfl;exact findN_none hn hid
    exact hr.objs.apart k id hk' hlt hne b hb hbf
   ·have:=(hr.foot k hk' b hb).2.2;omega
  rcases hpl i hi with ⟨q1,p1,p2,p3⟩|⟨p1,p2,p3⟩<;>rcases hpl j hj with ⟨q2,r1,r2,r3⟩|⟨r1,r2,r3⟩
  ·rw [p2] at hb;rw [r2]
   refine hO'.apart q1 q2 p1 r1 (fun e=>?_) b hb
   subst e
   rcases p3 with ⟨a1,a2⟩|⟨a1,a2⟩<;>rcases r3 with ⟨b1,b2⟩|⟨b1,b2⟩
   ·rw [a2] at b2;cases b2;exact hij rfl
   ·omega
   ·omega
   ·omega
  ·rw [p2] at hb;rw [r3];intro hb';exact hcross j q1 r1 r2 p1 b hb' hb
  ·rw [p3] at hb;rw [r2];exact hcross i q2 p1 p2 r1 b hb
  ·rw [p3] at hb;rw [r3];exact hr.objs.apart i j p1 r1 hij b hb
 ·have h:i<O3.length:=h
  by_cases hlt:i<O.length
  ·cases hfd:findN hs i 0 with
   |some j=>rw [hF3f i j hlt hfd] at hb;exact hnoS j (by have:=(hfind i j hfd).1;omega) b hb
   |none=>
    rw [hF3n i hlt hfd] at hb
    obtain ⟨q1,q2,q3⟩:=hr.foot i hlt b hb
    refine ⟨q1,?_,by have:=hk.size;omega⟩
    rintro (h'|⟨_,h'⟩)
    ·exact q2 h'
    ·omega
  ·rw [hF3g i (by omega)] at hb;exact hnoS _ (by omega) b hb
 ·rintro b (h'|⟨_,h'⟩)
  ·exact hr.base.2 b h'
  ·exact .inr (by have:=hr.keeps.size;omega)
 ·rintro b (h'|⟨h',_⟩)
  ·have:=hr.stable b h';have:=hk.size;omega
  ·exact hS3 b h'
 ·refine ⟨hk.os.trans hr.keeps.os,hk.tape.trans hr.keeps.tape,hk.output.trans hr.keeps.output,by have:=hr.keeps.size;have:=hk.size;omega,fun b hb hM0=>?_⟩
  rw [hold b (by have:=hr.keeps.size;omega) fun id hid hbf=>?_]
  ·exact hr.keeps.block b hb hM0
  ·obtain ⟨j,hj,e⟩:=hmem id hid
   rcases (hr.foot id (hidl j id e) b hbf).1 with h|h
   ·exact hM0 h
   ·omega
 ·have hm:m≤O.length:=hr.mle
  rw [show ι3 i=ι i from if_pos (by omega)];exact hr.spots i h
 ·have hm:m≤O.length:=hr.mle
  show m≤O3.length
  omega
 ·refine hre.rel (S:=S') (ι:=ι') (O:=M'++N) (fun id hid=>?_) (fun id ob hid h=>?_) hv
  ·show (if _ then _ else _)=_
   rw [if_neg (by omega)];congr 1;omega
  ·show O3[id-M.length+O.length]?=some ob
   rw [hO3ge _ (by omega),Nat.add_sub_cancel]
   rw [List.getElem?_append_right (by omega),hlen] at h
   exact h
theorem FnP.of_new (hP:TabOk P tab) {f:FuncId} {fn:Func} {c:Code} {args:List AV} {pv:List Value} {pa:List AV} {k t sz:Nat} {cells:List AV} {ty:Option TypeId} (hf:P.funcs[f]?=some fn) (hnt:fn.ntmps=k) (hb:fn.body=some c) (hnm:(fn.name== "runtime.NumGoroutine")=false)
 (hal:args.length≤k) (hres:fn.results=#[.tmp t]) (hps:pa.all AV.still=true) (hst:cells.all AV.still=true) (h:∀G,Pin G pv pa→WpA P k 0 G c ⟨enumT 0 args,[]⟩ (fun e σ=>endB e=true∧∃id ep ob,look σ.T t=.ptr id ep 0∧σ.O[id]?=some ob∧ob.ep=ep∧ob.cells=cells∧ob.size=sz∧(ty=none∨ty=ob.ty))):
 FnP P f args [] pv pa [] [⟨cells,0,sz,ty⟩] (.ptr 0 0 0):=by
 refine ⟨⟨fn,hf,by rw [hb];rfl,hnm⟩,fun w S ι F vs hS hO hF hl hpin=>?_⟩
 have hvl:vs.length=args.length:=hl.len.symm
 refine calls_of_wp hf hb ?_
 have hrel:Rel k 0 ⟨w,S,fun b=>∃i,i<([]:List AObj).length∧b∈F i,ι⟩ ⟨enumT 0 args,[]⟩ {tmps:=vs.toArray++Array.replicate (fn.ntmps-vs.toArray.size) undef,defers:=[]} w:=by
  refine ⟨S,ι,F,rfl,?_,fun t=>?_,hO,fun id hid b hb=>⟨.inl ⟨id,hid,hb⟩,hF id hid b hb⟩,⟨fun _ h=>h,fun _ h=>.inl h⟩,hS,Keeps.refl _ _,fun _ _=>rfl,Nat.zero_le _⟩
  ·simp [hnt];omega
  ·show VRel S w ι [] (look (enumT 0 args) t) _ []
   rw [look_enumT]
   simp only [Nat.zero_le,if_true,Nat.sub_zero]
   by_cases ht:t<args.length
   ·obtain ⟨x,g,hx,hV,hg⟩:=hl.get (List.getElem?_eq_getElem ht)
    have hg0:g=[]:=List.eq_nil_iff_forall_not_mem.2 fun b hb=>by simpa using hg b hb
    subst hg0
    have e1:args.getD t .any=args[t]:=by simp [ht]
    have e2:(vs.toArray++Array.replicate (fn.ntmps-vs.toArray.size) undef).getD t undef=x:=by
     have:t<vs.length:=by omega
     rw [List.getElem?_eq_getElem this] at hx
     simp only [Option.some.injEq] at hx
     simp [Array.getD_eq_getD_getElem?,Array.getElem?_append,this,hx]
    rw [e1,e2];exact hV
   ·have e1:args.getD t .any=.any:=by simp [List.getElem?_eq_none (Nat.le_of_not_lt ht)]
    rw [e1];exact .any .nil
 refine wp_mono (h ⟨w,S,fun b=>∃i,i<([]:List AObj).length∧b∈F i,ι⟩ ⟨hpin,hps,fun b hb=>⟨fun ⟨i,hi,hbf⟩=>(hF i hi b hbf).1 hb,hS b hb⟩⟩ _ _ hrel) fun e a' w' ⟨σ',hq,hr'⟩=>?_
 obtain ⟨he,id,ep,ob,h1,h2,h3,h4,h5,h6⟩:=hq
 obtain ⟨S2,ι2,F2,hr⟩:=hr'
 have hrun:(results fn a'.tmps).run P w'=.ok (a'.tmps.getD t undef) w':=run_results1 hres (by simp [resSem])
 have ht:=hr.tmps t
 rw [h1] at ht
 have hid:id<σ'.O.length:=(List.getElem?_eq_some_iff.1 h2).1
 have hobj:=hr.objs.obj id ob h2
 have hfin:∃v S' ι' F',a'.tmps.getD t undef=v∧(∀ b,S b→S' b)∧(∀ b,S' b→S b∨w.heap.size≤b)∧(∀ b,S' b→b<w'.heap.size)∧(∀ id,id<([]:List AObj).length→ι' id=ι id)∧ORel S' w' ι' ([]++[⟨cells,0,sz,ty⟩]) F'∧
  (∀ id,id<([]++[(⟨cells,0,sz,ty⟩:AObj)]).length→∀b∈F' id,((∃ i,i<([]:List AObj).length∧b∈F i)∨w.heap.size≤b)∧¬S' b∧b<w'.heap.size)∧VRel S' w' ι' ([]++[⟨cells,0,sz,ty⟩]) (.ptr 0 0 0) v []∧Keeps w (fun b=>∃i,i<([]:List AObj).length∧b∈F i) w':=by
  refine ⟨_,S2,fun j=>if j=0 then ι2 id else none,fun j=>if j=0 then F2 id else [],rfl,hr.base.1,hr.base.2,hr.stable,fun i hi=>by simp at hi,⟨fun i ob' hi=>?_,fun i hi=>?_,fun i j hi hj hij=>?_⟩,fun i hi b hb=>?_,?_,hr.keeps⟩
  ·cases i with
   |succ i=>simp at hi
   |zero=>
    simp at hi;subst hi
    simp only [if_true]
    unfold ObjAt at hobj ⊢
    cases hs:ι2 id with
    |none=>rw [hs,h4] at hobj;exact hobj
    |some p=>
     obtain ⟨b,kk⟩:=p
     rw [hs,h4] at hobj
     obtain ⟨cur',t',fz',f2,q1,q2,q3,q4,q5,q6,q7⟩:=hobj
     refine ⟨cur',t',fz',f2,q1,q2,q3,q4,q5,fun e he=>?_,still_all hst q7 (fun _ h=>h) (fun _ _=>rfl) (fun _ _=>rfl)⟩
     rcases h6 with h6|h6
     ·rw [h6] at he;cases he
     ·exact q6 e (by rw [←h6];exact he)
  ·have:i=0:=by simpa using hi
   subst this;simpa using hr.objs.nodup id hid
  ·have e1:i=0:=by simpa using hi
   have e2:j=0:=by simpa using hj
   omega
  ·have e1:i=0:=by simpa using hi
   subst e1
   obtain ⟨q1,q2,q3⟩:=hr.foot id hid b (by simpa using hb)
   exact ⟨q1,q2,q3⟩
  ·cases ht with
   |ptr a b c r=>rw [h2] at a;cases a;exact .ptr (ob:=⟨cells,0,sz,ty⟩) rfl (Nat.le_refl _) (fun _=>by simpa using c h3.symm) .nil
 obtain ⟨v,S',ι',F',hv,q⟩:=hfin
 cases e with
 |normal=>exact ⟨hr.defers,_,hrun,(),trivial,_,S',ι',F',rfl,hv▸q⟩
 |ret=>exact ⟨hr.defers,_,hrun,(),trivial,_,S',ι',F',rfl,hv▸q⟩
 |_=>cases he
theorem WpL.callN {f:FuncId} {xs:List Operand} {ats:Array TypeId} {As:List AV} {ob:AObj} {O2:List AObj} {pv:List Value} {pa:List AV} {base d:Nat} (hc:FnP P f As [] pv pa [] [ob] (.ptr 0 0 0)) (hp:Pin G pv pa) (hh:HandM O [] [] (xs.map (av T)) As) (hN:Out [ob]) (hb:cnt O.length 0=some base) (hO2:newF [] [] 0 O [ob]=some O2) (hn:d<n)
 (h:WpL P n m G false ops l ⟨(d,.ptr base 0 0)::T,O2⟩ Q):
 WpL P n m G false ops ({dst:=some d,op:=.call {callee:=.value (.func f),args:=xs.toArray,argTypes:=ats},type:=tt,pos:=pos,after:=after,guard:=none}::l) ⟨T,O⟩ Q:=by
 refine WpL.opX (β:=Unit) (C:=fun _=>True) (σX:=fun _=>⟨(d,.ptr base 0 0)::T,O2⟩) rfl (fun a w hr=>?_) (fun _ _=>h)
 have e2:=cnt_eq hb;rw [Nat.add_zero] at e2;subst e2
 have hcl:=callXm_rel hc hp hh .nil (by simp) (fun _=>rfl) (fun _ j x y hx hy=>by simp at hx) (fun _=>.nil) (fun _=>hN) (rX':=fun _=>.ptr O.length 0 0) (fun _=>by have:=Moves.ptr (k:=0) (base:=O.length) (id:=0) (ep:=0) (off:=0) (Nat.le_refl 0);rw [Nat.sub_zero,Nat.zero_add] at this;exact this) hr
 obtain ⟨⟨fn,hf,hbd,hnm⟩,_⟩:=hc
 have hex:(execOp a.eval {dst:=some d,op:=.call {callee:=.value (.func f),args:=xs.toArray,argTypes:=ats},type:=tt,pos:=pos,after:=after,guard:=none}).run P w=.ok (.enter f (xs.map a.eval).toArray) w:=by
  simp only [execOp,resolve,Act.eval,Deferred.ofValue,invoke,callFunc,Sem.run_bind,Sem.run_pure,Result.andThen_ok,program,Sem.run,hf,hnm,hbd,Bool.false_eq_true,if_false]
  simp
 unfold Oper.wp
 rw [hex]
 refine hcl.mono fun e' w' ⟨y,hy,v',he,S,ι,F,hr',hv⟩=>?_
 subst he
 rw [newF_eq hO2] at hr' hv
 exact ⟨y,hy,S,ι,F,hr'.put hn hv⟩
theorem FnC.of_pin {f:FuncId} {A:AV} {args:List AV} {N:List AObj} {r:AV} (h:∀v,FnP P f (.sc v::args) [] [v] [A] [] N r):FnC P f (A::args) N r:=by
 refine ⟨(h undef).1,fun w S vs hS hl=>?_⟩
 obtain ⟨v,vs',f1,f2,e,hv,hr,hf⟩:=hl.uncons
 obtain ⟨rfl,rfl⟩:f1=[]∧f2=[]:=by simpa using hf
 subst e
 refine ((h v).2 w S (fun _=>none) (fun _=>[]) (v::vs') hS ⟨fun id ob h=>by simp at h,fun id h=>by simp at h,fun i j h=>by simp at h⟩ (fun id h=>by simp at h) (.sc hr) (by simpa using LRel.cons hv .nil)).mono fun e w' ⟨y,_,v2,S',ι',F',h1,h2,h3,h4,h5,h6,h7,h8,h9⟩=>?_
 refine ⟨v2,S',ι',F',h1,h2,h3,h4,by simpa using h6,fun id hid b hb=>?_,by simpa using h8,?_⟩
 ·obtain ⟨q1,q2,q3⟩:=h7 id (by simpa using hid) b hb
  refine ⟨?_,q2,q3⟩
  rcases q1 with ⟨i,hi,_⟩|q1
  ·simp at hi
  ·exact q1
 ·have:(fun b=>∃i,i<([]:List AObj).length∧b∈((fun _=>[]):Nat→List Nat) i)=fun _=>False:=by
   funext b;simp
  rw [this] at h9;exact h9
end
end Go.Abs


namespace Go.Proofs.YtndflfipaddfoaaGreat
open Go Go.Abs
attribute [local irreducible] WpA WpL Rnd Blk Abs.Seq Abs.Fin Abs.FinG FnC FnG FnX FnP FinX Only
attribute [local irreducible] belowD onceD pickD modeD l8D l8AnyD optD
def seedS (k x:Int):Int:=IntKind.i64.wrap ((BitVec.ofInt IntKind.i64.bits (IntKind.i64.wrap (IntKind.i64.wrap (k*131+IntKind.i64.wrap x)+7)) &&& BitVec.ofInt IntKind.i64.bits 1073741823).toNat:Nat)
def seedD (l:List Int) (i:Nat):Int:=(l.take i).foldl seedS (10101+l.length)
theorem and30 (y:Int):0≤IntKind.i64.wrap ((BitVec.ofInt IntKind.i64.bits y &&& BitVec.ofInt IntKind.i64.bits 1073741823).toNat:Nat)∧IntKind.i64.wrap ((BitVec.ofInt IntKind.i64.bits y &&& BitVec.ofInt IntKind.i64.bits 1073741823).toNat:Nat)≤1073741823:=by
 have h:(BitVec.ofInt IntKind.i64.bits y &&& BitVec.ofInt IntKind.i64.bits 1073741823).toNat≤1073741823:=by
  rw [BitVec.toNat_and]
  exact Nat.le_trans Nat.and_le_right (by decide)
 rw [IntWalk.i64_in _ (by omega)]
 omega
theorem seedD_succ {l:List Int} {i:Nat} (h:i<l.length):seedD l (i+1)=seedS (seedD l i) (l.getD i 0):=by
 unfold seedD;rw [List.take_succ_eq_append_getElem h,List.foldl_append];simp [h]
theorem seedD_bd {l:List Int} (hl:l.length≤1048576):∀i,0≤seedD l i∧seedD l i≤1073741823
 |0=>by simp [seedD];omega
 |i+1=>by
  by_cases h:i<l.length
  ·rw [seedD_succ h];exact and30 _
  ·have e:seedD l (i+1)=seedD l i:=by unfold seedD;rw [List.take_of_length_le (by omega),List.take_of_length_le (by omega)]
   rw [e];exact seedD_bd hl i
abbrev newD (l:List Int):Cr:=(0,seedD l (min l.length 4000))
theorem pin_slice {G:Ctx} {v:Value} {l:List Int} (hp:Pin G [v] [CodA l]):∃p q r,v=.slice p q r:=by
 obtain ⟨a,c,e⟩:=(LRel.slice_len hp.rel).2.1 _ _ _ rfl
 exact ⟨_,_,_,e⟩
section
attribute [local irreducible] IntKind.wrap
theorem l1New_p (v:Value) (l:List Int) (hl:l.length≤1048576):FnP Tryz.prog 73 [.sc v] [] [v] [CodA l] [] [CurO v (newD l)] (.ptr 0 0 0):=by
 refine FnP.of_new (t:=2) tabOk Tryz.func73 Tryz.ntmps73 rfl (by decide +kernel) (by simp) rfl rfl rfl fun G hp=>?_
 refine go (r:=?_);and_intros<;>intros<;>try exact True.intro
 refine WpL.pin (d:=5) hp rfl ?_
 refine go (r:=?_);and_intros<;>intros<;>try exact True.intro
 refine WpA.loop (fun i:Nat=>⟨[(0,.sc v),(3,I (seedD l i)),(4,I i)],[]⟩) (fun i=>i≤min l.length 4000) (fun i=>min l.length 4000-i) 0 (Nat.zero_le _) (go (r:=?_)) (fun i hi=>?_)
 ·exact trivial
 ·have hb:=seedD_bd hl i
  have hs:=fun h=>seedD_succ (l:=l) (i:=i) h
  unfold seedS at hs
  refine go (r:=?_);and_intros<;>intros<;>try exact True.intro
  refine WpL.pin (d:=9) hp rfl ?_
  refine go (r:=?_);and_intros<;>intros<;>try exact True.intro
  ·refine WpL.pin (d:=20) hp rfl ?_
   have hs:=hs (by omega)
   refine go (r:=?_);and_intros<;>intros<;>try exact True.intro
   all_goals first|exact hs.symm
  all_goals obtain ⟨p,q,r,rfl⟩:=pin_slice hp
  ·have e:i=min l.length 4000:=by omega
   subst e
   refine go (r:=?_);and_intros<;>intros<;>try exact True.intro
   exact ⟨_,_,_,rfl,rfl,rfl,rfl,rfl,.inl rfl⟩
  ·have e:i=min l.length 4000:=by omega
   subst e
   refine go (r:=?_);and_intros<;>intros<;>try exact True.intro
   exact ⟨_,_,_,rfl,rfl,rfl,rfl,rfl,.inl rfl⟩
end
def anyD (l:List Int) (c:Cr):Cr×Op6:=
 let o:=optD l c
 let s:=belowD l o.1 14
 if s.2=0 then
  let p:=pickD l s.1 [-1,52]
  (p.1,{o.2 with q:=p.2})
 else if s.2=1 then
  let y:=l8AnyD l s.1
  (y.1,{o.2 with lens:=y.2})
 else (s.1,o.2)
end Go.Proofs.YtndflfipaddfoaaGreat


namespace Go.Proofs.YtndflfipaddfoaaGreat
open Go Go.Abs
attribute [local irreducible] WpA WpL Rnd Blk Abs.Seq Abs.Fin Abs.FinG FnC FnG FnX FnP FinX Only
attribute [local irreducible] belowD onceD pickD modeD l8D l8AnyD optD anyD seedD
theorem newD_ok {l:List Int} (hl:l.length≤1048576):CrOk l (newD l):=⟨hl,Int.le_refl 0,by show (0:Int)≤_;omega⟩
end Go.Proofs.YtndflfipaddfoaaGreat


namespace Go.Proofs.YtndflfipaddfoaaGreat
open Go Go.Abs
def part (f:Nat→Int) (N j:Nat) (v:Int):List Int:=(List.range N).map fun q=>if q<j then f q else if q=j then v else 0
def tabL (f:Nat→Int) (N:Nat):List Int:=(List.range N).map f
def sumF (f:Nat→Int):Nat→Int
 |0=>0
 |k+1=>sumF f k+f k
def A4:List (List Int):=[[1,1,1,1],[2,1,-1,-2],[1,-1,-1,1],[1,-2,2,-1]]
def par (b:Nat):Int:=if (b%2+b/2%2+b/4%2)%2=0 then 1 else -1
def mx (n r i:Nat):Int:=if n=4 then (A4.getD r []).getD i 0 else par (r &&& i)
def halfM (n:Nat) (g:Nat→Nat→Int) (l:List Int) (r k:Nat):Int:=sumF (fun i=>g r i*l.getD (i*n+k) 0) n
end Go.Proofs.YtndflfipaddfoaaGreat


namespace Go.Proofs.YtndflfipaddfoaaGreat
open Go Go.Abs
attribute [local irreducible] WpA WpL Rnd Blk Abs.Seq Abs.Fin Abs.FinG FnC FnG Only
end Go.Proofs.YtndflfipaddfoaaGreat


namespace Go.Proofs.YtndflfipaddfoaaGreat
open Go Go.Abs
attribute [local irreducible] WpA WpL Rnd Blk Abs.Seq Abs.Fin Abs.FinG FnC FnG Only
abbrev sh (n:Nat) (g:Nat→Nat→Int) (l:List Int) (r k i:Nat):Int:=sumF (fun i=>g r i*l.getD (i*n+k) 0) i
abbrev so (n:Nat) (g:Nat→Nat→Int) (l:List Int) (r k i:Nat):Int:=sumF (fun i=>halfM n g l r i*g k i) i
end Go.Proofs.YtndflfipaddfoaaGreat


namespace Go.Proofs.YtndflfipaddfoaaGreat
open Go Go.Abs
attribute [local irreducible] WpA WpL Rnd Blk Abs.Seq Abs.Fin Abs.FinG FnC FnG Only RollN
def cellsH (r:Nat):List AV:=(List.range 8).map fun q=>if q<r then .fre 1 8 (ints (tabL (mx 8 q) 8)) else .nilS
attribute [local irreducible] cellsH
end Go.Proofs.YtndflfipaddfoaaGreat


namespace Go.Proofs.YtndflfipaddfoaaGreat
open Go Go.Abs
attribute [local irreducible] WpA WpL Rnd Blk Abs.Seq Abs.Fin Abs.FinG FnC FnG Only
end Go.Proofs.YtndflfipaddfoaaGreat


namespace Go.Proofs.YtndflfipaddfoaaGreat
open Go Go.Abs
attribute [local irreducible] WpA WpL Rnd Blk Abs.Seq Abs.Fin Abs.FinG FnC FnG Only
end Go.Proofs.YtndflfipaddfoaaGreat


namespace Go.Proofs.YtndflfipaddfoaaGreat
open Go Go.Abs
attribute [local irreducible] WpA WpL Rnd Blk Abs.Seq Abs.Fin Abs.FinG FnC FnG Only
end Go.Proofs.YtndflfipaddfoaaGreat


namespace Go.Proofs.YtndflfipaddfoaaGreat
open Go Go.Abs
attribute [local irreducible] WpA WpL Rnd Blk Abs.Seq Abs.Fin Abs.FinG FnC FnG Only
end Go.Proofs.YtndflfipaddfoaaGreat


namespace Go.Proofs.YtndflfipaddfoaaGreat
open Go Go.Abs
attribute [local irreducible] WpA WpL Rnd Blk Abs.Seq Abs.Fin Abs.FinG FnC FnG Only
end Go.Proofs.YtndflfipaddfoaaGreat


namespace Go.Proofs.YtndflfipaddfoaaGreat
open Go Go.Abs
end Go.Proofs.YtndflfipaddfoaaGreat


namespace Go.Proofs.YtndflfipaddfoaaGreat
open Go Go.Abs
end Go.Proofs.YtndflfipaddfoaaGreat


namespace Go.Proofs.YtndflfipaddfoaaGreat
open Go Go.Abs
attribute [local irreducible] belowD onceD pickD modeD l8D l8AnyD optD anyD seedD
structure Hd6 where
 w:Int
 h:Int
 q:Int
 b:Bool
 d:Bool
 lens:List Int
abbrev quant6:List Int:=[0,6,12,20,36,51]
def headD (l:List Int) (c:Cr):Cr×Hd6:=
 let w:=belowD l c 2
 let h:=belowD l w.1 2
 let q:=pickD l h.1 quant6
 let b:=onceD l q.1 4
 let d:=onceD l b.1 2
 let e:=l8D l d.1
 (e.1,⟨8*(1+w.2),8*(1+h.2),q.2,b.2,d.2,e.2⟩)
theorem headD_ok {l:List Int} {c:Cr} (h:CrOk l c):CrOk l (headD l c).1∧(headD l c).2.lens.length=6∧SidesOk (headD l c).2.w (headD l c).2.h:=by
 have h1:=belowD_ok 2 h
 have h2:=belowD_ok 2 h1.1
 have h3:=pickD_ok (xs:=quant6) h2.1 (by decide)
 have h4:=onceD_ok 4 h3.1
 have h5:=onceD_ok 2 h4
 have h6:=l8D_ok h5
 have a1:=h1.2.1
 have a2:=h1.2.2.1 (by decide)
 have a3:=h2.2.1
 have a4:=h2.2.2.1 (by decide)
 refine ⟨h6.1,h6.2,?_⟩
 show SidesOk (8*(1+(belowD l c 2).2)) (8*(1+(belowD l (belowD l c 2).1 2).2))
 refine ⟨?_,?_,?_,?_,?_,?_⟩<;>omega
def headAnyD (l:List Int) (c:Cr):Cr×Hd6:=
 let x:=headD l c
 let s:=belowD l x.1 12
 if s.2=0 then
  let p:=pickD l s.1 [0,40,12,32]
  (p.1,{x.2 with w:=p.2})
 else if s.2=1 then
  let p:=pickD l s.1 [-1,52,51]
  (p.1,{x.2 with q:=p.2})
 else if s.2=2 then
  let y:=l8AnyD l s.1
  (y.1,{x.2 with lens:=y.2})
 else (s.1,x.2)
theorem headAnyD_0 {l:List Int} {c:Cr} (h:(belowD l (headD l c).1 12).2=0):headAnyD l c=((pickD l (belowD l (headD l c).1 12).1 [0,40,12,32]).1,{(headD l c).2 with w:=(pickD l (belowD l (headD l c).1 12).1 [0,40,12,32]).2}):=by
 unfold headAnyD;simp only;rw [if_pos h]
theorem headAnyD_1 {l:List Int} {c:Cr} (h:(belowD l (headD l c).1 12).2=1):headAnyD l c=((pickD l (belowD l (headD l c).1 12).1 [-1,52,51]).1,{(headD l c).2 with q:=(pickD l (belowD l (headD l c).1 12).1 [-1,52,51]).2}):=by
 unfold headAnyD;simp only;rw [if_neg (by omega),if_pos h]
theorem headAnyD_2 {l:List Int} {c:Cr} (h:(belowD l (headD l c).1 12).2=2):headAnyD l c=((l8AnyD l (belowD l (headD l c).1 12).1).1,{(headD l c).2 with lens:=(l8AnyD l (belowD l (headD l c).1 12).1).2}):=by
 unfold headAnyD;simp only;rw [if_neg (by omega),if_neg (by omega),if_pos h]
theorem headAnyD_3 {l:List Int} {c:Cr} (h:(belowD l (headD l c).1 12).2≠0) (h1:(belowD l (headD l c).1 12).2≠1) (h2:(belowD l (headD l c).1 12).2≠2):headAnyD l c=((belowD l (headD l c).1 12).1,(headD l c).2):=by
 unfold headAnyD;simp only;rw [if_neg h,if_neg h1,if_neg h2]
theorem headAnyD_ok {l:List Int} {c:Cr} (h:CrOk l c):CrOk l (headAnyD l c).1∧(headAnyD l c).2.lens.length≤6:=by
 have ho:=headD_ok h
 have hs:=belowD_ok 12 ho.1
 by_cases h0:(belowD l (headD l c).1 12).2=0
 ·rw [headAnyD_0 h0];exact ⟨(pickD_ok hs.1 (by decide)).1,Nat.le_of_eq ho.2.1⟩
 ·by_cases h1:(belowD l (headD l c).1 12).2=1
  ·rw [headAnyD_1 h1];exact ⟨(pickD_ok hs.1 (by decide)).1,Nat.le_of_eq ho.2.1⟩
  ·by_cases h2:(belowD l (headD l c).1 12).2=2
   ·rw [headAnyD_2 h2];exact ⟨(l8AnyD_ok hs.1).1,(l8AnyD_ok hs.1).2⟩
   ·rw [headAnyD_3 h0 h1 h2];exact ⟨hs.1,Nat.le_of_eq ho.2.1⟩
end Go.Proofs.YtndflfipaddfoaaGreat


namespace Go.Proofs.YtndflfipaddfoaaGreat
open Go Go.Abs
attribute [local irreducible] belowD onceD pickD modeD l8D l8AnyD optD anyD seedD headD headAnyD
def bmA (l lens:List Int):Nat→Bool→Cr×Int→Cr×Int
 |0,_,s=>s
 |n+1,f,s=>if f=true∨¬HasC lens s.2 then bmA l lens n false (belowD l s.1 6) else s
def bmB (lens:List Int):Nat→Int→Int
 |0,m=>m
 |n+1,m=>if ¬HasC lens m then bmB lens n (m+1) else m
def bmC (lens:List Int) (m:Int):Int:=if HasC lens m then m else 1
theorem bmA_ok {l lens:List Int}:∀(n:Nat) (f:Bool) {s:Cr×Int},CrOk l s.1→0≤s.2∧s.2≤5→CrOk l (bmA l lens n f s).1∧0≤(bmA l lens n f s).2∧(bmA l lens n f s).2≤5
 |0,_,s,h,hb=>⟨h,hb⟩
 |n+1,f,s,h,hb=>by
  rw [bmA];split
  ·have h1:=belowD_ok 6 h
   have h2:=h1.2.1
   have h3:=h1.2.2.1 (by decide)
   exact bmA_ok n false h1.1 ⟨h2,by omega⟩
  ·exact ⟨h,hb⟩
theorem bmA_go {l lens:List Int} {n:Nat} {f:Bool} {s:Cr×Int} (h:f=true∨¬HasC lens s.2):bmA l lens (n+1) f s=bmA l lens n false (belowD l s.1 6):=by rw [bmA,if_pos h]
theorem bmA_stop {l lens:List Int} {n:Nat} {s:Cr×Int} (h:HasC lens s.2):bmA l lens n false s=s:=by
 cases n with
 |zero=>rfl
 |succ n=>rw [bmA,if_neg];rintro (h1|h1);cases h1;exact h1 h
theorem bmB_go {lens:List Int} {m:Int} (hm:m<6) (h:¬HasC lens m):bmB lens (6-m).toNat m=bmB lens (6-(m+1)).toNat (m+1):=by
 rw [show (6-m).toNat=(6-(m+1)).toNat+1 by omega,bmB,if_pos h]
theorem bmB_stop {lens:List Int} {m:Int} (h:HasC lens m∨¬m<6):bmB lens (6-m).toNat m=m:=by
 by_cases hm:m<6
 ·rw [show (6-m).toNat=(6-(m+1)).toNat+1 by omega,bmB,if_neg]
  rcases h with h|h
  ·exact fun h1=>h1 h
  ·exact absurd hm h
 ·rw [show (6-m).toNat=0 by omega];rfl
def blkM (l lens:List Int) (c:Cr):Cr×Int:=((bmA l lens 8 true (c,0)).1,bmC lens (bmB lens (6-(bmA l lens 8 true (c,0)).2).toNat (bmA l lens 8 true (c,0)).2))
theorem blkM_ok {l lens:List Int} {c:Cr} (h:CrOk l c):CrOk l (blkM l lens c).1:=(bmA_ok 8 true (s:=(c,0)) h ⟨Int.le_refl 0,by show (0:Int)≤5;omega⟩).1
abbrev ixs (n:Int) (x:Int):List Int:=[0,0,1,2,n*n-1,x]
abbrev lvs (x:Int):List Int:=[1,-1,3,-20,90,x-200]
def dvS (l:List Int) (n:Int) (s:Cr×List Int):Cr×List Int:=
 ((pickD l (belowD l (pickD l (belowD l s.1 (n*n)).1 (ixs n (belowD l s.1 (n*n)).2)).1 400).1 (lvs (belowD l (pickD l (belowD l s.1 (n*n)).1 (ixs n (belowD l s.1 (n*n)).2)).1 400).2)).1,
  s.2.set (pickD l (belowD l s.1 (n*n)).1 (ixs n (belowD l s.1 (n*n)).2)).2.toNat (pickD l (belowD l (pickD l (belowD l s.1 (n*n)).1 (ixs n (belowD l s.1 (n*n)).2)).1 400).1 (lvs (belowD l (pickD l (belowD l s.1 (n*n)).1 (ixs n (belowD l s.1 (n*n)).2)).1 400).2)).2)
def dvK (l:List Int) (n:Int):Nat→Cr×List Int→Cr×List Int
 |0,s=>s
 |k+1,s=>dvK l n k (dvS l n s)
structure LvSt (l:List Int) (n:Int) (s:Cr×List Int) where
 b:Cr×Int
 i:Cr×Int
 q:Cr×Int
 v:Cr×Int
 hb:b=belowD l s.1 (n*n)
 hi:i=pickD l b.1 (ixs n b.2)
 hq:q=belowD l i.1 400
 hv:v=pickD l q.1 (lvs q.2)
theorem dvS_facts {l:List Int} {n:Int} {s:Cr×List Int} (hn:n=4∨n=8) (h:CrOk l s.1):CrOk l (belowD l s.1 (n*n)).1∧CrOk l (pickD l (belowD l s.1 (n*n)).1 (ixs n (belowD l s.1 (n*n)).2)).1∧
 (0≤(pickD l (belowD l s.1 (n*n)).1 (ixs n (belowD l s.1 (n*n)).2)).2∧(pickD l (belowD l s.1 (n*n)).1 (ixs n (belowD l s.1 (n*n)).2)).2<n*n)∧
 CrOk l (belowD l (pickD l (belowD l s.1 (n*n)).1 (ixs n (belowD l s.1 (n*n)).2)).1 400).1∧CrOk l (dvS l n s).1∧(dvS l n s).2.length=s.2.length:=by
 have hnn:n*n=16∨n*n=64:=by rcases hn with rfl|rfl<;>decide
 have h1:=belowD_ok (n*n) h
 have h2:=pickD_ok (xs:=ixs n (belowD l s.1 (n*n)).2) h1.1 (by simp)
 have h3:=belowD_ok 400 h2.1
 have h4:=pickD_ok (xs:=lvs (belowD l (pickD l (belowD l s.1 (n*n)).1 (ixs n (belowD l s.1 (n*n)).2)).1 400).2) h3.1 (by simp)
 have a:=h1.2.1
 have b:=h1.2.2.1 (by omega)
 have e:=h2.2
 simp only [List.mem_cons,List.not_mem_nil,or_false] at e
 exact ⟨h1.1,h2.1,by omega,h3.1,h4.1,by unfold dvS;rw [List.length_set]⟩
theorem dvK_ok {l:List Int} {n:Int} (hn:n=4∨n=8):∀(k:Nat) {s:Cr×List Int},CrOk l s.1→CrOk l (dvK l n k s).1∧(dvK l n k s).2.length=s.2.length
 |0,s,h=>⟨h,rfl⟩
 |k+1,s,h=>by
  have h1:=dvS_facts hn h
  have h2:=dvK_ok hn k h1.2.2.2.2.1
  exact ⟨h2.1,by rw [dvK,h2.2,h1.2.2.2.2.2]⟩
def blkD (l lens:List Int) (n:Int) (c:Cr):Cr×Blok:=
 ((dvK l n (belowD l (blkM l lens c).1 5).2.toNat ((belowD l (blkM l lens c).1 5).1,List.replicate (n*n).toNat 0)).1,
  ((blkM l lens c).2,(dvK l n (belowD l (blkM l lens c).1 5).2.toNat ((belowD l (blkM l lens c).1 5).1,List.replicate (n*n).toNat 0)).2))
theorem blkD_ok {l lens:List Int} {n:Int} {c:Cr} (hn:n=4∨n=8) (h:CrOk l c):CrOk l (blkD l lens n c).1∧((blkD l lens n c).2.2.length:Int)=n*n:=by
 have h1:=belowD_ok 5 (blkM_ok (lens:=lens) h)
 have h2:=dvK_ok hn (belowD l (blkM l lens c).1 5).2.toNat (s:=((belowD l (blkM l lens c).1 5).1,List.replicate (n*n).toNat 0)) h1.1
 refine ⟨h2.1,?_⟩
 unfold blkD
 simp only
 rw [h2.2,List.length_replicate]
 rcases hn with rfl|rfl<;>decide
def mbsK (l lens:List Int) (n:Int):Nat→Cr×List Blok→Cr×List Blok
 |0,s=>s
 |k+1,s=>mbsK l lens n k ((blkD l lens n s.1).1,s.2++[(blkD l lens n s.1).2])
def SqB (n:Int) (bs:List Blok):Prop:=∀b∈bs,(b.2.length:Int)=n*n
theorem mbsK_ok {l lens:List Int} {n:Int} (hn:n=4∨n=8):∀(k:Nat) {s:Cr×List Blok},CrOk l s.1→SqB n s.2→CrOk l (mbsK l lens n k s).1∧(mbsK l lens n k s).2.length=s.2.length+k∧SqB n (mbsK l lens n k s).2
 |0,s,h,hb=>⟨h,rfl,hb⟩
 |k+1,s,h,hb=>by
  have h1:=blkD_ok (lens:=lens) hn h
  have h2:=mbsK_ok (lens:=lens) hn k (s:=((blkD l lens n s.1).1,s.2++[(blkD l lens n s.1).2])) h1.1 (by
   intro b hb2
   rcases List.mem_append.1 hb2 with hb2|hb2
   ·exact hb b hb2
   ·rw [List.mem_singleton.1 hb2];exact h1.2)
  exact ⟨h2.1,by rw [mbsK,h2.2.1];simp;omega,h2.2.2⟩
def mbD (l lens:List Int) (c:Cr):Cr×Mbk:=
 ((mbsK l lens (sz8 (onceD l c 3).2) (nm8 (onceD l c 3).2).toNat ((onceD l c 3).1,[])).1,((onceD l c 3).2,(mbsK l lens (sz8 (onceD l c 3).2) (nm8 (onceD l c 3).2).toNat ((onceD l c 3).1,[])).2))
theorem sz8_48 (e:Bool):sz8 e=4∨sz8 e=8:=by cases e<;>simp [sz8]
theorem mbD_ok {l lens:List Int} {c:Cr} (h:CrOk l c):CrOk l (mbD l lens c).1∧((mbD l lens c).2.2.length:Int)=nm8 (mbD l lens c).2.1∧SqB (sz8 (mbD l lens c).2.1) (mbD l lens c).2.2:=by
 have h1:=onceD_ok 3 h
 have h2:=mbsK_ok (lens:=lens) (sz8_48 (onceD l c 3).2) (nm8 (onceD l c 3).2).toNat (s:=((onceD l c 3).1,[])) h1 (fun b hb=>by cases hb)
 refine ⟨h2.1,?_,h2.2.2⟩
 have:=h2.2.1
 simp only [List.length_nil,Nat.zero_add] at this
 show ((mbsK l lens _ _ _).2.length:Int)=nm8 (onceD l c 3).2
 rw [this]
 cases (onceD l c 3).2<;>decide
theorem sq_small {e:Bool} {bs:List Blok} (h:SqB (sz8 e) bs):∀b∈bs,b.2.length≤64:=fun b hb=>by
 have:=h b hb
 rcases sz8_48 e with e2|e2<;>rw [e2] at this<;>omega
def strK (l lens:List Int):Nat→Cr×List Mbk→Cr×List Mbk
 |0,s=>s
 |k+1,s=>strK l lens k ((mbD l lens s.1).1,s.2++[(mbD l lens s.1).2])
def MbG (m:Mbk):Prop:=m.2.length≤4∧∀b∈m.2,b.2.length≤64
theorem mbD_g {l lens:List Int} {c:Cr} (h:CrOk l c):MbG (mbD l lens c).2:=by
 have h1:=mbD_ok (lens:=lens) h
 refine ⟨?_,sq_small h1.2.2⟩
 have:=h1.2.1
 cases hx:(mbD l lens c).2.1<;>rw [hx] at this<;>simp [nm8] at this<;>omega
theorem strK_ok {l lens:List Int}:∀(k:Nat) {s:Cr×List Mbk},CrOk l s.1→(∀ m∈s.2,MbG m)→CrOk l (strK l lens k s).1∧(strK l lens k s).2.length=s.2.length+k∧∀m∈(strK l lens k s).2,MbG m
 |0,s,h,hb=>⟨h,rfl,hb⟩
 |k+1,s,h,hb=>by
  have h1:=mbD_ok (lens:=lens) h
  have h2:=strK_ok (lens:=lens) k (s:=((mbD l lens s.1).1,s.2++[(mbD l lens s.1).2])) h1.1 (by
   intro b hb2
   rcases List.mem_append.1 hb2 with hb2|hb2
   ·exact hb b hb2
   ·rw [List.mem_singleton.1 hb2];exact mbD_g h)
  exact ⟨h2.1,by rw [strK,h2.2.1];simp;omega,h2.2.2⟩
structure Str8 where
 hd:Hd6
 ms:List Mbk
def strD (l:List Int) (c:Cr):Cr×Str8:=
 ((strK l (headD l c).2.lens (cntM (headD l c).2.w (headD l c).2.h).toNat ((headD l c).1,[])).1,⟨(headD l c).2,(strK l (headD l c).2.lens (cntM (headD l c).2.w (headD l c).2.h).toNat ((headD l c).1,[])).2⟩)
theorem strD_ok {l:List Int} {c:Cr} (h:CrOk l c):CrOk l (strD l c).1∧(strD l c).2.hd.lens.length=6∧SidesOk (strD l c).2.hd.w (strD l c).2.hd.h∧((strD l c).2.ms.length:Int)=cntM (strD l c).2.hd.w (strD l c).2.hd.h∧∀m∈(strD l c).2.ms,MbG m:=by
 have h1:=headD_ok h
 have h2:=strK_ok (lens:=(headD l c).2.lens) (cntM (headD l c).2.w (headD l c).2.h).toNat (s:=((headD l c).1,[])) h1.1 (fun m hm=>by cases hm)
 have h3:=cntM_bd h1.2.2
 refine ⟨h2.1,h1.2.1,h1.2.2,?_,h2.2.2⟩
 have:=h2.2.1
 simp only [List.length_nil,Nat.zero_add] at this
 show ((strK l _ _ _).2.length:Int)=cntM (headD l c).2.w (headD l c).2.h
 rw [this];omega
end Go.Proofs.YtndflfipaddfoaaGreat


namespace Go.Abs
open Go
structure Fis where
 sets:List (Nat×AObj)
 dead:Bool
def lkF:List (Nat×AObj)→Nat→Option AObj
 |[],_=>Option.none
 |(p,ob)::l,q=>if Nat.beq p q=true then some ob else lkF l q
def setsF:List (Nat×AObj)→List AObj→List AObj
 |[],Ov=>Ov
 |(p,ob)::l,Ov=>(setsF l Ov).set p ob
def Fis.got (f:Fis) (q:Nat):Option AObj:=lkF f.sets q
def Fis.isPutS (f:Fis):Bool:=f.dead
def Fis.run (f:Fis) (Ov:List AObj):List AObj:=match f.dead with
 |true=>setsF f.sets Ov++[deadO]
 |false=>setsF f.sets Ov
abbrev Fis.none:Fis:=⟨[],false⟩
abbrev Fis.put (p:Nat) (ob:AObj):Fis:=⟨[(p,ob)],true⟩
abbrev Fis.step (p:Nat) (ob:AObj):Fis:=⟨[(p,ob)],false⟩
abbrev Fis.both (c:Nat) (oc:AObj) (p:Nat) (ob:AObj):Fis:=⟨[(p,ob),(c,oc)],true⟩
def isPutS (ks:List Fis) (i:Nat):Bool:=(ks[i]?.map Fis.isPutS).getD false
def fillAllS:List Fis→List AObj→List AObj
 |[],Oi=>Oi
 |f::ks,Oi=>fillAllS ks (setsF f.sets Oi)
theorem setsF_len:∀(l:List (Nat×AObj)) (Ov:List AObj),(setsF l Ov).length=Ov.length
 |[],_=>rfl
 |(p,ob)::l,Ov=>by rw [setsF,List.length_set,setsF_len l Ov]
theorem setsF_at:∀(l:List (Nat×AObj)) (Ov:List AObj) (q:Nat),q<Ov.length→(setsF l Ov)[q]?=match lkF l q with|some ob=>some ob|Option.none=>Ov[q]?
 |[],_,_,_=>rfl
 |(p,ob)::l,Ov,q,hq=>by
  rw [setsF,lkF,List.getElem?_set]
  by_cases e:p=q
  ·subst e
   rw [if_pos rfl,if_pos (by rw [setsF_len];exact hq),if_pos (by simp)]
  ·rw [if_neg e,if_neg (by simpa using e)]
   exact setsF_at l Ov q hq
theorem setsF_out:∀(l:List (Nat×AObj)) (Ov:List AObj) (q:Nat),lkF l q=Option.none→(setsF l Ov)[q]?=Ov[q]?
 |[],_,_,_=>rfl
 |(p,ob)::l,Ov,q,h=>by
  rw [lkF] at h
  split at h
  ·cases h
  ·rename_i e
   rw [setsF,List.getElem?_set,if_neg (by simpa using e)]
   exact setsF_out l Ov q h
theorem fillAllS_len:∀(ks:List Fis) (Oi:List AObj),(fillAllS ks Oi).length=Oi.length
 |[],_=>rfl
 |f::ks,Oi=>by rw [fillAllS,fillAllS_len ks,setsF_len]
theorem lkF_mem:∀{l:List (Nat×AObj)} {q:Nat} {ob:AObj},lkF l q=some ob→∃x∈l,x.1=q
 |[],_,_,h=>by simp [lkF] at h
 |(p,o)::l,q,ob,h=>by
  rw [lkF] at h
  split at h
  ·rename_i e;exact ⟨(p,o),by simp,by simpa using e⟩
  ·obtain ⟨x,hx,e⟩:=lkF_mem h;exact ⟨x,List.mem_cons_of_mem _ hx,e⟩
def spotsS (ks:List Fis):List Nat:=ks.flatMap fun f=>f.sets.map (·.1)
theorem keepB_ofS {c k:Nat} {ks:List Fis}:∀{l:List Nat},keepB c (spotsS ks) l=true→∀{q},memB q l=true→q<c∧∀i f p ob,i<k→ks[i]?=some f→f.got p=some ob→p≠q
 |[],_,q,h=>by cases h
 |x::l,hB,q,h=>by
  simp only [keepB,Bool.and_eq_true,Bool.not_eq_true'] at hB
  simp only [memB,Bool.or_eq_true] at h
  rcases h with h|h
  ·have e:q=x:=Nat.eq_of_beq_eq_true h
   subst e
   refine ⟨Nat.le_of_ble_eq_true hB.1.1,fun i f p ob _ hf hg e=>?_⟩
   subst e
   obtain ⟨y,hy,e2⟩:=lkF_mem hg
   refine memB_false hB.1.2 ?_
   unfold spotsS
   rw [List.mem_flatMap]
   exact ⟨f,List.mem_of_getElem? hf,by rw [←e2];exact List.mem_map_of_mem hy⟩
  ·exact keepB_ofS hB.2 h
inductive HeadS (P:Program) (n m:Nat) (G:Ctx) (ops:Array Oper) (T0:List (Nat×AV)) (O Oi:List AObj) (keep sh:List Nat):List (Nat×AV)→List Fis→List Oper→List (Nat×AV)→List Fis→Prop
 |nil {fs gs}:HeadS P n m G ops T0 O Oi keep sh fs gs [] fs gs
 |cons {fs out:List (Nat×AV)} {gs:List Fis} {o:Oper} {l:List Oper} {d:Nat} {V:AV} {F:List (Nat×AV)} {ks:List Fis} (k:Fis) (hF:deps fs o=F)
   (h:∀Tv Ov,Oi.length≤Ov.length→(∀ p ob,k.got p=some ob→Ov[p]?=(fillAllS gs Oi)[p]?)→(∀ j f p ob,waits o j=true→gs[j]?=some f→f.got p=some ob→memB p sh=false→Ov[p]?=some ob)→(∀ q,memB q keep=true→Ov[q]?=Oi[q]?)→
    WpL P n m G false ops [o] ⟨F++(T0++Tv),O++Ov⟩ (Only ⟨(d,V)::(F++(T0++Tv)),O++k.run Ov⟩)) (r:HeadS P n m G ops T0 O Oi keep sh (fs++[(d,V)]) (gs++[k]) l out ks):HeadS P n m G ops T0 O Oi keep sh fs gs (o::l) out ks
section
variable {P:Program} {n m:Nat} {G:Ctx} {ops:Array Oper} {T0:List (Nat×AV)} {O Oi:List AObj} {keep sh:List Nat}
theorem HeadS.pre {fs gs l out ks} (h:HeadS P n m G ops T0 O Oi keep sh fs gs l out ks):∃r s,out=fs++r∧r.length=l.length∧ks=gs++s∧s.length=l.length:=by
 induction h with
 |nil=>exact ⟨[],[],by simp,rfl,by simp,rfl⟩
 |@cons fs out gs o l d V F ks k _ _ _ ih=>obtain ⟨r,s,h1,h2,h3,h4⟩:=ih;exact ⟨(d,V)::r,k::s,by rw [h1];simp,by simp [h2],by rw [h3];simp,by simp [h4]⟩
theorem HeadS.at {fs gs l out ks} (h:HeadS P n m G ops T0 O Oi keep sh fs gs l out ks) (hg:gs.length=fs.length):∀{j:Nat} {o:Oper},l[j]?=some o→∃d V k,out[fs.length+j]?=some (d,V)∧ks[fs.length+j]?=some k∧
 ∀Tv Ov,Oi.length≤Ov.length→(∀ p ob,k.got p=some ob→Ov[p]?=(fillAllS (ks.take (fs.length+j)) Oi)[p]?)→(∀ i f p ob,waits o i=true→(ks.take (fs.length+j))[i]?=some f→f.got p=some ob→memB p sh=false→Ov[p]?=some ob)→(∀ q,memB q keep=true→Ov[q]?=Oi[q]?)→
  WpL P n m G false ops [o] ⟨deps (out.take (fs.length+j)) o++(T0++Tv),O++Ov⟩ (Only ⟨(d,V)::(deps (out.take (fs.length+j)) o++(T0++Tv)),O++k.run Ov⟩):=by
 induction h with
 |nil=>intro j o h;simp at h
 |@cons fs out gs o l d V F ks k hF h r ih=>
  intro j o' hj
  obtain ⟨r',s',h1,h2,h3,h4⟩:=r.pre
  cases j with
  |zero=>
   simp only [List.getElem?_cons_zero,Option.some.injEq] at hj
   subst hj
   refine ⟨d,V,k,by rw [h1];simp,by rw [h3];simp [hg],?_⟩
   have:out.take (fs.length+0)=fs:=by rw [h1,Nat.add_zero,List.append_assoc,List.take_left'];rfl
   have e2:ks.take (fs.length+0)=gs:=by rw [h3,Nat.add_zero,List.append_assoc,List.take_left'];exact hg
   rw [this,hF,e2];exact h
  |succ j=>
   have:=ih (by simp [hg]) (j:=j) (o:=o') (by simpa using hj)
   rw [List.length_append,List.length_singleton,Nat.add_assoc,Nat.add_comm 1 j] at this
   simpa using this
theorem fillAllS_cases:∀(L:List Fis) (Oi:List AObj) (q:Nat),q<Oi.length→(∃ (i:Nat) (f:Fis) (ob:AObj),L[i]?=some f∧f.got q=some ob∧(∀ (j:Nat) (g:Fis) (oc:AObj),i<j→L[j]?=some g→g.got q≠some oc)∧(fillAllS L Oi)[q]?=some ob)∨
 ((∀ (j:Nat) (g:Fis) (oc:AObj),L[j]?=some g→g.got q≠some oc)∧(fillAllS L Oi)[q]?=Oi[q]?)
 |[],Oi,q,hq=>.inr ⟨fun j g oc h=>by simp at h,rfl⟩
 |f::L,Oi,q,hq=>by
  rw [fillAllS]
  rcases fillAllS_cases L (setsF f.sets Oi) q (by rw [setsF_len];exact hq) with ⟨i,g,ob,h1,h2,h3,h4⟩|⟨h1,h2⟩
  ·refine .inl ⟨i+1,g,ob,by simpa using h1,h2,fun j g' oc hj hg=>?_,h4⟩
   cases j with
   |zero=>omega
   |succ j=>exact h3 j g' oc (by omega) (by simpa using hg)
  ·cases hs:f.got q with
   |some ob0=>
    refine .inl ⟨0,f,ob0,by simp,hs,fun j g' oc hj hg=>?_,?_⟩
    ·cases j with
     |zero=>omega
     |succ j=>exact h1 j g' oc (by simpa using hg)
    ·rw [h2,setsF_at _ _ _ hq]
     unfold Fis.got at hs;rw [hs]
   |none=>
    refine .inr ⟨fun j g oc hg=>?_,by rw [h2];exact setsF_out _ _ _ hs⟩
    cases j with
    |zero=>simp at hg;subst hg;rw [hs];simp
    |succ j=>exact h1 j g oc (by simpa using hg)
structure RoomS (ks:List Fis) (Oi:List AObj) (k:Nat) (listed:Array Bool) (Ov:List AObj):Prop where
 len:Ov.length=Oi.length+((List.range k).filter fun i=>listed.getD i false&&isPutS ks i).length
 cur:∀q,q<Oi.length→(∃ i f ob,i<k∧listed.getD i false=true∧ks[i]?=some f∧f.got q=some ob∧(∀ j g oc,i<j→j<k→listed.getD j false=true→ks[j]?=some g→g.got q≠some oc)∧Ov[q]?=some ob)∨
  ((∀ j g oc,j<k→listed.getD j false=true→ks[j]?=some g→g.got q≠some oc)∧Ov[q]?=Oi[q]?)
 dead:∀q,Oi.length≤q→q<Ov.length→Ov[q]?=some deadO
structure RoomSOk (ops:Array Oper) (sh:List Nat) (ks:List Fis) (c k:Nat):Prop where
 lt:∀i f p ob,i<k→ks[i]?=some f→f.got p=some ob→p<c
 chain:∀i j f g p ob oc,i<j→j<k→ks[i]?=some f→ks[j]?=some g→f.got p=some ob→g.got p=some oc→memB p sh=true∧reach ops 24 j i=true
theorem reach_hall {k:Nat} {listed:Array Bool} {o:Oper} {i j f:Nat} (inv:HeadInv .any ops k listed) (ho:ops[i]?=some o) (hall:∀e∈o.after,Region.binds .any e=true→listed.getD e.on false=true) (h:reach ops f i j=true):listed.getD j false=true:=by
 cases f with
 |zero=>simp [reach] at h
 |succ f=>
  rw [reach,ho] at h
  rcases Bool.or_eq_true_iff.1 h with h|h
  ·obtain ⟨e,he,hx⟩:=List.any_eq_true.1 h
   rw [Bool.and_eq_true] at hx
   have:=hall e (by simpa using he) hx.1
   rw [Nat.eq_of_beq_eq_true hx.2] at this;exact this
  ·obtain ⟨e,he,hx⟩:=List.any_eq_true.1 h
   rw [Bool.and_eq_true] at hx
   exact reach_listed inv f _ _ hx.2 (hall e (by simpa using he) hx.1)
theorem RoomS.before {ks:List Fis} {k i:Nat} {listed:Array Bool} {Ov:List AObj} {f:Fis} {o:Oper} (h:RoomS ks Oi k listed Ov) (ok:RoomSOk ops sh ks Oi.length k) (inv:HeadInv .any ops k listed) (hik:i<k) (hu:listed.getD i false=false) (hall:∀e∈o.after,Region.binds .any e=true→listed.getD e.on false=true) (ho:ops[i]?=some o) (hf:ks[i]?=some f) {p:Nat} {ob:AObj} (hsp:f.got p=some ob):
 Ov[p]?=(fillAllS (ks.take i) Oi)[p]?:=by
 have hp:=ok.lt i f p ob hik hf hsp
 have hbef:∀j g oc,j<i→ks[j]?=some g→g.got p=some oc→listed.getD j false=true:=by
  intro j g oc hj hg hs
  exact reach_hall inv ho hall (ok.chain j i g f p oc ob hj hik hg hf hs hsp).2
 have haft:∀j g oc,i<j→j<k→ks[j]?=some g→g.got p=some oc→listed.getD j false=false:=by
  intro j g oc hj hjk hg hs
  have hw:=(ok.chain i j f g p ob oc hj hjk hf hg hsp hs).2
  cases hl:listed.getD j false with
  |false=>rfl
  |true=>
   have:=reach_listed inv _ _ _ hw hl
   rw [hu] at this;cases this
 have htk:∀j g,(ks.take i)[j]?=some g→j<i∧ks[j]?=some g:=by
  intro j g hg
  rw [List.getElem?_take] at hg
  split at hg
  ·rename_i hj;exact ⟨hj,hg⟩
  ·cases hg
 rcases h.cur p hp with ⟨j,g,oc,hjk,hl,hg,hs,hlast,hv⟩|⟨hno,hv⟩<;>rcases fillAllS_cases (ks.take i) Oi p hp with ⟨j2,g2,oc2,hg2,hs2,hlast2,hv2⟩|⟨hno2,hv2⟩
 ·obtain ⟨hj2,hg2⟩:=htk j2 g2 hg2
  have hji:j<i:=by
   rcases Nat.lt_trichotomy j i with h1|h1|h1
   ·exact h1
   ·subst h1;rw [hu] at hl;cases hl
   ·rw [haft j g oc h1 hjk hg hs] at hl;cases hl
  have:j=j2:=by
   rcases Nat.lt_trichotomy j j2 with h1|h1|h1
   ·exact absurd hs2 (hlast j2 g2 oc2 h1 (by omega) (hbef j2 g2 oc2 hj2 hg2 hs2) hg2)
   ·exact h1
   ·exact absurd hs (hlast2 j g oc h1 (by rw [List.getElem?_take,if_pos hji];exact hg))
  subst this
  rw [hg] at hg2;cases hg2
  rw [hs] at hs2;cases hs2
  rw [hv,hv2]
 ·have hji:j<i:=by
   rcases Nat.lt_trichotomy j i with h1|h1|h1
   ·exact h1
   ·subst h1;rw [hu] at hl;cases hl
   ·rw [haft j g oc h1 hjk hg hs] at hl;cases hl
  exact absurd hs (hno2 j g oc (by rw [List.getElem?_take,if_pos hji];exact hg))
 ·obtain ⟨hj2,hg2⟩:=htk j2 g2 hg2
  exact absurd hs2 (hno j2 g2 oc2 (by omega) (hbef j2 g2 oc2 hj2 hg2 hs2) hg2)
 ·rw [hv,hv2]
theorem RoomS.step {ks:List Fis} {k i:Nat} {listed:Array Bool} {Ov:List AObj} {f:Fis} (h:RoomS ks Oi k listed Ov) (ok:RoomSOk ops sh ks Oi.length k) (inv:HeadInv .any ops k listed) (hik:i<k) (hs:i<listed.size) (hu:listed.getD i false=false) (hf:ks[i]?=some f):
 RoomS ks Oi k (listed.setIfInBounds i true) (f.run Ov):=by
 have hself:(listed.setIfInBounds i true).getD i false=true:=by simp [hs]
 have hcnt:=count_set (f:=isPutS ks) hik hs hu
 have hlen:=h.len
 have hp:isPutS ks i=f.isPutS:=by unfold isPutS;rw [hf];rfl
 rw [hp] at hcnt
 have hrl:(f.run Ov).length=Ov.length+(if f.isPutS=true then 1 else 0):=by
  unfold Fis.run Fis.isPutS
  cases f.dead<;>simp [setsF_len]
 have hle:Oi.length≤Ov.length:=by omega
 have hrun:∀q,q<Ov.length→(f.run Ov)[q]?=(setsF f.sets Ov)[q]?:=by
  intro q hq
  unfold Fis.run
  cases f.dead
  ·rfl
  ·simp only
   rw [List.getElem?_append_left (by rw [setsF_len];exact hq)]
 have hoth:∀q,q<Ov.length→(∀ p ob,f.got p=some ob→p≠q)→(f.run Ov)[q]?=Ov[q]?:=by
  intro q hq hne
  rw [hrun q hq]
  refine setsF_out _ _ _ ?_
  cases hc:lkF f.sets q with
  |none=>rfl
  |some ob=>exact absurd rfl (hne q ob hc)
 have hown:∀p ob,f.got p=some ob→(f.run Ov)[p]?=some ob:=by
  intro p ob e
  have hpc:=ok.lt i f p ob hik hf e
  rw [hrun p (by omega),setsF_at _ _ _ (by omega)]
  unfold Fis.got at e;rw [e]
 refine ⟨by rw [hrl,hcnt,hlen];split<;>omega,fun q hq=>?_,fun q h1 h2=>?_⟩
 ·by_cases hq2:∃ob,f.got q=some ob
  ·obtain ⟨ob,hsp⟩:=hq2
   refine .inl ⟨i,f,ob,hik,hself,hf,hsp,fun j g oc hj hjk hl hg hs2=>?_,hown q ob hsp⟩
   rw [getD_set_ne false (by omega)] at hl
   have:=reach_listed inv _ _ _ (ok.chain i j f g q ob oc hj hjk hf hg hsp hs2).2 hl
   rw [hu] at this;cases this
  ·have hne:∀p ob,f.got p=some ob→p≠q:=fun p ob hsp e=>hq2 ⟨ob,e▸hsp⟩
   rw [hoth q (by omega) hne]
   rcases h.cur q hq with ⟨j,g,oc,hjk,hl,hg,hs2,hlast,hv⟩|⟨hno,hv⟩
   ·have hij:i≠j:=by rintro rfl;rw [hu] at hl;cases hl
    refine .inl ⟨j,g,oc,hjk,by rw [getD_set_ne false hij];exact hl,hg,hs2,fun j2 g2 oc2 h1 h2 h3 h4=>?_,hv⟩
    by_cases e:i=j2
    ·subst e;rw [hf] at h4;cases h4;exact fun h5=>hq2 ⟨_,h5⟩
    ·rw [getD_set_ne false e] at h3;exact hlast j2 g2 oc2 h1 h2 h3 h4
   ·refine .inr ⟨fun j2 g2 oc2 h2 h3 h4=>?_,hv⟩
    by_cases e:i=j2
    ·subst e;rw [hf] at h4;cases h4;exact fun h5=>hq2 ⟨_,h5⟩
    ·rw [getD_set_ne false e] at h3;exact hno j2 g2 oc2 h2 h3 h4
 ·rcases Nat.lt_or_ge q Ov.length with h3|h3
  ·rw [hoth q h3 (fun p ob e1=>by have:=ok.lt i f p ob hik hf e1;omega)]
   exact h.dead q h1 h3
  ·cases hd:f.dead with
   |false=>exact absurd h2 (by rw [hrl];unfold Fis.isPutS;rw [hd];simp;omega)
   |true=>
    have e:q=Ov.length:=by
     rw [hrl] at h2;unfold Fis.isPutS at h2;rw [hd] at h2;simp at h2;omega
    subst e
    unfold Fis.run;rw [hd];simp only
    rw [List.getElem?_append_right (by rw [setsF_len];exact Nat.le_refl _),setsF_len];simp
def GoodS (n m:Nat) (G:Ctx) (T0 out:List (Nat×AV)) (O Oi:List AObj) (k:Nat) (ks:List Fis) (listed:Array Bool) (a:Act) (w:World):Prop:=
 ∃T Ov,Rel n m G ⟨T,O++Ov⟩ a w∧RoomS ks Oi k listed Ov∧(∀ (i d:Nat) (V:AV),out[i]?=some (d,V)→listed.getD i false=true→look T d=V)∧∀t,has out t=false→look T t=look T0 t
theorem head_stepS {out:List (Nat×AV)} {ks:List Fis} {k:Nat} (H:Heads ops T0 out k) (ok:RoomSOk ops sh ks Oi.length k) (hkp:∀q,memB q keep=true→q<Oi.length∧∀i f p ob,i<k→ks[i]?=some f→f.got p=some ob→p≠q) {Q:Exit→Act→World→Prop} (hJ:∀{j:Nat} {o:Oper},j<k→ops[j]?=some o→∃d V f,out[j]?=some (d,V)∧ks[j]?=some f∧
 ∀Tv Ov,Oi.length≤Ov.length→(∀ p ob,f.got p=some ob→Ov[p]?=(fillAllS (ks.take j) Oi)[p]?)→(∀ i f p ob,waits o i=true→(ks.take j)[i]?=some f→f.got p=some ob→memB p sh=false→Ov[p]?=some ob)→(∀ q,memB q keep=true→Ov[q]?=Oi[q]?)→WpL P n m G false ops [o] ⟨deps (out.take j) o++(T0++Tv),O++Ov⟩ (Only ⟨(d,V)::(deps (out.take j) o++(T0++Tv)),O++f.run Ov⟩))
 {listed:Array Bool} (inv:HeadInv .any ops k listed) {i:Nat} (hi:i∈Region.ready .any ops listed) (hik:i<k) {a w} (hg:GoodS n m G T0 out O Oi k ks listed a w) {K:Act→World→Prop}
 (hK:∀a' w',GoodS n m G T0 out O Oi k ks (listed.setIfInBounds i true) a' w'→K a' w'):wpOp P ops Q i K a w:=by
 obtain ⟨hun,o,ho,hall⟩:=mem_ready.1 hi
 obtain ⟨T,Ov,hr,hroom,h1,h2⟩:=hg
 obtain ⟨d,V,f,hout,hkf,hw⟩:=hJ hik ho
 have hF:∀t U,(t,U)∈deps (out.take i) o→look T t=U:=by
  intro t U hm
  simp only [deps,List.mem_filterMap] at hm
  obtain ⟨e,he,hx⟩:=hm
  split at hx
  ·rename_i hb
   have he':e∈o.after:=by simpa using he
   have hx':out[e.on]?=some (t,U):=by
    rw [List.getElem?_take] at hx
    split at hx
    ·exact hx
    ·simp at hx
   exact h1 _ _ _ hx' (hall e he' hb)
  ·simp at hx
 have same:∀t,look (deps (out.take i) o++(T0++T)) t=look T t:=by
  intro t
  rw [look_append]
  split
  ·rename_i h;exact (hF _ _ (has_look h)).symm
  ·rw [look_append]
   split
   ·rename_i h
    refine (h2 t ?_).symm
    cases hc:has out t with
    |false=>rfl
    |true=>have:=H.fresh _ (has_look hc);simp only at this;rw [this] at h;cases h
   ·rfl
 have hiu:listed.getD i false=false:=getD_both hun
 have hdep:∀j g p ob,waits o j=true→(ks.take i)[j]?=some g→g.got p=some ob→memB p sh=false→Ov[p]?=some ob:=by
  intro j g p ob hwt hg hsp hsh
  obtain ⟨e,he,hb,rfl⟩:=waits_spec hwt
  have hl:=hall e he hb
  rw [List.getElem?_take] at hg
  split at hg
  ·rename_i hji
   have hp:=ok.lt e.on g p ob (by omega) hg hsp
   rcases hroom.cur p hp with ⟨j2,g2,oc,hjk,hl2,hg2,hs2,hlast,hv⟩|⟨hno,hv⟩
   ·have hj:j2=e.on:=by
     rcases Nat.lt_trichotomy j2 e.on with h3|h3|h3
     ·have:=(ok.chain j2 e.on g2 g p oc ob h3 (by omega) hg2 hg hs2 hsp).1
      rw [hsh] at this;cases this
     ·exact h3
     ·have:=(ok.chain e.on j2 g g2 p ob oc h3 hjk hg hg2 hsp hs2).1
      rw [hsh] at this;cases this
    subst hj
    rw [hg] at hg2;cases hg2
    rw [hsp] at hs2;cases hs2
    exact hv
   ·exact absurd hsp (hno e.on g ob (by omega) hl hg)
  ·cases hg
 have hrest:∀q,memB q keep=true→Ov[q]?=Oi[q]?:=by
  intro q hq
  obtain ⟨hlt,hno⟩:=hkp q hq
  rcases hroom.cur q hlt with ⟨j,g,oc,hjk,_,hg,hs2,_,_⟩|⟨_,hv⟩
  ·exact absurd rfl (hno j g q oc hjk hg hs2)
  ·exact hv
 have hw':=hw T Ov (by rw [hroom.len];omega) (fun p ob e=>hroom.before ok inv hik hiu hall ho hkf e) hdep hrest a w (hr.relook same)
 have hst:=hroom.step ok inv hik (by rw [inv.size];have:=(Array.getElem?_eq_some_iff.1 ho).1;omega) hiu hkf
 simp only at hw'
 have good:∀a' w',Rel n m G ⟨(d,V)::(deps (out.take i) o++(T0++T)),O++f.run Ov⟩ a' w'→GoodS n m G T0 out O Oi k ks (listed.setIfInBounds i true) a' w':=by
  intro a' w' hr'
  refine ⟨_,_,hr',hst,fun j d' V' hj hl=>?_,fun t ht=>?_⟩
  ·by_cases hij:i=j
   ·subst hij;rw [hout] at hj;cases hj;exact look_cons_same _ _ _
   ·rw [getD_set_ne false hij] at hl
    have hne:d≠d':=by rintro rfl;exact hij (out_inj H.nodup hout hj)
    rw [look_cons_other _ _ _ _ hne,same]
    exact h1 _ _ _ hj hl
  ·have hne:d≠t:=by
    rintro rfl
    have:=has_mem (List.mem_of_getElem? hout)
    rw [ht] at this;cases this
   rw [look_cons_other _ _ _ _ hne,same];exact h2 t ht
 have only:∀e a' w',(∃ σ',Only ⟨(d,V)::(deps (out.take i) o++(T0++T)),O++f.run Ov⟩ e σ'∧Rel n m G σ' a' w')→e=.normal∧K a' w':=by
  rintro e a' w' ⟨σ',hq,hr'⟩
  cases e<;>first|(simp only [Only] at hq;subst hq;exact ⟨rfl,hK _ _ (good _ _ hr')⟩)|exact hq.elim
 unfold wpOp
 simp only [ho]
 change wpList P ops _ [o] a w at hw'
 unfold wpList at hw'
 by_cases hwant:Region.wanted o (yielded ops a.tmps)=true
 ·rw [if_pos hwant] at hw' ⊢
  rcases hw' with hw'|⟨_,a',w',hx⟩
  ·refine .inl ?_
   unfold Oper.wp at hw' ⊢
   generalize (execOp a.eval o).run P w=r at*
   cases r with
   |ok x w1=>
    cases x<;>simp only [Oper.upon] at hw' ⊢
    case value v=>exact (only _ _ _ hw').2
    case skip=>exact (only _ _ _ hw').2
    case defer d=>exact (only _ _ _ hw').2
    case enter f args=>
     refine hw'.mono fun e w2 h2=>?_
     cases e with
     |returned v=>exact (only _ _ _ h2).2
     |panicked c=>exact absurd (only _ _ _ h2).1 (by simp)
     |outgrown=>obtain ⟨_,_,hf⟩:=h2;exact absurd (only _ _ _ hf).1 (by simp)
    case row r ar=>exact hw'.mono fun v w2 h2=>(only _ _ _ h2).2
   |halt x w1=>cases x<;>simp only [Oper.upon] at hw' ⊢<;>first|exact absurd (only _ _ _ hw').1 (by simp)|exact hw'.elim|(obtain ⟨_,_,hf⟩:=hw';exact absurd (only _ _ _ hf).1 (by simp))
  ·exact absurd (only _ _ _ hx).1 (by simp)
 ·rw [if_neg hwant] at hw' ⊢
  exact (only _ _ _ hw').2
theorem WpA.regionS {l:List Oper} {id:Nat} {out T1:List (Nat×AV)} {ks:List Fis} {Q:Exit→St→Prop} (k:Nat) (hm:P.follows .mixedOrders=true) (hB:mixB l.toArray k=true)
 (hJ:HeadS P n m G l.toArray T0 O Oi keep sh [] [] (l.take k) out ks) (hok:RoomSOk l.toArray sh ks Oi.length k) (hkp:∀q,memB q keep=true→q<Oi.length∧∀i f p ob,i<k→ks[i]?=some f→f.got p=some ob→p≠q) (hnd:nodupB (out.map (·.1))=true) (hfr:(out.all fun p=>!has T0 p.1)=true)
 (hT1:out++T0=T1) (h:WpL P n m G false l.toArray (l.drop k) ⟨T1,O++(fillAllS ks Oi++List.replicate ((List.range k).filter fun i=>isPutS ks i).length deadO)⟩ Q):WpA P n m G (.region id l.toArray true) ⟨T0,O++Oi⟩ Q:=fun a w hr=>by
 subst hT1
 simp only [mixB,Bool.and_eq_true,decide_eq_true_eq,Bool.or_eq_true] at hB
 obtain ⟨⟨⟨hks,hback⟩,hsc⟩,hseq⟩:=hB
 have hkl:k≤l.length:=by simpa using hks
 have htl:(l.take k).length=k:=by simp;omega
 obtain ⟨r,s,hr1,hr2,hr3,hr4⟩:=hJ.pre
 have hlen:out.length=k:=by rw [hr1];simp [hr2];omega
 have hklen:ks.length=k:=by rw [hr3];simp [hr4];omega
 have H:Heads l.toArray T0 out k:=⟨hlen,nodupB_spec hnd,fun p hp=>by have:=List.all_eq_true.1 hfr p hp;simpa using this,fun i hi o ho e he hb=>by
  have h1:=List.all_eq_true.1 hback i (List.mem_range.2 hi)
  rw [ho] at h1
  have h2:=List.all_eq_true.1 h1 e (by simpa using he)
  simp only [Bool.or_eq_true,Bool.not_eq_true',decide_eq_true_eq] at h2
  rcases h2 with h2|h2
  ·rw [hb] at h2;cases h2
  ·exact h2⟩
 have hJ':∀{j:Nat} {o:Oper},j<k→l.toArray[j]?=some o→∃d V f,out[j]?=some (d,V)∧ks[j]?=some f∧
  ∀Tv Ov,Oi.length≤Ov.length→(∀ p ob,f.got p=some ob→Ov[p]?=(fillAllS (ks.take j) Oi)[p]?)→(∀ i f p ob,waits o i=true→(ks.take j)[i]?=some f→f.got p=some ob→memB p sh=false→Ov[p]?=some ob)→(∀ q,memB q keep=true→Ov[q]?=Oi[q]?)→WpL P n m G false l.toArray [o] ⟨deps (out.take j) o++(T0++Tv),O++Ov⟩ (Only ⟨(d,V)::(deps (out.take j) o++(T0++Tv)),O++f.run Ov⟩):=by
  intro j o hj ho
  have ho':(l.take k)[j]?=some o:=by rw [List.getElem?_take,if_pos hj];simpa using ho
  have:=hJ.at rfl ho'
  simpa using this
 have inv0:HeadInv .any l.toArray k (Array.replicate l.toArray.size false):=
  ⟨by simp,fun j oj _ hl=>(by rw [getD_replicate_false] at hl;cases hl),fun t _ ht=>getD_in (by simpa using ht) (getD_replicate_false _ _)⟩
 have room0:RoomS ks Oi k (Array.replicate l.toArray.size false) Oi:=by
  refine ⟨?_,fun q _=>.inr ⟨fun j g oc _ hl=>(by rw [getD_replicate_false] at hl;cases hl),rfl⟩,fun q h1 h2=>by omega⟩
  have:((List.range k).filter fun i=>(Array.replicate l.toArray.size false).getD i false&&isPutS ks i)=[]:=by
   rw [List.filter_eq_nil_iff];intro i _;rw [getD_replicate_false];simp
  rw [this];simp
 refine wp_region_any hm ?_
 have fin:=any_order (P:=P) (GP:=GoodS n m G T0 out O Oi k ks) (g:=l.toArray.size-k) (Q:=fun e a' w'=>∃σ',Q e σ'∧Rel n m G σ' a' w') H hks (fun hk=>hsc.resolve_left (by omega)) (fun inv _ hi hik _ _ hg _ hK=>head_stepS H hok hkp hJ' inv hi hik hg hK) (fun listed a w inv hall hg=>by
  obtain ⟨T,Ov,hrT,hroom,h1,h2⟩:=hg
  have hOv:Ov=fillAllS ks Oi++List.replicate ((List.range k).filter fun i=>isPutS ks i).length deadO:=by
   have hcnt:((List.range k).filter fun i=>listed.getD i false&&isPutS ks i)=(List.range k).filter fun i=>isPutS ks i:=by
    refine List.filter_congr fun i hi=>?_
    rw [hall i (List.mem_range.1 hi)];rfl
   have hlen:=hroom.len
   rw [hcnt] at hlen
   have hfl:=fillAllS_len ks Oi
   apply List.ext_getElem?
   intro q
   rcases Nat.lt_or_ge q Oi.length with hq|hq
   ·rw [List.getElem?_append_left (by omega)]
    rcases hroom.cur q hq with ⟨j,g,oc,hjk,hl,hg,hs,hlast,hv⟩|⟨hno,hv⟩<;>rcases fillAllS_cases ks Oi q hq with ⟨j2,g2,oc2,hg2,hs2,hlast2,hv2⟩|⟨hno2,hv2⟩
    ·have hj2k:j2<k:=by have:=(List.getElem?_eq_some_iff.1 hg2).1;omega
     have:j=j2:=by
      rcases Nat.lt_trichotomy j j2 with h3|h3|h3
      ·exact absurd hs2 (hlast j2 g2 oc2 h3 hj2k (hall j2 hj2k) hg2)
      ·exact h3
      ·exact absurd hs (hlast2 j g oc h3 hg)
     subst this
     rw [hg] at hg2;cases hg2
     rw [hs] at hs2;cases hs2
     rw [hv,hv2]
    ·exact absurd hs (hno2 j g oc hg)
    ·have hj2k:j2<k:=by have:=(List.getElem?_eq_some_iff.1 hg2).1;omega
     exact absurd hs2 (hno j2 g2 oc2 hj2k (hall j2 hj2k) hg2)
    ·rw [hv,hv2]
   ·rcases Nat.lt_or_ge q Ov.length with h3|h3
    ·rw [hroom.dead q hq h3,List.getElem?_append_right (by omega),List.getElem?_replicate,if_pos (by omega)]
    ·rw [List.getElem?_eq_none h3,List.getElem?_eq_none (by simp;omega)]
  subst hOv
  have hlist:listed=(Array.range l.toArray.size).map fun i=>decide (i<k):=by
   apply Array.ext
   ·simp [inv.size]
   ·intro i hi1 hi2
    have hi:i<l.toArray.size:=by rw [←inv.size];exact hi1
    by_cases hik:i<k
    ·have:=hall i hik
     simp [hi1] at this
     simp [this,hik]
    ·have:=inv.tail i (by omega) hi
     simp [hi1] at this
     simp [this,hik]
  have hdl:(l.drop k).length=l.toArray.size-k:=by simp
  rw [←hdl]
  refine wpAny_of_seq (l.drop k) k listed a w (fun j=>by simp [List.getElem?_drop]) (by rw [hdl,hlist];exact hseq) ?_
  refine h a w (hrT.relook fun t=>?_)
  rw [look_append]
  split
  ·rename_i hh
   obtain ⟨i,hi,hi2⟩:=List.getElem_of_mem (has_look hh)
   have:out[i]?=some (t,look out t):=by rw [List.getElem?_eq_getElem hi,hi2]
   exact (h1 i _ _ this (hall i (by omega))).symm
  ·rename_i hh
   exact (h2 t (by simpa using hh)).symm) k _ a w.drew inv0 (by
    have:((List.range k).filter fun i=>!(Array.replicate l.toArray.size false).getD i false)=List.range k:=by
     rw [List.filter_eq_self];intro i _;rw [getD_replicate_false];rfl
    rw [this];simp) ⟨T0,_,hr.drew,room0,⟨fun i d V _ hl=>(by rw [getD_replicate_false] at hl;cases hl),fun _ _=>rfl⟩⟩
 rw [show k+(l.toArray.size-k)=l.toArray.size by omega] at fin
 exact fin
def chainS (ops:Array Oper) (sh:List Nat) (c:Nat):Nat→List (Nat×Nat)→List Fis→Bool
 |_,_,[]=>true
 |j,seen,f::ks=>(f.sets.all fun x=>Nat.blt x.1 c&&seen.all fun s=>!Nat.beq s.1 x.1||(memB x.1 sh&&reach ops 24 j s.2))&&chainS ops sh c (j+1) (f.sets.map (fun x=>(x.1,j))++seen) ks
theorem chainS_lt {sh:List Nat} {c:Nat}:∀{ks:List Fis} {j:Nat} {seen:List (Nat×Nat)},chainS ops sh c j seen ks=true→∀i f p ob,ks[i]?=some f→f.got p=some ob→p<c∧∀s∈seen,s.1=p→memB p sh=true∧reach ops 24 (j+i) s.2=true
 |[],_,_,_,i,f,p,ob,h,_=>by simp at h
 |g::ks,j,seen,hB,i,f,p,ob,h,hs=>by
  unfold chainS at hB
  rw [Bool.and_eq_true] at hB
  cases i with
  |zero=>
   simp at h;subst h
   obtain ⟨x,hx,e⟩:=lkF_mem hs
   have hx2:=List.all_eq_true.1 hB.1 x hx
   rw [Bool.and_eq_true] at hx2
   subst e
   refine ⟨Nat.le_of_ble_eq_true hx2.1,fun s hm e=>?_⟩
   have:=List.all_eq_true.1 hx2.2 s hm
   simp only [Bool.or_eq_true,Bool.not_eq_true',Bool.and_eq_true] at this
   rcases this with h|⟨h1,h2⟩
   ·rw [e] at h;simp at h
   ·refine ⟨h1,?_⟩
    rw [Nat.add_zero];exact h2
  |succ i=>
   have e:j+(i+1)=j+1+i:=by omega
   rw [e]
   have:=chainS_lt hB.2 i f p ob (by simpa using h) hs
   exact ⟨this.1,fun s hm e=>this.2 s (List.mem_append_right _ hm) e⟩
theorem chainS_pair {sh:List Nat} {c:Nat}:∀{ks:List Fis} {j:Nat} {seen:List (Nat×Nat)},chainS ops sh c j seen ks=true→∀i i2 f g p ob oc,i<i2→ks[i]?=some f→ks[i2]?=some g→f.got p=some ob→g.got p=some oc→memB p sh=true∧reach ops 24 (j+i2) (j+i)=true
 |[],_,_,_,i,i2,f,g,p,ob,oc,_,h,_,_,_=>by simp at h
 |x::ks,j,seen,hB,i,i2,f,g,p,ob,oc,hlt,h,h2,hs,hs2=>by
  unfold chainS at hB
  rw [Bool.and_eq_true] at hB
  cases i2 with
  |zero=>omega
  |succ i2=>
   have e2:j+(i2+1)=j+1+i2:=by omega
   cases i with
   |zero=>
    simp at h;subst h
    obtain ⟨y,hy,e⟩:=lkF_mem hs
    have:=(chainS_lt hB.2 i2 g p oc (by simpa using h2) hs2).2 (p,j) (List.mem_append_left _ (by rw [←e];exact List.mem_map_of_mem (f:=fun x:Nat×AObj=>(x.1,j)) hy)) rfl
    rw [e2];exact this
   |succ i=>
    have e:j+(i+1)=j+1+i:=by omega
    rw [e,e2]
    exact chainS_pair hB.2 i i2 f g p ob oc (by omega) (by simpa using h) (by simpa using h2) hs hs2
theorem roomSOk_of {ks:List Fis} {c k:Nat} (h:chainS ops sh c 0 [] ks=true):RoomSOk ops sh ks c k:=
 ⟨fun i f p ob _ hk hs=>(chainS_lt h i f p ob hk hs).1,fun i j f g p ob oc hij _ hi hj hf hg=>by
  have:=chainS_pair h i j f g p ob oc hij hi hj hf hg
  rw [Nat.zero_add,Nat.zero_add] at this;exact this⟩
theorem HeadS.consF {fs fs2 out:List (Nat×AV)} {gs gs2:List Fis} {o:Oper} {l:List Oper} {d:Nat} {V:AV} {F:List (Nat×AV)} {ks:List Fis} {cur:List AObj} (k:Fis) (hd:o.dst=some d) (hF:depsF fs o.after.toList=some F) (hcur:fillAllS gs Oi=cur)
 (h:∀Tv Ov,Oi.length≤Ov.length→(∀ p ob,k.got p=some ob→Ov[p]?=cur[p]?)→(∀ j f p ob,waits o j=true→gs[j]?=some f→f.got p=some ob→memB p sh=false→Ov[p]?=some ob)→(∀ q,memB q keep=true→Ov[q]?=Oi[q]?)→WpL P n m G false ops [o] ⟨F++(T0++Tv),O++Ov⟩ (Only ⟨(d,V)::(F++(T0++Tv)),O++k.run Ov⟩)) (hs:catF fs [(d,V)]=some fs2) (hg:catF gs [k]=some gs2) (r:HeadS P n m G ops T0 O Oi keep sh fs2 gs2 l out ks):HeadS P n m G ops T0 O Oi keep sh fs gs (o::l) out ks:=by
 have:=catF_eq hs;subst this;have:=catF_eq hg;subst this;subst hcur
 exact .cons k (depsF_eq hF) h r
theorem WpA.regionSF {l l1 l2:List Oper} {id:Nat} {out T1:List (Nat×AV)} {ks:List Fis} {Of Or O1:List AObj} {Q:Exit→St→Prop} (k c:Nat) (keep sh:List Nat) (hO0:Of=O++Or) (hm:P.follows .mixedOrders=true) (hB:mixB l.toArray k=true)
 (hl:takeF k l=some l1) (hJ:HeadS P n m G l.toArray T0 O (Or++List.replicate c roomO) keep sh [] [] l1 out ks) (hok:chainS l.toArray sh (Or.length+c) 0 [] ks=true) (hkp:keepB (Or.length+c) (spotsS ks) keep=true) (hnd:nodupB (out.map (·.1))=true) (hfr:(out.all fun p=>!has T0 p.1)=true)
 (hT1:catF out T0=some T1) (h2:l.drop k=l2) (hO:O++(fillAllS ks (Or++List.replicate c roomO)++List.replicate ((List.range k).filter fun i=>isPutS ks i).length deadO)=O1) (h:WpL P n m G false l.toArray l2 ⟨T1,O1⟩ Q):WpA P n m G (.region id l.toArray true) ⟨T0,Of⟩ Q:=by
 have:=takeF_eq hl;subst this;subst h2;subst hO;subst hO0
 have hc:(Or++List.replicate c roomO).length=Or.length+c:=by simp
 have hw:=WpA.regionS (Q:=Q) (id:=id) k hm hB hJ (by rw [hc];exact roomSOk_of hok) (fun q hq=>by rw [hc];exact keepB_ofS hkp hq) hnd hfr (catF_eq hT1) h
 have hr:=Weak.rooms (m:=m) (T:=T0) c (O++Or)
 rw [List.append_assoc] at hr
 exact WpA.weak hr hw
theorem newO_after {n:Nat} (mb:AObj):∀(k:Nat) (R:List AObj),n<k→newO [n] [mb] k R=R
 |_,[],_=>rfl
 |k,ob::R,hk=>by
  rw [newO,newO_after mb (k+1) R (by omega)]
  have:findN [n] k 0=none:=by
   rw [findN]
   have:Nat.beq n k=false:=by
    cases h:Nat.beq n k with
    |false=>rfl
    |true=>have:=Nat.eq_of_beq_eq_true h;omega
   rw [this];rfl
  unfold newOb;rw [this]
theorem newO_mid {n:Nat} (mb ob:AObj) (R:List AObj):∀(k:Nat) (A:List AObj),k+A.length=n→newO [n] [mb] k (A++ob::R)=A++⟨mb.cells,ob.ep,mb.size,mb.ty⟩::R
 |k,[],h=>by
  simp only [List.length_nil,Nat.add_zero] at h
  subst h
  rw [List.nil_append,newO,newO_after mb (k+1) R (by omega),List.nil_append]
  have:findN [k] k 0=some 0:=by
   rw [findN]
   have:Nat.beq k k=true:=by simp
   rw [this]
   try rfl
  unfold newOb;rw [this]
  try rfl
 |k,a::A,h=>by
  simp only [List.length_cons] at h
  rw [List.cons_append,newO,newO_mid mb ob R (k+1) A (by omega),List.cons_append]
  have:findN [n] k 0=none:=by
   rw [findN]
   have:Nat.beq n k=false:=by
    cases h:Nat.beq n k with
    |false=>rfl
    |true=>have:=Nat.eq_of_beq_eq_true h;omega
   rw [this];rfl
  unfold newOb;rw [this]
theorem WpL.callP1N {n:Nat} {T:List (Nat×AV)} {Q:Exit→St→Prop} {l:List Oper} {tt:TypeId} {pos:String} {after:Array Edge} {f:FuncId} {xs:List Operand} {ats:Array TypeId} {As:List AV} {A R:List AObj} {ob mb0 mb nb:AObj} {pv:List Value} {pa:List AV} {r r':AV} {d c:Nat} (hc:FnP P f As [mb0] pv pa [mb] [nb] r) (hp:Pin G pv pa) (hcA:cnt A.length 0=some c) (hh:HandM (A++ob::R) [c] [mb0] (xs.map (av T)) As) (hM:HandO (A++ob::R) [c] [mb0]) (hsz:mb.size=mb0.size) (hM':Out [mb]) (hN:Out [nb]) (hre:r.reF 1 (A++ob::R).length=some r') (hn:d<n)
 (h:WpL P n m G false ops l ⟨(d,r')::T,(A++⟨mb.cells,ob.ep,mb.size,mb.ty⟩::R)++[nb]⟩ Q):
 WpL P n m G false ops ({dst:=some d,op:=.call {callee:=.value (.func f),args:=xs.toArray,argTypes:=ats},type:=tt,pos:=pos,after:=after,guard:=none}::l) ⟨T,A++ob::R⟩ Q:=by
 have ec:=cnt_eq hcA;rw [Nat.add_zero] at ec;subst ec
 refine WpL.opX (β:=Unit) (C:=fun _=>True) (σX:=fun _=>⟨(d,r')::T,(A++⟨mb.cells,ob.ep,mb.size,mb.ty⟩::R)++[nb]⟩) rfl (fun a w hr=>?_) (fun _ _=>h)
 have hcl:=callX_rel hc hp hh hM (by simp) (fun _=>rfl) (fun _ j x y hx hy=>by
  cases j with
  |zero=>simp at hx hy;subst hx hy;exact hsz
  |succ j=>simp at hx) (fun _=>hM') (fun _=>hN) (rX':=fun _=>r') (fun _=>hre) hr
 have e:newO [A.length] [mb] 0 (A++ob::R)++[nb]=(A++⟨mb.cells,ob.ep,mb.size,mb.ty⟩::R)++[nb]:=by
  rw [newO_mid mb ob R 0 A (by omega)]
 obtain ⟨⟨fn,hf,hbd,hnm⟩,_⟩:=hc
 have hex:(execOp a.eval {dst:=some d,op:=.call {callee:=.value (.func f),args:=xs.toArray,argTypes:=ats},type:=tt,pos:=pos,after:=after,guard:=none}).run P w=.ok (.enter f (xs.map a.eval).toArray) w:=by
  simp only [execOp,resolve,Act.eval,Deferred.ofValue,invoke,callFunc,Sem.run_bind,Sem.run_pure,Result.andThen_ok,program,Sem.run,hf,hnm,hbd,Bool.false_eq_true,if_false]
  simp
 unfold Oper.wp
 rw [hex]
 refine hcl.mono fun e' w' ⟨y,hy,v',he,S,ι,F,hr',hv⟩=>?_
 subst he
 simp only [e] at hr' hv
 exact ⟨y,hy,S,ι,F,hr'.put hn hv⟩
theorem split3 {Ov:List AObj} {e:AObj} (h:Ov[2]?=some e):∃a b R,Ov=a::b::e::R:=by
 match Ov,h with
 |a::b::e'::R,h=>simp at h;exact ⟨a,b,R,by rw [h]⟩
 |[],h=>simp at h
 |[_],h=>simp at h
 |[_,_],h=>simp at h
theorem split4 {Ov:List AObj} {e:AObj} (h:Ov[3]?=some e):∃a b c R,Ov=a::b::c::e::R:=by
 match Ov,h with
 |a::b::c::e'::R,h=>simp at h;exact ⟨a,b,c,R,by rw [h]⟩
 |[],h=>simp at h
 |[_],h=>simp at h
 |[_,_],h=>simp at h
 |[_,_,_],h=>simp at h
end
end Go.Abs


namespace Go.Abs
open Go
section
variable {P:Program} {n m:Nat} {G:Ctx} {md:Bool} {σ:St} {Q:Exit→St→Prop} {T:List (Nat×AV)} {O:List AObj}
theorem WpL.guardV {v0:Value} {ops:Array Oper} {o:Oper} {l:List Oper} {j t d:Nat} {want:Bool} (hg:o.guard=some (j,want)) (hj:((ops[j]?).bind (·.dst))=some t) (htn:t<n)
 (ht:look σ.T t=.sc v0) (hne:v0≠.bool want) (hd:o.dst=some d) (h:WpL P n m G md ops l ⟨(d,.any)::σ.T,σ.O⟩ Q):WpL P n m G md ops (o::l) σ Q:=fun a w hr=>by
 have hv:a.tmps.getD t undef=v0:=hr.eval_sc (x:=.tmp t) ht
 have hsz:a.tmps.size=n:=by obtain ⟨_,_,_,h⟩:=hr;exact h.size
 have hv':a.tmps[t]?=some v0:=by
  rw [Array.getD_eq_getD_getElem?] at hv
  rw [Array.getElem?_eq_getElem (by omega)] at hv ⊢
  simpa using hv
 have hw:Region.wanted o (yielded ops a.tmps)=false:=by
  simp only [Region.wanted,hg,yielded,hj,Option.bind_some,hv']
  cases v0<;>first|rfl|skip
  rename_i b
  cases b<;>cases want<;>first|rfl|exact absurd rfl hne
 have hrel:Rel n m G ⟨(d,.any)::σ.T,σ.O⟩ (a.put o.dst undef) w:=?_
 ·cases md with
  |false=>
   simp only
   unfold wpList
   rw [if_neg (by simp [hw])]
   exact h _ _ hrel
  |true=>
   simp only
   unfold wpStill
   rw [if_neg (by simp [hw])]
   exact h _ _ hrel
 obtain ⟨S,ι,F,hr⟩:=hr
 refine ⟨S,ι,F,by simpa [Act.put,hd] using hr.defers,by simp [Act.put,hd,hr.size],fun t'=>?_,hr.objs,hr.foot,hr.base,hr.stable,hr.keeps,hr.spots,hr.mle⟩
 by_cases he:d=t'
 ·subst he;rw [look_cons_same];exact .any .nil
 ·rw [look_cons_other _ _ _ _ he]
  have:=hr.tmps t'
  simpa [Act.put,hd,Array.getD_eq_getD_getElem?,Array.getElem?_setIfInBounds,he] using this
theorem WpL.openAny {ops:Array Oper} {l:List Oper} {t:Nat} (hx:look T t=.any) (h:∀v0,WpL P n m G md ops l ⟨(t,.sc v0)::T,O⟩ Q):WpL P n m G md ops l ⟨T,O⟩ Q:=fun a w hr=>by
 refine h (a.tmps.getD t undef) a w ?_
 obtain ⟨S,ι,F,hr⟩:=hr
 refine ⟨S,ι,F,hr.defers,hr.size,fun u=>?_,hr.objs,hr.foot,hr.base,hr.stable,hr.keeps,hr.spots,hr.mle⟩
 show VRel S w ι O (look ((t,.sc _)::T) u) _ []
 by_cases he:t=u
 ·subst he;rw [look_cons_same];exact .sc .nil
 ·rw [look_cons_other _ _ _ _ he];exact hr.tmps u
end
end Go.Abs
