/- Proved in this text: lemmas and contracts of functions that the claim uses (parts: AbsXn, Draw4, Draw5, MatL, Mat, DefsQ, Mat2, Mat3, Mat4, Pred, Scan, Quant, Scn, Lw, Lev, Stat, Sid, ResL, LevP, DrP, Work, DbP, AbsEq, AbsFl). No condition. -/
import Derived.Test.YtndflfipaddfoaaGreatWbM9
import Derived.Test.YtndflfipaddfoaaGreatWbM5
import Derived.Test.YtndflfipaddfoaaGreatWbM6
import Derived.Laws.StructEq
set_option linter.unusedVariables false
set_option linter.unusedSimpArgs false
set_option maxRecDepth 100000
set_option maxHeartbeats 4000000


namespace Go.Abs
open Go
structure Moves (k base:Nat) (V W:AV):Prop where
 rel:∀{S S3:Nat→Prop} {w:World} {ι ι3:Nat→Spot} {O O3:List AObj} {x:Value},(∀ id,k≤id→ι3 (id-k+base)=ι id)→(∀ id ob,k≤id→O[id]?=some ob→O3[id-k+base]?=some ob)→VRel S w ι O V x []→VRel S3 w ι3 O3 W x []
theorem Moves.ptr {k base id ep off:Nat} (h:k≤id):Moves k base (.ptr id ep off) (.ptr (id-k+base) ep off):=by
 refine ⟨fun h1 h2 hv=>?_⟩
 cases hv with
 |ptr a b c r=>cases r;exact .ptr (h2 _ _ h a) b (fun e=>by rw [h1 _ h];exact c e) .nil
section
variable {P:Program} {n m:Nat} {G:Ctx} {T:List (Nat×AV)} {O:List AObj} {Q:Exit→St→Prop} {ops:Array Oper} {l:List Oper} {tt:TypeId} {pos:String} {after:Array Edge} {tab:List (Nat×Ty)}
theorem callXm_rel {β:Type} {f:FuncId} {xs:List Operand} {As:List AV} {M:List AObj} {MX NX:β→List AObj} {rX rX':β→AV} {C:β→Prop} {hs:List Nat} {pv:List Value} {pa:List AV} (hc:FnX P f As M pv pa β C MX NX rX) (hp:Pin G pv pa) (hh:Hand O hs (xs.map (av T)) As) (hM:HandO O hs M) (hnd:hs.Nodup) (hlenX:∀y,(MX y).length=M.length)
 (hszX:∀(y:β) (j:Nat) (a b:AObj),M[j]?=some a→(MX y)[j]?=some b→b.size=a.size) (hMX':∀y,Out (MX y)) (hNX:∀y,Out (NX y)) (hreX:∀y,Moves M.length O.length (rX y) (rX' y)) {a:Act} {w:World} (hr:Rel n m G ⟨T,O⟩ a w):
 Calls P f (xs.map a.eval).toArray w fun e w'=>∃y,C y∧∃v,e=.returned v∧∃S ι F,RelAt n m G S ι F ⟨T,newO hs (MX y) 0 O++NX y⟩ a w'∧VRel S w' ι (newO hs (MX y) 0 O++NX y) (rX' y) v []:=by
 obtain ⟨S,ι,F,hr⟩:=hr
 obtain ⟨⟨fn,hf,hb,hnm⟩,hcall⟩:=hc
 obtain ⟨hlM,hatM⟩:=hM.at
 let S2:Nat→Prop:=fun b=>b<w.heap.size∧∀id∈hs,b ∉ F id
 let ιM:Nat→Spot:=fun j=>match hs[j]? with|some id=>ι id|none=>none
 let FM:Nat→List Nat:=fun j=>match hs[j]? with|some id=>F id|none=>[]
 have hιM:∀(j id:Nat),hs[j]?=some id→ιM j=ι id:=fun j id h=>by show (match hs[j]? with|some id=>ι id|none=>none)=_;rw [h]
 have hFM:∀(j id:Nat),hs[j]?=some id→FM j=F id:=fun j id h=>by show (match hs[j]? with|some id=>F id|none=>[])=_;rw [h]
 have hidl:∀(j id:Nat),hs[j]?=some id→id<O.length:=fun j id h=>by
  have hj:j<M.length:=by rw [←hlM];exact (List.getElem?_eq_some_iff.1 h).1
  obtain ⟨id',ob,e1,e2,_⟩:=hatM j _ (List.getElem?_eq_getElem hj)
  rw [h] at e1;cases e1;exact (List.getElem?_eq_some_iff.1 e2).1
 have hmem:∀id∈hs,∃j,j<M.length∧hs[j]?=some id:=fun id h=>by
  obtain ⟨j,hj,e⟩:=List.getElem_of_mem h
  exact ⟨j,by omega,by rw [List.getElem?_eq_getElem hj,e]⟩
 have hex:∀j,j<M.length→∃id,hs[j]?=some id:=fun j hj=>⟨hs[j],List.getElem?_eq_getElem (by omega)⟩
 have hSS:∀b,S b→S2 b:=fun b hb=>⟨hr.stable b hb,fun id hid hbf=>by
  obtain ⟨j,hj,e⟩:=hmem id hid
  exact (hr.foot id (hidl j id e) b hbf).2.1 hb⟩
 have hOM:ORel S2 w ιM M FM:=by
  refine ⟨fun j mb hj=>?_,fun j hj=>?_,fun i j hi hj hij b hb=>?_⟩
  ·obtain ⟨id,ob,e1,e2,e3,e4,e5,e6,e7⟩:=hatM j mb hj
   rw [hιM j id e1,hFM j id e1]
   have ho:=hr.objs.obj id ob e2
   unfold ObjAt at ho ⊢
   cases hs':ι id with
   |none=>rw [hs'] at ho;rw [←e3];exact ho
   |some p=>
    obtain ⟨b,k⟩:=p
    rw [hs'] at ho
    obtain ⟨cur',t',fz',f2,q1,q2,q3,q4,q5,q6,q7⟩:=ho
    refine ⟨cur',t',fz',f2,q1,q2,q3,by rw [←e3];exact q4,q5,fun e he=>?_,?_⟩
    ·rcases e7 with e7|e7
     ·rw [e7] at he;cases he
     ·exact q6 e (by rw [←e7];exact he)
    ·rw [←e3]
     exact still_all (by rw [e3];exact e4) q7 hSS (fun _ _=>rfl) (fun _ _=>rfl)
  ·obtain ⟨id,e⟩:=hex j hj
   rw [hFM j id e];exact hr.objs.nodup id (hidl j id e)
  ·obtain ⟨id1,e1⟩:=hex i hi
   obtain ⟨id2,e2⟩:=hex j hj
   rw [hFM i id1 e1] at hb;rw [hFM j id2 e2]
   exact hr.objs.apart id1 id2 (hidl i id1 e1) (hidl j id2 e2) (fun e=>hij (nodup_get hnd e1 (e▸e2))) b hb
 have hl:=hr.evals xs
 obtain ⟨f',hl2,hf'⟩:=hh.rel (S2:=S2) (ιM:=ιM) hM hιM hSS hr.objs (fun b h1 h2=>⟨h1,h2⟩) (fun id hid=>by obtain ⟨j,hj,e⟩:=hmem id hid;exact hidl j id e) hl (by simp)
 have hf0:f'=[]:=List.eq_nil_iff_forall_not_mem.2 fun b hb=>by simpa using hf' b hb
 subst hf0
 refine (hcall w S2 ιM FM (xs.map a.eval) (fun b h=>h.1) hOM (fun j hj b hb=>?_) hl2 (hp.at hr hSS [] (fun _=>none))).mono fun e w' he=>?_
 ·obtain ⟨id,e⟩:=hex j hj
  rw [hFM j id e] at hb
  exact ⟨fun h=>h.2 id (List.mem_of_getElem? e) hb,(hr.foot id (hidl j id e) b hb).2.2⟩
 obtain ⟨y,hy,v,S',ι',F',rfl,hS1,hS2,hS3,hι',hO',hF',hv,hk⟩:=he
 refine ⟨y,hy,v,rfl,?_⟩
 have hlen:=hlenX y
 have hsz:=hszX y
 have hM':=hMX' y
 have hN:=hNX y
 have hre:=hreX y
 generalize MX y=M' at hlen hsz hM' hO' hF' hv ⊢
 generalize NX y=N at hN hO' hF' hv ⊢
 generalize rX y=r at hre hv
 generalize rX' y=r' at hre ⊢
 have hold:∀b,b<w.heap.size→(∀ id∈hs,b ∉ F id)→w'.heap[b]?=w.heap[b]?:=fun b hb hn=>hk.block b hb (by
  rintro ⟨i,hi,hbf⟩
  obtain ⟨id,e⟩:=hex i hi
  rw [hFM i id e] at hbf
  exact hn id (List.mem_of_getElem? e) hbf)
 let S3:Nat→Prop:=fun b=>S b∨(S' b∧w.heap.size≤b)
 let ι3:Nat→Spot:=fun i=>if i<O.length then ι i else ι' (M.length+(i-O.length))
 let F3:Nat→List Nat:=fun i=>if i<O.length then (match findN hs i 0 with|some j=>F' j|none=>F i) else F' (M.length+(i-O.length))
 let O3:=newO hs M' 0 O++N
 have hl3:(newO hs M' 0 O).length=O.length:=newO_len hs M' 0 O
 have hO3lt:∀i,i<O.length→O3[i]?=(O[i]?).map (newOb hs M' i):=fun i hi=>by
  show (newO hs M' 0 O++N)[i]?=_
  rw [List.getElem?_append_left (by omega),newO_at,Nat.zero_add]
 have hO3ge:∀i,O.length≤i→O3[i]?=N[i-O.length]?:=fun i hi=>by
  show (newO hs M' 0 O++N)[i]?=_
  rw [List.getElem?_append_right (by omega),hl3]
 have hob:∀i ob,O[i]?=some ob→(newOb hs M' i ob).ep=ob.ep∧(newOb hs M' i ob).size=ob.size:=fun i ob h=>by
  unfold newOb
  cases hfd:findN hs i 0 with
  |none=>exact ⟨rfl,rfl⟩
  |some j=>
   cases hmj:M'[j]? with
   |none=>exact ⟨by simp [hmj],by simp [hmj]⟩
   |some mb=>
    obtain ⟨q,rfl,hq⟩:=findN_some hfd
    rw [Nat.zero_add] at hmj
    have hqm:q<M.length:=by rw [←hlM];exact (List.getElem?_eq_some_iff.1 hq).1
    obtain ⟨id',ob',e1,e2,_,_,_,e6,_⟩:=hatM q _ (List.getElem?_eq_getElem hqm)
    rw [hq] at e1;cases e1
    rw [h] at e2;cases e2
    simp only [Nat.zero_add,hmj,true_and]
    exact (hsz q _ _ (List.getElem?_eq_getElem hqm) hmj).trans e6
 have hlat:Later S w ι O S3 w' ι3 O3:=by
  refine ⟨fun b h=>.inl h,fun b hb=>hold b (hr.stable b hb) (hSS b hb).2,fun id ob h=>?_⟩
  have hlt:id<O.length:=(List.getElem?_eq_some_iff.1 h).1
  obtain ⟨h1,h2⟩:=hob id ob h
  exact ⟨newOb hs M' id ob,by rw [hO3lt id hlt,h];rfl,.inr ⟨h1,h2,by show (if _ then _ else _)=_;rw [if_pos hlt]⟩⟩
 have hF3f:∀(i j:Nat),i<O.length→findN hs i 0=some j→F3 i=F' j:=fun i j hi h=>by show (if _ then _ else _)=_;rw [if_pos hi,h]
 have hF3n:∀(i:Nat),i<O.length→findN hs i 0=none→F3 i=F i:=fun i hi h=>by show (if _ then _ else _)=_;rw [if_pos hi,h]
 have hF3g:∀(i:Nat),O.length≤i→F3 i=F' (M.length+(i-O.length)):=fun i hi=>by show (if _ then _ else _)=_;rw [if_neg (by omega)]
 have hlMN:(M'++N).length=M.length+N.length:=by rw [List.length_append,hlen]
 have hfind:∀(i j:Nat),findN hs i 0=some j→j<M.length∧hs[j]?=some i:=fun i j h=>by
  obtain ⟨q,rfl,hq⟩:=findN_some h
  rw [Nat.zero_add]
  exact ⟨by rw [←hlM];exact (List.getElem?_eq_some_iff.1 hq).1,hq⟩
 have hl3':O3.length=O.length+N.length:=by show (newO hs M' 0 O++N).length=_;rw [List.length_append,hl3]
 have hsrc:∀k,k<(M'++N).length→∀b∈F' k,((∃ id,id∈hs∧id<O.length∧b∈F id)∨w.heap.size≤b)∧¬S' b∧b<w'.heap.size:=fun k hk' b hb=>by
  obtain ⟨q1,q2,q3⟩:=hF' k hk' b hb
  refine ⟨?_,q2,q3⟩
  rcases q1 with ⟨i,hi,hbf⟩|q1
  ·obtain ⟨id,e⟩:=hex i hi
   rw [hFM i id e] at hbf
   exact .inl ⟨id,List.mem_of_getElem? e,hidl i id e,hbf⟩
  ·exact .inr q1
 have hnoS:∀k,k<(M'++N).length→∀b∈F' k,(G.M0 b∨G.w0.heap.size≤b)∧¬S3 b∧b<w'.heap.size:=fun k hk' b hb=>by
  obtain ⟨q1,q2,q3⟩:=hsrc k hk' b hb
  rcases q1 with ⟨id,hid,hlt,hbf⟩|q1
  ·obtain ⟨p1,p2,p3⟩:=hr.foot id hlt b hbf
   refine ⟨p1,?_,q3⟩
   rintro (h|⟨h,_⟩)
   ·exact p2 h
   ·exact q2 h
  ·refine ⟨.inr (by have:=hr.keeps.size;omega),?_,q3⟩
   rintro (h|⟨h,_⟩)
   ·have:=hr.stable b h;omega
   ·exact q2 h
 have hnotin:∀i,i<O.length→findN hs i 0=none→∀b∈F i,w'.heap[b]?=w.heap[b]?:=fun i hi h b hb=>hold b (hr.foot i hi b hb).2.2 fun id hid hbf=>by
  obtain ⟨j,hj,e⟩:=hmem id hid
  have hne:i≠id:=by rintro rfl;exact findN_none h hid
  exact hr.objs.apart i id hi (hidl j id e) hne b hb hbf
 have hcells:∀{cs:List AV} {us g},cs.all AV.still=true→Loc cs→LRel S' w' ι' (M'++N) cs us g→LRel S3 w' ι3 O3 cs us g:=fun h1 h2 hl=>
  Loc.rel h2 (still_all (S':=S') h1 hl (fun _ h=>h) (fun _ _=>rfl) (fun _ _=>rfl))
 refine ⟨S3,ι3,F3,⟨hr.defers,hr.size,fun t=>(hr.tmps t).mono hlat (by simp),⟨fun i ob h=>?_,fun i h=>?_,fun i j hi hj hij b hb=>?_⟩,fun i h b hb=>?_,⟨fun b hb=>.inl (hr.base.1 b hb),?_⟩,?_,?_,fun i h=>?_,?_⟩,?_⟩
 ·have h:O3[i]?=some ob:=h
  by_cases hlt:i<O.length
  ·rw [hO3lt i hlt,List.getElem?_eq_getElem hlt] at h
   simp only [Option.map_some,Option.some.injEq] at h
   rw [show ι3 i=ι i from if_pos hlt]
   cases hfd:findN hs i 0 with
   |some j=>
    obtain ⟨hjm,hji⟩:=hfind i j hfd
    rw [hF3f i j hlt hfd]
    have hjM':j<M'.length:=by omega
    have hmb:M'[j]?=some M'[j]:=List.getElem?_eq_getElem hjM'
    have h':ob=⟨M'[j].cells,(O[i]).ep,M'[j].size,M'[j].ty⟩:=by
     rw [←h];unfold newOb;rw [hfd];simp only [hmb]
    have ho:=hO'.obj j M'[j] (by rw [List.getElem?_append_left hjM'];exact hmb)
    rw [hι' j hjm,hιM j i hji] at ho
    have hout:=hM'.at hmb
    rw [h']
    unfold ObjAt at ho ⊢
    cases hs':ι i with
    |none=>rw [hs'] at ho;exact ho
    |some p=>
     obtain ⟨b,k⟩:=p
     rw [hs'] at ho
     obtain ⟨cur',t',fz',f2,q1,q2,q3,q4,q5,q6,q7⟩:=ho
     exact ⟨cur',t',fz',f2,q1,q2,q3,q4,q5,q6,hcells hout.1 hout.2 q7⟩
   |none=>
    rw [hF3n i hlt hfd]
    have h':ob=O[i]:=by rw [←h];unfold newOb;rw [hfd]
    subst h'
    have ho:=hr.objs.obj i O[i] (List.getElem?_eq_getElem hlt)
    have key:=hnotin i hlt hfd
    unfold ObjAt at ho ⊢
    cases hs':ι i with
    |none=>rw [hs'] at ho;exact ho
    |some p=>
     obtain ⟨b,k⟩:=p
     rw [hs'] at ho
     obtain ⟨cur',t',fz',f2,q1,q2,q3,q4,q5,q6,q7⟩:=ho
     exact ⟨cur',t',fz',f2,q1,by rw [key b (by rw [q1];simp)];exact q2,q3,q4,q5,q6,q7.mono hlat fun b' hb'=>key b' (by rw [q1];simp [hb'])⟩
  ·rw [hO3ge i (by omega)] at h
   rw [show ι3 i=ι' (M.length+(i-O.length)) from if_neg hlt,hF3g i (by omega)]
   have ho:=hO'.obj (M.length+(i-O.length)) ob (by rw [List.getElem?_append_right (by omega),hlen,Nat.add_sub_cancel_left];exact h)
   have hout:=hN.at h
   unfold ObjAt at ho ⊢
   cases hs':ι' (M.length+(i-O.length)) with
   |none=>rw [hs'] at ho;exact ho
   |some p=>
    obtain ⟨b,k⟩:=p
    rw [hs'] at ho
    obtain ⟨cur',t',fz',f2,q1,q2,q3,q4,q5,q6,q7⟩:=ho
    exact ⟨cur',t',fz',f2,q1,q2,q3,q4,q5,q6,hcells hout.1 hout.2 q7⟩
 ·have h:i<O3.length:=h
  by_cases hlt:i<O.length
  ·cases hfd:findN hs i 0 with
   |some j=>rw [hF3f i j hlt hfd];exact hO'.nodup j (by have:=(hfind i j hfd).1;omega)
   |none=>rw [hF3n i hlt hfd];exact hr.objs.nodup i hlt
  ·rw [hF3g i (by omega)];exact hO'.nodup _ (by omega)
 ·have hi:i<O3.length:=hi
  have hj:j<O3.length:=hj
  have hpl:∀k,k<O3.length→(∃ q,q<(M'++N).length∧F3 k=F' q∧((q<M.length∧hs[q]?=some k)∨(O.length≤k∧q=M.length+(k-O.length))))∨(k<O.length∧findN hs k 0=none∧F3 k=F k):=fun k hk'=>by
   by_cases hlt:k<O.length
   ·cases hfd:findN hs k 0 with
    |some q=>obtain ⟨h1,h2⟩:=hfind k q hfd;exact .inl ⟨q,by omega,hF3f k q hlt hfd,.inl ⟨h1,h2⟩⟩
    |none=>exact .inr ⟨hlt,rfl,hF3n k hlt hfd⟩
   ·exact .inl ⟨_,by omega,hF3g k (by omega),.inr ⟨by omega,rfl⟩⟩
  have hcross:∀k q,k<O.length→findN hs k 0=none→q<(M'++N).length→∀b∈F k,b ∉ F' q:=fun k q hk' hn hq b hb hb'=>by
   rcases (hsrc q hq b hb').1 with ⟨id,hid,hlt,hbf⟩|h
   ·have hne:k≠id:=by rintro rfl;exact findN_none hn hid
    exact hr.objs.apart k id hk' hlt hne b hb hbf
   ·have:=(hr.foot k hk' b hb).2.2;omega
  rcases hpl i hi with ⟨q1,p1,p2,p3⟩|⟨p1,p2,p3⟩<;>rcases hpl j hj with ⟨q2,r1,r2,r3⟩|⟨r1,r2,r3⟩
  ·rw [p2] at hb;rw [r2]
   refine hO'.apart q1 q2 p1 r1 (fun e=>?_) b hb
   subst e
   rcases p3 with ⟨a1,a2⟩|⟨a1,a2⟩<;>rcases r3 with ⟨b1,b2⟩|⟨b1,b2⟩
   ·rw [a2] at b2;cases b2;exact hij rfl
   ·omega
   ·omega
   ·omega
  ·rw [p2] at hb;rw [r3];intro hb';exact hcross j q1 r1 r2 p1 b hb' hb
  ·rw [p3] at hb;rw [r2];exact hcross i q2 p1 p2 r1 b hb
  ·rw [p3] at hb;rw [r3];exact hr.objs.apart i j p1 r1 hij b hb
 ·have h:i<O3.length:=h
  by_cases hlt:i<O.length
  ·cases hfd:findN hs i 0 with
   |some j=>rw [hF3f i j hlt hfd] at hb;exact hnoS j (by have:=(hfind i j hfd).1;omega) b hb
   |none=>
    rw [hF3n i hlt hfd] at hb
    obtain ⟨q1,q2,q3⟩:=hr.foot i hlt b hb
    refine ⟨q1,?_,by have:=hk.size;omega⟩
    rintro (h'|⟨_,h'⟩)
    ·exact q2 h'
    ·omega
  ·rw [hF3g i (by omega)] at hb;exact hnoS _ (by omega) b hb
 ·rintro b (h'|⟨_,h'⟩)
  ·exact hr.base.2 b h'
  ·exact .inr (by have:=hr.keeps.size;omega)
 ·rintro b (h'|⟨h',_⟩)
  ·have:=hr.stable b h';have:=hk.size;omega
  ·exact hS3 b h'
 ·refine ⟨hk.os.trans hr.keeps.os,hk.tape.trans hr.keeps.tape,hk.output.trans hr.keeps.output,by have:=hr.keeps.size;have:=hk.size;omega,fun b hb hM0=>?_⟩
  rw [hold b (by have:=hr.keeps.size;omega) fun id hid hbf=>?_]
  ·exact hr.keeps.block b hb hM0
  ·obtain ⟨j,hj,e⟩:=hmem id hid
   rcases (hr.foot id (hidl j id e) b hbf).1 with h|h
   ·exact hM0 h
   ·omega
 ·have hm:m≤O.length:=hr.mle
  rw [show ι3 i=ι i from if_pos (by omega)];exact hr.spots i h
 ·have hm:m≤O.length:=hr.mle
  show m≤O3.length
  omega
 ·refine hre.rel (S:=S') (ι:=ι') (O:=M'++N) (fun id hid=>?_) (fun id ob hid h=>?_) hv
  ·show (if _ then _ else _)=_
   rw [if_neg (by omega)];congr 1;omega
  ·show O3[id-M.length+O.length]?=some ob
   rw [hO3ge _ (by omega),Nat.add_sub_cancel]
   rw [List.getElem?_append_right (by omega),hlen] at h
   exact h
theorem FnP.of_new (hP:TabOk P tab) {f:FuncId} {fn:Func} {c:Code} {args:List AV} {pv:List Value} {pa:List AV} {k t sz:Nat} {cells:List AV} {ty:Option TypeId} (hf:P.funcs[f]?=some fn) (hnt:fn.ntmps=k) (hb:fn.body=some c) (hnm:(fn.name== "runtime.NumGoroutine")=false)
 (hal:args.length≤k) (hres:fn.results=#[.tmp t]) (hps:pa.all AV.still=true) (hst:cells.all AV.still=true) (h:∀G,Pin G pv pa→WpA P k 0 G c ⟨enumT 0 args,[]⟩ (fun e σ=>endB e=true∧∃id ep ob,look σ.T t=.ptr id ep 0∧σ.O[id]?=some ob∧ob.ep=ep∧ob.cells=cells∧ob.size=sz∧(ty=none∨ty=ob.ty))):
 FnP P f args [] pv pa [] [⟨cells,0,sz,ty⟩] (.ptr 0 0 0):=by
 refine ⟨⟨fn,hf,by rw [hb];rfl,hnm⟩,fun w S ι F vs hS hO hF hl hpin=>?_⟩
 have hvl:vs.length=args.length:=hl.len.symm
 refine calls_of_wp hf hb ?_
 have hrel:Rel k 0 ⟨w,S,fun b=>∃i,i<([]:List AObj).length∧b∈F i,ι⟩ ⟨enumT 0 args,[]⟩ {tmps:=vs.toArray++Array.replicate (fn.ntmps-vs.toArray.size) undef,defers:=[]} w:=by
  refine ⟨S,ι,F,rfl,?_,fun t=>?_,hO,fun id hid b hb=>⟨.inl ⟨id,hid,hb⟩,hF id hid b hb⟩,⟨fun _ h=>h,fun _ h=>.inl h⟩,hS,Keeps.refl _ _,fun _ _=>rfl,Nat.zero_le _⟩
  ·simp [hnt];omega
  ·show VRel S w ι [] (look (enumT 0 args) t) _ []
   rw [look_enumT]
   simp only [Nat.zero_le,if_true,Nat.sub_zero]
   by_cases ht:t<args.length
   ·obtain ⟨x,g,hx,hV,hg⟩:=hl.get (List.getElem?_eq_getElem ht)
    have hg0:g=[]:=List.eq_nil_iff_forall_not_mem.2 fun b hb=>by simpa using hg b hb
    subst hg0
    have e1:args.getD t .any=args[t]:=by simp [ht]
    have e2:(vs.toArray++Array.replicate (fn.ntmps-vs.toArray.size) undef).getD t undef=x:=by
     have:t<vs.length:=by omega
     rw [List.getElem?_eq_getElem this] at hx
     simp only [Option.some.injEq] at hx
     simp [Array.getD_eq_getD_getElem?,Array.getElem?_append,this,hx]
    rw [e1,e2];exact hV
   ·have e1:args.getD t .any=.any:=by simp [List.getElem?_eq_none (Nat.le_of_not_lt ht)]
    rw [e1];exact .any .nil
 refine wp_mono (h ⟨w,S,fun b=>∃i,i<([]:List AObj).length∧b∈F i,ι⟩ ⟨hpin,hps,fun b hb=>⟨fun ⟨i,hi,hbf⟩=>(hF i hi b hbf).1 hb,hS b hb⟩⟩ _ _ hrel) fun e a' w' ⟨σ',hq,hr'⟩=>?_
 obtain ⟨he,id,ep,ob,h1,h2,h3,h4,h5,h6⟩:=hq
 obtain ⟨S2,ι2,F2,hr⟩:=hr'
 have hrun:(results fn a'.tmps).run P w'=.ok (a'.tmps.getD t undef) w':=run_results1 hres (by simp [resSem])
 have ht:=hr.tmps t
 rw [h1] at ht
 have hid:id<σ'.O.length:=(List.getElem?_eq_some_iff.1 h2).1
 have hobj:=hr.objs.obj id ob h2
 have hfin:∃v S' ι' F',a'.tmps.getD t undef=v∧(∀ b,S b→S' b)∧(∀ b,S' b→S b∨w.heap.size≤b)∧(∀ b,S' b→b<w'.heap.size)∧(∀ id,id<([]:List AObj).length→ι' id=ι id)∧ORel S' w' ι' ([]++[⟨cells,0,sz,ty⟩]) F'∧
  (∀ id,id<([]++[(⟨cells,0,sz,ty⟩:AObj)]).length→∀b∈F' id,((∃ i,i<([]:List AObj).length∧b∈F i)∨w.heap.size≤b)∧¬S' b∧b<w'.heap.size)∧VRel S' w' ι' ([]++[⟨cells,0,sz,ty⟩]) (.ptr 0 0 0) v []∧Keeps w (fun b=>∃i,i<([]:List AObj).length∧b∈F i) w':=by
  refine ⟨_,S2,fun j=>if j=0 then ι2 id else none,fun j=>if j=0 then F2 id else [],rfl,hr.base.1,hr.base.2,hr.stable,fun i hi=>by simp at hi,⟨fun i ob' hi=>?_,fun i hi=>?_,fun i j hi hj hij=>?_⟩,fun i hi b hb=>?_,?_,hr.keeps⟩
  ·cases i with
   |succ i=>simp at hi
   |zero=>
    simp at hi;subst hi
    simp only [if_true]
    unfold ObjAt at hobj ⊢
    cases hs:ι2 id with
    |none=>rw [hs,h4] at hobj;exact hobj
    |some p=>
     obtain ⟨b,kk⟩:=p
     rw [hs,h4] at hobj
     obtain ⟨cur',t',fz',f2,q1,q2,q3,q4,q5,q6,q7⟩:=hobj
     refine ⟨cur',t',fz',f2,q1,q2,q3,q4,q5,fun e he=>?_,still_all hst q7 (fun _ h=>h) (fun _ _=>rfl) (fun _ _=>rfl)⟩
     rcases h6 with h6|h6
     ·rw [h6] at he;cases he
     ·exact q6 e (by rw [←h6];exact he)
  ·have:i=0:=by simpa using hi
   subst this;simpa using hr.objs.nodup id hid
  ·have e1:i=0:=by simpa using hi
   have e2:j=0:=by simpa using hj
   omega
  ·have e1:i=0:=by simpa using hi
   subst e1
   obtain ⟨q1,q2,q3⟩:=hr.foot id hid b (by simpa using hb)
   exact ⟨q1,q2,q3⟩
  ·cases ht with
   |ptr a b c r=>rw [h2] at a;cases a;exact .ptr (ob:=⟨cells,0,sz,ty⟩) rfl (Nat.le_refl _) (fun _=>by simpa using c h3.symm) .nil
 obtain ⟨v,S',ι',F',hv,q⟩:=hfin
 cases e with
 |normal=>exact ⟨hr.defers,_,hrun,(),trivial,_,S',ι',F',rfl,hv▸q⟩
 |ret=>exact ⟨hr.defers,_,hrun,(),trivial,_,S',ι',F',rfl,hv▸q⟩
 |_=>cases he
theorem WpL.callN {f:FuncId} {xs:List Operand} {ats:Array TypeId} {As:List AV} {ob:AObj} {O2:List AObj} {pv:List Value} {pa:List AV} {base d:Nat} (hc:FnP P f As [] pv pa [] [ob] (.ptr 0 0 0)) (hp:Pin G pv pa) (hh:HandM O [] [] (xs.map (av T)) As) (hN:Out [ob]) (hb:cnt O.length 0=some base) (hO2:newF [] [] 0 O [ob]=some O2) (hn:d<n)
 (h:WpL P n m G false ops l ⟨(d,.ptr base 0 0)::T,O2⟩ Q):
 WpL P n m G false ops ({dst:=some d,op:=.call {callee:=.value (.func f),args:=xs.toArray,argTypes:=ats},type:=tt,pos:=pos,after:=after,guard:=none}::l) ⟨T,O⟩ Q:=by
 refine WpL.opX (β:=Unit) (C:=fun _=>True) (σX:=fun _=>⟨(d,.ptr base 0 0)::T,O2⟩) rfl (fun a w hr=>?_) (fun _ _=>h)
 have e2:=cnt_eq hb;rw [Nat.add_zero] at e2;subst e2
 have hcl:=callXm_rel hc hp hh .nil (by simp) (fun _=>rfl) (fun _ j x y hx hy=>by simp at hx) (fun _=>.nil) (fun _=>hN) (rX':=fun _=>.ptr O.length 0 0) (fun _=>by have:=Moves.ptr (k:=0) (base:=O.length) (id:=0) (ep:=0) (off:=0) (Nat.le_refl 0);rw [Nat.sub_zero,Nat.zero_add] at this;exact this) hr
 obtain ⟨⟨fn,hf,hbd,hnm⟩,_⟩:=hc
 have hex:(execOp a.eval {dst:=some d,op:=.call {callee:=.value (.func f),args:=xs.toArray,argTypes:=ats},type:=tt,pos:=pos,after:=after,guard:=none}).run P w=.ok (.enter f (xs.map a.eval).toArray) w:=by
  simp only [execOp,resolve,Act.eval,Deferred.ofValue,invoke,callFunc,Sem.run_bind,Sem.run_pure,Result.andThen_ok,program,Sem.run,hf,hnm,hbd,Bool.false_eq_true,if_false]
  simp
 unfold Oper.wp
 rw [hex]
 refine hcl.mono fun e' w' ⟨y,hy,v',he,S,ι,F,hr',hv⟩=>?_
 subst he
 rw [newF_eq hO2] at hr' hv
 exact ⟨y,hy,S,ι,F,hr'.put hn hv⟩
theorem FnC.of_pin {f:FuncId} {A:AV} {args:List AV} {N:List AObj} {r:AV} (h:∀v,FnP P f (.sc v::args) [] [v] [A] [] N r):FnC P f (A::args) N r:=by
 refine ⟨(h undef).1,fun w S vs hS hl=>?_⟩
 obtain ⟨v,vs',f1,f2,e,hv,hr,hf⟩:=hl.uncons
 obtain ⟨rfl,rfl⟩:f1=[]∧f2=[]:=by simpa using hf
 subst e
 refine ((h v).2 w S (fun _=>none) (fun _=>[]) (v::vs') hS ⟨fun id ob h=>by simp at h,fun id h=>by simp at h,fun i j h=>by simp at h⟩ (fun id h=>by simp at h) (.sc hr) (by simpa using LRel.cons hv .nil)).mono fun e w' ⟨y,_,v2,S',ι',F',h1,h2,h3,h4,h5,h6,h7,h8,h9⟩=>?_
 refine ⟨v2,S',ι',F',h1,h2,h3,h4,by simpa using h6,fun id hid b hb=>?_,by simpa using h8,?_⟩
 ·obtain ⟨q1,q2,q3⟩:=h7 id (by simpa using hid) b hb
  refine ⟨?_,q2,q3⟩
  rcases q1 with ⟨i,hi,_⟩|q1
  ·simp at hi
  ·exact q1
 ·have:(fun b=>∃i,i<([]:List AObj).length∧b∈((fun _=>[]):Nat→List Nat) i)=fun _=>False:=by
   funext b;simp
  rw [this] at h9;exact h9
end
end Go.Abs


namespace Go.Proofs.YtndflfipaddfoaaGreat
open Go Go.Abs
attribute [local irreducible] WpA WpL Rnd Blk Abs.Seq Abs.Fin Abs.FinG FnC FnG FnX FnP FinX Only
attribute [local irreducible] belowD onceD pickD modeD l8D l8AnyD optD
def seedS (k x:Int):Int:=IntKind.i64.wrap ((BitVec.ofInt IntKind.i64.bits (IntKind.i64.wrap (IntKind.i64.wrap (k*131+IntKind.i64.wrap x)+7)) &&& BitVec.ofInt IntKind.i64.bits 1073741823).toNat:Nat)
def seedD (l:List Int) (i:Nat):Int:=(l.take i).foldl seedS (10101+l.length)
theorem and30 (y:Int):0≤IntKind.i64.wrap ((BitVec.ofInt IntKind.i64.bits y &&& BitVec.ofInt IntKind.i64.bits 1073741823).toNat:Nat)∧IntKind.i64.wrap ((BitVec.ofInt IntKind.i64.bits y &&& BitVec.ofInt IntKind.i64.bits 1073741823).toNat:Nat)≤1073741823:=by
 have h:(BitVec.ofInt IntKind.i64.bits y &&& BitVec.ofInt IntKind.i64.bits 1073741823).toNat≤1073741823:=by
  rw [BitVec.toNat_and]
  exact Nat.le_trans Nat.and_le_right (by decide)
 rw [IntWalk.i64_in _ (by omega)]
 omega
theorem seedD_succ {l:List Int} {i:Nat} (h:i<l.length):seedD l (i+1)=seedS (seedD l i) (l.getD i 0):=by
 unfold seedD;rw [List.take_succ_eq_append_getElem h,List.foldl_append];simp [h]
theorem seedD_bd {l:List Int} (hl:l.length≤1048576):∀i,0≤seedD l i∧seedD l i≤1073741823
 |0=>by simp [seedD];omega
 |i+1=>by
  by_cases h:i<l.length
  ·rw [seedD_succ h];exact and30 _
  ·have e:seedD l (i+1)=seedD l i:=by unfold seedD;rw [List.take_of_length_le (by omega),List.take_of_length_le (by omega)]
   rw [e];exact seedD_bd hl i
abbrev newD (l:List Int):Cr:=(0,seedD l (min l.length 4000))
theorem pin_slice {G:Ctx} {v:Value} {l:List Int} (hp:Pin G [v] [CodA l]):∃p q r,v=.slice p q r:=by
 obtain ⟨a,c,e⟩:=(LRel.slice_len hp.rel).2.1 _ _ _ rfl
 exact ⟨_,_,_,e⟩
section
attribute [local irreducible] IntKind.wrap
theorem l1New_p (v:Value) (l:List Int) (hl:l.length≤1048576):FnP Tryz.prog 73 [.sc v] [] [v] [CodA l] [] [CurO v (newD l)] (.ptr 0 0 0):=by
 refine FnP.of_new (t:=2) tabOk Tryz.func73 Tryz.ntmps73 rfl (by decide +kernel) (by simp) rfl rfl rfl fun G hp=>?_
 refine go (r:=?_);and_intros<;>intros<;>try exact True.intro
 refine WpL.pin (d:=5) hp rfl ?_
 refine go (r:=?_);and_intros<;>intros<;>try exact True.intro
 refine WpA.loop (fun i:Nat=>⟨[(0,.sc v),(3,I (seedD l i)),(4,I i)],[]⟩) (fun i=>i≤min l.length 4000) (fun i=>min l.length 4000-i) 0 (Nat.zero_le _) (go (r:=?_)) (fun i hi=>?_)
 ·exact trivial
 ·have hb:=seedD_bd hl i
  have hs:=fun h=>seedD_succ (l:=l) (i:=i) h
  unfold seedS at hs
  refine go (r:=?_);and_intros<;>intros<;>try exact True.intro
  refine WpL.pin (d:=9) hp rfl ?_
  refine go (r:=?_);and_intros<;>intros<;>try exact True.intro
  ·refine WpL.pin (d:=20) hp rfl ?_
   have hs:=hs (by omega)
   refine go (r:=?_);and_intros<;>intros<;>try exact True.intro
   all_goals first|exact hs.symm
  all_goals obtain ⟨p,q,r,rfl⟩:=pin_slice hp
  ·have e:i=min l.length 4000:=by omega
   subst e
   refine go (r:=?_);and_intros<;>intros<;>try exact True.intro
   exact ⟨_,_,_,rfl,rfl,rfl,rfl,rfl,.inl rfl⟩
  ·have e:i=min l.length 4000:=by omega
   subst e
   refine go (r:=?_);and_intros<;>intros<;>try exact True.intro
   exact ⟨_,_,_,rfl,rfl,rfl,rfl,rfl,.inl rfl⟩
end
def anyD (l:List Int) (c:Cr):Cr×Op6:=
 let o:=optD l c
 let s:=belowD l o.1 14
 if s.2=0 then
  let p:=pickD l s.1 [-1,52]
  (p.1,{o.2 with q:=p.2})
 else if s.2=1 then
  let y:=l8AnyD l s.1
  (y.1,{o.2 with lens:=y.2})
 else (s.1,o.2)
end Go.Proofs.YtndflfipaddfoaaGreat


namespace Go.Proofs.YtndflfipaddfoaaGreat
open Go Go.Abs
attribute [local irreducible] WpA WpL Rnd Blk Abs.Seq Abs.Fin Abs.FinG FnC FnG FnX FnP FinX Only
attribute [local irreducible] belowD onceD pickD modeD l8D l8AnyD optD anyD seedD
theorem newD_ok {l:List Int} (hl:l.length≤1048576):CrOk l (newD l):=⟨hl,Int.le_refl 0,by show (0:Int)≤_;omega⟩
end Go.Proofs.YtndflfipaddfoaaGreat


namespace Go.Proofs.YtndflfipaddfoaaGreat
open Go Go.Abs
def part (f:Nat→Int) (N j:Nat) (v:Int):List Int:=(List.range N).map fun q=>if q<j then f q else if q=j then v else 0
def tabL (f:Nat→Int) (N:Nat):List Int:=(List.range N).map f
def sumF (f:Nat→Int):Nat→Int
 |0=>0
 |k+1=>sumF f k+f k
def A4:List (List Int):=[[1,1,1,1],[2,1,-1,-2],[1,-1,-1,1],[1,-2,2,-1]]
def par (b:Nat):Int:=if (b%2+b/2%2+b/4%2)%2=0 then 1 else -1
def mx (n r i:Nat):Int:=if n=4 then (A4.getD r []).getD i 0 else par (r &&& i)
def mg (n:Nat) (back:Bool) (r i:Nat):Int:=if back then mx n i r else mx n r i
def halfM (n:Nat) (g:Nat→Nat→Int) (l:List Int) (r k:Nat):Int:=sumF (fun i=>g r i*l.getD (i*n+k) 0) n
def fullM (n:Nat) (g:Nat→Nat→Int) (l:List Int) (r k:Nat):Int:=sumF (fun i=>halfM n g l r i*g k i) n
def mulM (n:Nat) (g:Nat→Nat→Int) (l:List Int):List Int:=tabL (fun q=>fullM n g l (q/n) (q%n)) (n*n)
end Go.Proofs.YtndflfipaddfoaaGreat


namespace Go.Proofs.YtndflfipaddfoaaGreat
open Go Go.Abs
attribute [local irreducible] WpA WpL Rnd Blk Abs.Seq Abs.Fin Abs.FinG FnC FnG Only
end Go.Proofs.YtndflfipaddfoaaGreat


namespace Go.Proofs.YtndflfipaddfoaaGreat
open Go Go.Abs
abbrev XD (l:List Int):AObj:=⟨ints l,1,1,some 3⟩
end Go.Proofs.YtndflfipaddfoaaGreat


namespace Go.Proofs.YtndflfipaddfoaaGreat
open Go Go.Abs
attribute [local irreducible] WpA WpL Rnd Blk Abs.Seq Abs.Fin Abs.FinG FnC FnG Only
abbrev sh (n:Nat) (g:Nat→Nat→Int) (l:List Int) (r k i:Nat):Int:=sumF (fun i=>g r i*l.getD (i*n+k) 0) i
abbrev so (n:Nat) (g:Nat→Nat→Int) (l:List Int) (r k i:Nat):Int:=sumF (fun i=>halfM n g l r i*g k i) i
def prodL (n:Nat) (g:Nat→Nat→Int) (l:List Int):List Int:=if l.length=n*n∧In l (-1000000000) 1000000000 then mulM n g l else []
end Go.Proofs.YtndflfipaddfoaaGreat


namespace Go.Proofs.YtndflfipaddfoaaGreat
open Go Go.Abs
attribute [local irreducible] WpA WpL Rnd Blk Abs.Seq Abs.Fin Abs.FinG FnC FnG Only RollN
def cellsH (r:Nat):List AV:=(List.range 8).map fun q=>if q<r then .fre 1 8 (ints (tabL (mx 8 q) 8)) else .nilS
attribute [local irreducible] cellsH
end Go.Proofs.YtndflfipaddfoaaGreat


namespace Go.Proofs.YtndflfipaddfoaaGreat
open Go Go.Abs
attribute [local irreducible] WpA WpL Rnd Blk Abs.Seq Abs.Fin Abs.FinG FnC FnG Only
end Go.Proofs.YtndflfipaddfoaaGreat


namespace Go.Proofs.YtndflfipaddfoaaGreat
open Go Go.Abs
attribute [local irreducible] WpA WpL Rnd Blk Abs.Seq Abs.Fin Abs.FinG FnC FnG Only
def side (k:Nat):Int:=if k=16 then 4 else if k=64 then 8 else 0
theorem side_pos (k:Nat):0<side k↔k=16∨k=64:=by unfold side;split<;>(try split)<;>omega
theorem side_cases (k:Nat):(k=16∧side k=4)∨(k=64∧side k=8)∨(k≠16∧k≠64∧side k=0):=by unfold side;split<;>(try split)<;>omega
instance SizeOk_s:Con 134 (∀ n:Int,Fn 134 [I n] [] (B (decide (n=4∨n=8)))):=⟨fun n=>by
 refine FnC.of_body tabOk Tryz.func134 Tryz.ntmps134 rfl (by decide +kernel) (by simp) fun G=>?_
 refine go (r:=?_);and_intros<;>intros<;>try exact True.intro
 all_goals simp_all⟩
instance SizeOk_c:Con 130 (∀ n:Int,Fn 130 [I n] [] (B (decide (n=4∨n=8)))):=⟨fun n=>by
 refine FnC.of_body tabOk Tryz.func130 Tryz.ntmps130 rfl (by decide +kernel) (by simp) fun G=>?_
 refine go (r:=?_);and_intros<;>intros<;>try exact True.intro
 all_goals simp_all⟩
instance l9Side_s:Con 139 (∀ l:List Int,l.length≤9223372036854775807→Fn 139 [IL l] [] (I (side l.length))):=⟨fun l hl=>by
 refine FnC.of_body tabOk Tryz.func139 Tryz.ntmps139 rfl (by decide +kernel) (by simp) fun G=>?_
 have h:=side_cases l.length
 refine go (r:=?_);and_intros<;>intros<;>try exact True.intro⟩
end Go.Proofs.YtndflfipaddfoaaGreat


namespace Go.Proofs.YtndflfipaddfoaaGreat
open Go Go.Abs
attribute [local irreducible] WpA WpL Rnd Blk Abs.Seq Abs.Fin Abs.FinG FnC FnG Only
def scX (d k:Nat):Int:=if (d:Int)%2=0 then (d:Int)-k else k
def scIn (n:Int) (d:Nat):Nat→List Int→List Int
 |0,o=>o
 |k+1,o=>if scX d k<n∧(d:Int)-scX d k<n then scIn n d k o++[((d:Int)-scX d k)*n+scX d k] else scIn n d k o
def scOut (n:Int):Nat→List Int
 |0=>[]
 |d+1=>scIn n d (d+1) (scOut n d)
def scanL (n:Int):List Int:=if n=4∨n=8 then scOut n (2*n-1).toNat else []
end Go.Proofs.YtndflfipaddfoaaGreat


namespace Go.Proofs.YtndflfipaddfoaaGreat
open Go Go.Abs
attribute [local irreducible] WpA WpL Rnd Blk Abs.Seq Abs.Fin Abs.FinG FnC FnG Only
def nearL (s v:Int):Int:=if v<0 then -((-v*2+s)/(2*s)) else (v*2+s)/(2*s)
def qz (s v:Int):Int:=max (-16383) (min 16383 (nearL s (clampM v)))
def quantL (l:List Int) (q:Int):List Int:=if 0<side l.length∧0<stepL q then l.map (qz (stepL q)) else []
end Go.Proofs.YtndflfipaddfoaaGreat


namespace Go.Proofs.YtndflfipaddfoaaGreat
open Go Go.Abs
attribute [local irreducible] WpA WpL Rnd Blk Abs.Seq Abs.Fin Abs.FinG FnC FnG Only
def scnL (l:List Int):List Int:=(scanL (side l.length)).map fun p=>l.getD p.toNat 0
end Go.Proofs.YtndflfipaddfoaaGreat


namespace Go.Proofs.YtndflfipaddfoaaGreat
open Go Go.Abs
attribute [local irreducible] WpA WpL Rnd Blk Abs.Seq Abs.Fin Abs.FinG FnC FnG Only
def marksI (k:Int) (n:Nat):List Int:=(List.range n).map fun i:Nat=>k+(i:Int)
@[simp] theorem marksI_len (k:Int) (n:Nat):(marksI k n).length=n:=by simp [marksI]
def marksB (k:Int) (n:Nat):List Bool:=(List.range n).map fun i:Nat=>decide ((k+(i:Int))%3=0)
@[simp] theorem marksB_len (k:Int) (n:Nat):(marksB k n).length=n:=by simp [marksB]
end Go.Proofs.YtndflfipaddfoaaGreat


namespace Go.Proofs.YtndflfipaddfoaaGreat
open Go Go.Abs
attribute [local irreducible] WpA WpL Rnd Blk Abs.Seq Abs.Fin Abs.FinG FnC FnG Only
abbrev FitM (l:List Int):Prop:=In l (-1000000000) 1000000000
def trL (n:Int) (b:Bool) (l:List Int):List Int:=prodL n.toNat (mg n.toNat b) l
def clampL (v:Int):Int:=max (-16383) (min 16383 v)
def levL (b:Bool) (q:Int) (l r:List Int):List Int:=if OptOk q l∧0<side r.length∧FitM r then
 (if b=true then scnL (r.map clampL) else scnL (quantL (trL (side r.length) false r) q)) else []
end Go.Proofs.YtndflfipaddfoaaGreat


namespace Go.Proofs.YtndflfipaddfoaaGreat
open Go Go.Abs
attribute [local irreducible] WpA WpL Rnd Blk Abs.Seq Abs.Fin Abs.FinG FnC FnG Only
end Go.Proofs.YtndflfipaddfoaaGreat


namespace Go.Proofs.YtndflfipaddfoaaGreat
open Go Go.Abs
attribute [local irreducible] WpA WpL Rnd Blk Abs.Seq Abs.Fin Abs.FinG FnC FnG Only
abbrev HdOk (w h q:Int) (l:List Int):Prop:=SidesOk w h∧(0≤q∧q≤51)∧CodeOk l
def cntM (w h:Int):Int:=w/8*(h/8)
abbrev LvOk (l:List Int):Prop:=In l (-16383) 16383∧(l.length=16∨l.length=64)
instance LevelsOk_s:Con 224 (∀ l:List Int,l.length≤1099511627776→Fn 224 [IL l] [] (B (decide (LvOk l)))):=⟨fun l hl=>by
 have hsp:=side_pos l.length
 refine FnC.of_body tabOk Tryz.func224 Tryz.ntmps224 rfl (by decide +kernel) (by simp) fun G=>?_
 refine go (r:=?_);and_intros<;>intros<;>try exact True.intro
 refine WpA.loop (fun k:Nat=>⟨[(0,IL l),(3,I k)],[]⟩) (fun k=>k≤l.length∧In (l.take k) (-16383) 16383) (fun k=>l.length-k) 0 (by simp [in_nil]) (go (r:=?_)) (fun k hk=>?_)
 ·trivial
 have hi:=fun h=>in_snoc (lo:=-16383) (hi:=16383) (l:=l) (k:=k) h
 refine go (r:=?_);and_intros<;>intros<;>try exact True.intro
 ·have:=notin (k:=k) (by omega) ‹¬ (-16383≤l.getD k 0∧_)›;rw [eq_comm,decide_eq_false_iff_not] at *;exact fun h=>this h.1
 ·rw [hi (by omega)];exact ⟨hk.2,‹_›⟩
 all_goals have e:k=l.length:=by omega
 all_goals subst e
 all_goals rw [List.take_length] at*
 simp [hk.2,hsp]⟩
abbrev BlkOk (m:Int) (lv:List Int) (lens:List Int) (n:Int):Prop:=(n=4∨n=8)∧HasC lens m∧(lv.length:Int)=n*n∧LvOk lv
instance BlockOk_s:Con 166 (∀ (m:Int) (lv lens:List Int) (n:Int),lv.length≤1099511627776∧lens.length≤1099511627776→Fn 166 [.agg [I m,IL lv],IL lens,I n] [] (B (decide (BlkOk m lv lens n)))):=⟨fun m lv lens n hl=>by
 have hp:=symL_pos lens m
 have hnn:n=4∨n=8→0≤n*n∧n*n≤64:=by rintro (rfl|rfl)<;>decide
 refine FnC.of_body tabOk Tryz.func166 Tryz.ntmps166 rfl (by decide +kernel) (by simp) fun G=>?_
 refine go (r:=?_);and_intros<;>intros<;>try exact True.intro
 all_goals simp_all⟩
def badB (lens:List Int) (n:Int) (b:Blok):Bool:=decide (¬ BlkOk b.1 b.2 lens n)
end Go.Proofs.YtndflfipaddfoaaGreat


namespace Go.Proofs.YtndflfipaddfoaaGreat
open Go Go.Abs
def plcK (o l:List Int):Nat→List Int
 |0=>List.replicate o.length 0
 |k+1=>(plcK o l k).set (o.getD k 0).toNat (l.getD k 0)
def plcL (l:List Int):List Int:=plcK (scanL (side l.length)) l (scanL (side l.length)).length
def normL (n i:Int):Int:=if (n=4∨n=8)∧0≤i∧i≤n*n-1 then (if n=8 then 1 else if i/4%2+i%4%2=0 then 100 else if i/4%2+i%4%2=2 then 16 else 40) else 0
def scaF (l:List Int) (q:Int) (i:Nat):Int:=l.getD i 0*stepL q*normL (side l.length) i
def scaL (l:List Int) (q:Int):List Int:=if LvOk l∧0<stepL q then tabL (scaF l q) l.length else []
def rnd1 (k:Nat) (v:Int):Int:=if k=16 then (max (-1000000000000) (min 1000000000000 v)+800)/1600 else (max (-1000000000000) (min 1000000000000 v)+32)/64
def rndL (l:List Int):List Int:=if 0<side l.length then l.map (rnd1 l.length) else []
def resL (b:Bool) (q:Int) (l:List Int):List Int:=if LvOk l∧0<stepL q then (if b=true then plcL l else rndL (trL (side l.length) true (scaL (plcL l) q))) else []
end Go.Proofs.YtndflfipaddfoaaGreat


namespace Go.Proofs.YtndflfipaddfoaaGreat
open Go Go.Abs
end Go.Proofs.YtndflfipaddfoaaGreat


namespace Go.Proofs.YtndflfipaddfoaaGreat
open Go Go.Abs
attribute [local irreducible] belowD onceD pickD modeD l8D l8AnyD optD anyD seedD
structure Hd6 where
 w:Int
 h:Int
 q:Int
 b:Bool
 d:Bool
 lens:List Int
abbrev quant6:List Int:=[0,6,12,20,36,51]
def headD (l:List Int) (c:Cr):Cr×Hd6:=
 let w:=belowD l c 2
 let h:=belowD l w.1 2
 let q:=pickD l h.1 quant6
 let b:=onceD l q.1 4
 let d:=onceD l b.1 2
 let e:=l8D l d.1
 (e.1,⟨8*(1+w.2),8*(1+h.2),q.2,b.2,d.2,e.2⟩)
def headAnyD (l:List Int) (c:Cr):Cr×Hd6:=
 let x:=headD l c
 let s:=belowD l x.1 12
 if s.2=0 then
  let p:=pickD l s.1 [0,40,12,32]
  (p.1,{x.2 with w:=p.2})
 else if s.2=1 then
  let p:=pickD l s.1 [-1,52,51]
  (p.1,{x.2 with q:=p.2})
 else if s.2=2 then
  let y:=l8AnyD l s.1
  (y.1,{x.2 with lens:=y.2})
 else (s.1,x.2)
def sqS (l:List Int) (most:Int) (s:Cr×List Int):Cr×List Int:=
 if (onceD l s.1 2).2=true then ((belowD l (onceD l s.1 2).1 (2*most+1)).1,s.2++[(belowD l (onceD l s.1 2).1 (2*most+1)).2-most]) else ((onceD l s.1 2).1,s.2++[0])
def sqK (l:List Int) (most:Int):Nat→Cr×List Int→Cr×List Int
 |0,s=>s
 |n+1,s=>sqK l most n (sqS l most s)
abbrev odd3:List Int:=[0,15,63]
def sqN0 (l:List Int) (c:Cr):Int:=if (onceD l c 3).2=true then 64 else 16
def sqN (l:List Int) (c:Cr):Cr×Int:=if (onceD l (onceD l c 3).1 14).2=true then pickD l (onceD l (onceD l c 3).1 14).1 odd3 else ((onceD l (onceD l c 3).1 14).1,sqN0 l c)
def squareD (l:List Int) (c:Cr) (most:Int):Cr×List Int:=sqK l most (sqN l c).2.toNat ((sqN l c).1,[])
abbrev big4:List Int:=[16383,-16383,16384,5000]
def lvA (l:List Int) (s:Cr×List Int):Cr×List Int:=
 if (onceD l s.1 6).2=true then ((pickD l (belowD l (onceD l s.1 6).1 s.2.length).1 big4).1,s.2.set (belowD l (onceD l s.1 6).1 s.2.length).2.toNat (pickD l (belowD l (onceD l s.1 6).1 s.2.length).1 big4).2) else ((onceD l s.1 6).1,s.2)
def lvB (l:List Int) (s:Cr×List Int):Cr×List Int:=if s.2.length=0 then s else lvA l s
def tail3 (x:List Int):List Int:=x.take 3++List.replicate (x.length-3) 0
def lev10D (l:List Int) (c:Cr):Cr×List Int:=
 ((onceD l (lvB l (squareD l c 30)).1 4).1,if (onceD l (lvB l (squareD l c 30)).1 4).2=true then tail3 (lvB l (squareD l c 30)).2 else (lvB l (squareD l c 30)).2)
def lim3 (v:Int):Int:=max (-300) (min 300 v)
def lev25D (l:List Int) (c:Cr):Cr×List Int:=((onceD l (lev10D l c).1 2).1,if (onceD l (lev10D l c).1 2).2=true then (lev10D l c).2.map lim3 else (lev10D l c).2)
def resD (l:List Int):Hd6×List Int:=((headAnyD l (newD l)).2,(lev25D l (headAnyD l (newD l)).1).2)
def rszS (l:List Int) (s:Cr×List Int):Cr×List Int:=((pickD l (belowD l s.1 511).1 [0,1,-1,(belowD l s.1 511).2-255]).1,s.2++[(pickD l (belowD l s.1 511).1 [0,1,-1,(belowD l s.1 511).2-255]).2])
def rszK (l:List Int):Nat→Cr×List Int→Cr×List Int
 |0,s=>s
 |n+1,s=>rszK l n (rszS l s)
abbrev len4:List Int:=[16,16,64,15]
def lvlD (l:List Int):Op6×List Int:=((anyD l (newD l)).2,(rszK l (pickD l (anyD l (newD l)).1 len4).2.toNat ((pickD l (anyD l (newD l)).1 len4).1,[])).2)
end Go.Proofs.YtndflfipaddfoaaGreat


namespace Go.Proofs.YtndflfipaddfoaaGreat
open Go Go.Abs
attribute [local irreducible] WpA WpL Rnd Blk Abs.Seq Abs.Fin Abs.FinG FnC FnG Only
theorem any_at {α:Type} [Inhabited α] {p:α→Bool} {l:List α} {i:Nat} (hi:i<l.length) (h:p (l.getD i default)=true):l.any p=true:=
 List.any_eq_true.2 ⟨l.getD i default,by simp [hi],h⟩
theorem any_none {α:Type} [Inhabited α] {p:α→Bool} {l:List α} (h:∀j<l.length,p (l.getD j default)=false):l.any p=false:=by
 rw [List.any_eq_false]
 intro x hx
 obtain ⟨j,hj,rfl⟩:=List.getElem_of_mem hx
 have:=h j hj
 have e:l.getD j default=l[j]:=by simp [hj]
 rw [e] at this;simp [this]
def sz8 (e:Bool):Int:=bif e then 8 else 4
def nm8 (e:Bool):Int:=bif e then 1 else 4
theorem sz8_cases (e:Bool):(sz8 e=4∧nm8 e=4)∨(sz8 e=8∧nm8 e=1):=by cases e<;>simp [sz8,nm8]
instance l23Side_s:Con 66 (∀ e:Bool,Fn 66 [B e] [] (I (sz8 e))):=⟨fun e=>by
 cases e
 ·refine FnC.of_body tabOk Tryz.func66 Tryz.ntmps66 rfl (by decide +kernel) (by simp) fun G=>?_
  refine go (r:=?_);and_intros<;>intros<;>try exact True.intro
  all_goals rfl
 ·refine FnC.of_body tabOk Tryz.func66 Tryz.ntmps66 rfl (by decide +kernel) (by simp) fun G=>?_
  refine go (r:=?_);and_intros<;>intros<;>try exact True.intro
  all_goals rfl⟩
instance shape_c:Con 113 (∀ e:Bool,Fn 113 [B e] [] (.tup [I (nm8 e),I (sz8 e)])):=⟨fun e=>by
 cases e
 ·refine FnC.of_body tabOk Tryz.func113 Tryz.ntmps113 rfl (by decide +kernel) (by simp) fun G=>?_
  refine go (r:=?_);and_intros<;>intros<;>try exact True.intro
  all_goals rfl
 ·refine FnC.of_body tabOk Tryz.func113 Tryz.ntmps113 rfl (by decide +kernel) (by simp) fun G=>?_
  refine go (r:=?_);and_intros<;>intros<;>try exact True.intro
  all_goals rfl⟩
abbrev MbkOk (e:Bool) (bs:List Blok) (lens:List Int):Prop:=(bs.length:Int)=nm8 e∧bs.any (badB lens (sz8 e))=false
instance MbOk_s:Con 79 (∀ (e:Bool) (bs:List Blok) (lens:List Int),bs.length≤1099511627776∧SmB 1099511627776 bs∧lens.length≤1099511627776→Fn 79 [.agg [B e,BkL bs],IL lens] [] (B (decide (MbkOk e bs lens)))):=⟨fun e bs lens hl=>by
 have hc:=sz8_cases e
 refine FnC.of_body tabOk Tryz.func79 Tryz.ntmps79 rfl (by decide +kernel) (by simp) fun G=>?_
 refine go (r:=?_);and_intros<;>intros<;>try exact True.intro
 refine WpA.loop (fun k:Nat=>⟨[(1,IL lens),(2,.ptr 0 0 0),(5,I (sz8 e)),(6,I k)],[⟨[B e,BkL bs],0,0,none⟩]⟩) (fun k=>k≤bs.length∧∀j<k,badB lens (sz8 e) (bs.getD j default)=false) (fun k=>bs.length-k) 0 (by simp) (go (r:=?_)) (fun k hk=>?_)
 ·trivial
 have hg:=fun h=>smB_get hl.2.1 (k:=k) h
 have hnn:sz8 e*sz8 e=16∨sz8 e*sz8 e=64:=by rcases hc with ⟨h,_⟩|⟨h,_⟩<;>rw [h]<;>decide
 have hq:64/(sz8 e*sz8 e)=nm8 e:=by rcases hc with ⟨h,h2⟩|⟨h,h2⟩<;>rw [h,h2]<;>decide
 refine go (r:=?_);and_intros<;>intros<;>try exact True.intro
 ·have:bs.any (badB lens (sz8 e))=true:=any_at (i:=k) (by omega) (by unfold badB;exact decide_eq_true ‹_›)
  simp [this]
 ·rename_i j hj;by_cases h:j=k
  ·subst h;unfold badB;exact decide_eq_false (fun hh=>hh ‹BlkOk _ _ _ _›)
  ·exact hk.2 j (by omega)
 all_goals have e2:k=bs.length:=by omega
 all_goals subst e2
 have:=any_none (p:=badB lens (sz8 e)) hk.2
 rw [hq];simp [this]⟩
def badM (lens:List Int) (m:Mbk):Bool:=decide (¬ MbkOk m.1 m.2 lens)
abbrev StOk (w h q:Int) (l:List Int) (M:List Mbk):Prop:=HdOk w h q l∧(M.length:Int)=cntM w h∧M.any (badM l)=false
def pk (l:List Int):Nat→List (Int×Int)×Int
 |0=>([],0)
 |k+1=>if l.getD k 0=0 then ((pk l k).1,(pk l k).2+1) else ((pk l k).1++[((pk l k).2,l.getD k 0)],0)
def prsL (l:List Int):List (Int×Int):=if LvOk l then (pk l l.length).1 else []
theorem pk_bd (l:List Int):∀k,(pk l k).1.length≤k∧0≤(pk l k).2∧(pk l k).2≤k
 |0=>by simp [pk]
 |k+1=>by have:=pk_bd l k;rw [pk];split<;>simp<;>omega
abbrev XP (l:List (Int×Int)):AObj:=⟨rows prF l,0,2,some 197⟩
instance PairsOf_s:Con 208 (∀ l:List Int,l.length≤1099511627776→Fn 208 [IL l] [XP (prsL l)] (.own 0 0 0 (prsL l).length)):=⟨fun l hl=>by
 refine FnC.of_body tabOk Tryz.func208 Tryz.ntmps208 rfl (by decide +kernel) (by simp) fun G=>?_
 by_cases h:LvOk l
 ·refine go (r:=?_);and_intros<;>intros<;>try exact True.intro
  refine WpA.loop (fun k:Nat=>⟨[(0,IL l),(3,.own 0 0 0 (pk l k).1.length),(4,I (pk l k).2),(5,I k)],[XP (pk l k).1]⟩) (fun k=>k≤l.length) (fun k=>l.length-k) 0 (by simp) (go (r:=?_)) (fun k hk=>?_)
  ·simp [pk]
  have hb:=pk_bd l k
  have hend:k=l.length→(pk l k).1=prsL l:=by rintro rfl;rw [prsL,if_pos h]
  by_cases hz:l.getD k 0=0
  ·have e1:pk l (k+1)=((pk l k).1,(pk l k).2+1):=by rw [pk,if_pos hz]
   have e2:(pk l (k+1)).1.length=(pk l k).1.length:=by rw [e1]
   refine go (r:=?_);and_intros<;>intros<;>try exact True.intro
   all_goals first|(rw [e1];done)|(rw [hend (by omega)];done)
  ·have e1:pk l (k+1)=((pk l k).1++[((pk l k).2,l.getD k 0)],0):=by rw [pk,if_neg hz]
   have e2:(pk l (k+1)).1.length=(pk l k).1.length+1:=by rw [e1,List.length_append,List.length_singleton]
   refine go (r:=?_);and_intros<;>intros<;>try exact True.intro
   all_goals first|(rw [e1];done)|(rw [e1];rfl)|(rw [hend (by omega)];done)
 ·have e:prsL l=[]:=by rw [prsL,if_neg h]
  refine go (r:=?_);and_intros<;>intros<;>try exact True.intro
  refine WpA.loop (fun k:Nat=>⟨[(0,IL l),(3,.own 0 0 0 0),(4,I 0),(5,I 0)],[XP []]⟩) (fun k=>k≤0) (fun k=>0) 0 (by omega) (go (r:=?_)) (fun k hk=>?_)
  ·first|trivial|(refine ⟨?_,?_⟩<;>trivial)|skip
  refine go (r:=?_);and_intros<;>intros<;>try exact True.intro
  all_goals first|(rw [e];done)|(rw [e];rfl)⟩
end Go.Proofs.YtndflfipaddfoaaGreat


namespace Go.Proofs.YtndflfipaddfoaaGreat
open Go Go.Abs
attribute [local irreducible] belowD onceD pickD modeD l8D l8AnyD optD anyD seedD headD headAnyD
def bmA (l lens:List Int):Nat→Bool→Cr×Int→Cr×Int
 |0,_,s=>s
 |n+1,f,s=>if f=true∨¬HasC lens s.2 then bmA l lens n false (belowD l s.1 6) else s
def bmB (lens:List Int):Nat→Int→Int
 |0,m=>m
 |n+1,m=>if ¬HasC lens m then bmB lens n (m+1) else m
def bmC (lens:List Int) (m:Int):Int:=if HasC lens m then m else 1
theorem bmA_ok {l lens:List Int}:∀(n:Nat) (f:Bool) {s:Cr×Int},CrOk l s.1→0≤s.2∧s.2≤5→CrOk l (bmA l lens n f s).1∧0≤(bmA l lens n f s).2∧(bmA l lens n f s).2≤5
 |0,_,s,h,hb=>⟨h,hb⟩
 |n+1,f,s,h,hb=>by
  rw [bmA];split
  ·have h1:=belowD_ok 6 h
   have h2:=h1.2.1
   have h3:=h1.2.2.1 (by decide)
   exact bmA_ok n false h1.1 ⟨h2,by omega⟩
  ·exact ⟨h,hb⟩
theorem bmA_go {l lens:List Int} {n:Nat} {f:Bool} {s:Cr×Int} (h:f=true∨¬HasC lens s.2):bmA l lens (n+1) f s=bmA l lens n false (belowD l s.1 6):=by rw [bmA,if_pos h]
theorem bmA_stop {l lens:List Int} {n:Nat} {s:Cr×Int} (h:HasC lens s.2):bmA l lens n false s=s:=by
 cases n with
 |zero=>rfl
 |succ n=>rw [bmA,if_neg];rintro (h1|h1);cases h1;exact h1 h
theorem bmB_go {lens:List Int} {m:Int} (hm:m<6) (h:¬HasC lens m):bmB lens (6-m).toNat m=bmB lens (6-(m+1)).toNat (m+1):=by
 rw [show (6-m).toNat=(6-(m+1)).toNat+1 by omega,bmB,if_pos h]
theorem bmB_stop {lens:List Int} {m:Int} (h:HasC lens m∨¬m<6):bmB lens (6-m).toNat m=m:=by
 by_cases hm:m<6
 ·rw [show (6-m).toNat=(6-(m+1)).toNat+1 by omega,bmB,if_neg]
  rcases h with h|h
  ·exact fun h1=>h1 h
  ·exact absurd hm h
 ·rw [show (6-m).toNat=0 by omega];rfl
def blkM (l lens:List Int) (c:Cr):Cr×Int:=((bmA l lens 8 true (c,0)).1,bmC lens (bmB lens (6-(bmA l lens 8 true (c,0)).2).toNat (bmA l lens 8 true (c,0)).2))
theorem blkM_ok {l lens:List Int} {c:Cr} (h:CrOk l c):CrOk l (blkM l lens c).1:=(bmA_ok 8 true (s:=(c,0)) h ⟨Int.le_refl 0,by show (0:Int)≤5;omega⟩).1
abbrev ixs (n:Int) (x:Int):List Int:=[0,0,1,2,n*n-1,x]
abbrev lvs (x:Int):List Int:=[1,-1,3,-20,90,x-200]
def dvS (l:List Int) (n:Int) (s:Cr×List Int):Cr×List Int:=
 ((pickD l (belowD l (pickD l (belowD l s.1 (n*n)).1 (ixs n (belowD l s.1 (n*n)).2)).1 400).1 (lvs (belowD l (pickD l (belowD l s.1 (n*n)).1 (ixs n (belowD l s.1 (n*n)).2)).1 400).2)).1,
  s.2.set (pickD l (belowD l s.1 (n*n)).1 (ixs n (belowD l s.1 (n*n)).2)).2.toNat (pickD l (belowD l (pickD l (belowD l s.1 (n*n)).1 (ixs n (belowD l s.1 (n*n)).2)).1 400).1 (lvs (belowD l (pickD l (belowD l s.1 (n*n)).1 (ixs n (belowD l s.1 (n*n)).2)).1 400).2)).2)
def dvK (l:List Int) (n:Int):Nat→Cr×List Int→Cr×List Int
 |0,s=>s
 |k+1,s=>dvK l n k (dvS l n s)
theorem dvS_facts {l:List Int} {n:Int} {s:Cr×List Int} (hn:n=4∨n=8) (h:CrOk l s.1):CrOk l (belowD l s.1 (n*n)).1∧CrOk l (pickD l (belowD l s.1 (n*n)).1 (ixs n (belowD l s.1 (n*n)).2)).1∧
 (0≤(pickD l (belowD l s.1 (n*n)).1 (ixs n (belowD l s.1 (n*n)).2)).2∧(pickD l (belowD l s.1 (n*n)).1 (ixs n (belowD l s.1 (n*n)).2)).2<n*n)∧
 CrOk l (belowD l (pickD l (belowD l s.1 (n*n)).1 (ixs n (belowD l s.1 (n*n)).2)).1 400).1∧CrOk l (dvS l n s).1∧(dvS l n s).2.length=s.2.length:=by
 have hnn:n*n=16∨n*n=64:=by rcases hn with rfl|rfl<;>decide
 have h1:=belowD_ok (n*n) h
 have h2:=pickD_ok (xs:=ixs n (belowD l s.1 (n*n)).2) h1.1 (by simp)
 have h3:=belowD_ok 400 h2.1
 have h4:=pickD_ok (xs:=lvs (belowD l (pickD l (belowD l s.1 (n*n)).1 (ixs n (belowD l s.1 (n*n)).2)).1 400).2) h3.1 (by simp)
 have a:=h1.2.1
 have b:=h1.2.2.1 (by omega)
 have e:=h2.2
 simp only [List.mem_cons,List.not_mem_nil,or_false] at e
 exact ⟨h1.1,h2.1,by omega,h3.1,h4.1,by unfold dvS;rw [List.length_set]⟩
theorem dvK_ok {l:List Int} {n:Int} (hn:n=4∨n=8):∀(k:Nat) {s:Cr×List Int},CrOk l s.1→CrOk l (dvK l n k s).1∧(dvK l n k s).2.length=s.2.length
 |0,s,h=>⟨h,rfl⟩
 |k+1,s,h=>by
  have h1:=dvS_facts hn h
  have h2:=dvK_ok hn k h1.2.2.2.2.1
  exact ⟨h2.1,by rw [dvK,h2.2,h1.2.2.2.2.2]⟩
def blkD (l lens:List Int) (n:Int) (c:Cr):Cr×Blok:=
 ((dvK l n (belowD l (blkM l lens c).1 5).2.toNat ((belowD l (blkM l lens c).1 5).1,List.replicate (n*n).toNat 0)).1,
  ((blkM l lens c).2,(dvK l n (belowD l (blkM l lens c).1 5).2.toNat ((belowD l (blkM l lens c).1 5).1,List.replicate (n*n).toNat 0)).2))
theorem blkD_ok {l lens:List Int} {n:Int} {c:Cr} (hn:n=4∨n=8) (h:CrOk l c):CrOk l (blkD l lens n c).1∧((blkD l lens n c).2.2.length:Int)=n*n:=by
 have h1:=belowD_ok 5 (blkM_ok (lens:=lens) h)
 have h2:=dvK_ok hn (belowD l (blkM l lens c).1 5).2.toNat (s:=((belowD l (blkM l lens c).1 5).1,List.replicate (n*n).toNat 0)) h1.1
 refine ⟨h2.1,?_⟩
 unfold blkD
 simp only
 rw [h2.2,List.length_replicate]
 rcases hn with rfl|rfl<;>decide
def mbsK (l lens:List Int) (n:Int):Nat→Cr×List Blok→Cr×List Blok
 |0,s=>s
 |k+1,s=>mbsK l lens n k ((blkD l lens n s.1).1,s.2++[(blkD l lens n s.1).2])
def SqB (n:Int) (bs:List Blok):Prop:=∀b∈bs,(b.2.length:Int)=n*n
theorem mbsK_ok {l lens:List Int} {n:Int} (hn:n=4∨n=8):∀(k:Nat) {s:Cr×List Blok},CrOk l s.1→SqB n s.2→CrOk l (mbsK l lens n k s).1∧(mbsK l lens n k s).2.length=s.2.length+k∧SqB n (mbsK l lens n k s).2
 |0,s,h,hb=>⟨h,rfl,hb⟩
 |k+1,s,h,hb=>by
  have h1:=blkD_ok (lens:=lens) hn h
  have h2:=mbsK_ok (lens:=lens) hn k (s:=((blkD l lens n s.1).1,s.2++[(blkD l lens n s.1).2])) h1.1 (by
   intro b hb2
   rcases List.mem_append.1 hb2 with hb2|hb2
   ·exact hb b hb2
   ·rw [List.mem_singleton.1 hb2];exact h1.2)
  exact ⟨h2.1,by rw [mbsK,h2.2.1];simp;omega,h2.2.2⟩
def mbD (l lens:List Int) (c:Cr):Cr×Mbk:=
 ((mbsK l lens (sz8 (onceD l c 3).2) (nm8 (onceD l c 3).2).toNat ((onceD l c 3).1,[])).1,((onceD l c 3).2,(mbsK l lens (sz8 (onceD l c 3).2) (nm8 (onceD l c 3).2).toNat ((onceD l c 3).1,[])).2))
theorem sz8_48 (e:Bool):sz8 e=4∨sz8 e=8:=by cases e<;>simp [sz8]
theorem mbD_ok {l lens:List Int} {c:Cr} (h:CrOk l c):CrOk l (mbD l lens c).1∧((mbD l lens c).2.2.length:Int)=nm8 (mbD l lens c).2.1∧SqB (sz8 (mbD l lens c).2.1) (mbD l lens c).2.2:=by
 have h1:=onceD_ok 3 h
 have h2:=mbsK_ok (lens:=lens) (sz8_48 (onceD l c 3).2) (nm8 (onceD l c 3).2).toNat (s:=((onceD l c 3).1,[])) h1 (fun b hb=>by cases hb)
 refine ⟨h2.1,?_,h2.2.2⟩
 have:=h2.2.1
 simp only [List.length_nil,Nat.zero_add] at this
 show ((mbsK l lens _ _ _).2.length:Int)=nm8 (onceD l c 3).2
 rw [this]
 cases (onceD l c 3).2<;>decide
theorem sq_small {e:Bool} {bs:List Blok} (h:SqB (sz8 e) bs):∀b∈bs,b.2.length≤64:=fun b hb=>by
 have:=h b hb
 rcases sz8_48 e with e2|e2<;>rw [e2] at this<;>omega
def strK (l lens:List Int):Nat→Cr×List Mbk→Cr×List Mbk
 |0,s=>s
 |k+1,s=>strK l lens k ((mbD l lens s.1).1,s.2++[(mbD l lens s.1).2])
structure Str8 where
 hd:Hd6
 ms:List Mbk
def strD (l:List Int) (c:Cr):Cr×Str8:=
 ((strK l (headD l c).2.lens (cntM (headD l c).2.w (headD l c).2.h).toNat ((headD l c).1,[])).1,⟨(headD l c).2,(strK l (headD l c).2.lens (cntM (headD l c).2.w (headD l c).2.h).toNat ((headD l c).1,[])).2⟩)
end Go.Proofs.YtndflfipaddfoaaGreat


namespace Go.Abs
open Go
theorem run_eq_pr {P:Program} {t:TypeId} {f1 f2:Field} (hu:P.underlying t=some (.struct #[f1,f2])) (h1:f1.name≠ "_") (h2:f2.name≠ "_") (o1:f1.offset=0) (o2:f2.offset=1)
 (hi1:P.underlying f1.type=some (.int .i64)) (hi2:P.underlying f2.type=some (.int .i64)) (hp:P.stoodInHeld t=false) (w:World) (a b c d:Int):
 (Op.equalIn 10000 t (.agg #[.int .i64 a,.int .i64 b]) (.agg #[.int .i64 c,.int .i64 d])).run P w=.ok (decide (a=c∧b=d)) w:=by
 have hf:P.fieldsOf t=#[f1,f2]:=by unfold Program.fieldsOf;rw [hu]
 have h:=run_equalIn_struct (P:=P) w 9999 t #[.int .i64 a,.int .i64 b] #[.int .i64 c,.int .i64 d] (by rw [hf];exact hu) hp
 rw [hf] at h
 show (Op.equalIn (9999+1) _ _ _).run P w=_
 rw [h]
 have p1:∀(i:Nat) (x y:Int),(part f1.type #[.int .i64 x,.int .i64 y] 0).run P w=.ok (.int .i64 x) w:=fun i x y=>by
  simp [part,isAgg,Sem.run_bind,run_underlying hi1]
 have p2:∀(x y:Int),(part f2.type #[.int .i64 x,.int .i64 y] 1).run P w=.ok (.int .i64 y) w:=fun x y=>by
  simp [part,isAgg,Sem.run_bind,run_underlying hi2]
 have q1:=fun x y=>run_equalIn_int (P:=P) w 9998 f1.type .i64 .i64 x y hi1
 have q2:=fun x y=>run_equalIn_int (P:=P) w 9998 f2.type .i64 .i64 x y hi2
 simp only [Op.eqFields,h1,h2,o1,o2,ne_eq,not_false_eq_true,if_true,Sem.run_bind,p1 0,Result.andThen_ok,q1]
 by_cases e1:a=c
 ·by_cases e2:b=d
  ·simp [e1,e2,Sem.run_bind,p2,q2]
  ·simp [e1,e2,Sem.run_bind,p2,q2]
 ·simp [e1]
class EqPr (P:Program) (t:TypeId):Prop where
 eq:∀(w:World) (a b c d:Int),(Op.equalIn 10000 t (.agg #[.int .i64 a,.int .i64 b]) (.agg #[.int .i64 c,.int .i64 d])).run P w=.ok (decide (a=c∧b=d)) w
 gd:P.eqGuardType P.depth t=false
section
variable {P:Program} {n m:Nat} {G:Ctx} {T:List (Nat×AV)} {O:List AObj} {Q:Exit→St→Prop} {md:Bool} {ops:Array Oper} {l:List Oper} {d:Nat} {tt:TypeId} {pos:String} {after:Array Edge}
theorem RelAt.pr {S ι F a w} (hr:RelAt n m G S ι F ⟨T,O⟩ a w) {x:Operand} {p q:Int} (hx:av T x=.agg [I p,I q]):a.eval x=.agg #[.int .i64 p,.int .i64 q]:=by
 have h:=hr.eval x
 rw [hx] at h
 obtain ⟨us,e,hu⟩:=LRel.agg_inv h
 rw [e]
 cases hu with
 |sc h2=>cases h2 with
  |sc h3=>cases h3;rfl
theorem WpL.prNe {t ty:TypeId} {x y:Operand} {a b c e:Int} [hE:EqPr P t] (hx:av T x=.agg [I a,I b]) (hy:av T y=.agg [I c,I e]) (hn:d<n)
 (h:WpL P n m G md ops l ⟨(d,.sc (.bool (!decide (a=c∧b=e))))::T,O⟩ Q):
 WpL P n m G md ops ({dst:=some d,op:=.binOp .neq t x y ty,type:=tt,pos:=pos,after:=after,guard:=none}::l) ⟨T,O⟩ Q:=
 WpL.pure rfl rfl hn (fun S ι F act w hr=>⟨_,by
  simp only [execOp,hr.pr hx,hr.pr hy,Sem.run_bind,run_eqGuard_agg (P:=P) w _ _ _ _ _ _ hE.gd,Result.andThen_ok,run_neq_struct (P:=P) w,hE.eq,Sem.run_pure],.sc .nil⟩) h
end
end Go.Abs


namespace Go.Abs
open Go
inductive Rf (k j e:Nat):List AV→List AV→Prop
 |nil:Rf k j e [] []
 |keep {V vs us}:V.still=true→V.nofre=true→Rf k j e vs us→Rf k j e (V::vs) (V::us)
 |own {k' off len vs us}:k'=k→Rf k j e vs us→Rf k j e (.own k' 0 off len::vs) (.own j e off len::us)
 |ptr {k' off vs us}:k'=k→Rf k j e vs us→Rf k j e (.ptr k' 0 off::vs) (.ptr j e off::us)
 |agg {ds es vs us}:Rf k j e ds es→Rf k j e vs us→Rf k j e (.agg ds::vs) (.agg es::us)
 |tup {ds es vs us}:Rf k j e ds es→Rf k j e vs us→Rf k j e (.tup ds::vs) (.tup es::us)
theorem Rf.rel {k j e:Nat} {S w} {ι ι':Nat→Spot} {O O':List AObj} {ob ob':AObj} (ho:O[k]?=some ob) (ho':O'[j]?=some ob') (he:ob.ep=0) (he':ob'.ep=e) (hsz:ob'.size=ob.size) (hι:ι' j=ι k) {vs us:List AV} (h:Rf k j e vs us):∀{xs},LRel S w ι O vs xs []→LRel S w ι' O' us xs []:=by
 induction h with
 |nil=>intro xs hl;cases hl;exact .nil
 |keep hs hn _ ih=>
  intro xs hl
  obtain ⟨v,vs',f1,f2,rfl,hv,hr,hf⟩:=hl.uncons
  obtain ⟨rfl,rfl⟩:f1=[]∧f2=[]:=by simpa using hf
  exact LRel.cons (still_any hv hs O' (fun _ h=>h) (fun _ _=>rfl) (fun _ _=>rfl)) (ih hr)
 |own hk _ ih=>
  intro xs hl
  subst hk
  cases hl with
  |own q1 q2 q3 r=>
   rw [ho] at q1;cases q1
   exact .own ho' (by omega) (fun _=>by rw [hsz,hι];exact q3 he.symm) (ih r)
 |ptr hk _ ih=>
  intro xs hl
  subst hk
  cases hl with
  |ptr q1 q2 q3 r=>
   rw [ho] at q1;cases q1
   exact .ptr ho' (by omega) (fun _=>by rw [hι];exact q3 he.symm) (ih r)
 |agg _ _ ih1 ih2=>
  intro xs hl
  obtain ⟨v,vs',f1,f2,rfl,hv,hr,hf⟩:=hl.uncons
  obtain ⟨rfl,rfl⟩:f1=[]∧f2=[]:=by simpa using hf
  obtain ⟨us',rfl,ha⟩:=LRel.agg_inv hv
  simpa using LRel.agg (ih1 ha) (ih2 hr)
 |tup _ _ ih1 ih2=>
  intro xs hl
  obtain ⟨v,vs',f1,f2,rfl,hv,hr,hf⟩:=hl.uncons
  obtain ⟨rfl,rfl⟩:f1=[]∧f2=[]:=by simpa using hf
  obtain ⟨us',rfl,ha⟩:=LRel.tup_inv hv
  simpa using LRel.tup (ih1 ha) (ih2 hr)
theorem RelAt.fillV {n m G S ι F T O a w} {d j:Nat} {V V':AV} {ob oj:AObj} (hV:Rf O.length j (oj.ep+1) [V] [V']) (hr:RelAt n m G S ι F ⟨(d,V)::T,O++[ob]⟩ a w) (hj:O[j]?=some oj) (hm:m≤j) (hob:ob.ep=0):
 ∃ι' F',RelAt n m G S ι' F' ⟨(d,V')::T,O.set j (ob.putE (oj.ep+1))++[deadO]⟩ a w:=by
 have hjl:j<O.length:=(List.getElem?_eq_some_iff.1 hj).1
 have hlast:(O++[ob])[O.length]?=some ob:=List.getElem?_concat_length
 have hO2:∀i:Nat,(O.set j (ob.putE (oj.ep+1))++[deadO])[i]?=if i=j then some (ob.putE (oj.ep+1)) else if i=O.length then some deadO else O[i]?:=by
  intro i
  by_cases h1:i=j
  ·subst h1;rw [if_pos rfl,List.getElem?_append_left (by simpa using hjl)];simp [hjl]
  ·rw [if_neg h1]
   have h1':¬j=i:=fun e=>h1 e.symm
   by_cases h2:i=O.length
   ·subst h2;rw [if_pos rfl,List.getElem?_append_right (by simp)];simp
   ·rw [if_neg h2]
    rcases Nat.lt_or_ge i O.length with h|h
    ·rw [List.getElem?_append_left (by simpa using h)];simp [List.getElem?_set,h1']
    ·rw [List.getElem?_eq_none (by simp;omega),List.getElem?_eq_none h]
 have hO1:∀i:Nat,i≠O.length→(O++[ob])[i]?=O[i]?:=by
  intro i hi
  rcases Nat.lt_or_ge i O.length with h|h
  ·rw [List.getElem?_append_left h]
  ·rw [List.getElem?_eq_none (by simp;omega),List.getElem?_eq_none h]
 have hjn:j≠O.length:=by omega
 have hlat:Later S w ι (O++[ob]) S w (upd (upd ι j (ι O.length)) O.length none) (O.set j (ob.putE (oj.ep+1))++[deadO]):=by
  refine ⟨fun _ h=>h,fun _ _=>rfl,fun i obi hi=>?_⟩
  by_cases h1:i=j
  ·subst h1;rw [hO1 _ hjn,hj] at hi;cases hi
   exact ⟨(ob.putE (oj.ep+1)),by rw [hO2,if_pos rfl],.inl (Nat.lt_succ_self _)⟩
  ·by_cases h2:i=O.length
   ·subst h2;rw [hlast] at hi;cases hi
    exact ⟨deadO,by rw [hO2,if_neg h1,if_pos rfl],.inl (by rw [hob];exact Nat.lt_succ_self _)⟩
   ·rw [hO1 _ h2] at hi
    exact ⟨obi,by rw [hO2,if_neg h1,if_neg h2];exact hi,.inr ⟨rfl,rfl,by rw [upd_other _ _ h2,upd_other _ _ h1]⟩⟩
 have hn:=hr.objs.obj O.length ob hlast
 refine ⟨upd (upd ι j (ι O.length)) O.length none,upd (upd F j (F O.length)) O.length [],hr.defers,hr.size,fun t'=>?_,⟨fun i obi hi=>?_,fun i hi=>?_,fun i i' hi hi' hii c hcm=>?_⟩,fun i hi c hcm=>?_,hr.base,hr.stable,hr.keeps,fun i hi=>?_,?_⟩
 ·have ht:=hr.tmps t'
  by_cases e:d=t'
  ·subst e
   have ht:VRel S w ι (O++[ob]) (look ((d,V)::T) d) (a.tmps.getD d undef) []:=ht
   show VRel _ _ _ _ (look ((d,V')::T) d) _ _
   rw [look_cons_same] at ht ⊢
   exact hV.rel (ob':=ob.putE (oj.ep+1)) hlast (by rw [hO2,if_pos rfl]) hob rfl rfl (by rw [upd_other _ _ hjn,upd_same]) ht
  ·have ht:VRel S w ι (O++[ob]) (look ((d,V)::T) t') (a.tmps.getD t' undef) []:=ht
   show VRel _ _ _ _ (look ((d,V')::T) t') _ _
   rw [look_cons_other _ _ _ _ e] at ht ⊢
   exact ht.mono hlat (fun _ _=>rfl)
 ·have hi:(O.set j (ob.putE (oj.ep+1))++[deadO])[i]?=some obi:=hi
  rw [hO2] at hi
  by_cases e1:i=j
  ·subst e1
   rw [if_pos rfl] at hi;cases hi
   rw [upd_other _ _ hjn,upd_other _ _ hjn,upd_same,upd_same]
   unfold ObjAt at hn ⊢
   cases hs:ι O.length with
   |none=>rw [hs] at hn;exact hn
   |some p=>
    obtain ⟨b,k⟩:=p
    rw [hs] at hn
    obtain ⟨cur,t,fz,f',h1,h2,h3,h4,h5,h6,h7⟩:=hn
    have h8:=h7.mono hlat (fun _ _=>rfl)
    rw [hs] at h8
    exact ⟨cur,t,fz,f',h1,h2,h3,h4,h5,h6,h8⟩
  ·rw [if_neg e1] at hi
   by_cases e2:i=O.length
   ·subst e2
    rw [if_pos rfl] at hi;cases hi
    rw [upd_same,upd_same];exact ⟨rfl,rfl⟩
   ·rw [if_neg e2] at hi
    rw [upd_other _ _ e2,upd_other _ _ e2,upd_other _ _ e1,upd_other _ _ e1]
    have ho:=hr.objs.obj i obi (by show (O++[ob])[i]?=_;rw [hO1 _ e2];exact hi)
    unfold ObjAt at ho ⊢
    cases hs:ι i with
    |none=>rw [hs] at ho;exact ho
    |some p=>
     obtain ⟨b,k⟩:=p
     rw [hs] at ho
     obtain ⟨cur,t,fz,f',h1,h2,h3,h4,h5,h6,h7⟩:=ho
     exact ⟨cur,t,fz,f',h1,h2,h3,h4,h5,h6,h7.mono hlat (fun _ _=>rfl)⟩
 ·have hi:i<(O.set j (ob.putE (oj.ep+1))++[deadO]).length:=hi
  simp only [List.length_append,List.length_set,List.length_singleton] at hi
  by_cases e2:i=O.length
  ·subst e2;rw [upd_same];exact List.nodup_nil
  ·rw [upd_other _ _ e2]
   by_cases e1:i=j
   ·subst e1;rw [upd_same];exact hr.objs.nodup O.length (by show O.length<(O++[ob]).length;simp)
   ·rw [upd_other _ _ e1];exact hr.objs.nodup i (by show i<(O++[ob]).length;simp;omega)
 ·have hi:i<(O.set j (ob.putE (oj.ep+1))++[deadO]).length:=hi
  have hi':i'<(O.set j (ob.putE (oj.ep+1))++[deadO]).length:=hi'
  simp only [List.length_append,List.length_set,List.length_singleton] at hi hi'
  by_cases e2:i=O.length
  ·subst e2;rw [upd_same] at hcm;cases hcm
  ·rw [upd_other _ _ e2] at hcm
   by_cases e3:i'=O.length
   ·subst e3;rw [upd_same];intro h;cases h
   ·rw [upd_other _ _ e3]
    have hL:(O++[ob]).length=O.length+1:=by simp
    by_cases e1:i=j
    ·subst e1
     rw [upd_same] at hcm
     rw [upd_other _ _ (fun e=>hii e.symm)]
     exact hr.objs.apart O.length i' (by show O.length<(O++[ob]).length;omega) (by show i'<(O++[ob]).length;omega) (fun e=>e3 e.symm) c hcm
    ·rw [upd_other _ _ e1] at hcm
     by_cases e4:i'=j
     ·subst e4;rw [upd_same]
      exact hr.objs.apart i O.length (by show i<(O++[ob]).length;omega) (by show O.length<(O++[ob]).length;omega) e2 c hcm
     ·rw [upd_other _ _ e4]
      exact hr.objs.apart i i' (by show i<(O++[ob]).length;omega) (by show i'<(O++[ob]).length;omega) hii c hcm
 ·have hi:i<(O.set j (ob.putE (oj.ep+1))++[deadO]).length:=hi
  simp only [List.length_append,List.length_set,List.length_singleton] at hi
  have hL:(O++[ob]).length=O.length+1:=by simp
  by_cases e2:i=O.length
  ·subst e2;rw [upd_same] at hcm;cases hcm
  ·rw [upd_other _ _ e2] at hcm
   by_cases e1:i=j
   ·subst e1;rw [upd_same] at hcm;exact hr.foot O.length (by show O.length<(O++[ob]).length;omega) c hcm
   ·rw [upd_other _ _ e1] at hcm;exact hr.foot i (by show i<(O++[ob]).length;omega) c hcm
 ·rw [upd_other _ _ (by omega),upd_other _ _ (by omega)];exact hr.spots i hi
 ·show m≤(O.set j (ob.putE (oj.ep+1))++[deadO]).length
  simp only [List.length_append,List.length_set,List.length_singleton];omega
section
variable {P:Program} {n m:Nat} {G:Ctx} {O:List AObj} {Q:Exit→St→Prop} {ops:Array Oper}
theorem WpL.putV {T:List (Nat×AV)} {Ov:List AObj} {p d:Nat} {V V':AV} {ob:AObj} (hV:Rf (O++Ov).length (O.length+p) 1 [V] [V']) (hp:Ov[p]?=some roomO) (hm:m≤O.length+p) (hob:ob.ep=0) (hst:ob.cells.all AV.still=true):
 WpL P n m G false ops [] ⟨(d,V)::T,O++Ov++[ob]⟩ (Only ⟨(d,V')::T,O++(Fil.put p ob.put1).run Ov⟩):=by
 refine WpL.weak (σ':=⟨(d,V')::T,(O++Ov).set (O.length+p) (ob.putE 1)++[deadO]⟩) ?_ ?_
 ·rintro n' G' a w ⟨S,ι,F,hr⟩
  obtain ⟨ι',F',h⟩:=hr.fillV (V:=V) (V':=V') (j:=O.length+p) (oj:=roomO) hV (fill_at hp) hm hob
  exact ⟨S,ι',F',h⟩
 ·refine WpL.nil (Only.mk ?_)
  rw [fill_eq];rfl
theorem WpL.putA {T:List (Nat×AV)} {Ov:List AObj} {p d:Nat} {V V':AV} {ob:AObj} (hV:Rf (O++Ov).length (O.length+p) 1 [V] [V']) (hp:Ov[p]?=some roomO) (hm:m≤O.length+p) (hob:ob.ep=0):
 WpL P n m G false ops [] ⟨(d,V)::T,O++Ov++[ob]⟩ (Only ⟨(d,V')::T,O++(Fil.put p ob.put1).run Ov⟩):=by
 refine WpL.weak (σ':=⟨(d,V')::T,(O++Ov).set (O.length+p) (ob.putE 1)++[deadO]⟩) ?_ ?_
 ·rintro n' G' a w ⟨S,ι,F,hr⟩
  obtain ⟨ι',F',h⟩:=hr.fillV (V:=V) (V':=V') (j:=O.length+p) (oj:=roomO) hV (fill_at hp) hm hob
  exact ⟨S,ι',F',h⟩
 ·refine WpL.nil (Only.mk ?_)
  rw [fill_eq];rfl
end
end Go.Abs
