/- Proved in this text: lemmas and contracts of functions that the claim uses (parts: AbsHf, BmH, AbsFz, Bits, BitsM, BitsH, Ln, SizeL, Unp, RdV, RdT, Cache, AbsAz, Ent, UeT, RdB, RdW, Back, Stop, UnpI, EncS). No condition. -/
import Derived.Test.YtainhhfnnclfiaaGreatBsM7
import Derived.Test.YtainhhfnnclfiaaGreatBsM14
import Derived.Test.YtainhhfnnclfiaaGreatBsM12
import Derived.Test.YtainhhfnnclfiaaGreatBsM11
import Derived.Test.YtainhhfnnclfiaaGreatBsM9
import Derived.Test.YtainhhfnnclfiaaGreatBsM13
import Derived.Test.YtainhhfnnclfiaaGreatBsM10
import Derived.Lib.AppendZeros
set_option linter.unusedVariables false
set_option linter.unusedSimpArgs false
set_option maxRecDepth 100000
set_option maxHeartbeats 16000000


namespace Go.Abs
open Go
structure HandX (O:List AObj) (hs:List Nat) (vs us:List AV):Prop where
 rel:∀{M:List AObj} {S S2:Nat→Prop} {w:World} {ι ιM:Nat→Spot} {F:Nat→List Nat},(hs.length=M.length∧∀(j:Nat) (mb:AObj),M[j]?=some mb→∃id ob,hs[j]?=some id∧O[id]?=some ob∧mb.ep=0∧mb.size=ob.size)→
 (∀ (j id:Nat),hs[j]?=some id→ιM j=ι id)→(∀ b,S b→S2 b)→ORel S w ι O F→(∀ b,b<w.heap.size→(∀ id∈hs,b ∉ F id)→S2 b)→(∀ id∈hs,id<O.length)→∀{xs},LRel S w ι O vs xs []→LRel S2 w ιM M us xs []
theorem Hand.x {O:List AObj} {hs:List Nat} {vs us:List AV} (h:Hand O hs vs us):HandX O hs vs us:=⟨fun hM hι hS hO hS2 hlt _ hl=>Hand.relH hM hι hS hO hS2 hlt h hl⟩
theorem HandX.cons {O:List AObj} {hs:List Nat} {V U:AV} {vs us:List AV} (h1:HandX O hs [V] [U]) (h2:HandX O hs vs us):HandX O hs (V::vs) (U::us):=⟨fun hM hι hS hO hS2 hlt _ hl=>by
 obtain ⟨v,vs',f1,f2,rfl,hv,hr,hf⟩:=hl.uncons
 obtain ⟨rfl,rfl⟩:f1=[]∧f2=[]:=by simpa using hf
 have a:=h1.rel hM hι hS hO hS2 hlt hv
 have b:=h2.rel hM hι hS hO hS2 hlt hr
 obtain ⟨y,ys,g1,g2,e,hy,hys,hg⟩:=a.uncons
 cases e
 obtain ⟨rfl,rfl⟩:g1=[]∧g2=[]:=by simpa using hg
 simpa using LRel.cons hy b⟩
theorem HandX.fn {O:List AObj} {hs:List Nat} {g:FuncId} {ds es:List AV} (h:Hand O hs ds es):HandX O hs [.fn g ds] [.fn g es]:=⟨fun hM hι hS hO hS2 hlt _ hl=>by
 cases hl with
 |fn a r=>cases r;exact .fn (Hand.relH hM hι hS hO hS2 hlt h a) .nil⟩
section
variable {P:Program} {n m:Nat} {G:Ctx} {T:List (Nat×AV)} {O:List AObj} {Q:Exit→St→Prop} {ops:Array Oper} {l:List Oper} {tt:TypeId} {pos:String} {after:Array Edge} {tab:List (Nat×Ty)}
theorem callH_relS {f:FuncId} {vals:List Value} {Vs As:List AV} {M OO A B:List AObj} {r r':AV} {hs:List Nat} {k:Nat} (hc:FnH P f As k M OO r) (hh:HandX O hs Vs As) (hM:HandH O hs hs M) (hnd:hs.Nodup) (hmk:∀(j id:Nat),k≤j→hs[j]?=some id→m≤id)
 (hA:AftO O hs k O.length OO 0 O A) (hB:AftN O hs k O.length (OO.drop k) B) (hre:Back O hs k O.length [r] [r']) {a:Act} {w:World} {S:Nat→Prop} {ι:Nat→Spot} {F:Nat→List Nat} (hr:RelAt n m G S ι F ⟨T,O⟩ a w) (hl:LRel S w ι O Vs vals []):
 Calls P f vals.toArray w fun e w'=>∃v,e=.returned v∧∃S ι F,RelAt n m G S ι F ⟨T,A++B⟩ a w'∧VRel S w' ι (A++B) r' v []:=by
 obtain ⟨⟨fn,hf,hb,hnm⟩,hkM,hkO,hcall⟩:=hc
 obtain ⟨hlM,hatM⟩:=hM.at
 let S2:Nat→Prop:=fun b=>b<w.heap.size∧∀id∈hs,b ∉ F id
 let ιM:Nat→Spot:=fun j=>match hs[j]? with|some id=>ι id|none=>none
 let FM:Nat→List Nat:=fun j=>match hs[j]? with|some id=>F id|none=>[]
 have hιM:∀(j id:Nat),hs[j]?=some id→ιM j=ι id:=fun j id h=>by show (match hs[j]? with|some id=>ι id|none=>none)=_;rw [h]
 have hFM:∀(j id:Nat),hs[j]?=some id→FM j=F id:=fun j id h=>by show (match hs[j]? with|some id=>F id|none=>[])=_;rw [h]
 have hidl:∀(j id:Nat),hs[j]?=some id→id<O.length:=fun j id h=>by
  have hj:j<M.length:=by rw [←hlM];exact (List.getElem?_eq_some_iff.1 h).1
  obtain ⟨id',ob,e1,e2,_⟩:=hatM j _ (List.getElem?_eq_getElem hj)
  rw [h] at e1;cases e1;exact (List.getElem?_eq_some_iff.1 e2).1
 have hmem:∀id∈hs,∃j,j<M.length∧hs[j]?=some id:=fun id h=>by
  obtain ⟨j,hj,e⟩:=List.getElem_of_mem h
  exact ⟨j,by omega,by rw [List.getElem?_eq_getElem hj,e]⟩
 have hex:∀j,j<M.length→∃id,hs[j]?=some id:=fun j hj=>⟨hs[j],List.getElem?_eq_getElem (by omega)⟩
 have hidm:∀id∈hs,id<O.length:=fun id hid=>by obtain ⟨j,hj,e⟩:=hmem id hid;exact hidl j id e
 have hSS:∀b,S b→S2 b:=fun b hb=>⟨hr.stable b hb,fun id hid hbf=>by
  obtain ⟨j,hj,e⟩:=hmem id hid
  exact (hr.foot id (hidl j id e) b hbf).2.1 hb⟩
 have hMw:hs.length=M.length∧∀(j:Nat) (mb:AObj),M[j]?=some mb→∃id ob,hs[j]?=some id∧O[id]?=some ob∧mb.ep=0∧mb.size=ob.size:=⟨hlM,fun j mb hj=>by
  obtain ⟨id,ob,e1,e2,_,e4,e5,_⟩:=hatM j mb hj;exact ⟨id,ob,e1,e2,e4,e5⟩⟩
 have hOM:ORel S2 w ιM M FM:=by
  refine ⟨fun j mb hj=>?_,fun j hj=>?_,fun i j hi hj hij b hb=>?_⟩
  ·obtain ⟨id,ob,e1,e2,e3,e4,e5,e7⟩:=hatM j mb hj
   rw [hιM j id e1,hFM j id e1]
   have ho:=hr.objs.obj id ob e2
   unfold ObjAt at ho ⊢
   cases hs':ι id with
   |none=>
    rw [hs'] at ho
    rcases e3 with ⟨e3,_⟩|⟨e3,_⟩
    ·rw [←e3];exact ho
    ·rw [ho.1] at e3;generalize mb.cells=z at e3;cases e3;exact ⟨rfl,ho.2⟩
   |some p=>
    obtain ⟨b,k⟩:=p
    rw [hs'] at ho
    obtain ⟨cur',t',fz',f2,q1,q2,q3,q4,q5,q6,q7⟩:=ho
    have hty:∀e,mb.ty=some e→t'=e∧fz'=(0,0):=fun e he=>by
     rcases e7 with e7|e7
     ·rw [e7] at he;cases he
     ·exact q6 e (by rw [←e7];exact he)
    rcases e3 with ⟨e3,e3'⟩|⟨e3,e3'⟩
    ·refine ⟨cur',t',fz',f2,q1,q2,q3,by rw [←e3];exact q4,q5,hty,?_⟩
     rw [←e3]
     exact still_all (by rw [e3];exact e3') q7 hSS (fun _ _=>rfl) (fun _ _=>rfl)
    ·have hf2:=nofre_list q7 e3'
     subst hf2
     have hl2:=Hand.relH (S2:=S2) (ιM:=ιM) hMw hιM hSS hr.objs (fun b h1 h2=>⟨h1,h2⟩) hidm e3 q7
     have hlen:mb.cells.length=ob.cells.length:=by have:=hl2.len;have:=q7.len;omega
     refine ⟨cur',t',fz',[],q1,q2,q3,by omega,q5,hty,?_⟩
     rw [hlen];exact hl2
  ·obtain ⟨id,e⟩:=hex j hj
   rw [hFM j id e];exact hr.objs.nodup id (hidl j id e)
  ·obtain ⟨id1,e1⟩:=hex i hi
   obtain ⟨id2,e2⟩:=hex j hj
   rw [hFM i id1 e1] at hb;rw [hFM j id2 e2]
   exact hr.objs.apart id1 id2 (hidl i id1 e1) (hidl j id2 e2) (fun e=>hij (nodup_get hnd e1 (e▸e2))) b hb
 have hl2:=hh.rel (S2:=S2) (ιM:=ιM) hMw hιM hSS hr.objs (fun b h1 h2=>⟨h1,h2⟩) hidm hl
 refine (hcall w S2 ιM FM vals (fun b h=>h.1) hOM (fun j hj b hb=>?_) hl2).mono fun e w' he=>?_
 ·obtain ⟨id,e⟩:=hex j hj
  rw [hFM j id e] at hb
  exact ⟨fun h=>h.2 id (List.mem_of_getElem? e) hb,(hr.foot id (hidl j id e) b hb).2.2⟩
 obtain ⟨v,S',ι',F',rfl,hS1,hS2,hS3,hι',hO',hF',hv,hk⟩:=he
 refine ⟨v,rfl,?_⟩
 have hold:∀b,b<w.heap.size→(∀ id∈hs,b ∉ F id)→w'.heap[b]?=w.heap[b]?:=fun b hb hn=>hk.block b hb (by
  rintro ⟨i,hi,hbf⟩
  obtain ⟨id,e⟩:=hex i hi
  rw [hFM i id e] at hbf
  exact hn id (List.mem_of_getElem? e) hbf)
 obtain ⟨hAl,hAt⟩:=hA.at
 obtain ⟨hBl,hBt⟩:=hB.at
 have hBl2:B.length=OO.length-k:=by rw [hBl,List.length_drop]
 have hfind:∀(i j:Nat),findN hs i 0=some j→j<M.length∧hs[j]?=some i:=fun i j h=>by
  obtain ⟨q,rfl,hq⟩:=findN_some h
  rw [Nat.zero_add]
  exact ⟨by rw [←hlM];exact (List.getElem?_eq_some_iff.1 hq).1,hq⟩
 have hfound:∀(i j:Nat),hs[j]?=some i→findN hs i 0=some j:=fun i j h=>by
  cases hfd:findN hs i 0 with
  |none=>exact absurd (List.mem_of_getElem? h) (findN_none hfd)
  |some q=>obtain ⟨_,h2⟩:=hfind i q hfd;rw [nodup_get hnd h2 h]
 let S3:Nat→Prop:=fun b=>S b∨(S' b∧w.heap.size≤b)
 let ι3:Nat→Spot:=fun i=>if i<O.length then (match findN hs i 0 with|some j=>if j<k then ι i else none|none=>ι i) else ι' (k+(i-O.length))
 let F3:Nat→List Nat:=fun i=>if i<O.length then (match findN hs i 0 with|some j=>if j<k then F' j else []|none=>F i) else F' (k+(i-O.length))
 let O3:=A++B
 have hlO3:O3.length=O.length+(OO.length-k):=by show (A++B).length=_;rw [List.length_append,hAl,hBl2]
 have hι3n:∀i,i<O.length→findN hs i 0=none→ι3 i=ι i:=fun i hi h=>by show (if _ then _ else _)=_;rw [if_pos hi,h]
 have hι3t:∀i j,i<O.length→findN hs i 0=some j→j<k→ι3 i=ι i:=fun i j hi h hj=>by show (if _ then _ else _)=_;rw [if_pos hi,h];exact if_pos hj
 have hι3d:∀i j,i<O.length→findN hs i 0=some j→k≤j→ι3 i=none:=fun i j hi h hj=>by show (if _ then _ else _)=_;rw [if_pos hi,h];exact if_neg (by omega)
 have hι3g:∀i,O.length≤i→ι3 i=ι' (k+(i-O.length)):=fun i hi=>if_neg (by omega)
 have hF3n:∀i,i<O.length→findN hs i 0=none→F3 i=F i:=fun i hi h=>by show (if _ then _ else _)=_;rw [if_pos hi,h]
 have hF3t:∀i j,i<O.length→findN hs i 0=some j→j<k→F3 i=F' j:=fun i j hi h hj=>by show (if _ then _ else _)=_;rw [if_pos hi,h];exact if_pos hj
 have hF3d:∀i j,i<O.length→findN hs i 0=some j→k≤j→F3 i=[]:=fun i j hi h hj=>by show (if _ then _ else _)=_;rw [if_pos hi,h];exact if_neg (by omega)
 have hF3g:∀i,O.length≤i→F3 i=F' (k+(i-O.length)):=fun i hi=>if_neg (by omega)
 have hO3lt:∀i:Nat,i<O.length→O3[i]?=A[i]?:=fun i hi=>by show (A++B)[i]?=_;rw [List.getElem?_append_left (by omega)]
 have hO3ge:∀i:Nat,O.length≤i→O3[i]?=B[i-O.length]?:=fun i hi=>by show (A++B)[i]?=_;rw [List.getElem?_append_right (by omega),hAl]
 have hB3:∀(j:Nat) (oj:AObj),k≤j→OO[j]?=some oj→∃cs,B[j-k]?=some ⟨cs,oj.ep,oj.size,oj.ty⟩∧Back O hs k O.length oj.cells cs:=fun j oj hj h=>by
  refine hBt (j-k) oj ?_
  rw [List.getElem?_drop,show k+(j-k)=j by omega];exact h
 have bkold:∀(j id:Nat) (ob:AObj),j<k→hs[j]?=some id→O[id]?=some ob→∃oj o3,OO[j]?=some oj∧oj.ep=0∧O3[id]?=some o3∧o3.ep=ob.ep∧o3.size=oj.size∧ι3 id=ι' j:=fun j id ob hj hjs ho=>by
  have hlt:=hidl j id hjs
  have hfd:=hfound id j hjs
  rcases hAt id ob ho with ⟨h1,_⟩|⟨j',oj,cs,h1,h2,h3,h4,h5,h6,h7⟩|⟨j',h1,h2,_⟩
  ·rw [Nat.zero_add,hfd] at h1;cases h1
  ·rw [Nat.zero_add,hfd] at h1;cases h1
   exact ⟨oj,⟨cs,ob.ep,oj.size,oj.ty⟩,h3,h4,by rw [hO3lt id hlt];exact h6,rfl,rfl,by rw [hι3t id j hlt hfd hj,hι' j hj,hιM j id hjs]⟩
  ·rw [Nat.zero_add,hfd] at h1;cases h1;omega
 have bknew:∀(j:Nat) (oj:AObj),k≤j→OO[j]?=some oj→∃o3,O3[j-k+O.length]?=some o3∧o3.ep=oj.ep∧o3.size=oj.size∧ι3 (j-k+O.length)=ι' j:=fun j oj hj h=>by
  obtain ⟨cs,h1,h2⟩:=hB3 j oj hj h
  refine ⟨⟨cs,oj.ep,oj.size,oj.ty⟩,by rw [hO3ge _ (by omega),Nat.add_sub_cancel];exact h1,rfl,rfl,?_⟩
  rw [hι3g _ (by omega),Nat.add_sub_cancel];congr 1;omega
 have hlat:Later S w ι O S3 w' ι3 O3:=by
  refine ⟨fun b h=>.inl h,fun b hb=>hold b (hr.stable b hb) (hSS b hb).2,fun id ob h=>?_⟩
  have hlt:id<O.length:=(List.getElem?_eq_some_iff.1 h).1
  rcases hAt id ob h with ⟨h1,h2⟩|⟨j,oj,cs,h1,h2,h3,h4,h5,h6,h7⟩|⟨j,h1,h2,h3⟩
  ·rw [Nat.zero_add] at h1
   exact ⟨ob,by rw [hO3lt id hlt];exact h2,.inr ⟨rfl,rfl,hι3n id hlt h1⟩⟩
  ·rw [Nat.zero_add] at h1
   exact ⟨⟨cs,ob.ep,oj.size,oj.ty⟩,by rw [hO3lt id hlt];exact h6,.inr ⟨rfl,h5,hι3t id j hlt h1 h2⟩⟩
  ·exact ⟨⟨[],ob.ep+1,0,none⟩,by rw [hO3lt id hlt];exact h3,.inl (Nat.lt_succ_self _)⟩
 have hsrc:∀q,q<OO.length→∀b∈F' q,((∃ id,id∈hs∧id<O.length∧b∈F id)∨w.heap.size≤b)∧¬S' b∧b<w'.heap.size:=fun q hq b hb=>by
  obtain ⟨q1,q2,q3⟩:=hF' q hq b hb
  refine ⟨?_,q2,q3⟩
  rcases q1 with ⟨i,hi,hbf⟩|q1
  ·obtain ⟨id,e⟩:=hex i hi
   rw [hFM i id e] at hbf
   exact .inl ⟨id,List.mem_of_getElem? e,hidl i id e,hbf⟩
  ·exact .inr q1
 have hnoS:∀q,q<OO.length→∀b∈F' q,(G.M0 b∨G.w0.heap.size≤b)∧¬S3 b∧b<w'.heap.size:=fun q hq b hb=>by
  obtain ⟨q1,q2,q3⟩:=hsrc q hq b hb
  rcases q1 with ⟨id,hid,hlt,hbf⟩|q1
  ·obtain ⟨p1,p2,p3⟩:=hr.foot id hlt b hbf
   refine ⟨p1,?_,q3⟩
   rintro (h|⟨h,_⟩)
   ·exact p2 h
   ·exact q2 h
  ·refine ⟨.inr (by have:=hr.keeps.size;omega),?_,q3⟩
   rintro (h|⟨h,_⟩)
   ·have:=hr.stable b h;omega
   ·exact q2 h
 have hnotin:∀i,i<O.length→findN hs i 0=none→∀b∈F i,w'.heap[b]?=w.heap[b]?:=fun i hi h b hb=>hold b (hr.foot i hi b hb).2.2 fun id hid hbf=>by
  obtain ⟨j,hj,e⟩:=hmem id hid
  have hne:i≠id:=by rintro rfl;exact findN_none h hid
  exact hr.objs.apart i id hi (hidl j id e) hne b hb hbf
 have hback:∀{cs cs':List AV},Back O hs k O.length cs cs'→∀{ys g},LRel S' w' ι' OO cs ys g→LRel S3 w' ι3 O3 cs' ys g:=fun hb=>Back.rel bkold bknew hb
 have hobj:∀(q:Nat) (oj:AObj) (cs:List AV) (e:Nat),OO[q]?=some oj→Back O hs k O.length oj.cells cs→ObjAt S3 w' ι3 O3 ⟨cs,e,oj.size,oj.ty⟩ (ι' q) (F' q):=fun q oj cs e hq hb=>by
  have ho:=hO'.obj q oj hq
  have hl:=hb.len
  unfold ObjAt at ho ⊢
  cases hs':ι' q with
  |none=>
   rw [hs'] at ho
   refine ⟨List.length_eq_zero_iff.1 ?_,ho.2⟩
   rw [hl,ho.1];rfl
  |some p=>
   obtain ⟨b,kk⟩:=p
   rw [hs'] at ho
   obtain ⟨cur',t',fz',f2,q1,q2,q3,q4,q5,q6,q7⟩:=ho
   refine ⟨cur',t',fz',f2,q1,q2,q3,by show cs.length≤kk;omega,q5,q6,?_⟩
   show LRel S3 w' ι3 O3 cs (cur'.toList.take cs.length) f2
   rw [hl];exact hback hb q7
 have hpl:∀i,i<O3.length→(∃ q,q<OO.length∧F3 i=F' q∧((q<k∧hs[q]?=some i)∨(O.length≤i∧q=k+(i-O.length))))∨(i<O.length∧findN hs i 0=none∧F3 i=F i)∨F3 i=[]:=fun i hi=>by
  by_cases hlt:i<O.length
  ·cases hfd:findN hs i 0 with
   |some j=>
    by_cases hj:j<k
    ·exact .inl ⟨j,by omega,hF3t i j hlt hfd hj,.inl ⟨hj,(hfind i j hfd).2⟩⟩
    ·exact .inr (.inr (hF3d i j hlt hfd (by omega)))
   |none=>exact .inr (.inl ⟨hlt,rfl,hF3n i hlt hfd⟩)
  ·exact .inl ⟨_,by omega,hF3g i (by omega),.inr ⟨by omega,rfl⟩⟩
 refine ⟨S3,ι3,F3,⟨hr.defers,hr.size,fun t=>(hr.tmps t).mono hlat (by simp),⟨fun i ob h=>?_,fun i h=>?_,fun i j hi hj hij b hb=>?_⟩,fun i h b hb=>?_,⟨fun b hb=>.inl (hr.base.1 b hb),?_⟩,?_,?_,fun i h=>?_,?_⟩,?_⟩
 ·have h:O3[i]?=some ob:=h
  by_cases hlt:i<O.length
  ·rw [hO3lt i hlt] at h
   rcases hAt i O[i] (List.getElem?_eq_getElem hlt) with ⟨h1,h2⟩|⟨j,oj,cs,h1,h2,h3,h4,h5,h6,h7⟩|⟨j,h1,h2,h3⟩
   ·rw [Nat.zero_add] at h1
    rw [h2] at h;cases h
    rw [hι3n i hlt h1,hF3n i hlt h1]
    have ho:=hr.objs.obj i O[i] (List.getElem?_eq_getElem hlt)
    have key:=hnotin i hlt h1
    unfold ObjAt at ho ⊢
    cases hs':ι i with
    |none=>rw [hs'] at ho;exact ho
    |some p=>
     obtain ⟨b,kk⟩:=p
     rw [hs'] at ho
     obtain ⟨cur',t',fz',f2,q1,q2,q3,q4,q5,q6,q7⟩:=ho
     exact ⟨cur',t',fz',f2,q1,by rw [key b (by rw [q1];simp)];exact q2,q3,q4,q5,q6,q7.mono hlat fun b' hb'=>key b' (by rw [q1];simp [hb'])⟩
   ·rw [Nat.zero_add] at h1
    rw [h6] at h;cases h
    have e:ι i=ι' j:=by rw [hι' j h2,hιM j i (hfind i j h1).2]
    rw [hι3t i j hlt h1 h2,hF3t i j hlt h1 h2,e]
    exact hobj j oj cs _ h3 h7
   ·rw [Nat.zero_add] at h1
    rw [h3] at h;cases h
    rw [hι3d i j hlt h1 h2,hF3d i j hlt h1 h2]
    exact ⟨rfl,rfl⟩
  ·have hil:i<O3.length:=(List.getElem?_eq_some_iff.1 h).1
   rw [hO3ge i (by omega)] at h
   have hq:k+(i-O.length)<OO.length:=by omega
   obtain ⟨cs,h1,h2⟩:=hB3 (k+(i-O.length)) _ (by omega) (List.getElem?_eq_getElem hq)
   rw [show k+(i-O.length)-k=i-O.length by omega] at h1
   rw [h1] at h;cases h
   rw [hι3g i (by omega),hF3g i (by omega)]
   exact hobj _ _ cs _ (List.getElem?_eq_getElem hq) h2
 ·rcases hpl i h with ⟨q,h1,h2,_⟩|⟨h1,_,h2⟩|h2
  ·rw [h2];exact hO'.nodup q h1
  ·rw [h2];exact hr.objs.nodup i h1
  ·rw [h2];exact List.nodup_nil
 ·have hcross:∀i q,i<O.length→findN hs i 0=none→q<OO.length→∀b∈F i,b ∉ F' q:=fun i q hi hn hq b hb hb'=>by
   rcases (hsrc q hq b hb').1 with ⟨id,hid,hlt,hbf⟩|h
   ·have hne:i≠id:=by rintro rfl;exact findN_none hn hid
    exact hr.objs.apart i id hi hlt hne b hb hbf
   ·have:=(hr.foot i hi b hb).2.2;omega
  rcases hpl i hi with ⟨q1,p1,p2,p3⟩|⟨p1,p2,p3⟩|p3<;>rcases hpl j hj with ⟨q2,r1,r2,r3⟩|⟨r1,r2,r3⟩|r3
  ·rw [p2] at hb;rw [r2]
   refine hO'.apart q1 q2 p1 r1 (fun e=>?_) b hb
   subst e
   rcases p3 with ⟨a1,a2⟩|⟨a1,a2⟩<;>rcases r3 with ⟨b1,b2⟩|⟨b1,b2⟩
   ·rw [a2] at b2;cases b2;exact hij rfl
   ·omega
   ·omega
   ·omega
  ·rw [p2] at hb;rw [r3];intro hb';exact hcross j q1 r1 r2 p1 b hb' hb
  ·rw [r3];simp
  ·rw [p3] at hb;rw [r2];exact hcross i q2 p1 p2 r1 b hb
  ·rw [p3] at hb;rw [r3];exact hr.objs.apart i j p1 r1 hij b hb
  ·rw [r3];simp
  ·rw [p3] at hb;simp at hb
  ·rw [p3] at hb;simp at hb
  ·rw [p3] at hb;simp at hb
 ·rcases hpl i h with ⟨q,h1,h2,_⟩|⟨h1,_,h2⟩|h2
  ·rw [h2] at hb;exact hnoS q h1 b hb
  ·rw [h2] at hb
   obtain ⟨q1,q2,q3⟩:=hr.foot i h1 b hb
   refine ⟨q1,?_,by have:=hk.size;omega⟩
   rintro (h'|⟨_,h'⟩)
   ·exact q2 h'
   ·omega
  ·rw [h2] at hb;simp at hb
 ·rintro b (h'|⟨_,h'⟩)
  ·exact hr.base.2 b h'
  ·exact .inr (by have:=hr.keeps.size;omega)
 ·rintro b (h'|⟨h',_⟩)
  ·have:=hr.stable b h';have:=hk.size;omega
  ·exact hS3 b h'
 ·refine ⟨hk.os.trans hr.keeps.os,hk.tape.trans hr.keeps.tape,hk.output.trans hr.keeps.output,by have:=hr.keeps.size;have:=hk.size;omega,fun b hb hM0=>?_⟩
  rw [hold b (by have:=hr.keeps.size;omega) fun id hid hbf=>?_]
  ·exact hr.keeps.block b hb hM0
  ·obtain ⟨j,hj,e⟩:=hmem id hid
   rcases (hr.foot id (hidl j id e) b hbf).1 with h|h
   ·exact hM0 h
   ·omega
 ·have hm:m≤O.length:=hr.mle
  have hlt:i<O.length:=by omega
  have e:ι3 i=ι i:=by
   cases hfd:findN hs i 0 with
   |none=>exact hι3n i hlt hfd
   |some j=>
    by_cases hj:j<k
    ·exact hι3t i j hlt hfd hj
    ·have:=hmk j i (by omega) (hfind i j hfd).2;omega
  rw [e];exact hr.spots i h
 ·have hm:m≤O.length:=hr.mle
  show m≤O3.length
  omega
 ·exact hback hre hv
theorem WpA.unW {c:Code} {σ:St} (h:WpA P n m G c σ fun e s=>∃s2,Weak m s s2∧Q e s2):WpA P n m G c σ Q:=fun a w hr=>wp_mono (h a w hr) fun e a' w' ⟨s,⟨s2,hw,hq⟩,hR⟩=>⟨s2,hq,hw _ _ _ _ hR⟩
theorem FnH.of_bodyW (hP:TabOk P tab) {f:FuncId} {fn:Func} {c:Code} {args:List AV} {M OO:List AObj} {r:AV} {k m:Nat} (hf:P.funcs[f]?=some fn) (hnt:fn.ntmps=k) (hb:fn.body=some c) (hnm:(fn.name== "runtime.NumGoroutine")=false)
 (hal:args.length≤k) (hml:m≤M.length) (hmo:m≤OO.length) (h:∀G,WpA P k m G c ⟨enumT 0 args,M⟩ fun e s=>∃s2,Weak m s s2∧FinH tab fn.results OO r e s2):FnH P f args m M OO r:=
 FnH.of_body hP hf hnt hb hnm hal hml hmo fun G=>(h G).unW
def FnAt (G:Ctx) (g:FuncId) (cs:List AV) (fv:Value):Prop:=(∀ b,G.S0 b→b<G.w0.heap.size∧¬G.M0 b)∧∃u0 u1:Value,fv=.func (.func g) #[] #[u0,u1]∧LRel G.S0 G.w0 G.ι0 [] [.iptr cs 0] [u0] []∧
 ∀(S:Nat→Prop) (w:World) (ι:Nat→Spot) (O:List AObj) (ob:AObj),O[0]?=some ob→ι 0=G.ι0 0→LRel S w ι O [.ptr 0 0 0] [u1] []
theorem FnAt.rel {g:FuncId} {cs:List AV} {fv:Value} (h:FnAt G g cs fv) {S:Nat→Prop} {w:World} {ι:Nat→Spot} {F:Nat→List Nat} {a:Act} {ob:AObj} (hr:RelAt n m G S ι F ⟨T,O⟩ a w) (hm:0<m) (ho:O[0]?=some ob):∃us:List Value,fv=.func (.func g) #[] us.toArray∧LRel S w ι O [.iptr cs 0,.ptr 0 0 0] us []:=by
 obtain ⟨hs,u0,u1,rfl,h0,h1⟩:=h
 refine ⟨[u0,u1],rfl,?_⟩
 have a0:LRel S w ι O [.iptr cs 0] [u0] []:=(h0.mono (Later.none [] (fun b hb=>hr.base.1 b hb) (fun b hb=>hr.keeps.block b (hs b hb).1 (hs b hb).2)) (by simp)).lift
 have a1:=h1 S w ι O ob ho (hr.spots 0 hm)
 simpa using a0.append a1
theorem FnH.of_bodyF (hP:TabOk P tab) {f:FuncId} {fn:Func} {c:Code} {ys cs:List AV} {g:FuncId} {mb:AObj} {M OO:List AObj} {r:AV} {k m:Nat} (hf:P.funcs[f]?=some fn) (hnt:fn.ntmps=k) (hb:fn.body=some c) (hnm:(fn.name== "runtime.NumGoroutine")=false)
 (hal:ys.length+1≤k) (hml:m≤(mb::M).length) (hmo:m≤OO.length) (he:mb.ep=0) (h:∀G fv,FnAt G g cs fv→WpA P k m G c ⟨enumT 0 (ys++[.sc fv]),mb::M⟩ fun e s=>∃s2,Weak m s s2∧FinH tab fn.results OO r e s2):FnH P f (ys++[.fn g [.iptr cs 0,.ptr 0 0 0]]) m (mb::M) OO r:=by
 refine ⟨⟨fn,hf,by rw [hb];rfl,hnm⟩,hml,hmo,fun w S ι F vs hS hO hF hl=>?_⟩
 obtain ⟨vs1,vs2,rfl,hl1,hl2⟩:∃vs1 vs2,vs=vs1++vs2∧LRel S w ι (mb::M) ys vs1 []∧LRel S w ι (mb::M) [.fn g [.iptr cs 0,.ptr 0 0 0]] vs2 []:=by
  clear h hal hF
  induction ys generalizing vs with
  |nil=>exact ⟨[],vs,rfl,.nil,hl⟩
  |cons A ys ih=>
   obtain ⟨v,vs',f1,f2,rfl,hv,hr,hf⟩:=LRel.uncons (cs:=ys++[.fn g [.iptr cs 0,.ptr 0 0 0]]) hl
   obtain ⟨rfl,rfl⟩:f1=[]∧f2=[]:=by simpa using hf
   obtain ⟨x,y,rfl,hx,hy⟩:=ih vs' hr
   exact ⟨v::x,y,rfl,by simpa using LRel.cons hv hx,hy⟩
 obtain ⟨us,rfl,hu⟩:∃us:List Value,vs2=[.func (.func g) #[] us.toArray]∧LRel S w ι (mb::M) [.iptr cs 0,.ptr 0 0 0] us []:=by
  cases hl2 with|fn p q=>cases q;exact ⟨_,rfl,p⟩
 obtain ⟨u0,us',f1,f2,rfl,hu0,hr0,hf0⟩:=LRel.uncons (cs:=[.ptr 0 0 0]) hu
 obtain ⟨rfl,rfl⟩:f1=[]∧f2=[]:=by simpa using hf0
 obtain ⟨u1,us'',f1,f2,rfl,hu1,hr1,hf1⟩:=LRel.uncons (cs:=[]) hr0
 obtain ⟨rfl,rfl⟩:f1=[]∧f2=[]:=by simpa using hf1
 cases hr1
 have hfa:FnAt ⟨w,S,fun b=>∃i,i<(mb::M).length∧b∈F i,ι⟩ g cs (.func (.func g) #[] [u0,u1].toArray):=by
  refine ⟨fun b hb=>⟨hS b hb,fun ⟨i,hi,hbf⟩=>(hF i hi b hbf).1 hb⟩,u0,u1,rfl,simple_allI hu0 rfl,fun S2 w2 ι2 O2 ob2 ho hι=>?_⟩
  cases hu1 with
  |ptr q1 q2 q3 r=>cases r;cases q1;exact .ptr ho (Nat.zero_le _) (fun _=>by rw [hι];exact q3 he.symm) .nil
 have hl':LRel S w ι (mb::M) (ys++[.sc (.func (.func g) #[] [u0,u1].toArray)]) (vs1++[.func (.func g) #[] [u0,u1].toArray]) []:=by simpa using hl1.append (.sc .nil)
 have hvl:(vs1++[Value.func (.func g) #[] [u0,u1].toArray]).length=(ys++[AV.sc (.func (.func g) #[] [u0,u1].toArray)]).length:=hl'.len.symm
 refine calls_of_wp hf hb ?_
 have hrel:Rel k m ⟨w,S,fun b=>∃i,i<(mb::M).length∧b∈F i,ι⟩ ⟨enumT 0 (ys++[.sc (.func (.func g) #[] [u0,u1].toArray)]),mb::M⟩ {tmps:=(vs1++[Value.func (.func g) #[] [u0,u1].toArray]).toArray++Array.replicate (fn.ntmps-(vs1++[Value.func (.func g) #[] [u0,u1].toArray]).toArray.size) undef,defers:=[]} w:=by
  generalize vs1++[Value.func (.func g) #[] [u0,u1].toArray]=vs at*
  have hal':(ys++[AV.sc (.func (.func g) #[] [u0,u1].toArray)]).length≤k:=by simpa using hal
  generalize ys++[AV.sc (.func (.func g) #[] [u0,u1].toArray)]=args at*
  refine ⟨S,ι,F,rfl,?_,fun t=>?_,hO,fun id hid b hb=>⟨.inl ⟨id,hid,hb⟩,hF id hid b hb⟩,⟨fun _ h=>h,fun _ h=>.inl h⟩,hS,Keeps.refl _ _,fun _ _=>rfl,by show m≤(mb::M).length;omega⟩
  ·simp [hnt];omega
  ·show VRel S w ι (mb::M) (look (enumT 0 args) t) _ []
   rw [look_enumT]
   simp only [Nat.zero_le,if_true,Nat.sub_zero]
   by_cases ht:t<args.length
   ·obtain ⟨x,g,hx,hV,hg⟩:=hl'.get (List.getElem?_eq_getElem ht)
    have hg0:g=[]:=List.eq_nil_iff_forall_not_mem.2 fun b hb=>by simpa using hg b hb
    subst hg0
    have e1:args.getD t .any=args[t]:=by simp [ht]
    have e2:(vs.toArray++Array.replicate (fn.ntmps-vs.toArray.size) undef).getD t undef=x:=by
     have:t<vs.length:=by omega
     rw [List.getElem?_eq_getElem this] at hx
     simp only [Option.some.injEq] at hx
     simp [Array.getD_eq_getD_getElem?,Array.getElem?_append,this,hx]
    rw [e1,e2];exact hV
   ·have e1:args.getD t .any=.any:=by simp [List.getElem?_eq_none (Nat.le_of_not_lt ht)]
    rw [e1];exact .any .nil
 refine wp_mono ((h _ _ hfa).unW _ _ hrel) fun e a' w' ⟨σ',hq,hr'⟩=>?_
 have hdef:a'.defers=[]:=by obtain ⟨_,_,_,h⟩:=hr';exact h.defers
 cases e with
 |normal=>
  obtain ⟨v,hv,S',ι',F',q1,q2,q3,q4,q5⟩:=ResH.out hP rfl hq hr'
  exact ⟨hdef,v,hv,v,S',ι',F',rfl,q1,q2,q3,q4,q5⟩
 |ret=>
  obtain ⟨v,hv,S',ι',F',q1,q2,q3,q4,q5⟩:=ResH.out hP rfl hq hr'
  exact ⟨hdef,v,hv,v,S',ι',F',rfl,q1,q2,q3,q4,q5⟩
 |_=>exact hq.elim
theorem WpL.callHX {f:FuncId} {xs:List Operand} {ats:Array TypeId} {As:List AV} {M OO A B O2:List AObj} {r r':AV} {hs:List Nat} {k base d:Nat} (hc:FnH P f As k M OO r) (hh:HandX O hs (xs.map (av T)) As) (hM:HandH O hs hs M) (hnd:nodupB hs=true) (hmk:∀(j id:Nat),k≤j→hs[j]?=some id→m≤id)
 (hb:nid O 0=some base) (hA:AftO O hs k base OO 0 O A) (hB:AftN O hs k base (OO.drop k) B) (hre:Back O hs k base [r] [r']) (hO2:catF A B=some O2) (hn:d<n) (h:WpL P n m G false ops l ⟨(d,r')::T,O2⟩ Q):
 WpL P n m G false ops ({dst:=some d,op:=.call {callee:=.value (.func f),args:=xs.toArray,argTypes:=ats},type:=tt,pos:=pos,after:=after,guard:=none}::l) ⟨T,O⟩ Q:=
 WpL.op rfl (fun a w hr=>by
  have:=catF_eq hO2;subst this
  have e2:base=O.length:=by rw [nid_len,Nat.zero_add] at hb;exact (Option.some.inj hb).symm
  subst e2
  obtain ⟨S,ι,F,hr⟩:=hr
  have hcl:=callH_relS hc hh hM (nodupB_spec hnd) hmk hA hB hre hr (hr.evals xs)
  obtain ⟨⟨fn,hf,hbd,hnm⟩,_⟩:=hc
  have hex:(execOp a.eval {dst:=some d,op:=.call {callee:=.value (.func f),args:=xs.toArray,argTypes:=ats},type:=tt,pos:=pos,after:=after,guard:=none}).run P w=.ok (.enter f (xs.map a.eval).toArray) w:=by
   simp only [execOp,resolve,Act.eval,Deferred.ofValue,invoke,callFunc,Sem.run_bind,Sem.run_pure,Result.andThen_ok,program,Sem.run,hf,hnm,hbd,Bool.false_eq_true,if_false]
   simp
  unfold Oper.wp
  rw [hex]
  refine hcl.mono fun e w' ⟨v,he,S,ι,F,hr',hv⟩=>?_
  subst he
  exact ⟨S,ι,F,hr'.put hn hv⟩) h
theorem WpL.callHP {f:FuncId} {x:Operand} {fv:Value} {cs:List AV} {xs:List Operand} {ats:Array TypeId} {As Vs:List AV} {M OO A B O2:List AObj} {r r':AV} {hs:List Nat} {k base d:Nat} {ob:AObj} (hp:FnAt G f cs fv) (hx:av T x=.sc fv) (hm0:0<m) (ho0:O[0]?=some ob) (hc:FnH P f As k M OO r) (hcat:catF (xs.map (av T)) [.iptr cs 0,.ptr 0 0 0]=some Vs) (hh:HandX O hs Vs As) (hM:HandH O hs hs M) (hnd:nodupB hs=true) (hmk:∀(j id:Nat),k≤j→hs[j]?=some id→m≤id)
 (hb:nid O 0=some base) (hA:AftO O hs k base OO 0 O A) (hB:AftN O hs k base (OO.drop k) B) (hre:Back O hs k base [r] [r']) (hO2:catF A B=some O2) (hn:d<n) (h:WpL P n m G false ops l ⟨(d,r')::T,O2⟩ Q):
 WpL P n m G false ops ({dst:=some d,op:=.call {callee:=.value x,args:=xs.toArray,argTypes:=ats},type:=tt,pos:=pos,after:=after,guard:=none}::l) ⟨T,O⟩ Q:=
 WpL.op rfl (fun a w hr=>by
  have:=catF_eq hO2;subst this
  have:=catF_eq hcat;subst this
  have e2:base=O.length:=by rw [nid_len,Nat.zero_add] at hb;exact (Option.some.inj hb).symm
  subst e2
  obtain ⟨S,ι,F,hr⟩:=hr
  have hv:=hr.eval x
  rw [show av (St.mk T O).T x=_ from hx] at hv
  have hxe:a.eval x=fv:=by
   generalize a.eval x=y at hv
   cases hv with|sc q=>rfl
  obtain ⟨us,hfe,hu⟩:=hp.rel hr hm0 ho0
  have hcl:=callH_relS (vals:=xs.map a.eval++us) hc hh hM (nodupB_spec hnd) hmk hA hB hre hr (by simpa using (hr.evals xs).append hu)
  obtain ⟨⟨fn,hf,hbd,hnm⟩,_⟩:=hc
  have hxe':Act.eval a x=.func (.func f) #[] us.toArray:=by rw [←hfe];exact hxe
  have hex:(execOp a.eval {dst:=some d,op:=.call {callee:=.value x,args:=xs.toArray,argTypes:=ats},type:=tt,pos:=pos,after:=after,guard:=none}).run P w=.ok (.enter f (xs.map a.eval++us).toArray) w:=by
   simp only [execOp,resolve,hxe',Deferred.ofValue,invoke,callFunc,Sem.run_bind,Sem.run_pure,Result.andThen_ok,program,Sem.run,hf,hnm,hbd,Bool.false_eq_true,if_false]
   simp
  unfold Oper.wp
  rw [hex]
  refine hcl.mono fun e w' ⟨v,he,S,ι,F,hr',hv⟩=>?_
  subst he
  exact ⟨S,ι,F,hr'.put hn hv⟩) h
end
end Go.Abs


namespace Go.Proofs.YtainhhfnnclfiaaGreat
open Go Go.Abs
attribute [local irreducible] WpA WpL Rnd Blk Abs.Seq Abs.Fin Abs.FinG FnC FnG Only
abbrev VrO (n:Nat):AObj:=⟨[.own 1 0 0 n],0,0,none⟩
abbrev CpL (q:Int) (b d:Bool) (L ms:List Int) (es:List Bool):List AV:=[I q,B b,B d,IL L,IL ms,BL es]
theorem best1 (q:Int) (b d:Bool) (L ms:List Int) (es:List Bool) (o:List Int) (c:Int) (bk tp lf:List Int) (co:Int) (hT hE:Bool) (n:Int) (hl:L.length≤1099511627776∧o.length≤1048576∧bk.length≤1024∧tp.length≤1024∧lf.length≤1024):
 FnH Tryz.prog 121 [I c,IL bk,NbA tp lf co hT hE,I n,.iptr (CpL q b d L ms es) 0,.ptr 0 0 0] 1 [VrO o.length,XI o] [VrO (o.length+1),XI (o++[bestM bk tp lf co hT hE n L])] (I (bestM bk tp lf co hT hE n L)):=by
 refine FnH.of_bodyW tabOk Tryz.func121 Tryz.ntmps121 rfl (by decide +kernel) (by simp) (by simp) (by simp) fun G=>?_
 refine go (r:=?_);and_intros<;>intros<;>try exact True.intro
 all_goals first|contradiction|omega|skip
 refine ⟨⟨[(10,I (bestM bk tp lf co hT hE n L))],[VrO (o.length+1),XI (o++[bestM bk tp lf co hT hE n L])]⟩,Weak.mk (.cons (.keep rfl rfl .nil) .nil) (.cons (.own rfl rfl rfl rfl rfl rfl .nil) (.inr rfl) (.cons (Re.same rfl (still_ints _)) (.inr rfl) .nil)) (Nat.le_of_ble_eq_true rfl),FinH.ret (ResH.one (ResV.tmp rfl))⟩
def chB (L:List Int):Chs:=fun _ k t l co a b n=>bestM k t l co a b n L
def msO (M:List Mbk):List Int:=M.flatMap fun m=>m.2.map (·.1)
theorem msO_nil:msO []=[]:=rfl
theorem msO_snoc (M:List Mbk) (e:Bool) (bs:List Blok):msO (M++[(e,bs)])=msO M++bs.map (·.1):=by simp [msO]
theorem encM_ms (a:EncA) (E:Nat→Bool) (P:List Int):∀k,(msO (encM a E P k).1).length=(encM a E P k).2.2
 |0=>rfl
 |k+1=>by rw [encM];simp only [msO_snoc,List.length_append,List.length_map,encB_len,encM_ms a E P k]
theorem hmk9:∀(j id:Nat),1≤j→[0,1][j]?=some id→1≤id:=fun j id hj hid=>by
 match j,hj,hid with
 |1,_,h=>simp at h;omega
 |j+2,_,h=>simp at h
section
attribute [-instance] Clone_c FrameNew_c placesOf_c BlockAt_c NbAt_c Pred_c Residual_c LevelsFor_c PutRef_c
attribute [local irreducible] encB encM putL endL blkL topL lefL corL predS resS levL bestM msO
theorem encode_h (w h q:Int) (b d:Bool) (L ms F:List Int) (es:List Bool) (hF:FrameOk w h F) (ho:OptOk q L) (hl:ms.length≤1099511627776∧es.length≤1099511627776):
 FnH Tryz.prog 68 ([FrA w h F,OpA q b d L ms es]++[.fn 121 [.iptr (CpL q b d L ms es) 0,.ptr 0 0 0]]) 1 [VrO 0,XI []]
  [VrO (msO (encM ⟨w,h,q,b,L,F,chB L⟩ (eiF es) (zerP w h) (cntM w h).toNat).1).length,XI (msO (encM ⟨w,h,q,b,L,F,chB L⟩ (eiF es) (zerP w h) (cntM w h).toNat).1),⟨[.any,.any,.any],0,0,none⟩,⟨[.any,.any,.any,.any,.any,.any],0,0,none⟩,⟨[.any,.any,.any,.any,.any,.any,.any],0,0,none⟩,⟨[.any,.any,.any],0,0,none⟩]
  (.tup [.agg [.any,.any,.any,.any,.any,.any,.any],.agg [.any,.any,.any]]):=by
 refine FnH.of_bodyF tabOk Tryz.func68 Tryz.ntmps68 rfl (by decide +kernel) (by simp) (by simp) (by simp) rfl fun G fv hp=>?_
 have hsd:=hF.1
 have hcm:=cntM_bd hsd
 have hL6:L.length=6:=ho.2.2.1
 have hz:(zerP w h).length≤1024:=by
  unfold zerP
  rw [List.length_replicate]
  have h2:w*h≤32*32:=Int.mul_le_mul hsd.2.1 hsd.2.2.2.1 (by have:=hsd.2.2.1;omega) (by omega)
  omega
 refine goR (r:=?_);and_intros<;>intros<;>try exact True.intro
 all_goals first|contradiction|omega|skip
 try dsimp only [List.append,List.cons_append,List.nil_append]
 apply WpA.regionGB 17 mixed (by decide +kernel)
 ·exact rfl
 ·apply HeadG.preF 4 rfl rfl rfl
  ·exact rfl
  ·exact in0
  ·exact rfl
  apply HeadG.preF 4 rfl rfl rfl
  ·exact rfl
  ·exact in0
  ·exact rfl
  apply HeadG.preF 4 rfl rfl rfl
  ·exact rfl
  ·exact in0
  ·exact rfl
  apply HeadG.preF 4 rfl rfl rfl
  ·exact rfl
  ·exact in0
  ·exact rfl
  apply HeadG.preF 4 rfl rfl rfl
  ·exact rfl
  ·exact in0
  ·exact rfl
  apply HeadG.preF 4 rfl rfl rfl
  ·exact rfl
  ·exact in0
  ·exact rfl
  apply HeadG.preF 4 rfl rfl rfl
  ·exact rfl
  ·exact in0
  ·exact rfl
  apply HeadG.preF 4 rfl rfl rfl
  ·exact rfl
  ·exact in0
  ·exact rfl
  apply HeadG.preF 4 rfl rfl rfl
  ·exact rfl
  ·exact in0
  ·exact rfl
  apply HeadG.preF 4 rfl rfl rfl
  ·exact rfl
  ·exact in0
  ·exact rfl
  apply HeadG.preF 4 rfl rfl rfl
  ·exact rfl
  ·exact in0
  ·exact rfl
  apply HeadG.preF 4 rfl rfl rfl
  ·exact rfl
  ·exact in0
  ·exact rfl
  apply HeadG.precF 0 rfl rfl
  ·exact rfl
  ·intro Tv Ov
   refine K.call ?_
   apply WpL.callI (Clone_c.ok L (by omega))
   ·exact snapA
   ·exact locA
   ·exact outA
   ·exact FrzR.one (.own rfl rfl rfl (by simp) rfl (Snap.same rfl (still_ints _) (nofre_ints _)) .nil)
   ·decide
   ·exact WpL.nil (Only.mk rfl)
  ·exact rfl
  apply HeadG.preF 0 rfl rfl rfl
  ·exact rfl
  ·exact in0
  ·exact rfl
  apply HeadG.preF 0 rfl rfl rfl
  ·exact rfl
  ·exact in0
  ·exact rfl
  apply HeadG.stepF rfl rfl
  ·exact rfl
  ·exact in1
  ·exact rfl
  apply HeadG.stepNF rfl
  ·exact rfl
  ·exact in1
  ·exact rfl
  exact Abs.HeadG.nil
 ·exact trueA
 ·exact trueA
 ·exact trueA
 ·exact demA
 ·exact rfl
 ·exact rfl
 refine goR (r:=?_);and_intros<;>intros<;>try exact True.intro
 all_goals first|contradiction|omega|skip
 refine K.call ?_
 apply WpL.callI (FrameNew_c.ok w h hsd)
 ·exact snapA
 ·exact locA
 ·exact outA
 ·exact frzA
 ·decide
 refine goR (r:=?_);and_intros<;>intros<;>try exact True.intro
 all_goals first|contradiction|omega|skip
 have hzl:(w*h).toNat=(zerP w h).length:=by simp [zerP]
 rw [show (List.replicate (w*h).toNat (0:Int))=zerP w h from rfl,hzl]
 have hP0:=zer_ok hsd
 generalize zerP w h=P0 at*
 have hmk:=fun k=>encM_ok (a:=⟨w,h,q,b,L,F,chB L⟩) (E:=eiF es) hP0 k
 have hml:=encM_len ⟨w,h,q,b,L,F,chB L⟩ (eiF es) P0
 have hmp:=encM_plen ⟨w,h,q,b,L,F,chB L⟩ (eiF es) P0
 have hmc:=encM_cnt ⟨w,h,q,b,L,F,chB L⟩ (eiF es) P0
 have hms:=encM_snoc ⟨w,h,q,b,L,F,chB L⟩ (eiF es) P0
 have hmo:=encM_ms ⟨w,h,q,b,L,F,chB L⟩ (eiF es) P0
 have hm0:encM ⟨w,h,q,b,L,F,chB L⟩ (eiF es) P0 0=([],P0,0):=encM_zero ..
 refine WpA.loop (fun k:Nat=>⟨[(2,.sc fv),(3,.ptr 2 0 0),(4,.ptr 3 0 0),(6,.ptr 4 0 0),(7,.ptr 5 0 0),(8,.ptr 6 0 0),(9,.ptr 7 0 0),(10,I (encM ⟨w,h,q,b,L,F,chB L⟩ (eiF es) P0 k).2.2),(41,I (cntM w h)),(42,I k)],[VrO (msO (encM ⟨w,h,q,b,L,F,chB L⟩ (eiF es) P0 k).1).length,XI (msO (encM ⟨w,h,q,b,L,F,chB L⟩ (eiF es) P0 k).1),FrO w h F,OpO q b d L ms es,⟨[I 0,I 0,I 0,B false,B false,.nilS,.nilS],0,0,none⟩,⟨[I 0,I 0,.nilS],0,0,none⟩,⟨[I w,I h,I q,B b,B d,IL L,.own 8 0 0 k],0,0,none⟩,FrO w h (encM ⟨w,h,q,b,L,F,chB L⟩ (eiF es) P0 k).2.1,⟨rows mbG (encM ⟨w,h,q,b,L,F,chB L⟩ (eiF es) P0 k).1,0,2,some 82⟩]⟩) (fun k=>(k:Int)≤cntM w h) (fun k=>(cntM w h).toNat-k) 0 (by omega) ?_ (fun k hk=>?_)
 ·rw [hm0];dsimp only;rw [msO_nil];exact Weak.nil1f (by first|(show 0≤_;exact Nat.zero_le _)|(repeat' (first|exact RyT.nil|refine RyT.cons ?_ ?_|exact Ry.nil|refine Ry.keep rfl rfl ?_|refine Ry.own rfl rfl rfl rfl rfl (by first|rfl|omega|(simp;done)) ?_|refine Ry.ptr rfl rfl rfl rfl ?_|refine Ry.nilO rfl rfl rfl (by first|rfl|omega|(simp;done)) ?_|refine Ry.fn rfl ?_|refine Ry.agg ?_ ?_|exact RyO.last rfl|(refine RyO.cons ?_ (.inr rfl) ?_)|exact Ry.same rfl (still_ints _)|exact Ry.same rfl (still_rows (fun _=>rfl) _)))) (by first|(show 0≤_;exact Nat.zero_le _)|(repeat' (first|exact RyT.nil|refine RyT.cons ?_ ?_|exact Ry.nil|refine Ry.keep rfl rfl ?_|refine Ry.own rfl rfl rfl rfl rfl (by first|rfl|omega|(simp;done)) ?_|refine Ry.ptr rfl rfl rfl rfl ?_|refine Ry.nilO rfl rfl rfl (by first|rfl|omega|(simp;done)) ?_|refine Ry.fn rfl ?_|refine Ry.agg ?_ ?_|exact RyO.last rfl|(refine RyO.cons ?_ (.inr rfl) ?_)|exact Ry.same rfl (still_ints _)|exact Ry.same rfl (still_rows (fun _=>rfl) _)))) (Nat.le_of_ble_eq_true rfl)
 have hmk:=hmk k
 have hml:=hml k
 have hmp:=hmp k
 have hmc:=hmc k
 have hms:=hms k
 have hmo:=hmo k
 by_cases hlt:(k:Int)<cntM w h
 ·refine WpA.hide fun Q' hQ'=>?_
  have hm4:manyE (eiF es k)≤4:=by cases eiF es k<;>decide
  have hei:=fun hh=>eiF_1 (es:=es) hh k
  generalize he:eiF es k=e at*
  generalize encM ⟨w,h,q,b,L,F,chB L⟩ (eiF es) P0 k=X at*
  obtain ⟨M,P,c⟩:=X
  dsimp only at hmk hml hmp hmc hms hmo ⊢
  subst hml
  refine goR (r:=?_);and_intros<;>intros<;>try exact True.intro
  all_goals first|contradiction|omega|skip
  have hr1:=fun hh:0<es.length=>Int.emod_lt_of_pos (M.length:Int) (show (0:Int)<(es.length:Int) by omega)
  have hr0:=fun hh:0<es.length=>Int.emod_nonneg (M.length:Int) (show (es.length:Int)≠0 by omega)
  refine WpA.cut (σ1:=⟨[(2,.sc fv),(3,.ptr 2 0 0),(4,.ptr 3 0 0),(6,.ptr 4 0 0),(7,.ptr 5 0 0),(8,.ptr 6 0 0),(9,.ptr 7 0 0),(10,I c),(11,I M.length),(12,.ptr 9 0 0),(41,I (cntM w h)),(42,I M.length)],[VrO (msO M).length,XI (msO M),FrO w h F,OpO q b d L ms es,⟨[I 0,I 0,I 0,B false,B false,.nilS,.nilS],0,0,none⟩,⟨[I 0,I 0,.nilS],0,0,none⟩,⟨[I w,I h,I q,B b,B d,IL L,.own 8 0 0 M.length],0,0,none⟩,FrO w h P,⟨rows mbG M,0,2,some 82⟩,⟨[B e,.nilS],0,0,none⟩]⟩) ?_ ?_
  ·obtain ⟨g0,hg0⟩:∃g0,decide ((es.length:Int)>0)=g0:=⟨_,rfl⟩
   have hpos:g0=true→0<es.length:=fun hh=>by
    rw [hh] at hg0;have:=of_decide_eq_true hg0;omega
   have hev:g0=true→es.getD ((M.length:Int)%(es.length:Int)).toNat false=e:=fun hh=>by
    rw [hei (hpos hh)];congr 1
   have hef:g0=false→e=false:=fun hh=>by
    rw [←he];unfold eiF;rw [if_neg (fun h0=>by rw [hh] at hg0;have:=of_decide_eq_false hg0;omega)]
   have hr1:=fun hh=>hr1 (hpos hh)
   have hr0:=fun hh=>hr0 (hpos hh)
   clear hei he
   cases g0
   all_goals
    try (have hr1:=hr1 rfl)
    try (have hr0:=hr0 rfl)
    try (have hpos:=hpos rfl)
    try dsimp only [List.append,List.cons_append,List.nil_append]
    apply WpA.regionRF (O:=[VrO (msO M).length,XI (msO M),FrO w h F,OpO q b d L ms es,⟨[I 0,I 0,I 0,B false,B false,.nilS,.nilS],0,0,none⟩,⟨[I 0,I 0,.nilS],0,0,none⟩,⟨[I w,I h,I q,B b,B d,IL L,.own 8 0 0 M.length],0,0,none⟩,FrO w h P,⟨rows mbG M,0,2,some 82⟩]) (Or:=[]) (O1:=[VrO (msO M).length,XI (msO M),FrO w h F,OpO q b d L ms es,⟨[I 0,I 0,I 0,B false,B false,.nilS,.nilS],0,0,none⟩,⟨[I 0,I 0,.nilS],0,0,none⟩,⟨[I w,I h,I q,B b,B d,IL L,.own 8 0 0 M.length],0,0,none⟩,FrO w h P,⟨rows mbG M,0,2,some 82⟩,⟨[B e,.nilS],1,0,none⟩,deadO]) 18 1 [] [0] rfl mixed (by decide +kernel)
    ·exact rfl
    ·apply HeadR.consF .none rfl
     ·exact rfl
     ·exact rfl
     ·exact in1
     ·exact rfl
     ·exact rfl
     apply HeadR.consF .none rfl
     ·exact rfl
     ·exact rfl
     ·exact in1
     ·exact rfl
     ·exact rfl
     apply HeadR.consF .none rfl
     ·exact rfl
     ·exact rfl
     ·exact in1
     ·exact rfl
     ·exact rfl
     apply HeadR.consV .none rfl
     ·exact rfl
     ·exact rfl
     ·exact in1
     ·exact hg0
     ·exact rfl
     ·exact rfl
     apply HeadR.consF .none rfl
     ·exact rfl
     ·exact rfl
     ·exact in1
     ·exact rfl
     ·exact rfl
     apply HeadR.consF .none rfl
     ·exact rfl
     ·exact rfl
     ·(intro Tv Ov hc2 hp9 hd9 hk9;refine K.L ?_;refine K.gd ?_;first|(refine K.gT rfl (by decide) rfl ?_;exact in0)|(refine K.gF rfl (by decide) rfl ?_;exact WpL.nil (Only.mk rfl)))
     ·exact rfl
     ·exact rfl
     apply HeadR.consF .none rfl
     ·exact rfl
     ·exact rfl
     ·(intro Tv Ov hc2 hp9 hd9 hk9;refine K.L ?_;refine K.gd ?_;first|(refine K.gT rfl (by decide) rfl ?_;exact in0)|(refine K.gF rfl (by decide) rfl ?_;exact WpL.nil (Only.mk rfl)))
     ·exact rfl
     ·exact rfl
     apply HeadR.consF .none rfl
     ·exact rfl
     ·exact rfl
     ·(intro Tv Ov hc2 hp9 hd9 hk9;refine K.L ?_;refine K.gd ?_;first|(refine K.gT rfl (by decide) rfl ?_;exact in0)|(refine K.gF rfl (by decide) rfl ?_;exact WpL.nil (Only.mk rfl)))
     ·exact rfl
     ·exact rfl
     apply HeadR.consF .none rfl
     ·exact rfl
     ·exact rfl
     ·(intro Tv Ov hc2 hp9 hd9 hk9;refine K.L ?_;refine K.gd ?_;first|(refine K.gT rfl (by decide) rfl ?_;exact in0)|(refine K.gF rfl (by decide) rfl ?_;exact WpL.nil (Only.mk rfl)))
     ·exact rfl
     ·exact rfl
     apply HeadR.consF .none rfl
     ·exact rfl
     ·exact rfl
     ·(intro Tv Ov hc2 hp9 hd9 hk9;refine K.L ?_;refine K.gd ?_;first|(refine K.gT rfl (by decide) rfl ?_;exact in0)|(refine K.gF rfl (by decide) rfl ?_;exact WpL.nil (Only.mk rfl)))
     ·exact rfl
     ·exact rfl
     apply HeadR.consF .none rfl
     ·exact rfl
     ·exact rfl
     ·(intro Tv Ov hc2 hp9 hd9 hk9;refine K.L ?_;refine K.gd ?_;first|(refine K.gT rfl (by decide) rfl ?_;exact in0)|(refine K.gF rfl (by decide) rfl ?_;exact WpL.nil (Only.mk rfl)))
     ·exact rfl
     ·exact rfl
     apply HeadR.consF .none rfl
     ·exact rfl
     ·exact rfl
     ·(intro Tv Ov hc2 hp9 hd9 hk9;refine K.L ?_;refine K.gd ?_;first|(refine K.gT rfl (by decide) rfl ?_;exact in0)|(refine K.gF rfl (by decide) rfl ?_;exact WpL.nil (Only.mk rfl)))
     ·exact rfl
     ·exact rfl
     apply HeadR.consF .none rfl
     ·exact rfl
     ·exact rfl
     ·(intro Tv Ov hc2 hp9 hd9 hk9;refine K.L ?_;refine K.gd ?_;first|(refine K.gT rfl (by decide) rfl ?_;exact in0)|(refine K.gF rfl (by decide) rfl ?_;exact WpL.nil (Only.mk rfl)))
     ·exact rfl
     ·exact rfl
     apply HeadR.consF .none rfl
     ·exact rfl
     ·exact rfl
     ·(intro Tv Ov hc2 hp9 hd9 hk9;refine K.L ?_;refine K.gd ?_;first|(refine K.gT rfl (by decide) rfl ?_;exact in0)|(refine K.gF rfl (by decide) rfl ?_;exact WpL.nil (Only.mk rfl)))
     ·exact rfl
     ·exact rfl
     apply HeadR.consF (V:=B e) .none rfl
     ·exact rfl
     ·exact rfl
     ·first|(rw [←hev rfl];exact in1)|(rw [hef rfl];exact in1)
     ·exact rfl
     ·exact rfl
     apply HeadR.consF .none rfl
     ·exact rfl
     ·exact rfl
     ·exact in1
     ·exact rfl
     ·exact rfl
     apply HeadR.consF (V:=.ptr 9 1 0) (.put 0 ⟨[B false,.nilS],1,0,none⟩) rfl
     ·exact rfl
     ·exact rfl
     ·intro Tv Ov hc2 hp9 hd9 hk9
      refine WpL.allocStruct tabOk rfl (nid_len _ 0) (by decide) ?_
      apply WpL.putV (p:=0)
      ·exact .ptr (by first|rfl|exact Nat.zero_add _) .nil
      ·exact hp9 0 _ rfl
      ·exact Nat.le_of_ble_eq_true rfl
      ·exact rfl
      ·exact rfl
     ·exact rfl
     ·exact rfl
     apply HeadR.consN (.step 0 ⟨[B e,.nilS],1,0,none⟩) 1000
     ·exact rfl
     ·exact rfl
     ·intro Tv Ov hc2 hp9 hd9 hk9
      obtain ⟨R0,rfl⟩:=split1 (hp9 0 _ rfl)
      refine K.st ?_
      refine WpL.store tabOk rfl rfl rfl rfl rfl rfl rfl rfl (Nat.le_of_ble_eq_true rfl) ?_
      refine WpL.weak (Weak.any1 (d:=1000)) ?_
      exact WpL.nil (Only.mk rfl)
     ·exact rfl
     ·exact rfl
     exact HeadR.nil
    ·exact rfl
    ·exact rfl
    ·exact rfl
    ·exact rfl
    ·exact rfl
    ·exact rfl
    ·exact rfl
    refine WpL.nil ⟨rfl,Weak.mk ?_ ?_ (Nat.le_of_ble_eq_true rfl)⟩
    ·repeat (first
      |exact ReT.nil
      |refine ReT.cons (.keep rfl rfl .nil) ?_
      |refine ReT.cons (.fn rfl .nil) ?_
      |refine ReT.cons (.own rfl rfl rfl rfl rfl rfl .nil) ?_
      |refine ReT.cons (.ptr rfl rfl rfl rfl .nil) ?_
      |refine ReT.cons (.keep (congrArg (fun z=>AV.sc (Value.int .i64 z)) (by first|omega|(skip))) rfl .nil) ?_
      |refine ReT.cons (.keep (congrArg (fun z:List UInt8=>AV.sc (Value.string ⟨z.toArray⟩)) (by skip)) rfl .nil) ?_
      |refine ReT.cons (.own rfl rfl rfl rfl rfl (by first|omega|(simp;done)|(simp;omega)) .nil) ?_)
    ·repeat (first
      |exact ReO.nil
      |refine ReO.cons (Re.same rfl rfl) (.inr rfl) ?_
      |refine ReO.cons (Re.same rfl (still_ints _)) (.inr rfl) ?_
      |refine ReO.cons (Re.same rfl (still_rows (fun _=>rfl) _)) (.inr rfl) ?_
      |refine ReO.cons (.own rfl rfl rfl rfl rfl rfl .nil) (.inr rfl) ?_
      |refine ReO.cons (.keep rfl rfl (.keep rfl rfl (.keep rfl rfl (.keep rfl rfl (.keep rfl rfl (.keep rfl rfl (.own rfl rfl rfl rfl rfl rfl .nil))))))) (.inr rfl) ?_)
  clear hei hr0 hr1
  refine goR (r:=?_);and_intros<;>intros<;>try exact True.intro
  all_goals first|contradiction|omega|skip
  refine K.call ?_
  apply WpL.callI (placesOf_c.ok w h q b d L M.length e ⟨by omega,by omega,by omega⟩)
  ·exact snapA
  ·exact locA
  ·exact outA
  ·exact FrzR.one (.own rfl rfl rfl (by rw [rows_len (k:=3) (fun _=>rfl),plsL_len]) rfl (Snap.same rfl (still_rows (fun _=>rfl) _) (nofre_rows (fun _=>rfl) _)) .nil)
  ·decide
  refine goR (r:=?_);and_intros<;>intros<;>try exact True.intro
  all_goals first|contradiction|omega|skip
  have hbl:=encB_len ⟨w,h,q,b,L,F,chB L⟩ e M.length c P
  have hbp:=encB_plen ⟨w,h,q,b,L,F,chB L⟩ e M.length c P
  have hbs:=encB_snoc ⟨w,h,q,b,L,F,chB L⟩ e M.length c P
  have hb0:encB ⟨w,h,q,b,L,F,chB L⟩ e M.length c P 0=([],P):=encB_zero ..
  refine WpA.loop (fun i:Nat=>⟨[(2,.sc fv),(3,.ptr 2 0 0),(4,.ptr 3 0 0),(6,.ptr 4 0 0),(7,.ptr 5 0 0),(8,.ptr 6 0 0),(9,.ptr 7 0 0),(10,I ((c+i:Nat):Int)),(12,.ptr 9 0 0),(41,I (cntM w h)),(42,I M.length),(66,.imm 3 (manyE e) (rows plF (plsL w (sz8 e) M.length (manyE e)))),(67,I (manyE e)),(68,I i)],[VrO (msO M++(encB ⟨w,h,q,b,L,F,chB L⟩ e M.length c P i).1.map (·.1)).length,XI (msO M++(encB ⟨w,h,q,b,L,F,chB L⟩ e M.length c P i).1.map (·.1)),FrO w h F,OpO q b d L ms es,⟨[I 0,I 0,I 0,B false,B false,.nilS,.nilS],0,0,none⟩,⟨[I 0,I 0,.nilS],0,0,none⟩,⟨[I w,I h,I q,B b,B d,IL L,.own 8 0 0 M.length],0,0,none⟩,FrO w h (encB ⟨w,h,q,b,L,F,chB L⟩ e M.length c P i).2,⟨rows mbG M,0,2,some 82⟩,⟨[B e,.own 10 0 0 i],0,0,none⟩,⟨rows blkI (encB ⟨w,h,q,b,L,F,chB L⟩ e M.length c P i).1,0,2,some 84⟩]⟩) (fun i=>i≤manyE e) (fun i=>manyE e-i) 0 (Nat.zero_le _) ?_ (fun i hi=>?_)
  ·rw [hb0];dsimp only;rw [List.map_nil,List.append_nil];exact Weak.nil1f (by first|(show 0≤_;exact Nat.zero_le _)|(repeat' (first|exact RyT.nil|refine RyT.cons ?_ ?_|exact Ry.nil|refine Ry.keep rfl rfl ?_|refine Ry.own rfl rfl rfl rfl rfl (by first|rfl|omega|(simp;done)) ?_|refine Ry.ptr rfl rfl rfl rfl ?_|refine Ry.nilO rfl rfl rfl (by first|rfl|omega|(simp;done)) ?_|refine Ry.fn rfl ?_|refine Ry.agg ?_ ?_|exact RyO.last rfl|(refine RyO.cons ?_ (.inr rfl) ?_)|exact Ry.same rfl (still_ints _)|exact Ry.same rfl (still_rows (fun _=>rfl) _)))) (by first|(show 0≤_;exact Nat.zero_le _)|(repeat' (first|exact RyT.nil|refine RyT.cons ?_ ?_|exact Ry.nil|refine Ry.keep rfl rfl ?_|refine Ry.own rfl rfl rfl rfl rfl (by first|rfl|omega|(simp;done)) ?_|refine Ry.ptr rfl rfl rfl rfl ?_|refine Ry.nilO rfl rfl rfl (by first|rfl|omega|(simp;done)) ?_|refine Ry.fn rfl ?_|refine Ry.agg ?_ ?_|exact RyO.last rfl|(refine RyO.cons ?_ (.inr rfl) ?_)|exact Ry.same rfl (still_ints _)|exact Ry.same rfl (still_rows (fun _=>rfl) _)))) (Nat.le_of_ble_eq_true rfl)
  have hbl:=hbl i
  have hbp:=hbp i
  have hbs:=hbs i
  by_cases hlt2:i<manyE e
  ·have hpl:=plsL_len w (sz8 e) M.length (manyE e)
   have hpg:(plsL w (sz8 e) M.length (manyE e)).getD i default=plc1 w (sz8 e) M.length i:=by
    unfold plsL
    simp [hlt2]
   obtain ⟨x,y,hxy⟩:∃x y,plc1 w (sz8 e) M.length i=(x,y,sz8 e):=⟨_,_,rfl⟩
   rw [hxy] at hpg hbs
   simp only [chM,chV,nbP,chB] at hbs
   generalize encB ⟨w,h,q,b,L,F,chB L⟩ e M.length c P i=Y at*
   obtain ⟨bs,Pi⟩:=Y
   dsimp only at hbl hbp hbs ⊢
   subst hbl
   have hn8:sz8 e=4∨sz8 e=8:=by cases e<;>simp [sz8]
   generalize hsz:sz8 e=n at*
   have hkB:=BlockAt_c.ok w h F x y n (by have:=hF.2.1;omega)
   have hkN:Fn 136 [FrA w h Pi,I x,I y,I n] [XI (topL w h Pi x y n),XI (lefL w h Pi x y n)] (.agg [.own 0 0 0 (topL w h Pi x y n).length,.own 1 0 0 (lefL w h Pi x y n).length,I (corL w h Pi x y n),B (hasT w h Pi x y n),B (hasE w h Pi x y n)]):=NbAt_c.ok w h Pi x y n (by omega)
   have hkb:=blkL_le w h F x y n
   have hkn:=nb_le w h Pi x y n
   generalize blkL w h F x y n=bk at*
   generalize topL w h Pi x y n=tp at*
   generalize lefL w h Pi x y n=lf at*
   generalize corL w h Pi x y n=co at*
   generalize hasT w h Pi x y n=hT at*
   generalize hasE w h Pi x y n=hE at*
   have hos:msO M++(encB ⟨w,h,q,b,L,F,chB L⟩ e M.length c P (bs.length+1)).1.map (·.1)=(msO M++bs.map (·.1))++[bestM bk tp lf co hT hE n L]:=by rw [hbs];simp
   have hol:(msO M++bs.map (·.1)).length≤1048576:=by rw [List.length_append,List.length_map];omega
   generalize hoo:msO M++bs.map (·.1)=o at*
   have hgc:=best1 q b d L ms es o ((c+bs.length:Nat):Int) bk tp lf co hT hE n ⟨by omega,hol,by omega,by omega,by omega⟩
   generalize bestM bk tp lf co hT hE n L=md at*
   refine goR (r:=?_);and_intros<;>intros<;>try exact True.intro
   all_goals first|contradiction|omega|skip
   rw [hpg]
   dsimp only
   try dsimp only [List.append,List.cons_append,List.nil_append]
   apply WpA.regionGB 19 mixed (by decide +kernel)
   ·exact rfl
   ·apply HeadG.preF 12 rfl rfl rfl
    ·exact rfl
    ·exact in0
    ·exact rfl
    apply HeadG.preF 12 rfl rfl rfl
    ·exact rfl
    ·exact in0
    ·exact rfl
    apply HeadG.preF 12 rfl rfl rfl
    ·exact rfl
    ·exact in0
    ·exact rfl
    apply HeadG.preF 12 rfl rfl rfl
    ·exact rfl
    ·exact in0
    ·exact rfl
    apply HeadG.preF 12 rfl rfl rfl
    ·exact rfl
    ·exact in0
    ·exact rfl
    apply HeadG.preF 12 rfl rfl rfl
    ·exact rfl
    ·exact in0
    ·exact rfl
    apply HeadG.preF 12 rfl rfl rfl
    ·exact rfl
    ·exact in0
    ·exact rfl
    apply HeadG.precF 0 rfl rfl
    ·exact rfl
    ·intro Tv Ov
     refine K.call ?_
     apply WpL.callI (hkB)
     ·exact snapA
     ·exact locA
     ·exact outA
     ·exact frzA
     ·decide
     ·exact WpL.nil (Only.mk rfl)
    ·exact rfl
    apply HeadG.preF 12 rfl rfl rfl
    ·exact rfl
    ·exact in0
    ·exact rfl
    apply HeadG.preF 12 rfl rfl rfl
    ·exact rfl
    ·exact in0
    ·exact rfl
    apply HeadG.preF 12 rfl rfl rfl
    ·exact rfl
    ·exact in0
    ·exact rfl
    apply HeadG.preF 12 rfl rfl rfl
    ·exact rfl
    ·exact in0
    ·exact rfl
    apply HeadG.preF 12 rfl rfl rfl
    ·exact rfl
    ·exact in0
    ·exact rfl
    apply HeadG.preF 12 rfl rfl rfl
    ·exact rfl
    ·exact in0
    ·exact rfl
    apply HeadG.preF 12 rfl rfl rfl
    ·exact rfl
    ·exact in0
    ·exact rfl
    apply HeadG.precF 0 rfl rfl
    ·exact rfl
    ·intro Tv Ov
     refine K.call ?_
     apply WpL.callI (hkN)
     ·exact snapA
     ·exact locA
     ·exact outA
     ·exact frzA
     ·decide
     ·exact WpL.nil (Only.mk rfl)
    ·exact rfl
    apply HeadG.stepF rfl rfl
    ·exact rfl
    ·exact in1
    ·exact rfl
    apply HeadG.preF 12 rfl rfl rfl
    ·exact rfl
    ·exact in0
    ·exact rfl
    apply HeadG.stepNF rfl
    ·exact rfl
    ·exact in1
    ·exact rfl
    exact Abs.HeadG.nil
   ·exact trueA
   ·exact trueA
   ·exact trueA
   ·exact demA
   ·exact rfl
   ·exact rfl
   refine goR (r:=?_);and_intros<;>intros<;>try exact True.intro
   all_goals first|contradiction|omega|skip
   refine K.callT ?_
   refine WpL.callHP (hs:=[0,1]) (base:=13) hp rfl (by decide) rfl hgc rfl (Hand.x (.keep rfl rfl (.keep rfl rfl (.agg (.keep rfl rfl (.keep rfl rfl (.keep rfl rfl (.keep rfl rfl (.keep rfl rfl .nil))))) (.keep rfl rfl (.keep rfl rfl (.ptr (j:=0) rfl rfl rfl .nil))))))) (.hand rfl (.own (j:=1) rfl rfl rfl rfl .nil) rfl rfl rfl (.inl rfl) (.still rfl rfl (still_ints _) rfl rfl (.inr rfl) .nil)) rfl hmk9 rfl (.turn rfl (by decide) rfl rfl (.new (by decide) rfl .nil) (.dead rfl (by decide) (.keep rfl (.keep rfl (.keep rfl (.keep rfl (.keep rfl (.keep rfl (.keep rfl (.keep rfl (.keep rfl (.keep rfl (.keep rfl .nil))))))))))))) (.cons (Back.all rfl (still_ints _) (Loc.ints _)) .nil) (.loc rfl (Loc.sc .nil) .nil) rfl (by decide) ?_
   refine WpL.weak (σ':=⟨[(94,I md),(2,.sc fv),(3,.ptr 2 0 0),(4,.ptr 3 0 0),(6,.ptr 4 0 0),(7,.ptr 5 0 0),(8,.ptr 6 0 0),(9,.ptr 7 0 0),(10,I ((c+bs.length:Nat):Int)),(12,.ptr 9 0 0),(14,.ptr 11 0 0),(15,IL bk),(16,.ptr 12 0 0),(41,I (cntM w h)),(42,I M.length),(66,.imm 3 (manyE e) (rows plF (plsL w n M.length (manyE e)))),(67,I (manyE e)),(68,I bs.length)],[VrO (o.length+1),XI (o++[md]),FrO w h F,OpO q b d L ms es,⟨[I 0,I 0,I 0,B false,B false,.nilS,.nilS],0,0,none⟩,⟨[I 0,I 0,.nilS],0,0,none⟩,⟨[I w,I h,I q,B b,B d,IL L,.own 8 0 0 M.length],0,0,none⟩,FrO w h Pi,⟨rows mbG M,0,2,some 82⟩,⟨[B e,.own 10 0 0 bs.length],0,0,none⟩,⟨rows blkI bs,0,2,some 84⟩,⟨[I x,I y,I n],0,0,none⟩,⟨[IL tp,IL lf,I co,B hT,B hE],0,0,none⟩]⟩) (Weak.mv [0,13,2,3,4,5,6,7,8,9,10,11,12] rfl rfl rfl (by repeat (first|exact RvT.nil|refine RvT.cons (.keep rfl rfl .nil) ?_|refine RvT.cons (.ptr rfl rfl rfl rfl rfl .nil) ?_)) (by repeat (first|exact RvO.nil|refine RvO.cons rfl (Rv.same rfl rfl) (by first|exact .inl rfl|exact .inr rfl) ?_|refine RvO.cons rfl (Rv.same rfl (still_ints _)) (by first|exact .inl rfl|exact .inr rfl) ?_|refine RvO.cons rfl (Rv.same rfl (still_rows (fun _=>rfl) _)) (by first|exact .inl rfl|exact .inr rfl) ?_|refine RvO.cons rfl (.own rfl rfl rfl rfl rfl rfl (by first|rfl|omega) .nil) (by first|exact .inl rfl|exact .inr rfl) ?_|refine RvO.cons rfl (.keep rfl rfl (.own rfl rfl rfl rfl rfl rfl (by first|rfl|omega) .nil)) (by first|exact .inl rfl|exact .inr rfl) ?_|refine RvO.cons rfl (.keep rfl rfl (.keep rfl rfl (.own rfl rfl rfl rfl rfl rfl (by first|rfl|omega) .nil))) (by first|exact .inl rfl|exact .inr rfl) ?_|refine RvO.cons rfl (.keep rfl rfl (.keep rfl rfl (.keep rfl rfl (.keep rfl rfl (.keep rfl rfl (.keep rfl rfl (.own rfl rfl rfl rfl rfl rfl (by first|rfl|omega) .nil))))))) (by first|exact .inl rfl|exact .inr rfl) ?_|refine RvO.cons rfl (.keep rfl rfl (.keep rfl rfl (.keep rfl rfl (.keep rfl rfl (.keep rfl rfl (.own rfl rfl rfl rfl rfl rfl (by first|rfl|omega) (.own rfl rfl rfl rfl rfl rfl (by first|rfl|omega) .nil))))))) (by first|exact .inl rfl|exact .inr rfl) ?_))) ?_
   refine goR (r:=?_);and_intros<;>intros<;>try exact True.intro
   all_goals first|contradiction|omega|skip
   have hkP:=Pred_c.ok md tp lf co hT hE n ⟨by omega,by omega,by omega⟩
   have hpl:=predS_len md tp lf co hT hE n
   have hpl:(predS md tp lf co hT hE n).length≤64:=by
    rw [hpl];split
    ·rcases hn8 with rfl|rfl<;>decide
    ·decide
   generalize predS md tp lf co hT hE n=pr at*
   have hkR:=Residual_c.ok bk pr ⟨by omega,by omega⟩
   have hrl:(resS bk pr).length≤64:=by
    rw [resS_len];split<;>omega
   generalize resS bk pr=rs at*
   have hkL:=LevelsFor_c.ok q b d L ms es rs ⟨by omega,by omega⟩
   have hll:=levL_le b q L rs
   generalize levL b q L rs=lv at*
   have hkU:=PutRef_c.ok w h Pi w h q b d L x y md lv ⟨by omega,by omega⟩
   have hul:=putL_len w h Pi q b x y md lv
   generalize putL w h Pi q b x y md lv=Pu at*
   try dsimp only [List.append,List.cons_append,List.nil_append]
   apply WpA.regionGB 13 mixed (by decide +kernel)
   ·exact rfl
   ·apply HeadG.preF 13 rfl rfl rfl
    ·exact rfl
    ·exact in0
    ·exact rfl
    apply HeadG.preF 13 rfl rfl rfl
    ·exact rfl
    ·exact in0
    ·exact rfl
    apply HeadG.preF 13 rfl rfl rfl
    ·exact rfl
    ·exact in0
    ·exact rfl
    apply HeadG.preF 13 rfl rfl rfl
    ·exact rfl
    ·exact in0
    ·exact rfl
    apply HeadG.preF 13 rfl rfl rfl
    ·exact rfl
    ·exact in0
    ·exact rfl
    apply HeadG.preF 13 rfl rfl rfl
    ·exact rfl
    ·exact in0
    ·exact rfl
    apply HeadG.preF 13 rfl rfl rfl
    ·exact rfl
    ·exact in0
    ·exact rfl
    apply HeadG.precF 0 rfl rfl
    ·exact rfl
    ·intro Tv Ov
     refine K.call ?_
     apply WpL.callI (hkP)
     ·exact snapA
     ·exact locA
     ·exact outA
     ·exact frzA
     ·decide
     ·exact WpL.nil (Only.mk rfl)
    ·exact rfl
    apply HeadG.precF 0 rfl rfl
    ·exact rfl
    ·intro Tv Ov
     refine K.call ?_
     apply WpL.callI (hkR)
     ·exact snapA
     ·exact locA
     ·exact outA
     ·exact frzA
     ·decide
     ·exact WpL.nil (Only.mk rfl)
    ·exact rfl
    apply HeadG.precF 0 rfl rfl
    ·exact rfl
    ·intro Tv Ov
     refine K.call ?_
     apply WpL.callI (hkL)
     ·exact snapA
     ·exact locA
     ·exact outA
     ·exact frzA
     ·decide
     ·exact WpL.nil (Only.mk rfl)
    ·exact rfl
    apply HeadG.preF 13 rfl rfl rfl
    ·exact rfl
    ·exact in0
    ·exact rfl
    apply HeadG.stepF rfl rfl
    ·exact rfl
    ·exact in1
    ·exact rfl
    apply HeadG.stepNF rfl
    ·exact rfl
    ·exact in1
    ·exact rfl
    exact Abs.HeadG.nil
   ·exact trueA
   ·exact trueA
   ·exact trueA
   ·exact demA
   ·exact rfl
   ·exact rfl
   refine goR (r:=?_);and_intros<;>intros<;>try exact True.intro
   all_goals first|contradiction|omega|skip
   refine K.call ?_
   apply WpL.callI hkU
   ·exact snapA
   ·exact locA
   ·exact outA
   ·exact FrzR.tup (.agg (.keep rfl rfl (.keep rfl rfl (.own rfl rfl rfl (by show Pi.length*1=(List.map _ _).length;rw [Nat.mul_one,List.length_map];exact hul.symm) hul.symm (Snap.same rfl (still_ints _) (nofre_ints _)) .nil))) (.keep rfl rfl .nil))
   ·decide
   refine goR (r:=?_);and_intros<;>intros<;>try exact True.intro
   all_goals first|contradiction|omega|(rw [hos];simp;done)|(rw [hos];done)|exact hos.symm|(rw [hos];exact .own rfl rfl rfl rfl rfl (by simp) .nil)|(rw [hos];exact Re.same rfl (still_ints _))|(rw [hbs];exact .keep rfl rfl .nil)|(rw [hbs];refine Re.same ?_ (still_rows (fun _=>rfl) _);show rows blkI bs++_=rows blkI (bs++[(md,lv)]);rw [rows_append,rows_one];rfl)
  ·obtain rfl:i=manyE e:=by omega
   refine goR (r:=?_);and_intros<;>intros<;>try exact True.intro
   all_goals first|contradiction|omega|skip
   subst hQ'
   refine Rnd.go (M.length+1) (by omega) (by omega) ?_
   rw [hms]
   generalize encB ⟨w,h,q,b,L,F,chB L⟩ e M.length c P (manyE e)=Y at*
   obtain ⟨bs,Pi⟩:=Y
   dsimp only at hbl hbp ⊢
   refine Weak.trans (Weak.nest (id:=8) (j:=10) (off:=M.length*2+1) (ob:=⟨rows mbG M++[B e,.own 10 0 0 (manyE e)],1,2,some 82⟩) (oj:=⟨rows blkI bs,0,2,some 84⟩) rfl rfl rfl (Nat.le_of_ble_eq_true rfl) (mG_at M _ _) rfl (still_rows (fun _=>rfl) _) ?_) ?_
   ·show manyE e*2=(rows blkI bs).length
    rw [len_bI];omega
   ·rw [msO_snoc]
    refine Weak.mk ?_ ?_ (Nat.le_of_ble_eq_true rfl)
    ·repeat (first
      |exact ReT.nil
      |refine ReT.cons (.keep rfl rfl .nil) ?_
      |refine ReT.cons (.fn rfl .nil) ?_
      |refine ReT.cons (.own rfl rfl rfl rfl rfl rfl .nil) ?_
      |refine ReT.cons (.ptr rfl rfl rfl rfl .nil) ?_
      |refine ReT.cons (.keep (congrArg (fun z=>AV.sc (Value.int .i64 z)) (by first|omega|(skip))) rfl .nil) ?_
      |refine ReT.cons (.keep (congrArg (fun z:List UInt8=>AV.sc (Value.string ⟨z.toArray⟩)) (by skip)) rfl .nil) ?_
      |refine ReT.cons (.own rfl rfl rfl rfl rfl (by first|omega|(simp;done)|(simp;omega)) .nil) ?_)
    ·repeat (first
      |exact ReO.nil
      |refine ReO.cons (Re.same rfl rfl) (.inr rfl) ?_
      |refine ReO.cons (Re.same rfl (still_ints _)) (.inr rfl) ?_
      |refine ReO.cons (.own rfl rfl rfl rfl rfl rfl .nil) (.inr rfl) ?_
      |refine ReO.cons (Re.same (mG_set M e _ bs hbl) (still_rows (fun _=>rfl) _)) (.inr rfl) ?_
      |refine ReO.cons (.keep rfl rfl (.keep rfl rfl (.keep rfl rfl (.keep rfl rfl (.keep rfl rfl (.keep rfl rfl (.own rfl rfl rfl rfl rfl rfl .nil))))))) (.inr rfl) ?_)
 ·obtain ek:(cntM w h).toNat=k:=by omega
  rw [ek]
  have hmk:=(hmk).2.1
  generalize encM ⟨w,h,q,b,L,F,chB L⟩ (eiF es) P0 k=X at*
  obtain ⟨M,P,c⟩:=X
  dsimp only at hmk hml hmp hmc hmo ⊢
  subst hml
  have hkE:=ended_c w h w h q b d L P (by omega)
  generalize endL w h q d P=Pe at*
  refine goR (r:=?_);and_intros<;>intros<;>try exact True.intro
  all_goals first|contradiction|omega|skip
  try dsimp only [List.append,List.cons_append,List.nil_append]
  apply WpA.regionGB 7 mixed (by decide +kernel)
  ·exact rfl
  ·apply HeadG.hole6 rfl rfl rfl
   ·exact rfl
   ·exact in0
   ·exact rfl
   apply HeadG.hole6 rfl rfl rfl
   ·exact rfl
   ·exact in0
   ·exact rfl
   apply HeadG.hole6 rfl rfl rfl
   ·exact rfl
   ·exact in0
   ·exact rfl
   apply HeadG.hole7 rfl rfl rfl
   ·exact rfl
   ·exact in0
   ·exact rfl
   apply HeadG.precF 0 rfl rfl
   ·exact rfl
   ·intro Tv Ov
    refine K.call ?_
    apply WpL.callK (hkE)
    ·exact .agg (.keep rfl rfl (.keep rfl rfl (.keep rfl rfl (.keep rfl rfl (.keep rfl rfl (.keep rfl rfl .nil)))))) (.agg (.keep rfl rfl (.keep rfl rfl (.keep rfl rfl .nil))) .nil)
    ·decide
    ·exact WpL.nil (Only.mk rfl)
   ·exact rfl
   apply HeadG.stepNF rfl
   ·exact rfl
   ·exact in1
   ·exact rfl
   apply HeadG.stepNF rfl
   ·exact rfl
   ·exact in1
   ·exact rfl
   exact Abs.HeadG.nil
  ·exact trueA
  ·exact trueA
  ·exact trueA
  ·exact demA
  ·exact rfl
  ·exact rfl
  refine goR (r:=?_);and_intros<;>intros<;>try exact True.intro
  all_goals first|contradiction|omega|skip
  refine ⟨⟨[(6,.ptr 4 0 0),(7,.ptr 5 0 0)],[VrO (msO M).length,XI (msO M),⟨[.any,.any,.any],0,0,none⟩,⟨[.any,.any,.any,.any,.any,.any],0,0,none⟩,⟨[.any,.any,.any,.any,.any,.any,.any],0,0,none⟩,⟨[.any,.any,.any],0,0,none⟩]⟩,Weak.mk (by repeat (first|exact ReT.nil|refine ReT.cons (.keep rfl rfl .nil) ?_|refine ReT.cons (.own rfl rfl rfl rfl rfl rfl .nil) ?_|refine ReT.cons (.ptr rfl rfl rfl rfl .nil) ?_|refine ReT.cons (.keep (congrArg (fun z=>AV.sc (Value.int .i64 z)) (by first|omega|(skip))) rfl .nil) ?_|refine ReT.cons (.keep (congrArg (fun z:List UInt8=>AV.sc (Value.string ⟨z.toArray⟩)) (by skip)) rfl .nil) ?_|refine ReT.cons (.own rfl rfl rfl rfl rfl (by first|omega|(simp;done)|(simp;omega)) .nil) ?_)) (.cons (.own rfl rfl rfl rfl rfl rfl .nil) (.inr rfl) (.cons (Re.same rfl (still_ints _)) (.inr rfl) (.cons (.any (.any (.any .nil))) (.inr rfl) (.cons (.any (.any (.any (.any (.any (.any .nil)))))) (.inr rfl) (.cons (.any (.any (.any (.any (.any (.any (.any .nil))))))) (.inr rfl) (.cons (.any (.any (.any .nil))) (.inr rfl) .nil)))))) (Nat.le_of_ble_eq_true rfl),FinH.ret (ResH.two (ResV.cell (ds:=[_,_,_,_,_,_,_]) rfl rfl rfl rfl rfl) (ResV.cell (ds:=[_,_,_]) rfl rfl rfl rfl rfl) rfl)⟩
end
end Go.Proofs.YtainhhfnnclfiaaGreat


namespace Go.Abs
open Go
section
variable {P:Program} {n m:Nat} {G:Ctx} {T:List (Nat×AV)} {O:List AObj} {Q:Exit→St→Prop} {ops:Array Oper} {l:List Oper} {d:Nat} {tt:TypeId} {pos:String} {after:Array Edge}
theorem Rel.freezeP {a:Act} {w:World} {id ep off:Nat} {ob:AObj} {cs:List AV} (ho:O[id]?=some ob) (hm:m≤id) (hep:ob.ep=ep) (hcs:ob.cells=cs) (hst:cs.all AV.still=true) (hnf:cs.all AV.nofre=true) (hM:∀b,¬G.M0 b)
 (hr:Rel n m G ⟨(d,.ptr id ep off)::T,O⟩ a w):Rel n m G ⟨(d,.iptr cs off)::T,O.set id ⟨[],ep+1,0,none⟩⟩ a w:=by
 subst hcs hep
 obtain ⟨S,ι,F,hr⟩:=hr
 have hidl:id<O.length:=(List.getElem?_eq_some_iff.1 ho).1
 have hset:∀i:Nat,(O.set id ⟨[],ob.ep+1,0,none⟩)[i]?=if i=id then some ⟨[],ob.ep+1,0,none⟩ else O[i]?:=by
  intro i
  rw [List.getElem?_set]
  by_cases e:id=i
  ·subst e;rw [if_pos rfl,if_pos rfl,if_pos hidl]
  ·rw [if_neg e,if_neg (fun h=>e h.symm)]
 have hob:=hr.objs.obj id ob ho
 let S2:Nat→Prop:=fun b=>S b∨∃k,ι id=some (b,k)
 let ι2:Nat→Spot:=fun i=>if i=id then none else ι i
 let F2:Nat→List Nat:=fun i=>if i=id then [] else F i
 have hblk:∀b k,ι id=some (b,k)→b∈F id:=by
  intro b k hs
  unfold ObjAt at hob
  rw [hs] at hob
  obtain ⟨cur,t,fz,f',h1,_⟩:=hob
  rw [h1];simp
 have hlat:Later S w ι O S2 w ι2 (O.set id ⟨[],ob.ep+1,0,none⟩):=by
  refine ⟨fun b h=>.inl h,fun b _=>rfl,fun i obi hi=>?_⟩
  by_cases e:i=id
  ·subst e
   rw [ho] at hi;cases hi
   exact ⟨⟨[],ob.ep+1,0,none⟩,by rw [hset,if_pos rfl],.inl (Nat.lt_succ_self _)⟩
  ·exact ⟨obi,by rw [hset,if_neg e];exact hi,.inr ⟨rfl,rfl,if_neg e⟩⟩
 have hlen:(O.set id ⟨[],ob.ep+1,0,none⟩).length=O.length:=List.length_set
 refine ⟨S2,ι2,F2,hr.defers,hr.size,fun t=>?_,⟨fun i obi hi=>?_,fun i hi=>?_,fun i j hi hj hij b hb=>?_⟩,fun i hi b hb=>?_,⟨fun b hb=>.inl (hr.base.1 b hb),?_⟩,?_,hr.keeps,fun i hi=>?_,?_⟩
 ·have ht:=hr.tmps t
  by_cases e:d=t
  ·subst e
   have ht:VRel S w ι O (look ((d,.ptr id ob.ep off)::T) d) (a.tmps.getD d undef) []:=ht
   show VRel S2 w ι2 _ (look ((d,.iptr ob.cells off)::T) d) _ _
   rw [look_cons_same] at ht ⊢
   generalize a.tmps.getD d undef=x at ht
   cases ht with
   |ptr q1 q2 q3 r=>
    cases r
    rw [ho] at q1;cases q1
    have hc:=q3 rfl
    unfold ObjAt at hob
    cases hs:ι id with
    |none=>
     rw [hs] at hc
     exact hc.elim
    |some p=>
     obtain ⟨b,k⟩:=p
     rw [hs] at hc hob
     obtain ⟨cur,t,fz,f',hF,hh,_,_,_,_,hl'⟩:=hob
     have hf':=nofre_all hl' hnf
     subst hf'
     have hc:x=.pointer (some ⟨b,0+off,none⟩):=by rw [Nat.zero_add];exact hc
     subst hc
     refine .iptr (us:=cur.toList.take ob.cells.length) (.inr ⟨k,hs⟩) (fun i hi=>cell_of_heap hh _ i hi) ?_ .nil
     exact still_all hst hl' (fun b h=>.inl h) (fun _ _=>rfl) (fun _ _=>rfl)
  ·have ht:VRel S w ι O (look ((d,.ptr id ob.ep off)::T) t) (a.tmps.getD t undef) []:=ht
   show VRel S2 w ι2 _ (look ((d,.iptr ob.cells off)::T) t) _ _
   rw [look_cons_other _ _ _ _ e] at ht ⊢
   exact ht.mono hlat (fun _ _=>rfl)
 ·have hi:(O.set id ⟨[],ob.ep+1,0,none⟩)[i]?=some obi:=hi
  rw [hset] at hi
  by_cases e:i=id
  ·subst e
   rw [if_pos rfl] at hi;cases hi
   show ObjAt S2 w ι2 _ _ (if i=i then none else ι i) (if i=i then [] else F i)
   rw [if_pos rfl,if_pos rfl]
   exact ⟨rfl,rfl⟩
  ·rw [if_neg e] at hi
   have h0:=hr.objs.obj i obi hi
   show ObjAt S2 w ι2 _ obi (if i=id then none else ι i) (if i=id then [] else F i)
   rw [if_neg e,if_neg e]
   unfold ObjAt at h0 ⊢
   cases hs:ι i with
   |none=>rw [hs] at h0;exact h0
   |some p=>
    obtain ⟨b,k⟩:=p
    rw [hs] at h0
    obtain ⟨cur',t',fz',f2,h1,h2,h3,h4,h5,h6,h7⟩:=h0
    exact ⟨cur',t',fz',f2,h1,h2,h3,h4,h5,h6,h7.mono hlat (fun _ _=>rfl)⟩
 ·have hi:i<(O.set id ⟨[],ob.ep+1,0,none⟩).length:=hi
  show (if i=id then [] else F i).Nodup
  split
  ·exact List.nodup_nil
  ·exact hr.objs.nodup i (by rw [hlen] at hi;exact hi)
 ·have hi:i<(O.set id ⟨[],ob.ep+1,0,none⟩).length:=hi
  have hj:j<(O.set id ⟨[],ob.ep+1,0,none⟩).length:=hj
  rw [hlen] at hi hj
  have hb:b∈(if i=id then [] else F i):=hb
  show b ∉ (if j=id then [] else F j)
  split at hb
  ·cases hb
  ·split
   ·simp
   ·exact hr.objs.apart i j hi hj hij b hb
 ·have hi:i<(O.set id ⟨[],ob.ep+1,0,none⟩).length:=hi
  rw [hlen] at hi
  have hb:b∈(if i=id then [] else F i):=hb
  split at hb
  ·cases hb
  ·rename_i e
   obtain ⟨q1,q2,q3⟩:=hr.foot i hi b hb
   refine ⟨q1,?_,q3⟩
   rintro (h'|⟨k,h'⟩)
   ·exact q2 h'
   ·exact hr.objs.apart i id hi hidl e b hb (hblk b k h')
 ·rintro b (h'|⟨k,h'⟩)
  ·exact hr.base.2 b h'
  ·have hf:=hr.foot id hidl b (hblk b k h')
   rcases hf.1 with h1|h1
   ·exact absurd h1 (hM b)
   ·exact .inr h1
 ·rintro b (h'|⟨k,h'⟩)
  ·exact hr.stable b h'
  ·exact (hr.foot id hidl b (hblk b k h')).2.2
 ·show (if i=id then none else ι i)=_
  rw [if_neg (by omega)];exact hr.spots i hi
 ·show m≤(O.set id ⟨[],ob.ep+1,0,none⟩).length
  rw [hlen];exact hr.mle
theorem WpA.freezeP {c:Code} {id ep off:Nat} {ob:AObj} {cs:List AV} (hM:∀b,¬G.M0 b) (ho:O[id]?=some ob) (hm:m≤id) (hep:ob.ep=ep) (hcs:ob.cells=cs) (hst:cs.all AV.still=true) (hnf:cs.all AV.nofre=true)
 (h:WpA P n m G c ⟨(d,.iptr cs off)::T,O.set id ⟨[],ep+1,0,none⟩⟩ Q):WpA P n m G c ⟨(d,.ptr id ep off)::T,O⟩ Q:=
 fun a w hr=>h a w (Rel.freezeP ho hm hep hcs hst hnf hM hr)
theorem KeepL.fnEnd {S:Nat→Prop} {w:World} {ι ι':Nat→Spot} {vs us:List AV} {g:Nat} {cs:List AV} (h:KeepL vs us):∀{xs f},LRel S w ι O (vs++[.fn g [.iptr cs 0]]) xs f→LRel S w ι' [] (us++[.fn g [.iptr cs 0]]) xs []:=by
 induction h with
 |nil=>
  intro xs f hl
  cases hl with
  |fn a r=>cases r;exact .fn (simple_allI a rfl) .nil
 |any _ ih=>
  intro xs f hl
  obtain ⟨v,vs',f1,f2,rfl,hv,hr,rfl⟩:=hl.uncons
  exact .any (ih hr)
 |keep hs hn _ ih=>
  intro xs f hl
  obtain ⟨v,vs',f1,f2,rfl,hv,hr,rfl⟩:=hl.uncons
  have:=nofre_nil hv hn
  subst this
  have:=LRel.cons (still_any hv hs [] (fun _ h=>h) (fun _ _=>rfl) (by simp)) (ih hr)
  simpa using this
 |@agg ds es vs us h1 _ _ ih2=>
  intro xs f hl
  obtain ⟨v,vs',f1,f2,rfl,hv,hr,rfl⟩:=hl.uncons
  obtain ⟨us',rfl,ha⟩:=LRel.agg_inv hv
  have:=LRel.agg (h1.rel ha) (ih2 hr)
  simpa using this
theorem WpL.callKF {f:FuncId} {xs:List Operand} {ats:Array TypeId} {As:List AV} {r:AV} (hc:FnC P f As [] r) (hs:∀{S:Nat→Prop} {w:World} {ι:Nat→Spot} {us:List Value} {f:List Nat},LRel S w ι O (xs.map (av T)) us f→LRel S w (fun _=>none) [] As us []) (hn:d<n) (h:WpL P n m G false ops l ⟨(d,r)::T,O⟩ Q):
 WpL P n m G false ops ({dst:=some d,op:=.call {callee:=.value (.func f),args:=xs.toArray,argTypes:=ats},type:=tt,pos:=pos,after:=after,guard:=none}::l) ⟨T,O⟩ Q:=
 WpL.op rfl (fun a w hr=>by
  obtain ⟨S,ι,F,hr⟩:=hr
  obtain ⟨⟨fn,hf,hb,hnm⟩,hcall⟩:=hc
  have hl:LRel S w (fun _=>none) [] As (xs.map a.eval) []:=hs (hr.evals xs)
  have hex:(execOp a.eval {dst:=some d,op:=.call {callee:=.value (.func f),args:=xs.toArray,argTypes:=ats},type:=tt,pos:=pos,after:=after,guard:=none}).run P w=.ok (.enter f (xs.map a.eval).toArray) w:=by
   simp only [execOp,resolve,Act.eval,Deferred.ofValue,invoke,callFunc,Sem.run_bind,Sem.run_pure,Result.andThen_ok,program,Sem.run,hf,hnm,hb,Bool.false_eq_true,if_false]
   simp
  unfold Oper.wp
  rw [hex]
  refine (hcall w S (xs.map a.eval) hr.stable hl).mono fun e w' he=>?_
  obtain ⟨v,S',ι',F',rfl,hS1,hS2,hS3,hO',hF',hv,hk⟩:=he
  show Rel n m G ⟨(d,r)::T,O⟩ (a.put (some d) v) w'
  have hold:∀b,b<w.heap.size→w'.heap[b]?=w.heap[b]?:=fun b hb=>hk.block b hb (fun h=>h)
  have hlat:Later S w ι O S' w' ι O:=⟨hS1,fun b hb=>hold b (hr.stable b hb),fun id ob h=>⟨ob,h,.inr ⟨rfl,rfl,rfl⟩⟩⟩
  have hrel:RelAt n m G S' ι F ⟨T,O⟩ a w':=by
   refine ⟨hr.defers,hr.size,fun t=>(hr.tmps t).mono hlat (by simp),⟨fun id ob h=>?_,hr.objs.nodup,hr.objs.apart⟩,fun id h b hb=>?_,⟨fun b hb=>hS1 b (hr.base.1 b hb),fun b hb=>?_⟩,hS3,?_,hr.spots,hr.mle⟩
   ·have h:O[id]?=some ob:=h
    have hlt:id<O.length:=(List.getElem?_eq_some_iff.1 h).1
    have ho:=hr.objs.obj id ob h
    unfold ObjAt at ho ⊢
    cases hs:ι id with
    |none=>rw [hs] at ho;exact ho
    |some p=>
     obtain ⟨b,k⟩:=p
     rw [hs] at ho
     obtain ⟨cur',t',fz',f2,h1,h2,h3,h4,h5,h6,h7⟩:=ho
     have key:∀b',b'∈F id→w'.heap[b']?=w.heap[b']?:=fun b' hb'=>hold b' (hr.foot id hlt b' hb').2.2
     exact ⟨cur',t',fz',f2,h1,by rw [key b (by rw [h1];simp)];exact h2,h3,h4,h5,h6,h7.mono hlat fun b' hb'=>key b' (by rw [h1];simp [hb'])⟩
   ·obtain ⟨q1,q2,q3⟩:=hr.foot id h b hb
    refine ⟨q1,fun h'=>?_,by have:=hk.size;omega⟩
    rcases hS2 b h' with h2|h2
    ·exact q2 h2
    ·omega
   ·rcases hS2 b hb with h2|h2
    ·exact hr.base.2 b h2
    ·exact .inr (by have:=hr.keeps.size;omega)
   ·exact ⟨hk.os.trans hr.keeps.os,hk.tape.trans hr.keeps.tape,hk.output.trans hr.keeps.output,by have:=hr.keeps.size;have:=hk.size;omega,fun b hb hM=>by
     rw [hold b (by have:=hr.keeps.size;omega)];exact hr.keeps.block b hb hM⟩
  exact ⟨S',ι,F,hrel.put hn (hv.mono (Later.none O (fun _ h=>h) (fun _ _=>rfl)) (by simp))⟩) h
end
end Go.Abs


namespace Go.Proofs.YtainhhfnnclfiaaGreat
open Go Go.Abs
attribute [local irreducible] WpA WpL Rnd Blk Abs.Seq Abs.Fin Abs.FinG FnC FnG Only
def prB (p:Int×Int):List Int:=ueL p.1++ueL (nolL p.2)
def bkK (m:Int) (lv lens:List Int) (k:Nat):List Int:=(symL lens m++[1]++ueL ((prsL lv).length-1))++((prsL lv).take k).flatMap prB
def bkL (m:Int) (lv lens:List Int) (n:Int):List Int:=if BlkOk m lv lens n then (if (prsL lv).length=0 then symL lens m++[0] else bkK m lv lens (prsL lv).length) else []
end Go.Proofs.YtainhhfnnclfiaaGreat


namespace Go.Proofs.YtainhhfnnclfiaaGreat
open Go Go.Abs
attribute [local irreducible] WpA WpL Rnd Blk Abs.Seq Abs.Fin Abs.FinG FnC FnG Only
def mbK (e:Bool) (bs:List Blok) (lens:List Int) (k:Nat):List Int:=[bif e then 1 else 0]++(bs.take k).flatMap fun b=>bkL b.1 b.2 lens (sz8 e)
def mbbL (e:Bool) (bs:List Blok) (lens:List Int):List Int:=if MbkOk e bs lens then mbK e bs lens bs.length else []
def hdB (w h q:Int) (b d:Bool):List Int:=bitsL 183 8++ueL (w/8-1)++ueL (h/8-1)++bitsL q 6++[bif b then 1 else 0,bif d then 1 else 0]
def hdK (w h q:Int) (b d:Bool) (l:List Int) (k:Nat):List Int:=hdB w h q b d++(l.take k).flatMap fun n=>bitsL n 3
def hdL (w h q:Int) (b d:Bool) (l:List Int):List Int:=if HdOk w h q l then hdK w h q b d l l.length else []
end Go.Proofs.YtainhhfnnclfiaaGreat


namespace Go.Proofs.YtainhhfnnclfiaaGreat
open Go Go.Abs
attribute [local irreducible] WpA WpL Rnd Blk Abs.Seq Abs.Fin Abs.FinG FnC FnG Only
attribute [local irreducible] bitsL ueL
end Go.Proofs.YtainhhfnnclfiaaGreat


namespace Go.Proofs.YtainhhfnnclfiaaGreat
open Go Go.Abs
attribute [local irreducible] WpA WpL Rnd Blk Abs.Seq Abs.Fin Abs.FinG FnC FnG Only
attribute [local simp] Abs.setL
def endB (k:Int) (l:List Blok):Int:=k+bw l
def markB:Int→List Blok→List Blok
 |_,[]=>[]
 |k,b::l=>(k,marksI (k+1) b.2.length)::markB (k+1+b.2.length) l
theorem bw_nil:bw []=0:=rfl
theorem bw_cons (b:Blok) (l:List Blok):bw (b::l)=bw l+1+b.2.length:=by unfold bw;rw [List.map_cons,List.sum_cons,List.length_cons];unfold bn;omega
@[simp] theorem markB_len:∀(l:List Blok) (k:Int),(markB k l).length=l.length
 |[],k=>rfl
 |b::l,k=>by rw [markB,List.length_cons,List.length_cons,markB_len l]
def markM:Int→List Mbk→List Mbk
 |_,[]=>[]
 |k,m::l=>(decide (k%3=0),markB (k+1) m.2)::markM (k+1+bw m.2) l
theorem mw_nil:mw []=0:=rfl
theorem mw_cons (b:Mbk) (l:List Mbk):mw (b::l)=mw l+1+bw b.2:=by unfold mw;rw [List.map_cons,List.sum_cons,List.length_cons];unfold mn;omega
@[simp] theorem markM_len:∀(l:List Mbk) (k:Int),(markM k l).length=l.length
 |[],k=>rfl
 |b::l,k=>by rw [markM,List.length_cons,List.length_cons,markM_len l]
end Go.Proofs.YtainhhfnnclfiaaGreat


namespace Go.Proofs.YtainhhfnnclfiaaGreat
open Go Go.Abs
attribute [local irreducible] WpA WpL Rnd Blk Abs.Seq Abs.Fin Abs.FinG FnC FnG Only
def mbF (l:List Int) (m:Mbk):List Int:=mbbL m.1 m.2 l
def stK (w h q:Int) (b d:Bool) (l:List Int) (M:List Mbk) (k:Nat):List Int:=hdL w h q b d l++(M.take k).flatMap (mbF l)
end Go.Proofs.YtainhhfnnclfiaaGreat


namespace Go.Proofs.YtainhhfnnclfiaaGreat
open Go Go.Abs
attribute [local irreducible] WpA WpL Rnd Blk Abs.Seq Abs.Fin Abs.FinG FnC FnG Only
def numS (l:List Int) (k:Nat):Int:=(l.take k).foldl (fun n b=>n*2+b) 0
def byI (x:List Int) (k:Nat):List Int:=(List.range k).map fun i=>numS ((x.drop (8*i)).take 8) 8
def strS (x:List Int):List UInt8:=(byI x (x.length/8)).map fun n:Int=>UInt8.ofNat n.toNat
def padN (n:Nat):Nat:=(8-(n+1)%8)%8
def padL (b:List Int) (j:Nat):List Int:=b++[1]++List.replicate j 0
def stopS (b:List Int):List UInt8:=strS (padL b (padN b.length))
def unpS (w h q:Int) (b d:Bool) (l:List Int) (M:List Mbk):List UInt8:=if StOk w h q l M then stopS (stK w h q b d l M M.length) else []
end Go.Proofs.YtainhhfnnclfiaaGreat


namespace Go.Proofs.YtainhhfnnclfiaaGreat
open Go Go.Abs
abbrev kR (b:Int):Int→Int:=fun y=>ifE (y<b) 5
abbrev kL:Int→Int:=fun y=>ifE (-16383≤lvOf y∧lvOf y≤16383) 5
theorem split4 {Ov:List AObj} {a b c d:AObj} (h0:Ov[0]?=some a) (h1:Ov[1]?=some b) (h2:Ov[2]?=some c) (h3:Ov[3]?=some d):∃R,Ov=a::b::c::d::R:=by
 match Ov,h3 with
 |a'::b'::c'::d'::R,h3=>simp at h0 h1 h2 h3;exact ⟨R,by rw [h0,h1,h2,h3]⟩
 |[],h=>simp at h
 |[_],h=>simp at h
 |[_,_],h=>simp at h
 |[_,_,_],h=>simp at h
theorem split3 {Ov:List AObj} {b c d:AObj} (hc:4≤Ov.length) (h1:Ov[1]?=some b) (h2:Ov[2]?=some c) (h3:Ov[3]?=some d):∃x R,Ov=x::b::c::d::R:=by
 match Ov,h3 with
 |a'::b'::c'::d'::R,h3=>simp at h1 h2 h3;exact ⟨a',R,by rw [h1,h2,h3]⟩
 |[],h=>simp at h
 |[_],h=>simp at h
 |[_,_],h=>simp at h
 |[_,_,_],h=>simp at h
section
variable {P:Program} {n m:Nat} {G:Ctx} {T:List (Nat×AV)} {R:List AObj} {Q:Exit→St→Prop} {ops:Array Oper} {l:List Oper} {tt:TypeId} {pos:String} {after:Array Edge}
end
attribute [local irreducible] WpA WpL Rnd Blk Abs.Seq Abs.Fin Abs.FinG FnC FnG Only
end Go.Proofs.YtainhhfnnclfiaaGreat


namespace Go.Proofs.YtainhhfnnclfiaaGreat
open Go Go.Abs
structure PrS where
 W:Int
 H:Int
 Q:Int
 B:Bool
 D:Bool
 L:List Int
 ms:List Mbk
 a:Int
 c:Int
def prS (p:List UInt8):PrS:=
 let x:=hdS p 0
 if x.c=0 then
  let y:=stRun p x.a x.L (cntM x.W x.H).toNat
  if y.c=0 then
   if endC p y.a=0 then ⟨x.W,x.H,x.Q,x.B,x.D,x.L,y.ms,y.a,0⟩ else ⟨0,0,0,false,false,[],[],y.a,endC p y.a⟩
  else ⟨0,0,0,false,false,[],[],y.a,y.c⟩
 else ⟨0,0,0,false,false,[],[],x.a,x.c⟩
end Go.Proofs.YtainhhfnnclfiaaGreat


namespace Go.Proofs.YtainhhfnnclfiaaGreat
open Go Go.Abs
attribute [local irreducible] WpA WpL Rnd Blk Abs.Seq Abs.Fin Abs.FinG FnC FnG Only
end Go.Proofs.YtainhhfnnclfiaaGreat


namespace Go.Abs
open Go
section
variable {P:Program} (w:World)
end
section
variable {P:Program} {n m:Nat} {G:Ctx} {T:List (Nat×AV)} {O:List AObj} {Q:Exit→St→Prop} {ops:Array Oper} {l:List Oper} {d:Nat} {tt:TypeId} {pos:String} {after:Array Edge} {tab:List (Nat×Ty)}
end
end Go.Abs


namespace Go.Proofs.YtainhhfnnclfiaaGreat
open Go Go.Abs
attribute [local irreducible] WpA WpL Rnd Blk Abs.Seq Abs.Fin Abs.FinG FnC FnG Only
end Go.Proofs.YtainhhfnnclfiaaGreat


namespace Go.Proofs.YtainhhfnnclfiaaGreat
open Go Go.Abs
attribute [local irreducible] WpA WpL Rnd Blk Abs.Seq Abs.Fin Abs.FinG FnC FnG Only
def Bits (l:List Int):Prop:=∀x∈l,x=0∨x=1
end Go.Proofs.YtainhhfnnclfiaaGreat


namespace Go.Proofs.YtainhhfnnclfiaaGreat
open Go Go.Abs
attribute [local irreducible] WpA WpL Rnd Blk Abs.Seq Abs.Fin Abs.FinG FnC FnG Only
end Go.Proofs.YtainhhfnnclfiaaGreat


namespace Go.Proofs.YtainhhfnnclfiaaGreat
open Go Go.Abs
attribute [local irreducible] WpA WpL Rnd Blk Abs.Seq Abs.Fin Abs.FinG FnC FnG Only
def pvC (p:List UInt8) (s room:Int):Int:=fuC p (fuA p s 0 (kR room)) (fuC p s 0 (kR room)) kL
def pvA (p:List UInt8) (s room:Int):Int:=fuA p (fuA p s 0 (kR room)) (fuC p s 0 (kR room)) kL
def pvR (p:List UInt8) (s room:Int):Int:=if pvC p s room=0 then fuV p s 0 (kR room) else 0
def pvL (p:List UInt8) (s room:Int):Int:=if pvC p s room=0 then lvOf (fuV p (fuA p s 0 (kR room)) (fuC p s 0 (kR room)) kL) else 0
section
attribute [local irreducible] ueA ueV ueC pvC pvA pvR pvL lvOf
end
section
attribute [local irreducible] rbA rbV ueA ueV ueC pvC pvA pvR pvL lvOf lvS lvRun
end
section
attribute [local irreducible] lvS smA smV smC blS
end
section
attribute [local irreducible] rbA rbV blS mbS mbRun sz8 nm8
end
end Go.Proofs.YtainhhfnnclfiaaGreat


namespace Go.Proofs.YtainhhfnnclfiaaGreat
open Go Go.Abs
end Go.Proofs.YtainhhfnnclfiaaGreat


namespace Go.Proofs.YtainhhfnnclfiaaGreat
open Go Go.Abs
attribute [local irreducible] WpA WpL Rnd Blk Abs.Seq Abs.Fin Abs.FinG FnC FnG Only
end Go.Proofs.YtainhhfnnclfiaaGreat


namespace Go.Proofs.YtainhhfnnclfiaaGreat
open Go Go.Abs
attribute [local irreducible] WpA WpL Rnd Blk Abs.Seq Abs.Fin Abs.FinG FnC FnG Only
end Go.Proofs.YtainhhfnnclfiaaGreat


namespace Go.Proofs.YtainhhfnnclfiaaGreat
open Go Go.Abs
attribute [local irreducible] WpA WpL Rnd Blk Abs.Seq Abs.Fin Abs.FinG FnC FnG Only
def chO (q:Int) (L ms:List Int):Chs:=fun c _ _ _ _ _ _ _=>modeF q L ms c
theorem modeF_has {q:Int} {L ms:List Int} {k:Int} (h:OptOk q L) (hk:0≤k):HasC L (modeF q L ms k):=by
 have hf:=firstM_has h.2
 rw [modeF,if_pos ⟨h,hk⟩]
 split
 ·rename_i hh;exact hh.2
 ·exact (has_code h.2 hf.1).2 hf.2
theorem choose_c (q:Int) (b d:Bool) (L ms:List Int) (es:List Bool) (hl:L.length≤1099511627776∧ms.length≤1099511627776):ChG 69 [I q,B b,B d,IL L,IL ms,BL es] (chO q L ms):=fun c k t l co a bb n hc=>by
 unfold chO
 refine FnC.of_body tabOk Tryz.func69 Tryz.ntmps69 rfl (by decide +kernel) (by simp) fun G=>?_
 refine go (r:=?_);and_intros<;>intros<;>try exact True.intro
 all_goals first|contradiction|omega
abbrev enA (w h q:Int) (b:Bool) (L ms F:List Int):EncA:=⟨w,h,q,b,L,F,chO q L ms⟩
def encT (w h q:Int) (b:Bool) (L ms F:List Int) (es:List Bool):List Mbk:=encS (enA w h q b L ms F) (eiF es)
theorem encT_ok {w h q:Int} {b:Bool} {L ms F:List Int} {es:List Bool} (hF:FrameOk w h F) (ho:OptOk q L):StOk w h q L (encT w h q b L ms F es):=
 encS_ok (a:=enA w h q b L ms F) ho hF (fun c P x y n hf=>modeF_has ho (Int.natCast_nonneg _)) (eiF es)
section
attribute [local irreducible] encM encS refL
theorem EncodeStream_1 (w h q:Int) (b d:Bool) (L ms F:List Int) (es:List Bool) (hF:FrameOk w h F) (ho:OptOk q L) (hl:ms.length≤1099511627776∧es.length≤1099511627776):
 Fn 22 [FrA w h F,OpA q b d L ms es] [] (.tup [StA w h q b d L (encT w h q b L ms F es),FrA w h (refL w h q b d (encT w h q b L ms F es))]):=by
 have hfo:=decide_eq_true hF
 have hoo:=decide_eq_true ho
 have hL6:L.length=6:=ho.2.2.1
 have hFl:F.length≤1024:=by
  have h2:w*h≤32*32:=Int.mul_le_mul hF.1.2.1 hF.1.2.2.2.1 (by have:=hF.1.2.2.1;omega) (by have:=hF.1.1;omega)
  have:=hF.2.1
  omega
 have hel:(encT w h q b L ms F es).length=(cntM w h).toNat:=by have:=(encT_ok (b:=b) (ms:=ms) (es:=es) hF ho).2.1;omega
 have hz:=encode_o w h q b d L ms F es 69 [I q,B b,B d,IL L,IL ms,BL es] (chO q L ms) hF ho hl (choose_c q b d L ms es ⟨by omega,hl.1⟩)
 have hM2:(encM (enA w h q b L ms F) (eiF es) (zerP w h) (cntM w h).toNat).1=encT w h q b L ms F es:=by unfold encT encS;rfl
 have hP2:endL w h q d (encM (enA w h q b L ms F) (eiF es) (zerP w h) (cntM w h).toNat).2.1=refL w h q b d (encT w h q b L ms F es):=(encS_ref (enA w h q b L ms F) (eiF es) d).symm
 rw [hM2,hP2] at hz
 have hzz:=FnC.stillT hz (rs':=[StA w h q b d L (encT w h q b L ms F es),FrA w h (refL w h q b d (encT w h q b L ms F es))]) (.agg (.keep rfl rfl (.keep rfl rfl (.keep rfl rfl (.keep rfl rfl (.keep rfl rfl (.keep rfl rfl (.own rfl rfl rfl (by show (cntM w h).toNat*2=_;rw [len_mG,hel]) hel.symm (Snap.rows snap_mG _) .nil))))))) (.agg (.keep rfl rfl (.keep rfl rfl (.keep rfl rfl .nil))) .nil))
 generalize encT w h q b L ms F es=M at*
 generalize refL w h q b d M=P at*
 refine FnC.of_bodyM tabOk Tryz.func22 Tryz.ntmps22 rfl (by decide +kernel) (by simp) fun G hM=>?_
 refine WpA.seq ?_
 refine WpA.cut (σ1:=⟨[(3,.ptr 1 0 0),(2,.ptr 0 0 0),(4,.ptr 2 0 0),(5,.ptr 3 0 0)],[FrO w h F,OpO q b d L ms es,⟨[I 0,I 0,I 0,B false,B false,.nilS,.nilS],0,0,none⟩,⟨[I 0,I 0,.nilS],0,0,none⟩]⟩) ?_ ?_
 ·refine goR (r:=?_);and_intros<;>intros<;>try exact True.intro
  all_goals first|contradiction|omega
 refine Abs.Seq.n ?_
 refine WpA.freezeP hM rfl (Nat.zero_le _) rfl rfl rfl rfl ?_
 refine goR (r:=?_);and_intros<;>intros<;>try exact True.intro
 all_goals first|contradiction|omega|skip
 refine K.call ?_
 refine WpL.callKF hzz (fun hh=>KeepL.fnEnd (vs:=[_,_]) (us:=[_,_]) (.agg (.keep rfl rfl (.keep rfl rfl (.keep rfl rfl .nil))) (.agg (.keep rfl rfl (.keep rfl rfl (.keep rfl rfl (.keep rfl rfl (.keep rfl rfl (.keep rfl rfl .nil)))))) .nil)) hh) (by decide) ?_
 refine goR (r:=?_);and_intros<;>intros<;>try exact True.intro
 all_goals first|contradiction|omega
end
end Go.Proofs.YtainhhfnnclfiaaGreat
