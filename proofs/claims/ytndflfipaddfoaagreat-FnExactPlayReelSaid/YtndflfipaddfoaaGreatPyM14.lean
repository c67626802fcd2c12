/- Proved in this text: lemmas and contracts of functions that the claim uses (parts: EdgH, DebI, AbsHh, AbsYb, AbsPre, DebS, Rec5, Rec4, AbsUn, Nba, Res2, Res3, Putc). No condition. -/
import Derived.Test.YtndflfipaddfoaaGreatPyM13
import Derived.Test.YtndflfipaddfoaaGreatPyM7
import Derived.Test.YtndflfipaddfoaaGreatPyM4
import Derived.Test.YtndflfipaddfoaaGreatPyM12
import Derived.Test.YtndflfipaddfoaaGreatPyM6
import Derived.Test.YtndflfipaddfoaaGreatPyM10
set_option linter.unusedVariables false
set_option linter.unusedSimpArgs false
set_option maxRecDepth 100000
set_option maxHeartbeats 16000000


namespace Go.Proofs.YtndflfipaddfoaaGreat
open Go Go.Abs
attribute [local irreducible] WpA WpL Rnd Blk Abs.Seq Abs.Fin Abs.FinG FnC FnG Only
attribute [local irreducible] runF vx vy hx
end Go.Proofs.YtndflfipaddfoaaGreat


namespace Go.Proofs.YtndflfipaddfoaaGreat
open Go Go.Abs
attribute [local irreducible] WpA WpL Rnd Blk Abs.Seq Abs.Fin Abs.FinG FnC FnG Only
theorem run_snoc (q:Int) (E:List (Nat×Nat)) (e s:Nat) (l:List Int):run q (E++[(e,s)]) l=edg q e s (run q E l) (run q E l):=by rw [run_app];rfl
theorem run_nil (q:Int) (l:List Int):run q [] l=l:=rfl
theorem vx_nil (w y:Nat):vx w y 0=[]:=rfl
theorem vy_nil (w a:Nat):vy w a 0=[]:=rfl
theorem hx_nil (w y:Nat):hx w y 0=[]:=rfl
theorem hy_nil (w:Nat):hy w 0=[]:=rfl
theorem rowLe {w h y:Nat} (hy:y<h):y*w+w≤w*h:=by
 have:=Nat.mul_le_mul_right w (show y+1≤h by omega)
 rw [Nat.add_mul,Nat.one_mul,Nat.mul_comm h w] at this;exact this
theorem in4of {f:List Int} (hf:In f 0 255) (a b c d:Nat):In [f.getD a 0,f.getD b 0,f.getD c 0,f.getD d 0] 0 255:=by
 have h1:=in_getZ255 hf a
 have h2:=in_getZ255 hf b
 have h3:=in_getZ255 hf c
 have h4:=in_getZ255 hf d
 unfold In
 intro v hv
 simp only [List.mem_cons,List.not_mem_nil,or_false] at hv
 rcases hv with rfl|rfl|rfl|rfl<;>assumption
abbrev FrNk (w h:Nat) (f:List Int):Prop:=(w%8=0∧8≤w∧w≤64)∧(h%8=0∧8≤h∧h≤64)∧f.length=w*h∧In f 0 255
abbrev FrHand (W H:Int) (len:Nat):AV:=.agg [I W,I H,.own 0 0 0 len]
instance smoothEdge_c:ConG 293 (∀ (W H:Int) (l:List Int) (e s:Nat) (q:Int),In l 0 255∧2*s≤e∧e+s<l.length∧l.length≤4096∧1≤s→
 Gn 293 [FrHand W H l.length,I e,I s,I q] [IN l] [IN (edg q e s l l)] [] (.tup [])):=⟨fun W H l e s q hh=>by
 obtain ⟨hin,h2,h3,h4,h5⟩:=hh
 have e1:((e:Int)-(s:Int)).toNat=e-s:=by omega
 have e2:((e:Int)-2*(s:Int)).toNat=e-2*s:=by omega
 have e3:((e:Int)+(s:Int)).toNat=e+s:=by omega
 have e0:((e:Int)).toNat=e:=by omega
 have hi4:=in4of hin ((e:Int)-2*(s:Int)).toNat ((e:Int)-(s:Int)).toNat ((e:Int)).toNat ((e:Int)+(s:Int)).toNat
 refine FnG.of_bodyF tabOk Tryz.func293 Tryz.ntmps293 rfl (by decide +kernel) (by simp) rfl rfl fun G=>?_
 refine goR (r:=?_);and_intros<;>intros<;>try exact True.intro
 all_goals first|contradiction|omega|skip
 apply WpA.regionGB 44 mixed (by decide +kernel)
 ·exact rfl
 ·exact headA
 ·exact trueA
 ·exact trueA
 ·exact trueA
 ·exact demA
 ·exact rfl
 ·exact rfl
 refine go (r:=?_);and_intros<;>intros<;>try exact True.intro
 all_goals first|contradiction|omega|(rw [e0,e1,e2,e3];rfl)⟩
section
attribute [local irreducible] run vx vy hx hy edg
instance vertical_c:ConG 253 (∀ (w h:Nat) (l:List Int) (a b:Nat) (q:Int),FrNk w h l∧a≤b∧b≤h→
 Gn 253 [FrHand w h l.length,I a,I b,I q] [IN l] [IN (run q (vy w a (b-a)) l)] [] (.tup [])):=⟨fun w h l a b q hh=>by
 obtain ⟨⟨⟨hw,hw8,hw64⟩,⟨hh8,hh0,hh64⟩,hfl,hin⟩,hab,hbh⟩:=hh
 have hwh:w*h≤64*64:=Nat.mul_le_mul hw64 hh64
 refine FnG.of_bodyF tabOk Tryz.func253 Tryz.ntmps253 rfl (by decide +kernel) (by simp) rfl rfl fun G=>?_
 refine go (r:=?_);and_intros<;>intros<;>try exact True.intro
 all_goals first|contradiction|omega|skip
 refine WpA.loop (fun k:Nat=>⟨[(2,I b),(3,I q),(4,.ptr 1 0 0),(8,I ((a+k:Nat):Int))],[IN (run q (vy w a k) l),⟨[I w,I h,.own 0 0 0 l.length],0,0,none⟩]⟩) (fun k=>k≤b-a) (fun k=>b-a-k) 0 (by omega) (go (r:=?_)) (fun k hk=>?_)
 ·and_intros<;>first|exact True.intro|rfl|(rw [vy_nil,run_nil];done)
 obtain ⟨y,hy⟩:∃y,a+k=y:=⟨_,rfl⟩
 have hkl:=run_len q (vy w a k) l
 by_cases hlt:k<b-a
 ·have hyh:y<h:=by omega
  have hrow:=rowLe (w:=w) hyh
  have hyn:a+(k+1)=y+1:=by omega
  have hvs:=vy_succ w a k
  rw [hy] at hvs
  rw [hy]
  obtain ⟨m,hm⟩:∃m,y*w=m:=⟨_,rfl⟩
  have hpm:(y:Int)*(w:Int)=(m:Int):=by rw [←hm,Int.natCast_mul]
  rw [hm] at hrow
  refine go (r:=?_);and_intros<;>intros<;>try exact True.intro
  all_goals first|contradiction|omega|skip
  refine WpA.loop (fun j:Nat=>⟨[(2,I b),(3,I q),(4,.ptr 1 0 0),(8,I (y:Int)),(9,I (8*(j:Int)+8))],[IN (run q (vy w a k++vx w y j) l),⟨[I w,I h,.own 0 0 0 l.length],0,0,none⟩]⟩) (fun j=>j≤w/8-1) (fun j=>w/8-1-j) 0 (by omega) (go (r:=?_)) (fun j hj=>?_)
  ·and_intros<;>first|exact True.intro|rfl|(rw [vx_nil,List.append_nil];done)
  have hjl:=run_len q (vy w a k++vx w y j) l
  have hji:=run_rg (q:=q) (E:=vy w a k++vx w y j) hin
  by_cases hlt2:j<w/8-1
  ·have hst:=run_snoc q (vy w a k++vx w y j) (m+(8*j+8)) 1 l
   have hvx:=vx_succ w y j
   rw [hm] at hvx
   rw [List.append_assoc,←hvx] at hst
   have e0:(y:Int)*(w:Int)+(8*(j:Int)+8)=((m+(8*j+8):Nat):Int):=by rw [hpm];omega
   refine goR (r:=?_);and_intros<;>intros<;>try exact True.intro
   all_goals first|contradiction|omega|exact Nat.le_refl _|(rw [hm];exact hst.symm)
  ·obtain rfl:j=w/8-1:=by omega
   refine go (r:=?_);and_intros<;>intros<;>try exact True.intro
   all_goals first|contradiction|omega|(rw [hvs];done)
 ·obtain rfl:k=b-a:=by omega
  have hyb:y=b:=by omega
  rw [hy,hyb]
  refine go (r:=?_);and_intros<;>intros<;>try exact True.intro
  all_goals first|contradiction|omega⟩
theorem rowUp {w h y:Nat} (h1:2≤y) (hy:y<h):2*w≤y*w∧y*w+w≤w*h:=⟨Nat.mul_le_mul_right w h1,rowLe hy⟩
instance horizontal_c:ConG 254 (∀ (w h:Nat) (l:List Int) (y:Nat) (q:Int),FrNk w h l∧2≤y∧y+1<h→
 Gn 254 [FrHand w h l.length,I y,I q] [IN l] [IN (run q (hx w y w) l)] [] (.tup [])):=⟨fun w h l y q hh=>by
 obtain ⟨⟨⟨hw,hw8,hw64⟩,⟨hh8,hh0,hh64⟩,hfl,hin⟩,hy2,hyh⟩:=hh
 have hwh:w*h≤64*64:=Nat.mul_le_mul hw64 hh64
 obtain ⟨hr1,hr2⟩:=rowUp (w:=w) hy2 (show y<h by omega)
 have hr3:=rowLe (w:=w) hyh
 rw [Nat.add_mul,Nat.one_mul] at hr3
 obtain ⟨m,hm⟩:∃m,y*w=m:=⟨_,rfl⟩
 have hpm:(y:Int)*(w:Int)=(m:Int):=by rw [←hm,Int.natCast_mul]
 rw [hm] at hr1 hr2 hr3
 refine FnG.of_bodyF tabOk Tryz.func254 Tryz.ntmps254 rfl (by decide +kernel) (by simp) rfl rfl fun G=>?_
 refine go (r:=?_);and_intros<;>intros<;>try exact True.intro
 all_goals first|contradiction|omega|skip
 refine WpA.loop (fun k:Nat=>⟨[(1,I y),(2,I q),(3,.ptr 1 0 0),(8,I w),(9,I k)],[IN (run q (hx w y k) l),⟨[I w,I h,.own 0 0 0 l.length],0,0,none⟩]⟩) (fun k=>k≤w) (fun k=>w-k) 0 (by omega) (go (r:=?_)) (fun k hk=>?_)
 ·and_intros<;>first|exact True.intro|rfl|(rw [hx_nil,run_nil];done)
 have hkl:=run_len q (hx w y k) l
 have hki:=run_rg (q:=q) (E:=hx w y k) hin
 by_cases hlt:k<w
 ·have hst:=run_snoc q (hx w y k) (m+k) w l
  have hvx:=hx_succ w y k
  rw [hm] at hvx
  rw [←hvx] at hst
  refine goR (r:=?_);and_intros<;>intros<;>try exact True.intro
  all_goals first|contradiction|omega|exact Nat.le_refl _|(rw [hm];exact hst.symm)
 ·obtain rfl:k=w:=by omega
  refine go (r:=?_);and_intros<;>intros<;>try exact True.intro
  all_goals first|contradiction|omega⟩
end
instance isFiltered_c:Con 252 (∀ (W H:Int) (p:List Int) (q:Int),p.length≤1099511627776→Fn 252 [FrA W H p,I q] [] (B (decide (FrameOk W H p∧0≤q∧q≤51)))):=⟨fun W H p q hl=>by
 refine FnC.of_body tabOk Tryz.func252 Tryz.ntmps252 rfl (by decide +kernel) (by simp) fun G=>?_
 refine go (r:=?_);and_intros<;>intros<;>try exact True.intro
 all_goals first|(simp_all;done)⟩
def dbL (W H q:Int) (p:List Int):List Int:=if FrameOk W H p∧0≤q∧q≤51 then debL q W.toNat H.toNat p else p
theorem dbL_len (W H q:Int) (p:List Int):(dbL W H q p).length=p.length:=by
 unfold dbL;split
 ·exact debL_len ..
 ·rfl
theorem dbL_yes {w h:Nat} {q:Int} {p:List Int} (hh:FrameOk (w:Int) (h:Int) p∧0≤q∧q≤51):dbL w h q p=run q (hy w (h/8-1)) (run q (vy w 0 h) p):=by
 unfold dbL;rw [if_pos hh];rfl
theorem dbL_no {W H:Int} {q:Int} {p:List Int} (hh:¬(FrameOk W H p∧0≤q∧q≤51)):dbL W H q p=p:=by
 unfold dbL;rw [if_neg hh]
section
attribute [local irreducible] run vx vy hx hy edg
instance DeblockRef_c:Con 164 (∀ (W H:Int) (p:List Int) (q:Int),p.length≤1099511627776→Fn 164 [FrA W H p,I q] [IN (dbL W H q p)] (FrOwn 0 W H p.length)):=⟨fun W H p q hl=>by
 by_cases hok:FrameOk W H p∧0≤q∧q≤51
 ·have hd:=decide_eq_true hok
  obtain ⟨hf,hq0,hq51⟩:=id hok
  obtain ⟨⟨h1,h2,h3,h4,h5,h6⟩,hpl,hin⟩:=hf
  obtain ⟨w,rfl⟩:∃w:Nat,W=w:=⟨W.toNat,by omega⟩
  obtain ⟨h,rfl⟩:∃h:Nat,H=h:=⟨H.toNat,by omega⟩
  have hpl2:p.length=w*h:=by have:((w*h:Nat):Int)=(w:Int)*(h:Int):=Int.natCast_mul w h;omega
  rw [dbL_yes hok]
  have hwh:w*h≤64*64:=Nat.mul_le_mul (by omega) (by omega)
  have hv1:=run_len q (vy w 0 h) p
  have hv2:=run_rg (q:=q) (E:=vy w 0 h) hin
  generalize hP:run q (vy w 0 h) p=P at*
  refine FnC.of_body tabOk Tryz.func164 Tryz.ntmps164 rfl (by decide +kernel) (by simp) fun G=>?_
  refine go (r:=?_);and_intros<;>intros<;>try exact True.intro
  all_goals first|contradiction|exact Nat.zero_le _|omega|skip
  rw [Nat.sub_zero,hP]
  refine WpA.loop (fun k:Nat=>⟨[(1,I q),(2,.ptr 0 0 0),(4,.ptr 1 0 0),(5,.ptr 3 0 0),(6,I (8*(k:Int)+8))],[FrO w h p,⟨[I 0,I 0,.nilS],0,0,none⟩,IN (run q (hy w k) P),⟨[I w,I h,.own 2 0 0 p.length],0,0,none⟩]⟩) (fun k=>k≤h/8-1) (fun k=>h/8-1-k) 0 (by omega) (go (r:=?_)) (fun k hk=>?_)
  ·and_intros<;>first|exact True.intro|rfl|(rw [hy_nil,run_nil];done)
  have hkl:=run_len q (hy w k) P
  have hki:=run_rg (q:=q) (E:=hy w k) hv2
  by_cases hlt:k<h/8-1
  ·have hst:run q (hy w (k+1)) P=run q (hx w (8*k+8) w) (run q (hy w k) P):=by rw [hy_succ,run_app]
   refine goR (r:=?_);and_intros<;>intros<;>try exact True.intro
   all_goals first|contradiction|omega|exact hst.symm|(show 2≤8*k+8;omega)|(show 8*k+8+1<h;omega)
  ·obtain rfl:k=h/8-1:=by omega
   refine go (r:=?_);and_intros<;>intros<;>try exact True.intro
   all_goals first|contradiction|omega
 ·have hd:=decide_eq_false hok
  rw [dbL_no hok]
  refine FnC.of_body tabOk Tryz.func164 Tryz.ntmps164 rfl (by decide +kernel) (by simp) fun G=>?_
  refine go (r:=?_);and_intros<;>intros<;>try exact True.intro
  all_goals first|contradiction|omega⟩
end
end Go.Proofs.YtndflfipaddfoaaGreat


namespace Go.Abs
open Go
section
variable {P:Program} {n m:Nat} {G:Ctx} {T:List (Nat×AV)} {O:List AObj} {Q:Exit→St→Prop} {ops:Array Oper} {l:List Oper} {tt:TypeId} {pos:String} {after:Array Edge} {tab:List (Nat×Ty)}
theorem callG_relH {f:FuncId} {xs:List Operand} {As:List AV} {M M' N:List AObj} {r:AV} {hs:List Nat} (hc:FnG P f As M M' N r) (hh:Hand O hs (xs.map (av T)) As) (hM:HandO O hs M) (hnd:hs.Nodup) (hlen:M'.length=M.length)
 (hsz:∀(j:Nat) (a b:AObj),M[j]?=some a→M'[j]?=some b→b.size=a.size) (hM':Out M') (hN:Out N) {a:Act} {w:World} (hr:Rel n m G ⟨T,O⟩ a w):
 Calls P f (xs.map a.eval).toArray w fun e w'=>∃v,e=.returned v∧∃S ι F S' ι',RelAt n m G S ι F ⟨T,newO hs M' 0 O++N⟩ a w'∧VRel S' w' ι' (M'++N) r v []∧(∀ (j id:Nat),hs[j]?=some id→ι id=ι' j)∧(∀ k:Nat,ι (O.length+k)=ι' (M.length+k)):=by
 obtain ⟨S,ι,F,hr⟩:=hr
 obtain ⟨⟨fn,hf,hb,hnm⟩,hcall⟩:=hc
 obtain ⟨hlM,hatM⟩:=hM.at
 let S2:Nat→Prop:=fun b=>b<w.heap.size∧∀id∈hs,b ∉ F id
 let ιM:Nat→Spot:=fun j=>match hs[j]? with|some id=>ι id|none=>none
 let FM:Nat→List Nat:=fun j=>match hs[j]? with|some id=>F id|none=>[]
 have hιM:∀(j id:Nat),hs[j]?=some id→ιM j=ι id:=fun j id h=>by show (match hs[j]? with|some id=>ι id|none=>none)=_;rw [h]
 have hFM:∀(j id:Nat),hs[j]?=some id→FM j=F id:=fun j id h=>by show (match hs[j]? with|some id=>F id|none=>[])=_;rw [h]
 have hidl:∀(j id:Nat),hs[j]?=some id→id<O.length:=fun j id h=>by
  have hj:j<M.length:=by rw [←hlM];exact (List.getElem?_eq_some_iff.1 h).1
  obtain ⟨id',ob,e1,e2,_⟩:=hatM j _ (List.getElem?_eq_getElem hj)
  rw [h] at e1;cases e1;exact (List.getElem?_eq_some_iff.1 e2).1
 have hmem:∀id∈hs,∃j,j<M.length∧hs[j]?=some id:=fun id h=>by
  obtain ⟨j,hj,e⟩:=List.getElem_of_mem h
  exact ⟨j,by omega,by rw [List.getElem?_eq_getElem hj,e]⟩
 have hex:∀j,j<M.length→∃id,hs[j]?=some id:=fun j hj=>⟨hs[j],List.getElem?_eq_getElem (by omega)⟩
 have hSS:∀b,S b→S2 b:=fun b hb=>⟨hr.stable b hb,fun id hid hbf=>by
  obtain ⟨j,hj,e⟩:=hmem id hid
  exact (hr.foot id (hidl j id e) b hbf).2.1 hb⟩
 have hOM:ORel S2 w ιM M FM:=by
  refine ⟨fun j mb hj=>?_,fun j hj=>?_,fun i j hi hj hij b hb=>?_⟩
  ·obtain ⟨id,ob,e1,e2,e3,e4,e5,e6,e7⟩:=hatM j mb hj
   rw [hιM j id e1,hFM j id e1]
   have ho:=hr.objs.obj id ob e2
   unfold ObjAt at ho ⊢
   cases hs':ι id with
   |none=>rw [hs'] at ho;rw [←e3];exact ho
   |some p=>
    obtain ⟨b,k⟩:=p
    rw [hs'] at ho
    obtain ⟨cur',t',fz',f2,q1,q2,q3,q4,q5,q6,q7⟩:=ho
    refine ⟨cur',t',fz',f2,q1,q2,q3,by rw [←e3];exact q4,q5,fun e he=>?_,?_⟩
    ·rcases e7 with e7|e7
     ·rw [e7] at he;cases he
     ·exact q6 e (by rw [←e7];exact he)
    ·rw [←e3]
     exact still_all (by rw [e3];exact e4) q7 hSS (fun _ _=>rfl) (fun _ _=>rfl)
  ·obtain ⟨id,e⟩:=hex j hj
   rw [hFM j id e];exact hr.objs.nodup id (hidl j id e)
  ·obtain ⟨id1,e1⟩:=hex i hi
   obtain ⟨id2,e2⟩:=hex j hj
   rw [hFM i id1 e1] at hb;rw [hFM j id2 e2]
   exact hr.objs.apart id1 id2 (hidl i id1 e1) (hidl j id2 e2) (fun e=>hij (nodup_get hnd e1 (e▸e2))) b hb
 have hl:=hr.evals xs
 obtain ⟨f',hl2,hf'⟩:=hh.rel (S2:=S2) (ιM:=ιM) hM hιM hSS hr.objs (fun b h1 h2=>⟨h1,h2⟩) (fun id hid=>by obtain ⟨j,hj,e⟩:=hmem id hid;exact hidl j id e) hl (by simp)
 have hf0:f'=[]:=List.eq_nil_iff_forall_not_mem.2 fun b hb=>by simpa using hf' b hb
 subst hf0
 refine (hcall w S2 ιM FM (xs.map a.eval) (fun b h=>h.1) hOM (fun j hj b hb=>?_) hl2).mono fun e w' he=>?_
 ·obtain ⟨id,e⟩:=hex j hj
  rw [hFM j id e] at hb
  exact ⟨fun h=>h.2 id (List.mem_of_getElem? e) hb,(hr.foot id (hidl j id e) b hb).2.2⟩
 obtain ⟨v,S',ι',F',rfl,hS1,hS2,hS3,hι',hO',hF',hv,hk⟩:=he
 refine ⟨v,rfl,?_⟩
 have hold:∀b,b<w.heap.size→(∀ id∈hs,b ∉ F id)→w'.heap[b]?=w.heap[b]?:=fun b hb hn=>hk.block b hb (by
  rintro ⟨i,hi,hbf⟩
  obtain ⟨id,e⟩:=hex i hi
  rw [hFM i id e] at hbf
  exact hn id (List.mem_of_getElem? e) hbf)
 let S3:Nat→Prop:=fun b=>S b∨(S' b∧w.heap.size≤b)
 let ι3:Nat→Spot:=fun i=>if i<O.length then ι i else ι' (M.length+(i-O.length))
 let F3:Nat→List Nat:=fun i=>if i<O.length then (match findN hs i 0 with|some j=>F' j|none=>F i) else F' (M.length+(i-O.length))
 let O3:=newO hs M' 0 O++N
 have hl3:(newO hs M' 0 O).length=O.length:=newO_len hs M' 0 O
 have hO3lt:∀i,i<O.length→O3[i]?=(O[i]?).map (newOb hs M' i):=fun i hi=>by
  show (newO hs M' 0 O++N)[i]?=_
  rw [List.getElem?_append_left (by omega),newO_at,Nat.zero_add]
 have hO3ge:∀i,O.length≤i→O3[i]?=N[i-O.length]?:=fun i hi=>by
  show (newO hs M' 0 O++N)[i]?=_
  rw [List.getElem?_append_right (by omega),hl3]
 have hob:∀i ob,O[i]?=some ob→(newOb hs M' i ob).ep=ob.ep∧(newOb hs M' i ob).size=ob.size:=fun i ob h=>by
  unfold newOb
  cases hfd:findN hs i 0 with
  |none=>exact ⟨rfl,rfl⟩
  |some j=>
   cases hmj:M'[j]? with
   |none=>exact ⟨by simp [hmj],by simp [hmj]⟩
   |some mb=>
    obtain ⟨q,rfl,hq⟩:=findN_some hfd
    rw [Nat.zero_add] at hmj
    have hqm:q<M.length:=by rw [←hlM];exact (List.getElem?_eq_some_iff.1 hq).1
    obtain ⟨id',ob',e1,e2,_,_,_,e6,_⟩:=hatM q _ (List.getElem?_eq_getElem hqm)
    rw [hq] at e1;cases e1
    rw [h] at e2;cases e2
    simp only [Nat.zero_add,hmj,true_and]
    exact (hsz q _ _ (List.getElem?_eq_getElem hqm) hmj).trans e6
 have hlat:Later S w ι O S3 w' ι3 O3:=by
  refine ⟨fun b h=>.inl h,fun b hb=>hold b (hr.stable b hb) (hSS b hb).2,fun id ob h=>?_⟩
  have hlt:id<O.length:=(List.getElem?_eq_some_iff.1 h).1
  obtain ⟨h1,h2⟩:=hob id ob h
  exact ⟨newOb hs M' id ob,by rw [hO3lt id hlt,h];rfl,.inr ⟨h1,h2,by show (if _ then _ else _)=_;rw [if_pos hlt]⟩⟩
 have hF3f:∀(i j:Nat),i<O.length→findN hs i 0=some j→F3 i=F' j:=fun i j hi h=>by show (if _ then _ else _)=_;rw [if_pos hi,h]
 have hF3n:∀(i:Nat),i<O.length→findN hs i 0=none→F3 i=F i:=fun i hi h=>by show (if _ then _ else _)=_;rw [if_pos hi,h]
 have hF3g:∀(i:Nat),O.length≤i→F3 i=F' (M.length+(i-O.length)):=fun i hi=>by show (if _ then _ else _)=_;rw [if_neg (by omega)]
 have hlMN:(M'++N).length=M.length+N.length:=by rw [List.length_append,hlen]
 have hfind:∀(i j:Nat),findN hs i 0=some j→j<M.length∧hs[j]?=some i:=fun i j h=>by
  obtain ⟨q,rfl,hq⟩:=findN_some h
  rw [Nat.zero_add]
  exact ⟨by rw [←hlM];exact (List.getElem?_eq_some_iff.1 hq).1,hq⟩
 have hl3':O3.length=O.length+N.length:=by show (newO hs M' 0 O++N).length=_;rw [List.length_append,hl3]
 have hsrc:∀k,k<(M'++N).length→∀b∈F' k,((∃ id,id∈hs∧id<O.length∧b∈F id)∨w.heap.size≤b)∧¬S' b∧b<w'.heap.size:=fun k hk' b hb=>by
  obtain ⟨q1,q2,q3⟩:=hF' k hk' b hb
  refine ⟨?_,q2,q3⟩
  rcases q1 with ⟨i,hi,hbf⟩|q1
  ·obtain ⟨id,e⟩:=hex i hi
   rw [hFM i id e] at hbf
   exact .inl ⟨id,List.mem_of_getElem? e,hidl i id e,hbf⟩
  ·exact .inr q1
 have hnoS:∀k,k<(M'++N).length→∀b∈F' k,(G.M0 b∨G.w0.heap.size≤b)∧¬S3 b∧b<w'.heap.size:=fun k hk' b hb=>by
  obtain ⟨q1,q2,q3⟩:=hsrc k hk' b hb
  rcases q1 with ⟨id,hid,hlt,hbf⟩|q1
  ·obtain ⟨p1,p2,p3⟩:=hr.foot id hlt b hbf
   refine ⟨p1,?_,q3⟩
   rintro (h|⟨h,_⟩)
   ·exact p2 h
   ·exact q2 h
  ·refine ⟨.inr (by have:=hr.keeps.size;omega),?_,q3⟩
   rintro (h|⟨h,_⟩)
   ·have:=hr.stable b h;omega
   ·exact q2 h
 have hnotin:∀i,i<O.length→findN hs i 0=none→∀b∈F i,w'.heap[b]?=w.heap[b]?:=fun i hi h b hb=>hold b (hr.foot i hi b hb).2.2 fun id hid hbf=>by
  obtain ⟨j,hj,e⟩:=hmem id hid
  have hne:i≠id:=by rintro rfl;exact findN_none h hid
  exact hr.objs.apart i id hi (hidl j id e) hne b hb hbf
 have hcells:∀{cs:List AV} {us g},cs.all AV.still=true→Loc cs→LRel S' w' ι' (M'++N) cs us g→LRel S3 w' ι3 O3 cs us g:=fun h1 h2 hl=>
  Loc.rel h2 (still_all (S':=S') h1 hl (fun _ h=>h) (fun _ _=>rfl) (fun _ _=>rfl))
 refine ⟨S3,ι3,F3,S',ι',⟨hr.defers,hr.size,fun t=>(hr.tmps t).mono hlat (by simp),⟨fun i ob h=>?_,fun i h=>?_,fun i j hi hj hij b hb=>?_⟩,fun i h b hb=>?_,⟨fun b hb=>.inl (hr.base.1 b hb),?_⟩,?_,?_,fun i h=>?_,?_⟩,hv,fun j id e=>?_,fun k=>?_⟩
 ·have h:O3[i]?=some ob:=h
  by_cases hlt:i<O.length
  ·rw [hO3lt i hlt,List.getElem?_eq_getElem hlt] at h
   simp only [Option.map_some,Option.some.injEq] at h
   rw [show ι3 i=ι i from if_pos hlt]
   cases hfd:findN hs i 0 with
   |some j=>
    obtain ⟨hjm,hji⟩:=hfind i j hfd
    rw [hF3f i j hlt hfd]
    have hjM':j<M'.length:=by omega
    have hmb:M'[j]?=some M'[j]:=List.getElem?_eq_getElem hjM'
    have h':ob=⟨M'[j].cells,(O[i]).ep,M'[j].size,M'[j].ty⟩:=by
     rw [←h];unfold newOb;rw [hfd];simp only [hmb]
    have ho:=hO'.obj j M'[j] (by rw [List.getElem?_append_left hjM'];exact hmb)
    rw [hι' j hjm,hιM j i hji] at ho
    have hout:=hM'.at hmb
    rw [h']
    unfold ObjAt at ho ⊢
    cases hs':ι i with
    |none=>rw [hs'] at ho;exact ho
    |some p=>
     obtain ⟨b,k⟩:=p
     rw [hs'] at ho
     obtain ⟨cur',t',fz',f2,q1,q2,q3,q4,q5,q6,q7⟩:=ho
     exact ⟨cur',t',fz',f2,q1,q2,q3,q4,q5,q6,hcells hout.1 hout.2 q7⟩
   |none=>
    rw [hF3n i hlt hfd]
    have h':ob=O[i]:=by rw [←h];unfold newOb;rw [hfd]
    subst h'
    have ho:=hr.objs.obj i O[i] (List.getElem?_eq_getElem hlt)
    have key:=hnotin i hlt hfd
    unfold ObjAt at ho ⊢
    cases hs':ι i with
    |none=>rw [hs'] at ho;exact ho
    |some p=>
     obtain ⟨b,k⟩:=p
     rw [hs'] at ho
     obtain ⟨cur',t',fz',f2,q1,q2,q3,q4,q5,q6,q7⟩:=ho
     exact ⟨cur',t',fz',f2,q1,by rw [key b (by rw [q1];simp)];exact q2,q3,q4,q5,q6,q7.mono hlat fun b' hb'=>key b' (by rw [q1];simp [hb'])⟩
  ·rw [hO3ge i (by omega)] at h
   rw [show ι3 i=ι' (M.length+(i-O.length)) from if_neg hlt,hF3g i (by omega)]
   have ho:=hO'.obj (M.length+(i-O.length)) ob (by rw [List.getElem?_append_right (by omega),hlen,Nat.add_sub_cancel_left];exact h)
   have hout:=hN.at h
   unfold ObjAt at ho ⊢
   cases hs':ι' (M.length+(i-O.length)) with
   |none=>rw [hs'] at ho;exact ho
   |some p=>
    obtain ⟨b,k⟩:=p
    rw [hs'] at ho
    obtain ⟨cur',t',fz',f2,q1,q2,q3,q4,q5,q6,q7⟩:=ho
    exact ⟨cur',t',fz',f2,q1,q2,q3,q4,q5,q6,hcells hout.1 hout.2 q7⟩
 ·have h:i<O3.length:=h
  by_cases hlt:i<O.length
  ·cases hfd:findN hs i 0 with
   |some j=>rw [hF3f i j hlt hfd];exact hO'.nodup j (by have:=(hfind i j hfd).1;omega)
   |none=>rw [hF3n i hlt hfd];exact hr.objs.nodup i hlt
  ·rw [hF3g i (by omega)];exact hO'.nodup _ (by omega)
 ·have hi:i<O3.length:=hi
  have hj:j<O3.length:=hj
  have hpl:∀k,k<O3.length→(∃ q,q<(M'++N).length∧F3 k=F' q∧((q<M.length∧hs[q]?=some k)∨(O.length≤k∧q=M.length+(k-O.length))))∨(k<O.length∧findN hs k 0=none∧F3 k=F k):=fun k hk'=>by
   by_cases hlt:k<O.length
   ·cases hfd:findN hs k 0 with
    |some q=>obtain ⟨h1,h2⟩:=hfind k q hfd;exact .inl ⟨q,by omega,hF3f k q hlt hfd,.inl ⟨h1,h2⟩⟩
    |none=>exact .inr ⟨hlt,rfl,hF3n k hlt hfd⟩
   ·exact .inl ⟨_,by omega,hF3g k (by omega),.inr ⟨by omega,rfl⟩⟩
  have hcross:∀k q,k<O.length→findN hs k 0=none→q<(M'++N).length→∀b∈F k,b ∉ F' q:=fun k q hk' hn hq b hb hb'=>by
   rcases (hsrc q hq b hb').1 with ⟨id,hid,hlt,hbf⟩|h
   ·have hne:k≠id:=by rintro rfl;exact findN_none hn hid
    exact hr.objs.apart k id hk' hlt hne b hb hbf
   ·have:=(hr.foot k hk' b hb).2.2;omega
  rcases hpl i hi with ⟨q1,p1,p2,p3⟩|⟨p1,p2,p3⟩<;>rcases hpl j hj with ⟨q2,r1,r2,r3⟩|⟨r1,r2,r3⟩
  ·rw [p2] at hb;rw [r2]
   refine hO'.apart q1 q2 p1 r1 (fun e=>?_) b hb
   subst e
   rcases p3 with ⟨a1,a2⟩|⟨a1,a2⟩<;>rcases r3 with ⟨b1,b2⟩|⟨b1,b2⟩
   ·rw [a2] at b2;cases b2;exact hij rfl
   ·omega
   ·omega
   ·omega
  ·rw [p2] at hb;rw [r3];intro hb';exact hcross j q1 r1 r2 p1 b hb' hb
  ·rw [p3] at hb;rw [r2];exact hcross i q2 p1 p2 r1 b hb
  ·rw [p3] at hb;rw [r3];exact hr.objs.apart i j p1 r1 hij b hb
 ·have h:i<O3.length:=h
  by_cases hlt:i<O.length
  ·cases hfd:findN hs i 0 with
   |some j=>rw [hF3f i j hlt hfd] at hb;exact hnoS j (by have:=(hfind i j hfd).1;omega) b hb
   |none=>
    rw [hF3n i hlt hfd] at hb
    obtain ⟨q1,q2,q3⟩:=hr.foot i hlt b hb
    refine ⟨q1,?_,by have:=hk.size;omega⟩
    rintro (h'|⟨_,h'⟩)
    ·exact q2 h'
    ·omega
  ·rw [hF3g i (by omega)] at hb;exact hnoS _ (by omega) b hb
 ·rintro b (h'|⟨_,h'⟩)
  ·exact hr.base.2 b h'
  ·exact .inr (by have:=hr.keeps.size;omega)
 ·rintro b (h'|⟨h',_⟩)
  ·have:=hr.stable b h';have:=hk.size;omega
  ·exact hS3 b h'
 ·refine ⟨hk.os.trans hr.keeps.os,hk.tape.trans hr.keeps.tape,hk.output.trans hr.keeps.output,by have:=hr.keeps.size;have:=hk.size;omega,fun b hb hM0=>?_⟩
  rw [hold b (by have:=hr.keeps.size;omega) fun id hid hbf=>?_]
  ·exact hr.keeps.block b hb hM0
  ·obtain ⟨j,hj,e⟩:=hmem id hid
   rcases (hr.foot id (hidl j id e) b hbf).1 with h|h
   ·exact hM0 h
   ·omega
 ·have hm:m≤O.length:=hr.mle
  rw [show ι3 i=ι i from if_pos (by omega)];exact hr.spots i h
 ·have hm:m≤O.length:=hr.mle
  show m≤O3.length
  omega
 ·have hj:j<M.length:=by rw [←hlM];exact (List.getElem?_eq_some_iff.1 e).1
  rw [show ι3 id=ι id from if_pos (hidl j id e),hι' j hj,hιM j id e]
 ·show (if _ then _ else _)=_
  rw [if_neg (by omega)];congr 1;omega
mutual
def AV.reO (e i e2:Nat):AV→Option AV
 |.own 0 ep off len=>match Nat.beq e ep with
  |true=>some (.own i e2 off len)
  |false=>none
 |.agg ds=>match AV.reOL e i e2 ds with
  |some r=>some (.agg r)
  |none=>none
 |.tup ds=>match AV.reOL e i e2 ds with
  |some r=>some (.tup r)
  |none=>none
 |.any=>some .any
 |.sc v=>some (.sc v)
 |.nilS=>some .nilS
 |_=>none
def AV.reOL (e i e2:Nat):List AV→Option (List AV)
 |[]=>some []
 |V::Vs=>match AV.reO e i e2 V with
  |none=>none
  |some W=>match AV.reOL e i e2 Vs with
   |some r=>some (W::r)
   |none=>none
end
section
variable {S S3:Nat→Prop} {w:World} {ι ι3:Nat→Spot} {O3:List AObj} {i:Nat} {mb ob:AObj}
mutual
theorem AV.reO_rel (hι:ι3 i=ι 0) (hO:O3[i]?=some ob) (hs:ob.size=mb.size):∀(V W:AV),V.reO mb.ep i ob.ep=some W→∀{x f},VRel S w ι [mb] V x f→VRel S3 w ι3 O3 W x f
 |.own 0 ep off len,W,h,x,f,hv=>by
  rw [AV.reO] at h
  cases hb:Nat.beq mb.ep ep with
  |false=>rw [hb] at h;cases h
  |true=>
   rw [hb] at h;cases h
   have he:=Nat.eq_of_beq_eq_true hb
   cases hv with|own a b c r=>cases r;cases a;exact .own hO (Nat.le_refl _) (fun _=>by rw [hι,hs];exact c he.symm) .nil
 |.own (k+1) ep off len,W,h,x,f,hv=>by simp [AV.reO] at h
 |.agg ds,W,h,x,f,hv=>by
  rw [AV.reO] at h
  cases hr:AV.reOL mb.ep i ob.ep ds with
  |none=>rw [hr] at h;cases h
  |some r=>
   rw [hr] at h;cases h
   cases hv with|agg a r'=>cases r';exact .agg (AV.reOL_rel hι hO hs ds r hr a) .nil
 |.tup ds,W,h,x,f,hv=>by
  rw [AV.reO] at h
  cases hr:AV.reOL mb.ep i ob.ep ds with
  |none=>rw [hr] at h;cases h
  |some r=>
   rw [hr] at h;cases h
   cases hv with|tup a r'=>cases r';exact .tup (AV.reOL_rel hι hO hs ds r hr a) .nil
 |.any,W,h,x,f,hv=>by rw [AV.reO] at h;cases h;cases hv with|any r=>cases r;exact .any .nil
 |.sc _,W,h,x,f,hv=>by rw [AV.reO] at h;cases h;cases hv with|sc r=>cases r;exact .sc .nil
 |.nilS,W,h,x,f,hv=>by rw [AV.reO] at h;cases h;cases hv with|nilS r=>cases r;exact .nilS .nil
 |.imm _ _ _,W,h,x,f,hv=>by simp [AV.reO] at h
 |.fre _ _ _,W,h,x,f,hv=>by simp [AV.reO] at h
 |.ptr _ _ _,W,h,x,f,hv=>by simp [AV.reO] at h
 |.iptr _ _,W,h,x,f,hv=>by simp [AV.reO] at h
 |.fn _ _,W,h,x,f,hv=>by simp [AV.reO] at h
 |.ifc _ _,W,h,x,f,hv=>by simp [AV.reO] at h
theorem AV.reOL_rel (hι:ι3 i=ι 0) (hO:O3[i]?=some ob) (hs:ob.size=mb.size):∀(Vs Ws:List AV),AV.reOL mb.ep i ob.ep Vs=some Ws→∀{xs f},LRel S w ι [mb] Vs xs f→LRel S3 w ι3 O3 Ws xs f
 |[],Ws,h,xs,f,hl=>by rw [AV.reOL] at h;cases h;cases hl;exact .nil
 |V::Vs,Ws,h,xs,f,hl=>by
  rw [AV.reOL] at h
  cases hv:AV.reO mb.ep i ob.ep V with
  |none=>rw [hv] at h;cases h
  |some W=>
   rw [hv] at h
   cases hr:AV.reOL mb.ep i ob.ep Vs with
   |none=>simp only [hr] at h;cases h
   |some r=>
    simp only [hr] at h;cases h
    obtain ⟨v,vs',f1,f2,rfl,hv1,hr1,rfl⟩:=hl.uncons
    exact LRel.cons (AV.reO_rel hι hO hs V W hv hv1) (AV.reOL_rel hι hO hs Vs r hr hr1)
end
end
theorem newOb_no {i k:Nat} {mb x:AObj} (h:¬i=k):newOb [i] [mb] k x=x:=by
 have hb:i.beq k=false:=by
  cases hh:i.beq k with
  |false=>rfl
  |true=>exact absurd (Nat.eq_of_beq_eq_true hh) h
 simp [newOb,findN,hb]
theorem newO_one {i:Nat} {mb ob:AObj}:∀{O:List AObj} {k:Nat},k≤i→O[i-k]?=some ob→newO [i] [mb] k O=O.set (i-k) ⟨mb.cells,ob.ep,mb.size,mb.ty⟩
 |[],k,_,h=>by simp at h
 |x::O,k,hk,h=>by
  by_cases e:i=k
  ·subst e
   rw [Nat.sub_self] at h ⊢
   simp only [List.getElem?_cons_zero,Option.some.injEq] at h
   subst h
   rw [newO,List.set_cons_zero]
   have h1:newOb [i] [mb] i x=⟨mb.cells,x.ep,mb.size,mb.ty⟩:=by simp [newOb,findN]
   have h2:∀(O:List AObj) (k:Nat),i<k→newO [i] [mb] k O=O:=fun O=>by
    induction O with
    |nil=>intro k _;rfl
    |cons y O ih=>intro k hk;rw [newO,ih (k+1) (by omega)];congr 1;exact newOb_no (by omega)
   rw [h1,h2 O (i+1) (by omega)]
  ·obtain ⟨q,hq⟩:∃q,i-k=q+1:=⟨i-k-1,by omega⟩
   rw [hq,List.getElem?_cons_succ] at h
   rw [newO,hq,List.set_cons_succ,newO_one (k:=k+1) (by omega) (by rw [show i-(k+1)=q by omega];exact h),show i-(k+1)=q by omega]
   congr 1
   exact newOb_no e
theorem WpL.callO {f:FuncId} {xs:List Operand} {ats:Array TypeId} {As:List AV} {mb mb' ob:AObj} {r r':AV} {i d:Nat} (hc:FnG P f As [mb] [mb'] [] r) (hh:HandM O [i] [mb] (xs.map (av T)) As) (hM:HandO O [i] [mb]) (ho:O[i]?=some ob)
 (hsz:mb'.size=mb.size) (hM':Out [mb']) (hre:r.reO mb'.ep i ob.ep=some r') (hn:d<n) (h:WpL P n m G false ops l ⟨(d,r')::T,O.set i ⟨mb'.cells,ob.ep,mb'.size,mb'.ty⟩⟩ Q):
 WpL P n m G false ops ({dst:=some d,op:=.call {callee:=.value (.func f),args:=xs.toArray,argTypes:=ats},type:=tt,pos:=pos,after:=after,guard:=none}::l) ⟨T,O⟩ Q:=
 WpL.op rfl (fun a w hr=>by
  have hcl:=callG_relH hc hh hM (by simp) rfl (fun j x y hx hy=>by
   match j with
   |0=>cases hx;cases hy;exact hsz
   |j+1=>simp at hx) hM' Out.nil hr
  obtain ⟨⟨fn,hf,hbd,hnm⟩,_⟩:=hc
  have hex:(execOp a.eval {dst:=some d,op:=.call {callee:=.value (.func f),args:=xs.toArray,argTypes:=ats},type:=tt,pos:=pos,after:=after,guard:=none}).run P w=.ok (.enter f (xs.map a.eval).toArray) w:=by
   simp only [execOp,resolve,Act.eval,Deferred.ofValue,invoke,callFunc,Sem.run_bind,Sem.run_pure,Result.andThen_ok,program,Sem.run,hf,hnm,hbd,Bool.false_eq_true,if_false]
   simp
  unfold Oper.wp
  rw [hex]
  refine hcl.mono fun e w' ⟨v,he,S,ι,F,S',ι',hr',hv,h1,h2⟩=>?_
  subst he
  have hio:i<O.length:=(List.getElem?_eq_some_iff.1 ho).1
  rw [newO_one (ob:=ob) (Nat.zero_le i) (by rw [Nat.sub_zero];exact ho),Nat.sub_zero,List.append_nil] at hr'
  exact ⟨S,ι,F,hr'.put hn (AV.reO_rel (mb:=mb') (ob:=⟨mb'.cells,ob.ep,mb'.size,mb'.ty⟩) (h1 0 i rfl) (List.getElem?_set_self hio) rfl r r' hre hv)⟩) h
end
end Go.Abs


namespace Go.Abs
open Go
section
variable {P:Program} {n m:Nat} {G:Ctx} {ops:Array Oper} {T0:List (Nat×AV)} {O Oi:List AObj} {keep sh:List Nat}
end
section
variable {P:Program} {n m:Nat} {G:Ctx} {ops:Array Oper} {T0:List (Nat×AV)} {O:List AObj}
end
theorem WpA.cut {P:Program} {n m:Nat} {G:Ctx} {c:Code} {σ σ1:St} {Q:Exit→St→Prop} (h1:WpA P n m G c σ (fun e s=>e=.normal∧Weak m s σ1)) (h2:Q .normal σ1):WpA P n m G c σ Q:=fun a w hr=>by
 refine wp_mono (h1 a w hr) fun e a' w' hh=>?_
 obtain ⟨σ',⟨he,hw⟩,hR⟩:=hh
 subst he
 exact ⟨σ1,h2,hw n G a' w' hR⟩
end Go.Abs


namespace Go.Abs
open Go
theorem lrel_ints2 {S w ι O}:∀{xs:List Int} {us f},LRel S w ι O (ints xs) us f→us=xs.map (Value.int .i64)∧f=[]
 |[],us,f,h=>by cases h;exact ⟨rfl,rfl⟩
 |x::xs,us,f,h=>by
  cases h with
  |sc h=>obtain ⟨h1,h2⟩:=lrel_ints2 h;subst h1 h2;exact ⟨rfl,rfl⟩
theorem lrel_ints3 {S w ι O}:∀(xs:List Int),LRel S w ι O (ints xs) (xs.map (Value.int .i64)) []
 |[]=>.nil
 |x::xs=>.sc (lrel_ints3 xs)
theorem RelAt.pre {n m G S ι F T O a w} (hr:RelAt n m G S ι F ⟨T,O⟩ a w) {id j ep sz:Nat} {te:Option TypeId} {xs:List Int} (ho:O[id]?=some ⟨ints xs,ep,sz,te⟩):RelAt n m G S ι F ⟨T,O.set id ⟨ints (xs.take j),ep,sz,te⟩⟩ a w:=by
 have hid:id<O.length:=(List.getElem?_eq_some_iff.1 ho).1
 have hlat:Later S w ι O S w ι (O.set id ⟨ints (xs.take j),ep,sz,te⟩):=⟨fun _ h=>h,fun _ _=>rfl,fun i ob hi=>by
  by_cases e:i=id
  ·subst e;rw [ho] at hi;cases hi
   exact ⟨⟨ints (xs.take j),ep,sz,te⟩,by rw [List.getElem?_set_self hid],.inr ⟨rfl,rfl,rfl⟩⟩
  ·exact ⟨ob,by rw [List.getElem?_set,if_neg (fun h=>e h.symm)];exact hi,.inr ⟨rfl,rfl,rfl⟩⟩⟩
 refine ⟨hr.defers,hr.size,fun t=>(hr.tmps t).mono hlat (by simp),⟨fun i ob hi=>?_,fun i hi=>hr.objs.nodup i (by simpa using hi),fun i j' hi hj=>hr.objs.apart i j' (by simpa using hi) (by simpa using hj)⟩,fun i hi=>hr.foot i (by simpa using hi),hr.base,hr.stable,hr.keeps,hr.spots,by have:=hr.mle;simpa using this⟩
 have hi:(O.set id ⟨ints (xs.take j),ep,sz,te⟩)[i]?=some ob:=hi
 by_cases e:i=id
 ·subst e
  rw [List.getElem?_set_self hid] at hi;cases hi
  have h:=hr.objs.obj i _ ho
  unfold ObjAt at h ⊢
  cases hs:ι i with
  |none=>
   rw [hs] at h
   have h1:ints xs=[]:=h.1
   have:xs=[]:=by cases xs with|nil=>rfl|cons x xs=>cases h1
   subst this
   exact ⟨by simp [ints],h.2⟩
  |some p=>
   obtain ⟨b,k⟩:=p
   rw [hs] at h
   obtain ⟨cur,t,fz,f',h1,h2,h3,h4,h5,h6,h7⟩:=h
   obtain ⟨h8,h9⟩:=lrel_ints2 h7
   subst h9
   have hle:(xs.take j).length≤xs.length:=List.length_take_le' _ _
   have h4':xs.length≤k:=by simpa [ints] using h4
   refine ⟨cur,t,fz,[],h1,h2,h3,by show (ints (xs.take j)).length≤k;simp [ints];omega,h5,h6,?_⟩
   have e2:cur.toList.take (ints (xs.take j)).length=(xs.take j).map (Value.int .i64):=by
    have e3:(ints (xs.take j)).length=min j xs.length:=by simp [ints]
    have e4:cur.toList.take xs.length=xs.map (Value.int .i64):=by simpa [ints] using h8
    rw [e3,←List.take_take,e4,List.map_take]
   show LRel S w ι _ (ints (xs.take j)) (cur.toList.take (ints (xs.take j)).length) []
   rw [e2];exact lrel_ints3 _
 ·rw [List.getElem?_set,if_neg (fun h=>e h.symm)] at hi
  have h:=hr.objs.obj i ob hi
  unfold ObjAt at h ⊢
  cases hs:ι i with
  |none=>rw [hs] at h;exact h
  |some p=>
   obtain ⟨b,k⟩:=p
   rw [hs] at h
   obtain ⟨cur,t,fz,f',h1,h2,h3,h4,h5,h6,h7⟩:=h
   exact ⟨cur,t,fz,f',h1,h2,h3,h4,h5,h6,h7.mono hlat (fun _ _=>rfl)⟩
theorem Weak.pre {m id j ep sz:Nat} {T:List (Nat×AV)} {O:List AObj} {te:Option TypeId} {xs:List Int} (ho:O[id]?=some ⟨ints xs,ep,sz,te⟩):Weak m ⟨T,O⟩ ⟨T,O.set id ⟨ints (xs.take j),ep,sz,te⟩⟩:=by
 rintro n G a w ⟨S,ι,F,hr⟩
 exact ⟨S,ι,F,hr.pre ho⟩
section
variable {P:Program} {n m:Nat} {G:Ctx} {T:List (Nat×AV)} {O:List AObj} {Q:Exit→St→Prop} {ops:Array Oper} {l:List Oper} {d:Nat} {md:Bool} {tt:TypeId} {pos:String} {after:Array Edge} {tab:List (Nat×Ty)}
end
theorem split1 {Ov:List AObj} {a:AObj} (h0:Ov[0]?=some a):∃R,Ov=a::R:=by
 match Ov,h0 with
 |a'::R,h0=>simp at h0;exact ⟨R,by rw [h0]⟩
 |[],h=>simp at h
section
variable {m:Nat} {T:List (Nat×AV)} {O:List AObj} {tab:List (Nat×Ty)} {e':Exit} {r1 r2:ResultVar} {r1v r2v r:AV} {N:List AObj}
end
end Go.Abs


namespace Go.Proofs.YtndflfipaddfoaaGreat
open Go Go.Abs
attribute [local irreducible] WpA WpL Rnd Blk Abs.Seq Abs.Fin Abs.FinG FnC FnG Only
theorem alphaPos {q:Int} (h:0≤q∧q≤51):0<alphaL q:=by unfold alphaL;rw [if_pos h];omega
theorem frOkNat {w h:Nat} {p:List Int} (hf:FrameOk (w:Int) (h:Int) p):FrOkN w h p:=by
 have hs:=hf.1
 have hl:=hf.2.1
 refine ⟨by omega,by omega,?_,hf.2.2⟩
 have:(p.length:Int)=((w*h:Nat):Int):=by rw [hl];simp
 omega
section
attribute [-instance] l20Across_s l20Down_s
attribute [local irreducible] run runF vx vy hx hy edg
theorem DeblockRef_so (w h:Nat) (p:List Int) (q:Int) (hl:p.length≤1099511627776) (hok:FrameOk w h p∧0≤q∧q≤51) (hnk:FrOkN w h p):Fn 241 [FrA w h p,I q] [IN (debL q w h p)] (FrOwn 0 w h p.length):=by
 have hf:=hok.1
 have hd:=decide_eq_true hf
 have ha:=alphaPos ⟨hok.2.1,hok.2.2⟩
 have ha2:decide (alphaL q=0)=false:=decide_eq_false (by omega)
 obtain ⟨⟨h1,h2,h3⟩,⟨h4,h5,h6⟩,hpl2,hin⟩:=id hnk
 have hwh:w*h≤64*64:=Nat.mul_le_mul (by omega) (by omega)
 have hA:=across_eq (q:=q) h1 0 h p
 have hv1:=run_len q (vy w 0 h) p
 have hv2:=run_rg (q:=q) (E:=vy w 0 h) hin
 have hac:=l20Across_s.ok w h p p (w:Int) (h:Int) q 0 h ⟨hnk,hpl2,Nat.zero_le _,Nat.le_refl _⟩
 rw [Nat.sub_zero,hA] at hac
 generalize hP:run q (vy w 0 h) p=P at*
 refine FnC.of_body tabOk Tryz.func241 Tryz.ntmps241 rfl (by decide +kernel) (by simp) fun G=>?_
 refine goR (r:=?_);and_intros<;>intros<;>try exact True.intro
 all_goals first|contradiction|omega|skip
 try dsimp only [List.append,List.cons_append,List.nil_append]
 refine WpA.cut (σ1:=⟨[(1,I q),(2,.ptr 0 0 0),(4,.ptr 1 0 0),(5,.ptr 3 0 0)],[FrO w h p,⟨[I 0,I 0,.nilS],0,0,none⟩,IN P,⟨[I w,I h,.own 2 0 0 p.length],0,0,none⟩]⟩) ?_ ?_
 ·apply WpA.regionRF (O:=[FrO w h p,⟨[I 0,I 0,.nilS],0,0,none⟩]) (Or:=[]) (O1:=[FrO w h p,⟨[I 0,I 0,.nilS],0,0,none⟩,⟨ints P,1,1,none⟩,⟨[I 0,I 0,.nilS],1,0,none⟩,deadO,deadO]) 8 2 [] [0] rfl mixed (by decide +kernel)
  ·exact rfl
  ·apply HeadR.consF .none rfl
   ·exact rfl
   ·exact rfl
   ·exact in1
   ·exact rfl
   ·exact rfl
   apply HeadR.consF .none rfl
   ·exact rfl
   ·exact rfl
   ·exact in1
   ·exact rfl
   ·exact rfl
   apply HeadR.consF (V:=.agg [I w,I h,.own 2 1 0 p.length]) (.put 0 ⟨ints p,1,1,some 3⟩) rfl
   ·exact rfl
   ·exact rfl
   ·intro Tv Ov hc2 hp9 hd9 hk9
    refine K.call ?_
    refine WpL.callF (l18Copy_s.ok (w:Int) (h:Int) p hl) snapA locA outA (cnt_some _ 0) rfl rfl (by decide) ?_
    apply WpL.putV (p:=0)
    ·exact .agg (.keep rfl rfl (.keep rfl rfl (.own (by first|rfl|exact Nat.zero_add _) .nil))) .nil
    ·exact hp9 0 _ rfl
    ·exact Nat.zero_le _
    ·exact rfl
    ·exact still_ints _
   ·exact rfl
   ·exact rfl
   apply HeadR.consF .none rfl
   ·exact rfl
   ·exact rfl
   ·exact in1
   ·exact rfl
   ·exact rfl
   apply HeadR.consF .none rfl
   ·exact rfl
   ·exact rfl
   ·exact in1
   ·exact rfl
   ·exact rfl
   apply HeadR.consF .none rfl
   ·exact rfl
   ·exact rfl
   ·exact in1
   ·exact rfl
   ·exact rfl
   apply HeadR.consF (V:=.agg [I w,I h,.own 2 1 0 p.length]) (.step 0 ⟨ints P,1,1,none⟩) rfl
   ·exact rfl
   ·exact rfl
   ·intro Tv Ov hc2 hp9 hd9 hk9
    obtain ⟨R0,rfl⟩:=split1 (hp9 0 _ rfl)
    refine K.call ?_
    refine WpL.callO (i:=2) hac handA handOA rfl rfl outA rfl (by decide) ?_
    exact WpL.nil (Only.mk rfl)
   ·exact rfl
   ·exact rfl
   apply HeadR.consF (V:=.ptr 3 1 0) (.put 1 ⟨[I 0,I 0,.nilS],1,0,none⟩) rfl
   ·exact rfl
   ·exact rfl
   ·intro Tv Ov hc2 hp9 hd9 hk9
    refine WpL.allocStruct tabOk rfl (nid_len _ 0) (by decide) ?_
    apply WpL.putV (p:=1)
    ·exact .ptr (by first|rfl|exact Nat.zero_add _) .nil
    ·exact hp9 1 _ rfl
    ·exact Nat.zero_le _
    ·exact rfl
    ·exact rfl
   ·exact rfl
   ·exact rfl
   exact HeadR.nil
  ·exact rfl
  ·exact rfl
  ·exact rfl
  ·exact rfl
  ·exact rfl
  ·exact rfl
  ·exact rfl
  refine goR (r:=?_);and_intros<;>intros<;>try exact True.intro
  all_goals first|contradiction|omega
 refine goR (r:=?_);and_intros<;>intros<;>try exact True.intro
 all_goals first|contradiction|omega|skip
 refine WpA.loop (fun k:Nat=>⟨[(1,I q),(2,.ptr 0 0 0),(4,.ptr 1 0 0),(5,.ptr 3 0 0),(6,.ptr 5 0 0),(7,I (8*(k:Int)+8))],[FrO w h p,⟨[I 0,I 0,.nilS],0,0,none⟩,IN P,⟨[I w,I h,.own 2 0 0 p.length],0,0,none⟩,IN (runF q P (hy w k) P),⟨[I w,I h,.own 4 0 0 p.length],0,0,none⟩]⟩) (fun k=>k≤h/8-1) (fun k=>h/8-1-k) 0 (Nat.zero_le _) (go (r:=?_)) (fun k hk=>?_)
 ·and_intros<;>first|exact True.intro|rfl|(rw [hy_nil,runF_nil];done)
 have hkl:=runF_len q P (hy w k) P
 have hPn:FrOkN w h P:=⟨⟨h1,h2,h3⟩,⟨h4,h5,h6⟩,by rw [hv1];exact hpl2,hv2⟩
 by_cases hlt:k<h/8-1
 ·have hst:runF q P (hy w (k+1)) P=runF q P (hx w (8*k+8) w) (runF q P (hy w k) P):=by rw [hy_succ,runF_app]
  have hdn:=l20Down_s.ok w h P (runF q P (hy w k) P) (w:Int) (h:Int) q (8*k+8) ⟨hPn,by rw [hkl,hv1];exact hpl2,by omega,by omega⟩
  rw [←hst,hkl,hv1] at hdn
  have hkl2:=runF_len q P (hy w (k+1)) P
  generalize hX2:runF q P (hy w (k+1)) P=X2 at*
  generalize runF q P (hy w k) P=X at*
  refine goR (r:=?_);and_intros<;>intros<;>try exact True.intro
  all_goals first|contradiction|omega|skip
  refine K.call ?_
  refine WpL.callO (i:=4) hdn handA handOA rfl rfl outA rfl (by decide) ?_
  refine goR (r:=?_);and_intros<;>intros<;>try exact True.intro
  all_goals first|contradiction|omega|exact hX2.symm
 ·obtain rfl:k=h/8-1:=by omega
  rw [down_eq] at*
  have hdb:debL q w h p=run q (hy w (h/8-1)) P:=by rw [←hP];rfl
  rw [hdb]
  refine go (r:=?_);and_intros<;>intros<;>try exact True.intro
  all_goals first|contradiction|omega
end
instance DeblockRef_s:Con 241 (∀ (W H:Int) (p:List Int) (q:Int),p.length≤1099511627776→Fn 241 [FrA W H p,I q] [IN (dbL W H q p)] (FrOwn 0 W H p.length)):=⟨fun W H p q hl=>by
 by_cases hok:FrameOk W H p∧0≤q∧q≤51
 ·obtain ⟨⟨h1,h2,h3,h4,h5,h6⟩,hpl,hin⟩:=hok.1
  obtain ⟨w,rfl⟩:∃w:Nat,W=w:=⟨W.toNat,by omega⟩
  obtain ⟨h,rfl⟩:∃h:Nat,H=h:=⟨H.toNat,by omega⟩
  have e:dbL (w:Int) (h:Int) q p=debL q w h p:=by unfold dbL;rw [if_pos hok];rfl
  rw [e]
  exact DeblockRef_so w h p q hl hok (frOkNat hok.1)
 ·rw [dbL_no hok]
  by_cases hf:FrameOk W H p
  ·have hd:=decide_eq_true hf
   have hq:¬(0≤q∧q≤51):=fun hq=>hok ⟨hf,hq⟩
   have ha:alphaL q=0:=by unfold alphaL;rw [if_neg hq]
   refine FnC.of_body tabOk Tryz.func241 Tryz.ntmps241 rfl (by decide +kernel) (by simp) fun G=>?_
   refine go (r:=?_);and_intros<;>intros<;>try exact True.intro
   all_goals first|contradiction|omega
  ·have hd:=decide_eq_false hf
   refine FnC.of_body tabOk Tryz.func241 Tryz.ntmps241 rfl (by decide +kernel) (by simp) fun G=>?_
   refine go (r:=?_);and_intros<;>intros<;>try exact True.intro
   all_goals first|contradiction|omega⟩
end Go.Proofs.YtndflfipaddfoaaGreat


namespace Go.Proofs.YtndflfipaddfoaaGreat
open Go Go.Abs
attribute [local irreducible] WpA WpL Rnd Blk Abs.Seq Abs.Fin Abs.FinG FnC FnG Only
theorem recL_yes {p r:List Int} (h:TwoOk p r):recL p r=tabL (recF p r) p.length:=by unfold recL;rw [if_pos h]
theorem recL_no {p r:List Int} (h:¬TwoOk p r):recL p r=[]:=by unfold recL;rw [if_neg h]
theorem rec_snoc (p r:List Int) (k:Nat) {v:Int} (h:v=recF p r k):tabL (recF p r) k++[v]=tabL (recF p r) (k+1):=by rw [tabL_snoc,h]
instance Recon_c:Con 161 (∀ p r:List Int,p.length≤1099511627776∧r.length≤1099511627776→Fn 161 [IL p,IL r] [XI (recL p r)] (.own 0 0 0 (recL p r).length)):=⟨fun p r hl=>by
 have hsp:=side_pos p.length
 by_cases h:TwoOk p r
 ·obtain ⟨h1,h2,h3⟩:=id h
  have e:=recL_yes h
  refine FnC.of_body tabOk Tryz.func161 Tryz.ntmps161 rfl (by decide +kernel) (by simp) fun G=>?_
  refine go (r:=?_);and_intros<;>intros<;>try exact True.intro
  all_goals first|contradiction|omega|skip
  refine WpA.loop (fun k:Nat=>⟨[(1,IL r),(5,.own 0 0 0 k),(25,IL p),(26,I p.length),(27,I k)],[XI (tabL (recF p r) k)]⟩) (fun k=>k≤p.length) (fun k=>p.length-k) 0 (by omega) (go (r:=?_)) (fun k hk=>?_)
  ·simp [tabL]
  have hkl:=tabL_len (recF p r) k
  have g1:=fun hh=>in_get h3 (k:=k) hh
  by_cases hlt:k<p.length
  ·have g2:=g1 hlt
   refine go (r:=?_);and_intros<;>intros<;>try exact True.intro
   all_goals first|contradiction|omega|(exact rec_snoc p r k (by unfold recF;omega))
  ·obtain rfl:k=p.length:=by omega
   refine go (r:=?_);and_intros<;>intros<;>try exact True.intro
   all_goals first|contradiction|omega|(rw [e,tabL_len];done)|(rw [e];done)
 ·have e:=recL_no h
  have hno:0<side p.length→p.length=r.length→¬In p 0 255:=fun a b c=>h ⟨a,b,c⟩
  refine FnC.of_body tabOk Tryz.func161 Tryz.ntmps161 rfl (by decide +kernel) (by simp) fun G=>?_
  by_cases ha:0<side p.length
  ·by_cases hb:p.length=r.length
   ·have hc:=hno ha hb
    refine go (r:=?_);and_intros<;>intros<;>try exact True.intro
    all_goals first|contradiction|omega|(rw [e];done)|(rw [e];rfl)
   ·refine go (r:=?_);and_intros<;>intros<;>try exact True.intro
    all_goals first|contradiction|omega|(rw [e];done)|(rw [e];rfl)
  ·have hs0:side p.length=0:=by have:=side_cases p.length;omega
   refine go (r:=?_);and_intros<;>intros<;>try exact True.intro
   all_goals first|contradiction|omega|(rw [e];done)|(rw [e];rfl)⟩
instance Recon_s:Con 280 (∀ p r:List Int,p.length≤1099511627776∧r.length≤1099511627776→Fn 280 [IL p,IL r] [XI (recL p r)] (.own 0 0 0 (recL p r).length)):=⟨fun p r hl=>by
 have hsp:=side_pos p.length
 by_cases h:TwoOk p r
 ·obtain ⟨h1,h2,h3⟩:=id h
  have e:=recL_yes h
  have hd:=decide_eq_true h
  refine FnC.of_body tabOk Tryz.func280 Tryz.ntmps280 rfl (by decide +kernel) (by simp) fun G=>?_
  refine go (r:=?_);and_intros<;>intros<;>try exact True.intro
  refine WpA.loop (fun k:Nat=>⟨[(0,IL p),(1,IL r),(5,.own 0 0 0 k),(6,I k)],[XI (tabL (recF p r) k)]⟩) (fun k=>k≤p.length) (fun k=>p.length-k) 0 (by omega) (go (r:=?_)) (fun k hk=>?_)
  ·simp [tabL]
  have hkl:=tabL_len (recF p r) k
  have g1:=fun hh=>in_get h3 (k:=k) hh
  by_cases hlt:k<p.length
  ·have g2:=g1 hlt
   refine go (r:=?_);and_intros<;>intros<;>try exact True.intro
   all_goals first|contradiction|omega|(exact rec_snoc p r k (by unfold recF;omega))
  ·obtain rfl:k=p.length:=by omega
   refine go (r:=?_);and_intros<;>intros<;>try exact True.intro
   all_goals first|contradiction|omega|(rw [e,tabL_len];done)|(rw [e];done)
 ·have e:=recL_no h
  have hd:=decide_eq_false h
  refine FnC.of_body tabOk Tryz.func280 Tryz.ntmps280 rfl (by decide +kernel) (by simp) fun G=>?_
  refine go (r:=?_);and_intros<;>intros<;>try exact True.intro
  refine WpA.loop (fun k:Nat=>⟨[(0,IL p),(1,IL r),(5,.own 0 0 0 0),(6,I 0)],[XI []]⟩) (fun k=>k≤0) (fun k=>0) 0 (by omega) (go (r:=trivial)) (fun k hk=>?_)
  refine go (r:=?_);and_intros<;>intros<;>try exact True.intro
  all_goals first|contradiction|omega|(rw [e];done)|(rw [e];rfl)⟩
end Go.Proofs.YtndflfipaddfoaaGreat


namespace Go.Proofs.YtndflfipaddfoaaGreat
open Go Go.Abs
attribute [local irreducible] WpA WpL Rnd Blk Abs.Seq Abs.Fin Abs.FinG FnC FnG Only
theorem setK_zero (W x y n:Int) (l p:List Int):setK W x y n l p 0=p:=rfl
attribute [local irreducible] setK
instance SetBlock_s:Con 144 (∀ (W H:Int) (p:List Int) (x y:Int) (l:List Int),p.length≤1099511627776∧l.length≤1099511627776→Fn 144 [FrA W H p,I x,I y,IL l] [XI (setL W H p x y l)] (.tup [FrOwn 0 W H (setL W H p x y l).length,B (decide (SetOk W H p x y l))])):=⟨fun W H p x y l hl=>by
 have hlen:=setL_len W H p x y l
 by_cases h:SetOk W H p x y l
 ·have e:=setL_yes h
  have hd:=decide_eq_true h
  obtain ⟨h1,h2⟩:=id h
  have h1s:=h1
  rcases h1.2.1 with e4|e4
  ·have hll:l.length=16:=by have:=side_cases l.length;omega
   have e2:setL W H p x y l=setK W x y 4 l p 16:=by rw [e,e4,hll]
   rw [hlen,e2,hd]
   rw [e4] at h1
   refine FnC.of_body tabOk Tryz.func144 Tryz.ntmps144 rfl (by decide +kernel) (by simp) fun G=>?_
   refine goR (r:=?_);and_intros<;>intros<;>try exact True.intro
   all_goals first|contradiction|(exact absurd h1s (by assumption))|skip
   refine WpA.loop (fun k:Nat=>⟨[(1,I x),(2,I y),(3,IL l),(4,.ptr 0 0 0),(8,.ptr 1 0 0),(10,I 4),(11,.ptr 3 0 0),(12,I k)],[FrO W H p,⟨[I 0,I 0,.nilS],0,0,none⟩,XI (setK W x y 4 l p k),⟨[I W,I H,.own 2 0 0 p.length],0,0,none⟩]⟩) (fun k=>k≤16) (fun k=>16-k) 0 (by omega) (go (r:=?_)) (fun k hk=>?_)
   ·and_intros<;>first|exact True.intro|rfl|(rw [setK_zero];done)|exact (setK_zero ..).symm
   have hkl:=setK_len W x y 4 l p k
   by_cases hlt:k<16
   ·obtain ⟨⟨b1,b2,b3,b4⟩,b5,b6,b7,b8⟩:=px_in h1 (i:=k) (by omega)
    unfold pxI at b7 b8
    refine go (r:=?_);and_intros<;>intros<;>try exact True.intro
    all_goals first|contradiction|omega|exact set_step ..
   ·obtain rfl:k=16:=by omega
    refine go (r:=?_);and_intros<;>intros<;>try exact True.intro
    all_goals first|contradiction|exact hd|exact hd.symm
  ·have hll:l.length=64:=by have:=side_cases l.length;omega
   have e2:setL W H p x y l=setK W x y 8 l p 64:=by rw [e,e4,hll]
   rw [hlen,e2,hd]
   rw [e4] at h1
   refine FnC.of_body tabOk Tryz.func144 Tryz.ntmps144 rfl (by decide +kernel) (by simp) fun G=>?_
   refine goR (r:=?_);and_intros<;>intros<;>try exact True.intro
   all_goals first|contradiction|(exact absurd h1s (by assumption))|skip
   refine WpA.loop (fun k:Nat=>⟨[(1,I x),(2,I y),(3,IL l),(4,.ptr 0 0 0),(8,.ptr 1 0 0),(10,I 8),(11,.ptr 3 0 0),(12,I k)],[FrO W H p,⟨[I 0,I 0,.nilS],0,0,none⟩,XI (setK W x y 8 l p k),⟨[I W,I H,.own 2 0 0 p.length],0,0,none⟩]⟩) (fun k=>k≤64) (fun k=>64-k) 0 (by omega) (go (r:=?_)) (fun k hk=>?_)
   ·and_intros<;>first|exact True.intro|rfl|(rw [setK_zero];done)|exact (setK_zero ..).symm
   have hkl:=setK_len W x y 8 l p k
   by_cases hlt:k<64
   ·obtain ⟨⟨b1,b2,b3,b4⟩,b5,b6,b7,b8⟩:=px_in h1 (i:=k) (by omega)
    unfold pxI at b7 b8
    refine go (r:=?_);and_intros<;>intros<;>try exact True.intro
    all_goals first|contradiction|omega|exact set_step ..
   ·obtain rfl:k=64:=by omega
    refine go (r:=?_);and_intros<;>intros<;>try exact True.intro
    all_goals first|contradiction|exact hd|exact hd.symm
 ·have e:=setL_no h
  have hd:=decide_eq_false h
  rw [e,hd]
  refine FnC.of_body tabOk Tryz.func144 Tryz.ntmps144 rfl (by decide +kernel) (by simp) fun G=>?_
  by_cases h1:Fits W H p x y (side l.length)
  ·have h2:¬In l 0 255:=fun h3=>h ⟨h1,h3⟩
   refine go (r:=?_);and_intros<;>intros<;>try exact True.intro
   all_goals first|contradiction
  ·refine go (r:=?_);and_intros<;>intros<;>try exact True.intro
   all_goals first|contradiction⟩
end Go.Proofs.YtndflfipaddfoaaGreat


namespace Go.Abs
open Go
section
variable {P:Program} {n m:Nat} {G:Ctx} {md:Bool} {σ:St} {Q:Exit→St→Prop} {T:List (Nat×AV)} {O:List AObj}
theorem WpL.guardV {v0:Value} {ops:Array Oper} {o:Oper} {l:List Oper} {j t d:Nat} {want:Bool} (hg:o.guard=some (j,want)) (hj:((ops[j]?).bind (·.dst))=some t) (htn:t<n)
 (ht:look σ.T t=.sc v0) (hne:v0≠.bool want) (hd:o.dst=some d) (h:WpL P n m G md ops l ⟨(d,.any)::σ.T,σ.O⟩ Q):WpL P n m G md ops (o::l) σ Q:=fun a w hr=>by
 have hv:a.tmps.getD t undef=v0:=hr.eval_sc (x:=.tmp t) ht
 have hsz:a.tmps.size=n:=by obtain ⟨_,_,_,h⟩:=hr;exact h.size
 have hv':a.tmps[t]?=some v0:=by
  rw [Array.getD_eq_getD_getElem?] at hv
  rw [Array.getElem?_eq_getElem (by omega)] at hv ⊢
  simpa using hv
 have hw:Region.wanted o (yielded ops a.tmps)=false:=by
  simp only [Region.wanted,hg,yielded,hj,Option.bind_some,hv']
  cases v0<;>first|rfl|skip
  rename_i b
  cases b<;>cases want<;>first|rfl|exact absurd rfl hne
 have hrel:Rel n m G ⟨(d,.any)::σ.T,σ.O⟩ (a.put o.dst undef) w:=?_
 ·cases md with
  |false=>
   simp only
   unfold wpList
   rw [if_neg (by simp [hw])]
   exact h _ _ hrel
  |true=>
   simp only
   unfold wpStill
   rw [if_neg (by simp [hw])]
   exact h _ _ hrel
 obtain ⟨S,ι,F,hr⟩:=hr
 refine ⟨S,ι,F,by simpa [Act.put,hd] using hr.defers,by simp [Act.put,hd,hr.size],fun t'=>?_,hr.objs,hr.foot,hr.base,hr.stable,hr.keeps,hr.spots,hr.mle⟩
 by_cases he:d=t'
 ·subst he;rw [look_cons_same];exact .any .nil
 ·rw [look_cons_other _ _ _ _ he]
  have:=hr.tmps t'
  simpa [Act.put,hd,Array.getD_eq_getD_getElem?,Array.getElem?_setIfInBounds,he] using this
theorem WpL.openAny {ops:Array Oper} {l:List Oper} {t:Nat} (hx:look T t=.any) (h:∀v0,WpL P n m G md ops l ⟨(t,.sc v0)::T,O⟩ Q):WpL P n m G md ops l ⟨T,O⟩ Q:=fun a w hr=>by
 refine h (a.tmps.getD t undef) a w ?_
 obtain ⟨S,ι,F,hr⟩:=hr
 refine ⟨S,ι,F,hr.defers,hr.size,fun u=>?_,hr.objs,hr.foot,hr.base,hr.stable,hr.keeps,hr.spots,hr.mle⟩
 show VRel S w ι O (look ((t,.sc _)::T) u) _ []
 by_cases he:t=u
 ·subst he;rw [look_cons_same];exact .sc .nil
 ·rw [look_cons_other _ _ _ _ he];exact hr.tmps u
end
end Go.Abs


namespace Go.Proofs.YtndflfipaddfoaaGreat
open Go Go.Abs
attribute [local irreducible] WpA WpL Rnd Blk Abs.Seq Abs.Fin Abs.FinG FnC FnG Only
theorem topF_eq (W:Int) (p:List Int) (x y n:Int) (hn:0<n) (k:Nat):topF W p x y n k=if y=0 then 128 else if (k:Int)<n∨(y%8=0∧x+k<W) then p.getD ((y-1)*W+x+k).toNat 0 else topF W p x y n (k-1):=by
 cases k with
 |zero=>
  rw [topF]
  split
  ·rfl
  ·rw [if_pos (.inl (by simpa using hn))]
 |succ k=>rw [topF];rfl
theorem nb_ix {W H:Int} {p:List Int} {x y n:Int} (h:Fits W H p x y n) {k:Nat} (hk:(k:Int)<2*n) (hy:y≠0) (hc:(k:Int)<n∨(y%8=0∧x+k<W)):0≤(y-1)*W∧(y-1)*W≤1024∧(y-1)*W+x+k<p.length:=by
 obtain ⟨h0,h1,hx,hy2,_⟩:=h
 have:=ix_in h0 (a:=y-1) (b:=x+k) (by omega) (by omega)
 omega
theorem nb_lx {W H:Int} {p:List Int} {x y n:Int} (h:Fits W H p x y n) {k:Nat} (hk:(k:Int)<n) (hx0:0<x):0≤(y+k)*W∧(y+k)*W≤1024∧(y+k)*W+x-1<p.length:=by
 obtain ⟨h0,h1,hx,hy2,_⟩:=h
 have:=ix_in h0 (a:=y+k) (b:=x-1) (by omega) (by omega)
 omega
theorem nb_cx {W H:Int} {p:List Int} {x y n:Int} (h:Fits W H p x y n) (hx0:0<x) (hy0:0<y):0≤(y-1)*W∧(y-1)*W≤1024∧(y-1)*W+x-1<p.length:=by
 obtain ⟨h0,h1,hx,hy2,_⟩:=h
 have:=ix_in h0 (a:=y-1) (b:=x-1) (by omega) (by omega)
 omega
abbrev NbOwn (W H:Int) (p:List Int) (x y n:Int):AV:=.agg [.own 0 0 0 (topL W H p x y n).length,.own 1 0 0 (lefL W H p x y n).length,I (corL W H p x y n),B (hasT W H p x y n),B (hasE W H p x y n)]
abbrev Nb0:AObj:=⟨[.nilS,.nilS,I 0,B false,B false],0,0,none⟩
attribute [local irreducible] topF lefF
instance NbAt_c:Con 163 (∀ (W H:Int) (p:List Int) (x y n:Int),p.length≤1099511627776→Fn 163 [FrA W H p,I x,I y,I n] [XI (topL W H p x y n),XI (lefL W H p x y n)] (NbOwn W H p x y n)):=⟨fun W H p x y n hl=>by
 by_cases h:Fits W H p x y n
 ·have ht:topL W H p x y n=tabL (topF W p x y n) (2*n).toNat:=by unfold topL;rw [if_pos h]
  have hle:lefL W H p x y n=tabL (lefF W p x y) n.toNat:=by unfold lefL;rw [if_pos h]
  have hco:corL W H p x y n=if 0<x∧0<y then p.getD ((y-1)*W+x-1).toNat 0 else 128:=by unfold corL;rw [if_pos h]
  have hhT:hasT W H p x y n=decide (0<y):=by unfold hasT;rw [Bool.eq_iff_iff];simp only [decide_eq_true_eq];exact ⟨fun hh=>hh.2,fun hh=>⟨h,hh⟩⟩
  have hhE:hasE W H p x y n=decide (0<x):=by unfold hasE;rw [Bool.eq_iff_iff];simp only [decide_eq_true_eq];exact ⟨fun hh=>hh.2,fun hh=>⟨h,hh⟩⟩
  unfold NbOwn
  rw [ht,hle,hco,hhT,hhE,tabL_len,tabL_len]
  have hd:=decide_eq_true h
  obtain ⟨h0,h1,hx,hy,_⟩:=id h
  refine FnC.of_body tabOk Tryz.func163 Tryz.ntmps163 rfl (by decide +kernel) (by simp) fun G=>?_
  refine go (r:=?_);and_intros<;>intros<;>try exact True.intro
  all_goals first|contradiction|(exact absurd h (by assumption))|skip
  refine WpA.loop (fun k:Nat=>⟨[(1,I x),(2,I y),(3,I n),(4,.ptr 0 0 0),(8,.ptr 1 0 0),(9,.ptr 2 0 0),(27,I (2*n)),(28,I k)],[FrO W H p,Nb0,⟨[.own 3 0 0 k,.nilS,I 128,B (decide (0<y)),B (decide (0<x))],0,0,none⟩,XI (tabL (topF W p x y n) k)]⟩) (fun k=>(k:Int)≤2*n) (fun k=>(2*n).toNat-k) 0 (by omega) ?_ ?_
  ·exact Weak.nil1 (by first|(show 0≤_;exact Nat.zero_le _)|(repeat' (first|exact RzT.nil|refine RzT.cons ?_ ?_|exact Rz.nil|refine Rz.keep rfl rfl ?_|refine Rz.own rfl rfl rfl rfl rfl (by first|rfl|omega|(simp;done)) ?_|refine Rz.ptr rfl rfl rfl rfl ?_|refine Rz.nilO rfl rfl rfl (by first|rfl|omega|(simp;done)) ?_|refine Rz.agg ?_ ?_|exact RzO.last rfl|(refine RzO.cons ?_ (.inr rfl) ?_)|exact Rz.same rfl (still_ints _)|exact Rz.same rfl (still_rows (fun _=>rfl) _)))) (by first|(show 0≤_;exact Nat.zero_le _)|(repeat' (first|exact RzT.nil|refine RzT.cons ?_ ?_|exact Rz.nil|refine Rz.keep rfl rfl ?_|refine Rz.own rfl rfl rfl rfl rfl (by first|rfl|omega|(simp;done)) ?_|refine Rz.ptr rfl rfl rfl rfl ?_|refine Rz.nilO rfl rfl rfl (by first|rfl|omega|(simp;done)) ?_|refine Rz.agg ?_ ?_|exact RzO.last rfl|(refine RzO.cons ?_ (.inr rfl) ?_)|exact Rz.same rfl (still_ints _)|exact Rz.same rfl (still_rows (fun _=>rfl) _)))) (Nat.le_of_ble_eq_true rfl)
  intro k hk
  try simp only at hk ⊢
  have hkl:=tabL_len (topF W p x y n) k
  by_cases hlt:(k:Int)<2*n
  ·have hq:=topF_eq W p x y n (by omega) k
   have hsn:=tabL_snoc (topF W p x y n) k
   by_cases hy0:y=0
   ·rw [if_pos hy0] at hq
    rw [hq] at hsn
    refine go (r:=?_);and_intros<;>intros<;>try exact True.intro
    all_goals first|contradiction|omega|exact hsn.symm
   ·rw [if_neg hy0] at hq
    by_cases hc:(k:Int)<n∨(y%8=0∧x+k<W)
    ·rw [if_pos hc] at hq
     rw [hq] at hsn
     obtain ⟨b1,b2,b3⟩:=nb_ix h hlt hy0 hc
     by_cases hc0:(k:Int)<n
     ·refine go (r:=?_);and_intros<;>intros<;>try exact True.intro
      refine WpL.openAny (t:=48) rfl (fun v0=>?_)
      by_cases hv:v0=.bool true
      ·subst hv
       refine go (r:=?_);and_intros<;>intros<;>try exact True.intro
       all_goals first|contradiction|omega|exact hsn.symm
      ·repeat (refine WpL.guardV (σ:=⟨_,_⟩) rfl rfl (by decide) rfl hv rfl ?_)
       refine go (r:=?_);and_intros<;>intros<;>try exact True.intro
       all_goals first|contradiction|omega|exact hsn.symm
     ·obtain ⟨hc1,hc2⟩:y%8=0∧x+k<W:=hc.resolve_left hc0
      refine go (r:=?_);and_intros<;>intros<;>try exact True.intro
      all_goals first|contradiction|omega|exact hsn.symm
    ·rw [if_neg hc] at hq
     rw [hq] at hsn
     have hk0:0<k:=by omega
     have ek:((k:Int)-1).toNat=k-1:=by omega
     have hge:(tabL (topF W p x y n) k).getD (k-1) 0=topF W p x y n (k-1):=tabL_get (by omega)
     by_cases hc0:(k:Int)<n
     ·exact absurd (.inl hc0) hc
     by_cases hc1:y%8=0
     ·have hc2:¬x+k<W:=fun hh=>hc (.inr ⟨hc1,hh⟩)
      refine go (r:=?_);and_intros<;>intros<;>try exact True.intro
      all_goals first|contradiction|omega|(rw [ek,hge];exact hsn.symm)
     ·refine go (r:=?_);and_intros<;>intros<;>try exact True.intro
      all_goals first|contradiction|omega|(rw [ek,hge];exact hsn.symm)
  ·have hke:k=(2*n).toNat:=by omega
   subst hke
   refine go (r:=?_);and_intros<;>intros<;>try exact True.intro
   all_goals first|contradiction|omega|skip
   refine WpA.loop (fun k:Nat=>⟨[(1,I x),(2,I y),(4,.ptr 0 0 0),(8,.ptr 1 0 0),(9,.ptr 2 0 0),(77,I n),(78,I k)],[FrO W H p,Nb0,⟨[.own 3 0 0 (2*n).toNat,.own 4 0 0 k,I 128,B (decide (0<y)),B (decide (0<x))],0,0,none⟩,XI (tabL (topF W p x y n) (2*n).toNat),XI (tabL (lefF W p x y) k)]⟩) (fun k=>(k:Int)≤n) (fun k=>n.toNat-k) 0 (by omega) ?_ ?_
   ·exact Weak.nil1 (by first|(show 0≤_;exact Nat.zero_le _)|(repeat' (first|exact RzT.nil|refine RzT.cons ?_ ?_|exact Rz.nil|refine Rz.keep rfl rfl ?_|refine Rz.own rfl rfl rfl rfl rfl (by first|rfl|omega|(simp;done)) ?_|refine Rz.ptr rfl rfl rfl rfl ?_|refine Rz.nilO rfl rfl rfl (by first|rfl|omega|(simp;done)) ?_|refine Rz.agg ?_ ?_|exact RzO.last rfl|(refine RzO.cons ?_ (.inr rfl) ?_)|exact Rz.same rfl (still_ints _)|exact Rz.same rfl (still_rows (fun _=>rfl) _)))) (by first|(show 0≤_;exact Nat.zero_le _)|(repeat' (first|exact RzT.nil|refine RzT.cons ?_ ?_|exact Rz.nil|refine Rz.keep rfl rfl ?_|refine Rz.own rfl rfl rfl rfl rfl (by first|rfl|omega|(simp;done)) ?_|refine Rz.ptr rfl rfl rfl rfl ?_|refine Rz.nilO rfl rfl rfl (by first|rfl|omega|(simp;done)) ?_|refine Rz.agg ?_ ?_|exact RzO.last rfl|(refine RzO.cons ?_ (.inr rfl) ?_)|exact Rz.same rfl (still_ints _)|exact Rz.same rfl (still_rows (fun _=>rfl) _)))) (Nat.le_of_ble_eq_true rfl)
   intro k hk
   try simp only at hk ⊢
   have hkl2:=tabL_len (lefF W p x y) k
   by_cases hlt2:(k:Int)<n
   ·have hsn:=tabL_snoc (lefF W p x y) k
    by_cases hx0:0<x
    ·obtain ⟨b1,b2,b3⟩:=nb_lx h hlt2 hx0
     have hq:lefF W p x y k=p.getD ((y+k)*W+x-1).toNat 0:=by unfold lefF;rw [if_pos hx0]
     rw [hq] at hsn
     refine go (r:=?_);and_intros<;>intros<;>try exact True.intro
     all_goals first|contradiction|omega|exact hsn.symm
    ·have hq:lefF W p x y k=128:=by unfold lefF;rw [if_neg hx0]
     rw [hq] at hsn
     refine go (r:=?_);and_intros<;>intros<;>try exact True.intro
     all_goals first|contradiction|omega|exact hsn.symm
   ·have hke:k=n.toNat:=by omega
    subst hke
    by_cases hx0:0<x
    ·by_cases hy0:0<y
     ·obtain ⟨b1,b2,b3⟩:=nb_cx h hx0 hy0
      rw [if_pos ⟨hx0,hy0⟩]
      refine go (r:=?_);and_intros<;>intros<;>try exact True.intro
      all_goals first|contradiction|omega
     ·rw [if_neg (fun hh=>hy0 hh.2)]
      refine go (r:=?_);and_intros<;>intros<;>try exact True.intro
      all_goals first|contradiction|omega
    ·rw [if_neg (fun hh=>hx0 hh.1)]
     refine go (r:=?_);and_intros<;>intros<;>try exact True.intro
     all_goals first|contradiction|omega
 ·have ht:topL W H p x y n=[]:=by unfold topL;rw [if_neg h]
  have hle:lefL W H p x y n=[]:=by unfold lefL;rw [if_neg h]
  have hco:corL W H p x y n=0:=by unfold corL;rw [if_neg h]
  have hhT:hasT W H p x y n=false:=by unfold hasT;rw [decide_eq_false_iff_not];exact fun hh=>h hh.1
  have hhE:hasE W H p x y n=false:=by unfold hasE;rw [decide_eq_false_iff_not];exact fun hh=>h hh.1
  unfold NbOwn
  rw [ht,hle,hco,hhT,hhE]
  have hd:=decide_eq_false h
  refine FnC.of_body tabOk Tryz.func163 Tryz.ntmps163 rfl (by decide +kernel) (by simp) fun G=>?_
  refine go (r:=?_);and_intros<;>intros<;>try exact True.intro
  all_goals first|contradiction|omega⟩
end Go.Proofs.YtndflfipaddfoaaGreat


namespace Go.Proofs.YtndflfipaddfoaaGreat
open Go Go.Abs
attribute [local irreducible] WpA WpL Rnd Blk Abs.Seq Abs.Fin Abs.FinG FnC FnG Only
theorem rnd_snoc (f:Int→Int) (l:List Int) (k:Nat) (h:k<l.length):(l.take k).map f++[f (l.getD k 0)]=(l.take (k+1)).map f:=qz_snoc f l k h
instance Rounded_s:Con 226 (∀ (l:List Int),l.length≤1099511627776→Fn 226 [IL l] [XI (rndL l)] (.own 0 0 0 (rndL l).length)):=⟨fun l hl=>by
 have hsd:=side_cases l.length
 refine FnC.of_body tabOk Tryz.func226 Tryz.ntmps226 rfl (by decide +kernel) (by simp) fun G=>?_
 by_cases h:0<side l.length
 ·have he:rndL l=l.map (rnd1 l.length):=by unfold rndL;rw [if_pos h]
  by_cases h16:l.length=16
  ·refine go (r:=?_);and_intros<;>intros<;>try exact True.intro
   refine WpA.loop (fun k:Nat=>⟨[(0,IL l),(3,.own 0 0 0 k),(4,I k)],[XI ((l.take k).map (rnd1 l.length))]⟩) (fun k=>k≤l.length) (fun k=>l.length-k) 0 (by omega) (go (r:=?_)) (fun k hk=>?_)
   ·simp
   have hlk:((l.take k).map (rnd1 l.length)).length=k:=by simp;omega
   have hsn:=rnd_snoc (rnd1 l.length) l k
   have e1:rnd1 l.length (l.getD k 0)=(max (-1000000000000) (min 1000000000000 (l.getD k 0))+800)/1600:=by unfold rnd1;rw [if_pos h16]
   refine go (r:=?_);and_intros<;>intros<;>try exact True.intro
   all_goals first|(rw [←hsn (by omega),e1];done)|(rw [←hsn (by omega),e1];rfl)|skip
   all_goals have e:k=l.length:=by omega
   all_goals subst e
   ·rw [he,List.length_map]
   ·rw [he,List.take_length]
  ·refine go (r:=?_);and_intros<;>intros<;>try exact True.intro
   refine WpA.loop (fun k:Nat=>⟨[(0,IL l),(3,.own 0 0 0 k),(4,I k)],[XI ((l.take k).map (rnd1 l.length))]⟩) (fun k=>k≤l.length) (fun k=>l.length-k) 0 (by omega) (go (r:=?_)) (fun k hk=>?_)
   ·simp
   have hlk:((l.take k).map (rnd1 l.length)).length=k:=by simp;omega
   have hsn:=rnd_snoc (rnd1 l.length) l k
   have e1:rnd1 l.length (l.getD k 0)=(max (-1000000000000) (min 1000000000000 (l.getD k 0))+32)/64:=by unfold rnd1;rw [if_neg h16]
   refine go (r:=?_);and_intros<;>intros<;>try exact True.intro
   all_goals first|(rw [←hsn (by omega),e1];done)|(rw [←hsn (by omega),e1];rfl)|skip
   all_goals have e:k=l.length:=by omega
   all_goals subst e
   ·rw [he,List.length_map]
   ·rw [he,List.take_length]
 ·have e:rndL l=[]:=by unfold rndL;rw [if_neg h]
  refine go (r:=?_);and_intros<;>intros<;>try exact True.intro
  refine WpA.loop (fun k:Nat=>⟨[(0,IL l),(3,.own 0 0 0 0),(4,I 0)],[XI []]⟩) (fun k=>k≤0) (fun k=>l.length-k) 0 (by omega) (go (r:=trivial)) (fun k hk=>?_)
  refine go (r:=?_);and_intros<;>intros<;>try exact True.intro
  all_goals first|(rw [e];done)|(rw [e];rfl)⟩
instance Rounded_c:Con 246 (∀ (l:List Int),l.length≤1099511627776→Fn 246 [IL l] [XI (rndL l)] (.own 0 0 0 (rndL l).length)):=⟨fun l hl=>by
 have hsd:=side_cases l.length
 refine FnC.of_body tabOk Tryz.func246 Tryz.ntmps246 rfl (by decide +kernel) (by simp) fun G=>?_
 by_cases h:0<side l.length
 ·have he:rndL l=l.map (rnd1 l.length):=by unfold rndL;rw [if_pos h]
  by_cases h16:l.length=16
  ·have e4:side l.length=4:=by omega
   refine go (r:=?_);and_intros<;>intros<;>try exact True.intro
   refine WpA.loop (fun k:Nat=>⟨[(3,I 1600),(4,.own 0 0 0 k),(15,IL l),(16,I l.length),(17,I k)],[XI ((l.take k).map (rnd1 l.length))]⟩) (fun k=>k≤l.length) (fun k=>l.length-k) 0 (by omega) (go (r:=?_)) (fun k hk=>?_)
   ·simp
   have hlk:((l.take k).map (rnd1 l.length)).length=k:=by simp;omega
   have hsn:=rnd_snoc (rnd1 l.length) l k
   have e1:rnd1 l.length (l.getD k 0)=(max (-1000000000000) (min (l.getD k 0) 1000000000000)+800)/1600:=by unfold rnd1;rw [if_pos h16,Int.min_comm]
   refine go (r:=?_);and_intros<;>intros<;>try exact True.intro
   all_goals first|(rw [←hsn (by omega),e1];done)|(rw [←hsn (by omega),e1];rfl)|skip
   all_goals have e:k=l.length:=by omega
   all_goals subst e
   ·rw [he,List.length_map]
   ·rw [he,List.take_length]
  ·have e8:side l.length=8:=by omega
   refine go (r:=?_);and_intros<;>intros<;>try exact True.intro
   refine WpA.loop (fun k:Nat=>⟨[(3,I 64),(4,.own 0 0 0 k),(15,IL l),(16,I l.length),(17,I k)],[XI ((l.take k).map (rnd1 l.length))]⟩) (fun k=>k≤l.length) (fun k=>l.length-k) 0 (by omega) (go (r:=?_)) (fun k hk=>?_)
   ·simp
   have hlk:((l.take k).map (rnd1 l.length)).length=k:=by simp;omega
   have hsn:=rnd_snoc (rnd1 l.length) l k
   have e1:rnd1 l.length (l.getD k 0)=(max (-1000000000000) (min (l.getD k 0) 1000000000000)+32)/64:=by unfold rnd1;rw [if_neg h16,Int.min_comm]
   refine go (r:=?_);and_intros<;>intros<;>try exact True.intro
   all_goals first|(rw [←hsn (by omega),e1];done)|(rw [←hsn (by omega),e1];rfl)|skip
   all_goals have e:k=l.length:=by omega
   all_goals subst e
   ·rw [he,List.length_map]
   ·rw [he,List.take_length]
 ·have e:rndL l=[]:=by unfold rndL;rw [if_neg h]
  have e0:side l.length=0:=by omega
  refine go (r:=?_);and_intros<;>intros<;>try exact True.intro
  all_goals first|(rw [e];done)|(rw [e];rfl)⟩
def tA (r k:Nat):Int:=mx 4 k r
def T4:List (List Int):=(List.range 4).map fun r=>tabL (tA r) 4
def cellsT (r:Nat):List AV:=(List.range 4).map fun q=>if q<r then .fre 1 4 (ints (tabL (tA q) 4)) else .nilS
def invT (r:Nat):Nat→List AObj
 |0=>[⟨(cellsT r).set r .nilS,0,1,some 22⟩]
 |k+1=>[⟨(cellsT r).set r (.own 2 0 0 (k+1)),0,1,some 22⟩,⟨[.any],0,1,none⟩,XI (tabL (tA r) (k+1))]
theorem cellsT_nil {r:Nat} (h:r<4):cellsT r=(cellsT r).set r .nilS:=by
 rcases (by omega:r=0∨r=1∨r=2∨r=3) with rfl|rfl|rfl|rfl<;>rfl
theorem cellsT_succ {r:Nat} (h:r<4) (X:AV):((cellsT r).set r X).set r (.fre 1 4 (ints (tabL (tA r) 4)))=cellsT (r+1):=by
 rcases (by omega:r=0∨r=1∨r=2∨r=3) with rfl|rfl|rfl|rfl<;>rfl
theorem tnest {r:Nat} (h:r<4):flatO [⟨((cellsT r).set r (.own 2 0 0 4)).set r (.fre 1 4 (ints (tabL (tA r) 4))),0,1,some 22⟩,⟨[.any],0,1,none⟩,⟨[],1,0,none⟩]=some [⟨cellsT (r+1),0,1,some 22⟩,⟨[.any],0,1,none⟩,⟨[],1,0,none⟩]:=by
 rw [cellsT_succ h];rfl
theorem cellsT_still (r:Nat):(cellsT r).all AV.still=true:=by
 rw [List.all_eq_true];intro V hV;simp only [cellsT,List.mem_map] at hV;obtain ⟨q,_,rfl⟩:=hV
 split<;>rfl
theorem cellsT_len (r:Nat):(cellsT r).length=4:=by simp [cellsT]
theorem cellsT_4:cellsT 4=rows liF T4:=rfl
theorem cellsT_0:cellsT 0=[.nilS,.nilS,.nilS,.nilS]:=rfl
section
attribute [local irreducible] cellsT
instance turned_c:Con 287 (Fn 287 [LLn 4 A4] [⟨rows liF T4,0,1,some 22⟩] (.own 0 0 0 4)):=⟨by
 refine FnC.of_body tabOk Tryz.func287 Tryz.ntmps287 rfl (by decide +kernel) (by simp) fun G=>?_
 refine K.A ?_
 refine WpA.seq ?_
 refine WpA.regionF rfl ?_
 refine WpL.assign rfl (by decide) ?_
 refine WpL.nil ?_
 refine Abs.Seq.n ?_
 refine WpA.seq ?_
 refine WpA.regionF rfl ?_
 refine WpL.move rfl (by decide) ?_
 refine WpL.lenImm (TabOk.slice tabOk rfl).1 rfl (by decide) ?_
 refine WpL.make tabOk rfl rfl rfl (by decide) (by decide) rfl (by decide) ?_
 refine go (r:=?_);and_intros<;>intros<;>try exact True.intro
 refine WpA.loop (fun r:Nat=>⟨[(0,LLn 4 A4),(3,.own 0 0 0 4),(10,I 4),(11,I r)],[⟨cellsT r,0,1,some 22⟩]⟩) (fun r=>r≤4) (fun r=>4-r) 0 (by omega) (go (r:=?_)) (fun r hr=>?_)
 ·and_intros<;>first|trivial|rfl|exact .nil|exact .inr rfl|exact Re.same cellsT_0.symm (cellsT_still 0)
 by_cases h8:r=4
 ·subst h8
  refine go (r:=?_);and_intros<;>intros<;>try exact True.intro
  all_goals first|exact cellsT_4
 have hr8:r<4:=by omega
 have hcl:=cellsT_len r
 have hst:=cellsT_still r
 have hc0:=cellsT_nil hr8
 refine go (r:=?_);and_intros<;>intros<;>try exact True.intro
 refine WpA.loop (fun k:Nat=>⟨[(0,LLn 4 A4),(3,.own 0 0 0 4),(4,I r),(10,I 4),(11,I r),(15,I 4),(16,I k)],invT r k⟩) (fun k=>k≤4) (fun k=>4-k) 0 (by omega) (go (r:=?_)) (fun k hk=>?_)
 ·and_intros<;>first|trivial|rfl|exact .nil|exact .inr rfl|(exact hc0)|exact Re.same hc0 (by rw [←hc0];exact hst)
 by_cases hk8:k=4
 ·subst hk8
  refine WpA.weak (NestC.weak (id:=0) (offs:=[r]) (O2:=[⟨cellsT (r+1),0,1,some 22⟩,⟨[.any],0,1,none⟩,⟨[],1,0,none⟩]) ?_) ?_
  ·apply NestC.cons (off:=r) (j:=2) (O1:=[⟨cellsT (r+1),0,1,some 22⟩,⟨[.any],0,1,none⟩,⟨[],1,0,none⟩])
   ·exact rfl
   ·exact List.getElem?_set_self (by omega)
   ·exact rfl
   ·exact rfl
   ·decide
   ·exact rfl
   ·exact still_ints _
   ·exact rfl
   ·exact tnest hr8
   ·exact .nil
  have hst1:=cellsT_still (r+1)
  refine go (r:=?_);and_intros<;>intros<;>try exact True.intro
  all_goals first|exact Re.same rfl hst1
 have hA:=A4_ok.2.1 k (by omega)
 have hkl:=tabL_len (tA r) k
 have hval:(A4.getD k default).getD r 0=tA r k:=rfl
 have hA2:(A4.getD ((k:Nat):Int).toNat default).length=4:=hA
 have hAl:A4.length=4:=rfl
 have hval2:(A4.getD ((k:Nat):Int).toNat default).getD ((r:Nat):Int).toNat 0=tA r k:=rfl
 rcases k with _|k
 ·refine go (r:=?_);and_intros<;>intros<;>try exact True.intro
  all_goals first|exact Re.any Re.nil|exact .inl rfl|(rw [hval];rfl)|(rw [hval2];rfl)|(apply Re.setA (c:=cellsT r) (V:=.own 2 _ 0 _) (V':=.own 2 _ 0 _);(· apply Re.own (id:=2)<;>first|exact rfl|exact .nil);exact hst)|exact Re.same rfl hst
 ·refine go (r:=?_);and_intros<;>intros<;>try exact True.intro
  all_goals first|(rw [tabL_snoc _ (k+1),hval];done)|(rw [tabL_snoc _ (k+1),hval2];done)|(rw [tabL_snoc _ (k+1),←hval2];rfl)|exact Re.any Re.nil|(apply Re.setA (c:=cellsT r) (V:=.own 2 _ 0 _) (V':=.own 2 _ 0 _);(· apply Re.own (id:=2)<;>first|exact rfl|exact .nil);exact hst)⟩
end
end Go.Proofs.YtndflfipaddfoaaGreat


namespace Go.Proofs.YtndflfipaddfoaaGreat
open Go Go.Abs
attribute [local irreducible] WpA WpL Rnd Blk Abs.Seq Abs.Fin Abs.FinG FnC FnG Only
theorem T4_row {r:Nat} (h:r<4):T4.getD r default=tabL (tA r) 4:=by simp [T4,h]
theorem gOf_T4 {r i:Nat} (h:r<4) (h2:i<4):gOf T4 r i=mx 4 i r:=by rw [gOf,T4_row h,tabL_get h2];rfl
theorem T4_ok:MatOk 4 T4:=by
 refine ⟨by simp [T4],fun r hr=>by rw [T4_row hr,tabL_len],fun r i=>?_⟩
 by_cases h:r<4
 ·by_cases h2:i<4
  ·rw [gOf_T4 h h2];exact mx_val 4 i r
  ·right;right;left
   rw [gOf,T4_row h,List.getD_eq_getElem?_getD,List.getElem?_eq_none (by rw [tabL_len];omega)];rfl
 ·right;right;left
  have:T4.getD r default=[]:=by rw [List.getD_eq_getElem?_getD,List.getElem?_eq_none (by simp [T4];omega)];rfl
  rw [gOf,this];rfl
theorem trT4 (l:List Int):prodL 4 (gOf T4) l=trL 4 true l:=prodL_congr (by decide) fun r i hr hi=>gOf_T4 hr hi
theorem trH8b (l:List Int):prodL 8 (gOf H8) l=trL 8 true l:=prodL_congr (by decide) fun r i hr hi=>by
 rw [gOf_H8 hr hi]
 show par (r &&& i)=par (i &&& r)
 rw [Nat.and_comm]
instance Inverse4_c:Con 247 (∀ l:List Int,l.length≤1099511627776→Fn 247 [IL l] [XI (trL 4 true l)] (.own 0 0 0 (trL 4 true l).length)):=⟨fun l h=>by
 have hA:=T4_ok
 rw [←trT4]
 refine FnC.of_body tabOk Tryz.func247 Tryz.ntmps247 rfl (by decide +kernel) (by simp) fun G=>?_
 refine go (r:=?_);and_intros<;>intros<;>try exact True.intro
 refine K.call ?_
 refine K.con (fun hcon=>?_)
 refine WpL.callF (hcon 4 T4 l ⟨by decide,hA,h⟩) snapA locA outA rfl rfl rfl (by decide) ?_
 refine go (r:=?_);and_intros<;>intros<;>try exact True.intro⟩
instance Inverse8_c:Con 248 (∀ l:List Int,l.length≤1099511627776→Fn 248 [IL l] [XI (trL 8 true l)] (.own 0 0 0 (trL 8 true l).length)):=⟨fun l h=>by
 have hA:=H8_ok
 rw [←trH8b]
 refine FnC.of_body tabOk Tryz.func248 Tryz.ntmps248 rfl (by decide +kernel) (by simp) fun G=>?_
 refine go (r:=?_);and_intros<;>intros<;>try exact True.intro
 refine K.call ?_
 refine K.con (fun hcon=>?_)
 refine WpL.callF (hcon 8 H8 l ⟨by decide,hA,h⟩) snapA locA outA rfl rfl rfl (by decide) ?_
 refine go (r:=?_);and_intros<;>intros<;>try exact True.intro⟩
theorem resL_b {q:Int} {l:List Int} (h:LvOk l∧0<stepL q):resL true q l=plcL l:=by unfold resL;rw [if_pos h,if_pos rfl]
theorem resL_t {q:Int} {l:List Int} (h:LvOk l∧0<stepL q):resL false q l=rndL (trL (side l.length) true (scaL (plcL l) q)):=by unfold resL;rw [if_pos h,if_neg (by decide)]
theorem resL_n {b:Bool} {q:Int} {l:List Int} (h:¬(LvOk l∧0<stepL q)):resL b q l=[]:=by unfold resL;rw [if_neg h]
theorem trLe4 (b:Bool) (l:List Int):(trL 4 b l).length≤64:=trL_le (by decide)
theorem trLe8 (b:Bool) (l:List Int):(trL 8 b l).length≤64:=trL_le (by decide)
instance ResidualOf_s:Con 279 (∀ (w h q:Int) (b d:Bool) (lens l:List Int),l.length≤1099511627776→Fn 279 [HdA w h q b d lens,IL l] [XI (resL b q l)] (.own 0 0 0 (resL b q l).length)):=⟨fun w h q b d lens l hl=>by
 have hsl:=stepL_pos q
 by_cases hok:LvOk l∧0<stepL q
 ·have h1:=hok.1
  have h2:=hok.2
  have hlen:=hok.1.2
  have hp:=plcL_len2 hlen
  have hsc:=scaL_len (plcL l) q
  have hs:(scaL (plcL l) q).length≤64:=by split at hsc<;>omega
  have t4:=trLe4 true (scaL (plcL l) q)
  have t8:=trLe8 true (scaL (plcL l) q)
  cases b with
  |true=>
   rw [resL_b hok]
   refine FnC.of_body tabOk Tryz.func279 Tryz.ntmps279 rfl (by decide +kernel) (by simp) fun G=>?_
   refine go (r:=?_);and_intros<;>intros<;>try exact True.intro
   all_goals trace_state
  |false=>
   rw [resL_t hok]
   rcases hlen with e|e
   ·have e4:side l.length=4:=by rw [e];rfl
    rw [e4]
    refine FnC.of_body tabOk Tryz.func279 Tryz.ntmps279 rfl (by decide +kernel) (by simp) fun G=>?_
    refine go (r:=?_);and_intros<;>intros<;>try exact True.intro
    all_goals trace_state
   ·have e8:side l.length=8:=by rw [e];rfl
    rw [e8]
    refine FnC.of_body tabOk Tryz.func279 Tryz.ntmps279 rfl (by decide +kernel) (by simp) fun G=>?_
    refine go (r:=?_);and_intros<;>intros<;>try exact True.intro
    all_goals trace_state
 ·rw [resL_n hok]
  refine FnC.of_body tabOk Tryz.func279 Tryz.ntmps279 rfl (by decide +kernel) (by simp) fun G=>?_
  have hx:LvOk l→¬0<stepL q:=fun a b=>hok ⟨a,b⟩
  have hsn:¬0<stepL q→stepL q=0:=fun hh=>by have:=(stepL_bd q).1;omega
  by_cases h1:LvOk l
  ·have h2:=hsn (hx h1)
   refine go (r:=?_);and_intros<;>intros<;>try exact True.intro
   all_goals trace_state
  ·refine go (r:=?_);and_intros<;>intros<;>try exact True.intro
   all_goals trace_state⟩
instance ResidualOf_c:Con 156 (∀ (w h q:Int) (b d:Bool) (lens l:List Int),l.length≤1099511627776→Fn 156 [HdA w h q b d lens,IL l] [XI (resL b q l)] (.own 0 0 0 (resL b q l).length)):=⟨fun w h q b d lens l hl=>by
 have hsl:=stepL_pos q
 by_cases hok:LvOk l∧0<stepL q
 ·have h1:=hok.1
  have h2:=hok.2
  have h3:=hsl.1 h2
  have hlen:=hok.1.2
  have hp:=plcL_len2 hlen
  have hsc:=scaL_len (plcL l) q
  rw [if_pos ⟨plcL_ok h1,h2⟩,hp] at hsc
  have t4:=trLe4 true (scaL (plcL l) q)
  have t8:=trLe8 true (scaL (plcL l) q)
  cases b with
  |true=>
   rw [resL_b hok]
   refine FnC.of_body tabOk Tryz.func156 Tryz.ntmps156 rfl (by decide +kernel) (by simp) fun G=>?_
   refine go (r:=?_);and_intros<;>intros<;>try exact True.intro
   all_goals trace_state
  |false=>
   rw [resL_t hok]
   rcases hlen with e|e
   ·have e4:side l.length=4:=by rw [e];rfl
    have e5:side (scaL (plcL l) q).length=4:=by rw [hsc];exact e4
    rw [e4]
    refine FnC.of_body tabOk Tryz.func156 Tryz.ntmps156 rfl (by decide +kernel) (by simp) fun G=>?_
    refine go (r:=?_);and_intros<;>intros<;>try exact True.intro
    all_goals trace_state
   ·have e8:side l.length=8:=by rw [e];rfl
    have e5:side (scaL (plcL l) q).length=8:=by rw [hsc];exact e8
    rw [e8]
    refine FnC.of_body tabOk Tryz.func156 Tryz.ntmps156 rfl (by decide +kernel) (by simp) fun G=>?_
    refine go (r:=?_);and_intros<;>intros<;>try exact True.intro
    all_goals trace_state
 ·rw [resL_n hok]
  refine FnC.of_body tabOk Tryz.func156 Tryz.ntmps156 rfl (by decide +kernel) (by simp) fun G=>?_
  have hx:LvOk l→¬(0≤q∧q≤51):=fun a b=>hok ⟨a,hsl.2 b⟩
  by_cases h1:LvOk l
  ·have h2:=hx h1
   refine go (r:=?_);and_intros<;>intros<;>try exact True.intro
   all_goals trace_state
  ·refine go (r:=?_);and_intros<;>intros<;>try exact True.intro
   all_goals trace_state⟩
end Go.Proofs.YtndflfipaddfoaaGreat


namespace Go.Proofs.YtndflfipaddfoaaGreat
open Go Go.Abs
attribute [local irreducible] WpA WpL Rnd Blk Abs.Seq Abs.Fin Abs.FinG FnC FnG Only
theorem nb_lens {W H:Int} {p:List Int} {x y n:Int} (h:Fits W H p x y n):(topL W H p x y n).length≤1099511627776∧(lefL W H p x y n).length≤1099511627776:=by
 obtain ⟨h1,h2,h3,_⟩:=nb_ok h
 omega
theorem put_eq {W H:Int} {p:List Int} {q x y m:Int} {b:Bool} {lv:List Int} (h:PutOk W H p q x y m lv):putL W H p q b x y m lv=setL W H p x y (recL (predS m (topL W H p x y (side lv.length)) (lefL W H p x y (side lv.length)) (corL W H p x y (side lv.length)) (hasT W H p x y (side lv.length)) (hasE W H p x y (side lv.length)) (side lv.length)) (resL b q lv)):=if_pos h
theorem put_no {W H:Int} {p:List Int} {q x y m:Int} {b:Bool} {lv:List Int} (h:¬PutOk W H p q x y m lv):putL W H p q b x y m lv=p:=if_neg h
theorem fit0 {W H:Int} {p:List Int} {x y:Int}:¬Fits W H p x y (side 0):=fun h=>by
 have h1:side 0=0:=rfl
 have:=h.2.1
 omega
section
attribute [-instance] ResidualOf_c
instance PutRef_c:Con 76 (∀ (W H:Int) (p:List Int) (w h q:Int) (b d:Bool) (lens:List Int) (x y m:Int) (lv:List Int),p.length≤1099511627776∧lv.length≤1099511627776→Fn 76 [FrA W H p,HdA w h q b d lens,I x,I y,.agg [I m,IL lv]] [XI (putL W H p q b x y m lv)] (.tup [FrOwn 0 W H p.length,B (decide (PutOk W H p q x y m lv))])):=⟨fun W H p w h q b d lens x y m lv hl=>by
 obtain ⟨hpl,hll⟩:=hl
 have hrl:=resL_le b q lv
 have hmw:=modeW_nil m
 by_cases hok:LvOk lv∧0<stepL q
 ·have hrn:=resL_len (b:=b) hok
  have hr0:¬(resL b q lv).length=0:=by have:=hok.1.2;omega
  by_cases hf:Fits W H p x y (side lv.length)
  ·by_cases hm:0≤m∧m≤5
   ·have hp:PutOk W H p q x y m lv:=⟨hf,hok,hm⟩
    have hd:=decide_eq_true hp
    have hds:=decide_eq_true (put_set (b:=b) hp)
    unfold nbP at hds
    have hmw2:¬modeW m=[]:=fun hh=>(hmw.1 hh) hm
    have htw:=put_two (b:=b) hp
    unfold nbP at htw
    obtain ⟨hn1,hn2⟩:=nb_lens hf
    have hn3:=hf.2.1
    have hn4:=nb_ok hf
    have hpr:(predS m (topL W H p x y (side lv.length)) (lefL W H p x y (side lv.length)) (corL W H p x y (side lv.length)) (hasT W H p x y (side lv.length)) (hasE W H p x y (side lv.length)) (side lv.length)).length≤64:=by have:=htw.2;have:=hok.1.2;omega
    have hre:=recL_len (predS m (topL W H p x y (side lv.length)) (lefL W H p x y (side lv.length)) (corL W H p x y (side lv.length)) (hasT W H p x y (side lv.length)) (hasE W H p x y (side lv.length)) (side lv.length)) (resL b q lv)
    have hsl:=setL_len W H p x y (recL (predS m (topL W H p x y (side lv.length)) (lefL W H p x y (side lv.length)) (corL W H p x y (side lv.length)) (hasT W H p x y (side lv.length)) (hasE W H p x y (side lv.length)) (side lv.length)) (resL b q lv))
    rw [if_pos htw.1] at hre
    rw [put_eq hp,hd]
    rw [←hrn] at hf hds hn1 hn2 hn3 hn4 hpr hre hsl htw ⊢
    refine FnC.of_body tabOk Tryz.func76 Tryz.ntmps76 rfl (by decide +kernel) (by simp) fun G=>?_
    refine goR (r:=?_);and_intros<;>intros<;>try exact True.intro
    all_goals first|contradiction|omega|skip
    refine K.call ?_
    apply WpL.callI (ResidualOf_c.ok w h q b d lens lv hll)
    ·exact snapA
    ·exact locA
    ·exact outA
    ·exact frzA
    ·decide
    refine goR (r:=?_);and_intros<;>intros<;>try exact True.intro
    all_goals first|contradiction|omega|skip
    try dsimp only [List.append]
    apply WpA.regionNO 17 mixed (by decide +kernel)
    ·exact rfl
    ·exact rfl
    ·exact headNI
    ·exact trueA
    ·exact trueA
    ·exact rfl
    ·exact rfl
    ·exact rfl
    refine go (r:=?_);and_intros<;>intros<;>try exact True.intro
    all_goals first|contradiction|omega|exact hds
   ·have hd:=decide_eq_false (fun hh:PutOk W H p q x y m lv=>hm hh.2.2)
    have hmw2:modeW m=[]:=hmw.2 hm
    rw [put_no (of_decide_eq_false hd),hd]
    refine FnC.of_body tabOk Tryz.func76 Tryz.ntmps76 rfl (by decide +kernel) (by simp) fun G=>?_
    refine goR (r:=?_);and_intros<;>intros<;>try exact True.intro
    all_goals first|contradiction|omega|skip
    refine K.call ?_
    apply WpL.callI (ResidualOf_c.ok w h q b d lens lv hll)
    ·exact snapA
    ·exact locA
    ·exact outA
    ·exact frzA
    ·decide
    refine goR (r:=?_);and_intros<;>intros<;>try exact True.intro
    all_goals first|contradiction|omega
  ·have hd:=decide_eq_false (fun hh:PutOk W H p q x y m lv=>hf hh.1)
   rw [put_no (of_decide_eq_false hd),hd]
   rw [←hrn] at hf
   refine FnC.of_body tabOk Tryz.func76 Tryz.ntmps76 rfl (by decide +kernel) (by simp) fun G=>?_
   refine goR (r:=?_);and_intros<;>intros<;>try exact True.intro
   all_goals first|contradiction|omega|skip
   refine K.call ?_
   apply WpL.callI (ResidualOf_c.ok w h q b d lens lv hll)
   ·exact snapA
   ·exact locA
   ·exact outA
   ·exact frzA
   ·decide
   refine goR (r:=?_);and_intros<;>intros<;>try exact True.intro
   all_goals first|contradiction|omega
 ·have hd:=decide_eq_false (fun hh:PutOk W H p q x y m lv=>hok hh.2.1)
  have hrn:=resL_n (b:=b) hok
  have hr0:(resL b q lv).length=0:=by rw [hrn];rfl
  have hf0:¬Fits W H p x y (side 0):=fit0
  rw [put_no (of_decide_eq_false hd),hd]
  refine FnC.of_body tabOk Tryz.func76 Tryz.ntmps76 rfl (by decide +kernel) (by simp) fun G=>?_
  refine goR (r:=?_);and_intros<;>intros<;>try exact True.intro
  all_goals first|contradiction|omega|skip
  refine K.call ?_
  apply WpL.callI (ResidualOf_c.ok w h q b d lens lv hll)
  ·exact snapA
  ·exact locA
  ·exact outA
  ·exact frzA
  ·decide
  rw [hrn]
  refine goR (r:=?_);and_intros<;>intros<;>try exact True.intro
  all_goals first|contradiction|omega
 ⟩
end
end Go.Proofs.YtndflfipaddfoaaGreat
