/- Proved in this text: lemmas and contracts of functions that the claim uses (parts: UnpI, AbsFl, AbsYr, AbsPre, SamS, ParL, Cur, CurP, Draw, Draw2, Draw3). No condition. -/
import Derived.Test.YtndflfipaddfoaaGreatStM12
import Derived.Test.YtndflfipaddfoaaGreatStM13
import Derived.Test.YtndflfipaddfoaaGreatStM8
import Derived.Test.YtndflfipaddfoaaGreatStM6
import Derived.Test.YtndflfipaddfoaaGreatStM11
import Derived.Test.YtndflfipaddfoaaGreatStM10
import Derived.Test.YtndflfipaddfoaaGreatStM7
set_option linter.unusedVariables false
set_option linter.unusedSimpArgs false
set_option maxRecDepth 100000
set_option maxHeartbeats 4000000


namespace Go.Proofs.YtndflfipaddfoaaGreat
open Go Go.Abs
attribute [local irreducible] WpA WpL Rnd Blk Abs.Seq Abs.Fin Abs.FinG FnC FnG Only
instance strBits_c:Con 82 (∀ (w h q:Int) (b d:Bool) (l:List Int) (M:List Mbk),StOk w h q l M∧l.length≤1099511627776∧mw M≤1048576→Fn 82 [StA w h q b d l M] [XI (stK w h q b d l M M.length)] (.own 0 0 0 (stK w h q b d l M M.length).length)):=⟨fun w h q b d l M hM=>by
 obtain ⟨h0,hll,hmw1⟩:=hM
 have hmw:mw M=M.length+(M.map mn).sum:=rfl
 have hsm:SmM 1099511627776 M:=smM_of (by omega)
 have hhl:=hdL_len w h q b d l
 have hz:(hdL w h q b d l).length=(stK w h q b d l M 0).length:=by simp [stK]
 have hz0:hdL w h q b d l=stK w h q b d l M 0:=by simp [stK]
 have hhd:=h0.1
 refine FnC.of_body tabOk Tryz.func82 Tryz.ntmps82 rfl (by decide +kernel) (by simp) fun G=>?_
 refine go (r:=?_);and_intros<;>intros<;>try exact True.intro
 all_goals first|exact hsm|exact hhd|exact h0.1.2.2.1|exact h0.1.2.2.2.1|exact h0.1.2.2.2.2|(exact absurd h0 (by assumption))|skip
 refine WpA.loop (fun i:Nat=>⟨[(1,.ptr 0 0 0),(3,.own 1 0 0 (stK w h q b d l M i).length),(10,MbL M),(11,I M.length),(12,I i)],[⟨StC w h q b d l M,0,0,none⟩,XI (stK w h q b d l M i)]⟩) (fun i=>i≤M.length) (fun i=>M.length-i) 0 (by omega) (go (r:=?_)) (fun i hi=>?_)
 ·and_intros<;>first|exact True.intro|exact hz|exact hz0|exact hz.symm
 have hb:=stK_len w h q b d l M i
 have hsc:=fun hk=>stK_succ w h q b d l M i hk
 have hbl:=mbbL_len (M.getD i default).1 (M.getD i default).2 l
 have hsl:i<M.length→(stK w h q b d l M (i+1)).length=(stK w h q b d l M i).length+(mbbL (M.getD i default).1 (M.getD i default).2 l).length:=fun hk=>by rw [hsc hk,List.length_append];rfl
 by_cases hi2:i<M.length
 ·obtain ⟨hg1,hg2⟩:=smM_get hsm hi2
  have hmk:=ok_blk h0 hi2
  have hsl:=hsl hi2
  refine go (r:=?_);and_intros<;>intros<;>try exact True.intro
  all_goals first|contradiction|omega|exact hg2|exact hmk|exact hmk.2|(rw [hsc hi2];rfl)
 ·have ek:i=M.length:=by omega
  subst ek
  refine go (r:=?_);and_intros<;>intros<;>try exact True.intro
  all_goals first|contradiction|omega⟩
instance Unparse_c:Con 28 (∀ (w h q:Int) (b d:Bool) (l:List Int) (M:List Mbk),l.length≤1099511627776∧mw M≤1048576→Fn 28 [StA w h q b d l M] [] (Z (unpS w h q b d l M))):=⟨fun w h q b d l M hM=>by
 have hmw:mw M=M.length+(M.map mn).sum:=rfl
 have hsm:SmM 1099511627776 M:=smM_of (by omega)
 by_cases h0:StOk w h q l M
 ·have hd:=decide_eq_true h0
  have hres:unpS w h q b d l M=stopS (stK w h q b d l M M.length):=by rw [unpS,if_pos h0]
  have hst:=stK_small (b:=b) (d:=d) h0
  have h01:=b01_st w h q b d l M M.length
  rw [hres]
  refine FnC.of_body tabOk Tryz.func28 Tryz.ntmps28 rfl (by decide +kernel) (by simp) fun G=>?_
  refine go (r:=?_);and_intros<;>intros<;>try exact True.intro
  all_goals first|contradiction|omega|exact hsm|exact h01|exact h01 _ (by assumption)|exact h0.2.2|exact h0.1.2.2.1|exact h0.1.2.2.2.1|exact h0.1.2.2.2.2|exact h0
 ·have hd:=decide_eq_false h0
  have hres:unpS w h q b d l M=[]:=by rw [unpS,if_neg h0]
  rw [hres]
  refine FnC.of_body tabOk Tryz.func28 Tryz.ntmps28 rfl (by decide +kernel) (by simp) fun G=>?_
  refine go (r:=?_);and_intros<;>intros<;>try exact True.intro
  all_goals first|contradiction|omega|exact hsm⟩
end Go.Proofs.YtndflfipaddfoaaGreat


namespace Go.Abs
open Go
inductive Rf (k j e:Nat):List AV→List AV→Prop
 |nil:Rf k j e [] []
 |keep {V vs us}:V.still=true→V.nofre=true→Rf k j e vs us→Rf k j e (V::vs) (V::us)
 |own {k' off len vs us}:k'=k→Rf k j e vs us→Rf k j e (.own k' 0 off len::vs) (.own j e off len::us)
 |ptr {k' off vs us}:k'=k→Rf k j e vs us→Rf k j e (.ptr k' 0 off::vs) (.ptr j e off::us)
 |agg {ds es vs us}:Rf k j e ds es→Rf k j e vs us→Rf k j e (.agg ds::vs) (.agg es::us)
 |tup {ds es vs us}:Rf k j e ds es→Rf k j e vs us→Rf k j e (.tup ds::vs) (.tup es::us)
theorem Rf.rel {k j e:Nat} {S w} {ι ι':Nat→Spot} {O O':List AObj} {ob ob':AObj} (ho:O[k]?=some ob) (ho':O'[j]?=some ob') (he:ob.ep=0) (he':ob'.ep=e) (hsz:ob'.size=ob.size) (hι:ι' j=ι k) {vs us:List AV} (h:Rf k j e vs us):∀{xs},LRel S w ι O vs xs []→LRel S w ι' O' us xs []:=by
 induction h with
 |nil=>intro xs hl;cases hl;exact .nil
 |keep hs hn _ ih=>
  intro xs hl
  obtain ⟨v,vs',f1,f2,rfl,hv,hr,hf⟩:=hl.uncons
  obtain ⟨rfl,rfl⟩:f1=[]∧f2=[]:=by simpa using hf
  exact LRel.cons (still_any hv hs O' (fun _ h=>h) (fun _ _=>rfl) (fun _ _=>rfl)) (ih hr)
 |own hk _ ih=>
  intro xs hl
  subst hk
  cases hl with
  |own q1 q2 q3 r=>
   rw [ho] at q1;cases q1
   exact .own ho' (by omega) (fun _=>by rw [hsz,hι];exact q3 he.symm) (ih r)
 |ptr hk _ ih=>
  intro xs hl
  subst hk
  cases hl with
  |ptr q1 q2 q3 r=>
   rw [ho] at q1;cases q1
   exact .ptr ho' (by omega) (fun _=>by rw [hι];exact q3 he.symm) (ih r)
 |agg _ _ ih1 ih2=>
  intro xs hl
  obtain ⟨v,vs',f1,f2,rfl,hv,hr,hf⟩:=hl.uncons
  obtain ⟨rfl,rfl⟩:f1=[]∧f2=[]:=by simpa using hf
  obtain ⟨us',rfl,ha⟩:=LRel.agg_inv hv
  simpa using LRel.agg (ih1 ha) (ih2 hr)
 |tup _ _ ih1 ih2=>
  intro xs hl
  obtain ⟨v,vs',f1,f2,rfl,hv,hr,hf⟩:=hl.uncons
  obtain ⟨rfl,rfl⟩:f1=[]∧f2=[]:=by simpa using hf
  obtain ⟨us',rfl,ha⟩:=LRel.tup_inv hv
  simpa using LRel.tup (ih1 ha) (ih2 hr)
theorem RelAt.fillV {n m G S ι F T O a w} {d j:Nat} {V V':AV} {ob oj:AObj} (hV:Rf O.length j (oj.ep+1) [V] [V']) (hr:RelAt n m G S ι F ⟨(d,V)::T,O++[ob]⟩ a w) (hj:O[j]?=some oj) (hm:m≤j) (hob:ob.ep=0):
 ∃ι' F',RelAt n m G S ι' F' ⟨(d,V')::T,O.set j (ob.putE (oj.ep+1))++[deadO]⟩ a w:=by
 have hjl:j<O.length:=(List.getElem?_eq_some_iff.1 hj).1
 have hlast:(O++[ob])[O.length]?=some ob:=List.getElem?_concat_length
 have hO2:∀i:Nat,(O.set j (ob.putE (oj.ep+1))++[deadO])[i]?=if i=j then some (ob.putE (oj.ep+1)) else if i=O.length then some deadO else O[i]?:=by
  intro i
  by_cases h1:i=j
  ·subst h1;rw [if_pos rfl,List.getElem?_append_left (by simpa using hjl)];simp [hjl]
  ·rw [if_neg h1]
   have h1':¬j=i:=fun e=>h1 e.symm
   by_cases h2:i=O.length
   ·subst h2;rw [if_pos rfl,List.getElem?_append_right (by simp)];simp
   ·rw [if_neg h2]
    rcases Nat.lt_or_ge i O.length with h|h
    ·rw [List.getElem?_append_left (by simpa using h)];simp [List.getElem?_set,h1']
    ·rw [List.getElem?_eq_none (by simp;omega),List.getElem?_eq_none h]
 have hO1:∀i:Nat,i≠O.length→(O++[ob])[i]?=O[i]?:=by
  intro i hi
  rcases Nat.lt_or_ge i O.length with h|h
  ·rw [List.getElem?_append_left h]
  ·rw [List.getElem?_eq_none (by simp;omega),List.getElem?_eq_none h]
 have hjn:j≠O.length:=by omega
 have hlat:Later S w ι (O++[ob]) S w (upd (upd ι j (ι O.length)) O.length none) (O.set j (ob.putE (oj.ep+1))++[deadO]):=by
  refine ⟨fun _ h=>h,fun _ _=>rfl,fun i obi hi=>?_⟩
  by_cases h1:i=j
  ·subst h1;rw [hO1 _ hjn,hj] at hi;cases hi
   exact ⟨(ob.putE (oj.ep+1)),by rw [hO2,if_pos rfl],.inl (Nat.lt_succ_self _)⟩
  ·by_cases h2:i=O.length
   ·subst h2;rw [hlast] at hi;cases hi
    exact ⟨deadO,by rw [hO2,if_neg h1,if_pos rfl],.inl (by rw [hob];exact Nat.lt_succ_self _)⟩
   ·rw [hO1 _ h2] at hi
    exact ⟨obi,by rw [hO2,if_neg h1,if_neg h2];exact hi,.inr ⟨rfl,rfl,by rw [upd_other _ _ h2,upd_other _ _ h1]⟩⟩
 have hn:=hr.objs.obj O.length ob hlast
 refine ⟨upd (upd ι j (ι O.length)) O.length none,upd (upd F j (F O.length)) O.length [],hr.defers,hr.size,fun t'=>?_,⟨fun i obi hi=>?_,fun i hi=>?_,fun i i' hi hi' hii c hcm=>?_⟩,fun i hi c hcm=>?_,hr.base,hr.stable,hr.keeps,fun i hi=>?_,?_⟩
 ·have ht:=hr.tmps t'
  by_cases e:d=t'
  ·subst e
   have ht:VRel S w ι (O++[ob]) (look ((d,V)::T) d) (a.tmps.getD d undef) []:=ht
   show VRel _ _ _ _ (look ((d,V')::T) d) _ _
   rw [look_cons_same] at ht ⊢
   exact hV.rel (ob':=ob.putE (oj.ep+1)) hlast (by rw [hO2,if_pos rfl]) hob rfl rfl (by rw [upd_other _ _ hjn,upd_same]) ht
  ·have ht:VRel S w ι (O++[ob]) (look ((d,V)::T) t') (a.tmps.getD t' undef) []:=ht
   show VRel _ _ _ _ (look ((d,V')::T) t') _ _
   rw [look_cons_other _ _ _ _ e] at ht ⊢
   exact ht.mono hlat (fun _ _=>rfl)
 ·have hi:(O.set j (ob.putE (oj.ep+1))++[deadO])[i]?=some obi:=hi
  rw [hO2] at hi
  by_cases e1:i=j
  ·subst e1
   rw [if_pos rfl] at hi;cases hi
   rw [upd_other _ _ hjn,upd_other _ _ hjn,upd_same,upd_same]
   unfold ObjAt at hn ⊢
   cases hs:ι O.length with
   |none=>rw [hs] at hn;exact hn
   |some p=>
    obtain ⟨b,k⟩:=p
    rw [hs] at hn
    obtain ⟨cur,t,fz,f',h1,h2,h3,h4,h5,h6,h7⟩:=hn
    have h8:=h7.mono hlat (fun _ _=>rfl)
    rw [hs] at h8
    exact ⟨cur,t,fz,f',h1,h2,h3,h4,h5,h6,h8⟩
  ·rw [if_neg e1] at hi
   by_cases e2:i=O.length
   ·subst e2
    rw [if_pos rfl] at hi;cases hi
    rw [upd_same,upd_same];exact ⟨rfl,rfl⟩
   ·rw [if_neg e2] at hi
    rw [upd_other _ _ e2,upd_other _ _ e2,upd_other _ _ e1,upd_other _ _ e1]
    have ho:=hr.objs.obj i obi (by show (O++[ob])[i]?=_;rw [hO1 _ e2];exact hi)
    unfold ObjAt at ho ⊢
    cases hs:ι i with
    |none=>rw [hs] at ho;exact ho
    |some p=>
     obtain ⟨b,k⟩:=p
     rw [hs] at ho
     obtain ⟨cur,t,fz,f',h1,h2,h3,h4,h5,h6,h7⟩:=ho
     exact ⟨cur,t,fz,f',h1,h2,h3,h4,h5,h6,h7.mono hlat (fun _ _=>rfl)⟩
 ·have hi:i<(O.set j (ob.putE (oj.ep+1))++[deadO]).length:=hi
  simp only [List.length_append,List.length_set,List.length_singleton] at hi
  by_cases e2:i=O.length
  ·subst e2;rw [upd_same];exact List.nodup_nil
  ·rw [upd_other _ _ e2]
   by_cases e1:i=j
   ·subst e1;rw [upd_same];exact hr.objs.nodup O.length (by show O.length<(O++[ob]).length;simp)
   ·rw [upd_other _ _ e1];exact hr.objs.nodup i (by show i<(O++[ob]).length;simp;omega)
 ·have hi:i<(O.set j (ob.putE (oj.ep+1))++[deadO]).length:=hi
  have hi':i'<(O.set j (ob.putE (oj.ep+1))++[deadO]).length:=hi'
  simp only [List.length_append,List.length_set,List.length_singleton] at hi hi'
  by_cases e2:i=O.length
  ·subst e2;rw [upd_same] at hcm;cases hcm
  ·rw [upd_other _ _ e2] at hcm
   by_cases e3:i'=O.length
   ·subst e3;rw [upd_same];intro h;cases h
   ·rw [upd_other _ _ e3]
    have hL:(O++[ob]).length=O.length+1:=by simp
    by_cases e1:i=j
    ·subst e1
     rw [upd_same] at hcm
     rw [upd_other _ _ (fun e=>hii e.symm)]
     exact hr.objs.apart O.length i' (by show O.length<(O++[ob]).length;omega) (by show i'<(O++[ob]).length;omega) (fun e=>e3 e.symm) c hcm
    ·rw [upd_other _ _ e1] at hcm
     by_cases e4:i'=j
     ·subst e4;rw [upd_same]
      exact hr.objs.apart i O.length (by show i<(O++[ob]).length;omega) (by show O.length<(O++[ob]).length;omega) e2 c hcm
     ·rw [upd_other _ _ e4]
      exact hr.objs.apart i i' (by show i<(O++[ob]).length;omega) (by show i'<(O++[ob]).length;omega) hii c hcm
 ·have hi:i<(O.set j (ob.putE (oj.ep+1))++[deadO]).length:=hi
  simp only [List.length_append,List.length_set,List.length_singleton] at hi
  have hL:(O++[ob]).length=O.length+1:=by simp
  by_cases e2:i=O.length
  ·subst e2;rw [upd_same] at hcm;cases hcm
  ·rw [upd_other _ _ e2] at hcm
   by_cases e1:i=j
   ·subst e1;rw [upd_same] at hcm;exact hr.foot O.length (by show O.length<(O++[ob]).length;omega) c hcm
   ·rw [upd_other _ _ e1] at hcm;exact hr.foot i (by show i<(O++[ob]).length;omega) c hcm
 ·rw [upd_other _ _ (by omega),upd_other _ _ (by omega)];exact hr.spots i hi
 ·show m≤(O.set j (ob.putE (oj.ep+1))++[deadO]).length
  simp only [List.length_append,List.length_set,List.length_singleton];omega
section
variable {P:Program} {n m:Nat} {G:Ctx} {O:List AObj} {Q:Exit→St→Prop} {ops:Array Oper}
theorem WpL.putV {T:List (Nat×AV)} {Ov:List AObj} {p d:Nat} {V V':AV} {ob:AObj} (hV:Rf (O++Ov).length (O.length+p) 1 [V] [V']) (hp:Ov[p]?=some roomO) (hm:m≤O.length+p) (hob:ob.ep=0) (hst:ob.cells.all AV.still=true):
 WpL P n m G false ops [] ⟨(d,V)::T,O++Ov++[ob]⟩ (Only ⟨(d,V')::T,O++(Fil.put p ob.put1).run Ov⟩):=by
 refine WpL.weak (σ':=⟨(d,V')::T,(O++Ov).set (O.length+p) (ob.putE 1)++[deadO]⟩) ?_ ?_
 ·rintro n' G' a w ⟨S,ι,F,hr⟩
  obtain ⟨ι',F',h⟩:=hr.fillV (V:=V) (V':=V') (j:=O.length+p) (oj:=roomO) hV (fill_at hp) hm hob
  exact ⟨S,ι',F',h⟩
 ·refine WpL.nil (Only.mk ?_)
  rw [fill_eq];rfl
theorem WpL.putA {T:List (Nat×AV)} {Ov:List AObj} {p d:Nat} {V V':AV} {ob:AObj} (hV:Rf (O++Ov).length (O.length+p) 1 [V] [V']) (hp:Ov[p]?=some roomO) (hm:m≤O.length+p) (hob:ob.ep=0):
 WpL P n m G false ops [] ⟨(d,V)::T,O++Ov++[ob]⟩ (Only ⟨(d,V')::T,O++(Fil.put p ob.put1).run Ov⟩):=by
 refine WpL.weak (σ':=⟨(d,V')::T,(O++Ov).set (O.length+p) (ob.putE 1)++[deadO]⟩) ?_ ?_
 ·rintro n' G' a w ⟨S,ι,F,hr⟩
  obtain ⟨ι',F',h⟩:=hr.fillV (V:=V) (V':=V') (j:=O.length+p) (oj:=roomO) hV (fill_at hp) hm hob
  exact ⟨S,ι',F',h⟩
 ·refine WpL.nil (Only.mk ?_)
  rw [fill_eq];rfl
end
end Go.Abs


namespace Go.Abs
open Go
inductive HeadR (P:Program) (n m:Nat) (G:Ctx) (ops:Array Oper) (T0:List (Nat×AV)) (O Oi:List AObj) (keep sh:List Nat):List (Nat×AV)→List Fil→List Oper→List (Nat×AV)→List Fil→Prop
 |nil {fs gs}:HeadR P n m G ops T0 O Oi keep sh fs gs [] fs gs
 |cons {fs out:List (Nat×AV)} {gs:List Fil} {o:Oper} {l:List Oper} {d:Nat} {V:AV} {F:List (Nat×AV)} {ks:List Fil} (k:Fil) (hF:deps fs o=F)
   (h:∀Tv Ov,Oi.length≤Ov.length→(∀ p ob,k.spot=some (p,ob)→Ov[p]?=(fillAll gs Oi)[p]?)→(∀ j f p ob,waits o j=true→gs[j]?=some f→f.spot=some (p,ob)→memB p sh=false→Ov[p]?=some ob)→(∀ q,memB q keep=true→Ov[q]?=Oi[q]?)→
    WpL P n m G false ops [o] ⟨F++(T0++Tv),O++Ov⟩ (Only ⟨(d,V)::(F++(T0++Tv)),O++k.run Ov⟩)) (r:HeadR P n m G ops T0 O Oi keep sh (fs++[(d,V)]) (gs++[k]) l out ks):HeadR P n m G ops T0 O Oi keep sh fs gs (o::l) out ks
section
variable {P:Program} {n m:Nat} {G:Ctx} {ops:Array Oper} {T0:List (Nat×AV)} {O Oi:List AObj} {keep sh:List Nat}
theorem HeadR.pre {fs gs l out ks} (h:HeadR P n m G ops T0 O Oi keep sh fs gs l out ks):∃r s,out=fs++r∧r.length=l.length∧ks=gs++s∧s.length=l.length:=by
 induction h with
 |nil=>exact ⟨[],[],by simp,rfl,by simp,rfl⟩
 |@cons fs out gs o l d V F ks k _ _ _ ih=>obtain ⟨r,s,h1,h2,h3,h4⟩:=ih;exact ⟨(d,V)::r,k::s,by rw [h1];simp,by simp [h2],by rw [h3];simp,by simp [h4]⟩
theorem HeadR.at {fs gs l out ks} (h:HeadR P n m G ops T0 O Oi keep sh fs gs l out ks) (hg:gs.length=fs.length):∀{j:Nat} {o:Oper},l[j]?=some o→∃d V k,out[fs.length+j]?=some (d,V)∧ks[fs.length+j]?=some k∧
 ∀Tv Ov,Oi.length≤Ov.length→(∀ p ob,k.spot=some (p,ob)→Ov[p]?=(fillAll (ks.take (fs.length+j)) Oi)[p]?)→(∀ i f p ob,waits o i=true→(ks.take (fs.length+j))[i]?=some f→f.spot=some (p,ob)→memB p sh=false→Ov[p]?=some ob)→(∀ q,memB q keep=true→Ov[q]?=Oi[q]?)→
  WpL P n m G false ops [o] ⟨deps (out.take (fs.length+j)) o++(T0++Tv),O++Ov⟩ (Only ⟨(d,V)::(deps (out.take (fs.length+j)) o++(T0++Tv)),O++k.run Ov⟩):=by
 induction h with
 |nil=>intro j o h;simp at h
 |@cons fs out gs o l d V F ks k hF h r ih=>
  intro j o' hj
  obtain ⟨r',s',h1,h2,h3,h4⟩:=r.pre
  cases j with
  |zero=>
   simp only [List.getElem?_cons_zero,Option.some.injEq] at hj
   subst hj
   refine ⟨d,V,k,by rw [h1];simp,by rw [h3];simp [hg],?_⟩
   have:out.take (fs.length+0)=fs:=by rw [h1,Nat.add_zero,List.append_assoc,List.take_left'];rfl
   have e2:ks.take (fs.length+0)=gs:=by rw [h3,Nat.add_zero,List.append_assoc,List.take_left'];exact hg
   rw [this,hF,e2];exact h
  |succ j=>
   have:=ih (by simp [hg]) (j:=j) (o:=o') (by simpa using hj)
   rw [List.length_append,List.length_singleton,Nat.add_assoc,Nat.add_comm 1 j] at this
   simpa using this
theorem fillAll_cases:∀(L:List Fil) (Oi:List AObj) (q:Nat),q<Oi.length→(∃ (i:Nat) (f:Fil) (ob:AObj),L[i]?=some f∧f.spot=some (q,ob)∧(∀ (j:Nat) (g:Fil) (oc:AObj),i<j→L[j]?=some g→g.spot≠some (q,oc))∧(fillAll L Oi)[q]?=some ob)∨
 ((∀ (j:Nat) (g:Fil) (oc:AObj),L[j]?=some g→g.spot≠some (q,oc))∧(fillAll L Oi)[q]?=Oi[q]?)
 |[],Oi,q,hq=>.inr ⟨fun j g oc h=>by simp at h,rfl⟩
 |f::L,Oi,q,hq=>by
  rw [fillAll]
  cases hs:f.spot with
  |none=>
   rcases fillAll_cases L Oi q hq with ⟨i,g,ob,h1,h2,h3,h4⟩|⟨h1,h2⟩
   ·refine .inl ⟨i+1,g,ob,by simpa using h1,h2,fun j g' oc hj hg=>?_,h4⟩
    cases j with
    |zero=>omega
    |succ j=>exact h3 j g' oc (by omega) (by simpa using hg)
   ·refine .inr ⟨fun j g oc hg=>?_,h2⟩
    cases j with
    |zero=>simp at hg;subst hg;rw [hs];simp
    |succ j=>exact h1 j g oc (by simpa using hg)
  |some x=>
   obtain ⟨p,ob0⟩:=x
   simp only
   rcases fillAll_cases L (Oi.set p ob0) q (by simpa using hq) with ⟨i,g,ob,h1,h2,h3,h4⟩|⟨h1,h2⟩
   ·refine .inl ⟨i+1,g,ob,by simpa using h1,h2,fun j g' oc hj hg=>?_,h4⟩
    cases j with
    |zero=>omega
    |succ j=>exact h3 j g' oc (by omega) (by simpa using hg)
   ·by_cases e:p=q
    ·subst e
     refine .inl ⟨0,f,ob0,by simp,hs,fun j g' oc hj hg=>?_,by rw [h2,List.getElem?_set_self hq]⟩
     cases j with
     |zero=>omega
     |succ j=>exact h1 j g' oc (by simpa using hg)
    ·refine .inr ⟨fun j g oc hg=>?_,by rw [h2,List.getElem?_set,if_neg e]⟩
     cases j with
     |zero=>simp at hg;subst hg;rw [hs];intro h;cases h;exact e rfl
     |succ j=>exact h1 j g oc (by simpa using hg)
structure RoomR (ks:List Fil) (Oi:List AObj) (k:Nat) (listed:Array Bool) (Ov:List AObj):Prop where
 len:Ov.length=Oi.length+((List.range k).filter fun i=>listed.getD i false&&isPut ks i).length
 cur:∀q,q<Oi.length→(∃ i f ob,i<k∧listed.getD i false=true∧ks[i]?=some f∧f.spot=some (q,ob)∧(∀ j g oc,i<j→j<k→listed.getD j false=true→ks[j]?=some g→g.spot≠some (q,oc))∧Ov[q]?=some ob)∨
  ((∀ j g oc,j<k→listed.getD j false=true→ks[j]?=some g→g.spot≠some (q,oc))∧Ov[q]?=Oi[q]?)
 dead:∀q,Oi.length≤q→q<Ov.length→Ov[q]?=some deadO
structure RoomROk (ops:Array Oper) (sh:List Nat) (ks:List Fil) (c k:Nat):Prop where
 lt:∀i f p ob,i<k→ks[i]?=some f→f.spot=some (p,ob)→p<c
 chain:∀i j f g p ob oc,i<j→j<k→ks[i]?=some f→ks[j]?=some g→f.spot=some (p,ob)→g.spot=some (p,oc)→memB p sh=true∧∃o,ops[j]?=some o∧waits o i=true
theorem waits_spec {o:Oper} {j:Nat} (h:waits o j=true):∃e∈o.after,Region.binds .any e=true∧e.on=j:=by
 obtain ⟨e,he,hb⟩:=List.any_eq_true.1 h
 rw [Bool.and_eq_true] at hb
 exact ⟨e,by simpa using he,hb.1,Nat.eq_of_beq_eq_true hb.2⟩
theorem RoomR.before {ks:List Fil} {k i:Nat} {listed:Array Bool} {Ov:List AObj} {f:Fil} {o:Oper} (h:RoomR ks Oi k listed Ov) (ok:RoomROk ops sh ks Oi.length k) (inv:HeadInv .any ops k listed) (hik:i<k) (hu:listed.getD i false=false) (hall:∀e∈o.after,Region.binds .any e=true→listed.getD e.on false=true) (ho:ops[i]?=some o) (hf:ks[i]?=some f) {p:Nat} {ob:AObj} (hsp:f.spot=some (p,ob)):
 Ov[p]?=(fillAll (ks.take i) Oi)[p]?:=by
 have hp:=ok.lt i f p ob hik hf hsp
 have hbef:∀j g oc,j<i→ks[j]?=some g→g.spot=some (p,oc)→listed.getD j false=true:=by
  intro j g oc hj hg hs
  obtain ⟨_,o',ho',hw⟩:=ok.chain j i g f p oc ob hj hik hg hf hs hsp
  rw [ho] at ho';cases ho'
  obtain ⟨e,he,hb,rfl⟩:=waits_spec hw
  exact hall e he hb
 have haft:∀j g oc,i<j→j<k→ks[j]?=some g→g.spot=some (p,oc)→listed.getD j false=false:=by
  intro j g oc hj hjk hg hs
  obtain ⟨_,o',ho',hw⟩:=ok.chain i j f g p ob oc hj hjk hf hg hsp hs
  cases hl:listed.getD j false with
  |false=>rfl
  |true=>
   obtain ⟨e,he,hb,rfl⟩:=waits_spec hw
   have:=inv.closed j o' ho' hl e he hb
   rw [hu] at this;cases this
 have htk:∀j g,(ks.take i)[j]?=some g→j<i∧ks[j]?=some g:=by
  intro j g hg
  rw [List.getElem?_take] at hg
  split at hg
  ·rename_i hj;exact ⟨hj,hg⟩
  ·cases hg
 rcases h.cur p hp with ⟨j,g,oc,hjk,hl,hg,hs,hlast,hv⟩|⟨hno,hv⟩<;>rcases fillAll_cases (ks.take i) Oi p hp with ⟨j2,g2,oc2,hg2,hs2,hlast2,hv2⟩|⟨hno2,hv2⟩
 ·obtain ⟨hj2,hg2⟩:=htk j2 g2 hg2
  have hji:j<i:=by
   rcases Nat.lt_trichotomy j i with h1|h1|h1
   ·exact h1
   ·subst h1;rw [hu] at hl;cases hl
   ·rw [haft j g oc h1 hjk hg hs] at hl;cases hl
  have:j=j2:=by
   rcases Nat.lt_trichotomy j j2 with h1|h1|h1
   ·exact absurd hs2 (hlast j2 g2 oc2 h1 (by omega) (hbef j2 g2 oc2 hj2 hg2 hs2) hg2)
   ·exact h1
   ·exact absurd hs (hlast2 j g oc h1 (by rw [List.getElem?_take,if_pos hji];exact hg))
  subst this
  rw [hg] at hg2;cases hg2
  rw [hs] at hs2;cases hs2
  rw [hv,hv2]
 ·have hji:j<i:=by
   rcases Nat.lt_trichotomy j i with h1|h1|h1
   ·exact h1
   ·subst h1;rw [hu] at hl;cases hl
   ·rw [haft j g oc h1 hjk hg hs] at hl;cases hl
  exact absurd hs (hno2 j g oc (by rw [List.getElem?_take,if_pos hji];exact hg))
 ·obtain ⟨hj2,hg2⟩:=htk j2 g2 hg2
  exact absurd hs2 (hno j2 g2 oc2 (by omega) (hbef j2 g2 oc2 hj2 hg2 hs2) hg2)
 ·rw [hv,hv2]
theorem RoomR.step {ks:List Fil} {k i:Nat} {listed:Array Bool} {Ov:List AObj} {f:Fil} (h:RoomR ks Oi k listed Ov) (ok:RoomROk ops sh ks Oi.length k) (inv:HeadInv .any ops k listed) (hik:i<k) (hs:i<listed.size) (hu:listed.getD i false=false) (hf:ks[i]?=some f):
 RoomR ks Oi k (listed.setIfInBounds i true) (f.run Ov):=by
 have hself:(listed.setIfInBounds i true).getD i false=true:=by simp [hs]
 have hcnt:=count_set (f:=isPut ks) hik hs hu
 have hlen:=h.len
 have hp:isPut ks i=f.isPut:=by unfold isPut;rw [hf];rfl
 rw [hp] at hcnt
 have hrl:(f.run Ov).length=Ov.length+(if f.isPut=true then 1 else 0):=by cases f<;>simp [Fil.run,Fil.isPut]
 have hle:Oi.length≤Ov.length:=by omega
 have hoth:∀q,q<Ov.length→(∀ p ob,f.spot=some (p,ob)→p≠q)→(f.run Ov)[q]?=Ov[q]?:=by
  intro q hq hne
  cases f with
  |none=>rfl
  |put p ob=>
   have:=hne p ob rfl
   unfold Fil.run
   rw [List.getElem?_append_left (by simpa using hq),List.getElem?_set,if_neg this]
  |step p ob=>
   have:=hne p ob rfl
   unfold Fil.run
   rw [List.getElem?_set,if_neg this]
 have hown:∀p ob,f.spot=some (p,ob)→(f.run Ov)[p]?=some ob:=by
  intro p ob e
  have hpc:=ok.lt i f p ob hik hf e
  cases f with
  |none=>cases e
  |put p' ob'=>
   cases e
   unfold Fil.run
   rw [List.getElem?_append_left (by rw [List.length_set];omega),List.getElem?_set_self (by omega)]
  |step p' ob'=>
   cases e
   unfold Fil.run
   rw [List.getElem?_set_self (by omega)]
 refine ⟨by rw [hrl,hcnt,hlen];split<;>omega,fun q hq=>?_,fun q h1 h2=>?_⟩
 ·by_cases hq2:∃ob,f.spot=some (q,ob)
  ·obtain ⟨ob,hsp⟩:=hq2
   refine .inl ⟨i,f,ob,hik,hself,hf,hsp,fun j g oc hj hjk hl hg hs2=>?_,hown q ob hsp⟩
   rw [getD_set_ne false (by omega)] at hl
   obtain ⟨_,o',ho',hw⟩:=ok.chain i j f g q ob oc hj hjk hf hg hsp hs2
   obtain ⟨e,he,hb,rfl⟩:=waits_spec hw
   have:=inv.closed j o' ho' hl e he hb
   rw [hu] at this;cases this
  ·have hne:∀p ob,f.spot=some (p,ob)→p≠q:=fun p ob hsp e=>hq2 ⟨ob,e▸hsp⟩
   rw [hoth q (by omega) hne]
   rcases h.cur q hq with ⟨j,g,oc,hjk,hl,hg,hs2,hlast,hv⟩|⟨hno,hv⟩
   ·have hij:i≠j:=by rintro rfl;rw [hu] at hl;cases hl
    refine .inl ⟨j,g,oc,hjk,by rw [getD_set_ne false hij];exact hl,hg,hs2,fun j2 g2 oc2 h1 h2 h3 h4=>?_,hv⟩
    by_cases e:i=j2
    ·subst e;rw [hf] at h4;cases h4;exact fun h5=>hq2 ⟨_,h5⟩
    ·rw [getD_set_ne false e] at h3;exact hlast j2 g2 oc2 h1 h2 h3 h4
   ·refine .inr ⟨fun j2 g2 oc2 h2 h3 h4=>?_,hv⟩
    by_cases e:i=j2
    ·subst e;rw [hf] at h4;cases h4;exact fun h5=>hq2 ⟨_,h5⟩
    ·rw [getD_set_ne false e] at h3;exact hno j2 g2 oc2 h2 h3 h4
 ·rcases Nat.lt_or_ge q Ov.length with h3|h3
  ·rw [hoth q h3 (fun p ob e1=>by have:=ok.lt i f p ob hik hf e1;omega)]
   exact h.dead q h1 h3
  ·cases f with
   |none=>exact absurd h2 (by simp [Fil.run];omega)
   |step p ob=>exact absurd h2 (by simp [Fil.run];omega)
   |put p ob=>
    simp [Fil.run] at h2
    have e:q=Ov.length:=by omega
    subst e
    unfold Fil.run
    rw [List.getElem?_append_right (by simp)];simp
def GoodR (n m:Nat) (G:Ctx) (T0 out:List (Nat×AV)) (O Oi:List AObj) (k:Nat) (ks:List Fil) (listed:Array Bool) (a:Act) (w:World):Prop:=
 ∃T Ov,Rel n m G ⟨T,O++Ov⟩ a w∧RoomR ks Oi k listed Ov∧(∀ (i d:Nat) (V:AV),out[i]?=some (d,V)→listed.getD i false=true→look T d=V)∧∀t,has out t=false→look T t=look T0 t
theorem head_stepR {out:List (Nat×AV)} {ks:List Fil} {k:Nat} (H:Heads ops T0 out k) (ok:RoomROk ops sh ks Oi.length k) (hkp:∀q,memB q keep=true→q<Oi.length∧∀i f p ob,i<k→ks[i]?=some f→f.spot=some (p,ob)→p≠q) {Q:Exit→Act→World→Prop} (hJ:∀{j:Nat} {o:Oper},j<k→ops[j]?=some o→∃d V f,out[j]?=some (d,V)∧ks[j]?=some f∧
 ∀Tv Ov,Oi.length≤Ov.length→(∀ p ob,f.spot=some (p,ob)→Ov[p]?=(fillAll (ks.take j) Oi)[p]?)→(∀ i f p ob,waits o i=true→(ks.take j)[i]?=some f→f.spot=some (p,ob)→memB p sh=false→Ov[p]?=some ob)→(∀ q,memB q keep=true→Ov[q]?=Oi[q]?)→WpL P n m G false ops [o] ⟨deps (out.take j) o++(T0++Tv),O++Ov⟩ (Only ⟨(d,V)::(deps (out.take j) o++(T0++Tv)),O++f.run Ov⟩))
 {listed:Array Bool} (inv:HeadInv .any ops k listed) {i:Nat} (hi:i∈Region.ready .any ops listed) (hik:i<k) {a w} (hg:GoodR n m G T0 out O Oi k ks listed a w) {K:Act→World→Prop}
 (hK:∀a' w',GoodR n m G T0 out O Oi k ks (listed.setIfInBounds i true) a' w'→K a' w'):wpOp P ops Q i K a w:=by
 obtain ⟨hun,o,ho,hall⟩:=mem_ready.1 hi
 obtain ⟨T,Ov,hr,hroom,h1,h2⟩:=hg
 obtain ⟨d,V,f,hout,hkf,hw⟩:=hJ hik ho
 have hF:∀t U,(t,U)∈deps (out.take i) o→look T t=U:=by
  intro t U hm
  simp only [deps,List.mem_filterMap] at hm
  obtain ⟨e,he,hx⟩:=hm
  split at hx
  ·rename_i hb
   have he':e∈o.after:=by simpa using he
   have hx':out[e.on]?=some (t,U):=by
    rw [List.getElem?_take] at hx
    split at hx
    ·exact hx
    ·simp at hx
   exact h1 _ _ _ hx' (hall e he' hb)
  ·simp at hx
 have same:∀t,look (deps (out.take i) o++(T0++T)) t=look T t:=by
  intro t
  rw [look_append]
  split
  ·rename_i h;exact (hF _ _ (has_look h)).symm
  ·rw [look_append]
   split
   ·rename_i h
    refine (h2 t ?_).symm
    cases hc:has out t with
    |false=>rfl
    |true=>have:=H.fresh _ (has_look hc);simp only at this;rw [this] at h;cases h
   ·rfl
 have hiu:listed.getD i false=false:=getD_both hun
 have hdep:∀j g p ob,waits o j=true→(ks.take i)[j]?=some g→g.spot=some (p,ob)→memB p sh=false→Ov[p]?=some ob:=by
  intro j g p ob hwt hg hsp hsh
  obtain ⟨e,he,hb,rfl⟩:=waits_spec hwt
  have hl:=hall e he hb
  rw [List.getElem?_take] at hg
  split at hg
  ·rename_i hji
   have hp:=ok.lt e.on g p ob (by omega) hg hsp
   rcases hroom.cur p hp with ⟨j2,g2,oc,hjk,hl2,hg2,hs2,hlast,hv⟩|⟨hno,hv⟩
   ·have hj:j2=e.on:=by
     rcases Nat.lt_trichotomy j2 e.on with h3|h3|h3
     ·have:=(ok.chain j2 e.on g2 g p oc ob h3 (by omega) hg2 hg hs2 hsp).1
      rw [hsh] at this;cases this
     ·exact h3
     ·have:=(ok.chain e.on j2 g g2 p ob oc h3 hjk hg hg2 hsp hs2).1
      rw [hsh] at this;cases this
    subst hj
    rw [hg] at hg2;cases hg2
    rw [hsp] at hs2;cases hs2
    exact hv
   ·exact absurd hsp (hno e.on g ob (by omega) hl hg)
  ·cases hg
 have hrest:∀q,memB q keep=true→Ov[q]?=Oi[q]?:=by
  intro q hq
  obtain ⟨hlt,hno⟩:=hkp q hq
  rcases hroom.cur q hlt with ⟨j,g,oc,hjk,_,hg,hs2,_,_⟩|⟨_,hv⟩
  ·exact absurd rfl (hno j g q oc hjk hg hs2)
  ·exact hv
 have hw':=hw T Ov (by rw [hroom.len];omega) (fun p ob e=>hroom.before ok inv hik hiu hall ho hkf e) hdep hrest a w (hr.relook same)
 have hst:=hroom.step ok inv hik (by rw [inv.size];have:=(Array.getElem?_eq_some_iff.1 ho).1;omega) hiu hkf
 simp only at hw'
 have good:∀a' w',Rel n m G ⟨(d,V)::(deps (out.take i) o++(T0++T)),O++f.run Ov⟩ a' w'→GoodR n m G T0 out O Oi k ks (listed.setIfInBounds i true) a' w':=by
  intro a' w' hr'
  refine ⟨_,_,hr',hst,fun j d' V' hj hl=>?_,fun t ht=>?_⟩
  ·by_cases hij:i=j
   ·subst hij;rw [hout] at hj;cases hj;exact look_cons_same _ _ _
   ·rw [getD_set_ne false hij] at hl
    have hne:d≠d':=by rintro rfl;exact hij (out_inj H.nodup hout hj)
    rw [look_cons_other _ _ _ _ hne,same]
    exact h1 _ _ _ hj hl
  ·have hne:d≠t:=by
    rintro rfl
    have:=has_mem (List.mem_of_getElem? hout)
    rw [ht] at this;cases this
   rw [look_cons_other _ _ _ _ hne,same];exact h2 t ht
 have only:∀e a' w',(∃ σ',Only ⟨(d,V)::(deps (out.take i) o++(T0++T)),O++f.run Ov⟩ e σ'∧Rel n m G σ' a' w')→e=.normal∧K a' w':=by
  rintro e a' w' ⟨σ',hq,hr'⟩
  cases e<;>first|(simp only [Only] at hq;subst hq;exact ⟨rfl,hK _ _ (good _ _ hr')⟩)|exact hq.elim
 unfold wpOp
 simp only [ho]
 change wpList P ops _ [o] a w at hw'
 unfold wpList at hw'
 by_cases hwant:Region.wanted o (yielded ops a.tmps)=true
 ·rw [if_pos hwant] at hw' ⊢
  rcases hw' with hw'|⟨_,a',w',hx⟩
  ·refine .inl ?_
   unfold Oper.wp at hw' ⊢
   generalize (execOp a.eval o).run P w=r at*
   cases r with
   |ok x w1=>
    cases x<;>simp only [Oper.upon] at hw' ⊢
    case value v=>exact (only _ _ _ hw').2
    case skip=>exact (only _ _ _ hw').2
    case defer d=>exact (only _ _ _ hw').2
    case enter f args=>
     refine hw'.mono fun e w2 h2=>?_
     cases e with
     |returned v=>exact (only _ _ _ h2).2
     |panicked c=>exact absurd (only _ _ _ h2).1 (by simp)
     |outgrown=>obtain ⟨_,_,hf⟩:=h2;exact absurd (only _ _ _ hf).1 (by simp)
    case row r ar=>exact hw'.mono fun v w2 h2=>(only _ _ _ h2).2
   |halt x w1=>cases x<;>simp only [Oper.upon] at hw' ⊢<;>first|exact absurd (only _ _ _ hw').1 (by simp)|exact hw'.elim|(obtain ⟨_,_,hf⟩:=hw';exact absurd (only _ _ _ hf).1 (by simp))
  ·exact absurd (only _ _ _ hx).1 (by simp)
 ·rw [if_neg hwant] at hw' ⊢
  exact (only _ _ _ hw').2
theorem WpA.regionR {l:List Oper} {id:Nat} {out T1:List (Nat×AV)} {ks:List Fil} {Q:Exit→St→Prop} (k:Nat) (hm:P.follows .mixedOrders=true) (hB:mixB l.toArray k=true)
 (hJ:HeadR P n m G l.toArray T0 O Oi keep sh [] [] (l.take k) out ks) (hok:RoomROk l.toArray sh ks Oi.length k) (hkp:∀q,memB q keep=true→q<Oi.length∧∀i f p ob,i<k→ks[i]?=some f→f.spot=some (p,ob)→p≠q) (hnd:nodupB (out.map (·.1))=true) (hfr:(out.all fun p=>!has T0 p.1)=true)
 (hT1:out++T0=T1) (h:WpL P n m G false l.toArray (l.drop k) ⟨T1,O++(fillAll ks Oi++List.replicate ((List.range k).filter fun i=>isPut ks i).length deadO)⟩ Q):WpA P n m G (.region id l.toArray true) ⟨T0,O++Oi⟩ Q:=fun a w hr=>by
 subst hT1
 simp only [mixB,Bool.and_eq_true,decide_eq_true_eq,Bool.or_eq_true] at hB
 obtain ⟨⟨⟨hks,hback⟩,hsc⟩,hseq⟩:=hB
 have hkl:k≤l.length:=by simpa using hks
 have htl:(l.take k).length=k:=by simp;omega
 obtain ⟨r,s,hr1,hr2,hr3,hr4⟩:=hJ.pre
 have hlen:out.length=k:=by rw [hr1];simp [hr2];omega
 have hklen:ks.length=k:=by rw [hr3];simp [hr4];omega
 have H:Heads l.toArray T0 out k:=⟨hlen,nodupB_spec hnd,fun p hp=>by have:=List.all_eq_true.1 hfr p hp;simpa using this,fun i hi o ho e he hb=>by
  have h1:=List.all_eq_true.1 hback i (List.mem_range.2 hi)
  rw [ho] at h1
  have h2:=List.all_eq_true.1 h1 e (by simpa using he)
  simp only [Bool.or_eq_true,Bool.not_eq_true',decide_eq_true_eq] at h2
  rcases h2 with h2|h2
  ·rw [hb] at h2;cases h2
  ·exact h2⟩
 have hJ':∀{j:Nat} {o:Oper},j<k→l.toArray[j]?=some o→∃d V f,out[j]?=some (d,V)∧ks[j]?=some f∧
  ∀Tv Ov,Oi.length≤Ov.length→(∀ p ob,f.spot=some (p,ob)→Ov[p]?=(fillAll (ks.take j) Oi)[p]?)→(∀ i f p ob,waits o i=true→(ks.take j)[i]?=some f→f.spot=some (p,ob)→memB p sh=false→Ov[p]?=some ob)→(∀ q,memB q keep=true→Ov[q]?=Oi[q]?)→WpL P n m G false l.toArray [o] ⟨deps (out.take j) o++(T0++Tv),O++Ov⟩ (Only ⟨(d,V)::(deps (out.take j) o++(T0++Tv)),O++f.run Ov⟩):=by
  intro j o hj ho
  have ho':(l.take k)[j]?=some o:=by rw [List.getElem?_take,if_pos hj];simpa using ho
  have:=hJ.at rfl ho'
  simpa using this
 have inv0:HeadInv .any l.toArray k (Array.replicate l.toArray.size false):=
  ⟨by simp,fun j oj _ hl=>(by rw [getD_replicate_false] at hl;cases hl),fun t _ ht=>getD_in (by simpa using ht) (getD_replicate_false _ _)⟩
 have room0:RoomR ks Oi k (Array.replicate l.toArray.size false) Oi:=by
  refine ⟨?_,fun q _=>.inr ⟨fun j g oc _ hl=>(by rw [getD_replicate_false] at hl;cases hl),rfl⟩,fun q h1 h2=>by omega⟩
  have:((List.range k).filter fun i=>(Array.replicate l.toArray.size false).getD i false&&isPut ks i)=[]:=by
   rw [List.filter_eq_nil_iff];intro i _;rw [getD_replicate_false];simp
  rw [this];simp
 refine wp_region_any hm ?_
 have fin:=any_order (P:=P) (GP:=GoodR n m G T0 out O Oi k ks) (g:=l.toArray.size-k) (Q:=fun e a' w'=>∃σ',Q e σ'∧Rel n m G σ' a' w') H hks (fun hk=>hsc.resolve_left (by omega)) (fun inv _ hi hik _ _ hg _ hK=>head_stepR H hok hkp hJ' inv hi hik hg hK) (fun listed a w inv hall hg=>by
  obtain ⟨T,Ov,hrT,hroom,h1,h2⟩:=hg
  have hOv:Ov=fillAll ks Oi++List.replicate ((List.range k).filter fun i=>isPut ks i).length deadO:=by
   have hcnt:((List.range k).filter fun i=>listed.getD i false&&isPut ks i)=(List.range k).filter fun i=>isPut ks i:=by
    refine List.filter_congr fun i hi=>?_
    rw [hall i (List.mem_range.1 hi)];rfl
   have hlen:=hroom.len
   rw [hcnt] at hlen
   have hfl:=fillAll_len ks Oi
   apply List.ext_getElem?
   intro q
   rcases Nat.lt_or_ge q Oi.length with hq|hq
   ·rw [List.getElem?_append_left (by omega)]
    rcases hroom.cur q hq with ⟨j,g,oc,hjk,hl,hg,hs,hlast,hv⟩|⟨hno,hv⟩<;>rcases fillAll_cases ks Oi q hq with ⟨j2,g2,oc2,hg2,hs2,hlast2,hv2⟩|⟨hno2,hv2⟩
    ·have hj2k:j2<k:=by have:=(List.getElem?_eq_some_iff.1 hg2).1;omega
     have:j=j2:=by
      rcases Nat.lt_trichotomy j j2 with h3|h3|h3
      ·exact absurd hs2 (hlast j2 g2 oc2 h3 hj2k (hall j2 hj2k) hg2)
      ·exact h3
      ·exact absurd hs (hlast2 j g oc h3 hg)
     subst this
     rw [hg] at hg2;cases hg2
     rw [hs] at hs2;cases hs2
     rw [hv,hv2]
    ·exact absurd hs (hno2 j g oc hg)
    ·have hj2k:j2<k:=by have:=(List.getElem?_eq_some_iff.1 hg2).1;omega
     exact absurd hs2 (hno j2 g2 oc2 hj2k (hall j2 hj2k) hg2)
    ·rw [hv,hv2]
   ·rcases Nat.lt_or_ge q Ov.length with h3|h3
    ·rw [hroom.dead q hq h3,List.getElem?_append_right (by omega),List.getElem?_replicate,if_pos (by omega)]
    ·rw [List.getElem?_eq_none h3,List.getElem?_eq_none (by simp;omega)]
  subst hOv
  have hlist:listed=(Array.range l.toArray.size).map fun i=>decide (i<k):=by
   apply Array.ext
   ·simp [inv.size]
   ·intro i hi1 hi2
    have hi:i<l.toArray.size:=by rw [←inv.size];exact hi1
    by_cases hik:i<k
    ·have:=hall i hik
     simp [hi1] at this
     simp [this,hik]
    ·have:=inv.tail i (by omega) hi
     simp [hi1] at this
     simp [this,hik]
  have hdl:(l.drop k).length=l.toArray.size-k:=by simp
  rw [←hdl]
  refine wpAny_of_seq (l.drop k) k listed a w (fun j=>by simp [List.getElem?_drop]) (by rw [hdl,hlist];exact hseq) ?_
  refine h a w (hrT.relook fun t=>?_)
  rw [look_append]
  split
  ·rename_i hh
   obtain ⟨i,hi,hi2⟩:=List.getElem_of_mem (has_look hh)
   have:out[i]?=some (t,look out t):=by rw [List.getElem?_eq_getElem hi,hi2]
   exact (h1 i _ _ this (hall i (by omega))).symm
  ·rename_i hh
   exact (h2 t (by simpa using hh)).symm) k _ a w.drew inv0 (by
    have:((List.range k).filter fun i=>!(Array.replicate l.toArray.size false).getD i false)=List.range k:=by
     rw [List.filter_eq_self];intro i _;rw [getD_replicate_false];rfl
    rw [this];simp) ⟨T0,_,hr.drew,room0,⟨fun i d V _ hl=>(by rw [getD_replicate_false] at hl;cases hl),fun _ _=>rfl⟩⟩
 rw [show k+(l.toArray.size-k)=l.toArray.size by omega] at fin
 exact fin
def chainR (ops:Array Oper) (sh:List Nat) (c:Nat):Nat→List (Nat×Nat)→List Fil→Bool
 |_,_,[]=>true
 |j,seen,f::ks=>match f.spot with
  |none=>chainR ops sh c (j+1) seen ks
  |some (p,_)=>Nat.blt p c&&(seen.all fun s=>!Nat.beq s.1 p||(memB p sh&&match ops[j]? with|some o=>waits o s.2|none=>false))&&chainR ops sh c (j+1) ((p,j)::seen) ks
theorem chainR_lt {sh:List Nat} {c:Nat}:∀{ks:List Fil} {j:Nat} {seen:List (Nat×Nat)},chainR ops sh c j seen ks=true→∀i f p ob,ks[i]?=some f→f.spot=some (p,ob)→p<c∧∀s∈seen,s.1=p→memB p sh=true∧∃o,ops[j+i]?=some o∧waits o s.2=true
 |[],_,_,_,i,f,p,ob,h,_=>by simp at h
 |g::ks,j,seen,hB,i,f,p,ob,h,hs=>by
  unfold chainR at hB
  cases i with
  |zero=>
   simp at h;subst h
   rw [hs] at hB
   simp only [Bool.and_eq_true] at hB
   refine ⟨Nat.le_of_ble_eq_true hB.1.1,fun s hm e=>?_⟩
   have:=List.all_eq_true.1 hB.1.2 s hm
   simp only [Bool.or_eq_true,Bool.not_eq_true',Bool.and_eq_true] at this
   rcases this with h|⟨h1,h2⟩
   ·subst e;simp at h
   ·refine ⟨h1,?_⟩
    rw [Nat.add_zero]
    split at h2
    ·rename_i o ho;exact ⟨o,ho,h2⟩
    ·cases h2
  |succ i=>
   have e:j+(i+1)=j+1+i:=by omega
   rw [e]
   cases hg:g.spot with
   |none=>rw [hg] at hB;exact chainR_lt hB i f p ob (by simpa using h) hs
   |some x=>
    obtain ⟨p',ob'⟩:=x
    rw [hg] at hB
    simp only [Bool.and_eq_true] at hB
    have:=chainR_lt hB.2 i f p ob (by simpa using h) hs
    exact ⟨this.1,fun s hm e=>this.2 s (List.mem_cons_of_mem _ hm) e⟩
theorem chainR_pair {sh:List Nat} {c:Nat}:∀{ks:List Fil} {j:Nat} {seen:List (Nat×Nat)},chainR ops sh c j seen ks=true→∀i i2 f g p ob oc,i<i2→ks[i]?=some f→ks[i2]?=some g→f.spot=some (p,ob)→g.spot=some (p,oc)→memB p sh=true∧∃o,ops[j+i2]?=some o∧waits o (j+i)=true
 |[],_,_,_,i,i2,f,g,p,ob,oc,_,h,_,_,_=>by simp at h
 |x::ks,j,seen,hB,i,i2,f,g,p,ob,oc,hlt,h,h2,hs,hs2=>by
  unfold chainR at hB
  cases i2 with
  |zero=>omega
  |succ i2=>
   have e2:j+(i2+1)=j+1+i2:=by omega
   cases i with
   |zero=>
    simp at h;subst h
    rw [hs] at hB
    simp only [Bool.and_eq_true] at hB
    have:=(chainR_lt hB.2 i2 g p oc (by simpa using h2) hs2).2 (p,j) (by simp) rfl
    rw [e2];exact this
   |succ i=>
    have e:j+(i+1)=j+1+i:=by omega
    rw [e,e2]
    cases hg:x.spot with
    |none=>rw [hg] at hB;exact chainR_pair hB i i2 f g p ob oc (by omega) (by simpa using h) (by simpa using h2) hs hs2
    |some y=>
     obtain ⟨p',ob'⟩:=y
     rw [hg] at hB
     simp only [Bool.and_eq_true] at hB
     exact chainR_pair hB.2 i i2 f g p ob oc (by omega) (by simpa using h) (by simpa using h2) hs hs2
theorem roomROk_of {ks:List Fil} {c k:Nat} (h:chainR ops sh c 0 [] ks=true):RoomROk ops sh ks c k:=
 ⟨fun i f p ob _ hk hs=>(chainR_lt h i f p ob hk hs).1,fun i j f g p ob oc hij _ hi hj hf hg=>by
  have:=chainR_pair h i j f g p ob oc hij hi hj hf hg
  rw [Nat.zero_add,Nat.zero_add] at this;exact this⟩
theorem HeadR.consF {fs fs2 out:List (Nat×AV)} {gs gs2:List Fil} {o:Oper} {l:List Oper} {d:Nat} {V:AV} {F:List (Nat×AV)} {ks:List Fil} {cur:List AObj} (k:Fil) (hd:o.dst=some d) (hF:depsF fs o.after.toList=some F) (hcur:fillAll gs Oi=cur)
 (h:∀Tv Ov,Oi.length≤Ov.length→(∀ p ob,k.spot=some (p,ob)→Ov[p]?=cur[p]?)→(∀ j f p ob,waits o j=true→gs[j]?=some f→f.spot=some (p,ob)→memB p sh=false→Ov[p]?=some ob)→(∀ q,memB q keep=true→Ov[q]?=Oi[q]?)→WpL P n m G false ops [o] ⟨F++(T0++Tv),O++Ov⟩ (Only ⟨(d,V)::(F++(T0++Tv)),O++k.run Ov⟩)) (hs:catF fs [(d,V)]=some fs2) (hg:catF gs [k]=some gs2) (r:HeadR P n m G ops T0 O Oi keep sh fs2 gs2 l out ks):HeadR P n m G ops T0 O Oi keep sh fs gs (o::l) out ks:=by
 have:=catF_eq hs;subst this;have:=catF_eq hg;subst this;subst hcur
 exact .cons k (depsF_eq hF) h r
theorem Weak.any1 {d:Nat} {T:List (Nat×AV)}:Weak m ⟨T,O⟩ ⟨(d,.any)::T,O⟩:=by
 rintro n G a w ⟨S,ι,F,hr⟩
 refine ⟨S,ι,F,hr.defers,hr.size,fun t=>?_,hr.objs,hr.foot,hr.base,hr.stable,hr.keeps,hr.spots,hr.mle⟩
 show VRel S w ι O (look ((d,.any)::T) t) _ []
 by_cases he:d=t
 ·subst he;rw [look_cons_same];exact .any .nil
 ·rw [look_cons_other _ _ _ _ he];exact hr.tmps t
theorem HeadR.consN {fs fs2 out:List (Nat×AV)} {gs gs2:List Fil} {o:Oper} {l:List Oper} {F:List (Nat×AV)} {ks:List Fil} {cur:List AObj} (k:Fil) (d:Nat) (hF:depsF fs o.after.toList=some F) (hcur:fillAll gs Oi=cur)
 (h:∀Tv Ov,Oi.length≤Ov.length→(∀ p ob,k.spot=some (p,ob)→Ov[p]?=cur[p]?)→(∀ j f p ob,waits o j=true→gs[j]?=some f→f.spot=some (p,ob)→memB p sh=false→Ov[p]?=some ob)→(∀ q,memB q keep=true→Ov[q]?=Oi[q]?)→WpL P n m G false ops [o] ⟨F++(T0++Tv),O++Ov⟩ (Only ⟨(d,.any)::(F++(T0++Tv)),O++k.run Ov⟩)) (hs:catF fs [(d,.any)]=some fs2) (hg:catF gs [k]=some gs2) (r:HeadR P n m G ops T0 O Oi keep sh fs2 gs2 l out ks):HeadR P n m G ops T0 O Oi keep sh fs gs (o::l) out ks:=by
 have:=catF_eq hs;subst this;have:=catF_eq hg;subst this;subst hcur
 exact .cons k (depsF_eq hF) h r
theorem WpA.regionRF {l l1 l2:List Oper} {id:Nat} {out T1:List (Nat×AV)} {ks:List Fil} {Of Or O1:List AObj} {Q:Exit→St→Prop} (k c:Nat) (keep sh:List Nat) (hO0:Of=O++Or) (hm:P.follows .mixedOrders=true) (hB:mixB l.toArray k=true)
 (hl:takeF k l=some l1) (hJ:HeadR P n m G l.toArray T0 O (Or++List.replicate c roomO) keep sh [] [] l1 out ks) (hok:chainR l.toArray sh (Or.length+c) 0 [] ks=true) (hkp:keepB (Or.length+c) (spots ks) keep=true) (hnd:nodupB (out.map (·.1))=true) (hfr:(out.all fun p=>!has T0 p.1)=true)
 (hT1:catF out T0=some T1) (h2:l.drop k=l2) (hO:O++(fillAll ks (Or++List.replicate c roomO)++List.replicate ((List.range k).filter fun i=>isPut ks i).length deadO)=O1) (h:WpL P n m G false l.toArray l2 ⟨T1,O1⟩ Q):WpA P n m G (.region id l.toArray true) ⟨T0,Of⟩ Q:=by
 have:=takeF_eq hl;subst this;subst h2;subst hO;subst hO0
 have hc:(Or++List.replicate c roomO).length=Or.length+c:=by simp
 have hw:=WpA.regionR (Q:=Q) (id:=id) k hm hB hJ (by rw [hc];exact roomROk_of hok) (fun q hq=>by rw [hc];exact keepB_of hkp hq) hnd hfr (catF_eq hT1) h
 have hr:=Weak.rooms (m:=m) (T:=T0) c (O++Or)
 rw [List.append_assoc] at hr
 exact WpA.weak hr hw
end
end Go.Abs


namespace Go.Abs
open Go
theorem lrel_ints2 {S w ι O}:∀{xs:List Int} {us f},LRel S w ι O (ints xs) us f→us=xs.map (Value.int .i64)∧f=[]
 |[],us,f,h=>by cases h;exact ⟨rfl,rfl⟩
 |x::xs,us,f,h=>by
  cases h with
  |sc h=>obtain ⟨h1,h2⟩:=lrel_ints2 h;subst h1 h2;exact ⟨rfl,rfl⟩
theorem lrel_ints3 {S w ι O}:∀(xs:List Int),LRel S w ι O (ints xs) (xs.map (Value.int .i64)) []
 |[]=>.nil
 |x::xs=>.sc (lrel_ints3 xs)
theorem RelAt.pre {n m G S ι F T O a w} (hr:RelAt n m G S ι F ⟨T,O⟩ a w) {id j ep sz:Nat} {te:Option TypeId} {xs:List Int} (ho:O[id]?=some ⟨ints xs,ep,sz,te⟩):RelAt n m G S ι F ⟨T,O.set id ⟨ints (xs.take j),ep,sz,te⟩⟩ a w:=by
 have hid:id<O.length:=(List.getElem?_eq_some_iff.1 ho).1
 have hlat:Later S w ι O S w ι (O.set id ⟨ints (xs.take j),ep,sz,te⟩):=⟨fun _ h=>h,fun _ _=>rfl,fun i ob hi=>by
  by_cases e:i=id
  ·subst e;rw [ho] at hi;cases hi
   exact ⟨⟨ints (xs.take j),ep,sz,te⟩,by rw [List.getElem?_set_self hid],.inr ⟨rfl,rfl,rfl⟩⟩
  ·exact ⟨ob,by rw [List.getElem?_set,if_neg (fun h=>e h.symm)];exact hi,.inr ⟨rfl,rfl,rfl⟩⟩⟩
 refine ⟨hr.defers,hr.size,fun t=>(hr.tmps t).mono hlat (by simp),⟨fun i ob hi=>?_,fun i hi=>hr.objs.nodup i (by simpa using hi),fun i j' hi hj=>hr.objs.apart i j' (by simpa using hi) (by simpa using hj)⟩,fun i hi=>hr.foot i (by simpa using hi),hr.base,hr.stable,hr.keeps,hr.spots,by have:=hr.mle;simpa using this⟩
 have hi:(O.set id ⟨ints (xs.take j),ep,sz,te⟩)[i]?=some ob:=hi
 by_cases e:i=id
 ·subst e
  rw [List.getElem?_set_self hid] at hi;cases hi
  have h:=hr.objs.obj i _ ho
  unfold ObjAt at h ⊢
  cases hs:ι i with
  |none=>
   rw [hs] at h
   have h1:ints xs=[]:=h.1
   have:xs=[]:=by cases xs with|nil=>rfl|cons x xs=>cases h1
   subst this
   exact ⟨by simp [ints],h.2⟩
  |some p=>
   obtain ⟨b,k⟩:=p
   rw [hs] at h
   obtain ⟨cur,t,fz,f',h1,h2,h3,h4,h5,h6,h7⟩:=h
   obtain ⟨h8,h9⟩:=lrel_ints2 h7
   subst h9
   have hle:(xs.take j).length≤xs.length:=List.length_take_le' _ _
   have h4':xs.length≤k:=by simpa [ints] using h4
   refine ⟨cur,t,fz,[],h1,h2,h3,by show (ints (xs.take j)).length≤k;simp [ints];omega,h5,h6,?_⟩
   have e2:cur.toList.take (ints (xs.take j)).length=(xs.take j).map (Value.int .i64):=by
    have e3:(ints (xs.take j)).length=min j xs.length:=by simp [ints]
    have e4:cur.toList.take xs.length=xs.map (Value.int .i64):=by simpa [ints] using h8
    rw [e3,←List.take_take,e4,List.map_take]
   show LRel S w ι _ (ints (xs.take j)) (cur.toList.take (ints (xs.take j)).length) []
   rw [e2];exact lrel_ints3 _
 ·rw [List.getElem?_set,if_neg (fun h=>e h.symm)] at hi
  have h:=hr.objs.obj i ob hi
  unfold ObjAt at h ⊢
  cases hs:ι i with
  |none=>rw [hs] at h;exact h
  |some p=>
   obtain ⟨b,k⟩:=p
   rw [hs] at h
   obtain ⟨cur,t,fz,f',h1,h2,h3,h4,h5,h6,h7⟩:=h
   exact ⟨cur,t,fz,f',h1,h2,h3,h4,h5,h6,h7.mono hlat (fun _ _=>rfl)⟩
theorem Weak.pre {m id j ep sz:Nat} {T:List (Nat×AV)} {O:List AObj} {te:Option TypeId} {xs:List Int} (ho:O[id]?=some ⟨ints xs,ep,sz,te⟩):Weak m ⟨T,O⟩ ⟨T,O.set id ⟨ints (xs.take j),ep,sz,te⟩⟩:=by
 rintro n G a w ⟨S,ι,F,hr⟩
 exact ⟨S,ι,F,hr.pre ho⟩
section
variable {P:Program} {n m:Nat} {G:Ctx} {T:List (Nat×AV)} {O:List AObj} {Q:Exit→St→Prop} {ops:Array Oper} {l:List Oper} {d:Nat} {md:Bool} {tt:TypeId} {pos:String} {after:Array Edge} {tab:List (Nat×Ty)}
theorem WpL.subOwn (hP:TabOk P tab) {t e k b:Nat} {zs:List AV} {x y:Operand} {kk:IntKind} {id ep len j:Nat} {ob:AObj} (ht:tlook tab t=some (.slice e k b zs)) (hx:av T x=.own id ep 0 len) (ho:O[id]?=some ob) (he:ob.ep=ep) (hy:av T y=.sc (.int kk j)) (hj:j≤len) (hn:d<n)
 (h:WpL P n m G md ops l ⟨(d,.own id ep 0 j)::T,O⟩ Q):
 WpL P n m G md ops ({dst:=some d,op:=.slice t x none (some y) none,type:=tt,pos:=pos,after:=after,guard:=none}::l) ⟨T,O⟩ Q:=
 WpL.pure rfl rfl hn (fun S ι F a w hr=>by
  obtain ⟨hu,inf,z,hinf,_,hk,_,_,hk0,_⟩:=hP.slice ht
  have hv:=hr.eval x
  rw [show av (St.mk T O).T x=_ from hx] at hv
  have hye:=hr.sc hy
  have hown:OwnAt (ι id) ob.size 0 len (a.eval x):=by
   cases hv with
   |own q1 q2 q3 r=>
    rw [show (St.mk T O).O[id]?=some ob from ho] at q1
    cases q1
    exact q3 he.symm
  cases hs:ι id with
  |none=>
   rw [hs] at hown
   obtain ⟨hxe,h0,hl⟩:=hown
   have hj0:j=0:=by omega
   subst hj0
   refine ⟨.slice none 0 0,?_,.own ho (by omega) (fun _=>by rw [hs];exact ⟨rfl,rfl,rfl⟩) .nil⟩
   have hrun:(Instr.sliceAt t (.slice none 0 0) none (some (.int kk 0)) none).run P w=.ok (.slice none 0 0) w:=by
    simp [Instr.sliceAt,Instr.slice,run_underlying hu,Instr.sliceBounds,Instr.sliceBound,asIntOf,run_sizeOf hinf hk,Sem.run_bind]
   have hye':a.eval y=.int kk 0:=by rw [hye];rfl
   simp [execOp,hxe,hye',hrun,Sem.run_bind]
  |some p=>
   obtain ⟨bb,kb⟩:=p
   rw [hs] at hown
   obtain ⟨cap,hxe,h1,h2,h3⟩:=hown
   have hrun:=run_sliceSl hu hinf hk ⟨bb,0,none⟩ len cap none (some (.int kk j)) 0 j (.inl ⟨rfl,rfl⟩) (.inr ⟨kk,rfl⟩) (by omega) w
   have e1:(if cap=0 then (⟨bb,0,none⟩:Addr) else (⟨bb,0,none⟩:Addr).add (0*k))=⟨bb,0,none⟩:=by
    split
    ·rfl
    ·rw [addr_add];simp
   rw [e1,Nat.sub_zero,Nat.sub_zero] at hrun
   refine ⟨.slice (some ⟨bb,0,none⟩) j cap,by simp [execOp,hxe,hye,hrun,Sem.run_bind],.own ho (by omega) (fun _=>by rw [hs];exact ⟨cap,rfl,h1,by omega,h3⟩) .nil⟩) h
end
theorem split1 {Ov:List AObj} {a:AObj} (h0:Ov[0]?=some a):∃R,Ov=a::R:=by
 match Ov,h0 with
 |a'::R,h0=>simp at h0;exact ⟨R,by rw [h0]⟩
 |[],h=>simp at h
theorem split5 {Ov:List AObj} {e:AObj} (h:Ov[4]?=some e):∃a b c d R,Ov=a::b::c::d::e::R:=by
 match Ov,h with
 |a::b::c::d::e'::R,h=>simp at h;exact ⟨a,b,c,d,R,by rw [h]⟩
 |[],h=>simp at h
 |[_],h=>simp at h
 |[_,_],h=>simp at h
 |[_,_,_],h=>simp at h
 |[_,_,_,_],h=>simp at h
section
variable {m:Nat} {T:List (Nat×AV)} {O:List AObj} {tab:List (Nat×Ty)} {e':Exit} {r1 r2:ResultVar} {r1v r2v r:AV} {N:List AObj}
theorem FinG.oI (ids:List (Option Nat)) (he:endB e'=true) (hv:ResV tab T O r1 r1v) (hx:Ex O ids [r1v] [r]) (hN:NEx O ids N) (hd:nodupB (ids.filterMap id)=true) (hp:preB ids m 0=true):FinG tab m #[r1] N r e' ⟨T,O⟩:=FinG.e he (.one hv hN (nodupB_spec hd) hp hx)
end
end Go.Abs


namespace Go.Proofs.YtndflfipaddfoaaGreat
open Go Go.Abs
attribute [local irreducible] WpA WpL Rnd Blk Abs.Seq Abs.Fin Abs.FinG FnC FnG Only
abbrev fSMb:AV:=.fn 106 []
instance EqualFuncM_c:Con 105 (∀ M:List Mbk,M.length≤1099511627776∧SmM 1099511627776 M→Fn 105 [MbL M,MbL M,fSMb] [] (B true)):=⟨fun M hl=>by
 refine FnC.of_body tabOk Tryz.func105 Tryz.ntmps105 rfl (by decide +kernel) (by simp) fun G=>?_
 refine go (r:=?_);and_intros<;>intros<;>try exact True.intro
 all_goals first|contradiction|(simp_all;done)|skip
 refine WpA.loop (fun k:Nat=>⟨[(1,MbL M),(2,fSMb),(15,MbL M),(16,I M.length),(17,I k)],[]⟩) (fun k=>k≤M.length) (fun k=>M.length-k) 0 (by simp) (go (r:=?_)) (fun k hk=>?_)
 ·and_intros<;>first|exact True.intro
 by_cases hk2:k<M.length
 ·obtain ⟨hg1,hg2⟩:=smM_get hl.2 hk2
  refine go (r:=?_);and_intros<;>intros<;>try exact True.intro
  all_goals first|contradiction|omega|exact hg2|(simp_all;done)
 ·refine go (r:=?_);and_intros<;>intros<;>try exact True.intro
  all_goals first|contradiction|omega|(simp_all;done)⟩
instance SameStream_c:Con 47 (∀ (w h q:Int) (b d:Bool) (l:List Int) (M:List Mbk),l.length≤1099511627776∧M.length≤1099511627776∧SmM 1099511627776 M→Fn 47 [StA w h q b d l M,StA w h q b d l M] [] (B true)):=⟨fun w h q b d l M hl=>by
 refine FnC.of_body tabOk Tryz.func47 Tryz.ntmps47 rfl (by decide +kernel) (by simp) fun G=>?_
 refine goR (r:=?_);and_intros<;>intros<;>try exact True.intro
 apply WpA.regionRF (O:=[⟨StC w h q b d l M,0,0,none⟩,⟨StC w h q b d l M,0,0,none⟩]) (Or:=[]) (O1:=[⟨StC w h q b d l M,0,0,none⟩,⟨StC w h q b d l M,0,0,none⟩,⟨[I w,I h,I q,B b,B d,IL l],1,0,none⟩,⟨[I w,I h,I q,B b,B d,IL l],1,0,none⟩,deadO,deadO]) 8 2 [] [0,1] rfl mixed (by decide +kernel)
 ·exact rfl
 ·apply HeadR.consF .none rfl
  ·exact rfl
  ·exact rfl
  ·exact in1
  ·exact rfl
  ·exact rfl
  apply HeadR.consF .none rfl
  ·exact rfl
  ·exact rfl
  ·exact in1
  ·exact rfl
  ·exact rfl
  apply HeadR.consF .none rfl
  ·exact rfl
  ·exact rfl
  ·exact in1
  ·exact rfl
  ·exact rfl
  apply HeadR.consF .none rfl
  ·exact rfl
  ·exact rfl
  ·exact in1
  ·exact rfl
  ·exact rfl
  apply HeadR.consF (V:=.ptr 2 1 0) (.put 0 ⟨[I 0,I 0,I 0,B false,B false,.nilS],1,0,none⟩) rfl
  ·exact rfl
  ·exact rfl
  ·intro Tv Ov hc2 hp9 hd9 hk9
   refine WpL.allocStruct tabOk rfl (nid_len _ 0) (by decide) ?_
   apply WpL.putV (p:=0)
   ·exact .ptr (by first|rfl|exact Nat.zero_add _) .nil
   ·exact hp9 0 _ rfl
   ·exact Nat.zero_le _
   ·exact rfl
   ·exact rfl
  ·exact rfl
  ·exact rfl
  apply HeadR.consF (V:=.ptr 3 1 0) (.put 1 ⟨[I 0,I 0,I 0,B false,B false,.nilS],1,0,none⟩) rfl
  ·exact rfl
  ·exact rfl
  ·intro Tv Ov hc2 hp9 hd9 hk9
   refine WpL.allocStruct tabOk rfl (nid_len _ 0) (by decide) ?_
   apply WpL.putV (p:=1)
   ·exact .ptr (by first|rfl|exact Nat.zero_add _) .nil
   ·exact hp9 1 _ rfl
   ·exact Nat.zero_le _
   ·exact rfl
   ·exact rfl
  ·exact rfl
  ·exact rfl
  apply HeadR.consN (.step 0 ⟨[I w,I h,I q,B b,B d,IL l],1,0,none⟩) 57
  ·exact rfl
  ·exact rfl
  ·intro Tv Ov hc2 hp9 hd9 hk9
   obtain ⟨R0,rfl⟩:=split1 (hp9 0 _ rfl)
   refine K.st ?_
   refine WpL.store tabOk rfl rfl rfl rfl rfl rfl rfl rfl (Nat.le_of_ble_eq_true rfl) ?_
   refine WpL.weak (Weak.any1 (d:=57)) ?_
   exact WpL.nil (Only.mk rfl)
  ·exact rfl
  ·exact rfl
  apply HeadR.consN (.step 1 ⟨[I w,I h,I q,B b,B d,IL l],1,0,none⟩) 58
  ·exact rfl
  ·exact rfl
  ·intro Tv Ov hc2 hp9 hd9 hk9
   obtain ⟨A0,R0,rfl⟩:=split2 (hp9 1 _ rfl)
   refine K.st ?_
   refine WpL.store tabOk rfl rfl rfl rfl rfl rfl rfl rfl (Nat.le_of_ble_eq_true rfl) ?_
   refine WpL.weak (Weak.any1 (d:=58)) ?_
   exact WpL.nil (Only.mk rfl)
  ·exact rfl
  ·exact rfl
  exact HeadR.nil
 ·exact rfl
 ·exact rfl
 ·exact rfl
 ·exact rfl
 ·exact rfl
 ·exact rfl
 ·exact rfl
 refine go (r:=?_);and_intros<;>intros<;>try exact True.intro
 all_goals first|contradiction|omega|exact hl.2.2|(simp_all;done)⟩
end Go.Proofs.YtndflfipaddfoaaGreat


namespace Go.Proofs.YtndflfipaddfoaaGreat
open Go Go.Abs
attribute [local irreducible] WpA WpL Rnd Blk Abs.Seq Abs.Fin Abs.FinG FnC FnG Only
theorem bw_small {l:List Blok} (h:∀b∈l,b.2.length≤64):bw l≤65*l.length:=by
 induction l with
 |nil=>simp [bw_nil]
 |cons b l ih=>
  have h1:=h b (by simp)
  have h2:=ih fun x hx=>h x (by simp [hx])
  rw [bw_cons,List.length_cons];omega
theorem mw_small {l:List Mbk} (h:∀m∈l,m.2.length≤4∧∀b∈m.2,b.2.length≤64):mw l≤261*l.length:=by
 induction l with
 |nil=>simp [mw_nil]
 |cons m l ih=>
  have h1:=h m (by simp)
  have h2:=ih fun x hx=>h x (by simp [hx])
  have h3:=bw_small h1.2
  rw [mw_cons,List.length_cons];omega
theorem prS_sz (p:List UInt8):(prS p).L.length≤6∧(prS p).ms.length≤16∧mw (prS p).ms≤4176∧SmM 1099511627776 (prS p).ms:=by
 have h:(prS p).L.length≤6∧(prS p).ms.length≤16∧mw (prS p).ms≤4176:=by
  by_cases h1:(hdS p 0).c=0
  ·by_cases h2:(stRun p (hdS p 0).a (hdS p 0).L (cntM (hdS p 0).W (hdS p 0).H).toNat).c=0
   ·by_cases h3:endC p (stRun p (hdS p 0).a (hdS p 0).L (cntM (hdS p 0).W (hdS p 0).H).toNat).a=0
    ·rw [prS_4 h1 h2 h3]
     have hb:=cntM_bd (hdS_sides h1)
     have hs:=stRun_sm (p:=p) (s:=(hdS p 0).a) (lens:=(hdS p 0).L) (cntM (hdS p 0).W (hdS p 0).H).toNat
     have hm:=mw_small hs.2
     have hL:=hdSL_len (hdS p 0)
     refine ⟨hL,?_,?_⟩
     ·show (stRun _ _ _ _).ms.length≤16
      omega
     ·show mw (stRun _ _ _ _).ms≤4176
      omega
    ·rw [prS_3 h1 h2 h3];exact ⟨Nat.zero_le _,Nat.zero_le _,Nat.zero_le _⟩
   ·rw [prS_2 h1 h2];exact ⟨Nat.zero_le _,Nat.zero_le _,Nat.zero_le _⟩
  ·rw [prS_1 h1];exact ⟨Nat.zero_le _,Nat.zero_le _,Nat.zero_le _⟩
 exact ⟨h.1,h.2.1,h.2.2,smM_of (by omega)⟩
section
attribute [local irreducible] prS
end
end Go.Proofs.YtndflfipaddfoaaGreat


namespace Go.Proofs.YtndflfipaddfoaaGreat
open Go Go.Abs
attribute [local irreducible] WpA WpL Rnd Blk Abs.Seq Abs.Fin Abs.FinG FnC FnG FnX FinX Only
abbrev CurO (v:Value) (c:Int×Int):AObj:=⟨[.sc v,I c.1,I c.2],0,0,none⟩
abbrev CurOk (l:List Int) (c:Int×Int):Prop:=0≤c.1∧c.1≤l.length
abbrev CodA (l:List Int):AV:=.imm 1 l.length (u8s l)
theorem and255 (y:Int):0≤IntKind.i64.wrap ((BitVec.ofInt IntKind.i64.bits y &&& BitVec.ofInt IntKind.i64.bits 255).toNat:Nat)∧IntKind.i64.wrap ((BitVec.ofInt IntKind.i64.bits y &&& BitVec.ofInt IntKind.i64.bits 255).toNat:Nat)≤255:=by
 have h:(BitVec.ofInt IntKind.i64.bits y &&& BitVec.ofInt IntKind.i64.bits 255).toNat≤255:=by
  rw [BitVec.toNat_and]
  exact Nat.le_trans Nat.and_le_right (by decide)
 rw [IntWalk.i64_in _ (by omega)]
 omega
section
attribute [local irreducible] IntKind.wrap
end
end Go.Proofs.YtndflfipaddfoaaGreat


namespace Go.Proofs.YtndflfipaddfoaaGreat
open Go Go.Abs
attribute [local irreducible] WpA WpL Rnd Blk Abs.Seq Abs.Fin Abs.FinG FnC FnG FnX FnP FinX Only
abbrev Cr:=Int×Int
abbrev Pn (f:Nat) (v:Value) (l:List Int) (c:Cr) (args:List AV) (c':Cr) (N:List AObj) (r:AV):Prop:=FnP Tryz.prog f (.ptr 0 0 0::args) [CurO v c] [v] [CodA l] [CurO v c'] N r
abbrev CrOk (l:List Int) (c:Cr):Prop:=l.length≤1048576∧CurOk l c
def hD (h:Int):Int:=IntKind.i64.wrap (IntKind.i64.wrap (h*6364136223846793005)+1442695040888963407)
def mixD (y:Int):Int:=IntKind.i64.wrap ((BitVec.ofInt IntKind.i64.bits (IntKind.i64.wrap ((BitVec.ofInt IntKind.i64.bits (y/2 ^ Int.toNat 33) ^^^ BitVec.ofInt IntKind.i64.bits (y/2 ^ Int.toNat 45)).toNat:Nat)) &&& BitVec.ofInt IntKind.i64.bits 255).toNat:Nat)
def byD (l:List Int) (c:Cr):Cr×Int:=
 if c.1<l.length then ((c.1+1,hD c.2),IntKind.i64.wrap ((BitVec.ofInt IntKind.i64.bits (IntKind.i64.wrap (mixD (hD c.2)+IntKind.i64.wrap (l.getD c.1.toNat 0))) &&& BitVec.ofInt IntKind.i64.bits 255).toNat:Nat))
 else ((c.1,hD c.2),mixD (hD c.2))
theorem byD_ok {l:List Int} {c:Cr} (h:CrOk l c):CrOk l (byD l c).1∧0≤(byD l c).2∧(byD l c).2≤255:=by
 have h1:=h.2.1
 have h2:=h.2.2
 unfold byD;split
 ·exact ⟨⟨h.1,by show 0≤c.1+1;omega,by show c.1+1≤_;omega⟩,and255 _⟩
 ·exact ⟨⟨h.1,h1,h2⟩,and255 _⟩
section
attribute [local irreducible] IntKind.wrap
instance l1Byte_p:ConP 186 (∀ (v:Value) (l:List Int) (c:Cr),CrOk l c→Pn 186 v l c [] (byD l c).1 [] (I (byD l c).2)):=⟨fun v l c h=>by
 have hl:=h.1
 have hc1:=h.2.1
 have hc2:=h.2.2
 by_cases hlt:c.1<l.length
 ·rw [byD,if_pos hlt]
  refine FnP.of_body tabOk Tryz.func186 Tryz.ntmps186 rfl (by decide +kernel) (by simp) rfl rfl rfl fun G hp=>?_
  refine go (r:=?_);and_intros<;>intros<;>try exact True.intro
  refine WpL.pin (d:=32) hp rfl ?_
  refine go (r:=?_);and_intros<;>intros<;>try exact True.intro
  all_goals first|contradiction|omega|skip
  refine WpL.pin (d:=39) hp rfl ?_
  refine go (r:=?_);and_intros<;>intros<;>try exact True.intro
 ·rw [byD,if_neg hlt]
  refine FnP.of_body tabOk Tryz.func186 Tryz.ntmps186 rfl (by decide +kernel) (by simp) rfl rfl rfl fun G hp=>?_
  refine go (r:=?_);and_intros<;>intros<;>try exact True.intro
  refine WpL.pin (d:=32) hp rfl ?_
  refine go (r:=?_);and_intros<;>intros<;>try exact True.intro
  all_goals first|contradiction|omega|skip⟩
end
def belowD (l:List Int) (c:Cr) (n:Int):Cr×Int:=
 if n≤0 then (c,0) else if n≤256 then ((byD l c).1,(byD l c).2%n) else
  ((byD l (byD l (byD l (byD l c).1).1).1).1,((byD l c).2*16777216+(byD l (byD l c).1).2*65536+(byD l (byD l (byD l c).1).1).2*256+(byD l (byD l (byD l (byD l c).1).1).1).2)%n)
theorem belowD_ok {l:List Int} {c:Cr} (n:Int) (h:CrOk l c):CrOk l (belowD l c n).1∧0≤(belowD l c n).2∧(0<n→(belowD l c n).2<n)∧(n≤0→(belowD l c n).2=0):=by
 have h1:=byD_ok h
 have h2:=byD_ok h1.1
 have h3:=byD_ok h2.1
 have h4:=byD_ok h3.1
 unfold belowD
 split
 ·exact ⟨h,Int.le_refl 0,fun h=>by omega,fun _=>rfl⟩
 ·split
  ·exact ⟨h1.1,Int.emod_nonneg _ (by omega),fun h=>Int.emod_lt_of_pos _ h,fun h=>by omega⟩
  ·exact ⟨h4.1,Int.emod_nonneg _ (by omega),fun h=>Int.emod_lt_of_pos _ h,fun h=>by omega⟩
instance l1Below_p:ConP 93 (∀ (v:Value) (l:List Int) (c:Cr) (n:Int),CrOk l c→Pn 93 v l c [I n] (belowD l c n).1 [] (I (belowD l c n).2)):=⟨fun v l c n h=>by
 have h1:=byD_ok h
 have h2:=byD_ok h1.1
 have h3:=byD_ok h2.1
 have h4:=byD_ok h3.1
 unfold belowD
 by_cases h0:n≤0
 ·rw [if_pos h0]
  refine FnP.of_body tabOk Tryz.func93 Tryz.ntmps93 rfl (by decide +kernel) (by simp) rfl rfl rfl fun G hp=>?_
  refine go (r:=?_);and_intros<;>intros<;>try exact True.intro
  all_goals trace_state
 ·rw [if_neg h0]
  by_cases h256:n≤256
  ·rw [if_pos h256]
   refine FnP.of_body tabOk Tryz.func93 Tryz.ntmps93 rfl (by decide +kernel) (by simp) rfl rfl rfl fun G hp=>?_
   refine go (r:=?_);and_intros<;>intros<;>try exact True.intro
   all_goals trace_state
  ·rw [if_neg h256]
   refine FnP.of_body tabOk Tryz.func93 Tryz.ntmps93 rfl (by decide +kernel) (by simp) rfl rfl rfl fun G hp=>?_
   refine go (r:=?_);and_intros<;>intros<;>try exact True.intro
   all_goals trace_state⟩
end Go.Proofs.YtndflfipaddfoaaGreat


namespace Go.Proofs.YtndflfipaddfoaaGreat
open Go Go.Abs
attribute [local irreducible] WpA WpL Rnd Blk Abs.Seq Abs.Fin Abs.FinG FnC FnG FnX FnP FinX Only
def onceD (l:List Int) (c:Cr) (n:Int):Cr×Bool:=((belowD l c n).1,decide ((belowD l c n).2=0))
theorem onceD_ok {l:List Int} {c:Cr} (n:Int) (h:CrOk l c):CrOk l (onceD l c n).1:=(belowD_ok n h).1
def pickD (l:List Int) (c:Cr) (xs:List Int):Cr×Int:=((belowD l c xs.length).1,xs.getD (belowD l c xs.length).2.toNat 0)
theorem pickD_ok {l:List Int} {c:Cr} {xs:List Int} (h:CrOk l c) (hx:0<xs.length):CrOk l (pickD l c xs).1∧(pickD l c xs).2∈xs:=by
 have hb:=belowD_ok (xs.length:Int) h
 refine ⟨hb.1,?_⟩
 have h1:=hb.2.2.1 (by omega)
 have h2:=hb.2.1
 have:(belowD l c xs.length).2.toNat<xs.length:=by omega
 simp [pickD,this]
attribute [local irreducible] belowD
instance l1Once_p:ConP 110 (∀ (v:Value) (l:List Int) (c:Cr) (n:Int),CrOk l c→Pn 110 v l c [I n] (onceD l c n).1 [] (B (onceD l c n).2)):=⟨fun v l c n h=>by
 unfold onceD
 refine FnP.of_body tabOk Tryz.func110 Tryz.ntmps110 rfl (by decide +kernel) (by simp) rfl rfl rfl fun G hp=>?_
 refine go (r:=?_);and_intros<;>intros<;>try exact True.intro⟩
instance l1PickInt_p:ConP 127 (∀ (v:Value) (l:List Int) (c:Cr) (xs:List Int),CrOk l c∧0<xs.length∧xs.length≤1048576→Pn 127 v l c [IL xs] (pickD l c xs).1 [] (I (pickD l c xs).2)):=⟨fun v l c xs h=>by
 have hc:=h.1
 have hb:=belowD_ok (xs.length:Int) hc
 have h1:=hb.2.1
 have h2:=hb.2.2.1 (by omega)
 unfold pickD
 refine FnP.of_body tabOk Tryz.func127 Tryz.ntmps127 rfl (by decide +kernel) (by simp) rfl rfl rfl fun G hp=>?_
 refine go (r:=?_);and_intros<;>intros<;>try exact True.intro
 all_goals trace_state⟩
attribute [local irreducible] onceD pickD
abbrev mode14:List Int:=[0,1,2,3,4,5,0,1,2,3,4,5,-1,6]
def modeD (l:List Int) (c:Cr):Cr×Int:=pickD l c mode14
def lens7:List (List Int):=[[1,2,3,4,5,5],[3,3,3,3,2,2],[2,2,2,3,4,4],[1,1,0,0,0,0],[0,2,2,2,2,0],[5,5,4,3,2,1],[4,4,4,4,2,1]]
def l8D (l:List Int) (c:Cr):Cr×List Int:=
 let y:=belowD l c 7
 let b:=lens7.getD y.2.toNat []
 let o:=onceD l y.1 2
 if o.2=true then
  let i:=belowD l o.1 6
  let k:=belowD l i.1 6
  (k.1,(b.set i.2.toNat (b.getD k.2.toNat 0)).set k.2.toNat (b.getD i.2.toNat 0))
 else (o.1,b)
theorem lens7_6:∀k,k<7→(lens7.getD k []).length=6:=by decide
theorem l8D_yes {l:List Int} {c:Cr} (h:(onceD l (belowD l c 7).1 2).2=true):l8D l c=((belowD l (belowD l (onceD l (belowD l c 7).1 2).1 6).1 6).1,((lens7.getD (belowD l c 7).2.toNat []).set (belowD l (onceD l (belowD l c 7).1 2).1 6).2.toNat ((lens7.getD (belowD l c 7).2.toNat []).getD (belowD l (belowD l (onceD l (belowD l c 7).1 2).1 6).1 6).2.toNat 0)).set (belowD l (belowD l (onceD l (belowD l c 7).1 2).1 6).1 6).2.toNat ((lens7.getD (belowD l c 7).2.toNat []).getD (belowD l (onceD l (belowD l c 7).1 2).1 6).2.toNat 0)):=by
 unfold l8D;simp only;rw [if_pos h]
theorem l8D_no {l:List Int} {c:Cr} (h:¬(onceD l (belowD l c 7).1 2).2=true):l8D l c=((onceD l (belowD l c 7).1 2).1,lens7.getD (belowD l c 7).2.toNat []):=by
 unfold l8D;simp only;rw [if_neg h]
theorem l8D_ok {l:List Int} {c:Cr} (h:CrOk l c):CrOk l (l8D l c).1∧(l8D l c).2.length=6:=by
 have hb:=belowD_ok 7 h
 have ho:=onceD_ok 2 hb.1
 have h6:=lens7_6 (belowD l c 7).2.toNat (by have:=hb.2.1;have:=hb.2.2.1 (by decide);omega)
 by_cases hc:(onceD l (belowD l c 7).1 2).2=true
 ·rw [l8D_yes hc]
  exact ⟨(belowD_ok 6 (belowD_ok 6 ho).1).1,by simp only [List.length_set];exact h6⟩
 ·rw [l8D_no hc];exact ⟨ho,h6⟩
instance l8Lens_p:ConP 107 (∀ (v:Value) (l:List Int) (c:Cr),CrOk l c→Pn 107 v l c [] (l8D l c).1 [XI (l8D l c).2] (.own 1 0 0 (l8D l c).2.length)):=⟨fun v l c h=>by
 have hb:=belowD_ok 7 h
 have h70:=hb.2.1
 have h71:=hb.2.2.1 (by decide)
 have hlt:(belowD l c 7).2.toNat<lens7.length:=by show _<7;omega
 have h6:=lens7_6 (belowD l c 7).2.toNat (by omega)
 have h6':(lens7.getD (belowD l c 7).2.toNat default).length=6:=h6
 have ho:=onceD_ok 2 hb.1
 have hi:=belowD_ok 6 ho
 have hk:=belowD_ok 6 hi.1
 have hi1:=hi.2.2.1 (by decide)
 have hk1:=hk.2.2.1 (by decide)
 by_cases hc:(onceD l (belowD l c 7).1 2).2=true
 ·rw [l8D_yes hc]
  refine FnP.of_body tabOk Tryz.func107 Tryz.ntmps107 rfl (by decide +kernel) (by simp) rfl rfl rfl fun G hp=>?_
  refine go (r:=?_);and_intros<;>intros<;>try exact True.intro
  refine K.ld ?_
  refine WpL.loadOwnLi (M:=lens7) tabOk rfl rfl rfl rfl hlt (by decide) rfl ?_
  refine WpL.appInts tabOk rfl rfl rfl (Nat.le_refl 1) rfl rfl rfl rfl (by omega) (by decide) ?_
  rw [List.nil_append]
  refine WpL.weak (σ':=⟨[(0,.ptr 0 0 0),(20,.own 1 0 0 6)],[CurO v (belowD l c 7).1,XI (lens7.getD (belowD l c 7).2.toNat [])]⟩) (Weak.mk (.cons (.ptr rfl rfl rfl rfl .nil) (.cons (.own rfl rfl rfl rfl rfl (by omega) .nil) .nil)) (.cons (Re.same rfl rfl) (.inr rfl) (.cons (Re.same rfl (still_ints _)) (.inr rfl) .nil)) (Nat.le_of_ble_eq_true rfl)) ?_
  generalize lens7.getD (belowD l c 7).2.toNat []=b at h6 ⊢
  refine go (r:=?_);and_intros<;>intros<;>try exact True.intro
  all_goals first|(rename_i hg;rw [hc] at hg;cases hg;done)
 ·rw [l8D_no hc]
  refine FnP.of_body tabOk Tryz.func107 Tryz.ntmps107 rfl (by decide +kernel) (by simp) rfl rfl rfl fun G hp=>?_
  refine go (r:=?_);and_intros<;>intros<;>try exact True.intro
  refine K.ld ?_
  refine WpL.loadOwnLi (M:=lens7) tabOk rfl rfl rfl rfl hlt (by decide) rfl ?_
  refine WpL.appInts tabOk rfl rfl rfl (Nat.le_refl 1) rfl rfl rfl rfl (by omega) (by decide) ?_
  rw [List.nil_append]
  refine WpL.weak (σ':=⟨[(0,.ptr 0 0 0),(20,.own 1 0 0 6)],[CurO v (belowD l c 7).1,XI (lens7.getD (belowD l c 7).2.toNat [])]⟩) (Weak.mk (.cons (.ptr rfl rfl rfl rfl .nil) (.cons (.own rfl rfl rfl rfl rfl (by omega) .nil) .nil)) (.cons (Re.same rfl rfl) (.inr rfl) (.cons (Re.same rfl (still_ints _)) (.inr rfl) .nil)) (Nat.le_of_ble_eq_true rfl)) ?_
  generalize lens7.getD (belowD l c 7).2.toNat []=b at h6 ⊢
  refine go (r:=?_);and_intros<;>intros<;>try exact True.intro
  all_goals first|(rename_i hg;exact absurd hg hc)⟩
end Go.Proofs.YtndflfipaddfoaaGreat


namespace Go.Proofs.YtndflfipaddfoaaGreat
open Go Go.Abs
attribute [local irreducible] WpA WpL Rnd Blk Abs.Seq Abs.Fin Abs.FinG FnC FnG FnX FnP FinX Only
attribute [local irreducible] belowD onceD pickD modeD
abbrev any5:List Int:=[0,1,8,-1,7]
def l8AnyD (l:List Int) (c:Cr):Cr×List Int:=
 let y:=l8D l c
 let s:=belowD l y.1 12
 if s.2=0 then
  let i:=belowD l s.1 6
  let p:=pickD l i.1 any5
  (p.1,y.2.set i.2.toNat p.2)
 else if s.2=1 then (s.1,y.2.take 5) else (s.1,y.2)
theorem l8AnyD_0 {l:List Int} {c:Cr} (h:(belowD l (l8D l c).1 12).2=0):l8AnyD l c=((pickD l (belowD l (belowD l (l8D l c).1 12).1 6).1 any5).1,(l8D l c).2.set (belowD l (belowD l (l8D l c).1 12).1 6).2.toNat (pickD l (belowD l (belowD l (l8D l c).1 12).1 6).1 any5).2):=by
 unfold l8AnyD;simp only;rw [if_pos h]
theorem l8AnyD_1 {l:List Int} {c:Cr} (h:(belowD l (l8D l c).1 12).2=1):l8AnyD l c=((belowD l (l8D l c).1 12).1,(l8D l c).2.take 5):=by
 unfold l8AnyD;simp only;rw [if_neg (by omega),if_pos h]
theorem l8AnyD_2 {l:List Int} {c:Cr} (h:(belowD l (l8D l c).1 12).2≠0) (h1:(belowD l (l8D l c).1 12).2≠1):l8AnyD l c=((belowD l (l8D l c).1 12).1,(l8D l c).2):=by
 unfold l8AnyD;simp only;rw [if_neg h,if_neg h1]
theorem l8AnyD_ok {l:List Int} {c:Cr} (h:CrOk l c):CrOk l (l8AnyD l c).1∧(l8AnyD l c).2.length≤6:=by
 have h8:=l8D_ok h
 have hs:=belowD_ok 12 h8.1
 by_cases h0:(belowD l (l8D l c).1 12).2=0
 ·rw [l8AnyD_0 h0]
  exact ⟨(pickD_ok (belowD_ok 6 hs.1).1 (by decide)).1,by simp only [List.length_set];omega⟩
 ·by_cases h1:(belowD l (l8D l c).1 12).2=1
  ·rw [l8AnyD_1 h1];exact ⟨hs.1,by simp only [List.length_take];omega⟩
  ·rw [l8AnyD_2 h0 h1];exact ⟨hs.1,by simp only;omega⟩
instance l8Any_p:ConP 111 (∀ (v:Value) (l:List Int) (c:Cr),CrOk l c→Pn 111 v l c [] (l8AnyD l c).1 [XI (l8AnyD l c).2] (.own 1 0 0 (l8AnyD l c).2.length)):=⟨fun v l c h=>by
 have h8:=l8D_ok h
 have hs:=belowD_ok 12 h8.1
 have hi:=belowD_ok 6 hs.1
 have hi1:=hi.2.2.1 (by decide)
 have hi0:=hi.2.1
 by_cases h0:(belowD l (l8D l c).1 12).2=0
 ·rw [l8AnyD_0 h0]
  refine FnP.of_body tabOk Tryz.func111 Tryz.ntmps111 rfl (by decide +kernel) (by simp) rfl rfl rfl fun G hp=>?_
  refine go (r:=?_);and_intros<;>intros<;>try exact True.intro
  all_goals first|exact hi.1|exact hs.1|decide
 ·by_cases h1:(belowD l (l8D l c).1 12).2=1
  ·have e5:((l8D l c).2.take 5).length=5:=by rw [List.length_take,h8.2];rfl
   rw [l8AnyD_1 h1]
   simp only [e5]
   refine FnP.of_body tabOk Tryz.func111 Tryz.ntmps111 rfl (by decide +kernel) (by simp) rfl rfl rfl fun G hp=>?_
   refine go (r:=?_);and_intros<;>intros<;>try exact True.intro
   refine K.sl ?_
   refine WpL.subOwn (j:=5) tabOk rfl rfl rfl rfl rfl (by omega) (by decide) ?_
   refine WpL.weak (Weak.pre (id:=1) (j:=5) rfl) ?_
   refine go (r:=?_);and_intros<;>intros<;>try exact True.intro
   all_goals trace_state
  ·rw [l8AnyD_2 h0 h1]
   refine FnP.of_body tabOk Tryz.func111 Tryz.ntmps111 rfl (by decide +kernel) (by simp) rfl rfl rfl fun G hp=>?_
   refine go (r:=?_);and_intros<;>intros<;>try exact True.intro
   all_goals trace_state⟩
end Go.Proofs.YtndflfipaddfoaaGreat


namespace Go.Proofs.YtndflfipaddfoaaGreat
open Go Go.Abs
attribute [local irreducible] WpA WpL Rnd Blk Abs.Seq Abs.Fin Abs.FinG FnC FnG FnX FnP FinX Only
attribute [local irreducible] belowD onceD pickD modeD l8D l8AnyD
def modesD (l:List Int):Nat→Cr×List Int→Cr×List Int
 |0,s=>s
 |n+1,s=>modesD l n ((modeD l s.1).1,s.2++[(modeD l s.1).2])
def onesD (l:List Int):Nat→Cr×List Bool→Cr×List Bool
 |0,s=>s
 |n+1,s=>onesD l n ((onceD l s.1 2).1,s.2++[(onceD l s.1 2).2])
structure Op6 where
 q:Int
 b:Bool
 d:Bool
 lens:List Int
 ms:List Int
 es:List Bool
abbrev quant7:List Int:=[0,0,6,12,24,36,51]
def optD (l:List Int) (c:Cr):Cr×Op6:=
 let q:=pickD l c quant7
 let b:=onceD l q.1 4
 let d:=onceD l b.1 2
 let e:=l8D l d.1
 let n:=belowD l e.1 5
 let m:=modesD l n.2.toNat (n.1,[])
 let k:=belowD l m.1 4
 let s:=onesD l k.2.toNat (k.1,[])
 (s.1,⟨q.2,b.2,d.2,e.2,m.2,s.2⟩)
end Go.Proofs.YtndflfipaddfoaaGreat
