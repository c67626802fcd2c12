/- Proved in this text: lemmas and contracts of functions that the claim uses (parts: AbsXm, AbsXg, GoK, Rec, Rec2, Rec3, Res, Edg, DebI, Rec5, Rec4, AbsUn). No condition. -/
import Derived.Test.YtainhhfnnclfiaaGreatBmM12
import Derived.Test.YtainhhfnnclfiaaGreatBmM7
import Derived.Test.YtainhhfnnclfiaaGreatBmM8
import Derived.Test.YtainhhfnnclfiaaGreatBmM11
import Derived.Test.YtainhhfnnclfiaaGreatBmM9
set_option linter.unusedVariables false
set_option linter.unusedSimpArgs false
set_option maxRecDepth 100000
set_option maxHeartbeats 16000000


namespace Go.Abs
open Go
inductive Rv (q:List Nat) (O O':List AObj):List AV→List AV→Prop
 |nil:Rv q O O' [] []
 |any {V vs us}:Rv q O O' vs us→Rv q O O' (V::vs) (.any::us)
 |keep {V V' vs us}:V=V'→V'.still=true→Rv q O O' vs us→Rv q O O' (V::vs) (V'::us)
 |fn {f ds vs us}:ds.all AV.simple=true→Rv q O O' vs us→Rv q O O' (.fn f ds::vs) (.fn f ds::us)
 |own {i id ep ep' off len len' ob ob' vs us}:q[i]?=some id→O[id]?=some ob→O'[i]?=some ob'→ob.ep=ep→ob'.ep=ep'→ob'.size=ob.size→len=len'→Rv q O O' vs us→Rv q O O' (.own id ep off len::vs) (.own i ep' off len'::us)
 |ptr {i id ep ep' off ob ob' vs us}:q[i]?=some id→O[id]?=some ob→O'[i]?=some ob'→ob.ep=ep→ob'.ep=ep'→Rv q O O' vs us→Rv q O O' (.ptr id ep off::vs) (.ptr i ep' off::us)
 |agg {ds es vs us}:Rv q O O' ds es→Rv q O O' vs us→Rv q O O' (.agg ds::vs) (.agg es::us)
 |tup {ds es vs us}:Rv q O O' ds es→Rv q O O' vs us→Rv q O O' (.tup ds::vs) (.tup es::us)
theorem Rv.same {q:List Nat} {O O':List AObj} {cs cs':List AV} (h:cs=cs') (hs:cs'.all AV.still=true):Rv q O O' cs cs':=by
 subst h
 induction cs with
 |nil=>exact .nil
 |cons c cs ih=>
  simp only [List.all_cons,Bool.and_eq_true] at hs
  exact .keep rfl hs.1 (ih hs.2)
theorem Rv.rel {q:List Nat} {O O':List AObj} {S w ι ι'} (hι:∀i id,q[i]?=some id→ι' i=ι id) {vs us:List AV} (h:Rv q O O' vs us):∀{xs f},LRel S w ι O vs xs f→∃f',LRel S w ι' O' us xs f'∧(∀ b∈f',b∈f)∧(f.Nodup→f'.Nodup):=by
 induction h with
 |nil=>intro xs f hl;cases hl;exact ⟨[],.nil,by simp,by simp⟩
 |any _ ih=>
  intro xs f hl
  obtain ⟨v,vs',f1,f2,rfl,hv,hr,rfl⟩:=hl.uncons
  obtain ⟨f',h1,h2,h3⟩:=ih hr
  exact ⟨f',.any h1,fun b hb=>List.mem_append_right _ (h2 b hb),fun hn=>h3 (List.nodup_append.1 hn).2.1⟩
 |keep he hs _ ih=>
  intro xs f hl
  subst he
  obtain ⟨v,vs',f1,f2,rfl,hv,hr,rfl⟩:=hl.uncons
  obtain ⟨f',h1,h2,h3⟩:=ih hr
  refine ⟨f1++f',LRel.cons (still_any hv hs O' (fun _ h=>h) (fun _ _=>rfl) (fun _ _=>rfl)) h1,?_,?_⟩
  ·intro b hb
   rcases List.mem_append.1 hb with hb|hb
   ·exact List.mem_append_left _ hb
   ·exact List.mem_append_right _ (h2 b hb)
  ·intro hn
   obtain ⟨n1,n2,n3⟩:=List.nodup_append.1 hn
   exact List.nodup_append.2 ⟨n1,h3 n2,fun a ha b hb=>n3 a ha b (h2 b hb)⟩
 |fn hs _ ih=>
  intro xs f hl
  obtain ⟨v,vs',f1,f2,rfl,hv,hr,rfl⟩:=hl.uncons
  obtain ⟨f',h1,h2,h3⟩:=ih hr
  refine ⟨f',?_,fun b hb=>List.mem_append_right _ (h2 b hb),fun hn=>h3 (List.nodup_append.1 hn).2.1⟩
  cases hv with
  |fn a r=>
   cases r
   refine .fn ?_ h1
   have a':=simple_all (O':=[]) a hs
   exact a'.mono (Later.none [] (fun _ h=>h) (fun _ _=>rfl)) (by simp) |>.lift.mono ⟨fun _ h=>h,fun _ _=>rfl,fun _ ob h=>⟨ob,h,.inr ⟨rfl,rfl,rfl⟩⟩⟩ (by simp)
 |own hq ho ho' he he' hsz hln _ ih=>
  intro xs f hl
  subst hln
  obtain ⟨v,vs',f1,f2,rfl,hv,hr,rfl⟩:=hl.uncons
  obtain ⟨f',h1,h2,h3⟩:=ih hr
  refine ⟨f',?_,fun b hb=>List.mem_append_right _ (h2 b hb),fun hn=>h3 (List.nodup_append.1 hn).2.1⟩
  cases hv with
  |own q1 q2 q3 r=>
   rw [ho] at q1;cases q1
   exact .own ho' (by omega) (fun _=>by rw [hsz,hι _ _ hq];exact q3 he.symm) h1
 |ptr hq ho ho' he he' _ ih=>
  intro xs f hl
  obtain ⟨v,vs',f1,f2,rfl,hv,hr,rfl⟩:=hl.uncons
  obtain ⟨f',h1,h2,h3⟩:=ih hr
  refine ⟨f',?_,fun b hb=>List.mem_append_right _ (h2 b hb),fun hn=>h3 (List.nodup_append.1 hn).2.1⟩
  cases hv with
  |ptr q1 q2 q3 r=>
   rw [ho] at q1;cases q1
   exact .ptr ho' (by omega) (fun _=>by rw [hι _ _ hq];exact q3 he.symm) h1
 |agg _ _ ih1 ih2=>
  intro xs f hl
  obtain ⟨v,vs',f1,f2,rfl,hv,hr,rfl⟩:=hl.uncons
  obtain ⟨us',rfl,ha⟩:=LRel.agg_inv hv
  obtain ⟨g',a1,a2,a3⟩:=ih1 ha
  obtain ⟨f',h1,h2,h3⟩:=ih2 hr
  refine ⟨g'++f',.agg a1 h1,?_,?_⟩
  ·intro b hb
   rcases List.mem_append.1 hb with hb|hb
   ·exact List.mem_append_left _ (a2 b hb)
   ·exact List.mem_append_right _ (h2 b hb)
  ·intro hn
   obtain ⟨n1,n2,n3⟩:=List.nodup_append.1 hn
   exact List.nodup_append.2 ⟨a3 n1,h3 n2,fun a ha b hb=>n3 a (a2 a ha) b (h2 b hb)⟩
 |tup _ _ ih1 ih2=>
  intro xs f hl
  obtain ⟨v,vs',f1,f2,rfl,hv,hr,rfl⟩:=hl.uncons
  obtain ⟨us',rfl,ha⟩:=LRel.tup_inv hv
  obtain ⟨g',a1,a2,a3⟩:=ih1 ha
  obtain ⟨f',h1,h2,h3⟩:=ih2 hr
  refine ⟨g'++f',.tup a1 h1,?_,?_⟩
  ·intro b hb
   rcases List.mem_append.1 hb with hb|hb
   ·exact List.mem_append_left _ (a2 b hb)
   ·exact List.mem_append_right _ (h2 b hb)
  ·intro hn
   obtain ⟨n1,n2,n3⟩:=List.nodup_append.1 hn
   exact List.nodup_append.2 ⟨a3 n1,h3 n2,fun a ha b hb=>n3 a (a2 a ha) b (h2 b hb)⟩
inductive RvT (q:List Nat) (O O':List AObj) (T:List (Nat×AV)):List (Nat×AV)→Prop
 |nil:RvT q O O' T []
 |cons {t V T'}:Rv q O O' [look T t] [V]→RvT q O O' T T'→RvT q O O' T ((t,V)::T')
theorem RvT.at {q O O' T T'} (h:RvT q O O' T T') (t:Nat):Rv q O O' [look T t] [look T' t]:=by
 induction h with
 |nil=>exact .any .nil
 |@cons k V T' hk _ ih=>
  by_cases he:k=t
  ·subst he;rw [look_cons_same];exact hk
  ·rw [look_cons_other _ _ _ _ he];exact ih
inductive RvO (q:List Nat) (O O':List AObj):List Nat→List AObj→Prop
 |nil:RvO q O O' [] []
 |cons {id ob ob' ids os'}:O[id]?=some ob→Rv q O O' ob.cells ob'.cells→(ob'.ty=none∨ob'.ty=ob.ty)→RvO q O O' ids os'→RvO q O O' (id::ids) (ob'::os')
theorem RvO.at {q O O' ids os'} (h:RvO q O O' ids os') {i:Nat} {ob':AObj} (hi:os'[i]?=some ob'):∃id ob,ids[i]?=some id∧O[id]?=some ob∧Rv q O O' ob.cells ob'.cells∧(ob'.ty=none∨ob'.ty=ob.ty):=by
 induction h generalizing i with
 |nil=>simp at hi
 |cons h0 h1 h2 _ ih=>
  cases i with
  |zero=>simp at hi;subst hi;exact ⟨_,_,by simp,h0,h1,h2⟩
  |succ i=>simpa using ih (by simpa using hi)
theorem Weak.mv {m:Nat} {T T':List (Nat×AV)} {O O':List AObj} (q:List Nat) (hnd:nodupB q=true) (hfix:((List.range m).all fun i=>q[i]?==some i)=true) (hm:Nat.ble m O'.length=true) (hT:RvT q O O' T T') (hO:RvO q O O' q O'):Weak m ⟨T,O⟩ ⟨T',O'⟩:=by
 rintro n G a w ⟨S,ι,F,hr⟩
 have hm:m≤O'.length:=Nat.le_of_ble_eq_true hm
 let qf:Nat→Nat:=fun i=>q.getD i 0
 let ι2:Nat→Spot:=fun i=>ι (qf i)
 have hq:∀i id,q[i]?=some id→qf i=id:=fun i id h=>by show q.getD i 0=id;rw [List.getD_eq_getElem?_getD,h];rfl
 have hι:∀i id,q[i]?=some id→ι2 i=ι id:=fun i id h=>by show ι (qf i)=_;rw [hq i id h]
 have hex:∀i,∃f,∀ob',O'[i]?=some ob'→ObjAt S w ι2 O' ob' (ι2 i) f∧(∀ b∈f,b∈F (qf i))∧f.Nodup∧qf i<O.length∧q[i]?=some (qf i):=by
  intro i
  cases hi:O'[i]? with
  |none=>exact ⟨[],by simp⟩
  |some ob'=>
   obtain ⟨id,ob,hqi,ho,hre,hty⟩:=hO.at hi
   have hid:id<O.length:=(List.getElem?_eq_some_iff.1 ho).1
   have e:=hq i id hqi
   rw [hι i id hqi,e]
   have hob:=hr.objs.obj id ob ho
   unfold ObjAt at hob
   cases hs:ι id with
   |none=>
    rw [hs] at hob
    refine ⟨[],fun ob2 h2=>?_⟩
    cases h2
    refine ⟨?_,by simp,by simp,hid,hqi⟩
    rw [hob.1] at hre
    unfold ObjAt
    cases hc:ob'.cells with
    |nil=>exact ⟨rfl,rfl⟩
    |cons c cs=>rw [hc] at hre;cases hre
   |some p=>
    obtain ⟨b,k⟩:=p
    rw [hs] at hob
    obtain ⟨cur,t,fz,f',hF,h1,h2,h3,h4,h5,h6⟩:=hob
    obtain ⟨g,g1,g2,g3⟩:=hre.rel hι h6
    have hnd2:(b::f').Nodup:=by rw [←hF];exact hr.objs.nodup id hid
    have hlen:ob'.cells.length=ob.cells.length:=by
     have e1:=g1.len
     have e2:=h6.len
     omega
    refine ⟨b::g,fun ob2 hh=>?_⟩
    cases hh
    refine ⟨⟨cur,t,fz,g,rfl,h1,h2,by omega,h4,fun e he=>?_,by rw [hlen];exact g1⟩,?_,?_,hid,hqi⟩
    ·rcases hty with hty|hty
     ·rw [hty] at he;cases he
     ·exact h5 e (by rw [←hty];exact he)
    ·intro b' hb'
     rw [hF]
     rcases List.mem_cons.1 hb' with rfl|hb'
     ·simp
     ·simp [g2 b' hb']
    ·exact List.nodup_cons.2 ⟨fun hb=>(List.nodup_cons.1 hnd2).1 (g2 b hb),g3 (List.nodup_cons.1 hnd2).2⟩
 have hFx:∃F':Nat→List Nat,∀i ob',O'[i]?=some ob'→ObjAt S w ι2 O' ob' (ι2 i) (F' i)∧(∀ b∈F' i,b∈F (qf i))∧(F' i).Nodup∧qf i<O.length∧q[i]?=some (qf i):=
  ⟨fun id=>(hex id).choose,fun id=>(hex id).choose_spec⟩
 obtain ⟨F',hF'⟩:=hFx
 refine ⟨S,ι2,F',hr.defers,hr.size,fun t=>?_,⟨fun id ob' h=>(hF' id ob' h).1,fun id h=>(hF' id _ (List.getElem?_eq_getElem h)).2.2.1,fun i j hi hj hij b hb hb'=>?_⟩,fun id h b hb=>?_,hr.base,hr.stable,hr.keeps,fun i hi=>?_,hm⟩
 ·obtain ⟨f',h1,h2,_⟩:=(hT.at t).rel hι (hr.tmps t)
  have:f'=[]:=List.eq_nil_iff_forall_not_mem.2 fun b hb=>by simpa using h2 b hb
  subst this
  exact h1
 ·have hi:i<O'.length:=hi
  have hj:j<O'.length:=hj
  obtain ⟨_,a1,_,a3,a4⟩:=hF' i _ (List.getElem?_eq_getElem hi)
  obtain ⟨_,b1,_,b3,b4⟩:=hF' j _ (List.getElem?_eq_getElem hj)
  have hne:qf i≠qf j:=by
   intro e
   have hn:=nodupB_spec hnd
   have hi2:=(List.getElem?_eq_some_iff.1 a4).1
   have hj2:=(List.getElem?_eq_some_iff.1 b4).1
   rw [e] at a4
   exact hij ((List.getElem?_inj hi2 hn).1 (a4.trans b4.symm))
  exact hr.objs.apart _ _ a3 b3 hne b (a1 b hb) (b1 b hb')
 ·have h:id<O'.length:=h
  obtain ⟨_,a1,_,a3,_⟩:=hF' id _ (List.getElem?_eq_getElem h)
  exact hr.foot _ a3 b (a1 b hb)
 ·have h1:=List.all_eq_true.1 hfix i (List.mem_range.2 hi)
  have h2:q[i]?=some i:=by simpa using h1
  rw [hι i i h2]
  exact hr.spots i hi
end Go.Abs


namespace Go.Abs
open Go
section
variable {P:Program} {n m:Nat} {G:Ctx} {ops:Array Oper} {T0:List (Nat×AV)} {O:List AObj} {fs fs2 out:List (Nat×AV)} {o:Oper} {l:List Oper} {d:Nat} {F:List (Nat×AV)}
end
end Go.Abs
namespace Go.Abs.K
open Go Go.Abs
section
variable {P:Program} {n m:Nat} {G:Ctx} {ops:Array Oper} {T0:List (Nat×AV)} {O:List AObj} {fs out:List (Nat×AV)} {l:List Oper} {dd:Option Nat} {tt:TypeId} {pos:String} {after:Array Edge} {gd:Option (Nat×Bool)}
end
end Go.Abs.K


namespace Go.Proofs.YtainhhfnnclfiaaGreat
open Go Go.Abs
theorem frzS {O:List AObj} {vs us:List AV} (h:Snap O vs us:=by
 (repeat' (first
  |exact Snap.nil
  |(apply Snap.keep
    ·exact rfl
    ·exact rfl)
  |(apply Snap.ownL
    ·exact rfl
    ·exact rfl
    ·exact rfl)
  |apply Snap.agg
  |apply Snap.fre
  |exact Snap.same rfl (still_ints _) (nofre_ints _)
  |exact Snap.same rfl (still_u8s _) (nofre_u8s _)
  |exact Snap.same rfl (still_strs _) (nofre_strs _)
  |exact Snap.same rfl (still_bools _) (nofre_bools _)
  |exact Snap.same rfl (still_rows (fun _=>rfl) _) (nofre_rows (fun _=>rfl) _)
  |(apply K.eq;first|exact rfl|omega|(simp;done)|(simp;omega))))
 first|done|fail):Snap O vs us:=h
theorem frzA {N:List AObj} {r r':AV} (h:FrzR N r r':=by
 first
 |(apply FrzR.tup
   exact frzS)
 |(apply FrzR.one
   exact frzS)):FrzR N r r':=h
theorem inI {X:Prop} (h:X:=by
 (repeat' (first
  |refine fun hgo=>?_
  |exact Only.mk rfl
  |refine WpL.nil ?_
  |(refine K.L ?_;first
   |(refine K.gd ?_;first
    |refine K.gT rfl (by decide) rfl ?_
    |refine K.gF rfl (by decide) rfl ?_)
   |(refine K.mv ?_;refine WpL.move rfl (by decide) ?_)
   |(refine K.asg ?_;refine WpL.assign rfl (by decide) ?_)
   |(refine K.bin ?_;first
    |refine WpL.add rfl rfl (by omega) (by decide) ?_
    |refine WpL.sub rfl rfl (by omega) (by decide) ?_
    |refine WpL.mul rfl rfl (by first|omega|exact mul_in (by omega) (by omega)|assumption) (by decide) ?_
    |refine WpL.quo rfl rfl (by omega) (by decide) ?_
    |refine WpL.rem rfl rfl (by omega) (by decide) ?_
    |refine WpL.bin rfl rfl rfl (by decide) ?_
    |refine WpL.strEq rfl rfl (by decide) ?_
    |refine WpL.strNe rfl rfl (by decide) ?_
    |refine WpL.boolNe (K.tyBool tabOk rfl) rfl rfl (by decide) ?_
    |refine WpL.nilEq (TabOk.slice tabOk rfl).1 rfl rfl (by decide) ?_
    |refine WpL.immEq (TabOk.slice tabOk rfl).1 rfl rfl (by decide) (fun hgo=>?_) ?_
    |refine WpL.ownEq (TabOk.slice tabOk rfl).1 rfl rfl rfl (by first|rfl|omega|(simp;done)|(simp;omega)) rfl (by decide) ?_
    |refine WpL.shl rfl rfl (by first|decide|(simp only [IntKind.bits];omega)) (by decide) ?_
    |refine WpL.shr rfl rfl (by first|decide|(simp only [IntKind.bits];omega)) (by decide) ?_)
   |(refine K.ld ?_;first
    |refine WpL.loadInts tabOk rfl rfl rfl (by first|omega|(simp;omega)) (by decide) ?_
    |refine WpL.loadStrs tabOk rfl rfl rfl (by first|omega|(simp;omega)) (by decide) ?_
    |refine WpL.loadBools tabOk rfl rfl rfl (by first|omega|(simp;omega)) (by decide) ?_
    |refine WpL.loadRow tabOk rfl rfl (fun _=>rfl) (fun _=>rfl) (by first|rfl|omega|(simp;done)|(simp;omega)) (by decide) rfl ?_
    |refine WpL.loadOwn tabOk rfl rfl rfl rfl (fun _=>rfl) rfl (by first|rfl|omega|(simp;done)|(simp;omega)) (by decide) rfl ?_
    |refine WpL.load1 tabOk rfl rfl rfl rfl rfl (by decide) ?_
    |refine WpL.loadAgg (ds:=[_]) tabOk rfl rfl rfl rfl rfl (by decide) ?_
    |refine WpL.loadAgg (ds:=[_,_]) tabOk rfl rfl rfl rfl rfl (by decide) ?_
    |refine WpL.loadAgg (ds:=[_,_,_]) tabOk rfl rfl rfl rfl rfl (by decide) ?_
    |refine WpL.loadAgg (ds:=[_,_,_,_]) tabOk rfl rfl rfl rfl rfl (by decide) ?_
    |refine WpL.loadAgg (ds:=[_,_,_,_,_]) tabOk rfl rfl rfl rfl rfl (by decide) ?_
    |refine WpL.loadAgg (ds:=[_,_,_,_,_,_]) tabOk rfl rfl rfl rfl rfl (by decide) ?_
    |refine WpL.loadAgg (ds:=[_,_,_,_,_,_,_]) tabOk rfl rfl rfl rfl rfl (by decide) ?_
    |refine WpL.loadAgg (ds:=[_,_,_,_,_,_,_,_]) tabOk rfl rfl rfl rfl rfl (by decide) ?_
    |refine WpL.loadLi tabOk rfl rfl rfl (by first|rfl|omega|(simp;done)|(simp;omega)) (by decide) ?_
    |refine WpL.loadSlot tabOk rfl rfl rfl rfl (by first|rfl|omega|(simp;done)|(simp;omega)) (by first|omega|(simp;omega)|(simp;done)) rfl (by decide) ?_)
   |(refine K.fld ?_;first
    |refine WpL.fieldI tabOk rfl rfl rfl (by decide) ?_
    |refine WpL.fieldP tabOk rfl rfl rfl rfl rfl (by decide) ?_)
   |(refine K.ixa ?_;first
    |refine WpL.idxI1 tabOk rfl rfl rfl (by omega) (by decide) ?_
    |refine WpL.idxIJ tabOk rfl rfl rfl (by omega) (by decide) ?_
    |refine WpL.idxOJ tabOk rfl rfl rfl rfl rfl (by omega) (by decide) ?_
    |refine WpL.idxIN tabOk rfl rfl rfl (by omega) (by decide) ?_
    |refine WpL.idxI tabOk rfl rfl rfl (by omega) (by decide) ?_
    |refine WpL.idxO tabOk rfl rfl rfl rfl rfl (by omega) (by decide) ?_)
   |(refine K.call ?_;refine K.con (fun hcon=>?_);first
    |(apply WpL.callI (hcon _)
      ·exact snapA
      ·exact locA
      ·exact outA
      ·exact frzA
      ·decide
      all_goals clear hcon)
    |(apply WpL.callI (hcon)
      ·exact snapA
      ·exact locA
      ·exact outA
      ·exact frzA
      ·decide
      all_goals clear hcon)
    |(apply WpL.callI (hcon _ _)
      ·exact snapA
      ·exact locA
      ·exact outA
      ·exact frzA
      ·decide
      all_goals clear hcon)
    |(apply WpL.callI (hcon _)
      ·exact snapA
      ·exact locA
      ·exact outA
      ·exact frzA
      ·decide
      all_goals clear hcon)
    |(apply WpL.callI (hcon _ _ _)
      ·exact snapA
      ·exact locA
      ·exact outA
      ·exact frzA
      ·decide
      all_goals clear hcon)
    |(apply WpL.callI (hcon _ _)
      ·exact snapA
      ·exact locA
      ·exact outA
      ·exact frzA
      ·decide
      all_goals clear hcon)
    |(apply WpL.callI (hcon _ _ _ _)
      ·exact snapA
      ·exact locA
      ·exact outA
      ·exact frzA
      ·decide
      all_goals clear hcon)
    |(apply WpL.callI (hcon _ _ _)
      ·exact snapA
      ·exact locA
      ·exact outA
      ·exact frzA
      ·decide
      all_goals clear hcon)
    |(apply WpL.callI (hcon _ _ _ _ _)
      ·exact snapA
      ·exact locA
      ·exact outA
      ·exact frzA
      ·decide
      all_goals clear hcon)
    |(apply WpL.callI (hcon _ _ _ _)
      ·exact snapA
      ·exact locA
      ·exact outA
      ·exact frzA
      ·decide
      all_goals clear hcon)
    |(apply WpL.callI (hcon _ _ _ _ _ _)
      ·exact snapA
      ·exact locA
      ·exact outA
      ·exact frzA
      ·decide
      all_goals clear hcon)
    |(apply WpL.callI (hcon _ _ _ _ _)
      ·exact snapA
      ·exact locA
      ·exact outA
      ·exact frzA
      ·decide
      all_goals clear hcon)
    |(apply WpL.callI (hcon _ _ _ _ _ _ _)
      ·exact snapA
      ·exact locA
      ·exact outA
      ·exact frzA
      ·decide
      all_goals clear hcon)
    |(apply WpL.callI (hcon _ _ _ _ _ _)
      ·exact snapA
      ·exact locA
      ·exact outA
      ·exact frzA
      ·decide
      all_goals clear hcon)
    |(apply WpL.callI (hcon _ _ _ _ _ _ _ _)
      ·exact snapA
      ·exact locA
      ·exact outA
      ·exact frzA
      ·decide
      all_goals clear hcon)
    |(apply WpL.callI (hcon _ _ _ _ _ _ _)
      ·exact snapA
      ·exact locA
      ·exact outA
      ·exact frzA
      ·decide
      all_goals clear hcon)
    |(apply WpL.callI (hcon _ _ _ _ _ _ _ _ _)
      ·exact snapA
      ·exact locA
      ·exact outA
      ·exact frzA
      ·decide
      all_goals clear hcon)
    |(apply WpL.callI (hcon _ _ _ _ _ _ _ _)
      ·exact snapA
      ·exact locA
      ·exact outA
      ·exact frzA
      ·decide
      all_goals clear hcon)
    |(apply WpL.callI (hcon _ _ _ _ _ _ _ _ _ _)
      ·exact snapA
      ·exact locA
      ·exact outA
      ·exact frzA
      ·decide
      all_goals clear hcon)
    |(apply WpL.callI (hcon _ _ _ _ _ _ _ _ _)
      ·exact snapA
      ·exact locA
      ·exact outA
      ·exact frzA
      ·decide
      all_goals clear hcon)
    |(apply WpL.callI (hcon _ _ _ _ _ _ _ _ _ _ _)
      ·exact snapA
      ·exact locA
      ·exact outA
      ·exact frzA
      ·decide
      all_goals clear hcon)
    |(apply WpL.callI (hcon _ _ _ _ _ _ _ _ _ _)
      ·exact snapA
      ·exact locA
      ·exact outA
      ·exact frzA
      ·decide
      all_goals clear hcon)
    |(apply WpL.callI (hcon _ _ _ _ _ _ _ _ _ _ _ _)
      ·exact snapA
      ·exact locA
      ·exact outA
      ·exact frzA
      ·decide
      all_goals clear hcon)
    |(apply WpL.callI (hcon _ _ _ _ _ _ _ _ _ _ _)
      ·exact snapA
      ·exact locA
      ·exact outA
      ·exact frzA
      ·decide
      all_goals clear hcon)
    |(apply WpL.callI (hcon _ _ _ _ _ _ _ _ _ _ _ _ _)
      ·exact snapA
      ·exact locA
      ·exact outA
      ·exact frzA
      ·decide
      all_goals clear hcon)
    |(apply WpL.callI (hcon _ _ _ _ _ _ _ _ _ _ _ _)
      ·exact snapA
      ·exact locA
      ·exact outA
      ·exact frzA
      ·decide
      all_goals clear hcon)
    |(apply WpL.callI (hcon _ _ _ _ _ _ _ _ _ _ _ _ _ _)
      ·exact snapA
      ·exact locA
      ·exact outA
      ·exact frzA
      ·decide
      all_goals clear hcon)
    |(apply WpL.callI (hcon _ _ _ _ _ _ _ _ _ _ _ _ _)
      ·exact snapA
      ·exact locA
      ·exact outA
      ·exact frzA
      ·decide
      all_goals clear hcon)
    |(apply WpL.callI (hcon _ _ _ _ _ _ _ _ _ _ _ _ _ _ _)
      ·exact snapA
      ·exact locA
      ·exact outA
      ·exact frzA
      ·decide
      all_goals clear hcon)
    |(apply WpL.callI (hcon _ _ _ _ _ _ _ _ _ _ _ _ _ _)
      ·exact snapA
      ·exact locA
      ·exact outA
      ·exact frzA
      ·decide
      all_goals clear hcon))
   |(refine K.callT ?_;refine K.conV rfl (fun hcon=>?_);first
    |(refine WpL.callVF rfl (hcon _ _ _ _ _ _ _ _ _ _ _ _) rfl snapA locA outA rfl rfl rfl (by decide) ?_<;>clear hcon))
   |(refine K.mkF ?_;refine WpL.makeFunc rfl (by decide) ?_)
   |(refine K.bi ?_;first
    |(refine K.blen ?_;first
     |refine WpL.lenImm (TabOk.slice tabOk rfl).1 rfl (by decide) ?_
     |refine WpL.lenOwn (TabOk.slice tabOk rfl).1 rfl rfl rfl (by decide) ?_)
    |(refine K.bapp ?_;first
     |refine WpL.app1Ints tabOk rfl rfl rfl (by first|exact Nat.zero_le _|exact Nat.le_of_ble_eq_true rfl) rfl rfl (by first|rfl|omega|(simp;done)|(simp;omega)) (by omega) (by decide) ?_
     |refine WpL.appInts tabOk rfl rfl rfl (by first|exact Nat.zero_le _|exact Nat.le_of_ble_eq_true rfl) rfl rfl (by first|rfl|omega|(simp;done)|(simp;omega)) (by first|rfl|omega|(simp;done)|(simp;omega)) (by omega) (by decide) ?_
     |refine WpL.nil1Ints tabOk rfl rfl rfl rfl (by omega) rfl (by decide) ?_
     |refine WpL.appRow (f:=prF) (v:=(_,_)) tabOk rfl rfl rfl (by first|exact Nat.zero_le _|exact Nat.le_of_ble_eq_true rfl) rfl rfl (fun _=>rfl) rfl rfl (by first|rfl|omega|(simp;done)|(simp;omega)) (by omega) (by decide) ?_
     |refine WpL.appRow (f:=plF) (v:=(_,_,_)) tabOk rfl rfl rfl (by first|exact Nat.zero_le _|exact Nat.le_of_ble_eq_true rfl) rfl rfl (fun _=>rfl) rfl rfl (by first|rfl|omega|(simp;done)|(simp;omega)) (by omega) (by decide) ?_
     |refine WpL.appOwn tabOk rfl rfl rfl rfl rfl rfl (by simp) (by first|exact Nat.zero_le _|exact Nat.le_of_ble_eq_true rfl) rfl rfl (by simp) (by simp [all_ints,all_u8s,all_strs,oneB,Value.oneCell']) (by omega) (by decide) ?_
     |refine WpL.appNil tabOk rfl rfl rfl rfl (by simp) (by simp [all_ints,all_u8s,all_strs,oneB,Value.oneCell']) (by omega) rfl (by decide) ?_)
    |refine WpL.min2 rfl rfl (by decide) ?_
    |refine WpL.max2 rfl rfl (by decide) ?_)
   |(refine K.un ?_;first
    |refine WpL.not rfl (by decide) ?_
    |refine WpL.neg rfl (by omega) (by decide) ?_)
   |(refine K.pick ?_;first
    |refine WpL.pickT rfl rfl (by decide) ?_
    |refine WpL.pickF rfl rfl (by decide) ?_)
   |(refine K.bld ?_;refine WpL.build tabOk rfl rfl (by kernel_rfl) (by decide) ?_)
   |(refine K.ext ?_;refine WpL.extract rfl rfl (by first|decide|simp [AV.shL]) (by decide) ?_)
   |(refine K.cv ?_;first
    |refine WpL.conv (P:=Tryz.prog) (by rfl) (K.tyInt tabOk rfl) rfl (by decide) ?_)
   |(refine K.lit ?_;first
    |refine WpL.lit0Ints tabOk rfl rfl rfl (by decide) ?_
    |refine WpL.litInts tabOk rfl rfl rfl rfl rfl (by decide) rfl (by decide) ?_
    |refine WpL.litStrs tabOk rfl rfl rfl rfl rfl (by decide) rfl (by decide) ?_
    |(apply WpL.litLis tabOk
      ·exact rfl
      ·exact rfl
      ·exact rfl
      ·exact rfl
      ·decide
      ·exact rfl
      ·exact rfl
      ·exact rfl
      ·decide
      ·repeat' (first
        |exact NestC.nil
        |(apply NestC.cons
          ·exact rfl
          ·exact rfl
          ·exact rfl
          ·exact rfl
          ·first|exact Nat.zero_le _|exact Nat.le_of_ble_eq_true rfl
          ·exact rfl
          ·first|rfl|exact still_ints _
          ·first|rfl|simp
          ·exact rfl))
      ·exact rfl
      ·exact rfl)
    |refine WpL.litF tabOk rfl rfl rfl rfl (by decide) rfl (by decide) ?_)
   |(refine K.ms ?_;first
    |refine WpL.makeInts tabOk rfl rfl rfl (by omega) (by omega) rfl (by decide) ?_
    |refine WpL.makeBools tabOk rfl rfl rfl (by omega) (by omega) rfl (by decide) ?_)
   |(refine K.st ?_;first
    |refine WpL.storeInts tabOk rfl rfl rfl rfl rfl (by first|omega|(simp;omega)) ?_
    |refine WpL.storeBools tabOk rfl rfl rfl rfl rfl (by first|omega|(simp;omega)) ?_
    |refine WpL.storeSlot tabOk rfl rfl rfl rfl rfl rfl (by first|rfl|omega|(simp;done)|(simp;omega)) (by first|omega|(simp;omega)|(simp;done)) ?_
    |refine WpL.storeS tabOk rfl rfl rfl rfl rfl rfl rfl rfl (by first|decide|omega|(simp;omega)|(simp;done)) (by first|(simp only [Go.Abs.setL,List.set_cons_zero,List.set_cons_succ,Nat.zero_add,Nat.reduceAdd];exact rfl)|exact rfl) ?_)
   |(refine K.all ?_;first
    |refine WpL.allocStruct tabOk rfl rfl (by decide) ?_
    |refine WpL.allocPlain tabOk rfl rfl rfl (by decide) ?_)
   |(refine K.box ?_;refine WpL.box rfl rfl rfl (by decide) ?_)
   |(refine K.sl ?_;first
    |refine WpL.subIntsHi tabOk rfl rfl rfl (by first|rfl|omega|(simp;done)|(simp;omega)) (by omega) (by decide) ?_
    |refine WpL.subInts tabOk rfl rfl rfl rfl (by first|rfl|omega|(simp;done)|(simp;omega)) (by omega) (by decide) ?_
    |refine WpL.subImm tabOk rfl rfl (by first|exact .inl ⟨rfl,rfl⟩|exact .inr ⟨_,_,rfl,rfl⟩) (by first|exact .inl ⟨rfl,rfl⟩|exact .inr ⟨_,_,rfl,rfl⟩) (by omega) (by decide) ?_))
  |(refine K.le ?_;first|omega|(simp;omega)|assumption)
  |(refine K.lt ?_;first|omega|(simp;omega)|assumption)
  |refine And.intro ?_ ?_
  |omega
  |assumption
  |(simp;done)))
 first|done|fail):X:=h
theorem headNI {X:Prop} (h:X:=by
 (repeat' (first
 |exact Abs.HeadN.nil
 |(apply HeadN.pureF rfl
   ·exact rfl
   ·exact rfl
   ·exact rfl
   ·exact inI
   ·exact rfl)
 |(apply HeadN.prodF rfl
   ·exact rfl
   ·exact rfl
   ·exact in1
   ·intro hgo;cases hgo
   ·exact rfl
   ·exact rfl
   ·exact rfl)))
 first|done|fail):X:=h
end Go.Proofs.YtainhhfnnclfiaaGreat


namespace Go.Proofs.YtainhhfnnclfiaaGreat
open Go Go.Abs
attribute [local irreducible] WpA WpL Rnd Blk Abs.Seq Abs.Fin Abs.FinG FnC FnG Only
abbrev FrO (W H:Int) (p:List Int):AObj:=⟨[I W,I H,IL p],0,0,none⟩
abbrev FrOwn (k:Nat) (W H:Int) (len:Nat):AV:=.agg [I W,I H,.own k 0 0 len]
instance fits_c:Con 193 (∀ (W H:Int) (p:List Int) (x y n:Int),p.length≤1099511627776→Fn 193 [FrA W H p,I x,I y,I n] [] (B (decide (Fits W H p x y n)))):=⟨fun W H p x y n hl=>by
 refine FnC.of_body tabOk Tryz.func193 Tryz.ntmps193 rfl (by decide +kernel) (by simp) fun G=>?_
 by_cases h0:FrameOk W H p
 ·have h1:=h0.1
  by_cases h2:n=4∨n=8
  ·refine go (r:=?_);and_intros<;>intros<;>try exact True.intro
   all_goals first|(simp_all;done)|(rw [Bool.eq_iff_iff];simp only [decide_eq_true_eq,Bool.not_eq_true',decide_eq_false_iff_not,Bool.false_eq_true,true_iff,false_iff,iff_true,iff_false,Bool.not_eq_eq_eq_not,Bool.not_true];omega)
  ·refine go (r:=?_);and_intros<;>intros<;>try exact True.intro
   all_goals first|(simp_all;done)|(rw [Bool.eq_iff_iff];simp only [decide_eq_true_eq,Bool.not_eq_true',decide_eq_false_iff_not,Bool.false_eq_true,true_iff,false_iff,iff_true,iff_false,Bool.not_eq_eq_eq_not,Bool.not_true];omega)
 ·refine go (r:=?_);and_intros<;>intros<;>try exact True.intro
  all_goals first|(simp_all;done)|(rw [Bool.eq_iff_iff];simp only [decide_eq_true_eq,Bool.not_eq_true',decide_eq_false_iff_not,Bool.false_eq_true,true_iff,false_iff,iff_true,iff_false,Bool.not_eq_eq_eq_not,Bool.not_true];omega)⟩
instance l18In_s:Con 158 (∀ (W H:Int) (p:List Int) (x y n:Int),p.length≤1099511627776→Fn 158 [FrA W H p,I x,I y,I n] [] (B (decide (Fits W H p x y n)))):=⟨fun W H p x y n hl=>by
 refine FnC.of_body tabOk Tryz.func158 Tryz.ntmps158 rfl (by decide +kernel) (by simp) fun G=>?_
 by_cases h0:FrameOk W H p
 ·have h1:=h0.1
  by_cases h2:n=4∨n=8
  ·refine go (r:=?_);and_intros<;>intros<;>try exact True.intro
   all_goals first|(simp_all;done)|(rw [Bool.eq_iff_iff];simp only [decide_eq_true_eq,Bool.not_eq_true',decide_eq_false_iff_not,Bool.false_eq_true,true_iff,false_iff,iff_true,iff_false,Bool.not_eq_eq_eq_not,Bool.not_true];omega)
  ·refine go (r:=?_);and_intros<;>intros<;>try exact True.intro
   all_goals first|(simp_all;done)|(rw [Bool.eq_iff_iff];simp only [decide_eq_true_eq,Bool.not_eq_true',decide_eq_false_iff_not,Bool.false_eq_true,true_iff,false_iff,iff_true,iff_false,Bool.not_eq_eq_eq_not,Bool.not_true];omega)
 ·refine go (r:=?_);and_intros<;>intros<;>try exact True.intro
  all_goals first|(simp_all;done)|(rw [Bool.eq_iff_iff];simp only [decide_eq_true_eq,Bool.not_eq_true',decide_eq_false_iff_not,Bool.false_eq_true,true_iff,false_iff,iff_true,iff_false,Bool.not_eq_eq_eq_not,Bool.not_true];omega)⟩
instance own_c:Con 199 (∀ (W H:Int) (p:List Int),p.length≤1099511627776→Fn 199 [FrA W H p] [XI p] (FrOwn 0 W H p.length)):=⟨fun W H p hl=>by
 refine FnC.of_body tabOk Tryz.func199 Tryz.ntmps199 rfl (by decide +kernel) (by simp) fun G=>?_
 refine go (r:=?_);and_intros<;>intros<;>try exact True.intro
 all_goals trace_state⟩
instance l18Copy_s:Con 160 (∀ (W H:Int) (p:List Int),p.length≤1099511627776→Fn 160 [FrA W H p] [XI p] (FrOwn 0 W H p.length)):=⟨fun W H p hl=>by
 refine FnC.of_body tabOk Tryz.func160 Tryz.ntmps160 rfl (by decide +kernel) (by simp) fun G=>?_
 refine go (r:=?_);and_intros<;>intros<;>try exact True.intro
 all_goals trace_state⟩
end Go.Proofs.YtainhhfnnclfiaaGreat


namespace Go.Proofs.YtainhhfnnclfiaaGreat
open Go Go.Abs
attribute [local irreducible] WpA WpL Rnd Blk Abs.Seq Abs.Fin Abs.FinG FnC FnG Only
theorem blkL_yes {W H:Int} {p:List Int} {x y n:Int} (h:Fits W H p x y n):blkL W H p x y n=tabL (blkV W p x y n) (n*n).toNat:=by unfold blkL;rw [if_pos h]
theorem blkL_no {W H:Int} {p:List Int} {x y n:Int} (h:¬Fits W H p x y n):blkL W H p x y n=[]:=by unfold blkL;rw [if_neg h]
instance BlockAt_c:Con 135 (∀ (W H:Int) (p:List Int) (x y n:Int),p.length≤1099511627776→Fn 135 [FrA W H p,I x,I y,I n] [XI (blkL W H p x y n)] (.own 0 0 0 (blkL W H p x y n).length)):=⟨fun W H p x y n hl=>by
 by_cases h:Fits W H p x y n
 ·have e:=blkL_yes h
  have hd:=decide_eq_true h
  have hx:=h.2.2.1
  have hy:=h.2.2.2.1
  rcases h.2.1 with rfl|rfl
  ·have e2:blkL W H p x y 4=tabL (blkV W p x y 4) 16:=e
   refine FnC.of_body tabOk Tryz.func135 Tryz.ntmps135 rfl (by decide +kernel) (by simp) fun G=>?_
   refine go (r:=?_);and_intros<;>intros<;>try exact True.intro
   all_goals first|contradiction|(exact absurd h (by assumption))|skip
   refine WpA.loop (fun k:Nat=>⟨[(1,I x),(2,I y),(3,I 4),(4,.ptr 0 0 0),(9,.own 1 0 0 k),(20,I 16),(21,I k)],[FrO W H p,XI (tabL (blkV W p x y 4) k)]⟩) (fun k=>k≤16) (fun k=>16-k) 0 (by omega) (go (r:=?_)) (fun k hk=>?_)
   ·simp [tabL]
   have hkl:=tabL_len (blkV W p x y 4) k
   by_cases hlt:k<16
   ·obtain ⟨⟨b1,b2,b3,b4⟩,b5,b6,b7,b8⟩:=px_in h (i:=k) (by omega)
    unfold pxI at b7 b8
    refine go (r:=?_);and_intros<;>intros<;>try exact True.intro
    all_goals first|(rw [tabL_snoc];rfl)
   ·obtain rfl:k=16:=by omega
    refine go (r:=?_);and_intros<;>intros<;>try exact True.intro
    all_goals first|(rw [e2];done)|(rw [e2,tabL_len];done)
  ·have e2:blkL W H p x y 8=tabL (blkV W p x y 8) 64:=e
   refine FnC.of_body tabOk Tryz.func135 Tryz.ntmps135 rfl (by decide +kernel) (by simp) fun G=>?_
   refine go (r:=?_);and_intros<;>intros<;>try exact True.intro
   all_goals first|contradiction|(exact absurd h (by assumption))|skip
   refine WpA.loop (fun k:Nat=>⟨[(1,I x),(2,I y),(3,I 8),(4,.ptr 0 0 0),(9,.own 1 0 0 k),(20,I 64),(21,I k)],[FrO W H p,XI (tabL (blkV W p x y 8) k)]⟩) (fun k=>k≤64) (fun k=>64-k) 0 (by omega) (go (r:=?_)) (fun k hk=>?_)
   ·simp [tabL]
   have hkl:=tabL_len (blkV W p x y 8) k
   by_cases hlt:k<64
   ·obtain ⟨⟨b1,b2,b3,b4⟩,b5,b6,b7,b8⟩:=px_in h (i:=k) (by omega)
    unfold pxI at b7 b8
    refine go (r:=?_);and_intros<;>intros<;>try exact True.intro
    all_goals first|(rw [tabL_snoc];rfl)
   ·obtain rfl:k=64:=by omega
    refine go (r:=?_);and_intros<;>intros<;>try exact True.intro
    all_goals first|(rw [e2];done)|(rw [e2,tabL_len];done)
 ·have e:=blkL_no h
  have hd:=decide_eq_false h
  refine FnC.of_body tabOk Tryz.func135 Tryz.ntmps135 rfl (by decide +kernel) (by simp) fun G=>?_
  refine go (r:=?_);and_intros<;>intros<;>try exact True.intro
  all_goals first|contradiction|(rw [e];done)|(rw [e];rfl)|(exact absurd (by assumption) h)⟩
theorem rowB_len {W H:Int} {p:List Int} {x y n:Int} (h:Fits W H p x y n) {k:Nat} (hk:(k:Int)<n):((p.drop ((y+k)*W+x).toNat).take (((y+k)*W+x+n).toNat-((y+k)*W+x).toNat)).length=n.toNat:=by
 obtain ⟨h0,h1,hx,hy,_⟩:=h
 have hb:=ix_in h0 (a:=y+k) (b:=x+n-1) (by omega) (by omega)
 have hb0:=ix_in h0 (a:=y+k) (b:=x) (by omega) (by rcases h1 with rfl|rfl<;>omega)
 rw [List.length_take,List.length_drop];omega
theorem rowB {W H:Int} {p:List Int} {x y n:Int} (h:Fits W H p x y n) {k:Nat} (hk:(k:Int)<n):tabL (blkV W p x y n) (n.toNat*k)++(p.drop ((y+k)*W+x).toNat).take (((y+k)*W+x+n).toNat-((y+k)*W+x).toNat)=tabL (blkV W p x y n) (n.toNat*(k+1)):=by
 have hl:=rowB_len h hk
 obtain ⟨h0,h1,hx,hy,_⟩:=h
 have hb:=ix_in h0 (a:=y+k) (b:=x+n-1) (by omega) (by omega)
 have hb0:=ix_in h0 (a:=y+k) (b:=x) (by omega) (by rcases h1 with rfl|rfl<;>omega)
 obtain ⟨m,hm⟩:∃m:Nat,n=m:=⟨n.toNat,by rcases h1 with rfl|rfl<;>omega⟩
 subst hm
 have hmp:0<m:=by rcases h1 with h|h<;>omega
 simp only [Int.toNat_natCast] at hl ⊢
 refine list_ext (N:=m*(k+1)) (by rw [List.length_append,tabL_len,hl,Nat.mul_succ]) (tabL_len ..) fun j hj=>?_
 rw [tabL_get hj]
 rcases Nat.lt_or_ge j (m*k) with hj2|hj2
 ·rw [List.getD_eq_getElem?_getD,List.getElem?_append_left (by rw [tabL_len];exact hj2),←List.getD_eq_getElem?_getD,tabL_get hj2]
 ·obtain ⟨i,rfl⟩:∃i,j=m*k+i:=⟨j-m*k,by omega⟩
  rw [Nat.mul_succ] at hj
  have hi:i<m:=by omega
  have e1:(m*k+i)/m=k:=by rw [Nat.mul_add_div hmp,Nat.div_eq_of_lt hi,Nat.add_zero]
  have e2:(m*k+i)%m=i:=by rw [Nat.mul_add_mod,Nat.mod_eq_of_lt hi]
  rw [List.getD_eq_getElem?_getD,List.getElem?_append_right (by rw [tabL_len];omega),tabL_len,Nat.add_sub_cancel_left,List.getElem?_take,if_pos (by omega),List.getElem?_drop,←List.getD_eq_getElem?_getD]
  unfold blkV pxI
  have e3:(((m*k+i:Nat):Int)/(m:Int))=(k:Int):=by rw [←Int.natCast_ediv,e1]
  have e4:(((m*k+i:Nat):Int)%(m:Int))=(i:Int):=by rw [←Int.natCast_emod,e2]
  rw [e3,e4]
  congr 1;omega
instance BlockAt_s:Con 90 (∀ (W H:Int) (p:List Int) (x y n:Int),p.length≤1099511627776→Fn 90 [FrA W H p,I x,I y,I n] [XI (blkL W H p x y n)] (.own 0 0 0 (blkL W H p x y n).length)):=⟨fun W H p x y n hl=>by
 by_cases h:Fits W H p x y n
 ·have e:=blkL_yes h
  have hd:=decide_eq_true h
  have h0:=h.1
  have hx:=h.2.2.1
  have hy:=h.2.2.2.1
  rcases h.2.1 with rfl|rfl
  ·have e2:blkL W H p x y 4=tabL (blkV W p x y 4) 16:=e
   refine FnC.of_body tabOk Tryz.func90 Tryz.ntmps90 rfl (by decide +kernel) (by simp) fun G=>?_
   refine go (r:=?_);and_intros<;>intros<;>try exact True.intro
   refine WpA.loop (fun k:Nat=>⟨[(1,I x),(2,I y),(3,I 4),(4,.ptr 0 0 0),(9,.own 1 0 0 (4*k)),(10,I k)],[FrO W H p,XI (tabL (blkV W p x y 4) (4*k))]⟩) (fun k=>k≤4) (fun k=>4-k) 0 (by omega) (go (r:=?_)) (fun k hk=>?_)
   ·simp [tabL]
   have hkl:=tabL_len (blkV W p x y 4) (4*k)
   by_cases hlt:k<4
   ·have b1:=ix_in h0 (a:=y+k) (b:=x) (by omega) (by omega)
    have b2:=ix_in h0 (a:=y+k) (b:=x+3) (by omega) (by omega)
    have hr:=rowB h (k:=k) (by omega)
    have hr:tabL (blkV W p x y 4) (4*k)++(p.drop ((y+k)*W+x).toNat).take (((y+k)*W+x+4).toNat-((y+k)*W+x).toNat)=tabL (blkV W p x y 4) (4*(k+1)):=hr
    have hrl:((p.drop ((y+k)*W+x).toNat).take (((y+k)*W+x+4).toNat-((y+k)*W+x).toNat)).length=4:=rowB_len h (k:=k) (by omega)
    refine go (r:=?_);and_intros<;>intros<;>try exact True.intro
    all_goals first|(exact hr)|contradiction|omega
   ·obtain rfl:k=4:=by omega
    refine go (r:=?_);and_intros<;>intros<;>try exact True.intro
    all_goals first|(rw [e2];done)|(rw [e2,tabL_len];done)
  ·have e2:blkL W H p x y 8=tabL (blkV W p x y 8) 64:=e
   refine FnC.of_body tabOk Tryz.func90 Tryz.ntmps90 rfl (by decide +kernel) (by simp) fun G=>?_
   refine go (r:=?_);and_intros<;>intros<;>try exact True.intro
   refine WpA.loop (fun k:Nat=>⟨[(1,I x),(2,I y),(3,I 8),(4,.ptr 0 0 0),(9,.own 1 0 0 (8*k)),(10,I k)],[FrO W H p,XI (tabL (blkV W p x y 8) (8*k))]⟩) (fun k=>k≤8) (fun k=>8-k) 0 (by omega) (go (r:=?_)) (fun k hk=>?_)
   ·simp [tabL]
   have hkl:=tabL_len (blkV W p x y 8) (8*k)
   by_cases hlt:k<8
   ·have b1:=ix_in h0 (a:=y+k) (b:=x) (by omega) (by omega)
    have b2:=ix_in h0 (a:=y+k) (b:=x+7) (by omega) (by omega)
    have hr:=rowB h (k:=k) (by omega)
    have hr:tabL (blkV W p x y 8) (8*k)++(p.drop ((y+k)*W+x).toNat).take (((y+k)*W+x+8).toNat-((y+k)*W+x).toNat)=tabL (blkV W p x y 8) (8*(k+1)):=hr
    have hrl:((p.drop ((y+k)*W+x).toNat).take (((y+k)*W+x+8).toNat-((y+k)*W+x).toNat)).length=8:=rowB_len h (k:=k) (by omega)
    refine go (r:=?_);and_intros<;>intros<;>try exact True.intro
    all_goals first|(exact hr)|contradiction|omega
   ·obtain rfl:k=8:=by omega
    refine go (r:=?_);and_intros<;>intros<;>try exact True.intro
    all_goals first|(rw [e2];done)|(rw [e2,tabL_len];done)
 ·have e:=blkL_no h
  have hd:=decide_eq_false h
  refine FnC.of_body tabOk Tryz.func90 Tryz.ntmps90 rfl (by decide +kernel) (by simp) fun G=>?_
  refine go (r:=?_);and_intros<;>intros<;>try exact True.intro
  refine WpA.loop (fun k:Nat=>⟨[(1,I x),(2,I y),(3,I n),(4,.ptr 0 0 0),(9,.own 1 0 0 0),(10,I 0)],[FrO W H p,XI []]⟩) (fun k=>k≤0) (fun k=>0) 0 (by omega) (go (r:=trivial)) (fun k hk=>?_)
  refine go (r:=?_);and_intros<;>intros<;>try exact True.intro
  all_goals first|contradiction|(rw [e];done)|(rw [e];rfl)|(exact absurd (by assumption) h)⟩
theorem setL_yes {W H:Int} {p:List Int} {x y:Int} {l:List Int} (h:SetOk W H p x y l):setL W H p x y l=setK W x y (side l.length) l p l.length:=by unfold setL;rw [if_pos h]
theorem setL_no {W H:Int} {p:List Int} {x y:Int} {l:List Int} (h:¬SetOk W H p x y l):setL W H p x y l=p:=by unfold setL;rw [if_neg h]
end Go.Proofs.YtainhhfnnclfiaaGreat


namespace Go.Proofs.YtainhhfnnclfiaaGreat
open Go Go.Abs
attribute [local irreducible] WpA WpL Rnd Blk Abs.Seq Abs.Fin Abs.FinG FnC FnG Only
theorem set_step (W x y n:Int) (l p:List Int) (k:Nat):(setK W x y n l p k).set ((y+(k:Int)/n)*W+x+(k:Int)%n).toNat (l.getD k 0)=setK W x y n l p (k+1):=rfl
instance SetBlock_c:Con 200 (∀ (W H:Int) (p:List Int) (x y:Int) (l:List Int),p.length≤1099511627776∧l.length≤1099511627776→Fn 200 [FrA W H p,I x,I y,IL l] [XI (setL W H p x y l)] (.tup [FrOwn 0 W H (setL W H p x y l).length,B (decide (SetOk W H p x y l))])):=⟨fun W H p x y l hl=>by
 have hlen:=setL_len W H p x y l
 by_cases h:SetOk W H p x y l
 ·have e:=setL_yes h
  have hd:=decide_eq_true h
  obtain ⟨h1,h2⟩:=id h
  have h1s:=h1
  rcases h1.2.1 with e4|e4
  ·have hll:l.length=16:=by have:=side_cases l.length;omega
   have e2:setL W H p x y l=setK W x y 4 l p 16:=by rw [e,e4,hll]
   rw [hlen,e2,hd]
   rw [e4] at h1
   refine FnC.of_body tabOk Tryz.func200 Tryz.ntmps200 rfl (by decide +kernel) (by simp) fun G=>?_
   refine goR (r:=?_);and_intros<;>intros<;>try exact True.intro
   apply WpA.regionSF (O:=[FrO W H p,⟨[I 0,I 0,.nilS],0,0,none⟩]) (Or:=[]) (O1:=[FrO W H p,⟨[I 0,I 0,.nilS],0,0,none⟩,⟨ints p,1,1,some 3⟩,⟨[I 0,I 0,.nilS],1,0,none⟩,deadO,deadO]) 6 2 [] [] rfl mixed (by decide +kernel)
   ·exact rfl
   ·apply HeadS.consF .none rfl
    ·exact rfl
    ·exact rfl
    ·exact in1
    ·exact rfl
    ·exact rfl
    apply HeadS.consF .none rfl
    ·exact rfl
    ·exact rfl
    ·exact in1
    ·exact rfl
    ·exact rfl
    apply HeadS.consF .none rfl
    ·exact rfl
    ·exact rfl
    ·exact in0
    ·exact rfl
    ·exact rfl
    apply HeadS.consF .none rfl
    ·exact rfl
    ·exact rfl
    ·exact in1
    ·exact rfl
    ·exact rfl
    apply HeadS.consF (V:=.agg [I W,I H,.own 2 1 0 p.length]) (.put 0 (⟨ints p,1,1,some 3⟩)) rfl
    ·exact rfl
    ·exact rfl
    ·intro Tv Ov hc hp' hd hk
     skip
     refine K.call ?_
     refine K.con (fun hcon=>?_)
     refine WpL.callF (hcon W H p (by omega)) snapA locA outA (cnt_some _ 0) rfl rfl (by decide) ?_
     rw [Nat.zero_add]
     apply WpL.putV (p:=0)
     ·first|exact .agg (.keep rfl rfl (.keep rfl rfl (.own (by first|rfl|simp) .nil))) .nil|exact .own (by first|rfl|simp) .nil
     ·exact hp' 0 _ rfl
     ·exact Nat.zero_le _
     ·exact rfl
     ·first|exact still_ints _|exact still_rows (fun _=>rfl) _|rfl
    ·exact rfl
    ·exact rfl
    apply HeadS.consF (V:=.ptr 3 1 0) (.put 1 (⟨[I 0,I 0,.nilS],1,0,none⟩)) rfl
    ·exact rfl
    ·exact rfl
    ·intro Tv Ov hc hp' hd hk
     refine K.all ?_
     refine WpL.allocStruct tabOk rfl (by rw [nid_len,Nat.zero_add]) (by decide) ?_
     apply WpL.putV (p:=1)
     ·exact .ptr (by first|rfl|simp) .nil
     ·exact hp' 1 _ rfl
     ·exact Nat.zero_le _
     ·exact rfl
     ·rfl
    ·exact rfl
    ·exact rfl
    exact HeadS.nil
   ·exact rfl
   ·exact rfl
   ·exact rfl
   ·exact rfl
   ·exact rfl
   ·exact rfl
   ·exact rfl
   refine goR (r:=?_);and_intros<;>intros<;>try exact True.intro
   all_goals first|contradiction|(exact absurd h1s (by assumption))|skip
   refine WpA.loop (fun k:Nat=>⟨[(1,I x),(2,I y),(4,.ptr 0 0 0),(8,.ptr 1 0 0),(10,I 4),(11,.ptr 3 1 0),(31,IL l),(32,I 16),(33,I k)],[FrO W H p,⟨[I 0,I 0,.nilS],0,0,none⟩,⟨ints (setK W x y 4 l p k),1,1,some 3⟩,⟨[I W,I H,.own 2 1 0 p.length],1,0,none⟩]⟩) (fun k=>k≤16) (fun k=>16-k) 0 (by omega) (go (r:=?_)) (fun k hk=>?_)
   ·and_intros<;>first|exact True.intro|rfl
   have hkl:=setK_len W x y 4 l p k
   by_cases hlt:k<16
   ·obtain ⟨⟨b1,b2,b3,b4⟩,b5,b6,b7,b8⟩:=px_in h1 (i:=k) (by omega)
    unfold pxI at b7 b8
    refine go (r:=?_);and_intros<;>intros<;>try exact True.intro
    all_goals first|contradiction|omega|exact set_step ..
   ·obtain rfl:k=16:=by omega
    refine go (r:=?_);and_intros<;>intros<;>try exact True.intro
    all_goals first|contradiction|exact hd|exact hd.symm
  ·have hll:l.length=64:=by have:=side_cases l.length;omega
   have e2:setL W H p x y l=setK W x y 8 l p 64:=by rw [e,e4,hll]
   rw [hlen,e2,hd]
   rw [e4] at h1
   refine FnC.of_body tabOk Tryz.func200 Tryz.ntmps200 rfl (by decide +kernel) (by simp) fun G=>?_
   refine goR (r:=?_);and_intros<;>intros<;>try exact True.intro
   apply WpA.regionSF (O:=[FrO W H p,⟨[I 0,I 0,.nilS],0,0,none⟩]) (Or:=[]) (O1:=[FrO W H p,⟨[I 0,I 0,.nilS],0,0,none⟩,⟨ints p,1,1,some 3⟩,⟨[I 0,I 0,.nilS],1,0,none⟩,deadO,deadO]) 6 2 [] [] rfl mixed (by decide +kernel)
   ·exact rfl
   ·apply HeadS.consF .none rfl
    ·exact rfl
    ·exact rfl
    ·exact in1
    ·exact rfl
    ·exact rfl
    apply HeadS.consF .none rfl
    ·exact rfl
    ·exact rfl
    ·exact in1
    ·exact rfl
    ·exact rfl
    apply HeadS.consF .none rfl
    ·exact rfl
    ·exact rfl
    ·exact in0
    ·exact rfl
    ·exact rfl
    apply HeadS.consF .none rfl
    ·exact rfl
    ·exact rfl
    ·exact in1
    ·exact rfl
    ·exact rfl
    apply HeadS.consF (V:=.agg [I W,I H,.own 2 1 0 p.length]) (.put 0 (⟨ints p,1,1,some 3⟩)) rfl
    ·exact rfl
    ·exact rfl
    ·intro Tv Ov hc hp' hd hk
     skip
     refine K.call ?_
     refine K.con (fun hcon=>?_)
     refine WpL.callF (hcon W H p (by omega)) snapA locA outA (cnt_some _ 0) rfl rfl (by decide) ?_
     rw [Nat.zero_add]
     apply WpL.putV (p:=0)
     ·first|exact .agg (.keep rfl rfl (.keep rfl rfl (.own (by first|rfl|simp) .nil))) .nil|exact .own (by first|rfl|simp) .nil
     ·exact hp' 0 _ rfl
     ·exact Nat.zero_le _
     ·exact rfl
     ·first|exact still_ints _|exact still_rows (fun _=>rfl) _|rfl
    ·exact rfl
    ·exact rfl
    apply HeadS.consF (V:=.ptr 3 1 0) (.put 1 (⟨[I 0,I 0,.nilS],1,0,none⟩)) rfl
    ·exact rfl
    ·exact rfl
    ·intro Tv Ov hc hp' hd hk
     refine K.all ?_
     refine WpL.allocStruct tabOk rfl (by rw [nid_len,Nat.zero_add]) (by decide) ?_
     apply WpL.putV (p:=1)
     ·exact .ptr (by first|rfl|simp) .nil
     ·exact hp' 1 _ rfl
     ·exact Nat.zero_le _
     ·exact rfl
     ·rfl
    ·exact rfl
    ·exact rfl
    exact HeadS.nil
   ·exact rfl
   ·exact rfl
   ·exact rfl
   ·exact rfl
   ·exact rfl
   ·exact rfl
   ·exact rfl
   refine goR (r:=?_);and_intros<;>intros<;>try exact True.intro
   all_goals first|contradiction|(exact absurd h1s (by assumption))|skip
   refine WpA.loop (fun k:Nat=>⟨[(1,I x),(2,I y),(4,.ptr 0 0 0),(8,.ptr 1 0 0),(10,I 8),(11,.ptr 3 1 0),(31,IL l),(32,I 64),(33,I k)],[FrO W H p,⟨[I 0,I 0,.nilS],0,0,none⟩,⟨ints (setK W x y 8 l p k),1,1,some 3⟩,⟨[I W,I H,.own 2 1 0 p.length],1,0,none⟩]⟩) (fun k=>k≤64) (fun k=>64-k) 0 (by omega) (go (r:=?_)) (fun k hk=>?_)
   ·and_intros<;>first|exact True.intro|rfl
   have hkl:=setK_len W x y 8 l p k
   by_cases hlt:k<64
   ·obtain ⟨⟨b1,b2,b3,b4⟩,b5,b6,b7,b8⟩:=px_in h1 (i:=k) (by omega)
    unfold pxI at b7 b8
    refine go (r:=?_);and_intros<;>intros<;>try exact True.intro
    all_goals first|contradiction|omega|exact set_step ..
   ·obtain rfl:k=64:=by omega
    refine go (r:=?_);and_intros<;>intros<;>try exact True.intro
    all_goals first|contradiction|exact hd|exact hd.symm
 ·have e:=setL_no h
  have hd:=decide_eq_false h
  rw [e,hd]
  refine FnC.of_body tabOk Tryz.func200 Tryz.ntmps200 rfl (by decide +kernel) (by simp) fun G=>?_
  refine goR (r:=?_);and_intros<;>intros<;>try exact True.intro
  apply WpA.regionSF (O:=[FrO W H p,⟨[I 0,I 0,.nilS],0,0,none⟩]) (Or:=[]) (O1:=[FrO W H p,⟨[I 0,I 0,.nilS],0,0,none⟩,⟨ints p,1,1,some 3⟩,⟨[I 0,I 0,.nilS],1,0,none⟩,deadO,deadO]) 6 2 [] [] rfl mixed (by decide +kernel)
  ·exact rfl
  ·apply HeadS.consF .none rfl
   ·exact rfl
   ·exact rfl
   ·exact in1
   ·exact rfl
   ·exact rfl
   apply HeadS.consF .none rfl
   ·exact rfl
   ·exact rfl
   ·exact in1
   ·exact rfl
   ·exact rfl
   apply HeadS.consF .none rfl
   ·exact rfl
   ·exact rfl
   ·exact in0
   ·exact rfl
   ·exact rfl
   apply HeadS.consF .none rfl
   ·exact rfl
   ·exact rfl
   ·exact in1
   ·exact rfl
   ·exact rfl
   apply HeadS.consF (V:=.agg [I W,I H,.own 2 1 0 p.length]) (.put 0 (⟨ints p,1,1,some 3⟩)) rfl
   ·exact rfl
   ·exact rfl
   ·intro Tv Ov hc hp' hd hk
    skip
    refine K.call ?_
    refine K.con (fun hcon=>?_)
    refine WpL.callF (hcon W H p (by omega)) snapA locA outA (cnt_some _ 0) rfl rfl (by decide) ?_
    rw [Nat.zero_add]
    apply WpL.putV (p:=0)
    ·first|exact .agg (.keep rfl rfl (.keep rfl rfl (.own (by first|rfl|simp) .nil))) .nil|exact .own (by first|rfl|simp) .nil
    ·exact hp' 0 _ rfl
    ·exact Nat.zero_le _
    ·exact rfl
    ·first|exact still_ints _|exact still_rows (fun _=>rfl) _|rfl
   ·exact rfl
   ·exact rfl
   apply HeadS.consF (V:=.ptr 3 1 0) (.put 1 (⟨[I 0,I 0,.nilS],1,0,none⟩)) rfl
   ·exact rfl
   ·exact rfl
   ·intro Tv Ov hc hp' hd hk
    refine K.all ?_
    refine WpL.allocStruct tabOk rfl (by rw [nid_len,Nat.zero_add]) (by decide) ?_
    apply WpL.putV (p:=1)
    ·exact .ptr (by first|rfl|simp) .nil
    ·exact hp' 1 _ rfl
    ·exact Nat.zero_le _
    ·exact rfl
    ·rfl
   ·exact rfl
   ·exact rfl
   exact HeadS.nil
  ·exact rfl
  ·exact rfl
  ·exact rfl
  ·exact rfl
  ·exact rfl
  ·exact rfl
  ·exact rfl
  by_cases h1:Fits W H p x y (side l.length)
  ·have h2:¬In l 0 255:=fun h3=>h ⟨h1,h3⟩
   refine go (r:=?_);and_intros<;>intros<;>try exact True.intro
   all_goals first|contradiction|exact hd|exact hd.symm
  ·refine go (r:=?_);and_intros<;>intros<;>try exact True.intro
   all_goals first|contradiction|exact hd|exact hd.symm⟩
end Go.Proofs.YtainhhfnnclfiaaGreat


namespace Go.Proofs.YtainhhfnnclfiaaGreat
open Go Go.Abs
attribute [local irreducible] WpA WpL Rnd Blk Abs.Seq Abs.Fin Abs.FinG FnC FnG Only
theorem scan_own (k:Nat):In (scanL (side k)) 0 (((scanL (side k)).length:Int)-1):=by
 have h:=scan_rg (side k) (by unfold side;split<;>(try split)<;>simp)
 rw [h.2];exact h.1
instance Placed_s:Con 230 (∀ l:List Int,l.length≤1099511627776→Fn 230 [IL l] [XI (plcL l)] (.own 0 0 0 (plcL l).length)):=⟨fun l hl=>by
 obtain ⟨_,hs2⟩:=scan_fit l
 have hs1:=scan_own l.length
 have hsc:=side_cases l.length
 have hpl:=plcL_len l
 have hle:(scanL (side l.length)).length≤l.length:=by
  rcases hsc with ⟨h,e⟩|⟨h,e⟩|⟨_,_,e⟩
  ·rw [(scan_facts (.inl h)).1];exact Nat.le_refl _
  ·rw [(scan_facts (.inr h)).1];exact Nat.le_refl _
  ·rw [e];exact Nat.zero_le _
 refine FnC.of_body tabOk Tryz.func230 Tryz.ntmps230 rfl (by decide +kernel) (by simp) fun G=>?_
 refine go (r:=?_);and_intros<;>intros<;>try exact True.intro
 refine WpA.loop (fun k:Nat=>⟨[(0,IL l),(3,.own 0 0 0 (scanL (side l.length)).length),(4,.own 1 0 0 (scanL (side l.length)).length),(5,I k)],[XI (scanL (side l.length)),XI (plcK (scanL (side l.length)) l k)]⟩) (fun k=>k≤(scanL (side l.length)).length) (fun k=>(scanL (side l.length)).length-k) 0 (by omega) (go (r:=?_)) (fun k hk=>?_)
 ·simp [plcK]
 have hln:=plcK_len (scanL (side l.length)) l k
 have hg:=fun h=>in_get hs1 (k:=k) h
 have hg2:=fun h=>in_get hs1 (k:=((k:Int)).toNat) h
 refine go (r:=?_);and_intros<;>intros<;>try exact True.intro
 have e:k=(scanL (side l.length)).length:=by omega
 rw [e];rfl⟩
instance Placed_c:Con 256 (∀ l:List Int,l.length≤1099511627776→Fn 256 [IL l] [XI (plcL l)] (.own 0 0 0 (plcL l).length)):=⟨fun l hl=>by
 obtain ⟨_,hs2⟩:=scan_fit l
 have hs1:=scan_own l.length
 have hsc:=side_cases l.length
 have hpl:=plcL_len l
 have hle:(scanL (side l.length)).length≤l.length:=by
  rcases hsc with ⟨h,e⟩|⟨h,e⟩|⟨_,_,e⟩
  ·rw [(scan_facts (.inl h)).1];exact Nat.le_refl _
  ·rw [(scan_facts (.inr h)).1];exact Nat.le_refl _
  ·rw [e];exact Nat.zero_le _
 refine FnC.of_body tabOk Tryz.func256 Tryz.ntmps256 rfl (by decide +kernel) (by simp) fun G=>?_
 refine go (r:=?_);and_intros<;>intros<;>try exact True.intro
 refine WpA.loop (fun k:Nat=>⟨[(0,IL l),(4,.own 1 0 0 (scanL (side l.length)).length),(14,.own 0 0 0 (scanL (side l.length)).length),(15,I (scanL (side l.length)).length),(16,I k)],[XI (scanL (side l.length)),XI (plcK (scanL (side l.length)) l k)]⟩) (fun k=>k≤(scanL (side l.length)).length) (fun k=>(scanL (side l.length)).length-k) 0 (by omega) (go (r:=?_)) (fun k hk=>?_)
 ·simp [plcK]
 have hln:=plcK_len (scanL (side l.length)) l k
 have hg:=fun h=>in_get hs1 (k:=k) h
 have hg2:=fun h=>in_get hs1 (k:=((k:Int)).toNat) h
 refine go (r:=?_);and_intros<;>intros<;>try exact True.intro
 have e:k=(scanL (side l.length)).length:=by omega
 rw [e];rfl⟩
instance NormAt_s:Con 276 (∀ n i:Int,(n=0∨n=4∨n=8)∧0≤i∧i≤1000→Fn 276 [I n,I i] [] (I (normL n i))):=⟨fun n i h=>by
 obtain ⟨rfl|rfl|rfl,h0,h1⟩:=h
 ·refine FnC.of_body tabOk Tryz.func276 Tryz.ntmps276 rfl (by decide +kernel) (by simp) fun G=>?_
  refine go (r:=?_);and_intros<;>intros<;>try exact True.intro
  all_goals first|rfl|(unfold normL;rw [if_neg (by omega)];done)
 ·refine FnC.of_body tabOk Tryz.func276 Tryz.ntmps276 rfl (by decide +kernel) (by simp) fun G=>?_
  have hc:i/4%2+i%4%2=0∨i/4%2+i%4%2=1∨i/4%2+i%4%2=2:=by omega
  refine go (r:=?_);and_intros<;>intros<;>try exact True.intro
  all_goals first|rfl|(unfold normL;rw [if_neg (by omega)];done)|skip
  rw [normL,if_pos (by omega),if_neg (by decide)]
  rcases hc with e|e|e
  ·rw [if_pos e,e];rfl
  ·rw [if_neg (by omega),if_neg (by omega),e];rfl
  ·rw [if_neg (by omega),if_pos e,e];rfl
 ·refine FnC.of_body tabOk Tryz.func276 Tryz.ntmps276 rfl (by decide +kernel) (by simp) fun G=>?_
  refine go (r:=?_);and_intros<;>intros<;>try exact True.intro
  all_goals first|rfl|(unfold normL;rw [if_neg (by omega)];done)|(rw [normL,if_pos (by omega),if_pos rfl];done)⟩
instance NormAt_c:Con 286 (∀ n i:Int,(n=0∨n=4∨n=8)∧0≤i∧i≤1000→Fn 286 [I n,I i] [] (I (normL n i))):=⟨fun n i h=>by
 obtain ⟨rfl|rfl|rfl,h0,h1⟩:=h
 ·refine FnC.of_body tabOk Tryz.func286 Tryz.ntmps286 rfl (by decide +kernel) (by simp) fun G=>?_
  refine go (r:=?_);and_intros<;>intros<;>try exact True.intro
  all_goals first|rfl|(unfold normL;rw [if_neg (by omega)];done)
 ·refine FnC.of_body tabOk Tryz.func286 Tryz.ntmps286 rfl (by decide +kernel) (by simp) fun G=>?_
  refine go (r:=?_);and_intros<;>intros<;>try exact True.intro
  all_goals first|rfl|(unfold normL;rw [if_neg (by omega)];done)|(rw [normL,if_pos (by omega),if_neg (by decide),if_pos (by omega)];done)|(rw [normL,if_pos (by omega),if_neg (by decide),if_neg (by omega),if_pos (by omega)];done)|(rw [normL,if_pos (by omega),if_neg (by decide),if_neg (by omega),if_neg (by omega)];done)
 ·refine FnC.of_body tabOk Tryz.func286 Tryz.ntmps286 rfl (by decide +kernel) (by simp) fun G=>?_
  refine go (r:=?_);and_intros<;>intros<;>try exact True.intro
  all_goals first|rfl|(unfold normL;rw [if_neg (by omega)];done)|(rw [normL,if_pos (by omega),if_pos rfl];done)⟩
theorem side_048 (k:Nat):side k=0∨side k=4∨side k=8:=by unfold side;split<;>(try split)<;>simp
theorem sca_snoc (l:List Int) (q:Int) (k:Nat):tabL (scaF l q) (k+1)=tabL (scaF l q) k++[l.getD k 0*stepL q*normL (side l.length) k]:=by rw [tabL_snoc];rfl
instance Scaled_s:Con 233 (∀ (l:List Int) (q:Int),l.length≤1099511627776→Fn 233 [IL l,I q] [XI (scaL l q)] (.own 0 0 0 (scaL l q).length)):=⟨fun l q hl=>by
 have hsl:=stepL_pos q
 have hsd:=side_048 l.length
 refine FnC.of_body tabOk Tryz.func233 Tryz.ntmps233 rfl (by decide +kernel) (by simp) fun G=>?_
 by_cases h:LvOk l∧0<stepL q
 ·have h1:=h.1
  have h2:=h.2
  have hin:=h.1.1
  have hlen:=h.1.2
  have hs:=stepL_in q (hsl.1 h.2)
  have he:scaL l q=tabL (scaF l q) l.length:=by unfold scaL;rw [if_pos h]
  refine go (r:=?_);and_intros<;>intros<;>try exact True.intro
  refine WpA.loop (fun k:Nat=>⟨[(0,IL l),(1,I q),(5,.own 0 0 0 k),(6,I k)],[XI (tabL (scaF l q) k)]⟩) (fun k=>k≤l.length) (fun k=>l.length-k) 0 (by omega) (go (r:=?_)) (fun k hk=>?_)
  ·simp [tabL]
  have hlk:=tabL_len (scaF l q) k
  have b1:=sca1_bd hin q k
  have b2:=scaF_bd hin q k
  have b3:=in_getZ (c:=16383) hin (by decide) k
  have b4:=normL_bd (side l.length) k
  unfold scaF at b2
  have hsn:=sca_snoc l q k
  refine go (r:=?_);and_intros<;>intros<;>try exact True.intro
  all_goals first|(rw [hsn];done)|skip
  all_goals have e:k=l.length:=by omega
  all_goals subst e
  ·rw [he,tabL_len]
  ·rw [he]
 ·have e:scaL l q=[]:=by unfold scaL;rw [if_neg h]
  refine go (r:=?_);and_intros<;>intros<;>try exact True.intro
  refine WpA.loop (fun k:Nat=>⟨[(0,IL l),(1,I q),(5,.own 0 0 0 0),(6,I 0)],[XI []]⟩) (fun k=>k≤0) (fun k=>l.length-k) 0 (by omega) (go (r:=trivial)) (fun k hk=>?_)
  have hx:LvOk l→¬0<stepL q:=fun a b=>h ⟨a,b⟩
  by_cases h1:LvOk l
  ·have h2:=hx h1
   refine go (r:=?_);and_intros<;>intros<;>try exact True.intro
   all_goals first|(rw [e];done)|(rw [e];rfl)
  ·refine go (r:=?_);and_intros<;>intros<;>try exact True.intro
   all_goals first|(rw [e];done)|(rw [e];rfl)⟩
instance Scaled_c:Con 257 (∀ (l:List Int) (q:Int),l.length≤1099511627776→Fn 257 [IL l,I q] [XI (scaL l q)] (.own 0 0 0 (scaL l q).length)):=⟨fun l q hl=>by
 have hsl:=stepL_pos q
 have hsd:=side_048 l.length
 have hsn:¬0<stepL q→stepL q=0:=fun hh=>by have:=(stepL_bd q).1;omega
 refine FnC.of_body tabOk Tryz.func257 Tryz.ntmps257 rfl (by decide +kernel) (by simp) fun G=>?_
 by_cases h:LvOk l∧0<stepL q
 ·have h1:=h.1
  have h2:=h.2
  have hin:=h.1.1
  have hlen:=h.1.2
  have hs:=stepL_in q (hsl.1 h.2)
  have he:scaL l q=tabL (scaF l q) l.length:=by unfold scaL;rw [if_pos h]
  refine go (r:=?_);and_intros<;>intros<;>try exact True.intro
  refine WpA.loop (fun k:Nat=>⟨[(0,IL l),(1,I q),(5,.own 0 0 0 k),(17,IL l),(18,I l.length),(19,I k)],[XI (tabL (scaF l q) k)]⟩) (fun k=>k≤l.length) (fun k=>l.length-k) 0 (by omega) (go (r:=?_)) (fun k hk=>?_)
  ·simp [tabL]
  have hlk:=tabL_len (scaF l q) k
  have b1:=sca1_bd hin q k
  have b2:=scaF_bd hin q k
  have b3:=in_getZ (c:=16383) hin (by decide) k
  have b4:=normL_bd (side l.length) k
  unfold scaF at b2
  have hsn:=sca_snoc l q k
  refine go (r:=?_);and_intros<;>intros<;>try exact True.intro
  all_goals first|(rw [hsn];done)|skip
  all_goals have e:k=l.length:=by omega
  all_goals subst e
  ·rw [he,tabL_len]
  ·rw [he]
 ·have e:scaL l q=[]:=by unfold scaL;rw [if_neg h]
  by_cases h1:LvOk l
  ·have h2:stepL q=0:=hsn (fun hh=>h ⟨h1,hh⟩)
   refine go (r:=?_);and_intros<;>intros<;>try exact True.intro
   all_goals first|(rw [e];done)|(rw [e];rfl)
  ·refine go (r:=?_);and_intros<;>intros<;>try exact True.intro
   all_goals first|(rw [e];done)|(rw [e];rfl)⟩
abbrev Flo (v d:Int):Prop:=(-2000000000000≤v∧v≤2000000000000)∧1≤d∧d≤2000
theorem flo_bd {v d:Int} (h:Flo v d):-2000000000000≤v/d∧v/d≤2000000000000:=by
 obtain ⟨⟨h1,h2⟩,h3,h4⟩:=h
 constructor
 ·exact Int.le_ediv_of_mul_le (by omega) (by omega)
 ·rcases Int.lt_or_le v 0 with h|h
  ·have:=Int.ediv_neg_of_neg_of_pos h (show 0<d by omega);omega
  ·have:=Int.ediv_le_self d h;omega
instance l12Floor_s:Con 275 (∀ v d:Int,Flo v d→Fn 275 [I v,I d] [] (I (v/d))):=⟨fun v d h=>by
 have hb:=flo_bd h
 by_cases hv:v<0
 ·have he:=floor_neg hv (show 0<d by omega)
  refine FnC.of_body tabOk Tryz.func275 Tryz.ntmps275 rfl (by decide +kernel) (by simp) fun G=>?_
  refine go (r:=?_);and_intros<;>intros<;>try exact True.intro
  all_goals first|exact he|exact he.symm
 ·refine FnC.of_body tabOk Tryz.func275 Tryz.ntmps275 rfl (by decide +kernel) (by simp) fun G=>?_
  refine go (r:=?_);and_intros<;>intros<;>try exact True.intro
  all_goals trace_state⟩
theorem flo_t {v d:Int} (h:Flo v d) (hv:v<0):-2000000000000≤v.tdiv d∧v.tdiv d≤0:=by
 have h0:(-v).tdiv d=-(v.tdiv d):=Int.neg_tdiv ..
 have h1:=Int.tdiv_eq_ediv_of_nonneg (a:=-v) (b:=d) (by omega)
 have h2:=Int.ediv_le_self d (show 0≤-v by omega)
 have h3:=Int.ediv_nonneg (show 0≤-v by omega) (show 0≤d by omega)
 omega
instance floorDiv_c:Con 287 (∀ v d:Int,Flo v d→Fn 287 [I v,I d] [] (I (v/d))):=⟨fun v d h=>by
 have hb:=flo_bd h
 have he:=floor_t (a:=v) (b:=d) (by omega)
 by_cases hv:v<0
 ·have ht:=flo_t h hv
  refine FnC.of_body tabOk Tryz.func287 Tryz.ntmps287 rfl (by decide +kernel) (by simp) fun G=>?_
  refine go (r:=?_);and_intros<;>intros<;>try exact True.intro
  refine WpL.quoT rfl rfl (by omega) (by decide) ?_
  refine go (r:=?_);and_intros<;>intros<;>try exact True.intro
  refine WpL.remT rfl rfl (by omega) (by decide) ?_
  by_cases hr:v.tmod d<0
  ·rw [if_pos hr] at he
   refine go (r:=?_);and_intros<;>intros<;>try exact True.intro
   all_goals first|exact he|exact he.symm|contradiction|omega
  ·rw [if_neg hr] at he
   refine go (r:=?_);and_intros<;>intros<;>try exact True.intro
   all_goals first|exact he|exact he.symm|contradiction|omega
 ·refine FnC.of_body tabOk Tryz.func287 Tryz.ntmps287 rfl (by decide +kernel) (by simp) fun G=>?_
  have h0:=Int.emod_nonneg v (show d≠0 by omega)
  refine go (r:=?_);and_intros<;>intros<;>try exact True.intro
  all_goals trace_state⟩
end Go.Proofs.YtainhhfnnclfiaaGreat


namespace Go.Proofs.YtainhhfnnclfiaaGreat
open Go Go.Abs
attribute [local irreducible] WpA WpL Rnd Blk Abs.Seq Abs.Fin Abs.FinG FnC FnG Only
theorem alpha_yes {q:Int} (h:0≤q∧q≤51):alphaL q=q+4:=if_pos h
theorem alpha_no {q:Int} (h:¬(0≤q∧q≤51)):alphaL q=0:=if_neg h
theorem beta_yes {q:Int} (h:0≤q∧q≤51):betaL q=q/3+2:=if_pos h
theorem beta_no {q:Int} (h:¬(0≤q∧q≤51)):betaL q=0:=if_neg h
instance AlphaOf_c:Con 304 (∀ q:Int,Fn 304 [I q] [] (I (alphaL q))):=⟨fun q=>by
 by_cases h:0≤q∧q≤51
 ·rw [alpha_yes h]
  refine FnC.of_body tabOk Tryz.func304 Tryz.ntmps304 rfl (by decide +kernel) (by simp) fun G=>?_
  refine go (r:=?_);and_intros<;>intros<;>try exact True.intro
 ·rw [alpha_no h]
  refine FnC.of_body tabOk Tryz.func304 Tryz.ntmps304 rfl (by decide +kernel) (by simp) fun G=>?_
  refine go (r:=?_);and_intros<;>intros<;>try exact True.intro⟩
instance BetaOf_c:Con 305 (∀ q:Int,Fn 305 [I q] [] (I (betaL q))):=⟨fun q=>by
 by_cases h:0≤q∧q≤51
 ·rw [beta_yes h]
  have e:q.tdiv 3=q/3:=Int.tdiv_eq_ediv_of_nonneg h.1
  refine FnC.of_body tabOk Tryz.func305 Tryz.ntmps305 rfl (by decide +kernel) (by simp) fun G=>?_
  refine go (r:=?_);and_intros<;>intros<;>try exact True.intro
  all_goals first|contradiction|omega|(rw [e];done)
 ·rw [beta_no h]
  refine FnC.of_body tabOk Tryz.func305 Tryz.ntmps305 rfl (by decide +kernel) (by simp) fun G=>?_
  refine go (r:=?_);and_intros<;>intros<;>try exact True.intro⟩
instance near_c:Con 303 (∀ a b n:Int,-1000000≤a∧a≤1000000∧-1000000≤b∧b≤1000000→Fn 303 [I a,I b,I n] [] (B (decide (max (a-b) (b-a)<n)))):=⟨fun a b n h=>by
 refine FnC.of_body tabOk Tryz.func303 Tryz.ntmps303 rfl (by decide +kernel) (by simp) fun G=>?_
 refine go (r:=?_);and_intros<;>intros<;>try exact True.intro⟩
theorem edP_yes {a b c d q:Int} (h:EdOk a b c d q):edP a b c d q=(max 0 (min 255 (b+edD a b c d q)),max 0 (min 255 (c-edD a b c d q))):=if_pos h
theorem edP_no {a b c d q:Int} (h:¬EdOk a b c d q):edP a b c d q=(b,c):=if_neg h
theorem alphaL_bd (q:Int):0≤alphaL q∧alphaL q≤55:=by unfold alphaL;split<;>omega
theorem betaL_bd (q:Int):0≤betaL q∧betaL q≤19:=by unfold betaL;split<;>omega
theorem in4 {a b c d:Int} (h:In [a,b,c,d] 0 255):(0≤a∧a≤255)∧(0≤b∧b≤255)∧(0≤c∧c≤255)∧0≤d∧d≤255:=by
 unfold In at h
 exact ⟨h a (by simp),h b (by simp),h c (by simp),h d (by simp)⟩
instance EdgeOf_c:Con 300 (∀ a b c d q:Int,In [a,b,c,d] 0 255→Fn 300 [I a,I b,I c,I d,I q] [] (.tup [I (edP a b c d q).1,I (edP a b c d q).2])):=⟨fun a b c d q hin=>by
 obtain ⟨ha,hb,hc,hd⟩:=in4 hin
 have hal:=alphaL_bd q
 have hbe:=betaL_bd q
 have hle:[a,b,c,d].length≤1099511627776:=by simp
 by_cases h:EdOk a b c d q
 ·obtain ⟨h0,h1,h2,h3⟩:=id h
  have hq:0≤q∧q≤51:=by
   refine Classical.byContradiction fun hn=>?_
   rw [alpha_no hn] at h1;omega
  have e4:q.tdiv 4=q/4:=Int.tdiv_eq_ediv_of_nonneg hq.1
  rw [edP_yes h]
  have hfl:Flo (4*(c-b)+(a-d)+4) 8:=by unfold Flo;omega
  refine FnC.of_body tabOk Tryz.func300 Tryz.ntmps300 rfl (by decide +kernel) (by simp) fun G=>?_
  refine go (r:=?_);and_intros<;>intros<;>try exact True.intro
  all_goals first|contradiction|omega|(show _=max 0 (min 255 (b+edD a b c d q));unfold edD;omega)|(show _=max 0 (min 255 (c-edD a b c d q));unfold edD;omega)
 ·rw [edP_no h]
  refine FnC.of_body tabOk Tryz.func300 Tryz.ntmps300 rfl (by decide +kernel) (by simp) fun G=>?_
  refine go (r:=?_);and_intros<;>intros<;>try exact True.intro
  all_goals first|contradiction|omega|(exfalso;exact h ⟨hin,by omega,by omega,by omega⟩)⟩
end Go.Proofs.YtainhhfnnclfiaaGreat


namespace Go.Proofs.YtainhhfnnclfiaaGreat
open Go Go.Abs
attribute [local irreducible] WpA WpL Rnd Blk Abs.Seq Abs.Fin Abs.FinG FnC FnG Only
theorem run_snoc (q:Int) (E:List (Nat×Nat)) (e s:Nat) (l:List Int):run q (E++[(e,s)]) l=edg q e s (run q E l) (run q E l):=by rw [run_app];rfl
theorem run_nil (q:Int) (l:List Int):run q [] l=l:=rfl
theorem vx_nil (w y:Nat):vx w y 0=[]:=rfl
theorem vy_nil (w a:Nat):vy w a 0=[]:=rfl
theorem hx_nil (w y:Nat):hx w y 0=[]:=rfl
theorem hy_nil (w:Nat):hy w 0=[]:=rfl
theorem rowLe {w h y:Nat} (hy:y<h):y*w+w≤w*h:=by
 have:=Nat.mul_le_mul_right w (show y+1≤h by omega)
 rw [Nat.add_mul,Nat.one_mul,Nat.mul_comm h w] at this;exact this
theorem in4of {f:List Int} (hf:In f 0 255) (a b c d:Nat):In [f.getD a 0,f.getD b 0,f.getD c 0,f.getD d 0] 0 255:=by
 have h1:=in_getZ255 hf a
 have h2:=in_getZ255 hf b
 have h3:=in_getZ255 hf c
 have h4:=in_getZ255 hf d
 unfold In
 intro v hv
 simp only [List.mem_cons,List.not_mem_nil,or_false] at hv
 rcases hv with rfl|rfl|rfl|rfl<;>assumption
abbrev FrNk (w h:Nat) (f:List Int):Prop:=(w%8=0∧8≤w∧w≤64)∧(h%8=0∧8≤h∧h≤64)∧f.length=w*h∧In f 0 255
abbrev FrHand (W H:Int) (len:Nat):AV:=.agg [I W,I H,.own 0 0 0 len]
instance smoothEdge_c:ConG 289 (∀ (W H:Int) (l:List Int) (e s:Nat) (q:Int),In l 0 255∧2*s≤e∧e+s<l.length∧l.length≤4096∧1≤s→
 Gn 289 [FrHand W H l.length,I e,I s,I q] [IN l] [IN (edg q e s l l)] [] (.tup [])):=⟨fun W H l e s q hh=>by
 obtain ⟨hin,h2,h3,h4,h5⟩:=hh
 have e1:((e:Int)-(s:Int)).toNat=e-s:=by omega
 have e2:((e:Int)-2*(s:Int)).toNat=e-2*s:=by omega
 have e3:((e:Int)+(s:Int)).toNat=e+s:=by omega
 have e0:((e:Int)).toNat=e:=by omega
 have hi4:=in4of hin ((e:Int)-2*(s:Int)).toNat ((e:Int)-(s:Int)).toNat ((e:Int)).toNat ((e:Int)+(s:Int)).toNat
 refine FnG.of_bodyF tabOk Tryz.func289 Tryz.ntmps289 rfl (by decide +kernel) (by simp) rfl rfl fun G=>?_
 refine goR (r:=?_);and_intros<;>intros<;>try exact True.intro
 all_goals first|contradiction|omega|skip
 apply WpA.regionGB 44 mixed (by decide +kernel)
 ·exact rfl
 ·exact headA
 ·exact trueA
 ·exact trueA
 ·exact trueA
 ·exact demA
 ·exact rfl
 ·exact rfl
 refine go (r:=?_);and_intros<;>intros<;>try exact True.intro
 all_goals first|contradiction|omega|(rw [e0,e1,e2,e3];rfl)⟩
section
attribute [local irreducible] run vx vy hx hy edg
instance vertical_c:ConG 262 (∀ (w h:Nat) (l:List Int) (a b:Nat) (q:Int),FrNk w h l∧a≤b∧b≤h→
 Gn 262 [FrHand w h l.length,I a,I b,I q] [IN l] [IN (run q (vy w a (b-a)) l)] [] (.tup [])):=⟨fun w h l a b q hh=>by
 obtain ⟨⟨⟨hw,hw8,hw64⟩,⟨hh8,hh0,hh64⟩,hfl,hin⟩,hab,hbh⟩:=hh
 have hwh:w*h≤64*64:=Nat.mul_le_mul hw64 hh64
 refine FnG.of_bodyF tabOk Tryz.func262 Tryz.ntmps262 rfl (by decide +kernel) (by simp) rfl rfl fun G=>?_
 refine go (r:=?_);and_intros<;>intros<;>try exact True.intro
 all_goals first|contradiction|omega|skip
 refine WpA.loop (fun k:Nat=>⟨[(2,I b),(3,I q),(4,.ptr 1 0 0),(8,I ((a+k:Nat):Int))],[IN (run q (vy w a k) l),⟨[I w,I h,.own 0 0 0 l.length],0,0,none⟩]⟩) (fun k=>k≤b-a) (fun k=>b-a-k) 0 (by omega) (go (r:=?_)) (fun k hk=>?_)
 ·and_intros<;>first|exact True.intro|rfl|(rw [vy_nil,run_nil];done)
 obtain ⟨y,hy⟩:∃y,a+k=y:=⟨_,rfl⟩
 have hkl:=run_len q (vy w a k) l
 by_cases hlt:k<b-a
 ·have hyh:y<h:=by omega
  have hrow:=rowLe (w:=w) hyh
  have hyn:a+(k+1)=y+1:=by omega
  have hvs:=vy_succ w a k
  rw [hy] at hvs
  rw [hy]
  obtain ⟨m,hm⟩:∃m,y*w=m:=⟨_,rfl⟩
  have hpm:(y:Int)*(w:Int)=(m:Int):=by rw [←hm,Int.natCast_mul]
  rw [hm] at hrow
  refine go (r:=?_);and_intros<;>intros<;>try exact True.intro
  all_goals first|contradiction|omega|skip
  refine WpA.loop (fun j:Nat=>⟨[(2,I b),(3,I q),(4,.ptr 1 0 0),(8,I (y:Int)),(9,I (8*(j:Int)+8))],[IN (run q (vy w a k++vx w y j) l),⟨[I w,I h,.own 0 0 0 l.length],0,0,none⟩]⟩) (fun j=>j≤w/8-1) (fun j=>w/8-1-j) 0 (by omega) (go (r:=?_)) (fun j hj=>?_)
  ·and_intros<;>first|exact True.intro|rfl|(rw [vx_nil,List.append_nil];done)
  have hjl:=run_len q (vy w a k++vx w y j) l
  have hji:=run_rg (q:=q) (E:=vy w a k++vx w y j) hin
  by_cases hlt2:j<w/8-1
  ·have hst:=run_snoc q (vy w a k++vx w y j) (m+(8*j+8)) 1 l
   have hvx:=vx_succ w y j
   rw [hm] at hvx
   rw [List.append_assoc,←hvx] at hst
   have e0:(y:Int)*(w:Int)+(8*(j:Int)+8)=((m+(8*j+8):Nat):Int):=by rw [hpm];omega
   refine goR (r:=?_);and_intros<;>intros<;>try exact True.intro
   all_goals first|contradiction|omega|exact Nat.le_refl _|(rw [hm];exact hst.symm)
  ·obtain rfl:j=w/8-1:=by omega
   refine go (r:=?_);and_intros<;>intros<;>try exact True.intro
   all_goals first|contradiction|omega|(rw [hvs];done)
 ·obtain rfl:k=b-a:=by omega
  have hyb:y=b:=by omega
  rw [hy,hyb]
  refine go (r:=?_);and_intros<;>intros<;>try exact True.intro
  all_goals first|contradiction|omega⟩
theorem rowUp {w h y:Nat} (h1:2≤y) (hy:y<h):2*w≤y*w∧y*w+w≤w*h:=⟨Nat.mul_le_mul_right w h1,rowLe hy⟩
instance horizontal_c:ConG 263 (∀ (w h:Nat) (l:List Int) (y:Nat) (q:Int),FrNk w h l∧2≤y∧y+1<h→
 Gn 263 [FrHand w h l.length,I y,I q] [IN l] [IN (run q (hx w y w) l)] [] (.tup [])):=⟨fun w h l y q hh=>by
 obtain ⟨⟨⟨hw,hw8,hw64⟩,⟨hh8,hh0,hh64⟩,hfl,hin⟩,hy2,hyh⟩:=hh
 have hwh:w*h≤64*64:=Nat.mul_le_mul hw64 hh64
 obtain ⟨hr1,hr2⟩:=rowUp (w:=w) hy2 (show y<h by omega)
 have hr3:=rowLe (w:=w) hyh
 rw [Nat.add_mul,Nat.one_mul] at hr3
 obtain ⟨m,hm⟩:∃m,y*w=m:=⟨_,rfl⟩
 have hpm:(y:Int)*(w:Int)=(m:Int):=by rw [←hm,Int.natCast_mul]
 rw [hm] at hr1 hr2 hr3
 refine FnG.of_bodyF tabOk Tryz.func263 Tryz.ntmps263 rfl (by decide +kernel) (by simp) rfl rfl fun G=>?_
 refine go (r:=?_);and_intros<;>intros<;>try exact True.intro
 all_goals first|contradiction|omega|skip
 refine WpA.loop (fun k:Nat=>⟨[(1,I y),(2,I q),(3,.ptr 1 0 0),(8,I w),(9,I k)],[IN (run q (hx w y k) l),⟨[I w,I h,.own 0 0 0 l.length],0,0,none⟩]⟩) (fun k=>k≤w) (fun k=>w-k) 0 (by omega) (go (r:=?_)) (fun k hk=>?_)
 ·and_intros<;>first|exact True.intro|rfl|(rw [hx_nil,run_nil];done)
 have hkl:=run_len q (hx w y k) l
 have hki:=run_rg (q:=q) (E:=hx w y k) hin
 by_cases hlt:k<w
 ·have hst:=run_snoc q (hx w y k) (m+k) w l
  have hvx:=hx_succ w y k
  rw [hm] at hvx
  rw [←hvx] at hst
  refine goR (r:=?_);and_intros<;>intros<;>try exact True.intro
  all_goals first|contradiction|omega|exact Nat.le_refl _|(rw [hm];exact hst.symm)
 ·obtain rfl:k=w:=by omega
  refine go (r:=?_);and_intros<;>intros<;>try exact True.intro
  all_goals first|contradiction|omega⟩
end
instance isFiltered_c:Con 261 (∀ (W H:Int) (p:List Int) (q:Int),p.length≤1099511627776→Fn 261 [FrA W H p,I q] [] (B (decide (FrameOk W H p∧0≤q∧q≤51)))):=⟨fun W H p q hl=>by
 refine FnC.of_body tabOk Tryz.func261 Tryz.ntmps261 rfl (by decide +kernel) (by simp) fun G=>?_
 refine go (r:=?_);and_intros<;>intros<;>try exact True.intro
 all_goals first|(simp_all;done)⟩
def dbL (W H q:Int) (p:List Int):List Int:=if FrameOk W H p∧0≤q∧q≤51 then debL q W.toNat H.toNat p else p
theorem dbL_len (W H q:Int) (p:List Int):(dbL W H q p).length=p.length:=by
 unfold dbL;split
 ·exact debL_len ..
 ·rfl
theorem dbL_yes {w h:Nat} {q:Int} {p:List Int} (hh:FrameOk (w:Int) (h:Int) p∧0≤q∧q≤51):dbL w h q p=run q (hy w (h/8-1)) (run q (vy w 0 h) p):=by
 unfold dbL;rw [if_pos hh];rfl
theorem dbL_no {W H:Int} {q:Int} {p:List Int} (hh:¬(FrameOk W H p∧0≤q∧q≤51)):dbL W H q p=p:=by
 unfold dbL;rw [if_neg hh]
section
attribute [local irreducible] run vx vy hx hy edg
instance DeblockRef_c:Con 202 (∀ (W H:Int) (p:List Int) (q:Int),p.length≤1099511627776→Fn 202 [FrA W H p,I q] [IN (dbL W H q p)] (FrOwn 0 W H p.length)):=⟨fun W H p q hl=>by
 by_cases hok:FrameOk W H p∧0≤q∧q≤51
 ·have hd:=decide_eq_true hok
  obtain ⟨hf,hq0,hq51⟩:=id hok
  obtain ⟨⟨h1,h2,h3,h4,h5,h6⟩,hpl,hin⟩:=hf
  obtain ⟨w,rfl⟩:∃w:Nat,W=w:=⟨W.toNat,by omega⟩
  obtain ⟨h,rfl⟩:∃h:Nat,H=h:=⟨H.toNat,by omega⟩
  have hpl2:p.length=w*h:=by have:((w*h:Nat):Int)=(w:Int)*(h:Int):=Int.natCast_mul w h;omega
  rw [dbL_yes hok]
  have hwh:w*h≤64*64:=Nat.mul_le_mul (by omega) (by omega)
  have hv1:=run_len q (vy w 0 h) p
  have hv2:=run_rg (q:=q) (E:=vy w 0 h) hin
  generalize hP:run q (vy w 0 h) p=P at*
  refine FnC.of_body tabOk Tryz.func202 Tryz.ntmps202 rfl (by decide +kernel) (by simp) fun G=>?_
  refine go (r:=?_);and_intros<;>intros<;>try exact True.intro
  all_goals first|contradiction|exact Nat.zero_le _|omega|skip
  rw [Nat.sub_zero,hP]
  refine WpA.loop (fun k:Nat=>⟨[(1,I q),(2,.ptr 0 0 0),(4,.ptr 1 0 0),(5,.ptr 3 0 0),(6,I (8*(k:Int)+8))],[FrO w h p,⟨[I 0,I 0,.nilS],0,0,none⟩,IN (run q (hy w k) P),⟨[I w,I h,.own 2 0 0 p.length],0,0,none⟩]⟩) (fun k=>k≤h/8-1) (fun k=>h/8-1-k) 0 (by omega) (go (r:=?_)) (fun k hk=>?_)
  ·and_intros<;>first|exact True.intro|rfl|(rw [hy_nil,run_nil];done)
  have hkl:=run_len q (hy w k) P
  have hki:=run_rg (q:=q) (E:=hy w k) hv2
  by_cases hlt:k<h/8-1
  ·have hst:run q (hy w (k+1)) P=run q (hx w (8*k+8) w) (run q (hy w k) P):=by rw [hy_succ,run_app]
   refine goR (r:=?_);and_intros<;>intros<;>try exact True.intro
   all_goals first|contradiction|omega|exact hst.symm|(show 2≤8*k+8;omega)|(show 8*k+8+1<h;omega)
  ·obtain rfl:k=h/8-1:=by omega
   refine go (r:=?_);and_intros<;>intros<;>try exact True.intro
   all_goals first|contradiction|omega
 ·have hd:=decide_eq_false hok
  rw [dbL_no hok]
  refine FnC.of_body tabOk Tryz.func202 Tryz.ntmps202 rfl (by decide +kernel) (by simp) fun G=>?_
  refine go (r:=?_);and_intros<;>intros<;>try exact True.intro
  all_goals first|contradiction|omega⟩
end
end Go.Proofs.YtainhhfnnclfiaaGreat


namespace Go.Proofs.YtainhhfnnclfiaaGreat
open Go Go.Abs
attribute [local irreducible] WpA WpL Rnd Blk Abs.Seq Abs.Fin Abs.FinG FnC FnG Only
theorem recL_yes {p r:List Int} (h:TwoOk p r):recL p r=tabL (recF p r) p.length:=by unfold recL;rw [if_pos h]
theorem recL_no {p r:List Int} (h:¬TwoOk p r):recL p r=[]:=by unfold recL;rw [if_neg h]
theorem rec_snoc (p r:List Int) (k:Nat) {v:Int} (h:v=recF p r k):tabL (recF p r) k++[v]=tabL (recF p r) (k+1):=by rw [tabL_snoc,h]
instance Recon_c:Con 201 (∀ p r:List Int,p.length≤1099511627776∧r.length≤1099511627776→Fn 201 [IL p,IL r] [XI (recL p r)] (.own 0 0 0 (recL p r).length)):=⟨fun p r hl=>by
 have hsp:=side_pos p.length
 by_cases h:TwoOk p r
 ·obtain ⟨h1,h2,h3⟩:=id h
  have e:=recL_yes h
  refine FnC.of_body tabOk Tryz.func201 Tryz.ntmps201 rfl (by decide +kernel) (by simp) fun G=>?_
  refine go (r:=?_);and_intros<;>intros<;>try exact True.intro
  all_goals first|contradiction|omega|skip
  refine WpA.loop (fun k:Nat=>⟨[(1,IL r),(5,.own 0 0 0 k),(25,IL p),(26,I p.length),(27,I k)],[XI (tabL (recF p r) k)]⟩) (fun k=>k≤p.length) (fun k=>p.length-k) 0 (by omega) (go (r:=?_)) (fun k hk=>?_)
  ·simp [tabL]
  have hkl:=tabL_len (recF p r) k
  have g1:=fun hh=>in_get h3 (k:=k) hh
  by_cases hlt:k<p.length
  ·have g2:=g1 hlt
   refine go (r:=?_);and_intros<;>intros<;>try exact True.intro
   all_goals first|contradiction|omega|(exact rec_snoc p r k (by unfold recF;omega))
  ·obtain rfl:k=p.length:=by omega
   refine go (r:=?_);and_intros<;>intros<;>try exact True.intro
   all_goals first|contradiction|omega|(rw [e,tabL_len];done)|(rw [e];done)
 ·have e:=recL_no h
  have hno:0<side p.length→p.length=r.length→¬In p 0 255:=fun a b c=>h ⟨a,b,c⟩
  refine FnC.of_body tabOk Tryz.func201 Tryz.ntmps201 rfl (by decide +kernel) (by simp) fun G=>?_
  by_cases ha:0<side p.length
  ·by_cases hb:p.length=r.length
   ·have hc:=hno ha hb
    refine go (r:=?_);and_intros<;>intros<;>try exact True.intro
    all_goals first|contradiction|omega|(rw [e];done)|(rw [e];rfl)
   ·refine go (r:=?_);and_intros<;>intros<;>try exact True.intro
    all_goals first|contradiction|omega|(rw [e];done)|(rw [e];rfl)
  ·have hs0:side p.length=0:=by have:=side_cases p.length;omega
   refine go (r:=?_);and_intros<;>intros<;>try exact True.intro
   all_goals first|contradiction|omega|(rw [e];done)|(rw [e];rfl)⟩
instance Recon_s:Con 162 (∀ p r:List Int,p.length≤1099511627776∧r.length≤1099511627776→Fn 162 [IL p,IL r] [XI (recL p r)] (.own 0 0 0 (recL p r).length)):=⟨fun p r hl=>by
 have hsp:=side_pos p.length
 by_cases h:TwoOk p r
 ·obtain ⟨h1,h2,h3⟩:=id h
  have e:=recL_yes h
  have hd:=decide_eq_true h
  refine FnC.of_body tabOk Tryz.func162 Tryz.ntmps162 rfl (by decide +kernel) (by simp) fun G=>?_
  refine go (r:=?_);and_intros<;>intros<;>try exact True.intro
  refine WpA.loop (fun k:Nat=>⟨[(0,IL p),(1,IL r),(5,.own 0 0 0 k),(6,I k)],[XI (tabL (recF p r) k)]⟩) (fun k=>k≤p.length) (fun k=>p.length-k) 0 (by omega) (go (r:=?_)) (fun k hk=>?_)
  ·simp [tabL]
  have hkl:=tabL_len (recF p r) k
  have g1:=fun hh=>in_get h3 (k:=k) hh
  by_cases hlt:k<p.length
  ·have g2:=g1 hlt
   refine go (r:=?_);and_intros<;>intros<;>try exact True.intro
   all_goals first|contradiction|omega|(exact rec_snoc p r k (by unfold recF;omega))
  ·obtain rfl:k=p.length:=by omega
   refine go (r:=?_);and_intros<;>intros<;>try exact True.intro
   all_goals first|contradiction|omega|(rw [e,tabL_len];done)|(rw [e];done)
 ·have e:=recL_no h
  have hd:=decide_eq_false h
  refine FnC.of_body tabOk Tryz.func162 Tryz.ntmps162 rfl (by decide +kernel) (by simp) fun G=>?_
  refine go (r:=?_);and_intros<;>intros<;>try exact True.intro
  refine WpA.loop (fun k:Nat=>⟨[(0,IL p),(1,IL r),(5,.own 0 0 0 0),(6,I 0)],[XI []]⟩) (fun k=>k≤0) (fun k=>0) 0 (by omega) (go (r:=trivial)) (fun k hk=>?_)
  refine go (r:=?_);and_intros<;>intros<;>try exact True.intro
  all_goals first|contradiction|omega|(rw [e];done)|(rw [e];rfl)⟩
end Go.Proofs.YtainhhfnnclfiaaGreat


namespace Go.Proofs.YtainhhfnnclfiaaGreat
open Go Go.Abs
attribute [local irreducible] WpA WpL Rnd Blk Abs.Seq Abs.Fin Abs.FinG FnC FnG Only
theorem setK_zero (W x y n:Int) (l p:List Int):setK W x y n l p 0=p:=rfl
attribute [local irreducible] setK
instance SetBlock_s:Con 161 (∀ (W H:Int) (p:List Int) (x y:Int) (l:List Int),p.length≤1099511627776∧l.length≤1099511627776→Fn 161 [FrA W H p,I x,I y,IL l] [XI (setL W H p x y l)] (.tup [FrOwn 0 W H (setL W H p x y l).length,B (decide (SetOk W H p x y l))])):=⟨fun W H p x y l hl=>by
 have hlen:=setL_len W H p x y l
 by_cases h:SetOk W H p x y l
 ·have e:=setL_yes h
  have hd:=decide_eq_true h
  obtain ⟨h1,h2⟩:=id h
  have h1s:=h1
  rcases h1.2.1 with e4|e4
  ·have hll:l.length=16:=by have:=side_cases l.length;omega
   have e2:setL W H p x y l=setK W x y 4 l p 16:=by rw [e,e4,hll]
   rw [hlen,e2,hd]
   rw [e4] at h1
   refine FnC.of_body tabOk Tryz.func161 Tryz.ntmps161 rfl (by decide +kernel) (by simp) fun G=>?_
   refine goR (r:=?_);and_intros<;>intros<;>try exact True.intro
   all_goals first|contradiction|(exact absurd h1s (by assumption))|skip
   refine WpA.loop (fun k:Nat=>⟨[(1,I x),(2,I y),(3,IL l),(4,.ptr 0 0 0),(8,.ptr 1 0 0),(10,I 4),(11,.ptr 3 0 0),(12,I k)],[FrO W H p,⟨[I 0,I 0,.nilS],0,0,none⟩,XI (setK W x y 4 l p k),⟨[I W,I H,.own 2 0 0 p.length],0,0,none⟩]⟩) (fun k=>k≤16) (fun k=>16-k) 0 (by omega) (go (r:=?_)) (fun k hk=>?_)
   ·and_intros<;>first|exact True.intro|rfl|(rw [setK_zero];done)|exact (setK_zero ..).symm
   have hkl:=setK_len W x y 4 l p k
   by_cases hlt:k<16
   ·obtain ⟨⟨b1,b2,b3,b4⟩,b5,b6,b7,b8⟩:=px_in h1 (i:=k) (by omega)
    unfold pxI at b7 b8
    refine go (r:=?_);and_intros<;>intros<;>try exact True.intro
    all_goals first|contradiction|omega|exact set_step ..
   ·obtain rfl:k=16:=by omega
    refine go (r:=?_);and_intros<;>intros<;>try exact True.intro
    all_goals first|contradiction|exact hd|exact hd.symm
  ·have hll:l.length=64:=by have:=side_cases l.length;omega
   have e2:setL W H p x y l=setK W x y 8 l p 64:=by rw [e,e4,hll]
   rw [hlen,e2,hd]
   rw [e4] at h1
   refine FnC.of_body tabOk Tryz.func161 Tryz.ntmps161 rfl (by decide +kernel) (by simp) fun G=>?_
   refine goR (r:=?_);and_intros<;>intros<;>try exact True.intro
   all_goals first|contradiction|(exact absurd h1s (by assumption))|skip
   refine WpA.loop (fun k:Nat=>⟨[(1,I x),(2,I y),(3,IL l),(4,.ptr 0 0 0),(8,.ptr 1 0 0),(10,I 8),(11,.ptr 3 0 0),(12,I k)],[FrO W H p,⟨[I 0,I 0,.nilS],0,0,none⟩,XI (setK W x y 8 l p k),⟨[I W,I H,.own 2 0 0 p.length],0,0,none⟩]⟩) (fun k=>k≤64) (fun k=>64-k) 0 (by omega) (go (r:=?_)) (fun k hk=>?_)
   ·and_intros<;>first|exact True.intro|rfl|(rw [setK_zero];done)|exact (setK_zero ..).symm
   have hkl:=setK_len W x y 8 l p k
   by_cases hlt:k<64
   ·obtain ⟨⟨b1,b2,b3,b4⟩,b5,b6,b7,b8⟩:=px_in h1 (i:=k) (by omega)
    unfold pxI at b7 b8
    refine go (r:=?_);and_intros<;>intros<;>try exact True.intro
    all_goals first|contradiction|omega|exact set_step ..
   ·obtain rfl:k=64:=by omega
    refine go (r:=?_);and_intros<;>intros<;>try exact True.intro
    all_goals first|contradiction|exact hd|exact hd.symm
 ·have e:=setL_no h
  have hd:=decide_eq_false h
  rw [e,hd]
  refine FnC.of_body tabOk Tryz.func161 Tryz.ntmps161 rfl (by decide +kernel) (by simp) fun G=>?_
  by_cases h1:Fits W H p x y (side l.length)
  ·have h2:¬In l 0 255:=fun h3=>h ⟨h1,h3⟩
   refine go (r:=?_);and_intros<;>intros<;>try exact True.intro
   all_goals first|contradiction
  ·refine go (r:=?_);and_intros<;>intros<;>try exact True.intro
   all_goals first|contradiction⟩
end Go.Proofs.YtainhhfnnclfiaaGreat


namespace Go.Abs
open Go
section
variable {P:Program} {n m:Nat} {G:Ctx} {md:Bool} {σ:St} {Q:Exit→St→Prop} {T:List (Nat×AV)} {O:List AObj}
theorem WpL.guardV {v0:Value} {ops:Array Oper} {o:Oper} {l:List Oper} {j t d:Nat} {want:Bool} (hg:o.guard=some (j,want)) (hj:((ops[j]?).bind (·.dst))=some t) (htn:t<n)
 (ht:look σ.T t=.sc v0) (hne:v0≠.bool want) (hd:o.dst=some d) (h:WpL P n m G md ops l ⟨(d,.any)::σ.T,σ.O⟩ Q):WpL P n m G md ops (o::l) σ Q:=fun a w hr=>by
 have hv:a.tmps.getD t undef=v0:=hr.eval_sc (x:=.tmp t) ht
 have hsz:a.tmps.size=n:=by obtain ⟨_,_,_,h⟩:=hr;exact h.size
 have hv':a.tmps[t]?=some v0:=by
  rw [Array.getD_eq_getD_getElem?] at hv
  rw [Array.getElem?_eq_getElem (by omega)] at hv ⊢
  simpa using hv
 have hw:Region.wanted o (yielded ops a.tmps)=false:=by
  simp only [Region.wanted,hg,yielded,hj,Option.bind_some,hv']
  cases v0<;>first|rfl|skip
  rename_i b
  cases b<;>cases want<;>first|rfl|exact absurd rfl hne
 have hrel:Rel n m G ⟨(d,.any)::σ.T,σ.O⟩ (a.put o.dst undef) w:=?_
 ·cases md with
  |false=>
   simp only
   unfold wpList
   rw [if_neg (by simp [hw])]
   exact h _ _ hrel
  |true=>
   simp only
   unfold wpStill
   rw [if_neg (by simp [hw])]
   exact h _ _ hrel
 obtain ⟨S,ι,F,hr⟩:=hr
 refine ⟨S,ι,F,by simpa [Act.put,hd] using hr.defers,by simp [Act.put,hd,hr.size],fun t'=>?_,hr.objs,hr.foot,hr.base,hr.stable,hr.keeps,hr.spots,hr.mle⟩
 by_cases he:d=t'
 ·subst he;rw [look_cons_same];exact .any .nil
 ·rw [look_cons_other _ _ _ _ he]
  have:=hr.tmps t'
  simpa [Act.put,hd,Array.getD_eq_getD_getElem?,Array.getElem?_setIfInBounds,he] using this
theorem WpL.openAny {ops:Array Oper} {l:List Oper} {t:Nat} (hx:look T t=.any) (h:∀v0,WpL P n m G md ops l ⟨(t,.sc v0)::T,O⟩ Q):WpL P n m G md ops l ⟨T,O⟩ Q:=fun a w hr=>by
 refine h (a.tmps.getD t undef) a w ?_
 obtain ⟨S,ι,F,hr⟩:=hr
 refine ⟨S,ι,F,hr.defers,hr.size,fun u=>?_,hr.objs,hr.foot,hr.base,hr.stable,hr.keeps,hr.spots,hr.mle⟩
 show VRel S w ι O (look ((t,.sc _)::T) u) _ []
 by_cases he:t=u
 ·subst he;rw [look_cons_same];exact .sc .nil
 ·rw [look_cons_other _ _ _ _ he];exact hr.tmps u
end
end Go.Abs
