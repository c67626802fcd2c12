/- Proved in this text: lemmas and contracts of functions that the claim uses (parts: AbsR5, AbsXk, AbsXm, AbsSl, WbD, RdL, RdM, Rd, RdS, Fld, RdH, RdV). No condition. -/
import Derived.Test.YtndflfipaddfoaaGreatWbM6
import Derived.Test.YtndflfipaddfoaaGreatWbM5
import Derived.Test.YtndflfipaddfoaaGreatWbM9
import Derived.Test.YtndflfipaddfoaaGreatWbM12
import Derived.Test.YtndflfipaddfoaaGreatWbM10
import Derived.Test.YtndflfipaddfoaaGreatWbM11
set_option linter.unusedVariables false
set_option linter.unusedSimpArgs false
set_option maxRecDepth 100000
set_option maxHeartbeats 4000000


namespace Go.Abs
open Go
inductive AllV (tab:List (Nat×Ty)) (T:List (Nat×AV)) (O:List AObj):List ResultVar→List AV→Prop
 |nil:AllV tab T O [] []
 |cons {r V rs Vs}:ResV tab T O r V→AllV tab T O rs Vs→AllV tab T O (r::rs) (V::Vs)
inductive ResW (tab:List (Nat×Ty)) (m:Nat) (N:List AObj) (r:AV):Array ResultVar→St→Prop
 |mk {rs Vs T O ids}:2≤rs.length→AllV tab T O rs Vs→NEx O ids N→(ids.filterMap id).Nodup→preB ids m 0=true→Ex O ids [.tup Vs] [r]→ResW tab m N r rs.toArray ⟨T,O⟩
def FinW (tab:List (Nat×Ty)) (m:Nat) (rs:Array ResultVar) (N:List AObj) (r:AV):Exit→St→Prop
 |.ret,σ=>ResW tab m N r rs σ
 |.normal,σ=>ResW tab m N r rs σ
 |_,_=>False
section
variable {P:Program} {n m:Nat} {G:Ctx} {T:List (Nat×AV)} {O:List AObj} {tab:List (Nat×Ty)}
theorem AllV.rel (hP:TabOk P tab) {S ι F a w} (hr:RelAt n m G S ι F ⟨T,O⟩ a w) {rs:List ResultVar} {Vs:List AV} (h:AllV tab T O rs Vs):∃vs:List Value,vs.length=rs.length∧(rs.mapM (resSem a.tmps)).run P w=.ok vs w∧LRel S w ι O Vs vs []:=by
 induction h with
 |nil=>exact ⟨[],rfl,rfl,.nil⟩
 |cons h1 _ ih=>
  obtain ⟨v,hv,hV⟩:=ResV.rel hP hr h1
  obtain ⟨vs,hl,hm,hV2⟩:=ih
  refine ⟨v::vs,by simp [hl],?_,by simpa using LRel.cons hV hV2⟩
  rw [List.mapM_cons]
  simp only [Sem.run_bind,hv,hm,Result.andThen_ok,Sem.run_pure]
theorem run_resultsW {fn:Func} {tmps:Array Value} {rs:List ResultVar} {vs:List Value} {w:World} (h:fn.results=rs.toArray) (h2:2≤vs.length) (hm:(rs.mapM (resSem tmps)).run P w=.ok vs w):(results fn tmps).run P w=.ok (.tuple vs.toArray) w:=by
 rw [results_eq,h]
 have e:(Array.mapM (resSem tmps) rs.toArray)=(do let l ←rs.mapM (resSem tmps);pure l.toArray):=by
  rw [List.mapM_toArray]
  try rfl
 rw [e]
 simp only [Sem.run_bind,hm,Result.andThen_ok,Sem.run_pure]
 have:¬vs.toArray.size=1:=by simp;omega
 rw [dif_neg this]
theorem ResW.out (hP:TabOk P tab) {rs:Array ResultVar} {N:List AObj} {r:AV} {σ:St} {a:Act} {w:World} {fn:Func} (hn:0<n) (hfr:fn.results=rs) (h:ResW tab m N r rs σ) (hr:Rel n m G σ a w):
 ∃v,(results fn a.tmps).run P w=.ok v w∧∃S' ι F,(∀ b,G.S0 b→S' b)∧(∀ b,S' b→G.S0 b∨G.w0.heap.size≤b)∧(∀ b,S' b→b<w.heap.size)∧(∀ id,id<m→ι id=G.ι0 id)∧ORel S' w ι N F∧
  (∀ id,id<N.length→∀b∈F id,(G.M0 b∨G.w0.heap.size≤b)∧¬S' b∧b<w.heap.size)∧VRel S' w ι N r v []∧Keeps G.w0 G.M0 w:=by
 cases h with
 |@mk rs Vs T O ids h2 hv hN hnd hpre hex=>
  obtain ⟨S,ι,F,hr⟩:=hr
  obtain ⟨vs,hl,hm,hV⟩:=hv.rel hP hr
  have hT:VRel S w ι O (.tup Vs) (.tuple vs.toArray) []:=by simpa using LRel.tup hV .nil
  refine ⟨.tuple vs.toArray,run_resultsW hfr (by omega) hm,?_⟩
  have hr2:Rel n m G ⟨(0,.tup Vs)::T,O⟩ _ w:=⟨S,ι,F,hr.put hn hT⟩
  let fn2:Func:={fn with results:=#[.tmp 0]}
  obtain ⟨v2,hv2,h3⟩:=ResG.out (fn:=fn2) hP rfl (ResG.one (ids:=ids) (ResV.tmp (t:=0) rfl) hN hnd hpre hex) hr2
  have e:v2=.tuple vs.toArray:=by
   have hs:0<a.tmps.size:=by rw [hr.size];exact hn
   have hg:(resSem (a.put (some 0) (.tuple vs.toArray)).tmps (.tmp 0)).run P w=.ok (.tuple vs.toArray) w:=by
    simp [resSem,Act.put,hs]
   have:=run_results1 (P:=P) (fn:=fn2) (r1:=.tmp 0) (w:=w) rfl hg
   rw [this] at hv2
   cases hv2;rfl
  rw [e] at h3
  exact h3
def FinXW (tab:List (Nat×Ty)) (m:Nat) (rs:Array ResultVar) (β:Type) (C:β→Prop) (MN:β→List AObj) (r:β→AV):Exit→St→Prop
 |.ret,σ=>∃y,C y∧ResW tab m (MN y) (r y) rs σ
 |.normal,σ=>∃y,C y∧ResW tab m (MN y) (r y) rs σ
 |_,_=>False
theorem FnX.of_bodyW {pv:List Value} {pa:List AV} {β:Type} {C:β→Prop} {MX NX:β→List AObj} {rX:β→AV} (hP:TabOk P tab) {f:FuncId} {fn:Func} {c:Code} {args:List AV} {M:List AObj} {k:Nat} (hk0:0<k) (hf:P.funcs[f]?=some fn) (hnt:fn.ntmps=k) (hb:fn.body=some c) (hnm:(fn.name== "runtime.NumGoroutine")=false)
 (hal:args.length≤k) (hml:M.length=m) (hps:pa.all AV.still=true) (h:∀G,Pin G pv pa→WpA P k m G c ⟨enumT 0 args,M⟩ (FinXW tab m fn.results β C (fun y=>MX y++NX y) rX)):FnX P f args M pv pa β C MX NX rX:=by
 refine ⟨⟨fn,hf,by rw [hb];rfl,hnm⟩,fun w S ι F vs hS hO hF hl hpin=>?_⟩
 have hvl:vs.length=args.length:=hl.len.symm
 refine calls_of_wp hf hb ?_
 have hrel:Rel k m ⟨w,S,fun b=>∃i,i<M.length∧b∈F i,ι⟩ ⟨enumT 0 args,M⟩ {tmps:=vs.toArray++Array.replicate (fn.ntmps-vs.toArray.size) undef,defers:=[]} w:=by
  refine ⟨S,ι,F,rfl,?_,fun t=>?_,hO,fun id hid b hb=>⟨.inl ⟨id,hid,hb⟩,hF id hid b hb⟩,⟨fun _ h=>h,fun _ h=>.inl h⟩,hS,Keeps.refl _ _,fun _ _=>rfl,by show m≤M.length;omega⟩
  ·simp [hnt];omega
  ·show VRel S w ι M (look (enumT 0 args) t) _ []
   rw [look_enumT]
   simp only [Nat.zero_le,if_true,Nat.sub_zero]
   by_cases ht:t<args.length
   ·obtain ⟨x,g,hx,hV,hg⟩:=hl.get (List.getElem?_eq_getElem ht)
    have hg0:g=[]:=List.eq_nil_iff_forall_not_mem.2 fun b hb=>by simpa using hg b hb
    subst hg0
    have e1:args.getD t .any=args[t]:=by simp [ht]
    have e2:(vs.toArray++Array.replicate (fn.ntmps-vs.toArray.size) undef).getD t undef=x:=by
     have:t<vs.length:=by omega
     rw [List.getElem?_eq_getElem this] at hx
     simp only [Option.some.injEq] at hx
     simp [Array.getD_eq_getD_getElem?,Array.getElem?_append,this,hx]
    rw [e1,e2];exact hV
   ·have e1:args.getD t .any=.any:=by simp [List.getElem?_eq_none (Nat.le_of_not_lt ht)]
    rw [e1];exact .any .nil
 refine wp_mono (h ⟨w,S,fun b=>∃i,i<M.length∧b∈F i,ι⟩ ⟨hpin,hps,fun b hb=>⟨fun ⟨i,hi,hbf⟩=>(hF i hi b hbf).1 hb,hS b hb⟩⟩ _ _ hrel) fun e a' w' ⟨σ',hq,hr'⟩=>?_
 have hdef:a'.defers=[]:=by obtain ⟨_,_,_,h⟩:=hr';exact h.defers
 have key:∀(y:β),C y→∀v S' ι' F',((∀ b,S b→S' b)∧(∀ b,S' b→S b∨w.heap.size≤b)∧(∀ b,S' b→b<w'.heap.size)∧(∀ id,id<m→ι' id=ι id)∧ORel S' w' ι' (MX y++NX y) F'∧
  (∀ id,id<(MX y++NX y).length→∀b∈F' id,((∃ i,i<M.length∧b∈F i)∨w.heap.size≤b)∧¬S' b∧b<w'.heap.size)∧VRel S' w' ι' (MX y++NX y) (rX y) v []∧Keeps w (fun b=>∃i,i<M.length∧b∈F i) w')→
  ∃y,C y∧∃v' S' ι' F',Ending.returned v=.returned v'∧(∀ b,S b→S' b)∧(∀ b,S' b→S b∨w.heap.size≤b)∧(∀ b,S' b→b<w'.heap.size)∧(∀ id,id<M.length→ι' id=ι id)∧ORel S' w' ι' (MX y++NX y) F'∧
  (∀ id,id<(MX y++NX y).length→∀b∈F' id,((∃ i,i<M.length∧b∈F i)∨w.heap.size≤b)∧¬S' b∧b<w'.heap.size)∧VRel S' w' ι' (MX y++NX y) (rX y) v' []∧Keeps w (fun b=>∃i,i<M.length∧b∈F i) w':=
  fun y hy v S' ι' F' ⟨q1,q2,q3,q4,q5⟩=>⟨y,hy,v,S',ι',F',rfl,q1,q2,q3,by rw [hml];exact q4,q5⟩
 cases e with
 |normal=>
  obtain ⟨y,hy,hq⟩:=hq
  obtain ⟨v,hv,S',ι',F',q⟩:=ResW.out hP hk0 rfl hq hr'
  exact ⟨hdef,v,hv,key y hy v S' ι' F' q⟩
 |ret=>
  obtain ⟨y,hy,hq⟩:=hq
  obtain ⟨v,hv,S',ι',F',q⟩:=ResW.out hP hk0 rfl hq hr'
  exact ⟨hdef,v,hv,key y hy v S' ι' F' q⟩
 |_=>exact hq.elim
theorem FinW.mk {rs:List ResultVar} {Vs:List AV} {N:List AObj} {r:AV} {e:Exit} (ids:List (Option Nat)) (he:endB e=true) (h2:2≤rs.length) (hv:AllV tab T O rs Vs) (hx:Ex O ids [.tup Vs] [r]) (hN:NEx O ids N) (hd:nodupB (ids.filterMap id)=true) (hp:preB ids m 0=true):FinW tab m rs.toArray N r e ⟨T,O⟩:=by
 have h:ResW tab m N r rs.toArray ⟨T,O⟩:=.mk h2 hv hN (nodupB_spec hd) hp hx
 cases e<;>first|exact h|cases he
theorem look_filter (ds:List Nat) (t:Nat):∀T:List (Nat×AV),look (T.filter fun x=>!memB x.1 ds) t=look T t∨look (T.filter fun x=>!memB x.1 ds) t=.any
 |[]=>.inl rfl
 |(k,V)::T=>by
  have ih:=look_filter ds t T
  by_cases hm:memB k ds=true
  ·rw [List.filter_cons_of_neg (by simp [hm])]
   by_cases e:k=t
   ·subst e
    refine .inr ?_
    clear ih
    induction T with
    |nil=>rfl
    |cons y T ih2=>
     obtain ⟨k2,V2⟩:=y
     by_cases hm2:memB k2 ds=true
     ·rw [List.filter_cons_of_neg (by simp [hm2])];exact ih2
     ·rw [List.filter_cons_of_pos (by simp [hm2])]
      have hne:k2≠k:=by rintro rfl;exact hm2 hm
      rw [look_cons_other _ _ _ _ hne]
      exact ih2
   ·rw [look_cons_other _ _ _ _ e];exact ih
  ·rw [List.filter_cons_of_pos (by simp [hm])]
   by_cases e:k=t
   ·subst e;exact .inl (by rw [look_cons_same,look_cons_same])
   ·rw [look_cons_other _ _ _ _ e,look_cons_other _ _ _ _ e];exact ih
theorem Weak.drop {T T':List (Nat×AV)} {O:List AObj} (ds:List Nat) (h:(T.filter fun x=>!memB x.1 ds)=T'):Weak m ⟨T,O⟩ ⟨T',O⟩:=by
 subst h
 rintro n G a w ⟨S,ι,F,hr⟩
 refine ⟨S,ι,F,hr.defers,hr.size,fun t=>?_,hr.objs,hr.foot,hr.base,hr.stable,hr.keeps,hr.spots,hr.mle⟩
 have h1:=hr.tmps t
 rcases look_filter ds t T with e|e
 ·show VRel S w ι O (look _ t) _ [];rw [e];exact h1
 ·show VRel S w ι O (look _ t) _ [];rw [e];exact .any .nil
end
section
variable {P:Program} {n m:Nat} {G:Ctx} {ops:Array Oper} {T0:List (Nat×AV)}
end
end Go.Abs


namespace Go.Abs
open Go
section
variable {P:Program} {n m:Nat} {G:Ctx} {T:List (Nat×AV)} {O:List AObj} {Q:Exit→St→Prop} {ops:Array Oper} {l:List Oper} {d:Nat} {tt:TypeId} {pos:String} {after:Array Edge}
end
theorem Snap.relG {O:List AObj} {S S2:Nat→Prop} {w:World} {ι ι':Nat→Spot} {vs us:List AV} (h:Snap O vs us):∀{F xs f},ORel S w ι O F→(∀ b,S b→S2 b)→(∀ id,id<O.length→∀b∈F id,S2 b)→(∀ b∈f,S2 b)→LRel S w ι O vs xs f→LRel S2 w ι' [] us xs []:=by
 induction h with
 |nil=>intro F xs f _ _ _ _ hl;cases hl;exact .nil
 |any _ ih=>
  intro F xs f ho hS hF hf hl
  obtain ⟨v,vs',f1,f2,rfl,hv,hr,rfl⟩:=hl.uncons
  exact .any (ih ho hS hF (fun b hb=>hf b (List.mem_append_right _ hb)) hr)
 |keep hs hn _ ih=>
  intro F xs f ho hS hF hf hl
  obtain ⟨v,vs',f1,f2,rfl,hv,hr,rfl⟩:=hl.uncons
  have:=nofre_nil hv hn
  subst this
  have:=LRel.cons (still_any hv hs [] hS (fun _ _=>rfl) (by simp)) (ih ho hS hF (fun b hb=>hf b (List.mem_append_right _ hb)) hr)
  simpa using this
 |fn _ _ ih1 ih2=>
  intro F xs f ho hS hF hf hl
  obtain ⟨v,vs',f1,f2,rfl,hv,hr,rfl⟩:=hl.uncons
  cases hv with|fn a r=>cases r;exact .fn (ih1 ho hS hF (by simp) a) (ih2 ho hS hF (fun b hb=>hf b (List.mem_append_right _ hb)) hr)
 |nilI _ ih=>
  intro F xs f ho hS hF hf hl
  obtain ⟨v,vs',f1,f2,rfl,hv,hr,rfl⟩:=hl.uncons
  have:=(LRel.slice_len hv).2.2 rfl
  subst this
  exact .imm0 (by simp) (ih ho hS hF (fun b hb=>hf b (List.mem_append_right _ hb)) hr)
 |@own id ep len len' sz ob es vs us hob hep hsz hlen hll _ _ ih1 ih2=>
  intro F xs f ho hS hF hf hl
  subst hll hsz
  obtain ⟨v,vs',f1,f2,rfl,hv,hr,rfl⟩:=hl.uncons
  have hr2:=ih2 ho hS hF (fun b hb=>hf b (List.mem_append_right _ hb)) hr
  have hidl:=(List.getElem?_eq_some_iff.1 hob).1
  have hoa:=ho.obj id ob hob
  unfold ObjAt at hoa
  cases hv with
  |own q1 q2 q3 r=>
   rw [hob] at q1;cases q1
   have hc:=q3 hep.symm
   cases hs:ι id with
   |none=>
    rw [hs] at hc hoa
    obtain ⟨h1,_,h3⟩:=hc
    subst h1;subst h3
    have:es=[]:=by
     have:=ih1 (xs:=[]) (f:=[]) ho hS hF (by simp) (by rw [hoa.1];exact .nil)
     cases this;rfl
    subst this
    exact .imm0 (by simp) hr2
   |some p=>
    obtain ⟨b,k⟩:=p
    rw [hs] at hc hoa
    obtain ⟨cap,h1,_,h3,h4⟩:=hc
    obtain ⟨cur,t,fz,f',hFe,hh,_,_,_,_,hl'⟩:=hoa
    subst h1
    have hi:=ih1 ho hS hF (fun b' hb'=>hF id hidl b' (by rw [hFe];simp [hb'])) hl'
    refine .imm (us:=cur.toList.take ob.cells.length) (hF id hidl b (by rw [hFe];simp)) (fun i hi=>cell_of_heap hh _ i hi) hi ?_ h3 h4 hr2
    rw [hlen,hl'.len,hi.len]
 |@ownO id ep off len len' sz ob ds es vs us hob hep hsz hds hlen hll _ _ ih1 ih2=>
  intro F xs f ho hS hF hf hl
  subst hll hsz hds
  obtain ⟨v,vs',f1,f2,rfl,hv,hr,rfl⟩:=hl.uncons
  have hr2:=ih2 ho hS hF (fun b hb=>hf b (List.mem_append_right _ hb)) hr
  have hidl:=(List.getElem?_eq_some_iff.1 hob).1
  have hoa:=ho.obj id ob hob
  unfold ObjAt at hoa
  cases hv with
  |own q1 q2 q3 r=>
   rw [hob] at q1;cases q1
   have hc:=q3 hep.symm
   cases hs:ι id with
   |none=>
    rw [hs] at hc hoa
    obtain ⟨h1,h2,h3⟩:=hc
    subst h1;subst h3
    have:es=[]:=by
     have:=ih1 (xs:=[]) (f:=[]) ho hS hF (by simp) (by rw [hoa.1];simpa using .nil)
     cases this;rfl
    subst this
    exact .imm0 (by simp) hr2
   |some p=>
    obtain ⟨b,k⟩:=p
    rw [hs] at hc hoa
    obtain ⟨cap,h1,_,h3,h4⟩:=hc
    obtain ⟨cur,t,fz,f',hFe,hh,_,_,_,_,hl'⟩:=hoa
    subst h1
    obtain ⟨g,hld,hgm,_⟩:=hl'.drop off
    have hi:=ih1 ho hS hF (fun b' hb'=>hF id hidl b' (by rw [hFe];simp [hgm b' hb'])) hld
    refine .imm (us:=(cur.toList.take ob.cells.length).drop off) (hF id hidl b (by rw [hFe];simp)) (fun i hi=>?_) hi ?_ h3 h4 hr2
    ·have:=cell_of_heap hh ob.cells.length (off+i) (by simp only [List.length_drop] at hi;omega)
     rw [Nat.zero_add] at this
     rw [this,List.getElem?_drop]
    ·rw [hlen,hld.len,hi.len]
 |@fre s l ds es vs us _ _ ih1 ih2=>
  intro F xs f ho hS hF hf hl
  obtain ⟨v,vs',f1,f2,rfl,hv,hr,rfl⟩:=hl.uncons
  have hr2:=ih2 ho hS hF (fun b hb=>hf b (List.mem_append_right _ hb)) hr
  cases hv with
  |fre0 r=>
   have:=ih1 (xs:=[]) (f:=[]) ho hS hF (by simp) .nil
   cases this
   exact .imm0 (by simp) hr2
  |@fre _ _ b _ cap cur t fz _ us' f' _ _ _ hh0 hsz hu hl' h1 h2 h3 r=>
   have hh:=hh0.1
   cases r
   have hi:=ih1 ho hS hF (fun b' hb'=>hf b' (by simp [hb'])) hl'.lift
   subst hu
   refine .imm (us:=cur.toList.take ds.length) (hf b (by simp)) (fun i hi=>cell_of_heap hh _ i hi) hi ?_ h2 h3 hr2
   rw [h1,hl'.len,hi.len]
 |@ptr id ep off ob es vs us hob hep _ _ ih1 ih2=>
  intro F xs f ho hS hF hf hl
  obtain ⟨v,vs',f1,f2,rfl,hv,hr,rfl⟩:=hl.uncons
  have hr2:=ih2 ho hS hF (fun b hb=>hf b (List.mem_append_right _ hb)) hr
  have hidl:=(List.getElem?_eq_some_iff.1 hob).1
  have hoa:=ho.obj id ob hob
  unfold ObjAt at hoa
  cases hv with
  |ptr q1 q2 q3 r=>
   rw [hob] at q1;cases q1
   have hc:=q3 hep.symm
   cases hs:ι id with
   |none=>rw [hs] at hc;exact hc.elim
   |some p=>
    obtain ⟨b,k⟩:=p
    rw [hs] at hc hoa
    obtain ⟨cur,t,fz,f',hFe,hh,_,_,_,_,hl'⟩:=hoa
    have h1:_=Value.pointer (some ⟨b,off,none⟩):=hc
    subst h1
    have:=LRel.iptr (O:=[]) (ι:=ι') (off:=off) (S:=S2) (us:=cur.toList.take ob.cells.length) (hF id hidl b (by rw [hFe];simp)) (fun i hi=>cell_of_heap hh _ i hi) (ih1 ho hS hF (fun b' hb'=>hF id hidl b' (by rw [hFe];simp [hb'])) hl') hr2
    rwa [Nat.zero_add] at this
 |agg _ _ ih1 ih2=>
  intro F xs f ho hS hF hf hl
  obtain ⟨v,vs',f1,f2,rfl,hv,hr,rfl⟩:=hl.uncons
  obtain ⟨us',rfl,ha⟩:=LRel.agg_inv hv
  have:=LRel.agg (ih1 ho hS hF (fun b hb=>hf b (List.mem_append_left _ hb)) ha) (ih2 ho hS hF (fun b hb=>hf b (List.mem_append_right _ hb)) hr)
  simpa using this
theorem FnC.still {P:Program} {f:FuncId} {args:List AV} {N:List AObj} {r r':AV} (hc:FnC P f args N r) (hs:Snap N [r] [r']):FnC P f args [] r':=by
 refine ⟨hc.1,fun w S vs hS hl=>(hc.2 w S vs hS hl).mono fun e w' he=>?_⟩
 obtain ⟨v,S',ι,F,rfl,h1,h2,h3,ho,hF,hv,hk⟩:=he
 refine ⟨v,fun b=>S' b∨∃id,id<N.length∧b∈F id,fun _=>none,fun _=>[],rfl,fun b hb=>.inl (h1 b hb),?_,?_,⟨by simp,by simp,by simp⟩,by simp,?_,hk⟩
 ·rintro b (hb|⟨id,hid,hb⟩)
  ·exact h2 b hb
  ·exact .inr (hF id hid b hb).1
 ·rintro b (hb|⟨id,hid,hb⟩)
  ·exact h3 b hb
  ·exact (hF id hid b hb).2.2
 ·exact hs.relG ho (fun b hb=>.inl hb) (fun id hid b hb=>.inr ⟨id,hid,hb⟩) (by simp) hv
section
variable {P:Program} {n m:Nat} {G:Ctx} {T:List (Nat×AV)} {O:List AObj} {Q:Exit→St→Prop} {ops:Array Oper} {l:List Oper} {d:Nat} {tt:TypeId} {pos:String} {after:Array Edge}
end
end Go.Abs


namespace Go.Abs
open Go
inductive Rv (q:List Nat) (O O':List AObj):List AV→List AV→Prop
 |nil:Rv q O O' [] []
 |any {V vs us}:Rv q O O' vs us→Rv q O O' (V::vs) (.any::us)
 |keep {V V' vs us}:V=V'→V'.still=true→Rv q O O' vs us→Rv q O O' (V::vs) (V'::us)
 |fn {f ds vs us}:ds.all AV.simple=true→Rv q O O' vs us→Rv q O O' (.fn f ds::vs) (.fn f ds::us)
 |own {i id ep ep' off len len' ob ob' vs us}:q[i]?=some id→O[id]?=some ob→O'[i]?=some ob'→ob.ep=ep→ob'.ep=ep'→ob'.size=ob.size→len=len'→Rv q O O' vs us→Rv q O O' (.own id ep off len::vs) (.own i ep' off len'::us)
 |ptr {i id ep ep' off ob ob' vs us}:q[i]?=some id→O[id]?=some ob→O'[i]?=some ob'→ob.ep=ep→ob'.ep=ep'→Rv q O O' vs us→Rv q O O' (.ptr id ep off::vs) (.ptr i ep' off::us)
 |agg {ds es vs us}:Rv q O O' ds es→Rv q O O' vs us→Rv q O O' (.agg ds::vs) (.agg es::us)
 |tup {ds es vs us}:Rv q O O' ds es→Rv q O O' vs us→Rv q O O' (.tup ds::vs) (.tup es::us)
theorem Rv.same {q:List Nat} {O O':List AObj} {cs cs':List AV} (h:cs=cs') (hs:cs'.all AV.still=true):Rv q O O' cs cs':=by
 subst h
 induction cs with
 |nil=>exact .nil
 |cons c cs ih=>
  simp only [List.all_cons,Bool.and_eq_true] at hs
  exact .keep rfl hs.1 (ih hs.2)
end Go.Abs


namespace Go.Proofs.YtndflfipaddfoaaGreat
open Go Go.Abs
theorem subOwnLo {P:Program} {n m:Nat} {G:Ctx} {T:List (Nat×AV)} {O:List AObj} {Q:Exit→St→Prop} {ops:Array Oper} {l:List Oper} {d:Nat} {md:Bool} {tt:TypeId} {pos:String} {after:Array Edge} {tab:List (Nat×Ty)} (hP:TabOk P tab) {t e k b:Nat} {zs:List AV} {x y:Operand} {kk:IntKind} {id ep len j off:Nat} {ob:AObj} (ht:tlook tab t=some (.slice e k b zs)) (hx:av T x=.own id ep 0 len) (ho:O[id]?=some ob) (he:ob.ep=ep) (hsz:ob.size=k) (hy:av T y=.sc (.int kk j)) (hj:j<len) (hoff:off=j*k) (hn:d<n)
 (h:WpL P n m G md ops l ⟨(d,.own id ep off (len-j))::T,O⟩ Q):
 WpL P n m G md ops ({dst:=some d,op:=.slice t x (some y) none none,type:=tt,pos:=pos,after:=after,guard:=none}::l) ⟨T,O⟩ Q:=by
 subst hoff
 exact WpL.pure rfl rfl hn (fun S ι F a w hr=>by
  obtain ⟨hu,inf,z,hinf,_,hk,_,_,hk0,_⟩:=hP.slice ht
  have hv:=hr.eval x
  rw [show av (St.mk T O).T x=_ from hx] at hv
  have hye:=hr.sc hy
  have hown:OwnAt (ι id) ob.size 0 len (a.eval x):=by
   cases hv with
   |own q1 q2 q3 r=>
    rw [show (St.mk T O).O[id]?=some ob from ho] at q1
    cases q1
    exact q3 he.symm
  cases hs:ι id with
  |none=>
   rw [hs] at hown
   obtain ⟨_,_,hl⟩:=hown
   omega
  |some p=>
   obtain ⟨bb,kb⟩:=p
   rw [hs] at hown
   obtain ⟨cap,hxe,h1,h2,h3⟩:=hown
   have hrun:=run_sliceSl hu hinf hk ⟨bb,0,none⟩ len cap (some (.int kk j)) none j len (.inr ⟨kk,rfl⟩) (.inl ⟨rfl,rfl⟩) (by omega) w
   have e1:(if cap=j then (⟨bb,0,none⟩:Addr) else (⟨bb,0,none⟩:Addr).add (j*k))=⟨bb,j*k,none⟩:=by
    rw [if_neg (by omega),addr_add];simp
   rw [e1] at hrun
   refine ⟨.slice (some ⟨bb,j*k,none⟩) (len-j) (cap-j),by simp [execOp,hxe,hye,hrun,Sem.run_bind],.own ho (by omega) (fun _=>by
    rw [hs]
    refine ⟨cap-j,rfl,?_,by omega,by omega⟩
    rw [hsz] at h1 ⊢
    rw [Nat.sub_mul]
    have:=Nat.mul_le_mul_right k (show j≤cap by omega)
    omega) .nil⟩) h
end Go.Proofs.YtndflfipaddfoaaGreat


namespace Go.Proofs.YtndflfipaddfoaaGreat
open Go Go.Abs
attribute [local irreducible] WpA WpL Rnd Blk Abs.Seq Abs.Fin Abs.FinG FnC FnG FnX FnP FinX FinXW Only
attribute [local irreducible] belowD onceD pickD modeD l8D l8AnyD seedD mbD blkD stopS
theorem FinXW.fin {tab:List (Nat×Ty)} {m:Nat} {rs:Array ResultVar} {β:Type} {C:β→Prop} {MN:β→List AObj} {r:β→AV} {e:Exit} {σ:St} (y:β) (h:FinW tab m rs (MN y) (r y) e σ) (hc:C y):FinXW tab m rs β C MN r e σ:=by
 unfold FinXW
 cases e<;>first|exact ⟨y,hc,h⟩|exact h.elim
theorem bit_flip {b:List Int} (h:Bit01 b) (k:Nat):Bit01 (b.set k (1-b.getD k 0)):=by
 intro v hv
 rcases List.mem_or_eq_of_mem_set hv with h1|h1
 ·exact h v h1
 ·subst h1
  by_cases hk:k<b.length
  ·have:=h (b.getD k 0) (by rw [List.getD_eq_getElem?_getD,List.getElem?_eq_getElem hk];exact List.getElem_mem hk)
   omega
  ·rw [List.getD_eq_getElem?_getD,List.getElem?_eq_none (by omega)];right;rfl
theorem bit_get {b:List Int} (h:Bit01 b) (k:Nat):0≤b.getD k 0∧b.getD k 0≤1:=by
 by_cases hk:k<b.length
 ·have:=h (b.getD k 0) (by rw [List.getD_eq_getElem?_getD,List.getElem?_eq_getElem hk];exact List.getElem_mem hk)
  omega
 ·rw [List.getD_eq_getElem?_getD,List.getElem?_eq_none (by omega)];decide
theorem nm8_cases (e:Bool):nm8 e=1∨nm8 e=4:=by cases e<;>simp [nm8]
theorem bit_drop {b:List Int} (h:Bit01 b) (o:Nat):Bit01 (b.drop o):=fun v hv=>h v (List.mem_of_mem_drop hv)
theorem l23Spoilt_x (v:Value) (l:List Int) (c:Cr) (b:List Int) (o:Nat) (h:CrOk l c) (hb:Bit01 b∧b.length≤1000000∧o≤b.length):FnX Tryz.prog 108 [.ptr 0 0 0,.own 1 0 o (b.length-o)] [CurO v c,XI b] [v] [CodA l] (Cr×List Int×List UInt8) (fun y=>CrOk l y.1∧y.2.1.length=b.length∧y.2.2.length≤b.length+1) (fun y=>[CurO v y.1,XI y.2.1]) (fun _=>[]) (fun y=>.agg [Z y.2.2,I 0]):=by
 have ho:=onceD_ok 3 h
 have hk:=belowD_ok ((b.length-o:Nat):Int) ho
 have hk1:=hk.2.2.1
 have hk0:=hk.2.1
 have hbg:=bit_get hb.1 (o+(belowD l (onceD l c 3).1 ((b.length-o:Nat):Int)).2.toNat*1)
 have hbf:=bit_flip hb.1 (o+(belowD l (onceD l c 3).1 ((b.length-o:Nat):Int)).2.toNat*1)
 have hbl:(b.set (o+(belowD l (onceD l c 3).1 ((b.length-o:Nat):Int)).2.toNat*1) (1-b.getD (o+(belowD l (onceD l c 3).1 ((b.length-o:Nat):Int)).2.toNat*1) 0)).length=b.length:=List.length_set
 have tail:∀(X:Cr) (s:List Int),CrOk l X→s.length=b.length-o→CrOk l (onceD l X 4).1∧(stopS s).length=(b.length-o+8)/8∧CrOk l (belowD l (onceD l X 4).1 (((stopS s).length:Int)+1)).1∧0≤(belowD l (onceD l X 4).1 (((stopS s).length:Int)+1)).2∧(belowD l (onceD l X 4).1 (((stopS s).length:Int)+1)).2<((stopS s).length:Int)+1:=fun X s hX hs=>by
  have h1:=onceD_ok 4 hX
  have h2:=belowD_ok (((stopS s).length:Int)+1) h1
  exact ⟨h1,by rw [stopS_len,hs],h2.1,h2.2.1,h2.2.2.1 (by omega)⟩
 have hA:=tail c (b.drop o) h (by simp)
 have hB:=tail (onceD l c 3).1 (b.drop o) ho (by simp)
 have hC:=tail (belowD l (onceD l c 3).1 ((b.length-o:Nat):Int)).1 ((b.set (o+(belowD l (onceD l c 3).1 ((b.length-o:Nat):Int)).2.toNat*1) (1-b.getD (o+(belowD l (onceD l c 3).1 ((b.length-o:Nat):Int)).2.toNat*1) 0)).drop o) hk.1 (by simp)
 clear tail
 refine FnX.of_body tabOk Tryz.func108 Tryz.ntmps108 rfl (by decide +kernel) (by simp) rfl rfl fun G hp=>?_
 refine go (r:=?_);and_intros<;>intros<;>try exact True.intro
 all_goals first|contradiction|exact h.2.1|exact h.2.2|exact ho.2.1|exact ho.2.2|exact hk.1.2.1|exact hk.1.2.2|exact hA.1.2.1|exact hA.1.2.2|exact hB.1.2.1|exact hB.1.2.2|exact hC.1.2.1|exact hC.1.2.2|omega|exact hb.1 _ (by assumption)|exact hbf _ (by assumption)|skip
 ·refine K.call ?_
  refine WpL.call (Stopped_s.ok ((b.set (o+(belowD l (onceD l c 3).1 ((b.length-o:Nat):Int)).2.toNat*1) (1-b.getD (o+(belowD l (onceD l c 3).1 ((b.length-o:Nat):Int)).2.toNat*1) 0)).drop o) ⟨by simp only [List.length_drop,List.length_set];omega,bit_drop hbf o⟩) (.ownO rfl rfl rfl (by simp [ints,List.map_drop]) (by simp) (by simp) (Snap.same rfl (still_ints _) (nofre_ints _)) .nil) locA outA rfl rfl rfl (by decide) ?_
  refine go (r:=?_);and_intros<;>intros<;>try exact True.intro
  all_goals first|contradiction|exact hk.1.2.1|exact hk.1.2.2|exact hC.1.2.1|exact hC.1.2.2|omega|skip
  all_goals
   refine FinX.fin (y:=((_,_),_,_)) (FinG.oI [some 0,some 1] rfl (ResV.cell (ds:=[_,_]) rfl rfl rfl rfl rfl) (.agg (.keep rfl rfl rfl (.keep rfl rfl rfl .nil)) .nil) (.obj rfl rfl rfl rfl rfl (.inr rfl) (.obj rfl rfl (still_ints _) rfl rfl (.inr rfl) .nil)) (by rfl) (by rfl)) ⟨?_,?_,?_⟩
   ·first|exact hC.2.2.1|exact hC.1
   ·exact hbl
   ·simp only [List.length_take]
    omega
 ·refine K.call ?_
  refine WpL.call (Stopped_s.ok ((b).drop o) ⟨by simp only [List.length_drop,List.length_set];omega,bit_drop hb.1 o⟩) (.ownO rfl rfl rfl (by simp [ints,List.map_drop]) (by simp) (by simp) (Snap.same rfl (still_ints _) (nofre_ints _)) .nil) locA outA rfl rfl rfl (by decide) ?_
  refine go (r:=?_);and_intros<;>intros<;>try exact True.intro
  all_goals first|contradiction|exact ho.2.1|exact ho.2.2|exact hB.1.2.1|exact hB.1.2.2|omega|skip
  all_goals
   refine FinX.fin (y:=((_,_),_,_)) (FinG.oI [some 0,some 1] rfl (ResV.cell (ds:=[_,_]) rfl rfl rfl rfl rfl) (.agg (.keep rfl rfl rfl (.keep rfl rfl rfl .nil)) .nil) (.obj rfl rfl rfl rfl rfl (.inr rfl) (.obj rfl rfl (still_ints _) rfl rfl (.inr rfl) .nil)) (by rfl) (by rfl)) ⟨?_,?_,?_⟩
   ·first|exact hB.2.2.1|exact hB.1
   ·rfl
   ·simp only [List.length_take]
    omega
 ·refine K.call ?_
  refine WpL.call (Stopped_s.ok ((b).drop o) ⟨by simp only [List.length_drop,List.length_set];omega,bit_drop hb.1 o⟩) (.ownO rfl rfl rfl (by simp [ints,List.map_drop]) (by simp) (by simp) (Snap.same rfl (still_ints _) (nofre_ints _)) .nil) locA outA rfl rfl rfl (by decide) ?_
  refine go (r:=?_);and_intros<;>intros<;>try exact True.intro
  all_goals first|contradiction|exact h.2.1|exact h.2.2|exact hA.1.2.1|exact hA.1.2.2|omega|skip
  all_goals
   refine FinX.fin (y:=((_,_),_,_)) (FinG.oI [some 0,some 1] rfl (ResV.cell (ds:=[_,_]) rfl rfl rfl rfl rfl) (.agg (.keep rfl rfl rfl (.keep rfl rfl rfl .nil)) .nil) (.obj rfl rfl rfl rfl rfl (.inr rfl) (.obj rfl rfl (still_ints _) rfl rfl (.inr rfl) .nil)) (by rfl) (by rfl)) ⟨?_,?_,?_⟩
   ·first|exact hA.2.2.1|exact hA.1
   ·rfl
   ·simp only [List.length_take]
    omega
theorem l23Spoilt_e (v:Value) (l:List Int) (c:Cr) (h:CrOk l c):FnX Tryz.prog 108 [.ptr 0 0 0,.imm 1 0 []] [CurO v c] [v] [CodA l] (Cr×List UInt8) (fun y=>CrOk l y.1∧y.2.length≤2) (fun y=>[CurO v y.1]) (fun _=>[]) (fun y=>.agg [Z y.2,I 0]):=by
 have h1:=onceD_ok 4 h
 have hl:=stopS_len ([]:List Int)
 simp only [List.length_nil] at hl
 have h2:=belowD_ok (((stopS []).length:Int)+1) h1
 have h21:=h2.2.2.1 (by omega)
 refine FnX.of_body tabOk Tryz.func108 Tryz.ntmps108 rfl (by decide +kernel) (by simp) rfl rfl fun G hp=>?_
 refine goR (r:=?_);and_intros<;>intros<;>try exact True.intro
 refine K.call ?_
 refine WpL.call (Stopped_s.ok [] ⟨by decide,fun _ h=>by cases h⟩) (.keep rfl rfl .nil) locA outA rfl rfl rfl (by decide) ?_
 refine go (r:=?_);and_intros<;>intros<;>try exact True.intro
 all_goals first|contradiction|exact h.2.1|exact h.2.2|exact h1.2.1|exact h1.2.2|omega|skip
 all_goals
  refine FinX.fin (y:=(_,_)) (FinG.oI [some 0] rfl (ResV.cell (ds:=[_,_]) rfl rfl rfl rfl rfl) (.agg (.keep rfl rfl rfl (.keep rfl rfl rfl .nil)) .nil) (.obj rfl rfl rfl rfl rfl (.inr rfl) .nil) (by rfl) (by rfl)) ⟨?_,?_⟩
  ·first|exact h2.1|exact h1
  ·try simp only [List.length_take]
   omega
theorem DrawReadMb_x (v:Value) (l:List Int) (hl:l.length≤1048576):FnX Tryz.prog 49 [.sc v] [] [v] [CodA l] (List UInt8×List Int) (fun y=>y.1.length≤100000∧y.2.length≤6) (fun _=>[]) (fun y=>[XI y.2]) (fun y=>.tup [.agg [Z y.1,I 0],.own 0 0 0 y.2.length]):=by
 have hn:=newD_ok hl
 have h8:=l8D_ok hn
 have hm:=mbD_ok (lens:=(l8D l (newD l)).2) h8.1
 have hbl:=mbbL_len (mbD l (l8D l (newD l)).2 (l8D l (newD l)).1).2.1 (mbD l (l8D l (newD l)).2 (l8D l (newD l)).1).2.2 (l8D l (newD l)).2
 have h01:=b01_mb (mbD l (l8D l (newD l)).2 (l8D l (newD l)).1).2.1 (mbD l (l8D l (newD l)).2 (l8D l (newD l)).1).2.2 (l8D l (newD l)).2
 refine FnX.of_bodyW tabOk (by decide) Tryz.func49 Tryz.ntmps49 rfl (by decide +kernel) (by simp) rfl rfl fun G hp=>?_
 refine goR (r:=?_);and_intros<;>intros<;>try exact True.intro
 refine K.call ?_
 refine WpL.callN (l1New_p v l hl) hp handA (.cons rfl (.sc (.sc (.sc .nil))) .nil) rfl rfl (by decide) ?_
 have hsm:SmB 1099511627776 (mbD l (l8D l (newD l)).2 (l8D l (newD l)).1).2.2:=by
  unfold SmB;intro b hb;have:=sq_small hm.2.2 b hb;omega
 have hml:(mbD l (l8D l (newD l)).2 (l8D l (newD l)).1).2.2.length≤4:=by
  have:=hm.2.1
  rcases nm8_cases (mbD l (l8D l (newD l)).2 (l8D l (newD l)).1).2.1 with e|e<;>omega
 refine goR (r:=?_);and_intros<;>intros<;>try exact True.intro
 all_goals first|contradiction|exact hn.2.1|exact hn.2.2|exact h8.1.2.1|exact h8.1.2.2|exact hsm|omega|skip
 refine K.call ?_
 refine WpL.callE (hs:=[1,4]) (l23Spoilt_x v l (mbD l (l8D l (newD l)).2 (l8D l (newD l)).1).1 (mbbL (mbD l (l8D l (newD l)).2 (l8D l (newD l)).1).2.1 (mbD l (l8D l (newD l)).2 (l8D l (newD l)).1).2.2 (l8D l (newD l)).2) 0 hm.1 ⟨h01,by omega,by omega⟩) hp handA handOA rfl (fun _=>rfl) (fun _=>.cons rfl (.sc (.sc (.sc .nil))) (.cons (still_ints _) (Loc.ints _) .nil)) (fun _=>outA) rfl rfl (fun _=>rfl) (fun _=>rfl) (by decide) (fun y hy=>?_)
 obtain ⟨hy1,hy2,hy3⟩:=hy
 have hy12:=onceD_ok 12 hy1
 have h8a:=l8AnyD_ok hy12
 refine goR (r:=?_);and_intros<;>intros<;>try exact True.intro
 all_goals first|contradiction|exact hy1.2.1|exact hy1.2.2|exact hy12.2.1|exact hy12.2.2|omega|skip
 ·try dsimp only [List.append,List.cons_append,List.nil_append]
  apply WpA.regionGB 4 mixed (by decide +kernel)
  ·exact rfl
  ·apply HeadG.hole5 rfl rfl rfl
   ·exact rfl
   ·exact in0
   ·exact rfl
   apply HeadG.preF 0 rfl rfl rfl
   ·exact rfl
   ·exact in0
   ·exact rfl
   apply HeadG.stepF rfl rfl
   ·exact rfl
   ·intro Tv
    refine K.call ?_
    refine K.conP (fun hcon=>?_)
    refine WpL.callP (hs:=[1]) (hcon v l (onceD l y.1 12).1 hy12) hp handA handOA rfl rfl (.cons rfl (.sc (.sc (.sc .nil))) .nil) outA rfl rfl rfl rfl (by decide) ?_
    exact WpL.nil (Only.mk rfl)
   ·exact rfl
   apply HeadG.stepNF rfl
   ·exact rfl
   ·exact in1
   ·exact rfl
   exact Abs.HeadG.nil
  ·exact trueA
  ·exact trueA
  ·exact trueA
  ·exact demA
  ·exact rfl
  ·exact rfl
  refine goR (r:=?_);and_intros<;>intros<;>try exact True.intro
  all_goals first|contradiction|omega|skip
  refine FinXW.fin (y:=(_,_)) (FinW.mk (rs:=[_,_]) [some 6] rfl (by decide) (.cons (ResV.cell (ds:=[_,_]) rfl rfl rfl rfl rfl) (.cons (ResV.tmp rfl) .nil)) (.tup (.agg (.keep rfl rfl rfl (.keep rfl rfl rfl .nil)) (.own rfl rfl rfl rfl .nil)) .nil) (.obj rfl rfl (still_ints _) rfl rfl (.inr rfl) .nil) rfl rfl) ⟨?_,?_⟩
  ·exact Nat.le_trans hy3 (by omega)
  ·exact h8a.2
 ·refine FinXW.fin (y:=(_,_)) (FinW.mk (rs:=[_,_]) [some 2] rfl (by decide) (.cons (ResV.cell (ds:=[_,_]) rfl rfl rfl rfl rfl) (.cons (ResV.tmp rfl) .nil)) (.tup (.agg (.keep rfl rfl rfl (.keep rfl rfl rfl .nil)) (.own rfl rfl rfl rfl .nil)) .nil) (.obj rfl rfl (still_ints _) rfl rfl (.inr rfl) .nil) rfl rfl) ⟨?_,?_⟩
  ·exact Nat.le_trans hy3 (by omega)
  ·exact Nat.le_of_eq h8.2
 all_goals trace_state
end Go.Proofs.YtndflfipaddfoaaGreat


namespace Go.Proofs.YtndflfipaddfoaaGreat
open Go Go.Abs
def bit1 (y:Int):Int:=IntKind.i64.wrap ((BitVec.ofInt IntKind.i64.bits y &&& BitVec.ofInt IntKind.i64.bits 1).toNat:Nat)
theorem bit1_bd (y:Int):0≤bit1 y∧bit1 y≤1:=by
 have h:(BitVec.ofInt IntKind.i64.bits y &&& BitVec.ofInt IntKind.i64.bits 1).toNat≤1:=by
  rw [BitVec.toNat_and]
  exact Nat.le_trans Nat.and_le_right (by decide)
 unfold bit1
 rw [wrap64 _ (by omega)]
 omega
def btA (p:List UInt8) (i:Int):Int:=if i<0∨8*(p.length:Int)≤i then -1 else bit1 (((p.getD (i/8).toNat 0).toNat:Int)/2 ^ (7-i%8).toNat)
theorem btA_out (p:List UInt8) (i:Int):btA p i<0↔(i<0∨8*(p.length:Int)≤i):=by
 unfold btA
 have:=bit1_bd (((p.getD (i/8).toNat 0).toNat:Int)/2 ^ (7-i%8).toNat)
 split<;>omega
theorem btA_bd (p:List UInt8) (i:Int):-1≤btA p i∧btA p i≤1:=by
 unfold btA
 have:=bit1_bd (((p.getD (i/8).toNat 0).toNat:Int)/2 ^ (7-i%8).toNat)
 split<;>omega
def bv (p:List UInt8) (i:Int):Int:=max (btA p i) 0
theorem bv_bd (p:List UInt8) (i:Int):0≤bv p i∧bv p i≤1:=by have:=btA_bd p i;unfold bv;omega
def numB (p:List UInt8) (s:Int):Nat→Int
 |0=>0
 |k+1=>numB p s k*2+bv p (s+k)
theorem numB_bd (p:List UInt8) (s:Int):∀k,0≤numB p s k∧numB p s k<2 ^ k
 |0=>by simp [numB]
 |k+1=>by
  have h1:=numB_bd p s k
  have h2:=bv_bd p (s+k)
  rw [numB,Int.pow_succ];omega
theorem numB_le (p:List UInt8) (s:Int) {k j:Nat} (h:k≤j):numB p s k<2 ^ j:=by
 have h1:=numB_bd p s k
 have h2:(2:Int) ^ k≤2 ^ j:=by exact_mod_cast Nat.pow_le_pow_right (by decide) h
 omega
theorem numB_add (p:List UInt8) (s:Int) (a:Nat):∀b,numB p s (a+b)=numB p s a*2 ^ b+numB p (s+a) b
 |0=>by simp [numB]
 |b+1=>by
  rw [←Nat.add_assoc,numB,numB_add p s a b,numB,Int.pow_succ,Int.natCast_add,←Int.add_assoc,Int.add_mul,Int.mul_assoc,Int.add_assoc]
abbrev RdOk (p:List UInt8) (s:Int):Prop:=0≤s∧s≤8*(p.length:Int)
def lft (p:List UInt8) (s:Int):Int:=if RdOk p s then 8*(p.length:Int)-s else 0
theorem lft_bd (p:List UInt8) (s:Int):0≤lft p s∧lft p s≤8*(p.length:Int):=by unfold lft;split<;>omega
theorem lft_ok {p:List UInt8} {s:Int} (h:RdOk p s):lft p s=8*(p.length:Int)-s:=by rw [lft,if_pos h]
theorem lft_no {p:List UInt8} {s:Int} (h:¬RdOk p s):lft p s=0:=by rw [lft,if_neg h]
abbrev RbOk (p:List UInt8) (s n:Int):Prop:=RdOk p s∧(0≤n∧n≤32)∧n≤lft p s
def rbA (p:List UInt8) (s n:Int):Int:=if RbOk p s n then s+n else s
def rbV (p:List UInt8) (s n:Int):Int:=if RbOk p s n then numB p s n.toNat else 0
theorem rbV_bd (p:List UInt8) (s n:Int):0≤rbV p s n∧rbV p s n<4294967296:=by
 unfold rbV;split
 ·rename_i h
  have h1:=numB_bd p s n.toNat
  have h2:=numB_le p s (k:=n.toNat) (j:=32) (by omega)
  omega
 ·omega
theorem rb_yes {p:List UInt8} {s n:Int} (h:RbOk p s n):rbA p s n=s+n∧rbV p s n=numB p s n.toNat:=⟨if_pos h,if_pos h⟩
theorem rb_no {p:List UInt8} {s n:Int} (h:¬RbOk p s n):rbA p s n=s∧rbV p s n=0:=⟨if_neg h,if_neg h⟩
def zrW (p:List UInt8) (s:Int):Nat→Nat→Nat
 |0,n=>n
 |f+1,n=>if btA p (s+n)=0 then zrW p s f (n+1) else n
def zrs (p:List UInt8) (s:Int):Nat:=zrW p s (lft p s).toNat 0
theorem zrW_le (p:List UInt8) (s:Int):∀f n,n≤zrW p s f n∧zrW p s f n≤n+f
 |0,n=>by simp [zrW]
 |f+1,n=>by
  rw [zrW];split
  ·have:=zrW_le p s f (n+1);omega
  ·omega
theorem zrs_le (p:List UInt8) (s:Int):(zrs p s:Int)≤lft p s:=by
 have:=zrW_le p s (lft p s).toNat 0
 have:=lft_bd p s
 unfold zrs;omega
theorem zrW_eq (p:List UInt8) (s:Int):∀(f n k:Nat),k≤f→(∀ j<k,btA p (s+(n+j:Nat))=0)→(k=f∨btA p (s+(n+k:Nat))≠0)→zrW p s f n=n+k
 |0,n,k,h1,_,_=>by have:k=0:=by omega
                   subst this;rfl
 |f+1,n,0,_,_,h3=>by
  rw [zrW]
  rcases h3 with h3|h3
  ·omega
  ·rw [if_neg (by simpa using h3)];rfl
 |f+1,n,k+1,h1,h2,h3=>by
  have h0:=h2 0 (by omega)
  rw [zrW,if_pos (by simpa using h0),zrW_eq p s f (n+1) k (by omega) (fun j hj=>by have:=h2 (j+1) (by omega);rw [show n+1+j=n+(j+1) by omega];exact this)
   (by rcases h3 with h3|h3;exact .inl (by omega);exact .inr (by rw [show n+1+k=n+(k+1) by omega];exact h3))]
  omega
theorem zrs_eq {p:List UInt8} {s:Int} {k:Nat} (h1:(k:Int)≤lft p s) (h2:∀j<k,btA p (s+(j:Nat))=0) (h3:(k:Int)=lft p s∨btA p (s+(k:Nat))≠0):zrs p s=k:=by
 have h0:=lft_bd p s
 unfold zrs
 rw [zrW_eq p s _ 0 k (by omega) (fun j hj=>by rw [Nat.zero_add];exact h2 j hj) (by rw [Nat.zero_add];rcases h3 with h3|h3;exact .inl (by omega);exact .inr h3)]
 omega
def ueA (p:List UInt8) (s:Int):Int:=if zrs p s≤15 then rbA p s (2*(zrs p s:Int)+1) else s
def ueC (p:List UInt8) (s:Int):Int:=if zrs p s≤15 then (if RbOk p s (2*(zrs p s:Int)+1) then 0 else 1) else 4
def ueV (p:List UInt8) (s:Int):Int:=if ueC p s=0 then rbV p s (2*(zrs p s:Int)+1)-1 else 0
def lvOf (n:Int):Int:=if n<0 then 0 else if n%2=0 then n/2+1 else -(n/2)-1
theorem ue_yes {p:List UInt8} {s:Int} (h:zrs p s≤15) (h2:RbOk p s (2*(zrs p s:Int)+1)):ueA p s=s+(2*(zrs p s:Int)+1)∧ueC p s=0∧ueV p s=numB p s (2*(zrs p s:Int)+1).toNat-1:=by
 have e:ueC p s=0:=by rw [ueC,if_pos h,if_pos h2]
 exact ⟨by rw [ueA,if_pos h,(rb_yes h2).1],e,by rw [ueV,if_pos e,(rb_yes h2).2]⟩
theorem ue_short {p:List UInt8} {s:Int} (h:zrs p s≤15) (h2:¬RbOk p s (2*(zrs p s:Int)+1)):ueA p s=s∧ueC p s=1∧ueV p s=0:=by
 have e:ueC p s=1:=by rw [ueC,if_pos h,if_neg h2]
 exact ⟨by rw [ueA,if_pos h,(rb_no h2).1],e,by rw [ueV,if_neg (by omega)]⟩
theorem ue_code {p:List UInt8} {s:Int} (h:¬zrs p s≤15):ueA p s=s∧ueC p s=4∧ueV p s=0:=by
 have e:ueC p s=4:=by rw [ueC,if_neg h]
 exact ⟨by rw [ueA,if_neg h],e,by rw [ueV,if_neg (by omega)]⟩
abbrev SymAt (p:List UInt8) (s:Int) (l:List Int) (m:Nat):Prop:=0<l.getD m 0∧RbOk p s (l.getD m 0)∧numB p s (l.getD m 0).toNat=(codes l).getD m 0
theorem sym_hit {p:List UInt8} {s:Int} {l:List Int} {m:Nat} (hl:CodeOk l) (hm:m<6) (h:SymAt p s l m):hit (codes l) l m (numB p s 7):=by
 have hb:=code_in hl hm
 obtain ⟨w,hw⟩:∃w:Nat,l.getD m 0=w:=⟨(l.getD m 0).toNat,by omega⟩
 have hw7:w≤7:=by omega
 have h1:=numB_add p s w (7-w)
 have h2:=numB_bd p (s+w) (7-w)
 have h3:=h.2.2
 have h5:=h.1
 rw [show w+(7-w)=7 by omega] at h1
 rw [hw] at h3
 have h4:numB p s w=(codes l).getD m 0:=by simpa using h3
 unfold hit
 rw [hw]
 have hcw:cw (w:Int)=2 ^ (7-w):=by
  rcases (by omega:w=1∨w=2∨w=3∨w=4∨w=5∨w=6∨w=7) with rfl|rfl|rfl|rfl|rfl|rfl|rfl<;>rfl
 rw [hcw,h1,h4,Int.add_mul]
 omega
theorem sym_uni {p:List UInt8} {s:Int} {l:List Int} {m m':Nat} (hl:CodeOk l) (hm:m<6) (hm':m'<6) (h:SymAt p s l m) (h':SymAt p s l m'):m=m':=
 code_uni hl hm hm' (by omega) (by omega) (sym_hit hl hm h) (sym_hit hl hm' h')
theorem sym_cov {p:List UInt8} {s:Int} {l:List Int} (hl:CodeOk l) (h:RbOk p s 7):∃m,m<6∧SymAt p s l m:=by
 have hb:=numB_bd p s 7
 obtain ⟨m,hm,h0,h1,h2⟩:=code_cov hl (v:=numB p s 7) hb.1 hb.2
 have hb2:=code_in hl hm
 refine ⟨m,hm,by omega,⟨h.1,by omega,by omega⟩,?_⟩
 obtain ⟨w,hw⟩:∃w:Nat,l.getD m 0=w:=⟨(l.getD m 0).toNat,by omega⟩
 have hw7:w≤7:=by omega
 have h3:=numB_add p s w (7-w)
 have h4:=numB_bd p (s+w) (7-w)
 rw [show w+(7-w)=7 by omega] at h3
 have hcw:cw (w:Int)=2 ^ (7-w):=by
  rcases (by omega:w=1∨w=2∨w=3∨w=4∨w=5∨w=6∨w=7) with rfl|rfl|rfl|rfl|rfl|rfl|rfl<;>rfl
 rw [hw,hcw] at h1 h2
 rw [hw,show ((w:Int)).toNat=w by simp]
 rw [h3] at h1 h2
 have hp:(0:Int)<2 ^ (7-w):=by exact_mod_cast Nat.pow_pos (by decide)
 generalize (2:Int) ^ (7-w)=q at*
 have e1:(codes l).getD m 0*q≤numB p s w*q+numB p (s+w) (7-w):=h1
 have e2:numB p s w*q+numB p (s+w) (7-w)<((codes l).getD m 0+1)*q:=h2
 have a1:(codes l).getD m 0<numB p s w+1:=by
  apply Int.lt_of_mul_lt_mul_right (a:=q) _ (by omega)
  rw [Int.add_mul];omega
 have a2:numB p s w<(codes l).getD m 0+1:=by
  apply Int.lt_of_mul_lt_mul_right (a:=q) _ (by omega)
  omega
 omega
def symM (p:List UInt8) (s:Int) (l:List Int):Nat:=((List.range 6).find? fun m=>decide (SymAt p s l m)).getD 6
theorem symM_eq {p:List UInt8} {s:Int} {l:List Int} {m:Nat} (hl:CodeOk l) (hm:m<6) (h:SymAt p s l m):symM p s l=m:=by
 unfold symM
 cases hf:(List.range 6).find? fun m=>decide (SymAt p s l m) with
 |none=>
  have:=List.find?_eq_none.1 hf m (by simp [hm])
  exact absurd (decide_eq_true h) this
 |some m'=>
  have h1:=List.find?_some hf
  have h2:=List.mem_of_find?_eq_some hf
  exact (sym_uni hl (by simpa using h2) hm (of_decide_eq_true h1) h)
theorem symM_none {p:List UInt8} {s:Int} {l:List Int} (h:∀m,m<6→¬SymAt p s l m):symM p s l=6:=by
 unfold symM
 have:(List.range 6).find? (fun m=>decide (SymAt p s l m))=none:=List.find?_eq_none.2 fun m hm=>by simpa using h m (by simpa using hm)
 rw [this];rfl
theorem symM_lt {p:List UInt8} {s:Int} {l:List Int} (h:symM p s l<6):SymAt p s l (symM p s l):=by
 unfold symM at*
 cases hf:(List.range 6).find? fun m=>decide (SymAt p s l m) with
 |none=>rw [hf] at h;simp at h
 |some m'=>
  have h1:=List.find?_some hf
  exact of_decide_eq_true (p:=SymAt p s l m') h1
def smC (p:List UInt8) (s:Int) (l:List Int):Int:=if CodeOk l then (if symM p s l<6 then 0 else 1) else 4
def smA (p:List UInt8) (s:Int) (l:List Int):Int:=if smC p s l=0 then s+l.getD (symM p s l) 0 else s
def smV (p:List UInt8) (s:Int) (l:List Int):Int:=if smC p s l=0 then symM p s l else 0
theorem sm_yes {p:List UInt8} {s:Int} {l:List Int} {m:Nat} (hl:CodeOk l) (hm:m<6) (h:SymAt p s l m):smA p s l=s+l.getD m 0∧smV p s l=m∧smC p s l=0:=by
 have e:=symM_eq hl hm h
 have c:smC p s l=0:=by rw [smC,if_pos hl,if_pos (by omega)]
 exact ⟨by rw [smA,if_pos c,e],by rw [smV,if_pos c,e],c⟩
theorem sm_none {p:List UInt8} {s:Int} {l:List Int} (hl:CodeOk l) (h:∀m,m<6→¬SymAt p s l m):smA p s l=s∧smV p s l=0∧smC p s l=1:=by
 have e:=symM_none h
 have c:smC p s l=1:=by rw [smC,if_pos hl,if_neg (by omega)]
 exact ⟨by rw [smA,if_neg (by omega)],by rw [smV,if_neg (by omega)],c⟩
theorem sm_bad {p:List UInt8} {s:Int} {l:List Int} (hl:¬CodeOk l):smA p s l=s∧smV p s l=0∧smC p s l=4:=by
 have c:smC p s l=4:=by rw [smC,if_neg hl]
 exact ⟨by rw [smA,if_neg (by omega)],by rw [smV,if_neg (by omega)],c⟩
end Go.Proofs.YtndflfipaddfoaaGreat


namespace Go.Proofs.YtndflfipaddfoaaGreat
open Go Go.Abs
def fbC (p:List UInt8) (s c n:Int) (k:Int→Int):Int:=if c=0 then (if RbOk p s n then k (rbV p s n) else 1) else c
def fbA (p:List UInt8) (s c n:Int) (k:Int→Int):Int:=if c=0∧fbC p s c n k=0 then rbA p s n else s
def fbV (p:List UInt8) (s c n:Int) (k:Int→Int):Int:=if fbC p s c n k=0 then rbV p s n else 0
def fuC (p:List UInt8) (s c:Int) (k:Int→Int):Int:=if c=0 then (if ueC p s=0 then k (ueV p s) else ueC p s) else c
def fuA (p:List UInt8) (s c:Int) (k:Int→Int):Int:=if fuC p s c k=0 then ueA p s else s
def fuV (p:List UInt8) (s c:Int) (k:Int→Int):Int:=if fuC p s c k=0 then ueV p s else 0
def ifE (b:Prop) [Decidable b] (e:Int):Int:=bif decide b then 0 else e
theorem ifE_yes {b:Prop} [Decidable b] {e:Int} (h:b):ifE b e=0:=by rw [ifE,decide_eq_true h];rfl
theorem ifE_no {b:Prop} [Decidable b] {e:Int} (h:¬b):ifE b e=e:=by rw [ifE,decide_eq_false h];rfl
def lenAt (v:Int) (i:Nat):Int:=v/2 ^ (3*i)%8
def lensV (v:Int):List Int:=[lenAt v 5,lenAt v 4,lenAt v 3,lenAt v 2,lenAt v 1,lenAt v 0]
structure HdS where
 a:Int
 c:Int
 w:Int
 h:Int
 q:Int
 f:Int
 l:Int
abbrev hk1 (x:Int):Int:=ifE (x=183) 2
abbrev hk2 (x:Int):Int:=ifE (x≤3) 3
abbrev hk3 (x:Int):Int:=ifE (x≤51) 3
abbrev hk4 (x:Int):Int:=0
abbrev hk5 (x:Int):Int:=ifE (CodeOk (lensV x)) 4
def hdS (p:List UInt8) (s:Int):HdS:=
 let a1:=fbA p s 0 8 hk1
 let c1:=fbC p s 0 8 hk1
 let a2:=fuA p a1 c1 hk2
 let c2:=fuC p a1 c1 hk2
 let a3:=fuA p a2 c2 hk2
 let c3:=fuC p a2 c2 hk2
 let a4:=fbA p a3 c3 6 hk3
 let c4:=fbC p a3 c3 6 hk3
 let a5:=fbA p a4 c4 2 hk4
 let c5:=fbC p a4 c4 2 hk4
 let a6:=fbA p a5 c5 18 hk5
 let c6:=fbC p a5 c5 18 hk5
 ⟨a6,c6,fuV p a1 c1 hk2,fuV p a2 c2 hk2,fbV p a3 c3 6 hk3,fbV p a4 c4 2 hk4,fbV p a5 c5 18 hk5⟩
def HdS.W (x:HdS):Int:=if x.c=0 then 8*(x.w+1) else 0
def HdS.H (x:HdS):Int:=if x.c=0 then 8*(x.h+1) else 0
def HdS.Q (x:HdS):Int:=if x.c=0 then x.q else 0
def HdS.B (x:HdS):Bool:=decide (x.c=0∧x.f≥2)
def HdS.D (x:HdS):Bool:=decide (x.c=0∧x.f%2=1)
def HdS.L (x:HdS):List Int:=if x.c=0 then lensV x.l else []
structure LvS where
 a:Int
 c:Int
 at_:Int
 out:List Int
def lvStep (p:List UInt8) (nn:Int) (x:LvS):LvS:=
 if x.c=0 then
  let k1:=fun y:Int=>ifE (y<nn-x.at_) 5
  let k2:=fun y:Int=>ifE (-16383≤lvOf y∧lvOf y≤16383) 5
  let a1:=fuA p x.a 0 k1
  let c1:=fuC p x.a 0 k1
  let t1:=x.at_+fuV p x.a 0 k1
  let a2:=fuA p a1 c1 k2
  let c2:=fuC p a1 c1 k2
  if c2=0 then ⟨a2,c2,t1+1,x.out.set t1.toNat (lvOf (fuV p a1 c1 k2))⟩ else ⟨a2,c2,t1,x.out⟩
 else x
def lvRun (p:List UInt8) (nn:Int) (x:LvS):Nat→LvS
 |0=>x
 |k+1=>lvStep p nn (lvRun p nn x k)
def lvS (p:List UInt8) (s n:Int):LvS:=
 let nn:=n*n
 let z:=List.replicate nn.toNat 0
 let k0:=fun _:Int=>0
 let k1:=fun y:Int=>ifE (y<nn) 5
 let a1:=fbA p s 0 1 k0
 let c1:=fbC p s 0 1 k0
 if fbV p s 0 1 k0=0 then ⟨a1,c1,0,z⟩ else
  let a2:=fuA p a1 c1 k1
  let c2:=fuC p a1 c1 k1
  lvRun p nn ⟨a2,c2,0,z⟩ (1+fuV p a1 c1 k1).toNat
theorem lvStep_len (p:List UInt8) (nn:Int) (x:LvS):(lvStep p nn x).out.length=x.out.length:=by
 unfold lvStep;split
 ·simp only;split
  ·simp
  ·rfl
 ·rfl
theorem lvRun_len (p:List UInt8) (nn:Int) (x:LvS):∀k,(lvRun p nn x k).out.length=x.out.length
 |0=>rfl
 |k+1=>by rw [lvRun,lvStep_len,lvRun_len p nn x k]
theorem lvS_len (p:List UInt8) (s n:Int):(lvS p s n).out.length=(n*n).toNat:=by
 unfold lvS;simp only;split
 ·simp
 ·rw [lvRun_len];simp
structure BlS where
 a:Int
 c:Int
 m:Int
 l:List Int
def blS (p:List UInt8) (s:Int) (lens:List Int) (n:Int):BlS:=
 if n=4∨n=8 then
  if smC p s lens=0 then
   let x:=lvS p (smA p s lens) n
   if x.c=0 then ⟨x.a,0,smV p s lens,x.out⟩ else ⟨x.a,x.c,0,[]⟩
  else ⟨s,smC p s lens,0,[]⟩
 else ⟨s,5,0,[]⟩
theorem blS_len (p:List UInt8) (s:Int) (lens:List Int) (n:Int):(blS p s lens n).l.length≤64:=by
 unfold blS;split
 ·rename_i h
  split
  ·simp only;split
   ·have:=lvS_len p (smA p s lens) n
    rcases h with rfl|rfl
    ·have h2:((4:Int)*4).toNat=16:=rfl
     show (lvS p (smA p s lens) 4).out.length≤64
     omega
    ·have h2:((8:Int)*8).toNat=64:=rfl
     show (lvS p (smA p s lens) 8).out.length≤64
     omega
   ·simp
  ·simp
 ·simp
structure MbS where
 a:Int
 c:Int
 bs:List Blok
def mbRun (p:List UInt8) (s:Int) (lens:List Int) (n:Int):Nat→MbS
 |0=>⟨s,0,[]⟩
 |k+1=>
  let x:=mbRun p s lens n k
  if x.c=0 then
   let b:=blS p x.a lens n
   if b.c=0 then ⟨b.a,0,x.bs++[(b.m,b.l)]⟩ else ⟨b.a,b.c,[]⟩
  else x
def mbS (p:List UInt8) (s:Int) (lens:List Int):MbS×Bool:=
 if RbOk p s 1 then
  let e:=decide (rbV p s 1=1)
  let x:=mbRun p (s+1) lens (bif e then 8 else 4) (bif e then 1 else 4)
  (x,bif decide (x.c=0) then e else false)
 else (⟨s,1,[]⟩,false)
structure StS where
 a:Int
 c:Int
 ms:List Mbk
def stRun (p:List UInt8) (s:Int) (lens:List Int):Nat→StS
 |0=>⟨s,0,[]⟩
 |k+1=>
  let x:=stRun p s lens k
  if x.c=0 then
   let m:=mbS p x.a lens
   if m.1.c=0 then ⟨m.1.a,0,x.ms++[(m.2,m.1.bs)]⟩ else ⟨m.1.a,m.1.c,[]⟩
  else x
def endC (p:List UInt8) (s:Int):Int:=if lft p s=0 then 1 else if lft p s≤8∧numB p s (lft p s).toNat=2 ^ (lft p s-1).toNat then 0 else 6
end Go.Proofs.YtndflfipaddfoaaGreat


namespace Go.Proofs.YtndflfipaddfoaaGreat
open Go Go.Abs
attribute [local irreducible] WpA WpL Rnd Blk Abs.Seq Abs.Fin Abs.FinG FnC FnG Only
theorem shr8_in (x:UInt8) (k:Nat):IntKind.i64.wrap ((x.toNat:Int)/2 ^ k)=(x.toNat:Int)/2 ^ k:=by
 have h1:(x.toNat:Int)/2 ^ k≤x.toNat:=Int.ediv_le_self _ (by omega)
 have h2:0≤(x.toNat:Int)/2 ^ k:=Int.ediv_nonneg (by omega) (Int.pow_nonneg (by decide))
 have:=x.toNat_lt
 exact wrap64 _ (by omega)
instance BitAt_c:Con 94 (∀ (p:List UInt8) (i:Int),p.length≤1099511627776→Fn 94 [Z p,I i] [] (I (btA p i))):=⟨fun p i hl=>by
 refine FnC.of_body tabOk Tryz.func94 Tryz.ntmps94 rfl (by decide +kernel) (by simp) fun G=>?_
 refine go (r:=?_);and_intros<;>intros<;>try exact True.intro
 ·rw [btA,if_pos (by omega)]
 ·rw [btA,if_pos (by omega)]
 ·rw [btA,if_neg (by omega),bit1,shr8_in]⟩
instance BitAt_s:Con 201 (∀ (p:List UInt8) (i:Int),p.length≤1099511627776→Fn 201 [Z p,I i] [] (I (btA p i))):=⟨fun p i hl=>by
 refine FnC.of_body tabOk Tryz.func201 Tryz.ntmps201 rfl (by decide +kernel) (by simp) fun G=>?_
 refine go (r:=?_);and_intros<;>intros<;>try exact True.intro
 ·rw [btA,if_pos (by omega)]
 ·rw [btA,if_pos (by omega)]
 ·have:=(p.getD (i/8).toNat 0).toNat_lt
  rw [btA,if_neg (by omega),bit1]⟩
abbrev RA (p:List UInt8) (s:Int):AV:=.agg [Z p,I s]
theorem or1 (x b:Int) (h:0≤x∧x<2 ^ 61) (hb:0≤b∧b≤1):IntKind.i64.wrap ((BitVec.ofInt IntKind.i64.bits (IntKind.i64.wrap (x*2 ^ Int.toNat 1)) ||| BitVec.ofInt IntKind.i64.bits b).toNat:Nat)=x*2+b:=by
 have e0:x*2 ^ Int.toNat 1=x*2:=rfl
 rw [e0,wrap64 (x*2) (by omega)]
 obtain ⟨a,rfl⟩:∃a:Nat,x=a:=⟨x.toNat,by omega⟩
 obtain ⟨c,rfl⟩:∃c:Nat,b=c:=⟨b.toNat,by omega⟩
 have h1:(BitVec.ofInt IntKind.i64.bits ((a:Int)*2)).toNat=2*a:=by simp only [IntKind.bits,BitVec.toNat_ofInt];omega
 have h2:(BitVec.ofInt IntKind.i64.bits (c:Int)).toNat=c:=by simp only [IntKind.bits,BitVec.toNat_ofInt];omega
 rw [BitVec.toNat_or,h1,h2]
 have h3:=Nat.two_pow_add_eq_or_of_lt (i:=1) (b:=c) (by omega) a
 rw [show 2*a=2 ^ 1*a by omega,←h3,wrap64 _ (by omega)]
 omega
instance bits_c:Con 184 (∀ (p:List UInt8) (s n:Int),p.length≤1099511627776∧(-1125899906842624≤s∧s≤1125899906842624)∧0≤n∧n≤56→Fn 184 [Z p,I s,I n] [] (I (numB p s n.toNat))):=⟨fun p s n hl=>by
 obtain ⟨N,rfl⟩:∃N:Nat,n=N:=⟨n.toNat,by omega⟩
 refine FnC.of_body tabOk Tryz.func184 Tryz.ntmps184 rfl (by decide +kernel) (by simp) fun G=>?_
 refine go (r:=?_);and_intros<;>intros<;>try exact True.intro
 refine WpA.loop (fun k:Nat=>⟨[(0,Z p),(1,I s),(7,I (numB p s k)),(9,I N),(10,I k)],[]⟩) (fun k=>k≤N) (fun k=>N-k) 0 (by omega) (go (r:=?_)) (fun k hk=>?_)
 ·trivial
 have hb:=numB_bd p s k
 have hb2:=numB_le p s (k:=k) (j:=60) (by omega)
 have h1:=or1 (numB p s k) (max (btA p (s+k)) 0) (by omega) (bv_bd p (s+k))
 have h2:numB p s (k+1)=numB p s k*2+max (btA p (s+k)) 0:=rfl
 refine go (r:=?_);and_intros<;>intros<;>try exact True.intro
 all_goals first|(rw [h2,←h1];done)|(have e:k=N:=by omega);(first|(rw [e,Int.toNat_natCast];done)|(subst e;rfl))⟩
abbrev BoxR (p:List UInt8) (s:Int):AObj:=⟨[Z p,I s],0,0,none⟩
instance ReaderOk_c:Con 197 (∀ (p:List UInt8) (s:Int),p.length≤1099511627776→Fn 197 [RA p s] [] (B (decide (RdOk p s)))):=⟨fun p s hl=>by
 refine FnC.of_body tabOk Tryz.func197 Tryz.ntmps197 rfl (by decide +kernel) (by simp) fun G=>?_
 refine go (r:=?_);and_intros<;>intros<;>try exact True.intro⟩
instance ReaderOk_s:Con 199 (∀ (p:List UInt8) (s:Int),p.length≤1099511627776→Fn 199 [RA p s] [] (B (decide (RdOk p s)))):=⟨fun p s hl=>by
 refine FnC.of_body tabOk Tryz.func199 Tryz.ntmps199 rfl (by decide +kernel) (by simp) fun G=>?_
 refine go (r:=?_);and_intros<;>intros<;>try exact True.intro⟩
instance Left_c:Con 183 (∀ (p:List UInt8) (s:Int),p.length≤1099511627776→Fn 183 [RA p s] [] (I (lft p s))):=⟨fun p s hl=>by
 refine FnC.of_body tabOk Tryz.func183 Tryz.ntmps183 rfl (by decide +kernel) (by simp) fun G=>?_
 refine go (r:=?_);and_intros<;>intros<;>try exact True.intro
 all_goals first|(rw [lft_no (by assumption)];done)|(rw [lft_ok (by assumption)];done)⟩
instance Left_s:Con 200 (∀ (p:List UInt8) (s:Int),p.length≤1099511627776→Fn 200 [RA p s] [] (I (lft p s))):=⟨fun p s hl=>by
 refine FnC.of_body tabOk Tryz.func200 Tryz.ntmps200 rfl (by decide +kernel) (by simp) fun G=>?_
 refine go (r:=?_);and_intros<;>intros<;>try exact True.intro
 all_goals first|(rw [lft_no (by assumption)];done)|(rw [lft_ok (by assumption)];done)⟩
instance ReadBits_c:Con 112 (∀ (p:List UInt8) (s n:Int),p.length≤1099511627776→Fn 112 [RA p s,I n] [] (.tup [RA p (rbA p s n),I (rbV p s n),B (decide (RbOk p s n))])):=⟨fun p s n hl=>by
 have hb:=lft_bd p s
 refine FnC.of_body tabOk Tryz.func112 Tryz.ntmps112 rfl (by decide +kernel) (by simp) fun G=>?_
 by_cases hok:RbOk p s n
 ·obtain ⟨e1,e2⟩:=rb_yes hok
  obtain ⟨h1,h2,h3⟩:=id hok
  refine go (r:=?_);and_intros<;>intros<;>try exact True.intro
  all_goals first|(exact absurd (by assumption) (by assumption))|(rw [e1];done)|(rw [e2];done)|(simp [hok];done)|(exfalso;omega)
 ·obtain ⟨e1,e2⟩:=rb_no hok
  refine go (r:=?_);and_intros<;>intros<;>try exact True.intro
  all_goals first|(exact absurd ⟨by assumption,by assumption,by omega⟩ hok)|(rw [e1];done)|(rw [e2];done)|(simp [hok];done)⟩
instance ReadBits_s:Con 115 (∀ (p:List UInt8) (s n:Int),p.length≤1099511627776→Fn 115 [RA p s,I n] [] (.tup [RA p (rbA p s n),I (rbV p s n),B (decide (RbOk p s n))])):=⟨fun p s n hl=>by
 have hb:=lft_bd p s
 refine FnC.of_body tabOk Tryz.func115 Tryz.ntmps115 rfl (by decide +kernel) (by simp) fun G=>?_
 by_cases hok:RbOk p s n
 ·obtain ⟨e1,e2⟩:=rb_yes hok
  obtain ⟨h1,h2,h3⟩:=id hok
  have hlo:=lft_ok h1
  obtain ⟨N,rfl⟩:∃N:Nat,n=N:=⟨n.toNat,by omega⟩
  refine go (r:=?_);and_intros<;>intros<;>try exact True.intro
  all_goals first|(exact absurd (by assumption) (by assumption))|(exfalso;omega)|skip
  refine WpA.loop (fun k:Nat=>⟨[(1,I N),(2,.ptr 0 0 0),(4,.ptr 1 0 0),(7,I (numB p s k)),(8,I k)],[BoxR p s,⟨[Z [],I 0],0,0,none⟩]⟩) (fun k=>k≤N) (fun k=>N-k) 0 (by omega) (go (r:=?_)) (fun k hk=>?_)
  ·trivial
  have hbk:=numB_bd p s k
  have hb2:=numB_le p s (k:=k) (j:=33) (by omega)
  have hbt:=btA_bd p (s+k)
  have hbo:=btA_out p (s+k)
  have h2:numB p s (k+1)=numB p s k*2+max (btA p (s+k)) 0:=rfl
  refine go (r:=?_);and_intros<;>intros<;>try exact True.intro
  all_goals first|(rw [h2];omega)|(rw [e1];done)|(rw [e2,Int.toNat_natCast,show k=N by omega];done)|(simp [hok];done)
 ·obtain ⟨e1,e2⟩:=rb_no hok
  refine go (r:=?_);and_intros<;>intros<;>try exact True.intro
  all_goals first|(exact absurd ⟨by assumption,by assumption,by omega⟩ hok)|(rw [e1];done)|(rw [e2];done)|(simp [hok];done)⟩
instance ZerosAhead_c:Con 298 (∀ (p:List UInt8) (s:Int),p.length≤1099511627776→Fn 298 [RA p s] [] (I (zrs p s))):=⟨fun p s hl=>by
 have hb:=lft_bd p s
 refine FnC.of_body tabOk Tryz.func298 Tryz.ntmps298 rfl (by decide +kernel) (by simp) fun G=>?_
 by_cases hok:RdOk p s
 ·have hlo:=lft_ok hok
  refine go (r:=?_);and_intros<;>intros<;>try exact True.intro
  all_goals first|(exact absurd hok (by assumption))|skip
  refine WpA.loop (fun k:Nat=>⟨[(1,.ptr 0 0 0),(3,I k)],[BoxR p s]⟩) (fun k=>(k:Int)≤lft p s∧∀j<k,btA p (s+(j:Nat))=0) (fun k=>(lft p s).toNat-k) 0 ⟨by omega,fun j hj=>by omega⟩ (go (r:=?_)) (fun k hk=>?_)
  ·trivial
  have hbo:=btA_out p (s+k)
  have hz:=fun h3=>zrs_eq hk.1 hk.2 h3
  refine go (r:=?_);and_intros<;>intros<;>try exact True.intro
  all_goals first|(rename_i h1 j hj;rcases Nat.lt_succ_iff_lt_or_eq.1 hj with h|h;(exact hk.2 j h);(subst h;assumption))|(rw [hz (.inr (by assumption))];done)
 ·have hz:zrs p s=0:=by have:=zrs_le p s;rw [lft_no hok] at this;omega
  refine go (r:=?_);and_intros<;>intros<;>try exact True.intro
  all_goals first|(exact absurd (by assumption) hok)|(rw [hz];done)|(rw [hz];rfl)⟩
instance ZerosAhead_s:Con 266 (∀ (p:List UInt8) (s:Int),p.length≤1099511627776→Fn 266 [RA p s] [] (I (zrs p s))):=⟨fun p s hl=>by
 have hb:=lft_bd p s
 refine FnC.of_body tabOk Tryz.func266 Tryz.ntmps266 rfl (by decide +kernel) (by simp) fun G=>?_
 have hlo:=fun h:RdOk p s=>lft_ok h
 have hln:=fun h:¬RdOk p s=>lft_no h
 refine go (r:=?_);and_intros<;>intros<;>try exact True.intro
 refine WpA.loop (fun k:Nat=>⟨[(1,.ptr 0 0 0),(3,I k)],[BoxR p s]⟩) (fun k=>(k:Int)≤lft p s∧∀j<k,btA p (s+(j:Nat))=0) (fun k=>(lft p s).toNat-k) 0 ⟨by omega,fun j hj=>by omega⟩ (go (r:=?_)) (fun k hk=>?_)
 ·trivial
 have hbo:=btA_out p (s+k)
 have hz:=fun h3=>zrs_eq hk.1 hk.2 h3
 by_cases hok:RdOk p s
 ·have hlo:=lft_ok hok
  refine go (r:=?_);and_intros<;>intros<;>try exact True.intro
  all_goals first|(rename_i h1 h2 j hj;rcases Nat.lt_succ_iff_lt_or_eq.1 hj with h|h;(exact hk.2 j h);(subst h;assumption))|(rw [hz (.inr (by assumption))];done)|(rw [hz (.inl (by omega))];done)
 ·have hln:=lft_no hok
  refine go (r:=?_);and_intros<;>intros<;>try exact True.intro
  all_goals first|(rw [hz (.inl (by omega))];done)⟩
instance ReadUe_c:Con 261 (∀ (p:List UInt8) (s:Int),p.length≤1099511627776→Fn 261 [RA p s] [] (.tup [RA p (ueA p s),I (ueV p s),I (ueC p s)])):=⟨fun p s hl=>by
 have hb:=lft_bd p s
 have hz:=zrs_le p s
 have hv:=rbV_bd p s (2*(zrs p s:Int)+1)
 refine FnC.of_body tabOk Tryz.func261 Tryz.ntmps261 rfl (by decide +kernel) (by simp) fun G=>?_
 by_cases h15:zrs p s≤15
 ·by_cases hok:RbOk p s (2*(zrs p s:Int)+1)
  ·obtain ⟨e1,e2,e3⟩:=ue_yes h15 hok
   obtain ⟨e4,e5⟩:=rb_yes hok
   refine go (r:=?_);and_intros<;>intros<;>try exact True.intro
   all_goals first|(exact absurd hok (by assumption))|(exfalso;omega)|(rw [e1,e4];done)|(rw [e3,e5];done)|(rw [e2];done)
  ·obtain ⟨e1,e2,e3⟩:=ue_short h15 hok
   refine go (r:=?_);and_intros<;>intros<;>try exact True.intro
   all_goals first|(exact absurd (by assumption) hok)|(exfalso;omega)|(rw [e1];done)|(rw [e3];done)|(rw [e2];done)
 ·obtain ⟨e1,e2,e3⟩:=ue_code (s:=s) (p:=p) h15
  refine go (r:=?_);and_intros<;>intros<;>try exact True.intro
  all_goals first|(exfalso;omega)|(rw [e1];done)|(rw [e3];done)|(rw [e2];done)⟩
instance ReadUe_s:Con 218 (∀ (p:List UInt8) (s:Int),p.length≤1099511627776→Fn 218 [RA p s] [] (.tup [RA p (ueA p s),I (ueV p s),I (ueC p s)])):=⟨fun p s hl=>by
 have hb:=lft_bd p s
 have hz:=zrs_le p s
 have hv:=rbV_bd p s (2*(zrs p s:Int)+1)
 refine FnC.of_body tabOk Tryz.func218 Tryz.ntmps218 rfl (by decide +kernel) (by simp) fun G=>?_
 by_cases h15:zrs p s≤15
 ·by_cases hok:RbOk p s (2*(zrs p s:Int)+1)
  ·obtain ⟨e1,e2,e3⟩:=ue_yes h15 hok
   obtain ⟨e4,e5⟩:=rb_yes hok
   refine go (r:=?_);and_intros<;>intros<;>try exact True.intro
   all_goals first|(exact absurd hok (by assumption))|(exfalso;omega)|(rw [e1,e4];done)|(rw [e3,e5];done)|(rw [e2];done)
  ·obtain ⟨e1,e2,e3⟩:=ue_short h15 hok
   refine go (r:=?_);and_intros<;>intros<;>try exact True.intro
   all_goals first|(exact absurd (by assumption) hok)|(exfalso;omega)|(rw [e1];done)|(rw [e3];done)|(rw [e2];done)
 ·obtain ⟨e1,e2,e3⟩:=ue_code (s:=s) (p:=p) h15
  refine go (r:=?_);and_intros<;>intros<;>try exact True.intro
  all_goals first|(exfalso;omega)|(rw [e1];done)|(rw [e3];done)|(rw [e2];done)⟩
instance LevelOf_c:Con 216 (∀ n:Int,-4611686018427387904≤n∧n≤4611686018427387904→Fn 216 [I n] [] (I (lvOf n))):=⟨fun n h=>by
 refine FnC.of_body tabOk Tryz.func216 Tryz.ntmps216 rfl (by decide +kernel) (by simp) fun G=>?_
 refine go (r:=?_);and_intros<;>intros<;>try exact True.intro
 ·rw [lvOf,if_pos (by assumption)]
 ·rw [lvOf,if_neg (by omega),if_pos (by assumption)]
 ·rw [lvOf,if_neg (by omega),if_neg (by assumption)];omega⟩
instance LevelOf_s:Con 267 (∀ n:Int,-4611686018427387904≤n∧n≤4611686018427387904→Fn 267 [I n] [] (I (lvOf n))):=⟨fun n h=>by
 refine FnC.of_body tabOk Tryz.func267 Tryz.ntmps267 rfl (by decide +kernel) (by simp) fun G=>?_
 refine go (r:=?_);and_intros<;>intros<;>try exact True.intro
 ·rw [lvOf,if_pos (by assumption)]
 ·rw [lvOf,if_neg (by omega),if_pos (by assumption)]
 ·rw [lvOf,if_neg (by omega),if_neg (by assumption)]⟩
end Go.Proofs.YtndflfipaddfoaaGreat


namespace Go.Proofs.YtndflfipaddfoaaGreat
open Go Go.Abs
attribute [local irreducible] WpA WpL Rnd Blk Abs.Seq Abs.Fin Abs.FinG FnC FnG Only
abbrev R0:AObj:=⟨[Z [],I 0],0,0,none⟩
theorem rb_ok_le {p:List UInt8} {s n m:Int} (h:RbOk p s n) (h0:0≤m) (h1:m≤n):RbOk p s m:=⟨h.1,by omega,by omega⟩
instance ReadSym_c:Con 198 (∀ (p:List UInt8) (s:Int) (l:List Int),p.length≤1099511627776∧l.length≤1099511627776→Fn 198 [RA p s,IL l] [] (.tup [RA p (smA p s l),I (smV p s l),I (smC p s l)])):=⟨fun p s l hl=>by
 have hb:=lft_bd p s
 refine FnC.of_body tabOk Tryz.func198 Tryz.ntmps198 rfl (by decide +kernel) (by simp) fun G=>?_
 by_cases hok:CodeOk l
 ·have h6:=hok.2.1
  have hcr:=codesR_ok l hok
  have hcl:=codes_len l
  have hcn:=codesR_len l hok
  refine go (r:=?_);and_intros<;>intros<;>try exact True.intro
  all_goals first|(exact absurd hok (by assumption))|skip
  refine WpA.loop (fun k:Nat=>⟨[(2,.ptr 0 0 0),(4,.ptr 1 0 0),(7,.own 2 0 0 6),(18,IL l),(19,I l.length),(20,I k)],[BoxR p s,R0,XI (codes l)]⟩) (fun k=>k≤6∧∀m<k,¬SymAt p s l m) (fun k=>6-k) 0 ⟨by omega,fun j hj=>by omega⟩ (go (r:=?_)) (fun k hk=>?_)
  ·trivial
  have hcb:=code_in hok (m:=k)
  have hy:=fun h=>rb_yes (p:=p) (s:=s) (n:=l.getD k 0) h
  refine go (r:=?_);and_intros<;>intros<;>try exact True.intro
  all_goals first
   |(have hsy:SymAt p s l k:=⟨by omega,by assumption,by rw [←(hy (by assumption)).2];simpa using ‹rbV p s (l.getD k 0)=_›⟩
     obtain ⟨e1,e2,e3⟩:=sm_yes hok (by omega) hsy
     first|(rw [e1,(hy hsy.2.1).1];done)|(rw [e2];done)|(rw [e3];done))
   |(rename_i j hj hs
     rcases Nat.lt_succ_iff_lt_or_eq.1 hj with h|h
     ·exact hk.2 j h hs
     ·subst h
      obtain ⟨a,b,c⟩:=hs
      first|omega|exact absurd b (by assumption)|(have hv:=(hy b).2;rw [c] at hv;rw [Int.toNat_natCast] at *;exact absurd hv (by assumption)))
   |(obtain ⟨e1,e2,e3⟩:=sm_none hok (fun m hm=>hk.2 m (by omega))
     first|(rw [e1];done)|(rw [e2];done)|(rw [e3];done))
 ·obtain ⟨e1,e2,e3⟩:=sm_bad (p:=p) (s:=s) hok
  have hcr:=codesR_no l hok
  refine go (r:=?_);and_intros<;>intros<;>try exact True.intro
  all_goals first|(exact absurd (by assumption) hok)|(rw [e1];done)|(rw [e2];done)|(rw [e3];done)⟩
instance ReadSym_s:Con 202 (∀ (p:List UInt8) (s:Int) (l:List Int),p.length≤1099511627776∧l.length≤1099511627776→Fn 202 [RA p s,IL l] [] (.tup [RA p (smA p s l),I (smV p s l),I (smC p s l)])):=⟨fun p s l hl=>by
 have hb:=lft_bd p s
 refine FnC.of_body tabOk Tryz.func202 Tryz.ntmps202 rfl (by decide +kernel) (by simp) fun G=>?_
 by_cases hok:CodeOk l
 ·have h6:=hok.2.1
  have hcr:=codesR_ok l hok
  have hcl:=codes_len l
  have hcn:=codesR_len l hok
  refine go (r:=?_);and_intros<;>intros<;>try exact True.intro
  all_goals first|(exact absurd hok (by assumption))|(exfalso;omega)|skip
  rw [hcr]
  refine WpA.loop (fun w:Nat=>⟨[(1,IL l),(2,.ptr 0 0 0),(4,.ptr 1 0 0),(7,.own 2 0 0 6),(8,I ((w:Int)+1))],[BoxR p s,R0,XI (codes l)]⟩) (fun w=>w≤7∧(w=0∨RbOk p s w)∧∀m<6,l.getD m 0≤w→¬SymAt p s l m) (fun w=>7-w) 0 ⟨by omega,.inl rfl,fun m hm h1 h2=>by have:=h2.1;omega⟩ (go (r:=?_)) (fun w hw=>?_)
  ·and_intros<;>first|trivial|(rw [hcr];done)
  have hy:=fun h=>rb_yes (p:=p) (s:=s) (n:=(w:Int)+1) h
  obtain ⟨hw1,hw2,hw3⟩:=hw
  have hno:w<7→¬RbOk p s ((w:Int)+1)→∀m<6,¬SymAt p s l m:=fun h7 h m hm hs=>by
   by_cases hle:l.getD m 0≤w
   ·exact hw3 m hm hle hs
   ·exact h (rb_ok_le hs.2.1 (by omega) (by omega))
  have hall:w=7→False:=fun h7=>by
   subst h7
   obtain ⟨m,hm,hs⟩:=sym_cov (p:=p) (s:=s) hok (by rcases hw2 with h|h;omega;exact h)
   have:=code_in hok hm
   exact hw3 m hm (by omega) hs
  refine go (r:=?_);and_intros<;>intros<;>try exact True.intro
  all_goals first
   |(exact (hall (by omega)).elim)
   |(have hh:¬RbOk p s ((w:Int)+1):=by assumption
     obtain ⟨e1,e2,e3⟩:=sm_none hok (hno (by omega) hh)
     first|(rw [e1];done)|(rw [e2];done)|(rw [e3];done))
   |skip
  refine WpA.loop (fun m:Nat=>⟨[(1,IL l),(2,.ptr 0 0 0),(4,.ptr 1 0 0),(7,.own 2 0 0 6),(8,I ((w:Int)+1)),(9,.ptr 3 0 0),(10,I (rbV p s ((w:Int)+1))),(12,I m)],[BoxR p s,R0,XI (codes l),⟨[Z p,I (rbA p s ((w:Int)+1))],0,0,none⟩]⟩) (fun m=>m≤6∧∀j<m,l.getD j 0=(w:Int)+1→¬SymAt p s l j) (fun m=>6-m) 0 ⟨by omega,fun j hj=>by omega⟩ (go (r:=?_)) (fun m hm=>?_)
  ·trivial
  obtain ⟨hm1,hm2⟩:=hm
  have hrb:RbOk p s ((w:Int)+1):=by assumption
  obtain ⟨e4,e5⟩:=hy hrb
  refine go (r:=?_);and_intros<;>intros<;>try exact True.intro
  all_goals first
   |(have hlm:l.getD m 0=(w:Int)+1:=by assumption
     have hcm:(codes l).getD ((m:Int)).toNat 0=rbV p s ((w:Int)+1):=by assumption
     have hsy:SymAt p s l m:=by
      rw [Int.toNat_natCast] at hcm
      refine ⟨by omega,by rw [hlm];exact hrb,by rw [hlm,←e5,hcm]⟩
     obtain ⟨e1,e2,e3⟩:=sm_yes hok (by omega) hsy
     first|(rw [e1,e4,hlm];done)|(rw [e2];done)|(rw [e3];done))
   |(rename_i j hj hlj hs
     rcases Nat.lt_succ_iff_lt_or_eq.1 hj with h|h
     ·exact hm2 j h hlj hs
     ·subst h
      obtain ⟨a,b,c⟩:=hs
      first|(exact absurd hlj (by assumption))|(rw [hlj,←e5] at c;rw [Int.toNat_natCast] at *;exact absurd c.symm (by assumption)))
   |(rename_i j hj hlj hs
     have:m=6:=by omega
     subst this
     by_cases hle:l.getD j 0=(w:Int)+1
     ·exact hm2 j hj hle hs
     ·exact hw3 j hj (by omega) hs)
 ·obtain ⟨e1,e2,e3⟩:=sm_bad (p:=p) (s:=s) hok
  have hcr:=codesR_no l hok
  have hcr2:(codesR l).length=0:=by rw [hcr];rfl
  refine go (r:=?_);and_intros<;>intros<;>try exact True.intro
  all_goals first|(exact absurd (by assumption) hok)|(exfalso;omega)|(rw [e1];done)|(rw [e2];done)|(rw [e3];done)⟩
end Go.Proofs.YtndflfipaddfoaaGreat


namespace Go.Proofs.YtndflfipaddfoaaGreat
open Go Go.Abs
attribute [local irreducible] WpA WpL Rnd Blk Abs.Seq Abs.Fin Abs.FinG FnC FnG Only
instance unless_c:Con 175 (∀ (b:Bool) (c:Int),Fn 175 [B b,I c] [] (I (bif b then 0 else c))):=⟨fun b c=>by
 cases b
 ·refine FnC.of_body tabOk Tryz.func175 Tryz.ntmps175 rfl (by decide +kernel) (by simp) fun G=>?_
  refine go (r:=?_);and_intros<;>intros<;>try exact True.intro
  all_goals rfl
 ·refine FnC.of_body tabOk Tryz.func175 Tryz.ntmps175 rfl (by decide +kernel) (by simp) fun G=>?_
  refine go (r:=?_);and_intros<;>intros<;>try exact True.intro
  all_goals rfl⟩
instance levels1_c:Con 213 (∀ x:Int,Fn 213 [I x] [] (I 0)):=⟨fun x=>by
 refine FnC.of_body tabOk Tryz.func213 Tryz.ntmps213 rfl (by decide +kernel) (by simp) fun G=>?_
 refine go (r:=?_);and_intros<;>intros<;>try exact True.intro⟩
instance levels2_c:Con 214 (∀ x n:Int,0≤n∧n≤8→Fn 214 [I x,.iptr [I n] 0] [] (I (ifE (x<n*n) 5))):=⟨fun x n h=>by
 have hnn:=mul_in (a:=n) (b:=n) (by omega) (by omega)
 refine FnC.of_body tabOk Tryz.func214 Tryz.ntmps214 rfl (by decide +kernel) (by simp) fun G=>?_
 refine go (r:=?_);and_intros<;>intros<;>try exact True.intro⟩
instance levels3_c:Con 215 (∀ x n t:Int,(0≤n∧n≤8)∧0≤t∧t≤1099511627776→Fn 215 [I x,.iptr [I n] 0,.iptr [I t] 0] [] (I (ifE (x<n*n-t) 5))):=⟨fun x n t h=>by
 have hnn:0≤n*n∧n*n≤64:=⟨Int.mul_nonneg h.1.1 h.1.1,by have:=Int.mul_le_mul h.1.2 h.1.2 h.1.1 (by decide);omega⟩
 have hn2:=mul_in (a:=n) (b:=n) (by omega) (by omega)
 refine FnC.of_body tabOk Tryz.func215 Tryz.ntmps215 rfl (by decide +kernel) (by simp) fun G=>?_
 refine go (r:=?_);and_intros<;>intros<;>try exact True.intro⟩
instance levels4_c:Con 217 (∀ x:Int,-4611686018427387904≤x∧x≤4611686018427387904→Fn 217 [I x] [] (I (ifE (-16383≤lvOf x∧lvOf x≤16383) 5))):=⟨fun x h=>by
 refine FnC.of_body tabOk Tryz.func217 Tryz.ntmps217 rfl (by decide +kernel) (by simp) fun G=>?_
 refine go (r:=?_);and_intros<;>intros<;>try exact True.intro⟩
abbrev FldO (p:List UInt8) (s c:Int):AObj:=⟨[Z p,I s,I c],0,0,none⟩
abbrev Chk (g:Nat) (caps:List AV) (k:Int→Int):Prop:=caps.all AV.still=true∧caps.all AV.nofre=true∧∀x:Int,-1≤x∧x≤4294967296→Fn g (I x::caps) [] (I (k x))
abbrev ChkB (g:Nat) (caps:List AV) (k:Int→Int):Prop:=caps.all AV.still=true∧caps.all AV.nofre=true∧∀x:Int,0≤x∧x≤4294967296→Fn g (I x::caps) [] (I (k x))
theorem fbits_c (p:List UInt8) (s c n:Int) (g:Nat) (caps:List AV) (k:Int→Int) (hl:p.length≤1099511627776) (hk:ChkB g caps k):Gn 177 [.ptr 0 0 0,I n,.fn g caps] [FldO p s c] [FldO p (fbA p s c n k) (fbC p s c n k)] [] (I (fbV p s c n k)):=by
 obtain ⟨hc1,hc2,hg⟩:=hk
 have hv:=rbV_bd p s n
 refine FnG.of_bodyF tabOk Tryz.func177 Tryz.ntmps177 rfl (by decide +kernel) (by simp) rfl rfl fun G=>?_
 by_cases hc:c=0
 ·by_cases hok:RbOk p s n
  ·have e1:fbC p s c n k=k (rbV p s n):=by rw [fbC,if_pos hc,if_pos hok]
   refine go (r:=?_);and_intros<;>intros<;>try exact True.intro
   refine K.callT ?_
   refine WpL.callV0 rfl (hg (rbV p s n) ⟨by omega,by omega⟩) rfl (.keep rfl rfl (Snap.same rfl hc1 hc2)) (.sc .nil) rfl rfl (by decide) ?_
   by_cases hk0:k (rbV p s n)=0
   ·have e2:fbA p s c n k=rbA p s n:=by rw [fbA,if_pos ⟨hc,by rw [e1,hk0]⟩]
    have e3:fbV p s c n k=rbV p s n:=by rw [fbV,if_pos (by rw [e1,hk0])]
    refine go (r:=?_);and_intros<;>intros<;>try exact True.intro
    all_goals first|(exact absurd hk0 (by assumption))|(rw [e1];done)|(rw [e2];done)|(rw [e3];done)
   ·have e2:fbA p s c n k=s:=by rw [fbA,if_neg (by rw [e1];exact fun h=>hk0 h.2)]
    have e3:fbV p s c n k=0:=by rw [fbV,if_neg (by rw [e1];exact hk0)]
    refine go (r:=?_);and_intros<;>intros<;>try exact True.intro
    all_goals first|(exact absurd (by assumption) hk0)|(rw [e1];done)|(rw [e2];done)|(rw [e3];done)
  ·have e1:fbC p s c n k=1:=by rw [fbC,if_pos hc,if_neg hok]
   have e2:fbA p s c n k=s:=by rw [fbA,if_neg (by rw [e1];omega)]
   have e3:fbV p s c n k=0:=by rw [fbV,if_neg (by rw [e1];omega)]
   refine go (r:=?_);and_intros<;>intros<;>try exact True.intro
   all_goals first|(exact absurd (by assumption) hok)|(rw [e1];done)|(rw [e2];done)|(rw [e3];done)
 ·have e1:fbC p s c n k=c:=by rw [fbC,if_neg hc]
  have e2:fbA p s c n k=s:=by rw [fbA,if_neg (by omega)]
  have e3:fbV p s c n k=0:=by rw [fbV,if_neg (by rw [e1];omega)]
  refine go (r:=?_);and_intros<;>intros<;>try exact True.intro
  all_goals first|(exact absurd (by assumption) hc)|(rw [e1];done)|(rw [e2];done)|(rw [e3];done)
theorem ueV_bd (p:List UInt8) (s:Int):-1≤ueV p s∧ueV p s≤4294967296:=by
 have h:=rbV_bd p s (2*(zrs p s:Int)+1)
 unfold ueV;split<;>omega
theorem fue_c (p:List UInt8) (s c:Int) (g:Nat) (caps:List AV) (k:Int→Int) (hl:p.length≤1099511627776) (hk:Chk g caps k):Gn 179 [.ptr 0 0 0,.fn g caps] [FldO p s c] [FldO p (fuA p s c k) (fuC p s c k)] [] (I (fuV p s c k)):=by
 obtain ⟨hc1,hc2,hg⟩:=hk
 have hv:=ueV_bd p s
 refine FnG.of_bodyF tabOk Tryz.func179 Tryz.ntmps179 rfl (by decide +kernel) (by simp) rfl rfl fun G=>?_
 by_cases hc:c=0
 ·by_cases hok:ueC p s=0
  ·have e1:fuC p s c k=k (ueV p s):=by rw [fuC,if_pos hc,if_pos hok]
   refine go (r:=?_);and_intros<;>intros<;>try exact True.intro
   all_goals first|(exact absurd hok (by assumption))|skip
   refine K.callT ?_
   refine WpL.callV0 rfl (hg (ueV p s) hv) rfl (.keep rfl rfl (Snap.same rfl hc1 hc2)) (.sc .nil) rfl rfl (by decide) ?_
   by_cases hk0:k (ueV p s)=0
   ·have e2:fuA p s c k=ueA p s:=by rw [fuA,if_pos (by rw [e1,hk0])]
    have e3:fuV p s c k=ueV p s:=by rw [fuV,if_pos (by rw [e1,hk0])]
    refine go (r:=?_);and_intros<;>intros<;>try exact True.intro
    all_goals first|(exact absurd hk0 (by assumption))|(rw [e1];done)|(rw [e2];done)|(rw [e3];done)
   ·have e2:fuA p s c k=s:=by rw [fuA,if_neg (by rw [e1];exact hk0)]
    have e3:fuV p s c k=0:=by rw [fuV,if_neg (by rw [e1];exact hk0)]
    refine go (r:=?_);and_intros<;>intros<;>try exact True.intro
    all_goals first|(exact absurd (by assumption) hk0)|(rw [e1];done)|(rw [e2];done)|(rw [e3];done)
  ·have e1:fuC p s c k=ueC p s:=by rw [fuC,if_pos hc,if_neg hok]
   have e2:fuA p s c k=s:=by rw [fuA,if_neg (by rw [e1];exact hok)]
   have e3:fuV p s c k=0:=by rw [fuV,if_neg (by rw [e1];exact hok)]
   refine go (r:=?_);and_intros<;>intros<;>try exact True.intro
   all_goals first|(exact absurd (by assumption) hok)|(rw [e1];done)|(rw [e2];done)|(rw [e3];done)
 ·have e1:fuC p s c k=c:=by rw [fuC,if_neg hc]
  have e2:fuA p s c k=s:=by rw [fuA,if_neg (by rw [e1];exact hc)]
  have e3:fuV p s c k=0:=by rw [fuV,if_neg (by rw [e1];exact hc)]
  refine go (r:=?_);and_intros<;>intros<;>try exact True.intro
  all_goals first|(exact absurd (by assumption) hc)|(rw [e1];done)|(rw [e2];done)|(rw [e3];done)
end Go.Proofs.YtndflfipaddfoaaGreat


namespace Go.Proofs.YtndflfipaddfoaaGreat
open Go Go.Abs
attribute [local irreducible] WpA WpL Rnd Blk Abs.Seq Abs.Fin Abs.FinG FnC FnG Only
theorem fuV_bd (p:List UInt8) (s c:Int) (k:Int→Int):-1≤fuV p s c k∧fuV p s c k≤4294967296:=by
 have:=ueV_bd p s
 unfold fuV;split<;>omega
theorem fbV_bd (p:List UInt8) (s c n:Int) (k:Int→Int):0≤fbV p s c n k∧fbV p s c n k≤4294967296:=by
 have:=rbV_bd p s n
 unfold fbV;split<;>omega
end Go.Proofs.YtndflfipaddfoaaGreat


namespace Go.Proofs.YtndflfipaddfoaaGreat
open Go Go.Abs
theorem zrW_stop (p:List UInt8) (s:Int):∀(f n:Nat),zrW p s f n=n+f∨btA p (s+(zrW p s f n:Nat))≠0
 |0,n=>.inl rfl
 |f+1,n=>by
  rw [zrW];split
  ·rcases zrW_stop p s f (n+1) with h|h
   ·exact .inl (by omega)
   ·exact .inr h
  ·rename_i h;exact .inr h
theorem zrs_stop (p:List UInt8) (s:Int):(zrs p s:Int)=lft p s∨btA p (s+(zrs p s:Nat))≠0:=by
 have hb:=lft_bd p s
 rcases zrW_stop p s (lft p s).toNat 0 with h|h
 ·exact .inl (by unfold zrs;omega)
 ·exact .inr h
theorem ueV_nn (p:List UInt8) (s:Int):0≤ueV p s:=by
 unfold ueV;split
 ·rename_i h
  by_cases h15:zrs p s≤15
  ·by_cases hok:RbOk p s (2*(zrs p s:Int)+1)
   ·rw [(rb_yes hok).2]
    have hlo:=lft_ok hok.1
    have hst:=zrs_stop p s
    have hbo:=btA_out p (s+(zrs p s:Nat))
    have hbd:=btA_bd p (s+(zrs p s:Nat))
    have hb1:btA p (s+(zrs p s:Nat))=1:=by
     rcases hst with h|h
     ·omega
     ·omega
    have e:=numB_add p s (zrs p s+1) (zrs p s)
    have h1:=numB_bd p (s+((zrs p s+1:Nat):Int)) (zrs p s)
    have h2:=numB_bd p s (zrs p s)
    have h3:numB p s (zrs p s+1)=numB p s (zrs p s)*2+bv p (s+(zrs p s:Nat)):=rfl
    have h4:bv p (s+(zrs p s:Nat))=1:=by unfold bv;omega
    have hp:(0:Int)<2 ^ zrs p s:=by exact_mod_cast Nat.pow_pos (by decide)
    have h5:1*2 ^ zrs p s≤numB p s (zrs p s+1)*2 ^ zrs p s:=Int.mul_le_mul_of_nonneg_right (by omega) (by omega)
    rw [show (2*(zrs p s:Int)+1).toNat=zrs p s+1+zrs p s by omega,e]
    omega
   ·rw [(ue_short h15 hok).2.1] at h;omega
  ·rw [(ue_code (s:=s) (p:=p) h15).2.1] at h;omega
 ·omega
theorem fuV_nn (p:List UInt8) (s c:Int) (k:Int→Int):0≤fuV p s c k:=by
 have:=ueV_nn p s
 unfold fuV;split<;>omega
theorem fuV_lt {p:List UInt8} {s c b e:Int} (he:e≠0) (h:0<b):fuV p s c (fun y=>ifE (y<b) e)<b:=by
 unfold fuV;split
 ·rename_i h1
  unfold fuC at h1
  split at h1
  ·split at h1
   ·by_cases hlt:ueV p s<b
    ·exact hlt
    ·have h1:ifE (ueV p s<b) e=0:=h1
     rw [ifE_no hlt] at h1;exact absurd h1 he
   ·omega
  ·omega
 ·omega
theorem fuV_zero {p:List UInt8} {s c:Int} {k:Int→Int} (h:fuC p s c k≠0):fuV p s c k=0:=by rw [fuV,if_neg h]
abbrev kR (b:Int):Int→Int:=fun y=>ifE (y<b) 5
abbrev kL:Int→Int:=fun y=>ifE (-16383≤lvOf y∧lvOf y≤16383) 5
theorem lvStep_yes {p:List UInt8} {nn:Int} {x:LvS} (hc:x.c=0):lvStep p nn x=
 (if fuC p (fuA p x.a 0 (kR (nn-x.at_))) (fuC p x.a 0 (kR (nn-x.at_))) kL=0 then
  ⟨fuA p (fuA p x.a 0 (kR (nn-x.at_))) (fuC p x.a 0 (kR (nn-x.at_))) kL,fuC p (fuA p x.a 0 (kR (nn-x.at_))) (fuC p x.a 0 (kR (nn-x.at_))) kL,x.at_+fuV p x.a 0 (kR (nn-x.at_))+1,
   x.out.set (x.at_+fuV p x.a 0 (kR (nn-x.at_))).toNat (lvOf (fuV p (fuA p x.a 0 (kR (nn-x.at_))) (fuC p x.a 0 (kR (nn-x.at_))) kL))⟩
 else ⟨fuA p (fuA p x.a 0 (kR (nn-x.at_))) (fuC p x.a 0 (kR (nn-x.at_))) kL,fuC p (fuA p x.a 0 (kR (nn-x.at_))) (fuC p x.a 0 (kR (nn-x.at_))) kL,x.at_+fuV p x.a 0 (kR (nn-x.at_)),x.out⟩):=by
 rw [lvStep,if_pos hc]
theorem lvStep_no {p:List UInt8} {nn:Int} {x:LvS} (hc:x.c≠0):lvStep p nn x=x:=by rw [lvStep,if_neg hc]
theorem fuC_keep {p:List UInt8} {s c:Int} {k:Int→Int} (h:c≠0):fuC p s c k=c:=by rw [fuC,if_neg h]
theorem lvStep_at {p:List UInt8} {nn:Int} {x:LvS} (h:0≤x.at_∧x.at_≤nn):0≤(lvStep p nn x).at_∧(lvStep p nn x).at_≤nn:=by
 by_cases hc:x.c=0
 ·rw [lvStep_yes hc]
  have h1:=fuV_nn p x.a 0 (kR (nn-x.at_))
  by_cases hr:fuC p x.a 0 (kR (nn-x.at_))=0
  ·have h2:fuV p x.a 0 (kR (nn-x.at_))<nn-x.at_:=by
    rcases Int.lt_or_le 0 (nn-x.at_) with hp|hp
    ·exact fuV_lt (by decide) hp
    ·exfalso
     have hv:=ueV_nn p x.a
     unfold fuC at hr
     simp only [if_true] at hr
     split at hr
     ·have hr:ifE (ueV p x.a<nn-x.at_) 5=0:=hr
      rw [ifE_no (by omega)] at hr;cases hr
     ·rename_i hh;exact hh hr
   split
   ·show 0≤x.at_+_+1∧x.at_+_+1≤nn;omega
   ·show 0≤x.at_+_∧x.at_+_≤nn;omega
  ·rw [if_neg (by rw [fuC_keep hr];exact hr)]
   show 0≤x.at_+_∧x.at_+_≤nn
   rw [fuV_zero hr];omega
 ·rw [lvStep_no hc];exact h
theorem lvRun_at {p:List UInt8} {nn:Int} {x:LvS} (h:0≤x.at_∧x.at_≤nn):∀k,0≤(lvRun p nn x k).at_∧(lvRun p nn x k).at_≤nn
 |0=>h
 |k+1=>by rw [lvRun];exact lvStep_at (lvRun_at h k)
theorem lvRun_stop {p:List UInt8} {nn:Int} {x:LvS} {k:Nat} (h:(lvRun p nn x k).c≠0):∀j,k≤j→lvRun p nn x j=lvRun p nn x k
 |0,hj=>by have:k=0:=by omega
           subst this;rfl
 |j+1,hj=>by
  rcases Nat.lt_or_ge j k with h2|h2
  ·have:k=j+1:=by omega
   subst this;rfl
  ·have e:=lvRun_stop h j h2
   rw [lvRun,e,lvStep_no h]
theorem newO_tail (mb:AObj):∀(k:Nat) (R:List AObj),0<k→newO [0] [mb] k R=R
 |_,[],_=>rfl
 |k,ob::R,hk=>by
  rw [newO,newO_tail mb (k+1) R (by omega)]
  have:findN [0] k 0=none:=by
   rw [findN]
   have:Nat.beq 0 k=false:=by cases k with|zero=>omega|succ k=>rfl
   rw [this];rfl
  unfold newOb;rw [this]
theorem split4 {Ov:List AObj} {a b c d:AObj} (h0:Ov[0]?=some a) (h1:Ov[1]?=some b) (h2:Ov[2]?=some c) (h3:Ov[3]?=some d):∃R,Ov=a::b::c::d::R:=by
 match Ov,h3 with
 |a'::b'::c'::d'::R,h3=>simp at h0 h1 h2 h3;exact ⟨R,by rw [h0,h1,h2,h3]⟩
 |[],h=>simp at h
 |[_],h=>simp at h
 |[_,_],h=>simp at h
 |[_,_,_],h=>simp at h
theorem split3 {Ov:List AObj} {b c d:AObj} (hc:4≤Ov.length) (h1:Ov[1]?=some b) (h2:Ov[2]?=some c) (h3:Ov[3]?=some d):∃x R,Ov=x::b::c::d::R:=by
 match Ov,h3 with
 |a'::b'::c'::d'::R,h3=>simp at h1 h2 h3;exact ⟨a',R,by rw [h1,h2,h3]⟩
 |[],h=>simp at h
 |[_],h=>simp at h
 |[_,_],h=>simp at h
 |[_,_,_],h=>simp at h
section
variable {P:Program} {n m:Nat} {G:Ctx} {T:List (Nat×AV)} {R:List AObj} {Q:Exit→St→Prop} {ops:Array Oper} {l:List Oper} {tt:TypeId} {pos:String} {after:Array Edge}
theorem callM1 {f:FuncId} {xs:List Operand} {ats:Array TypeId} {As:List AV} {ob mb0 mb:AObj} {v:Int} {d:Nat} (hc:FnG P f As [mb0] [mb] [] (I v)) (hh:HandM (ob::R) [0] [mb0] (xs.map (av T)) As) (hM:HandO (ob::R) [0] [mb0]) (hsz:mb.size=mb0.size) (hM':Out [mb]) (hn:d<n)
 (h:WpL P n m G false ops l ⟨(d,I v)::T,⟨mb.cells,ob.ep,mb.size,mb.ty⟩::R⟩ Q):
 WpL P n m G false ops ({dst:=some d,op:=.call {callee:=.value (.func f),args:=xs.toArray,argTypes:=ats},type:=tt,pos:=pos,after:=after,guard:=none}::l) ⟨T,ob::R⟩ Q:=by
 refine WpL.op rfl (fun a w hr=>?_) h
 have hcl:=callG_rel hc hh hM (by simp) rfl (fun j x y hx hy=>by
  cases j with
  |zero=>simp at hx hy;subst hx hy;exact hsz
  |succ j=>simp at hx) hM' .nil (r':=I v) rfl hr
 have e:newO [0] [mb] 0 (ob::R)++[]=⟨mb.cells,ob.ep,mb.size,mb.ty⟩::R:=by
  rw [List.append_nil,newO,newO_tail mb 1 R (by omega)];rfl
 rw [e] at hcl
 obtain ⟨⟨fn,hf,hbd,hnm⟩,_⟩:=hc
 have hex:(execOp a.eval {dst:=some d,op:=.call {callee:=.value (.func f),args:=xs.toArray,argTypes:=ats},type:=tt,pos:=pos,after:=after,guard:=none}).run P w=.ok (.enter f (xs.map a.eval).toArray) w:=by
  simp only [execOp,resolve,Act.eval,Deferred.ofValue,invoke,callFunc,Sem.run_bind,Sem.run_pure,Result.andThen_ok,program,Sem.run,hf,hnm,hbd,Bool.false_eq_true,if_false]
  simp
 unfold Oper.wp
 rw [hex]
 refine hcl.mono fun e w' ⟨v,he,S,ι,F,hr',hv⟩=>?_
 subst he
 exact ⟨S,ι,F,hr'.put hn hv⟩
end
attribute [local irreducible] WpA WpL Rnd Blk Abs.Seq Abs.Fin Abs.FinG FnC FnG Only
abbrev k0C:Int→Int:=fun _=>0
theorem lvS_no {p:List UInt8} {s n:Int} (h:fbV p s 0 1 k0C=0):lvS p s n=⟨fbA p s 0 1 k0C,fbC p s 0 1 k0C,0,List.replicate (n*n).toNat 0⟩:=by
 unfold lvS;simp only;rw [if_pos h]
theorem lvS_yes {p:List UInt8} {s n:Int} (h:fbV p s 0 1 k0C≠0):lvS p s n=lvRun p (n*n) ⟨fuA p (fbA p s 0 1 k0C) (fbC p s 0 1 k0C) (kR (n*n)),fuC p (fbA p s 0 1 k0C) (fbC p s 0 1 k0C) (kR (n*n)),0,List.replicate (n*n).toNat 0⟩ (1+fuV p (fbA p s 0 1 k0C) (fbC p s 0 1 k0C) (kR (n*n))).toNat:=by
 unfold lvS;simp only;rw [if_neg h]
theorem lv_room {p:List UInt8} {s nn t:Int} (ht:0≤t∧t≤nn) (h:fuC p s 0 (kR (nn-t))=0):t+fuV p s 0 (kR (nn-t))<nn:=by
 have h2:fuV p s 0 (kR (nn-t))<nn-t:=by
  rcases Int.lt_or_le 0 (nn-t) with hp|hp
  ·exact fuV_lt (by decide) hp
  ·exfalso
   have hv:=ueV_nn p s
   unfold fuC at h
   simp only [if_true] at h
   split at h
   ·have h:ifE (ueV p s<nn-t) 5=0:=h
    rw [ifE_no (by omega)] at h;cases h
   ·rename_i hh;exact hh h
 omega
theorem flv_c (p:List UInt8) (s n:Int) (hl:p.length≤1099511627776) (hn:n=4∨n=8):Gn 131 [.ptr 0 0 0,I n] [FldO p s 0] [FldO p (lvS p s n).a (lvS p s n).c] [XI (lvS p s n).out] (.own 1 0 0 (lvS p s n).out.length):=by
 have hnn:16≤n*n∧n*n≤64:=by rcases hn with rfl|rfl<;>decide
 have hn2:=mul_in (a:=n) (b:=n) (by omega) (by omega)
 generalize hx:lvS p s n=x
 refine FnG.of_bodyF tabOk Tryz.func131 Tryz.ntmps131 rfl (by decide +kernel) (by simp) rfl rfl fun G=>?_
 refine go (r:=?_);and_intros<;>intros<;>try exact True.intro
 refine K.call ?_
 refine WpL.callM (hs:=[0]) (fbits_c p s 0 1 213 [] k0C hl ⟨rfl,rfl,fun x _=>levels1_c.ok x⟩) handA handOA rfl rfl (.cons rfl (.sc (.sc (.sc .nil))) .nil) outA rfl rfl rfl rfl (by decide) ?_
 have b1:=fbV_bd p s 0 1 k0C
 by_cases hv:fbV p s 0 1 k0C=0
 ·rw [lvS_no hv] at hx
  subst hx
  refine go (r:=?_);and_intros<;>intros<;>try exact True.intro
  all_goals first|(exact absurd hv (by assumption))
 ·rw [lvS_yes hv] at hx
  generalize hv1:fbV p s 0 1 k0C=v1 at b1 hv ⊢
  generalize ha1:fbA p s 0 1 k0C=a1 at hx
  generalize hc1:fbC p s 0 1 k0C=c1 at hx
  refine go (r:=?_);and_intros<;>intros<;>try exact True.intro
  all_goals first|(exact absurd (by assumption) hv)|skip
  refine K.call ?_
  refine WpL.callM (hs:=[0]) (fue_c p a1 c1 214 [.iptr [I n] 0] (kR (n*n)) hl ⟨rfl,rfl,fun x _=>levels2_c.ok x n (by omega)⟩) handA handOA rfl rfl (.cons rfl (.sc (.sc (.sc .nil))) .nil) outA rfl rfl rfl rfl (by decide) ?_
  have b2:=fuV_bd p a1 c1 (kR (n*n))
  have b3:=fuV_nn p a1 c1 (kR (n*n))
  generalize hv2:fuV p a1 c1 (kR (n*n))=v2 at b2 b3 hx ⊢
  generalize ha2:fuA p a1 c1 (kR (n*n))=a2 at hx ⊢
  generalize hc2:fuC p a1 c1 (kR (n*n))=c2 at hx ⊢
  have hr0:=lvRun_at (p:=p) (nn:=n*n) (x:=⟨a2,c2,0,List.replicate (n*n).toNat 0⟩) (show (0:Int)≤0∧(0:Int)≤n*n by omega)
  have hln:=lvRun_len p (n*n) ⟨a2,c2,0,List.replicate (n*n).toNat 0⟩
  have hst:∀k,lvRun p (n*n) ⟨a2,c2,0,List.replicate (n*n).toNat 0⟩ (k+1)=lvStep p (n*n) (lvRun p (n*n) ⟨a2,c2,0,List.replicate (n*n).toNat 0⟩ k):=fun _=>rfl
  have hsp:=fun k=>lvRun_stop (p:=p) (nn:=n*n) (x:=⟨a2,c2,0,List.replicate (n*n).toNat 0⟩) (k:=k)
  have hz:lvRun p (n*n) ⟨a2,c2,0,List.replicate (n*n).toNat 0⟩ 0=⟨a2,c2,0,List.replicate (n*n).toNat 0⟩:=rfl
  generalize lvRun p (n*n) ⟨a2,c2,0,List.replicate (n*n).toNat 0⟩=X at hr0 hln hst hsp hz hx
  refine goR (r:=?_);and_intros<;>intros<;>try exact True.intro
  refine WpA.loop (fun k:Nat=>⟨[(0,.ptr 0 0 0),(3,.ptr 1 0 0),(5,.own 2 0 0 (n*n).toNat),(6,.ptr 3 0 0),(7,I (1+v2)),(8,I k)],[FldO p (X k).a (X k).c,⟨[I n],0,0,none⟩,XI (X k).out,⟨[I (X k).at_],0,0,none⟩]⟩) (fun k=>(k:Int)≤1+v2) (fun k=>(1+v2).toNat-k) 0 (by omega) (go (r:=?_)) (fun k hk=>?_)
  ·rw [hz];and_intros<;>first|exact True.intro|rfl
  have hr0:=hr0 k
  have hln:=hln k
  have hst:=hst k
  have hsp:=hsp k
  generalize hy:X k=y at hr0 hln hst hsp ⊢
  have hln:y.out.length=(n*n).toNat:=by simpa using hln
  have hfin:(y.c≠0∨¬(k:Int)<1+v2)→y=x:=by
   rintro (h|h)
   ·rw [←hx,hsp h (1+v2).toNat (by omega)]
   ·have:k=(1+v2).toNat:=by omega
    rw [←hx,←this,hy]
  refine goR (r:=?_);and_intros<;>intros<;>try exact True.intro
  ·have hyc:y.c=0:=by assumption
   have b4:=fuV_bd p y.a y.c (kR (n*n-y.at_))
   have b5:=fuV_nn p y.a y.c (kR (n*n-y.at_))
   have hkb:∀x:Int,-1≤x∧x≤4294967296→Fn 215 (I x::[.iptr [I n] 0,.iptr [I y.at_] 0]) [] (I (kR (n*n-y.at_) x)):=fun x _=>levels3_c.ok x n y.at_ (by omega)
   apply WpA.regionQF (O:=[]) (Or:=[FldO p y.a y.c,⟨[I n],0,0,none⟩,XI y.out,⟨[I y.at_],0,0,none⟩]) (O1:=[FldO p (fuA p y.a y.c (kR (n*n-y.at_))) (fuC p y.a y.c (kR (n*n-y.at_))),⟨[I n],0,0,none⟩,XI y.out,⟨[I y.at_],0,0,none⟩]) 5 0 [1,2,3] rfl mixed (by decide +kernel)
   ·exact rfl
   ·apply HeadQ.consF (V:=I y.at_) .none rfl
    ·exact rfl
    ·intro Tv Ov hc hp hd hk
     obtain ⟨x0,R,rfl⟩:=split3 hc (hk 1 rfl) (hk 2 rfl) (hk 3 rfl)
     exact in0
    ·exact rfl
    ·exact rfl
    apply HeadQ.consF .none rfl
    ·exact rfl
    ·exact in1
    ·exact rfl
    ·exact rfl
    apply HeadQ.consF (V:=.fn 215 [.ptr 1 0 0,.ptr 3 0 0]) .none rfl
    ·exact rfl
    ·exact in1
    ·exact rfl
    ·exact rfl
    apply HeadQ.consF (V:=I (fuV p y.a y.c (kR (n*n-y.at_)))) (.step 0 (FldO p (fuA p y.a y.c (kR (n*n-y.at_))) (fuC p y.a y.c (kR (n*n-y.at_))))) rfl
    ·exact rfl
    ·intro Tv Ov hc hp hd hk
     obtain ⟨R,rfl⟩:=split4 (hp 0 _ rfl) (hk 1 rfl) (hk 2 rfl) (hk 3 rfl)
     refine K.call ?_
     refine callM1 (fue_c p y.a y.c 215 [.iptr [I n] 0,.iptr [I y.at_] 0] (kR (n*n-y.at_)) hl ⟨rfl,rfl,hkb⟩) handA handOA rfl (.cons rfl (.sc (.sc (.sc .nil))) .nil) (by decide) ?_
     exact WpL.nil (Only.mk rfl)
    ·exact rfl
    ·exact rfl
    apply HeadQ.consF .none rfl
    ·exact rfl
    ·exact in1
    ·exact rfl
    ·exact rfl
    exact HeadQ.nil
   ·exact rfl
   ·exact rfl
   ·exact rfl
   ·exact rfl
   ·exact rfl
   ·exact rfl
   ·exact rfl
   generalize hA1:fuA p y.a y.c (kR (n*n-y.at_))=A1
   generalize hC1:fuC p y.a y.c (kR (n*n-y.at_))=C1
   generalize hV1:fuV p y.a y.c (kR (n*n-y.at_))=w1 at b4 b5 ⊢
   rw [hyc] at hA1 hC1 hV1
   have hroom:=lv_room (p:=p) (s:=y.a) hr0
   rw [hC1,hV1] at hroom
   rw [lvStep_yes hyc,hA1,hC1,hV1] at hst
   have hkeep:=fun h=>fuC_keep (p:=p) (s:=A1) (c:=C1) (k:=kL) h
   refine go (r:=?_);and_intros<;>intros<;>try exact True.intro
   refine K.call ?_
   refine WpL.callM (hs:=[0]) (fue_c p A1 C1 217 [] kL hl ⟨rfl,rfl,fun x h=>levels4_c.ok x (by omega)⟩) handA handOA rfl rfl (.cons rfl (.sc (.sc (.sc .nil))) .nil) outA rfl rfl rfl rfl (by decide) ?_
   have b6:=fuV_bd p A1 C1 kL
   by_cases hc2:fuC p A1 C1 kL=0
   ·have h10:C1=0:=by
     by_cases h:C1=0
     ·exact h
     ·exact absurd (hkeep h▸hc2) h
    have hroom:=hroom h10
    rw [if_pos hc2] at hst
    refine go (r:=?_);and_intros<;>intros<;>try exact True.intro
    all_goals first|(exact absurd hc2 (by assumption))|(rw [hst];done)|(rw [hst];rfl)|(rw [hst];simp only;omega)
   ·rw [if_neg hc2] at hst
    refine go (r:=?_);and_intros<;>intros<;>try exact True.intro
    all_goals first|(exact absurd (by assumption) hc2)|(rw [hst];done)|(rw [hst];rfl)
  all_goals first|(obtain rfl:=hfin (by first|exact .inl (by assumption)|exact .inr (by assumption));first|rfl|exact hln.symm)
end Go.Proofs.YtndflfipaddfoaaGreat
