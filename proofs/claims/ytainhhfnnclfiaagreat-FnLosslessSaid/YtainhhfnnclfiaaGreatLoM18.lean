/- Proved in this text: lemmas and contracts of functions that the claim uses (parts: AbsR5, Fr2, EncD, RdP, ParL, Dec, SmF, ScrB, Back2, LosP, EncX, LosX, Bridge, Read, Read2, Read3). No condition. -/
import Derived.Test.YtainhhfnnclfiaaGreatLoM7
import Derived.Test.YtainhhfnnclfiaaGreatLoM17
import Derived.Test.YtainhhfnnclfiaaGreatLoM16
import Derived.Test.YtainhhfnnclfiaaGreatLoM10
import Derived.Test.YtainhhfnnclfiaaGreatLoM15
import Derived.Test.YtainhhfnnclfiaaGreatLoM14
import Derived.Test.YtainhhfnnclfiaaGreatLoM12
import Derived.Test.YtainhhfnnclfiaaGreatLoM2
import Derived.Below
import Derived.ChangeArms
import Derived.Test.YtainhhfnnclfiaaGreatLoM3
import Derived.Test.YtainhhfnnclfiaaGreatLoM9
set_option linter.unusedVariables false
set_option linter.unusedSimpArgs false
set_option maxRecDepth 100000
set_option maxHeartbeats 16000000


namespace Go.Abs
open Go
inductive AllV (tab:List (Nat×Ty)) (T:List (Nat×AV)) (O:List AObj):List ResultVar→List AV→Prop
 |nil:AllV tab T O [] []
 |cons {r V rs Vs}:ResV tab T O r V→AllV tab T O rs Vs→AllV tab T O (r::rs) (V::Vs)
inductive ResW (tab:List (Nat×Ty)) (m:Nat) (N:List AObj) (r:AV):Array ResultVar→St→Prop
 |mk {rs Vs T O ids}:2≤rs.length→AllV tab T O rs Vs→NEx O ids N→(ids.filterMap id).Nodup→preB ids m 0=true→Ex O ids [.tup Vs] [r]→ResW tab m N r rs.toArray ⟨T,O⟩
def FinW (tab:List (Nat×Ty)) (m:Nat) (rs:Array ResultVar) (N:List AObj) (r:AV):Exit→St→Prop
 |.ret,σ=>ResW tab m N r rs σ
 |.normal,σ=>ResW tab m N r rs σ
 |_,_=>False
section
variable {P:Program} {n m:Nat} {G:Ctx} {T:List (Nat×AV)} {O:List AObj} {tab:List (Nat×Ty)}
theorem AllV.rel (hP:TabOk P tab) {S ι F a w} (hr:RelAt n m G S ι F ⟨T,O⟩ a w) {rs:List ResultVar} {Vs:List AV} (h:AllV tab T O rs Vs):∃vs:List Value,vs.length=rs.length∧(rs.mapM (resSem a.tmps)).run P w=.ok vs w∧LRel S w ι O Vs vs []:=by
 induction h with
 |nil=>exact ⟨[],rfl,rfl,.nil⟩
 |cons h1 _ ih=>
  obtain ⟨v,hv,hV⟩:=ResV.rel hP hr h1
  obtain ⟨vs,hl,hm,hV2⟩:=ih
  refine ⟨v::vs,by simp [hl],?_,by simpa using LRel.cons hV hV2⟩
  rw [List.mapM_cons]
  simp only [Sem.run_bind,hv,hm,Result.andThen_ok,Sem.run_pure]
theorem run_resultsW {fn:Func} {tmps:Array Value} {rs:List ResultVar} {vs:List Value} {w:World} (h:fn.results=rs.toArray) (h2:2≤vs.length) (hm:(rs.mapM (resSem tmps)).run P w=.ok vs w):(results fn tmps).run P w=.ok (.tuple vs.toArray) w:=by
 rw [results_eq,h]
 have e:(Array.mapM (resSem tmps) rs.toArray)=(do let l ←rs.mapM (resSem tmps);pure l.toArray):=by
  rw [List.mapM_toArray]
  try rfl
 rw [e]
 simp only [Sem.run_bind,hm,Result.andThen_ok,Sem.run_pure]
 have:¬vs.toArray.size=1:=by simp;omega
 rw [dif_neg this]
theorem ResW.out (hP:TabOk P tab) {rs:Array ResultVar} {N:List AObj} {r:AV} {σ:St} {a:Act} {w:World} {fn:Func} (hn:0<n) (hfr:fn.results=rs) (h:ResW tab m N r rs σ) (hr:Rel n m G σ a w):
 ∃v,(results fn a.tmps).run P w=.ok v w∧∃S' ι F,(∀ b,G.S0 b→S' b)∧(∀ b,S' b→G.S0 b∨G.w0.heap.size≤b)∧(∀ b,S' b→b<w.heap.size)∧(∀ id,id<m→ι id=G.ι0 id)∧ORel S' w ι N F∧
  (∀ id,id<N.length→∀b∈F id,(G.M0 b∨G.w0.heap.size≤b)∧¬S' b∧b<w.heap.size)∧VRel S' w ι N r v []∧Keeps G.w0 G.M0 w:=by
 cases h with
 |@mk rs Vs T O ids h2 hv hN hnd hpre hex=>
  obtain ⟨S,ι,F,hr⟩:=hr
  obtain ⟨vs,hl,hm,hV⟩:=hv.rel hP hr
  have hT:VRel S w ι O (.tup Vs) (.tuple vs.toArray) []:=by simpa using LRel.tup hV .nil
  refine ⟨.tuple vs.toArray,run_resultsW hfr (by omega) hm,?_⟩
  have hr2:Rel n m G ⟨(0,.tup Vs)::T,O⟩ _ w:=⟨S,ι,F,hr.put hn hT⟩
  let fn2:Func:={fn with results:=#[.tmp 0]}
  obtain ⟨v2,hv2,h3⟩:=ResG.out (fn:=fn2) hP rfl (ResG.one (ids:=ids) (ResV.tmp (t:=0) rfl) hN hnd hpre hex) hr2
  have e:v2=.tuple vs.toArray:=by
   have hs:0<a.tmps.size:=by rw [hr.size];exact hn
   have hg:(resSem (a.put (some 0) (.tuple vs.toArray)).tmps (.tmp 0)).run P w=.ok (.tuple vs.toArray) w:=by
    simp [resSem,Act.put,hs]
   have:=run_results1 (P:=P) (fn:=fn2) (r1:=.tmp 0) (w:=w) rfl hg
   rw [this] at hv2
   cases hv2;rfl
  rw [e] at h3
  exact h3
def FinXW (tab:List (Nat×Ty)) (m:Nat) (rs:Array ResultVar) (β:Type) (C:β→Prop) (MN:β→List AObj) (r:β→AV):Exit→St→Prop
 |.ret,σ=>∃y,C y∧ResW tab m (MN y) (r y) rs σ
 |.normal,σ=>∃y,C y∧ResW tab m (MN y) (r y) rs σ
 |_,_=>False
theorem FnX.of_bodyW {pv:List Value} {pa:List AV} {β:Type} {C:β→Prop} {MX NX:β→List AObj} {rX:β→AV} (hP:TabOk P tab) {f:FuncId} {fn:Func} {c:Code} {args:List AV} {M:List AObj} {k:Nat} (hk0:0<k) (hf:P.funcs[f]?=some fn) (hnt:fn.ntmps=k) (hb:fn.body=some c) (hnm:(fn.name== "runtime.NumGoroutine")=false)
 (hal:args.length≤k) (hml:M.length=m) (hps:pa.all AV.still=true) (h:∀G,Pin G pv pa→WpA P k m G c ⟨enumT 0 args,M⟩ (FinXW tab m fn.results β C (fun y=>MX y++NX y) rX)):FnX P f args M pv pa β C MX NX rX:=by
 refine ⟨⟨fn,hf,by rw [hb];rfl,hnm⟩,fun w S ι F vs hS hO hF hl hpin=>?_⟩
 have hvl:vs.length=args.length:=hl.len.symm
 refine calls_of_wp hf hb ?_
 have hrel:Rel k m ⟨w,S,fun b=>∃i,i<M.length∧b∈F i,ι⟩ ⟨enumT 0 args,M⟩ {tmps:=vs.toArray++Array.replicate (fn.ntmps-vs.toArray.size) undef,defers:=[]} w:=by
  refine ⟨S,ι,F,rfl,?_,fun t=>?_,hO,fun id hid b hb=>⟨.inl ⟨id,hid,hb⟩,hF id hid b hb⟩,⟨fun _ h=>h,fun _ h=>.inl h⟩,hS,Keeps.refl _ _,fun _ _=>rfl,by show m≤M.length;omega⟩
  ·simp [hnt];omega
  ·show VRel S w ι M (look (enumT 0 args) t) _ []
   rw [look_enumT]
   simp only [Nat.zero_le,if_true,Nat.sub_zero]
   by_cases ht:t<args.length
   ·obtain ⟨x,g,hx,hV,hg⟩:=hl.get (List.getElem?_eq_getElem ht)
    have hg0:g=[]:=List.eq_nil_iff_forall_not_mem.2 fun b hb=>by simpa using hg b hb
    subst hg0
    have e1:args.getD t .any=args[t]:=by simp [ht]
    have e2:(vs.toArray++Array.replicate (fn.ntmps-vs.toArray.size) undef).getD t undef=x:=by
     have:t<vs.length:=by omega
     rw [List.getElem?_eq_getElem this] at hx
     simp only [Option.some.injEq] at hx
     simp [Array.getD_eq_getD_getElem?,Array.getElem?_append,this,hx]
    rw [e1,e2];exact hV
   ·have e1:args.getD t .any=.any:=by simp [List.getElem?_eq_none (Nat.le_of_not_lt ht)]
    rw [e1];exact .any .nil
 refine wp_mono (h ⟨w,S,fun b=>∃i,i<M.length∧b∈F i,ι⟩ ⟨hpin,hps,fun b hb=>⟨fun ⟨i,hi,hbf⟩=>(hF i hi b hbf).1 hb,hS b hb⟩⟩ _ _ hrel) fun e a' w' ⟨σ',hq,hr'⟩=>?_
 have hdef:a'.defers=[]:=by obtain ⟨_,_,_,h⟩:=hr';exact h.defers
 have key:∀(y:β),C y→∀v S' ι' F',((∀ b,S b→S' b)∧(∀ b,S' b→S b∨w.heap.size≤b)∧(∀ b,S' b→b<w'.heap.size)∧(∀ id,id<m→ι' id=ι id)∧ORel S' w' ι' (MX y++NX y) F'∧
  (∀ id,id<(MX y++NX y).length→∀b∈F' id,((∃ i,i<M.length∧b∈F i)∨w.heap.size≤b)∧¬S' b∧b<w'.heap.size)∧VRel S' w' ι' (MX y++NX y) (rX y) v []∧Keeps w (fun b=>∃i,i<M.length∧b∈F i) w')→
  ∃y,C y∧∃v' S' ι' F',Ending.returned v=.returned v'∧(∀ b,S b→S' b)∧(∀ b,S' b→S b∨w.heap.size≤b)∧(∀ b,S' b→b<w'.heap.size)∧(∀ id,id<M.length→ι' id=ι id)∧ORel S' w' ι' (MX y++NX y) F'∧
  (∀ id,id<(MX y++NX y).length→∀b∈F' id,((∃ i,i<M.length∧b∈F i)∨w.heap.size≤b)∧¬S' b∧b<w'.heap.size)∧VRel S' w' ι' (MX y++NX y) (rX y) v' []∧Keeps w (fun b=>∃i,i<M.length∧b∈F i) w':=
  fun y hy v S' ι' F' ⟨q1,q2,q3,q4,q5⟩=>⟨y,hy,v,S',ι',F',rfl,q1,q2,q3,by rw [hml];exact q4,q5⟩
 cases e with
 |normal=>
  obtain ⟨y,hy,hq⟩:=hq
  obtain ⟨v,hv,S',ι',F',q⟩:=ResW.out hP hk0 rfl hq hr'
  exact ⟨hdef,v,hv,key y hy v S' ι' F' q⟩
 |ret=>
  obtain ⟨y,hy,hq⟩:=hq
  obtain ⟨v,hv,S',ι',F',q⟩:=ResW.out hP hk0 rfl hq hr'
  exact ⟨hdef,v,hv,key y hy v S' ι' F' q⟩
 |_=>exact hq.elim
theorem FnP.of_bodyW (hP:TabOk P tab) {f:FuncId} {fn:Func} {c:Code} {args:List AV} {M M' N MN:List AObj} {pv:List Value} {pa:List AV} {r:AV} {k:Nat} (hk0:0<k) (hf:P.funcs[f]?=some fn) (hnt:fn.ntmps=k) (hb:fn.body=some c) (hnm:(fn.name== "runtime.NumGoroutine")=false)
 (hal:args.length≤k) (hml:cnt M.length 0=some m) (hMN:catF M' N=some MN) (hps:pa.all AV.still=true) (h:∀G,Pin G pv pa→WpA P k m G c ⟨enumT 0 args,M⟩ (FinW tab m fn.results MN r)):FnP P f args M pv pa M' N r:=by
 have:=catF_eq hMN;subst this
 refine FnX.of_bodyW hP hk0 hf hnt hb hnm hal (cnt_eq hml) hps fun G hp=>(h G hp).mono fun e σ hq=>?_
 cases e<;>first|exact ⟨(),trivial,hq⟩|exact hq.elim
theorem FinW.mk {rs:List ResultVar} {Vs:List AV} {N:List AObj} {r:AV} {e:Exit} (ids:List (Option Nat)) (he:endB e=true) (h2:2≤rs.length) (hv:AllV tab T O rs Vs) (hx:Ex O ids [.tup Vs] [r]) (hN:NEx O ids N) (hd:nodupB (ids.filterMap id)=true) (hp:preB ids m 0=true):FinW tab m rs.toArray N r e ⟨T,O⟩:=by
 have h:ResW tab m N r rs.toArray ⟨T,O⟩:=.mk h2 hv hN (nodupB_spec hd) hp hx
 cases e<;>first|exact h|cases he
end
section
variable {P:Program} {n m:Nat} {G:Ctx} {ops:Array Oper} {T0:List (Nat×AV)}
end
end Go.Abs


namespace Go.Proofs.YtainhhfnnclfiaaGreat
open Go Go.Abs
attribute [local irreducible] WpA WpL Rnd Blk Abs.Seq Abs.Fin Abs.FinG FnC FnG FnX FnP FinX Only
attribute [local irreducible] belowD onceD pickD modeD l8D l8AnyD optD anyD seedD headD headAnyD symL HasC blkD lev25D frK frD
attribute [local simp] Abs.setL
abbrev FrSub (k:Nat) (f:Fr3):AV:=.agg [I f.w,I f.h,.own k 0 f.o (f.p.length-f.o)]
instance l18Any_p:ConP 190 (∀ (v:Value) (l:List Int) (c:Cr),CrOk l c→Pn 190 v l c [] (frAnyD l c).1 [XI (frAnyD l c).2.p] (FrSub 1 (frAnyD l c).2)):=⟨fun v l c h=>by
 have ho:=frD_ok h
 have ho1:=ho.1
 have hp1:=ho.2.2.2.1
 have hp2:=ho.2.2.2.2.1
 have hoo:=ho.2.2.2.2.2
 unfold FrSub
 have hs:=belowD_ok 16 ho1
 have hsc:=hs.1
 have hs0:=hs.2.1
 have hs1:=hs.2.2.1 (by decide)
 by_cases h0:(belowD l (frD l c).1 16).2=0
 ·rw [frAnyD_0 h0]
  have hi:=belowD_ok ((frD l c).2.p.length:Int) hsc
  have hi0:=hi.2.1
  have hi1:=hi.2.2.1 (by omega)
  have hic:=hi.1
  rw [List.length_set,hoo,Nat.sub_zero]
  refine FnP.of_body tabOk Tryz.func190 Tryz.ntmps190 rfl (by decide +kernel) (by simp) rfl rfl rfl fun G hp=>?_
  refine goR (r:=?_);and_intros<;>intros<;>try exact True.intro
  all_goals first|contradiction|exact h.2.1|exact h.2.2|exact ho1.2.1|exact ho1.2.2|omega|skip
  apply WpA.regionSF (O:=[]) (Or:=[CurO v (belowD l (frD l c).1 16).1,⟨[I 0,I 0,.nilS],0,0,none⟩,XI (frD l c).2.p,⟨[I (frD l c).2.w,I (frD l c).2.h,.own 2 0 0 (frD l c).2.p.length],0,0,none⟩]) (O1:=[CurO v (pickD l (belowD l (belowD l (frD l c).1 16).1 (frD l c).2.p.length).1 [-1,256]).1,⟨[I 0,I 0,.nilS],0,0,none⟩,XI (frD l c).2.p,⟨[I (frD l c).2.w,I (frD l c).2.h,.own 2 0 0 (frD l c).2.p.length],0,0,none⟩,⟨ints [-1,256],1,1,some 3⟩,deadO]) 10 1 [2,3] [0] rfl mixed (by decide +kernel)
  ·exact rfl
  ·apply HeadS.consF .none rfl
   ·exact rfl
   ·exact rfl
   ·intro Tv Ov hc hp' hd hk
    obtain ⟨x0,x1,x2,R,rfl⟩:=Abs.split4 (hk 3 rfl)
    exact in1
   ·exact rfl
   ·exact rfl
   apply HeadS.consF .none rfl
   ·exact rfl
   ·exact rfl
   ·intro Tv Ov hc hp' hd hk
    obtain ⟨x0,x1,x2,R,rfl⟩:=Abs.split4 (hk 3 rfl)
    exact in1
   ·exact rfl
   ·exact rfl
   apply HeadS.consF .none rfl
   ·exact rfl
   ·exact rfl
   ·exact in1
   ·exact rfl
   ·exact rfl
   apply HeadS.consF .none rfl
   ·exact rfl
   ·exact rfl
   ·intro Tv Ov hc hp' hd hk
    obtain ⟨x0,x1,x2,R,rfl⟩:=Abs.split4 (hk 3 rfl)
    exact in1
   ·exact rfl
   ·exact rfl
   apply HeadS.consF .none rfl
   ·exact rfl
   ·exact rfl
   ·intro Tv Ov hc hp' hd hk
    obtain ⟨x0,x1,x2,R,rfl⟩:=Abs.split4 (hk 3 rfl)
    exact in1
   ·exact rfl
   ·exact rfl
   apply HeadS.consF .none rfl
   ·exact rfl
   ·exact rfl
   ·intro Tv Ov hc hp' hd hk
    obtain ⟨A0,A1,R0,rfl⟩:=Abs.split3 (hk 2 rfl)
    exact in1
   ·exact rfl
   ·exact rfl
   apply HeadS.consF (V:=I (belowD l (belowD l (frD l c).1 16).1 (frD l c).2.p.length).2) (.step 0 (CurO v (belowD l (belowD l (frD l c).1 16).1 (frD l c).2.p.length).1)) rfl
   ·exact rfl
   ·exact rfl
   ·intro Tv Ov hc hp' hd hk
    obtain ⟨R,rfl⟩:=split1 (hp' 0 _ rfl)
    refine K.call ?_
    refine K.conP (fun hcon=>?_)
    refine WpL.callP1 (hcon v l (belowD l (frD l c).1 16).1 (frD l c).2.p.length hsc) hp handA handOA rfl (.cons rfl (.sc (.sc (.sc .nil))) .nil) (by decide) ?_
    exact WpL.nil (Only.mk rfl)
   ·exact rfl
   ·exact rfl
   apply HeadS.consF .none rfl
   ·exact rfl
   ·exact rfl
   ·exact in1
   ·exact rfl
   ·exact rfl
   apply HeadS.consF (V:=.own 4 1 0 2) (.put 4 (⟨ints [-1,256],1,1,some 3⟩)) rfl
   ·exact rfl
   ·exact rfl
   ·intro Tv Ov hc hp' hd hk
    refine WpL.litInts tabOk rfl rfl rfl rfl rfl (by decide) (by rw [nid_len,Nat.zero_add]) (by decide) ?_
    apply WpL.putNil (p:=4)
    ·exact hp' 4 _ rfl
    ·exact Nat.le_of_ble_eq_true rfl
    ·exact rfl
    ·first|exact still_ints _|exact still_rows (fun _=>rfl) _|rfl
   ·exact rfl
   ·exact rfl
   apply HeadS.consF (V:=I (pickD l (belowD l (belowD l (frD l c).1 16).1 (frD l c).2.p.length).1 [-1,256]).2) (.step 0 (CurO v (pickD l (belowD l (belowD l (frD l c).1 16).1 (frD l c).2.p.length).1 [-1,256]).1)) rfl
   ·exact rfl
   ·exact rfl
   ·intro Tv Ov hc hp' hd hk
    obtain ⟨a1,a2,a3,R,rfl⟩:=split04 (hp' 0 _ rfl) (hd 8 _ 4 _ (by decide) rfl rfl rfl)
    refine K.call ?_
    refine K.conP (fun hcon=>?_)
    refine WpL.callP1 (hcon v l (belowD l (belowD l (frD l c).1 16).1 (frD l c).2.p.length).1 [-1,256] ⟨hic,by decide,by decide⟩) hp handA handOA rfl (.cons rfl (.sc (.sc (.sc .nil))) .nil) (by decide) ?_
    exact WpL.nil (Only.mk rfl)
   ·exact rfl
   ·exact rfl
   exact HeadS.nil
  ·exact rfl
  ·exact rfl
  ·exact rfl
  ·exact rfl
  ·exact rfl
  ·exact rfl
  ·exact rfl
  refine go (r:=?_);and_intros<;>intros<;>try exact True.intro
  all_goals first|contradiction|omega
 by_cases h1:(belowD l (frD l c).1 16).2=1
 ·rw [frAnyD_1 h1,hoo,Nat.sub_zero]
  have hw:=ho.2.1
  refine FnP.of_body tabOk Tryz.func190 Tryz.ntmps190 rfl (by decide +kernel) (by simp) rfl rfl rfl fun G hp=>?_
  refine go (r:=?_);and_intros<;>intros<;>try exact True.intro
  all_goals first|contradiction|exact h.2.1|exact h.2.2|exact ho1.2.1|exact ho1.2.2|exact hsc.2.1|exact hsc.2.2|omega|(simp [Abs.setL];done)|(simp;done)
 by_cases h2:(belowD l (frD l c).1 16).2=2
 ·rw [frAnyD_2 h2]
  refine FnP.of_body tabOk Tryz.func190 Tryz.ntmps190 rfl (by decide +kernel) (by simp) rfl rfl rfl fun G hp=>?_
  refine go (r:=?_);and_intros<;>intros<;>try exact True.intro
  all_goals first|contradiction|exact h.2.1|exact h.2.2|exact ho1.2.1|exact ho1.2.2|omega|skip
  refine K.sl ?_
  refine subOwnLo (j:=1) (off:=1) tabOk rfl rfl rfl rfl rfl rfl (by omega) rfl (by decide) ?_
  refine go (r:=?_);and_intros<;>intros<;>try exact True.intro
  all_goals first|contradiction|omega
 ·rw [frAnyD_3 h0 h1 h2,hoo,Nat.sub_zero]
  refine FnP.of_body tabOk Tryz.func190 Tryz.ntmps190 rfl (by decide +kernel) (by simp) rfl rfl rfl fun G hp=>?_
  refine go (r:=?_);and_intros<;>intros<;>try exact True.intro
  all_goals first|contradiction|exact h.2.1|exact h.2.2|exact ho1.2.1|exact ho1.2.2|omega⟩
section
attribute [local irreducible] frAnyD
end
end Go.Proofs.YtainhhfnnclfiaaGreat


namespace Go.Proofs.YtainhhfnnclfiaaGreat
open Go Go.Abs
attribute [local irreducible] WpA WpL Rnd Blk Abs.Seq Abs.Fin Abs.FinG FnC FnG FnX FnP FinX Only
attribute [local irreducible] belowD onceD pickD modeD l8D l8AnyD optD anyD seedD frD frAnyD
def clipK (p:List Int):Nat→List Int
 |0=>List.replicate 128 0
 |k+1=>(clipK p k).set k (max 0 (min 255 (p.getD k 0)))
theorem clipK_len (p:List Int):∀k,(clipK p k).length=128
 |0=>by simp [clipK]
 |k+1=>by rw [clipK,List.length_set];exact clipK_len p k
theorem clipK_0 (p:List Int):clipK p 0=List.replicate 128 0:=rfl
theorem clipK_s (p:List Int) (k:Nat):clipK p (k+1)=(clipK p k).set k (max 0 (min 255 (p.getD k 0))):=rfl
def smallD (l:List Int) (c:Cr):Cr×Fr3:=
 if (frAnyD l c).2.w*(frAnyD l c).2.h>256 then ((frAnyD l c).1,⟨16,8,clipK ((frAnyD l c).2.p.drop (frAnyD l c).2.o) (min 128 ((frAnyD l c).2.p.length-(frAnyD l c).2.o)),0⟩) else frAnyD l c
theorem smallD_1 {l:List Int} {c:Cr} (h:(frAnyD l c).2.w*(frAnyD l c).2.h>256):smallD l c=((frAnyD l c).1,⟨16,8,clipK ((frAnyD l c).2.p.drop (frAnyD l c).2.o) (min 128 ((frAnyD l c).2.p.length-(frAnyD l c).2.o)),0⟩):=if_pos h
theorem smallD_0 {l:List Int} {c:Cr} (h:¬(frAnyD l c).2.w*(frAnyD l c).2.h>256):smallD l c=frAnyD l c:=if_neg h
theorem smallD_ok {l:List Int} {c:Cr} (h:CrOk l c):CrOk l (smallD l c).1∧(smallD l c).2.p.length≤384∧(smallD l c).2.o≤(smallD l c).2.p.length:=by
 have hf:=frAnyD_ok h
 by_cases hc:(frAnyD l c).2.w*(frAnyD l c).2.h>256
 ·rw [smallD_1 hc]
  exact ⟨hf.1,by show (clipK _ _).length≤384;rw [clipK_len];decide,Nat.zero_le _⟩
 ·rw [smallD_0 hc];exact ⟨hf.1,hf.2.2.2.1,hf.2.2.2.2⟩
attribute [local irreducible] clipK
instance l27Small_p:ConP 127 (∀ (v:Value) (l:List Int) (c:Cr),CrOk l c→Pn 127 v l c [] (smallD l c).1 [XI (smallD l c).2.p] (FrSub 1 (smallD l c).2)):=⟨fun v l c h=>by
 have hf:=frAnyD_ok h
 by_cases hc:(frAnyD l c).2.w*(frAnyD l c).2.h>256
 ·rw [smallD_1 hc]
  have hc1:=hf.1
  have hm:-9223372036854775808≤(frAnyD l c).2.w*(frAnyD l c).2.h∧(frAnyD l c).2.w*(frAnyD l c).2.h≤9223372036854775807:=mul_in (by omega) (by omega)
  have hkl:=clipK_len ((frAnyD l c).2.p.drop (frAnyD l c).2.o)
  have hk0:=clipK_0 ((frAnyD l c).2.p.drop (frAnyD l c).2.o)
  have hks:=clipK_s ((frAnyD l c).2.p.drop (frAnyD l c).2.o)
  generalize clipK ((frAnyD l c).2.p.drop (frAnyD l c).2.o)=cl at*
  have h128:=hkl (min 128 ((frAnyD l c).2.p.length-(frAnyD l c).2.o))
  refine FnP.of_body tabOk Tryz.func127 Tryz.ntmps127 rfl (by decide +kernel) (by simp) rfl rfl rfl fun G hp=>?_
  refine goR (r:=?_);and_intros<;>intros<;>try exact True.intro
  all_goals first|contradiction|exact h.2.1|exact h.2.2|exact hc1.2.1|exact hc1.2.2|omega|skip
  have hgd:∀k,(((frAnyD l c).2.p.drop (frAnyD l c).2.o).getD k 0)=(frAnyD l c).2.p.getD ((frAnyD l c).2.o+k) 0:=fun k=>by
   rw [List.getD_eq_getElem?_getD,List.getElem?_drop,←List.getD_eq_getElem?_getD]
  generalize (frAnyD l c).2.p=fp at*
  generalize (frAnyD l c).2.o=fo at*
  generalize (frAnyD l c).2.w=fw at*
  generalize (frAnyD l c).2.h=fh at*
  generalize (frAnyD l c).1=c1 at*
  clear hp
  refine WpA.loop (fun k:Nat=>⟨[(2,.ptr 1 0 0),(3,.ptr 3 0 0),(4,.ptr 5 0 0),(5,I k)],[CurO v c1,⟨[I 0,I 0,.nilS],0,0,none⟩,XI fp,⟨[I fw,I fh,.own 2 0 fo (fp.length-fo)],0,0,none⟩,XI (cl k),⟨[I 16,I 8,.own 4 0 0 128],0,0,none⟩]⟩) (fun k=>k≤128∧k≤fp.length-fo) (fun k=>128-k) 0 ⟨by omega,by omega⟩ (go (r:=?_)) (fun k hk=>?_)
  ·rw [hk0];and_intros<;>first|exact True.intro|rfl
  have hlk:=hkl k
  have hsk:=hks k
  have hgk:=hgd k
  by_cases h1:k<128
  ·by_cases h2:k<fp.length-fo
   ·refine goR (r:=?_);and_intros<;>intros<;>try exact True.intro
    all_goals first|contradiction|omega|skip
    try dsimp only [List.append,List.cons_append,List.nil_append]
    apply WpA.regionMG 9 mixed (by decide +kernel)
    ·exact rfl
    ·exact headG
    ·exact trueA
    ·exact trueA
    ·exact rfl
    ·exact rfl
    refine goR (r:=?_);and_intros<;>intros<;>try exact True.intro
    all_goals first|contradiction|omega|(rw [hsk,hgk];simp only [Int.toNat_natCast,Nat.mul_one];done)
   ·have e:min 128 (fp.length-fo)=k:=by omega
    rw [e]
    refine goR (r:=?_);and_intros<;>intros<;>try exact True.intro
    all_goals first|contradiction|omega
  ·have e:min 128 (fp.length-fo)=k:=by omega
   rw [e]
   refine goR (r:=?_);and_intros<;>intros<;>try exact True.intro
   all_goals first|contradiction|omega
 ·rw [smallD_0 hc]
  have hc1:=hf.1
  have hm:-9223372036854775808≤(frAnyD l c).2.w*(frAnyD l c).2.h∧(frAnyD l c).2.w*(frAnyD l c).2.h≤9223372036854775807:=mul_in (by omega) (by omega)
  refine FnP.of_body tabOk Tryz.func127 Tryz.ntmps127 rfl (by decide +kernel) (by simp) rfl rfl rfl fun G hp=>?_
  refine go (r:=?_);and_intros<;>intros<;>try exact True.intro
  all_goals first|contradiction|exact h.2.1|exact h.2.2|exact hc1.2.1|exact hc1.2.2|omega⟩
theorem DrawEncodeStream_p (v:Value) (l:List Int) (hl:l.length≤1048576):FnP Tryz.prog 65 [.sc v] [] [v] [CodA l] [] [XI (smallD l (newD l)).2.p,XI (anyD l (smallD l (newD l)).1).2.lens,XI (anyD l (smallD l (newD l)).1).2.ms,⟨bools (anyD l (smallD l (newD l)).1).2.es,0,1,some 4⟩] (.tup [FrSub 0 (smallD l (newD l)).2,OpOwn (anyD l (smallD l (newD l)).1).2]):=by
 have hn:=newD_ok hl
 have hs:=smallD_ok hn
 have ha:=anyD_ok hs.1
 refine FnP.of_bodyW tabOk (by decide) Tryz.func65 Tryz.ntmps65 rfl (by decide +kernel) (by simp) rfl rfl rfl fun G hp=>?_
 refine goR (r:=?_);and_intros<;>intros<;>try exact True.intro
 refine K.call ?_
 refine WpL.callN (l1New_p v l hl) hp handA (.cons rfl (.sc (.sc (.sc .nil))) .nil) rfl rfl (by decide) ?_
 refine goR (r:=?_);and_intros<;>intros<;>try exact True.intro
 all_goals first|contradiction|exact hn.2.1|exact hn.2.2|omega|skip
 try dsimp only [List.append,List.cons_append,List.nil_append]
 apply WpA.regionGB 5 mixed (by decide +kernel)
 ·exact rfl
 ·apply HeadG.hole4 rfl rfl rfl
  ·exact rfl
  ·exact in0
  ·exact rfl
  apply HeadG.preF 0 rfl rfl rfl
  ·exact rfl
  ·exact in0
  ·exact rfl
  apply HeadG.stepF rfl rfl
  ·exact rfl
  ·intro Tv
   refine K.call ?_
   refine K.conP (fun hcon=>?_)
   refine WpL.callP (hs:=[2]) (hcon v l (smallD l (newD l)).1 hs.1) (by assumption) handA handOA rfl rfl (.cons rfl (.sc (.sc (.sc .nil))) .nil) outA rfl rfl rfl rfl (by decide) ?_
   exact WpL.nil (Only.mk rfl)
  ·exact rfl
  apply HeadG.stepNF rfl
  ·exact rfl
  ·exact in1
  ·exact rfl
  apply HeadG.stepNF rfl
  ·exact rfl
  ·exact in1
  ·exact rfl
  exact Abs.HeadG.nil
 ·exact trueA
 ·exact trueA
 ·exact trueA
 ·exact demA
 ·exact rfl
 ·exact rfl
 refine goR (r:=?_);and_intros<;>intros<;>try exact True.intro
 all_goals first|contradiction|exact hn.2.1|exact hn.2.2|omega|skip
 exact FinW.mk (rs:=[_,_]) [some 3,some 5,some 6,some 7] rfl (by decide) (.cons (ResV.cell (ds:=[_,_,_]) rfl rfl rfl rfl rfl) (.cons (ResV.cell (ds:=[_,_,_,_,_,_]) rfl rfl rfl rfl rfl) .nil)) (.tup (.agg (.keep rfl rfl rfl (.keep rfl rfl rfl (.own rfl rfl rfl rfl .nil))) (.agg (.keep rfl rfl rfl (.keep rfl rfl rfl (.keep rfl rfl rfl (.own rfl rfl rfl rfl (.own rfl rfl rfl rfl (.own rfl rfl rfl rfl .nil)))))) .nil)) .nil) (.obj rfl rfl (still_ints _) rfl rfl (.inr rfl) (.obj rfl rfl (still_ints _) rfl rfl (.inr rfl) (.obj rfl rfl (still_ints _) rfl rfl (.inr rfl) (.obj rfl rfl (still_bools _) rfl rfl (.inr rfl) .nil)))) rfl rfl
theorem DrawEncode_p (v:Value) (l:List Int) (hl:l.length≤1048576):FnP Tryz.prog 21 [.sc v] [] [v] [CodA l] [] [XI (smallD l (newD l)).2.p,XI (anyD l (smallD l (newD l)).1).2.lens,XI (anyD l (smallD l (newD l)).1).2.ms,⟨bools (anyD l (smallD l (newD l)).1).2.es,0,1,some 4⟩] (.tup [FrSub 0 (smallD l (newD l)).2,OpOwn (anyD l (smallD l (newD l)).1).2]):=by
 have hd:=DrawEncodeStream_p v l hl
 refine FnP.of_bodyW tabOk (by decide) Tryz.func21 Tryz.ntmps21 rfl (by decide +kernel) (by simp) rfl rfl rfl fun G hp=>?_
 refine goR (r:=?_);and_intros<;>intros<;>try exact True.intro
 refine K.call ?_
 refine WpL.callP (hs:=[]) hd (by assumption) handA handOA rfl rfl .nil outA rfl rfl rfl rfl (by decide) ?_
 refine goR (r:=?_);and_intros<;>intros<;>try exact True.intro
 all_goals first|contradiction|omega|skip
 exact FinW.mk (rs:=[_,_]) [some 2,some 3,some 4,some 5] rfl (by decide) (.cons (ResV.cell (ds:=[_,_,_]) rfl rfl rfl rfl rfl) (.cons (ResV.cell (ds:=[_,_,_,_,_,_]) rfl rfl rfl rfl rfl) .nil)) (.tup (.agg (.keep rfl rfl rfl (.keep rfl rfl rfl (.own rfl rfl rfl rfl .nil))) (.agg (.keep rfl rfl rfl (.keep rfl rfl rfl (.keep rfl rfl rfl (.own rfl rfl rfl rfl (.own rfl rfl rfl rfl (.own rfl rfl rfl rfl .nil)))))) .nil)) .nil) (.obj rfl rfl (still_ints _) rfl rfl (.inr rfl) (.obj rfl rfl (still_ints _) rfl rfl (.inr rfl) (.obj rfl rfl (still_ints _) rfl rfl (.inr rfl) (.obj rfl rfl (still_bools _) rfl rfl (.inr rfl) .nil)))) rfl rfl
abbrev dsF (l:List Int):Fr3:=(smallD l (newD l)).2
abbrev dsP (l:List Int):List Int:=(dsF l).p.drop (dsF l).o
abbrev dsO (l:List Int):Op6:=(anyD l (smallD l (newD l)).1).2
theorem DrawEncode_z (l:List Int) (hl:l.length≤1048576):Fn 21 [CodA l] [] (.tup [FrA (dsF l).w (dsF l).h (dsP l),OpA (dsO l).q (dsO l).b (dsO l).d (dsO l).lens (dsO l).ms (dsO l).es]):=
 FnC.stillT (FnC.of_pin fun v=>DrawEncode_p v l hl) (.agg (.keep rfl rfl (.keep rfl rfl (.ownO rfl rfl rfl (ds:=ints (dsP l)) (by simp [ints,List.map_drop]) (by simp) (by simp) (Snap.same rfl (still_ints _) (nofre_ints _)) .nil))) (.agg (.keep rfl rfl (.keep rfl rfl (.keep rfl rfl (.own rfl rfl rfl (by simp) rfl (Snap.same rfl (still_ints _) (nofre_ints _)) (.own rfl rfl rfl (by simp) rfl (Snap.same rfl (still_ints _) (nofre_ints _)) (.own rfl rfl rfl (by simp) rfl (Snap.same rfl (still_bools _) (nofre_bools _)) .nil)))))) .nil))
end Go.Proofs.YtainhhfnnclfiaaGreat


namespace Go.Proofs.YtainhhfnnclfiaaGreat
open Go Go.Abs
attribute [local irreducible] WpA WpL Rnd Blk Abs.Seq Abs.Fin Abs.FinG FnC FnG Only
theorem hdSL_len (x:HdS):x.L.length≤6:=by
 unfold HdS.L;split
 ·exact Nat.le_refl 6
 ·exact Nat.zero_le _
abbrev StV (x:PrS):AV:=.agg [I x.W,I x.H,I x.Q,B x.B,B x.D,.own 0 0 0 x.L.length,.own 1 0 0 x.ms.length]
def PrN (a c:Int):PrS:=⟨0,0,0,false,false,[],[],a,c⟩
theorem prS_1 {p:List UInt8} (h:(hdS p 0).c≠0):prS p=PrN (hdS p 0).a (hdS p 0).c:=by unfold prS;simp only;rw [if_neg h];rfl
theorem prS_2 {p:List UInt8} (h:(hdS p 0).c=0) (h2:(stRun p (hdS p 0).a (hdS p 0).L (cntM (hdS p 0).W (hdS p 0).H).toNat).c≠0):prS p=PrN (stRun p (hdS p 0).a (hdS p 0).L (cntM (hdS p 0).W (hdS p 0).H).toNat).a (stRun p (hdS p 0).a (hdS p 0).L (cntM (hdS p 0).W (hdS p 0).H).toNat).c:=by
 unfold prS;simp only;rw [if_pos h,if_neg h2];rfl
theorem prS_3 {p:List UInt8} (h:(hdS p 0).c=0) (h2:(stRun p (hdS p 0).a (hdS p 0).L (cntM (hdS p 0).W (hdS p 0).H).toNat).c=0) (h3:endC p (stRun p (hdS p 0).a (hdS p 0).L (cntM (hdS p 0).W (hdS p 0).H).toNat).a≠0):prS p=PrN (stRun p (hdS p 0).a (hdS p 0).L (cntM (hdS p 0).W (hdS p 0).H).toNat).a (endC p (stRun p (hdS p 0).a (hdS p 0).L (cntM (hdS p 0).W (hdS p 0).H).toNat).a):=by
 unfold prS;simp only;rw [if_pos h,if_pos h2,if_neg h3];rfl
theorem prS_4 {p:List UInt8} (h:(hdS p 0).c=0) (h2:(stRun p (hdS p 0).a (hdS p 0).L (cntM (hdS p 0).W (hdS p 0).H).toNat).c=0) (h3:endC p (stRun p (hdS p 0).a (hdS p 0).L (cntM (hdS p 0).W (hdS p 0).H).toNat).a=0):prS p=⟨(hdS p 0).W,(hdS p 0).H,(hdS p 0).Q,(hdS p 0).B,(hdS p 0).D,(hdS p 0).L,(stRun p (hdS p 0).a (hdS p 0).L (cntM (hdS p 0).W (hdS p 0).H).toNat).ms,(stRun p (hdS p 0).a (hdS p 0).L (cntM (hdS p 0).W (hdS p 0).H).toNat).a,0⟩:=by
 unfold prS;simp only;rw [if_pos h,if_pos h2,if_pos h3]
theorem stRun_next {p:List UInt8} {s:Int} {lens:List Int} {k:Nat} (h:(stRun p s lens k).c=0) (hb:(mbS p (stRun p s lens k).a lens).1.c=0):stRun p s lens (k+1)=⟨(mbS p (stRun p s lens k).a lens).1.a,0,(stRun p s lens k).ms++[((mbS p (stRun p s lens k).a lens).2,(mbS p (stRun p s lens k).a lens).1.bs)]⟩:=by
 rw [stRun];simp only;rw [if_pos h,if_pos hb]
theorem stRun_bad {p:List UInt8} {s:Int} {lens:List Int} {k:Nat} (h:(stRun p s lens k).c=0) (hb:(mbS p (stRun p s lens k).a lens).1.c≠0):∀j,k<j→stRun p s lens j=⟨(mbS p (stRun p s lens k).a lens).1.a,(mbS p (stRun p s lens k).a lens).1.c,[]⟩:=by
 intro j hj
 have e:stRun p s lens (k+1)=⟨(mbS p (stRun p s lens k).a lens).1.a,(mbS p (stRun p s lens k).a lens).1.c,[]⟩:=by
  rw [stRun];simp only;rw [if_pos h,if_neg hb]
 rw [stRun_stop (k:=k+1) (by rw [e];exact hb) j hj,e]
section
attribute [local irreducible] hdS stRun mbS endC cntM
instance Parse_c:Con 75 (∀ (p:List UInt8),p.length≤1099511627776→Fn 75 [Z p] [XI (prS p).L,MbO (prS p).ms] (.tup [StV (prS p),I (prS p).a,I (prS p).c])):=⟨fun p hl=>by
 have hr0:RdOk p 0:=⟨by omega,by omega⟩
 have hok:=hdS_ok hr0
 refine FnC.of_body tabOk Tryz.func75 Tryz.ntmps75 rfl (by decide +kernel) (by simp) fun G=>?_
 by_cases hc:(hdS p 0).c=0
 ·have hs:=hdS_sides hc
  have hL:=hdSL_len (hdS p 0)
  have e2:=prS_2 hc
  have e3:=prS_3 hc
  have e4:=prS_4 hc
  have hbd:=cntM_bd hs
  refine go (r:=?_);and_intros<;>intros<;>try exact True.intro
  all_goals first|contradiction|skip
  generalize hx:hdS p 0=x at hc hs hL e2 e3 e4 hbd hok ⊢
  have hz:stRun p x.a x.L 0=⟨x.a,0,[]⟩:=by rw [stRun]
  have hln:=fun k h=>stRun_len p x.a x.L k h
  have hok:=fun k=>stRun_ok (lens:=x.L) hok k
  have hnx:=fun k h hb=>stRun_next (p:=p) (s:=x.a) (lens:=x.L) (k:=k) h hb
  have hbd2:=fun k h hb j hj=>stRun_bad (p:=p) (s:=x.a) (lens:=x.L) (k:=k) h hb j hj
  generalize hN:cntM x.W x.H=N at hbd e2 e3 e4 ⊢
  generalize stRun p x.a x.L=X at hz hln hnx hbd2 hok e2 e3 e4 ⊢
  refine WpA.loop (fun k:Nat=>⟨[(2,.ptr 0 0 0),(5,.ptr 2 0 0),(6,.ptr 3 0 0),(8,.ptr 4 0 0),(29,I N),(30,I k)],[⟨[I 0,I 0,I 0,B false,B false,.nilS,.nilS],0,0,none⟩,XI x.L,⟨[Z p,I (X k).a],0,0,none⟩,⟨[I x.W,I x.H,I x.Q,B x.B,B x.D,.own 1 0 0 x.L.length],0,0,none⟩,⟨[I x.W,I x.H,I x.Q,B x.B,B x.D,.own 1 0 0 x.L.length,.own 5 0 0 k],0,0,none⟩,MbO (X k).ms]⟩) (fun k=>(k:Int)≤N∧(X k).c=0) (fun k=>N.toNat-k) 0 (by rw [hz];exact ⟨by omega,rfl⟩) ?_ (fun k hk=>?_)
  ·rw [hz];exact Weak.nil1 (by first|(show 0≤_;exact Nat.zero_le _)|(repeat' (first|exact RzT.nil|refine RzT.cons ?_ ?_|exact Rz.nil|refine Rz.keep rfl rfl ?_|refine Rz.own rfl rfl rfl rfl rfl (by first|rfl|omega|(simp;done)) ?_|refine Rz.ptr rfl rfl rfl rfl ?_|refine Rz.nilO rfl rfl rfl (by first|rfl|omega|(simp;done)) ?_|refine Rz.agg ?_ ?_|exact RzO.last rfl|(refine RzO.cons ?_ (.inr rfl) ?_)|exact Rz.same rfl (still_ints _)|exact Rz.same rfl (still_rows (fun _=>rfl) _)))) (by first|(show 0≤_;exact Nat.zero_le _)|(repeat' (first|exact RzT.nil|refine RzT.cons ?_ ?_|exact Rz.nil|refine Rz.keep rfl rfl ?_|refine Rz.own rfl rfl rfl rfl rfl (by first|rfl|omega|(simp;done)) ?_|refine Rz.ptr rfl rfl rfl rfl ?_|refine Rz.nilO rfl rfl rfl (by first|rfl|omega|(simp;done)) ?_|refine Rz.agg ?_ ?_|exact RzO.last rfl|(refine RzO.cons ?_ (.inr rfl) ?_)|exact Rz.same rfl (still_ints _)|exact Rz.same rfl (still_rows (fun _=>rfl) _)))) (Nat.zero_le _)
  have hln:=hln k hk.2
  have hnx:=hnx k hk.2
  have hbd2:=hbd2 k hk.2
  have hok:=hok k
  have hfin:¬(k:Int)<N→X N.toNat=X k:=fun h=>by rw [show N.toNat=k by omega]
  generalize hy:X k=y at hk hln hnx hbd2 hfin hok ⊢
  have hln:y.ms.length=k:=hln
  by_cases hlt:(k:Int)<N
  ·by_cases hb:(mbS p y.a x.L).1.c=0
   ·have hnx:=hnx hb
    clear hbd2 e2 e3 e4
    refine go (r:=?_);and_intros<;>intros<;>try exact True.intro
    all_goals first|contradiction|(rw [hnx];done)
   ·have hbd2:=hbd2 hb
    have e:=hbd2 N.toNat (by omega)
    rw [e2 (by rw [e];exact hb),e]
    clear hnx hbd2 e2 e3 e4
    refine go (r:=?_);and_intros<;>intros<;>try exact True.intro
    all_goals first|contradiction
  ·have hfin:=hfin hlt
   have hc2:(X N.toNat).c=0:=by rw [hfin];exact hk.2
   by_cases he:endC p y.a=0
   ·rw [e4 hc2 (by rw [hfin];exact he),hfin]
    clear e2 e3 e4 hnx hbd2
    refine go (r:=?_);and_intros<;>intros<;>try exact True.intro
    all_goals first|contradiction|exact hok
   ·rw [e3 hc2 (by rw [hfin];exact he),hfin]
    clear e2 e3 e4 hnx hbd2
    refine go (r:=?_);and_intros<;>intros<;>try exact True.intro
    all_goals first|contradiction|exact hok
 ·rw [prS_1 hc]
  refine goR (r:=?_);and_intros<;>intros<;>try exact True.intro
  refine WpA.weak (σ':=⟨[(2,.ptr 0 0 0),(5,.ptr 2 0 0),(7,I (hdS p 0).c)],[⟨[I 0,I 0,I 0,B false,B false,.nilS,.nilS],0,0,none⟩,XI (hdS p 0).L,⟨[Z p,I (hdS p 0).a],0,0,none⟩]⟩) (Weak.mk (by repeat (first|exact ReT.nil|refine ReT.cons (.keep rfl rfl .nil) ?_|refine ReT.cons (.own rfl rfl rfl rfl rfl rfl .nil) ?_|refine ReT.cons (.ptr rfl rfl rfl rfl .nil) ?_|refine ReT.cons (.keep (congrArg (fun z=>AV.sc (Value.int .i64 z)) (by first|omega|(skip))) rfl .nil) ?_|refine ReT.cons (.keep (congrArg (fun z:List UInt8=>AV.sc (Value.string ⟨z.toArray⟩)) (by skip)) rfl .nil) ?_|refine ReT.cons (.own rfl rfl rfl rfl rfl (by first|omega|(simp;done)|(simp;omega)) .nil) ?_)) (by repeat (first|exact ReO.nil|refine ReO.cons (Re.same rfl (still_ints _)) (by simp) ?_|refine ReO.cons (Re.same rfl rfl) (by simp) ?_)) (Nat.zero_le _)) ?_
  refine go (r:=?_);and_intros<;>intros<;>try exact True.intro
  all_goals first|contradiction⟩
end
end Go.Proofs.YtainhhfnnclfiaaGreat


namespace Go.Proofs.YtainhhfnnclfiaaGreat
open Go Go.Abs
attribute [local irreducible] WpA WpL Rnd Blk Abs.Seq Abs.Fin Abs.FinG FnC FnG Only
theorem bw_small {l:List Blok} (h:∀b∈l,b.2.length≤64):bw l≤65*l.length:=by
 induction l with
 |nil=>simp [bw_nil]
 |cons b l ih=>
  have h1:=h b (by simp)
  have h2:=ih fun x hx=>h x (by simp [hx])
  rw [bw_cons,List.length_cons];omega
theorem mw_small {l:List Mbk} (h:∀m∈l,m.2.length≤4∧∀b∈m.2,b.2.length≤64):mw l≤261*l.length:=by
 induction l with
 |nil=>simp [mw_nil]
 |cons m l ih=>
  have h1:=h m (by simp)
  have h2:=ih fun x hx=>h x (by simp [hx])
  have h3:=bw_small h1.2
  rw [mw_cons,List.length_cons];omega
theorem prS_sz (p:List UInt8):(prS p).L.length≤6∧(prS p).ms.length≤16∧mw (prS p).ms≤4176∧SmM 1099511627776 (prS p).ms:=by
 have h:(prS p).L.length≤6∧(prS p).ms.length≤16∧mw (prS p).ms≤4176:=by
  by_cases h1:(hdS p 0).c=0
  ·by_cases h2:(stRun p (hdS p 0).a (hdS p 0).L (cntM (hdS p 0).W (hdS p 0).H).toNat).c=0
   ·by_cases h3:endC p (stRun p (hdS p 0).a (hdS p 0).L (cntM (hdS p 0).W (hdS p 0).H).toNat).a=0
    ·rw [prS_4 h1 h2 h3]
     have hb:=cntM_bd (hdS_sides h1)
     have hs:=stRun_sm (p:=p) (s:=(hdS p 0).a) (lens:=(hdS p 0).L) (cntM (hdS p 0).W (hdS p 0).H).toNat
     have hm:=mw_small hs.2
     have hL:=hdSL_len (hdS p 0)
     refine ⟨hL,?_,?_⟩
     ·show (stRun _ _ _ _).ms.length≤16
      omega
     ·show mw (stRun _ _ _ _).ms≤4176
      omega
    ·rw [prS_3 h1 h2 h3];exact ⟨Nat.zero_le _,Nat.zero_le _,Nat.zero_le _⟩
   ·rw [prS_2 h1 h2];exact ⟨Nat.zero_le _,Nat.zero_le _,Nat.zero_le _⟩
  ·rw [prS_1 h1];exact ⟨Nat.zero_le _,Nat.zero_le _,Nat.zero_le _⟩
 exact ⟨h.1,h.2.1,h.2.2,smM_of (by omega)⟩
section
attribute [local irreducible] prS
end
end Go.Proofs.YtainhhfnnclfiaaGreat


namespace Go.Proofs.YtainhhfnnclfiaaGreat
open Go Go.Abs
attribute [local irreducible] WpA WpL Rnd Blk Abs.Seq Abs.Fin Abs.FinG FnC FnG Only
attribute [local irreducible] prS refL
theorem BuildRef_nil (w h q:Int) (b d:Bool) (L:List Int) (M:List Mbk) (hl:L.length≤1099511627776∧M.length≤1099511627776∧SmM 1099511627776 M) (hok:¬StOk w h q L M):Fn 76 [StA w h q b d L M] [] (.agg [I 0,I 0,.nilS]):=by
 have hd:=decide_eq_false hok
 refine FnC.of_body tabOk Tryz.func76 Tryz.ntmps76 rfl (by decide +kernel) (by simp) fun G=>?_
 refine goR (r:=?_);and_intros<;>intros<;>try exact True.intro
 all_goals first|contradiction|omega|exact hl.2.2
structure Frm where
 W:Int
 H:Int
 P:List Int
def bldF (w h q:Int) (b d:Bool) (L:List Int) (M:List Mbk):Frm:=if StOk w h q L M then ⟨w,h,refL w h q b d M⟩ else ⟨0,0,[]⟩
abbrev FrF (f:Frm):AV:=FrA f.W f.H f.P
theorem BuildRef_c (w h q:Int) (b d:Bool) (L:List Int) (M:List Mbk) (hl:L.length≤1099511627776∧M.length≤1099511627776∧SmM 1099511627776 M):Fn 76 [StA w h q b d L M] [] (FrF (bldF w h q b d L M)):=by
 unfold bldF
 by_cases hok:StOk w h q L M
 ·rw [if_pos hok];exact BuildRef_ok w h q b d L M hl hok
 ·rw [if_neg hok]
  exact FnC.still (BuildRef_nil w h q b d L M hl hok) (.agg (.keep rfl rfl (.keep rfl rfl (.nilI .nil))) .nil)
def decF (p:List UInt8):Frm:=if (prS p).c=0 then bldF (prS p).W (prS p).H (prS p).Q (prS p).B (prS p).D (prS p).L (prS p).ms else ⟨0,0,[]⟩
section
attribute [-instance] Parse_c
attribute [local irreducible] bldF
theorem RefDecode_0 (p:List UInt8) (hl:p.length≤1048576) (h0:(prS p).c=0):Fn 26 [Z p] [] (.tup [FrF (bldF (prS p).W (prS p).H (prS p).Q (prS p).B (prS p).D (prS p).L (prS p).ms),I 0]):=by
 have hz:=prS_sz p
 have hlen:(prS p).ms.length*2=(rows Abs.mbF (prS p).ms).length:=(rows_len (f:=Abs.mbF) (k:=2) (fun _=>rfl) (prS p).ms).symm
 refine FnC.of_body tabOk Tryz.func26 Tryz.ntmps26 rfl (by decide +kernel) (by simp) fun G=>?_
 refine goR (r:=?_);and_intros<;>intros<;>try exact True.intro
 refine K.call ?_
 apply WpL.callI (Parse_c.ok p (by omega))
 ·exact snapA
 ·exact locA
 ·exact outA
 ·exact FrzR.tup (.agg (.keep rfl rfl (.keep rfl rfl (.keep rfl rfl (.keep rfl rfl (.keep rfl rfl (.own rfl rfl rfl (by simp) rfl (Snap.same rfl (still_ints _) (nofre_ints _)) (.own rfl rfl rfl hlen rfl (Snap.rows snap_mb _) .nil))))))) (.keep rfl rfl (.keep rfl rfl .nil)))
 ·decide
 refine goR (r:=?_);and_intros<;>intros<;>try exact True.intro
 all_goals first|contradiction|omega|skip
 refine K.call ?_
 apply WpL.callK (BuildRef_c (prS p).W (prS p).H (prS p).Q (prS p).B (prS p).D (prS p).L (prS p).ms ⟨by omega,by omega,hz.2.2.2⟩)
 ·exact .agg (.keep rfl rfl (.keep rfl rfl (.keep rfl rfl (.keep rfl rfl (.keep rfl rfl (.keep rfl rfl (.keep rfl rfl .nil))))))) .nil
 ·decide
 refine goR (r:=?_);and_intros<;>intros<;>try exact True.intro
 all_goals first|contradiction|omega
theorem RefDecode_1 (p:List UInt8) (hl:p.length≤1048576) (h0:(prS p).c≠0):Fn 26 [Z p] [] (.tup [.agg [I 0,I 0,.nilS],I (prS p).c]):=by
 have hz:=prS_sz p
 have hlen:(prS p).ms.length*2=(rows Abs.mbF (prS p).ms).length:=(rows_len (f:=Abs.mbF) (k:=2) (fun _=>rfl) (prS p).ms).symm
 refine FnC.of_body tabOk Tryz.func26 Tryz.ntmps26 rfl (by decide +kernel) (by simp) fun G=>?_
 refine goR (r:=?_);and_intros<;>intros<;>try exact True.intro
 refine K.call ?_
 apply WpL.callI (Parse_c.ok p (by omega))
 ·exact snapA
 ·exact locA
 ·exact outA
 ·exact FrzR.tup (.agg (.keep rfl rfl (.keep rfl rfl (.keep rfl rfl (.keep rfl rfl (.keep rfl rfl (.own rfl rfl rfl (by simp) rfl (Snap.same rfl (still_ints _) (nofre_ints _)) (.own rfl rfl rfl hlen rfl (Snap.rows snap_mb _) .nil))))))) (.keep rfl rfl (.keep rfl rfl .nil)))
 ·decide
 refine goR (r:=?_);and_intros<;>intros<;>try exact True.intro
 all_goals first|contradiction|omega
end
theorem RefDecode_c (p:List UInt8) (hl:p.length≤1048576):Fn 26 [Z p] [] (.tup [FrF (decF p),I (prS p).c]):=by
 unfold decF
 by_cases h0:(prS p).c=0
 ·rw [if_pos h0,h0];exact RefDecode_0 p hl h0
 ·rw [if_neg h0]
  exact FnC.stillT (RefDecode_1 p hl h0) (.agg (.keep rfl rfl (.keep rfl rfl (.nilI .nil))) (.keep rfl rfl .nil))
end Go.Proofs.YtainhhfnnclfiaaGreat


namespace Go.Proofs.YtainhhfnnclfiaaGreat
open Go Go.Abs
attribute [local irreducible] WpA WpL Rnd Blk Abs.Seq Abs.Fin Abs.FinG FnC FnG Only
instance SameFrame_s:Con 20 (∀ (W H:Int) (p:List Int) (W2 H2:Int) (p2:List Int),p.length≤1099511627776∧p2.length≤1099511627776→Fn 20 [FrA W H p,FrA W2 H2 p2] [] (B (decide (W=W2∧H=H2∧p=p2)))):=⟨fun W H p W2 H2 p2 hl=>by
 refine FnC.of_body tabOk Tryz.func20 Tryz.ntmps20 rfl (by decide +kernel) (by simp) fun G=>?_
 by_cases h:W=W2∧H=H2∧p.length=p2.length
 ·obtain ⟨rfl,rfl,hpl⟩:=h
  refine go (r:=?_);and_intros<;>intros<;>try exact True.intro
  all_goals first|contradiction|omega|skip
  refine WpA.loop (fun k:Nat=>⟨[(2,.ptr 0 0 0),(3,.ptr 1 0 0),(5,I k)],[FrO W H p,FrO W H p2]⟩) (fun k=>k≤p.length∧∀j<k,p.getD j 0=p2.getD j 0) (fun k=>p.length-k) 0 (by simp) (go (r:=?_)) (fun k hk=>?_)
  ·and_intros<;>first|exact True.intro|rfl
  obtain ⟨hk,hj⟩:=hk
  refine go (r:=?_);and_intros<;>intros<;>try exact True.intro
  all_goals first|contradiction|omega|skip
  ·symm;rw [decide_eq_false_iff_not];rintro ⟨_,_,rfl⟩;simp_all
  ·rename_i j hj2
   by_cases h:j=k
   ·subst h;assumption
   ·exact hj j (by omega)
  ·have:=eq_all 0 (xs:=p) (ys:=p2) (by omega) (fun j hj2=>hj j (by omega))
   simp [this]
 ·refine go (r:=?_);and_intros<;>intros<;>try exact True.intro
  all_goals first|contradiction|omega|(symm;rw [decide_eq_false_iff_not];rintro ⟨rfl,rfl,rfl⟩;exact h ⟨rfl,rfl,rfl⟩)⟩
end Go.Proofs.YtainhhfnnclfiaaGreat


namespace Go.Proofs.YtainhhfnnclfiaaGreat
open Go Go.Abs
attribute [local irreducible] WpA WpL Rnd Blk Abs.Seq Abs.Fin Abs.FinG FnC FnG FnX FnP FinX Only
instance big_c:Con 10 (∀ l:List Int,l.length≤9223372036854775807→Fn 10 [CodA l] [] (B (decide ((l.length:Int)>1048576)))):=⟨fun l hl=>by
 refine FnC.of_body tabOk Tryz.func10 Tryz.ntmps10 rfl (by decide +kernel) (by simp) fun G=>?_
 refine go (r:=?_);and_intros<;>intros<;>try exact True.intro⟩
end Go.Proofs.YtainhhfnnclfiaaGreat


namespace Go.Proofs.YtainhhfnnclfiaaGreat
open Go Go.Abs
theorem one_bit {p:List UInt8} {s x:Int} (hx:x=0∨x=1) (h:Holds p s [x]):RbOk p s 1∧rbA p s 1=s+1∧rbV p s 1=x:=by
 rcases hx with rfl|rfl
 ·exact holds_bits (n:=0) (w:=1) (by decide) (by decide) h
 ·exact holds_bits (n:=1) (w:=1) (by decide) (by decide) h
theorem nn_len {l:List Int} {n:Int} (hn:(l.length:Int)=n*n):(n*n).toNat=l.length:=by omega
theorem holds_lv0 {p:List UInt8} {s n:Int} {l:List Int} (hl:LvOk l) (hn:(l.length:Int)=n*n) (h0:(prsL l).length=0) (h:Holds p s [0]):(lvS p s n).a=s+1∧(lvS p s n).c=0∧(lvS p s n).out=l:=by
 have h1:=one_bit (.inl rfl) h
 rw [lv_2 h1.1 h1.2.2,nn_len hn]
 refine ⟨h1.2.1,rfl,?_⟩
 have e:(pk l l.length).1=[]:=by
  unfold prsL at h0;rw [if_pos hl] at h0;exact List.length_eq_zero_iff.1 h0
 have hh:Holds [] 0 ((pk l l.length).1.flatMap prB):=by rw [e];exact ⟨by decide,by decide,fun k hk=>by cases hk⟩
 have hr:=holds_run hl l.length (Nat.le_refl _) hh
 rw [e] at hr
 have:=congrArg LvS.out hr
 simpa [lvRun] using this
theorem holds_lv1 {p:List UInt8} {s n:Int} {l:List Int} (hl:LvOk l) (hn:(l.length:Int)=n*n) (h0:(prsL l).length≠0) (h:Holds p s ([1]++ueL ((prsL l).length-1)++(prsL l).flatMap prB)):(lvS p s n).a=s+([1]++ueL ((prsL l).length-1)++(prsL l).flatMap prB).length∧(lvS p s n).c=0∧(lvS p s n).out=l:=by
 have e:prsL l=(pk l l.length).1:=by unfold prsL;rw [if_pos hl]
 have hb:=(pk_bd l l.length).1
 rw [←e] at hb
 have h64:l.length≤64:=by have:=hl.2;omega
 have h1:=one_bit (.inr rfl) (holds_left (holds_left h))
 have h2:=holds_ue (n:=((prsL l).length:Int)-1) (by omega) (holds_right (holds_left h))
 rw [show s+(([1]:List Int).length:Int)=rbA p s 1 by rw [h1.2.1];rfl] at h2
 have h3:=holds_right h
 rw [lv_5 h1.1 (by rw [h1.2.2];decide) h2.1 (by rw [h2.2.2];omega),h2.2.2,nn_len hn,←hn,show (1+(((prsL l).length:Int)-1)).toNat=(prsL l).length by omega]
 rw [List.length_append,show s+((([1]:List Int).length+(ueL ((prsL l).length-1)).length:Nat):Int)=ueA p (rbA p s 1) by rw [h2.2.1,h1.2.1,Int.natCast_add];simp only [List.length_singleton];omega] at h3
 rw [e] at h3 ⊢
 rw [holds_run hl l.length (Nat.le_refl _) h3]
 refine ⟨?_,rfl,by simp⟩
 simp only [List.length_append,List.length_singleton]
 rw [←e,h2.2.1,h1.2.1]
 omega
theorem holds_blk {p:List UInt8} {s m n:Int} {lv lens:List Int} (hk:BlkOk m lv lens n) (h:Holds p s (bkL m lv lens n)):blS p s lens n=⟨s+(bkL m lv lens n).length,0,m,lv⟩:=by
 have hk2:=hk
 obtain ⟨hn,hc,hl,hv⟩:=hk
 unfold bkL at h ⊢
 rw [if_pos hk2] at h ⊢
 split at h
 ·rename_i h0
  rw [if_pos h0]
  have h1:=holds_sym hc (holds_left h)
  have h2:=holds_right h
  rw [←h1.2.1] at h2
  have h3:=holds_lv0 (n:=n) hv hl h0 h2
  rw [blS_1 hn h1.1 h3.2.1,h3.1,h3.2.2,h1.2.2,h1.2.1,List.length_append,List.length_singleton]
  congr 1
  omega
 ·rename_i h0
  rw [if_neg h0]
  have e:bkK m lv lens (prsL lv).length=symL lens m++([1]++ueL ((prsL lv).length-1)++(prsL lv).flatMap prB):=by
   unfold bkK;rw [List.take_length];simp only [List.append_assoc]
  rw [e] at h ⊢
  have h1:=holds_sym hc (holds_left h)
  have h2:=holds_right h
  rw [←h1.2.1] at h2
  have h3:=holds_lv1 (n:=n) hv hl h0 h2
  rw [blS_1 hn h1.1 h3.2.1,h3.1,h3.2.2,h1.2.2,h1.2.1]
  simp only [List.length_append]
  congr 1
  omega
theorem holds_take {α:Type} [Inhabited α] {p:List UInt8} {s:Int} (f:α→List Int) (l:List α) {k:Nat} (hk:k<l.length) (h:Holds p s ((l.take (k+1)).flatMap f)):Holds p s ((l.take k).flatMap f)∧Holds p (s+((l.take k).flatMap f).length) (f (l.getD k default)):=by
 rw [fm_snoc f l k hk] at h
 exact ⟨holds_left h,holds_right h⟩
theorem take_d {α:Type} [Inhabited α] (l:List α) {k:Nat} (hk:k<l.length):l.take (k+1)=l.take k++[l.getD k default]:=by
 rw [List.take_succ_eq_append_getElem hk];simp [hk]
theorem holds_mbr {p:List UInt8} {s:Int} {lens:List Int} {e:Bool} {bs:List Blok} (hm:MbkOk e bs lens):∀k,k≤bs.length→Holds p s ((bs.take k).flatMap fun b=>bkL b.1 b.2 lens (sz8 e))→
 mbRun p s lens (sz8 e) k=⟨s+((bs.take k).flatMap fun b=>bkL b.1 b.2 lens (sz8 e)).length,0,bs.take k⟩
 |0,_,_=>by simp [mbRun]
 |k+1,hk,h=>by
  have ht:=holds_take _ bs (by omega) h
  have ih:=holds_mbr hm k (by omega) ht.1
  have hb:=holds_blk (ok_lv hm (k:=k) (by omega)) ht.2
  have e1:=congrArg MbS.a ih
  simp only at e1
  rw [mbRun_next (by rw [ih]) (by rw [e1,hb]),e1,hb,ih]
  simp only
  rw [fm_snoc _ bs k (by omega),take_d bs (by omega),List.length_append]
  congr 1
  omega
theorem holds_mb {p:List UInt8} {s:Int} {lens:List Int} {e:Bool} {bs:List Blok} (hm:MbkOk e bs lens) (h:Holds p s (mbbL e bs lens)):mbS p s lens=(⟨s+(mbbL e bs lens).length,0,bs⟩,e):=by
 unfold mbbL at h ⊢
 rw [if_pos hm] at h ⊢
 unfold mbK at h ⊢
 have h1:=one_bit (by cases e<;>simp) (holds_left h)
 have h2:=holds_right h
 rw [mbS_yes (E:=e) h1.1 (by rw [h1.2.2];cases e<;>rfl)]
 have hl:(nm8 e).toNat=bs.length:=by have:=hm.1;omega
 rw [hl,show s+1=s+(([bif e then (1:Int) else 0]:List Int).length:Int) by simp,holds_mbr hm bs.length (Nat.le_refl _) h2]
 simp only [List.take_length,List.length_append,List.length_singleton,decide_true,cond_true]
 congr 2
 omega
theorem holds_mbs {p:List UInt8} {s w h q:Int} {l:List Int} {M:List Mbk} (hs:StOk w h q l M):∀k,k≤M.length→Holds p s ((M.take k).flatMap (mbF l))→
 stRun p s l k=⟨s+((M.take k).flatMap (mbF l)).length,0,M.take k⟩
 |0,_,_=>by simp [stRun]
 |k+1,hk,hh=>by
  have ht:=holds_take _ M (by omega) hh
  have ih:=holds_mbs hs k (by omega) ht.1
  have hb:=holds_mb (ok_blk hs (i:=k) (by omega)) ht.2
  rw [stRun,ih]
  simp only [if_true]
  rw [hb]
  simp only [if_true]
  rw [fm_snoc _ M k (by omega),take_d M (by omega),List.length_append]
  have:(mbF l (M.getD k default)).length=(mbbL (M.getD k default).1 (M.getD k default).2 l).length:=rfl
  congr 1
  omega
def lnum (l:List Int):Int:=((((l.getD 0 0*8+l.getD 1 0)*8+l.getD 2 0)*8+l.getD 3 0)*8+l.getD 4 0)*8+l.getD 5 0
theorem six_of {l:List Int} (h:CodeOk l):∃a b c d e f,l=[a,b,c,d,e,f]∧(0≤a∧a≤7)∧(0≤b∧b≤7)∧(0≤c∧c≤7)∧(0≤d∧d≤7)∧(0≤e∧e≤7)∧(0≤f∧f≤7):=by
 have h0:=code_in h (m:=0) (by decide)
 have h1:=code_in h (m:=1) (by decide)
 have h2:=code_in h (m:=2) (by decide)
 have h3:=code_in h (m:=3) (by decide)
 have h4:=code_in h (m:=4) (by decide)
 have h5:=code_in h (m:=5) (by decide)
 match l,h.2.1 with
 |[a,b,c,d,e,f],_=>exact ⟨a,b,c,d,e,f,rfl,h0,h1,h2,h3,h4,h5⟩
theorem bits3 {n:Int} (h:0≤n∧n≤7):bitsL n 3=[n/4%2,n/2%2,n/1%2]:=by
 have hb:bitOk n 3:=⟨by decide,h.1,by show n/8=0;omega⟩
 unfold bitsL
 rw [if_pos hb]
 rfl
theorem bits18 {n:Int} (h:0≤n∧n≤262143):bitsL n 18=[n/131072%2,n/65536%2,n/32768%2,n/16384%2,n/8192%2,n/4096%2,n/2048%2,n/1024%2,n/512%2,n/256%2,n/128%2,n/64%2,n/32%2,n/16%2,n/8%2,n/4%2,n/2%2,n/1%2]:=by
 have hb:bitOk n 18:=⟨by decide,h.1,by show n/262144=0;omega⟩
 unfold bitsL
 rw [if_pos hb]
 rfl
theorem lens_bits {l:List Int} (h:CodeOk l):(0≤lnum l∧lnum l≤262143)∧l.flatMap (fun n=>bitsL n 3)=bitsL (lnum l) 18∧lensV (lnum l)=l:=by
 obtain ⟨a,b,c,d,e,f,rfl,ha,hb,hc,hd,he,hf⟩:=six_of h
 have en:lnum [a,b,c,d,e,f]=((((a*8+b)*8+c)*8+d)*8+e)*8+f:=rfl
 rw [en]
 refine ⟨by omega,?_,?_⟩
 ·rw [bits18 (by omega)]
  simp only [List.flatMap_cons,List.flatMap_nil,bits3 ha,bits3 hb,bits3 hc,bits3 hd,bits3 he,bits3 hf,List.cons_append,List.nil_append]
  simp only [List.cons.injEq,and_true]
  and_intros<;>omega
 ·show [_/(32768:Int)%8,_/(4096:Int)%8,_/(512:Int)%8,_/(64:Int)%8,_/(8:Int)%8,_/(1:Int)%8]=_
  simp only [List.cons.injEq,and_true]
  and_intros<;>omega
theorem two_bits (b d:Bool):[bif b then (1:Int) else 0,bif d then 1 else 0]=bitsL (2*(bif b then 1 else 0)+(bif d then 1 else 0)) 2∧bitOk (2*(bif b then 1 else 0)+(bif d then 1 else 0)) 2:=by cases b<;>cases d<;>decide
theorem hdL_parts {w h q:Int} {b d:Bool} {l:List Int} (hh:HdOk w h q l):hdL w h q b d l=bitsL 183 8++(ueL (w/8-1)++(ueL (h/8-1)++(bitsL q 6++(bitsL (2*(bif b then 1 else 0)+(bif d then 1 else 0)) 2++bitsL (lnum l) 18)))):=by
 unfold hdL
 rw [if_pos hh]
 unfold hdK hdB
 rw [List.take_length,(lens_bits hh.2.2).2.1,(two_bits b d).1]
 simp only [List.append_assoc]
theorem holds_hd {p:List UInt8} {s w h q:Int} {b d:Bool} {l:List Int} (hh:HdOk w h q l) (hp:Holds p s (hdL w h q b d l)):(hdS p s).a=s+(hdL w h q b d l).length∧(hdS p s).c=0∧(hdS p s).W=w∧(hdS p s).H=h∧(hdS p s).Q=q∧(hdS p s).B=b∧(hdS p s).D=d∧(hdS p s).L=l:=by
 have hw:=hd_ws hh.1
 have hs:=hh.1
 have hq:=hh.2.1
 have hlb:=lens_bits hh.2.2
 have hc:=hh.2.2
 have b6:bitOk q 6:=⟨by decide,hq.1,by show q/64=0;omega⟩
 have b18:bitOk (lnum l) 18:=⟨by decide,hlb.1.1,by show lnum l/262144=0;omega⟩
 rw [hdL_parts hh] at hp ⊢
 have h1:=holds_bits (by decide) (by decide) (holds_left hp)
 have p1:=holds_right hp
 rw [bits_len (by decide),←h1.2.1] at p1
 have h2:=holds_ue hw.1 (holds_left p1)
 have p2:=holds_right p1
 rw [←h2.2.1] at p2
 have h3:=holds_ue hw.2 (holds_left p2)
 have p3:=holds_right p2
 rw [←h3.2.1] at p3
 have h4:=holds_bits b6 (by decide) (holds_left p3)
 have p4:=holds_right p3
 rw [bits_len b6,←h4.2.1] at p4
 have h5:=holds_bits (two_bits b d).2 (by decide) (holds_left p4)
 have p5:=holds_right p4
 rw [bits_len (two_bits b d).2,←h5.2.1] at p5
 have h6:=holds_bits b18 (by decide) p5
 have f1:=fb_yes (k:=hk1) h1.1 (ifE_yes h1.2.2)
 have f2:=fu_yes (k:=hk2) h2.1 (ifE_yes (by rw [h2.2.2];omega))
 have f3:=fu_yes (k:=hk2) h3.1 (ifE_yes (by rw [h3.2.2];omega))
 have f4:=fb_yes (k:=hk3) h4.1 (ifE_yes (by rw [h4.2.2];omega))
 have f5:=fb_yes (k:=hk4) h5.1 rfl
 have f6:=fb_yes (k:=hk5) h6.1 (ifE_yes (by rw [h6.2.2,hlb.2.2];exact hc))
 have e:hdS p s=⟨rbA p (rbA p (rbA p (ueA p (ueA p (rbA p s 8))) 6) 2) 18,0,w/8-1,h/8-1,q,2*(bif b then 1 else 0)+(bif d then 1 else 0),lnum l⟩:=by
  unfold hdS
  simp only
  rw [f1.1,f1.2.1,f2.1,f2.2.1,f3.1,f3.2.1,f4.1,f4.2.1,f5.1,f5.2.1,f6.1,f6.2.1,f2.2.2,f3.2.2,f4.2.2,f5.2.2,f6.2.2,h2.2.2,h3.2.2,h4.2.2,h5.2.2,h6.2.2]
 rw [e]
 refine ⟨?_,rfl,?_,?_,?_,?_,?_,?_⟩
 ·simp only [List.length_append]
  have l1:=bits_len (n:=183) (w:=8) (by decide)
  have l2:=bits_len b6
  have l3:=bits_len (two_bits b d).2
  have l4:=bits_len b18
  omega
 ·show (if (0:Int)=0 then 8*(w/8-1+1) else 0)=w
  rw [if_pos rfl];omega
 ·show (if (0:Int)=0 then 8*(h/8-1+1) else 0)=h
  rw [if_pos rfl];omega
 ·rfl
 ·cases b<;>cases d<;>rfl
 ·cases b<;>cases d<;>rfl
 ·show (if (0:Int)=0 then lensV (lnum l) else [])=l
  rw [if_pos rfl,hlb.2.2]
theorem pad_end {b:List Int} (h:Bit01 b):endC (stopS b) b.length=0:=by
 have hh:=stop_holds h
 have hl:=padL_len b (padN b.length)
 have hm:=pad_mult b.length
 have hs:(stopS b).length=(padL b (padN b.length)).length/8:=strS_len _
 have h7:padN b.length≤7:=by unfold padN;omega
 have e:padL b (padN b.length)=b++([1]++List.replicate (padN b.length) 0):=by unfold padL;rw [List.append_assoc]
 have hr:=holds_right (e▸hh)
 rw [Int.zero_add] at hr
 have h1:=holds_left hr
 have h2:Holds (stopS b) ((b.length:Int)+1) (List.replicate (padN b.length) 0):=holds_right hr
 have hlf:=lft_ok (holds_rd h1)
 have hlf2:=lft_ok (holds_rd h2)
 unfold endC
 rw [if_neg (by omega),if_pos]
 refine ⟨by omega,(end_iff (holds_rd h1) (by omega)).2 ⟨?_,?_⟩⟩
 ·have:=h1.2.2 0 (by decide)
  simpa using this
 ·rw [zrs_eq (k:=padN b.length) (by omega) (fun j hj=>?_) (.inl (by omega))]
  ·omega
  ·have:=h2.2.2 j (by simpa using hj)
   rw [this]
   simp [List.getD_eq_getElem?_getD,List.getElem?_replicate,hj]
theorem parse_unp {w h q:Int} {b d:Bool} {l:List Int} {M:List Mbk} (hs:StOk w h q l M):prS (unpS w h q b d l M)=⟨w,h,q,b,d,l,M,(stK w h q b d l M M.length).length,0⟩:=by
 unfold unpS
 rw [if_pos hs]
 have hb:=b01_st w h q b d l M M.length
 have hh:=stop_holds hb
 unfold padL at hh
 have h0:=holds_left (holds_left hh)
 have he:=pad_end hb
 generalize hk:stK w h q b d l M M.length=x at*
 generalize hp:stopS x=p at*
 have e:x=hdL w h q b d l++M.flatMap (mbF l):=by rw [←hk];unfold stK;rw [List.take_length]
 rw [e] at h0
 have h1:=holds_hd hs.1 (holds_left h0)
 have h2:=holds_right h0
 have h3:=holds_mbs hs M.length (Nat.le_refl _) (by rw [List.take_length];exact h2)
 rw [List.take_length] at h3
 unfold prS
 simp only
 rw [if_pos h1.2.1,h1.1,h1.2.2.1,h1.2.2.2.1,h1.2.2.2.2.1,h1.2.2.2.2.2.1,h1.2.2.2.2.2.2.1,h1.2.2.2.2.2.2.2,show (cntM w h).toNat=M.length by have:=hs.2.1;omega,h3]
 simp only [if_true]
 have e2:(0:Int)+(hdL w h q b d l).length+(M.flatMap (mbF l)).length=x.length:=by rw [e,List.length_append];omega
 rw [e2,if_pos he]
end Go.Proofs.YtainhhfnnclfiaaGreat


namespace Go.Proofs.YtainhhfnnclfiaaGreat
open Go Go.Abs
theorem rsK_get {f p:List Int} {k i:Nat} (h:i<k):(rsK f p k).getD i 0=f.getD i 0-p.getD i 0:=by
 unfold rsK
 rw [List.getD_eq_getElem?_getD,List.getElem?_map,List.getElem?_range h];rfl
theorem rec_back {f p:List Int} (h:ResOk f p):recL p (resS f p)=f:=by
 have hr:resS f p=rsK f p f.length:=by unfold resS;rw [if_pos h]
 have hl:=rsK_len f p f.length
 unfold recL
 rw [if_pos ⟨(side_pos _).2 (by rw [h.2.1];exact h.1),by rw [hr,hl,h.2.1],h.2.2.2⟩,hr]
 refine list_ext (N:=f.length) (by rw [tabL_len,h.2.1]) rfl fun i hi=>?_
 rw [tabL_get (by rw [h.2.1];exact hi)]
 unfold recF
 rw [rsK_get hi]
 have h1:=in_getZ255 h.2.2.1 i
 have h2:=in_getZ255 h.2.2.2 i
 omega
theorem put_back {W H:Int} {b:Bool} {L F P:List Int} {x y n m:Int} (ho:OptOk 0 L) (hm:HasC L m) (hF:Fits W H F x y n) (hP:Fits W H P x y n):putL W H P 0 b x y m (chV W H F 0 b L P x y n m)=setK W x y n (blkL W H F x y n) P (n*n).toNat:=by
 have hr:=res_ok hF hP hm.2.1
 have hl:(resS (blkL W H F x y n) (nbP W H P x y n m)).length=(n*n).toNat:=by rw [resS_len,if_pos hr.1,hr.2]
 have h16:(resS (blkL W H F x y n) (nbP W H P x y n m)).length=16∨(resS (blkL W H F x y n) (nbP W H P x y n m)).length=64:=by
  rw [hl];rcases hF.2.1 with rfl|rfl<;>decide
 obtain ⟨hb,hlen⟩:=blk_enc (b:=b) ho hm hF hP
 have hs:side (chV W H F 0 b L P x y n m).length=n:=by
  have:(chV W H F 0 b L P x y n m).length=(n*n).toNat:=by omega
  rw [this];rcases hF.2.1 with rfl|rfl<;>rfl
 unfold putL
 rw [if_pos ⟨by rw [hs];exact hP,⟨hb.2.2.2,(stepL_pos 0).2 ho.1⟩,hm.2.1⟩,hs]
 have hbk:resL b 0 (chV W H F 0 b L P x y n m)=resS (blkL W H F x y n) (nbP W H P x y n m):=lev_back ho h16 res_in
 rw [hbk,rec_back hr.1]
 unfold setL
 have hsb:side (blkL W H F x y n).length=n:=by rw [hr.2];rcases hF.2.1 with rfl|rfl<;>rfl
 rw [if_pos ⟨by rw [hsb];exact hP,blk_in hF.1.2.2 _ _ _⟩,hsb,hr.2]
theorem setK_agr {W H:Int} {F:List Int} {x y n:Int} (hF:Fits W H F x y n) {P:List Int} (hl:P.length=F.length) {t:Nat}:∀k,k≤(n*n).toNat→(P.getD t 0=F.getD t 0∨∃j<k,(pxI W x y n j).toNat=t)→(setK W x y n (blkL W H F x y n) P k).getD t 0=F.getD t 0
 |0,_,h=>by
  rcases h with h|⟨j,hj,_⟩
  ·exact h
  ·omega
 |k+1,hk,h=>by
  have hb:(blkL W H F x y n).getD k 0=F.getD (pxI W x y n k).toNat 0:=by
   unfold blkL;rw [if_pos hF,tabL_get (by omega)];rfl
  have hp:=px_in hF (i:=k) (by omega)
  rw [setK]
  by_cases e:(pxI W x y n k).toNat=t
  ·rw [e] at hb
   rw [e,hb,List.getD_eq_getElem?_getD,List.getElem?_set_self (by rw [setK_len];omega)];rfl
  ·rw [List.getD_eq_getElem?_getD,List.getElem?_set_ne e,←List.getD_eq_getElem?_getD]
   refine setK_agr hF hl k (by omega) ?_
   rcases h with h|⟨j,hj,hj2⟩
   ·exact .inl h
   ·refine .inr ⟨j,?_,hj2⟩
    rcases Nat.lt_or_ge j k with h'|h'
    ·exact h'
    ·have:j=k:=by omega
     subst this;exact absurd hj2 e
theorem encB_agr {a:EncA} (hq:a.q=0) (ho:OptOk a.q a.L) (hF:FrameOk a.W a.H a.F) (hc:ChOk a) {e:Bool} {k c:Nat} {P:List Int} (hP:FrameOk a.W a.H P) (hk:(k:Int)<cntM a.W a.H) {t:Nat}:∀i,i≤manyE e→(P.getD t 0=a.F.getD t 0∨∃i'<i,∃j<(sz8 e*sz8 e).toNat,(pxI a.W (plc1 a.W (sz8 e) k i').1 (plc1 a.W (sz8 e) k i').2.1 (sz8 e) j).toNat=t)→(encB a e k c P i).2.getD t 0=a.F.getD t 0
 |0,_,h=>by
  rcases h with h|⟨j,hj,_⟩
  ·exact h
  ·omega
 |i+1,hi,h=>by
  have h1:=plc_fits hF (e:=e) (i:=i) hk (by omega)
  have hPi:=encB_ok (e:=e) (k:=k) (c:=c) hP i
  have h2:=plc_fits hPi (e:=e) (i:=i) hk (by omega)
  have hlen:(encB a e k c P i).2.length=a.F.length:=by have:=hPi.2.1;have:=hF.2.1;omega
  rw [encB]
  simp only
  rw [hq] at ho ⊢
  rw [put_back ho (hc _ _ _ _ _ h2) h1 h2]
  refine setK_agr h1 hlen _ (Nat.le_refl _) ?_
  rcases h with h|⟨i',hi',h⟩
  ·exact .inl (encB_agr hq (by rw [hq];exact ho) hF hc hP hk i (by omega) (.inl h))
  ·by_cases e1:i'=i
   ·subst e1;exact .inr h
   ·exact .inl (encB_agr hq (by rw [hq];exact ho) hF hc hP hk i (by omega) (.inr ⟨i',by omega,h⟩))
theorem encM_agr {a:EncA} (hq:a.q=0) (ho:OptOk a.q a.L) (hF:FrameOk a.W a.H a.F) (hc:ChOk a) {E:Nat→Bool} {P:List Int} (hP:FrameOk a.W a.H P) {t:Nat}:∀k:Nat,(k:Int)≤cntM a.W a.H→(P.getD t 0=a.F.getD t 0∨∃k'<k,∃i'<manyE (E k'),∃j<(sz8 (E k')*sz8 (E k')).toNat,(pxI a.W (plc1 a.W (sz8 (E k')) k' i').1 (plc1 a.W (sz8 (E k')) k' i').2.1 (sz8 (E k')) j).toNat=t)→(encM a E P k).2.1.getD t 0=a.F.getD t 0
 |0,_,h=>by
  rcases h with h|⟨j,hj,_⟩
  ·exact h
  ·omega
 |k+1,hk,h=>by
  rw [encM]
  simp only
  refine encB_agr hq ho hF hc (encM_ok hP k) (by omega) _ (Nat.le_refl _) ?_
  rcases h with h|⟨k',hk',h⟩
  ·exact .inl (encM_agr hq ho hF hc hP k (by omega) (.inl h))
  ·by_cases e1:k'=k
   ·subst e1;exact .inr h
   ·exact .inl (encM_agr hq ho hF hc hP k (by omega) (.inr ⟨k',by omega,h⟩))
theorem cover {W H:Int} (h:SidesOk W H) (E:Nat→Bool) {t:Nat} (ht:(t:Int)<W*H):∃k:Nat,(k:Int)<cntM W H∧∃i<manyE (E k),∃j<(sz8 (E k)*sz8 (E k)).toNat,(pxI W (plc1 W (sz8 (E k)) k i).1 (plc1 W (sz8 (E k)) k i).2.1 (sz8 (E k)) j).toNat=t:=by
 obtain ⟨h1,h2,h3,h4,h5,h6⟩:=h
 obtain ⟨u,rfl⟩:∃u:Nat,W=8*(u:Int):=⟨(W/8).toNat,by omega⟩
 obtain ⟨v,rfl⟩:∃v:Nat,H=8*(v:Int):=⟨(H/8).toNat,by omega⟩
 have hu:0<u:=by omega
 have hY:t/(8*u)<8*v:=by
  rw [Nat.div_lt_iff_lt_mul (by omega)]
  have:((8*v*(8*u):Nat):Int)=8*(u:Int)*(8*(v:Int)):=by push_cast;exact Int.mul_comm ..
  omega
 have hX:t%(8*u)<8*u:=Nat.mod_lt _ (by omega)
 have hT:t/(8*u)*(8*u)+t%(8*u)=t:=by rw [Nat.mul_comm];exact Nat.div_add_mod t (8*u)
 generalize t/(8*u)=Y at*
 generalize t%(8*u)=X at*
 have e1:8*(u:Int)/8=u:=by omega
 have e2:8*(v:Int)/8=v:=by omega
 have hx8:X/8<u:=by omega
 have hk1:(Y/8*u+X/8)%u=X/8:=by rw [Nat.mul_comm,Nat.mul_add_mod];exact Nat.mod_eq_of_lt hx8
 have hk2:(Y/8*u+X/8)/u=Y/8:=by rw [Nat.mul_comm,Nat.mul_add_div hu,Nat.div_eq_of_lt hx8];rfl
 have hk:Y/8*u+X/8<u*v:=by
  have:(Y/8+1)*u≤v*u:=Nat.mul_le_mul_right u (by omega)
  rw [Nat.add_mul,Nat.one_mul,Nat.mul_comm v u] at this
  omega
 refine ⟨Y/8*u+X/8,?_,?_⟩
 ·unfold cntM;rw [e1,e2];exact_mod_cast hk
 generalize hkk:Y/8*u+X/8=k at*
 have g1:(k:Int)%(8*(u:Int)/8)=((X/8:Nat):Int):=by rw [e1,←hk1];rfl
 have g2:(k:Int)/(8*(u:Int)/8)=((Y/8:Nat):Int):=by rw [e1,←hk2];rfl
 have fin:∀A B:Int,A=Y→B=X→(A*(8*(u:Int))+B).toNat=t:=by
  rintro A B rfl rfl
  have:((Y:Int)*(8*(u:Int))+(X:Int))=((Y*(8*u)+X:Nat):Int):=by push_cast;rfl
  rw [this,Int.toNat_natCast,hT]
 unfold plc1 pxI
 rw [g1,g2]
 cases E k with
 |true=>
  refine ⟨0,by decide,Y%8*8+X%8,?_,?_⟩
  ·show _<64;omega
  ·simp only [sz8,cond_true]
   rw [Int.add_assoc]
   refine fin _ _ ?_ ?_<;>omega
 |false=>
  refine ⟨Y%8/4*2+X%8/4,?_,Y%4*4+X%4,?_,?_⟩
  ·show _<4;omega
  ·show _<16;omega
  ·simp only [sz8,cond_false]
   rw [Int.add_assoc]
   refine fin _ _ ?_ ?_<;>omega
theorem encM_all {a:EncA} (hq:a.q=0) (ho:OptOk a.q a.L) (hF:FrameOk a.W a.H a.F) (hc:ChOk a) (E:Nat→Bool):(encM a E (zerP a.W a.H) (cntM a.W a.H).toNat).2.1=a.F:=by
 have hz:=zer_ok hF.1
 have hcm:=cntM_bd hF.1
 have hl:=(encM_ok (a:=a) (E:=E) hz (cntM a.W a.H).toNat).2.1
 have hfl:=hF.2.1
 refine list_ext (N:=a.F.length) (by omega) rfl fun t ht=>?_
 refine encM_agr hq ho hF hc hz _ (by omega) (.inr ?_)
 obtain ⟨k,hk,h⟩:=cover hF.1 E (t:=t) (by omega)
 exact ⟨k,by omega,h⟩
end Go.Proofs.YtainhhfnnclfiaaGreat


namespace Go.Proofs.YtainhhfnnclfiaaGreat
open Go Go.Abs
attribute [local irreducible] WpA WpL Rnd Blk Abs.Seq Abs.Fin Abs.FinG FnC FnG FnX FnP FinX Only
section
attribute [local irreducible] belowD onceD pickD modeD l8D l8AnyD modesD onesD
theorem optD_es {l:List Int} {c:Cr} (h:CrOk l c):(optD l c).2.es.length≤3:=by
 have hq:=pickD_ok (xs:=quant7) h (by decide)
 have hb:=onceD_ok 4 hq.1
 have hd:=onceD_ok 2 hb
 have h8:=l8D_ok hd
 have hn:=belowD_ok 5 h8.1
 have hn0:=hn.2.1
 have hn1:=hn.2.2.1 (by decide)
 have hm:=modesD_ok (l:=l) (belowD l (l8D l (onceD l (onceD l (pickD l c quant7).1 4).1 2).1).1 5).2.toNat ((belowD l (l8D l (onceD l (onceD l (pickD l c quant7).1 4).1 2).1).1 5).1,[]) hn.1
 have hk:=belowD_ok 4 hm.1
 have hs:=onesD_ok (l:=l) (belowD l (modesD l (belowD l (l8D l (onceD l (onceD l (pickD l c quant7).1 4).1 2).1).1 5).2.toNat ((belowD l (l8D l (onceD l (onceD l (pickD l c quant7).1 4).1 2).1).1 5).1,[])).1 4).2.toNat ((belowD l (modesD l (belowD l (l8D l (onceD l (onceD l (pickD l c quant7).1 4).1 2).1).1 5).2.toNat ((belowD l (l8D l (onceD l (onceD l (pickD l c quant7).1 4).1 2).1).1 5).1,[])).1 4).1,[]) hk.1
 have hk0:=hk.2.1
 have hk1:=hk.2.2.1 (by decide)
 unfold optD
 exact Nat.le_trans (Nat.le_of_eq hs.2) (by simp only [List.length_nil];omega)
theorem anyD_es {l:List Int} {c:Cr} (h:CrOk l c):(anyD l c).2.es.length≤3:=by
 have e:(anyD l c).2.es=(optD l c).2.es:=by
  unfold anyD;simp only
  split
  ·rfl
  ·split<;>rfl
 rw [e];exact optD_es h
end
theorem st_mw {w h q:Int} {L:List Int} {M:List Mbk} (hs:StOk w h q L M):mw M≤1048576∧M.length≤16∧L.length=6∧SmM 1099511627776 M:=by
 have hcm:=cntM_bd hs.1.1
 have hlen:=hs.2.1
 have hm:=mw_small (l:=M) (fun m hm=>by
  have hb:=List.any_eq_false.1 hs.2.2 m hm
  have hk:MbkOk m.1 m.2 L:=by
   refine Decidable.byContradiction fun hn=>hb ?_
   unfold badM;exact decide_eq_true hn
  obtain ⟨e,bs⟩:=m
  have hk1:(bs.length:Int)=nm8 e:=hk.1
  refine ⟨by show bs.length≤4;cases e<;>simp [nm8] at hk1<;>omega,fun b hbm=>?_⟩
  have hb2:=List.any_eq_false.1 hk.2 b hbm
  have hk2:BlkOk b.1 b.2 L (sz8 e):=by
   refine Decidable.byContradiction fun hn=>hb2 ?_
   unfold badB;exact decide_eq_true hn
  have hk3:=hk2.2.2.1
  cases e<;>simp [sz8] at hk3<;>omega)
 have h2:mw M≤1048576:=by omega
 exact ⟨h2,by omega,hs.1.2.2.2.1,smM_of (by omega)⟩
section
attribute [local irreducible] encT refL unpS prS decF
theorem Encode_1 (w h q:Int) (b d:Bool) (L ms F:List Int) (es:List Bool) (hF:FrameOk w h F) (ho:OptOk q L) (hl:ms.length≤1099511627776∧es.length≤1099511627776):
 Fn 23 [FrA w h F,OpA q b d L ms es] [] (Z (unpS w h q b d L (encT w h q b L ms F es))):=by
 have hz:=EncodeStream_1 w h q b d L ms F es hF ho hl
 have hmw:=st_mw (encT_ok (b:=b) (ms:=ms) (es:=es) hF ho)
 generalize encT w h q b L ms F es=M at*
 generalize refL w h q b d M=P at*
 refine FnC.of_body tabOk Tryz.func23 Tryz.ntmps23 rfl (by decide +kernel) (by simp) fun G=>?_
 refine goR (r:=?_);and_intros<;>intros<;>try exact True.intro
 refine K.call ?_
 apply WpL.callK hz
 ·exact .agg (.keep rfl rfl (.keep rfl rfl (.keep rfl rfl .nil))) (.agg (.keep rfl rfl (.keep rfl rfl (.keep rfl rfl (.keep rfl rfl (.keep rfl rfl (.keep rfl rfl .nil)))))) .nil)
 ·decide
 refine goR (r:=?_);and_intros<;>intros<;>try exact True.intro
 all_goals first|contradiction|omega
end
end Go.Proofs.YtainhhfnnclfiaaGreat


namespace Go.Proofs.YtainhhfnnclfiaaGreat
open Go Go.Abs
attribute [local irreducible] WpA WpL Rnd Blk Abs.Seq Abs.Fin Abs.FinG FnC FnG FnX FnP FinX Only
attribute [local simp] Abs.setL
def atL (l:List Int) (i:Int):Int:=if i<l.length then l.getD i.toNat 0 else (i*37+l.length*11)%256
theorem atL_bd {l:List Int} (h:In l 0 255) (i:Int) (hi:0≤i):0≤atL l i∧atL l i≤255:=by
 unfold atL;split
 ·exact in_get h (k:=i.toNat) (by omega)
 ·omega
instance at_r:Con 29 (∀ (l:List Int) (i:Int),In l 0 255∧(0≤i∧i≤1048576)∧l.length≤1048576→Fn 29 [CodA l,I i] [] (I (atL l i))):=⟨fun l i hl=>by
 obtain ⟨h0,h1,h2⟩:=hl
 unfold atL
 by_cases hlt:i<l.length
 ·rw [if_pos hlt]
  have hg:=in_get h0 (k:=i.toNat) (by omega)
  have hw:IntKind.i64.wrap (l.getD i.toNat 0)=l.getD i.toNat 0:=wrap64 _ (by omega)
  refine FnC.of_body tabOk Tryz.func29 Tryz.ntmps29 rfl (by decide +kernel) (by simp) fun G=>?_
  refine go (r:=?_);and_intros<;>intros<;>try exact True.intro
  all_goals first|contradiction|omega|(rw [hw];done)
 ·rw [if_neg hlt]
  refine FnC.of_body tabOk Tryz.func29 Tryz.ntmps29 rfl (by decide +kernel) (by simp) fun G=>?_
  refine go (r:=?_);and_intros<;>intros<;>try exact True.intro
  all_goals first|contradiction|omega⟩
theorem sse_self (p:List Int):∀k,sse p p k=0
 |0=>rfl
 |k+1=>by rw [sse_snoc,sse_self p k];simp
theorem los_back {w h:Int} {b:Bool} {L ms F:List Int} {es:List Bool} (hF:FrameOk w h F) (ho:OptOk 0 L):refL w h 0 b false (encT w h 0 b L ms F es)=F:=by
 unfold encT
 rw [encS_ref (enA w h 0 b L ms F) (eiF es) false]
 exact encM_all (a:=enA w h 0 b L ms F) rfl ho hF (fun c P x y n hf=>modeF_has ho (Int.natCast_nonneg _)) (eiF es)
section
attribute [local irreducible] encT refL unpS prS decF atL sse
theorem FnLossless_p (v:Value) (l:List Int) (hl:l.length≤9223372036854775807) (hin:In l 0 255):FnP Tryz.prog 5 [.sc v] [] [v] [CodA l] [] [] (B true):=by
 by_cases hb:(l.length:Int)>1048576
 ·refine FnP.of_body tabOk Tryz.func5 Tryz.ntmps5 rfl (by decide +kernel) (by simp) rfl rfl rfl fun G hp=>?_
  refine goR (r:=?_);and_intros<;>intros<;>try exact True.intro
  refine WpL.pin (d:=7) hp rfl ?_
  refine go (r:=?_);and_intros<;>intros<;>try exact True.intro
  exact FinG.oI [] rfl (ResV.tmp rfl) (.keep rfl rfl rfl .nil) .nil rfl rfl
 ·have hl2:l.length≤1048576:=by omega
  have hdz:=DrawEncode_z l hl2
  have hs:=smallD_ok (newD_ok hl2)
  have ha:=anyD_ok hs.1
  have hae:=anyD_es hs.1
  have hat:=atL_bd hin 0 (by decide)
  have hpl:(dsP l).length≤384:=by have h1:=hs.2.1;show (List.drop (smallD l (newD l)).2.o (smallD l (newD l)).2.p).length≤384;rw [List.length_drop];omega
  obtain ⟨-,ha1,ha2⟩:=ha
  generalize dsP l=F at*
  generalize (dsF l).w=w at*
  generalize (dsF l).h=h at*
  change (dsO l).lens.length≤6 at ha1
  change (dsO l).ms.length≤4 at ha2
  change (dsO l).es.length≤3 at hae
  generalize (dsO l).lens=L at*
  generalize (dsO l).ms=ms at*
  generalize (dsO l).es=es at*
  generalize (dsO l).q=q at*
  generalize (dsO l).b=b0 at*
  generalize (dsO l).d=d at*
  clear hs
  by_cases hok:FrameOk w h F∧OptOk 0 L
  ·obtain ⟨hF,ho⟩:=hok
   have he:=fun b=>Encode_1 w h 0 b false L ms F es hF ho ⟨by omega,by omega⟩
   have hfo:=decide_eq_true hF
   have hoo:=decide_eq_true ho
   have hrd:=fun b=>RefDecode_c (unpS w h 0 b false L (encT w h 0 b L ms F es)) (by have:=unpS_len w h 0 b false L (encT w h 0 b L ms F es);omega)
   have hdf:∀b,decF (unpS w h 0 b false L (encT w h 0 b L ms F es))=⟨w,h,F⟩:=fun b=>by
    have hst:=encT_ok (b:=b) (ms:=ms) (es:=es) hF ho
    unfold decF;rw [parse_unp (b:=b) (d:=false) hst,if_pos rfl];unfold bldF;rw [if_pos hst,los_back hF ho]
   have hpc:∀b,(prS (unpS w h 0 b false L (encT w h 0 b L ms F es))).c=0:=fun b=>by
    rw [parse_unp (b:=b) (d:=false) (encT_ok (b:=b) (ms:=ms) (es:=es) hF ho)]
   simp only [hdf,hpc] at hrd
   have hsse:sseR w h F w h F=0:=by rw [sseR,if_pos ⟨hF,hF,rfl,rfl⟩,sse_self]
   clear hdf hpc
   refine FnP.of_body tabOk Tryz.func5 Tryz.ntmps5 rfl (by decide +kernel) (by simp) rfl rfl rfl fun G hp=>?_
   refine goR (r:=?_);and_intros<;>intros<;>try exact True.intro
   refine WpL.pin (d:=7) hp rfl ?_
   refine goR (r:=?_);and_intros<;>intros<;>try exact True.intro
   all_goals first|contradiction|omega|skip
   refine WpL.pin (d:=10) hp rfl ?_
   refine K.call ?_
   apply WpL.callK hdz
   ·exact .keep rfl rfl .nil
   ·decide
   refine goR (r:=?_);and_intros<;>intros<;>try exact True.intro
   all_goals first|contradiction|omega|skip
   refine WpL.pin (d:=15) hp rfl ?_
   refine goR (r:=?_);and_intros<;>intros<;>try exact True.intro
   all_goals first|contradiction|omega|exact hin|skip
   refine K.call ?_
   apply WpL.callK (he (decide (atL l 0%2=0)))
   ·exact .agg (.keep rfl rfl (.keep rfl rfl (.keep rfl rfl .nil))) (.agg (.keep rfl rfl (.keep rfl rfl (.keep rfl rfl (.keep rfl rfl (.keep rfl rfl (.keep rfl rfl .nil)))))) .nil)
   ·decide
   refine K.call ?_
   apply WpL.callK (hrd (decide (atL l 0%2=0)))
   ·exact .keep rfl rfl .nil
   ·decide
   refine goR (r:=?_);and_intros<;>intros<;>try exact True.intro
   all_goals first|contradiction|omega|(exfalso;rename_i hg;revert hg;simp;done)|(exact FinG.oI [] rfl (ResV.tmp rfl) (.keep rfl rfl rfl .nil) .nil rfl rfl)|(simp only [eq_self_iff_true,decide_true,hsse];exact FinG.oI [] rfl (ResV.tmp rfl) (.keep rfl rfl rfl .nil) .nil rfl rfl)
  ·refine FnP.of_body tabOk Tryz.func5 Tryz.ntmps5 rfl (by decide +kernel) (by simp) rfl rfl rfl fun G hp=>?_
   refine goR (r:=?_);and_intros<;>intros<;>try exact True.intro
   refine WpL.pin (d:=7) hp rfl ?_
   refine goR (r:=?_);and_intros<;>intros<;>try exact True.intro
   all_goals first|contradiction|omega|skip
   refine WpL.pin (d:=10) hp rfl ?_
   refine K.call ?_
   apply WpL.callK hdz
   ·exact .keep rfl rfl .nil
   ·decide
   refine goR (r:=?_);and_intros<;>intros<;>try exact True.intro
   all_goals first|contradiction|omega|skip
   refine WpL.pin (d:=15) hp rfl ?_
   refine goR (r:=?_);and_intros<;>intros<;>try exact True.intro
   all_goals first|contradiction|omega|exact hin|exact absurd ⟨‹FrameOk w h F›,‹OptOk 0 L›⟩ hok|(exact FinG.oI [] rfl (ResV.tmp rfl) (.keep rfl rfl rfl .nil) .nil rfl rfl)
theorem FnLossless_c (l:List Int) (hl:l.length≤9223372036854775807∧∀x∈l,0≤x∧x≤255):Fn 5 [CodA l] [] (B true):=by
 obtain ⟨hl,hin⟩:=hl
 have hin:In l 0 255:=by unfold In;exact hin
 exact FnC.of_pin fun v=>FnLossless_p v l hl hin
end
end Go.Proofs.YtainhhfnnclfiaaGreat


namespace Go.Abs
open Go Go.RowKit
theorem FnC.walk {P:Program} {f:FuncId} {args:List AV} {N:List AObj} {x:Value} (hc:FnC P f args N (.sc x)) {w:World} {S:Nat→Prop} {vs:List Value} (hS:∀b,S b→b<w.heap.size)
 (hl:LRel S w (fun _=>none) [] args vs []):Calls P f vs.toArray w fun e w'=>e=.returned x∧Below w.heap.size w w':=by
 refine (hc.2 w S vs hS hl).mono fun e w' h=>?_
 obtain ⟨v,S',ι,F,rfl,_,_,_,_,_,hv,hk⟩:=h
 cases hv with
 |sc r=>exact ⟨rfl,hk.os,hk.tape,hk.output,hk.size,fun b hb=>hk.block b hb (fun h=>h)⟩
theorem spot_none {w:World} {x:Addr} {n:Nat} (h:0<n) (hc:∀i,i<n→∃v,w.cell? (x.add i)=some v):x.spot=none:=by
 obtain ⟨v,hv⟩:=hc 0 h
 simpa [Addr.add] using World.cell?_spot hv
end Go.Abs


namespace Go.Abs
open Go Go.RowKit
inductive Sp where
 |int (k:IntKind)|bool|str|struct (fs:List Sp)|slice (k:Nat) (e:Sp)
mutual
inductive SpOk (P:Program):TypeId→Sp→Prop
 |int {t k}:P.underlying t=some (.int k)→SpOk P t (.int k)
 |bool {t}:P.underlying t=some .bool→SpOk P t .bool
 |str {t}:P.underlying t=some .string→SpOk P t .str
 |struct {t fs sps n}:P.underlying t=some (.struct fs)→P.cellsOf t=n→SpF P 0 fs.toList sps n→SpOk P t (.struct sps)
 |slice {t e k sp}:P.underlying t=some (.slice e)→P.cellsOf e=k→0<k→SpOk P e sp→SpOk P t (.slice k sp)
inductive SpF (P:Program):Nat→List Field→List Sp→Nat→Prop
 |nil {k}:SpF P k [] [] k
 |cons {k c f fs sp sps n}:f.offset=k→P.cellsOf f.type=c→SpOk P f.type sp→SpF P (k+c) fs sps n→SpF P k (f::fs) (sp::sps) n
end
mutual
inductive Rd:Sp→List AV→Prop
 |int {k n}:(Lit.int k n).wf=true→Rd (.int k) [.sc (.int k n)]
 |bool {b}:Rd .bool [.sc (.bool b)]
 |str {p:List UInt8}:p.length≤maxLen→Rd .str [.sc (.string ⟨p.toArray⟩)]
 |struct {sps cs}:RdF sps cs→Rd (.struct sps) cs
 |slice {sp len k cs}:len≤maxLen→RdN sp len k cs→Rd (.slice k sp) [.imm k len cs]
inductive RdF:List Sp→List AV→Prop
 |nil:RdF [] []
 |cons {sp sps a b}:Rd sp a→RdF sps b→RdF (sp::sps) (a++b)
inductive RdN:Sp→Nat→Nat→List AV→Prop
 |nil {sp k}:RdN sp 0 k []
 |snoc {sp n k a b}:RdN sp n k a→Rd sp b→b.length=k→RdN sp (n+1) k (a++b)
end
theorem RdN.len {sp n k cs} (h:RdN sp n k cs):cs.length=n*k:=by
 induction n generalizing cs with
 |zero=>cases h;simp
 |succ n ih=>cases h with|snoc h1 h2 h3=>rw [List.length_append,ih h1,h3,Nat.add_mul];omega
section
variable {H:Type} {enc:TypeId×Value→H} {P:Program} {w:World} {base:Nat} {spare:Nat→Bool} {held:Bool}
theorem read {S:Nat→Prop} {ι:Nat→Spot} (hS:∀b,b<w.heap.size→S b):∀(fuel:Nat) (t:TypeId) (sp:Sp) (cs:List Value) (x:DataW H×List MemPlace),SpOk P t sp→
 DataW.trod enc P w base spare held fuel t cs=some x→∃ds,Rd sp ds∧∀O,LRel S w ι O ds cs []:=by
 intro fuel
 induction fuel with
 |zero=>intro t sp cs x _ h;simp [DataW.trod] at h
 |succ fuel ih=>
  intro t sp cs x hsp h
  cases hsp with
  |int ht=>
   obtain ⟨n,rfl,_,hw⟩:=DataW.trod_int ht h
   exact ⟨_,.int hw,fun O=>.sc .nil⟩
  |bool ht=>
   obtain ⟨b,rfl,_⟩:=DataW.trod_bool ht h
   exact ⟨_,.bool,fun O=>.sc .nil⟩
  |str ht=>
   obtain ⟨s,rfl,_,hs⟩:=DataW.trod_string ht h
   exact ⟨[.sc (.string ⟨s.data.toList.toArray⟩)],.str (by have:s.data.toList.length=s.size:=rfl;omega),fun O=>.sc .nil⟩
  |@struct _ fs sps n ht hn hf=>
   obtain ⟨xs,m,hm,_,hlen,hxl,hel⟩:=DataW.trod_struct ht h
   obtain rfl:fuel=m:=by omega
   have key:∀(fl:List Field) (k:Nat) (sps:List Sp),SpF P k fl sps n→(∀ f∈fl,∃x,DataW.trod enc P w base spare held fuel f.type ((cs.drop f.offset).take (P.cellsOf f.type))=some x)→
    k≤n→∃ds,RdF sps ds∧∀O,LRel S w ι O ds (cs.drop k) []:=by
    intro fl
    induction fl with
    |nil=>
     intro k sps hF _ _
     cases hF
     exact ⟨[],.nil,fun O=>by rw [List.drop_eq_nil_of_le (by omega)];exact .nil⟩
    |cons f fl ihf=>
     intro k sps hF hx hk
     cases hF with
     |cons h1 h2 h3 h4=>
      obtain ⟨y,hy⟩:=hx f (by simp)
      obtain ⟨d1,r1,l1⟩:=ih _ _ _ _ h3 hy
      have hkn:∀{k fl sps},SpF P k fl sps n→k≤n:=by
       intro k fl
       induction fl generalizing k with
       |nil=>intro sps h;cases h;exact Nat.le_refl _
       |cons f fl ih2=>intro sps h;cases h with|cons _ _ _ h=>have:=ih2 h;omega
      obtain ⟨d2,r2,l2⟩:=ihf _ _ h4 (fun g hg=>hx g (by simp [hg])) (hkn h4)
      refine ⟨d1++d2,.cons r1 r2,fun O=>?_⟩
      have e:cs.drop k=(cs.drop f.offset).take (P.cellsOf f.type)++cs.drop (k+P.cellsOf f.type):=by
       rw [h1,←List.drop_drop,List.take_append_drop]
      rw [e,h2]
      rw [h2] at l1
      simpa using (l1 O).append (l2 O)
   obtain ⟨ds,r,l⟩:=key fs.toList 0 sps hf (fun f hf'=>by
    obtain ⟨i,hi⟩:=List.getElem?_of_mem hf'
    have hi':fs[i]?=some f:=by simpa using hi
    have:=hel i f hi'
    have hlt:i<xs.length:=by have:=(Array.getElem?_eq_some_iff.1 hi').1;omega
    exact ⟨xs[i],by rw [this];simp [hlt]⟩) (Nat.zero_le _)
   exact ⟨ds,.struct r,fun O=>by simpa using l O⟩
  |@slice _ e k sp ht hk hk0 he=>
   rcases DataW.trod_slice ht h with ⟨rfl,_⟩|⟨a,len,cap,elems,rest,m,hm,rfl,_,hb,hl,hc,hlen,hel,_,_⟩
   ·exact ⟨[.imm k 0 []],.slice (by simp) .nil,fun O=>.imm0 (by simp) .nil⟩
   obtain rfl:fuel=m:=by omega
   have cells:∀j,j≤len→∃ds us,RdN sp j k ds∧us.length=j*k∧(∀ i,i<us.length→w.cell? (a.add i)=us[i]?)∧LRel S w ι [] ds us []:=by
    intro j
    induction j with
    |zero=>intro _;exact ⟨[],[],.nil,by simp,by simp,.nil⟩
    |succ j ihj=>
     intro hj
     obtain ⟨ds,us,h1,h2,h3,h4⟩:=ihj (by omega)
     have hx:=hel j (by omega)
     have hlt:j<elems.length:=by omega
     rw [List.getElem?_eq_getElem hlt,Option.bind_eq_some_iff,hk] at hx
     obtain ⟨us2,hu,ht2⟩:=hx
     obtain ⟨d2,r2,l2⟩:=ih _ _ _ _ he ht2
     obtain ⟨_,c2,c3⟩:=World.cells?_some hu
     have l2':=l2 []
     have hd2:d2.length=k:=by rw [l2'.len,c2]
     refine ⟨ds++d2,us++us2,.snoc h1 r2 hd2,by rw [List.length_append,h2,c2,Nat.add_mul];omega,fun i hi=>?_,by simpa using h4.append l2'⟩
     rw [List.length_append] at hi
     by_cases hlt2:i<us.length
     ·rw [h3 i hlt2,List.getElem?_append_left hlt2]
     ·have hadd:a.add i=(a.add (j*k)).add (i-j*k):=by
       unfold Addr.add
       by_cases hz:j*k=0
       ·simp [hz]
       ·by_cases hz2:i-j*k=0
        ·have:i=j*k:=by omega
         simp [this]
        ·rw [if_neg (by omega),if_neg hz,if_neg hz2]
         simp only [Addr.mk.injEq,true_and,and_true]
         omega
      rw [hadd,c3 (i-j*k) (by omega),List.getElem?_append_right (by omega),h2]
   obtain ⟨ds,us,h1,h2,h3,h4⟩:=cells len (Nat.le_refl _)
   refine ⟨[.imm k len ds],.slice (by omega) h1,fun O=>?_⟩
   by_cases h0:len=0
   ·subst h0
    cases h1
    exact .imm0 ⟨by simp,hc⟩ .nil
   ·have hul:0<us.length:=by rw [h2];exact Nat.mul_pos (by omega) hk0
    have hsp:=spot_none (w:=w) (x:=a) (n:=us.length) hul fun i hi=>⟨us[i],by rw [h3 i hi];simp [hi]⟩
    obtain ⟨b,o,q⟩:=a
    simp only at hsp
    subst hsp
    have hcell:∀i,i<us.length→w.cell? ⟨b,o+i,none⟩=us[i]?:=fun i hi=>by have:=h3 i hi;rwa [addr_add] at this
    refine .imm (us:=us) (hS _ ?_) hcell h4 (by rw [h1.len]) hl hc .nil
    by_cases hb':b<w.heap.size
    ·exact hb'
    ·have:=hcell 0 hul
     simp [World.cell?,Array.getElem?_eq_none (Nat.le_of_not_lt hb'),hul] at this
end
end Go.Abs


namespace Go.Abs
open Go Go.RowKit
abbrev i64 (n:Int):Prop:=-9223372036854775808≤n∧n≤9223372036854775807
theorem lrel_cons0 {S:Nat→Prop} {w:World} {ι:Nat→Spot} {O:List AObj} {V:AV} {v:Value} {cs:List AV} {vs:List Value} (h1:VRel S w ι O V v []) (h2:LRel S w ι O cs vs []):LRel S w ι O (V::cs) (v::vs) []:=LRel.cons h1 h2
end Go.Abs


namespace Go.Proofs.YtainhhfnnclfiaaGreat
open Go Go.Abs Go.RowKit
theorem rdN_u8s {n:Nat} {cs:List AV} (h:RdN (.int .u8) n 1 cs):∃xs:List Int,cs=u8s xs∧xs.length=n∧∀x∈xs,0≤x∧x≤255:=by
 induction n generalizing cs with
 |zero=>cases h;exact ⟨[],rfl,rfl,by simp⟩
 |succ n ih=>
  cases h with
  |snoc h1 h2 h3=>
   obtain ⟨xs,rfl,h5,h6⟩:=ih h1
   cases h2 with
   |@int k m hw=>
    refine ⟨xs++[m],by simp [u8s],by simp [h5],fun x hx=>?_⟩
    rcases List.mem_append.1 hx with hx|hx
    ·exact h6 x hx
    ·have:x=m:=by simpa using hx
     subst this
     simpa [Lit.wf,show IntKind.u8.min=0 from rfl,show IntKind.u8.max=255 from rfl] using hw
theorem rd_u8s {ds:List AV} (h:Rd (.slice 1 (.int .u8)) ds):∃xs:List Int,ds=[.imm 1 xs.length (u8s xs)]∧xs.length≤9223372036854775807∧∀x∈xs,0≤x∧x≤255:=by
 cases h with
 |slice hl hn=>
  obtain ⟨xs,rfl,h1,h2⟩:=rdN_u8s hn
  subst h1
  exact ⟨xs,rfl,by simp only [maxLen] at hl;omega,h2⟩
end Go.Proofs.YtainhhfnnclfiaaGreat
