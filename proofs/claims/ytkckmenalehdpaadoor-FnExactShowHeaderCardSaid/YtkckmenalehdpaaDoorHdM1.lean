/- Proved in this text: lemmas and contracts of functions that the claim uses (parts: AbsH, AbsI, AbsJ, AbsK). No condition. -/
import Derived.Test.YtkckmenalehdpaaDoorHdM0
import Derived.Lib.ConvBytes
set_option linter.unusedVariables false
set_option linter.unusedSimpArgs false
set_option maxRecDepth 100000
set_option maxHeartbeats 4000000


namespace Go.Abs
open Go
theorem RelAt.renew {n m G S ι F T O a w} (hr:RelAt n m G S ι F ⟨T,O⟩ a w) {w':World} {id:Nat} {ob ob':AObj} {s':Spot} {f':List Nat} (ho:O[id]?=some ob) (hm:m≤id) (hep:ob.ep<ob'.ep)
 (hos:w'.os=w.os) (htape:w'.tape=w.tape) (hout:w'.output=w.output) (hsize:w.heap.size≤w'.heap.size)
 (hold:∀b',b'<w.heap.size→b' ∉ F id∨b'∈f'∧(∀ k,s'≠some (b',k))→w'.heap[b']?=w.heap[b']?)
 (hobj:Later S w ι O S w' (upd ι id s') (O.set id ob')→ObjAt S w' (upd ι id s') (O.set id ob') ob' s' f') (hnd:f'.Nodup)
 (hf:∀b',b'∈f'→b'∈F id∨(w.heap.size≤b'∧b'<w'.heap.size)):
 Later S w ι O S w' (upd ι id s') (O.set id ob')∧RelAt n m G S (upd ι id s') (upd F id f') ⟨T,O.set id ob'⟩ a w':=by
 have hid:id<O.length:=(List.getElem?_eq_some_iff.1 ho).1
 have hlat:Later S w ι O S w' (upd ι id s') (O.set id ob'):=by
  refine ⟨fun _ h=>h,fun b hb=>hold b (hr.stable b hb) (.inl fun h=>(hr.foot id hid b h).2.1 hb),fun id' ob2 h=>?_⟩
  by_cases he:id'=id
  ·subst he
   rw [ho] at h;cases h
   exact ⟨ob',by rw [List.getElem?_set_self hid],.inl hep⟩
  ·exact ⟨ob2,by rw [List.getElem?_set_ne (by omega)];exact h,.inr ⟨rfl,rfl,upd_other _ _ he⟩⟩
 refine ⟨hlat,hr.defers,hr.size,fun t'=>(hr.tmps t').mono hlat (by simp),⟨fun id' ob2 h=>?_,fun id' h=>?_,fun i j hi hj hij b' hb'=>?_⟩,fun id' h b' hb'=>?_,hr.base,fun b' hb'=>?_,?_,fun id' h=>?_,?_⟩
 ·by_cases he:id'=id
  ·subst he
   rw [upd_same,upd_same]
   have h:(O.set id' ob')[id']?=some ob2:=h
   rw [List.getElem?_set_self hid] at h
   cases h
   exact hobj hlat
  ·rw [upd_other _ _ he,upd_other _ _ he]
   have h:(O.set id ob')[id']?=some ob2:=h
   rw [List.getElem?_set_ne (by omega)] at h
   have hlt:id'<O.length:=(List.getElem?_eq_some_iff.1 h).1
   have ho':=hr.objs.obj id' ob2 h
   unfold ObjAt at ho' ⊢
   cases hs':ι id' with
   |none=>rw [hs'] at ho';exact ho'
   |some p=>
    obtain ⟨b2,k2⟩:=p
    rw [hs'] at ho'
    obtain ⟨cur',t',fz',f2,h1,h2,h3,h4,h5,h6,h7⟩:=ho'
    have key:∀b',b'∈F id'→w'.heap[b']?=w.heap[b']?:=fun b' hb'=>
     hold b' (hr.foot id' hlt b' hb').2.2 (.inl fun h=>hr.objs.apart id' id hlt hid he b' hb' h)
    exact ⟨cur',t',fz',f2,h1,by rw [key b2 (by rw [h1];simp)];exact h2,h3,h4,h5,h6,h7.mono hlat fun b' hb'=>key b' (by rw [h1];simp [hb'])⟩
 ·by_cases he:id'=id
  ·subst he;rw [upd_same];exact hnd
  ·rw [upd_other _ _ he];exact hr.objs.nodup id' (by simpa using h)
 ·have hi2:i<O.length:=by simpa using hi
  have hj2:j<O.length:=by simpa using hj
  have key:∀j,j<O.length→j≠id→∀b',b'∈f'→b' ∉ F j:=by
   intro j hj hne b' hb' hbj
   rcases hf b' hb' with h|⟨h,_⟩
   ·exact hr.objs.apart id j hid hj (by omega) b' h hbj
   ·have:=(hr.foot j hj b' hbj).2.2;omega
  by_cases h1:i=id
  ·subst h1
   rw [upd_same] at hb'
   rw [upd_other _ _ (by omega)]
   exact key j hj2 (by omega) b' hb'
  ·rw [upd_other _ _ h1] at hb'
   by_cases h2:j=id
   ·subst h2
    rw [upd_same]
    exact fun h=>key i hi2 h1 b' h hb'
   ·rw [upd_other _ _ h2];exact hr.objs.apart i j hi2 hj2 hij b' hb'
 ·have h3:id'<O.length:=by simpa using h
  by_cases he:id'=id
  ·subst he
   rw [upd_same] at hb'
   rcases hf b' hb' with h|⟨h,h'⟩
   ·obtain ⟨q1,q2,q3⟩:=hr.foot id' h3 b' h
    exact ⟨q1,q2,by omega⟩
   ·exact ⟨.inr (by have:=hr.keeps.size;omega),fun hS=>by have:=hr.stable b' hS;omega,h'⟩
  ·rw [upd_other _ _ he] at hb'
   obtain ⟨q1,q2,q3⟩:=hr.foot id' h3 b' hb'
   exact ⟨q1,q2,by omega⟩
 ·have:=hr.stable b' hb';omega
 ·refine ⟨hos.trans hr.keeps.os,htape.trans hr.keeps.tape,hout.trans hr.keeps.output,by have:=hr.keeps.size;omega,fun b' hb' hM=>?_⟩
  rw [hold b' (by have:=hr.keeps.size;omega) (.inl fun h=>?_)]
  ·exact hr.keeps.block b' hb' hM
  ·rcases (hr.foot id hid b' h).1 with h|h
   ·exact hM h
   ·omega
 ·rw [upd_other _ _ (by omega)];exact hr.spots id' h
 ·have:=hr.mle
  simpa using this
def srcB (O:List AObj):AV→Option (List AV×Nat)
 |.nilS=>some ([],0)
 |.imm _ len cs=>some (cs,len)
 |.own id ep 0 len=>match O[id]? with
  |some ob=>match Nat.beq ob.ep ep with
   |true=>some (ob.cells,len)
   |false=>none
  |none=>none
 |_=>none
theorem src_cells {S w ι O F V x ys c k} (ho:ORel S w ι O F) (hv:VRel S w ι O V x []) (hs:srcB O V=some (ys,c)) (hlen:ys.length=c*k) (hone:ys.all (oneB O)=true):
 ∃us,LRel S w ι O ys us []∧(∀ u,u∈us→u.oneCell'=true)∧((∃ ad cap,x=.slice ad 0 cap∧((ad=none→cap=0)∧cap≤maxLen)∧c=0∧us=[])∨
  ∃b o cap,x=.slice (some ⟨b,o,none⟩) c cap∧(∀ i,i<us.length→w.cell? ⟨b,o+i,none⟩=us[i]?)):=by
 have ones:∀us f,LRel S w ι O ys us f→f=[]∧∀u,u∈us→u.oneCell'=true:=by
  intro us f hl
  clear hs hlen
  induction ys generalizing us f with
  |nil=>cases hl;exact ⟨rfl,by simp⟩
  |cons y ys ih=>
   obtain ⟨v,vs',f1,f2,rfl,hv,hr,rfl⟩:=hl.uncons
   simp only [List.all_cons,Bool.and_eq_true] at hone
   obtain ⟨h1,h2⟩:=ih hone.2 _ _ hr
   have h3:=one_of hv hone.1
   refine ⟨by rw [h3.2.2,h1];rfl,fun u hu=>?_⟩
   rcases List.mem_cons.1 hu with rfl|hu
   ·exact h3.1
   ·exact h2 u hu
 unfold srcB at hs
 split at hs
 ·simp only [Option.some.injEq,Prod.mk.injEq] at hs
  obtain ⟨rfl,rfl⟩:=hs
  exact ⟨[],.nil,by simp,.inl ⟨_,_,(LRel.slice_len hv).2.2 rfl,by simp,rfl,rfl⟩⟩
 ·simp only [Option.some.injEq,Prod.mk.injEq] at hs
  obtain ⟨rfl,rfl⟩:=hs
  rcases (imm_inv hv).2 with ⟨ad,cp,h1,h0,h2,h3⟩|⟨b,o,cap,us,h1,hS,hc,hl,_⟩
  ·subst h3;exact ⟨[],.nil,by simp,.inl ⟨_,_,h1,h0,h2,rfl⟩⟩
  ·exact ⟨us,hl.lift,(ones _ _ hl.lift).2,.inr ⟨b,o,cap,h1,hc⟩⟩
 ·rename_i id ep len
  split at hs
  ·rename_i ob hob
   split at hs
   ·rename_i hep
    simp only [Option.some.injEq,Prod.mk.injEq] at hs
    obtain ⟨rfl,rfl⟩:=hs
    have hep:=Nat.eq_of_beq_eq_true hep
    cases hv with
    |own q1 q2 q3 r=>
     rw [hob] at q1
     cases q1
     have hc:=q3 hep.symm
     have hob':=ho.obj _ _ hob
     unfold ObjAt at hob'
     cases hs:ι id with
     |none=>
      rw [hs] at hc hob'
      obtain ⟨h1,_,h3⟩:=hc
      refine ⟨[],by rw [hob'.1];exact .nil,by simp,.inl ⟨_,_,h1,by simp,h3,rfl⟩⟩
     |some p=>
      obtain ⟨b,kk⟩:=p
      rw [hs] at hc hob'
      obtain ⟨cap,h1,_⟩:=hc
      obtain ⟨cur,t,fz,f',_,hh,hk,hle,_,_,hl⟩:=hob'
      obtain ⟨hf',h2⟩:=ones _ _ hl
      subst hf'
      refine ⟨_,hl,h2,.inr ⟨b,0,cap,h1,fun i hi=>?_⟩⟩
      rw [Nat.zero_add,cell_of_row w b i cur t fz hh,List.getElem?_take,if_pos (by have:=hl.len;omega)]
      simp
   ·simp at hs
  ·simp at hs
 ·simp at hs
theorem own_new {S w ι O ob b k c cap} (hk:cap*ob.size=k) (hc:c≤cap) (hm:cap≤maxLen):VRel S w (upd ι O.length (some (b,k))) (O++[ob]) (.own O.length ob.ep 0 c) (.slice (some ⟨b,0,none⟩) c cap) []:=
 .own (by simp) (Nat.le_refl _) (fun _=>by rw [upd_same];exact ⟨cap,rfl,by omega,hc,hm⟩) .nil
theorem adds_drew_alloc (w:World) (o:Obj):Adds w (w.drew.alloc o) o:=.push rfl rfl rfl rfl
theorem zeroCells_size (z:Array Value) (n:Nat):(Builtin.zeroCells z n).size=n*z.size:=by simp [Builtin.zeroCells]
section
variable {P:Program} {n m:Nat} {G:Ctx} {T:List (Nat×AV)} {O:List AObj} {Q:Exit→St→Prop} {ops:Array Oper} {l:List Oper} {d:Nat} {tt:TypeId} {pos:String} {after:Array Edge} {tab:List (Nat×Ty)}
theorem WpL.appOwn (hP:TabOk P tab) {t e k b:Nat} {zs ys:List AV} {x y:Operand} {id ep len c:Nat} {ob:AObj} {Vy:AV} (ht:tlook tab t=some (.slice e k b zs)) (hx:av T x=.own id ep 0 len)
 (ho:O[id]?=some ob) (he:ob.ep=ep) (hty:ob.ty=some e) (hsz:ob.size=k) (hol:ob.cells.length=len*k) (hm:m≤id) (hy:(av T y).force=some Vy) (hs:srcB O Vy=some (ys,c))
 (hlen:ys.length=c*k) (hone:ys.all (oneB O)=true) (hb:(len+c)*b≤140737488355328∧len+c≤9223372036854775807) (hn:d<n)
 (h:WpL P n m G false ops l ⟨(d,.own id (ep+1) 0 (len+c))::T,O.set id ⟨ob.cells++ys,ep+1,k,some e⟩⟩ Q):
 WpL P n m G false ops ({dst:=some d,op:=.call {callee:=.builtin .append,args:=#[x,y],argTypes:=#[t,t]},type:=tt,pos:=pos,after:=after,guard:=none}::l) ⟨T,O⟩ Q:=
 WpL.value rfl (fun a w hr=>by
  obtain ⟨S,ι,F,hr⟩:=hr
  obtain ⟨hu,i,z,hi,hz,hk,hby,hzk,hk0,_⟩:=hP.slice ht
  have hid:id<O.length:=(List.getElem?_eq_some_iff.1 ho).1
  have hw:=hr.eval y
  rw [show av (St.mk T O).T y=Vy from AV.force_eq hy] at hw
  obtain ⟨us,hl,hone',hcase⟩:=src_cells hr.objs hw hs hlen hone
  have huslen:us.length=c*k:=by rw [←hl.len];exact hlen
  have hv:=hr.eval x
  rw [show av (St.mk T O).T x=_ from hx] at hv
  have hob:=hr.objs.obj id ob ho
  unfold ObjAt at hob
  have hown:OwnAt (ι id) ob.size 0 len (a.eval x):=by
   cases hv with
   |own q1 q2 q3 r=>
    rw [show (St.mk T O).O[id]?=some ob from ho] at q1
    cases q1
    exact q3 he.symm
  have hlenA:(ob.cells++ys).length=(len+c)*k:=by rw [List.length_append,hol,hlen,Nat.add_mul]
  have finish:∀(w':World) (s':Spot) (f':List Nat) (v:Value),(Builtin.append_ #[t,t] tt #[a.eval x,a.eval y]).run P w=.ok v w'→
   Later S w ι O S w' (upd ι id s') (O.set id ⟨ob.cells++ys,ep+1,k,some e⟩)∧RelAt n m G S (upd ι id s') (upd F id f') ⟨T,O.set id ⟨ob.cells++ys,ep+1,k,some e⟩⟩ a w'→OwnAt s' k 0 (len+c) v→
   ∃v w',(execOp a.eval {dst:=some d,op:=.call {callee:=.builtin .append,args:=#[x,y],argTypes:=#[t,t]},type:=tt,pos:=pos,after:=after,guard:=none}).run P w=.ok (.value v) w'∧
    Rel n m G ⟨(d,.own id (ep+1) 0 (len+c))::T,O.set id ⟨ob.cells++ys,ep+1,k,some e⟩⟩ (a.put (some d) v) w':=by
   intro w' s' f' v hrun hr' hoa
   refine ⟨v,w',by simp only [execOp,resolve,invoke,builtin,Sem.run_bind,Sem.run_pure,Result.andThen_ok,List.map_toArray,List.map_cons,List.map_nil,hrun],_,_,_,hr'.2.put hn ?_⟩
   exact .own (ob:=⟨ob.cells++ys,ep+1,k,some e⟩) (by rw [List.getElem?_set_self hid]) (Nat.le_refl _) (fun _=>by rw [upd_same];exact hoa) .nil
  have fresh:∀(oldc:Nat) (olds:List Value) (f0:List Nat),LRel S w ι O ob.cells olds f0→f0.Nodup→(∀ b,b∈f0→b∈F id)→(∀ b0 k0,ι id=some (b0,k0)→b0 ∉ f0)→len+c≤grownCap w (len+c) oldc e→
   (Builtin.append_ #[t,t] tt #[a.eval x,a.eval y]).run P w=.ok (.slice (some ⟨w.heap.size,0,none⟩) (len+c) (grownCap w (len+c) oldc e)) (w.drew.alloc (.cells (olds.toArray++us.toArray++Builtin.zeroCells z.cells (grownCap w (len+c) oldc e-(len+c))) e))→
   ∃v w',(execOp a.eval {dst:=some d,op:=.call {callee:=.builtin .append,args:=#[x,y],argTypes:=#[t,t]},type:=tt,pos:=pos,after:=after,guard:=none}).run P w=.ok (.value v) w'∧
    Rel n m G ⟨(d,.own id (ep+1) 0 (len+c))::T,O.set id ⟨ob.cells++ys,ep+1,k,some e⟩⟩ (a.put (some d) v) w':=by
   intro oldc olds f0 hlo hnd0 hsub hnb hge hrun
   have hcm:=grownCap_le_maxLen w (len+c) oldc e (by simp only [maxLen];omega)
   have hA:=adds_drew_alloc w (.cells (olds.toArray++us.toArray++Builtin.zeroCells z.cells (grownCap w (len+c) oldc e-(len+c))) e)
   have holds:olds.length=len*k:=by rw [←hlo.len];exact hol
   have hszc:(olds.toArray++us.toArray++Builtin.zeroCells z.cells (grownCap w (len+c) oldc e-(len+c))).size=grownCap w (len+c) oldc e*k:=by
    simp only [Array.size_append,List.size_toArray,zeroCells_size,hzk,huslen,holds,←Nat.add_mul]
    congr 1;omega
   refine finish _ (some (w.heap.size,grownCap w (len+c) oldc e*k)) (w.heap.size::f0) _ hrun (hr.renew (ob:=ob) ho hm (by simp [he]) rfl rfl rfl (by rw [hA.size];omega) (fun b' hb' _=>hA.old hb') ?_ ?_ ?_) ⟨_,rfl,by omega,hge,hcm⟩
   ·intro hlat
    refine ⟨_,e,(0,0),f0,rfl,hA.new,hszc,by rw [hlenA];exact Nat.mul_le_mul_right _ hge,by simp,by simp,?_⟩
    have htk:(olds.toArray++us.toArray++Builtin.zeroCells z.cells (grownCap w (len+c) oldc e-(len+c))).toList.take (ob.cells++ys).length=olds++us:=by
     rw [Array.toList_append,Array.toList_append]
     exact List.take_left' (by rw [hlenA,Nat.add_mul];simp [holds,huslen])
    show LRel S _ _ _ (ob.cells++ys) _ f0
    rw [htk]
    have h1:=hlo.mono hlat (fun b' hb'=>hA.old (hr.foot id hid b' (hsub b' hb')).2.2)
    have h2:=hl.mono hlat (by simp)
    simpa using h1.append h2
   ·refine List.nodup_cons.2 ⟨fun hb=>?_,hnd0⟩
    have:=(hr.foot id hid _ (hsub _ hb)).2.2
    omega
   ·intro b' hb'
    rcases List.mem_cons.1 hb' with rfl|hb'
    ·exact .inr ⟨Nat.le_refl _,by rw [hA.size];omega⟩
    ·exact .inl (hsub b' hb')
  cases hspot:ι id with
  |none=>
   rw [hspot] at hown hob
   obtain ⟨hxe,_,hlen0⟩:=hown
   subst hlen0
   obtain ⟨hcells,hFid⟩:=hob
   by_cases hc0:c=0
   ·subst hc0
    have hys:ys=[]:=List.eq_nil_of_length_eq_zero (by simpa using hlen)
    subst hys
    have hrun:(Builtin.append_ #[t,t] tt #[a.eval x,a.eval y]).run P w=.ok (.slice none 0 0) w:=by
     rcases hcase with ⟨ad,_,h1,_⟩|⟨b',o,cap,h1,_⟩
     ·rw [hxe,h1];cases ad<;>simp [loadCells,loadCellsFrom,Builtin.append_,run_underlying hu,sizeOf,typeInfo,hi,Builtin.lenOf,Builtin.firstCells]
     ·rw [hxe,h1];simp [Builtin.append_,run_underlying hu,sizeOf,typeInfo,hi,Builtin.lenOf,Builtin.firstCells,loadCells,loadCellsFrom]
    refine finish w none [] _ hrun (hr.renew (ob:=ob) ho hm (by simp [he]) rfl rfl rfl (Nat.le_refl _) (fun _ _ _=>rfl) (fun _=>⟨by simp [hcells],rfl⟩) (by simp) (by simp)) ⟨rfl,rfl,rfl⟩
   ·rcases hcase with ⟨_,_,_,_,h0,_⟩|⟨b',o,cap,h1,hcell⟩
    ·exact (hc0 h0).elim
    ·have hrun:=run_append_nil (P:=P) w t tt e i z hu hi hz ⟨b',o,none⟩ c cap us (by rw [hk];exact huslen) (by
      intro j v hj
      have hlt:=(List.getElem?_eq_some_iff.1 hj).1
      rw [addr_add,hcell j hlt];exact hj) (by omega) (by omega) (by rw [hby];have:=hb.1;simp only [Nat.zero_add] at this;omega)
     refine fresh 0 [] [] (by rw [hcells];exact .nil) (by simp) (by simp) (by simp) (grownCap_ge _ _ _ _) ?_
     simp only [Nat.zero_add,List.nil_append,Array.empty_append] at hrun ⊢
     rw [hxe,h1];exact hrun
  |some p=>
   obtain ⟨b0,k0⟩:=p
   rw [hspot] at hown hob
   obtain ⟨cap,hxe,hcap0,hlc,hcm⟩:=hown
   obtain ⟨cur,t',fz,f',hF,hh,hcur,hle,hfz,htyp,hlo⟩:=hob
   obtain ⟨rfl,rfl⟩:=htyp e hty
   have hcurs:cur.size=cap*k:=by rw [hcur,←hcap0,hsz];omega
   have hndF:(b0::f').Nodup:=by rw [←hF];exact hr.objs.nodup id hid
   have holdsl:(cur.toList.take ob.cells.length).length=len*k:=by rw [←hlo.len];exact hol
   by_cases hroom:len+c≤cap
   ·
    obtain ⟨ad,mm,cc,hye,hnews⟩:∃ad mm cc,a.eval y=.slice ad mm cc∧mm=c∧((mm=0∧us=[])∨∃b' o,ad=some ⟨b',o,none⟩∧∀i,i<us.length→w.cell? ⟨b',o+i,none⟩=us[i]?):=by
     rcases hcase with ⟨ad,cp,h1,_,h2,h3⟩|⟨b',o,cap',h1,h2⟩
     ·exact ⟨ad,0,cp,h1,h2.symm,.inl ⟨rfl,h3⟩⟩
     ·exact ⟨some ⟨b',o,none⟩,c,cap',h1,rfl,.inr ⟨b',o,rfl,h2⟩⟩
    obtain ⟨rfl,hnews⟩:=hnews
    have hfit:len*i.size+us.length≤cur.size:=by rw [hk,huslen,hcurs,←Nat.add_mul];exact Nat.mul_le_mul_right _ hroom
    have hrun:(Builtin.append_ #[t,t] tt #[a.eval x,a.eval y]).run P w=
     .ok (.slice (some ⟨b0,0,none⟩) (len+mm) cap) (w.setRow b0 (cur.toList.take (len*i.size)++us++cur.toList.drop (len*i.size+us.length)).toArray):=by
     rcases hnews with ⟨rfl,rfl⟩|⟨b',o,rfl,hcell⟩
     ·have hself:w.setRow b0 (cur.toList.take (len*i.size)++[]++cur.toList.drop (len*i.size+([]:List Value).length)).toArray=w:=by
       have:(cur.toList.take (len*i.size)++[]++cur.toList.drop (len*i.size+([]:List Value).length)).toArray=cur:=by simp
       rw [this];exact setRow_self w b0 cur _ _ hh
      rw [hself,hxe,hye]
      have:len+0≤cap:=hroom
      cases ad<;>simp [Builtin.append_,run_underlying hu,sizeOf,typeInfo,hi,Builtin.lenOf,Builtin.firstCells,hlc,storeCells,loadCells,loadCellsFrom]
     ·rw [hxe,hye]
      exact run_append_room (P:=P) w t tt t' i hu hi b0 len cap cur hh ⟨b',o,none⟩ mm cc us (by rw [hk];exact huslen) (by
       intro j v hj
       have hlt:=(List.getElem?_eq_some_iff.1 hj).1
       rw [addr_add,hcell j hlt];exact hj) hone' hroom hfit
    have hsr:=setRow_heap w b0 cur (cur.toList.take (len*i.size)++us++cur.toList.drop (len*i.size+us.length)).toArray t' (0,0) hh
    have hso:∀b',b'≠b0→(w.setRow b0 (cur.toList.take (len*i.size)++us++cur.toList.drop (len*i.size+us.length)).toArray).heap[b']?=w.heap[b']?:=fun b' hb'=>setRow_other w b0 b' _ hb'
    refine finish _ (some (b0,k0)) (b0::f') _ hrun (hr.renew (ob:=ob) ho hm (by simp [he]) rfl rfl rfl (by simp) ?_ ?_ hndF ?_) ⟨cap,rfl,by rw [←hcap0,hsz],hroom,hcm⟩
    ·intro b' _ hb'
     refine hso b' ?_
     rintro rfl
     rcases hb' with hb'|⟨_,hb'⟩
     ·exact hb' (by rw [hF];simp)
     ·exact hb' k0 rfl
    ·intro hlat
     have hlenk:ob.cells.length=len*i.size:=by rw [hol,hk]
     refine ⟨_,t',(0,0),f',rfl,hsr,?_,?_,by simp,by simp,?_⟩
     ·rw [←hcur];simp;omega
     ·show (ob.cells++ys).length≤k0
      rw [hlenA,←hcur,hcurs];exact Nat.mul_le_mul_right _ hroom
     ·show LRel S _ _ _ (ob.cells++ys) _ f'
      have htk:(cur.toList.take (len*i.size)++us++cur.toList.drop (len*i.size+us.length)).take (ob.cells++ys).length=cur.toList.take (len*i.size)++us:=by
       refine List.take_left' ?_
       rw [List.length_append,List.length_append,←hl.len,←hlenk,←hlo.len]
      show LRel S _ _ _ (ob.cells++ys) ((cur.toList.take (len*i.size)++us++cur.toList.drop (len*i.size+us.length)).toArray.toList.take (ob.cells++ys).length) f'
      rw [show (cur.toList.take (len*i.size)++us++cur.toList.drop (len*i.size+us.length)).toArray.toList=cur.toList.take (len*i.size)++us++cur.toList.drop (len*i.size+us.length) from by simp,htk]
      have h1:=hlo.mono hlat (fun b' hb'=>hso b' (by rintro rfl;exact (List.nodup_cons.1 hndF).1 hb'))
      have h2:=hl.mono hlat (by simp)
      rw [hlenk] at h1
      simpa using h1.append h2
    ·intro b' hb';exact .inl (by rw [hF];exact hb')
   ·
    rcases hcase with ⟨_,_,_,_,h0,_⟩|⟨b',o,cap',h1,hcell⟩
    ·omega
    ·have hrun:=run_append_grow (P:=P) w t tt t' i z hu hi hz ⟨b0,0,none⟩ len cap (cur.toList.take ob.cells.length) (by rw [hk];exact holdsl) (by
      intro j v hj
      have hlt:=(List.getElem?_eq_some_iff.1 hj).1
      rw [addr_add,Nat.zero_add,cell_of_row w b0 j cur _ _ hh]
      rw [List.getElem?_take] at hj
      split at hj
      ·simpa using hj
      ·simp at hj) ⟨b',o,none⟩ c cap' us (by rw [hk];exact huslen) (by
      intro j v hj
      have hlt:=(List.getElem?_eq_some_iff.1 hj).1
      rw [addr_add,hcell j hlt];exact hj) (by omega) (by omega) (by rw [hby];exact growslice_fits (by omega) hb.1)
     refine fresh cap _ f' hlo (List.nodup_cons.1 hndF).2 (fun b hb=>by rw [hF];simp [hb]) (fun b1 k1 hb1=>by rw [hspot] at hb1;cases hb1;exact (List.nodup_cons.1 hndF).1) (grownCap_ge _ _ _ _) ?_
     rw [hxe,h1];exact hrun) h
end
end Go.Abs


namespace Go.Abs
open Go
theorem fold_set (xs:List Value):∀(s off:Nat) (arr:Array Value),off+s+xs.length≤arr.size→
 ((xs.zipIdx s).foldl (fun cs (c,j)=>cs.setIfInBounds (off+j) c) arr).toList=arr.toList.take (off+s)++xs++arr.toList.drop (off+s+xs.length):=by
 induction xs with
 |nil=>intro s off arr h;simp
 |cons x xs ih=>
  intro s off arr h
  simp only [List.length_cons] at h
  simp only [List.zipIdx_cons,List.foldl_cons]
  rw [ih (s+1) off _ (by simp;omega)]
  rw [Array.toList_setIfInBounds]
  have hlt:off+s<arr.toList.length:=by simp;omega
  rw [show off+(s+1)=off+s+1 from by omega,List.take_set,List.drop_set]
  rw [if_pos (by omega)]
  rw [List.take_succ_eq_append_getElem hlt,List.set_append_right _ _ (by simp;omega)]
  simp only [List.length_take,List.length_cons]
  rw [show off+s-min (off+s) arr.toList.length=0 from by omega]
  simp only [List.set_cons_zero,List.append_assoc,List.cons_append,List.nil_append]
  rw [show off+s+(xs.length+1)=off+s+1+xs.length from by omega]
theorem fill_in_order (k:Nat):∀(vs:List Value) (j:Nat) (arr:Array Value),(∀ v,v∈vs→v.cells.size=k)→(j+vs.length)*k≤arr.size→
 ∃out,Instr.fill (fun i=>some (i*k,k)) arr ((vs.zipIdx j).map (fun (v,i)=>(i,v)))=some out∧
  out.toList=arr.toList.take (j*k)++(vs.flatMap fun v=>v.cells.toList)++arr.toList.drop ((j+vs.length)*k):=by
 intro vs
 induction vs with
 |nil=>intro j arr _ _;exact ⟨arr,by simp [Instr.fill],by simp⟩
 |cons v vs ih=>
  intro j arr hk hle
  simp only [List.length_cons] at hle
  have hv:=hk v (by simp)
  have hjk:j*k+k≤arr.size:=by
   have:(j+1)*k≤(j+(vs.length+1))*k:=Nat.mul_le_mul_right _ (by omega)
   rw [Nat.add_mul] at this;omega
  have hcl:v.cells.toList.length=k:=by simpa using hv
  have hf:=fold_set v.cells.toList 0 (j*k) arr (by rw [hcl];omega)
  have hz:v.cells.zipIdx.foldl (fun cs (c,q)=>cs.setIfInBounds (j*k+q) c) arr=(v.cells.toList.zipIdx 0).foldl (fun cs (c,q)=>cs.setIfInBounds (j*k+q) c) arr:=by
   rw [←Array.foldl_toList,Array.toList_zipIdx]
  generalize harr:(v.cells.toList.zipIdx 0).foldl (fun cs (c,q)=>cs.setIfInBounds (j*k+q) c) arr=arr' at hf hz
  have hsz:arr'.size=arr.size:=by
   have h:=congrArg List.length hf
   rw [List.length_append,List.length_append,List.length_take,List.length_drop,hcl,Array.length_toList,Array.length_toList] at h
   omega
  obtain ⟨out,ho,hol⟩:=ih (j+1) arr' (fun v hv=>hk v (by simp [hv])) (by rw [hsz];rw [show j+1+vs.length=j+(vs.length+1) from by omega];exact hle)
  refine ⟨out,?_,?_⟩
  ·simp only [List.zipIdx_cons,List.map_cons]
   rw [Instr.fill]
   have hng:¬(j*k+k>arr.size):=by omega
   simp only [hv,ne_eq,not_true_eq_false,decide_false,hng,Bool.or_false,Bool.false_eq_true,if_false]
   exact hz▸ho
  ·rw [hol,hf]
   simp only [Nat.add_zero,hcl]
   have h1:(j+1)*k=j*k+k:=by rw [Nat.add_mul];omega
   have htl:(arr.toList.take (j*k)++v.cells.toList).length=j*k+k:=by simp [hcl];omega
   rw [h1,List.take_left' htl]
   rw [List.flatMap_cons]
   have h2:(j+1+vs.length)*k=(j*k+k)+vs.length*k:=by rw [Nat.add_mul,Nat.add_mul];omega
   have h3:(j+(v::vs).length)*k=j*k+k+vs.length*k:=by rw [List.length_cons,Nat.add_mul,Nat.add_mul];omega
   have hd:List.drop ((j+1+vs.length)*k) (List.take (j*k) arr.toList++v.cells.toList++List.drop (j*k+k) arr.toList)=List.drop ((j+(v::vs).length)*k) arr.toList:=by
    rw [h2,h3,List.drop_append,htl,List.drop_eq_nil_of_le (by rw [htl];omega),List.nil_append,List.drop_drop]
    congr 1;omega
   rw [hd]
   simp only [List.append_assoc]
theorem RelAt.evals {n m G S ι F T O a w} (hr:RelAt n m G S ι F ⟨T,O⟩ a w) (xs:List Operand):LRel S w ι O (xs.map (av T)) (xs.map a.eval) []:=by
 induction xs with
 |nil=>exact .nil
 |cons x xs ih=>simpa using LRel.cons (hr.eval x) ih
inductive Lit (T:List (Nat×AV)) (O:List AObj) (k:Nat):List Operand→List AV→Prop
 |nil:Lit T O k [] []
 |cons {x xs V ds cs} (hx:(av T x).force=some V) (hV:cellsV O V=some ds) (hk:ds.length=k) (h:Lit T O k xs cs):Lit T O k (x::xs) (ds++cs)
 |one {x xs V cs} (hx:(av T x).force=some V) (hV:oneB O V=true) (hk:k=1) (h:Lit T O k xs cs):Lit T O k (x::xs) (V::cs)
theorem Lit.rel {n m G S ι F T O a w k} (hr:RelAt n m G S ι F ⟨T,O⟩ a w) {xs cs} (h:Lit T O k xs cs):
 LRel S w ι O cs ((xs.map a.eval).flatMap fun v=>v.cells.toList) []∧(∀ v,v∈xs.map a.eval→v.cells.size=k)∧cs.length=xs.length*k:=by
 induction h with
 |nil=>exact ⟨.nil,by simp,by simp⟩
 |cons hx hV hk _ ih=>
  rename_i x xs V ds cs _
  have hv:=hr.eval x
  rw [show av (St.mk T O).T x=V from AV.force_eq hx] at hv
  obtain ⟨h1,h2,h3⟩:=ih
  have hc:=cellsV_rel hv hV
  refine ⟨by simpa using hc.append h1,?_,?_⟩
  ·intro u hu
   rcases List.mem_cons.1 hu with rfl|hu
   ·have:=hc.len;simp at this;omega
   ·exact h2 u hu
  ·rw [List.length_append,h3,hk,List.length_cons,Nat.add_mul];omega
 |one hx hV hk _ ih=>
  rename_i x xs V cs _
  have hv:=hr.eval x
  rw [show av (St.mk T O).T x=V from AV.force_eq hx] at hv
  obtain ⟨h1,h2,h3⟩:=ih
  have hc:=(one_of hv hV).2.1
  refine ⟨by simpa [hc] using LRel.cons hv h1,?_,?_⟩
  ·intro u hu
   rcases List.mem_cons.1 hu with rfl|hu
   ·rw [hc,hk];rfl
   ·exact h2 u hu
  ·subst hk;simp only [List.length_cons,h3];omega
section
variable {P:Program} {n m:Nat} {G:Ctx} {T:List (Nat×AV)} {O:List AObj} {Q:Exit→St→Prop} {ops:Array Oper} {l:List Oper} {d:Nat} {tt:TypeId} {pos:String} {after:Array Edge} {tab:List (Nat×Ty)}
theorem zip_parts (ρ:Operand→Value):∀(parts:List (Nat×Operand)) (j:Nat),parts.map (·.1)=List.range' j parts.length→
 parts.map (fun (i,x)=>(i,ρ x))=(((parts.map (·.2)).map ρ).zipIdx j).map (fun (v,i)=>(i,v)):=by
 intro parts
 induction parts with
 |nil=>intro j _;rfl
 |cons p parts ih=>
  intro j h
  simp only [List.map_cons,List.length_cons,List.range'_succ,List.cons.injEq] at h
  simp only [List.map_cons,List.zipIdx_cons]
  rw [ih (j+1) h.2,h.1]
theorem WpL.lit (hP:TabOk P tab) {t e k b len id:Nat} {zs cs:List AV} {parts:List (Nat×Operand)} (ht:tlook tab t=some (.slice e k b zs)) (hidx:parts.map (·.1)=List.range' 0 parts.length) (hlen:parts.length=len)
 (hlit:Lit T O k (parts.map (·.2)) cs) (hsm:len*k≤16777216) (hid:nid O 0=some id) (hn:d<n)
 (h:WpL P n m G false ops l ⟨(d,.own id 0 0 len)::T,O++[⟨cs,0,k,some e⟩]⟩ Q):
 WpL P n m G false ops ({dst:=some d,op:=.buildSlice t len parts.toArray,type:=tt,pos:=pos,after:=after,guard:=none}::l) ⟨T,O⟩ Q:=
 WpL.value rfl (fun a w hr=>by
  obtain ⟨S,ι,F,hr⟩:=hr
  have hid:id=O.length:=by have:=nid_eq hid;omega
  subst hid
  obtain ⟨hu,i,z,hi,hz,hk,hby,hzk,hk0,_⟩:=hP.slice ht
  obtain ⟨h1,h2,h3⟩:=hlit.rel hr
  have hvl:(parts.map (·.2)).length=len:=by simpa using hlen
  obtain ⟨out,ho,hol⟩:=fill_in_order k ((parts.map (·.2)).map a.eval) 0 ((Array.range (len*k)).map (z.cells[·%z.cells.size]!)) h2 (by simp [hlen])
  have hout:out.toList=((parts.map (·.2)).map a.eval).flatMap fun v=>v.cells.toList:=by
   rw [hol];simp [hlen]
  have hosz:out.size=len*k:=by
   have:=congrArg List.length hout
   rw [←h1.len,h3,hvl] at this
   simpa using this
  have hrun:(Instr.buildSlice t len (parts.toArray.map fun (i,x)=>(i,a.eval x))).run P w=.ok (.slice (some ⟨w.heap.size,0,none⟩) len len) (w.alloc (.cells out e)):=by
   have hpl:(parts.toArray.map fun (i,x)=>(i,a.eval x)).toList=(((parts.map (·.2)).map a.eval).zipIdx 0).map fun (v,i)=>(i,v):=by
    rw [Array.toList_map];exact zip_parts a.eval parts 0 hidx
   unfold Instr.buildSlice
   simp only [Sem.run_bind,run_underlying hu,Result.andThen_ok,run_sizeOf hi hk]
   rw [if_neg (by omega)]
   by_cases hlk:len*k=0
   ·have hr0:(Array.range (len*k))=#[]:=by rw [hlk];rfl
    simp only [hlk,if_true,Sem.run_pure,Result.andThen_ok]
    simp only [hlk,Array.range_zero',Array.map_empty] at ho
    rw [hpl]
    have hr1:Array.range 0=#[]:=rfl
    simp only [hr1,Array.map_empty,ho,newRow,newObj,Sem.run_bind,Sem.run,Result.andThen_ok,Sem.run_pure]
    rfl
   ·simp only [hlk,if_false,Sem.run_bind,zeroValue,typeInfo,hi,hz,Sem.run_pure,Result.andThen_ok,program,Sem.run]
    rw [hpl,ho]
    simp only [newRow,newObj,Sem.run_bind,Sem.run,Result.andThen_ok,Sem.run_pure]
    rfl
  have hr':=hr.alloc (ob:=⟨cs,0,k,some e⟩) (cur:=out) (t:=e) (fz:=(0,0)) (Adds.alloc w _) (by
   have:out.toList.take cs.length=out.toList:=List.take_of_length_le (by simp [hosz,h3,hvl])
   show LRel _ _ _ _ cs (out.toList.take cs.length) []
   rw [this,hout];exact h1) (by show cs.length≤_;rw [h3,hvl,hosz];exact Nat.le_refl _) (by simp) (by simp)
  refine ⟨.slice (some ⟨w.heap.size,0,none⟩) len len,w.alloc (.cells out e),by simp only [execOp,Sem.run_bind,hrun,Result.andThen_ok,Sem.run_pure],_,_,_,hr'.put hn ?_⟩
  exact own_new (ob:=⟨cs,0,k,some e⟩) hosz.symm (Nat.le_refl _) (by have:len≤len*k:=Nat.le_mul_of_pos_right _ hk0;simp only [maxLen];omega)) h
theorem made_flat (z:Array Value) (n:Nat):(madeCells z (n*z.size)).toList=(List.replicate n z.toList).flatten:=by
 induction n with
 |zero=>simp [madeCells]
 |succ n ih=>
  rw [List.replicate_succ',List.flatten_append,←ih]
  simp only [madeCells,Array.toList_map,Array.toList_range]
  rw [Nat.add_mul,Nat.one_mul,List.range_add,List.map_append]
  congr 1
  simp only [List.flatten_cons,List.flatten_nil,List.append_nil,List.map_map]
  apply List.ext_getElem
  ·simp
  ·intro i h1 h2
   have hi:i<z.size:=by simpa using h1
   simp [Nat.mul_add_mod_self_right,Nat.mod_eq_of_lt hi,hi,Nat.add_comm (n*z.size) i,Nat.add_mul_mod_self_right]
theorem lrel_flat {S w ι O} (vs:List Value) (n:Nat):LRel S w ι O (List.replicate n (vs.map zav)).flatten (List.replicate n vs).flatten []:=by
 induction n with
 |zero=>exact .nil
 |succ n ih=>
  rw [List.replicate_succ,List.replicate_succ,List.flatten_cons,List.flatten_cons]
  simpa using (lrel_zav vs).append ih
theorem WpL.make (hP:TabOk P tab) {t e k b id:Nat} {zs:List AV} {x y:Operand} {kl kc:IntKind} {p:Int} (ht:tlook tab t=some (.slice e k b zs)) (hx:av T x=.sc (.int kl p)) (hy:av T y=.sc (.int kc p))
 (hp:0≤p) (hb:(b:Int)*p≤281474976710656∧p≤9223372036854775807) (hid:nid O 0=some id) (hn:d<n)
 (h:WpL P n m G false ops l ⟨(d,.own id 0 0 p.toNat)::T,O++[⟨(List.replicate p.toNat zs).flatten,0,k,some e⟩]⟩ Q):
 WpL P n m G false ops ({dst:=some d,op:=.makeSlice t x y,type:=tt,pos:=pos,after:=after,guard:=none}::l) ⟨T,O⟩ Q:=
 WpL.value rfl (fun a w hr=>by
  obtain ⟨S,ι,F,hr⟩:=hr
  have hid:id=O.length:=by have:=nid_eq hid;omega
  subst hid
  obtain ⟨hu,i,z,hi,hz,hk,hby,hzk,hk0,rfl⟩:=hP.slice ht
  have hrun:=run_make (P:=P) w t e i z hu hi hz kl kc p p hp (Int.le_refl _) (by rw [hby];exact hb.1) hb.2
  have hcl:(madeCells z.cells (p.toNat*i.size)).toList=(List.replicate p.toNat z.cells.toList).flatten:=by rw [hk,←hzk];exact made_flat _ _
  have hsz:(madeCells z.cells (p.toNat*i.size)).size=p.toNat*k:=by rw [size_madeCells,hk]
  have hlen:(List.replicate p.toNat (z.cells.toList.map zav)).flatten.length=p.toNat*k:=by simp [hzk]
  have hr':=hr.alloc (ob:=⟨(List.replicate p.toNat (z.cells.toList.map zav)).flatten,0,k,some e⟩) (cur:=madeCells z.cells (p.toNat*i.size)) (t:=e) (fz:=(0,0)) (Adds.alloc w _) (by
   show LRel _ _ _ _ (List.replicate p.toNat (z.cells.toList.map zav)).flatten ((madeCells z.cells (p.toNat*i.size)).toList.take _) []
   rw [hcl,List.take_of_length_le (by rw [hlen];simp [hzk])]
   exact lrel_flat _ _) (by rw [hsz];show (List.replicate p.toNat (z.cells.toList.map zav)).flatten.length≤_;rw [hlen];exact Nat.le_refl _) (by simp) (by simp)
  refine ⟨.slice (some ⟨w.heap.size,0,none⟩) p.toNat p.toNat,_,by simp only [execOp,hr.sc hx,hr.sc hy,Sem.run_bind,hrun,Result.andThen_ok,Sem.run_pure],_,_,_,hr'.put hn ?_⟩
  exact own_new (ob:=⟨(List.replicate p.toNat (z.cells.toList.map zav)).flatten,0,k,some e⟩) hsz.symm (Nat.le_refl _) (by simp only [maxLen];omega)) h
theorem flat_ints (n:Nat):(List.replicate n [AV.sc (.int .i64 0)]).flatten=ints (List.replicate n 0):=by
 induction n with
 |zero=>rfl
 |succ n ih=>rw [List.replicate_succ,List.flatten_cons,ih,List.replicate_succ];rfl
theorem WpL.makeInts (hP:TabOk P tab) {t e b id:Nat} {x y:Operand} {kl kc:IntKind} {p:Int} (ht:tlook tab t=some (.slice e 1 b [.sc (.int .i64 0)])) (hx:av T x=.sc (.int kl p)) (hy:av T y=.sc (.int kc p))
 (hp:0≤p) (hb:(b:Int)*p≤281474976710656∧p≤9223372036854775807) (hid:nid O 0=some id) (hn:d<n)
 (h:WpL P n m G false ops l ⟨(d,.own id 0 0 p.toNat)::T,O++[⟨ints (List.replicate p.toNat 0),0,1,some e⟩]⟩ Q):
 WpL P n m G false ops ({dst:=some d,op:=.makeSlice t x y,type:=tt,pos:=pos,after:=after,guard:=none}::l) ⟨T,O⟩ Q:=
 WpL.make hP ht hx hy hp hb hid hn (by rw [flat_ints];exact h)
theorem all_u8s (O:List AObj) (xs:List Int):(u8s xs).all (oneB O)=true:=by
 rw [List.all_eq_true];intro V hV;simp only [u8s,List.mem_map] at hV;obtain ⟨x,_,rfl⟩:=hV;rfl
theorem all_ints (O:List AObj) (xs:List Int):(ints xs).all (oneB O)=true:=by
 rw [List.all_eq_true];intro V hV;simp only [ints,List.mem_map] at hV;obtain ⟨x,_,rfl⟩:=hV;rfl
theorem all_strs (O:List AObj) (xs:List (List UInt8)):(strs xs).all (oneB O)=true:=by
 rw [List.all_eq_true];intro V hV;simp only [strs,List.mem_map] at hV;obtain ⟨x,_,rfl⟩:=hV;rfl
theorem lrel_u8s {S w ι O xs us f} (hl:LRel S w ι O (u8s xs) us f):us=xs.map (Value.int .u8):=by
 induction xs generalizing us f with
 |nil=>cases hl;rfl
 |cons x xs ih=>
  obtain ⟨v,vs',f1,f2,rfl,hv,hr,hf⟩:=LRel.uncons hl
  rw [hv.sc_eq,ih hr];rfl
theorem WpL.ofBytes (hP:TabOk P tab) {s t e b c:Nat} {zs:List AV} {x:Operand} {Vx:AV} {xs:List Int} (hs:tlook tab s=some (.slice e 1 b zs)) (ht:tlook tab t=some .string) (he:tlook tab e=some (.int .u8))
 (hx:(av T x).force=some Vx) (hsrc:srcB O Vx=some (u8s xs,c)) (hc:xs.length=c) (hn:d<n)
 (h:WpL P n m G false ops l ⟨(d,.sc (.string ⟨(xs.map fun n=>UInt8.ofNat n.toNat).toArray⟩))::T,O⟩ Q):
 WpL P n m G false ops ({dst:=some d,op:=.convert s t x,type:=tt,pos:=pos,after:=after,guard:=none}::l) ⟨T,O⟩ Q:=
 WpL.pure rfl rfl hn (fun S ι F a w hr=>by
  have hsu:=(hP.slice hs).1
  have htu:=(hP.ty ht).1
  have heu:=(hP.ty he).1
  have hv:=hr.eval x
  rw [show av (St.mk T O).T x=Vx from AV.force_eq hx] at hv
  have hone:(u8s xs).all (oneB O)=true:=all_u8s O xs
  obtain ⟨us,hl,_,hcase⟩:=src_cells (k:=1) hr.objs hv hsrc (by simp [hc]) hone
  have hus:us=xs.map (Value.int .u8):=lrel_u8s hl
  refine ⟨_,?_,.sc .nil⟩
  rcases hcase with ⟨ad,cp,h1,_,h2,h3⟩|⟨b',o,cap,h1,hcell⟩
  ·subst h3
   have hx0:xs=[]:=by cases xs with|nil=>rfl|cons x xs=>simp at hus
   subst hx0
   have hrun:∀dst,P.underlying dst=some .string→(convert s dst (.slice ad 0 cp)).run P w=.ok (.string ByteArray.empty) w:=by
    intro dst hd
    cases ad with
    |none=>exact run_convert_bytes_nil (P:=P) w s e hsu heu 0 cp dst hd
    |some ad=>
     rw [run_convert_bytes_string w s dst e _ 0 cp hsu heu hd]
     simp [Conv.bytesToString,loadCells,loadCellsFrom]
   have:=hrun
   simp only [execOp,h1,Sem.run_bind,this t htu,Result.andThen_ok,Sem.run_pure]
   rfl
  ·have:=run_convert_bytes_arg (P:=P) w s e hsu heu b' o c cap xs hc (by
    intro i hi
    rw [hcell i (by rw [hus];simp;omega),hus]
    simp [hc,hi,List.getD]) t htu
   simp only [execOp,h1,Sem.run_bind,this,Result.andThen_ok,Sem.run_pure]
   rfl) h
end
end Go.Abs


namespace Go.Abs
open Go
def AV.still:AV→Bool
 |.own _ _ _ _=>false
 |.ptr _ _ _=>false
 |.agg _=>false
 |.tup _=>false
 |.fn _ (_::_)=>false
 |.ifc _ (.sc _)=>true
 |.ifc _ _=>false
 |_=>true
theorem still_any {S w ι O S' w' ι' V x f} (h:VRel S w ι O V x f) (hs:V.still=true) (O':List AObj) (h1:∀b,S b→S' b) (h2:∀b,S b→w'.heap[b]?=w.heap[b]?) (hf:∀b∈f,w'.heap[b]?=w.heap[b]?):VRel S' w' ι' O' V x f:=by
 have hn:Later S w ι [] S' w' ι' O':=Later.none O' h1 h2
 cases h with
 |any r=>cases r;exact .any .nil
 |sc r=>cases r;exact .sc .nil
 |agg=>simp [AV.still] at hs
 |tup=>simp [AV.still] at hs
 |nilS r=>cases r;exact .nilS .nil
 |imm0 h0 r=>cases r;exact .imm0 h0 .nil
 |imm a b c d e g r=>cases r;exact LRel.mono hn (.imm (O:=[]) a b c d e g .nil) hf
 |fre0 r=>cases r;exact .fre0 .nil
 |fre a b c d e g i r=>cases r;exact LRel.mono hn (.fre (O:=[]) a b c d e g i .nil) hf
 |own=>simp [AV.still] at hs
 |ptr=>simp [AV.still] at hs
 |iptr a b c r=>cases r;exact LRel.mono hn (.iptr (O:=[]) a b c .nil) hf
 |fn a r=>
  rename_i ff ds us
  cases r
  cases ds with
  |nil=>cases a;exact .fn .nil .nil
  |cons d ds=>simp [AV.still] at hs
 |ifc a r=>
  rename_i t v x
  cases r
  cases v<;>simp [AV.still] at hs
  cases a with
  |sc r=>cases r;exact .ifc (.sc .nil) .nil
def AV.simple:AV→Bool
 |.sc _=>true
 |.nilS=>true
 |.imm _ _ _=>true
 |.iptr _ _=>true
 |_=>false
theorem simple_all {S w ι O O'}:∀{ds:List AV} {us f},LRel S w ι O ds us f→ds.all AV.simple=true→LRel S w ι O' ds us f
 |[],us,f,h,_=>by cases h;exact .nil
 |d::ds,us,f,h,hs=>by
  simp only [List.all_cons,Bool.and_eq_true] at hs
  obtain ⟨v,vs',f1,f2,rfl,hv,hr,rfl⟩:=h.uncons
  have hst:d.still=true:=by cases d<;>simp_all [AV.simple,AV.still]
  exact LRel.cons (still_any hv hst O' (fun _ h=>h) (fun _ _=>rfl) (fun _ _=>rfl)) (simple_all hr hs.2)
inductive Re (O O':List AObj):List AV→List AV→Prop
 |nil:Re O O' [] []
 |any {V vs us}:Re O O' vs us→Re O O' (V::vs) (.any::us)
 |keep {V V' vs us}:V=V'→V'.still=true→Re O O' vs us→Re O O' (V::vs) (V'::us)
 |fn {f ds vs us}:ds.all AV.simple=true→Re O O' vs us→Re O O' (.fn f ds::vs) (.fn f ds::us)
 |own {id ep ep' off len len' ob ob' vs us}:O[id]?=some ob→O'[id]?=some ob'→ob.ep=ep→ob'.ep=ep'→ob'.size=ob.size→len=len'→Re O O' vs us→Re O O' (.own id ep off len::vs) (.own id ep' off len'::us)
 |ptr {id ep ep' off ob ob' vs us}:O[id]?=some ob→O'[id]?=some ob'→ob.ep=ep→ob'.ep=ep'→Re O O' vs us→Re O O' (.ptr id ep off::vs) (.ptr id ep' off::us)
 |agg {ds es vs us}:Re O O' ds es→Re O O' vs us→Re O O' (.agg ds::vs) (.agg es::us)
 |tup {ds es vs us}:Re O O' ds es→Re O O' vs us→Re O O' (.tup ds::vs) (.tup es::us)
theorem Re.same {O O':List AObj} {cs cs':List AV} (h:cs=cs') (hs:cs'.all AV.still=true):Re O O' cs cs':=by
 subst h
 induction cs with
 |nil=>exact .nil
 |cons c cs ih=>
  simp only [List.all_cons,Bool.and_eq_true] at hs
  exact .keep rfl hs.1 (ih hs.2)
theorem still_ints (xs:List Int):(ints xs).all AV.still=true:=by
 rw [List.all_eq_true];intro V hV;simp only [ints,List.mem_map] at hV;obtain ⟨x,_,rfl⟩:=hV;rfl
theorem still_u8s (xs:List Int):(u8s xs).all AV.still=true:=by
 rw [List.all_eq_true];intro V hV;simp only [u8s,List.mem_map] at hV;obtain ⟨x,_,rfl⟩:=hV;rfl
theorem still_bools (xs:List Bool):(bools xs).all AV.still=true:=by
 rw [List.all_eq_true];intro V hV;simp only [bools,List.mem_map] at hV;obtain ⟨x,_,rfl⟩:=hV;rfl
theorem still_strs (xs:List (List UInt8)):(strs xs).all AV.still=true:=by
 rw [List.all_eq_true];intro V hV;simp only [strs,List.mem_map] at hV;obtain ⟨x,_,rfl⟩:=hV;rfl
theorem Re.rel {O O':List AObj} {S w ι} {vs us:List AV} (h:Re O O' vs us):∀{xs f},LRel S w ι O vs xs f→∃f',LRel S w ι O' us xs f'∧(∀ b∈f',b∈f)∧(f.Nodup→f'.Nodup):=by
 induction h with
 |nil=>intro xs f hl;cases hl;exact ⟨[],.nil,by simp,by simp⟩
 |any _ ih=>
  intro xs f hl
  obtain ⟨v,vs',f1,f2,rfl,hv,hr,rfl⟩:=hl.uncons
  obtain ⟨f',h1,h2,h3⟩:=ih hr
  exact ⟨f',.any h1,fun b hb=>List.mem_append_right _ (h2 b hb),fun hn=>h3 (List.nodup_append.1 hn).2.1⟩
 |keep he hs _ ih=>
  intro xs f hl
  subst he
  obtain ⟨v,vs',f1,f2,rfl,hv,hr,rfl⟩:=hl.uncons
  obtain ⟨f',h1,h2,h3⟩:=ih hr
  refine ⟨f1++f',LRel.cons (still_any hv hs O' (fun _ h=>h) (fun _ _=>rfl) (fun _ _=>rfl)) h1,?_,?_⟩
  ·intro b hb
   rcases List.mem_append.1 hb with hb|hb
   ·exact List.mem_append_left _ hb
   ·exact List.mem_append_right _ (h2 b hb)
  ·intro hn
   obtain ⟨n1,n2,n3⟩:=List.nodup_append.1 hn
   exact List.nodup_append.2 ⟨n1,h3 n2,fun a ha b hb=>n3 a ha b (h2 b hb)⟩
 |fn hs _ ih=>
  intro xs f hl
  obtain ⟨v,vs',f1,f2,rfl,hv,hr,rfl⟩:=hl.uncons
  obtain ⟨f',h1,h2,h3⟩:=ih hr
  refine ⟨f',?_,fun b hb=>List.mem_append_right _ (h2 b hb),fun hn=>h3 (List.nodup_append.1 hn).2.1⟩
  cases hv with
  |fn a r=>cases r;exact .fn (simple_all a hs) h1
 |own ho ho' he he' hsz hln _ ih=>
  intro xs f hl
  subst hln
  obtain ⟨v,vs',f1,f2,rfl,hv,hr,rfl⟩:=hl.uncons
  obtain ⟨f',h1,h2,h3⟩:=ih hr
  refine ⟨f',?_,fun b hb=>List.mem_append_right _ (h2 b hb),fun hn=>h3 (List.nodup_append.1 hn).2.1⟩
  cases hv with
  |own q1 q2 q3 r=>
   rw [ho] at q1;cases q1
   exact .own ho' (by omega) (fun _=>by rw [hsz];exact q3 he.symm) h1
 |ptr ho ho' he he' _ ih=>
  intro xs f hl
  obtain ⟨v,vs',f1,f2,rfl,hv,hr,rfl⟩:=hl.uncons
  obtain ⟨f',h1,h2,h3⟩:=ih hr
  refine ⟨f',?_,fun b hb=>List.mem_append_right _ (h2 b hb),fun hn=>h3 (List.nodup_append.1 hn).2.1⟩
  cases hv with
  |ptr q1 q2 q3 r=>
   rw [ho] at q1;cases q1
   exact .ptr ho' (by omega) (fun _=>q3 he.symm) h1
 |agg _ _ ih1 ih2=>
  intro xs f hl
  obtain ⟨v,vs',f1,f2,rfl,hv,hr,rfl⟩:=hl.uncons
  obtain ⟨us',rfl,ha⟩:=LRel.agg_inv hv
  obtain ⟨g',a1,a2,a3⟩:=ih1 ha
  obtain ⟨f',h1,h2,h3⟩:=ih2 hr
  refine ⟨g'++f',.agg a1 h1,?_,?_⟩
  ·intro b hb
   rcases List.mem_append.1 hb with hb|hb
   ·exact List.mem_append_left _ (a2 b hb)
   ·exact List.mem_append_right _ (h2 b hb)
  ·intro hn
   obtain ⟨n1,n2,n3⟩:=List.nodup_append.1 hn
   exact List.nodup_append.2 ⟨a3 n1,h3 n2,fun a ha b hb=>n3 a (a2 a ha) b (h2 b hb)⟩
 |tup _ _ ih1 ih2=>
  intro xs f hl
  obtain ⟨v,vs',f1,f2,rfl,hv,hr,rfl⟩:=hl.uncons
  obtain ⟨us',rfl,ha⟩:=LRel.tup_inv hv
  obtain ⟨g',a1,a2,a3⟩:=ih1 ha
  obtain ⟨f',h1,h2,h3⟩:=ih2 hr
  refine ⟨g'++f',.tup a1 h1,?_,?_⟩
  ·intro b hb
   rcases List.mem_append.1 hb with hb|hb
   ·exact List.mem_append_left _ (a2 b hb)
   ·exact List.mem_append_right _ (h2 b hb)
  ·intro hn
   obtain ⟨n1,n2,n3⟩:=List.nodup_append.1 hn
   exact List.nodup_append.2 ⟨a3 n1,h3 n2,fun a ha b hb=>n3 a (a2 a ha) b (h2 b hb)⟩
inductive ReT (O O':List AObj) (T:List (Nat×AV)):List (Nat×AV)→Prop
 |nil:ReT O O' T []
 |cons {t V T'}:Re O O' [look T t] [V]→ReT O O' T T'→ReT O O' T ((t,V)::T')
theorem ReT.at {O O' T T'} (h:ReT O O' T T') (t:Nat):Re O O' [look T t] [look T' t]:=by
 induction h with
 |nil=>exact .any .nil
 |@cons k V T' hk _ ih=>
  by_cases he:k=t
  ·subst he;rw [look_cons_same];exact hk
  ·rw [look_cons_other _ _ _ _ he];exact ih
inductive ReO (O O':List AObj):List AObj→List AObj→Prop
 |nil {os}:ReO O O' os []
 |cons {ob ob' os os'}:Re O O' ob.cells ob'.cells→(ob'.ty=none∨ob'.ty=ob.ty)→ReO O O' os os'→ReO O O' (ob::os) (ob'::os')
theorem ReO.at {O O' os os'} (h:ReO O O' os os') {id:Nat} {ob':AObj} (hi:os'[id]?=some ob'):∃ob,os[id]?=some ob∧Re O O' ob.cells ob'.cells∧(ob'.ty=none∨ob'.ty=ob.ty):=by
 induction h generalizing id with
 |nil=>simp at hi
 |cons h1 h2 _ ih=>
  cases id with
  |zero=>simp at hi;subst hi;exact ⟨_,by simp,h1,h2⟩
  |succ id=>simpa using ih (by simpa using hi)
theorem Weak.mk {m:Nat} {T T':List (Nat×AV)} {O O':List AObj} (hT:ReT O O' T T') (hO:ReO O O' O O') (hm:m≤O'.length):Weak m ⟨T,O⟩ ⟨T',O'⟩:=by
 rintro n G a w ⟨S,ι,F,hr⟩
 have hex:∀id,∃f,∀ob',O'[id]?=some ob'→ObjAt S w ι O' ob' (ι id) f∧(∀ b∈f,b∈F id)∧f.Nodup:=by
  intro id
  cases hi:O'[id]? with
  |none=>exact ⟨[],by simp⟩
  |some ob'=>
   obtain ⟨ob,ho,hre,hty⟩:=hO.at hi
   have hid:id<O.length:=(List.getElem?_eq_some_iff.1 ho).1
   have hob:=hr.objs.obj id ob ho
   unfold ObjAt at hob
   cases hs:ι id with
   |none=>
    rw [hs] at hob
    refine ⟨[],fun ob2 h2=>?_⟩
    cases h2
    refine ⟨?_,by simp,by simp⟩
    rw [hob.1] at hre
    unfold ObjAt
    cases hc:ob'.cells with
    |nil=>exact ⟨rfl,rfl⟩
    |cons c cs=>rw [hc] at hre;cases hre
   |some p=>
    obtain ⟨b,k⟩:=p
    rw [hs] at hob
    obtain ⟨cur,t,fz,f',hF,h1,h2,h3,h4,h5,h6⟩:=hob
    obtain ⟨g,g1,g2,g3⟩:=hre.rel h6
    have hnd:(b::f').Nodup:=by rw [←hF];exact hr.objs.nodup id hid
    have hlen:ob'.cells.length=ob.cells.length:=by
     have e1:=g1.len
     have e2:=h6.len
     omega
    refine ⟨b::g,fun ob2 hh=>?_⟩
    cases hh
    refine ⟨⟨cur,t,fz,g,rfl,h1,h2,by omega,h4,fun e he=>?_,by rw [hlen];exact g1⟩,?_,?_⟩
    ·rcases hty with hty|hty
     ·rw [hty] at he;cases he
     ·exact h5 e (by rw [←hty];exact he)
    ·intro b' hb'
     rw [hF]
     rcases List.mem_cons.1 hb' with rfl|hb'
     ·simp
     ·simp [g2 b' hb']
    ·exact List.nodup_cons.2 ⟨fun hb=>(List.nodup_cons.1 hnd).1 (g2 b hb),g3 (List.nodup_cons.1 hnd).2⟩
 have hFx:∃F':Nat→List Nat,∀id ob',O'[id]?=some ob'→ObjAt S w ι O' ob' (ι id) (F' id)∧(∀ b∈F' id,b∈F id)∧(F' id).Nodup:=
  ⟨fun id=>(hex id).choose,fun id=>(hex id).choose_spec⟩
 obtain ⟨F',hF'⟩:=hFx
 have hle:∀id,id<O'.length→id<O.length:=by
  intro id hid
  obtain ⟨ob,ho,_⟩:=hO.at (List.getElem?_eq_getElem hid)
  exact (List.getElem?_eq_some_iff.1 ho).1
 refine ⟨S,ι,F',hr.defers,hr.size,fun t=>?_,⟨fun id ob' h=>(hF' id ob' h).1,fun id h=>(hF' id _ (List.getElem?_eq_getElem h)).2.2,fun i j hi hj hij b hb hb'=>?_⟩,fun id h b hb=>?_,hr.base,hr.stable,hr.keeps,hr.spots,hm⟩
 ·obtain ⟨f',h1,h2,_⟩:=(hT.at t).rel (hr.tmps t)
  have:f'=[]:=List.eq_nil_iff_forall_not_mem.2 fun b hb=>by simpa using h2 b hb
  subst this
  exact h1
 ·have hi:i<O'.length:=hi
  have hj:j<O'.length:=hj
  exact hr.objs.apart i j (hle i hi) (hle j hj) hij b ((hF' i _ (List.getElem?_eq_getElem hi)).2.1 b hb) ((hF' j _ (List.getElem?_eq_getElem hj)).2.1 b hb')
 ·have h:id<O'.length:=h
  exact hr.foot id (hle id h) b ((hF' id _ (List.getElem?_eq_getElem h)).2.1 b hb)
def Runs (P:Program) (f:FuncId):Prop:=∃fn,P.funcs[f]?=some fn∧fn.body.isNone=false∧(fn.name== "runtime.NumGoroutine")=false
def FnC (P:Program) (f:FuncId) (args:List AV) (N:List AObj) (r:AV):Prop:=
 Runs P f∧∀(w:World) (S:Nat→Prop) (vs:List Value),(∀ b,S b→b<w.heap.size)→GlbOk S w→LRel S w (fun _=>none) [] args vs []→
  Calls P f vs.toArray w fun e w'=>∃v S' ι F,e=.returned v∧(∀ b,S b→S' b)∧(∀ b,S' b→S b∨w.heap.size≤b)∧(∀ b,S' b→b<w'.heap.size)∧ORel S' w' ι N F∧
   (∀ id,id<N.length→∀b∈F id,w.heap.size≤b∧¬S' b∧b<w'.heap.size)∧VRel S' w' ι N r v []∧Keeps w (fun _=>False) w'
inductive Snap (O:List AObj):List AV→List AV→Prop
 |nil:Snap O [] []
 |any {V vs us}:Snap O vs us→Snap O (V::vs) (.any::us)
 |keep {V vs us}:V.still=true→V.nofre=true→Snap O vs us→Snap O (V::vs) (V::us)
 |nilI {s vs us}:Snap O vs us→Snap O (.nilS::vs) (.imm s 0 []::us)
 |own {id ep len len' sz ob es vs us}:O[id]?=some ob→ob.ep=ep→ob.size=sz→len*ob.size=ob.cells.length→len=len'→Snap O ob.cells es→Snap O vs us→Snap O (.own id ep 0 len::vs) (.imm sz len' es::us)
 |ownO {id ep off len len' sz ob ds es vs us}:O[id]?=some ob→ob.ep=ep→ob.size=sz→ob.cells.drop off=ds→len*ob.size=ds.length→len=len'→Snap O ds es→Snap O vs us→Snap O (.own id ep off len::vs) (.imm sz len' es::us)
 |fre {s l ds es vs us}:Snap O ds es→Snap O vs us→Snap O (.fre s l ds::vs) (.imm s l es::us)
 |ptr {id ep off ob es vs us}:O[id]?=some ob→ob.ep=ep→Snap O ob.cells es→Snap O vs us→Snap O (.ptr id ep off::vs) (.iptr es off::us)
 |agg {ds es vs us}:Snap O ds es→Snap O vs us→Snap O (.agg ds::vs) (.agg es::us)
 |fn {f ds es vs us}:Snap O ds es→Snap O vs us→Snap O (.fn f ds::vs) (.fn f es::us)
theorem Snap.same {O:List AObj} {cs cs':List AV} (h:cs=cs') (hs:cs'.all AV.still=true) (hf:cs'.all AV.nofre=true):Snap O cs cs':=by
 subst h
 induction cs with
 |nil=>exact .nil
 |cons c cs ih=>
  simp only [List.all_cons,Bool.and_eq_true] at hs hf
  exact .keep hs.1 hf.1 (ih hs.2 hf.2)
theorem nofre_ints (xs:List Int):(ints xs).all AV.nofre=true:=by
 rw [List.all_eq_true];intro V hV;simp only [ints,List.mem_map] at hV;obtain ⟨x,_,rfl⟩:=hV;rfl
theorem nofre_u8s (xs:List Int):(u8s xs).all AV.nofre=true:=by
 rw [List.all_eq_true];intro V hV;simp only [u8s,List.mem_map] at hV;obtain ⟨x,_,rfl⟩:=hV;rfl
theorem nofre_bools (xs:List Bool):(bools xs).all AV.nofre=true:=by
 rw [List.all_eq_true];intro V hV;simp only [bools,List.mem_map] at hV;obtain ⟨x,_,rfl⟩:=hV;rfl
theorem nofre_strs (xs:List (List UInt8)):(strs xs).all AV.nofre=true:=by
 rw [List.all_eq_true];intro V hV;simp only [strs,List.mem_map] at hV;obtain ⟨x,_,rfl⟩:=hV;rfl
theorem cell_of_heap {w:World} {b:Nat} {cur:Array Value} {t:TypeId} {fz:Nat×Nat} (h:w.heap[b]?=some (.cells cur t fz)) (n i:Nat) (hi:i<(cur.toList.take n).length):w.cell? ⟨b,0+i,none⟩=(cur.toList.take n)[i]?:=by
 rw [Nat.zero_add,cell_of_row w b i cur t fz h,List.getElem?_take,if_pos (by simp at hi;omega)]
 simp
theorem Snap.rel {O:List AObj} {S w ι ι'} {vs us:List AV} (h:Snap O vs us):∀{F xs f},ORel S w ι O F→(∀ b,S b→b<w.heap.size)→LRel S w ι O vs xs f→LRel (fun b=>b<w.heap.size) w ι' [] us xs []:=by
 have blk:∀{b:Nat} {o:Obj},w.heap[b]?=some o→b<w.heap.size:=fun h=>(Array.getElem?_eq_some_iff.1 h).1
 induction h with
 |nil=>intro F xs f _ _ hl;cases hl;exact .nil
 |any _ ih=>
  intro F xs f ho hS hl
  obtain ⟨v,vs',f1,f2,rfl,hv,hr,rfl⟩:=hl.uncons
  exact .any (ih ho hS hr)
 |keep hs hn _ ih=>
  intro F xs f ho hS hl
  obtain ⟨v,vs',f1,f2,rfl,hv,hr,rfl⟩:=hl.uncons
  have:=nofre_nil hv hn
  subst this
  have:=LRel.cons (still_any hv hs [] hS (fun _ _=>rfl) (by simp)) (ih ho hS hr)
  simpa using this
 |fn _ _ ih1 ih2=>
  intro F xs f ho hS hl
  obtain ⟨v,vs',f1,f2,rfl,hv,hr,rfl⟩:=hl.uncons
  cases hv with|fn a r=>cases r;exact .fn (ih1 ho hS a) (ih2 ho hS hr)
 |nilI _ ih=>
  intro F xs f ho hS hl
  obtain ⟨v,vs',f1,f2,rfl,hv,hr,rfl⟩:=hl.uncons
  have:=(LRel.slice_len hv).2.2 rfl
  subst this
  exact .imm0 (by simp) (ih ho hS hr)
 |@own id ep len len' sz ob es vs us hob hep hsz hlen hll _ _ ih1 ih2=>
  intro F xs f ho hS hl
  subst hll hsz
  obtain ⟨v,vs',f1,f2,rfl,hv,hr,rfl⟩:=hl.uncons
  have hoa:=ho.obj id ob hob
  unfold ObjAt at hoa
  cases hv with
  |own q1 q2 q3 r=>
   rw [hob] at q1;cases q1
   have hc:=q3 hep.symm
   cases hs:ι id with
   |none=>
    rw [hs] at hc hoa
    obtain ⟨h1,_,h3⟩:=hc
    subst h1;subst h3
    have:es=[]:=by
     have:=ih1 (xs:=[]) (f:=[]) ho hS (by rw [hoa.1];exact .nil)
     cases this;rfl
    subst this
    exact .imm0 (by simp) (ih2 ho hS hr)
   |some p=>
    obtain ⟨b,k⟩:=p
    rw [hs] at hc hoa
    obtain ⟨cap,h1,_,h3,h4⟩:=hc
    obtain ⟨cur,t,fz,f',_,hh,_,_,_,_,hl'⟩:=hoa
    subst h1
    have hi:=ih1 ho hS hl'
    refine .imm (us:=cur.toList.take ob.cells.length) (blk hh) (fun i hi=>cell_of_heap hh _ i hi) hi ?_ h3 h4 (ih2 ho hS hr)
    rw [hlen,hl'.len,hi.len]
 |@ownO id ep off len len' sz ob ds es vs us hob hep hsz hds hlen hll _ _ ih1 ih2=>
  intro F xs f ho hS hl
  subst hll hsz hds
  obtain ⟨v,vs',f1,f2,rfl,hv,hr,rfl⟩:=hl.uncons
  have hoa:=ho.obj id ob hob
  unfold ObjAt at hoa
  cases hv with
  |own q1 q2 q3 r=>
   rw [hob] at q1;cases q1
   have hc:=q3 hep.symm
   cases hs:ι id with
   |none=>
    rw [hs] at hc hoa
    obtain ⟨h1,h2,h3⟩:=hc
    subst h1;subst h3
    have:es=[]:=by
     have:=ih1 (xs:=[]) (f:=[]) ho hS (by rw [hoa.1];simpa using .nil)
     cases this;rfl
    subst this
    exact .imm0 (by simp) (ih2 ho hS hr)
   |some p=>
    obtain ⟨b,k⟩:=p
    rw [hs] at hc hoa
    obtain ⟨cap,h1,_,h3,h4⟩:=hc
    obtain ⟨cur,t,fz,f',_,hh,_,_,_,_,hl'⟩:=hoa
    subst h1
    obtain ⟨g,hld,_,_⟩:=hl'.drop off
    have hi:=ih1 ho hS hld
    refine .imm (us:=(cur.toList.take ob.cells.length).drop off) (blk hh) (fun i hi=>?_) hi ?_ h3 h4 (ih2 ho hS hr)
    ·have:=cell_of_heap hh ob.cells.length (off+i) (by simp only [List.length_drop] at hi;omega)
     rw [Nat.zero_add] at this
     rw [this,List.getElem?_drop]
    ·rw [hlen,hld.len,hi.len]
 |@fre s l ds es vs us _ _ ih1 ih2=>
  intro F xs f ho hS hl
  obtain ⟨v,vs',f1,f2,rfl,hv,hr,rfl⟩:=hl.uncons
  cases hv with
  |fre0 r=>
   have:=ih1 (xs:=[]) (f:=[]) ho hS .nil
   cases this
   exact .imm0 (by simp) (ih2 ho hS hr)
  |@fre _ _ b _ cap cur t fz _ us' f' _ _ _ hh0 hsz hu hl' h1 h2 h3 r=>
   have hh:=hh0.1
   have hi:=ih1 ho hS hl'.lift
   subst hu
   refine .imm (us:=cur.toList.take ds.length) (blk hh) (fun i hi=>cell_of_heap hh _ i hi) hi ?_ h2 h3 (ih2 ho hS hr)
   rw [h1,hl'.len,hi.len]
 |@ptr id ep off ob es vs us hob hep _ _ ih1 ih2=>
  intro F xs f ho hS hl
  obtain ⟨v,vs',f1,f2,rfl,hv,hr,rfl⟩:=hl.uncons
  have hoa:=ho.obj id ob hob
  unfold ObjAt at hoa
  cases hv with
  |ptr q1 q2 q3 r=>
   rw [hob] at q1;cases q1
   have hc:=q3 hep.symm
   cases hs:ι id with
   |none=>rw [hs] at hc;exact hc.elim
   |some p=>
    obtain ⟨b,k⟩:=p
    rw [hs] at hc hoa
    obtain ⟨cur,t,fz,f',_,hh,_,_,_,_,hl'⟩:=hoa
    have h1:_=Value.pointer (some ⟨b,off,none⟩):=hc
    subst h1
    have:=LRel.iptr (O:=[]) (ι:=ι') (off:=off) (S:=fun b=>b<w.heap.size) (us:=cur.toList.take ob.cells.length) (blk hh) (fun i hi=>cell_of_heap hh _ i hi) (ih1 ho hS hl') (ih2 ho hS hr)
    rwa [Nat.zero_add] at this
 |agg _ _ ih1 ih2=>
  intro F xs f ho hS hl
  obtain ⟨v,vs',f1,f2,rfl,hv,hr,rfl⟩:=hl.uncons
  obtain ⟨us',rfl,ha⟩:=LRel.agg_inv hv
  have:=LRel.agg (ih1 ho hS ha) (ih2 ho hS hr)
  simpa using this
end Go.Abs


namespace Go.Abs
open Go
inductive Loc:List AV→Prop
 |nil:Loc []
 |any {vs}:Loc vs→Loc (.any::vs)
 |sc {v vs}:Loc vs→Loc (.sc v::vs)
 |nilS {vs}:Loc vs→Loc (.nilS::vs)
 |imm0 {s vs}:Loc vs→Loc (.imm s 0 []::vs)
 |own {id ep off len vs}:Loc vs→Loc (.own id ep off len::vs)
 |fre {s l ds vs}:Loc ds→Loc vs→Loc (.fre s l ds::vs)
 |agg {ds vs}:Loc ds→Loc vs→Loc (.agg ds::vs)
 |tup {ds vs}:Loc ds→Loc vs→Loc (.tup ds::vs)
theorem Loc.scs {cs:List AV} (h:∀V∈cs,∃v,V=.sc v):Loc cs:=by
 induction cs with
 |nil=>exact .nil
 |cons c cs ih=>
  obtain ⟨v,rfl⟩:=h c (by simp)
  exact .sc (ih fun V hV=>h V (by simp [hV]))
theorem Loc.ints (xs:List Int):Loc (ints xs):=Loc.scs fun V hV=>by simp only [Abs.ints,List.mem_map] at hV;obtain ⟨x,_,rfl⟩:=hV;exact ⟨_,rfl⟩
theorem Loc.u8s (xs:List Int):Loc (u8s xs):=Loc.scs fun V hV=>by simp only [Abs.u8s,List.mem_map] at hV;obtain ⟨x,_,rfl⟩:=hV;exact ⟨_,rfl⟩
theorem Loc.bools (xs:List Bool):Loc (bools xs):=Loc.scs fun V hV=>by simp only [Abs.bools,List.mem_map] at hV;obtain ⟨x,_,rfl⟩:=hV;exact ⟨_,rfl⟩
theorem Loc.strs (xs:List (List UInt8)):Loc (strs xs):=Loc.scs fun V hV=>by simp only [Abs.strs,List.mem_map] at hV;obtain ⟨x,_,rfl⟩:=hV;exact ⟨_,rfl⟩
inductive Sh (k:Nat):List AV→List AV→Prop
 |nil:Sh k [] []
 |keep {V vs us}:V.still=true→Sh k vs us→Sh k (V::vs) (V::us)
 |own {id ep off len vs us}:Sh k vs us→Sh k (.own id ep off len::vs) (.own (id+k) ep off len::us)
 |agg {ds es vs us}:Sh k ds es→Sh k vs us→Sh k (.agg ds::vs) (.agg es::us)
 |tup {ds es vs us}:Sh k ds es→Sh k vs us→Sh k (.tup ds::vs) (.tup es::us)
theorem Loc.rel {S1 S2:Nat→Prop} {w ι cs} (hL:Loc cs):∀{O vs f},LRel S1 w ι O cs vs f→LRel S2 w ι O cs vs f:=by
 induction hL with
 |nil=>intro O vs f h;cases h;exact .nil
 |any _ ih=>intro O vs f h;cases h with|any r=>exact .any (ih r)
 |sc _ ih=>intro O vs f h;cases h with|sc r=>exact .sc (ih r)
 |nilS _ ih=>intro O vs f h;cases h with|nilS r=>exact .nilS (ih r)
 |imm0 _ ih=>
  intro O vs f h
  cases h with
  |imm0 h0 r=>exact .imm0 h0 (ih r)
  |imm a b c d e f r=>exact .imm0 ⟨fun h=>(by cases h),f⟩ (ih r)
 |own _ ih=>intro O vs f h;cases h with|own a b c r=>exact .own a b c (ih r)
 |fre _ _ ih1 ih2=>
  intro O vs f h
  cases h with
  |fre0 r=>exact .fre0 (ih2 r)
  |fre a b c d e g i r=>exact .fre a b c (ih1 d) e g i (ih2 r)
 |agg _ _ ih1 ih2=>intro O vs f h;cases h with|agg a r=>exact .agg (ih1 a) (ih2 r)
 |tup _ _ ih1 ih2=>intro O vs f h;cases h with|tup a r=>exact .tup (ih1 a) (ih2 r)
theorem Sh.rel {k:Nat} {S w ι ι2} {N O2:List AObj} (hι:∀id,ι2 (id+k)=ι id) (hO:∀id ob,N[id]?=some ob→O2[id+k]?=some ob) {vs us} (h:Sh k vs us):
 ∀{xs f},LRel S w ι N vs xs f→LRel S w ι2 O2 us xs f:=by
 induction h with
 |nil=>intro xs f hl;cases hl;exact .nil
 |keep hs _ ih=>
  intro xs f hl
  obtain ⟨v,vs',f1,f2,rfl,hv,hr,rfl⟩:=hl.uncons
  exact LRel.cons (still_any hv hs O2 (fun _ h=>h) (fun _ _=>rfl) (fun _ _=>rfl)) (ih hr)
 |own _ ih=>
  intro xs f hl
  cases hl with
  |own a b c r=>exact .own (hO _ _ a) b (fun e=>by rw [hι];exact c e) (ih r)
 |agg _ _ ih1 ih2=>intro xs f hl;cases hl with|agg a r=>exact .agg (ih1 a) (ih2 r)
 |tup _ _ ih1 ih2=>intro xs f hl;cases hl with|tup a r=>exact .tup (ih1 a) (ih2 r)
theorem Sh.same (k:Nat) {cs:List AV} (h:cs.all AV.still=true):Sh k cs cs:=by
 induction cs with
 |nil=>exact .nil
 |cons c cs ih=>
  simp only [List.all_cons,Bool.and_eq_true] at h
  exact .keep h.1 (ih h.2)
mutual
def AV.sh (k:Nat):AV→AV
 |.own id ep off len=>.own (id+k) ep off len
 |.agg ds=>.agg (AV.shL k ds)
 |.tup ds=>.tup (AV.shL k ds)
 |.any=>.any
 |.sc v=>.sc v
 |.nilS=>.nilS
 |.imm s l ds=>.imm s l ds
 |.fre s l ds=>.fre s l ds
 |.ptr id ep off=>.ptr id ep off
 |.iptr ds off=>.iptr ds off
 |.fn f ds=>.fn f ds
 |.ifc t v=>.ifc t v
def AV.shL (k:Nat):List AV→List AV
 |[]=>[]
 |V::Vs=>V.sh k::AV.shL k Vs
end
mutual
def AV.shOk:AV→Bool
 |.own _ _ _ _=>true
 |.agg ds=>AV.shOkL ds
 |.tup ds=>AV.shOkL ds
 |V=>V.still
def AV.shOkL:List AV→Bool
 |[]=>true
 |V::Vs=>V.shOk&&AV.shOkL Vs
end
mutual
theorem Sh.of1 (k:Nat):∀(V:AV),V.shOk=true→∀{vs us:List AV},Sh k vs us→Sh k (V::vs) (V.sh k::us)
 |.own id ep off len,_,_,_,hr=>by rw [AV.sh];exact .own hr
 |.agg ds,h,_,_,hr=>by rw [AV.sh];exact .agg (Sh.ofL k ds (by simpa [AV.shOk] using h)) hr
 |.tup ds,h,_,_,hr=>by rw [AV.sh];exact .tup (Sh.ofL k ds (by simpa [AV.shOk] using h)) hr
 |.any,h,_,_,hr=>by rw [AV.sh];exact .keep rfl hr
 |.sc v,h,_,_,hr=>by rw [AV.sh];exact .keep rfl hr
 |.nilS,h,_,_,hr=>by rw [AV.sh];exact .keep rfl hr
 |.imm s l ds,h,_,_,hr=>by rw [AV.sh];exact .keep rfl hr
 |.fre s l ds,h,_,_,hr=>by rw [AV.sh];exact .keep rfl hr
 |.ptr id ep off,h,_,_,hr=>by simp [AV.shOk,AV.still] at h
 |.iptr ds off,h,_,_,hr=>by rw [AV.sh];exact .keep rfl hr
 |.fn f ds,h,_,_,hr=>by rw [AV.sh];exact .keep (by simpa [AV.shOk] using h) hr
 |.ifc t v,h,_,_,hr=>by rw [AV.sh];exact .keep (by simpa [AV.shOk] using h) hr
theorem Sh.ofL (k:Nat):∀(Vs:List AV),AV.shOkL Vs=true→Sh k Vs (AV.shL k Vs)
 |[],_=>by rw [AV.shL];exact .nil
 |V::Vs,h=>by
  rw [AV.shL]
  simp only [AV.shOkL,Bool.and_eq_true] at h
  exact Sh.of1 k V h.1 (Sh.ofL k Vs h.2)
end
inductive Out:List AObj→Prop
 |nil:Out []
 |cons {ob N}:ob.cells.all AV.still=true→Loc ob.cells→Out N→Out (ob::N)
theorem Out.at {N} (h:Out N) {id:Nat} {ob:AObj} (hi:N[id]?=some ob):ob.cells.all AV.still=true∧Loc ob.cells:=by
 induction h generalizing id with
 |nil=>simp at hi
 |cons h1 h2 _ ih=>
  cases id with
  |zero=>simp at hi;subst hi;exact ⟨h1,h2⟩
  |succ id=>exact ih (by simpa using hi)
theorem Out.ints {xs:List Int} {ty:Option TypeId}:Out [⟨ints xs,0,1,ty⟩]:=.cons (still_ints xs) (Loc.ints xs) .nil
theorem Out.u8s {xs:List Int} {ty:Option TypeId}:Out [⟨u8s xs,0,1,ty⟩]:=.cons (still_u8s xs) (Loc.u8s xs) .nil
theorem Out.bools {xs:List Bool} {ty:Option TypeId}:Out [⟨bools xs,0,1,ty⟩]:=.cons (still_bools xs) (Loc.bools xs) .nil
theorem Out.strs {xs:List (List UInt8)} {ty:Option TypeId}:Out [⟨strs xs,0,1,ty⟩]:=.cons (still_strs xs) (Loc.strs xs) .nil
section
variable {P:Program} {n m:Nat} {G:Ctx} {T:List (Nat×AV)} {O:List AObj} {Q:Exit→St→Prop} {ops:Array Oper} {l:List Oper} {d:Nat} {tt:TypeId} {pos:String} {after:Array Edge} {tab:List (Nat×Ty)}
theorem WpL.callX {f:FuncId} {o:Oper} {Vs:List AV} {As:List AV} {N:List AObj} {r r':AV} {id:Nat} (hg:o.guard=none) (hd:o.dst=some d) (hc:FnC P f As N r) (hs:Snap O Vs As) (hloc:Loc [r]) (hN:Out N)
 (hex0:Runs P f→∀S ι F a w,RelAt n m G S ι F ⟨T,O⟩ a w→∃vs,LRel S w ι O Vs vs []∧(execOp a.eval o).run P w=.ok (.enter f vs.toArray) w)
 (hid:nid O 0=some id) (hok:r.shOk=true) (hre:(r.sh id).force=some r') (hn:d<n) (h:WpL P n m G false ops l ⟨(d,r')::T,O++N⟩ Q):
 WpL P n m G false ops (o::l) ⟨T,O⟩ Q:=
 WpL.op hg (fun a w hr=>by
  obtain ⟨S,ι,F,hr⟩:=hr
  have hid:id=O.length:=by have:=nid_eq hid;omega
  subst hid
  have hr':Sh O.length [r] [r']:=by rw [←AV.force_eq hre];exact Sh.of1 _ r hok .nil
  obtain ⟨hruns,hcall⟩:=hc
  obtain ⟨vs,hl,hex⟩:=hex0 hruns S ι F a w hr
  have hsn:=hs.rel (ι':=fun _=>none) hr.objs hr.stable hl
  unfold Oper.wp
  rw [hex]
  refine (hcall w (fun b=>b<w.heap.size) vs (fun _ h=>h) (hr.glb.mono hr.stable) hsn).mono fun e w' he=>?_
  obtain ⟨v,S',ι',F',rfl,hS1,hS2,hS3,hO',hF',hv,hk⟩:=he
  show Rel n m G ⟨(d,r')::T,O++N⟩ (a.put o.dst v) w'
  rw [hd]
  have hold:∀b,b<w.heap.size→w'.heap[b]?=w.heap[b]?:=fun b hb=>hk.block b hb (fun h=>h)
  let S2:Nat→Prop:=fun b=>S b∨(S' b∧w.heap.size≤b)
  let ι2:Nat→Spot:=fun id=>if id<O.length then ι id else ι' (id-O.length)
  let F2:Nat→List Nat:=fun id=>if id<O.length then F id else F' (id-O.length)
  have hι:∀id,ι2 (id+O.length)=ι' id:=fun id=>by
   show (if _ then _ else _)=_
   rw [if_neg (by omega),Nat.add_sub_cancel]
  have hFn:∀id,F2 (id+O.length)=F' id:=fun id=>by
   show (if _ then _ else _)=_
   rw [if_neg (by omega),Nat.add_sub_cancel]
  have hON:∀id ob,N[id]?=some ob→(O++N)[id+O.length]?=some ob:=fun id ob h=>by
   rw [List.getElem?_append_right (by omega),Nat.add_sub_cancel];exact h
  have hlat:Later S w ι O S2 w' ι2 (O++N):=by
   refine ⟨fun b h=>.inl h,fun b hb=>hold b (hr.stable b hb),fun id ob h=>?_⟩
   have hlt:id<O.length:=(List.getElem?_eq_some_iff.1 h).1
   exact ⟨ob,by rw [List.getElem?_append_left hlt];exact h,.inr ⟨rfl,rfl,by show (if _ then _ else _)=_;rw [if_pos hlt]⟩⟩
  have hnewF:∀id,id<N.length→∀b,b∈F' id→w.heap.size≤b∧¬S2 b∧b<w'.heap.size:=by
   intro id hid b hb
   obtain ⟨h1,h2,h3⟩:=hF' id hid b hb
   refine ⟨h1,?_,h3⟩
   rintro (h|⟨h,_⟩)
   ·have:=hr.stable b h;omega
   ·exact h2 h
  have hcell:∀(id:Nat) (ob:AObj),N[id]?=some ob→∀us g,LRel S' w' ι' N ob.cells us g→LRel S2 w' ι2 (O++N) ob.cells us g:=fun id ob hi us g hl=>
   Loc.rel (hN.at hi).2 ((Sh.same O.length (hN.at hi).1).rel hι hON hl)
  have hrel:RelAt n m G S2 ι2 F2 ⟨T,O++N⟩ a w':=by
   refine ⟨hr.defers,hr.size,fun t=>(hr.tmps t).mono hlat (by simp),⟨fun id ob h=>?_,fun id h=>?_,fun i j hi hj hij b hb=>?_⟩,fun id h b hb=>?_,⟨fun b hb=>.inl (hr.base.1 b hb),?_⟩,?_,?_,fun id h=>?_,?_⟩
   ·have h:(O++N)[id]?=some ob:=h
    by_cases hlt:id<O.length
    ·rw [List.getElem?_append_left hlt] at h
     rw [show ι2 id=ι id from if_pos hlt,show F2 id=F id from if_pos hlt]
     have ho:=hr.objs.obj id ob h
     unfold ObjAt at ho ⊢
     cases hs:ι id with
     |none=>rw [hs] at ho;exact ho
     |some p=>
      obtain ⟨b,k⟩:=p
      rw [hs] at ho
      obtain ⟨cur',t',fz',f2,h1,h2,h3,h4,h5,h6,h7⟩:=ho
      have key:∀b',b'∈F id→w'.heap[b']?=w.heap[b']?:=fun b' hb'=>hold b' (hr.foot id hlt b' hb').2.2
      exact ⟨cur',t',fz',f2,h1,by rw [key b (by rw [h1];simp)];exact h2,h3,h4,h5,h6,h7.mono hlat fun b' hb'=>key b' (by rw [h1];simp [hb'])⟩
    ·rw [List.getElem?_append_right (by omega)] at h
     rw [show ι2 id=ι' (id-O.length) from if_neg hlt,show F2 id=F' (id-O.length) from if_neg hlt]
     have ho:=hO'.obj _ ob h
     unfold ObjAt at ho ⊢
     cases hs:ι' (id-O.length) with
     |none=>rw [hs] at ho;exact ho
     |some p=>
      obtain ⟨b,k⟩:=p
      rw [hs] at ho
      obtain ⟨cur',t',fz',f2,h1,h2,h3,h4,h5,h6,h7⟩:=ho
      exact ⟨cur',t',fz',f2,h1,h2,h3,h4,h5,h6,hcell _ ob h _ _ h7⟩
   ·have h:id<(O++N).length:=h
    rw [List.length_append] at h
    by_cases hlt:id<O.length
    ·rw [show F2 id=F id from if_pos hlt];exact hr.objs.nodup id hlt
    ·rw [show F2 id=F' (id-O.length) from if_neg hlt];exact hO'.nodup _ (by omega)
   ·have hi:i<(O++N).length:=hi
    have hj:j<(O++N).length:=hj
    rw [List.length_append] at hi hj
    by_cases h1:i<O.length<;>by_cases h2:j<O.length
    ·rw [show F2 i=F i from if_pos h1] at hb;rw [show F2 j=F j from if_pos h2]
     exact hr.objs.apart i j h1 h2 hij b hb
    ·rw [show F2 i=F i from if_pos h1] at hb;rw [show F2 j=F' (j-O.length) from if_neg h2]
     intro hb'
     have:=(hr.foot i h1 b hb).2.2
     have:=(hF' _ (by omega) b hb').1
     omega
    ·rw [show F2 i=F' (i-O.length) from if_neg h1] at hb;rw [show F2 j=F j from if_pos h2]
     intro hb'
     have:=(hr.foot j h2 b hb').2.2
     have:=(hF' _ (by omega) b hb).1
     omega
    ·rw [show F2 i=F' (i-O.length) from if_neg h1] at hb;rw [show F2 j=F' (j-O.length) from if_neg h2]
     exact hO'.apart _ _ (by omega) (by omega) (by omega) b hb
   ·have h:id<(O++N).length:=h
    rw [List.length_append] at h
    by_cases hlt:id<O.length
    ·rw [show F2 id=F id from if_pos hlt] at hb
     obtain ⟨q1,q2,q3⟩:=hr.foot id hlt b hb
     refine ⟨q1,?_,by have:=hk.size;omega⟩
     rintro (h'|⟨_,h'⟩)
     ·exact q2 h'
     ·omega
    ·rw [show F2 id=F' (id-O.length) from if_neg hlt] at hb
     obtain ⟨q1,q2,q3⟩:=hnewF _ (by omega) b hb
     exact ⟨.inr (by have:=hr.keeps.size;omega),q2,q3⟩
   ·rintro b (h'|⟨_,h'⟩)
    ·exact hr.base.2 b h'
    ·exact .inr (by have:=hr.keeps.size;omega)
   ·rintro b (h'|⟨h',_⟩)
    ·have:=hr.stable b h';have:=hk.size;omega
    ·exact hS3 b h'
   ·exact ⟨hk.os.trans hr.keeps.os,hk.tape.trans hr.keeps.tape,hk.output.trans hr.keeps.output,by have:=hr.keeps.size;have:=hk.size;omega,fun b hb hM=>by
     rw [hold b (by have:=hr.keeps.size;omega)];exact hr.keeps.block b hb hM⟩
   ·have hm:m≤O.length:=hr.mle
    rw [show ι2 id=ι id from if_pos (by omega)];exact hr.spots id h
   ·have hm:m≤O.length:=hr.mle
    show m≤(O++N).length
    rw [List.length_append];omega
  exact ⟨S2,ι2,F2,hrel.put hn (Loc.rel (S1:=S') (S2:=S2) (by
   have:∀{vs us},Sh O.length vs us→Loc vs→Loc us:=by
    intro vs us hsh
    induction hsh with
    |nil=>intro h;exact h
    |keep hs _ ih=>
     intro h
     cases h with
     |any h=>exact .any (ih h)
     |sc h=>exact .sc (ih h)
     |nilS h=>exact .nilS (ih h)
     |imm0 h=>exact .imm0 (ih h)
     |own h=>simp [AV.still] at hs
     |fre h1 h2=>exact .fre h1 (ih h2)
     |agg=>simp [AV.still] at hs
     |tup=>simp [AV.still] at hs
    |own _ ih=>intro h;cases h with|own h=>exact .own (ih h)
    |agg _ _ ih1 ih2=>intro h;cases h with|agg a b=>exact .agg (ih1 a) (ih2 b)
    |tup _ _ ih1 ih2=>intro h;cases h with|tup a b=>exact .tup (ih1 a) (ih2 b)
   exact this hr' hloc) (hr'.rel hι hON hv))⟩) h
theorem WpL.call {f:FuncId} {xs:List Operand} {ats:Array TypeId} {As:List AV} {N:List AObj} {r r':AV} {id:Nat} (hc:FnC P f As N r) (hs:Snap O (xs.map (av T)) As) (hloc:Loc [r]) (hN:Out N)
 (hid:nid O 0=some id) (hok:r.shOk=true) (hre:(r.sh id).force=some r') (hn:d<n) (h:WpL P n m G false ops l ⟨(d,r')::T,O++N⟩ Q):
 WpL P n m G false ops ({dst:=some d,op:=.call {callee:=.value (.func f),args:=xs.toArray,argTypes:=ats},type:=tt,pos:=pos,after:=after,guard:=none}::l) ⟨T,O⟩ Q:=
 WpL.callX rfl rfl hc hs hloc hN (fun ⟨fn,hf,hb,hnm⟩ S ι F a w hr=>by
  refine ⟨xs.map a.eval,hr.evals xs,?_⟩
  simp only [execOp,resolve,Act.eval,Deferred.ofValue,invoke,callFunc,Sem.run_bind,Sem.run_pure,Result.andThen_ok,program,Sem.run,hf,hnm,hb,Bool.false_eq_true,if_false]
  simp) hid hok hre hn h
def resSem (tmps:Array Value):ResultVar→Sem Value
 |.tmp t=>pure (tmps.getD t undef)
 |.cell a t=>do loadVar t (←asAddr (tmps.getD a undef))
theorem results_eq (fn:Func) (tmps:Array Value):results fn tmps=(do let vs ←fn.results.mapM (resSem tmps);pure (if h:vs.size=1 then vs[0] else .tuple vs)):=by
 have:(fun r=>match r with
  |ResultVar.tmp t=>pure (tmps.getD t undef)
  |ResultVar.cell a t=>do loadVar t (←asAddr (tmps.getD a undef)))=resSem tmps:=by
  funext r;cases r<;>rfl
 unfold results
 rw [←this]
 rfl
theorem run_results1 {fn:Func} {tmps:Array Value} {r1:ResultVar} {v1:Value} {w:World} (h:fn.results=#[r1]) (h1:(resSem tmps r1).run P w=.ok v1 w):(results fn tmps).run P w=.ok v1 w:=by
 rw [results_eq,h];simp [Sem.run_bind,h1]
theorem run_results2 {fn:Func} {tmps:Array Value} {r1 r2:ResultVar} {v1 v2:Value} {w:World} (h:fn.results=#[r1,r2]) (h1:(resSem tmps r1).run P w=.ok v1 w) (h2:(resSem tmps r2).run P w=.ok v2 w):
 (results fn tmps).run P w=.ok (.tuple #[v1,v2]) w:=by
 rw [results_eq,h];simp [Sem.run_bind,h1,h2]
theorem run_results3 {fn:Func} {tmps:Array Value} {r1 r2 r3:ResultVar} {v1 v2 v3:Value} {w:World} (h:fn.results=#[r1,r2,r3]) (h1:(resSem tmps r1).run P w=.ok v1 w) (h2:(resSem tmps r2).run P w=.ok v2 w) (h3:(resSem tmps r3).run P w=.ok v3 w):
 (results fn tmps).run P w=.ok (.tuple #[v1,v2,v3]) w:=by
 rw [results_eq,h];simp [Sem.run_bind,h1,h2,h3]
inductive ResV (tab:List (Nat×Ty)) (T:List (Nat×AV)) (O:List AObj):ResultVar→AV→Prop
 |tmp {t V}:(look T t).force=some V→ResV tab T O (.tmp t) V
 |cell {t ty offs k zs cells off ds}:tlook tab ty=some (.struct offs k zs)→reg O (look T t)=some (cells,off)→(cells.drop off).take k=ds→ds.length=k→ds.all AV.nofre=true→ResV tab T O (.cell t ty) (.agg ds)
 |cellP {t ty tp cells off V}:tlook tab ty=some tp→tp.plain=true→reg O (look T t)=some (cells,off)→cells[off]?=some V→V.nofre=true→ResV tab T O (.cell t ty) V
theorem load_agg (hP:TabOk P tab) {S ι F σ a w} (hr:RelAt n m G S ι F σ a w) {V:AV} {x:Value} (hv:VRel S w ι σ.O V x []) {t:Nat} {offs:List Nat} {k:Nat} {zs cells ds:List AV} {off:Nat} (ht:tlook tab t=some (.struct offs k zs))
 (hm:reg σ.O V=some (cells,off)) (hd:(cells.drop off).take k=ds) (hk:ds.length=k) (hf:ds.all AV.nofre=true):∃b o v,x=.pointer (some ⟨b,o,none⟩)∧(loadVar t ⟨b,o,none⟩).run P w=.ok v w∧VRel S w ι σ.O (.agg ds) v []:=by
 obtain ⟨b,o,us,g,hx,hc,hl⟩:=reg_cells hr.objs hv hm
 obtain ⟨g1,h1,_,_⟩:=hl.drop off
 obtain ⟨g2,h2,_,_⟩:=h1.take k
 rw [hd] at h2
 have:=lrel_nofre_nil h2 hf
 subst this
 refine ⟨b,o+off,.agg ((us.drop off).take k).toArray,hx,?_,by simpa using LRel.agg h2 .nil⟩
 obtain ⟨fs,hu,⟨z,hz,_⟩,_⟩:=hP.ty ht
 have hagg:(isAgg t).run P w=.ok true w:=by simp [isAgg,run_underlying hu]
 obtain ⟨i,hi,hi2⟩:∃i,P.info? t=some i∧i.size=k:=by
  cases hh:P.info? t with
  |none=>simp [hh] at hz
  |some i=>rw [hh] at hz;simp at hz;exact ⟨i,rfl,hz.2⟩
 have hlen:((us.drop off).take k).length=k:=by rw [←h2.len,hk]
 have hcs:∀j v,((us.drop off).take k)[j]?=some v→w.cell? ((⟨b,o+off,none⟩:Addr).add j)=some v:=by
  intro j v hj
  have hjk:j<((us.drop off).take k).length:=(List.getElem?_eq_some_iff.1 hj).1
  rw [hlen] at hjk
  rw [List.getElem?_take,if_pos hjk,List.getElem?_drop] at hj
  have hlt:off+j<us.length:=(List.getElem?_eq_some_iff.1 hj).1
  have:=hc (off+j) hlt
  rw [hj] at this
  rw [addr_add,Nat.add_assoc];exact this
 have hld:(loadCells ⟨b,o+off,none⟩ k).run P w=.ok ((us.drop off).take k).toArray w:=by
  have:=run_loadCells_list (P:=P) w ⟨b,o+off,none⟩ _ hcs
  rwa [hlen] at this
 simp [loadVar,hagg,run_sizeOf hi hi2,hld,Sem.run_bind]
theorem load_plain (hP:TabOk P tab) {S ι F σ a w} (hr:RelAt n m G S ι F σ a w) {V0:AV} {x:Value} (hv0:VRel S w ι σ.O V0 x []) {t:Nat} {tp:Ty} {cells:List AV} {V:AV} {off:Nat} (ht:tlook tab t=some tp) (hp:tp.plain=true)
 (hm:reg σ.O V0=some (cells,off)) (hv:cells[off]?=some V) (hf:V.nofre=true):∃b o v,x=.pointer (some ⟨b,o,none⟩)∧(loadVar t ⟨b,o,none⟩).run P w=.ok v w∧VRel S w ι σ.O V v []:=by
 obtain ⟨b,o,us,g,hx,hc,hl⟩:=reg_cells hr.objs hv0 hm
 obtain ⟨v,g',hv',hV,_⟩:=hl.get hv
 have:=nofre_nil hV hf
 subst this
 refine ⟨b,o+off,v,hx,?_,hV⟩
 have hlt:off<us.length:=(List.getElem?_eq_some_iff.1 hv').1
 have hcell:w.cell? ⟨b,o+off,none⟩=some v:=by rw [hc off hlt,hv']
 simp [loadVar,run_isAgg_plain (hP.ty ht) hp,load,hcell,Sem.run_bind,Sem.run]
theorem ResV.rel (hP:TabOk P tab) {S ι F a w} (hr:RelAt n m G S ι F ⟨T,O⟩ a w) {r:ResultVar} {V:AV} (h:ResV tab T O r V):∃v,(resSem a.tmps r).run P w=.ok v w∧VRel S w ι O V v []:=by
 cases h with
 |tmp ht=>exact ⟨_,rfl,by rw [←AV.force_eq ht];exact hr.tmps _⟩
 |cell ht hm hd hk hf=>
  obtain ⟨b,o,v,hx,hl,hv⟩:=load_agg hP hr (hr.tmps _) ht hm hd hk hf
  refine ⟨v,?_,hv⟩
  simp only [resSem,Sem.run_bind]
  rw [hx]
  simp [asAddr,hl]
 |cellP ht hp hm hd hf=>
  obtain ⟨b,o,v,hx,hl,hv⟩:=load_plain hP hr (hr.tmps _) ht hp hm hd hf
  refine ⟨v,?_,hv⟩
  simp only [resSem,Sem.run_bind]
  rw [hx]
  simp [asAddr,hl]
inductive Ex (O:List AObj) (ids:List (Option Nat)):List AV→List AV→Prop
 |nil:Ex O ids [] []
 |keep {V V' vs us}:V=V'→V'.still=true→V'.nofre=true→Ex O ids vs us→Ex O ids (V::vs) (V'::us)
 |own {id ep off len len' j ob vs us}:ids[j]?=some (some id)→O[id]?=some ob→ob.ep=ep→len=len'→Ex O ids vs us→Ex O ids (.own id ep off len::vs) (.own j 0 off len'::us)
 |nilO {j vs us}:ids[j]?=some none→Ex O ids vs us→Ex O ids (.nilS::vs) (.own j 0 0 0::us)
 |agg {ds es vs us}:Ex O ids ds es→Ex O ids vs us→Ex O ids (.agg ds::vs) (.agg es::us)
 |tup {ds es vs us}:Ex O ids ds es→Ex O ids vs us→Ex O ids (.tup ds::vs) (.tup es::us)
inductive NEx (O:List AObj):List (Option Nat)→List AObj→Prop
 |nil:NEx O [] []
 |gone {ids N ob'}:ob'.cells=[]→ob'.ep=0→NEx O ids N→NEx O (none::ids) (ob'::N)
 |obj {id ids N ob ob'}:O[id]?=some ob→ob.cells=ob'.cells→ob'.cells.all AV.still=true→ob'.ep=0→ob'.size=ob.size→(ob'.ty=none∨ob'.ty=ob.ty)→NEx O ids N→NEx O (some id::ids) (ob'::N)
theorem NEx.len {O ids N} (h:NEx O ids N):ids.length=N.length:=by induction h<;>simp_all
theorem NEx.at {O ids N} (h:NEx O ids N) {j:Nat} {ob':AObj} (hj:N[j]?=some ob'):ob'.ep=0∧((ids[j]?=some none∧ob'.cells=[])∨
 ∃id ob,ids[j]?=some (some id)∧O[id]?=some ob∧ob.cells=ob'.cells∧ob'.cells.all AV.still=true∧ob'.size=ob.size∧(ob'.ty=none∨ob'.ty=ob.ty)):=by
 induction h generalizing j with
 |nil=>simp at hj
 |gone h1 h2 _ ih=>
  cases j with
  |zero=>simp at hj;subst hj;exact ⟨h2,.inl ⟨by simp,h1⟩⟩
  |succ j=>simpa using ih (by simpa using hj)
 |obj h1 h2 h3 h4 h5 h6 _ ih=>
  cases j with
  |zero=>simp at hj;subst hj;exact ⟨h4,.inr ⟨_,_,by simp,h1,h2,h3,h5,h6⟩⟩
  |succ j=>simpa using ih (by simpa using hj)
def exSpot (ι:Nat→Spot) (ids:List (Option Nat)):Nat→Spot:=fun j=>match ids[j]? with|some (some id)=>ι id|_=>none
def exF (F:Nat→List Nat) (ids:List (Option Nat)):Nat→List Nat:=fun j=>match ids[j]? with|some (some id)=>F id|_=>[]
theorem Ex.rel {O N:List AObj} {ids:List (Option Nat)} {S w ι} (hN:NEx O ids N) {vs us} (h:Ex O ids vs us):∀{xs},LRel S w ι O vs xs []→LRel S w (exSpot ι ids) N us xs []:=by
 induction h with
 |nil=>intro xs hl;cases hl;exact .nil
 |keep he hs hn _ ih=>
  intro xs hl
  subst he
  obtain ⟨v,vs',f1,f2,rfl,hv,hr,hf⟩:=hl.uncons
  obtain ⟨rfl,rfl⟩:f1=[]∧f2=[]:=by simpa using hf
  exact LRel.cons (still_any hv hs N (fun _ h=>h) (fun _ _=>rfl) (fun _ _=>rfl)) (ih hr)
 |@own id ep off len len' j ob vs us hj ho he hlen _ ih=>
  intro xs hl
  subst hlen
  cases hl with
  |own a b c r=>
   rw [ho] at a;cases a
   have hjl:j<N.length:=by rw [←hN.len];exact (List.getElem?_eq_some_iff.1 hj).1
   obtain ⟨h0,hc⟩:=hN.at (List.getElem?_eq_getElem hjl)
   rcases hc with ⟨h1,_⟩|⟨id2,ob2,h1,h2,h3,_,h5,_⟩
   ·rw [hj] at h1;cases h1
   ·rw [hj] at h1;cases h1
    rw [ho] at h2;cases h2
    exact .own (List.getElem?_eq_getElem hjl) (by omega) (fun _=>by
     rw [h5]
     show OwnAt (exSpot ι ids j) _ _ _ _
     unfold exSpot;rw [hj];exact c he.symm) (ih r)
 |@nilO j vs us hj _ ih=>
  intro xs hl
  cases hl with
  |nilS r=>
   have hjl:j<N.length:=by rw [←hN.len];exact (List.getElem?_eq_some_iff.1 hj).1
   obtain ⟨h0,_⟩:=hN.at (List.getElem?_eq_getElem hjl)
   exact .own (List.getElem?_eq_getElem hjl) (by omega) (fun _=>by
    show OwnAt (exSpot ι ids j) _ _ _ _
    unfold exSpot;rw [hj];exact ⟨rfl,rfl,rfl⟩) (ih r)
 |agg _ _ ih1 ih2=>
  intro xs hl
  obtain ⟨v,vs',f1,f2,rfl,hv,hr,hf⟩:=hl.uncons
  obtain ⟨rfl,rfl⟩:f1=[]∧f2=[]:=by simpa using hf
  obtain ⟨us',rfl,ha⟩:=LRel.agg_inv hv
  simpa using LRel.agg (ih1 ha) (ih2 hr)
 |tup _ _ ih1 ih2=>
  intro xs hl
  obtain ⟨v,vs',f1,f2,rfl,hv,hr,hf⟩:=hl.uncons
  obtain ⟨rfl,rfl⟩:f1=[]∧f2=[]:=by simpa using hf
  obtain ⟨us',rfl,ha⟩:=LRel.tup_inv hv
  simpa using LRel.tup (ih1 ha) (ih2 hr)
inductive Res (tab:List (Nat×Ty)) (N:List AObj) (r:AV):Array ResultVar→St→Prop
 |one {r1 V1 T O ids}:ResV tab T O r1 V1→NEx O ids N→(ids.filterMap id).Nodup→Ex O ids [V1] [r]→Res tab N r #[r1] ⟨T,O⟩
 |two {r1 r2 V1 V2 T O ids}:ResV tab T O r1 V1→ResV tab T O r2 V2→NEx O ids N→(ids.filterMap id).Nodup→Ex O ids [.tup [V1,V2]] [r]→Res tab N r #[r1,r2] ⟨T,O⟩
 |three {r1 r2 r3 V1 V2 V3 T O ids}:ResV tab T O r1 V1→ResV tab T O r2 V2→ResV tab T O r3 V3→NEx O ids N→(ids.filterMap id).Nodup→Ex O ids [.tup [V1,V2,V3]] [r]→Res tab N r #[r1,r2,r3] ⟨T,O⟩
def Fin (tab:List (Nat×Ty)) (rs:Array ResultVar) (N:List AObj) (r:AV):Exit→St→Prop
 |.ret,σ=>Res tab N r rs σ
 |.normal,σ=>Res tab N r rs σ
 |_,_=>False
theorem Fin.ret {rs:Array ResultVar} {N:List AObj} {r:AV} {σ:St} (h:Res tab N r rs σ):Fin tab rs N r .ret σ:=h
def enumT:Nat→List AV→List (Nat×AV)
 |_,[]=>[]
 |k,V::Vs=>(k,V)::enumT (k+1) Vs
theorem look_enumT (Vs:List AV) (k t:Nat):look (enumT k Vs) t=if k≤t then Vs.getD (t-k) .any else .any:=by
 induction Vs generalizing k with
 |nil=>simp [enumT,look]
 |cons V Vs ih=>
  unfold enumT
  by_cases h:k=t
  ·subst h;rw [look_cons_same];simp
  ·rw [look_cons_other _ _ _ _ h,ih]
   by_cases h2:k≤t
   ·rw [if_pos (by omega),if_pos h2]
    rw [show t-k=(t-(k+1))+1 from by omega]
    simp
   ·rw [if_neg (by omega),if_neg h2]
theorem Res.out (hP:TabOk P tab) {w0:World} {S0:Nat→Prop} {rs:Array ResultVar} {N:List AObj} {r:AV} {σ:St} {a:Act} {w:World} {fn:Func} {gl:∃W:World,Laid W∧∀b,b<NGlb→S0 b∧¬(fun _=>False) b∧b<w0.heap.size∧w0.heap[b]?=W.heap[b]?} (hfr:fn.results=rs) (h:Res tab N r rs σ)
 (hr:Rel n 0 ⟨w0,S0,fun _=>False,fun _=>none,gl⟩ σ a w):
 ∃v,(results fn a.tmps).run P w=.ok v w∧∃S' ι F,(∀ b,S0 b→S' b)∧(∀ b,S' b→S0 b∨w0.heap.size≤b)∧(∀ b,S' b→b<w.heap.size)∧ORel S' w ι N F∧
  (∀ id,id<N.length→∀b∈F id,w0.heap.size≤b∧¬S' b∧b<w.heap.size)∧VRel S' w ι N r v []∧Keeps w0 (fun _=>False) w:=by
 obtain ⟨S,ι,F,hr⟩:=hr
 have fin:∀{T O ids V v},σ=⟨T,O⟩→NEx O ids N→(ids.filterMap id).Nodup→Ex O ids [V] [r]→VRel S w ι O V v []→
  ∃S' ι F,(∀ b,S0 b→S' b)∧(∀ b,S' b→S0 b∨w0.heap.size≤b)∧(∀ b,S' b→b<w.heap.size)∧ORel S' w ι N F∧
  (∀ id,id<N.length→∀b∈F id,w0.heap.size≤b∧¬S' b∧b<w.heap.size)∧VRel S' w ι N r v []∧Keeps w0 (fun _=>False) w:=by
  rintro T O ids V v rfl hN hnd hex hv
  have hids:∀(i j id:Nat),ids[i]?=some (some id)→ids[j]?=some (some id)→i=j:=by
   clear hN hex hv
   induction ids with
   |nil=>intro i j id h;simp at h
   |cons x ids ih=>
    intro i j id hi hj
    cases x with
    |none=>
     cases i with
     |zero=>simp at hi
     |succ i=>cases j with
      |zero=>simp at hj
      |succ j=>rw [ih (by simpa using hnd) i j id (by simpa using hi) (by simpa using hj)]
    |some y=>
     have hnd':y ∉ ids.filterMap _root_.id∧(ids.filterMap _root_.id).Nodup:=by simpa using hnd
     have mem:∀k:Nat,ids[k]?=some (some id)→id∈ids.filterMap _root_.id:=fun k hk=>List.mem_filterMap.2 ⟨some id,List.mem_of_getElem? hk,rfl⟩
     cases i with
     |zero=>
      simp at hi;subst hi
      cases j with
      |zero=>rfl
      |succ j=>exact (hnd'.1 (mem j (by simpa using hj))).elim
     |succ i=>cases j with
      |zero=>simp at hj;subst hj;exact (hnd'.1 (mem i (by simpa using hi))).elim
      |succ j=>rw [ih hnd'.2 i j id (by simpa using hi) (by simpa using hj)]
  have hcase:∀j:Nat,(∃ id,ids[j]?=some (some id)∧exSpot ι ids j=ι id∧exF F ids j=F id)∨((∀ id,ids[j]?≠some (some id))∧exSpot ι ids j=none∧exF F ids j=[]):=by
   intro j
   unfold exSpot exF
   cases h:ids[j]? with
   |none=>exact .inr ⟨by simp,rfl,rfl⟩
   |some o=>cases o with
    |none=>exact .inr ⟨by simp,rfl,rfl⟩
    |some id=>exact .inl ⟨id,rfl,rfl,rfl⟩
  have hlt:∀(j id:Nat),j<N.length→ids[j]?=some (some id)→id<O.length:=by
   intro j id hj hi
   obtain ⟨_,h1|⟨id2,ob2,h1,h2,_⟩⟩:=hN.at (List.getElem?_eq_getElem hj)
   ·rw [hi] at h1;cases h1.1
   ·rw [hi] at h1;cases h1;exact (List.getElem?_eq_some_iff.1 h2).1
  refine ⟨S,exSpot ι ids,exF F ids,hr.base.1,hr.base.2,hr.stable,⟨fun j ob' hj=>?_,fun j hj=>?_,fun i j hi hj hij b hb=>?_⟩,fun j hj b hb=>?_,hex.rel hN hv,hr.keeps⟩
  ·obtain ⟨h0,h1|⟨id2,ob2,h1,h2,h3,h4,h5,h6⟩⟩:=hN.at hj
   ·rcases hcase j with ⟨id,h,_⟩|⟨_,h,h'⟩
    ·rw [h1.1] at h;cases h
    ·rw [h,h'];exact ⟨h1.2,rfl⟩
   ·rcases hcase j with ⟨id,h,e1,e2⟩|⟨h,h'⟩
    ·rw [h1] at h;cases h
     rw [e1,e2]
     have ho:=hr.objs.obj _ ob2 h2
     unfold ObjAt at ho ⊢
     cases hs:ι id2 with
     |none=>rw [hs] at ho;rw [←h3];exact ho
     |some p=>
      obtain ⟨b,k⟩:=p
      rw [hs] at ho
      obtain ⟨cur',t',fz',f2,q1,q2,q3,q4,q5,q6,q7⟩:=ho
      have q8:LRel S w (exSpot ι ids) N ob'.cells (cur'.toList.take ob'.cells.length) f2:=by
       rw [h3] at q7
       have hre:=Re.same (O:=O) (O':=N) (rfl:ob'.cells=ob'.cells) h4
       clear h3
       generalize ob'.cells=cs at*
       generalize (cur'.toList.take cs.length)=xs at*
       clear hre
       have key:∀{cs:List AV} {xs f},cs.all AV.still=true→LRel S w ι O cs xs f→LRel S w (exSpot ι ids) N cs xs f:=by
        intro cs
        induction cs with
        |nil=>intro xs f _ hl;cases hl;exact .nil
        |cons c cs ih=>
         intro xs f hs hl
         simp only [List.all_cons,Bool.and_eq_true] at hs
         obtain ⟨v,vs',f1,f2,rfl,hv,hr,rfl⟩:=hl.uncons
         exact LRel.cons (still_any hv hs.1 N (fun _ h=>h) (fun _ _=>rfl) (fun _ _=>rfl)) (ih hs.2 hr)
       exact key h4 q7
      refine ⟨cur',t',fz',f2,q1,q2,q3,by rw [←h3];exact q4,q5,fun e he=>?_,q8⟩
      rcases h6 with h6|h6
      ·rw [h6] at he;cases he
      ·exact q6 e (by rw [←h6];exact he)
    ·exact (h _ h1).elim
  ·rcases hcase j with ⟨id,h,_,e2⟩|⟨_,_,e2⟩
   ·rw [e2];exact hr.objs.nodup id (hlt j id hj h)
   ·rw [e2];simp
  ·rcases hcase i with ⟨id1,h1,_,e1⟩|⟨_,_,e1⟩<;>rcases hcase j with ⟨id2,h2,_,e2⟩|⟨_,_,e2⟩<;>rw [e1] at hb<;>rw [e2]
   ·exact hr.objs.apart id1 id2 (hlt i id1 hi h1) (hlt j id2 hj h2) (fun e=>hij (hids i j id1 h1 (e▸h2))) b hb
   ·simp
   ·simp at hb
   ·simp
  ·rcases hcase j with ⟨id,h,_,e2⟩|⟨_,_,e2⟩
   ·rw [e2] at hb
    obtain ⟨q1,q2,q3⟩:=hr.foot id (hlt j id hj h) b hb
    exact ⟨q1.resolve_left (fun h=>h),q2,q3⟩
   ·rw [e2] at hb;simp at hb
 cases h with
 |one h1 hN hnd hex=>
  obtain ⟨v,hv,hV⟩:=ResV.rel hP hr h1
  exact ⟨v,run_results1 hfr hv,fin rfl hN hnd hex hV⟩
 |two h1 h2 hN hnd hex=>
  obtain ⟨v1,hv1,hV1⟩:=ResV.rel hP hr h1
  obtain ⟨v2,hv2,hV2⟩:=ResV.rel hP hr h2
  exact ⟨_,run_results2 hfr hv1 hv2,fin rfl hN hnd hex (by simpa using LRel.tup (LRel.cons hV1 hV2) .nil)⟩
 |three h1 h2 h3 hN hnd hex=>
  obtain ⟨v1,hv1,hV1⟩:=ResV.rel hP hr h1
  obtain ⟨v2,hv2,hV2⟩:=ResV.rel hP hr h2
  obtain ⟨v3,hv3,hV3⟩:=ResV.rel hP hr h3
  exact ⟨_,run_results3 hfr hv1 hv2 hv3,fin rfl hN hnd hex (by simpa using LRel.tup (LRel.cons hV1 (LRel.cons hV2 hV3)) .nil)⟩
theorem FnC.of_bodyM (hP:TabOk P tab) {f:FuncId} {fn:Func} {c:Code} {args:List AV} {N:List AObj} {r:AV} {k:Nat} (hf:P.funcs[f]?=some fn) (hnt:fn.ntmps=k) (hb:fn.body=some c) (hnm:(fn.name== "runtime.NumGoroutine")=false)
 (hal:args.length≤k) (h:∀G,(∀ b,¬G.M0 b)→WpA P k 0 G c ⟨enumT 0 args,[]⟩ (Fin tab fn.results N r)):FnC P f args N r:=by
 refine ⟨⟨fn,hf,by rw [hb];rfl,hnm⟩,fun w S vs hS hg hl=>?_⟩
 have hvl:vs.length=args.length:=hl.len.symm
 refine calls_of_wp hf hb ?_
 have hrel:Rel k 0 ⟨w,S,fun _=>False,fun _=>none,hg.ctx hS fun _ h=>h.elim⟩ ⟨enumT 0 args,[]⟩ {tmps:=vs.toArray++Array.replicate (fn.ntmps-vs.toArray.size) undef,defers:=[]} w:=by
  refine ⟨S,fun _=>none,fun _=>[],rfl,?_,fun t=>?_,⟨by simp,by simp,by simp⟩,by simp,⟨fun _ h=>h,fun _ h=>.inl h⟩,hS,Keeps.refl _ _,by simp,by simp⟩
  ·simp [hnt];omega
  ·show VRel S w _ [] (look (enumT 0 args) t) _ []
   rw [look_enumT]
   simp only [Nat.zero_le,if_true,Nat.sub_zero]
   by_cases ht:t<args.length
   ·obtain ⟨x,g,hx,hV,hg⟩:=hl.get (List.getElem?_eq_getElem ht)
    have hg0:g=[]:=List.eq_nil_iff_forall_not_mem.2 fun b hb=>by simpa using hg b hb
    subst hg0
    have e1:args.getD t .any=args[t]:=by simp [ht]
    have e2:(vs.toArray++Array.replicate (fn.ntmps-vs.toArray.size) undef).getD t undef=x:=by
     have:t<vs.length:=by omega
     rw [List.getElem?_eq_getElem this] at hx
     simp only [Option.some.injEq] at hx
     simp [Array.getD_eq_getD_getElem?,Array.getElem?_append,this,hx]
    rw [e1,e2];exact hV
   ·have e1:args.getD t .any=.any:=by simp [List.getElem?_eq_none (Nat.le_of_not_lt ht)]
    rw [e1];exact .any .nil
 refine wp_mono (h _ (fun _ h=>h) _ _ hrel) fun e a' w' ⟨σ',hq,hr'⟩=>?_
 have hdef:a'.defers=[]:=by obtain ⟨_,_,_,h⟩:=hr';exact h.defers
 cases e with
 |normal=>
  obtain ⟨v,hv,S',ι,F,q⟩:=Res.out hP rfl hq hr'
  exact ⟨hdef,v,hv,v,S',ι,F,rfl,q⟩
 |ret=>
  obtain ⟨v,hv,S',ι,F,q⟩:=Res.out hP rfl hq hr'
  exact ⟨hdef,v,hv,v,S',ι,F,rfl,q⟩
 |_=>exact hq.elim
theorem FnC.of_body (hP:TabOk P tab) {f:FuncId} {fn:Func} {c:Code} {args:List AV} {N:List AObj} {r:AV} {k:Nat} (hf:P.funcs[f]?=some fn) (hnt:fn.ntmps=k) (hb:fn.body=some c) (hnm:(fn.name== "runtime.NumGoroutine")=false)
 (hal:args.length≤k) (h:∀G,WpA P k 0 G c ⟨enumT 0 args,[]⟩ (Fin tab fn.results N r)):FnC P f args N r:=FnC.of_bodyM hP hf hnt hb hnm hal fun G _=>h G
end
end Go.Abs
