/- Proved in this text: lemmas and contracts of functions that the claim uses (parts: AbsQ, AbsR, AbsS, AbsT). No condition. -/
import Derived.Test.YtainhhfnnclfiaaGreatBsM3
set_option linter.unusedVariables false
set_option linter.unusedSimpArgs false
set_option maxRecDepth 100000
set_option maxHeartbeats 16000000


namespace Go.Abs
open Go
def findN:List Nat→Nat→Nat→Option Nat
 |[],_,_=>none
 |h::hs,i,k=>match Nat.beq h i with
  |true=>some k
  |false=>findN hs i (k+1)
theorem findN_some:∀{hs:List Nat} {i k j:Nat},findN hs i k=some j→∃q,j=k+q∧hs[q]?=some i
 |[],_,_,_,h=>by simp [findN] at h
 |a::hs,i,k,j,h=>by
  rw [findN] at h
  cases hb:Nat.beq a i with
  |true=>rw [hb] at h;cases h;exact ⟨0,rfl,by simp [Nat.eq_of_beq_eq_true hb]⟩
  |false=>
   rw [hb] at h
   obtain ⟨q,h1,h2⟩:=findN_some h
   exact ⟨q+1,by omega,by simpa using h2⟩
theorem findN_none:∀{hs:List Nat} {i k:Nat},findN hs i k=none→i ∉ hs
 |[],_,_,_=>by simp
 |a::hs,i,k,h=>by
  rw [findN] at h
  cases hb:Nat.beq a i with
  |true=>rw [hb] at h;cases h
  |false=>
   rw [hb] at h
   have h1:a≠i:=by rintro rfl;rw [Nat.beq_refl] at hb;cases hb
   have:=findN_none h
   simp only [List.mem_cons,not_or]
   exact ⟨fun e=>h1 e.symm,this⟩
inductive SnapX (O:List AObj) (hs:List Nat):List AV→List AV→Prop
 |nil:SnapX O hs [] []
 |any {V vs us}:SnapX O hs vs us→SnapX O hs (V::vs) (.any::us)
 |keep {V vs us}:V.still=true→V.nofre=true→SnapX O hs vs us→SnapX O hs (V::vs) (V::us)
 |nilI {s vs us}:SnapX O hs vs us→SnapX O hs (.nilS::vs) (.imm s 0 []::us)
 |own {id ep len len' sz ob es vs us}:findN hs id 0=none→O[id]?=some ob→ob.ep=ep→ob.size=sz→len*ob.size=ob.cells.length→len=len'→SnapX O hs ob.cells es→SnapX O hs vs us→SnapX O hs (.own id ep 0 len::vs) (.imm sz len' es::us)
 |fre {s l ds es vs us}:SnapX O hs ds es→SnapX O hs vs us→SnapX O hs (.fre s l ds::vs) (.imm s l es::us)
 |ptr {id ep off ob es vs us}:findN hs id 0=none→O[id]?=some ob→ob.ep=ep→SnapX O hs ob.cells es→SnapX O hs vs us→SnapX O hs (.ptr id ep off::vs) (.iptr es off::us)
 |agg {ds es vs us}:SnapX O hs ds es→SnapX O hs vs us→SnapX O hs (.agg ds::vs) (.agg es::us)
 |fn {f ds es vs us}:SnapX O hs ds es→SnapX O hs vs us→SnapX O hs (.fn f ds::vs) (.fn f es::us)
theorem SnapX.same {O:List AObj} {hs:List Nat} {cs cs':List AV} (h:cs=cs') (hs':cs'.all AV.still=true) (hf:cs'.all AV.nofre=true):SnapX O hs cs cs':=by
 subst h
 induction cs with
 |nil=>exact .nil
 |cons c cs ih=>
  simp only [List.all_cons,Bool.and_eq_true] at hs' hf
  exact .keep hs'.1 hf.1 (ih hs'.2 hf.2)
theorem SnapX.rel {O:List AObj} {hs:List Nat} {S S2:Nat→Prop} {w ι ιM} {F:Nat→List Nat} (ho:ORel S w ι O F) (hS:∀b,S b→S2 b) (hS2:∀b,b<w.heap.size→(∀ id∈hs,b ∉ F id)→S2 b) (hlt:∀id∈hs,id<O.length) {vs us:List AV} (h:SnapX O hs vs us):
 ∀{xs f},LRel S w ι O vs xs f→(∀ b∈f,∀id∈hs,b ∉ F id)→LRel S2 w ιM [] us xs []:=by
 have blk:∀{b:Nat} {o:Obj},w.heap[b]?=some o→b<w.heap.size:=fun h=>(Array.getElem?_eq_some_iff.1 h).1
 have apt:∀{id:Nat} {ob:AObj},O[id]?=some ob→findN hs id 0=none→∀b∈F id,∀id'∈hs,b ∉ F id':=fun {id ob} h1 h2 b hb id' hid'=>by
  have hne:id≠id':=by rintro rfl;exact findN_none h2 hid'
  exact ho.apart id id' (List.getElem?_eq_some_iff.1 h1).1 (hlt id' hid') hne b hb
 induction h with
 |nil=>intro xs f hl _;cases hl;exact .nil
 |any _ ih=>
  intro xs f hl hf
  obtain ⟨v,vs',f1,f2,rfl,hv,hr,rfl⟩:=hl.uncons
  exact .any (ih hr fun b hb=>hf b (List.mem_append_right _ hb))
 |keep hs hn _ ih=>
  intro xs f hl hf
  obtain ⟨v,vs',f1,f2,rfl,hv,hr,rfl⟩:=hl.uncons
  have:=nofre_nil hv hn
  subst this
  have:=LRel.cons (still_any hv hs [] hS (fun _ _=>rfl) (by simp)) (ih hr fun b hb=>hf b (List.mem_append_right _ hb))
  simpa using this
 |fn _ _ ih1 ih2=>
  intro xs f hl hf
  obtain ⟨v,vs',f1,f2,rfl,hv,hr,rfl⟩:=hl.uncons
  cases hv with|fn a r=>cases r;exact .fn (ih1 a (by simp)) (ih2 hr fun b hb=>hf b (List.mem_append_right _ hb))
 |nilI _ ih=>
  intro xs f hl hf
  obtain ⟨v,vs',f1,f2,rfl,hv,hr,rfl⟩:=hl.uncons
  have:=(LRel.slice_len hv).2.2 rfl
  subst this
  exact .imm0 (by simp) (ih hr fun b hb=>hf b (List.mem_append_right _ hb))
 |@own id ep len len' sz ob es vs us hnf hob hep hsz hlen hll _ _ ih1 ih2=>
  intro xs f hl hf
  subst hll hsz
  obtain ⟨v,vs',f1,f2,rfl,hv,hr,rfl⟩:=hl.uncons
  have hr2:=ih2 hr fun b hb=>hf b (List.mem_append_right _ hb)
  have hoa:=ho.obj id ob hob
  unfold ObjAt at hoa
  cases hv with
  |own q1 q2 q3 r=>
   rw [hob] at q1;cases q1
   have hc:=q3 hep.symm
   cases hs:ι id with
   |none=>
    rw [hs] at hc hoa
    obtain ⟨h1,_,h3⟩:=hc
    subst h1;subst h3
    have:es=[]:=by
     have:=ih1 (xs:=[]) (f:=[]) (by rw [hoa.1];exact .nil) (by simp)
     cases this;rfl
    subst this
    exact .imm0 (by simp) hr2
   |some p=>
    obtain ⟨b,k⟩:=p
    rw [hs] at hc hoa
    obtain ⟨cap,h1,_,h3,h4⟩:=hc
    obtain ⟨cur,t,fz,f',hF,hh,_,_,_,_,hl'⟩:=hoa
    subst h1
    have hap:=apt hob hnf
    rw [hF] at hap
    have hi:=ih1 hl' fun b hb=>hap b (by simp [hb])
    refine .imm (us:=cur.toList.take ob.cells.length) (hS2 _ (blk hh) (hap b (by simp))) (fun i hi=>cell_of_heap hh _ i hi) ?_ ?_ h3 h4 hr2
    ·exact hi
    ·rw [hlen,hl'.len,hi.len]
 |@fre s l ds es vs us _ _ ih1 ih2=>
  intro xs f hl hf
  obtain ⟨v,vs',f1,f2,rfl,hv,hr,rfl⟩:=hl.uncons
  have hr2:=ih2 hr fun b hb=>hf b (List.mem_append_right _ hb)
  cases hv with
  |fre0 r=>
   have:=ih1 (xs:=[]) (f:=[]) .nil (by simp)
   cases this
   exact .imm0 (by simp) hr2
  |@fre _ _ b _ cap cur t fz _ us' f' _ _ _ hh0 hsz hu hl' h1 h2 h3 r=>
   have hh:=hh0.1
   have hi:=ih1 hl'.lift fun b hb=>hf b (by simp [hb])
   subst hu
   refine .imm (us:=cur.toList.take ds.length) (hS2 _ (blk hh) (hf b (by simp))) (fun i hi=>cell_of_heap hh _ i hi) hi ?_ h2 h3 hr2
   rw [h1,hl'.len,hi.len]
 |@ptr id ep off ob es vs us hnf hob hep _ _ ih1 ih2=>
  intro xs f hl hf
  obtain ⟨v,vs',f1,f2,rfl,hv,hr,rfl⟩:=hl.uncons
  have hr2:=ih2 hr fun b hb=>hf b (List.mem_append_right _ hb)
  have hoa:=ho.obj id ob hob
  unfold ObjAt at hoa
  cases hv with
  |ptr q1 q2 q3 r=>
   rw [hob] at q1;cases q1
   have hc:=q3 hep.symm
   cases hs:ι id with
   |none=>rw [hs] at hc;exact hc.elim
   |some p=>
    obtain ⟨b,k⟩:=p
    rw [hs] at hc hoa
    obtain ⟨cur,t,fz,f',hF,hh,_,_,_,_,hl'⟩:=hoa
    have h1:_=Value.pointer (some ⟨b,off,none⟩):=hc
    subst h1
    have hap:=apt hob hnf
    rw [hF] at hap
    have:=LRel.iptr (O:=[]) (ι:=ιM) (off:=off) (S:=S2) (us:=cur.toList.take ob.cells.length) (hS2 _ (blk hh) (hap b (by simp))) (fun i hi=>cell_of_heap hh _ i hi) (ih1 hl' fun b hb=>hap b (by simp [hb])) hr2
    rwa [Nat.zero_add] at this
 |agg _ _ ih1 ih2=>
  intro xs f hl hf
  obtain ⟨v,vs',f1,f2,rfl,hv,hr,rfl⟩:=hl.uncons
  obtain ⟨us',rfl,ha⟩:=LRel.agg_inv hv
  have:=LRel.agg (ih1 ha fun b hb=>hf b (List.mem_append_left _ hb)) (ih2 hr fun b hb=>hf b (List.mem_append_right _ hb))
  simpa using this
theorem SnapX.of0 {O:List AObj} {hs:List Nat} {vs us:List AV} (h:Snap [] vs us):SnapX O hs vs us:=by
 induction h with
 |nil=>exact .nil
 |any _ ih=>exact .any ih
 |keep a b _ ih=>exact .keep a b ih
 |nilI _ ih=>exact .nilI ih
 |own h=>simp at h
 |ownO h=>simp at h
 |fre _ _ ih1 ih2=>exact .fre ih1 ih2
 |ptr h=>simp at h
 |agg _ _ ih1 ih2=>exact .agg ih1 ih2
 |fn _ _ ih1 ih2=>exact .fn ih1 ih2
theorem SnapX.ownL {O:List AObj} {hs:List Nat} {id ep len len' sz:Nat} {ob:AObj} {es vs us:List AV} (h0:findN hs id 0=none) (h1:O[id]?=some ob) (h2:ob.ep=ep) (h3:ob.size=sz) (r1:SnapX O hs ob.cells es) (h4:len*ob.size=ob.cells.length) (h5:len=len') (r2:SnapX O hs vs us):SnapX O hs (.own id ep 0 len::vs) (.imm sz len' es::us):=.own h0 h1 h2 h3 h4 h5 r1 r2
inductive Hand (O:List AObj) (hs:List Nat):List AV→List AV→Prop
 |nil:Hand O hs [] []
 |any {V vs us}:Hand O hs vs us→Hand O hs (V::vs) (.any::us)
 |keep {V vs us}:V.still=true→V.nofre=true→Hand O hs vs us→Hand O hs (V::vs) (V::us)
 |own {id ep off len len' j ob vs us}:hs[j]?=some id→O[id]?=some ob→ob.ep=ep→len=len'→Hand O hs vs us→Hand O hs (.own id ep off len::vs) (.own j 0 off len'::us)
 |ptr {id ep off j ob vs us}:hs[j]?=some id→O[id]?=some ob→ob.ep=ep→Hand O hs vs us→Hand O hs (.ptr id ep off::vs) (.ptr j 0 off::us)
 |agg {ds es vs us}:Hand O hs ds es→Hand O hs vs us→Hand O hs (.agg ds::vs) (.agg es::us)
 |snap {V U vs us}:SnapX O hs [V] [U]→Hand O hs vs us→Hand O hs (V::vs) (U::us)
inductive HandO (O:List AObj):List Nat→List AObj→Prop
 |nil:HandO O [] []
 |cons {id hs ob mb M}:O[id]?=some ob→ob.cells=mb.cells→mb.cells.all AV.still=true→mb.ep=0→mb.size=ob.size→(mb.ty=none∨mb.ty=ob.ty)→HandO O hs M→HandO O (id::hs) (mb::M)
theorem HandO.at {O hs M} (h:HandO O hs M):hs.length=M.length∧∀(j:Nat) (mb:AObj),M[j]?=some mb→∃id ob,hs[j]?=some id∧O[id]?=some ob∧ob.cells=mb.cells∧mb.cells.all AV.still=true∧mb.ep=0∧mb.size=ob.size∧(mb.ty=none∨mb.ty=ob.ty):=by
 induction h with
 |nil=>exact ⟨rfl,by simp⟩
 |cons h1 h2 h3 h4 h5 h6 _ ih=>
  refine ⟨by simp [ih.1],fun j mb hj=>?_⟩
  cases j with
  |zero=>simp at hj;subst hj;exact ⟨_,_,by simp,h1,h2,h3,h4,h5,h6⟩
  |succ j=>simpa using ih.2 j mb (by simpa using hj)
def newOb (hs:List Nat) (M':List AObj) (i:Nat) (ob:AObj):AObj:=match findN hs i 0 with
 |none=>ob
 |some j=>match M'[j]? with
  |none=>ob
  |some mb=>⟨mb.cells,ob.ep,mb.size,mb.ty⟩
def newO (hs:List Nat) (M':List AObj):Nat→List AObj→List AObj
 |_,[]=>[]
 |k,ob::O=>newOb hs M' k ob::newO hs M' (k+1) O
theorem newO_len (hs:List Nat) (M':List AObj):∀(k:Nat) (O:List AObj),(newO hs M' k O).length=O.length
 |_,[]=>rfl
 |k,_::O=>by simp [newO,newO_len hs M' (k+1) O]
theorem newO_at (hs:List Nat) (M':List AObj):∀(k:Nat) (O:List AObj) (i:Nat),(newO hs M' k O)[i]?=(O[i]?).map (newOb hs M' (k+i))
 |_,[],i=>by simp [newO]
 |k,ob::O,0=>by simp [newO]
 |k,ob::O,i+1=>by rw [newO,List.getElem?_cons_succ,List.getElem?_cons_succ,newO_at hs M' (k+1) O i];congr 2;omega
def obF (hs:List Nat) (M':List AObj) (i:Nat) (ob:AObj):Option AObj:=match findN hs i 0 with
 |none=>match ob with
  |⟨c,e,z,t⟩=>some ⟨c,e,z,t⟩
 |some j=>match M'[j]? with
  |none=>none
  |some ⟨c,_,z,t⟩=>match ob with
   |⟨_,e,_,_⟩=>some ⟨c,e,z,t⟩
theorem obF_eq {hs:List Nat} {M':List AObj} {i:Nat} {ob x:AObj} (h:obF hs M' i ob=some x):newOb hs M' i ob=x:=by
 unfold obF at h;unfold newOb
 cases hf:findN hs i 0 with
 |none=>rw [hf] at h;exact Option.some.inj h
 |some j=>
  rw [hf] at h
  simp only at h ⊢
  cases hm:M'[j]? with
  |none=>rw [hm] at h;cases h
  |some mb=>rw [hm] at h;exact Option.some.inj h
def newF (hs:List Nat) (M':List AObj):Nat→List AObj→List AObj→Option (List AObj)
 |_,[],N=>flatO N
 |k,ob::O,N=>match obF hs M' k ob with
  |none=>none
  |some x=>match newF hs M' (k+1) O N with
   |none=>none
   |some r=>some (x::r)
theorem newF_eq {hs:List Nat} {M':List AObj}:∀{k:Nat} {O N O2:List AObj},newF hs M' k O N=some O2→newO hs M' k O++N=O2
 |_,[],N,O2,h=>by rw [newF] at h;rw [newO];exact flatO_eq h
 |k,ob::O,N,O2,h=>by
  rw [newF] at h
  cases hx:obF hs M' k ob with
  |none=>rw [hx] at h;cases h
  |some x=>
   rw [hx] at h
   cases hr:newF hs M' (k+1) O N with
   |none=>simp only [hr] at h;cases h
   |some r=>simp only [hr] at h;rw [newO,obF_eq hx,List.cons_append,newF_eq hr];exact Option.some.inj h
mutual
def AV.reF (m base:Nat):AV→Option AV
 |.own id ep off len=>match Nat.ble m id with
  |true=>some (.own (id-m+base) ep off len)
  |false=>none
 |.agg ds=>match AV.reFL m base ds with
  |some r=>some (.agg r)
  |none=>none
 |.tup ds=>match AV.reFL m base ds with
  |some r=>some (.tup r)
  |none=>none
 |.any=>some .any
 |.sc v=>some (.sc v)
 |.nilS=>some .nilS
 |.imm s 0 []=>some (.imm s 0 [])
 |_=>none
def AV.reFL (m base:Nat):List AV→Option (List AV)
 |[]=>some []
 |V::Vs=>match AV.reF m base V with
  |none=>none
  |some W=>match AV.reFL m base Vs with
   |some r=>some (W::r)
   |none=>none
end
section
variable {S S3:Nat→Prop} {w:World} {ι ι3:Nat→Spot} {O O3:List AObj} {m base:Nat}
mutual
theorem AV.reF_rel (hι:∀id,m≤id→ι3 (id-m+base)=ι id) (hO:∀id ob,m≤id→O[id]?=some ob→O3[id-m+base]?=some ob):∀(V W:AV),V.reF m base=some W→∀{x f},VRel S w ι O V x f→VRel S3 w ι3 O3 W x f
 |.own id ep off len,W,h,x,f,hv=>by
  rw [AV.reF] at h
  cases hb:Nat.ble m id with
  |false=>rw [hb] at h;cases h
  |true=>
   rw [hb] at h;cases h
   have hle:=Nat.le_of_ble_eq_true hb
   cases hv with|own a b c r=>cases r;exact .own (hO _ _ hle a) b (fun e=>by rw [hι _ hle];exact c e) .nil
 |.agg ds,W,h,x,f,hv=>by
  rw [AV.reF] at h
  cases hr:AV.reFL m base ds with
  |none=>rw [hr] at h;cases h
  |some r=>
   rw [hr] at h;cases h
   cases hv with|agg a r'=>cases r';exact .agg (AV.reFL_rel hι hO ds r hr a) .nil
 |.tup ds,W,h,x,f,hv=>by
  rw [AV.reF] at h
  cases hr:AV.reFL m base ds with
  |none=>rw [hr] at h;cases h
  |some r=>
   rw [hr] at h;cases h
   cases hv with|tup a r'=>cases r';exact .tup (AV.reFL_rel hι hO ds r hr a) .nil
 |.any,W,h,x,f,hv=>by rw [AV.reF] at h;cases h;cases hv with|any r=>cases r;exact .any .nil
 |.sc _,W,h,x,f,hv=>by rw [AV.reF] at h;cases h;cases hv with|sc r=>cases r;exact .sc .nil
 |.nilS,W,h,x,f,hv=>by rw [AV.reF] at h;cases h;cases hv with|nilS r=>cases r;exact .nilS .nil
 |.imm s l cs,W,h,x,f,hv=>by
  match l,cs,h,hv with
  |0,[],h,hv=>
   rw [AV.reF] at h;cases h
   cases hv with
   |imm0 h0 r=>cases r;exact .imm0 h0 .nil
   |imm a b c d e f r=>cases r;exact .imm0 ⟨fun h=>(by cases h),f⟩ .nil
  |l+1,cs,h,hv=>simp [AV.reF] at h
  |0,c::cs,h,hv=>simp [AV.reF] at h
 |.fre _ _ _,W,h,x,f,hv=>by simp [AV.reF] at h
 |.ptr _ _ _,W,h,x,f,hv=>by simp [AV.reF] at h
 |.iptr _ _,W,h,x,f,hv=>by simp [AV.reF] at h
 |.fn _ _,W,h,x,f,hv=>by simp [AV.reF] at h
 |.ifc _ _,W,h,x,f,hv=>by simp [AV.reF] at h
theorem AV.reFL_rel (hι:∀id,m≤id→ι3 (id-m+base)=ι id) (hO:∀id ob,m≤id→O[id]?=some ob→O3[id-m+base]?=some ob):∀(Vs Ws:List AV),AV.reFL m base Vs=some Ws→∀{xs f},LRel S w ι O Vs xs f→LRel S3 w ι3 O3 Ws xs f
 |[],Ws,h,xs,f,hl=>by rw [AV.reFL] at h;cases h;cases hl;exact .nil
 |V::Vs,Ws,h,xs,f,hl=>by
  rw [AV.reFL] at h
  cases hv:AV.reF m base V with
  |none=>rw [hv] at h;cases h
  |some W=>
   rw [hv] at h
   cases hr:AV.reFL m base Vs with
   |none=>simp only [hr] at h;cases h
   |some r=>
    simp only [hr] at h;cases h
    obtain ⟨v,vs',f1,f2,rfl,hv1,hr1,rfl⟩:=hl.uncons
    exact LRel.cons (AV.reF_rel hι hO V W hv hv1) (AV.reFL_rel hι hO Vs r hr hr1)
end
end
theorem still_all {S w ι O S' w' ι' O'}:∀{cs:List AV} {xs f},cs.all AV.still=true→LRel S w ι O cs xs f→(∀ b,S b→S' b)→(∀ b,S b→w'.heap[b]?=w.heap[b]?)→(∀ b∈f,w'.heap[b]?=w.heap[b]?)→LRel S' w' ι' O' cs xs f:=by
 intro cs
 induction cs with
 |nil=>intro xs f _ hl _ _ _;cases hl;exact .nil
 |cons c cs ih=>
  intro xs f hs hl h1 h2 h3
  simp only [List.all_cons,Bool.and_eq_true] at hs
  obtain ⟨v,vs',f1,f2,rfl,hv,hr,rfl⟩:=hl.uncons
  exact LRel.cons (still_any hv hs.1 O' h1 h2 fun b hb=>h3 b (by simp [hb])) (ih hs.2 hr h1 h2 fun b hb=>h3 b (by simp [hb]))
theorem Hand.rel {O:List AObj} {hs:List Nat} {M:List AObj} {S S2:Nat→Prop} {w ι ιM} (hM:HandO O hs M) (hι:∀(j id:Nat),hs[j]?=some id→ιM j=ι id) (hS:∀b,S b→S2 b) {F:Nat→List Nat} (hO:ORel S w ι O F) (hS2:∀b,b<w.heap.size→(∀ id∈hs,b ∉ F id)→S2 b) (hlt:∀id∈hs,id<O.length) {vs us} (h:Hand O hs vs us):∀{xs f},LRel S w ι O vs xs f→(∀ b∈f,∀id∈hs,b ∉ F id)→∃f',LRel S2 w ιM M us xs f'∧(∀ b∈f',b∈f):=by
 induction h with
 |nil=>intro xs f hl _;cases hl;exact ⟨[],.nil,by simp⟩
 |any _ ih=>
  intro xs f hl hfn
  obtain ⟨v,vs',f1,f2,rfl,hv,hr,rfl⟩:=hl.uncons
  obtain ⟨f',h1,h2⟩:=ih hr fun b hb=>hfn b (List.mem_append_right _ hb)
  exact ⟨f',.any h1,fun b hb=>List.mem_append_right _ (h2 b hb)⟩
 |keep hs hn _ ih=>
  intro xs f hl hfn
  obtain ⟨v,vs',f1,f2,rfl,hv,hr,rfl⟩:=hl.uncons
  have:=nofre_nil hv hn
  subst this
  obtain ⟨f',h1,h2⟩:=ih hr fun b hb=>hfn b (List.mem_append_right _ hb)
  exact ⟨f',by simpa using LRel.cons (still_any hv hs M hS (fun _ _=>rfl) (by simp)) h1,fun b hb=>List.mem_append_right _ (h2 b hb)⟩
 |@own id ep off len len' j ob vs us hj ho he hln _ ih=>
  intro xs f hl hfn
  subst hln
  obtain ⟨v,vs',f1,f2,rfl,hv,hr,rfl⟩:=hl.uncons
  obtain ⟨f',h1,h2⟩:=ih hr fun b hb=>hfn b (List.mem_append_right _ hb)
  refine ⟨f',?_,fun b hb=>List.mem_append_right _ (h2 b hb)⟩
  cases hv with
  |own q1 q2 q3 r=>
   rw [ho] at q1;cases q1
   have hjl:j<M.length:=by rw [←hM.at.1];exact (List.getElem?_eq_some_iff.1 hj).1
   obtain ⟨id',ob',e1,e2,_,_,e5,e6,_⟩:=hM.at.2 j _ (List.getElem?_eq_getElem hjl)
   rw [hj] at e1;cases e1
   rw [ho] at e2;cases e2
   exact .own (List.getElem?_eq_getElem hjl) (by omega) (fun _=>by rw [hι j _ hj,e6];exact q3 he.symm) h1
 |@ptr id ep off j ob vs us hj ho he _ ih=>
  intro xs f hl hfn
  obtain ⟨v,vs',f1,f2,rfl,hv,hr,rfl⟩:=hl.uncons
  obtain ⟨f',h1,h2⟩:=ih hr fun b hb=>hfn b (List.mem_append_right _ hb)
  refine ⟨f',?_,fun b hb=>List.mem_append_right _ (h2 b hb)⟩
  cases hv with
  |ptr q1 q2 q3 r=>
   rw [ho] at q1;cases q1
   have hjl:j<M.length:=by rw [←hM.at.1];exact (List.getElem?_eq_some_iff.1 hj).1
   obtain ⟨id',ob',e1,e2,_,_,e5,e6,_⟩:=hM.at.2 j _ (List.getElem?_eq_getElem hjl)
   rw [hj] at e1;cases e1
   rw [ho] at e2;cases e2
   exact .ptr (List.getElem?_eq_getElem hjl) (by omega) (fun _=>by rw [hι j _ hj];exact q3 he.symm) h1
 |agg _ _ ih1 ih2=>
  intro xs f hl hfn
  obtain ⟨v,vs',f1,f2,rfl,hv,hr,rfl⟩:=hl.uncons
  obtain ⟨us',rfl,ha⟩:=LRel.agg_inv hv
  obtain ⟨g',a1,a2⟩:=ih1 ha fun b hb=>hfn b (List.mem_append_left _ hb)
  obtain ⟨f',h1,h2⟩:=ih2 hr fun b hb=>hfn b (List.mem_append_right _ hb)
  refine ⟨g'++f',.agg a1 h1,fun b hb=>?_⟩
  rcases List.mem_append.1 hb with hb|hb
  ·exact List.mem_append_left _ (a2 b hb)
  ·exact List.mem_append_right _ (h2 b hb)
 |snap hx _ ih=>
  intro xs f hl hfn
  obtain ⟨v,vs',f1,f2,rfl,hv,hr,rfl⟩:=hl.uncons
  obtain ⟨f',h1,h2⟩:=ih hr fun b hb=>hfn b (List.mem_append_right _ hb)
  have:=SnapX.rel (ιM:=ιM) hO hS hS2 hlt hx hv fun b hb=>hfn b (List.mem_append_left _ hb)
  exact ⟨[]++f',LRel.cons this.lift h1,fun b hb=>List.mem_append_right _ (h2 b (by simpa using hb))⟩
section
variable {P:Program} {n m:Nat} {G:Ctx} {T:List (Nat×AV)} {O:List AObj} {Q:Exit→St→Prop} {ops:Array Oper} {l:List Oper} {tt:TypeId} {pos:String} {after:Array Edge} {tab:List (Nat×Ty)}
theorem nodup_get {hs:List Nat} (h:hs.Nodup) {i j id:Nat} (h1:hs[i]?=some id) (h2:hs[j]?=some id):i=j:=
 (List.getElem?_inj (List.getElem?_eq_some_iff.1 h1).1 h).1 (h1.trans h2.symm)
theorem callG_rel {f:FuncId} {xs:List Operand} {As:List AV} {M M' N:List AObj} {r r':AV} {hs:List Nat} (hc:FnG P f As M M' N r) (hh:Hand O hs (xs.map (av T)) As) (hM:HandO O hs M) (hnd:hs.Nodup) (hlen:M'.length=M.length)
 (hsz:∀(j:Nat) (a b:AObj),M[j]?=some a→M'[j]?=some b→b.size=a.size) (hM':Out M') (hN:Out N) (hre:r.reF M.length O.length=some r') {a:Act} {w:World} (hr:Rel n m G ⟨T,O⟩ a w):
 Calls P f (xs.map a.eval).toArray w fun e w'=>∃v,e=.returned v∧∃S ι F,RelAt n m G S ι F ⟨T,newO hs M' 0 O++N⟩ a w'∧VRel S w' ι (newO hs M' 0 O++N) r' v []:=by
 obtain ⟨S,ι,F,hr⟩:=hr
 obtain ⟨⟨fn,hf,hb,hnm⟩,hcall⟩:=hc
 obtain ⟨hlM,hatM⟩:=hM.at
 let S2:Nat→Prop:=fun b=>b<w.heap.size∧∀id∈hs,b ∉ F id
 let ιM:Nat→Spot:=fun j=>match hs[j]? with|some id=>ι id|none=>none
 let FM:Nat→List Nat:=fun j=>match hs[j]? with|some id=>F id|none=>[]
 have hιM:∀(j id:Nat),hs[j]?=some id→ιM j=ι id:=fun j id h=>by show (match hs[j]? with|some id=>ι id|none=>none)=_;rw [h]
 have hFM:∀(j id:Nat),hs[j]?=some id→FM j=F id:=fun j id h=>by show (match hs[j]? with|some id=>F id|none=>[])=_;rw [h]
 have hidl:∀(j id:Nat),hs[j]?=some id→id<O.length:=fun j id h=>by
  have hj:j<M.length:=by rw [←hlM];exact (List.getElem?_eq_some_iff.1 h).1
  obtain ⟨id',ob,e1,e2,_⟩:=hatM j _ (List.getElem?_eq_getElem hj)
  rw [h] at e1;cases e1;exact (List.getElem?_eq_some_iff.1 e2).1
 have hmem:∀id∈hs,∃j,j<M.length∧hs[j]?=some id:=fun id h=>by
  obtain ⟨j,hj,e⟩:=List.getElem_of_mem h
  exact ⟨j,by omega,by rw [List.getElem?_eq_getElem hj,e]⟩
 have hex:∀j,j<M.length→∃id,hs[j]?=some id:=fun j hj=>⟨hs[j],List.getElem?_eq_getElem (by omega)⟩
 have hSS:∀b,S b→S2 b:=fun b hb=>⟨hr.stable b hb,fun id hid hbf=>by
  obtain ⟨j,hj,e⟩:=hmem id hid
  exact (hr.foot id (hidl j id e) b hbf).2.1 hb⟩
 have hOM:ORel S2 w ιM M FM:=by
  refine ⟨fun j mb hj=>?_,fun j hj=>?_,fun i j hi hj hij b hb=>?_⟩
  ·obtain ⟨id,ob,e1,e2,e3,e4,e5,e6,e7⟩:=hatM j mb hj
   rw [hιM j id e1,hFM j id e1]
   have ho:=hr.objs.obj id ob e2
   unfold ObjAt at ho ⊢
   cases hs':ι id with
   |none=>rw [hs'] at ho;rw [←e3];exact ho
   |some p=>
    obtain ⟨b,k⟩:=p
    rw [hs'] at ho
    obtain ⟨cur',t',fz',f2,q1,q2,q3,q4,q5,q6,q7⟩:=ho
    refine ⟨cur',t',fz',f2,q1,q2,q3,by rw [←e3];exact q4,q5,fun e he=>?_,?_⟩
    ·rcases e7 with e7|e7
     ·rw [e7] at he;cases he
     ·exact q6 e (by rw [←e7];exact he)
    ·rw [←e3]
     exact still_all (by rw [e3];exact e4) q7 hSS (fun _ _=>rfl) (fun _ _=>rfl)
  ·obtain ⟨id,e⟩:=hex j hj
   rw [hFM j id e];exact hr.objs.nodup id (hidl j id e)
  ·obtain ⟨id1,e1⟩:=hex i hi
   obtain ⟨id2,e2⟩:=hex j hj
   rw [hFM i id1 e1] at hb;rw [hFM j id2 e2]
   exact hr.objs.apart id1 id2 (hidl i id1 e1) (hidl j id2 e2) (fun e=>hij (nodup_get hnd e1 (e▸e2))) b hb
 have hl:=hr.evals xs
 obtain ⟨f',hl2,hf'⟩:=hh.rel (S2:=S2) (ιM:=ιM) hM hιM hSS hr.objs (fun b h1 h2=>⟨h1,h2⟩) (fun id hid=>by obtain ⟨j,hj,e⟩:=hmem id hid;exact hidl j id e) hl (by simp)
 have hf0:f'=[]:=List.eq_nil_iff_forall_not_mem.2 fun b hb=>by simpa using hf' b hb
 subst hf0
 refine (hcall w S2 ιM FM (xs.map a.eval) (fun b h=>h.1) hOM (fun j hj b hb=>?_) hl2).mono fun e w' he=>?_
 ·obtain ⟨id,e⟩:=hex j hj
  rw [hFM j id e] at hb
  exact ⟨fun h=>h.2 id (List.mem_of_getElem? e) hb,(hr.foot id (hidl j id e) b hb).2.2⟩
 obtain ⟨v,S',ι',F',rfl,hS1,hS2,hS3,hι',hO',hF',hv,hk⟩:=he
 refine ⟨v,rfl,?_⟩
 have hold:∀b,b<w.heap.size→(∀ id∈hs,b ∉ F id)→w'.heap[b]?=w.heap[b]?:=fun b hb hn=>hk.block b hb (by
  rintro ⟨i,hi,hbf⟩
  obtain ⟨id,e⟩:=hex i hi
  rw [hFM i id e] at hbf
  exact hn id (List.mem_of_getElem? e) hbf)
 let S3:Nat→Prop:=fun b=>S b∨(S' b∧w.heap.size≤b)
 let ι3:Nat→Spot:=fun i=>if i<O.length then ι i else ι' (M.length+(i-O.length))
 let F3:Nat→List Nat:=fun i=>if i<O.length then (match findN hs i 0 with|some j=>F' j|none=>F i) else F' (M.length+(i-O.length))
 let O3:=newO hs M' 0 O++N
 have hl3:(newO hs M' 0 O).length=O.length:=newO_len hs M' 0 O
 have hO3lt:∀i,i<O.length→O3[i]?=(O[i]?).map (newOb hs M' i):=fun i hi=>by
  show (newO hs M' 0 O++N)[i]?=_
  rw [List.getElem?_append_left (by omega),newO_at,Nat.zero_add]
 have hO3ge:∀i,O.length≤i→O3[i]?=N[i-O.length]?:=fun i hi=>by
  show (newO hs M' 0 O++N)[i]?=_
  rw [List.getElem?_append_right (by omega),hl3]
 have hob:∀i ob,O[i]?=some ob→(newOb hs M' i ob).ep=ob.ep∧(newOb hs M' i ob).size=ob.size:=fun i ob h=>by
  unfold newOb
  cases hfd:findN hs i 0 with
  |none=>exact ⟨rfl,rfl⟩
  |some j=>
   cases hmj:M'[j]? with
   |none=>exact ⟨by simp [hmj],by simp [hmj]⟩
   |some mb=>
    obtain ⟨q,rfl,hq⟩:=findN_some hfd
    rw [Nat.zero_add] at hmj
    have hqm:q<M.length:=by rw [←hlM];exact (List.getElem?_eq_some_iff.1 hq).1
    obtain ⟨id',ob',e1,e2,_,_,_,e6,_⟩:=hatM q _ (List.getElem?_eq_getElem hqm)
    rw [hq] at e1;cases e1
    rw [h] at e2;cases e2
    simp only [Nat.zero_add,hmj,true_and]
    exact (hsz q _ _ (List.getElem?_eq_getElem hqm) hmj).trans e6
 have hlat:Later S w ι O S3 w' ι3 O3:=by
  refine ⟨fun b h=>.inl h,fun b hb=>hold b (hr.stable b hb) (hSS b hb).2,fun id ob h=>?_⟩
  have hlt:id<O.length:=(List.getElem?_eq_some_iff.1 h).1
  obtain ⟨h1,h2⟩:=hob id ob h
  exact ⟨newOb hs M' id ob,by rw [hO3lt id hlt,h];rfl,.inr ⟨h1,h2,by show (if _ then _ else _)=_;rw [if_pos hlt]⟩⟩
 have hF3f:∀(i j:Nat),i<O.length→findN hs i 0=some j→F3 i=F' j:=fun i j hi h=>by show (if _ then _ else _)=_;rw [if_pos hi,h]
 have hF3n:∀(i:Nat),i<O.length→findN hs i 0=none→F3 i=F i:=fun i hi h=>by show (if _ then _ else _)=_;rw [if_pos hi,h]
 have hF3g:∀(i:Nat),O.length≤i→F3 i=F' (M.length+(i-O.length)):=fun i hi=>by show (if _ then _ else _)=_;rw [if_neg (by omega)]
 have hlMN:(M'++N).length=M.length+N.length:=by rw [List.length_append,hlen]
 have hfind:∀(i j:Nat),findN hs i 0=some j→j<M.length∧hs[j]?=some i:=fun i j h=>by
  obtain ⟨q,rfl,hq⟩:=findN_some h
  rw [Nat.zero_add]
  exact ⟨by rw [←hlM];exact (List.getElem?_eq_some_iff.1 hq).1,hq⟩
 have hl3':O3.length=O.length+N.length:=by show (newO hs M' 0 O++N).length=_;rw [List.length_append,hl3]
 have hsrc:∀k,k<(M'++N).length→∀b∈F' k,((∃ id,id∈hs∧id<O.length∧b∈F id)∨w.heap.size≤b)∧¬S' b∧b<w'.heap.size:=fun k hk' b hb=>by
  obtain ⟨q1,q2,q3⟩:=hF' k hk' b hb
  refine ⟨?_,q2,q3⟩
  rcases q1 with ⟨i,hi,hbf⟩|q1
  ·obtain ⟨id,e⟩:=hex i hi
   rw [hFM i id e] at hbf
   exact .inl ⟨id,List.mem_of_getElem? e,hidl i id e,hbf⟩
  ·exact .inr q1
 have hnoS:∀k,k<(M'++N).length→∀b∈F' k,(G.M0 b∨G.w0.heap.size≤b)∧¬S3 b∧b<w'.heap.size:=fun k hk' b hb=>by
  obtain ⟨q1,q2,q3⟩:=hsrc k hk' b hb
  rcases q1 with ⟨id,hid,hlt,hbf⟩|q1
  ·obtain ⟨p1,p2,p3⟩:=hr.foot id hlt b hbf
   refine ⟨p1,?_,q3⟩
   rintro (h|⟨h,_⟩)
   ·exact p2 h
   ·exact q2 h
  ·refine ⟨.inr (by have:=hr.keeps.size;omega),?_,q3⟩
   rintro (h|⟨h,_⟩)
   ·have:=hr.stable b h;omega
   ·exact q2 h
 have hnotin:∀i,i<O.length→findN hs i 0=none→∀b∈F i,w'.heap[b]?=w.heap[b]?:=fun i hi h b hb=>hold b (hr.foot i hi b hb).2.2 fun id hid hbf=>by
  obtain ⟨j,hj,e⟩:=hmem id hid
  have hne:i≠id:=by rintro rfl;exact findN_none h hid
  exact hr.objs.apart i id hi (hidl j id e) hne b hb hbf
 have hcells:∀{cs:List AV} {us g},cs.all AV.still=true→Loc cs→LRel S' w' ι' (M'++N) cs us g→LRel S3 w' ι3 O3 cs us g:=fun h1 h2 hl=>
  Loc.rel h2 (still_all (S':=S') h1 hl (fun _ h=>h) (fun _ _=>rfl) (fun _ _=>rfl))
 refine ⟨S3,ι3,F3,⟨hr.defers,hr.size,fun t=>(hr.tmps t).mono hlat (by simp),⟨fun i ob h=>?_,fun i h=>?_,fun i j hi hj hij b hb=>?_⟩,fun i h b hb=>?_,⟨fun b hb=>.inl (hr.base.1 b hb),?_⟩,?_,?_,fun i h=>?_,?_⟩,?_⟩
 ·have h:O3[i]?=some ob:=h
  by_cases hlt:i<O.length
  ·rw [hO3lt i hlt,List.getElem?_eq_getElem hlt] at h
   simp only [Option.map_some,Option.some.injEq] at h
   rw [show ι3 i=ι i from if_pos hlt]
   cases hfd:findN hs i 0 with
   |some j=>
    obtain ⟨hjm,hji⟩:=hfind i j hfd
    rw [hF3f i j hlt hfd]
    have hjM':j<M'.length:=by omega
    have hmb:M'[j]?=some M'[j]:=List.getElem?_eq_getElem hjM'
    have h':ob=⟨M'[j].cells,(O[i]).ep,M'[j].size,M'[j].ty⟩:=by
     rw [←h];unfold newOb;rw [hfd];simp only [hmb]
    have ho:=hO'.obj j M'[j] (by rw [List.getElem?_append_left hjM'];exact hmb)
    rw [hι' j hjm,hιM j i hji] at ho
    have hout:=hM'.at hmb
    rw [h']
    unfold ObjAt at ho ⊢
    cases hs':ι i with
    |none=>rw [hs'] at ho;exact ho
    |some p=>
     obtain ⟨b,k⟩:=p
     rw [hs'] at ho
     obtain ⟨cur',t',fz',f2,q1,q2,q3,q4,q5,q6,q7⟩:=ho
     exact ⟨cur',t',fz',f2,q1,q2,q3,q4,q5,q6,hcells hout.1 hout.2 q7⟩
   |none=>
    rw [hF3n i hlt hfd]
    have h':ob=O[i]:=by rw [←h];unfold newOb;rw [hfd]
    subst h'
    have ho:=hr.objs.obj i O[i] (List.getElem?_eq_getElem hlt)
    have key:=hnotin i hlt hfd
    unfold ObjAt at ho ⊢
    cases hs':ι i with
    |none=>rw [hs'] at ho;exact ho
    |some p=>
     obtain ⟨b,k⟩:=p
     rw [hs'] at ho
     obtain ⟨cur',t',fz',f2,q1,q2,q3,q4,q5,q6,q7⟩:=ho
     exact ⟨cur',t',fz',f2,q1,by rw [key b (by rw [q1];simp)];exact q2,q3,q4,q5,q6,q7.mono hlat fun b' hb'=>key b' (by rw [q1];simp [hb'])⟩
  ·rw [hO3ge i (by omega)] at h
   rw [show ι3 i=ι' (M.length+(i-O.length)) from if_neg hlt,hF3g i (by omega)]
   have ho:=hO'.obj (M.length+(i-O.length)) ob (by rw [List.getElem?_append_right (by omega),hlen,Nat.add_sub_cancel_left];exact h)
   have hout:=hN.at h
   unfold ObjAt at ho ⊢
   cases hs':ι' (M.length+(i-O.length)) with
   |none=>rw [hs'] at ho;exact ho
   |some p=>
    obtain ⟨b,k⟩:=p
    rw [hs'] at ho
    obtain ⟨cur',t',fz',f2,q1,q2,q3,q4,q5,q6,q7⟩:=ho
    exact ⟨cur',t',fz',f2,q1,q2,q3,q4,q5,q6,hcells hout.1 hout.2 q7⟩
 ·have h:i<O3.length:=h
  by_cases hlt:i<O.length
  ·cases hfd:findN hs i 0 with
   |some j=>rw [hF3f i j hlt hfd];exact hO'.nodup j (by have:=(hfind i j hfd).1;omega)
   |none=>rw [hF3n i hlt hfd];exact hr.objs.nodup i hlt
  ·rw [hF3g i (by omega)];exact hO'.nodup _ (by omega)
 ·have hi:i<O3.length:=hi
  have hj:j<O3.length:=hj
  have hpl:∀k,k<O3.length→(∃ q,q<(M'++N).length∧F3 k=F' q∧((q<M.length∧hs[q]?=some k)∨(O.length≤k∧q=M.length+(k-O.length))))∨(k<O.length∧findN hs k 0=none∧F3 k=F k):=fun k hk'=>by
   by_cases hlt:k<O.length
   ·cases hfd:findN hs k 0 with
    |some q=>obtain ⟨h1,h2⟩:=hfind k q hfd;exact .inl ⟨q,by omega,hF3f k q hlt hfd,.inl ⟨h1,h2⟩⟩
    |none=>exact .inr ⟨hlt,rfl,hF3n k hlt hfd⟩
   ·exact .inl ⟨_,by omega,hF3g k (by omega),.inr ⟨by omega,rfl⟩⟩
  have hcross:∀k q,k<O.length→findN hs k 0=none→q<(M'++N).length→∀b∈F k,b ∉ F' q:=fun k q hk' hn hq b hb hb'=>by
   rcases (hsrc q hq b hb').1 with ⟨id,hid,hlt,hbf⟩|h
   ·have hne:k≠id:=by rintro rfl;exact findN_none hn hid
    exact hr.objs.apart k id hk' hlt hne b hb hbf
   ·have:=(hr.foot k hk' b hb).2.2;omega
  rcases hpl i hi with ⟨q1,p1,p2,p3⟩|⟨p1,p2,p3⟩<;>rcases hpl j hj with ⟨q2,r1,r2,r3⟩|⟨r1,r2,r3⟩
  ·rw [p2] at hb;rw [r2]
   refine hO'.apart q1 q2 p1 r1 (fun e=>?_) b hb
   subst e
   rcases p3 with ⟨a1,a2⟩|⟨a1,a2⟩<;>rcases r3 with ⟨b1,b2⟩|⟨b1,b2⟩
   ·rw [a2] at b2;cases b2;exact hij rfl
   ·omega
   ·omega
   ·omega
  ·rw [p2] at hb;rw [r3];intro hb';exact hcross j q1 r1 r2 p1 b hb' hb
  ·rw [p3] at hb;rw [r2];exact hcross i q2 p1 p2 r1 b hb
  ·rw [p3] at hb;rw [r3];exact hr.objs.apart i j p1 r1 hij b hb
 ·have h:i<O3.length:=h
  by_cases hlt:i<O.length
  ·cases hfd:findN hs i 0 with
   |some j=>rw [hF3f i j hlt hfd] at hb;exact hnoS j (by have:=(hfind i j hfd).1;omega) b hb
   |none=>
    rw [hF3n i hlt hfd] at hb
    obtain ⟨q1,q2,q3⟩:=hr.foot i hlt b hb
    refine ⟨q1,?_,by have:=hk.size;omega⟩
    rintro (h'|⟨_,h'⟩)
    ·exact q2 h'
    ·omega
  ·rw [hF3g i (by omega)] at hb;exact hnoS _ (by omega) b hb
 ·rintro b (h'|⟨_,h'⟩)
  ·exact hr.base.2 b h'
  ·exact .inr (by have:=hr.keeps.size;omega)
 ·rintro b (h'|⟨h',_⟩)
  ·have:=hr.stable b h';have:=hk.size;omega
  ·exact hS3 b h'
 ·refine ⟨hk.os.trans hr.keeps.os,hk.tape.trans hr.keeps.tape,hk.output.trans hr.keeps.output,by have:=hr.keeps.size;have:=hk.size;omega,fun b hb hM0=>?_⟩
  rw [hold b (by have:=hr.keeps.size;omega) fun id hid hbf=>?_]
  ·exact hr.keeps.block b hb hM0
  ·obtain ⟨j,hj,e⟩:=hmem id hid
   rcases (hr.foot id (hidl j id e) b hbf).1 with h|h
   ·exact hM0 h
   ·omega
 ·have hm:m≤O.length:=hr.mle
  rw [show ι3 i=ι i from if_pos (by omega)];exact hr.spots i h
 ·have hm:m≤O.length:=hr.mle
  show m≤O3.length
  omega
 ·refine AV.reF_rel (S:=S') (ι:=ι') (O:=M'++N) (fun id hid=>?_) (fun id ob hid h=>?_) r r' hre hv
  ·show (if _ then _ else _)=_
   rw [if_neg (by omega)];congr 1;omega
  ·show O3[id-M.length+O.length]?=some ob
   rw [hO3ge _ (by omega),Nat.add_sub_cancel]
   rw [List.getElem?_append_right (by omega),hlen] at h
   exact h
theorem WpL.callG {f:FuncId} {xs:List Operand} {ats:Array TypeId} {As:List AV} {M M' N O2:List AObj} {r r':AV} {hs:List Nat} {k base d:Nat} (hc:FnG P f As M M' N r) (hh:Hand O hs (xs.map (av T)) As) (hM:HandO O hs M) (hnd:nodupB hs=true)
 (hlen:(M'.map AObj.size)=(M.map AObj.size)) (hM':Out M') (hN:Out N) (hk:cnt M.length 0=some k) (hb:cnt O.length 0=some base) (hre:r.reF k base=some r') (hO2:newF hs M' 0 O N=some O2) (hn:d<n) (h:WpL P n m G false ops l ⟨(d,r')::T,O2⟩ Q):
 WpL P n m G false ops ({dst:=some d,op:=.call {callee:=.value (.func f),args:=xs.toArray,argTypes:=ats},type:=tt,pos:=pos,after:=after,guard:=none}::l) ⟨T,O⟩ Q:=
 WpL.op rfl (fun a w hr=>by
  have:=newF_eq hO2;subst this
  have e1:=cnt_eq hk;rw [Nat.add_zero] at e1;subst e1
  have e2:=cnt_eq hb;rw [Nat.add_zero] at e2;subst e2
  have hl:M'.length=M.length:=by have:=congrArg List.length hlen;simpa using this
  have hcl:=callG_rel hc hh hM (nodupB_spec hnd) hl (fun j x y hx hy=>by
   have:=congrArg (fun l:List Nat=>l[j]?) hlen
   simp only [List.getElem?_map,hx,hy,Option.map_some,Option.some.injEq] at this
   exact this) hM' hN hre hr
  obtain ⟨⟨fn,hf,hbd,hnm⟩,_⟩:=hc
  have hex:(execOp a.eval {dst:=some d,op:=.call {callee:=.value (.func f),args:=xs.toArray,argTypes:=ats},type:=tt,pos:=pos,after:=after,guard:=none}).run P w=.ok (.enter f (xs.map a.eval).toArray) w:=by
   simp only [execOp,resolve,Act.eval,Deferred.ofValue,invoke,callFunc,Sem.run_bind,Sem.run_pure,Result.andThen_ok,program,Sem.run,hf,hnm,hbd,Bool.false_eq_true,if_false]
   simp
  unfold Oper.wp
  rw [hex]
  refine hcl.mono fun e w' ⟨v,he,S,ι,F,hr',hv⟩=>?_
  subst he
  exact ⟨S,ι,F,hr'.put hn hv⟩) h
end
def HandM (O:List AObj) (hs:List Nat) (M:List AObj) (vs us:List AV):Prop:=Hand O hs vs us
section
variable {O:List AObj} {hs:List Nat} {M:List AObj} {vs us:List AV}
theorem HandM.nil:HandM O hs M [] []:=Hand.nil
theorem HandM.any {V} (r:HandM O hs M vs us):HandM O hs M (V::vs) (.any::us):=Hand.any r
theorem HandM.keep {V:AV} (h1:V.still=true) (h2:V.nofre=true) (r:HandM O hs M vs us):HandM O hs M (V::vs) (V::us):=Hand.keep h1 h2 r
theorem HandM.own {id ep off len len' j:Nat} {ob mb:AObj} (hj:hs[j]?=some id) (ho:O[id]?=some ob) (he:ob.ep=ep) (hm:M[j]?=some mb) (hc:ob.cells=mb.cells) (hl:len=len') (r:HandM O hs M vs us):HandM O hs M (.own id ep off len::vs) (.own j 0 off len'::us):=Hand.own hj ho he hl r
theorem HandM.ptr {id ep off j:Nat} {ob mb:AObj} (hj:hs[j]?=some id) (ho:O[id]?=some ob) (he:ob.ep=ep) (hm:M[j]?=some mb) (hc:ob.cells=mb.cells) (r:HandM O hs M vs us):HandM O hs M (.ptr id ep off::vs) (.ptr j 0 off::us):=Hand.ptr hj ho he r
theorem HandM.snap {V U:AV} (h:SnapX O hs [V] [U]) (r:HandM O hs M vs us):HandM O hs M (V::vs) (U::us):=Hand.snap h r
theorem HandM.agg {ds es} (r1:HandM O hs M ds es) (r:HandM O hs M vs us):HandM O hs M (.agg ds::vs) (.agg es::us):=Hand.agg r1 r
end
section
variable {P:Program} {n m:Nat} {G:Ctx} {T:List (Nat×AV)} {O:List AObj} {Q:Exit→St→Prop} {ops:Array Oper} {l:List Oper} {tt:TypeId} {pos:String} {after:Array Edge} {tab:List (Nat×Ty)}
theorem WpL.callM {f:FuncId} {xs:List Operand} {ats:Array TypeId} {As:List AV} {M M' N O2:List AObj} {r r':AV} {hs:List Nat} {k base d:Nat} (hc:FnG P f As M M' N r) (hh:HandM O hs M (xs.map (av T)) As) (hM:HandO O hs M) (hnd:nodupB hs=true)
 (hlen:(M'.map AObj.size)=(M.map AObj.size)) (hM':Out M') (hN:Out N) (hk:cnt M.length 0=some k) (hb:cnt O.length 0=some base) (hre:r.reF k base=some r') (hO2:newF hs M' 0 O N=some O2) (hn:d<n) (h:WpL P n m G false ops l ⟨(d,r')::T,O2⟩ Q):
 WpL P n m G false ops ({dst:=some d,op:=.call {callee:=.value (.func f),args:=xs.toArray,argTypes:=ats},type:=tt,pos:=pos,after:=after,guard:=none}::l) ⟨T,O⟩ Q:=WpL.callG hc hh hM hnd hlen hM' hN hk hb hre hO2 hn h
theorem FnG.of_bodyF (hP:TabOk P tab) {f:FuncId} {fn:Func} {c:Code} {args:List AV} {M M' N MN:List AObj} {r:AV} {k:Nat} (hf:P.funcs[f]?=some fn) (hnt:fn.ntmps=k) (hb:fn.body=some c) (hnm:(fn.name== "runtime.NumGoroutine")=false)
 (hal:args.length≤k) (hml:cnt M.length 0=some m) (hMN:catF M' N=some MN) (h:∀G,WpA P k m G c ⟨enumT 0 args,M⟩ (FinG tab m fn.results MN r)):FnG P f args M M' N r:=by
 have:=catF_eq hMN;subst this
 exact FnG.of_body hP hf hnt hb hnm hal (cnt_eq hml) h
variable {r r1v r2v:AV} {r1 r2:ResultVar} {e':Exit} {a b:Option Nat} {o1 o2 o3 o4 o5:AObj}
theorem FinG.e {rs:Array ResultVar} {N:List AObj} {r:AV} {σ:St} {e:Exit} (he:endB e=true) (h:ResG tab m N r rs σ):FinG tab m rs N r e σ:=by
 cases e<;>first|exact h|cases he
theorem FinG.z10 (he:endB e'=true) (hx:Ex O [some 0] [.tup []] [r]) (hN:NEx O [some 0] [o1]):FinG tab 1 #[] [o1] r e' ⟨T,O⟩:=FinG.e he (.zero hN (nodupB_spec rfl) rfl hx)
theorem FinG.o10 (he:endB e'=true) (hv:ResV tab T O r1 r1v) (hx:Ex O [some 0] [r1v] [r]) (hN:NEx O [some 0] [o1]):FinG tab 1 #[r1] [o1] r e' ⟨T,O⟩:=FinG.e he (.one hv hN (nodupB_spec rfl) rfl hx)
theorem FinG.o11 (he:endB e'=true) (hv:ResV tab T O r1 r1v) (hx:Ex O [some 0,a] [r1v] [r]) (hN:NEx O [some 0,a] [o1,o2]) (hd:nodupB ([some 0,a].filterMap id)=true):FinG tab 1 #[r1] [o1,o2] r e' ⟨T,O⟩:=FinG.e he (.one hv hN (nodupB_spec hd) rfl hx)
end
end Go.Abs
namespace Go.Abs.K
theorem FG {tab:List (Nat×Ty)} {m:Nat} {rs:Array ResultVar} {N:List AObj} {r:AV} {e:Exit} {σ:St} (h:Abs.FinG tab m rs N r e σ):Abs.FinG tab m rs N r e σ:=h
end Go.Abs.K


namespace Go.Abs
open Go
theorem LRel.at {S w ι O cs vs f} (h:LRel S w ι O cs vs f) {i:Nat} {V:AV} (hi:cs[i]?=some V):∃x f1 g f2,vs[i]?=some x∧f=f1++(g++f2)∧VRel S w ι O V x g∧
 ∀{S' w' ι' O'},(∀ {as us e},LRel S w ι O as us e→LRel S' w' ι' O' as us e)→∀V' g',VRel S' w' ι' O' V' x g'→LRel S' w' ι' O' (cs.set i V') vs (f1++(g'++f2)):=by
 have hlt:i<cs.length:=(List.getElem?_eq_some_iff.1 hi).1
 have hV:cs[i]=V:=(List.getElem?_eq_some_iff.1 hi).2
 have e:cs=cs.take i++([V]++cs.drop (i+1)):=by
  rw [List.singleton_append,←hV,←List.drop_eq_getElem_cons hlt,List.take_append_drop]
 rw [e] at h
 obtain ⟨us,vs2,f1,f3,rfl,h1,h2,rfl⟩:=h.split
 obtain ⟨xs,vs3,g,f2,rfl,h3,h4,rfl⟩:=h2.split
 have hl1:=h1.len
 have hl3:=h3.len
 have hul:us.length=i:=by rw [←hl1,List.length_take];omega
 obtain ⟨x,rfl⟩:∃x,xs=[x]:=by
  cases xs with
  |nil=>simp at hl3
  |cons x xs=>cases xs with
   |nil=>exact ⟨x,rfl⟩
   |cons y ys=>simp at hl3
 refine ⟨x,f1,g,f2,by rw [List.getElem?_append_right (by omega),hul];simp,rfl,h3,fun {S' w' ι' O'} mono V' g' hv=>?_⟩
 have e2:cs.set i V'=cs.take i++([V']++cs.drop (i+1)):=by
  rw [List.set_eq_take_append_cons_drop,if_pos hlt];simp
 rw [e2]
 exact LRel.append (mono h1) (LRel.append hv (mono h4))
theorem RelAt.nest {n m G S ι F T O a w} (hr:RelAt n m G S ι F ⟨T,O⟩ a w) {id j off ep len:Nat} {ob oj:AObj} (ho:O[id]?=some ob) (hj:O[j]?=some oj) (hne:id≠j) (hm:m≤j)
 (hc:ob.cells[off]?=some (.own j ep 0 len)) (hep:oj.ep=ep) (hst:oj.cells.all AV.still=true) (hlen:len*oj.size=oj.cells.length):
 ∃F',RelAt n m G S (upd ι j none) F' ⟨T,(O.set id ⟨ob.cells.set off (.fre oj.size len oj.cells),ob.ep,ob.size,ob.ty⟩).set j ⟨[],oj.ep+1,0,none⟩⟩ a w:=by
 have hidl:id<O.length:=(List.getElem?_eq_some_iff.1 ho).1
 have hjl:j<O.length:=(List.getElem?_eq_some_iff.1 hj).1
 generalize hob2:(⟨ob.cells.set off (.fre oj.size len oj.cells),ob.ep,ob.size,ob.ty⟩:AObj)=ob2
 generalize hoj2:(⟨[],oj.ep+1,0,none⟩:AObj)=oj2
 have hO2:∀i:Nat,((O.set id ob2).set j oj2)[i]?=if i=j then some oj2 else if i=id then some ob2 else O[i]?:=by
  intro i
  by_cases h1:i=j
  ·subst h1;simp [hjl]
  ·have h1':¬j=i:=fun e=>h1 e.symm
   by_cases h2:i=id
   ·subst h2;simp [List.getElem?_set,h1,h1',hidl]
   ·have h2':¬id=i:=fun e=>h2 e.symm
    simp [List.getElem?_set,h1,h1',h2,h2']
 have hlat:Later S w ι O S w (upd ι j none) ((O.set id ob2).set j oj2):=by
  refine ⟨fun _ h=>h,fun _ _=>rfl,fun i obi hi=>?_⟩
  by_cases h1:i=j
  ·subst h1;rw [hj] at hi;cases hi
   exact ⟨oj2,by rw [hO2,if_pos rfl],.inl (by rw [←hoj2];exact Nat.lt_succ_self _)⟩
  ·by_cases h2:i=id
   ·subst h2;rw [ho] at hi;cases hi
    exact ⟨ob2,by rw [hO2,if_neg h1,if_pos rfl],.inr ⟨by rw [←hob2],by rw [←hob2],upd_other _ _ h1⟩⟩
   ·exact ⟨obi,by rw [hO2,if_neg h1,if_neg h2];exact hi,.inr ⟨rfl,rfl,upd_other _ _ h1⟩⟩
 have hOid:=hr.objs.obj id ob ho
 have hOj:=hr.objs.obj j oj hj
 have hndi:=hr.objs.nodup id hidl
 have hndj:=hr.objs.nodup j hjl
 have hap:=hr.objs.apart id j hidl hjl hne
 unfold ObjAt at hOid
 cases hs:ι id with
 |none=>rw [hs] at hOid;rw [hOid.1] at hc;simp at hc
 |some p=>
  obtain ⟨b,k⟩:=p
  rw [hs] at hOid
  obtain ⟨cur,t,fz,f',hF,h1,h2,h3,h4,h5,h6⟩:=hOid
  obtain ⟨x,f1',g,f2',hx,hf',hV,hput⟩:=h6.at hc
  have hg:g=[]:=nofre_nil hV rfl
  subst hg
  have hnew:VRel S w (upd ι j none) ((O.set id ob2).set j oj2) (.fre oj.size len oj.cells) x (F j):=by
   cases hV with
   |own q1 q2 q3 r=>
    rw [hj] at q1;cases q1
    have hown:=q3 hep.symm
    unfold ObjAt at hOj
    cases hsj:ι j with
    |none=>
     rw [hsj] at hown hOj
     obtain ⟨rfl,_,rfl⟩:=hown
     rw [hOj.1,hOj.2]
     exact .fre0 .nil
    |some pj=>
     obtain ⟨bj,kj⟩:=pj
     rw [hsj] at hown hOj
     obtain ⟨cap,rfl,hk,hlc,hcm⟩:=hown
     obtain ⟨curj,tj,fzj,fj',hFj,j1,j2,j3,j4,_,j6⟩:=hOj
     rw [hFj]
     have:=LRel.fre (S:=S) (w:=w) (ι:=upd ι j none) (O:=(O.set id ob2).set j oj2) (size:=oj.size) (len:=len) (cap:=cap) (cs:=[]) (vs:=[]) (g:=[]) ⟨j1,fun i hi=>j4 i (by omega)⟩ (by omega) rfl (still_all hst j6 (fun _ h=>h) (fun _ _=>rfl) (fun _ _=>rfl)) hlen hlc hcm .nil
     simpa using this
  have hl2:=hput (fun h=>h.mono hlat (fun _ _=>rfl)) _ _ hnew
  have hff:f1'++f2'=f':=by rw [hf'];simp
  refine ⟨upd (upd F id (b::(f1'++(F j++f2')))) j [],hr.defers,hr.size,fun t'=>(hr.tmps t').mono hlat (fun _ _=>rfl),⟨fun i obi hi=>?_,fun i hi=>?_,fun i i' hi hi' hii c hcm=>?_⟩,fun i hi c hcm=>?_,hr.base,hr.stable,hr.keeps,fun i hi=>?_,?_⟩
  ·have hi:((O.set id ob2).set j oj2)[i]?=some obi:=hi
   rw [hO2] at hi
   by_cases e1:i=j
   ·subst e1
    rw [if_pos rfl] at hi;cases hi
    rw [upd_same,upd_same,←hoj2]
    exact ⟨rfl,rfl⟩
   ·rw [if_neg e1] at hi
    rw [upd_other _ _ e1,upd_other _ _ e1]
    by_cases e2:i=id
    ·subst e2
     rw [if_pos rfl] at hi;cases hi
     rw [upd_same,hs]
     refine ⟨cur,t,fz,f1'++(F j++f2'),rfl,h1,h2,by rw [←hob2];simpa using h3,h4,fun e he=>h5 e (by rw [←hob2] at he;exact he),?_⟩
     rw [←hob2]
     simp only [List.length_set]
     rw [←hob2] at hl2
     exact hl2
    ·rw [if_neg e2] at hi
     rw [upd_other _ _ e2]
     have hob:=hr.objs.obj i obi hi
     unfold ObjAt at hob ⊢
     cases hsi:ι i with
     |none=>rw [hsi] at hob;exact hob
     |some pi=>
      rw [hsi] at hob
      obtain ⟨cur',t',fz',f2'',q1,q2,q3,q4,q5,q6,q7⟩:=hob
      exact ⟨cur',t',fz',f2'',q1,q2,q3,q4,q5,q6,q7.mono hlat (fun _ _=>rfl)⟩
  ·have hi:i<((O.set id ob2).set j oj2).length:=hi
   simp only [List.length_set] at hi
   by_cases e1:i=j
   ·subst e1;rw [upd_same];exact List.nodup_nil
   ·rw [upd_other _ _ e1]
    by_cases e2:i=id
    ·subst e2;rw [upd_same]
     rw [hF,←hff] at hndi
     obtain ⟨n1,n2⟩:=List.nodup_cons.1 hndi
     obtain ⟨n3,n4,n5⟩:=List.nodup_append.1 n2
     have hap':∀c,c∈f1'++f2'→c ∉ F j:=fun c hc=>hap c (by rw [hF,←hff];exact List.mem_cons_of_mem _ hc)
     refine List.nodup_cons.2 ⟨?_,List.nodup_append.2 ⟨n3,List.nodup_append.2 ⟨hndj,n4,?_⟩,?_⟩⟩
     ·intro hb
      rcases List.mem_append.1 hb with hb|hb
      ·exact n1 (List.mem_append_left _ hb)
      ·rcases List.mem_append.1 hb with hb|hb
       ·exact hap b (by rw [hF];simp) hb
       ·exact n1 (List.mem_append_right _ hb)
     ·intro c hc d hd e;subst e
      exact hap' c (List.mem_append_right _ hd) hc
     ·intro c hc d hd e;subst e
      rcases List.mem_append.1 hd with hd|hd
      ·exact hap' c (List.mem_append_left _ hc) hd
      ·exact n5 c hc c hd rfl
    ·rw [upd_other _ _ e2];exact hr.objs.nodup i hi
  ·have hi:i<((O.set id ob2).set j oj2).length:=hi
   have hi':i'<((O.set id ob2).set j oj2).length:=hi'
   have hi:i<O.length:=by simpa using hi
   have hi':i'<O.length:=by simpa using hi'
   have memid:∀c,c∈b::(f1'++(F j++f2'))→c∈F id∨c∈F j:=by
    intro c hc
    rw [hF,←hff]
    rcases List.mem_cons.1 hc with hc|hc
    ·exact .inl (by simp [hc])
    ·rcases List.mem_append.1 hc with hc|hc
     ·exact .inl (by simp [hc])
     ·rcases List.mem_append.1 hc with hc|hc
      ·exact .inr hc
      ·exact .inl (by simp [hc])
   by_cases e1:i=j
   ·subst e1;rw [upd_same] at hcm;simp at hcm
   ·rw [upd_other _ _ e1] at hcm
    by_cases e1':i'=j
    ·subst e1';rw [upd_same];simp
    ·rw [upd_other _ _ e1']
     by_cases e2:i=id
     ·subst e2;rw [upd_same] at hcm
      rw [upd_other _ _ (fun e=>hii e.symm)]
      rcases memid c hcm with h|h
      ·exact hr.objs.apart i i' hidl (by simpa using hi') hii c h
      ·exact hr.objs.apart j i' hjl (by simpa using hi') (fun e=>e1' e.symm) c h
     ·rw [upd_other _ _ e2] at hcm
      by_cases e2':i'=id
      ·subst e2';rw [upd_same]
       intro hc'
       rcases memid c hc' with h|h
       ·exact hr.objs.apart i i' (by simpa using hi) hidl hii c hcm h
       ·exact hr.objs.apart i j (by simpa using hi) hjl e1 c hcm h
      ·rw [upd_other _ _ e2'];exact hr.objs.apart i i' (by simpa using hi) (by simpa using hi') hii c hcm
  ·have hi:i<((O.set id ob2).set j oj2).length:=hi
   simp only [List.length_set] at hi
   by_cases e1:i=j
   ·subst e1;rw [upd_same] at hcm;simp at hcm
   ·rw [upd_other _ _ e1] at hcm
    by_cases e2:i=id
    ·subst e2;rw [upd_same] at hcm
     rcases List.mem_cons.1 hcm with hc|hc
     ·exact hr.foot i hidl c (by rw [hF,hc];simp)
     ·rcases List.mem_append.1 hc with hc|hc
      ·exact hr.foot i hidl c (by rw [hF,←hff];simp [hc])
      ·rcases List.mem_append.1 hc with hc|hc
       ·exact hr.foot j hjl c hc
       ·exact hr.foot i hidl c (by rw [hF,←hff];simp [hc])
    ·rw [upd_other _ _ e2] at hcm;exact hr.foot i hi c hcm
  ·rw [upd_other _ _ (by omega)];exact hr.spots i hi
  ·show m≤((O.set id ob2).set j oj2).length
   simp only [List.length_set];exact hr.mle
theorem RelAt.unnest {n m G S ι F T O a w} (hr:RelAt n m G S ι F ⟨T,O⟩ a w) {id off s len:Nat} {ob:AObj} {cs:List AV} (ho:O[id]?=some ob) (hc:ob.cells[off]?=some (.fre s len cs)):
 ∃ι' F',RelAt n m G S ι' F' ⟨T,O.set id ⟨ob.cells.set off (.own O.length 0 0 len),ob.ep,ob.size,ob.ty⟩++[⟨cs,0,s,none⟩]⟩ a w:=by
 have hidl:id<O.length:=(List.getElem?_eq_some_iff.1 ho).1
 have apartO:∀i j,i<O.length→j<O.length→i≠j→∀b,b∈F i→b ∉ F j:=hr.objs.apart
 have nodupO:∀i,i<O.length→(F i).Nodup:=hr.objs.nodup
 have footO:∀id,id<O.length→∀b,b∈F id→(G.M0 b∨G.w0.heap.size≤b)∧¬S b∧b<w.heap.size:=hr.foot
 generalize hob2:(⟨ob.cells.set off (.own O.length 0 0 len),ob.ep,ob.size,ob.ty⟩:AObj)=ob2
 generalize hojn:(⟨cs,0,s,none⟩:AObj)=oj
 have hO2:∀i:Nat,(O.set id ob2++[oj])[i]?=if i=O.length then some oj else if i=id then some ob2 else O[i]?:=by
  intro i
  by_cases h1:i=O.length
  ·subst h1;rw [if_pos rfl,List.getElem?_append_right (by simp)];simp
  ·rw [if_neg h1]
   by_cases h3:i<O.length
   ·rw [List.getElem?_append_left (by simpa using h3),List.getElem?_set]
    by_cases h2:id=i
    ·subst h2;simp [hidl]
    ·rw [if_neg h2,if_neg (fun e=>h2 e.symm)]
   ·rw [List.getElem?_eq_none (by simp;omega),if_neg (by omega),List.getElem?_eq_none (by omega)]
 have hOid:=hr.objs.obj id ob ho
 have hndi:=hr.objs.nodup id hidl
 unfold ObjAt at hOid
 cases hs:ι id with
 |none=>rw [hs] at hOid;rw [hOid.1] at hc;simp at hc
 |some p=>
  obtain ⟨b,k⟩:=p
  rw [hs] at hOid
  obtain ⟨cur,t,fz,f',hF,h1,h2,h3,h4,h5,h6⟩:=hOid
  obtain ⟨x,f1',g',f2',hx,hff',hV,hput⟩:=h6.at hc
  have hsp:∃sp:Spot,ObjAt S w ι [] oj sp g'∧OwnAt sp s 0 len x:=by
   cases hV with
   |fre0 r=>cases r;exact ⟨none,by rw [←hojn];exact ⟨rfl,rfl⟩,rfl,rfl,rfl⟩
   |@fre _ _ b' _ cap cur' t' fz' _ us f'' _ _ _ hh hsz hu hl q1 q2 q3 r=>
    cases r
    refine ⟨some (b',cap*s),⟨cur',t',fz',f'',by simp,hh.1,hsz,?_,fun i hi=>hh.2 i (by omega),?_,?_⟩,cap,rfl,by omega,q2,q3⟩
    ·rw [←hojn];simp only;rw [←q1];exact Nat.mul_le_mul_right _ q2
    ·rw [←hojn];intro e he;cases he
    ·rw [←hojn];simp only;rw [←hu];exact hl
  obtain ⟨sp,hsp1,hsp2⟩:=hsp
  have hlat:Later S w ι O S w (upd ι O.length sp) (O.set id ob2++[oj]):=by
   refine ⟨fun _ h=>h,fun _ _=>rfl,fun i obi hi=>?_⟩
   have hlt:i<O.length:=(List.getElem?_eq_some_iff.1 hi).1
   by_cases h2:i=id
   ·subst h2;rw [ho] at hi;cases hi
    exact ⟨ob2,by rw [hO2,if_neg (by omega),if_pos rfl],.inr ⟨by rw [←hob2],by rw [←hob2],upd_other _ _ (by omega)⟩⟩
   ·exact ⟨obi,by rw [hO2,if_neg (by omega),if_neg h2];exact hi,.inr ⟨rfl,rfl,upd_other _ _ (by omega)⟩⟩
  have hnew:VRel S w (upd ι O.length sp) (O.set id ob2++[oj]) (.own O.length 0 0 len) x []:=
   .own (ob:=oj) (by rw [hO2,if_pos rfl]) (Nat.zero_le _) (fun _=>by rw [upd_same,←hojn];exact hsp2) .nil
  have hl2:=hput (fun h=>h.mono hlat (fun _ _=>rfl)) _ _ hnew
  have hff:f1'++(g'++f2')=f':=hff'.symm
  clear hput hsp2
  have hsub:∀c,c∈b::(f1'++([]++f2'))→c∈F id:=by
   intro c hc
   rw [hF,←hff]
   rcases List.mem_cons.1 hc with hc|hc
   ·simp [hc]
   ·rcases List.mem_append.1 hc with hc|hc
    ·simp [hc]
    ·simp only [List.nil_append] at hc;simp [hc]
  have hsubg:∀c,c∈g'→c∈F id:=by intro c hc;rw [hF,←hff];simp [hc]
  refine ⟨upd ι O.length sp,upd (upd F id (b::(f1'++([]++f2')))) O.length g',hr.defers,hr.size,fun t'=>(hr.tmps t').mono hlat (fun _ _=>rfl),⟨fun i obi hi=>?_,fun i hi=>?_,fun i i' hi hi' hii c hcm=>?_⟩,fun i hi c hcm=>?_,hr.base,hr.stable,hr.keeps,fun i hi=>?_,?_⟩
  ·have hi:(O.set id ob2++[oj])[i]?=some obi:=hi
   rw [hO2] at hi
   by_cases e1:i=O.length
   ·subst e1
    rw [if_pos rfl] at hi;cases hi
    rw [upd_same,upd_same]
    unfold ObjAt at hsp1 ⊢
    cases hq:sp with
    |none=>rw [hq] at hsp1;exact hsp1
    |some pj=>
     rw [hq] at hsp1
     obtain ⟨cur',t',fz',f2'',q1,q2,q3,q4,q5,q6,q7⟩:=hsp1
     refine ⟨cur',t',fz',f2'',q1,q2,q3,q4,q5,q6,?_⟩
     exact q7.mono (Later.none _ (fun _ h=>h) (fun _ _=>rfl)) (fun _ _=>rfl)
   ·rw [if_neg e1] at hi
    rw [upd_other _ _ e1,upd_other _ _ e1]
    by_cases e2:i=id
    ·subst e2
     rw [if_pos rfl] at hi;cases hi
     rw [upd_same,hs]
     refine ⟨cur,t,fz,f1'++([]++f2'),rfl,h1,h2,by rw [←hob2];simpa using h3,h4,fun e he=>h5 e (by rw [←hob2] at he;exact he),?_⟩
     rw [←hob2]
     simp only [List.length_set]
     rw [←hob2] at hl2
     exact hl2
    ·rw [if_neg e2] at hi
     rw [upd_other _ _ e2]
     have hob:=hr.objs.obj i obi hi
     unfold ObjAt at hob ⊢
     cases hsi:ι i with
     |none=>rw [hsi] at hob;exact hob
     |some pi=>
      rw [hsi] at hob
      obtain ⟨cur',t',fz',f2'',q1,q2,q3,q4,q5,q6,q7⟩:=hob
      exact ⟨cur',t',fz',f2'',q1,q2,q3,q4,q5,q6,q7.mono hlat (fun _ _=>rfl)⟩
  all_goals rw [hF,←hff] at hndi
  all_goals obtain ⟨n1,n2⟩:=List.nodup_cons.1 hndi
  all_goals obtain ⟨n3,n4,n5⟩:=List.nodup_append.1 n2
  all_goals obtain ⟨n6,n7,n8⟩:=List.nodup_append.1 n4
  ·have hi:i<(O.set id ob2++[oj]).length:=hi
   simp only [List.length_append,List.length_set,List.length_singleton] at hi
   by_cases e1:i=O.length
   ·subst e1;rw [upd_same];exact n6
   ·rw [upd_other _ _ e1]
    by_cases e2:i=id
    ·subst e2;rw [upd_same]
     refine List.nodup_cons.2 ⟨fun hb=>n1 ?_,List.nodup_append.2 ⟨n3,by simpa using n7,fun c hc d hd=>n5 c hc d (List.mem_append_right _ (by simpa using hd))⟩⟩
     rcases List.mem_append.1 hb with hb|hb
     ·exact List.mem_append_left _ hb
     ·exact List.mem_append_right _ (List.mem_append_right _ (by simpa using hb))
    ·rw [upd_other _ _ e2];exact nodupO i (by omega)
  ·have hi:i<(O.set id ob2++[oj]).length:=hi
   have hi':i'<(O.set id ob2++[oj]).length:=hi'
   simp only [List.length_append,List.length_set,List.length_singleton] at hi hi'
   have hdis:∀c,c∈b::(f1'++([]++f2'))→c ∉ g':=by
    intro c hc hg
    rcases List.mem_cons.1 hc with hc|hc
    ·subst hc;exact n1 (List.mem_append_right _ (List.mem_append_left _ hg))
    ·rcases List.mem_append.1 hc with hc|hc
     ·exact n5 c hc c (List.mem_append_left _ hg) rfl
     ·exact n8 c hg c (by simpa using hc) rfl
   by_cases e1:i=O.length
   ·subst e1;rw [upd_same] at hcm
    rw [upd_other _ _ (fun e=>hii e.symm)]
    by_cases e2':i'=id
    ·subst e2';rw [upd_same];exact fun h=>hdis c h hcm
    ·rw [upd_other _ _ e2'];exact apartO id i' hidl (by omega) (fun e=>e2' e.symm) c (hsubg c hcm)
   ·rw [upd_other _ _ e1] at hcm
    by_cases e1':i'=O.length
    ·subst e1';rw [upd_same]
     by_cases e2:i=id
     ·subst e2;rw [upd_same] at hcm;exact hdis c hcm
     ·rw [upd_other _ _ e2] at hcm;exact fun h=>apartO i id (by omega) hidl e2 c hcm (hsubg c h)
    ·rw [upd_other _ _ e1']
     by_cases e2:i=id
     ·subst e2;rw [upd_same] at hcm
      rw [upd_other _ _ (fun e=>hii e.symm)]
      exact apartO i i' hidl (by omega) hii c (hsub c hcm)
     ·rw [upd_other _ _ e2] at hcm
      by_cases e2':i'=id
      ·subst e2';rw [upd_same]
       exact fun h=>apartO i i' (by omega) hidl hii c hcm (hsub c h)
      ·rw [upd_other _ _ e2'];exact apartO i i' (by omega) (by omega) hii c hcm
  ·have hi:i<(O.set id ob2++[oj]).length:=hi
   simp only [List.length_append,List.length_set,List.length_singleton] at hi
   by_cases e1:i=O.length
   ·subst e1;rw [upd_same] at hcm;exact footO id hidl c (hsubg c hcm)
   ·rw [upd_other _ _ e1] at hcm
    by_cases e2:i=id
    ·subst e2;rw [upd_same] at hcm;exact footO i hidl c (hsub c hcm)
    ·rw [upd_other _ _ e2] at hcm;exact footO i (by omega) c hcm
  ·have:=hr.mle
   rw [upd_other _ _ (by have:m≤O.length:=this;omega)];exact hr.spots i hi
  ·have:m≤O.length:=hr.mle
   show m≤(O.set id ob2++[oj]).length
   simp;omega
end Go.Abs


namespace Go.Abs
open Go
def rows {α:Type} (f:α→List AV) (l:List α):List AV:=l.flatMap f
section
variable {α:Type} {f:α→List AV} {k:Nat}
theorem rows_cons (a:α) (l:List α):rows f (a::l)=f a++rows f l:=by simp [rows]
theorem rows_append (a b:List α):rows f (a++b)=rows f a++rows f b:=by simp [rows]
theorem rows_one (a:α):rows f [a]=f a:=by simp [rows]
theorem rows_len (hk:∀a,(f a).length=k) (l:List α):(rows f l).length=l.length*k:=by
 induction l with
 |nil=>simp [rows]
 |cons a l ih=>rw [rows_cons,List.length_append,hk,ih,List.length_cons,Nat.add_mul];omega
variable [Inhabited α]
theorem rows_split {l:List α} {i:Nat} (h:i<l.length):rows f l=rows f (l.take i)++(f (l.getD i default)++rows f (l.drop (i+1))):=by
 have e:l=l.take i++(l[i]::l.drop (i+1)):=by rw [←List.drop_eq_getElem_cons h,List.take_append_drop]
 have e2:l.getD i default=l[i]:=by simp [h]
 rw [e2]
 conv=>lhs;rw [e]
 rw [rows_append,rows_cons]
theorem rows_get (hk:∀a,(f a).length=k) {l:List α} {i o:Nat} {V:AV} (h:i<l.length) (hv:(f (l.getD i default))[o]?=some V):(rows f l)[i*k+o]?=some V:=by
 have ho:o<k:=by rw [←hk (l.getD i default)];exact (List.getElem?_eq_some_iff.1 hv).1
 have h1:(rows f (l.take i)).length=i*k:=by rw [rows_len hk,List.length_take,Nat.min_eq_left (by omega)]
 rw [rows_split h,List.getElem?_append_right (by omega),h1,Nat.add_sub_cancel_left,List.getElem?_append_left (by rw [hk];exact ho)]
 exact hv
theorem rows_row (hk:∀a,(f a).length=k) {l:List α} {i:Nat} (h:i<l.length):((rows f l).drop (i*k)).take k=f (l.getD i default):=by
 have h1:(rows f (l.take i)).length=i*k:=by rw [rows_len hk,List.length_take,Nat.min_eq_left (by omega)]
 rw [rows_split h,List.drop_left' h1,List.take_left' (hk _)]
end
theorem still_rows {α:Type} {f:α→List AV} (h:∀a,(f a).all AV.still=true) (l:List α):(rows f l).all AV.still=true:=by
 unfold rows;rw [List.all_flatMap];rw [List.all_eq_true];intro a _;exact h a
theorem nofre_rows {α:Type} {f:α→List AV} (h:∀a,(f a).all AV.nofre=true) (l:List α):(rows f l).all AV.nofre=true:=by
 unfold rows;rw [List.all_flatMap];rw [List.all_eq_true];intro a _;exact h a
theorem Loc.append {a b:List AV} (h1:Loc a) (h2:Loc b):Loc (a++b):=by
 induction h1 with
 |nil=>exact h2
 |any _ ih=>exact .any ih
 |sc _ ih=>exact .sc ih
 |nilS _ ih=>exact .nilS ih
 |imm0 _ ih=>exact .imm0 ih
 |own _ ih=>exact .own ih
 |fre h _ _ ih=>exact .fre h ih
 |agg h _ _ ih=>exact .agg h ih
 |tup h _ _ ih=>exact .tup h ih
theorem Loc.rows {α:Type} {f:α→List AV} (h:∀a,Loc (f a)) (l:List α):Loc (rows f l):=by
 induction l with
 |nil=>exact .nil
 |cons a l ih=>rw [rows_cons];exact Loc.append (h a) ih
theorem Snap.append {O:List AObj} {a b c d:List AV} (h1:Snap O a c) (h2:Snap O b d):Snap O (a++b) (c++d):=by
 induction h1 with
 |nil=>exact h2
 |any _ ih=>exact .any ih
 |keep p q _ ih=>exact .keep p q ih
 |nilI _ ih=>exact .nilI ih
 |own p q r s t u _ _ ih=>exact .own p q r s t u ih
 |ownO p q r s t u v _ _ ih=>exact .ownO p q r s t u v ih
 |fre h _ _ ih=>exact .fre h ih
 |ptr p q h _ _ ih=>exact .ptr p q h ih
 |agg h _ _ ih=>exact .agg h ih
 |fn h _ _ ih=>exact .fn h ih
theorem Snap.rows {α:Type} {O:List AObj} {f g:α→List AV} (h:∀a,Snap O (f a) (g a)) (l:List α):Snap O (rows f l) (rows g l):=by
 induction l with
 |nil=>exact .nil
 |cons a l ih=>rw [rows_cons,rows_cons];exact Snap.append (h a) ih
section
variable {P:Program} {n m:Nat} {G:Ctx} {T:List (Nat×AV)} {O:List AObj} {Q:Exit→St→Prop} {ops:Array Oper} {l:List Oper} {d:Nat} {tt:TypeId} {pos:String} {after:Array Edge} {tab:List (Nat×Ty)} {md:Bool}
variable {α:Type} [Inhabited α] {f:α→List AV} {k i:Nat} {xs:List α}
theorem WpL.idxIN (hP:TabOk P tab) {t e b:Nat} {zs cs:List AV} {x y:Operand} {len i k:Nat} {kk:IntKind} (ht:tlook tab t=some (.slice e k b zs)) (hx:av T x=.imm k len cs) (hy:av T y=.sc (.int kk (i:Int)))
 (hj:i<len) (hn:d<n) (h:WpL P n m G md ops l ⟨(d,.iptr cs (i*k))::T,O⟩ Q):
 WpL P n m G md ops ({dst:=some d,op:=.indexAddr t x y,type:=tt,pos:=pos,after:=after,guard:=none}::l) ⟨T,O⟩ Q:=
 WpL.idxI hP ht hx hy (by omega) hn (by simpa using h)
theorem WpL.idxIJ (hP:TabOk P tab) {t e b:Nat} {zs cs:List AV} {x y:Operand} {len:Nat} {j:Int} {kk:IntKind} (ht:tlook tab t=some (.slice e 1 b zs)) (hx:av T x=.imm 1 len cs) (hy:av T y=.sc (.int kk j))
 (hj:0≤j∧j<len) (hn:d<n) (h:WpL P n m G md ops l ⟨(d,.iptr cs j.toNat)::T,O⟩ Q):
 WpL P n m G md ops ({dst:=some d,op:=.indexAddr t x y,type:=tt,pos:=pos,after:=after,guard:=none}::l) ⟨T,O⟩ Q:=
 WpL.idxI hP ht hx hy hj hn (by simpa using h)
theorem WpL.idxOJ (hP:TabOk P tab) {t e b:Nat} {zs:List AV} {x y:Operand} {id ep len:Nat} {ob:AObj} {j:Int} {kk:IntKind} (ht:tlook tab t=some (.slice e 1 b zs)) (hx:av T x=.own id ep 0 len)
 (ho:O[id]?=some ob) (he:ob.ep=ep) (hy:av T y=.sc (.int kk j)) (hj:0≤j∧j<len) (hn:d<n) (h:WpL P n m G md ops l ⟨(d,.ptr id ep j.toNat)::T,O⟩ Q):
 WpL P n m G md ops ({dst:=some d,op:=.indexAddr t x y,type:=tt,pos:=pos,after:=after,guard:=none}::l) ⟨T,O⟩ Q:=
 WpL.idxO hP ht hx ho he hy hj hn (by simpa using h)
theorem WpL.loadRow (hP:TabOk P tab) {t:TypeId} {x:Operand} {offs:List Nat} {zs:List AV} (ht:tlook tab t=some (.struct offs k zs)) (hm:Abs.reg O (av T x)=some (rows f xs,i*k)) (hk:∀a,(f a).length=k)
 (hf:∀a,(f a).all AV.nofre=true) (hi:i<xs.length) (hn:d<n) {ds:List AV} (hds:catF (f (xs.getD i default)) []=some ds) (h:WpL P n m G md ops l ⟨(d,.agg ds)::T,O⟩ Q):
 WpL P n m G md ops ({dst:=some d,op:=.load t x,type:=tt,pos:=pos,after:=after,guard:=none}::l) ⟨T,O⟩ Q:=by
 have e:=catF_eq hds
 rw [List.append_nil] at e
 subst e
 exact WpL.loadAgg hP ht hm (rows_row hk hi) (hk _) (hf _) hn h
theorem WpL.loadField (hP:TabOk P tab) {t:TypeId} {x:Operand} {ty:Ty} {o:Nat} {V:AV} (ht:tlook tab t=some ty) (hp:ty.plain=true) (hm:Abs.reg O (av T x)=some (rows f xs,i*k+o)) (hk:∀a,(f a).length=k)
 (hv:(f (xs.getD i default))[o]?=some V) (hf:V.nofre=true) (hi:i<xs.length) (hn:d<n) (h:WpL P n m G md ops l ⟨(d,V)::T,O⟩ Q):
 WpL P n m G md ops ({dst:=some d,op:=.load t x,type:=tt,pos:=pos,after:=after,guard:=none}::l) ⟨T,O⟩ Q:=
 WpL.load1 hP ht hp hm (rows_get hk hi hv) hf hn h
theorem WpL.loadOwn (hP:TabOk P tab) {t:TypeId} {x:Operand} {ty:Ty} {id ep sz o s len:Nat} {te:Option TypeId} {cs:List AV} (ht:tlook tab t=some ty) (hp:ty.plain=true) (hx:av T x=.ptr id ep (i*k+o)) (ho:O[id]?=some ⟨rows f xs,ep,sz,te⟩) (hk:∀a,(f a).length=k)
 (hv:(f (xs.getD i default))[o]?=some (.fre s len cs)) (hi:i<xs.length) (hn:d<n) {j:Nat} (hcnt:cnt O.length 0=some j)
 (h:WpL P n m G false ops l ⟨(d,.own j 0 0 len)::T,O.set id ⟨(rows f xs).set (i*k+o) (.own j 0 0 len),ep,sz,te⟩++[⟨cs,0,s,none⟩]⟩ Q):
 WpL P n m G false ops ({dst:=some d,op:=.load t x,type:=tt,pos:=pos,after:=after,guard:=none}::l) ⟨T,O⟩ Q:=by
 have hj:=cnt_eq hcnt
 rw [Nat.add_zero] at hj
 subst hj
 have hg:=rows_get hk hi hv
 have hlt:=(List.getElem?_eq_some_iff.1 hg).1
 have hidl:=(List.getElem?_eq_some_iff.1 ho).1
 refine WpL.weak (σ':=⟨T,O.set id ⟨(rows f xs).set (i*k+o) (.own O.length 0 0 len),ep,sz,te⟩++[⟨cs,0,s,none⟩]⟩) ?_ ?_
 ·rintro n' G' a w ⟨S,ι,F,hr⟩
  obtain ⟨ι',F',hr'⟩:=hr.unnest ho hg
  exact ⟨S,ι',F',hr'⟩
 ·refine WpL.load1 hP ht hp (off:=i*k+o) (cells:=(rows f xs).set (i*k+o) (.own O.length 0 0 len)) ?_ (V:=.own O.length 0 0 len) ?_ rfl hn h
  ·rw [hx]
   have:(O.set id ⟨(rows f xs).set (i*k+o) (.own O.length 0 0 len),ep,sz,te⟩++[⟨cs,0,s,none⟩])[id]?=some ⟨(rows f xs).set (i*k+o) (.own O.length 0 0 len),ep,sz,te⟩:=by
    rw [List.getElem?_append_left (by simpa using hidl)];simp [hidl]
   simp only [Abs.reg,this,Nat.beq_refl]
  ·simp [hlt]
theorem Weak.nest {id j off epj len:Nat} {ob oj:AObj} (ho:O[id]?=some ob) (hj:O[j]?=some oj) (hne:Nat.beq id j=false) (hm:m≤j) (hc:ob.cells[off]?=some (.own j epj 0 len)) (hep:oj.ep=epj) (hst:oj.cells.all AV.still=true) (hlen:len*oj.size=oj.cells.length):
 Weak m ⟨T,O⟩ ⟨T,(O.set id ⟨ob.cells.set off (.fre oj.size len oj.cells),ob.ep,ob.size,ob.ty⟩).set j ⟨[],oj.ep+1,0,none⟩⟩:=by
 rintro n' G' a w ⟨S,ι,F,hr⟩
 obtain ⟨F',hr'⟩:=hr.nest ho hj (by rintro rfl;rw [Nat.beq_refl] at hne;cases hne) hm hc hep hst hlen
 exact ⟨S,_,F',hr'⟩
theorem Weak.trans {m:Nat} {σ σ' σ'':St} (h1:Weak m σ σ') (h2:Weak m σ' σ''):Weak m σ σ'':=fun n G a w h=>h2 n G a w (h1 n G a w h)
end
section
variable {P:Program} {n m:Nat} {G:Ctx} {T:List (Nat×AV)} {O:List AObj} {Q:Exit→St→Prop} {ops:Array Oper} {l:List Oper} {d:Nat} {tt:TypeId} {pos:String} {after:Array Edge} {tab:List (Nat×Ty)} {md:Bool}
variable {α:Type} {f:α→List AV} {k i:Nat} {xs:List α}
theorem WpL.appRow (hP:TabOk P tab) {t e b:Nat} {zs ds:List AV} {x y:Operand} {id ep len:Nat} {Vy:AV} {v:α} (ht:tlook tab t=some (.slice e k b zs)) (hx:av T x=.own id ep 0 len) (ho:O[id]?=some ⟨rows f xs,ep,k,some e⟩) (hm:m≤id)
 (hy:(av T y).force=some Vy) (hs:srcB O Vy=some (ds,1)) (hk:∀a,(f a).length=k) (hv:ds=f v) (hone:ds.all (oneB O)=true) (hol:xs.length=len) (hb:(len+1)*b≤140737488355328∧len+1≤9223372036854775807) (hn:d<n)
 (h:WpL P n m G false ops l ⟨(d,.own id (ep+1) 0 (len+1))::T,O.set id ⟨rows f (xs++[v]),ep+1,k,some e⟩⟩ Q):
 WpL P n m G false ops ({dst:=some d,op:=.call {callee:=.builtin .append,args:=#[x,y],argTypes:=#[t,t]},type:=tt,pos:=pos,after:=after,guard:=none}::l) ⟨T,O⟩ Q:=by
 subst hv hol
 refine WpL.appOwn hP ht hx ho rfl rfl rfl (by simp only;rw [rows_len hk]) hm hy hs (by rw [hk,Nat.one_mul]) hone hb hn ?_
 rw [rows_append,rows_one] at h;exact h
end
section
variable {O:List AObj} {ids:List (Option Nat)} {N:List AObj} {α:Type} {f:α→List AV}
theorem NEx.rows {id ep sz:Nat} {ty:Option TypeId} {xs ys:List α} (hf:∀a,(f a).all AV.still=true) (ho:O[id]?=some ⟨Abs.rows f xs,ep,sz,ty⟩) (h:xs=ys) (r:NEx O ids N):NEx O (some id::ids) (⟨Abs.rows f ys,0,sz,ty⟩::N):=
 .obj ho (by rw [h]) (still_rows hf _) rfl rfl (.inr rfl) r
variable {O' os os':List AObj} {ep ep' sz sz':Nat} {ty ty':Option TypeId}
theorem ReO.rows {xs ys:List α} (hf:∀a,(f a).all AV.still=true) (h:xs=ys) (ht:ty'=none∨ty'=ty) (r:ReO O O' os os'):ReO O O' (⟨Abs.rows f xs,ep,sz,ty⟩::os) (⟨Abs.rows f ys,ep',sz',ty'⟩::os'):=.cons (Re.same (by rw [h]) (still_rows hf _)) ht r
end
section
variable {P:Program} {n m:Nat} {G:Ctx} {T:List (Nat×AV)} {O:List AObj} {Q:Exit→St→Prop} {ops:Array Oper} {l:List Oper} {d:Nat} {tt:TypeId} {pos:String} {after:Array Edge} {tab:List (Nat×Ty)}
variable {α:Type} {f:α→List AV} {k:Nat}
end
def prF (a:Int×Int):List AV:=[I a.1,I a.2]
def plF (a:Int×Int×Int):List AV:=[I a.1,I a.2.1,I a.2.2]
abbrev Blok:=Int×List Int
def blkI (b:Blok):List AV:=[I b.1,.imm 1 b.2.length (ints b.2)]
def blkF (b:Blok):List AV:=[I b.1,.fre 1 b.2.length (ints b.2)]
abbrev Mbk:=Bool×List Blok
def mbI (b:Mbk):List AV:=[B b.1,.imm 2 b.2.length (rows blkI b.2)]
def mbF (b:Mbk):List AV:=[B b.1,.fre 2 b.2.length (rows blkF b.2)]
abbrev Fra:=Int×Int×List Int
def frI (b:Fra):List AV:=[I b.1,I b.2.1,.imm 1 b.2.2.length (ints b.2.2)]
def frF (b:Fra):List AV:=[I b.1,I b.2.1,.fre 1 b.2.2.length (ints b.2.2)]
def liI (b:List Int):List AV:=[.imm 1 b.length (ints b)]
def liF (b:List Int):List AV:=[.fre 1 b.length (ints b)]
@[simp] theorem len_pr (l:List (Int×Int)):(rows prF l).length=l.length*2:=rows_len (f:=prF) (fun _=>rfl) l
@[simp] theorem len_pl (l:List (Int×Int×Int)):(rows plF l).length=l.length*3:=rows_len (f:=plF) (fun _=>rfl) l
@[simp] theorem len_bI (l:List Blok):(rows blkI l).length=l.length*2:=rows_len (f:=blkI) (fun _=>rfl) l
@[simp] theorem len_bF (l:List Blok):(rows blkF l).length=l.length*2:=rows_len (f:=blkF) (fun _=>rfl) l
@[simp] theorem len_mI (l:List Mbk):(rows mbI l).length=l.length*2:=rows_len (f:=mbI) (fun _=>rfl) l
@[simp] theorem len_mF (l:List Mbk):(rows mbF l).length=l.length*2:=rows_len (f:=mbF) (fun _=>rfl) l
@[simp] theorem len_fI (l:List Fra):(rows frI l).length=l.length*3:=rows_len (f:=frI) (fun _=>rfl) l
@[simp] theorem len_fF (l:List Fra):(rows frF l).length=l.length*3:=rows_len (f:=frF) (fun _=>rfl) l
theorem snap_ints {O:List AObj} (xs:List Int):Snap O (ints xs) (ints xs):=Snap.same rfl (still_ints _) (nofre_ints _)
theorem snap_blk {O:List AObj} (b:Blok):Snap O (blkF b) (blkI b):=.keep rfl rfl (.fre (snap_ints _) .nil)
theorem snap_mb {O:List AObj} (b:Mbk):Snap O (mbF b) (mbI b):=.keep rfl rfl (.fre (Snap.rows snap_blk _) .nil)
theorem snap_fr {O:List AObj} (b:Fra):Snap O (frF b) (frI b):=.keep rfl rfl (.keep rfl rfl (.fre (snap_ints _) .nil))
theorem snap_li {O:List AObj} (b:List Int):Snap O (liF b) (liI b):=.fre (snap_ints _) .nil
theorem loc_pr (a:Int×Int):Loc (prF a):=.sc (.sc .nil)
theorem loc_pl (a:Int×Int×Int):Loc (plF a):=.sc (.sc (.sc .nil))
theorem loc_blk (b:Blok):Loc (blkF b):=.sc (.fre (Loc.ints _) .nil)
theorem loc_mb (b:Mbk):Loc (mbF b):=.sc (.fre (Loc.rows loc_blk _) .nil)
theorem loc_fr (b:Fra):Loc (frF b):=.sc (.sc (.fre (Loc.ints _) .nil))
theorem loc_li (b:List Int):Loc (liF b):=.fre (Loc.ints _) .nil
section
variable {P:Program} {n m:Nat} {G:Ctx} {T:List (Nat×AV)} {O:List AObj} {Q:Exit→St→Prop} {ops:Array Oper} {l:List Oper} {d:Nat} {tt:TypeId} {pos:String} {after:Array Edge} {tab:List (Nat×Ty)} {i:Nat}
end
end Go.Abs


namespace Go.Abs
open Go
section
variable {P:Program} {n m:Nat} {G:Ctx} {md:Bool} {T:List (Nat×AV)} {O:List AObj} {Q:Exit→St→Prop} {ops:Array Oper} {l:List Oper} {d:Nat} {tt:TypeId} {pos:String} {after:Array Edge}
theorem run_equal_nil (P:Program) {t e:TypeId} (ht:P.underlying t=some (.slice e)) (w:World):(Op.equal t (.slice none 0 0) (.slice none 0 0)).run P w=.ok true w:=by
 show (Op.equalIn (9999+1) t _ _).run P w=_
 rw [Op.equalIn]
 simp only [Sem.run_bind,run_underlying ht,Result.andThen_ok,Sem.run_pure,Option.isNone_none]
theorem run_equal_some (P:Program) {t e:TypeId} (ht:P.underlying t=some (.slice e)) (a:Addr) (k c:Nat) (w:World):(Op.equal t (.slice (some a) k c) (.slice none 0 0)).run P w=.ok false w:=by
 show (Op.equalIn (9999+1) t _ _).run P w=_
 rw [Op.equalIn]
 simp only [Sem.run_bind,run_underlying ht,Result.andThen_ok,Sem.run_pure]
theorem WpL.nilEq {t e ty:TypeId} {x y:Operand} (ht:P.underlying t=some (.slice e)) (hx:av T x=.nilS) (hy:av T y=.nilS) (hn:d<n) (h:WpL P n m G md ops l ⟨(d,.sc (.bool true))::T,O⟩ Q):
 WpL P n m G md ops ({dst:=some d,op:=.binOp .eql t x y ty,type:=tt,pos:=pos,after:=after,guard:=none}::l) ⟨T,O⟩ Q:=
 WpL.pure rfl rfl hn (fun S ι F a w hr=>⟨.bool true,by
  have e1:a.eval x=.slice none 0 0:=by
   have:=hr.eval x;rw [show av (St.mk T O).T x=_ from hx] at this;exact (LRel.slice_len this).2.2 rfl
  have e2:a.eval y=.slice none 0 0:=by
   have:=hr.eval y;rw [show av (St.mk T O).T y=_ from hy] at this;exact (LRel.slice_len this).2.2 rfl
  simp only [execOp,e1,e2,eqGuard_slice,binOp,Sem.run_bind,run_equal_nil P ht,Result.andThen_ok,Sem.run_pure],.sc .nil⟩) h
theorem WpL.ownEq {t e ty:TypeId} {x y:Operand} {id ep off len:Nat} {ob:AObj} (ht:P.underlying t=some (.slice e)) (hx:av T x=.own id ep off len) (ho:O[id]?=some ob) (he:ob.ep=ep) (hl:0<len) (hy:av T y=.nilS) (hn:d<n)
 (h:WpL P n m G md ops l ⟨(d,.sc (.bool false))::T,O⟩ Q):
 WpL P n m G md ops ({dst:=some d,op:=.binOp .eql t x y ty,type:=tt,pos:=pos,after:=after,guard:=none}::l) ⟨T,O⟩ Q:=
 WpL.pure rfl rfl hn (fun S ι F a w hr=>⟨.bool false,by
  have e2:a.eval y=.slice none 0 0:=by
   have:=hr.eval y;rw [show av (St.mk T O).T y=_ from hy] at this;exact (LRel.slice_len this).2.2 rfl
  have hv:=hr.eval x
  rw [show av (St.mk T O).T x=_ from hx] at hv
  have e1:∃ad c,a.eval x=.slice (some ad) len c:=by
   generalize a.eval x=v at hv
   cases hv with
   |own q1 q2 q3 r=>
    have ho':(St.mk T O).O[id]?=some ob:=ho
    rw [ho'] at q1;cases q1
    have:=q3 he.symm
    unfold OwnAt at this
    split at this
    ·omega
    ·obtain ⟨cap,rfl,_⟩:=this;exact ⟨_,_,rfl⟩
  obtain ⟨ad,c,e1⟩:=e1
  simp only [execOp,e1,e2,eqGuard_slice,binOp,Sem.run_bind,run_equal_some P ht,Result.andThen_ok,Sem.run_pure],.sc .nil⟩) h
theorem WpL.pureE {o:Oper} {C:AV→Prop} (hg:o.guard=none) (hd:o.dst=some d) (hn:d<n)
 (hop:∀S ι F a w,RelAt n m G S ι F ⟨T,O⟩ a w→∃V v,C V∧(execOp a.eval o).run P w=.ok (.value v) w∧VRel S w ι O V v [])
 (h:∀V,C V→WpL P n m G md ops l ⟨(d,V)::T,O⟩ Q):WpL P n m G md ops (o::l) ⟨T,O⟩ Q:=
 match md,h with
 |false,h=>fun a w hr=>by
  obtain ⟨S,ι,F,hr⟩:=hr
  obtain ⟨V,v,hC,h1,h2⟩:=hop S ι F a w hr
  have h3:=h V hC _ w ⟨S,ι,F,hr.put hn h2⟩
  refine wpList_plain hg fun K hK=>?_
  unfold Oper.wp
  rw [h1]
  exact hK _ _ (by rw [hd];exact h3)
 |true,h=>fun a w hr=>by
  obtain ⟨S,ι,F,hr⟩:=hr
  obtain ⟨V,v,hC,h1,h2⟩:=hop S ι F a w hr
  have h3:=h V hC _ w ⟨S,ι,F,hr.put hn h2⟩
  simp only at h3 ⊢
  unfold wpStill
  rw [if_pos (by simp [Region.wanted,hg])]
  unfold Oper.still
  rw [h1,Oper.stillUpon_value,hd]
  exact h3
theorem WpL.immEq {t e ty:TypeId} {x y:Operand} {k len:Nat} {cs:List AV} (ht:P.underlying t=some (.slice e)) (hx:av T x=.imm k len cs) (hy:av T y=.nilS) (hn:d<n)
 (h1:len=0→WpL P n m G md ops l ⟨(d,.sc (.bool true))::T,O⟩ Q) (h0:WpL P n m G md ops l ⟨(d,.sc (.bool false))::T,O⟩ Q):
 WpL P n m G md ops ({dst:=some d,op:=.binOp .eql t x y ty,type:=tt,pos:=pos,after:=after,guard:=none}::l) ⟨T,O⟩ Q:=by
 have key:∀S ι F a w,RelAt n m G S ι F ⟨T,O⟩ a w→∃b:Bool,(b=true→len=0)∧(execOp a.eval {dst:=some d,op:=.binOp .eql t x y ty,type:=tt,pos:=pos,after:=after,guard:=none}).run P w=.ok (.value (.bool b)) w:=by
  intro S ι F a w hr
  have e2:a.eval y=.slice none 0 0:=by
   have:=hr.eval y;rw [show av (St.mk T O).T y=_ from hy] at this;exact (LRel.slice_len this).2.2 rfl
  have hv:=hr.eval x
  rw [show av (St.mk T O).T x=_ from hx] at hv
  obtain ⟨_,h|⟨b,o,cap,us,h,_⟩⟩:=imm_inv hv
  ·obtain ⟨ad,cap,h,⟨hc,_⟩,hl,_⟩:=h
   cases ad with
   |none=>
    have hc0:=hc rfl
    subst hc0
    exact ⟨true,fun _=>hl,by simp only [execOp,h,e2,eqGuard_slice,binOp,Sem.run_bind,run_equal_nil P ht,Result.andThen_ok,Sem.run_pure]⟩
   |some ad=>exact ⟨false,(fun h=>by cases h),by simp only [execOp,h,e2,eqGuard_slice,binOp,Sem.run_bind,run_equal_some P ht,Result.andThen_ok,Sem.run_pure]⟩
  ·exact ⟨false,(fun h=>by cases h),by simp only [execOp,h,e2,eqGuard_slice,binOp,Sem.run_bind,run_equal_some P ht,Result.andThen_ok,Sem.run_pure]⟩
 exact WpL.pureE (C:=fun V=>V=.sc (.bool true)∧len=0∨V=.sc (.bool false)) rfl rfl hn (fun S ι F a w hr=>by
  obtain ⟨b,hb,hrun⟩:=key S ι F a w hr
  cases b with
  |true=>exact ⟨_,_,.inl ⟨rfl,hb rfl⟩,hrun,.sc .nil⟩
  |false=>exact ⟨_,_,.inr rfl,hrun,.sc .nil⟩) (fun V hV=>by
  rcases hV with ⟨rfl,hl⟩|rfl
  ·exact h1 hl
  ·exact h0)
end
section
variable {P:Program} {n m:Nat} {G:Ctx} {md:Bool} {T:List (Nat×AV)} {O:List AObj} {Q:Exit→St→Prop} {ops:Array Oper} {l:List Oper} {d:Nat} {tt:TypeId} {pos:String} {after:Array Edge} {tab:List (Nat×Ty)}
theorem WpL.subIntsHi (hP:TabOk P tab) {t e b:Nat} {zs:List AV} {x y:Operand} {len:Nat} {xs:List Int} {kk:IntKind} {j:Int} (ht:tlook tab t=some (.slice e 1 b zs)) (hx:av T x=.imm 1 len (ints xs)) (hy:av T y=.sc (.int kk j)) (hl:len=xs.length)
 (hb:0≤j∧j≤xs.length) (hn:d<n) (h:WpL P n m G md ops l ⟨(d,.imm 1 (xs.take j.toNat).length (ints (xs.take j.toNat)))::T,O⟩ Q):
 WpL P n m G md ops ({dst:=some d,op:=.slice t x none (some y) none,type:=tt,pos:=pos,after:=after,guard:=none}::l) ⟨T,O⟩ Q:=by
 subst hl
 refine WpL.subImm hP ht hx (.inl ⟨rfl,rfl⟩) (.inr ⟨_,_,rfl,hy⟩) (by omega) hn ?_
 have e1:(xs.take j.toNat).length=j.toNat:=by simp;omega
 rw [e1] at h
 simpa [ints,List.map_take] using h
end
def FnB (P:Program) (f:FuncId) (args:List AV) (p:Prop) (N1:List AObj) (r1:AV) (N0:List AObj) (r0:AV):Prop:=(p→FnC P f args N1 r1)∧(¬ p→FnC P f args N0 r0)
theorem WpL.callB {P:Program} {n m:Nat} {G:Ctx} {T:List (Nat×AV)} {O:List AObj} {Q:Exit→St→Prop} {ops:Array Oper} {l:List Oper} {d:Nat} {tt:TypeId} {pos:String} {after:Array Edge} {f:FuncId} {xs:List Operand} {ats:Array TypeId} {As:List AV} {p:Prop} {N1 N0:List AObj} {r1 r0 r1' r0':AV} {id:Nat} (hc:FnB P f As p N1 r1 N0 r0) (hs:Snap O (xs.map (av T)) As)
 (hl1:Loc [r1]) (hN1:Out N1) (hl0:Loc [r0]) (hN0:Out N0) (hid:cnt O.length 0=some id) (hok1:r1.shOk=true) (hre1:r1.shF id=some r1') (hok0:r0.shOk=true) (hre0:r0.shF id=some r0') (hn:d<n)
 (h1:p→WpL P n m G false ops l ⟨(d,r1')::T,O++N1⟩ Q) (h0:¬p→WpL P n m G false ops l ⟨(d,r0')::T,O++N0⟩ Q):
 WpL P n m G false ops ({dst:=some d,op:=.call {callee:=.value (.func f),args:=xs.toArray,argTypes:=ats},type:=tt,pos:=pos,after:=after,guard:=none}::l) ⟨T,O⟩ Q:=by
 by_cases hp:p
 ·exact WpL.callF (hc.1 hp) hs hl1 hN1 hid hok1 hre1 hn (h1 hp)
 ·exact WpL.callF (hc.2 hp) hs hl0 hN0 hid hok0 hre0 hn (h0 hp)
end Go.Abs
