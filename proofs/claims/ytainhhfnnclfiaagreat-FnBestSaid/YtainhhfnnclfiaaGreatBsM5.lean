/- Proved in this text: lemmas and contracts of functions that the claim uses (parts: AbsU, AbsV, AbsW). No condition. -/
import Derived.Test.YtainhhfnnclfiaaGreatBsM4
import Derived.Laws.Tables
set_option linter.unusedVariables false
set_option linter.unusedSimpArgs false
set_option maxRecDepth 100000
set_option maxHeartbeats 16000000


namespace Go.Abs
open Go
abbrev GFact:=Option (Nat×AV)
def gdeps (fs:List GFact) (o:Oper):List (Nat×AV):=o.after.toList.filterMap fun e=>if Region.binds .any e=true then (fs[e.on]?).join else none
def reach (ops:Array Oper):Nat→Nat→Nat→Bool
 |0,_,_=>false
 |f+1,i,j=>match ops[i]? with
  |none=>false
  |some o=>(o.after.toList.any fun e=>Region.binds .any e&&Nat.beq e.on j)||(o.after.toList.any fun e=>Region.binds .any e&&reach ops f e.on j)
theorem reach_listed {ops:Array Oper} {n:Nat} {listed:Array Bool} (inv:HeadInv .any ops n listed):∀(f i j:Nat),reach ops f i j=true→listed.getD i false=true→listed.getD j false=true
 |0,i,j,h,_=>by simp [reach] at h
 |f+1,i,j,h,hl=>by
  rw [reach] at h
  split at h
  ·cases h
  ·rename_i o ho
   rcases Bool.or_eq_true_iff.1 h with h|h
   ·obtain ⟨e,he,hx⟩:=List.any_eq_true.1 h
    rw [Bool.and_eq_true] at hx
    have:=inv.closed i o ho hl e (by simpa using he) hx.1
    rw [Nat.eq_of_beq_eq_true hx.2] at this;exact this
   ·obtain ⟨e,he,hx⟩:=List.any_eq_true.1 h
    rw [Bool.and_eq_true] at hx
    exact reach_listed inv f _ _ hx.2 (inv.closed i o ho hl e (by simpa using he) hx.1)
theorem reach_ready {ops:Array Oper} {n:Nat} {listed:Array Bool} (inv:HeadInv .any ops n listed) {f i j:Nat} (h:reach ops f i j=true) (hi:i∈Region.ready .any ops listed):listed.getD j false=true:=by
 obtain ⟨_,o,ho,hall⟩:=mem_ready.1 hi
 cases f with
 |zero=>simp [reach] at h
 |succ f=>
  rw [reach,ho] at h
  rcases Bool.or_eq_true_iff.1 h with h|h
  ·obtain ⟨e,he,hx⟩:=List.any_eq_true.1 h
   rw [Bool.and_eq_true] at hx
   have:=hall e (by simpa using he) hx.1
   rw [Nat.eq_of_beq_eq_true hx.2] at this;exact this
  ·obtain ⟨e,he,hx⟩:=List.any_eq_true.1 h
   rw [Bool.and_eq_true] at hx
   exact reach_listed inv f _ _ hx.2 (hall e (by simpa using he) hx.1)
inductive Pat:List (Option AObj)→List AObj→Prop
 |nil {R}:Pat [] R
 |one {ob ps R} (r:Pat ps R):Pat (some ob::ps) (ob::R)
 |any {ob ps R} (r:Pat ps R):Pat (none::ps) (ob::R)
theorem Pat.all:∀{Op A:List AObj},Pat (Op.map some) A→∃R,A=Op++R
 |[],A,_=>⟨A,rfl⟩
 |ob::Op,_,.one r=>by obtain ⟨R,rfl⟩:=Pat.all r;exact ⟨R,rfl⟩
inductive OpG (P:Program) (n m:Nat) (G:Ctx) (ops:Array Oper) (T0:List (Nat×AV)) (F:List (Nat×AV)) (o:Oper):Nat→GFact→Option (List (Option AObj))→List AObj→List AObj→Prop
 |pre {d V O} (Op:List (Option AObj)) (hd:o.dst=some d) (h:∀Tv Ov,Pat Op Ov→WpL P n m G false ops [o] ⟨F++(T0++Tv),Ov⟩ (Only ⟨(d,V)::(F++(T0++Tv)),Ov⟩)):OpG P n m G ops T0 F o 0 (some (d,V)) (some Op) O O
 |fixed {d V O} (hd:o.dst=some d) (h:∀Tv,WpL P n m G false ops [o] ⟨F++(T0++Tv),O⟩ (Only ⟨(d,V)::(F++(T0++Tv)),O⟩)):OpG P n m G ops T0 F o 1 (some (d,V)) none O O
 |step {d V O O'} (hd:o.dst=some d) (h:∀Tv,WpL P n m G false ops [o] ⟨F++(T0++Tv),O⟩ (Only ⟨(d,V)::(F++(T0++Tv)),O'⟩)):OpG P n m G ops T0 F o 2 (some (d,V)) none O O'
 |stepN {O O'} (hd:o.dst=none) (h:∀Tv,WpL P n m G false ops [o] ⟨F++(T0++Tv),O⟩ (Only ⟨F++(T0++Tv),O'⟩)):OpG P n m G ops T0 F o 2 none none O O'
inductive HeadG (P:Program) (n m:Nat) (G:Ctx) (ops:Array Oper) (T0:List (Nat×AV)):List GFact→List AObj→List Oper→List GFact→List Nat→List (Option (List (Option AObj)))→List (List AObj)→List AObj→Prop
 |nil {fs O}:HeadG P n m G ops T0 fs O [] [] [] [] [O] O
 |still {fs O o l x k y out ks ds Os O' F} (hF:gdeps fs o=F) (hk:k<2) (h:OpG P n m G ops T0 F o k x y O O) (r:HeadG P n m G ops T0 (fs++[x]) O l out ks ds Os O'):HeadG P n m G ops T0 fs O (o::l) (x::out) (k::ks) (y::ds) Os O'
 |step {fs O o l x y out ks ds Os O1 O' F} (hF:gdeps fs o=F) (h:OpG P n m G ops T0 F o 2 x y O O1) (r:HeadG P n m G ops T0 (fs++[x]) O1 l out ks ds Os O'):HeadG P n m G ops T0 fs O (o::l) (x::out) (2::ks) (y::ds) (O::Os) O'
def isS (ks:List Nat) (j:Nat):Bool:=Nat.beq (ks.getD j 0) 2
def sc (ks:List Nat) (j:Nat):Nat:=((List.range j).filter (isS ks)).length
theorem sc_cons (k:Nat) (ks:List Nat) (j:Nat):sc (k::ks) (j+1)=(if Nat.beq k 2=true then 1 else 0)+sc ks j:=by
 unfold sc
 rw [List.range_succ_eq_map,List.filter_cons,List.filter_map]
 have:(isS (k::ks) ∘ Nat.succ)=isS ks:=by funext x;simp [isS]
 rw [this]
 have h0:isS (k::ks) 0=Nat.beq k 2:=by simp [isS]
 rw [h0]
 split<;>simp<;>omega
section
variable {P:Program} {n m:Nat} {G:Ctx} {ops:Array Oper} {T0:List (Nat×AV)}
theorem HeadG.hd {fs O l out ks ds Os O'} (h:HeadG P n m G ops T0 fs O l out ks ds Os O'):Os[0]?=some O:=by
 induction h with
 |nil=>rfl
 |still _ _ _ _ ih=>exact ih
 |step=>rfl
theorem HeadG.lens {fs O l out ks ds Os O'} (h:HeadG P n m G ops T0 fs O l out ks ds Os O'):out.length=l.length∧ks.length=l.length∧Os[sc ks l.length]?=some O':=by
 induction h with
 |nil=>exact ⟨rfl,rfl,rfl⟩
 |@still fs O o l x k y out ks ds Os O' F _ hk _ _ ih=>
  have e:¬Nat.beq k 2=true:=by intro h;have:=Nat.eq_of_beq_eq_true h;omega
  refine ⟨by simp [ih.1],by simp [ih.2.1],?_⟩
  rw [List.length_cons,sc_cons,if_neg e,Nat.zero_add];exact ih.2.2
 |@step fs O o l x y out ks ds Os O1 O' F _ _ _ ih=>
  refine ⟨by simp [ih.1],by simp [ih.2.1],?_⟩
  rw [List.length_cons,sc_cons,if_pos (show Nat.beq 2 2=true from rfl),Nat.add_comm];simpa using ih.2.2
theorem HeadG.at {fs O l out ks ds Os O'} (h:HeadG P n m G ops T0 fs O l out ks ds Os O'):∀{j:Nat} {o:Oper},l[j]?=some o→∃x k y A B,out[j]?=some x∧ks[j]?=some k∧ds[j]?=some y∧Os[sc ks j]?=some A∧
 Os[(if isS ks j=true then 1 else 0)+sc ks j]?=some B∧OpG P n m G ops T0 (gdeps (fs++out.take j) o) o k x y A B:=by
 induction h with
 |nil=>intro j o h;simp at h
 |@still fs O o l x k y out ks ds Os O' F hF hk h r ih=>
  intro j o' hj
  have e:¬Nat.beq k 2=true:=by intro h;have:=Nat.eq_of_beq_eq_true h;omega
  cases j with
  |zero=>
   simp only [List.getElem?_cons_zero,Option.some.injEq] at hj
   subst hj
   have h0:isS (k::ks) 0=Nat.beq k 2:=by simp [isS]
   refine ⟨x,k,y,O,O,rfl,rfl,rfl,r.hd,?_,?_⟩
   ·rw [h0,if_neg e];exact r.hd
   ·simp only [List.take_zero,List.append_nil];rw [hF];exact h
  |succ j=>
   obtain ⟨x',k',y',A,B,h1,h2,h2',h3,h4,h5⟩:=ih (j:=j) (o:=o') (by simpa using hj)
   have hs:isS (k::ks) (j+1)=isS ks j:=by simp [isS]
   refine ⟨x',k',y',A,B,by simpa using h1,by simpa using h2,by simpa using h2',?_,?_,?_⟩
   ·rw [sc_cons,if_neg e,Nat.zero_add];exact h3
   ·rw [hs,sc_cons,if_neg e,Nat.zero_add];exact h4
   ·rw [List.take_succ_cons];rw [List.append_assoc] at h5;exact h5
 |@step fs O o l x y out ks ds Os O1 O' F hF h r ih=>
  intro j o' hj
  cases j with
  |zero=>
   simp only [List.getElem?_cons_zero,Option.some.injEq] at hj
   subst hj
   have h0:isS (2::ks) 0=true:=by simp [isS]
   refine ⟨x,2,y,O,O1,rfl,rfl,rfl,rfl,?_,?_⟩
   ·rw [h0,if_pos rfl];exact r.hd
   ·simp only [List.take_zero,List.append_nil];rw [hF];exact h
  |succ j=>
   obtain ⟨x',k',y',A,B,h1,h2,h2',h3,h4,h5⟩:=ih (j:=j) (o:=o') (by simpa using hj)
   have hs:isS (2::ks) (j+1)=isS ks j:=by simp [isS]
   refine ⟨x',k',y',A,B,by simpa using h1,by simpa using h2,by simpa using h2',?_,?_,?_⟩
   ·rw [sc_cons,if_pos (show Nat.beq 2 2=true from rfl),Nat.add_comm];simpa using h3
   ·rw [hs,sc_cons,if_pos (show Nat.beq 2 2=true from rfl),←Nat.add_assoc,Nat.add_comm _ 1,Nat.add_assoc,Nat.add_comm 1];simpa using h4
   ·rw [List.take_succ_cons];rw [List.append_assoc] at h5;exact h5
def ordB (ops:Array Oper) (ks:List Nat) (f:Nat):Bool:=
 (List.range ops.size).all fun j=>!isS ks j||(List.range ops.size).all fun i=>Nat.beq i j||Nat.beq (ks.getD i 0) 0||(if Nat.blt j i then reach ops f i j else reach ops f j i)
def backB (ops:Array Oper):Bool:=(List.range ops.size).all (fun i=>match ops[i]? with|some o=>o.after.toList.all fun e=>!Region.binds .any e||Nat.blt e.on i|none=>true)
def factsG:List GFact→List (Nat×AV):=List.filterMap id
def cntL (ks:List Nat) (k:Nat) (listed:Array Bool):Nat:=((List.range k).filter fun j=>isS ks j&&listed.getD j false).length
def lo (ops:Array Oper) (ks:List Nat) (k f i:Nat):Nat:=((List.range k).filter fun j=>isS ks j&&reach ops f i j).length
def hiS (ops:Array Oper) (ks:List Nat) (k f i:Nat):Nat:=((List.range k).filter fun j=>isS ks j&&!reach ops f j i).length
theorem filter_len_le {p q:Nat→Bool} (L:List Nat) (h:∀j,j∈L→p j=true→q j=true):(L.filter p).length≤(L.filter q).length:=by
 induction L with
 |nil=>simp
 |cons x L ih=>
  have ih:=ih (fun j hj=>h j (List.mem_cons_of_mem _ hj))
  rw [List.filter_cons,List.filter_cons]
  cases hp:p x with
  |false=>simp only [Bool.false_eq_true,if_false];split<;>(try simp only [List.length_cons])<;>omega
  |true=>rw [h x (by simp) hp];simpa using ih
structure GoodG (n m:Nat) (G:Ctx) (T0:List (Nat×AV)) (k:Nat) (out:List GFact) (ks:List Nat) (Os:List (List AObj)) (listed:Array Bool) (a:Act) (w:World) (T:List (Nat×AV)):Prop where
 rel:Rel n m G ⟨T,(Os[cntL ks k listed]?).getD []⟩ a w
 facts:∀i d V,out[i]?=some (some (d,V))→listed.getD i false=true→look T d=V
 other:∀t,has (factsG out) t=false→look T t=look T0 t
theorem cnt_set {ks:List Nat} {k:Nat} {listed:Array Bool} {i:Nat} (hik:i<k) (hsz:i<listed.size) (hun:listed.getD i false=false):
 cntL ks k (listed.setIfInBounds i true)=(if isS ks i=true then 1 else 0)+cntL ks k listed:=by
 have key:∀L:List Nat,L.Nodup→((L.filter fun j=>isS ks j&&(listed.setIfInBounds i true).getD j false).length=(if i∈L∧isS ks i=true then 1 else 0)+(L.filter fun j=>isS ks j&&listed.getD j false).length):=by
  intro L
  induction L with
  |nil=>intro _;simp
  |cons x L ih=>
   intro hnd
   rw [List.nodup_cons] at hnd
   have ih:=ih hnd.2
   by_cases hx:x=i
   ·subst hx
    have hself:(listed.setIfInBounds x true).getD x false=true:=by simp [hsz]
    have ih':=ih
    simp only [hnd.1,false_and,if_false,Nat.zero_add] at ih'
    rw [List.filter_cons,List.filter_cons,hself,hun]
    have hl1:(if x∈x::L∧isS ks x=true then 1 else 0)=(if isS ks x=true then 1 else 0):=by simp
    rw [hl1]
    cases hs:isS ks x with
    |false=>simp only [Bool.false_and,if_false,Bool.false_eq_true];omega
    |true=>simp only [Bool.and_true,Bool.and_false,if_true,if_false,Bool.false_eq_true,List.length_cons];omega
   ·rw [List.filter_cons,List.filter_cons,getD_set_ne false (Ne.symm hx)]
    have hx':i≠x:=Ne.symm hx
    have:(if i∈x::L∧isS ks i=true then 1 else 0)=(if i∈L∧isS ks i=true then 1 else 0):=by simp only [List.mem_cons,hx',false_or]
    rw [this]
    split<;>(try simp only [List.length_cons])<;>omega
 have:=key (List.range k) List.nodup_range
 unfold cntL
 rw [this]
 simp [hik]
theorem cnt_eq_sc {ks:List Nat} {k:Nat} {listed:Array Bool} {i:Nat} (hik:i≤k) (h1:∀j,j<i→isS ks j=true→listed.getD j false=true) (h2:∀j,i≤j→j<k→isS ks j=true→listed.getD j false=false):
 cntL ks k listed=sc ks i:=by
 unfold cntL sc
 have e:k=i+(k-i):=by omega
 rw [e,List.range_add,List.filter_append,List.length_append]
 have a:((List.range i).filter fun j=>isS ks j&&listed.getD j false)=(List.range i).filter (isS ks):=by
  refine List.filter_congr fun j hj=>?_
  cases hs:isS ks j with
  |false=>rfl
  |true=>rw [h1 j (List.mem_range.1 hj) hs];rfl
 have b:(((List.range (k-i)).map (i+·)).filter fun j=>isS ks j&&listed.getD j false)=[]:=by
  rw [List.filter_eq_nil_iff]
  intro j hj
  obtain ⟨x,hx,rfl⟩:=List.mem_map.1 hj
  have hx:=List.mem_range.1 hx
  cases hs:isS ks (i+x) with
  |false=>simp
  |true=>rw [h2 (i+x) (by omega) (by omega) hs];simp
 rw [a,b];rfl
theorem WpA.regionG {l:List Oper} {id:Nat} {O O':List AObj} {out:List GFact} {ks:List Nat} {ds:List (Option (List (Option AObj)))} {Os:List (List AObj)} {T1:List (Nat×AV)} {Q:Exit→St→Prop} (f k:Nat) (hm:P.follows .mixedOrders=true) (hM:mixB l.toArray k=true)
 (hJ:HeadG P n m G l.toArray T0 [] O (l.take k) out ks ds Os O') (hB:(backB l.toArray&&ordB l.toArray ks f)=true) (hnd:nodupB ((factsG out).map (·.1))=true) (hfr:((factsG out).all fun p=>!has T0 p.1)=true)
 (hD:∀i Op,ds[i]?=some (some Op)→∀q A,lo l.toArray ks k f i≤q→q≤hiS l.toArray ks k f i→Os[q]?=some A→Pat Op A)
 (hT1:factsG out++T0=T1) (h:WpL P n m G false l.toArray (l.drop k) ⟨T1,O'⟩ Q):WpA P n m G (.region id l.toArray true) ⟨T0,O⟩ Q:=fun a w hr=>by
 subst hT1
 rw [Bool.and_eq_true] at hB
 obtain ⟨hb,hord⟩:=hB
 obtain ⟨hl1,hl2,hl3⟩:=hJ.lens
 simp only [mixB,Bool.and_eq_true,decide_eq_true_eq,Bool.or_eq_true] at hM
 obtain ⟨⟨⟨hks,_⟩,hsc⟩,hseq⟩:=hM
 have hkl:k≤l.length:=by simpa using hks
 have hk':(l.take k).length=k:=by simp;omega
 have hs:k<l.toArray.size→Region.sinkB .any l.toArray k=true∧Region.chainB .any l.toArray k=true:=fun hk=>hsc.resolve_left (by omega)
 have back:∀i,i<k→∀o,l.toArray[i]?=some o→∀e∈o.after,Region.binds .any e=true→e.on<i:=by
  intro i hi o ho e he hb'
  have h1:=List.all_eq_true.1 hb i (List.mem_range.2 (by omega))
  rw [ho] at h1
  have h2:=List.all_eq_true.1 h1 e (by simpa using he)
  rw [hb'] at h2
  simpa using h2
 have ord:∀i j,i<k→j<k→isS ks j=true→i≠j→ks.getD i 0≠0→(j<i→reach l.toArray f i j=true)∧(i<j→reach l.toArray f j i=true):=by
  intro i j hi hj hs hne h0
  have h1:=List.all_eq_true.1 hord j (List.mem_range.2 (by omega))
  rw [hs,Bool.not_true,Bool.false_or] at h1
  have h2:=List.all_eq_true.1 h1 i (List.mem_range.2 (by omega))
  have e1:Nat.beq i j=false:=by rw [←Bool.not_eq_true];intro h;exact hne (Nat.eq_of_beq_eq_true h)
  have e2:Nat.beq (ks.getD i 0) 0=false:=by rw [←Bool.not_eq_true];intro h;exact h0 (Nat.eq_of_beq_eq_true h)
  rw [e1,e2,Bool.false_or,Bool.false_or] at h2
  constructor
  ·intro hlt
   have:Nat.blt j i=true:=Nat.ble_eq_true_of_le hlt
   rw [if_pos this] at h2;exact h2
  ·intro hlt
   have:¬Nat.blt j i=true:=fun h=>by have:=Nat.le_of_ble_eq_true h;omega
   rw [if_neg this] at h2;exact h2
 have hnd':=nodupB_spec hnd
 have inj:∀{i j d:Nat} {V W:AV},out[i]?=some (some (d,V))→out[j]?=some (some (d,W))→i=j:=by
  intro i j d V W hi hj
  have key:∀(L:List GFact) (i j:Nat),((factsG L).map (·.1)).Nodup→L[i]?=some (some (d,V))→L[j]?=some (some (d,W))→i=j:=by
   intro L
   induction L with
   |nil=>intro i j _ h;simp at h
   |cons x L ih=>
    intro i j hn h1 h2
    have mem:∀{j:Nat} {U:AV},L[j]?=some (some (d,U))→d∈(factsG L).map (·.1):=by
     intro j U h
     refine List.mem_map.2 ⟨(d,U),?_,rfl⟩
     exact List.mem_filterMap.2 ⟨some (d,U),List.mem_of_getElem? h,rfl⟩
    cases i with
    |zero=>
     simp only [List.getElem?_cons_zero,Option.some.injEq] at h1
     subst h1
     cases j with
     |zero=>rfl
     |succ j=>
      have:(factsG (some (d,V)::L)).map (·.1)=d::(factsG L).map (·.1):=rfl
      rw [this,List.nodup_cons] at hn
      exact (hn.1 (mem (by simpa using h2))).elim
    |succ i=>
     cases j with
     |zero=>
      simp only [List.getElem?_cons_zero,Option.some.injEq] at h2
      subst h2
      have:(factsG (some (d,W)::L)).map (·.1)=d::(factsG L).map (·.1):=rfl
      rw [this,List.nodup_cons] at hn
      exact (hn.1 (mem (by simpa using h1))).elim
     |succ j=>
      refine congrArg (·+1) (ih i j ?_ (by simpa using h1) (by simpa using h2))
      cases x with
      |none=>exact hn
      |some y=>
       have:(factsG (some y::L)).map (·.1)=y.1::(factsG L).map (·.1):=rfl
       rw [this,List.nodup_cons] at hn
       exact hn.2
  exact key out i j hnd' hi hj
 have memF:∀{j d:Nat} {V:AV},out[j]?=some (some (d,V))→(d,V)∈factsG out:=fun h=>List.mem_filterMap.2 ⟨_,List.mem_of_getElem? h,rfl⟩
 have fresh:∀p,p∈factsG out→has T0 p.1=false:=fun p hp=>by have:=List.all_eq_true.1 hfr p hp;simpa using this
 have step:∀(listed:Array Bool) (a:Act) (w:World) (T:List (Nat×AV)),HeadInv .any l.toArray k listed→GoodG n m G T0 k out ks Os listed a w T→∀i,i∈Region.ready .any l.toArray listed→i<k→
  ∀K:Act→World→Prop,(∀ a' w' T',GoodG n m G T0 k out ks Os (listed.setIfInBounds i true) a' w' T'→K a' w')→∀Q:Exit→Act→World→Prop,wpOp P l.toArray Q i K a w:=by
  intro listed a w T inv hg i hi hik K hK Q
  obtain ⟨hun,o,ho,hall⟩:=mem_ready.1 hi
  have hunf:listed.getD i false=false:=getD_both hun
  have hsz:i<listed.size:=by rw [inv.size];omega
  obtain ⟨x,kk,y,A,B,hx,hkk,hy,hA,hB,hop⟩:=hJ.at (j:=i) (o:=o) (by rw [List.getElem?_take,if_pos hik];simpa using ho)
  rw [List.nil_append] at hop
  have hksD:ks.getD i 0=kk:=by simp [hkk]
  have hF:∀t U,(t,U)∈gdeps (out.take i) o→look T t=U:=by
   intro t U hm
   simp only [gdeps,List.mem_filterMap] at hm
   obtain ⟨e,he,hx⟩:=hm
   split at hx
   ·rename_i hb'
    have hl:=hall e (by simpa using he) hb'
    have:out[e.on]?=some (some (t,U)):=by
     rw [List.getElem?_take] at hx
     split at hx
     ·cases ho:out[e.on]? with
      |none=>rw [ho] at hx;simp at hx
      |some y=>rw [ho] at hx;simp only [Option.join_some] at hx;rw [hx]
     ·simp at hx
    exact hg.facts _ _ _ this hl
   ·simp at hx
  have same:∀t,look (gdeps (out.take i) o++(T0++T)) t=look T t:=by
   intro t
   rw [look_append]
   split
   ·rename_i h;exact (hF _ _ (has_look h)).symm
   ·rw [look_append]
    split
    ·rename_i h
     refine (hg.other t ?_).symm
     cases hc:has (factsG out) t with
     |false=>rfl
     |true=>have:=fresh _ (has_look hc);simp only at this;rw [this] at h;cases h
    ·rfl
  have hcs:=cnt_set (ks:=ks) (k:=k) hik hsz hunf
  have puts:∀{d:Nat} {V:AV},x=some (d,V)→∀{C:List AObj} (a':Act) (w':World),(Os[cntL ks k (listed.setIfInBounds i true)]?).getD []=C→Rel n m G ⟨(d,V)::(gdeps (out.take i) o++(T0++T)),C⟩ a' w'→
   GoodG n m G T0 k out ks Os (listed.setIfInBounds i true) a' w' ((d,V)::(gdeps (out.take i) o++(T0++T))):=by
   rintro d V rfl C a' w' hC hr'
   refine ⟨by rw [hC];exact hr',fun j d' V' hj hl=>?_,fun t ht=>?_⟩
   ·by_cases hij:i=j
    ·subst hij;rw [hx] at hj;cases hj;exact look_cons_same _ _ _
    ·rw [getD_set_ne false hij] at hl
     have hne:d≠d':=by rintro rfl;exact hij (inj hx hj)
     rw [look_cons_other _ _ _ _ hne,same]
     exact hg.facts _ _ _ hj hl
   ·have hne:d≠t:=by
     rintro rfl
     have:=has_mem (memF hx)
     rw [ht] at this;cases this
    rw [look_cons_other _ _ _ _ hne,same];exact hg.other t ht
  have around:kk≠0→cntL ks k listed=sc ks i:=by
   intro h0
   refine cnt_eq_sc (by omega) (fun j hj hs=>?_) (fun j hj hjk hs=>?_)
   ·exact reach_ready inv ((ord i j hik (by omega) hs (by omega) (by rw [hksD];exact h0)).1 hj) hi
   ·by_cases hij:i=j
    ·subst hij;exact hunf
    ·cases hl:listed.getD j false with
     |false=>rfl
     |true=>
      have:=reach_listed inv f j i ((ord i j hik hjk hs hij (by rw [hksD];exact h0)).2 (by omega)) hl
      rw [hunf] at this;cases this
  have hisS:isS ks i=Nat.beq kk 2:=by unfold isS;rw [hksD]
  cases hop with
  |pre Op hd hh=>
   have e:cntL ks k (listed.setIfInBounds i true)=cntL ks k listed:=by rw [hcs,hisS];simp
   have hlo:lo l.toArray ks k f i≤cntL ks k listed:=by
    unfold lo cntL
    refine filter_len_le _ fun j _ hj=>?_
    rw [Bool.and_eq_true] at hj ⊢
    exact ⟨hj.1,reach_ready inv hj.2 hi⟩
   have hle:cntL ks k listed≤sc ks k:=by
    unfold cntL sc
    refine filter_len_le _ fun j _ hj=>?_
    rw [Bool.and_eq_true] at hj
    exact hj.1
   have hOl:sc ks k<Os.length:=by rw [←hk'];exact (List.getElem?_eq_some_iff.1 hl3).1
   obtain ⟨A',hA'⟩:∃A',Os[cntL ks k listed]?=some A':=⟨Os[cntL ks k listed]'(by omega),by simp⟩
   have hhi:cntL ks k listed≤hiS l.toArray ks k f i:=by
    unfold hiS cntL
    refine filter_len_le _ fun j _ hj=>?_
    rw [Bool.and_eq_true] at hj ⊢
    refine ⟨hj.1,?_⟩
    cases hr:reach l.toArray f j i with
    |false=>rfl
    |true=>have:=reach_listed inv f j i hr hj.2;rw [hunf] at this;cases this
   have hpat:=hD i Op hy _ A' hlo hhi hA'
   have eA:(Os[cntL ks k listed]?).getD []=A':=by rw [hA'];rfl
   exact wpOp_only ho (hh T A' hpat) (by have:=hg.rel.relook same;rw [eA] at this;exact this) fun a' w' hr'=>hK a' w' _ (puts rfl a' w' (by rw [e,eA]) hr')
  |fixed hd hh=>
   have e:cntL ks k (listed.setIfInBounds i true)=cntL ks k listed:=by rw [hcs,hisS];simp
   have ec:=around (by omega)
   have eA:(Os[cntL ks k listed]?).getD []=A:=by rw [ec,hA];rfl
   exact wpOp_only ho (hh T) (by have:=hg.rel.relook same;rw [eA] at this;exact this) fun a' w' hr'=>hK a' w' _ (puts rfl a' w' (by rw [e,eA]) hr')
  |step hd hh=>
   have ec:=around (by omega)
   have eA:(Os[cntL ks k listed]?).getD []=A:=by rw [ec,hA];rfl
   have eB:(Os[cntL ks k (listed.setIfInBounds i true)]?).getD []=B:=by rw [hcs,ec,hB];rfl
   exact wpOp_only ho (hh T) (by have:=hg.rel.relook same;rw [eA] at this;exact this) fun a' w' hr'=>hK a' w' _ (puts rfl a' w' eB hr')
  |stepN hd hh=>
   have ec:=around (by omega)
   have eA:(Os[cntL ks k listed]?).getD []=A:=by rw [ec,hA];rfl
   have eB:(Os[cntL ks k (listed.setIfInBounds i true)]?).getD []=B:=by rw [hcs,ec,hB];rfl
   refine wpOp_only ho (hh T) (by have:=hg.rel.relook same;rw [eA] at this;exact this) fun a' w' hr'=>hK a' w' _ ⟨by rw [eB];exact hr',fun j d' V' hj hl=>?_,fun t ht=>?_⟩
   ·by_cases hij:i=j
    ·subst hij;rw [hx] at hj;cases hj
    ·rw [getD_set_ne false hij] at hl
     rw [same];exact hg.facts _ _ _ hj hl
   ·rw [same];exact hg.other t ht
 have any:∀(c:Nat) (listed:Array Bool) (a:Act) (w:World),HeadInv .any l.toArray k listed→((List.range k).filter fun i=>!listed.getD i false).length=c→(∃ T,GoodG n m G T0 k out ks Os listed a w T)→
  wpAny P .any l.toArray (fun e a' w'=>∃σ',Q e σ'∧Rel n m G σ' a' w') (c+(l.toArray.size-k)) listed a w:=by
  intro c
  induction c with
  |zero=>
   intro listed a w inv hc hg
   obtain ⟨T,hg⟩:=hg
   have hall:∀i,i<k→listed.getD i false=true:=by
    intro i hi
    have h0:=List.eq_nil_of_length_eq_zero hc
    cases hl:listed.getD i false with
    |true=>rfl
    |false=>
     have:i∈(List.range k).filter fun i=>!listed.getD i false:=by simp [List.mem_filter,hi];simpa using hl
     rw [h0] at this;cases this
   have hlist:listed=(Array.range l.toArray.size).map fun i=>decide (i<k):=by
    apply Array.ext
    ·simp [inv.size]
    ·intro i hi1 hi2
     have hi:i<l.toArray.size:=by rw [←inv.size];exact hi1
     by_cases hik:i<k
     ·have:=hall i hik
      simp [hi1] at this
      simp [this,hik]
     ·have:=inv.tail i (by omega) hi
      simp [hi1] at this
      simp [this,hik]
   have hdl:(l.drop k).length=l.toArray.size-k:=by simp
   rw [Nat.zero_add,←hdl]
   refine wpAny_of_seq (l.drop k) k listed a w (fun j=>by simp [List.getElem?_drop]) (by rw [hdl,hlist];exact hseq) ?_
   refine h a w ?_
   have ec:cntL ks k listed=sc ks k:=cnt_eq_sc (Nat.le_refl _) (fun j hj _=>hall j hj) (fun j h1 h2=>by omega)
   have hrel:=hg.rel
   rw [ec,←hk',hl3] at hrel
   refine Rel.relook (T:=T) hrel fun t=>?_
   rw [look_append]
   split
   ·rename_i hh
    have hmem:=has_look hh
    obtain ⟨y,hy,hy2⟩:=List.mem_filterMap.1 hmem
    have hy2:y=some (t,look (factsG out) t):=hy2
    subst hy2
    obtain ⟨i,hi,hi2⟩:=List.getElem_of_mem hy
    have:out[i]?=some (some (t,look (factsG out) t)):=by rw [List.getElem?_eq_getElem hi,hi2]
    exact (hg.facts i _ _ this (hall i (by omega))).symm
   ·rename_i hh
    exact (hg.other t (by simpa using hh)).symm
  |succ c ih=>
   intro listed a w inv hc hg
   have hgetD:∀i,i<k→listed.getD i false=false→listed.getD i true=false:=fun i hi h=>getD_in (by rw [inv.size];omega) h
   have hex:∃i,i<k∧listed.getD i false=false:=by
    cases hl:(List.range k).filter fun i=>!listed.getD i false with
    |nil=>rw [hl] at hc;simp at hc
    |cons i r=>
     have:i∈(List.range k).filter fun i=>!listed.getD i false:=by rw [hl];simp
     rw [List.mem_filter,List.mem_range] at this
     exact ⟨i,this.1,by simpa using this.2⟩
   obtain ⟨i0,hi0,hl0⟩:=hex
   have least:∀d i,i=d→i<k→listed.getD i false=false→∃j,j<k∧j∈Region.ready .any l.toArray listed:=by
    intro d
    induction d using Nat.strongRecOn with
    |_ d ihd=>
     rintro i rfl hi hl
     by_cases hh:∃j,j<i∧listed.getD j false=false
     ·obtain ⟨j,hj,hjl⟩:=hh
      exact ihd j hj j rfl (by omega) hjl
     ·have hlt:i<l.toArray.size:=by omega
      refine ⟨i,hi,mem_ready.2 ⟨hgetD i hi hl,l.toArray[i],by simp [hlt],fun e he hb'=>?_⟩⟩
      have hlt':=back i hi _ (by simp [hlt]) e he hb'
      cases hx:listed.getD e.on false with
      |true=>rfl
      |false=>exact (hh ⟨_,hlt',hx⟩).elim
   obtain ⟨j0,hj0,hr0⟩:=least i0 i0 rfl hi0 hl0
   rw [show c+1+(l.toArray.size-k)=(c+(l.toArray.size-k))+1 by omega]
   refine ⟨fun h=>(by rw [h] at hr0;cases hr0),fun i hi=>?_⟩
   have hik:i<k:=by
    rcases Nat.lt_or_ge i k with h|h
    ·exact h
    ·by_cases hk:k<l.toArray.size
     ·exact absurd hi (tail_waits (hs hk).1 (hs hk).2 hk inv _ i0 rfl hi0 (hgetD i0 hi0 hl0) i h)
     ·obtain ⟨_,o,ho,_⟩:=mem_ready.1 hi
      have:=(Array.getElem?_eq_some_iff.1 ho).1
      omega
   have hiu:listed.getD i false=false:=getD_both (mem_ready.1 hi).1
   obtain ⟨T,hg⟩:=hg
   have inv':HeadInv .any l.toArray k (listed.setIfInBounds i true):=inv.set hi hik
   refine step listed a w T inv hg i hi hik _ (fun a' w' T' hg'=>ih _ _ _ inv' ?_ ⟨T',hg'⟩) _
   have key:∀(L:List Nat),L.Nodup→i∈L→(L.filter fun j=>!(listed.setIfInBounds i true).getD j false).length+1=(L.filter fun j=>!listed.getD j false).length:=by
    intro L
    have hself:(listed.setIfInBounds i true).getD i false=true:=by
     have:i<listed.size:=by rw [inv.size];omega
     simp [this]
    induction L with
    |nil=>intro _ h;cases h
    |cons x L ihL=>
     intro hnd hm
     rw [List.nodup_cons] at hnd
     by_cases hx:x=i
     ·subst hx
      have hsame:(L.filter fun j=>!(listed.setIfInBounds x true).getD j false)=L.filter fun j=>!listed.getD j false:=by
       refine List.filter_congr fun j hj=>?_
       rw [getD_set_ne false (by rintro rfl;exact hnd.1 hj)]
      rw [List.filter_cons,List.filter_cons,hsame,hself,hiu];simp
     ·have hm':i∈L:=by
       rcases List.mem_cons.1 hm with h|h
       ·exact (hx h.symm).elim
       ·exact h
      have:=ihL hnd.2 hm'
      rw [List.filter_cons,List.filter_cons,getD_set_ne false (Ne.symm hx)]
      split<;>(try simp only [List.length_cons])<;>omega
   have:=key (List.range k) List.nodup_range (List.mem_range.2 hik)
   omega
 have inv0:HeadInv .any l.toArray k (Array.replicate l.toArray.size false):=
  ⟨by simp,fun j oj _ hl=>(by rw [getD_replicate_false] at hl;cases hl),fun t _ ht=>getD_in (by simpa using ht) (getD_replicate_false _ _)⟩
 refine wp_region_any hm ?_
 have fin:=any k _ a w.drew inv0 (by
  have:((List.range k).filter fun i=>!(Array.replicate l.toArray.size false).getD i false)=List.range k:=by
   rw [List.filter_eq_self];intro i _;rw [getD_replicate_false];rfl
  rw [this];simp) ⟨T0,⟨by
   have e0:cntL ks k (Array.replicate l.toArray.size false)=0:=by
    unfold cntL
    have:((List.range k).filter fun j=>isS ks j&&(Array.replicate l.toArray.size false).getD j false)=[]:=by
     rw [List.filter_eq_nil_iff];intro j _;rw [getD_replicate_false];simp
    rw [this];rfl
   rw [e0,hJ.hd]
   exact hr.drew,fun i d V _ hl=>(by rw [getD_replicate_false] at hl;cases hl),fun _ _=>rfl⟩⟩
 rw [show k+(l.toArray.size-k)=l.toArray.size by omega] at fin
 exact fin
end
def gdepsF (fs:List GFact):List Edge→Option (List (Nat×AV))
 |[]=>some []
 |e::es=>match Region.binds .any e with
  |false=>gdepsF fs es
  |true=>match fs[e.on]? with
   |none=>gdepsF fs es
   |some none=>gdepsF fs es
   |some (some x)=>match gdepsF fs es with
    |some r=>some (x::r)
    |none=>none
theorem gdepsF_eq {fs:List GFact}:∀{es:List Edge} {F:List (Nat×AV)},gdepsF fs es=some F→(es.filterMap fun e=>if Region.binds .any e=true then (fs[e.on]?).join else none)=F
 |[],F,h=>by simp [gdepsF] at h;simpa using h
 |e::es,F,h=>by
  rw [gdepsF] at h
  rw [List.filterMap_cons]
  cases hb:Region.binds .any e with
  |false=>rw [hb] at h;simpa using gdepsF_eq h
  |true=>
   rw [hb] at h
   cases hx:fs[e.on]? with
   |none=>rw [hx] at h;simpa using gdepsF_eq h
   |some y=>
    cases y with
    |none=>rw [hx] at h;simpa using gdepsF_eq h
    |some x=>
     rw [hx] at h
     cases hr:gdepsF fs es with
     |none=>simp only [hr] at h;cases h
     |some r=>simp only [hr] at h;have:=gdepsF_eq hr;simp [this];simpa using h
def gcatF:List GFact→List (Nat×AV)→Option (List (Nat×AV))
 |[],B=>some B
 |none::A,B=>gcatF A B
 |some p::A,B=>match gcatF A B with
  |some r=>some (p::r)
  |none=>none
theorem gcatF_eq:∀{A:List GFact} {B C:List (Nat×AV)},gcatF A B=some C→factsG A++B=C
 |[],B,C,h=>by simp [gcatF] at h;simpa [factsG] using h
 |none::A,B,C,h=>by
  have h':gcatF A B=some C:=h
  have:=gcatF_eq h'
  exact this
 |some p::A,B,C,h=>by
  rw [gcatF] at h
  cases hr:gcatF A B with
  |none=>rw [hr] at h;cases h
  |some r=>rw [hr] at h;have:=gcatF_eq hr;subst this;cases h;rfl
section
variable {P:Program} {n m:Nat} {G:Ctx} {ops:Array Oper} {T0:List (Nat×AV)}
def mayStep (o:Oper):Bool:=match o.op with
 |.move _=>false
 |.assign _=>false
 |.binOp ..=>false
 |.unOp ..=>false
 |.load ..=>false
 |.fieldAddr ..=>false
 |.indexAddr ..=>false
 |.index ..=>false
 |.pick ..=>false
 |.extract ..=>false
 |.slice ..=>false
 |.nilCheck ..=>false
 |.build ..=>false
 |.call c=>match c.callee with
  |.builtin .len=>false
  |.builtin .min=>false
  |.builtin .max=>false
  |_=>true
 |_=>true
def tightB (ops:Array Oper) (f i:Nat):Bool:=(List.range ops.size).all fun j=>Nat.beq i j||match ops[j]? with
 |some o=>!mayStep o||(if Nat.blt j i then reach ops f i j else reach ops f j i)
 |none=>true
theorem HeadG.preF (p:Nat) {fs fs2 O o l out ks ds Os O' F d V Op} (hd:o.dst=some d) (hm:mayStep o=false) (hO:takeF p O=some Op) (hF:gdepsF fs o.after.toList=some F) (h:∀Tv Ov,WpL P n m G false ops [o] ⟨F++(T0++Tv),Op++Ov⟩ (Only ⟨(d,V)::(F++(T0++Tv)),Op++Ov⟩))
 (hs:catF fs [some (d,V)]=some fs2) (r:HeadG P n m G ops T0 fs2 O l out ks ds Os O'):HeadG P n m G ops T0 fs O (o::l) (some (d,V)::out) (0::ks) (some (Op.map some)::ds) Os O':=by
 have:=catF_eq hs;subst this
 exact .still (gdepsF_eq hF) (by decide) (.pre (Op.map some) hd fun Tv Ov hp=>by obtain ⟨R,rfl⟩:=hp.all;exact h Tv R) r
theorem HeadG.precF (p:Nat) {fs fs2 O o l out ks ds Os O' F d V Op} (hd:o.dst=some d) (hO:takeF p O=some Op) (hF:gdepsF fs o.after.toList=some F) (h:∀Tv Ov,WpL P n m G false ops [o] ⟨F++(T0++Tv),Op++Ov⟩ (Only ⟨(d,V)::(F++(T0++Tv)),Op++Ov⟩))
 (hs:catF fs [some (d,V)]=some fs2) (r:HeadG P n m G ops T0 fs2 O l out ks ds Os O'):HeadG P n m G ops T0 fs O (o::l) (some (d,V)::out) (0::ks) (some (Op.map some)::ds) Os O':=by
 have:=catF_eq hs;subst this
 exact .still (gdepsF_eq hF) (by decide) (.pre (Op.map some) hd fun Tv Ov hp=>by obtain ⟨R,rfl⟩:=hp.all;exact h Tv R) r
theorem HeadG.fixedF {fs fs2 O o l out ks ds Os O' F d V i} (hd:o.dst=some d) (hm:mayStep o=false) (hi:cnt fs.length 0=some i) (ht:tightB ops 4 i=true) (hF:gdepsF fs o.after.toList=some F) (h:∀Tv,WpL P n m G false ops [o] ⟨F++(T0++Tv),O⟩ (Only ⟨(d,V)::(F++(T0++Tv)),O⟩))
 (hs:catF fs [some (d,V)]=some fs2) (r:HeadG P n m G ops T0 fs2 O l out ks ds Os O'):HeadG P n m G ops T0 fs O (o::l) (some (d,V)::out) (1::ks) (none::ds) Os O':=by
 have:=catF_eq hs;subst this
 exact .still (gdepsF_eq hF) (by decide) (.fixed hd h) r
theorem HeadG.stepF {fs fs2 O O1 o l out ks ds Os O' F d V} (hd:o.dst=some d) (hm:mayStep o=true) (hF:gdepsF fs o.after.toList=some F) (h:∀Tv,WpL P n m G false ops [o] ⟨F++(T0++Tv),O⟩ (Only ⟨(d,V)::(F++(T0++Tv)),O1⟩))
 (hs:catF fs [some (d,V)]=some fs2) (r:HeadG P n m G ops T0 fs2 O1 l out ks ds Os O'):HeadG P n m G ops T0 fs O (o::l) (some (d,V)::out) (2::ks) (none::ds) (O::Os) O':=by
 have:=catF_eq hs;subst this
 exact .step (gdepsF_eq hF) (.step hd h) r
theorem HeadG.stepNF {fs fs2 O O1 o l out ks ds Os O' F} (hd:o.dst=none) (hF:gdepsF fs o.after.toList=some F) (h:∀Tv,WpL P n m G false ops [o] ⟨F++(T0++Tv),O⟩ (Only ⟨F++(T0++Tv),O1⟩))
 (hs:catF fs [none]=some fs2) (r:HeadG P n m G ops T0 fs2 O1 l out ks ds Os O'):HeadG P n m G ops T0 fs O (o::l) (none::out) (2::ks) (none::ds) (O::Os) O':=by
 have:=catF_eq hs;subst this
 exact .step (gdepsF_eq hF) (.stepN hd h) r
theorem Pat.un {ps:List (Option AObj)} {A:List AObj} (h:Pat (none::ps) A):∃x R,A=x::R∧Pat ps R:=by
 cases h with|any r=>exact ⟨_,_,rfl,r⟩
theorem Pat.un1 {ob:AObj} {ps:List (Option AObj)} {A:List AObj} (h:Pat (some ob::ps) A):∃R,A=ob::R:=by
 cases h with|one r=>exact ⟨_,rfl⟩
theorem HeadG.hole0 {fs fs2 O o l out ks ds Os O' F d V ob} (hd:o.dst=some d) (hm:mayStep o=false) (hO:O[0]?=some ob) (hF:gdepsF fs o.after.toList=some F) (h:∀Tv R,WpL P n m G false ops [o] ⟨F++(T0++Tv),ob::R⟩ (Only ⟨(d,V)::(F++(T0++Tv)),ob::R⟩))
 (hs:catF fs [some (d,V)]=some fs2) (r:HeadG P n m G ops T0 fs2 O l out ks ds Os O'):HeadG P n m G ops T0 fs O (o::l) (some (d,V)::out) (0::ks) (some [some ob]::ds) Os O':=by
 have:=catF_eq hs;subst this
 refine .still (gdepsF_eq hF) (by decide) (.pre [some ob] hd fun Tv Ov hp=>?_) r
 obtain ⟨R,rfl⟩:=hp.un1
 exact h Tv R
theorem HeadG.hole1 {fs fs2 O o l out ks ds Os O' F d V ob} (hd:o.dst=some d) (hm:mayStep o=false) (hO:O[1]?=some ob) (hF:gdepsF fs o.after.toList=some F) (h:∀Tv x0 R,WpL P n m G false ops [o] ⟨F++(T0++Tv),x0::ob::R⟩ (Only ⟨(d,V)::(F++(T0++Tv)),x0::ob::R⟩))
 (hs:catF fs [some (d,V)]=some fs2) (r:HeadG P n m G ops T0 fs2 O l out ks ds Os O'):HeadG P n m G ops T0 fs O (o::l) (some (d,V)::out) (0::ks) (some [none,some ob]::ds) Os O':=by
 have:=catF_eq hs;subst this
 refine .still (gdepsF_eq hF) (by decide) (.pre [none,some ob] hd fun Tv Ov hp=>?_) r
 obtain ⟨x0,R0,rfl,hp0⟩:=hp.un
 obtain ⟨R,rfl⟩:=hp0.un1
 exact h Tv x0 R
theorem HeadG.hole4 {fs fs2 O o l out ks ds Os O' F d V ob} (hd:o.dst=some d) (hm:mayStep o=false) (hO:O[4]?=some ob) (hF:gdepsF fs o.after.toList=some F) (h:∀Tv x0 x1 x2 x3 R,WpL P n m G false ops [o] ⟨F++(T0++Tv),x0::x1::x2::x3::ob::R⟩ (Only ⟨(d,V)::(F++(T0++Tv)),x0::x1::x2::x3::ob::R⟩))
 (hs:catF fs [some (d,V)]=some fs2) (r:HeadG P n m G ops T0 fs2 O l out ks ds Os O'):HeadG P n m G ops T0 fs O (o::l) (some (d,V)::out) (0::ks) (some [none,none,none,none,some ob]::ds) Os O':=by
 have:=catF_eq hs;subst this
 refine .still (gdepsF_eq hF) (by decide) (.pre [none,none,none,none,some ob] hd fun Tv Ov hp=>?_) r
 obtain ⟨x0,R0,rfl,hp0⟩:=hp.un
 obtain ⟨x1,R1,rfl,hp1⟩:=hp0.un
 obtain ⟨x2,R2,rfl,hp2⟩:=hp1.un
 obtain ⟨x3,R3,rfl,hp3⟩:=hp2.un
 obtain ⟨R,rfl⟩:=hp3.un1
 exact h Tv x0 x1 x2 x3 R
theorem HeadG.hole5 {fs fs2 O o l out ks ds Os O' F d V ob} (hd:o.dst=some d) (hm:mayStep o=false) (hO:O[5]?=some ob) (hF:gdepsF fs o.after.toList=some F) (h:∀Tv x0 x1 x2 x3 x4 R,WpL P n m G false ops [o] ⟨F++(T0++Tv),x0::x1::x2::x3::x4::ob::R⟩ (Only ⟨(d,V)::(F++(T0++Tv)),x0::x1::x2::x3::x4::ob::R⟩))
 (hs:catF fs [some (d,V)]=some fs2) (r:HeadG P n m G ops T0 fs2 O l out ks ds Os O'):HeadG P n m G ops T0 fs O (o::l) (some (d,V)::out) (0::ks) (some [none,none,none,none,none,some ob]::ds) Os O':=by
 have:=catF_eq hs;subst this
 refine .still (gdepsF_eq hF) (by decide) (.pre [none,none,none,none,none,some ob] hd fun Tv Ov hp=>?_) r
 obtain ⟨x0,R0,rfl,hp0⟩:=hp.un
 obtain ⟨x1,R1,rfl,hp1⟩:=hp0.un
 obtain ⟨x2,R2,rfl,hp2⟩:=hp1.un
 obtain ⟨x3,R3,rfl,hp3⟩:=hp2.un
 obtain ⟨x4,R4,rfl,hp4⟩:=hp3.un
 obtain ⟨R,rfl⟩:=hp4.un1
 exact h Tv x0 x1 x2 x3 x4 R
theorem HeadG.hole6 {fs fs2 O o l out ks ds Os O' F d V ob} (hd:o.dst=some d) (hm:mayStep o=false) (hO:O[6]?=some ob) (hF:gdepsF fs o.after.toList=some F) (h:∀Tv x0 x1 x2 x3 x4 x5 R,WpL P n m G false ops [o] ⟨F++(T0++Tv),x0::x1::x2::x3::x4::x5::ob::R⟩ (Only ⟨(d,V)::(F++(T0++Tv)),x0::x1::x2::x3::x4::x5::ob::R⟩))
 (hs:catF fs [some (d,V)]=some fs2) (r:HeadG P n m G ops T0 fs2 O l out ks ds Os O'):HeadG P n m G ops T0 fs O (o::l) (some (d,V)::out) (0::ks) (some [none,none,none,none,none,none,some ob]::ds) Os O':=by
 have:=catF_eq hs;subst this
 refine .still (gdepsF_eq hF) (by decide) (.pre [none,none,none,none,none,none,some ob] hd fun Tv Ov hp=>?_) r
 obtain ⟨x0,R0,rfl,hp0⟩:=hp.un
 obtain ⟨x1,R1,rfl,hp1⟩:=hp0.un
 obtain ⟨x2,R2,rfl,hp2⟩:=hp1.un
 obtain ⟨x3,R3,rfl,hp3⟩:=hp2.un
 obtain ⟨x4,R4,rfl,hp4⟩:=hp3.un
 obtain ⟨x5,R5,rfl,hp5⟩:=hp4.un
 obtain ⟨R,rfl⟩:=hp5.un1
 exact h Tv x0 x1 x2 x3 x4 x5 R
theorem HeadG.hole7 {fs fs2 O o l out ks ds Os O' F d V ob} (hd:o.dst=some d) (hm:mayStep o=false) (hO:O[7]?=some ob) (hF:gdepsF fs o.after.toList=some F) (h:∀Tv x0 x1 x2 x3 x4 x5 x6 R,WpL P n m G false ops [o] ⟨F++(T0++Tv),x0::x1::x2::x3::x4::x5::x6::ob::R⟩ (Only ⟨(d,V)::(F++(T0++Tv)),x0::x1::x2::x3::x4::x5::x6::ob::R⟩))
 (hs:catF fs [some (d,V)]=some fs2) (r:HeadG P n m G ops T0 fs2 O l out ks ds Os O'):HeadG P n m G ops T0 fs O (o::l) (some (d,V)::out) (0::ks) (some [none,none,none,none,none,none,none,some ob]::ds) Os O':=by
 have:=catF_eq hs;subst this
 refine .still (gdepsF_eq hF) (by decide) (.pre [none,none,none,none,none,none,none,some ob] hd fun Tv Ov hp=>?_) r
 obtain ⟨x0,R0,rfl,hp0⟩:=hp.un
 obtain ⟨x1,R1,rfl,hp1⟩:=hp0.un
 obtain ⟨x2,R2,rfl,hp2⟩:=hp1.un
 obtain ⟨x3,R3,rfl,hp3⟩:=hp2.un
 obtain ⟨x4,R4,rfl,hp4⟩:=hp3.un
 obtain ⟨x5,R5,rfl,hp5⟩:=hp4.un
 obtain ⟨x6,R6,rfl,hp6⟩:=hp5.un
 obtain ⟨R,rfl⟩:=hp6.un1
 exact h Tv x0 x1 x2 x3 x4 x5 x6 R
inductive PreL (Op:List (Option AObj)):List (List AObj)→Prop
 |nil:PreL Op []
 |cons {A Os} (h:Pat Op A) (r:PreL Op Os):PreL Op (A::Os)
theorem PreL.at {Op:List (Option AObj)} {Os:List (List AObj)} (h:PreL Op Os):∀{q:Nat} {A:List AObj},Os[q]?=some A→Pat Op A:=by
 induction h with
 |nil=>intro q A h;simp at h
 |cons h r ih=>
  intro q A hA
  cases q with
  |zero=>simp only [List.getElem?_cons_zero,Option.some.injEq] at hA;subst hA;exact h
  |succ q=>exact ih (by simpa using hA)
inductive DemAll (ops:Array Oper) (ks:List Nat) (k f:Nat) (Os:List (List AObj)):Nat→List (Option (List (Option AObj)))→Prop
 |nil {i}:DemAll ops ks k f Os i []
 |skip {i ds} (r:DemAll ops ks k f Os (i+1) ds):DemAll ops ks k f Os i (none::ds)
 |zero {i ds} (r:DemAll ops ks k f Os (i+1) ds):DemAll ops ks k f Os i (some []::ds)
 |all {i ds Op} (h:PreL Op Os) (r:DemAll ops ks k f Os (i+1) ds):DemAll ops ks k f Os i (some Op::ds)
 |past {i ds Op c Os'} (hc:cnt (lo ops ks k f i) 0=some c) (hO:Os.drop c=Os') (h:PreL Op Os') (r:DemAll ops ks k f Os (i+1) ds):DemAll ops ks k f Os i (some Op::ds)
 |betw {i ds Op c c2 Os'} (hc:cnt (lo ops ks k f i) 0=some c) (hc2:cnt (hiS ops ks k f i) 0=some c2) (hO:(Os.take (c2+1)).drop c=Os') (h:PreL Op Os') (r:DemAll ops ks k f Os (i+1) ds):DemAll ops ks k f Os i (some Op::ds)
theorem DemAll.at {ks:List Nat} {k f:Nat} {Os:List (List AObj)} {i ds} (h:DemAll ops ks k f Os i ds):∀{j Op},ds[j]?=some (some Op)→∀q A,lo ops ks k f (i+j)≤q→q≤hiS ops ks k f (i+j)→Os[q]?=some A→Pat Op A:=by
 induction h with
 |nil=>intro j Op h;simp at h
 |@skip i ds r ih=>
  intro j Op h q A hq hq2 hA
  cases j with
  |zero=>simp at h
  |succ j=>exact ih (by simpa using h) q A (by rw [show i+1+j=i+(j+1) by omega];exact hq) (by rw [show i+1+j=i+(j+1) by omega];exact hq2) hA
 |@zero i ds r ih=>
  intro j Op h q A hq hq2 hA
  cases j with
  |zero=>simp only [List.getElem?_cons_zero,Option.some.injEq] at h;subst h;exact .nil
  |succ j=>exact ih (by simpa using h) q A (by rw [show i+1+j=i+(j+1) by omega];exact hq) (by rw [show i+1+j=i+(j+1) by omega];exact hq2) hA
 |@all i ds Op' hp r ih=>
  intro j Op h q A hq hq2 hA
  cases j with
  |zero=>simp only [List.getElem?_cons_zero,Option.some.injEq] at h;subst h;exact hp.at hA
  |succ j=>exact ih (by simpa using h) q A (by rw [show i+1+j=i+(j+1) by omega];exact hq) (by rw [show i+1+j=i+(j+1) by omega];exact hq2) hA
 |@past i ds Op' c Os' hc hO hp r ih=>
  intro j Op h q A hq hq2 hA
  cases j with
  |zero=>
   simp only [List.getElem?_cons_zero,Option.some.injEq] at h;subst h
   have hc:=cnt_eq hc
   rw [Nat.add_zero] at hc hq
   refine hp.at (q:=q-c) ?_
   rw [←hO,List.getElem?_drop,show c+(q-c)=q by omega];exact hA
  |succ j=>exact ih (by simpa using h) q A (by rw [show i+1+j=i+(j+1) by omega];exact hq) (by rw [show i+1+j=i+(j+1) by omega];exact hq2) hA
 |@betw i ds Op' c c2 Os' hc hc2 hO hp r ih=>
  intro j Op h q A hq hq2 hA
  cases j with
  |zero=>
   simp only [List.getElem?_cons_zero,Option.some.injEq] at h;subst h
   have hc:=cnt_eq hc
   have hc2:=cnt_eq hc2
   rw [Nat.add_zero] at hc hq hc2 hq2
   refine hp.at (q:=q-c) ?_
   rw [←hO,List.getElem?_drop,show c+(q-c)=q by omega,List.getElem?_take,if_pos (by omega)];exact hA
  |succ j=>exact ih (by simpa using h) q A (by rw [show i+1+j=i+(j+1) by omega];exact hq) (by rw [show i+1+j=i+(j+1) by omega];exact hq2) hA
theorem WpA.regionGB {l l1 l2:List Oper} {id:Nat} {O O':List AObj} {out:List GFact} {ks:List Nat} {ds:List (Option (List (Option AObj)))} {Os:List (List AObj)} {T1:List (Nat×AV)} {Q:Exit→St→Prop} (k:Nat) (hm:P.follows .mixedOrders=true)
 (hB0:(mixB l.toArray k&&bare l.toArray k)=true) (hl:takeF k l=some l1) (hJ:HeadG P n m G l.toArray T0 [] O l1 out ks ds Os O') (hB:TrueB (backB l.toArray&&ordB l.toArray ks 4)) (hnd:TrueB (nodupB ((factsG out).map (·.1)))) (hfr:TrueB ((factsG out).all fun p=>!has T0 p.1))
 (hD:DemAll l.toArray ks k 4 Os 0 ds) (hT1:gcatF out T0=some T1) (h2:l.drop k=l2) (h:WpL P n m G false l.toArray l2 ⟨T1,O'⟩ Q):WpA P n m G (.region id l.toArray true) ⟨T0,O⟩ Q:=by
 have:=takeF_eq hl;subst this;subst h2
 exact WpA.regionG 4 k hm (by rw [Bool.and_eq_true] at hB0;exact hB0.1) hJ hB.e hnd.e hfr.e (fun i Op hi q A hq hq2 hA=>hD.at hi q A (by rw [Nat.zero_add];exact hq) (by rw [Nat.zero_add];exact hq2) hA) (gcatF_eq hT1) h
def noDyn (o:Oper):Bool:=match o.op with
 |.call c=>match c.callee with
  |.value (.tmp _)=>false
  |_=>true
 |_=>true
def dstB (ops:Array Oper) (k:Nat):Bool:=(List.range k).all fun i=>match ops[i]? with|some o=>o.dst.isSome&&noApp o&&noDyn o|none=>true
theorem WpA.regionTB {σ:St} {id:Nat} {l:List Oper} {Q:Exit→St→Prop} (k:Nat) (hm:P.follows .mixedOrders=true) (hB:(Region.lexTailB .any l.toArray k&&dstB l.toArray k)=true)
 (h:WpL P n m G true l.toArray (l.take k) σ (Seq (fun σ'=>WpL P n m G false l.toArray (l.drop k) σ' Q) Q)):WpA P n m G (.region id l.toArray true) σ Q:=
 WpA.regionT k hm (by rw [Bool.and_eq_true] at hB;exact hB.1) h
end
end Go.Abs
namespace Go.Abs.K
theorem DA {ops:Array Go.Oper} {ks:List Nat} {k f:Nat} {Os:List (List AObj)} {i:Nat} {ds:List (Option (List (Option AObj)))} (h:DemAll ops ks k f Os i ds):DemAll ops ks k f Os i ds:=h
end Go.Abs.K


namespace Go.Abs
open Go
section
variable {P:Program} {n m:Nat} {G:Ctx} {T:List (Nat×AV)} {O:List AObj} {Q:Exit→St→Prop} {ops:Array Oper} {l:List Oper} {d:Nat} {tt:TypeId} {pos:String} {after:Array Edge} {tab:List (Nat×Ty)}
theorem WpL.makeFunc {f:FuncId} {xs:List Operand} {cs:List AV} (hcs:xs.map (av T)=cs) (hn:d<n) (h:WpL P n m G false ops l ⟨(d,.fn f cs)::T,O⟩ Q):
 WpL P n m G false ops ({dst:=some d,op:=.makeFunc (.func f) #[] xs.toArray,type:=tt,pos:=pos,after:=after,guard:=none}::l) ⟨T,O⟩ Q:=
 WpL.value rfl (fun a w hr=>by
  subst hcs
  obtain ⟨S,ι,F,hr⟩:=hr
  refine ⟨.func (.func f) #[] (xs.map a.eval).toArray,w,?_,S,ι,F,hr.put hn (.fn (hr.evals xs) .nil)⟩
  simp [execOp,Instr.makeFunc,Sem.run_bind,Sem.run,Result.andThen_ok]) h
theorem WpL.callV0 {f:FuncId} {x:Operand} {caps:List AV} {xs:List Operand} {ats:Array TypeId} {As Vs:List AV} {r r':AV} (hx:av T x=.fn f caps) (hc:FnC P f As [] r) (hcat:catF (xs.map (av T)) caps=some Vs) (hs:Snap O Vs As) (hloc:Loc [r])
 (hok:r.flat=true) (hre:r.force=some r') (hn:d<n) (h:WpL P n m G false ops l ⟨(d,r')::T,O⟩ Q):
 WpL P n m G false ops ({dst:=some d,op:=.call {callee:=.value x,args:=xs.toArray,argTypes:=ats},type:=tt,pos:=pos,after:=after,guard:=none}::l) ⟨T,O⟩ Q:=by
 have:=catF_eq hcat;subst this
 have hsh:=AV.flat_sh O.length r hok
 refine WpL.callV hx hc hs hloc .nil (id:=O.length) (by rw [nid_len];simp) hsh.1 (by rw [hsh.2];exact hre) hn ?_
 rw [List.append_nil];exact h
theorem WpL.callVF {f:FuncId} {x:Operand} {caps:List AV} {xs:List Operand} {ats:Array TypeId} {As Vs:List AV} {N:List AObj} {r r':AV} {id:Nat} (hx:av T x=.fn f caps) (hc:FnC P f As N r) (hcat:catF (xs.map (av T)) caps=some Vs) (hs:Snap O Vs As) (hloc:Loc [r]) (hN:Out N)
 (hid:cnt O.length 0=some id) (hok:r.shOk=true) (hre:r.shF id=some r') (hn:d<n) (h:WpL P n m G false ops l ⟨(d,r')::T,O++N⟩ Q):
 WpL P n m G false ops ({dst:=some d,op:=.call {callee:=.value x,args:=xs.toArray,argTypes:=ats},type:=tt,pos:=pos,after:=after,guard:=none}::l) ⟨T,O⟩ Q:=by
 have:=catF_eq hcat;subst this
 have e:id=O.length:=by have:=cnt_eq hid;omega
 subst e
 exact WpL.callV hx hc hs hloc hN (id:=O.length) (by rw [nid_len,Nat.zero_add]) hok (by rw [AV.shF_eq _ _ _ hre];exact AV.force_some _) hn h
end
inductive NestC (m id:Nat):List Nat→List AObj→List AObj→Prop
 |nil {O}:NestC m id [] O O
 |cons {off offs O O1 O2 j epj len ob oj} (ho:O[id]?=some ob) (hc:ob.cells[off]?=some (.own j epj 0 len)) (hj:O[j]?=some oj) (hne:Nat.beq id j=false) (hm:m≤j) (hep:oj.ep=epj) (hst:oj.cells.all AV.still=true)
   (hlen:len*oj.size=oj.cells.length) (h1:flatO ((O.set id ⟨ob.cells.set off (.fre oj.size len oj.cells),ob.ep,ob.size,ob.ty⟩).set j ⟨[],oj.ep+1,0,none⟩)=some O1) (r:NestC m id offs O1 O2):NestC m id (off::offs) O O2
theorem NestC.weak {m id:Nat} {offs:List Nat} {O O2:List AObj} (h:NestC m id offs O O2) {T:List (Nat×AV)}:Weak m ⟨T,O⟩ ⟨T,O2⟩:=by
 induction h with
 |nil=>exact fun n G a w h=>h
 |cons ho hc hj hne hm hep hst hlen h1 _ ih=>
  have:=flatO_eq h1;subst this
  exact (Weak.nest ho hj hne hm hc hep hst hlen).trans ih
def toLis:List AV→Option (List (List Int))
 |[]=>some []
 |.fre 1 len cs::r=>match toInts cs with
  |none=>none
  |some v=>match Nat.beq len v.length with
   |false=>none
   |true=>match toLis r with
    |none=>none
    |some rs=>some (v::rs)
 |_=>none
theorem toLis_eq:∀{cs:List AV} {M:List (List Int)},toLis cs=some M→cs=rows liF M
 |[],M,h=>by simp [toLis] at h;subst h;rfl
 |.fre 1 len cs::r,M,h=>by
  rw [toLis] at h
  cases hv:toInts cs with
  |none=>rw [hv] at h;cases h
  |some v=>
   rw [hv] at h
   cases hb:Nat.beq len v.length with
   |false=>simp only [hb] at h;cases h
   |true=>
    simp only [hb] at h
    cases hr:toLis r with
    |none=>simp only [hr] at h;cases h
    |some rs=>
     simp only [hr] at h
     cases h
     have e1:=toInts_eq hv
     have e2:=Nat.eq_of_beq_eq_true hb
     subst e1 e2
     rw [toLis_eq hr,rows_cons];rfl
 |.fre 0 _ _::_,_,h=>by simp [toLis] at h
 |.fre (_+2) _ _::_,_,h=>by simp [toLis] at h
 |.any::_,_,h=>by simp [toLis] at h
 |.sc _::_,_,h=>by simp [toLis] at h
 |.agg _::_,_,h=>by simp [toLis] at h
 |.tup _::_,_,h=>by simp [toLis] at h
 |.nilS::_,_,h=>by simp [toLis] at h
 |.imm _ _ _::_,_,h=>by simp [toLis] at h
 |.own _ _ _ _::_,_,h=>by simp [toLis] at h
 |.ptr _ _ _::_,_,h=>by simp [toLis] at h
 |.iptr _ _::_,_,h=>by simp [toLis] at h
 |.fn _ _::_,_,h=>by simp [toLis] at h
 |.ifc _ _::_,_,h=>by simp [toLis] at h
section
variable {P:Program} {n m:Nat} {G:Ctx} {T:List (Nat×AV)} {O:List AObj} {Q:Exit→St→Prop} {ops:Array Oper} {l:List Oper} {d:Nat} {tt:TypeId} {pos:String} {after:Array Edge} {tab:List (Nat×Ty)}
theorem WpL.litLis (hP:TabOk P tab) {t e b len id:Nat} {zs cs cs2:List AV} {parts:List (Nat×Operand)} {offs:List Nat} {O2:List AObj} {M:List (List Int)} (ht:tlook tab t=some (.slice e 1 b zs)) (hidx:parts.map (·.1)=List.range' 0 parts.length) (hlen:parts.length=len)
 (hlit:litC T O 1 (parts.map (·.2))=some cs) (hsm:len*1≤16777216) (hid:nid O 0=some id) (hoffs:parts.map (·.1)=offs) (hO:toInts cs=none) (hn:d<n) (hw:NestC m id offs (O++[⟨cs,0,1,some e⟩]) O2) (h2:O2[id]?=some ⟨cs2,0,1,some e⟩) (hM:toLis cs2=some M)
 (h:WpL P n m G false ops l ⟨(d,.own id 0 0 len)::T,O2.set id ⟨rows liF M,0,1,some e⟩⟩ Q):
 WpL P n m G false ops ({dst:=some d,op:=.buildSlice t len parts.toArray,type:=tt,pos:=pos,after:=after,guard:=none}::l) ⟨T,O⟩ Q:=by
 refine WpL.litF hP ht hidx hlen hlit hsm hid hn (WpL.weak hw.weak ?_)
 have e1:=toLis_eq hM
 have e2:O2.set id ⟨rows liF M,0,1,some e⟩=O2:=by
  rw [←e1]
  apply List.ext_getElem?
  intro i
  by_cases hi:i=id
  ·subst hi;rw [List.getElem?_set_self (List.getElem?_eq_some_iff.1 h2).1,h2]
  ·rw [List.getElem?_set_ne (by omega)]
 rw [e2] at h;exact h
end
end Go.Abs
namespace Go.Abs.K
open Go Go.Abs
variable {P:Program} {n m:Nat} {G:Ctx} {σ:St} {Q:Exit→St→Prop} {md:Bool} {ops:Array Oper} {l:List Oper} {dd:Option Nat} {tt:TypeId} {pos:String} {after:Array Edge}
theorem callT {t:Nat} {xs:Array Operand} {ats:Array TypeId} (h:WpL P n m G md ops ({dst:=dd,op:=.call {callee:=.value (.tmp t),args:=xs,argTypes:=ats},type:=tt,pos:=pos,after:=after,guard:=none}::l) σ Q):WpL P n m G md ops ({dst:=dd,op:=.call {callee:=.value (.tmp t),args:=xs,argTypes:=ats},type:=tt,pos:=pos,after:=after,guard:=none}::l) σ Q:=h
theorem mkF {f:FuncId} {xs ys:Array Operand} (h:WpL P n m G md ops ({dst:=dd,op:=.makeFunc (.func f) xs ys,type:=tt,pos:=pos,after:=after,guard:=none}::l) σ Q):WpL P n m G md ops ({dst:=dd,op:=.makeFunc (.func f) xs ys,type:=tt,pos:=pos,after:=after,guard:=none}::l) σ Q:=h
end Go.Abs.K


namespace Go.Abs
open Go
def wrC:List AV→Nat→List AV→Option (List AV)
 |[],_,[]=>some []
 |[],_,_::_=>none
 |z::zs,0,[]=>some (z::zs)
 |z::zs,0,d::ds=>match wrC zs 0 ds with
  |none=>none
  |some r=>some (d::r)
 |z::zs,off+1,ds=>match wrC zs off ds with
  |none=>none
  |some r=>some (z::r)
theorem wrC_eq:∀{zs:List AV} {off:Nat} {ds r:List AV},wrC zs off ds=some r→r=zs.take off++ds++zs.drop (off+ds.length)
 |[],off,[],r,h=>by simp [wrC] at h;subst h;simp
 |[],_,_::_,r,h=>by simp [wrC] at h
 |z::zs,0,[],r,h=>by simp [wrC] at h;subst h;simp
 |z::zs,0,d::ds,r,h=>by
  rw [wrC] at h
  cases hr:wrC zs 0 ds with
  |none=>rw [hr] at h;cases h
  |some r'=>
   rw [hr] at h;cases h
   have:=wrC_eq hr;subst this
   simp [Nat.add_comm]
 |z::zs,off+1,ds,r,h=>by
  rw [wrC] at h
  cases hr:wrC zs off ds with
  |none=>rw [hr] at h;cases h
  |some r'=>
   rw [hr] at h;cases h
   have:=wrC_eq hr;subst this
   simp [Nat.add_right_comm]
def bldC (T:List (Nat×AV)) (O:List AObj) (offs:List Nat):List AV→List (Nat×Operand)→Option (List AV×List (Nat×Nat×Nat))
 |zs,[]=>some (zs,[])
 |zs,(i,x)::r=>match offs[i]? with
  |none=>none
  |some off=>match (av T x).force with
   |none=>none
   |some V=>match cellsV O V with
    |none=>none
    |some ds=>match Nat.ble (off+ds.length) zs.length with
     |false=>none
     |true=>match wrC zs off ds with
      |none=>none
      |some zs'=>match bldC T O offs zs' r with
       |none=>none
       |some (cs,q)=>some (cs,(i,off,ds.length)::q)
def buildB (P:Program) (t:TypeId) (q:List (Nat×Nat×Nat)):Bool:=match P.underlying t with
 |some (.struct fs)=>match fs.toList.mapM (fun f=>(P.info? f.type).map fun i=>(f.offset,i.size)) with
  |some places=>q.all fun r=>match places[r.1]? with|some p=>Nat.beq p.1 r.2.1&&Nat.beq p.2 r.2.2|none=>false
  |none=>false
 |_=>false
theorem lrel_nil_of {S:Nat→Prop} {w:World} {ι:Nat→Spot} {O:List AObj} {cs vs g} (h:LRel S w ι O cs vs g) (hg:∀b∈g,b∈([]:List Nat)):LRel S w ι O cs vs []:=by
 have:g=[]:=List.eq_nil_iff_forall_not_mem.2 fun b hb=>by cases hg b hb
 subst this;exact h
theorem bldC_rel {n m G S ι F T O a w} (hr:RelAt n m G S ι F ⟨T,O⟩ a w) {offs:List Nat} (places:Nat→Option (Nat×Nat)):∀{parts:List (Nat×Operand)} {zs cs:List AV} {q:List (Nat×Nat×Nat)} {us:Array Value},bldC T O offs zs parts=some (cs,q)→(∀ r∈q,places r.1=some r.2)→
 LRel S w ι O zs us.toList []→∃out:Array Value,Instr.fill places us (parts.map fun p=>(p.1,a.eval p.2))=some out∧LRel S w ι O cs out.toList []
 |[],zs,cs,q,us,h,hq,hl=>by
  simp only [bldC,Option.some.injEq,Prod.mk.injEq] at h
  obtain ⟨rfl,rfl⟩:=h
  exact ⟨us,rfl,hl⟩
 |(i,x)::parts,zs,cs,q,us,h,hq,hl=>by
  simp only [bldC] at h
  split at h
  ·cases h
  rename_i off hoff
  split at h
  ·cases h
  rename_i V hV
  split at h
  ·cases h
  rename_i ds hds
  split at h
  ·cases h
  rename_i hble
  split at h
  ·cases h
  rename_i zs' hzs
  split at h
  ·cases h
  rename_i cs' q' hrest
  cases h
  have hp:=hq (i,off,ds.length) (by simp)
  have hv:=hr.eval x
  rw [show av (St.mk T O).T x=V from AV.force_eq hV] at hv
  have hc:=cellsV_rel hv hds
  have hlen:=hc.len
  have hzl:zs.length=us.size:=by simpa using hl.len
  have hle:=Nat.le_of_ble_eq_true hble
  have e:=wrC_eq hzs
  have hsz:(a.eval x).cells.size=ds.length:=by rw [hlen];simp
  have hf:=fold_set (a.eval x).cells.toList 0 off us (by rw [←hlen];omega)
  obtain ⟨g1,t1,k1,_⟩:=hl.take off
  obtain ⟨g2,t2,k2,_⟩:=hl.drop (off+ds.length)
  have l1:=lrel_nil_of t1 k1
  have l2:=lrel_nil_of t2 k2
  have hnew:LRel S w ι O zs' ((((a.eval x).cells.toList.zipIdx 0).foldl (fun cs (c,q)=>cs.setIfInBounds (off+q) c) us).toList) []:=by
   rw [hf,e,←hlen]
   simpa using (l1.append hc).append l2
  have hz:(a.eval x).cells.zipIdx.foldl (fun cs (c,q)=>cs.setIfInBounds (off+q) c) us=((a.eval x).cells.toList.zipIdx 0).foldl (fun cs (c,q)=>cs.setIfInBounds (off+q) c) us:=by
   rw [←Array.foldl_toList,Array.toList_zipIdx]
  rw [←hz] at hnew
  obtain ⟨out,ho,hlo⟩:=bldC_rel hr places hrest (fun r hr=>hq r (by simp [hr])) hnew
  refine ⟨out,?_,hlo⟩
  simp only [List.map_cons]
  rw [Instr.fill,hp]
  have hng:¬(off+ds.length>us.size):=by omega
  simp only [hsz,ne_eq,not_true_eq_false,decide_false,hng,Bool.or_false,Bool.false_eq_true,if_false]
  exact ho
section
variable {P:Program} {n m:Nat} {md:Bool} {G:Ctx} {T:List (Nat×AV)} {O:List AObj} {Q:Exit→St→Prop} {ops:Array Oper} {l:List Oper} {d:Nat} {tt:TypeId} {pos:String} {after:Array Edge} {tab:List (Nat×Ty)}
theorem WpL.build (hP:TabOk P tab) {t k:Nat} {offs:List Nat} {zs cs:List AV} {parts:List (Nat×Operand)} {q:List (Nat×Nat×Nat)} (ht:tlook tab t=some (.struct offs k zs)) (hc:bldC T O offs zs parts=some (cs,q)) (hb:buildB P t q=true) (hn:d<n)
 (h:WpL P n m G md ops l ⟨(d,.agg cs)::T,O⟩ Q):
 WpL P n m G md ops ({dst:=some d,op:=.build t parts.toArray,type:=tt,pos:=pos,after:=after,guard:=none}::l) ⟨T,O⟩ Q:=
 WpL.pure rfl rfl hn (fun S ι F a w hr=>by
  obtain ⟨fs,hu,⟨z,hz,hzk,hzs⟩,_⟩:=hP.ty ht
  unfold buildB at hb
  rw [hu] at hb
  simp only at hb
  split at hb
  ·rename_i places hpl
   have hq:∀r∈q,(fun i=>places.toArray[i]?) r.1=some r.2:=by
    intro r hr
    have:=List.all_eq_true.1 hb r hr
    show places.toArray[r.1]?=some r.2
    simp only [List.getElem?_toArray]
    split at this
    ·rename_i p hp
     simp only [Bool.and_eq_true] at this
     rw [hp];exact congrArg some (Prod.ext (Nat.eq_of_beq_eq_true this.1) (Nat.eq_of_beq_eq_true this.2))
    ·cases this
   have hl0:LRel S w ι O zs z.cells.toList []:=by rw [hzs];exact lrel_zav _
   obtain ⟨out,ho,hl⟩:=bldC_rel hr _ hc hq hl0
   refine ⟨.agg out,?_,?_⟩
   ·have hbt:P.built t ((parts.toArray.map fun (i,x)=>(i,a.eval x)).toList)=some out:=by
     unfold Program.built
     cases hit:P.info? t with
     |none=>rw [hit] at hz;simp at hz
     |some it=>
      rw [hit] at hz
      simp only [Option.map_some,Option.some.injEq,Prod.mk.injEq] at hz
      simp only [hu,hz.1,hpl]
      rw [Array.toList_map];exact ho
    have hrun:=run_build w t (parts.toArray.map fun (i,x)=>(i,a.eval x)) out hbt
    simp only [execOp,Sem.run_bind]
    simp at hrun ⊢
    rw [hrun];rfl
   ·have:=LRel.agg (us:=out.toList) hl .nil
    simpa using this
  ·cases hb) h
theorem WpL.loadLi (hP:TabOk P tab) {t:TypeId} {x:Operand} {ty:Ty} {off:Nat} {M:List (List Int)} (ht:tlook tab t=some ty) (hp:ty.plain=true) (hm:Abs.reg O (av T x)=some (rows liI M,off)) (hi:off<M.length) (hn:d<n)
 (h:WpL P n m G false ops l ⟨(d,.imm 1 (M.getD off default).length (ints (M.getD off default)))::T,O⟩ Q):
 WpL P n m G false ops ({dst:=some d,op:=.load t x,type:=tt,pos:=pos,after:=after,guard:=none}::l) ⟨T,O⟩ Q:=by
 have hg:=rows_get (f:=liI) (k:=1) (o:=0) (V:=.imm 1 (M.getD off default).length (ints (M.getD off default))) (fun _=>rfl) hi rfl
 rw [show off*1+0=off by omega] at hg
 exact WpL.load1 hP ht hp hm hg rfl hn h
theorem WpL.loadSlot (hP:TabOk P tab) {t:TypeId} {x:Operand} {ty:Ty} {id ep off i sz:Nat} {te:Option TypeId} {cs:List AV} {V:AV} (ht:tlook tab t=some ty) (hp:ty.plain=true) (hx:av T x=.ptr id ep off) (ho:O[id]?=some ⟨cs.set i V,ep,sz,te⟩)
 (hoff:off=i) (hi:i<cs.length) (hf:V.nofre=true) (hn:d<n) (h:WpL P n m G false ops l ⟨(d,V)::T,O⟩ Q):
 WpL P n m G false ops ({dst:=some d,op:=.load t x,type:=tt,pos:=pos,after:=after,guard:=none}::l) ⟨T,O⟩ Q:=by
 subst hoff
 refine WpL.load1 hP ht hp (off:=off) (cells:=cs.set off V) ?_ (V:=V) ?_ hf hn h
 ·rw [hx];simp only [Abs.reg,ho,Nat.beq_refl]
 ·simp [hi]
theorem WpL.storeSlot (hP:TabOk P tab) {t:Nat} {ty:Ty} {x y:Operand} {id ep off i sz:Nat} {te:Option TypeId} {cs:List AV} {V W:AV} (ht:tlook tab t=some ty) (hx:av T x=.ptr id ep off)
 (ho:O[id]?=some ⟨cs.set i V,ep,sz,te⟩) (hy:(av T y).force=some W) (hW:oneB O W=true) (hk:ty.cellsN=some 1) (hoff:off=i) (hi:i<cs.length)
 (h:WpL P n m G false ops l ⟨T,O.set id ⟨cs.set i W,ep,sz,te⟩⟩ Q):
 WpL P n m G false ops ({dst:=none,op:=.store t x y,type:=tt,pos:=pos,after:=after,guard:=none}::l) ⟨T,O⟩ Q:=by
 subst hoff
 have hc:cellsV O W=some [W]:=by
  cases W with
  |agg ds=>simp [oneB] at hW
  |_=>simp only [cellsV,hW]
 refine WpL.store hP ht hx ho rfl hy hc hk (by simp [hW]) (by simp;omega) ?_
 have e:setL (cs.set off V) off [W]=cs.set off W:=by simp [setL]
 simp only [e];exact h
theorem NEx.intsN {ids:List (Option Nat)} {id ep sz:Nat} {ty:Option TypeId} {xs ys:List Int} {N:List AObj} (ho:O[id]?=some ⟨Abs.ints xs,ep,sz,ty⟩) (h:xs=ys) (r:NEx O ids N):NEx O (some id::ids) (⟨Abs.ints ys,0,sz,none⟩::N):=
 .obj ho (by rw [h]) (still_ints _) rfl rfl (.inl rfl) r
end
def mayMake (o:Oper):Bool:=match o.op with
 |.makeSlice ..=>true
 |.buildSlice ..=>true
 |.alloc ..=>true
 |.box ..=>true
 |.call c=>match c.callee with
  |.builtin _=>false
  |_=>true
 |_=>false
def ancs (ops:Array Oper) (k:Nat):List (List Nat):=(List.range k).foldl (fun acc i=>acc++[match ops[i]? with
 |some o=>((o.after.toList.filter fun e=>Region.binds .any e).flatMap fun e=>e.on::acc.getD e.on []).eraseDups
 |none=>[]]) []
def ordP (ops:Array Oper) (k:Nat):Bool:=let A:=ancs ops k;(List.range k).all fun i=>match ops[i]? with
 |some o=>!mayMake o||(List.range i).all fun j=>match ops[j]? with
  |some u=>!mayMake u||(A.getD i []).any fun q=>Nat.beq q j
  |none=>true
 |none=>true
theorem WpA.regionNO {P:Program} {n m:Nat} {G:Ctx} {T0:List (Nat×AV)} {l l1 l2:List Oper} {id:Nat} {O O':List AObj} {out:List Fact} {oc T1:List (Nat×AV)} {c0:Nat} {Q:Exit→St→Prop} (k:Nat) (hm:P.follows .mixedOrders=true) (hB:(mixB l.toArray k&&bareN l.toArray k&&ordP l.toArray k)=true)
 (hl:takeF k l=some l1) (hc:cnt O.length 0=some c0) (hJ:HeadN P n m G l.toArray T0 c0 O [] l1 O' out) (hnd:TrueB (nodupB (out.map (·.1)))) (hfr:TrueB (out.all fun p=>!has T0 p.1))
 (ho:factsF out=some oc) (hT1:catF oc T0=some T1) (h2:l.drop k=l2) (h:WpL P n m G false l.toArray l2 ⟨T1,O'⟩ Q):WpA P n m G (.region id l.toArray true) ⟨T0,O⟩ Q:=
 WpA.regionNB k hm (by simp only [Bool.and_eq_true] at hB ⊢;exact hB.1) hl hc hJ hnd hfr ho hT1 h2 h
end Go.Abs
