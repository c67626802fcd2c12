/- Proved in this text: lemmas and contracts of functions that the claim uses (parts: AbsYs, Txt, AbsNf, AbsHf, AbsUs, Defs, Bld, AbsXk). No condition. -/
import Derived.Test.YtkckmenalehdpaaShM5
import Derived.Test.YtkckmenalehdpaaShM4
import Derived.Lib.Builder
import Derived.Lib.UnsafeStr
import Derived.Lib.AppendStr
import Derived.Laws.Externs
import Derived.Test.YtkckmenalehdpaaShM3
import Derived.KernelRfl
set_option linter.unusedVariables false
set_option linter.unusedSimpArgs false
set_option maxRecDepth 100000
set_option maxHeartbeats 4000000


namespace Go.Abs
open Go
structure Fis where
 sets:List (Nat×AObj)
 dead:Bool
def lkF:List (Nat×AObj)→Nat→Option AObj
 |[],_=>Option.none
 |(p,ob)::l,q=>if Nat.beq p q=true then some ob else lkF l q
def setsF:List (Nat×AObj)→List AObj→List AObj
 |[],Ov=>Ov
 |(p,ob)::l,Ov=>(setsF l Ov).set p ob
def Fis.got (f:Fis) (q:Nat):Option AObj:=lkF f.sets q
def Fis.isPutS (f:Fis):Bool:=f.dead
def Fis.run (f:Fis) (Ov:List AObj):List AObj:=match f.dead with
 |true=>setsF f.sets Ov++[deadO]
 |false=>setsF f.sets Ov
abbrev Fis.none:Fis:=⟨[],false⟩
abbrev Fis.put (p:Nat) (ob:AObj):Fis:=⟨[(p,ob)],true⟩
abbrev Fis.step (p:Nat) (ob:AObj):Fis:=⟨[(p,ob)],false⟩
def isPutS (ks:List Fis) (i:Nat):Bool:=(ks[i]?.map Fis.isPutS).getD false
def fillAllS:List Fis→List AObj→List AObj
 |[],Oi=>Oi
 |f::ks,Oi=>fillAllS ks (setsF f.sets Oi)
theorem setsF_len:∀(l:List (Nat×AObj)) (Ov:List AObj),(setsF l Ov).length=Ov.length
 |[],_=>rfl
 |(p,ob)::l,Ov=>by rw [setsF,List.length_set,setsF_len l Ov]
theorem setsF_at:∀(l:List (Nat×AObj)) (Ov:List AObj) (q:Nat),q<Ov.length→(setsF l Ov)[q]?=match lkF l q with|some ob=>some ob|Option.none=>Ov[q]?
 |[],_,_,_=>rfl
 |(p,ob)::l,Ov,q,hq=>by
  rw [setsF,lkF,List.getElem?_set]
  by_cases e:p=q
  ·subst e
   rw [if_pos rfl,if_pos (by rw [setsF_len];exact hq),if_pos (by simp)]
  ·rw [if_neg e,if_neg (by simpa using e)]
   exact setsF_at l Ov q hq
theorem setsF_out:∀(l:List (Nat×AObj)) (Ov:List AObj) (q:Nat),lkF l q=Option.none→(setsF l Ov)[q]?=Ov[q]?
 |[],_,_,_=>rfl
 |(p,ob)::l,Ov,q,h=>by
  rw [lkF] at h
  split at h
  ·cases h
  ·rename_i e
   rw [setsF,List.getElem?_set,if_neg (by simpa using e)]
   exact setsF_out l Ov q h
theorem fillAllS_len:∀(ks:List Fis) (Oi:List AObj),(fillAllS ks Oi).length=Oi.length
 |[],_=>rfl
 |f::ks,Oi=>by rw [fillAllS,fillAllS_len ks,setsF_len]
theorem lkF_mem:∀{l:List (Nat×AObj)} {q:Nat} {ob:AObj},lkF l q=some ob→∃x∈l,x.1=q
 |[],_,_,h=>by simp [lkF] at h
 |(p,o)::l,q,ob,h=>by
  rw [lkF] at h
  split at h
  ·rename_i e;exact ⟨(p,o),by simp,by simpa using e⟩
  ·obtain ⟨x,hx,e⟩:=lkF_mem h;exact ⟨x,List.mem_cons_of_mem _ hx,e⟩
def spotsS (ks:List Fis):List Nat:=ks.flatMap fun f=>f.sets.map (·.1)
theorem keepB_ofS {c k:Nat} {ks:List Fis}:∀{l:List Nat},keepB c (spotsS ks) l=true→∀{q},memB q l=true→q<c∧∀i f p ob,i<k→ks[i]?=some f→f.got p=some ob→p≠q
 |[],_,q,h=>by cases h
 |x::l,hB,q,h=>by
  simp only [keepB,Bool.and_eq_true,Bool.not_eq_true'] at hB
  simp only [memB,Bool.or_eq_true] at h
  rcases h with h|h
  ·have e:q=x:=Nat.eq_of_beq_eq_true h
   subst e
   refine ⟨Nat.le_of_ble_eq_true hB.1.1,fun i f p ob _ hf hg e=>?_⟩
   subst e
   obtain ⟨y,hy,e2⟩:=lkF_mem hg
   refine memB_false hB.1.2 ?_
   unfold spotsS
   rw [List.mem_flatMap]
   exact ⟨f,List.mem_of_getElem? hf,by rw [←e2];exact List.mem_map_of_mem hy⟩
  ·exact keepB_ofS hB.2 h
inductive HeadS (P:Program) (n m:Nat) (G:Ctx) (ops:Array Oper) (T0:List (Nat×AV)) (O Oi:List AObj) (keep sh:List Nat):List (Nat×AV)→List Fis→List Oper→List (Nat×AV)→List Fis→Prop
 |nil {fs gs}:HeadS P n m G ops T0 O Oi keep sh fs gs [] fs gs
 |cons {fs out:List (Nat×AV)} {gs:List Fis} {o:Oper} {l:List Oper} {d:Nat} {V:AV} {F:List (Nat×AV)} {ks:List Fis} (k:Fis) (hF:deps fs o=F)
   (h:∀Tv Ov,Oi.length≤Ov.length→(∀ p ob,k.got p=some ob→Ov[p]?=(fillAllS gs Oi)[p]?)→(∀ j f p ob,waits o j=true→gs[j]?=some f→f.got p=some ob→memB p sh=false→Ov[p]?=some ob)→(∀ q,memB q keep=true→Ov[q]?=Oi[q]?)→
    WpL P n m G false ops [o] ⟨F++(T0++Tv),O++Ov⟩ (Only ⟨(d,V)::(F++(T0++Tv)),O++k.run Ov⟩)) (r:HeadS P n m G ops T0 O Oi keep sh (fs++[(d,V)]) (gs++[k]) l out ks):HeadS P n m G ops T0 O Oi keep sh fs gs (o::l) out ks
section
variable {P:Program} {n m:Nat} {G:Ctx} {ops:Array Oper} {T0:List (Nat×AV)} {O Oi:List AObj} {keep sh:List Nat}
theorem HeadS.pre {fs gs l out ks} (h:HeadS P n m G ops T0 O Oi keep sh fs gs l out ks):∃r s,out=fs++r∧r.length=l.length∧ks=gs++s∧s.length=l.length:=by
 induction h with
 |nil=>exact ⟨[],[],by simp,rfl,by simp,rfl⟩
 |@cons fs out gs o l d V F ks k _ _ _ ih=>obtain ⟨r,s,h1,h2,h3,h4⟩:=ih;exact ⟨(d,V)::r,k::s,by rw [h1];simp,by simp [h2],by rw [h3];simp,by simp [h4]⟩
theorem HeadS.at {fs gs l out ks} (h:HeadS P n m G ops T0 O Oi keep sh fs gs l out ks) (hg:gs.length=fs.length):∀{j:Nat} {o:Oper},l[j]?=some o→∃d V k,out[fs.length+j]?=some (d,V)∧ks[fs.length+j]?=some k∧
 ∀Tv Ov,Oi.length≤Ov.length→(∀ p ob,k.got p=some ob→Ov[p]?=(fillAllS (ks.take (fs.length+j)) Oi)[p]?)→(∀ i f p ob,waits o i=true→(ks.take (fs.length+j))[i]?=some f→f.got p=some ob→memB p sh=false→Ov[p]?=some ob)→(∀ q,memB q keep=true→Ov[q]?=Oi[q]?)→
  WpL P n m G false ops [o] ⟨deps (out.take (fs.length+j)) o++(T0++Tv),O++Ov⟩ (Only ⟨(d,V)::(deps (out.take (fs.length+j)) o++(T0++Tv)),O++k.run Ov⟩):=by
 induction h with
 |nil=>intro j o h;simp at h
 |@cons fs out gs o l d V F ks k hF h r ih=>
  intro j o' hj
  obtain ⟨r',s',h1,h2,h3,h4⟩:=r.pre
  cases j with
  |zero=>
   simp only [List.getElem?_cons_zero,Option.some.injEq] at hj
   subst hj
   refine ⟨d,V,k,by rw [h1];simp,by rw [h3];simp [hg],?_⟩
   have:out.take (fs.length+0)=fs:=by rw [h1,Nat.add_zero,List.append_assoc,List.take_left'];rfl
   have e2:ks.take (fs.length+0)=gs:=by rw [h3,Nat.add_zero,List.append_assoc,List.take_left'];exact hg
   rw [this,hF,e2];exact h
  |succ j=>
   have:=ih (by simp [hg]) (j:=j) (o:=o') (by simpa using hj)
   rw [List.length_append,List.length_singleton,Nat.add_assoc,Nat.add_comm 1 j] at this
   simpa using this
theorem fillAllS_cases:∀(L:List Fis) (Oi:List AObj) (q:Nat),q<Oi.length→(∃ (i:Nat) (f:Fis) (ob:AObj),L[i]?=some f∧f.got q=some ob∧(∀ (j:Nat) (g:Fis) (oc:AObj),i<j→L[j]?=some g→g.got q≠some oc)∧(fillAllS L Oi)[q]?=some ob)∨
 ((∀ (j:Nat) (g:Fis) (oc:AObj),L[j]?=some g→g.got q≠some oc)∧(fillAllS L Oi)[q]?=Oi[q]?)
 |[],Oi,q,hq=>.inr ⟨fun j g oc h=>by simp at h,rfl⟩
 |f::L,Oi,q,hq=>by
  rw [fillAllS]
  rcases fillAllS_cases L (setsF f.sets Oi) q (by rw [setsF_len];exact hq) with ⟨i,g,ob,h1,h2,h3,h4⟩|⟨h1,h2⟩
  ·refine .inl ⟨i+1,g,ob,by simpa using h1,h2,fun j g' oc hj hg=>?_,h4⟩
   cases j with
   |zero=>omega
   |succ j=>exact h3 j g' oc (by omega) (by simpa using hg)
  ·cases hs:f.got q with
   |some ob0=>
    refine .inl ⟨0,f,ob0,by simp,hs,fun j g' oc hj hg=>?_,?_⟩
    ·cases j with
     |zero=>omega
     |succ j=>exact h1 j g' oc (by simpa using hg)
    ·rw [h2,setsF_at _ _ _ hq]
     unfold Fis.got at hs;rw [hs]
   |none=>
    refine .inr ⟨fun j g oc hg=>?_,by rw [h2];exact setsF_out _ _ _ hs⟩
    cases j with
    |zero=>simp at hg;subst hg;rw [hs];simp
    |succ j=>exact h1 j g oc (by simpa using hg)
structure RoomS (ks:List Fis) (Oi:List AObj) (k:Nat) (listed:Array Bool) (Ov:List AObj):Prop where
 len:Ov.length=Oi.length+((List.range k).filter fun i=>listed.getD i false&&isPutS ks i).length
 cur:∀q,q<Oi.length→(∃ i f ob,i<k∧listed.getD i false=true∧ks[i]?=some f∧f.got q=some ob∧(∀ j g oc,i<j→j<k→listed.getD j false=true→ks[j]?=some g→g.got q≠some oc)∧Ov[q]?=some ob)∨
  ((∀ j g oc,j<k→listed.getD j false=true→ks[j]?=some g→g.got q≠some oc)∧Ov[q]?=Oi[q]?)
 dead:∀q,Oi.length≤q→q<Ov.length→Ov[q]?=some deadO
structure RoomSOk (ops:Array Oper) (sh:List Nat) (ks:List Fis) (c k:Nat):Prop where
 lt:∀i f p ob,i<k→ks[i]?=some f→f.got p=some ob→p<c
 chain:∀i j f g p ob oc,i<j→j<k→ks[i]?=some f→ks[j]?=some g→f.got p=some ob→g.got p=some oc→memB p sh=true∧reach ops 24 j i=true
theorem reach_hall {k:Nat} {listed:Array Bool} {o:Oper} {i j f:Nat} (inv:HeadInv .any ops k listed) (ho:ops[i]?=some o) (hall:∀e∈o.after,Region.binds .any e=true→listed.getD e.on false=true) (h:reach ops f i j=true):listed.getD j false=true:=by
 cases f with
 |zero=>simp [reach] at h
 |succ f=>
  rw [reach,ho] at h
  rcases Bool.or_eq_true_iff.1 h with h|h
  ·obtain ⟨e,he,hx⟩:=List.any_eq_true.1 h
   rw [Bool.and_eq_true] at hx
   have:=hall e (by simpa using he) hx.1
   rw [Nat.eq_of_beq_eq_true hx.2] at this;exact this
  ·obtain ⟨e,he,hx⟩:=List.any_eq_true.1 h
   rw [Bool.and_eq_true] at hx
   exact reach_listed inv f _ _ hx.2 (hall e (by simpa using he) hx.1)
theorem RoomS.before {ks:List Fis} {k i:Nat} {listed:Array Bool} {Ov:List AObj} {f:Fis} {o:Oper} (h:RoomS ks Oi k listed Ov) (ok:RoomSOk ops sh ks Oi.length k) (inv:HeadInv .any ops k listed) (hik:i<k) (hu:listed.getD i false=false) (hall:∀e∈o.after,Region.binds .any e=true→listed.getD e.on false=true) (ho:ops[i]?=some o) (hf:ks[i]?=some f) {p:Nat} {ob:AObj} (hsp:f.got p=some ob):
 Ov[p]?=(fillAllS (ks.take i) Oi)[p]?:=by
 have hp:=ok.lt i f p ob hik hf hsp
 have hbef:∀j g oc,j<i→ks[j]?=some g→g.got p=some oc→listed.getD j false=true:=by
  intro j g oc hj hg hs
  exact reach_hall inv ho hall (ok.chain j i g f p oc ob hj hik hg hf hs hsp).2
 have haft:∀j g oc,i<j→j<k→ks[j]?=some g→g.got p=some oc→listed.getD j false=false:=by
  intro j g oc hj hjk hg hs
  have hw:=(ok.chain i j f g p ob oc hj hjk hf hg hsp hs).2
  cases hl:listed.getD j false with
  |false=>rfl
  |true=>
   have:=reach_listed inv _ _ _ hw hl
   rw [hu] at this;cases this
 have htk:∀j g,(ks.take i)[j]?=some g→j<i∧ks[j]?=some g:=by
  intro j g hg
  rw [List.getElem?_take] at hg
  split at hg
  ·rename_i hj;exact ⟨hj,hg⟩
  ·cases hg
 rcases h.cur p hp with ⟨j,g,oc,hjk,hl,hg,hs,hlast,hv⟩|⟨hno,hv⟩<;>rcases fillAllS_cases (ks.take i) Oi p hp with ⟨j2,g2,oc2,hg2,hs2,hlast2,hv2⟩|⟨hno2,hv2⟩
 ·obtain ⟨hj2,hg2⟩:=htk j2 g2 hg2
  have hji:j<i:=by
   rcases Nat.lt_trichotomy j i with h1|h1|h1
   ·exact h1
   ·subst h1;rw [hu] at hl;cases hl
   ·rw [haft j g oc h1 hjk hg hs] at hl;cases hl
  have:j=j2:=by
   rcases Nat.lt_trichotomy j j2 with h1|h1|h1
   ·exact absurd hs2 (hlast j2 g2 oc2 h1 (by omega) (hbef j2 g2 oc2 hj2 hg2 hs2) hg2)
   ·exact h1
   ·exact absurd hs (hlast2 j g oc h1 (by rw [List.getElem?_take,if_pos hji];exact hg))
  subst this
  rw [hg] at hg2;cases hg2
  rw [hs] at hs2;cases hs2
  rw [hv,hv2]
 ·have hji:j<i:=by
   rcases Nat.lt_trichotomy j i with h1|h1|h1
   ·exact h1
   ·subst h1;rw [hu] at hl;cases hl
   ·rw [haft j g oc h1 hjk hg hs] at hl;cases hl
  exact absurd hs (hno2 j g oc (by rw [List.getElem?_take,if_pos hji];exact hg))
 ·obtain ⟨hj2,hg2⟩:=htk j2 g2 hg2
  exact absurd hs2 (hno j2 g2 oc2 (by omega) (hbef j2 g2 oc2 hj2 hg2 hs2) hg2)
 ·rw [hv,hv2]
theorem RoomS.step {ks:List Fis} {k i:Nat} {listed:Array Bool} {Ov:List AObj} {f:Fis} (h:RoomS ks Oi k listed Ov) (ok:RoomSOk ops sh ks Oi.length k) (inv:HeadInv .any ops k listed) (hik:i<k) (hs:i<listed.size) (hu:listed.getD i false=false) (hf:ks[i]?=some f):
 RoomS ks Oi k (listed.setIfInBounds i true) (f.run Ov):=by
 have hself:(listed.setIfInBounds i true).getD i false=true:=by simp [hs]
 have hcnt:=count_set (f:=isPutS ks) hik hs hu
 have hlen:=h.len
 have hp:isPutS ks i=f.isPutS:=by unfold isPutS;rw [hf];rfl
 rw [hp] at hcnt
 have hrl:(f.run Ov).length=Ov.length+(if f.isPutS=true then 1 else 0):=by
  unfold Fis.run Fis.isPutS
  cases f.dead<;>simp [setsF_len]
 have hle:Oi.length≤Ov.length:=by omega
 have hrun:∀q,q<Ov.length→(f.run Ov)[q]?=(setsF f.sets Ov)[q]?:=by
  intro q hq
  unfold Fis.run
  cases f.dead
  ·rfl
  ·simp only
   rw [List.getElem?_append_left (by rw [setsF_len];exact hq)]
 have hoth:∀q,q<Ov.length→(∀ p ob,f.got p=some ob→p≠q)→(f.run Ov)[q]?=Ov[q]?:=by
  intro q hq hne
  rw [hrun q hq]
  refine setsF_out _ _ _ ?_
  cases hc:lkF f.sets q with
  |none=>rfl
  |some ob=>exact absurd rfl (hne q ob hc)
 have hown:∀p ob,f.got p=some ob→(f.run Ov)[p]?=some ob:=by
  intro p ob e
  have hpc:=ok.lt i f p ob hik hf e
  rw [hrun p (by omega),setsF_at _ _ _ (by omega)]
  unfold Fis.got at e;rw [e]
 refine ⟨by rw [hrl,hcnt,hlen];split<;>omega,fun q hq=>?_,fun q h1 h2=>?_⟩
 ·by_cases hq2:∃ob,f.got q=some ob
  ·obtain ⟨ob,hsp⟩:=hq2
   refine .inl ⟨i,f,ob,hik,hself,hf,hsp,fun j g oc hj hjk hl hg hs2=>?_,hown q ob hsp⟩
   rw [getD_set_ne false (by omega)] at hl
   have:=reach_listed inv _ _ _ (ok.chain i j f g q ob oc hj hjk hf hg hsp hs2).2 hl
   rw [hu] at this;cases this
  ·have hne:∀p ob,f.got p=some ob→p≠q:=fun p ob hsp e=>hq2 ⟨ob,e▸hsp⟩
   rw [hoth q (by omega) hne]
   rcases h.cur q hq with ⟨j,g,oc,hjk,hl,hg,hs2,hlast,hv⟩|⟨hno,hv⟩
   ·have hij:i≠j:=by rintro rfl;rw [hu] at hl;cases hl
    refine .inl ⟨j,g,oc,hjk,by rw [getD_set_ne false hij];exact hl,hg,hs2,fun j2 g2 oc2 h1 h2 h3 h4=>?_,hv⟩
    by_cases e:i=j2
    ·subst e;rw [hf] at h4;cases h4;exact fun h5=>hq2 ⟨_,h5⟩
    ·rw [getD_set_ne false e] at h3;exact hlast j2 g2 oc2 h1 h2 h3 h4
   ·refine .inr ⟨fun j2 g2 oc2 h2 h3 h4=>?_,hv⟩
    by_cases e:i=j2
    ·subst e;rw [hf] at h4;cases h4;exact fun h5=>hq2 ⟨_,h5⟩
    ·rw [getD_set_ne false e] at h3;exact hno j2 g2 oc2 h2 h3 h4
 ·rcases Nat.lt_or_ge q Ov.length with h3|h3
  ·rw [hoth q h3 (fun p ob e1=>by have:=ok.lt i f p ob hik hf e1;omega)]
   exact h.dead q h1 h3
  ·cases hd:f.dead with
   |false=>exact absurd h2 (by rw [hrl];unfold Fis.isPutS;rw [hd];simp;omega)
   |true=>
    have e:q=Ov.length:=by
     rw [hrl] at h2;unfold Fis.isPutS at h2;rw [hd] at h2;simp at h2;omega
    subst e
    unfold Fis.run;rw [hd];simp only
    rw [List.getElem?_append_right (by rw [setsF_len];exact Nat.le_refl _),setsF_len];simp
def GoodS (n m:Nat) (G:Ctx) (T0 out:List (Nat×AV)) (O Oi:List AObj) (k:Nat) (ks:List Fis) (listed:Array Bool) (a:Act) (w:World):Prop:=
 ∃T Ov,Rel n m G ⟨T,O++Ov⟩ a w∧RoomS ks Oi k listed Ov∧(∀ (i d:Nat) (V:AV),out[i]?=some (d,V)→listed.getD i false=true→look T d=V)∧∀t,has out t=false→look T t=look T0 t
theorem head_stepS {out:List (Nat×AV)} {ks:List Fis} {k:Nat} (H:Heads ops T0 out k) (ok:RoomSOk ops sh ks Oi.length k) (hkp:∀q,memB q keep=true→q<Oi.length∧∀i f p ob,i<k→ks[i]?=some f→f.got p=some ob→p≠q) {Q:Exit→Act→World→Prop} (hJ:∀{j:Nat} {o:Oper},j<k→ops[j]?=some o→∃d V f,out[j]?=some (d,V)∧ks[j]?=some f∧
 ∀Tv Ov,Oi.length≤Ov.length→(∀ p ob,f.got p=some ob→Ov[p]?=(fillAllS (ks.take j) Oi)[p]?)→(∀ i f p ob,waits o i=true→(ks.take j)[i]?=some f→f.got p=some ob→memB p sh=false→Ov[p]?=some ob)→(∀ q,memB q keep=true→Ov[q]?=Oi[q]?)→WpL P n m G false ops [o] ⟨deps (out.take j) o++(T0++Tv),O++Ov⟩ (Only ⟨(d,V)::(deps (out.take j) o++(T0++Tv)),O++f.run Ov⟩))
 {listed:Array Bool} (inv:HeadInv .any ops k listed) {i:Nat} (hi:i∈Region.ready .any ops listed) (hik:i<k) {a w} (hg:GoodS n m G T0 out O Oi k ks listed a w) {K:Act→World→Prop}
 (hK:∀a' w',GoodS n m G T0 out O Oi k ks (listed.setIfInBounds i true) a' w'→K a' w'):wpOp P ops Q i K a w:=by
 obtain ⟨hun,o,ho,hall⟩:=mem_ready.1 hi
 obtain ⟨T,Ov,hr,hroom,h1,h2⟩:=hg
 obtain ⟨d,V,f,hout,hkf,hw⟩:=hJ hik ho
 have hF:∀t U,(t,U)∈deps (out.take i) o→look T t=U:=by
  intro t U hm
  simp only [deps,List.mem_filterMap] at hm
  obtain ⟨e,he,hx⟩:=hm
  split at hx
  ·rename_i hb
   have he':e∈o.after:=by simpa using he
   have hx':out[e.on]?=some (t,U):=by
    rw [List.getElem?_take] at hx
    split at hx
    ·exact hx
    ·simp at hx
   exact h1 _ _ _ hx' (hall e he' hb)
  ·simp at hx
 have same:∀t,look (deps (out.take i) o++(T0++T)) t=look T t:=by
  intro t
  rw [look_append]
  split
  ·rename_i h;exact (hF _ _ (has_look h)).symm
  ·rw [look_append]
   split
   ·rename_i h
    refine (h2 t ?_).symm
    cases hc:has out t with
    |false=>rfl
    |true=>have:=H.fresh _ (has_look hc);simp only at this;rw [this] at h;cases h
   ·rfl
 have hiu:listed.getD i false=false:=getD_both hun
 have hdep:∀j g p ob,waits o j=true→(ks.take i)[j]?=some g→g.got p=some ob→memB p sh=false→Ov[p]?=some ob:=by
  intro j g p ob hwt hg hsp hsh
  obtain ⟨e,he,hb,rfl⟩:=waits_spec hwt
  have hl:=hall e he hb
  rw [List.getElem?_take] at hg
  split at hg
  ·rename_i hji
   have hp:=ok.lt e.on g p ob (by omega) hg hsp
   rcases hroom.cur p hp with ⟨j2,g2,oc,hjk,hl2,hg2,hs2,hlast,hv⟩|⟨hno,hv⟩
   ·have hj:j2=e.on:=by
     rcases Nat.lt_trichotomy j2 e.on with h3|h3|h3
     ·have:=(ok.chain j2 e.on g2 g p oc ob h3 (by omega) hg2 hg hs2 hsp).1
      rw [hsh] at this;cases this
     ·exact h3
     ·have:=(ok.chain e.on j2 g g2 p ob oc h3 hjk hg hg2 hsp hs2).1
      rw [hsh] at this;cases this
    subst hj
    rw [hg] at hg2;cases hg2
    rw [hsp] at hs2;cases hs2
    exact hv
   ·exact absurd hsp (hno e.on g ob (by omega) hl hg)
  ·cases hg
 have hrest:∀q,memB q keep=true→Ov[q]?=Oi[q]?:=by
  intro q hq
  obtain ⟨hlt,hno⟩:=hkp q hq
  rcases hroom.cur q hlt with ⟨j,g,oc,hjk,_,hg,hs2,_,_⟩|⟨_,hv⟩
  ·exact absurd rfl (hno j g q oc hjk hg hs2)
  ·exact hv
 have hw':=hw T Ov (by rw [hroom.len];omega) (fun p ob e=>hroom.before ok inv hik hiu hall ho hkf e) hdep hrest a w (hr.relook same)
 have hst:=hroom.step ok inv hik (by rw [inv.size];have:=(Array.getElem?_eq_some_iff.1 ho).1;omega) hiu hkf
 simp only at hw'
 have good:∀a' w',Rel n m G ⟨(d,V)::(deps (out.take i) o++(T0++T)),O++f.run Ov⟩ a' w'→GoodS n m G T0 out O Oi k ks (listed.setIfInBounds i true) a' w':=by
  intro a' w' hr'
  refine ⟨_,_,hr',hst,fun j d' V' hj hl=>?_,fun t ht=>?_⟩
  ·by_cases hij:i=j
   ·subst hij;rw [hout] at hj;cases hj;exact look_cons_same _ _ _
   ·rw [getD_set_ne false hij] at hl
    have hne:d≠d':=by rintro rfl;exact hij (out_inj H.nodup hout hj)
    rw [look_cons_other _ _ _ _ hne,same]
    exact h1 _ _ _ hj hl
  ·have hne:d≠t:=by
    rintro rfl
    have:=has_mem (List.mem_of_getElem? hout)
    rw [ht] at this;cases this
   rw [look_cons_other _ _ _ _ hne,same];exact h2 t ht
 have only:∀e a' w',(∃ σ',Only ⟨(d,V)::(deps (out.take i) o++(T0++T)),O++f.run Ov⟩ e σ'∧Rel n m G σ' a' w')→e=.normal∧K a' w':=by
  rintro e a' w' ⟨σ',hq,hr'⟩
  cases e<;>first|(simp only [Only] at hq;subst hq;exact ⟨rfl,hK _ _ (good _ _ hr')⟩)|exact hq.elim
 unfold wpOp
 simp only [ho]
 change wpList P ops _ [o] a w at hw'
 unfold wpList at hw'
 by_cases hwant:Region.wanted o (yielded ops a.tmps)=true
 ·rw [if_pos hwant] at hw' ⊢
  rcases hw' with hw'|⟨_,a',w',hx⟩
  ·refine .inl ?_
   unfold Oper.wp at hw' ⊢
   generalize (execOp a.eval o).run P w=r at*
   cases r with
   |ok x w1=>
    cases x<;>simp only [Oper.upon] at hw' ⊢
    case value v=>exact (only _ _ _ hw').2
    case skip=>exact (only _ _ _ hw').2
    case defer d=>exact (only _ _ _ hw').2
    case enter f args=>
     refine hw'.mono fun e w2 h2=>?_
     cases e with
     |returned v=>exact (only _ _ _ h2).2
     |panicked c=>exact absurd (only _ _ _ h2).1 (by simp)
     |outgrown=>obtain ⟨_,_,hf⟩:=h2;exact absurd (only _ _ _ hf).1 (by simp)
    case row r ar=>exact hw'.mono fun v w2 h2=>(only _ _ _ h2).2
   |halt x w1=>cases x<;>simp only [Oper.upon] at hw' ⊢<;>first|exact absurd (only _ _ _ hw').1 (by simp)|exact hw'.elim|(obtain ⟨_,_,hf⟩:=hw';exact absurd (only _ _ _ hf).1 (by simp))
  ·exact absurd (only _ _ _ hx).1 (by simp)
 ·rw [if_neg hwant] at hw' ⊢
  exact (only _ _ _ hw').2
theorem WpA.regionS {l:List Oper} {id:Nat} {out T1:List (Nat×AV)} {ks:List Fis} {Q:Exit→St→Prop} (k:Nat) (hm:P.follows .mixedOrders=true) (hB:mixB l.toArray k=true)
 (hJ:HeadS P n m G l.toArray T0 O Oi keep sh [] [] (l.take k) out ks) (hok:RoomSOk l.toArray sh ks Oi.length k) (hkp:∀q,memB q keep=true→q<Oi.length∧∀i f p ob,i<k→ks[i]?=some f→f.got p=some ob→p≠q) (hnd:nodupB (out.map (·.1))=true) (hfr:(out.all fun p=>!has T0 p.1)=true)
 (hT1:out++T0=T1) (h:WpL P n m G false l.toArray (l.drop k) ⟨T1,O++(fillAllS ks Oi++List.replicate ((List.range k).filter fun i=>isPutS ks i).length deadO)⟩ Q):WpA P n m G (.region id l.toArray true) ⟨T0,O++Oi⟩ Q:=fun a w hr=>by
 subst hT1
 simp only [mixB,Bool.and_eq_true,decide_eq_true_eq,Bool.or_eq_true] at hB
 obtain ⟨⟨⟨hks,hback⟩,hsc⟩,hseq⟩:=hB
 have hkl:k≤l.length:=by simpa using hks
 have htl:(l.take k).length=k:=by simp;omega
 obtain ⟨r,s,hr1,hr2,hr3,hr4⟩:=hJ.pre
 have hlen:out.length=k:=by rw [hr1];simp [hr2];omega
 have hklen:ks.length=k:=by rw [hr3];simp [hr4];omega
 have H:Heads l.toArray T0 out k:=⟨hlen,nodupB_spec hnd,fun p hp=>by have:=List.all_eq_true.1 hfr p hp;simpa using this,fun i hi o ho e he hb=>by
  have h1:=List.all_eq_true.1 hback i (List.mem_range.2 hi)
  rw [ho] at h1
  have h2:=List.all_eq_true.1 h1 e (by simpa using he)
  simp only [Bool.or_eq_true,Bool.not_eq_true',decide_eq_true_eq] at h2
  rcases h2 with h2|h2
  ·rw [hb] at h2;cases h2
  ·exact h2⟩
 have hJ':∀{j:Nat} {o:Oper},j<k→l.toArray[j]?=some o→∃d V f,out[j]?=some (d,V)∧ks[j]?=some f∧
  ∀Tv Ov,Oi.length≤Ov.length→(∀ p ob,f.got p=some ob→Ov[p]?=(fillAllS (ks.take j) Oi)[p]?)→(∀ i f p ob,waits o i=true→(ks.take j)[i]?=some f→f.got p=some ob→memB p sh=false→Ov[p]?=some ob)→(∀ q,memB q keep=true→Ov[q]?=Oi[q]?)→WpL P n m G false l.toArray [o] ⟨deps (out.take j) o++(T0++Tv),O++Ov⟩ (Only ⟨(d,V)::(deps (out.take j) o++(T0++Tv)),O++f.run Ov⟩):=by
  intro j o hj ho
  have ho':(l.take k)[j]?=some o:=by rw [List.getElem?_take,if_pos hj];simpa using ho
  have:=hJ.at rfl ho'
  simpa using this
 have inv0:HeadInv .any l.toArray k (Array.replicate l.toArray.size false):=
  ⟨by simp,fun j oj _ hl=>(by rw [getD_replicate_false] at hl;cases hl),fun t _ ht=>getD_in (by simpa using ht) (getD_replicate_false _ _)⟩
 have room0:RoomS ks Oi k (Array.replicate l.toArray.size false) Oi:=by
  refine ⟨?_,fun q _=>.inr ⟨fun j g oc _ hl=>(by rw [getD_replicate_false] at hl;cases hl),rfl⟩,fun q h1 h2=>by omega⟩
  have:((List.range k).filter fun i=>(Array.replicate l.toArray.size false).getD i false&&isPutS ks i)=[]:=by
   rw [List.filter_eq_nil_iff];intro i _;rw [getD_replicate_false];simp
  rw [this];simp
 refine wp_region_any hm ?_
 have fin:=any_order (P:=P) (GP:=GoodS n m G T0 out O Oi k ks) (g:=l.toArray.size-k) (Q:=fun e a' w'=>∃σ',Q e σ'∧Rel n m G σ' a' w') H hks (fun hk=>hsc.resolve_left (by omega)) (fun inv _ hi hik _ _ hg _ hK=>head_stepS H hok hkp hJ' inv hi hik hg hK) (fun listed a w inv hall hg=>by
  obtain ⟨T,Ov,hrT,hroom,h1,h2⟩:=hg
  have hOv:Ov=fillAllS ks Oi++List.replicate ((List.range k).filter fun i=>isPutS ks i).length deadO:=by
   have hcnt:((List.range k).filter fun i=>listed.getD i false&&isPutS ks i)=(List.range k).filter fun i=>isPutS ks i:=by
    refine List.filter_congr fun i hi=>?_
    rw [hall i (List.mem_range.1 hi)];rfl
   have hlen:=hroom.len
   rw [hcnt] at hlen
   have hfl:=fillAllS_len ks Oi
   apply List.ext_getElem?
   intro q
   rcases Nat.lt_or_ge q Oi.length with hq|hq
   ·rw [List.getElem?_append_left (by omega)]
    rcases hroom.cur q hq with ⟨j,g,oc,hjk,hl,hg,hs,hlast,hv⟩|⟨hno,hv⟩<;>rcases fillAllS_cases ks Oi q hq with ⟨j2,g2,oc2,hg2,hs2,hlast2,hv2⟩|⟨hno2,hv2⟩
    ·have hj2k:j2<k:=by have:=(List.getElem?_eq_some_iff.1 hg2).1;omega
     have:j=j2:=by
      rcases Nat.lt_trichotomy j j2 with h3|h3|h3
      ·exact absurd hs2 (hlast j2 g2 oc2 h3 hj2k (hall j2 hj2k) hg2)
      ·exact h3
      ·exact absurd hs (hlast2 j g oc h3 hg)
     subst this
     rw [hg] at hg2;cases hg2
     rw [hs] at hs2;cases hs2
     rw [hv,hv2]
    ·exact absurd hs (hno2 j g oc hg)
    ·have hj2k:j2<k:=by have:=(List.getElem?_eq_some_iff.1 hg2).1;omega
     exact absurd hs2 (hno j2 g2 oc2 hj2k (hall j2 hj2k) hg2)
    ·rw [hv,hv2]
   ·rcases Nat.lt_or_ge q Ov.length with h3|h3
    ·rw [hroom.dead q hq h3,List.getElem?_append_right (by omega),List.getElem?_replicate,if_pos (by omega)]
    ·rw [List.getElem?_eq_none h3,List.getElem?_eq_none (by simp;omega)]
  subst hOv
  have hlist:listed=(Array.range l.toArray.size).map fun i=>decide (i<k):=by
   apply Array.ext
   ·simp [inv.size]
   ·intro i hi1 hi2
    have hi:i<l.toArray.size:=by rw [←inv.size];exact hi1
    by_cases hik:i<k
    ·have:=hall i hik
     simp [hi1] at this
     simp [this,hik]
    ·have:=inv.tail i (by omega) hi
     simp [hi1] at this
     simp [this,hik]
  have hdl:(l.drop k).length=l.toArray.size-k:=by simp
  rw [←hdl]
  refine wpAny_of_seq (l.drop k) k listed a w (fun j=>by simp [List.getElem?_drop]) (by rw [hdl,hlist];exact hseq) ?_
  refine h a w (hrT.relook fun t=>?_)
  rw [look_append]
  split
  ·rename_i hh
   obtain ⟨i,hi,hi2⟩:=List.getElem_of_mem (has_look hh)
   have:out[i]?=some (t,look out t):=by rw [List.getElem?_eq_getElem hi,hi2]
   exact (h1 i _ _ this (hall i (by omega))).symm
  ·rename_i hh
   exact (h2 t (by simpa using hh)).symm) k _ a w.drew inv0 (by
    have:((List.range k).filter fun i=>!(Array.replicate l.toArray.size false).getD i false)=List.range k:=by
     rw [List.filter_eq_self];intro i _;rw [getD_replicate_false];rfl
    rw [this];simp) ⟨T0,_,hr.drew,room0,⟨fun i d V _ hl=>(by rw [getD_replicate_false] at hl;cases hl),fun _ _=>rfl⟩⟩
 rw [show k+(l.toArray.size-k)=l.toArray.size by omega] at fin
 exact fin
def chainS (ops:Array Oper) (sh:List Nat) (c:Nat):Nat→List (Nat×Nat)→List Fis→Bool
 |_,_,[]=>true
 |j,seen,f::ks=>(f.sets.all fun x=>Nat.blt x.1 c&&seen.all fun s=>!Nat.beq s.1 x.1||(memB x.1 sh&&reach ops 24 j s.2))&&chainS ops sh c (j+1) (f.sets.map (fun x=>(x.1,j))++seen) ks
theorem chainS_lt {sh:List Nat} {c:Nat}:∀{ks:List Fis} {j:Nat} {seen:List (Nat×Nat)},chainS ops sh c j seen ks=true→∀i f p ob,ks[i]?=some f→f.got p=some ob→p<c∧∀s∈seen,s.1=p→memB p sh=true∧reach ops 24 (j+i) s.2=true
 |[],_,_,_,i,f,p,ob,h,_=>by simp at h
 |g::ks,j,seen,hB,i,f,p,ob,h,hs=>by
  unfold chainS at hB
  rw [Bool.and_eq_true] at hB
  cases i with
  |zero=>
   simp at h;subst h
   obtain ⟨x,hx,e⟩:=lkF_mem hs
   have hx2:=List.all_eq_true.1 hB.1 x hx
   rw [Bool.and_eq_true] at hx2
   subst e
   refine ⟨Nat.le_of_ble_eq_true hx2.1,fun s hm e=>?_⟩
   have:=List.all_eq_true.1 hx2.2 s hm
   simp only [Bool.or_eq_true,Bool.not_eq_true',Bool.and_eq_true] at this
   rcases this with h|⟨h1,h2⟩
   ·rw [e] at h;simp at h
   ·refine ⟨h1,?_⟩
    rw [Nat.add_zero];exact h2
  |succ i=>
   have e:j+(i+1)=j+1+i:=by omega
   rw [e]
   have:=chainS_lt hB.2 i f p ob (by simpa using h) hs
   exact ⟨this.1,fun s hm e=>this.2 s (List.mem_append_right _ hm) e⟩
theorem chainS_pair {sh:List Nat} {c:Nat}:∀{ks:List Fis} {j:Nat} {seen:List (Nat×Nat)},chainS ops sh c j seen ks=true→∀i i2 f g p ob oc,i<i2→ks[i]?=some f→ks[i2]?=some g→f.got p=some ob→g.got p=some oc→memB p sh=true∧reach ops 24 (j+i2) (j+i)=true
 |[],_,_,_,i,i2,f,g,p,ob,oc,_,h,_,_,_=>by simp at h
 |x::ks,j,seen,hB,i,i2,f,g,p,ob,oc,hlt,h,h2,hs,hs2=>by
  unfold chainS at hB
  rw [Bool.and_eq_true] at hB
  cases i2 with
  |zero=>omega
  |succ i2=>
   have e2:j+(i2+1)=j+1+i2:=by omega
   cases i with
   |zero=>
    simp at h;subst h
    obtain ⟨y,hy,e⟩:=lkF_mem hs
    have:=(chainS_lt hB.2 i2 g p oc (by simpa using h2) hs2).2 (p,j) (List.mem_append_left _ (by rw [←e];exact List.mem_map_of_mem (f:=fun x:Nat×AObj=>(x.1,j)) hy)) rfl
    rw [e2];exact this
   |succ i=>
    have e:j+(i+1)=j+1+i:=by omega
    rw [e,e2]
    exact chainS_pair hB.2 i i2 f g p ob oc (by omega) (by simpa using h) (by simpa using h2) hs hs2
theorem roomSOk_of {ks:List Fis} {c k:Nat} (h:chainS ops sh c 0 [] ks=true):RoomSOk ops sh ks c k:=
 ⟨fun i f p ob _ hk hs=>(chainS_lt h i f p ob hk hs).1,fun i j f g p ob oc hij _ hi hj hf hg=>by
  have:=chainS_pair h i j f g p ob oc hij hi hj hf hg
  rw [Nat.zero_add,Nat.zero_add] at this;exact this⟩
theorem HeadS.consF {fs fs2 out:List (Nat×AV)} {gs gs2:List Fis} {o:Oper} {l:List Oper} {d:Nat} {V:AV} {F:List (Nat×AV)} {ks:List Fis} {cur:List AObj} (k:Fis) (hd:o.dst=some d) (hF:depsF fs o.after.toList=some F) (hcur:fillAllS gs Oi=cur)
 (h:∀Tv Ov,Oi.length≤Ov.length→(∀ p ob,k.got p=some ob→Ov[p]?=cur[p]?)→(∀ j f p ob,waits o j=true→gs[j]?=some f→f.got p=some ob→memB p sh=false→Ov[p]?=some ob)→(∀ q,memB q keep=true→Ov[q]?=Oi[q]?)→WpL P n m G false ops [o] ⟨F++(T0++Tv),O++Ov⟩ (Only ⟨(d,V)::(F++(T0++Tv)),O++k.run Ov⟩)) (hs:catF fs [(d,V)]=some fs2) (hg:catF gs [k]=some gs2) (r:HeadS P n m G ops T0 O Oi keep sh fs2 gs2 l out ks):HeadS P n m G ops T0 O Oi keep sh fs gs (o::l) out ks:=by
 have:=catF_eq hs;subst this;have:=catF_eq hg;subst this;subst hcur
 exact .cons k (depsF_eq hF) h r
theorem WpA.regionSF {l l1 l2:List Oper} {id:Nat} {out T1:List (Nat×AV)} {ks:List Fis} {Of Or O1:List AObj} {Q:Exit→St→Prop} (k c:Nat) (keep sh:List Nat) (hO0:Of=O++Or) (hm:P.follows .mixedOrders=true) (hB:mixB l.toArray k=true)
 (hl:takeF k l=some l1) (hJ:HeadS P n m G l.toArray T0 O (Or++List.replicate c roomO) keep sh [] [] l1 out ks) (hok:chainS l.toArray sh (Or.length+c) 0 [] ks=true) (hkp:keepB (Or.length+c) (spotsS ks) keep=true) (hnd:nodupB (out.map (·.1))=true) (hfr:(out.all fun p=>!has T0 p.1)=true)
 (hT1:catF out T0=some T1) (h2:l.drop k=l2) (hO:O++(fillAllS ks (Or++List.replicate c roomO)++List.replicate ((List.range k).filter fun i=>isPutS ks i).length deadO)=O1) (h:WpL P n m G false l.toArray l2 ⟨T1,O1⟩ Q):WpA P n m G (.region id l.toArray true) ⟨T0,Of⟩ Q:=by
 have:=takeF_eq hl;subst this;subst h2;subst hO;subst hO0
 have hc:(Or++List.replicate c roomO).length=Or.length+c:=by simp
 have hw:=WpA.regionS (Q:=Q) (id:=id) k hm hB hJ (by rw [hc];exact roomSOk_of hok) (fun q hq=>by rw [hc];exact keepB_ofS hkp hq) hnd hfr (catF_eq hT1) h
 have hr:=Weak.rooms (m:=m) (T:=T0) c (O++Or)
 rw [List.append_assoc] at hr
 exact WpA.weak hr hw
end
end Go.Abs


namespace Go.Proofs.Ytkckmenalehdpaa
open Go Go.Abs
attribute [local irreducible] WpA WpL Rnd Blk Abs.Seq Abs.Fin Abs.FinG FnC FnG Only
def nb (s:List UInt8):List Int:=s.map fun b=>(b.toNat:Int)
theorem nb_len (s:List UInt8):(nb s).length=s.length:=by simp [nb]
theorem bytes_nb (s:List UInt8):(nb s).map (fun v:Int=>UInt8.ofNat v.toNat)=s:=by
 simp [nb,List.map_map,Function.comp_def]
theorem hi4 (x:Nat):(x:Int)/2 ^ Int.toNat 4=((x/16:Nat):Int):=by show (x:Int)/16=_;omega
theorem lo4_fin:∀b:Fin 256,IntKind.u8.wrap ((BitVec.ofInt IntKind.u8.bits (b.val:Int) &&& BitVec.ofInt IntKind.u8.bits 15).toNat:Nat)=((b.val%16:Nat):Int):=by decide +kernel
theorem lo4 (b:UInt8):IntKind.u8.wrap ((BitVec.ofInt IntKind.u8.bits (b.toNat:Int) &&& BitVec.ofInt IntKind.u8.bits 15).toNat:Nat)=((b.toNat%16:Nat):Int):=lo4_fin ⟨b.toNat,b.toNat_lt⟩
instance Hex_c:Con 15 (∀ s:List UInt8,s.length≤274877906944→Fn 15 [Z s] [] (Z (hexL s))):=⟨fun s hl=>by
 refine FnC.of_body tabOk Try.func15 Try.ntmps15 rfl (by decide +kernel) (by simp) fun G=>?_
 refine go (r:=?_);and_intros<;>intros<;>try exact True.intro
 refine WpA.loop (fun x:List Int×Nat=>⟨[(0,Z s),(3,.own 0 0 0 x.1.length),(7,I s.length),(8,I x.2)],[⟨u8s x.1,0,1,some 5⟩]⟩) (fun x=>x.1=nb (hexL (s.take x.2))∧x.2≤s.length) (fun x=>s.length-x.2) ([],0) (by simp [nb,hexL]) (go (r:=trivial)) (fun x hx=>?_)
 obtain ⟨acc,k⟩:=x
 obtain ⟨hx1,hx2⟩:=hx
 simp only at hx1 hx2 ⊢
 have hla:acc.length=2*k:=by rw [hx1,nb_len,hexL_len,List.length_take];omega
 refine goR (r:=?_);and_intros<;>intros<;>try exact True.intro
 ·have hb:=(s.getD k 0).toNat_lt
  apply WpA.regionNO 12 mixed (by decide +kernel)
  ·exact rfl
  ·exact rfl
  ·apply HeadN.pureF rfl
   ·exact rfl
   ·exact rfl
   ·exact rfl
   ·exact in0
   ·exact rfl
   apply HeadN.pureF rfl
   ·exact rfl
   ·exact rfl
   ·exact rfl
   ·exact in0
   ·exact rfl
   apply HeadN.pureF rfl
   ·exact rfl
   ·exact rfl
   ·exact rfl
   ·exact in0
   ·exact rfl
   apply HeadN.pureF rfl
   ·exact rfl
   ·exact rfl
   ·exact rfl
   ·exact in0
   ·exact rfl
   apply HeadN.pureF rfl
   ·exact rfl
   ·exact rfl
   ·exact rfl
   ·exact in0
   ·exact rfl
   apply HeadN.pureF rfl
   ·exact rfl
   ·exact rfl
   ·exact rfl
   ·intro Tv Ov
    refine WpL.idxStrB (p:=hexD) tabOk rfl rfl rfl (by show (0:Int)≤((s.getD k 0).toNat:Int)/16∧((s.getD k 0).toNat:Int)/16<16;omega) (by decide) (fun h1=>?_)
    exact WpL.nil (Only.mk rfl)
   ·exact rfl
   apply HeadN.pureF rfl
   ·exact rfl
   ·exact rfl
   ·exact rfl
   ·exact in0
   ·exact rfl
   apply HeadN.pureF rfl
   ·exact rfl
   ·exact rfl
   ·exact rfl
   ·exact in0
   ·exact rfl
   apply HeadN.pureF rfl
   ·exact rfl
   ·exact rfl
   ·exact rfl
   ·exact in0
   ·exact rfl
   apply HeadN.pureF rfl
   ·exact rfl
   ·exact rfl
   ·exact rfl
   ·exact in0
   ·exact rfl
   apply HeadN.pureF rfl
   ·exact rfl
   ·exact rfl
   ·exact rfl
   ·intro Tv Ov
    refine WpL.idxStrB (p:=hexD) tabOk rfl rfl rfl (by rw [lo4];show (0:Int)≤(((s.getD k 0).toNat%16:Nat):Int)∧(((s.getD k 0).toNat%16:Nat):Int)<16;omega) (by decide) (fun h1=>?_)
    exact WpL.nil (Only.mk rfl)
   ·exact rfl
   apply HeadN.prodF rfl
   ·exact rfl
   ·exact rfl
   ·exact in1
   ·intro hgo;cases hgo
   ·exact rfl
   ·exact rfl
   ·exact rfl
   exact HeadN.nil
  ·exact trueA
  ·exact trueA
  ·exact rfl
  ·exact rfl
  ·exact rfl
  ·refine go (r:=?_);and_intros<;>intros<;>try exact True.intro
   refine Rnd.go (acc++[((hx ((s.getD k 0).toNat/16)).toNat:Int),((hx ((s.getD k 0).toNat%16)).toNat:Int)],k+1) ⟨by rw [hx1,hexL_take s k (by omega)];simp [nb,hexB],by simp only;omega⟩ (by simp only;omega) ?_
   rw [hi4,lo4]
   exact go (r:=trivial)
 ·refine go (r:=?_);and_intros<;>intros<;>try exact True.intro
  have e:k=s.length:=by omega
  rw [hx1,e,List.take_length]
  exact bytes_nb _⟩
abbrev U8 (b:UInt8):AV:=.sc (.int .u8 b.toNat)
instance l1Digit_s:Con 21 (∀ k:Int,0≤k∧k<16→Fn 21 [I k] [] (U8 (hx k.toNat))):=⟨fun k hk=>by
 refine FnC.of_body tabOk Try.func21 Try.ntmps21 rfl (by decide +kernel) (by simp) fun G=>?_
 refine go (r:=?_);and_intros<;>intros<;>try exact True.intro⟩
instance Hex_s:Con 11 (∀ s:List UInt8,s.length≤274877906944→Fn 11 [Z s] [] (Z (hexL s))):=⟨fun s hl=>by
 refine FnC.of_body tabOk Try.func11 Try.ntmps11 rfl (by decide +kernel) (by simp) fun G=>?_
 refine go (r:=?_);and_intros<;>intros<;>try exact True.intro
 refine WpA.loop (fun x:List Int×Nat=>⟨[(0,Z s),(3,.own 0 0 0 x.1.length),(4,I x.2)],[⟨u8s x.1,0,1,some 5⟩]⟩) (fun x=>x.1=nb (hexL (s.take x.2))∧x.2≤s.length) (fun x=>s.length-x.2) ([],0) (by simp [nb,hexL]) (go (r:=trivial)) (fun x hx=>?_)
 obtain ⟨acc,k⟩:=x
 obtain ⟨hx1,hx2⟩:=hx
 simp only at hx1 hx2 ⊢
 have hla:acc.length=2*k:=by rw [hx1,nb_len,hexL_len,List.length_take];omega
 have hb:(s.getD k 0).toNat<256:=(s.getD k 0).toNat_lt
 refine goR (r:=?_);and_intros<;>intros<;>try exact True.intro
 ·apply WpA.regionSF (O:=[]) (Or:=[⟨u8s acc,0,1,some 5⟩]) (O1:=[⟨u8s acc,0,1,some 5⟩,⟨u8s [((hx ((s.getD k 0).toNat/16)).toNat:Int),((hx ((s.getD k 0).toNat%16)).toNat:Int)],1,1,some 5⟩,deadO]) 14 1 [] [] rfl mixed (by decide +kernel)
  ·exact rfl
  ·apply HeadS.consF .none rfl
   ·exact rfl
   ·exact rfl
   ·exact in1
   ·exact rfl
   ·exact rfl
   apply HeadS.consF .none rfl
   ·exact rfl
   ·exact rfl
   ·exact in1
   ·exact rfl
   ·exact rfl
   apply HeadS.consF .none rfl
   ·exact rfl
   ·exact rfl
   ·exact in1
   ·exact rfl
   ·exact rfl
   apply HeadS.consF .none rfl
   ·exact rfl
   ·exact rfl
   ·exact in1
   ·exact rfl
   ·exact rfl
   apply HeadS.consF .none rfl
   ·exact rfl
   ·exact rfl
   ·exact in1
   ·exact rfl
   ·exact rfl
   apply HeadS.consF .none rfl
   ·exact rfl
   ·exact rfl
   ·exact in1
   ·exact rfl
   ·exact rfl
   apply HeadS.consF (V:=U8 (hx ((s.getD k 0).toNat/16))) .none rfl
   ·exact rfl
   ·exact rfl
   ·intro Tv Ov hc hp' hd hk
    refine K.call ?_
    refine K.con (fun hcon=>?_)
    refine WpL.callF (hcon ((s.getD k 0).toNat/16:Nat) (by omega)) snapA locA outA (cnt_some _ 0) rfl rfl (by decide) ?_
    rw [List.append_nil]
    exact WpL.nil (Only.mk rfl)
   ·exact rfl
   ·exact rfl
   apply HeadS.consF .none rfl
   ·exact rfl
   ·exact rfl
   ·exact in1
   ·exact rfl
   ·exact rfl
   apply HeadS.consF .none rfl
   ·exact rfl
   ·exact rfl
   ·exact in1
   ·exact rfl
   ·exact rfl
   apply HeadS.consF .none rfl
   ·exact rfl
   ·exact rfl
   ·exact in1
   ·exact rfl
   ·exact rfl
   apply HeadS.consF .none rfl
   ·exact rfl
   ·exact rfl
   ·exact in1
   ·exact rfl
   ·exact rfl
   apply HeadS.consF .none rfl
   ·exact rfl
   ·exact rfl
   ·exact in1
   ·exact rfl
   ·exact rfl
   apply HeadS.consF (V:=U8 (hx ((s.getD k 0).toNat%16))) .none rfl
   ·exact rfl
   ·exact rfl
   ·intro Tv Ov hc hp' hd hk
    refine K.call ?_
    refine K.con (fun hcon=>?_)
    refine WpL.callF (hcon ((s.getD k 0).toNat%16:Nat) (by omega)) snapA locA outA (cnt_some _ 0) rfl rfl (by decide) ?_
    rw [List.append_nil]
    exact WpL.nil (Only.mk rfl)
   ·exact rfl
   ·exact rfl
   apply HeadS.consF (V:=.own 1 1 0 2) (.put 1 (⟨u8s [((hx ((s.getD k 0).toNat/16)).toNat:Int),((hx ((s.getD k 0).toNat%16)).toNat:Int)],1,1,some 5⟩)) rfl
   ·exact rfl
   ·exact rfl
   ·intro Tv Ov hc hp' hd hk
    refine WpL.litU8s tabOk rfl rfl rfl rfl rfl (by decide) (by rw [nid_len,Nat.zero_add]) (by decide) ?_
    apply WpL.putNil (p:=1)
    ·exact hp' 1 _ rfl
    ·exact Nat.le_of_ble_eq_true rfl
    ·exact rfl
    ·first|exact still_ints _|exact still_rows (fun _=>rfl) _|rfl
   ·exact rfl
   ·exact rfl
   exact HeadS.nil
  ·exact rfl
  ·exact rfl
  ·exact rfl
  ·exact rfl
  ·exact rfl
  ·exact rfl
  ·exact rfl
  refine go (r:=?_);and_intros<;>intros<;>try exact True.intro
  refine Rnd.go (acc++[((hx ((s.getD k 0).toNat/16)).toNat:Int),((hx ((s.getD k 0).toNat%16)).toNat:Int)],k+1) ⟨by rw [hx1,hexL_take s k (by omega)];simp [nb,hexB],by simp only;omega⟩ (by simp only;omega) ?_
  exact go (r:=trivial)
 ·refine go (r:=?_);and_intros<;>intros<;>try exact True.intro
  have e:k=s.length:=by omega
  rw [hx1,e,List.take_length]
  exact bytes_nb _⟩
end Go.Proofs.Ytkckmenalehdpaa


namespace Go.Abs
open Go
inductive Ry (O O':List AObj) (j:Nat):List AV→List AV→Prop
 |nil:Ry O O' j [] []
 |any {V vs us}:Ry O O' j vs us→Ry O O' j (V::vs) (.any::us)
 |keep {V V' vs us}:V=V'→V'.still=true→Ry O O' j vs us→Ry O O' j (V::vs) (V'::us)
 |own {id ep ep' off len len' ob ob' vs us}:O[id]?=some ob→O'[id]?=some ob'→ob.ep=ep→ob'.ep=ep'→ob'.size=ob.size→len=len'→Ry O O' j vs us→Ry O O' j (.own id ep off len::vs) (.own id ep' off len'::us)
 |ptr {id ep ep' off ob ob' vs us}:O[id]?=some ob→O'[id]?=some ob'→ob.ep=ep→ob'.ep=ep'→Ry O O' j vs us→Ry O O' j (.ptr id ep off::vs) (.ptr id ep' off::us)
 |fn {f ds vs us}:ds.all AV.simple=true→Ry O O' j vs us→Ry O O' j (.fn f ds::vs) (.fn f ds::us)
 |agg {ds es vs us}:Ry O O' j ds es→Ry O O' j vs us→Ry O O' j (.agg ds::vs) (.agg es::us)
 |nilO {ob' k len vs us}:O'[k]?=some ob'→k=j→ob'.ep=0→0=len→Ry O O' j vs us→Ry O O' j (.nilS::vs) (.own k 0 0 len::us)
theorem simple_allI {S w ι ι' O O'}:∀{ds:List AV} {us f},LRel S w ι O ds us f→ds.all AV.simple=true→LRel S w ι' O' ds us f
 |[],us,f,h,_=>by cases h;exact .nil
 |d::ds,us,f,h,hs=>by
  simp only [List.all_cons,Bool.and_eq_true] at hs
  obtain ⟨v,vs,f1,f2,rfl,hv,hr,rfl⟩:=h.uncons
  have hst:d.still=true:=by cases d<;>simp_all [AV.simple,AV.still]
  exact LRel.cons (still_any hv hst O' (fun _ h=>h) (fun _ _=>rfl) (fun _ _=>rfl)) (simple_allI hr hs.2)
theorem Ry.same {O O':List AObj} {j:Nat} {cs cs':List AV} (h:cs=cs') (hs:cs'.all AV.still=true):Ry O O' j cs cs':=by
 subst h
 induction cs with
 |nil=>exact .nil
 |cons c cs ih=>
  simp only [List.all_cons,Bool.and_eq_true] at hs
  exact .keep rfl hs.1 (ih hs.2)
theorem Ry.rel {O O':List AObj} {j:Nat} {S w} {ι ι':Nat→Spot} (hj:ι' j=none) (hι:∀id,id<O.length→ι' id=ι id) {vs us:List AV} (h:Ry O O' j vs us):∀{xs f},LRel S w ι O vs xs f→∃f',LRel S w ι' O' us xs f'∧(∀ b∈f',b∈f)∧(f.Nodup→f'.Nodup):=by
 induction h with
 |nil=>intro xs f hl;cases hl;exact ⟨[],.nil,by simp,by simp⟩
 |any _ ih=>
  intro xs f hl
  obtain ⟨v,vs',f1,f2,rfl,hv,hr,rfl⟩:=hl.uncons
  obtain ⟨f',h1,h2,h3⟩:=ih hr
  exact ⟨f',.any h1,fun b hb=>List.mem_append_right _ (h2 b hb),fun hn=>h3 (List.nodup_append.1 hn).2.1⟩
 |keep he hs _ ih=>
  intro xs f hl
  subst he
  obtain ⟨v,vs',f1,f2,rfl,hv,hr,rfl⟩:=hl.uncons
  obtain ⟨f',h1,h2,h3⟩:=ih hr
  refine ⟨f1++f',LRel.cons (still_any hv hs O' (fun _ h=>h) (fun _ _=>rfl) (fun _ _=>rfl)) h1,?_,?_⟩
  ·intro b hb
   rcases List.mem_append.1 hb with hb|hb
   ·exact List.mem_append_left _ hb
   ·exact List.mem_append_right _ (h2 b hb)
  ·intro hn
   obtain ⟨n1,n2,n3⟩:=List.nodup_append.1 hn
   exact List.nodup_append.2 ⟨n1,h3 n2,fun a ha b hb=>n3 a ha b (h2 b hb)⟩
 |own ho ho' he he' hsz hln _ ih=>
  intro xs f hl
  subst hln
  obtain ⟨v,vs',f1,f2,rfl,hv,hr,rfl⟩:=hl.uncons
  obtain ⟨f',h1,h2,h3⟩:=ih hr
  refine ⟨f',?_,fun b hb=>List.mem_append_right _ (h2 b hb),fun hn=>h3 (List.nodup_append.1 hn).2.1⟩
  cases hv with
  |own q1 q2 q3 r=>
   rw [ho] at q1;cases q1
   exact .own ho' (by omega) (fun _=>by rw [hsz,hι _ (List.getElem?_eq_some_iff.1 ho).1];exact q3 he.symm) h1
 |ptr ho ho' he he' _ ih=>
  intro xs f hl
  obtain ⟨v,vs',f1,f2,rfl,hv,hr,rfl⟩:=hl.uncons
  obtain ⟨f',h1,h2,h3⟩:=ih hr
  refine ⟨f',?_,fun b hb=>List.mem_append_right _ (h2 b hb),fun hn=>h3 (List.nodup_append.1 hn).2.1⟩
  cases hv with
  |ptr q1 q2 q3 r=>
   rw [ho] at q1;cases q1
   exact .ptr ho' (by omega) (fun _=>by rw [hι _ (List.getElem?_eq_some_iff.1 ho).1];exact q3 he.symm) h1
 |fn hs _ ih=>
  intro xs f hl
  obtain ⟨v,vs',f1,f2,rfl,hv,hr,rfl⟩:=hl.uncons
  obtain ⟨f',h1,h2,h3⟩:=ih hr
  refine ⟨f',?_,fun b hb=>List.mem_append_right _ (h2 b hb),fun hn=>h3 (List.nodup_append.1 hn).2.1⟩
  cases hv with
  |fn a r=>cases r;exact .fn (simple_allI a hs) h1
 |agg _ _ ih1 ih2=>
  intro xs f hl
  obtain ⟨v,vs',f1,f2,rfl,hv,hr,rfl⟩:=hl.uncons
  obtain ⟨us',rfl,ha⟩:=LRel.agg_inv hv
  obtain ⟨g',a1,a2,a3⟩:=ih1 ha
  obtain ⟨f',h1,h2,h3⟩:=ih2 hr
  refine ⟨g'++f',.agg a1 h1,?_,?_⟩
  ·intro b hb
   rcases List.mem_append.1 hb with hb|hb
   ·exact List.mem_append_left _ (a2 b hb)
   ·exact List.mem_append_right _ (h2 b hb)
  ·intro hn
   obtain ⟨n1,n2,n3⟩:=List.nodup_append.1 hn
   exact List.nodup_append.2 ⟨a3 n1,h3 n2,fun a ha b hb=>n3 a (a2 a ha) b (h2 b hb)⟩
 |nilO hk hkj hep hlen _ ih=>
  intro xs f hl
  subst hkj;subst hlen
  obtain ⟨v,vs',f1,f2,rfl,hv,hr,rfl⟩:=hl.uncons
  obtain ⟨f',h1,h2,h3⟩:=ih hr
  refine ⟨f',?_,fun b hb=>List.mem_append_right _ (h2 b hb),fun hn=>h3 (List.nodup_append.1 hn).2.1⟩
  cases hv with
  |nilS r=>exact .own hk (by omega) (fun _=>by rw [hj];exact ⟨rfl,rfl,rfl⟩) h1
inductive RyT (O O':List AObj) (j:Nat) (T:List (Nat×AV)):List (Nat×AV)→Prop
 |nil:RyT O O' j T []
 |cons {t V T'}:Ry O O' j [look T t] [V]→RyT O O' j T T'→RyT O O' j T ((t,V)::T')
theorem RyT.at {O O' j T T'} (h:RyT O O' j T T') (t:Nat):Ry O O' j [look T t] [look T' t]:=by
 induction h with
 |nil=>exact .any .nil
 |@cons k V T' hk _ ih=>
  by_cases he:k=t
  ·subst he;rw [look_cons_same];exact hk
  ·rw [look_cons_other _ _ _ _ he];exact ih
inductive RyO (O O':List AObj) (j:Nat):List AObj→List AObj→Prop
 |last {ob'}:ob'.cells=[]→RyO O O' j [] [ob']
 |cons {ob ob' os os'}:Ry O O' j ob.cells ob'.cells→(ob'.ty=none∨ob'.ty=ob.ty)→RyO O O' j os os'→RyO O O' j (ob::os) (ob'::os')
theorem RyO.len {O O' j os os'} (h:RyO O O' j os os'):os'.length=os.length+1:=by
 induction h with
 |last=>rfl
 |cons _ _ _ ih=>simp [ih]
theorem RyO.at {O O' j os os'} (h:RyO O O' j os os') {id:Nat} {ob':AObj} (hi:os'[id]?=some ob'):(id=os.length∧ob'.cells=[])∨∃ob,os[id]?=some ob∧Ry O O' j ob.cells ob'.cells∧(ob'.ty=none∨ob'.ty=ob.ty):=by
 induction h generalizing id with
 |last h=>
  cases id with
  |zero=>simp at hi;subst hi;exact .inl ⟨rfl,h⟩
  |succ id=>simp at hi
 |cons h1 h2 _ ih=>
  cases id with
  |zero=>simp at hi;subst hi;exact .inr ⟨_,by simp,h1,h2⟩
  |succ id=>
   rcases ih (by simpa using hi) with ⟨h3,h4⟩|⟨ob,h3,h4⟩
   ·exact .inl ⟨by simp [h3],h4⟩
   ·exact .inr ⟨ob,by simpa using h3,h4⟩
end Go.Abs


namespace Go.Abs
open Go
structure HandX (O:List AObj) (hs:List Nat) (vs us:List AV):Prop where
 rel:∀{M:List AObj} {S S2:Nat→Prop} {w:World} {ι ιM:Nat→Spot} {F:Nat→List Nat},(hs.length=M.length∧∀(j:Nat) (mb:AObj),M[j]?=some mb→∃id ob,hs[j]?=some id∧O[id]?=some ob∧mb.ep=0∧mb.size=ob.size)→
 (∀ (j id:Nat),hs[j]?=some id→ιM j=ι id)→(∀ b,S b→S2 b)→ORel S w ι O F→(∀ b,b<w.heap.size→(∀ id∈hs,b ∉ F id)→S2 b)→(∀ id∈hs,id<O.length)→∀{xs},LRel S w ι O vs xs []→LRel S2 w ιM M us xs []
theorem Hand.x {O:List AObj} {hs:List Nat} {vs us:List AV} (h:Hand O hs vs us):HandX O hs vs us:=⟨fun hM hι hS hO hS2 hlt _ hl=>Hand.relH hM hι hS hO hS2 hlt h hl⟩
theorem HandX.cons {O:List AObj} {hs:List Nat} {V U:AV} {vs us:List AV} (h1:HandX O hs [V] [U]) (h2:HandX O hs vs us):HandX O hs (V::vs) (U::us):=⟨fun hM hι hS hO hS2 hlt _ hl=>by
 obtain ⟨v,vs',f1,f2,rfl,hv,hr,hf⟩:=hl.uncons
 obtain ⟨rfl,rfl⟩:f1=[]∧f2=[]:=by simpa using hf
 have a:=h1.rel hM hι hS hO hS2 hlt hv
 have b:=h2.rel hM hι hS hO hS2 hlt hr
 obtain ⟨y,ys,g1,g2,e,hy,hys,hg⟩:=a.uncons
 cases e
 obtain ⟨rfl,rfl⟩:g1=[]∧g2=[]:=by simpa using hg
 simpa using LRel.cons hy b⟩
theorem HandX.fn {O:List AObj} {hs:List Nat} {g:FuncId} {ds es:List AV} (h:Hand O hs ds es):HandX O hs [.fn g ds] [.fn g es]:=⟨fun hM hι hS hO hS2 hlt _ hl=>by
 cases hl with
 |fn a r=>cases r;exact .fn (Hand.relH hM hι hS hO hS2 hlt h a) .nil⟩
section
variable {P:Program} {n m:Nat} {G:Ctx} {T:List (Nat×AV)} {O:List AObj} {Q:Exit→St→Prop} {ops:Array Oper} {l:List Oper} {tt:TypeId} {pos:String} {after:Array Edge} {tab:List (Nat×Ty)}
theorem WpA.unW {c:Code} {σ:St} (h:WpA P n m G c σ fun e s=>∃s2,Weak m s s2∧Q e s2):WpA P n m G c σ Q:=fun a w hr=>wp_mono (h a w hr) fun e a' w' ⟨s,⟨s2,hw,hq⟩,hR⟩=>⟨s2,hq,hw _ _ _ _ hR⟩
theorem FnH.of_bodyW (hP:TabOk P tab) {f:FuncId} {fn:Func} {c:Code} {args:List AV} {M OO:List AObj} {r:AV} {k m:Nat} (hf:P.funcs[f]?=some fn) (hnt:fn.ntmps=k) (hb:fn.body=some c) (hnm:(fn.name== "runtime.NumGoroutine")=false)
 (hal:args.length≤k) (hml:m≤M.length) (hmo:m≤OO.length) (h:∀G,WpA P k m G c ⟨enumT 0 args,M⟩ fun e s=>∃s2,Weak m s s2∧FinH tab fn.results OO r e s2):FnH P f args m M OO r:=
 FnH.of_body hP hf hnt hb hnm hal hml hmo fun G=>(h G).unW
def FnAt (G:Ctx) (g:FuncId) (cs:List AV) (fv:Value):Prop:=(∀ b,G.S0 b→b<G.w0.heap.size∧¬G.M0 b)∧∃u0 u1:Value,fv=.func (.func g) #[] #[u0,u1]∧LRel G.S0 G.w0 G.ι0 [] [.iptr cs 0] [u0] []∧
 ∀(S:Nat→Prop) (w:World) (ι:Nat→Spot) (O:List AObj) (ob:AObj),O[0]?=some ob→ι 0=G.ι0 0→LRel S w ι O [.ptr 0 0 0] [u1] []
theorem FnAt.rel {g:FuncId} {cs:List AV} {fv:Value} (h:FnAt G g cs fv) {S:Nat→Prop} {w:World} {ι:Nat→Spot} {F:Nat→List Nat} {a:Act} {ob:AObj} (hr:RelAt n m G S ι F ⟨T,O⟩ a w) (hm:0<m) (ho:O[0]?=some ob):∃us:List Value,fv=.func (.func g) #[] us.toArray∧LRel S w ι O [.iptr cs 0,.ptr 0 0 0] us []:=by
 obtain ⟨hs,u0,u1,rfl,h0,h1⟩:=h
 refine ⟨[u0,u1],rfl,?_⟩
 have a0:LRel S w ι O [.iptr cs 0] [u0] []:=(h0.mono (Later.none [] (fun b hb=>hr.base.1 b hb) (fun b hb=>hr.keeps.block b (hs b hb).1 (hs b hb).2)) (by simp)).lift
 have a1:=h1 S w ι O ob ho (hr.spots 0 hm)
 simpa using a0.append a1
end
end Go.Abs


namespace Go.Abs
open Go
section
variable {P:Program} {n m:Nat} {G:Ctx} {T:List (Nat×AV)} {O:List AObj} {Q:Exit→St→Prop} {ops:Array Oper} {l:List Oper} {d:Nat} {tt:TypeId} {pos:String} {after:Array Edge} {tab:List (Nat×Ty)}
theorem RelAt.ptrE {S ι F a w} (hr:RelAt n m G S ι F ⟨T,O⟩ a w) {x:Operand} {id ep off:Nat} {ob:AObj} (hx:av T x=.ptr id ep off) (ho:O[id]?=some ob) (he:ob.ep=ep):
 ∃b k cur t fz,ι id=some (b,k)∧a.eval x=.pointer (some ⟨b,off,none⟩)∧w.heap[b]?=some (.cells cur t fz)∧cur.size=k∧ob.cells.length≤k∧(∀ e,ob.ty=some e→t=e∧fz=(0,0)):=by
 have hv:=hr.eval x
 rw [hx] at hv
 cases hv with
 |ptr q1 q2 q3 r=>
  rw [show (St.mk T O).O[id]?=some ob from ho] at q1
  cases q1
  have hp:=q3 he.symm
  have hob:=hr.objs.obj id ob ho
  unfold ObjAt at hob
  cases hs:ι id with
  |none=>rw [hs] at hp;exact hp.elim
  |some p=>
   obtain ⟨b,k⟩:=p
   rw [hs] at hp hob
   obtain ⟨cur,t,fz,f',_,h2,h3,h4,_,h6,_⟩:=hob
   exact ⟨b,k,cur,t,fz,rfl,hp,h2,h3,h4,h6⟩
theorem WpL.toUns {s t u:TypeId} {x:Operand} {id ep off:Nat} {ob:AObj} {j:TypeInfo} (hs:P.underlying s=some (.pointer u)) (ht:P.underlying t=some .unsafePointer) (hu:P.info? u=some j) (hj:j.size≠0)
 (hx:av T x=.ptr id ep off) (ho:O[id]?=some ob) (he:ob.ep=ep) (hoff:off<ob.cells.length) (hn:d<n) (h:WpL P n m G false ops l ⟨(d,.ptr id ep off)::T,O⟩ Q):
 WpL P n m G false ops ({dst:=some d,op:=.convert s t x,type:=tt,pos:=pos,after:=after,guard:=none}::l) ⟨T,O⟩ Q:=
 WpL.pure rfl rfl hn (fun S ι F a w hr=>by
  obtain ⟨b,k,cur,tb,fz,hι,hxe,hb,hk,hle,hty⟩:=hr.ptrE hx ho he
  have hsh:w.shape? b=some (tb,cur.size):=by simp [World.shape?,hb]
  have hrun:=Lib.run_to_unsafe (P:=P) w (src:=s) (dst:=t) (cells:=cur.size) ⟨b,off,none⟩ hs ht hu hj hsh (by show off<cur.size;omega)
  have hv:=hr.eval x
  rw [hx,hxe] at hv
  exact ⟨.pointer (some ⟨b,off,none⟩),by simp only [execOp,hxe,Sem.run_bind,hrun,Result.andThen_ok,Sem.run_pure],hv⟩) h
theorem liesAt_same {P:Program} {e c:Nat} (hc:P.cellsOf e=c) (hc0:0<c) (count:Nat) (hn:1≤count):liesAt P P.depth e count 0 e 1=true:=by
 have hd:P.depth=(2*(P.types.size+Made.depth)+1)+1:=rfl
 rw [hd]
 simp only [liesAt,Bool.or_eq_true]
 left
 rw [hd]
 have:¬c=0:=by omega
 simp [rowAt,hc,hn,sameLayout,this]
theorem WpL.ofUns {s t u c:TypeId} {x:Operand} {id ep:Nat} {ob:AObj} {j:TypeInfo} (hs:P.underlying s=some .unsafePointer) (ht:P.underlying t=some (.pointer u)) (hu:P.info? u=some j) (hc:P.cellsOf u=c) (hc0:0<c)
 (hx:av T x=.ptr id ep 0) (ho:O[id]?=some ob) (he:ob.ep=ep) (hty:ob.ty=some u) (hlen:c≤ob.cells.length) (hn:d<n) (h:WpL P n m G false ops l ⟨(d,.ptr id ep 0)::T,O⟩ Q):
 WpL P n m G false ops ({dst:=some d,op:=.convert s t x,type:=tt,pos:=pos,after:=after,guard:=none}::l) ⟨T,O⟩ Q:=
 WpL.pure rfl rfl hn (fun S ι F a w hr=>by
  obtain ⟨b,k,cur,tb,fz,hι,hxe,hb,hk,hle,hty2⟩:=hr.ptrE hx ho he
  obtain ⟨rfl,rfl⟩:=hty2 u hty
  have hsh:w.shape? b=some (tb,cur.size):=by simp [World.shape?,hb]
  have hrun:=Lib.run_from_unsafe (P:=P) w (src:=s) (dst:=t) (cells:=cur.size) ⟨b,0,none⟩ hs ht hu hsh (liesAt_same hc hc0 _ (by rw [hc];exact (Nat.le_div_iff_mul_le hc0).2 (by rw [Nat.one_mul,hk];exact Nat.le_trans hlen hle)))
  have hv:=hr.eval x
  rw [hx,hxe] at hv
  exact ⟨.pointer (some ⟨b,0,none⟩),by simp only [execOp,hxe,Sem.run_bind,hrun,Result.andThen_ok,Sem.run_pure],hv⟩) h
theorem WpL.extId {f:FuncId} {fn:Func} {x:Operand} {ats:Array TypeId} {V:AV} (hf:P.funcs[f]?=some fn) (hname:(fn.name== "runtime.NumGoroutine")=false) (hb:fn.body.isNone=true) (hnx:Extern.findNext fn=none)
 (he:Extern.find fn=some Extern.AbiNoEscape.same) (hx:av T x=V) (hn:d<n) (h:WpL P n m G false ops l ⟨(d,V)::T,O⟩ Q):
 WpL P n m G false ops ({dst:=some d,op:=.call {callee:=.value (.func f),args:=#[x],argTypes:=ats},type:=tt,pos:=pos,after:=after,guard:=none}::l) ⟨T,O⟩ Q:=
 WpL.pure rfl rfl hn (fun S ι F a w hr=>by
  have hrun:=run_callFunc_extern hf hname hb hnx he #[a.eval x] w
  rw [Lib.run_noEscape] at hrun
  have hv:=hr.eval x
  rw [show av (St.mk T O).T x=V from hx] at hv
  refine ⟨a.eval x,?_,hv⟩
  have e0:a.eval (.func f)=.func (.func f) #[] #[]:=rfl
  simp only [execOp,resolve,e0,Deferred.ofValue,invoke,List.map_toArray,List.map_cons,List.map_nil,Sem.run_bind,Sem.run_pure,Result.andThen_ok]
  exact hrun) h
theorem WpL.ptrSame {t te ty:TypeId} {x y:Operand} {id ep off:Nat} {ob:AObj} {j:TypeInfo} (hp:P.underlying t=some (.pointer te)) (hte:P.info? te=some j) (hx:av T x=.ptr id ep off) (hy:av T y=.ptr id ep off) (ho:O[id]?=some ob) (he:ob.ep=ep) (hn:d<n)
 (hg:P.eqGuardType P.depth t=false)
 (h:WpL P n m G false ops l ⟨(d,.sc (.bool false))::T,O⟩ Q):
 WpL P n m G false ops ({dst:=some d,op:=.binOp .neq t x y ty,type:=tt,pos:=pos,after:=after,guard:=none}::l) ⟨T,O⟩ Q:=
 WpL.pure rfl rfl hn (fun S ι F a w hr=>by
  obtain ⟨b,k,cur,tb,fz,hι,hxe,hb,hk,hle,hty⟩:=hr.ptrE hx ho he
  obtain ⟨b',k',_,_,_,hι',hye,_⟩:=hr.ptrE hy ho he
  rw [hι] at hι';cases hι'
  have hrun:=Lib.run_neq_ptr_same (P:=P) w ⟨b,off,none⟩ hp hte
  refine ⟨.bool false,?_,.sc .nil⟩
  simp only [execOp,hxe,hye,Sem.run_bind,Sem.run_pure,Result.andThen_ok]
  simp [eqGuard,hrun,Sem.run_bind]) h
theorem WpL.slData {md:Bool} {ats:Array TypeId} {x:Operand} {id ep len:Nat} {ob:AObj} (hx:av T x=.own id ep 0 len) (hl:0<len) (ho:O[id]?=some ob) (he:ob.ep=ep) (hn:d<n) (h:WpL P n m G md ops l ⟨(d,.ptr id ep 0)::T,O⟩ Q):
 WpL P n m G md ops ({dst:=some d,op:=.call {callee:=.builtin .unsafeSliceData,args:=#[x],argTypes:=ats},type:=tt,pos:=pos,after:=after,guard:=none}::l) ⟨T,O⟩ Q:=
 WpL.pure rfl rfl hn (fun S ι F a w hr=>by
  have hv:=hr.eval x
  rw [show av (St.mk T O).T x=_ from hx] at hv
  cases hv with
  |own q1 q2 q3 r=>
   rw [show (St.mk T O).O[id]?=some ob from ho] at q1
   cases q1
   have hc:=q3 he.symm
   cases hs:ι id with
   |none=>rw [hs] at hc;obtain ⟨_,_,h3⟩:=hc;omega
   |some p=>
    obtain ⟨b,k⟩:=p
    rw [hs] at hc
    obtain ⟨cap,h1,h2,h3,h4⟩:=hc
    have hrun:=Lib.run_unsafeSliceData_row (P:=P) w ats tt ⟨b,0,none⟩ len cap (by omega)
    refine ⟨.pointer (some ⟨b,0,none⟩),?_,.ptr ho (Nat.le_of_eq he.symm) (fun _=>by rw [hs];rfl) .nil⟩
    simp only [execOp,resolve,invoke,builtin,Sem.run_bind,Sem.run_pure,Result.andThen_ok,List.map_toArray,List.map_cons,List.map_nil,h1,hrun]) h
theorem lrel_u8s2 {S w ι O F}:∀{xs:List UInt8} {us},LRel S w ι O (u8s (xs.map fun b=>(b.toNat:Int))) us F→us=xs.map (fun b=>Value.int .u8 b.toNat)
 |[],us,h=>by cases h;rfl
 |x::xs,us,h=>by
  cases h with
  |sc h2=>rw [lrel_u8s2 h2];rfl
theorem WpL.strOver {pt it e:TypeId} {x y:Operand} {id ep sz:Nat} {s:List UInt8} (hpt:P.underlying pt=some (.pointer e)) (hc:P.cellsOf e=1) (hx:av T x=.ptr id ep 0) (ho:O[id]?=some ⟨u8s (s.map fun b=>(b.toNat:Int)),ep,sz,some e⟩)
 (hs0:0<s.length) (h63:s.length≤9223372036854775807) (hy:av T y=.sc (.int .i64 s.length)) (hm:m≤id) (hn:d<n)
 (h:WpL P n m G false ops l ⟨(d,.sc (.string ⟨s.toArray⟩))::T,O.set id ⟨[],ep+1,0,none⟩⟩ Q):
 WpL P n m G false ops ({dst:=some d,op:=.call {callee:=.builtin .unsafeString,args:=#[x,y],argTypes:=#[pt,it]},type:=tt,pos:=pos,after:=after,guard:=none}::l) ⟨T,O⟩ Q:=
 WpL.value rfl (fun a w hr=>by
  obtain ⟨S,ι,F,hr⟩:=hr
  obtain ⟨b,k,cur,tb,fz,hι,hxe,hb,hk,hle,hty⟩:=hr.ptrE hx ho rfl
  obtain ⟨rfl,rfl⟩:=hty e rfl
  have hye:=hr.sc hy
  have hob:=hr.objs.obj id _ ho
  unfold ObjAt at hob
  rw [hι] at hob
  obtain ⟨cur',t',fz',f',hF,hb',hk',hle',hfz',hty',hl⟩:=hob
  rw [hb] at hb';cases hb'
  have hus:=lrel_u8s2 hl
  have hlen:(u8s (s.map fun b=>(b.toNat:Int))).length=s.length:=by simp
  have hcell:∀j x,s[j]?=some x→w.cell? ((⟨b,0,none⟩:Addr).add j)=some (.int .u8 x.toNat):=by
   intro j x hj
   have hlt:=(List.getElem?_eq_some_iff.1 hj).1
   rw [addr_add,Nat.zero_add,cell_of_row w b j cur tb (0,0) hb]
   have h1:(cur.toList.take (u8s (s.map fun b=>(b.toNat:Int))).length)[j]?=some (Value.int .u8 x.toNat):=by
    rw [hus,List.getElem?_map,hj];rfl
   rw [hlen,List.getElem?_take,if_pos hlt] at h1
   simpa using h1
  have hsh:w.shape? b=some (tb,cur.size):=by simp [World.shape?,hb]
  have hrun:=Lib.run_unsafeString_row (P:=P) w pt it tt tb hpt hc b cur.size hsh s (by intro hh;rw [hh] at hs0;simp at hs0) (by rw [hlen] at hle;omega) h63 hcell
  have hfr:∀b',b'≠b→(w.freeze ⟨b,0,none⟩ s.length).heap[b']?=w.heap[b']?:=by
   intro b' hb'
   unfold World.freeze
   rw [if_neg (by omega)]
   simp only [Array.getElem?_modify]
   rw [if_neg (fun h=>hb' h.symm)]
  have hsz:(w.freeze ⟨b,0,none⟩ s.length).heap.size=w.heap.size:=by unfold World.freeze;rw [if_neg (by omega)];simp
  have hoth:(w.freeze ⟨b,0,none⟩ s.length).os=w.os∧(w.freeze ⟨b,0,none⟩ s.length).tape=w.tape∧(w.freeze ⟨b,0,none⟩ s.length).output=w.output:=by unfold World.freeze;rw [if_neg (by omega)];exact ⟨rfl,rfl,rfl⟩
  have hr':=hr.renew (w':=w.freeze ⟨b,0,none⟩ s.length) (ob':=⟨[],ep+1,0,none⟩) (s':=none) (f':=[]) ho hm (by simp) hoth.1 hoth.2.1 hoth.2.2 (by omega) (fun b' _ hb'=>by
   refine hfr b' ?_
   rintro rfl
   rcases hb' with hb'|⟨hb',_⟩
   ·exact hb' (by rw [hF];simp)
   ·simp at hb') (fun _=>⟨rfl,rfl⟩) (by simp) (by simp)
  refine ⟨.string ⟨s.toArray⟩,_,?_,_,_,_,hr'.2.put hn (.sc .nil)⟩
  simp only [execOp,resolve,invoke,builtin,Sem.run_bind,Sem.run_pure,Result.andThen_ok,List.map_toArray,List.map_cons,List.map_nil,hxe,hye,hrun]) h
theorem WpL.nilYes {t ty:TypeId} {x y:Operand} (hp:P.underlying t=some (.pointer (P.pointee t))) (hx:av T x=.sc (.pointer none)) (hy:av T y=.sc (.pointer none)) (hn:d<n) (h:WpL P n m G false ops l ⟨(d,.sc (.bool true))::T,O⟩ Q):
 WpL P n m G false ops ({dst:=some d,op:=.binOp .eql t x y ty,type:=tt,pos:=pos,after:=after,guard:=none}::l) ⟨T,O⟩ Q:=
 WpL.pure rfl rfl hn (fun S ι F a w hr=>by
  have hrun:=run_eql_pointer_nil (P:=P) w t none hp
  refine ⟨.bool true,?_,.sc .nil⟩
  simp only [execOp,hr.sc hx,hr.sc hy,Sem.run_bind,Sem.run_pure,Result.andThen_ok]
  simp [eqGuard,hrun,Sem.run_bind]) h
theorem WpL.nilNo {t ty:TypeId} {x y:Operand} {id ep off:Nat} {ob:AObj} (hp:P.underlying t=some (.pointer (P.pointee t))) (hx:av T x=.ptr id ep off) (ho:O[id]?=some ob) (he:ob.ep=ep) (hy:av T y=.sc (.pointer none)) (hn:d<n) (h:WpL P n m G false ops l ⟨(d,.sc (.bool false))::T,O⟩ Q):
 WpL P n m G false ops ({dst:=some d,op:=.binOp .eql t x y ty,type:=tt,pos:=pos,after:=after,guard:=none}::l) ⟨T,O⟩ Q:=
 WpL.pure rfl rfl hn (fun S ι F a w hr=>by
  obtain ⟨b,k,cur,tb,fz,hι,hxe,hb,hk,hle,hty⟩:=hr.ptrE hx ho he
  have hrun:=run_eql_pointer_nil (P:=P) w t (some ⟨b,off,none⟩) hp
  refine ⟨.bool false,?_,.sc .nil⟩
  simp only [execOp,hxe,hr.sc hy,Sem.run_bind,Sem.run_pure,Result.andThen_ok]
  simp [eqGuard,hrun,Sem.run_bind]) h
abbrev ByO (e:Nat) (s:List UInt8) (ep:Nat):AObj:=⟨u8s (s.map fun b=>(b.toNat:Int)),ep,1,some e⟩
theorem lrel_u8m {S w ι O}:∀(s:List UInt8),LRel S w ι O (u8s (s.map fun b=>(b.toNat:Int))) (s.map fun b=>Value.int .u8 b.toNat) []
 |[]=>.nil
 |_::s=>.sc (lrel_u8m s)
theorem u8l_f {S w ι O F}:∀{xs:List UInt8} {us},LRel S w ι O (u8s (xs.map fun b=>(b.toNat:Int))) us F→F=[]
 |[],us,h=>by cases h;rfl
 |x::xs,us,h=>by
  cases h with
  |sc h2=>exact u8l_f h2
theorem WpL.appStr {t u e:TypeId} {i:TypeInfo} {x y:Operand} {id ep len:Nat} {s0 s:List UInt8} (ht:P.underlying t=some (.slice e)) (hu:P.underlying u=some .string) (hi:P.info? e=some i) (hz:i.zero=some (.int .u8 0)) (hsize:i.size=1) (hby:i.bytes=1)
 (hx:av T x=.own id ep 0 len) (ho:O[id]?=some (ByO e s0 ep)) (hl0:s0.length=len) (hm:m≤id) (hy:av T y=.sc (.string ⟨s.toArray⟩)) (hb:len+s.length≤1099511627776) (hn:d<n)
 (h:WpL P n m G false ops l ⟨(d,.own id (ep+1) 0 (len+s.length))::T,O.set id (ByO e (s0++s) (ep+1))⟩ Q):
 WpL P n m G false ops ({dst:=some d,op:=.call {callee:=.builtin .append,args:=#[x,y],argTypes:=#[t,u]},type:=tt,pos:=pos,after:=after,guard:=none}::l) ⟨T,O⟩ Q:=
 WpL.value rfl (fun a w hr=>by
  obtain ⟨S,ι,F,hr⟩:=hr
  have hid:id<O.length:=(List.getElem?_eq_some_iff.1 ho).1
  have hye:=hr.sc hy
  have hsz:(ByteArray.mk s.toArray).size=s.length:=by simp [ByteArray.size]
  have hcl:Lib.strCells ⟨s.toArray⟩=s.map fun b=>Value.int .u8 b.toNat:=by simp [Lib.strCells]
  have hv:=hr.eval x
  rw [show av (St.mk T O).T x=_ from hx] at hv
  have hob:=hr.objs.obj id _ ho
  unfold ObjAt at hob
  have hown:OwnAt (ι id) 1 0 len (a.eval x):=by
   cases hv with
   |own q1 q2 q3 r=>
    rw [show (St.mk T O).O[id]?=some _ from ho] at q1
    cases q1
    exact q3 rfl
  have hlenA:(u8s ((s0++s).map fun b=>(b.toNat:Int))).length=len+s.length:=by simp [hl0]
  have finish:∀(w':World) (s':Spot) (f':List Nat) (v:Value),(Builtin.append_ #[t,u] tt #[a.eval x,a.eval y]).run P w=.ok v w'→
   Later S w ι O S w' (upd ι id s') (O.set id (ByO e (s0++s) (ep+1)))∧RelAt n m G S (upd ι id s') (upd F id f') ⟨T,O.set id (ByO e (s0++s) (ep+1))⟩ a w'→OwnAt s' 1 0 (len+s.length) v→
   ∃v w',(execOp a.eval {dst:=some d,op:=.call {callee:=.builtin .append,args:=#[x,y],argTypes:=#[t,u]},type:=tt,pos:=pos,after:=after,guard:=none}).run P w=.ok (.value v) w'∧
    Rel n m G ⟨(d,.own id (ep+1) 0 (len+s.length))::T,O.set id (ByO e (s0++s) (ep+1))⟩ (a.put (some d) v) w':=by
   intro w' s' f' v hrun hr' hoa
   refine ⟨v,w',by simp only [execOp,resolve,invoke,builtin,Sem.run_bind,Sem.run_pure,Result.andThen_ok,List.map_toArray,List.map_cons,List.map_nil,hrun],_,_,_,hr'.2.put hn ?_⟩
   exact .own (ob:=ByO e (s0++s) (ep+1)) (by rw [List.getElem?_set_self hid]) (Nat.le_refl _) (fun _=>by rw [upd_same];exact hoa) .nil
  have fresh:∀(oldc:Nat),len+s.length≤grownCap w (len+s.length) oldc e→
   (Builtin.append_ #[t,u] tt #[a.eval x,a.eval y]).run P w=.ok (.slice (some ⟨w.heap.size,0,none⟩) (len+s.length) (grownCap w (len+s.length) oldc e)) (w.drew.alloc (.cells ((s0.map fun b=>Value.int .u8 b.toNat).toArray++(s.map fun b=>Value.int .u8 b.toNat).toArray++Builtin.zeroCells (Value.int .u8 0).cells (grownCap w (len+s.length) oldc e-(len+s.length))) e))→
   ∃v w',(execOp a.eval {dst:=some d,op:=.call {callee:=.builtin .append,args:=#[x,y],argTypes:=#[t,u]},type:=tt,pos:=pos,after:=after,guard:=none}).run P w=.ok (.value v) w'∧
    Rel n m G ⟨(d,.own id (ep+1) 0 (len+s.length))::T,O.set id (ByO e (s0++s) (ep+1))⟩ (a.put (some d) v) w':=by
   intro oldc hge hrun
   have hcm:=grownCap_le_maxLen w (len+s.length) oldc e (by simp only [maxLen];omega)
   have hA:=adds_drew_alloc w (.cells ((s0.map fun b=>Value.int .u8 b.toNat).toArray++(s.map fun b=>Value.int .u8 b.toNat).toArray++Builtin.zeroCells (Value.int .u8 0).cells (grownCap w (len+s.length) oldc e-(len+s.length))) e)
   have hz1:(Value.int IntKind.u8 0).cells.size=1:=rfl
   have hszc:((s0.map fun b=>Value.int .u8 b.toNat).toArray++(s.map fun b=>Value.int .u8 b.toNat).toArray++Builtin.zeroCells (Value.int .u8 0).cells (grownCap w (len+s.length) oldc e-(len+s.length))).size=grownCap w (len+s.length) oldc e:=by
    simp only [Array.size_append,List.size_toArray,zeroCells_size,hz1,List.length_map,hl0];omega
   refine finish _ (some (w.heap.size,grownCap w (len+s.length) oldc e)) [w.heap.size] _ hrun (hr.renew (ob':=ByO e (s0++s) (ep+1)) ho hm (Nat.lt_succ_self ep) rfl rfl rfl (by rw [hA.size];omega) (fun b' hb' _=>hA.old hb') ?_ (by simp) ?_) ⟨_,rfl,by omega,hge,hcm⟩
   ·intro hlat
    refine ⟨_,e,(0,0),[],rfl,hA.new,hszc,by show (u8s _).length≤_;rw [hlenA];exact hge,by simp,by simp,?_⟩
    have htk:((s0.map fun b=>Value.int .u8 b.toNat).toArray++(s.map fun b=>Value.int .u8 b.toNat).toArray++Builtin.zeroCells (Value.int .u8 0).cells (grownCap w (len+s.length) oldc e-(len+s.length))).toList.take (u8s ((s0++s).map fun b=>(b.toNat:Int))).length=(s0++s).map fun b=>Value.int .u8 b.toNat:=by
     rw [Array.toList_append,Array.toList_append]
     refine (List.take_left' ?_).trans (by simp)
     rw [hlenA];simp [hl0]
    show LRel S _ _ _ (u8s _) _ []
    rw [htk]
    exact lrel_u8m _
   ·intro b' hb'
    rw [List.mem_singleton] at hb';subst hb'
    exact .inr ⟨Nat.le_refl _,by rw [hA.size];omega⟩
  cases hspot:ι id with
  |none=>
   rw [hspot] at hown hob
   obtain ⟨hxe,_,hlen0⟩:=hown
   obtain ⟨hcells,hFid⟩:=hob
   have hs0:s0=[]:=List.eq_nil_of_length_eq_zero (by omega)
   by_cases hc0:s.length=0
   ·have hs:s=[]:=List.eq_nil_of_length_eq_zero hc0
    subst hs
    have hrun:(Builtin.append_ #[t,u] tt #[a.eval x,a.eval y]).run P w=.ok (.slice none 0 0) w:=by
     have hf:=Lib.run_firstCells_string (P:=P) w 1 ⟨#[]⟩
     have h0:(ByteArray.mk #[]).size=0:=rfl
     rw [h0] at hf
     rw [hxe,hye]
     simp [Builtin.append_,run_underlying ht,run_underlying hu,sizeOf,typeInfo,hi,hsize,Builtin.lenOf,hf,h0]
    refine finish w none [] _ hrun (hr.renew (ob':=ByO e (s0++[]) (ep+1)) ho hm (Nat.lt_succ_self ep) rfl rfl rfl (Nat.le_refl _) (fun _ _ _=>rfl) (fun _=>⟨by rw [hs0];rfl,rfl⟩) (by simp) (by simp)) ⟨rfl,rfl,by simp [hlen0]⟩
   ·have hr0:=run_append_nil_string (P:=P) w t u tt e i (.int .u8 0) ht hu hi hz ⟨s.toArray⟩ (by rw [hsz];omega) (by rw [hsz];omega) (by rw [hsz,hby];omega)
    rw [hsz] at hr0
    refine fresh 0 (grownCap_ge _ _ _ _) ?_
    rw [hxe,hye,hr0,hs0]
    subst hlen0
    simp only [Nat.zero_add,List.map_nil,Array.empty_append]
    congr 3
    simp
  |some p=>
   obtain ⟨b0,k0⟩:=p
   rw [hspot] at hown hob
   obtain ⟨cap,hxe,hcap0,hlc,hcm⟩:=hown
   obtain ⟨cur,t',fz,f',hF,hh,hcur,hle,hfz,htyp,hlo⟩:=hob
   obtain ⟨rfl,rfl⟩:=htyp e rfl
   have hcurs:cur.size=cap:=by rw [hcur,←hcap0];omega
   have hf0:f'=[]:=u8l_f hlo
   have hlo2:=lrel_u8s2 hlo
   have hl8:(u8s (s0.map fun b=>(b.toNat:Int))).length=len:=by simp [hl0]
   rw [show (ByO t' s0 ep).cells.length=len from hl8] at hlo2
   by_cases hroom:len+s.length≤cap
   ·have hrun:=Lib.run_append_room_string (P:=P) w t u tt t' i ht hu hi hsize b0 len cap cur hh ⟨s.toArray⟩ (by rw [hsz];exact hroom) (by rw [hsz,hcurs];exact hroom)
    rw [hsz,hcl] at hrun
    have hsr:=setRow_heap w b0 cur (cur.toList.take len++(s.map fun b=>Value.int .u8 b.toNat)++cur.toList.drop (len+s.length)).toArray t' (0,0) hh
    have hso:∀b',b'≠b0→(w.setRow b0 (cur.toList.take len++(s.map fun b=>Value.int .u8 b.toNat)++cur.toList.drop (len+s.length)).toArray).heap[b']?=w.heap[b']?:=fun b' hb'=>setRow_other w b0 b' _ hb'
    refine finish (w.setRow b0 (cur.toList.take len++(s.map fun b=>Value.int .u8 b.toNat)++cur.toList.drop (len+s.length)).toArray) (some (b0,k0)) [b0] _ (by rw [hxe,hye];exact hrun) (hr.renew (ob':=ByO t' (s0++s) (ep+1)) ho hm (Nat.lt_succ_self ep) rfl rfl rfl (by simp) ?_ ?_ (by simp) ?_) ⟨cap,rfl,by rw [←hcap0],hroom,hcm⟩
    ·intro b' _ hb'
     refine hso b' ?_
     rintro rfl
     rcases hb' with hb'|⟨_,hb'⟩
     ·exact hb' (by rw [hF];simp)
     ·exact hb' k0 rfl
    ·intro hlat
     refine ⟨_,t',(0,0),[],rfl,hsr,?_,?_,by simp,by simp,?_⟩
     ·rw [←hcur,hcurs];simp;omega
     ·show (u8s _).length≤k0
      rw [hlenA,←hcur,hcurs];exact hroom
     ·show LRel S _ _ _ (u8s _) _ []
      have htk:(cur.toList.take len++(s.map fun b=>Value.int .u8 b.toNat)++cur.toList.drop (len+s.length)).toArray.toList.take (u8s ((s0++s).map fun b=>(b.toNat:Int))).length=(s0++s).map fun b=>Value.int .u8 b.toNat:=by
       show (cur.toList.take len++(s.map fun b=>Value.int .u8 b.toNat)++cur.toList.drop (len+s.length)).take _=_
       rw [hlo2,hlenA]
       refine (List.take_left' ?_).trans (by simp)
       simp [hl0]
      rw [htk]
      exact lrel_u8m _
    ·intro b' hb'
     rw [List.mem_singleton] at hb';subst hb'
     exact .inl (by rw [hF];simp)
   ·have hrun:=Lib.run_append_grow_string (P:=P) w t u tt t' i (.int .u8 0) ht hu hi hz ⟨b0,0,none⟩ len cap (s0.map fun b=>Value.int .u8 b.toNat) (by simp [hl0,hsize]) (by
     intro j v hj
     have hlt:=(List.getElem?_eq_some_iff.1 hj).1
     rw [addr_add,Nat.zero_add,cell_of_row w b0 j cur t' (0,0) hh]
     rw [←hlo2,List.getElem?_take] at hj
     split at hj
     ·simpa using hj
     ·simp at hj) ⟨s.toArray⟩ (by rw [hsz];omega) (by rw [hsz];omega) (by rw [hsz,hby];exact growslice_fits (by omega) (by omega))
    rw [hsz,hcl] at hrun
    exact fresh cap (grownCap_ge _ _ _ _) (by rw [hxe,hye];exact hrun)) h
end
end Go.Abs


namespace Go.Proofs.Ytkckmenalehdpaa
open Go Go.Abs
end Go.Proofs.Ytkckmenalehdpaa


namespace Go.Proofs.Ytkckmenalehdpaa
open Go Go.Abs
attribute [local irreducible] WpA WpL Rnd Blk Abs.Seq Abs.Fin FnC
abbrev nilP:AV:=.sc (.pointer none)
abbrev BlO (c:AV) (n:Nat):AObj:=⟨[c,.own 1 0 0 n],0,0,some 38⟩
abbrev BB (s:List UInt8):AObj:=ByO 5 s 0
theorem bld_ptr:Try.prog.underlying 36=some (.pointer 38):=by kernel_rfl
theorem bld_ptr2:Try.prog.underlying 36=some (.pointer (Try.prog.pointee 36)):=by kernel_rfl
theorem uns_ptr:Try.prog.underlying 53=some .unsafePointer:=by kernel_rfl
theorem bld_cells:Try.prog.cellsOf 38=2:=by kernel_rfl
theorem bld_info:∃j,Try.prog.info? 38=some j∧j.size≠0:=by
 have h:(Try.prog.info? 38).any (fun j=>j.size != 0)=true:=by kernel_rfl
 cases hh:Try.prog.info? 38 with
 |none=>rw [hh] at h;simp at h
 |some j=>rw [hh] at h;exact ⟨j,rfl,by simpa using h⟩
theorem noEsc:∃fn,Try.prog.funcs[(27:Nat)]?=some fn∧(fn.name== "runtime.NumGoroutine")=false∧fn.body.isNone=true∧Extern.findNext fn=none∧Extern.find fn=some Extern.AbiNoEscape.same:=⟨_,Try.func27,by kernel_rfl,by kernel_rfl,by kernel_rfl,by kernel_rfl⟩
theorem copyCheck_0 (s:List UInt8):FnH Try.prog 24 [.ptr 0 0 0] 2 [BlO nilP s.length,BB s] [BlO (.ptr 0 0 0) s.length,BB s] (.tup []):=by
 refine FnH.of_bodyW tabOk Try.func24 Try.ntmps24 rfl (by decide +kernel) (by simp) (by simp) (by simp) fun G=>?_
 refine goR (r:=?_);and_intros<;>intros<;>try exact True.intro
 refine WpL.nilYes bld_ptr2 rfl rfl (by decide) ?_
 refine goR (r:=?_);and_intros<;>intros<;>try exact True.intro
 obtain ⟨j,hj,hj0⟩:=bld_info
 refine WpL.toUns bld_ptr uns_ptr hj hj0 rfl rfl rfl (Nat.le_of_ble_eq_true rfl) (by decide) ?_
 obtain ⟨fn,e1,e2,e3,e4,e5⟩:=noEsc
 refine WpL.extId e1 e2 e3 e4 e5 rfl (by decide) ?_
 refine WpL.ofUns uns_ptr bld_ptr hj bld_cells (by decide) rfl rfl rfl rfl (Nat.le_of_ble_eq_true rfl) (by decide) ?_
 refine goR (r:=?_);and_intros<;>intros<;>try exact True.intro
 refine ⟨⟨[],[BlO (.ptr 0 0 0) s.length,BB s]⟩,Weak.mk .nil (.cons (.ptr rfl rfl rfl rfl (.own rfl rfl rfl rfl rfl rfl .nil)) (.inr rfl) (.cons (Re.same rfl (still_u8s _)) (.inr rfl) .nil)) (Nat.le_of_ble_eq_true rfl),FinH.normal (.zero rfl)⟩
theorem copyCheck_1 (s:List UInt8):FnH Try.prog 24 [.ptr 0 0 0] 2 [BlO (.ptr 0 0 0) s.length,BB s] [BlO (.ptr 0 0 0) s.length,BB s] (.tup []):=by
 refine FnH.of_bodyW tabOk Try.func24 Try.ntmps24 rfl (by decide +kernel) (by simp) (by simp) (by simp) fun G=>?_
 refine goR (r:=?_);and_intros<;>intros<;>try exact True.intro
 refine WpL.nilNo bld_ptr2 rfl rfl rfl rfl (by decide) ?_
 refine goR (r:=?_);and_intros<;>intros<;>try exact True.intro
 obtain ⟨j,hj,hj0⟩:=bld_info
 refine WpL.ptrSame bld_ptr hj rfl rfl rfl rfl (by decide) (by kernel_rfl) ?_
 refine goR (r:=?_);and_intros<;>intros<;>try exact True.intro
 refine ⟨⟨[],[BlO (.ptr 0 0 0) s.length,BB s]⟩,Weak.mk .nil (.cons (.ptr rfl rfl rfl rfl (.own rfl rfl rfl rfl rfl rfl .nil)) (.inr rfl) (.cons (Re.same rfl (still_u8s _)) (.inr rfl) .nil)) (Nat.le_of_ble_eq_true rfl),FinH.normal (.zero rfl)⟩
theorem u8_info:∃i,Try.prog.info? 5=some i∧i.zero=some (.int .u8 0)∧i.size=1∧i.bytes=1:=by
 have h:(Try.prog.info? 5).any (fun j=>j.size==1&&j.bytes==1&&(match j.zero with|some (.int .u8 0)=>true|_=>false))=true:=by kernel_rfl
 cases hh:Try.prog.info? 5 with
 |none=>rw [hh] at h;simp at h
 |some j=>
  rw [hh] at h
  simp only [Option.any_some,Bool.and_eq_true,beq_iff_eq] at h
  refine ⟨j,rfl,?_,h.1.1,h.1.2⟩
  have h3:=h.2
  split at h3
  ·rename_i he;exact he
  ·cases h3
theorem u8_slice:Try.prog.underlying 34=some (.slice 5):=by kernel_rfl
theorem u8p:Try.prog.underlying 51=some (.pointer 5):=by kernel_rfl
theorem u8cells:Try.prog.cellsOf 5=1:=by kernel_rfl
theorem str_str:Try.prog.underlying 9=some .string:=by kernel_rfl
theorem hmk2 {m:Nat}:∀(j id:Nat),2≤j→[0,1][j]?=some id→m≤id:=fun j id hj hid=>by
 match j,hj with
 |j+2,_=>simp at hid
theorem writeString_0 (s z:List UInt8) (hl:s.length≤549755813888∧z.length≤549755813888):FnH Try.prog 14 [.ptr 0 0 0,Z z] 1 [BlO nilP s.length,BB s] [BlO (.ptr 0 0 0) (s++z).length,BB (s++z)] (.tup [I z.length,.sc .nilIface]):=by
 have hc:=copyCheck_0 s
 obtain ⟨i8,hi,hz,h1,h2⟩:=u8_info
 have hlz:=@List.length_append _ s z
 refine FnH.of_bodyW tabOk Try.func14 Try.ntmps14 rfl (by decide +kernel) (by simp) (by simp) (by simp) fun G=>?_
 refine goR (r:=?_);and_intros<;>intros<;>try exact True.intro
 refine K.call ?_
 refine WpL.callH (hs:=[0,1]) (base:=2) hc (.ptr rfl rfl rfl .nil) (.hand rfl (.keep rfl rfl (.own rfl rfl rfl rfl .nil)) rfl rfl rfl (.inr rfl) (.still rfl rfl (still_u8s _) rfl rfl (.inr rfl) .nil)) rfl (hmk2) rfl (.turn rfl (by decide) rfl rfl (.pold (by decide) rfl rfl (.old (by decide) rfl rfl .nil)) (.turn rfl (by decide) rfl rfl (Back.all rfl (still_u8s _) (Loc.u8s _)) .nil)) .nil (.tup .nil .nil) rfl (by decide) ?_
 refine goR (r:=?_);and_intros<;>intros<;>try exact True.intro
 refine WpL.appStr u8_slice str_str hi hz h1 h2 rfl rfl rfl (by decide) rfl (by omega) (by decide) ?_
 refine goR (r:=?_);and_intros<;>intros<;>try exact True.intro
 refine ⟨⟨[(4,I z.length),(5,.sc .nilIface)],[BlO (.ptr 0 0 0) (s++z).length,BB (s++z)]⟩,Weak.mk (.cons (.keep rfl rfl .nil) (.cons (.keep rfl rfl .nil) .nil)) (.cons (.ptr rfl rfl rfl rfl (.own rfl rfl rfl rfl rfl hlz.symm .nil)) (.inr rfl) (.cons (Re.same rfl (still_u8s _)) (.inr rfl) .nil)) (Nat.le_of_ble_eq_true rfl),FinH.ret (.two (ResV.tmp rfl) (ResV.tmp rfl) rfl)⟩
theorem writeString_1 (s z:List UInt8) (hl:s.length≤549755813888∧z.length≤549755813888):FnH Try.prog 14 [.ptr 0 0 0,Z z] 1 [BlO (.ptr 0 0 0) s.length,BB s] [BlO (.ptr 0 0 0) (s++z).length,BB (s++z)] (.tup [I z.length,.sc .nilIface]):=by
 have hc:=copyCheck_1 s
 obtain ⟨i8,hi,hz,h1,h2⟩:=u8_info
 have hlz:=@List.length_append _ s z
 refine FnH.of_bodyW tabOk Try.func14 Try.ntmps14 rfl (by decide +kernel) (by simp) (by simp) (by simp) fun G=>?_
 refine goR (r:=?_);and_intros<;>intros<;>try exact True.intro
 refine K.call ?_
 refine WpL.callH (hs:=[0,1]) (base:=2) hc (.ptr rfl rfl rfl .nil) (.hand rfl (.ptr rfl rfl rfl (.own rfl rfl rfl rfl .nil)) rfl rfl rfl (.inr rfl) (.still rfl rfl (still_u8s _) rfl rfl (.inr rfl) .nil)) rfl (hmk2) rfl (.turn rfl (by decide) rfl rfl (.pold (by decide) rfl rfl (.old (by decide) rfl rfl .nil)) (.turn rfl (by decide) rfl rfl (Back.all rfl (still_u8s _) (Loc.u8s _)) .nil)) .nil (.tup .nil .nil) rfl (by decide) ?_
 refine goR (r:=?_);and_intros<;>intros<;>try exact True.intro
 refine WpL.appStr u8_slice str_str hi hz h1 h2 rfl rfl rfl (by decide) rfl (by omega) (by decide) ?_
 refine goR (r:=?_);and_intros<;>intros<;>try exact True.intro
 refine ⟨⟨[(4,I z.length),(5,.sc .nilIface)],[BlO (.ptr 0 0 0) (s++z).length,BB (s++z)]⟩,Weak.mk (.cons (.keep rfl rfl .nil) (.cons (.keep rfl rfl .nil) .nil)) (.cons (.ptr rfl rfl rfl rfl (.own rfl rfl rfl rfl rfl hlz.symm .nil)) (.inr rfl) (.cons (Re.same rfl (still_u8s _)) (.inr rfl) .nil)) (Nat.le_of_ble_eq_true rfl),FinH.ret (.two (ResV.tmp rfl) (ResV.tmp rfl) rfl)⟩
theorem writeByte_1 (s:List UInt8) (c:UInt8) (hl:s.length≤549755813888):FnH Try.prog 16 [.ptr 0 0 0,.sc (.int .u8 c.toNat)] 1 [BlO (.ptr 0 0 0) s.length,BB s] [BlO (.ptr 0 0 0) (s++[c]).length,BB (s++[c])] (.sc .nilIface):=by
 have hc:=copyCheck_1 s
 have hlz:=@List.length_append _ s [c]
 refine FnH.of_bodyW tabOk Try.func16 Try.ntmps16 rfl (by decide +kernel) (by simp) (by simp) (by simp) fun G=>?_
 refine goR (r:=?_);and_intros<;>intros<;>try exact True.intro
 refine K.call ?_
 refine WpL.callH (hs:=[0,1]) (base:=2) hc (.ptr rfl rfl rfl .nil) (.hand rfl (.ptr rfl rfl rfl (.own rfl rfl rfl rfl .nil)) rfl rfl rfl (.inr rfl) (.still rfl rfl (still_u8s _) rfl rfl (.inr rfl) .nil)) rfl (hmk2) rfl (.turn rfl (by decide) rfl rfl (.pold (by decide) rfl rfl (.old (by decide) rfl rfl .nil)) (.turn rfl (by decide) rfl rfl (Back.all rfl (still_u8s _) (Loc.u8s _)) .nil)) .nil (.tup .nil .nil) rfl (by decide) ?_
 refine goR (r:=?_);and_intros<;>intros<;>try exact True.intro
 rw [show BB (s++[c])=(⟨u8s (s.map (fun b=>(b.toNat:Int))++[(c.toNat:Int)]),0,1,some 5⟩:AObj) from by simp [ByO]]
 refine ⟨⟨[(4,.sc .nilIface)],[BlO (.ptr 0 0 0) (s++[c]).length,⟨u8s (s.map (fun b=>(b.toNat:Int))++[(c.toNat:Int)]),0,1,some 5⟩]⟩,Weak.mk (.cons (.keep rfl rfl .nil) .nil) (.cons (.ptr rfl rfl rfl rfl (.own rfl rfl rfl rfl rfl hlz.symm .nil)) (.inr rfl) (.cons (Re.same rfl (still_u8s _)) (.inr rfl) .nil)) (Nat.le_of_ble_eq_true rfl),FinH.ret (.one (ResV.tmp rfl))⟩
def bpt (b:Bool) (id:Nat):AV:=bif b then .ptr id 0 0 else nilP
theorem writeString_b (b:Bool) (s z:List UInt8) (hl:s.length≤549755813888∧z.length≤549755813888):FnH Try.prog 14 [.ptr 0 0 0,Z z] 1 [BlO (bpt b 0) s.length,BB s] [BlO (.ptr 0 0 0) (s++z).length,BB (s++z)] (.tup [I z.length,.sc .nilIface]):=by
 cases b
 ·exact writeString_0 s z hl
 ·exact writeString_1 s z hl
theorem hand_bpt {O:List AObj} {hs:List Nat} {b:Bool} {id j:Nat} {ob:AObj} {vs us:List AV} (h0:hs[j]?=some id) (h1:O[id]?=some ob) (h2:ob.ep=0) (h3:Hand O hs vs us):Hand O hs (bpt b id::vs) (bpt b j::us):=by
 cases b
 ·exact .keep rfl rfl h3
 ·exact .ptr h0 h1 h2 h3
theorem nofre_bpt {b:Bool} {id:Nat} {cs:List AV} (h:cs.all AV.nofre=true):(bpt b id::cs).all AV.nofre=true:=by cases b<;>simpa [bpt,AV.nofre] using h
theorem bString (b:Bool) (s:List UInt8) (hs:0<s.length) (hl:s.length≤1099511627776):FnH Try.prog 17 [.ptr 0 0 0] 1 [BlO (bpt b 0) s.length,BB s] [⟨[.any,.any],0,0,some 38⟩] (Z s):=by
 refine FnH.of_bodyW tabOk Try.func17 Try.ntmps17 rfl (by decide +kernel) (by simp) (by simp) (by simp) fun G=>?_
 refine goR (r:=?_);and_intros<;>intros<;>try exact True.intro
 refine WpA.regionT 10 mixed (by decide +kernel) ?_
 refine goR (r:=?_);and_intros<;>intros<;>try exact True.intro
 refine WpL.slData rfl hs rfl rfl (by decide) ?_
 refine goR (r:=?_);and_intros<;>intros<;>try exact True.intro
 refine WpL.strOver u8p u8cells rfl rfl hs (by omega) rfl (by decide) (by decide) ?_
 refine goR (r:=?_);and_intros<;>intros<;>try exact True.intro
 refine ⟨⟨[(2,Z s)],[⟨[.any,.any],0,0,some 38⟩]⟩,Weak.mk (.cons (.keep rfl rfl .nil) .nil) (.cons (.any (.any .nil)) (.inr rfl) .nil) (Nat.le_of_ble_eq_true rfl),FinH.ret (.one (ResV.tmp rfl))⟩
end Go.Proofs.Ytkckmenalehdpaa


namespace Go.Abs
open Go
section
variable {P:Program} {n m:Nat} {G:Ctx} {T:List (Nat×AV)} {O:List AObj} {Q:Exit→St→Prop} {ops:Array Oper} {l:List Oper} {d:Nat} {tt:TypeId} {pos:String} {after:Array Edge}
inductive KeepL:List AV→List AV→Prop
 |nil:KeepL [] []
 |any {V vs us}:KeepL vs us→KeepL (V::vs) (.any::us)
 |keep {V vs us}:V.still=true→V.nofre=true→KeepL vs us→KeepL (V::vs) (V::us)
 |agg {ds es vs us}:KeepL ds es→KeepL vs us→KeepL (.agg ds::vs) (.agg es::us)
theorem KeepL.rel {S:Nat→Prop} {w:World} {ι ι':Nat→Spot} {vs us:List AV} (h:KeepL vs us):∀{xs f},LRel S w ι O vs xs f→LRel S w ι' [] us xs []:=by
 induction h with
 |nil=>intro xs f hl;cases hl;exact .nil
 |any _ ih=>
  intro xs f hl
  obtain ⟨v,vs',f1,f2,rfl,hv,hr,rfl⟩:=hl.uncons
  exact .any (ih hr)
 |keep hs hn _ ih=>
  intro xs f hl
  obtain ⟨v,vs',f1,f2,rfl,hv,hr,rfl⟩:=hl.uncons
  have:=nofre_nil hv hn
  subst this
  have:=LRel.cons (still_any hv hs [] (fun _ h=>h) (fun _ _=>rfl) (by simp)) (ih hr)
  simpa using this
 |agg _ _ ih1 ih2=>
  intro xs f hl
  obtain ⟨v,vs',f1,f2,rfl,hv,hr,rfl⟩:=hl.uncons
  obtain ⟨us',rfl,ha⟩:=LRel.agg_inv hv
  have:=LRel.agg (ih1 ha) (ih2 hr)
  simpa using this
end
theorem Snap.relG {O:List AObj} {S S2:Nat→Prop} {w:World} {ι ι':Nat→Spot} {vs us:List AV} (h:Snap O vs us):∀{F xs f},ORel S w ι O F→(∀ b,S b→S2 b)→(∀ id,id<O.length→∀b∈F id,S2 b)→(∀ b∈f,S2 b)→LRel S w ι O vs xs f→LRel S2 w ι' [] us xs []:=by
 induction h with
 |nil=>intro F xs f _ _ _ _ hl;cases hl;exact .nil
 |any _ ih=>
  intro F xs f ho hS hF hf hl
  obtain ⟨v,vs',f1,f2,rfl,hv,hr,rfl⟩:=hl.uncons
  exact .any (ih ho hS hF (fun b hb=>hf b (List.mem_append_right _ hb)) hr)
 |keep hs hn _ ih=>
  intro F xs f ho hS hF hf hl
  obtain ⟨v,vs',f1,f2,rfl,hv,hr,rfl⟩:=hl.uncons
  have:=nofre_nil hv hn
  subst this
  have:=LRel.cons (still_any hv hs [] hS (fun _ _=>rfl) (by simp)) (ih ho hS hF (fun b hb=>hf b (List.mem_append_right _ hb)) hr)
  simpa using this
 |fn _ _ ih1 ih2=>
  intro F xs f ho hS hF hf hl
  obtain ⟨v,vs',f1,f2,rfl,hv,hr,rfl⟩:=hl.uncons
  cases hv with|fn a r=>cases r;exact .fn (ih1 ho hS hF (by simp) a) (ih2 ho hS hF (fun b hb=>hf b (List.mem_append_right _ hb)) hr)
 |nilI _ ih=>
  intro F xs f ho hS hF hf hl
  obtain ⟨v,vs',f1,f2,rfl,hv,hr,rfl⟩:=hl.uncons
  have:=(LRel.slice_len hv).2.2 rfl
  subst this
  exact .imm0 (by simp) (ih ho hS hF (fun b hb=>hf b (List.mem_append_right _ hb)) hr)
 |@own id ep len len' sz ob es vs us hob hep hsz hlen hll _ _ ih1 ih2=>
  intro F xs f ho hS hF hf hl
  subst hll hsz
  obtain ⟨v,vs',f1,f2,rfl,hv,hr,rfl⟩:=hl.uncons
  have hr2:=ih2 ho hS hF (fun b hb=>hf b (List.mem_append_right _ hb)) hr
  have hidl:=(List.getElem?_eq_some_iff.1 hob).1
  have hoa:=ho.obj id ob hob
  unfold ObjAt at hoa
  cases hv with
  |own q1 q2 q3 r=>
   rw [hob] at q1;cases q1
   have hc:=q3 hep.symm
   cases hs:ι id with
   |none=>
    rw [hs] at hc hoa
    obtain ⟨h1,_,h3⟩:=hc
    subst h1;subst h3
    have:es=[]:=by
     have:=ih1 (xs:=[]) (f:=[]) ho hS hF (by simp) (by rw [hoa.1];exact .nil)
     cases this;rfl
    subst this
    exact .imm0 (by simp) hr2
   |some p=>
    obtain ⟨b,k⟩:=p
    rw [hs] at hc hoa
    obtain ⟨cap,h1,_,h3,h4⟩:=hc
    obtain ⟨cur,t,fz,f',hFe,hh,_,_,_,_,hl'⟩:=hoa
    subst h1
    have hi:=ih1 ho hS hF (fun b' hb'=>hF id hidl b' (by rw [hFe];simp [hb'])) hl'
    refine .imm (us:=cur.toList.take ob.cells.length) (hF id hidl b (by rw [hFe];simp)) (fun i hi=>cell_of_heap hh _ i hi) hi ?_ h3 h4 hr2
    rw [hlen,hl'.len,hi.len]
 |@ownO id ep off len len' sz ob ds es vs us hob hep hsz hds hlen hll _ _ ih1 ih2=>
  intro F xs f ho hS hF hf hl
  subst hll hsz hds
  obtain ⟨v,vs',f1,f2,rfl,hv,hr,rfl⟩:=hl.uncons
  have hr2:=ih2 ho hS hF (fun b hb=>hf b (List.mem_append_right _ hb)) hr
  have hidl:=(List.getElem?_eq_some_iff.1 hob).1
  have hoa:=ho.obj id ob hob
  unfold ObjAt at hoa
  cases hv with
  |own q1 q2 q3 r=>
   rw [hob] at q1;cases q1
   have hc:=q3 hep.symm
   cases hs:ι id with
   |none=>
    rw [hs] at hc hoa
    obtain ⟨h1,h2,h3⟩:=hc
    subst h1;subst h3
    have:es=[]:=by
     have:=ih1 (xs:=[]) (f:=[]) ho hS hF (by simp) (by rw [hoa.1];simpa using .nil)
     cases this;rfl
    subst this
    exact .imm0 (by simp) hr2
   |some p=>
    obtain ⟨b,k⟩:=p
    rw [hs] at hc hoa
    obtain ⟨cap,h1,_,h3,h4⟩:=hc
    obtain ⟨cur,t,fz,f',hFe,hh,_,_,_,_,hl'⟩:=hoa
    subst h1
    obtain ⟨g,hld,hgm,_⟩:=hl'.drop off
    have hi:=ih1 ho hS hF (fun b' hb'=>hF id hidl b' (by rw [hFe];simp [hgm b' hb'])) hld
    refine .imm (us:=(cur.toList.take ob.cells.length).drop off) (hF id hidl b (by rw [hFe];simp)) (fun i hi=>?_) hi ?_ h3 h4 hr2
    ·have:=cell_of_heap hh ob.cells.length (off+i) (by simp only [List.length_drop] at hi;omega)
     rw [Nat.zero_add] at this
     rw [this,List.getElem?_drop]
    ·rw [hlen,hld.len,hi.len]
 |@fre s l ds es vs us _ _ ih1 ih2=>
  intro F xs f ho hS hF hf hl
  obtain ⟨v,vs',f1,f2,rfl,hv,hr,rfl⟩:=hl.uncons
  have hr2:=ih2 ho hS hF (fun b hb=>hf b (List.mem_append_right _ hb)) hr
  cases hv with
  |fre0 r=>
   have:=ih1 (xs:=[]) (f:=[]) ho hS hF (by simp) .nil
   cases this
   exact .imm0 (by simp) hr2
  |@fre _ _ b _ cap cur t fz _ us' f' _ _ _ hh0 hsz hu hl' h1 h2 h3 r=>
   have hh:=hh0.1
   cases r
   have hi:=ih1 ho hS hF (fun b' hb'=>hf b' (by simp [hb'])) hl'.lift
   subst hu
   refine .imm (us:=cur.toList.take ds.length) (hf b (by simp)) (fun i hi=>cell_of_heap hh _ i hi) hi ?_ h2 h3 hr2
   rw [h1,hl'.len,hi.len]
 |@ptr id ep off ob es vs us hob hep _ _ ih1 ih2=>
  intro F xs f ho hS hF hf hl
  obtain ⟨v,vs',f1,f2,rfl,hv,hr,rfl⟩:=hl.uncons
  have hr2:=ih2 ho hS hF (fun b hb=>hf b (List.mem_append_right _ hb)) hr
  have hidl:=(List.getElem?_eq_some_iff.1 hob).1
  have hoa:=ho.obj id ob hob
  unfold ObjAt at hoa
  cases hv with
  |ptr q1 q2 q3 r=>
   rw [hob] at q1;cases q1
   have hc:=q3 hep.symm
   cases hs:ι id with
   |none=>rw [hs] at hc;exact hc.elim
   |some p=>
    obtain ⟨b,k⟩:=p
    rw [hs] at hc hoa
    obtain ⟨cur,t,fz,f',hFe,hh,_,_,_,_,hl'⟩:=hoa
    have h1:_=Value.pointer (some ⟨b,off,none⟩):=hc
    subst h1
    have:=LRel.iptr (O:=[]) (ι:=ι') (off:=off) (S:=S2) (us:=cur.toList.take ob.cells.length) (hF id hidl b (by rw [hFe];simp)) (fun i hi=>cell_of_heap hh _ i hi) (ih1 ho hS hF (fun b' hb'=>hF id hidl b' (by rw [hFe];simp [hb'])) hl') hr2
    rwa [Nat.zero_add] at this
 |agg _ _ ih1 ih2=>
  intro F xs f ho hS hF hf hl
  obtain ⟨v,vs',f1,f2,rfl,hv,hr,rfl⟩:=hl.uncons
  obtain ⟨us',rfl,ha⟩:=LRel.agg_inv hv
  have:=LRel.agg (ih1 ho hS hF (fun b hb=>hf b (List.mem_append_left _ hb)) ha) (ih2 ho hS hF (fun b hb=>hf b (List.mem_append_right _ hb)) hr)
  simpa using this
theorem FnC.still {P:Program} {f:FuncId} {args:List AV} {N:List AObj} {r r':AV} (hc:FnC P f args N r) (hs:Snap N [r] [r']):FnC P f args [] r':=by
 refine ⟨hc.1,fun w S vs hS hg hl=>(hc.2 w S vs hS hg hl).mono fun e w' he=>?_⟩
 obtain ⟨v,S',ι,F,rfl,h1,h2,h3,ho,hF,hv,hk⟩:=he
 refine ⟨v,fun b=>S' b∨∃id,id<N.length∧b∈F id,fun _=>none,fun _=>[],rfl,fun b hb=>.inl (h1 b hb),?_,?_,⟨by simp,by simp,by simp⟩,by simp,?_,hk⟩
 ·rintro b (hb|⟨id,hid,hb⟩)
  ·exact h2 b hb
  ·exact .inr (hF id hid b hb).1
 ·rintro b (hb|⟨id,hid,hb⟩)
  ·exact h3 b hb
  ·exact (hF id hid b hb).2.2
 ·exact hs.relG ho (fun b hb=>.inl hb) (fun id hid b hb=>.inr ⟨id,hid,hb⟩) (by simp) hv
inductive FrzR (N:List AObj):AV→AV→Prop
 |tup {rs rs':List AV}:Snap N rs rs'→FrzR N (.tup rs) (.tup rs')
 |one {r r':AV}:Snap N [r] [r']→FrzR N r r'
theorem FrzR.rel {O:List AObj} {S S2:Nat→Prop} {w:World} {ι ι':Nat→Spot} {F:Nat→List Nat} {r r':AV} {v:Value} (h:FrzR O r r') (ho:ORel S w ι O F) (hS:∀b,S b→S2 b) (hF:∀id,id<O.length→∀b∈F id,S2 b) (hl:VRel S w ι O r v []):VRel S2 w ι' [] r' v []:=by
 cases h with
 |tup hs=>
  obtain ⟨us,rfl,hl'⟩:=LRel.tup_inv hl
  have h9:LRel S2 w ι' [] _ us []:=hs.relG ho hS hF (by simp) hl'
  have:=LRel.tup h9 .nil
  simpa using this
 |one hs=>exact hs.relG ho hS hF (by simp) hl
section
variable {P:Program} {n m:Nat} {G:Ctx} {T:List (Nat×AV)} {O:List AObj} {Q:Exit→St→Prop} {ops:Array Oper} {l:List Oper} {d:Nat} {tt:TypeId} {pos:String} {after:Array Edge}
end
end Go.Abs
