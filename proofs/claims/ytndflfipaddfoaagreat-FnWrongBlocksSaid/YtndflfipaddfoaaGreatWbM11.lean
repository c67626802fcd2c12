/- Proved in this text: lemmas and contracts of functions that the claim uses (parts: AbsYr, AbsYs, Cat, Ue, Bits, AbsUn). No condition. -/
import Derived.Test.YtndflfipaddfoaaGreatWbM10
import Derived.Test.YtndflfipaddfoaaGreatWbM6
import Derived.Test.YtndflfipaddfoaaGreatWbM9
import Derived.Test.YtndflfipaddfoaaGreatWbM5
set_option linter.unusedVariables false
set_option linter.unusedSimpArgs false
set_option maxRecDepth 100000
set_option maxHeartbeats 4000000


namespace Go.Abs
open Go
inductive HeadR (P:Program) (n m:Nat) (G:Ctx) (ops:Array Oper) (T0:List (Nat×AV)) (O Oi:List AObj) (keep sh:List Nat):List (Nat×AV)→List Fil→List Oper→List (Nat×AV)→List Fil→Prop
 |nil {fs gs}:HeadR P n m G ops T0 O Oi keep sh fs gs [] fs gs
 |cons {fs out:List (Nat×AV)} {gs:List Fil} {o:Oper} {l:List Oper} {d:Nat} {V:AV} {F:List (Nat×AV)} {ks:List Fil} (k:Fil) (hF:deps fs o=F)
   (h:∀Tv Ov,Oi.length≤Ov.length→(∀ p ob,k.spot=some (p,ob)→Ov[p]?=(fillAll gs Oi)[p]?)→(∀ j f p ob,waits o j=true→gs[j]?=some f→f.spot=some (p,ob)→memB p sh=false→Ov[p]?=some ob)→(∀ q,memB q keep=true→Ov[q]?=Oi[q]?)→
    WpL P n m G false ops [o] ⟨F++(T0++Tv),O++Ov⟩ (Only ⟨(d,V)::(F++(T0++Tv)),O++k.run Ov⟩)) (r:HeadR P n m G ops T0 O Oi keep sh (fs++[(d,V)]) (gs++[k]) l out ks):HeadR P n m G ops T0 O Oi keep sh fs gs (o::l) out ks
section
variable {P:Program} {n m:Nat} {G:Ctx} {ops:Array Oper} {T0:List (Nat×AV)} {O Oi:List AObj} {keep sh:List Nat}
theorem HeadR.pre {fs gs l out ks} (h:HeadR P n m G ops T0 O Oi keep sh fs gs l out ks):∃r s,out=fs++r∧r.length=l.length∧ks=gs++s∧s.length=l.length:=by
 induction h with
 |nil=>exact ⟨[],[],by simp,rfl,by simp,rfl⟩
 |@cons fs out gs o l d V F ks k _ _ _ ih=>obtain ⟨r,s,h1,h2,h3,h4⟩:=ih;exact ⟨(d,V)::r,k::s,by rw [h1];simp,by simp [h2],by rw [h3];simp,by simp [h4]⟩
theorem HeadR.at {fs gs l out ks} (h:HeadR P n m G ops T0 O Oi keep sh fs gs l out ks) (hg:gs.length=fs.length):∀{j:Nat} {o:Oper},l[j]?=some o→∃d V k,out[fs.length+j]?=some (d,V)∧ks[fs.length+j]?=some k∧
 ∀Tv Ov,Oi.length≤Ov.length→(∀ p ob,k.spot=some (p,ob)→Ov[p]?=(fillAll (ks.take (fs.length+j)) Oi)[p]?)→(∀ i f p ob,waits o i=true→(ks.take (fs.length+j))[i]?=some f→f.spot=some (p,ob)→memB p sh=false→Ov[p]?=some ob)→(∀ q,memB q keep=true→Ov[q]?=Oi[q]?)→
  WpL P n m G false ops [o] ⟨deps (out.take (fs.length+j)) o++(T0++Tv),O++Ov⟩ (Only ⟨(d,V)::(deps (out.take (fs.length+j)) o++(T0++Tv)),O++k.run Ov⟩):=by
 induction h with
 |nil=>intro j o h;simp at h
 |@cons fs out gs o l d V F ks k hF h r ih=>
  intro j o' hj
  obtain ⟨r',s',h1,h2,h3,h4⟩:=r.pre
  cases j with
  |zero=>
   simp only [List.getElem?_cons_zero,Option.some.injEq] at hj
   subst hj
   refine ⟨d,V,k,by rw [h1];simp,by rw [h3];simp [hg],?_⟩
   have:out.take (fs.length+0)=fs:=by rw [h1,Nat.add_zero,List.append_assoc,List.take_left'];rfl
   have e2:ks.take (fs.length+0)=gs:=by rw [h3,Nat.add_zero,List.append_assoc,List.take_left'];exact hg
   rw [this,hF,e2];exact h
  |succ j=>
   have:=ih (by simp [hg]) (j:=j) (o:=o') (by simpa using hj)
   rw [List.length_append,List.length_singleton,Nat.add_assoc,Nat.add_comm 1 j] at this
   simpa using this
theorem fillAll_cases:∀(L:List Fil) (Oi:List AObj) (q:Nat),q<Oi.length→(∃ (i:Nat) (f:Fil) (ob:AObj),L[i]?=some f∧f.spot=some (q,ob)∧(∀ (j:Nat) (g:Fil) (oc:AObj),i<j→L[j]?=some g→g.spot≠some (q,oc))∧(fillAll L Oi)[q]?=some ob)∨
 ((∀ (j:Nat) (g:Fil) (oc:AObj),L[j]?=some g→g.spot≠some (q,oc))∧(fillAll L Oi)[q]?=Oi[q]?)
 |[],Oi,q,hq=>.inr ⟨fun j g oc h=>by simp at h,rfl⟩
 |f::L,Oi,q,hq=>by
  rw [fillAll]
  cases hs:f.spot with
  |none=>
   rcases fillAll_cases L Oi q hq with ⟨i,g,ob,h1,h2,h3,h4⟩|⟨h1,h2⟩
   ·refine .inl ⟨i+1,g,ob,by simpa using h1,h2,fun j g' oc hj hg=>?_,h4⟩
    cases j with
    |zero=>omega
    |succ j=>exact h3 j g' oc (by omega) (by simpa using hg)
   ·refine .inr ⟨fun j g oc hg=>?_,h2⟩
    cases j with
    |zero=>simp at hg;subst hg;rw [hs];simp
    |succ j=>exact h1 j g oc (by simpa using hg)
  |some x=>
   obtain ⟨p,ob0⟩:=x
   simp only
   rcases fillAll_cases L (Oi.set p ob0) q (by simpa using hq) with ⟨i,g,ob,h1,h2,h3,h4⟩|⟨h1,h2⟩
   ·refine .inl ⟨i+1,g,ob,by simpa using h1,h2,fun j g' oc hj hg=>?_,h4⟩
    cases j with
    |zero=>omega
    |succ j=>exact h3 j g' oc (by omega) (by simpa using hg)
   ·by_cases e:p=q
    ·subst e
     refine .inl ⟨0,f,ob0,by simp,hs,fun j g' oc hj hg=>?_,by rw [h2,List.getElem?_set_self hq]⟩
     cases j with
     |zero=>omega
     |succ j=>exact h1 j g' oc (by simpa using hg)
    ·refine .inr ⟨fun j g oc hg=>?_,by rw [h2,List.getElem?_set,if_neg e]⟩
     cases j with
     |zero=>simp at hg;subst hg;rw [hs];intro h;cases h;exact e rfl
     |succ j=>exact h1 j g oc (by simpa using hg)
structure RoomR (ks:List Fil) (Oi:List AObj) (k:Nat) (listed:Array Bool) (Ov:List AObj):Prop where
 len:Ov.length=Oi.length+((List.range k).filter fun i=>listed.getD i false&&isPut ks i).length
 cur:∀q,q<Oi.length→(∃ i f ob,i<k∧listed.getD i false=true∧ks[i]?=some f∧f.spot=some (q,ob)∧(∀ j g oc,i<j→j<k→listed.getD j false=true→ks[j]?=some g→g.spot≠some (q,oc))∧Ov[q]?=some ob)∨
  ((∀ j g oc,j<k→listed.getD j false=true→ks[j]?=some g→g.spot≠some (q,oc))∧Ov[q]?=Oi[q]?)
 dead:∀q,Oi.length≤q→q<Ov.length→Ov[q]?=some deadO
structure RoomROk (ops:Array Oper) (sh:List Nat) (ks:List Fil) (c k:Nat):Prop where
 lt:∀i f p ob,i<k→ks[i]?=some f→f.spot=some (p,ob)→p<c
 chain:∀i j f g p ob oc,i<j→j<k→ks[i]?=some f→ks[j]?=some g→f.spot=some (p,ob)→g.spot=some (p,oc)→memB p sh=true∧∃o,ops[j]?=some o∧waits o i=true
theorem waits_spec {o:Oper} {j:Nat} (h:waits o j=true):∃e∈o.after,Region.binds .any e=true∧e.on=j:=by
 obtain ⟨e,he,hb⟩:=List.any_eq_true.1 h
 rw [Bool.and_eq_true] at hb
 exact ⟨e,by simpa using he,hb.1,Nat.eq_of_beq_eq_true hb.2⟩
theorem RoomR.before {ks:List Fil} {k i:Nat} {listed:Array Bool} {Ov:List AObj} {f:Fil} {o:Oper} (h:RoomR ks Oi k listed Ov) (ok:RoomROk ops sh ks Oi.length k) (inv:HeadInv .any ops k listed) (hik:i<k) (hu:listed.getD i false=false) (hall:∀e∈o.after,Region.binds .any e=true→listed.getD e.on false=true) (ho:ops[i]?=some o) (hf:ks[i]?=some f) {p:Nat} {ob:AObj} (hsp:f.spot=some (p,ob)):
 Ov[p]?=(fillAll (ks.take i) Oi)[p]?:=by
 have hp:=ok.lt i f p ob hik hf hsp
 have hbef:∀j g oc,j<i→ks[j]?=some g→g.spot=some (p,oc)→listed.getD j false=true:=by
  intro j g oc hj hg hs
  obtain ⟨_,o',ho',hw⟩:=ok.chain j i g f p oc ob hj hik hg hf hs hsp
  rw [ho] at ho';cases ho'
  obtain ⟨e,he,hb,rfl⟩:=waits_spec hw
  exact hall e he hb
 have haft:∀j g oc,i<j→j<k→ks[j]?=some g→g.spot=some (p,oc)→listed.getD j false=false:=by
  intro j g oc hj hjk hg hs
  obtain ⟨_,o',ho',hw⟩:=ok.chain i j f g p ob oc hj hjk hf hg hsp hs
  cases hl:listed.getD j false with
  |false=>rfl
  |true=>
   obtain ⟨e,he,hb,rfl⟩:=waits_spec hw
   have:=inv.closed j o' ho' hl e he hb
   rw [hu] at this;cases this
 have htk:∀j g,(ks.take i)[j]?=some g→j<i∧ks[j]?=some g:=by
  intro j g hg
  rw [List.getElem?_take] at hg
  split at hg
  ·rename_i hj;exact ⟨hj,hg⟩
  ·cases hg
 rcases h.cur p hp with ⟨j,g,oc,hjk,hl,hg,hs,hlast,hv⟩|⟨hno,hv⟩<;>rcases fillAll_cases (ks.take i) Oi p hp with ⟨j2,g2,oc2,hg2,hs2,hlast2,hv2⟩|⟨hno2,hv2⟩
 ·obtain ⟨hj2,hg2⟩:=htk j2 g2 hg2
  have hji:j<i:=by
   rcases Nat.lt_trichotomy j i with h1|h1|h1
   ·exact h1
   ·subst h1;rw [hu] at hl;cases hl
   ·rw [haft j g oc h1 hjk hg hs] at hl;cases hl
  have:j=j2:=by
   rcases Nat.lt_trichotomy j j2 with h1|h1|h1
   ·exact absurd hs2 (hlast j2 g2 oc2 h1 (by omega) (hbef j2 g2 oc2 hj2 hg2 hs2) hg2)
   ·exact h1
   ·exact absurd hs (hlast2 j g oc h1 (by rw [List.getElem?_take,if_pos hji];exact hg))
  subst this
  rw [hg] at hg2;cases hg2
  rw [hs] at hs2;cases hs2
  rw [hv,hv2]
 ·have hji:j<i:=by
   rcases Nat.lt_trichotomy j i with h1|h1|h1
   ·exact h1
   ·subst h1;rw [hu] at hl;cases hl
   ·rw [haft j g oc h1 hjk hg hs] at hl;cases hl
  exact absurd hs (hno2 j g oc (by rw [List.getElem?_take,if_pos hji];exact hg))
 ·obtain ⟨hj2,hg2⟩:=htk j2 g2 hg2
  exact absurd hs2 (hno j2 g2 oc2 (by omega) (hbef j2 g2 oc2 hj2 hg2 hs2) hg2)
 ·rw [hv,hv2]
theorem RoomR.step {ks:List Fil} {k i:Nat} {listed:Array Bool} {Ov:List AObj} {f:Fil} (h:RoomR ks Oi k listed Ov) (ok:RoomROk ops sh ks Oi.length k) (inv:HeadInv .any ops k listed) (hik:i<k) (hs:i<listed.size) (hu:listed.getD i false=false) (hf:ks[i]?=some f):
 RoomR ks Oi k (listed.setIfInBounds i true) (f.run Ov):=by
 have hself:(listed.setIfInBounds i true).getD i false=true:=by simp [hs]
 have hcnt:=count_set (f:=isPut ks) hik hs hu
 have hlen:=h.len
 have hp:isPut ks i=f.isPut:=by unfold isPut;rw [hf];rfl
 rw [hp] at hcnt
 have hrl:(f.run Ov).length=Ov.length+(if f.isPut=true then 1 else 0):=by cases f<;>simp [Fil.run,Fil.isPut]
 have hle:Oi.length≤Ov.length:=by omega
 have hoth:∀q,q<Ov.length→(∀ p ob,f.spot=some (p,ob)→p≠q)→(f.run Ov)[q]?=Ov[q]?:=by
  intro q hq hne
  cases f with
  |none=>rfl
  |put p ob=>
   have:=hne p ob rfl
   unfold Fil.run
   rw [List.getElem?_append_left (by simpa using hq),List.getElem?_set,if_neg this]
  |step p ob=>
   have:=hne p ob rfl
   unfold Fil.run
   rw [List.getElem?_set,if_neg this]
 have hown:∀p ob,f.spot=some (p,ob)→(f.run Ov)[p]?=some ob:=by
  intro p ob e
  have hpc:=ok.lt i f p ob hik hf e
  cases f with
  |none=>cases e
  |put p' ob'=>
   cases e
   unfold Fil.run
   rw [List.getElem?_append_left (by rw [List.length_set];omega),List.getElem?_set_self (by omega)]
  |step p' ob'=>
   cases e
   unfold Fil.run
   rw [List.getElem?_set_self (by omega)]
 refine ⟨by rw [hrl,hcnt,hlen];split<;>omega,fun q hq=>?_,fun q h1 h2=>?_⟩
 ·by_cases hq2:∃ob,f.spot=some (q,ob)
  ·obtain ⟨ob,hsp⟩:=hq2
   refine .inl ⟨i,f,ob,hik,hself,hf,hsp,fun j g oc hj hjk hl hg hs2=>?_,hown q ob hsp⟩
   rw [getD_set_ne false (by omega)] at hl
   obtain ⟨_,o',ho',hw⟩:=ok.chain i j f g q ob oc hj hjk hf hg hsp hs2
   obtain ⟨e,he,hb,rfl⟩:=waits_spec hw
   have:=inv.closed j o' ho' hl e he hb
   rw [hu] at this;cases this
  ·have hne:∀p ob,f.spot=some (p,ob)→p≠q:=fun p ob hsp e=>hq2 ⟨ob,e▸hsp⟩
   rw [hoth q (by omega) hne]
   rcases h.cur q hq with ⟨j,g,oc,hjk,hl,hg,hs2,hlast,hv⟩|⟨hno,hv⟩
   ·have hij:i≠j:=by rintro rfl;rw [hu] at hl;cases hl
    refine .inl ⟨j,g,oc,hjk,by rw [getD_set_ne false hij];exact hl,hg,hs2,fun j2 g2 oc2 h1 h2 h3 h4=>?_,hv⟩
    by_cases e:i=j2
    ·subst e;rw [hf] at h4;cases h4;exact fun h5=>hq2 ⟨_,h5⟩
    ·rw [getD_set_ne false e] at h3;exact hlast j2 g2 oc2 h1 h2 h3 h4
   ·refine .inr ⟨fun j2 g2 oc2 h2 h3 h4=>?_,hv⟩
    by_cases e:i=j2
    ·subst e;rw [hf] at h4;cases h4;exact fun h5=>hq2 ⟨_,h5⟩
    ·rw [getD_set_ne false e] at h3;exact hno j2 g2 oc2 h2 h3 h4
 ·rcases Nat.lt_or_ge q Ov.length with h3|h3
  ·rw [hoth q h3 (fun p ob e1=>by have:=ok.lt i f p ob hik hf e1;omega)]
   exact h.dead q h1 h3
  ·cases f with
   |none=>exact absurd h2 (by simp [Fil.run];omega)
   |step p ob=>exact absurd h2 (by simp [Fil.run];omega)
   |put p ob=>
    simp [Fil.run] at h2
    have e:q=Ov.length:=by omega
    subst e
    unfold Fil.run
    rw [List.getElem?_append_right (by simp)];simp
def GoodR (n m:Nat) (G:Ctx) (T0 out:List (Nat×AV)) (O Oi:List AObj) (k:Nat) (ks:List Fil) (listed:Array Bool) (a:Act) (w:World):Prop:=
 ∃T Ov,Rel n m G ⟨T,O++Ov⟩ a w∧RoomR ks Oi k listed Ov∧(∀ (i d:Nat) (V:AV),out[i]?=some (d,V)→listed.getD i false=true→look T d=V)∧∀t,has out t=false→look T t=look T0 t
theorem head_stepR {out:List (Nat×AV)} {ks:List Fil} {k:Nat} (H:Heads ops T0 out k) (ok:RoomROk ops sh ks Oi.length k) (hkp:∀q,memB q keep=true→q<Oi.length∧∀i f p ob,i<k→ks[i]?=some f→f.spot=some (p,ob)→p≠q) {Q:Exit→Act→World→Prop} (hJ:∀{j:Nat} {o:Oper},j<k→ops[j]?=some o→∃d V f,out[j]?=some (d,V)∧ks[j]?=some f∧
 ∀Tv Ov,Oi.length≤Ov.length→(∀ p ob,f.spot=some (p,ob)→Ov[p]?=(fillAll (ks.take j) Oi)[p]?)→(∀ i f p ob,waits o i=true→(ks.take j)[i]?=some f→f.spot=some (p,ob)→memB p sh=false→Ov[p]?=some ob)→(∀ q,memB q keep=true→Ov[q]?=Oi[q]?)→WpL P n m G false ops [o] ⟨deps (out.take j) o++(T0++Tv),O++Ov⟩ (Only ⟨(d,V)::(deps (out.take j) o++(T0++Tv)),O++f.run Ov⟩))
 {listed:Array Bool} (inv:HeadInv .any ops k listed) {i:Nat} (hi:i∈Region.ready .any ops listed) (hik:i<k) {a w} (hg:GoodR n m G T0 out O Oi k ks listed a w) {K:Act→World→Prop}
 (hK:∀a' w',GoodR n m G T0 out O Oi k ks (listed.setIfInBounds i true) a' w'→K a' w'):wpOp P ops Q i K a w:=by
 obtain ⟨hun,o,ho,hall⟩:=mem_ready.1 hi
 obtain ⟨T,Ov,hr,hroom,h1,h2⟩:=hg
 obtain ⟨d,V,f,hout,hkf,hw⟩:=hJ hik ho
 have hF:∀t U,(t,U)∈deps (out.take i) o→look T t=U:=by
  intro t U hm
  simp only [deps,List.mem_filterMap] at hm
  obtain ⟨e,he,hx⟩:=hm
  split at hx
  ·rename_i hb
   have he':e∈o.after:=by simpa using he
   have hx':out[e.on]?=some (t,U):=by
    rw [List.getElem?_take] at hx
    split at hx
    ·exact hx
    ·simp at hx
   exact h1 _ _ _ hx' (hall e he' hb)
  ·simp at hx
 have same:∀t,look (deps (out.take i) o++(T0++T)) t=look T t:=by
  intro t
  rw [look_append]
  split
  ·rename_i h;exact (hF _ _ (has_look h)).symm
  ·rw [look_append]
   split
   ·rename_i h
    refine (h2 t ?_).symm
    cases hc:has out t with
    |false=>rfl
    |true=>have:=H.fresh _ (has_look hc);simp only at this;rw [this] at h;cases h
   ·rfl
 have hiu:listed.getD i false=false:=getD_both hun
 have hdep:∀j g p ob,waits o j=true→(ks.take i)[j]?=some g→g.spot=some (p,ob)→memB p sh=false→Ov[p]?=some ob:=by
  intro j g p ob hwt hg hsp hsh
  obtain ⟨e,he,hb,rfl⟩:=waits_spec hwt
  have hl:=hall e he hb
  rw [List.getElem?_take] at hg
  split at hg
  ·rename_i hji
   have hp:=ok.lt e.on g p ob (by omega) hg hsp
   rcases hroom.cur p hp with ⟨j2,g2,oc,hjk,hl2,hg2,hs2,hlast,hv⟩|⟨hno,hv⟩
   ·have hj:j2=e.on:=by
     rcases Nat.lt_trichotomy j2 e.on with h3|h3|h3
     ·have:=(ok.chain j2 e.on g2 g p oc ob h3 (by omega) hg2 hg hs2 hsp).1
      rw [hsh] at this;cases this
     ·exact h3
     ·have:=(ok.chain e.on j2 g g2 p ob oc h3 hjk hg hg2 hsp hs2).1
      rw [hsh] at this;cases this
    subst hj
    rw [hg] at hg2;cases hg2
    rw [hsp] at hs2;cases hs2
    exact hv
   ·exact absurd hsp (hno e.on g ob (by omega) hl hg)
  ·cases hg
 have hrest:∀q,memB q keep=true→Ov[q]?=Oi[q]?:=by
  intro q hq
  obtain ⟨hlt,hno⟩:=hkp q hq
  rcases hroom.cur q hlt with ⟨j,g,oc,hjk,_,hg,hs2,_,_⟩|⟨_,hv⟩
  ·exact absurd rfl (hno j g q oc hjk hg hs2)
  ·exact hv
 have hw':=hw T Ov (by rw [hroom.len];omega) (fun p ob e=>hroom.before ok inv hik hiu hall ho hkf e) hdep hrest a w (hr.relook same)
 have hst:=hroom.step ok inv hik (by rw [inv.size];have:=(Array.getElem?_eq_some_iff.1 ho).1;omega) hiu hkf
 simp only at hw'
 have good:∀a' w',Rel n m G ⟨(d,V)::(deps (out.take i) o++(T0++T)),O++f.run Ov⟩ a' w'→GoodR n m G T0 out O Oi k ks (listed.setIfInBounds i true) a' w':=by
  intro a' w' hr'
  refine ⟨_,_,hr',hst,fun j d' V' hj hl=>?_,fun t ht=>?_⟩
  ·by_cases hij:i=j
   ·subst hij;rw [hout] at hj;cases hj;exact look_cons_same _ _ _
   ·rw [getD_set_ne false hij] at hl
    have hne:d≠d':=by rintro rfl;exact hij (out_inj H.nodup hout hj)
    rw [look_cons_other _ _ _ _ hne,same]
    exact h1 _ _ _ hj hl
  ·have hne:d≠t:=by
    rintro rfl
    have:=has_mem (List.mem_of_getElem? hout)
    rw [ht] at this;cases this
   rw [look_cons_other _ _ _ _ hne,same];exact h2 t ht
 have only:∀e a' w',(∃ σ',Only ⟨(d,V)::(deps (out.take i) o++(T0++T)),O++f.run Ov⟩ e σ'∧Rel n m G σ' a' w')→e=.normal∧K a' w':=by
  rintro e a' w' ⟨σ',hq,hr'⟩
  cases e<;>first|(simp only [Only] at hq;subst hq;exact ⟨rfl,hK _ _ (good _ _ hr')⟩)|exact hq.elim
 unfold wpOp
 simp only [ho]
 change wpList P ops _ [o] a w at hw'
 unfold wpList at hw'
 by_cases hwant:Region.wanted o (yielded ops a.tmps)=true
 ·rw [if_pos hwant] at hw' ⊢
  rcases hw' with hw'|⟨_,a',w',hx⟩
  ·refine .inl ?_
   unfold Oper.wp at hw' ⊢
   generalize (execOp a.eval o).run P w=r at*
   cases r with
   |ok x w1=>
    cases x<;>simp only [Oper.upon] at hw' ⊢
    case value v=>exact (only _ _ _ hw').2
    case skip=>exact (only _ _ _ hw').2
    case defer d=>exact (only _ _ _ hw').2
    case enter f args=>
     refine hw'.mono fun e w2 h2=>?_
     cases e with
     |returned v=>exact (only _ _ _ h2).2
     |panicked c=>exact absurd (only _ _ _ h2).1 (by simp)
     |outgrown=>obtain ⟨_,_,hf⟩:=h2;exact absurd (only _ _ _ hf).1 (by simp)
    case row r ar=>exact hw'.mono fun v w2 h2=>(only _ _ _ h2).2
   |halt x w1=>cases x<;>simp only [Oper.upon] at hw' ⊢<;>first|exact absurd (only _ _ _ hw').1 (by simp)|exact hw'.elim|(obtain ⟨_,_,hf⟩:=hw';exact absurd (only _ _ _ hf).1 (by simp))
  ·exact absurd (only _ _ _ hx).1 (by simp)
 ·rw [if_neg hwant] at hw' ⊢
  exact (only _ _ _ hw').2
theorem WpA.regionR {l:List Oper} {id:Nat} {out T1:List (Nat×AV)} {ks:List Fil} {Q:Exit→St→Prop} (k:Nat) (hm:P.follows .mixedOrders=true) (hB:mixB l.toArray k=true)
 (hJ:HeadR P n m G l.toArray T0 O Oi keep sh [] [] (l.take k) out ks) (hok:RoomROk l.toArray sh ks Oi.length k) (hkp:∀q,memB q keep=true→q<Oi.length∧∀i f p ob,i<k→ks[i]?=some f→f.spot=some (p,ob)→p≠q) (hnd:nodupB (out.map (·.1))=true) (hfr:(out.all fun p=>!has T0 p.1)=true)
 (hT1:out++T0=T1) (h:WpL P n m G false l.toArray (l.drop k) ⟨T1,O++(fillAll ks Oi++List.replicate ((List.range k).filter fun i=>isPut ks i).length deadO)⟩ Q):WpA P n m G (.region id l.toArray true) ⟨T0,O++Oi⟩ Q:=fun a w hr=>by
 subst hT1
 simp only [mixB,Bool.and_eq_true,decide_eq_true_eq,Bool.or_eq_true] at hB
 obtain ⟨⟨⟨hks,hback⟩,hsc⟩,hseq⟩:=hB
 have hkl:k≤l.length:=by simpa using hks
 have htl:(l.take k).length=k:=by simp;omega
 obtain ⟨r,s,hr1,hr2,hr3,hr4⟩:=hJ.pre
 have hlen:out.length=k:=by rw [hr1];simp [hr2];omega
 have hklen:ks.length=k:=by rw [hr3];simp [hr4];omega
 have H:Heads l.toArray T0 out k:=⟨hlen,nodupB_spec hnd,fun p hp=>by have:=List.all_eq_true.1 hfr p hp;simpa using this,fun i hi o ho e he hb=>by
  have h1:=List.all_eq_true.1 hback i (List.mem_range.2 hi)
  rw [ho] at h1
  have h2:=List.all_eq_true.1 h1 e (by simpa using he)
  simp only [Bool.or_eq_true,Bool.not_eq_true',decide_eq_true_eq] at h2
  rcases h2 with h2|h2
  ·rw [hb] at h2;cases h2
  ·exact h2⟩
 have hJ':∀{j:Nat} {o:Oper},j<k→l.toArray[j]?=some o→∃d V f,out[j]?=some (d,V)∧ks[j]?=some f∧
  ∀Tv Ov,Oi.length≤Ov.length→(∀ p ob,f.spot=some (p,ob)→Ov[p]?=(fillAll (ks.take j) Oi)[p]?)→(∀ i f p ob,waits o i=true→(ks.take j)[i]?=some f→f.spot=some (p,ob)→memB p sh=false→Ov[p]?=some ob)→(∀ q,memB q keep=true→Ov[q]?=Oi[q]?)→WpL P n m G false l.toArray [o] ⟨deps (out.take j) o++(T0++Tv),O++Ov⟩ (Only ⟨(d,V)::(deps (out.take j) o++(T0++Tv)),O++f.run Ov⟩):=by
  intro j o hj ho
  have ho':(l.take k)[j]?=some o:=by rw [List.getElem?_take,if_pos hj];simpa using ho
  have:=hJ.at rfl ho'
  simpa using this
 have inv0:HeadInv .any l.toArray k (Array.replicate l.toArray.size false):=
  ⟨by simp,fun j oj _ hl=>(by rw [getD_replicate_false] at hl;cases hl),fun t _ ht=>getD_in (by simpa using ht) (getD_replicate_false _ _)⟩
 have room0:RoomR ks Oi k (Array.replicate l.toArray.size false) Oi:=by
  refine ⟨?_,fun q _=>.inr ⟨fun j g oc _ hl=>(by rw [getD_replicate_false] at hl;cases hl),rfl⟩,fun q h1 h2=>by omega⟩
  have:((List.range k).filter fun i=>(Array.replicate l.toArray.size false).getD i false&&isPut ks i)=[]:=by
   rw [List.filter_eq_nil_iff];intro i _;rw [getD_replicate_false];simp
  rw [this];simp
 refine wp_region_any hm ?_
 have fin:=any_order (P:=P) (GP:=GoodR n m G T0 out O Oi k ks) (g:=l.toArray.size-k) (Q:=fun e a' w'=>∃σ',Q e σ'∧Rel n m G σ' a' w') H hks (fun hk=>hsc.resolve_left (by omega)) (fun inv _ hi hik _ _ hg _ hK=>head_stepR H hok hkp hJ' inv hi hik hg hK) (fun listed a w inv hall hg=>by
  obtain ⟨T,Ov,hrT,hroom,h1,h2⟩:=hg
  have hOv:Ov=fillAll ks Oi++List.replicate ((List.range k).filter fun i=>isPut ks i).length deadO:=by
   have hcnt:((List.range k).filter fun i=>listed.getD i false&&isPut ks i)=(List.range k).filter fun i=>isPut ks i:=by
    refine List.filter_congr fun i hi=>?_
    rw [hall i (List.mem_range.1 hi)];rfl
   have hlen:=hroom.len
   rw [hcnt] at hlen
   have hfl:=fillAll_len ks Oi
   apply List.ext_getElem?
   intro q
   rcases Nat.lt_or_ge q Oi.length with hq|hq
   ·rw [List.getElem?_append_left (by omega)]
    rcases hroom.cur q hq with ⟨j,g,oc,hjk,hl,hg,hs,hlast,hv⟩|⟨hno,hv⟩<;>rcases fillAll_cases ks Oi q hq with ⟨j2,g2,oc2,hg2,hs2,hlast2,hv2⟩|⟨hno2,hv2⟩
    ·have hj2k:j2<k:=by have:=(List.getElem?_eq_some_iff.1 hg2).1;omega
     have:j=j2:=by
      rcases Nat.lt_trichotomy j j2 with h3|h3|h3
      ·exact absurd hs2 (hlast j2 g2 oc2 h3 hj2k (hall j2 hj2k) hg2)
      ·exact h3
      ·exact absurd hs (hlast2 j g oc h3 hg)
     subst this
     rw [hg] at hg2;cases hg2
     rw [hs] at hs2;cases hs2
     rw [hv,hv2]
    ·exact absurd hs (hno2 j g oc hg)
    ·have hj2k:j2<k:=by have:=(List.getElem?_eq_some_iff.1 hg2).1;omega
     exact absurd hs2 (hno j2 g2 oc2 hj2k (hall j2 hj2k) hg2)
    ·rw [hv,hv2]
   ·rcases Nat.lt_or_ge q Ov.length with h3|h3
    ·rw [hroom.dead q hq h3,List.getElem?_append_right (by omega),List.getElem?_replicate,if_pos (by omega)]
    ·rw [List.getElem?_eq_none h3,List.getElem?_eq_none (by simp;omega)]
  subst hOv
  have hlist:listed=(Array.range l.toArray.size).map fun i=>decide (i<k):=by
   apply Array.ext
   ·simp [inv.size]
   ·intro i hi1 hi2
    have hi:i<l.toArray.size:=by rw [←inv.size];exact hi1
    by_cases hik:i<k
    ·have:=hall i hik
     simp [hi1] at this
     simp [this,hik]
    ·have:=inv.tail i (by omega) hi
     simp [hi1] at this
     simp [this,hik]
  have hdl:(l.drop k).length=l.toArray.size-k:=by simp
  rw [←hdl]
  refine wpAny_of_seq (l.drop k) k listed a w (fun j=>by simp [List.getElem?_drop]) (by rw [hdl,hlist];exact hseq) ?_
  refine h a w (hrT.relook fun t=>?_)
  rw [look_append]
  split
  ·rename_i hh
   obtain ⟨i,hi,hi2⟩:=List.getElem_of_mem (has_look hh)
   have:out[i]?=some (t,look out t):=by rw [List.getElem?_eq_getElem hi,hi2]
   exact (h1 i _ _ this (hall i (by omega))).symm
  ·rename_i hh
   exact (h2 t (by simpa using hh)).symm) k _ a w.drew inv0 (by
    have:((List.range k).filter fun i=>!(Array.replicate l.toArray.size false).getD i false)=List.range k:=by
     rw [List.filter_eq_self];intro i _;rw [getD_replicate_false];rfl
    rw [this];simp) ⟨T0,_,hr.drew,room0,⟨fun i d V _ hl=>(by rw [getD_replicate_false] at hl;cases hl),fun _ _=>rfl⟩⟩
 rw [show k+(l.toArray.size-k)=l.toArray.size by omega] at fin
 exact fin
def chainR (ops:Array Oper) (sh:List Nat) (c:Nat):Nat→List (Nat×Nat)→List Fil→Bool
 |_,_,[]=>true
 |j,seen,f::ks=>match f.spot with
  |none=>chainR ops sh c (j+1) seen ks
  |some (p,_)=>Nat.blt p c&&(seen.all fun s=>!Nat.beq s.1 p||(memB p sh&&match ops[j]? with|some o=>waits o s.2|none=>false))&&chainR ops sh c (j+1) ((p,j)::seen) ks
theorem chainR_lt {sh:List Nat} {c:Nat}:∀{ks:List Fil} {j:Nat} {seen:List (Nat×Nat)},chainR ops sh c j seen ks=true→∀i f p ob,ks[i]?=some f→f.spot=some (p,ob)→p<c∧∀s∈seen,s.1=p→memB p sh=true∧∃o,ops[j+i]?=some o∧waits o s.2=true
 |[],_,_,_,i,f,p,ob,h,_=>by simp at h
 |g::ks,j,seen,hB,i,f,p,ob,h,hs=>by
  unfold chainR at hB
  cases i with
  |zero=>
   simp at h;subst h
   rw [hs] at hB
   simp only [Bool.and_eq_true] at hB
   refine ⟨Nat.le_of_ble_eq_true hB.1.1,fun s hm e=>?_⟩
   have:=List.all_eq_true.1 hB.1.2 s hm
   simp only [Bool.or_eq_true,Bool.not_eq_true',Bool.and_eq_true] at this
   rcases this with h|⟨h1,h2⟩
   ·subst e;simp at h
   ·refine ⟨h1,?_⟩
    rw [Nat.add_zero]
    split at h2
    ·rename_i o ho;exact ⟨o,ho,h2⟩
    ·cases h2
  |succ i=>
   have e:j+(i+1)=j+1+i:=by omega
   rw [e]
   cases hg:g.spot with
   |none=>rw [hg] at hB;exact chainR_lt hB i f p ob (by simpa using h) hs
   |some x=>
    obtain ⟨p',ob'⟩:=x
    rw [hg] at hB
    simp only [Bool.and_eq_true] at hB
    have:=chainR_lt hB.2 i f p ob (by simpa using h) hs
    exact ⟨this.1,fun s hm e=>this.2 s (List.mem_cons_of_mem _ hm) e⟩
theorem chainR_pair {sh:List Nat} {c:Nat}:∀{ks:List Fil} {j:Nat} {seen:List (Nat×Nat)},chainR ops sh c j seen ks=true→∀i i2 f g p ob oc,i<i2→ks[i]?=some f→ks[i2]?=some g→f.spot=some (p,ob)→g.spot=some (p,oc)→memB p sh=true∧∃o,ops[j+i2]?=some o∧waits o (j+i)=true
 |[],_,_,_,i,i2,f,g,p,ob,oc,_,h,_,_,_=>by simp at h
 |x::ks,j,seen,hB,i,i2,f,g,p,ob,oc,hlt,h,h2,hs,hs2=>by
  unfold chainR at hB
  cases i2 with
  |zero=>omega
  |succ i2=>
   have e2:j+(i2+1)=j+1+i2:=by omega
   cases i with
   |zero=>
    simp at h;subst h
    rw [hs] at hB
    simp only [Bool.and_eq_true] at hB
    have:=(chainR_lt hB.2 i2 g p oc (by simpa using h2) hs2).2 (p,j) (by simp) rfl
    rw [e2];exact this
   |succ i=>
    have e:j+(i+1)=j+1+i:=by omega
    rw [e,e2]
    cases hg:x.spot with
    |none=>rw [hg] at hB;exact chainR_pair hB i i2 f g p ob oc (by omega) (by simpa using h) (by simpa using h2) hs hs2
    |some y=>
     obtain ⟨p',ob'⟩:=y
     rw [hg] at hB
     simp only [Bool.and_eq_true] at hB
     exact chainR_pair hB.2 i i2 f g p ob oc (by omega) (by simpa using h) (by simpa using h2) hs hs2
theorem roomROk_of {ks:List Fil} {c k:Nat} (h:chainR ops sh c 0 [] ks=true):RoomROk ops sh ks c k:=
 ⟨fun i f p ob _ hk hs=>(chainR_lt h i f p ob hk hs).1,fun i j f g p ob oc hij _ hi hj hf hg=>by
  have:=chainR_pair h i j f g p ob oc hij hi hj hf hg
  rw [Nat.zero_add,Nat.zero_add] at this;exact this⟩
theorem HeadR.consF {fs fs2 out:List (Nat×AV)} {gs gs2:List Fil} {o:Oper} {l:List Oper} {d:Nat} {V:AV} {F:List (Nat×AV)} {ks:List Fil} {cur:List AObj} (k:Fil) (hd:o.dst=some d) (hF:depsF fs o.after.toList=some F) (hcur:fillAll gs Oi=cur)
 (h:∀Tv Ov,Oi.length≤Ov.length→(∀ p ob,k.spot=some (p,ob)→Ov[p]?=cur[p]?)→(∀ j f p ob,waits o j=true→gs[j]?=some f→f.spot=some (p,ob)→memB p sh=false→Ov[p]?=some ob)→(∀ q,memB q keep=true→Ov[q]?=Oi[q]?)→WpL P n m G false ops [o] ⟨F++(T0++Tv),O++Ov⟩ (Only ⟨(d,V)::(F++(T0++Tv)),O++k.run Ov⟩)) (hs:catF fs [(d,V)]=some fs2) (hg:catF gs [k]=some gs2) (r:HeadR P n m G ops T0 O Oi keep sh fs2 gs2 l out ks):HeadR P n m G ops T0 O Oi keep sh fs gs (o::l) out ks:=by
 have:=catF_eq hs;subst this;have:=catF_eq hg;subst this;subst hcur
 exact .cons k (depsF_eq hF) h r
theorem Weak.any1 {d:Nat} {T:List (Nat×AV)}:Weak m ⟨T,O⟩ ⟨(d,.any)::T,O⟩:=by
 rintro n G a w ⟨S,ι,F,hr⟩
 refine ⟨S,ι,F,hr.defers,hr.size,fun t=>?_,hr.objs,hr.foot,hr.base,hr.stable,hr.keeps,hr.spots,hr.mle⟩
 show VRel S w ι O (look ((d,.any)::T) t) _ []
 by_cases he:d=t
 ·subst he;rw [look_cons_same];exact .any .nil
 ·rw [look_cons_other _ _ _ _ he];exact hr.tmps t
theorem HeadR.consN {fs fs2 out:List (Nat×AV)} {gs gs2:List Fil} {o:Oper} {l:List Oper} {F:List (Nat×AV)} {ks:List Fil} {cur:List AObj} (k:Fil) (d:Nat) (hF:depsF fs o.after.toList=some F) (hcur:fillAll gs Oi=cur)
 (h:∀Tv Ov,Oi.length≤Ov.length→(∀ p ob,k.spot=some (p,ob)→Ov[p]?=cur[p]?)→(∀ j f p ob,waits o j=true→gs[j]?=some f→f.spot=some (p,ob)→memB p sh=false→Ov[p]?=some ob)→(∀ q,memB q keep=true→Ov[q]?=Oi[q]?)→WpL P n m G false ops [o] ⟨F++(T0++Tv),O++Ov⟩ (Only ⟨(d,.any)::(F++(T0++Tv)),O++k.run Ov⟩)) (hs:catF fs [(d,.any)]=some fs2) (hg:catF gs [k]=some gs2) (r:HeadR P n m G ops T0 O Oi keep sh fs2 gs2 l out ks):HeadR P n m G ops T0 O Oi keep sh fs gs (o::l) out ks:=by
 have:=catF_eq hs;subst this;have:=catF_eq hg;subst this;subst hcur
 exact .cons k (depsF_eq hF) h r
theorem WpA.regionRF {l l1 l2:List Oper} {id:Nat} {out T1:List (Nat×AV)} {ks:List Fil} {Of Or O1:List AObj} {Q:Exit→St→Prop} (k c:Nat) (keep sh:List Nat) (hO0:Of=O++Or) (hm:P.follows .mixedOrders=true) (hB:mixB l.toArray k=true)
 (hl:takeF k l=some l1) (hJ:HeadR P n m G l.toArray T0 O (Or++List.replicate c roomO) keep sh [] [] l1 out ks) (hok:chainR l.toArray sh (Or.length+c) 0 [] ks=true) (hkp:keepB (Or.length+c) (spots ks) keep=true) (hnd:nodupB (out.map (·.1))=true) (hfr:(out.all fun p=>!has T0 p.1)=true)
 (hT1:catF out T0=some T1) (h2:l.drop k=l2) (hO:O++(fillAll ks (Or++List.replicate c roomO)++List.replicate ((List.range k).filter fun i=>isPut ks i).length deadO)=O1) (h:WpL P n m G false l.toArray l2 ⟨T1,O1⟩ Q):WpA P n m G (.region id l.toArray true) ⟨T0,Of⟩ Q:=by
 have:=takeF_eq hl;subst this;subst h2;subst hO;subst hO0
 have hc:(Or++List.replicate c roomO).length=Or.length+c:=by simp
 have hw:=WpA.regionR (Q:=Q) (id:=id) k hm hB hJ (by rw [hc];exact roomROk_of hok) (fun q hq=>by rw [hc];exact keepB_of hkp hq) hnd hfr (catF_eq hT1) h
 have hr:=Weak.rooms (m:=m) (T:=T0) c (O++Or)
 rw [List.append_assoc] at hr
 exact WpA.weak hr hw
end
end Go.Abs


namespace Go.Abs
open Go
structure Fis where
 sets:List (Nat×AObj)
 dead:Bool
def lkF:List (Nat×AObj)→Nat→Option AObj
 |[],_=>Option.none
 |(p,ob)::l,q=>if Nat.beq p q=true then some ob else lkF l q
def setsF:List (Nat×AObj)→List AObj→List AObj
 |[],Ov=>Ov
 |(p,ob)::l,Ov=>(setsF l Ov).set p ob
def Fis.got (f:Fis) (q:Nat):Option AObj:=lkF f.sets q
def Fis.isPutS (f:Fis):Bool:=f.dead
def Fis.run (f:Fis) (Ov:List AObj):List AObj:=match f.dead with
 |true=>setsF f.sets Ov++[deadO]
 |false=>setsF f.sets Ov
abbrev Fis.none:Fis:=⟨[],false⟩
abbrev Fis.put (p:Nat) (ob:AObj):Fis:=⟨[(p,ob)],true⟩
abbrev Fis.step (p:Nat) (ob:AObj):Fis:=⟨[(p,ob)],false⟩
abbrev Fis.both (c:Nat) (oc:AObj) (p:Nat) (ob:AObj):Fis:=⟨[(p,ob),(c,oc)],true⟩
def isPutS (ks:List Fis) (i:Nat):Bool:=(ks[i]?.map Fis.isPutS).getD false
def fillAllS:List Fis→List AObj→List AObj
 |[],Oi=>Oi
 |f::ks,Oi=>fillAllS ks (setsF f.sets Oi)
theorem setsF_len:∀(l:List (Nat×AObj)) (Ov:List AObj),(setsF l Ov).length=Ov.length
 |[],_=>rfl
 |(p,ob)::l,Ov=>by rw [setsF,List.length_set,setsF_len l Ov]
theorem setsF_at:∀(l:List (Nat×AObj)) (Ov:List AObj) (q:Nat),q<Ov.length→(setsF l Ov)[q]?=match lkF l q with|some ob=>some ob|Option.none=>Ov[q]?
 |[],_,_,_=>rfl
 |(p,ob)::l,Ov,q,hq=>by
  rw [setsF,lkF,List.getElem?_set]
  by_cases e:p=q
  ·subst e
   rw [if_pos rfl,if_pos (by rw [setsF_len];exact hq),if_pos (by simp)]
  ·rw [if_neg e,if_neg (by simpa using e)]
   exact setsF_at l Ov q hq
theorem setsF_out:∀(l:List (Nat×AObj)) (Ov:List AObj) (q:Nat),lkF l q=Option.none→(setsF l Ov)[q]?=Ov[q]?
 |[],_,_,_=>rfl
 |(p,ob)::l,Ov,q,h=>by
  rw [lkF] at h
  split at h
  ·cases h
  ·rename_i e
   rw [setsF,List.getElem?_set,if_neg (by simpa using e)]
   exact setsF_out l Ov q h
theorem fillAllS_len:∀(ks:List Fis) (Oi:List AObj),(fillAllS ks Oi).length=Oi.length
 |[],_=>rfl
 |f::ks,Oi=>by rw [fillAllS,fillAllS_len ks,setsF_len]
theorem lkF_mem:∀{l:List (Nat×AObj)} {q:Nat} {ob:AObj},lkF l q=some ob→∃x∈l,x.1=q
 |[],_,_,h=>by simp [lkF] at h
 |(p,o)::l,q,ob,h=>by
  rw [lkF] at h
  split at h
  ·rename_i e;exact ⟨(p,o),by simp,by simpa using e⟩
  ·obtain ⟨x,hx,e⟩:=lkF_mem h;exact ⟨x,List.mem_cons_of_mem _ hx,e⟩
def spotsS (ks:List Fis):List Nat:=ks.flatMap fun f=>f.sets.map (·.1)
theorem keepB_ofS {c k:Nat} {ks:List Fis}:∀{l:List Nat},keepB c (spotsS ks) l=true→∀{q},memB q l=true→q<c∧∀i f p ob,i<k→ks[i]?=some f→f.got p=some ob→p≠q
 |[],_,q,h=>by cases h
 |x::l,hB,q,h=>by
  simp only [keepB,Bool.and_eq_true,Bool.not_eq_true'] at hB
  simp only [memB,Bool.or_eq_true] at h
  rcases h with h|h
  ·have e:q=x:=Nat.eq_of_beq_eq_true h
   subst e
   refine ⟨Nat.le_of_ble_eq_true hB.1.1,fun i f p ob _ hf hg e=>?_⟩
   subst e
   obtain ⟨y,hy,e2⟩:=lkF_mem hg
   refine memB_false hB.1.2 ?_
   unfold spotsS
   rw [List.mem_flatMap]
   exact ⟨f,List.mem_of_getElem? hf,by rw [←e2];exact List.mem_map_of_mem hy⟩
  ·exact keepB_ofS hB.2 h
inductive HeadS (P:Program) (n m:Nat) (G:Ctx) (ops:Array Oper) (T0:List (Nat×AV)) (O Oi:List AObj) (keep sh:List Nat):List (Nat×AV)→List Fis→List Oper→List (Nat×AV)→List Fis→Prop
 |nil {fs gs}:HeadS P n m G ops T0 O Oi keep sh fs gs [] fs gs
 |cons {fs out:List (Nat×AV)} {gs:List Fis} {o:Oper} {l:List Oper} {d:Nat} {V:AV} {F:List (Nat×AV)} {ks:List Fis} (k:Fis) (hF:deps fs o=F)
   (h:∀Tv Ov,Oi.length≤Ov.length→(∀ p ob,k.got p=some ob→Ov[p]?=(fillAllS gs Oi)[p]?)→(∀ j f p ob,waits o j=true→gs[j]?=some f→f.got p=some ob→memB p sh=false→Ov[p]?=some ob)→(∀ q,memB q keep=true→Ov[q]?=Oi[q]?)→
    WpL P n m G false ops [o] ⟨F++(T0++Tv),O++Ov⟩ (Only ⟨(d,V)::(F++(T0++Tv)),O++k.run Ov⟩)) (r:HeadS P n m G ops T0 O Oi keep sh (fs++[(d,V)]) (gs++[k]) l out ks):HeadS P n m G ops T0 O Oi keep sh fs gs (o::l) out ks
section
variable {P:Program} {n m:Nat} {G:Ctx} {ops:Array Oper} {T0:List (Nat×AV)} {O Oi:List AObj} {keep sh:List Nat}
theorem HeadS.pre {fs gs l out ks} (h:HeadS P n m G ops T0 O Oi keep sh fs gs l out ks):∃r s,out=fs++r∧r.length=l.length∧ks=gs++s∧s.length=l.length:=by
 induction h with
 |nil=>exact ⟨[],[],by simp,rfl,by simp,rfl⟩
 |@cons fs out gs o l d V F ks k _ _ _ ih=>obtain ⟨r,s,h1,h2,h3,h4⟩:=ih;exact ⟨(d,V)::r,k::s,by rw [h1];simp,by simp [h2],by rw [h3];simp,by simp [h4]⟩
theorem HeadS.at {fs gs l out ks} (h:HeadS P n m G ops T0 O Oi keep sh fs gs l out ks) (hg:gs.length=fs.length):∀{j:Nat} {o:Oper},l[j]?=some o→∃d V k,out[fs.length+j]?=some (d,V)∧ks[fs.length+j]?=some k∧
 ∀Tv Ov,Oi.length≤Ov.length→(∀ p ob,k.got p=some ob→Ov[p]?=(fillAllS (ks.take (fs.length+j)) Oi)[p]?)→(∀ i f p ob,waits o i=true→(ks.take (fs.length+j))[i]?=some f→f.got p=some ob→memB p sh=false→Ov[p]?=some ob)→(∀ q,memB q keep=true→Ov[q]?=Oi[q]?)→
  WpL P n m G false ops [o] ⟨deps (out.take (fs.length+j)) o++(T0++Tv),O++Ov⟩ (Only ⟨(d,V)::(deps (out.take (fs.length+j)) o++(T0++Tv)),O++k.run Ov⟩):=by
 induction h with
 |nil=>intro j o h;simp at h
 |@cons fs out gs o l d V F ks k hF h r ih=>
  intro j o' hj
  obtain ⟨r',s',h1,h2,h3,h4⟩:=r.pre
  cases j with
  |zero=>
   simp only [List.getElem?_cons_zero,Option.some.injEq] at hj
   subst hj
   refine ⟨d,V,k,by rw [h1];simp,by rw [h3];simp [hg],?_⟩
   have:out.take (fs.length+0)=fs:=by rw [h1,Nat.add_zero,List.append_assoc,List.take_left'];rfl
   have e2:ks.take (fs.length+0)=gs:=by rw [h3,Nat.add_zero,List.append_assoc,List.take_left'];exact hg
   rw [this,hF,e2];exact h
  |succ j=>
   have:=ih (by simp [hg]) (j:=j) (o:=o') (by simpa using hj)
   rw [List.length_append,List.length_singleton,Nat.add_assoc,Nat.add_comm 1 j] at this
   simpa using this
theorem fillAllS_cases:∀(L:List Fis) (Oi:List AObj) (q:Nat),q<Oi.length→(∃ (i:Nat) (f:Fis) (ob:AObj),L[i]?=some f∧f.got q=some ob∧(∀ (j:Nat) (g:Fis) (oc:AObj),i<j→L[j]?=some g→g.got q≠some oc)∧(fillAllS L Oi)[q]?=some ob)∨
 ((∀ (j:Nat) (g:Fis) (oc:AObj),L[j]?=some g→g.got q≠some oc)∧(fillAllS L Oi)[q]?=Oi[q]?)
 |[],Oi,q,hq=>.inr ⟨fun j g oc h=>by simp at h,rfl⟩
 |f::L,Oi,q,hq=>by
  rw [fillAllS]
  rcases fillAllS_cases L (setsF f.sets Oi) q (by rw [setsF_len];exact hq) with ⟨i,g,ob,h1,h2,h3,h4⟩|⟨h1,h2⟩
  ·refine .inl ⟨i+1,g,ob,by simpa using h1,h2,fun j g' oc hj hg=>?_,h4⟩
   cases j with
   |zero=>omega
   |succ j=>exact h3 j g' oc (by omega) (by simpa using hg)
  ·cases hs:f.got q with
   |some ob0=>
    refine .inl ⟨0,f,ob0,by simp,hs,fun j g' oc hj hg=>?_,?_⟩
    ·cases j with
     |zero=>omega
     |succ j=>exact h1 j g' oc (by simpa using hg)
    ·rw [h2,setsF_at _ _ _ hq]
     unfold Fis.got at hs;rw [hs]
   |none=>
    refine .inr ⟨fun j g oc hg=>?_,by rw [h2];exact setsF_out _ _ _ hs⟩
    cases j with
    |zero=>simp at hg;subst hg;rw [hs];simp
    |succ j=>exact h1 j g oc (by simpa using hg)
structure RoomS (ks:List Fis) (Oi:List AObj) (k:Nat) (listed:Array Bool) (Ov:List AObj):Prop where
 len:Ov.length=Oi.length+((List.range k).filter fun i=>listed.getD i false&&isPutS ks i).length
 cur:∀q,q<Oi.length→(∃ i f ob,i<k∧listed.getD i false=true∧ks[i]?=some f∧f.got q=some ob∧(∀ j g oc,i<j→j<k→listed.getD j false=true→ks[j]?=some g→g.got q≠some oc)∧Ov[q]?=some ob)∨
  ((∀ j g oc,j<k→listed.getD j false=true→ks[j]?=some g→g.got q≠some oc)∧Ov[q]?=Oi[q]?)
 dead:∀q,Oi.length≤q→q<Ov.length→Ov[q]?=some deadO
structure RoomSOk (ops:Array Oper) (sh:List Nat) (ks:List Fis) (c k:Nat):Prop where
 lt:∀i f p ob,i<k→ks[i]?=some f→f.got p=some ob→p<c
 chain:∀i j f g p ob oc,i<j→j<k→ks[i]?=some f→ks[j]?=some g→f.got p=some ob→g.got p=some oc→memB p sh=true∧reach ops 24 j i=true
theorem reach_hall {k:Nat} {listed:Array Bool} {o:Oper} {i j f:Nat} (inv:HeadInv .any ops k listed) (ho:ops[i]?=some o) (hall:∀e∈o.after,Region.binds .any e=true→listed.getD e.on false=true) (h:reach ops f i j=true):listed.getD j false=true:=by
 cases f with
 |zero=>simp [reach] at h
 |succ f=>
  rw [reach,ho] at h
  rcases Bool.or_eq_true_iff.1 h with h|h
  ·obtain ⟨e,he,hx⟩:=List.any_eq_true.1 h
   rw [Bool.and_eq_true] at hx
   have:=hall e (by simpa using he) hx.1
   rw [Nat.eq_of_beq_eq_true hx.2] at this;exact this
  ·obtain ⟨e,he,hx⟩:=List.any_eq_true.1 h
   rw [Bool.and_eq_true] at hx
   exact reach_listed inv f _ _ hx.2 (hall e (by simpa using he) hx.1)
theorem RoomS.before {ks:List Fis} {k i:Nat} {listed:Array Bool} {Ov:List AObj} {f:Fis} {o:Oper} (h:RoomS ks Oi k listed Ov) (ok:RoomSOk ops sh ks Oi.length k) (inv:HeadInv .any ops k listed) (hik:i<k) (hu:listed.getD i false=false) (hall:∀e∈o.after,Region.binds .any e=true→listed.getD e.on false=true) (ho:ops[i]?=some o) (hf:ks[i]?=some f) {p:Nat} {ob:AObj} (hsp:f.got p=some ob):
 Ov[p]?=(fillAllS (ks.take i) Oi)[p]?:=by
 have hp:=ok.lt i f p ob hik hf hsp
 have hbef:∀j g oc,j<i→ks[j]?=some g→g.got p=some oc→listed.getD j false=true:=by
  intro j g oc hj hg hs
  exact reach_hall inv ho hall (ok.chain j i g f p oc ob hj hik hg hf hs hsp).2
 have haft:∀j g oc,i<j→j<k→ks[j]?=some g→g.got p=some oc→listed.getD j false=false:=by
  intro j g oc hj hjk hg hs
  have hw:=(ok.chain i j f g p ob oc hj hjk hf hg hsp hs).2
  cases hl:listed.getD j false with
  |false=>rfl
  |true=>
   have:=reach_listed inv _ _ _ hw hl
   rw [hu] at this;cases this
 have htk:∀j g,(ks.take i)[j]?=some g→j<i∧ks[j]?=some g:=by
  intro j g hg
  rw [List.getElem?_take] at hg
  split at hg
  ·rename_i hj;exact ⟨hj,hg⟩
  ·cases hg
 rcases h.cur p hp with ⟨j,g,oc,hjk,hl,hg,hs,hlast,hv⟩|⟨hno,hv⟩<;>rcases fillAllS_cases (ks.take i) Oi p hp with ⟨j2,g2,oc2,hg2,hs2,hlast2,hv2⟩|⟨hno2,hv2⟩
 ·obtain ⟨hj2,hg2⟩:=htk j2 g2 hg2
  have hji:j<i:=by
   rcases Nat.lt_trichotomy j i with h1|h1|h1
   ·exact h1
   ·subst h1;rw [hu] at hl;cases hl
   ·rw [haft j g oc h1 hjk hg hs] at hl;cases hl
  have:j=j2:=by
   rcases Nat.lt_trichotomy j j2 with h1|h1|h1
   ·exact absurd hs2 (hlast j2 g2 oc2 h1 (by omega) (hbef j2 g2 oc2 hj2 hg2 hs2) hg2)
   ·exact h1
   ·exact absurd hs (hlast2 j g oc h1 (by rw [List.getElem?_take,if_pos hji];exact hg))
  subst this
  rw [hg] at hg2;cases hg2
  rw [hs] at hs2;cases hs2
  rw [hv,hv2]
 ·have hji:j<i:=by
   rcases Nat.lt_trichotomy j i with h1|h1|h1
   ·exact h1
   ·subst h1;rw [hu] at hl;cases hl
   ·rw [haft j g oc h1 hjk hg hs] at hl;cases hl
  exact absurd hs (hno2 j g oc (by rw [List.getElem?_take,if_pos hji];exact hg))
 ·obtain ⟨hj2,hg2⟩:=htk j2 g2 hg2
  exact absurd hs2 (hno j2 g2 oc2 (by omega) (hbef j2 g2 oc2 hj2 hg2 hs2) hg2)
 ·rw [hv,hv2]
theorem RoomS.step {ks:List Fis} {k i:Nat} {listed:Array Bool} {Ov:List AObj} {f:Fis} (h:RoomS ks Oi k listed Ov) (ok:RoomSOk ops sh ks Oi.length k) (inv:HeadInv .any ops k listed) (hik:i<k) (hs:i<listed.size) (hu:listed.getD i false=false) (hf:ks[i]?=some f):
 RoomS ks Oi k (listed.setIfInBounds i true) (f.run Ov):=by
 have hself:(listed.setIfInBounds i true).getD i false=true:=by simp [hs]
 have hcnt:=count_set (f:=isPutS ks) hik hs hu
 have hlen:=h.len
 have hp:isPutS ks i=f.isPutS:=by unfold isPutS;rw [hf];rfl
 rw [hp] at hcnt
 have hrl:(f.run Ov).length=Ov.length+(if f.isPutS=true then 1 else 0):=by
  unfold Fis.run Fis.isPutS
  cases f.dead<;>simp [setsF_len]
 have hle:Oi.length≤Ov.length:=by omega
 have hrun:∀q,q<Ov.length→(f.run Ov)[q]?=(setsF f.sets Ov)[q]?:=by
  intro q hq
  unfold Fis.run
  cases f.dead
  ·rfl
  ·simp only
   rw [List.getElem?_append_left (by rw [setsF_len];exact hq)]
 have hoth:∀q,q<Ov.length→(∀ p ob,f.got p=some ob→p≠q)→(f.run Ov)[q]?=Ov[q]?:=by
  intro q hq hne
  rw [hrun q hq]
  refine setsF_out _ _ _ ?_
  cases hc:lkF f.sets q with
  |none=>rfl
  |some ob=>exact absurd rfl (hne q ob hc)
 have hown:∀p ob,f.got p=some ob→(f.run Ov)[p]?=some ob:=by
  intro p ob e
  have hpc:=ok.lt i f p ob hik hf e
  rw [hrun p (by omega),setsF_at _ _ _ (by omega)]
  unfold Fis.got at e;rw [e]
 refine ⟨by rw [hrl,hcnt,hlen];split<;>omega,fun q hq=>?_,fun q h1 h2=>?_⟩
 ·by_cases hq2:∃ob,f.got q=some ob
  ·obtain ⟨ob,hsp⟩:=hq2
   refine .inl ⟨i,f,ob,hik,hself,hf,hsp,fun j g oc hj hjk hl hg hs2=>?_,hown q ob hsp⟩
   rw [getD_set_ne false (by omega)] at hl
   have:=reach_listed inv _ _ _ (ok.chain i j f g q ob oc hj hjk hf hg hsp hs2).2 hl
   rw [hu] at this;cases this
  ·have hne:∀p ob,f.got p=some ob→p≠q:=fun p ob hsp e=>hq2 ⟨ob,e▸hsp⟩
   rw [hoth q (by omega) hne]
   rcases h.cur q hq with ⟨j,g,oc,hjk,hl,hg,hs2,hlast,hv⟩|⟨hno,hv⟩
   ·have hij:i≠j:=by rintro rfl;rw [hu] at hl;cases hl
    refine .inl ⟨j,g,oc,hjk,by rw [getD_set_ne false hij];exact hl,hg,hs2,fun j2 g2 oc2 h1 h2 h3 h4=>?_,hv⟩
    by_cases e:i=j2
    ·subst e;rw [hf] at h4;cases h4;exact fun h5=>hq2 ⟨_,h5⟩
    ·rw [getD_set_ne false e] at h3;exact hlast j2 g2 oc2 h1 h2 h3 h4
   ·refine .inr ⟨fun j2 g2 oc2 h2 h3 h4=>?_,hv⟩
    by_cases e:i=j2
    ·subst e;rw [hf] at h4;cases h4;exact fun h5=>hq2 ⟨_,h5⟩
    ·rw [getD_set_ne false e] at h3;exact hno j2 g2 oc2 h2 h3 h4
 ·rcases Nat.lt_or_ge q Ov.length with h3|h3
  ·rw [hoth q h3 (fun p ob e1=>by have:=ok.lt i f p ob hik hf e1;omega)]
   exact h.dead q h1 h3
  ·cases hd:f.dead with
   |false=>exact absurd h2 (by rw [hrl];unfold Fis.isPutS;rw [hd];simp;omega)
   |true=>
    have e:q=Ov.length:=by
     rw [hrl] at h2;unfold Fis.isPutS at h2;rw [hd] at h2;simp at h2;omega
    subst e
    unfold Fis.run;rw [hd];simp only
    rw [List.getElem?_append_right (by rw [setsF_len];exact Nat.le_refl _),setsF_len];simp
def GoodS (n m:Nat) (G:Ctx) (T0 out:List (Nat×AV)) (O Oi:List AObj) (k:Nat) (ks:List Fis) (listed:Array Bool) (a:Act) (w:World):Prop:=
 ∃T Ov,Rel n m G ⟨T,O++Ov⟩ a w∧RoomS ks Oi k listed Ov∧(∀ (i d:Nat) (V:AV),out[i]?=some (d,V)→listed.getD i false=true→look T d=V)∧∀t,has out t=false→look T t=look T0 t
theorem head_stepS {out:List (Nat×AV)} {ks:List Fis} {k:Nat} (H:Heads ops T0 out k) (ok:RoomSOk ops sh ks Oi.length k) (hkp:∀q,memB q keep=true→q<Oi.length∧∀i f p ob,i<k→ks[i]?=some f→f.got p=some ob→p≠q) {Q:Exit→Act→World→Prop} (hJ:∀{j:Nat} {o:Oper},j<k→ops[j]?=some o→∃d V f,out[j]?=some (d,V)∧ks[j]?=some f∧
 ∀Tv Ov,Oi.length≤Ov.length→(∀ p ob,f.got p=some ob→Ov[p]?=(fillAllS (ks.take j) Oi)[p]?)→(∀ i f p ob,waits o i=true→(ks.take j)[i]?=some f→f.got p=some ob→memB p sh=false→Ov[p]?=some ob)→(∀ q,memB q keep=true→Ov[q]?=Oi[q]?)→WpL P n m G false ops [o] ⟨deps (out.take j) o++(T0++Tv),O++Ov⟩ (Only ⟨(d,V)::(deps (out.take j) o++(T0++Tv)),O++f.run Ov⟩))
 {listed:Array Bool} (inv:HeadInv .any ops k listed) {i:Nat} (hi:i∈Region.ready .any ops listed) (hik:i<k) {a w} (hg:GoodS n m G T0 out O Oi k ks listed a w) {K:Act→World→Prop}
 (hK:∀a' w',GoodS n m G T0 out O Oi k ks (listed.setIfInBounds i true) a' w'→K a' w'):wpOp P ops Q i K a w:=by
 obtain ⟨hun,o,ho,hall⟩:=mem_ready.1 hi
 obtain ⟨T,Ov,hr,hroom,h1,h2⟩:=hg
 obtain ⟨d,V,f,hout,hkf,hw⟩:=hJ hik ho
 have hF:∀t U,(t,U)∈deps (out.take i) o→look T t=U:=by
  intro t U hm
  simp only [deps,List.mem_filterMap] at hm
  obtain ⟨e,he,hx⟩:=hm
  split at hx
  ·rename_i hb
   have he':e∈o.after:=by simpa using he
   have hx':out[e.on]?=some (t,U):=by
    rw [List.getElem?_take] at hx
    split at hx
    ·exact hx
    ·simp at hx
   exact h1 _ _ _ hx' (hall e he' hb)
  ·simp at hx
 have same:∀t,look (deps (out.take i) o++(T0++T)) t=look T t:=by
  intro t
  rw [look_append]
  split
  ·rename_i h;exact (hF _ _ (has_look h)).symm
  ·rw [look_append]
   split
   ·rename_i h
    refine (h2 t ?_).symm
    cases hc:has out t with
    |false=>rfl
    |true=>have:=H.fresh _ (has_look hc);simp only at this;rw [this] at h;cases h
   ·rfl
 have hiu:listed.getD i false=false:=getD_both hun
 have hdep:∀j g p ob,waits o j=true→(ks.take i)[j]?=some g→g.got p=some ob→memB p sh=false→Ov[p]?=some ob:=by
  intro j g p ob hwt hg hsp hsh
  obtain ⟨e,he,hb,rfl⟩:=waits_spec hwt
  have hl:=hall e he hb
  rw [List.getElem?_take] at hg
  split at hg
  ·rename_i hji
   have hp:=ok.lt e.on g p ob (by omega) hg hsp
   rcases hroom.cur p hp with ⟨j2,g2,oc,hjk,hl2,hg2,hs2,hlast,hv⟩|⟨hno,hv⟩
   ·have hj:j2=e.on:=by
     rcases Nat.lt_trichotomy j2 e.on with h3|h3|h3
     ·have:=(ok.chain j2 e.on g2 g p oc ob h3 (by omega) hg2 hg hs2 hsp).1
      rw [hsh] at this;cases this
     ·exact h3
     ·have:=(ok.chain e.on j2 g g2 p ob oc h3 hjk hg hg2 hsp hs2).1
      rw [hsh] at this;cases this
    subst hj
    rw [hg] at hg2;cases hg2
    rw [hsp] at hs2;cases hs2
    exact hv
   ·exact absurd hsp (hno e.on g ob (by omega) hl hg)
  ·cases hg
 have hrest:∀q,memB q keep=true→Ov[q]?=Oi[q]?:=by
  intro q hq
  obtain ⟨hlt,hno⟩:=hkp q hq
  rcases hroom.cur q hlt with ⟨j,g,oc,hjk,_,hg,hs2,_,_⟩|⟨_,hv⟩
  ·exact absurd rfl (hno j g q oc hjk hg hs2)
  ·exact hv
 have hw':=hw T Ov (by rw [hroom.len];omega) (fun p ob e=>hroom.before ok inv hik hiu hall ho hkf e) hdep hrest a w (hr.relook same)
 have hst:=hroom.step ok inv hik (by rw [inv.size];have:=(Array.getElem?_eq_some_iff.1 ho).1;omega) hiu hkf
 simp only at hw'
 have good:∀a' w',Rel n m G ⟨(d,V)::(deps (out.take i) o++(T0++T)),O++f.run Ov⟩ a' w'→GoodS n m G T0 out O Oi k ks (listed.setIfInBounds i true) a' w':=by
  intro a' w' hr'
  refine ⟨_,_,hr',hst,fun j d' V' hj hl=>?_,fun t ht=>?_⟩
  ·by_cases hij:i=j
   ·subst hij;rw [hout] at hj;cases hj;exact look_cons_same _ _ _
   ·rw [getD_set_ne false hij] at hl
    have hne:d≠d':=by rintro rfl;exact hij (out_inj H.nodup hout hj)
    rw [look_cons_other _ _ _ _ hne,same]
    exact h1 _ _ _ hj hl
  ·have hne:d≠t:=by
    rintro rfl
    have:=has_mem (List.mem_of_getElem? hout)
    rw [ht] at this;cases this
   rw [look_cons_other _ _ _ _ hne,same];exact h2 t ht
 have only:∀e a' w',(∃ σ',Only ⟨(d,V)::(deps (out.take i) o++(T0++T)),O++f.run Ov⟩ e σ'∧Rel n m G σ' a' w')→e=.normal∧K a' w':=by
  rintro e a' w' ⟨σ',hq,hr'⟩
  cases e<;>first|(simp only [Only] at hq;subst hq;exact ⟨rfl,hK _ _ (good _ _ hr')⟩)|exact hq.elim
 unfold wpOp
 simp only [ho]
 change wpList P ops _ [o] a w at hw'
 unfold wpList at hw'
 by_cases hwant:Region.wanted o (yielded ops a.tmps)=true
 ·rw [if_pos hwant] at hw' ⊢
  rcases hw' with hw'|⟨_,a',w',hx⟩
  ·refine .inl ?_
   unfold Oper.wp at hw' ⊢
   generalize (execOp a.eval o).run P w=r at*
   cases r with
   |ok x w1=>
    cases x<;>simp only [Oper.upon] at hw' ⊢
    case value v=>exact (only _ _ _ hw').2
    case skip=>exact (only _ _ _ hw').2
    case defer d=>exact (only _ _ _ hw').2
    case enter f args=>
     refine hw'.mono fun e w2 h2=>?_
     cases e with
     |returned v=>exact (only _ _ _ h2).2
     |panicked c=>exact absurd (only _ _ _ h2).1 (by simp)
     |outgrown=>obtain ⟨_,_,hf⟩:=h2;exact absurd (only _ _ _ hf).1 (by simp)
    case row r ar=>exact hw'.mono fun v w2 h2=>(only _ _ _ h2).2
   |halt x w1=>cases x<;>simp only [Oper.upon] at hw' ⊢<;>first|exact absurd (only _ _ _ hw').1 (by simp)|exact hw'.elim|(obtain ⟨_,_,hf⟩:=hw';exact absurd (only _ _ _ hf).1 (by simp))
  ·exact absurd (only _ _ _ hx).1 (by simp)
 ·rw [if_neg hwant] at hw' ⊢
  exact (only _ _ _ hw').2
theorem WpA.regionS {l:List Oper} {id:Nat} {out T1:List (Nat×AV)} {ks:List Fis} {Q:Exit→St→Prop} (k:Nat) (hm:P.follows .mixedOrders=true) (hB:mixB l.toArray k=true)
 (hJ:HeadS P n m G l.toArray T0 O Oi keep sh [] [] (l.take k) out ks) (hok:RoomSOk l.toArray sh ks Oi.length k) (hkp:∀q,memB q keep=true→q<Oi.length∧∀i f p ob,i<k→ks[i]?=some f→f.got p=some ob→p≠q) (hnd:nodupB (out.map (·.1))=true) (hfr:(out.all fun p=>!has T0 p.1)=true)
 (hT1:out++T0=T1) (h:WpL P n m G false l.toArray (l.drop k) ⟨T1,O++(fillAllS ks Oi++List.replicate ((List.range k).filter fun i=>isPutS ks i).length deadO)⟩ Q):WpA P n m G (.region id l.toArray true) ⟨T0,O++Oi⟩ Q:=fun a w hr=>by
 subst hT1
 simp only [mixB,Bool.and_eq_true,decide_eq_true_eq,Bool.or_eq_true] at hB
 obtain ⟨⟨⟨hks,hback⟩,hsc⟩,hseq⟩:=hB
 have hkl:k≤l.length:=by simpa using hks
 have htl:(l.take k).length=k:=by simp;omega
 obtain ⟨r,s,hr1,hr2,hr3,hr4⟩:=hJ.pre
 have hlen:out.length=k:=by rw [hr1];simp [hr2];omega
 have hklen:ks.length=k:=by rw [hr3];simp [hr4];omega
 have H:Heads l.toArray T0 out k:=⟨hlen,nodupB_spec hnd,fun p hp=>by have:=List.all_eq_true.1 hfr p hp;simpa using this,fun i hi o ho e he hb=>by
  have h1:=List.all_eq_true.1 hback i (List.mem_range.2 hi)
  rw [ho] at h1
  have h2:=List.all_eq_true.1 h1 e (by simpa using he)
  simp only [Bool.or_eq_true,Bool.not_eq_true',decide_eq_true_eq] at h2
  rcases h2 with h2|h2
  ·rw [hb] at h2;cases h2
  ·exact h2⟩
 have hJ':∀{j:Nat} {o:Oper},j<k→l.toArray[j]?=some o→∃d V f,out[j]?=some (d,V)∧ks[j]?=some f∧
  ∀Tv Ov,Oi.length≤Ov.length→(∀ p ob,f.got p=some ob→Ov[p]?=(fillAllS (ks.take j) Oi)[p]?)→(∀ i f p ob,waits o i=true→(ks.take j)[i]?=some f→f.got p=some ob→memB p sh=false→Ov[p]?=some ob)→(∀ q,memB q keep=true→Ov[q]?=Oi[q]?)→WpL P n m G false l.toArray [o] ⟨deps (out.take j) o++(T0++Tv),O++Ov⟩ (Only ⟨(d,V)::(deps (out.take j) o++(T0++Tv)),O++f.run Ov⟩):=by
  intro j o hj ho
  have ho':(l.take k)[j]?=some o:=by rw [List.getElem?_take,if_pos hj];simpa using ho
  have:=hJ.at rfl ho'
  simpa using this
 have inv0:HeadInv .any l.toArray k (Array.replicate l.toArray.size false):=
  ⟨by simp,fun j oj _ hl=>(by rw [getD_replicate_false] at hl;cases hl),fun t _ ht=>getD_in (by simpa using ht) (getD_replicate_false _ _)⟩
 have room0:RoomS ks Oi k (Array.replicate l.toArray.size false) Oi:=by
  refine ⟨?_,fun q _=>.inr ⟨fun j g oc _ hl=>(by rw [getD_replicate_false] at hl;cases hl),rfl⟩,fun q h1 h2=>by omega⟩
  have:((List.range k).filter fun i=>(Array.replicate l.toArray.size false).getD i false&&isPutS ks i)=[]:=by
   rw [List.filter_eq_nil_iff];intro i _;rw [getD_replicate_false];simp
  rw [this];simp
 refine wp_region_any hm ?_
 have fin:=any_order (P:=P) (GP:=GoodS n m G T0 out O Oi k ks) (g:=l.toArray.size-k) (Q:=fun e a' w'=>∃σ',Q e σ'∧Rel n m G σ' a' w') H hks (fun hk=>hsc.resolve_left (by omega)) (fun inv _ hi hik _ _ hg _ hK=>head_stepS H hok hkp hJ' inv hi hik hg hK) (fun listed a w inv hall hg=>by
  obtain ⟨T,Ov,hrT,hroom,h1,h2⟩:=hg
  have hOv:Ov=fillAllS ks Oi++List.replicate ((List.range k).filter fun i=>isPutS ks i).length deadO:=by
   have hcnt:((List.range k).filter fun i=>listed.getD i false&&isPutS ks i)=(List.range k).filter fun i=>isPutS ks i:=by
    refine List.filter_congr fun i hi=>?_
    rw [hall i (List.mem_range.1 hi)];rfl
   have hlen:=hroom.len
   rw [hcnt] at hlen
   have hfl:=fillAllS_len ks Oi
   apply List.ext_getElem?
   intro q
   rcases Nat.lt_or_ge q Oi.length with hq|hq
   ·rw [List.getElem?_append_left (by omega)]
    rcases hroom.cur q hq with ⟨j,g,oc,hjk,hl,hg,hs,hlast,hv⟩|⟨hno,hv⟩<;>rcases fillAllS_cases ks Oi q hq with ⟨j2,g2,oc2,hg2,hs2,hlast2,hv2⟩|⟨hno2,hv2⟩
    ·have hj2k:j2<k:=by have:=(List.getElem?_eq_some_iff.1 hg2).1;omega
     have:j=j2:=by
      rcases Nat.lt_trichotomy j j2 with h3|h3|h3
      ·exact absurd hs2 (hlast j2 g2 oc2 h3 hj2k (hall j2 hj2k) hg2)
      ·exact h3
      ·exact absurd hs (hlast2 j g oc h3 hg)
     subst this
     rw [hg] at hg2;cases hg2
     rw [hs] at hs2;cases hs2
     rw [hv,hv2]
    ·exact absurd hs (hno2 j g oc hg)
    ·have hj2k:j2<k:=by have:=(List.getElem?_eq_some_iff.1 hg2).1;omega
     exact absurd hs2 (hno j2 g2 oc2 hj2k (hall j2 hj2k) hg2)
    ·rw [hv,hv2]
   ·rcases Nat.lt_or_ge q Ov.length with h3|h3
    ·rw [hroom.dead q hq h3,List.getElem?_append_right (by omega),List.getElem?_replicate,if_pos (by omega)]
    ·rw [List.getElem?_eq_none h3,List.getElem?_eq_none (by simp;omega)]
  subst hOv
  have hlist:listed=(Array.range l.toArray.size).map fun i=>decide (i<k):=by
   apply Array.ext
   ·simp [inv.size]
   ·intro i hi1 hi2
    have hi:i<l.toArray.size:=by rw [←inv.size];exact hi1
    by_cases hik:i<k
    ·have:=hall i hik
     simp [hi1] at this
     simp [this,hik]
    ·have:=inv.tail i (by omega) hi
     simp [hi1] at this
     simp [this,hik]
  have hdl:(l.drop k).length=l.toArray.size-k:=by simp
  rw [←hdl]
  refine wpAny_of_seq (l.drop k) k listed a w (fun j=>by simp [List.getElem?_drop]) (by rw [hdl,hlist];exact hseq) ?_
  refine h a w (hrT.relook fun t=>?_)
  rw [look_append]
  split
  ·rename_i hh
   obtain ⟨i,hi,hi2⟩:=List.getElem_of_mem (has_look hh)
   have:out[i]?=some (t,look out t):=by rw [List.getElem?_eq_getElem hi,hi2]
   exact (h1 i _ _ this (hall i (by omega))).symm
  ·rename_i hh
   exact (h2 t (by simpa using hh)).symm) k _ a w.drew inv0 (by
    have:((List.range k).filter fun i=>!(Array.replicate l.toArray.size false).getD i false)=List.range k:=by
     rw [List.filter_eq_self];intro i _;rw [getD_replicate_false];rfl
    rw [this];simp) ⟨T0,_,hr.drew,room0,⟨fun i d V _ hl=>(by rw [getD_replicate_false] at hl;cases hl),fun _ _=>rfl⟩⟩
 rw [show k+(l.toArray.size-k)=l.toArray.size by omega] at fin
 exact fin
def chainS (ops:Array Oper) (sh:List Nat) (c:Nat):Nat→List (Nat×Nat)→List Fis→Bool
 |_,_,[]=>true
 |j,seen,f::ks=>(f.sets.all fun x=>Nat.blt x.1 c&&seen.all fun s=>!Nat.beq s.1 x.1||(memB x.1 sh&&reach ops 24 j s.2))&&chainS ops sh c (j+1) (f.sets.map (fun x=>(x.1,j))++seen) ks
theorem chainS_lt {sh:List Nat} {c:Nat}:∀{ks:List Fis} {j:Nat} {seen:List (Nat×Nat)},chainS ops sh c j seen ks=true→∀i f p ob,ks[i]?=some f→f.got p=some ob→p<c∧∀s∈seen,s.1=p→memB p sh=true∧reach ops 24 (j+i) s.2=true
 |[],_,_,_,i,f,p,ob,h,_=>by simp at h
 |g::ks,j,seen,hB,i,f,p,ob,h,hs=>by
  unfold chainS at hB
  rw [Bool.and_eq_true] at hB
  cases i with
  |zero=>
   simp at h;subst h
   obtain ⟨x,hx,e⟩:=lkF_mem hs
   have hx2:=List.all_eq_true.1 hB.1 x hx
   rw [Bool.and_eq_true] at hx2
   subst e
   refine ⟨Nat.le_of_ble_eq_true hx2.1,fun s hm e=>?_⟩
   have:=List.all_eq_true.1 hx2.2 s hm
   simp only [Bool.or_eq_true,Bool.not_eq_true',Bool.and_eq_true] at this
   rcases this with h|⟨h1,h2⟩
   ·rw [e] at h;simp at h
   ·refine ⟨h1,?_⟩
    rw [Nat.add_zero];exact h2
  |succ i=>
   have e:j+(i+1)=j+1+i:=by omega
   rw [e]
   have:=chainS_lt hB.2 i f p ob (by simpa using h) hs
   exact ⟨this.1,fun s hm e=>this.2 s (List.mem_append_right _ hm) e⟩
theorem chainS_pair {sh:List Nat} {c:Nat}:∀{ks:List Fis} {j:Nat} {seen:List (Nat×Nat)},chainS ops sh c j seen ks=true→∀i i2 f g p ob oc,i<i2→ks[i]?=some f→ks[i2]?=some g→f.got p=some ob→g.got p=some oc→memB p sh=true∧reach ops 24 (j+i2) (j+i)=true
 |[],_,_,_,i,i2,f,g,p,ob,oc,_,h,_,_,_=>by simp at h
 |x::ks,j,seen,hB,i,i2,f,g,p,ob,oc,hlt,h,h2,hs,hs2=>by
  unfold chainS at hB
  rw [Bool.and_eq_true] at hB
  cases i2 with
  |zero=>omega
  |succ i2=>
   have e2:j+(i2+1)=j+1+i2:=by omega
   cases i with
   |zero=>
    simp at h;subst h
    obtain ⟨y,hy,e⟩:=lkF_mem hs
    have:=(chainS_lt hB.2 i2 g p oc (by simpa using h2) hs2).2 (p,j) (List.mem_append_left _ (by rw [←e];exact List.mem_map_of_mem (f:=fun x:Nat×AObj=>(x.1,j)) hy)) rfl
    rw [e2];exact this
   |succ i=>
    have e:j+(i+1)=j+1+i:=by omega
    rw [e,e2]
    exact chainS_pair hB.2 i i2 f g p ob oc (by omega) (by simpa using h) (by simpa using h2) hs hs2
theorem roomSOk_of {ks:List Fis} {c k:Nat} (h:chainS ops sh c 0 [] ks=true):RoomSOk ops sh ks c k:=
 ⟨fun i f p ob _ hk hs=>(chainS_lt h i f p ob hk hs).1,fun i j f g p ob oc hij _ hi hj hf hg=>by
  have:=chainS_pair h i j f g p ob oc hij hi hj hf hg
  rw [Nat.zero_add,Nat.zero_add] at this;exact this⟩
theorem HeadS.consF {fs fs2 out:List (Nat×AV)} {gs gs2:List Fis} {o:Oper} {l:List Oper} {d:Nat} {V:AV} {F:List (Nat×AV)} {ks:List Fis} {cur:List AObj} (k:Fis) (hd:o.dst=some d) (hF:depsF fs o.after.toList=some F) (hcur:fillAllS gs Oi=cur)
 (h:∀Tv Ov,Oi.length≤Ov.length→(∀ p ob,k.got p=some ob→Ov[p]?=cur[p]?)→(∀ j f p ob,waits o j=true→gs[j]?=some f→f.got p=some ob→memB p sh=false→Ov[p]?=some ob)→(∀ q,memB q keep=true→Ov[q]?=Oi[q]?)→WpL P n m G false ops [o] ⟨F++(T0++Tv),O++Ov⟩ (Only ⟨(d,V)::(F++(T0++Tv)),O++k.run Ov⟩)) (hs:catF fs [(d,V)]=some fs2) (hg:catF gs [k]=some gs2) (r:HeadS P n m G ops T0 O Oi keep sh fs2 gs2 l out ks):HeadS P n m G ops T0 O Oi keep sh fs gs (o::l) out ks:=by
 have:=catF_eq hs;subst this;have:=catF_eq hg;subst this;subst hcur
 exact .cons k (depsF_eq hF) h r
theorem WpA.regionSF {l l1 l2:List Oper} {id:Nat} {out T1:List (Nat×AV)} {ks:List Fis} {Of Or O1:List AObj} {Q:Exit→St→Prop} (k c:Nat) (keep sh:List Nat) (hO0:Of=O++Or) (hm:P.follows .mixedOrders=true) (hB:mixB l.toArray k=true)
 (hl:takeF k l=some l1) (hJ:HeadS P n m G l.toArray T0 O (Or++List.replicate c roomO) keep sh [] [] l1 out ks) (hok:chainS l.toArray sh (Or.length+c) 0 [] ks=true) (hkp:keepB (Or.length+c) (spotsS ks) keep=true) (hnd:nodupB (out.map (·.1))=true) (hfr:(out.all fun p=>!has T0 p.1)=true)
 (hT1:catF out T0=some T1) (h2:l.drop k=l2) (hO:O++(fillAllS ks (Or++List.replicate c roomO)++List.replicate ((List.range k).filter fun i=>isPutS ks i).length deadO)=O1) (h:WpL P n m G false l.toArray l2 ⟨T1,O1⟩ Q):WpA P n m G (.region id l.toArray true) ⟨T0,Of⟩ Q:=by
 have:=takeF_eq hl;subst this;subst h2;subst hO;subst hO0
 have hc:(Or++List.replicate c roomO).length=Or.length+c:=by simp
 have hw:=WpA.regionS (Q:=Q) (id:=id) k hm hB hJ (by rw [hc];exact roomSOk_of hok) (fun q hq=>by rw [hc];exact keepB_ofS hkp hq) hnd hfr (catF_eq hT1) h
 have hr:=Weak.rooms (m:=m) (T:=T0) c (O++Or)
 rw [List.append_assoc] at hr
 exact WpA.weak hr hw
theorem newO_after {n:Nat} (mb:AObj):∀(k:Nat) (R:List AObj),n<k→newO [n] [mb] k R=R
 |_,[],_=>rfl
 |k,ob::R,hk=>by
  rw [newO,newO_after mb (k+1) R (by omega)]
  have:findN [n] k 0=none:=by
   rw [findN]
   have:Nat.beq n k=false:=by
    cases h:Nat.beq n k with
    |false=>rfl
    |true=>have:=Nat.eq_of_beq_eq_true h;omega
   rw [this];rfl
  unfold newOb;rw [this]
theorem newO_mid {n:Nat} (mb ob:AObj) (R:List AObj):∀(k:Nat) (A:List AObj),k+A.length=n→newO [n] [mb] k (A++ob::R)=A++⟨mb.cells,ob.ep,mb.size,mb.ty⟩::R
 |k,[],h=>by
  simp only [List.length_nil,Nat.add_zero] at h
  subst h
  rw [List.nil_append,newO,newO_after mb (k+1) R (by omega),List.nil_append]
  have:findN [k] k 0=some 0:=by
   rw [findN]
   have:Nat.beq k k=true:=by simp
   rw [this]
   try rfl
  unfold newOb;rw [this]
  try rfl
 |k,a::A,h=>by
  simp only [List.length_cons] at h
  rw [List.cons_append,newO,newO_mid mb ob R (k+1) A (by omega),List.cons_append]
  have:findN [n] k 0=none:=by
   rw [findN]
   have:Nat.beq n k=false:=by
    cases h:Nat.beq n k with
    |false=>rfl
    |true=>have:=Nat.eq_of_beq_eq_true h;omega
   rw [this];rfl
  unfold newOb;rw [this]
theorem WpL.callP1N {n:Nat} {T:List (Nat×AV)} {Q:Exit→St→Prop} {l:List Oper} {tt:TypeId} {pos:String} {after:Array Edge} {f:FuncId} {xs:List Operand} {ats:Array TypeId} {As:List AV} {A R:List AObj} {ob mb0 mb nb:AObj} {pv:List Value} {pa:List AV} {r r':AV} {d c:Nat} (hc:FnP P f As [mb0] pv pa [mb] [nb] r) (hp:Pin G pv pa) (hcA:cnt A.length 0=some c) (hh:HandM (A++ob::R) [c] [mb0] (xs.map (av T)) As) (hM:HandO (A++ob::R) [c] [mb0]) (hsz:mb.size=mb0.size) (hM':Out [mb]) (hN:Out [nb]) (hre:r.reF 1 (A++ob::R).length=some r') (hn:d<n)
 (h:WpL P n m G false ops l ⟨(d,r')::T,(A++⟨mb.cells,ob.ep,mb.size,mb.ty⟩::R)++[nb]⟩ Q):
 WpL P n m G false ops ({dst:=some d,op:=.call {callee:=.value (.func f),args:=xs.toArray,argTypes:=ats},type:=tt,pos:=pos,after:=after,guard:=none}::l) ⟨T,A++ob::R⟩ Q:=by
 have ec:=cnt_eq hcA;rw [Nat.add_zero] at ec;subst ec
 refine WpL.opX (β:=Unit) (C:=fun _=>True) (σX:=fun _=>⟨(d,r')::T,(A++⟨mb.cells,ob.ep,mb.size,mb.ty⟩::R)++[nb]⟩) rfl (fun a w hr=>?_) (fun _ _=>h)
 have hcl:=callX_rel hc hp hh hM (by simp) (fun _=>rfl) (fun _ j x y hx hy=>by
  cases j with
  |zero=>simp at hx hy;subst hx hy;exact hsz
  |succ j=>simp at hx) (fun _=>hM') (fun _=>hN) (rX':=fun _=>r') (fun _=>hre) hr
 have e:newO [A.length] [mb] 0 (A++ob::R)++[nb]=(A++⟨mb.cells,ob.ep,mb.size,mb.ty⟩::R)++[nb]:=by
  rw [newO_mid mb ob R 0 A (by omega)]
 obtain ⟨⟨fn,hf,hbd,hnm⟩,_⟩:=hc
 have hex:(execOp a.eval {dst:=some d,op:=.call {callee:=.value (.func f),args:=xs.toArray,argTypes:=ats},type:=tt,pos:=pos,after:=after,guard:=none}).run P w=.ok (.enter f (xs.map a.eval).toArray) w:=by
  simp only [execOp,resolve,Act.eval,Deferred.ofValue,invoke,callFunc,Sem.run_bind,Sem.run_pure,Result.andThen_ok,program,Sem.run,hf,hnm,hbd,Bool.false_eq_true,if_false]
  simp
 unfold Oper.wp
 rw [hex]
 refine hcl.mono fun e' w' ⟨y,hy,v',he,S,ι,F,hr',hv⟩=>?_
 subst he
 simp only [e] at hr' hv
 exact ⟨y,hy,S,ι,F,hr'.put hn hv⟩
theorem split3 {Ov:List AObj} {e:AObj} (h:Ov[2]?=some e):∃a b R,Ov=a::b::e::R:=by
 match Ov,h with
 |a::b::e'::R,h=>simp at h;exact ⟨a,b,R,by rw [h]⟩
 |[],h=>simp at h
 |[_],h=>simp at h
 |[_,_],h=>simp at h
theorem split4 {Ov:List AObj} {e:AObj} (h:Ov[3]?=some e):∃a b c R,Ov=a::b::c::e::R:=by
 match Ov,h with
 |a::b::c::e'::R,h=>simp at h;exact ⟨a,b,c,R,by rw [h]⟩
 |[],h=>simp at h
 |[_],h=>simp at h
 |[_,_],h=>simp at h
 |[_,_,_],h=>simp at h
end
end Go.Abs


namespace Go.Proofs.YtndflfipaddfoaaGreat
open Go Go.Abs
attribute [local irreducible] WpA WpL Rnd Blk Abs.Seq Abs.Fin Abs.FinG FnC FnG Only
end Go.Proofs.YtndflfipaddfoaaGreat


namespace Go.Proofs.YtndflfipaddfoaaGreat
open Go Go.Abs
attribute [local irreducible] WpA WpL Rnd Blk Abs.Seq Abs.Fin Abs.FinG FnC FnG Only
instance l22Flag_s:Con 189 (∀ b:Bool,Fn 189 [B b] [] (I (bif b then 1 else 0))):=⟨fun b=>by
 cases b
 ·refine FnC.of_body tabOk Tryz.func189 Tryz.ntmps189 rfl (by decide +kernel) (by simp) fun G=>?_
  refine go (r:=?_);and_intros<;>intros<;>try exact True.intro
  all_goals rfl
 ·refine FnC.of_body tabOk Tryz.func189 Tryz.ntmps189 rfl (by decide +kernel) (by simp) fun G=>?_
  refine go (r:=?_);and_intros<;>intros<;>try exact True.intro
  all_goals rfl⟩
def nolL (v:Int):Int:=if v>0 then 2*v-2 else if v<0 then -2*v-1 else -1
instance NumOfLevel_s:Con 209 (∀ v:Int,-1000000≤v∧v≤1000000→Fn 209 [I v] [] (I (nolL v))):=⟨fun v hv=>by
 unfold nolL
 refine FnC.of_body tabOk Tryz.func209 Tryz.ntmps209 rfl (by decide +kernel) (by simp) fun G=>?_
 refine go (r:=?_);and_intros<;>intros<;>try exact True.intro
 all_goals (repeat' split)<;>omega⟩
theorem lg_lo (x:Nat) (h:0<x):2 ^ Nat.log2 x≤x:=Nat.log2_self_le (by omega)
theorem lg_hi (x:Nat):x<2 ^ (Nat.log2 x+1):=Nat.lt_log2_self
theorem lg_lt {x z:Nat} (hz:z<Nat.log2 x) (h:0<x):x/2 ^ (z+1)≠0:=by
 have h1:=lg_lo x h
 have h2:2 ^ (z+1)≤2 ^ Nat.log2 x:=Nat.pow_le_pow_right (by decide) hz
 have:=Nat.div_pos (Nat.le_trans h2 h1) (Nat.pow_pos (by decide))
 omega
theorem lg_end (x:Nat):x/2 ^ (Nat.log2 x+1)=0:=Nat.div_eq_of_lt (lg_hi x)
theorem lg_16 {x:Nat} (h0:0<x) (h:x≤65535):Nat.log2 x≤15:=by
 rcases Nat.lt_or_ge (Nat.log2 x) 16 with h1|h1
 ·omega
 ·have:=lg_lo x h0
  have:2 ^ 16≤2 ^ Nat.log2 x:=Nat.pow_le_pow_right (by decide) h1
  omega
instance l6Zeros_s:Con 206 (∀ n:Nat,n≤65534→Fn 206 [I n] [] (I (Nat.log2 (n+1)))):=⟨fun n hn=>by
 have h16:=lg_16 (x:=n+1) (by omega) (by omega)
 have hend:=lg_end (n+1)
 refine FnC.of_body tabOk Tryz.func206 Tryz.ntmps206 rfl (by decide +kernel) (by simp) fun G=>?_
 refine go (r:=?_);and_intros<;>intros<;>try exact True.intro
 refine WpA.loop (fun z:Nat=>⟨[(0,I n),(3,I z)],[]⟩) (fun z=>z≤Nat.log2 (n+1)) (fun z=>16-z) 0 (by omega) (go (r:=?_)) (fun z hz=>?_)
 ·trivial
 have hlt:=fun h=>lg_lt (x:=n+1) (z:=z) h (by omega)
 have hc:((n:Int)+1)/2 ^ ((z:Int)+1).toNat=(((n+1)/2 ^ (z+1):Nat):Int):=by
  rw [show ((z:Int)+1).toNat=z+1 by omega];push_cast;rfl
 rcases Nat.lt_or_ge z (Nat.log2 (n+1)) with hz2|hz2
 ·have hlt:=hlt hz2
  refine go (r:=?_);and_intros<;>intros<;>try exact True.intro
 ·have e:z=Nat.log2 (n+1):=by omega
  refine go (r:=?_);and_intros<;>intros<;>try exact True.intro
  rename_i hg;rw [hc,e,hend] at hg;exact absurd rfl hg⟩
def ueL (n:Int):List Int:=if 0≤n∧n≤65534 then List.replicate (Nat.log2 (n.toNat+1)) 0++bitsL (n+1) (Nat.log2 (n.toNat+1)+1) else []
theorem ueL_len (n:Int):(ueL n).length≤64:=by
 unfold ueL;split
 ·rename_i h
  have h1:=lg_16 (x:=n.toNat+1) (by omega) (by omega)
  have h2:=bitsL_len (n+1) ((Nat.log2 (n.toNat+1):Nat)+1)
  simp only [List.length_append,List.length_replicate];omega
 ·simp
instance UeBits_s:Con 188 (∀ n:Int,Fn 188 [I n] [XI (ueL n)] (.own 0 0 0 (ueL n).length)):=⟨fun n=>by
 refine FnC.of_body tabOk Tryz.func188 Tryz.ntmps188 rfl (by decide +kernel) (by simp) fun G=>?_
 by_cases h:0≤n∧n≤65534
 ·obtain ⟨N,rfl⟩:∃N:Nat,n=N:=⟨n.toNat,by omega⟩
  have h16:=lg_16 (x:=N+1) (by omega) (by omega)
  have hu:ueL N=List.replicate (Nat.log2 (N+1)) 0++bitsL ((N:Int)+1) ((Nat.log2 (N+1):Nat)+1):=by rw [ueL,if_pos h,Int.toNat_natCast]
  have hbl:=bitsL_len ((N:Int)+1) ((Nat.log2 (N+1):Nat)+1)
  generalize hz:Nat.log2 (N+1)=z at hu h16 hbl
  repeat (refine K.A ?_;refine WpA.seq ?_)
  refine K.A ?_
  refine WpA.regionF rfl ?_
  refine WpL.assign rfl (by decide) ?_
  refine WpL.nil ?_
  refine Abs.Seq.n ?_
  repeat (refine K.A ?_;refine WpA.seq ?_)
  refine K.A ?_
  refine WpA.regionF rfl ?_
  refine WpL.move rfl (by decide) ?_
  refine K.call ?_
  refine K.con (fun hcon=>?_)
  refine WpL.call0 (hcon _ _ _) snapA locA rfl rfl (by decide) ?_
  clear hcon
  refine WpL.not rfl (by decide) ?_
  refine WpL.nil ?_
  refine Abs.Seq.n ?_
  repeat (refine K.A ?_;refine WpA.seq ?_)
  refine K.A ?_
  refine WpA.condN rfl (fun hin=>absurd h hin) (fun hin=>?_)
  refine K.A ?_
  refine WpA.skip ?_
  refine Abs.Seq.n ?_
  repeat (refine K.A ?_;refine WpA.seq ?_)
  refine K.A ?_
  refine WpA.regionF rfl ?_
  refine WpL.move rfl (by decide) ?_
  refine K.call ?_
  refine K.con (fun hcon=>?_)
  refine WpL.call0 (hcon N (by omega)) snapA locA rfl rfl (by decide) ?_
  clear hcon
  rw [hz]
  refine WpL.assign rfl (by decide) ?_
  refine WpL.nil ?_
  refine Abs.Seq.n ?_
  repeat (refine K.A ?_;refine WpA.seq ?_)
  refine K.A ?_
  apply WpA.regionQF (O:=[]) (Or:=[]) (O1:=[⟨ints (List.replicate z 0),1,1,some 3⟩,⟨ints (bitsL ((N:Int)+1) ((z:Int)+1)),1,1,some 3⟩,deadO,deadO]) 7 2 [] rfl mixed (by decide +kernel)
  ·exact rfl
  ·apply HeadQ.consF .none rfl
   ·exact rfl
   ·exact in1
   ·exact rfl
   ·exact rfl
   apply HeadQ.consF (V:=.own 0 1 0 z) (.put 0 (⟨ints (List.replicate z 0),1,1,some 3⟩)) rfl
   ·exact rfl
   ·intro Tv Ov hc hp hd hk
    refine WpL.makeInts tabOk rfl rfl rfl (by omega) (by omega) (id:=([]++Ov).length) (by rw [nid_len,Nat.zero_add]) (by decide) ?_;rw [Int.toNat_natCast]
    apply WpL.putNil (p:=0)
    ·exact hp 0 _ rfl
    ·exact Nat.zero_le _
    ·exact rfl
    ·first|exact still_ints _|exact still_rows (fun _=>rfl) _|rfl
   ·exact rfl
   ·exact rfl
   apply HeadQ.consF .none rfl
   ·exact rfl
   ·exact in1
   ·exact rfl
   ·exact rfl
   apply HeadQ.consF .none rfl
   ·exact rfl
   ·exact in1
   ·exact rfl
   ·exact rfl
   apply HeadQ.consF .none rfl
   ·exact rfl
   ·exact in1
   ·exact rfl
   ·exact rfl
   apply HeadQ.consF .none rfl
   ·exact rfl
   ·exact in1
   ·exact rfl
   ·exact rfl
   apply HeadQ.consF (V:=.own 1 1 0 (bitsL ((N:Int)+1) ((z:Int)+1)).length) (.put 1 (⟨ints (bitsL ((N:Int)+1) ((z:Int)+1)),1,1,some 3⟩)) rfl
   ·exact rfl
   ·intro Tv Ov hc hp hd hk
    refine K.call ?_
    refine K.con (fun hcon=>?_)
    refine WpL.callF (hcon ((N:Int)+1) ((z:Int)+1) (by omega)) snapA locA outA (cnt_some _ 0) rfl rfl (by decide) ?_
    rw [Nat.zero_add]
    apply WpL.putNil (p:=1)
    ·exact hp 1 _ rfl
    ·exact Nat.zero_le _
    ·exact rfl
    ·first|exact still_ints _|exact still_rows (fun _=>rfl) _|rfl
   ·exact rfl
   ·exact rfl
   exact HeadQ.nil
  ·exact rfl
  ·exact rfl
  ·exact rfl
  ·exact rfl
  ·exact rfl
  ·exact rfl
  ·exact rfl
  have hul:z+(bitsL ((N:Int)+1) ((z:Int)+1)).length=(ueL N).length:=by rw [hu,List.length_append,List.length_replicate]
  refine go (r:=?_);and_intros<;>intros<;>try exact True.intro
  all_goals first|(rw [hu];done)
 ·have e:ueL n=[]:=by rw [ueL,if_neg h]
  refine go (r:=?_);and_intros<;>intros<;>try exact True.intro
  all_goals first|(rw [e];done)|(rw [e];rfl)|(exact absurd (by assumption) h)⟩
theorem u8_in {x:Int} (h:0≤x∧x≤255):IntKind.u8.wrap x=x:=by
 have key:IntKind.u8.wrap x=x%256:=rfl
 rw [key];omega
end Go.Proofs.YtndflfipaddfoaaGreat


namespace Go.Proofs.YtndflfipaddfoaaGreat
open Go Go.Abs
attribute [local irreducible] WpA WpL Rnd Blk Abs.Seq Abs.Fin Abs.FinG FnC FnG Only
theorem fm_snoc {α β:Type} [Inhabited α] (f:α→List β) (l:List α) (k:Nat) (h:k<l.length):(l.take (k+1)).flatMap f=(l.take k).flatMap f++f (l.getD k default):=by
 rw [take_snoc l k h,List.flatMap_append];simp
theorem fm_bd {α β:Type} (f:α→List β) (c:Nat) (h:∀a,(f a).length≤c):∀l:List α,(l.flatMap f).length≤c*l.length
 |[]=>by simp
 |a::l=>by
  have:=fm_bd f c h l
  have h1:=h a
  rw [List.flatMap_cons,List.length_append,List.length_cons,Nat.mul_add];omega
theorem pk_in (l:List Int):∀k,k≤l.length→∀p∈(pk l k).1,(0≤p.1∧p.1≤k)∧p.2≠0∧p.2∈l
 |0,_,p,hp=>by simp [pk] at hp
 |k+1,hk,p,hp=>by
  have ih:=pk_in l k (by omega)
  have hb:=pk_bd l k
  rw [pk] at hp
  split at hp
  ·obtain ⟨a,b,c⟩:=ih p hp;exact ⟨by omega,b,c⟩
  ·rename_i hz
   rcases List.mem_append.1 hp with hp|hp
   ·obtain ⟨a,b,c⟩:=ih p hp;exact ⟨by omega,b,c⟩
   ·simp only [List.mem_singleton] at hp
    subst hp
    refine ⟨by omega,hz,?_⟩
    have e:l.getD k 0=l[k]'(by omega):=by simp [show k<l.length by omega]
    simp only [e];exact List.getElem_mem _
theorem in_mem {l:List Int} {lo hi:Int} (h:In l lo hi) {x:Int} (hx:x∈l):lo≤x∧x≤hi:=by
 unfold In at h;exact h x hx
theorem prs_in {l:List Int} (h:LvOk l) {k:Nat} (hk:k<(prsL l).length):(0≤((prsL l).getD k default).1∧((prsL l).getD k default).1≤64)∧((prsL l).getD k default).2≠0∧-16383≤((prsL l).getD k default).2∧((prsL l).getD k default).2≤16383:=by
 have hm:(prsL l).getD k default∈(prsL l):=by simp [hk]
 generalize (prsL l).getD k default=p at hm
 rw [prsL,if_pos h] at hm
 obtain ⟨h1,h2,h3⟩:=pk_in l l.length (Nat.le_refl _) p hm
 have h4:=in_mem h.1 h3
 have h5:l.length≤64:=by rcases h.2 with h|h<;>omega
 refine ⟨by omega,h2,h4⟩
theorem prs_len (l:List Int):(prsL l).length≤64:=by
 unfold prsL;split
 ·rename_i h
  have:=(pk_bd l l.length).1
  rcases h.2 with h|h<;>omega
 ·simp
def prB (p:Int×Int):List Int:=ueL p.1++ueL (nolL p.2)
theorem prB_len (p:Int×Int):(prB p).length≤128:=by
 have h1:=ueL_len p.1
 have h2:=ueL_len (nolL p.2)
 unfold prB;rw [List.length_append];omega
def bkK (m:Int) (lv lens:List Int) (k:Nat):List Int:=(symL lens m++[1]++ueL ((prsL lv).length-1))++((prsL lv).take k).flatMap prB
def bkL (m:Int) (lv lens:List Int) (n:Int):List Int:=if BlkOk m lv lens n then (if (prsL lv).length=0 then symL lens m++[0] else bkK m lv lens (prsL lv).length) else []
theorem symL_len7 (l:List Int) (m:Int):(symL l m).length≤48:=by
 unfold symL;split
 ·exact bitsL_len _ _
 ·simp
theorem bkK_len (m:Int) (lv lens:List Int) (k:Nat):(bkK m lv lens k).length≤113+128*k:=by
 have h1:=symL_len7 lens m
 have h2:=ueL_len ((prsL lv).length-1)
 have h3:=fm_bd prB 128 prB_len ((prsL lv).take k)
 have h4:((prsL lv).take k).length≤k:=by simp;omega
 unfold bkK;simp only [List.length_append,List.length_cons,List.length_nil];omega
theorem bkK_zero (m:Int) (lv lens:List Int):bkK m lv lens 0=symL lens m++[1]++ueL ((prsL lv).length-1):=by simp [bkK]
theorem bkK_succ (m:Int) (lv lens:List Int) (k:Nat) (h:k<(prsL lv).length):bkK m lv lens (k+1)=bkK m lv lens k++ueL ((prsL lv).getD k default).1++ueL (nolL ((prsL lv).getD k default).2):=by
 unfold bkK;rw [fm_snoc prB _ k h,←List.append_assoc,prB,←List.append_assoc]
theorem bkL_len (m:Int) (lv lens:List Int) (n:Int):(bkL m lv lens n).length≤8400:=by
 have h1:=symL_len7 lens m
 have h2:=bkK_len m lv lens (prsL lv).length
 have h3:=prs_len lv
 unfold bkL;split
 ·split
  ·simp;omega
  ·omega
 ·simp
instance BlockBits_s:Con 124 (∀ (m:Int) (lv lens:List Int) (n:Int),lv.length≤1099511627776∧lens.length≤1099511627776→Fn 124 [.agg [I m,IL lv],IL lens,I n] [XI (bkL m lv lens n)] (.own 0 0 0 (bkL m lv lens n).length)):=⟨fun m lv lens n hl=>by
 have hs:=symL_len7 lens m
 have hu:=ueL_len ((prsL lv).length-1)
 have hp:=prs_len lv
 refine FnC.of_body tabOk Tryz.func124 Tryz.ntmps124 rfl (by decide +kernel) (by simp) fun G=>?_
 by_cases h:BlkOk m lv lens n
 ·by_cases h0:(prsL lv).length=0
  ·have e:bkL m lv lens n=symL lens m++[0]:=by rw [bkL,if_pos h,if_pos h0]
   refine go (r:=?_);and_intros<;>intros<;>try exact True.intro
   all_goals first|(exact absurd h (by assumption))|(rw [e];done)|(rw [e];simp;done)
  ·have e:bkL m lv lens n=bkK m lv lens (prsL lv).length:=by rw [bkL,if_pos h,if_neg h0]
   have e0:=bkK_zero m lv lens
   have el0:(symL lens m).length+1+(ueL ((prsL lv).length-1)).length=(bkK m lv lens 0).length:=by rw [e0];simp;omega
   refine go (r:=?_);and_intros<;>intros<;>try exact True.intro
   all_goals first|(exact absurd h (by assumption))|(exact absurd (by omega) h0)|skip
   refine WpA.loop (fun k:Nat=>⟨[(7,.own 2 0 0 (bkK m lv lens k).length),(8,.own 3 0 0 (prsL lv).length),(9,I k)],[⟨[I m,IL lv],0,0,none⟩,XI [],XI (bkK m lv lens k),XP (prsL lv)]⟩) (fun k=>k≤(prsL lv).length) (fun k=>(prsL lv).length-k) 0 (by omega) (go (r:=?_)) (fun k hk=>?_)
   ·exact ⟨e0.symm,trivial⟩
   have hb:=bkK_len m lv lens k
   have hsc:=fun h=>bkK_succ m lv lens k h
   refine goR (r:=?_);and_intros<;>intros<;>try exact True.intro
   ·have hk2:k<(prsL lv).length:=by omega
    have hpi:=prs_in h.2.2.2 hk2
    have hsc:=hsc hk2
    have hsl:(bkK m lv lens (k+1)).length=(bkK m lv lens k).length+(ueL ((prsL lv).getD k default).1).length+(ueL (nolL ((prsL lv).getD k default).2)).length:=by rw [hsc];simp only [List.length_append]
    have ha:=ueL_len ((prsL lv).getD k default).1
    have hbb:=ueL_len (nolL ((prsL lv).getD k default).2)
    apply WpA.regionQF (O:=[⟨[I m,IL lv],0,0,none⟩,XI []]) (Or:=[XI (bkK m lv lens k),XP (prsL lv)]) (O1:=[⟨[I m,IL lv],0,0,none⟩,XI [],XD (bkK m lv lens k++ueL ((prsL lv).getD k default).1),XP (prsL lv),XD (ueL ((prsL lv).getD k default).1),XD (ueL (nolL ((prsL lv).getD k default).2)),deadO,deadO]) 15 2 [1] rfl mixed (by decide +kernel)
    ·exact rfl
    ·apply HeadQ.consF .none rfl
     ·exact rfl
     ·exact in1
     ·exact rfl
     ·exact rfl
     apply HeadQ.consF .none rfl
     ·exact rfl
     ·exact in1
     ·exact rfl
     ·exact rfl
     apply HeadQ.consF .none rfl
     ·exact rfl
     ·exact in1
     ·exact rfl
     ·exact rfl
     apply HeadQ.consF .none rfl
     ·exact rfl
     ·intro Tv Ov hc hp hd hk
      obtain ⟨A,Ov',rfl⟩:=split2 (hk 1 rfl)
      exact in1
     ·exact rfl
     ·exact rfl
     apply HeadQ.consF .none rfl
     ·exact rfl
     ·intro Tv Ov hc hp hd hk
      obtain ⟨A,Ov',rfl⟩:=split2 (hk 1 rfl)
      exact in1
     ·exact rfl
     ·exact rfl
     apply HeadQ.consF .none rfl
     ·exact rfl
     ·intro Tv Ov hc hp hd hk
      obtain ⟨A,Ov',rfl⟩:=split2 (hk 1 rfl)
      exact in1
     ·exact rfl
     ·exact rfl
     apply HeadQ.consF (V:=.own 4 1 0 (ueL ((prsL lv).getD k default).1).length) (.put 2 (XD (ueL ((prsL lv).getD k default).1))) rfl
     ·exact rfl
     ·intro Tv Ov hc hp hd hk
      refine K.call ?_
      refine K.con (fun hcon=>?_)
      refine WpL.callF (hcon _) snapA locA outA (cnt_some _ 0) rfl rfl (by decide) ?_
      rw [Nat.zero_add]
      apply WpL.putNil (p:=2)
      ·exact hp 2 _ rfl
      ·exact Nat.zero_le _
      ·exact rfl
      ·first|exact still_ints _|exact still_rows (fun _=>rfl) _|rfl
     ·exact rfl
     ·exact rfl
     apply HeadQ.consF (V:=.own 2 1 0 ((bkK m lv lens k).length+(ueL ((prsL lv).getD k default).1).length)) (.step 0 (XD (bkK m lv lens k++ueL ((prsL lv).getD k default).1))) rfl
     ·exact rfl
     ·intro Tv Ov hc hp hd hk
      refine WpL.appInts tabOk rfl rfl (fill_at (O:=[⟨[I m,IL lv],0,0,none⟩,XI []]) (hp 0 _ rfl)) (Nat.zero_le _) rfl (srcB_own (fill_at (O:=[⟨[I m,IL lv],0,0,none⟩,XI []]) (hd 6 _ 2 _ (by decide) rfl rfl)) rfl) (by first|rfl|omega) (by first|rfl|omega) (by omega) (by decide) ?_
      exact WpL.nil (Only.mk (congrArg (St.mk _) (step_eq (O:=[⟨[I m,IL lv],0,0,none⟩,XI []]) Ov (p:=0) _)))
     ·exact rfl
     ·exact rfl
     apply HeadQ.consF .none rfl
     ·exact rfl
     ·exact in1
     ·exact rfl
     ·exact rfl
     apply HeadQ.consF .none rfl
     ·exact rfl
     ·exact in1
     ·exact rfl
     ·exact rfl
     apply HeadQ.consF .none rfl
     ·exact rfl
     ·intro Tv Ov hc hp hd hk
      obtain ⟨A,Ov',rfl⟩:=split2 (hk 1 rfl)
      exact in1
     ·exact rfl
     ·exact rfl
     apply HeadQ.consF .none rfl
     ·exact rfl
     ·intro Tv Ov hc hp hd hk
      obtain ⟨A,Ov',rfl⟩:=split2 (hk 1 rfl)
      exact in1
     ·exact rfl
     ·exact rfl
     apply HeadQ.consF .none rfl
     ·exact rfl
     ·intro Tv Ov hc hp hd hk
      obtain ⟨A,Ov',rfl⟩:=split2 (hk 1 rfl)
      exact in1
     ·exact rfl
     ·exact rfl
     apply HeadQ.consF .none rfl
     ·exact rfl
     ·exact in0
     ·exact rfl
     ·exact rfl
     apply HeadQ.consF (V:=.own 5 1 0 (ueL (nolL ((prsL lv).getD k default).2)).length) (.put 3 (XD (ueL (nolL ((prsL lv).getD k default).2)))) rfl
     ·exact rfl
     ·intro Tv Ov hc hp hd hk
      refine K.call ?_
      refine K.con (fun hcon=>?_)
      refine WpL.callF (hcon _) snapA locA outA (cnt_some _ 0) rfl rfl (by decide) ?_
      rw [Nat.zero_add]
      apply WpL.putNil (p:=3)
      ·exact hp 3 _ rfl
      ·exact Nat.zero_le _
      ·exact rfl
      ·first|exact still_ints _|exact still_rows (fun _=>rfl) _|rfl
     ·exact rfl
     ·exact rfl
     exact HeadQ.nil
    ·exact rfl
    ·exact rfl
    ·exact rfl
    ·exact rfl
    ·exact rfl
    ·exact rfl
    ·exact rfl
    refine go (r:=?_);and_intros<;>intros<;>try exact True.intro
    all_goals first|(rw [hsc];done)
   all_goals have ek:k=(prsL lv).length:=by omega
   all_goals subst ek
   all_goals rw [e]
 ·have e:bkL m lv lens n=[]:=by rw [bkL,if_neg h]
  refine go (r:=?_);and_intros<;>intros<;>try exact True.intro
  all_goals first|(exact absurd (by assumption) h)|(rw [e];done)|(rw [e];rfl)⟩
end Go.Proofs.YtndflfipaddfoaaGreat


namespace Go.Abs
open Go
section
variable {P:Program} {n m:Nat} {G:Ctx} {md:Bool} {σ:St} {Q:Exit→St→Prop} {T:List (Nat×AV)} {O:List AObj}
theorem WpL.guardV {v0:Value} {ops:Array Oper} {o:Oper} {l:List Oper} {j t d:Nat} {want:Bool} (hg:o.guard=some (j,want)) (hj:((ops[j]?).bind (·.dst))=some t) (htn:t<n)
 (ht:look σ.T t=.sc v0) (hne:v0≠.bool want) (hd:o.dst=some d) (h:WpL P n m G md ops l ⟨(d,.any)::σ.T,σ.O⟩ Q):WpL P n m G md ops (o::l) σ Q:=fun a w hr=>by
 have hv:a.tmps.getD t undef=v0:=hr.eval_sc (x:=.tmp t) ht
 have hsz:a.tmps.size=n:=by obtain ⟨_,_,_,h⟩:=hr;exact h.size
 have hv':a.tmps[t]?=some v0:=by
  rw [Array.getD_eq_getD_getElem?] at hv
  rw [Array.getElem?_eq_getElem (by omega)] at hv ⊢
  simpa using hv
 have hw:Region.wanted o (yielded ops a.tmps)=false:=by
  simp only [Region.wanted,hg,yielded,hj,Option.bind_some,hv']
  cases v0<;>first|rfl|skip
  rename_i b
  cases b<;>cases want<;>first|rfl|exact absurd rfl hne
 have hrel:Rel n m G ⟨(d,.any)::σ.T,σ.O⟩ (a.put o.dst undef) w:=?_
 ·cases md with
  |false=>
   simp only
   unfold wpList
   rw [if_neg (by simp [hw])]
   exact h _ _ hrel
  |true=>
   simp only
   unfold wpStill
   rw [if_neg (by simp [hw])]
   exact h _ _ hrel
 obtain ⟨S,ι,F,hr⟩:=hr
 refine ⟨S,ι,F,by simpa [Act.put,hd] using hr.defers,by simp [Act.put,hd,hr.size],fun t'=>?_,hr.objs,hr.foot,hr.base,hr.stable,hr.keeps,hr.spots,hr.mle⟩
 by_cases he:d=t'
 ·subst he;rw [look_cons_same];exact .any .nil
 ·rw [look_cons_other _ _ _ _ he]
  have:=hr.tmps t'
  simpa [Act.put,hd,Array.getD_eq_getD_getElem?,Array.getElem?_setIfInBounds,he] using this
theorem WpL.openAny {ops:Array Oper} {l:List Oper} {t:Nat} (hx:look T t=.any) (h:∀v0,WpL P n m G md ops l ⟨(t,.sc v0)::T,O⟩ Q):WpL P n m G md ops l ⟨T,O⟩ Q:=fun a w hr=>by
 refine h (a.tmps.getD t undef) a w ?_
 obtain ⟨S,ι,F,hr⟩:=hr
 refine ⟨S,ι,F,hr.defers,hr.size,fun u=>?_,hr.objs,hr.foot,hr.base,hr.stable,hr.keeps,hr.spots,hr.mle⟩
 show VRel S w ι O (look ((t,.sc _)::T) u) _ []
 by_cases he:t=u
 ·subst he;rw [look_cons_same];exact .sc .nil
 ·rw [look_cons_other _ _ _ _ he];exact hr.tmps u
end
end Go.Abs
