/- Proved in this text: lemmas and contracts of functions that the claim uses (parts: AbsYt, AbsId, EncO, AbsFz, Bits, BitsM, BitsH). No condition. -/
import Derived.Test.YtainhhfnnclfiaaGreatEsM12
import Derived.Test.YtainhhfnnclfiaaGreatEsM15
import Derived.Test.YtainhhfnnclfiaaGreatEsM13
import Derived.Test.YtainhhfnnclfiaaGreatEsM9
set_option linter.unusedVariables false
set_option linter.unusedSimpArgs false
set_option maxRecDepth 100000
set_option maxHeartbeats 16000000


namespace Go.Abs
open Go
def waitsT (ops:Array Oper) (o:Oper) (j:Nat):Bool:=waits o j||(List.range ops.size).any fun i=>waits o i&&(match ops[i]? with|some o2=>waits o2 j|none=>false)
inductive HeadT (P:Program) (n m:Nat) (G:Ctx) (ops:Array Oper) (T0:List (Nat×AV)) (O Oi:List AObj) (keep sh:List Nat):List (Nat×AV)→List Fil→List Oper→List (Nat×AV)→List Fil→Prop
 |nil {fs gs}:HeadT P n m G ops T0 O Oi keep sh fs gs [] fs gs
 |cons {fs out:List (Nat×AV)} {gs:List Fil} {o:Oper} {l:List Oper} {d:Nat} {V:AV} {F:List (Nat×AV)} {ks:List Fil} (k:Fil) (hF:deps fs o=F)
   (h:∀Tv Ov,Oi.length≤Ov.length→(∀ p ob,k.spot=some (p,ob)→Ov[p]?=(fillAll gs Oi)[p]?)→(∀ j f p ob,waitsT ops o j=true→gs[j]?=some f→f.spot=some (p,ob)→memB p sh=false→Ov[p]?=some ob)→(∀ q,memB q keep=true→Ov[q]?=Oi[q]?)→
    WpL P n m G false ops [o] ⟨F++(T0++Tv),O++Ov⟩ (Only ⟨(d,V)::(F++(T0++Tv)),O++k.run Ov⟩)) (r:HeadT P n m G ops T0 O Oi keep sh (fs++[(d,V)]) (gs++[k]) l out ks):HeadT P n m G ops T0 O Oi keep sh fs gs (o::l) out ks
section
variable {P:Program} {n m:Nat} {G:Ctx} {ops:Array Oper} {T0:List (Nat×AV)} {O Oi:List AObj} {keep sh:List Nat}
theorem HeadT.pre {fs gs l out ks} (h:HeadT P n m G ops T0 O Oi keep sh fs gs l out ks):∃r s,out=fs++r∧r.length=l.length∧ks=gs++s∧s.length=l.length:=by
 induction h with
 |nil=>exact ⟨[],[],by simp,rfl,by simp,rfl⟩
 |@cons fs out gs o l d V F ks k _ _ _ ih=>obtain ⟨r,s,h1,h2,h3,h4⟩:=ih;exact ⟨(d,V)::r,k::s,by rw [h1];simp,by simp [h2],by rw [h3];simp,by simp [h4]⟩
theorem HeadT.at {fs gs l out ks} (h:HeadT P n m G ops T0 O Oi keep sh fs gs l out ks) (hg:gs.length=fs.length):∀{j:Nat} {o:Oper},l[j]?=some o→∃d V k,out[fs.length+j]?=some (d,V)∧ks[fs.length+j]?=some k∧
 ∀Tv Ov,Oi.length≤Ov.length→(∀ p ob,k.spot=some (p,ob)→Ov[p]?=(fillAll (ks.take (fs.length+j)) Oi)[p]?)→(∀ i f p ob,waitsT ops o i=true→(ks.take (fs.length+j))[i]?=some f→f.spot=some (p,ob)→memB p sh=false→Ov[p]?=some ob)→(∀ q,memB q keep=true→Ov[q]?=Oi[q]?)→
  WpL P n m G false ops [o] ⟨deps (out.take (fs.length+j)) o++(T0++Tv),O++Ov⟩ (Only ⟨(d,V)::(deps (out.take (fs.length+j)) o++(T0++Tv)),O++k.run Ov⟩):=by
 induction h with
 |nil=>intro j o h;simp at h
 |@cons fs out gs o l d V F ks k hF h r ih=>
  intro j o' hj
  obtain ⟨r',s',h1,h2,h3,h4⟩:=r.pre
  cases j with
  |zero=>
   simp only [List.getElem?_cons_zero,Option.some.injEq] at hj
   subst hj
   refine ⟨d,V,k,by rw [h1];simp,by rw [h3];simp [hg],?_⟩
   have:out.take (fs.length+0)=fs:=by rw [h1,Nat.add_zero,List.append_assoc,List.take_left'];rfl
   have e2:ks.take (fs.length+0)=gs:=by rw [h3,Nat.add_zero,List.append_assoc,List.take_left'];exact hg
   rw [this,hF,e2];exact h
  |succ j=>
   have:=ih (by simp [hg]) (j:=j) (o:=o') (by simpa using hj)
   rw [List.length_append,List.length_singleton,Nat.add_assoc,Nat.add_comm 1 j] at this
   simpa using this
theorem head_stepT {out:List (Nat×AV)} {ks:List Fil} {k:Nat} (H:Heads ops T0 out k) (ok:RoomROk ops sh ks Oi.length k) (hkp:∀q,memB q keep=true→q<Oi.length∧∀i f p ob,i<k→ks[i]?=some f→f.spot=some (p,ob)→p≠q) {Q:Exit→Act→World→Prop} (hJ:∀{j:Nat} {o:Oper},j<k→ops[j]?=some o→∃d V f,out[j]?=some (d,V)∧ks[j]?=some f∧
 ∀Tv Ov,Oi.length≤Ov.length→(∀ p ob,f.spot=some (p,ob)→Ov[p]?=(fillAll (ks.take j) Oi)[p]?)→(∀ i f p ob,waitsT ops o i=true→(ks.take j)[i]?=some f→f.spot=some (p,ob)→memB p sh=false→Ov[p]?=some ob)→(∀ q,memB q keep=true→Ov[q]?=Oi[q]?)→WpL P n m G false ops [o] ⟨deps (out.take j) o++(T0++Tv),O++Ov⟩ (Only ⟨(d,V)::(deps (out.take j) o++(T0++Tv)),O++f.run Ov⟩))
 {listed:Array Bool} (inv:HeadInv .any ops k listed) {i:Nat} (hi:i∈Region.ready .any ops listed) (hik:i<k) {a w} (hg:GoodR n m G T0 out O Oi k ks listed a w) {K:Act→World→Prop}
 (hK:∀a' w',GoodR n m G T0 out O Oi k ks (listed.setIfInBounds i true) a' w'→K a' w'):wpOp P ops Q i K a w:=by
 obtain ⟨hun,o,ho,hall⟩:=mem_ready.1 hi
 obtain ⟨T,Ov,hr,hroom,h1,h2⟩:=hg
 obtain ⟨d,V,f,hout,hkf,hw⟩:=hJ hik ho
 have hF:∀t U,(t,U)∈deps (out.take i) o→look T t=U:=by
  intro t U hm
  simp only [deps,List.mem_filterMap] at hm
  obtain ⟨e,he,hx⟩:=hm
  split at hx
  ·rename_i hb
   have he':e∈o.after:=by simpa using he
   have hx':out[e.on]?=some (t,U):=by
    rw [List.getElem?_take] at hx
    split at hx
    ·exact hx
    ·simp at hx
   exact h1 _ _ _ hx' (hall e he' hb)
  ·simp at hx
 have same:∀t,look (deps (out.take i) o++(T0++T)) t=look T t:=by
  intro t
  rw [look_append]
  split
  ·rename_i h;exact (hF _ _ (has_look h)).symm
  ·rw [look_append]
   split
   ·rename_i h
    refine (h2 t ?_).symm
    cases hc:has out t with
    |false=>rfl
    |true=>have:=H.fresh _ (has_look hc);simp only at this;rw [this] at h;cases h
   ·rfl
 have hiu:listed.getD i false=false:=getD_both hun
 have hdep:∀j g p ob,waitsT ops o j=true→(ks.take i)[j]?=some g→g.spot=some (p,ob)→memB p sh=false→Ov[p]?=some ob:=by
  intro j g p ob hwt hg hsp hsh
  have hl:listed.getD j false=true:=by
   unfold waitsT at hwt
   rw [Bool.or_eq_true] at hwt
   rcases hwt with h|h
   ·obtain ⟨e,he,hb,rfl⟩:=waits_spec h
    exact hall e he hb
   ·obtain ⟨x,_,hx⟩:=List.any_eq_true.1 h
    rw [Bool.and_eq_true] at hx
    obtain ⟨e,he,hb,rfl⟩:=waits_spec hx.1
    have h1:=hall e he hb
    have hx2:=hx.2
    cases ho2:ops[e.on]? with
    |none=>rw [ho2] at hx2;cases hx2
    |some o2=>
     rw [ho2] at hx2
     obtain ⟨e2,he2,hb2,rfl⟩:=waits_spec hx2
     exact inv.closed e.on o2 ho2 h1 e2 he2 hb2
  rw [List.getElem?_take] at hg
  split at hg
  ·rename_i hji
   have hp:=ok.lt j g p ob (by omega) hg hsp
   rcases hroom.cur p hp with ⟨j2,g2,oc,hjk,hl2,hg2,hs2,hlast,hv⟩|⟨hno,hv⟩
   ·have hj:j2=j:=by
     rcases Nat.lt_trichotomy j2 j with h3|h3|h3
     ·have:=(ok.chain j2 j g2 g p oc ob h3 (by omega) hg2 hg hs2 hsp).1
      rw [hsh] at this;cases this
     ·exact h3
     ·have:=(ok.chain j j2 g g2 p ob oc h3 hjk hg hg2 hsp hs2).1
      rw [hsh] at this;cases this
    subst hj
    rw [hg] at hg2;cases hg2
    rw [hsp] at hs2;cases hs2
    exact hv
   ·exact absurd hsp (hno j g ob (by omega) hl hg)
  ·cases hg
 have hrest:∀q,memB q keep=true→Ov[q]?=Oi[q]?:=by
  intro q hq
  obtain ⟨hlt,hno⟩:=hkp q hq
  rcases hroom.cur q hlt with ⟨j,g,oc,hjk,_,hg,hs2,_,_⟩|⟨_,hv⟩
  ·exact absurd rfl (hno j g q oc hjk hg hs2)
  ·exact hv
 have hw':=hw T Ov (by rw [hroom.len];omega) (fun p ob e=>hroom.before ok inv hik hiu hall ho hkf e) hdep hrest a w (hr.relook same)
 have hst:=hroom.step ok inv hik (by rw [inv.size];have:=(Array.getElem?_eq_some_iff.1 ho).1;omega) hiu hkf
 simp only at hw'
 have good:∀a' w',Rel n m G ⟨(d,V)::(deps (out.take i) o++(T0++T)),O++f.run Ov⟩ a' w'→GoodR n m G T0 out O Oi k ks (listed.setIfInBounds i true) a' w':=by
  intro a' w' hr'
  refine ⟨_,_,hr',hst,fun j d' V' hj hl=>?_,fun t ht=>?_⟩
  ·by_cases hij:i=j
   ·subst hij;rw [hout] at hj;cases hj;exact look_cons_same _ _ _
   ·rw [getD_set_ne false hij] at hl
    have hne:d≠d':=by rintro rfl;exact hij (out_inj H.nodup hout hj)
    rw [look_cons_other _ _ _ _ hne,same]
    exact h1 _ _ _ hj hl
  ·have hne:d≠t:=by
    rintro rfl
    have:=has_mem (List.mem_of_getElem? hout)
    rw [ht] at this;cases this
   rw [look_cons_other _ _ _ _ hne,same];exact h2 t ht
 have only:∀e a' w',(∃ σ',Only ⟨(d,V)::(deps (out.take i) o++(T0++T)),O++f.run Ov⟩ e σ'∧Rel n m G σ' a' w')→e=.normal∧K a' w':=by
  rintro e a' w' ⟨σ',hq,hr'⟩
  cases e<;>first|(simp only [Only] at hq;subst hq;exact ⟨rfl,hK _ _ (good _ _ hr')⟩)|exact hq.elim
 unfold wpOp
 simp only [ho]
 change wpList P ops _ [o] a w at hw'
 unfold wpList at hw'
 by_cases hwant:Region.wanted o (yielded ops a.tmps)=true
 ·rw [if_pos hwant] at hw' ⊢
  rcases hw' with hw'|⟨_,a',w',hx⟩
  ·refine .inl ?_
   unfold Oper.wp at hw' ⊢
   generalize (execOp a.eval o).run P w=r at*
   cases r with
   |ok x w1=>
    cases x<;>simp only [Oper.upon] at hw' ⊢
    case value v=>exact (only _ _ _ hw').2
    case skip=>exact (only _ _ _ hw').2
    case defer d=>exact (only _ _ _ hw').2
    case enter f args=>
     refine hw'.mono fun e w2 h2=>?_
     cases e with
     |returned v=>exact (only _ _ _ h2).2
     |panicked c=>exact absurd (only _ _ _ h2).1 (by simp)
     |outgrown=>obtain ⟨_,_,hf⟩:=h2;exact absurd (only _ _ _ hf).1 (by simp)
    case row r ar=>exact hw'.mono fun v w2 h2=>(only _ _ _ h2).2
   |halt x w1=>cases x<;>simp only [Oper.upon] at hw' ⊢<;>first|exact absurd (only _ _ _ hw').1 (by simp)|exact hw'.elim|(obtain ⟨_,_,hf⟩:=hw';exact absurd (only _ _ _ hf).1 (by simp))
  ·exact absurd (only _ _ _ hx).1 (by simp)
 ·rw [if_neg hwant] at hw' ⊢
  exact (only _ _ _ hw').2
theorem WpA.regionRU {l:List Oper} {id:Nat} {out T1:List (Nat×AV)} {ks:List Fil} {Q:Exit→St→Prop} (k:Nat) (hm:P.follows .mixedOrders=true) (hB:mixB l.toArray k=true)
 (hJ:HeadT P n m G l.toArray T0 O Oi keep sh [] [] (l.take k) out ks) (hok:RoomROk l.toArray sh ks Oi.length k) (hkp:∀q,memB q keep=true→q<Oi.length∧∀i f p ob,i<k→ks[i]?=some f→f.spot=some (p,ob)→p≠q) (hnd:nodupB (out.map (·.1))=true) (hfr:(out.all fun p=>!has T0 p.1)=true)
 (hT1:out++T0=T1) (h:WpL P n m G false l.toArray (l.drop k) ⟨T1,O++(fillAll ks Oi++List.replicate ((List.range k).filter fun i=>isPut ks i).length deadO)⟩ Q):WpA P n m G (.region id l.toArray true) ⟨T0,O++Oi⟩ Q:=fun a w hr=>by
 subst hT1
 simp only [mixB,Bool.and_eq_true,decide_eq_true_eq,Bool.or_eq_true] at hB
 obtain ⟨⟨⟨hks,hback⟩,hsc⟩,hseq⟩:=hB
 have hkl:k≤l.length:=by simpa using hks
 have htl:(l.take k).length=k:=by simp;omega
 obtain ⟨r,s,hr1,hr2,hr3,hr4⟩:=hJ.pre
 have hlen:out.length=k:=by rw [hr1];simp [hr2];omega
 have hklen:ks.length=k:=by rw [hr3];simp [hr4];omega
 have H:Heads l.toArray T0 out k:=⟨hlen,nodupB_spec hnd,fun p hp=>by have:=List.all_eq_true.1 hfr p hp;simpa using this,fun i hi o ho e he hb=>by
  have h1:=List.all_eq_true.1 hback i (List.mem_range.2 hi)
  rw [ho] at h1
  have h2:=List.all_eq_true.1 h1 e (by simpa using he)
  simp only [Bool.or_eq_true,Bool.not_eq_true',decide_eq_true_eq] at h2
  rcases h2 with h2|h2
  ·rw [hb] at h2;cases h2
  ·exact h2⟩
 have hJ':∀{j:Nat} {o:Oper},j<k→l.toArray[j]?=some o→∃d V f,out[j]?=some (d,V)∧ks[j]?=some f∧
  ∀Tv Ov,Oi.length≤Ov.length→(∀ p ob,f.spot=some (p,ob)→Ov[p]?=(fillAll (ks.take j) Oi)[p]?)→(∀ i f p ob,waitsT l.toArray o i=true→(ks.take j)[i]?=some f→f.spot=some (p,ob)→memB p sh=false→Ov[p]?=some ob)→(∀ q,memB q keep=true→Ov[q]?=Oi[q]?)→WpL P n m G false l.toArray [o] ⟨deps (out.take j) o++(T0++Tv),O++Ov⟩ (Only ⟨(d,V)::(deps (out.take j) o++(T0++Tv)),O++f.run Ov⟩):=by
  intro j o hj ho
  have ho':(l.take k)[j]?=some o:=by rw [List.getElem?_take,if_pos hj];simpa using ho
  have:=hJ.at rfl ho'
  simpa using this
 have inv0:HeadInv .any l.toArray k (Array.replicate l.toArray.size false):=
  ⟨by simp,fun j oj _ hl=>(by rw [getD_replicate_false] at hl;cases hl),fun t _ ht=>getD_in (by simpa using ht) (getD_replicate_false _ _)⟩
 have room0:RoomR ks Oi k (Array.replicate l.toArray.size false) Oi:=by
  refine ⟨?_,fun q _=>.inr ⟨fun j g oc _ hl=>(by rw [getD_replicate_false] at hl;cases hl),rfl⟩,fun q h1 h2=>by omega⟩
  have:((List.range k).filter fun i=>(Array.replicate l.toArray.size false).getD i false&&isPut ks i)=[]:=by
   rw [List.filter_eq_nil_iff];intro i _;rw [getD_replicate_false];simp
  rw [this];simp
 refine wp_region_any hm ?_
 have fin:=any_order (P:=P) (GP:=GoodR n m G T0 out O Oi k ks) (g:=l.toArray.size-k) (Q:=fun e a' w'=>∃σ',Q e σ'∧Rel n m G σ' a' w') H hks (fun hk=>hsc.resolve_left (by omega)) (fun inv _ hi hik _ _ hg _ hK=>head_stepT H hok hkp hJ' inv hi hik hg hK) (fun listed a w inv hall hg=>by
  obtain ⟨T,Ov,hrT,hroom,h1,h2⟩:=hg
  have hOv:Ov=fillAll ks Oi++List.replicate ((List.range k).filter fun i=>isPut ks i).length deadO:=by
   have hcnt:((List.range k).filter fun i=>listed.getD i false&&isPut ks i)=(List.range k).filter fun i=>isPut ks i:=by
    refine List.filter_congr fun i hi=>?_
    rw [hall i (List.mem_range.1 hi)];rfl
   have hlen:=hroom.len
   rw [hcnt] at hlen
   have hfl:=fillAll_len ks Oi
   apply List.ext_getElem?
   intro q
   rcases Nat.lt_or_ge q Oi.length with hq|hq
   ·rw [List.getElem?_append_left (by omega)]
    rcases hroom.cur q hq with ⟨j,g,oc,hjk,hl,hg,hs,hlast,hv⟩|⟨hno,hv⟩<;>rcases fillAll_cases ks Oi q hq with ⟨j2,g2,oc2,hg2,hs2,hlast2,hv2⟩|⟨hno2,hv2⟩
    ·have hj2k:j2<k:=by have:=(List.getElem?_eq_some_iff.1 hg2).1;omega
     have:j=j2:=by
      rcases Nat.lt_trichotomy j j2 with h3|h3|h3
      ·exact absurd hs2 (hlast j2 g2 oc2 h3 hj2k (hall j2 hj2k) hg2)
      ·exact h3
      ·exact absurd hs (hlast2 j g oc h3 hg)
     subst this
     rw [hg] at hg2;cases hg2
     rw [hs] at hs2;cases hs2
     rw [hv,hv2]
    ·exact absurd hs (hno2 j g oc hg)
    ·have hj2k:j2<k:=by have:=(List.getElem?_eq_some_iff.1 hg2).1;omega
     exact absurd hs2 (hno j2 g2 oc2 hj2k (hall j2 hj2k) hg2)
    ·rw [hv,hv2]
   ·rcases Nat.lt_or_ge q Ov.length with h3|h3
    ·rw [hroom.dead q hq h3,List.getElem?_append_right (by omega),List.getElem?_replicate,if_pos (by omega)]
    ·rw [List.getElem?_eq_none h3,List.getElem?_eq_none (by simp;omega)]
  subst hOv
  have hlist:listed=(Array.range l.toArray.size).map fun i=>decide (i<k):=by
   apply Array.ext
   ·simp [inv.size]
   ·intro i hi1 hi2
    have hi:i<l.toArray.size:=by rw [←inv.size];exact hi1
    by_cases hik:i<k
    ·have:=hall i hik
     simp [hi1] at this
     simp [this,hik]
    ·have:=inv.tail i (by omega) hi
     simp [hi1] at this
     simp [this,hik]
  have hdl:(l.drop k).length=l.toArray.size-k:=by simp
  rw [←hdl]
  refine wpAny_of_seq (l.drop k) k listed a w (fun j=>by simp [List.getElem?_drop]) (by rw [hdl,hlist];exact hseq) ?_
  refine h a w (hrT.relook fun t=>?_)
  rw [look_append]
  split
  ·rename_i hh
   obtain ⟨i,hi,hi2⟩:=List.getElem_of_mem (has_look hh)
   have:out[i]?=some (t,look out t):=by rw [List.getElem?_eq_getElem hi,hi2]
   exact (h1 i _ _ this (hall i (by omega))).symm
  ·rename_i hh
   exact (h2 t (by simpa using hh)).symm) k _ a w.drew inv0 (by
    have:((List.range k).filter fun i=>!(Array.replicate l.toArray.size false).getD i false)=List.range k:=by
     rw [List.filter_eq_self];intro i _;rw [getD_replicate_false];rfl
    rw [this];simp) ⟨T0,_,hr.drew,room0,⟨fun i d V _ hl=>(by rw [getD_replicate_false] at hl;cases hl),fun _ _=>rfl⟩⟩
 rw [show k+(l.toArray.size-k)=l.toArray.size by omega] at fin
 exact fin
theorem HeadT.consF {fs fs2 out:List (Nat×AV)} {gs gs2:List Fil} {o:Oper} {l:List Oper} {d:Nat} {V:AV} {F:List (Nat×AV)} {ks:List Fil} {cur:List AObj} (k:Fil) (hd:o.dst=some d) (hF:depsF fs o.after.toList=some F) (hcur:fillAll gs Oi=cur)
 (h:∀Tv Ov,Oi.length≤Ov.length→(∀ p ob,k.spot=some (p,ob)→Ov[p]?=cur[p]?)→(∀ j f p ob,waitsT ops o j=true→gs[j]?=some f→f.spot=some (p,ob)→memB p sh=false→Ov[p]?=some ob)→(∀ q,memB q keep=true→Ov[q]?=Oi[q]?)→WpL P n m G false ops [o] ⟨F++(T0++Tv),O++Ov⟩ (Only ⟨(d,V)::(F++(T0++Tv)),O++k.run Ov⟩)) (hs:catF fs [(d,V)]=some fs2) (hg:catF gs [k]=some gs2) (r:HeadT P n m G ops T0 O Oi keep sh fs2 gs2 l out ks):HeadT P n m G ops T0 O Oi keep sh fs gs (o::l) out ks:=by
 have:=catF_eq hs;subst this;have:=catF_eq hg;subst this;subst hcur
 exact .cons k (depsF_eq hF) h r
theorem WpA.regionRT {l l1 l2:List Oper} {id:Nat} {out T1:List (Nat×AV)} {ks:List Fil} {Of Or O1:List AObj} {Q:Exit→St→Prop} (k c:Nat) (keep sh:List Nat) (hO0:Of=O++Or) (hm:P.follows .mixedOrders=true) (hB:mixB l.toArray k=true)
 (hl:takeF k l=some l1) (hJ:HeadT P n m G l.toArray T0 O (Or++List.replicate c roomO) keep sh [] [] l1 out ks) (hok:chainR l.toArray sh (Or.length+c) 0 [] ks=true) (hkp:keepB (Or.length+c) (spots ks) keep=true) (hnd:nodupB (out.map (·.1))=true) (hfr:(out.all fun p=>!has T0 p.1)=true)
 (hT1:catF out T0=some T1) (h2:l.drop k=l2) (hO:O++(fillAll ks (Or++List.replicate c roomO)++List.replicate ((List.range k).filter fun i=>isPut ks i).length deadO)=O1) (h:WpL P n m G false l.toArray l2 ⟨T1,O1⟩ Q):WpA P n m G (.region id l.toArray true) ⟨T0,Of⟩ Q:=by
 have:=takeF_eq hl;subst this;subst h2;subst hO;subst hO0
 have hc:(Or++List.replicate c roomO).length=Or.length+c:=by simp
 have hw:=WpA.regionRU (Q:=Q) (id:=id) k hm hB hJ (by rw [hc];exact roomROk_of hok) (fun q hq=>by rw [hc];exact keepB_of hkp hq) hnd hfr (catF_eq hT1) h
 have hr:=Weak.rooms (m:=m) (T:=T0) c (O++Or)
 rw [List.append_assoc] at hr
 exact WpA.weak hr hw
end
end Go.Abs


namespace Go.Abs
open Go
section
variable {P:Program} {n m:Nat} {G:Ctx} {T:List (Nat×AV)} {O:List AObj} {Q:Exit→St→Prop} {ops:Array Oper} {l:List Oper} {d:Nat} {tt:TypeId} {pos:String} {after:Array Edge} {tab:List (Nat×Ty)}
theorem WpL.callId {f:FuncId} {x1 x2:Operand} {ats:Array TypeId} {X:AV} {W H:Int} {id ep off len:Nat} {ob:AObj} (hc:∀(p:Option Addr) (a b:Nat),FnC P f [X,.agg [.sc (.int .i64 W),.sc (.int .i64 H),.sc (.slice p a b)]] [] (.agg [.sc (.int .i64 W),.sc (.int .i64 H),.sc (.slice p a b)])) (hs:KeepL [av T x1] [X]) (hx:av T x2=.agg [.sc (.int .i64 W),.sc (.int .i64 H),.own id ep off len]) (ho:O[id]?=some ob) (he:ob.ep=ep) (hn:d<n) (h:WpL P n m G false ops l ⟨(d,.agg [.sc (.int .i64 W),.sc (.int .i64 H),.own id ep off len])::T,O⟩ Q):
 WpL P n m G false ops ({dst:=some d,op:=.call {callee:=.value (.func f),args:=#[x1,x2],argTypes:=ats},type:=tt,pos:=pos,after:=after,guard:=none}::l) ⟨T,O⟩ Q:=by
 have h2:(#[x1,x2]:Array Operand)=[x1,x2].toArray:=rfl
 rw [h2]
 generalize hxs:[x1,x2]=xs
 exact WpL.op rfl (fun a w hr=>by
  obtain ⟨S,ι,F,hr⟩:=hr
  have hev:=hr.evals [x1,x2]
  obtain ⟨v1,vs',f1,f2,e1,hv1,hr1,hf1⟩:=LRel.uncons (cs:=[av T x2]) hev
  obtain ⟨rfl,rfl⟩:f1=[]∧f2=[]:=by simpa using hf1
  simp only [List.map_cons,List.map_nil,List.cons.injEq] at e1
  obtain ⟨rfl,rfl⟩:=e1
  have hv2:VRel S w ι O (.agg [.sc (.int .i64 W),.sc (.int .i64 H),.own id ep off len]) (a.eval x2) []:=by rw [←hx];exact hr.eval x2
  obtain ⟨us,hus,hu⟩:=LRel.agg_inv hv2
  obtain ⟨p,y,z,rfl⟩:∃p y z,us=[.int .i64 W,.int .i64 H,.slice p y z]:=by
   cases hu with|sc r=>cases r with|sc r=>cases r with
    |own q1 q2 q3 r=>
     cases r
     rw [ho] at q1;cases q1
     have q:=q3 he.symm
     cases hs:ι id with
     |none=>rw [hs] at q;obtain ⟨rfl,_,_⟩:=q;exact ⟨_,_,_,rfl⟩
     |some p=>obtain ⟨b,k⟩:=p;rw [hs] at q;obtain ⟨cap,rfl,_⟩:=q;exact ⟨_,_,_,rfl⟩
  have hc:=hc p y z
  obtain ⟨⟨fn,hf,hb,hnm⟩,hcall⟩:=hc
  have hl:LRel S w (fun _=>none) [] [X,.agg [.sc (.int .i64 W),.sc (.int .i64 H),.sc (.slice p y z)]] (xs.map a.eval) []:=by
   have h1:=hs.rel (ι':=fun _=>none) hv1
   subst hxs
   have h3:LRel S w (fun _=>none) [] [.agg [.sc (.int .i64 W),.sc (.int .i64 H),.sc (.slice p y z)]] [a.eval x2] []:=by rw [hus];simpa using LRel.agg (.sc (.sc (.sc .nil))) .nil
   simpa using h1.append h3
  have hex:(execOp a.eval {dst:=some d,op:=.call {callee:=.value (.func f),args:=xs.toArray,argTypes:=ats},type:=tt,pos:=pos,after:=after,guard:=none}).run P w=.ok (.enter f (xs.map a.eval).toArray) w:=by
   simp only [execOp,resolve,Act.eval,Deferred.ofValue,invoke,callFunc,Sem.run_bind,Sem.run_pure,Result.andThen_ok,program,Sem.run,hf,hnm,hb,Bool.false_eq_true,if_false]
   simp
  unfold Oper.wp
  rw [hex]
  refine (hcall w S (xs.map a.eval) hr.stable hl).mono fun e w' he=>?_
  obtain ⟨v,S',ι',F',rfl,hS1,hS2,hS3,hO',hF',hv,hk⟩:=he
  show Rel n m G ⟨(d,.agg [.sc (.int .i64 W),.sc (.int .i64 H),.own id ep off len])::T,O⟩ (a.put (some d) v) w'
  have hold:∀b,b<w.heap.size→w'.heap[b]?=w.heap[b]?:=fun b hb=>hk.block b hb (fun h=>h)
  have hlat:Later S w ι O S' w' ι O:=⟨hS1,fun b hb=>hold b (hr.stable b hb),fun id ob h=>⟨ob,h,.inr ⟨rfl,rfl,rfl⟩⟩⟩
  have hrel:RelAt n m G S' ι F ⟨T,O⟩ a w':=by
   refine ⟨hr.defers,hr.size,fun t=>(hr.tmps t).mono hlat (by simp),⟨fun id ob h=>?_,hr.objs.nodup,hr.objs.apart⟩,fun id h b hb=>?_,⟨fun b hb=>hS1 b (hr.base.1 b hb),fun b hb=>?_⟩,hS3,?_,hr.spots,hr.mle⟩
   ·have h:O[id]?=some ob:=h
    have hlt:id<O.length:=(List.getElem?_eq_some_iff.1 h).1
    have ho:=hr.objs.obj id ob h
    unfold ObjAt at ho ⊢
    cases hs:ι id with
    |none=>rw [hs] at ho;exact ho
    |some p=>
     obtain ⟨b,k⟩:=p
     rw [hs] at ho
     obtain ⟨cur',t',fz',f2,h1,h2,h3,h4,h5,h6,h7⟩:=ho
     have key:∀b',b'∈F id→w'.heap[b']?=w.heap[b']?:=fun b' hb'=>hold b' (hr.foot id hlt b' hb').2.2
     exact ⟨cur',t',fz',f2,h1,by rw [key b (by rw [h1];simp)];exact h2,h3,h4,h5,h6,h7.mono hlat fun b' hb'=>key b' (by rw [h1];simp [hb'])⟩
   ·obtain ⟨q1,q2,q3⟩:=hr.foot id h b hb
    refine ⟨q1,fun h'=>?_,by have:=hk.size;omega⟩
    rcases hS2 b h' with h2|h2
    ·exact q2 h2
    ·omega
   ·rcases hS2 b hb with h2|h2
    ·exact hr.base.2 b h2
    ·exact .inr (by have:=hr.keeps.size;omega)
   ·exact ⟨hk.os.trans hr.keeps.os,hk.tape.trans hr.keeps.tape,hk.output.trans hr.keeps.output,by have:=hr.keeps.size;have:=hk.size;omega,fun b hb hM=>by
     rw [hold b (by have:=hr.keeps.size;omega)];exact hr.keeps.block b hb hM⟩
  have hve:v=a.eval x2:=by
   rw [hus]
   obtain ⟨us',rfl,hu'⟩:=LRel.agg_inv hv
   cases hu' with|sc r=>cases r with|sc r=>cases r with|sc r=>cases r;rfl
  subst hve
  exact ⟨S',ι,F,hrel.put hn (hv2.mono hlat (by simp))⟩) h
end
end Go.Abs


namespace Go.Proofs.YtainhhfnnclfiaaGreat
open Go Go.Abs
attribute [local irreducible] WpA WpL Rnd Blk Abs.Seq Abs.Fin Abs.FinG FnC FnG Only
theorem endedId (W H:Int) (p:Option Addr) (a b:Nat):Fn 139 [.agg [.any,.any,.any,.any,B false,.any],.agg [I W,I H,.sc (.slice p a b)]] [] (.agg [I W,I H,.sc (.slice p a b)]):=by
 refine FnC.of_body tabOk Tryz.func139 Tryz.ntmps139 rfl (by decide +kernel) (by simp) fun G=>?_
 refine go (r:=?_);and_intros<;>intros<;>try exact True.intro
 all_goals first|contradiction|omega
theorem ov7 {Ov:List AObj} (h:7≤Ov.length):∃a0 a1 a2 a3 a4 a5 a6 R,Ov=a0::a1::a2::a3::a4::a5::a6::R:=by
 match Ov,h with
 |a0::a1::a2::a3::a4::a5::a6::R,_=>exact ⟨a0,a1,a2,a3,a4,a5,a6,R,rfl⟩
 |[],h=>simp at h
 |[_],h=>simp at h
 |[_,_],h=>simp at h
 |[_,_,_],h=>simp at h
 |[_,_,_,_],h=>simp at h
 |[_,_,_,_,_],h=>simp at h
 |[_,_,_,_,_,_],h=>simp at h
theorem ov8 {Ov:List AObj} (h:8≤Ov.length):∃a0 a1 a2 a3 a4 a5 a6 a7 R,Ov=a0::a1::a2::a3::a4::a5::a6::a7::R:=by
 match Ov,h with
 |a0::a1::a2::a3::a4::a5::a6::a7::R,_=>exact ⟨a0,a1,a2,a3,a4,a5,a6,a7,R,rfl⟩
 |[],h=>simp at h
 |[_],h=>simp at h
 |[_,_],h=>simp at h
 |[_,_,_],h=>simp at h
 |[_,_,_,_],h=>simp at h
 |[_,_,_,_,_],h=>simp at h
 |[_,_,_,_,_,_],h=>simp at h
 |[_,_,_,_,_,_,_],h=>simp at h
section
attribute [-instance] placesOf_c BlockAt_c NbAt_c Pred_c Residual_c LevelsFor_c PutRef_c Clone_c
attribute [local irreducible] encB encM putL blkL topL lefL corL predS resS levL dbL
theorem encode_w (w h q:Int) (b d:Bool) (L ms F:List Int) (es:List Bool) (g:Nat) (cs:List AV) (ch:Chs) (hF:FrameOk w h F) (ho:OptOk q L) (hl:ms.length≤1099511627776∧es.length≤1099511627776) (hg:ChG g cs ch):
 Fn 68 [FrA w h F,OpA q b d L ms es,.fn g [.iptr cs 0]] [XI L,MbO (encM ⟨w,h,q,b,L,F,ch⟩ (eiF es) (zerP w h) (cntM w h).toNat).1,IN (endL w h q d (encM ⟨w,h,q,b,L,F,ch⟩ (eiF es) (zerP w h) (cntM w h).toNat).2.1)]
  (.tup [.agg [I w,I h,I q,B b,B d,.own 0 0 0 L.length,.own 1 0 0 (cntM w h).toNat],.agg [I w,I h,.own 2 0 0 (zerP w h).length]]):=by
 have hsd:=hF.1
 have hcm:=cntM_bd hsd
 have hL6:L.length=6:=ho.2.2.1
 have hz:(zerP w h).length≤1024:=by
  unfold zerP
  rw [List.length_replicate]
  have h2:w*h≤32*32:=Int.mul_le_mul hsd.2.1 hsd.2.2.2.1 (by have:=hsd.2.2.1;omega) (by omega)
  omega
 refine FnC.of_body tabOk Tryz.func68 Tryz.ntmps68 rfl (by decide +kernel) (by simp) fun G=>?_
 refine goR (r:=?_);and_intros<;>intros<;>try exact True.intro
 all_goals first|contradiction|omega|skip
 try dsimp only [List.append,List.cons_append,List.nil_append]
 refine WpA.cut (σ1:=⟨[(2,.fn g [.iptr cs 0]),(3,.ptr 0 0 0),(4,.ptr 1 0 0),(6,.ptr 2 0 0),(7,.ptr 3 0 0),(8,.ptr 5 0 0)],[FrO w h F,OpO q b d L ms es,⟨[I 0,I 0,I 0,B false,B false,.nilS,.nilS],0,0,none⟩,⟨[I 0,I 0,.nilS],0,0,none⟩,XI L,⟨[I w,I h,I q,B b,B d,.own 4 0 0 L.length,.nilS],0,0,none⟩]⟩) ?_ ?_
 ·apply WpA.regionRT (O:=[FrO w h F,OpO q b d L ms es,⟨[I 0,I 0,I 0,B false,B false,.nilS,.nilS],0,0,none⟩,⟨[I 0,I 0,.nilS],0,0,none⟩]) (Or:=[]) (O1:=[FrO w h F,OpO q b d L ms es,⟨[I 0,I 0,I 0,B false,B false,.nilS,.nilS],0,0,none⟩,⟨[I 0,I 0,.nilS],0,0,none⟩,⟨ints L,1,1,some 3⟩,⟨[I 0,I 0,I 0,B false,B false,.nilS,.nilS],1,0,none⟩,deadO,deadO]) 16 2 [] [] rfl mixed (by decide +kernel)
  ·exact rfl
  ·apply HeadT.consF .none rfl
   ·exact rfl
   ·exact rfl
   ·exact in1
   ·exact rfl
   ·exact rfl
   apply HeadT.consF .none rfl
   ·exact rfl
   ·exact rfl
   ·exact in1
   ·exact rfl
   ·exact rfl
   apply HeadT.consF .none rfl
   ·exact rfl
   ·exact rfl
   ·exact in1
   ·exact rfl
   ·exact rfl
   apply HeadT.consF .none rfl
   ·exact rfl
   ·exact rfl
   ·exact in1
   ·exact rfl
   ·exact rfl
   apply HeadT.consF .none rfl
   ·exact rfl
   ·exact rfl
   ·exact in1
   ·exact rfl
   ·exact rfl
   apply HeadT.consF .none rfl
   ·exact rfl
   ·exact rfl
   ·exact in1
   ·exact rfl
   ·exact rfl
   apply HeadT.consF .none rfl
   ·exact rfl
   ·exact rfl
   ·exact in1
   ·exact rfl
   ·exact rfl
   apply HeadT.consF .none rfl
   ·exact rfl
   ·exact rfl
   ·exact in1
   ·exact rfl
   ·exact rfl
   apply HeadT.consF .none rfl
   ·exact rfl
   ·exact rfl
   ·exact in1
   ·exact rfl
   ·exact rfl
   apply HeadT.consF .none rfl
   ·exact rfl
   ·exact rfl
   ·exact in1
   ·exact rfl
   ·exact rfl
   apply HeadT.consF .none rfl
   ·exact rfl
   ·exact rfl
   ·exact in1
   ·exact rfl
   ·exact rfl
   apply HeadT.consF .none rfl
   ·exact rfl
   ·exact rfl
   ·exact in1
   ·exact rfl
   ·exact rfl
   apply HeadT.consF (V:=.own 4 1 0 L.length) (.put 0 ⟨ints L,1,1,some 3⟩) rfl
   ·exact rfl
   ·exact rfl
   ·intro Tv Ov hc2 hp9 hd9 hk9
    refine K.call ?_
    refine WpL.callF (Clone_c.ok L (by omega)) snapA locA outA (cnt_some _ 0) rfl rfl (by decide) ?_
    rw [Nat.zero_add]
    apply WpL.putV (p:=0)
    ·exact .own (by first|rfl|exact Nat.zero_add _) .nil
    ·exact hp9 0 _ rfl
    ·exact Nat.zero_le _
    ·exact rfl
    ·exact still_ints _
   ·exact rfl
   ·exact rfl
   apply HeadT.consF (V:=.agg [I w,I h,I q,B b,B d,.own 4 1 0 L.length]) .none rfl
   ·exact rfl
   ·exact rfl
   ·intro Tv Ov hc2 hp9 hd9 hk9
    obtain ⟨R0,rfl⟩:=split1 (hd9 12 _ 0 _ rfl rfl rfl rfl)
    exact in1
   ·exact rfl
   ·exact rfl
   apply HeadT.consF (V:=.agg [I w,I h,I q,B b,B d,.own 4 1 0 L.length,.nilS]) .none rfl
   ·exact rfl
   ·exact rfl
   ·intro Tv Ov hc2 hp9 hd9 hk9
    obtain ⟨R0,rfl⟩:=split1 (hd9 12 _ 0 _ rfl rfl rfl rfl)
    exact in1
   ·exact rfl
   ·exact rfl
   apply HeadT.consF (V:=.ptr 5 1 0) (.put 1 ⟨[I 0,I 0,I 0,B false,B false,.nilS,.nilS],1,0,none⟩) rfl
   ·exact rfl
   ·exact rfl
   ·intro Tv Ov hc2 hp9 hd9 hk9
    refine WpL.allocStruct tabOk rfl (nid_len _ 0) (by decide) ?_
    apply WpL.putV (p:=1)
    ·exact .ptr (by first|rfl|exact Nat.zero_add _) .nil
    ·exact hp9 1 _ rfl
    ·exact Nat.zero_le _
    ·exact rfl
    ·exact rfl
   ·exact rfl
   ·exact rfl
   exact HeadT.nil
  ·exact rfl
  ·exact rfl
  ·exact rfl
  ·exact rfl
  ·exact rfl
  ·exact rfl
  ·exact rfl
  refine goR (r:=?_);and_intros<;>intros<;>try exact True.intro
  all_goals first|contradiction|omega
 refine goR (r:=?_);and_intros<;>intros<;>try exact True.intro
 all_goals first|contradiction|omega|skip
 have hzl:(w*h).toNat=(zerP w h).length:=by simp [zerP]
 rw [show (List.replicate (w*h).toNat (0:Int))=zerP w h from rfl,hzl]
 have hP0:=zer_ok hsd
 generalize zerP w h=P0 at*
 have hmk:=fun k=>encM_ok (a:=⟨w,h,q,b,L,F,ch⟩) (E:=eiF es) hP0 k
 have hml:=encM_len ⟨w,h,q,b,L,F,ch⟩ (eiF es) P0
 have hmp:=encM_plen ⟨w,h,q,b,L,F,ch⟩ (eiF es) P0
 have hmc:=encM_cnt ⟨w,h,q,b,L,F,ch⟩ (eiF es) P0
 have hms:=encM_snoc ⟨w,h,q,b,L,F,ch⟩ (eiF es) P0
 have hm0:encM ⟨w,h,q,b,L,F,ch⟩ (eiF es) P0 0=([],P0,0):=encM_zero ..
 refine WpA.loop (fun k:Nat=>⟨[(2,.fn g [.iptr cs 0]),(3,.ptr 0 0 0),(4,.ptr 1 0 0),(6,.ptr 2 0 0),(7,.ptr 3 0 0),(8,.ptr 5 0 0),(9,.ptr 7 0 0),(10,I (encM ⟨w,h,q,b,L,F,ch⟩ (eiF es) P0 k).2.2),(41,I (cntM w h)),(42,I k)],[FrO w h F,OpO q b d L ms es,⟨[I 0,I 0,I 0,B false,B false,.nilS,.nilS],0,0,none⟩,⟨[I 0,I 0,.nilS],0,0,none⟩,XI L,⟨[I w,I h,I q,B b,B d,.own 4 0 0 L.length,.own 8 0 0 k],0,0,none⟩,XI (encM ⟨w,h,q,b,L,F,ch⟩ (eiF es) P0 k).2.1,⟨[I w,I h,.own 6 0 0 P0.length],0,0,none⟩,⟨rows mbF (encM ⟨w,h,q,b,L,F,ch⟩ (eiF es) P0 k).1,0,2,some 82⟩]⟩) (fun k=>(k:Int)≤cntM w h) (fun k=>(cntM w h).toNat-k) 0 (by omega) ?_ (fun k hk=>?_)
 ·rw [hm0];exact Weak.nil1f (by first|(show 0≤_;exact Nat.zero_le _)|(repeat' (first|exact RyT.nil|refine RyT.cons ?_ ?_|exact Ry.nil|refine Ry.keep rfl rfl ?_|refine Ry.own rfl rfl rfl rfl rfl (by first|rfl|omega|(simp;done)) ?_|refine Ry.ptr rfl rfl rfl rfl ?_|refine Ry.nilO rfl rfl rfl (by first|rfl|omega|(simp;done)) ?_|refine Ry.fn rfl ?_|refine Ry.agg ?_ ?_|exact RyO.last rfl|(refine RyO.cons ?_ (.inr rfl) ?_)|exact Ry.same rfl (still_ints _)|exact Ry.same rfl (still_rows (fun _=>rfl) _)))) (by first|(show 0≤_;exact Nat.zero_le _)|(repeat' (first|exact RyT.nil|refine RyT.cons ?_ ?_|exact Ry.nil|refine Ry.keep rfl rfl ?_|refine Ry.own rfl rfl rfl rfl rfl (by first|rfl|omega|(simp;done)) ?_|refine Ry.ptr rfl rfl rfl rfl ?_|refine Ry.nilO rfl rfl rfl (by first|rfl|omega|(simp;done)) ?_|refine Ry.fn rfl ?_|refine Ry.agg ?_ ?_|exact RyO.last rfl|(refine RyO.cons ?_ (.inr rfl) ?_)|exact Ry.same rfl (still_ints _)|exact Ry.same rfl (still_rows (fun _=>rfl) _)))) (Nat.zero_le _)
 have hmk:=hmk k
 have hml:=hml k
 have hmp:=hmp k
 have hmc:=hmc k
 have hms:=hms k
 by_cases hlt:(k:Int)<cntM w h
 ·have hm4:manyE (eiF es k)≤4:=by cases eiF es k<;>decide
  have hei:=fun hh=>eiF_1 (es:=es) hh k
  generalize he:eiF es k=e at*
  generalize hXX:encM ⟨w,h,q,b,L,F,ch⟩ (eiF es) P0 k=X at*
  obtain ⟨M,P,c⟩:=X
  dsimp only at hmk hml hmp hmc hms ⊢
  subst hml
  refine goR (r:=?_);and_intros<;>intros<;>try exact True.intro
  all_goals first|contradiction|omega|skip
  have hr1:=fun hh:0<es.length=>Int.emod_lt_of_pos (M.length:Int) (show (0:Int)<(es.length:Int) by omega)
  have hr0:=fun hh:0<es.length=>Int.emod_nonneg (M.length:Int) (show (es.length:Int)≠0 by omega)
  refine WpA.cut (σ1:=⟨[(2,.fn g [.iptr cs 0]),(3,.ptr 0 0 0),(4,.ptr 1 0 0),(6,.ptr 2 0 0),(7,.ptr 3 0 0),(8,.ptr 5 0 0),(9,.ptr 7 0 0),(10,I c),(11,I M.length),(12,.ptr 9 0 0),(41,I (cntM w h)),(42,I M.length)],[FrO w h F,OpO q b d L ms es,⟨[I 0,I 0,I 0,B false,B false,.nilS,.nilS],0,0,none⟩,⟨[I 0,I 0,.nilS],0,0,none⟩,XI L,⟨[I w,I h,I q,B b,B d,.own 4 0 0 L.length,.own 8 0 0 M.length],0,0,none⟩,XI P,⟨[I w,I h,.own 6 0 0 P0.length],0,0,none⟩,⟨rows mbF M,0,2,some 82⟩,⟨[B e,.nilS],0,0,none⟩]⟩) ?_ ?_
  ·obtain ⟨g0,hg0⟩:∃g0,decide ((es.length:Int)>0)=g0:=⟨_,rfl⟩
   have hpos:g0=true→0<es.length:=fun hh=>by
    rw [hh] at hg0;have:=of_decide_eq_true hg0;omega
   have hev:g0=true→es.getD ((M.length:Int)%(es.length:Int)).toNat false=e:=fun hh=>by
    rw [hei (hpos hh)];congr 1
   have hef:g0=false→e=false:=fun hh=>by
    rw [←he];unfold eiF;rw [if_neg (fun h0=>by rw [hh] at hg0;have:=of_decide_eq_false hg0;omega)]
   have hr1:=fun hh=>hr1 (hpos hh)
   have hr0:=fun hh=>hr0 (hpos hh)
   clear hei he
   cases g0
   all_goals
    try (have hr1:=hr1 rfl)
    try (have hr0:=hr0 rfl)
    try (have hpos:=hpos rfl)
    try dsimp only [List.append,List.cons_append,List.nil_append]
    apply WpA.regionRF (O:=[FrO w h F,OpO q b d L ms es,⟨[I 0,I 0,I 0,B false,B false,.nilS,.nilS],0,0,none⟩,⟨[I 0,I 0,.nilS],0,0,none⟩,XI L,⟨[I w,I h,I q,B b,B d,.own 4 0 0 L.length,.own 8 0 0 M.length],0,0,none⟩,XI P,⟨[I w,I h,.own 6 0 0 P0.length],0,0,none⟩,⟨rows mbF M,0,2,some 82⟩]) (Or:=[]) (O1:=[FrO w h F,OpO q b d L ms es,⟨[I 0,I 0,I 0,B false,B false,.nilS,.nilS],0,0,none⟩,⟨[I 0,I 0,.nilS],0,0,none⟩,XI L,⟨[I w,I h,I q,B b,B d,.own 4 0 0 L.length,.own 8 0 0 M.length],0,0,none⟩,XI P,⟨[I w,I h,.own 6 0 0 P0.length],0,0,none⟩,⟨rows mbF M,0,2,some 82⟩,⟨[B e,.nilS],1,0,none⟩,deadO]) 18 1 [] [0] rfl mixed (by decide +kernel)
    ·exact rfl
    ·apply HeadR.consF .none rfl
     ·exact rfl
     ·exact rfl
     ·exact in1
     ·exact rfl
     ·exact rfl
     apply HeadR.consF .none rfl
     ·exact rfl
     ·exact rfl
     ·exact in1
     ·exact rfl
     ·exact rfl
     apply HeadR.consF .none rfl
     ·exact rfl
     ·exact rfl
     ·exact in1
     ·exact rfl
     ·exact rfl
     apply HeadR.consV .none rfl
     ·exact rfl
     ·exact rfl
     ·exact in1
     ·exact hg0
     ·exact rfl
     ·exact rfl
     apply HeadR.consF .none rfl
     ·exact rfl
     ·exact rfl
     ·exact in1
     ·exact rfl
     ·exact rfl
     apply HeadR.consF .none rfl
     ·exact rfl
     ·exact rfl
     ·(intro Tv Ov hc2 hp9 hd9 hk9;refine K.L ?_;refine K.gd ?_;first|(refine K.gT rfl (by decide) rfl ?_;exact in0)|(refine K.gF rfl (by decide) rfl ?_;exact WpL.nil (Only.mk rfl)))
     ·exact rfl
     ·exact rfl
     apply HeadR.consF .none rfl
     ·exact rfl
     ·exact rfl
     ·(intro Tv Ov hc2 hp9 hd9 hk9;refine K.L ?_;refine K.gd ?_;first|(refine K.gT rfl (by decide) rfl ?_;exact in0)|(refine K.gF rfl (by decide) rfl ?_;exact WpL.nil (Only.mk rfl)))
     ·exact rfl
     ·exact rfl
     apply HeadR.consF .none rfl
     ·exact rfl
     ·exact rfl
     ·(intro Tv Ov hc2 hp9 hd9 hk9;refine K.L ?_;refine K.gd ?_;first|(refine K.gT rfl (by decide) rfl ?_;exact in0)|(refine K.gF rfl (by decide) rfl ?_;exact WpL.nil (Only.mk rfl)))
     ·exact rfl
     ·exact rfl
     apply HeadR.consF .none rfl
     ·exact rfl
     ·exact rfl
     ·(intro Tv Ov hc2 hp9 hd9 hk9;refine K.L ?_;refine K.gd ?_;first|(refine K.gT rfl (by decide) rfl ?_;exact in0)|(refine K.gF rfl (by decide) rfl ?_;exact WpL.nil (Only.mk rfl)))
     ·exact rfl
     ·exact rfl
     apply HeadR.consF .none rfl
     ·exact rfl
     ·exact rfl
     ·(intro Tv Ov hc2 hp9 hd9 hk9;refine K.L ?_;refine K.gd ?_;first|(refine K.gT rfl (by decide) rfl ?_;exact in0)|(refine K.gF rfl (by decide) rfl ?_;exact WpL.nil (Only.mk rfl)))
     ·exact rfl
     ·exact rfl
     apply HeadR.consF .none rfl
     ·exact rfl
     ·exact rfl
     ·(intro Tv Ov hc2 hp9 hd9 hk9;refine K.L ?_;refine K.gd ?_;first|(refine K.gT rfl (by decide) rfl ?_;exact in0)|(refine K.gF rfl (by decide) rfl ?_;exact WpL.nil (Only.mk rfl)))
     ·exact rfl
     ·exact rfl
     apply HeadR.consF .none rfl
     ·exact rfl
     ·exact rfl
     ·(intro Tv Ov hc2 hp9 hd9 hk9;refine K.L ?_;refine K.gd ?_;first|(refine K.gT rfl (by decide) rfl ?_;exact in0)|(refine K.gF rfl (by decide) rfl ?_;exact WpL.nil (Only.mk rfl)))
     ·exact rfl
     ·exact rfl
     apply HeadR.consF .none rfl
     ·exact rfl
     ·exact rfl
     ·(intro Tv Ov hc2 hp9 hd9 hk9;refine K.L ?_;refine K.gd ?_;first|(refine K.gT rfl (by decide) rfl ?_;exact in0)|(refine K.gF rfl (by decide) rfl ?_;exact WpL.nil (Only.mk rfl)))
     ·exact rfl
     ·exact rfl
     apply HeadR.consF .none rfl
     ·exact rfl
     ·exact rfl
     ·(intro Tv Ov hc2 hp9 hd9 hk9;refine K.L ?_;refine K.gd ?_;first|(refine K.gT rfl (by decide) rfl ?_;exact in0)|(refine K.gF rfl (by decide) rfl ?_;exact WpL.nil (Only.mk rfl)))
     ·exact rfl
     ·exact rfl
     apply HeadR.consF (V:=B e) .none rfl
     ·exact rfl
     ·exact rfl
     ·first|(rw [←hev rfl];exact in1)|(rw [hef rfl];exact in1)
     ·exact rfl
     ·exact rfl
     apply HeadR.consF .none rfl
     ·exact rfl
     ·exact rfl
     ·exact in1
     ·exact rfl
     ·exact rfl
     apply HeadR.consF (V:=.ptr 9 1 0) (.put 0 ⟨[B false,.nilS],1,0,none⟩) rfl
     ·exact rfl
     ·exact rfl
     ·intro Tv Ov hc2 hp9 hd9 hk9
      refine WpL.allocStruct tabOk rfl (nid_len _ 0) (by decide) ?_
      apply WpL.putV (p:=0)
      ·exact .ptr (by first|rfl|exact Nat.zero_add _) .nil
      ·exact hp9 0 _ rfl
      ·exact Nat.zero_le _
      ·exact rfl
      ·exact rfl
     ·exact rfl
     ·exact rfl
     apply HeadR.consN (.step 0 ⟨[B e,.nilS],1,0,none⟩) 1000
     ·exact rfl
     ·exact rfl
     ·intro Tv Ov hc2 hp9 hd9 hk9
      obtain ⟨R0,rfl⟩:=split1 (hp9 0 _ rfl)
      refine K.st ?_
      refine WpL.store tabOk rfl rfl rfl rfl rfl rfl rfl rfl (Nat.le_of_ble_eq_true rfl) ?_
      refine WpL.weak (Weak.any1 (d:=1000)) ?_
      exact WpL.nil (Only.mk rfl)
     ·exact rfl
     ·exact rfl
     exact HeadR.nil
    ·exact rfl
    ·exact rfl
    ·exact rfl
    ·exact rfl
    ·exact rfl
    ·exact rfl
    ·exact rfl
    refine WpL.nil ⟨rfl,Weak.mk ?_ ?_ (Nat.zero_le _)⟩
    ·repeat (first
      |exact ReT.nil
      |refine ReT.cons (.keep rfl rfl .nil) ?_
      |refine ReT.cons (.fn rfl .nil) ?_
      |refine ReT.cons (.own rfl rfl rfl rfl rfl rfl .nil) ?_
      |refine ReT.cons (.ptr rfl rfl rfl rfl .nil) ?_
      |refine ReT.cons (.keep (congrArg (fun z=>AV.sc (Value.int .i64 z)) (by first|omega|(skip))) rfl .nil) ?_
      |refine ReT.cons (.keep (congrArg (fun z:List UInt8=>AV.sc (Value.string ⟨z.toArray⟩)) (by skip)) rfl .nil) ?_
      |refine ReT.cons (.own rfl rfl rfl rfl rfl (by first|omega|(simp;done)|(simp;omega)) .nil) ?_)
    ·repeat (first
      |exact ReO.nil
      |refine ReO.cons (Re.same rfl rfl) (.inr rfl) ?_
      |refine ReO.cons (Re.same rfl (still_ints _)) (.inr rfl) ?_
      |refine ReO.cons (Re.same rfl (still_rows (fun _=>rfl) _)) (.inr rfl) ?_
      |refine ReO.cons (.keep rfl rfl (.keep rfl rfl (.own rfl rfl rfl rfl rfl rfl .nil))) (.inr rfl) ?_
      |refine ReO.cons (.keep rfl rfl (.keep rfl rfl (.keep rfl rfl (.keep rfl rfl (.keep rfl rfl (.own rfl rfl rfl rfl rfl rfl (.own rfl rfl rfl rfl rfl rfl .nil))))))) (.inr rfl) ?_)
  clear hei hr0 hr1
  refine goR (r:=?_);and_intros<;>intros<;>try exact True.intro
  all_goals first|contradiction|omega|skip
  refine K.call ?_
  apply WpL.callI (placesOf_c.ok w h q b d L M.length e ⟨by omega,by omega,by omega⟩)
  ·exact snapA
  ·exact locA
  ·exact outA
  ·exact FrzR.one (.own rfl rfl rfl (by rw [rows_len (k:=3) (fun _=>rfl),plsL_len]) rfl (Snap.same rfl (still_rows (fun _=>rfl) _) (nofre_rows (fun _=>rfl) _)) .nil)
  ·decide
  refine goR (r:=?_);and_intros<;>intros<;>try exact True.intro
  all_goals first|contradiction|omega|skip
  have hbl:=encB_len ⟨w,h,q,b,L,F,ch⟩ e M.length c P
  have hbp:=encB_plen ⟨w,h,q,b,L,F,ch⟩ e M.length c P
  have hbs:=encB_snoc ⟨w,h,q,b,L,F,ch⟩ e M.length c P
  have hb0:encB ⟨w,h,q,b,L,F,ch⟩ e M.length c P 0=([],P):=encB_zero ..
  refine WpA.loop (fun i:Nat=>⟨[(2,.fn g [.iptr cs 0]),(3,.ptr 0 0 0),(4,.ptr 1 0 0),(6,.ptr 2 0 0),(7,.ptr 3 0 0),(8,.ptr 5 0 0),(9,.ptr 7 0 0),(10,I ((c+i:Nat):Int)),(12,.ptr 9 0 0),(41,I (cntM w h)),(42,I M.length),(66,.imm 3 (manyE e) (rows plF (plsL w (sz8 e) M.length (manyE e)))),(67,I (manyE e)),(68,I i)],[FrO w h F,OpO q b d L ms es,⟨[I 0,I 0,I 0,B false,B false,.nilS,.nilS],0,0,none⟩,⟨[I 0,I 0,.nilS],0,0,none⟩,XI L,⟨[I w,I h,I q,B b,B d,.own 4 0 0 L.length,.own 8 0 0 M.length],0,0,none⟩,XI (encB ⟨w,h,q,b,L,F,ch⟩ e M.length c P i).2,⟨[I w,I h,.own 6 0 0 P0.length],0,0,none⟩,⟨rows mbF M,0,2,some 82⟩,⟨[B e,.own 10 0 0 i],0,0,none⟩,⟨rows blkF (encB ⟨w,h,q,b,L,F,ch⟩ e M.length c P i).1,0,2,some 84⟩]⟩) (fun i=>i≤manyE e) (fun i=>manyE e-i) 0 (Nat.zero_le _) ?_ (fun i hi=>?_)
  ·rw [hb0];exact Weak.nil1f (by first|(show 0≤_;exact Nat.zero_le _)|(repeat' (first|exact RyT.nil|refine RyT.cons ?_ ?_|exact Ry.nil|refine Ry.keep rfl rfl ?_|refine Ry.own rfl rfl rfl rfl rfl (by first|rfl|omega|(simp;done)) ?_|refine Ry.ptr rfl rfl rfl rfl ?_|refine Ry.nilO rfl rfl rfl (by first|rfl|omega|(simp;done)) ?_|refine Ry.fn rfl ?_|refine Ry.agg ?_ ?_|exact RyO.last rfl|(refine RyO.cons ?_ (.inr rfl) ?_)|exact Ry.same rfl (still_ints _)|exact Ry.same rfl (still_rows (fun _=>rfl) _)))) (by first|(show 0≤_;exact Nat.zero_le _)|(repeat' (first|exact RyT.nil|refine RyT.cons ?_ ?_|exact Ry.nil|refine Ry.keep rfl rfl ?_|refine Ry.own rfl rfl rfl rfl rfl (by first|rfl|omega|(simp;done)) ?_|refine Ry.ptr rfl rfl rfl rfl ?_|refine Ry.nilO rfl rfl rfl (by first|rfl|omega|(simp;done)) ?_|refine Ry.fn rfl ?_|refine Ry.agg ?_ ?_|exact RyO.last rfl|(refine RyO.cons ?_ (.inr rfl) ?_)|exact Ry.same rfl (still_ints _)|exact Ry.same rfl (still_rows (fun _=>rfl) _)))) (Nat.zero_le _)
  have hbl:=hbl i
  have hbp:=hbp i
  have hbs:=hbs i
  by_cases hlt2:i<manyE e
  ·have hpl:=plsL_len w (sz8 e) M.length (manyE e)
   have hpg:(plsL w (sz8 e) M.length (manyE e)).getD i default=plc1 w (sz8 e) M.length i:=by
    unfold plsL
    simp [hlt2]
   obtain ⟨x,y,hxy⟩:∃x y,plc1 w (sz8 e) M.length i=(x,y,sz8 e):=⟨_,_,rfl⟩
   rw [hxy] at hpg hbs
   simp only [chM,chV,nbP] at hbs
   generalize encB ⟨w,h,q,b,L,F,ch⟩ e M.length c P i=Y at*
   obtain ⟨bs,Pi⟩:=Y
   dsimp only at hbl hbp hbs ⊢
   subst hbl
   have hn8:sz8 e=4∨sz8 e=8:=by cases e<;>simp [sz8]
   generalize hsz:sz8 e=n at*
   have hkB:=BlockAt_c.ok w h F x y n (by have:=hF.2.1;omega)
   have hkN:Fn 136 [FrA w h Pi,I x,I y,I n] [XI (topL w h Pi x y n),XI (lefL w h Pi x y n)] (.agg [.own 0 0 0 (topL w h Pi x y n).length,.own 1 0 0 (lefL w h Pi x y n).length,I (corL w h Pi x y n),B (hasT w h Pi x y n),B (hasE w h Pi x y n)]):=NbAt_c.ok w h Pi x y n (by omega)
   have hkb:=blkL_le w h F x y n
   have hkn:=nb_le w h Pi x y n
   generalize blkL w h F x y n=bk at*
   generalize topL w h Pi x y n=tp at*
   generalize lefL w h Pi x y n=lf at*
   generalize corL w h Pi x y n=co at*
   generalize hasT w h Pi x y n=hT at*
   generalize hasE w h Pi x y n=hE at*
   have hgc:=hg (c+bs.length) bk tp lf co hT hE n ⟨by omega,by omega,by omega,by omega⟩
   generalize ch (c+bs.length) bk tp lf co hT hE n=md at*
   have hPl:Pi.length=P0.length:=by omega
   refine goR (r:=?_);and_intros<;>intros<;>try exact True.intro
   all_goals first|contradiction|omega|skip
   rw [hpg]
   dsimp only
   rw [←hPl]
   try dsimp only [List.append,List.cons_append,List.nil_append]
   apply WpA.regionGB 19 mixed (by decide +kernel)
   ·exact rfl
   ·apply HeadG.preF 12 rfl rfl rfl
    ·exact rfl
    ·exact in0
    ·exact rfl
    apply HeadG.preF 12 rfl rfl rfl
    ·exact rfl
    ·exact in0
    ·exact rfl
    apply HeadG.preF 12 rfl rfl rfl
    ·exact rfl
    ·exact in0
    ·exact rfl
    apply HeadG.preF 12 rfl rfl rfl
    ·exact rfl
    ·exact in0
    ·exact rfl
    apply HeadG.preF 12 rfl rfl rfl
    ·exact rfl
    ·exact in0
    ·exact rfl
    apply HeadG.preF 12 rfl rfl rfl
    ·exact rfl
    ·exact in0
    ·exact rfl
    apply HeadG.preF 12 rfl rfl rfl
    ·exact rfl
    ·exact in0
    ·exact rfl
    apply HeadG.precF 0 rfl rfl
    ·exact rfl
    ·intro Tv Ov
     refine K.call ?_
     apply WpL.callI (hkB)
     ·exact snapA
     ·exact locA
     ·exact outA
     ·exact frzA
     ·decide
     ·exact WpL.nil (Only.mk rfl)
    ·exact rfl
    apply HeadG.preF 12 rfl rfl rfl
    ·exact rfl
    ·exact in0
    ·exact rfl
    apply HeadG.preF 12 rfl rfl rfl
    ·exact rfl
    ·exact in0
    ·exact rfl
    apply HeadG.preF 12 rfl rfl rfl
    ·exact rfl
    ·exact in0
    ·exact rfl
    apply HeadG.preF 12 rfl rfl rfl
    ·exact rfl
    ·exact in0
    ·exact rfl
    apply HeadG.preF 12 rfl rfl rfl
    ·exact rfl
    ·exact in0
    ·exact rfl
    apply HeadG.preF 12 rfl rfl rfl
    ·exact rfl
    ·exact in0
    ·exact rfl
    apply HeadG.preF 12 rfl rfl rfl
    ·exact rfl
    ·exact in0
    ·exact rfl
    apply HeadG.precF 12 rfl rfl
    ·exact rfl
    ·intro Tv Ov
     refine K.call ?_
     apply WpL.callI (hkN)
     ·exact snapA
     ·exact locA
     ·exact outA
     ·exact frzA
     ·decide
     ·exact WpL.nil (Only.mk rfl)
    ·exact rfl
    apply HeadG.stepF rfl rfl
    ·exact rfl
    ·exact in1
    ·exact rfl
    apply HeadG.preF 12 rfl rfl rfl
    ·exact rfl
    ·exact in0
    ·exact rfl
    apply HeadG.stepNF rfl
    ·exact rfl
    ·exact in1
    ·exact rfl
    exact Abs.HeadG.nil
   ·exact trueA
   ·exact trueA
   ·exact trueA
   ·exact demA
   ·exact rfl
   ·exact rfl
   refine goR (r:=?_);and_intros<;>intros<;>try exact True.intro
   all_goals first|contradiction|omega|skip
   refine K.callT ?_
   refine WpL.callV0 rfl hgc rfl snapA (.sc .nil) rfl rfl (by decide) ?_
   refine goR (r:=?_);and_intros<;>intros<;>try exact True.intro
   all_goals first|contradiction|omega|skip
   have hkP:=Pred_c.ok md tp lf co hT hE n ⟨by omega,by omega,by omega⟩
   have hpl:=predS_len md tp lf co hT hE n
   have hpl:(predS md tp lf co hT hE n).length≤64:=by
    rw [hpl];split
    ·rcases hn8 with rfl|rfl<;>decide
    ·decide
   generalize predS md tp lf co hT hE n=pr at*
   have hkR:=Residual_c.ok bk pr ⟨by omega,by omega⟩
   have hrl:(resS bk pr).length≤64:=by
    rw [resS_len];split<;>omega
   generalize resS bk pr=rs at*
   have hkL:=LevelsFor_c.ok q b d L ms es rs ⟨by omega,by omega⟩
   have hll:=levL_le b q L rs
   generalize levL b q L rs=lv at*
   have hkU:=PutRef_c.ok w h Pi w h q b d L x y md lv ⟨by omega,by omega⟩
   have hul:=putL_len w h Pi q b x y md lv
   generalize putL w h Pi q b x y md lv=Pu at*
   try dsimp only [List.append,List.cons_append,List.nil_append]
   refine WpA.cut (σ1:=⟨[(2,.fn g [.iptr cs 0]),(3,.ptr 0 0 0),(4,.ptr 1 0 0),(6,.ptr 2 0 0),(7,.ptr 3 0 0),(8,.ptr 5 0 0),(9,.ptr 7 0 0),(14,.ptr 11 0 0),(10,I ((c+bs.length:Nat):Int)),(12,.ptr 9 0 0),(18,.ptr 14 0 0),(41,I (cntM w h)),(42,I M.length),(66,.imm 3 (manyE e) (rows plF (plsL w n M.length (manyE e)))),(67,I (manyE e)),(68,I bs.length)],[FrO w h F,OpO q b d L ms es,⟨[I 0,I 0,I 0,B false,B false,.nilS,.nilS],0,0,none⟩,⟨[I 0,I 0,.nilS],0,0,none⟩,XI L,⟨[I w,I h,I q,B b,B d,.own 4 0 0 L.length,.own 8 0 0 M.length],0,0,none⟩,XI Pi,⟨[I w,I h,.own 6 0 0 Pi.length],0,0,none⟩,⟨rows mbF M,0,2,some 82⟩,⟨[B e,.own 10 0 0 bs.length],0,0,none⟩,⟨rows blkF bs,0,2,some 84⟩,⟨[I x,I y,I n],0,0,none⟩,⟨[IL tp,IL lf,I co,B hT,B hE],0,0,none⟩,XI lv,⟨[I md,.own 13 0 0 lv.length],0,0,none⟩]⟩) ?_ ?_
   ·apply WpA.regionRF (O:=[FrO w h F,OpO q b d L ms es,⟨[I 0,I 0,I 0,B false,B false,.nilS,.nilS],0,0,none⟩,⟨[I 0,I 0,.nilS],0,0,none⟩,XI L,⟨[I w,I h,I q,B b,B d,.own 4 0 0 L.length,.own 8 0 0 M.length],0,0,none⟩,XI Pi,⟨[I w,I h,.own 6 0 0 Pi.length],0,0,none⟩,⟨rows mbF M,0,2,some 82⟩,⟨[B e,.own 10 0 0 bs.length],0,0,none⟩,⟨rows blkF bs,0,2,some 84⟩,⟨[I x,I y,I n],0,0,none⟩,⟨[IL tp,IL lf,I co,B hT,B hE],0,0,none⟩]) (Or:=[]) (O1:=[FrO w h F,OpO q b d L ms es,⟨[I 0,I 0,I 0,B false,B false,.nilS,.nilS],0,0,none⟩,⟨[I 0,I 0,.nilS],0,0,none⟩,XI L,⟨[I w,I h,I q,B b,B d,.own 4 0 0 L.length,.own 8 0 0 M.length],0,0,none⟩,XI Pi,⟨[I w,I h,.own 6 0 0 Pi.length],0,0,none⟩,⟨rows mbF M,0,2,some 82⟩,⟨[B e,.own 10 0 0 bs.length],0,0,none⟩,⟨rows blkF bs,0,2,some 84⟩,⟨[I x,I y,I n],0,0,none⟩,⟨[IL tp,IL lf,I co,B hT,B hE],0,0,none⟩,⟨ints lv,1,1,some 3⟩,⟨[I 0,.nilS],1,0,none⟩,deadO,deadO]) 12 2 [] [] rfl mixed (by decide +kernel)
    ·exact rfl
    ·apply HeadR.consF .none rfl
     ·exact rfl
     ·exact rfl
     ·exact in1
     ·exact rfl
     ·exact rfl
     apply HeadR.consF .none rfl
     ·exact rfl
     ·exact rfl
     ·exact in1
     ·exact rfl
     ·exact rfl
     apply HeadR.consF .none rfl
     ·exact rfl
     ·exact rfl
     ·exact in1
     ·exact rfl
     ·exact rfl
     apply HeadR.consF .none rfl
     ·exact rfl
     ·exact rfl
     ·exact in1
     ·exact rfl
     ·exact rfl
     apply HeadR.consF .none rfl
     ·exact rfl
     ·exact rfl
     ·exact in1
     ·exact rfl
     ·exact rfl
     apply HeadR.consF .none rfl
     ·exact rfl
     ·exact rfl
     ·exact in1
     ·exact rfl
     ·exact rfl
     apply HeadR.consF .none rfl
     ·exact rfl
     ·exact rfl
     ·exact in1
     ·exact rfl
     ·exact rfl
     apply HeadR.consF .none rfl
     ·exact rfl
     ·exact rfl
     ·intro Tv Ov hc2 hp9 hd9 hk9
      refine K.call ?_
      apply WpL.callI (hkP)
      ·exact snapA
      ·exact locA
      ·exact outA
      ·exact frzA
      ·decide
      ·exact WpL.nil (Only.mk rfl)
     ·exact rfl
     ·exact rfl
     apply HeadR.consF .none rfl
     ·exact rfl
     ·exact rfl
     ·intro Tv Ov hc2 hp9 hd9 hk9
      refine K.call ?_
      apply WpL.callI (hkR)
      ·exact snapA
      ·exact locA
      ·exact outA
      ·exact frzA
      ·decide
      ·exact WpL.nil (Only.mk rfl)
     ·exact rfl
     ·exact rfl
     apply HeadR.consF (V:=.own 13 1 0 lv.length) (.put 0 ⟨ints lv,1,1,some 3⟩) rfl
     ·exact rfl
     ·exact rfl
     ·intro Tv Ov hc2 hp9 hd9 hk9
      refine K.call ?_
      refine WpL.callF hkL snapA locA outA (cnt_some _ 0) rfl rfl (by decide) ?_
      rw [Nat.zero_add]
      apply WpL.putV (p:=0)
      ·exact .own (by first|rfl|exact Nat.zero_add _) .nil
      ·exact hp9 0 _ rfl
      ·exact Nat.zero_le _
      ·exact rfl
      ·exact still_ints _
     ·exact rfl
     ·exact rfl
     apply HeadR.consF (V:=.agg [I md,.own 13 1 0 lv.length]) .none rfl
     ·exact rfl
     ·exact rfl
     ·intro Tv Ov hc2 hp9 hd9 hk9
      obtain ⟨R0,rfl⟩:=split1 (hd9 9 _ 0 _ (by decide) rfl rfl rfl)
      exact in1
     ·exact rfl
     ·exact rfl
     apply HeadR.consF (V:=.ptr 14 1 0) (.put 1 ⟨[I 0,.nilS],1,0,none⟩) rfl
     ·exact rfl
     ·exact rfl
     ·intro Tv Ov hc2 hp9 hd9 hk9
      refine WpL.allocStruct tabOk rfl (nid_len _ 0) (by decide) ?_
      apply WpL.putV (p:=1)
      ·exact .ptr (by first|rfl|exact Nat.zero_add _) .nil
      ·exact hp9 1 _ rfl
      ·exact Nat.zero_le _
      ·exact rfl
      ·exact rfl
     ·exact rfl
     ·exact rfl
     exact HeadR.nil
    ·exact rfl
    ·exact rfl
    ·exact rfl
    ·exact rfl
    ·exact rfl
    ·exact rfl
    ·exact rfl
    refine goR (r:=?_);and_intros<;>intros<;>try exact True.intro
    all_goals first|contradiction|omega
   refine goR (r:=?_);and_intros<;>intros<;>try exact True.intro
   all_goals first|contradiction|omega|skip
   refine K.call ?_
   refine WpL.callF hkU snapA locA outA rfl rfl rfl (by decide) ?_
   refine WpL.weak (σ':=⟨[(115,.tup [.agg [I w,I h,.own 6 0 0 Pi.length],.any]),(2,.fn g [.iptr cs 0]),(3,.ptr 0 0 0),(4,.ptr 1 0 0),(6,.ptr 2 0 0),(7,.ptr 3 0 0),(8,.ptr 5 0 0),(9,.ptr 7 0 0),(10,I ((c+bs.length:Nat):Int)),(12,.ptr 9 0 0),(18,.ptr 14 0 0),(41,I (cntM w h)),(42,I M.length),(66,.imm 3 (manyE e) (rows plF (plsL w n M.length (manyE e)))),(67,I (manyE e)),(68,I bs.length)],[FrO w h F,OpO q b d L ms es,⟨[I 0,I 0,I 0,B false,B false,.nilS,.nilS],0,0,none⟩,⟨[I 0,I 0,.nilS],0,0,none⟩,XI L,⟨[I w,I h,I q,B b,B d,.own 4 0 0 L.length,.own 8 0 0 M.length],0,0,none⟩,XI Pu,⟨[I w,I h,.own 15 0 0 Pi.length],0,0,none⟩,⟨rows mbF M,0,2,some 82⟩,⟨[B e,.own 10 0 0 bs.length],0,0,none⟩,⟨rows blkF bs,0,2,some 84⟩,⟨[I x,I y,I n],0,0,none⟩,⟨[IL tp,IL lf,I co,B hT,B hE],0,0,none⟩,XI lv,⟨[I md,.own 13 0 0 lv.length],0,0,none⟩,XI Pi]⟩) (Weak.mv [0,1,2,3,4,5,15,7,8,9,10,11,12,13,14,6] rfl rfl rfl (by repeat (first|exact RvT.nil|refine RvT.cons (.keep rfl rfl .nil) ?_|refine RvT.cons (.fn rfl .nil) ?_|refine RvT.cons (.ptr rfl rfl rfl rfl rfl .nil) ?_|refine RvT.cons (.tup (.agg (.keep rfl rfl (.keep rfl rfl (.own rfl rfl rfl rfl rfl rfl (by first|rfl|omega) .nil))) (.any .nil)) .nil) ?_)) (by repeat (first|exact RvO.nil|refine RvO.cons rfl (Rv.same rfl rfl) (by first|exact .inl rfl|exact .inr rfl) ?_|refine RvO.cons rfl (Rv.same rfl (still_ints _)) (by first|exact .inl rfl|exact .inr rfl) ?_|refine RvO.cons rfl (Rv.same rfl (still_rows (fun _=>rfl) _)) (by first|exact .inl rfl|exact .inr rfl) ?_|refine RvO.cons rfl (.own rfl rfl rfl rfl rfl rfl (by first|rfl|omega) .nil) (by first|exact .inl rfl|exact .inr rfl) ?_|refine RvO.cons rfl (.keep rfl rfl (.own rfl rfl rfl rfl rfl rfl (by first|rfl|omega) .nil)) (by first|exact .inl rfl|exact .inr rfl) ?_|refine RvO.cons rfl (.keep rfl rfl (.keep rfl rfl (.own rfl rfl rfl rfl rfl rfl (by first|rfl|omega) .nil))) (by first|exact .inl rfl|exact .inr rfl) ?_|refine RvO.cons rfl (.keep rfl rfl (.keep rfl rfl (.keep rfl rfl (.keep rfl rfl (.keep rfl rfl (.keep rfl rfl (.own rfl rfl rfl rfl rfl rfl (by first|rfl|omega) .nil))))))) (by first|exact .inl rfl|exact .inr rfl) ?_|refine RvO.cons rfl (.keep rfl rfl (.keep rfl rfl (.keep rfl rfl (.keep rfl rfl (.keep rfl rfl (.own rfl rfl rfl rfl rfl rfl (by first|rfl|omega) (.own rfl rfl rfl rfl rfl rfl (by first|rfl|omega) .nil))))))) (by first|exact .inl rfl|exact .inr rfl) ?_))) ?_
   refine goR (r:=?_);and_intros<;>intros<;>try exact True.intro
   all_goals first|contradiction|omega|(rw [hbs];done)|exact (congrArg Prod.snd hbs).symm|exact (congrArg Prod.fst hbs).symm
  ·obtain rfl:i=manyE e:=by omega
   refine goR (r:=?_);and_intros<;>intros<;>try exact True.intro
   all_goals first|contradiction|omega|(rw [hms];done)|exact (congrArg (fun z=>z.1) hms).symm|exact (congrArg (fun z=>z.2.1) hms).symm|exact (congrArg (fun z=>((z.2.2:Nat):Int)) hms).symm
 ·obtain ek:(cntM w h).toNat=k:=by omega
  rw [ek]
  have hmk:=(hmk).2.1
  generalize encM ⟨w,h,q,b,L,F,ch⟩ (eiF es) P0 k=X at*
  obtain ⟨M,P,c⟩:=X
  dsimp only at hmk hml hmp hmc ⊢
  subst hml
  have hPl:P.length=P0.length:=by omega
  cases d with
  |false=>
   rw [show endL w h q false P=P from rfl]
   refine goR (r:=?_);and_intros<;>intros<;>try exact True.intro
   all_goals first|contradiction|omega|skip
   try dsimp only [List.append,List.cons_append,List.nil_append]
   apply WpA.regionRF (O:=[FrO w h F,OpO q b false L ms es]) (Or:=[⟨[I 0,I 0,I 0,B false,B false,.nilS,.nilS],0,0,none⟩,⟨[I 0,I 0,.nilS],0,0,none⟩,XI L,⟨[I w,I h,I q,B b,B false,.own 4 0 0 L.length,.own 8 0 0 M.length],0,0,none⟩,XI P,⟨[I w,I h,.own 6 0 0 P0.length],0,0,none⟩,⟨rows mbF M,0,2,some 82⟩]) (O1:=[FrO w h F,OpO q b false L ms es,⟨[I w,I h,I q,B b,B false,.own 4 0 0 L.length,.own 8 0 0 M.length],0,0,none⟩,⟨[I w,I h,.own 6 0 0 P0.length],0,0,none⟩,XI L,⟨[I w,I h,I q,B b,B false,.own 4 0 0 L.length,.own 8 0 0 M.length],0,0,none⟩,XI P,⟨[I w,I h,.own 6 0 0 P0.length],0,0,none⟩,⟨rows mbF M,0,2,some 82⟩]) 7 0 [2,3,4,5,6] [] rfl mixed (by decide +kernel)
   ·exact rfl
   ·skip
    apply HeadR.consF (V:=.agg [I w,I h,I q,B b,B false,.own 4 0 0 L.length,.own 8 0 0 M.length]) .none rfl
    ·exact rfl
    ·exact rfl
    ·intro Tv Ov hc2 hp9 hd9 hk9
     obtain ⟨a0,a1,a2,a3,a4,a5,a6,R,rfl⟩:=ov7 (by simpa using hc2)
     have k2:=hk9 2 rfl
     have k3:=hk9 3 rfl
     have k4:=hk9 4 rfl
     have k5:=hk9 5 rfl
     have k6:=hk9 6 rfl
     simp only [List.cons_append,List.nil_append,List.getElem?_cons_succ,List.getElem?_cons_zero,Option.some.injEq] at k2 k3 k4 k5 k6
     subst k2 k3 k4 k5 k6
     exact in1
    ·exact rfl
    ·exact rfl
    apply HeadR.consF (V:=.ptr 5 0 0) .none rfl
    ·exact rfl
    ·exact rfl
    ·intro Tv Ov hc2 hp9 hd9 hk9
     obtain ⟨a0,a1,a2,a3,a4,a5,a6,R,rfl⟩:=ov7 (by simpa using hc2)
     have k2:=hk9 2 rfl
     have k3:=hk9 3 rfl
     have k4:=hk9 4 rfl
     have k5:=hk9 5 rfl
     have k6:=hk9 6 rfl
     simp only [List.cons_append,List.nil_append,List.getElem?_cons_succ,List.getElem?_cons_zero,Option.some.injEq] at k2 k3 k4 k5 k6
     subst k2 k3 k4 k5 k6
     exact in1
    ·exact rfl
    ·exact rfl
    apply HeadR.consF (V:=.agg [I w,I h,I q,B b,B false,.own 4 0 0 L.length]) .none rfl
    ·exact rfl
    ·exact rfl
    ·intro Tv Ov hc2 hp9 hd9 hk9
     obtain ⟨a0,a1,a2,a3,a4,a5,a6,R,rfl⟩:=ov7 (by simpa using hc2)
     have k2:=hk9 2 rfl
     have k3:=hk9 3 rfl
     have k4:=hk9 4 rfl
     have k5:=hk9 5 rfl
     have k6:=hk9 6 rfl
     simp only [List.cons_append,List.nil_append,List.getElem?_cons_succ,List.getElem?_cons_zero,Option.some.injEq] at k2 k3 k4 k5 k6
     subst k2 k3 k4 k5 k6
     exact in1
    ·exact rfl
    ·exact rfl
    apply HeadR.consF (V:=.agg [I w,I h,.own 6 0 0 P0.length]) .none rfl
    ·exact rfl
    ·exact rfl
    ·intro Tv Ov hc2 hp9 hd9 hk9
     obtain ⟨a0,a1,a2,a3,a4,a5,a6,R,rfl⟩:=ov7 (by simpa using hc2)
     have k2:=hk9 2 rfl
     have k3:=hk9 3 rfl
     have k4:=hk9 4 rfl
     have k5:=hk9 5 rfl
     have k6:=hk9 6 rfl
     simp only [List.cons_append,List.nil_append,List.getElem?_cons_succ,List.getElem?_cons_zero,Option.some.injEq] at k2 k3 k4 k5 k6
     subst k2 k3 k4 k5 k6
     exact in1
    ·exact rfl
    ·exact rfl
    apply HeadR.consF (V:=.agg [I w,I h,.own 6 0 0 P0.length]) .none rfl
    ·exact rfl
    ·exact rfl
    ·intro Tv Ov hc2 hp9 hd9 hk9
     obtain ⟨a0,a1,a2,a3,a4,a5,a6,R,rfl⟩:=ov7 (by simpa using hc2)
     have k2:=hk9 2 rfl
     have k3:=hk9 3 rfl
     have k4:=hk9 4 rfl
     have k5:=hk9 5 rfl
     have k6:=hk9 6 rfl
     simp only [List.cons_append,List.nil_append,List.getElem?_cons_succ,List.getElem?_cons_zero,Option.some.injEq] at k2 k3 k4 k5 k6
     subst k2 k3 k4 k5 k6
     refine K.call ?_
     refine WpL.callId (endedId w h) (.agg (.any (.any (.any (.any (.keep rfl rfl (.any .nil)))))) .nil) rfl rfl rfl (by decide) ?_
     exact WpL.nil (Only.mk rfl)
    ·exact rfl
    ·exact rfl
    apply HeadR.consN (.step 0 ⟨[I w,I h,I q,B b,B false,.own 4 0 0 L.length,.own 8 0 0 M.length],0,0,none⟩) 1000
    ·exact rfl
    ·exact rfl
    ·intro Tv Ov hc2 hp9 hd9 hk9
     obtain ⟨a0,a1,a2,a3,a4,a5,a6,R,rfl⟩:=ov7 (by simpa using hc2)
     have k2:=hk9 2 rfl
     have k3:=hk9 3 rfl
     have k4:=hk9 4 rfl
     have k5:=hk9 5 rfl
     have k6:=hk9 6 rfl
     simp only [List.cons_append,List.nil_append,List.getElem?_cons_succ,List.getElem?_cons_zero,Option.some.injEq] at k2 k3 k4 k5 k6
     subst k2 k3 k4 k5 k6
     have k0:a0=(⟨[I 0,I 0,I 0,B false,B false,.nilS,.nilS],0,0,none⟩:AObj):=Option.some.inj (hp9 0 _ rfl)
     subst k0
     refine K.st ?_
     refine WpL.store tabOk rfl rfl rfl rfl rfl rfl rfl rfl (Nat.le_of_ble_eq_true rfl) ?_
     refine WpL.weak (Weak.any1 (d:=1000)) ?_
     exact WpL.nil (Only.mk rfl)
    ·exact rfl
    ·exact rfl
    apply HeadR.consN (.step 1 ⟨[I w,I h,.own 6 0 0 P0.length],0,0,none⟩) 1001
    ·exact rfl
    ·exact rfl
    ·intro Tv Ov hc2 hp9 hd9 hk9
     obtain ⟨a0,a1,a2,a3,a4,a5,a6,R,rfl⟩:=ov7 (by simpa using hc2)
     have k2:=hk9 2 rfl
     have k3:=hk9 3 rfl
     have k4:=hk9 4 rfl
     have k5:=hk9 5 rfl
     have k6:=hk9 6 rfl
     simp only [List.cons_append,List.nil_append,List.getElem?_cons_succ,List.getElem?_cons_zero,Option.some.injEq] at k2 k3 k4 k5 k6
     subst k2 k3 k4 k5 k6
     have k0:a1=(⟨[I 0,I 0,.nilS],0,0,none⟩:AObj):=Option.some.inj (hp9 1 _ rfl)
     subst k0
     refine K.st ?_
     refine WpL.store tabOk rfl rfl rfl rfl rfl rfl rfl rfl (Nat.le_of_ble_eq_true rfl) ?_
     refine WpL.weak (Weak.any1 (d:=1001)) ?_
     exact WpL.nil (Only.mk rfl)
    ·exact rfl
    ·exact rfl
    exact HeadR.nil
   ·exact rfl
   ·exact rfl
   ·exact rfl
   ·exact rfl
   ·exact rfl
   ·exact rfl
   ·exact rfl
   refine goR (r:=?_);and_intros<;>intros<;>try exact True.intro
   all_goals first|contradiction|omega
  |true=>
   have hdl:=dbL_len w h q P
   rw [show endL w h q true P=dbL w h q P from rfl]
   refine goR (r:=?_);and_intros<;>intros<;>try exact True.intro
   all_goals first|contradiction|omega|skip
   try dsimp only [List.append,List.cons_append,List.nil_append]
   apply WpA.regionRF (O:=[FrO w h F,OpO q b true L ms es]) (Or:=[⟨[I 0,I 0,I 0,B false,B false,.nilS,.nilS],0,0,none⟩,⟨[I 0,I 0,.nilS],0,0,none⟩,XI L,⟨[I w,I h,I q,B b,B true,.own 4 0 0 L.length,.own 8 0 0 M.length],0,0,none⟩,XI P,⟨[I w,I h,.own 6 0 0 P0.length],0,0,none⟩,⟨rows mbF M,0,2,some 82⟩]) (O1:=[FrO w h F,OpO q b true L ms es,⟨[I w,I h,I q,B b,B true,.own 4 0 0 L.length,.own 8 0 0 M.length],0,0,none⟩,⟨[I w,I h,.own 9 1 0 P.length],0,0,none⟩,XI L,⟨[I w,I h,I q,B b,B true,.own 4 0 0 L.length,.own 8 0 0 M.length],0,0,none⟩,XI P,⟨[I w,I h,.own 6 0 0 P0.length],0,0,none⟩,⟨rows mbF M,0,2,some 82⟩,⟨ints (dbL w h q P),1,1,none⟩,deadO]) 7 1 [2,3,4,5,6] [] rfl mixed (by decide +kernel)
   ·exact rfl
   ·skip
    apply HeadR.consF (V:=.agg [I w,I h,I q,B b,B true,.own 4 0 0 L.length,.own 8 0 0 M.length]) .none rfl
    ·exact rfl
    ·exact rfl
    ·intro Tv Ov hc2 hp9 hd9 hk9
     obtain ⟨a0,a1,a2,a3,a4,a5,a6,a7,R,rfl⟩:=ov8 (by simpa using hc2)
     have k2:=hk9 2 rfl
     have k3:=hk9 3 rfl
     have k4:=hk9 4 rfl
     have k5:=hk9 5 rfl
     have k6:=hk9 6 rfl
     simp only [List.cons_append,List.nil_append,List.getElem?_cons_succ,List.getElem?_cons_zero,Option.some.injEq] at k2 k3 k4 k5 k6
     subst k2 k3 k4 k5 k6
     exact in1
    ·exact rfl
    ·exact rfl
    apply HeadR.consF (V:=.ptr 5 0 0) .none rfl
    ·exact rfl
    ·exact rfl
    ·intro Tv Ov hc2 hp9 hd9 hk9
     obtain ⟨a0,a1,a2,a3,a4,a5,a6,a7,R,rfl⟩:=ov8 (by simpa using hc2)
     have k2:=hk9 2 rfl
     have k3:=hk9 3 rfl
     have k4:=hk9 4 rfl
     have k5:=hk9 5 rfl
     have k6:=hk9 6 rfl
     simp only [List.cons_append,List.nil_append,List.getElem?_cons_succ,List.getElem?_cons_zero,Option.some.injEq] at k2 k3 k4 k5 k6
     subst k2 k3 k4 k5 k6
     exact in1
    ·exact rfl
    ·exact rfl
    apply HeadR.consF (V:=.agg [I w,I h,I q,B b,B true,.own 4 0 0 L.length]) .none rfl
    ·exact rfl
    ·exact rfl
    ·intro Tv Ov hc2 hp9 hd9 hk9
     obtain ⟨a0,a1,a2,a3,a4,a5,a6,a7,R,rfl⟩:=ov8 (by simpa using hc2)
     have k2:=hk9 2 rfl
     have k3:=hk9 3 rfl
     have k4:=hk9 4 rfl
     have k5:=hk9 5 rfl
     have k6:=hk9 6 rfl
     simp only [List.cons_append,List.nil_append,List.getElem?_cons_succ,List.getElem?_cons_zero,Option.some.injEq] at k2 k3 k4 k5 k6
     subst k2 k3 k4 k5 k6
     exact in1
    ·exact rfl
    ·exact rfl
    apply HeadR.consF (V:=.agg [I w,I h,.own 6 0 0 P0.length]) .none rfl
    ·exact rfl
    ·exact rfl
    ·intro Tv Ov hc2 hp9 hd9 hk9
     obtain ⟨a0,a1,a2,a3,a4,a5,a6,a7,R,rfl⟩:=ov8 (by simpa using hc2)
     have k2:=hk9 2 rfl
     have k3:=hk9 3 rfl
     have k4:=hk9 4 rfl
     have k5:=hk9 5 rfl
     have k6:=hk9 6 rfl
     simp only [List.cons_append,List.nil_append,List.getElem?_cons_succ,List.getElem?_cons_zero,Option.some.injEq] at k2 k3 k4 k5 k6
     subst k2 k3 k4 k5 k6
     exact in1
    ·exact rfl
    ·exact rfl
    apply HeadR.consF (V:=.agg [I w,I h,.own 9 1 0 P.length]) (.put 7 ⟨ints (dbL w h q P),1,1,none⟩) rfl
    ·exact rfl
    ·exact rfl
    ·intro Tv Ov hc2 hp9 hd9 hk9
     obtain ⟨a0,a1,a2,a3,a4,a5,a6,a7,R,rfl⟩:=ov8 (by simpa using hc2)
     have k2:=hk9 2 rfl
     have k3:=hk9 3 rfl
     have k4:=hk9 4 rfl
     have k5:=hk9 5 rfl
     have k6:=hk9 6 rfl
     simp only [List.cons_append,List.nil_append,List.getElem?_cons_succ,List.getElem?_cons_zero,Option.some.injEq] at k2 k3 k4 k5 k6
     subst k2 k3 k4 k5 k6
     refine K.call ?_
     refine WpL.callF (ended1 w h w h q b L P (by omega)) snapA locA outA (cnt_some _ 0) rfl rfl (by decide) ?_
     rw [Nat.zero_add]
     apply WpL.putV (p:=7)
     ·exact .agg (.keep rfl rfl (.keep rfl rfl (.own (by first|rfl|exact Nat.zero_add _) .nil))) .nil
     ·exact hp9 7 _ rfl
     ·exact Nat.zero_le _
     ·exact rfl
     ·exact still_ints _
    ·exact rfl
    ·exact rfl
    apply HeadR.consN (.step 0 ⟨[I w,I h,I q,B b,B true,.own 4 0 0 L.length,.own 8 0 0 M.length],0,0,none⟩) 1000
    ·exact rfl
    ·exact rfl
    ·intro Tv Ov hc2 hp9 hd9 hk9
     obtain ⟨a0,a1,a2,a3,a4,a5,a6,a7,R,rfl⟩:=ov8 (by simpa using hc2)
     have k2:=hk9 2 rfl
     have k3:=hk9 3 rfl
     have k4:=hk9 4 rfl
     have k5:=hk9 5 rfl
     have k6:=hk9 6 rfl
     simp only [List.cons_append,List.nil_append,List.getElem?_cons_succ,List.getElem?_cons_zero,Option.some.injEq] at k2 k3 k4 k5 k6
     subst k2 k3 k4 k5 k6
     have k0:a0=(⟨[I 0,I 0,I 0,B false,B false,.nilS,.nilS],0,0,none⟩:AObj):=Option.some.inj (hp9 0 _ rfl)
     subst k0
     refine K.st ?_
     refine WpL.store tabOk rfl rfl rfl rfl rfl rfl rfl rfl (Nat.le_of_ble_eq_true rfl) ?_
     refine WpL.weak (Weak.any1 (d:=1000)) ?_
     exact WpL.nil (Only.mk rfl)
    ·exact rfl
    ·exact rfl
    apply HeadR.consN (.step 1 ⟨[I w,I h,.own 9 1 0 P.length],0,0,none⟩) 1001
    ·exact rfl
    ·exact rfl
    ·intro Tv Ov hc2 hp9 hd9 hk9
     obtain ⟨a0,a1,a2,a3,a4,a5,a6,a7,R,rfl⟩:=ov8 (by simpa using hc2)
     have k2:=hk9 2 rfl
     have k3:=hk9 3 rfl
     have k4:=hk9 4 rfl
     have k5:=hk9 5 rfl
     have k6:=hk9 6 rfl
     simp only [List.cons_append,List.nil_append,List.getElem?_cons_succ,List.getElem?_cons_zero,Option.some.injEq] at k2 k3 k4 k5 k6
     subst k2 k3 k4 k5 k6
     have k0:a1=(⟨[I 0,I 0,.nilS],0,0,none⟩:AObj):=Option.some.inj (hp9 1 _ rfl)
     subst k0
     have k7:=hd9 4 _ 7 _ (by decide) rfl rfl rfl
     simp only [List.cons_append,List.nil_append,List.getElem?_cons_succ,List.getElem?_cons_zero,Option.some.injEq] at k7
     subst k7
     refine K.st ?_
     refine WpL.store tabOk rfl rfl rfl rfl rfl rfl rfl rfl (Nat.le_of_ble_eq_true rfl) ?_
     refine WpL.weak (Weak.any1 (d:=1001)) ?_
     exact WpL.nil (Only.mk rfl)
    ·exact rfl
    ·exact rfl
    exact HeadR.nil
   ·exact rfl
   ·exact rfl
   ·exact rfl
   ·exact rfl
   ·exact rfl
   ·exact rfl
   ·exact rfl
   refine goR (r:=?_);and_intros<;>intros<;>try exact True.intro
   all_goals first|contradiction|omega
end
end Go.Proofs.YtainhhfnnclfiaaGreat


namespace Go.Abs
open Go
section
variable {P:Program} {n m:Nat} {G:Ctx} {T:List (Nat×AV)} {O:List AObj} {Q:Exit→St→Prop} {ops:Array Oper} {l:List Oper} {d:Nat} {tt:TypeId} {pos:String} {after:Array Edge}
theorem Rel.freezeP {a:Act} {w:World} {id ep off:Nat} {ob:AObj} {cs:List AV} (ho:O[id]?=some ob) (hm:m≤id) (hep:ob.ep=ep) (hcs:ob.cells=cs) (hst:cs.all AV.still=true) (hnf:cs.all AV.nofre=true) (hM:∀b,¬G.M0 b)
 (hr:Rel n m G ⟨(d,.ptr id ep off)::T,O⟩ a w):Rel n m G ⟨(d,.iptr cs off)::T,O.set id ⟨[],ep+1,0,none⟩⟩ a w:=by
 subst hcs hep
 obtain ⟨S,ι,F,hr⟩:=hr
 have hidl:id<O.length:=(List.getElem?_eq_some_iff.1 ho).1
 have hset:∀i:Nat,(O.set id ⟨[],ob.ep+1,0,none⟩)[i]?=if i=id then some ⟨[],ob.ep+1,0,none⟩ else O[i]?:=by
  intro i
  rw [List.getElem?_set]
  by_cases e:id=i
  ·subst e;rw [if_pos rfl,if_pos rfl,if_pos hidl]
  ·rw [if_neg e,if_neg (fun h=>e h.symm)]
 have hob:=hr.objs.obj id ob ho
 let S2:Nat→Prop:=fun b=>S b∨∃k,ι id=some (b,k)
 let ι2:Nat→Spot:=fun i=>if i=id then none else ι i
 let F2:Nat→List Nat:=fun i=>if i=id then [] else F i
 have hblk:∀b k,ι id=some (b,k)→b∈F id:=by
  intro b k hs
  unfold ObjAt at hob
  rw [hs] at hob
  obtain ⟨cur,t,fz,f',h1,_⟩:=hob
  rw [h1];simp
 have hlat:Later S w ι O S2 w ι2 (O.set id ⟨[],ob.ep+1,0,none⟩):=by
  refine ⟨fun b h=>.inl h,fun b _=>rfl,fun i obi hi=>?_⟩
  by_cases e:i=id
  ·subst e
   rw [ho] at hi;cases hi
   exact ⟨⟨[],ob.ep+1,0,none⟩,by rw [hset,if_pos rfl],.inl (Nat.lt_succ_self _)⟩
  ·exact ⟨obi,by rw [hset,if_neg e];exact hi,.inr ⟨rfl,rfl,if_neg e⟩⟩
 have hlen:(O.set id ⟨[],ob.ep+1,0,none⟩).length=O.length:=List.length_set
 refine ⟨S2,ι2,F2,hr.defers,hr.size,fun t=>?_,⟨fun i obi hi=>?_,fun i hi=>?_,fun i j hi hj hij b hb=>?_⟩,fun i hi b hb=>?_,⟨fun b hb=>.inl (hr.base.1 b hb),?_⟩,?_,hr.keeps,fun i hi=>?_,?_⟩
 ·have ht:=hr.tmps t
  by_cases e:d=t
  ·subst e
   have ht:VRel S w ι O (look ((d,.ptr id ob.ep off)::T) d) (a.tmps.getD d undef) []:=ht
   show VRel S2 w ι2 _ (look ((d,.iptr ob.cells off)::T) d) _ _
   rw [look_cons_same] at ht ⊢
   generalize a.tmps.getD d undef=x at ht
   cases ht with
   |ptr q1 q2 q3 r=>
    cases r
    rw [ho] at q1;cases q1
    have hc:=q3 rfl
    unfold ObjAt at hob
    cases hs:ι id with
    |none=>
     rw [hs] at hc
     exact hc.elim
    |some p=>
     obtain ⟨b,k⟩:=p
     rw [hs] at hc hob
     obtain ⟨cur,t,fz,f',hF,hh,_,_,_,_,hl'⟩:=hob
     have hf':=nofre_all hl' hnf
     subst hf'
     have hc:x=.pointer (some ⟨b,0+off,none⟩):=by rw [Nat.zero_add];exact hc
     subst hc
     refine .iptr (us:=cur.toList.take ob.cells.length) (.inr ⟨k,hs⟩) (fun i hi=>cell_of_heap hh _ i hi) ?_ .nil
     exact still_all hst hl' (fun b h=>.inl h) (fun _ _=>rfl) (fun _ _=>rfl)
  ·have ht:VRel S w ι O (look ((d,.ptr id ob.ep off)::T) t) (a.tmps.getD t undef) []:=ht
   show VRel S2 w ι2 _ (look ((d,.iptr ob.cells off)::T) t) _ _
   rw [look_cons_other _ _ _ _ e] at ht ⊢
   exact ht.mono hlat (fun _ _=>rfl)
 ·have hi:(O.set id ⟨[],ob.ep+1,0,none⟩)[i]?=some obi:=hi
  rw [hset] at hi
  by_cases e:i=id
  ·subst e
   rw [if_pos rfl] at hi;cases hi
   show ObjAt S2 w ι2 _ _ (if i=i then none else ι i) (if i=i then [] else F i)
   rw [if_pos rfl,if_pos rfl]
   exact ⟨rfl,rfl⟩
  ·rw [if_neg e] at hi
   have h0:=hr.objs.obj i obi hi
   show ObjAt S2 w ι2 _ obi (if i=id then none else ι i) (if i=id then [] else F i)
   rw [if_neg e,if_neg e]
   unfold ObjAt at h0 ⊢
   cases hs:ι i with
   |none=>rw [hs] at h0;exact h0
   |some p=>
    obtain ⟨b,k⟩:=p
    rw [hs] at h0
    obtain ⟨cur',t',fz',f2,h1,h2,h3,h4,h5,h6,h7⟩:=h0
    exact ⟨cur',t',fz',f2,h1,h2,h3,h4,h5,h6,h7.mono hlat (fun _ _=>rfl)⟩
 ·have hi:i<(O.set id ⟨[],ob.ep+1,0,none⟩).length:=hi
  show (if i=id then [] else F i).Nodup
  split
  ·exact List.nodup_nil
  ·exact hr.objs.nodup i (by rw [hlen] at hi;exact hi)
 ·have hi:i<(O.set id ⟨[],ob.ep+1,0,none⟩).length:=hi
  have hj:j<(O.set id ⟨[],ob.ep+1,0,none⟩).length:=hj
  rw [hlen] at hi hj
  have hb:b∈(if i=id then [] else F i):=hb
  show b ∉ (if j=id then [] else F j)
  split at hb
  ·cases hb
  ·split
   ·simp
   ·exact hr.objs.apart i j hi hj hij b hb
 ·have hi:i<(O.set id ⟨[],ob.ep+1,0,none⟩).length:=hi
  rw [hlen] at hi
  have hb:b∈(if i=id then [] else F i):=hb
  split at hb
  ·cases hb
  ·rename_i e
   obtain ⟨q1,q2,q3⟩:=hr.foot i hi b hb
   refine ⟨q1,?_,q3⟩
   rintro (h'|⟨k,h'⟩)
   ·exact q2 h'
   ·exact hr.objs.apart i id hi hidl e b hb (hblk b k h')
 ·rintro b (h'|⟨k,h'⟩)
  ·exact hr.base.2 b h'
  ·have hf:=hr.foot id hidl b (hblk b k h')
   rcases hf.1 with h1|h1
   ·exact absurd h1 (hM b)
   ·exact .inr h1
 ·rintro b (h'|⟨k,h'⟩)
  ·exact hr.stable b h'
  ·exact (hr.foot id hidl b (hblk b k h')).2.2
 ·show (if i=id then none else ι i)=_
  rw [if_neg (by omega)];exact hr.spots i hi
 ·show m≤(O.set id ⟨[],ob.ep+1,0,none⟩).length
  rw [hlen];exact hr.mle
theorem WpA.freezeP {c:Code} {id ep off:Nat} {ob:AObj} {cs:List AV} (hM:∀b,¬G.M0 b) (ho:O[id]?=some ob) (hm:m≤id) (hep:ob.ep=ep) (hcs:ob.cells=cs) (hst:cs.all AV.still=true) (hnf:cs.all AV.nofre=true)
 (h:WpA P n m G c ⟨(d,.iptr cs off)::T,O.set id ⟨[],ep+1,0,none⟩⟩ Q):WpA P n m G c ⟨(d,.ptr id ep off)::T,O⟩ Q:=
 fun a w hr=>h a w (Rel.freezeP ho hm hep hcs hst hnf hM hr)
theorem KeepL.fnEnd {S:Nat→Prop} {w:World} {ι ι':Nat→Spot} {vs us:List AV} {g:Nat} {cs:List AV} (h:KeepL vs us):∀{xs f},LRel S w ι O (vs++[.fn g [.iptr cs 0]]) xs f→LRel S w ι' [] (us++[.fn g [.iptr cs 0]]) xs []:=by
 induction h with
 |nil=>
  intro xs f hl
  cases hl with
  |fn a r=>cases r;exact .fn (simple_allI a rfl) .nil
 |any _ ih=>
  intro xs f hl
  obtain ⟨v,vs',f1,f2,rfl,hv,hr,rfl⟩:=hl.uncons
  exact .any (ih hr)
 |keep hs hn _ ih=>
  intro xs f hl
  obtain ⟨v,vs',f1,f2,rfl,hv,hr,rfl⟩:=hl.uncons
  have:=nofre_nil hv hn
  subst this
  have:=LRel.cons (still_any hv hs [] (fun _ h=>h) (fun _ _=>rfl) (by simp)) (ih hr)
  simpa using this
 |@agg ds es vs us h1 _ _ ih2=>
  intro xs f hl
  obtain ⟨v,vs',f1,f2,rfl,hv,hr,rfl⟩:=hl.uncons
  obtain ⟨us',rfl,ha⟩:=LRel.agg_inv hv
  have:=LRel.agg (h1.rel ha) (ih2 hr)
  simpa using this
theorem WpL.callKF {f:FuncId} {xs:List Operand} {ats:Array TypeId} {As:List AV} {r:AV} (hc:FnC P f As [] r) (hs:∀{S:Nat→Prop} {w:World} {ι:Nat→Spot} {us:List Value} {f:List Nat},LRel S w ι O (xs.map (av T)) us f→LRel S w (fun _=>none) [] As us []) (hn:d<n) (h:WpL P n m G false ops l ⟨(d,r)::T,O⟩ Q):
 WpL P n m G false ops ({dst:=some d,op:=.call {callee:=.value (.func f),args:=xs.toArray,argTypes:=ats},type:=tt,pos:=pos,after:=after,guard:=none}::l) ⟨T,O⟩ Q:=
 WpL.op rfl (fun a w hr=>by
  obtain ⟨S,ι,F,hr⟩:=hr
  obtain ⟨⟨fn,hf,hb,hnm⟩,hcall⟩:=hc
  have hl:LRel S w (fun _=>none) [] As (xs.map a.eval) []:=hs (hr.evals xs)
  have hex:(execOp a.eval {dst:=some d,op:=.call {callee:=.value (.func f),args:=xs.toArray,argTypes:=ats},type:=tt,pos:=pos,after:=after,guard:=none}).run P w=.ok (.enter f (xs.map a.eval).toArray) w:=by
   simp only [execOp,resolve,Act.eval,Deferred.ofValue,invoke,callFunc,Sem.run_bind,Sem.run_pure,Result.andThen_ok,program,Sem.run,hf,hnm,hb,Bool.false_eq_true,if_false]
   simp
  unfold Oper.wp
  rw [hex]
  refine (hcall w S (xs.map a.eval) hr.stable hl).mono fun e w' he=>?_
  obtain ⟨v,S',ι',F',rfl,hS1,hS2,hS3,hO',hF',hv,hk⟩:=he
  show Rel n m G ⟨(d,r)::T,O⟩ (a.put (some d) v) w'
  have hold:∀b,b<w.heap.size→w'.heap[b]?=w.heap[b]?:=fun b hb=>hk.block b hb (fun h=>h)
  have hlat:Later S w ι O S' w' ι O:=⟨hS1,fun b hb=>hold b (hr.stable b hb),fun id ob h=>⟨ob,h,.inr ⟨rfl,rfl,rfl⟩⟩⟩
  have hrel:RelAt n m G S' ι F ⟨T,O⟩ a w':=by
   refine ⟨hr.defers,hr.size,fun t=>(hr.tmps t).mono hlat (by simp),⟨fun id ob h=>?_,hr.objs.nodup,hr.objs.apart⟩,fun id h b hb=>?_,⟨fun b hb=>hS1 b (hr.base.1 b hb),fun b hb=>?_⟩,hS3,?_,hr.spots,hr.mle⟩
   ·have h:O[id]?=some ob:=h
    have hlt:id<O.length:=(List.getElem?_eq_some_iff.1 h).1
    have ho:=hr.objs.obj id ob h
    unfold ObjAt at ho ⊢
    cases hs:ι id with
    |none=>rw [hs] at ho;exact ho
    |some p=>
     obtain ⟨b,k⟩:=p
     rw [hs] at ho
     obtain ⟨cur',t',fz',f2,h1,h2,h3,h4,h5,h6,h7⟩:=ho
     have key:∀b',b'∈F id→w'.heap[b']?=w.heap[b']?:=fun b' hb'=>hold b' (hr.foot id hlt b' hb').2.2
     exact ⟨cur',t',fz',f2,h1,by rw [key b (by rw [h1];simp)];exact h2,h3,h4,h5,h6,h7.mono hlat fun b' hb'=>key b' (by rw [h1];simp [hb'])⟩
   ·obtain ⟨q1,q2,q3⟩:=hr.foot id h b hb
    refine ⟨q1,fun h'=>?_,by have:=hk.size;omega⟩
    rcases hS2 b h' with h2|h2
    ·exact q2 h2
    ·omega
   ·rcases hS2 b hb with h2|h2
    ·exact hr.base.2 b h2
    ·exact .inr (by have:=hr.keeps.size;omega)
   ·exact ⟨hk.os.trans hr.keeps.os,hk.tape.trans hr.keeps.tape,hk.output.trans hr.keeps.output,by have:=hr.keeps.size;have:=hk.size;omega,fun b hb hM=>by
     rw [hold b (by have:=hr.keeps.size;omega)];exact hr.keeps.block b hb hM⟩
  exact ⟨S',ι,F,hrel.put hn (hv.mono (Later.none O (fun _ h=>h) (fun _ _=>rfl)) (by simp))⟩) h
end
end Go.Abs


namespace Go.Proofs.YtainhhfnnclfiaaGreat
open Go Go.Abs
attribute [local irreducible] WpA WpL Rnd Blk Abs.Seq Abs.Fin Abs.FinG FnC FnG Only
def prB (p:Int×Int):List Int:=ueL p.1++ueL (nolL p.2)
def bkK (m:Int) (lv lens:List Int) (k:Nat):List Int:=(symL lens m++[1]++ueL ((prsL lv).length-1))++((prsL lv).take k).flatMap prB
def bkL (m:Int) (lv lens:List Int) (n:Int):List Int:=if BlkOk m lv lens n then (if (prsL lv).length=0 then symL lens m++[0] else bkK m lv lens (prsL lv).length) else []
end Go.Proofs.YtainhhfnnclfiaaGreat


namespace Go.Proofs.YtainhhfnnclfiaaGreat
open Go Go.Abs
attribute [local irreducible] WpA WpL Rnd Blk Abs.Seq Abs.Fin Abs.FinG FnC FnG Only
def mbK (e:Bool) (bs:List Blok) (lens:List Int) (k:Nat):List Int:=[bif e then 1 else 0]++(bs.take k).flatMap fun b=>bkL b.1 b.2 lens (sz8 e)
def mbbL (e:Bool) (bs:List Blok) (lens:List Int):List Int:=if MbkOk e bs lens then mbK e bs lens bs.length else []
def hdB (w h q:Int) (b d:Bool):List Int:=bitsL 183 8++ueL (w/8-1)++ueL (h/8-1)++bitsL q 6++[bif b then 1 else 0,bif d then 1 else 0]
def hdK (w h q:Int) (b d:Bool) (l:List Int) (k:Nat):List Int:=hdB w h q b d++(l.take k).flatMap fun n=>bitsL n 3
def hdL (w h q:Int) (b d:Bool) (l:List Int):List Int:=if HdOk w h q l then hdK w h q b d l l.length else []
end Go.Proofs.YtainhhfnnclfiaaGreat


namespace Go.Proofs.YtainhhfnnclfiaaGreat
open Go Go.Abs
attribute [local irreducible] WpA WpL Rnd Blk Abs.Seq Abs.Fin Abs.FinG FnC FnG Only
attribute [local irreducible] bitsL ueL
end Go.Proofs.YtainhhfnnclfiaaGreat
