/- Proved in this text: lemmas and contracts of functions that the claim uses (parts: PredL, RecL, Best, AbsXk, AbsEq, AbsFl, AbsYr). No condition. -/
import Derived.Test.YtainhhfnnclfiaaGreatBsM10
import Derived.Test.YtainhhfnnclfiaaGreatBsM7
import Derived.Laws.StructEq
set_option linter.unusedVariables false
set_option linter.unusedSimpArgs false
set_option maxRecDepth 100000
set_option maxHeartbeats 16000000


namespace Go.Proofs.YtainhhfnnclfiaaGreat
open Go Go.Abs
abbrev PF (m:Int) (t l:List Int) (c:Int) (a b:Bool) (n:Nat) (i:Nat):Int:=predL m t l c a b n ((i%n:Nat):Int) ((i/n:Nat):Int)
def prK (m:Int) (t l:List Int) (c:Int) (a b:Bool) (n k:Nat):List Int:=(List.range k).map (PF m t l c a b n)
theorem prK_len (m:Int) (t l:List Int) (c:Int) (a b:Bool) (n k:Nat):(prK m t l c a b n k).length=k:=by simp [prK]
theorem prK_snoc (m:Int) (t l:List Int) (c:Int) (a b:Bool) (n k:Nat):prK m t l c a b n (k+1)=prK m t l c a b n k++[PF m t l c a b n k]:=by simp [prK,List.range_succ]
def predS (m:Int) (t l:List Int) (c:Int) (a b:Bool) (n:Int):List Int:=if NbOk t l c n∧0≤m∧m≤5 then prK m t l c a b n.toNat (n.toNat*n.toNat) else []
theorem mod_div_in {n i:Nat} (h:i<n*n):i%n<n∧i/n<n:=by
 have hn:0<n:=by rcases Nat.eq_zero_or_pos n with rfl|h0
                 ·simp at h
                 ·exact h0
 exact ⟨Nat.mod_lt _ hn,Nat.div_lt_of_lt_mul h⟩
theorem pred_in {m:Int} {t l:List Int} {c:Int} (a b:Bool) {n x y:Int} (h:NbOk t l c n) (hm:0≤m∧m≤5) (hx:0≤x∧x≤n-1) (hy:0≤y∧y≤n-1):0≤predL m t l c a b n x y∧predL m t l c a b n x y≤255:=by
 unfold predL
 rw [if_pos ⟨h,hx,hy⟩]
 have hme:=mean_in a b h
 have hbl:=bord_len h
 have hbi:=bord_in h
 obtain ⟨h1,h2,h3,h4,h5,h6⟩:=h
 have g1:=in_get h4 (k:=x.toNat) (by omega)
 have g2:=in_get h5 (k:=y.toNat) (by omega)
 have g3:=in_get h4 (k:=(x+y).toNat) (by omega)
 have g4:=in_get h4 (k:=(min (2*n-1) (x+y+1)).toNat) (by omega)
 have g5:=in_get h4 (k:=(min (2*n-1) (x+y+2)).toNat) (by omega)
 have g6:=in_get hbi (k:=(x-y+n-1).toNat) (by omega)
 have g7:=in_get hbi (k:=(x-y+n).toNat) (by omega)
 have g8:=in_get hbi (k:=(x-y+n+1).toNat) (by omega)
 have s1:=soft_in ⟨g3,g4,g5⟩
 have s2:=soft_in ⟨g6,g7,g8⟩
 repeat' split
 all_goals omega
theorem predS_len (m:Int) (t l:List Int) (c:Int) (a b:Bool) (n:Int):(predS m t l c a b n).length=if NbOk t l c n∧0≤m∧m≤5 then n.toNat*n.toNat else 0:=by
 unfold predS;split
 ·rw [prK_len]
 ·rfl
theorem predS_in (m:Int) (t l:List Int) (c:Int) (a b:Bool) (n:Int):In (predS m t l c a b n) 0 255:=by
 unfold predS;split
 ·rename_i h
  have h1:=h.1.1
  unfold In prK
  intro v hv
  obtain ⟨i,hi,rfl⟩:=List.mem_map.1 hv
  have hi:=List.mem_range.1 hi
  have hmd:=mod_div_in hi
  have e:((n.toNat:Nat):Int)=n:=by omega
  have hx1:((i%n.toNat:Nat):Int)≤n-1:=by have:=Int.ofNat_lt.2 hmd.1;rw [e] at this;exact Int.le_sub_one_of_lt this
  have hy1:((i/n.toNat:Nat):Int)≤n-1:=by have:=Int.ofNat_lt.2 hmd.2;rw [e] at this;exact Int.le_sub_one_of_lt this
  have:=pred_in a b (x:=((i%n.toNat:Nat):Int)) (y:=((i/n.toNat:Nat):Int)) h.1 h.2 ⟨Int.natCast_nonneg _,hx1⟩ ⟨Int.natCast_nonneg _,hy1⟩
  unfold PF;rw [e];exact this
 ·unfold In;intro v hv;cases hv
def rsK (f p:List Int) (k:Nat):List Int:=(List.range k).map fun i=>f.getD i 0-p.getD i 0
theorem rsK_len (f p:List Int) (k:Nat):(rsK f p k).length=k:=by simp [rsK]
theorem rsK_snoc (f p:List Int) (k:Nat):rsK f p (k+1)=rsK f p k++[f.getD k 0-p.getD k 0]:=by simp [rsK,List.range_succ]
def ResOk (f p:List Int):Prop:=(f.length=16∨f.length=64)∧p.length=f.length∧In f 0 255∧In p 0 255
instance (f p:List Int):Decidable (ResOk f p):=by unfold ResOk;infer_instance
def resS (f p:List Int):List Int:=if ResOk f p then rsK f p f.length else []
theorem resS_len (f p:List Int):(resS f p).length=if ResOk f p then f.length else 0:=by
 unfold resS;split
 ·rw [rsK_len]
 ·rfl
theorem resS_small (f p:List Int):(resS f p).length≤64:=by
 rw [resS_len];split
 ·rename_i h;have:=h.1;omega
 ·omega
def bmS (l t le:List Int) (c:Int) (a b:Bool) (n:Int) (lens:List Int):Nat→Int×Int
 |0=>(-1,0)
 |m+1=>if HasC lens m then
   (if (bmS l t le c a b n lens m).1<0∨costs (resS l (predS m t le c a b n))<(bmS l t le c a b n lens m).2 then ((m:Int),costs (resS l (predS m t le c a b n))) else bmS l t le c a b n lens m)
  else bmS l t le c a b n lens m
def BmOk (l t le:List Int) (c n:Int):Prop:=NbOk t le c n∧(l.length:Int)=n*n∧In l 0 255
instance (l t le:List Int) (c n:Int):Decidable (BmOk l t le c n):=by unfold BmOk;infer_instance
def bestM (l t le:List Int) (c:Int) (a b:Bool) (n:Int) (lens:List Int):Int:=if BmOk l t le c n then (bmS l t le c a b n lens 6).1 else -1
theorem bm_bd (l t le:List Int) (c:Int) (a b:Bool) (n:Int) (lens:List Int):∀m:Nat,-1≤(bmS l t le c a b n lens m).1∧(bmS l t le c a b n lens m).1<m∧0≤(bmS l t le c a b n lens m).2∧(bmS l t le c a b n lens m).2≤64000000
 |0=>by simp [bmS]
 |m+1=>by
  have h:=bm_bd l t le c a b n lens m
  have hc:=costs_bd (resS l (predS m t le c a b n))
  have hl:=resS_small l (predS m t le c a b n)
  rw [bmS]
  split
  ·split
   ·simp only;omega
   ·omega
  ·omega
end Go.Proofs.YtainhhfnnclfiaaGreat


namespace Go.Proofs.YtainhhfnnclfiaaGreat
open Go Go.Abs
theorem tab_in {f:Nat→Int} {lo hi:Int} {N:Nat} (h:∀i,i<N→lo≤f i∧f i≤hi):In (tabL f N) lo hi:=by
 unfold In tabL
 intro v hv
 obtain ⟨i,hi,rfl⟩:=List.mem_map.1 hv
 exact h i (by simpa using hi)
abbrev Fits (W H:Int) (p:List Int) (x y n:Int):Prop:=FrameOk W H p∧(n=4∨n=8)∧(0≤x∧x≤W-n)∧(0≤y∧y≤H-n)∧x%n=0∧y%n=0
theorem ix_in {W H:Int} {p:List Int} (h:FrameOk W H p) {a b:Int} (ha:0≤a∧a≤H-1) (hb:0≤b∧b≤W-1):0≤a*W∧a*W+b<p.length∧a*W≤1024:=by
 obtain ⟨⟨h1,h2,h3,h4,_⟩,h5,_⟩:=h
 have e1:0≤a*W:=Int.mul_nonneg ha.1 (by omega)
 have e2:a*W≤(H-1)*W:=Int.mul_le_mul_of_nonneg_right ha.2 (by omega)
 have e3:(H-1)*W=W*H-W:=by rw [Int.sub_mul,Int.one_mul,Int.mul_comm]
 have e4:W*H≤32*32:=Int.mul_le_mul h2 h4 (by omega) (by omega)
 omega
abbrev pxI (W x y n:Int) (i:Nat):Int:=(y+(i:Int)/n)*W+x+(i:Int)%n
theorem px_in {W H:Int} {p:List Int} {x y n:Int} (h:Fits W H p x y n) {i:Nat} (hi:(i:Int)<n*n):(0≤(i:Int)/n∧(i:Int)/n≤n-1∧0≤(i:Int)%n∧(i:Int)%n≤n-1)∧0≤(y+(i:Int)/n)*W∧(y+(i:Int)/n)*W≤1024∧0≤pxI W x y n i∧pxI W x y n i<p.length:=by
 obtain ⟨h0,h1,hx,hy,_⟩:=h
 have e:0≤(i:Int)/n∧(i:Int)/n≤n-1∧0≤(i:Int)%n∧(i:Int)%n≤n-1:=by rcases h1 with rfl|rfl<;>omega
 have:=ix_in h0 (a:=y+(i:Int)/n) (b:=x+(i:Int)%n) (by omega) (by omega)
 unfold pxI
 omega
def blkV (W:Int) (p:List Int) (x y n:Int) (i:Nat):Int:=p.getD (pxI W x y n i).toNat 0
def blkL (W H:Int) (p:List Int) (x y n:Int):List Int:=if Fits W H p x y n then tabL (blkV W p x y n) (n*n).toNat else []
theorem blkL_le (W H:Int) (p:List Int) (x y n:Int):(blkL W H p x y n).length≤64:=by
 unfold blkL;split
 ·rename_i h
  rw [tabL_len]
  rcases h.2.1 with rfl|rfl<;>decide
 ·simp
def setK (W x y n:Int) (l p:List Int):Nat→List Int
 |0=>p
 |k+1=>(setK W x y n l p k).set (pxI W x y n k).toNat (l.getD k 0)
theorem setK_len (W x y n:Int) (l p:List Int):∀k,(setK W x y n l p k).length=p.length
 |0=>rfl
 |k+1=>by rw [setK,List.length_set];exact setK_len W x y n l p k
theorem setK_in {W x y n:Int} {l p:List Int} (hl:In l 0 255) (hp:In p 0 255):∀k,In (setK W x y n l p k) 0 255
 |0=>hp
 |k+1=>in_setV (setK_in hl hp k) (in_getZ255 hl k) _
abbrev SetOk (W H:Int) (p:List Int) (x y:Int) (l:List Int):Prop:=Fits W H p x y (side l.length)∧In l 0 255
def setL (W H:Int) (p:List Int) (x y:Int) (l:List Int):List Int:=if SetOk W H p x y l then setK W x y (side l.length) l p l.length else p
theorem setL_len (W H:Int) (p:List Int) (x y:Int) (l:List Int):(setL W H p x y l).length=p.length:=by
 unfold setL;split
 ·exact setK_len ..
 ·rfl
theorem setL_ok {W H:Int} {p:List Int} {x y:Int} {l:List Int} (h:FrameOk W H p):FrameOk W H (setL W H p x y l):=by
 refine ⟨h.1,by rw [setL_len];exact h.2.1,?_⟩
 unfold setL;split
 ·rename_i hs;exact setK_in hs.2 h.2.2 _
 ·exact h.2.2
def topF (W:Int) (p:List Int) (x y n:Int):Nat→Int
 |0=>if y=0 then 128 else p.getD ((y-1)*W+x+(0:Nat)).toNat 0
 |i+1=>if y=0 then 128 else if ((i+1:Nat):Int)<n∨(y%8=0∧x+(i+1:Nat)<W) then p.getD ((y-1)*W+x+(i+1:Nat)).toNat 0 else topF W p x y n i
def lefF (W:Int) (p:List Int) (x y:Int) (i:Nat):Int:=if 0<x then p.getD ((y+(i:Int))*W+x-1).toNat 0 else 128
def topL (W H:Int) (p:List Int) (x y n:Int):List Int:=if Fits W H p x y n then tabL (topF W p x y n) (2*n).toNat else []
def lefL (W H:Int) (p:List Int) (x y n:Int):List Int:=if Fits W H p x y n then tabL (lefF W p x y) n.toNat else []
def corL (W H:Int) (p:List Int) (x y n:Int):Int:=if Fits W H p x y n then (if 0<x∧0<y then p.getD ((y-1)*W+x-1).toNat 0 else 128) else 0
def hasT (W H:Int) (p:List Int) (x y n:Int):Bool:=decide (Fits W H p x y n∧0<y)
def hasE (W H:Int) (p:List Int) (x y n:Int):Bool:=decide (Fits W H p x y n∧0<x)
theorem topF_in {W:Int} {p:List Int} (hp:In p 0 255) (x y n:Int):∀i,0≤topF W p x y n i∧topF W p x y n i≤255
 |0=>by
  rw [topF];split
  ·omega
  ·exact in_getZ255 hp _
 |i+1=>by
  rw [topF];split
  ·omega
  ·split
   ·exact in_getZ255 hp _
   ·exact topF_in hp x y n i
theorem lefF_in {W:Int} {p:List Int} (hp:In p 0 255) (x y:Int) (i:Nat):0≤lefF W p x y i∧lefF W p x y i≤255:=by
 unfold lefF;split
 ·exact in_getZ255 hp _
 ·omega
theorem nb_le (W H:Int) (p:List Int) (x y n:Int):(topL W H p x y n).length≤16∧(lefL W H p x y n).length≤8:=by
 unfold topL lefL
 split
 ·rename_i h
  rw [tabL_len,tabL_len]
  rcases h.2.1 with rfl|rfl<;>decide
 ·simp
theorem nb_ok {W H:Int} {p:List Int} {x y n:Int} (h:Fits W H p x y n):NbOk (topL W H p x y n) (lefL W H p x y n) (corL W H p x y n) n:=by
 have hp:=h.1.2.2
 unfold topL lefL corL
 rw [if_pos h,if_pos h,if_pos h]
 refine ⟨h.2.1,by rw [tabL_len];rcases h.2.1 with rfl|rfl<;>decide,by rw [tabL_len];rcases h.2.1 with rfl|rfl<;>decide,tab_in fun i _=>topF_in hp x y n i,tab_in fun i _=>lefF_in hp x y i,?_⟩
 split
 ·exact in_getZ255 hp _
 ·omega
abbrev TwoOk (p r:List Int):Prop:=0<side p.length∧p.length=r.length∧In p 0 255
def recF (p r:List Int) (i:Nat):Int:=max 0 (min 255 (p.getD i 0+max (-1000000) (min 1000000 (r.getD i 0))))
def recL (p r:List Int):List Int:=if TwoOk p r then tabL (recF p r) p.length else []
theorem recL_in (p r:List Int):In (recL p r) 0 255:=by
 unfold recL;split
 ·exact tab_in fun i _=>by unfold recF;omega
 ·exact in_nil 0 255
theorem recL_len (p r:List Int):(recL p r).length=if TwoOk p r then p.length else 0:=by
 unfold recL;split
 ·exact tabL_len ..
 ·rfl
abbrev PutOk (W H:Int) (p:List Int) (q x y m:Int) (lv:List Int):Prop:=Fits W H p x y (side lv.length)∧(LvOk lv∧0<stepL q)∧0≤m∧m≤5
def nbP (W H:Int) (p:List Int) (x y n m:Int):List Int:=predS m (topL W H p x y n) (lefL W H p x y n) (corL W H p x y n) (hasT W H p x y n) (hasE W H p x y n) n
def putL (W H:Int) (p:List Int) (q:Int) (b:Bool) (x y m:Int) (lv:List Int):List Int:=if PutOk W H p q x y m lv then setL W H p x y (recL (nbP W H p x y (side lv.length) m) (resL b q lv)) else p
theorem putL_len (W H:Int) (p:List Int) (q:Int) (b:Bool) (x y m:Int) (lv:List Int):(putL W H p q b x y m lv).length=p.length:=by
 unfold putL;split
 ·exact setL_len ..
 ·rfl
theorem putL_ok {W H:Int} {p:List Int} {q:Int} {b:Bool} {x y m:Int} {lv:List Int} (h:FrameOk W H p):FrameOk W H (putL W H p q b x y m lv):=by
 unfold putL;split
 ·exact setL_ok h
 ·exact h
theorem resL_len {b:Bool} {q:Int} {l:List Int} (h:LvOk l∧0<stepL q):(resL b q l).length=l.length:=by
 have h1:=plcL_len2 h.1.2
 unfold resL
 rw [if_pos h]
 split
 ·exact h1
 ·have hs:scaL (plcL l) q=tabL (scaF (plcL l) q) (plcL l).length:=by unfold scaL;rw [if_pos ⟨plcL_ok h.1,h.2⟩]
  have hl:(scaL (plcL l) q).length=l.length:=by rw [hs,tabL_len,h1]
  have hsq:(side l.length).toNat*(side l.length).toNat=l.length:=by
   rcases h.1.2 with e|e
   ·have e4:side l.length=4:=by rw [e];rfl
    rw [e4,e];rfl
   ·have e8:side l.length=8:=by rw [e];rfl
    rw [e8,e];rfl
  have ht:(trL (side l.length) true (scaL (plcL l) q)).length=l.length:=by
   unfold trL
   rw [prodL_len,if_pos ⟨by rw [hl,hsq],scaL_fit _ _⟩,hsq]
  unfold rndL
  rw [if_pos (by rw [ht];exact (side_pos _).2 h.1.2),List.length_map,ht]
theorem put_two {W H:Int} {p:List Int} {q x y m:Int} {b:Bool} {lv:List Int} (h:PutOk W H p q x y m lv):TwoOk (nbP W H p x y (side lv.length) m) (resL b q lv)∧(nbP W H p x y (side lv.length) m).length=lv.length:=by
 obtain ⟨h1,h2,h3⟩:=h
 have hn:=nb_ok h1
 have hl:(nbP W H p x y (side lv.length) m).length=lv.length:=by
  unfold nbP
  rw [predS_len,if_pos ⟨hn,h3⟩]
  rcases h2.1.2 with e|e<;>rw [e]<;>rfl
 refine ⟨⟨?_,?_,?_⟩,hl⟩
 ·rw [hl];exact (side_pos _).2 h2.1.2
 ·rw [hl,resL_len h2]
 ·exact predS_in _ _ _ _ _ _ _
theorem put_set {W H:Int} {p:List Int} {q x y m:Int} {b:Bool} {lv:List Int} (h:PutOk W H p q x y m lv):SetOk W H p x y (recL (nbP W H p x y (side lv.length) m) (resL b q lv)):=by
 have ht:=put_two (b:=b) h
 refine ⟨?_,recL_in _ _⟩
 rw [recL_len,if_pos ht.1,ht.2];exact h.1
end Go.Proofs.YtainhhfnnclfiaaGreat


namespace Go.Proofs.YtainhhfnnclfiaaGreat
open Go Go.Abs
attribute [local irreducible] WpA WpL Rnd Blk Abs.Seq Abs.Fin Abs.FinG FnC FnG Only
instance Pred_s:Con 50 (∀ (m:Int) (t l:List Int) (c:Int) (a b:Bool) (n:Int),t.length≤1099511627776∧l.length≤1099511627776∧-9223372036854775807≤n→Fn 50 [I m,NbA t l c a b,I n] [XI (predS m t l c a b n)] (.own 0 0 0 (predS m t l c a b n).length)):=⟨fun m t l c a b n hl=>by
 have hnw:=modeW_nil m
 by_cases h:NbOk t l c n∧0≤m∧m≤5
 ·obtain ⟨h0,hm⟩:=id h
  have h1:=h0.1
  have hnw2:¬modeW m=[]:=fun hh=>(hnw.1 hh) hm
  rcases h1 with rfl|rfl
  ·have e:predS m t l c a b 4=prK m t l c a b 4 16:=by rw [predS,if_pos h];rfl
   refine FnC.of_body tabOk Tryz.func50 Tryz.ntmps50 rfl (by decide +kernel) (by simp) fun G=>?_
   refine go (r:=?_);and_intros<;>intros<;>try exact True.intro
   refine WpA.loop (fun y:Nat=>⟨[(0,I m),(2,I 4),(4,.ptr 0 0 0),(7,.own 1 0 0 (y*4)),(8,I y)],[NbO t l c a b,XI (prK m t l c a b 4 (y*4))]⟩) (fun y=>y≤4) (fun y=>4-y) 0 (by omega) (go (r:=?_)) (fun y hy=>?_)
   ·simp [prK]
   refine go (r:=?_);and_intros<;>intros<;>try exact True.intro
   ·refine WpA.loop (fun x:Nat=>⟨[(0,I m),(2,I 4),(4,.ptr 0 0 0),(7,.own 1 0 0 (y*4+x)),(8,I y),(9,I x)],[NbO t l c a b,XI (prK m t l c a b 4 (y*4+x))]⟩) (fun x=>x≤4) (fun x=>4-x) 0 (by omega) (go (r:=?_)) (fun x hx=>?_)
    ·trivial
    have hkl:=prK_len m t l c a b 4 (y*4+x)
    have hpf:x<4→predL m t l c a b 4 x y=PF m t l c a b 4 (y*4+x):=by intro hh;unfold PF;congr 1<;>omega
    refine go (r:=?_);and_intros<;>intros<;>try exact True.intro
    ·rw [show y*4+(x+1)=(y*4+x)+1 by omega,prK_snoc,hpf (by omega)]
    all_goals have ex:x=4:=by omega
    all_goals subst ex
    all_goals first|omega|(congr 1;omega)
   all_goals have ey:y=4:=by omega
   all_goals subst ey
   all_goals rw [e]
   rw [prK_len]
  ·have e:predS m t l c a b 8=prK m t l c a b 8 64:=by rw [predS,if_pos h];rfl
   refine FnC.of_body tabOk Tryz.func50 Tryz.ntmps50 rfl (by decide +kernel) (by simp) fun G=>?_
   refine go (r:=?_);and_intros<;>intros<;>try exact True.intro
   refine WpA.loop (fun y:Nat=>⟨[(0,I m),(2,I 8),(4,.ptr 0 0 0),(7,.own 1 0 0 (y*8)),(8,I y)],[NbO t l c a b,XI (prK m t l c a b 8 (y*8))]⟩) (fun y=>y≤8) (fun y=>8-y) 0 (by omega) (go (r:=?_)) (fun y hy=>?_)
   ·simp [prK]
   refine go (r:=?_);and_intros<;>intros<;>try exact True.intro
   ·refine WpA.loop (fun x:Nat=>⟨[(0,I m),(2,I 8),(4,.ptr 0 0 0),(7,.own 1 0 0 (y*8+x)),(8,I y),(9,I x)],[NbO t l c a b,XI (prK m t l c a b 8 (y*8+x))]⟩) (fun x=>x≤8) (fun x=>8-x) 0 (by omega) (go (r:=?_)) (fun x hx=>?_)
    ·trivial
    have hkl:=prK_len m t l c a b 8 (y*8+x)
    have hpf:x<8→predL m t l c a b 8 x y=PF m t l c a b 8 (y*8+x):=by intro hh;unfold PF;congr 1<;>omega
    refine go (r:=?_);and_intros<;>intros<;>try exact True.intro
    ·rw [show y*8+(x+1)=(y*8+x)+1 by omega,prK_snoc,hpf (by omega)]
    all_goals have ex:x=8:=by omega
    all_goals subst ex
    all_goals first|omega|(congr 1;omega)
   all_goals have ey:y=8:=by omega
   all_goals subst ey
   all_goals rw [e]
   rw [prK_len]
 ·have e:predS m t l c a b n=[]:=by rw [predS,if_neg h]
  refine FnC.of_body tabOk Tryz.func50 Tryz.ntmps50 rfl (by decide +kernel) (by simp) fun G=>?_
  refine go (r:=?_);and_intros<;>intros<;>try exact True.intro
  refine WpA.loop (fun y:Nat=>⟨[(0,I m),(2,I n),(4,.ptr 0 0 0),(7,.own 1 0 0 0),(8,I 0)],[NbO t l c a b,XI []]⟩) (fun y=>y≤0) (fun y=>0) 0 (by omega) (go (r:=trivial)) (fun y hy=>?_)
  by_cases h0:NbOk t l c n
  ·have h3:modeW m=[]:=hnw.2 fun hm=>h ⟨h0,hm⟩
   refine go (r:=?_);and_intros<;>intros<;>try exact True.intro
   all_goals first|(rw [e];done)|(rw [e];rfl)
  ·refine go (r:=?_);and_intros<;>intros<;>try exact True.intro
   all_goals first|(rw [e];done)|(rw [e];rfl)⟩
instance Pred_c:Con 113 (∀ (m:Int) (t l:List Int) (c:Int) (a b:Bool) (n:Int),t.length≤1099511627776∧l.length≤1099511627776∧-9223372036854775807≤n→Fn 113 [I m,NbA t l c a b,I n] [XI (predS m t l c a b n)] (.own 0 0 0 (predS m t l c a b n).length)):=⟨fun m t l c a b n hl=>by
 by_cases h:NbOk t l c n∧0≤m∧m≤5
 ·obtain ⟨h0,hm⟩:=id h
  have h1:=h0.1
  rcases h1 with rfl|rfl
  ·have e:predS m t l c a b 4=prK m t l c a b 4 16:=by rw [predS,if_pos h];rfl
   refine FnC.of_body tabOk Tryz.func113 Tryz.ntmps113 rfl (by decide +kernel) (by simp) fun G=>?_
   refine go (r:=?_);and_intros<;>intros<;>try exact True.intro
   refine WpA.loop (fun k:Nat=>⟨[(0,I m),(2,I 4),(4,.ptr 0 0 0),(7,.own 1 0 0 k),(21,I 16),(22,I k)],[NbO t l c a b,XI (prK m t l c a b 4 k)]⟩) (fun k=>k≤16) (fun k=>16-k) 0 (by omega) (go (r:=?_)) (fun k hk=>?_)
   ·simp [prK]
   have hkl:=prK_len m t l c a b 4 k
   refine go (r:=?_);and_intros<;>intros<;>try exact True.intro
   ·rw [prK_snoc];rfl
   all_goals have ey:k=16:=by omega
   all_goals subst ey
   all_goals rw [e]
   rw [prK_len]
  ·have e:predS m t l c a b 8=prK m t l c a b 8 64:=by rw [predS,if_pos h];rfl
   refine FnC.of_body tabOk Tryz.func113 Tryz.ntmps113 rfl (by decide +kernel) (by simp) fun G=>?_
   refine go (r:=?_);and_intros<;>intros<;>try exact True.intro
   refine WpA.loop (fun k:Nat=>⟨[(0,I m),(2,I 8),(4,.ptr 0 0 0),(7,.own 1 0 0 k),(21,I 64),(22,I k)],[NbO t l c a b,XI (prK m t l c a b 8 k)]⟩) (fun k=>k≤64) (fun k=>64-k) 0 (by omega) (go (r:=?_)) (fun k hk=>?_)
   ·simp [prK]
   have hkl:=prK_len m t l c a b 8 k
   refine go (r:=?_);and_intros<;>intros<;>try exact True.intro
   ·rw [prK_snoc];rfl
   all_goals have ey:k=64:=by omega
   all_goals subst ey
   all_goals rw [e]
   rw [prK_len]
 ·have e:predS m t l c a b n=[]:=by rw [predS,if_neg h]
  refine FnC.of_body tabOk Tryz.func113 Tryz.ntmps113 rfl (by decide +kernel) (by simp) fun G=>?_
  refine go (r:=?_);and_intros<;>intros<;>try exact True.intro
  all_goals first|(exact absurd ⟨‹_›,‹_›⟩ h)|(rw [e];done)|(rw [e];rfl)⟩
instance l19Two_s:Con 118 (∀ p f:List Int,p.length≤1099511627776∧f.length≤1099511627776→Fn 118 [IL p,IL f] [] (B (decide (0<side p.length∧p.length=f.length∧In p 0 255)))):=⟨fun p f hl=>by
 refine FnC.of_body tabOk Tryz.func118 Tryz.ntmps118 rfl (by decide +kernel) (by simp) fun G=>?_
 refine go (r:=?_);and_intros<;>intros<;>try exact True.intro
 all_goals first|(rw [Bool.eq_iff_iff];simp_all;omega)|(simp_all;omega)|simp_all⟩
instance Residual_s:Con 49 (∀ f p:List Int,f.length≤1099511627776∧p.length≤1099511627776→Fn 49 [IL f,IL p] [XI (resS f p)] (.own 0 0 0 (resS f p).length)):=⟨fun f p hl=>by
 have hsp:=side_pos p.length
 by_cases h:ResOk f p
 ·obtain ⟨h1,h2,h3,h4⟩:=id h
  have h5:0<side p.length∧p.length=f.length∧In p 0 255:=⟨hsp.2 (by omega),h2,h4⟩
  refine FnC.of_body tabOk Tryz.func49 Tryz.ntmps49 rfl (by decide +kernel) (by simp) fun G=>?_
  refine go (r:=?_);and_intros<;>intros<;>try exact True.intro
  refine WpA.loop (fun k:Nat=>⟨[(0,IL f),(1,IL p),(5,.own 0 0 0 k),(6,I k)],[XI (rsK f p k)]⟩) (fun k=>k≤p.length) (fun k=>p.length-k) 0 (by omega) (go (r:=?_)) (fun k hk=>?_)
  ·simp [rsK]
  have hkl:=rsK_len f p k
  have g1:=fun hh=>in_get h3 (k:=k) hh
  have g2:=fun hh=>in_get h4 (k:=k) hh
  refine go (r:=?_);and_intros<;>intros<;>try exact True.intro
  ·rw [rsK_snoc]
  all_goals have e:k=f.length:=by omega
  all_goals subst e
  ·rw [resS_len,if_pos h]
  ·rw [resS,if_pos h]
 ·have e:resS f p=[]:=by rw [resS,if_neg h]
  have e2:resS f p=[]:=e
  have hno:∀(h5:0<side p.length∧p.length=f.length∧In p 0 255),¬In f 0 255:=fun h5 h6=>h ⟨by have:=hsp.1 h5.1;omega,h5.2.1,h6,h5.2.2⟩
  refine FnC.of_body tabOk Tryz.func49 Tryz.ntmps49 rfl (by decide +kernel) (by simp) fun G=>?_
  refine go (r:=?_);and_intros<;>intros<;>try exact True.intro
  refine WpA.loop (fun k:Nat=>⟨[(0,IL f),(1,IL p),(5,.own 0 0 0 0),(6,I 0)],[XI []]⟩) (fun k=>k≤0) (fun k=>0) 0 (by omega) (go (r:=trivial)) (fun k hk=>?_)
  by_cases h5:0<side p.length∧p.length=f.length∧In p 0 255
  ·have h6:=hno h5
   refine go (r:=?_);and_intros<;>intros<;>try exact True.intro
   all_goals first|(rw [e];done)|(rw [e];rfl)
  ·refine go (r:=?_);and_intros<;>intros<;>try exact True.intro
   all_goals first|(rw [e];done)|(rw [e];rfl)⟩
instance Residual_c:Con 112 (∀ f p:List Int,f.length≤1099511627776∧p.length≤1099511627776→Fn 112 [IL f,IL p] [XI (resS f p)] (.own 0 0 0 (resS f p).length)):=⟨fun f p hl=>by
 have hsd:=side_cases f.length
 by_cases h:ResOk f p
 ·obtain ⟨h1,h2,h3,h4⟩:=id h
  refine FnC.of_body tabOk Tryz.func112 Tryz.ntmps112 rfl (by decide +kernel) (by simp) fun G=>?_
  refine go (r:=?_);and_intros<;>intros<;>try exact True.intro
  refine WpA.loop (fun k:Nat=>⟨[(1,IL p),(5,.own 0 0 0 k),(30,IL f),(31,I f.length),(32,I k)],[XI (rsK f p k)]⟩) (fun k=>k≤f.length) (fun k=>f.length-k) 0 (by omega) (go (r:=?_)) (fun k hk=>?_)
  ·simp [rsK]
  have hkl:=rsK_len f p k
  have g1:=fun hh=>in_get h3 (k:=k) hh
  have g2:=fun hh=>in_get h4 (k:=k) hh
  refine go (r:=?_);and_intros<;>intros<;>try exact True.intro
  ·rw [rsK_snoc]
  all_goals have e:k=f.length:=by omega
  all_goals subst e
  ·rw [resS_len,if_pos h]
  ·rw [resS,if_pos h]
 ·have e:resS f p=[]:=by rw [resS,if_neg h]
  refine FnC.of_body tabOk Tryz.func112 Tryz.ntmps112 rfl (by decide +kernel) (by simp) fun G=>?_
  refine go (r:=?_);and_intros<;>intros<;>try exact True.intro
  all_goals first|(rw [e];done)|(rw [e];rfl)|(exact absurd ⟨by omega,by omega,‹_›,‹_›⟩ h)⟩
instance BestMode_s:Con 47 (∀ (l t le:List Int) (c:Int) (a b:Bool) (n:Int) (lens:List Int),l.length≤1099511627776∧t.length≤1099511627776∧le.length≤1099511627776∧lens.length≤1099511627776→Fn 47 [IL l,NbA t le c a b,I n,IL lens] [] (I (bestM l t le c a b n lens))):=⟨fun l t le c a b n lens hl=>by
 by_cases h:BmOk l t le c n
 ·obtain ⟨h0,h2,h3⟩:=id h
  have h1:=h0.1
  have hnn:0≤n*n∧n*n≤64:=by rcases h1 with rfl|rfl<;>decide
  have hl64:l.length≤64:=by omega
  refine FnC.of_body tabOk Tryz.func47 Tryz.ntmps47 rfl (by decide +kernel) (by simp) fun G=>?_
  refine go (r:=?_);and_intros<;>intros<;>try exact True.intro
  all_goals first|(exact absurd h0 ‹¬ NbOk t le c n›)|(exact absurd h3 ‹¬ In l 0 255›)|skip
  refine WpA.loop (fun m:Nat=>⟨[(0,IL l),(2,I n),(3,IL lens),(5,.ptr 0 0 0),(9,I (bmS l t le c a b n lens m).1),(10,I (bmS l t le c a b n lens m).2),(11,I m)],[NbO t le c a b]⟩) (fun m=>m≤6) (fun m=>6-m) 0 (by omega) (go (r:=?_)) (fun m hm=>?_)
  ·simp [bmS]
  have hb:=bm_bd l t le c a b n lens m
  have hb1:=bm_bd l t le c a b n lens (m+1)
  have hsl:=symL_pos lens m
  have hc:=costs_bd (resS l (predS m t le c a b n))
  have hrl:=resS_small l (predS m t le c a b n)
  have hpl:=predS_len m t le c a b n
  have hpl2:(predS m t le c a b n).length≤64:=by
   rw [hpl];split
   ·rcases h1 with rfl|rfl<;>decide
   ·omega
  have hst:=bmS.eq_2 l t le c a b n lens m
  by_cases hh:HasC lens m
  ·rw [if_pos hh] at hst
   have hsl2:=hsl.2 hh
   by_cases h5:(bmS l t le c a b n lens m).1<0∨costs (resS l (predS m t le c a b n))<(bmS l t le c a b n lens m).2
   ·rw [if_pos h5] at hst
    refine go (r:=?_);and_intros<;>intros<;>try exact True.intro
    all_goals first|(rw [hst];done)|(exfalso;omega)|skip
    all_goals (have e:m=6:=by omega);subst e;rw [bestM,if_pos h]
   ·rw [if_neg h5] at hst
    refine go (r:=?_);and_intros<;>intros<;>try exact True.intro
    all_goals first|(rw [hst];done)|(exfalso;omega)|skip
    all_goals (have e:m=6:=by omega);subst e;rw [bestM,if_pos h]
  ·rw [if_neg hh] at hst
   have hsl2:¬0<(symL lens m).length:=fun h=>hh (hsl.1 h)
   refine go (r:=?_);and_intros<;>intros<;>try exact True.intro
   all_goals first|(rw [hst];done)|(exfalso;omega)|skip
   all_goals (have e:m=6:=by omega);subst e;rw [bestM,if_pos h]
 ·have e:bestM l t le c a b n lens=-1:=by rw [bestM,if_neg h]
  by_cases h0:NbOk t le c n
  ·have h1:=h0.1
   have hnn:0≤n*n∧n*n≤64:=by rcases h1 with rfl|rfl<;>decide
   have h8:∀h7:(l.length:Int)=n*n,¬In l 0 255:=fun h7 h6=>h ⟨h0,h7,h6⟩
   by_cases h7:(l.length:Int)=n*n
   ·have h9:=h8 h7
    refine FnC.of_body tabOk Tryz.func47 Tryz.ntmps47 rfl (by decide +kernel) (by simp) fun G=>?_
    refine go (r:=?_);and_intros<;>intros<;>try exact True.intro
    all_goals first|(rw [e];done)|(exfalso;omega)
   ·refine FnC.of_body tabOk Tryz.func47 Tryz.ntmps47 rfl (by decide +kernel) (by simp) fun G=>?_
    refine go (r:=?_);and_intros<;>intros<;>try exact True.intro
    all_goals first|(rw [e];done)|(exfalso;omega)
  ·refine FnC.of_body tabOk Tryz.func47 Tryz.ntmps47 rfl (by decide +kernel) (by simp) fun G=>?_
   refine go (r:=?_);and_intros<;>intros<;>try exact True.intro
   all_goals first|(rw [e];done)|(exfalso;omega)⟩
instance BestMode_c:Con 46 (∀ (l t le:List Int) (c:Int) (a b:Bool) (n:Int) (lens:List Int),l.length≤1099511627776∧t.length≤1099511627776∧le.length≤1099511627776∧lens.length≤1099511627776→Fn 46 [IL l,NbA t le c a b,I n,IL lens] [] (I (bestM l t le c a b n lens))):=⟨fun l t le c a b n lens hl=>by
 by_cases h:BmOk l t le c n
 ·obtain ⟨h0,h2,h3⟩:=id h
  have h1:=h0.1
  have hnn:0≤n*n∧n*n≤64:=by rcases h1 with rfl|rfl<;>decide
  have hl64:l.length≤64:=by omega
  refine FnC.of_body tabOk Tryz.func46 Tryz.ntmps46 rfl (by decide +kernel) (by simp) fun G=>?_
  refine go (r:=?_);and_intros<;>intros<;>try exact True.intro
  all_goals first|(exact absurd h0 ‹¬ NbOk t le c n›)|(exact absurd h3 ‹¬ In l 0 255›)|skip
  refine WpA.loop (fun m:Nat=>⟨[(0,IL l),(2,I n),(3,IL lens),(5,.ptr 0 0 0),(9,I (bmS l t le c a b n lens m).1),(10,I (bmS l t le c a b n lens m).2),(30,I m)],[NbO t le c a b]⟩) (fun m=>m≤6) (fun m=>6-m) 0 (by omega) (go (r:=?_)) (fun m hm=>?_)
  ·simp [bmS]
  have hb:=bm_bd l t le c a b n lens m
  have hb1:=bm_bd l t le c a b n lens (m+1)
  have hsl:=symL_pos lens m
  have hc:=costs_bd (resS l (predS m t le c a b n))
  have hrl:=resS_small l (predS m t le c a b n)
  have hpl:=predS_len m t le c a b n
  have hpl2:(predS m t le c a b n).length≤64:=by
   rw [hpl];split
   ·rcases h1 with rfl|rfl<;>decide
   ·omega
  have hst:=bmS.eq_2 l t le c a b n lens m
  by_cases hh:HasC lens m
  ·rw [if_pos hh] at hst
   have hsl2:=hsl.2 hh
   by_cases h5:(bmS l t le c a b n lens m).1<0∨costs (resS l (predS m t le c a b n))<(bmS l t le c a b n lens m).2
   ·rw [if_pos h5] at hst
    refine go (r:=?_);and_intros<;>intros<;>try exact True.intro
    all_goals first|(rw [hst];done)|(exfalso;omega)|skip
    all_goals (have e:m=6:=by omega);subst e;rw [bestM,if_pos h]
   ·rw [if_neg h5] at hst
    refine go (r:=?_);and_intros<;>intros<;>try exact True.intro
    all_goals first|(rw [hst];done)|(exfalso;omega)|skip
    all_goals (have e:m=6:=by omega);subst e;rw [bestM,if_pos h]
  ·rw [if_neg hh] at hst
   have hsl2:¬0<(symL lens m).length:=fun h=>hh (hsl.1 h)
   refine go (r:=?_);and_intros<;>intros<;>try exact True.intro
   all_goals first|(rw [hst];done)|(exfalso;omega)|skip
   all_goals (have e:m=6:=by omega);subst e;rw [bestM,if_pos h]
 ·have e:bestM l t le c a b n lens=-1:=by rw [bestM,if_neg h]
  by_cases h0:NbOk t le c n
  ·have h1:=h0.1
   have hnn:0≤n*n∧n*n≤64:=by rcases h1 with rfl|rfl<;>decide
   have h8:∀h7:(l.length:Int)=n*n,¬In l 0 255:=fun h7 h6=>h ⟨h0,h7,h6⟩
   by_cases h7:(l.length:Int)=n*n
   ·have h9:=h8 h7
    refine FnC.of_body tabOk Tryz.func46 Tryz.ntmps46 rfl (by decide +kernel) (by simp) fun G=>?_
    refine go (r:=?_);and_intros<;>intros<;>try exact True.intro
    all_goals first|(rw [e];done)|(exfalso;omega)
   ·refine FnC.of_body tabOk Tryz.func46 Tryz.ntmps46 rfl (by decide +kernel) (by simp) fun G=>?_
    refine go (r:=?_);and_intros<;>intros<;>try exact True.intro
    all_goals first|(rw [e];done)|(exfalso;omega)
  ·refine FnC.of_body tabOk Tryz.func46 Tryz.ntmps46 rfl (by decide +kernel) (by simp) fun G=>?_
   refine go (r:=?_);and_intros<;>intros<;>try exact True.intro
   all_goals first|(rw [e];done)|(exfalso;omega)⟩
end Go.Proofs.YtainhhfnnclfiaaGreat


namespace Go.Abs
open Go
theorem nofre_all {S w ι O}:∀{cs:List AV} {vs f},LRel S w ι O cs vs f→cs.all AV.nofre=true→f=[]
 |[],vs,f,h,_=>by cases h;rfl
 |c::cs,vs,f,h,hn=>by
  simp only [List.all_cons,Bool.and_eq_true] at hn
  obtain ⟨v,vs',f1,f2,rfl,hv,hr,rfl⟩:=h.uncons
  have h1:=nofre_nil hv hn.1
  have h2:=nofre_all hr hn.2
  subst h1;subst h2;rfl
section
variable {P:Program} {n m:Nat} {G:Ctx} {T:List (Nat×AV)} {O:List AObj} {Q:Exit→St→Prop} {ops:Array Oper} {l:List Oper} {d:Nat} {tt:TypeId} {pos:String} {after:Array Edge}
inductive KeepL:List AV→List AV→Prop
 |nil:KeepL [] []
 |any {V vs us}:KeepL vs us→KeepL (V::vs) (.any::us)
 |keep {V vs us}:V.still=true→V.nofre=true→KeepL vs us→KeepL (V::vs) (V::us)
 |agg {ds es vs us}:KeepL ds es→KeepL vs us→KeepL (.agg ds::vs) (.agg es::us)
theorem KeepL.rel {S:Nat→Prop} {w:World} {ι ι':Nat→Spot} {vs us:List AV} (h:KeepL vs us):∀{xs f},LRel S w ι O vs xs f→LRel S w ι' [] us xs []:=by
 induction h with
 |nil=>intro xs f hl;cases hl;exact .nil
 |any _ ih=>
  intro xs f hl
  obtain ⟨v,vs',f1,f2,rfl,hv,hr,rfl⟩:=hl.uncons
  exact .any (ih hr)
 |keep hs hn _ ih=>
  intro xs f hl
  obtain ⟨v,vs',f1,f2,rfl,hv,hr,rfl⟩:=hl.uncons
  have:=nofre_nil hv hn
  subst this
  have:=LRel.cons (still_any hv hs [] (fun _ h=>h) (fun _ _=>rfl) (by simp)) (ih hr)
  simpa using this
 |agg _ _ ih1 ih2=>
  intro xs f hl
  obtain ⟨v,vs',f1,f2,rfl,hv,hr,rfl⟩:=hl.uncons
  obtain ⟨us',rfl,ha⟩:=LRel.agg_inv hv
  have:=LRel.agg (ih1 ha) (ih2 hr)
  simpa using this
theorem WpL.callK {f:FuncId} {xs:List Operand} {ats:Array TypeId} {As:List AV} {r:AV} (hc:FnC P f As [] r) (hs:KeepL (xs.map (av T)) As) (hn:d<n) (h:WpL P n m G false ops l ⟨(d,r)::T,O⟩ Q):
 WpL P n m G false ops ({dst:=some d,op:=.call {callee:=.value (.func f),args:=xs.toArray,argTypes:=ats},type:=tt,pos:=pos,after:=after,guard:=none}::l) ⟨T,O⟩ Q:=
 WpL.op rfl (fun a w hr=>by
  obtain ⟨S,ι,F,hr⟩:=hr
  obtain ⟨⟨fn,hf,hb,hnm⟩,hcall⟩:=hc
  have hl:LRel S w (fun _=>none) [] As (xs.map a.eval) []:=hs.rel (hr.evals xs)
  have hex:(execOp a.eval {dst:=some d,op:=.call {callee:=.value (.func f),args:=xs.toArray,argTypes:=ats},type:=tt,pos:=pos,after:=after,guard:=none}).run P w=.ok (.enter f (xs.map a.eval).toArray) w:=by
   simp only [execOp,resolve,Act.eval,Deferred.ofValue,invoke,callFunc,Sem.run_bind,Sem.run_pure,Result.andThen_ok,program,Sem.run,hf,hnm,hb,Bool.false_eq_true,if_false]
   simp
  unfold Oper.wp
  rw [hex]
  refine (hcall w S (xs.map a.eval) hr.stable hl).mono fun e w' he=>?_
  obtain ⟨v,S',ι',F',rfl,hS1,hS2,hS3,hO',hF',hv,hk⟩:=he
  show Rel n m G ⟨(d,r)::T,O⟩ (a.put (some d) v) w'
  have hold:∀b,b<w.heap.size→w'.heap[b]?=w.heap[b]?:=fun b hb=>hk.block b hb (fun h=>h)
  have hlat:Later S w ι O S' w' ι O:=⟨hS1,fun b hb=>hold b (hr.stable b hb),fun id ob h=>⟨ob,h,.inr ⟨rfl,rfl,rfl⟩⟩⟩
  have hrel:RelAt n m G S' ι F ⟨T,O⟩ a w':=by
   refine ⟨hr.defers,hr.size,fun t=>(hr.tmps t).mono hlat (by simp),⟨fun id ob h=>?_,hr.objs.nodup,hr.objs.apart⟩,fun id h b hb=>?_,⟨fun b hb=>hS1 b (hr.base.1 b hb),fun b hb=>?_⟩,hS3,?_,hr.spots,hr.mle⟩
   ·have h:O[id]?=some ob:=h
    have hlt:id<O.length:=(List.getElem?_eq_some_iff.1 h).1
    have ho:=hr.objs.obj id ob h
    unfold ObjAt at ho ⊢
    cases hs:ι id with
    |none=>rw [hs] at ho;exact ho
    |some p=>
     obtain ⟨b,k⟩:=p
     rw [hs] at ho
     obtain ⟨cur',t',fz',f2,h1,h2,h3,h4,h5,h6,h7⟩:=ho
     have key:∀b',b'∈F id→w'.heap[b']?=w.heap[b']?:=fun b' hb'=>hold b' (hr.foot id hlt b' hb').2.2
     exact ⟨cur',t',fz',f2,h1,by rw [key b (by rw [h1];simp)];exact h2,h3,h4,h5,h6,h7.mono hlat fun b' hb'=>key b' (by rw [h1];simp [hb'])⟩
   ·obtain ⟨q1,q2,q3⟩:=hr.foot id h b hb
    refine ⟨q1,fun h'=>?_,by have:=hk.size;omega⟩
    rcases hS2 b h' with h2|h2
    ·exact q2 h2
    ·omega
   ·rcases hS2 b hb with h2|h2
    ·exact hr.base.2 b h2
    ·exact .inr (by have:=hr.keeps.size;omega)
   ·exact ⟨hk.os.trans hr.keeps.os,hk.tape.trans hr.keeps.tape,hk.output.trans hr.keeps.output,by have:=hr.keeps.size;have:=hk.size;omega,fun b hb hM=>by
     rw [hold b (by have:=hr.keeps.size;omega)];exact hr.keeps.block b hb hM⟩
  exact ⟨S',ι,F,hrel.put hn (hv.mono (Later.none O (fun _ h=>h) (fun _ _=>rfl)) (by simp))⟩) h
end
theorem Snap.relG {O:List AObj} {S S2:Nat→Prop} {w:World} {ι ι':Nat→Spot} {vs us:List AV} (h:Snap O vs us):∀{F xs f},ORel S w ι O F→(∀ b,S b→S2 b)→(∀ id,id<O.length→∀b∈F id,S2 b)→(∀ b∈f,S2 b)→LRel S w ι O vs xs f→LRel S2 w ι' [] us xs []:=by
 induction h with
 |nil=>intro F xs f _ _ _ _ hl;cases hl;exact .nil
 |any _ ih=>
  intro F xs f ho hS hF hf hl
  obtain ⟨v,vs',f1,f2,rfl,hv,hr,rfl⟩:=hl.uncons
  exact .any (ih ho hS hF (fun b hb=>hf b (List.mem_append_right _ hb)) hr)
 |keep hs hn _ ih=>
  intro F xs f ho hS hF hf hl
  obtain ⟨v,vs',f1,f2,rfl,hv,hr,rfl⟩:=hl.uncons
  have:=nofre_nil hv hn
  subst this
  have:=LRel.cons (still_any hv hs [] hS (fun _ _=>rfl) (by simp)) (ih ho hS hF (fun b hb=>hf b (List.mem_append_right _ hb)) hr)
  simpa using this
 |fn _ _ ih1 ih2=>
  intro F xs f ho hS hF hf hl
  obtain ⟨v,vs',f1,f2,rfl,hv,hr,rfl⟩:=hl.uncons
  cases hv with|fn a r=>cases r;exact .fn (ih1 ho hS hF (by simp) a) (ih2 ho hS hF (fun b hb=>hf b (List.mem_append_right _ hb)) hr)
 |nilI _ ih=>
  intro F xs f ho hS hF hf hl
  obtain ⟨v,vs',f1,f2,rfl,hv,hr,rfl⟩:=hl.uncons
  have:=(LRel.slice_len hv).2.2 rfl
  subst this
  exact .imm0 (by simp) (ih ho hS hF (fun b hb=>hf b (List.mem_append_right _ hb)) hr)
 |@own id ep len len' sz ob es vs us hob hep hsz hlen hll _ _ ih1 ih2=>
  intro F xs f ho hS hF hf hl
  subst hll hsz
  obtain ⟨v,vs',f1,f2,rfl,hv,hr,rfl⟩:=hl.uncons
  have hr2:=ih2 ho hS hF (fun b hb=>hf b (List.mem_append_right _ hb)) hr
  have hidl:=(List.getElem?_eq_some_iff.1 hob).1
  have hoa:=ho.obj id ob hob
  unfold ObjAt at hoa
  cases hv with
  |own q1 q2 q3 r=>
   rw [hob] at q1;cases q1
   have hc:=q3 hep.symm
   cases hs:ι id with
   |none=>
    rw [hs] at hc hoa
    obtain ⟨h1,_,h3⟩:=hc
    subst h1;subst h3
    have:es=[]:=by
     have:=ih1 (xs:=[]) (f:=[]) ho hS hF (by simp) (by rw [hoa.1];exact .nil)
     cases this;rfl
    subst this
    exact .imm0 (by simp) hr2
   |some p=>
    obtain ⟨b,k⟩:=p
    rw [hs] at hc hoa
    obtain ⟨cap,h1,_,h3,h4⟩:=hc
    obtain ⟨cur,t,fz,f',hFe,hh,_,_,_,_,hl'⟩:=hoa
    subst h1
    have hi:=ih1 ho hS hF (fun b' hb'=>hF id hidl b' (by rw [hFe];simp [hb'])) hl'
    refine .imm (us:=cur.toList.take ob.cells.length) (hF id hidl b (by rw [hFe];simp)) (fun i hi=>cell_of_heap hh _ i hi) hi ?_ h3 h4 hr2
    rw [hlen,hl'.len,hi.len]
 |@ownO id ep off len len' sz ob ds es vs us hob hep hsz hds hlen hll _ _ ih1 ih2=>
  intro F xs f ho hS hF hf hl
  subst hll hsz hds
  obtain ⟨v,vs',f1,f2,rfl,hv,hr,rfl⟩:=hl.uncons
  have hr2:=ih2 ho hS hF (fun b hb=>hf b (List.mem_append_right _ hb)) hr
  have hidl:=(List.getElem?_eq_some_iff.1 hob).1
  have hoa:=ho.obj id ob hob
  unfold ObjAt at hoa
  cases hv with
  |own q1 q2 q3 r=>
   rw [hob] at q1;cases q1
   have hc:=q3 hep.symm
   cases hs:ι id with
   |none=>
    rw [hs] at hc hoa
    obtain ⟨h1,h2,h3⟩:=hc
    subst h1;subst h3
    have:es=[]:=by
     have:=ih1 (xs:=[]) (f:=[]) ho hS hF (by simp) (by rw [hoa.1];simpa using .nil)
     cases this;rfl
    subst this
    exact .imm0 (by simp) hr2
   |some p=>
    obtain ⟨b,k⟩:=p
    rw [hs] at hc hoa
    obtain ⟨cap,h1,_,h3,h4⟩:=hc
    obtain ⟨cur,t,fz,f',hFe,hh,_,_,_,_,hl'⟩:=hoa
    subst h1
    obtain ⟨g,hld,hgm,_⟩:=hl'.drop off
    have hi:=ih1 ho hS hF (fun b' hb'=>hF id hidl b' (by rw [hFe];simp [hgm b' hb'])) hld
    refine .imm (us:=(cur.toList.take ob.cells.length).drop off) (hF id hidl b (by rw [hFe];simp)) (fun i hi=>?_) hi ?_ h3 h4 hr2
    ·have:=cell_of_heap hh ob.cells.length (off+i) (by simp only [List.length_drop] at hi;omega)
     rw [Nat.zero_add] at this
     rw [this,List.getElem?_drop]
    ·rw [hlen,hld.len,hi.len]
 |@fre s l ds es vs us _ _ ih1 ih2=>
  intro F xs f ho hS hF hf hl
  obtain ⟨v,vs',f1,f2,rfl,hv,hr,rfl⟩:=hl.uncons
  have hr2:=ih2 ho hS hF (fun b hb=>hf b (List.mem_append_right _ hb)) hr
  cases hv with
  |fre0 r=>
   have:=ih1 (xs:=[]) (f:=[]) ho hS hF (by simp) .nil
   cases this
   exact .imm0 (by simp) hr2
  |@fre _ _ b _ cap cur t fz _ us' f' _ _ _ hh0 hsz hu hl' h1 h2 h3 r=>
   have hh:=hh0.1
   cases r
   have hi:=ih1 ho hS hF (fun b' hb'=>hf b' (by simp [hb'])) hl'.lift
   subst hu
   refine .imm (us:=cur.toList.take ds.length) (hf b (by simp)) (fun i hi=>cell_of_heap hh _ i hi) hi ?_ h2 h3 hr2
   rw [h1,hl'.len,hi.len]
 |@ptr id ep off ob es vs us hob hep _ _ ih1 ih2=>
  intro F xs f ho hS hF hf hl
  obtain ⟨v,vs',f1,f2,rfl,hv,hr,rfl⟩:=hl.uncons
  have hr2:=ih2 ho hS hF (fun b hb=>hf b (List.mem_append_right _ hb)) hr
  have hidl:=(List.getElem?_eq_some_iff.1 hob).1
  have hoa:=ho.obj id ob hob
  unfold ObjAt at hoa
  cases hv with
  |ptr q1 q2 q3 r=>
   rw [hob] at q1;cases q1
   have hc:=q3 hep.symm
   cases hs:ι id with
   |none=>rw [hs] at hc;exact hc.elim
   |some p=>
    obtain ⟨b,k⟩:=p
    rw [hs] at hc hoa
    obtain ⟨cur,t,fz,f',hFe,hh,_,_,_,_,hl'⟩:=hoa
    have h1:_=Value.pointer (some ⟨b,off,none⟩):=hc
    subst h1
    have:=LRel.iptr (O:=[]) (ι:=ι') (off:=off) (S:=S2) (us:=cur.toList.take ob.cells.length) (hF id hidl b (by rw [hFe];simp)) (fun i hi=>cell_of_heap hh _ i hi) (ih1 ho hS hF (fun b' hb'=>hF id hidl b' (by rw [hFe];simp [hb'])) hl') hr2
    rwa [Nat.zero_add] at this
 |agg _ _ ih1 ih2=>
  intro F xs f ho hS hF hf hl
  obtain ⟨v,vs',f1,f2,rfl,hv,hr,rfl⟩:=hl.uncons
  obtain ⟨us',rfl,ha⟩:=LRel.agg_inv hv
  have:=LRel.agg (ih1 ho hS hF (fun b hb=>hf b (List.mem_append_left _ hb)) ha) (ih2 ho hS hF (fun b hb=>hf b (List.mem_append_right _ hb)) hr)
  simpa using this
theorem FnC.still {P:Program} {f:FuncId} {args:List AV} {N:List AObj} {r r':AV} (hc:FnC P f args N r) (hs:Snap N [r] [r']):FnC P f args [] r':=by
 refine ⟨hc.1,fun w S vs hS hl=>(hc.2 w S vs hS hl).mono fun e w' he=>?_⟩
 obtain ⟨v,S',ι,F,rfl,h1,h2,h3,ho,hF,hv,hk⟩:=he
 refine ⟨v,fun b=>S' b∨∃id,id<N.length∧b∈F id,fun _=>none,fun _=>[],rfl,fun b hb=>.inl (h1 b hb),?_,?_,⟨by simp,by simp,by simp⟩,by simp,?_,hk⟩
 ·rintro b (hb|⟨id,hid,hb⟩)
  ·exact h2 b hb
  ·exact .inr (hF id hid b hb).1
 ·rintro b (hb|⟨id,hid,hb⟩)
  ·exact h3 b hb
  ·exact (hF id hid b hb).2.2
 ·exact hs.relG ho (fun b hb=>.inl hb) (fun id hid b hb=>.inr ⟨id,hid,hb⟩) (by simp) hv
theorem FnC.stillT {P:Program} {f:FuncId} {args:List AV} {N:List AObj} {rs rs':List AV} (hc:FnC P f args N (.tup rs)) (hs:Snap N rs rs'):FnC P f args [] (.tup rs'):=by
 refine ⟨hc.1,fun w S vs hS hl=>(hc.2 w S vs hS hl).mono fun e w' he=>?_⟩
 obtain ⟨v,S',ι,F,rfl,h1,h2,h3,ho,hF,hv,hk⟩:=he
 refine ⟨v,fun b=>S' b∨∃id,id<N.length∧b∈F id,fun _=>none,fun _=>[],rfl,fun b hb=>.inl (h1 b hb),?_,?_,⟨by simp,by simp,by simp⟩,by simp,?_,hk⟩
 ·rintro b (hb|⟨id,hid,hb⟩)
  ·exact h2 b hb
  ·exact .inr (hF id hid b hb).1
 ·rintro b (hb|⟨id,hid,hb⟩)
  ·exact h3 b hb
  ·exact (hF id hid b hb).2.2
 ·obtain ⟨us,rfl,hl'⟩:=LRel.tup_inv hv
  have h9:LRel (fun b=>S' b∨∃id,id<N.length∧b∈F id) w' (fun _=>none) [] rs' us []:=hs.relG ho (fun b hb=>.inl hb) (fun id hid b hb=>.inr ⟨id,hid,hb⟩) (by simp) hl'
  have:=LRel.tup h9 .nil
  simpa using this
theorem ORel.bare {S':Nat→Prop} {w':World} {ι':Nat→Spot} {N:List AObj} {F':Nat→List Nat} (hO:ORel S' w' ι' N F') (hN:Out N):ORel (fun _=>False) w' ι' N F':=by
 refine ⟨fun id ob h=>?_,hO.nodup,hO.apart⟩
 have ho:=hO.obj id ob h
 unfold ObjAt at ho ⊢
 cases hs:ι' id with
 |none=>rw [hs] at ho;exact ho
 |some p=>
  obtain ⟨b,k⟩:=p
  rw [hs] at ho
  obtain ⟨cur',t',fz',f2,h1,h2,h3,h4,h5,h6,h7⟩:=ho
  exact ⟨cur',t',fz',f2,h1,h2,h3,h4,h5,h6,Loc.rel (hN.at h).2 h7⟩
inductive FrzR (N:List AObj):AV→AV→Prop
 |tup {rs rs':List AV}:Snap N rs rs'→FrzR N (.tup rs) (.tup rs')
 |one {r r':AV}:Snap N [r] [r']→FrzR N r r'
theorem FrzR.rel {O:List AObj} {S S2:Nat→Prop} {w:World} {ι ι':Nat→Spot} {F:Nat→List Nat} {r r':AV} {v:Value} (h:FrzR O r r') (ho:ORel S w ι O F) (hS:∀b,S b→S2 b) (hF:∀id,id<O.length→∀b∈F id,S2 b) (hl:VRel S w ι O r v []):VRel S2 w ι' [] r' v []:=by
 cases h with
 |tup hs=>
  obtain ⟨us,rfl,hl'⟩:=LRel.tup_inv hl
  have h9:LRel S2 w ι' [] _ us []:=hs.relG ho hS hF (by simp) hl'
  have:=LRel.tup h9 .nil
  simpa using this
 |one hs=>exact hs.relG ho hS hF (by simp) hl
section
variable {P:Program} {n m:Nat} {G:Ctx} {T:List (Nat×AV)} {O:List AObj} {Q:Exit→St→Prop} {ops:Array Oper} {l:List Oper} {d:Nat} {tt:TypeId} {pos:String} {after:Array Edge}
theorem WpL.callI {f:FuncId} {xs:List Operand} {ats:Array TypeId} {As:List AV} {N:List AObj} {r r':AV} (hc:FnC P f As N r) (hs:Snap O (xs.map (av T)) As) (hloc:Loc [r]) (hN:Out N) (hfz:FrzR N r r') (hn:d<n) (h:WpL P n m G false ops l ⟨(d,r')::T,O⟩ Q):
 WpL P n m G false ops ({dst:=some d,op:=.call {callee:=.value (.func f),args:=xs.toArray,argTypes:=ats},type:=tt,pos:=pos,after:=after,guard:=none}::l) ⟨T,O⟩ Q:=
 WpL.op rfl (fun a w hr=>by
  obtain ⟨S,ι,F,hr⟩:=hr
  obtain ⟨⟨fn,hf,hb,hnm⟩,hcall⟩:=hc
  have hsn:=hs.rel (ι':=fun _=>none) hr.objs hr.stable (hr.evals xs)
  have hex:(execOp a.eval {dst:=some d,op:=.call {callee:=.value (.func f),args:=xs.toArray,argTypes:=ats},type:=tt,pos:=pos,after:=after,guard:=none}).run P w=.ok (.enter f (xs.map a.eval).toArray) w:=by
   simp only [execOp,resolve,Act.eval,Deferred.ofValue,invoke,callFunc,Sem.run_bind,Sem.run_pure,Result.andThen_ok,program,Sem.run,hf,hnm,hb,Bool.false_eq_true,if_false]
   simp
  unfold Oper.wp
  rw [hex]
  refine (hcall w (fun b=>b<w.heap.size) (xs.map a.eval) (fun _ h=>h) hsn).mono fun e w' he=>?_
  obtain ⟨v,S',ι',F',rfl,hS1,hS2,hS3,hO',hF',hv,hk⟩:=he
  show Rel n m G ⟨(d,r')::T,O⟩ (a.put (some d) v) w'
  have hold:∀b,b<w.heap.size→w'.heap[b]?=w.heap[b]?:=fun b hb=>hk.block b hb (fun h=>h)
  let S2:Nat→Prop:=fun b=>S b∨∃id,id<N.length∧b∈F' id
  have hvr:VRel S2 w' (fun _=>none) [] r' v []:=
   hfz.rel (hO'.bare hN) (fun _ h=>h.elim) (fun id hid b hb=>.inr ⟨id,hid,hb⟩) (Loc.rel hloc hv)
  have hlat:Later S w ι O S2 w' ι O:=⟨fun b h=>.inl h,fun b hb=>hold b (hr.stable b hb),fun id ob h=>⟨ob,h,.inr ⟨rfl,rfl,rfl⟩⟩⟩
  have hrel:RelAt n m G S2 ι F ⟨T,O⟩ a w':=by
   refine ⟨hr.defers,hr.size,fun t=>(hr.tmps t).mono hlat (by simp),⟨fun id ob h=>?_,hr.objs.nodup,hr.objs.apart⟩,fun id h b hb=>?_,⟨fun b hb=>.inl (hr.base.1 b hb),fun b hb=>?_⟩,fun b hb=>?_,?_,hr.spots,hr.mle⟩
   ·have h:O[id]?=some ob:=h
    have hlt:id<O.length:=(List.getElem?_eq_some_iff.1 h).1
    have ho:=hr.objs.obj id ob h
    unfold ObjAt at ho ⊢
    cases hs:ι id with
    |none=>rw [hs] at ho;exact ho
    |some p=>
     obtain ⟨b,k⟩:=p
     rw [hs] at ho
     obtain ⟨cur',t',fz',f2,h1,h2,h3,h4,h5,h6,h7⟩:=ho
     have key:∀b',b'∈F id→w'.heap[b']?=w.heap[b']?:=fun b' hb'=>hold b' (hr.foot id hlt b' hb').2.2
     exact ⟨cur',t',fz',f2,h1,by rw [key b (by rw [h1];simp)];exact h2,h3,h4,h5,h6,h7.mono hlat fun b' hb'=>key b' (by rw [h1];simp [hb'])⟩
   ·obtain ⟨q1,q2,q3⟩:=hr.foot id h b hb
    refine ⟨q1,?_,by have:=hk.size;omega⟩
    rintro (h2|⟨i2,hi2,h2⟩)
    ·exact q2 h2
    ·have:=(hF' i2 hi2 b h2).1;omega
   ·rcases hb with h2|⟨i2,hi2,h2⟩
    ·exact hr.base.2 b h2
    ·have:=(hF' i2 hi2 b h2).1
     exact .inr (by have:=hr.keeps.size;omega)
   ·rcases hb with h2|⟨i2,hi2,h2⟩
    ·have:=hr.stable b h2;have:=hk.size;omega
    ·exact (hF' i2 hi2 b h2).2.2
   ·exact ⟨hk.os.trans hr.keeps.os,hk.tape.trans hr.keeps.tape,hk.output.trans hr.keeps.output,by have:=hr.keeps.size;have:=hk.size;omega,fun b hb hM=>by
     rw [hold b (by have:=hr.keeps.size;omega)];exact hr.keeps.block b hb hM⟩
  exact ⟨S2,ι,F,hrel.put hn (hvr.mono (Later.none O (fun _ h=>h) (fun _ _=>rfl)) (by simp))⟩) h
end
end Go.Abs


namespace Go.Abs
open Go
section
variable {P:Program} {n m:Nat} {G:Ctx} {T:List (Nat×AV)} {O:List AObj} {Q:Exit→St→Prop} {md:Bool} {ops:Array Oper} {l:List Oper} {d:Nat} {tt:TypeId} {pos:String} {after:Array Edge}
end
end Go.Abs


namespace Go.Abs
open Go
inductive Rf (k j e:Nat):List AV→List AV→Prop
 |nil:Rf k j e [] []
 |keep {V vs us}:V.still=true→V.nofre=true→Rf k j e vs us→Rf k j e (V::vs) (V::us)
 |own {k' off len vs us}:k'=k→Rf k j e vs us→Rf k j e (.own k' 0 off len::vs) (.own j e off len::us)
 |ptr {k' off vs us}:k'=k→Rf k j e vs us→Rf k j e (.ptr k' 0 off::vs) (.ptr j e off::us)
 |agg {ds es vs us}:Rf k j e ds es→Rf k j e vs us→Rf k j e (.agg ds::vs) (.agg es::us)
 |tup {ds es vs us}:Rf k j e ds es→Rf k j e vs us→Rf k j e (.tup ds::vs) (.tup es::us)
theorem Rf.rel {k j e:Nat} {S w} {ι ι':Nat→Spot} {O O':List AObj} {ob ob':AObj} (ho:O[k]?=some ob) (ho':O'[j]?=some ob') (he:ob.ep=0) (he':ob'.ep=e) (hsz:ob'.size=ob.size) (hι:ι' j=ι k) {vs us:List AV} (h:Rf k j e vs us):∀{xs},LRel S w ι O vs xs []→LRel S w ι' O' us xs []:=by
 induction h with
 |nil=>intro xs hl;cases hl;exact .nil
 |keep hs hn _ ih=>
  intro xs hl
  obtain ⟨v,vs',f1,f2,rfl,hv,hr,hf⟩:=hl.uncons
  obtain ⟨rfl,rfl⟩:f1=[]∧f2=[]:=by simpa using hf
  exact LRel.cons (still_any hv hs O' (fun _ h=>h) (fun _ _=>rfl) (fun _ _=>rfl)) (ih hr)
 |own hk _ ih=>
  intro xs hl
  subst hk
  cases hl with
  |own q1 q2 q3 r=>
   rw [ho] at q1;cases q1
   exact .own ho' (by omega) (fun _=>by rw [hsz,hι];exact q3 he.symm) (ih r)
 |ptr hk _ ih=>
  intro xs hl
  subst hk
  cases hl with
  |ptr q1 q2 q3 r=>
   rw [ho] at q1;cases q1
   exact .ptr ho' (by omega) (fun _=>by rw [hι];exact q3 he.symm) (ih r)
 |agg _ _ ih1 ih2=>
  intro xs hl
  obtain ⟨v,vs',f1,f2,rfl,hv,hr,hf⟩:=hl.uncons
  obtain ⟨rfl,rfl⟩:f1=[]∧f2=[]:=by simpa using hf
  obtain ⟨us',rfl,ha⟩:=LRel.agg_inv hv
  simpa using LRel.agg (ih1 ha) (ih2 hr)
 |tup _ _ ih1 ih2=>
  intro xs hl
  obtain ⟨v,vs',f1,f2,rfl,hv,hr,hf⟩:=hl.uncons
  obtain ⟨rfl,rfl⟩:f1=[]∧f2=[]:=by simpa using hf
  obtain ⟨us',rfl,ha⟩:=LRel.tup_inv hv
  simpa using LRel.tup (ih1 ha) (ih2 hr)
theorem RelAt.fillV {n m G S ι F T O a w} {d j:Nat} {V V':AV} {ob oj:AObj} (hV:Rf O.length j (oj.ep+1) [V] [V']) (hr:RelAt n m G S ι F ⟨(d,V)::T,O++[ob]⟩ a w) (hj:O[j]?=some oj) (hm:m≤j) (hob:ob.ep=0):
 ∃ι' F',RelAt n m G S ι' F' ⟨(d,V')::T,O.set j (ob.putE (oj.ep+1))++[deadO]⟩ a w:=by
 have hjl:j<O.length:=(List.getElem?_eq_some_iff.1 hj).1
 have hlast:(O++[ob])[O.length]?=some ob:=List.getElem?_concat_length
 have hO2:∀i:Nat,(O.set j (ob.putE (oj.ep+1))++[deadO])[i]?=if i=j then some (ob.putE (oj.ep+1)) else if i=O.length then some deadO else O[i]?:=by
  intro i
  by_cases h1:i=j
  ·subst h1;rw [if_pos rfl,List.getElem?_append_left (by simpa using hjl)];simp [hjl]
  ·rw [if_neg h1]
   have h1':¬j=i:=fun e=>h1 e.symm
   by_cases h2:i=O.length
   ·subst h2;rw [if_pos rfl,List.getElem?_append_right (by simp)];simp
   ·rw [if_neg h2]
    rcases Nat.lt_or_ge i O.length with h|h
    ·rw [List.getElem?_append_left (by simpa using h)];simp [List.getElem?_set,h1']
    ·rw [List.getElem?_eq_none (by simp;omega),List.getElem?_eq_none h]
 have hO1:∀i:Nat,i≠O.length→(O++[ob])[i]?=O[i]?:=by
  intro i hi
  rcases Nat.lt_or_ge i O.length with h|h
  ·rw [List.getElem?_append_left h]
  ·rw [List.getElem?_eq_none (by simp;omega),List.getElem?_eq_none h]
 have hjn:j≠O.length:=by omega
 have hlat:Later S w ι (O++[ob]) S w (upd (upd ι j (ι O.length)) O.length none) (O.set j (ob.putE (oj.ep+1))++[deadO]):=by
  refine ⟨fun _ h=>h,fun _ _=>rfl,fun i obi hi=>?_⟩
  by_cases h1:i=j
  ·subst h1;rw [hO1 _ hjn,hj] at hi;cases hi
   exact ⟨(ob.putE (oj.ep+1)),by rw [hO2,if_pos rfl],.inl (Nat.lt_succ_self _)⟩
  ·by_cases h2:i=O.length
   ·subst h2;rw [hlast] at hi;cases hi
    exact ⟨deadO,by rw [hO2,if_neg h1,if_pos rfl],.inl (by rw [hob];exact Nat.lt_succ_self _)⟩
   ·rw [hO1 _ h2] at hi
    exact ⟨obi,by rw [hO2,if_neg h1,if_neg h2];exact hi,.inr ⟨rfl,rfl,by rw [upd_other _ _ h2,upd_other _ _ h1]⟩⟩
 have hn:=hr.objs.obj O.length ob hlast
 refine ⟨upd (upd ι j (ι O.length)) O.length none,upd (upd F j (F O.length)) O.length [],hr.defers,hr.size,fun t'=>?_,⟨fun i obi hi=>?_,fun i hi=>?_,fun i i' hi hi' hii c hcm=>?_⟩,fun i hi c hcm=>?_,hr.base,hr.stable,hr.keeps,fun i hi=>?_,?_⟩
 ·have ht:=hr.tmps t'
  by_cases e:d=t'
  ·subst e
   have ht:VRel S w ι (O++[ob]) (look ((d,V)::T) d) (a.tmps.getD d undef) []:=ht
   show VRel _ _ _ _ (look ((d,V')::T) d) _ _
   rw [look_cons_same] at ht ⊢
   exact hV.rel (ob':=ob.putE (oj.ep+1)) hlast (by rw [hO2,if_pos rfl]) hob rfl rfl (by rw [upd_other _ _ hjn,upd_same]) ht
  ·have ht:VRel S w ι (O++[ob]) (look ((d,V)::T) t') (a.tmps.getD t' undef) []:=ht
   show VRel _ _ _ _ (look ((d,V')::T) t') _ _
   rw [look_cons_other _ _ _ _ e] at ht ⊢
   exact ht.mono hlat (fun _ _=>rfl)
 ·have hi:(O.set j (ob.putE (oj.ep+1))++[deadO])[i]?=some obi:=hi
  rw [hO2] at hi
  by_cases e1:i=j
  ·subst e1
   rw [if_pos rfl] at hi;cases hi
   rw [upd_other _ _ hjn,upd_other _ _ hjn,upd_same,upd_same]
   unfold ObjAt at hn ⊢
   cases hs:ι O.length with
   |none=>rw [hs] at hn;exact hn
   |some p=>
    obtain ⟨b,k⟩:=p
    rw [hs] at hn
    obtain ⟨cur,t,fz,f',h1,h2,h3,h4,h5,h6,h7⟩:=hn
    have h8:=h7.mono hlat (fun _ _=>rfl)
    rw [hs] at h8
    exact ⟨cur,t,fz,f',h1,h2,h3,h4,h5,h6,h8⟩
  ·rw [if_neg e1] at hi
   by_cases e2:i=O.length
   ·subst e2
    rw [if_pos rfl] at hi;cases hi
    rw [upd_same,upd_same];exact ⟨rfl,rfl⟩
   ·rw [if_neg e2] at hi
    rw [upd_other _ _ e2,upd_other _ _ e2,upd_other _ _ e1,upd_other _ _ e1]
    have ho:=hr.objs.obj i obi (by show (O++[ob])[i]?=_;rw [hO1 _ e2];exact hi)
    unfold ObjAt at ho ⊢
    cases hs:ι i with
    |none=>rw [hs] at ho;exact ho
    |some p=>
     obtain ⟨b,k⟩:=p
     rw [hs] at ho
     obtain ⟨cur,t,fz,f',h1,h2,h3,h4,h5,h6,h7⟩:=ho
     exact ⟨cur,t,fz,f',h1,h2,h3,h4,h5,h6,h7.mono hlat (fun _ _=>rfl)⟩
 ·have hi:i<(O.set j (ob.putE (oj.ep+1))++[deadO]).length:=hi
  simp only [List.length_append,List.length_set,List.length_singleton] at hi
  by_cases e2:i=O.length
  ·subst e2;rw [upd_same];exact List.nodup_nil
  ·rw [upd_other _ _ e2]
   by_cases e1:i=j
   ·subst e1;rw [upd_same];exact hr.objs.nodup O.length (by show O.length<(O++[ob]).length;simp)
   ·rw [upd_other _ _ e1];exact hr.objs.nodup i (by show i<(O++[ob]).length;simp;omega)
 ·have hi:i<(O.set j (ob.putE (oj.ep+1))++[deadO]).length:=hi
  have hi':i'<(O.set j (ob.putE (oj.ep+1))++[deadO]).length:=hi'
  simp only [List.length_append,List.length_set,List.length_singleton] at hi hi'
  by_cases e2:i=O.length
  ·subst e2;rw [upd_same] at hcm;cases hcm
  ·rw [upd_other _ _ e2] at hcm
   by_cases e3:i'=O.length
   ·subst e3;rw [upd_same];intro h;cases h
   ·rw [upd_other _ _ e3]
    have hL:(O++[ob]).length=O.length+1:=by simp
    by_cases e1:i=j
    ·subst e1
     rw [upd_same] at hcm
     rw [upd_other _ _ (fun e=>hii e.symm)]
     exact hr.objs.apart O.length i' (by show O.length<(O++[ob]).length;omega) (by show i'<(O++[ob]).length;omega) (fun e=>e3 e.symm) c hcm
    ·rw [upd_other _ _ e1] at hcm
     by_cases e4:i'=j
     ·subst e4;rw [upd_same]
      exact hr.objs.apart i O.length (by show i<(O++[ob]).length;omega) (by show O.length<(O++[ob]).length;omega) e2 c hcm
     ·rw [upd_other _ _ e4]
      exact hr.objs.apart i i' (by show i<(O++[ob]).length;omega) (by show i'<(O++[ob]).length;omega) hii c hcm
 ·have hi:i<(O.set j (ob.putE (oj.ep+1))++[deadO]).length:=hi
  simp only [List.length_append,List.length_set,List.length_singleton] at hi
  have hL:(O++[ob]).length=O.length+1:=by simp
  by_cases e2:i=O.length
  ·subst e2;rw [upd_same] at hcm;cases hcm
  ·rw [upd_other _ _ e2] at hcm
   by_cases e1:i=j
   ·subst e1;rw [upd_same] at hcm;exact hr.foot O.length (by show O.length<(O++[ob]).length;omega) c hcm
   ·rw [upd_other _ _ e1] at hcm;exact hr.foot i (by show i<(O++[ob]).length;omega) c hcm
 ·rw [upd_other _ _ (by omega),upd_other _ _ (by omega)];exact hr.spots i hi
 ·show m≤(O.set j (ob.putE (oj.ep+1))++[deadO]).length
  simp only [List.length_append,List.length_set,List.length_singleton];omega
section
variable {P:Program} {n m:Nat} {G:Ctx} {O:List AObj} {Q:Exit→St→Prop} {ops:Array Oper}
theorem WpL.putV {T:List (Nat×AV)} {Ov:List AObj} {p d:Nat} {V V':AV} {ob:AObj} (hV:Rf (O++Ov).length (O.length+p) 1 [V] [V']) (hp:Ov[p]?=some roomO) (hm:m≤O.length+p) (hob:ob.ep=0) (hst:ob.cells.all AV.still=true):
 WpL P n m G false ops [] ⟨(d,V)::T,O++Ov++[ob]⟩ (Only ⟨(d,V')::T,O++(Fil.put p ob.put1).run Ov⟩):=by
 refine WpL.weak (σ':=⟨(d,V')::T,(O++Ov).set (O.length+p) (ob.putE 1)++[deadO]⟩) ?_ ?_
 ·rintro n' G' a w ⟨S,ι,F,hr⟩
  obtain ⟨ι',F',h⟩:=hr.fillV (V:=V) (V':=V') (j:=O.length+p) (oj:=roomO) hV (fill_at hp) hm hob
  exact ⟨S,ι',F',h⟩
 ·refine WpL.nil (Only.mk ?_)
  rw [fill_eq];rfl
end
end Go.Abs


namespace Go.Abs
open Go
inductive HeadR (P:Program) (n m:Nat) (G:Ctx) (ops:Array Oper) (T0:List (Nat×AV)) (O Oi:List AObj) (keep sh:List Nat):List (Nat×AV)→List Fil→List Oper→List (Nat×AV)→List Fil→Prop
 |nil {fs gs}:HeadR P n m G ops T0 O Oi keep sh fs gs [] fs gs
 |cons {fs out:List (Nat×AV)} {gs:List Fil} {o:Oper} {l:List Oper} {d:Nat} {V:AV} {F:List (Nat×AV)} {ks:List Fil} (k:Fil) (hF:deps fs o=F)
   (h:∀Tv Ov,Oi.length≤Ov.length→(∀ p ob,k.spot=some (p,ob)→Ov[p]?=(fillAll gs Oi)[p]?)→(∀ j f p ob,waits o j=true→gs[j]?=some f→f.spot=some (p,ob)→memB p sh=false→Ov[p]?=some ob)→(∀ q,memB q keep=true→Ov[q]?=Oi[q]?)→
    WpL P n m G false ops [o] ⟨F++(T0++Tv),O++Ov⟩ (Only ⟨(d,V)::(F++(T0++Tv)),O++k.run Ov⟩)) (r:HeadR P n m G ops T0 O Oi keep sh (fs++[(d,V)]) (gs++[k]) l out ks):HeadR P n m G ops T0 O Oi keep sh fs gs (o::l) out ks
section
variable {P:Program} {n m:Nat} {G:Ctx} {ops:Array Oper} {T0:List (Nat×AV)} {O Oi:List AObj} {keep sh:List Nat}
theorem HeadR.pre {fs gs l out ks} (h:HeadR P n m G ops T0 O Oi keep sh fs gs l out ks):∃r s,out=fs++r∧r.length=l.length∧ks=gs++s∧s.length=l.length:=by
 induction h with
 |nil=>exact ⟨[],[],by simp,rfl,by simp,rfl⟩
 |@cons fs out gs o l d V F ks k _ _ _ ih=>obtain ⟨r,s,h1,h2,h3,h4⟩:=ih;exact ⟨(d,V)::r,k::s,by rw [h1];simp,by simp [h2],by rw [h3];simp,by simp [h4]⟩
theorem HeadR.at {fs gs l out ks} (h:HeadR P n m G ops T0 O Oi keep sh fs gs l out ks) (hg:gs.length=fs.length):∀{j:Nat} {o:Oper},l[j]?=some o→∃d V k,out[fs.length+j]?=some (d,V)∧ks[fs.length+j]?=some k∧
 ∀Tv Ov,Oi.length≤Ov.length→(∀ p ob,k.spot=some (p,ob)→Ov[p]?=(fillAll (ks.take (fs.length+j)) Oi)[p]?)→(∀ i f p ob,waits o i=true→(ks.take (fs.length+j))[i]?=some f→f.spot=some (p,ob)→memB p sh=false→Ov[p]?=some ob)→(∀ q,memB q keep=true→Ov[q]?=Oi[q]?)→
  WpL P n m G false ops [o] ⟨deps (out.take (fs.length+j)) o++(T0++Tv),O++Ov⟩ (Only ⟨(d,V)::(deps (out.take (fs.length+j)) o++(T0++Tv)),O++k.run Ov⟩):=by
 induction h with
 |nil=>intro j o h;simp at h
 |@cons fs out gs o l d V F ks k hF h r ih=>
  intro j o' hj
  obtain ⟨r',s',h1,h2,h3,h4⟩:=r.pre
  cases j with
  |zero=>
   simp only [List.getElem?_cons_zero,Option.some.injEq] at hj
   subst hj
   refine ⟨d,V,k,by rw [h1];simp,by rw [h3];simp [hg],?_⟩
   have:out.take (fs.length+0)=fs:=by rw [h1,Nat.add_zero,List.append_assoc,List.take_left'];rfl
   have e2:ks.take (fs.length+0)=gs:=by rw [h3,Nat.add_zero,List.append_assoc,List.take_left'];exact hg
   rw [this,hF,e2];exact h
  |succ j=>
   have:=ih (by simp [hg]) (j:=j) (o:=o') (by simpa using hj)
   rw [List.length_append,List.length_singleton,Nat.add_assoc,Nat.add_comm 1 j] at this
   simpa using this
theorem fillAll_cases:∀(L:List Fil) (Oi:List AObj) (q:Nat),q<Oi.length→(∃ (i:Nat) (f:Fil) (ob:AObj),L[i]?=some f∧f.spot=some (q,ob)∧(∀ (j:Nat) (g:Fil) (oc:AObj),i<j→L[j]?=some g→g.spot≠some (q,oc))∧(fillAll L Oi)[q]?=some ob)∨
 ((∀ (j:Nat) (g:Fil) (oc:AObj),L[j]?=some g→g.spot≠some (q,oc))∧(fillAll L Oi)[q]?=Oi[q]?)
 |[],Oi,q,hq=>.inr ⟨fun j g oc h=>by simp at h,rfl⟩
 |f::L,Oi,q,hq=>by
  rw [fillAll]
  cases hs:f.spot with
  |none=>
   rcases fillAll_cases L Oi q hq with ⟨i,g,ob,h1,h2,h3,h4⟩|⟨h1,h2⟩
   ·refine .inl ⟨i+1,g,ob,by simpa using h1,h2,fun j g' oc hj hg=>?_,h4⟩
    cases j with
    |zero=>omega
    |succ j=>exact h3 j g' oc (by omega) (by simpa using hg)
   ·refine .inr ⟨fun j g oc hg=>?_,h2⟩
    cases j with
    |zero=>simp at hg;subst hg;rw [hs];simp
    |succ j=>exact h1 j g oc (by simpa using hg)
  |some x=>
   obtain ⟨p,ob0⟩:=x
   simp only
   rcases fillAll_cases L (Oi.set p ob0) q (by simpa using hq) with ⟨i,g,ob,h1,h2,h3,h4⟩|⟨h1,h2⟩
   ·refine .inl ⟨i+1,g,ob,by simpa using h1,h2,fun j g' oc hj hg=>?_,h4⟩
    cases j with
    |zero=>omega
    |succ j=>exact h3 j g' oc (by omega) (by simpa using hg)
   ·by_cases e:p=q
    ·subst e
     refine .inl ⟨0,f,ob0,by simp,hs,fun j g' oc hj hg=>?_,by rw [h2,List.getElem?_set_self hq]⟩
     cases j with
     |zero=>omega
     |succ j=>exact h1 j g' oc (by simpa using hg)
    ·refine .inr ⟨fun j g oc hg=>?_,by rw [h2,List.getElem?_set,if_neg e]⟩
     cases j with
     |zero=>simp at hg;subst hg;rw [hs];intro h;cases h;exact e rfl
     |succ j=>exact h1 j g oc (by simpa using hg)
structure RoomR (ks:List Fil) (Oi:List AObj) (k:Nat) (listed:Array Bool) (Ov:List AObj):Prop where
 len:Ov.length=Oi.length+((List.range k).filter fun i=>listed.getD i false&&isPut ks i).length
 cur:∀q,q<Oi.length→(∃ i f ob,i<k∧listed.getD i false=true∧ks[i]?=some f∧f.spot=some (q,ob)∧(∀ j g oc,i<j→j<k→listed.getD j false=true→ks[j]?=some g→g.spot≠some (q,oc))∧Ov[q]?=some ob)∨
  ((∀ j g oc,j<k→listed.getD j false=true→ks[j]?=some g→g.spot≠some (q,oc))∧Ov[q]?=Oi[q]?)
 dead:∀q,Oi.length≤q→q<Ov.length→Ov[q]?=some deadO
structure RoomROk (ops:Array Oper) (sh:List Nat) (ks:List Fil) (c k:Nat):Prop where
 lt:∀i f p ob,i<k→ks[i]?=some f→f.spot=some (p,ob)→p<c
 chain:∀i j f g p ob oc,i<j→j<k→ks[i]?=some f→ks[j]?=some g→f.spot=some (p,ob)→g.spot=some (p,oc)→memB p sh=true∧∃o,ops[j]?=some o∧waits o i=true
theorem waits_spec {o:Oper} {j:Nat} (h:waits o j=true):∃e∈o.after,Region.binds .any e=true∧e.on=j:=by
 obtain ⟨e,he,hb⟩:=List.any_eq_true.1 h
 rw [Bool.and_eq_true] at hb
 exact ⟨e,by simpa using he,hb.1,Nat.eq_of_beq_eq_true hb.2⟩
theorem RoomR.before {ks:List Fil} {k i:Nat} {listed:Array Bool} {Ov:List AObj} {f:Fil} {o:Oper} (h:RoomR ks Oi k listed Ov) (ok:RoomROk ops sh ks Oi.length k) (inv:HeadInv .any ops k listed) (hik:i<k) (hu:listed.getD i false=false) (hall:∀e∈o.after,Region.binds .any e=true→listed.getD e.on false=true) (ho:ops[i]?=some o) (hf:ks[i]?=some f) {p:Nat} {ob:AObj} (hsp:f.spot=some (p,ob)):
 Ov[p]?=(fillAll (ks.take i) Oi)[p]?:=by
 have hp:=ok.lt i f p ob hik hf hsp
 have hbef:∀j g oc,j<i→ks[j]?=some g→g.spot=some (p,oc)→listed.getD j false=true:=by
  intro j g oc hj hg hs
  obtain ⟨_,o',ho',hw⟩:=ok.chain j i g f p oc ob hj hik hg hf hs hsp
  rw [ho] at ho';cases ho'
  obtain ⟨e,he,hb,rfl⟩:=waits_spec hw
  exact hall e he hb
 have haft:∀j g oc,i<j→j<k→ks[j]?=some g→g.spot=some (p,oc)→listed.getD j false=false:=by
  intro j g oc hj hjk hg hs
  obtain ⟨_,o',ho',hw⟩:=ok.chain i j f g p ob oc hj hjk hf hg hsp hs
  cases hl:listed.getD j false with
  |false=>rfl
  |true=>
   obtain ⟨e,he,hb,rfl⟩:=waits_spec hw
   have:=inv.closed j o' ho' hl e he hb
   rw [hu] at this;cases this
 have htk:∀j g,(ks.take i)[j]?=some g→j<i∧ks[j]?=some g:=by
  intro j g hg
  rw [List.getElem?_take] at hg
  split at hg
  ·rename_i hj;exact ⟨hj,hg⟩
  ·cases hg
 rcases h.cur p hp with ⟨j,g,oc,hjk,hl,hg,hs,hlast,hv⟩|⟨hno,hv⟩<;>rcases fillAll_cases (ks.take i) Oi p hp with ⟨j2,g2,oc2,hg2,hs2,hlast2,hv2⟩|⟨hno2,hv2⟩
 ·obtain ⟨hj2,hg2⟩:=htk j2 g2 hg2
  have hji:j<i:=by
   rcases Nat.lt_trichotomy j i with h1|h1|h1
   ·exact h1
   ·subst h1;rw [hu] at hl;cases hl
   ·rw [haft j g oc h1 hjk hg hs] at hl;cases hl
  have:j=j2:=by
   rcases Nat.lt_trichotomy j j2 with h1|h1|h1
   ·exact absurd hs2 (hlast j2 g2 oc2 h1 (by omega) (hbef j2 g2 oc2 hj2 hg2 hs2) hg2)
   ·exact h1
   ·exact absurd hs (hlast2 j g oc h1 (by rw [List.getElem?_take,if_pos hji];exact hg))
  subst this
  rw [hg] at hg2;cases hg2
  rw [hs] at hs2;cases hs2
  rw [hv,hv2]
 ·have hji:j<i:=by
   rcases Nat.lt_trichotomy j i with h1|h1|h1
   ·exact h1
   ·subst h1;rw [hu] at hl;cases hl
   ·rw [haft j g oc h1 hjk hg hs] at hl;cases hl
  exact absurd hs (hno2 j g oc (by rw [List.getElem?_take,if_pos hji];exact hg))
 ·obtain ⟨hj2,hg2⟩:=htk j2 g2 hg2
  exact absurd hs2 (hno j2 g2 oc2 (by omega) (hbef j2 g2 oc2 hj2 hg2 hs2) hg2)
 ·rw [hv,hv2]
theorem RoomR.step {ks:List Fil} {k i:Nat} {listed:Array Bool} {Ov:List AObj} {f:Fil} (h:RoomR ks Oi k listed Ov) (ok:RoomROk ops sh ks Oi.length k) (inv:HeadInv .any ops k listed) (hik:i<k) (hs:i<listed.size) (hu:listed.getD i false=false) (hf:ks[i]?=some f):
 RoomR ks Oi k (listed.setIfInBounds i true) (f.run Ov):=by
 have hself:(listed.setIfInBounds i true).getD i false=true:=by simp [hs]
 have hcnt:=count_set (f:=isPut ks) hik hs hu
 have hlen:=h.len
 have hp:isPut ks i=f.isPut:=by unfold isPut;rw [hf];rfl
 rw [hp] at hcnt
 have hrl:(f.run Ov).length=Ov.length+(if f.isPut=true then 1 else 0):=by cases f<;>simp [Fil.run,Fil.isPut]
 have hle:Oi.length≤Ov.length:=by omega
 have hoth:∀q,q<Ov.length→(∀ p ob,f.spot=some (p,ob)→p≠q)→(f.run Ov)[q]?=Ov[q]?:=by
  intro q hq hne
  cases f with
  |none=>rfl
  |put p ob=>
   have:=hne p ob rfl
   unfold Fil.run
   rw [List.getElem?_append_left (by simpa using hq),List.getElem?_set,if_neg this]
  |step p ob=>
   have:=hne p ob rfl
   unfold Fil.run
   rw [List.getElem?_set,if_neg this]
 have hown:∀p ob,f.spot=some (p,ob)→(f.run Ov)[p]?=some ob:=by
  intro p ob e
  have hpc:=ok.lt i f p ob hik hf e
  cases f with
  |none=>cases e
  |put p' ob'=>
   cases e
   unfold Fil.run
   rw [List.getElem?_append_left (by rw [List.length_set];omega),List.getElem?_set_self (by omega)]
  |step p' ob'=>
   cases e
   unfold Fil.run
   rw [List.getElem?_set_self (by omega)]
 refine ⟨by rw [hrl,hcnt,hlen];split<;>omega,fun q hq=>?_,fun q h1 h2=>?_⟩
 ·by_cases hq2:∃ob,f.spot=some (q,ob)
  ·obtain ⟨ob,hsp⟩:=hq2
   refine .inl ⟨i,f,ob,hik,hself,hf,hsp,fun j g oc hj hjk hl hg hs2=>?_,hown q ob hsp⟩
   rw [getD_set_ne false (by omega)] at hl
   obtain ⟨_,o',ho',hw⟩:=ok.chain i j f g q ob oc hj hjk hf hg hsp hs2
   obtain ⟨e,he,hb,rfl⟩:=waits_spec hw
   have:=inv.closed j o' ho' hl e he hb
   rw [hu] at this;cases this
  ·have hne:∀p ob,f.spot=some (p,ob)→p≠q:=fun p ob hsp e=>hq2 ⟨ob,e▸hsp⟩
   rw [hoth q (by omega) hne]
   rcases h.cur q hq with ⟨j,g,oc,hjk,hl,hg,hs2,hlast,hv⟩|⟨hno,hv⟩
   ·have hij:i≠j:=by rintro rfl;rw [hu] at hl;cases hl
    refine .inl ⟨j,g,oc,hjk,by rw [getD_set_ne false hij];exact hl,hg,hs2,fun j2 g2 oc2 h1 h2 h3 h4=>?_,hv⟩
    by_cases e:i=j2
    ·subst e;rw [hf] at h4;cases h4;exact fun h5=>hq2 ⟨_,h5⟩
    ·rw [getD_set_ne false e] at h3;exact hlast j2 g2 oc2 h1 h2 h3 h4
   ·refine .inr ⟨fun j2 g2 oc2 h2 h3 h4=>?_,hv⟩
    by_cases e:i=j2
    ·subst e;rw [hf] at h4;cases h4;exact fun h5=>hq2 ⟨_,h5⟩
    ·rw [getD_set_ne false e] at h3;exact hno j2 g2 oc2 h2 h3 h4
 ·rcases Nat.lt_or_ge q Ov.length with h3|h3
  ·rw [hoth q h3 (fun p ob e1=>by have:=ok.lt i f p ob hik hf e1;omega)]
   exact h.dead q h1 h3
  ·cases f with
   |none=>exact absurd h2 (by simp [Fil.run];omega)
   |step p ob=>exact absurd h2 (by simp [Fil.run];omega)
   |put p ob=>
    simp [Fil.run] at h2
    have e:q=Ov.length:=by omega
    subst e
    unfold Fil.run
    rw [List.getElem?_append_right (by simp)];simp
def GoodR (n m:Nat) (G:Ctx) (T0 out:List (Nat×AV)) (O Oi:List AObj) (k:Nat) (ks:List Fil) (listed:Array Bool) (a:Act) (w:World):Prop:=
 ∃T Ov,Rel n m G ⟨T,O++Ov⟩ a w∧RoomR ks Oi k listed Ov∧(∀ (i d:Nat) (V:AV),out[i]?=some (d,V)→listed.getD i false=true→look T d=V)∧∀t,has out t=false→look T t=look T0 t
theorem head_stepR {out:List (Nat×AV)} {ks:List Fil} {k:Nat} (H:Heads ops T0 out k) (ok:RoomROk ops sh ks Oi.length k) (hkp:∀q,memB q keep=true→q<Oi.length∧∀i f p ob,i<k→ks[i]?=some f→f.spot=some (p,ob)→p≠q) {Q:Exit→Act→World→Prop} (hJ:∀{j:Nat} {o:Oper},j<k→ops[j]?=some o→∃d V f,out[j]?=some (d,V)∧ks[j]?=some f∧
 ∀Tv Ov,Oi.length≤Ov.length→(∀ p ob,f.spot=some (p,ob)→Ov[p]?=(fillAll (ks.take j) Oi)[p]?)→(∀ i f p ob,waits o i=true→(ks.take j)[i]?=some f→f.spot=some (p,ob)→memB p sh=false→Ov[p]?=some ob)→(∀ q,memB q keep=true→Ov[q]?=Oi[q]?)→WpL P n m G false ops [o] ⟨deps (out.take j) o++(T0++Tv),O++Ov⟩ (Only ⟨(d,V)::(deps (out.take j) o++(T0++Tv)),O++f.run Ov⟩))
 {listed:Array Bool} (inv:HeadInv .any ops k listed) {i:Nat} (hi:i∈Region.ready .any ops listed) (hik:i<k) {a w} (hg:GoodR n m G T0 out O Oi k ks listed a w) {K:Act→World→Prop}
 (hK:∀a' w',GoodR n m G T0 out O Oi k ks (listed.setIfInBounds i true) a' w'→K a' w'):wpOp P ops Q i K a w:=by
 obtain ⟨hun,o,ho,hall⟩:=mem_ready.1 hi
 obtain ⟨T,Ov,hr,hroom,h1,h2⟩:=hg
 obtain ⟨d,V,f,hout,hkf,hw⟩:=hJ hik ho
 have hF:∀t U,(t,U)∈deps (out.take i) o→look T t=U:=by
  intro t U hm
  simp only [deps,List.mem_filterMap] at hm
  obtain ⟨e,he,hx⟩:=hm
  split at hx
  ·rename_i hb
   have he':e∈o.after:=by simpa using he
   have hx':out[e.on]?=some (t,U):=by
    rw [List.getElem?_take] at hx
    split at hx
    ·exact hx
    ·simp at hx
   exact h1 _ _ _ hx' (hall e he' hb)
  ·simp at hx
 have same:∀t,look (deps (out.take i) o++(T0++T)) t=look T t:=by
  intro t
  rw [look_append]
  split
  ·rename_i h;exact (hF _ _ (has_look h)).symm
  ·rw [look_append]
   split
   ·rename_i h
    refine (h2 t ?_).symm
    cases hc:has out t with
    |false=>rfl
    |true=>have:=H.fresh _ (has_look hc);simp only at this;rw [this] at h;cases h
   ·rfl
 have hiu:listed.getD i false=false:=getD_both hun
 have hdep:∀j g p ob,waits o j=true→(ks.take i)[j]?=some g→g.spot=some (p,ob)→memB p sh=false→Ov[p]?=some ob:=by
  intro j g p ob hwt hg hsp hsh
  obtain ⟨e,he,hb,rfl⟩:=waits_spec hwt
  have hl:=hall e he hb
  rw [List.getElem?_take] at hg
  split at hg
  ·rename_i hji
   have hp:=ok.lt e.on g p ob (by omega) hg hsp
   rcases hroom.cur p hp with ⟨j2,g2,oc,hjk,hl2,hg2,hs2,hlast,hv⟩|⟨hno,hv⟩
   ·have hj:j2=e.on:=by
     rcases Nat.lt_trichotomy j2 e.on with h3|h3|h3
     ·have:=(ok.chain j2 e.on g2 g p oc ob h3 (by omega) hg2 hg hs2 hsp).1
      rw [hsh] at this;cases this
     ·exact h3
     ·have:=(ok.chain e.on j2 g g2 p ob oc h3 hjk hg hg2 hsp hs2).1
      rw [hsh] at this;cases this
    subst hj
    rw [hg] at hg2;cases hg2
    rw [hsp] at hs2;cases hs2
    exact hv
   ·exact absurd hsp (hno e.on g ob (by omega) hl hg)
  ·cases hg
 have hrest:∀q,memB q keep=true→Ov[q]?=Oi[q]?:=by
  intro q hq
  obtain ⟨hlt,hno⟩:=hkp q hq
  rcases hroom.cur q hlt with ⟨j,g,oc,hjk,_,hg,hs2,_,_⟩|⟨_,hv⟩
  ·exact absurd rfl (hno j g q oc hjk hg hs2)
  ·exact hv
 have hw':=hw T Ov (by rw [hroom.len];omega) (fun p ob e=>hroom.before ok inv hik hiu hall ho hkf e) hdep hrest a w (hr.relook same)
 have hst:=hroom.step ok inv hik (by rw [inv.size];have:=(Array.getElem?_eq_some_iff.1 ho).1;omega) hiu hkf
 simp only at hw'
 have good:∀a' w',Rel n m G ⟨(d,V)::(deps (out.take i) o++(T0++T)),O++f.run Ov⟩ a' w'→GoodR n m G T0 out O Oi k ks (listed.setIfInBounds i true) a' w':=by
  intro a' w' hr'
  refine ⟨_,_,hr',hst,fun j d' V' hj hl=>?_,fun t ht=>?_⟩
  ·by_cases hij:i=j
   ·subst hij;rw [hout] at hj;cases hj;exact look_cons_same _ _ _
   ·rw [getD_set_ne false hij] at hl
    have hne:d≠d':=by rintro rfl;exact hij (out_inj H.nodup hout hj)
    rw [look_cons_other _ _ _ _ hne,same]
    exact h1 _ _ _ hj hl
  ·have hne:d≠t:=by
    rintro rfl
    have:=has_mem (List.mem_of_getElem? hout)
    rw [ht] at this;cases this
   rw [look_cons_other _ _ _ _ hne,same];exact h2 t ht
 have only:∀e a' w',(∃ σ',Only ⟨(d,V)::(deps (out.take i) o++(T0++T)),O++f.run Ov⟩ e σ'∧Rel n m G σ' a' w')→e=.normal∧K a' w':=by
  rintro e a' w' ⟨σ',hq,hr'⟩
  cases e<;>first|(simp only [Only] at hq;subst hq;exact ⟨rfl,hK _ _ (good _ _ hr')⟩)|exact hq.elim
 unfold wpOp
 simp only [ho]
 change wpList P ops _ [o] a w at hw'
 unfold wpList at hw'
 by_cases hwant:Region.wanted o (yielded ops a.tmps)=true
 ·rw [if_pos hwant] at hw' ⊢
  rcases hw' with hw'|⟨_,a',w',hx⟩
  ·refine .inl ?_
   unfold Oper.wp at hw' ⊢
   generalize (execOp a.eval o).run P w=r at*
   cases r with
   |ok x w1=>
    cases x<;>simp only [Oper.upon] at hw' ⊢
    case value v=>exact (only _ _ _ hw').2
    case skip=>exact (only _ _ _ hw').2
    case defer d=>exact (only _ _ _ hw').2
    case enter f args=>
     refine hw'.mono fun e w2 h2=>?_
     cases e with
     |returned v=>exact (only _ _ _ h2).2
     |panicked c=>exact absurd (only _ _ _ h2).1 (by simp)
     |outgrown=>obtain ⟨_,_,hf⟩:=h2;exact absurd (only _ _ _ hf).1 (by simp)
    case row r ar=>exact hw'.mono fun v w2 h2=>(only _ _ _ h2).2
   |halt x w1=>cases x<;>simp only [Oper.upon] at hw' ⊢<;>first|exact absurd (only _ _ _ hw').1 (by simp)|exact hw'.elim|(obtain ⟨_,_,hf⟩:=hw';exact absurd (only _ _ _ hf).1 (by simp))
  ·exact absurd (only _ _ _ hx).1 (by simp)
 ·rw [if_neg hwant] at hw' ⊢
  exact (only _ _ _ hw').2
theorem WpA.regionR {l:List Oper} {id:Nat} {out T1:List (Nat×AV)} {ks:List Fil} {Q:Exit→St→Prop} (k:Nat) (hm:P.follows .mixedOrders=true) (hB:mixB l.toArray k=true)
 (hJ:HeadR P n m G l.toArray T0 O Oi keep sh [] [] (l.take k) out ks) (hok:RoomROk l.toArray sh ks Oi.length k) (hkp:∀q,memB q keep=true→q<Oi.length∧∀i f p ob,i<k→ks[i]?=some f→f.spot=some (p,ob)→p≠q) (hnd:nodupB (out.map (·.1))=true) (hfr:(out.all fun p=>!has T0 p.1)=true)
 (hT1:out++T0=T1) (h:WpL P n m G false l.toArray (l.drop k) ⟨T1,O++(fillAll ks Oi++List.replicate ((List.range k).filter fun i=>isPut ks i).length deadO)⟩ Q):WpA P n m G (.region id l.toArray true) ⟨T0,O++Oi⟩ Q:=fun a w hr=>by
 subst hT1
 simp only [mixB,Bool.and_eq_true,decide_eq_true_eq,Bool.or_eq_true] at hB
 obtain ⟨⟨⟨hks,hback⟩,hsc⟩,hseq⟩:=hB
 have hkl:k≤l.length:=by simpa using hks
 have htl:(l.take k).length=k:=by simp;omega
 obtain ⟨r,s,hr1,hr2,hr3,hr4⟩:=hJ.pre
 have hlen:out.length=k:=by rw [hr1];simp [hr2];omega
 have hklen:ks.length=k:=by rw [hr3];simp [hr4];omega
 have H:Heads l.toArray T0 out k:=⟨hlen,nodupB_spec hnd,fun p hp=>by have:=List.all_eq_true.1 hfr p hp;simpa using this,fun i hi o ho e he hb=>by
  have h1:=List.all_eq_true.1 hback i (List.mem_range.2 hi)
  rw [ho] at h1
  have h2:=List.all_eq_true.1 h1 e (by simpa using he)
  simp only [Bool.or_eq_true,Bool.not_eq_true',decide_eq_true_eq] at h2
  rcases h2 with h2|h2
  ·rw [hb] at h2;cases h2
  ·exact h2⟩
 have hJ':∀{j:Nat} {o:Oper},j<k→l.toArray[j]?=some o→∃d V f,out[j]?=some (d,V)∧ks[j]?=some f∧
  ∀Tv Ov,Oi.length≤Ov.length→(∀ p ob,f.spot=some (p,ob)→Ov[p]?=(fillAll (ks.take j) Oi)[p]?)→(∀ i f p ob,waits o i=true→(ks.take j)[i]?=some f→f.spot=some (p,ob)→memB p sh=false→Ov[p]?=some ob)→(∀ q,memB q keep=true→Ov[q]?=Oi[q]?)→WpL P n m G false l.toArray [o] ⟨deps (out.take j) o++(T0++Tv),O++Ov⟩ (Only ⟨(d,V)::(deps (out.take j) o++(T0++Tv)),O++f.run Ov⟩):=by
  intro j o hj ho
  have ho':(l.take k)[j]?=some o:=by rw [List.getElem?_take,if_pos hj];simpa using ho
  have:=hJ.at rfl ho'
  simpa using this
 have inv0:HeadInv .any l.toArray k (Array.replicate l.toArray.size false):=
  ⟨by simp,fun j oj _ hl=>(by rw [getD_replicate_false] at hl;cases hl),fun t _ ht=>getD_in (by simpa using ht) (getD_replicate_false _ _)⟩
 have room0:RoomR ks Oi k (Array.replicate l.toArray.size false) Oi:=by
  refine ⟨?_,fun q _=>.inr ⟨fun j g oc _ hl=>(by rw [getD_replicate_false] at hl;cases hl),rfl⟩,fun q h1 h2=>by omega⟩
  have:((List.range k).filter fun i=>(Array.replicate l.toArray.size false).getD i false&&isPut ks i)=[]:=by
   rw [List.filter_eq_nil_iff];intro i _;rw [getD_replicate_false];simp
  rw [this];simp
 refine wp_region_any hm ?_
 have fin:=any_order (P:=P) (GP:=GoodR n m G T0 out O Oi k ks) (g:=l.toArray.size-k) (Q:=fun e a' w'=>∃σ',Q e σ'∧Rel n m G σ' a' w') H hks (fun hk=>hsc.resolve_left (by omega)) (fun inv _ hi hik _ _ hg _ hK=>head_stepR H hok hkp hJ' inv hi hik hg hK) (fun listed a w inv hall hg=>by
  obtain ⟨T,Ov,hrT,hroom,h1,h2⟩:=hg
  have hOv:Ov=fillAll ks Oi++List.replicate ((List.range k).filter fun i=>isPut ks i).length deadO:=by
   have hcnt:((List.range k).filter fun i=>listed.getD i false&&isPut ks i)=(List.range k).filter fun i=>isPut ks i:=by
    refine List.filter_congr fun i hi=>?_
    rw [hall i (List.mem_range.1 hi)];rfl
   have hlen:=hroom.len
   rw [hcnt] at hlen
   have hfl:=fillAll_len ks Oi
   apply List.ext_getElem?
   intro q
   rcases Nat.lt_or_ge q Oi.length with hq|hq
   ·rw [List.getElem?_append_left (by omega)]
    rcases hroom.cur q hq with ⟨j,g,oc,hjk,hl,hg,hs,hlast,hv⟩|⟨hno,hv⟩<;>rcases fillAll_cases ks Oi q hq with ⟨j2,g2,oc2,hg2,hs2,hlast2,hv2⟩|⟨hno2,hv2⟩
    ·have hj2k:j2<k:=by have:=(List.getElem?_eq_some_iff.1 hg2).1;omega
     have:j=j2:=by
      rcases Nat.lt_trichotomy j j2 with h3|h3|h3
      ·exact absurd hs2 (hlast j2 g2 oc2 h3 hj2k (hall j2 hj2k) hg2)
      ·exact h3
      ·exact absurd hs (hlast2 j g oc h3 hg)
     subst this
     rw [hg] at hg2;cases hg2
     rw [hs] at hs2;cases hs2
     rw [hv,hv2]
    ·exact absurd hs (hno2 j g oc hg)
    ·have hj2k:j2<k:=by have:=(List.getElem?_eq_some_iff.1 hg2).1;omega
     exact absurd hs2 (hno j2 g2 oc2 hj2k (hall j2 hj2k) hg2)
    ·rw [hv,hv2]
   ·rcases Nat.lt_or_ge q Ov.length with h3|h3
    ·rw [hroom.dead q hq h3,List.getElem?_append_right (by omega),List.getElem?_replicate,if_pos (by omega)]
    ·rw [List.getElem?_eq_none h3,List.getElem?_eq_none (by simp;omega)]
  subst hOv
  have hlist:listed=(Array.range l.toArray.size).map fun i=>decide (i<k):=by
   apply Array.ext
   ·simp [inv.size]
   ·intro i hi1 hi2
    have hi:i<l.toArray.size:=by rw [←inv.size];exact hi1
    by_cases hik:i<k
    ·have:=hall i hik
     simp [hi1] at this
     simp [this,hik]
    ·have:=inv.tail i (by omega) hi
     simp [hi1] at this
     simp [this,hik]
  have hdl:(l.drop k).length=l.toArray.size-k:=by simp
  rw [←hdl]
  refine wpAny_of_seq (l.drop k) k listed a w (fun j=>by simp [List.getElem?_drop]) (by rw [hdl,hlist];exact hseq) ?_
  refine h a w (hrT.relook fun t=>?_)
  rw [look_append]
  split
  ·rename_i hh
   obtain ⟨i,hi,hi2⟩:=List.getElem_of_mem (has_look hh)
   have:out[i]?=some (t,look out t):=by rw [List.getElem?_eq_getElem hi,hi2]
   exact (h1 i _ _ this (hall i (by omega))).symm
  ·rename_i hh
   exact (h2 t (by simpa using hh)).symm) k _ a w.drew inv0 (by
    have:((List.range k).filter fun i=>!(Array.replicate l.toArray.size false).getD i false)=List.range k:=by
     rw [List.filter_eq_self];intro i _;rw [getD_replicate_false];rfl
    rw [this];simp) ⟨T0,_,hr.drew,room0,⟨fun i d V _ hl=>(by rw [getD_replicate_false] at hl;cases hl),fun _ _=>rfl⟩⟩
 rw [show k+(l.toArray.size-k)=l.toArray.size by omega] at fin
 exact fin
def chainR (ops:Array Oper) (sh:List Nat) (c:Nat):Nat→List (Nat×Nat)→List Fil→Bool
 |_,_,[]=>true
 |j,seen,f::ks=>match f.spot with
  |none=>chainR ops sh c (j+1) seen ks
  |some (p,_)=>Nat.blt p c&&(seen.all fun s=>!Nat.beq s.1 p||(memB p sh&&match ops[j]? with|some o=>waits o s.2|none=>false))&&chainR ops sh c (j+1) ((p,j)::seen) ks
theorem chainR_lt {sh:List Nat} {c:Nat}:∀{ks:List Fil} {j:Nat} {seen:List (Nat×Nat)},chainR ops sh c j seen ks=true→∀i f p ob,ks[i]?=some f→f.spot=some (p,ob)→p<c∧∀s∈seen,s.1=p→memB p sh=true∧∃o,ops[j+i]?=some o∧waits o s.2=true
 |[],_,_,_,i,f,p,ob,h,_=>by simp at h
 |g::ks,j,seen,hB,i,f,p,ob,h,hs=>by
  unfold chainR at hB
  cases i with
  |zero=>
   simp at h;subst h
   rw [hs] at hB
   simp only [Bool.and_eq_true] at hB
   refine ⟨Nat.le_of_ble_eq_true hB.1.1,fun s hm e=>?_⟩
   have:=List.all_eq_true.1 hB.1.2 s hm
   simp only [Bool.or_eq_true,Bool.not_eq_true',Bool.and_eq_true] at this
   rcases this with h|⟨h1,h2⟩
   ·subst e;simp at h
   ·refine ⟨h1,?_⟩
    rw [Nat.add_zero]
    split at h2
    ·rename_i o ho;exact ⟨o,ho,h2⟩
    ·cases h2
  |succ i=>
   have e:j+(i+1)=j+1+i:=by omega
   rw [e]
   cases hg:g.spot with
   |none=>rw [hg] at hB;exact chainR_lt hB i f p ob (by simpa using h) hs
   |some x=>
    obtain ⟨p',ob'⟩:=x
    rw [hg] at hB
    simp only [Bool.and_eq_true] at hB
    have:=chainR_lt hB.2 i f p ob (by simpa using h) hs
    exact ⟨this.1,fun s hm e=>this.2 s (List.mem_cons_of_mem _ hm) e⟩
theorem chainR_pair {sh:List Nat} {c:Nat}:∀{ks:List Fil} {j:Nat} {seen:List (Nat×Nat)},chainR ops sh c j seen ks=true→∀i i2 f g p ob oc,i<i2→ks[i]?=some f→ks[i2]?=some g→f.spot=some (p,ob)→g.spot=some (p,oc)→memB p sh=true∧∃o,ops[j+i2]?=some o∧waits o (j+i)=true
 |[],_,_,_,i,i2,f,g,p,ob,oc,_,h,_,_,_=>by simp at h
 |x::ks,j,seen,hB,i,i2,f,g,p,ob,oc,hlt,h,h2,hs,hs2=>by
  unfold chainR at hB
  cases i2 with
  |zero=>omega
  |succ i2=>
   have e2:j+(i2+1)=j+1+i2:=by omega
   cases i with
   |zero=>
    simp at h;subst h
    rw [hs] at hB
    simp only [Bool.and_eq_true] at hB
    have:=(chainR_lt hB.2 i2 g p oc (by simpa using h2) hs2).2 (p,j) (by simp) rfl
    rw [e2];exact this
   |succ i=>
    have e:j+(i+1)=j+1+i:=by omega
    rw [e,e2]
    cases hg:x.spot with
    |none=>rw [hg] at hB;exact chainR_pair hB i i2 f g p ob oc (by omega) (by simpa using h) (by simpa using h2) hs hs2
    |some y=>
     obtain ⟨p',ob'⟩:=y
     rw [hg] at hB
     simp only [Bool.and_eq_true] at hB
     exact chainR_pair hB.2 i i2 f g p ob oc (by omega) (by simpa using h) (by simpa using h2) hs hs2
theorem roomROk_of {ks:List Fil} {c k:Nat} (h:chainR ops sh c 0 [] ks=true):RoomROk ops sh ks c k:=
 ⟨fun i f p ob _ hk hs=>(chainR_lt h i f p ob hk hs).1,fun i j f g p ob oc hij _ hi hj hf hg=>by
  have:=chainR_pair h i j f g p ob oc hij hi hj hf hg
  rw [Nat.zero_add,Nat.zero_add] at this;exact this⟩
theorem HeadR.consF {fs fs2 out:List (Nat×AV)} {gs gs2:List Fil} {o:Oper} {l:List Oper} {d:Nat} {V:AV} {F:List (Nat×AV)} {ks:List Fil} {cur:List AObj} (k:Fil) (hd:o.dst=some d) (hF:depsF fs o.after.toList=some F) (hcur:fillAll gs Oi=cur)
 (h:∀Tv Ov,Oi.length≤Ov.length→(∀ p ob,k.spot=some (p,ob)→Ov[p]?=cur[p]?)→(∀ j f p ob,waits o j=true→gs[j]?=some f→f.spot=some (p,ob)→memB p sh=false→Ov[p]?=some ob)→(∀ q,memB q keep=true→Ov[q]?=Oi[q]?)→WpL P n m G false ops [o] ⟨F++(T0++Tv),O++Ov⟩ (Only ⟨(d,V)::(F++(T0++Tv)),O++k.run Ov⟩)) (hs:catF fs [(d,V)]=some fs2) (hg:catF gs [k]=some gs2) (r:HeadR P n m G ops T0 O Oi keep sh fs2 gs2 l out ks):HeadR P n m G ops T0 O Oi keep sh fs gs (o::l) out ks:=by
 have:=catF_eq hs;subst this;have:=catF_eq hg;subst this;subst hcur
 exact .cons k (depsF_eq hF) h r
theorem Weak.any1 {d:Nat} {T:List (Nat×AV)}:Weak m ⟨T,O⟩ ⟨(d,.any)::T,O⟩:=by
 rintro n G a w ⟨S,ι,F,hr⟩
 refine ⟨S,ι,F,hr.defers,hr.size,fun t=>?_,hr.objs,hr.foot,hr.base,hr.stable,hr.keeps,hr.spots,hr.mle⟩
 show VRel S w ι O (look ((d,.any)::T) t) _ []
 by_cases he:d=t
 ·subst he;rw [look_cons_same];exact .any .nil
 ·rw [look_cons_other _ _ _ _ he];exact hr.tmps t
theorem HeadR.consN {fs fs2 out:List (Nat×AV)} {gs gs2:List Fil} {o:Oper} {l:List Oper} {F:List (Nat×AV)} {ks:List Fil} {cur:List AObj} (k:Fil) (d:Nat) (hF:depsF fs o.after.toList=some F) (hcur:fillAll gs Oi=cur)
 (h:∀Tv Ov,Oi.length≤Ov.length→(∀ p ob,k.spot=some (p,ob)→Ov[p]?=cur[p]?)→(∀ j f p ob,waits o j=true→gs[j]?=some f→f.spot=some (p,ob)→memB p sh=false→Ov[p]?=some ob)→(∀ q,memB q keep=true→Ov[q]?=Oi[q]?)→WpL P n m G false ops [o] ⟨F++(T0++Tv),O++Ov⟩ (Only ⟨(d,.any)::(F++(T0++Tv)),O++k.run Ov⟩)) (hs:catF fs [(d,.any)]=some fs2) (hg:catF gs [k]=some gs2) (r:HeadR P n m G ops T0 O Oi keep sh fs2 gs2 l out ks):HeadR P n m G ops T0 O Oi keep sh fs gs (o::l) out ks:=by
 have:=catF_eq hs;subst this;have:=catF_eq hg;subst this;subst hcur
 exact .cons k (depsF_eq hF) h r
theorem WpA.regionRF {l l1 l2:List Oper} {id:Nat} {out T1:List (Nat×AV)} {ks:List Fil} {Of Or O1:List AObj} {Q:Exit→St→Prop} (k c:Nat) (keep sh:List Nat) (hO0:Of=O++Or) (hm:P.follows .mixedOrders=true) (hB:mixB l.toArray k=true)
 (hl:takeF k l=some l1) (hJ:HeadR P n m G l.toArray T0 O (Or++List.replicate c roomO) keep sh [] [] l1 out ks) (hok:chainR l.toArray sh (Or.length+c) 0 [] ks=true) (hkp:keepB (Or.length+c) (spots ks) keep=true) (hnd:nodupB (out.map (·.1))=true) (hfr:(out.all fun p=>!has T0 p.1)=true)
 (hT1:catF out T0=some T1) (h2:l.drop k=l2) (hO:O++(fillAll ks (Or++List.replicate c roomO)++List.replicate ((List.range k).filter fun i=>isPut ks i).length deadO)=O1) (h:WpL P n m G false l.toArray l2 ⟨T1,O1⟩ Q):WpA P n m G (.region id l.toArray true) ⟨T0,Of⟩ Q:=by
 have:=takeF_eq hl;subst this;subst h2;subst hO;subst hO0
 have hc:(Or++List.replicate c roomO).length=Or.length+c:=by simp
 have hw:=WpA.regionR (Q:=Q) (id:=id) k hm hB hJ (by rw [hc];exact roomROk_of hok) (fun q hq=>by rw [hc];exact keepB_of hkp hq) hnd hfr (catF_eq hT1) h
 have hr:=Weak.rooms (m:=m) (T:=T0) c (O++Or)
 rw [List.append_assoc] at hr
 exact WpA.weak hr hw
end
end Go.Abs
