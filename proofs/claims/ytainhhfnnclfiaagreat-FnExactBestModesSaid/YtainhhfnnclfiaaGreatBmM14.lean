/- Proved in this text: lemmas and contracts of functions that the claim uses (parts: Nba, Res2, Res3, Putc, Work, BldI, BldR, LevP, EncP, AbsNf, AbsYb, AbsPre, RdL, RdM, Cat, Ue, Rd, RdS, Fld, RdH, RdHs, Enc). No condition. -/
import Derived.Test.YtainhhfnnclfiaaGreatBmM13
import Derived.Test.YtainhhfnnclfiaaGreatBmM10
import Derived.Test.YtainhhfnnclfiaaGreatBmM11
import Derived.Test.YtainhhfnnclfiaaGreatBmM7
import Derived.Test.YtainhhfnnclfiaaGreatBmM12
import Derived.Test.YtainhhfnnclfiaaGreatBmM6
import Derived.Test.YtainhhfnnclfiaaGreatBmM9
set_option linter.unusedVariables false
set_option linter.unusedSimpArgs false
set_option maxRecDepth 100000
set_option maxHeartbeats 16000000


namespace Go.Proofs.YtainhhfnnclfiaaGreat
open Go Go.Abs
attribute [local irreducible] WpA WpL Rnd Blk Abs.Seq Abs.Fin Abs.FinG FnC FnG Only
theorem topF_eq (W:Int) (p:List Int) (x y n:Int) (hn:0<n) (k:Nat):topF W p x y n k=if y=0 then 128 else if (k:Int)<n∨(y%8=0∧x+k<W) then p.getD ((y-1)*W+x+k).toNat 0 else topF W p x y n (k-1):=by
 cases k with
 |zero=>
  rw [topF]
  split
  ·rfl
  ·rw [if_pos (.inl (by simpa using hn))]
 |succ k=>rw [topF];rfl
theorem nb_ix {W H:Int} {p:List Int} {x y n:Int} (h:Fits W H p x y n) {k:Nat} (hk:(k:Int)<2*n) (hy:y≠0) (hc:(k:Int)<n∨(y%8=0∧x+k<W)):0≤(y-1)*W∧(y-1)*W≤1024∧(y-1)*W+x+k<p.length:=by
 obtain ⟨h0,h1,hx,hy2,_⟩:=h
 have:=ix_in h0 (a:=y-1) (b:=x+k) (by omega) (by omega)
 omega
theorem nb_lx {W H:Int} {p:List Int} {x y n:Int} (h:Fits W H p x y n) {k:Nat} (hk:(k:Int)<n) (hx0:0<x):0≤(y+k)*W∧(y+k)*W≤1024∧(y+k)*W+x-1<p.length:=by
 obtain ⟨h0,h1,hx,hy2,_⟩:=h
 have:=ix_in h0 (a:=y+k) (b:=x-1) (by omega) (by omega)
 omega
theorem nb_cx {W H:Int} {p:List Int} {x y n:Int} (h:Fits W H p x y n) (hx0:0<x) (hy0:0<y):0≤(y-1)*W∧(y-1)*W≤1024∧(y-1)*W+x-1<p.length:=by
 obtain ⟨h0,h1,hx,hy2,_⟩:=h
 have:=ix_in h0 (a:=y-1) (b:=x-1) (by omega) (by omega)
 omega
abbrev NbOwn (W H:Int) (p:List Int) (x y n:Int):AV:=.agg [.own 0 0 0 (topL W H p x y n).length,.own 1 0 0 (lefL W H p x y n).length,I (corL W H p x y n),B (hasT W H p x y n),B (hasE W H p x y n)]
abbrev Nb0:AObj:=⟨[.nilS,.nilS,I 0,B false,B false],0,0,none⟩
attribute [local irreducible] topF lefF
instance NbAt_c:Con 136 (∀ (W H:Int) (p:List Int) (x y n:Int),p.length≤1099511627776→Fn 136 [FrA W H p,I x,I y,I n] [XI (topL W H p x y n),XI (lefL W H p x y n)] (NbOwn W H p x y n)):=⟨fun W H p x y n hl=>by
 by_cases h:Fits W H p x y n
 ·have ht:topL W H p x y n=tabL (topF W p x y n) (2*n).toNat:=by unfold topL;rw [if_pos h]
  have hle:lefL W H p x y n=tabL (lefF W p x y) n.toNat:=by unfold lefL;rw [if_pos h]
  have hco:corL W H p x y n=if 0<x∧0<y then p.getD ((y-1)*W+x-1).toNat 0 else 128:=by unfold corL;rw [if_pos h]
  have hhT:hasT W H p x y n=decide (0<y):=by unfold hasT;rw [Bool.eq_iff_iff];simp only [decide_eq_true_eq];exact ⟨fun hh=>hh.2,fun hh=>⟨h,hh⟩⟩
  have hhE:hasE W H p x y n=decide (0<x):=by unfold hasE;rw [Bool.eq_iff_iff];simp only [decide_eq_true_eq];exact ⟨fun hh=>hh.2,fun hh=>⟨h,hh⟩⟩
  unfold NbOwn
  rw [ht,hle,hco,hhT,hhE,tabL_len,tabL_len]
  have hd:=decide_eq_true h
  obtain ⟨h0,h1,hx,hy,_⟩:=id h
  refine FnC.of_body tabOk Tryz.func136 Tryz.ntmps136 rfl (by decide +kernel) (by simp) fun G=>?_
  refine go (r:=?_);and_intros<;>intros<;>try exact True.intro
  all_goals first|contradiction|(exact absurd h (by assumption))|skip
  refine WpA.loop (fun k:Nat=>⟨[(1,I x),(2,I y),(3,I n),(4,.ptr 0 0 0),(8,.ptr 1 0 0),(9,.ptr 2 0 0),(27,I (2*n)),(28,I k)],[FrO W H p,Nb0,⟨[.own 3 0 0 k,.nilS,I 128,B (decide (0<y)),B (decide (0<x))],0,0,none⟩,XI (tabL (topF W p x y n) k)]⟩) (fun k=>(k:Int)≤2*n) (fun k=>(2*n).toNat-k) 0 (by omega) ?_ ?_
  ·exact Weak.nil1 (by first|(show 0≤_;exact Nat.zero_le _)|(repeat' (first|exact RzT.nil|refine RzT.cons ?_ ?_|exact Rz.nil|refine Rz.keep rfl rfl ?_|refine Rz.own rfl rfl rfl rfl rfl (by first|rfl|omega|(simp;done)) ?_|refine Rz.ptr rfl rfl rfl rfl ?_|refine Rz.nilO rfl rfl rfl (by first|rfl|omega|(simp;done)) ?_|refine Rz.agg ?_ ?_|exact RzO.last rfl|(refine RzO.cons ?_ (.inr rfl) ?_)|exact Rz.same rfl (still_ints _)|exact Rz.same rfl (still_rows (fun _=>rfl) _)))) (by first|(show 0≤_;exact Nat.zero_le _)|(repeat' (first|exact RzT.nil|refine RzT.cons ?_ ?_|exact Rz.nil|refine Rz.keep rfl rfl ?_|refine Rz.own rfl rfl rfl rfl rfl (by first|rfl|omega|(simp;done)) ?_|refine Rz.ptr rfl rfl rfl rfl ?_|refine Rz.nilO rfl rfl rfl (by first|rfl|omega|(simp;done)) ?_|refine Rz.agg ?_ ?_|exact RzO.last rfl|(refine RzO.cons ?_ (.inr rfl) ?_)|exact Rz.same rfl (still_ints _)|exact Rz.same rfl (still_rows (fun _=>rfl) _)))) (Nat.le_of_ble_eq_true rfl)
  intro k hk
  try simp only at hk ⊢
  have hkl:=tabL_len (topF W p x y n) k
  by_cases hlt:(k:Int)<2*n
  ·have hq:=topF_eq W p x y n (by omega) k
   have hsn:=tabL_snoc (topF W p x y n) k
   by_cases hy0:y=0
   ·rw [if_pos hy0] at hq
    rw [hq] at hsn
    refine go (r:=?_);and_intros<;>intros<;>try exact True.intro
    all_goals first|contradiction|omega|exact hsn.symm
   ·rw [if_neg hy0] at hq
    by_cases hc:(k:Int)<n∨(y%8=0∧x+k<W)
    ·rw [if_pos hc] at hq
     rw [hq] at hsn
     obtain ⟨b1,b2,b3⟩:=nb_ix h hlt hy0 hc
     by_cases hc0:(k:Int)<n
     ·refine go (r:=?_);and_intros<;>intros<;>try exact True.intro
      refine WpL.openAny (t:=48) rfl (fun v0=>?_)
      by_cases hv:v0=.bool true
      ·subst hv
       refine go (r:=?_);and_intros<;>intros<;>try exact True.intro
       all_goals first|contradiction|omega|exact hsn.symm
      ·repeat (refine WpL.guardV (σ:=⟨_,_⟩) rfl rfl (by decide) rfl hv rfl ?_)
       refine go (r:=?_);and_intros<;>intros<;>try exact True.intro
       all_goals first|contradiction|omega|exact hsn.symm
     ·obtain ⟨hc1,hc2⟩:y%8=0∧x+k<W:=hc.resolve_left hc0
      refine go (r:=?_);and_intros<;>intros<;>try exact True.intro
      all_goals first|contradiction|omega|exact hsn.symm
    ·rw [if_neg hc] at hq
     rw [hq] at hsn
     have hk0:0<k:=by omega
     have ek:((k:Int)-1).toNat=k-1:=by omega
     have hge:(tabL (topF W p x y n) k).getD (k-1) 0=topF W p x y n (k-1):=tabL_get (by omega)
     by_cases hc0:(k:Int)<n
     ·exact absurd (.inl hc0) hc
     by_cases hc1:y%8=0
     ·have hc2:¬x+k<W:=fun hh=>hc (.inr ⟨hc1,hh⟩)
      refine go (r:=?_);and_intros<;>intros<;>try exact True.intro
      all_goals first|contradiction|omega|(rw [ek,hge];exact hsn.symm)
     ·refine go (r:=?_);and_intros<;>intros<;>try exact True.intro
      all_goals first|contradiction|omega|(rw [ek,hge];exact hsn.symm)
  ·have hke:k=(2*n).toNat:=by omega
   subst hke
   refine go (r:=?_);and_intros<;>intros<;>try exact True.intro
   all_goals first|contradiction|omega|skip
   refine WpA.loop (fun k:Nat=>⟨[(1,I x),(2,I y),(4,.ptr 0 0 0),(8,.ptr 1 0 0),(9,.ptr 2 0 0),(77,I n),(78,I k)],[FrO W H p,Nb0,⟨[.own 3 0 0 (2*n).toNat,.own 4 0 0 k,I 128,B (decide (0<y)),B (decide (0<x))],0,0,none⟩,XI (tabL (topF W p x y n) (2*n).toNat),XI (tabL (lefF W p x y) k)]⟩) (fun k=>(k:Int)≤n) (fun k=>n.toNat-k) 0 (by omega) ?_ ?_
   ·exact Weak.nil1 (by first|(show 0≤_;exact Nat.zero_le _)|(repeat' (first|exact RzT.nil|refine RzT.cons ?_ ?_|exact Rz.nil|refine Rz.keep rfl rfl ?_|refine Rz.own rfl rfl rfl rfl rfl (by first|rfl|omega|(simp;done)) ?_|refine Rz.ptr rfl rfl rfl rfl ?_|refine Rz.nilO rfl rfl rfl (by first|rfl|omega|(simp;done)) ?_|refine Rz.agg ?_ ?_|exact RzO.last rfl|(refine RzO.cons ?_ (.inr rfl) ?_)|exact Rz.same rfl (still_ints _)|exact Rz.same rfl (still_rows (fun _=>rfl) _)))) (by first|(show 0≤_;exact Nat.zero_le _)|(repeat' (first|exact RzT.nil|refine RzT.cons ?_ ?_|exact Rz.nil|refine Rz.keep rfl rfl ?_|refine Rz.own rfl rfl rfl rfl rfl (by first|rfl|omega|(simp;done)) ?_|refine Rz.ptr rfl rfl rfl rfl ?_|refine Rz.nilO rfl rfl rfl (by first|rfl|omega|(simp;done)) ?_|refine Rz.agg ?_ ?_|exact RzO.last rfl|(refine RzO.cons ?_ (.inr rfl) ?_)|exact Rz.same rfl (still_ints _)|exact Rz.same rfl (still_rows (fun _=>rfl) _)))) (Nat.le_of_ble_eq_true rfl)
   intro k hk
   try simp only at hk ⊢
   have hkl2:=tabL_len (lefF W p x y) k
   by_cases hlt2:(k:Int)<n
   ·have hsn:=tabL_snoc (lefF W p x y) k
    by_cases hx0:0<x
    ·obtain ⟨b1,b2,b3⟩:=nb_lx h hlt2 hx0
     have hq:lefF W p x y k=p.getD ((y+k)*W+x-1).toNat 0:=by unfold lefF;rw [if_pos hx0]
     rw [hq] at hsn
     refine go (r:=?_);and_intros<;>intros<;>try exact True.intro
     all_goals first|contradiction|omega|exact hsn.symm
    ·have hq:lefF W p x y k=128:=by unfold lefF;rw [if_neg hx0]
     rw [hq] at hsn
     refine go (r:=?_);and_intros<;>intros<;>try exact True.intro
     all_goals first|contradiction|omega|exact hsn.symm
   ·have hke:k=n.toNat:=by omega
    subst hke
    by_cases hx0:0<x
    ·by_cases hy0:0<y
     ·obtain ⟨b1,b2,b3⟩:=nb_cx h hx0 hy0
      rw [if_pos ⟨hx0,hy0⟩]
      refine go (r:=?_);and_intros<;>intros<;>try exact True.intro
      all_goals first|contradiction|omega
     ·rw [if_neg (fun hh=>hy0 hh.2)]
      refine go (r:=?_);and_intros<;>intros<;>try exact True.intro
      all_goals first|contradiction|omega
    ·rw [if_neg (fun hh=>hx0 hh.1)]
     refine go (r:=?_);and_intros<;>intros<;>try exact True.intro
     all_goals first|contradiction|omega
 ·have ht:topL W H p x y n=[]:=by unfold topL;rw [if_neg h]
  have hle:lefL W H p x y n=[]:=by unfold lefL;rw [if_neg h]
  have hco:corL W H p x y n=0:=by unfold corL;rw [if_neg h]
  have hhT:hasT W H p x y n=false:=by unfold hasT;rw [decide_eq_false_iff_not];exact fun hh=>h hh.1
  have hhE:hasE W H p x y n=false:=by unfold hasE;rw [decide_eq_false_iff_not];exact fun hh=>h hh.1
  unfold NbOwn
  rw [ht,hle,hco,hhT,hhE]
  have hd:=decide_eq_false h
  refine FnC.of_body tabOk Tryz.func136 Tryz.ntmps136 rfl (by decide +kernel) (by simp) fun G=>?_
  refine go (r:=?_);and_intros<;>intros<;>try exact True.intro
  all_goals first|contradiction|omega⟩
end Go.Proofs.YtainhhfnnclfiaaGreat


namespace Go.Proofs.YtainhhfnnclfiaaGreat
open Go Go.Abs
attribute [local irreducible] WpA WpL Rnd Blk Abs.Seq Abs.Fin Abs.FinG FnC FnG Only
theorem rnd_snoc (f:Int→Int) (l:List Int) (k:Nat) (h:k<l.length):(l.take k).map f++[f (l.getD k 0)]=(l.take (k+1)).map f:=qz_snoc f l k h
instance Rounded_s:Con 231 (∀ (l:List Int),l.length≤1099511627776→Fn 231 [IL l] [XI (rndL l)] (.own 0 0 0 (rndL l).length)):=⟨fun l hl=>by
 have hsd:=side_cases l.length
 refine FnC.of_body tabOk Tryz.func231 Tryz.ntmps231 rfl (by decide +kernel) (by simp) fun G=>?_
 by_cases h:0<side l.length
 ·have he:rndL l=l.map (rnd1 l.length):=by unfold rndL;rw [if_pos h]
  by_cases h16:l.length=16
  ·refine go (r:=?_);and_intros<;>intros<;>try exact True.intro
   refine WpA.loop (fun k:Nat=>⟨[(0,IL l),(3,.own 0 0 0 k),(4,I k)],[XI ((l.take k).map (rnd1 l.length))]⟩) (fun k=>k≤l.length) (fun k=>l.length-k) 0 (by omega) (go (r:=?_)) (fun k hk=>?_)
   ·simp
   have hlk:((l.take k).map (rnd1 l.length)).length=k:=by simp;omega
   have hsn:=rnd_snoc (rnd1 l.length) l k
   have e1:rnd1 l.length (l.getD k 0)=(max (-1000000000000) (min 1000000000000 (l.getD k 0))+800)/1600:=by unfold rnd1;rw [if_pos h16]
   refine go (r:=?_);and_intros<;>intros<;>try exact True.intro
   all_goals first|(rw [←hsn (by omega),e1];done)|(rw [←hsn (by omega),e1];rfl)|skip
   all_goals have e:k=l.length:=by omega
   all_goals subst e
   ·rw [he,List.length_map]
   ·rw [he,List.take_length]
  ·refine go (r:=?_);and_intros<;>intros<;>try exact True.intro
   refine WpA.loop (fun k:Nat=>⟨[(0,IL l),(3,.own 0 0 0 k),(4,I k)],[XI ((l.take k).map (rnd1 l.length))]⟩) (fun k=>k≤l.length) (fun k=>l.length-k) 0 (by omega) (go (r:=?_)) (fun k hk=>?_)
   ·simp
   have hlk:((l.take k).map (rnd1 l.length)).length=k:=by simp;omega
   have hsn:=rnd_snoc (rnd1 l.length) l k
   have e1:rnd1 l.length (l.getD k 0)=(max (-1000000000000) (min 1000000000000 (l.getD k 0))+32)/64:=by unfold rnd1;rw [if_neg h16]
   refine go (r:=?_);and_intros<;>intros<;>try exact True.intro
   all_goals first|(rw [←hsn (by omega),e1];done)|(rw [←hsn (by omega),e1];rfl)|skip
   all_goals have e:k=l.length:=by omega
   all_goals subst e
   ·rw [he,List.length_map]
   ·rw [he,List.take_length]
 ·have e:rndL l=[]:=by unfold rndL;rw [if_neg h]
  refine go (r:=?_);and_intros<;>intros<;>try exact True.intro
  refine WpA.loop (fun k:Nat=>⟨[(0,IL l),(3,.own 0 0 0 0),(4,I 0)],[XI []]⟩) (fun k=>k≤0) (fun k=>l.length-k) 0 (by omega) (go (r:=trivial)) (fun k hk=>?_)
  refine go (r:=?_);and_intros<;>intros<;>try exact True.intro
  all_goals first|(rw [e];done)|(rw [e];rfl)⟩
instance Rounded_c:Con 258 (∀ (l:List Int),l.length≤1099511627776→Fn 258 [IL l] [XI (rndL l)] (.own 0 0 0 (rndL l).length)):=⟨fun l hl=>by
 have hsd:=side_cases l.length
 refine FnC.of_body tabOk Tryz.func258 Tryz.ntmps258 rfl (by decide +kernel) (by simp) fun G=>?_
 by_cases h:0<side l.length
 ·have he:rndL l=l.map (rnd1 l.length):=by unfold rndL;rw [if_pos h]
  by_cases h16:l.length=16
  ·have e4:side l.length=4:=by omega
   refine go (r:=?_);and_intros<;>intros<;>try exact True.intro
   refine WpA.loop (fun k:Nat=>⟨[(3,I 1600),(4,.own 0 0 0 k),(15,IL l),(16,I l.length),(17,I k)],[XI ((l.take k).map (rnd1 l.length))]⟩) (fun k=>k≤l.length) (fun k=>l.length-k) 0 (by omega) (go (r:=?_)) (fun k hk=>?_)
   ·simp
   have hlk:((l.take k).map (rnd1 l.length)).length=k:=by simp;omega
   have hsn:=rnd_snoc (rnd1 l.length) l k
   have e1:rnd1 l.length (l.getD k 0)=(max (-1000000000000) (min (l.getD k 0) 1000000000000)+800)/1600:=by unfold rnd1;rw [if_pos h16,Int.min_comm]
   refine go (r:=?_);and_intros<;>intros<;>try exact True.intro
   all_goals first|(rw [←hsn (by omega),e1];done)|(rw [←hsn (by omega),e1];rfl)|skip
   all_goals have e:k=l.length:=by omega
   all_goals subst e
   ·rw [he,List.length_map]
   ·rw [he,List.take_length]
  ·have e8:side l.length=8:=by omega
   refine go (r:=?_);and_intros<;>intros<;>try exact True.intro
   refine WpA.loop (fun k:Nat=>⟨[(3,I 64),(4,.own 0 0 0 k),(15,IL l),(16,I l.length),(17,I k)],[XI ((l.take k).map (rnd1 l.length))]⟩) (fun k=>k≤l.length) (fun k=>l.length-k) 0 (by omega) (go (r:=?_)) (fun k hk=>?_)
   ·simp
   have hlk:((l.take k).map (rnd1 l.length)).length=k:=by simp;omega
   have hsn:=rnd_snoc (rnd1 l.length) l k
   have e1:rnd1 l.length (l.getD k 0)=(max (-1000000000000) (min (l.getD k 0) 1000000000000)+32)/64:=by unfold rnd1;rw [if_neg h16,Int.min_comm]
   refine go (r:=?_);and_intros<;>intros<;>try exact True.intro
   all_goals first|(rw [←hsn (by omega),e1];done)|(rw [←hsn (by omega),e1];rfl)|skip
   all_goals have e:k=l.length:=by omega
   all_goals subst e
   ·rw [he,List.length_map]
   ·rw [he,List.take_length]
 ·have e:rndL l=[]:=by unfold rndL;rw [if_neg h]
  have e0:side l.length=0:=by omega
  refine go (r:=?_);and_intros<;>intros<;>try exact True.intro
  all_goals first|(rw [e];done)|(rw [e];rfl)⟩
def tA (r k:Nat):Int:=mx 4 k r
def T4:List (List Int):=(List.range 4).map fun r=>tabL (tA r) 4
def cellsT (r:Nat):List AV:=(List.range 4).map fun q=>if q<r then .fre 1 4 (ints (tabL (tA q) 4)) else .nilS
def invT (r:Nat):Nat→List AObj
 |0=>[⟨(cellsT r).set r .nilS,0,1,some 32⟩]
 |k+1=>[⟨(cellsT r).set r (.own 2 0 0 (k+1)),0,1,some 32⟩,⟨[.any],0,1,none⟩,XI (tabL (tA r) (k+1))]
theorem cellsT_nil {r:Nat} (h:r<4):cellsT r=(cellsT r).set r .nilS:=by
 rcases (by omega:r=0∨r=1∨r=2∨r=3) with rfl|rfl|rfl|rfl<;>rfl
theorem cellsT_succ {r:Nat} (h:r<4) (X:AV):((cellsT r).set r X).set r (.fre 1 4 (ints (tabL (tA r) 4)))=cellsT (r+1):=by
 rcases (by omega:r=0∨r=1∨r=2∨r=3) with rfl|rfl|rfl|rfl<;>rfl
theorem tnest {r:Nat} (h:r<4):flatO [⟨((cellsT r).set r (.own 2 0 0 4)).set r (.fre 1 4 (ints (tabL (tA r) 4))),0,1,some 32⟩,⟨[.any],0,1,none⟩,⟨[],1,0,none⟩]=some [⟨cellsT (r+1),0,1,some 32⟩,⟨[.any],0,1,none⟩,⟨[],1,0,none⟩]:=by
 rw [cellsT_succ h];rfl
theorem cellsT_still (r:Nat):(cellsT r).all AV.still=true:=by
 rw [List.all_eq_true];intro V hV;simp only [cellsT,List.mem_map] at hV;obtain ⟨q,_,rfl⟩:=hV
 split<;>rfl
theorem cellsT_len (r:Nat):(cellsT r).length=4:=by simp [cellsT]
theorem cellsT_4:cellsT 4=rows liF T4:=rfl
theorem cellsT_0:cellsT 0=[.nilS,.nilS,.nilS,.nilS]:=rfl
section
attribute [local irreducible] cellsT
instance turned_c:Con 288 (Fn 288 [LLn 4 A4] [⟨rows liF T4,0,1,some 32⟩] (.own 0 0 0 4)):=⟨by
 refine FnC.of_body tabOk Tryz.func288 Tryz.ntmps288 rfl (by decide +kernel) (by simp) fun G=>?_
 refine K.A ?_
 refine WpA.seq ?_
 refine WpA.regionF rfl ?_
 refine WpL.assign rfl (by decide) ?_
 refine WpL.nil ?_
 refine Abs.Seq.n ?_
 refine WpA.seq ?_
 refine WpA.regionF rfl ?_
 refine WpL.move rfl (by decide) ?_
 refine WpL.lenImm (TabOk.slice tabOk rfl).1 rfl (by decide) ?_
 refine WpL.make tabOk rfl rfl rfl (by decide) (by decide) rfl (by decide) ?_
 refine go (r:=?_);and_intros<;>intros<;>try exact True.intro
 refine WpA.loop (fun r:Nat=>⟨[(0,LLn 4 A4),(3,.own 0 0 0 4),(10,I 4),(11,I r)],[⟨cellsT r,0,1,some 32⟩]⟩) (fun r=>r≤4) (fun r=>4-r) 0 (by omega) (go (r:=?_)) (fun r hr=>?_)
 ·and_intros<;>first|trivial|rfl|exact .nil|exact .inr rfl|exact Re.same cellsT_0.symm (cellsT_still 0)
 by_cases h8:r=4
 ·subst h8
  refine go (r:=?_);and_intros<;>intros<;>try exact True.intro
  all_goals first|exact cellsT_4
 have hr8:r<4:=by omega
 have hcl:=cellsT_len r
 have hst:=cellsT_still r
 have hc0:=cellsT_nil hr8
 refine go (r:=?_);and_intros<;>intros<;>try exact True.intro
 refine WpA.loop (fun k:Nat=>⟨[(0,LLn 4 A4),(3,.own 0 0 0 4),(4,I r),(10,I 4),(11,I r),(15,I 4),(16,I k)],invT r k⟩) (fun k=>k≤4) (fun k=>4-k) 0 (by omega) (go (r:=?_)) (fun k hk=>?_)
 ·and_intros<;>first|trivial|rfl|exact .nil|exact .inr rfl|(exact hc0)|exact Re.same hc0 (by rw [←hc0];exact hst)
 by_cases hk8:k=4
 ·subst hk8
  refine WpA.weak (NestC.weak (id:=0) (offs:=[r]) (O2:=[⟨cellsT (r+1),0,1,some 32⟩,⟨[.any],0,1,none⟩,⟨[],1,0,none⟩]) ?_) ?_
  ·apply NestC.cons (off:=r) (j:=2) (O1:=[⟨cellsT (r+1),0,1,some 32⟩,⟨[.any],0,1,none⟩,⟨[],1,0,none⟩])
   ·exact rfl
   ·exact List.getElem?_set_self (by omega)
   ·exact rfl
   ·exact rfl
   ·decide
   ·exact rfl
   ·exact still_ints _
   ·exact rfl
   ·exact tnest hr8
   ·exact .nil
  have hst1:=cellsT_still (r+1)
  refine go (r:=?_);and_intros<;>intros<;>try exact True.intro
  all_goals first|exact Re.same rfl hst1
 have hA:=A4_ok.2.1 k (by omega)
 have hkl:=tabL_len (tA r) k
 have hval:(A4.getD k default).getD r 0=tA r k:=rfl
 have hA2:(A4.getD ((k:Nat):Int).toNat default).length=4:=hA
 have hAl:A4.length=4:=rfl
 have hval2:(A4.getD ((k:Nat):Int).toNat default).getD ((r:Nat):Int).toNat 0=tA r k:=rfl
 rcases k with _|k
 ·refine go (r:=?_);and_intros<;>intros<;>try exact True.intro
  all_goals first|exact Re.any Re.nil|exact .inl rfl|(rw [hval];rfl)|(rw [hval2];rfl)|(apply Re.setA (c:=cellsT r) (V:=.own 2 _ 0 _) (V':=.own 2 _ 0 _);(· apply Re.own (id:=2)<;>first|exact rfl|exact .nil);exact hst)|exact Re.same rfl hst
 ·refine go (r:=?_);and_intros<;>intros<;>try exact True.intro
  all_goals first|(rw [tabL_snoc _ (k+1),hval];done)|(rw [tabL_snoc _ (k+1),hval2];done)|(rw [tabL_snoc _ (k+1),←hval2];rfl)|exact Re.any Re.nil|(apply Re.setA (c:=cellsT r) (V:=.own 2 _ 0 _) (V':=.own 2 _ 0 _);(· apply Re.own (id:=2)<;>first|exact rfl|exact .nil);exact hst)⟩
end
end Go.Proofs.YtainhhfnnclfiaaGreat


namespace Go.Proofs.YtainhhfnnclfiaaGreat
open Go Go.Abs
attribute [local irreducible] WpA WpL Rnd Blk Abs.Seq Abs.Fin Abs.FinG FnC FnG Only
theorem T4_row {r:Nat} (h:r<4):T4.getD r default=tabL (tA r) 4:=by simp [T4,h]
theorem gOf_T4 {r i:Nat} (h:r<4) (h2:i<4):gOf T4 r i=mx 4 i r:=by rw [gOf,T4_row h,tabL_get h2];rfl
theorem T4_ok:MatOk 4 T4:=by
 refine ⟨by simp [T4],fun r hr=>by rw [T4_row hr,tabL_len],fun r i=>?_⟩
 by_cases h:r<4
 ·by_cases h2:i<4
  ·rw [gOf_T4 h h2];exact mx_val 4 i r
  ·right;right;left
   rw [gOf,T4_row h,List.getD_eq_getElem?_getD,List.getElem?_eq_none (by rw [tabL_len];omega)];rfl
 ·right;right;left
  have:T4.getD r default=[]:=by rw [List.getD_eq_getElem?_getD,List.getElem?_eq_none (by simp [T4];omega)];rfl
  rw [gOf,this];rfl
theorem trT4 (l:List Int):prodL 4 (gOf T4) l=trL 4 true l:=prodL_congr (by decide) fun r i hr hi=>gOf_T4 hr hi
theorem trH8b (l:List Int):prodL 8 (gOf H8) l=trL 8 true l:=prodL_congr (by decide) fun r i hr hi=>by
 rw [gOf_H8 hr hi]
 show par (r &&& i)=par (i &&& r)
 rw [Nat.and_comm]
instance Inverse4_c:Con 259 (∀ l:List Int,l.length≤1099511627776→Fn 259 [IL l] [XI (trL 4 true l)] (.own 0 0 0 (trL 4 true l).length)):=⟨fun l h=>by
 have hA:=T4_ok
 rw [←trT4]
 refine FnC.of_body tabOk Tryz.func259 Tryz.ntmps259 rfl (by decide +kernel) (by simp) fun G=>?_
 refine go (r:=?_);and_intros<;>intros<;>try exact True.intro
 refine K.call ?_
 refine K.con (fun hcon=>?_)
 refine WpL.callF (hcon 4 T4 l ⟨by decide,hA,h⟩) snapA locA outA rfl rfl rfl (by decide) ?_
 refine go (r:=?_);and_intros<;>intros<;>try exact True.intro⟩
instance Inverse8_c:Con 260 (∀ l:List Int,l.length≤1099511627776→Fn 260 [IL l] [XI (trL 8 true l)] (.own 0 0 0 (trL 8 true l).length)):=⟨fun l h=>by
 have hA:=H8_ok
 rw [←trH8b]
 refine FnC.of_body tabOk Tryz.func260 Tryz.ntmps260 rfl (by decide +kernel) (by simp) fun G=>?_
 refine go (r:=?_);and_intros<;>intros<;>try exact True.intro
 refine K.call ?_
 refine K.con (fun hcon=>?_)
 refine WpL.callF (hcon 8 H8 l ⟨by decide,hA,h⟩) snapA locA outA rfl rfl rfl (by decide) ?_
 refine go (r:=?_);and_intros<;>intros<;>try exact True.intro⟩
theorem resL_b {q:Int} {l:List Int} (h:LvOk l∧0<stepL q):resL true q l=plcL l:=by unfold resL;rw [if_pos h,if_pos rfl]
theorem resL_t {q:Int} {l:List Int} (h:LvOk l∧0<stepL q):resL false q l=rndL (trL (side l.length) true (scaL (plcL l) q)):=by unfold resL;rw [if_pos h,if_neg (by decide)]
theorem resL_n {b:Bool} {q:Int} {l:List Int} (h:¬(LvOk l∧0<stepL q)):resL b q l=[]:=by unfold resL;rw [if_neg h]
theorem trLe4 (b:Bool) (l:List Int):(trL 4 b l).length≤64:=trL_le (by decide)
theorem trLe8 (b:Bool) (l:List Int):(trL 8 b l).length≤64:=trL_le (by decide)
instance ResidualOf_s:Con 159 (∀ (w h q:Int) (b d:Bool) (lens l:List Int),l.length≤1099511627776→Fn 159 [HdA w h q b d lens,IL l] [XI (resL b q l)] (.own 0 0 0 (resL b q l).length)):=⟨fun w h q b d lens l hl=>by
 have hsl:=stepL_pos q
 by_cases hok:LvOk l∧0<stepL q
 ·have h1:=hok.1
  have h2:=hok.2
  have hlen:=hok.1.2
  have hp:=plcL_len2 hlen
  have hsc:=scaL_len (plcL l) q
  have hs:(scaL (plcL l) q).length≤64:=by split at hsc<;>omega
  have t4:=trLe4 true (scaL (plcL l) q)
  have t8:=trLe8 true (scaL (plcL l) q)
  cases b with
  |true=>
   rw [resL_b hok]
   refine FnC.of_body tabOk Tryz.func159 Tryz.ntmps159 rfl (by decide +kernel) (by simp) fun G=>?_
   refine go (r:=?_);and_intros<;>intros<;>try exact True.intro
   all_goals trace_state
  |false=>
   rw [resL_t hok]
   rcases hlen with e|e
   ·have e4:side l.length=4:=by rw [e];rfl
    rw [e4]
    refine FnC.of_body tabOk Tryz.func159 Tryz.ntmps159 rfl (by decide +kernel) (by simp) fun G=>?_
    refine go (r:=?_);and_intros<;>intros<;>try exact True.intro
    all_goals trace_state
   ·have e8:side l.length=8:=by rw [e];rfl
    rw [e8]
    refine FnC.of_body tabOk Tryz.func159 Tryz.ntmps159 rfl (by decide +kernel) (by simp) fun G=>?_
    refine go (r:=?_);and_intros<;>intros<;>try exact True.intro
    all_goals trace_state
 ·rw [resL_n hok]
  refine FnC.of_body tabOk Tryz.func159 Tryz.ntmps159 rfl (by decide +kernel) (by simp) fun G=>?_
  have hx:LvOk l→¬0<stepL q:=fun a b=>hok ⟨a,b⟩
  have hsn:¬0<stepL q→stepL q=0:=fun hh=>by have:=(stepL_bd q).1;omega
  by_cases h1:LvOk l
  ·have h2:=hsn (hx h1)
   refine go (r:=?_);and_intros<;>intros<;>try exact True.intro
   all_goals trace_state
  ·refine go (r:=?_);and_intros<;>intros<;>try exact True.intro
   all_goals trace_state⟩
instance ResidualOf_c:Con 198 (∀ (w h q:Int) (b d:Bool) (lens l:List Int),l.length≤1099511627776→Fn 198 [HdA w h q b d lens,IL l] [XI (resL b q l)] (.own 0 0 0 (resL b q l).length)):=⟨fun w h q b d lens l hl=>by
 have hsl:=stepL_pos q
 by_cases hok:LvOk l∧0<stepL q
 ·have h1:=hok.1
  have h2:=hok.2
  have h3:=hsl.1 h2
  have hlen:=hok.1.2
  have hp:=plcL_len2 hlen
  have hsc:=scaL_len (plcL l) q
  rw [if_pos ⟨plcL_ok h1,h2⟩,hp] at hsc
  have t4:=trLe4 true (scaL (plcL l) q)
  have t8:=trLe8 true (scaL (plcL l) q)
  cases b with
  |true=>
   rw [resL_b hok]
   refine FnC.of_body tabOk Tryz.func198 Tryz.ntmps198 rfl (by decide +kernel) (by simp) fun G=>?_
   refine go (r:=?_);and_intros<;>intros<;>try exact True.intro
   all_goals trace_state
  |false=>
   rw [resL_t hok]
   rcases hlen with e|e
   ·have e4:side l.length=4:=by rw [e];rfl
    have e5:side (scaL (plcL l) q).length=4:=by rw [hsc];exact e4
    rw [e4]
    refine FnC.of_body tabOk Tryz.func198 Tryz.ntmps198 rfl (by decide +kernel) (by simp) fun G=>?_
    refine go (r:=?_);and_intros<;>intros<;>try exact True.intro
    all_goals trace_state
   ·have e8:side l.length=8:=by rw [e];rfl
    have e5:side (scaL (plcL l) q).length=8:=by rw [hsc];exact e8
    rw [e8]
    refine FnC.of_body tabOk Tryz.func198 Tryz.ntmps198 rfl (by decide +kernel) (by simp) fun G=>?_
    refine go (r:=?_);and_intros<;>intros<;>try exact True.intro
    all_goals trace_state
 ·rw [resL_n hok]
  refine FnC.of_body tabOk Tryz.func198 Tryz.ntmps198 rfl (by decide +kernel) (by simp) fun G=>?_
  have hx:LvOk l→¬(0≤q∧q≤51):=fun a b=>hok ⟨a,hsl.2 b⟩
  by_cases h1:LvOk l
  ·have h2:=hx h1
   refine go (r:=?_);and_intros<;>intros<;>try exact True.intro
   all_goals trace_state
  ·refine go (r:=?_);and_intros<;>intros<;>try exact True.intro
   all_goals trace_state⟩
end Go.Proofs.YtainhhfnnclfiaaGreat


namespace Go.Proofs.YtainhhfnnclfiaaGreat
open Go Go.Abs
attribute [local irreducible] WpA WpL Rnd Blk Abs.Seq Abs.Fin Abs.FinG FnC FnG Only
theorem nb_lens {W H:Int} {p:List Int} {x y n:Int} (h:Fits W H p x y n):(topL W H p x y n).length≤1099511627776∧(lefL W H p x y n).length≤1099511627776:=by
 obtain ⟨h1,h2,h3,_⟩:=nb_ok h
 omega
theorem put_eq {W H:Int} {p:List Int} {q x y m:Int} {b:Bool} {lv:List Int} (h:PutOk W H p q x y m lv):putL W H p q b x y m lv=setL W H p x y (recL (predS m (topL W H p x y (side lv.length)) (lefL W H p x y (side lv.length)) (corL W H p x y (side lv.length)) (hasT W H p x y (side lv.length)) (hasE W H p x y (side lv.length)) (side lv.length)) (resL b q lv)):=if_pos h
theorem put_no {W H:Int} {p:List Int} {q x y m:Int} {b:Bool} {lv:List Int} (h:¬PutOk W H p q x y m lv):putL W H p q b x y m lv=p:=if_neg h
theorem fit0 {W H:Int} {p:List Int} {x y:Int}:¬Fits W H p x y (side 0):=fun h=>by
 have h1:side 0=0:=rfl
 have:=h.2.1
 omega
section
attribute [-instance] ResidualOf_c
instance PutRef_c:Con 138 (∀ (W H:Int) (p:List Int) (w h q:Int) (b d:Bool) (lens:List Int) (x y m:Int) (lv:List Int),p.length≤1099511627776∧lv.length≤1099511627776→Fn 138 [FrA W H p,HdA w h q b d lens,I x,I y,.agg [I m,IL lv]] [XI (putL W H p q b x y m lv)] (.tup [FrOwn 0 W H p.length,B (decide (PutOk W H p q x y m lv))])):=⟨fun W H p w h q b d lens x y m lv hl=>by
 obtain ⟨hpl,hll⟩:=hl
 have hrl:=resL_le b q lv
 have hmw:=modeW_nil m
 by_cases hok:LvOk lv∧0<stepL q
 ·have hrn:=resL_len (b:=b) hok
  have hr0:¬(resL b q lv).length=0:=by have:=hok.1.2;omega
  by_cases hf:Fits W H p x y (side lv.length)
  ·by_cases hm:0≤m∧m≤5
   ·have hp:PutOk W H p q x y m lv:=⟨hf,hok,hm⟩
    have hd:=decide_eq_true hp
    have hds:=decide_eq_true (put_set (b:=b) hp)
    unfold nbP at hds
    have hmw2:¬modeW m=[]:=fun hh=>(hmw.1 hh) hm
    have htw:=put_two (b:=b) hp
    unfold nbP at htw
    obtain ⟨hn1,hn2⟩:=nb_lens hf
    have hn3:=hf.2.1
    have hn4:=nb_ok hf
    have hpr:(predS m (topL W H p x y (side lv.length)) (lefL W H p x y (side lv.length)) (corL W H p x y (side lv.length)) (hasT W H p x y (side lv.length)) (hasE W H p x y (side lv.length)) (side lv.length)).length≤64:=by have:=htw.2;have:=hok.1.2;omega
    have hre:=recL_len (predS m (topL W H p x y (side lv.length)) (lefL W H p x y (side lv.length)) (corL W H p x y (side lv.length)) (hasT W H p x y (side lv.length)) (hasE W H p x y (side lv.length)) (side lv.length)) (resL b q lv)
    have hsl:=setL_len W H p x y (recL (predS m (topL W H p x y (side lv.length)) (lefL W H p x y (side lv.length)) (corL W H p x y (side lv.length)) (hasT W H p x y (side lv.length)) (hasE W H p x y (side lv.length)) (side lv.length)) (resL b q lv))
    rw [if_pos htw.1] at hre
    rw [put_eq hp,hd]
    rw [←hrn] at hf hds hn1 hn2 hn3 hn4 hpr hre hsl htw ⊢
    refine FnC.of_body tabOk Tryz.func138 Tryz.ntmps138 rfl (by decide +kernel) (by simp) fun G=>?_
    refine goR (r:=?_);and_intros<;>intros<;>try exact True.intro
    all_goals first|contradiction|omega|skip
    refine K.call ?_
    apply WpL.callI (ResidualOf_c.ok w h q b d lens lv hll)
    ·exact snapA
    ·exact locA
    ·exact outA
    ·exact frzA
    ·decide
    refine goR (r:=?_);and_intros<;>intros<;>try exact True.intro
    all_goals first|contradiction|omega|skip
    try dsimp only [List.append]
    apply WpA.regionNO 17 mixed (by decide +kernel)
    ·exact rfl
    ·exact rfl
    ·exact headNI
    ·exact trueA
    ·exact trueA
    ·exact rfl
    ·exact rfl
    ·exact rfl
    refine go (r:=?_);and_intros<;>intros<;>try exact True.intro
    all_goals first|contradiction|omega|exact hds
   ·have hd:=decide_eq_false (fun hh:PutOk W H p q x y m lv=>hm hh.2.2)
    have hmw2:modeW m=[]:=hmw.2 hm
    rw [put_no (of_decide_eq_false hd),hd]
    refine FnC.of_body tabOk Tryz.func138 Tryz.ntmps138 rfl (by decide +kernel) (by simp) fun G=>?_
    refine goR (r:=?_);and_intros<;>intros<;>try exact True.intro
    all_goals first|contradiction|omega|skip
    refine K.call ?_
    apply WpL.callI (ResidualOf_c.ok w h q b d lens lv hll)
    ·exact snapA
    ·exact locA
    ·exact outA
    ·exact frzA
    ·decide
    refine goR (r:=?_);and_intros<;>intros<;>try exact True.intro
    all_goals first|contradiction|omega
  ·have hd:=decide_eq_false (fun hh:PutOk W H p q x y m lv=>hf hh.1)
   rw [put_no (of_decide_eq_false hd),hd]
   rw [←hrn] at hf
   refine FnC.of_body tabOk Tryz.func138 Tryz.ntmps138 rfl (by decide +kernel) (by simp) fun G=>?_
   refine goR (r:=?_);and_intros<;>intros<;>try exact True.intro
   all_goals first|contradiction|omega|skip
   refine K.call ?_
   apply WpL.callI (ResidualOf_c.ok w h q b d lens lv hll)
   ·exact snapA
   ·exact locA
   ·exact outA
   ·exact frzA
   ·decide
   refine goR (r:=?_);and_intros<;>intros<;>try exact True.intro
   all_goals first|contradiction|omega
 ·have hd:=decide_eq_false (fun hh:PutOk W H p q x y m lv=>hok hh.2.1)
  have hrn:=resL_n (b:=b) hok
  have hr0:(resL b q lv).length=0:=by rw [hrn];rfl
  have hf0:¬Fits W H p x y (side 0):=fit0
  rw [put_no (of_decide_eq_false hd),hd]
  refine FnC.of_body tabOk Tryz.func138 Tryz.ntmps138 rfl (by decide +kernel) (by simp) fun G=>?_
  refine goR (r:=?_);and_intros<;>intros<;>try exact True.intro
  all_goals first|contradiction|omega|skip
  refine K.call ?_
  apply WpL.callI (ResidualOf_c.ok w h q b d lens lv hll)
  ·exact snapA
  ·exact locA
  ·exact outA
  ·exact frzA
  ·decide
  rw [hrn]
  refine goR (r:=?_);and_intros<;>intros<;>try exact True.intro
  all_goals first|contradiction|omega
 ⟩
end
end Go.Proofs.YtainhhfnnclfiaaGreat


namespace Go.Proofs.YtainhhfnnclfiaaGreat
open Go Go.Abs
attribute [local irreducible] WpA WpL Rnd Blk Abs.Seq Abs.Fin Abs.FinG FnC FnG Only
def sz8 (e:Bool):Int:=bif e then 8 else 4
def nm8 (e:Bool):Int:=bif e then 1 else 4
instance l23Side_s:Con 86 (∀ e:Bool,Fn 86 [B e] [] (I (sz8 e))):=⟨fun e=>by
 cases e
 ·refine FnC.of_body tabOk Tryz.func86 Tryz.ntmps86 rfl (by decide +kernel) (by simp) fun G=>?_
  refine go (r:=?_);and_intros<;>intros<;>try exact True.intro
  all_goals rfl
 ·refine FnC.of_body tabOk Tryz.func86 Tryz.ntmps86 rfl (by decide +kernel) (by simp) fun G=>?_
  refine go (r:=?_);and_intros<;>intros<;>try exact True.intro
  all_goals rfl⟩
instance shape_c:Con 192 (∀ e:Bool,Fn 192 [B e] [] (.tup [I (nm8 e),I (sz8 e)])):=⟨fun e=>by
 cases e
 ·refine FnC.of_body tabOk Tryz.func192 Tryz.ntmps192 rfl (by decide +kernel) (by simp) fun G=>?_
  refine go (r:=?_);and_intros<;>intros<;>try exact True.intro
  all_goals rfl
 ·refine FnC.of_body tabOk Tryz.func192 Tryz.ntmps192 rfl (by decide +kernel) (by simp) fun G=>?_
  refine go (r:=?_);and_intros<;>intros<;>try exact True.intro
  all_goals rfl⟩
abbrev MbkOk (e:Bool) (bs:List Blok) (lens:List Int):Prop:=(bs.length:Int)=nm8 e∧bs.any (badB lens (sz8 e))=false
def pk (l:List Int):Nat→List (Int×Int)×Int
 |0=>([],0)
 |k+1=>if l.getD k 0=0 then ((pk l k).1,(pk l k).2+1) else ((pk l k).1++[((pk l k).2,l.getD k 0)],0)
def prsL (l:List Int):List (Int×Int):=if LvOk l then (pk l l.length).1 else []
end Go.Proofs.YtainhhfnnclfiaaGreat


namespace Go.Proofs.YtainhhfnnclfiaaGreat
open Go Go.Abs
attribute [local irreducible] WpA WpL Rnd Blk Abs.Seq Abs.Fin Abs.FinG FnC FnG Only
instance FrameNew_c:Con 132 (∀ W H:Int,SidesOk W H→Fn 132 [I W,I H] [XI (List.replicate (W*H).toNat 0)] (FrOwn 0 W H (W*H).toNat)):=⟨fun W H h=>by
 have h1:8*8≤W*H:=Int.mul_le_mul h.1 h.2.2.1 (by omega) (by have:=h.1;omega)
 have h2:W*H≤32*32:=Int.mul_le_mul h.2.1 h.2.2.2.1 (by have:=h.2.2.1;omega) (by omega)
 refine FnC.of_body tabOk Tryz.func132 Tryz.ntmps132 rfl (by decide +kernel) (by simp) fun G=>?_
 refine go (r:=?_);and_intros<;>intros<;>try exact True.intro
 all_goals first|contradiction⟩
def plc1 (w n:Int) (k i:Nat):Int×Int×Int:=((k:Int)%(w/8)*8+(i:Int)%2*4,(k:Int)/(w/8)*8+(i:Int)/2*4,n)
def plsL (w n:Int) (k:Nat) (many:Nat):List (Int×Int×Int):=(List.range many).map (plc1 w n k)
theorem plsL_len (w n:Int) (k many:Nat):(plsL w n k many).length=many:=by simp [plsL]
theorem plsL_snoc (w n:Int) (k many:Nat):plsL w n k (many+1)=plsL w n k many++[plc1 w n k many]:=by simp [plsL,List.range_succ]
abbrev manyE (e:Bool):Nat:=cond e 1 4
instance placesOf_c:Con 134 (∀ (w h q:Int) (b d:Bool) (lens:List Int) (k:Nat) (e:Bool),8≤w∧w≤1024∧k≤1048576→Fn 134 [HdA w h q b d lens,I k,B e] [⟨rows plF (plsL w (sz8 e) k (manyE e)),0,3,some 149⟩] (.own 0 0 0 (manyE e))):=⟨fun w h q b d lens k e hh=>by
 have hw8:1≤w/8∧w/8≤128:=by omega
 have hr0:0≤(k:Int)%(w/8)∧(k:Int)%(w/8)≤1048576:=⟨Int.emod_nonneg _ (by omega),by have:=Int.emod_lt_of_pos (k:Int) (show 0<w/8 by omega);omega⟩
 have hq0:0≤(k:Int)/(w/8)∧(k:Int)/(w/8)≤1048576:=⟨Int.ediv_nonneg (by omega) (by omega),by have:=Int.ediv_le_self (w/8) (show 0≤(k:Int) by omega);omega⟩
 refine FnC.of_body tabOk Tryz.func134 Tryz.ntmps134 rfl (by decide +kernel) (by simp) fun G=>?_
 refine go (r:=?_);and_intros<;>intros<;>try exact True.intro
 all_goals first|contradiction|omega|skip
 refine WpA.loop (fun i:Nat=>⟨[(1,I k),(3,.ptr 0 0 0),(8,I (sz8 e)),(9,.own 1 0 0 i),(17,I (nm8 e)),(18,I i)],[⟨[I w,I h,I q,B b,B d,IL lens],0,0,none⟩,⟨rows plF (plsL w (sz8 e) k i),0,3,some 149⟩]⟩) (fun i=>i≤manyE e) (fun i=>manyE e-i) 0 (Nat.zero_le _) (go (r:=?_)) (fun i hi=>?_)
 ·and_intros<;>first|exact True.intro|rfl
 have hlen:=plsL_len w (sz8 e) k i
 have hsn:=plsL_snoc w (sz8 e) k i
 have hmn:nm8 e=(manyE e:Nat):=by cases e<;>rfl
 have hm4:manyE e≤4:=by cases e<;>decide
 by_cases hlt:i<manyE e
 ·refine go (r:=?_);and_intros<;>intros<;>try exact True.intro
  all_goals first|contradiction|omega|(rw [hsn];cases e<;>rfl)
 ·obtain rfl:i=manyE e:=by omega
  refine go (r:=?_);and_intros<;>intros<;>try exact True.intro
  all_goals first|contradiction|omega⟩
end Go.Proofs.YtainhhfnnclfiaaGreat


namespace Go.Proofs.YtainhhfnnclfiaaGreat
open Go Go.Abs
attribute [local irreducible] WpA WpL Rnd Blk Abs.Seq Abs.Fin Abs.FinG FnC FnG Only
def endL (W H q:Int) (d:Bool) (p:List Int):List Int:=cond d (dbL W H q p) p
theorem ended1 (W H w h q:Int) (b:Bool) (lens p:List Int) (hl:p.length≤1099511627776):Fn 139 [HdA w h q b true lens,FrA W H p] [IN (dbL W H q p)] (FrOwn 0 W H p.length):=by
 have hdl:=dbL_len W H q p
 refine FnC.of_body tabOk Tryz.func139 Tryz.ntmps139 rfl (by decide +kernel) (by simp) fun G=>?_
 refine go (r:=?_);and_intros<;>intros<;>try exact True.intro
 all_goals first|contradiction|omega
theorem ended0 (W H w h q:Int) (b:Bool) (lens p:List Int):Fn 139 [HdA w h q b false lens,FrA W H p] [] (FrA W H p):=by
 refine FnC.of_body tabOk Tryz.func139 Tryz.ntmps139 rfl (by decide +kernel) (by simp) fun G=>?_
 refine go (r:=?_);and_intros<;>intros<;>try exact True.intro
 all_goals first|contradiction|omega
theorem ended_c (W H w h q:Int) (b d:Bool) (lens p:List Int) (hl:p.length≤1099511627776):Fn 139 [HdA w h q b d lens,FrA W H p] [] (FrA W H (endL W H q d p)):=by
 cases d with
 |false=>exact ended0 W H w h q b lens p
 |true=>exact FnC.still (ended1 W H w h q b lens p hl) (.agg (.keep rfl rfl (.keep rfl rfl (.own rfl rfl rfl (by simp [dbL_len]) (dbL_len W H q p).symm (Snap.same rfl (still_ints _) (nofre_ints _)) .nil))) .nil)
def bldB (W H q:Int) (b:Bool) (n:Int) (k:Nat) (bs:List Blok) (p:List Int):Nat→List Int
 |0=>p
 |i+1=>putL W H (bldB W H q b n k bs p i) q b (plc1 W n k i).1 (plc1 W n k i).2.1 (bs.getD i default).1 (bs.getD i default).2
def bldM (W H q:Int) (b:Bool) (M:List Mbk) (p:List Int):Nat→List Int
 |0=>p
 |k+1=>bldB W H q b (sz8 (M.getD k default).1) k (M.getD k default).2 (bldM W H q b M p k) (manyE (M.getD k default).1)
def zerP (W H:Int):List Int:=List.replicate (W*H).toNat 0
def refL (W H q:Int) (b d:Bool) (M:List Mbk):List Int:=endL W H q d (bldM W H q b M (zerP W H) M.length)
section
attribute [local irreducible] bldB bldM putL endL
attribute [-instance] FrameNew_c placesOf_c
end
end Go.Proofs.YtainhhfnnclfiaaGreat


namespace Go.Proofs.YtainhhfnnclfiaaGreat
open Go Go.Abs
end Go.Proofs.YtainhhfnnclfiaaGreat


namespace Go.Proofs.YtainhhfnnclfiaaGreat
open Go Go.Abs
abbrev Chs:=Nat→List Int→List Int→List Int→Int→Bool→Bool→Int→Int
def chM (W H:Int) (F:List Int) (ch:Chs) (c:Nat) (P:List Int) (x y n:Int):Int:=ch c (blkL W H F x y n) (topL W H P x y n) (lefL W H P x y n) (corL W H P x y n) (hasT W H P x y n) (hasE W H P x y n) n
def chV (W H:Int) (F:List Int) (q:Int) (b:Bool) (L P:List Int) (x y n m:Int):List Int:=levL b q L (resS (blkL W H F x y n) (nbP W H P x y n m))
structure EncA where
 W:Int
 H:Int
 q:Int
 b:Bool
 L:List Int
 F:List Int
 ch:Chs
def encB (a:EncA) (e:Bool) (k c:Nat) (P:List Int):Nat→List Blok×List Int
 |0=>([],P)
 |i+1=>
  ((encB a e k c P i).1++[(chM a.W a.H a.F a.ch (c+i) (encB a e k c P i).2 (plc1 a.W (sz8 e) k i).1 (plc1 a.W (sz8 e) k i).2.1 (sz8 e),
   chV a.W a.H a.F a.q a.b a.L (encB a e k c P i).2 (plc1 a.W (sz8 e) k i).1 (plc1 a.W (sz8 e) k i).2.1 (sz8 e) (chM a.W a.H a.F a.ch (c+i) (encB a e k c P i).2 (plc1 a.W (sz8 e) k i).1 (plc1 a.W (sz8 e) k i).2.1 (sz8 e)))],
   putL a.W a.H (encB a e k c P i).2 a.q a.b (plc1 a.W (sz8 e) k i).1 (plc1 a.W (sz8 e) k i).2.1 (chM a.W a.H a.F a.ch (c+i) (encB a e k c P i).2 (plc1 a.W (sz8 e) k i).1 (plc1 a.W (sz8 e) k i).2.1 (sz8 e))
    (chV a.W a.H a.F a.q a.b a.L (encB a e k c P i).2 (plc1 a.W (sz8 e) k i).1 (plc1 a.W (sz8 e) k i).2.1 (sz8 e) (chM a.W a.H a.F a.ch (c+i) (encB a e k c P i).2 (plc1 a.W (sz8 e) k i).1 (plc1 a.W (sz8 e) k i).2.1 (sz8 e))))
def encM (a:EncA) (E:Nat→Bool) (P:List Int):Nat→List Mbk×List Int×Nat
 |0=>([],P,0)
 |k+1=>
  ((encM a E P k).1++[(E k,(encB a (E k) k (encM a E P k).2.2 (encM a E P k).2.1 (manyE (E k))).1)],
   (encB a (E k) k (encM a E P k).2.2 (encM a E P k).2.1 (manyE (E k))).2,(encM a E P k).2.2+manyE (E k))
theorem encB_len (a:EncA) (e:Bool) (k c:Nat) (P:List Int):∀i,(encB a e k c P i).1.length=i
 |0=>rfl
 |i+1=>by rw [encB];simp [encB_len a e k c P i]
theorem encB_plen (a:EncA) (e:Bool) (k c:Nat) (P:List Int):∀i,(encB a e k c P i).2.length=P.length
 |0=>rfl
 |i+1=>by rw [encB];exact (putL_len ..).trans (encB_plen a e k c P i)
theorem encM_len (a:EncA) (E:Nat→Bool) (P:List Int):∀k,(encM a E P k).1.length=k
 |0=>rfl
 |k+1=>by rw [encM];simp [encM_len a E P k]
theorem encM_plen (a:EncA) (E:Nat→Bool) (P:List Int):∀k,(encM a E P k).2.1.length=P.length
 |0=>rfl
 |k+1=>by rw [encM];exact (encB_plen ..).trans (encM_plen a E P k)
theorem encM_cnt (a:EncA) (E:Nat→Bool) (P:List Int):∀k,(encM a E P k).2.2≤4*k
 |0=>Nat.le_refl _
 |k+1=>by
  have:=encM_cnt a E P k
  rw [encM]
  show _+manyE (E k)≤_
  cases E k<;>simp [manyE]<;>omega
theorem encB_ok {a:EncA} {e:Bool} {k c:Nat} {P:List Int} (h:FrameOk a.W a.H P):∀i,FrameOk a.W a.H (encB a e k c P i).2
 |0=>h
 |i+1=>by rw [encB];exact putL_ok (encB_ok h i)
theorem encM_ok {a:EncA} {E:Nat→Bool} {P:List Int} (h:FrameOk a.W a.H P):∀k,FrameOk a.W a.H (encM a E P k).2.1
 |0=>h
 |k+1=>by rw [encM];exact encB_ok (encM_ok h k) _
def encS (a:EncA) (E:Nat→Bool):List Mbk:=(encM a E (zerP a.W a.H) (cntM a.W a.H).toNat).1
theorem zer_ok {W H:Int} (h:SidesOk W H):FrameOk W H (zerP W H):=by
 refine ⟨h,?_,?_⟩
 ·unfold zerP;rw [List.length_replicate];have h1:8*8≤W*H:=Int.mul_le_mul h.1 h.2.2.1 (by omega) (by have:=h.1;omega);omega
 ·unfold zerP In;intro v hv;rw [List.eq_of_mem_replicate hv];decide
end Go.Proofs.YtainhhfnnclfiaaGreat


namespace Go.Abs
open Go
inductive Ry (O O':List AObj) (j:Nat):List AV→List AV→Prop
 |nil:Ry O O' j [] []
 |any {V vs us}:Ry O O' j vs us→Ry O O' j (V::vs) (.any::us)
 |keep {V V' vs us}:V=V'→V'.still=true→Ry O O' j vs us→Ry O O' j (V::vs) (V'::us)
 |own {id ep ep' off len len' ob ob' vs us}:O[id]?=some ob→O'[id]?=some ob'→ob.ep=ep→ob'.ep=ep'→ob'.size=ob.size→len=len'→Ry O O' j vs us→Ry O O' j (.own id ep off len::vs) (.own id ep' off len'::us)
 |ptr {id ep ep' off ob ob' vs us}:O[id]?=some ob→O'[id]?=some ob'→ob.ep=ep→ob'.ep=ep'→Ry O O' j vs us→Ry O O' j (.ptr id ep off::vs) (.ptr id ep' off::us)
 |fn {f ds vs us}:ds.all AV.simple=true→Ry O O' j vs us→Ry O O' j (.fn f ds::vs) (.fn f ds::us)
 |agg {ds es vs us}:Ry O O' j ds es→Ry O O' j vs us→Ry O O' j (.agg ds::vs) (.agg es::us)
 |nilO {ob' k len vs us}:O'[k]?=some ob'→k=j→ob'.ep=0→0=len→Ry O O' j vs us→Ry O O' j (.nilS::vs) (.own k 0 0 len::us)
theorem simple_allI {S w ι ι' O O'}:∀{ds:List AV} {us f},LRel S w ι O ds us f→ds.all AV.simple=true→LRel S w ι' O' ds us f
 |[],us,f,h,_=>by cases h;exact .nil
 |d::ds,us,f,h,hs=>by
  simp only [List.all_cons,Bool.and_eq_true] at hs
  obtain ⟨v,vs,f1,f2,rfl,hv,hr,rfl⟩:=h.uncons
  have hst:d.still=true:=by cases d<;>simp_all [AV.simple,AV.still]
  exact LRel.cons (still_any hv hst O' (fun _ h=>h) (fun _ _=>rfl) (fun _ _=>rfl)) (simple_allI hr hs.2)
theorem Ry.same {O O':List AObj} {j:Nat} {cs cs':List AV} (h:cs=cs') (hs:cs'.all AV.still=true):Ry O O' j cs cs':=by
 subst h
 induction cs with
 |nil=>exact .nil
 |cons c cs ih=>
  simp only [List.all_cons,Bool.and_eq_true] at hs
  exact .keep rfl hs.1 (ih hs.2)
theorem Ry.rel {O O':List AObj} {j:Nat} {S w} {ι ι':Nat→Spot} (hj:ι' j=none) (hι:∀id,id<O.length→ι' id=ι id) {vs us:List AV} (h:Ry O O' j vs us):∀{xs f},LRel S w ι O vs xs f→∃f',LRel S w ι' O' us xs f'∧(∀ b∈f',b∈f)∧(f.Nodup→f'.Nodup):=by
 induction h with
 |nil=>intro xs f hl;cases hl;exact ⟨[],.nil,by simp,by simp⟩
 |any _ ih=>
  intro xs f hl
  obtain ⟨v,vs',f1,f2,rfl,hv,hr,rfl⟩:=hl.uncons
  obtain ⟨f',h1,h2,h3⟩:=ih hr
  exact ⟨f',.any h1,fun b hb=>List.mem_append_right _ (h2 b hb),fun hn=>h3 (List.nodup_append.1 hn).2.1⟩
 |keep he hs _ ih=>
  intro xs f hl
  subst he
  obtain ⟨v,vs',f1,f2,rfl,hv,hr,rfl⟩:=hl.uncons
  obtain ⟨f',h1,h2,h3⟩:=ih hr
  refine ⟨f1++f',LRel.cons (still_any hv hs O' (fun _ h=>h) (fun _ _=>rfl) (fun _ _=>rfl)) h1,?_,?_⟩
  ·intro b hb
   rcases List.mem_append.1 hb with hb|hb
   ·exact List.mem_append_left _ hb
   ·exact List.mem_append_right _ (h2 b hb)
  ·intro hn
   obtain ⟨n1,n2,n3⟩:=List.nodup_append.1 hn
   exact List.nodup_append.2 ⟨n1,h3 n2,fun a ha b hb=>n3 a ha b (h2 b hb)⟩
 |own ho ho' he he' hsz hln _ ih=>
  intro xs f hl
  subst hln
  obtain ⟨v,vs',f1,f2,rfl,hv,hr,rfl⟩:=hl.uncons
  obtain ⟨f',h1,h2,h3⟩:=ih hr
  refine ⟨f',?_,fun b hb=>List.mem_append_right _ (h2 b hb),fun hn=>h3 (List.nodup_append.1 hn).2.1⟩
  cases hv with
  |own q1 q2 q3 r=>
   rw [ho] at q1;cases q1
   exact .own ho' (by omega) (fun _=>by rw [hsz,hι _ (List.getElem?_eq_some_iff.1 ho).1];exact q3 he.symm) h1
 |ptr ho ho' he he' _ ih=>
  intro xs f hl
  obtain ⟨v,vs',f1,f2,rfl,hv,hr,rfl⟩:=hl.uncons
  obtain ⟨f',h1,h2,h3⟩:=ih hr
  refine ⟨f',?_,fun b hb=>List.mem_append_right _ (h2 b hb),fun hn=>h3 (List.nodup_append.1 hn).2.1⟩
  cases hv with
  |ptr q1 q2 q3 r=>
   rw [ho] at q1;cases q1
   exact .ptr ho' (by omega) (fun _=>by rw [hι _ (List.getElem?_eq_some_iff.1 ho).1];exact q3 he.symm) h1
 |fn hs _ ih=>
  intro xs f hl
  obtain ⟨v,vs',f1,f2,rfl,hv,hr,rfl⟩:=hl.uncons
  obtain ⟨f',h1,h2,h3⟩:=ih hr
  refine ⟨f',?_,fun b hb=>List.mem_append_right _ (h2 b hb),fun hn=>h3 (List.nodup_append.1 hn).2.1⟩
  cases hv with
  |fn a r=>cases r;exact .fn (simple_allI a hs) h1
 |agg _ _ ih1 ih2=>
  intro xs f hl
  obtain ⟨v,vs',f1,f2,rfl,hv,hr,rfl⟩:=hl.uncons
  obtain ⟨us',rfl,ha⟩:=LRel.agg_inv hv
  obtain ⟨g',a1,a2,a3⟩:=ih1 ha
  obtain ⟨f',h1,h2,h3⟩:=ih2 hr
  refine ⟨g'++f',.agg a1 h1,?_,?_⟩
  ·intro b hb
   rcases List.mem_append.1 hb with hb|hb
   ·exact List.mem_append_left _ (a2 b hb)
   ·exact List.mem_append_right _ (h2 b hb)
  ·intro hn
   obtain ⟨n1,n2,n3⟩:=List.nodup_append.1 hn
   exact List.nodup_append.2 ⟨a3 n1,h3 n2,fun a ha b hb=>n3 a (a2 a ha) b (h2 b hb)⟩
 |nilO hk hkj hep hlen _ ih=>
  intro xs f hl
  subst hkj;subst hlen
  obtain ⟨v,vs',f1,f2,rfl,hv,hr,rfl⟩:=hl.uncons
  obtain ⟨f',h1,h2,h3⟩:=ih hr
  refine ⟨f',?_,fun b hb=>List.mem_append_right _ (h2 b hb),fun hn=>h3 (List.nodup_append.1 hn).2.1⟩
  cases hv with
  |nilS r=>exact .own hk (by omega) (fun _=>by rw [hj];exact ⟨rfl,rfl,rfl⟩) h1
inductive RyT (O O':List AObj) (j:Nat) (T:List (Nat×AV)):List (Nat×AV)→Prop
 |nil:RyT O O' j T []
 |cons {t V T'}:Ry O O' j [look T t] [V]→RyT O O' j T T'→RyT O O' j T ((t,V)::T')
theorem RyT.at {O O' j T T'} (h:RyT O O' j T T') (t:Nat):Ry O O' j [look T t] [look T' t]:=by
 induction h with
 |nil=>exact .any .nil
 |@cons k V T' hk _ ih=>
  by_cases he:k=t
  ·subst he;rw [look_cons_same];exact hk
  ·rw [look_cons_other _ _ _ _ he];exact ih
inductive RyO (O O':List AObj) (j:Nat):List AObj→List AObj→Prop
 |last {ob'}:ob'.cells=[]→RyO O O' j [] [ob']
 |cons {ob ob' os os'}:Ry O O' j ob.cells ob'.cells→(ob'.ty=none∨ob'.ty=ob.ty)→RyO O O' j os os'→RyO O O' j (ob::os) (ob'::os')
theorem RyO.len {O O' j os os'} (h:RyO O O' j os os'):os'.length=os.length+1:=by
 induction h with
 |last=>rfl
 |cons _ _ _ ih=>simp [ih]
theorem RyO.at {O O' j os os'} (h:RyO O O' j os os') {id:Nat} {ob':AObj} (hi:os'[id]?=some ob'):(id=os.length∧ob'.cells=[])∨∃ob,os[id]?=some ob∧Ry O O' j ob.cells ob'.cells∧(ob'.ty=none∨ob'.ty=ob.ty):=by
 induction h generalizing id with
 |last h=>
  cases id with
  |zero=>simp at hi;subst hi;exact .inl ⟨rfl,h⟩
  |succ id=>simp at hi
 |cons h1 h2 _ ih=>
  cases id with
  |zero=>simp at hi;subst hi;exact .inr ⟨_,by simp,h1,h2⟩
  |succ id=>
   rcases ih (by simpa using hi) with ⟨h3,h4⟩|⟨ob,h3,h4⟩
   ·exact .inl ⟨by simp [h3],h4⟩
   ·exact .inr ⟨ob,by simpa using h3,h4⟩
theorem Weak.nil1f {m:Nat} {T T':List (Nat×AV)} {O O':List AObj} (hT:RyT O O' O.length T T') (hO:RyO O O' O.length O O') (hm:m≤O.length):Weak m ⟨T,O⟩ ⟨T',O'⟩:=by
 rintro n G a w ⟨S,ι,F,hr⟩
 have hlen:=hO.len
 have hι0:(fun id=>if id<O.length then ι id else none) O.length=none:=by simp
 have hι1:∀id,id<O.length→(fun id=>if id<O.length then ι id else none) id=ι id:=fun id h=>by simp [h]
 generalize (fun id=>if id<O.length then ι id else none)=ι' at hι0 hι1
 have hex:∀id,∃f,∀ob',O'[id]?=some ob'→ObjAt S w ι' O' ob' (ι' id) f∧(∀ b∈f,id<O.length∧b∈F id)∧f.Nodup:=by
  intro id
  cases hi:O'[id]? with
  |none=>exact ⟨[],by simp⟩
  |some ob'=>
   rcases hO.at hi with ⟨h1,h2⟩|⟨ob,ho,hre,hty⟩
   ·refine ⟨[],fun ob2 h3=>?_⟩
    cases h3
    refine ⟨?_,by simp,by simp⟩
    rw [h1,hι0]
    unfold ObjAt
    exact ⟨h2,rfl⟩
   have hid:id<O.length:=(List.getElem?_eq_some_iff.1 ho).1
   have hob:=hr.objs.obj id ob ho
   unfold ObjAt at hob
   cases hs:ι id with
   |none=>
    rw [hs] at hob
    refine ⟨[],fun ob2 h2=>?_⟩
    cases h2
    refine ⟨?_,by simp,by simp⟩
    rw [hob.1] at hre
    unfold ObjAt
    rw [hι1 id hid,hs]
    cases hc:ob'.cells with
    |nil=>exact ⟨rfl,rfl⟩
    |cons c cs=>rw [hc] at hre;cases hre
   |some p=>
    obtain ⟨b,k⟩:=p
    rw [hs] at hob
    obtain ⟨cur,t,fz,f',hF,h1,h2,h3,h4,h5,h6⟩:=hob
    obtain ⟨g,g1,g2,g3⟩:=hre.rel hι0 hι1 h6
    have hnd:(b::f').Nodup:=by rw [←hF];exact hr.objs.nodup id hid
    have hlen:ob'.cells.length=ob.cells.length:=by
     have e1:=g1.len
     have e2:=h6.len
     omega
    refine ⟨b::g,fun ob2 hh=>?_⟩
    cases hh
    rw [hι1 id hid,hs]
    refine ⟨⟨cur,t,fz,g,rfl,h1,h2,by omega,h4,fun e he=>?_,by rw [hlen];exact g1⟩,?_,?_⟩
    ·rcases hty with hty|hty
     ·rw [hty] at he;cases he
     ·exact h5 e (by rw [←hty];exact he)
    ·intro b' hb'
     rw [hF]
     rcases List.mem_cons.1 hb' with rfl|hb'
     ·simp [hid]
     ·simp [g2 b' hb',hid]
    ·exact List.nodup_cons.2 ⟨fun hb=>(List.nodup_cons.1 hnd).1 (g2 b hb),g3 (List.nodup_cons.1 hnd).2⟩
 have hFx:∃F':Nat→List Nat,∀id ob',O'[id]?=some ob'→ObjAt S w ι' O' ob' (ι' id) (F' id)∧(∀ b∈F' id,id<O.length∧b∈F id)∧(F' id).Nodup:=
  ⟨fun id=>(hex id).choose,fun id=>(hex id).choose_spec⟩
 obtain ⟨F',hF'⟩:=hFx
 refine ⟨S,ι',F',hr.defers,hr.size,fun t=>?_,⟨fun id ob' h=>(hF' id ob' h).1,fun id h=>(hF' id _ (List.getElem?_eq_getElem h)).2.2,fun i j hi hj hij b hb hb'=>?_⟩,fun id h b hb=>?_,hr.base,hr.stable,hr.keeps,fun id h=>?_,by show m≤O'.length;omega⟩
 ·obtain ⟨f',h1,h2,_⟩:=(hT.at t).rel hι0 hι1 (hr.tmps t)
  have:f'=[]:=List.eq_nil_iff_forall_not_mem.2 fun b hb=>by simpa using h2 b hb
  subst this
  exact h1
 ·have hi:i<O'.length:=hi
  have hj:j<O'.length:=hj
  obtain ⟨a1,a2⟩:=(hF' i _ (List.getElem?_eq_getElem hi)).2.1 b hb
  obtain ⟨b1,b2⟩:=(hF' j _ (List.getElem?_eq_getElem hj)).2.1 b hb'
  exact hr.objs.apart i j a1 b1 hij b a2 b2
 ·have h:id<O'.length:=h
  obtain ⟨a1,a2⟩:=(hF' id _ (List.getElem?_eq_getElem h)).2.1 b hb
  exact hr.foot id a1 b a2
 ·rw [hι1 id (by omega)];exact hr.spots id h
end Go.Abs


namespace Go.Abs
open Go
section
variable {P:Program} {n m:Nat} {G:Ctx} {ops:Array Oper} {T0:List (Nat×AV)} {O Oi:List AObj} {keep sh:List Nat}
theorem HeadR.consV {fs fs2 out:List (Nat×AV)} {gs gs2:List Fil} {o:Oper} {l:List Oper} {d:Nat} {b bv:Bool} {F:List (Nat×AV)} {ks:List Fil} {cur:List AObj} (k:Fil) (hd:o.dst=some d) (hF:depsF fs o.after.toList=some F) (hcur:fillAll gs Oi=cur)
 (h:∀Tv Ov,Oi.length≤Ov.length→(∀ p ob,k.spot=some (p,ob)→Ov[p]?=cur[p]?)→(∀ j f p ob,waits o j=true→gs[j]?=some f→f.spot=some (p,ob)→memB p sh=false→Ov[p]?=some ob)→(∀ q,memB q keep=true→Ov[q]?=Oi[q]?)→WpL P n m G false ops [o] ⟨F++(T0++Tv),O++Ov⟩ (Only ⟨(d,.sc (.bool b))::(F++(T0++Tv)),O++k.run Ov⟩)) (hb:b=bv) (hs:catF fs [(d,.sc (.bool bv))]=some fs2) (hg:catF gs [k]=some gs2) (r:HeadR P n m G ops T0 O Oi keep sh fs2 gs2 l out ks):HeadR P n m G ops T0 O Oi keep sh fs gs (o::l) out ks:=by
 subst hb
 exact HeadR.consF k hd hF hcur h hs hg r
end
section
variable {P:Program} {n m:Nat} {G:Ctx} {ops:Array Oper} {T0:List (Nat×AV)} {O:List AObj}
end
theorem WpA.cut {P:Program} {n m:Nat} {G:Ctx} {c:Code} {σ σ1:St} {Q:Exit→St→Prop} (h1:WpA P n m G c σ (fun e s=>e=.normal∧Weak m s σ1)) (h2:Q .normal σ1):WpA P n m G c σ Q:=fun a w hr=>by
 refine wp_mono (h1 a w hr) fun e a' w' hh=>?_
 obtain ⟨σ',⟨he,hw⟩,hR⟩:=hh
 subst he
 exact ⟨σ1,h2,hw n G a' w' hR⟩
end Go.Abs


namespace Go.Abs
open Go
section
variable {P:Program} {n m:Nat} {G:Ctx} {T:List (Nat×AV)} {O:List AObj} {Q:Exit→St→Prop} {ops:Array Oper} {l:List Oper} {d:Nat} {md:Bool} {tt:TypeId} {pos:String} {after:Array Edge} {tab:List (Nat×Ty)}
end
theorem split1 {Ov:List AObj} {a:AObj} (h0:Ov[0]?=some a):∃R,Ov=a::R:=by
 match Ov,h0 with
 |a'::R,h0=>simp at h0;exact ⟨R,by rw [h0]⟩
 |[],h=>simp at h
section
variable {m:Nat} {T:List (Nat×AV)} {O:List AObj} {tab:List (Nat×Ty)} {e':Exit} {r1 r2:ResultVar} {r1v r2v r:AV} {N:List AObj}
end
end Go.Abs


namespace Go.Proofs.YtainhhfnnclfiaaGreat
open Go Go.Abs
def bit1 (y:Int):Int:=IntKind.i64.wrap ((BitVec.ofInt IntKind.i64.bits y &&& BitVec.ofInt IntKind.i64.bits 1).toNat:Nat)
def btA (p:List UInt8) (i:Int):Int:=if i<0∨8*(p.length:Int)≤i then -1 else bit1 (((p.getD (i/8).toNat 0).toNat:Int)/2 ^ (7-i%8).toNat)
def bv (p:List UInt8) (i:Int):Int:=max (btA p i) 0
def numB (p:List UInt8) (s:Int):Nat→Int
 |0=>0
 |k+1=>numB p s k*2+bv p (s+k)
abbrev RdOk (p:List UInt8) (s:Int):Prop:=0≤s∧s≤8*(p.length:Int)
def lft (p:List UInt8) (s:Int):Int:=if RdOk p s then 8*(p.length:Int)-s else 0
abbrev RbOk (p:List UInt8) (s n:Int):Prop:=RdOk p s∧(0≤n∧n≤32)∧n≤lft p s
def rbA (p:List UInt8) (s n:Int):Int:=if RbOk p s n then s+n else s
def rbV (p:List UInt8) (s n:Int):Int:=if RbOk p s n then numB p s n.toNat else 0
def zrW (p:List UInt8) (s:Int):Nat→Nat→Nat
 |0,n=>n
 |f+1,n=>if btA p (s+n)=0 then zrW p s f (n+1) else n
def zrs (p:List UInt8) (s:Int):Nat:=zrW p s (lft p s).toNat 0
def ueA (p:List UInt8) (s:Int):Int:=if zrs p s≤15 then rbA p s (2*(zrs p s:Int)+1) else s
def ueC (p:List UInt8) (s:Int):Int:=if zrs p s≤15 then (if RbOk p s (2*(zrs p s:Int)+1) then 0 else 1) else 4
def ueV (p:List UInt8) (s:Int):Int:=if ueC p s=0 then rbV p s (2*(zrs p s:Int)+1)-1 else 0
def lvOf (n:Int):Int:=if n<0 then 0 else if n%2=0 then n/2+1 else -(n/2)-1
abbrev SymAt (p:List UInt8) (s:Int) (l:List Int) (m:Nat):Prop:=0<l.getD m 0∧RbOk p s (l.getD m 0)∧numB p s (l.getD m 0).toNat=(codes l).getD m 0
def symM (p:List UInt8) (s:Int) (l:List Int):Nat:=((List.range 6).find? fun m=>decide (SymAt p s l m)).getD 6
def smC (p:List UInt8) (s:Int) (l:List Int):Int:=if CodeOk l then (if symM p s l<6 then 0 else 1) else 4
def smA (p:List UInt8) (s:Int) (l:List Int):Int:=if smC p s l=0 then s+l.getD (symM p s l) 0 else s
def smV (p:List UInt8) (s:Int) (l:List Int):Int:=if smC p s l=0 then symM p s l else 0
end Go.Proofs.YtainhhfnnclfiaaGreat


namespace Go.Proofs.YtainhhfnnclfiaaGreat
open Go Go.Abs
def fbC (p:List UInt8) (s c n:Int) (k:Int→Int):Int:=if c=0 then (if RbOk p s n then k (rbV p s n) else 1) else c
def fbA (p:List UInt8) (s c n:Int) (k:Int→Int):Int:=if c=0∧fbC p s c n k=0 then rbA p s n else s
def fbV (p:List UInt8) (s c n:Int) (k:Int→Int):Int:=if fbC p s c n k=0 then rbV p s n else 0
def fuC (p:List UInt8) (s c:Int) (k:Int→Int):Int:=if c=0 then (if ueC p s=0 then k (ueV p s) else ueC p s) else c
def fuA (p:List UInt8) (s c:Int) (k:Int→Int):Int:=if fuC p s c k=0 then ueA p s else s
def fuV (p:List UInt8) (s c:Int) (k:Int→Int):Int:=if fuC p s c k=0 then ueV p s else 0
def ifE (b:Prop) [Decidable b] (e:Int):Int:=bif decide b then 0 else e
def lenAt (v:Int) (i:Nat):Int:=v/2 ^ (3*i)%8
def lensV (v:Int):List Int:=[lenAt v 5,lenAt v 4,lenAt v 3,lenAt v 2,lenAt v 1,lenAt v 0]
structure HdS where
 a:Int
 c:Int
 w:Int
 h:Int
 q:Int
 f:Int
 l:Int
abbrev hk1 (x:Int):Int:=ifE (x=183) 2
abbrev hk2 (x:Int):Int:=ifE (x≤3) 3
abbrev hk3 (x:Int):Int:=ifE (x≤51) 3
abbrev hk4 (x:Int):Int:=0
abbrev hk5 (x:Int):Int:=ifE (CodeOk (lensV x)) 4
def hdS (p:List UInt8) (s:Int):HdS:=
 let a1:=fbA p s 0 8 hk1
 let c1:=fbC p s 0 8 hk1
 let a2:=fuA p a1 c1 hk2
 let c2:=fuC p a1 c1 hk2
 let a3:=fuA p a2 c2 hk2
 let c3:=fuC p a2 c2 hk2
 let a4:=fbA p a3 c3 6 hk3
 let c4:=fbC p a3 c3 6 hk3
 let a5:=fbA p a4 c4 2 hk4
 let c5:=fbC p a4 c4 2 hk4
 let a6:=fbA p a5 c5 18 hk5
 let c6:=fbC p a5 c5 18 hk5
 ⟨a6,c6,fuV p a1 c1 hk2,fuV p a2 c2 hk2,fbV p a3 c3 6 hk3,fbV p a4 c4 2 hk4,fbV p a5 c5 18 hk5⟩
def HdS.W (x:HdS):Int:=if x.c=0 then 8*(x.w+1) else 0
def HdS.H (x:HdS):Int:=if x.c=0 then 8*(x.h+1) else 0
structure LvS where
 a:Int
 c:Int
 at_:Int
 out:List Int
def lvStep (p:List UInt8) (nn:Int) (x:LvS):LvS:=
 if x.c=0 then
  let k1:=fun y:Int=>ifE (y<nn-x.at_) 5
  let k2:=fun y:Int=>ifE (-16383≤lvOf y∧lvOf y≤16383) 5
  let a1:=fuA p x.a 0 k1
  let c1:=fuC p x.a 0 k1
  let t1:=x.at_+fuV p x.a 0 k1
  let a2:=fuA p a1 c1 k2
  let c2:=fuC p a1 c1 k2
  if c2=0 then ⟨a2,c2,t1+1,x.out.set t1.toNat (lvOf (fuV p a1 c1 k2))⟩ else ⟨a2,c2,t1,x.out⟩
 else x
def lvRun (p:List UInt8) (nn:Int) (x:LvS):Nat→LvS
 |0=>x
 |k+1=>lvStep p nn (lvRun p nn x k)
def lvS (p:List UInt8) (s n:Int):LvS:=
 let nn:=n*n
 let z:=List.replicate nn.toNat 0
 let k0:=fun _:Int=>0
 let k1:=fun y:Int=>ifE (y<nn) 5
 let a1:=fbA p s 0 1 k0
 let c1:=fbC p s 0 1 k0
 if fbV p s 0 1 k0=0 then ⟨a1,c1,0,z⟩ else
  let a2:=fuA p a1 c1 k1
  let c2:=fuC p a1 c1 k1
  lvRun p nn ⟨a2,c2,0,z⟩ (1+fuV p a1 c1 k1).toNat
structure BlS where
 a:Int
 c:Int
 m:Int
 l:List Int
def blS (p:List UInt8) (s:Int) (lens:List Int) (n:Int):BlS:=
 if n=4∨n=8 then
  if smC p s lens=0 then
   let x:=lvS p (smA p s lens) n
   if x.c=0 then ⟨x.a,0,smV p s lens,x.out⟩ else ⟨x.a,x.c,0,[]⟩
  else ⟨s,smC p s lens,0,[]⟩
 else ⟨s,5,0,[]⟩
structure MbS where
 a:Int
 c:Int
 bs:List Blok
def mbRun (p:List UInt8) (s:Int) (lens:List Int) (n:Int):Nat→MbS
 |0=>⟨s,0,[]⟩
 |k+1=>
  let x:=mbRun p s lens n k
  if x.c=0 then
   let b:=blS p x.a lens n
   if b.c=0 then ⟨b.a,0,x.bs++[(b.m,b.l)]⟩ else ⟨b.a,b.c,[]⟩
  else x
def mbS (p:List UInt8) (s:Int) (lens:List Int):MbS×Bool:=
 if RbOk p s 1 then
  let e:=decide (rbV p s 1=1)
  let x:=mbRun p (s+1) lens (bif e then 8 else 4) (bif e then 1 else 4)
  (x,bif decide (x.c=0) then e else false)
 else (⟨s,1,[]⟩,false)
end Go.Proofs.YtainhhfnnclfiaaGreat


namespace Go.Proofs.YtainhhfnnclfiaaGreat
open Go Go.Abs
attribute [local irreducible] WpA WpL Rnd Blk Abs.Seq Abs.Fin Abs.FinG FnC FnG Only
end Go.Proofs.YtainhhfnnclfiaaGreat


namespace Go.Proofs.YtainhhfnnclfiaaGreat
open Go Go.Abs
attribute [local irreducible] WpA WpL Rnd Blk Abs.Seq Abs.Fin Abs.FinG FnC FnG Only
def nolL (v:Int):Int:=if v>0 then 2*v-2 else if v<0 then -2*v-1 else -1
def ueL (n:Int):List Int:=if 0≤n∧n≤65534 then List.replicate (Nat.log2 (n.toNat+1)) 0++bitsL (n+1) (Nat.log2 (n.toNat+1)+1) else []
end Go.Proofs.YtainhhfnnclfiaaGreat


namespace Go.Proofs.YtainhhfnnclfiaaGreat
open Go Go.Abs
attribute [local irreducible] WpA WpL Rnd Blk Abs.Seq Abs.Fin Abs.FinG FnC FnG Only
end Go.Proofs.YtainhhfnnclfiaaGreat


namespace Go.Proofs.YtainhhfnnclfiaaGreat
open Go Go.Abs
attribute [local irreducible] WpA WpL Rnd Blk Abs.Seq Abs.Fin Abs.FinG FnC FnG Only
abbrev R0:AObj:=⟨[Z [],I 0],0,0,none⟩
end Go.Proofs.YtainhhfnnclfiaaGreat


namespace Go.Proofs.YtainhhfnnclfiaaGreat
open Go Go.Abs
attribute [local irreducible] WpA WpL Rnd Blk Abs.Seq Abs.Fin Abs.FinG FnC FnG Only
end Go.Proofs.YtainhhfnnclfiaaGreat


namespace Go.Proofs.YtainhhfnnclfiaaGreat
open Go Go.Abs
attribute [local irreducible] WpA WpL Rnd Blk Abs.Seq Abs.Fin Abs.FinG FnC FnG Only
end Go.Proofs.YtainhhfnnclfiaaGreat


namespace Go.Proofs.YtainhhfnnclfiaaGreat
open Go Go.Abs
attribute [local irreducible] WpA WpL Rnd Blk Abs.Seq Abs.Fin Abs.FinG FnC FnG Only
def sdV (p:List UInt8) (s:Int):Int:=if ueC p s=0∧ueV p s>3 then 0 else 8*ueV p s+8
def lnL (p:List UInt8) (s:Int):List Int:=if RbOk p s 18 then lensV (rbV p s 18) else []
attribute [local irreducible] rbA rbV ueA ueV ueC fuA fuC fuV fbA fbC fbV sdV lnL zrs numB lft hdS lensV
theorem WpA.hide {P:Program} {n m:Nat} {G:Ctx} {c:Code} {σ:St} {Q:Exit→St→Prop} (h:∀Q',Q'=Q→WpA P n m G c σ Q'):WpA P n m G c σ Q:=h Q rfl
end Go.Proofs.YtainhhfnnclfiaaGreat


namespace Go.Proofs.YtainhhfnnclfiaaGreat
open Go Go.Abs
attribute [local irreducible] WpA WpL Rnd Blk Abs.Seq Abs.Fin Abs.FinG FnC FnG Only
def mbG (b:Mbk):List AV:=[B b.1,.fre 2 b.2.length (rows blkI b.2)]
@[simp] theorem len_mG (l:List Mbk):(rows mbG l).length=l.length*2:=rows_len (f:=mbG) (fun _=>rfl) l
theorem mG_at (M:List Mbk) (x y:AV):(rows mbG M++[x,y])[M.length*2+1]?=some y:=by
 rw [List.getElem?_append_right (by rw [len_mG];omega),len_mG,Nat.add_sub_cancel_left];rfl
theorem mG_set (M:List Mbk) (e:Bool) (y:AV) (bs:List Blok) {n:Nat} (h:bs.length=n):(rows mbG M++[B e,y]).set (M.length*2+1) (.fre 2 n (rows blkI bs))=rows mbG (M++[(e,bs)]):=by
 subst h
 rw [List.set_append_right _ _ (by rw [len_mG];omega),len_mG,Nat.add_sub_cancel_left,rows_append,rows_one];rfl
def eiF (es:List Bool) (k:Nat):Bool:=if 0<es.length then es.getD (k%es.length) false else false
theorem eiF_1 {es:List Bool} (h:0<es.length) (k:Nat):eiF es k=es.getD (k%es.length) false:=if_pos h
theorem encB_snoc (a:EncA) (e:Bool) (k c:Nat) (P:List Int) (i:Nat):(encB a e k c P (i+1))=((encB a e k c P i).1++[(chM a.W a.H a.F a.ch (c+i) (encB a e k c P i).2 (plc1 a.W (sz8 e) k i).1 (plc1 a.W (sz8 e) k i).2.1 (sz8 e),
        chV a.W a.H a.F a.q a.b a.L (encB a e k c P i).2 (plc1 a.W (sz8 e) k i).1 (plc1 a.W (sz8 e) k i).2.1 (sz8 e) (chM a.W a.H a.F a.ch (c+i) (encB a e k c P i).2 (plc1 a.W (sz8 e) k i).1 (plc1 a.W (sz8 e) k i).2.1 (sz8 e)))],
 putL a.W a.H (encB a e k c P i).2 a.q a.b (plc1 a.W (sz8 e) k i).1 (plc1 a.W (sz8 e) k i).2.1 (chM a.W a.H a.F a.ch (c+i) (encB a e k c P i).2 (plc1 a.W (sz8 e) k i).1 (plc1 a.W (sz8 e) k i).2.1 (sz8 e))
  (chV a.W a.H a.F a.q a.b a.L (encB a e k c P i).2 (plc1 a.W (sz8 e) k i).1 (plc1 a.W (sz8 e) k i).2.1 (sz8 e) (chM a.W a.H a.F a.ch (c+i) (encB a e k c P i).2 (plc1 a.W (sz8 e) k i).1 (plc1 a.W (sz8 e) k i).2.1 (sz8 e)))):=rfl
theorem encB_zero (a:EncA) (e:Bool) (k c:Nat) (P:List Int):encB a e k c P 0=([],P):=rfl
theorem encM_zero (a:EncA) (E:Nat→Bool) (P:List Int):encM a E P 0=([],P,0):=rfl
theorem encM_snoc (a:EncA) (E:Nat→Bool) (P:List Int) (k:Nat):encM a E P (k+1)=((encM a E P k).1++[(E k,(encB a (E k) k (encM a E P k).2.2 (encM a E P k).2.1 (manyE (E k))).1)],
 (encB a (E k) k (encM a E P k).2.2 (encM a E P k).2.1 (manyE (E k))).2,(encM a E P k).2.2+manyE (E k)):=rfl
section
attribute [-instance] Clone_c FrameNew_c placesOf_c BlockAt_c NbAt_c Pred_c Residual_c LevelsFor_c PutRef_c
attribute [local irreducible] encB encM putL endL blkL topL lefL corL predS resS levL
end
end Go.Proofs.YtainhhfnnclfiaaGreat
