/- Proved in this text: lemmas and contracts of functions that the claim uses (parts: Nbs, PutR, Spt, FrN, EncZ, BmS, PutM, BmX, Bridge, Read, Read2, Read3). No condition. -/
import Derived.Test.YtainhhfnnclfiaaGreatBmM14
import Derived.Test.YtainhhfnnclfiaaGreatBmM13
import Derived.Test.YtainhhfnnclfiaaGreatBmM15
import Derived.Test.YtainhhfnnclfiaaGreatBmM9
import Derived.Test.YtainhhfnnclfiaaGreatBmM11
import Derived.Test.YtainhhfnnclfiaaGreatBmM2
import Derived.Below
import Derived.ChangeArms
import Derived.Test.YtainhhfnnclfiaaGreatBmM3
set_option linter.unusedVariables false
set_option linter.unusedSimpArgs false
set_option maxRecDepth 100000
set_option maxHeartbeats 16000000


namespace Go.Proofs.YtainhhfnnclfiaaGreat
open Go Go.Abs
attribute [local irreducible] WpA WpL Rnd Blk Abs.Seq Abs.Fin Abs.FinG FnC FnG Only
attribute [local irreducible] topF lefF
attribute [local simp] Abs.setL
instance NbAt_s:Con 91 (∀ (W H:Int) (p:List Int) (x y n:Int),p.length≤1099511627776→Fn 91 [FrA W H p,I x,I y,I n] [XI (topL W H p x y n),XI (lefL W H p x y n)] (NbOwn W H p x y n)):=⟨fun W H p x y n hl=>by
 by_cases h:Fits W H p x y n
 ·have ht:topL W H p x y n=tabL (topF W p x y n) (2*n).toNat:=by unfold topL;rw [if_pos h]
  have hle:lefL W H p x y n=tabL (lefF W p x y) n.toNat:=by unfold lefL;rw [if_pos h]
  have hco:corL W H p x y n=if 0<x∧0<y then p.getD ((y-1)*W+x-1).toNat 0 else 128:=by unfold corL;rw [if_pos h]
  have hhT:hasT W H p x y n=decide (0<y):=by unfold hasT;rw [Bool.eq_iff_iff];simp only [decide_eq_true_eq];exact ⟨fun hh=>hh.2,fun hh=>⟨h,hh⟩⟩
  have hhE:hasE W H p x y n=decide (0<x):=by unfold hasE;rw [Bool.eq_iff_iff];simp only [decide_eq_true_eq];exact ⟨fun hh=>hh.2,fun hh=>⟨h,hh⟩⟩
  unfold NbOwn
  rw [ht,hle,hco,hhT,hhE,tabL_len,tabL_len]
  have hd:=decide_eq_true h
  obtain ⟨h0,h1,hx,hy,_⟩:=id h
  by_cases hx0:0<x
  ·by_cases hy0:0<y
   ·obtain ⟨b1,b2,b3⟩:=nb_cx h hx0 hy0
    rw [if_pos ⟨hx0,hy0⟩]
    refine FnC.of_body tabOk Tryz.func91 Tryz.ntmps91 rfl (by decide +kernel) (by simp) fun G=>?_
    refine go (r:=?_);and_intros<;>intros<;>try exact True.intro
    all_goals first|contradiction|(exact absurd h (by assumption))|omega|skip
    refine WpA.loop (fun k:Nat=>⟨[(1,I x),(2,I y),(3,I n),(4,.ptr 0 0 0),(8,.ptr 1 0 0),(9,.ptr 2 0 0),(10,I k)],[FrO W H p,Nb0,⟨[.nilS,.own 3 0 0 k,I (p.getD ((y-1)*W+x-1).toNat 0),B (decide (0<y)),B (decide (0<x))],0,0,none⟩,XI (tabL (lefF W p x y) k)]⟩) (fun k=>(k:Int)≤n) (fun k=>n.toNat-k) 0 (by omega) ?_ ?_
    ·exact Weak.nil1 (by first|(show 0≤_;exact Nat.zero_le _)|(repeat' (first|exact RzT.nil|refine RzT.cons ?_ ?_|exact Rz.nil|refine Rz.keep rfl rfl ?_|refine Rz.own rfl rfl rfl rfl rfl (by first|rfl|omega|(simp;done)) ?_|refine Rz.ptr rfl rfl rfl rfl ?_|refine Rz.nilO rfl rfl rfl (by first|rfl|omega|(simp;done)) ?_|refine Rz.agg ?_ ?_|exact RzO.last rfl|(refine RzO.cons ?_ (.inr rfl) ?_)|exact Rz.same rfl (still_ints _)|exact Rz.same rfl (still_rows (fun _=>rfl) _)))) (by first|(show 0≤_;exact Nat.zero_le _)|(repeat' (first|exact RzT.nil|refine RzT.cons ?_ ?_|exact Rz.nil|refine Rz.keep rfl rfl ?_|refine Rz.own rfl rfl rfl rfl rfl (by first|rfl|omega|(simp;done)) ?_|refine Rz.ptr rfl rfl rfl rfl ?_|refine Rz.nilO rfl rfl rfl (by first|rfl|omega|(simp;done)) ?_|refine Rz.agg ?_ ?_|exact RzO.last rfl|(refine RzO.cons ?_ (.inr rfl) ?_)|exact Rz.same rfl (still_ints _)|exact Rz.same rfl (still_rows (fun _=>rfl) _)))) (Nat.le_of_ble_eq_true rfl)
    intro k hk
    try simp only at hk ⊢
    have hkl2:=tabL_len (lefF W p x y) k
    by_cases hlt2:(k:Int)<n
    ·have hsn:=tabL_snoc (lefF W p x y) k
     by_cases hx0:0<x
     ·obtain ⟨b1,b2,b3⟩:=nb_lx h hlt2 hx0
      have hq:lefF W p x y k=p.getD ((y+k)*W+x-1).toNat 0:=by unfold lefF;rw [if_pos hx0]
      rw [hq] at hsn
      refine go (r:=?_);and_intros<;>intros<;>try exact True.intro
      all_goals first|contradiction|omega|exact hsn.symm
     ·have hq:lefF W p x y k=128:=by unfold lefF;rw [if_neg hx0]
      rw [hq] at hsn
      refine go (r:=?_);and_intros<;>intros<;>try exact True.intro
      all_goals first|contradiction|omega|exact hsn.symm
    have hke:k=n.toNat:=by omega
    subst hke
    refine go (r:=?_);and_intros<;>intros<;>try exact True.intro
    all_goals first|contradiction|omega|skip
    refine WpA.loop (fun k:Nat=>⟨[(1,I x),(2,I y),(3,I n),(4,.ptr 0 0 0),(8,.ptr 1 0 0),(9,.ptr 2 0 0),(12,I k)],[FrO W H p,Nb0,⟨[.own 4 0 0 k,.own 3 0 0 n.toNat,I (p.getD ((y-1)*W+x-1).toNat 0),B (decide (0<y)),B (decide (0<x))],0,0,none⟩,XI (tabL (lefF W p x y) n.toNat),XI (tabL (topF W p x y n) k)]⟩) (fun k=>(k:Int)≤2*n) (fun k=>(2*n).toNat-k) 0 (by omega) ?_ ?_
    ·exact Weak.nil1 (by first|(show 0≤_;exact Nat.zero_le _)|(repeat' (first|exact RzT.nil|refine RzT.cons ?_ ?_|exact Rz.nil|refine Rz.keep rfl rfl ?_|refine Rz.own rfl rfl rfl rfl rfl (by first|rfl|omega|(simp;done)) ?_|refine Rz.ptr rfl rfl rfl rfl ?_|refine Rz.nilO rfl rfl rfl (by first|rfl|omega|(simp;done)) ?_|refine Rz.agg ?_ ?_|exact RzO.last rfl|(refine RzO.cons ?_ (.inr rfl) ?_)|exact Rz.same rfl (still_ints _)|exact Rz.same rfl (still_rows (fun _=>rfl) _)))) (by first|(show 0≤_;exact Nat.zero_le _)|(repeat' (first|exact RzT.nil|refine RzT.cons ?_ ?_|exact Rz.nil|refine Rz.keep rfl rfl ?_|refine Rz.own rfl rfl rfl rfl rfl (by first|rfl|omega|(simp;done)) ?_|refine Rz.ptr rfl rfl rfl rfl ?_|refine Rz.nilO rfl rfl rfl (by first|rfl|omega|(simp;done)) ?_|refine Rz.agg ?_ ?_|exact RzO.last rfl|(refine RzO.cons ?_ (.inr rfl) ?_)|exact Rz.same rfl (still_ints _)|exact Rz.same rfl (still_rows (fun _=>rfl) _)))) (Nat.le_of_ble_eq_true rfl)
    intro k hk
    try simp only at hk ⊢
    have hkl:=tabL_len (topF W p x y n) k
    by_cases hlt:(k:Int)<2*n
    ·have hq:=topF_eq W p x y n (by omega) k
     have hsn:=tabL_snoc (topF W p x y n) k
     by_cases hy0:y=0
     ·rw [if_pos hy0] at hq
      rw [hq] at hsn
      refine go (r:=?_);and_intros<;>intros<;>try exact True.intro
      all_goals first|contradiction|omega|skip
      all_goals
       refine WpL.openAny (t:=83) rfl (fun v0=>?_)
       by_cases hv:v0=.bool false
       ·subst hv
        refine go (r:=?_);and_intros<;>intros<;>try exact True.intro
        all_goals first|contradiction|omega|exact hsn.symm
       ·repeat (refine WpL.guardV (σ:=⟨_,_⟩) rfl rfl (by decide) rfl hv rfl ?_)
        refine WpL.openAny (t:=87) rfl (fun v1=>?_)
        by_cases hv1:v1=.bool true
        ·subst hv1
         refine go (r:=?_);and_intros<;>intros<;>try exact True.intro
         all_goals first|contradiction|omega|skip
         all_goals
          refine WpL.guardV (σ:=⟨_,_⟩) rfl rfl (by decide) rfl hv rfl ?_
          refine go (r:=?_);and_intros<;>intros<;>try exact True.intro
          all_goals first|contradiction|omega|exact hsn.symm
        ·repeat (refine WpL.guardV (σ:=⟨_,_⟩) rfl rfl (by decide) rfl hv1 rfl ?_)
         refine WpL.guardV (σ:=⟨_,_⟩) rfl rfl (by decide) rfl hv rfl ?_
         refine go (r:=?_);and_intros<;>intros<;>try exact True.intro
         all_goals first|contradiction|omega|exact hsn.symm
     ·rw [if_neg hy0] at hq
      by_cases hc:(k:Int)<n∨(y%8=0∧x+k<W)
      ·rw [if_pos hc] at hq
       rw [hq] at hsn
       obtain ⟨b1,b2,b3⟩:=nb_ix h hlt hy0 hc
       by_cases hc0:(k:Int)<n
       ·refine go (r:=?_);and_intros<;>intros<;>try exact True.intro
        all_goals first|contradiction|omega|skip
        all_goals
         refine WpL.openAny (t:=87) rfl (fun v0=>?_)
         by_cases hv:v0=.bool true
         ·subst hv
          refine go (r:=?_);and_intros<;>intros<;>try exact True.intro
          all_goals first|contradiction|omega|exact hsn.symm
         ·repeat (refine WpL.guardV (σ:=⟨_,_⟩) rfl rfl (by decide) rfl hv rfl ?_)
          refine go (r:=?_);and_intros<;>intros<;>try exact True.intro
          all_goals first|contradiction|omega|exact hsn.symm
       ·obtain ⟨hc1,hc2⟩:y%8=0∧x+k<W:=hc.resolve_left hc0
        refine go (r:=?_);and_intros<;>intros<;>try exact True.intro
        all_goals first|contradiction|omega|exact hsn.symm
      ·rw [if_neg hc] at hq
       rw [hq] at hsn
       have hk0:0<k:=by omega
       have ek:((k:Int)-1).toNat=k-1:=by omega
       have hge:(tabL (topF W p x y n) k).getD (k-1) 0=topF W p x y n (k-1):=tabL_get (by omega)
       by_cases hc0:(k:Int)<n
       ·exact absurd (.inl hc0) hc
       by_cases hc1:y%8=0
       ·have hc2:¬x+k<W:=fun hh=>hc (.inr ⟨hc1,hh⟩)
        refine go (r:=?_);and_intros<;>intros<;>try exact True.intro
        all_goals first|contradiction|omega|(rw [ek,hge];exact hsn.symm)
       ·refine go (r:=?_);and_intros<;>intros<;>try exact True.intro
        all_goals first|contradiction|omega|(rw [ek,hge];exact hsn.symm)
    have hke:k=(2*n).toNat:=by omega
    subst hke
    refine go (r:=?_);and_intros<;>intros<;>try exact True.intro
    all_goals first|contradiction|omega
   ·rw [if_neg (fun hh=>hy0 hh.2)]
    refine FnC.of_body tabOk Tryz.func91 Tryz.ntmps91 rfl (by decide +kernel) (by simp) fun G=>?_
    refine go (r:=?_);and_intros<;>intros<;>try exact True.intro
    all_goals first|contradiction|(exact absurd h (by assumption))|omega|skip
    refine WpA.loop (fun k:Nat=>⟨[(1,I x),(2,I y),(3,I n),(4,.ptr 0 0 0),(8,.ptr 1 0 0),(9,.ptr 2 0 0),(10,I k)],[FrO W H p,Nb0,⟨[.nilS,.own 3 0 0 k,I (128),B (decide (0<y)),B (decide (0<x))],0,0,none⟩,XI (tabL (lefF W p x y) k)]⟩) (fun k=>(k:Int)≤n) (fun k=>n.toNat-k) 0 (by omega) ?_ ?_
    ·exact Weak.nil1 (by first|(show 0≤_;exact Nat.zero_le _)|(repeat' (first|exact RzT.nil|refine RzT.cons ?_ ?_|exact Rz.nil|refine Rz.keep rfl rfl ?_|refine Rz.own rfl rfl rfl rfl rfl (by first|rfl|omega|(simp;done)) ?_|refine Rz.ptr rfl rfl rfl rfl ?_|refine Rz.nilO rfl rfl rfl (by first|rfl|omega|(simp;done)) ?_|refine Rz.agg ?_ ?_|exact RzO.last rfl|(refine RzO.cons ?_ (.inr rfl) ?_)|exact Rz.same rfl (still_ints _)|exact Rz.same rfl (still_rows (fun _=>rfl) _)))) (by first|(show 0≤_;exact Nat.zero_le _)|(repeat' (first|exact RzT.nil|refine RzT.cons ?_ ?_|exact Rz.nil|refine Rz.keep rfl rfl ?_|refine Rz.own rfl rfl rfl rfl rfl (by first|rfl|omega|(simp;done)) ?_|refine Rz.ptr rfl rfl rfl rfl ?_|refine Rz.nilO rfl rfl rfl (by first|rfl|omega|(simp;done)) ?_|refine Rz.agg ?_ ?_|exact RzO.last rfl|(refine RzO.cons ?_ (.inr rfl) ?_)|exact Rz.same rfl (still_ints _)|exact Rz.same rfl (still_rows (fun _=>rfl) _)))) (Nat.le_of_ble_eq_true rfl)
    intro k hk
    try simp only at hk ⊢
    have hkl2:=tabL_len (lefF W p x y) k
    by_cases hlt2:(k:Int)<n
    ·have hsn:=tabL_snoc (lefF W p x y) k
     by_cases hx0:0<x
     ·obtain ⟨b1,b2,b3⟩:=nb_lx h hlt2 hx0
      have hq:lefF W p x y k=p.getD ((y+k)*W+x-1).toNat 0:=by unfold lefF;rw [if_pos hx0]
      rw [hq] at hsn
      refine go (r:=?_);and_intros<;>intros<;>try exact True.intro
      all_goals first|contradiction|omega|exact hsn.symm
     ·have hq:lefF W p x y k=128:=by unfold lefF;rw [if_neg hx0]
      rw [hq] at hsn
      refine go (r:=?_);and_intros<;>intros<;>try exact True.intro
      all_goals first|contradiction|omega|exact hsn.symm
    have hke:k=n.toNat:=by omega
    subst hke
    refine go (r:=?_);and_intros<;>intros<;>try exact True.intro
    all_goals first|contradiction|omega|skip
    refine WpA.loop (fun k:Nat=>⟨[(1,I x),(2,I y),(3,I n),(4,.ptr 0 0 0),(8,.ptr 1 0 0),(9,.ptr 2 0 0),(12,I k)],[FrO W H p,Nb0,⟨[.own 4 0 0 k,.own 3 0 0 n.toNat,I (128),B (decide (0<y)),B (decide (0<x))],0,0,none⟩,XI (tabL (lefF W p x y) n.toNat),XI (tabL (topF W p x y n) k)]⟩) (fun k=>(k:Int)≤2*n) (fun k=>(2*n).toNat-k) 0 (by omega) ?_ ?_
    ·exact Weak.nil1 (by first|(show 0≤_;exact Nat.zero_le _)|(repeat' (first|exact RzT.nil|refine RzT.cons ?_ ?_|exact Rz.nil|refine Rz.keep rfl rfl ?_|refine Rz.own rfl rfl rfl rfl rfl (by first|rfl|omega|(simp;done)) ?_|refine Rz.ptr rfl rfl rfl rfl ?_|refine Rz.nilO rfl rfl rfl (by first|rfl|omega|(simp;done)) ?_|refine Rz.agg ?_ ?_|exact RzO.last rfl|(refine RzO.cons ?_ (.inr rfl) ?_)|exact Rz.same rfl (still_ints _)|exact Rz.same rfl (still_rows (fun _=>rfl) _)))) (by first|(show 0≤_;exact Nat.zero_le _)|(repeat' (first|exact RzT.nil|refine RzT.cons ?_ ?_|exact Rz.nil|refine Rz.keep rfl rfl ?_|refine Rz.own rfl rfl rfl rfl rfl (by first|rfl|omega|(simp;done)) ?_|refine Rz.ptr rfl rfl rfl rfl ?_|refine Rz.nilO rfl rfl rfl (by first|rfl|omega|(simp;done)) ?_|refine Rz.agg ?_ ?_|exact RzO.last rfl|(refine RzO.cons ?_ (.inr rfl) ?_)|exact Rz.same rfl (still_ints _)|exact Rz.same rfl (still_rows (fun _=>rfl) _)))) (Nat.le_of_ble_eq_true rfl)
    intro k hk
    try simp only at hk ⊢
    have hkl:=tabL_len (topF W p x y n) k
    by_cases hlt:(k:Int)<2*n
    ·have hq:=topF_eq W p x y n (by omega) k
     have hsn:=tabL_snoc (topF W p x y n) k
     by_cases hy0:y=0
     ·rw [if_pos hy0] at hq
      rw [hq] at hsn
      refine go (r:=?_);and_intros<;>intros<;>try exact True.intro
      all_goals first|contradiction|omega|skip
      all_goals
       refine WpL.openAny (t:=83) rfl (fun v0=>?_)
       by_cases hv:v0=.bool false
       ·subst hv
        refine go (r:=?_);and_intros<;>intros<;>try exact True.intro
        all_goals first|contradiction|omega|exact hsn.symm
       ·repeat (refine WpL.guardV (σ:=⟨_,_⟩) rfl rfl (by decide) rfl hv rfl ?_)
        refine WpL.openAny (t:=87) rfl (fun v1=>?_)
        by_cases hv1:v1=.bool true
        ·subst hv1
         refine go (r:=?_);and_intros<;>intros<;>try exact True.intro
         all_goals first|contradiction|omega|skip
         all_goals
          refine WpL.guardV (σ:=⟨_,_⟩) rfl rfl (by decide) rfl hv rfl ?_
          refine go (r:=?_);and_intros<;>intros<;>try exact True.intro
          all_goals first|contradiction|omega|exact hsn.symm
        ·repeat (refine WpL.guardV (σ:=⟨_,_⟩) rfl rfl (by decide) rfl hv1 rfl ?_)
         refine WpL.guardV (σ:=⟨_,_⟩) rfl rfl (by decide) rfl hv rfl ?_
         refine go (r:=?_);and_intros<;>intros<;>try exact True.intro
         all_goals first|contradiction|omega|exact hsn.symm
     ·rw [if_neg hy0] at hq
      by_cases hc:(k:Int)<n∨(y%8=0∧x+k<W)
      ·rw [if_pos hc] at hq
       rw [hq] at hsn
       obtain ⟨b1,b2,b3⟩:=nb_ix h hlt hy0 hc
       by_cases hc0:(k:Int)<n
       ·refine go (r:=?_);and_intros<;>intros<;>try exact True.intro
        all_goals first|contradiction|omega|skip
        all_goals
         refine WpL.openAny (t:=87) rfl (fun v0=>?_)
         by_cases hv:v0=.bool true
         ·subst hv
          refine go (r:=?_);and_intros<;>intros<;>try exact True.intro
          all_goals first|contradiction|omega|exact hsn.symm
         ·repeat (refine WpL.guardV (σ:=⟨_,_⟩) rfl rfl (by decide) rfl hv rfl ?_)
          refine go (r:=?_);and_intros<;>intros<;>try exact True.intro
          all_goals first|contradiction|omega|exact hsn.symm
       ·obtain ⟨hc1,hc2⟩:y%8=0∧x+k<W:=hc.resolve_left hc0
        refine go (r:=?_);and_intros<;>intros<;>try exact True.intro
        all_goals first|contradiction|omega|exact hsn.symm
      ·rw [if_neg hc] at hq
       rw [hq] at hsn
       have hk0:0<k:=by omega
       have ek:((k:Int)-1).toNat=k-1:=by omega
       have hge:(tabL (topF W p x y n) k).getD (k-1) 0=topF W p x y n (k-1):=tabL_get (by omega)
       by_cases hc0:(k:Int)<n
       ·exact absurd (.inl hc0) hc
       by_cases hc1:y%8=0
       ·have hc2:¬x+k<W:=fun hh=>hc (.inr ⟨hc1,hh⟩)
        refine go (r:=?_);and_intros<;>intros<;>try exact True.intro
        all_goals first|contradiction|omega|(rw [ek,hge];exact hsn.symm)
       ·refine go (r:=?_);and_intros<;>intros<;>try exact True.intro
        all_goals first|contradiction|omega|(rw [ek,hge];exact hsn.symm)
    have hke:k=(2*n).toNat:=by omega
    subst hke
    refine go (r:=?_);and_intros<;>intros<;>try exact True.intro
    all_goals first|contradiction|omega
  ·rw [if_neg (fun hh=>hx0 hh.1)]
   refine FnC.of_body tabOk Tryz.func91 Tryz.ntmps91 rfl (by decide +kernel) (by simp) fun G=>?_
   refine go (r:=?_);and_intros<;>intros<;>try exact True.intro
   all_goals first|contradiction|(exact absurd h (by assumption))|omega|skip
   refine WpA.loop (fun k:Nat=>⟨[(1,I x),(2,I y),(3,I n),(4,.ptr 0 0 0),(8,.ptr 1 0 0),(9,.ptr 2 0 0),(10,I k)],[FrO W H p,Nb0,⟨[.nilS,.own 3 0 0 k,I (128),B (decide (0<y)),B (decide (0<x))],0,0,none⟩,XI (tabL (lefF W p x y) k)]⟩) (fun k=>(k:Int)≤n) (fun k=>n.toNat-k) 0 (by omega) ?_ ?_
   ·exact Weak.nil1 (by first|(show 0≤_;exact Nat.zero_le _)|(repeat' (first|exact RzT.nil|refine RzT.cons ?_ ?_|exact Rz.nil|refine Rz.keep rfl rfl ?_|refine Rz.own rfl rfl rfl rfl rfl (by first|rfl|omega|(simp;done)) ?_|refine Rz.ptr rfl rfl rfl rfl ?_|refine Rz.nilO rfl rfl rfl (by first|rfl|omega|(simp;done)) ?_|refine Rz.agg ?_ ?_|exact RzO.last rfl|(refine RzO.cons ?_ (.inr rfl) ?_)|exact Rz.same rfl (still_ints _)|exact Rz.same rfl (still_rows (fun _=>rfl) _)))) (by first|(show 0≤_;exact Nat.zero_le _)|(repeat' (first|exact RzT.nil|refine RzT.cons ?_ ?_|exact Rz.nil|refine Rz.keep rfl rfl ?_|refine Rz.own rfl rfl rfl rfl rfl (by first|rfl|omega|(simp;done)) ?_|refine Rz.ptr rfl rfl rfl rfl ?_|refine Rz.nilO rfl rfl rfl (by first|rfl|omega|(simp;done)) ?_|refine Rz.agg ?_ ?_|exact RzO.last rfl|(refine RzO.cons ?_ (.inr rfl) ?_)|exact Rz.same rfl (still_ints _)|exact Rz.same rfl (still_rows (fun _=>rfl) _)))) (Nat.le_of_ble_eq_true rfl)
   intro k hk
   try simp only at hk ⊢
   have hkl2:=tabL_len (lefF W p x y) k
   by_cases hlt2:(k:Int)<n
   ·have hsn:=tabL_snoc (lefF W p x y) k
    by_cases hx0:0<x
    ·obtain ⟨b1,b2,b3⟩:=nb_lx h hlt2 hx0
     have hq:lefF W p x y k=p.getD ((y+k)*W+x-1).toNat 0:=by unfold lefF;rw [if_pos hx0]
     rw [hq] at hsn
     refine go (r:=?_);and_intros<;>intros<;>try exact True.intro
     all_goals first|contradiction|omega|exact hsn.symm
    ·have hq:lefF W p x y k=128:=by unfold lefF;rw [if_neg hx0]
     rw [hq] at hsn
     refine go (r:=?_);and_intros<;>intros<;>try exact True.intro
     all_goals first|contradiction|omega|exact hsn.symm
   have hke:k=n.toNat:=by omega
   subst hke
   refine go (r:=?_);and_intros<;>intros<;>try exact True.intro
   all_goals first|contradiction|omega|skip
   refine WpA.loop (fun k:Nat=>⟨[(1,I x),(2,I y),(3,I n),(4,.ptr 0 0 0),(8,.ptr 1 0 0),(9,.ptr 2 0 0),(12,I k)],[FrO W H p,Nb0,⟨[.own 4 0 0 k,.own 3 0 0 n.toNat,I (128),B (decide (0<y)),B (decide (0<x))],0,0,none⟩,XI (tabL (lefF W p x y) n.toNat),XI (tabL (topF W p x y n) k)]⟩) (fun k=>(k:Int)≤2*n) (fun k=>(2*n).toNat-k) 0 (by omega) ?_ ?_
   ·exact Weak.nil1 (by first|(show 0≤_;exact Nat.zero_le _)|(repeat' (first|exact RzT.nil|refine RzT.cons ?_ ?_|exact Rz.nil|refine Rz.keep rfl rfl ?_|refine Rz.own rfl rfl rfl rfl rfl (by first|rfl|omega|(simp;done)) ?_|refine Rz.ptr rfl rfl rfl rfl ?_|refine Rz.nilO rfl rfl rfl (by first|rfl|omega|(simp;done)) ?_|refine Rz.agg ?_ ?_|exact RzO.last rfl|(refine RzO.cons ?_ (.inr rfl) ?_)|exact Rz.same rfl (still_ints _)|exact Rz.same rfl (still_rows (fun _=>rfl) _)))) (by first|(show 0≤_;exact Nat.zero_le _)|(repeat' (first|exact RzT.nil|refine RzT.cons ?_ ?_|exact Rz.nil|refine Rz.keep rfl rfl ?_|refine Rz.own rfl rfl rfl rfl rfl (by first|rfl|omega|(simp;done)) ?_|refine Rz.ptr rfl rfl rfl rfl ?_|refine Rz.nilO rfl rfl rfl (by first|rfl|omega|(simp;done)) ?_|refine Rz.agg ?_ ?_|exact RzO.last rfl|(refine RzO.cons ?_ (.inr rfl) ?_)|exact Rz.same rfl (still_ints _)|exact Rz.same rfl (still_rows (fun _=>rfl) _)))) (Nat.le_of_ble_eq_true rfl)
   intro k hk
   try simp only at hk ⊢
   have hkl:=tabL_len (topF W p x y n) k
   by_cases hlt:(k:Int)<2*n
   ·have hq:=topF_eq W p x y n (by omega) k
    have hsn:=tabL_snoc (topF W p x y n) k
    by_cases hy0:y=0
    ·rw [if_pos hy0] at hq
     rw [hq] at hsn
     refine go (r:=?_);and_intros<;>intros<;>try exact True.intro
     all_goals first|contradiction|omega|skip
     all_goals
      refine WpL.openAny (t:=83) rfl (fun v0=>?_)
      by_cases hv:v0=.bool false
      ·subst hv
       refine go (r:=?_);and_intros<;>intros<;>try exact True.intro
       all_goals first|contradiction|omega|exact hsn.symm
      ·repeat (refine WpL.guardV (σ:=⟨_,_⟩) rfl rfl (by decide) rfl hv rfl ?_)
       refine WpL.openAny (t:=87) rfl (fun v1=>?_)
       by_cases hv1:v1=.bool true
       ·subst hv1
        refine go (r:=?_);and_intros<;>intros<;>try exact True.intro
        all_goals first|contradiction|omega|skip
        all_goals
         refine WpL.guardV (σ:=⟨_,_⟩) rfl rfl (by decide) rfl hv rfl ?_
         refine go (r:=?_);and_intros<;>intros<;>try exact True.intro
         all_goals first|contradiction|omega|exact hsn.symm
       ·repeat (refine WpL.guardV (σ:=⟨_,_⟩) rfl rfl (by decide) rfl hv1 rfl ?_)
        refine WpL.guardV (σ:=⟨_,_⟩) rfl rfl (by decide) rfl hv rfl ?_
        refine go (r:=?_);and_intros<;>intros<;>try exact True.intro
        all_goals first|contradiction|omega|exact hsn.symm
    ·rw [if_neg hy0] at hq
     by_cases hc:(k:Int)<n∨(y%8=0∧x+k<W)
     ·rw [if_pos hc] at hq
      rw [hq] at hsn
      obtain ⟨b1,b2,b3⟩:=nb_ix h hlt hy0 hc
      by_cases hc0:(k:Int)<n
      ·refine go (r:=?_);and_intros<;>intros<;>try exact True.intro
       all_goals first|contradiction|omega|skip
       all_goals
        refine WpL.openAny (t:=87) rfl (fun v0=>?_)
        by_cases hv:v0=.bool true
        ·subst hv
         refine go (r:=?_);and_intros<;>intros<;>try exact True.intro
         all_goals first|contradiction|omega|exact hsn.symm
        ·repeat (refine WpL.guardV (σ:=⟨_,_⟩) rfl rfl (by decide) rfl hv rfl ?_)
         refine go (r:=?_);and_intros<;>intros<;>try exact True.intro
         all_goals first|contradiction|omega|exact hsn.symm
      ·obtain ⟨hc1,hc2⟩:y%8=0∧x+k<W:=hc.resolve_left hc0
       refine go (r:=?_);and_intros<;>intros<;>try exact True.intro
       all_goals first|contradiction|omega|exact hsn.symm
     ·rw [if_neg hc] at hq
      rw [hq] at hsn
      have hk0:0<k:=by omega
      have ek:((k:Int)-1).toNat=k-1:=by omega
      have hge:(tabL (topF W p x y n) k).getD (k-1) 0=topF W p x y n (k-1):=tabL_get (by omega)
      by_cases hc0:(k:Int)<n
      ·exact absurd (.inl hc0) hc
      by_cases hc1:y%8=0
      ·have hc2:¬x+k<W:=fun hh=>hc (.inr ⟨hc1,hh⟩)
       refine go (r:=?_);and_intros<;>intros<;>try exact True.intro
       all_goals first|contradiction|omega|(rw [ek,hge];exact hsn.symm)
      ·refine go (r:=?_);and_intros<;>intros<;>try exact True.intro
       all_goals first|contradiction|omega|(rw [ek,hge];exact hsn.symm)
   have hke:k=(2*n).toNat:=by omega
   subst hke
   refine go (r:=?_);and_intros<;>intros<;>try exact True.intro
   all_goals first|contradiction|omega
 ·have ht:topL W H p x y n=[]:=by unfold topL;rw [if_neg h]
  have hle:lefL W H p x y n=[]:=by unfold lefL;rw [if_neg h]
  have hco:corL W H p x y n=0:=by unfold corL;rw [if_neg h]
  have hhT:hasT W H p x y n=false:=by unfold hasT;rw [decide_eq_false_iff_not];exact fun hh=>h hh.1
  have hhE:hasE W H p x y n=false:=by unfold hasE;rw [decide_eq_false_iff_not];exact fun hh=>h hh.1
  unfold NbOwn
  rw [ht,hle,hco,hhT,hhE]
  have hd:=decide_eq_false h
  refine FnC.of_body tabOk Tryz.func91 Tryz.ntmps91 rfl (by decide +kernel) (by simp) fun G=>?_
  refine go (r:=?_);and_intros<;>intros<;>try exact True.intro
  all_goals first|contradiction|omega⟩
end Go.Proofs.YtainhhfnnclfiaaGreat


namespace Go.Proofs.YtainhhfnnclfiaaGreat
open Go Go.Abs
attribute [local irreducible] WpA WpL Rnd Blk Abs.Seq Abs.Fin Abs.FinG FnC FnG Only
section
attribute [-instance] ResidualOf_s
instance PutRef_s:Con 92 (∀ (W H:Int) (p:List Int) (w h q:Int) (b d:Bool) (lens:List Int) (x y m:Int) (lv:List Int),p.length≤1099511627776∧lv.length≤1099511627776→Fn 92 [FrA W H p,HdA w h q b d lens,I x,I y,.agg [I m,IL lv]] [XI (putL W H p q b x y m lv)] (.tup [FrOwn 0 W H p.length,B (decide (PutOk W H p q x y m lv))])):=⟨fun W H p w h q b d lens x y m lv hl=>by
 obtain ⟨hpl,hll⟩:=hl
 have hrl:=resL_le b q lv
 have hmw:=modeW_nil m
 by_cases hok:LvOk lv∧0<stepL q
 ·have hrn:=resL_len (b:=b) hok
  have hr0:¬(resL b q lv).length=0:=by have:=hok.1.2;omega
  by_cases hf:Fits W H p x y (side lv.length)
  ·by_cases hm:0≤m∧m≤5
   ·have hp:PutOk W H p q x y m lv:=⟨hf,hok,hm⟩
    have hd:=decide_eq_true hp
    have hds:=decide_eq_true (put_set (b:=b) hp)
    unfold nbP at hds
    have hmw2:¬modeW m=[]:=fun hh=>(hmw.1 hh) hm
    have htw:=put_two (b:=b) hp
    unfold nbP at htw
    obtain ⟨hn1,hn2⟩:=nb_lens hf
    have hn3:=hf.2.1
    have hn4:=nb_ok hf
    have hpr:(predS m (topL W H p x y (side lv.length)) (lefL W H p x y (side lv.length)) (corL W H p x y (side lv.length)) (hasT W H p x y (side lv.length)) (hasE W H p x y (side lv.length)) (side lv.length)).length≤64:=by have:=htw.2;have:=hok.1.2;omega
    have hre:=recL_len (predS m (topL W H p x y (side lv.length)) (lefL W H p x y (side lv.length)) (corL W H p x y (side lv.length)) (hasT W H p x y (side lv.length)) (hasE W H p x y (side lv.length)) (side lv.length)) (resL b q lv)
    have hsl:=setL_len W H p x y (recL (predS m (topL W H p x y (side lv.length)) (lefL W H p x y (side lv.length)) (corL W H p x y (side lv.length)) (hasT W H p x y (side lv.length)) (hasE W H p x y (side lv.length)) (side lv.length)) (resL b q lv))
    rw [if_pos htw.1] at hre
    rw [put_eq hp,hd]
    skip
    refine FnC.of_body tabOk Tryz.func92 Tryz.ntmps92 rfl (by decide +kernel) (by simp) fun G=>?_
    refine goR (r:=?_);and_intros<;>intros<;>try exact True.intro
    all_goals first|contradiction|omega|skip
    refine K.call ?_
    apply WpL.callI (ResidualOf_s.ok w h q b d lens lv hll)
    ·exact snapA
    ·exact locA
    ·exact outA
    ·exact frzA
    ·decide
    refine goR (r:=?_);and_intros<;>intros<;>try exact True.intro
    all_goals first|contradiction|omega|skip
    generalize hX:setL W H p x y (recL (predS m (topL W H p x y (side lv.length)) (lefL W H p x y (side lv.length)) (corL W H p x y (side lv.length)) (hasT W H p x y (side lv.length)) (hasE W H p x y (side lv.length)) (side lv.length)) (resL b q lv))=X at hsl ⊢
    try dsimp only [List.append]
    apply WpA.regionRF (O:=[FrO W H p,⟨[I w,I h,I q,B b,B d,IL lens],0,0,none⟩,⟨[I m,IL lv],0,0,none⟩,⟨[I 0,I 0,.nilS],0,0,none⟩]) (Or:=[]) (O1:=[FrO W H p,⟨[I w,I h,I q,B b,B d,IL lens],0,0,none⟩,⟨[I m,IL lv],0,0,none⟩,⟨[I 0,I 0,.nilS],0,0,none⟩,⟨ints X,1,1,some 3⟩,⟨[I W,I H,.own 4 1 0 p.length],1,0,none⟩,deadO,deadO]) 20 2 [] [1] rfl mixed (by decide +kernel)
    ·exact rfl
    ·apply HeadR.consF .none rfl
     ·exact rfl
     ·exact rfl
     ·exact in1
     ·exact rfl
     ·exact rfl
     apply HeadR.consF .none rfl
     ·exact rfl
     ·exact rfl
     ·exact in1
     ·exact rfl
     ·exact rfl
     apply HeadR.consF .none rfl
     ·exact rfl
     ·exact rfl
     ·exact in1
     ·exact rfl
     ·exact rfl
     apply HeadR.consF .none rfl
     ·exact rfl
     ·exact rfl
     ·exact in1
     ·exact rfl
     ·exact rfl
     apply HeadR.consF .none rfl
     ·exact rfl
     ·exact rfl
     ·exact in1
     ·exact rfl
     ·exact rfl
     apply HeadR.consF .none rfl
     ·exact rfl
     ·exact rfl
     ·exact in1
     ·exact rfl
     ·exact rfl
     apply HeadR.consF .none rfl
     ·exact rfl
     ·exact rfl
     ·exact in1
     ·exact rfl
     ·exact rfl
     apply HeadR.consF .none rfl
     ·exact rfl
     ·exact rfl
     ·exact in1
     ·exact rfl
     ·exact rfl
     apply HeadR.consF .none rfl
     ·exact rfl
     ·exact rfl
     ·exact in1
     ·exact rfl
     ·exact rfl
     apply HeadR.consF .none rfl
     ·exact rfl
     ·exact rfl
     ·intro Tv Ov hc2 hp9 hd9 hk9
      refine K.call ?_
      apply WpL.callI (NbAt_s.ok W H p x y (side lv.length) hpl)
      ·exact snapA
      ·exact locA
      ·exact outA
      ·exact frzA
      ·decide
      ·exact WpL.nil (Only.mk rfl)
     ·exact rfl
     ·exact rfl
     apply HeadR.consF .none rfl
     ·exact rfl
     ·exact rfl
     ·exact in1
     ·exact rfl
     ·exact rfl
     apply HeadR.consF .none rfl
     ·exact rfl
     ·exact rfl
     ·intro Tv Ov hc2 hp9 hd9 hk9
      refine K.call ?_
      apply WpL.callI (Pred_s.ok m (topL W H p x y (side lv.length)) (lefL W H p x y (side lv.length)) (corL W H p x y (side lv.length)) (hasT W H p x y (side lv.length)) (hasE W H p x y (side lv.length)) (side lv.length) ⟨hn1,hn2,by omega⟩)
      ·exact snapA
      ·exact locA
      ·exact outA
      ·exact frzA
      ·decide
      ·exact WpL.nil (Only.mk rfl)
     ·exact rfl
     ·exact rfl
     apply HeadR.consF .none rfl
     ·exact rfl
     ·exact rfl
     ·exact in1
     ·exact rfl
     ·exact rfl
     apply HeadR.consF .none rfl
     ·exact rfl
     ·exact rfl
     ·intro Tv Ov hc2 hp9 hd9 hk9
      refine K.call ?_
      apply WpL.callI (Recon_s.ok (predS m (topL W H p x y (side lv.length)) (lefL W H p x y (side lv.length)) (corL W H p x y (side lv.length)) (hasT W H p x y (side lv.length)) (hasE W H p x y (side lv.length)) (side lv.length)) (resL b q lv) ⟨by omega,by omega⟩)
      ·exact snapA
      ·exact locA
      ·exact outA
      ·exact frzA
      ·decide
      ·exact WpL.nil (Only.mk rfl)
     ·exact rfl
     ·exact rfl
     apply HeadR.consF (V:=.tup [.agg [I W,I H,.own 4 1 0 p.length],B true]) (.put 0 ⟨ints X,1,1,some 3⟩) rfl
     ·exact rfl
     ·exact rfl
     ·intro Tv Ov hc2 hp9 hd9 hk9
      subst hX
      refine K.call ?_
      have hcon:=SetBlock_s.ok W H p x y (recL (predS m (topL W H p x y (side lv.length)) (lefL W H p x y (side lv.length)) (corL W H p x y (side lv.length)) (hasT W H p x y (side lv.length)) (hasE W H p x y (side lv.length)) (side lv.length)) (resL b q lv)) ⟨hpl,by omega⟩
      rw [hsl,hds] at hcon
      refine WpL.callF hcon snapA locA outA (cnt_some _ 0) rfl rfl (by decide) ?_
      rw [Nat.zero_add]
      apply WpL.putV (p:=0)
      ·exact .tup (.agg (.keep rfl rfl (.keep rfl rfl (.own (by first|rfl|exact Nat.zero_add _) .nil))) (.keep rfl rfl .nil)) .nil
      ·exact hp9 0 _ rfl
      ·exact Nat.zero_le _
      ·exact rfl
      ·exact still_ints _
     ·exact rfl
     ·exact rfl
     apply HeadR.consF .none rfl
     ·exact rfl
     ·exact rfl
     ·exact in1
     ·exact rfl
     ·exact rfl
     apply HeadR.consF .none rfl
     ·exact rfl
     ·exact rfl
     ·exact in1
     ·exact rfl
     ·exact rfl
     apply HeadR.consF .none rfl
     ·exact rfl
     ·exact rfl
     ·exact in1
     ·exact rfl
     ·exact rfl
     apply HeadR.consF (V:=.ptr 5 1 0) (.put 1 ⟨[I 0,I 0,.nilS],1,0,none⟩) rfl
     ·exact rfl
     ·exact rfl
     ·intro Tv Ov hc2 hp9 hd9 hk9
      refine WpL.allocStruct tabOk rfl (nid_len _ 0) (by decide) ?_
      apply WpL.putV (p:=1)
      ·exact .ptr (by first|rfl|exact Nat.zero_add _) .nil
      ·exact hp9 1 _ rfl
      ·exact Nat.zero_le _
      ·exact rfl
      ·exact rfl
     ·exact rfl
     ·exact rfl
     apply HeadR.consN (.step 1 ⟨[I W,I H,.own 4 1 0 p.length],1,0,none⟩) 1000
     ·exact rfl
     ·exact rfl
     ·intro Tv Ov hc2 hp9 hd9 hk9
      obtain ⟨A0,R0,rfl⟩:=split2 (hp9 1 _ rfl)
      have h0:=hd9 14 _ 0 _ (by decide) rfl rfl rfl
      simp only [List.getElem?_cons_zero,Option.some.injEq] at h0
      subst h0
      refine K.st ?_
      refine WpL.store tabOk rfl rfl rfl rfl rfl rfl rfl rfl (Nat.le_of_ble_eq_true rfl) ?_
      refine WpL.weak (Weak.any1 (d:=1000)) ?_
      exact WpL.nil (Only.mk rfl)
     ·exact rfl
     ·exact rfl
     exact HeadR.nil
    ·exact rfl
    ·exact rfl
    ·exact rfl
    ·exact rfl
    ·exact rfl
    ·exact rfl
    ·exact rfl
    refine go (r:=?_);and_intros<;>intros<;>try exact True.intro
    all_goals first|contradiction|omega|exact hds
   ·have hd:=decide_eq_false (fun hh:PutOk W H p q x y m lv=>hm hh.2.2)
    have hmw2:modeW m=[]:=hmw.2 hm
    rw [put_no (of_decide_eq_false hd),hd]
    refine FnC.of_body tabOk Tryz.func92 Tryz.ntmps92 rfl (by decide +kernel) (by simp) fun G=>?_
    refine goR (r:=?_);and_intros<;>intros<;>try exact True.intro
    all_goals first|contradiction|omega|skip
    refine K.call ?_
    apply WpL.callI (ResidualOf_s.ok w h q b d lens lv hll)
    ·exact snapA
    ·exact locA
    ·exact outA
    ·exact frzA
    ·decide
    refine goR (r:=?_);and_intros<;>intros<;>try exact True.intro
    all_goals first|contradiction|omega
  ·have hd:=decide_eq_false (fun hh:PutOk W H p q x y m lv=>hf hh.1)
   rw [put_no (of_decide_eq_false hd),hd]
   skip
   refine FnC.of_body tabOk Tryz.func92 Tryz.ntmps92 rfl (by decide +kernel) (by simp) fun G=>?_
   refine goR (r:=?_);and_intros<;>intros<;>try exact True.intro
   all_goals first|contradiction|omega|skip
   refine K.call ?_
   apply WpL.callI (ResidualOf_s.ok w h q b d lens lv hll)
   ·exact snapA
   ·exact locA
   ·exact outA
   ·exact frzA
   ·decide
   refine goR (r:=?_);and_intros<;>intros<;>try exact True.intro
   all_goals first|contradiction|omega
 ·have hd:=decide_eq_false (fun hh:PutOk W H p q x y m lv=>hok hh.2.1)
  have hrn:=resL_n (b:=b) hok
  have hr0:(resL b q lv).length=0:=by rw [hrn];rfl
  have hf0:¬Fits W H p x y (side 0):=fit0
  rw [put_no (of_decide_eq_false hd),hd]
  refine FnC.of_body tabOk Tryz.func92 Tryz.ntmps92 rfl (by decide +kernel) (by simp) fun G=>?_
  refine goR (r:=?_);and_intros<;>intros<;>try exact True.intro
  all_goals first|contradiction|omega|skip
  refine K.call ?_
  apply WpL.callI (ResidualOf_s.ok w h q b d lens lv hll)
  ·exact snapA
  ·exact locA
  ·exact outA
  ·exact frzA
  ·decide
  rw [hrn]
  refine goR (r:=?_);and_intros<;>intros<;>try exact True.intro
  all_goals first|contradiction|omega
 ⟩
end
end Go.Proofs.YtainhhfnnclfiaaGreat


namespace Go.Proofs.YtainhhfnnclfiaaGreat
open Go Go.Abs
attribute [local irreducible] WpA WpL Rnd Blk Abs.Seq Abs.Fin Abs.FinG FnC FnG Only
instance l25Spot_s:Con 87 (∀ (w h q:Int) (b d:Bool) (L:List Int) (k i:Nat) (e:Bool),(8≤w∧w≤1024∧k≤1048576)∧i<manyE e→Fn 87 [HdA w h q b d L,I k,I i,I (sz8 e)] [] (.tup [I (plc1 w (sz8 e) k i).1,I (plc1 w (sz8 e) k i).2.1])):=⟨fun w h q b d L k i e hl=>by
 obtain ⟨⟨hw,hw2,hk⟩,hi⟩:=hl
 have hw8:1≤w/8∧w/8≤128:=by omega
 have e1:w.tdiv 8=w/8:=Int.tdiv_eq_ediv_of_nonneg (by omega)
 have e2:(k:Int).tmod (w/8)=(k:Int)%(w/8):=Int.tmod_eq_emod_of_nonneg (by omega)
 have e3:(k:Int).tdiv (w/8)=(k:Int)/(w/8):=Int.tdiv_eq_ediv_of_nonneg (by omega)
 have hr0:0≤(k:Int)%(w/8)∧(k:Int)%(w/8)≤1048576:=⟨Int.emod_nonneg _ (by omega),by have:=Int.emod_lt_of_pos (k:Int) (show 0<w/8 by omega);omega⟩
 have hr1:0≤(k:Int)/(w/8)∧(k:Int)/(w/8)≤1048576:=⟨Int.ediv_nonneg (by omega) (by omega),by have:=Int.ediv_le_self (w/8) (show 0≤(k:Int) by omega);omega⟩
 unfold plc1
 cases e with
 |true=>
  have hi0:i<1:=hi
  simp only [sz8,cond_true]
  refine FnC.of_body tabOk Tryz.func87 Tryz.ntmps87 rfl (by decide +kernel) (by simp) fun G=>?_
  refine goR (r:=?_);and_intros<;>intros<;>try exact True.intro
  all_goals first|contradiction|omega|skip
  refine WpA.regionTB 17 mixed (by decide +kernel) ?_
  refine goR (r:=?_);and_intros<;>intros<;>try exact True.intro
  all_goals first|contradiction|omega
 |false=>
  have hi4:i<4:=hi
  simp only [sz8,cond_false]
  refine FnC.of_body tabOk Tryz.func87 Tryz.ntmps87 rfl (by decide +kernel) (by simp) fun G=>?_
  refine goR (r:=?_);and_intros<;>intros<;>try exact True.intro
  all_goals first|contradiction|omega|skip
  refine WpA.regionTB 17 mixed (by decide +kernel) ?_
  refine goR (r:=?_);and_intros<;>intros<;>try exact True.intro
  all_goals first|contradiction|omega⟩
end Go.Proofs.YtainhhfnnclfiaaGreat


namespace Go.Proofs.YtainhhfnnclfiaaGreat
open Go Go.Abs
attribute [local irreducible] WpA WpL Rnd Blk Abs.Seq Abs.Fin Abs.FinG FnC FnG Only
theorem wh_in {W H:Int} (h:SidesOk W H):64≤W*H∧W*H≤1024:=by
 have h1:8*8≤W*H:=Int.mul_le_mul h.1 h.2.2.1 (by omega) (by have:=h.1;omega)
 have h2:W*H≤32*32:=Int.mul_le_mul h.2.1 h.2.2.2.1 (by have:=h.2.2.1;omega) (by omega)
 omega
instance FrameNew_s:Con 85 (∀ W H:Int,SidesOk W H→Fn 85 [I W,I H] [XI (List.replicate (W*H).toNat 0)] (FrOwn 0 W H (W*H).toNat)):=⟨fun W H h=>by
 have hm:=wh_in h
 refine FnC.of_body tabOk Tryz.func85 Tryz.ntmps85 rfl (by decide +kernel) (by simp) fun G=>?_
 refine go (r:=?_);and_intros<;>intros<;>try exact True.intro
 all_goals first|contradiction⟩
end Go.Proofs.YtainhhfnnclfiaaGreat


namespace Go.Proofs.YtainhhfnnclfiaaGreat
open Go Go.Abs
attribute [local irreducible] WpA WpL Rnd Blk Abs.Seq Abs.Fin Abs.FinG FnC FnG Only
section
open Go.Abs
variable {P:Program} {n m:Nat} {G:Ctx} {ops:Array Oper} {T0:List (Nat×AV)}
end
section
attribute [-instance] FrameNew_s BlockAt_s NbAt_s Pred_s Residual_s LevelsFor_s PutRef_s
attribute [local irreducible] encB encM putL blkL topL lefL corL predS resS levL dbL modeF
end
end Go.Proofs.YtainhhfnnclfiaaGreat


namespace Go.Proofs.YtainhhfnnclfiaaGreat
open Go Go.Abs
attribute [local irreducible] WpA WpL Rnd Blk Abs.Seq Abs.Fin Abs.FinG FnC FnG Only
def bmL (w h q:Int) (b:Bool) (L F:List Int) (es:List Bool):List Int:=if FrameOk w h F∧OptOk q L then msO (encM ⟨w,h,q,b,L,F,chB L⟩ (eiF es) (zerP w h) (cntM w h).toNat).1 else []
section
attribute [local irreducible] encM msO
theorem BestModes_1 (w h q:Int) (b d:Bool) (L ms F:List Int) (es:List Bool) (hF:FrameOk w h F) (ho:OptOk q L) (hl:ms.length≤1099511627776∧es.length≤1099511627776):
 Fn 52 [FrA w h F,OpA q b d L ms es] [XI (msO (encM ⟨w,h,q,b,L,F,chB L⟩ (eiF es) (zerP w h) (cntM w h).toNat).1)] (.own 0 0 0 (msO (encM ⟨w,h,q,b,L,F,chB L⟩ (eiF es) (zerP w h) (cntM w h).toNat).1).length):=by
 have hfo:=decide_eq_true hF
 have hoo:=decide_eq_true ho
 have hL6:L.length=6:=ho.2.2.1
 have hFl:F.length≤1024:=by
  have h2:w*h≤32*32:=Int.mul_le_mul hF.1.2.1 hF.1.2.2.2.1 (by have:=hF.1.2.2.1;omega) (by have:=hF.1.1;omega)
  have:=hF.2.1
  omega
 have hz:=encode_h w h q b d L ms F es hF ho hl
 generalize msO (encM ⟨w,h,q,b,L,F,chB L⟩ (eiF es) (zerP w h) (cntM w h).toNat).1=X at*
 refine FnC.of_bodyM tabOk Tryz.func52 Tryz.ntmps52 rfl (by decide +kernel) (by simp) fun G hM=>?_
 refine WpA.seq ?_
 refine WpA.cut (σ1:=⟨[(3,.ptr 1 0 0),(2,.ptr 0 0 0)],[FrO w h F,OpO q b d L ms es]⟩) ?_ ?_
 ·refine goR (r:=?_);and_intros<;>intros<;>try exact True.intro
  all_goals first|contradiction|omega
 refine Abs.Seq.n ?_
 refine WpA.freezeP hM rfl (Nat.zero_le _) rfl rfl rfl rfl ?_
 refine goR (r:=?_);and_intros<;>intros<;>try exact True.intro
 all_goals first|contradiction|omega|skip
 refine K.call ?_
 refine WpL.callHX (hs:=[3,2]) (base:=4) hz (HandX.cons (Hand.x (.agg (.keep rfl rfl (.keep rfl rfl (.keep rfl rfl .nil))) .nil)) (HandX.cons (Hand.x (.agg (.keep rfl rfl (.keep rfl rfl (.keep rfl rfl (.keep rfl rfl (.keep rfl rfl (.keep rfl rfl .nil)))))) .nil)) (HandX.fn (.keep rfl rfl (.ptr (j:=0) rfl rfl rfl .nil))))) (.hand rfl (.own (j:=1) rfl rfl rfl rfl .nil) rfl rfl rfl (.inl rfl) (.still rfl rfl (still_ints _) rfl rfl (.inr rfl) .nil)) rfl (fun _ _ _ _=>Nat.zero_le _) rfl (.keep rfl (.keep rfl (.dead rfl (by decide) (.turn rfl (by decide) rfl rfl (.new (by decide) rfl .nil) .nil)))) (.cons (Back.all rfl (still_ints _) (Loc.ints _)) (.cons (Back.all rfl rfl (.any (.any (.any .nil)))) (.cons (Back.all rfl rfl (.any (.any (.any (.any (.any (.any .nil))))))) (.cons (Back.all rfl rfl (.any (.any (.any (.any (.any (.any (.any .nil)))))))) (.cons (Back.all rfl rfl (.any (.any (.any .nil)))) .nil))))) (.tup (.agg (Back.all rfl rfl (.any (.any (.any (.any (.any (.any (.any .nil)))))))) (.agg (Back.all rfl rfl (.any (.any (.any .nil)))) .nil)) .nil) rfl (by decide) ?_
 refine goR (r:=?_);and_intros<;>intros<;>try exact True.intro
 all_goals first|contradiction|omega
theorem BestModes_0 (w h q:Int) (b d:Bool) (L ms F:List Int) (es:List Bool) (hl:F.length≤1099511627776∧L.length≤1099511627776) (hn:¬(FrameOk w h F∧OptOk q L)):
 Fn 52 [FrA w h F,OpA q b d L ms es] [XI []] (.own 0 0 0 0):=by
 by_cases hF:FrameOk w h F
 ·have ho:¬OptOk q L:=fun ho=>hn ⟨hF,ho⟩
  have hfo:=decide_eq_true hF
  have hoo:=decide_eq_false ho
  refine FnC.of_body tabOk Tryz.func52 Tryz.ntmps52 rfl (by decide +kernel) (by simp) fun G=>?_
  refine go (r:=?_);and_intros<;>intros<;>try exact True.intro
  all_goals first|contradiction|omega
 ·have hfo:=decide_eq_false hF
  refine FnC.of_body tabOk Tryz.func52 Tryz.ntmps52 rfl (by decide +kernel) (by simp) fun G=>?_
  refine go (r:=?_);and_intros<;>intros<;>try exact True.intro
  all_goals first|contradiction|omega
instance BestModes_c:Con 52 (∀ (w h q:Int) (b d:Bool) (L ms F:List Int) (es:List Bool),F.length≤1099511627776∧L.length≤1099511627776∧ms.length≤1099511627776∧es.length≤1099511627776→
 Fn 52 [FrA w h F,OpA q b d L ms es] [XI (bmL w h q b L F es)] (.own 0 0 0 (bmL w h q b L F es).length)):=⟨fun w h q b d L ms F es hl=>by
 unfold bmL
 by_cases hok:FrameOk w h F∧OptOk q L
 ·rw [if_pos hok];exact BestModes_1 w h q b d L ms F es hok.1 hok.2 ⟨hl.2.2.1,hl.2.2.2⟩
 ·rw [if_neg hok];exact BestModes_0 w h q b d L ms F es ⟨hl.1,hl.2.1⟩ hok⟩
theorem BestModes_s0 (w h q:Int) (b d:Bool) (L ms F:List Int) (es:List Bool) (hl:F.length≤1099511627776∧L.length≤1099511627776) (hn:¬(FrameOk w h F∧OptOk q L)):
 Fn 53 [FrA w h F,OpA q b d L ms es] [XI []] (.own 0 0 0 0):=by
 by_cases hF:FrameOk w h F
 ·have ho:¬OptOk q L:=fun ho=>hn ⟨hF,ho⟩
  have hfo:=decide_eq_true hF
  have hoo:=decide_eq_false ho
  refine FnC.of_body tabOk Tryz.func53 Tryz.ntmps53 rfl (by decide +kernel) (by simp) fun G=>?_
  refine go (r:=?_);and_intros<;>intros<;>try exact True.intro
  all_goals first|contradiction|omega
 ·have hfo:=decide_eq_false hF
  refine FnC.of_body tabOk Tryz.func53 Tryz.ntmps53 rfl (by decide +kernel) (by simp) fun G=>?_
  refine go (r:=?_);and_intros<;>intros<;>try exact True.intro
  all_goals first|contradiction|omega
end
section
attribute [-instance] FrameNew_s BlockAt_s NbAt_s Pred_s Residual_s LevelsFor_s PutRef_s BestMode_s
attribute [local irreducible] encB encM putL blkL topL lefL corL predS resS levL bestM msO
theorem BestModes_s1 (w h q:Int) (b d:Bool) (L ms F:List Int) (es:List Bool) (hF:FrameOk w h F) (ho:OptOk q L) (hl:ms.length≤1099511627776∧es.length≤1099511627776):
 Fn 53 [FrA w h F,OpA q b d L ms es] [XI (msO (encM ⟨w,h,q,b,L,F,chB L⟩ (eiF es) (zerP w h) (cntM w h).toNat).1)] (.own 0 0 0 (msO (encM ⟨w,h,q,b,L,F,chB L⟩ (eiF es) (zerP w h) (cntM w h).toNat).1).length):=by
 have hfo:=decide_eq_true hF
 have hoo:=decide_eq_true ho
 have hsd:=hF.1
 have hcm:=cntM_bd hsd
 have hL6:L.length=6:=ho.2.2.1
 have hFl:F.length≤1024:=by
  have h2:w*h≤32*32:=Int.mul_le_mul hsd.2.1 hsd.2.2.2.1 (by have:=hsd.2.2.1;omega) (by have:=hsd.1;omega)
  have:=hF.2.1
  omega
 have hz:(zerP w h).length≤1024:=by
  unfold zerP
  rw [List.length_replicate]
  have h2:w*h≤32*32:=Int.mul_le_mul hsd.2.1 hsd.2.2.2.1 (by have:=hsd.2.2.1;omega) (by omega)
  omega
 refine FnC.of_body tabOk Tryz.func53 Tryz.ntmps53 rfl (by decide +kernel) (by simp) fun G=>?_
 refine goR (r:=?_);and_intros<;>intros<;>try exact True.intro
 all_goals first|contradiction|omega|skip
 refine K.call ?_
 apply WpL.callI (FrameNew_s.ok w h hsd)
 ·exact snapA
 ·exact locA
 ·exact outA
 ·exact frzA
 ·decide
 refine goR (r:=?_);and_intros<;>intros<;>try exact True.intro
 all_goals first|contradiction|omega|skip
 have hzl:(w*h).toNat=(zerP w h).length:=by simp [zerP]
 rw [show (List.replicate (w*h).toNat (0:Int))=zerP w h from rfl,hzl]
 have hP0:=zer_ok hsd
 generalize zerP w h=P0 at*
 have hmk:=fun k=>encM_ok (a:=⟨w,h,q,b,L,F,chB L⟩) (E:=eiF es) hP0 k
 have hml:=encM_len ⟨w,h,q,b,L,F,chB L⟩ (eiF es) P0
 have hmp:=encM_plen ⟨w,h,q,b,L,F,chB L⟩ (eiF es) P0
 have hmc:=encM_cnt ⟨w,h,q,b,L,F,chB L⟩ (eiF es) P0
 have hms:=encM_snoc ⟨w,h,q,b,L,F,chB L⟩ (eiF es) P0
 have hmo:=encM_ms ⟨w,h,q,b,L,F,chB L⟩ (eiF es) P0
 have hm0:encM ⟨w,h,q,b,L,F,chB L⟩ (eiF es) P0 0=([],P0,0):=encM_zero ..
 refine WpA.loop (fun k:Nat=>⟨[(2,.ptr 0 0 0),(3,.ptr 1 0 0),(5,.own 2 0 0 (msO (encM ⟨w,h,q,b,L,F,chB L⟩ (eiF es) P0 k).1).length),(6,.ptr 3 0 0),(7,.ptr 4 0 0),(8,I k)],[FrO w h F,OpO q b d L ms es,XI (msO (encM ⟨w,h,q,b,L,F,chB L⟩ (eiF es) P0 k).1),⟨[I w,I h,I q,B b,B false,IL L],0,0,none⟩,FrO w h (encM ⟨w,h,q,b,L,F,chB L⟩ (eiF es) P0 k).2.1]⟩) (fun k=>(k:Int)≤cntM w h) (fun k=>(cntM w h).toNat-k) 0 (by omega) ?_ (fun k hk=>?_)
 ·rw [hm0];dsimp only;rw [msO_nil];refine go (r:=?_);and_intros<;>first|exact True.intro|rfl
 have hmk:=hmk k
 have hml:=hml k
 have hmp:=hmp k
 have hmc:=hmc k
 have hms:=hms k
 have hmo:=hmo k
 by_cases hlt:(k:Int)<cntM w h
 ·have hm4:manyE (eiF es k)≤4:=by cases eiF es k<;>decide
  have hei:=fun hh=>eiF_1 (es:=es) hh k
  have hmn:msO (encM ⟨w,h,q,b,L,F,chB L⟩ (eiF es) P0 (k+1)).1=msO (encM ⟨w,h,q,b,L,F,chB L⟩ (eiF es) P0 k).1++(encB ⟨w,h,q,b,L,F,chB L⟩ (eiF es k) k (encM ⟨w,h,q,b,L,F,chB L⟩ (eiF es) P0 k).2.2 (encM ⟨w,h,q,b,L,F,chB L⟩ (eiF es) P0 k).2.1 (manyE (eiF es k))).1.map (·.1):=by rw [hms,msO_snoc]
  have hpn:(encM ⟨w,h,q,b,L,F,chB L⟩ (eiF es) P0 (k+1)).2.1=(encB ⟨w,h,q,b,L,F,chB L⟩ (eiF es k) k (encM ⟨w,h,q,b,L,F,chB L⟩ (eiF es) P0 k).2.2 (encM ⟨w,h,q,b,L,F,chB L⟩ (eiF es) P0 k).2.1 (manyE (eiF es k))).2:=by rw [hms]
  clear hms
  generalize he:eiF es k=e at*
  generalize encM ⟨w,h,q,b,L,F,chB L⟩ (eiF es) P0 k=X at*
  obtain ⟨M,P,c⟩:=X
  dsimp only at hmk hml hmp hmc hmo hmn hpn ⊢
  subst hml
  refine goR (r:=?_);and_intros<;>intros<;>try exact True.intro
  all_goals first|contradiction|omega|skip
  have hmx:0<es.length→max (1:Int) (es.length:Int)=(es.length:Int):=fun hh=>by omega
  have hr1:0<es.length→(M.length:Int)%max (1:Int) (es.length:Int)<(es.length:Int):=fun hh=>by rw [hmx hh];exact Int.emod_lt_of_pos _ (by omega)
  have hr0:0<es.length→0≤(M.length:Int)%max (1:Int) (es.length:Int):=fun hh=>by rw [hmx hh];exact Int.emod_nonneg _ (by omega)
  refine WpA.cut (σ1:=⟨[(2,.ptr 0 0 0),(3,.ptr 1 0 0),(5,.own 2 0 0 (msO M).length),(6,.ptr 3 0 0),(7,.ptr 4 0 0),(8,I M.length),(9,I (sz8 e))],[FrO w h F,OpO q b d L ms es,XI (msO M),⟨[I w,I h,I q,B b,B false,IL L],0,0,none⟩,FrO w h P]⟩) ?_ ?_
  ·obtain ⟨g0,hg0⟩:∃g0,decide ((es.length:Int)>0)=g0:=⟨_,rfl⟩
   have hpos:g0=true→0<es.length:=fun hh=>by
    rw [hh] at hg0;have:=of_decide_eq_true hg0;omega
   have hev:g0=true→es.getD ((M.length:Int)%max (1:Int) (es.length:Int)).toNat false=e:=fun hh=>by
    rw [hmx (hpos hh),hei (hpos hh)];congr 1
   have hef:g0=false→e=false:=fun hh=>by
    rw [←he];unfold eiF;rw [if_neg (fun h0=>by rw [hh] at hg0;have:=of_decide_eq_false hg0;omega)]
   have hmx:=fun hh=>hmx (hpos hh)
   have hr1:=fun hh=>hr1 (hpos hh)
   have hr0:=fun hh=>hr0 (hpos hh)
   clear hei he
   cases g0
   all_goals
    try (have hr1:=hr1 rfl)
    try (have hr0:=hr0 rfl)
    try (have hmx:=hmx rfl)
    try (have hpos:=hpos rfl)
    try dsimp only [List.append,List.cons_append,List.nil_append]
    apply WpA.regionRF (O:=[FrO w h F,OpO q b d L ms es,XI (msO M),⟨[I w,I h,I q,B b,B false,IL L],0,0,none⟩,FrO w h P]) (Or:=[]) (O1:=[FrO w h F,OpO q b d L ms es,XI (msO M),⟨[I w,I h,I q,B b,B false,IL L],0,0,none⟩,FrO w h P]) 17 0 [] [] rfl mixed (by decide +kernel)
    ·exact rfl
    ·apply HeadR.consF .none rfl
     ·exact rfl
     ·exact rfl
     ·exact in1
     ·exact rfl
     ·exact rfl
     apply HeadR.consF .none rfl
     ·exact rfl
     ·exact rfl
     ·exact in1
     ·exact rfl
     ·exact rfl
     apply HeadR.consF .none rfl
     ·exact rfl
     ·exact rfl
     ·exact in1
     ·exact rfl
     ·exact rfl
     apply HeadR.consV .none rfl
     ·exact rfl
     ·exact rfl
     ·exact in1
     ·exact hg0
     ·exact rfl
     ·exact rfl
     apply HeadR.consF .none rfl
     ·exact rfl
     ·exact rfl
     ·exact in1
     ·exact rfl
     ·exact rfl
     apply HeadR.consF .none rfl
     ·exact rfl
     ·exact rfl
     ·(intro Tv Ov hc2 hp9 hd9 hk9;refine K.L ?_;refine K.gd ?_;first|(refine K.gT rfl (by decide) rfl ?_;exact in0)|(refine K.gF rfl (by decide) rfl ?_;exact WpL.nil (Only.mk rfl)))
     ·exact rfl
     ·exact rfl
     apply HeadR.consF .none rfl
     ·exact rfl
     ·exact rfl
     ·(intro Tv Ov hc2 hp9 hd9 hk9;refine K.L ?_;refine K.gd ?_;first|(refine K.gT rfl (by decide) rfl ?_;exact in0)|(refine K.gF rfl (by decide) rfl ?_;exact WpL.nil (Only.mk rfl)))
     ·exact rfl
     ·exact rfl
     apply HeadR.consF .none rfl
     ·exact rfl
     ·exact rfl
     ·(intro Tv Ov hc2 hp9 hd9 hk9;refine K.L ?_;refine K.gd ?_;first|(refine K.gT rfl (by decide) rfl ?_;exact in0)|(refine K.gF rfl (by decide) rfl ?_;exact WpL.nil (Only.mk rfl)))
     ·exact rfl
     ·exact rfl
     apply HeadR.consF .none rfl
     ·exact rfl
     ·exact rfl
     ·(intro Tv Ov hc2 hp9 hd9 hk9;refine K.L ?_;refine K.gd ?_;first|(refine K.gT rfl (by decide) rfl ?_;exact in0)|(refine K.gF rfl (by decide) rfl ?_;exact WpL.nil (Only.mk rfl)))
     ·exact rfl
     ·exact rfl
     apply HeadR.consF .none rfl
     ·exact rfl
     ·exact rfl
     ·(intro Tv Ov hc2 hp9 hd9 hk9;refine K.L ?_;refine K.gd ?_;first|(refine K.gT rfl (by decide) rfl ?_;exact in0)|(refine K.gF rfl (by decide) rfl ?_;exact WpL.nil (Only.mk rfl)))
     ·exact rfl
     ·exact rfl
     apply HeadR.consF .none rfl
     ·exact rfl
     ·exact rfl
     ·(intro Tv Ov hc2 hp9 hd9 hk9;refine K.L ?_;refine K.gd ?_;first|(refine K.gT rfl (by decide) rfl ?_;exact in0)|(refine K.gF rfl (by decide) rfl ?_;exact WpL.nil (Only.mk rfl)))
     ·exact rfl
     ·exact rfl
     apply HeadR.consF .none rfl
     ·exact rfl
     ·exact rfl
     ·(intro Tv Ov hc2 hp9 hd9 hk9;refine K.L ?_;refine K.gd ?_;first|(refine K.gT rfl (by decide) rfl ?_;exact in0)|(refine K.gF rfl (by decide) rfl ?_;exact WpL.nil (Only.mk rfl)))
     ·exact rfl
     ·exact rfl
     apply HeadR.consF .none rfl
     ·exact rfl
     ·exact rfl
     ·(intro Tv Ov hc2 hp9 hd9 hk9;refine K.L ?_;refine K.gd ?_;first|(refine K.gT rfl (by decide) rfl ?_;exact in0)|(refine K.gF rfl (by decide) rfl ?_;exact WpL.nil (Only.mk rfl)))
     ·exact rfl
     ·exact rfl
     apply HeadR.consF .none rfl
     ·exact rfl
     ·exact rfl
     ·(intro Tv Ov hc2 hp9 hd9 hk9;refine K.L ?_;refine K.gd ?_;first|(refine K.gT rfl (by decide) rfl ?_;exact in0)|(refine K.gF rfl (by decide) rfl ?_;exact WpL.nil (Only.mk rfl)))
     ·exact rfl
     ·exact rfl
     apply HeadR.consF .none rfl
     ·exact rfl
     ·exact rfl
     ·(intro Tv Ov hc2 hp9 hd9 hk9;refine K.L ?_;refine K.gd ?_;first|(refine K.gT rfl (by decide) rfl ?_;exact in0)|(refine K.gF rfl (by decide) rfl ?_;exact WpL.nil (Only.mk rfl)))
     ·exact rfl
     ·exact rfl
     apply HeadR.consF (V:=B e) .none rfl
     ·exact rfl
     ·exact rfl
     ·first|(rw [←hev rfl];exact in1)|(rw [hef rfl];exact in1)
     ·exact rfl
     ·exact rfl
     apply HeadR.consF (V:=I (sz8 e)) .none rfl
     ·exact rfl
     ·exact rfl
     ·intro Tv Ov hc2 hp9 hd9 hk9
      refine K.call ?_
      refine WpL.callK (l23Side_s.ok e) (.keep rfl rfl .nil) (by decide) ?_
      exact WpL.nil (Only.mk rfl)
     ·exact rfl
     ·exact rfl
     exact HeadR.nil
    ·exact rfl
    ·exact rfl
    ·exact rfl
    ·exact rfl
    ·exact rfl
    ·exact rfl
    ·exact rfl
    refine goR (r:=?_);and_intros<;>intros<;>try exact True.intro
    all_goals first|contradiction|omega
  clear hei hr0 hr1
  refine goR (r:=?_);and_intros<;>intros<;>try exact True.intro
  all_goals first|contradiction|omega|skip
  have hbl:=encB_len ⟨w,h,q,b,L,F,chB L⟩ e M.length c P
  have hbp:=encB_plen ⟨w,h,q,b,L,F,chB L⟩ e M.length c P
  have hbs:=encB_snoc ⟨w,h,q,b,L,F,chB L⟩ e M.length c P
  have hb0:encB ⟨w,h,q,b,L,F,chB L⟩ e M.length c P 0=([],P):=encB_zero ..
  refine WpA.loop (fun i:Nat=>⟨[(2,.ptr 0 0 0),(3,.ptr 1 0 0),(5,.own 2 0 0 (msO M++(encB ⟨w,h,q,b,L,F,chB L⟩ e M.length c P i).1.map (·.1)).length),(6,.ptr 3 0 0),(7,.ptr 4 0 0),(8,I M.length),(9,I (sz8 e)),(10,I i)],[FrO w h F,OpO q b d L ms es,XI (msO M++(encB ⟨w,h,q,b,L,F,chB L⟩ e M.length c P i).1.map (·.1)),⟨[I w,I h,I q,B b,B false,IL L],0,0,none⟩,FrO w h (encB ⟨w,h,q,b,L,F,chB L⟩ e M.length c P i).2]⟩) (fun i=>i≤manyE e) (fun i=>manyE e-i) 0 (Nat.zero_le _) ?_ (fun i hi=>?_)
  ·rw [hb0];dsimp only;rw [List.map_nil,List.append_nil];refine go (r:=?_);and_intros<;>first|exact True.intro|rfl
  have hbl:=hbl i
  have hbp:=hbp i
  have hbs:=hbs i
  have hq64:(64:Int)/(sz8 e*sz8 e)=((manyE e:Nat):Int):=by cases e<;>decide
  have hs8:sz8 e=4∨sz8 e=8:=by cases e<;>simp [sz8]
  have hs2:sz8 e*sz8 e=16∨sz8 e*sz8 e=64:=by cases e<;>simp [sz8]
  by_cases hlt2:i<manyE e
  ·have hsp:(8≤w∧w≤1024∧M.length≤1048576)∧i<manyE e:=⟨by omega,hlt2⟩
   obtain ⟨x,y,hxy⟩:∃x y,plc1 w (sz8 e) M.length i=(x,y,sz8 e):=⟨_,_,rfl⟩
   have hksp:=l25Spot_s.ok w h q b false L M.length i e hsp
   rw [hxy] at hbs hksp
   simp only [chM,chV,nbP,chB] at hbs
   dsimp only at hksp
   clear hmn hpn
   generalize encB ⟨w,h,q,b,L,F,chB L⟩ e M.length c P i=Y at*
   obtain ⟨bs,Pi⟩:=Y
   dsimp only at hbl hbp hbs ⊢
   subst hbl
   generalize hsz:sz8 e=n at*
   have hkB:=BlockAt_s.ok w h F x y n (by omega)
   have hkN:Fn 91 [FrA w h Pi,I x,I y,I n] [XI (topL w h Pi x y n),XI (lefL w h Pi x y n)] (.agg [.own 0 0 0 (topL w h Pi x y n).length,.own 1 0 0 (lefL w h Pi x y n).length,I (corL w h Pi x y n),B (hasT w h Pi x y n),B (hasE w h Pi x y n)]):=NbAt_s.ok w h Pi x y n (by omega)
   have hkb:=blkL_le w h F x y n
   have hkn:=nb_le w h Pi x y n
   generalize blkL w h F x y n=bk at*
   generalize topL w h Pi x y n=tp at*
   generalize lefL w h Pi x y n=lf at*
   generalize corL w h Pi x y n=co at*
   generalize hasT w h Pi x y n=hT at*
   generalize hasE w h Pi x y n=hE at*
   have hkM:=BestMode_s.ok bk tp lf co hT hE n L ⟨by omega,by omega,by omega,by omega⟩
   have hos:msO M++(encB ⟨w,h,q,b,L,F,chB L⟩ e M.length c P (bs.length+1)).1.map (·.1)=(msO M++bs.map (·.1))++[bestM bk tp lf co hT hE n L]:=by rw [hbs];simp
   have hol:(msO M++bs.map (·.1)).length≤1048576:=by rw [List.length_append,List.length_map];omega
   generalize msO M++bs.map (·.1)=o at*
   generalize bestM bk tp lf co hT hE n L=md at*
   have hkP:=Pred_s.ok md tp lf co hT hE n ⟨by omega,by omega,by omega⟩
   have hpl:=predS_len md tp lf co hT hE n
   have hpl:(predS md tp lf co hT hE n).length≤64:=by
    rw [hpl];split
    ·rcases hs8 with rfl|rfl<;>decide
    ·decide
   generalize predS md tp lf co hT hE n=pr at*
   have hkR:=Residual_s.ok bk pr ⟨by omega,by omega⟩
   have hrl:(resS bk pr).length≤64:=by
    rw [resS_len];split<;>omega
   generalize resS bk pr=rs at*
   have hkL:=LevelsFor_s.ok q b d L ms es rs ⟨by omega,by omega⟩
   have hll:=levL_le b q L rs
   generalize levL b q L rs=lv at*
   have hkU:=PutRef_s.ok w h Pi w h q b false L x y md lv ⟨by omega,by omega⟩
   have hul:=putL_len w h Pi q b x y md lv
   generalize putL w h Pi q b x y md lv=Pu at*
   refine goR (r:=?_);and_intros<;>intros<;>try exact True.intro
   all_goals first|contradiction|omega|skip
   refine K.call ?_
   refine WpL.callF hksp snapA locA outA rfl rfl rfl (by decide) ?_
   refine goR (r:=?_);and_intros<;>intros<;>try exact True.intro
   all_goals first|contradiction|omega|skip
   try dsimp only [List.append,List.cons_append,List.nil_append]
   apply WpA.regionGB 17 mixed (by decide +kernel)
   ·exact rfl
   ·apply HeadG.preF 5 rfl rfl rfl
    ·exact rfl
    ·exact in0
    ·exact rfl
    apply HeadG.preF 5 rfl rfl rfl
    ·exact rfl
    ·exact in0
    ·exact rfl
    apply HeadG.preF 5 rfl rfl rfl
    ·exact rfl
    ·exact in0
    ·exact rfl
    apply HeadG.preF 5 rfl rfl rfl
    ·exact rfl
    ·exact in0
    ·exact rfl
    apply HeadG.precF 0 rfl rfl
    ·exact rfl
    ·intro Tv Ov
     refine K.call ?_
     apply WpL.callI (hkB)
     ·exact snapA
     ·exact locA
     ·exact outA
     ·exact frzA
     ·decide
     ·exact WpL.nil (Only.mk rfl)
    ·exact rfl
    apply HeadG.preF 5 rfl rfl rfl
    ·exact rfl
    ·exact in0
    ·exact rfl
    apply HeadG.preF 5 rfl rfl rfl
    ·exact rfl
    ·exact in0
    ·exact rfl
    apply HeadG.preF 5 rfl rfl rfl
    ·exact rfl
    ·exact in0
    ·exact rfl
    apply HeadG.preF 5 rfl rfl rfl
    ·exact rfl
    ·exact in0
    ·exact rfl
    apply HeadG.precF 0 rfl rfl
    ·exact rfl
    ·intro Tv Ov
     refine K.call ?_
     apply WpL.callI (hkN)
     ·exact snapA
     ·exact locA
     ·exact outA
     ·exact frzA
     ·decide
     ·exact WpL.nil (Only.mk rfl)
    ·exact rfl
    apply HeadG.preF 5 rfl rfl rfl
    ·exact rfl
    ·exact in0
    ·exact rfl
    apply HeadG.preF 5 rfl rfl rfl
    ·exact rfl
    ·exact in0
    ·exact rfl
    apply HeadG.preF 5 rfl rfl rfl
    ·exact rfl
    ·exact in0
    ·exact rfl
    apply HeadG.precF 0 rfl rfl
    ·exact rfl
    ·intro Tv Ov
     refine K.call ?_
     apply WpL.callK (hkM)
     ·exact .keep rfl rfl (.agg (.keep rfl rfl (.keep rfl rfl (.keep rfl rfl (.keep rfl rfl (.keep rfl rfl .nil))))) (.keep rfl rfl (.keep rfl rfl .nil)))
     ·decide
     ·exact WpL.nil (Only.mk rfl)
    ·exact rfl
    apply HeadG.preF 0 rfl rfl rfl
    ·exact rfl
    ·exact in0
    ·exact rfl
    apply HeadG.stepF rfl rfl
    ·exact rfl
    ·exact in1
    ·exact rfl
    apply HeadG.stepNF rfl
    ·exact rfl
    ·exact in1
    ·exact rfl
    exact Abs.HeadG.nil
   ·exact trueA
   ·exact trueA
   ·exact trueA
   ·exact demA
   ·exact rfl
   ·exact rfl
   refine goR (r:=?_);and_intros<;>intros<;>try exact True.intro
   all_goals first|contradiction|omega|skip
   try dsimp only [List.append,List.cons_append,List.nil_append]
   apply WpA.regionGB 19 mixed (by decide +kernel)
   ·exact rfl
   ·apply HeadG.preF 5 rfl rfl rfl
    ·exact rfl
    ·exact in0
    ·exact rfl
    apply HeadG.preF 5 rfl rfl rfl
    ·exact rfl
    ·exact in0
    ·exact rfl
    apply HeadG.preF 5 rfl rfl rfl
    ·exact rfl
    ·exact in0
    ·exact rfl
    apply HeadG.preF 5 rfl rfl rfl
    ·exact rfl
    ·exact in0
    ·exact rfl
    apply HeadG.preF 5 rfl rfl rfl
    ·exact rfl
    ·exact in0
    ·exact rfl
    apply HeadG.precF 0 rfl rfl
    ·exact rfl
    ·intro Tv Ov
     refine K.call ?_
     apply WpL.callI (hkB)
     ·exact snapA
     ·exact locA
     ·exact outA
     ·exact frzA
     ·decide
     ·exact WpL.nil (Only.mk rfl)
    ·exact rfl
    apply HeadG.hole5 rfl rfl rfl
    ·exact rfl
    ·exact in0
    ·exact rfl
    apply HeadG.hole5 rfl rfl rfl
    ·exact rfl
    ·exact in0
    ·exact rfl
    apply HeadG.preF 5 rfl rfl rfl
    ·exact rfl
    ·exact in0
    ·exact rfl
    apply HeadG.preF 5 rfl rfl rfl
    ·exact rfl
    ·exact in0
    ·exact rfl
    apply HeadG.preF 5 rfl rfl rfl
    ·exact rfl
    ·exact in0
    ·exact rfl
    apply HeadG.preF 5 rfl rfl rfl
    ·exact rfl
    ·exact in0
    ·exact rfl
    apply HeadG.precF 0 rfl rfl
    ·exact rfl
    ·intro Tv Ov
     refine K.call ?_
     apply WpL.callI (hkN)
     ·exact snapA
     ·exact locA
     ·exact outA
     ·exact frzA
     ·decide
     ·exact WpL.nil (Only.mk rfl)
    ·exact rfl
    apply HeadG.preF 5 rfl rfl rfl
    ·exact rfl
    ·exact in0
    ·exact rfl
    apply HeadG.precF 0 rfl rfl
    ·exact rfl
    ·intro Tv Ov
     refine K.call ?_
     apply WpL.callI (hkP)
     ·exact snapA
     ·exact locA
     ·exact outA
     ·exact frzA
     ·decide
     ·exact WpL.nil (Only.mk rfl)
    ·exact rfl
    apply HeadG.precF 0 rfl rfl
    ·exact rfl
    ·intro Tv Ov
     refine K.call ?_
     apply WpL.callI (hkR)
     ·exact snapA
     ·exact locA
     ·exact outA
     ·exact frzA
     ·decide
     ·exact WpL.nil (Only.mk rfl)
    ·exact rfl
    apply HeadG.precF 0 rfl rfl
    ·exact rfl
    ·intro Tv Ov
     refine K.call ?_
     apply WpL.callI (hkL)
     ·exact snapA
     ·exact locA
     ·exact outA
     ·exact frzA
     ·decide
     ·exact WpL.nil (Only.mk rfl)
    ·exact rfl
    apply HeadG.hole5 rfl rfl rfl
    ·exact rfl
    ·exact in0
    ·exact rfl
    apply HeadG.stepNF rfl
    ·exact rfl
    ·exact in1
    ·exact rfl
    exact Abs.HeadG.nil
   ·exact trueA
   ·exact trueA
   ·exact trueA
   ·exact demA
   ·exact rfl
   ·exact rfl
   refine goR (r:=?_);and_intros<;>intros<;>try exact True.intro
   all_goals first|contradiction|omega|skip
   refine K.call ?_
   apply WpL.callI hkU
   ·exact snapA
   ·exact locA
   ·exact outA
   ·exact FrzR.tup (.agg (.keep rfl rfl (.keep rfl rfl (.own rfl rfl rfl (by show Pi.length*1=(List.map _ _).length;rw [Nat.mul_one,List.length_map];exact hul.symm) hul.symm (Snap.same rfl (still_ints _) (nofre_ints _)) .nil))) (.keep rfl rfl .nil))
   ·decide
   refine goR (r:=?_);and_intros<;>intros<;>try exact True.intro
   all_goals first|contradiction|omega|(rw [hos];simp;done)|(rw [hos];done)|exact hos.symm|(rw [hos];exact .own rfl rfl rfl rfl rfl (by simp) .nil)|(rw [hos];exact Re.same rfl (still_ints _))|(rw [hbs];exact .keep rfl rfl .nil)
  ·obtain rfl:i=manyE e:=by omega
   refine goR (r:=?_);and_intros<;>intros<;>try exact True.intro
   all_goals first|contradiction|omega|exact hmn.symm|(rw [hmn];exact .own rfl rfl rfl rfl rfl rfl .nil)|(rw [hpn];exact .keep rfl rfl .nil)
 ·obtain ek:(cntM w h).toNat=k:=by omega
  rw [ek]
  refine goR (r:=?_);and_intros<;>intros<;>try exact True.intro
  all_goals first|contradiction|omega
end
instance BestModes_s:Con 53 (∀ (w h q:Int) (b d:Bool) (L ms F:List Int) (es:List Bool),F.length≤1099511627776∧L.length≤1099511627776∧ms.length≤1099511627776∧es.length≤1099511627776→
 Fn 53 [FrA w h F,OpA q b d L ms es] [XI (bmL w h q b L F es)] (.own 0 0 0 (bmL w h q b L F es).length)):=⟨fun w h q b d L ms F es hl=>by
 unfold bmL
 by_cases hok:FrameOk w h F∧OptOk q L
 ·rw [if_pos hok];exact BestModes_s1 w h q b d L ms F es hok.1 hok.2 ⟨hl.2.2.1,hl.2.2.2⟩
 ·rw [if_neg hok];exact BestModes_s0 w h q b d L ms F es ⟨hl.1,hl.2.1⟩ hok⟩
end Go.Proofs.YtainhhfnnclfiaaGreat


namespace Go.Proofs.YtainhhfnnclfiaaGreat
open Go Go.Abs
attribute [local irreducible] WpA WpL Rnd Blk Abs.Seq Abs.Fin Abs.FinG FnC FnG Only
instance markFrame_c:ConG 39 (∀ (W H:Int) (l:List Int) (k:Int),l.length≤1048576∧0≤k∧k≤1073741824→
 Gn 39 [.agg [I W,I H,.own 0 0 0 l.length],I k] [IN l] [IN (marksI k l.length)] [] (I (k+l.length))):=⟨fun W H l k hk=>by
 refine FnG.of_bodyF tabOk Tryz.func39 Tryz.ntmps39 rfl (by decide +kernel) (by simp) rfl rfl fun G=>?_
 refine go (r:=?_);and_intros<;>intros<;>try exact True.intro⟩
end Go.Proofs.YtainhhfnnclfiaaGreat


namespace Go.Proofs.YtainhhfnnclfiaaGreat
open Go Go.Abs
attribute [local irreducible] WpA WpL Rnd Blk Abs.Seq Abs.Fin Abs.FinG FnC FnG FnX FnP FinX Only
theorem encM_c16 {a:EncA} {E:Nat→Bool} {P:List Int} (h:SidesOk a.W a.H):(encM a E P (cntM a.W a.H).toNat).2.2≤64:=by
 have:=encM_cnt a E P (cntM a.W a.H).toNat
 have:=cntM_bd h
 omega
theorem bmL_len (w h q:Int) (b:Bool) (L F:List Int) (es:List Bool):(bmL w h q b L F es).length≤64:=by
 unfold bmL;split
 ·rename_i hok;rw [encM_ms];exact encM_c16 (a:=⟨w,h,q,b,L,F,chB L⟩) hok.1.1
 ·exact Nat.zero_le _
section
attribute [local irreducible] bmL
theorem FnExactBestModes_c (W H:Int) (p:List Int) (q:Int) (b d:Bool) (l m:List Int) (e:List Bool) (hl:p.length≤9223372036854775807∧l.length≤9223372036854775807∧m.length≤9223372036854775807∧e.length≤9223372036854775807):Fn 9 [FrA W H p,OpA q b d l m e] [] (B true):=by
 have hll:=bmL_len W H q b l p e
 have hml:∀n,(marksI 1 n).length=n:=fun n=>by simp [marksI]
 refine FnC.of_body tabOk Tryz.func9 Tryz.ntmps9 rfl (by decide +kernel) (by simp) fun G=>?_
 refine go (r:=?_);and_intros<;>intros<;>try (first|exact True.intro|(simp_all;done))
 all_goals first|contradiction|omega|(exfalso;simp only [hml,if_true] at *;omega)
end
end Go.Proofs.YtainhhfnnclfiaaGreat


namespace Go.Abs
open Go Go.RowKit
theorem FnC.walk {P:Program} {f:FuncId} {args:List AV} {N:List AObj} {x:Value} (hc:FnC P f args N (.sc x)) {w:World} {S:Nat→Prop} {vs:List Value} (hS:∀b,S b→b<w.heap.size)
 (hl:LRel S w (fun _=>none) [] args vs []):Calls P f vs.toArray w fun e w'=>e=.returned x∧Below w.heap.size w w':=by
 refine (hc.2 w S vs hS hl).mono fun e w' h=>?_
 obtain ⟨v,S',ι,F,rfl,_,_,_,_,_,hv,hk⟩:=h
 cases hv with
 |sc r=>exact ⟨rfl,hk.os,hk.tape,hk.output,hk.size,fun b hb=>hk.block b hb (fun h=>h)⟩
theorem spot_none {w:World} {x:Addr} {n:Nat} (h:0<n) (hc:∀i,i<n→∃v,w.cell? (x.add i)=some v):x.spot=none:=by
 obtain ⟨v,hv⟩:=hc 0 h
 simpa [Addr.add] using World.cell?_spot hv
end Go.Abs


namespace Go.Abs
open Go Go.RowKit
inductive Sp where
 |int (k:IntKind)|bool|str|struct (fs:List Sp)|slice (k:Nat) (e:Sp)
mutual
inductive SpOk (P:Program):TypeId→Sp→Prop
 |int {t k}:P.underlying t=some (.int k)→SpOk P t (.int k)
 |bool {t}:P.underlying t=some .bool→SpOk P t .bool
 |str {t}:P.underlying t=some .string→SpOk P t .str
 |struct {t fs sps n}:P.underlying t=some (.struct fs)→P.cellsOf t=n→SpF P 0 fs.toList sps n→SpOk P t (.struct sps)
 |slice {t e k sp}:P.underlying t=some (.slice e)→P.cellsOf e=k→0<k→SpOk P e sp→SpOk P t (.slice k sp)
inductive SpF (P:Program):Nat→List Field→List Sp→Nat→Prop
 |nil {k}:SpF P k [] [] k
 |cons {k c f fs sp sps n}:f.offset=k→P.cellsOf f.type=c→SpOk P f.type sp→SpF P (k+c) fs sps n→SpF P k (f::fs) (sp::sps) n
end
mutual
inductive Rd:Sp→List AV→Prop
 |int {k n}:(Lit.int k n).wf=true→Rd (.int k) [.sc (.int k n)]
 |bool {b}:Rd .bool [.sc (.bool b)]
 |str {p:List UInt8}:p.length≤maxLen→Rd .str [.sc (.string ⟨p.toArray⟩)]
 |struct {sps cs}:RdF sps cs→Rd (.struct sps) cs
 |slice {sp len k cs}:len≤maxLen→RdN sp len k cs→Rd (.slice k sp) [.imm k len cs]
inductive RdF:List Sp→List AV→Prop
 |nil:RdF [] []
 |cons {sp sps a b}:Rd sp a→RdF sps b→RdF (sp::sps) (a++b)
inductive RdN:Sp→Nat→Nat→List AV→Prop
 |nil {sp k}:RdN sp 0 k []
 |snoc {sp n k a b}:RdN sp n k a→Rd sp b→b.length=k→RdN sp (n+1) k (a++b)
end
theorem RdN.len {sp n k cs} (h:RdN sp n k cs):cs.length=n*k:=by
 induction n generalizing cs with
 |zero=>cases h;simp
 |succ n ih=>cases h with|snoc h1 h2 h3=>rw [List.length_append,ih h1,h3,Nat.add_mul];omega
section
variable {H:Type} {enc:TypeId×Value→H} {P:Program} {w:World} {base:Nat} {spare:Nat→Bool} {held:Bool}
theorem read {S:Nat→Prop} {ι:Nat→Spot} (hS:∀b,b<w.heap.size→S b):∀(fuel:Nat) (t:TypeId) (sp:Sp) (cs:List Value) (x:DataW H×List MemPlace),SpOk P t sp→
 DataW.trod enc P w base spare held fuel t cs=some x→∃ds,Rd sp ds∧∀O,LRel S w ι O ds cs []:=by
 intro fuel
 induction fuel with
 |zero=>intro t sp cs x _ h;simp [DataW.trod] at h
 |succ fuel ih=>
  intro t sp cs x hsp h
  cases hsp with
  |int ht=>
   obtain ⟨n,rfl,_,hw⟩:=DataW.trod_int ht h
   exact ⟨_,.int hw,fun O=>.sc .nil⟩
  |bool ht=>
   obtain ⟨b,rfl,_⟩:=DataW.trod_bool ht h
   exact ⟨_,.bool,fun O=>.sc .nil⟩
  |str ht=>
   obtain ⟨s,rfl,_,hs⟩:=DataW.trod_string ht h
   exact ⟨[.sc (.string ⟨s.data.toList.toArray⟩)],.str (by have:s.data.toList.length=s.size:=rfl;omega),fun O=>.sc .nil⟩
  |@struct _ fs sps n ht hn hf=>
   obtain ⟨xs,m,hm,_,hlen,hxl,hel⟩:=DataW.trod_struct ht h
   obtain rfl:fuel=m:=by omega
   have key:∀(fl:List Field) (k:Nat) (sps:List Sp),SpF P k fl sps n→(∀ f∈fl,∃x,DataW.trod enc P w base spare held fuel f.type ((cs.drop f.offset).take (P.cellsOf f.type))=some x)→
    k≤n→∃ds,RdF sps ds∧∀O,LRel S w ι O ds (cs.drop k) []:=by
    intro fl
    induction fl with
    |nil=>
     intro k sps hF _ _
     cases hF
     exact ⟨[],.nil,fun O=>by rw [List.drop_eq_nil_of_le (by omega)];exact .nil⟩
    |cons f fl ihf=>
     intro k sps hF hx hk
     cases hF with
     |cons h1 h2 h3 h4=>
      obtain ⟨y,hy⟩:=hx f (by simp)
      obtain ⟨d1,r1,l1⟩:=ih _ _ _ _ h3 hy
      have hkn:∀{k fl sps},SpF P k fl sps n→k≤n:=by
       intro k fl
       induction fl generalizing k with
       |nil=>intro sps h;cases h;exact Nat.le_refl _
       |cons f fl ih2=>intro sps h;cases h with|cons _ _ _ h=>have:=ih2 h;omega
      obtain ⟨d2,r2,l2⟩:=ihf _ _ h4 (fun g hg=>hx g (by simp [hg])) (hkn h4)
      refine ⟨d1++d2,.cons r1 r2,fun O=>?_⟩
      have e:cs.drop k=(cs.drop f.offset).take (P.cellsOf f.type)++cs.drop (k+P.cellsOf f.type):=by
       rw [h1,←List.drop_drop,List.take_append_drop]
      rw [e,h2]
      rw [h2] at l1
      simpa using (l1 O).append (l2 O)
   obtain ⟨ds,r,l⟩:=key fs.toList 0 sps hf (fun f hf'=>by
    obtain ⟨i,hi⟩:=List.getElem?_of_mem hf'
    have hi':fs[i]?=some f:=by simpa using hi
    have:=hel i f hi'
    have hlt:i<xs.length:=by have:=(Array.getElem?_eq_some_iff.1 hi').1;omega
    exact ⟨xs[i],by rw [this];simp [hlt]⟩) (Nat.zero_le _)
   exact ⟨ds,.struct r,fun O=>by simpa using l O⟩
  |@slice _ e k sp ht hk hk0 he=>
   rcases DataW.trod_slice ht h with ⟨rfl,_⟩|⟨a,len,cap,elems,rest,m,hm,rfl,_,hb,hl,hc,hlen,hel,_,_⟩
   ·exact ⟨[.imm k 0 []],.slice (by simp) .nil,fun O=>.imm0 (by simp) .nil⟩
   obtain rfl:fuel=m:=by omega
   have cells:∀j,j≤len→∃ds us,RdN sp j k ds∧us.length=j*k∧(∀ i,i<us.length→w.cell? (a.add i)=us[i]?)∧LRel S w ι [] ds us []:=by
    intro j
    induction j with
    |zero=>intro _;exact ⟨[],[],.nil,by simp,by simp,.nil⟩
    |succ j ihj=>
     intro hj
     obtain ⟨ds,us,h1,h2,h3,h4⟩:=ihj (by omega)
     have hx:=hel j (by omega)
     have hlt:j<elems.length:=by omega
     rw [List.getElem?_eq_getElem hlt,Option.bind_eq_some_iff,hk] at hx
     obtain ⟨us2,hu,ht2⟩:=hx
     obtain ⟨d2,r2,l2⟩:=ih _ _ _ _ he ht2
     obtain ⟨_,c2,c3⟩:=World.cells?_some hu
     have l2':=l2 []
     have hd2:d2.length=k:=by rw [l2'.len,c2]
     refine ⟨ds++d2,us++us2,.snoc h1 r2 hd2,by rw [List.length_append,h2,c2,Nat.add_mul];omega,fun i hi=>?_,by simpa using h4.append l2'⟩
     rw [List.length_append] at hi
     by_cases hlt2:i<us.length
     ·rw [h3 i hlt2,List.getElem?_append_left hlt2]
     ·have hadd:a.add i=(a.add (j*k)).add (i-j*k):=by
       unfold Addr.add
       by_cases hz:j*k=0
       ·simp [hz]
       ·by_cases hz2:i-j*k=0
        ·have:i=j*k:=by omega
         simp [this]
        ·rw [if_neg (by omega),if_neg hz,if_neg hz2]
         simp only [Addr.mk.injEq,true_and,and_true]
         omega
      rw [hadd,c3 (i-j*k) (by omega),List.getElem?_append_right (by omega),h2]
   obtain ⟨ds,us,h1,h2,h3,h4⟩:=cells len (Nat.le_refl _)
   refine ⟨[.imm k len ds],.slice (by omega) h1,fun O=>?_⟩
   by_cases h0:len=0
   ·subst h0
    cases h1
    exact .imm0 ⟨by simp,hc⟩ .nil
   ·have hul:0<us.length:=by rw [h2];exact Nat.mul_pos (by omega) hk0
    have hsp:=spot_none (w:=w) (x:=a) (n:=us.length) hul fun i hi=>⟨us[i],by rw [h3 i hi];simp [hi]⟩
    obtain ⟨b,o,q⟩:=a
    simp only at hsp
    subst hsp
    have hcell:∀i,i<us.length→w.cell? ⟨b,o+i,none⟩=us[i]?:=fun i hi=>by have:=h3 i hi;rwa [addr_add] at this
    refine .imm (us:=us) (hS _ ?_) hcell h4 (by rw [h1.len]) hl hc .nil
    by_cases hb':b<w.heap.size
    ·exact hb'
    ·have:=hcell 0 hul
     simp [World.cell?,Array.getElem?_eq_none (Nat.le_of_not_lt hb'),hul] at this
end
end Go.Abs


namespace Go.Abs
open Go Go.RowKit
abbrev i64 (n:Int):Prop:=-9223372036854775808≤n∧n≤9223372036854775807
theorem i64_wf {n:Int} (h:(Lit.int .i64 n).wf=true):i64 n:=by
 simp only [Lit.wf,Bool.and_eq_true,decide_eq_true_eq,show IntKind.i64.min=-9223372036854775808 from rfl,show IntKind.i64.max=9223372036854775807 from rfl] at h
 exact h
theorem rd_int {ds:List AV} (h:Rd (.int .i64) ds):∃n:Int,ds=[I n]∧i64 n:=by
 cases h with|int hw=>exact ⟨_,rfl,i64_wf hw⟩
theorem rd_bool {ds:List AV} (h:Rd .bool ds):∃b:Bool,ds=[B b]:=by
 cases h with|bool=>exact ⟨_,rfl⟩
theorem rdN_ints {n:Nat} {cs:List AV} (h:RdN (.int .i64) n 1 cs):∃xs:List Int,cs=ints xs∧xs.length=n∧∀x∈xs,i64 x:=by
 induction n generalizing cs with
 |zero=>cases h;exact ⟨[],rfl,rfl,by simp⟩
 |succ n ih=>
  cases h with
  |snoc h1 h2 h3=>
   obtain ⟨xs,rfl,h5,h6⟩:=ih h1
   obtain ⟨m,rfl,hm⟩:=rd_int h2
   refine ⟨xs++[m],by simp [ints],by simp [h5],fun x hx=>?_⟩
   rcases List.mem_append.1 hx with hx|hx
   ·exact h6 x hx
   ·have:x=m:=by simpa using hx
    subst this;exact hm
theorem rd_ints {ds:List AV} (h:Rd (.slice 1 (.int .i64)) ds):∃xs:List Int,ds=[IL xs]∧xs.length≤9223372036854775807∧∀x∈xs,i64 x:=by
 cases h with
 |slice hl hn=>
  obtain ⟨xs,rfl,h1,h2⟩:=rdN_ints hn
  subst h1
  exact ⟨xs,rfl,by simp only [maxLen] at hl;omega,h2⟩
theorem rdN_bools {n:Nat} {cs:List AV} (h:RdN .bool n 1 cs):∃xs:List Bool,cs=bools xs∧xs.length=n:=by
 induction n generalizing cs with
 |zero=>cases h;exact ⟨[],rfl,rfl⟩
 |succ n ih=>
  cases h with
  |snoc h1 h2 h3=>
   obtain ⟨xs,rfl,h5⟩:=ih h1
   obtain ⟨m,rfl⟩:=rd_bool h2
   exact ⟨xs++[m],by simp [bools],by simp [h5]⟩
theorem rd_bools {ds:List AV} (h:Rd (.slice 1 .bool) ds):∃xs:List Bool,ds=[.imm 1 xs.length (bools xs)]∧xs.length≤9223372036854775807:=by
 cases h with
 |slice hl hn=>
  obtain ⟨xs,rfl,h1⟩:=rdN_bools hn
  subst h1
  exact ⟨xs,rfl,by simp only [maxLen] at hl;omega⟩
theorem rd_struct {sps:List Sp} {ds:List AV} (h:Rd (.struct sps) ds):RdF sps ds:=by
 cases h with|struct h=>exact h
theorem rdF_cons {sp:Sp} {sps:List Sp} {ds:List AV} (h:RdF (sp::sps) ds):∃a b,ds=a++b∧Rd sp a∧RdF sps b:=by
 cases h with|cons h1 h2=>exact ⟨_,_,rfl,h1,h2⟩
theorem rdF_nil {ds:List AV} (h:RdF [] ds):ds=[]:=by cases h;rfl
abbrev spI:Sp:=.int .i64
abbrev spIs:Sp:=.slice 1 (.int .i64)
theorem rd_frame {ds:List AV} (h:Rd (.struct [spI,spI,spIs]) ds):∃(W H:Int) (p:List Int),ds=[I W,I H,IL p]∧i64 W∧i64 H∧p.length≤9223372036854775807∧∀x∈p,i64 x:=by
 obtain ⟨_,_,rfl,h1,h⟩:=rdF_cons (rd_struct h)
 obtain ⟨_,_,rfl,h2,h⟩:=rdF_cons h
 obtain ⟨_,_,rfl,h3,h⟩:=rdF_cons h
 obtain rfl:=rdF_nil h
 obtain ⟨W,rfl,a1⟩:=rd_int h1
 obtain ⟨H,rfl,a2⟩:=rd_int h2
 obtain ⟨p,rfl,a3,a4⟩:=rd_ints h3
 exact ⟨W,H,p,rfl,a1,a2,a3,a4⟩
theorem lrel_agg {S:Nat→Prop} {w:World} {ι:Nat→Spot} {O:List AObj} {ds:List AV} {cs:Array Value} (h:LRel S w ι O ds cs.toList []):VRel S w ι O (.agg ds) (.agg cs) []:=by
 simpa using LRel.agg h .nil
theorem lrel_cons0 {S:Nat→Prop} {w:World} {ι:Nat→Spot} {O:List AObj} {V:AV} {v:Value} {cs:List AV} {vs:List Value} (h1:VRel S w ι O V v []) (h2:LRel S w ι O cs vs []):LRel S w ι O (V::cs) (v::vs) []:=LRel.cons h1 h2
end Go.Abs


namespace Go.Proofs.YtainhhfnnclfiaaGreat
open Go Go.Abs Go.RowKit
@[irreducible] def WfI (l:List Int):Prop:=∀x∈l,i64 x
theorem wfI_of {l:List Int} (h:∀x∈l,i64 x):WfI l:=by unfold WfI;exact h
abbrev spBs:Sp:=.slice 1 .bool
theorem rd_options {ds:List AV} (h:Rd (.struct [spI,.bool,.bool,spIs,spIs,spBs]) ds):∃(q:Int) (b d:Bool) (l m:List Int) (e:List Bool),ds=[I q,B b,B d,IL l,IL m,BL e]∧i64 q∧l.length≤9223372036854775807∧WfI l∧m.length≤9223372036854775807∧WfI m∧e.length≤9223372036854775807:=by
 obtain ⟨_,_,rfl,h1,h⟩:=rdF_cons (rd_struct h)
 obtain ⟨_,_,rfl,h2,h⟩:=rdF_cons h
 obtain ⟨_,_,rfl,h3,h⟩:=rdF_cons h
 obtain ⟨_,_,rfl,h4,h⟩:=rdF_cons h
 obtain ⟨_,_,rfl,h5,h⟩:=rdF_cons h
 obtain ⟨_,_,rfl,h6,h⟩:=rdF_cons h
 obtain rfl:=rdF_nil h
 obtain ⟨q,rfl,a1⟩:=rd_int h1
 obtain ⟨b,rfl⟩:=rd_bool h2
 obtain ⟨d,rfl⟩:=rd_bool h3
 obtain ⟨l,rfl,a2,a3⟩:=rd_ints h4
 obtain ⟨m,rfl,a4,a5⟩:=rd_ints h5
 obtain ⟨e,rfl,a6⟩:=rd_bools h6
 exact ⟨q,b,d,l,m,e,rfl,a1,a2,wfI_of a3,a4,wfI_of a5,a6⟩
end Go.Proofs.YtainhhfnnclfiaaGreat
