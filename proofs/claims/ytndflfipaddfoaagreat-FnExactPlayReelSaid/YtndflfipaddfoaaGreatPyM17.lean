/- Proved in this text: lemmas and contracts of functions that the claim uses (parts: Nbs, PutR, FrN, Spt, RdK, Var, Reel, ReelP, PlR). No condition. -/
import Derived.Test.YtndflfipaddfoaaGreatPyM14
import Derived.Test.YtndflfipaddfoaaGreatPyM13
import Derived.Test.YtndflfipaddfoaaGreatPyM15
import Derived.Test.YtndflfipaddfoaaGreatPyM16
import Derived.Test.YtndflfipaddfoaaGreatPyM9
set_option linter.unusedVariables false
set_option linter.unusedSimpArgs false
set_option maxRecDepth 100000
set_option maxHeartbeats 16000000


namespace Go.Proofs.YtndflfipaddfoaaGreat
open Go Go.Abs
attribute [local irreducible] WpA WpL Rnd Blk Abs.Seq Abs.Fin Abs.FinG FnC FnG Only
attribute [local irreducible] topF lefF
attribute [local simp] Abs.setL
instance NbAt_s:Con 147 (∀ (W H:Int) (p:List Int) (x y n:Int),p.length≤1099511627776→Fn 147 [FrA W H p,I x,I y,I n] [XI (topL W H p x y n),XI (lefL W H p x y n)] (NbOwn W H p x y n)):=⟨fun W H p x y n hl=>by
 by_cases h:Fits W H p x y n
 ·have ht:topL W H p x y n=tabL (topF W p x y n) (2*n).toNat:=by unfold topL;rw [if_pos h]
  have hle:lefL W H p x y n=tabL (lefF W p x y) n.toNat:=by unfold lefL;rw [if_pos h]
  have hco:corL W H p x y n=if 0<x∧0<y then p.getD ((y-1)*W+x-1).toNat 0 else 128:=by unfold corL;rw [if_pos h]
  have hhT:hasT W H p x y n=decide (0<y):=by unfold hasT;rw [Bool.eq_iff_iff];simp only [decide_eq_true_eq];exact ⟨fun hh=>hh.2,fun hh=>⟨h,hh⟩⟩
  have hhE:hasE W H p x y n=decide (0<x):=by unfold hasE;rw [Bool.eq_iff_iff];simp only [decide_eq_true_eq];exact ⟨fun hh=>hh.2,fun hh=>⟨h,hh⟩⟩
  unfold NbOwn
  rw [ht,hle,hco,hhT,hhE,tabL_len,tabL_len]
  have hd:=decide_eq_true h
  obtain ⟨h0,h1,hx,hy,_⟩:=id h
  by_cases hx0:0<x
  ·by_cases hy0:0<y
   ·obtain ⟨b1,b2,b3⟩:=nb_cx h hx0 hy0
    rw [if_pos ⟨hx0,hy0⟩]
    refine FnC.of_body tabOk Tryz.func147 Tryz.ntmps147 rfl (by decide +kernel) (by simp) fun G=>?_
    refine go (r:=?_);and_intros<;>intros<;>try exact True.intro
    all_goals first|contradiction|(exact absurd h (by assumption))|omega|skip
    refine WpA.loop (fun k:Nat=>⟨[(1,I x),(2,I y),(3,I n),(4,.ptr 0 0 0),(8,.ptr 1 0 0),(9,.ptr 2 0 0),(10,I k)],[FrO W H p,Nb0,⟨[.nilS,.own 3 0 0 k,I (p.getD ((y-1)*W+x-1).toNat 0),B (decide (0<y)),B (decide (0<x))],0,0,none⟩,XI (tabL (lefF W p x y) k)]⟩) (fun k=>(k:Int)≤n) (fun k=>n.toNat-k) 0 (by omega) ?_ ?_
    ·exact Weak.nil1 (by first|(show 0≤_;exact Nat.zero_le _)|(repeat' (first|exact RzT.nil|refine RzT.cons ?_ ?_|exact Rz.nil|refine Rz.keep rfl rfl ?_|refine Rz.own rfl rfl rfl rfl rfl (by first|rfl|omega|(simp;done)) ?_|refine Rz.ptr rfl rfl rfl rfl ?_|refine Rz.nilO rfl rfl rfl (by first|rfl|omega|(simp;done)) ?_|refine Rz.agg ?_ ?_|exact RzO.last rfl|(refine RzO.cons ?_ (.inr rfl) ?_)|exact Rz.same rfl (still_ints _)|exact Rz.same rfl (still_rows (fun _=>rfl) _)))) (by first|(show 0≤_;exact Nat.zero_le _)|(repeat' (first|exact RzT.nil|refine RzT.cons ?_ ?_|exact Rz.nil|refine Rz.keep rfl rfl ?_|refine Rz.own rfl rfl rfl rfl rfl (by first|rfl|omega|(simp;done)) ?_|refine Rz.ptr rfl rfl rfl rfl ?_|refine Rz.nilO rfl rfl rfl (by first|rfl|omega|(simp;done)) ?_|refine Rz.agg ?_ ?_|exact RzO.last rfl|(refine RzO.cons ?_ (.inr rfl) ?_)|exact Rz.same rfl (still_ints _)|exact Rz.same rfl (still_rows (fun _=>rfl) _)))) (Nat.le_of_ble_eq_true rfl)
    intro k hk
    try simp only at hk ⊢
    have hkl2:=tabL_len (lefF W p x y) k
    by_cases hlt2:(k:Int)<n
    ·have hsn:=tabL_snoc (lefF W p x y) k
     by_cases hx0:0<x
     ·obtain ⟨b1,b2,b3⟩:=nb_lx h hlt2 hx0
      have hq:lefF W p x y k=p.getD ((y+k)*W+x-1).toNat 0:=by unfold lefF;rw [if_pos hx0]
      rw [hq] at hsn
      refine go (r:=?_);and_intros<;>intros<;>try exact True.intro
      all_goals first|contradiction|omega|exact hsn.symm
     ·have hq:lefF W p x y k=128:=by unfold lefF;rw [if_neg hx0]
      rw [hq] at hsn
      refine go (r:=?_);and_intros<;>intros<;>try exact True.intro
      all_goals first|contradiction|omega|exact hsn.symm
    have hke:k=n.toNat:=by omega
    subst hke
    refine go (r:=?_);and_intros<;>intros<;>try exact True.intro
    all_goals first|contradiction|omega|skip
    refine WpA.loop (fun k:Nat=>⟨[(1,I x),(2,I y),(3,I n),(4,.ptr 0 0 0),(8,.ptr 1 0 0),(9,.ptr 2 0 0),(12,I k)],[FrO W H p,Nb0,⟨[.own 4 0 0 k,.own 3 0 0 n.toNat,I (p.getD ((y-1)*W+x-1).toNat 0),B (decide (0<y)),B (decide (0<x))],0,0,none⟩,XI (tabL (lefF W p x y) n.toNat),XI (tabL (topF W p x y n) k)]⟩) (fun k=>(k:Int)≤2*n) (fun k=>(2*n).toNat-k) 0 (by omega) ?_ ?_
    ·exact Weak.nil1 (by first|(show 0≤_;exact Nat.zero_le _)|(repeat' (first|exact RzT.nil|refine RzT.cons ?_ ?_|exact Rz.nil|refine Rz.keep rfl rfl ?_|refine Rz.own rfl rfl rfl rfl rfl (by first|rfl|omega|(simp;done)) ?_|refine Rz.ptr rfl rfl rfl rfl ?_|refine Rz.nilO rfl rfl rfl (by first|rfl|omega|(simp;done)) ?_|refine Rz.agg ?_ ?_|exact RzO.last rfl|(refine RzO.cons ?_ (.inr rfl) ?_)|exact Rz.same rfl (still_ints _)|exact Rz.same rfl (still_rows (fun _=>rfl) _)))) (by first|(show 0≤_;exact Nat.zero_le _)|(repeat' (first|exact RzT.nil|refine RzT.cons ?_ ?_|exact Rz.nil|refine Rz.keep rfl rfl ?_|refine Rz.own rfl rfl rfl rfl rfl (by first|rfl|omega|(simp;done)) ?_|refine Rz.ptr rfl rfl rfl rfl ?_|refine Rz.nilO rfl rfl rfl (by first|rfl|omega|(simp;done)) ?_|refine Rz.agg ?_ ?_|exact RzO.last rfl|(refine RzO.cons ?_ (.inr rfl) ?_)|exact Rz.same rfl (still_ints _)|exact Rz.same rfl (still_rows (fun _=>rfl) _)))) (Nat.le_of_ble_eq_true rfl)
    intro k hk
    try simp only at hk ⊢
    have hkl:=tabL_len (topF W p x y n) k
    by_cases hlt:(k:Int)<2*n
    ·have hq:=topF_eq W p x y n (by omega) k
     have hsn:=tabL_snoc (topF W p x y n) k
     by_cases hy0:y=0
     ·rw [if_pos hy0] at hq
      rw [hq] at hsn
      refine go (r:=?_);and_intros<;>intros<;>try exact True.intro
      all_goals first|contradiction|omega|skip
      all_goals
       refine WpL.openAny (t:=83) rfl (fun v0=>?_)
       by_cases hv:v0=.bool false
       ·subst hv
        refine go (r:=?_);and_intros<;>intros<;>try exact True.intro
        all_goals first|contradiction|omega|exact hsn.symm
       ·repeat (refine WpL.guardV (σ:=⟨_,_⟩) rfl rfl (by decide) rfl hv rfl ?_)
        refine WpL.openAny (t:=87) rfl (fun v1=>?_)
        by_cases hv1:v1=.bool true
        ·subst hv1
         refine go (r:=?_);and_intros<;>intros<;>try exact True.intro
         all_goals first|contradiction|omega|skip
         all_goals
          refine WpL.guardV (σ:=⟨_,_⟩) rfl rfl (by decide) rfl hv rfl ?_
          refine go (r:=?_);and_intros<;>intros<;>try exact True.intro
          all_goals first|contradiction|omega|exact hsn.symm
        ·repeat (refine WpL.guardV (σ:=⟨_,_⟩) rfl rfl (by decide) rfl hv1 rfl ?_)
         refine WpL.guardV (σ:=⟨_,_⟩) rfl rfl (by decide) rfl hv rfl ?_
         refine go (r:=?_);and_intros<;>intros<;>try exact True.intro
         all_goals first|contradiction|omega|exact hsn.symm
     ·rw [if_neg hy0] at hq
      by_cases hc:(k:Int)<n∨(y%8=0∧x+k<W)
      ·rw [if_pos hc] at hq
       rw [hq] at hsn
       obtain ⟨b1,b2,b3⟩:=nb_ix h hlt hy0 hc
       by_cases hc0:(k:Int)<n
       ·refine go (r:=?_);and_intros<;>intros<;>try exact True.intro
        all_goals first|contradiction|omega|skip
        all_goals
         refine WpL.openAny (t:=87) rfl (fun v0=>?_)
         by_cases hv:v0=.bool true
         ·subst hv
          refine go (r:=?_);and_intros<;>intros<;>try exact True.intro
          all_goals first|contradiction|omega|exact hsn.symm
         ·repeat (refine WpL.guardV (σ:=⟨_,_⟩) rfl rfl (by decide) rfl hv rfl ?_)
          refine go (r:=?_);and_intros<;>intros<;>try exact True.intro
          all_goals first|contradiction|omega|exact hsn.symm
       ·obtain ⟨hc1,hc2⟩:y%8=0∧x+k<W:=hc.resolve_left hc0
        refine go (r:=?_);and_intros<;>intros<;>try exact True.intro
        all_goals first|contradiction|omega|exact hsn.symm
      ·rw [if_neg hc] at hq
       rw [hq] at hsn
       have hk0:0<k:=by omega
       have ek:((k:Int)-1).toNat=k-1:=by omega
       have hge:(tabL (topF W p x y n) k).getD (k-1) 0=topF W p x y n (k-1):=tabL_get (by omega)
       by_cases hc0:(k:Int)<n
       ·exact absurd (.inl hc0) hc
       by_cases hc1:y%8=0
       ·have hc2:¬x+k<W:=fun hh=>hc (.inr ⟨hc1,hh⟩)
        refine go (r:=?_);and_intros<;>intros<;>try exact True.intro
        all_goals first|contradiction|omega|(rw [ek,hge];exact hsn.symm)
       ·refine go (r:=?_);and_intros<;>intros<;>try exact True.intro
        all_goals first|contradiction|omega|(rw [ek,hge];exact hsn.symm)
    have hke:k=(2*n).toNat:=by omega
    subst hke
    refine go (r:=?_);and_intros<;>intros<;>try exact True.intro
    all_goals first|contradiction|omega
   ·rw [if_neg (fun hh=>hy0 hh.2)]
    refine FnC.of_body tabOk Tryz.func147 Tryz.ntmps147 rfl (by decide +kernel) (by simp) fun G=>?_
    refine go (r:=?_);and_intros<;>intros<;>try exact True.intro
    all_goals first|contradiction|(exact absurd h (by assumption))|omega|skip
    refine WpA.loop (fun k:Nat=>⟨[(1,I x),(2,I y),(3,I n),(4,.ptr 0 0 0),(8,.ptr 1 0 0),(9,.ptr 2 0 0),(10,I k)],[FrO W H p,Nb0,⟨[.nilS,.own 3 0 0 k,I (128),B (decide (0<y)),B (decide (0<x))],0,0,none⟩,XI (tabL (lefF W p x y) k)]⟩) (fun k=>(k:Int)≤n) (fun k=>n.toNat-k) 0 (by omega) ?_ ?_
    ·exact Weak.nil1 (by first|(show 0≤_;exact Nat.zero_le _)|(repeat' (first|exact RzT.nil|refine RzT.cons ?_ ?_|exact Rz.nil|refine Rz.keep rfl rfl ?_|refine Rz.own rfl rfl rfl rfl rfl (by first|rfl|omega|(simp;done)) ?_|refine Rz.ptr rfl rfl rfl rfl ?_|refine Rz.nilO rfl rfl rfl (by first|rfl|omega|(simp;done)) ?_|refine Rz.agg ?_ ?_|exact RzO.last rfl|(refine RzO.cons ?_ (.inr rfl) ?_)|exact Rz.same rfl (still_ints _)|exact Rz.same rfl (still_rows (fun _=>rfl) _)))) (by first|(show 0≤_;exact Nat.zero_le _)|(repeat' (first|exact RzT.nil|refine RzT.cons ?_ ?_|exact Rz.nil|refine Rz.keep rfl rfl ?_|refine Rz.own rfl rfl rfl rfl rfl (by first|rfl|omega|(simp;done)) ?_|refine Rz.ptr rfl rfl rfl rfl ?_|refine Rz.nilO rfl rfl rfl (by first|rfl|omega|(simp;done)) ?_|refine Rz.agg ?_ ?_|exact RzO.last rfl|(refine RzO.cons ?_ (.inr rfl) ?_)|exact Rz.same rfl (still_ints _)|exact Rz.same rfl (still_rows (fun _=>rfl) _)))) (Nat.le_of_ble_eq_true rfl)
    intro k hk
    try simp only at hk ⊢
    have hkl2:=tabL_len (lefF W p x y) k
    by_cases hlt2:(k:Int)<n
    ·have hsn:=tabL_snoc (lefF W p x y) k
     by_cases hx0:0<x
     ·obtain ⟨b1,b2,b3⟩:=nb_lx h hlt2 hx0
      have hq:lefF W p x y k=p.getD ((y+k)*W+x-1).toNat 0:=by unfold lefF;rw [if_pos hx0]
      rw [hq] at hsn
      refine go (r:=?_);and_intros<;>intros<;>try exact True.intro
      all_goals first|contradiction|omega|exact hsn.symm
     ·have hq:lefF W p x y k=128:=by unfold lefF;rw [if_neg hx0]
      rw [hq] at hsn
      refine go (r:=?_);and_intros<;>intros<;>try exact True.intro
      all_goals first|contradiction|omega|exact hsn.symm
    have hke:k=n.toNat:=by omega
    subst hke
    refine go (r:=?_);and_intros<;>intros<;>try exact True.intro
    all_goals first|contradiction|omega|skip
    refine WpA.loop (fun k:Nat=>⟨[(1,I x),(2,I y),(3,I n),(4,.ptr 0 0 0),(8,.ptr 1 0 0),(9,.ptr 2 0 0),(12,I k)],[FrO W H p,Nb0,⟨[.own 4 0 0 k,.own 3 0 0 n.toNat,I (128),B (decide (0<y)),B (decide (0<x))],0,0,none⟩,XI (tabL (lefF W p x y) n.toNat),XI (tabL (topF W p x y n) k)]⟩) (fun k=>(k:Int)≤2*n) (fun k=>(2*n).toNat-k) 0 (by omega) ?_ ?_
    ·exact Weak.nil1 (by first|(show 0≤_;exact Nat.zero_le _)|(repeat' (first|exact RzT.nil|refine RzT.cons ?_ ?_|exact Rz.nil|refine Rz.keep rfl rfl ?_|refine Rz.own rfl rfl rfl rfl rfl (by first|rfl|omega|(simp;done)) ?_|refine Rz.ptr rfl rfl rfl rfl ?_|refine Rz.nilO rfl rfl rfl (by first|rfl|omega|(simp;done)) ?_|refine Rz.agg ?_ ?_|exact RzO.last rfl|(refine RzO.cons ?_ (.inr rfl) ?_)|exact Rz.same rfl (still_ints _)|exact Rz.same rfl (still_rows (fun _=>rfl) _)))) (by first|(show 0≤_;exact Nat.zero_le _)|(repeat' (first|exact RzT.nil|refine RzT.cons ?_ ?_|exact Rz.nil|refine Rz.keep rfl rfl ?_|refine Rz.own rfl rfl rfl rfl rfl (by first|rfl|omega|(simp;done)) ?_|refine Rz.ptr rfl rfl rfl rfl ?_|refine Rz.nilO rfl rfl rfl (by first|rfl|omega|(simp;done)) ?_|refine Rz.agg ?_ ?_|exact RzO.last rfl|(refine RzO.cons ?_ (.inr rfl) ?_)|exact Rz.same rfl (still_ints _)|exact Rz.same rfl (still_rows (fun _=>rfl) _)))) (Nat.le_of_ble_eq_true rfl)
    intro k hk
    try simp only at hk ⊢
    have hkl:=tabL_len (topF W p x y n) k
    by_cases hlt:(k:Int)<2*n
    ·have hq:=topF_eq W p x y n (by omega) k
     have hsn:=tabL_snoc (topF W p x y n) k
     by_cases hy0:y=0
     ·rw [if_pos hy0] at hq
      rw [hq] at hsn
      refine go (r:=?_);and_intros<;>intros<;>try exact True.intro
      all_goals first|contradiction|omega|skip
      all_goals
       refine WpL.openAny (t:=83) rfl (fun v0=>?_)
       by_cases hv:v0=.bool false
       ·subst hv
        refine go (r:=?_);and_intros<;>intros<;>try exact True.intro
        all_goals first|contradiction|omega|exact hsn.symm
       ·repeat (refine WpL.guardV (σ:=⟨_,_⟩) rfl rfl (by decide) rfl hv rfl ?_)
        refine WpL.openAny (t:=87) rfl (fun v1=>?_)
        by_cases hv1:v1=.bool true
        ·subst hv1
         refine go (r:=?_);and_intros<;>intros<;>try exact True.intro
         all_goals first|contradiction|omega|skip
         all_goals
          refine WpL.guardV (σ:=⟨_,_⟩) rfl rfl (by decide) rfl hv rfl ?_
          refine go (r:=?_);and_intros<;>intros<;>try exact True.intro
          all_goals first|contradiction|omega|exact hsn.symm
        ·repeat (refine WpL.guardV (σ:=⟨_,_⟩) rfl rfl (by decide) rfl hv1 rfl ?_)
         refine WpL.guardV (σ:=⟨_,_⟩) rfl rfl (by decide) rfl hv rfl ?_
         refine go (r:=?_);and_intros<;>intros<;>try exact True.intro
         all_goals first|contradiction|omega|exact hsn.symm
     ·rw [if_neg hy0] at hq
      by_cases hc:(k:Int)<n∨(y%8=0∧x+k<W)
      ·rw [if_pos hc] at hq
       rw [hq] at hsn
       obtain ⟨b1,b2,b3⟩:=nb_ix h hlt hy0 hc
       by_cases hc0:(k:Int)<n
       ·refine go (r:=?_);and_intros<;>intros<;>try exact True.intro
        all_goals first|contradiction|omega|skip
        all_goals
         refine WpL.openAny (t:=87) rfl (fun v0=>?_)
         by_cases hv:v0=.bool true
         ·subst hv
          refine go (r:=?_);and_intros<;>intros<;>try exact True.intro
          all_goals first|contradiction|omega|exact hsn.symm
         ·repeat (refine WpL.guardV (σ:=⟨_,_⟩) rfl rfl (by decide) rfl hv rfl ?_)
          refine go (r:=?_);and_intros<;>intros<;>try exact True.intro
          all_goals first|contradiction|omega|exact hsn.symm
       ·obtain ⟨hc1,hc2⟩:y%8=0∧x+k<W:=hc.resolve_left hc0
        refine go (r:=?_);and_intros<;>intros<;>try exact True.intro
        all_goals first|contradiction|omega|exact hsn.symm
      ·rw [if_neg hc] at hq
       rw [hq] at hsn
       have hk0:0<k:=by omega
       have ek:((k:Int)-1).toNat=k-1:=by omega
       have hge:(tabL (topF W p x y n) k).getD (k-1) 0=topF W p x y n (k-1):=tabL_get (by omega)
       by_cases hc0:(k:Int)<n
       ·exact absurd (.inl hc0) hc
       by_cases hc1:y%8=0
       ·have hc2:¬x+k<W:=fun hh=>hc (.inr ⟨hc1,hh⟩)
        refine go (r:=?_);and_intros<;>intros<;>try exact True.intro
        all_goals first|contradiction|omega|(rw [ek,hge];exact hsn.symm)
       ·refine go (r:=?_);and_intros<;>intros<;>try exact True.intro
        all_goals first|contradiction|omega|(rw [ek,hge];exact hsn.symm)
    have hke:k=(2*n).toNat:=by omega
    subst hke
    refine go (r:=?_);and_intros<;>intros<;>try exact True.intro
    all_goals first|contradiction|omega
  ·rw [if_neg (fun hh=>hx0 hh.1)]
   refine FnC.of_body tabOk Tryz.func147 Tryz.ntmps147 rfl (by decide +kernel) (by simp) fun G=>?_
   refine go (r:=?_);and_intros<;>intros<;>try exact True.intro
   all_goals first|contradiction|(exact absurd h (by assumption))|omega|skip
   refine WpA.loop (fun k:Nat=>⟨[(1,I x),(2,I y),(3,I n),(4,.ptr 0 0 0),(8,.ptr 1 0 0),(9,.ptr 2 0 0),(10,I k)],[FrO W H p,Nb0,⟨[.nilS,.own 3 0 0 k,I (128),B (decide (0<y)),B (decide (0<x))],0,0,none⟩,XI (tabL (lefF W p x y) k)]⟩) (fun k=>(k:Int)≤n) (fun k=>n.toNat-k) 0 (by omega) ?_ ?_
   ·exact Weak.nil1 (by first|(show 0≤_;exact Nat.zero_le _)|(repeat' (first|exact RzT.nil|refine RzT.cons ?_ ?_|exact Rz.nil|refine Rz.keep rfl rfl ?_|refine Rz.own rfl rfl rfl rfl rfl (by first|rfl|omega|(simp;done)) ?_|refine Rz.ptr rfl rfl rfl rfl ?_|refine Rz.nilO rfl rfl rfl (by first|rfl|omega|(simp;done)) ?_|refine Rz.agg ?_ ?_|exact RzO.last rfl|(refine RzO.cons ?_ (.inr rfl) ?_)|exact Rz.same rfl (still_ints _)|exact Rz.same rfl (still_rows (fun _=>rfl) _)))) (by first|(show 0≤_;exact Nat.zero_le _)|(repeat' (first|exact RzT.nil|refine RzT.cons ?_ ?_|exact Rz.nil|refine Rz.keep rfl rfl ?_|refine Rz.own rfl rfl rfl rfl rfl (by first|rfl|omega|(simp;done)) ?_|refine Rz.ptr rfl rfl rfl rfl ?_|refine Rz.nilO rfl rfl rfl (by first|rfl|omega|(simp;done)) ?_|refine Rz.agg ?_ ?_|exact RzO.last rfl|(refine RzO.cons ?_ (.inr rfl) ?_)|exact Rz.same rfl (still_ints _)|exact Rz.same rfl (still_rows (fun _=>rfl) _)))) (Nat.le_of_ble_eq_true rfl)
   intro k hk
   try simp only at hk ⊢
   have hkl2:=tabL_len (lefF W p x y) k
   by_cases hlt2:(k:Int)<n
   ·have hsn:=tabL_snoc (lefF W p x y) k
    by_cases hx0:0<x
    ·obtain ⟨b1,b2,b3⟩:=nb_lx h hlt2 hx0
     have hq:lefF W p x y k=p.getD ((y+k)*W+x-1).toNat 0:=by unfold lefF;rw [if_pos hx0]
     rw [hq] at hsn
     refine go (r:=?_);and_intros<;>intros<;>try exact True.intro
     all_goals first|contradiction|omega|exact hsn.symm
    ·have hq:lefF W p x y k=128:=by unfold lefF;rw [if_neg hx0]
     rw [hq] at hsn
     refine go (r:=?_);and_intros<;>intros<;>try exact True.intro
     all_goals first|contradiction|omega|exact hsn.symm
   have hke:k=n.toNat:=by omega
   subst hke
   refine go (r:=?_);and_intros<;>intros<;>try exact True.intro
   all_goals first|contradiction|omega|skip
   refine WpA.loop (fun k:Nat=>⟨[(1,I x),(2,I y),(3,I n),(4,.ptr 0 0 0),(8,.ptr 1 0 0),(9,.ptr 2 0 0),(12,I k)],[FrO W H p,Nb0,⟨[.own 4 0 0 k,.own 3 0 0 n.toNat,I (128),B (decide (0<y)),B (decide (0<x))],0,0,none⟩,XI (tabL (lefF W p x y) n.toNat),XI (tabL (topF W p x y n) k)]⟩) (fun k=>(k:Int)≤2*n) (fun k=>(2*n).toNat-k) 0 (by omega) ?_ ?_
   ·exact Weak.nil1 (by first|(show 0≤_;exact Nat.zero_le _)|(repeat' (first|exact RzT.nil|refine RzT.cons ?_ ?_|exact Rz.nil|refine Rz.keep rfl rfl ?_|refine Rz.own rfl rfl rfl rfl rfl (by first|rfl|omega|(simp;done)) ?_|refine Rz.ptr rfl rfl rfl rfl ?_|refine Rz.nilO rfl rfl rfl (by first|rfl|omega|(simp;done)) ?_|refine Rz.agg ?_ ?_|exact RzO.last rfl|(refine RzO.cons ?_ (.inr rfl) ?_)|exact Rz.same rfl (still_ints _)|exact Rz.same rfl (still_rows (fun _=>rfl) _)))) (by first|(show 0≤_;exact Nat.zero_le _)|(repeat' (first|exact RzT.nil|refine RzT.cons ?_ ?_|exact Rz.nil|refine Rz.keep rfl rfl ?_|refine Rz.own rfl rfl rfl rfl rfl (by first|rfl|omega|(simp;done)) ?_|refine Rz.ptr rfl rfl rfl rfl ?_|refine Rz.nilO rfl rfl rfl (by first|rfl|omega|(simp;done)) ?_|refine Rz.agg ?_ ?_|exact RzO.last rfl|(refine RzO.cons ?_ (.inr rfl) ?_)|exact Rz.same rfl (still_ints _)|exact Rz.same rfl (still_rows (fun _=>rfl) _)))) (Nat.le_of_ble_eq_true rfl)
   intro k hk
   try simp only at hk ⊢
   have hkl:=tabL_len (topF W p x y n) k
   by_cases hlt:(k:Int)<2*n
   ·have hq:=topF_eq W p x y n (by omega) k
    have hsn:=tabL_snoc (topF W p x y n) k
    by_cases hy0:y=0
    ·rw [if_pos hy0] at hq
     rw [hq] at hsn
     refine go (r:=?_);and_intros<;>intros<;>try exact True.intro
     all_goals first|contradiction|omega|skip
     all_goals
      refine WpL.openAny (t:=83) rfl (fun v0=>?_)
      by_cases hv:v0=.bool false
      ·subst hv
       refine go (r:=?_);and_intros<;>intros<;>try exact True.intro
       all_goals first|contradiction|omega|exact hsn.symm
      ·repeat (refine WpL.guardV (σ:=⟨_,_⟩) rfl rfl (by decide) rfl hv rfl ?_)
       refine WpL.openAny (t:=87) rfl (fun v1=>?_)
       by_cases hv1:v1=.bool true
       ·subst hv1
        refine go (r:=?_);and_intros<;>intros<;>try exact True.intro
        all_goals first|contradiction|omega|skip
        all_goals
         refine WpL.guardV (σ:=⟨_,_⟩) rfl rfl (by decide) rfl hv rfl ?_
         refine go (r:=?_);and_intros<;>intros<;>try exact True.intro
         all_goals first|contradiction|omega|exact hsn.symm
       ·repeat (refine WpL.guardV (σ:=⟨_,_⟩) rfl rfl (by decide) rfl hv1 rfl ?_)
        refine WpL.guardV (σ:=⟨_,_⟩) rfl rfl (by decide) rfl hv rfl ?_
        refine go (r:=?_);and_intros<;>intros<;>try exact True.intro
        all_goals first|contradiction|omega|exact hsn.symm
    ·rw [if_neg hy0] at hq
     by_cases hc:(k:Int)<n∨(y%8=0∧x+k<W)
     ·rw [if_pos hc] at hq
      rw [hq] at hsn
      obtain ⟨b1,b2,b3⟩:=nb_ix h hlt hy0 hc
      by_cases hc0:(k:Int)<n
      ·refine go (r:=?_);and_intros<;>intros<;>try exact True.intro
       all_goals first|contradiction|omega|skip
       all_goals
        refine WpL.openAny (t:=87) rfl (fun v0=>?_)
        by_cases hv:v0=.bool true
        ·subst hv
         refine go (r:=?_);and_intros<;>intros<;>try exact True.intro
         all_goals first|contradiction|omega|exact hsn.symm
        ·repeat (refine WpL.guardV (σ:=⟨_,_⟩) rfl rfl (by decide) rfl hv rfl ?_)
         refine go (r:=?_);and_intros<;>intros<;>try exact True.intro
         all_goals first|contradiction|omega|exact hsn.symm
      ·obtain ⟨hc1,hc2⟩:y%8=0∧x+k<W:=hc.resolve_left hc0
       refine go (r:=?_);and_intros<;>intros<;>try exact True.intro
       all_goals first|contradiction|omega|exact hsn.symm
     ·rw [if_neg hc] at hq
      rw [hq] at hsn
      have hk0:0<k:=by omega
      have ek:((k:Int)-1).toNat=k-1:=by omega
      have hge:(tabL (topF W p x y n) k).getD (k-1) 0=topF W p x y n (k-1):=tabL_get (by omega)
      by_cases hc0:(k:Int)<n
      ·exact absurd (.inl hc0) hc
      by_cases hc1:y%8=0
      ·have hc2:¬x+k<W:=fun hh=>hc (.inr ⟨hc1,hh⟩)
       refine go (r:=?_);and_intros<;>intros<;>try exact True.intro
       all_goals first|contradiction|omega|(rw [ek,hge];exact hsn.symm)
      ·refine go (r:=?_);and_intros<;>intros<;>try exact True.intro
       all_goals first|contradiction|omega|(rw [ek,hge];exact hsn.symm)
   have hke:k=(2*n).toNat:=by omega
   subst hke
   refine go (r:=?_);and_intros<;>intros<;>try exact True.intro
   all_goals first|contradiction|omega
 ·have ht:topL W H p x y n=[]:=by unfold topL;rw [if_neg h]
  have hle:lefL W H p x y n=[]:=by unfold lefL;rw [if_neg h]
  have hco:corL W H p x y n=0:=by unfold corL;rw [if_neg h]
  have hhT:hasT W H p x y n=false:=by unfold hasT;rw [decide_eq_false_iff_not];exact fun hh=>h hh.1
  have hhE:hasE W H p x y n=false:=by unfold hasE;rw [decide_eq_false_iff_not];exact fun hh=>h hh.1
  unfold NbOwn
  rw [ht,hle,hco,hhT,hhE]
  have hd:=decide_eq_false h
  refine FnC.of_body tabOk Tryz.func147 Tryz.ntmps147 rfl (by decide +kernel) (by simp) fun G=>?_
  refine go (r:=?_);and_intros<;>intros<;>try exact True.intro
  all_goals first|contradiction|omega⟩
end Go.Proofs.YtndflfipaddfoaaGreat


namespace Go.Proofs.YtndflfipaddfoaaGreat
open Go Go.Abs
attribute [local irreducible] WpA WpL Rnd Blk Abs.Seq Abs.Fin Abs.FinG FnC FnG Only
section
attribute [-instance] ResidualOf_s
instance PutRef_s:Con 240 (∀ (W H:Int) (p:List Int) (w h q:Int) (b d:Bool) (lens:List Int) (x y m:Int) (lv:List Int),p.length≤1099511627776∧lv.length≤1099511627776→Fn 240 [FrA W H p,HdA w h q b d lens,I x,I y,.agg [I m,IL lv]] [XI (putL W H p q b x y m lv)] (.tup [FrOwn 0 W H p.length,B (decide (PutOk W H p q x y m lv))])):=⟨fun W H p w h q b d lens x y m lv hl=>by
 obtain ⟨hpl,hll⟩:=hl
 have hrl:=resL_le b q lv
 have hmw:=modeW_nil m
 by_cases hok:LvOk lv∧0<stepL q
 ·have hrn:=resL_len (b:=b) hok
  have hr0:¬(resL b q lv).length=0:=by have:=hok.1.2;omega
  by_cases hf:Fits W H p x y (side lv.length)
  ·by_cases hm:0≤m∧m≤5
   ·have hp:PutOk W H p q x y m lv:=⟨hf,hok,hm⟩
    have hd:=decide_eq_true hp
    have hds:=decide_eq_true (put_set (b:=b) hp)
    unfold nbP at hds
    have hmw2:¬modeW m=[]:=fun hh=>(hmw.1 hh) hm
    have htw:=put_two (b:=b) hp
    unfold nbP at htw
    obtain ⟨hn1,hn2⟩:=nb_lens hf
    have hn3:=hf.2.1
    have hn4:=nb_ok hf
    have hpr:(predS m (topL W H p x y (side lv.length)) (lefL W H p x y (side lv.length)) (corL W H p x y (side lv.length)) (hasT W H p x y (side lv.length)) (hasE W H p x y (side lv.length)) (side lv.length)).length≤64:=by have:=htw.2;have:=hok.1.2;omega
    have hre:=recL_len (predS m (topL W H p x y (side lv.length)) (lefL W H p x y (side lv.length)) (corL W H p x y (side lv.length)) (hasT W H p x y (side lv.length)) (hasE W H p x y (side lv.length)) (side lv.length)) (resL b q lv)
    have hsl:=setL_len W H p x y (recL (predS m (topL W H p x y (side lv.length)) (lefL W H p x y (side lv.length)) (corL W H p x y (side lv.length)) (hasT W H p x y (side lv.length)) (hasE W H p x y (side lv.length)) (side lv.length)) (resL b q lv))
    rw [if_pos htw.1] at hre
    rw [put_eq hp,hd]
    skip
    refine FnC.of_body tabOk Tryz.func240 Tryz.ntmps240 rfl (by decide +kernel) (by simp) fun G=>?_
    refine goR (r:=?_);and_intros<;>intros<;>try exact True.intro
    all_goals first|contradiction|omega|skip
    refine K.call ?_
    apply WpL.callI (ResidualOf_s.ok w h q b d lens lv hll)
    ·exact snapA
    ·exact locA
    ·exact outA
    ·exact frzA
    ·decide
    refine goR (r:=?_);and_intros<;>intros<;>try exact True.intro
    all_goals first|contradiction|omega|skip
    generalize hX:setL W H p x y (recL (predS m (topL W H p x y (side lv.length)) (lefL W H p x y (side lv.length)) (corL W H p x y (side lv.length)) (hasT W H p x y (side lv.length)) (hasE W H p x y (side lv.length)) (side lv.length)) (resL b q lv))=X at hsl ⊢
    try dsimp only [List.append]
    apply WpA.regionRF (O:=[FrO W H p,⟨[I w,I h,I q,B b,B d,IL lens],0,0,none⟩,⟨[I m,IL lv],0,0,none⟩,⟨[I 0,I 0,.nilS],0,0,none⟩]) (Or:=[]) (O1:=[FrO W H p,⟨[I w,I h,I q,B b,B d,IL lens],0,0,none⟩,⟨[I m,IL lv],0,0,none⟩,⟨[I 0,I 0,.nilS],0,0,none⟩,⟨ints X,1,1,some 3⟩,⟨[I W,I H,.own 4 1 0 p.length],1,0,none⟩,deadO,deadO]) 20 2 [] [1] rfl mixed (by decide +kernel)
    ·exact rfl
    ·apply HeadR.consF .none rfl
     ·exact rfl
     ·exact rfl
     ·exact in1
     ·exact rfl
     ·exact rfl
     apply HeadR.consF .none rfl
     ·exact rfl
     ·exact rfl
     ·exact in1
     ·exact rfl
     ·exact rfl
     apply HeadR.consF .none rfl
     ·exact rfl
     ·exact rfl
     ·exact in1
     ·exact rfl
     ·exact rfl
     apply HeadR.consF .none rfl
     ·exact rfl
     ·exact rfl
     ·exact in1
     ·exact rfl
     ·exact rfl
     apply HeadR.consF .none rfl
     ·exact rfl
     ·exact rfl
     ·exact in1
     ·exact rfl
     ·exact rfl
     apply HeadR.consF .none rfl
     ·exact rfl
     ·exact rfl
     ·exact in1
     ·exact rfl
     ·exact rfl
     apply HeadR.consF .none rfl
     ·exact rfl
     ·exact rfl
     ·exact in1
     ·exact rfl
     ·exact rfl
     apply HeadR.consF .none rfl
     ·exact rfl
     ·exact rfl
     ·exact in1
     ·exact rfl
     ·exact rfl
     apply HeadR.consF .none rfl
     ·exact rfl
     ·exact rfl
     ·exact in1
     ·exact rfl
     ·exact rfl
     apply HeadR.consF .none rfl
     ·exact rfl
     ·exact rfl
     ·intro Tv Ov hc2 hp9 hd9 hk9
      refine K.call ?_
      apply WpL.callI (NbAt_s.ok W H p x y (side lv.length) hpl)
      ·exact snapA
      ·exact locA
      ·exact outA
      ·exact frzA
      ·decide
      ·exact WpL.nil (Only.mk rfl)
     ·exact rfl
     ·exact rfl
     apply HeadR.consF .none rfl
     ·exact rfl
     ·exact rfl
     ·exact in1
     ·exact rfl
     ·exact rfl
     apply HeadR.consF .none rfl
     ·exact rfl
     ·exact rfl
     ·intro Tv Ov hc2 hp9 hd9 hk9
      refine K.call ?_
      apply WpL.callI (Pred_s.ok m (topL W H p x y (side lv.length)) (lefL W H p x y (side lv.length)) (corL W H p x y (side lv.length)) (hasT W H p x y (side lv.length)) (hasE W H p x y (side lv.length)) (side lv.length) ⟨hn1,hn2,by omega⟩)
      ·exact snapA
      ·exact locA
      ·exact outA
      ·exact frzA
      ·decide
      ·exact WpL.nil (Only.mk rfl)
     ·exact rfl
     ·exact rfl
     apply HeadR.consF .none rfl
     ·exact rfl
     ·exact rfl
     ·exact in1
     ·exact rfl
     ·exact rfl
     apply HeadR.consF .none rfl
     ·exact rfl
     ·exact rfl
     ·intro Tv Ov hc2 hp9 hd9 hk9
      refine K.call ?_
      apply WpL.callI (Recon_s.ok (predS m (topL W H p x y (side lv.length)) (lefL W H p x y (side lv.length)) (corL W H p x y (side lv.length)) (hasT W H p x y (side lv.length)) (hasE W H p x y (side lv.length)) (side lv.length)) (resL b q lv) ⟨by omega,by omega⟩)
      ·exact snapA
      ·exact locA
      ·exact outA
      ·exact frzA
      ·decide
      ·exact WpL.nil (Only.mk rfl)
     ·exact rfl
     ·exact rfl
     apply HeadR.consF (V:=.tup [.agg [I W,I H,.own 4 1 0 p.length],B true]) (.put 0 ⟨ints X,1,1,some 3⟩) rfl
     ·exact rfl
     ·exact rfl
     ·intro Tv Ov hc2 hp9 hd9 hk9
      subst hX
      refine K.call ?_
      have hcon:=SetBlock_s.ok W H p x y (recL (predS m (topL W H p x y (side lv.length)) (lefL W H p x y (side lv.length)) (corL W H p x y (side lv.length)) (hasT W H p x y (side lv.length)) (hasE W H p x y (side lv.length)) (side lv.length)) (resL b q lv)) ⟨hpl,by omega⟩
      rw [hsl,hds] at hcon
      refine WpL.callF hcon snapA locA outA (cnt_some _ 0) rfl rfl (by decide) ?_
      rw [Nat.zero_add]
      apply WpL.putV (p:=0)
      ·exact .tup (.agg (.keep rfl rfl (.keep rfl rfl (.own (by first|rfl|exact Nat.zero_add _) .nil))) (.keep rfl rfl .nil)) .nil
      ·exact hp9 0 _ rfl
      ·exact Nat.zero_le _
      ·exact rfl
      ·exact still_ints _
     ·exact rfl
     ·exact rfl
     apply HeadR.consF .none rfl
     ·exact rfl
     ·exact rfl
     ·exact in1
     ·exact rfl
     ·exact rfl
     apply HeadR.consF .none rfl
     ·exact rfl
     ·exact rfl
     ·exact in1
     ·exact rfl
     ·exact rfl
     apply HeadR.consF .none rfl
     ·exact rfl
     ·exact rfl
     ·exact in1
     ·exact rfl
     ·exact rfl
     apply HeadR.consF (V:=.ptr 5 1 0) (.put 1 ⟨[I 0,I 0,.nilS],1,0,none⟩) rfl
     ·exact rfl
     ·exact rfl
     ·intro Tv Ov hc2 hp9 hd9 hk9
      refine WpL.allocStruct tabOk rfl (nid_len _ 0) (by decide) ?_
      apply WpL.putV (p:=1)
      ·exact .ptr (by first|rfl|exact Nat.zero_add _) .nil
      ·exact hp9 1 _ rfl
      ·exact Nat.zero_le _
      ·exact rfl
      ·exact rfl
     ·exact rfl
     ·exact rfl
     apply HeadR.consN (.step 1 ⟨[I W,I H,.own 4 1 0 p.length],1,0,none⟩) 1000
     ·exact rfl
     ·exact rfl
     ·intro Tv Ov hc2 hp9 hd9 hk9
      obtain ⟨A0,R0,rfl⟩:=split2 (hp9 1 _ rfl)
      have h0:=hd9 14 _ 0 _ (by decide) rfl rfl rfl
      simp only [List.getElem?_cons_zero,Option.some.injEq] at h0
      subst h0
      refine K.st ?_
      refine WpL.store tabOk rfl rfl rfl rfl rfl rfl rfl rfl (Nat.le_of_ble_eq_true rfl) ?_
      refine WpL.weak (Weak.any1 (d:=1000)) ?_
      exact WpL.nil (Only.mk rfl)
     ·exact rfl
     ·exact rfl
     exact HeadR.nil
    ·exact rfl
    ·exact rfl
    ·exact rfl
    ·exact rfl
    ·exact rfl
    ·exact rfl
    ·exact rfl
    refine go (r:=?_);and_intros<;>intros<;>try exact True.intro
    all_goals first|contradiction|omega|exact hds
   ·have hd:=decide_eq_false (fun hh:PutOk W H p q x y m lv=>hm hh.2.2)
    have hmw2:modeW m=[]:=hmw.2 hm
    rw [put_no (of_decide_eq_false hd),hd]
    refine FnC.of_body tabOk Tryz.func240 Tryz.ntmps240 rfl (by decide +kernel) (by simp) fun G=>?_
    refine goR (r:=?_);and_intros<;>intros<;>try exact True.intro
    all_goals first|contradiction|omega|skip
    refine K.call ?_
    apply WpL.callI (ResidualOf_s.ok w h q b d lens lv hll)
    ·exact snapA
    ·exact locA
    ·exact outA
    ·exact frzA
    ·decide
    refine goR (r:=?_);and_intros<;>intros<;>try exact True.intro
    all_goals first|contradiction|omega
  ·have hd:=decide_eq_false (fun hh:PutOk W H p q x y m lv=>hf hh.1)
   rw [put_no (of_decide_eq_false hd),hd]
   skip
   refine FnC.of_body tabOk Tryz.func240 Tryz.ntmps240 rfl (by decide +kernel) (by simp) fun G=>?_
   refine goR (r:=?_);and_intros<;>intros<;>try exact True.intro
   all_goals first|contradiction|omega|skip
   refine K.call ?_
   apply WpL.callI (ResidualOf_s.ok w h q b d lens lv hll)
   ·exact snapA
   ·exact locA
   ·exact outA
   ·exact frzA
   ·decide
   refine goR (r:=?_);and_intros<;>intros<;>try exact True.intro
   all_goals first|contradiction|omega
 ·have hd:=decide_eq_false (fun hh:PutOk W H p q x y m lv=>hok hh.2.1)
  have hrn:=resL_n (b:=b) hok
  have hr0:(resL b q lv).length=0:=by rw [hrn];rfl
  have hf0:¬Fits W H p x y (side 0):=fit0
  rw [put_no (of_decide_eq_false hd),hd]
  refine FnC.of_body tabOk Tryz.func240 Tryz.ntmps240 rfl (by decide +kernel) (by simp) fun G=>?_
  refine goR (r:=?_);and_intros<;>intros<;>try exact True.intro
  all_goals first|contradiction|omega|skip
  refine K.call ?_
  apply WpL.callI (ResidualOf_s.ok w h q b d lens lv hll)
  ·exact snapA
  ·exact locA
  ·exact outA
  ·exact frzA
  ·decide
  rw [hrn]
  refine goR (r:=?_);and_intros<;>intros<;>try exact True.intro
  all_goals first|contradiction|omega
 ⟩
end
end Go.Proofs.YtndflfipaddfoaaGreat


namespace Go.Proofs.YtndflfipaddfoaaGreat
open Go Go.Abs
attribute [local irreducible] WpA WpL Rnd Blk Abs.Seq Abs.Fin Abs.FinG FnC FnG Only
theorem wh_in {W H:Int} (h:SidesOk W H):64≤W*H∧W*H≤1024:=by
 have h1:8*8≤W*H:=Int.mul_le_mul h.1 h.2.2.1 (by omega) (by have:=h.1;omega)
 have h2:W*H≤32*32:=Int.mul_le_mul h.2.1 h.2.2.2.1 (by have:=h.2.2.1;omega) (by omega)
 omega
instance FrameNew_s:Con 64 (∀ W H:Int,SidesOk W H→Fn 64 [I W,I H] [XI (List.replicate (W*H).toNat 0)] (FrOwn 0 W H (W*H).toNat)):=⟨fun W H h=>by
 have hm:=wh_in h
 refine FnC.of_body tabOk Tryz.func64 Tryz.ntmps64 rfl (by decide +kernel) (by simp) fun G=>?_
 refine go (r:=?_);and_intros<;>intros<;>try exact True.intro
 all_goals first|contradiction⟩
end Go.Proofs.YtndflfipaddfoaaGreat


namespace Go.Proofs.YtndflfipaddfoaaGreat
open Go Go.Abs
attribute [local irreducible] WpA WpL Rnd Blk Abs.Seq Abs.Fin Abs.FinG FnC FnG Only
instance l25Spot_s:Con 65 (∀ (w h q:Int) (b d:Bool) (L:List Int) (k i:Nat) (e:Bool),(8≤w∧w≤1024∧k≤1048576)∧i<manyE e→Fn 65 [HdA w h q b d L,I k,I i,I (sz8 e)] [] (.tup [I (plc1 w (sz8 e) k i).1,I (plc1 w (sz8 e) k i).2.1])):=⟨fun w h q b d L k i e hl=>by
 obtain ⟨⟨hw,hw2,hk⟩,hi⟩:=hl
 have hw8:1≤w/8∧w/8≤128:=by omega
 have e1:w.tdiv 8=w/8:=Int.tdiv_eq_ediv_of_nonneg (by omega)
 have e2:(k:Int).tmod (w/8)=(k:Int)%(w/8):=Int.tmod_eq_emod_of_nonneg (by omega)
 have e3:(k:Int).tdiv (w/8)=(k:Int)/(w/8):=Int.tdiv_eq_ediv_of_nonneg (by omega)
 have hr0:0≤(k:Int)%(w/8)∧(k:Int)%(w/8)≤1048576:=⟨Int.emod_nonneg _ (by omega),by have:=Int.emod_lt_of_pos (k:Int) (show 0<w/8 by omega);omega⟩
 have hr1:0≤(k:Int)/(w/8)∧(k:Int)/(w/8)≤1048576:=⟨Int.ediv_nonneg (by omega) (by omega),by have:=Int.ediv_le_self (w/8) (show 0≤(k:Int) by omega);omega⟩
 unfold plc1
 cases e with
 |true=>
  have hi0:i<1:=hi
  simp only [sz8,cond_true]
  refine FnC.of_body tabOk Tryz.func65 Tryz.ntmps65 rfl (by decide +kernel) (by simp) fun G=>?_
  refine goR (r:=?_);and_intros<;>intros<;>try exact True.intro
  all_goals first|contradiction|omega|skip
  refine WpA.regionTB 17 mixed (by decide +kernel) ?_
  refine goR (r:=?_);and_intros<;>intros<;>try exact True.intro
  all_goals first|contradiction|omega
 |false=>
  have hi4:i<4:=hi
  simp only [sz8,cond_false]
  refine FnC.of_body tabOk Tryz.func65 Tryz.ntmps65 rfl (by decide +kernel) (by simp) fun G=>?_
  refine goR (r:=?_);and_intros<;>intros<;>try exact True.intro
  all_goals first|contradiction|omega|skip
  refine WpA.regionTB 17 mixed (by decide +kernel) ?_
  refine goR (r:=?_);and_intros<;>intros<;>try exact True.intro
  all_goals first|contradiction|omega⟩
end Go.Proofs.YtndflfipaddfoaaGreat


namespace Go.Proofs.YtndflfipaddfoaaGreat
open Go Go.Abs
theorem ifE_of {b:Prop} [Decidable b] {e:Int} (he:e≠0) (h:ifE b e=0):b:=by
 refine Decidable.byContradiction fun hn=>?_
 rw [ifE_no hn] at h;exact he h
theorem fuC_0 {p:List UInt8} {s c:Int} {k:Int→Int} (h:fuC p s c k=0):c=0∧k (ueV p s)=0∧fuV p s c k=ueV p s:=by
 have hv:fuV p s c k=ueV p s:=by unfold fuV;rw [if_pos h]
 unfold fuC at h
 split at h
 ·rename_i hc
  split at h
  ·exact ⟨hc,h,hv⟩
  ·rename_i hu;exact absurd h hu
 ·rename_i hc;exact absurd h hc
theorem fbC_0 {p:List UInt8} {s c n:Int} {k:Int→Int} (h:fbC p s c n k=0):c=0∧k (rbV p s n)=0∧fbV p s c n k=rbV p s n:=by
 have hv:fbV p s c n k=rbV p s n:=by unfold fbV;rw [if_pos h]
 unfold fbC at h
 split at h
 ·rename_i hc
  split at h
  ·exact ⟨hc,h,hv⟩
  ·exact absurd h (by decide)
 ·rename_i hc;exact absurd h hc
theorem lvStep_in {p:List UInt8} {nn:Int} {x:LvS} (h:In x.out (-16383) 16383):In (lvStep p nn x).out (-16383) 16383:=by
 unfold lvStep;split
 ·simp only
  split
  ·rename_i hc
   have h2:=fuC_0 hc
   have h3:=ifE_of (by decide) h2.2.1
   unfold In at h ⊢
   intro v hv
   rcases List.mem_or_eq_of_mem_set hv with h4|h4
   ·exact h v h4
   ·rw [h4,h2.2.2];exact h3
  ·exact h
 ·exact h
theorem lvRun_in {p:List UInt8} {nn:Int} {x:LvS} (h:In x.out (-16383) 16383):∀k,In (lvRun p nn x k).out (-16383) 16383
 |0=>h
 |k+1=>by rw [lvRun];exact lvStep_in (lvRun_in h k)
theorem lvS_in (p:List UInt8) (s n:Int):In (lvS p s n).out (-16383) 16383:=by
 have hz:In (List.replicate (n*n).toNat (0:Int)) (-16383) 16383:=by
  unfold In
  intro v hv
  rw [List.eq_of_mem_replicate hv];decide
 unfold lvS;simp only;split
 ·exact hz
 ·exact lvRun_in hz _
theorem blS_good {p:List UInt8} {s:Int} {lens:List Int} {n:Int} (h:(blS p s lens n).c=0):BlkOk (blS p s lens n).m (blS p s lens n).l lens n:=by
 unfold blS at h ⊢
 split at h
 ·rename_i hn
  rw [if_pos hn]
  split at h
  ·rename_i hc
   rw [if_pos hc]
   simp only at h ⊢
   split at h
   ·rename_i hx
    rw [if_pos hx]
    have hcd:CodeOk lens∧symM p s lens<6:=by
     have h0:=hc
     unfold smC at h0
     split at h0
     ·rename_i h1
      split at h0
      ·exact ⟨h1,by assumption⟩
      ·exact absurd h0 (by decide)
     ·exact absurd h0 (by decide)
    have hs:=symM_lt hcd.2
    have hl:=lvS_len p (smA p s lens) n
    refine ⟨hn,⟨hcd.1,?_,?_⟩,?_,lvS_in _ _ _,?_⟩
    ·show 0≤smV p s lens∧smV p s lens≤5
     rw [smV,if_pos hc];omega
    ·show lens.getD (smV p s lens).toNat 0≠0
     rw [smV,if_pos hc,Int.toNat_natCast]
     have:=hs.1;omega
    ·show ((lvS p (smA p s lens) n).out.length:Int)=n*n
     rw [hl];rcases hn with rfl|rfl<;>decide
    ·show (lvS p (smA p s lens) n).out.length=16∨(lvS p (smA p s lens) n).out.length=64
     rw [hl];rcases hn with rfl|rfl<;>decide
   ·rename_i hx;exact absurd h hx
  ·rename_i hc;exact absurd h hc
 ·exact absurd (show (5:Int)=0 from h) (by decide)
theorem mbRun_good {p:List UInt8} {s:Int} {lens:List Int} {n:Int}:∀k,(mbRun p s lens n k).c=0→(mbRun p s lens n k).bs.length=k∧∀b∈(mbRun p s lens n k).bs,BlkOk b.1 b.2 lens n
 |0,_=>⟨rfl,fun b hb=>by simp [mbRun] at hb⟩
 |k+1,h=>by
  have ih:=mbRun_good (p:=p) (s:=s) (lens:=lens) (n:=n) k
  rw [mbRun] at h ⊢
  simp only at h ⊢
  split at h
  ·rename_i hx
   rw [if_pos hx]
   have ih:=ih hx
   split at h
   ·rename_i hb
    rw [if_pos hb]
    refine ⟨by simp [ih.1],fun b hm=>?_⟩
    simp only [List.mem_append,List.mem_singleton] at hm
    rcases hm with hm|hm
    ·exact ih.2 b hm
    ·rw [hm];exact blS_good hb
   ·rename_i hb;exact absurd h hb
  ·rename_i hx;exact absurd h hx
theorem mbS_good {p:List UInt8} {s:Int} {lens:List Int} (h:(mbS p s lens).1.c=0):MbkOk (mbS p s lens).2 (mbS p s lens).1.bs lens:=by
 unfold mbS at h ⊢
 split at h
 ·rename_i ho
  rw [if_pos ho]
  simp only at h ⊢
  have hg:=mbRun_good _ h
  rw [decide_eq_true h]
  show MbkOk (decide (rbV p s 1=1)) _ lens
  generalize decide (rbV p s 1=1)=e at*
  refine ⟨?_,?_⟩
  ·rw [hg.1];cases e<;>rfl
  ·rw [List.any_eq_false]
   intro b hb
   have:=hg.2 b hb
   unfold badB
   simp only [decide_eq_true_eq,Decidable.not_not]
   cases e<;>exact this
 ·exact absurd (show (1:Int)=0 from h) (by decide)
theorem stRun_good {p:List UInt8} {s:Int} {lens:List Int}:∀k,(stRun p s lens k).c=0→∀m∈(stRun p s lens k).ms,MbkOk m.1 m.2 lens
 |0,_,m,hm=>by simp [stRun] at hm
 |k+1,h,m,hm=>by
  have ih:=stRun_good (p:=p) (s:=s) (lens:=lens) k
  rw [stRun] at h hm
  simp only at h hm
  split at h
  ·rename_i hx
   rw [if_pos hx] at hm
   split at h
   ·rename_i hb
    rw [if_pos hb] at hm
    simp only [List.mem_append,List.mem_singleton] at hm
    rcases hm with hm|hm
    ·exact ih hx m hm
    ·rw [hm];exact mbS_good hb
   ·rename_i hb;exact absurd h hb
  ·rename_i hx;exact absurd h hx
theorem hdS_good {p:List UInt8} {s:Int} (h:(hdS p s).c=0):HdOk (hdS p s).W (hdS p s).H (hdS p s).Q (hdS p s).L:=by
 refine ⟨hdS_sides h,?_,?_⟩
 ·rw [HdS.Q,if_pos h]
  have h0:0≤(hdS p s).q:=by unfold hdS;exact (fbV_bd _ _ _ _ _).1
  refine ⟨h0,?_⟩
  unfold hdS at h ⊢
  simp only at h ⊢
  have h6:=fbC_0 h
  have h5:=fbC_0 h6.1
  have h4:=fbC_0 h5.1
  rw [h4.2.2]
  exact ifE_of (by decide) h4.2.1
 ·rw [HdS.L,if_pos h]
  unfold hdS at h ⊢
  simp only at h ⊢
  have h6:=fbC_0 h
  rw [h6.2.2]
  exact ifE_of (by decide) h6.2.1
theorem prS_good {p:List UInt8} (h:(prS p).c=0):StOk (prS p).W (prS p).H (prS p).Q (prS p).L (prS p).ms:=by
 by_cases h1:(hdS p 0).c=0
 ·by_cases h2:(stRun p (hdS p 0).a (hdS p 0).L (cntM (hdS p 0).W (hdS p 0).H).toNat).c=0
  ·by_cases h3:endC p (stRun p (hdS p 0).a (hdS p 0).L (cntM (hdS p 0).W (hdS p 0).H).toNat).a=0
   ·have hg:=hdS_good h1
    have hcm:=cntM_bd hg.1
    have hl:=stRun_len p _ _ _ h2
    rw [prS_4 h1 h2 h3]
    refine ⟨hg,?_,?_⟩
    ·show ((stRun p (hdS p 0).a (hdS p 0).L (cntM (hdS p 0).W (hdS p 0).H).toNat).ms.length:Int)=cntM (hdS p 0).W (hdS p 0).H
     rw [hl];omega
    ·rw [List.any_eq_false]
     intro m hm
     have:=stRun_good _ h2 m hm
     unfold badM
     simp only [decide_eq_true_eq,Decidable.not_not]
     exact this
   ·rw [prS_3 h1 h2 h3] at h;exact absurd h h3
  ·rw [prS_2 h1 h2] at h;exact absurd h h2
 ·rw [prS_1 h1] at h;exact absurd h h1
end Go.Proofs.YtndflfipaddfoaaGreat


namespace Go.Proofs.YtndflfipaddfoaaGreat
open Go Go.Abs
attribute [local irreducible] WpA WpL Rnd Blk Abs.Seq Abs.Fin Abs.FinG FnC FnG Only
theorem wrap_in (p:Int) (h:-9223372036854775808≤p∧p≤9223372036854775807):IntKind.i64.wrap p=p:=IntWalk.i64_in p h
theorem u8_wrap (v:Int) (h:0≤v∧v≤255):IntKind.u8.wrap v=v:=by
 simp only [IntKind.wrap,IntKind.bits,IntKind.signed];simp;omega
theorem ofInt_nat (k:Nat) (h:k<9223372036854775808):(BitVec.ofInt IntKind.i64.bits (k:Int)).toNat=k:=by
 simp only [IntKind.bits,BitVec.toNat_ofInt];omega
def vb (n:Nat):List Int:=if n<128 then [(n:Int)] else (128+(n:Int)%128)::vb (n/128)
theorem vb_len (j:Nat):∀n,n<128 ^ (j+1)→(vb n).length≤j+1:=by
 induction j with
 |zero=>intro n h;unfold vb;rw [if_pos (by simpa using h)];simp
 |succ j ih=>
  intro n h
  unfold vb
  split
  ·simp
  ·have:=ih (n/128) (by rw [Nat.div_lt_iff_lt_mul (by decide)];rw [Nat.pow_succ] at h;exact h)
   simp;omega
theorem vb_len7 (n:Nat) (h:n≤562949953421311):(vb n).length≤7:=vb_len 6 n (by rw [show (128:Nat) ^ (6+1)=562949953421312 from by decide];omega)
theorem vb_step (n:Nat) (h:128≤n):vb n=(128+(n:Int)%128)::vb (n/128):=by rw [vb,if_neg (by omega)]
theorem vb_end (n:Nat) (h:n<128):vb n=[(n:Int)]:=by rw [vb,if_pos h]
def bytes (l:List Int):List UInt8:=l.map fun v:Int=>UInt8.ofNat v.toNat
def vars (n:Int):List UInt8:=if 0≤n∧n≤562949953421311 then bytes (vb n.toNat) else []
theorem or128:∀r:Fin 128,(r.val ||| 128)=128+r.val:=by decide
theorem low7 (k:Nat) (h:k≤562949953421311):IntKind.i64.wrap ((BitVec.ofInt IntKind.i64.bits (k:Int) &&& BitVec.ofInt IntKind.i64.bits 127).toNat:Nat)=(k:Int)%128:=by
 have e:(BitVec.ofInt IntKind.i64.bits (k:Int) &&& BitVec.ofInt IntKind.i64.bits 127).toNat=k%128:=by
  rw [BitVec.toNat_and,ofInt_nat k (by omega),show (BitVec.ofInt IntKind.i64.bits (127:Int)).toNat=2 ^ 7-1 from ofInt_nat 127 (by decide),Nat.and_two_pow_sub_one_eq_mod]
 rw [e,wrap_in _ (by omega)];omega
theorem hi1 (k:Nat):IntKind.i64.wrap ((BitVec.ofInt IntKind.i64.bits ((k:Int)%128) ||| BitVec.ofInt IntKind.i64.bits 128).toNat:Nat)=128+(k:Int)%128:=by
 have e:(BitVec.ofInt IntKind.i64.bits ((k:Int)%128) ||| BitVec.ofInt IntKind.i64.bits 128).toNat=128+k%128:=by
  rw [BitVec.toNat_or,show ((k:Int)%128)=((k%128:Nat):Int) from by omega,ofInt_nat _ (by omega),show (BitVec.ofInt IntKind.i64.bits (128:Int)).toNat=128 from ofInt_nat 128 (by decide)]
  exact or128 ⟨k%128,by omega⟩
 rw [e,wrap_in _ (by omega)];omega
instance Var_s:Con 239 (∀ n:Int,Fn 239 [I n] [] (Z (vars n))):=⟨fun n=>by
 refine FnC.of_body tabOk Tryz.func239 Tryz.ntmps239 rfl (by decide +kernel) (by simp) fun G=>?_
 refine go (r:=?_);and_intros<;>intros<;>try exact True.intro
 ·rw [vars,if_neg (by assumption)]
 have hn:0≤n∧n≤562949953421311:=by assumption
 have h7:=vb_len7 n.toNat (by omega)
 refine WpA.loop (fun x:List Int×Nat=>⟨[(0,I x.2),(3,.own 0 0 0 x.1.length)],[⟨u8s x.1,0,1,some 5⟩]⟩) (fun x=>x.1++vb x.2=vb n.toNat∧x.2≤562949953421311) (fun x=>x.2) ([],n.toNat) (by simp;omega) (go (r:=trivial)) (fun x hx=>?_)
 obtain ⟨acc,k⟩:=x
 obtain ⟨hx1,hx2⟩:=hx
 simp only at hx1 hx2 ⊢
 have hla:acc.length≤7:=by have:=congrArg List.length hx1;simp at this;omega
 refine go (r:=?_);and_intros<;>intros<;>try exact True.intro
 ·have hk:128≤k:=by omega
  refine Rnd.go (acc++[128+(k:Int)%128],k/128) ⟨by simp only;rw [←hx1,vb_step k hk];simp,by simp only;omega⟩ (by simp only;omega) (go (r:=?_))
  and_intros<;>try exact True.intro
  rw [u8_wrap _ (by omega)]
 ·have e:=vb_end k (by omega)
  rw [vars,if_pos hn,←hx1,e,u8_wrap _ (by omega),bytes]⟩
instance Var_c:Con 242 (∀ n:Int,Fn 242 [I n] [] (Z (vars n))):=⟨fun n=>by
 refine FnC.of_body tabOk Tryz.func242 Tryz.ntmps242 rfl (by decide +kernel) (by simp) fun G=>?_
 refine go (r:=?_);and_intros<;>intros<;>try exact True.intro
 ·rw [vars,if_neg (by assumption)]
 have hn:0≤n∧n≤562949953421311:=by assumption
 have h7:=vb_len7 n.toNat (by omega)
 refine WpA.loop (fun x:List Int×Nat=>⟨[(0,I x.2),(3,.own 0 0 0 x.1.length)],[⟨u8s x.1,0,1,some 5⟩]⟩) (fun x=>x.1++vb x.2=vb n.toNat∧x.2≤562949953421311) (fun x=>x.2) ([],n.toNat) (by simp;omega) (go (r:=trivial)) (fun x hx=>?_)
 obtain ⟨acc,k⟩:=x
 obtain ⟨hx1,hx2⟩:=hx
 simp only at hx1 hx2 ⊢
 have hla:acc.length≤7:=by have:=congrArg List.length hx1;simp at this;omega
 refine go (r:=?_);and_intros<;>intros<;>try exact True.intro
 ·have hk:128≤k:=by omega
  refine Rnd.go (acc++[128+(k:Int)%128],k/128) ⟨by simp only;rw [←hx1,vb_step k hk];simp,by simp only;omega⟩ (by simp only;omega) (go (r:=?_))
  and_intros<;>try exact True.intro
  rw [low7 k hx2,hi1,u8_wrap _ (by omega)]
 ·have e:=vb_end k (by omega)
  rw [vars,if_pos hn,←hx1,e,u8_wrap _ (by omega),bytes]⟩
end Go.Proofs.YtndflfipaddfoaaGreat


namespace Go.Proofs.YtndflfipaddfoaaGreat
open Go Go.Abs
attribute [local irreducible] WpA WpL Rnd Blk Abs.Seq Abs.Fin Abs.FinG FnC FnG Only
def num:List UInt8→Int
 |[]=>0
 |b::l=>num l*128+(b.toNat:Int)%128
theorem num_bd:∀l:List UInt8,0≤num l∧num l<128 ^ l.length
 |[]=>by simp [num]
 |b::l=>by
  have:=num_bd l
  rw [num,List.length_cons,Int.pow_succ]
  omega
theorem num_snoc:∀(l:List UInt8) (b:UInt8),num (l++[b])=num l+((b.toNat:Int)%128)*128 ^ l.length
 |[],b=>by simp [num]
 |a::l,b=>by
  rw [List.cons_append,num,num_snoc l b,num,List.length_cons,Int.pow_succ]
  rw [Int.add_mul,Int.mul_assoc];omega
theorem vb_at (n:Nat):∀j,j<(vb n).length→(j+1<(vb n).length→128≤(vb n).getD j 0∧(vb n).getD j 0<256)∧(j+1=(vb n).length→0≤(vb n).getD j 0∧(vb n).getD j 0<128):=by
 induction n using Nat.strongRecOn with
 |_ n ih=>
  intro j hj
  by_cases h:n<128
  ·rw [vb_end n h] at hj ⊢
   have:j=0:=by simpa using hj
   subst this
   simp;omega
  ·rw [vb_step n (by omega)] at hj ⊢
   have hpos:0<(vb (n/128)).length:=by unfold vb;split<;>simp
   cases j with
   |zero=>simp only [List.length_cons,List.getD_cons_zero];omega
   |succ j=>
    have:=ih (n/128) (by omega) j (by simpa using hj)
    simp only [List.length_cons,List.getD_cons_succ] at hj ⊢
    omega
theorem bytes_getD (l:List Int) (j:Nat) (h:j<l.length) (hb:0≤l.getD j 0∧l.getD j 0<256):((bytes l).getD j 0).toNat=(l.getD j 0).toNat:=by
 have e:(bytes l).getD j 0=UInt8.ofNat (l.getD j 0).toNat:=by simp [bytes,h]
 rw [e,UInt8.toNat_ofNat'];omega
theorem vars_at {m:Int} {l:List UInt8} (hv:vars m=l) (hl:l≠[]):∀j,j<l.length→(j+1<l.length→128≤(l.getD j 0).toNat)∧(j+1=l.length→(l.getD j 0).toNat<128):=by
 intro j hj
 unfold vars at hv
 split at hv
 ·have hlen:l.length=(vb m.toNat).length:=by rw [←hv];simp [bytes]
  have h1:=vb_at m.toNat j (by omega)
  rw [←hv]
  constructor
  ·intro h
   have h2:=h1.1 (by rw [hv] at h;omega)
   rw [bytes_getD _ _ (by omega) (by omega)];omega
  ·intro h
   have h2:=h1.2 (by rw [hv] at h;omega)
   rw [bytes_getD _ _ (by omega) (by omega)];omega
 ·exact (hl hv.symm).elim
def fst7 (s:List UInt8):Option Nat:=(List.range (min 7 s.length)).find? fun i=>decide ((s.getD i 0).toNat<128)
theorem fst7_some {s:List UInt8} {i:Nat} (h1:i<7) (h2:i<s.length) (h3:(s.getD i 0).toNat<128) (h4:∀j,j<i→128≤(s.getD j 0).toNat):fst7 s=some i:=by
 unfold fst7
 rw [List.find?_range_eq_some]
 refine ⟨by simpa using h3,by simp;omega,fun j hj=>?_⟩
 have:=h4 j hj
 simp;simpa using this
theorem fst7_none {s:List UInt8} (h:∀j,j<7→j<s.length→128≤(s.getD j 0).toNat):fst7 s=none:=by
 unfold fst7
 rw [List.find?_range_eq_none]
 intro j hj
 have:=h j (by omega) (by omega)
 simp;simpa using this
theorem fst7_inv {s:List UInt8} {i:Nat} (h:fst7 s=some i):i<7∧i<s.length:=by
 unfold fst7 at h
 rw [List.find?_range_eq_some] at h
 have:=h.2.1
 simp at this;omega
def rvOk (s:List UInt8) (k:Nat):Prop:=vars (num (s.take k))=s.take k
instance (s:List UInt8) (k:Nat):Decidable (rvOk s k):=by unfold rvOk;infer_instance
def rv (s:List UInt8):Int×Int:=match fst7 s with
 |some i=>if rvOk s (i+1) then (num (s.take (i+1)),(i:Int)+1) else (0,0)
 |none=>(0,0)
theorem rv_bd (s:List UInt8):0≤(rv s).1∧(rv s).1≤562949953421311∧0≤(rv s).2∧(rv s).2≤7∧(rv s).2≤s.length:=by
 unfold rv
 split
 ·rename_i i hi
  have h1:=fst7_inv hi
  have h2:=num_bd (s.take (i+1))
  have h3:(s.take (i+1)).length=i+1:=by simp;omega
  rw [h3] at h2
  have h4:(128:Int) ^ (i+1)≤128 ^ 7:=by
   have:=Nat.pow_le_pow_right (n:=128) (by decide) (show i+1≤7 from by omega)
   exact_mod_cast this
  split
  ·refine ⟨h2.1,?_,?_,?_,?_⟩<;>simp only<;>omega
  ·simp
 ·simp
theorem rvOk_fst {s:List UInt8} {k:Nat} (h:rvOk s (k+1)) (hk:k<s.length) (h7:k<7):fst7 s=some k:=by
 unfold rvOk at h
 have hl:(s.take (k+1)).length=k+1:=by simp;omega
 have h1:=vars_at h (by intro e;rw [e] at hl;simp at hl)
 have hg:∀j,j<k+1→(s.take (k+1)).getD j 0=s.getD j 0:=fun j hj=>by simp [List.getElem?_take,hj]
 refine fst7_some h7 hk ?_ fun j hj=>?_
 ·have:=(h1 k (by omega)).2 (by omega);rwa [hg k (by omega)] at this
 ·have:=(h1 j (by omega)).1 (by omega);rwa [hg j (by omega)] at this
theorem and127 (x:Nat) (h:x<256):IntKind.u8.wrap ((BitVec.ofInt IntKind.u8.bits (x:Int) &&& BitVec.ofInt IntKind.u8.bits 127).toNat:Nat)=(x:Int)%128:=by
 have e1:(BitVec.ofInt IntKind.u8.bits (x:Int)).toNat=x:=by simp only [IntKind.bits,BitVec.toNat_ofInt];omega
 have e:(BitVec.ofInt IntKind.u8.bits (x:Int) &&& BitVec.ofInt IntKind.u8.bits 127).toNat=x%128:=by
  rw [BitVec.toNat_and,e1,show (BitVec.ofInt IntKind.u8.bits (127:Int)).toNat=2 ^ 7-1 from by decide,Nat.and_two_pow_sub_one_eq_mod]
 rw [e,u8_wrap _ (by omega)];omega
theorem or_shift (a y k:Nat) (ha:a<2 ^ k) (h:a+y*2 ^ k<9223372036854775808):IntKind.i64.wrap ((BitVec.ofInt IntKind.i64.bits (a:Int) ||| BitVec.ofInt IntKind.i64.bits ((y*2 ^ k:Nat):Int)).toNat:Nat)=a+(y:Int)*2 ^ k:=by
 rw [BitVec.toNat_or,ofInt_nat _ (by omega),ofInt_nat _ (by omega),Nat.or_comm,Nat.mul_comm,←Nat.two_pow_add_eq_or_of_lt ha,wrap_in _ (by rw [Nat.mul_comm] at h;omega)]
 rw [Int.natCast_add,Int.natCast_mul,Int.natCast_pow,Int.mul_comm]
 simp only [Int.cast_ofNat_Int]
 omega
theorem step7 (s:List UInt8) (i:Nat) (h7:i<7) (hi:i<s.length):IntKind.i64.wrap (BitVec.ofInt IntKind.i64.bits (num (s.take i)) ||| BitVec.ofInt IntKind.i64.bits (IntKind.i64.wrap (IntKind.i64.wrap (IntKind.u8.wrap ((BitVec.ofInt IntKind.u8.bits ((s.getD i 0).toNat:Int) &&& BitVec.ofInt IntKind.u8.bits 127).toNat:Nat))*2 ^ (7*(i:Int)).toNat))).toNat=num (s.take (i+1)):=by
 have hb:=num_bd (s.take i)
 have hl:(s.take i).length=i:=by simp;omega
 rw [hl] at hb
 have hx:=(s.getD i 0).toNat_lt
 have hp:(128:Int) ^ i=2 ^ (7*i):=by rw [Int.pow_mul];rfl
 have hle:(2:Nat) ^ (7*i)≤2 ^ 42:=Nat.pow_le_pow_right (by decide) (by omega)
 have hm:((s.getD i 0).toNat%128)*2 ^ (7*i)≤127*2 ^ 42:=Nat.mul_le_mul (by omega) hle
 rw [and127 _ hx,show (7*(i:Int)).toNat=7*i from by omega,wrap_in (((s.getD i 0).toNat:Int)%128) (by omega)]
 have e1:(((s.getD i 0).toNat:Int)%128)*2 ^ (7*i)=((((s.getD i 0).toNat%128)*2 ^ (7*i):Nat):Int):=by rw [Int.natCast_mul,Int.natCast_pow];rfl
 have e2:num (s.take i)=((num (s.take i)).toNat:Int):=by omega
 have hn:(num (s.take i)).toNat<2 ^ (7*i):=by
  rw [hp] at hb
  have:((2:Int) ^ (7*i))=((2 ^ (7*i):Nat):Int):=by rw [Int.natCast_pow];rfl
  omega
 rw [e1,wrap_in (((((s.getD i 0).toNat%128)*2 ^ (7*i):Nat):Int)) (by omega),e2,or_shift _ _ _ hn (by omega)]
 rw [List.take_succ_eq_append_getElem hi,num_snoc,hl,hp,←e2]
 have:s.getD i 0=s[i]:=by simp [hi]
 rw [this];rfl
instance ReadVar_c:Con 153 (∀ s:List UInt8,s.length≤1048576→Fn 153 [Z s] [] (.tup [I (rv s).1,I (rv s).2])):=⟨fun s hl=>by
 refine FnC.of_body tabOk Tryz.func153 Tryz.ntmps153 rfl (by decide +kernel) (by simp) fun G=>?_
 refine go (r:=?_);and_intros<;>intros<;>try exact True.intro
 refine WpA.loop (fun i:Nat=>⟨[(0,Z s),(4,I (num (s.take i))),(5,I i)],[]⟩) (fun i=>i≤7∧i≤s.length∧∀j,j<i→128≤(s.getD j 0).toNat) (fun i=>7-i) 0 (by simp) (go (r:=trivial)) (fun i hi=>?_)
 have e:i<s.length→i<7→_:=fun h1 h2=>step7 s i h2 h1
 have hrv:i<s.length→i<7→(s.getD i 0).toNat<128→rv s=if rvOk s (i+1) then (num (s.take (i+1)),(i:Int)+1) else (0,0):=fun h1 h2 h3=>by
  unfold rv;rw [fst7_some h2 h1 h3 hi.2.2]
 have hno:(¬ (i:Int)<s.length∨¬(i:Int)<7)→rv s=(0,0):=fun h=>by
  unfold rv;rw [fst7_none fun j h1 h2=>hi.2.2 j (by omega)]
 refine go (r:=?_);and_intros<;>intros<;>try exact True.intro
 ·rename_i h4
  rw [e (by omega) (by omega)] at h4
  rw [hrv (by omega) (by omega) (by omega),if_neg (show ¬rvOk s (i+1) from h4)]
 ·rename_i h4
  rw [e (by omega) (by omega)] at h4
  rw [hrv (by omega) (by omega) (by omega),if_neg (show ¬rvOk s (i+1) from h4)]
 ·rename_i h4
  rw [e (by omega) (by omega)] at h4
  rw [e (by omega) (by omega),hrv (by omega) (by omega) (by omega),if_pos (show rvOk s (i+1) from h4)]
 ·rename_i h4
  rw [e (by omega) (by omega)] at h4
  rw [hrv (by omega) (by omega) (by omega),if_pos (show rvOk s (i+1) from h4)]
 ·rename_i j hj
  by_cases hji:j=i
  ·subst hji;omega
  ·exact hi.2.2 j (by omega)
 all_goals first|exact e (by omega) (by omega)|rw [hno (by omega)]⟩
theorem num_drop {l:List UInt8} {i:Nat} (h:i<l.length):num (l.drop i)=num (l.drop (i+1))*128+((l.getD i 0).toNat:Int)%128:=by
 rw [List.drop_eq_getElem_cons h,num];simp [h]
instance ReadVar_s:Con 151 (∀ s:List UInt8,s.length≤1048576→Fn 151 [Z s] [] (.tup [I (rv s).1,I (rv s).2])):=⟨fun s hl=>by
 refine FnC.of_body tabOk Tryz.func151 Tryz.ntmps151 rfl (by decide +kernel) (by simp) fun G=>?_
 refine go (r:=?_);and_intros<;>intros<;>try exact True.intro
 refine WpA.loop (fun k:Nat=>⟨[(0,Z s),(4,I k)],[]⟩) (fun k=>1≤k∧k≤8∧k≤s.length+1∧∀j,1≤j→j<k→¬rvOk s j) (fun k=>8-k) 1 (by simp;omega) (go (r:=trivial)) (fun k hk=>?_)
 have hno:(¬ (k:Int)≤7∨¬(k:Int)≤s.length)→rv s=(0,0):=fun h=>by
  unfold rv
  split
  ·rename_i i hi
   have:=fst7_inv hi
   rw [if_neg (hk.2.2.2 (i+1) (by omega) (by omega))]
  ·rfl
 refine go (r:=?_);and_intros<;>intros<;>try exact True.intro
 ·refine WpA.loop (fun q:Nat=>⟨[(0,Z s),(4,I k),(5,I (num ((s.take k).drop (k-q)))),(6,I ((k:Int)-1-q))],[]⟩) (fun q=>q≤k) (fun q=>k-q) 0 (by omega) (go (r:=?_)) (fun q hq=>?_)
  ·have:(s.take k).drop k=[]:=List.drop_eq_nil_of_le (by simp;omega)
   simp [this,num]
  have hb:=num_bd ((s.take k).drop (k-q))
  have hlq:((s.take k).drop (k-q)).length=q:=by simp;omega
  have hle:(128:Int) ^ q≤128 ^ 7:=by
   have:=Nat.pow_le_pow_right (n:=128) (by decide) (show q≤7 from by omega)
   exact_mod_cast this
  rw [hlq] at hb
  refine go (r:=?_);and_intros<;>intros<;>try exact True.intro
  ·have h1:k-q=(k-(q+1))+1:=by omega
   have h2:((k:Int)-1-q).toNat=k-(q+1):=by omega
   rw [num_drop (l:=s.take k) (i:=k-(q+1)) (by simp;omega),h1,h2]
   simp [List.getElem?_take,show k-(q+1)<k from by omega]
  all_goals have hqk:q=k:=by omega
  all_goals subst hqk
  all_goals simp only [Nat.sub_self,List.drop_zero] at*
  ·rename_i h
   obtain ⟨i,rfl⟩:∃i,q=i+1:=⟨q-1,by omega⟩
   unfold rv;rw [rvOk_fst h (by omega) (by omega)];simp only [];rw [if_pos (show rvOk s (i+1) from h)]
  ·rename_i h
   obtain ⟨i,rfl⟩:∃i,q=i+1:=⟨q-1,by omega⟩
   unfold rv;rw [rvOk_fst h (by omega) (by omega)];simp only [];rw [if_pos (show rvOk s (i+1) from h)];simp
  ·rename_i j hj1 hjr h7 hsl hneg hjq hne
   by_cases h:j=q
   ·subst h;exact hne hjr
   ·exact hk.2.2.2 j hj1 (by omega) hjr
 all_goals rw [hno (by omega)]⟩
def unp:Nat→List UInt8→Option (List (List UInt8))
 |_,[]=>some []
 |0,_::_=>none
 |r+1,b::s=>if (rv (b::s)).2=0∨(rv (b::s)).1>(b::s).length-(rv (b::s)).2 then none
  else (unp r ((b::s).drop ((rv (b::s)).2+(rv (b::s)).1).toNat)).map ((((b::s).drop (rv (b::s)).2.toNat).take (rv (b::s)).1.toNat)::·)
theorem unp_nil (r:Nat):unp r []=some []:=by cases r<;>rfl
theorem unp_zero {s:List UInt8} (h:s≠[]):unp 0 s=none:=by
 cases s with
 |nil=>exact (h rfl).elim
 |cons b s=>rfl
theorem unp_bad {r:Nat} {s:List UInt8} (h:s≠[]) (h2:(rv s).2=0∨(rv s).1>s.length-(rv s).2):unp (r+1) s=none:=by
 cases s with
 |nil=>exact (h rfl).elim
 |cons b s=>rw [unp,if_pos h2]
theorem unp_step {r:Nat} {s:List UInt8} (h:s≠[]) (h2:¬((rv s).2=0∨(rv s).1>s.length-(rv s).2)):
 unp (r+1) s=(unp r (s.drop ((rv s).2+(rv s).1).toNat)).map (((s.drop (rv s).2.toNat).take (rv s).1.toNat)::·):=by
 cases s with
 |nil=>exact (h rfl).elim
 |cons b s=>rw [unp,if_neg h2]
def unL (s:List UInt8):List (List UInt8):=(unp 8 s).getD []
def unOk (s:List UInt8):Bool:=(unp 8 s).isSome
abbrev SO (l:List (List UInt8)):AObj:=⟨strs l,0,1,some 9⟩
theorem unp_fail {s t:List UInt8} {l:List (List UInt8)} (hx1:l.length≤8) (hx3:unp 8 s=(unp (8-l.length) t).map (l++·)) (h1:¬t=[]) (h2:(rv t).2=0∨(rv t).1>t.length-(rv t).2∨(l.length:Int)=8):unL s=[]∧unOk s=false:=by
 have:unp (8-l.length) t=none:=by
  by_cases h8:l.length=8
  ·rw [h8];exact unp_zero h1
  ·obtain ⟨r,hr⟩:∃r,8-l.length=r+1:=⟨7-l.length,by omega⟩
   rw [hr];exact unp_bad h1 (by omega)
 rw [this] at hx3
 simp [unL,unOk,hx3]
theorem unp_done {s t:List UInt8} {l:List (List UInt8)} (hx3:unp 8 s=(unp (8-l.length) t).map (l++·)) (h:t=[]):unL s=l∧unOk s=true:=by
 subst h;rw [unp_nil] at hx3;simp [unL,unOk,hx3]
theorem unp_next {s t:List UInt8} {l:List (List UInt8)} (hx1:l.length<8) (hx3:unp 8 s=(unp (8-l.length) t).map (l++·)) (h1:¬t=[]) (h2:¬((rv t).2=0∨(rv t).1>t.length-(rv t).2)):
 unp 8 s=(unp (8-(l++[((t.drop (rv t).2.toNat).take (rv t).1.toNat)]).length) (t.drop ((rv t).2+(rv t).1).toNat)).map ((l++[((t.drop (rv t).2.toNat).take (rv t).1.toNat)])++·):=by
 obtain ⟨r,hr⟩:∃r,8-l.length=r+1:=⟨7-l.length,by omega⟩
 rw [hx3,hr,unp_step h1 h2,show 8-(l++[((t.drop (rv t).2.toNat).take (rv t).1.toNat)]).length=r from by simp;omega]
 cases unp r (t.drop ((rv t).2+(rv t).1).toNat)<;>simp
instance UnpackReel_c:Con 71 (∀ s:List UInt8,s.length≤1048576→Fn 71 [Z s] [SO (unL s)] (.tup [.own 0 0 0 (unL s).length,B (unOk s)])):=⟨fun s hl=>by
 refine FnC.of_body tabOk Tryz.func71 Tryz.ntmps71 rfl (by decide +kernel) (by simp) fun G=>?_
 refine go (r:=?_);and_intros<;>intros<;>try exact True.intro
 refine WpA.loop (fun x:List (List UInt8)×List UInt8=>⟨[(0,Z x.2),(4,.own 0 0 0 x.1.length)],[SO x.1]⟩) (fun x=>x.1.length≤8∧x.2.length≤s.length∧unp 8 s=(unp (8-x.1.length) x.2).map (x.1++·)) (fun x=>x.2.length) ([],s) (by simp) (go (r:=trivial)) (fun x hx=>?_)
 obtain ⟨l,t⟩:=x
 obtain ⟨hx1,hx2,hx3⟩:=hx
 simp only at hx1 hx2 hx3 ⊢
 have hb:=rv_bd t
 refine go (r:=?_);and_intros<;>intros<;>try exact True.intro
 all_goals first|(have:=unp_fail hx1 hx3 ‹_› (by omega);simp [this];done)|(have:=unp_done hx3 ‹_›;simp [this];done)|skip
 have hne:¬t=[]:=‹_›
 refine Rnd.go (l++[((t.drop (rv t).2.toNat).take (rv t).1.toNat)],t.drop ((rv t).2+(rv t).1).toNat) ⟨by simp;omega,by simp;omega,unp_next (by omega) hx3 hne (by omega)⟩ (by have:=List.length_pos_iff.2 hne;simp;omega) (go (r:=?_))
 and_intros<;>try exact True.intro
 rw [List.take_of_length_le (by simp)]⟩
instance UnpackReel_s:Con 69 (∀ s:List UInt8,s.length≤1048576→Fn 69 [Z s] [SO (unL s)] (.tup [.own 0 0 0 (unL s).length,B (unOk s)])):=⟨fun s hl=>by
 refine FnC.of_body tabOk Tryz.func69 Tryz.ntmps69 rfl (by decide +kernel) (by simp) fun G=>?_
 refine go (r:=?_);and_intros<;>intros<;>try exact True.intro
 refine WpA.loop (fun x:List (List UInt8)×Nat=>⟨[(0,Z s),(4,.own 0 0 0 x.1.length),(5,I x.2)],[SO x.1]⟩) (fun x=>x.1.length≤8∧x.2≤s.length∧unp 8 s=(unp (8-x.1.length) (s.drop x.2)).map (x.1++·)) (fun x=>s.length-x.2) ([],0) (by simp) (go (r:=trivial)) (fun x hx=>?_)
 obtain ⟨l,a⟩:=x
 obtain ⟨hx1,hx2,hx3⟩:=hx
 simp only at hx1 hx2 hx3 ⊢
 have hb:=rv_bd (s.drop a)
 have hlen:(s.drop a).length=s.length-a:=by simp
 have hne:a<s.length→¬s.drop a=[]:=fun h e=>by have:=congrArg List.length e;simp at this;omega
 refine go (r:=?_);and_intros<;>intros<;>try exact True.intro
 all_goals first|(have:=unp_fail hx1 hx3 (hne (by omega)) (by omega);simp [this];done)|(have:=unp_done hx3 (List.drop_eq_nil_of_le (by omega));simp [this];done)|skip
 have hn:=unp_next (by omega) hx3 (hne (by omega)) (by omega)
 simp only [List.drop_drop] at hn
 refine Rnd.go (l++[((s.drop (a+(rv (s.drop a)).2.toNat)).take (rv (s.drop a)).1.toNat)],a+((rv (s.drop a)).2+(rv (s.drop a)).1).toNat) ⟨by simp;omega,by simp;omega,hn⟩ (by simp;omega) (go (r:=?_))
 and_intros<;>try exact True.intro
 have e1:((a:Int)+(rv (s.drop a)).2).toNat=a+(rv (s.drop a)).2.toNat:=by omega
 have e2:((a:Int)+(rv (s.drop a)).2+(rv (s.drop a)).1).toNat-(a+(rv (s.drop a)).2.toNat)=(rv (s.drop a)).1.toNat:=by omega
 rw [e1,e2]⟩
end Go.Proofs.YtndflfipaddfoaaGreat


namespace Go.Proofs.YtndflfipaddfoaaGreat
open Go Go.Abs
attribute [local irreducible] WpA WpL Rnd Blk Abs.Seq Abs.Fin Abs.FinG FnC FnG Only
def totR (xs:List (List UInt8)):Nat:=(xs.map List.length).sum
theorem totR_snoc (xs:List (List UInt8)) (k:Nat) (h:k<xs.length):totR (xs.take (k+1))=totR (xs.take k)+(xs.getD k []).length:=by
 unfold totR;rw [List.take_succ_eq_append_getElem h,List.map_append,List.sum_append];simp [List.getElem?_eq_getElem h]
theorem totR_take (xs:List (List UInt8)) (k:Nat):totR (xs.take k)≤totR xs:=by
 have:totR xs=totR (xs.take k)+totR (xs.drop k):=by unfold totR;rw [←List.sum_append,←List.map_append,List.take_append_drop]
 omega
theorem totR_get (xs:List (List UInt8)) (k:Nat):(xs.getD k []).length≤totR xs:=by
 by_cases h:k<xs.length
 ·have:=totR_snoc xs k h;have:=totR_take xs (k+1);omega
 ·simp [List.getElem?_eq_none (Nat.le_of_not_lt h)]
def packed (xs:List (List UInt8)):List UInt8:=xs.flatMap fun x=>vars x.length++x
def packs (xs:List (List UInt8)):List UInt8:=if xs.length≤8 then packed xs else []
theorem rv_take {s:List UInt8} (h:(rv s).2≠0):vars (rv s).1=s.take (rv s).2.toNat:=by
 unfold rv at h ⊢
 split at h
 ·rename_i i hi
  split at h
  ·rename_i ho
   rw [if_pos ho]
   exact ho
  ·exact absurd rfl h
 ·exact absurd rfl h
theorem packed_unp:∀(r:Nat) (s:List UInt8) (l:List (List UInt8)),unp r s=some l→packed l=s∧l.length≤r:=by
 intro r
 induction r with
 |zero=>
  intro s l h
  cases s with
  |nil=>rw [unp_nil] at h;cases h;exact ⟨rfl,Nat.le_refl _⟩
  |cons b s=>rw [unp_zero (by simp)] at h;cases h
 |succ r ih=>
  intro s l h
  by_cases hs:s=[]
  ·subst hs;rw [unp_nil] at h;cases h;exact ⟨rfl,Nat.zero_le _⟩
  ·by_cases hb:(rv s).2=0∨(rv s).1>s.length-(rv s).2
   ·rw [unp_bad hs hb] at h;cases h
   ·rw [unp_step hs hb] at h
    cases hu:unp r (s.drop ((rv s).2+(rv s).1).toNat) with
    |none=>rw [hu] at h;cases h
    |some l'=>
     rw [hu] at h
     cases h
     have h1:=ih _ _ hu
     have hbd:=rv_bd s
     have ht:=rv_take (s:=s) (by omega)
     have hl:(((s.drop (rv s).2.toNat).take (rv s).1.toNat).length:Int)=(rv s).1:=by rw [List.length_take,List.length_drop];omega
     refine ⟨?_,by simp;exact h1.2⟩
     show vars _++_++packed l'=s
     rw [hl,ht,h1.1,show ((rv s).2+(rv s).1).toNat=(rv s).2.toNat+(rv s).1.toNat by omega,←List.drop_drop,List.append_assoc,List.take_append_drop,List.take_append_drop]
theorem packs_un {s:List UInt8} (h:unOk s=true):packs (unL s)=s∧(unL s).length≤8:=by
 unfold unOk at h
 unfold unL
 cases hu:unp 8 s with
 |none=>rw [hu] at h;cases h
 |some l=>
  have:=packed_unp 8 s l hu
  show packs l=s∧l.length≤8
  unfold packs
  rw [if_pos this.2];exact this
theorem unL_len (s:List UInt8):(unL s).length≤8:=by
 by_cases h:unOk s=true
 ·exact (packs_un h).2
 ·unfold unOk at h;unfold unL
  cases hu:unp 8 s with
  |none=>simp
  |some l=>rw [hu] at h;simp at h
theorem packed_tot (xs:List (List UInt8)):totR xs≤(packed xs).length:=by
 induction xs with
 |nil=>simp [totR]
 |cons x xs ih=>
  have e:packed (x::xs)=vars x.length++(x++packed xs):=by simp [packed]
  have e2:totR (x::xs)=x.length+totR xs:=by simp [totR]
  rw [e,e2];simp only [List.length_append];omega
theorem unL_tot (s:List UInt8):totR (unL s)≤s.length:=by
 by_cases h:unOk s=true
 ·have h1:=packs_un h
  have h2:=packed_tot (unL s)
  unfold packs at h1
  rw [if_pos h1.2] at h1
  rw [h1.1] at h2;exact h2
 ·unfold unOk at h;unfold unL
  cases hu:unp 8 s with
  |none=>simp [totR]
  |some l=>rw [hu] at h;simp at h
end Go.Proofs.YtndflfipaddfoaaGreat


namespace Go.Proofs.YtndflfipaddfoaaGreat
open Go Go.Abs
attribute [local irreducible] WpA WpL Rnd Blk Abs.Seq Abs.Fin Abs.FinG FnC FnG Only
attribute [local irreducible] prS decF unL unOk
def fzF (F:Frm):List AV:=[I F.W,I F.H,IL F.P]
@[simp] theorem fz_len (l:List Frm):(rows fzF l).length=l.length*3:=rows_len (f:=fzF) (k:=3) (fun _=>rfl) l
abbrev FzO (l:List Frm):AObj:=⟨rows fzF l,0,3,some 24⟩
def mz {α:Type} (f:List UInt8→α) (L:List (List UInt8)) (k:Nat):List α:=(List.range k).map fun i=>f (L.getD i [])
@[simp] theorem mz_len {α:Type} (f:List UInt8→α) (L:List (List UInt8)) (k:Nat):(mz f L k).length=k:=by simp [mz]
theorem mz_snoc {α:Type} (f:List UInt8→α) (L:List (List UInt8)) (k:Nat):mz f L (k+1)=mz f L k++[f (L.getD k [])]:=by simp [mz,List.range_succ]
abbrev dcF (t:List UInt8):Frm:=decF t
abbrev dcC (t:List UInt8):Int:=(prS t).c
end Go.Proofs.YtndflfipaddfoaaGreat
