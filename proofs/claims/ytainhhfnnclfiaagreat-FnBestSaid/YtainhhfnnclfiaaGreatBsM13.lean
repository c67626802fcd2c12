/- Proved in this text: lemmas and contracts of functions that the claim uses (parts: Rec2, Rec3, Res, Edg, DebI, Rec5, Rec4, AbsUn, Nba, Res2, Res3, Putc, Work, BldI, BldR, LevP). No condition. -/
import Derived.Test.YtainhhfnnclfiaaGreatBsM12
import Derived.Test.YtainhhfnnclfiaaGreatBsM10
import Derived.Test.YtainhhfnnclfiaaGreatBsM7
set_option linter.unusedVariables false
set_option linter.unusedSimpArgs false
set_option maxRecDepth 100000
set_option maxHeartbeats 16000000


namespace Go.Proofs.YtainhhfnnclfiaaGreat
open Go Go.Abs
attribute [local irreducible] WpA WpL Rnd Blk Abs.Seq Abs.Fin Abs.FinG FnC FnG Only
theorem blkL_yes {W H:Int} {p:List Int} {x y n:Int} (h:Fits W H p x y n):blkL W H p x y n=tabL (blkV W p x y n) (n*n).toNat:=by unfold blkL;rw [if_pos h]
theorem blkL_no {W H:Int} {p:List Int} {x y n:Int} (h:¬Fits W H p x y n):blkL W H p x y n=[]:=by unfold blkL;rw [if_neg h]
instance BlockAt_c:Con 135 (∀ (W H:Int) (p:List Int) (x y n:Int),p.length≤1099511627776→Fn 135 [FrA W H p,I x,I y,I n] [XI (blkL W H p x y n)] (.own 0 0 0 (blkL W H p x y n).length)):=⟨fun W H p x y n hl=>by
 by_cases h:Fits W H p x y n
 ·have e:=blkL_yes h
  have hd:=decide_eq_true h
  have hx:=h.2.2.1
  have hy:=h.2.2.2.1
  rcases h.2.1 with rfl|rfl
  ·have e2:blkL W H p x y 4=tabL (blkV W p x y 4) 16:=e
   refine FnC.of_body tabOk Tryz.func135 Tryz.ntmps135 rfl (by decide +kernel) (by simp) fun G=>?_
   refine go (r:=?_);and_intros<;>intros<;>try exact True.intro
   all_goals first|contradiction|(exact absurd h (by assumption))|skip
   refine WpA.loop (fun k:Nat=>⟨[(1,I x),(2,I y),(3,I 4),(4,.ptr 0 0 0),(9,.own 1 0 0 k),(20,I 16),(21,I k)],[FrO W H p,XI (tabL (blkV W p x y 4) k)]⟩) (fun k=>k≤16) (fun k=>16-k) 0 (by omega) (go (r:=?_)) (fun k hk=>?_)
   ·simp [tabL]
   have hkl:=tabL_len (blkV W p x y 4) k
   by_cases hlt:k<16
   ·obtain ⟨⟨b1,b2,b3,b4⟩,b5,b6,b7,b8⟩:=px_in h (i:=k) (by omega)
    unfold pxI at b7 b8
    refine go (r:=?_);and_intros<;>intros<;>try exact True.intro
    all_goals first|(rw [tabL_snoc];rfl)
   ·obtain rfl:k=16:=by omega
    refine go (r:=?_);and_intros<;>intros<;>try exact True.intro
    all_goals first|(rw [e2];done)|(rw [e2,tabL_len];done)
  ·have e2:blkL W H p x y 8=tabL (blkV W p x y 8) 64:=e
   refine FnC.of_body tabOk Tryz.func135 Tryz.ntmps135 rfl (by decide +kernel) (by simp) fun G=>?_
   refine go (r:=?_);and_intros<;>intros<;>try exact True.intro
   all_goals first|contradiction|(exact absurd h (by assumption))|skip
   refine WpA.loop (fun k:Nat=>⟨[(1,I x),(2,I y),(3,I 8),(4,.ptr 0 0 0),(9,.own 1 0 0 k),(20,I 64),(21,I k)],[FrO W H p,XI (tabL (blkV W p x y 8) k)]⟩) (fun k=>k≤64) (fun k=>64-k) 0 (by omega) (go (r:=?_)) (fun k hk=>?_)
   ·simp [tabL]
   have hkl:=tabL_len (blkV W p x y 8) k
   by_cases hlt:k<64
   ·obtain ⟨⟨b1,b2,b3,b4⟩,b5,b6,b7,b8⟩:=px_in h (i:=k) (by omega)
    unfold pxI at b7 b8
    refine go (r:=?_);and_intros<;>intros<;>try exact True.intro
    all_goals first|(rw [tabL_snoc];rfl)
   ·obtain rfl:k=64:=by omega
    refine go (r:=?_);and_intros<;>intros<;>try exact True.intro
    all_goals first|(rw [e2];done)|(rw [e2,tabL_len];done)
 ·have e:=blkL_no h
  have hd:=decide_eq_false h
  refine FnC.of_body tabOk Tryz.func135 Tryz.ntmps135 rfl (by decide +kernel) (by simp) fun G=>?_
  refine go (r:=?_);and_intros<;>intros<;>try exact True.intro
  all_goals first|contradiction|(rw [e];done)|(rw [e];rfl)|(exact absurd (by assumption) h)⟩
theorem setL_yes {W H:Int} {p:List Int} {x y:Int} {l:List Int} (h:SetOk W H p x y l):setL W H p x y l=setK W x y (side l.length) l p l.length:=by unfold setL;rw [if_pos h]
theorem setL_no {W H:Int} {p:List Int} {x y:Int} {l:List Int} (h:¬SetOk W H p x y l):setL W H p x y l=p:=by unfold setL;rw [if_neg h]
end Go.Proofs.YtainhhfnnclfiaaGreat


namespace Go.Proofs.YtainhhfnnclfiaaGreat
open Go Go.Abs
attribute [local irreducible] WpA WpL Rnd Blk Abs.Seq Abs.Fin Abs.FinG FnC FnG Only
theorem set_step (W x y n:Int) (l p:List Int) (k:Nat):(setK W x y n l p k).set ((y+(k:Int)/n)*W+x+(k:Int)%n).toNat (l.getD k 0)=setK W x y n l p (k+1):=rfl
instance SetBlock_c:Con 200 (∀ (W H:Int) (p:List Int) (x y:Int) (l:List Int),p.length≤1099511627776∧l.length≤1099511627776→Fn 200 [FrA W H p,I x,I y,IL l] [XI (setL W H p x y l)] (.tup [FrOwn 0 W H (setL W H p x y l).length,B (decide (SetOk W H p x y l))])):=⟨fun W H p x y l hl=>by
 have hlen:=setL_len W H p x y l
 by_cases h:SetOk W H p x y l
 ·have e:=setL_yes h
  have hd:=decide_eq_true h
  obtain ⟨h1,h2⟩:=id h
  have h1s:=h1
  rcases h1.2.1 with e4|e4
  ·have hll:l.length=16:=by have:=side_cases l.length;omega
   have e2:setL W H p x y l=setK W x y 4 l p 16:=by rw [e,e4,hll]
   rw [hlen,e2,hd]
   rw [e4] at h1
   refine FnC.of_body tabOk Tryz.func200 Tryz.ntmps200 rfl (by decide +kernel) (by simp) fun G=>?_
   refine goR (r:=?_);and_intros<;>intros<;>try exact True.intro
   apply WpA.regionSF (O:=[FrO W H p,⟨[I 0,I 0,.nilS],0,0,none⟩]) (Or:=[]) (O1:=[FrO W H p,⟨[I 0,I 0,.nilS],0,0,none⟩,⟨ints p,1,1,some 3⟩,⟨[I 0,I 0,.nilS],1,0,none⟩,deadO,deadO]) 6 2 [] [] rfl mixed (by decide +kernel)
   ·exact rfl
   ·apply HeadS.consF .none rfl
    ·exact rfl
    ·exact rfl
    ·exact in1
    ·exact rfl
    ·exact rfl
    apply HeadS.consF .none rfl
    ·exact rfl
    ·exact rfl
    ·exact in1
    ·exact rfl
    ·exact rfl
    apply HeadS.consF .none rfl
    ·exact rfl
    ·exact rfl
    ·exact in0
    ·exact rfl
    ·exact rfl
    apply HeadS.consF .none rfl
    ·exact rfl
    ·exact rfl
    ·exact in1
    ·exact rfl
    ·exact rfl
    apply HeadS.consF (V:=.agg [I W,I H,.own 2 1 0 p.length]) (.put 0 (⟨ints p,1,1,some 3⟩)) rfl
    ·exact rfl
    ·exact rfl
    ·intro Tv Ov hc hp' hd hk
     skip
     refine K.call ?_
     refine K.con (fun hcon=>?_)
     refine WpL.callF (hcon W H p (by omega)) snapA locA outA (cnt_some _ 0) rfl rfl (by decide) ?_
     rw [Nat.zero_add]
     apply WpL.putV (p:=0)
     ·first|exact .agg (.keep rfl rfl (.keep rfl rfl (.own (by first|rfl|simp) .nil))) .nil|exact .own (by first|rfl|simp) .nil
     ·exact hp' 0 _ rfl
     ·exact Nat.zero_le _
     ·exact rfl
     ·first|exact still_ints _|exact still_rows (fun _=>rfl) _|rfl
    ·exact rfl
    ·exact rfl
    apply HeadS.consF (V:=.ptr 3 1 0) (.put 1 (⟨[I 0,I 0,.nilS],1,0,none⟩)) rfl
    ·exact rfl
    ·exact rfl
    ·intro Tv Ov hc hp' hd hk
     refine K.all ?_
     refine WpL.allocStruct tabOk rfl (by rw [nid_len,Nat.zero_add]) (by decide) ?_
     apply WpL.putV (p:=1)
     ·exact .ptr (by first|rfl|simp) .nil
     ·exact hp' 1 _ rfl
     ·exact Nat.zero_le _
     ·exact rfl
     ·rfl
    ·exact rfl
    ·exact rfl
    exact HeadS.nil
   ·exact rfl
   ·exact rfl
   ·exact rfl
   ·exact rfl
   ·exact rfl
   ·exact rfl
   ·exact rfl
   refine goR (r:=?_);and_intros<;>intros<;>try exact True.intro
   all_goals first|contradiction|(exact absurd h1s (by assumption))|skip
   refine WpA.loop (fun k:Nat=>⟨[(1,I x),(2,I y),(4,.ptr 0 0 0),(8,.ptr 1 0 0),(10,I 4),(11,.ptr 3 1 0),(31,IL l),(32,I 16),(33,I k)],[FrO W H p,⟨[I 0,I 0,.nilS],0,0,none⟩,⟨ints (setK W x y 4 l p k),1,1,some 3⟩,⟨[I W,I H,.own 2 1 0 p.length],1,0,none⟩]⟩) (fun k=>k≤16) (fun k=>16-k) 0 (by omega) (go (r:=?_)) (fun k hk=>?_)
   ·and_intros<;>first|exact True.intro|rfl
   have hkl:=setK_len W x y 4 l p k
   by_cases hlt:k<16
   ·obtain ⟨⟨b1,b2,b3,b4⟩,b5,b6,b7,b8⟩:=px_in h1 (i:=k) (by omega)
    unfold pxI at b7 b8
    refine go (r:=?_);and_intros<;>intros<;>try exact True.intro
    all_goals first|contradiction|omega|exact set_step ..
   ·obtain rfl:k=16:=by omega
    refine go (r:=?_);and_intros<;>intros<;>try exact True.intro
    all_goals first|contradiction|exact hd|exact hd.symm
  ·have hll:l.length=64:=by have:=side_cases l.length;omega
   have e2:setL W H p x y l=setK W x y 8 l p 64:=by rw [e,e4,hll]
   rw [hlen,e2,hd]
   rw [e4] at h1
   refine FnC.of_body tabOk Tryz.func200 Tryz.ntmps200 rfl (by decide +kernel) (by simp) fun G=>?_
   refine goR (r:=?_);and_intros<;>intros<;>try exact True.intro
   apply WpA.regionSF (O:=[FrO W H p,⟨[I 0,I 0,.nilS],0,0,none⟩]) (Or:=[]) (O1:=[FrO W H p,⟨[I 0,I 0,.nilS],0,0,none⟩,⟨ints p,1,1,some 3⟩,⟨[I 0,I 0,.nilS],1,0,none⟩,deadO,deadO]) 6 2 [] [] rfl mixed (by decide +kernel)
   ·exact rfl
   ·apply HeadS.consF .none rfl
    ·exact rfl
    ·exact rfl
    ·exact in1
    ·exact rfl
    ·exact rfl
    apply HeadS.consF .none rfl
    ·exact rfl
    ·exact rfl
    ·exact in1
    ·exact rfl
    ·exact rfl
    apply HeadS.consF .none rfl
    ·exact rfl
    ·exact rfl
    ·exact in0
    ·exact rfl
    ·exact rfl
    apply HeadS.consF .none rfl
    ·exact rfl
    ·exact rfl
    ·exact in1
    ·exact rfl
    ·exact rfl
    apply HeadS.consF (V:=.agg [I W,I H,.own 2 1 0 p.length]) (.put 0 (⟨ints p,1,1,some 3⟩)) rfl
    ·exact rfl
    ·exact rfl
    ·intro Tv Ov hc hp' hd hk
     skip
     refine K.call ?_
     refine K.con (fun hcon=>?_)
     refine WpL.callF (hcon W H p (by omega)) snapA locA outA (cnt_some _ 0) rfl rfl (by decide) ?_
     rw [Nat.zero_add]
     apply WpL.putV (p:=0)
     ·first|exact .agg (.keep rfl rfl (.keep rfl rfl (.own (by first|rfl|simp) .nil))) .nil|exact .own (by first|rfl|simp) .nil
     ·exact hp' 0 _ rfl
     ·exact Nat.zero_le _
     ·exact rfl
     ·first|exact still_ints _|exact still_rows (fun _=>rfl) _|rfl
    ·exact rfl
    ·exact rfl
    apply HeadS.consF (V:=.ptr 3 1 0) (.put 1 (⟨[I 0,I 0,.nilS],1,0,none⟩)) rfl
    ·exact rfl
    ·exact rfl
    ·intro Tv Ov hc hp' hd hk
     refine K.all ?_
     refine WpL.allocStruct tabOk rfl (by rw [nid_len,Nat.zero_add]) (by decide) ?_
     apply WpL.putV (p:=1)
     ·exact .ptr (by first|rfl|simp) .nil
     ·exact hp' 1 _ rfl
     ·exact Nat.zero_le _
     ·exact rfl
     ·rfl
    ·exact rfl
    ·exact rfl
    exact HeadS.nil
   ·exact rfl
   ·exact rfl
   ·exact rfl
   ·exact rfl
   ·exact rfl
   ·exact rfl
   ·exact rfl
   refine goR (r:=?_);and_intros<;>intros<;>try exact True.intro
   all_goals first|contradiction|(exact absurd h1s (by assumption))|skip
   refine WpA.loop (fun k:Nat=>⟨[(1,I x),(2,I y),(4,.ptr 0 0 0),(8,.ptr 1 0 0),(10,I 8),(11,.ptr 3 1 0),(31,IL l),(32,I 64),(33,I k)],[FrO W H p,⟨[I 0,I 0,.nilS],0,0,none⟩,⟨ints (setK W x y 8 l p k),1,1,some 3⟩,⟨[I W,I H,.own 2 1 0 p.length],1,0,none⟩]⟩) (fun k=>k≤64) (fun k=>64-k) 0 (by omega) (go (r:=?_)) (fun k hk=>?_)
   ·and_intros<;>first|exact True.intro|rfl
   have hkl:=setK_len W x y 8 l p k
   by_cases hlt:k<64
   ·obtain ⟨⟨b1,b2,b3,b4⟩,b5,b6,b7,b8⟩:=px_in h1 (i:=k) (by omega)
    unfold pxI at b7 b8
    refine go (r:=?_);and_intros<;>intros<;>try exact True.intro
    all_goals first|contradiction|omega|exact set_step ..
   ·obtain rfl:k=64:=by omega
    refine go (r:=?_);and_intros<;>intros<;>try exact True.intro
    all_goals first|contradiction|exact hd|exact hd.symm
 ·have e:=setL_no h
  have hd:=decide_eq_false h
  rw [e,hd]
  refine FnC.of_body tabOk Tryz.func200 Tryz.ntmps200 rfl (by decide +kernel) (by simp) fun G=>?_
  refine goR (r:=?_);and_intros<;>intros<;>try exact True.intro
  apply WpA.regionSF (O:=[FrO W H p,⟨[I 0,I 0,.nilS],0,0,none⟩]) (Or:=[]) (O1:=[FrO W H p,⟨[I 0,I 0,.nilS],0,0,none⟩,⟨ints p,1,1,some 3⟩,⟨[I 0,I 0,.nilS],1,0,none⟩,deadO,deadO]) 6 2 [] [] rfl mixed (by decide +kernel)
  ·exact rfl
  ·apply HeadS.consF .none rfl
   ·exact rfl
   ·exact rfl
   ·exact in1
   ·exact rfl
   ·exact rfl
   apply HeadS.consF .none rfl
   ·exact rfl
   ·exact rfl
   ·exact in1
   ·exact rfl
   ·exact rfl
   apply HeadS.consF .none rfl
   ·exact rfl
   ·exact rfl
   ·exact in0
   ·exact rfl
   ·exact rfl
   apply HeadS.consF .none rfl
   ·exact rfl
   ·exact rfl
   ·exact in1
   ·exact rfl
   ·exact rfl
   apply HeadS.consF (V:=.agg [I W,I H,.own 2 1 0 p.length]) (.put 0 (⟨ints p,1,1,some 3⟩)) rfl
   ·exact rfl
   ·exact rfl
   ·intro Tv Ov hc hp' hd hk
    skip
    refine K.call ?_
    refine K.con (fun hcon=>?_)
    refine WpL.callF (hcon W H p (by omega)) snapA locA outA (cnt_some _ 0) rfl rfl (by decide) ?_
    rw [Nat.zero_add]
    apply WpL.putV (p:=0)
    ·first|exact .agg (.keep rfl rfl (.keep rfl rfl (.own (by first|rfl|simp) .nil))) .nil|exact .own (by first|rfl|simp) .nil
    ·exact hp' 0 _ rfl
    ·exact Nat.zero_le _
    ·exact rfl
    ·first|exact still_ints _|exact still_rows (fun _=>rfl) _|rfl
   ·exact rfl
   ·exact rfl
   apply HeadS.consF (V:=.ptr 3 1 0) (.put 1 (⟨[I 0,I 0,.nilS],1,0,none⟩)) rfl
   ·exact rfl
   ·exact rfl
   ·intro Tv Ov hc hp' hd hk
    refine K.all ?_
    refine WpL.allocStruct tabOk rfl (by rw [nid_len,Nat.zero_add]) (by decide) ?_
    apply WpL.putV (p:=1)
    ·exact .ptr (by first|rfl|simp) .nil
    ·exact hp' 1 _ rfl
    ·exact Nat.zero_le _
    ·exact rfl
    ·rfl
   ·exact rfl
   ·exact rfl
   exact HeadS.nil
  ·exact rfl
  ·exact rfl
  ·exact rfl
  ·exact rfl
  ·exact rfl
  ·exact rfl
  ·exact rfl
  by_cases h1:Fits W H p x y (side l.length)
  ·have h2:¬In l 0 255:=fun h3=>h ⟨h1,h3⟩
   refine go (r:=?_);and_intros<;>intros<;>try exact True.intro
   all_goals first|contradiction|exact hd|exact hd.symm
  ·refine go (r:=?_);and_intros<;>intros<;>try exact True.intro
   all_goals first|contradiction|exact hd|exact hd.symm⟩
end Go.Proofs.YtainhhfnnclfiaaGreat


namespace Go.Proofs.YtainhhfnnclfiaaGreat
open Go Go.Abs
attribute [local irreducible] WpA WpL Rnd Blk Abs.Seq Abs.Fin Abs.FinG FnC FnG Only
theorem scan_own (k:Nat):In (scanL (side k)) 0 (((scanL (side k)).length:Int)-1):=by
 have h:=scan_rg (side k) (by unfold side;split<;>(try split)<;>simp)
 rw [h.2];exact h.1
instance Placed_c:Con 256 (∀ l:List Int,l.length≤1099511627776→Fn 256 [IL l] [XI (plcL l)] (.own 0 0 0 (plcL l).length)):=⟨fun l hl=>by
 obtain ⟨_,hs2⟩:=scan_fit l
 have hs1:=scan_own l.length
 have hsc:=side_cases l.length
 have hpl:=plcL_len l
 have hle:(scanL (side l.length)).length≤l.length:=by
  rcases hsc with ⟨h,e⟩|⟨h,e⟩|⟨_,_,e⟩
  ·rw [(scan_facts (.inl h)).1];exact Nat.le_refl _
  ·rw [(scan_facts (.inr h)).1];exact Nat.le_refl _
  ·rw [e];exact Nat.zero_le _
 refine FnC.of_body tabOk Tryz.func256 Tryz.ntmps256 rfl (by decide +kernel) (by simp) fun G=>?_
 refine go (r:=?_);and_intros<;>intros<;>try exact True.intro
 refine WpA.loop (fun k:Nat=>⟨[(0,IL l),(4,.own 1 0 0 (scanL (side l.length)).length),(14,.own 0 0 0 (scanL (side l.length)).length),(15,I (scanL (side l.length)).length),(16,I k)],[XI (scanL (side l.length)),XI (plcK (scanL (side l.length)) l k)]⟩) (fun k=>k≤(scanL (side l.length)).length) (fun k=>(scanL (side l.length)).length-k) 0 (by omega) (go (r:=?_)) (fun k hk=>?_)
 ·simp [plcK]
 have hln:=plcK_len (scanL (side l.length)) l k
 have hg:=fun h=>in_get hs1 (k:=k) h
 have hg2:=fun h=>in_get hs1 (k:=((k:Int)).toNat) h
 refine go (r:=?_);and_intros<;>intros<;>try exact True.intro
 have e:k=(scanL (side l.length)).length:=by omega
 rw [e];rfl⟩
instance NormAt_c:Con 286 (∀ n i:Int,(n=0∨n=4∨n=8)∧0≤i∧i≤1000→Fn 286 [I n,I i] [] (I (normL n i))):=⟨fun n i h=>by
 obtain ⟨rfl|rfl|rfl,h0,h1⟩:=h
 ·refine FnC.of_body tabOk Tryz.func286 Tryz.ntmps286 rfl (by decide +kernel) (by simp) fun G=>?_
  refine go (r:=?_);and_intros<;>intros<;>try exact True.intro
  all_goals first|rfl|(unfold normL;rw [if_neg (by omega)];done)
 ·refine FnC.of_body tabOk Tryz.func286 Tryz.ntmps286 rfl (by decide +kernel) (by simp) fun G=>?_
  refine go (r:=?_);and_intros<;>intros<;>try exact True.intro
  all_goals first|rfl|(unfold normL;rw [if_neg (by omega)];done)|(rw [normL,if_pos (by omega),if_neg (by decide),if_pos (by omega)];done)|(rw [normL,if_pos (by omega),if_neg (by decide),if_neg (by omega),if_pos (by omega)];done)|(rw [normL,if_pos (by omega),if_neg (by decide),if_neg (by omega),if_neg (by omega)];done)
 ·refine FnC.of_body tabOk Tryz.func286 Tryz.ntmps286 rfl (by decide +kernel) (by simp) fun G=>?_
  refine go (r:=?_);and_intros<;>intros<;>try exact True.intro
  all_goals first|rfl|(unfold normL;rw [if_neg (by omega)];done)|(rw [normL,if_pos (by omega),if_pos rfl];done)⟩
theorem side_048 (k:Nat):side k=0∨side k=4∨side k=8:=by unfold side;split<;>(try split)<;>simp
theorem sca_snoc (l:List Int) (q:Int) (k:Nat):tabL (scaF l q) (k+1)=tabL (scaF l q) k++[l.getD k 0*stepL q*normL (side l.length) k]:=by rw [tabL_snoc];rfl
instance Scaled_c:Con 257 (∀ (l:List Int) (q:Int),l.length≤1099511627776→Fn 257 [IL l,I q] [XI (scaL l q)] (.own 0 0 0 (scaL l q).length)):=⟨fun l q hl=>by
 have hsl:=stepL_pos q
 have hsd:=side_048 l.length
 have hsn:¬0<stepL q→stepL q=0:=fun hh=>by have:=(stepL_bd q).1;omega
 refine FnC.of_body tabOk Tryz.func257 Tryz.ntmps257 rfl (by decide +kernel) (by simp) fun G=>?_
 by_cases h:LvOk l∧0<stepL q
 ·have h1:=h.1
  have h2:=h.2
  have hin:=h.1.1
  have hlen:=h.1.2
  have hs:=stepL_in q (hsl.1 h.2)
  have he:scaL l q=tabL (scaF l q) l.length:=by unfold scaL;rw [if_pos h]
  refine go (r:=?_);and_intros<;>intros<;>try exact True.intro
  refine WpA.loop (fun k:Nat=>⟨[(0,IL l),(1,I q),(5,.own 0 0 0 k),(17,IL l),(18,I l.length),(19,I k)],[XI (tabL (scaF l q) k)]⟩) (fun k=>k≤l.length) (fun k=>l.length-k) 0 (by omega) (go (r:=?_)) (fun k hk=>?_)
  ·simp [tabL]
  have hlk:=tabL_len (scaF l q) k
  have b1:=sca1_bd hin q k
  have b2:=scaF_bd hin q k
  have b3:=in_getZ (c:=16383) hin (by decide) k
  have b4:=normL_bd (side l.length) k
  unfold scaF at b2
  have hsn:=sca_snoc l q k
  refine go (r:=?_);and_intros<;>intros<;>try exact True.intro
  all_goals first|(rw [hsn];done)|skip
  all_goals have e:k=l.length:=by omega
  all_goals subst e
  ·rw [he,tabL_len]
  ·rw [he]
 ·have e:scaL l q=[]:=by unfold scaL;rw [if_neg h]
  by_cases h1:LvOk l
  ·have h2:stepL q=0:=hsn (fun hh=>h ⟨h1,hh⟩)
   refine go (r:=?_);and_intros<;>intros<;>try exact True.intro
   all_goals first|(rw [e];done)|(rw [e];rfl)
  ·refine go (r:=?_);and_intros<;>intros<;>try exact True.intro
   all_goals first|(rw [e];done)|(rw [e];rfl)⟩
abbrev Flo (v d:Int):Prop:=(-2000000000000≤v∧v≤2000000000000)∧1≤d∧d≤2000
theorem flo_bd {v d:Int} (h:Flo v d):-2000000000000≤v/d∧v/d≤2000000000000:=by
 obtain ⟨⟨h1,h2⟩,h3,h4⟩:=h
 constructor
 ·exact Int.le_ediv_of_mul_le (by omega) (by omega)
 ·rcases Int.lt_or_le v 0 with h|h
  ·have:=Int.ediv_neg_of_neg_of_pos h (show 0<d by omega);omega
  ·have:=Int.ediv_le_self d h;omega
theorem flo_t {v d:Int} (h:Flo v d) (hv:v<0):-2000000000000≤v.tdiv d∧v.tdiv d≤0:=by
 have h0:(-v).tdiv d=-(v.tdiv d):=Int.neg_tdiv ..
 have h1:=Int.tdiv_eq_ediv_of_nonneg (a:=-v) (b:=d) (by omega)
 have h2:=Int.ediv_le_self d (show 0≤-v by omega)
 have h3:=Int.ediv_nonneg (show 0≤-v by omega) (show 0≤d by omega)
 omega
instance floorDiv_c:Con 287 (∀ v d:Int,Flo v d→Fn 287 [I v,I d] [] (I (v/d))):=⟨fun v d h=>by
 have hb:=flo_bd h
 have he:=floor_t (a:=v) (b:=d) (by omega)
 by_cases hv:v<0
 ·have ht:=flo_t h hv
  refine FnC.of_body tabOk Tryz.func287 Tryz.ntmps287 rfl (by decide +kernel) (by simp) fun G=>?_
  refine go (r:=?_);and_intros<;>intros<;>try exact True.intro
  refine WpL.quoT rfl rfl (by omega) (by decide) ?_
  refine go (r:=?_);and_intros<;>intros<;>try exact True.intro
  refine WpL.remT rfl rfl (by omega) (by decide) ?_
  by_cases hr:v.tmod d<0
  ·rw [if_pos hr] at he
   refine go (r:=?_);and_intros<;>intros<;>try exact True.intro
   all_goals first|exact he|exact he.symm|contradiction|omega
  ·rw [if_neg hr] at he
   refine go (r:=?_);and_intros<;>intros<;>try exact True.intro
   all_goals first|exact he|exact he.symm|contradiction|omega
 ·refine FnC.of_body tabOk Tryz.func287 Tryz.ntmps287 rfl (by decide +kernel) (by simp) fun G=>?_
  have h0:=Int.emod_nonneg v (show d≠0 by omega)
  refine go (r:=?_);and_intros<;>intros<;>try exact True.intro
  all_goals trace_state⟩
end Go.Proofs.YtainhhfnnclfiaaGreat


namespace Go.Proofs.YtainhhfnnclfiaaGreat
open Go Go.Abs
attribute [local irreducible] WpA WpL Rnd Blk Abs.Seq Abs.Fin Abs.FinG FnC FnG Only
theorem alpha_yes {q:Int} (h:0≤q∧q≤51):alphaL q=q+4:=if_pos h
theorem alpha_no {q:Int} (h:¬(0≤q∧q≤51)):alphaL q=0:=if_neg h
theorem beta_yes {q:Int} (h:0≤q∧q≤51):betaL q=q/3+2:=if_pos h
theorem beta_no {q:Int} (h:¬(0≤q∧q≤51)):betaL q=0:=if_neg h
instance AlphaOf_c:Con 304 (∀ q:Int,Fn 304 [I q] [] (I (alphaL q))):=⟨fun q=>by
 by_cases h:0≤q∧q≤51
 ·rw [alpha_yes h]
  refine FnC.of_body tabOk Tryz.func304 Tryz.ntmps304 rfl (by decide +kernel) (by simp) fun G=>?_
  refine go (r:=?_);and_intros<;>intros<;>try exact True.intro
 ·rw [alpha_no h]
  refine FnC.of_body tabOk Tryz.func304 Tryz.ntmps304 rfl (by decide +kernel) (by simp) fun G=>?_
  refine go (r:=?_);and_intros<;>intros<;>try exact True.intro⟩
instance BetaOf_c:Con 305 (∀ q:Int,Fn 305 [I q] [] (I (betaL q))):=⟨fun q=>by
 by_cases h:0≤q∧q≤51
 ·rw [beta_yes h]
  have e:q.tdiv 3=q/3:=Int.tdiv_eq_ediv_of_nonneg h.1
  refine FnC.of_body tabOk Tryz.func305 Tryz.ntmps305 rfl (by decide +kernel) (by simp) fun G=>?_
  refine go (r:=?_);and_intros<;>intros<;>try exact True.intro
  all_goals first|contradiction|omega|(rw [e];done)
 ·rw [beta_no h]
  refine FnC.of_body tabOk Tryz.func305 Tryz.ntmps305 rfl (by decide +kernel) (by simp) fun G=>?_
  refine go (r:=?_);and_intros<;>intros<;>try exact True.intro⟩
instance near_c:Con 303 (∀ a b n:Int,-1000000≤a∧a≤1000000∧-1000000≤b∧b≤1000000→Fn 303 [I a,I b,I n] [] (B (decide (max (a-b) (b-a)<n)))):=⟨fun a b n h=>by
 refine FnC.of_body tabOk Tryz.func303 Tryz.ntmps303 rfl (by decide +kernel) (by simp) fun G=>?_
 refine go (r:=?_);and_intros<;>intros<;>try exact True.intro⟩
theorem edP_yes {a b c d q:Int} (h:EdOk a b c d q):edP a b c d q=(max 0 (min 255 (b+edD a b c d q)),max 0 (min 255 (c-edD a b c d q))):=if_pos h
theorem edP_no {a b c d q:Int} (h:¬EdOk a b c d q):edP a b c d q=(b,c):=if_neg h
theorem alphaL_bd (q:Int):0≤alphaL q∧alphaL q≤55:=by unfold alphaL;split<;>omega
theorem betaL_bd (q:Int):0≤betaL q∧betaL q≤19:=by unfold betaL;split<;>omega
theorem in4 {a b c d:Int} (h:In [a,b,c,d] 0 255):(0≤a∧a≤255)∧(0≤b∧b≤255)∧(0≤c∧c≤255)∧0≤d∧d≤255:=by
 unfold In at h
 exact ⟨h a (by simp),h b (by simp),h c (by simp),h d (by simp)⟩
instance EdgeOf_c:Con 300 (∀ a b c d q:Int,In [a,b,c,d] 0 255→Fn 300 [I a,I b,I c,I d,I q] [] (.tup [I (edP a b c d q).1,I (edP a b c d q).2])):=⟨fun a b c d q hin=>by
 obtain ⟨ha,hb,hc,hd⟩:=in4 hin
 have hal:=alphaL_bd q
 have hbe:=betaL_bd q
 have hle:[a,b,c,d].length≤1099511627776:=by simp
 by_cases h:EdOk a b c d q
 ·obtain ⟨h0,h1,h2,h3⟩:=id h
  have hq:0≤q∧q≤51:=by
   refine Classical.byContradiction fun hn=>?_
   rw [alpha_no hn] at h1;omega
  have e4:q.tdiv 4=q/4:=Int.tdiv_eq_ediv_of_nonneg hq.1
  rw [edP_yes h]
  have hfl:Flo (4*(c-b)+(a-d)+4) 8:=by unfold Flo;omega
  refine FnC.of_body tabOk Tryz.func300 Tryz.ntmps300 rfl (by decide +kernel) (by simp) fun G=>?_
  refine go (r:=?_);and_intros<;>intros<;>try exact True.intro
  all_goals first|contradiction|omega|(show _=max 0 (min 255 (b+edD a b c d q));unfold edD;omega)|(show _=max 0 (min 255 (c-edD a b c d q));unfold edD;omega)
 ·rw [edP_no h]
  refine FnC.of_body tabOk Tryz.func300 Tryz.ntmps300 rfl (by decide +kernel) (by simp) fun G=>?_
  refine go (r:=?_);and_intros<;>intros<;>try exact True.intro
  all_goals first|contradiction|omega|(exfalso;exact h ⟨hin,by omega,by omega,by omega⟩)⟩
end Go.Proofs.YtainhhfnnclfiaaGreat


namespace Go.Proofs.YtainhhfnnclfiaaGreat
open Go Go.Abs
attribute [local irreducible] WpA WpL Rnd Blk Abs.Seq Abs.Fin Abs.FinG FnC FnG Only
theorem run_snoc (q:Int) (E:List (Nat×Nat)) (e s:Nat) (l:List Int):run q (E++[(e,s)]) l=edg q e s (run q E l) (run q E l):=by rw [run_app];rfl
theorem run_nil (q:Int) (l:List Int):run q [] l=l:=rfl
theorem vx_nil (w y:Nat):vx w y 0=[]:=rfl
theorem vy_nil (w a:Nat):vy w a 0=[]:=rfl
theorem hx_nil (w y:Nat):hx w y 0=[]:=rfl
theorem hy_nil (w:Nat):hy w 0=[]:=rfl
theorem rowLe {w h y:Nat} (hy:y<h):y*w+w≤w*h:=by
 have:=Nat.mul_le_mul_right w (show y+1≤h by omega)
 rw [Nat.add_mul,Nat.one_mul,Nat.mul_comm h w] at this;exact this
theorem in4of {f:List Int} (hf:In f 0 255) (a b c d:Nat):In [f.getD a 0,f.getD b 0,f.getD c 0,f.getD d 0] 0 255:=by
 have h1:=in_getZ255 hf a
 have h2:=in_getZ255 hf b
 have h3:=in_getZ255 hf c
 have h4:=in_getZ255 hf d
 unfold In
 intro v hv
 simp only [List.mem_cons,List.not_mem_nil,or_false] at hv
 rcases hv with rfl|rfl|rfl|rfl<;>assumption
abbrev FrNk (w h:Nat) (f:List Int):Prop:=(w%8=0∧8≤w∧w≤64)∧(h%8=0∧8≤h∧h≤64)∧f.length=w*h∧In f 0 255
abbrev FrHand (W H:Int) (len:Nat):AV:=.agg [I W,I H,.own 0 0 0 len]
instance smoothEdge_c:ConG 289 (∀ (W H:Int) (l:List Int) (e s:Nat) (q:Int),In l 0 255∧2*s≤e∧e+s<l.length∧l.length≤4096∧1≤s→
 Gn 289 [FrHand W H l.length,I e,I s,I q] [IN l] [IN (edg q e s l l)] [] (.tup [])):=⟨fun W H l e s q hh=>by
 obtain ⟨hin,h2,h3,h4,h5⟩:=hh
 have e1:((e:Int)-(s:Int)).toNat=e-s:=by omega
 have e2:((e:Int)-2*(s:Int)).toNat=e-2*s:=by omega
 have e3:((e:Int)+(s:Int)).toNat=e+s:=by omega
 have e0:((e:Int)).toNat=e:=by omega
 have hi4:=in4of hin ((e:Int)-2*(s:Int)).toNat ((e:Int)-(s:Int)).toNat ((e:Int)).toNat ((e:Int)+(s:Int)).toNat
 refine FnG.of_bodyF tabOk Tryz.func289 Tryz.ntmps289 rfl (by decide +kernel) (by simp) rfl rfl fun G=>?_
 refine goR (r:=?_);and_intros<;>intros<;>try exact True.intro
 all_goals first|contradiction|omega|skip
 apply WpA.regionGB 44 mixed (by decide +kernel)
 ·exact rfl
 ·exact headA
 ·exact trueA
 ·exact trueA
 ·exact trueA
 ·exact demA
 ·exact rfl
 ·exact rfl
 refine go (r:=?_);and_intros<;>intros<;>try exact True.intro
 all_goals first|contradiction|omega|(rw [e0,e1,e2,e3];rfl)⟩
section
attribute [local irreducible] run vx vy hx hy edg
instance vertical_c:ConG 262 (∀ (w h:Nat) (l:List Int) (a b:Nat) (q:Int),FrNk w h l∧a≤b∧b≤h→
 Gn 262 [FrHand w h l.length,I a,I b,I q] [IN l] [IN (run q (vy w a (b-a)) l)] [] (.tup [])):=⟨fun w h l a b q hh=>by
 obtain ⟨⟨⟨hw,hw8,hw64⟩,⟨hh8,hh0,hh64⟩,hfl,hin⟩,hab,hbh⟩:=hh
 have hwh:w*h≤64*64:=Nat.mul_le_mul hw64 hh64
 refine FnG.of_bodyF tabOk Tryz.func262 Tryz.ntmps262 rfl (by decide +kernel) (by simp) rfl rfl fun G=>?_
 refine go (r:=?_);and_intros<;>intros<;>try exact True.intro
 all_goals first|contradiction|omega|skip
 refine WpA.loop (fun k:Nat=>⟨[(2,I b),(3,I q),(4,.ptr 1 0 0),(8,I ((a+k:Nat):Int))],[IN (run q (vy w a k) l),⟨[I w,I h,.own 0 0 0 l.length],0,0,none⟩]⟩) (fun k=>k≤b-a) (fun k=>b-a-k) 0 (by omega) (go (r:=?_)) (fun k hk=>?_)
 ·and_intros<;>first|exact True.intro|rfl|(rw [vy_nil,run_nil];done)
 obtain ⟨y,hy⟩:∃y,a+k=y:=⟨_,rfl⟩
 have hkl:=run_len q (vy w a k) l
 by_cases hlt:k<b-a
 ·have hyh:y<h:=by omega
  have hrow:=rowLe (w:=w) hyh
  have hyn:a+(k+1)=y+1:=by omega
  have hvs:=vy_succ w a k
  rw [hy] at hvs
  rw [hy]
  obtain ⟨m,hm⟩:∃m,y*w=m:=⟨_,rfl⟩
  have hpm:(y:Int)*(w:Int)=(m:Int):=by rw [←hm,Int.natCast_mul]
  rw [hm] at hrow
  refine go (r:=?_);and_intros<;>intros<;>try exact True.intro
  all_goals first|contradiction|omega|skip
  refine WpA.loop (fun j:Nat=>⟨[(2,I b),(3,I q),(4,.ptr 1 0 0),(8,I (y:Int)),(9,I (8*(j:Int)+8))],[IN (run q (vy w a k++vx w y j) l),⟨[I w,I h,.own 0 0 0 l.length],0,0,none⟩]⟩) (fun j=>j≤w/8-1) (fun j=>w/8-1-j) 0 (by omega) (go (r:=?_)) (fun j hj=>?_)
  ·and_intros<;>first|exact True.intro|rfl|(rw [vx_nil,List.append_nil];done)
  have hjl:=run_len q (vy w a k++vx w y j) l
  have hji:=run_rg (q:=q) (E:=vy w a k++vx w y j) hin
  by_cases hlt2:j<w/8-1
  ·have hst:=run_snoc q (vy w a k++vx w y j) (m+(8*j+8)) 1 l
   have hvx:=vx_succ w y j
   rw [hm] at hvx
   rw [List.append_assoc,←hvx] at hst
   have e0:(y:Int)*(w:Int)+(8*(j:Int)+8)=((m+(8*j+8):Nat):Int):=by rw [hpm];omega
   refine goR (r:=?_);and_intros<;>intros<;>try exact True.intro
   all_goals first|contradiction|omega|exact Nat.le_refl _|(rw [hm];exact hst.symm)
  ·obtain rfl:j=w/8-1:=by omega
   refine go (r:=?_);and_intros<;>intros<;>try exact True.intro
   all_goals first|contradiction|omega|(rw [hvs];done)
 ·obtain rfl:k=b-a:=by omega
  have hyb:y=b:=by omega
  rw [hy,hyb]
  refine go (r:=?_);and_intros<;>intros<;>try exact True.intro
  all_goals first|contradiction|omega⟩
theorem rowUp {w h y:Nat} (h1:2≤y) (hy:y<h):2*w≤y*w∧y*w+w≤w*h:=⟨Nat.mul_le_mul_right w h1,rowLe hy⟩
instance horizontal_c:ConG 263 (∀ (w h:Nat) (l:List Int) (y:Nat) (q:Int),FrNk w h l∧2≤y∧y+1<h→
 Gn 263 [FrHand w h l.length,I y,I q] [IN l] [IN (run q (hx w y w) l)] [] (.tup [])):=⟨fun w h l y q hh=>by
 obtain ⟨⟨⟨hw,hw8,hw64⟩,⟨hh8,hh0,hh64⟩,hfl,hin⟩,hy2,hyh⟩:=hh
 have hwh:w*h≤64*64:=Nat.mul_le_mul hw64 hh64
 obtain ⟨hr1,hr2⟩:=rowUp (w:=w) hy2 (show y<h by omega)
 have hr3:=rowLe (w:=w) hyh
 rw [Nat.add_mul,Nat.one_mul] at hr3
 obtain ⟨m,hm⟩:∃m,y*w=m:=⟨_,rfl⟩
 have hpm:(y:Int)*(w:Int)=(m:Int):=by rw [←hm,Int.natCast_mul]
 rw [hm] at hr1 hr2 hr3
 refine FnG.of_bodyF tabOk Tryz.func263 Tryz.ntmps263 rfl (by decide +kernel) (by simp) rfl rfl fun G=>?_
 refine go (r:=?_);and_intros<;>intros<;>try exact True.intro
 all_goals first|contradiction|omega|skip
 refine WpA.loop (fun k:Nat=>⟨[(1,I y),(2,I q),(3,.ptr 1 0 0),(8,I w),(9,I k)],[IN (run q (hx w y k) l),⟨[I w,I h,.own 0 0 0 l.length],0,0,none⟩]⟩) (fun k=>k≤w) (fun k=>w-k) 0 (by omega) (go (r:=?_)) (fun k hk=>?_)
 ·and_intros<;>first|exact True.intro|rfl|(rw [hx_nil,run_nil];done)
 have hkl:=run_len q (hx w y k) l
 have hki:=run_rg (q:=q) (E:=hx w y k) hin
 by_cases hlt:k<w
 ·have hst:=run_snoc q (hx w y k) (m+k) w l
  have hvx:=hx_succ w y k
  rw [hm] at hvx
  rw [←hvx] at hst
  refine goR (r:=?_);and_intros<;>intros<;>try exact True.intro
  all_goals first|contradiction|omega|exact Nat.le_refl _|(rw [hm];exact hst.symm)
 ·obtain rfl:k=w:=by omega
  refine go (r:=?_);and_intros<;>intros<;>try exact True.intro
  all_goals first|contradiction|omega⟩
end
instance isFiltered_c:Con 261 (∀ (W H:Int) (p:List Int) (q:Int),p.length≤1099511627776→Fn 261 [FrA W H p,I q] [] (B (decide (FrameOk W H p∧0≤q∧q≤51)))):=⟨fun W H p q hl=>by
 refine FnC.of_body tabOk Tryz.func261 Tryz.ntmps261 rfl (by decide +kernel) (by simp) fun G=>?_
 refine go (r:=?_);and_intros<;>intros<;>try exact True.intro
 all_goals first|(simp_all;done)⟩
def dbL (W H q:Int) (p:List Int):List Int:=if FrameOk W H p∧0≤q∧q≤51 then debL q W.toNat H.toNat p else p
theorem dbL_len (W H q:Int) (p:List Int):(dbL W H q p).length=p.length:=by
 unfold dbL;split
 ·exact debL_len ..
 ·rfl
theorem dbL_ok {W H q:Int} {p:List Int} (h:FrameOk W H p):FrameOk W H (dbL W H q p):=by
 refine ⟨h.1,by rw [dbL_len];exact h.2.1,?_⟩
 unfold dbL;split
 ·exact debL_in h.2.2
 ·exact h.2.2
theorem dbL_yes {w h:Nat} {q:Int} {p:List Int} (hh:FrameOk (w:Int) (h:Int) p∧0≤q∧q≤51):dbL w h q p=run q (hy w (h/8-1)) (run q (vy w 0 h) p):=by
 unfold dbL;rw [if_pos hh];rfl
theorem dbL_no {W H:Int} {q:Int} {p:List Int} (hh:¬(FrameOk W H p∧0≤q∧q≤51)):dbL W H q p=p:=by
 unfold dbL;rw [if_neg hh]
section
attribute [local irreducible] run vx vy hx hy edg
instance DeblockRef_c:Con 202 (∀ (W H:Int) (p:List Int) (q:Int),p.length≤1099511627776→Fn 202 [FrA W H p,I q] [IN (dbL W H q p)] (FrOwn 0 W H p.length)):=⟨fun W H p q hl=>by
 by_cases hok:FrameOk W H p∧0≤q∧q≤51
 ·have hd:=decide_eq_true hok
  obtain ⟨hf,hq0,hq51⟩:=id hok
  obtain ⟨⟨h1,h2,h3,h4,h5,h6⟩,hpl,hin⟩:=hf
  obtain ⟨w,rfl⟩:∃w:Nat,W=w:=⟨W.toNat,by omega⟩
  obtain ⟨h,rfl⟩:∃h:Nat,H=h:=⟨H.toNat,by omega⟩
  have hpl2:p.length=w*h:=by have:((w*h:Nat):Int)=(w:Int)*(h:Int):=Int.natCast_mul w h;omega
  rw [dbL_yes hok]
  have hwh:w*h≤64*64:=Nat.mul_le_mul (by omega) (by omega)
  have hv1:=run_len q (vy w 0 h) p
  have hv2:=run_rg (q:=q) (E:=vy w 0 h) hin
  generalize hP:run q (vy w 0 h) p=P at*
  refine FnC.of_body tabOk Tryz.func202 Tryz.ntmps202 rfl (by decide +kernel) (by simp) fun G=>?_
  refine go (r:=?_);and_intros<;>intros<;>try exact True.intro
  all_goals first|contradiction|exact Nat.zero_le _|omega|skip
  rw [Nat.sub_zero,hP]
  refine WpA.loop (fun k:Nat=>⟨[(1,I q),(2,.ptr 0 0 0),(4,.ptr 1 0 0),(5,.ptr 3 0 0),(6,I (8*(k:Int)+8))],[FrO w h p,⟨[I 0,I 0,.nilS],0,0,none⟩,IN (run q (hy w k) P),⟨[I w,I h,.own 2 0 0 p.length],0,0,none⟩]⟩) (fun k=>k≤h/8-1) (fun k=>h/8-1-k) 0 (by omega) (go (r:=?_)) (fun k hk=>?_)
  ·and_intros<;>first|exact True.intro|rfl|(rw [hy_nil,run_nil];done)
  have hkl:=run_len q (hy w k) P
  have hki:=run_rg (q:=q) (E:=hy w k) hv2
  by_cases hlt:k<h/8-1
  ·have hst:run q (hy w (k+1)) P=run q (hx w (8*k+8) w) (run q (hy w k) P):=by rw [hy_succ,run_app]
   refine goR (r:=?_);and_intros<;>intros<;>try exact True.intro
   all_goals first|contradiction|omega|exact hst.symm|(show 2≤8*k+8;omega)|(show 8*k+8+1<h;omega)
  ·obtain rfl:k=h/8-1:=by omega
   refine go (r:=?_);and_intros<;>intros<;>try exact True.intro
   all_goals first|contradiction|omega
 ·have hd:=decide_eq_false hok
  rw [dbL_no hok]
  refine FnC.of_body tabOk Tryz.func202 Tryz.ntmps202 rfl (by decide +kernel) (by simp) fun G=>?_
  refine go (r:=?_);and_intros<;>intros<;>try exact True.intro
  all_goals first|contradiction|omega⟩
end
end Go.Proofs.YtainhhfnnclfiaaGreat


namespace Go.Proofs.YtainhhfnnclfiaaGreat
open Go Go.Abs
attribute [local irreducible] WpA WpL Rnd Blk Abs.Seq Abs.Fin Abs.FinG FnC FnG Only
theorem recL_yes {p r:List Int} (h:TwoOk p r):recL p r=tabL (recF p r) p.length:=by unfold recL;rw [if_pos h]
theorem recL_no {p r:List Int} (h:¬TwoOk p r):recL p r=[]:=by unfold recL;rw [if_neg h]
theorem rec_snoc (p r:List Int) (k:Nat) {v:Int} (h:v=recF p r k):tabL (recF p r) k++[v]=tabL (recF p r) (k+1):=by rw [tabL_snoc,h]
instance Recon_c:Con 201 (∀ p r:List Int,p.length≤1099511627776∧r.length≤1099511627776→Fn 201 [IL p,IL r] [XI (recL p r)] (.own 0 0 0 (recL p r).length)):=⟨fun p r hl=>by
 have hsp:=side_pos p.length
 by_cases h:TwoOk p r
 ·obtain ⟨h1,h2,h3⟩:=id h
  have e:=recL_yes h
  refine FnC.of_body tabOk Tryz.func201 Tryz.ntmps201 rfl (by decide +kernel) (by simp) fun G=>?_
  refine go (r:=?_);and_intros<;>intros<;>try exact True.intro
  all_goals first|contradiction|omega|skip
  refine WpA.loop (fun k:Nat=>⟨[(1,IL r),(5,.own 0 0 0 k),(25,IL p),(26,I p.length),(27,I k)],[XI (tabL (recF p r) k)]⟩) (fun k=>k≤p.length) (fun k=>p.length-k) 0 (by omega) (go (r:=?_)) (fun k hk=>?_)
  ·simp [tabL]
  have hkl:=tabL_len (recF p r) k
  have g1:=fun hh=>in_get h3 (k:=k) hh
  by_cases hlt:k<p.length
  ·have g2:=g1 hlt
   refine go (r:=?_);and_intros<;>intros<;>try exact True.intro
   all_goals first|contradiction|omega|(exact rec_snoc p r k (by unfold recF;omega))
  ·obtain rfl:k=p.length:=by omega
   refine go (r:=?_);and_intros<;>intros<;>try exact True.intro
   all_goals first|contradiction|omega|(rw [e,tabL_len];done)|(rw [e];done)
 ·have e:=recL_no h
  have hno:0<side p.length→p.length=r.length→¬In p 0 255:=fun a b c=>h ⟨a,b,c⟩
  refine FnC.of_body tabOk Tryz.func201 Tryz.ntmps201 rfl (by decide +kernel) (by simp) fun G=>?_
  by_cases ha:0<side p.length
  ·by_cases hb:p.length=r.length
   ·have hc:=hno ha hb
    refine go (r:=?_);and_intros<;>intros<;>try exact True.intro
    all_goals first|contradiction|omega|(rw [e];done)|(rw [e];rfl)
   ·refine go (r:=?_);and_intros<;>intros<;>try exact True.intro
    all_goals first|contradiction|omega|(rw [e];done)|(rw [e];rfl)
  ·have hs0:side p.length=0:=by have:=side_cases p.length;omega
   refine go (r:=?_);and_intros<;>intros<;>try exact True.intro
   all_goals first|contradiction|omega|(rw [e];done)|(rw [e];rfl)⟩
end Go.Proofs.YtainhhfnnclfiaaGreat


namespace Go.Proofs.YtainhhfnnclfiaaGreat
open Go Go.Abs
attribute [local irreducible] WpA WpL Rnd Blk Abs.Seq Abs.Fin Abs.FinG FnC FnG Only
attribute [local irreducible] setK
end Go.Proofs.YtainhhfnnclfiaaGreat


namespace Go.Abs
open Go
section
variable {P:Program} {n m:Nat} {G:Ctx} {md:Bool} {σ:St} {Q:Exit→St→Prop} {T:List (Nat×AV)} {O:List AObj}
theorem WpL.guardV {v0:Value} {ops:Array Oper} {o:Oper} {l:List Oper} {j t d:Nat} {want:Bool} (hg:o.guard=some (j,want)) (hj:((ops[j]?).bind (·.dst))=some t) (htn:t<n)
 (ht:look σ.T t=.sc v0) (hne:v0≠.bool want) (hd:o.dst=some d) (h:WpL P n m G md ops l ⟨(d,.any)::σ.T,σ.O⟩ Q):WpL P n m G md ops (o::l) σ Q:=fun a w hr=>by
 have hv:a.tmps.getD t undef=v0:=hr.eval_sc (x:=.tmp t) ht
 have hsz:a.tmps.size=n:=by obtain ⟨_,_,_,h⟩:=hr;exact h.size
 have hv':a.tmps[t]?=some v0:=by
  rw [Array.getD_eq_getD_getElem?] at hv
  rw [Array.getElem?_eq_getElem (by omega)] at hv ⊢
  simpa using hv
 have hw:Region.wanted o (yielded ops a.tmps)=false:=by
  simp only [Region.wanted,hg,yielded,hj,Option.bind_some,hv']
  cases v0<;>first|rfl|skip
  rename_i b
  cases b<;>cases want<;>first|rfl|exact absurd rfl hne
 have hrel:Rel n m G ⟨(d,.any)::σ.T,σ.O⟩ (a.put o.dst undef) w:=?_
 ·cases md with
  |false=>
   simp only
   unfold wpList
   rw [if_neg (by simp [hw])]
   exact h _ _ hrel
  |true=>
   simp only
   unfold wpStill
   rw [if_neg (by simp [hw])]
   exact h _ _ hrel
 obtain ⟨S,ι,F,hr⟩:=hr
 refine ⟨S,ι,F,by simpa [Act.put,hd] using hr.defers,by simp [Act.put,hd,hr.size],fun t'=>?_,hr.objs,hr.foot,hr.base,hr.stable,hr.keeps,hr.spots,hr.mle⟩
 by_cases he:d=t'
 ·subst he;rw [look_cons_same];exact .any .nil
 ·rw [look_cons_other _ _ _ _ he]
  have:=hr.tmps t'
  simpa [Act.put,hd,Array.getD_eq_getD_getElem?,Array.getElem?_setIfInBounds,he] using this
theorem WpL.openAny {ops:Array Oper} {l:List Oper} {t:Nat} (hx:look T t=.any) (h:∀v0,WpL P n m G md ops l ⟨(t,.sc v0)::T,O⟩ Q):WpL P n m G md ops l ⟨T,O⟩ Q:=fun a w hr=>by
 refine h (a.tmps.getD t undef) a w ?_
 obtain ⟨S,ι,F,hr⟩:=hr
 refine ⟨S,ι,F,hr.defers,hr.size,fun u=>?_,hr.objs,hr.foot,hr.base,hr.stable,hr.keeps,hr.spots,hr.mle⟩
 show VRel S w ι O (look ((t,.sc _)::T) u) _ []
 by_cases he:t=u
 ·subst he;rw [look_cons_same];exact .sc .nil
 ·rw [look_cons_other _ _ _ _ he];exact hr.tmps u
end
end Go.Abs


namespace Go.Proofs.YtainhhfnnclfiaaGreat
open Go Go.Abs
attribute [local irreducible] WpA WpL Rnd Blk Abs.Seq Abs.Fin Abs.FinG FnC FnG Only
theorem topF_eq (W:Int) (p:List Int) (x y n:Int) (hn:0<n) (k:Nat):topF W p x y n k=if y=0 then 128 else if (k:Int)<n∨(y%8=0∧x+k<W) then p.getD ((y-1)*W+x+k).toNat 0 else topF W p x y n (k-1):=by
 cases k with
 |zero=>
  rw [topF]
  split
  ·rfl
  ·rw [if_pos (.inl (by simpa using hn))]
 |succ k=>rw [topF];rfl
theorem nb_ix {W H:Int} {p:List Int} {x y n:Int} (h:Fits W H p x y n) {k:Nat} (hk:(k:Int)<2*n) (hy:y≠0) (hc:(k:Int)<n∨(y%8=0∧x+k<W)):0≤(y-1)*W∧(y-1)*W≤1024∧(y-1)*W+x+k<p.length:=by
 obtain ⟨h0,h1,hx,hy2,_⟩:=h
 have:=ix_in h0 (a:=y-1) (b:=x+k) (by omega) (by omega)
 omega
theorem nb_lx {W H:Int} {p:List Int} {x y n:Int} (h:Fits W H p x y n) {k:Nat} (hk:(k:Int)<n) (hx0:0<x):0≤(y+k)*W∧(y+k)*W≤1024∧(y+k)*W+x-1<p.length:=by
 obtain ⟨h0,h1,hx,hy2,_⟩:=h
 have:=ix_in h0 (a:=y+k) (b:=x-1) (by omega) (by omega)
 omega
theorem nb_cx {W H:Int} {p:List Int} {x y n:Int} (h:Fits W H p x y n) (hx0:0<x) (hy0:0<y):0≤(y-1)*W∧(y-1)*W≤1024∧(y-1)*W+x-1<p.length:=by
 obtain ⟨h0,h1,hx,hy2,_⟩:=h
 have:=ix_in h0 (a:=y-1) (b:=x-1) (by omega) (by omega)
 omega
abbrev NbOwn (W H:Int) (p:List Int) (x y n:Int):AV:=.agg [.own 0 0 0 (topL W H p x y n).length,.own 1 0 0 (lefL W H p x y n).length,I (corL W H p x y n),B (hasT W H p x y n),B (hasE W H p x y n)]
abbrev Nb0:AObj:=⟨[.nilS,.nilS,I 0,B false,B false],0,0,none⟩
attribute [local irreducible] topF lefF
instance NbAt_c:Con 136 (∀ (W H:Int) (p:List Int) (x y n:Int),p.length≤1099511627776→Fn 136 [FrA W H p,I x,I y,I n] [XI (topL W H p x y n),XI (lefL W H p x y n)] (NbOwn W H p x y n)):=⟨fun W H p x y n hl=>by
 by_cases h:Fits W H p x y n
 ·have ht:topL W H p x y n=tabL (topF W p x y n) (2*n).toNat:=by unfold topL;rw [if_pos h]
  have hle:lefL W H p x y n=tabL (lefF W p x y) n.toNat:=by unfold lefL;rw [if_pos h]
  have hco:corL W H p x y n=if 0<x∧0<y then p.getD ((y-1)*W+x-1).toNat 0 else 128:=by unfold corL;rw [if_pos h]
  have hhT:hasT W H p x y n=decide (0<y):=by unfold hasT;rw [Bool.eq_iff_iff];simp only [decide_eq_true_eq];exact ⟨fun hh=>hh.2,fun hh=>⟨h,hh⟩⟩
  have hhE:hasE W H p x y n=decide (0<x):=by unfold hasE;rw [Bool.eq_iff_iff];simp only [decide_eq_true_eq];exact ⟨fun hh=>hh.2,fun hh=>⟨h,hh⟩⟩
  unfold NbOwn
  rw [ht,hle,hco,hhT,hhE,tabL_len,tabL_len]
  have hd:=decide_eq_true h
  obtain ⟨h0,h1,hx,hy,_⟩:=id h
  refine FnC.of_body tabOk Tryz.func136 Tryz.ntmps136 rfl (by decide +kernel) (by simp) fun G=>?_
  refine go (r:=?_);and_intros<;>intros<;>try exact True.intro
  all_goals first|contradiction|(exact absurd h (by assumption))|skip
  refine WpA.loop (fun k:Nat=>⟨[(1,I x),(2,I y),(3,I n),(4,.ptr 0 0 0),(8,.ptr 1 0 0),(9,.ptr 2 0 0),(27,I (2*n)),(28,I k)],[FrO W H p,Nb0,⟨[.own 3 0 0 k,.nilS,I 128,B (decide (0<y)),B (decide (0<x))],0,0,none⟩,XI (tabL (topF W p x y n) k)]⟩) (fun k=>(k:Int)≤2*n) (fun k=>(2*n).toNat-k) 0 (by omega) ?_ ?_
  ·exact Weak.nil1 (by first|(show 0≤_;exact Nat.zero_le _)|(repeat' (first|exact RzT.nil|refine RzT.cons ?_ ?_|exact Rz.nil|refine Rz.keep rfl rfl ?_|refine Rz.own rfl rfl rfl rfl rfl (by first|rfl|omega|(simp;done)) ?_|refine Rz.ptr rfl rfl rfl rfl ?_|refine Rz.nilO rfl rfl rfl (by first|rfl|omega|(simp;done)) ?_|refine Rz.agg ?_ ?_|exact RzO.last rfl|(refine RzO.cons ?_ (.inr rfl) ?_)|exact Rz.same rfl (still_ints _)|exact Rz.same rfl (still_rows (fun _=>rfl) _)))) (by first|(show 0≤_;exact Nat.zero_le _)|(repeat' (first|exact RzT.nil|refine RzT.cons ?_ ?_|exact Rz.nil|refine Rz.keep rfl rfl ?_|refine Rz.own rfl rfl rfl rfl rfl (by first|rfl|omega|(simp;done)) ?_|refine Rz.ptr rfl rfl rfl rfl ?_|refine Rz.nilO rfl rfl rfl (by first|rfl|omega|(simp;done)) ?_|refine Rz.agg ?_ ?_|exact RzO.last rfl|(refine RzO.cons ?_ (.inr rfl) ?_)|exact Rz.same rfl (still_ints _)|exact Rz.same rfl (still_rows (fun _=>rfl) _)))) (Nat.le_of_ble_eq_true rfl)
  intro k hk
  try simp only at hk ⊢
  have hkl:=tabL_len (topF W p x y n) k
  by_cases hlt:(k:Int)<2*n
  ·have hq:=topF_eq W p x y n (by omega) k
   have hsn:=tabL_snoc (topF W p x y n) k
   by_cases hy0:y=0
   ·rw [if_pos hy0] at hq
    rw [hq] at hsn
    refine go (r:=?_);and_intros<;>intros<;>try exact True.intro
    all_goals first|contradiction|omega|exact hsn.symm
   ·rw [if_neg hy0] at hq
    by_cases hc:(k:Int)<n∨(y%8=0∧x+k<W)
    ·rw [if_pos hc] at hq
     rw [hq] at hsn
     obtain ⟨b1,b2,b3⟩:=nb_ix h hlt hy0 hc
     by_cases hc0:(k:Int)<n
     ·refine go (r:=?_);and_intros<;>intros<;>try exact True.intro
      refine WpL.openAny (t:=48) rfl (fun v0=>?_)
      by_cases hv:v0=.bool true
      ·subst hv
       refine go (r:=?_);and_intros<;>intros<;>try exact True.intro
       all_goals first|contradiction|omega|exact hsn.symm
      ·repeat (refine WpL.guardV (σ:=⟨_,_⟩) rfl rfl (by decide) rfl hv rfl ?_)
       refine go (r:=?_);and_intros<;>intros<;>try exact True.intro
       all_goals first|contradiction|omega|exact hsn.symm
     ·obtain ⟨hc1,hc2⟩:y%8=0∧x+k<W:=hc.resolve_left hc0
      refine go (r:=?_);and_intros<;>intros<;>try exact True.intro
      all_goals first|contradiction|omega|exact hsn.symm
    ·rw [if_neg hc] at hq
     rw [hq] at hsn
     have hk0:0<k:=by omega
     have ek:((k:Int)-1).toNat=k-1:=by omega
     have hge:(tabL (topF W p x y n) k).getD (k-1) 0=topF W p x y n (k-1):=tabL_get (by omega)
     by_cases hc0:(k:Int)<n
     ·exact absurd (.inl hc0) hc
     by_cases hc1:y%8=0
     ·have hc2:¬x+k<W:=fun hh=>hc (.inr ⟨hc1,hh⟩)
      refine go (r:=?_);and_intros<;>intros<;>try exact True.intro
      all_goals first|contradiction|omega|(rw [ek,hge];exact hsn.symm)
     ·refine go (r:=?_);and_intros<;>intros<;>try exact True.intro
      all_goals first|contradiction|omega|(rw [ek,hge];exact hsn.symm)
  ·have hke:k=(2*n).toNat:=by omega
   subst hke
   refine go (r:=?_);and_intros<;>intros<;>try exact True.intro
   all_goals first|contradiction|omega|skip
   refine WpA.loop (fun k:Nat=>⟨[(1,I x),(2,I y),(4,.ptr 0 0 0),(8,.ptr 1 0 0),(9,.ptr 2 0 0),(77,I n),(78,I k)],[FrO W H p,Nb0,⟨[.own 3 0 0 (2*n).toNat,.own 4 0 0 k,I 128,B (decide (0<y)),B (decide (0<x))],0,0,none⟩,XI (tabL (topF W p x y n) (2*n).toNat),XI (tabL (lefF W p x y) k)]⟩) (fun k=>(k:Int)≤n) (fun k=>n.toNat-k) 0 (by omega) ?_ ?_
   ·exact Weak.nil1 (by first|(show 0≤_;exact Nat.zero_le _)|(repeat' (first|exact RzT.nil|refine RzT.cons ?_ ?_|exact Rz.nil|refine Rz.keep rfl rfl ?_|refine Rz.own rfl rfl rfl rfl rfl (by first|rfl|omega|(simp;done)) ?_|refine Rz.ptr rfl rfl rfl rfl ?_|refine Rz.nilO rfl rfl rfl (by first|rfl|omega|(simp;done)) ?_|refine Rz.agg ?_ ?_|exact RzO.last rfl|(refine RzO.cons ?_ (.inr rfl) ?_)|exact Rz.same rfl (still_ints _)|exact Rz.same rfl (still_rows (fun _=>rfl) _)))) (by first|(show 0≤_;exact Nat.zero_le _)|(repeat' (first|exact RzT.nil|refine RzT.cons ?_ ?_|exact Rz.nil|refine Rz.keep rfl rfl ?_|refine Rz.own rfl rfl rfl rfl rfl (by first|rfl|omega|(simp;done)) ?_|refine Rz.ptr rfl rfl rfl rfl ?_|refine Rz.nilO rfl rfl rfl (by first|rfl|omega|(simp;done)) ?_|refine Rz.agg ?_ ?_|exact RzO.last rfl|(refine RzO.cons ?_ (.inr rfl) ?_)|exact Rz.same rfl (still_ints _)|exact Rz.same rfl (still_rows (fun _=>rfl) _)))) (Nat.le_of_ble_eq_true rfl)
   intro k hk
   try simp only at hk ⊢
   have hkl2:=tabL_len (lefF W p x y) k
   by_cases hlt2:(k:Int)<n
   ·have hsn:=tabL_snoc (lefF W p x y) k
    by_cases hx0:0<x
    ·obtain ⟨b1,b2,b3⟩:=nb_lx h hlt2 hx0
     have hq:lefF W p x y k=p.getD ((y+k)*W+x-1).toNat 0:=by unfold lefF;rw [if_pos hx0]
     rw [hq] at hsn
     refine go (r:=?_);and_intros<;>intros<;>try exact True.intro
     all_goals first|contradiction|omega|exact hsn.symm
    ·have hq:lefF W p x y k=128:=by unfold lefF;rw [if_neg hx0]
     rw [hq] at hsn
     refine go (r:=?_);and_intros<;>intros<;>try exact True.intro
     all_goals first|contradiction|omega|exact hsn.symm
   ·have hke:k=n.toNat:=by omega
    subst hke
    by_cases hx0:0<x
    ·by_cases hy0:0<y
     ·obtain ⟨b1,b2,b3⟩:=nb_cx h hx0 hy0
      rw [if_pos ⟨hx0,hy0⟩]
      refine go (r:=?_);and_intros<;>intros<;>try exact True.intro
      all_goals first|contradiction|omega
     ·rw [if_neg (fun hh=>hy0 hh.2)]
      refine go (r:=?_);and_intros<;>intros<;>try exact True.intro
      all_goals first|contradiction|omega
    ·rw [if_neg (fun hh=>hx0 hh.1)]
     refine go (r:=?_);and_intros<;>intros<;>try exact True.intro
     all_goals first|contradiction|omega
 ·have ht:topL W H p x y n=[]:=by unfold topL;rw [if_neg h]
  have hle:lefL W H p x y n=[]:=by unfold lefL;rw [if_neg h]
  have hco:corL W H p x y n=0:=by unfold corL;rw [if_neg h]
  have hhT:hasT W H p x y n=false:=by unfold hasT;rw [decide_eq_false_iff_not];exact fun hh=>h hh.1
  have hhE:hasE W H p x y n=false:=by unfold hasE;rw [decide_eq_false_iff_not];exact fun hh=>h hh.1
  unfold NbOwn
  rw [ht,hle,hco,hhT,hhE]
  have hd:=decide_eq_false h
  refine FnC.of_body tabOk Tryz.func136 Tryz.ntmps136 rfl (by decide +kernel) (by simp) fun G=>?_
  refine go (r:=?_);and_intros<;>intros<;>try exact True.intro
  all_goals first|contradiction|omega⟩
end Go.Proofs.YtainhhfnnclfiaaGreat


namespace Go.Proofs.YtainhhfnnclfiaaGreat
open Go Go.Abs
attribute [local irreducible] WpA WpL Rnd Blk Abs.Seq Abs.Fin Abs.FinG FnC FnG Only
theorem rnd_snoc (f:Int→Int) (l:List Int) (k:Nat) (h:k<l.length):(l.take k).map f++[f (l.getD k 0)]=(l.take (k+1)).map f:=qz_snoc f l k h
instance Rounded_c:Con 258 (∀ (l:List Int),l.length≤1099511627776→Fn 258 [IL l] [XI (rndL l)] (.own 0 0 0 (rndL l).length)):=⟨fun l hl=>by
 have hsd:=side_cases l.length
 refine FnC.of_body tabOk Tryz.func258 Tryz.ntmps258 rfl (by decide +kernel) (by simp) fun G=>?_
 by_cases h:0<side l.length
 ·have he:rndL l=l.map (rnd1 l.length):=by unfold rndL;rw [if_pos h]
  by_cases h16:l.length=16
  ·have e4:side l.length=4:=by omega
   refine go (r:=?_);and_intros<;>intros<;>try exact True.intro
   refine WpA.loop (fun k:Nat=>⟨[(3,I 1600),(4,.own 0 0 0 k),(15,IL l),(16,I l.length),(17,I k)],[XI ((l.take k).map (rnd1 l.length))]⟩) (fun k=>k≤l.length) (fun k=>l.length-k) 0 (by omega) (go (r:=?_)) (fun k hk=>?_)
   ·simp
   have hlk:((l.take k).map (rnd1 l.length)).length=k:=by simp;omega
   have hsn:=rnd_snoc (rnd1 l.length) l k
   have e1:rnd1 l.length (l.getD k 0)=(max (-1000000000000) (min (l.getD k 0) 1000000000000)+800)/1600:=by unfold rnd1;rw [if_pos h16,Int.min_comm]
   refine go (r:=?_);and_intros<;>intros<;>try exact True.intro
   all_goals first|(rw [←hsn (by omega),e1];done)|(rw [←hsn (by omega),e1];rfl)|skip
   all_goals have e:k=l.length:=by omega
   all_goals subst e
   ·rw [he,List.length_map]
   ·rw [he,List.take_length]
  ·have e8:side l.length=8:=by omega
   refine go (r:=?_);and_intros<;>intros<;>try exact True.intro
   refine WpA.loop (fun k:Nat=>⟨[(3,I 64),(4,.own 0 0 0 k),(15,IL l),(16,I l.length),(17,I k)],[XI ((l.take k).map (rnd1 l.length))]⟩) (fun k=>k≤l.length) (fun k=>l.length-k) 0 (by omega) (go (r:=?_)) (fun k hk=>?_)
   ·simp
   have hlk:((l.take k).map (rnd1 l.length)).length=k:=by simp;omega
   have hsn:=rnd_snoc (rnd1 l.length) l k
   have e1:rnd1 l.length (l.getD k 0)=(max (-1000000000000) (min (l.getD k 0) 1000000000000)+32)/64:=by unfold rnd1;rw [if_neg h16,Int.min_comm]
   refine go (r:=?_);and_intros<;>intros<;>try exact True.intro
   all_goals first|(rw [←hsn (by omega),e1];done)|(rw [←hsn (by omega),e1];rfl)|skip
   all_goals have e:k=l.length:=by omega
   all_goals subst e
   ·rw [he,List.length_map]
   ·rw [he,List.take_length]
 ·have e:rndL l=[]:=by unfold rndL;rw [if_neg h]
  have e0:side l.length=0:=by omega
  refine go (r:=?_);and_intros<;>intros<;>try exact True.intro
  all_goals first|(rw [e];done)|(rw [e];rfl)⟩
def tA (r k:Nat):Int:=mx 4 k r
def T4:List (List Int):=(List.range 4).map fun r=>tabL (tA r) 4
def cellsT (r:Nat):List AV:=(List.range 4).map fun q=>if q<r then .fre 1 4 (ints (tabL (tA q) 4)) else .nilS
def invT (r:Nat):Nat→List AObj
 |0=>[⟨(cellsT r).set r .nilS,0,1,some 32⟩]
 |k+1=>[⟨(cellsT r).set r (.own 2 0 0 (k+1)),0,1,some 32⟩,⟨[.any],0,1,none⟩,XI (tabL (tA r) (k+1))]
theorem cellsT_nil {r:Nat} (h:r<4):cellsT r=(cellsT r).set r .nilS:=by
 rcases (by omega:r=0∨r=1∨r=2∨r=3) with rfl|rfl|rfl|rfl<;>rfl
theorem cellsT_succ {r:Nat} (h:r<4) (X:AV):((cellsT r).set r X).set r (.fre 1 4 (ints (tabL (tA r) 4)))=cellsT (r+1):=by
 rcases (by omega:r=0∨r=1∨r=2∨r=3) with rfl|rfl|rfl|rfl<;>rfl
theorem tnest {r:Nat} (h:r<4):flatO [⟨((cellsT r).set r (.own 2 0 0 4)).set r (.fre 1 4 (ints (tabL (tA r) 4))),0,1,some 32⟩,⟨[.any],0,1,none⟩,⟨[],1,0,none⟩]=some [⟨cellsT (r+1),0,1,some 32⟩,⟨[.any],0,1,none⟩,⟨[],1,0,none⟩]:=by
 rw [cellsT_succ h];rfl
theorem cellsT_still (r:Nat):(cellsT r).all AV.still=true:=by
 rw [List.all_eq_true];intro V hV;simp only [cellsT,List.mem_map] at hV;obtain ⟨q,_,rfl⟩:=hV
 split<;>rfl
theorem cellsT_len (r:Nat):(cellsT r).length=4:=by simp [cellsT]
theorem cellsT_4:cellsT 4=rows liF T4:=rfl
theorem cellsT_0:cellsT 0=[.nilS,.nilS,.nilS,.nilS]:=rfl
section
attribute [local irreducible] cellsT
instance turned_c:Con 288 (Fn 288 [LLn 4 A4] [⟨rows liF T4,0,1,some 32⟩] (.own 0 0 0 4)):=⟨by
 refine FnC.of_body tabOk Tryz.func288 Tryz.ntmps288 rfl (by decide +kernel) (by simp) fun G=>?_
 refine K.A ?_
 refine WpA.seq ?_
 refine WpA.regionF rfl ?_
 refine WpL.assign rfl (by decide) ?_
 refine WpL.nil ?_
 refine Abs.Seq.n ?_
 refine WpA.seq ?_
 refine WpA.regionF rfl ?_
 refine WpL.move rfl (by decide) ?_
 refine WpL.lenImm (TabOk.slice tabOk rfl).1 rfl (by decide) ?_
 refine WpL.make tabOk rfl rfl rfl (by decide) (by decide) rfl (by decide) ?_
 refine go (r:=?_);and_intros<;>intros<;>try exact True.intro
 refine WpA.loop (fun r:Nat=>⟨[(0,LLn 4 A4),(3,.own 0 0 0 4),(10,I 4),(11,I r)],[⟨cellsT r,0,1,some 32⟩]⟩) (fun r=>r≤4) (fun r=>4-r) 0 (by omega) (go (r:=?_)) (fun r hr=>?_)
 ·and_intros<;>first|trivial|rfl|exact .nil|exact .inr rfl|exact Re.same cellsT_0.symm (cellsT_still 0)
 by_cases h8:r=4
 ·subst h8
  refine go (r:=?_);and_intros<;>intros<;>try exact True.intro
  all_goals first|exact cellsT_4
 have hr8:r<4:=by omega
 have hcl:=cellsT_len r
 have hst:=cellsT_still r
 have hc0:=cellsT_nil hr8
 refine go (r:=?_);and_intros<;>intros<;>try exact True.intro
 refine WpA.loop (fun k:Nat=>⟨[(0,LLn 4 A4),(3,.own 0 0 0 4),(4,I r),(10,I 4),(11,I r),(15,I 4),(16,I k)],invT r k⟩) (fun k=>k≤4) (fun k=>4-k) 0 (by omega) (go (r:=?_)) (fun k hk=>?_)
 ·and_intros<;>first|trivial|rfl|exact .nil|exact .inr rfl|(exact hc0)|exact Re.same hc0 (by rw [←hc0];exact hst)
 by_cases hk8:k=4
 ·subst hk8
  refine WpA.weak (NestC.weak (id:=0) (offs:=[r]) (O2:=[⟨cellsT (r+1),0,1,some 32⟩,⟨[.any],0,1,none⟩,⟨[],1,0,none⟩]) ?_) ?_
  ·apply NestC.cons (off:=r) (j:=2) (O1:=[⟨cellsT (r+1),0,1,some 32⟩,⟨[.any],0,1,none⟩,⟨[],1,0,none⟩])
   ·exact rfl
   ·exact List.getElem?_set_self (by omega)
   ·exact rfl
   ·exact rfl
   ·decide
   ·exact rfl
   ·exact still_ints _
   ·exact rfl
   ·exact tnest hr8
   ·exact .nil
  have hst1:=cellsT_still (r+1)
  refine go (r:=?_);and_intros<;>intros<;>try exact True.intro
  all_goals first|exact Re.same rfl hst1
 have hA:=A4_ok.2.1 k (by omega)
 have hkl:=tabL_len (tA r) k
 have hval:(A4.getD k default).getD r 0=tA r k:=rfl
 have hA2:(A4.getD ((k:Nat):Int).toNat default).length=4:=hA
 have hAl:A4.length=4:=rfl
 have hval2:(A4.getD ((k:Nat):Int).toNat default).getD ((r:Nat):Int).toNat 0=tA r k:=rfl
 rcases k with _|k
 ·refine go (r:=?_);and_intros<;>intros<;>try exact True.intro
  all_goals first|exact Re.any Re.nil|exact .inl rfl|(rw [hval];rfl)|(rw [hval2];rfl)|(apply Re.setA (c:=cellsT r) (V:=.own 2 _ 0 _) (V':=.own 2 _ 0 _);(· apply Re.own (id:=2)<;>first|exact rfl|exact .nil);exact hst)|exact Re.same rfl hst
 ·refine go (r:=?_);and_intros<;>intros<;>try exact True.intro
  all_goals first|(rw [tabL_snoc _ (k+1),hval];done)|(rw [tabL_snoc _ (k+1),hval2];done)|(rw [tabL_snoc _ (k+1),←hval2];rfl)|exact Re.any Re.nil|(apply Re.setA (c:=cellsT r) (V:=.own 2 _ 0 _) (V':=.own 2 _ 0 _);(· apply Re.own (id:=2)<;>first|exact rfl|exact .nil);exact hst)⟩
end
end Go.Proofs.YtainhhfnnclfiaaGreat


namespace Go.Proofs.YtainhhfnnclfiaaGreat
open Go Go.Abs
attribute [local irreducible] WpA WpL Rnd Blk Abs.Seq Abs.Fin Abs.FinG FnC FnG Only
theorem T4_row {r:Nat} (h:r<4):T4.getD r default=tabL (tA r) 4:=by simp [T4,h]
theorem gOf_T4 {r i:Nat} (h:r<4) (h2:i<4):gOf T4 r i=mx 4 i r:=by rw [gOf,T4_row h,tabL_get h2];rfl
theorem T4_ok:MatOk 4 T4:=by
 refine ⟨by simp [T4],fun r hr=>by rw [T4_row hr,tabL_len],fun r i=>?_⟩
 by_cases h:r<4
 ·by_cases h2:i<4
  ·rw [gOf_T4 h h2];exact mx_val 4 i r
  ·right;right;left
   rw [gOf,T4_row h,List.getD_eq_getElem?_getD,List.getElem?_eq_none (by rw [tabL_len];omega)];rfl
 ·right;right;left
  have:T4.getD r default=[]:=by rw [List.getD_eq_getElem?_getD,List.getElem?_eq_none (by simp [T4];omega)];rfl
  rw [gOf,this];rfl
theorem trT4 (l:List Int):prodL 4 (gOf T4) l=trL 4 true l:=prodL_congr (by decide) fun r i hr hi=>gOf_T4 hr hi
theorem trH8b (l:List Int):prodL 8 (gOf H8) l=trL 8 true l:=prodL_congr (by decide) fun r i hr hi=>by
 rw [gOf_H8 hr hi]
 show par (r &&& i)=par (i &&& r)
 rw [Nat.and_comm]
instance Inverse4_c:Con 259 (∀ l:List Int,l.length≤1099511627776→Fn 259 [IL l] [XI (trL 4 true l)] (.own 0 0 0 (trL 4 true l).length)):=⟨fun l h=>by
 have hA:=T4_ok
 rw [←trT4]
 refine FnC.of_body tabOk Tryz.func259 Tryz.ntmps259 rfl (by decide +kernel) (by simp) fun G=>?_
 refine go (r:=?_);and_intros<;>intros<;>try exact True.intro
 refine K.call ?_
 refine K.con (fun hcon=>?_)
 refine WpL.callF (hcon 4 T4 l ⟨by decide,hA,h⟩) snapA locA outA rfl rfl rfl (by decide) ?_
 refine go (r:=?_);and_intros<;>intros<;>try exact True.intro⟩
instance Inverse8_c:Con 260 (∀ l:List Int,l.length≤1099511627776→Fn 260 [IL l] [XI (trL 8 true l)] (.own 0 0 0 (trL 8 true l).length)):=⟨fun l h=>by
 have hA:=H8_ok
 rw [←trH8b]
 refine FnC.of_body tabOk Tryz.func260 Tryz.ntmps260 rfl (by decide +kernel) (by simp) fun G=>?_
 refine go (r:=?_);and_intros<;>intros<;>try exact True.intro
 refine K.call ?_
 refine K.con (fun hcon=>?_)
 refine WpL.callF (hcon 8 H8 l ⟨by decide,hA,h⟩) snapA locA outA rfl rfl rfl (by decide) ?_
 refine go (r:=?_);and_intros<;>intros<;>try exact True.intro⟩
theorem resL_b {q:Int} {l:List Int} (h:LvOk l∧0<stepL q):resL true q l=plcL l:=by unfold resL;rw [if_pos h,if_pos rfl]
theorem resL_t {q:Int} {l:List Int} (h:LvOk l∧0<stepL q):resL false q l=rndL (trL (side l.length) true (scaL (plcL l) q)):=by unfold resL;rw [if_pos h,if_neg (by decide)]
theorem resL_n {b:Bool} {q:Int} {l:List Int} (h:¬(LvOk l∧0<stepL q)):resL b q l=[]:=by unfold resL;rw [if_neg h]
theorem trLe4 (b:Bool) (l:List Int):(trL 4 b l).length≤64:=trL_le (by decide)
theorem trLe8 (b:Bool) (l:List Int):(trL 8 b l).length≤64:=trL_le (by decide)
instance ResidualOf_c:Con 198 (∀ (w h q:Int) (b d:Bool) (lens l:List Int),l.length≤1099511627776→Fn 198 [HdA w h q b d lens,IL l] [XI (resL b q l)] (.own 0 0 0 (resL b q l).length)):=⟨fun w h q b d lens l hl=>by
 have hsl:=stepL_pos q
 by_cases hok:LvOk l∧0<stepL q
 ·have h1:=hok.1
  have h2:=hok.2
  have h3:=hsl.1 h2
  have hlen:=hok.1.2
  have hp:=plcL_len2 hlen
  have hsc:=scaL_len (plcL l) q
  rw [if_pos ⟨plcL_ok h1,h2⟩,hp] at hsc
  have t4:=trLe4 true (scaL (plcL l) q)
  have t8:=trLe8 true (scaL (plcL l) q)
  cases b with
  |true=>
   rw [resL_b hok]
   refine FnC.of_body tabOk Tryz.func198 Tryz.ntmps198 rfl (by decide +kernel) (by simp) fun G=>?_
   refine go (r:=?_);and_intros<;>intros<;>try exact True.intro
   all_goals trace_state
  |false=>
   rw [resL_t hok]
   rcases hlen with e|e
   ·have e4:side l.length=4:=by rw [e];rfl
    have e5:side (scaL (plcL l) q).length=4:=by rw [hsc];exact e4
    rw [e4]
    refine FnC.of_body tabOk Tryz.func198 Tryz.ntmps198 rfl (by decide +kernel) (by simp) fun G=>?_
    refine go (r:=?_);and_intros<;>intros<;>try exact True.intro
    all_goals trace_state
   ·have e8:side l.length=8:=by rw [e];rfl
    have e5:side (scaL (plcL l) q).length=8:=by rw [hsc];exact e8
    rw [e8]
    refine FnC.of_body tabOk Tryz.func198 Tryz.ntmps198 rfl (by decide +kernel) (by simp) fun G=>?_
    refine go (r:=?_);and_intros<;>intros<;>try exact True.intro
    all_goals trace_state
 ·rw [resL_n hok]
  refine FnC.of_body tabOk Tryz.func198 Tryz.ntmps198 rfl (by decide +kernel) (by simp) fun G=>?_
  have hx:LvOk l→¬(0≤q∧q≤51):=fun a b=>hok ⟨a,hsl.2 b⟩
  by_cases h1:LvOk l
  ·have h2:=hx h1
   refine go (r:=?_);and_intros<;>intros<;>try exact True.intro
   all_goals trace_state
  ·refine go (r:=?_);and_intros<;>intros<;>try exact True.intro
   all_goals trace_state⟩
end Go.Proofs.YtainhhfnnclfiaaGreat


namespace Go.Proofs.YtainhhfnnclfiaaGreat
open Go Go.Abs
attribute [local irreducible] WpA WpL Rnd Blk Abs.Seq Abs.Fin Abs.FinG FnC FnG Only
theorem nb_lens {W H:Int} {p:List Int} {x y n:Int} (h:Fits W H p x y n):(topL W H p x y n).length≤1099511627776∧(lefL W H p x y n).length≤1099511627776:=by
 obtain ⟨h1,h2,h3,_⟩:=nb_ok h
 omega
theorem put_eq {W H:Int} {p:List Int} {q x y m:Int} {b:Bool} {lv:List Int} (h:PutOk W H p q x y m lv):putL W H p q b x y m lv=setL W H p x y (recL (predS m (topL W H p x y (side lv.length)) (lefL W H p x y (side lv.length)) (corL W H p x y (side lv.length)) (hasT W H p x y (side lv.length)) (hasE W H p x y (side lv.length)) (side lv.length)) (resL b q lv)):=if_pos h
theorem put_no {W H:Int} {p:List Int} {q x y m:Int} {b:Bool} {lv:List Int} (h:¬PutOk W H p q x y m lv):putL W H p q b x y m lv=p:=if_neg h
theorem fit0 {W H:Int} {p:List Int} {x y:Int}:¬Fits W H p x y (side 0):=fun h=>by
 have h1:side 0=0:=rfl
 have:=h.2.1
 omega
section
attribute [-instance] ResidualOf_c
instance PutRef_c:Con 138 (∀ (W H:Int) (p:List Int) (w h q:Int) (b d:Bool) (lens:List Int) (x y m:Int) (lv:List Int),p.length≤1099511627776∧lv.length≤1099511627776→Fn 138 [FrA W H p,HdA w h q b d lens,I x,I y,.agg [I m,IL lv]] [XI (putL W H p q b x y m lv)] (.tup [FrOwn 0 W H p.length,B (decide (PutOk W H p q x y m lv))])):=⟨fun W H p w h q b d lens x y m lv hl=>by
 obtain ⟨hpl,hll⟩:=hl
 have hrl:=resL_le b q lv
 have hmw:=modeW_nil m
 by_cases hok:LvOk lv∧0<stepL q
 ·have hrn:=resL_len (b:=b) hok
  have hr0:¬(resL b q lv).length=0:=by have:=hok.1.2;omega
  by_cases hf:Fits W H p x y (side lv.length)
  ·by_cases hm:0≤m∧m≤5
   ·have hp:PutOk W H p q x y m lv:=⟨hf,hok,hm⟩
    have hd:=decide_eq_true hp
    have hds:=decide_eq_true (put_set (b:=b) hp)
    unfold nbP at hds
    have hmw2:¬modeW m=[]:=fun hh=>(hmw.1 hh) hm
    have htw:=put_two (b:=b) hp
    unfold nbP at htw
    obtain ⟨hn1,hn2⟩:=nb_lens hf
    have hn3:=hf.2.1
    have hn4:=nb_ok hf
    have hpr:(predS m (topL W H p x y (side lv.length)) (lefL W H p x y (side lv.length)) (corL W H p x y (side lv.length)) (hasT W H p x y (side lv.length)) (hasE W H p x y (side lv.length)) (side lv.length)).length≤64:=by have:=htw.2;have:=hok.1.2;omega
    have hre:=recL_len (predS m (topL W H p x y (side lv.length)) (lefL W H p x y (side lv.length)) (corL W H p x y (side lv.length)) (hasT W H p x y (side lv.length)) (hasE W H p x y (side lv.length)) (side lv.length)) (resL b q lv)
    have hsl:=setL_len W H p x y (recL (predS m (topL W H p x y (side lv.length)) (lefL W H p x y (side lv.length)) (corL W H p x y (side lv.length)) (hasT W H p x y (side lv.length)) (hasE W H p x y (side lv.length)) (side lv.length)) (resL b q lv))
    rw [if_pos htw.1] at hre
    rw [put_eq hp,hd]
    rw [←hrn] at hf hds hn1 hn2 hn3 hn4 hpr hre hsl htw ⊢
    refine FnC.of_body tabOk Tryz.func138 Tryz.ntmps138 rfl (by decide +kernel) (by simp) fun G=>?_
    refine goR (r:=?_);and_intros<;>intros<;>try exact True.intro
    all_goals first|contradiction|omega|skip
    refine K.call ?_
    apply WpL.callI (ResidualOf_c.ok w h q b d lens lv hll)
    ·exact snapA
    ·exact locA
    ·exact outA
    ·exact frzA
    ·decide
    refine goR (r:=?_);and_intros<;>intros<;>try exact True.intro
    all_goals first|contradiction|omega|skip
    try dsimp only [List.append]
    apply WpA.regionNO 17 mixed (by decide +kernel)
    ·exact rfl
    ·exact rfl
    ·exact headNI
    ·exact trueA
    ·exact trueA
    ·exact rfl
    ·exact rfl
    ·exact rfl
    refine go (r:=?_);and_intros<;>intros<;>try exact True.intro
    all_goals first|contradiction|omega|exact hds
   ·have hd:=decide_eq_false (fun hh:PutOk W H p q x y m lv=>hm hh.2.2)
    have hmw2:modeW m=[]:=hmw.2 hm
    rw [put_no (of_decide_eq_false hd),hd]
    refine FnC.of_body tabOk Tryz.func138 Tryz.ntmps138 rfl (by decide +kernel) (by simp) fun G=>?_
    refine goR (r:=?_);and_intros<;>intros<;>try exact True.intro
    all_goals first|contradiction|omega|skip
    refine K.call ?_
    apply WpL.callI (ResidualOf_c.ok w h q b d lens lv hll)
    ·exact snapA
    ·exact locA
    ·exact outA
    ·exact frzA
    ·decide
    refine goR (r:=?_);and_intros<;>intros<;>try exact True.intro
    all_goals first|contradiction|omega
  ·have hd:=decide_eq_false (fun hh:PutOk W H p q x y m lv=>hf hh.1)
   rw [put_no (of_decide_eq_false hd),hd]
   rw [←hrn] at hf
   refine FnC.of_body tabOk Tryz.func138 Tryz.ntmps138 rfl (by decide +kernel) (by simp) fun G=>?_
   refine goR (r:=?_);and_intros<;>intros<;>try exact True.intro
   all_goals first|contradiction|omega|skip
   refine K.call ?_
   apply WpL.callI (ResidualOf_c.ok w h q b d lens lv hll)
   ·exact snapA
   ·exact locA
   ·exact outA
   ·exact frzA
   ·decide
   refine goR (r:=?_);and_intros<;>intros<;>try exact True.intro
   all_goals first|contradiction|omega
 ·have hd:=decide_eq_false (fun hh:PutOk W H p q x y m lv=>hok hh.2.1)
  have hrn:=resL_n (b:=b) hok
  have hr0:(resL b q lv).length=0:=by rw [hrn];rfl
  have hf0:¬Fits W H p x y (side 0):=fit0
  rw [put_no (of_decide_eq_false hd),hd]
  refine FnC.of_body tabOk Tryz.func138 Tryz.ntmps138 rfl (by decide +kernel) (by simp) fun G=>?_
  refine goR (r:=?_);and_intros<;>intros<;>try exact True.intro
  all_goals first|contradiction|omega|skip
  refine K.call ?_
  apply WpL.callI (ResidualOf_c.ok w h q b d lens lv hll)
  ·exact snapA
  ·exact locA
  ·exact outA
  ·exact frzA
  ·decide
  rw [hrn]
  refine goR (r:=?_);and_intros<;>intros<;>try exact True.intro
  all_goals first|contradiction|omega
 ⟩
end
end Go.Proofs.YtainhhfnnclfiaaGreat


namespace Go.Proofs.YtainhhfnnclfiaaGreat
open Go Go.Abs
attribute [local irreducible] WpA WpL Rnd Blk Abs.Seq Abs.Fin Abs.FinG FnC FnG Only
theorem any_at {α:Type} [Inhabited α] {p:α→Bool} {l:List α} {i:Nat} (hi:i<l.length) (h:p (l.getD i default)=true):l.any p=true:=
 List.any_eq_true.2 ⟨l.getD i default,by simp [hi],h⟩
theorem any_none {α:Type} [Inhabited α] {p:α→Bool} {l:List α} (h:∀j<l.length,p (l.getD j default)=false):l.any p=false:=by
 rw [List.any_eq_false]
 intro x hx
 obtain ⟨j,hj,rfl⟩:=List.getElem_of_mem hx
 have:=h j hj
 have e:l.getD j default=l[j]:=by simp [hj]
 rw [e] at this;simp [this]
def sz8 (e:Bool):Int:=bif e then 8 else 4
def nm8 (e:Bool):Int:=bif e then 1 else 4
theorem sz8_cases (e:Bool):(sz8 e=4∧nm8 e=4)∨(sz8 e=8∧nm8 e=1):=by cases e<;>simp [sz8,nm8]
instance l23Side_s:Con 86 (∀ e:Bool,Fn 86 [B e] [] (I (sz8 e))):=⟨fun e=>by
 cases e
 ·refine FnC.of_body tabOk Tryz.func86 Tryz.ntmps86 rfl (by decide +kernel) (by simp) fun G=>?_
  refine go (r:=?_);and_intros<;>intros<;>try exact True.intro
  all_goals rfl
 ·refine FnC.of_body tabOk Tryz.func86 Tryz.ntmps86 rfl (by decide +kernel) (by simp) fun G=>?_
  refine go (r:=?_);and_intros<;>intros<;>try exact True.intro
  all_goals rfl⟩
instance shape_c:Con 192 (∀ e:Bool,Fn 192 [B e] [] (.tup [I (nm8 e),I (sz8 e)])):=⟨fun e=>by
 cases e
 ·refine FnC.of_body tabOk Tryz.func192 Tryz.ntmps192 rfl (by decide +kernel) (by simp) fun G=>?_
  refine go (r:=?_);and_intros<;>intros<;>try exact True.intro
  all_goals rfl
 ·refine FnC.of_body tabOk Tryz.func192 Tryz.ntmps192 rfl (by decide +kernel) (by simp) fun G=>?_
  refine go (r:=?_);and_intros<;>intros<;>try exact True.intro
  all_goals rfl⟩
abbrev MbkOk (e:Bool) (bs:List Blok) (lens:List Int):Prop:=(bs.length:Int)=nm8 e∧bs.any (badB lens (sz8 e))=false
instance MbOk_s:Con 78 (∀ (e:Bool) (bs:List Blok) (lens:List Int),bs.length≤1099511627776∧SmB 1099511627776 bs∧lens.length≤1099511627776→Fn 78 [.agg [B e,BkL bs],IL lens] [] (B (decide (MbkOk e bs lens)))):=⟨fun e bs lens hl=>by
 have hc:=sz8_cases e
 refine FnC.of_body tabOk Tryz.func78 Tryz.ntmps78 rfl (by decide +kernel) (by simp) fun G=>?_
 refine go (r:=?_);and_intros<;>intros<;>try exact True.intro
 refine WpA.loop (fun k:Nat=>⟨[(1,IL lens),(2,.ptr 0 0 0),(5,I (sz8 e)),(6,I k)],[⟨[B e,BkL bs],0,0,none⟩]⟩) (fun k=>k≤bs.length∧∀j<k,badB lens (sz8 e) (bs.getD j default)=false) (fun k=>bs.length-k) 0 (by simp) (go (r:=?_)) (fun k hk=>?_)
 ·trivial
 have hg:=fun h=>smB_get hl.2.1 (k:=k) h
 have hnn:sz8 e*sz8 e=16∨sz8 e*sz8 e=64:=by rcases hc with ⟨h,_⟩|⟨h,_⟩<;>rw [h]<;>decide
 have hq:64/(sz8 e*sz8 e)=nm8 e:=by rcases hc with ⟨h,h2⟩|⟨h,h2⟩<;>rw [h,h2]<;>decide
 refine go (r:=?_);and_intros<;>intros<;>try exact True.intro
 ·have:bs.any (badB lens (sz8 e))=true:=any_at (i:=k) (by omega) (by unfold badB;exact decide_eq_true ‹_›)
  simp [this]
 ·rename_i j hj;by_cases h:j=k
  ·subst h;unfold badB;exact decide_eq_false (fun hh=>hh ‹BlkOk _ _ _ _›)
  ·exact hk.2 j (by omega)
 all_goals have e2:k=bs.length:=by omega
 all_goals subst e2
 have:=any_none (p:=badB lens (sz8 e)) hk.2
 rw [hq];simp [this]⟩
def badM (lens:List Int) (m:Mbk):Bool:=decide (¬ MbkOk m.1 m.2 lens)
abbrev StC (w h q:Int) (b d:Bool) (l:List Int) (M:List Mbk):List AV:=[I w,I h,I q,B b,B d,IL l,MbL M]
abbrev StOk (w h q:Int) (l:List Int) (M:List Mbk):Prop:=HdOk w h q l∧(M.length:Int)=cntM w h∧M.any (badM l)=false
instance StreamOk_s:Con 27 (∀ (w h q:Int) (b d:Bool) (l:List Int) (M:List Mbk),l.length≤1099511627776∧M.length≤1099511627776∧SmM 1099511627776 M→Fn 27 [StA w h q b d l M] [] (B (decide (StOk w h q l M)))):=⟨fun w h q b d l M hl=>by
 refine FnC.of_body tabOk Tryz.func27 Tryz.ntmps27 rfl (by decide +kernel) (by simp) fun G=>?_
 by_cases h0:HdOk w h q l
 ·have hcb:=cntM_bd h0.1
  refine go (r:=?_);and_intros<;>intros<;>try exact True.intro
  all_goals first|(exact absurd h0 (by assumption))|skip
  refine WpA.loop (fun k:Nat=>⟨[(1,.ptr 0 0 0),(3,I k)],[⟨StC w h q b d l M,0,0,none⟩]⟩) (fun k=>k≤M.length∧∀j<k,badM l (M.getD j default)=false) (fun k=>M.length-k) 0 (by simp) (go (r:=?_)) (fun k hk=>?_)
  ·trivial
  have hg:=fun h=>(smM_get hl.2.2 (k:=k) h).1
  have hg2:=fun h=>(smM_get hl.2.2 (k:=k) h).2
  refine go (r:=?_);and_intros<;>intros<;>try exact True.intro
  ·exact hg2 (by omega)
  ·have:M.any (badM l)=true:=any_at (i:=k) (by omega) (by unfold badM;exact decide_eq_true ‹_›)
   simp [this]
  ·rename_i j hj;by_cases h:j=k
   ·subst h;unfold badM;exact decide_eq_false (fun hh=>hh ‹MbkOk _ _ _›)
   ·exact hk.2 j (by omega)
  all_goals have e2:k=M.length:=by omega
  all_goals subst e2
  have:=any_none (p:=badM l) hk.2
  simp [this,h0]
 ·refine go (r:=?_);and_intros<;>intros<;>try exact True.intro
  all_goals simp [StOk,h0]⟩
def pk (l:List Int):Nat→List (Int×Int)×Int
 |0=>([],0)
 |k+1=>if l.getD k 0=0 then ((pk l k).1,(pk l k).2+1) else ((pk l k).1++[((pk l k).2,l.getD k 0)],0)
def prsL (l:List Int):List (Int×Int):=if LvOk l then (pk l l.length).1 else []
end Go.Proofs.YtainhhfnnclfiaaGreat


namespace Go.Proofs.YtainhhfnnclfiaaGreat
open Go Go.Abs
attribute [local irreducible] WpA WpL Rnd Blk Abs.Seq Abs.Fin Abs.FinG FnC FnG Only
instance FrameNew_c:Con 132 (∀ W H:Int,SidesOk W H→Fn 132 [I W,I H] [XI (List.replicate (W*H).toNat 0)] (FrOwn 0 W H (W*H).toNat)):=⟨fun W H h=>by
 have h1:8*8≤W*H:=Int.mul_le_mul h.1 h.2.2.1 (by omega) (by have:=h.1;omega)
 have h2:W*H≤32*32:=Int.mul_le_mul h.2.1 h.2.2.2.1 (by have:=h.2.2.1;omega) (by omega)
 refine FnC.of_body tabOk Tryz.func132 Tryz.ntmps132 rfl (by decide +kernel) (by simp) fun G=>?_
 refine go (r:=?_);and_intros<;>intros<;>try exact True.intro
 all_goals first|contradiction⟩
def plc1 (w n:Int) (k i:Nat):Int×Int×Int:=((k:Int)%(w/8)*8+(i:Int)%2*4,(k:Int)/(w/8)*8+(i:Int)/2*4,n)
def plsL (w n:Int) (k:Nat) (many:Nat):List (Int×Int×Int):=(List.range many).map (plc1 w n k)
theorem plsL_len (w n:Int) (k many:Nat):(plsL w n k many).length=many:=by simp [plsL]
theorem plsL_snoc (w n:Int) (k many:Nat):plsL w n k (many+1)=plsL w n k many++[plc1 w n k many]:=by simp [plsL,List.range_succ]
abbrev manyE (e:Bool):Nat:=cond e 1 4
instance placesOf_c:Con 134 (∀ (w h q:Int) (b d:Bool) (lens:List Int) (k:Nat) (e:Bool),8≤w∧w≤1024∧k≤1048576→Fn 134 [HdA w h q b d lens,I k,B e] [⟨rows plF (plsL w (sz8 e) k (manyE e)),0,3,some 149⟩] (.own 0 0 0 (manyE e))):=⟨fun w h q b d lens k e hh=>by
 have hw8:1≤w/8∧w/8≤128:=by omega
 have hr0:0≤(k:Int)%(w/8)∧(k:Int)%(w/8)≤1048576:=⟨Int.emod_nonneg _ (by omega),by have:=Int.emod_lt_of_pos (k:Int) (show 0<w/8 by omega);omega⟩
 have hq0:0≤(k:Int)/(w/8)∧(k:Int)/(w/8)≤1048576:=⟨Int.ediv_nonneg (by omega) (by omega),by have:=Int.ediv_le_self (w/8) (show 0≤(k:Int) by omega);omega⟩
 refine FnC.of_body tabOk Tryz.func134 Tryz.ntmps134 rfl (by decide +kernel) (by simp) fun G=>?_
 refine go (r:=?_);and_intros<;>intros<;>try exact True.intro
 all_goals first|contradiction|omega|skip
 refine WpA.loop (fun i:Nat=>⟨[(1,I k),(3,.ptr 0 0 0),(8,I (sz8 e)),(9,.own 1 0 0 i),(17,I (nm8 e)),(18,I i)],[⟨[I w,I h,I q,B b,B d,IL lens],0,0,none⟩,⟨rows plF (plsL w (sz8 e) k i),0,3,some 149⟩]⟩) (fun i=>i≤manyE e) (fun i=>manyE e-i) 0 (Nat.zero_le _) (go (r:=?_)) (fun i hi=>?_)
 ·and_intros<;>first|exact True.intro|rfl
 have hlen:=plsL_len w (sz8 e) k i
 have hsn:=plsL_snoc w (sz8 e) k i
 have hmn:nm8 e=(manyE e:Nat):=by cases e<;>rfl
 have hm4:manyE e≤4:=by cases e<;>decide
 by_cases hlt:i<manyE e
 ·refine go (r:=?_);and_intros<;>intros<;>try exact True.intro
  all_goals first|contradiction|omega|(rw [hsn];cases e<;>rfl)
 ·obtain rfl:i=manyE e:=by omega
  refine go (r:=?_);and_intros<;>intros<;>try exact True.intro
  all_goals first|contradiction|omega⟩
end Go.Proofs.YtainhhfnnclfiaaGreat


namespace Go.Proofs.YtainhhfnnclfiaaGreat
open Go Go.Abs
attribute [local irreducible] WpA WpL Rnd Blk Abs.Seq Abs.Fin Abs.FinG FnC FnG Only
def endL (W H q:Int) (d:Bool) (p:List Int):List Int:=cond d (dbL W H q p) p
theorem endL_ok {W H q:Int} {d:Bool} {p:List Int} (h:FrameOk W H p):FrameOk W H (endL W H q d p):=by
 cases d
 ·exact h
 ·exact dbL_ok h
theorem ended1 (W H w h q:Int) (b:Bool) (lens p:List Int) (hl:p.length≤1099511627776):Fn 139 [HdA w h q b true lens,FrA W H p] [IN (dbL W H q p)] (FrOwn 0 W H p.length):=by
 have hdl:=dbL_len W H q p
 refine FnC.of_body tabOk Tryz.func139 Tryz.ntmps139 rfl (by decide +kernel) (by simp) fun G=>?_
 refine go (r:=?_);and_intros<;>intros<;>try exact True.intro
 all_goals first|contradiction|omega
theorem ended0 (W H w h q:Int) (b:Bool) (lens p:List Int):Fn 139 [HdA w h q b false lens,FrA W H p] [] (FrA W H p):=by
 refine FnC.of_body tabOk Tryz.func139 Tryz.ntmps139 rfl (by decide +kernel) (by simp) fun G=>?_
 refine go (r:=?_);and_intros<;>intros<;>try exact True.intro
 all_goals first|contradiction|omega
theorem ended_c (W H w h q:Int) (b d:Bool) (lens p:List Int) (hl:p.length≤1099511627776):Fn 139 [HdA w h q b d lens,FrA W H p] [] (FrA W H (endL W H q d p)):=by
 cases d with
 |false=>exact ended0 W H w h q b lens p
 |true=>exact FnC.still (ended1 W H w h q b lens p hl) (.agg (.keep rfl rfl (.keep rfl rfl (.own rfl rfl rfl (by simp [dbL_len]) (dbL_len W H q p).symm (Snap.same rfl (still_ints _) (nofre_ints _)) .nil))) .nil)
def bldB (W H q:Int) (b:Bool) (n:Int) (k:Nat) (bs:List Blok) (p:List Int):Nat→List Int
 |0=>p
 |i+1=>putL W H (bldB W H q b n k bs p i) q b (plc1 W n k i).1 (plc1 W n k i).2.1 (bs.getD i default).1 (bs.getD i default).2
def bldM (W H q:Int) (b:Bool) (M:List Mbk) (p:List Int):Nat→List Int
 |0=>p
 |k+1=>bldB W H q b (sz8 (M.getD k default).1) k (M.getD k default).2 (bldM W H q b M p k) (manyE (M.getD k default).1)
def zerP (W H:Int):List Int:=List.replicate (W*H).toNat 0
def refL (W H q:Int) (b d:Bool) (M:List Mbk):List Int:=endL W H q d (bldM W H q b M (zerP W H) M.length)
section
attribute [local irreducible] bldB bldM putL endL
attribute [-instance] FrameNew_c placesOf_c
end
end Go.Proofs.YtainhhfnnclfiaaGreat


namespace Go.Proofs.YtainhhfnnclfiaaGreat
open Go Go.Abs
theorem par_u (b:Nat):par b=1∨par b=-1:=by unfold par;split<;>simp
theorem mul1 {a b c:Int} (ha:a=1∨a=-1) (hb:-c≤b∧b≤c):-c≤a*b∧a*b≤c:=by rcases ha with rfl|rfl<;>omega
theorem full_bd4 {l:List Int} (h:In l (-255) 255) (r k:Nat):-16383≤fullM 4 (mg 4 false) l r k∧fullM 4 (mg 4 false) l r k≤16383:=by
 have h1:∀r k,-2040≤halfM 4 (mg 4 false) l r k∧halfM 4 (mg 4 false) l r k≤2040:=fun r k=>by
  have:=half_bd (n:=4) (mg_val 4 false) (c:=255) h (by decide) r k 4
  unfold halfM;omega
 have:=sumF_bd (f:=fun i=>halfM 4 (mg 4 false) l r i*mg 4 false k i) (c:=4080) (by decide) 4 fun i _=>by
  have:=mul2 (mg_val 4 false k i) (h1 r i) (by decide)
  rw [Int.mul_comm];omega
 unfold fullM;omega
theorem full_bd8 {l:List Int} (h:In l (-255) 255) (r k:Nat):-16383≤fullM 8 (mg 8 false) l r k∧fullM 8 (mg 8 false) l r k≤16383:=by
 have hg:∀r i,mg 8 false r i=1∨mg 8 false r i=-1:=fun r i=>par_u _
 have h1:∀r k,-2040≤halfM 8 (mg 8 false) l r k∧halfM 8 (mg 8 false) l r k≤2040:=fun r k=>by
  have:=sumF_bd (f:=fun i=>mg 8 false r i*l.getD (i*8+k) 0) (c:=255) (by decide) 8 fun i _=>mul1 (hg r i) (in_getZ h (by decide) _)
  unfold halfM;omega
 have:=sumF_bd (f:=fun i=>halfM 8 (mg 8 false) l r i*mg 8 false k i) (c:=2040) (by decide) 8 fun i _=>by
  rw [Int.mul_comm];exact mul1 (hg k i) (h1 r i)
 unfold fullM;omega
theorem scn_in {l:List Int} {c:Int} (h:In l (-c) c) (hc:0≤c):In (scnL l) (-c) c:=by
 unfold In scnL
 intro x hx
 obtain ⟨p,_,rfl⟩:=List.mem_map.1 hx
 exact in_getZ h hc _
theorem in_wide {l:List Int} {a b c d:Int} (h:In l a b) (h1:c≤a) (h2:b≤d):In l c d:=by
 unfold In at h ⊢
 exact fun x hx=>by have:=h x hx;omega
theorem in_tab {f:Nat→Int} {N:Nat} {a b:Int} (h:∀i,i<N→a≤f i∧f i≤b):In (tabL f N) a b:=by
 unfold In tabL
 intro x hx
 obtain ⟨i,hi,rfl⟩:=List.mem_map.1 hx
 exact h i (List.mem_range.1 hi)
theorem scn_ok {l:List Int} (h:l.length=16∨l.length=64) (hi:In l (-16383) 16383):LvOk (scnL l):=by
 refine ⟨scn_in hi (by decide),?_⟩
 rw [scnL_len,(scan_facts h).1];exact h
theorem tr_small {r:List Int} {n:Int} (hs:side r.length=n) (h:r.length=16∨r.length=64) (hr:In r (-255) 255):trL n false r=mulM n.toNat (mg n.toNat false) r∧(trL n false r).length=r.length∧In (trL n false r) (-16383) 16383:=by
 have hf:FitM r:=in_wide hr (by decide) (by decide)
 rcases h with e|e
 ·have:n=4:=by rw [←hs,e];rfl
  subst this
  have e1:trL 4 false r=mulM 4 (mg 4 false) r:=trL_yes (.inl rfl) ⟨hf,by omega⟩
  refine ⟨e1,?_,?_⟩
  ·rw [e1,e];exact tabL_len _ _
  ·rw [e1];exact in_tab fun i _=>full_bd4 hr _ _
 ·have:n=8:=by rw [←hs,e];rfl
  subst this
  have e1:trL 8 false r=mulM 8 (mg 8 false) r:=trL_yes (.inr rfl) ⟨hf,by omega⟩
  refine ⟨e1,?_,?_⟩
  ·rw [e1,e];exact tabL_len _ _
  ·rw [e1];exact in_tab fun i _=>full_bd8 hr _ _
theorem lev_ok {b:Bool} {q:Int} {l r:List Int} (ho:OptOk q l) (h:r.length=16∨r.length=64) (hr:In r (-255) 255):LvOk (levL b q l r):=by
 have hf:FitM r:=in_wide hr (by decide) (by decide)
 unfold levL
 rw [if_pos ⟨ho,(side_pos _).2 h,hf⟩]
 split
 ·refine scn_ok (by rw [List.length_map];exact h) ?_
  unfold In;intro x hx;obtain ⟨v,_,rfl⟩:=List.mem_map.1 hx;unfold clampL;omega
 ·obtain ⟨h1,h2,h3⟩:=tr_small (n:=side r.length) rfl h hr
  have hq:(quantL (trL (side r.length) false r) q).length=r.length:=by
   unfold quantL;rw [if_pos ⟨by rw [h2];exact (side_pos _).2 h,(stepL_pos q).2 ho.1⟩,List.length_map,h2]
  refine scn_ok (by rw [hq];exact h) ?_
  unfold quantL;rw [if_pos ⟨by rw [h2];exact (side_pos _).2 h,(stepL_pos q).2 ho.1⟩]
  unfold In;intro x hx;obtain ⟨v,_,rfl⟩:=List.mem_map.1 hx;unfold qz;omega
end Go.Proofs.YtainhhfnnclfiaaGreat
