/- Proved in this text: lemmas and contracts of functions that the claim uses (parts: PutR, Spt, FrN, EncZ, EncC, EnsS, PutM, EnsX, Bridge, Read, Read2, Read3). No condition. -/
import Derived.Test.YtainhhfnnclfiaaGreatEsM14
import Derived.Test.YtainhhfnnclfiaaGreatEsM17
import Derived.Test.YtainhhfnnclfiaaGreatEsM13
import Derived.Test.YtainhhfnnclfiaaGreatEsM15
import Derived.Test.YtainhhfnnclfiaaGreatEsM9
import Derived.Test.YtainhhfnnclfiaaGreatEsM16
import Derived.Test.YtainhhfnnclfiaaGreatEsM2
import Derived.Below
import Derived.ChangeArms
import Derived.Test.YtainhhfnnclfiaaGreatEsM3
set_option linter.unusedVariables false
set_option linter.unusedSimpArgs false
set_option maxRecDepth 100000
set_option maxHeartbeats 16000000


namespace Go.Proofs.YtainhhfnnclfiaaGreat
open Go Go.Abs
attribute [local irreducible] WpA WpL Rnd Blk Abs.Seq Abs.Fin Abs.FinG FnC FnG Only
section
attribute [-instance] ResidualOf_s
instance PutRef_s:Con 92 (∀ (W H:Int) (p:List Int) (w h q:Int) (b d:Bool) (lens:List Int) (x y m:Int) (lv:List Int),p.length≤1099511627776∧lv.length≤1099511627776→Fn 92 [FrA W H p,HdA w h q b d lens,I x,I y,.agg [I m,IL lv]] [XI (putL W H p q b x y m lv)] (.tup [FrOwn 0 W H p.length,B (decide (PutOk W H p q x y m lv))])):=⟨fun W H p w h q b d lens x y m lv hl=>by
 obtain ⟨hpl,hll⟩:=hl
 have hrl:=resL_le b q lv
 have hmw:=modeW_nil m
 by_cases hok:LvOk lv∧0<stepL q
 ·have hrn:=resL_len (b:=b) hok
  have hr0:¬(resL b q lv).length=0:=by have:=hok.1.2;omega
  by_cases hf:Fits W H p x y (side lv.length)
  ·by_cases hm:0≤m∧m≤5
   ·have hp:PutOk W H p q x y m lv:=⟨hf,hok,hm⟩
    have hd:=decide_eq_true hp
    have hds:=decide_eq_true (put_set (b:=b) hp)
    unfold nbP at hds
    have hmw2:¬modeW m=[]:=fun hh=>(hmw.1 hh) hm
    have htw:=put_two (b:=b) hp
    unfold nbP at htw
    obtain ⟨hn1,hn2⟩:=nb_lens hf
    have hn3:=hf.2.1
    have hn4:=nb_ok hf
    have hpr:(predS m (topL W H p x y (side lv.length)) (lefL W H p x y (side lv.length)) (corL W H p x y (side lv.length)) (hasT W H p x y (side lv.length)) (hasE W H p x y (side lv.length)) (side lv.length)).length≤64:=by have:=htw.2;have:=hok.1.2;omega
    have hre:=recL_len (predS m (topL W H p x y (side lv.length)) (lefL W H p x y (side lv.length)) (corL W H p x y (side lv.length)) (hasT W H p x y (side lv.length)) (hasE W H p x y (side lv.length)) (side lv.length)) (resL b q lv)
    have hsl:=setL_len W H p x y (recL (predS m (topL W H p x y (side lv.length)) (lefL W H p x y (side lv.length)) (corL W H p x y (side lv.length)) (hasT W H p x y (side lv.length)) (hasE W H p x y (side lv.length)) (side lv.length)) (resL b q lv))
    rw [if_pos htw.1] at hre
    rw [put_eq hp,hd]
    skip
    refine FnC.of_body tabOk Tryz.func92 Tryz.ntmps92 rfl (by decide +kernel) (by simp) fun G=>?_
    refine goR (r:=?_);and_intros<;>intros<;>try exact True.intro
    all_goals first|contradiction|omega|skip
    refine K.call ?_
    apply WpL.callI (ResidualOf_s.ok w h q b d lens lv hll)
    ·exact snapA
    ·exact locA
    ·exact outA
    ·exact frzA
    ·decide
    refine goR (r:=?_);and_intros<;>intros<;>try exact True.intro
    all_goals first|contradiction|omega|skip
    generalize hX:setL W H p x y (recL (predS m (topL W H p x y (side lv.length)) (lefL W H p x y (side lv.length)) (corL W H p x y (side lv.length)) (hasT W H p x y (side lv.length)) (hasE W H p x y (side lv.length)) (side lv.length)) (resL b q lv))=X at hsl ⊢
    try dsimp only [List.append]
    apply WpA.regionRF (O:=[FrO W H p,⟨[I w,I h,I q,B b,B d,IL lens],0,0,none⟩,⟨[I m,IL lv],0,0,none⟩,⟨[I 0,I 0,.nilS],0,0,none⟩]) (Or:=[]) (O1:=[FrO W H p,⟨[I w,I h,I q,B b,B d,IL lens],0,0,none⟩,⟨[I m,IL lv],0,0,none⟩,⟨[I 0,I 0,.nilS],0,0,none⟩,⟨ints X,1,1,some 3⟩,⟨[I W,I H,.own 4 1 0 p.length],1,0,none⟩,deadO,deadO]) 20 2 [] [1] rfl mixed (by decide +kernel)
    ·exact rfl
    ·apply HeadR.consF .none rfl
     ·exact rfl
     ·exact rfl
     ·exact in1
     ·exact rfl
     ·exact rfl
     apply HeadR.consF .none rfl
     ·exact rfl
     ·exact rfl
     ·exact in1
     ·exact rfl
     ·exact rfl
     apply HeadR.consF .none rfl
     ·exact rfl
     ·exact rfl
     ·exact in1
     ·exact rfl
     ·exact rfl
     apply HeadR.consF .none rfl
     ·exact rfl
     ·exact rfl
     ·exact in1
     ·exact rfl
     ·exact rfl
     apply HeadR.consF .none rfl
     ·exact rfl
     ·exact rfl
     ·exact in1
     ·exact rfl
     ·exact rfl
     apply HeadR.consF .none rfl
     ·exact rfl
     ·exact rfl
     ·exact in1
     ·exact rfl
     ·exact rfl
     apply HeadR.consF .none rfl
     ·exact rfl
     ·exact rfl
     ·exact in1
     ·exact rfl
     ·exact rfl
     apply HeadR.consF .none rfl
     ·exact rfl
     ·exact rfl
     ·exact in1
     ·exact rfl
     ·exact rfl
     apply HeadR.consF .none rfl
     ·exact rfl
     ·exact rfl
     ·exact in1
     ·exact rfl
     ·exact rfl
     apply HeadR.consF .none rfl
     ·exact rfl
     ·exact rfl
     ·intro Tv Ov hc2 hp9 hd9 hk9
      refine K.call ?_
      apply WpL.callI (NbAt_s.ok W H p x y (side lv.length) hpl)
      ·exact snapA
      ·exact locA
      ·exact outA
      ·exact frzA
      ·decide
      ·exact WpL.nil (Only.mk rfl)
     ·exact rfl
     ·exact rfl
     apply HeadR.consF .none rfl
     ·exact rfl
     ·exact rfl
     ·exact in1
     ·exact rfl
     ·exact rfl
     apply HeadR.consF .none rfl
     ·exact rfl
     ·exact rfl
     ·intro Tv Ov hc2 hp9 hd9 hk9
      refine K.call ?_
      apply WpL.callI (Pred_s.ok m (topL W H p x y (side lv.length)) (lefL W H p x y (side lv.length)) (corL W H p x y (side lv.length)) (hasT W H p x y (side lv.length)) (hasE W H p x y (side lv.length)) (side lv.length) ⟨hn1,hn2,by omega⟩)
      ·exact snapA
      ·exact locA
      ·exact outA
      ·exact frzA
      ·decide
      ·exact WpL.nil (Only.mk rfl)
     ·exact rfl
     ·exact rfl
     apply HeadR.consF .none rfl
     ·exact rfl
     ·exact rfl
     ·exact in1
     ·exact rfl
     ·exact rfl
     apply HeadR.consF .none rfl
     ·exact rfl
     ·exact rfl
     ·intro Tv Ov hc2 hp9 hd9 hk9
      refine K.call ?_
      apply WpL.callI (Recon_s.ok (predS m (topL W H p x y (side lv.length)) (lefL W H p x y (side lv.length)) (corL W H p x y (side lv.length)) (hasT W H p x y (side lv.length)) (hasE W H p x y (side lv.length)) (side lv.length)) (resL b q lv) ⟨by omega,by omega⟩)
      ·exact snapA
      ·exact locA
      ·exact outA
      ·exact frzA
      ·decide
      ·exact WpL.nil (Only.mk rfl)
     ·exact rfl
     ·exact rfl
     apply HeadR.consF (V:=.tup [.agg [I W,I H,.own 4 1 0 p.length],B true]) (.put 0 ⟨ints X,1,1,some 3⟩) rfl
     ·exact rfl
     ·exact rfl
     ·intro Tv Ov hc2 hp9 hd9 hk9
      subst hX
      refine K.call ?_
      have hcon:=SetBlock_s.ok W H p x y (recL (predS m (topL W H p x y (side lv.length)) (lefL W H p x y (side lv.length)) (corL W H p x y (side lv.length)) (hasT W H p x y (side lv.length)) (hasE W H p x y (side lv.length)) (side lv.length)) (resL b q lv)) ⟨hpl,by omega⟩
      rw [hsl,hds] at hcon
      refine WpL.callF hcon snapA locA outA (cnt_some _ 0) rfl rfl (by decide) ?_
      rw [Nat.zero_add]
      apply WpL.putV (p:=0)
      ·exact .tup (.agg (.keep rfl rfl (.keep rfl rfl (.own (by first|rfl|exact Nat.zero_add _) .nil))) (.keep rfl rfl .nil)) .nil
      ·exact hp9 0 _ rfl
      ·exact Nat.zero_le _
      ·exact rfl
      ·exact still_ints _
     ·exact rfl
     ·exact rfl
     apply HeadR.consF .none rfl
     ·exact rfl
     ·exact rfl
     ·exact in1
     ·exact rfl
     ·exact rfl
     apply HeadR.consF .none rfl
     ·exact rfl
     ·exact rfl
     ·exact in1
     ·exact rfl
     ·exact rfl
     apply HeadR.consF .none rfl
     ·exact rfl
     ·exact rfl
     ·exact in1
     ·exact rfl
     ·exact rfl
     apply HeadR.consF (V:=.ptr 5 1 0) (.put 1 ⟨[I 0,I 0,.nilS],1,0,none⟩) rfl
     ·exact rfl
     ·exact rfl
     ·intro Tv Ov hc2 hp9 hd9 hk9
      refine WpL.allocStruct tabOk rfl (nid_len _ 0) (by decide) ?_
      apply WpL.putV (p:=1)
      ·exact .ptr (by first|rfl|exact Nat.zero_add _) .nil
      ·exact hp9 1 _ rfl
      ·exact Nat.zero_le _
      ·exact rfl
      ·exact rfl
     ·exact rfl
     ·exact rfl
     apply HeadR.consN (.step 1 ⟨[I W,I H,.own 4 1 0 p.length],1,0,none⟩) 1000
     ·exact rfl
     ·exact rfl
     ·intro Tv Ov hc2 hp9 hd9 hk9
      obtain ⟨A0,R0,rfl⟩:=split2 (hp9 1 _ rfl)
      have h0:=hd9 14 _ 0 _ (by decide) rfl rfl rfl
      simp only [List.getElem?_cons_zero,Option.some.injEq] at h0
      subst h0
      refine K.st ?_
      refine WpL.store tabOk rfl rfl rfl rfl rfl rfl rfl rfl (Nat.le_of_ble_eq_true rfl) ?_
      refine WpL.weak (Weak.any1 (d:=1000)) ?_
      exact WpL.nil (Only.mk rfl)
     ·exact rfl
     ·exact rfl
     exact HeadR.nil
    ·exact rfl
    ·exact rfl
    ·exact rfl
    ·exact rfl
    ·exact rfl
    ·exact rfl
    ·exact rfl
    refine go (r:=?_);and_intros<;>intros<;>try exact True.intro
    all_goals first|contradiction|omega|exact hds
   ·have hd:=decide_eq_false (fun hh:PutOk W H p q x y m lv=>hm hh.2.2)
    have hmw2:modeW m=[]:=hmw.2 hm
    rw [put_no (of_decide_eq_false hd),hd]
    refine FnC.of_body tabOk Tryz.func92 Tryz.ntmps92 rfl (by decide +kernel) (by simp) fun G=>?_
    refine goR (r:=?_);and_intros<;>intros<;>try exact True.intro
    all_goals first|contradiction|omega|skip
    refine K.call ?_
    apply WpL.callI (ResidualOf_s.ok w h q b d lens lv hll)
    ·exact snapA
    ·exact locA
    ·exact outA
    ·exact frzA
    ·decide
    refine goR (r:=?_);and_intros<;>intros<;>try exact True.intro
    all_goals first|contradiction|omega
  ·have hd:=decide_eq_false (fun hh:PutOk W H p q x y m lv=>hf hh.1)
   rw [put_no (of_decide_eq_false hd),hd]
   skip
   refine FnC.of_body tabOk Tryz.func92 Tryz.ntmps92 rfl (by decide +kernel) (by simp) fun G=>?_
   refine goR (r:=?_);and_intros<;>intros<;>try exact True.intro
   all_goals first|contradiction|omega|skip
   refine K.call ?_
   apply WpL.callI (ResidualOf_s.ok w h q b d lens lv hll)
   ·exact snapA
   ·exact locA
   ·exact outA
   ·exact frzA
   ·decide
   refine goR (r:=?_);and_intros<;>intros<;>try exact True.intro
   all_goals first|contradiction|omega
 ·have hd:=decide_eq_false (fun hh:PutOk W H p q x y m lv=>hok hh.2.1)
  have hrn:=resL_n (b:=b) hok
  have hr0:(resL b q lv).length=0:=by rw [hrn];rfl
  have hf0:¬Fits W H p x y (side 0):=fit0
  rw [put_no (of_decide_eq_false hd),hd]
  refine FnC.of_body tabOk Tryz.func92 Tryz.ntmps92 rfl (by decide +kernel) (by simp) fun G=>?_
  refine goR (r:=?_);and_intros<;>intros<;>try exact True.intro
  all_goals first|contradiction|omega|skip
  refine K.call ?_
  apply WpL.callI (ResidualOf_s.ok w h q b d lens lv hll)
  ·exact snapA
  ·exact locA
  ·exact outA
  ·exact frzA
  ·decide
  rw [hrn]
  refine goR (r:=?_);and_intros<;>intros<;>try exact True.intro
  all_goals first|contradiction|omega
 ⟩
end
end Go.Proofs.YtainhhfnnclfiaaGreat


namespace Go.Proofs.YtainhhfnnclfiaaGreat
open Go Go.Abs
attribute [local irreducible] WpA WpL Rnd Blk Abs.Seq Abs.Fin Abs.FinG FnC FnG Only
instance l25Spot_s:Con 87 (∀ (w h q:Int) (b d:Bool) (L:List Int) (k i:Nat) (e:Bool),(8≤w∧w≤1024∧k≤1048576)∧i<manyE e→Fn 87 [HdA w h q b d L,I k,I i,I (sz8 e)] [] (.tup [I (plc1 w (sz8 e) k i).1,I (plc1 w (sz8 e) k i).2.1])):=⟨fun w h q b d L k i e hl=>by
 obtain ⟨⟨hw,hw2,hk⟩,hi⟩:=hl
 have hw8:1≤w/8∧w/8≤128:=by omega
 have e1:w.tdiv 8=w/8:=Int.tdiv_eq_ediv_of_nonneg (by omega)
 have e2:(k:Int).tmod (w/8)=(k:Int)%(w/8):=Int.tmod_eq_emod_of_nonneg (by omega)
 have e3:(k:Int).tdiv (w/8)=(k:Int)/(w/8):=Int.tdiv_eq_ediv_of_nonneg (by omega)
 have hr0:0≤(k:Int)%(w/8)∧(k:Int)%(w/8)≤1048576:=⟨Int.emod_nonneg _ (by omega),by have:=Int.emod_lt_of_pos (k:Int) (show 0<w/8 by omega);omega⟩
 have hr1:0≤(k:Int)/(w/8)∧(k:Int)/(w/8)≤1048576:=⟨Int.ediv_nonneg (by omega) (by omega),by have:=Int.ediv_le_self (w/8) (show 0≤(k:Int) by omega);omega⟩
 unfold plc1
 cases e with
 |true=>
  have hi0:i<1:=hi
  simp only [sz8,cond_true]
  refine FnC.of_body tabOk Tryz.func87 Tryz.ntmps87 rfl (by decide +kernel) (by simp) fun G=>?_
  refine goR (r:=?_);and_intros<;>intros<;>try exact True.intro
  all_goals first|contradiction|omega|skip
  refine WpA.regionTB 17 mixed (by decide +kernel) ?_
  refine goR (r:=?_);and_intros<;>intros<;>try exact True.intro
  all_goals first|contradiction|omega
 |false=>
  have hi4:i<4:=hi
  simp only [sz8,cond_false]
  refine FnC.of_body tabOk Tryz.func87 Tryz.ntmps87 rfl (by decide +kernel) (by simp) fun G=>?_
  refine goR (r:=?_);and_intros<;>intros<;>try exact True.intro
  all_goals first|contradiction|omega|skip
  refine WpA.regionTB 17 mixed (by decide +kernel) ?_
  refine goR (r:=?_);and_intros<;>intros<;>try exact True.intro
  all_goals first|contradiction|omega⟩
end Go.Proofs.YtainhhfnnclfiaaGreat


namespace Go.Proofs.YtainhhfnnclfiaaGreat
open Go Go.Abs
attribute [local irreducible] WpA WpL Rnd Blk Abs.Seq Abs.Fin Abs.FinG FnC FnG Only
theorem wh_in {W H:Int} (h:SidesOk W H):64≤W*H∧W*H≤1024:=by
 have h1:8*8≤W*H:=Int.mul_le_mul h.1 h.2.2.1 (by omega) (by have:=h.1;omega)
 have h2:W*H≤32*32:=Int.mul_le_mul h.2.1 h.2.2.2.1 (by have:=h.2.2.1;omega) (by omega)
 omega
instance FrameNew_s:Con 85 (∀ W H:Int,SidesOk W H→Fn 85 [I W,I H] [XI (List.replicate (W*H).toNat 0)] (FrOwn 0 W H (W*H).toNat)):=⟨fun W H h=>by
 have hm:=wh_in h
 refine FnC.of_body tabOk Tryz.func85 Tryz.ntmps85 rfl (by decide +kernel) (by simp) fun G=>?_
 refine go (r:=?_);and_intros<;>intros<;>try exact True.intro
 all_goals first|contradiction⟩
end Go.Proofs.YtainhhfnnclfiaaGreat


namespace Go.Proofs.YtainhhfnnclfiaaGreat
open Go Go.Abs
attribute [local irreducible] WpA WpL Rnd Blk Abs.Seq Abs.Fin Abs.FinG FnC FnG Only
section
open Go.Abs
variable {P:Program} {n m:Nat} {G:Ctx} {ops:Array Oper} {T0:List (Nat×AV)}
theorem _root_.Go.Abs.HeadG.hole10 {fs fs2 O o l out ks ds Os O' F d V ob} (hd:o.dst=some d) (hm:mayStep o=false) (hO:O[10]?=some ob) (hF:gdepsF fs o.after.toList=some F) (h:∀Tv x0 x1 x2 x3 x4 x5 x6 x7 x8 x9 R,WpL P n m G false ops [o] ⟨F++(T0++Tv),x0::x1::x2::x3::x4::x5::x6::x7::x8::x9::ob::R⟩ (Only ⟨(d,V)::(F++(T0++Tv)),x0::x1::x2::x3::x4::x5::x6::x7::x8::x9::ob::R⟩))
 (hs:catF fs [some (d,V)]=some fs2) (r:HeadG P n m G ops T0 fs2 O l out ks ds Os O'):HeadG P n m G ops T0 fs O (o::l) (some (d,V)::out) (0::ks) (some [none,none,none,none,none,none,none,none,none,none,some ob]::ds) Os O':=by
 have:=catF_eq hs;subst this
 refine .still (gdepsF_eq hF) (by decide) (.pre [none,none,none,none,none,none,none,none,none,none,some ob] hd fun Tv Ov hp=>?_) r
 obtain ⟨x0,R0,rfl,hp0⟩:=hp.un
 obtain ⟨x1,R1,rfl,hp1⟩:=hp0.un
 obtain ⟨x2,R2,rfl,hp2⟩:=hp1.un
 obtain ⟨x3,R3,rfl,hp3⟩:=hp2.un
 obtain ⟨x4,R4,rfl,hp4⟩:=hp3.un
 obtain ⟨x5,R5,rfl,hp5⟩:=hp4.un
 obtain ⟨x6,R6,rfl,hp6⟩:=hp5.un
 obtain ⟨x7,R7,rfl,hp7⟩:=hp6.un
 obtain ⟨x8,R8,rfl,hp8⟩:=hp7.un
 obtain ⟨x9,R9,rfl,hp9⟩:=hp8.un
 obtain ⟨R,rfl⟩:=hp9.un1
 exact h Tv x0 x1 x2 x3 x4 x5 x6 x7 x8 x9 R
end
section
attribute [-instance] FrameNew_s BlockAt_s NbAt_s Pred_s Residual_s LevelsFor_s PutRef_s DeblockRef_s
attribute [local irreducible] encB encM putL blkL topL lefL corL predS resS levL dbL modeF
theorem EncodeStream_so (w h q:Int) (b d:Bool) (L ms F:List Int) (es:List Bool) (hF:FrameOk w h F) (ho:OptOk q L) (hl:ms.length≤1099511627776∧es.length≤1099511627776):
 Fn 33 [FrA w h F,OpA q b d L ms es] [⟨rows mbG (encM ⟨w,h,q,b,L,F,chO q L ms⟩ (eiF es) (zerP w h) (cntM w h).toNat).1,0,2,some 82⟩]
  (.tup [.agg [I w,I h,I q,B b,B d,IL L,.own 0 0 0 (cntM w h).toNat],FrA w h (endL w h q d (encM ⟨w,h,q,b,L,F,chO q L ms⟩ (eiF es) (zerP w h) (cntM w h).toNat).2.1)]):=by
 have hfo:=decide_eq_true hF
 have hoo:=decide_eq_true ho
 have hsd:=hF.1
 have hcm:=cntM_bd hsd
 have hL6:L.length=6:=ho.2.2.1
 have hFl:F.length≤1024:=by
  have h2:w*h≤32*32:=Int.mul_le_mul hsd.2.1 hsd.2.2.2.1 (by have:=hsd.2.2.1;omega) (by have:=hsd.1;omega)
  have:=hF.2.1
  omega
 have hz:(zerP w h).length≤1024:=by
  unfold zerP
  rw [List.length_replicate]
  have h2:w*h≤32*32:=Int.mul_le_mul hsd.2.1 hsd.2.2.2.1 (by have:=hsd.2.2.1;omega) (by omega)
  omega
 refine FnC.of_bodyM tabOk Tryz.func33 Tryz.ntmps33 rfl (by decide +kernel) (by simp) fun G hM=>?_
 refine goR (r:=?_);and_intros<;>intros<;>try exact True.intro
 all_goals first|contradiction|omega|skip
 try dsimp only [List.append,List.cons_append,List.nil_append]
 refine WpA.cut (σ1:=⟨[(2,.ptr 0 0 0),(3,.ptr 1 0 0),(4,.ptr 2 0 0),(5,.ptr 3 0 0),(6,.ptr 5 0 0)],[FrO w h F,OpO q b d L ms es,⟨[I 0,I 0,I 0,B false,B false,.nilS,.nilS],0,0,none⟩,⟨[I 0,I 0,.nilS],0,0,none⟩,deadO,⟨[I w,I h,I q,B b,B d,IL L,.nilS],0,0,none⟩]⟩) ?_ ?_
 ·apply WpA.regionRF (O:=[FrO w h F,OpO q b d L ms es,⟨[I 0,I 0,I 0,B false,B false,.nilS,.nilS],0,0,none⟩,⟨[I 0,I 0,.nilS],0,0,none⟩]) (Or:=[]) (O1:=[FrO w h F,OpO q b d L ms es,⟨[I 0,I 0,I 0,B false,B false,.nilS,.nilS],0,0,none⟩,⟨[I 0,I 0,.nilS],0,0,none⟩,⟨[],3,0,none⟩,⟨[I 0,I 0,I 0,B false,B false,.nilS,.nilS],1,0,none⟩,deadO,deadO]) 17 2 [] [0] rfl mixed (by decide +kernel)
  ·exact rfl
  ·apply HeadR.consF .none rfl
   ·exact rfl
   ·exact rfl
   ·exact in1
   ·exact rfl
   ·exact rfl
   apply HeadR.consF .none rfl
   ·exact rfl
   ·exact rfl
   ·exact in1
   ·exact rfl
   ·exact rfl
   apply HeadR.consF .none rfl
   ·exact rfl
   ·exact rfl
   ·exact in1
   ·exact rfl
   ·exact rfl
   apply HeadR.consF .none rfl
   ·exact rfl
   ·exact rfl
   ·exact in1
   ·exact rfl
   ·exact rfl
   apply HeadR.consF .none rfl
   ·exact rfl
   ·exact rfl
   ·exact in1
   ·exact rfl
   ·exact rfl
   apply HeadR.consF .none rfl
   ·exact rfl
   ·exact rfl
   ·exact in1
   ·exact rfl
   ·exact rfl
   apply HeadR.consF .none rfl
   ·exact rfl
   ·exact rfl
   ·exact in1
   ·exact rfl
   ·exact rfl
   apply HeadR.consF .none rfl
   ·exact rfl
   ·exact rfl
   ·exact in1
   ·exact rfl
   ·exact rfl
   apply HeadR.consF .none rfl
   ·exact rfl
   ·exact rfl
   ·exact in1
   ·exact rfl
   ·exact rfl
   apply HeadR.consF .none rfl
   ·exact rfl
   ·exact rfl
   ·exact in1
   ·exact rfl
   ·exact rfl
   apply HeadR.consF (V:=.own 4 1 0 0) (.put 0 ⟨ints [],1,1,some 3⟩) rfl
   ·exact rfl
   ·exact rfl
   ·intro Tv Ov hc2 hp9 hd9 hk9
    refine WpL.lit0Ints tabOk rfl rfl (nid_len _ 0) (by decide) ?_
    apply WpL.putV (p:=0)
    ·exact .own (by first|rfl|exact Nat.zero_add _) .nil
    ·exact hp9 0 _ rfl
    ·exact Nat.zero_le _
    ·exact rfl
    ·exact rfl
   ·exact rfl
   ·exact rfl
   apply HeadR.consF .none rfl
   ·exact rfl
   ·exact rfl
   ·exact in1
   ·exact rfl
   ·exact rfl
   apply HeadR.consF .none rfl
   ·exact rfl
   ·exact rfl
   ·exact in1
   ·exact rfl
   ·exact rfl
   apply HeadR.consF (V:=IL L) (.step 0 ⟨[],3,0,none⟩) rfl
   ·exact rfl
   ·exact rfl
   ·intro Tv Ov hc2 hp9 hd9 hk9
    obtain ⟨R0,rfl⟩:=split1 (hp9 0 _ rfl)
    refine K.bi ?_
    refine K.bapp ?_
    refine WpL.appInts tabOk rfl rfl rfl (by first|exact Nat.zero_le _|exact Nat.le_of_ble_eq_true rfl) rfl rfl (by first|rfl|omega|(simp;done)|(simp;omega)) (by first|rfl|omega|(simp;done)|(simp;omega)) (by simp;omega) (by decide) ?_
    rw [Nat.zero_add]
    refine WpL.freeze hM rfl (Nat.zero_le _) rfl rfl rfl (still_ints _) (nofre_ints _) (by simp) ?_
    exact WpL.nil (Only.mk rfl)
   ·exact rfl
   ·exact rfl
   apply HeadR.consF .none rfl
   ·exact rfl
   ·exact rfl
   ·exact in1
   ·exact rfl
   ·exact rfl
   apply HeadR.consF .none rfl
   ·exact rfl
   ·exact rfl
   ·exact in1
   ·exact rfl
   ·exact rfl
   apply HeadR.consF (V:=.ptr 5 1 0) (.put 1 ⟨[I 0,I 0,I 0,B false,B false,.nilS,.nilS],1,0,none⟩) rfl
   ·exact rfl
   ·exact rfl
   ·intro Tv Ov hc2 hp9 hd9 hk9
    refine WpL.allocStruct tabOk rfl (nid_len _ 0) (by decide) ?_
    apply WpL.putV (p:=1)
    ·exact .ptr (by first|rfl|exact Nat.zero_add _) .nil
    ·exact hp9 1 _ rfl
    ·exact Nat.zero_le _
    ·exact rfl
    ·exact rfl
   ·exact rfl
   ·exact rfl
   exact HeadR.nil
  ·exact rfl
  ·exact rfl
  ·exact rfl
  ·exact rfl
  ·exact rfl
  ·exact rfl
  ·exact rfl
  refine goR (r:=?_);and_intros<;>intros<;>try exact True.intro
  all_goals first|contradiction|omega
 refine goR (r:=?_);and_intros<;>intros<;>try exact True.intro
 all_goals first|contradiction|omega|skip
 refine K.call ?_
 apply WpL.callI (FrameNew_s.ok w h hsd)
 ·exact snapA
 ·exact locA
 ·exact outA
 ·exact frzA
 ·decide
 refine goR (r:=?_);and_intros<;>intros<;>try exact True.intro
 all_goals first|contradiction|omega|skip
 have hzl:(w*h).toNat=(zerP w h).length:=by simp [zerP]
 rw [show (List.replicate (w*h).toNat (0:Int))=zerP w h from rfl,hzl]
 have hP0:=zer_ok hsd
 generalize zerP w h=P0 at*
 have hmk:=fun k=>encM_ok (a:=⟨w,h,q,b,L,F,chO q L ms⟩) (E:=eiF es) hP0 k
 have hml:=encM_len ⟨w,h,q,b,L,F,chO q L ms⟩ (eiF es) P0
 have hmp:=encM_plen ⟨w,h,q,b,L,F,chO q L ms⟩ (eiF es) P0
 have hmc:=encM_cnt ⟨w,h,q,b,L,F,chO q L ms⟩ (eiF es) P0
 have hms:=encM_snoc ⟨w,h,q,b,L,F,chO q L ms⟩ (eiF es) P0
 have hm0:encM ⟨w,h,q,b,L,F,chO q L ms⟩ (eiF es) P0 0=([],P0,0):=encM_zero ..
 refine WpA.loop (fun k:Nat=>⟨[(2,.ptr 0 0 0),(3,.ptr 1 0 0),(4,.ptr 2 0 0),(5,.ptr 3 0 0),(6,.ptr 5 0 0),(7,.ptr 6 0 0),(8,I (encM ⟨w,h,q,b,L,F,chO q L ms⟩ (eiF es) P0 k).2.2),(9,I k)],[FrO w h F,OpO q b d L ms es,⟨[I 0,I 0,I 0,B false,B false,.nilS,.nilS],0,0,none⟩,⟨[I 0,I 0,.nilS],0,0,none⟩,deadO,⟨[I w,I h,I q,B b,B d,IL L,.own 7 0 0 k],0,0,none⟩,FrO w h (encM ⟨w,h,q,b,L,F,chO q L ms⟩ (eiF es) P0 k).2.1,⟨rows mbG (encM ⟨w,h,q,b,L,F,chO q L ms⟩ (eiF es) P0 k).1,0,2,some 82⟩]⟩) (fun k=>(k:Int)≤cntM w h) (fun k=>(cntM w h).toNat-k) 0 (by omega) ?_ (fun k hk=>?_)
 ·rw [hm0];exact Weak.nil1f (by first|(show 0≤_;exact Nat.zero_le _)|(repeat' (first|exact RyT.nil|refine RyT.cons ?_ ?_|exact Ry.nil|refine Ry.keep rfl rfl ?_|refine Ry.own rfl rfl rfl rfl rfl (by first|rfl|omega|(simp;done)) ?_|refine Ry.ptr rfl rfl rfl rfl ?_|refine Ry.nilO rfl rfl rfl (by first|rfl|omega|(simp;done)) ?_|refine Ry.fn rfl ?_|refine Ry.agg ?_ ?_|exact RyO.last rfl|(refine RyO.cons ?_ (.inr rfl) ?_)|exact Ry.same rfl (still_ints _)|exact Ry.same rfl (still_rows (fun _=>rfl) _)))) (by first|(show 0≤_;exact Nat.zero_le _)|(repeat' (first|exact RyT.nil|refine RyT.cons ?_ ?_|exact Ry.nil|refine Ry.keep rfl rfl ?_|refine Ry.own rfl rfl rfl rfl rfl (by first|rfl|omega|(simp;done)) ?_|refine Ry.ptr rfl rfl rfl rfl ?_|refine Ry.nilO rfl rfl rfl (by first|rfl|omega|(simp;done)) ?_|refine Ry.fn rfl ?_|refine Ry.agg ?_ ?_|exact RyO.last rfl|(refine RyO.cons ?_ (.inr rfl) ?_)|exact Ry.same rfl (still_ints _)|exact Ry.same rfl (still_rows (fun _=>rfl) _)))) (Nat.zero_le _)
 have hmk:=hmk k
 have hml:=hml k
 have hmp:=hmp k
 have hmc:=hmc k
 have hms:=hms k
 by_cases hlt:(k:Int)<cntM w h
 ·refine WpA.hide fun Q' hQ'=>?_
  have hm4:manyE (eiF es k)≤4:=by cases eiF es k<;>decide
  have hei:=fun hh=>eiF_1 (es:=es) hh k
  generalize he:eiF es k=e at*
  generalize encM ⟨w,h,q,b,L,F,chO q L ms⟩ (eiF es) P0 k=X at*
  obtain ⟨M,P,c⟩:=X
  dsimp only at hmk hml hmp hmc hms ⊢
  subst hml
  refine goR (r:=?_);and_intros<;>intros<;>try exact True.intro
  all_goals first|contradiction|omega|skip
  have hmx:0<es.length→max (1:Int) (es.length:Int)=(es.length:Int):=fun hh=>by omega
  have hr1:0<es.length→(M.length:Int)%max (1:Int) (es.length:Int)<(es.length:Int):=fun hh=>by rw [hmx hh];exact Int.emod_lt_of_pos _ (by omega)
  have hr0:0<es.length→0≤(M.length:Int)%max (1:Int) (es.length:Int):=fun hh=>by rw [hmx hh];exact Int.emod_nonneg _ (by omega)
  refine WpA.cut (σ1:=⟨[(2,.ptr 0 0 0),(3,.ptr 1 0 0),(4,.ptr 2 0 0),(5,.ptr 3 0 0),(6,.ptr 5 0 0),(7,.ptr 6 0 0),(8,I c),(9,I M.length),(10,.ptr 8 0 0)],[FrO w h F,OpO q b d L ms es,⟨[I 0,I 0,I 0,B false,B false,.nilS,.nilS],0,0,none⟩,⟨[I 0,I 0,.nilS],0,0,none⟩,deadO,⟨[I w,I h,I q,B b,B d,IL L,.own 7 0 0 M.length],0,0,none⟩,FrO w h P,⟨rows mbG M,0,2,some 82⟩,⟨[B e,.nilS],0,0,none⟩]⟩) ?_ ?_
  ·obtain ⟨g0,hg0⟩:∃g0,decide ((es.length:Int)>0)=g0:=⟨_,rfl⟩
   have hpos:g0=true→0<es.length:=fun hh=>by
    rw [hh] at hg0;have:=of_decide_eq_true hg0;omega
   have hev:g0=true→es.getD ((M.length:Int)%max (1:Int) (es.length:Int)).toNat false=e:=fun hh=>by
    rw [hmx (hpos hh),hei (hpos hh)];congr 1
   have hef:g0=false→e=false:=fun hh=>by
    rw [←he];unfold eiF;rw [if_neg (fun h0=>by rw [hh] at hg0;have:=of_decide_eq_false hg0;omega)]
   have hmx:=fun hh=>hmx (hpos hh)
   have hr1:=fun hh=>hr1 (hpos hh)
   have hr0:=fun hh=>hr0 (hpos hh)
   clear hei he
   cases g0
   all_goals
    try (have hr1:=hr1 rfl)
    try (have hr0:=hr0 rfl)
    try (have hmx:=hmx rfl)
    try (have hpos:=hpos rfl)
    try dsimp only [List.append,List.cons_append,List.nil_append]
    apply WpA.regionRF (O:=[FrO w h F,OpO q b d L ms es,⟨[I 0,I 0,I 0,B false,B false,.nilS,.nilS],0,0,none⟩,⟨[I 0,I 0,.nilS],0,0,none⟩,deadO,⟨[I w,I h,I q,B b,B d,IL L,.own 7 0 0 M.length],0,0,none⟩,FrO w h P,⟨rows mbG M,0,2,some 82⟩]) (Or:=[]) (O1:=[FrO w h F,OpO q b d L ms es,⟨[I 0,I 0,I 0,B false,B false,.nilS,.nilS],0,0,none⟩,⟨[I 0,I 0,.nilS],0,0,none⟩,deadO,⟨[I w,I h,I q,B b,B d,IL L,.own 7 0 0 M.length],0,0,none⟩,FrO w h P,⟨rows mbG M,0,2,some 82⟩,⟨[B e,.nilS],1,0,none⟩,deadO]) 19 1 [] [0] rfl mixed (by decide +kernel)
    ·exact rfl
    ·apply HeadR.consF .none rfl
     ·exact rfl
     ·exact rfl
     ·exact in1
     ·exact rfl
     ·exact rfl
     apply HeadR.consF .none rfl
     ·exact rfl
     ·exact rfl
     ·exact in1
     ·exact rfl
     ·exact rfl
     apply HeadR.consF .none rfl
     ·exact rfl
     ·exact rfl
     ·exact in1
     ·exact rfl
     ·exact rfl
     apply HeadR.consV .none rfl
     ·exact rfl
     ·exact rfl
     ·exact in1
     ·exact hg0
     ·exact rfl
     ·exact rfl
     apply HeadR.consF .none rfl
     ·exact rfl
     ·exact rfl
     ·exact in1
     ·exact rfl
     ·exact rfl
     apply HeadR.consF .none rfl
     ·exact rfl
     ·exact rfl
     ·(intro Tv Ov hc2 hp9 hd9 hk9;refine K.L ?_;refine K.gd ?_;first|(refine K.gT rfl (by decide) rfl ?_;exact in0)|(refine K.gF rfl (by decide) rfl ?_;exact WpL.nil (Only.mk rfl)))
     ·exact rfl
     ·exact rfl
     apply HeadR.consF .none rfl
     ·exact rfl
     ·exact rfl
     ·(intro Tv Ov hc2 hp9 hd9 hk9;refine K.L ?_;refine K.gd ?_;first|(refine K.gT rfl (by decide) rfl ?_;exact in0)|(refine K.gF rfl (by decide) rfl ?_;exact WpL.nil (Only.mk rfl)))
     ·exact rfl
     ·exact rfl
     apply HeadR.consF .none rfl
     ·exact rfl
     ·exact rfl
     ·(intro Tv Ov hc2 hp9 hd9 hk9;refine K.L ?_;refine K.gd ?_;first|(refine K.gT rfl (by decide) rfl ?_;exact in0)|(refine K.gF rfl (by decide) rfl ?_;exact WpL.nil (Only.mk rfl)))
     ·exact rfl
     ·exact rfl
     apply HeadR.consF .none rfl
     ·exact rfl
     ·exact rfl
     ·(intro Tv Ov hc2 hp9 hd9 hk9;refine K.L ?_;refine K.gd ?_;first|(refine K.gT rfl (by decide) rfl ?_;exact in0)|(refine K.gF rfl (by decide) rfl ?_;exact WpL.nil (Only.mk rfl)))
     ·exact rfl
     ·exact rfl
     apply HeadR.consF .none rfl
     ·exact rfl
     ·exact rfl
     ·(intro Tv Ov hc2 hp9 hd9 hk9;refine K.L ?_;refine K.gd ?_;first|(refine K.gT rfl (by decide) rfl ?_;exact in0)|(refine K.gF rfl (by decide) rfl ?_;exact WpL.nil (Only.mk rfl)))
     ·exact rfl
     ·exact rfl
     apply HeadR.consF .none rfl
     ·exact rfl
     ·exact rfl
     ·(intro Tv Ov hc2 hp9 hd9 hk9;refine K.L ?_;refine K.gd ?_;first|(refine K.gT rfl (by decide) rfl ?_;exact in0)|(refine K.gF rfl (by decide) rfl ?_;exact WpL.nil (Only.mk rfl)))
     ·exact rfl
     ·exact rfl
     apply HeadR.consF .none rfl
     ·exact rfl
     ·exact rfl
     ·(intro Tv Ov hc2 hp9 hd9 hk9;refine K.L ?_;refine K.gd ?_;first|(refine K.gT rfl (by decide) rfl ?_;exact in0)|(refine K.gF rfl (by decide) rfl ?_;exact WpL.nil (Only.mk rfl)))
     ·exact rfl
     ·exact rfl
     apply HeadR.consF .none rfl
     ·exact rfl
     ·exact rfl
     ·(intro Tv Ov hc2 hp9 hd9 hk9;refine K.L ?_;refine K.gd ?_;first|(refine K.gT rfl (by decide) rfl ?_;exact in0)|(refine K.gF rfl (by decide) rfl ?_;exact WpL.nil (Only.mk rfl)))
     ·exact rfl
     ·exact rfl
     apply HeadR.consF .none rfl
     ·exact rfl
     ·exact rfl
     ·(intro Tv Ov hc2 hp9 hd9 hk9;refine K.L ?_;refine K.gd ?_;first|(refine K.gT rfl (by decide) rfl ?_;exact in0)|(refine K.gF rfl (by decide) rfl ?_;exact WpL.nil (Only.mk rfl)))
     ·exact rfl
     ·exact rfl
     apply HeadR.consF .none rfl
     ·exact rfl
     ·exact rfl
     ·(intro Tv Ov hc2 hp9 hd9 hk9;refine K.L ?_;refine K.gd ?_;first|(refine K.gT rfl (by decide) rfl ?_;exact in0)|(refine K.gF rfl (by decide) rfl ?_;exact WpL.nil (Only.mk rfl)))
     ·exact rfl
     ·exact rfl
     apply HeadR.consF (V:=B e) .none rfl
     ·exact rfl
     ·exact rfl
     ·first|(rw [←hev rfl];exact in1)|(rw [hef rfl];exact in1)
     ·exact rfl
     ·exact rfl
     apply HeadR.consF .none rfl
     ·exact rfl
     ·exact rfl
     ·exact in1
     ·exact rfl
     ·exact rfl
     apply HeadR.consF (V:=.ptr 8 1 0) (.put 0 ⟨[B false,.nilS],1,0,none⟩) rfl
     ·exact rfl
     ·exact rfl
     ·intro Tv Ov hc2 hp9 hd9 hk9
      refine WpL.allocStruct tabOk rfl (nid_len _ 0) (by decide) ?_
      apply WpL.putV (p:=0)
      ·exact .ptr (by first|rfl|exact Nat.zero_add _) .nil
      ·exact hp9 0 _ rfl
      ·exact Nat.zero_le _
      ·exact rfl
      ·exact rfl
     ·exact rfl
     ·exact rfl
     apply HeadR.consN (.step 0 ⟨[B e,.nilS],1,0,none⟩) 1000
     ·exact rfl
     ·exact rfl
     ·intro Tv Ov hc2 hp9 hd9 hk9
      obtain ⟨R0,rfl⟩:=split1 (hp9 0 _ rfl)
      refine K.st ?_
      refine WpL.store tabOk rfl rfl rfl rfl rfl rfl rfl rfl (Nat.le_of_ble_eq_true rfl) ?_
      refine WpL.weak (Weak.any1 (d:=1000)) ?_
      exact WpL.nil (Only.mk rfl)
     ·exact rfl
     ·exact rfl
     exact HeadR.nil
    ·exact rfl
    ·exact rfl
    ·exact rfl
    ·exact rfl
    ·exact rfl
    ·exact rfl
    ·exact rfl
    refine WpL.nil ⟨rfl,Weak.mk ?_ ?_ (Nat.zero_le _)⟩
    ·repeat (first
      |exact ReT.nil
      |refine ReT.cons (.keep rfl rfl .nil) ?_
      |refine ReT.cons (.fn rfl .nil) ?_
      |refine ReT.cons (.own rfl rfl rfl rfl rfl rfl .nil) ?_
      |refine ReT.cons (.ptr rfl rfl rfl rfl .nil) ?_
      |refine ReT.cons (.keep (congrArg (fun z=>AV.sc (Value.int .i64 z)) (by first|omega|(skip))) rfl .nil) ?_
      |refine ReT.cons (.keep (congrArg (fun z:List UInt8=>AV.sc (Value.string ⟨z.toArray⟩)) (by skip)) rfl .nil) ?_
      |refine ReT.cons (.own rfl rfl rfl rfl rfl (by first|omega|(simp;done)|(simp;omega)) .nil) ?_)
    ·repeat (first
      |exact ReO.nil
      |refine ReO.cons (Re.same rfl rfl) (.inr rfl) ?_
      |refine ReO.cons (Re.same rfl (still_rows (fun _=>rfl) _)) (.inr rfl) ?_
      |refine ReO.cons (.keep rfl rfl (.keep rfl rfl (.keep rfl rfl (.keep rfl rfl (.keep rfl rfl (.keep rfl rfl (.own rfl rfl rfl rfl rfl rfl .nil))))))) (.inr rfl) ?_)
  clear hei hr0 hr1
  refine goR (r:=?_);and_intros<;>intros<;>try exact True.intro
  all_goals first|contradiction|omega|skip
  have hbl:=encB_len ⟨w,h,q,b,L,F,chO q L ms⟩ e M.length c P
  have hbp:=encB_plen ⟨w,h,q,b,L,F,chO q L ms⟩ e M.length c P
  have hbs:=encB_snoc ⟨w,h,q,b,L,F,chO q L ms⟩ e M.length c P
  have hb0:encB ⟨w,h,q,b,L,F,chO q L ms⟩ e M.length c P 0=([],P):=encB_zero ..
  refine WpA.loop (fun i:Nat=>⟨[(2,.ptr 0 0 0),(3,.ptr 1 0 0),(4,.ptr 2 0 0),(5,.ptr 3 0 0),(6,.ptr 5 0 0),(7,.ptr 6 0 0),(8,I ((c+i:Nat):Int)),(9,I M.length),(10,.ptr 8 0 0),(11,I (sz8 e)),(12,I i)],[FrO w h F,OpO q b d L ms es,⟨[I 0,I 0,I 0,B false,B false,.nilS,.nilS],0,0,none⟩,⟨[I 0,I 0,.nilS],0,0,none⟩,deadO,⟨[I w,I h,I q,B b,B d,IL L,.own 7 0 0 M.length],0,0,none⟩,FrO w h (encB ⟨w,h,q,b,L,F,chO q L ms⟩ e M.length c P i).2,⟨rows mbG M,0,2,some 82⟩,⟨[B e,.own 9 0 0 i],0,0,none⟩,⟨rows blkI (encB ⟨w,h,q,b,L,F,chO q L ms⟩ e M.length c P i).1,0,2,some 84⟩]⟩) (fun i=>i≤manyE e) (fun i=>manyE e-i) 0 (Nat.zero_le _) ?_ (fun i hi=>?_)
  ·rw [hb0];exact Weak.nil1f (by first|(show 0≤_;exact Nat.zero_le _)|(repeat' (first|exact RyT.nil|refine RyT.cons ?_ ?_|exact Ry.nil|refine Ry.keep rfl rfl ?_|refine Ry.own rfl rfl rfl rfl rfl (by first|rfl|omega|(simp;done)) ?_|refine Ry.ptr rfl rfl rfl rfl ?_|refine Ry.nilO rfl rfl rfl (by first|rfl|omega|(simp;done)) ?_|refine Ry.fn rfl ?_|refine Ry.agg ?_ ?_|exact RyO.last rfl|(refine RyO.cons ?_ (.inr rfl) ?_)|exact Ry.same rfl (still_ints _)|exact Ry.same rfl (still_rows (fun _=>rfl) _)))) (by first|(show 0≤_;exact Nat.zero_le _)|(repeat' (first|exact RyT.nil|refine RyT.cons ?_ ?_|exact Ry.nil|refine Ry.keep rfl rfl ?_|refine Ry.own rfl rfl rfl rfl rfl (by first|rfl|omega|(simp;done)) ?_|refine Ry.ptr rfl rfl rfl rfl ?_|refine Ry.nilO rfl rfl rfl (by first|rfl|omega|(simp;done)) ?_|refine Ry.fn rfl ?_|refine Ry.agg ?_ ?_|exact RyO.last rfl|(refine RyO.cons ?_ (.inr rfl) ?_)|exact Ry.same rfl (still_ints _)|exact Ry.same rfl (still_rows (fun _=>rfl) _)))) (Nat.zero_le _)
  have hbl:=hbl i
  have hbp:=hbp i
  have hbs:=hbs i
  have hq64:(64:Int)/(sz8 e*sz8 e)=((manyE e:Nat):Int):=by cases e<;>decide
  have hs8:sz8 e=4∨sz8 e=8:=by cases e<;>simp [sz8]
  have hs2:sz8 e*sz8 e=16∨sz8 e*sz8 e=64:=by cases e<;>simp [sz8]
  by_cases hlt2:i<manyE e
  ·have hsp:(8≤w∧w≤1024∧M.length≤1048576)∧i<manyE e:=⟨by omega,hlt2⟩
   obtain ⟨x,y,hxy⟩:∃x y,plc1 w (sz8 e) M.length i=(x,y,sz8 e):=⟨_,_,rfl⟩
   have hksp:=l25Spot_s.ok w h q b d L M.length i e hsp
   rw [hxy] at hbs hksp
   simp only [chM,chV,nbP,chO] at hbs
   dsimp only at hksp
   generalize encB ⟨w,h,q,b,L,F,chO q L ms⟩ e M.length c P i=Y at*
   obtain ⟨bs,Pi⟩:=Y
   dsimp only at hbl hbp hbs ⊢
   subst hbl
   generalize hmd:modeF q L ms ((c+bs.length:Nat):Int)=md at*
   generalize hsz:sz8 e=n at*
   have hkB:=BlockAt_s.ok w h F x y n (by omega)
   have hkN:Fn 91 [FrA w h Pi,I x,I y,I n] [XI (topL w h Pi x y n),XI (lefL w h Pi x y n)] (.agg [.own 0 0 0 (topL w h Pi x y n).length,.own 1 0 0 (lefL w h Pi x y n).length,I (corL w h Pi x y n),B (hasT w h Pi x y n),B (hasE w h Pi x y n)]):=NbAt_s.ok w h Pi x y n (by omega)
   have hkb:=blkL_le w h F x y n
   have hkn:=nb_le w h Pi x y n
   generalize blkL w h F x y n=bk at*
   generalize topL w h Pi x y n=tp at*
   generalize lefL w h Pi x y n=lf at*
   generalize corL w h Pi x y n=co at*
   generalize hasT w h Pi x y n=hT at*
   generalize hasE w h Pi x y n=hE at*
   have hkP:=Pred_s.ok md tp lf co hT hE n ⟨by omega,by omega,by omega⟩
   have hpl:=predS_len md tp lf co hT hE n
   have hpl:(predS md tp lf co hT hE n).length≤64:=by
    rw [hpl];split
    ·rcases hs8 with rfl|rfl<;>decide
    ·decide
   generalize predS md tp lf co hT hE n=pr at*
   have hkR:=Residual_s.ok bk pr ⟨by omega,by omega⟩
   have hrl:(resS bk pr).length≤64:=by
    rw [resS_len];split<;>omega
   generalize resS bk pr=rs at*
   have hkL:=LevelsFor_s.ok q b d L ms es rs ⟨by omega,by omega⟩
   have hll:=levL_le b q L rs
   generalize levL b q L rs=lv at*
   have hkU:=PutRef_s.ok w h Pi w h q b d L x y md lv ⟨by omega,by omega⟩
   have hul:=putL_len w h Pi q b x y md lv
   generalize putL w h Pi q b x y md lv=Pu at*
   refine goR (r:=?_);and_intros<;>intros<;>try exact True.intro
   all_goals first|contradiction|omega|skip
   refine K.call ?_
   refine WpL.callF hksp snapA locA outA rfl rfl rfl (by decide) ?_
   refine goR (r:=?_);and_intros<;>intros<;>try exact True.intro
   all_goals first|contradiction|omega|skip
   rw [hmd]
   try dsimp only [List.append,List.cons_append,List.nil_append]
   apply WpA.regionGB 19 mixed (by decide +kernel)
   ·exact rfl
   ·apply HeadG.preF 10 rfl rfl rfl
    ·exact rfl
    ·exact in0
    ·exact rfl
    apply HeadG.preF 10 rfl rfl rfl
    ·exact rfl
    ·exact in0
    ·exact rfl
    apply HeadG.preF 10 rfl rfl rfl
    ·exact rfl
    ·exact in0
    ·exact rfl
    apply HeadG.preF 10 rfl rfl rfl
    ·exact rfl
    ·exact in0
    ·exact rfl
    apply HeadG.preF 10 rfl rfl rfl
    ·exact rfl
    ·exact in0
    ·exact rfl
    apply HeadG.precF 0 rfl rfl
    ·exact rfl
    ·intro Tv Ov
     refine K.call ?_
     apply WpL.callI (hkB)
     ·exact snapA
     ·exact locA
     ·exact outA
     ·exact frzA
     ·decide
     ·exact WpL.nil (Only.mk rfl)
    ·exact rfl
    apply HeadG.hole10 rfl rfl rfl
    ·exact rfl
    ·exact in0
    ·exact rfl
    apply HeadG.hole10 rfl rfl rfl
    ·exact rfl
    ·exact in0
    ·exact rfl
    apply HeadG.preF 10 rfl rfl rfl
    ·exact rfl
    ·exact in0
    ·exact rfl
    apply HeadG.preF 10 rfl rfl rfl
    ·exact rfl
    ·exact in0
    ·exact rfl
    apply HeadG.preF 10 rfl rfl rfl
    ·exact rfl
    ·exact in0
    ·exact rfl
    apply HeadG.preF 10 rfl rfl rfl
    ·exact rfl
    ·exact in0
    ·exact rfl
    apply HeadG.precF 0 rfl rfl
    ·exact rfl
    ·intro Tv Ov
     refine K.call ?_
     apply WpL.callI (hkN)
     ·exact snapA
     ·exact locA
     ·exact outA
     ·exact frzA
     ·decide
     ·exact WpL.nil (Only.mk rfl)
    ·exact rfl
    apply HeadG.preF 10 rfl rfl rfl
    ·exact rfl
    ·exact in0
    ·exact rfl
    apply HeadG.precF 0 rfl rfl
    ·exact rfl
    ·intro Tv Ov
     refine K.call ?_
     apply WpL.callI (hkP)
     ·exact snapA
     ·exact locA
     ·exact outA
     ·exact frzA
     ·decide
     ·exact WpL.nil (Only.mk rfl)
    ·exact rfl
    apply HeadG.precF 0 rfl rfl
    ·exact rfl
    ·intro Tv Ov
     refine K.call ?_
     apply WpL.callI (hkR)
     ·exact snapA
     ·exact locA
     ·exact outA
     ·exact frzA
     ·decide
     ·exact WpL.nil (Only.mk rfl)
    ·exact rfl
    apply HeadG.precF 0 rfl rfl
    ·exact rfl
    ·intro Tv Ov
     refine K.call ?_
     apply WpL.callI (hkL)
     ·exact snapA
     ·exact locA
     ·exact outA
     ·exact frzA
     ·decide
     ·exact WpL.nil (Only.mk rfl)
    ·exact rfl
    apply HeadG.hole10 rfl rfl rfl
    ·exact rfl
    ·exact in0
    ·exact rfl
    apply HeadG.stepNF rfl
    ·exact rfl
    ·exact in1
    ·exact rfl
    exact Abs.HeadG.nil
   ·exact trueA
   ·exact trueA
   ·exact trueA
   ·exact demA
   ·exact rfl
   ·exact rfl
   refine goR (r:=?_);and_intros<;>intros<;>try exact True.intro
   all_goals first|contradiction|omega|skip
   refine K.call ?_
   apply WpL.callI hkU
   ·exact snapA
   ·exact locA
   ·exact outA
   ·exact FrzR.tup (.agg (.keep rfl rfl (.keep rfl rfl (.own rfl rfl rfl (by show Pi.length*1=(List.map _ _).length;rw [Nat.mul_one,List.length_map];exact hul.symm) hul.symm (Snap.same rfl (still_ints _) (nofre_ints _)) .nil))) (.keep rfl rfl .nil))
   ·decide
   refine goR (r:=?_);and_intros<;>intros<;>try exact True.intro
   all_goals first|contradiction|omega|(rw [hbs];exact .keep rfl rfl .nil)|(rw [hbs];refine Re.same ?_ (still_rows (fun _=>rfl) _);show rows blkI bs++_=rows blkI (bs++[(md,lv)]);rw [rows_append,rows_one];rfl)
  ·obtain rfl:i=manyE e:=by omega
   refine goR (r:=?_);and_intros<;>intros<;>try exact True.intro
   all_goals first|contradiction|omega|skip
   subst hQ'
   refine Rnd.go (M.length+1) (by omega) (by omega) ?_
   rw [hms]
   generalize encB ⟨w,h,q,b,L,F,chO q L ms⟩ e M.length c P (manyE e)=Y at*
   obtain ⟨bs,Pi⟩:=Y
   dsimp only at hbl hbp ⊢
   refine Weak.trans (Weak.nest (id:=7) (j:=9) (off:=M.length*2+1) (ob:=⟨rows mbG M++[B e,.own 9 0 0 (manyE e)],1,2,some 82⟩) (oj:=⟨rows blkI bs,0,2,some 84⟩) rfl rfl rfl (Nat.zero_le _) (mG_at M _ _) rfl (still_rows (fun _=>rfl) _) ?_) ?_
   ·show manyE e*2=(rows blkI bs).length
    rw [len_bI];omega
   ·refine Weak.mk ?_ ?_ (Nat.zero_le _)
    ·repeat (first
      |exact ReT.nil
      |refine ReT.cons (.keep rfl rfl .nil) ?_
      |refine ReT.cons (.fn rfl .nil) ?_
      |refine ReT.cons (.own rfl rfl rfl rfl rfl rfl .nil) ?_
      |refine ReT.cons (.ptr rfl rfl rfl rfl .nil) ?_
      |refine ReT.cons (.keep (congrArg (fun z=>AV.sc (Value.int .i64 z)) (by first|omega|(skip))) rfl .nil) ?_
      |refine ReT.cons (.keep (congrArg (fun z:List UInt8=>AV.sc (Value.string ⟨z.toArray⟩)) (by skip)) rfl .nil) ?_
      |refine ReT.cons (.own rfl rfl rfl rfl rfl (by first|omega|(simp;done)|(simp;omega)) .nil) ?_)
    ·repeat (first
      |exact ReO.nil
      |refine ReO.cons (Re.same rfl rfl) (.inr rfl) ?_
      |refine ReO.cons (Re.same (mG_set M e _ bs hbl) (still_rows (fun _=>rfl) _)) (.inr rfl) ?_
      |refine ReO.cons (.keep rfl rfl (.keep rfl rfl (.keep rfl rfl (.keep rfl rfl (.keep rfl rfl (.keep rfl rfl (.own rfl rfl rfl rfl rfl rfl .nil))))))) (.inr rfl) ?_)
 ·obtain ek:(cntM w h).toNat=k:=by omega
  rw [ek]
  have hmk:=(hmk).2.1
  generalize encM ⟨w,h,q,b,L,F,chO q L ms⟩ (eiF es) P0 k=X at*
  obtain ⟨M,P,c⟩:=X
  dsimp only at hmk hml hmp hmc ⊢
  subst hml
  cases d with
  |true=>
   have hdz:=DeblockRef_s.ok w h P q (by omega)
   have hdl:=dbL_len w h q P
   rw [show endL w h q true P=dbL w h q P from rfl]
   generalize dbL w h q P=Pd at*
   refine goR (r:=?_);and_intros<;>intros<;>try exact True.intro
   all_goals first|contradiction|omega|skip
   try dsimp only [List.append,List.cons_append,List.nil_append]
   apply WpA.regionGB 7 mixed (by decide +kernel)
   ·exact rfl
   ·apply HeadG.hole5 rfl rfl rfl
    ·exact rfl
    ·exact in0
    ·exact rfl
    apply HeadG.hole6 rfl rfl rfl
    ·exact rfl
    ·exact in0
    ·exact rfl
    apply HeadG.preF 2 rfl rfl rfl
    ·exact rfl
    ·exact in0
    ·exact rfl
    apply HeadG.preF 2 rfl rfl rfl
    ·exact rfl
    ·exact in0
    ·exact rfl
    apply HeadG.precF 0 rfl rfl
    ·exact rfl
    ·intro Tv Ov
     refine K.call ?_
     apply WpL.callI (hdz)
     ·exact snapA
     ·exact locA
     ·exact outA
     ·exact FrzR.one (.agg (.keep rfl rfl (.keep rfl rfl (.own rfl rfl rfl (by show P.length*1=(List.map _ _).length;rw [Nat.mul_one,List.length_map];exact hdl.symm) hdl.symm (Snap.same rfl (still_ints _) (nofre_ints _)) .nil))) .nil)
     ·decide
     ·exact WpL.nil (Only.mk rfl)
    ·exact rfl
    apply HeadG.stepNF rfl
    ·exact rfl
    ·exact in1
    ·exact rfl
    apply HeadG.stepNF rfl
    ·exact rfl
    ·exact in1
    ·exact rfl
    exact Abs.HeadG.nil
   ·exact trueA
   ·exact trueA
   ·exact trueA
   ·exact demA
   ·exact rfl
   ·exact rfl
   refine goR (r:=?_);and_intros<;>intros<;>try exact True.intro
   all_goals first|contradiction|omega
  |false=>
   rw [show endL w h q false P=P from rfl]
   refine goR (r:=?_);and_intros<;>intros<;>try exact True.intro
   all_goals first|contradiction|omega|skip
   try dsimp only [List.append,List.cons_append,List.nil_append]
   apply WpA.regionGB 4 mixed (by decide +kernel)
   ·exact rfl
   ·apply HeadG.hole5 rfl rfl rfl
    ·exact rfl
    ·exact in0
    ·exact rfl
    apply HeadG.hole6 rfl rfl rfl
    ·exact rfl
    ·exact in0
    ·exact rfl
    apply HeadG.stepNF rfl
    ·exact rfl
    ·exact in1
    ·exact rfl
    apply HeadG.stepNF rfl
    ·exact rfl
    ·exact in1
    ·exact rfl
    exact Abs.HeadG.nil
   ·exact trueA
   ·exact trueA
   ·exact trueA
   ·exact demA
   ·exact rfl
   ·exact rfl
   refine goR (r:=?_);and_intros<;>intros<;>try exact True.intro
   all_goals first|contradiction|omega
end
end Go.Proofs.YtainhhfnnclfiaaGreat


namespace Go.Proofs.YtainhhfnnclfiaaGreat
open Go Go.Abs
attribute [local irreducible] WpA WpL Rnd Blk Abs.Seq Abs.Fin Abs.FinG FnC FnG FnX FnP FinX Only
theorem bwSmall {l:List Blok} (h:∀b∈l,b.2.length≤64):bw l≤65*l.length:=by
 induction l with
 |nil=>simp [bw_nil]
 |cons b l ih=>
  have h1:=h b (by simp)
  have h2:=ih fun x hx=>h x (by simp [hx])
  rw [bw_cons,List.length_cons];omega
theorem mwSmall {l:List Mbk} (h:∀m∈l,m.2.length≤4∧∀b∈m.2,b.2.length≤64):mw l≤261*l.length:=by
 induction l with
 |nil=>simp [mw_nil]
 |cons m l ih=>
  have h1:=h m (by simp)
  have h2:=ih fun x hx=>h x (by simp [hx])
  have h3:=bwSmall h1.2
  rw [mw_cons,List.length_cons];omega
theorem st_mw {w h q:Int} {L:List Int} {M:List Mbk} (hs:StOk w h q L M):mw M≤4176∧M.length≤16∧L.length=6∧SmM 1099511627776 M:=by
 have hcm:=cntM_bd hs.1.1
 have hlen:=hs.2.1
 have hm:=mwSmall (l:=M) (fun m hm=>by
  have hb:=List.any_eq_false.1 hs.2.2 m hm
  have hk:MbkOk m.1 m.2 L:=by
   refine Decidable.byContradiction fun hn=>hb ?_
   unfold badM;exact decide_eq_true hn
  obtain ⟨e,bs⟩:=m
  have hk1:(bs.length:Int)=nm8 e:=hk.1
  refine ⟨by show bs.length≤4;cases e<;>simp [nm8] at hk1<;>omega,fun b hbm=>?_⟩
  have hb2:=List.any_eq_false.1 hk.2 b hbm
  have hk2:BlkOk b.1 b.2 L (sz8 e):=by
   refine Decidable.byContradiction fun hn=>hb2 ?_
   unfold badB;exact decide_eq_true hn
  have hk3:=hk2.2.2.1
  cases e<;>simp [sz8] at hk3<;>omega)
 have h2:mw M≤4176:=by omega
 exact ⟨h2,by omega,hs.1.2.2.2.1,smM_of (by omega)⟩
section
attribute [local irreducible] encT refL unpS
theorem EncodeStream_0 (w h q:Int) (b d:Bool) (L ms F:List Int) (es:List Bool) (hl:F.length≤1099511627776∧L.length≤1099511627776) (hn:¬(FrameOk w h F∧OptOk q L)):
 Fn 22 [FrA w h F,OpA q b d L ms es] [] (.tup [.agg [I 0,I 0,I 0,B false,B false,.nilS,.nilS],.agg [I 0,I 0,.nilS]]):=by
 by_cases hF:FrameOk w h F
 ·have ho:¬OptOk q L:=fun ho=>hn ⟨hF,ho⟩
  have hfo:=decide_eq_true hF
  have hoo:=decide_eq_false ho
  refine FnC.of_body tabOk Tryz.func22 Tryz.ntmps22 rfl (by decide +kernel) (by simp) fun G=>?_
  refine go (r:=?_);and_intros<;>intros<;>try exact True.intro
  all_goals first|contradiction|omega
 ·have hfo:=decide_eq_false hF
  refine FnC.of_body tabOk Tryz.func22 Tryz.ntmps22 rfl (by decide +kernel) (by simp) fun G=>?_
  refine go (r:=?_);and_intros<;>intros<;>try exact True.intro
  all_goals first|contradiction|omega
end
end Go.Proofs.YtainhhfnnclfiaaGreat


namespace Go.Proofs.YtainhhfnnclfiaaGreat
open Go Go.Abs
attribute [local irreducible] WpA WpL Rnd Blk Abs.Seq Abs.Fin Abs.FinG FnC FnG FnX FnP FinX Only
section
attribute [local irreducible] encM encS refL
theorem EncodeStream_s1 (w h q:Int) (b d:Bool) (L ms F:List Int) (es:List Bool) (hF:FrameOk w h F) (ho:OptOk q L) (hl:ms.length≤1099511627776∧es.length≤1099511627776):
 Fn 33 [FrA w h F,OpA q b d L ms es] [] (.tup [StA w h q b d L (encT w h q b L ms F es),FrA w h (refL w h q b d (encT w h q b L ms F es))]):=by
 have hel:(encT w h q b L ms F es).length=(cntM w h).toNat:=by have:=(encT_ok (b:=b) (ms:=ms) (es:=es) hF ho).2.1;omega
 have hz:=EncodeStream_so w h q b d L ms F es hF ho hl
 have hM2:(encM (enA w h q b L ms F) (eiF es) (zerP w h) (cntM w h).toNat).1=encT w h q b L ms F es:=by unfold encT encS;rfl
 have hP2:endL w h q d (encM (enA w h q b L ms F) (eiF es) (zerP w h) (cntM w h).toNat).2.1=refL w h q b d (encT w h q b L ms F es):=(encS_ref (enA w h q b L ms F) (eiF es) d).symm
 rw [hM2,hP2] at hz
 exact FnC.stillT hz (.agg (.keep rfl rfl (.keep rfl rfl (.keep rfl rfl (.keep rfl rfl (.keep rfl rfl (.keep rfl rfl (.own rfl rfl rfl (by show (cntM w h).toNat*2=_;rw [len_mG,hel]) hel.symm (Snap.rows snap_mG _) .nil))))))) (.agg (.keep rfl rfl (.keep rfl rfl (.keep rfl rfl .nil))) .nil))
attribute [local irreducible] encT unpS
theorem EncodeStream_s0 (w h q:Int) (b d:Bool) (L ms F:List Int) (es:List Bool) (hl:F.length≤1099511627776∧L.length≤1099511627776) (hn:¬(FrameOk w h F∧OptOk q L)):
 Fn 33 [FrA w h F,OpA q b d L ms es] [] (.tup [.agg [I 0,I 0,I 0,B false,B false,.nilS,.nilS],.agg [I 0,I 0,.nilS]]):=by
 by_cases hF:FrameOk w h F
 ·have ho:¬OptOk q L:=fun ho=>hn ⟨hF,ho⟩
  have hfo:=decide_eq_true hF
  have hoo:=decide_eq_false ho
  refine FnC.of_body tabOk Tryz.func33 Tryz.ntmps33 rfl (by decide +kernel) (by simp) fun G=>?_
  refine go (r:=?_);and_intros<;>intros<;>try exact True.intro
  all_goals first|contradiction|omega
 ·have hfo:=decide_eq_false hF
  refine FnC.of_body tabOk Tryz.func33 Tryz.ntmps33 rfl (by decide +kernel) (by simp) fun G=>?_
  refine go (r:=?_);and_intros<;>intros<;>try exact True.intro
  all_goals first|contradiction|omega
end
end Go.Proofs.YtainhhfnnclfiaaGreat


namespace Go.Proofs.YtainhhfnnclfiaaGreat
open Go Go.Abs
attribute [local irreducible] WpA WpL Rnd Blk Abs.Seq Abs.Fin Abs.FinG FnC FnG Only
instance markFrame_c:ConG 39 (∀ (W H:Int) (l:List Int) (k:Int),l.length≤1048576∧0≤k∧k≤1073741824→
 Gn 39 [.agg [I W,I H,.own 0 0 0 l.length],I k] [IN l] [IN (marksI k l.length)] [] (I (k+l.length))):=⟨fun W H l k hk=>by
 refine FnG.of_bodyF tabOk Tryz.func39 Tryz.ntmps39 rfl (by decide +kernel) (by simp) rfl rfl fun G=>?_
 refine go (r:=?_);and_intros<;>intros<;>try exact True.intro⟩
instance heldFrame_c:Con 43 (∀ (W H:Int) (l:List Int) (k:Int),(l.length≤1048576∧0≤k∧k≤1073741824)∧l=marksI k l.length→Fn 43 [FrA W H l,I k] [] (I (k+l.length))):=⟨fun W H l k hk=>by
 obtain ⟨hk,hm⟩:=hk
 refine FnC.of_body tabOk Tryz.func43 Tryz.ntmps43 rfl (by decide +kernel) (by simp) fun G=>?_
 refine go (r:=?_);and_intros<;>intros<;>try exact True.intro
 all_goals first|(rw [if_pos hm] at *;first|omega|contradiction|rfl)⟩
end Go.Proofs.YtainhhfnnclfiaaGreat


namespace Go.Proofs.YtainhhfnnclfiaaGreat
open Go Go.Abs
attribute [local irreducible] WpA WpL Rnd Blk Abs.Seq Abs.Fin Abs.FinG FnC FnG FnX FnP FinX Only
section
attribute [local irreducible] encM encS refL
theorem EncodeStream_w (w h q:Int) (b d:Bool) (L ms F:List Int) (es:List Bool) (hF:FrameOk w h F) (ho:OptOk q L) (hl:ms.length≤1099511627776∧es.length≤1099511627776):
 Fn 22 [FrA w h F,OpA q b d L ms es] [XI L,MbO (encT w h q b L ms F es),IN (refL w h q b d (encT w h q b L ms F es))] (.tup [.agg [I w,I h,I q,B b,B d,.own 0 0 0 L.length,.own 1 0 0 (encT w h q b L ms F es).length],.agg [I w,I h,.own 2 0 0 (refL w h q b d (encT w h q b L ms F es)).length]]):=by
 have hfo:=decide_eq_true hF
 have hoo:=decide_eq_true ho
 have hL6:L.length=6:=ho.2.2.1
 have hFl:F.length≤1024:=by
  have h2:w*h≤32*32:=Int.mul_le_mul hF.1.2.1 hF.1.2.2.2.1 (by have:=hF.1.2.2.1;omega) (by have:=hF.1.1;omega)
  have:=hF.2.1
  omega
 have hel:(encT w h q b L ms F es).length=(cntM w h).toNat:=by have:=(encT_ok (b:=b) (ms:=ms) (es:=es) hF ho).2.1;omega
 have hz:=encode_w w h q b d L ms F es 69 [I q,B b,B d,IL L,IL ms,BL es] (chO q L ms) hF ho hl (choose_c q b d L ms es ⟨by omega,hl.1⟩)
 have hM2:(encM (enA w h q b L ms F) (eiF es) (zerP w h) (cntM w h).toNat).1=encT w h q b L ms F es:=by unfold encT encS;rfl
 have hP2:endL w h q d (encM (enA w h q b L ms F) (eiF es) (zerP w h) (cntM w h).toNat).2.1=refL w h q b d (encT w h q b L ms F es):=(encS_ref (enA w h q b L ms F) (eiF es) d).symm
 have hrl:(zerP w h).length=(refL w h q b d (encT w h q b L ms F es)).length:=by rw [←hP2,endL_len,encM_plen]
 rw [hM2,hP2,←hel,hrl] at hz
 generalize encT w h q b L ms F es=M at*
 generalize refL w h q b d M=P at*
 refine FnC.of_bodyM tabOk Tryz.func22 Tryz.ntmps22 rfl (by decide +kernel) (by simp) fun G hM=>?_
 refine WpA.seq ?_
 refine WpA.cut (σ1:=⟨[(3,.ptr 1 0 0),(2,.ptr 0 0 0),(4,.ptr 2 0 0),(5,.ptr 3 0 0)],[FrO w h F,OpO q b d L ms es,⟨[I 0,I 0,I 0,B false,B false,.nilS,.nilS],0,0,none⟩,⟨[I 0,I 0,.nilS],0,0,none⟩]⟩) ?_ ?_
 ·refine goR (r:=?_);and_intros<;>intros<;>try exact True.intro
  all_goals first|contradiction|omega
 refine Abs.Seq.n ?_
 refine WpA.freezeP hM rfl (Nat.zero_le _) rfl rfl rfl rfl ?_
 refine goR (r:=?_);and_intros<;>intros<;>try exact True.intro
 all_goals first|contradiction|omega|skip
 refine K.call ?_
 refine WpL.callF hz (.agg (.keep rfl rfl (.keep rfl rfl (.keep rfl rfl .nil))) (.agg (.keep rfl rfl (.keep rfl rfl (.keep rfl rfl (.keep rfl rfl (.keep rfl rfl (.keep rfl rfl .nil)))))) (.fn (.keep rfl rfl .nil) .nil))) locA outA rfl rfl rfl (by decide) ?_
 refine goR (r:=?_);and_intros<;>intros<;>try exact True.intro
 all_goals first|contradiction|omega
end
theorem ensX (W H:Int) (p:List Int) (q:Int) (b d:Bool) (l m:List Int) (e:List Bool) (w2 h2 q2:Int) (b2 d2:Bool) (L2:List Int) (M2:List Mbk) (W2 H2:Int) (P2:List Int) (hl:p.length≤1048576∧l.length≤1048576∧m.length≤1048576∧e.length≤1048576∧p.length+l.length+m.length+e.length≤1048576) (hk:L2.length≤6∧mw M2≤4176∧P2.length≤1024)
 (hs:Fn 33 [FrA W H p,OpA q b d l m e] [] (.tup [StA w2 h2 q2 b2 d2 L2 M2,FrA W2 H2 P2]))
 (hi:Fn 22 [FrA W H p,OpA q b d l m e] [XI L2,MbO M2,IN P2] (.tup [.agg [I w2,I h2,I q2,B b2,B d2,.own 0 0 0 L2.length,.own 1 0 0 M2.length],.agg [I W2,I H2,.own 2 0 0 P2.length]]))
 (hz:Fn 22 [FrA W H p,OpA q b d l m e] [] (.tup [StA w2 h2 q2 b2 d2 L2 M2,FrA W2 H2 P2])):Fn 6 [FrA W H p,OpA q b d l m e] [] (B true):=by
 have hmw:mw M2=M2.length+(M2.map mn).sum:=rfl
 have hsm:SmM 1099511627776 M2:=smM_of (by omega)
 have hml:∀k n,(marksI k n).length=n:=fun k n=>by simp [marksI]
 have hmm:=markM_mw M2 (1+(L2.length:Int))
 have hmi:=markM_idem M2 (1+(L2.length:Int))
 refine FnC.of_body tabOk Tryz.func6 Tryz.ntmps6 rfl (by decide +kernel) (by simp) fun G=>?_
 refine goR (r:=?_);and_intros<;>intros<;>try exact True.intro
 all_goals first|contradiction|omega|(rename_i hg;exact absurd (by simp) hg)|skip
 try dsimp only [List.append,List.cons_append,List.nil_append]
 apply WpA.regionRF (O:=[FrO W H p,OpO q b d l m e]) (Or:=[]) (O1:=[FrO W H p,OpO q b d l m e]++[⟨[I w2,I h2,I q2,B b2,B d2,IL L2,MbL M2],1,0,none⟩,⟨[I W2,I H2,IL P2],1,0,none⟩,deadO,deadO]) 12 2 [] [0,1] rfl mixed (by decide +kernel)
 ·exact rfl
 ·apply HeadR.consF .none rfl
  ·exact rfl
  ·exact rfl
  ·exact in1
  ·exact rfl
  ·exact rfl
  apply HeadR.consF .none rfl
  ·exact rfl
  ·exact rfl
  ·intro Tv Ov hc2 hp9 hd9 hk9
   refine K.call ?_
   apply WpL.callI (toFrame_c.ok W H p (by omega))
   ·exact snapA
   ·exact locA
   ·exact outA
   ·exact frzA
   ·decide
   ·exact WpL.nil (Only.mk rfl)
  ·exact rfl
  ·exact rfl
  apply HeadR.consF .none rfl
  ·exact rfl
  ·exact rfl
  ·exact in1
  ·exact rfl
  ·exact rfl
  apply HeadR.consF .none rfl
  ·exact rfl
  ·exact rfl
  ·intro Tv Ov hc2 hp9 hd9 hk9
   refine K.call ?_
   apply WpL.callI (toOptions_c.ok q b d l m e ⟨by omega,by omega,by omega⟩)
   ·exact snapA
   ·exact locA
   ·exact outA
   ·exact FrzR.one (.agg (.keep rfl rfl (.keep rfl rfl (.keep rfl rfl (.own rfl rfl rfl (by simp) rfl (Snap.same rfl (still_ints _) (nofre_ints _)) (.own rfl rfl rfl (by simp) rfl (Snap.same rfl (still_ints _) (nofre_ints _)) (.own rfl rfl rfl (by simp) rfl (Snap.same rfl (still_bools _) (nofre_bools _)) .nil)))))) .nil)
   ·decide
   ·exact WpL.nil (Only.mk rfl)
  ·exact rfl
  ·exact rfl
  apply HeadR.consF .none rfl
  ·exact rfl
  ·exact rfl
  ·intro Tv Ov hc2 hp9 hd9 hk9
   refine K.call ?_
   apply WpL.callK hs
   ·exact .agg (.keep rfl rfl (.keep rfl rfl (.keep rfl rfl .nil))) (.agg (.keep rfl rfl (.keep rfl rfl (.keep rfl rfl (.keep rfl rfl (.keep rfl rfl (.keep rfl rfl .nil)))))) .nil)
   ·decide
   ·exact WpL.nil (Only.mk rfl)
  ·exact rfl
  ·exact rfl
  apply HeadR.consF .none rfl
  ·exact rfl
  ·exact rfl
  ·exact in1
  ·exact rfl
  ·exact rfl
  apply HeadR.consF .none rfl
  ·exact rfl
  ·exact rfl
  ·exact in1
  ·exact rfl
  ·exact rfl
  apply HeadR.consF .none rfl
  ·exact rfl
  ·exact rfl
  ·exact in1
  ·exact rfl
  ·exact rfl
  apply HeadR.consF (V:=.ptr 2 1 0) (.put 0 ⟨[I 0,I 0,I 0,B false,B false,.nilS,.nilS],1,0,none⟩) rfl
  ·exact rfl
  ·exact rfl
  ·intro Tv Ov hc2 hp9 hd9 hk9
   refine WpL.allocStruct tabOk rfl (nid_len _ 0) (by decide) ?_
   apply WpL.putV (p:=0)
   ·exact .ptr (by first|rfl|exact Nat.zero_add _) .nil
   ·exact hp9 0 _ rfl
   ·exact Nat.zero_le _
   ·exact rfl
   ·exact rfl
  ·exact rfl
  ·exact rfl
  apply HeadR.consF (V:=.ptr 3 1 0) (.put 1 ⟨[I 0,I 0,.nilS],1,0,none⟩) rfl
  ·exact rfl
  ·exact rfl
  ·intro Tv Ov hc2 hp9 hd9 hk9
   refine WpL.allocStruct tabOk rfl (nid_len _ 0) (by decide) ?_
   apply WpL.putV (p:=1)
   ·exact .ptr (by first|rfl|exact Nat.zero_add _) .nil
   ·exact hp9 1 _ rfl
   ·exact Nat.zero_le _
   ·exact rfl
   ·exact rfl
  ·exact rfl
  ·exact rfl
  apply HeadR.consN (.step 0 ⟨[I w2,I h2,I q2,B b2,B d2,IL L2,MbL M2],1,0,none⟩) 1000
  ·exact rfl
  ·exact rfl
  ·intro Tv Ov hc2 hp9 hd9 hk9
   obtain ⟨R0,rfl⟩:=split1 (hp9 0 _ rfl)
   refine K.st ?_
   refine WpL.store tabOk rfl rfl rfl rfl rfl rfl rfl rfl (Nat.le_of_ble_eq_true rfl) ?_
   refine WpL.weak (Weak.any1 (d:=1000)) ?_
   exact WpL.nil (Only.mk rfl)
  ·exact rfl
  ·exact rfl
  apply HeadR.consN (.step 1 ⟨[I W2,I H2,IL P2],1,0,none⟩) 1001
  ·exact rfl
  ·exact rfl
  ·intro Tv Ov hc2 hp9 hd9 hk9
   obtain ⟨A0,R0,rfl⟩:=split2 (hp9 1 _ rfl)
   refine K.st ?_
   refine WpL.store tabOk rfl rfl rfl rfl rfl rfl rfl rfl (Nat.le_of_ble_eq_true rfl) ?_
   refine WpL.weak (Weak.any1 (d:=1001)) ?_
   exact WpL.nil (Only.mk rfl)
  ·exact rfl
  ·exact rfl
  exact HeadR.nil
 ·exact rfl
 ·exact rfl
 ·exact rfl
 ·exact rfl
 ·exact rfl
 ·exact rfl
 ·exact rfl
 try dsimp only [List.append,List.cons_append,List.nil_append]
 refine goR (r:=?_);and_intros<;>intros<;>try exact True.intro
 all_goals first|contradiction|omega|(rename_i hg;exact absurd (by simp) hg)|skip
 refine K.call ?_
 refine WpL.callF hi snapA locA outA rfl rfl rfl (by decide) ?_
 refine goR (r:=?_);and_intros<;>intros<;>try exact True.intro
 all_goals first|contradiction|omega|exact hsm|(simp only [hml,hmm];done)|(simp only [hml,hmm];omega)|(rw [hml];exact hmi.symm)|(exfalso;rename_i hg;simp only [hml,hmm] at hg;omega)|(exfalso;rename_i hg;simp only [hml,hmm,eq_self_iff_true,not_true_eq_false] at hg;done)|(exfalso;rename_i hg;revert hg;simp;done)|skip
 try dsimp only [List.append]
 apply WpA.regionMG 5 mixed (by decide +kernel)
 ·exact rfl
 ·apply HeadJ.consF rfl
  ·exact rfl
  ·exact in1
  ·exact rfl
  apply HeadJ.consF rfl
  ·exact rfl
  ·exact in1
  ·exact rfl
  apply HeadJ.consF rfl
  ·exact rfl
  ·intro Tv
   refine K.call ?_
   apply WpL.callI (toFrame_c.ok W H p (by omega))
   ·exact snapA
   ·exact locA
   ·exact outA
   ·exact frzA
   ·decide
   ·exact WpL.nil (Only.mk rfl)
  ·exact rfl
  apply HeadJ.consF rfl
  ·exact rfl
  ·exact in1
  ·exact rfl
  apply HeadJ.consF rfl
  ·exact rfl
  ·exact in1
  ·exact rfl
  exact Abs.HeadJ.nil
 ·exact trueA
 ·exact trueA
 ·exact rfl
 ·exact rfl
 refine goR (r:=?_);and_intros<;>intros<;>try exact True.intro
 all_goals first|contradiction|omega|exact hsm|(simp only [hml,hmm];done)|(simp only [hml,hmm];omega)|(rw [hml];exact hmi.symm)|(exfalso;rename_i hg;simp only [hml,hmm] at hg;omega)|(exfalso;rename_i hg;simp only [hml,hmm,eq_self_iff_true,not_true_eq_false] at hg;done)|(exfalso;rename_i hg;revert hg;simp;done)|skip
 try dsimp only [List.append]
 apply WpA.regionMG 5 mixed (by decide +kernel)
 ·exact rfl
 ·apply HeadJ.consF rfl
  ·exact rfl
  ·exact in1
  ·exact rfl
  apply HeadJ.consF rfl
  ·exact rfl
  ·exact in1
  ·exact rfl
  apply HeadJ.consF rfl
  ·exact rfl
  ·intro Tv
   refine K.call ?_
   apply WpL.callI (toOptions_c.ok q b d l m e ⟨by omega,by omega,by omega⟩)
   ·exact snapA
   ·exact locA
   ·exact outA
   ·exact FrzR.one (.agg (.keep rfl rfl (.keep rfl rfl (.keep rfl rfl (.own rfl rfl rfl (by simp) rfl (Snap.same rfl (still_ints _) (nofre_ints _)) (.own rfl rfl rfl (by simp) rfl (Snap.same rfl (still_ints _) (nofre_ints _)) (.own rfl rfl rfl (by simp) rfl (Snap.same rfl (still_bools _) (nofre_bools _)) .nil)))))) .nil)
   ·decide
   ·exact WpL.nil (Only.mk rfl)
  ·exact rfl
  apply HeadJ.consF rfl
  ·exact rfl
  ·exact in1
  ·exact rfl
  apply HeadJ.consF rfl
  ·exact rfl
  ·exact in1
  ·exact rfl
  exact Abs.HeadJ.nil
 ·exact trueA
 ·exact trueA
 ·exact rfl
 ·exact rfl
 refine goR (r:=?_);and_intros<;>intros<;>try exact True.intro
 all_goals first|contradiction|omega|exact hsm|(simp only [hml,hmm];done)|(simp only [hml,hmm];omega)|(rw [hml];exact hmi.symm)|(exfalso;rename_i hg;simp only [hml,hmm] at hg;omega)|(exfalso;rename_i hg;simp only [hml,hmm,eq_self_iff_true,not_true_eq_false] at hg;done)|(exfalso;rename_i hg;revert hg;simp;done)|skip
 try dsimp only [List.append,List.cons_append,List.nil_append]
 apply WpA.regionRF (O:=[FrO W H p,OpO q b d l m e,⟨[I w2,I h2,I q2,B b2,B d2,IL L2,MbL M2],1,0,none⟩,⟨[I W2,I H2,IL P2],1,0,none⟩,deadO,deadO,IN (marksI 1 p.length),⟨[I W,I H,.own 6 0 0 p.length],0,0,none⟩,IN (marksI (1+(p.length:Int)) l.length),IN (marksI (1+(p.length:Int)+(l.length:Int)) m.length),BN (marksB (1+(p.length:Int)+(l.length:Int)+(m.length:Int)) e.length),⟨[I q,B b,B d,.own 8 0 0 l.length,.own 9 0 0 m.length,.own 10 0 0 e.length],0,0,none⟩,IN (marksI 1 L2.length),MbN (markM (1+(L2.length:Int)) M2),IN (marksI (1+(L2.length:Int)+(mw M2:Int)) P2.length),⟨[I w2,I h2,I q2,B b2,B d2,.own 12 0 0 L2.length,.own 13 0 0 M2.length],0,0,none⟩,⟨[I W2,I H2,.own 14 0 0 P2.length],0,0,none⟩]) (Or:=[]) (O1:=[FrO W H p,OpO q b d l m e,⟨[I w2,I h2,I q2,B b2,B d2,IL L2,MbL M2],1,0,none⟩,⟨[I W2,I H2,IL P2],1,0,none⟩,deadO,deadO,IN (marksI 1 p.length),⟨[I W,I H,.own 6 0 0 p.length],0,0,none⟩,IN (marksI (1+(p.length:Int)) l.length),IN (marksI (1+(p.length:Int)+(l.length:Int)) m.length),BN (marksB (1+(p.length:Int)+(l.length:Int)+(m.length:Int)) e.length),⟨[I q,B b,B d,.own 8 0 0 l.length,.own 9 0 0 m.length,.own 10 0 0 e.length],0,0,none⟩,IN (marksI 1 L2.length),MbN (markM (1+(L2.length:Int)) M2),IN (marksI (1+(L2.length:Int)+(mw M2:Int)) P2.length),⟨[I w2,I h2,I q2,B b2,B d2,.own 12 0 0 L2.length,.own 13 0 0 M2.length],0,0,none⟩,⟨[I W2,I H2,.own 14 0 0 P2.length],0,0,none⟩]++[⟨[I w2,I h2,I q2,B b2,B d2,IL L2,MbL M2],1,0,none⟩,⟨[I W2,I H2,IL P2],1,0,none⟩,deadO,deadO]) 12 2 [] [0,1] rfl mixed (by decide +kernel)
 ·exact rfl
 ·apply HeadR.consF .none rfl
  ·exact rfl
  ·exact rfl
  ·exact in1
  ·exact rfl
  ·exact rfl
  apply HeadR.consF .none rfl
  ·exact rfl
  ·exact rfl
  ·intro Tv Ov hc2 hp9 hd9 hk9
   refine K.call ?_
   apply WpL.callI (toFrame_c.ok W H p (by omega))
   ·exact snapA
   ·exact locA
   ·exact outA
   ·exact frzA
   ·decide
   ·exact WpL.nil (Only.mk rfl)
  ·exact rfl
  ·exact rfl
  apply HeadR.consF .none rfl
  ·exact rfl
  ·exact rfl
  ·exact in1
  ·exact rfl
  ·exact rfl
  apply HeadR.consF .none rfl
  ·exact rfl
  ·exact rfl
  ·intro Tv Ov hc2 hp9 hd9 hk9
   refine K.call ?_
   apply WpL.callI (toOptions_c.ok q b d l m e ⟨by omega,by omega,by omega⟩)
   ·exact snapA
   ·exact locA
   ·exact outA
   ·exact FrzR.one (.agg (.keep rfl rfl (.keep rfl rfl (.keep rfl rfl (.own rfl rfl rfl (by simp) rfl (Snap.same rfl (still_ints _) (nofre_ints _)) (.own rfl rfl rfl (by simp) rfl (Snap.same rfl (still_ints _) (nofre_ints _)) (.own rfl rfl rfl (by simp) rfl (Snap.same rfl (still_bools _) (nofre_bools _)) .nil)))))) .nil)
   ·decide
   ·exact WpL.nil (Only.mk rfl)
  ·exact rfl
  ·exact rfl
  apply HeadR.consF .none rfl
  ·exact rfl
  ·exact rfl
  ·intro Tv Ov hc2 hp9 hd9 hk9
   refine K.call ?_
   apply WpL.callK hz
   ·exact .agg (.keep rfl rfl (.keep rfl rfl (.keep rfl rfl .nil))) (.agg (.keep rfl rfl (.keep rfl rfl (.keep rfl rfl (.keep rfl rfl (.keep rfl rfl (.keep rfl rfl .nil)))))) .nil)
   ·decide
   ·exact WpL.nil (Only.mk rfl)
  ·exact rfl
  ·exact rfl
  apply HeadR.consF .none rfl
  ·exact rfl
  ·exact rfl
  ·exact in1
  ·exact rfl
  ·exact rfl
  apply HeadR.consF .none rfl
  ·exact rfl
  ·exact rfl
  ·exact in1
  ·exact rfl
  ·exact rfl
  apply HeadR.consF .none rfl
  ·exact rfl
  ·exact rfl
  ·exact in1
  ·exact rfl
  ·exact rfl
  apply HeadR.consF (V:=.ptr 17 1 0) (.put 0 ⟨[I 0,I 0,I 0,B false,B false,.nilS,.nilS],1,0,none⟩) rfl
  ·exact rfl
  ·exact rfl
  ·intro Tv Ov hc2 hp9 hd9 hk9
   refine WpL.allocStruct tabOk rfl (nid_len _ 0) (by decide) ?_
   apply WpL.putV (p:=0)
   ·exact .ptr (by first|rfl|exact Nat.zero_add _) .nil
   ·exact hp9 0 _ rfl
   ·exact Nat.zero_le _
   ·exact rfl
   ·exact rfl
  ·exact rfl
  ·exact rfl
  apply HeadR.consF (V:=.ptr 18 1 0) (.put 1 ⟨[I 0,I 0,.nilS],1,0,none⟩) rfl
  ·exact rfl
  ·exact rfl
  ·intro Tv Ov hc2 hp9 hd9 hk9
   refine WpL.allocStruct tabOk rfl (nid_len _ 0) (by decide) ?_
   apply WpL.putV (p:=1)
   ·exact .ptr (by first|rfl|exact Nat.zero_add _) .nil
   ·exact hp9 1 _ rfl
   ·exact Nat.zero_le _
   ·exact rfl
   ·exact rfl
  ·exact rfl
  ·exact rfl
  apply HeadR.consN (.step 0 ⟨[I w2,I h2,I q2,B b2,B d2,IL L2,MbL M2],1,0,none⟩) 2000
  ·exact rfl
  ·exact rfl
  ·intro Tv Ov hc2 hp9 hd9 hk9
   obtain ⟨R0,rfl⟩:=split1 (hp9 0 _ rfl)
   refine K.st ?_
   refine WpL.store tabOk rfl rfl rfl rfl rfl rfl rfl rfl (Nat.le_of_ble_eq_true rfl) ?_
   refine WpL.weak (Weak.any1 (d:=2000)) ?_
   exact WpL.nil (Only.mk rfl)
  ·exact rfl
  ·exact rfl
  apply HeadR.consN (.step 1 ⟨[I W2,I H2,IL P2],1,0,none⟩) 2001
  ·exact rfl
  ·exact rfl
  ·intro Tv Ov hc2 hp9 hd9 hk9
   obtain ⟨A0,R0,rfl⟩:=split2 (hp9 1 _ rfl)
   refine K.st ?_
   refine WpL.store tabOk rfl rfl rfl rfl rfl rfl rfl rfl (Nat.le_of_ble_eq_true rfl) ?_
   refine WpL.weak (Weak.any1 (d:=2001)) ?_
   exact WpL.nil (Only.mk rfl)
  ·exact rfl
  ·exact rfl
  exact HeadR.nil
 ·exact rfl
 ·exact rfl
 ·exact rfl
 ·exact rfl
 ·exact rfl
 ·exact rfl
 ·exact rfl
 try dsimp only [List.append,List.cons_append,List.nil_append]
 refine goR (r:=?_);and_intros<;>intros<;>try exact True.intro
 all_goals first|contradiction|omega|exact hsm|(simp only [hml,hmm];done)|(simp only [hml,hmm];omega)|(rw [hml];exact hmi.symm)|(exfalso;rename_i hg;simp only [hml,hmm] at hg;omega)|(exfalso;rename_i hg;simp only [hml,hmm,eq_self_iff_true,not_true_eq_false] at hg;done)|(exfalso;rename_i hg;revert hg;simp;done)
theorem ens_big (W H:Int) (p:List Int) (q:Int) (b d:Bool) (l m:List Int) (e:List Bool) (hl:p.length≤9223372036854775807∧l.length≤9223372036854775807∧m.length≤9223372036854775807∧e.length≤9223372036854775807) (hb:¬p.length+l.length+m.length+e.length≤1048576):Fn 6 [FrA W H p,OpA q b d l m e] [] (B true):=by
 refine FnC.of_body tabOk Tryz.func6 Tryz.ntmps6 rfl (by decide +kernel) (by simp) fun G=>?_
 refine goR (r:=?_);and_intros<;>intros<;>try exact True.intro
 all_goals first|contradiction|omega|(exfalso;omega)
theorem EncodeStream_w0 (w h q:Int) (b d:Bool) (L ms F:List Int) (es:List Bool) (hl:F.length≤1099511627776∧L.length≤1099511627776) (hn:¬(FrameOk w h F∧OptOk q L)):
 Fn 22 [FrA w h F,OpA q b d L ms es] [XI [],MbO [],IN []] (.tup [.agg [I 0,I 0,I 0,B false,B false,.own 0 0 0 0,.own 1 0 0 0],.agg [I 0,I 0,.own 2 0 0 0]]):=by
 by_cases hF:FrameOk w h F
 ·have ho:¬OptOk q L:=fun ho=>hn ⟨hF,ho⟩
  have hfo:=decide_eq_true hF
  have hoo:=decide_eq_false ho
  refine FnC.of_body tabOk Tryz.func22 Tryz.ntmps22 rfl (by decide +kernel) (by simp) fun G=>?_
  refine go (r:=?_);and_intros<;>intros<;>try exact True.intro
  all_goals first|contradiction|omega
 ·have hfo:=decide_eq_false hF
  refine FnC.of_body tabOk Tryz.func22 Tryz.ntmps22 rfl (by decide +kernel) (by simp) fun G=>?_
  refine go (r:=?_);and_intros<;>intros<;>try exact True.intro
  all_goals first|contradiction|omega
theorem FnExactEncodeStream_c (W H:Int) (p:List Int) (q:Int) (b d:Bool) (l m:List Int) (e:List Bool) (hl:p.length≤9223372036854775807∧l.length≤9223372036854775807∧m.length≤9223372036854775807∧e.length≤9223372036854775807):Fn 6 [FrA W H p,OpA q b d l m e] [] (B true):=by
 by_cases hb:p.length+l.length+m.length+e.length≤1048576
 ·by_cases hok:FrameOk W H p∧OptOk q l
  ·obtain ⟨hF,ho⟩:=hok
   have hst:=encT_ok (b:=b) (ms:=m) (es:=e) hF ho
   have hmw:=st_mw hst
   have hrl:(refL W H q b d (encT W H q b l m p e)).length≤1024:=by
    have hsd:=hF.1
    have h2:W*H≤32*32:=Int.mul_le_mul hsd.2.1 hsd.2.2.2.1 (by have:=hsd.2.2.1;omega) (by have:=hsd.1;omega)
    unfold refL zerP
    rw [endL_len,bldM_len,List.length_replicate];omega
   exact ensX W H p q b d l m e W H q b d l (encT W H q b l m p e) W H (refL W H q b d (encT W H q b l m p e)) ⟨by omega,by omega,by omega,by omega,hb⟩ ⟨by omega,hmw.1,hrl⟩ (EncodeStream_s1 W H q b d l m p e hF ho ⟨by omega,by omega⟩) (EncodeStream_w W H q b d l m p e hF ho ⟨by omega,by omega⟩) (EncodeStream_1 W H q b d l m p e hF ho ⟨by omega,by omega⟩)
  ·refine ensX W H p q b d l m e 0 0 0 false false [] [] 0 0 [] ⟨by omega,by omega,by omega,by omega,hb⟩ ⟨by decide,by decide,by decide⟩ ?_ ?_ ?_
   ·exact FnC.stillT (EncodeStream_s0 W H q b d l m p e ⟨by omega,by omega⟩ hok) (.agg (.keep rfl rfl (.keep rfl rfl (.keep rfl rfl (.keep rfl rfl (.keep rfl rfl (.nilI (.nilI .nil))))))) (.agg (.keep rfl rfl (.keep rfl rfl (.nilI .nil))) .nil))
   ·exact EncodeStream_w0 W H q b d l m p e ⟨by omega,by omega⟩ hok
   ·exact FnC.stillT (EncodeStream_0 W H q b d l m p e ⟨by omega,by omega⟩ hok) (.agg (.keep rfl rfl (.keep rfl rfl (.keep rfl rfl (.keep rfl rfl (.keep rfl rfl (.nilI (.nilI .nil))))))) (.agg (.keep rfl rfl (.keep rfl rfl (.nilI .nil))) .nil))
 ·exact ens_big W H p q b d l m e hl hb
end Go.Proofs.YtainhhfnnclfiaaGreat


namespace Go.Abs
open Go Go.RowKit
theorem FnC.walk {P:Program} {f:FuncId} {args:List AV} {N:List AObj} {x:Value} (hc:FnC P f args N (.sc x)) {w:World} {S:Nat→Prop} {vs:List Value} (hS:∀b,S b→b<w.heap.size)
 (hl:LRel S w (fun _=>none) [] args vs []):Calls P f vs.toArray w fun e w'=>e=.returned x∧Below w.heap.size w w':=by
 refine (hc.2 w S vs hS hl).mono fun e w' h=>?_
 obtain ⟨v,S',ι,F,rfl,_,_,_,_,_,hv,hk⟩:=h
 cases hv with
 |sc r=>exact ⟨rfl,hk.os,hk.tape,hk.output,hk.size,fun b hb=>hk.block b hb (fun h=>h)⟩
theorem spot_none {w:World} {x:Addr} {n:Nat} (h:0<n) (hc:∀i,i<n→∃v,w.cell? (x.add i)=some v):x.spot=none:=by
 obtain ⟨v,hv⟩:=hc 0 h
 simpa [Addr.add] using World.cell?_spot hv
end Go.Abs


namespace Go.Abs
open Go Go.RowKit
inductive Sp where
 |int (k:IntKind)|bool|str|struct (fs:List Sp)|slice (k:Nat) (e:Sp)
mutual
inductive SpOk (P:Program):TypeId→Sp→Prop
 |int {t k}:P.underlying t=some (.int k)→SpOk P t (.int k)
 |bool {t}:P.underlying t=some .bool→SpOk P t .bool
 |str {t}:P.underlying t=some .string→SpOk P t .str
 |struct {t fs sps n}:P.underlying t=some (.struct fs)→P.cellsOf t=n→SpF P 0 fs.toList sps n→SpOk P t (.struct sps)
 |slice {t e k sp}:P.underlying t=some (.slice e)→P.cellsOf e=k→0<k→SpOk P e sp→SpOk P t (.slice k sp)
inductive SpF (P:Program):Nat→List Field→List Sp→Nat→Prop
 |nil {k}:SpF P k [] [] k
 |cons {k c f fs sp sps n}:f.offset=k→P.cellsOf f.type=c→SpOk P f.type sp→SpF P (k+c) fs sps n→SpF P k (f::fs) (sp::sps) n
end
mutual
inductive Rd:Sp→List AV→Prop
 |int {k n}:(Lit.int k n).wf=true→Rd (.int k) [.sc (.int k n)]
 |bool {b}:Rd .bool [.sc (.bool b)]
 |str {p:List UInt8}:p.length≤maxLen→Rd .str [.sc (.string ⟨p.toArray⟩)]
 |struct {sps cs}:RdF sps cs→Rd (.struct sps) cs
 |slice {sp len k cs}:len≤maxLen→RdN sp len k cs→Rd (.slice k sp) [.imm k len cs]
inductive RdF:List Sp→List AV→Prop
 |nil:RdF [] []
 |cons {sp sps a b}:Rd sp a→RdF sps b→RdF (sp::sps) (a++b)
inductive RdN:Sp→Nat→Nat→List AV→Prop
 |nil {sp k}:RdN sp 0 k []
 |snoc {sp n k a b}:RdN sp n k a→Rd sp b→b.length=k→RdN sp (n+1) k (a++b)
end
theorem RdN.len {sp n k cs} (h:RdN sp n k cs):cs.length=n*k:=by
 induction n generalizing cs with
 |zero=>cases h;simp
 |succ n ih=>cases h with|snoc h1 h2 h3=>rw [List.length_append,ih h1,h3,Nat.add_mul];omega
section
variable {H:Type} {enc:TypeId×Value→H} {P:Program} {w:World} {base:Nat} {spare:Nat→Bool} {held:Bool}
theorem read {S:Nat→Prop} {ι:Nat→Spot} (hS:∀b,b<w.heap.size→S b):∀(fuel:Nat) (t:TypeId) (sp:Sp) (cs:List Value) (x:DataW H×List MemPlace),SpOk P t sp→
 DataW.trod enc P w base spare held fuel t cs=some x→∃ds,Rd sp ds∧∀O,LRel S w ι O ds cs []:=by
 intro fuel
 induction fuel with
 |zero=>intro t sp cs x _ h;simp [DataW.trod] at h
 |succ fuel ih=>
  intro t sp cs x hsp h
  cases hsp with
  |int ht=>
   obtain ⟨n,rfl,_,hw⟩:=DataW.trod_int ht h
   exact ⟨_,.int hw,fun O=>.sc .nil⟩
  |bool ht=>
   obtain ⟨b,rfl,_⟩:=DataW.trod_bool ht h
   exact ⟨_,.bool,fun O=>.sc .nil⟩
  |str ht=>
   obtain ⟨s,rfl,_,hs⟩:=DataW.trod_string ht h
   exact ⟨[.sc (.string ⟨s.data.toList.toArray⟩)],.str (by have:s.data.toList.length=s.size:=rfl;omega),fun O=>.sc .nil⟩
  |@struct _ fs sps n ht hn hf=>
   obtain ⟨xs,m,hm,_,hlen,hxl,hel⟩:=DataW.trod_struct ht h
   obtain rfl:fuel=m:=by omega
   have key:∀(fl:List Field) (k:Nat) (sps:List Sp),SpF P k fl sps n→(∀ f∈fl,∃x,DataW.trod enc P w base spare held fuel f.type ((cs.drop f.offset).take (P.cellsOf f.type))=some x)→
    k≤n→∃ds,RdF sps ds∧∀O,LRel S w ι O ds (cs.drop k) []:=by
    intro fl
    induction fl with
    |nil=>
     intro k sps hF _ _
     cases hF
     exact ⟨[],.nil,fun O=>by rw [List.drop_eq_nil_of_le (by omega)];exact .nil⟩
    |cons f fl ihf=>
     intro k sps hF hx hk
     cases hF with
     |cons h1 h2 h3 h4=>
      obtain ⟨y,hy⟩:=hx f (by simp)
      obtain ⟨d1,r1,l1⟩:=ih _ _ _ _ h3 hy
      have hkn:∀{k fl sps},SpF P k fl sps n→k≤n:=by
       intro k fl
       induction fl generalizing k with
       |nil=>intro sps h;cases h;exact Nat.le_refl _
       |cons f fl ih2=>intro sps h;cases h with|cons _ _ _ h=>have:=ih2 h;omega
      obtain ⟨d2,r2,l2⟩:=ihf _ _ h4 (fun g hg=>hx g (by simp [hg])) (hkn h4)
      refine ⟨d1++d2,.cons r1 r2,fun O=>?_⟩
      have e:cs.drop k=(cs.drop f.offset).take (P.cellsOf f.type)++cs.drop (k+P.cellsOf f.type):=by
       rw [h1,←List.drop_drop,List.take_append_drop]
      rw [e,h2]
      rw [h2] at l1
      simpa using (l1 O).append (l2 O)
   obtain ⟨ds,r,l⟩:=key fs.toList 0 sps hf (fun f hf'=>by
    obtain ⟨i,hi⟩:=List.getElem?_of_mem hf'
    have hi':fs[i]?=some f:=by simpa using hi
    have:=hel i f hi'
    have hlt:i<xs.length:=by have:=(Array.getElem?_eq_some_iff.1 hi').1;omega
    exact ⟨xs[i],by rw [this];simp [hlt]⟩) (Nat.zero_le _)
   exact ⟨ds,.struct r,fun O=>by simpa using l O⟩
  |@slice _ e k sp ht hk hk0 he=>
   rcases DataW.trod_slice ht h with ⟨rfl,_⟩|⟨a,len,cap,elems,rest,m,hm,rfl,_,hb,hl,hc,hlen,hel,_,_⟩
   ·exact ⟨[.imm k 0 []],.slice (by simp) .nil,fun O=>.imm0 (by simp) .nil⟩
   obtain rfl:fuel=m:=by omega
   have cells:∀j,j≤len→∃ds us,RdN sp j k ds∧us.length=j*k∧(∀ i,i<us.length→w.cell? (a.add i)=us[i]?)∧LRel S w ι [] ds us []:=by
    intro j
    induction j with
    |zero=>intro _;exact ⟨[],[],.nil,by simp,by simp,.nil⟩
    |succ j ihj=>
     intro hj
     obtain ⟨ds,us,h1,h2,h3,h4⟩:=ihj (by omega)
     have hx:=hel j (by omega)
     have hlt:j<elems.length:=by omega
     rw [List.getElem?_eq_getElem hlt,Option.bind_eq_some_iff,hk] at hx
     obtain ⟨us2,hu,ht2⟩:=hx
     obtain ⟨d2,r2,l2⟩:=ih _ _ _ _ he ht2
     obtain ⟨_,c2,c3⟩:=World.cells?_some hu
     have l2':=l2 []
     have hd2:d2.length=k:=by rw [l2'.len,c2]
     refine ⟨ds++d2,us++us2,.snoc h1 r2 hd2,by rw [List.length_append,h2,c2,Nat.add_mul];omega,fun i hi=>?_,by simpa using h4.append l2'⟩
     rw [List.length_append] at hi
     by_cases hlt2:i<us.length
     ·rw [h3 i hlt2,List.getElem?_append_left hlt2]
     ·have hadd:a.add i=(a.add (j*k)).add (i-j*k):=by
       unfold Addr.add
       by_cases hz:j*k=0
       ·simp [hz]
       ·by_cases hz2:i-j*k=0
        ·have:i=j*k:=by omega
         simp [this]
        ·rw [if_neg (by omega),if_neg hz,if_neg hz2]
         simp only [Addr.mk.injEq,true_and,and_true]
         omega
      rw [hadd,c3 (i-j*k) (by omega),List.getElem?_append_right (by omega),h2]
   obtain ⟨ds,us,h1,h2,h3,h4⟩:=cells len (Nat.le_refl _)
   refine ⟨[.imm k len ds],.slice (by omega) h1,fun O=>?_⟩
   by_cases h0:len=0
   ·subst h0
    cases h1
    exact .imm0 ⟨by simp,hc⟩ .nil
   ·have hul:0<us.length:=by rw [h2];exact Nat.mul_pos (by omega) hk0
    have hsp:=spot_none (w:=w) (x:=a) (n:=us.length) hul fun i hi=>⟨us[i],by rw [h3 i hi];simp [hi]⟩
    obtain ⟨b,o,q⟩:=a
    simp only at hsp
    subst hsp
    have hcell:∀i,i<us.length→w.cell? ⟨b,o+i,none⟩=us[i]?:=fun i hi=>by have:=h3 i hi;rwa [addr_add] at this
    refine .imm (us:=us) (hS _ ?_) hcell h4 (by rw [h1.len]) hl hc .nil
    by_cases hb':b<w.heap.size
    ·exact hb'
    ·have:=hcell 0 hul
     simp [World.cell?,Array.getElem?_eq_none (Nat.le_of_not_lt hb'),hul] at this
end
end Go.Abs


namespace Go.Abs
open Go Go.RowKit
abbrev i64 (n:Int):Prop:=-9223372036854775808≤n∧n≤9223372036854775807
theorem i64_wf {n:Int} (h:(Lit.int .i64 n).wf=true):i64 n:=by
 simp only [Lit.wf,Bool.and_eq_true,decide_eq_true_eq,show IntKind.i64.min=-9223372036854775808 from rfl,show IntKind.i64.max=9223372036854775807 from rfl] at h
 exact h
theorem rd_int {ds:List AV} (h:Rd (.int .i64) ds):∃n:Int,ds=[I n]∧i64 n:=by
 cases h with|int hw=>exact ⟨_,rfl,i64_wf hw⟩
theorem rd_bool {ds:List AV} (h:Rd .bool ds):∃b:Bool,ds=[B b]:=by
 cases h with|bool=>exact ⟨_,rfl⟩
theorem rdN_ints {n:Nat} {cs:List AV} (h:RdN (.int .i64) n 1 cs):∃xs:List Int,cs=ints xs∧xs.length=n∧∀x∈xs,i64 x:=by
 induction n generalizing cs with
 |zero=>cases h;exact ⟨[],rfl,rfl,by simp⟩
 |succ n ih=>
  cases h with
  |snoc h1 h2 h3=>
   obtain ⟨xs,rfl,h5,h6⟩:=ih h1
   obtain ⟨m,rfl,hm⟩:=rd_int h2
   refine ⟨xs++[m],by simp [ints],by simp [h5],fun x hx=>?_⟩
   rcases List.mem_append.1 hx with hx|hx
   ·exact h6 x hx
   ·have:x=m:=by simpa using hx
    subst this;exact hm
theorem rd_ints {ds:List AV} (h:Rd (.slice 1 (.int .i64)) ds):∃xs:List Int,ds=[IL xs]∧xs.length≤9223372036854775807∧∀x∈xs,i64 x:=by
 cases h with
 |slice hl hn=>
  obtain ⟨xs,rfl,h1,h2⟩:=rdN_ints hn
  subst h1
  exact ⟨xs,rfl,by simp only [maxLen] at hl;omega,h2⟩
theorem rdN_bools {n:Nat} {cs:List AV} (h:RdN .bool n 1 cs):∃xs:List Bool,cs=bools xs∧xs.length=n:=by
 induction n generalizing cs with
 |zero=>cases h;exact ⟨[],rfl,rfl⟩
 |succ n ih=>
  cases h with
  |snoc h1 h2 h3=>
   obtain ⟨xs,rfl,h5⟩:=ih h1
   obtain ⟨m,rfl⟩:=rd_bool h2
   exact ⟨xs++[m],by simp [bools],by simp [h5]⟩
theorem rd_bools {ds:List AV} (h:Rd (.slice 1 .bool) ds):∃xs:List Bool,ds=[.imm 1 xs.length (bools xs)]∧xs.length≤9223372036854775807:=by
 cases h with
 |slice hl hn=>
  obtain ⟨xs,rfl,h1⟩:=rdN_bools hn
  subst h1
  exact ⟨xs,rfl,by simp only [maxLen] at hl;omega⟩
theorem rd_struct {sps:List Sp} {ds:List AV} (h:Rd (.struct sps) ds):RdF sps ds:=by
 cases h with|struct h=>exact h
theorem rdF_cons {sp:Sp} {sps:List Sp} {ds:List AV} (h:RdF (sp::sps) ds):∃a b,ds=a++b∧Rd sp a∧RdF sps b:=by
 cases h with|cons h1 h2=>exact ⟨_,_,rfl,h1,h2⟩
theorem rdF_nil {ds:List AV} (h:RdF [] ds):ds=[]:=by cases h;rfl
abbrev spI:Sp:=.int .i64
abbrev spIs:Sp:=.slice 1 (.int .i64)
theorem rd_frame {ds:List AV} (h:Rd (.struct [spI,spI,spIs]) ds):∃(W H:Int) (p:List Int),ds=[I W,I H,IL p]∧i64 W∧i64 H∧p.length≤9223372036854775807∧∀x∈p,i64 x:=by
 obtain ⟨_,_,rfl,h1,h⟩:=rdF_cons (rd_struct h)
 obtain ⟨_,_,rfl,h2,h⟩:=rdF_cons h
 obtain ⟨_,_,rfl,h3,h⟩:=rdF_cons h
 obtain rfl:=rdF_nil h
 obtain ⟨W,rfl,a1⟩:=rd_int h1
 obtain ⟨H,rfl,a2⟩:=rd_int h2
 obtain ⟨p,rfl,a3,a4⟩:=rd_ints h3
 exact ⟨W,H,p,rfl,a1,a2,a3,a4⟩
theorem lrel_agg {S:Nat→Prop} {w:World} {ι:Nat→Spot} {O:List AObj} {ds:List AV} {cs:Array Value} (h:LRel S w ι O ds cs.toList []):VRel S w ι O (.agg ds) (.agg cs) []:=by
 simpa using LRel.agg h .nil
theorem lrel_cons0 {S:Nat→Prop} {w:World} {ι:Nat→Spot} {O:List AObj} {V:AV} {v:Value} {cs:List AV} {vs:List Value} (h1:VRel S w ι O V v []) (h2:LRel S w ι O cs vs []):LRel S w ι O (V::cs) (v::vs) []:=LRel.cons h1 h2
end Go.Abs


namespace Go.Proofs.YtainhhfnnclfiaaGreat
open Go Go.Abs Go.RowKit
@[irreducible] def WfI (l:List Int):Prop:=∀x∈l,i64 x
theorem wfI_of {l:List Int} (h:∀x∈l,i64 x):WfI l:=by unfold WfI;exact h
abbrev spBs:Sp:=.slice 1 .bool
theorem rd_options {ds:List AV} (h:Rd (.struct [spI,.bool,.bool,spIs,spIs,spBs]) ds):∃(q:Int) (b d:Bool) (l m:List Int) (e:List Bool),ds=[I q,B b,B d,IL l,IL m,BL e]∧i64 q∧l.length≤9223372036854775807∧WfI l∧m.length≤9223372036854775807∧WfI m∧e.length≤9223372036854775807:=by
 obtain ⟨_,_,rfl,h1,h⟩:=rdF_cons (rd_struct h)
 obtain ⟨_,_,rfl,h2,h⟩:=rdF_cons h
 obtain ⟨_,_,rfl,h3,h⟩:=rdF_cons h
 obtain ⟨_,_,rfl,h4,h⟩:=rdF_cons h
 obtain ⟨_,_,rfl,h5,h⟩:=rdF_cons h
 obtain ⟨_,_,rfl,h6,h⟩:=rdF_cons h
 obtain rfl:=rdF_nil h
 obtain ⟨q,rfl,a1⟩:=rd_int h1
 obtain ⟨b,rfl⟩:=rd_bool h2
 obtain ⟨d,rfl⟩:=rd_bool h3
 obtain ⟨l,rfl,a2,a3⟩:=rd_ints h4
 obtain ⟨m,rfl,a4,a5⟩:=rd_ints h5
 obtain ⟨e,rfl,a6⟩:=rd_bools h6
 exact ⟨q,b,d,l,m,e,rfl,a1,a2,wfI_of a3,a4,wfI_of a5,a6⟩
end Go.Proofs.YtainhhfnnclfiaaGreat
