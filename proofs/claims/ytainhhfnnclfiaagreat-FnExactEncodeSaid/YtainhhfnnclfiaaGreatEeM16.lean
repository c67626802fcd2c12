/- Proved in this text: lemmas and contracts of functions that the claim uses (parts: Enc, AbsFz, Bits, BitsM, BitsH, Ln, SizeL, Unp). No condition. -/
import Derived.Test.YtainhhfnnclfiaaGreatEeM15
import Derived.Test.YtainhhfnnclfiaaGreatEeM12
import Derived.Test.YtainhhfnnclfiaaGreatEeM14
import Derived.Test.YtainhhfnnclfiaaGreatEeM9
import Derived.Test.YtainhhfnnclfiaaGreatEeM11
set_option linter.unusedVariables false
set_option linter.unusedSimpArgs false
set_option maxRecDepth 100000
set_option maxHeartbeats 16000000


namespace Go.Proofs.YtainhhfnnclfiaaGreat
open Go Go.Abs
attribute [local irreducible] WpA WpL Rnd Blk Abs.Seq Abs.Fin Abs.FinG FnC FnG Only
def mbG (b:Mbk):List AV:=[B b.1,.fre 2 b.2.length (rows blkI b.2)]
@[simp] theorem len_mG (l:List Mbk):(rows mbG l).length=l.length*2:=rows_len (f:=mbG) (fun _=>rfl) l
theorem snap_mG {O:List AObj} (b:Mbk):Snap O (mbG b) (mbI b):=.keep rfl rfl (.fre (Snap.same rfl (still_rows (fun _=>rfl) _) (nofre_rows (fun _=>rfl) _)) .nil)
theorem mG_at (M:List Mbk) (x y:AV):(rows mbG M++[x,y])[M.length*2+1]?=some y:=by
 rw [List.getElem?_append_right (by rw [len_mG];omega),len_mG,Nat.add_sub_cancel_left];rfl
theorem mG_set (M:List Mbk) (e:Bool) (y:AV) (bs:List Blok) {n:Nat} (h:bs.length=n):(rows mbG M++[B e,y]).set (M.length*2+1) (.fre 2 n (rows blkI bs))=rows mbG (M++[(e,bs)]):=by
 subst h
 rw [List.set_append_right _ _ (by rw [len_mG];omega),len_mG,Nat.add_sub_cancel_left,rows_append,rows_one];rfl
abbrev ChG (g:Nat) (cs:List AV) (ch:Chs):Prop:=∀(c:Nat) (k t l:List Int) (co:Int) (a b:Bool) (n:Int),c≤1048576∧k.length≤1024∧t.length≤1024∧l.length≤1024→Fn g [I c,IL k,NbA t l co a b,I n,.iptr cs 0] [] (I (ch c k t l co a b n))
def eiF (es:List Bool) (k:Nat):Bool:=if 0<es.length then es.getD (k%es.length) false else false
theorem eiF_1 {es:List Bool} (h:0<es.length) (k:Nat):eiF es k=es.getD (k%es.length) false:=if_pos h
theorem encB_snoc (a:EncA) (e:Bool) (k c:Nat) (P:List Int) (i:Nat):(encB a e k c P (i+1))=((encB a e k c P i).1++[(chM a.W a.H a.F a.ch (c+i) (encB a e k c P i).2 (plc1 a.W (sz8 e) k i).1 (plc1 a.W (sz8 e) k i).2.1 (sz8 e),
        chV a.W a.H a.F a.q a.b a.L (encB a e k c P i).2 (plc1 a.W (sz8 e) k i).1 (plc1 a.W (sz8 e) k i).2.1 (sz8 e) (chM a.W a.H a.F a.ch (c+i) (encB a e k c P i).2 (plc1 a.W (sz8 e) k i).1 (plc1 a.W (sz8 e) k i).2.1 (sz8 e)))],
 putL a.W a.H (encB a e k c P i).2 a.q a.b (plc1 a.W (sz8 e) k i).1 (plc1 a.W (sz8 e) k i).2.1 (chM a.W a.H a.F a.ch (c+i) (encB a e k c P i).2 (plc1 a.W (sz8 e) k i).1 (plc1 a.W (sz8 e) k i).2.1 (sz8 e))
  (chV a.W a.H a.F a.q a.b a.L (encB a e k c P i).2 (plc1 a.W (sz8 e) k i).1 (plc1 a.W (sz8 e) k i).2.1 (sz8 e) (chM a.W a.H a.F a.ch (c+i) (encB a e k c P i).2 (plc1 a.W (sz8 e) k i).1 (plc1 a.W (sz8 e) k i).2.1 (sz8 e)))):=rfl
theorem encB_zero (a:EncA) (e:Bool) (k c:Nat) (P:List Int):encB a e k c P 0=([],P):=rfl
theorem encM_zero (a:EncA) (E:Nat→Bool) (P:List Int):encM a E P 0=([],P,0):=rfl
theorem encM_snoc (a:EncA) (E:Nat→Bool) (P:List Int) (k:Nat):encM a E P (k+1)=((encM a E P k).1++[(E k,(encB a (E k) k (encM a E P k).2.2 (encM a E P k).2.1 (manyE (E k))).1)],
 (encB a (E k) k (encM a E P k).2.2 (encM a E P k).2.1 (manyE (E k))).2,(encM a E P k).2.2+manyE (E k)):=rfl
section
attribute [-instance] Clone_c FrameNew_c placesOf_c BlockAt_c NbAt_c Pred_c Residual_c LevelsFor_c PutRef_c
attribute [local irreducible] encB encM putL endL blkL topL lefL corL predS resS levL
theorem encode_o (w h q:Int) (b d:Bool) (L ms F:List Int) (es:List Bool) (g:Nat) (cs:List AV) (ch:Chs) (hF:FrameOk w h F) (ho:OptOk q L) (hl:ms.length≤1099511627776∧es.length≤1099511627776) (hg:ChG g cs ch):
 Fn 68 [FrA w h F,OpA q b d L ms es,.fn g [.iptr cs 0]] [⟨rows mbG (encM ⟨w,h,q,b,L,F,ch⟩ (eiF es) (zerP w h) (cntM w h).toNat).1,0,2,some 82⟩]
  (.tup [.agg [I w,I h,I q,B b,B d,IL L,.own 0 0 0 (cntM w h).toNat],FrA w h (endL w h q d (encM ⟨w,h,q,b,L,F,ch⟩ (eiF es) (zerP w h) (cntM w h).toNat).2.1)]):=by
 have hsd:=hF.1
 have hcm:=cntM_bd hsd
 have hL6:L.length=6:=ho.2.2.1
 have hz:(zerP w h).length≤1024:=by
  unfold zerP
  rw [List.length_replicate]
  have h2:w*h≤32*32:=Int.mul_le_mul hsd.2.1 hsd.2.2.2.1 (by have:=hsd.2.2.1;omega) (by omega)
  omega
 refine FnC.of_body tabOk Tryz.func68 Tryz.ntmps68 rfl (by decide +kernel) (by simp) fun G=>?_
 refine goR (r:=?_);and_intros<;>intros<;>try exact True.intro
 all_goals first|contradiction|omega|skip
 try dsimp only [List.append,List.cons_append,List.nil_append]
 apply WpA.regionGB 17 mixed (by decide +kernel)
 ·exact rfl
 ·apply HeadG.preF 2 rfl rfl rfl
  ·exact rfl
  ·exact in0
  ·exact rfl
  apply HeadG.preF 2 rfl rfl rfl
  ·exact rfl
  ·exact in0
  ·exact rfl
  apply HeadG.preF 2 rfl rfl rfl
  ·exact rfl
  ·exact in0
  ·exact rfl
  apply HeadG.preF 2 rfl rfl rfl
  ·exact rfl
  ·exact in0
  ·exact rfl
  apply HeadG.preF 2 rfl rfl rfl
  ·exact rfl
  ·exact in0
  ·exact rfl
  apply HeadG.preF 2 rfl rfl rfl
  ·exact rfl
  ·exact in0
  ·exact rfl
  apply HeadG.preF 2 rfl rfl rfl
  ·exact rfl
  ·exact in0
  ·exact rfl
  apply HeadG.preF 2 rfl rfl rfl
  ·exact rfl
  ·exact in0
  ·exact rfl
  apply HeadG.preF 2 rfl rfl rfl
  ·exact rfl
  ·exact in0
  ·exact rfl
  apply HeadG.preF 2 rfl rfl rfl
  ·exact rfl
  ·exact in0
  ·exact rfl
  apply HeadG.preF 2 rfl rfl rfl
  ·exact rfl
  ·exact in0
  ·exact rfl
  apply HeadG.preF 2 rfl rfl rfl
  ·exact rfl
  ·exact in0
  ·exact rfl
  apply HeadG.precF 0 rfl rfl
  ·exact rfl
  ·intro Tv Ov
   refine K.call ?_
   apply WpL.callI (Clone_c.ok L (by omega))
   ·exact snapA
   ·exact locA
   ·exact outA
   ·exact FrzR.one (.own rfl rfl rfl (by simp) rfl (Snap.same rfl (still_ints _) (nofre_ints _)) .nil)
   ·decide
   ·exact WpL.nil (Only.mk rfl)
  ·exact rfl
  apply HeadG.preF 0 rfl rfl rfl
  ·exact rfl
  ·exact in0
  ·exact rfl
  apply HeadG.preF 0 rfl rfl rfl
  ·exact rfl
  ·exact in0
  ·exact rfl
  apply HeadG.stepF rfl rfl
  ·exact rfl
  ·exact in1
  ·exact rfl
  apply HeadG.stepNF rfl
  ·exact rfl
  ·exact in1
  ·exact rfl
  exact Abs.HeadG.nil
 ·exact trueA
 ·exact trueA
 ·exact trueA
 ·exact demA
 ·exact rfl
 ·exact rfl
 refine goR (r:=?_);and_intros<;>intros<;>try exact True.intro
 all_goals first|contradiction|omega|skip
 refine K.call ?_
 apply WpL.callI (FrameNew_c.ok w h hsd)
 ·exact snapA
 ·exact locA
 ·exact outA
 ·exact frzA
 ·decide
 refine goR (r:=?_);and_intros<;>intros<;>try exact True.intro
 all_goals first|contradiction|omega|skip
 have hzl:(w*h).toNat=(zerP w h).length:=by simp [zerP]
 rw [show (List.replicate (w*h).toNat (0:Int))=zerP w h from rfl,hzl]
 have hP0:=zer_ok hsd
 generalize zerP w h=P0 at*
 have hmk:=fun k=>encM_ok (a:=⟨w,h,q,b,L,F,ch⟩) (E:=eiF es) hP0 k
 have hml:=encM_len ⟨w,h,q,b,L,F,ch⟩ (eiF es) P0
 have hmp:=encM_plen ⟨w,h,q,b,L,F,ch⟩ (eiF es) P0
 have hmc:=encM_cnt ⟨w,h,q,b,L,F,ch⟩ (eiF es) P0
 have hms:=encM_snoc ⟨w,h,q,b,L,F,ch⟩ (eiF es) P0
 have hm0:encM ⟨w,h,q,b,L,F,ch⟩ (eiF es) P0 0=([],P0,0):=encM_zero ..
 refine WpA.loop (fun k:Nat=>⟨[(2,.fn g [.iptr cs 0]),(3,.ptr 0 0 0),(4,.ptr 1 0 0),(6,.ptr 2 0 0),(7,.ptr 3 0 0),(8,.ptr 4 0 0),(9,.ptr 5 0 0),(10,I (encM ⟨w,h,q,b,L,F,ch⟩ (eiF es) P0 k).2.2),(41,I (cntM w h)),(42,I k)],[FrO w h F,OpO q b d L ms es,⟨[I 0,I 0,I 0,B false,B false,.nilS,.nilS],0,0,none⟩,⟨[I 0,I 0,.nilS],0,0,none⟩,⟨[I w,I h,I q,B b,B d,IL L,.own 6 0 0 k],0,0,none⟩,FrO w h (encM ⟨w,h,q,b,L,F,ch⟩ (eiF es) P0 k).2.1,⟨rows mbG (encM ⟨w,h,q,b,L,F,ch⟩ (eiF es) P0 k).1,0,2,some 82⟩]⟩) (fun k=>(k:Int)≤cntM w h) (fun k=>(cntM w h).toNat-k) 0 (by omega) ?_ (fun k hk=>?_)
 ·rw [hm0];exact Weak.nil1f (by first|(show 0≤_;exact Nat.zero_le _)|(repeat' (first|exact RyT.nil|refine RyT.cons ?_ ?_|exact Ry.nil|refine Ry.keep rfl rfl ?_|refine Ry.own rfl rfl rfl rfl rfl (by first|rfl|omega|(simp;done)) ?_|refine Ry.ptr rfl rfl rfl rfl ?_|refine Ry.nilO rfl rfl rfl (by first|rfl|omega|(simp;done)) ?_|refine Ry.fn rfl ?_|refine Ry.agg ?_ ?_|exact RyO.last rfl|(refine RyO.cons ?_ (.inr rfl) ?_)|exact Ry.same rfl (still_ints _)|exact Ry.same rfl (still_rows (fun _=>rfl) _)))) (by first|(show 0≤_;exact Nat.zero_le _)|(repeat' (first|exact RyT.nil|refine RyT.cons ?_ ?_|exact Ry.nil|refine Ry.keep rfl rfl ?_|refine Ry.own rfl rfl rfl rfl rfl (by first|rfl|omega|(simp;done)) ?_|refine Ry.ptr rfl rfl rfl rfl ?_|refine Ry.nilO rfl rfl rfl (by first|rfl|omega|(simp;done)) ?_|refine Ry.fn rfl ?_|refine Ry.agg ?_ ?_|exact RyO.last rfl|(refine RyO.cons ?_ (.inr rfl) ?_)|exact Ry.same rfl (still_ints _)|exact Ry.same rfl (still_rows (fun _=>rfl) _)))) (Nat.zero_le _)
 have hmk:=hmk k
 have hml:=hml k
 have hmp:=hmp k
 have hmc:=hmc k
 have hms:=hms k
 by_cases hlt:(k:Int)<cntM w h
 ·refine WpA.hide fun Q' hQ'=>?_
  have hm4:manyE (eiF es k)≤4:=by cases eiF es k<;>decide
  have hei:=fun hh=>eiF_1 (es:=es) hh k
  generalize he:eiF es k=e at*
  generalize encM ⟨w,h,q,b,L,F,ch⟩ (eiF es) P0 k=X at*
  obtain ⟨M,P,c⟩:=X
  dsimp only at hmk hml hmp hmc hms ⊢
  subst hml
  refine goR (r:=?_);and_intros<;>intros<;>try exact True.intro
  all_goals first|contradiction|omega|skip
  have hr1:=fun hh:0<es.length=>Int.emod_lt_of_pos (M.length:Int) (show (0:Int)<(es.length:Int) by omega)
  have hr0:=fun hh:0<es.length=>Int.emod_nonneg (M.length:Int) (show (es.length:Int)≠0 by omega)
  refine WpA.cut (σ1:=⟨[(2,.fn g [.iptr cs 0]),(3,.ptr 0 0 0),(4,.ptr 1 0 0),(6,.ptr 2 0 0),(7,.ptr 3 0 0),(8,.ptr 4 0 0),(9,.ptr 5 0 0),(10,I c),(11,I M.length),(12,.ptr 7 0 0),(41,I (cntM w h)),(42,I M.length)],[FrO w h F,OpO q b d L ms es,⟨[I 0,I 0,I 0,B false,B false,.nilS,.nilS],0,0,none⟩,⟨[I 0,I 0,.nilS],0,0,none⟩,⟨[I w,I h,I q,B b,B d,IL L,.own 6 0 0 M.length],0,0,none⟩,FrO w h P,⟨rows mbG M,0,2,some 82⟩,⟨[B e,.nilS],0,0,none⟩]⟩) ?_ ?_
  ·obtain ⟨g0,hg0⟩:∃g0,decide ((es.length:Int)>0)=g0:=⟨_,rfl⟩
   have hpos:g0=true→0<es.length:=fun hh=>by
    rw [hh] at hg0;have:=of_decide_eq_true hg0;omega
   have hev:g0=true→es.getD ((M.length:Int)%(es.length:Int)).toNat false=e:=fun hh=>by
    rw [hei (hpos hh)];congr 1
   have hef:g0=false→e=false:=fun hh=>by
    rw [←he];unfold eiF;rw [if_neg (fun h0=>by rw [hh] at hg0;have:=of_decide_eq_false hg0;omega)]
   have hr1:=fun hh=>hr1 (hpos hh)
   have hr0:=fun hh=>hr0 (hpos hh)
   clear hei he
   cases g0
   all_goals
    try (have hr1:=hr1 rfl)
    try (have hr0:=hr0 rfl)
    try (have hpos:=hpos rfl)
    try dsimp only [List.append,List.cons_append,List.nil_append]
    apply WpA.regionRF (O:=[FrO w h F,OpO q b d L ms es,⟨[I 0,I 0,I 0,B false,B false,.nilS,.nilS],0,0,none⟩,⟨[I 0,I 0,.nilS],0,0,none⟩,⟨[I w,I h,I q,B b,B d,IL L,.own 6 0 0 M.length],0,0,none⟩,FrO w h P,⟨rows mbG M,0,2,some 82⟩]) (Or:=[]) (O1:=[FrO w h F,OpO q b d L ms es,⟨[I 0,I 0,I 0,B false,B false,.nilS,.nilS],0,0,none⟩,⟨[I 0,I 0,.nilS],0,0,none⟩,⟨[I w,I h,I q,B b,B d,IL L,.own 6 0 0 M.length],0,0,none⟩,FrO w h P,⟨rows mbG M,0,2,some 82⟩,⟨[B e,.nilS],1,0,none⟩,deadO]) 18 1 [] [0] rfl mixed (by decide +kernel)
    ·exact rfl
    ·apply HeadR.consF .none rfl
     ·exact rfl
     ·exact rfl
     ·exact in1
     ·exact rfl
     ·exact rfl
     apply HeadR.consF .none rfl
     ·exact rfl
     ·exact rfl
     ·exact in1
     ·exact rfl
     ·exact rfl
     apply HeadR.consF .none rfl
     ·exact rfl
     ·exact rfl
     ·exact in1
     ·exact rfl
     ·exact rfl
     apply HeadR.consV .none rfl
     ·exact rfl
     ·exact rfl
     ·exact in1
     ·exact hg0
     ·exact rfl
     ·exact rfl
     apply HeadR.consF .none rfl
     ·exact rfl
     ·exact rfl
     ·exact in1
     ·exact rfl
     ·exact rfl
     apply HeadR.consF .none rfl
     ·exact rfl
     ·exact rfl
     ·(intro Tv Ov hc2 hp9 hd9 hk9;refine K.L ?_;refine K.gd ?_;first|(refine K.gT rfl (by decide) rfl ?_;exact in0)|(refine K.gF rfl (by decide) rfl ?_;exact WpL.nil (Only.mk rfl)))
     ·exact rfl
     ·exact rfl
     apply HeadR.consF .none rfl
     ·exact rfl
     ·exact rfl
     ·(intro Tv Ov hc2 hp9 hd9 hk9;refine K.L ?_;refine K.gd ?_;first|(refine K.gT rfl (by decide) rfl ?_;exact in0)|(refine K.gF rfl (by decide) rfl ?_;exact WpL.nil (Only.mk rfl)))
     ·exact rfl
     ·exact rfl
     apply HeadR.consF .none rfl
     ·exact rfl
     ·exact rfl
     ·(intro Tv Ov hc2 hp9 hd9 hk9;refine K.L ?_;refine K.gd ?_;first|(refine K.gT rfl (by decide) rfl ?_;exact in0)|(refine K.gF rfl (by decide) rfl ?_;exact WpL.nil (Only.mk rfl)))
     ·exact rfl
     ·exact rfl
     apply HeadR.consF .none rfl
     ·exact rfl
     ·exact rfl
     ·(intro Tv Ov hc2 hp9 hd9 hk9;refine K.L ?_;refine K.gd ?_;first|(refine K.gT rfl (by decide) rfl ?_;exact in0)|(refine K.gF rfl (by decide) rfl ?_;exact WpL.nil (Only.mk rfl)))
     ·exact rfl
     ·exact rfl
     apply HeadR.consF .none rfl
     ·exact rfl
     ·exact rfl
     ·(intro Tv Ov hc2 hp9 hd9 hk9;refine K.L ?_;refine K.gd ?_;first|(refine K.gT rfl (by decide) rfl ?_;exact in0)|(refine K.gF rfl (by decide) rfl ?_;exact WpL.nil (Only.mk rfl)))
     ·exact rfl
     ·exact rfl
     apply HeadR.consF .none rfl
     ·exact rfl
     ·exact rfl
     ·(intro Tv Ov hc2 hp9 hd9 hk9;refine K.L ?_;refine K.gd ?_;first|(refine K.gT rfl (by decide) rfl ?_;exact in0)|(refine K.gF rfl (by decide) rfl ?_;exact WpL.nil (Only.mk rfl)))
     ·exact rfl
     ·exact rfl
     apply HeadR.consF .none rfl
     ·exact rfl
     ·exact rfl
     ·(intro Tv Ov hc2 hp9 hd9 hk9;refine K.L ?_;refine K.gd ?_;first|(refine K.gT rfl (by decide) rfl ?_;exact in0)|(refine K.gF rfl (by decide) rfl ?_;exact WpL.nil (Only.mk rfl)))
     ·exact rfl
     ·exact rfl
     apply HeadR.consF .none rfl
     ·exact rfl
     ·exact rfl
     ·(intro Tv Ov hc2 hp9 hd9 hk9;refine K.L ?_;refine K.gd ?_;first|(refine K.gT rfl (by decide) rfl ?_;exact in0)|(refine K.gF rfl (by decide) rfl ?_;exact WpL.nil (Only.mk rfl)))
     ·exact rfl
     ·exact rfl
     apply HeadR.consF .none rfl
     ·exact rfl
     ·exact rfl
     ·(intro Tv Ov hc2 hp9 hd9 hk9;refine K.L ?_;refine K.gd ?_;first|(refine K.gT rfl (by decide) rfl ?_;exact in0)|(refine K.gF rfl (by decide) rfl ?_;exact WpL.nil (Only.mk rfl)))
     ·exact rfl
     ·exact rfl
     apply HeadR.consF (V:=B e) .none rfl
     ·exact rfl
     ·exact rfl
     ·first|(rw [←hev rfl];exact in1)|(rw [hef rfl];exact in1)
     ·exact rfl
     ·exact rfl
     apply HeadR.consF .none rfl
     ·exact rfl
     ·exact rfl
     ·exact in1
     ·exact rfl
     ·exact rfl
     apply HeadR.consF (V:=.ptr 7 1 0) (.put 0 ⟨[B false,.nilS],1,0,none⟩) rfl
     ·exact rfl
     ·exact rfl
     ·intro Tv Ov hc2 hp9 hd9 hk9
      refine WpL.allocStruct tabOk rfl (nid_len _ 0) (by decide) ?_
      apply WpL.putV (p:=0)
      ·exact .ptr (by first|rfl|exact Nat.zero_add _) .nil
      ·exact hp9 0 _ rfl
      ·exact Nat.zero_le _
      ·exact rfl
      ·exact rfl
     ·exact rfl
     ·exact rfl
     apply HeadR.consN (.step 0 ⟨[B e,.nilS],1,0,none⟩) 1000
     ·exact rfl
     ·exact rfl
     ·intro Tv Ov hc2 hp9 hd9 hk9
      obtain ⟨R0,rfl⟩:=split1 (hp9 0 _ rfl)
      refine K.st ?_
      refine WpL.store tabOk rfl rfl rfl rfl rfl rfl rfl rfl (Nat.le_of_ble_eq_true rfl) ?_
      refine WpL.weak (Weak.any1 (d:=1000)) ?_
      exact WpL.nil (Only.mk rfl)
     ·exact rfl
     ·exact rfl
     exact HeadR.nil
    ·exact rfl
    ·exact rfl
    ·exact rfl
    ·exact rfl
    ·exact rfl
    ·exact rfl
    ·exact rfl
    refine WpL.nil ⟨rfl,Weak.mk ?_ ?_ (Nat.zero_le _)⟩
    ·repeat (first
      |exact ReT.nil
      |refine ReT.cons (.keep rfl rfl .nil) ?_
      |refine ReT.cons (.fn rfl .nil) ?_
      |refine ReT.cons (.own rfl rfl rfl rfl rfl rfl .nil) ?_
      |refine ReT.cons (.ptr rfl rfl rfl rfl .nil) ?_
      |refine ReT.cons (.keep (congrArg (fun z=>AV.sc (Value.int .i64 z)) (by first|omega|(skip))) rfl .nil) ?_
      |refine ReT.cons (.keep (congrArg (fun z:List UInt8=>AV.sc (Value.string ⟨z.toArray⟩)) (by skip)) rfl .nil) ?_
      |refine ReT.cons (.own rfl rfl rfl rfl rfl (by first|omega|(simp;done)|(simp;omega)) .nil) ?_)
    ·repeat (first
      |exact ReO.nil
      |refine ReO.cons (Re.same rfl rfl) (.inr rfl) ?_
      |refine ReO.cons (Re.same rfl (still_rows (fun _=>rfl) _)) (.inr rfl) ?_
      |refine ReO.cons (.keep rfl rfl (.keep rfl rfl (.keep rfl rfl (.keep rfl rfl (.keep rfl rfl (.keep rfl rfl (.own rfl rfl rfl rfl rfl rfl .nil))))))) (.inr rfl) ?_)
  clear hei hr0 hr1
  refine goR (r:=?_);and_intros<;>intros<;>try exact True.intro
  all_goals first|contradiction|omega|skip
  refine K.call ?_
  apply WpL.callI (placesOf_c.ok w h q b d L M.length e ⟨by omega,by omega,by omega⟩)
  ·exact snapA
  ·exact locA
  ·exact outA
  ·exact FrzR.one (.own rfl rfl rfl (by rw [rows_len (k:=3) (fun _=>rfl),plsL_len]) rfl (Snap.same rfl (still_rows (fun _=>rfl) _) (nofre_rows (fun _=>rfl) _)) .nil)
  ·decide
  refine goR (r:=?_);and_intros<;>intros<;>try exact True.intro
  all_goals first|contradiction|omega|skip
  have hbl:=encB_len ⟨w,h,q,b,L,F,ch⟩ e M.length c P
  have hbp:=encB_plen ⟨w,h,q,b,L,F,ch⟩ e M.length c P
  have hbs:=encB_snoc ⟨w,h,q,b,L,F,ch⟩ e M.length c P
  have hb0:encB ⟨w,h,q,b,L,F,ch⟩ e M.length c P 0=([],P):=encB_zero ..
  refine WpA.loop (fun i:Nat=>⟨[(2,.fn g [.iptr cs 0]),(3,.ptr 0 0 0),(4,.ptr 1 0 0),(6,.ptr 2 0 0),(7,.ptr 3 0 0),(8,.ptr 4 0 0),(9,.ptr 5 0 0),(10,I ((c+i:Nat):Int)),(12,.ptr 7 0 0),(41,I (cntM w h)),(42,I M.length),(66,.imm 3 (manyE e) (rows plF (plsL w (sz8 e) M.length (manyE e)))),(67,I (manyE e)),(68,I i)],[FrO w h F,OpO q b d L ms es,⟨[I 0,I 0,I 0,B false,B false,.nilS,.nilS],0,0,none⟩,⟨[I 0,I 0,.nilS],0,0,none⟩,⟨[I w,I h,I q,B b,B d,IL L,.own 6 0 0 M.length],0,0,none⟩,FrO w h (encB ⟨w,h,q,b,L,F,ch⟩ e M.length c P i).2,⟨rows mbG M,0,2,some 82⟩,⟨[B e,.own 8 0 0 i],0,0,none⟩,⟨rows blkI (encB ⟨w,h,q,b,L,F,ch⟩ e M.length c P i).1,0,2,some 84⟩]⟩) (fun i=>i≤manyE e) (fun i=>manyE e-i) 0 (Nat.zero_le _) ?_ (fun i hi=>?_)
  ·rw [hb0];exact Weak.nil1f (by first|(show 0≤_;exact Nat.zero_le _)|(repeat' (first|exact RyT.nil|refine RyT.cons ?_ ?_|exact Ry.nil|refine Ry.keep rfl rfl ?_|refine Ry.own rfl rfl rfl rfl rfl (by first|rfl|omega|(simp;done)) ?_|refine Ry.ptr rfl rfl rfl rfl ?_|refine Ry.nilO rfl rfl rfl (by first|rfl|omega|(simp;done)) ?_|refine Ry.fn rfl ?_|refine Ry.agg ?_ ?_|exact RyO.last rfl|(refine RyO.cons ?_ (.inr rfl) ?_)|exact Ry.same rfl (still_ints _)|exact Ry.same rfl (still_rows (fun _=>rfl) _)))) (by first|(show 0≤_;exact Nat.zero_le _)|(repeat' (first|exact RyT.nil|refine RyT.cons ?_ ?_|exact Ry.nil|refine Ry.keep rfl rfl ?_|refine Ry.own rfl rfl rfl rfl rfl (by first|rfl|omega|(simp;done)) ?_|refine Ry.ptr rfl rfl rfl rfl ?_|refine Ry.nilO rfl rfl rfl (by first|rfl|omega|(simp;done)) ?_|refine Ry.fn rfl ?_|refine Ry.agg ?_ ?_|exact RyO.last rfl|(refine RyO.cons ?_ (.inr rfl) ?_)|exact Ry.same rfl (still_ints _)|exact Ry.same rfl (still_rows (fun _=>rfl) _)))) (Nat.zero_le _)
  have hbl:=hbl i
  have hbp:=hbp i
  have hbs:=hbs i
  by_cases hlt2:i<manyE e
  ·have hpl:=plsL_len w (sz8 e) M.length (manyE e)
   have hpg:(plsL w (sz8 e) M.length (manyE e)).getD i default=plc1 w (sz8 e) M.length i:=by
    unfold plsL
    simp [hlt2]
   obtain ⟨x,y,hxy⟩:∃x y,plc1 w (sz8 e) M.length i=(x,y,sz8 e):=⟨_,_,rfl⟩
   rw [hxy] at hpg hbs
   simp only [chM,chV,nbP] at hbs
   generalize encB ⟨w,h,q,b,L,F,ch⟩ e M.length c P i=Y at*
   obtain ⟨bs,Pi⟩:=Y
   dsimp only at hbl hbp hbs ⊢
   subst hbl
   have hn8:sz8 e=4∨sz8 e=8:=by cases e<;>simp [sz8]
   generalize hsz:sz8 e=n at*
   have hkB:=BlockAt_c.ok w h F x y n (by have:=hF.2.1;omega)
   have hkN:Fn 136 [FrA w h Pi,I x,I y,I n] [XI (topL w h Pi x y n),XI (lefL w h Pi x y n)] (.agg [.own 0 0 0 (topL w h Pi x y n).length,.own 1 0 0 (lefL w h Pi x y n).length,I (corL w h Pi x y n),B (hasT w h Pi x y n),B (hasE w h Pi x y n)]):=NbAt_c.ok w h Pi x y n (by omega)
   have hkb:=blkL_le w h F x y n
   have hkn:=nb_le w h Pi x y n
   generalize blkL w h F x y n=bk at*
   generalize topL w h Pi x y n=tp at*
   generalize lefL w h Pi x y n=lf at*
   generalize corL w h Pi x y n=co at*
   generalize hasT w h Pi x y n=hT at*
   generalize hasE w h Pi x y n=hE at*
   have hgc:=hg (c+bs.length) bk tp lf co hT hE n ⟨by omega,by omega,by omega,by omega⟩
   generalize ch (c+bs.length) bk tp lf co hT hE n=md at*
   refine goR (r:=?_);and_intros<;>intros<;>try exact True.intro
   all_goals first|contradiction|omega|skip
   rw [hpg]
   dsimp only
   try dsimp only [List.append,List.cons_append,List.nil_append]
   apply WpA.regionGB 19 mixed (by decide +kernel)
   ·exact rfl
   ·apply HeadG.preF 10 rfl rfl rfl
    ·exact rfl
    ·exact in0
    ·exact rfl
    apply HeadG.preF 10 rfl rfl rfl
    ·exact rfl
    ·exact in0
    ·exact rfl
    apply HeadG.preF 10 rfl rfl rfl
    ·exact rfl
    ·exact in0
    ·exact rfl
    apply HeadG.preF 10 rfl rfl rfl
    ·exact rfl
    ·exact in0
    ·exact rfl
    apply HeadG.preF 10 rfl rfl rfl
    ·exact rfl
    ·exact in0
    ·exact rfl
    apply HeadG.preF 10 rfl rfl rfl
    ·exact rfl
    ·exact in0
    ·exact rfl
    apply HeadG.preF 10 rfl rfl rfl
    ·exact rfl
    ·exact in0
    ·exact rfl
    apply HeadG.precF 0 rfl rfl
    ·exact rfl
    ·intro Tv Ov
     refine K.call ?_
     apply WpL.callI (hkB)
     ·exact snapA
     ·exact locA
     ·exact outA
     ·exact frzA
     ·decide
     ·exact WpL.nil (Only.mk rfl)
    ·exact rfl
    apply HeadG.preF 10 rfl rfl rfl
    ·exact rfl
    ·exact in0
    ·exact rfl
    apply HeadG.preF 10 rfl rfl rfl
    ·exact rfl
    ·exact in0
    ·exact rfl
    apply HeadG.preF 10 rfl rfl rfl
    ·exact rfl
    ·exact in0
    ·exact rfl
    apply HeadG.preF 10 rfl rfl rfl
    ·exact rfl
    ·exact in0
    ·exact rfl
    apply HeadG.preF 10 rfl rfl rfl
    ·exact rfl
    ·exact in0
    ·exact rfl
    apply HeadG.preF 10 rfl rfl rfl
    ·exact rfl
    ·exact in0
    ·exact rfl
    apply HeadG.preF 10 rfl rfl rfl
    ·exact rfl
    ·exact in0
    ·exact rfl
    apply HeadG.precF 0 rfl rfl
    ·exact rfl
    ·intro Tv Ov
     refine K.call ?_
     apply WpL.callI (hkN)
     ·exact snapA
     ·exact locA
     ·exact outA
     ·exact frzA
     ·decide
     ·exact WpL.nil (Only.mk rfl)
    ·exact rfl
    apply HeadG.stepF rfl rfl
    ·exact rfl
    ·exact in1
    ·exact rfl
    apply HeadG.preF 10 rfl rfl rfl
    ·exact rfl
    ·exact in0
    ·exact rfl
    apply HeadG.stepNF rfl
    ·exact rfl
    ·exact in1
    ·exact rfl
    exact Abs.HeadG.nil
   ·exact trueA
   ·exact trueA
   ·exact trueA
   ·exact demA
   ·exact rfl
   ·exact rfl
   refine goR (r:=?_);and_intros<;>intros<;>try exact True.intro
   all_goals first|contradiction|omega|skip
   refine K.callT ?_
   refine WpL.callV0 rfl hgc rfl snapA (.sc .nil) rfl rfl (by decide) ?_
   refine goR (r:=?_);and_intros<;>intros<;>try exact True.intro
   all_goals first|contradiction|omega|skip
   have hkP:=Pred_c.ok md tp lf co hT hE n ⟨by omega,by omega,by omega⟩
   have hpl:=predS_len md tp lf co hT hE n
   have hpl:(predS md tp lf co hT hE n).length≤64:=by
    rw [hpl];split
    ·rcases hn8 with rfl|rfl<;>decide
    ·decide
   generalize predS md tp lf co hT hE n=pr at*
   have hkR:=Residual_c.ok bk pr ⟨by omega,by omega⟩
   have hrl:(resS bk pr).length≤64:=by
    rw [resS_len];split<;>omega
   generalize resS bk pr=rs at*
   have hkL:=LevelsFor_c.ok q b d L ms es rs ⟨by omega,by omega⟩
   have hll:=levL_le b q L rs
   generalize levL b q L rs=lv at*
   have hkU:=PutRef_c.ok w h Pi w h q b d L x y md lv ⟨by omega,by omega⟩
   have hul:=putL_len w h Pi q b x y md lv
   generalize putL w h Pi q b x y md lv=Pu at*
   try dsimp only [List.append,List.cons_append,List.nil_append]
   apply WpA.regionGB 13 mixed (by decide +kernel)
   ·exact rfl
   ·apply HeadG.preF 11 rfl rfl rfl
    ·exact rfl
    ·exact in0
    ·exact rfl
    apply HeadG.preF 11 rfl rfl rfl
    ·exact rfl
    ·exact in0
    ·exact rfl
    apply HeadG.preF 11 rfl rfl rfl
    ·exact rfl
    ·exact in0
    ·exact rfl
    apply HeadG.preF 11 rfl rfl rfl
    ·exact rfl
    ·exact in0
    ·exact rfl
    apply HeadG.preF 11 rfl rfl rfl
    ·exact rfl
    ·exact in0
    ·exact rfl
    apply HeadG.preF 11 rfl rfl rfl
    ·exact rfl
    ·exact in0
    ·exact rfl
    apply HeadG.preF 11 rfl rfl rfl
    ·exact rfl
    ·exact in0
    ·exact rfl
    apply HeadG.precF 0 rfl rfl
    ·exact rfl
    ·intro Tv Ov
     refine K.call ?_
     apply WpL.callI (hkP)
     ·exact snapA
     ·exact locA
     ·exact outA
     ·exact frzA
     ·decide
     ·exact WpL.nil (Only.mk rfl)
    ·exact rfl
    apply HeadG.precF 0 rfl rfl
    ·exact rfl
    ·intro Tv Ov
     refine K.call ?_
     apply WpL.callI (hkR)
     ·exact snapA
     ·exact locA
     ·exact outA
     ·exact frzA
     ·decide
     ·exact WpL.nil (Only.mk rfl)
    ·exact rfl
    apply HeadG.precF 0 rfl rfl
    ·exact rfl
    ·intro Tv Ov
     refine K.call ?_
     apply WpL.callI (hkL)
     ·exact snapA
     ·exact locA
     ·exact outA
     ·exact frzA
     ·decide
     ·exact WpL.nil (Only.mk rfl)
    ·exact rfl
    apply HeadG.preF 11 rfl rfl rfl
    ·exact rfl
    ·exact in0
    ·exact rfl
    apply HeadG.stepF rfl rfl
    ·exact rfl
    ·exact in1
    ·exact rfl
    apply HeadG.stepNF rfl
    ·exact rfl
    ·exact in1
    ·exact rfl
    exact Abs.HeadG.nil
   ·exact trueA
   ·exact trueA
   ·exact trueA
   ·exact demA
   ·exact rfl
   ·exact rfl
   refine goR (r:=?_);and_intros<;>intros<;>try exact True.intro
   all_goals first|contradiction|omega|skip
   refine K.call ?_
   apply WpL.callI hkU
   ·exact snapA
   ·exact locA
   ·exact outA
   ·exact FrzR.tup (.agg (.keep rfl rfl (.keep rfl rfl (.own rfl rfl rfl (by show Pi.length*1=(List.map _ _).length;rw [Nat.mul_one,List.length_map];exact hul.symm) hul.symm (Snap.same rfl (still_ints _) (nofre_ints _)) .nil))) (.keep rfl rfl .nil))
   ·decide
   refine goR (r:=?_);and_intros<;>intros<;>try exact True.intro
   all_goals first|contradiction|omega|(rw [hbs];exact .keep rfl rfl .nil)|(rw [hbs];refine Re.same ?_ (still_rows (fun _=>rfl) _);show rows blkI bs++_=rows blkI (bs++[(md,lv)]);rw [rows_append,rows_one];rfl)
  ·obtain rfl:i=manyE e:=by omega
   refine goR (r:=?_);and_intros<;>intros<;>try exact True.intro
   all_goals first|contradiction|omega|skip
   subst hQ'
   refine Rnd.go (M.length+1) (by omega) (by omega) ?_
   rw [hms]
   generalize encB ⟨w,h,q,b,L,F,ch⟩ e M.length c P (manyE e)=Y at*
   obtain ⟨bs,Pi⟩:=Y
   dsimp only at hbl hbp ⊢
   refine Weak.trans (Weak.nest (id:=6) (j:=8) (off:=M.length*2+1) (ob:=⟨rows mbG M++[B e,.own 8 0 0 (manyE e)],1,2,some 82⟩) (oj:=⟨rows blkI bs,0,2,some 84⟩) rfl rfl rfl (Nat.zero_le _) (mG_at M _ _) rfl (still_rows (fun _=>rfl) _) ?_) ?_
   ·show manyE e*2=(rows blkI bs).length
    rw [len_bI];omega
   ·refine Weak.mk ?_ ?_ (Nat.zero_le _)
    ·repeat (first
      |exact ReT.nil
      |refine ReT.cons (.keep rfl rfl .nil) ?_
      |refine ReT.cons (.fn rfl .nil) ?_
      |refine ReT.cons (.own rfl rfl rfl rfl rfl rfl .nil) ?_
      |refine ReT.cons (.ptr rfl rfl rfl rfl .nil) ?_
      |refine ReT.cons (.keep (congrArg (fun z=>AV.sc (Value.int .i64 z)) (by first|omega|(skip))) rfl .nil) ?_
      |refine ReT.cons (.keep (congrArg (fun z:List UInt8=>AV.sc (Value.string ⟨z.toArray⟩)) (by skip)) rfl .nil) ?_
      |refine ReT.cons (.own rfl rfl rfl rfl rfl (by first|omega|(simp;done)|(simp;omega)) .nil) ?_)
    ·repeat (first
      |exact ReO.nil
      |refine ReO.cons (Re.same rfl rfl) (.inr rfl) ?_
      |refine ReO.cons (Re.same (mG_set M e _ bs hbl) (still_rows (fun _=>rfl) _)) (.inr rfl) ?_
      |refine ReO.cons (.keep rfl rfl (.keep rfl rfl (.keep rfl rfl (.keep rfl rfl (.keep rfl rfl (.keep rfl rfl (.own rfl rfl rfl rfl rfl rfl .nil))))))) (.inr rfl) ?_)
 ·obtain ek:(cntM w h).toNat=k:=by omega
  rw [ek]
  have hmk:=(hmk).2.1
  generalize encM ⟨w,h,q,b,L,F,ch⟩ (eiF es) P0 k=X at*
  obtain ⟨M,P,c⟩:=X
  dsimp only at hmk hml hmp hmc ⊢
  subst hml
  have hkE:=ended_c w h w h q b d L P (by omega)
  generalize endL w h q d P=Pe at*
  refine goR (r:=?_);and_intros<;>intros<;>try exact True.intro
  all_goals first|contradiction|omega|skip
  try dsimp only [List.append,List.cons_append,List.nil_append]
  apply WpA.regionGB 7 mixed (by decide +kernel)
  ·exact rfl
  ·apply HeadG.hole4 rfl rfl rfl
   ·exact rfl
   ·exact in0
   ·exact rfl
   apply HeadG.hole4 rfl rfl rfl
   ·exact rfl
   ·exact in0
   ·exact rfl
   apply HeadG.hole4 rfl rfl rfl
   ·exact rfl
   ·exact in0
   ·exact rfl
   apply HeadG.hole5 rfl rfl rfl
   ·exact rfl
   ·exact in0
   ·exact rfl
   apply HeadG.precF 0 rfl rfl
   ·exact rfl
   ·intro Tv Ov
    refine K.call ?_
    apply WpL.callK (hkE)
    ·exact .agg (.keep rfl rfl (.keep rfl rfl (.keep rfl rfl (.keep rfl rfl (.keep rfl rfl (.keep rfl rfl .nil)))))) (.agg (.keep rfl rfl (.keep rfl rfl (.keep rfl rfl .nil))) .nil)
    ·decide
    ·exact WpL.nil (Only.mk rfl)
   ·exact rfl
   apply HeadG.stepNF rfl
   ·exact rfl
   ·exact in1
   ·exact rfl
   apply HeadG.stepNF rfl
   ·exact rfl
   ·exact in1
   ·exact rfl
   exact Abs.HeadG.nil
  ·exact trueA
  ·exact trueA
  ·exact trueA
  ·exact demA
  ·exact rfl
  ·exact rfl
  refine goR (r:=?_);and_intros<;>intros<;>try exact True.intro
  all_goals first|contradiction|omega
end
end Go.Proofs.YtainhhfnnclfiaaGreat


namespace Go.Abs
open Go
section
variable {P:Program} {n m:Nat} {G:Ctx} {T:List (Nat×AV)} {O:List AObj} {Q:Exit→St→Prop} {ops:Array Oper} {l:List Oper} {d:Nat} {tt:TypeId} {pos:String} {after:Array Edge}
theorem Rel.freezeP {a:Act} {w:World} {id ep off:Nat} {ob:AObj} {cs:List AV} (ho:O[id]?=some ob) (hm:m≤id) (hep:ob.ep=ep) (hcs:ob.cells=cs) (hst:cs.all AV.still=true) (hnf:cs.all AV.nofre=true) (hM:∀b,¬G.M0 b)
 (hr:Rel n m G ⟨(d,.ptr id ep off)::T,O⟩ a w):Rel n m G ⟨(d,.iptr cs off)::T,O.set id ⟨[],ep+1,0,none⟩⟩ a w:=by
 subst hcs hep
 obtain ⟨S,ι,F,hr⟩:=hr
 have hidl:id<O.length:=(List.getElem?_eq_some_iff.1 ho).1
 have hset:∀i:Nat,(O.set id ⟨[],ob.ep+1,0,none⟩)[i]?=if i=id then some ⟨[],ob.ep+1,0,none⟩ else O[i]?:=by
  intro i
  rw [List.getElem?_set]
  by_cases e:id=i
  ·subst e;rw [if_pos rfl,if_pos rfl,if_pos hidl]
  ·rw [if_neg e,if_neg (fun h=>e h.symm)]
 have hob:=hr.objs.obj id ob ho
 let S2:Nat→Prop:=fun b=>S b∨∃k,ι id=some (b,k)
 let ι2:Nat→Spot:=fun i=>if i=id then none else ι i
 let F2:Nat→List Nat:=fun i=>if i=id then [] else F i
 have hblk:∀b k,ι id=some (b,k)→b∈F id:=by
  intro b k hs
  unfold ObjAt at hob
  rw [hs] at hob
  obtain ⟨cur,t,fz,f',h1,_⟩:=hob
  rw [h1];simp
 have hlat:Later S w ι O S2 w ι2 (O.set id ⟨[],ob.ep+1,0,none⟩):=by
  refine ⟨fun b h=>.inl h,fun b _=>rfl,fun i obi hi=>?_⟩
  by_cases e:i=id
  ·subst e
   rw [ho] at hi;cases hi
   exact ⟨⟨[],ob.ep+1,0,none⟩,by rw [hset,if_pos rfl],.inl (Nat.lt_succ_self _)⟩
  ·exact ⟨obi,by rw [hset,if_neg e];exact hi,.inr ⟨rfl,rfl,if_neg e⟩⟩
 have hlen:(O.set id ⟨[],ob.ep+1,0,none⟩).length=O.length:=List.length_set
 refine ⟨S2,ι2,F2,hr.defers,hr.size,fun t=>?_,⟨fun i obi hi=>?_,fun i hi=>?_,fun i j hi hj hij b hb=>?_⟩,fun i hi b hb=>?_,⟨fun b hb=>.inl (hr.base.1 b hb),?_⟩,?_,hr.keeps,fun i hi=>?_,?_⟩
 ·have ht:=hr.tmps t
  by_cases e:d=t
  ·subst e
   have ht:VRel S w ι O (look ((d,.ptr id ob.ep off)::T) d) (a.tmps.getD d undef) []:=ht
   show VRel S2 w ι2 _ (look ((d,.iptr ob.cells off)::T) d) _ _
   rw [look_cons_same] at ht ⊢
   generalize a.tmps.getD d undef=x at ht
   cases ht with
   |ptr q1 q2 q3 r=>
    cases r
    rw [ho] at q1;cases q1
    have hc:=q3 rfl
    unfold ObjAt at hob
    cases hs:ι id with
    |none=>
     rw [hs] at hc
     exact hc.elim
    |some p=>
     obtain ⟨b,k⟩:=p
     rw [hs] at hc hob
     obtain ⟨cur,t,fz,f',hF,hh,_,_,_,_,hl'⟩:=hob
     have hf':=nofre_all hl' hnf
     subst hf'
     have hc:x=.pointer (some ⟨b,0+off,none⟩):=by rw [Nat.zero_add];exact hc
     subst hc
     refine .iptr (us:=cur.toList.take ob.cells.length) (.inr ⟨k,hs⟩) (fun i hi=>cell_of_heap hh _ i hi) ?_ .nil
     exact still_all hst hl' (fun b h=>.inl h) (fun _ _=>rfl) (fun _ _=>rfl)
  ·have ht:VRel S w ι O (look ((d,.ptr id ob.ep off)::T) t) (a.tmps.getD t undef) []:=ht
   show VRel S2 w ι2 _ (look ((d,.iptr ob.cells off)::T) t) _ _
   rw [look_cons_other _ _ _ _ e] at ht ⊢
   exact ht.mono hlat (fun _ _=>rfl)
 ·have hi:(O.set id ⟨[],ob.ep+1,0,none⟩)[i]?=some obi:=hi
  rw [hset] at hi
  by_cases e:i=id
  ·subst e
   rw [if_pos rfl] at hi;cases hi
   show ObjAt S2 w ι2 _ _ (if i=i then none else ι i) (if i=i then [] else F i)
   rw [if_pos rfl,if_pos rfl]
   exact ⟨rfl,rfl⟩
  ·rw [if_neg e] at hi
   have h0:=hr.objs.obj i obi hi
   show ObjAt S2 w ι2 _ obi (if i=id then none else ι i) (if i=id then [] else F i)
   rw [if_neg e,if_neg e]
   unfold ObjAt at h0 ⊢
   cases hs:ι i with
   |none=>rw [hs] at h0;exact h0
   |some p=>
    obtain ⟨b,k⟩:=p
    rw [hs] at h0
    obtain ⟨cur',t',fz',f2,h1,h2,h3,h4,h5,h6,h7⟩:=h0
    exact ⟨cur',t',fz',f2,h1,h2,h3,h4,h5,h6,h7.mono hlat (fun _ _=>rfl)⟩
 ·have hi:i<(O.set id ⟨[],ob.ep+1,0,none⟩).length:=hi
  show (if i=id then [] else F i).Nodup
  split
  ·exact List.nodup_nil
  ·exact hr.objs.nodup i (by rw [hlen] at hi;exact hi)
 ·have hi:i<(O.set id ⟨[],ob.ep+1,0,none⟩).length:=hi
  have hj:j<(O.set id ⟨[],ob.ep+1,0,none⟩).length:=hj
  rw [hlen] at hi hj
  have hb:b∈(if i=id then [] else F i):=hb
  show b ∉ (if j=id then [] else F j)
  split at hb
  ·cases hb
  ·split
   ·simp
   ·exact hr.objs.apart i j hi hj hij b hb
 ·have hi:i<(O.set id ⟨[],ob.ep+1,0,none⟩).length:=hi
  rw [hlen] at hi
  have hb:b∈(if i=id then [] else F i):=hb
  split at hb
  ·cases hb
  ·rename_i e
   obtain ⟨q1,q2,q3⟩:=hr.foot i hi b hb
   refine ⟨q1,?_,q3⟩
   rintro (h'|⟨k,h'⟩)
   ·exact q2 h'
   ·exact hr.objs.apart i id hi hidl e b hb (hblk b k h')
 ·rintro b (h'|⟨k,h'⟩)
  ·exact hr.base.2 b h'
  ·have hf:=hr.foot id hidl b (hblk b k h')
   rcases hf.1 with h1|h1
   ·exact absurd h1 (hM b)
   ·exact .inr h1
 ·rintro b (h'|⟨k,h'⟩)
  ·exact hr.stable b h'
  ·exact (hr.foot id hidl b (hblk b k h')).2.2
 ·show (if i=id then none else ι i)=_
  rw [if_neg (by omega)];exact hr.spots i hi
 ·show m≤(O.set id ⟨[],ob.ep+1,0,none⟩).length
  rw [hlen];exact hr.mle
theorem WpA.freezeP {c:Code} {id ep off:Nat} {ob:AObj} {cs:List AV} (hM:∀b,¬G.M0 b) (ho:O[id]?=some ob) (hm:m≤id) (hep:ob.ep=ep) (hcs:ob.cells=cs) (hst:cs.all AV.still=true) (hnf:cs.all AV.nofre=true)
 (h:WpA P n m G c ⟨(d,.iptr cs off)::T,O.set id ⟨[],ep+1,0,none⟩⟩ Q):WpA P n m G c ⟨(d,.ptr id ep off)::T,O⟩ Q:=
 fun a w hr=>h a w (Rel.freezeP ho hm hep hcs hst hnf hM hr)
theorem KeepL.fnEnd {S:Nat→Prop} {w:World} {ι ι':Nat→Spot} {vs us:List AV} {g:Nat} {cs:List AV} (h:KeepL vs us):∀{xs f},LRel S w ι O (vs++[.fn g [.iptr cs 0]]) xs f→LRel S w ι' [] (us++[.fn g [.iptr cs 0]]) xs []:=by
 induction h with
 |nil=>
  intro xs f hl
  cases hl with
  |fn a r=>cases r;exact .fn (simple_allI a rfl) .nil
 |any _ ih=>
  intro xs f hl
  obtain ⟨v,vs',f1,f2,rfl,hv,hr,rfl⟩:=hl.uncons
  exact .any (ih hr)
 |keep hs hn _ ih=>
  intro xs f hl
  obtain ⟨v,vs',f1,f2,rfl,hv,hr,rfl⟩:=hl.uncons
  have:=nofre_nil hv hn
  subst this
  have:=LRel.cons (still_any hv hs [] (fun _ h=>h) (fun _ _=>rfl) (by simp)) (ih hr)
  simpa using this
 |@agg ds es vs us h1 _ _ ih2=>
  intro xs f hl
  obtain ⟨v,vs',f1,f2,rfl,hv,hr,rfl⟩:=hl.uncons
  obtain ⟨us',rfl,ha⟩:=LRel.agg_inv hv
  have:=LRel.agg (h1.rel ha) (ih2 hr)
  simpa using this
theorem WpL.callKF {f:FuncId} {xs:List Operand} {ats:Array TypeId} {As:List AV} {r:AV} (hc:FnC P f As [] r) (hs:∀{S:Nat→Prop} {w:World} {ι:Nat→Spot} {us:List Value} {f:List Nat},LRel S w ι O (xs.map (av T)) us f→LRel S w (fun _=>none) [] As us []) (hn:d<n) (h:WpL P n m G false ops l ⟨(d,r)::T,O⟩ Q):
 WpL P n m G false ops ({dst:=some d,op:=.call {callee:=.value (.func f),args:=xs.toArray,argTypes:=ats},type:=tt,pos:=pos,after:=after,guard:=none}::l) ⟨T,O⟩ Q:=
 WpL.op rfl (fun a w hr=>by
  obtain ⟨S,ι,F,hr⟩:=hr
  obtain ⟨⟨fn,hf,hb,hnm⟩,hcall⟩:=hc
  have hl:LRel S w (fun _=>none) [] As (xs.map a.eval) []:=hs (hr.evals xs)
  have hex:(execOp a.eval {dst:=some d,op:=.call {callee:=.value (.func f),args:=xs.toArray,argTypes:=ats},type:=tt,pos:=pos,after:=after,guard:=none}).run P w=.ok (.enter f (xs.map a.eval).toArray) w:=by
   simp only [execOp,resolve,Act.eval,Deferred.ofValue,invoke,callFunc,Sem.run_bind,Sem.run_pure,Result.andThen_ok,program,Sem.run,hf,hnm,hb,Bool.false_eq_true,if_false]
   simp
  unfold Oper.wp
  rw [hex]
  refine (hcall w S (xs.map a.eval) hr.stable hl).mono fun e w' he=>?_
  obtain ⟨v,S',ι',F',rfl,hS1,hS2,hS3,hO',hF',hv,hk⟩:=he
  show Rel n m G ⟨(d,r)::T,O⟩ (a.put (some d) v) w'
  have hold:∀b,b<w.heap.size→w'.heap[b]?=w.heap[b]?:=fun b hb=>hk.block b hb (fun h=>h)
  have hlat:Later S w ι O S' w' ι O:=⟨hS1,fun b hb=>hold b (hr.stable b hb),fun id ob h=>⟨ob,h,.inr ⟨rfl,rfl,rfl⟩⟩⟩
  have hrel:RelAt n m G S' ι F ⟨T,O⟩ a w':=by
   refine ⟨hr.defers,hr.size,fun t=>(hr.tmps t).mono hlat (by simp),⟨fun id ob h=>?_,hr.objs.nodup,hr.objs.apart⟩,fun id h b hb=>?_,⟨fun b hb=>hS1 b (hr.base.1 b hb),fun b hb=>?_⟩,hS3,?_,hr.spots,hr.mle⟩
   ·have h:O[id]?=some ob:=h
    have hlt:id<O.length:=(List.getElem?_eq_some_iff.1 h).1
    have ho:=hr.objs.obj id ob h
    unfold ObjAt at ho ⊢
    cases hs:ι id with
    |none=>rw [hs] at ho;exact ho
    |some p=>
     obtain ⟨b,k⟩:=p
     rw [hs] at ho
     obtain ⟨cur',t',fz',f2,h1,h2,h3,h4,h5,h6,h7⟩:=ho
     have key:∀b',b'∈F id→w'.heap[b']?=w.heap[b']?:=fun b' hb'=>hold b' (hr.foot id hlt b' hb').2.2
     exact ⟨cur',t',fz',f2,h1,by rw [key b (by rw [h1];simp)];exact h2,h3,h4,h5,h6,h7.mono hlat fun b' hb'=>key b' (by rw [h1];simp [hb'])⟩
   ·obtain ⟨q1,q2,q3⟩:=hr.foot id h b hb
    refine ⟨q1,fun h'=>?_,by have:=hk.size;omega⟩
    rcases hS2 b h' with h2|h2
    ·exact q2 h2
    ·omega
   ·rcases hS2 b hb with h2|h2
    ·exact hr.base.2 b h2
    ·exact .inr (by have:=hr.keeps.size;omega)
   ·exact ⟨hk.os.trans hr.keeps.os,hk.tape.trans hr.keeps.tape,hk.output.trans hr.keeps.output,by have:=hr.keeps.size;have:=hk.size;omega,fun b hb hM=>by
     rw [hold b (by have:=hr.keeps.size;omega)];exact hr.keeps.block b hb hM⟩
  exact ⟨S',ι,F,hrel.put hn (hv.mono (Later.none O (fun _ h=>h) (fun _ _=>rfl)) (by simp))⟩) h
end
end Go.Abs


namespace Go.Proofs.YtainhhfnnclfiaaGreat
open Go Go.Abs
attribute [local irreducible] WpA WpL Rnd Blk Abs.Seq Abs.Fin Abs.FinG FnC FnG Only
theorem fm_snoc {α β:Type} [Inhabited α] (f:α→List β) (l:List α) (k:Nat) (h:k<l.length):(l.take (k+1)).flatMap f=(l.take k).flatMap f++f (l.getD k default):=by
 rw [take_snoc l k h,List.flatMap_append];simp
theorem fm_bd {α β:Type} (f:α→List β) (c:Nat) (h:∀a,(f a).length≤c):∀l:List α,(l.flatMap f).length≤c*l.length
 |[]=>by simp
 |a::l=>by
  have:=fm_bd f c h l
  have h1:=h a
  rw [List.flatMap_cons,List.length_append,List.length_cons,Nat.mul_add];omega
theorem pk_in (l:List Int):∀k,k≤l.length→∀p∈(pk l k).1,(0≤p.1∧p.1≤k)∧p.2≠0∧p.2∈l
 |0,_,p,hp=>by simp [pk] at hp
 |k+1,hk,p,hp=>by
  have ih:=pk_in l k (by omega)
  have hb:=pk_bd l k
  rw [pk] at hp
  split at hp
  ·obtain ⟨a,b,c⟩:=ih p hp;exact ⟨by omega,b,c⟩
  ·rename_i hz
   rcases List.mem_append.1 hp with hp|hp
   ·obtain ⟨a,b,c⟩:=ih p hp;exact ⟨by omega,b,c⟩
   ·simp only [List.mem_singleton] at hp
    subst hp
    refine ⟨by omega,hz,?_⟩
    have e:l.getD k 0=l[k]'(by omega):=by simp [show k<l.length by omega]
    simp only [e];exact List.getElem_mem _
theorem in_mem {l:List Int} {lo hi:Int} (h:In l lo hi) {x:Int} (hx:x∈l):lo≤x∧x≤hi:=by
 unfold In at h;exact h x hx
theorem prs_in {l:List Int} (h:LvOk l) {k:Nat} (hk:k<(prsL l).length):(0≤((prsL l).getD k default).1∧((prsL l).getD k default).1≤64)∧((prsL l).getD k default).2≠0∧-16383≤((prsL l).getD k default).2∧((prsL l).getD k default).2≤16383:=by
 have hm:(prsL l).getD k default∈(prsL l):=by simp [hk]
 generalize (prsL l).getD k default=p at hm
 rw [prsL,if_pos h] at hm
 obtain ⟨h1,h2,h3⟩:=pk_in l l.length (Nat.le_refl _) p hm
 have h4:=in_mem h.1 h3
 have h5:l.length≤64:=by rcases h.2 with h|h<;>omega
 refine ⟨by omega,h2,h4⟩
theorem prs_len (l:List Int):(prsL l).length≤64:=by
 unfold prsL;split
 ·rename_i h
  have:=(pk_bd l l.length).1
  rcases h.2 with h|h<;>omega
 ·simp
theorem nolL_in {v:Int} (h:v≠0∧-16383≤v∧v≤16383):0≤nolL v∧nolL v≤65534:=by unfold nolL;split<;>(try split)<;>omega
instance PairsOf_c:Con 272 (∀ l:List Int,LvOk l→Fn 272 [IL l] [XP (prsL l)] (.own 0 0 0 (prsL l).length)):=⟨fun l h=>by
 have hl:l.length≤64:=by rcases h.2 with h|h<;>omega
 refine FnC.of_body tabOk Tryz.func272 Tryz.ntmps272 rfl (by decide +kernel) (by simp) fun G=>?_
 refine go (r:=?_);and_intros<;>intros<;>try exact True.intro
 all_goals first|(exact absurd h (by assumption))|skip
 refine WpA.loop (fun k:Nat=>⟨[(3,.own 0 0 0 (pk l k).1.length),(4,I (pk l k).2),(11,IL l),(12,I l.length),(13,I k)],[XP (pk l k).1]⟩) (fun k=>k≤l.length) (fun k=>l.length-k) 0 (by simp) (go (r:=?_)) (fun k hk=>?_)
 ·simp [pk]
 have hb:=pk_bd l k
 have hend:k=l.length→(pk l k).1=prsL l:=by rintro rfl;rw [prsL,if_pos h]
 by_cases hz:l.getD k 0=0
 ·have e1:pk l (k+1)=((pk l k).1,(pk l k).2+1):=by rw [pk,if_pos hz]
  have e2:(pk l (k+1)).1.length=(pk l k).1.length:=by rw [e1]
  refine go (r:=?_);and_intros<;>intros<;>try exact True.intro
  all_goals first|(rw [e1];done)|(rw [hend (by omega)];done)
 ·have e1:pk l (k+1)=((pk l k).1++[((pk l k).2,l.getD k 0)],0):=by rw [pk,if_neg hz]
  have e2:(pk l (k+1)).1.length=(pk l k).1.length+1:=by rw [e1,List.length_append,List.length_singleton]
  refine go (r:=?_);and_intros<;>intros<;>try exact True.intro
  all_goals first|(rw [e1];done)|(rw [e1];rfl)|(rw [hend (by omega)];done)⟩
def prB (p:Int×Int):List Int:=ueL p.1++ueL (nolL p.2)
theorem prB_len (p:Int×Int):(prB p).length≤128:=by
 have h1:=ueL_len p.1
 have h2:=ueL_len (nolL p.2)
 unfold prB;rw [List.length_append];omega
def bkK (m:Int) (lv lens:List Int) (k:Nat):List Int:=(symL lens m++[1]++ueL ((prsL lv).length-1))++((prsL lv).take k).flatMap prB
def bkL (m:Int) (lv lens:List Int) (n:Int):List Int:=if BlkOk m lv lens n then (if (prsL lv).length=0 then symL lens m++[0] else bkK m lv lens (prsL lv).length) else []
theorem symL_len7 (l:List Int) (m:Int):(symL l m).length≤48:=by
 unfold symL;split
 ·exact bitsL_len _ _
 ·simp
theorem bkK_len (m:Int) (lv lens:List Int) (k:Nat):(bkK m lv lens k).length≤113+128*k:=by
 have h1:=symL_len7 lens m
 have h2:=ueL_len ((prsL lv).length-1)
 have h3:=fm_bd prB 128 prB_len ((prsL lv).take k)
 have h4:((prsL lv).take k).length≤k:=by simp;omega
 unfold bkK;simp only [List.length_append,List.length_cons,List.length_nil];omega
theorem bkK_zero (m:Int) (lv lens:List Int):bkK m lv lens 0=symL lens m++[1]++ueL ((prsL lv).length-1):=by simp [bkK]
theorem bkK_succ (m:Int) (lv lens:List Int) (k:Nat) (h:k<(prsL lv).length):bkK m lv lens (k+1)=bkK m lv lens k++ueL ((prsL lv).getD k default).1++ueL (nolL ((prsL lv).getD k default).2):=by
 unfold bkK;rw [fm_snoc prB _ k h,←List.append_assoc,prB,←List.append_assoc]
theorem bkL_len (m:Int) (lv lens:List Int) (n:Int):(bkL m lv lens n).length≤8400:=by
 have h1:=symL_len7 lens m
 have h2:=bkK_len m lv lens (prsL lv).length
 have h3:=prs_len lv
 unfold bkL;split
 ·split
  ·simp;omega
  ·omega
 ·simp
instance BlockBits_s:Con 239 (∀ (m:Int) (lv lens:List Int) (n:Int),lv.length≤1099511627776∧lens.length≤1099511627776→Fn 239 [.agg [I m,IL lv],IL lens,I n] [XI (bkL m lv lens n)] (.own 0 0 0 (bkL m lv lens n).length)):=⟨fun m lv lens n hl=>by
 have hs:=symL_len7 lens m
 have hu:=ueL_len ((prsL lv).length-1)
 have hp:=prs_len lv
 refine FnC.of_body tabOk Tryz.func239 Tryz.ntmps239 rfl (by decide +kernel) (by simp) fun G=>?_
 by_cases h:BlkOk m lv lens n
 ·by_cases h0:(prsL lv).length=0
  ·have e:bkL m lv lens n=symL lens m++[0]:=by rw [bkL,if_pos h,if_pos h0]
   refine go (r:=?_);and_intros<;>intros<;>try exact True.intro
   all_goals first|(exact absurd h (by assumption))|(rw [e];done)|(rw [e];simp;done)
  ·have e:bkL m lv lens n=bkK m lv lens (prsL lv).length:=by rw [bkL,if_pos h,if_neg h0]
   have e0:=bkK_zero m lv lens
   have el0:(symL lens m).length+1+(ueL ((prsL lv).length-1)).length=(bkK m lv lens 0).length:=by rw [e0];simp;omega
   refine go (r:=?_);and_intros<;>intros<;>try exact True.intro
   all_goals first|(exact absurd h (by assumption))|(exact absurd (by omega) h0)|skip
   refine WpA.loop (fun k:Nat=>⟨[(7,.own 2 0 0 (bkK m lv lens k).length),(8,.own 3 0 0 (prsL lv).length),(9,I k)],[⟨[I m,IL lv],0,0,none⟩,XI [],XI (bkK m lv lens k),XP (prsL lv)]⟩) (fun k=>k≤(prsL lv).length) (fun k=>(prsL lv).length-k) 0 (by omega) (go (r:=?_)) (fun k hk=>?_)
   ·exact ⟨e0.symm,trivial⟩
   have hb:=bkK_len m lv lens k
   have hsc:=fun h=>bkK_succ m lv lens k h
   refine goR (r:=?_);and_intros<;>intros<;>try exact True.intro
   ·have hk2:k<(prsL lv).length:=by omega
    have hpi:=prs_in h.2.2.2 hk2
    have hsc:=hsc hk2
    have hsl:(bkK m lv lens (k+1)).length=(bkK m lv lens k).length+(ueL ((prsL lv).getD k default).1).length+(ueL (nolL ((prsL lv).getD k default).2)).length:=by rw [hsc];simp only [List.length_append]
    have ha:=ueL_len ((prsL lv).getD k default).1
    have hbb:=ueL_len (nolL ((prsL lv).getD k default).2)
    apply WpA.regionQF (O:=[⟨[I m,IL lv],0,0,none⟩,XI []]) (Or:=[XI (bkK m lv lens k),XP (prsL lv)]) (O1:=[⟨[I m,IL lv],0,0,none⟩,XI [],XD (bkK m lv lens k++ueL ((prsL lv).getD k default).1),XP (prsL lv),XD (ueL ((prsL lv).getD k default).1),XD (ueL (nolL ((prsL lv).getD k default).2)),deadO,deadO]) 15 2 [1] rfl mixed (by decide +kernel)
    ·exact rfl
    ·apply HeadQ.consF .none rfl
     ·exact rfl
     ·exact in1
     ·exact rfl
     ·exact rfl
     apply HeadQ.consF .none rfl
     ·exact rfl
     ·exact in1
     ·exact rfl
     ·exact rfl
     apply HeadQ.consF .none rfl
     ·exact rfl
     ·exact in1
     ·exact rfl
     ·exact rfl
     apply HeadQ.consF .none rfl
     ·exact rfl
     ·intro Tv Ov hc hp hd hk
      obtain ⟨A,Ov',rfl⟩:=split2 (hk 1 rfl)
      exact in1
     ·exact rfl
     ·exact rfl
     apply HeadQ.consF .none rfl
     ·exact rfl
     ·intro Tv Ov hc hp hd hk
      obtain ⟨A,Ov',rfl⟩:=split2 (hk 1 rfl)
      exact in1
     ·exact rfl
     ·exact rfl
     apply HeadQ.consF .none rfl
     ·exact rfl
     ·intro Tv Ov hc hp hd hk
      obtain ⟨A,Ov',rfl⟩:=split2 (hk 1 rfl)
      exact in1
     ·exact rfl
     ·exact rfl
     apply HeadQ.consF (V:=.own 4 1 0 (ueL ((prsL lv).getD k default).1).length) (.put 2 (XD (ueL ((prsL lv).getD k default).1))) rfl
     ·exact rfl
     ·intro Tv Ov hc hp hd hk
      refine K.call ?_
      refine K.con (fun hcon=>?_)
      refine WpL.callF (hcon _) snapA locA outA (cnt_some _ 0) rfl rfl (by decide) ?_
      rw [Nat.zero_add]
      apply WpL.putNil (p:=2)
      ·exact hp 2 _ rfl
      ·exact Nat.zero_le _
      ·exact rfl
      ·first|exact still_ints _|exact still_rows (fun _=>rfl) _|rfl
     ·exact rfl
     ·exact rfl
     apply HeadQ.consF (V:=.own 2 1 0 ((bkK m lv lens k).length+(ueL ((prsL lv).getD k default).1).length)) (.step 0 (XD (bkK m lv lens k++ueL ((prsL lv).getD k default).1))) rfl
     ·exact rfl
     ·intro Tv Ov hc hp hd hk
      refine WpL.appInts tabOk rfl rfl (fill_at (O:=[⟨[I m,IL lv],0,0,none⟩,XI []]) (hp 0 _ rfl)) (Nat.zero_le _) rfl (srcB_own (fill_at (O:=[⟨[I m,IL lv],0,0,none⟩,XI []]) (hd 6 _ 2 _ (by decide) rfl rfl)) rfl) (by first|rfl|omega) (by first|rfl|omega) (by omega) (by decide) ?_
      exact WpL.nil (Only.mk (congrArg (St.mk _) (step_eq (O:=[⟨[I m,IL lv],0,0,none⟩,XI []]) Ov (p:=0) _)))
     ·exact rfl
     ·exact rfl
     apply HeadQ.consF .none rfl
     ·exact rfl
     ·exact in1
     ·exact rfl
     ·exact rfl
     apply HeadQ.consF .none rfl
     ·exact rfl
     ·exact in1
     ·exact rfl
     ·exact rfl
     apply HeadQ.consF .none rfl
     ·exact rfl
     ·intro Tv Ov hc hp hd hk
      obtain ⟨A,Ov',rfl⟩:=split2 (hk 1 rfl)
      exact in1
     ·exact rfl
     ·exact rfl
     apply HeadQ.consF .none rfl
     ·exact rfl
     ·intro Tv Ov hc hp hd hk
      obtain ⟨A,Ov',rfl⟩:=split2 (hk 1 rfl)
      exact in1
     ·exact rfl
     ·exact rfl
     apply HeadQ.consF .none rfl
     ·exact rfl
     ·intro Tv Ov hc hp hd hk
      obtain ⟨A,Ov',rfl⟩:=split2 (hk 1 rfl)
      exact in1
     ·exact rfl
     ·exact rfl
     apply HeadQ.consF .none rfl
     ·exact rfl
     ·exact in0
     ·exact rfl
     ·exact rfl
     apply HeadQ.consF (V:=.own 5 1 0 (ueL (nolL ((prsL lv).getD k default).2)).length) (.put 3 (XD (ueL (nolL ((prsL lv).getD k default).2)))) rfl
     ·exact rfl
     ·intro Tv Ov hc hp hd hk
      refine K.call ?_
      refine K.con (fun hcon=>?_)
      refine WpL.callF (hcon _) snapA locA outA (cnt_some _ 0) rfl rfl (by decide) ?_
      rw [Nat.zero_add]
      apply WpL.putNil (p:=3)
      ·exact hp 3 _ rfl
      ·exact Nat.zero_le _
      ·exact rfl
      ·first|exact still_ints _|exact still_rows (fun _=>rfl) _|rfl
     ·exact rfl
     ·exact rfl
     exact HeadQ.nil
    ·exact rfl
    ·exact rfl
    ·exact rfl
    ·exact rfl
    ·exact rfl
    ·exact rfl
    ·exact rfl
    refine go (r:=?_);and_intros<;>intros<;>try exact True.intro
    all_goals first|(rw [hsc];done)
   all_goals have ek:k=(prsL lv).length:=by omega
   all_goals subst ek
   all_goals rw [e]
 ·have e:bkL m lv lens n=[]:=by rw [bkL,if_neg h]
  refine go (r:=?_);and_intros<;>intros<;>try exact True.intro
  all_goals first|(exact absurd (by assumption) h)|(rw [e];done)|(rw [e];rfl)⟩
abbrev BoxB (m:Int) (lv:List Int):AObj:=⟨[I m,IL lv],0,0,none⟩
instance BlockBits_c:Con 226 (∀ (m:Int) (lv lens:List Int) (n:Int),lv.length≤1099511627776∧lens.length≤1099511627776∧BlkOk m lv lens n→Fn 226 [.agg [I m,IL lv],IL lens,I n] [XI (bkL m lv lens n)] (.own 0 0 0 (bkL m lv lens n).length)):=⟨fun m lv lens n hl=>by
 have hs:=symL_len7 lens m
 have hu:=ueL_len ((prsL lv).length-1)
 have hp:=prs_len lv
 have h:=hl.2.2
 refine FnC.of_body tabOk Tryz.func226 Tryz.ntmps226 rfl (by decide +kernel) (by simp) fun G=>?_
 refine goR (r:=?_);and_intros<;>intros<;>try exact True.intro
 all_goals first|(exact absurd h (by assumption))|skip
 apply WpA.regionQF (O:=[BoxB m lv]) (Or:=[]) (O1:=[BoxB m lv,XD (symL lens m),XQ (prsL lv),deadO,deadO]) 7 2 [] rfl mixed (by decide +kernel)
 ·exact rfl
 ·apply HeadQ.consF .none rfl
  ·exact rfl
  ·exact in1
  ·exact rfl
  ·exact rfl
  apply HeadQ.consF .none rfl
  ·exact rfl
  ·exact in1
  ·exact rfl
  ·exact rfl
  apply HeadQ.consF .none rfl
  ·exact rfl
  ·exact in1
  ·exact rfl
  ·exact rfl
  apply HeadQ.consF (V:=.own 1 1 0 (symL lens m).length) (.put 0 (XD (symL lens m))) rfl
  ·exact rfl
  ·intro Tv Ov hc hp hd hk
   refine K.call ?_
   refine K.con (fun hcon=>?_)
   refine WpL.callF (hcon _ _ hl.2.1) snapA locA outA (cnt_some _ 0) rfl rfl (by decide) ?_
   rw [Nat.zero_add]
   apply WpL.putNil (p:=0)
   ·exact hp 0 _ rfl
   ·exact Nat.zero_le _
   ·exact rfl
   ·first|exact still_ints _|exact still_rows (fun _=>rfl) _|rfl
  ·exact rfl
  ·exact rfl
  apply HeadQ.consF .none rfl
  ·exact rfl
  ·exact in1
  ·exact rfl
  ·exact rfl
  apply HeadQ.consF .none rfl
  ·exact rfl
  ·exact in1
  ·exact rfl
  ·exact rfl
  apply HeadQ.consF (V:=.own 2 1 0 (prsL lv).length) (.put 1 (XQ (prsL lv))) rfl
  ·exact rfl
  ·intro Tv Ov hc hp hd hk
   refine K.call ?_
   refine K.con (fun hcon=>?_)
   refine WpL.callF (hcon _ h.2.2.2) snapA locA outA (cnt_some _ 0) rfl rfl (by decide) ?_
   rw [Nat.zero_add]
   apply WpL.putNil (p:=1)
   ·exact hp 1 _ rfl
   ·exact Nat.zero_le _
   ·exact rfl
   ·first|exact still_ints _|exact still_rows (fun _=>rfl) _|rfl
  ·exact rfl
  ·exact rfl
  exact HeadQ.nil
 ·exact rfl
 ·exact rfl
 ·exact rfl
 ·exact rfl
 ·exact rfl
 ·exact rfl
 ·exact rfl
 by_cases h0:(prsL lv).length=0
 ·have e:bkL m lv lens n=symL lens m++[0]:=by rw [bkL,if_pos h,if_pos h0]
  refine go (r:=?_);and_intros<;>intros<;>try exact True.intro
  all_goals first|(rw [e];done)|(rw [e];simp;done)
 ·have e:bkL m lv lens n=bkK m lv lens (prsL lv).length:=by rw [bkL,if_pos h,if_neg h0]
  have e0:=bkK_zero m lv lens
  have el0:(symL lens m).length+1+(ueL ((prsL lv).length-1)).length=(bkK m lv lens 0).length:=by rw [e0];simp;omega
  refine goR (r:=?_);and_intros<;>intros<;>try exact True.intro
  (apply WpL.nestLis (id:=7) (cs2:=[.fre 1 _ _,.fre 1 _ _,.fre 1 _ _]) [0,1,2]
   ·repeat' (first
     |exact NestC.nil
     |(apply NestC.consF
       ·exact rfl
       ·exact rfl
       ·exact rfl
       ·exact rfl
       ·first|exact Nat.zero_le _|exact Nat.le_of_ble_eq_true rfl
       ·exact still_ints _
       ·first|(simp;done)|rfl
       ·exact rfl
       ·exact rfl))
   ·exact rfl
   ·repeat' (first
     |exact ToLis.nil
     |(apply ToLis.cons
       ·exact rfl
       ·first|rfl|(simp;done)))
   ·exact rfl)
  refine go (r:=?_);and_intros<;>intros<;>try exact True.intro
  ·simp
  ·exact smL_cons (by omega) (smL_cons (by decide) (smL_cons (by omega) (smL_nil _)))
  have ef:[symL lens m,[1],ueL ((prsL lv).length-1)].flatten=bkK m lv lens 0:=by rw [e0];simp
  refine WpA.loop (fun k:Nat=>⟨[(7,.own 8 0 0 (bkK m lv lens k).length),(37,.own 2 1 0 (prsL lv).length),(38,I (prsL lv).length),(39,I k)],[BoxB m lv,⟨[],2,0,none⟩,XQ (prsL lv),deadO,deadO,deadO,deadO,⟨rows liF [symL lens m,[1],ueL ((prsL lv).length-1)],0,1,some 32⟩,XI (bkK m lv lens k)]⟩) (fun k=>k≤(prsL lv).length) (fun k=>(prsL lv).length-k) 0 (by omega) (go (r:=?_)) (fun k hk=>?_)
  ·trivial
  have hb:=bkK_len m lv lens k
  have hsc:=fun h=>bkK_succ m lv lens k h
  refine goR (r:=?_);and_intros<;>intros<;>try exact True.intro
  ·have hk2:k<(prsL lv).length:=by omega
   have hpi:=prs_in h.2.2.2 hk2
   have hni:=nolL_in (v:=((prsL lv).getD k default).2) (by omega)
   have hsc:=hsc hk2
   have ha:=ueL_len ((prsL lv).getD k default).1
   have hbb:=ueL_len (nolL ((prsL lv).getD k default).2)
   have hfl:[bkK m lv lens k,ueL ((prsL lv).getD k default).1,ueL (nolL ((prsL lv).getD k default).2)].flatten=bkK m lv lens (k+1):=by rw [hsc];simp
   have hsm:[bkK m lv lens k,ueL ((prsL lv).getD k default).1,ueL (nolL ((prsL lv).getD k default).2)].length≤1024∧SmL 1048576 [bkK m lv lens k,ueL ((prsL lv).getD k default).1,ueL (nolL ((prsL lv).getD k default).2)]:=⟨by simp,smL_cons (by omega) (smL_cons (by omega) (smL_cons (by omega) (smL_nil _)))⟩
   apply WpA.regionQ0 8 2 mixed (by decide +kernel)
   ·exact rfl
   ·apply HeadQ.consF .none rfl
    ·exact rfl
    ·exact in1
    ·exact rfl
    ·exact rfl
    apply HeadQ.consF .none rfl
    ·exact rfl
    ·exact in1
    ·exact rfl
    ·exact rfl
    apply HeadQ.consF .none rfl
    ·exact rfl
    ·exact in1
    ·exact rfl
    ·exact rfl
    apply HeadQ.consF (V:=.own 10 1 0 (ueL ((prsL lv).getD k default).1).length) (.put 0 (XD (ueL ((prsL lv).getD k default).1))) rfl
    ·exact rfl
    ·intro Tv Ov hc hp hd hk
     refine K.call ?_
     refine K.con (fun hcon=>?_)
     refine WpL.callF (hcon ((prsL lv).getD k default).1 (by omega)) snapA locA outA (cnt_some _ 0) rfl rfl (by decide) ?_
     rw [Nat.zero_add]
     apply WpL.putNil (p:=0)
     ·exact hp 0 _ rfl
     ·exact Nat.zero_le _
     ·exact rfl
     ·first|exact still_ints _|exact still_rows (fun _=>rfl) _|rfl
    ·exact rfl
    ·exact rfl
    apply HeadQ.consF .none rfl
    ·exact rfl
    ·exact in1
    ·exact rfl
    ·exact rfl
    apply HeadQ.consF .none rfl
    ·exact rfl
    ·exact in1
    ·exact rfl
    ·exact rfl
    apply HeadQ.consF .none rfl
    ·exact rfl
    ·exact in0
    ·exact rfl
    ·exact rfl
    apply HeadQ.consF (V:=.own 11 1 0 (ueL (nolL ((prsL lv).getD k default).2)).length) (.put 1 (XD (ueL (nolL ((prsL lv).getD k default).2)))) rfl
    ·exact rfl
    ·intro Tv Ov hc hp hd hk
     refine K.call ?_
     refine K.con (fun hcon=>?_)
     refine WpL.callF (hcon (nolL ((prsL lv).getD k default).2) hni) snapA locA outA (cnt_some _ 0) rfl rfl (by decide) ?_
     rw [Nat.zero_add]
     apply WpL.putNil (p:=1)
     ·exact hp 1 _ rfl
     ·exact Nat.zero_le _
     ·exact rfl
     ·first|exact still_ints _|exact still_rows (fun _=>rfl) _|rfl
    ·exact rfl
    ·exact rfl
    exact HeadQ.nil
   ·exact rfl
   ·exact rfl
   ·exact rfl
   ·exact rfl
   ·exact rfl
   ·exact rfl
   refine goR (r:=?_);and_intros<;>intros<;>try exact True.intro
   (apply WpL.nestLis (id:=14) (cs2:=[.fre 1 _ _,.fre 1 _ _,.fre 1 _ _]) [0,1,2]
    ·repeat' (first
      |exact NestC.nil
      |(apply NestC.consF
        ·exact rfl
        ·exact rfl
        ·exact rfl
        ·exact rfl
        ·first|exact Nat.zero_le _|exact Nat.le_of_ble_eq_true rfl
        ·exact still_ints _
        ·first|(simp;done)|rfl
        ·exact rfl
        ·exact rfl))
    ·exact rfl
    ·repeat' (first
      |exact ToLis.nil
      |(apply ToLis.cons
        ·exact rfl
        ·first|rfl|(simp;done)))
    ·exact rfl)
   refine K.call ?_
   refine K.con (fun hcon=>?_)
   refine WpL.callF (hcon [bkK m lv lens k,ueL ((prsL lv).getD k default).1,ueL (nolL ((prsL lv).getD k default).2)] hsm) snapA locA outA rfl rfl rfl (by decide) ?_
   clear hcon
   refine WpL.weak (Weak.fillF (j:=8) rfl rfl rfl (Nat.zero_le _) rfl (still_ints _) rfl rfl) ?_
   rw [hfl]
   refine go (r:=?_);and_intros<;>intros<;>try exact True.intro
   all_goals trace_state
  all_goals have ek:k=(prsL lv).length:=by omega
  all_goals subst ek
  all_goals rw [e]⟩
end Go.Proofs.YtainhhfnnclfiaaGreat


namespace Go.Proofs.YtainhhfnnclfiaaGreat
open Go Go.Abs
attribute [local irreducible] WpA WpL Rnd Blk Abs.Seq Abs.Fin Abs.FinG FnC FnG Only
def mbK (e:Bool) (bs:List Blok) (lens:List Int) (k:Nat):List Int:=[bif e then 1 else 0]++(bs.take k).flatMap fun b=>bkL b.1 b.2 lens (sz8 e)
def mbbL (e:Bool) (bs:List Blok) (lens:List Int):List Int:=if MbkOk e bs lens then mbK e bs lens bs.length else []
theorem mbK_len (e:Bool) (bs:List Blok) (lens:List Int) (k:Nat):(mbK e bs lens k).length≤1+8400*k:=by
 have h3:=fm_bd (fun b:Blok=>bkL b.1 b.2 lens (sz8 e)) 8400 (fun b=>bkL_len _ _ _ _) (bs.take k)
 have h4:(bs.take k).length≤k:=by simp;omega
 unfold mbK;simp only [List.length_append,List.length_cons,List.length_nil];omega
theorem mbK_succ (e:Bool) (bs:List Blok) (lens:List Int) (k:Nat) (h:k<bs.length):mbK e bs lens (k+1)=mbK e bs lens k++bkL (bs.getD k default).1 (bs.getD k default).2 lens (sz8 e):=by
 unfold mbK;rw [fm_snoc _ _ k h,←List.append_assoc]
theorem mbbL_len (e:Bool) (bs:List Blok) (lens:List Int):(mbbL e bs lens).length≤33601:=by
 unfold mbbL;split
 ·rename_i h
  have h1:=mbK_len e bs lens bs.length
  have h2:=sz8_cases e
  have h3:=h.1
  omega
 ·simp
abbrev BoxM (e:Bool) (bs:List Blok):AObj:=⟨[B e,BkL bs],0,0,none⟩
instance MbBits_s:Con 170 (∀ (e:Bool) (bs:List Blok) (lens:List Int),bs.length≤1099511627776∧SmB 1099511627776 bs∧lens.length≤1099511627776→Fn 170 [.agg [B e,BkL bs],IL lens] [XI (mbbL e bs lens)] (.own 0 0 0 (mbbL e bs lens).length)):=⟨fun e bs lens hl=>by
 have hc:=sz8_cases e
 refine FnC.of_body tabOk Tryz.func170 Tryz.ntmps170 rfl (by decide +kernel) (by simp) fun G=>?_
 by_cases h:MbkOk e bs lens
 ·have he:mbbL e bs lens=mbK e bs lens bs.length:=by rw [mbbL,if_pos h]
  have hz:[bif e then (1:Int) else 0]=mbK e bs lens 0:=by simp [mbK]
  have hn:=h.1
  refine go (r:=?_);and_intros<;>intros<;>try exact True.intro
  all_goals first|exact hl.2.1|(exact absurd h (by assumption))|skip
  refine WpA.loop (fun k:Nat=>⟨[(1,IL lens),(2,.ptr 0 0 0),(5,.own 1 0 0 (mbK e bs lens k).length),(6,I k)],[BoxM e bs,XI (mbK e bs lens k)]⟩) (fun k=>k≤bs.length) (fun k=>bs.length-k) 0 (by omega) (go (r:=?_)) (fun k hk=>?_)
  ·trivial
  have hb:=mbK_len e bs lens k
  have hsc:=fun h=>mbK_succ e bs lens k h
  have hbl:=bkL_len (bs.getD k default).1 (bs.getD k default).2 lens (sz8 e)
  have hsl:k<bs.length→(mbK e bs lens (k+1)).length=(mbK e bs lens k).length+(bkL (bs.getD k default).1 (bs.getD k default).2 lens (sz8 e)).length:=fun h=>by rw [hsc h];simp only [List.length_append]
  have hg:=fun h=>smB_get hl.2.1 (k:=k) h
  refine go (r:=?_);and_intros<;>intros<;>try exact True.intro
  all_goals first|(rw [hsc (by omega)];done)|skip
  all_goals have ek:k=bs.length:=by omega
  all_goals subst ek
  all_goals rw [he]
 ·have he:mbbL e bs lens=[]:=by rw [mbbL,if_neg h]
  refine go (r:=?_);and_intros<;>intros<;>try exact True.intro
  all_goals first|exact hl.2.1|(exact absurd (by assumption) h)|(rw [he];done)|(rw [he];rfl)⟩
instance MbBits_c:Con 151 (∀ (e:Bool) (bs:List Blok) (lens:List Int),SmB 1099511627776 bs∧lens.length≤1099511627776∧MbkOk e bs lens→Fn 151 [.agg [B e,BkL bs],IL lens] [XI (mbbL e bs lens)] (.own 0 0 0 (mbbL e bs lens).length)):=⟨fun e bs lens hl=>by
 have hc:=sz8_cases e
 have h:=hl.2.2
 have he:mbbL e bs lens=mbK e bs lens bs.length:=by rw [mbbL,if_pos h]
 have hz:[bif e then (1:Int) else 0]=mbK e bs lens 0:=by simp [mbK]
 have hn:=h.1
 refine FnC.of_body tabOk Tryz.func151 Tryz.ntmps151 rfl (by decide +kernel) (by simp) fun G=>?_
 refine go (r:=?_);and_intros<;>intros<;>try exact True.intro
 all_goals first|exact hl.1|(exact absurd h (by assumption))|skip
 refine WpA.loop (fun k:Nat=>⟨[(1,IL lens),(6,I (sz8 e)),(7,.own 1 0 0 (mbK e bs lens k).length),(25,BkL bs),(26,I bs.length),(27,I k)],[BoxM e bs,XI (mbK e bs lens k)]⟩) (fun k=>k≤bs.length) (fun k=>bs.length-k) 0 (by omega) (go (r:=?_)) (fun k hk=>?_)
 ·trivial
 have hb:=mbK_len e bs lens k
 have hsc:=fun h=>mbK_succ e bs lens k h
 have hbl:=bkL_len (bs.getD k default).1 (bs.getD k default).2 lens (sz8 e)
 have hsl:k<bs.length→(mbK e bs lens (k+1)).length=(mbK e bs lens k).length+(bkL (bs.getD k default).1 (bs.getD k default).2 lens (sz8 e)).length:=fun h=>by rw [hsc h];simp only [List.length_append]
 have hg:=fun h=>smB_get hl.1 (k:=k) h
 have hok:=fun hk=>ok_lv h (k:=k) hk
 refine go (r:=?_);and_intros<;>intros<;>try exact True.intro
 all_goals first|(rw [hsc (by omega)];done)|skip
 all_goals first|(have hk2:k<bs.length:=by omega
                  obtain ⟨a1,⟨⟨a2,a3,a4⟩,a5,a6⟩,a7,a8,a9⟩:=hok hk2
                  first|assumption|omega|exact a6 ‹_›)|skip
 all_goals have ek:k=bs.length:=by omega
 all_goals subst ek
 all_goals rw [he]⟩
def hdB (w h q:Int) (b d:Bool):List Int:=bitsL 183 8++ueL (w/8-1)++ueL (h/8-1)++bitsL q 6++[bif b then 1 else 0,bif d then 1 else 0]
def hdK (w h q:Int) (b d:Bool) (l:List Int) (k:Nat):List Int:=hdB w h q b d++(l.take k).flatMap fun n=>bitsL n 3
def hdL (w h q:Int) (b d:Bool) (l:List Int):List Int:=if HdOk w h q l then hdK w h q b d l l.length else []
theorem hdB_len (w h q:Int) (b d:Bool):(hdB w h q b d).length≤226:=by
 have h1:=bitsL_len 183 8
 have h2:=ueL_len (w/8-1)
 have h3:=ueL_len (h/8-1)
 have h4:=bitsL_len q 6
 unfold hdB;simp only [List.length_append,List.length_cons,List.length_nil];omega
theorem hdK_len (w h q:Int) (b d:Bool) (l:List Int) (k:Nat):(hdK w h q b d l k).length≤226+48*k:=by
 have h1:=hdB_len w h q b d
 have h3:=fm_bd (fun n:Int=>bitsL n 3) 48 (fun n=>bitsL_len _ _) (l.take k)
 have h4:(l.take k).length≤k:=by simp;omega
 unfold hdK;simp only [List.length_append];omega
theorem hdK_succ (w h q:Int) (b d:Bool) (l:List Int) (k:Nat) (hk:k<l.length):hdK w h q b d l (k+1)=hdK w h q b d l k++bitsL (l.getD k 0) 3:=by
 unfold hdK;rw [fm_snoc _ _ k hk,←List.append_assoc];rfl
theorem hdL_len (w h q:Int) (b d:Bool) (l:List Int):(hdL w h q b d l).length≤600:=by
 unfold hdL;split
 ·rename_i hh
  have h1:=hdK_len w h q b d l l.length
  have h6:=hh.2.2.2.1
  omega
 ·simp
theorem in_getH {l:List Int} {lo hi:Int} (h:In l lo hi) {k:Nat} (hk:k<l.length):lo≤l.getD k 0∧l.getD k 0≤hi:=by
 have e:l.getD k 0=l[k]:=by simp [hk]
 rw [e];exact in_mem h (List.getElem_mem _)
abbrev BoxH (w h q:Int) (b d:Bool) (l:List Int):AObj:=⟨[I w,I h,I q,B b,B d,IL l],0,0,none⟩
instance HeaderBits_s:Con 169 (∀ (w h q:Int) (b d:Bool) (l:List Int),l.length≤1099511627776→Fn 169 [HdA w h q b d l] [XI (hdL w h q b d l)] (.own 0 0 0 (hdL w h q b d l).length)):=⟨fun w h q b d l hl=>by
 have h1:=bitsL_len 183 8
 have h2:=ueL_len (w/8-1)
 have h3:=ueL_len (h/8-1)
 have h4:=bitsL_len q 6
 refine FnC.of_body tabOk Tryz.func169 Tryz.ntmps169 rfl (by decide +kernel) (by simp) fun G=>?_
 by_cases h0:HdOk w h q l
 ·have he:hdL w h q b d l=hdK w h q b d l l.length:=by rw [hdL,if_pos h0]
  have hz:bitsL 183 8++ueL (w/8-1)++ueL (h/8-1)++bitsL q 6++[bif b then 1 else 0,bif d then 1 else 0]=hdK w h q b d l 0:=by simp [hdK,hdB]
  have h6:=h0.2.2.2.1
  have hs:=h0.1
  have hq:=h0.2.1
  have hzl:(bitsL 183 8).length+(ueL (w/8-1)).length+(ueL (h/8-1)).length+(bitsL q 6).length+2=(hdK w h q b d l 0).length:=by rw [←hz];simp only [List.length_append,List.length_cons,List.length_nil]
  refine go (r:=?_);and_intros<;>intros<;>try exact True.intro
  all_goals first|(exact absurd h0 (by assumption))|skip
  refine WpA.loop (fun k:Nat=>⟨[(1,.ptr 0 0 0),(3,.own 1 0 0 (hdK w h q b d l k).length),(4,I k)],[BoxH w h q b d l,XI (hdK w h q b d l k)]⟩) (fun k=>k≤l.length) (fun k=>l.length-k) 0 (by omega) (go (r:=?_)) (fun k hk=>?_)
  ·trivial
  have hb:=hdK_len w h q b d l k
  have hsc:=fun hk=>hdK_succ w h q b d l k hk
  have hbl:=bitsL_len (l.getD k 0) 3
  have hin:=fun hk=>in_getH h0.2.2.1 (k:=k) hk
  have hsl:k<l.length→(hdK w h q b d l (k+1)).length=(hdK w h q b d l k).length+(bitsL (l.getD k 0) 3).length:=fun hk=>by rw [hsc hk];simp only [List.length_append]
  refine go (r:=?_);and_intros<;>intros<;>try exact True.intro
  all_goals first|(rw [hsc (by omega)];done)|skip
  all_goals have ek:k=l.length:=by omega
  all_goals subst ek
  all_goals rw [he]
 ·have he:hdL w h q b d l=[]:=by rw [hdL,if_neg h0]
  refine go (r:=?_);and_intros<;>intros<;>try exact True.intro
  all_goals first|(exact absurd (by assumption) h0)|(rw [he];done)|(rw [he];rfl)⟩
end Go.Proofs.YtainhhfnnclfiaaGreat


namespace Go.Proofs.YtainhhfnnclfiaaGreat
open Go Go.Abs
attribute [local irreducible] WpA WpL Rnd Blk Abs.Seq Abs.Fin Abs.FinG FnC FnG Only
attribute [local irreducible] bitsL ueL
theorem hd_ws {w h:Int} (hs:SidesOk w h):(0≤w/8-1∧w/8-1≤65534)∧(0≤h/8-1∧h/8-1≤65534):=by
 have:=hs;unfold SidesOk at this;omega
instance HeaderBits_c:Con 150 (∀ (w h q:Int) (b d:Bool) (l:List Int),l.length≤1099511627776∧HdOk w h q l→Fn 150 [HdA w h q b d l] [XI (hdL w h q b d l)] (.own 0 0 0 (hdL w h q b d l).length)):=⟨fun w h q b d l hl=>by
 have h1:=bitsL_len 183 8
 have h2:=ueL_len (w/8-1)
 have h3:=ueL_len (h/8-1)
 have h4:=bitsL_len q 6
 have h0:=hl.2
 have he:hdL w h q b d l=hdK w h q b d l l.length:=by rw [hdL,if_pos h0]
 have h6:=h0.2.2.2.1
 have hs:=h0.1
 have hq:=h0.2.1
 have hws:=hd_ws hs
 have hfl:[bitsL 183 8,ueL (w/8-1),ueL (h/8-1),bitsL q 6,[bif b then 1 else 0,bif d then 1 else 0]].flatten=hdK w h q b d l 0:=by simp [hdK,hdB]
 have hsm:[bitsL 183 8,ueL (w/8-1),ueL (h/8-1),bitsL q 6,[bif b then (1:Int) else 0,bif d then 1 else 0]].length≤1024∧SmL 1048576 [bitsL 183 8,ueL (w/8-1),ueL (h/8-1),bitsL q 6,[bif b then (1:Int) else 0,bif d then 1 else 0]]:=⟨by simp,smL_cons (by omega) (smL_cons (by omega) (smL_cons (by omega) (smL_cons (by omega) (smL_cons (by simp) (smL_nil _)))))⟩
 refine FnC.of_body tabOk Tryz.func150 Tryz.ntmps150 rfl (by decide +kernel) (by simp) fun G=>?_
 refine goR (r:=?_);and_intros<;>intros<;>try exact True.intro
 all_goals first|(exact absurd h0 (by assumption))|skip
 apply WpA.regionQ1 21 5 mixed (by decide +kernel)
 ·exact rfl
 ·apply HeadQ.consF (V:=.own 1 1 0 (bitsL 183 8).length) (.put 0 (XD (bitsL 183 8))) rfl
  ·exact rfl
  ·intro Tv Ov hc hp hd hk
   refine K.call ?_
   refine K.con (fun hcon=>?_)
   refine WpL.callF (hcon 183 8 (by decide)) snapA locA outA (cnt_some _ 0) rfl rfl (by decide) ?_
   rw [Nat.zero_add]
   apply WpL.putNil (p:=0)
   ·exact hp 0 _ rfl
   ·exact Nat.zero_le _
   ·exact rfl
   ·first|exact still_ints _|exact still_rows (fun _=>rfl) _|rfl
  ·exact rfl
  ·exact rfl
  apply HeadQ.consF .none rfl
  ·exact rfl
  ·exact in1
  ·exact rfl
  ·exact rfl
  apply HeadQ.consF .none rfl
  ·exact rfl
  ·exact in1
  ·exact rfl
  ·exact rfl
  apply HeadQ.consF .none rfl
  ·exact rfl
  ·exact in1
  ·exact rfl
  ·exact rfl
  apply HeadQ.consF .none rfl
  ·exact rfl
  ·exact in1
  ·exact rfl
  ·exact rfl
  apply HeadQ.consF (V:=.own 2 1 0 (ueL (w/8-1)).length) (.put 1 (XD (ueL (w/8-1)))) rfl
  ·exact rfl
  ·intro Tv Ov hc hp hd hk
   refine K.call ?_
   refine K.con (fun hcon=>?_)
   refine WpL.callF (hcon (w/8-1) hws.1) snapA locA outA (cnt_some _ 0) rfl rfl (by decide) ?_
   rw [Nat.zero_add]
   apply WpL.putNil (p:=1)
   ·exact hp 1 _ rfl
   ·exact Nat.zero_le _
   ·exact rfl
   ·first|exact still_ints _|exact still_rows (fun _=>rfl) _|rfl
  ·exact rfl
  ·exact rfl
  apply HeadQ.consF .none rfl
  ·exact rfl
  ·exact in1
  ·exact rfl
  ·exact rfl
  apply HeadQ.consF .none rfl
  ·exact rfl
  ·exact in1
  ·exact rfl
  ·exact rfl
  apply HeadQ.consF .none rfl
  ·exact rfl
  ·exact in1
  ·exact rfl
  ·exact rfl
  apply HeadQ.consF .none rfl
  ·exact rfl
  ·exact in1
  ·exact rfl
  ·exact rfl
  apply HeadQ.consF (V:=.own 3 1 0 (ueL (h/8-1)).length) (.put 2 (XD (ueL (h/8-1)))) rfl
  ·exact rfl
  ·intro Tv Ov hc hp hd hk
   refine K.call ?_
   refine K.con (fun hcon=>?_)
   refine WpL.callF (hcon (h/8-1) hws.2) snapA locA outA (cnt_some _ 0) rfl rfl (by decide) ?_
   rw [Nat.zero_add]
   apply WpL.putNil (p:=2)
   ·exact hp 2 _ rfl
   ·exact Nat.zero_le _
   ·exact rfl
   ·first|exact still_ints _|exact still_rows (fun _=>rfl) _|rfl
  ·exact rfl
  ·exact rfl
  apply HeadQ.consF .none rfl
  ·exact rfl
  ·exact in1
  ·exact rfl
  ·exact rfl
  apply HeadQ.consF .none rfl
  ·exact rfl
  ·exact in1
  ·exact rfl
  ·exact rfl
  apply HeadQ.consF (V:=.own 4 1 0 (bitsL q 6).length) (.put 3 (XD (bitsL q 6))) rfl
  ·exact rfl
  ·intro Tv Ov hc hp hd hk
   refine K.call ?_
   refine K.con (fun hcon=>?_)
   refine WpL.callF (hcon q 6 (by omega)) snapA locA outA (cnt_some _ 0) rfl rfl (by decide) ?_
   rw [Nat.zero_add]
   apply WpL.putNil (p:=3)
   ·exact hp 3 _ rfl
   ·exact Nat.zero_le _
   ·exact rfl
   ·first|exact still_ints _|exact still_rows (fun _=>rfl) _|rfl
  ·exact rfl
  ·exact rfl
  apply HeadQ.consF .none rfl
  ·exact rfl
  ·exact in1
  ·exact rfl
  ·exact rfl
  apply HeadQ.consF .none rfl
  ·exact rfl
  ·exact in1
  ·exact rfl
  ·exact rfl
  apply HeadQ.consF .none rfl
  ·exact rfl
  ·exact in0
  ·exact rfl
  ·exact rfl
  apply HeadQ.consF .none rfl
  ·exact rfl
  ·exact in1
  ·exact rfl
  ·exact rfl
  apply HeadQ.consF .none rfl
  ·exact rfl
  ·exact in1
  ·exact rfl
  ·exact rfl
  apply HeadQ.consF .none rfl
  ·exact rfl
  ·exact in0
  ·exact rfl
  ·exact rfl
  apply HeadQ.consF (V:=.own 5 1 0 2) (.put 4 (XD [bif b then 1 else 0,bif d then 1 else 0])) rfl
  ·exact rfl
  ·intro Tv Ov hc hp hd hk
   refine WpL.litInts tabOk rfl rfl rfl rfl rfl (by decide) (by rw [nid_len,Nat.zero_add]) (by decide) ?_
   apply WpL.putNil (p:=4)
   ·exact hp 4 _ rfl
   ·exact Nat.zero_le _
   ·exact rfl
   ·first|exact still_ints _|exact still_rows (fun _=>rfl) _|rfl
  ·exact rfl
  ·exact rfl
  exact HeadQ.nil
 ·exact rfl
 ·exact rfl
 ·exact rfl
 ·exact rfl
 ·exact rfl
 ·exact rfl
 ·exact rfl
 ·exact rfl
 generalize bitsL 183 8=L1 at*
 generalize ueL (w/8-1)=L2 at*
 generalize ueL (h/8-1)=L3 at*
 generalize bitsL q 6=L4 at*
 refine goR (r:=?_);and_intros<;>intros<;>try exact True.intro
 (apply WpL.nestLis (id:=11) (cs2:=[.fre 1 _ _,.fre 1 _ _,.fre 1 _ _,.fre 1 _ _,.fre 1 _ _]) (O3:=[BoxH w h q b d l,DD,DD,DD,DD,DD,deadO,deadO,deadO,deadO,deadO,⟨rows liF [L1,L2,L3,L4,[bif b then 1 else 0,bif d then 1 else 0]],0,1,some 32⟩]) [0,1,2,3,4]
  ·repeat' (first
    |exact NestC.nil
    |(apply NestC.consF
      ·exact rfl
      ·exact rfl
      ·exact rfl
      ·exact rfl
      ·first|exact Nat.zero_le _|exact Nat.le_of_ble_eq_true rfl
      ·exact still_ints _
      ·first|(simp;done)|rfl
      ·exact rfl
      ·exact rfl))
  ·exact rfl
  ·repeat' (first
    |exact ToLis.nil
    |(apply ToLis.cons
      ·exact rfl
      ·first|rfl|(simp;done)))
  ·exact rfl)
 refine K.call ?_
 refine K.con (fun hcon=>?_)
 refine WpL.callF (hcon [L1,L2,L3,L4,[bif b then 1 else 0,bif d then 1 else 0]] hsm) snapA locA outA rfl rfl rfl (by decide) ?_
 clear hcon
 refine WpL.weak (Weak.fillF (j:=1) (O3:=[BoxH w h q b d l,⟨ints [L1,L2,L3,L4,[bif b then 1 else 0,bif d then 1 else 0]].flatten,3,1,some 3⟩,DD,DD,DD,DD,deadO,deadO,deadO,deadO,deadO,⟨rows liF [L1,L2,L3,L4,[bif b then 1 else 0,bif d then 1 else 0]],0,1,some 32⟩,deadO]) rfl rfl rfl (Nat.zero_le _) rfl (still_ints _) rfl rfl) ?_
 rw [hfl]
 refine go (r:=?_);and_intros<;>intros<;>try exact True.intro
 refine WpA.loop (fun k:Nat=>⟨[(3,.own 1 0 0 (hdK w h q b d l k).length),(33,IL l),(34,I l.length),(35,I k)],[BoxH w h q b d l,XI (hdK w h q b d l k)]⟩) (fun k=>k≤l.length) (fun k=>l.length-k) 0 (by omega) (go (r:=?_)) (fun k hk=>?_)
 ·trivial
 have hb:=hdK_len w h q b d l k
 have hsc:=fun hk=>hdK_succ w h q b d l k hk
 have hbl:=bitsL_len (l.getD k 0) 3
 have hin:=fun hk=>in_getH h0.2.2.1 (k:=k) hk
 have hsl:k<l.length→(hdK w h q b d l (k+1)).length=(hdK w h q b d l k).length+(bitsL (l.getD k 0) 3).length:=fun hk=>by rw [hsc hk];simp only [List.length_append]
 refine go (r:=?_);and_intros<;>intros<;>try exact True.intro
 all_goals first|(rw [hsc (by omega)];done)|skip
 all_goals have ek:k=l.length:=by omega
 all_goals subst ek
 all_goals rw [he]⟩
end Go.Proofs.YtainhhfnnclfiaaGreat


namespace Go.Proofs.YtainhhfnnclfiaaGreat
open Go Go.Abs
attribute [local irreducible] WpA WpL Rnd Blk Abs.Seq Abs.Fin Abs.FinG FnC FnG Only
attribute [local simp] Abs.setL
def endB (k:Int) (l:List Blok):Int:=k+bw l
def markB:Int→List Blok→List Blok
 |_,[]=>[]
 |k,b::l=>(k,marksI (k+1) b.2.length)::markB (k+1+b.2.length) l
theorem bw_nil:bw []=0:=rfl
theorem bw_cons (b:Blok) (l:List Blok):bw (b::l)=bw l+1+b.2.length:=by unfold bw;rw [List.map_cons,List.sum_cons,List.length_cons];unfold bn;omega
@[simp] theorem markB_len:∀(l:List Blok) (k:Int),(markB k l).length=l.length
 |[],k=>rfl
 |b::l,k=>by rw [markB,List.length_cons,List.length_cons,markB_len l]
def markM:Int→List Mbk→List Mbk
 |_,[]=>[]
 |k,m::l=>(decide (k%3=0),markB (k+1) m.2)::markM (k+1+bw m.2) l
theorem mw_nil:mw []=0:=rfl
theorem mw_cons (b:Mbk) (l:List Mbk):mw (b::l)=mw l+1+bw b.2:=by unfold mw;rw [List.map_cons,List.sum_cons,List.length_cons];unfold mn;omega
@[simp] theorem markM_len:∀(l:List Mbk) (k:Int),(markM k l).length=l.length
 |[],k=>rfl
 |b::l,k=>by rw [markM,List.length_cons,List.length_cons,markM_len l]
end Go.Proofs.YtainhhfnnclfiaaGreat


namespace Go.Proofs.YtainhhfnnclfiaaGreat
open Go Go.Abs
attribute [local irreducible] WpA WpL Rnd Blk Abs.Seq Abs.Fin Abs.FinG FnC FnG Only
def mbF (l:List Int) (m:Mbk):List Int:=mbbL m.1 m.2 l
def stK (w h q:Int) (b d:Bool) (l:List Int) (M:List Mbk) (k:Nat):List Int:=hdL w h q b d l++(M.take k).flatMap (mbF l)
theorem stK_len (w h q:Int) (b d:Bool) (l:List Int) (M:List Mbk) (k:Nat):(stK w h q b d l M k).length≤600+33601*k:=by
 have h1:=hdL_len w h q b d l
 have h3:=fm_bd (mbF l) 33601 (fun m=>mbbL_len _ _ _) (M.take k)
 have h4:(M.take k).length≤k:=by simp;omega
 unfold stK;simp only [List.length_append];omega
theorem stK_succ (w h q:Int) (b d:Bool) (l:List Int) (M:List Mbk) (k:Nat) (hk:k<M.length):stK w h q b d l M (k+1)=stK w h q b d l M k++mbF l (M.getD k default):=by
 unfold stK;rw [fm_snoc _ _ k hk,←List.append_assoc]
end Go.Proofs.YtainhhfnnclfiaaGreat


namespace Go.Proofs.YtainhhfnnclfiaaGreat
open Go Go.Abs
attribute [local irreducible] WpA WpL Rnd Blk Abs.Seq Abs.Fin Abs.FinG FnC FnG Only
def Bit01 (l:List Int):Prop:=∀x∈l,x=0∨x=1
theorem b01_app {a b:List Int} (h1:Bit01 a) (h2:Bit01 b):Bit01 (a++b):=fun x hx=>(List.mem_append.1 hx).elim (h1 x) (h2 x)
theorem b01_nil:Bit01 []:=fun x hx=>by cases hx
theorem b01_rep (n:Nat):Bit01 (List.replicate n 0):=fun x hx=>.inl (List.mem_replicate.1 hx).2
theorem b01_bits (n w:Int):Bit01 (bitsL n w):=by
 unfold bitsL;split
 ·intro x hx
  unfold bitsR at hx
  obtain ⟨k,_,rfl⟩:=List.mem_map.1 hx
  omega
 ·exact b01_nil
theorem b01_ue (n:Int):Bit01 (ueL n):=by
 unfold ueL;split
 ·exact b01_app (b01_rep _) (b01_bits _ _)
 ·exact b01_nil
theorem b01_sym (l:List Int) (m:Int):Bit01 (symL l m):=by
 unfold symL;split
 ·exact b01_bits _ _
 ·exact b01_nil
theorem b01_one (b:Bool):(bif b then (1:Int) else 0)=0∨(bif b then (1:Int) else 0)=1:=by cases b<;>simp
theorem b01_fm {α:Type} (f:α→List Int) (h:∀a,Bit01 (f a)):∀l:List α,Bit01 (l.flatMap f):=fun l x hx=>by
 obtain ⟨a,_,hx⟩:=List.mem_flatMap.1 hx
 exact h a x hx
theorem b01_prB (p:Int×Int):Bit01 (prB p):=b01_app (b01_ue _) (b01_ue _)
theorem b01_bk (m:Int) (lv lens:List Int) (n:Int):Bit01 (bkL m lv lens n):=by
 unfold bkL;split
 ·split
  ·exact b01_app (b01_sym _ _) (fun x hx=>by simp at hx;exact .inl hx)
  ·unfold bkK
   exact b01_app (b01_app (b01_app (b01_sym _ _) (fun x hx=>by simp at hx;exact .inr hx)) (b01_ue _)) (b01_fm _ b01_prB _)
 ·exact b01_nil
theorem b01_mb (e:Bool) (bs:List Blok) (lens:List Int):Bit01 (mbbL e bs lens):=by
 unfold mbbL;split
 ·unfold mbK
  exact b01_app (fun x hx=>by simp only [List.mem_singleton] at hx;rw [hx];exact b01_one e) (b01_fm _ (fun b=>b01_bk _ _ _ _) _)
 ·exact b01_nil
theorem b01_hd (w h q:Int) (b d:Bool) (l:List Int):Bit01 (hdL w h q b d l):=by
 unfold hdL;split
 ·unfold hdK hdB
  refine b01_app (b01_app (b01_app (b01_app (b01_app (b01_bits _ _) (b01_ue _)) (b01_ue _)) (b01_bits _ _)) ?_) (b01_fm _ (fun n=>b01_bits _ _) _)
  intro x hx
  simp only [List.mem_cons,List.not_mem_nil,or_false] at hx
  rcases hx with rfl|rfl
  ·exact b01_one b
  ·exact b01_one d
 ·exact b01_nil
theorem b01_st (w h q:Int) (b d:Bool) (l:List Int) (M:List Mbk) (k:Nat):Bit01 (stK w h q b d l M k):=by
 unfold stK
 exact b01_app (b01_hd _ _ _ _ _ _) (b01_fm _ (fun m=>b01_mb _ _ _) _)
def numS (l:List Int) (k:Nat):Int:=(l.take k).foldl (fun n b=>n*2+b) 0
theorem numS_succ {l:List Int} {k:Nat} (h:k<l.length):numS l (k+1)=numS l k*2+l.getD k 0:=by
 unfold numS;rw [List.take_succ_eq_append_getElem h,List.foldl_append];simp [h]
theorem b01_get {l:List Int} (h:Bit01 l) (k:Nat):l.getD k 0=0∨l.getD k 0=1:=by
 rcases Nat.lt_or_ge k l.length with h1|h1
 ·exact h _ (by simp [h1])
 ·left;rw [List.getD_eq_getElem?_getD,List.getElem?_eq_none h1];rfl
theorem numS_bd {l:List Int} (h:Bit01 l):∀k,k≤8→0≤numS l k∧numS l k<2 ^ k
 |0,_=>by simp [numS]
 |k+1,hk=>by
  have ih:=numS_bd h k (by omega)
  rcases Nat.lt_or_ge k l.length with h1|h1
  ·rw [numS_succ h1]
   have:=b01_get h k
   have e:(2:Int) ^ (k+1)=2 ^ k*2:=by rw [Int.pow_succ]
   omega
  ·have e:numS l (k+1)=numS l k:=by unfold numS;rw [List.take_of_length_le (by omega),List.take_of_length_le (by omega)]
   have e2:(2:Int) ^ (k+1)=2 ^ k*2:=by rw [Int.pow_succ]
   omega
theorem numS_256 {l:List Int} (h:Bit01 l) {k:Nat} (hk:k≤8):0≤numS l k∧numS l k<256:=by
 have h1:=numS_bd h k hk
 have h2:(2:Int) ^ k≤2 ^ 8:=by
  have:=Nat.pow_le_pow_right (n:=2) (by decide) hk
  exact_mod_cast this
 have h3:(2:Int) ^ 8=256:=by decide
 omega
instance NumOf_s:Con 282 (∀ l:List Int,l.length=8∧Bit01 l→Fn 282 [IL l] [] (.tup [I (numS l 8),B true])):=⟨fun l hl=>by
 have h8:=hl.1
 refine FnC.of_body tabOk Tryz.func282 Tryz.ntmps282 rfl (by decide +kernel) (by simp) fun G=>?_
 refine go (r:=?_);and_intros<;>intros<;>try exact True.intro
 refine WpA.loop (fun k:Nat=>⟨[(0,IL l),(4,I (numS l k)),(5,I k)],[]⟩) (fun k=>k≤8) (fun k=>8-k) 0 (by omega) (go (r:=?_)) (fun k hk=>?_)
 ·simp [numS]
 have hb:=b01_get hl.2 k
 have hn:=numS_256 hl.2 hk
 have hs:=fun h=>numS_succ (l:=l) (k:=k) h
 refine go (r:=?_);and_intros<;>intros<;>try exact True.intro
 all_goals first|(exact (hs (by omega)).symm)|(rw [show k=8 by omega];done)⟩
def byI (x:List Int) (k:Nat):List Int:=(List.range k).map fun i=>numS ((x.drop (8*i)).take 8) 8
def strS (x:List Int):List UInt8:=(byI x (x.length/8)).map fun n:Int=>UInt8.ofNat n.toNat
theorem byI_len (x:List Int) (k:Nat):(byI x k).length=k:=by simp [byI]
theorem byI_succ (x:List Int) (k:Nat):byI x (k+1)=byI x k++[numS ((x.drop (8*k)).take 8) 8]:=by simp [byI,List.range_succ]
theorem b01_mid {x:List Int} (h:Bit01 x) (i:Nat):Bit01 ((x.drop i).take 8):=fun y hy=>h y (List.mem_of_mem_drop (List.mem_of_mem_take hy))
instance BytesOf_s:Con 240 (∀ l:List Int,l.length≤1099511627776∧l.length%8=0∧Bit01 l→Fn 240 [IL l] [] (.tup [Z (strS l),B true])):=⟨fun l hl=>by
 have h8:=hl.2.1
 refine FnC.of_body tabOk Tryz.func240 Tryz.ntmps240 rfl (by decide +kernel) (by simp) fun G=>?_
 refine go (r:=?_);and_intros<;>intros<;>try exact True.intro
 all_goals first|contradiction|omega|skip
 refine WpA.loop (fun k:Nat=>⟨[(0,IL l),(4,.own 0 0 0 k),(5,I (8*(k:Int)))],[⟨u8s (byI l k),0,1,some 5⟩]⟩) (fun k=>k≤l.length/8) (fun k=>l.length/8-k) 0 (by omega) (go (r:=?_)) (fun k hk=>?_)
 ·and_intros<;>first|exact True.intro|rfl
 have hln:=byI_len l k
 have hs:=byI_succ l k
 have hm:=b01_mid hl.2.2 (8*k)
 have hn:=numS_256 hm (k:=8) (by omega)
 by_cases hlt:k<l.length/8
 ·have hml:((l.drop (8*k)).take 8).length=8:=by simp;omega
  have e1:(8*(k:Int)+8).toNat-(8*(k:Int)).toNat=8:=by omega
  have e2:(8*(k:Int)).toNat=8*k:=by omega
  refine go (r:=?_);and_intros<;>intros<;>try exact True.intro
  all_goals first|contradiction|omega|skip
  ·rename_i y hy
   rw [e1,e2] at hy;exact hm y hy
  ·rw [e1,e2,u8_in (by omega),hs]
 ·obtain rfl:k=l.length/8:=by omega
  refine go (r:=?_);and_intros<;>intros<;>try exact True.intro
  refine K.cv ?_
  refine WpL.ofBytes tabOk rfl rfl rfl rfl rfl (by simp [u8s,hln]) (by decide) ?_
  refine go (r:=?_);and_intros<;>intros<;>try exact True.intro
  all_goals trace_state⟩
def padN (n:Nat):Nat:=(8-(n+1)%8)%8
def padL (b:List Int) (j:Nat):List Int:=b++[1]++List.replicate j 0
theorem padL_len (b:List Int) (j:Nat):(padL b j).length=b.length+1+j:=by simp [padL];omega
theorem padL_succ (b:List Int) (j:Nat):padL b (j+1)=padL b j++[0]:=by unfold padL;rw [List.replicate_succ',←List.append_assoc]
theorem b01_pad {b:List Int} (h:Bit01 b) (j:Nat):Bit01 (padL b j):=b01_app (b01_app h (fun x hx=>by simp at hx;exact .inr hx)) (b01_rep j)
def stopS (b:List Int):List UInt8:=strS (padL b (padN b.length))
instance Stopped_s:Con 171 (∀ b:List Int,b.length≤1073741824∧Bit01 b→Fn 171 [IL b] [] (Z (stopS b))):=⟨fun b hl=>by
 have h0:=hl.1
 refine FnC.of_body tabOk Tryz.func171 Tryz.ntmps171 rfl (by decide +kernel) (by simp) fun G=>?_
 refine go (r:=?_);and_intros<;>intros<;>try exact True.intro
 all_goals first|contradiction|omega|skip
 refine WpA.loop (fun j:Nat=>⟨[(3,.own 0 0 0 (b.length+1+j))],[XI (padL b j)]⟩) (fun j=>j≤padN b.length) (fun j=>padN b.length-j) 0 (Nat.zero_le _) ?_ (fun j hj=>?_)
 ·exact Weak.mk (by repeat (first|exact ReT.nil|refine ReT.cons (.keep rfl rfl .nil) ?_|refine ReT.cons (.own rfl rfl rfl rfl rfl rfl .nil) ?_|refine ReT.cons (.ptr rfl rfl rfl rfl .nil) ?_|refine ReT.cons (.keep (congrArg (fun z=>AV.sc (Value.int .i64 z)) (by first|omega|(skip))) rfl .nil) ?_|refine ReT.cons (.keep (congrArg (fun z:List UInt8=>AV.sc (Value.string ⟨z.toArray⟩)) (by skip)) rfl .nil) ?_|refine ReT.cons (.own rfl rfl rfl rfl rfl (by first|omega|(simp;done)|(simp;omega)) .nil) ?_)) (by exact ReO.cons (Re.same (by simp [padL]) (still_ints _)) (.inr rfl) .nil) (Nat.zero_le _)
 have hpl:=padL_len b j
 have hps:=padL_succ b j
 have hcond:j<padN b.length↔(b.length+1+j)%8≠0:=by unfold padN at hj ⊢;omega
 have hp8:padN b.length≤7:=by unfold padN;omega
 by_cases hlt:j<padN b.length
 ·have hc:=hcond.1 hlt
  refine go (r:=?_);and_intros<;>intros<;>try exact True.intro
  all_goals first|contradiction|omega|exact hps.symm
 ·obtain rfl:j=padN b.length:=by omega
  have hc:(b.length+1+padN b.length)%8=0:=Decidable.byContradiction fun h=>hlt (hcond.2 h)
  have hb:=b01_pad hl.2 (padN b.length)
  refine go (r:=?_);and_intros<;>intros<;>try exact True.intro
  all_goals first|contradiction|omega|exact hb|exact hb _ (by assumption)⟩
def unpS (w h q:Int) (b d:Bool) (l:List Int) (M:List Mbk):List UInt8:=if StOk w h q l M then stopS (stK w h q b d l M M.length) else []
theorem stK_small {w h q:Int} {b d:Bool} {l:List Int} {M:List Mbk} (h0:StOk w h q l M):(stK w h q b d l M M.length).length≤600000:=by
 have h1:=stK_len w h q b d l M M.length
 have h2:=cntM_bd h0.1.1
 have h3:=h0.2.1
 omega
instance Unparse_s:Con 104 (∀ (w h q:Int) (b d:Bool) (l:List Int) (M:List Mbk),l.length≤1099511627776∧mw M≤1048576→Fn 104 [StA w h q b d l M] [] (Z (unpS w h q b d l M))):=⟨fun w h q b d l M hM=>by
 have hmw:mw M=M.length+(M.map mn).sum:=rfl
 have hsm:SmM 1099511627776 M:=smM_of (by omega)
 have hhl:=hdL_len w h q b d l
 refine FnC.of_body tabOk Tryz.func104 Tryz.ntmps104 rfl (by decide +kernel) (by simp) fun G=>?_
 by_cases h0:StOk w h q l M
 ·have hres:unpS w h q b d l M=stopS (stK w h q b d l M M.length):=by rw [unpS,if_pos h0]
  have hz:(hdL w h q b d l).length=(stK w h q b d l M 0).length:=by simp [stK]
  have hz0:hdL w h q b d l=stK w h q b d l M 0:=by simp [stK]
  refine go (r:=?_);and_intros<;>intros<;>try exact True.intro
  all_goals first|exact hsm|(exact absurd h0 (by assumption))|skip
  refine WpA.loop (fun i:Nat=>⟨[(1,.ptr 0 0 0),(3,.own 1 0 0 (stK w h q b d l M i).length),(4,I i)],[⟨StC w h q b d l M,0,0,none⟩,XI (stK w h q b d l M i)]⟩) (fun i=>i≤M.length) (fun i=>M.length-i) 0 (by omega) (go (r:=?_)) (fun i hi=>?_)
  ·and_intros<;>first|exact True.intro|exact hz|exact hz0|exact hz.symm
  have hb:=stK_len w h q b d l M i
  have hsc:=fun hk=>stK_succ w h q b d l M i hk
  have hbl:=mbbL_len (M.getD i default).1 (M.getD i default).2 l
  have hsl:i<M.length→(stK w h q b d l M (i+1)).length=(stK w h q b d l M i).length+(mbbL (M.getD i default).1 (M.getD i default).2 l).length:=fun hk=>by rw [hsc hk,List.length_append];rfl
  by_cases hi2:i<M.length
  ·obtain ⟨hg1,hg2⟩:=smM_get hsm hi2
   have hsl:=hsl hi2
   refine go (r:=?_);and_intros<;>intros<;>try exact True.intro
   all_goals first|(rw [hsc hi2];rfl)
  ·have ek:i=M.length:=by omega
   subst ek
   have hst:=stK_small (b:=b) (d:=d) h0
   have h01:=b01_st w h q b d l M M.length
   refine go (r:=?_);and_intros<;>intros<;>try exact True.intro
   all_goals first|exact h01|exact h01 _ (by assumption)|(rw [hres];done)
 ·have hres:unpS w h q b d l M=[]:=by rw [unpS,if_neg h0]
  refine go (r:=?_);and_intros<;>intros<;>try exact True.intro
  all_goals first|exact hsm|(exact absurd (by assumption) h0)|(rw [hres];done)⟩
end Go.Proofs.YtainhhfnnclfiaaGreat
