/- Proved in this text: lemmas and contracts of functions that the claim uses (parts: BldR, ParL, Dec, TopP, Cur, CurP, Draw, AbsPre, Draw2, Draw3, AbsXn, Draw4, Draw5, LevP, DrP, DbP). No condition. -/
import Derived.Test.YtndflfipaddfoaaGreatCtM14
import Derived.Test.YtndflfipaddfoaaGreatCtM11
import Derived.Test.YtndflfipaddfoaaGreatCtM10
import Derived.Test.YtndflfipaddfoaaGreatCtM12
import Derived.Test.YtndflfipaddfoaaGreatCtM7
import Derived.Test.YtndflfipaddfoaaGreatCtM9
import Derived.Test.YtndflfipaddfoaaGreatCtM6
set_option linter.unusedVariables false
set_option linter.unusedSimpArgs false
set_option maxRecDepth 100000
set_option maxHeartbeats 16000000


namespace Go.Proofs.YtndflfipaddfoaaGreat
open Go Go.Abs
attribute [local irreducible] WpA WpL Rnd Blk Abs.Seq Abs.Fin Abs.FinG FnC FnG Only
def endL (W H q:Int) (d:Bool) (p:List Int):List Int:=cond d (dbL W H q p) p
theorem ended1 (W H w h q:Int) (b:Bool) (lens p:List Int) (hl:p.length≤1099511627776):Fn 77 [HdA w h q b true lens,FrA W H p] [IN (dbL W H q p)] (FrOwn 0 W H p.length):=by
 have hdl:=dbL_len W H q p
 refine FnC.of_body tabOk Tryz.func77 Tryz.ntmps77 rfl (by decide +kernel) (by simp) fun G=>?_
 refine go (r:=?_);and_intros<;>intros<;>try exact True.intro
 all_goals first|contradiction|omega
theorem ended0 (W H w h q:Int) (b:Bool) (lens p:List Int):Fn 77 [HdA w h q b false lens,FrA W H p] [] (FrA W H p):=by
 refine FnC.of_body tabOk Tryz.func77 Tryz.ntmps77 rfl (by decide +kernel) (by simp) fun G=>?_
 refine go (r:=?_);and_intros<;>intros<;>try exact True.intro
 all_goals first|contradiction|omega
theorem ended_c (W H w h q:Int) (b d:Bool) (lens p:List Int) (hl:p.length≤1099511627776):Fn 77 [HdA w h q b d lens,FrA W H p] [] (FrA W H (endL W H q d p)):=by
 cases d with
 |false=>exact ended0 W H w h q b lens p
 |true=>exact FnC.still (ended1 W H w h q b lens p hl) (.agg (.keep rfl rfl (.keep rfl rfl (.own rfl rfl rfl (by simp [dbL_len]) (dbL_len W H q p).symm (Snap.same rfl (still_ints _) (nofre_ints _)) .nil))) .nil)
def bldB (W H q:Int) (b:Bool) (n:Int) (k:Nat) (bs:List Blok) (p:List Int):Nat→List Int
 |0=>p
 |i+1=>putL W H (bldB W H q b n k bs p i) q b (plc1 W n k i).1 (plc1 W n k i).2.1 (bs.getD i default).1 (bs.getD i default).2
def bldM (W H q:Int) (b:Bool) (M:List Mbk) (p:List Int):Nat→List Int
 |0=>p
 |k+1=>bldB W H q b (sz8 (M.getD k default).1) k (M.getD k default).2 (bldM W H q b M p k) (manyE (M.getD k default).1)
theorem bldB_len (W H q:Int) (b:Bool) (n:Int) (k:Nat) (bs:List Blok) (p:List Int):∀i,(bldB W H q b n k bs p i).length=p.length
 |0=>rfl
 |i+1=>by rw [bldB,putL_len,bldB_len W H q b n k bs p i]
theorem bldM_len (W H q:Int) (b:Bool) (M:List Mbk) (p:List Int):∀k,(bldM W H q b M p k).length=p.length
 |0=>rfl
 |k+1=>by rw [bldM,bldB_len,bldM_len W H q b M p k]
theorem bldB_zero (W H q:Int) (b:Bool) (n:Int) (k:Nat) (bs:List Blok) (p:List Int):bldB W H q b n k bs p 0=p:=rfl
theorem bldM_zero (W H q:Int) (b:Bool) (M:List Mbk) (p:List Int):bldM W H q b M p 0=p:=rfl
theorem bldB_succ (W H q:Int) (b:Bool) (n:Int) (k:Nat) (bs:List Blok) (p:List Int) (i:Nat):bldB W H q b n k bs p (i+1)=putL W H (bldB W H q b n k bs p i) q b (plc1 W n k i).1 (plc1 W n k i).2.1 (bs.getD i default).1 (bs.getD i default).2:=rfl
theorem bldM_succ (W H q:Int) (b:Bool) (M:List Mbk) (p:List Int) (k:Nat):bldM W H q b M p (k+1)=bldB W H q b (sz8 (M.getD k default).1) k (M.getD k default).2 (bldM W H q b M p k) (manyE (M.getD k default).1):=rfl
def zerP (W H:Int):List Int:=List.replicate (W*H).toNat 0
def refL (W H q:Int) (b d:Bool) (M:List Mbk):List Int:=endL W H q d (bldM W H q b M (zerP W H) M.length)
section
attribute [local irreducible] bldB bldM putL endL
attribute [-instance] FrameNew_c placesOf_c
theorem BuildRef_ok (w h q:Int) (b d:Bool) (L:List Int) (M:List Mbk) (hl:L.length≤1099511627776∧M.length≤1099511627776∧SmM 1099511627776 M) (hok:StOk w h q L M):Fn 26 [StA w h q b d L M] [] (FrA w h (refL w h q b d M)):=by
 have hd:=decide_eq_true hok
 have hsd:=hok.1.1
 have hcm:=cntM_bd hsd
 have hM16:M.length≤16:=by have:=hok.2.1;omega
 have hz:(zerP w h).length≤1024:=by
  unfold zerP
  rw [List.length_replicate]
  have h2:w*h≤32*32:=Int.mul_le_mul hsd.2.1 hsd.2.2.2.1 (by have:=hsd.2.2.1;omega) (by omega)
  omega
 unfold refL
 refine FnC.of_body tabOk Tryz.func26 Tryz.ntmps26 rfl (by decide +kernel) (by simp) fun G=>?_
 refine goR (r:=?_);and_intros<;>intros<;>try exact True.intro
 all_goals first|contradiction|omega|exact hl.2.2|skip
 refine K.call ?_
 apply WpL.callI (FrameNew_c.ok w h hsd)
 ·exact snapA
 ·exact locA
 ·exact outA
 ·exact frzA
 ·decide
 refine goR (r:=?_);and_intros<;>intros<;>try exact True.intro
 all_goals first|contradiction|omega|skip
 have hzl:(w*h).toNat=(zerP w h).length:=by simp [zerP]
 rw [show (List.replicate (w*h).toNat (0:Int))=zerP w h from rfl,hzl]
 generalize zerP w h=P0 at*
 refine WpA.loop (fun k:Nat=>⟨[(1,.ptr 0 0 0),(2,.ptr 1 0 0),(3,.ptr 2 0 0),(20,MbL M),(21,I M.length),(22,I k)],[⟨[I w,I h,I q,B b,B d,IL L,MbL M],0,0,none⟩,⟨[I 0,I 0,.nilS],0,0,none⟩,FrO w h (bldM w h q b M P0 k)]⟩) (fun k=>k≤M.length) (fun k=>M.length-k) 0 (Nat.zero_le _) (go (r:=?_)) (fun k hk=>?_)
 ·and_intros<;>first|exact True.intro|rfl|(rw [bldM_zero];exact .keep rfl rfl .nil)
 have hbl:=bldM_len w h q b M P0 k
 by_cases hlt:k<M.length
 ·have hmb:=ok_blk hok hlt
  have hsc:=bldM_succ w h q b M P0 k
  generalize hm:M.getD k default=mm at*
  obtain ⟨e,bs⟩:=mm
  simp only at hmb hsc
  have hbl4:bs.length=manyE e:=by have:=hmb.1;cases e<;>simp [nm8] at this<;>simp [manyE]<;>omega
  have hm4:manyE e≤4:=by cases e<;>decide
  refine goR (r:=?_);and_intros<;>intros<;>try exact True.intro
  all_goals first|contradiction|omega|skip
  rw [hm]
  refine K.call ?_
  apply WpL.callI (placesOf_c.ok w h q b d L k e ⟨by omega,by omega,by omega⟩)
  ·exact snapA
  ·exact locA
  ·exact outA
  ·exact FrzR.one (.own rfl rfl rfl (by rw [rows_len (k:=3) (fun _=>rfl),plsL_len]) rfl (Snap.same rfl (still_rows (fun _=>rfl) _) (nofre_rows (fun _=>rfl) _)) .nil)
  ·decide
  refine goR (r:=?_);and_intros<;>intros<;>try exact True.intro
  all_goals first|contradiction|omega|skip
  refine WpA.loop (fun i:Nat=>⟨[(1,.ptr 0 0 0),(2,.ptr 1 0 0),(3,.ptr 2 0 0),(5,.ptr 3 0 0),(20,MbL M),(21,I M.length),(22,I k),(32,.imm 3 (manyE e) (rows plF (plsL w (sz8 e) k (manyE e)))),(33,I (manyE e)),(34,I i)],[⟨[I w,I h,I q,B b,B d,IL L,MbL M],0,0,none⟩,⟨[I 0,I 0,.nilS],0,0,none⟩,FrO w h (bldB w h q b (sz8 e) k bs (bldM w h q b M P0 k) i),⟨[B e,.imm 2 bs.length (rows blkI bs)],0,0,none⟩]⟩) (fun i=>i≤manyE e) (fun i=>manyE e-i) 0 (Nat.zero_le _) (go (r:=?_)) (fun i hi=>?_)
  ·and_intros<;>first|exact True.intro|rfl|(rw [bldB_zero];exact .keep rfl rfl .nil)
  have hil:=bldB_len w h q b (sz8 e) k bs (bldM w h q b M P0 k) i
  by_cases hlt2:i<manyE e
  ·have hpl:=plsL_len w (sz8 e) k (manyE e)
   have hpg:(plsL w (sz8 e) k (manyE e)).getD i default=plc1 w (sz8 e) k i:=by
    unfold plsL
    simp [hlt2]
   have hbo:=ok_lv hmb (k:=i) (by omega)
   have hbn:=hbo.2.2.1
   have hsu:=bldB_succ w h q b (sz8 e) k bs (bldM w h q b M P0 k) i
   have hlv:(bs.getD i default).2.length≤64:=by cases e<;>simp [sz8] at hbn<;>omega
   generalize hPk:bldM w h q b M P0 k=Pk at*
   generalize hPi:bldB w h q b (sz8 e) k bs Pk i=Pi at*
   have hpu:=putL_len w h Pi q b (plc1 w (sz8 e) k i).1 (plc1 w (sz8 e) k i).2.1 (bs.getD i default).1 (bs.getD i default).2
   refine goR (r:=?_);and_intros<;>intros<;>try exact True.intro
   all_goals first|contradiction|omega|skip
   rw [hpg]
   try dsimp only [List.append,List.cons_append,List.nil_append]
   apply WpA.regionGB 17 mixed (by decide +kernel)
   ·exact rfl
   ·first|(apply HeadG.preF 0 rfl rfl rfl;exact rfl;exact in0;exact rfl)|(apply HeadG.hole0 rfl rfl rfl;exact rfl;exact in0;exact rfl)|(apply HeadG.hole2 rfl rfl rfl;exact rfl;exact in0;exact rfl)|(apply HeadG.hole3 rfl rfl rfl;exact rfl;exact in0;exact rfl)|(apply HeadG.hole4 rfl rfl rfl;exact rfl;exact in0;exact rfl)|(apply HeadG.stepNF rfl;exact rfl;exact in1;exact rfl)
    first|(apply HeadG.preF 0 rfl rfl rfl;exact rfl;exact in0;exact rfl)|(apply HeadG.hole0 rfl rfl rfl;exact rfl;exact in0;exact rfl)|(apply HeadG.hole2 rfl rfl rfl;exact rfl;exact in0;exact rfl)|(apply HeadG.hole3 rfl rfl rfl;exact rfl;exact in0;exact rfl)|(apply HeadG.hole4 rfl rfl rfl;exact rfl;exact in0;exact rfl)|(apply HeadG.stepNF rfl;exact rfl;exact in1;exact rfl)
    first|(apply HeadG.preF 0 rfl rfl rfl;exact rfl;exact in0;exact rfl)|(apply HeadG.hole0 rfl rfl rfl;exact rfl;exact in0;exact rfl)|(apply HeadG.hole2 rfl rfl rfl;exact rfl;exact in0;exact rfl)|(apply HeadG.hole3 rfl rfl rfl;exact rfl;exact in0;exact rfl)|(apply HeadG.hole4 rfl rfl rfl;exact rfl;exact in0;exact rfl)|(apply HeadG.stepNF rfl;exact rfl;exact in1;exact rfl)
    first|(apply HeadG.preF 0 rfl rfl rfl;exact rfl;exact in0;exact rfl)|(apply HeadG.hole0 rfl rfl rfl;exact rfl;exact in0;exact rfl)|(apply HeadG.hole2 rfl rfl rfl;exact rfl;exact in0;exact rfl)|(apply HeadG.hole3 rfl rfl rfl;exact rfl;exact in0;exact rfl)|(apply HeadG.hole4 rfl rfl rfl;exact rfl;exact in0;exact rfl)|(apply HeadG.stepNF rfl;exact rfl;exact in1;exact rfl)
    first|(apply HeadG.preF 0 rfl rfl rfl;exact rfl;exact in0;exact rfl)|(apply HeadG.hole0 rfl rfl rfl;exact rfl;exact in0;exact rfl)|(apply HeadG.hole2 rfl rfl rfl;exact rfl;exact in0;exact rfl)|(apply HeadG.hole3 rfl rfl rfl;exact rfl;exact in0;exact rfl)|(apply HeadG.hole4 rfl rfl rfl;exact rfl;exact in0;exact rfl)|(apply HeadG.stepNF rfl;exact rfl;exact in1;exact rfl)
    first|(apply HeadG.preF 0 rfl rfl rfl;exact rfl;exact in0;exact rfl)|(apply HeadG.hole0 rfl rfl rfl;exact rfl;exact in0;exact rfl)|(apply HeadG.hole2 rfl rfl rfl;exact rfl;exact in0;exact rfl)|(apply HeadG.hole3 rfl rfl rfl;exact rfl;exact in0;exact rfl)|(apply HeadG.hole4 rfl rfl rfl;exact rfl;exact in0;exact rfl)|(apply HeadG.stepNF rfl;exact rfl;exact in1;exact rfl)
    first|(apply HeadG.preF 0 rfl rfl rfl;exact rfl;exact in0;exact rfl)|(apply HeadG.hole0 rfl rfl rfl;exact rfl;exact in0;exact rfl)|(apply HeadG.hole2 rfl rfl rfl;exact rfl;exact in0;exact rfl)|(apply HeadG.hole3 rfl rfl rfl;exact rfl;exact in0;exact rfl)|(apply HeadG.hole4 rfl rfl rfl;exact rfl;exact in0;exact rfl)|(apply HeadG.stepNF rfl;exact rfl;exact in1;exact rfl)
    first|(apply HeadG.preF 0 rfl rfl rfl;exact rfl;exact in0;exact rfl)|(apply HeadG.hole0 rfl rfl rfl;exact rfl;exact in0;exact rfl)|(apply HeadG.hole2 rfl rfl rfl;exact rfl;exact in0;exact rfl)|(apply HeadG.hole3 rfl rfl rfl;exact rfl;exact in0;exact rfl)|(apply HeadG.hole4 rfl rfl rfl;exact rfl;exact in0;exact rfl)|(apply HeadG.stepNF rfl;exact rfl;exact in1;exact rfl)
    first|(apply HeadG.preF 0 rfl rfl rfl;exact rfl;exact in0;exact rfl)|(apply HeadG.hole0 rfl rfl rfl;exact rfl;exact in0;exact rfl)|(apply HeadG.hole2 rfl rfl rfl;exact rfl;exact in0;exact rfl)|(apply HeadG.hole3 rfl rfl rfl;exact rfl;exact in0;exact rfl)|(apply HeadG.hole4 rfl rfl rfl;exact rfl;exact in0;exact rfl)|(apply HeadG.stepNF rfl;exact rfl;exact in1;exact rfl)
    first|(apply HeadG.preF 0 rfl rfl rfl;exact rfl;exact in0;exact rfl)|(apply HeadG.hole0 rfl rfl rfl;exact rfl;exact in0;exact rfl)|(apply HeadG.hole2 rfl rfl rfl;exact rfl;exact in0;exact rfl)|(apply HeadG.hole3 rfl rfl rfl;exact rfl;exact in0;exact rfl)|(apply HeadG.hole4 rfl rfl rfl;exact rfl;exact in0;exact rfl)|(apply HeadG.stepNF rfl;exact rfl;exact in1;exact rfl)
    first|(apply HeadG.preF 0 rfl rfl rfl;exact rfl;exact in0;exact rfl)|(apply HeadG.hole0 rfl rfl rfl;exact rfl;exact in0;exact rfl)|(apply HeadG.hole2 rfl rfl rfl;exact rfl;exact in0;exact rfl)|(apply HeadG.hole3 rfl rfl rfl;exact rfl;exact in0;exact rfl)|(apply HeadG.hole4 rfl rfl rfl;exact rfl;exact in0;exact rfl)|(apply HeadG.stepNF rfl;exact rfl;exact in1;exact rfl)
    first|(apply HeadG.preF 0 rfl rfl rfl;exact rfl;exact in0;exact rfl)|(apply HeadG.hole0 rfl rfl rfl;exact rfl;exact in0;exact rfl)|(apply HeadG.hole2 rfl rfl rfl;exact rfl;exact in0;exact rfl)|(apply HeadG.hole3 rfl rfl rfl;exact rfl;exact in0;exact rfl)|(apply HeadG.hole4 rfl rfl rfl;exact rfl;exact in0;exact rfl)|(apply HeadG.stepNF rfl;exact rfl;exact in1;exact rfl)
    apply HeadG.precF 0 rfl rfl
    ·exact rfl
    ·intro Tv Ov
     refine K.call ?_
     apply WpL.callI (PutRef_c.ok w h Pi w h q b d L (plc1 w (sz8 e) k i).1 (plc1 w (sz8 e) k i).2.1 (bs.getD i default).1 (bs.getD i default).2 ⟨by omega,by omega⟩)
     ·exact snapA
     ·exact locA
     ·exact outA
     ·exact FrzR.tup (.agg (.keep rfl rfl (.keep rfl rfl (.own rfl rfl rfl (by show Pi.length*1=(List.map _ _).length;rw [Nat.mul_one,List.length_map];exact hpu.symm) hpu.symm (Snap.same rfl (still_ints _) (nofre_ints _)) .nil))) (.keep rfl rfl .nil))
     ·decide
     ·exact WpL.nil (Only.mk rfl)
    ·exact rfl
    first|(apply HeadG.preF 0 rfl rfl rfl;exact rfl;exact in0;exact rfl)|(apply HeadG.hole0 rfl rfl rfl;exact rfl;exact in0;exact rfl)|(apply HeadG.hole2 rfl rfl rfl;exact rfl;exact in0;exact rfl)|(apply HeadG.hole3 rfl rfl rfl;exact rfl;exact in0;exact rfl)|(apply HeadG.hole4 rfl rfl rfl;exact rfl;exact in0;exact rfl)|(apply HeadG.stepNF rfl;exact rfl;exact in1;exact rfl)
    first|(apply HeadG.preF 0 rfl rfl rfl;exact rfl;exact in0;exact rfl)|(apply HeadG.hole0 rfl rfl rfl;exact rfl;exact in0;exact rfl)|(apply HeadG.hole2 rfl rfl rfl;exact rfl;exact in0;exact rfl)|(apply HeadG.hole3 rfl rfl rfl;exact rfl;exact in0;exact rfl)|(apply HeadG.hole4 rfl rfl rfl;exact rfl;exact in0;exact rfl)|(apply HeadG.stepNF rfl;exact rfl;exact in1;exact rfl)
    first|(apply HeadG.preF 0 rfl rfl rfl;exact rfl;exact in0;exact rfl)|(apply HeadG.hole0 rfl rfl rfl;exact rfl;exact in0;exact rfl)|(apply HeadG.hole2 rfl rfl rfl;exact rfl;exact in0;exact rfl)|(apply HeadG.hole3 rfl rfl rfl;exact rfl;exact in0;exact rfl)|(apply HeadG.hole4 rfl rfl rfl;exact rfl;exact in0;exact rfl)|(apply HeadG.stepNF rfl;exact rfl;exact in1;exact rfl)
    first|(apply HeadG.preF 0 rfl rfl rfl;exact rfl;exact in0;exact rfl)|(apply HeadG.hole0 rfl rfl rfl;exact rfl;exact in0;exact rfl)|(apply HeadG.hole2 rfl rfl rfl;exact rfl;exact in0;exact rfl)|(apply HeadG.hole3 rfl rfl rfl;exact rfl;exact in0;exact rfl)|(apply HeadG.hole4 rfl rfl rfl;exact rfl;exact in0;exact rfl)|(apply HeadG.stepNF rfl;exact rfl;exact in1;exact rfl)
    exact Abs.HeadG.nil
   ·exact trueA
   ·exact trueA
   ·exact trueA
   ·exact demA
   ·exact rfl
   ·exact rfl
   refine goR (r:=?_);and_intros<;>intros<;>try exact True.intro
   all_goals first|contradiction|omega|(rw [hsu];exact .keep rfl rfl .nil)
  ·obtain rfl:i=manyE e:=by omega
   refine goR (r:=?_);and_intros<;>intros<;>try exact True.intro
   all_goals first|contradiction|omega|(rw [hsc];exact .keep rfl rfl .nil)
 ·obtain rfl:k=M.length:=by omega
  refine goR (r:=?_);and_intros<;>intros<;>try exact True.intro
  all_goals first|contradiction|omega|skip
  refine K.call ?_
  apply WpL.callK (ended_c w h w h q b d L (bldM w h q b M P0 M.length) (by omega))
  ·exact .agg (.keep rfl rfl (.keep rfl rfl (.keep rfl rfl (.keep rfl rfl (.keep rfl rfl (.keep rfl rfl .nil)))))) (.agg (.keep rfl rfl (.keep rfl rfl (.keep rfl rfl .nil))) .nil)
  ·decide
  refine goR (r:=?_);and_intros<;>intros<;>try exact True.intro
  all_goals first|contradiction|omega
end
end Go.Proofs.YtndflfipaddfoaaGreat


namespace Go.Proofs.YtndflfipaddfoaaGreat
open Go Go.Abs
attribute [local irreducible] WpA WpL Rnd Blk Abs.Seq Abs.Fin Abs.FinG FnC FnG Only
theorem bw_small {l:List Blok} (h:∀b∈l,b.2.length≤64):bw l≤65*l.length:=by
 induction l with
 |nil=>simp [bw_nil]
 |cons b l ih=>
  have h1:=h b (by simp)
  have h2:=ih fun x hx=>h x (by simp [hx])
  rw [bw_cons,List.length_cons];omega
theorem mw_small {l:List Mbk} (h:∀m∈l,m.2.length≤4∧∀b∈m.2,b.2.length≤64):mw l≤261*l.length:=by
 induction l with
 |nil=>simp [mw_nil]
 |cons m l ih=>
  have h1:=h m (by simp)
  have h2:=ih fun x hx=>h x (by simp [hx])
  have h3:=bw_small h1.2
  rw [mw_cons,List.length_cons];omega
theorem prS_sz (p:List UInt8):(prS p).L.length≤6∧(prS p).ms.length≤16∧mw (prS p).ms≤4176∧SmM 1099511627776 (prS p).ms:=by
 have h:(prS p).L.length≤6∧(prS p).ms.length≤16∧mw (prS p).ms≤4176:=by
  by_cases h1:(hdS p 0).c=0
  ·by_cases h2:(stRun p (hdS p 0).a (hdS p 0).L (cntM (hdS p 0).W (hdS p 0).H).toNat).c=0
   ·by_cases h3:endC p (stRun p (hdS p 0).a (hdS p 0).L (cntM (hdS p 0).W (hdS p 0).H).toNat).a=0
    ·rw [prS_4 h1 h2 h3]
     have hb:=cntM_bd (hdS_sides h1)
     have hs:=stRun_sm (p:=p) (s:=(hdS p 0).a) (lens:=(hdS p 0).L) (cntM (hdS p 0).W (hdS p 0).H).toNat
     have hm:=mw_small hs.2
     have hL:=hdSL_len (hdS p 0)
     refine ⟨hL,?_,?_⟩
     ·show (stRun _ _ _ _).ms.length≤16
      omega
     ·show mw (stRun _ _ _ _).ms≤4176
      omega
    ·rw [prS_3 h1 h2 h3];exact ⟨Nat.zero_le _,Nat.zero_le _,Nat.zero_le _⟩
   ·rw [prS_2 h1 h2];exact ⟨Nat.zero_le _,Nat.zero_le _,Nat.zero_le _⟩
  ·rw [prS_1 h1];exact ⟨Nat.zero_le _,Nat.zero_le _,Nat.zero_le _⟩
 exact ⟨h.1,h.2.1,h.2.2,smM_of (by omega)⟩
section
attribute [local irreducible] prS
end
end Go.Proofs.YtndflfipaddfoaaGreat


namespace Go.Proofs.YtndflfipaddfoaaGreat
open Go Go.Abs
attribute [local irreducible] WpA WpL Rnd Blk Abs.Seq Abs.Fin Abs.FinG FnC FnG Only
attribute [local irreducible] prS refL
theorem BuildRef_nil (w h q:Int) (b d:Bool) (L:List Int) (M:List Mbk) (hl:L.length≤1099511627776∧M.length≤1099511627776∧SmM 1099511627776 M) (hok:¬StOk w h q L M):Fn 26 [StA w h q b d L M] [] (.agg [I 0,I 0,.nilS]):=by
 have hd:=decide_eq_false hok
 refine FnC.of_body tabOk Tryz.func26 Tryz.ntmps26 rfl (by decide +kernel) (by simp) fun G=>?_
 refine goR (r:=?_);and_intros<;>intros<;>try exact True.intro
 all_goals first|contradiction|omega|exact hl.2.2
structure Frm where
 W:Int
 H:Int
 P:List Int
def bldF (w h q:Int) (b d:Bool) (L:List Int) (M:List Mbk):Frm:=if StOk w h q L M then ⟨w,h,refL w h q b d M⟩ else ⟨0,0,[]⟩
abbrev FrF (f:Frm):AV:=FrA f.W f.H f.P
theorem BuildRef_c (w h q:Int) (b d:Bool) (L:List Int) (M:List Mbk) (hl:L.length≤1099511627776∧M.length≤1099511627776∧SmM 1099511627776 M):Fn 26 [StA w h q b d L M] [] (FrF (bldF w h q b d L M)):=by
 unfold bldF
 by_cases hok:StOk w h q L M
 ·rw [if_pos hok];exact BuildRef_ok w h q b d L M hl hok
 ·rw [if_neg hok]
  exact FnC.still (BuildRef_nil w h q b d L M hl hok) (.agg (.keep rfl rfl (.keep rfl rfl (.nilI .nil))) .nil)
def decF (p:List UInt8):Frm:=if (prS p).c=0 then bldF (prS p).W (prS p).H (prS p).Q (prS p).B (prS p).D (prS p).L (prS p).ms else ⟨0,0,[]⟩
section
attribute [-instance] Parse_c
attribute [local irreducible] bldF
theorem RefDecode_0 (p:List UInt8) (hl:p.length≤1048576) (h0:(prS p).c=0):Fn 29 [Z p] [] (.tup [FrF (bldF (prS p).W (prS p).H (prS p).Q (prS p).B (prS p).D (prS p).L (prS p).ms),I 0]):=by
 have hz:=prS_sz p
 have hlen:(prS p).ms.length*2=(rows Abs.mbF (prS p).ms).length:=(rows_len (f:=Abs.mbF) (k:=2) (fun _=>rfl) (prS p).ms).symm
 refine FnC.of_body tabOk Tryz.func29 Tryz.ntmps29 rfl (by decide +kernel) (by simp) fun G=>?_
 refine goR (r:=?_);and_intros<;>intros<;>try exact True.intro
 refine K.call ?_
 apply WpL.callI (Parse_c.ok p (by omega))
 ·exact snapA
 ·exact locA
 ·exact outA
 ·exact FrzR.tup (.agg (.keep rfl rfl (.keep rfl rfl (.keep rfl rfl (.keep rfl rfl (.keep rfl rfl (.own rfl rfl rfl (by simp) rfl (Snap.same rfl (still_ints _) (nofre_ints _)) (.own rfl rfl rfl hlen rfl (Snap.rows snap_mb _) .nil))))))) (.keep rfl rfl (.keep rfl rfl .nil)))
 ·decide
 refine goR (r:=?_);and_intros<;>intros<;>try exact True.intro
 all_goals first|contradiction|omega|skip
 refine K.call ?_
 apply WpL.callK (BuildRef_c (prS p).W (prS p).H (prS p).Q (prS p).B (prS p).D (prS p).L (prS p).ms ⟨by omega,by omega,hz.2.2.2⟩)
 ·exact .agg (.keep rfl rfl (.keep rfl rfl (.keep rfl rfl (.keep rfl rfl (.keep rfl rfl (.keep rfl rfl (.keep rfl rfl .nil))))))) .nil
 ·decide
 refine goR (r:=?_);and_intros<;>intros<;>try exact True.intro
 all_goals first|contradiction|omega
theorem RefDecode_1 (p:List UInt8) (hl:p.length≤1048576) (h0:(prS p).c≠0):Fn 29 [Z p] [] (.tup [.agg [I 0,I 0,.nilS],I (prS p).c]):=by
 have hz:=prS_sz p
 have hlen:(prS p).ms.length*2=(rows Abs.mbF (prS p).ms).length:=(rows_len (f:=Abs.mbF) (k:=2) (fun _=>rfl) (prS p).ms).symm
 refine FnC.of_body tabOk Tryz.func29 Tryz.ntmps29 rfl (by decide +kernel) (by simp) fun G=>?_
 refine goR (r:=?_);and_intros<;>intros<;>try exact True.intro
 refine K.call ?_
 apply WpL.callI (Parse_c.ok p (by omega))
 ·exact snapA
 ·exact locA
 ·exact outA
 ·exact FrzR.tup (.agg (.keep rfl rfl (.keep rfl rfl (.keep rfl rfl (.keep rfl rfl (.keep rfl rfl (.own rfl rfl rfl (by simp) rfl (Snap.same rfl (still_ints _) (nofre_ints _)) (.own rfl rfl rfl hlen rfl (Snap.rows snap_mb _) .nil))))))) (.keep rfl rfl (.keep rfl rfl .nil)))
 ·decide
 refine goR (r:=?_);and_intros<;>intros<;>try exact True.intro
 all_goals first|contradiction|omega
end
theorem RefDecode_c (p:List UInt8) (hl:p.length≤1048576):Fn 29 [Z p] [] (.tup [FrF (decF p),I (prS p).c]):=by
 unfold decF
 by_cases h0:(prS p).c=0
 ·rw [if_pos h0,h0];exact RefDecode_0 p hl h0
 ·rw [if_neg h0]
  exact FnC.stillT (RefDecode_1 p hl h0) (.agg (.keep rfl rfl (.keep rfl rfl (.nilI .nil))) (.keep rfl rfl .nil))
theorem FastDecode_c (p:List UInt8) (hl:p.length≤1048576):Fn 12 [Z p] [] (.tup [FrF (decF p),I (prS p).c]):=by
 have hc:=RefDecode_c p hl
 generalize decF p=F at*
 refine FnC.of_body tabOk Tryz.func12 Tryz.ntmps12 rfl (by decide +kernel) (by simp) fun G=>?_
 refine goR (r:=?_);and_intros<;>intros<;>try exact True.intro
 refine K.call ?_
 apply WpL.callK hc
 ·exact .keep rfl rfl .nil
 ·decide
 refine goR (r:=?_);and_intros<;>intros<;>try exact True.intro
 all_goals first|contradiction|omega
end Go.Proofs.YtndflfipaddfoaaGreat


namespace Go.Proofs.YtndflfipaddfoaaGreat
open Go Go.Abs
abbrev Cd (c:Int):Prop:=0≤c∧c≤6
theorem ifE_cd {b:Prop} [Decidable b] {e:Int} (h:Cd e):Cd (ifE b e):=by
 by_cases hb:b
 ·rw [ifE_yes hb];decide
 ·rw [ifE_no hb];exact h
theorem fbC_cd {p:List UInt8} {s c n:Int} {k:Int→Int} (hc:Cd c) (hk:∀x,Cd (k x)):Cd (fbC p s c n k):=by
 unfold fbC;split
 ·split
  ·exact hk _
  ·decide
 ·exact hc
theorem ueC_cd (p:List UInt8) (s:Int):Cd (ueC p s):=by
 unfold ueC;split
 ·split<;>decide
 ·decide
theorem fuC_cd {p:List UInt8} {s c:Int} {k:Int→Int} (hc:Cd c) (hk:∀x,Cd (k x)):Cd (fuC p s c k):=by
 unfold fuC;split
 ·split
  ·exact hk _
  ·exact ueC_cd _ _
 ·exact hc
theorem smC_cd (p:List UInt8) (s:Int) (l:List Int):Cd (smC p s l):=by
 unfold smC;split
 ·split<;>decide
 ·decide
theorem lvStep_cd {p:List UInt8} {nn:Int} {x:LvS} (h:Cd x.c):Cd (lvStep p nn x).c:=by
 unfold lvStep;split
 ·simp only
  split<;>exact fuC_cd (fuC_cd (by decide) fun _=>ifE_cd (by decide)) fun _=>ifE_cd (by decide)
 ·exact h
theorem lvRun_cd {p:List UInt8} {nn:Int} {x:LvS} (h:Cd x.c):∀k,Cd (lvRun p nn x k).c
 |0=>h
 |k+1=>by rw [lvRun];exact lvStep_cd (lvRun_cd h k)
theorem lvS_cd (p:List UInt8) (s n:Int):Cd (lvS p s n).c:=by
 unfold lvS;simp only;split
 ·exact fbC_cd (c:=0) (by decide) (k:=fun _=>0) fun _=>(by decide:Cd 0)
 ·exact lvRun_cd (x:=⟨_,_,_,_⟩) (fuC_cd (fbC_cd (c:=0) (by decide) (k:=fun _=>0) fun _=>(by decide:Cd 0)) fun _=>ifE_cd (by decide)) _
theorem blS_cd (p:List UInt8) (s:Int) (lens:List Int) (n:Int):Cd (blS p s lens n).c:=by
 unfold blS;split
 ·split
  ·simp only;split
   ·exact (by decide:Cd 0)
   ·exact lvS_cd _ _ _
  ·exact smC_cd _ _ _
 ·exact (by decide:Cd 5)
theorem mbRun_cd (p:List UInt8) (s:Int) (lens:List Int) (n:Int):∀k,Cd (mbRun p s lens n k).c
 |0=>(by decide:Cd 0)
 |k+1=>by
  have ih:=mbRun_cd p s lens n k
  rw [mbRun];simp only;split
  ·split
   ·exact (by decide:Cd 0)
   ·exact blS_cd _ _ _ _
  ·exact ih
theorem mbS_cd (p:List UInt8) (s:Int) (lens:List Int):Cd (mbS p s lens).1.c:=by
 unfold mbS;split
 ·exact mbRun_cd _ _ _ _ _
 ·exact (by decide:Cd 1)
theorem stRun_cd (p:List UInt8) (s:Int) (lens:List Int):∀k,Cd (stRun p s lens k).c
 |0=>(by decide:Cd 0)
 |k+1=>by
  have ih:=stRun_cd p s lens k
  rw [stRun];simp only;split
  ·split
   ·exact (by decide:Cd 0)
   ·exact mbS_cd _ _ _
  ·exact ih
theorem hdS_cd (p:List UInt8) (s:Int):Cd (hdS p s).c:=by
 unfold hdS;simp only
 exact fbC_cd (fbC_cd (fbC_cd (fuC_cd (fuC_cd (fbC_cd (by decide) fun _=>ifE_cd (by decide)) fun _=>ifE_cd (by decide)) fun _=>ifE_cd (by decide)) fun _=>ifE_cd (by decide)) fun _=>(by decide:Cd 0)) fun _=>ifE_cd (by decide)
theorem endC_cd (p:List UInt8) (s:Int):Cd (endC p s):=by
 unfold endC;split
 ·decide
 ·split<;>decide
theorem prS_cd (p:List UInt8):Cd (prS p).c∧RdOk p (prS p).a∧((prS p).c≠0→(prS p).ms=[]):=by
 have hr0:RdOk p 0:=⟨by omega,by omega⟩
 have hok:=hdS_ok hr0
 by_cases h1:(hdS p 0).c=0
 ·have hk:=stRun_ok (lens:=(hdS p 0).L) hok (cntM (hdS p 0).W (hdS p 0).H).toNat
  by_cases h2:(stRun p (hdS p 0).a (hdS p 0).L (cntM (hdS p 0).W (hdS p 0).H).toNat).c=0
  ·by_cases h3:endC p (stRun p (hdS p 0).a (hdS p 0).L (cntM (hdS p 0).W (hdS p 0).H).toNat).a=0
   ·rw [prS_4 h1 h2 h3]
    exact ⟨(by decide:Cd 0),hk,fun h=>absurd rfl h⟩
   ·rw [prS_3 h1 h2 h3]
    exact ⟨endC_cd _ _,hk,fun _=>rfl⟩
  ·rw [prS_2 h1 h2]
   exact ⟨stRun_cd _ _ _ _,hk,fun _=>rfl⟩
 ·rw [prS_1 h1]
  exact ⟨hdS_cd _ _,hok,fun _=>rfl⟩
theorem decF_1 {p:List UInt8} (h:(prS p).c≠0):decF p=⟨0,0,[]⟩:=by unfold decF;rw [if_neg h]
end Go.Proofs.YtndflfipaddfoaaGreat


namespace Go.Proofs.YtndflfipaddfoaaGreat
open Go Go.Abs
attribute [local irreducible] WpA WpL Rnd Blk Abs.Seq Abs.Fin Abs.FinG FnC FnG FnX FinX Only
abbrev CurO (v:Value) (c:Int×Int):AObj:=⟨[.sc v,I c.1,I c.2],0,0,none⟩
abbrev CurOk (l:List Int) (c:Int×Int):Prop:=0≤c.1∧c.1≤l.length
abbrev CodA (l:List Int):AV:=.imm 1 l.length (u8s l)
theorem and255 (y:Int):0≤IntKind.i64.wrap ((BitVec.ofInt IntKind.i64.bits y &&& BitVec.ofInt IntKind.i64.bits 255).toNat:Nat)∧IntKind.i64.wrap ((BitVec.ofInt IntKind.i64.bits y &&& BitVec.ofInt IntKind.i64.bits 255).toNat:Nat)≤255:=by
 have h:(BitVec.ofInt IntKind.i64.bits y &&& BitVec.ofInt IntKind.i64.bits 255).toNat≤255:=by
  rw [BitVec.toNat_and]
  exact Nat.le_trans Nat.and_le_right (by decide)
 rw [IntWalk.i64_in _ (by omega)]
 omega
section
attribute [local irreducible] IntKind.wrap
end
end Go.Proofs.YtndflfipaddfoaaGreat


namespace Go.Proofs.YtndflfipaddfoaaGreat
open Go Go.Abs
attribute [local irreducible] WpA WpL Rnd Blk Abs.Seq Abs.Fin Abs.FinG FnC FnG FnX FnP FinX Only
abbrev Cr:=Int×Int
abbrev Pn (f:Nat) (v:Value) (l:List Int) (c:Cr) (args:List AV) (c':Cr) (N:List AObj) (r:AV):Prop:=FnP Tryz.prog f (.ptr 0 0 0::args) [CurO v c] [v] [CodA l] [CurO v c'] N r
abbrev CrOk (l:List Int) (c:Cr):Prop:=l.length≤1048576∧CurOk l c
def hD (h:Int):Int:=IntKind.i64.wrap (IntKind.i64.wrap (h*6364136223846793005)+1442695040888963407)
def mixD (y:Int):Int:=IntKind.i64.wrap ((BitVec.ofInt IntKind.i64.bits (IntKind.i64.wrap ((BitVec.ofInt IntKind.i64.bits (y/2 ^ Int.toNat 33) ^^^ BitVec.ofInt IntKind.i64.bits (y/2 ^ Int.toNat 45)).toNat:Nat)) &&& BitVec.ofInt IntKind.i64.bits 255).toNat:Nat)
def byD (l:List Int) (c:Cr):Cr×Int:=
 if c.1<l.length then ((c.1+1,hD c.2),IntKind.i64.wrap ((BitVec.ofInt IntKind.i64.bits (IntKind.i64.wrap (mixD (hD c.2)+IntKind.i64.wrap (l.getD c.1.toNat 0))) &&& BitVec.ofInt IntKind.i64.bits 255).toNat:Nat))
 else ((c.1,hD c.2),mixD (hD c.2))
theorem byD_ok {l:List Int} {c:Cr} (h:CrOk l c):CrOk l (byD l c).1∧0≤(byD l c).2∧(byD l c).2≤255:=by
 have h1:=h.2.1
 have h2:=h.2.2
 unfold byD;split
 ·exact ⟨⟨h.1,by show 0≤c.1+1;omega,by show c.1+1≤_;omega⟩,and255 _⟩
 ·exact ⟨⟨h.1,h1,h2⟩,and255 _⟩
section
attribute [local irreducible] IntKind.wrap
instance l1Byte_p:ConP 186 (∀ (v:Value) (l:List Int) (c:Cr),CrOk l c→Pn 186 v l c [] (byD l c).1 [] (I (byD l c).2)):=⟨fun v l c h=>by
 have hl:=h.1
 have hc1:=h.2.1
 have hc2:=h.2.2
 by_cases hlt:c.1<l.length
 ·rw [byD,if_pos hlt]
  refine FnP.of_body tabOk Tryz.func186 Tryz.ntmps186 rfl (by decide +kernel) (by simp) rfl rfl rfl fun G hp=>?_
  refine go (r:=?_);and_intros<;>intros<;>try exact True.intro
  refine WpL.pin (d:=32) hp rfl ?_
  refine go (r:=?_);and_intros<;>intros<;>try exact True.intro
  all_goals first|contradiction|omega|skip
  refine WpL.pin (d:=39) hp rfl ?_
  refine go (r:=?_);and_intros<;>intros<;>try exact True.intro
 ·rw [byD,if_neg hlt]
  refine FnP.of_body tabOk Tryz.func186 Tryz.ntmps186 rfl (by decide +kernel) (by simp) rfl rfl rfl fun G hp=>?_
  refine go (r:=?_);and_intros<;>intros<;>try exact True.intro
  refine WpL.pin (d:=32) hp rfl ?_
  refine go (r:=?_);and_intros<;>intros<;>try exact True.intro
  all_goals first|contradiction|omega|skip⟩
end
def belowD (l:List Int) (c:Cr) (n:Int):Cr×Int:=
 if n≤0 then (c,0) else if n≤256 then ((byD l c).1,(byD l c).2%n) else
  ((byD l (byD l (byD l (byD l c).1).1).1).1,((byD l c).2*16777216+(byD l (byD l c).1).2*65536+(byD l (byD l (byD l c).1).1).2*256+(byD l (byD l (byD l (byD l c).1).1).1).2)%n)
theorem belowD_ok {l:List Int} {c:Cr} (n:Int) (h:CrOk l c):CrOk l (belowD l c n).1∧0≤(belowD l c n).2∧(0<n→(belowD l c n).2<n)∧(n≤0→(belowD l c n).2=0):=by
 have h1:=byD_ok h
 have h2:=byD_ok h1.1
 have h3:=byD_ok h2.1
 have h4:=byD_ok h3.1
 unfold belowD
 split
 ·exact ⟨h,Int.le_refl 0,fun h=>by omega,fun _=>rfl⟩
 ·split
  ·exact ⟨h1.1,Int.emod_nonneg _ (by omega),fun h=>Int.emod_lt_of_pos _ h,fun h=>by omega⟩
  ·exact ⟨h4.1,Int.emod_nonneg _ (by omega),fun h=>Int.emod_lt_of_pos _ h,fun h=>by omega⟩
instance l1Below_p:ConP 93 (∀ (v:Value) (l:List Int) (c:Cr) (n:Int),CrOk l c→Pn 93 v l c [I n] (belowD l c n).1 [] (I (belowD l c n).2)):=⟨fun v l c n h=>by
 have h1:=byD_ok h
 have h2:=byD_ok h1.1
 have h3:=byD_ok h2.1
 have h4:=byD_ok h3.1
 unfold belowD
 by_cases h0:n≤0
 ·rw [if_pos h0]
  refine FnP.of_body tabOk Tryz.func93 Tryz.ntmps93 rfl (by decide +kernel) (by simp) rfl rfl rfl fun G hp=>?_
  refine go (r:=?_);and_intros<;>intros<;>try exact True.intro
  all_goals trace_state
 ·rw [if_neg h0]
  by_cases h256:n≤256
  ·rw [if_pos h256]
   refine FnP.of_body tabOk Tryz.func93 Tryz.ntmps93 rfl (by decide +kernel) (by simp) rfl rfl rfl fun G hp=>?_
   refine go (r:=?_);and_intros<;>intros<;>try exact True.intro
   all_goals trace_state
  ·rw [if_neg h256]
   refine FnP.of_body tabOk Tryz.func93 Tryz.ntmps93 rfl (by decide +kernel) (by simp) rfl rfl rfl fun G hp=>?_
   refine go (r:=?_);and_intros<;>intros<;>try exact True.intro
   all_goals trace_state⟩
end Go.Proofs.YtndflfipaddfoaaGreat


namespace Go.Proofs.YtndflfipaddfoaaGreat
open Go Go.Abs
attribute [local irreducible] WpA WpL Rnd Blk Abs.Seq Abs.Fin Abs.FinG FnC FnG FnX FnP FinX Only
def onceD (l:List Int) (c:Cr) (n:Int):Cr×Bool:=((belowD l c n).1,decide ((belowD l c n).2=0))
theorem onceD_ok {l:List Int} {c:Cr} (n:Int) (h:CrOk l c):CrOk l (onceD l c n).1:=(belowD_ok n h).1
def pickD (l:List Int) (c:Cr) (xs:List Int):Cr×Int:=((belowD l c xs.length).1,xs.getD (belowD l c xs.length).2.toNat 0)
theorem pickD_ok {l:List Int} {c:Cr} {xs:List Int} (h:CrOk l c) (hx:0<xs.length):CrOk l (pickD l c xs).1∧(pickD l c xs).2∈xs:=by
 have hb:=belowD_ok (xs.length:Int) h
 refine ⟨hb.1,?_⟩
 have h1:=hb.2.2.1 (by omega)
 have h2:=hb.2.1
 have:(belowD l c xs.length).2.toNat<xs.length:=by omega
 simp [pickD,this]
attribute [local irreducible] belowD
instance l1Once_p:ConP 110 (∀ (v:Value) (l:List Int) (c:Cr) (n:Int),CrOk l c→Pn 110 v l c [I n] (onceD l c n).1 [] (B (onceD l c n).2)):=⟨fun v l c n h=>by
 unfold onceD
 refine FnP.of_body tabOk Tryz.func110 Tryz.ntmps110 rfl (by decide +kernel) (by simp) rfl rfl rfl fun G hp=>?_
 refine go (r:=?_);and_intros<;>intros<;>try exact True.intro⟩
instance l1PickInt_p:ConP 127 (∀ (v:Value) (l:List Int) (c:Cr) (xs:List Int),CrOk l c∧0<xs.length∧xs.length≤1048576→Pn 127 v l c [IL xs] (pickD l c xs).1 [] (I (pickD l c xs).2)):=⟨fun v l c xs h=>by
 have hc:=h.1
 have hb:=belowD_ok (xs.length:Int) hc
 have h1:=hb.2.1
 have h2:=hb.2.2.1 (by omega)
 unfold pickD
 refine FnP.of_body tabOk Tryz.func127 Tryz.ntmps127 rfl (by decide +kernel) (by simp) rfl rfl rfl fun G hp=>?_
 refine go (r:=?_);and_intros<;>intros<;>try exact True.intro
 all_goals trace_state⟩
attribute [local irreducible] onceD pickD
abbrev mode14:List Int:=[0,1,2,3,4,5,0,1,2,3,4,5,-1,6]
def modeD (l:List Int) (c:Cr):Cr×Int:=pickD l c mode14
def lens7:List (List Int):=[[1,2,3,4,5,5],[3,3,3,3,2,2],[2,2,2,3,4,4],[1,1,0,0,0,0],[0,2,2,2,2,0],[5,5,4,3,2,1],[4,4,4,4,2,1]]
def l8D (l:List Int) (c:Cr):Cr×List Int:=
 let y:=belowD l c 7
 let b:=lens7.getD y.2.toNat []
 let o:=onceD l y.1 2
 if o.2=true then
  let i:=belowD l o.1 6
  let k:=belowD l i.1 6
  (k.1,(b.set i.2.toNat (b.getD k.2.toNat 0)).set k.2.toNat (b.getD i.2.toNat 0))
 else (o.1,b)
theorem lens7_6:∀k,k<7→(lens7.getD k []).length=6:=by decide
theorem l8D_yes {l:List Int} {c:Cr} (h:(onceD l (belowD l c 7).1 2).2=true):l8D l c=((belowD l (belowD l (onceD l (belowD l c 7).1 2).1 6).1 6).1,((lens7.getD (belowD l c 7).2.toNat []).set (belowD l (onceD l (belowD l c 7).1 2).1 6).2.toNat ((lens7.getD (belowD l c 7).2.toNat []).getD (belowD l (belowD l (onceD l (belowD l c 7).1 2).1 6).1 6).2.toNat 0)).set (belowD l (belowD l (onceD l (belowD l c 7).1 2).1 6).1 6).2.toNat ((lens7.getD (belowD l c 7).2.toNat []).getD (belowD l (onceD l (belowD l c 7).1 2).1 6).2.toNat 0)):=by
 unfold l8D;simp only;rw [if_pos h]
theorem l8D_no {l:List Int} {c:Cr} (h:¬(onceD l (belowD l c 7).1 2).2=true):l8D l c=((onceD l (belowD l c 7).1 2).1,lens7.getD (belowD l c 7).2.toNat []):=by
 unfold l8D;simp only;rw [if_neg h]
theorem l8D_ok {l:List Int} {c:Cr} (h:CrOk l c):CrOk l (l8D l c).1∧(l8D l c).2.length=6:=by
 have hb:=belowD_ok 7 h
 have ho:=onceD_ok 2 hb.1
 have h6:=lens7_6 (belowD l c 7).2.toNat (by have:=hb.2.1;have:=hb.2.2.1 (by decide);omega)
 by_cases hc:(onceD l (belowD l c 7).1 2).2=true
 ·rw [l8D_yes hc]
  exact ⟨(belowD_ok 6 (belowD_ok 6 ho).1).1,by simp only [List.length_set];exact h6⟩
 ·rw [l8D_no hc];exact ⟨ho,h6⟩
instance l8Lens_p:ConP 107 (∀ (v:Value) (l:List Int) (c:Cr),CrOk l c→Pn 107 v l c [] (l8D l c).1 [XI (l8D l c).2] (.own 1 0 0 (l8D l c).2.length)):=⟨fun v l c h=>by
 have hb:=belowD_ok 7 h
 have h70:=hb.2.1
 have h71:=hb.2.2.1 (by decide)
 have hlt:(belowD l c 7).2.toNat<lens7.length:=by show _<7;omega
 have h6:=lens7_6 (belowD l c 7).2.toNat (by omega)
 have h6':(lens7.getD (belowD l c 7).2.toNat default).length=6:=h6
 have ho:=onceD_ok 2 hb.1
 have hi:=belowD_ok 6 ho
 have hk:=belowD_ok 6 hi.1
 have hi1:=hi.2.2.1 (by decide)
 have hk1:=hk.2.2.1 (by decide)
 by_cases hc:(onceD l (belowD l c 7).1 2).2=true
 ·rw [l8D_yes hc]
  refine FnP.of_body tabOk Tryz.func107 Tryz.ntmps107 rfl (by decide +kernel) (by simp) rfl rfl rfl fun G hp=>?_
  refine go (r:=?_);and_intros<;>intros<;>try exact True.intro
  refine K.ld ?_
  refine WpL.loadOwnLi (M:=lens7) tabOk rfl rfl rfl rfl hlt (by decide) rfl ?_
  refine WpL.appInts tabOk rfl rfl rfl (Nat.le_refl 1) rfl rfl rfl rfl (by omega) (by decide) ?_
  rw [List.nil_append]
  refine WpL.weak (σ':=⟨[(0,.ptr 0 0 0),(20,.own 1 0 0 6)],[CurO v (belowD l c 7).1,XI (lens7.getD (belowD l c 7).2.toNat [])]⟩) (Weak.mk (.cons (.ptr rfl rfl rfl rfl .nil) (.cons (.own rfl rfl rfl rfl rfl (by omega) .nil) .nil)) (.cons (Re.same rfl rfl) (.inr rfl) (.cons (Re.same rfl (still_ints _)) (.inr rfl) .nil)) (Nat.le_of_ble_eq_true rfl)) ?_
  generalize lens7.getD (belowD l c 7).2.toNat []=b at h6 ⊢
  refine go (r:=?_);and_intros<;>intros<;>try exact True.intro
  all_goals first|(rename_i hg;rw [hc] at hg;cases hg;done)
 ·rw [l8D_no hc]
  refine FnP.of_body tabOk Tryz.func107 Tryz.ntmps107 rfl (by decide +kernel) (by simp) rfl rfl rfl fun G hp=>?_
  refine go (r:=?_);and_intros<;>intros<;>try exact True.intro
  refine K.ld ?_
  refine WpL.loadOwnLi (M:=lens7) tabOk rfl rfl rfl rfl hlt (by decide) rfl ?_
  refine WpL.appInts tabOk rfl rfl rfl (Nat.le_refl 1) rfl rfl rfl rfl (by omega) (by decide) ?_
  rw [List.nil_append]
  refine WpL.weak (σ':=⟨[(0,.ptr 0 0 0),(20,.own 1 0 0 6)],[CurO v (belowD l c 7).1,XI (lens7.getD (belowD l c 7).2.toNat [])]⟩) (Weak.mk (.cons (.ptr rfl rfl rfl rfl .nil) (.cons (.own rfl rfl rfl rfl rfl (by omega) .nil) .nil)) (.cons (Re.same rfl rfl) (.inr rfl) (.cons (Re.same rfl (still_ints _)) (.inr rfl) .nil)) (Nat.le_of_ble_eq_true rfl)) ?_
  generalize lens7.getD (belowD l c 7).2.toNat []=b at h6 ⊢
  refine go (r:=?_);and_intros<;>intros<;>try exact True.intro
  all_goals first|(rename_i hg;exact absurd hg hc)⟩
end Go.Proofs.YtndflfipaddfoaaGreat


namespace Go.Abs
open Go
theorem lrel_ints2 {S w ι O}:∀{xs:List Int} {us f},LRel S w ι O (ints xs) us f→us=xs.map (Value.int .i64)∧f=[]
 |[],us,f,h=>by cases h;exact ⟨rfl,rfl⟩
 |x::xs,us,f,h=>by
  cases h with
  |sc h=>obtain ⟨h1,h2⟩:=lrel_ints2 h;subst h1 h2;exact ⟨rfl,rfl⟩
theorem lrel_ints3 {S w ι O}:∀(xs:List Int),LRel S w ι O (ints xs) (xs.map (Value.int .i64)) []
 |[]=>.nil
 |x::xs=>.sc (lrel_ints3 xs)
theorem RelAt.pre {n m G S ι F T O a w} (hr:RelAt n m G S ι F ⟨T,O⟩ a w) {id j ep sz:Nat} {te:Option TypeId} {xs:List Int} (ho:O[id]?=some ⟨ints xs,ep,sz,te⟩):RelAt n m G S ι F ⟨T,O.set id ⟨ints (xs.take j),ep,sz,te⟩⟩ a w:=by
 have hid:id<O.length:=(List.getElem?_eq_some_iff.1 ho).1
 have hlat:Later S w ι O S w ι (O.set id ⟨ints (xs.take j),ep,sz,te⟩):=⟨fun _ h=>h,fun _ _=>rfl,fun i ob hi=>by
  by_cases e:i=id
  ·subst e;rw [ho] at hi;cases hi
   exact ⟨⟨ints (xs.take j),ep,sz,te⟩,by rw [List.getElem?_set_self hid],.inr ⟨rfl,rfl,rfl⟩⟩
  ·exact ⟨ob,by rw [List.getElem?_set,if_neg (fun h=>e h.symm)];exact hi,.inr ⟨rfl,rfl,rfl⟩⟩⟩
 refine ⟨hr.defers,hr.size,fun t=>(hr.tmps t).mono hlat (by simp),⟨fun i ob hi=>?_,fun i hi=>hr.objs.nodup i (by simpa using hi),fun i j' hi hj=>hr.objs.apart i j' (by simpa using hi) (by simpa using hj)⟩,fun i hi=>hr.foot i (by simpa using hi),hr.base,hr.stable,hr.keeps,hr.spots,by have:=hr.mle;simpa using this⟩
 have hi:(O.set id ⟨ints (xs.take j),ep,sz,te⟩)[i]?=some ob:=hi
 by_cases e:i=id
 ·subst e
  rw [List.getElem?_set_self hid] at hi;cases hi
  have h:=hr.objs.obj i _ ho
  unfold ObjAt at h ⊢
  cases hs:ι i with
  |none=>
   rw [hs] at h
   have h1:ints xs=[]:=h.1
   have:xs=[]:=by cases xs with|nil=>rfl|cons x xs=>cases h1
   subst this
   exact ⟨by simp [ints],h.2⟩
  |some p=>
   obtain ⟨b,k⟩:=p
   rw [hs] at h
   obtain ⟨cur,t,fz,f',h1,h2,h3,h4,h5,h6,h7⟩:=h
   obtain ⟨h8,h9⟩:=lrel_ints2 h7
   subst h9
   have hle:(xs.take j).length≤xs.length:=List.length_take_le' _ _
   have h4':xs.length≤k:=by simpa [ints] using h4
   refine ⟨cur,t,fz,[],h1,h2,h3,by show (ints (xs.take j)).length≤k;simp [ints];omega,h5,h6,?_⟩
   have e2:cur.toList.take (ints (xs.take j)).length=(xs.take j).map (Value.int .i64):=by
    have e3:(ints (xs.take j)).length=min j xs.length:=by simp [ints]
    have e4:cur.toList.take xs.length=xs.map (Value.int .i64):=by simpa [ints] using h8
    rw [e3,←List.take_take,e4,List.map_take]
   show LRel S w ι _ (ints (xs.take j)) (cur.toList.take (ints (xs.take j)).length) []
   rw [e2];exact lrel_ints3 _
 ·rw [List.getElem?_set,if_neg (fun h=>e h.symm)] at hi
  have h:=hr.objs.obj i ob hi
  unfold ObjAt at h ⊢
  cases hs:ι i with
  |none=>rw [hs] at h;exact h
  |some p=>
   obtain ⟨b,k⟩:=p
   rw [hs] at h
   obtain ⟨cur,t,fz,f',h1,h2,h3,h4,h5,h6,h7⟩:=h
   exact ⟨cur,t,fz,f',h1,h2,h3,h4,h5,h6,h7.mono hlat (fun _ _=>rfl)⟩
theorem Weak.pre {m id j ep sz:Nat} {T:List (Nat×AV)} {O:List AObj} {te:Option TypeId} {xs:List Int} (ho:O[id]?=some ⟨ints xs,ep,sz,te⟩):Weak m ⟨T,O⟩ ⟨T,O.set id ⟨ints (xs.take j),ep,sz,te⟩⟩:=by
 rintro n G a w ⟨S,ι,F,hr⟩
 exact ⟨S,ι,F,hr.pre ho⟩
section
variable {P:Program} {n m:Nat} {G:Ctx} {T:List (Nat×AV)} {O:List AObj} {Q:Exit→St→Prop} {ops:Array Oper} {l:List Oper} {d:Nat} {md:Bool} {tt:TypeId} {pos:String} {after:Array Edge} {tab:List (Nat×Ty)}
theorem WpL.subOwn (hP:TabOk P tab) {t e k b:Nat} {zs:List AV} {x y:Operand} {kk:IntKind} {id ep len j:Nat} {ob:AObj} (ht:tlook tab t=some (.slice e k b zs)) (hx:av T x=.own id ep 0 len) (ho:O[id]?=some ob) (he:ob.ep=ep) (hy:av T y=.sc (.int kk j)) (hj:j≤len) (hn:d<n)
 (h:WpL P n m G md ops l ⟨(d,.own id ep 0 j)::T,O⟩ Q):
 WpL P n m G md ops ({dst:=some d,op:=.slice t x none (some y) none,type:=tt,pos:=pos,after:=after,guard:=none}::l) ⟨T,O⟩ Q:=
 WpL.pure rfl rfl hn (fun S ι F a w hr=>by
  obtain ⟨hu,inf,z,hinf,_,hk,_,_,hk0,_⟩:=hP.slice ht
  have hv:=hr.eval x
  rw [show av (St.mk T O).T x=_ from hx] at hv
  have hye:=hr.sc hy
  have hown:OwnAt (ι id) ob.size 0 len (a.eval x):=by
   cases hv with
   |own q1 q2 q3 r=>
    rw [show (St.mk T O).O[id]?=some ob from ho] at q1
    cases q1
    exact q3 he.symm
  cases hs:ι id with
  |none=>
   rw [hs] at hown
   obtain ⟨hxe,h0,hl⟩:=hown
   have hj0:j=0:=by omega
   subst hj0
   refine ⟨.slice none 0 0,?_,.own ho (by omega) (fun _=>by rw [hs];exact ⟨rfl,rfl,rfl⟩) .nil⟩
   have hrun:(Instr.sliceAt t (.slice none 0 0) none (some (.int kk 0)) none).run P w=.ok (.slice none 0 0) w:=by
    simp [Instr.sliceAt,Instr.slice,run_underlying hu,Instr.sliceBounds,Instr.sliceBound,asIntOf,run_sizeOf hinf hk,Sem.run_bind]
   have hye':a.eval y=.int kk 0:=by rw [hye];rfl
   simp [execOp,hxe,hye',hrun,Sem.run_bind]
  |some p=>
   obtain ⟨bb,kb⟩:=p
   rw [hs] at hown
   obtain ⟨cap,hxe,h1,h2,h3⟩:=hown
   have hrun:=run_sliceSl hu hinf hk ⟨bb,0,none⟩ len cap none (some (.int kk j)) 0 j (.inl ⟨rfl,rfl⟩) (.inr ⟨kk,rfl⟩) (by omega) w
   have e1:(if cap=0 then (⟨bb,0,none⟩:Addr) else (⟨bb,0,none⟩:Addr).add (0*k))=⟨bb,0,none⟩:=by
    split
    ·rfl
    ·rw [addr_add];simp
   rw [e1,Nat.sub_zero,Nat.sub_zero] at hrun
   refine ⟨.slice (some ⟨bb,0,none⟩) j cap,by simp [execOp,hxe,hye,hrun,Sem.run_bind],.own ho (by omega) (fun _=>by rw [hs];exact ⟨cap,rfl,h1,by omega,h3⟩) .nil⟩) h
end
theorem split1 {Ov:List AObj} {a:AObj} (h0:Ov[0]?=some a):∃R,Ov=a::R:=by
 match Ov,h0 with
 |a'::R,h0=>simp at h0;exact ⟨R,by rw [h0]⟩
 |[],h=>simp at h
theorem split5 {Ov:List AObj} {e:AObj} (h:Ov[4]?=some e):∃a b c d R,Ov=a::b::c::d::e::R:=by
 match Ov,h with
 |a::b::c::d::e'::R,h=>simp at h;exact ⟨a,b,c,d,R,by rw [h]⟩
 |[],h=>simp at h
 |[_],h=>simp at h
 |[_,_],h=>simp at h
 |[_,_,_],h=>simp at h
 |[_,_,_,_],h=>simp at h
section
variable {m:Nat} {T:List (Nat×AV)} {O:List AObj} {tab:List (Nat×Ty)} {e':Exit} {r1 r2:ResultVar} {r1v r2v r:AV} {N:List AObj}
theorem FinG.oI (ids:List (Option Nat)) (he:endB e'=true) (hv:ResV tab T O r1 r1v) (hx:Ex O ids [r1v] [r]) (hN:NEx O ids N) (hd:nodupB (ids.filterMap id)=true) (hp:preB ids m 0=true):FinG tab m #[r1] N r e' ⟨T,O⟩:=FinG.e he (.one hv hN (nodupB_spec hd) hp hx)
end
end Go.Abs


namespace Go.Proofs.YtndflfipaddfoaaGreat
open Go Go.Abs
attribute [local irreducible] WpA WpL Rnd Blk Abs.Seq Abs.Fin Abs.FinG FnC FnG FnX FnP FinX Only
attribute [local irreducible] belowD onceD pickD modeD
abbrev any5:List Int:=[0,1,8,-1,7]
def l8AnyD (l:List Int) (c:Cr):Cr×List Int:=
 let y:=l8D l c
 let s:=belowD l y.1 12
 if s.2=0 then
  let i:=belowD l s.1 6
  let p:=pickD l i.1 any5
  (p.1,y.2.set i.2.toNat p.2)
 else if s.2=1 then (s.1,y.2.take 5) else (s.1,y.2)
theorem l8AnyD_0 {l:List Int} {c:Cr} (h:(belowD l (l8D l c).1 12).2=0):l8AnyD l c=((pickD l (belowD l (belowD l (l8D l c).1 12).1 6).1 any5).1,(l8D l c).2.set (belowD l (belowD l (l8D l c).1 12).1 6).2.toNat (pickD l (belowD l (belowD l (l8D l c).1 12).1 6).1 any5).2):=by
 unfold l8AnyD;simp only;rw [if_pos h]
theorem l8AnyD_1 {l:List Int} {c:Cr} (h:(belowD l (l8D l c).1 12).2=1):l8AnyD l c=((belowD l (l8D l c).1 12).1,(l8D l c).2.take 5):=by
 unfold l8AnyD;simp only;rw [if_neg (by omega),if_pos h]
theorem l8AnyD_2 {l:List Int} {c:Cr} (h:(belowD l (l8D l c).1 12).2≠0) (h1:(belowD l (l8D l c).1 12).2≠1):l8AnyD l c=((belowD l (l8D l c).1 12).1,(l8D l c).2):=by
 unfold l8AnyD;simp only;rw [if_neg h,if_neg h1]
theorem l8AnyD_ok {l:List Int} {c:Cr} (h:CrOk l c):CrOk l (l8AnyD l c).1∧(l8AnyD l c).2.length≤6:=by
 have h8:=l8D_ok h
 have hs:=belowD_ok 12 h8.1
 by_cases h0:(belowD l (l8D l c).1 12).2=0
 ·rw [l8AnyD_0 h0]
  exact ⟨(pickD_ok (belowD_ok 6 hs.1).1 (by decide)).1,by simp only [List.length_set];omega⟩
 ·by_cases h1:(belowD l (l8D l c).1 12).2=1
  ·rw [l8AnyD_1 h1];exact ⟨hs.1,by simp only [List.length_take];omega⟩
  ·rw [l8AnyD_2 h0 h1];exact ⟨hs.1,by simp only;omega⟩
instance l8Any_p:ConP 111 (∀ (v:Value) (l:List Int) (c:Cr),CrOk l c→Pn 111 v l c [] (l8AnyD l c).1 [XI (l8AnyD l c).2] (.own 1 0 0 (l8AnyD l c).2.length)):=⟨fun v l c h=>by
 have h8:=l8D_ok h
 have hs:=belowD_ok 12 h8.1
 have hi:=belowD_ok 6 hs.1
 have hi1:=hi.2.2.1 (by decide)
 have hi0:=hi.2.1
 by_cases h0:(belowD l (l8D l c).1 12).2=0
 ·rw [l8AnyD_0 h0]
  refine FnP.of_body tabOk Tryz.func111 Tryz.ntmps111 rfl (by decide +kernel) (by simp) rfl rfl rfl fun G hp=>?_
  refine go (r:=?_);and_intros<;>intros<;>try exact True.intro
  all_goals first|exact hi.1|exact hs.1|decide
 ·by_cases h1:(belowD l (l8D l c).1 12).2=1
  ·have e5:((l8D l c).2.take 5).length=5:=by rw [List.length_take,h8.2];rfl
   rw [l8AnyD_1 h1]
   simp only [e5]
   refine FnP.of_body tabOk Tryz.func111 Tryz.ntmps111 rfl (by decide +kernel) (by simp) rfl rfl rfl fun G hp=>?_
   refine go (r:=?_);and_intros<;>intros<;>try exact True.intro
   refine K.sl ?_
   refine WpL.subOwn (j:=5) tabOk rfl rfl rfl rfl rfl (by omega) (by decide) ?_
   refine WpL.weak (Weak.pre (id:=1) (j:=5) rfl) ?_
   refine go (r:=?_);and_intros<;>intros<;>try exact True.intro
   all_goals trace_state
  ·rw [l8AnyD_2 h0 h1]
   refine FnP.of_body tabOk Tryz.func111 Tryz.ntmps111 rfl (by decide +kernel) (by simp) rfl rfl rfl fun G hp=>?_
   refine go (r:=?_);and_intros<;>intros<;>try exact True.intro
   all_goals trace_state⟩
end Go.Proofs.YtndflfipaddfoaaGreat


namespace Go.Proofs.YtndflfipaddfoaaGreat
open Go Go.Abs
attribute [local irreducible] WpA WpL Rnd Blk Abs.Seq Abs.Fin Abs.FinG FnC FnG FnX FnP FinX Only
attribute [local irreducible] belowD onceD pickD modeD l8D l8AnyD
def modesD (l:List Int):Nat→Cr×List Int→Cr×List Int
 |0,s=>s
 |n+1,s=>modesD l n ((modeD l s.1).1,s.2++[(modeD l s.1).2])
def onesD (l:List Int):Nat→Cr×List Bool→Cr×List Bool
 |0,s=>s
 |n+1,s=>onesD l n ((onceD l s.1 2).1,s.2++[(onceD l s.1 2).2])
structure Op6 where
 q:Int
 b:Bool
 d:Bool
 lens:List Int
 ms:List Int
 es:List Bool
abbrev quant7:List Int:=[0,0,6,12,24,36,51]
def optD (l:List Int) (c:Cr):Cr×Op6:=
 let q:=pickD l c quant7
 let b:=onceD l q.1 4
 let d:=onceD l b.1 2
 let e:=l8D l d.1
 let n:=belowD l e.1 5
 let m:=modesD l n.2.toNat (n.1,[])
 let k:=belowD l m.1 4
 let s:=onesD l k.2.toNat (k.1,[])
 (s.1,⟨q.2,b.2,d.2,e.2,m.2,s.2⟩)
end Go.Proofs.YtndflfipaddfoaaGreat


namespace Go.Abs
open Go
structure Moves (k base:Nat) (V W:AV):Prop where
 rel:∀{S S3:Nat→Prop} {w:World} {ι ι3:Nat→Spot} {O O3:List AObj} {x:Value},(∀ id,k≤id→ι3 (id-k+base)=ι id)→(∀ id ob,k≤id→O[id]?=some ob→O3[id-k+base]?=some ob)→VRel S w ι O V x []→VRel S3 w ι3 O3 W x []
theorem Moves.ptr {k base id ep off:Nat} (h:k≤id):Moves k base (.ptr id ep off) (.ptr (id-k+base) ep off):=by
 refine ⟨fun h1 h2 hv=>?_⟩
 cases hv with
 |ptr a b c r=>cases r;exact .ptr (h2 _ _ h a) b (fun e=>by rw [h1 _ h];exact c e) .nil
section
variable {P:Program} {n m:Nat} {G:Ctx} {T:List (Nat×AV)} {O:List AObj} {Q:Exit→St→Prop} {ops:Array Oper} {l:List Oper} {tt:TypeId} {pos:String} {after:Array Edge} {tab:List (Nat×Ty)}
theorem callXm_rel {β:Type} {f:FuncId} {xs:List Operand} {As:List AV} {M:List AObj} {MX NX:β→List AObj} {rX rX':β→AV} {C:β→Prop} {hs:List Nat} {pv:List Value} {pa:List AV} (hc:FnX P f As M pv pa β C MX NX rX) (hp:Pin G pv pa) (hh:Hand O hs (xs.map (av T)) As) (hM:HandO O hs M) (hnd:hs.Nodup) (hlenX:∀y,(MX y).length=M.length)
 (hszX:∀(y:β) (j:Nat) (a b:AObj),M[j]?=some a→(MX y)[j]?=some b→b.size=a.size) (hMX':∀y,Out (MX y)) (hNX:∀y,Out (NX y)) (hreX:∀y,Moves M.length O.length (rX y) (rX' y)) {a:Act} {w:World} (hr:Rel n m G ⟨T,O⟩ a w):
 Calls P f (xs.map a.eval).toArray w fun e w'=>∃y,C y∧∃v,e=.returned v∧∃S ι F,RelAt n m G S ι F ⟨T,newO hs (MX y) 0 O++NX y⟩ a w'∧VRel S w' ι (newO hs (MX y) 0 O++NX y) (rX' y) v []:=by
 obtain ⟨S,ι,F,hr⟩:=hr
 obtain ⟨⟨fn,hf,hb,hnm⟩,hcall⟩:=hc
 obtain ⟨hlM,hatM⟩:=hM.at
 let S2:Nat→Prop:=fun b=>b<w.heap.size∧∀id∈hs,b ∉ F id
 let ιM:Nat→Spot:=fun j=>match hs[j]? with|some id=>ι id|none=>none
 let FM:Nat→List Nat:=fun j=>match hs[j]? with|some id=>F id|none=>[]
 have hιM:∀(j id:Nat),hs[j]?=some id→ιM j=ι id:=fun j id h=>by show (match hs[j]? with|some id=>ι id|none=>none)=_;rw [h]
 have hFM:∀(j id:Nat),hs[j]?=some id→FM j=F id:=fun j id h=>by show (match hs[j]? with|some id=>F id|none=>[])=_;rw [h]
 have hidl:∀(j id:Nat),hs[j]?=some id→id<O.length:=fun j id h=>by
  have hj:j<M.length:=by rw [←hlM];exact (List.getElem?_eq_some_iff.1 h).1
  obtain ⟨id',ob,e1,e2,_⟩:=hatM j _ (List.getElem?_eq_getElem hj)
  rw [h] at e1;cases e1;exact (List.getElem?_eq_some_iff.1 e2).1
 have hmem:∀id∈hs,∃j,j<M.length∧hs[j]?=some id:=fun id h=>by
  obtain ⟨j,hj,e⟩:=List.getElem_of_mem h
  exact ⟨j,by omega,by rw [List.getElem?_eq_getElem hj,e]⟩
 have hex:∀j,j<M.length→∃id,hs[j]?=some id:=fun j hj=>⟨hs[j],List.getElem?_eq_getElem (by omega)⟩
 have hSS:∀b,S b→S2 b:=fun b hb=>⟨hr.stable b hb,fun id hid hbf=>by
  obtain ⟨j,hj,e⟩:=hmem id hid
  exact (hr.foot id (hidl j id e) b hbf).2.1 hb⟩
 have hOM:ORel S2 w ιM M FM:=by
  refine ⟨fun j mb hj=>?_,fun j hj=>?_,fun i j hi hj hij b hb=>?_⟩
  ·obtain ⟨id,ob,e1,e2,e3,e4,e5,e6,e7⟩:=hatM j mb hj
   rw [hιM j id e1,hFM j id e1]
   have ho:=hr.objs.obj id ob e2
   unfold ObjAt at ho ⊢
   cases hs':ι id with
   |none=>rw [hs'] at ho;rw [←e3];exact ho
   |some p=>
    obtain ⟨b,k⟩:=p
    rw [hs'] at ho
    obtain ⟨cur',t',fz',f2,q1,q2,q3,q4,q5,q6,q7⟩:=ho
    refine ⟨cur',t',fz',f2,q1,q2,q3,by rw [←e3];exact q4,q5,fun e he=>?_,?_⟩
    ·rcases e7 with e7|e7
     ·rw [e7] at he;cases he
     ·exact q6 e (by rw [←e7];exact he)
    ·rw [←e3]
     exact still_all (by rw [e3];exact e4) q7 hSS (fun _ _=>rfl) (fun _ _=>rfl)
  ·obtain ⟨id,e⟩:=hex j hj
   rw [hFM j id e];exact hr.objs.nodup id (hidl j id e)
  ·obtain ⟨id1,e1⟩:=hex i hi
   obtain ⟨id2,e2⟩:=hex j hj
   rw [hFM i id1 e1] at hb;rw [hFM j id2 e2]
   exact hr.objs.apart id1 id2 (hidl i id1 e1) (hidl j id2 e2) (fun e=>hij (nodup_get hnd e1 (e▸e2))) b hb
 have hl:=hr.evals xs
 obtain ⟨f',hl2,hf'⟩:=hh.rel (S2:=S2) (ιM:=ιM) hM hιM hSS hr.objs (fun b h1 h2=>⟨h1,h2⟩) (fun id hid=>by obtain ⟨j,hj,e⟩:=hmem id hid;exact hidl j id e) hl (by simp)
 have hf0:f'=[]:=List.eq_nil_iff_forall_not_mem.2 fun b hb=>by simpa using hf' b hb
 subst hf0
 refine (hcall w S2 ιM FM (xs.map a.eval) (fun b h=>h.1) hOM (fun j hj b hb=>?_) hl2 (hp.at hr hSS [] (fun _=>none))).mono fun e w' he=>?_
 ·obtain ⟨id,e⟩:=hex j hj
  rw [hFM j id e] at hb
  exact ⟨fun h=>h.2 id (List.mem_of_getElem? e) hb,(hr.foot id (hidl j id e) b hb).2.2⟩
 obtain ⟨y,hy,v,S',ι',F',rfl,hS1,hS2,hS3,hι',hO',hF',hv,hk⟩:=he
 refine ⟨y,hy,v,rfl,?_⟩
 have hlen:=hlenX y
 have hsz:=hszX y
 have hM':=hMX' y
 have hN:=hNX y
 have hre:=hreX y
 generalize MX y=M' at hlen hsz hM' hO' hF' hv ⊢
 generalize NX y=N at hN hO' hF' hv ⊢
 generalize rX y=r at hre hv
 generalize rX' y=r' at hre ⊢
 have hold:∀b,b<w.heap.size→(∀ id∈hs,b ∉ F id)→w'.heap[b]?=w.heap[b]?:=fun b hb hn=>hk.block b hb (by
  rintro ⟨i,hi,hbf⟩
  obtain ⟨id,e⟩:=hex i hi
  rw [hFM i id e] at hbf
  exact hn id (List.mem_of_getElem? e) hbf)
 let S3:Nat→Prop:=fun b=>S b∨(S' b∧w.heap.size≤b)
 let ι3:Nat→Spot:=fun i=>if i<O.length then ι i else ι' (M.length+(i-O.length))
 let F3:Nat→List Nat:=fun i=>if i<O.length then (match findN hs i 0 with|some j=>F' j|none=>F i) else F' (M.length+(i-O.length))
 let O3:=newO hs M' 0 O++N
 have hl3:(newO hs M' 0 O).length=O.length:=newO_len hs M' 0 O
 have hO3lt:∀i,i<O.length→O3[i]?=(O[i]?).map (newOb hs M' i):=fun i hi=>by
  show (newO hs M' 0 O++N)[i]?=_
  rw [List.getElem?_append_left (by omega),newO_at,Nat.zero_add]
 have hO3ge:∀i,O.length≤i→O3[i]?=N[i-O.length]?:=fun i hi=>by
  show (newO hs M' 0 O++N)[i]?=_
  rw [List.getElem?_append_right (by omega),hl3]
 have hob:∀i ob,O[i]?=some ob→(newOb hs M' i ob).ep=ob.ep∧(newOb hs M' i ob).size=ob.size:=fun i ob h=>by
  unfold newOb
  cases hfd:findN hs i 0 with
  |none=>exact ⟨rfl,rfl⟩
  |some j=>
   cases hmj:M'[j]? with
   |none=>exact ⟨by simp [hmj],by simp [hmj]⟩
   |some mb=>
    obtain ⟨q,rfl,hq⟩:=findN_some hfd
    rw [Nat.zero_add] at hmj
    have hqm:q<M.length:=by rw [←hlM];exact (List.getElem?_eq_some_iff.1 hq).1
    obtain ⟨id',ob',e1,e2,_,_,_,e6,_⟩:=hatM q _ (List.getElem?_eq_getElem hqm)
    rw [hq] at e1;cases e1
    rw [h] at e2;cases e2
    simp only [Nat.zero_add,hmj,true_and]
    exact (hsz q _ _ (List.getElem?_eq_getElem hqm) hmj).trans e6
 have hlat:Later S w ι O S3 w' ι3 O3:=by
  refine ⟨fun b h=>.inl h,fun b hb=>hold b (hr.stable b hb) (hSS b hb).2,fun id ob h=>?_⟩
  have hlt:id<O.length:=(List.getElem?_eq_some_iff.1 h).1
  obtain ⟨h1,h2⟩:=hob id ob h
  exact ⟨newOb hs M' id ob,by rw [hO3lt id hlt,h];rfl,.inr ⟨h1,h2,by show (if _ then _ else _)=_;rw [if_pos hlt]⟩⟩
 have hF3f:∀(i j:Nat),i<O.length→findN hs i 0=some j→F3 i=F' j:=fun i j hi h=>by show (if _ then _ else _)=_;rw [if_pos hi,h]
 have hF3n:∀(i:Nat),i<O.length→findN hs i 0=none→F3 i=F i:=fun i hi h=>by show (if _ then _ else _)=_;rw [if_pos hi,h]
 have hF3g:∀(i:Nat),O.length≤i→F3 i=F' (M.length+(i-O.length)):=fun i hi=>by show (if _ then _ else _)=_;rw [if_neg (by omega)]
 have hlMN:(M'++N).length=M.length+N.length:=by rw [List.length_append,hlen]
 have hfind:∀(i j:Nat),findN hs i 0=some j→j<M.length∧hs[j]?=some i:=fun i j h=>by
  obtain ⟨q,rfl,hq⟩:=findN_some h
  rw [Nat.zero_add]
  exact ⟨by rw [←hlM];exact (List.getElem?_eq_some_iff.1 hq).1,hq⟩
 have hl3':O3.length=O.length+N.length:=by show (newO hs M' 0 O++N).length=_;rw [List.length_append,hl3]
 have hsrc:∀k,k<(M'++N).length→∀b∈F' k,((∃ id,id∈hs∧id<O.length∧b∈F id)∨w.heap.size≤b)∧¬S' b∧b<w'.heap.size:=fun k hk' b hb=>by
  obtain ⟨q1,q2,q3⟩:=hF' k hk' b hb
  refine ⟨?_,q2,q3⟩
  rcases q1 with ⟨i,hi,hbf⟩|q1
  ·obtain ⟨id,e⟩:=hex i hi
   rw [hFM i id e] at hbf
   exact .inl ⟨id,List.mem_of_getElem? e,hidl i id e,hbf⟩
  ·exact .inr q1
 have hnoS:∀k,k<(M'++N).length→∀b∈F' k,(G.M0 b∨G.w0.heap.size≤b)∧¬S3 b∧b<w'.heap.size:=fun k hk' b hb=>by
  obtain ⟨q1,q2,q3⟩:=hsrc k hk' b hb
  rcases q1 with ⟨id,hid,hlt,hbf⟩|q1
  ·obtain ⟨p1,p2,p3⟩:=hr.foot id hlt b hbf
   refine ⟨p1,?_,q3⟩
   rintro (h|⟨h,_⟩)
   ·exact p2 h
   ·exact q2 h
  ·refine ⟨.inr (by have:=hr.keeps.size;omega),?_,q3⟩
   rintro (h|⟨h,_⟩)
   ·have:=hr.stable b h;omega
   ·exact q2 h
 have hnotin:∀i,i<O.length→findN hs i 0=none→∀b∈F i,w'.heap[b]?=w.heap[b]?:=fun i hi h b hb=>hold b (hr.foot i hi b hb).2.2 fun id hid hbf=>by
  obtain ⟨j,hj,e⟩:=hmem id hid
  have hne:i≠id:=by rintro rfl;exact findN_none h hid
  exact hr.objs.apart i id hi (hidl j id e) hne b hb hbf
 have hcells:∀{cs:List AV} {us g},cs.all AV.still=true→Loc cs→LRel S' w' ι' (M'++N) cs us g→LRel S3 w' ι3 O3 cs us g:=fun h1 h2 hl=>
  Loc.rel h2 (still_all (S':=S') h1 hl (fun _ h=>h) (fun _ _=>rfl) (fun _ _=>rfl))
 refine ⟨S3,ι3,F3,⟨hr.defers,hr.size,fun t=>(hr.tmps t).mono hlat (by simp),⟨fun i ob h=>?_,fun i h=>?_,fun i j hi hj hij b hb=>?_⟩,fun i h b hb=>?_,⟨fun b hb=>.inl (hr.base.1 b hb),?_⟩,?_,?_,fun i h=>?_,?_⟩,?_⟩
 ·have h:O3[i]?=some ob:=h
  by_cases hlt:i<O.length
  ·rw [hO3lt i hlt,List.getElem?_eq_getElem hlt] at h
   simp only [Option.map_some,Option.some.injEq] at h
   rw [show ι3 i=ι i from if_pos hlt]
   cases hfd:findN hs i 0 with
   |some j=>
    obtain ⟨hjm,hji⟩:=hfind i j hfd
    rw [hF3f i j hlt hfd]
    have hjM':j<M'.length:=by omega
    have hmb:M'[j]?=some M'[j]:=List.getElem?_eq_getElem hjM'
    have h':ob=⟨M'[j].cells,(O[i]).ep,M'[j].size,M'[j].ty⟩:=by
     rw [←h];unfold newOb;rw [hfd];simp only [hmb]
    have ho:=hO'.obj j M'[j] (by rw [List.getElem?_append_left hjM'];exact hmb)
    rw [hι' j hjm,hιM j i hji] at ho
    have hout:=hM'.at hmb
    rw [h']
    unfold ObjAt at ho ⊢
    cases hs':ι i with
    |none=>rw [hs'] at ho;exact ho
    |some p=>
     obtain ⟨b,k⟩:=p
     rw [hs'] at ho
     obtain ⟨cur',t',fz',f2,q1,q2,q3,q4,q5,q6,q7⟩:=ho
     exact ⟨cur',t',fz',f2,q1,q2,q3,q4,q5,q6,hcells hout.1 hout.2 q7⟩
   |none=>
    rw [hF3n i hlt hfd]
    have h':ob=O[i]:=by rw [←h];unfold newOb;rw [hfd]
    subst h'
    have ho:=hr.objs.obj i O[i] (List.getElem?_eq_getElem hlt)
    have key:=hnotin i hlt hfd
    unfold ObjAt at ho ⊢
    cases hs':ι i with
    |none=>rw [hs'] at ho;exact ho
    |some p=>
     obtain ⟨b,k⟩:=p
     rw [hs'] at ho
     obtain ⟨cur',t',fz',f2,q1,q2,q3,q4,q5,q6,q7⟩:=ho
     exact ⟨cur',t',fz',f2,q1,by rw [key b (by rw [q1];simp)];exact q2,q3,q4,q5,q6,q7.mono hlat fun b' hb'=>key b' (by rw [q1];simp [hb'])⟩
  ·rw [hO3ge i (by omega)] at h
   rw [show ι3 i=ι' (M.length+(i-O.length)) from if_neg hlt,hF3g i (by omega)]
   have ho:=hO'.obj (M.length+(i-O.length)) ob (by rw [List.getElem?_append_right (by omega),hlen,Nat.add_sub_cancel_left];exact h)
   have hout:=hN.at h
   unfold ObjAt at ho ⊢
   cases hs':ι' (M.length+(i-O.length)) with
   |none=>rw [hs'] at ho;exact ho
   |some p=>
    obtain ⟨b,k⟩:=p
    rw [hs'] at ho
    obtain ⟨cur',t',fz',f2,q1,q2,q3,q4,q5,q6,q7⟩:=ho
    exact ⟨cur',t',fz',f2,q1,q2,q3,q4,q5,q6,hcells hout.1 hout.2 q7⟩
 ·have h:i<O3.length:=h
  by_cases hlt:i<O.length
  ·cases hfd:findN hs i 0 with
   |some j=>rw [hF3f i j hlt hfd];exact hO'.nodup j (by have:=(hfind i j hfd).1;omega)
   |none=>rw [hF3n i hlt hfd];exact hr.objs.nodup i hlt
  ·rw [hF3g i (by omega)];exact hO'.nodup _ (by omega)
 ·have hi:i<O3.length:=hi
  have hj:j<O3.length:=hj
  have hpl:∀k,k<O3.length→(∃ q,q<(M'++N).length∧F3 k=F' q∧((q<M.length∧hs[q]?=some k)∨(O.length≤k∧q=M.length+(k-O.length))))∨(k<O.length∧findN hs k 0=none∧F3 k=F k):=fun k hk'=>by
   by_cases hlt:k<O.length
   ·cases hfd:findN hs k 0 with
    |some q=>obtain ⟨h1,h2⟩:=hfind k q hfd;exact .inl ⟨q,by omega,hF3f k q hlt hfd,.inl ⟨h1,h2⟩⟩
    |none=>exact .inr ⟨hlt,rfl,hF3n k hlt hfd⟩
   ·exact .inl ⟨_,by omega,hF3g k (by omega),.inr ⟨by omega,rfl⟩⟩
  have hcross:∀k q,k<O.length→findN hs k 0=none→q<(M'++N).length→∀b∈F k,b ∉ F' q:=fun k q hk' hn hq b hb hb'=>by
   rcases (hsrc q hq b hb').1 with ⟨id,hid,hlt,hbf⟩|h
   ·have hne:k≠id:=by rintro rfl;exact findN_none hn hid
    exact hr.objs.apart k id hk' hlt hne b hb hbf
   ·have:=(hr.foot k hk' b hb).2.2;omega
  rcases hpl i hi with ⟨q1,p1,p2,p3⟩|⟨p1,p2,p3⟩<;>rcases hpl j hj with ⟨q2,r1,r2,r3⟩|⟨r1,r2,r3⟩
  ·rw [p2] at hb;rw [r2]
   refine hO'.apart q1 q2 p1 r1 (fun e=>?_) b hb
   subst e
   rcases p3 with ⟨a1,a2⟩|⟨a1,a2⟩<;>rcases r3 with ⟨b1,b2⟩|⟨b1,b2⟩
   ·rw [a2] at b2;cases b2;exact hij rfl
   ·omega
   ·omega
   ·omega
  ·rw [p2] at hb;rw [r3];intro hb';exact hcross j q1 r1 r2 p1 b hb' hb
  ·rw [p3] at hb;rw [r2];exact hcross i q2 p1 p2 r1 b hb
  ·rw [p3] at hb;rw [r3];exact hr.objs.apart i j p1 r1 hij b hb
 ·have h:i<O3.length:=h
  by_cases hlt:i<O.length
  ·cases hfd:findN hs i 0 with
   |some j=>rw [hF3f i j hlt hfd] at hb;exact hnoS j (by have:=(hfind i j hfd).1;omega) b hb
   |none=>
    rw [hF3n i hlt hfd] at hb
    obtain ⟨q1,q2,q3⟩:=hr.foot i hlt b hb
    refine ⟨q1,?_,by have:=hk.size;omega⟩
    rintro (h'|⟨_,h'⟩)
    ·exact q2 h'
    ·omega
  ·rw [hF3g i (by omega)] at hb;exact hnoS _ (by omega) b hb
 ·rintro b (h'|⟨_,h'⟩)
  ·exact hr.base.2 b h'
  ·exact .inr (by have:=hr.keeps.size;omega)
 ·rintro b (h'|⟨h',_⟩)
  ·have:=hr.stable b h';have:=hk.size;omega
  ·exact hS3 b h'
 ·refine ⟨hk.os.trans hr.keeps.os,hk.tape.trans hr.keeps.tape,hk.output.trans hr.keeps.output,by have:=hr.keeps.size;have:=hk.size;omega,fun b hb hM0=>?_⟩
  rw [hold b (by have:=hr.keeps.size;omega) fun id hid hbf=>?_]
  ·exact hr.keeps.block b hb hM0
  ·obtain ⟨j,hj,e⟩:=hmem id hid
   rcases (hr.foot id (hidl j id e) b hbf).1 with h|h
   ·exact hM0 h
   ·omega
 ·have hm:m≤O.length:=hr.mle
  rw [show ι3 i=ι i from if_pos (by omega)];exact hr.spots i h
 ·have hm:m≤O.length:=hr.mle
  show m≤O3.length
  omega
 ·refine hre.rel (S:=S') (ι:=ι') (O:=M'++N) (fun id hid=>?_) (fun id ob hid h=>?_) hv
  ·show (if _ then _ else _)=_
   rw [if_neg (by omega)];congr 1;omega
  ·show O3[id-M.length+O.length]?=some ob
   rw [hO3ge _ (by omega),Nat.add_sub_cancel]
   rw [List.getElem?_append_right (by omega),hlen] at h
   exact h
theorem FnP.of_new (hP:TabOk P tab) {f:FuncId} {fn:Func} {c:Code} {args:List AV} {pv:List Value} {pa:List AV} {k t sz:Nat} {cells:List AV} {ty:Option TypeId} (hf:P.funcs[f]?=some fn) (hnt:fn.ntmps=k) (hb:fn.body=some c) (hnm:(fn.name== "runtime.NumGoroutine")=false)
 (hal:args.length≤k) (hres:fn.results=#[.tmp t]) (hps:pa.all AV.still=true) (hst:cells.all AV.still=true) (h:∀G,Pin G pv pa→WpA P k 0 G c ⟨enumT 0 args,[]⟩ (fun e σ=>endB e=true∧∃id ep ob,look σ.T t=.ptr id ep 0∧σ.O[id]?=some ob∧ob.ep=ep∧ob.cells=cells∧ob.size=sz∧(ty=none∨ty=ob.ty))):
 FnP P f args [] pv pa [] [⟨cells,0,sz,ty⟩] (.ptr 0 0 0):=by
 refine ⟨⟨fn,hf,by rw [hb];rfl,hnm⟩,fun w S ι F vs hS hO hF hl hpin=>?_⟩
 have hvl:vs.length=args.length:=hl.len.symm
 refine calls_of_wp hf hb ?_
 have hrel:Rel k 0 ⟨w,S,fun b=>∃i,i<([]:List AObj).length∧b∈F i,ι⟩ ⟨enumT 0 args,[]⟩ {tmps:=vs.toArray++Array.replicate (fn.ntmps-vs.toArray.size) undef,defers:=[]} w:=by
  refine ⟨S,ι,F,rfl,?_,fun t=>?_,hO,fun id hid b hb=>⟨.inl ⟨id,hid,hb⟩,hF id hid b hb⟩,⟨fun _ h=>h,fun _ h=>.inl h⟩,hS,Keeps.refl _ _,fun _ _=>rfl,Nat.zero_le _⟩
  ·simp [hnt];omega
  ·show VRel S w ι [] (look (enumT 0 args) t) _ []
   rw [look_enumT]
   simp only [Nat.zero_le,if_true,Nat.sub_zero]
   by_cases ht:t<args.length
   ·obtain ⟨x,g,hx,hV,hg⟩:=hl.get (List.getElem?_eq_getElem ht)
    have hg0:g=[]:=List.eq_nil_iff_forall_not_mem.2 fun b hb=>by simpa using hg b hb
    subst hg0
    have e1:args.getD t .any=args[t]:=by simp [ht]
    have e2:(vs.toArray++Array.replicate (fn.ntmps-vs.toArray.size) undef).getD t undef=x:=by
     have:t<vs.length:=by omega
     rw [List.getElem?_eq_getElem this] at hx
     simp only [Option.some.injEq] at hx
     simp [Array.getD_eq_getD_getElem?,Array.getElem?_append,this,hx]
    rw [e1,e2];exact hV
   ·have e1:args.getD t .any=.any:=by simp [List.getElem?_eq_none (Nat.le_of_not_lt ht)]
    rw [e1];exact .any .nil
 refine wp_mono (h ⟨w,S,fun b=>∃i,i<([]:List AObj).length∧b∈F i,ι⟩ ⟨hpin,hps,fun b hb=>⟨fun ⟨i,hi,hbf⟩=>(hF i hi b hbf).1 hb,hS b hb⟩⟩ _ _ hrel) fun e a' w' ⟨σ',hq,hr'⟩=>?_
 obtain ⟨he,id,ep,ob,h1,h2,h3,h4,h5,h6⟩:=hq
 obtain ⟨S2,ι2,F2,hr⟩:=hr'
 have hrun:(results fn a'.tmps).run P w'=.ok (a'.tmps.getD t undef) w':=run_results1 hres (by simp [resSem])
 have ht:=hr.tmps t
 rw [h1] at ht
 have hid:id<σ'.O.length:=(List.getElem?_eq_some_iff.1 h2).1
 have hobj:=hr.objs.obj id ob h2
 have hfin:∃v S' ι' F',a'.tmps.getD t undef=v∧(∀ b,S b→S' b)∧(∀ b,S' b→S b∨w.heap.size≤b)∧(∀ b,S' b→b<w'.heap.size)∧(∀ id,id<([]:List AObj).length→ι' id=ι id)∧ORel S' w' ι' ([]++[⟨cells,0,sz,ty⟩]) F'∧
  (∀ id,id<([]++[(⟨cells,0,sz,ty⟩:AObj)]).length→∀b∈F' id,((∃ i,i<([]:List AObj).length∧b∈F i)∨w.heap.size≤b)∧¬S' b∧b<w'.heap.size)∧VRel S' w' ι' ([]++[⟨cells,0,sz,ty⟩]) (.ptr 0 0 0) v []∧Keeps w (fun b=>∃i,i<([]:List AObj).length∧b∈F i) w':=by
  refine ⟨_,S2,fun j=>if j=0 then ι2 id else none,fun j=>if j=0 then F2 id else [],rfl,hr.base.1,hr.base.2,hr.stable,fun i hi=>by simp at hi,⟨fun i ob' hi=>?_,fun i hi=>?_,fun i j hi hj hij=>?_⟩,fun i hi b hb=>?_,?_,hr.keeps⟩
  ·cases i with
   |succ i=>simp at hi
   |zero=>
    simp at hi;subst hi
    simp only [if_true]
    unfold ObjAt at hobj ⊢
    cases hs:ι2 id with
    |none=>rw [hs,h4] at hobj;exact hobj
    |some p=>
     obtain ⟨b,kk⟩:=p
     rw [hs,h4] at hobj
     obtain ⟨cur',t',fz',f2,q1,q2,q3,q4,q5,q6,q7⟩:=hobj
     refine ⟨cur',t',fz',f2,q1,q2,q3,q4,q5,fun e he=>?_,still_all hst q7 (fun _ h=>h) (fun _ _=>rfl) (fun _ _=>rfl)⟩
     rcases h6 with h6|h6
     ·rw [h6] at he;cases he
     ·exact q6 e (by rw [←h6];exact he)
  ·have:i=0:=by simpa using hi
   subst this;simpa using hr.objs.nodup id hid
  ·have e1:i=0:=by simpa using hi
   have e2:j=0:=by simpa using hj
   omega
  ·have e1:i=0:=by simpa using hi
   subst e1
   obtain ⟨q1,q2,q3⟩:=hr.foot id hid b (by simpa using hb)
   exact ⟨q1,q2,q3⟩
  ·cases ht with
   |ptr a b c r=>rw [h2] at a;cases a;exact .ptr (ob:=⟨cells,0,sz,ty⟩) rfl (Nat.le_refl _) (fun _=>by simpa using c h3.symm) .nil
 obtain ⟨v,S',ι',F',hv,q⟩:=hfin
 cases e with
 |normal=>exact ⟨hr.defers,_,hrun,(),trivial,_,S',ι',F',rfl,hv▸q⟩
 |ret=>exact ⟨hr.defers,_,hrun,(),trivial,_,S',ι',F',rfl,hv▸q⟩
 |_=>cases he
theorem WpL.callN {f:FuncId} {xs:List Operand} {ats:Array TypeId} {As:List AV} {ob:AObj} {O2:List AObj} {pv:List Value} {pa:List AV} {base d:Nat} (hc:FnP P f As [] pv pa [] [ob] (.ptr 0 0 0)) (hp:Pin G pv pa) (hh:HandM O [] [] (xs.map (av T)) As) (hN:Out [ob]) (hb:cnt O.length 0=some base) (hO2:newF [] [] 0 O [ob]=some O2) (hn:d<n)
 (h:WpL P n m G false ops l ⟨(d,.ptr base 0 0)::T,O2⟩ Q):
 WpL P n m G false ops ({dst:=some d,op:=.call {callee:=.value (.func f),args:=xs.toArray,argTypes:=ats},type:=tt,pos:=pos,after:=after,guard:=none}::l) ⟨T,O⟩ Q:=by
 refine WpL.opX (β:=Unit) (C:=fun _=>True) (σX:=fun _=>⟨(d,.ptr base 0 0)::T,O2⟩) rfl (fun a w hr=>?_) (fun _ _=>h)
 have e2:=cnt_eq hb;rw [Nat.add_zero] at e2;subst e2
 have hcl:=callXm_rel hc hp hh .nil (by simp) (fun _=>rfl) (fun _ j x y hx hy=>by simp at hx) (fun _=>.nil) (fun _=>hN) (rX':=fun _=>.ptr O.length 0 0) (fun _=>by have:=Moves.ptr (k:=0) (base:=O.length) (id:=0) (ep:=0) (off:=0) (Nat.le_refl 0);rw [Nat.sub_zero,Nat.zero_add] at this;exact this) hr
 obtain ⟨⟨fn,hf,hbd,hnm⟩,_⟩:=hc
 have hex:(execOp a.eval {dst:=some d,op:=.call {callee:=.value (.func f),args:=xs.toArray,argTypes:=ats},type:=tt,pos:=pos,after:=after,guard:=none}).run P w=.ok (.enter f (xs.map a.eval).toArray) w:=by
  simp only [execOp,resolve,Act.eval,Deferred.ofValue,invoke,callFunc,Sem.run_bind,Sem.run_pure,Result.andThen_ok,program,Sem.run,hf,hnm,hbd,Bool.false_eq_true,if_false]
  simp
 unfold Oper.wp
 rw [hex]
 refine hcl.mono fun e' w' ⟨y,hy,v',he,S,ι,F,hr',hv⟩=>?_
 subst he
 rw [newF_eq hO2] at hr' hv
 exact ⟨y,hy,S,ι,F,hr'.put hn hv⟩
theorem FnC.of_pin {f:FuncId} {A:AV} {args:List AV} {N:List AObj} {r:AV} (h:∀v,FnP P f (.sc v::args) [] [v] [A] [] N r):FnC P f (A::args) N r:=by
 refine ⟨(h undef).1,fun w S vs hS hl=>?_⟩
 obtain ⟨v,vs',f1,f2,e,hv,hr,hf⟩:=hl.uncons
 obtain ⟨rfl,rfl⟩:f1=[]∧f2=[]:=by simpa using hf
 subst e
 refine ((h v).2 w S (fun _=>none) (fun _=>[]) (v::vs') hS ⟨fun id ob h=>by simp at h,fun id h=>by simp at h,fun i j h=>by simp at h⟩ (fun id h=>by simp at h) (.sc hr) (by simpa using LRel.cons hv .nil)).mono fun e w' ⟨y,_,v2,S',ι',F',h1,h2,h3,h4,h5,h6,h7,h8,h9⟩=>?_
 refine ⟨v2,S',ι',F',h1,h2,h3,h4,by simpa using h6,fun id hid b hb=>?_,by simpa using h8,?_⟩
 ·obtain ⟨q1,q2,q3⟩:=h7 id (by simpa using hid) b hb
  refine ⟨?_,q2,q3⟩
  rcases q1 with ⟨i,hi,_⟩|q1
  ·simp at hi
  ·exact q1
 ·have:(fun b=>∃i,i<([]:List AObj).length∧b∈((fun _=>[]):Nat→List Nat) i)=fun _=>False:=by
   funext b;simp
  rw [this] at h9;exact h9
end
end Go.Abs


namespace Go.Proofs.YtndflfipaddfoaaGreat
open Go Go.Abs
attribute [local irreducible] WpA WpL Rnd Blk Abs.Seq Abs.Fin Abs.FinG FnC FnG FnX FnP FinX Only
attribute [local irreducible] belowD onceD pickD modeD l8D l8AnyD optD
def seedS (k x:Int):Int:=IntKind.i64.wrap ((BitVec.ofInt IntKind.i64.bits (IntKind.i64.wrap (IntKind.i64.wrap (k*131+IntKind.i64.wrap x)+7)) &&& BitVec.ofInt IntKind.i64.bits 1073741823).toNat:Nat)
def seedD (l:List Int) (i:Nat):Int:=(l.take i).foldl seedS (10101+l.length)
theorem and30 (y:Int):0≤IntKind.i64.wrap ((BitVec.ofInt IntKind.i64.bits y &&& BitVec.ofInt IntKind.i64.bits 1073741823).toNat:Nat)∧IntKind.i64.wrap ((BitVec.ofInt IntKind.i64.bits y &&& BitVec.ofInt IntKind.i64.bits 1073741823).toNat:Nat)≤1073741823:=by
 have h:(BitVec.ofInt IntKind.i64.bits y &&& BitVec.ofInt IntKind.i64.bits 1073741823).toNat≤1073741823:=by
  rw [BitVec.toNat_and]
  exact Nat.le_trans Nat.and_le_right (by decide)
 rw [IntWalk.i64_in _ (by omega)]
 omega
theorem seedD_succ {l:List Int} {i:Nat} (h:i<l.length):seedD l (i+1)=seedS (seedD l i) (l.getD i 0):=by
 unfold seedD;rw [List.take_succ_eq_append_getElem h,List.foldl_append];simp [h]
theorem seedD_bd {l:List Int} (hl:l.length≤1048576):∀i,0≤seedD l i∧seedD l i≤1073741823
 |0=>by simp [seedD];omega
 |i+1=>by
  by_cases h:i<l.length
  ·rw [seedD_succ h];exact and30 _
  ·have e:seedD l (i+1)=seedD l i:=by unfold seedD;rw [List.take_of_length_le (by omega),List.take_of_length_le (by omega)]
   rw [e];exact seedD_bd hl i
abbrev newD (l:List Int):Cr:=(0,seedD l (min l.length 4000))
theorem pin_slice {G:Ctx} {v:Value} {l:List Int} (hp:Pin G [v] [CodA l]):∃p q r,v=.slice p q r:=by
 obtain ⟨a,c,e⟩:=(LRel.slice_len hp.rel).2.1 _ _ _ rfl
 exact ⟨_,_,_,e⟩
section
attribute [local irreducible] IntKind.wrap
theorem l1New_p (v:Value) (l:List Int) (hl:l.length≤1048576):FnP Tryz.prog 73 [.sc v] [] [v] [CodA l] [] [CurO v (newD l)] (.ptr 0 0 0):=by
 refine FnP.of_new (t:=2) tabOk Tryz.func73 Tryz.ntmps73 rfl (by decide +kernel) (by simp) rfl rfl rfl fun G hp=>?_
 refine go (r:=?_);and_intros<;>intros<;>try exact True.intro
 refine WpL.pin (d:=5) hp rfl ?_
 refine go (r:=?_);and_intros<;>intros<;>try exact True.intro
 refine WpA.loop (fun i:Nat=>⟨[(0,.sc v),(3,I (seedD l i)),(4,I i)],[]⟩) (fun i=>i≤min l.length 4000) (fun i=>min l.length 4000-i) 0 (Nat.zero_le _) (go (r:=?_)) (fun i hi=>?_)
 ·exact trivial
 ·have hb:=seedD_bd hl i
  have hs:=fun h=>seedD_succ (l:=l) (i:=i) h
  unfold seedS at hs
  refine go (r:=?_);and_intros<;>intros<;>try exact True.intro
  refine WpL.pin (d:=9) hp rfl ?_
  refine go (r:=?_);and_intros<;>intros<;>try exact True.intro
  ·refine WpL.pin (d:=20) hp rfl ?_
   have hs:=hs (by omega)
   refine go (r:=?_);and_intros<;>intros<;>try exact True.intro
   all_goals first|exact hs.symm
  all_goals obtain ⟨p,q,r,rfl⟩:=pin_slice hp
  ·have e:i=min l.length 4000:=by omega
   subst e
   refine go (r:=?_);and_intros<;>intros<;>try exact True.intro
   exact ⟨_,_,_,rfl,rfl,rfl,rfl,rfl,.inl rfl⟩
  ·have e:i=min l.length 4000:=by omega
   subst e
   refine go (r:=?_);and_intros<;>intros<;>try exact True.intro
   exact ⟨_,_,_,rfl,rfl,rfl,rfl,rfl,.inl rfl⟩
end
def anyD (l:List Int) (c:Cr):Cr×Op6:=
 let o:=optD l c
 let s:=belowD l o.1 14
 if s.2=0 then
  let p:=pickD l s.1 [-1,52]
  (p.1,{o.2 with q:=p.2})
 else if s.2=1 then
  let y:=l8AnyD l s.1
  (y.1,{o.2 with lens:=y.2})
 else (s.1,o.2)
end Go.Proofs.YtndflfipaddfoaaGreat


namespace Go.Proofs.YtndflfipaddfoaaGreat
open Go Go.Abs
attribute [local irreducible] WpA WpL Rnd Blk Abs.Seq Abs.Fin Abs.FinG FnC FnG FnX FnP FinX Only
attribute [local irreducible] belowD onceD pickD modeD l8D l8AnyD optD anyD seedD
theorem newD_ok {l:List Int} (hl:l.length≤1048576):CrOk l (newD l):=⟨hl,Int.le_refl 0,by show (0:Int)≤_;omega⟩
end Go.Proofs.YtndflfipaddfoaaGreat


namespace Go.Proofs.YtndflfipaddfoaaGreat
open Go Go.Abs
end Go.Proofs.YtndflfipaddfoaaGreat


namespace Go.Proofs.YtndflfipaddfoaaGreat
open Go Go.Abs
attribute [local irreducible] belowD onceD pickD modeD l8D l8AnyD optD anyD seedD
structure Hd6 where
 w:Int
 h:Int
 q:Int
 b:Bool
 d:Bool
 lens:List Int
abbrev quant6:List Int:=[0,6,12,20,36,51]
def headD (l:List Int) (c:Cr):Cr×Hd6:=
 let w:=belowD l c 2
 let h:=belowD l w.1 2
 let q:=pickD l h.1 quant6
 let b:=onceD l q.1 4
 let d:=onceD l b.1 2
 let e:=l8D l d.1
 (e.1,⟨8*(1+w.2),8*(1+h.2),q.2,b.2,d.2,e.2⟩)
theorem headD_ok {l:List Int} {c:Cr} (h:CrOk l c):CrOk l (headD l c).1∧(headD l c).2.lens.length=6∧SidesOk (headD l c).2.w (headD l c).2.h:=by
 have h1:=belowD_ok 2 h
 have h2:=belowD_ok 2 h1.1
 have h3:=pickD_ok (xs:=quant6) h2.1 (by decide)
 have h4:=onceD_ok 4 h3.1
 have h5:=onceD_ok 2 h4
 have h6:=l8D_ok h5
 have a1:=h1.2.1
 have a2:=h1.2.2.1 (by decide)
 have a3:=h2.2.1
 have a4:=h2.2.2.1 (by decide)
 refine ⟨h6.1,h6.2,?_⟩
 show SidesOk (8*(1+(belowD l c 2).2)) (8*(1+(belowD l (belowD l c 2).1 2).2))
 refine ⟨?_,?_,?_,?_,?_,?_⟩<;>omega
def headAnyD (l:List Int) (c:Cr):Cr×Hd6:=
 let x:=headD l c
 let s:=belowD l x.1 12
 if s.2=0 then
  let p:=pickD l s.1 [0,40,12,32]
  (p.1,{x.2 with w:=p.2})
 else if s.2=1 then
  let p:=pickD l s.1 [-1,52,51]
  (p.1,{x.2 with q:=p.2})
 else if s.2=2 then
  let y:=l8AnyD l s.1
  (y.1,{x.2 with lens:=y.2})
 else (s.1,x.2)
theorem headAnyD_0 {l:List Int} {c:Cr} (h:(belowD l (headD l c).1 12).2=0):headAnyD l c=((pickD l (belowD l (headD l c).1 12).1 [0,40,12,32]).1,{(headD l c).2 with w:=(pickD l (belowD l (headD l c).1 12).1 [0,40,12,32]).2}):=by
 unfold headAnyD;simp only;rw [if_pos h]
theorem headAnyD_1 {l:List Int} {c:Cr} (h:(belowD l (headD l c).1 12).2=1):headAnyD l c=((pickD l (belowD l (headD l c).1 12).1 [-1,52,51]).1,{(headD l c).2 with q:=(pickD l (belowD l (headD l c).1 12).1 [-1,52,51]).2}):=by
 unfold headAnyD;simp only;rw [if_neg (by omega),if_pos h]
theorem headAnyD_2 {l:List Int} {c:Cr} (h:(belowD l (headD l c).1 12).2=2):headAnyD l c=((l8AnyD l (belowD l (headD l c).1 12).1).1,{(headD l c).2 with lens:=(l8AnyD l (belowD l (headD l c).1 12).1).2}):=by
 unfold headAnyD;simp only;rw [if_neg (by omega),if_neg (by omega),if_pos h]
theorem headAnyD_3 {l:List Int} {c:Cr} (h:(belowD l (headD l c).1 12).2≠0) (h1:(belowD l (headD l c).1 12).2≠1) (h2:(belowD l (headD l c).1 12).2≠2):headAnyD l c=((belowD l (headD l c).1 12).1,(headD l c).2):=by
 unfold headAnyD;simp only;rw [if_neg h,if_neg h1,if_neg h2]
theorem headAnyD_ok {l:List Int} {c:Cr} (h:CrOk l c):CrOk l (headAnyD l c).1∧(headAnyD l c).2.lens.length≤6:=by
 have ho:=headD_ok h
 have hs:=belowD_ok 12 ho.1
 by_cases h0:(belowD l (headD l c).1 12).2=0
 ·rw [headAnyD_0 h0];exact ⟨(pickD_ok hs.1 (by decide)).1,Nat.le_of_eq ho.2.1⟩
 ·by_cases h1:(belowD l (headD l c).1 12).2=1
  ·rw [headAnyD_1 h1];exact ⟨(pickD_ok hs.1 (by decide)).1,Nat.le_of_eq ho.2.1⟩
  ·by_cases h2:(belowD l (headD l c).1 12).2=2
   ·rw [headAnyD_2 h2];exact ⟨(l8AnyD_ok hs.1).1,(l8AnyD_ok hs.1).2⟩
   ·rw [headAnyD_3 h0 h1 h2];exact ⟨hs.1,Nat.le_of_eq ho.2.1⟩
end Go.Proofs.YtndflfipaddfoaaGreat


namespace Go.Proofs.YtndflfipaddfoaaGreat
open Go Go.Abs
attribute [local irreducible] belowD onceD pickD modeD l8D l8AnyD optD anyD seedD headD headAnyD
def bmA (l lens:List Int):Nat→Bool→Cr×Int→Cr×Int
 |0,_,s=>s
 |n+1,f,s=>if f=true∨¬HasC lens s.2 then bmA l lens n false (belowD l s.1 6) else s
def bmB (lens:List Int):Nat→Int→Int
 |0,m=>m
 |n+1,m=>if ¬HasC lens m then bmB lens n (m+1) else m
def bmC (lens:List Int) (m:Int):Int:=if HasC lens m then m else 1
theorem bmA_ok {l lens:List Int}:∀(n:Nat) (f:Bool) {s:Cr×Int},CrOk l s.1→0≤s.2∧s.2≤5→CrOk l (bmA l lens n f s).1∧0≤(bmA l lens n f s).2∧(bmA l lens n f s).2≤5
 |0,_,s,h,hb=>⟨h,hb⟩
 |n+1,f,s,h,hb=>by
  rw [bmA];split
  ·have h1:=belowD_ok 6 h
   have h2:=h1.2.1
   have h3:=h1.2.2.1 (by decide)
   exact bmA_ok n false h1.1 ⟨h2,by omega⟩
  ·exact ⟨h,hb⟩
theorem bmA_go {l lens:List Int} {n:Nat} {f:Bool} {s:Cr×Int} (h:f=true∨¬HasC lens s.2):bmA l lens (n+1) f s=bmA l lens n false (belowD l s.1 6):=by rw [bmA,if_pos h]
theorem bmA_stop {l lens:List Int} {n:Nat} {s:Cr×Int} (h:HasC lens s.2):bmA l lens n false s=s:=by
 cases n with
 |zero=>rfl
 |succ n=>rw [bmA,if_neg];rintro (h1|h1);cases h1;exact h1 h
theorem bmB_go {lens:List Int} {m:Int} (hm:m<6) (h:¬HasC lens m):bmB lens (6-m).toNat m=bmB lens (6-(m+1)).toNat (m+1):=by
 rw [show (6-m).toNat=(6-(m+1)).toNat+1 by omega,bmB,if_pos h]
theorem bmB_stop {lens:List Int} {m:Int} (h:HasC lens m∨¬m<6):bmB lens (6-m).toNat m=m:=by
 by_cases hm:m<6
 ·rw [show (6-m).toNat=(6-(m+1)).toNat+1 by omega,bmB,if_neg]
  rcases h with h|h
  ·exact fun h1=>h1 h
  ·exact absurd hm h
 ·rw [show (6-m).toNat=0 by omega];rfl
def blkM (l lens:List Int) (c:Cr):Cr×Int:=((bmA l lens 8 true (c,0)).1,bmC lens (bmB lens (6-(bmA l lens 8 true (c,0)).2).toNat (bmA l lens 8 true (c,0)).2))
theorem blkM_ok {l lens:List Int} {c:Cr} (h:CrOk l c):CrOk l (blkM l lens c).1:=(bmA_ok 8 true (s:=(c,0)) h ⟨Int.le_refl 0,by show (0:Int)≤5;omega⟩).1
abbrev ixs (n:Int) (x:Int):List Int:=[0,0,1,2,n*n-1,x]
abbrev lvs (x:Int):List Int:=[1,-1,3,-20,90,x-200]
def dvS (l:List Int) (n:Int) (s:Cr×List Int):Cr×List Int:=
 ((pickD l (belowD l (pickD l (belowD l s.1 (n*n)).1 (ixs n (belowD l s.1 (n*n)).2)).1 400).1 (lvs (belowD l (pickD l (belowD l s.1 (n*n)).1 (ixs n (belowD l s.1 (n*n)).2)).1 400).2)).1,
  s.2.set (pickD l (belowD l s.1 (n*n)).1 (ixs n (belowD l s.1 (n*n)).2)).2.toNat (pickD l (belowD l (pickD l (belowD l s.1 (n*n)).1 (ixs n (belowD l s.1 (n*n)).2)).1 400).1 (lvs (belowD l (pickD l (belowD l s.1 (n*n)).1 (ixs n (belowD l s.1 (n*n)).2)).1 400).2)).2)
def dvK (l:List Int) (n:Int):Nat→Cr×List Int→Cr×List Int
 |0,s=>s
 |k+1,s=>dvK l n k (dvS l n s)
structure LvSt (l:List Int) (n:Int) (s:Cr×List Int) where
 b:Cr×Int
 i:Cr×Int
 q:Cr×Int
 v:Cr×Int
 hb:b=belowD l s.1 (n*n)
 hi:i=pickD l b.1 (ixs n b.2)
 hq:q=belowD l i.1 400
 hv:v=pickD l q.1 (lvs q.2)
theorem dvS_facts {l:List Int} {n:Int} {s:Cr×List Int} (hn:n=4∨n=8) (h:CrOk l s.1):CrOk l (belowD l s.1 (n*n)).1∧CrOk l (pickD l (belowD l s.1 (n*n)).1 (ixs n (belowD l s.1 (n*n)).2)).1∧
 (0≤(pickD l (belowD l s.1 (n*n)).1 (ixs n (belowD l s.1 (n*n)).2)).2∧(pickD l (belowD l s.1 (n*n)).1 (ixs n (belowD l s.1 (n*n)).2)).2<n*n)∧
 CrOk l (belowD l (pickD l (belowD l s.1 (n*n)).1 (ixs n (belowD l s.1 (n*n)).2)).1 400).1∧CrOk l (dvS l n s).1∧(dvS l n s).2.length=s.2.length:=by
 have hnn:n*n=16∨n*n=64:=by rcases hn with rfl|rfl<;>decide
 have h1:=belowD_ok (n*n) h
 have h2:=pickD_ok (xs:=ixs n (belowD l s.1 (n*n)).2) h1.1 (by simp)
 have h3:=belowD_ok 400 h2.1
 have h4:=pickD_ok (xs:=lvs (belowD l (pickD l (belowD l s.1 (n*n)).1 (ixs n (belowD l s.1 (n*n)).2)).1 400).2) h3.1 (by simp)
 have a:=h1.2.1
 have b:=h1.2.2.1 (by omega)
 have e:=h2.2
 simp only [List.mem_cons,List.not_mem_nil,or_false] at e
 exact ⟨h1.1,h2.1,by omega,h3.1,h4.1,by unfold dvS;rw [List.length_set]⟩
theorem dvK_ok {l:List Int} {n:Int} (hn:n=4∨n=8):∀(k:Nat) {s:Cr×List Int},CrOk l s.1→CrOk l (dvK l n k s).1∧(dvK l n k s).2.length=s.2.length
 |0,s,h=>⟨h,rfl⟩
 |k+1,s,h=>by
  have h1:=dvS_facts hn h
  have h2:=dvK_ok hn k h1.2.2.2.2.1
  exact ⟨h2.1,by rw [dvK,h2.2,h1.2.2.2.2.2]⟩
def blkD (l lens:List Int) (n:Int) (c:Cr):Cr×Blok:=
 ((dvK l n (belowD l (blkM l lens c).1 5).2.toNat ((belowD l (blkM l lens c).1 5).1,List.replicate (n*n).toNat 0)).1,
  ((blkM l lens c).2,(dvK l n (belowD l (blkM l lens c).1 5).2.toNat ((belowD l (blkM l lens c).1 5).1,List.replicate (n*n).toNat 0)).2))
theorem blkD_ok {l lens:List Int} {n:Int} {c:Cr} (hn:n=4∨n=8) (h:CrOk l c):CrOk l (blkD l lens n c).1∧((blkD l lens n c).2.2.length:Int)=n*n:=by
 have h1:=belowD_ok 5 (blkM_ok (lens:=lens) h)
 have h2:=dvK_ok hn (belowD l (blkM l lens c).1 5).2.toNat (s:=((belowD l (blkM l lens c).1 5).1,List.replicate (n*n).toNat 0)) h1.1
 refine ⟨h2.1,?_⟩
 unfold blkD
 simp only
 rw [h2.2,List.length_replicate]
 rcases hn with rfl|rfl<;>decide
def mbsK (l lens:List Int) (n:Int):Nat→Cr×List Blok→Cr×List Blok
 |0,s=>s
 |k+1,s=>mbsK l lens n k ((blkD l lens n s.1).1,s.2++[(blkD l lens n s.1).2])
def SqB (n:Int) (bs:List Blok):Prop:=∀b∈bs,(b.2.length:Int)=n*n
theorem mbsK_ok {l lens:List Int} {n:Int} (hn:n=4∨n=8):∀(k:Nat) {s:Cr×List Blok},CrOk l s.1→SqB n s.2→CrOk l (mbsK l lens n k s).1∧(mbsK l lens n k s).2.length=s.2.length+k∧SqB n (mbsK l lens n k s).2
 |0,s,h,hb=>⟨h,rfl,hb⟩
 |k+1,s,h,hb=>by
  have h1:=blkD_ok (lens:=lens) hn h
  have h2:=mbsK_ok (lens:=lens) hn k (s:=((blkD l lens n s.1).1,s.2++[(blkD l lens n s.1).2])) h1.1 (by
   intro b hb2
   rcases List.mem_append.1 hb2 with hb2|hb2
   ·exact hb b hb2
   ·rw [List.mem_singleton.1 hb2];exact h1.2)
  exact ⟨h2.1,by rw [mbsK,h2.2.1];simp;omega,h2.2.2⟩
def mbD (l lens:List Int) (c:Cr):Cr×Mbk:=
 ((mbsK l lens (sz8 (onceD l c 3).2) (nm8 (onceD l c 3).2).toNat ((onceD l c 3).1,[])).1,((onceD l c 3).2,(mbsK l lens (sz8 (onceD l c 3).2) (nm8 (onceD l c 3).2).toNat ((onceD l c 3).1,[])).2))
theorem sz8_48 (e:Bool):sz8 e=4∨sz8 e=8:=by cases e<;>simp [sz8]
theorem mbD_ok {l lens:List Int} {c:Cr} (h:CrOk l c):CrOk l (mbD l lens c).1∧((mbD l lens c).2.2.length:Int)=nm8 (mbD l lens c).2.1∧SqB (sz8 (mbD l lens c).2.1) (mbD l lens c).2.2:=by
 have h1:=onceD_ok 3 h
 have h2:=mbsK_ok (lens:=lens) (sz8_48 (onceD l c 3).2) (nm8 (onceD l c 3).2).toNat (s:=((onceD l c 3).1,[])) h1 (fun b hb=>by cases hb)
 refine ⟨h2.1,?_,h2.2.2⟩
 have:=h2.2.1
 simp only [List.length_nil,Nat.zero_add] at this
 show ((mbsK l lens _ _ _).2.length:Int)=nm8 (onceD l c 3).2
 rw [this]
 cases (onceD l c 3).2<;>decide
theorem sq_small {e:Bool} {bs:List Blok} (h:SqB (sz8 e) bs):∀b∈bs,b.2.length≤64:=fun b hb=>by
 have:=h b hb
 rcases sz8_48 e with e2|e2<;>rw [e2] at this<;>omega
def strK (l lens:List Int):Nat→Cr×List Mbk→Cr×List Mbk
 |0,s=>s
 |k+1,s=>strK l lens k ((mbD l lens s.1).1,s.2++[(mbD l lens s.1).2])
def MbG (m:Mbk):Prop:=m.2.length≤4∧∀b∈m.2,b.2.length≤64
theorem mbD_g {l lens:List Int} {c:Cr} (h:CrOk l c):MbG (mbD l lens c).2:=by
 have h1:=mbD_ok (lens:=lens) h
 refine ⟨?_,sq_small h1.2.2⟩
 have:=h1.2.1
 cases hx:(mbD l lens c).2.1<;>rw [hx] at this<;>simp [nm8] at this<;>omega
theorem strK_ok {l lens:List Int}:∀(k:Nat) {s:Cr×List Mbk},CrOk l s.1→(∀ m∈s.2,MbG m)→CrOk l (strK l lens k s).1∧(strK l lens k s).2.length=s.2.length+k∧∀m∈(strK l lens k s).2,MbG m
 |0,s,h,hb=>⟨h,rfl,hb⟩
 |k+1,s,h,hb=>by
  have h1:=mbD_ok (lens:=lens) h
  have h2:=strK_ok (lens:=lens) k (s:=((mbD l lens s.1).1,s.2++[(mbD l lens s.1).2])) h1.1 (by
   intro b hb2
   rcases List.mem_append.1 hb2 with hb2|hb2
   ·exact hb b hb2
   ·rw [List.mem_singleton.1 hb2];exact mbD_g h)
  exact ⟨h2.1,by rw [strK,h2.2.1];simp;omega,h2.2.2⟩
structure Str8 where
 hd:Hd6
 ms:List Mbk
def strD (l:List Int) (c:Cr):Cr×Str8:=
 ((strK l (headD l c).2.lens (cntM (headD l c).2.w (headD l c).2.h).toNat ((headD l c).1,[])).1,⟨(headD l c).2,(strK l (headD l c).2.lens (cntM (headD l c).2.w (headD l c).2.h).toNat ((headD l c).1,[])).2⟩)
theorem strD_ok {l:List Int} {c:Cr} (h:CrOk l c):CrOk l (strD l c).1∧(strD l c).2.hd.lens.length=6∧SidesOk (strD l c).2.hd.w (strD l c).2.hd.h∧((strD l c).2.ms.length:Int)=cntM (strD l c).2.hd.w (strD l c).2.hd.h∧∀m∈(strD l c).2.ms,MbG m:=by
 have h1:=headD_ok h
 have h2:=strK_ok (lens:=(headD l c).2.lens) (cntM (headD l c).2.w (headD l c).2.h).toNat (s:=((headD l c).1,[])) h1.1 (fun m hm=>by cases hm)
 have h3:=cntM_bd h1.2.2
 refine ⟨h2.1,h1.2.1,h1.2.2,?_,h2.2.2⟩
 have:=h2.2.1
 simp only [List.length_nil,Nat.zero_add] at this
 show ((strK l _ _ _).2.length:Int)=cntM (headD l c).2.w (headD l c).2.h
 rw [this];omega
end Go.Proofs.YtndflfipaddfoaaGreat
