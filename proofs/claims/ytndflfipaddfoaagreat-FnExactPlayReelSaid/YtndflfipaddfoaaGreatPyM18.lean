/- Proved in this text: lemmas and contracts of functions that the claim uses (parts: DecS, BldO, DecO, FasL, Fas, Fas2, Fas3, Fas4, FpdL, Fpd, Put, PutM, FrS, AbsPc, AbsCc, PlO, PlyX, Bridge, Read, Read2). No condition. -/
import Derived.Test.YtndflfipaddfoaaGreatPyM14
import Derived.Test.YtndflfipaddfoaaGreatPyM16
import Derived.Test.YtndflfipaddfoaaGreatPyM17
import Derived.Test.YtndflfipaddfoaaGreatPyM12
import Derived.Test.YtndflfipaddfoaaGreatPyM11
import Derived.Test.YtndflfipaddfoaaGreatPyM13
import Derived.Test.YtndflfipaddfoaaGreatPyM5
import Derived.Test.YtndflfipaddfoaaGreatPyM2
import Derived.Below
import Derived.ChangeArms
import Derived.Test.YtndflfipaddfoaaGreatPyM3
set_option linter.unusedVariables false
set_option linter.unusedSimpArgs false
set_option maxRecDepth 100000
set_option maxHeartbeats 16000000


namespace Go.Proofs.YtndflfipaddfoaaGreat
open Go Go.Abs
attribute [local irreducible] WpA WpL Rnd Blk Abs.Seq Abs.Fin Abs.FinG FnC FnG Only
section
attribute [-instance] Parse_s FrameNew_s PutRef_s DeblockRef_s
attribute [local irreducible] prS bldB bldM putL dbL unL unOk
theorem BuildRef_sz (w h q:Int) (b d:Bool) (L:List Int) (M:List Mbk) (hok:StOk w h q L M) (hl:L.length≤1099511627776∧SmM 1099511627776 M):Fn 152 [StA w h q b d L M] [] (FrA w h (refL w h q b d M)):=by
 have hsb:=decide_eq_true hok
 have hsd:=hok.1.1
 have hcm:=cntM_bd hsd
 have hM16:M.length≤16:=by have:=hok.2.1;omega
 have hzp:(zerP w h).length≤1024:=by
  unfold zerP
  rw [List.length_replicate]
  have h2:w*h≤32*32:=Int.mul_le_mul hsd.2.1 hsd.2.2.2.1 (by have:=hsd.2.2.1;omega) (by omega)
  omega
 have hsmM:=hl.2
 unfold refL
 refine FnC.of_body tabOk Tryz.func152 Tryz.ntmps152 rfl (by decide +kernel) (by simp) fun G=>?_
 refine goR (r:=?_);and_intros<;>intros<;>try exact True.intro
 all_goals first|contradiction|omega|exact hl.2|skip
 refine K.call ?_
 apply WpL.callI (FrameNew_s.ok w h hsd)
 ·exact snapA
 ·exact locA
 ·exact outA
 ·exact frzA
 ·decide
 refine goR (r:=?_);and_intros<;>intros<;>try exact True.intro
 all_goals first|contradiction|omega|skip
 have hzl:(w*h).toNat=(zerP w h).length:=by simp [zerP]
 rw [show (List.replicate (w*h).toNat (0:Int))=zerP w h from rfl,hzl]
 have hP0:FrameOk w h (zerP w h):=by
  refine ⟨hsd,?_,?_⟩
  ·unfold zerP;rw [List.length_replicate];have h1:8*8≤w*h:=Int.mul_le_mul hsd.1 hsd.2.2.1 (by omega) (by have:=hsd.1;omega);omega
  ·unfold zerP In;intro v hv;rw [List.eq_of_mem_replicate hv];decide
 generalize zerP w h=P0 at*
 refine WpA.loop (fun k:Nat=>⟨[(1,.ptr 0 0 0),(2,.ptr 1 0 0),(3,.ptr 2 0 0),(4,I k)],[⟨[I w,I h,I q,B b,B d,IL L,MbL M],0,0,none⟩,⟨[I 0,I 0,.nilS],0,0,none⟩,FrO w h (bldM w h q b M P0 k)]⟩) (fun k=>k≤M.length) (fun k=>M.length-k) 0 (Nat.zero_le _) (go (r:=?_)) (fun k hk=>?_)
 ·and_intros<;>first|exact True.intro|rfl|(rw [bldM_zero];exact .keep rfl rfl .nil)
 have hbl:=bldM_len w h q b M P0 k
 by_cases hlt:k<M.length
 ·have hmb:=ok_blk hok hlt
  have hsc:=bldM_succ w h q b M P0 k
  have hbl4:(M.getD k default).2.length=manyE (M.getD k default).1:=by have:=hmb.1;revert this;cases (M.getD k default).1<;>simp [nm8,manyE]<;>omega
  have hm4:manyE (M.getD k default).1≤4:=by cases (M.getD k default).1<;>decide
  refine goR (r:=?_);and_intros<;>intros<;>try exact True.intro
  all_goals first|contradiction|omega|skip
  refine WpA.loop (fun i:Nat=>⟨[(1,.ptr 0 0 0),(2,.ptr 1 0 0),(3,.ptr 2 0 0),(4,I k),(5,I i)],[⟨[I w,I h,I q,B b,B d,IL L,MbL M],0,0,none⟩,⟨[I 0,I 0,.nilS],0,0,none⟩,FrO w h (bldB w h q b (sz8 (M.getD k default).1) k (M.getD k default).2 (bldM w h q b M P0 k) i)]⟩) (fun i=>i≤(M.getD k default).2.length) (fun i=>(M.getD k default).2.length-i) 0 (Nat.zero_le _) (go (r:=?_)) (fun i hi=>?_)
  ·and_intros<;>first|exact True.intro|rfl|(rw [bldB_zero];exact .keep rfl rfl .nil)
  have hil:=bldB_len w h q b (sz8 (M.getD k default).1) k (M.getD k default).2 (bldM w h q b M P0 k) i
  by_cases hlt2:i<(M.getD k default).2.length
  ·have hbo:=ok_lv hmb (k:=i) (by omega)
   have hbn:=hbo.2.2.1
   have hsu:=bldB_succ w h q b (sz8 (M.getD k default).1) k (M.getD k default).2 (bldM w h q b M P0 k) i
   have hlv:((M.getD k default).2.getD i default).2.length≤64:=by revert hbn;cases (M.getD k default).1<;>simp [sz8]<;>omega
   generalize hPk:bldM w h q b M P0 k=Pk at*
   generalize hPi:bldB w h q b (sz8 (M.getD k default).1) k (M.getD k default).2 Pk i=Pi at*
   have hpu:=putL_len w h Pi q b (plc1 w (sz8 (M.getD k default).1) k i).1 (plc1 w (sz8 (M.getD k default).1) k i).2.1 ((M.getD k default).2.getD i default).1 ((M.getD k default).2.getD i default).2
   refine goR (r:=?_);and_intros<;>intros<;>try exact True.intro
   all_goals first|contradiction|omega|skip
   have hsp:(8≤w∧w≤1024∧k≤1048576)∧i<manyE (M.getD k default).1:=⟨by omega,by omega⟩
   try dsimp only [List.append,List.cons_append,List.nil_append]
   apply WpA.regionMG 16 mixed (by decide +kernel)
   ·exact rfl
   ·exact headG
   ·exact trueA
   ·exact trueA
   ·exact rfl
   ·exact rfl
   refine goR (r:=?_);and_intros<;>intros<;>try exact True.intro
   all_goals first|contradiction|omega|skip
   try dsimp only [List.append,List.cons_append,List.nil_append]
   apply WpA.regionGB 19 mixed (by decide +kernel)
   ·exact rfl
   ·first
     |(apply HeadG.preF 0 rfl rfl rfl
       ·exact rfl
       ·exact in0
       ·exact rfl)
     |(apply HeadG.hole0 rfl rfl rfl
       ·exact rfl
       ·exact in0
       ·exact rfl)
     |(apply HeadG.hole1 rfl rfl rfl
       ·exact rfl
       ·exact in0
       ·exact rfl)
     |(apply HeadG.hole2 rfl rfl rfl
       ·exact rfl
       ·exact in0
       ·exact rfl)
     |(apply HeadG.hole3 rfl rfl rfl
       ·exact rfl
       ·exact in0
       ·exact rfl)
     |(apply HeadG.hole4 rfl rfl rfl
       ·exact rfl
       ·exact in0
       ·exact rfl)
     |(apply HeadG.hole5 rfl rfl rfl
       ·exact rfl
       ·exact in0
       ·exact rfl)
     |(apply HeadG.hole6 rfl rfl rfl
       ·exact rfl
       ·exact in0
       ·exact rfl)
     |(apply HeadG.hole7 rfl rfl rfl
       ·exact rfl
       ·exact in0
       ·exact rfl)
     |(apply HeadG.hole8 rfl rfl rfl
       ·exact rfl
       ·exact in0
       ·exact rfl)
     |(apply HeadG.stepF rfl rfl
       ·exact rfl
       ·exact in1
       ·exact rfl)
     |(apply HeadG.stepNF rfl
       ·exact rfl
       ·exact in1
       ·exact rfl)
    first
     |(apply HeadG.preF 0 rfl rfl rfl
       ·exact rfl
       ·exact in0
       ·exact rfl)
     |(apply HeadG.hole0 rfl rfl rfl
       ·exact rfl
       ·exact in0
       ·exact rfl)
     |(apply HeadG.hole1 rfl rfl rfl
       ·exact rfl
       ·exact in0
       ·exact rfl)
     |(apply HeadG.hole2 rfl rfl rfl
       ·exact rfl
       ·exact in0
       ·exact rfl)
     |(apply HeadG.hole3 rfl rfl rfl
       ·exact rfl
       ·exact in0
       ·exact rfl)
     |(apply HeadG.hole4 rfl rfl rfl
       ·exact rfl
       ·exact in0
       ·exact rfl)
     |(apply HeadG.hole5 rfl rfl rfl
       ·exact rfl
       ·exact in0
       ·exact rfl)
     |(apply HeadG.hole6 rfl rfl rfl
       ·exact rfl
       ·exact in0
       ·exact rfl)
     |(apply HeadG.hole7 rfl rfl rfl
       ·exact rfl
       ·exact in0
       ·exact rfl)
     |(apply HeadG.hole8 rfl rfl rfl
       ·exact rfl
       ·exact in0
       ·exact rfl)
     |(apply HeadG.stepF rfl rfl
       ·exact rfl
       ·exact in1
       ·exact rfl)
     |(apply HeadG.stepNF rfl
       ·exact rfl
       ·exact in1
       ·exact rfl)
    first
     |(apply HeadG.preF 0 rfl rfl rfl
       ·exact rfl
       ·exact in0
       ·exact rfl)
     |(apply HeadG.hole0 rfl rfl rfl
       ·exact rfl
       ·exact in0
       ·exact rfl)
     |(apply HeadG.hole1 rfl rfl rfl
       ·exact rfl
       ·exact in0
       ·exact rfl)
     |(apply HeadG.hole2 rfl rfl rfl
       ·exact rfl
       ·exact in0
       ·exact rfl)
     |(apply HeadG.hole3 rfl rfl rfl
       ·exact rfl
       ·exact in0
       ·exact rfl)
     |(apply HeadG.hole4 rfl rfl rfl
       ·exact rfl
       ·exact in0
       ·exact rfl)
     |(apply HeadG.hole5 rfl rfl rfl
       ·exact rfl
       ·exact in0
       ·exact rfl)
     |(apply HeadG.hole6 rfl rfl rfl
       ·exact rfl
       ·exact in0
       ·exact rfl)
     |(apply HeadG.hole7 rfl rfl rfl
       ·exact rfl
       ·exact in0
       ·exact rfl)
     |(apply HeadG.hole8 rfl rfl rfl
       ·exact rfl
       ·exact in0
       ·exact rfl)
     |(apply HeadG.stepF rfl rfl
       ·exact rfl
       ·exact in1
       ·exact rfl)
     |(apply HeadG.stepNF rfl
       ·exact rfl
       ·exact in1
       ·exact rfl)
    first
     |(apply HeadG.preF 0 rfl rfl rfl
       ·exact rfl
       ·exact in0
       ·exact rfl)
     |(apply HeadG.hole0 rfl rfl rfl
       ·exact rfl
       ·exact in0
       ·exact rfl)
     |(apply HeadG.hole1 rfl rfl rfl
       ·exact rfl
       ·exact in0
       ·exact rfl)
     |(apply HeadG.hole2 rfl rfl rfl
       ·exact rfl
       ·exact in0
       ·exact rfl)
     |(apply HeadG.hole3 rfl rfl rfl
       ·exact rfl
       ·exact in0
       ·exact rfl)
     |(apply HeadG.hole4 rfl rfl rfl
       ·exact rfl
       ·exact in0
       ·exact rfl)
     |(apply HeadG.hole5 rfl rfl rfl
       ·exact rfl
       ·exact in0
       ·exact rfl)
     |(apply HeadG.hole6 rfl rfl rfl
       ·exact rfl
       ·exact in0
       ·exact rfl)
     |(apply HeadG.hole7 rfl rfl rfl
       ·exact rfl
       ·exact in0
       ·exact rfl)
     |(apply HeadG.hole8 rfl rfl rfl
       ·exact rfl
       ·exact in0
       ·exact rfl)
     |(apply HeadG.stepF rfl rfl
       ·exact rfl
       ·exact in1
       ·exact rfl)
     |(apply HeadG.stepNF rfl
       ·exact rfl
       ·exact in1
       ·exact rfl)
    first
     |(apply HeadG.preF 0 rfl rfl rfl
       ·exact rfl
       ·exact in0
       ·exact rfl)
     |(apply HeadG.hole0 rfl rfl rfl
       ·exact rfl
       ·exact in0
       ·exact rfl)
     |(apply HeadG.hole1 rfl rfl rfl
       ·exact rfl
       ·exact in0
       ·exact rfl)
     |(apply HeadG.hole2 rfl rfl rfl
       ·exact rfl
       ·exact in0
       ·exact rfl)
     |(apply HeadG.hole3 rfl rfl rfl
       ·exact rfl
       ·exact in0
       ·exact rfl)
     |(apply HeadG.hole4 rfl rfl rfl
       ·exact rfl
       ·exact in0
       ·exact rfl)
     |(apply HeadG.hole5 rfl rfl rfl
       ·exact rfl
       ·exact in0
       ·exact rfl)
     |(apply HeadG.hole6 rfl rfl rfl
       ·exact rfl
       ·exact in0
       ·exact rfl)
     |(apply HeadG.hole7 rfl rfl rfl
       ·exact rfl
       ·exact in0
       ·exact rfl)
     |(apply HeadG.hole8 rfl rfl rfl
       ·exact rfl
       ·exact in0
       ·exact rfl)
     |(apply HeadG.stepF rfl rfl
       ·exact rfl
       ·exact in1
       ·exact rfl)
     |(apply HeadG.stepNF rfl
       ·exact rfl
       ·exact in1
       ·exact rfl)
    first
     |(apply HeadG.preF 0 rfl rfl rfl
       ·exact rfl
       ·exact in0
       ·exact rfl)
     |(apply HeadG.hole0 rfl rfl rfl
       ·exact rfl
       ·exact in0
       ·exact rfl)
     |(apply HeadG.hole1 rfl rfl rfl
       ·exact rfl
       ·exact in0
       ·exact rfl)
     |(apply HeadG.hole2 rfl rfl rfl
       ·exact rfl
       ·exact in0
       ·exact rfl)
     |(apply HeadG.hole3 rfl rfl rfl
       ·exact rfl
       ·exact in0
       ·exact rfl)
     |(apply HeadG.hole4 rfl rfl rfl
       ·exact rfl
       ·exact in0
       ·exact rfl)
     |(apply HeadG.hole5 rfl rfl rfl
       ·exact rfl
       ·exact in0
       ·exact rfl)
     |(apply HeadG.hole6 rfl rfl rfl
       ·exact rfl
       ·exact in0
       ·exact rfl)
     |(apply HeadG.hole7 rfl rfl rfl
       ·exact rfl
       ·exact in0
       ·exact rfl)
     |(apply HeadG.hole8 rfl rfl rfl
       ·exact rfl
       ·exact in0
       ·exact rfl)
     |(apply HeadG.stepF rfl rfl
       ·exact rfl
       ·exact in1
       ·exact rfl)
     |(apply HeadG.stepNF rfl
       ·exact rfl
       ·exact in1
       ·exact rfl)
    first
     |(apply HeadG.preF 0 rfl rfl rfl
       ·exact rfl
       ·exact in0
       ·exact rfl)
     |(apply HeadG.hole0 rfl rfl rfl
       ·exact rfl
       ·exact in0
       ·exact rfl)
     |(apply HeadG.hole1 rfl rfl rfl
       ·exact rfl
       ·exact in0
       ·exact rfl)
     |(apply HeadG.hole2 rfl rfl rfl
       ·exact rfl
       ·exact in0
       ·exact rfl)
     |(apply HeadG.hole3 rfl rfl rfl
       ·exact rfl
       ·exact in0
       ·exact rfl)
     |(apply HeadG.hole4 rfl rfl rfl
       ·exact rfl
       ·exact in0
       ·exact rfl)
     |(apply HeadG.hole5 rfl rfl rfl
       ·exact rfl
       ·exact in0
       ·exact rfl)
     |(apply HeadG.hole6 rfl rfl rfl
       ·exact rfl
       ·exact in0
       ·exact rfl)
     |(apply HeadG.hole7 rfl rfl rfl
       ·exact rfl
       ·exact in0
       ·exact rfl)
     |(apply HeadG.hole8 rfl rfl rfl
       ·exact rfl
       ·exact in0
       ·exact rfl)
     |(apply HeadG.stepF rfl rfl
       ·exact rfl
       ·exact in1
       ·exact rfl)
     |(apply HeadG.stepNF rfl
       ·exact rfl
       ·exact in1
       ·exact rfl)
    first
     |(apply HeadG.preF 0 rfl rfl rfl
       ·exact rfl
       ·exact in0
       ·exact rfl)
     |(apply HeadG.hole0 rfl rfl rfl
       ·exact rfl
       ·exact in0
       ·exact rfl)
     |(apply HeadG.hole1 rfl rfl rfl
       ·exact rfl
       ·exact in0
       ·exact rfl)
     |(apply HeadG.hole2 rfl rfl rfl
       ·exact rfl
       ·exact in0
       ·exact rfl)
     |(apply HeadG.hole3 rfl rfl rfl
       ·exact rfl
       ·exact in0
       ·exact rfl)
     |(apply HeadG.hole4 rfl rfl rfl
       ·exact rfl
       ·exact in0
       ·exact rfl)
     |(apply HeadG.hole5 rfl rfl rfl
       ·exact rfl
       ·exact in0
       ·exact rfl)
     |(apply HeadG.hole6 rfl rfl rfl
       ·exact rfl
       ·exact in0
       ·exact rfl)
     |(apply HeadG.hole7 rfl rfl rfl
       ·exact rfl
       ·exact in0
       ·exact rfl)
     |(apply HeadG.hole8 rfl rfl rfl
       ·exact rfl
       ·exact in0
       ·exact rfl)
     |(apply HeadG.stepF rfl rfl
       ·exact rfl
       ·exact in1
       ·exact rfl)
     |(apply HeadG.stepNF rfl
       ·exact rfl
       ·exact in1
       ·exact rfl)
    first
     |(apply HeadG.preF 0 rfl rfl rfl
       ·exact rfl
       ·exact in0
       ·exact rfl)
     |(apply HeadG.hole0 rfl rfl rfl
       ·exact rfl
       ·exact in0
       ·exact rfl)
     |(apply HeadG.hole1 rfl rfl rfl
       ·exact rfl
       ·exact in0
       ·exact rfl)
     |(apply HeadG.hole2 rfl rfl rfl
       ·exact rfl
       ·exact in0
       ·exact rfl)
     |(apply HeadG.hole3 rfl rfl rfl
       ·exact rfl
       ·exact in0
       ·exact rfl)
     |(apply HeadG.hole4 rfl rfl rfl
       ·exact rfl
       ·exact in0
       ·exact rfl)
     |(apply HeadG.hole5 rfl rfl rfl
       ·exact rfl
       ·exact in0
       ·exact rfl)
     |(apply HeadG.hole6 rfl rfl rfl
       ·exact rfl
       ·exact in0
       ·exact rfl)
     |(apply HeadG.hole7 rfl rfl rfl
       ·exact rfl
       ·exact in0
       ·exact rfl)
     |(apply HeadG.hole8 rfl rfl rfl
       ·exact rfl
       ·exact in0
       ·exact rfl)
     |(apply HeadG.stepF rfl rfl
       ·exact rfl
       ·exact in1
       ·exact rfl)
     |(apply HeadG.stepNF rfl
       ·exact rfl
       ·exact in1
       ·exact rfl)
    first
     |(apply HeadG.preF 0 rfl rfl rfl
       ·exact rfl
       ·exact in0
       ·exact rfl)
     |(apply HeadG.hole0 rfl rfl rfl
       ·exact rfl
       ·exact in0
       ·exact rfl)
     |(apply HeadG.hole1 rfl rfl rfl
       ·exact rfl
       ·exact in0
       ·exact rfl)
     |(apply HeadG.hole2 rfl rfl rfl
       ·exact rfl
       ·exact in0
       ·exact rfl)
     |(apply HeadG.hole3 rfl rfl rfl
       ·exact rfl
       ·exact in0
       ·exact rfl)
     |(apply HeadG.hole4 rfl rfl rfl
       ·exact rfl
       ·exact in0
       ·exact rfl)
     |(apply HeadG.hole5 rfl rfl rfl
       ·exact rfl
       ·exact in0
       ·exact rfl)
     |(apply HeadG.hole6 rfl rfl rfl
       ·exact rfl
       ·exact in0
       ·exact rfl)
     |(apply HeadG.hole7 rfl rfl rfl
       ·exact rfl
       ·exact in0
       ·exact rfl)
     |(apply HeadG.hole8 rfl rfl rfl
       ·exact rfl
       ·exact in0
       ·exact rfl)
     |(apply HeadG.stepF rfl rfl
       ·exact rfl
       ·exact in1
       ·exact rfl)
     |(apply HeadG.stepNF rfl
       ·exact rfl
       ·exact in1
       ·exact rfl)
    first
     |(apply HeadG.preF 0 rfl rfl rfl
       ·exact rfl
       ·exact in0
       ·exact rfl)
     |(apply HeadG.hole0 rfl rfl rfl
       ·exact rfl
       ·exact in0
       ·exact rfl)
     |(apply HeadG.hole1 rfl rfl rfl
       ·exact rfl
       ·exact in0
       ·exact rfl)
     |(apply HeadG.hole2 rfl rfl rfl
       ·exact rfl
       ·exact in0
       ·exact rfl)
     |(apply HeadG.hole3 rfl rfl rfl
       ·exact rfl
       ·exact in0
       ·exact rfl)
     |(apply HeadG.hole4 rfl rfl rfl
       ·exact rfl
       ·exact in0
       ·exact rfl)
     |(apply HeadG.hole5 rfl rfl rfl
       ·exact rfl
       ·exact in0
       ·exact rfl)
     |(apply HeadG.hole6 rfl rfl rfl
       ·exact rfl
       ·exact in0
       ·exact rfl)
     |(apply HeadG.hole7 rfl rfl rfl
       ·exact rfl
       ·exact in0
       ·exact rfl)
     |(apply HeadG.hole8 rfl rfl rfl
       ·exact rfl
       ·exact in0
       ·exact rfl)
     |(apply HeadG.stepF rfl rfl
       ·exact rfl
       ·exact in1
       ·exact rfl)
     |(apply HeadG.stepNF rfl
       ·exact rfl
       ·exact in1
       ·exact rfl)
    first
     |(apply HeadG.preF 0 rfl rfl rfl
       ·exact rfl
       ·exact in0
       ·exact rfl)
     |(apply HeadG.hole0 rfl rfl rfl
       ·exact rfl
       ·exact in0
       ·exact rfl)
     |(apply HeadG.hole1 rfl rfl rfl
       ·exact rfl
       ·exact in0
       ·exact rfl)
     |(apply HeadG.hole2 rfl rfl rfl
       ·exact rfl
       ·exact in0
       ·exact rfl)
     |(apply HeadG.hole3 rfl rfl rfl
       ·exact rfl
       ·exact in0
       ·exact rfl)
     |(apply HeadG.hole4 rfl rfl rfl
       ·exact rfl
       ·exact in0
       ·exact rfl)
     |(apply HeadG.hole5 rfl rfl rfl
       ·exact rfl
       ·exact in0
       ·exact rfl)
     |(apply HeadG.hole6 rfl rfl rfl
       ·exact rfl
       ·exact in0
       ·exact rfl)
     |(apply HeadG.hole7 rfl rfl rfl
       ·exact rfl
       ·exact in0
       ·exact rfl)
     |(apply HeadG.hole8 rfl rfl rfl
       ·exact rfl
       ·exact in0
       ·exact rfl)
     |(apply HeadG.stepF rfl rfl
       ·exact rfl
       ·exact in1
       ·exact rfl)
     |(apply HeadG.stepNF rfl
       ·exact rfl
       ·exact in1
       ·exact rfl)
    first
     |(apply HeadG.preF 0 rfl rfl rfl
       ·exact rfl
       ·exact in0
       ·exact rfl)
     |(apply HeadG.hole0 rfl rfl rfl
       ·exact rfl
       ·exact in0
       ·exact rfl)
     |(apply HeadG.hole1 rfl rfl rfl
       ·exact rfl
       ·exact in0
       ·exact rfl)
     |(apply HeadG.hole2 rfl rfl rfl
       ·exact rfl
       ·exact in0
       ·exact rfl)
     |(apply HeadG.hole3 rfl rfl rfl
       ·exact rfl
       ·exact in0
       ·exact rfl)
     |(apply HeadG.hole4 rfl rfl rfl
       ·exact rfl
       ·exact in0
       ·exact rfl)
     |(apply HeadG.hole5 rfl rfl rfl
       ·exact rfl
       ·exact in0
       ·exact rfl)
     |(apply HeadG.hole6 rfl rfl rfl
       ·exact rfl
       ·exact in0
       ·exact rfl)
     |(apply HeadG.hole7 rfl rfl rfl
       ·exact rfl
       ·exact in0
       ·exact rfl)
     |(apply HeadG.hole8 rfl rfl rfl
       ·exact rfl
       ·exact in0
       ·exact rfl)
     |(apply HeadG.stepF rfl rfl
       ·exact rfl
       ·exact in1
       ·exact rfl)
     |(apply HeadG.stepNF rfl
       ·exact rfl
       ·exact in1
       ·exact rfl)
    first
     |(apply HeadG.preF 0 rfl rfl rfl
       ·exact rfl
       ·exact in0
       ·exact rfl)
     |(apply HeadG.hole0 rfl rfl rfl
       ·exact rfl
       ·exact in0
       ·exact rfl)
     |(apply HeadG.hole1 rfl rfl rfl
       ·exact rfl
       ·exact in0
       ·exact rfl)
     |(apply HeadG.hole2 rfl rfl rfl
       ·exact rfl
       ·exact in0
       ·exact rfl)
     |(apply HeadG.hole3 rfl rfl rfl
       ·exact rfl
       ·exact in0
       ·exact rfl)
     |(apply HeadG.hole4 rfl rfl rfl
       ·exact rfl
       ·exact in0
       ·exact rfl)
     |(apply HeadG.hole5 rfl rfl rfl
       ·exact rfl
       ·exact in0
       ·exact rfl)
     |(apply HeadG.hole6 rfl rfl rfl
       ·exact rfl
       ·exact in0
       ·exact rfl)
     |(apply HeadG.hole7 rfl rfl rfl
       ·exact rfl
       ·exact in0
       ·exact rfl)
     |(apply HeadG.hole8 rfl rfl rfl
       ·exact rfl
       ·exact in0
       ·exact rfl)
     |(apply HeadG.stepF rfl rfl
       ·exact rfl
       ·exact in1
       ·exact rfl)
     |(apply HeadG.stepNF rfl
       ·exact rfl
       ·exact in1
       ·exact rfl)
    apply HeadG.precF 0 rfl rfl
    ·exact rfl
    ·intro Tv Ov
     refine K.call ?_
     apply WpL.callI (PutRef_s.ok w h Pi w h q b d L (plc1 w (sz8 (M.getD k default).1) k i).1 (plc1 w (sz8 (M.getD k default).1) k i).2.1 ((M.getD k default).2.getD i default).1 ((M.getD k default).2.getD i default).2 ⟨by omega,by omega⟩)
     ·exact snapA
     ·exact locA
     ·exact outA
     ·exact FrzR.tup (.agg (.keep rfl rfl (.keep rfl rfl (.own rfl rfl rfl (by show Pi.length*1=(List.map _ _).length;rw [Nat.mul_one,List.length_map];exact hpu.symm) hpu.symm (Snap.same rfl (still_ints _) (nofre_ints _)) .nil))) (.keep rfl rfl .nil))
     ·decide
     ·exact WpL.nil (Only.mk rfl)
    ·exact rfl
    first
     |(apply HeadG.preF 0 rfl rfl rfl
       ·exact rfl
       ·exact in0
       ·exact rfl)
     |(apply HeadG.hole0 rfl rfl rfl
       ·exact rfl
       ·exact in0
       ·exact rfl)
     |(apply HeadG.hole1 rfl rfl rfl
       ·exact rfl
       ·exact in0
       ·exact rfl)
     |(apply HeadG.hole2 rfl rfl rfl
       ·exact rfl
       ·exact in0
       ·exact rfl)
     |(apply HeadG.hole3 rfl rfl rfl
       ·exact rfl
       ·exact in0
       ·exact rfl)
     |(apply HeadG.hole4 rfl rfl rfl
       ·exact rfl
       ·exact in0
       ·exact rfl)
     |(apply HeadG.hole5 rfl rfl rfl
       ·exact rfl
       ·exact in0
       ·exact rfl)
     |(apply HeadG.hole6 rfl rfl rfl
       ·exact rfl
       ·exact in0
       ·exact rfl)
     |(apply HeadG.hole7 rfl rfl rfl
       ·exact rfl
       ·exact in0
       ·exact rfl)
     |(apply HeadG.hole8 rfl rfl rfl
       ·exact rfl
       ·exact in0
       ·exact rfl)
     |(apply HeadG.stepF rfl rfl
       ·exact rfl
       ·exact in1
       ·exact rfl)
     |(apply HeadG.stepNF rfl
       ·exact rfl
       ·exact in1
       ·exact rfl)
    first
     |(apply HeadG.preF 0 rfl rfl rfl
       ·exact rfl
       ·exact in0
       ·exact rfl)
     |(apply HeadG.hole0 rfl rfl rfl
       ·exact rfl
       ·exact in0
       ·exact rfl)
     |(apply HeadG.hole1 rfl rfl rfl
       ·exact rfl
       ·exact in0
       ·exact rfl)
     |(apply HeadG.hole2 rfl rfl rfl
       ·exact rfl
       ·exact in0
       ·exact rfl)
     |(apply HeadG.hole3 rfl rfl rfl
       ·exact rfl
       ·exact in0
       ·exact rfl)
     |(apply HeadG.hole4 rfl rfl rfl
       ·exact rfl
       ·exact in0
       ·exact rfl)
     |(apply HeadG.hole5 rfl rfl rfl
       ·exact rfl
       ·exact in0
       ·exact rfl)
     |(apply HeadG.hole6 rfl rfl rfl
       ·exact rfl
       ·exact in0
       ·exact rfl)
     |(apply HeadG.hole7 rfl rfl rfl
       ·exact rfl
       ·exact in0
       ·exact rfl)
     |(apply HeadG.hole8 rfl rfl rfl
       ·exact rfl
       ·exact in0
       ·exact rfl)
     |(apply HeadG.stepF rfl rfl
       ·exact rfl
       ·exact in1
       ·exact rfl)
     |(apply HeadG.stepNF rfl
       ·exact rfl
       ·exact in1
       ·exact rfl)
    first
     |(apply HeadG.preF 0 rfl rfl rfl
       ·exact rfl
       ·exact in0
       ·exact rfl)
     |(apply HeadG.hole0 rfl rfl rfl
       ·exact rfl
       ·exact in0
       ·exact rfl)
     |(apply HeadG.hole1 rfl rfl rfl
       ·exact rfl
       ·exact in0
       ·exact rfl)
     |(apply HeadG.hole2 rfl rfl rfl
       ·exact rfl
       ·exact in0
       ·exact rfl)
     |(apply HeadG.hole3 rfl rfl rfl
       ·exact rfl
       ·exact in0
       ·exact rfl)
     |(apply HeadG.hole4 rfl rfl rfl
       ·exact rfl
       ·exact in0
       ·exact rfl)
     |(apply HeadG.hole5 rfl rfl rfl
       ·exact rfl
       ·exact in0
       ·exact rfl)
     |(apply HeadG.hole6 rfl rfl rfl
       ·exact rfl
       ·exact in0
       ·exact rfl)
     |(apply HeadG.hole7 rfl rfl rfl
       ·exact rfl
       ·exact in0
       ·exact rfl)
     |(apply HeadG.hole8 rfl rfl rfl
       ·exact rfl
       ·exact in0
       ·exact rfl)
     |(apply HeadG.stepF rfl rfl
       ·exact rfl
       ·exact in1
       ·exact rfl)
     |(apply HeadG.stepNF rfl
       ·exact rfl
       ·exact in1
       ·exact rfl)
    first
     |(apply HeadG.preF 0 rfl rfl rfl
       ·exact rfl
       ·exact in0
       ·exact rfl)
     |(apply HeadG.hole0 rfl rfl rfl
       ·exact rfl
       ·exact in0
       ·exact rfl)
     |(apply HeadG.hole1 rfl rfl rfl
       ·exact rfl
       ·exact in0
       ·exact rfl)
     |(apply HeadG.hole2 rfl rfl rfl
       ·exact rfl
       ·exact in0
       ·exact rfl)
     |(apply HeadG.hole3 rfl rfl rfl
       ·exact rfl
       ·exact in0
       ·exact rfl)
     |(apply HeadG.hole4 rfl rfl rfl
       ·exact rfl
       ·exact in0
       ·exact rfl)
     |(apply HeadG.hole5 rfl rfl rfl
       ·exact rfl
       ·exact in0
       ·exact rfl)
     |(apply HeadG.hole6 rfl rfl rfl
       ·exact rfl
       ·exact in0
       ·exact rfl)
     |(apply HeadG.hole7 rfl rfl rfl
       ·exact rfl
       ·exact in0
       ·exact rfl)
     |(apply HeadG.hole8 rfl rfl rfl
       ·exact rfl
       ·exact in0
       ·exact rfl)
     |(apply HeadG.stepF rfl rfl
       ·exact rfl
       ·exact in1
       ·exact rfl)
     |(apply HeadG.stepNF rfl
       ·exact rfl
       ·exact in1
       ·exact rfl)
    exact Abs.HeadG.nil
   ·exact trueA
   ·exact trueA
   ·exact trueA
   ·exact demA
   ·exact rfl
   ·exact rfl
   refine goR (r:=?_);and_intros<;>intros<;>try exact True.intro
   all_goals first|contradiction|omega|(rw [hsu];exact .keep rfl rfl .nil)
  ·have ei:i=manyE (M.getD k default).1:=by omega
   rw [←ei] at hsc
   refine goR (r:=?_);and_intros<;>intros<;>try exact True.intro
   all_goals first|contradiction|omega|(rw [hsc];exact .keep rfl rfl .nil)
 ·obtain rfl:k=M.length:=by omega
  have hbo:=bldM_ok (q:=q) (b:=b) (M:=M) hP0 M.length
  generalize hPe:bldM w h q b M P0 M.length=Pe at*
  cases d with
  |true=>
   have hdz:=DeblockRef_s.ok w h Pe q (by omega)
   have hdl:=dbL_len w h q Pe
   rw [show endL w h q true Pe=dbL w h q Pe from rfl]
   generalize dbL w h q Pe=Pd at*
   refine goR (r:=?_);and_intros<;>intros<;>try exact True.intro
   all_goals first|contradiction|omega|skip
   refine K.call ?_
   apply WpL.callI hdz
   ·exact snapA
   ·exact locA
   ·exact outA
   ·exact FrzR.one (.agg (.keep rfl rfl (.keep rfl rfl (.own rfl rfl rfl (by show Pe.length*1=(List.map _ _).length;rw [Nat.mul_one,List.length_map];exact hdl.symm) hdl.symm (Snap.same rfl (still_ints _) (nofre_ints _)) .nil))) .nil)
   ·decide
   refine goR (r:=?_);and_intros<;>intros<;>try exact True.intro
   all_goals first|contradiction|omega
  |false=>
   rw [show endL w h q false Pe=Pe from rfl]
   refine goR (r:=?_);and_intros<;>intros<;>try exact True.intro
   all_goals first|contradiction|omega
theorem RefDecode_s1 (p:List UInt8) (hl:p.length≤1048576) (h0:(prS p).c≠0):Fn 70 [Z p] [] (.tup [.agg [I 0,I 0,.nilS],I (prS p).c]):=by
 have hz:=prS_sz p
 have hlen:(prS p).ms.length*2=(rows Abs.mbF (prS p).ms).length:=(rows_len (f:=Abs.mbF) (k:=2) (fun _=>rfl) (prS p).ms).symm
 refine FnC.of_body tabOk Tryz.func70 Tryz.ntmps70 rfl (by decide +kernel) (by simp) fun G=>?_
 refine goR (r:=?_);and_intros<;>intros<;>try exact True.intro
 refine K.call ?_
 apply WpL.callI (Parse_s.ok p (by omega))
 ·exact snapA
 ·exact locA
 ·exact outA
 ·exact FrzR.tup (.agg (.keep rfl rfl (.keep rfl rfl (.keep rfl rfl (.keep rfl rfl (.keep rfl rfl (.own rfl rfl rfl (by simp) rfl (Snap.same rfl (still_ints _) (nofre_ints _)) (.own rfl rfl rfl hlen rfl (Snap.rows snap_mb _) .nil))))))) (.keep rfl rfl (.keep rfl rfl .nil)))
 ·decide
 refine goR (r:=?_);and_intros<;>intros<;>try exact True.intro
 all_goals first|contradiction|omega
attribute [local irreducible] refL
theorem RefDecode_s0 (p:List UInt8) (hl:p.length≤1048576) (h0:(prS p).c=0):Fn 70 [Z p] [] (.tup [FrA (prS p).W (prS p).H (refL (prS p).W (prS p).H (prS p).Q (prS p).B (prS p).D (prS p).ms),I 0]):=by
 have hz:=prS_sz p
 have hlen:(prS p).ms.length*2=(rows Abs.mbF (prS p).ms).length:=(rows_len (f:=Abs.mbF) (k:=2) (fun _=>rfl) (prS p).ms).symm
 have hok:=prS_good h0
 refine FnC.of_body tabOk Tryz.func70 Tryz.ntmps70 rfl (by decide +kernel) (by simp) fun G=>?_
 refine goR (r:=?_);and_intros<;>intros<;>try exact True.intro
 refine K.call ?_
 apply WpL.callI (Parse_s.ok p (by omega))
 ·exact snapA
 ·exact locA
 ·exact outA
 ·exact FrzR.tup (.agg (.keep rfl rfl (.keep rfl rfl (.keep rfl rfl (.keep rfl rfl (.keep rfl rfl (.own rfl rfl rfl (by simp) rfl (Snap.same rfl (still_ints _) (nofre_ints _)) (.own rfl rfl rfl hlen rfl (Snap.rows snap_mb _) .nil))))))) (.keep rfl rfl (.keep rfl rfl .nil)))
 ·decide
 refine goR (r:=?_);and_intros<;>intros<;>try exact True.intro
 all_goals first|contradiction|omega|skip
 refine K.call ?_
 apply WpL.callK (BuildRef_sz (prS p).W (prS p).H (prS p).Q (prS p).B (prS p).D (prS p).L (prS p).ms hok ⟨by omega,hz.2.2.2⟩)
 ·exact .agg (.keep rfl rfl (.keep rfl rfl (.keep rfl rfl (.keep rfl rfl (.keep rfl rfl (.keep rfl rfl (.keep rfl rfl .nil))))))) .nil
 ·decide
 refine goR (r:=?_);and_intros<;>intros<;>try exact True.intro
 all_goals first|contradiction|omega
theorem RefDecode_sz (p:List UInt8) (hl:p.length≤1048576):Fn 70 [Z p] [] (.tup [FrF (decF p),I (prS p).c]):=by
 unfold decF bldF
 by_cases h0:(prS p).c=0
 ·rw [if_pos h0,h0,if_pos (prS_good h0)];exact RefDecode_s0 p hl h0
 ·rw [if_neg h0]
  exact FnC.stillT (RefDecode_s1 p hl h0) (.agg (.keep rfl rfl (.keep rfl rfl (.nilI .nil))) (.keep rfl rfl .nil))
attribute [local irreducible] decF
theorem PlayReel_sz (s:List UInt8) (hl:s.length≤1048576):Fn 16 [Z s] [FzO (mz dcF (unL s) (unL s).length),XI (mz dcC (unL s) (unL s).length)] (.tup [.own 0 0 0 (unL s).length,.own 1 0 0 (unL s).length]):=by
 have hu:=unL_len s
 have ht:=unL_tot s
 have hg:=fun k=>totR_get (unL s) k
 have hno:unOk s=false→unL s=[]:=fun hh=>by
  unfold unOk at hh;unfold unL
  cases hx:unp 8 s with
  |none=>rfl
  |some y=>rw [hx] at hh;cases hh
 refine FnC.of_body tabOk Tryz.func16 Tryz.ntmps16 rfl (by decide +kernel) (by simp) fun G=>?_
 refine goR (r:=?_);and_intros<;>intros<;>try exact True.intro
 all_goals first|contradiction|omega|skip
 generalize unL s=L at*
 generalize hB:unOk s=B0 at*
 refine WpA.loop (fun k:Nat=>⟨[(4,.own 0 0 0 L.length),(5,B B0),(6,.own 1 0 0 k),(7,.own 2 0 0 k),(8,I k)],[SO L,FzO (mz dcF L k),XI (mz dcC L k)]⟩) (fun k=>k≤L.length) (fun k=>L.length-k) 0 (by omega) (go (r:=?_)) (fun k hk=>?_)
 ·and_intros<;>first|exact True.intro|rfl
 have hm1:=mz_snoc dcF L k
 have hm2:=mz_snoc dcC L k
 have hgk:=hg k
 have hrd:=RefDecode_sz (L.getD k []) (by omega)
 by_cases hlt:k<L.length
 ·cases B0 with
  |false=>rw [hno rfl] at hlt;exact absurd hlt (Nat.not_lt_zero _)
  |true=>
   refine goR (r:=?_);and_intros<;>intros<;>try exact True.intro
   all_goals first|contradiction|omega|skip
   try rw [Int.toNat_natCast]
   refine K.call ?_
   apply WpL.callK hrd
   ·exact .keep rfl rfl .nil
   ·decide
   refine goR (r:=?_);and_intros<;>intros<;>try exact True.intro
   all_goals first|contradiction|omega|exact hm2.symm|skip
   refine Re.same ?_ (still_rows (fun _=>rfl) _)
   show rows fzF (mz dcF L k)++_=rows fzF (mz dcF L (k+1))
   rw [hm1,rows_append,rows_one];rfl
 ·have ek:k=L.length:=by omega
  subst ek
  refine go (r:=?_);and_intros<;>intros<;>try exact True.intro
  all_goals first|contradiction|omega|rfl
end
end Go.Proofs.YtndflfipaddfoaaGreat


namespace Go.Proofs.YtndflfipaddfoaaGreat
open Go Go.Abs
attribute [local irreducible] WpA WpL Rnd Blk Abs.Seq Abs.Fin Abs.FinG FnC FnG Only
theorem endedH (W H:Int) (l:List Int):FnH Tryz.prog 77 [.agg [.any,.any,.any,.any,B false,.any],FrHand W H l.length] 1 [IN l] [IN l,⟨[.any,.any,.any,.any,B false,.any],0,0,none⟩,⟨[I W,I H,.own 0 0 0 l.length],0,0,none⟩,⟨[I W,I H,.own 0 0 0 l.length],0,0,none⟩] (FrHand W H l.length):=by
 refine FnH.of_body tabOk Tryz.func77 Tryz.ntmps77 rfl (by decide +kernel) (by simp) (by simp) (by simp) fun G=>?_
 refine go (r:=?_);and_intros<;>intros<;>try exact True.intro
 all_goals exact FinH.ret (ResH.one (ResV.cell (ds:=[_,_,_]) rfl rfl rfl rfl rfl))
theorem endL_f (W H q:Int) (p:List Int):endL W H q false p=p:=rfl
theorem endL_t (W H q:Int) (p:List Int):endL W H q true p=dbL W H q p:=rfl
theorem ob6 {Ov:List AObj} {x0 x2 x4 x5:AObj} (h0:Ov[0]?=some x0) (h2:Ov[2]?=some x2) (h4:Ov[4]?=some x4) (h5:Ov[5]?=some x5):∃a c R,Ov=x0::a::x2::c::x4::x5::R:=by
 match Ov,h0,h2,h4,h5 with
 |y0::a::y2::c::y4::y5::R,h0,h2,h4,h5=>simp at h0 h2 h4 h5;exact ⟨a,c,R,by rw [h0,h2,h4,h5]⟩
 |[],h0,_,_,_=>simp at h0
 |[_],_,h2,_,_=>simp at h2
 |[_,_],_,h2,_,_=>simp at h2
 |[_,_,_],_,_,h4,_=>simp at h4
 |[_,_,_,_],_,_,h4,_=>simp at h4
 |[_,_,_,_,_],_,_,_,h5=>simp at h5
theorem ob3 {Ov:List AObj} {x3:AObj} (h3:Ov[3]?=some x3):∃a b c R,Ov=a::b::c::x3::R:=by
 match Ov,h3 with
 |a::b::c::y3::R,h3=>simp at h3;exact ⟨a,b,c,R,by rw [h3]⟩
 |[],h3=>simp at h3
 |[_],h3=>simp at h3
 |[_,_],h3=>simp at h3
 |[_,_,_],h3=>simp at h3
theorem ob36 {Ov:List AObj} {x3 x6:AObj} (h3:Ov[3]?=some x3) (h6:Ov[6]?=some x6):∃a b c d e R,Ov=a::b::c::x3::d::e::x6::R:=by
 match Ov,h3,h6 with
 |a::b::c::y3::d::e::y6::R,h3,h6=>simp at h3 h6;exact ⟨a,b,c,d,e,R,by rw [h3,h6]⟩
 |[],h3,_=>simp at h3
 |[_],h3,_=>simp at h3
 |[_,_],h3,_=>simp at h3
 |[_,_,_],h3,_=>simp at h3
 |[_,_,_,_],_,h6=>simp at h6
 |[_,_,_,_,_],_,h6=>simp at h6
 |[_,_,_,_,_,_],_,h6=>simp at h6
section
attribute [local irreducible] bldB bldM putL endL
attribute [-instance] placesOf_c
theorem BuildRef_own (w h q:Int) (b d:Bool) (L:List Int) (M:List Mbk) (hl:L.length≤1099511627776∧M.length≤1099511627776∧SmM 1099511627776 M) (hok:StOk w h q L M):Fn 26 [StA w h q b d L M] [IN (refL w h q b d M)] (FrOwn 0 w h (refL w h q b d M).length):=by
 have hd:=decide_eq_true hok
 have hsd:=hok.1.1
 have hcm:=cntM_bd hsd
 have hM16:M.length≤16:=by have:=hok.2.1;omega
 have hz:(zerP w h).length≤1024:=by
  unfold zerP
  rw [List.length_replicate]
  have h2:w*h≤32*32:=Int.mul_le_mul hsd.2.1 hsd.2.2.2.1 (by have:=hsd.2.2.1;omega) (by omega)
  omega
 unfold refL
 refine FnC.of_body tabOk Tryz.func26 Tryz.ntmps26 rfl (by decide +kernel) (by simp) fun G=>?_
 refine goR (r:=?_);and_intros<;>intros<;>try exact True.intro
 all_goals first|contradiction|omega|exact hl.2.2|skip
 have hzl:(w*h).toNat=(zerP w h).length:=by simp [zerP]
 rw [show (List.replicate (w*h).toNat (0:Int))=zerP w h from rfl,hzl]
 generalize zerP w h=P0 at*
 refine WpA.loop (fun k:Nat=>⟨[(1,.ptr 0 0 0),(2,.ptr 1 0 0),(3,.ptr 3 0 0),(20,MbL M),(21,I M.length),(22,I k)],[⟨[I w,I h,I q,B b,B d,IL L,MbL M],0,0,none⟩,⟨[I 0,I 0,.nilS],0,0,none⟩,IN (bldM w h q b M P0 k),⟨[I w,I h,.own 2 0 0 P0.length],0,0,none⟩]⟩) (fun k=>k≤M.length) (fun k=>M.length-k) 0 (Nat.zero_le _) (go (r:=?_)) (fun k hk=>?_)
 ·and_intros<;>first|exact True.intro|rfl|exact (bldM_zero ..).symm
 have hbl:=bldM_len w h q b M P0 k
 by_cases hlt:k<M.length
 ·have hmb:=ok_blk hok hlt
  have hsc:=bldM_succ w h q b M P0 k
  generalize hm:M.getD k default=mm at*
  obtain ⟨e,bs⟩:=mm
  simp only at hmb hsc
  have hbl4:bs.length=manyE e:=by have:=hmb.1;cases e<;>simp [nm8] at this<;>simp [manyE]<;>omega
  have hm4:manyE e≤4:=by cases e<;>decide
  refine goR (r:=?_);and_intros<;>intros<;>try exact True.intro
  all_goals first|contradiction|omega|skip
  rw [hm]
  refine K.call ?_
  apply WpL.callI (placesOf_c.ok w h q b d L k e ⟨by omega,by omega,by omega⟩)
  ·exact snapA
  ·exact locA
  ·exact outA
  ·exact FrzR.one (.own rfl rfl rfl (by rw [rows_len (k:=3) (fun _=>rfl),plsL_len]) rfl (Snap.same rfl (still_rows (fun _=>rfl) _) (nofre_rows (fun _=>rfl) _)) .nil)
  ·decide
  refine goR (r:=?_);and_intros<;>intros<;>try exact True.intro
  all_goals first|contradiction|omega|skip
  refine WpA.loop (fun i:Nat=>⟨[(1,.ptr 0 0 0),(2,.ptr 1 0 0),(3,.ptr 3 0 0),(5,.ptr 4 0 0),(20,MbL M),(21,I M.length),(22,I k),(32,.imm 3 (manyE e) (rows plF (plsL w (sz8 e) k (manyE e)))),(33,I (manyE e)),(34,I i)],[⟨[I w,I h,I q,B b,B d,IL L,MbL M],0,0,none⟩,⟨[I 0,I 0,.nilS],0,0,none⟩,IN (bldB w h q b (sz8 e) k bs (bldM w h q b M P0 k) i),⟨[I w,I h,.own 2 0 0 P0.length],0,0,none⟩,⟨[B e,.imm 2 bs.length (rows blkI bs)],0,0,none⟩]⟩) (fun i=>i≤manyE e) (fun i=>manyE e-i) 0 (Nat.zero_le _) (go (r:=?_)) (fun i hi=>?_)
  ·and_intros<;>first|exact True.intro|rfl|exact (bldB_zero ..).symm
  have hil:=bldB_len w h q b (sz8 e) k bs (bldM w h q b M P0 k) i
  by_cases hlt2:i<manyE e
  ·have hpl:=plsL_len w (sz8 e) k (manyE e)
   have hpg:(plsL w (sz8 e) k (manyE e)).getD i default=plc1 w (sz8 e) k i:=by
    unfold plsL
    simp [hlt2]
   have hbo:=ok_lv hmb (k:=i) (by omega)
   have hbn:=hbo.2.2.1
   have hsu:=bldB_succ w h q b (sz8 e) k bs (bldM w h q b M P0 k) i
   have hlv:(bs.getD i default).2.length≤64:=by cases e<;>simp [sz8] at hbn<;>omega
   generalize hPk:bldM w h q b M P0 k=Pk at*
   generalize hPi:bldB w h q b (sz8 e) k bs Pk i=Pi at*
   have hpu:=putL_len w h Pi q b (plc1 w (sz8 e) k i).1 (plc1 w (sz8 e) k i).2.1 (bs.getD i default).1 (bs.getD i default).2
   refine goR (r:=?_);and_intros<;>intros<;>try exact True.intro
   all_goals first|contradiction|omega|skip
   rw [hpg]
   try dsimp only [List.append,List.cons_append,List.nil_append]
   apply WpA.regionSF (O:=[]) (Or:=[⟨[I w,I h,I q,B b,B d,IL L,MbL M],0,0,none⟩,⟨[I 0,I 0,.nilS],0,0,none⟩,IN Pi,⟨[I w,I h,.own 2 0 0 P0.length],0,0,none⟩,⟨[B e,.imm 2 bs.length (rows blkI bs)],0,0,none⟩,⟨[I (plc1 w (sz8 e) k i).1,I (plc1 w (sz8 e) k i).2.1,I (plc1 w (sz8 e) k i).2.2],0,0,none⟩]) (O1:=[⟨[I w,I h,I q,B b,B d,IL L,MbL M],0,0,none⟩,⟨[I 0,I 0,.nilS],0,0,none⟩,IN Pi,⟨[I w,I h,.own 6 1 0 Pi.length],0,0,none⟩,⟨[B e,.imm 2 bs.length (rows blkI bs)],0,0,none⟩,⟨[I (plc1 w (sz8 e) k i).1,I (plc1 w (sz8 e) k i).2.1,I (plc1 w (sz8 e) k i).2.2],0,0,none⟩,⟨ints (putL w h Pi q b (plc1 w (sz8 e) k i).1 (plc1 w (sz8 e) k i).2.1 (bs.getD i default).1 (bs.getD i default).2),1,1,some 3⟩,deadO]) 17 1 [0,2,4,5] [3] rfl mixed (by decide +kernel)
   ·exact rfl
   ·apply HeadS.consF (V:=.agg [I w,I h,.own 2 0 0 P0.length]) (.step 3 ⟨[I w,I h,.own 2 0 0 P0.length],0,0,none⟩) rfl
    ·exact rfl
    ·exact rfl
    ·intro Tv Ov hc hp' hd hk
     obtain ⟨a0,a1,a2,R,rfl⟩:=ob3 (hp' 3 _ rfl)
     exact in1
    ·exact rfl
    ·exact rfl
    apply HeadS.consF .none rfl
    ·exact rfl
    ·exact rfl
    ·intro Tv Ov hc hp' hd hk
     obtain ⟨a1,a3,R,rfl⟩:=ob6 (hk 0 rfl) (hk 2 rfl) (hk 4 rfl) (hk 5 rfl)
     exact in1
    ·exact rfl
    ·exact rfl
    apply HeadS.consF .none rfl
    ·exact rfl
    ·exact rfl
    ·intro Tv Ov hc hp' hd hk
     obtain ⟨a1,a3,R,rfl⟩:=ob6 (hk 0 rfl) (hk 2 rfl) (hk 4 rfl) (hk 5 rfl)
     exact in1
    ·exact rfl
    ·exact rfl
    apply HeadS.consF .none rfl
    ·exact rfl
    ·exact rfl
    ·intro Tv Ov hc hp' hd hk
     obtain ⟨a1,a3,R,rfl⟩:=ob6 (hk 0 rfl) (hk 2 rfl) (hk 4 rfl) (hk 5 rfl)
     exact in1
    ·exact rfl
    ·exact rfl
    apply HeadS.consF .none rfl
    ·exact rfl
    ·exact rfl
    ·intro Tv Ov hc hp' hd hk
     obtain ⟨a1,a3,R,rfl⟩:=ob6 (hk 0 rfl) (hk 2 rfl) (hk 4 rfl) (hk 5 rfl)
     exact in1
    ·exact rfl
    ·exact rfl
    apply HeadS.consF .none rfl
    ·exact rfl
    ·exact rfl
    ·intro Tv Ov hc hp' hd hk
     obtain ⟨a1,a3,R,rfl⟩:=ob6 (hk 0 rfl) (hk 2 rfl) (hk 4 rfl) (hk 5 rfl)
     exact in1
    ·exact rfl
    ·exact rfl
    apply HeadS.consF .none rfl
    ·exact rfl
    ·exact rfl
    ·intro Tv Ov hc hp' hd hk
     obtain ⟨a1,a3,R,rfl⟩:=ob6 (hk 0 rfl) (hk 2 rfl) (hk 4 rfl) (hk 5 rfl)
     exact in1
    ·exact rfl
    ·exact rfl
    apply HeadS.consF .none rfl
    ·exact rfl
    ·exact rfl
    ·intro Tv Ov hc hp' hd hk
     obtain ⟨a1,a3,R,rfl⟩:=ob6 (hk 0 rfl) (hk 2 rfl) (hk 4 rfl) (hk 5 rfl)
     exact in1
    ·exact rfl
    ·exact rfl
    apply HeadS.consF .none rfl
    ·exact rfl
    ·exact rfl
    ·intro Tv Ov hc hp' hd hk
     obtain ⟨a1,a3,R,rfl⟩:=ob6 (hk 0 rfl) (hk 2 rfl) (hk 4 rfl) (hk 5 rfl)
     exact in1
    ·exact rfl
    ·exact rfl
    apply HeadS.consF .none rfl
    ·exact rfl
    ·exact rfl
    ·intro Tv Ov hc hp' hd hk
     obtain ⟨a1,a3,R,rfl⟩:=ob6 (hk 0 rfl) (hk 2 rfl) (hk 4 rfl) (hk 5 rfl)
     exact in1
    ·exact rfl
    ·exact rfl
    apply HeadS.consF .none rfl
    ·exact rfl
    ·exact rfl
    ·intro Tv Ov hc hp' hd hk
     obtain ⟨a1,a3,R,rfl⟩:=ob6 (hk 0 rfl) (hk 2 rfl) (hk 4 rfl) (hk 5 rfl)
     exact in1
    ·exact rfl
    ·exact rfl
    apply HeadS.consF .none rfl
    ·exact rfl
    ·exact rfl
    ·intro Tv Ov hc hp' hd hk
     obtain ⟨a1,a3,R,rfl⟩:=ob6 (hk 0 rfl) (hk 2 rfl) (hk 4 rfl) (hk 5 rfl)
     exact in1
    ·exact rfl
    ·exact rfl
    apply HeadS.consF (V:=.tup [.agg [I w,I h,.own 6 1 0 Pi.length],B (decide (PutOk w h Pi q (plc1 w (sz8 e) k i).1 (plc1 w (sz8 e) k i).2.1 (bs.getD i default).1 (bs.getD i default).2))]) (.put 6 ⟨ints (putL w h Pi q b (plc1 w (sz8 e) k i).1 (plc1 w (sz8 e) k i).2.1 (bs.getD i default).1 (bs.getD i default).2),1,1,some 3⟩) rfl
    ·exact rfl
    ·exact rfl
    ·intro Tv Ov hc hp' hd hk
     have h6:=hp' 6 _ rfl
     obtain ⟨a1,a3,R,rfl⟩:=ob6 (hk 0 rfl) (hk 2 rfl) (hk 4 rfl) (hk 5 rfl)
     refine K.call ?_
     refine WpL.callF (PutRef_c.ok w h Pi w h q b d L (plc1 w (sz8 e) k i).1 (plc1 w (sz8 e) k i).2.1 (bs.getD i default).1 (bs.getD i default).2 ⟨by omega,by omega⟩) (.agg (.keep rfl rfl (.keep rfl rfl (.own rfl rfl rfl (by show P0.length*1=(List.map _ _).length;rw [Nat.mul_one,List.length_map];omega) (by omega) (Snap.same rfl (still_ints _) (nofre_ints _)) .nil))) snapA) locA outA (cnt_some _ 0) rfl rfl (by decide) ?_
     rw [Nat.zero_add]
     apply WpL.putV (p:=6)
     ·exact .tup (.agg (.keep rfl rfl (.keep rfl rfl (.own (by first|rfl|exact Nat.zero_add _) .nil))) (.keep rfl rfl .nil)) .nil
     ·exact h6
     ·exact Nat.zero_le _
     ·exact rfl
     ·exact still_ints _
    ·exact rfl
    ·exact rfl
    apply HeadS.consF .none rfl
    ·exact rfl
    ·exact rfl
    ·exact in1
    ·exact rfl
    ·exact rfl
    apply HeadS.consF .none rfl
    ·exact rfl
    ·exact rfl
    ·exact in1
    ·exact rfl
    ·exact rfl
    apply HeadS.consF .none rfl
    ·exact rfl
    ·exact rfl
    ·exact in1
    ·exact rfl
    ·exact rfl
    apply HeadS.consN (.step 3 ⟨[I w,I h,.own 6 1 0 Pi.length],0,0,none⟩) 1000
    ·exact rfl
    ·exact rfl
    ·intro Tv Ov hc hp' hd hk
     obtain ⟨a0,a1,a2,a4,a5,R,rfl⟩:=ob36 (hp' 3 _ rfl) (hd 12 _ 6 _ (by decide) rfl rfl rfl)
     refine K.st ?_
     refine WpL.store tabOk rfl rfl rfl rfl rfl rfl rfl rfl (Nat.le_of_ble_eq_true rfl) ?_
     refine WpL.weak (Weak.any1 (d:=1000)) ?_
     exact WpL.nil (Only.mk rfl)
    ·exact rfl
    ·exact rfl
    exact HeadS.nil
   ·exact rfl
   ·exact rfl
   ·exact rfl
   ·exact rfl
   ·exact rfl
   ·exact rfl
   ·exact rfl
   refine WpL.weak (σ':=⟨[(1,.ptr 0 0 0),(2,.ptr 1 0 0),(3,.ptr 3 0 0),(5,.ptr 4 0 0),(20,MbL M),(21,I M.length),(22,I k),(32,.imm 3 (manyE e) (rows plF (plsL w (sz8 e) k (manyE e)))),(33,I (manyE e)),(34,I i)],[⟨[I w,I h,I q,B b,B d,IL L,MbL M],0,0,none⟩,⟨[I 0,I 0,.nilS],0,0,none⟩,IN (putL w h Pi q b (plc1 w (sz8 e) k i).1 (plc1 w (sz8 e) k i).2.1 (bs.getD i default).1 (bs.getD i default).2),⟨[I w,I h,.own 2 0 0 P0.length],0,0,none⟩,⟨[B e,.imm 2 bs.length (rows blkI bs)],0,0,none⟩]⟩) (Weak.mv [0,1,6,3,4] rfl rfl rfl (by repeat (first|exact RvT.nil|refine RvT.cons (.keep rfl rfl .nil) ?_|refine RvT.cons (.ptr rfl rfl rfl rfl rfl .nil) ?_)) (.cons rfl (Rv.same rfl rfl) (.inl rfl) (.cons rfl (Rv.same rfl rfl) (.inl rfl) (.cons rfl (Rv.same rfl (still_ints _)) (.inl rfl) (.cons rfl (.keep rfl rfl (.keep rfl rfl (.own rfl rfl rfl rfl rfl rfl (by omega) .nil))) (.inl rfl) (.cons rfl (Rv.same rfl rfl) (.inl rfl) .nil)))))) ?_
   refine goR (r:=?_);and_intros<;>intros<;>try exact True.intro
   all_goals first|contradiction|omega|exact hsu.symm
  ·obtain rfl:i=manyE e:=by omega
   refine goR (r:=?_);and_intros<;>intros<;>try exact True.intro
   all_goals first|contradiction|omega|(rw [hsc])
 ·obtain rfl:k=M.length:=by omega
  refine goR (r:=?_);and_intros<;>intros<;>try exact True.intro
  all_goals first|contradiction|omega|skip
  cases d with
  |false=>
   refine K.call ?_
   refine WpL.callH (hs:=[2]) (base:=4) (endedH w h (bldM w h q b M P0 M.length)) (.agg (.any (.any (.any (.any (.keep rfl rfl (.any .nil)))))) (.agg (.keep rfl rfl (.keep rfl rfl (.own (j:=0) rfl rfl rfl (by omega) .nil))) .nil)) (.still rfl rfl (still_ints _) rfl rfl (.inl rfl) .nil) rfl (fun j id hj hid=>Nat.zero_le _) rfl (.keep rfl (.keep rfl (.turn rfl (by decide) rfl rfl (Back.all rfl (still_ints _) (Loc.ints _)) (.keep rfl .nil)))) (.cons (Back.all rfl rfl (.any (.any (.any (.any (.sc (.any .nil))))))) (.cons (.loc rfl (Loc.sc .nil) (.loc rfl (Loc.sc .nil) (.old (by decide) rfl rfl .nil))) (.cons (.loc rfl (Loc.sc .nil) (.loc rfl (Loc.sc .nil) (.old (by decide) rfl rfl .nil))) .nil))) (.agg (.loc rfl (Loc.sc .nil) (.loc rfl (Loc.sc .nil) (.old (by decide) rfl rfl .nil))) .nil) rfl (by decide) ?_
   refine goR (r:=?_);and_intros<;>intros<;>try exact True.intro
   all_goals first|contradiction|omega|exact (endL_len ..).symm|exact (endL_f ..).symm
  |true=>
   refine K.call ?_
   refine WpL.callF (ended1 w h w h q b L (bldM w h q b M P0 M.length) (by omega)) snapA locA outA rfl rfl rfl (by decide) ?_
   refine goR (r:=?_);and_intros<;>intros<;>try exact True.intro
   all_goals first|contradiction|omega|exact (endL_len ..).symm|exact (endL_t ..).symm
end
end Go.Proofs.YtndflfipaddfoaaGreat


namespace Go.Proofs.YtndflfipaddfoaaGreat
open Go Go.Abs
attribute [local irreducible] WpA WpL Rnd Blk Abs.Seq Abs.Fin Abs.FinG FnC FnG Only
attribute [local irreducible] prS refL
theorem refL_len {w h q:Int} {b d:Bool} {L:List Int} {M:List Mbk} (hok:StOk w h q L M):(refL w h q b d M).length≤1024:=by
 have hsd:=hok.1.1
 have h2:w*h≤32*32:=Int.mul_le_mul hsd.2.1 hsd.2.2.2.1 (by have:=hsd.2.2.1;omega) (by omega)
 unfold refL
 rw [endL_len,bldM_len]
 unfold zerP
 rw [List.length_replicate]
 omega
section
attribute [-instance] Parse_c
theorem RefDecode_o (p:List UInt8) (hl:p.length≤1048576) (h0:(prS p).c=0):Fn 29 [Z p] [IN (refL (prS p).W (prS p).H (prS p).Q (prS p).B (prS p).D (prS p).ms)] (.tup [FrOwn 0 (prS p).W (prS p).H (refL (prS p).W (prS p).H (prS p).Q (prS p).B (prS p).D (prS p).ms).length,I 0]):=by
 have hz:=prS_sz p
 have hlen:(prS p).ms.length*2=(rows Abs.mbF (prS p).ms).length:=(rows_len (f:=Abs.mbF) (k:=2) (fun _=>rfl) (prS p).ms).symm
 have hok:=prS_good h0
 have hrl:=refL_len (b:=(prS p).B) (d:=(prS p).D) hok
 have hbo:=BuildRef_own (prS p).W (prS p).H (prS p).Q (prS p).B (prS p).D (prS p).L (prS p).ms ⟨by omega,by omega,hz.2.2.2⟩ hok
 refine FnC.of_body tabOk Tryz.func29 Tryz.ntmps29 rfl (by decide +kernel) (by simp) fun G=>?_
 refine goR (r:=?_);and_intros<;>intros<;>try exact True.intro
 refine K.call ?_
 apply WpL.callI (Parse_c.ok p (by omega))
 ·exact snapA
 ·exact locA
 ·exact outA
 ·exact FrzR.tup (.agg (.keep rfl rfl (.keep rfl rfl (.keep rfl rfl (.keep rfl rfl (.keep rfl rfl (.own rfl rfl rfl (by simp) rfl (Snap.same rfl (still_ints _) (nofre_ints _)) (.own rfl rfl rfl hlen rfl (Snap.rows snap_mb _) .nil))))))) (.keep rfl rfl (.keep rfl rfl .nil)))
 ·decide
 refine goR (r:=?_);and_intros<;>intros<;>try exact True.intro
 all_goals first|contradiction|omega|skip
 refine K.call ?_
 refine WpL.callF hbo snapA locA outA rfl rfl rfl (by decide) ?_
 refine goR (r:=?_);and_intros<;>intros<;>try exact True.intro
 all_goals first|contradiction|omega
end
end Go.Proofs.YtndflfipaddfoaaGreat


namespace Go.Proofs.YtndflfipaddfoaaGreat
open Go Go.Abs
def lift4 (a:List Int):List Int:=[a.getD 0 0+a.getD 2 0+(2*a.getD 1 0+a.getD 3 0),a.getD 0 0-a.getD 2 0+(a.getD 1 0-2*a.getD 3 0),a.getD 0 0-a.getD 2 0-(a.getD 1 0-2*a.getD 3 0),a.getD 0 0+a.getD 2 0-(2*a.getD 1 0+a.getD 3 0)]
def bst (w i:Nat) (x:List Int):List Int:=if i &&& w=0 then (x.set i (x.getD i 0+x.getD (i+w) 0)).set (i+w) (x.getD i 0-x.getD (i+w) 0) else x
def bK (w:Nat) (x:List Int):Nat→List Int
 |0=>x
 |i+1=>bst w i (bK w x i)
def lift8 (a:List Int):List Int:=bK 4 (bK 2 (bK 1 a 8) 8) 8
def liftN (n:Nat) (a:List Int):List Int:=if n=4 then lift4 a else lift8 a
section
attribute [local irreducible] lift8
end
def rowF (n:Nat) (l:List Int) (q:Nat):Int:=sumF (fun k=>mg n true (q%n) k*l.getD (q/n*n+k) 0) n
def rowL (n:Nat) (l:List Int):List Int:=tabL (rowF n l) (n*n)
def colF (n:Nat) (l:List Int) (q:Nat):Int:=l.getD (q%n*n+q/n) 0
def colL (n:Nat) (l:List Int):List Int:=tabL (colF n l) (n*n)
end Go.Proofs.YtndflfipaddfoaaGreat


namespace Go.Proofs.YtndflfipaddfoaaGreat
open Go Go.Abs
attribute [local irreducible] WpA WpL Rnd Blk Abs.Seq Abs.Fin Abs.FinG FnC FnG Only
def phase (a:List Int) (w:Nat):List Int:=if w=1 then a else if w=2 then bK 1 a 8 else if w=4 then bK 2 (bK 1 a 8) 8 else lift8 a
attribute [local irreducible] phase lift8 bK
end Go.Proofs.YtndflfipaddfoaaGreat


namespace Go.Proofs.YtndflfipaddfoaaGreat
open Go Go.Abs
attribute [local irreducible] WpA WpL Rnd Blk Abs.Seq Abs.Fin Abs.FinG FnC FnG Only
end Go.Proofs.YtndflfipaddfoaaGreat


namespace Go.Proofs.YtndflfipaddfoaaGreat
open Go Go.Abs
attribute [local irreducible] WpA WpL Rnd Blk Abs.Seq Abs.Fin Abs.FinG FnC FnG Only
attribute [local irreducible] lift4 lift8 liftN bK rowF
end Go.Proofs.YtndflfipaddfoaaGreat


namespace Go.Proofs.YtndflfipaddfoaaGreat
open Go Go.Abs
attribute [local irreducible] WpA WpL Rnd Blk Abs.Seq Abs.Fin Abs.FinG FnC FnG Only
def colS (l:List Int):List Int:=colL (side l.length).toNat l
section
attribute [local irreducible] colL rowL colS
end
end Go.Proofs.YtndflfipaddfoaaGreat


namespace Go.Proofs.YtndflfipaddfoaaGreat
open Go Go.Abs
end Go.Proofs.YtndflfipaddfoaaGreat


namespace Go.Proofs.YtndflfipaddfoaaGreat
open Go Go.Abs
attribute [local irreducible] WpA WpL Rnd Blk Abs.Seq Abs.Fin Abs.FinG FnC FnG Only
section
end
section
attribute [-instance] Border_s
end
end Go.Proofs.YtndflfipaddfoaaGreat


namespace Go.Proofs.YtndflfipaddfoaaGreat
open Go Go.Abs
attribute [local irreducible] WpA WpL Rnd Blk Abs.Seq Abs.Fin Abs.FinG FnC FnG Only
section
attribute [-instance] ResidualOf_s
end
end Go.Proofs.YtndflfipaddfoaaGreat


namespace Go.Proofs.YtndflfipaddfoaaGreat
open Go Go.Abs
attribute [local irreducible] WpA WpL Rnd Blk Abs.Seq Abs.Fin Abs.FinG FnC FnG Only
end Go.Proofs.YtndflfipaddfoaaGreat


namespace Go.Proofs.YtndflfipaddfoaaGreat
open Go Go.Abs
attribute [local irreducible] WpA WpL Rnd Blk Abs.Seq Abs.Fin Abs.FinG FnC FnG Only
abbrev FaL (l:List Fra):AV:=.imm 3 l.length (rows frI l)
abbrev FaO (l:List Fra):AObj:=⟨rows frF l,0,3,some 24⟩
abbrev FaN (l:List Fra):AObj:=⟨rows frF l,0,3,none⟩
@[irreducible] def SmF (c:Nat) (l:List Fra):Prop:=∀b∈l,b.2.2.length≤c
theorem smF_get {c:Nat} {l:List Fra} (h:SmF c l) {k:Nat} (hk:k<l.length):(l.getD k default).2.2.length≤c:=by
 unfold SmF at h;exact h _ (by simp [hk])
def fn1 (b:Fra):Nat:=b.2.2.length+1
def fw (l:List Fra):Nat:=l.length+(l.map fn1).sum
theorem smF_of {c:Nat} {l:List Fra} (h:fw l≤c):SmF c l:=by
 unfold SmF;unfold fw at h
 intro b hb
 have:fn1 b≤_:=sum_mem fn1 hb
 unfold fn1 at this;unfold fn1 at h;omega
instance eqFrameS_c:Con 18 (∀ xs ys:List Fra,xs.length≤1099511627776∧ys.length≤1099511627776∧SmF 1099511627776 xs∧SmF 1099511627776 ys→Fn 18 [FaL xs,FaL ys] [] (B (decide (xs=ys)))):=⟨fun xs ys hl=>by
 refine FnC.of_body tabOk Tryz.func18 Tryz.ntmps18 rfl (by decide +kernel) (by simp) fun G=>?_
 refine go (r:=?_);and_intros<;>intros<;>try exact True.intro
 ·simp;intro h;subst h;simp_all
 ·refine WpA.loop (fun k:Nat=>⟨[(0,FaL xs),(1,FaL ys),(5,I k)],[]⟩) (fun k=>k≤xs.length∧∀j<k,xs.getD j default=ys.getD j default) (fun k=>xs.length-k) 0 (by simp) (go (r:=trivial)) (fun k hk=>?_)
  have hg:=fun h=>smF_get hl.2.2.1 (k:=k) h
  have hg2:=fun h=>smF_get hl.2.2.2 (k:=k) h
  refine go (r:=?_);and_intros<;>intros<;>try exact True.intro
  ·simp;rintro rfl;simp_all
  ·rename_i j hj;by_cases h:j=k
   ·subst h;refine Prod.ext ?_ (Prod.ext ?_ ?_)<;>simp_all
   ·exact hk.2 j (by omega)
  ·have:=eq_all default (xs:=xs) (ys:=ys) (by omega) (fun j hj=>hk.2 j (by omega))
   simp [this]⟩
def markF:Int→List Fra→List Fra
 |_,[]=>[]
 |k,b::l=>(k,k+1,marksI (k+2) b.2.2.length)::markF (k+2+b.2.2.length) l
theorem fw_nil:fw []=0:=rfl
theorem fw_cons (b:Fra) (l:List Fra):fw (b::l)=fw l+2+b.2.2.length:=by unfold fw;rw [List.map_cons,List.sum_cons,List.length_cons];unfold fn1;omega
theorem fw_append (a b:List Fra):fw (a++b)=fw a+fw b:=by unfold fw;rw [List.map_append,List.sum_append,List.length_append];omega
theorem markF_append:∀(a b:List Fra) (k:Int),markF k (a++b)=markF k a++markF (k+fw a) b
 |[],b,k=>by simp [markF,fw_nil]
 |x::a,b,k=>by
  rw [List.cons_append,markF,markF,markF_append a b,fw_cons,List.cons_append]
  congr 3;omega
@[simp] theorem markF_len:∀(l:List Fra) (k:Int),(markF k l).length=l.length
 |[],k=>rfl
 |b::l,k=>by rw [markF,List.length_cons,List.length_cons,markF_len l]
theorem markF_fw:∀(l:List Fra) (k:Int),fw (markF k l)=fw l
 |[],k=>rfl
 |b::l,k=>by rw [markF,fw_cons,fw_cons,markF_fw l,marksI_len]
theorem fw_take (l:List Fra) (i:Nat) (h:i<l.length):fw (l.take (i+1))=fw (l.take i)+2+(l.getD i default).2.2.length:=by
 rw [take_snoc l i h,fw_append,fw_cons,fw_nil];omega
theorem fw_take_le (l:List Fra) (i:Nat):fw (l.take i)≤fw l:=by
 conv=>rhs;rw [←List.take_append_drop i l,fw_append]
 exact Nat.le_add_right _ _
theorem markF_take (l:List Fra) (i:Nat) (h:i<l.length) (k:Int):markF k (l.take (i+1))=markF k (l.take i)++[(k+fw (l.take i),k+fw (l.take i)+1,marksI (k+fw (l.take i)+2) (l.getD i default).2.2.length)]:=by
 rw [take_snoc l i h,markF_append];rfl
theorem markF_get (l:List Fra) (i:Nat) (h:i<l.length) (k:Int) (e:l=markF k l):(l.getD i default).1=k+fw (l.take i)∧(l.getD i default).2.1=k+fw (l.take i)+1∧(l.getD i default).2.2=marksI (k+fw (l.take i)+2) (l.getD i default).2.2.length:=by
 have h0:l=(l.take i++[l.getD i default])++l.drop (i+1):=by rw [←take_snoc l i h,List.take_append_drop]
 have h1:markF k l=(markF k (l.take i)++[(k+fw (l.take i),k+fw (l.take i)+1,marksI (k+fw (l.take i)+2) (l.getD i default).2.2.length)])++markF (k+fw (l.take (i+1))) (l.drop (i+1)):=by
  rw [←markF_take l i h,←markF_append,List.take_append_drop]
 have h2:(markF k l).getD i default=(k+fw (l.take i),k+fw (l.take i)+1,marksI (k+fw (l.take i)+2) (l.getD i default).2.2.length):=by
  rw [h1]
  have:(markF k (l.take i)).length=i:=by simp;omega
  simp [List.getElem?_append,this]
 have h3:l.getD i default=(markF k l).getD i default:=by rw [←e]
 rw [h2] at h3
 exact ⟨congrArg Prod.fst h3,congrArg (fun x=>x.2.1) h3,congrArg (fun x=>x.2.2) h3⟩
theorem markF_idem:∀(l:List Fra) (k:Int),markF k (markF k l)=markF k l
 |[],_=>rfl
 |b::l,k=>by simp only [markF,marksI_len];rw [markF_idem l]
theorem nestFr {m i:Nat} {T:List (Nat×AV)} {O:List AObj} {id j epj len ep sz:Nat} {te tj:Option TypeId} {xs:List Fra} {lv:List Int} {σ':St} (ho:O[id]?=some ⟨(rows frF xs).set (i*3+2) (.own j epj 0 len),ep,sz,te⟩) (hj:O[j]?=some ⟨ints lv,epj,1,tj⟩) (hne:Nat.beq id j=false) (hm:m≤j) (hll:len=lv.length) (hi:i<xs.length)
 (h:Weak m ⟨T,(O.set id ⟨rows frF (xs.set i ((xs.getD i default).1,(xs.getD i default).2.1,lv)),ep,sz,te⟩).set j ⟨[],epj+1,0,none⟩⟩ σ'):Weak m ⟨T,O⟩ σ':=by
 subst hll
 exact Weak.nestRow (f:=frF) (b:=((xs.getD i default).1,(xs.getD i default).2.1,lv)) ho hj hne hm rfl (still_ints _) (by simp) (fun _=>rfl) rfl hi rfl rfl h
section
attribute [local simp] Abs.setL
theorem fr_set2 (xs:List Fra) (i:Nat) (a b:Int) (h:i<xs.length):Abs.setL (Abs.setL (rows frF xs) (i*3+0) [I a]) (i*3+1) [I b]=rows frF (xs.set i (a,b,(xs.getD i default).2.2)):=by
 have h1:=rows_set (f:=frF) (k:=3) (o:=0) (V:=I a) (b:=(a,(xs.getD i default).2)) (fun _=>rfl) h (by decide) rfl
 have h2:=rows_set (f:=frF) (k:=3) (l:=xs.set i (a,(xs.getD i default).2)) (i:=i) (o:=1) (V:=I b) (b:=(a,b,(xs.getD i default).2.2)) (fun _=>rfl) (by rw [List.length_set];exact h) (by decide) (by rw [List.getD_eq_getElem?_getD,List.getElem?_set_self h];rfl)
 rw [List.set_set] at h2
 rw [←h2,←h1];rfl
theorem fr_set3 (xs:List Fra) (i:Nat) (a b:Int) (h:i<xs.length):((rows frF xs).set (i*3+0) (I a)).set (i*3+1) (I b)=rows frF (xs.set i (a,b,(xs.getD i default).2.2)):=fr_set2 xs i a b h
instance markFrameS_c:ConG 20 (∀ (l:List Fra) (k:Int),fw l≤1048576∧0≤k∧k≤1073741824→Gn 20 [.own 0 0 0 l.length,I k] [FaN l] [FaN (markF k l)] [] (I (k+fw l))):=⟨fun l k hk=>by
 refine FnG.of_bodyF tabOk Tryz.func20 Tryz.ntmps20 rfl (by decide +kernel) (by simp) rfl rfl fun G=>?_
 have hbw:fw l=l.length+(l.map fn1).sum:=rfl
 refine go (r:=?_);and_intros<;>intros<;>try exact True.intro
 refine WpA.loop (fun i:Nat=>⟨[(0,.own 0 0 0 l.length),(1,I (k+fw (l.take i))),(5,I i)],[FaN (markF k (l.take i)++l.drop i)]⟩) (fun i=>i≤l.length) (fun i=>l.length-i) 0 (by simp) (go (r:=?_)) (fun i hi=>?_)
 ·simp [markF,fw_nil]
 have hml:=markF_len (l.take i) k
 have hlt:i≤l.length→(l.take i).length=i:=fun h=>by simp;omega
 have hsm:=smF_of hk.1
 have hle:=fw_take_le l i
 have hlen:i≤l.length→(markF k (l.take i)++l.drop i).length=l.length:=fun h=>by rw [List.length_append,hml];simp;omega
 have hget:i<l.length→∀v,((markF k (l.take i)++l.drop i).set i v).getD i default=v:=fun h v=>by simp [hlen (by omega),h]
 have hg:=fun h=>smF_get hsm (k:=i) h
 have hmid:=fun h=>getD_mid (markF k (l.take i)) l i (by rw [hml,hlt (by omega)]) h
 have hbt:=fun h=>fw_take l i h
 by_cases hil:(i:Int)<(l.length:Int)
 ·refine WpA.hide fun Q' hQ'=>?_
  have hlt':i<(markF k (l.take i)++l.drop i).length:=by rw [hlen (by omega)];omega
  have hm:=hmid (by omega)
  have hg:=hg (by omega)
  have hbt:=hbt (by omega)
  have hgv:=hget (by omega)
  refine go (r:=?_);and_intros<;>intros<;>try exact True.intro
  first
   |rw [fr_set2 _ i _ _ hlt']
   |rw [fr_set3 _ i _ _ hlt']
  have hfin:∀v,(markF k (l.take i)++l.drop i).set i v=(markF k (l.take i)++[v])++l.drop (i+1):=fun v=>set_mid _ _ _ (by rw [hml,hlt (by omega)]) (by omega) v
  rw [hm]
  rw [hfin]
  generalize hxs:(markF k (l.take i)++[(k+(fw (l.take i):Int),k+(fw (l.take i):Int)+1,(l.getD i default).2.2)])++l.drop (i+1)=xs at*
  have hxi:xs.getD i default=(k+(fw (l.take i):Int),k+(fw (l.take i):Int)+1,(l.getD i default).2.2):=by rw [←hxs,←hfin,hgv]
  have hxl:i<xs.length:=by rw [←hxs,←hfin,List.length_set];exact hlt'
  have hxp:(xs.getD i default).2.2.length≤1048576:=by rw [hxi];exact hg
  refine go (r:=?_);and_intros<;>intros<;>try exact True.intro
  all_goals first|contradiction|omega|skip
  subst hQ'
  refine Rnd.go (i+1) (by omega) (by omega) ?_
  refine nestFr (id:=0) rfl rfl rfl (Nat.le_of_ble_eq_true rfl) (by simp) hxl ?_
  rw [hxi]
  simp only [marksI_len]
  have e2:k+(fw (l.take i):Int)+1+1=k+(fw (l.take i):Int)+2:=by omega
  have e:xs.set i (k+(fw (l.take i):Int),k+(fw (l.take i):Int)+1,marksI (k+(fw (l.take i):Int)+1+1) (l.getD i default).2.2.length)=markF k (l.take (i+1))++l.drop (i+1):=by
   rw [e2,←hxs,←hfin,List.set_set,hfin,markF_take _ _ (by omega)]
  rw [e]
  have ef:k+(fw (l.take i):Int)+1+1+((l.getD i default).2.2.length:Int)=k+(fw (l.take (i+1)):Int):=by omega
  rw [ef]
  exact Weak.mk (by repeat (first|exact ReT.nil|refine ReT.cons (.keep rfl rfl .nil) ?_|refine ReT.cons (.own rfl rfl rfl rfl rfl rfl .nil) ?_|refine ReT.cons (.ptr rfl rfl rfl rfl .nil) ?_|refine ReT.cons (.keep (congrArg (fun z=>AV.sc (Value.int .i64 z)) (by first|omega|(skip))) rfl .nil) ?_|refine ReT.cons (.keep (congrArg (fun z:List UInt8=>AV.sc (Value.string ⟨z.toArray⟩)) (by skip)) rfl .nil) ?_|refine ReT.cons (.own rfl rfl rfl rfl rfl (by first|omega|(simp;done)|(simp;omega)) .nil) ?_)) (ReO.rows (fun _=>rfl) rfl (.inr rfl) .nil) (Nat.le_of_ble_eq_true rfl)
 ·refine go (r:=?_);and_intros<;>intros<;>try exact True.intro
  all_goals have e:i=l.length:=by omega
  all_goals subst e;simp⟩
end
instance heldFrameS_c:Con 22 (∀ (l:List Fra) (k:Int),(fw l≤1048576∧0≤k∧k≤1073741824)∧l=markF k l→Fn 22 [FaL l,I k] [] (I (k+fw l))):=⟨fun l k hk=>by
 obtain ⟨hk,hm⟩:=hk
 refine FnC.of_body tabOk Tryz.func22 Tryz.ntmps22 rfl (by decide +kernel) (by simp) fun G=>?_
 have hbw:fw l=l.length+(l.map fn1).sum:=rfl
 refine go (r:=?_);and_intros<;>intros<;>try exact True.intro
 refine WpA.loop (fun i:Nat=>⟨[(0,FaL l),(1,I (k+fw (l.take i))),(5,I i)],[]⟩) (fun i=>i≤l.length) (fun i=>l.length-i) 0 (by simp) (go (r:=?_)) (fun i hi=>?_)
 ·simp [fw_nil]
 have hsm:=smF_of hk.1
 have hle:=fw_take_le l i
 have hle2:=fw_take_le l (i+1)
 have hg:=fun h=>smF_get hsm (k:=i) h
 have hbt:=fun h=>fw_take l i h
 have hget:=fun h=>markF_get l i h k hm
 by_cases hlt:i<l.length
 ·obtain ⟨h1,h2,h3⟩:=hget hlt
  have hg:=hg hlt
  have hbt:=hbt hlt
  rw [show k+(fw (l.take i):Int)+2=k+(fw (l.take i):Int)+1+1 by omega] at h3
  refine go (r:=?_);and_intros<;>intros<;>try exact True.intro
  all_goals first|contradiction|omega|(exact Nat.le_trans hg (by decide))|(rename_i hg0;rw [if_pos h3] at hg0;omega)
 ·refine go (r:=?_);and_intros<;>intros<;>try exact True.intro
  all_goals first|contradiction|omega|(have e:i=l.length:=by omega);subst e;rw [List.take_length]⟩
end Go.Proofs.YtndflfipaddfoaaGreat


namespace Go.Abs
open Go
end Go.Abs


namespace Go.Abs
open Go
theorem RelAt.cellsC {n m G S ι F T O a w} (hr:RelAt n m G S ι F ⟨T,O⟩ a w) {id:Nat} (cs:List AV) {ob:AObj} (ho:O[id]?=some ob) (hlen:cs.length=ob.cells.length) (hc:∀{S w ι O vs f},LRel S w ι O ob.cells vs f→LRel S w ι O cs vs f):∃F',RelAt n m G S ι F' ⟨T,O.set id ⟨cs,ob.ep,ob.size,ob.ty⟩⟩ a w:=by
 have hid:id<O.length:=(List.getElem?_eq_some_iff.1 ho).1
 have hlat:Later S w ι O S w ι (O.set id ⟨cs,ob.ep,ob.size,ob.ty⟩):=⟨fun _ h=>h,fun _ _=>rfl,fun i oi hi=>by
  by_cases e:i=id
  ·subst e;rw [ho] at hi;cases hi
   exact ⟨⟨cs,ob.ep,ob.size,ob.ty⟩,by rw [List.getElem?_set_self hid],.inr ⟨rfl,rfl,rfl⟩⟩
  ·exact ⟨oi,by rw [List.getElem?_set,if_neg (fun h=>e h.symm)];exact hi,.inr ⟨rfl,rfl,rfl⟩⟩⟩
 have hg:ObjAt S w ι (O.set id ⟨cs,ob.ep,ob.size,ob.ty⟩) ⟨cs,ob.ep,ob.size,ob.ty⟩ (ι id) (F id):=by
  have h:=hr.objs.obj id _ ho
  unfold ObjAt at h ⊢
  cases hs:ι id with
  |none=>rw [hs] at h;exact ⟨List.length_eq_zero_iff.1 (by show cs.length=0;rw [hlen,h.1];rfl),h.2⟩
  |some p=>
   obtain ⟨b,k⟩:=p
   rw [hs] at h
   obtain ⟨cur,t,fz,f',h1,h2,h3,h4,h5,h6,h7⟩:=h
   refine ⟨cur,t,fz,f',h1,h2,h3,by show cs.length≤k;omega,h5,h6,?_⟩
   show LRel S w ι _ cs (cur.toList.take cs.length) f'
   rw [hlen];exact (hc h7).mono hlat (fun _ _=>rfl)
 refine ⟨F,hr.defers,hr.size,fun t=>(hr.tmps t).mono hlat (by simp),⟨fun i oi hi=>?_,fun i hi=>hr.objs.nodup i (by simpa using hi),fun i j' hi hj hij b hb hb'=>hr.objs.apart i j' (by simpa using hi) (by simpa using hj) hij b hb hb'⟩,fun i hi b hb=>hr.foot i (by simpa using hi) b hb,hr.base,hr.stable,hr.keeps,hr.spots,by have:=hr.mle;simpa using this⟩
 have hi:(O.set id ⟨cs,ob.ep,ob.size,ob.ty⟩)[i]?=some oi:=hi
 by_cases e:i=id
 ·subst e
  rw [List.getElem?_set_self hid] at hi;cases hi
  exact hg
 ·rw [List.getElem?_set,if_neg (fun h=>e h.symm)] at hi
  have h:=hr.objs.obj i oi hi
  unfold ObjAt at h ⊢
  cases hs:ι i with
  |none=>rw [hs] at h;exact h
  |some p=>
   obtain ⟨b,k⟩:=p
   rw [hs] at h
   obtain ⟨cur,t,fz,f',h1,h2,h3,h4,h5,h6,h7⟩:=h
   exact ⟨cur,t,fz,f',h1,h2,h3,h4,h5,h6,h7.mono hlat (fun _ _=>rfl)⟩
theorem LRel.nilF {S w ι O} (s:Nat) {B:List AV}:∀(A:List AV) {vs f},LRel S w ι O (A++.nilS::B) vs f→LRel S w ι O (A++.fre s 0 []::B) vs f
 |[],vs,f,h=>by
  cases h with
  |nilS r=>exact .fre0 r
 |d::A,vs,f,h=>by
  obtain ⟨v,vs',f1,f2,rfl,hv,hr,rfl⟩:=LRel.uncons (cs:=A++.nilS::B) h
  exact LRel.cons hv (LRel.nilF s A hr)
theorem Weak.nilF {m id:Nat} {T:List (Nat×AV)} {O:List AObj} {A B:List AV} {ep sz:Nat} {te:Option TypeId} (s:Nat) (ho:O[id]?=some ⟨A++.nilS::B,ep,sz,te⟩):Weak m ⟨T,O⟩ ⟨T,O.set id ⟨A++.fre s 0 []::B,ep,sz,te⟩⟩:=by
 rintro n G a w ⟨S,ι,F,hr⟩
 obtain ⟨F',h⟩:=hr.cellsC (A++.fre s 0 []::B) ho (by simp) (fun h=>LRel.nilF s A h)
 exact ⟨S,ι,F',h⟩
end Go.Abs


namespace Go.Proofs.YtndflfipaddfoaaGreat
open Go Go.Abs
attribute [local irreducible] WpA WpL Rnd Blk Abs.Seq Abs.Fin Abs.FinG FnC FnG Only
attribute [local irreducible] prS unL unOk refL
def dcR (t:List UInt8):Fra:=if (prS t).c=0 then ((prS t).W,(prS t).H,refL (prS t).W (prS t).H (prS t).Q (prS t).B (prS t).D (prS t).ms) else (0,0,[])
theorem dcR_0 {t:List UInt8} (h:(prS t).c=0):dcR t=((prS t).W,(prS t).H,refL (prS t).W (prS t).H (prS t).Q (prS t).B (prS t).D (prS t).ms):=by unfold dcR;rw [if_pos h]
theorem dcR_1 {t:List UInt8} (h:(prS t).c≠0):dcR t=(0,0,[]):=by unfold dcR;rw [if_neg h]
attribute [local irreducible] dcR
theorem PlayReel_n (s:List UInt8) (hl:s.length≤1048576) (hok:unOk s=false):Fn 17 [Z s] [FaO [],XI []] (.tup [.own 0 0 0 0,.own 1 0 0 0]):=by
 refine FnC.of_body tabOk Tryz.func17 Tryz.ntmps17 rfl (by decide +kernel) (by simp) fun G=>?_
 refine go (r:=?_);and_intros<;>intros<;>try exact True.intro
 all_goals first|contradiction|(exfalso;rename_i hg2;revert hg2;simp [hok];done)
theorem PlayReel_o (s:List UInt8) (hl:s.length≤1048576) (hok:unOk s=true):Fn 17 [Z s] [FaO (mz dcR (unL s) (unL s).length),XI (mz dcC (unL s) (unL s).length)] (.tup [.own 0 0 0 (unL s).length,.own 1 0 0 (unL s).length]):=by
 have hu:=unL_len s
 have ht:=unL_tot s
 have hg:=fun k=>totR_get (unL s) k
 refine FnC.of_body tabOk Tryz.func17 Tryz.ntmps17 rfl (by decide +kernel) (by simp) fun G=>?_
 refine go (r:=?_);and_intros<;>intros<;>try exact True.intro
 all_goals first|contradiction|(exfalso;rename_i hg2;revert hg2;simp [hok];done)|skip
 generalize unL s=L at*
 refine WpA.loop (fun k:Nat=>⟨[(6,.own 1 0 0 k),(7,.own 2 0 0 k),(21,.own 0 0 0 L.length),(22,I L.length),(23,I k)],[SO L,FaO (mz dcR L k),XI (mz dcC L k)]⟩) (fun k=>k≤L.length) (fun k=>L.length-k) 0 (by omega) (go (r:=?_)) (fun k hk=>?_)
 ·and_intros<;>first|exact True.intro|rfl
 have hm1:=mz_snoc dcR L k
 have hm2:=mz_snoc dcC L k
 have hgk:=hg k
 by_cases hlt:k<L.length
 ·by_cases h0:(prS (L.getD k [])).c=0
  ·have hrd:=RefDecode_o (L.getD k []) (by omega) h0
   have hrl:=refL_len (b:=(prS (L.getD k [])).B) (d:=(prS (L.getD k [])).D) (prS_good h0)
   have hc0:dcC (L.getD k [])=0:=h0
   rw [dcR_0 h0] at hm1
   rw [hc0] at hm2
   generalize refL (prS (L.getD k [])).W (prS (L.getD k [])).H (prS (L.getD k [])).Q (prS (L.getD k [])).B (prS (L.getD k [])).D (prS (L.getD k [])).ms=R at*
   generalize (prS (L.getD k [])).W=W at*
   generalize (prS (L.getD k [])).H=H at*
   refine goR (r:=?_);and_intros<;>intros<;>try exact True.intro
   rw [Int.toNat_natCast]
   refine K.call ?_
   refine WpL.callF hrd snapA locA outA rfl rfl rfl (by decide) ?_
   refine goR (r:=?_);and_intros<;>intros<;>try exact True.intro
   all_goals first|contradiction|omega|exact hm2.symm|exact hm1.symm
  ·have hrd:=RefDecode_1 (L.getD k []) (by omega) h0
   rw [dcR_1 h0] at hm1
   have hcc:dcC (L.getD k [])=(prS (L.getD k [])).c:=rfl
   rw [hcc] at hm2
   generalize (prS (L.getD k [])).c=C at*
   refine WpA.hide fun Q' hQ'=>?_
   refine goR (r:=?_);and_intros<;>intros<;>try exact True.intro
   rw [Int.toNat_natCast]
   refine K.call ?_
   apply WpL.callK hrd
   ·exact .keep rfl rfl .nil
   ·decide
   refine goR (r:=?_);and_intros<;>intros<;>try exact True.intro
   all_goals first|contradiction|omega|skip
   subst hQ'
   refine Rnd.go (k+1) (by omega) (by omega) ?_
   have e1:(rows frF (mz dcR L k)++([I 0,I 0,.nilS]++[]))=(rows frF (mz dcR L k)++[I 0,I 0])++AV.nilS::[]:=by simp
   have e2:(rows frF (mz dcR L k)++[I 0,I 0])++AV.fre 1 0 []::[]=rows frF (mz dcR L (k+1)):=by rw [hm1,rows_append,rows_one];simp [frF,ints]
   refine Weak.trans (Weak.nilF (id:=1) (A:=rows frF (mz dcR L k)++[I 0,I 0]) (B:=[]) 1 (congrArg (fun z=>some (⟨z,0+1,3,some 24⟩:AObj)) e1)) ?_
   rw [e2,hm2]
   exact Weak.mk (by repeat (first|exact ReT.nil|refine ReT.cons (.keep rfl rfl .nil) ?_|refine ReT.cons (.own rfl rfl rfl rfl rfl rfl .nil) ?_|refine ReT.cons (.ptr rfl rfl rfl rfl .nil) ?_|refine ReT.cons (.keep (congrArg (fun z=>AV.sc (Value.int .i64 z)) (by first|omega|(skip))) rfl .nil) ?_|refine ReT.cons (.keep (congrArg (fun z:List UInt8=>AV.sc (Value.string ⟨z.toArray⟩)) (by skip)) rfl .nil) ?_|refine ReT.cons (.own rfl rfl rfl rfl rfl (by first|omega|(simp;done)|(simp;omega)) .nil) ?_)) (.cons (Re.same rfl (still_strs _)) (.inr rfl) (ReO.rows (fun _=>rfl) rfl (.inr rfl) (.cons (Re.same rfl (still_ints _)) (.inr rfl) .nil))) (Nat.zero_le _)
 ·have ek:k=L.length:=by omega
  subst ek
  refine go (r:=?_);and_intros<;>intros<;>try exact True.intro
  all_goals first|contradiction|omega|rfl
theorem un_no {s:List UInt8} (hh:unOk s=false):unL s=[]:=by
 unfold unOk at hh;unfold unL
 cases hx:unp 8 s with
 |none=>rfl
 |some y=>rw [hx] at hh;cases hh
theorem PlayReel_u (s:List UInt8) (hl:s.length≤1048576):Fn 17 [Z s] [FaO (mz dcR (unL s) (unL s).length),XI (mz dcC (unL s) (unL s).length)] (.tup [.own 0 0 0 (unL s).length,.own 1 0 0 (unL s).length]):=by
 cases h:unOk s with
 |true=>exact PlayReel_o s hl h
 |false=>rw [un_no h];exact PlayReel_n s hl h
end Go.Proofs.YtndflfipaddfoaaGreat


namespace Go.Proofs.YtndflfipaddfoaaGreat
open Go Go.Abs
attribute [local irreducible] WpA WpL Rnd Blk Abs.Seq Abs.Fin Abs.FinG FnC FnG Only
theorem dcR_F (t:List UInt8):fzF (decF t)=frI (dcR t):=by
 by_cases h:(prS t).c=0
 ·rw [dcR_0 h]
  have:decF t=⟨(prS t).W,(prS t).H,refL (prS t).W (prS t).H (prS t).Q (prS t).B (prS t).D (prS t).ms⟩:=by
   unfold decF bldF;rw [if_pos h,if_pos (prS_good h)]
  rw [this];rfl
 ·rw [dcR_1 h]
  have:decF t=⟨0,0,[]⟩:=by unfold decF;rw [if_neg h]
  rw [this];rfl
theorem dcR_rows (L:List (List UInt8)) (k:Nat):rows fzF (mz dcF L k)=rows frI (mz dcR L k):=by
 unfold mz rows
 rw [List.flatMap_map,List.flatMap_map]
 congr 1
 funext i
 exact dcR_F _
theorem dcR_len (t:List UInt8):(dcR t).2.2.length≤1024:=by
 by_cases h:(prS t).c=0
 ·rw [dcR_0 h];exact refL_len (b:=(prS t).B) (d:=(prS t).D) (prS_good h)
 ·rw [dcR_1 h];exact Nat.zero_le _
theorem fw_mz (L:List (List UInt8)):∀k,fw (mz dcR L k)≤1026*k
 |0=>Nat.le_refl _
 |k+1=>by
  have h1:=fw_mz L k
  have h2:=dcR_len (L.getD k [])
  rw [mz_snoc,fw_append,fw_cons,fw_nil];omega
theorem plyX (s:List UInt8) (hl:s.length≤1048576) (ys:List Fra) (cs:List Int) (h8:ys.length≤8) (hc8:cs.length≤8) (hfw:fw ys≤8208)
 (hs:Fn 16 [Z s] [] (.tup [FaL ys,IL cs]))
 (hi:Fn 17 [Z s] [FaO ys,XI cs] (.tup [.own 0 0 0 ys.length,.own 1 0 0 cs.length])):Fn 4 [Z s] [] (B true):=by
 have hsm:SmF 1099511627776 ys:=smF_of (by omega)
 have hml:=markF_len ys 1
 have hmw:=markF_fw ys 1
 have hmi:=markF_idem ys 1
 have hml2:∀k n,(marksI k n).length=n:=fun k n=>by simp [marksI]
 refine FnC.of_body tabOk Tryz.func4 Tryz.ntmps4 rfl (by decide +kernel) (by simp) fun G=>?_
 refine goR (r:=?_);and_intros<;>intros<;>try exact True.intro
 all_goals first|contradiction|omega|skip
 refine K.call ?_
 apply WpL.callK hs
 ·exact .keep rfl rfl .nil
 ·decide
 refine goR (r:=?_);and_intros<;>intros<;>try exact True.intro
 all_goals first|contradiction|omega|skip
 refine K.call ?_
 refine WpL.callF hi snapA locA outA rfl rfl rfl (by decide) ?_
 refine goR (r:=?_);and_intros<;>intros<;>try exact True.intro
 all_goals first|contradiction|omega|exact hmi.symm|(exfalso;rename_i hg;revert hg;simp;done)|(exfalso;rename_i hg;simp only [hmw,hml2,eq_self_iff_true,if_true] at hg;omega)|(exfalso;rename_i hg;simp only [hmw,hml2,eq_self_iff_true,if_true,not_true_eq_false] at hg;done)|skip
 refine K.call ?_
 refine WpL.callF hi snapA locA outA rfl rfl rfl (by decide) ?_
 refine goR (r:=?_);and_intros<;>intros<;>try exact True.intro
 all_goals first|contradiction|omega|exact hmi.symm|(exfalso;rename_i hg;revert hg;simp;done)|(exfalso;rename_i hg;simp only [hmw,hml2,eq_self_iff_true,if_true] at hg;omega)|(exfalso;rename_i hg;simp only [hmw,hml2,eq_self_iff_true,if_true,not_true_eq_false] at hg;done)
theorem plyX_big (p:List UInt8) (hl:p.length≤9223372036854775807) (hb:¬p.length≤1048576):Fn 4 [Z p] [] (B true):=by
 refine FnC.of_body tabOk Tryz.func4 Tryz.ntmps4 rfl (by decide +kernel) (by simp) fun G=>?_
 refine goR (r:=?_);and_intros<;>intros<;>try exact True.intro
 all_goals first|contradiction|omega
theorem FnExactPlayReel_c (p:List UInt8) (hl:p.length≤9223372036854775807):Fn 4 [Z p] [] (B true):=by
 by_cases hb:p.length≤1048576
 ·have hu:=unL_len p
  have hs:=PlayReel_sz p hb
  have hi:=PlayReel_u p hb
  have hf:=fw_mz (unL p) (unL p).length
  have h1:(mz dcR (unL p) (unL p).length).length=(unL p).length:=mz_len ..
  have h2:(mz dcC (unL p) (unL p).length).length=(unL p).length:=mz_len ..
  refine plyX p hb (mz dcR (unL p) (unL p).length) (mz dcC (unL p) (unL p).length) (by omega) (by omega) (by omega) ?_ ?_
  ·have e:FaL (mz dcR (unL p) (unL p).length)=.imm 3 (unL p).length (rows fzF (mz dcF (unL p) (unL p).length)):=by rw [dcR_rows];show AV.imm 3 _ _=_;rw [h1]
   have e2:IL (mz dcC (unL p) (unL p).length)=.imm 1 (unL p).length (ints (mz dcC (unL p) (unL p).length)):=by show AV.imm 1 _ _=_;rw [h2]
   rw [e,e2]
   exact FnC.stillT hs (.own rfl rfl rfl (by simp) rfl (Snap.same rfl (still_rows (fun _=>rfl) _) (nofre_rows (fun _=>rfl) _)) (.own rfl rfl rfl (by simp) rfl (Snap.same rfl (still_ints _) (nofre_ints _)) .nil))
  ·rw [h1,h2];exact hi
 ·exact plyX_big p hl hb
end Go.Proofs.YtndflfipaddfoaaGreat


namespace Go.Abs
open Go Go.RowKit
theorem FnC.walk {P:Program} {f:FuncId} {args:List AV} {N:List AObj} {x:Value} (hc:FnC P f args N (.sc x)) {w:World} {S:Nat→Prop} {vs:List Value} (hS:∀b,S b→b<w.heap.size)
 (hl:LRel S w (fun _=>none) [] args vs []):Calls P f vs.toArray w fun e w'=>e=.returned x∧Below w.heap.size w w':=by
 refine (hc.2 w S vs hS hl).mono fun e w' h=>?_
 obtain ⟨v,S',ι,F,rfl,_,_,_,_,_,hv,hk⟩:=h
 cases hv with
 |sc r=>exact ⟨rfl,hk.os,hk.tape,hk.output,hk.size,fun b hb=>hk.block b hb (fun h=>h)⟩
theorem spot_none {w:World} {x:Addr} {n:Nat} (h:0<n) (hc:∀i,i<n→∃v,w.cell? (x.add i)=some v):x.spot=none:=by
 obtain ⟨v,hv⟩:=hc 0 h
 simpa [Addr.add] using World.cell?_spot hv
end Go.Abs


namespace Go.Abs
open Go Go.RowKit
inductive Sp where
 |int (k:IntKind)|bool|str|struct (fs:List Sp)|slice (k:Nat) (e:Sp)
mutual
inductive SpOk (P:Program):TypeId→Sp→Prop
 |int {t k}:P.underlying t=some (.int k)→SpOk P t (.int k)
 |bool {t}:P.underlying t=some .bool→SpOk P t .bool
 |str {t}:P.underlying t=some .string→SpOk P t .str
 |struct {t fs sps n}:P.underlying t=some (.struct fs)→P.cellsOf t=n→SpF P 0 fs.toList sps n→SpOk P t (.struct sps)
 |slice {t e k sp}:P.underlying t=some (.slice e)→P.cellsOf e=k→0<k→SpOk P e sp→SpOk P t (.slice k sp)
inductive SpF (P:Program):Nat→List Field→List Sp→Nat→Prop
 |nil {k}:SpF P k [] [] k
 |cons {k c f fs sp sps n}:f.offset=k→P.cellsOf f.type=c→SpOk P f.type sp→SpF P (k+c) fs sps n→SpF P k (f::fs) (sp::sps) n
end
mutual
inductive Rd:Sp→List AV→Prop
 |int {k n}:(Lit.int k n).wf=true→Rd (.int k) [.sc (.int k n)]
 |bool {b}:Rd .bool [.sc (.bool b)]
 |str {p:List UInt8}:p.length≤maxLen→Rd .str [.sc (.string ⟨p.toArray⟩)]
 |struct {sps cs}:RdF sps cs→Rd (.struct sps) cs
 |slice {sp len k cs}:len≤maxLen→RdN sp len k cs→Rd (.slice k sp) [.imm k len cs]
inductive RdF:List Sp→List AV→Prop
 |nil:RdF [] []
 |cons {sp sps a b}:Rd sp a→RdF sps b→RdF (sp::sps) (a++b)
inductive RdN:Sp→Nat→Nat→List AV→Prop
 |nil {sp k}:RdN sp 0 k []
 |snoc {sp n k a b}:RdN sp n k a→Rd sp b→b.length=k→RdN sp (n+1) k (a++b)
end
theorem RdN.len {sp n k cs} (h:RdN sp n k cs):cs.length=n*k:=by
 induction n generalizing cs with
 |zero=>cases h;simp
 |succ n ih=>cases h with|snoc h1 h2 h3=>rw [List.length_append,ih h1,h3,Nat.add_mul];omega
section
variable {H:Type} {enc:TypeId×Value→H} {P:Program} {w:World} {base:Nat} {spare:Nat→Bool} {held:Bool}
theorem read {S:Nat→Prop} {ι:Nat→Spot} (hS:∀b,b<w.heap.size→S b):∀(fuel:Nat) (t:TypeId) (sp:Sp) (cs:List Value) (x:DataW H×List MemPlace),SpOk P t sp→
 DataW.trod enc P w base spare held fuel t cs=some x→∃ds,Rd sp ds∧∀O,LRel S w ι O ds cs []:=by
 intro fuel
 induction fuel with
 |zero=>intro t sp cs x _ h;simp [DataW.trod] at h
 |succ fuel ih=>
  intro t sp cs x hsp h
  cases hsp with
  |int ht=>
   obtain ⟨n,rfl,_,hw⟩:=DataW.trod_int ht h
   exact ⟨_,.int hw,fun O=>.sc .nil⟩
  |bool ht=>
   obtain ⟨b,rfl,_⟩:=DataW.trod_bool ht h
   exact ⟨_,.bool,fun O=>.sc .nil⟩
  |str ht=>
   obtain ⟨s,rfl,_,hs⟩:=DataW.trod_string ht h
   exact ⟨[.sc (.string ⟨s.data.toList.toArray⟩)],.str (by have:s.data.toList.length=s.size:=rfl;omega),fun O=>.sc .nil⟩
  |@struct _ fs sps n ht hn hf=>
   obtain ⟨xs,m,hm,_,hlen,hxl,hel⟩:=DataW.trod_struct ht h
   obtain rfl:fuel=m:=by omega
   have key:∀(fl:List Field) (k:Nat) (sps:List Sp),SpF P k fl sps n→(∀ f∈fl,∃x,DataW.trod enc P w base spare held fuel f.type ((cs.drop f.offset).take (P.cellsOf f.type))=some x)→
    k≤n→∃ds,RdF sps ds∧∀O,LRel S w ι O ds (cs.drop k) []:=by
    intro fl
    induction fl with
    |nil=>
     intro k sps hF _ _
     cases hF
     exact ⟨[],.nil,fun O=>by rw [List.drop_eq_nil_of_le (by omega)];exact .nil⟩
    |cons f fl ihf=>
     intro k sps hF hx hk
     cases hF with
     |cons h1 h2 h3 h4=>
      obtain ⟨y,hy⟩:=hx f (by simp)
      obtain ⟨d1,r1,l1⟩:=ih _ _ _ _ h3 hy
      have hkn:∀{k fl sps},SpF P k fl sps n→k≤n:=by
       intro k fl
       induction fl generalizing k with
       |nil=>intro sps h;cases h;exact Nat.le_refl _
       |cons f fl ih2=>intro sps h;cases h with|cons _ _ _ h=>have:=ih2 h;omega
      obtain ⟨d2,r2,l2⟩:=ihf _ _ h4 (fun g hg=>hx g (by simp [hg])) (hkn h4)
      refine ⟨d1++d2,.cons r1 r2,fun O=>?_⟩
      have e:cs.drop k=(cs.drop f.offset).take (P.cellsOf f.type)++cs.drop (k+P.cellsOf f.type):=by
       rw [h1,←List.drop_drop,List.take_append_drop]
      rw [e,h2]
      rw [h2] at l1
      simpa using (l1 O).append (l2 O)
   obtain ⟨ds,r,l⟩:=key fs.toList 0 sps hf (fun f hf'=>by
    obtain ⟨i,hi⟩:=List.getElem?_of_mem hf'
    have hi':fs[i]?=some f:=by simpa using hi
    have:=hel i f hi'
    have hlt:i<xs.length:=by have:=(Array.getElem?_eq_some_iff.1 hi').1;omega
    exact ⟨xs[i],by rw [this];simp [hlt]⟩) (Nat.zero_le _)
   exact ⟨ds,.struct r,fun O=>by simpa using l O⟩
  |@slice _ e k sp ht hk hk0 he=>
   rcases DataW.trod_slice ht h with ⟨rfl,_⟩|⟨a,len,cap,elems,rest,m,hm,rfl,_,hb,hl,hc,hlen,hel,_,_⟩
   ·exact ⟨[.imm k 0 []],.slice (by simp) .nil,fun O=>.imm0 (by simp) .nil⟩
   obtain rfl:fuel=m:=by omega
   have cells:∀j,j≤len→∃ds us,RdN sp j k ds∧us.length=j*k∧(∀ i,i<us.length→w.cell? (a.add i)=us[i]?)∧LRel S w ι [] ds us []:=by
    intro j
    induction j with
    |zero=>intro _;exact ⟨[],[],.nil,by simp,by simp,.nil⟩
    |succ j ihj=>
     intro hj
     obtain ⟨ds,us,h1,h2,h3,h4⟩:=ihj (by omega)
     have hx:=hel j (by omega)
     have hlt:j<elems.length:=by omega
     rw [List.getElem?_eq_getElem hlt,Option.bind_eq_some_iff,hk] at hx
     obtain ⟨us2,hu,ht2⟩:=hx
     obtain ⟨d2,r2,l2⟩:=ih _ _ _ _ he ht2
     obtain ⟨_,c2,c3⟩:=World.cells?_some hu
     have l2':=l2 []
     have hd2:d2.length=k:=by rw [l2'.len,c2]
     refine ⟨ds++d2,us++us2,.snoc h1 r2 hd2,by rw [List.length_append,h2,c2,Nat.add_mul];omega,fun i hi=>?_,by simpa using h4.append l2'⟩
     rw [List.length_append] at hi
     by_cases hlt2:i<us.length
     ·rw [h3 i hlt2,List.getElem?_append_left hlt2]
     ·have hadd:a.add i=(a.add (j*k)).add (i-j*k):=by
       unfold Addr.add
       by_cases hz:j*k=0
       ·simp [hz]
       ·by_cases hz2:i-j*k=0
        ·have:i=j*k:=by omega
         simp [this]
        ·rw [if_neg (by omega),if_neg hz,if_neg hz2]
         simp only [Addr.mk.injEq,true_and,and_true]
         omega
      rw [hadd,c3 (i-j*k) (by omega),List.getElem?_append_right (by omega),h2]
   obtain ⟨ds,us,h1,h2,h3,h4⟩:=cells len (Nat.le_refl _)
   refine ⟨[.imm k len ds],.slice (by omega) h1,fun O=>?_⟩
   by_cases h0:len=0
   ·subst h0
    cases h1
    exact .imm0 ⟨by simp,hc⟩ .nil
   ·have hul:0<us.length:=by rw [h2];exact Nat.mul_pos (by omega) hk0
    have hsp:=spot_none (w:=w) (x:=a) (n:=us.length) hul fun i hi=>⟨us[i],by rw [h3 i hi];simp [hi]⟩
    obtain ⟨b,o,q⟩:=a
    simp only at hsp
    subst hsp
    have hcell:∀i,i<us.length→w.cell? ⟨b,o+i,none⟩=us[i]?:=fun i hi=>by have:=h3 i hi;rwa [addr_add] at this
    refine .imm (us:=us) (hS _ ?_) hcell h4 (by rw [h1.len]) hl hc .nil
    by_cases hb':b<w.heap.size
    ·exact hb'
    ·have:=hcell 0 hul
     simp [World.cell?,Array.getElem?_eq_none (Nat.le_of_not_lt hb'),hul] at this
end
end Go.Abs


namespace Go.Abs
open Go Go.RowKit
abbrev i64 (n:Int):Prop:=-9223372036854775808≤n∧n≤9223372036854775807
theorem rd_str {ds:List AV} (h:Rd .str ds):∃p:List UInt8,ds=[Z p]∧p.length≤9223372036854775807:=by
 cases h with|str hp=>exact ⟨_,rfl,by simp only [maxLen] at hp;omega⟩
theorem lrel_cons0 {S:Nat→Prop} {w:World} {ι:Nat→Spot} {O:List AObj} {V:AV} {v:Value} {cs:List AV} {vs:List Value} (h1:VRel S w ι O V v []) (h2:LRel S w ι O cs vs []):LRel S w ι O (V::cs) (v::vs) []:=LRel.cons h1 h2
end Go.Abs
