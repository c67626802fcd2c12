/- Proved in this text: lemmas and contracts of functions that the claim uses (parts: FasG, BldO, DecO, PutM, FdX, Bridge, Read, Read2). No condition. -/
import Derived.Test.YtndflfipaddfoaaGreatFdM14
import Derived.Test.YtndflfipaddfoaaGreatFdM16
import Derived.Test.YtndflfipaddfoaaGreatFdM17
import Derived.Test.YtndflfipaddfoaaGreatFdM12
import Derived.Test.YtndflfipaddfoaaGreatFdM2
import Derived.Below
import Derived.ChangeArms
import Derived.Test.YtndflfipaddfoaaGreatFdM3
set_option linter.unusedVariables false
set_option linter.unusedSimpArgs false
set_option maxRecDepth 100000
set_option maxHeartbeats 16000000


namespace Go.Proofs.YtndflfipaddfoaaGreat
open Go Go.Abs
attribute [local irreducible] WpA WpL Rnd Blk Abs.Seq Abs.Fin Abs.FinG FnC FnG Only
section
attribute [-instance] FastParse_s FrameNew_s PutFast_s
attribute [local irreducible] prS bldB bldM putL dbL
theorem FastDecode_s1 (p:List UInt8) (hl:p.length≤1048576) (h0:(prS p).c≠0):Fn 11 [Z p] [] (.tup [.agg [I 0,I 0,.nilS],I (prS p).c]):=by
 have hz:=prS_sz p
 have hlen:(prS p).ms.length*2=(rows Abs.mbF (prS p).ms).length:=(rows_len (f:=Abs.mbF) (k:=2) (fun _=>rfl) (prS p).ms).symm
 refine FnC.of_body tabOk Tryz.func11 Tryz.ntmps11 rfl (by decide +kernel) (by simp) fun G=>?_
 refine goR (r:=?_);and_intros<;>intros<;>try exact True.intro
 refine K.call ?_
 apply WpL.callI (FastParse_s.ok p (by omega))
 ·exact snapA
 ·exact locA
 ·exact outA
 ·exact FrzR.tup (.agg (.keep rfl rfl (.keep rfl rfl (.keep rfl rfl (.keep rfl rfl (.keep rfl rfl (.own rfl rfl rfl (by simp) rfl (Snap.same rfl (still_ints _) (nofre_ints _)) (.own rfl rfl rfl hlen rfl (Snap.rows snap_mb _) .nil))))))) (.keep rfl rfl (.keep rfl rfl .nil)))
 ·decide
 refine goR (r:=?_);and_intros<;>intros<;>try exact True.intro
 all_goals first|contradiction|omega
theorem FastDecode_s0 (p:List UInt8) (hl:p.length≤1048576) (h0:(prS p).c=0):Fn 11 [Z p] [] (.tup [FrA (prS p).W (prS p).H (refL (prS p).W (prS p).H (prS p).Q (prS p).B (prS p).D (prS p).ms),I 0]):=by
 have hz:=prS_sz p
 have hlen:(prS p).ms.length*2=(rows Abs.mbF (prS p).ms).length:=(rows_len (f:=Abs.mbF) (k:=2) (fun _=>rfl) (prS p).ms).symm
 have hok:=prS_good h0
 have hpc:=FastParse_s.ok p (by omega)
 rw [h0] at hpc
 unfold StV at hpc
 have hsmM:=hz.2.2.2
 generalize (prS p).W=w at*
 generalize (prS p).H=h at*
 generalize (prS p).Q=q at*
 generalize (prS p).B=b at*
 generalize (prS p).D=d at*
 generalize (prS p).L=L at*
 generalize (prS p).ms=M at*
 generalize (prS p).a=pa at*
 have hsd:=hok.1.1
 have hcm:=cntM_bd hsd
 have hM16:M.length≤16:=by have:=hok.2.1;omega
 have hzp:(zerP w h).length≤1024:=by
  unfold zerP
  rw [List.length_replicate]
  have h2:w*h≤32*32:=Int.mul_le_mul hsd.2.1 hsd.2.2.2.1 (by have:=hsd.2.2.1;omega) (by omega)
  omega
 unfold refL
 refine FnC.of_body tabOk Tryz.func11 Tryz.ntmps11 rfl (by decide +kernel) (by simp) fun G=>?_
 refine goR (r:=?_);and_intros<;>intros<;>try exact True.intro
 refine K.call ?_
 apply WpL.callI hpc
 ·exact snapA
 ·exact locA
 ·exact outA
 ·exact FrzR.tup (.agg (.keep rfl rfl (.keep rfl rfl (.keep rfl rfl (.keep rfl rfl (.keep rfl rfl (.own rfl rfl rfl (by simp) rfl (Snap.same rfl (still_ints _) (nofre_ints _)) (.own rfl rfl rfl hlen rfl (Snap.rows snap_mb _) .nil))))))) (.keep rfl rfl (.keep rfl rfl .nil)))
 ·decide
 refine goR (r:=?_);and_intros<;>intros<;>try exact True.intro
 all_goals first|contradiction|omega|skip
 refine K.call ?_
 apply WpL.callI (FrameNew_s.ok w h hsd)
 ·exact snapA
 ·exact locA
 ·exact outA
 ·exact frzA
 ·decide
 refine goR (r:=?_);and_intros<;>intros<;>try exact True.intro
 all_goals first|contradiction|omega|skip
 have hzl:(w*h).toNat=(zerP w h).length:=by simp [zerP]
 rw [show (List.replicate (w*h).toNat (0:Int))=zerP w h from rfl,hzl]
 have hP0:FrameOk w h (zerP w h):=by
  refine ⟨hsd,?_,?_⟩
  ·unfold zerP;rw [List.length_replicate];have h1:8*8≤w*h:=Int.mul_le_mul hsd.1 hsd.2.2.1 (by omega) (by have:=hsd.1;omega);omega
  ·unfold zerP In;intro v hv;rw [List.eq_of_mem_replicate hv];decide
 generalize zerP w h=P0 at*
 refine WpA.loop (fun k:Nat=>⟨[(2,.ptr 0 0 0),(4,.ptr 1 0 0),(6,I 0),(7,.ptr 2 0 0),(8,I k)],[⟨[I 0,I 0,.nilS],0,0,none⟩,⟨[I w,I h,I q,B b,B d,IL L,MbL M],0,0,none⟩,FrO w h (bldM w h q b M P0 k)]⟩) (fun k=>k≤M.length) (fun k=>M.length-k) 0 (Nat.zero_le _) (go (r:=?_)) (fun k hk=>?_)
 ·and_intros<;>first|exact True.intro|rfl|(rw [bldM_zero];exact .keep rfl rfl .nil)
 have hbl:=bldM_len w h q b M P0 k
 by_cases hlt:k<M.length
 ·have hmb:=ok_blk hok hlt
  have hsc:=bldM_succ w h q b M P0 k
  have hbl4:(M.getD k default).2.length=manyE (M.getD k default).1:=by have:=hmb.1;revert this;cases (M.getD k default).1<;>simp [nm8,manyE]<;>omega
  have hm4:manyE (M.getD k default).1≤4:=by cases (M.getD k default).1<;>decide
  refine goR (r:=?_);and_intros<;>intros<;>try exact True.intro
  all_goals first|contradiction|omega|skip
  refine WpA.loop (fun i:Nat=>⟨[(2,.ptr 0 0 0),(4,.ptr 1 0 0),(6,I 0),(7,.ptr 2 0 0),(8,I k),(9,I i)],[⟨[I 0,I 0,.nilS],0,0,none⟩,⟨[I w,I h,I q,B b,B d,IL L,MbL M],0,0,none⟩,FrO w h (bldB w h q b (sz8 (M.getD k default).1) k (M.getD k default).2 (bldM w h q b M P0 k) i)]⟩) (fun i=>i≤(M.getD k default).2.length) (fun i=>(M.getD k default).2.length-i) 0 (Nat.zero_le _) (go (r:=?_)) (fun i hi=>?_)
  ·and_intros<;>first|exact True.intro|rfl|(rw [bldB_zero];exact .keep rfl rfl .nil)
  have hil:=bldB_len w h q b (sz8 (M.getD k default).1) k (M.getD k default).2 (bldM w h q b M P0 k) i
  by_cases hlt2:i<(M.getD k default).2.length
  ·have hbo:=ok_lv hmb (k:=i) (by omega)
   have hbn:=hbo.2.2.1
   have hsu:=bldB_succ w h q b (sz8 (M.getD k default).1) k (M.getD k default).2 (bldM w h q b M P0 k) i
   have hlv:((M.getD k default).2.getD i default).2.length≤64:=by revert hbn;cases (M.getD k default).1<;>simp [sz8]<;>omega
   generalize hPk:bldM w h q b M P0 k=Pk at*
   generalize hPi:bldB w h q b (sz8 (M.getD k default).1) k (M.getD k default).2 Pk i=Pi at*
   have hpu:=putL_len w h Pi q b (plc1 w (sz8 (M.getD k default).1) k i).1 (plc1 w (sz8 (M.getD k default).1) k i).2.1 ((M.getD k default).2.getD i default).1 ((M.getD k default).2.getD i default).2
   refine goR (r:=?_);and_intros<;>intros<;>try exact True.intro
   all_goals first|contradiction|omega|skip
   have hsp:(8≤w∧w≤1024∧k≤1048576)∧i<manyE (M.getD k default).1:=⟨by omega,by omega⟩
   try dsimp only [List.append,List.cons_append,List.nil_append]
   apply WpA.regionMG 16 mixed (by decide +kernel)
   ·exact rfl
   ·exact headG
   ·exact trueA
   ·exact trueA
   ·exact rfl
   ·exact rfl
   refine goR (r:=?_);and_intros<;>intros<;>try exact True.intro
   all_goals first|contradiction|omega|skip
   try dsimp only [List.append,List.cons_append,List.nil_append]
   apply WpA.regionGB 19 mixed (by decide +kernel)
   ·exact rfl
   ·first
     |(apply HeadG.preF 0 rfl rfl rfl
       ·exact rfl
       ·exact in0
       ·exact rfl)
     |(apply HeadG.hole0 rfl rfl rfl
       ·exact rfl
       ·exact in0
       ·exact rfl)
     |(apply HeadG.hole1 rfl rfl rfl
       ·exact rfl
       ·exact in0
       ·exact rfl)
     |(apply HeadG.hole2 rfl rfl rfl
       ·exact rfl
       ·exact in0
       ·exact rfl)
     |(apply HeadG.hole3 rfl rfl rfl
       ·exact rfl
       ·exact in0
       ·exact rfl)
     |(apply HeadG.hole4 rfl rfl rfl
       ·exact rfl
       ·exact in0
       ·exact rfl)
     |(apply HeadG.hole5 rfl rfl rfl
       ·exact rfl
       ·exact in0
       ·exact rfl)
     |(apply HeadG.hole6 rfl rfl rfl
       ·exact rfl
       ·exact in0
       ·exact rfl)
     |(apply HeadG.hole7 rfl rfl rfl
       ·exact rfl
       ·exact in0
       ·exact rfl)
     |(apply HeadG.hole8 rfl rfl rfl
       ·exact rfl
       ·exact in0
       ·exact rfl)
     |(apply HeadG.stepF rfl rfl
       ·exact rfl
       ·exact in1
       ·exact rfl)
     |(apply HeadG.stepNF rfl
       ·exact rfl
       ·exact in1
       ·exact rfl)
    first
     |(apply HeadG.preF 0 rfl rfl rfl
       ·exact rfl
       ·exact in0
       ·exact rfl)
     |(apply HeadG.hole0 rfl rfl rfl
       ·exact rfl
       ·exact in0
       ·exact rfl)
     |(apply HeadG.hole1 rfl rfl rfl
       ·exact rfl
       ·exact in0
       ·exact rfl)
     |(apply HeadG.hole2 rfl rfl rfl
       ·exact rfl
       ·exact in0
       ·exact rfl)
     |(apply HeadG.hole3 rfl rfl rfl
       ·exact rfl
       ·exact in0
       ·exact rfl)
     |(apply HeadG.hole4 rfl rfl rfl
       ·exact rfl
       ·exact in0
       ·exact rfl)
     |(apply HeadG.hole5 rfl rfl rfl
       ·exact rfl
       ·exact in0
       ·exact rfl)
     |(apply HeadG.hole6 rfl rfl rfl
       ·exact rfl
       ·exact in0
       ·exact rfl)
     |(apply HeadG.hole7 rfl rfl rfl
       ·exact rfl
       ·exact in0
       ·exact rfl)
     |(apply HeadG.hole8 rfl rfl rfl
       ·exact rfl
       ·exact in0
       ·exact rfl)
     |(apply HeadG.stepF rfl rfl
       ·exact rfl
       ·exact in1
       ·exact rfl)
     |(apply HeadG.stepNF rfl
       ·exact rfl
       ·exact in1
       ·exact rfl)
    first
     |(apply HeadG.preF 0 rfl rfl rfl
       ·exact rfl
       ·exact in0
       ·exact rfl)
     |(apply HeadG.hole0 rfl rfl rfl
       ·exact rfl
       ·exact in0
       ·exact rfl)
     |(apply HeadG.hole1 rfl rfl rfl
       ·exact rfl
       ·exact in0
       ·exact rfl)
     |(apply HeadG.hole2 rfl rfl rfl
       ·exact rfl
       ·exact in0
       ·exact rfl)
     |(apply HeadG.hole3 rfl rfl rfl
       ·exact rfl
       ·exact in0
       ·exact rfl)
     |(apply HeadG.hole4 rfl rfl rfl
       ·exact rfl
       ·exact in0
       ·exact rfl)
     |(apply HeadG.hole5 rfl rfl rfl
       ·exact rfl
       ·exact in0
       ·exact rfl)
     |(apply HeadG.hole6 rfl rfl rfl
       ·exact rfl
       ·exact in0
       ·exact rfl)
     |(apply HeadG.hole7 rfl rfl rfl
       ·exact rfl
       ·exact in0
       ·exact rfl)
     |(apply HeadG.hole8 rfl rfl rfl
       ·exact rfl
       ·exact in0
       ·exact rfl)
     |(apply HeadG.stepF rfl rfl
       ·exact rfl
       ·exact in1
       ·exact rfl)
     |(apply HeadG.stepNF rfl
       ·exact rfl
       ·exact in1
       ·exact rfl)
    first
     |(apply HeadG.preF 0 rfl rfl rfl
       ·exact rfl
       ·exact in0
       ·exact rfl)
     |(apply HeadG.hole0 rfl rfl rfl
       ·exact rfl
       ·exact in0
       ·exact rfl)
     |(apply HeadG.hole1 rfl rfl rfl
       ·exact rfl
       ·exact in0
       ·exact rfl)
     |(apply HeadG.hole2 rfl rfl rfl
       ·exact rfl
       ·exact in0
       ·exact rfl)
     |(apply HeadG.hole3 rfl rfl rfl
       ·exact rfl
       ·exact in0
       ·exact rfl)
     |(apply HeadG.hole4 rfl rfl rfl
       ·exact rfl
       ·exact in0
       ·exact rfl)
     |(apply HeadG.hole5 rfl rfl rfl
       ·exact rfl
       ·exact in0
       ·exact rfl)
     |(apply HeadG.hole6 rfl rfl rfl
       ·exact rfl
       ·exact in0
       ·exact rfl)
     |(apply HeadG.hole7 rfl rfl rfl
       ·exact rfl
       ·exact in0
       ·exact rfl)
     |(apply HeadG.hole8 rfl rfl rfl
       ·exact rfl
       ·exact in0
       ·exact rfl)
     |(apply HeadG.stepF rfl rfl
       ·exact rfl
       ·exact in1
       ·exact rfl)
     |(apply HeadG.stepNF rfl
       ·exact rfl
       ·exact in1
       ·exact rfl)
    first
     |(apply HeadG.preF 0 rfl rfl rfl
       ·exact rfl
       ·exact in0
       ·exact rfl)
     |(apply HeadG.hole0 rfl rfl rfl
       ·exact rfl
       ·exact in0
       ·exact rfl)
     |(apply HeadG.hole1 rfl rfl rfl
       ·exact rfl
       ·exact in0
       ·exact rfl)
     |(apply HeadG.hole2 rfl rfl rfl
       ·exact rfl
       ·exact in0
       ·exact rfl)
     |(apply HeadG.hole3 rfl rfl rfl
       ·exact rfl
       ·exact in0
       ·exact rfl)
     |(apply HeadG.hole4 rfl rfl rfl
       ·exact rfl
       ·exact in0
       ·exact rfl)
     |(apply HeadG.hole5 rfl rfl rfl
       ·exact rfl
       ·exact in0
       ·exact rfl)
     |(apply HeadG.hole6 rfl rfl rfl
       ·exact rfl
       ·exact in0
       ·exact rfl)
     |(apply HeadG.hole7 rfl rfl rfl
       ·exact rfl
       ·exact in0
       ·exact rfl)
     |(apply HeadG.hole8 rfl rfl rfl
       ·exact rfl
       ·exact in0
       ·exact rfl)
     |(apply HeadG.stepF rfl rfl
       ·exact rfl
       ·exact in1
       ·exact rfl)
     |(apply HeadG.stepNF rfl
       ·exact rfl
       ·exact in1
       ·exact rfl)
    first
     |(apply HeadG.preF 0 rfl rfl rfl
       ·exact rfl
       ·exact in0
       ·exact rfl)
     |(apply HeadG.hole0 rfl rfl rfl
       ·exact rfl
       ·exact in0
       ·exact rfl)
     |(apply HeadG.hole1 rfl rfl rfl
       ·exact rfl
       ·exact in0
       ·exact rfl)
     |(apply HeadG.hole2 rfl rfl rfl
       ·exact rfl
       ·exact in0
       ·exact rfl)
     |(apply HeadG.hole3 rfl rfl rfl
       ·exact rfl
       ·exact in0
       ·exact rfl)
     |(apply HeadG.hole4 rfl rfl rfl
       ·exact rfl
       ·exact in0
       ·exact rfl)
     |(apply HeadG.hole5 rfl rfl rfl
       ·exact rfl
       ·exact in0
       ·exact rfl)
     |(apply HeadG.hole6 rfl rfl rfl
       ·exact rfl
       ·exact in0
       ·exact rfl)
     |(apply HeadG.hole7 rfl rfl rfl
       ·exact rfl
       ·exact in0
       ·exact rfl)
     |(apply HeadG.hole8 rfl rfl rfl
       ·exact rfl
       ·exact in0
       ·exact rfl)
     |(apply HeadG.stepF rfl rfl
       ·exact rfl
       ·exact in1
       ·exact rfl)
     |(apply HeadG.stepNF rfl
       ·exact rfl
       ·exact in1
       ·exact rfl)
    first
     |(apply HeadG.preF 0 rfl rfl rfl
       ·exact rfl
       ·exact in0
       ·exact rfl)
     |(apply HeadG.hole0 rfl rfl rfl
       ·exact rfl
       ·exact in0
       ·exact rfl)
     |(apply HeadG.hole1 rfl rfl rfl
       ·exact rfl
       ·exact in0
       ·exact rfl)
     |(apply HeadG.hole2 rfl rfl rfl
       ·exact rfl
       ·exact in0
       ·exact rfl)
     |(apply HeadG.hole3 rfl rfl rfl
       ·exact rfl
       ·exact in0
       ·exact rfl)
     |(apply HeadG.hole4 rfl rfl rfl
       ·exact rfl
       ·exact in0
       ·exact rfl)
     |(apply HeadG.hole5 rfl rfl rfl
       ·exact rfl
       ·exact in0
       ·exact rfl)
     |(apply HeadG.hole6 rfl rfl rfl
       ·exact rfl
       ·exact in0
       ·exact rfl)
     |(apply HeadG.hole7 rfl rfl rfl
       ·exact rfl
       ·exact in0
       ·exact rfl)
     |(apply HeadG.hole8 rfl rfl rfl
       ·exact rfl
       ·exact in0
       ·exact rfl)
     |(apply HeadG.stepF rfl rfl
       ·exact rfl
       ·exact in1
       ·exact rfl)
     |(apply HeadG.stepNF rfl
       ·exact rfl
       ·exact in1
       ·exact rfl)
    first
     |(apply HeadG.preF 0 rfl rfl rfl
       ·exact rfl
       ·exact in0
       ·exact rfl)
     |(apply HeadG.hole0 rfl rfl rfl
       ·exact rfl
       ·exact in0
       ·exact rfl)
     |(apply HeadG.hole1 rfl rfl rfl
       ·exact rfl
       ·exact in0
       ·exact rfl)
     |(apply HeadG.hole2 rfl rfl rfl
       ·exact rfl
       ·exact in0
       ·exact rfl)
     |(apply HeadG.hole3 rfl rfl rfl
       ·exact rfl
       ·exact in0
       ·exact rfl)
     |(apply HeadG.hole4 rfl rfl rfl
       ·exact rfl
       ·exact in0
       ·exact rfl)
     |(apply HeadG.hole5 rfl rfl rfl
       ·exact rfl
       ·exact in0
       ·exact rfl)
     |(apply HeadG.hole6 rfl rfl rfl
       ·exact rfl
       ·exact in0
       ·exact rfl)
     |(apply HeadG.hole7 rfl rfl rfl
       ·exact rfl
       ·exact in0
       ·exact rfl)
     |(apply HeadG.hole8 rfl rfl rfl
       ·exact rfl
       ·exact in0
       ·exact rfl)
     |(apply HeadG.stepF rfl rfl
       ·exact rfl
       ·exact in1
       ·exact rfl)
     |(apply HeadG.stepNF rfl
       ·exact rfl
       ·exact in1
       ·exact rfl)
    first
     |(apply HeadG.preF 0 rfl rfl rfl
       ·exact rfl
       ·exact in0
       ·exact rfl)
     |(apply HeadG.hole0 rfl rfl rfl
       ·exact rfl
       ·exact in0
       ·exact rfl)
     |(apply HeadG.hole1 rfl rfl rfl
       ·exact rfl
       ·exact in0
       ·exact rfl)
     |(apply HeadG.hole2 rfl rfl rfl
       ·exact rfl
       ·exact in0
       ·exact rfl)
     |(apply HeadG.hole3 rfl rfl rfl
       ·exact rfl
       ·exact in0
       ·exact rfl)
     |(apply HeadG.hole4 rfl rfl rfl
       ·exact rfl
       ·exact in0
       ·exact rfl)
     |(apply HeadG.hole5 rfl rfl rfl
       ·exact rfl
       ·exact in0
       ·exact rfl)
     |(apply HeadG.hole6 rfl rfl rfl
       ·exact rfl
       ·exact in0
       ·exact rfl)
     |(apply HeadG.hole7 rfl rfl rfl
       ·exact rfl
       ·exact in0
       ·exact rfl)
     |(apply HeadG.hole8 rfl rfl rfl
       ·exact rfl
       ·exact in0
       ·exact rfl)
     |(apply HeadG.stepF rfl rfl
       ·exact rfl
       ·exact in1
       ·exact rfl)
     |(apply HeadG.stepNF rfl
       ·exact rfl
       ·exact in1
       ·exact rfl)
    first
     |(apply HeadG.preF 0 rfl rfl rfl
       ·exact rfl
       ·exact in0
       ·exact rfl)
     |(apply HeadG.hole0 rfl rfl rfl
       ·exact rfl
       ·exact in0
       ·exact rfl)
     |(apply HeadG.hole1 rfl rfl rfl
       ·exact rfl
       ·exact in0
       ·exact rfl)
     |(apply HeadG.hole2 rfl rfl rfl
       ·exact rfl
       ·exact in0
       ·exact rfl)
     |(apply HeadG.hole3 rfl rfl rfl
       ·exact rfl
       ·exact in0
       ·exact rfl)
     |(apply HeadG.hole4 rfl rfl rfl
       ·exact rfl
       ·exact in0
       ·exact rfl)
     |(apply HeadG.hole5 rfl rfl rfl
       ·exact rfl
       ·exact in0
       ·exact rfl)
     |(apply HeadG.hole6 rfl rfl rfl
       ·exact rfl
       ·exact in0
       ·exact rfl)
     |(apply HeadG.hole7 rfl rfl rfl
       ·exact rfl
       ·exact in0
       ·exact rfl)
     |(apply HeadG.hole8 rfl rfl rfl
       ·exact rfl
       ·exact in0
       ·exact rfl)
     |(apply HeadG.stepF rfl rfl
       ·exact rfl
       ·exact in1
       ·exact rfl)
     |(apply HeadG.stepNF rfl
       ·exact rfl
       ·exact in1
       ·exact rfl)
    first
     |(apply HeadG.preF 0 rfl rfl rfl
       ·exact rfl
       ·exact in0
       ·exact rfl)
     |(apply HeadG.hole0 rfl rfl rfl
       ·exact rfl
       ·exact in0
       ·exact rfl)
     |(apply HeadG.hole1 rfl rfl rfl
       ·exact rfl
       ·exact in0
       ·exact rfl)
     |(apply HeadG.hole2 rfl rfl rfl
       ·exact rfl
       ·exact in0
       ·exact rfl)
     |(apply HeadG.hole3 rfl rfl rfl
       ·exact rfl
       ·exact in0
       ·exact rfl)
     |(apply HeadG.hole4 rfl rfl rfl
       ·exact rfl
       ·exact in0
       ·exact rfl)
     |(apply HeadG.hole5 rfl rfl rfl
       ·exact rfl
       ·exact in0
       ·exact rfl)
     |(apply HeadG.hole6 rfl rfl rfl
       ·exact rfl
       ·exact in0
       ·exact rfl)
     |(apply HeadG.hole7 rfl rfl rfl
       ·exact rfl
       ·exact in0
       ·exact rfl)
     |(apply HeadG.hole8 rfl rfl rfl
       ·exact rfl
       ·exact in0
       ·exact rfl)
     |(apply HeadG.stepF rfl rfl
       ·exact rfl
       ·exact in1
       ·exact rfl)
     |(apply HeadG.stepNF rfl
       ·exact rfl
       ·exact in1
       ·exact rfl)
    first
     |(apply HeadG.preF 0 rfl rfl rfl
       ·exact rfl
       ·exact in0
       ·exact rfl)
     |(apply HeadG.hole0 rfl rfl rfl
       ·exact rfl
       ·exact in0
       ·exact rfl)
     |(apply HeadG.hole1 rfl rfl rfl
       ·exact rfl
       ·exact in0
       ·exact rfl)
     |(apply HeadG.hole2 rfl rfl rfl
       ·exact rfl
       ·exact in0
       ·exact rfl)
     |(apply HeadG.hole3 rfl rfl rfl
       ·exact rfl
       ·exact in0
       ·exact rfl)
     |(apply HeadG.hole4 rfl rfl rfl
       ·exact rfl
       ·exact in0
       ·exact rfl)
     |(apply HeadG.hole5 rfl rfl rfl
       ·exact rfl
       ·exact in0
       ·exact rfl)
     |(apply HeadG.hole6 rfl rfl rfl
       ·exact rfl
       ·exact in0
       ·exact rfl)
     |(apply HeadG.hole7 rfl rfl rfl
       ·exact rfl
       ·exact in0
       ·exact rfl)
     |(apply HeadG.hole8 rfl rfl rfl
       ·exact rfl
       ·exact in0
       ·exact rfl)
     |(apply HeadG.stepF rfl rfl
       ·exact rfl
       ·exact in1
       ·exact rfl)
     |(apply HeadG.stepNF rfl
       ·exact rfl
       ·exact in1
       ·exact rfl)
    first
     |(apply HeadG.preF 0 rfl rfl rfl
       ·exact rfl
       ·exact in0
       ·exact rfl)
     |(apply HeadG.hole0 rfl rfl rfl
       ·exact rfl
       ·exact in0
       ·exact rfl)
     |(apply HeadG.hole1 rfl rfl rfl
       ·exact rfl
       ·exact in0
       ·exact rfl)
     |(apply HeadG.hole2 rfl rfl rfl
       ·exact rfl
       ·exact in0
       ·exact rfl)
     |(apply HeadG.hole3 rfl rfl rfl
       ·exact rfl
       ·exact in0
       ·exact rfl)
     |(apply HeadG.hole4 rfl rfl rfl
       ·exact rfl
       ·exact in0
       ·exact rfl)
     |(apply HeadG.hole5 rfl rfl rfl
       ·exact rfl
       ·exact in0
       ·exact rfl)
     |(apply HeadG.hole6 rfl rfl rfl
       ·exact rfl
       ·exact in0
       ·exact rfl)
     |(apply HeadG.hole7 rfl rfl rfl
       ·exact rfl
       ·exact in0
       ·exact rfl)
     |(apply HeadG.hole8 rfl rfl rfl
       ·exact rfl
       ·exact in0
       ·exact rfl)
     |(apply HeadG.stepF rfl rfl
       ·exact rfl
       ·exact in1
       ·exact rfl)
     |(apply HeadG.stepNF rfl
       ·exact rfl
       ·exact in1
       ·exact rfl)
    first
     |(apply HeadG.preF 0 rfl rfl rfl
       ·exact rfl
       ·exact in0
       ·exact rfl)
     |(apply HeadG.hole0 rfl rfl rfl
       ·exact rfl
       ·exact in0
       ·exact rfl)
     |(apply HeadG.hole1 rfl rfl rfl
       ·exact rfl
       ·exact in0
       ·exact rfl)
     |(apply HeadG.hole2 rfl rfl rfl
       ·exact rfl
       ·exact in0
       ·exact rfl)
     |(apply HeadG.hole3 rfl rfl rfl
       ·exact rfl
       ·exact in0
       ·exact rfl)
     |(apply HeadG.hole4 rfl rfl rfl
       ·exact rfl
       ·exact in0
       ·exact rfl)
     |(apply HeadG.hole5 rfl rfl rfl
       ·exact rfl
       ·exact in0
       ·exact rfl)
     |(apply HeadG.hole6 rfl rfl rfl
       ·exact rfl
       ·exact in0
       ·exact rfl)
     |(apply HeadG.hole7 rfl rfl rfl
       ·exact rfl
       ·exact in0
       ·exact rfl)
     |(apply HeadG.hole8 rfl rfl rfl
       ·exact rfl
       ·exact in0
       ·exact rfl)
     |(apply HeadG.stepF rfl rfl
       ·exact rfl
       ·exact in1
       ·exact rfl)
     |(apply HeadG.stepNF rfl
       ·exact rfl
       ·exact in1
       ·exact rfl)
    apply HeadG.precF 0 rfl rfl
    ·exact rfl
    ·intro Tv Ov
     refine K.call ?_
     apply WpL.callI (PutFast_s.ok w h Pi w h q b d L (plc1 w (sz8 (M.getD k default).1) k i).1 (plc1 w (sz8 (M.getD k default).1) k i).2.1 ((M.getD k default).2.getD i default).1 ((M.getD k default).2.getD i default).2 ⟨by omega,by omega⟩)
     ·exact snapA
     ·exact locA
     ·exact outA
     ·exact FrzR.tup (.agg (.keep rfl rfl (.keep rfl rfl (.own rfl rfl rfl (by show Pi.length*1=(List.map _ _).length;rw [Nat.mul_one,List.length_map];exact hpu.symm) hpu.symm (Snap.same rfl (still_ints _) (nofre_ints _)) .nil))) (.keep rfl rfl .nil))
     ·decide
     ·exact WpL.nil (Only.mk rfl)
    ·exact rfl
    first
     |(apply HeadG.preF 0 rfl rfl rfl
       ·exact rfl
       ·exact in0
       ·exact rfl)
     |(apply HeadG.hole0 rfl rfl rfl
       ·exact rfl
       ·exact in0
       ·exact rfl)
     |(apply HeadG.hole1 rfl rfl rfl
       ·exact rfl
       ·exact in0
       ·exact rfl)
     |(apply HeadG.hole2 rfl rfl rfl
       ·exact rfl
       ·exact in0
       ·exact rfl)
     |(apply HeadG.hole3 rfl rfl rfl
       ·exact rfl
       ·exact in0
       ·exact rfl)
     |(apply HeadG.hole4 rfl rfl rfl
       ·exact rfl
       ·exact in0
       ·exact rfl)
     |(apply HeadG.hole5 rfl rfl rfl
       ·exact rfl
       ·exact in0
       ·exact rfl)
     |(apply HeadG.hole6 rfl rfl rfl
       ·exact rfl
       ·exact in0
       ·exact rfl)
     |(apply HeadG.hole7 rfl rfl rfl
       ·exact rfl
       ·exact in0
       ·exact rfl)
     |(apply HeadG.hole8 rfl rfl rfl
       ·exact rfl
       ·exact in0
       ·exact rfl)
     |(apply HeadG.stepF rfl rfl
       ·exact rfl
       ·exact in1
       ·exact rfl)
     |(apply HeadG.stepNF rfl
       ·exact rfl
       ·exact in1
       ·exact rfl)
    first
     |(apply HeadG.preF 0 rfl rfl rfl
       ·exact rfl
       ·exact in0
       ·exact rfl)
     |(apply HeadG.hole0 rfl rfl rfl
       ·exact rfl
       ·exact in0
       ·exact rfl)
     |(apply HeadG.hole1 rfl rfl rfl
       ·exact rfl
       ·exact in0
       ·exact rfl)
     |(apply HeadG.hole2 rfl rfl rfl
       ·exact rfl
       ·exact in0
       ·exact rfl)
     |(apply HeadG.hole3 rfl rfl rfl
       ·exact rfl
       ·exact in0
       ·exact rfl)
     |(apply HeadG.hole4 rfl rfl rfl
       ·exact rfl
       ·exact in0
       ·exact rfl)
     |(apply HeadG.hole5 rfl rfl rfl
       ·exact rfl
       ·exact in0
       ·exact rfl)
     |(apply HeadG.hole6 rfl rfl rfl
       ·exact rfl
       ·exact in0
       ·exact rfl)
     |(apply HeadG.hole7 rfl rfl rfl
       ·exact rfl
       ·exact in0
       ·exact rfl)
     |(apply HeadG.hole8 rfl rfl rfl
       ·exact rfl
       ·exact in0
       ·exact rfl)
     |(apply HeadG.stepF rfl rfl
       ·exact rfl
       ·exact in1
       ·exact rfl)
     |(apply HeadG.stepNF rfl
       ·exact rfl
       ·exact in1
       ·exact rfl)
    first
     |(apply HeadG.preF 0 rfl rfl rfl
       ·exact rfl
       ·exact in0
       ·exact rfl)
     |(apply HeadG.hole0 rfl rfl rfl
       ·exact rfl
       ·exact in0
       ·exact rfl)
     |(apply HeadG.hole1 rfl rfl rfl
       ·exact rfl
       ·exact in0
       ·exact rfl)
     |(apply HeadG.hole2 rfl rfl rfl
       ·exact rfl
       ·exact in0
       ·exact rfl)
     |(apply HeadG.hole3 rfl rfl rfl
       ·exact rfl
       ·exact in0
       ·exact rfl)
     |(apply HeadG.hole4 rfl rfl rfl
       ·exact rfl
       ·exact in0
       ·exact rfl)
     |(apply HeadG.hole5 rfl rfl rfl
       ·exact rfl
       ·exact in0
       ·exact rfl)
     |(apply HeadG.hole6 rfl rfl rfl
       ·exact rfl
       ·exact in0
       ·exact rfl)
     |(apply HeadG.hole7 rfl rfl rfl
       ·exact rfl
       ·exact in0
       ·exact rfl)
     |(apply HeadG.hole8 rfl rfl rfl
       ·exact rfl
       ·exact in0
       ·exact rfl)
     |(apply HeadG.stepF rfl rfl
       ·exact rfl
       ·exact in1
       ·exact rfl)
     |(apply HeadG.stepNF rfl
       ·exact rfl
       ·exact in1
       ·exact rfl)
    first
     |(apply HeadG.preF 0 rfl rfl rfl
       ·exact rfl
       ·exact in0
       ·exact rfl)
     |(apply HeadG.hole0 rfl rfl rfl
       ·exact rfl
       ·exact in0
       ·exact rfl)
     |(apply HeadG.hole1 rfl rfl rfl
       ·exact rfl
       ·exact in0
       ·exact rfl)
     |(apply HeadG.hole2 rfl rfl rfl
       ·exact rfl
       ·exact in0
       ·exact rfl)
     |(apply HeadG.hole3 rfl rfl rfl
       ·exact rfl
       ·exact in0
       ·exact rfl)
     |(apply HeadG.hole4 rfl rfl rfl
       ·exact rfl
       ·exact in0
       ·exact rfl)
     |(apply HeadG.hole5 rfl rfl rfl
       ·exact rfl
       ·exact in0
       ·exact rfl)
     |(apply HeadG.hole6 rfl rfl rfl
       ·exact rfl
       ·exact in0
       ·exact rfl)
     |(apply HeadG.hole7 rfl rfl rfl
       ·exact rfl
       ·exact in0
       ·exact rfl)
     |(apply HeadG.hole8 rfl rfl rfl
       ·exact rfl
       ·exact in0
       ·exact rfl)
     |(apply HeadG.stepF rfl rfl
       ·exact rfl
       ·exact in1
       ·exact rfl)
     |(apply HeadG.stepNF rfl
       ·exact rfl
       ·exact in1
       ·exact rfl)
    exact Abs.HeadG.nil
   ·exact trueA
   ·exact trueA
   ·exact trueA
   ·exact demA
   ·exact rfl
   ·exact rfl
   refine goR (r:=?_);and_intros<;>intros<;>try exact True.intro
   all_goals first|contradiction|omega|(rw [hsu];exact .keep rfl rfl .nil)
  ·have ei:i=manyE (M.getD k default).1:=by omega
   rw [←ei] at hsc
   refine goR (r:=?_);and_intros<;>intros<;>try exact True.intro
   all_goals first|contradiction|omega|(rw [hsc];exact .keep rfl rfl .nil)
 ·obtain rfl:k=M.length:=by omega
  have hbo:=bldM_ok (q:=q) (b:=b) (M:=M) hP0 M.length
  generalize hPe:bldM w h q b M P0 M.length=Pe at*
  cases d with
  |true=>
   obtain ⟨w',rfl⟩:∃w':Nat,w=w':=⟨w.toNat,by omega⟩
   obtain ⟨h',rfl⟩:∃h':Nat,h=h':=⟨h.toNat,by omega⟩
   have hq:=hok.1.2.1
   have hdz:=DeblockFast_z w' h' Pe q hbo (by omega) ⟨by omega,by omega⟩
   have hed:endL (w':Int) (h':Int) q true Pe=debL q w' h' Pe:=by
    show dbL w' h' q Pe=_
    unfold dbL
    rw [if_pos ⟨hbo,by omega,by omega⟩];rfl
   rw [hed]
   refine goR (r:=?_);and_intros<;>intros<;>try exact True.intro
   all_goals first|contradiction|omega|skip
   refine K.call ?_
   apply WpL.callK hdz
   ·exact .agg (.keep rfl rfl (.keep rfl rfl (.keep rfl rfl .nil))) (.keep rfl rfl .nil)
   ·decide
   refine goR (r:=?_);and_intros<;>intros<;>try exact True.intro
   all_goals first|contradiction|omega
  |false=>
   rw [show endL w h q false Pe=Pe from rfl]
   refine goR (r:=?_);and_intros<;>intros<;>try exact True.intro
   all_goals first|contradiction|omega
end
end Go.Proofs.YtndflfipaddfoaaGreat


namespace Go.Proofs.YtndflfipaddfoaaGreat
open Go Go.Abs
attribute [local irreducible] WpA WpL Rnd Blk Abs.Seq Abs.Fin Abs.FinG FnC FnG Only
theorem endedH (W H:Int) (l:List Int):FnH Tryz.prog 77 [.agg [.any,.any,.any,.any,B false,.any],FrHand W H l.length] 1 [IN l] [IN l,⟨[.any,.any,.any,.any,B false,.any],0,0,none⟩,⟨[I W,I H,.own 0 0 0 l.length],0,0,none⟩,⟨[I W,I H,.own 0 0 0 l.length],0,0,none⟩] (FrHand W H l.length):=by
 refine FnH.of_body tabOk Tryz.func77 Tryz.ntmps77 rfl (by decide +kernel) (by simp) (by simp) (by simp) fun G=>?_
 refine go (r:=?_);and_intros<;>intros<;>try exact True.intro
 all_goals exact FinH.ret (ResH.one (ResV.cell (ds:=[_,_,_]) rfl rfl rfl rfl rfl))
theorem endL_f (W H q:Int) (p:List Int):endL W H q false p=p:=rfl
theorem endL_t (W H q:Int) (p:List Int):endL W H q true p=dbL W H q p:=rfl
theorem ob6 {Ov:List AObj} {x0 x2 x4 x5:AObj} (h0:Ov[0]?=some x0) (h2:Ov[2]?=some x2) (h4:Ov[4]?=some x4) (h5:Ov[5]?=some x5):∃a c R,Ov=x0::a::x2::c::x4::x5::R:=by
 match Ov,h0,h2,h4,h5 with
 |y0::a::y2::c::y4::y5::R,h0,h2,h4,h5=>simp at h0 h2 h4 h5;exact ⟨a,c,R,by rw [h0,h2,h4,h5]⟩
 |[],h0,_,_,_=>simp at h0
 |[_],_,h2,_,_=>simp at h2
 |[_,_],_,h2,_,_=>simp at h2
 |[_,_,_],_,_,h4,_=>simp at h4
 |[_,_,_,_],_,_,h4,_=>simp at h4
 |[_,_,_,_,_],_,_,_,h5=>simp at h5
theorem ob3 {Ov:List AObj} {x3:AObj} (h3:Ov[3]?=some x3):∃a b c R,Ov=a::b::c::x3::R:=by
 match Ov,h3 with
 |a::b::c::y3::R,h3=>simp at h3;exact ⟨a,b,c,R,by rw [h3]⟩
 |[],h3=>simp at h3
 |[_],h3=>simp at h3
 |[_,_],h3=>simp at h3
 |[_,_,_],h3=>simp at h3
theorem ob36 {Ov:List AObj} {x3 x6:AObj} (h3:Ov[3]?=some x3) (h6:Ov[6]?=some x6):∃a b c d e R,Ov=a::b::c::x3::d::e::x6::R:=by
 match Ov,h3,h6 with
 |a::b::c::y3::d::e::y6::R,h3,h6=>simp at h3 h6;exact ⟨a,b,c,d,e,R,by rw [h3,h6]⟩
 |[],h3,_=>simp at h3
 |[_],h3,_=>simp at h3
 |[_,_],h3,_=>simp at h3
 |[_,_,_],h3,_=>simp at h3
 |[_,_,_,_],_,h6=>simp at h6
 |[_,_,_,_,_],_,h6=>simp at h6
 |[_,_,_,_,_,_],_,h6=>simp at h6
section
attribute [local irreducible] bldB bldM putL endL
attribute [-instance] placesOf_c
theorem BuildRef_own (w h q:Int) (b d:Bool) (L:List Int) (M:List Mbk) (hl:L.length≤1099511627776∧M.length≤1099511627776∧SmM 1099511627776 M) (hok:StOk w h q L M):Fn 26 [StA w h q b d L M] [IN (refL w h q b d M)] (FrOwn 0 w h (refL w h q b d M).length):=by
 have hd:=decide_eq_true hok
 have hsd:=hok.1.1
 have hcm:=cntM_bd hsd
 have hM16:M.length≤16:=by have:=hok.2.1;omega
 have hz:(zerP w h).length≤1024:=by
  unfold zerP
  rw [List.length_replicate]
  have h2:w*h≤32*32:=Int.mul_le_mul hsd.2.1 hsd.2.2.2.1 (by have:=hsd.2.2.1;omega) (by omega)
  omega
 unfold refL
 refine FnC.of_body tabOk Tryz.func26 Tryz.ntmps26 rfl (by decide +kernel) (by simp) fun G=>?_
 refine goR (r:=?_);and_intros<;>intros<;>try exact True.intro
 all_goals first|contradiction|omega|exact hl.2.2|skip
 have hzl:(w*h).toNat=(zerP w h).length:=by simp [zerP]
 rw [show (List.replicate (w*h).toNat (0:Int))=zerP w h from rfl,hzl]
 generalize zerP w h=P0 at*
 refine WpA.loop (fun k:Nat=>⟨[(1,.ptr 0 0 0),(2,.ptr 1 0 0),(3,.ptr 3 0 0),(20,MbL M),(21,I M.length),(22,I k)],[⟨[I w,I h,I q,B b,B d,IL L,MbL M],0,0,none⟩,⟨[I 0,I 0,.nilS],0,0,none⟩,IN (bldM w h q b M P0 k),⟨[I w,I h,.own 2 0 0 P0.length],0,0,none⟩]⟩) (fun k=>k≤M.length) (fun k=>M.length-k) 0 (Nat.zero_le _) (go (r:=?_)) (fun k hk=>?_)
 ·and_intros<;>first|exact True.intro|rfl|exact (bldM_zero ..).symm
 have hbl:=bldM_len w h q b M P0 k
 by_cases hlt:k<M.length
 ·have hmb:=ok_blk hok hlt
  have hsc:=bldM_succ w h q b M P0 k
  generalize hm:M.getD k default=mm at*
  obtain ⟨e,bs⟩:=mm
  simp only at hmb hsc
  have hbl4:bs.length=manyE e:=by have:=hmb.1;cases e<;>simp [nm8] at this<;>simp [manyE]<;>omega
  have hm4:manyE e≤4:=by cases e<;>decide
  refine goR (r:=?_);and_intros<;>intros<;>try exact True.intro
  all_goals first|contradiction|omega|skip
  rw [hm]
  refine K.call ?_
  apply WpL.callI (placesOf_c.ok w h q b d L k e ⟨by omega,by omega,by omega⟩)
  ·exact snapA
  ·exact locA
  ·exact outA
  ·exact FrzR.one (.own rfl rfl rfl (by rw [rows_len (k:=3) (fun _=>rfl),plsL_len]) rfl (Snap.same rfl (still_rows (fun _=>rfl) _) (nofre_rows (fun _=>rfl) _)) .nil)
  ·decide
  refine goR (r:=?_);and_intros<;>intros<;>try exact True.intro
  all_goals first|contradiction|omega|skip
  refine WpA.loop (fun i:Nat=>⟨[(1,.ptr 0 0 0),(2,.ptr 1 0 0),(3,.ptr 3 0 0),(5,.ptr 4 0 0),(20,MbL M),(21,I M.length),(22,I k),(32,.imm 3 (manyE e) (rows plF (plsL w (sz8 e) k (manyE e)))),(33,I (manyE e)),(34,I i)],[⟨[I w,I h,I q,B b,B d,IL L,MbL M],0,0,none⟩,⟨[I 0,I 0,.nilS],0,0,none⟩,IN (bldB w h q b (sz8 e) k bs (bldM w h q b M P0 k) i),⟨[I w,I h,.own 2 0 0 P0.length],0,0,none⟩,⟨[B e,.imm 2 bs.length (rows blkI bs)],0,0,none⟩]⟩) (fun i=>i≤manyE e) (fun i=>manyE e-i) 0 (Nat.zero_le _) (go (r:=?_)) (fun i hi=>?_)
  ·and_intros<;>first|exact True.intro|rfl|exact (bldB_zero ..).symm
  have hil:=bldB_len w h q b (sz8 e) k bs (bldM w h q b M P0 k) i
  by_cases hlt2:i<manyE e
  ·have hpl:=plsL_len w (sz8 e) k (manyE e)
   have hpg:(plsL w (sz8 e) k (manyE e)).getD i default=plc1 w (sz8 e) k i:=by
    unfold plsL
    simp [hlt2]
   have hbo:=ok_lv hmb (k:=i) (by omega)
   have hbn:=hbo.2.2.1
   have hsu:=bldB_succ w h q b (sz8 e) k bs (bldM w h q b M P0 k) i
   have hlv:(bs.getD i default).2.length≤64:=by cases e<;>simp [sz8] at hbn<;>omega
   generalize hPk:bldM w h q b M P0 k=Pk at*
   generalize hPi:bldB w h q b (sz8 e) k bs Pk i=Pi at*
   have hpu:=putL_len w h Pi q b (plc1 w (sz8 e) k i).1 (plc1 w (sz8 e) k i).2.1 (bs.getD i default).1 (bs.getD i default).2
   refine goR (r:=?_);and_intros<;>intros<;>try exact True.intro
   all_goals first|contradiction|omega|skip
   rw [hpg]
   try dsimp only [List.append,List.cons_append,List.nil_append]
   apply WpA.regionSF (O:=[]) (Or:=[⟨[I w,I h,I q,B b,B d,IL L,MbL M],0,0,none⟩,⟨[I 0,I 0,.nilS],0,0,none⟩,IN Pi,⟨[I w,I h,.own 2 0 0 P0.length],0,0,none⟩,⟨[B e,.imm 2 bs.length (rows blkI bs)],0,0,none⟩,⟨[I (plc1 w (sz8 e) k i).1,I (plc1 w (sz8 e) k i).2.1,I (plc1 w (sz8 e) k i).2.2],0,0,none⟩]) (O1:=[⟨[I w,I h,I q,B b,B d,IL L,MbL M],0,0,none⟩,⟨[I 0,I 0,.nilS],0,0,none⟩,IN Pi,⟨[I w,I h,.own 6 1 0 Pi.length],0,0,none⟩,⟨[B e,.imm 2 bs.length (rows blkI bs)],0,0,none⟩,⟨[I (plc1 w (sz8 e) k i).1,I (plc1 w (sz8 e) k i).2.1,I (plc1 w (sz8 e) k i).2.2],0,0,none⟩,⟨ints (putL w h Pi q b (plc1 w (sz8 e) k i).1 (plc1 w (sz8 e) k i).2.1 (bs.getD i default).1 (bs.getD i default).2),1,1,some 3⟩,deadO]) 17 1 [0,2,4,5] [3] rfl mixed (by decide +kernel)
   ·exact rfl
   ·apply HeadS.consF (V:=.agg [I w,I h,.own 2 0 0 P0.length]) (.step 3 ⟨[I w,I h,.own 2 0 0 P0.length],0,0,none⟩) rfl
    ·exact rfl
    ·exact rfl
    ·intro Tv Ov hc hp' hd hk
     obtain ⟨a0,a1,a2,R,rfl⟩:=ob3 (hp' 3 _ rfl)
     exact in1
    ·exact rfl
    ·exact rfl
    apply HeadS.consF .none rfl
    ·exact rfl
    ·exact rfl
    ·intro Tv Ov hc hp' hd hk
     obtain ⟨a1,a3,R,rfl⟩:=ob6 (hk 0 rfl) (hk 2 rfl) (hk 4 rfl) (hk 5 rfl)
     exact in1
    ·exact rfl
    ·exact rfl
    apply HeadS.consF .none rfl
    ·exact rfl
    ·exact rfl
    ·intro Tv Ov hc hp' hd hk
     obtain ⟨a1,a3,R,rfl⟩:=ob6 (hk 0 rfl) (hk 2 rfl) (hk 4 rfl) (hk 5 rfl)
     exact in1
    ·exact rfl
    ·exact rfl
    apply HeadS.consF .none rfl
    ·exact rfl
    ·exact rfl
    ·intro Tv Ov hc hp' hd hk
     obtain ⟨a1,a3,R,rfl⟩:=ob6 (hk 0 rfl) (hk 2 rfl) (hk 4 rfl) (hk 5 rfl)
     exact in1
    ·exact rfl
    ·exact rfl
    apply HeadS.consF .none rfl
    ·exact rfl
    ·exact rfl
    ·intro Tv Ov hc hp' hd hk
     obtain ⟨a1,a3,R,rfl⟩:=ob6 (hk 0 rfl) (hk 2 rfl) (hk 4 rfl) (hk 5 rfl)
     exact in1
    ·exact rfl
    ·exact rfl
    apply HeadS.consF .none rfl
    ·exact rfl
    ·exact rfl
    ·intro Tv Ov hc hp' hd hk
     obtain ⟨a1,a3,R,rfl⟩:=ob6 (hk 0 rfl) (hk 2 rfl) (hk 4 rfl) (hk 5 rfl)
     exact in1
    ·exact rfl
    ·exact rfl
    apply HeadS.consF .none rfl
    ·exact rfl
    ·exact rfl
    ·intro Tv Ov hc hp' hd hk
     obtain ⟨a1,a3,R,rfl⟩:=ob6 (hk 0 rfl) (hk 2 rfl) (hk 4 rfl) (hk 5 rfl)
     exact in1
    ·exact rfl
    ·exact rfl
    apply HeadS.consF .none rfl
    ·exact rfl
    ·exact rfl
    ·intro Tv Ov hc hp' hd hk
     obtain ⟨a1,a3,R,rfl⟩:=ob6 (hk 0 rfl) (hk 2 rfl) (hk 4 rfl) (hk 5 rfl)
     exact in1
    ·exact rfl
    ·exact rfl
    apply HeadS.consF .none rfl
    ·exact rfl
    ·exact rfl
    ·intro Tv Ov hc hp' hd hk
     obtain ⟨a1,a3,R,rfl⟩:=ob6 (hk 0 rfl) (hk 2 rfl) (hk 4 rfl) (hk 5 rfl)
     exact in1
    ·exact rfl
    ·exact rfl
    apply HeadS.consF .none rfl
    ·exact rfl
    ·exact rfl
    ·intro Tv Ov hc hp' hd hk
     obtain ⟨a1,a3,R,rfl⟩:=ob6 (hk 0 rfl) (hk 2 rfl) (hk 4 rfl) (hk 5 rfl)
     exact in1
    ·exact rfl
    ·exact rfl
    apply HeadS.consF .none rfl
    ·exact rfl
    ·exact rfl
    ·intro Tv Ov hc hp' hd hk
     obtain ⟨a1,a3,R,rfl⟩:=ob6 (hk 0 rfl) (hk 2 rfl) (hk 4 rfl) (hk 5 rfl)
     exact in1
    ·exact rfl
    ·exact rfl
    apply HeadS.consF .none rfl
    ·exact rfl
    ·exact rfl
    ·intro Tv Ov hc hp' hd hk
     obtain ⟨a1,a3,R,rfl⟩:=ob6 (hk 0 rfl) (hk 2 rfl) (hk 4 rfl) (hk 5 rfl)
     exact in1
    ·exact rfl
    ·exact rfl
    apply HeadS.consF (V:=.tup [.agg [I w,I h,.own 6 1 0 Pi.length],B (decide (PutOk w h Pi q (plc1 w (sz8 e) k i).1 (plc1 w (sz8 e) k i).2.1 (bs.getD i default).1 (bs.getD i default).2))]) (.put 6 ⟨ints (putL w h Pi q b (plc1 w (sz8 e) k i).1 (plc1 w (sz8 e) k i).2.1 (bs.getD i default).1 (bs.getD i default).2),1,1,some 3⟩) rfl
    ·exact rfl
    ·exact rfl
    ·intro Tv Ov hc hp' hd hk
     have h6:=hp' 6 _ rfl
     obtain ⟨a1,a3,R,rfl⟩:=ob6 (hk 0 rfl) (hk 2 rfl) (hk 4 rfl) (hk 5 rfl)
     refine K.call ?_
     refine WpL.callF (PutRef_c.ok w h Pi w h q b d L (plc1 w (sz8 e) k i).1 (plc1 w (sz8 e) k i).2.1 (bs.getD i default).1 (bs.getD i default).2 ⟨by omega,by omega⟩) (.agg (.keep rfl rfl (.keep rfl rfl (.own rfl rfl rfl (by show P0.length*1=(List.map _ _).length;rw [Nat.mul_one,List.length_map];omega) (by omega) (Snap.same rfl (still_ints _) (nofre_ints _)) .nil))) snapA) locA outA (cnt_some _ 0) rfl rfl (by decide) ?_
     rw [Nat.zero_add]
     apply WpL.putV (p:=6)
     ·exact .tup (.agg (.keep rfl rfl (.keep rfl rfl (.own (by first|rfl|exact Nat.zero_add _) .nil))) (.keep rfl rfl .nil)) .nil
     ·exact h6
     ·exact Nat.zero_le _
     ·exact rfl
     ·exact still_ints _
    ·exact rfl
    ·exact rfl
    apply HeadS.consF .none rfl
    ·exact rfl
    ·exact rfl
    ·exact in1
    ·exact rfl
    ·exact rfl
    apply HeadS.consF .none rfl
    ·exact rfl
    ·exact rfl
    ·exact in1
    ·exact rfl
    ·exact rfl
    apply HeadS.consF .none rfl
    ·exact rfl
    ·exact rfl
    ·exact in1
    ·exact rfl
    ·exact rfl
    apply HeadS.consN (.step 3 ⟨[I w,I h,.own 6 1 0 Pi.length],0,0,none⟩) 1000
    ·exact rfl
    ·exact rfl
    ·intro Tv Ov hc hp' hd hk
     obtain ⟨a0,a1,a2,a4,a5,R,rfl⟩:=ob36 (hp' 3 _ rfl) (hd 12 _ 6 _ (by decide) rfl rfl rfl)
     refine K.st ?_
     refine WpL.store tabOk rfl rfl rfl rfl rfl rfl rfl rfl (Nat.le_of_ble_eq_true rfl) ?_
     refine WpL.weak (Weak.any1 (d:=1000)) ?_
     exact WpL.nil (Only.mk rfl)
    ·exact rfl
    ·exact rfl
    exact HeadS.nil
   ·exact rfl
   ·exact rfl
   ·exact rfl
   ·exact rfl
   ·exact rfl
   ·exact rfl
   ·exact rfl
   refine WpL.weak (σ':=⟨[(1,.ptr 0 0 0),(2,.ptr 1 0 0),(3,.ptr 3 0 0),(5,.ptr 4 0 0),(20,MbL M),(21,I M.length),(22,I k),(32,.imm 3 (manyE e) (rows plF (plsL w (sz8 e) k (manyE e)))),(33,I (manyE e)),(34,I i)],[⟨[I w,I h,I q,B b,B d,IL L,MbL M],0,0,none⟩,⟨[I 0,I 0,.nilS],0,0,none⟩,IN (putL w h Pi q b (plc1 w (sz8 e) k i).1 (plc1 w (sz8 e) k i).2.1 (bs.getD i default).1 (bs.getD i default).2),⟨[I w,I h,.own 2 0 0 P0.length],0,0,none⟩,⟨[B e,.imm 2 bs.length (rows blkI bs)],0,0,none⟩]⟩) (Weak.mv [0,1,6,3,4] rfl rfl rfl (by repeat (first|exact RvT.nil|refine RvT.cons (.keep rfl rfl .nil) ?_|refine RvT.cons (.ptr rfl rfl rfl rfl rfl .nil) ?_)) (.cons rfl (Rv.same rfl rfl) (.inl rfl) (.cons rfl (Rv.same rfl rfl) (.inl rfl) (.cons rfl (Rv.same rfl (still_ints _)) (.inl rfl) (.cons rfl (.keep rfl rfl (.keep rfl rfl (.own rfl rfl rfl rfl rfl rfl (by omega) .nil))) (.inl rfl) (.cons rfl (Rv.same rfl rfl) (.inl rfl) .nil)))))) ?_
   refine goR (r:=?_);and_intros<;>intros<;>try exact True.intro
   all_goals first|contradiction|omega|exact hsu.symm
  ·obtain rfl:i=manyE e:=by omega
   refine goR (r:=?_);and_intros<;>intros<;>try exact True.intro
   all_goals first|contradiction|omega|(rw [hsc])
 ·obtain rfl:k=M.length:=by omega
  refine goR (r:=?_);and_intros<;>intros<;>try exact True.intro
  all_goals first|contradiction|omega|skip
  cases d with
  |false=>
   refine K.call ?_
   refine WpL.callH (hs:=[2]) (base:=4) (endedH w h (bldM w h q b M P0 M.length)) (.agg (.any (.any (.any (.any (.keep rfl rfl (.any .nil)))))) (.agg (.keep rfl rfl (.keep rfl rfl (.own (j:=0) rfl rfl rfl (by omega) .nil))) .nil)) (.still rfl rfl (still_ints _) rfl rfl (.inl rfl) .nil) rfl (fun j id hj hid=>Nat.zero_le _) rfl (.keep rfl (.keep rfl (.turn rfl (by decide) rfl rfl (Back.all rfl (still_ints _) (Loc.ints _)) (.keep rfl .nil)))) (.cons (Back.all rfl rfl (.any (.any (.any (.any (.sc (.any .nil))))))) (.cons (.loc rfl (Loc.sc .nil) (.loc rfl (Loc.sc .nil) (.old (by decide) rfl rfl .nil))) (.cons (.loc rfl (Loc.sc .nil) (.loc rfl (Loc.sc .nil) (.old (by decide) rfl rfl .nil))) .nil))) (.agg (.loc rfl (Loc.sc .nil) (.loc rfl (Loc.sc .nil) (.old (by decide) rfl rfl .nil))) .nil) rfl (by decide) ?_
   refine goR (r:=?_);and_intros<;>intros<;>try exact True.intro
   all_goals first|contradiction|omega|exact (endL_len ..).symm|exact (endL_f ..).symm
  |true=>
   refine K.call ?_
   refine WpL.callF (ended1 w h w h q b L (bldM w h q b M P0 M.length) (by omega)) snapA locA outA rfl rfl rfl (by decide) ?_
   refine goR (r:=?_);and_intros<;>intros<;>try exact True.intro
   all_goals first|contradiction|omega|exact (endL_len ..).symm|exact (endL_t ..).symm
end
end Go.Proofs.YtndflfipaddfoaaGreat


namespace Go.Proofs.YtndflfipaddfoaaGreat
open Go Go.Abs
attribute [local irreducible] WpA WpL Rnd Blk Abs.Seq Abs.Fin Abs.FinG FnC FnG Only
attribute [local irreducible] prS refL
theorem refL_len {w h q:Int} {b d:Bool} {L:List Int} {M:List Mbk} (hok:StOk w h q L M):(refL w h q b d M).length≤1024:=by
 have hsd:=hok.1.1
 have h2:w*h≤32*32:=Int.mul_le_mul hsd.2.1 hsd.2.2.2.1 (by have:=hsd.2.2.1;omega) (by omega)
 unfold refL
 rw [endL_len,bldM_len]
 unfold zerP
 rw [List.length_replicate]
 omega
section
attribute [-instance] Parse_c
theorem RefDecode_o (p:List UInt8) (hl:p.length≤1048576) (h0:(prS p).c=0):Fn 29 [Z p] [IN (refL (prS p).W (prS p).H (prS p).Q (prS p).B (prS p).D (prS p).ms)] (.tup [FrOwn 0 (prS p).W (prS p).H (refL (prS p).W (prS p).H (prS p).Q (prS p).B (prS p).D (prS p).ms).length,I 0]):=by
 have hz:=prS_sz p
 have hlen:(prS p).ms.length*2=(rows Abs.mbF (prS p).ms).length:=(rows_len (f:=Abs.mbF) (k:=2) (fun _=>rfl) (prS p).ms).symm
 have hok:=prS_good h0
 have hrl:=refL_len (b:=(prS p).B) (d:=(prS p).D) hok
 have hbo:=BuildRef_own (prS p).W (prS p).H (prS p).Q (prS p).B (prS p).D (prS p).L (prS p).ms ⟨by omega,by omega,hz.2.2.2⟩ hok
 refine FnC.of_body tabOk Tryz.func29 Tryz.ntmps29 rfl (by decide +kernel) (by simp) fun G=>?_
 refine goR (r:=?_);and_intros<;>intros<;>try exact True.intro
 refine K.call ?_
 apply WpL.callI (Parse_c.ok p (by omega))
 ·exact snapA
 ·exact locA
 ·exact outA
 ·exact FrzR.tup (.agg (.keep rfl rfl (.keep rfl rfl (.keep rfl rfl (.keep rfl rfl (.keep rfl rfl (.own rfl rfl rfl (by simp) rfl (Snap.same rfl (still_ints _) (nofre_ints _)) (.own rfl rfl rfl hlen rfl (Snap.rows snap_mb _) .nil))))))) (.keep rfl rfl (.keep rfl rfl .nil)))
 ·decide
 refine goR (r:=?_);and_intros<;>intros<;>try exact True.intro
 all_goals first|contradiction|omega|skip
 refine K.call ?_
 refine WpL.callF hbo snapA locA outA rfl rfl rfl (by decide) ?_
 refine goR (r:=?_);and_intros<;>intros<;>try exact True.intro
 all_goals first|contradiction|omega
end
theorem FastDecode_o (p:List UInt8) (hl:p.length≤1048576) (h0:(prS p).c=0):Fn 12 [Z p] [IN (refL (prS p).W (prS p).H (prS p).Q (prS p).B (prS p).D (prS p).ms)] (.tup [FrOwn 0 (prS p).W (prS p).H (refL (prS p).W (prS p).H (prS p).Q (prS p).B (prS p).D (prS p).ms).length,I 0]):=by
 have hc:=RefDecode_o p hl h0
 have hrl:=refL_len (b:=(prS p).B) (d:=(prS p).D) (prS_good h0)
 refine FnC.of_body tabOk Tryz.func12 Tryz.ntmps12 rfl (by decide +kernel) (by simp) fun G=>?_
 refine goR (r:=?_);and_intros<;>intros<;>try exact True.intro
 refine K.call ?_
 refine WpL.callF hc snapA locA outA rfl rfl rfl (by decide) ?_
 refine goR (r:=?_);and_intros<;>intros<;>try exact True.intro
 all_goals first|contradiction|omega
theorem FastDecode_n (p:List UInt8) (hl:p.length≤1048576) (h0:(prS p).c≠0):Fn 12 [Z p] [] (.tup [.agg [I 0,I 0,.nilS],I (prS p).c]):=by
 have hc:=RefDecode_1 p hl h0
 refine FnC.of_body tabOk Tryz.func12 Tryz.ntmps12 rfl (by decide +kernel) (by simp) fun G=>?_
 refine goR (r:=?_);and_intros<;>intros<;>try exact True.intro
 refine K.call ?_
 apply WpL.callK hc
 ·exact .keep rfl rfl .nil
 ·decide
 refine goR (r:=?_);and_intros<;>intros<;>try exact True.intro
 all_goals first|contradiction|omega
end Go.Proofs.YtndflfipaddfoaaGreat


namespace Go.Proofs.YtndflfipaddfoaaGreat
open Go Go.Abs
attribute [local irreducible] WpA WpL Rnd Blk Abs.Seq Abs.Fin Abs.FinG FnC FnG Only
instance markFrame_c:ConG 14 (∀ (W H:Int) (l:List Int) (k:Int),l.length≤1048576∧0≤k∧k≤1073741824→
 Gn 14 [.agg [I W,I H,.own 0 0 0 l.length],I k] [IN l] [IN (marksI k l.length)] [] (I (k+l.length))):=⟨fun W H l k hk=>by
 refine FnG.of_bodyF tabOk Tryz.func14 Tryz.ntmps14 rfl (by decide +kernel) (by simp) rfl rfl fun G=>?_
 refine go (r:=?_);and_intros<;>intros<;>try exact True.intro⟩
instance heldFrame_c:Con 15 (∀ (W H:Int) (l:List Int) (k:Int),(l.length≤1048576∧0≤k∧k≤1024)∧l=marksI k l.length→Fn 15 [FrA W H l,I k] [] (I (k+l.length))):=⟨fun W H l k hk=>by
 obtain ⟨hk,hm⟩:=hk
 refine FnC.of_body tabOk Tryz.func15 Tryz.ntmps15 rfl (by decide +kernel) (by simp) fun G=>?_
 refine go (r:=?_);and_intros<;>intros<;>try exact True.intro
 all_goals first|(rw [if_pos hm] at *;first|omega|contradiction|rfl)⟩
end Go.Proofs.YtndflfipaddfoaaGreat


namespace Go.Proofs.YtndflfipaddfoaaGreat
open Go Go.Abs
attribute [local irreducible] WpA WpL Rnd Blk Abs.Seq Abs.Fin Abs.FinG FnC FnG Only
attribute [local irreducible] prS refL
theorem markIntS_n (k:Int):Fn 21 [.nilS,I k] [] (I k):=by
 refine FnC.of_body tabOk Tryz.func21 Tryz.ntmps21 rfl (by decide +kernel) (by simp) fun G=>?_
 refine go (r:=?_);and_intros<;>intros<;>try exact True.intro
 refine WpA.loop (fun i:Nat=>⟨[(0,.nilS),(1,I k),(5,I 0)],[]⟩) (fun i=>i=0) (fun i=>0-i) 0 rfl (go (r:=?_)) (fun i hi=>?_)
 ·all_goals trivial
 ·refine go (r:=?_);and_intros<;>intros<;>try exact True.intro
  all_goals first|contradiction|omega
theorem markFrame_n (k:Int):Fn 14 [.agg [I 0,I 0,.nilS],I k] [] (I k):=by
 have hc:=markIntS_n k
 refine FnC.of_body tabOk Tryz.func14 Tryz.ntmps14 rfl (by decide +kernel) (by simp) fun G=>?_
 refine goR (r:=?_);and_intros<;>intros<;>try exact True.intro
 refine K.call ?_
 apply WpL.callK hc
 ·exact .keep rfl rfl (.keep rfl rfl .nil)
 ·decide
 refine goR (r:=?_);and_intros<;>intros<;>try exact True.intro
 all_goals first|contradiction|omega
theorem fdX_0 (p:List UInt8) (hl:p.length≤1048576) (h0:(prS p).c=0):Fn 3 [Z p] [] (B true):=by
 have hs:=FastDecode_s0 p hl h0
 have hi:=FastDecode_o p hl h0
 have hrl:=refL_len (b:=(prS p).B) (d:=(prS p).D) (prS_good h0)
 have hml:∀n,(marksI 1 n).length=n:=fun n=>by simp [marksI]
 generalize refL (prS p).W (prS p).H (prS p).Q (prS p).B (prS p).D (prS p).ms=R at*
 generalize (prS p).W=W at*
 generalize (prS p).H=H at*
 refine FnC.of_body tabOk Tryz.func3 Tryz.ntmps3 rfl (by decide +kernel) (by simp) fun G=>?_
 refine goR (r:=?_);and_intros<;>intros<;>try exact True.intro
 all_goals first|contradiction|omega|skip
 refine K.call ?_
 apply WpL.callK hs
 ·exact .keep rfl rfl .nil
 ·decide
 refine goR (r:=?_);and_intros<;>intros<;>try exact True.intro
 all_goals first|contradiction|omega|skip
 refine K.call ?_
 refine WpL.callF hi snapA locA outA rfl rfl rfl (by decide) ?_
 refine goR (r:=?_);and_intros<;>intros<;>try exact True.intro
 all_goals first|contradiction|omega|(exfalso;rename_i hg;revert hg;simp;done)|skip
 refine K.call ?_
 refine WpL.callF hi snapA locA outA rfl rfl rfl (by decide) ?_
 refine goR (r:=?_);and_intros<;>intros<;>try exact True.intro
 all_goals first|contradiction|omega|(exfalso;rename_i hg;revert hg;simp;done)
section
attribute [-instance] markFrame_c
theorem fdX_1 (p:List UInt8) (hl:p.length≤1048576) (h0:(prS p).c≠0):Fn 3 [Z p] [] (B true):=by
 have hs:=FastDecode_s1 p hl h0
 have hi:=FastDecode_n p hl h0
 generalize (prS p).c=C at*
 refine FnC.of_body tabOk Tryz.func3 Tryz.ntmps3 rfl (by decide +kernel) (by simp) fun G=>?_
 refine goR (r:=?_);and_intros<;>intros<;>try exact True.intro
 all_goals first|contradiction|omega|skip
 refine K.call ?_
 apply WpL.callK hs
 ·exact .keep rfl rfl .nil
 ·decide
 refine goR (r:=?_);and_intros<;>intros<;>try exact True.intro
 all_goals first|contradiction|omega|skip
 refine K.call ?_
 apply WpL.callK hi
 ·exact .keep rfl rfl .nil
 ·decide
 refine goR (r:=?_);and_intros<;>intros<;>try exact True.intro
 all_goals first|contradiction|omega|(exfalso;rename_i hg;revert hg;simp;done)|skip
 refine K.call ?_
 refine WpL.callF (eqFrame_c.ok 0 0 0 0 [] [] ⟨by decide,by decide⟩) snapA locA outA rfl rfl rfl (by decide) ?_
 refine goR (r:=?_);and_intros<;>intros<;>try exact True.intro
 all_goals first|contradiction|omega|(exfalso;rename_i hg;revert hg;simp;done)|skip
 refine K.call ?_
 apply WpL.callK (markFrame_n 1)
 ·exact .agg (.keep rfl rfl (.keep rfl rfl (.keep rfl rfl .nil))) (.keep rfl rfl .nil)
 ·decide
 refine goR (r:=?_);and_intros<;>intros<;>try exact True.intro
 all_goals first|contradiction|omega|(exfalso;rename_i hg;revert hg;simp;done)|skip
 refine K.call ?_
 refine WpL.callF (heldFrame_c.ok 0 0 [] 1 ⟨⟨by decide,by decide,by decide⟩,rfl⟩) snapA locA outA rfl rfl rfl (by decide) ?_
 refine goR (r:=?_);and_intros<;>intros<;>try exact True.intro
 all_goals first|contradiction|omega|(exfalso;rename_i hg;revert hg;simp;done)|skip
 refine K.call ?_
 apply WpL.callK hi
 ·exact .keep rfl rfl .nil
 ·decide
 refine goR (r:=?_);and_intros<;>intros<;>try exact True.intro
 all_goals first|contradiction|omega|(exfalso;rename_i hg;revert hg;simp;done)|skip
 refine K.call ?_
 refine WpL.callF (eqFrame_c.ok 0 0 0 0 [] [] ⟨by decide,by decide⟩) snapA locA outA rfl rfl rfl (by decide) ?_
 refine goR (r:=?_);and_intros<;>intros<;>try exact True.intro
 all_goals first|contradiction|omega|(exfalso;rename_i hg;revert hg;simp;done)|skip
 refine K.call ?_
 refine WpL.callF (heldFrame_c.ok 0 0 [] 1 ⟨⟨by decide,by decide,by decide⟩,rfl⟩) snapA locA outA rfl rfl rfl (by decide) ?_
 refine goR (r:=?_);and_intros<;>intros<;>try exact True.intro
 all_goals first|contradiction|omega|(exfalso;rename_i hg;revert hg;simp;done)
end
theorem fdX_big (p:List UInt8) (hl:p.length≤9223372036854775807) (hb:¬p.length≤1048576):Fn 3 [Z p] [] (B true):=by
 refine FnC.of_body tabOk Tryz.func3 Tryz.ntmps3 rfl (by decide +kernel) (by simp) fun G=>?_
 refine goR (r:=?_);and_intros<;>intros<;>try exact True.intro
 all_goals first|contradiction|omega
theorem FnExactFastDecode_c (p:List UInt8) (hl:p.length≤9223372036854775807):Fn 3 [Z p] [] (B true):=by
 by_cases hb:p.length≤1048576
 ·by_cases h0:(prS p).c=0
  ·exact fdX_0 p hb h0
  ·exact fdX_1 p hb h0
 ·exact fdX_big p hl hb
end Go.Proofs.YtndflfipaddfoaaGreat


namespace Go.Abs
open Go Go.RowKit
theorem FnC.walk {P:Program} {f:FuncId} {args:List AV} {N:List AObj} {x:Value} (hc:FnC P f args N (.sc x)) {w:World} {S:Nat→Prop} {vs:List Value} (hS:∀b,S b→b<w.heap.size)
 (hl:LRel S w (fun _=>none) [] args vs []):Calls P f vs.toArray w fun e w'=>e=.returned x∧Below w.heap.size w w':=by
 refine (hc.2 w S vs hS hl).mono fun e w' h=>?_
 obtain ⟨v,S',ι,F,rfl,_,_,_,_,_,hv,hk⟩:=h
 cases hv with
 |sc r=>exact ⟨rfl,hk.os,hk.tape,hk.output,hk.size,fun b hb=>hk.block b hb (fun h=>h)⟩
theorem spot_none {w:World} {x:Addr} {n:Nat} (h:0<n) (hc:∀i,i<n→∃v,w.cell? (x.add i)=some v):x.spot=none:=by
 obtain ⟨v,hv⟩:=hc 0 h
 simpa [Addr.add] using World.cell?_spot hv
end Go.Abs


namespace Go.Abs
open Go Go.RowKit
inductive Sp where
 |int (k:IntKind)|bool|str|struct (fs:List Sp)|slice (k:Nat) (e:Sp)
mutual
inductive SpOk (P:Program):TypeId→Sp→Prop
 |int {t k}:P.underlying t=some (.int k)→SpOk P t (.int k)
 |bool {t}:P.underlying t=some .bool→SpOk P t .bool
 |str {t}:P.underlying t=some .string→SpOk P t .str
 |struct {t fs sps n}:P.underlying t=some (.struct fs)→P.cellsOf t=n→SpF P 0 fs.toList sps n→SpOk P t (.struct sps)
 |slice {t e k sp}:P.underlying t=some (.slice e)→P.cellsOf e=k→0<k→SpOk P e sp→SpOk P t (.slice k sp)
inductive SpF (P:Program):Nat→List Field→List Sp→Nat→Prop
 |nil {k}:SpF P k [] [] k
 |cons {k c f fs sp sps n}:f.offset=k→P.cellsOf f.type=c→SpOk P f.type sp→SpF P (k+c) fs sps n→SpF P k (f::fs) (sp::sps) n
end
mutual
inductive Rd:Sp→List AV→Prop
 |int {k n}:(Lit.int k n).wf=true→Rd (.int k) [.sc (.int k n)]
 |bool {b}:Rd .bool [.sc (.bool b)]
 |str {p:List UInt8}:p.length≤maxLen→Rd .str [.sc (.string ⟨p.toArray⟩)]
 |struct {sps cs}:RdF sps cs→Rd (.struct sps) cs
 |slice {sp len k cs}:len≤maxLen→RdN sp len k cs→Rd (.slice k sp) [.imm k len cs]
inductive RdF:List Sp→List AV→Prop
 |nil:RdF [] []
 |cons {sp sps a b}:Rd sp a→RdF sps b→RdF (sp::sps) (a++b)
inductive RdN:Sp→Nat→Nat→List AV→Prop
 |nil {sp k}:RdN sp 0 k []
 |snoc {sp n k a b}:RdN sp n k a→Rd sp b→b.length=k→RdN sp (n+1) k (a++b)
end
theorem RdN.len {sp n k cs} (h:RdN sp n k cs):cs.length=n*k:=by
 induction n generalizing cs with
 |zero=>cases h;simp
 |succ n ih=>cases h with|snoc h1 h2 h3=>rw [List.length_append,ih h1,h3,Nat.add_mul];omega
section
variable {H:Type} {enc:TypeId×Value→H} {P:Program} {w:World} {base:Nat} {spare:Nat→Bool} {held:Bool}
theorem read {S:Nat→Prop} {ι:Nat→Spot} (hS:∀b,b<w.heap.size→S b):∀(fuel:Nat) (t:TypeId) (sp:Sp) (cs:List Value) (x:DataW H×List MemPlace),SpOk P t sp→
 DataW.trod enc P w base spare held fuel t cs=some x→∃ds,Rd sp ds∧∀O,LRel S w ι O ds cs []:=by
 intro fuel
 induction fuel with
 |zero=>intro t sp cs x _ h;simp [DataW.trod] at h
 |succ fuel ih=>
  intro t sp cs x hsp h
  cases hsp with
  |int ht=>
   obtain ⟨n,rfl,_,hw⟩:=DataW.trod_int ht h
   exact ⟨_,.int hw,fun O=>.sc .nil⟩
  |bool ht=>
   obtain ⟨b,rfl,_⟩:=DataW.trod_bool ht h
   exact ⟨_,.bool,fun O=>.sc .nil⟩
  |str ht=>
   obtain ⟨s,rfl,_,hs⟩:=DataW.trod_string ht h
   exact ⟨[.sc (.string ⟨s.data.toList.toArray⟩)],.str (by have:s.data.toList.length=s.size:=rfl;omega),fun O=>.sc .nil⟩
  |@struct _ fs sps n ht hn hf=>
   obtain ⟨xs,m,hm,_,hlen,hxl,hel⟩:=DataW.trod_struct ht h
   obtain rfl:fuel=m:=by omega
   have key:∀(fl:List Field) (k:Nat) (sps:List Sp),SpF P k fl sps n→(∀ f∈fl,∃x,DataW.trod enc P w base spare held fuel f.type ((cs.drop f.offset).take (P.cellsOf f.type))=some x)→
    k≤n→∃ds,RdF sps ds∧∀O,LRel S w ι O ds (cs.drop k) []:=by
    intro fl
    induction fl with
    |nil=>
     intro k sps hF _ _
     cases hF
     exact ⟨[],.nil,fun O=>by rw [List.drop_eq_nil_of_le (by omega)];exact .nil⟩
    |cons f fl ihf=>
     intro k sps hF hx hk
     cases hF with
     |cons h1 h2 h3 h4=>
      obtain ⟨y,hy⟩:=hx f (by simp)
      obtain ⟨d1,r1,l1⟩:=ih _ _ _ _ h3 hy
      have hkn:∀{k fl sps},SpF P k fl sps n→k≤n:=by
       intro k fl
       induction fl generalizing k with
       |nil=>intro sps h;cases h;exact Nat.le_refl _
       |cons f fl ih2=>intro sps h;cases h with|cons _ _ _ h=>have:=ih2 h;omega
      obtain ⟨d2,r2,l2⟩:=ihf _ _ h4 (fun g hg=>hx g (by simp [hg])) (hkn h4)
      refine ⟨d1++d2,.cons r1 r2,fun O=>?_⟩
      have e:cs.drop k=(cs.drop f.offset).take (P.cellsOf f.type)++cs.drop (k+P.cellsOf f.type):=by
       rw [h1,←List.drop_drop,List.take_append_drop]
      rw [e,h2]
      rw [h2] at l1
      simpa using (l1 O).append (l2 O)
   obtain ⟨ds,r,l⟩:=key fs.toList 0 sps hf (fun f hf'=>by
    obtain ⟨i,hi⟩:=List.getElem?_of_mem hf'
    have hi':fs[i]?=some f:=by simpa using hi
    have:=hel i f hi'
    have hlt:i<xs.length:=by have:=(Array.getElem?_eq_some_iff.1 hi').1;omega
    exact ⟨xs[i],by rw [this];simp [hlt]⟩) (Nat.zero_le _)
   exact ⟨ds,.struct r,fun O=>by simpa using l O⟩
  |@slice _ e k sp ht hk hk0 he=>
   rcases DataW.trod_slice ht h with ⟨rfl,_⟩|⟨a,len,cap,elems,rest,m,hm,rfl,_,hb,hl,hc,hlen,hel,_,_⟩
   ·exact ⟨[.imm k 0 []],.slice (by simp) .nil,fun O=>.imm0 (by simp) .nil⟩
   obtain rfl:fuel=m:=by omega
   have cells:∀j,j≤len→∃ds us,RdN sp j k ds∧us.length=j*k∧(∀ i,i<us.length→w.cell? (a.add i)=us[i]?)∧LRel S w ι [] ds us []:=by
    intro j
    induction j with
    |zero=>intro _;exact ⟨[],[],.nil,by simp,by simp,.nil⟩
    |succ j ihj=>
     intro hj
     obtain ⟨ds,us,h1,h2,h3,h4⟩:=ihj (by omega)
     have hx:=hel j (by omega)
     have hlt:j<elems.length:=by omega
     rw [List.getElem?_eq_getElem hlt,Option.bind_eq_some_iff,hk] at hx
     obtain ⟨us2,hu,ht2⟩:=hx
     obtain ⟨d2,r2,l2⟩:=ih _ _ _ _ he ht2
     obtain ⟨_,c2,c3⟩:=World.cells?_some hu
     have l2':=l2 []
     have hd2:d2.length=k:=by rw [l2'.len,c2]
     refine ⟨ds++d2,us++us2,.snoc h1 r2 hd2,by rw [List.length_append,h2,c2,Nat.add_mul];omega,fun i hi=>?_,by simpa using h4.append l2'⟩
     rw [List.length_append] at hi
     by_cases hlt2:i<us.length
     ·rw [h3 i hlt2,List.getElem?_append_left hlt2]
     ·have hadd:a.add i=(a.add (j*k)).add (i-j*k):=by
       unfold Addr.add
       by_cases hz:j*k=0
       ·simp [hz]
       ·by_cases hz2:i-j*k=0
        ·have:i=j*k:=by omega
         simp [this]
        ·rw [if_neg (by omega),if_neg hz,if_neg hz2]
         simp only [Addr.mk.injEq,true_and,and_true]
         omega
      rw [hadd,c3 (i-j*k) (by omega),List.getElem?_append_right (by omega),h2]
   obtain ⟨ds,us,h1,h2,h3,h4⟩:=cells len (Nat.le_refl _)
   refine ⟨[.imm k len ds],.slice (by omega) h1,fun O=>?_⟩
   by_cases h0:len=0
   ·subst h0
    cases h1
    exact .imm0 ⟨by simp,hc⟩ .nil
   ·have hul:0<us.length:=by rw [h2];exact Nat.mul_pos (by omega) hk0
    have hsp:=spot_none (w:=w) (x:=a) (n:=us.length) hul fun i hi=>⟨us[i],by rw [h3 i hi];simp [hi]⟩
    obtain ⟨b,o,q⟩:=a
    simp only at hsp
    subst hsp
    have hcell:∀i,i<us.length→w.cell? ⟨b,o+i,none⟩=us[i]?:=fun i hi=>by have:=h3 i hi;rwa [addr_add] at this
    refine .imm (us:=us) (hS _ ?_) hcell h4 (by rw [h1.len]) hl hc .nil
    by_cases hb':b<w.heap.size
    ·exact hb'
    ·have:=hcell 0 hul
     simp [World.cell?,Array.getElem?_eq_none (Nat.le_of_not_lt hb'),hul] at this
end
end Go.Abs


namespace Go.Abs
open Go Go.RowKit
abbrev i64 (n:Int):Prop:=-9223372036854775808≤n∧n≤9223372036854775807
theorem rd_str {ds:List AV} (h:Rd .str ds):∃p:List UInt8,ds=[Z p]∧p.length≤9223372036854775807:=by
 cases h with|str hp=>exact ⟨_,rfl,by simp only [maxLen] at hp;omega⟩
theorem lrel_cons0 {S:Nat→Prop} {w:World} {ι:Nat→Spot} {O:List AObj} {V:AV} {v:Value} {cs:List AV} {vs:List Value} (h1:VRel S w ι O V v []) (h2:LRel S w ι O cs vs []):LRel S w ι O (V::cs) (v::vs) []:=LRel.cons h1 h2
end Go.Abs
