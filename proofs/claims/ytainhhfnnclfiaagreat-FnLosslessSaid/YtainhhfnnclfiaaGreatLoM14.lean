/- Proved in this text: lemmas and contracts of functions that the claim uses (parts: BldR, LevP, EncP, AbsNf, AbsYb, AbsPre, RdL, RdM, Cat, Ue). No condition. -/
import Derived.Test.YtainhhfnnclfiaaGreatLoM13
import Derived.Test.YtainhhfnnclfiaaGreatLoM10
import Derived.Test.YtainhhfnnclfiaaGreatLoM7
import Derived.Test.YtainhhfnnclfiaaGreatLoM11
import Derived.Test.YtainhhfnnclfiaaGreatLoM12
import Derived.Test.YtainhhfnnclfiaaGreatLoM6
import Derived.Test.YtainhhfnnclfiaaGreatLoM9
set_option linter.unusedVariables false
set_option linter.unusedSimpArgs false
set_option maxRecDepth 100000
set_option maxHeartbeats 16000000


namespace Go.Proofs.YtainhhfnnclfiaaGreat
open Go Go.Abs
attribute [local irreducible] WpA WpL Rnd Blk Abs.Seq Abs.Fin Abs.FinG FnC FnG Only
def endL (W H q:Int) (d:Bool) (p:List Int):List Int:=cond d (dbL W H q p) p
theorem ended1 (W H w h q:Int) (b:Bool) (lens p:List Int) (hl:p.length≤1099511627776):Fn 139 [HdA w h q b true lens,FrA W H p] [IN (dbL W H q p)] (FrOwn 0 W H p.length):=by
 have hdl:=dbL_len W H q p
 refine FnC.of_body tabOk Tryz.func139 Tryz.ntmps139 rfl (by decide +kernel) (by simp) fun G=>?_
 refine go (r:=?_);and_intros<;>intros<;>try exact True.intro
 all_goals first|contradiction|omega
theorem ended0 (W H w h q:Int) (b:Bool) (lens p:List Int):Fn 139 [HdA w h q b false lens,FrA W H p] [] (FrA W H p):=by
 refine FnC.of_body tabOk Tryz.func139 Tryz.ntmps139 rfl (by decide +kernel) (by simp) fun G=>?_
 refine go (r:=?_);and_intros<;>intros<;>try exact True.intro
 all_goals first|contradiction|omega
theorem ended_c (W H w h q:Int) (b d:Bool) (lens p:List Int) (hl:p.length≤1099511627776):Fn 139 [HdA w h q b d lens,FrA W H p] [] (FrA W H (endL W H q d p)):=by
 cases d with
 |false=>exact ended0 W H w h q b lens p
 |true=>exact FnC.still (ended1 W H w h q b lens p hl) (.agg (.keep rfl rfl (.keep rfl rfl (.own rfl rfl rfl (by simp [dbL_len]) (dbL_len W H q p).symm (Snap.same rfl (still_ints _) (nofre_ints _)) .nil))) .nil)
def bldB (W H q:Int) (b:Bool) (n:Int) (k:Nat) (bs:List Blok) (p:List Int):Nat→List Int
 |0=>p
 |i+1=>putL W H (bldB W H q b n k bs p i) q b (plc1 W n k i).1 (plc1 W n k i).2.1 (bs.getD i default).1 (bs.getD i default).2
def bldM (W H q:Int) (b:Bool) (M:List Mbk) (p:List Int):Nat→List Int
 |0=>p
 |k+1=>bldB W H q b (sz8 (M.getD k default).1) k (M.getD k default).2 (bldM W H q b M p k) (manyE (M.getD k default).1)
theorem bldB_len (W H q:Int) (b:Bool) (n:Int) (k:Nat) (bs:List Blok) (p:List Int):∀i,(bldB W H q b n k bs p i).length=p.length
 |0=>rfl
 |i+1=>by rw [bldB,putL_len,bldB_len W H q b n k bs p i]
theorem bldM_len (W H q:Int) (b:Bool) (M:List Mbk) (p:List Int):∀k,(bldM W H q b M p k).length=p.length
 |0=>rfl
 |k+1=>by rw [bldM,bldB_len,bldM_len W H q b M p k]
theorem bldB_zero (W H q:Int) (b:Bool) (n:Int) (k:Nat) (bs:List Blok) (p:List Int):bldB W H q b n k bs p 0=p:=rfl
theorem bldM_zero (W H q:Int) (b:Bool) (M:List Mbk) (p:List Int):bldM W H q b M p 0=p:=rfl
theorem bldB_succ (W H q:Int) (b:Bool) (n:Int) (k:Nat) (bs:List Blok) (p:List Int) (i:Nat):bldB W H q b n k bs p (i+1)=putL W H (bldB W H q b n k bs p i) q b (plc1 W n k i).1 (plc1 W n k i).2.1 (bs.getD i default).1 (bs.getD i default).2:=rfl
theorem bldM_succ (W H q:Int) (b:Bool) (M:List Mbk) (p:List Int) (k:Nat):bldM W H q b M p (k+1)=bldB W H q b (sz8 (M.getD k default).1) k (M.getD k default).2 (bldM W H q b M p k) (manyE (M.getD k default).1):=rfl
def zerP (W H:Int):List Int:=List.replicate (W*H).toNat 0
def refL (W H q:Int) (b d:Bool) (M:List Mbk):List Int:=endL W H q d (bldM W H q b M (zerP W H) M.length)
section
attribute [local irreducible] bldB bldM putL endL
attribute [-instance] FrameNew_c placesOf_c
theorem BuildRef_ok (w h q:Int) (b d:Bool) (L:List Int) (M:List Mbk) (hl:L.length≤1099511627776∧M.length≤1099511627776∧SmM 1099511627776 M) (hok:StOk w h q L M):Fn 76 [StA w h q b d L M] [] (FrA w h (refL w h q b d M)):=by
 have hd:=decide_eq_true hok
 have hsd:=hok.1.1
 have hcm:=cntM_bd hsd
 have hM16:M.length≤16:=by have:=hok.2.1;omega
 have hz:(zerP w h).length≤1024:=by
  unfold zerP
  rw [List.length_replicate]
  have h2:w*h≤32*32:=Int.mul_le_mul hsd.2.1 hsd.2.2.2.1 (by have:=hsd.2.2.1;omega) (by omega)
  omega
 unfold refL
 refine FnC.of_body tabOk Tryz.func76 Tryz.ntmps76 rfl (by decide +kernel) (by simp) fun G=>?_
 refine goR (r:=?_);and_intros<;>intros<;>try exact True.intro
 all_goals first|contradiction|omega|exact hl.2.2|skip
 refine K.call ?_
 apply WpL.callI (FrameNew_c.ok w h hsd)
 ·exact snapA
 ·exact locA
 ·exact outA
 ·exact frzA
 ·decide
 refine goR (r:=?_);and_intros<;>intros<;>try exact True.intro
 all_goals first|contradiction|omega|skip
 have hzl:(w*h).toNat=(zerP w h).length:=by simp [zerP]
 rw [show (List.replicate (w*h).toNat (0:Int))=zerP w h from rfl,hzl]
 generalize zerP w h=P0 at*
 refine WpA.loop (fun k:Nat=>⟨[(1,.ptr 0 0 0),(2,.ptr 1 0 0),(3,.ptr 2 0 0),(20,MbL M),(21,I M.length),(22,I k)],[⟨[I w,I h,I q,B b,B d,IL L,MbL M],0,0,none⟩,⟨[I 0,I 0,.nilS],0,0,none⟩,FrO w h (bldM w h q b M P0 k)]⟩) (fun k=>k≤M.length) (fun k=>M.length-k) 0 (Nat.zero_le _) (go (r:=?_)) (fun k hk=>?_)
 ·and_intros<;>first|exact True.intro|rfl|(rw [bldM_zero];exact .keep rfl rfl .nil)
 have hbl:=bldM_len w h q b M P0 k
 by_cases hlt:k<M.length
 ·have hmb:=ok_blk hok hlt
  have hsc:=bldM_succ w h q b M P0 k
  generalize hm:M.getD k default=mm at*
  obtain ⟨e,bs⟩:=mm
  simp only at hmb hsc
  have hbl4:bs.length=manyE e:=by have:=hmb.1;cases e<;>simp [nm8] at this<;>simp [manyE]<;>omega
  have hm4:manyE e≤4:=by cases e<;>decide
  refine goR (r:=?_);and_intros<;>intros<;>try exact True.intro
  all_goals first|contradiction|omega|skip
  rw [hm]
  refine K.call ?_
  apply WpL.callI (placesOf_c.ok w h q b d L k e ⟨by omega,by omega,by omega⟩)
  ·exact snapA
  ·exact locA
  ·exact outA
  ·exact FrzR.one (.own rfl rfl rfl (by rw [rows_len (k:=3) (fun _=>rfl),plsL_len]) rfl (Snap.same rfl (still_rows (fun _=>rfl) _) (nofre_rows (fun _=>rfl) _)) .nil)
  ·decide
  refine goR (r:=?_);and_intros<;>intros<;>try exact True.intro
  all_goals first|contradiction|omega|skip
  refine WpA.loop (fun i:Nat=>⟨[(1,.ptr 0 0 0),(2,.ptr 1 0 0),(3,.ptr 2 0 0),(5,.ptr 3 0 0),(20,MbL M),(21,I M.length),(22,I k),(32,.imm 3 (manyE e) (rows plF (plsL w (sz8 e) k (manyE e)))),(33,I (manyE e)),(34,I i)],[⟨[I w,I h,I q,B b,B d,IL L,MbL M],0,0,none⟩,⟨[I 0,I 0,.nilS],0,0,none⟩,FrO w h (bldB w h q b (sz8 e) k bs (bldM w h q b M P0 k) i),⟨[B e,.imm 2 bs.length (rows blkI bs)],0,0,none⟩]⟩) (fun i=>i≤manyE e) (fun i=>manyE e-i) 0 (Nat.zero_le _) (go (r:=?_)) (fun i hi=>?_)
  ·and_intros<;>first|exact True.intro|rfl|(rw [bldB_zero];exact .keep rfl rfl .nil)
  have hil:=bldB_len w h q b (sz8 e) k bs (bldM w h q b M P0 k) i
  by_cases hlt2:i<manyE e
  ·have hpl:=plsL_len w (sz8 e) k (manyE e)
   have hpg:(plsL w (sz8 e) k (manyE e)).getD i default=plc1 w (sz8 e) k i:=by
    unfold plsL
    simp [hlt2]
   have hbo:=ok_lv hmb (k:=i) (by omega)
   have hbn:=hbo.2.2.1
   have hsu:=bldB_succ w h q b (sz8 e) k bs (bldM w h q b M P0 k) i
   have hlv:(bs.getD i default).2.length≤64:=by cases e<;>simp [sz8] at hbn<;>omega
   generalize hPk:bldM w h q b M P0 k=Pk at*
   generalize hPi:bldB w h q b (sz8 e) k bs Pk i=Pi at*
   have hpu:=putL_len w h Pi q b (plc1 w (sz8 e) k i).1 (plc1 w (sz8 e) k i).2.1 (bs.getD i default).1 (bs.getD i default).2
   refine goR (r:=?_);and_intros<;>intros<;>try exact True.intro
   all_goals first|contradiction|omega|skip
   rw [hpg]
   try dsimp only [List.append,List.cons_append,List.nil_append]
   apply WpA.regionGB 17 mixed (by decide +kernel)
   ·exact rfl
   ·apply HeadG.hole2 rfl rfl rfl
    ·exact rfl
    ·exact in0
    ·exact rfl
    apply HeadG.hole0 rfl rfl rfl
    ·exact rfl
    ·exact in0
    ·exact rfl
    apply HeadG.hole0 rfl rfl rfl
    ·exact rfl
    ·exact in0
    ·exact rfl
    apply HeadG.hole4 rfl rfl rfl
    ·exact rfl
    ·exact in0
    ·exact rfl
    apply HeadG.hole4 rfl rfl rfl
    ·exact rfl
    ·exact in0
    ·exact rfl
    apply HeadG.hole4 rfl rfl rfl
    ·exact rfl
    ·exact in0
    ·exact rfl
    apply HeadG.hole4 rfl rfl rfl
    ·exact rfl
    ·exact in0
    ·exact rfl
    apply HeadG.hole3 rfl rfl rfl
    ·exact rfl
    ·exact in0
    ·exact rfl
    apply HeadG.hole3 rfl rfl rfl
    ·exact rfl
    ·exact in0
    ·exact rfl
    apply HeadG.preF 0 rfl rfl rfl
    ·exact rfl
    ·exact in0
    ·exact rfl
    apply HeadG.preF 0 rfl rfl rfl
    ·exact rfl
    ·exact in0
    ·exact rfl
    apply HeadG.preF 0 rfl rfl rfl
    ·exact rfl
    ·exact in0
    ·exact rfl
    apply HeadG.precF 0 rfl rfl
    ·exact rfl
    ·intro Tv Ov
     refine K.call ?_
     apply WpL.callI (PutRef_c.ok w h Pi w h q b d L (plc1 w (sz8 e) k i).1 (plc1 w (sz8 e) k i).2.1 (bs.getD i default).1 (bs.getD i default).2 ⟨by omega,by omega⟩)
     ·exact snapA
     ·exact locA
     ·exact outA
     ·exact FrzR.tup (.agg (.keep rfl rfl (.keep rfl rfl (.own rfl rfl rfl (by show Pi.length*1=(List.map _ _).length;rw [Nat.mul_one,List.length_map];exact hpu.symm) hpu.symm (Snap.same rfl (still_ints _) (nofre_ints _)) .nil))) (.keep rfl rfl .nil))
     ·decide
     ·exact WpL.nil (Only.mk rfl)
    ·exact rfl
    apply HeadG.preF 0 rfl rfl rfl
    ·exact rfl
    ·exact in0
    ·exact rfl
    apply HeadG.preF 0 rfl rfl rfl
    ·exact rfl
    ·exact in0
    ·exact rfl
    apply HeadG.preF 0 rfl rfl rfl
    ·exact rfl
    ·exact in0
    ·exact rfl
    apply HeadG.stepNF rfl
    ·exact rfl
    ·exact in1
    ·exact rfl
    exact Abs.HeadG.nil
   ·exact trueA
   ·exact trueA
   ·exact trueA
   ·exact demA
   ·exact rfl
   ·exact rfl
   refine goR (r:=?_);and_intros<;>intros<;>try exact True.intro
   all_goals first|contradiction|omega|(rw [hsu];exact .keep rfl rfl .nil)
  ·obtain rfl:i=manyE e:=by omega
   refine goR (r:=?_);and_intros<;>intros<;>try exact True.intro
   all_goals first|contradiction|omega|(rw [hsc];exact .keep rfl rfl .nil)
 ·obtain rfl:k=M.length:=by omega
  refine goR (r:=?_);and_intros<;>intros<;>try exact True.intro
  all_goals first|contradiction|omega|skip
  refine K.call ?_
  apply WpL.callK (ended_c w h w h q b d L (bldM w h q b M P0 M.length) (by omega))
  ·exact .agg (.keep rfl rfl (.keep rfl rfl (.keep rfl rfl (.keep rfl rfl (.keep rfl rfl (.keep rfl rfl .nil)))))) (.agg (.keep rfl rfl (.keep rfl rfl (.keep rfl rfl .nil))) .nil)
  ·decide
  refine goR (r:=?_);and_intros<;>intros<;>try exact True.intro
  all_goals first|contradiction|omega
end
end Go.Proofs.YtainhhfnnclfiaaGreat


namespace Go.Proofs.YtainhhfnnclfiaaGreat
open Go Go.Abs
theorem sumF_mul (c:Int) (f:Nat→Int):∀n,c*sumF f n=sumF (fun i=>c*f i) n
 |0=>by simp [sumF]
 |n+1=>by rw [sumF,sumF,Int.mul_add,sumF_mul c f n]
theorem sumF_mulR (c:Int) (f:Nat→Int):∀n,sumF f n*c=sumF (fun i=>f i*c) n
 |0=>by simp [sumF]
 |n+1=>by rw [sumF,sumF,Int.add_mul,sumF_mulR c f n]
theorem sumF_addF (f g:Nat→Int):∀n,sumF (fun i=>f i+g i) n=sumF f n+sumF g n
 |0=>by simp [sumF]
 |n+1=>by rw [sumF,sumF,sumF,sumF_addF f g n];omega
theorem sumF_zero:∀n,sumF (fun _=>0) n=0
 |0=>rfl
 |n+1=>by rw [sumF,sumF_zero n];rfl
theorem sumF_swap (f:Nat→Nat→Int) (m:Nat):∀n,sumF (fun i=>sumF (fun j=>f i j) m) n=sumF (fun j=>sumF (fun i=>f i j) n) m
 |0=>by simp only [sumF];rw [sumF_zero]
 |n+1=>by rw [sumF,sumF_swap f m n,←sumF_addF];rfl
theorem sumF_one {N:Int} {v:Nat→Int} {r:Nat}:∀n,sumF (fun p=>(if r=p then N else 0)*v p) n=if r<n then N*v r else 0
 |0=>by simp [sumF]
 |n+1=>by
  rw [sumF,sumF_one n]
  by_cases h:r<n
  ·rw [if_pos h,if_neg (by omega),if_pos (by omega)];omega
  ·by_cases h2:r=n
   ·subst h2;rw [if_neg (by omega),if_pos rfl,if_pos (by omega)];omega
   ·rw [if_neg h,if_neg h2,if_neg (by omega)];omega
theorem back1 {n:Nat} {g:Nat→Nat→Int} {u:Nat→Int} {N:Int} (h:∀r p,r<n→p<n→sumF (fun j=>g j r*(u j*g j p)) n=if r=p then N else 0) (v:Nat→Int) {r:Nat} (hr:r<n):
 sumF (fun j=>g j r*(u j*sumF (fun p=>g j p*v p) n)) n=N*v r:=by
 have e1:sumF (fun j=>g j r*(u j*sumF (fun p=>g j p*v p) n)) n=sumF (fun j=>sumF (fun p=>g j r*(u j*g j p)*v p) n) n:=by
  refine sumF_congr n fun j _=>?_
  rw [sumF_mul,sumF_mul]
  exact sumF_congr n fun p _=>by rw [Int.mul_assoc,Int.mul_assoc]
 have e2:sumF (fun p=>sumF (fun j=>g j r*(u j*g j p)*v p) n) n=sumF (fun p=>(if r=p then N else 0)*v p) n:=by
  refine sumF_congr n fun p hp=>?_
  rw [←sumF_mulR,h r p hr hp]
 rw [e1,sumF_swap,e2,sumF_one,if_pos hr]
theorem back2 {n:Nat} {g:Nat→Nat→Int} {u:Nat→Int} {N:Int} (h:∀r p,r<n→p<n→sumF (fun j=>g j r*(u j*g j p)) n=if r=p then N else 0) (X:Nat→Nat→Int) {r k:Nat} (hr:r<n) (hk:k<n):
 sumF (fun i=>sumF (fun j=>g j r*(sumF (fun m=>sumF (fun p=>g j p*X p m) n*g i m) n*(u j*u i))) n*g i k) n=N*(N*X r k):=by
 have e1:∀i,sumF (fun j=>g j r*(sumF (fun m=>sumF (fun p=>g j p*X p m) n*g i m) n*(u j*u i))) n=u i*sumF (fun m=>g i m*(N*X r m)) n:=by
  intro i
  have e2:sumF (fun j=>g j r*(sumF (fun m=>sumF (fun p=>g j p*X p m) n*g i m) n*(u j*u i))) n=sumF (fun j=>sumF (fun m=>g j r*(u j*sumF (fun p=>g j p*X p m) n)*(g i m*u i)) n) n:=by
   refine sumF_congr n fun j _=>?_
   rw [sumF_mulR,sumF_mul]
   refine sumF_congr n fun m _=>?_
   simp only [Int.mul_assoc,Int.mul_left_comm,Int.mul_comm]
  have e3:sumF (fun m=>sumF (fun j=>g j r*(u j*sumF (fun p=>g j p*X p m) n)*(g i m*u i)) n) n=sumF (fun m=>u i*(g i m*(N*X r m))) n:=by
   refine sumF_congr n fun m _=>?_
   rw [←sumF_mulR,back1 h (fun p=>X p m) hr]
   simp only [Int.mul_assoc,Int.mul_left_comm,Int.mul_comm]
  rw [e2,sumF_swap,e3,←sumF_mul]
 have e4:sumF (fun i=>sumF (fun j=>g j r*(sumF (fun m=>sumF (fun p=>g j p*X p m) n*g i m) n*(u j*u i))) n*g i k) n=sumF (fun i=>g i k*(u i*sumF (fun m=>g i m*(N*X r m)) n)) n:=by
  refine sumF_congr n fun i _=>?_
  rw [e1,Int.mul_comm]
 rw [e4,back1 h (fun m=>N*X r m) hk]
def u4 (j:Nat):Int:=if j%2=0 then 10 else 4
theorem orth4:∀r p,r<4→p<4→sumF (fun j=>mx 4 j r*(u4 j*mx 4 j p)) 4=if r=p then 40 else 0:=by
 have key:∀r:Fin 4,∀p:Fin 4,sumF (fun j=>mx 4 j r.val*(u4 j*mx 4 j p.val)) 4=if r.val=p.val then 40 else 0:=by decide +kernel
 exact fun r p hr hp=>key ⟨r,hr⟩ ⟨p,hp⟩
theorem orth8:∀r p,r<8→p<8→sumF (fun j=>mx 8 j r*(1*mx 8 j p)) 8=if r=p then 8 else 0:=by
 have key:∀r:Fin 8,∀p:Fin 8,sumF (fun j=>mx 8 j r.val*(1*mx 8 j p.val)) 8=if r.val=p.val then 8 else 0:=by decide +kernel
 exact fun r p hr hp=>key ⟨r,hr⟩ ⟨p,hp⟩
theorem step0:stepL 0=1:=by decide +kernel
theorem norm4 (p:Nat) (hp:p<16):normL 4 (p:Int)=u4 (p/4)*u4 (p%4):=by
 have key:∀p:Fin 16,normL 4 ((p.val:Nat):Int)=u4 (p.val/4)*u4 (p.val%4):=by decide +kernel
 exact key ⟨p,hp⟩
theorem norm8 (p:Nat) (hp:p<64):normL 8 (p:Int)=1:=by
 have key:∀p:Fin 64,normL 8 ((p.val:Nat):Int)=1:=by decide +kernel
 exact key ⟨p,hp⟩
theorem par_u (b:Nat):par b=1∨par b=-1:=by unfold par;split<;>simp
theorem mul1 {a b c:Int} (ha:a=1∨a=-1) (hb:-c≤b∧b≤c):-c≤a*b∧a*b≤c:=by rcases ha with rfl|rfl<;>omega
theorem full_bd4 {l:List Int} (h:In l (-255) 255) (r k:Nat):-16383≤fullM 4 (mg 4 false) l r k∧fullM 4 (mg 4 false) l r k≤16383:=by
 have h1:∀r k,-2040≤halfM 4 (mg 4 false) l r k∧halfM 4 (mg 4 false) l r k≤2040:=fun r k=>by
  have:=half_bd (n:=4) (mg_val 4 false) (c:=255) h (by decide) r k 4
  unfold halfM;omega
 have:=sumF_bd (f:=fun i=>halfM 4 (mg 4 false) l r i*mg 4 false k i) (c:=4080) (by decide) 4 fun i _=>by
  have:=mul2 (mg_val 4 false k i) (h1 r i) (by decide)
  rw [Int.mul_comm];omega
 unfold fullM;omega
theorem full_bd8 {l:List Int} (h:In l (-255) 255) (r k:Nat):-16383≤fullM 8 (mg 8 false) l r k∧fullM 8 (mg 8 false) l r k≤16383:=by
 have hg:∀r i,mg 8 false r i=1∨mg 8 false r i=-1:=fun r i=>par_u _
 have h1:∀r k,-2040≤halfM 8 (mg 8 false) l r k∧halfM 8 (mg 8 false) l r k≤2040:=fun r k=>by
  have:=sumF_bd (f:=fun i=>mg 8 false r i*l.getD (i*8+k) 0) (c:=255) (by decide) 8 fun i _=>mul1 (hg r i) (in_getZ h (by decide) _)
  unfold halfM;omega
 have:=sumF_bd (f:=fun i=>halfM 8 (mg 8 false) l r i*mg 8 false k i) (c:=2040) (by decide) 8 fun i _=>by
  rw [Int.mul_comm];exact mul1 (hg k i) (h1 r i)
 unfold fullM;omega
theorem qz_id {v:Int} (h:-16383≤v∧v≤16383):qz 1 v=v:=by
 unfold qz nearL clampM
 split<;>omega
theorem map_id {f:Int→Int}:∀{l:List Int},(∀ x∈l,f x=x)→l.map f=l
 |[],_=>rfl
 |a::l,h=>by rw [List.map_cons,h a (by simp),map_id fun x hx=>h x (by simp [hx])]
theorem scn_in {l:List Int} {c:Int} (h:In l (-c) c) (hc:0≤c):In (scnL l) (-c) c:=by
 unfold In scnL
 intro x hx
 obtain ⟨p,_,rfl⟩:=List.mem_map.1 hx
 exact in_getZ h hc _
theorem in_wide {l:List Int} {a b c d:Int} (h:In l a b) (h1:c≤a) (h2:b≤d):In l c d:=by
 unfold In at h ⊢
 exact fun x hx=>by have:=h x hx;omega
theorem in_tab {f:Nat→Int} {N:Nat} {a b:Int} (h:∀i,i<N→a≤f i∧f i≤b):In (tabL f N) a b:=by
 unfold In tabL
 intro x hx
 obtain ⟨i,hi,rfl⟩:=List.mem_map.1 hx
 exact h i (List.mem_range.1 hi)
theorem scn_ok {l:List Int} (h:l.length=16∨l.length=64) (hi:In l (-16383) 16383):LvOk (scnL l):=by
 refine ⟨scn_in hi (by decide),?_⟩
 rw [scnL_len,(scan_facts h).1];exact h
theorem tr_small {r:List Int} {n:Int} (hs:side r.length=n) (h:r.length=16∨r.length=64) (hr:In r (-255) 255):trL n false r=mulM n.toNat (mg n.toNat false) r∧(trL n false r).length=r.length∧In (trL n false r) (-16383) 16383:=by
 have hf:FitM r:=in_wide hr (by decide) (by decide)
 rcases h with e|e
 ·have:n=4:=by rw [←hs,e];rfl
  subst this
  have e1:trL 4 false r=mulM 4 (mg 4 false) r:=trL_yes (.inl rfl) ⟨hf,by omega⟩
  refine ⟨e1,?_,?_⟩
  ·rw [e1,e];exact tabL_len _ _
  ·rw [e1];exact in_tab fun i _=>full_bd4 hr _ _
 ·have:n=8:=by rw [←hs,e];rfl
  subst this
  have e1:trL 8 false r=mulM 8 (mg 8 false) r:=trL_yes (.inr rfl) ⟨hf,by omega⟩
  refine ⟨e1,?_,?_⟩
  ·rw [e1,e];exact tabL_len _ _
  ·rw [e1];exact in_tab fun i _=>full_bd8 hr _ _
theorem quant_id {X:List Int} (h:X.length=16∨X.length=64) (hi:In X (-16383) 16383):quantL X 0=X:=by
 unfold quantL
 rw [if_pos ⟨(side_pos _).2 h,by rw [step0];decide⟩,step0]
 unfold In at hi
 exact map_id fun x hx=>qz_id (hi x hx)
theorem inv_small {r:List Int} {n:Int} (hs:side r.length=n) (h:r.length=16∨r.length=64) (hr:In r (-255) 255):rndL (trL n true (scaL (trL n false r) 0))=r:=by
 obtain ⟨h1,h2,h3⟩:=tr_small hs h hr
 have hlv:LvOk (trL n false r):=⟨h3,by rw [h2];exact h⟩
 have hsl:scaL (trL n false r) 0=tabL (scaF (trL n false r) 0) r.length:=by
  unfold scaL;rw [if_pos ⟨hlv,by rw [step0];decide⟩,h2]
 have hfit:=scaL_fit (trL n false r) 0
 have hlen:(scaL (trL n false r) 0).length=r.length:=by rw [hsl];exact tabL_len _ _
 rcases h with e|e
 ·have:n=4:=by rw [←hs,e];rfl
  subst this
  have ht:trL 4 true (scaL (trL 4 false r) 0)=mulM 4 (mg 4 true) (scaL (trL 4 false r) 0):=trL_yes (.inl rfl) ⟨hfit,by omega⟩
  have hml:(mulM 4 (mg 4 true) (scaL (trL 4 false r) 0)).length=16:=tabL_len _ _
  rw [ht]
  refine list_ext (N:=16) ?_ e fun q hq=>?_
  ·unfold rndL;rw [if_pos (by rw [hml];decide),List.length_map,hml]
  ·unfold rndL
   rw [if_pos (by rw [hml];decide),hml]
   have e1:((mulM 4 (mg 4 true) (scaL (trL 4 false r) 0)).map (rnd1 16)).getD q 0=rnd1 16 ((mulM 4 (mg 4 true) (scaL (trL 4 false r) 0)).getD q 0):=by
    rw [List.getD_eq_getElem?_getD,List.getElem?_map,List.getD_eq_getElem?_getD,List.getElem?_eq_getElem (by omega:q<_)];rfl
   have hq1:q/4<4:=by omega
   have hq2:q%4<4:=by omega
   have e2:(mulM 4 (mg 4 true) (scaL (trL 4 false r) 0)).getD q 0=40*(40*r.getD (q/4*4+q%4) 0):=by
    unfold mulM
    rw [tabL_get hq,←back2 orth4 (fun p m=>r.getD (p*4+m) 0) hq1 hq2]
    refine sumF_congr 4 fun i hi=>?_
    show halfM 4 (mg 4 true) _ _ _*mx 4 i (q%4)=_
    congr 1
    refine sumF_congr 4 fun j hj=>?_
    show mx 4 j (q/4)*_=_
    congr 1
    rw [hsl,e,tabL_get (by omega:j*4+i<16),scaF,step0,h1,show (4:Int).toNat=4 from rfl]
    have hd:=divmod (n:=4) (r:=j) (k:=i) hi
    have hn:=norm4 (j*4+i) (by omega)
    rw [hd.1,hd.2] at hn
    have hsd:side (mulM 4 (mg 4 false) r).length=4:=by rw [show (mulM 4 (mg 4 false) r).length=16 from tabL_len _ _];rfl
    rw [hsd,hn,Int.mul_one]
    congr 1
    unfold mulM
    rw [tabL_get (by omega:j*4+i<4*4),hd.1,hd.2]
    rfl
   have hb:=in_getZ hr (by decide) q
   have e3:q/4*4+q%4=q:=by omega
   rw [e1,e2,e3]
   unfold rnd1
   rw [if_pos rfl]
   omega
 ·have:n=8:=by rw [←hs,e];rfl
  subst this
  have ht:trL 8 true (scaL (trL 8 false r) 0)=mulM 8 (mg 8 true) (scaL (trL 8 false r) 0):=trL_yes (.inr rfl) ⟨hfit,by omega⟩
  have hml:(mulM 8 (mg 8 true) (scaL (trL 8 false r) 0)).length=64:=tabL_len _ _
  rw [ht]
  refine list_ext (N:=64) ?_ e fun q hq=>?_
  ·unfold rndL;rw [if_pos (by rw [hml];decide),List.length_map,hml]
  ·unfold rndL
   rw [if_pos (by rw [hml];decide),hml]
   have e1:((mulM 8 (mg 8 true) (scaL (trL 8 false r) 0)).map (rnd1 64)).getD q 0=rnd1 64 ((mulM 8 (mg 8 true) (scaL (trL 8 false r) 0)).getD q 0):=by
    rw [List.getD_eq_getElem?_getD,List.getElem?_map,List.getD_eq_getElem?_getD,List.getElem?_eq_getElem (by omega:q<_)];rfl
   have hq1:q/8<8:=by omega
   have hq2:q%8<8:=by omega
   have e2:(mulM 8 (mg 8 true) (scaL (trL 8 false r) 0)).getD q 0=8*(8*r.getD (q/8*8+q%8) 0):=by
    unfold mulM
    rw [tabL_get hq,←back2 (u:=fun _=>1) orth8 (fun p m=>r.getD (p*8+m) 0) hq1 hq2]
    refine sumF_congr 8 fun i hi=>?_
    show halfM 8 (mg 8 true) _ _ _*mx 8 i (q%8)=_
    congr 1
    refine sumF_congr 8 fun j hj=>?_
    show mx 8 j (q/8)*_=_
    congr 1
    rw [hsl,e,tabL_get (by omega:j*8+i<64),scaF,step0,h1,show (8:Int).toNat=8 from rfl]
    have hd:=divmod (n:=8) (r:=j) (k:=i) hi
    have hn:=norm8 (j*8+i) (by omega)
    have hsd:side (mulM 8 (mg 8 false) r).length=8:=by rw [show (mulM 8 (mg 8 false) r).length=64 from tabL_len _ _];rfl
    rw [hsd,hn,Int.mul_one]
    congr 1
    unfold mulM
    rw [tabL_get (by omega:j*8+i<8*8),hd.1,hd.2]
    rfl
   have hb:=in_getZ hr (by decide) q
   have e3:q/8*8+q%8=q:=by omega
   rw [e1,e2,e3]
   unfold rnd1
   rw [if_neg (by decide)]
   omega
theorem lev_ok {b:Bool} {q:Int} {l r:List Int} (ho:OptOk q l) (h:r.length=16∨r.length=64) (hr:In r (-255) 255):LvOk (levL b q l r):=by
 have hf:FitM r:=in_wide hr (by decide) (by decide)
 unfold levL
 rw [if_pos ⟨ho,(side_pos _).2 h,hf⟩]
 split
 ·refine scn_ok (by rw [List.length_map];exact h) ?_
  unfold In;intro x hx;obtain ⟨v,_,rfl⟩:=List.mem_map.1 hx;unfold clampL;omega
 ·obtain ⟨h1,h2,h3⟩:=tr_small (n:=side r.length) rfl h hr
  have hq:(quantL (trL (side r.length) false r) q).length=r.length:=by
   unfold quantL;rw [if_pos ⟨by rw [h2];exact (side_pos _).2 h,(stepL_pos q).2 ho.1⟩,List.length_map,h2]
  refine scn_ok (by rw [hq];exact h) ?_
  unfold quantL;rw [if_pos ⟨by rw [h2];exact (side_pos _).2 h,(stepL_pos q).2 ho.1⟩]
  unfold In;intro x hx;obtain ⟨v,_,rfl⟩:=List.mem_map.1 hx;unfold qz;omega
theorem lev_back {b:Bool} {l r:List Int} (ho:OptOk 0 l) (h:r.length=16∨r.length=64) (hr:In r (-255) 255):resL b 0 (levL b 0 l r)=r:=by
 have hok:=lev_ok (b:=b) ho h hr
 have hf:FitM r:=in_wide hr (by decide) (by decide)
 have hc:OptOk 0 l∧0<side r.length∧FitM r:=⟨ho,(side_pos _).2 h,hf⟩
 have hd:LvOk (levL b 0 l r)∧0<stepL 0:=⟨hok,by rw [step0];decide⟩
 unfold resL
 rw [if_pos hd]
 unfold levL
 rw [if_pos hc]
 cases b with
 |true=>
  rw [if_pos rfl,if_pos rfl]
  have:r.map clampL=r:=map_id fun x hx=>by unfold In at hr;have:=hr x hx;unfold clampL;omega
  rw [this,plc_scn h]
 |false=>
  rw [if_neg (by decide),if_neg (by decide)]
  obtain ⟨h1,h2,h3⟩:=tr_small (n:=side r.length) rfl h hr
  rw [quant_id (by rw [h2];exact h) h3,plc_scn (by rw [h2];exact h)]
  have hs:(scnL (trL (side r.length) false r)).length=r.length:=by
   rw [scnL_len,(scan_facts (by rw [h2];exact h)).1,h2]
  rw [hs]
  exact inv_small rfl h hr
end Go.Proofs.YtainhhfnnclfiaaGreat


namespace Go.Proofs.YtainhhfnnclfiaaGreat
open Go Go.Abs
abbrev Chs:=Nat→List Int→List Int→List Int→Int→Bool→Bool→Int→Int
def chM (W H:Int) (F:List Int) (ch:Chs) (c:Nat) (P:List Int) (x y n:Int):Int:=ch c (blkL W H F x y n) (topL W H P x y n) (lefL W H P x y n) (corL W H P x y n) (hasT W H P x y n) (hasE W H P x y n) n
def chV (W H:Int) (F:List Int) (q:Int) (b:Bool) (L P:List Int) (x y n m:Int):List Int:=levL b q L (resS (blkL W H F x y n) (nbP W H P x y n m))
structure EncA where
 W:Int
 H:Int
 q:Int
 b:Bool
 L:List Int
 F:List Int
 ch:Chs
def encB (a:EncA) (e:Bool) (k c:Nat) (P:List Int):Nat→List Blok×List Int
 |0=>([],P)
 |i+1=>
  ((encB a e k c P i).1++[(chM a.W a.H a.F a.ch (c+i) (encB a e k c P i).2 (plc1 a.W (sz8 e) k i).1 (plc1 a.W (sz8 e) k i).2.1 (sz8 e),
   chV a.W a.H a.F a.q a.b a.L (encB a e k c P i).2 (plc1 a.W (sz8 e) k i).1 (plc1 a.W (sz8 e) k i).2.1 (sz8 e) (chM a.W a.H a.F a.ch (c+i) (encB a e k c P i).2 (plc1 a.W (sz8 e) k i).1 (plc1 a.W (sz8 e) k i).2.1 (sz8 e)))],
   putL a.W a.H (encB a e k c P i).2 a.q a.b (plc1 a.W (sz8 e) k i).1 (plc1 a.W (sz8 e) k i).2.1 (chM a.W a.H a.F a.ch (c+i) (encB a e k c P i).2 (plc1 a.W (sz8 e) k i).1 (plc1 a.W (sz8 e) k i).2.1 (sz8 e))
    (chV a.W a.H a.F a.q a.b a.L (encB a e k c P i).2 (plc1 a.W (sz8 e) k i).1 (plc1 a.W (sz8 e) k i).2.1 (sz8 e) (chM a.W a.H a.F a.ch (c+i) (encB a e k c P i).2 (plc1 a.W (sz8 e) k i).1 (plc1 a.W (sz8 e) k i).2.1 (sz8 e))))
def encM (a:EncA) (E:Nat→Bool) (P:List Int):Nat→List Mbk×List Int×Nat
 |0=>([],P,0)
 |k+1=>
  ((encM a E P k).1++[(E k,(encB a (E k) k (encM a E P k).2.2 (encM a E P k).2.1 (manyE (E k))).1)],
   (encB a (E k) k (encM a E P k).2.2 (encM a E P k).2.1 (manyE (E k))).2,(encM a E P k).2.2+manyE (E k))
theorem encB_len (a:EncA) (e:Bool) (k c:Nat) (P:List Int):∀i,(encB a e k c P i).1.length=i
 |0=>rfl
 |i+1=>by rw [encB];simp [encB_len a e k c P i]
theorem encB_plen (a:EncA) (e:Bool) (k c:Nat) (P:List Int):∀i,(encB a e k c P i).2.length=P.length
 |0=>rfl
 |i+1=>by rw [encB];exact (putL_len ..).trans (encB_plen a e k c P i)
theorem encM_len (a:EncA) (E:Nat→Bool) (P:List Int):∀k,(encM a E P k).1.length=k
 |0=>rfl
 |k+1=>by rw [encM];simp [encM_len a E P k]
theorem encM_plen (a:EncA) (E:Nat→Bool) (P:List Int):∀k,(encM a E P k).2.1.length=P.length
 |0=>rfl
 |k+1=>by rw [encM];exact (encB_plen ..).trans (encM_plen a E P k)
theorem encM_cnt (a:EncA) (E:Nat→Bool) (P:List Int):∀k,(encM a E P k).2.2≤4*k
 |0=>Nat.le_refl _
 |k+1=>by
  have:=encM_cnt a E P k
  rw [encM]
  show _+manyE (E k)≤_
  cases E k<;>simp [manyE]<;>omega
theorem encB_ok {a:EncA} {e:Bool} {k c:Nat} {P:List Int} (h:FrameOk a.W a.H P):∀i,FrameOk a.W a.H (encB a e k c P i).2
 |0=>h
 |i+1=>by rw [encB];exact putL_ok (encB_ok h i)
theorem encM_ok {a:EncA} {E:Nat→Bool} {P:List Int} (h:FrameOk a.W a.H P):∀k,FrameOk a.W a.H (encM a E P k).2.1
 |0=>h
 |k+1=>by rw [encM];exact encB_ok (encM_ok h k) _
theorem getD_app1 {α} {l r:List α} {i:Nat} {d:α} (h:i<l.length):(l++r).getD i d=l.getD i d:=by
 rw [List.getD_eq_getElem?_getD,List.getD_eq_getElem?_getD,List.getElem?_append_left h]
theorem getD_app2 {α} {l:List α} {x d:α}:(l++[x]).getD l.length d=x:=by
 rw [List.getD_eq_getElem?_getD,List.getElem?_append_right (Nat.le_refl _)];simp
theorem bldB_app (W H q:Int) (b:Bool) (n:Int) (k:Nat) (bs cs:List Blok) (p:List Int):∀i,i≤bs.length→bldB W H q b n k (bs++cs) p i=bldB W H q b n k bs p i
 |0,_=>rfl
 |i+1,h=>by rw [bldB,bldB,bldB_app W H q b n k bs cs p i (by omega),getD_app1 (by omega)]
theorem bldM_app (W H q:Int) (b:Bool) (M N:List Mbk) (p:List Int):∀k,k≤M.length→bldM W H q b (M++N) p k=bldM W H q b M p k
 |0,_=>rfl
 |k+1,h=>by rw [bldM,bldM,bldM_app W H q b M N p k (by omega),getD_app1 (by omega)]
theorem encB_bld (a:EncA) (e:Bool) (k c:Nat) (P:List Int):∀i,bldB a.W a.H a.q a.b (sz8 e) k (encB a e k c P i).1 P i=(encB a e k c P i).2
 |0=>rfl
 |i+1=>by
  have hl:=encB_len a e k c P i
  have ih:=encB_bld a e k c P i
  rw [bldB,encB]
  simp only
  rw [bldB_app _ _ _ _ _ _ _ _ _ i (by omega),ih]
  have:∀x:Blok,((encB a e k c P i).1++[x]).getD i default=x:=fun x=>by
   have:=getD_app2 (l:=(encB a e k c P i).1) (x:=x) (d:=default);rw [hl] at this;exact this
  rw [this]
theorem encM_bld (a:EncA) (E:Nat→Bool) (P:List Int):∀k,bldM a.W a.H a.q a.b (encM a E P k).1 P k=(encM a E P k).2.1
 |0=>rfl
 |k+1=>by
  have hl:=encM_len a E P k
  have ih:=encM_bld a E P k
  rw [bldM,encM]
  simp only
  rw [bldM_app _ _ _ _ _ _ _ k (by omega),ih]
  have:∀x:Mbk,((encM a E P k).1++[x]).getD k default=x:=fun x=>by
   have:=getD_app2 (l:=(encM a E P k).1) (x:=x) (d:=default);rw [hl] at this;exact this
  rw [this]
  exact encB_bld ..
theorem plc_fit {W H:Int} (h:SidesOk W H) {e:Bool} {k i:Nat} (hk:(k:Int)<cntM W H) (hi:i<manyE e):0≤(plc1 W (sz8 e) k i).1∧(plc1 W (sz8 e) k i).1≤W-sz8 e∧0≤(plc1 W (sz8 e) k i).2.1∧(plc1 W (sz8 e) k i).2.1≤H-sz8 e∧(plc1 W (sz8 e) k i).1%sz8 e=0∧(plc1 W (sz8 e) k i).2.1%sz8 e=0:=by
 unfold cntM at hk
 obtain ⟨h1,h2,h3,h4,h5,h6⟩:=h
 have hw:1≤W/8:=by omega
 have a0:0≤(k:Int)%(W/8)∧(k:Int)%(W/8)<W/8:=⟨Int.emod_nonneg _ (by omega),Int.emod_lt_of_pos _ (by omega)⟩
 have a1:0≤(k:Int)/(W/8)∧(k:Int)/(W/8)<H/8:=⟨Int.ediv_nonneg (by omega) (by omega),Int.ediv_lt_of_lt_mul (by omega) (by rw [Int.mul_comm];exact hk)⟩
 unfold plc1
 generalize (k:Int)%(W/8)=u at*
 generalize (k:Int)/(W/8)=v at*
 cases e with
 |true=>
  have:i=0:=by simp [manyE] at hi;exact hi
  subst this
  simp only [sz8,cond_true]
  omega
 |false=>
  have:i<4:=hi
  simp only [sz8,cond_false]
  omega
theorem plc_fits {W H:Int} {p:List Int} (h:FrameOk W H p) {e:Bool} {k i:Nat} (hk:(k:Int)<cntM W H) (hi:i<manyE e):Fits W H p (plc1 W (sz8 e) k i).1 (plc1 W (sz8 e) k i).2.1 (sz8 e):=by
 obtain ⟨a,b,c,d,f,g⟩:=plc_fit h.1 hk hi
 exact ⟨h,by cases e<;>simp [sz8],⟨a,b⟩,⟨c,d⟩,f,g⟩
theorem blk_in {W H:Int} {p:List Int} (h:In p 0 255) (x y n:Int):In (blkL W H p x y n) 0 255:=by
 unfold blkL;split
 ·exact tab_in fun i _=>in_getZ255 h _
 ·exact in_nil 0 255
theorem res_ok {W H:Int} {F P:List Int} {x y n m:Int} (hF:Fits W H F x y n) (hP:Fits W H P x y n) (hm:0≤m∧m≤5):ResOk (blkL W H F x y n) (nbP W H P x y n m)∧(blkL W H F x y n).length=(n*n).toNat:=by
 have hb:(blkL W H F x y n).length=(n*n).toNat:=by unfold blkL;rw [if_pos hF];exact tabL_len ..
 have hp:(nbP W H P x y n m).length=n.toNat*n.toNat:=by unfold nbP;rw [predS_len,if_pos ⟨nb_ok hP,hm⟩]
 have hn:=hF.2.1
 refine ⟨⟨?_,?_,blk_in hF.1.2.2 _ _ _,predS_in ..⟩,hb⟩
 ·rw [hb];rcases hn with rfl|rfl<;>decide
 ·rw [hb,hp];rcases hn with rfl|rfl<;>decide
theorem res_in {f p:List Int}:In (resS f p) (-255) 255:=by
 unfold resS;split
 ·rename_i h
  obtain ⟨_,_,h1,h2⟩:=h
  unfold In rsK;intro v hv
  obtain ⟨i,_,rfl⟩:=List.mem_map.1 hv
  have:=in_getZ255 h1 i
  have:=in_getZ255 h2 i
  omega
 ·unfold In;intro v hv;cases hv
theorem blk_enc {W H q:Int} {b:Bool} {L F P:List Int} {x y n m:Int} (ho:OptOk q L) (hm:HasC L m) (hF:Fits W H F x y n) (hP:Fits W H P x y n):BlkOk m (chV W H F q b L P x y n m) L n∧((chV W H F q b L P x y n m).length:Int)=n*n:=by
 have hr:=res_ok hF hP hm.2.1
 have hl:(resS (blkL W H F x y n) (nbP W H P x y n m)).length=(n*n).toNat:=by rw [resS_len,if_pos hr.1,hr.2]
 have h16:(resS (blkL W H F x y n) (nbP W H P x y n m)).length=16∨(resS (blkL W H F x y n) (nbP W H P x y n m)).length=64:=by
  rw [hl];rcases hF.2.1 with rfl|rfl<;>decide
 have hlv:=lev_ok (b:=b) ho h16 res_in
 have hlen:((chV W H F q b L P x y n m).length:Int)=n*n:=by
  unfold chV levL
  rw [if_pos ⟨ho,(side_pos _).2 h16,in_wide res_in (by decide) (by decide)⟩]
  have hs:side (resS (blkL W H F x y n) (nbP W H P x y n m)).length=n:=by rw [hl];rcases hF.2.1 with rfl|rfl<;>rfl
  have hn:=hF.2.1
  split
  ·rw [scnL_len,List.length_map,(scan_facts h16).1,hl];rcases hn with rfl|rfl<;>decide
  ·obtain ⟨h1,h2,h3⟩:=tr_small (n:=side (resS (blkL W H F x y n) (nbP W H P x y n m)).length) rfl h16 res_in
   have hq:(quantL (trL (side (resS (blkL W H F x y n) (nbP W H P x y n m)).length) false (resS (blkL W H F x y n) (nbP W H P x y n m))) q).length=(resS (blkL W H F x y n) (nbP W H P x y n m)).length:=by
    unfold quantL;rw [if_pos ⟨by rw [h2];exact (side_pos _).2 h16,(stepL_pos q).2 ho.1⟩,List.length_map,h2]
   rw [scnL_len,hq,(scan_facts h16).1,hl];rcases hn with rfl|rfl<;>decide
 exact ⟨⟨hF.2.1,hm,hlen,hlv⟩,hlen⟩
abbrev ChOk (a:EncA):Prop:=∀c x y n P,Fits a.W a.H P x y n→HasC a.L (chM a.W a.H a.F a.ch c P x y n)
theorem encB_good {a:EncA} (ho:OptOk a.q a.L) (hF:FrameOk a.W a.H a.F) (hc:ChOk a) {e:Bool} {k c:Nat} {P:List Int} (hP:FrameOk a.W a.H P) (hk:(k:Int)<cntM a.W a.H):∀i,i≤manyE e→∀x∈(encB a e k c P i).1,BlkOk x.1 x.2 a.L (sz8 e)
 |0,_=>fun x hx=>by cases hx
 |i+1,hi=>fun x hx=>by
  rw [encB] at hx
  rcases List.mem_append.1 hx with h|h
  ·exact encB_good ho hF hc hP hk i (by omega) x h
  ·rw [List.mem_singleton] at h
   subst h
   have h1:=plc_fits hF (e:=e) (i:=i) hk (by omega)
   have h2:=plc_fits (encB_ok (e:=e) (k:=k) (c:=c) hP i) (e:=e) (i:=i) hk (by omega)
   exact (blk_enc ho (hc _ _ _ _ _ h2) h1 h2).1
theorem encM_good {a:EncA} (ho:OptOk a.q a.L) (hF:FrameOk a.W a.H a.F) (hc:ChOk a) {E:Nat→Bool} {P:List Int} (hP:FrameOk a.W a.H P):∀k:Nat,(k:Int)≤cntM a.W a.H→∀x∈(encM a E P k).1,MbkOk x.1 x.2 a.L
 |0,_=>fun x hx=>by cases hx
 |k+1,hk=>fun x hx=>by
  rw [encM] at hx
  rcases List.mem_append.1 hx with h|h
  ·exact encM_good ho hF hc hP k (by omega) x h
  ·rw [List.mem_singleton] at h
   subst h
   refine ⟨?_,?_⟩
   ·simp only [encB_len];cases E k<;>simp [manyE,nm8]
   ·rw [List.any_eq_false]
    intro y hy
    have:=encB_good ho hF hc (encM_ok (a:=a) (E:=E) hP k) (by omega) (manyE (E k)) (Nat.le_refl _) y hy
    simp [badB,this]
def encS (a:EncA) (E:Nat→Bool):List Mbk:=(encM a E (zerP a.W a.H) (cntM a.W a.H).toNat).1
theorem zer_ok {W H:Int} (h:SidesOk W H):FrameOk W H (zerP W H):=by
 refine ⟨h,?_,?_⟩
 ·unfold zerP;rw [List.length_replicate];have h1:8*8≤W*H:=Int.mul_le_mul h.1 h.2.2.1 (by omega) (by have:=h.1;omega);omega
 ·unfold zerP In;intro v hv;rw [List.eq_of_mem_replicate hv];decide
theorem encS_ok {a:EncA} (ho:OptOk a.q a.L) (hF:FrameOk a.W a.H a.F) (hc:ChOk a) (E:Nat→Bool):StOk a.W a.H a.q a.L (encS a E):=by
 have hcm:=cntM_bd hF.1
 refine ⟨⟨hF.1,ho⟩,?_,?_⟩
 ·unfold encS;rw [encM_len];omega
 ·rw [List.any_eq_false]
  intro x hx
  have:=encM_good ho hF hc (E:=E) (zer_ok hF.1) (cntM a.W a.H).toNat (by omega) x hx
  simp [badM,this]
theorem encS_ref (a:EncA) (E:Nat→Bool) (d:Bool):refL a.W a.H a.q a.b d (encS a E)=endL a.W a.H a.q d (encM a E (zerP a.W a.H) (cntM a.W a.H).toNat).2.1:=by
 unfold refL encS
 rw [encM_len,encM_bld]
end Go.Proofs.YtainhhfnnclfiaaGreat


namespace Go.Abs
open Go
inductive Ry (O O':List AObj) (j:Nat):List AV→List AV→Prop
 |nil:Ry O O' j [] []
 |any {V vs us}:Ry O O' j vs us→Ry O O' j (V::vs) (.any::us)
 |keep {V V' vs us}:V=V'→V'.still=true→Ry O O' j vs us→Ry O O' j (V::vs) (V'::us)
 |own {id ep ep' off len len' ob ob' vs us}:O[id]?=some ob→O'[id]?=some ob'→ob.ep=ep→ob'.ep=ep'→ob'.size=ob.size→len=len'→Ry O O' j vs us→Ry O O' j (.own id ep off len::vs) (.own id ep' off len'::us)
 |ptr {id ep ep' off ob ob' vs us}:O[id]?=some ob→O'[id]?=some ob'→ob.ep=ep→ob'.ep=ep'→Ry O O' j vs us→Ry O O' j (.ptr id ep off::vs) (.ptr id ep' off::us)
 |fn {f ds vs us}:ds.all AV.simple=true→Ry O O' j vs us→Ry O O' j (.fn f ds::vs) (.fn f ds::us)
 |agg {ds es vs us}:Ry O O' j ds es→Ry O O' j vs us→Ry O O' j (.agg ds::vs) (.agg es::us)
 |nilO {ob' k len vs us}:O'[k]?=some ob'→k=j→ob'.ep=0→0=len→Ry O O' j vs us→Ry O O' j (.nilS::vs) (.own k 0 0 len::us)
theorem simple_allI {S w ι ι' O O'}:∀{ds:List AV} {us f},LRel S w ι O ds us f→ds.all AV.simple=true→LRel S w ι' O' ds us f
 |[],us,f,h,_=>by cases h;exact .nil
 |d::ds,us,f,h,hs=>by
  simp only [List.all_cons,Bool.and_eq_true] at hs
  obtain ⟨v,vs,f1,f2,rfl,hv,hr,rfl⟩:=h.uncons
  have hst:d.still=true:=by cases d<;>simp_all [AV.simple,AV.still]
  exact LRel.cons (still_any hv hst O' (fun _ h=>h) (fun _ _=>rfl) (fun _ _=>rfl)) (simple_allI hr hs.2)
theorem Ry.same {O O':List AObj} {j:Nat} {cs cs':List AV} (h:cs=cs') (hs:cs'.all AV.still=true):Ry O O' j cs cs':=by
 subst h
 induction cs with
 |nil=>exact .nil
 |cons c cs ih=>
  simp only [List.all_cons,Bool.and_eq_true] at hs
  exact .keep rfl hs.1 (ih hs.2)
theorem Ry.rel {O O':List AObj} {j:Nat} {S w} {ι ι':Nat→Spot} (hj:ι' j=none) (hι:∀id,id<O.length→ι' id=ι id) {vs us:List AV} (h:Ry O O' j vs us):∀{xs f},LRel S w ι O vs xs f→∃f',LRel S w ι' O' us xs f'∧(∀ b∈f',b∈f)∧(f.Nodup→f'.Nodup):=by
 induction h with
 |nil=>intro xs f hl;cases hl;exact ⟨[],.nil,by simp,by simp⟩
 |any _ ih=>
  intro xs f hl
  obtain ⟨v,vs',f1,f2,rfl,hv,hr,rfl⟩:=hl.uncons
  obtain ⟨f',h1,h2,h3⟩:=ih hr
  exact ⟨f',.any h1,fun b hb=>List.mem_append_right _ (h2 b hb),fun hn=>h3 (List.nodup_append.1 hn).2.1⟩
 |keep he hs _ ih=>
  intro xs f hl
  subst he
  obtain ⟨v,vs',f1,f2,rfl,hv,hr,rfl⟩:=hl.uncons
  obtain ⟨f',h1,h2,h3⟩:=ih hr
  refine ⟨f1++f',LRel.cons (still_any hv hs O' (fun _ h=>h) (fun _ _=>rfl) (fun _ _=>rfl)) h1,?_,?_⟩
  ·intro b hb
   rcases List.mem_append.1 hb with hb|hb
   ·exact List.mem_append_left _ hb
   ·exact List.mem_append_right _ (h2 b hb)
  ·intro hn
   obtain ⟨n1,n2,n3⟩:=List.nodup_append.1 hn
   exact List.nodup_append.2 ⟨n1,h3 n2,fun a ha b hb=>n3 a ha b (h2 b hb)⟩
 |own ho ho' he he' hsz hln _ ih=>
  intro xs f hl
  subst hln
  obtain ⟨v,vs',f1,f2,rfl,hv,hr,rfl⟩:=hl.uncons
  obtain ⟨f',h1,h2,h3⟩:=ih hr
  refine ⟨f',?_,fun b hb=>List.mem_append_right _ (h2 b hb),fun hn=>h3 (List.nodup_append.1 hn).2.1⟩
  cases hv with
  |own q1 q2 q3 r=>
   rw [ho] at q1;cases q1
   exact .own ho' (by omega) (fun _=>by rw [hsz,hι _ (List.getElem?_eq_some_iff.1 ho).1];exact q3 he.symm) h1
 |ptr ho ho' he he' _ ih=>
  intro xs f hl
  obtain ⟨v,vs',f1,f2,rfl,hv,hr,rfl⟩:=hl.uncons
  obtain ⟨f',h1,h2,h3⟩:=ih hr
  refine ⟨f',?_,fun b hb=>List.mem_append_right _ (h2 b hb),fun hn=>h3 (List.nodup_append.1 hn).2.1⟩
  cases hv with
  |ptr q1 q2 q3 r=>
   rw [ho] at q1;cases q1
   exact .ptr ho' (by omega) (fun _=>by rw [hι _ (List.getElem?_eq_some_iff.1 ho).1];exact q3 he.symm) h1
 |fn hs _ ih=>
  intro xs f hl
  obtain ⟨v,vs',f1,f2,rfl,hv,hr,rfl⟩:=hl.uncons
  obtain ⟨f',h1,h2,h3⟩:=ih hr
  refine ⟨f',?_,fun b hb=>List.mem_append_right _ (h2 b hb),fun hn=>h3 (List.nodup_append.1 hn).2.1⟩
  cases hv with
  |fn a r=>cases r;exact .fn (simple_allI a hs) h1
 |agg _ _ ih1 ih2=>
  intro xs f hl
  obtain ⟨v,vs',f1,f2,rfl,hv,hr,rfl⟩:=hl.uncons
  obtain ⟨us',rfl,ha⟩:=LRel.agg_inv hv
  obtain ⟨g',a1,a2,a3⟩:=ih1 ha
  obtain ⟨f',h1,h2,h3⟩:=ih2 hr
  refine ⟨g'++f',.agg a1 h1,?_,?_⟩
  ·intro b hb
   rcases List.mem_append.1 hb with hb|hb
   ·exact List.mem_append_left _ (a2 b hb)
   ·exact List.mem_append_right _ (h2 b hb)
  ·intro hn
   obtain ⟨n1,n2,n3⟩:=List.nodup_append.1 hn
   exact List.nodup_append.2 ⟨a3 n1,h3 n2,fun a ha b hb=>n3 a (a2 a ha) b (h2 b hb)⟩
 |nilO hk hkj hep hlen _ ih=>
  intro xs f hl
  subst hkj;subst hlen
  obtain ⟨v,vs',f1,f2,rfl,hv,hr,rfl⟩:=hl.uncons
  obtain ⟨f',h1,h2,h3⟩:=ih hr
  refine ⟨f',?_,fun b hb=>List.mem_append_right _ (h2 b hb),fun hn=>h3 (List.nodup_append.1 hn).2.1⟩
  cases hv with
  |nilS r=>exact .own hk (by omega) (fun _=>by rw [hj];exact ⟨rfl,rfl,rfl⟩) h1
inductive RyT (O O':List AObj) (j:Nat) (T:List (Nat×AV)):List (Nat×AV)→Prop
 |nil:RyT O O' j T []
 |cons {t V T'}:Ry O O' j [look T t] [V]→RyT O O' j T T'→RyT O O' j T ((t,V)::T')
theorem RyT.at {O O' j T T'} (h:RyT O O' j T T') (t:Nat):Ry O O' j [look T t] [look T' t]:=by
 induction h with
 |nil=>exact .any .nil
 |@cons k V T' hk _ ih=>
  by_cases he:k=t
  ·subst he;rw [look_cons_same];exact hk
  ·rw [look_cons_other _ _ _ _ he];exact ih
inductive RyO (O O':List AObj) (j:Nat):List AObj→List AObj→Prop
 |last {ob'}:ob'.cells=[]→RyO O O' j [] [ob']
 |cons {ob ob' os os'}:Ry O O' j ob.cells ob'.cells→(ob'.ty=none∨ob'.ty=ob.ty)→RyO O O' j os os'→RyO O O' j (ob::os) (ob'::os')
theorem RyO.len {O O' j os os'} (h:RyO O O' j os os'):os'.length=os.length+1:=by
 induction h with
 |last=>rfl
 |cons _ _ _ ih=>simp [ih]
theorem RyO.at {O O' j os os'} (h:RyO O O' j os os') {id:Nat} {ob':AObj} (hi:os'[id]?=some ob'):(id=os.length∧ob'.cells=[])∨∃ob,os[id]?=some ob∧Ry O O' j ob.cells ob'.cells∧(ob'.ty=none∨ob'.ty=ob.ty):=by
 induction h generalizing id with
 |last h=>
  cases id with
  |zero=>simp at hi;subst hi;exact .inl ⟨rfl,h⟩
  |succ id=>simp at hi
 |cons h1 h2 _ ih=>
  cases id with
  |zero=>simp at hi;subst hi;exact .inr ⟨_,by simp,h1,h2⟩
  |succ id=>
   rcases ih (by simpa using hi) with ⟨h3,h4⟩|⟨ob,h3,h4⟩
   ·exact .inl ⟨by simp [h3],h4⟩
   ·exact .inr ⟨ob,by simpa using h3,h4⟩
theorem Weak.nil1f {m:Nat} {T T':List (Nat×AV)} {O O':List AObj} (hT:RyT O O' O.length T T') (hO:RyO O O' O.length O O') (hm:m≤O.length):Weak m ⟨T,O⟩ ⟨T',O'⟩:=by
 rintro n G a w ⟨S,ι,F,hr⟩
 have hlen:=hO.len
 have hι0:(fun id=>if id<O.length then ι id else none) O.length=none:=by simp
 have hι1:∀id,id<O.length→(fun id=>if id<O.length then ι id else none) id=ι id:=fun id h=>by simp [h]
 generalize (fun id=>if id<O.length then ι id else none)=ι' at hι0 hι1
 have hex:∀id,∃f,∀ob',O'[id]?=some ob'→ObjAt S w ι' O' ob' (ι' id) f∧(∀ b∈f,id<O.length∧b∈F id)∧f.Nodup:=by
  intro id
  cases hi:O'[id]? with
  |none=>exact ⟨[],by simp⟩
  |some ob'=>
   rcases hO.at hi with ⟨h1,h2⟩|⟨ob,ho,hre,hty⟩
   ·refine ⟨[],fun ob2 h3=>?_⟩
    cases h3
    refine ⟨?_,by simp,by simp⟩
    rw [h1,hι0]
    unfold ObjAt
    exact ⟨h2,rfl⟩
   have hid:id<O.length:=(List.getElem?_eq_some_iff.1 ho).1
   have hob:=hr.objs.obj id ob ho
   unfold ObjAt at hob
   cases hs:ι id with
   |none=>
    rw [hs] at hob
    refine ⟨[],fun ob2 h2=>?_⟩
    cases h2
    refine ⟨?_,by simp,by simp⟩
    rw [hob.1] at hre
    unfold ObjAt
    rw [hι1 id hid,hs]
    cases hc:ob'.cells with
    |nil=>exact ⟨rfl,rfl⟩
    |cons c cs=>rw [hc] at hre;cases hre
   |some p=>
    obtain ⟨b,k⟩:=p
    rw [hs] at hob
    obtain ⟨cur,t,fz,f',hF,h1,h2,h3,h4,h5,h6⟩:=hob
    obtain ⟨g,g1,g2,g3⟩:=hre.rel hι0 hι1 h6
    have hnd:(b::f').Nodup:=by rw [←hF];exact hr.objs.nodup id hid
    have hlen:ob'.cells.length=ob.cells.length:=by
     have e1:=g1.len
     have e2:=h6.len
     omega
    refine ⟨b::g,fun ob2 hh=>?_⟩
    cases hh
    rw [hι1 id hid,hs]
    refine ⟨⟨cur,t,fz,g,rfl,h1,h2,by omega,h4,fun e he=>?_,by rw [hlen];exact g1⟩,?_,?_⟩
    ·rcases hty with hty|hty
     ·rw [hty] at he;cases he
     ·exact h5 e (by rw [←hty];exact he)
    ·intro b' hb'
     rw [hF]
     rcases List.mem_cons.1 hb' with rfl|hb'
     ·simp [hid]
     ·simp [g2 b' hb',hid]
    ·exact List.nodup_cons.2 ⟨fun hb=>(List.nodup_cons.1 hnd).1 (g2 b hb),g3 (List.nodup_cons.1 hnd).2⟩
 have hFx:∃F':Nat→List Nat,∀id ob',O'[id]?=some ob'→ObjAt S w ι' O' ob' (ι' id) (F' id)∧(∀ b∈F' id,id<O.length∧b∈F id)∧(F' id).Nodup:=
  ⟨fun id=>(hex id).choose,fun id=>(hex id).choose_spec⟩
 obtain ⟨F',hF'⟩:=hFx
 refine ⟨S,ι',F',hr.defers,hr.size,fun t=>?_,⟨fun id ob' h=>(hF' id ob' h).1,fun id h=>(hF' id _ (List.getElem?_eq_getElem h)).2.2,fun i j hi hj hij b hb hb'=>?_⟩,fun id h b hb=>?_,hr.base,hr.stable,hr.keeps,fun id h=>?_,by show m≤O'.length;omega⟩
 ·obtain ⟨f',h1,h2,_⟩:=(hT.at t).rel hι0 hι1 (hr.tmps t)
  have:f'=[]:=List.eq_nil_iff_forall_not_mem.2 fun b hb=>by simpa using h2 b hb
  subst this
  exact h1
 ·have hi:i<O'.length:=hi
  have hj:j<O'.length:=hj
  obtain ⟨a1,a2⟩:=(hF' i _ (List.getElem?_eq_getElem hi)).2.1 b hb
  obtain ⟨b1,b2⟩:=(hF' j _ (List.getElem?_eq_getElem hj)).2.1 b hb'
  exact hr.objs.apart i j a1 b1 hij b a2 b2
 ·have h:id<O'.length:=h
  obtain ⟨a1,a2⟩:=(hF' id _ (List.getElem?_eq_getElem h)).2.1 b hb
  exact hr.foot id a1 b a2
 ·rw [hι1 id (by omega)];exact hr.spots id h
end Go.Abs


namespace Go.Abs
open Go
section
variable {P:Program} {n m:Nat} {G:Ctx} {ops:Array Oper} {T0:List (Nat×AV)} {O Oi:List AObj} {keep sh:List Nat}
theorem HeadR.consV {fs fs2 out:List (Nat×AV)} {gs gs2:List Fil} {o:Oper} {l:List Oper} {d:Nat} {b bv:Bool} {F:List (Nat×AV)} {ks:List Fil} {cur:List AObj} (k:Fil) (hd:o.dst=some d) (hF:depsF fs o.after.toList=some F) (hcur:fillAll gs Oi=cur)
 (h:∀Tv Ov,Oi.length≤Ov.length→(∀ p ob,k.spot=some (p,ob)→Ov[p]?=cur[p]?)→(∀ j f p ob,waits o j=true→gs[j]?=some f→f.spot=some (p,ob)→memB p sh=false→Ov[p]?=some ob)→(∀ q,memB q keep=true→Ov[q]?=Oi[q]?)→WpL P n m G false ops [o] ⟨F++(T0++Tv),O++Ov⟩ (Only ⟨(d,.sc (.bool b))::(F++(T0++Tv)),O++k.run Ov⟩)) (hb:b=bv) (hs:catF fs [(d,.sc (.bool bv))]=some fs2) (hg:catF gs [k]=some gs2) (r:HeadR P n m G ops T0 O Oi keep sh fs2 gs2 l out ks):HeadR P n m G ops T0 O Oi keep sh fs gs (o::l) out ks:=by
 subst hb
 exact HeadR.consF k hd hF hcur h hs hg r
end
section
variable {P:Program} {n m:Nat} {G:Ctx} {ops:Array Oper} {T0:List (Nat×AV)} {O:List AObj}
end
theorem WpA.cut {P:Program} {n m:Nat} {G:Ctx} {c:Code} {σ σ1:St} {Q:Exit→St→Prop} (h1:WpA P n m G c σ (fun e s=>e=.normal∧Weak m s σ1)) (h2:Q .normal σ1):WpA P n m G c σ Q:=fun a w hr=>by
 refine wp_mono (h1 a w hr) fun e a' w' hh=>?_
 obtain ⟨σ',⟨he,hw⟩,hR⟩:=hh
 subst he
 exact ⟨σ1,h2,hw n G a' w' hR⟩
end Go.Abs


namespace Go.Abs
open Go
theorem lrel_ints2 {S w ι O}:∀{xs:List Int} {us f},LRel S w ι O (ints xs) us f→us=xs.map (Value.int .i64)∧f=[]
 |[],us,f,h=>by cases h;exact ⟨rfl,rfl⟩
 |x::xs,us,f,h=>by
  cases h with
  |sc h=>obtain ⟨h1,h2⟩:=lrel_ints2 h;subst h1 h2;exact ⟨rfl,rfl⟩
theorem lrel_ints3 {S w ι O}:∀(xs:List Int),LRel S w ι O (ints xs) (xs.map (Value.int .i64)) []
 |[]=>.nil
 |x::xs=>.sc (lrel_ints3 xs)
theorem RelAt.pre {n m G S ι F T O a w} (hr:RelAt n m G S ι F ⟨T,O⟩ a w) {id j ep sz:Nat} {te:Option TypeId} {xs:List Int} (ho:O[id]?=some ⟨ints xs,ep,sz,te⟩):RelAt n m G S ι F ⟨T,O.set id ⟨ints (xs.take j),ep,sz,te⟩⟩ a w:=by
 have hid:id<O.length:=(List.getElem?_eq_some_iff.1 ho).1
 have hlat:Later S w ι O S w ι (O.set id ⟨ints (xs.take j),ep,sz,te⟩):=⟨fun _ h=>h,fun _ _=>rfl,fun i ob hi=>by
  by_cases e:i=id
  ·subst e;rw [ho] at hi;cases hi
   exact ⟨⟨ints (xs.take j),ep,sz,te⟩,by rw [List.getElem?_set_self hid],.inr ⟨rfl,rfl,rfl⟩⟩
  ·exact ⟨ob,by rw [List.getElem?_set,if_neg (fun h=>e h.symm)];exact hi,.inr ⟨rfl,rfl,rfl⟩⟩⟩
 refine ⟨hr.defers,hr.size,fun t=>(hr.tmps t).mono hlat (by simp),⟨fun i ob hi=>?_,fun i hi=>hr.objs.nodup i (by simpa using hi),fun i j' hi hj=>hr.objs.apart i j' (by simpa using hi) (by simpa using hj)⟩,fun i hi=>hr.foot i (by simpa using hi),hr.base,hr.stable,hr.keeps,hr.spots,by have:=hr.mle;simpa using this⟩
 have hi:(O.set id ⟨ints (xs.take j),ep,sz,te⟩)[i]?=some ob:=hi
 by_cases e:i=id
 ·subst e
  rw [List.getElem?_set_self hid] at hi;cases hi
  have h:=hr.objs.obj i _ ho
  unfold ObjAt at h ⊢
  cases hs:ι i with
  |none=>
   rw [hs] at h
   have h1:ints xs=[]:=h.1
   have:xs=[]:=by cases xs with|nil=>rfl|cons x xs=>cases h1
   subst this
   exact ⟨by simp [ints],h.2⟩
  |some p=>
   obtain ⟨b,k⟩:=p
   rw [hs] at h
   obtain ⟨cur,t,fz,f',h1,h2,h3,h4,h5,h6,h7⟩:=h
   obtain ⟨h8,h9⟩:=lrel_ints2 h7
   subst h9
   have hle:(xs.take j).length≤xs.length:=List.length_take_le' _ _
   have h4':xs.length≤k:=by simpa [ints] using h4
   refine ⟨cur,t,fz,[],h1,h2,h3,by show (ints (xs.take j)).length≤k;simp [ints];omega,h5,h6,?_⟩
   have e2:cur.toList.take (ints (xs.take j)).length=(xs.take j).map (Value.int .i64):=by
    have e3:(ints (xs.take j)).length=min j xs.length:=by simp [ints]
    have e4:cur.toList.take xs.length=xs.map (Value.int .i64):=by simpa [ints] using h8
    rw [e3,←List.take_take,e4,List.map_take]
   show LRel S w ι _ (ints (xs.take j)) (cur.toList.take (ints (xs.take j)).length) []
   rw [e2];exact lrel_ints3 _
 ·rw [List.getElem?_set,if_neg (fun h=>e h.symm)] at hi
  have h:=hr.objs.obj i ob hi
  unfold ObjAt at h ⊢
  cases hs:ι i with
  |none=>rw [hs] at h;exact h
  |some p=>
   obtain ⟨b,k⟩:=p
   rw [hs] at h
   obtain ⟨cur,t,fz,f',h1,h2,h3,h4,h5,h6,h7⟩:=h
   exact ⟨cur,t,fz,f',h1,h2,h3,h4,h5,h6,h7.mono hlat (fun _ _=>rfl)⟩
theorem Weak.pre {m id j ep sz:Nat} {T:List (Nat×AV)} {O:List AObj} {te:Option TypeId} {xs:List Int} (ho:O[id]?=some ⟨ints xs,ep,sz,te⟩):Weak m ⟨T,O⟩ ⟨T,O.set id ⟨ints (xs.take j),ep,sz,te⟩⟩:=by
 rintro n G a w ⟨S,ι,F,hr⟩
 exact ⟨S,ι,F,hr.pre ho⟩
section
variable {P:Program} {n m:Nat} {G:Ctx} {T:List (Nat×AV)} {O:List AObj} {Q:Exit→St→Prop} {ops:Array Oper} {l:List Oper} {d:Nat} {md:Bool} {tt:TypeId} {pos:String} {after:Array Edge} {tab:List (Nat×Ty)}
theorem WpL.subOwn (hP:TabOk P tab) {t e k b:Nat} {zs:List AV} {x y:Operand} {kk:IntKind} {id ep len j:Nat} {ob:AObj} (ht:tlook tab t=some (.slice e k b zs)) (hx:av T x=.own id ep 0 len) (ho:O[id]?=some ob) (he:ob.ep=ep) (hy:av T y=.sc (.int kk j)) (hj:j≤len) (hn:d<n)
 (h:WpL P n m G md ops l ⟨(d,.own id ep 0 j)::T,O⟩ Q):
 WpL P n m G md ops ({dst:=some d,op:=.slice t x none (some y) none,type:=tt,pos:=pos,after:=after,guard:=none}::l) ⟨T,O⟩ Q:=
 WpL.pure rfl rfl hn (fun S ι F a w hr=>by
  obtain ⟨hu,inf,z,hinf,_,hk,_,_,hk0,_⟩:=hP.slice ht
  have hv:=hr.eval x
  rw [show av (St.mk T O).T x=_ from hx] at hv
  have hye:=hr.sc hy
  have hown:OwnAt (ι id) ob.size 0 len (a.eval x):=by
   cases hv with
   |own q1 q2 q3 r=>
    rw [show (St.mk T O).O[id]?=some ob from ho] at q1
    cases q1
    exact q3 he.symm
  cases hs:ι id with
  |none=>
   rw [hs] at hown
   obtain ⟨hxe,h0,hl⟩:=hown
   have hj0:j=0:=by omega
   subst hj0
   refine ⟨.slice none 0 0,?_,.own ho (by omega) (fun _=>by rw [hs];exact ⟨rfl,rfl,rfl⟩) .nil⟩
   have hrun:(Instr.sliceAt t (.slice none 0 0) none (some (.int kk 0)) none).run P w=.ok (.slice none 0 0) w:=by
    simp [Instr.sliceAt,Instr.slice,run_underlying hu,Instr.sliceBounds,Instr.sliceBound,asIntOf,run_sizeOf hinf hk,Sem.run_bind]
   have hye':a.eval y=.int kk 0:=by rw [hye];rfl
   simp [execOp,hxe,hye',hrun,Sem.run_bind]
  |some p=>
   obtain ⟨bb,kb⟩:=p
   rw [hs] at hown
   obtain ⟨cap,hxe,h1,h2,h3⟩:=hown
   have hrun:=run_sliceSl hu hinf hk ⟨bb,0,none⟩ len cap none (some (.int kk j)) 0 j (.inl ⟨rfl,rfl⟩) (.inr ⟨kk,rfl⟩) (by omega) w
   have e1:(if cap=0 then (⟨bb,0,none⟩:Addr) else (⟨bb,0,none⟩:Addr).add (0*k))=⟨bb,0,none⟩:=by
    split
    ·rfl
    ·rw [addr_add];simp
   rw [e1,Nat.sub_zero,Nat.sub_zero] at hrun
   refine ⟨.slice (some ⟨bb,0,none⟩) j cap,by simp [execOp,hxe,hye,hrun,Sem.run_bind],.own ho (by omega) (fun _=>by rw [hs];exact ⟨cap,rfl,h1,by omega,h3⟩) .nil⟩) h
theorem WpL.appBools (hP:TabOk P tab) {t e b c:Nat} {zs:List AV} {xs ys:List Bool} {x y:Operand} {id ep len:Nat} {Vy:AV} (ht:tlook tab t=some (.slice e 1 b zs)) (hx:av T x=.own id ep 0 len)
 (ho:O[id]?=some ⟨bools xs,ep,1,some e⟩) (hm:m≤id) (hy:(av T y).force=some Vy) (hs:srcB O Vy=some (bools ys,c)) (hol:xs.length=len) (hc:ys.length=c)
 (hb:(len+c)*b≤140737488355328∧len+c≤9223372036854775807) (hn:d<n)
 (h:WpL P n m G false ops l ⟨(d,.own id (ep+1) 0 (len+c))::T,O.set id ⟨bools (xs++ys),ep+1,1,some e⟩⟩ Q):
 WpL P n m G false ops ({dst:=some d,op:=.call {callee:=.builtin .append,args:=#[x,y],argTypes:=#[t,t]},type:=tt,pos:=pos,after:=after,guard:=none}::l) ⟨T,O⟩ Q:=
 WpL.appOwn hP ht hx ho rfl rfl rfl (by simp [hol]) hm hy hs (by simp [hc]) (all_bools _ _) hb hn (by
  have e2:bools xs++bools ys=bools (xs++ys):=by simp [bools]
  simp only [e2];exact h)
end
theorem split1 {Ov:List AObj} {a:AObj} (h0:Ov[0]?=some a):∃R,Ov=a::R:=by
 match Ov,h0 with
 |a'::R,h0=>simp at h0;exact ⟨R,by rw [h0]⟩
 |[],h=>simp at h
theorem split5 {Ov:List AObj} {e:AObj} (h:Ov[4]?=some e):∃a b c d R,Ov=a::b::c::d::e::R:=by
 match Ov,h with
 |a::b::c::d::e'::R,h=>simp at h;exact ⟨a,b,c,d,R,by rw [h]⟩
 |[],h=>simp at h
 |[_],h=>simp at h
 |[_,_],h=>simp at h
 |[_,_,_],h=>simp at h
 |[_,_,_,_],h=>simp at h
section
variable {m:Nat} {T:List (Nat×AV)} {O:List AObj} {tab:List (Nat×Ty)} {e':Exit} {r1 r2:ResultVar} {r1v r2v r:AV} {N:List AObj}
theorem FinG.oI (ids:List (Option Nat)) (he:endB e'=true) (hv:ResV tab T O r1 r1v) (hx:Ex O ids [r1v] [r]) (hN:NEx O ids N) (hd:nodupB (ids.filterMap id)=true) (hp:preB ids m 0=true):FinG tab m #[r1] N r e' ⟨T,O⟩:=FinG.e he (.one hv hN (nodupB_spec hd) hp hx)
end
end Go.Abs


namespace Go.Proofs.YtainhhfnnclfiaaGreat
open Go Go.Abs
def bit1 (y:Int):Int:=IntKind.i64.wrap ((BitVec.ofInt IntKind.i64.bits y &&& BitVec.ofInt IntKind.i64.bits 1).toNat:Nat)
theorem bit1_bd (y:Int):0≤bit1 y∧bit1 y≤1:=by
 have h:(BitVec.ofInt IntKind.i64.bits y &&& BitVec.ofInt IntKind.i64.bits 1).toNat≤1:=by
  rw [BitVec.toNat_and]
  exact Nat.le_trans Nat.and_le_right (by decide)
 unfold bit1
 rw [wrap64 _ (by omega)]
 omega
def btA (p:List UInt8) (i:Int):Int:=if i<0∨8*(p.length:Int)≤i then -1 else bit1 (((p.getD (i/8).toNat 0).toNat:Int)/2 ^ (7-i%8).toNat)
theorem btA_out (p:List UInt8) (i:Int):btA p i<0↔(i<0∨8*(p.length:Int)≤i):=by
 unfold btA
 have:=bit1_bd (((p.getD (i/8).toNat 0).toNat:Int)/2 ^ (7-i%8).toNat)
 split<;>omega
theorem btA_bd (p:List UInt8) (i:Int):-1≤btA p i∧btA p i≤1:=by
 unfold btA
 have:=bit1_bd (((p.getD (i/8).toNat 0).toNat:Int)/2 ^ (7-i%8).toNat)
 split<;>omega
def bv (p:List UInt8) (i:Int):Int:=max (btA p i) 0
theorem bv_bd (p:List UInt8) (i:Int):0≤bv p i∧bv p i≤1:=by have:=btA_bd p i;unfold bv;omega
def numB (p:List UInt8) (s:Int):Nat→Int
 |0=>0
 |k+1=>numB p s k*2+bv p (s+k)
theorem numB_bd (p:List UInt8) (s:Int):∀k,0≤numB p s k∧numB p s k<2 ^ k
 |0=>by simp [numB]
 |k+1=>by
  have h1:=numB_bd p s k
  have h2:=bv_bd p (s+k)
  rw [numB,Int.pow_succ];omega
theorem numB_le (p:List UInt8) (s:Int) {k j:Nat} (h:k≤j):numB p s k<2 ^ j:=by
 have h1:=numB_bd p s k
 have h2:(2:Int) ^ k≤2 ^ j:=by exact_mod_cast Nat.pow_le_pow_right (by decide) h
 omega
theorem numB_add (p:List UInt8) (s:Int) (a:Nat):∀b,numB p s (a+b)=numB p s a*2 ^ b+numB p (s+a) b
 |0=>by simp [numB]
 |b+1=>by
  rw [←Nat.add_assoc,numB,numB_add p s a b,numB,Int.pow_succ,Int.natCast_add,←Int.add_assoc,Int.add_mul,Int.mul_assoc,Int.add_assoc]
abbrev RdOk (p:List UInt8) (s:Int):Prop:=0≤s∧s≤8*(p.length:Int)
def lft (p:List UInt8) (s:Int):Int:=if RdOk p s then 8*(p.length:Int)-s else 0
theorem lft_bd (p:List UInt8) (s:Int):0≤lft p s∧lft p s≤8*(p.length:Int):=by unfold lft;split<;>omega
theorem lft_ok {p:List UInt8} {s:Int} (h:RdOk p s):lft p s=8*(p.length:Int)-s:=by rw [lft,if_pos h]
theorem lft_no {p:List UInt8} {s:Int} (h:¬RdOk p s):lft p s=0:=by rw [lft,if_neg h]
abbrev RbOk (p:List UInt8) (s n:Int):Prop:=RdOk p s∧(0≤n∧n≤32)∧n≤lft p s
def rbA (p:List UInt8) (s n:Int):Int:=if RbOk p s n then s+n else s
def rbV (p:List UInt8) (s n:Int):Int:=if RbOk p s n then numB p s n.toNat else 0
theorem rbV_bd (p:List UInt8) (s n:Int):0≤rbV p s n∧rbV p s n<4294967296:=by
 unfold rbV;split
 ·rename_i h
  have h1:=numB_bd p s n.toNat
  have h2:=numB_le p s (k:=n.toNat) (j:=32) (by omega)
  omega
 ·omega
theorem rb_yes {p:List UInt8} {s n:Int} (h:RbOk p s n):rbA p s n=s+n∧rbV p s n=numB p s n.toNat:=⟨if_pos h,if_pos h⟩
theorem rb_no {p:List UInt8} {s n:Int} (h:¬RbOk p s n):rbA p s n=s∧rbV p s n=0:=⟨if_neg h,if_neg h⟩
def zrW (p:List UInt8) (s:Int):Nat→Nat→Nat
 |0,n=>n
 |f+1,n=>if btA p (s+n)=0 then zrW p s f (n+1) else n
def zrs (p:List UInt8) (s:Int):Nat:=zrW p s (lft p s).toNat 0
theorem zrW_le (p:List UInt8) (s:Int):∀f n,n≤zrW p s f n∧zrW p s f n≤n+f
 |0,n=>by simp [zrW]
 |f+1,n=>by
  rw [zrW];split
  ·have:=zrW_le p s f (n+1);omega
  ·omega
theorem zrs_le (p:List UInt8) (s:Int):(zrs p s:Int)≤lft p s:=by
 have:=zrW_le p s (lft p s).toNat 0
 have:=lft_bd p s
 unfold zrs;omega
theorem zrW_eq (p:List UInt8) (s:Int):∀(f n k:Nat),k≤f→(∀ j<k,btA p (s+(n+j:Nat))=0)→(k=f∨btA p (s+(n+k:Nat))≠0)→zrW p s f n=n+k
 |0,n,k,h1,_,_=>by have:k=0:=by omega
                   subst this;rfl
 |f+1,n,0,_,_,h3=>by
  rw [zrW]
  rcases h3 with h3|h3
  ·omega
  ·rw [if_neg (by simpa using h3)];rfl
 |f+1,n,k+1,h1,h2,h3=>by
  have h0:=h2 0 (by omega)
  rw [zrW,if_pos (by simpa using h0),zrW_eq p s f (n+1) k (by omega) (fun j hj=>by have:=h2 (j+1) (by omega);rw [show n+1+j=n+(j+1) by omega];exact this)
   (by rcases h3 with h3|h3;exact .inl (by omega);exact .inr (by rw [show n+1+k=n+(k+1) by omega];exact h3))]
  omega
theorem zrs_eq {p:List UInt8} {s:Int} {k:Nat} (h1:(k:Int)≤lft p s) (h2:∀j<k,btA p (s+(j:Nat))=0) (h3:(k:Int)=lft p s∨btA p (s+(k:Nat))≠0):zrs p s=k:=by
 have h0:=lft_bd p s
 unfold zrs
 rw [zrW_eq p s _ 0 k (by omega) (fun j hj=>by rw [Nat.zero_add];exact h2 j hj) (by rw [Nat.zero_add];rcases h3 with h3|h3;exact .inl (by omega);exact .inr h3)]
 omega
theorem zrW_zero (p:List UInt8) (s:Int):∀(f n j:Nat),n≤j→j<zrW p s f n→btA p (s+(j:Nat))=0
 |0,n,j,h1,h2=>by rw [zrW] at h2;omega
 |f+1,n,j,h1,h2=>by
  rw [zrW] at h2
  split at h2
  ·rename_i h0
   rcases Nat.lt_or_ge n j with h|h
   ·exact zrW_zero p s f (n+1) j (by omega) h2
   ·have:n=j:=by omega
    subst this;exact h0
  ·omega
theorem zrs_zero {p:List UInt8} {s:Int} {j:Nat} (h:j<zrs p s):btA p (s+(j:Nat))=0:=zrW_zero p s _ 0 j (Nat.zero_le _) h
theorem numB_zero (p:List UInt8) (s:Int):∀k,numB p s k=0↔∀j<k,bv p (s+(j:Nat))=0
 |0=>by simp [numB]
 |k+1=>by
  have ih:=numB_zero p s k
  have h1:=numB_bd p s k
  have h2:=bv_bd p (s+k)
  rw [numB]
  constructor
  ·intro h j hj
   rcases Nat.lt_or_ge j k with hj2|hj2
   ·exact ih.1 (by omega) j hj2
   ·have:j=k:=by omega
    subst this;omega
  ·intro h
   have h3:=ih.2 fun j hj=>h j (by omega)
   have h4:=h k (by omega)
   omega
theorem end_iff {p:List UInt8} {s:Int} (h:RdOk p s) (h1:1≤lft p s):numB p s (lft p s).toNat=2 ^ (lft p s-1).toNat↔btA p s=1∧(zrs p (s+1):Int)=lft p (s+1):=by
 have e1:=lft_ok h
 have h2:RdOk p (s+1):=by omega
 have e2:=lft_ok h2
 obtain ⟨k,hk⟩:∃k:Nat,lft p (s+1)=k:=⟨(lft p (s+1)).toNat,by omega⟩
 have e3:(lft p s).toNat=1+k:=by omega
 have e4:(lft p s-1).toNat=k:=by omega
 have e5:=numB_add p s 1 k
 have e6:numB p s 1=bv p s:=by simp [numB]
 have e7:=numB_bd p (s+1) k
 have e8:=bv_bd p s
 have e9:=btA_bd p s
 have e10:bv p s=max (btA p s) 0:=rfl
 have hp:(0:Int)<2 ^ k:=by exact_mod_cast Nat.pow_pos (by decide)
 have hz:=numB_zero p (s+1) k
 rw [e3,e4,e5,e6,hk]
 have e11:(s:Int)+((1:Nat):Int)=s+1:=rfl
 rw [e11]
 generalize (2:Int) ^ k=q at*
 have hzr:((zrs p (s+1):Int)=k)↔∀j<k,bv p (s+1+(j:Nat))=0:=by
  constructor
  ·intro hh j hj
   have:=zrs_zero (p:=p) (s:=s+1) (j:=j) (by omega)
   unfold bv;omega
  ·intro hh
   have:=zrs_eq (p:=p) (s:=s+1) (k:=k) (by omega) (fun j hj=>by
    have a:=hh j hj
    have b:=btA_out p (s+1+(j:Nat))
    have c:=btA_bd p (s+1+(j:Nat))
    unfold bv at a;omega) (.inl hk.symm)
   omega
 rw [hzr,←hz]
 rcases (by omega:bv p s=0∨bv p s=1) with hb|hb
 ·rw [hb];constructor
  ·intro hh;omega
  ·rintro ⟨hh,_⟩;omega
 ·rw [hb];constructor
  ·intro hh;exact ⟨by omega,by omega⟩
  ·rintro ⟨_,hh⟩;omega
def ueA (p:List UInt8) (s:Int):Int:=if zrs p s≤15 then rbA p s (2*(zrs p s:Int)+1) else s
def ueC (p:List UInt8) (s:Int):Int:=if zrs p s≤15 then (if RbOk p s (2*(zrs p s:Int)+1) then 0 else 1) else 4
def ueV (p:List UInt8) (s:Int):Int:=if ueC p s=0 then rbV p s (2*(zrs p s:Int)+1)-1 else 0
def lvOf (n:Int):Int:=if n<0 then 0 else if n%2=0 then n/2+1 else -(n/2)-1
theorem ue_yes {p:List UInt8} {s:Int} (h:zrs p s≤15) (h2:RbOk p s (2*(zrs p s:Int)+1)):ueA p s=s+(2*(zrs p s:Int)+1)∧ueC p s=0∧ueV p s=numB p s (2*(zrs p s:Int)+1).toNat-1:=by
 have e:ueC p s=0:=by rw [ueC,if_pos h,if_pos h2]
 exact ⟨by rw [ueA,if_pos h,(rb_yes h2).1],e,by rw [ueV,if_pos e,(rb_yes h2).2]⟩
theorem ue_short {p:List UInt8} {s:Int} (h:zrs p s≤15) (h2:¬RbOk p s (2*(zrs p s:Int)+1)):ueA p s=s∧ueC p s=1∧ueV p s=0:=by
 have e:ueC p s=1:=by rw [ueC,if_pos h,if_neg h2]
 exact ⟨by rw [ueA,if_pos h,(rb_no h2).1],e,by rw [ueV,if_neg (by omega)]⟩
theorem ue_code {p:List UInt8} {s:Int} (h:¬zrs p s≤15):ueA p s=s∧ueC p s=4∧ueV p s=0:=by
 have e:ueC p s=4:=by rw [ueC,if_neg h]
 exact ⟨by rw [ueA,if_neg h],e,by rw [ueV,if_neg (by omega)]⟩
abbrev SymAt (p:List UInt8) (s:Int) (l:List Int) (m:Nat):Prop:=0<l.getD m 0∧RbOk p s (l.getD m 0)∧numB p s (l.getD m 0).toNat=(codes l).getD m 0
theorem sym_hit {p:List UInt8} {s:Int} {l:List Int} {m:Nat} (hl:CodeOk l) (hm:m<6) (h:SymAt p s l m):hit (codes l) l m (numB p s 7):=by
 have hb:=code_in hl hm
 obtain ⟨w,hw⟩:∃w:Nat,l.getD m 0=w:=⟨(l.getD m 0).toNat,by omega⟩
 have hw7:w≤7:=by omega
 have h1:=numB_add p s w (7-w)
 have h2:=numB_bd p (s+w) (7-w)
 have h3:=h.2.2
 have h5:=h.1
 rw [show w+(7-w)=7 by omega] at h1
 rw [hw] at h3
 have h4:numB p s w=(codes l).getD m 0:=by simpa using h3
 unfold hit
 rw [hw]
 have hcw:cw (w:Int)=2 ^ (7-w):=by
  rcases (by omega:w=1∨w=2∨w=3∨w=4∨w=5∨w=6∨w=7) with rfl|rfl|rfl|rfl|rfl|rfl|rfl<;>rfl
 rw [hcw,h1,h4,Int.add_mul]
 omega
theorem sym_uni {p:List UInt8} {s:Int} {l:List Int} {m m':Nat} (hl:CodeOk l) (hm:m<6) (hm':m'<6) (h:SymAt p s l m) (h':SymAt p s l m'):m=m':=
 code_uni hl hm hm' (by omega) (by omega) (sym_hit hl hm h) (sym_hit hl hm' h')
def symM (p:List UInt8) (s:Int) (l:List Int):Nat:=((List.range 6).find? fun m=>decide (SymAt p s l m)).getD 6
theorem symM_eq {p:List UInt8} {s:Int} {l:List Int} {m:Nat} (hl:CodeOk l) (hm:m<6) (h:SymAt p s l m):symM p s l=m:=by
 unfold symM
 cases hf:(List.range 6).find? fun m=>decide (SymAt p s l m) with
 |none=>
  have:=List.find?_eq_none.1 hf m (by simp [hm])
  exact absurd (decide_eq_true h) this
 |some m'=>
  have h1:=List.find?_some hf
  have h2:=List.mem_of_find?_eq_some hf
  exact (sym_uni hl (by simpa using h2) hm (of_decide_eq_true h1) h)
theorem symM_none {p:List UInt8} {s:Int} {l:List Int} (h:∀m,m<6→¬SymAt p s l m):symM p s l=6:=by
 unfold symM
 have:(List.range 6).find? (fun m=>decide (SymAt p s l m))=none:=List.find?_eq_none.2 fun m hm=>by simpa using h m (by simpa using hm)
 rw [this];rfl
theorem symM_lt {p:List UInt8} {s:Int} {l:List Int} (h:symM p s l<6):SymAt p s l (symM p s l):=by
 unfold symM at*
 cases hf:(List.range 6).find? fun m=>decide (SymAt p s l m) with
 |none=>rw [hf] at h;simp at h
 |some m'=>
  have h1:=List.find?_some hf
  exact of_decide_eq_true (p:=SymAt p s l m') h1
def smC (p:List UInt8) (s:Int) (l:List Int):Int:=if CodeOk l then (if symM p s l<6 then 0 else 1) else 4
def smA (p:List UInt8) (s:Int) (l:List Int):Int:=if smC p s l=0 then s+l.getD (symM p s l) 0 else s
def smV (p:List UInt8) (s:Int) (l:List Int):Int:=if smC p s l=0 then symM p s l else 0
theorem sm_yes {p:List UInt8} {s:Int} {l:List Int} {m:Nat} (hl:CodeOk l) (hm:m<6) (h:SymAt p s l m):smA p s l=s+l.getD m 0∧smV p s l=m∧smC p s l=0:=by
 have e:=symM_eq hl hm h
 have c:smC p s l=0:=by rw [smC,if_pos hl,if_pos (by omega)]
 exact ⟨by rw [smA,if_pos c,e],by rw [smV,if_pos c,e],c⟩
theorem sm_none {p:List UInt8} {s:Int} {l:List Int} (hl:CodeOk l) (h:∀m,m<6→¬SymAt p s l m):smA p s l=s∧smV p s l=0∧smC p s l=1:=by
 have e:=symM_none h
 have c:smC p s l=1:=by rw [smC,if_pos hl,if_neg (by omega)]
 exact ⟨by rw [smA,if_neg (by omega)],by rw [smV,if_neg (by omega)],c⟩
theorem sm_bad {p:List UInt8} {s:Int} {l:List Int} (hl:¬CodeOk l):smA p s l=s∧smV p s l=0∧smC p s l=4:=by
 have c:smC p s l=4:=by rw [smC,if_neg hl]
 exact ⟨by rw [smA,if_neg (by omega)],by rw [smV,if_neg (by omega)],c⟩
end Go.Proofs.YtainhhfnnclfiaaGreat


namespace Go.Proofs.YtainhhfnnclfiaaGreat
open Go Go.Abs
def fbC (p:List UInt8) (s c n:Int) (k:Int→Int):Int:=if c=0 then (if RbOk p s n then k (rbV p s n) else 1) else c
def fbA (p:List UInt8) (s c n:Int) (k:Int→Int):Int:=if c=0∧fbC p s c n k=0 then rbA p s n else s
def fbV (p:List UInt8) (s c n:Int) (k:Int→Int):Int:=if fbC p s c n k=0 then rbV p s n else 0
def fuC (p:List UInt8) (s c:Int) (k:Int→Int):Int:=if c=0 then (if ueC p s=0 then k (ueV p s) else ueC p s) else c
def fuA (p:List UInt8) (s c:Int) (k:Int→Int):Int:=if fuC p s c k=0 then ueA p s else s
def fuV (p:List UInt8) (s c:Int) (k:Int→Int):Int:=if fuC p s c k=0 then ueV p s else 0
def ifE (b:Prop) [Decidable b] (e:Int):Int:=bif decide b then 0 else e
theorem ifE_yes {b:Prop} [Decidable b] {e:Int} (h:b):ifE b e=0:=by rw [ifE,decide_eq_true h];rfl
theorem ifE_no {b:Prop} [Decidable b] {e:Int} (h:¬b):ifE b e=e:=by rw [ifE,decide_eq_false h];rfl
def lenAt (v:Int) (i:Nat):Int:=v/2 ^ (3*i)%8
def lensV (v:Int):List Int:=[lenAt v 5,lenAt v 4,lenAt v 3,lenAt v 2,lenAt v 1,lenAt v 0]
structure HdS where
 a:Int
 c:Int
 w:Int
 h:Int
 q:Int
 f:Int
 l:Int
abbrev hk1 (x:Int):Int:=ifE (x=183) 2
abbrev hk2 (x:Int):Int:=ifE (x≤3) 3
abbrev hk3 (x:Int):Int:=ifE (x≤51) 3
abbrev hk4 (x:Int):Int:=0
abbrev hk5 (x:Int):Int:=ifE (CodeOk (lensV x)) 4
def hdS (p:List UInt8) (s:Int):HdS:=
 let a1:=fbA p s 0 8 hk1
 let c1:=fbC p s 0 8 hk1
 let a2:=fuA p a1 c1 hk2
 let c2:=fuC p a1 c1 hk2
 let a3:=fuA p a2 c2 hk2
 let c3:=fuC p a2 c2 hk2
 let a4:=fbA p a3 c3 6 hk3
 let c4:=fbC p a3 c3 6 hk3
 let a5:=fbA p a4 c4 2 hk4
 let c5:=fbC p a4 c4 2 hk4
 let a6:=fbA p a5 c5 18 hk5
 let c6:=fbC p a5 c5 18 hk5
 ⟨a6,c6,fuV p a1 c1 hk2,fuV p a2 c2 hk2,fbV p a3 c3 6 hk3,fbV p a4 c4 2 hk4,fbV p a5 c5 18 hk5⟩
def HdS.W (x:HdS):Int:=if x.c=0 then 8*(x.w+1) else 0
def HdS.H (x:HdS):Int:=if x.c=0 then 8*(x.h+1) else 0
def HdS.Q (x:HdS):Int:=if x.c=0 then x.q else 0
def HdS.B (x:HdS):Bool:=decide (x.c=0∧x.f≥2)
def HdS.D (x:HdS):Bool:=decide (x.c=0∧x.f%2=1)
def HdS.L (x:HdS):List Int:=if x.c=0 then lensV x.l else []
structure LvS where
 a:Int
 c:Int
 at_:Int
 out:List Int
def lvStep (p:List UInt8) (nn:Int) (x:LvS):LvS:=
 if x.c=0 then
  let k1:=fun y:Int=>ifE (y<nn-x.at_) 5
  let k2:=fun y:Int=>ifE (-16383≤lvOf y∧lvOf y≤16383) 5
  let a1:=fuA p x.a 0 k1
  let c1:=fuC p x.a 0 k1
  let t1:=x.at_+fuV p x.a 0 k1
  let a2:=fuA p a1 c1 k2
  let c2:=fuC p a1 c1 k2
  if c2=0 then ⟨a2,c2,t1+1,x.out.set t1.toNat (lvOf (fuV p a1 c1 k2))⟩ else ⟨a2,c2,t1,x.out⟩
 else x
def lvRun (p:List UInt8) (nn:Int) (x:LvS):Nat→LvS
 |0=>x
 |k+1=>lvStep p nn (lvRun p nn x k)
def lvS (p:List UInt8) (s n:Int):LvS:=
 let nn:=n*n
 let z:=List.replicate nn.toNat 0
 let k0:=fun _:Int=>0
 let k1:=fun y:Int=>ifE (y<nn) 5
 let a1:=fbA p s 0 1 k0
 let c1:=fbC p s 0 1 k0
 if fbV p s 0 1 k0=0 then ⟨a1,c1,0,z⟩ else
  let a2:=fuA p a1 c1 k1
  let c2:=fuC p a1 c1 k1
  lvRun p nn ⟨a2,c2,0,z⟩ (1+fuV p a1 c1 k1).toNat
theorem lvStep_len (p:List UInt8) (nn:Int) (x:LvS):(lvStep p nn x).out.length=x.out.length:=by
 unfold lvStep;split
 ·simp only;split
  ·simp
  ·rfl
 ·rfl
theorem lvRun_len (p:List UInt8) (nn:Int) (x:LvS):∀k,(lvRun p nn x k).out.length=x.out.length
 |0=>rfl
 |k+1=>by rw [lvRun,lvStep_len,lvRun_len p nn x k]
theorem lvS_len (p:List UInt8) (s n:Int):(lvS p s n).out.length=(n*n).toNat:=by
 unfold lvS;simp only;split
 ·simp
 ·rw [lvRun_len];simp
structure BlS where
 a:Int
 c:Int
 m:Int
 l:List Int
def blS (p:List UInt8) (s:Int) (lens:List Int) (n:Int):BlS:=
 if n=4∨n=8 then
  if smC p s lens=0 then
   let x:=lvS p (smA p s lens) n
   if x.c=0 then ⟨x.a,0,smV p s lens,x.out⟩ else ⟨x.a,x.c,0,[]⟩
  else ⟨s,smC p s lens,0,[]⟩
 else ⟨s,5,0,[]⟩
theorem blS_len (p:List UInt8) (s:Int) (lens:List Int) (n:Int):(blS p s lens n).l.length≤64:=by
 unfold blS;split
 ·rename_i h
  split
  ·simp only;split
   ·have:=lvS_len p (smA p s lens) n
    rcases h with rfl|rfl
    ·have h2:((4:Int)*4).toNat=16:=rfl
     show (lvS p (smA p s lens) 4).out.length≤64
     omega
    ·have h2:((8:Int)*8).toNat=64:=rfl
     show (lvS p (smA p s lens) 8).out.length≤64
     omega
   ·simp
  ·simp
 ·simp
structure MbS where
 a:Int
 c:Int
 bs:List Blok
def mbRun (p:List UInt8) (s:Int) (lens:List Int) (n:Int):Nat→MbS
 |0=>⟨s,0,[]⟩
 |k+1=>
  let x:=mbRun p s lens n k
  if x.c=0 then
   let b:=blS p x.a lens n
   if b.c=0 then ⟨b.a,0,x.bs++[(b.m,b.l)]⟩ else ⟨b.a,b.c,[]⟩
  else x
def mbS (p:List UInt8) (s:Int) (lens:List Int):MbS×Bool:=
 if RbOk p s 1 then
  let e:=decide (rbV p s 1=1)
  let x:=mbRun p (s+1) lens (bif e then 8 else 4) (bif e then 1 else 4)
  (x,bif decide (x.c=0) then e else false)
 else (⟨s,1,[]⟩,false)
structure StS where
 a:Int
 c:Int
 ms:List Mbk
def stRun (p:List UInt8) (s:Int) (lens:List Int):Nat→StS
 |0=>⟨s,0,[]⟩
 |k+1=>
  let x:=stRun p s lens k
  if x.c=0 then
   let m:=mbS p x.a lens
   if m.1.c=0 then ⟨m.1.a,0,x.ms++[(m.2,m.1.bs)]⟩ else ⟨m.1.a,m.1.c,[]⟩
  else x
def endC (p:List UInt8) (s:Int):Int:=if lft p s=0 then 1 else if lft p s≤8∧numB p s (lft p s).toNat=2 ^ (lft p s-1).toNat then 0 else 6
end Go.Proofs.YtainhhfnnclfiaaGreat


namespace Go.Proofs.YtainhhfnnclfiaaGreat
open Go Go.Abs
attribute [local irreducible] WpA WpL Rnd Blk Abs.Seq Abs.Fin Abs.FinG FnC FnG Only
abbrev LL (M:List (List Int)):AV:=.imm 1 M.length (rows liI M)
instance Grow_c:Con 270 (∀ n:Nat,n≤1099511627776→Fn 270 [.nilS,I n] [XI []] (.own 0 0 0 0)):=⟨fun n hn=>by
 refine FnC.of_body tabOk Tryz.func270 Tryz.ntmps270 rfl (by decide +kernel) (by simp) fun G=>?_
 by_cases h0:n=0
 ·subst h0
  refine go (r:=?_);and_intros<;>intros<;>try exact True.intro
  refine WpL.capNil (TabOk.slice tabOk rfl).1 rfl (by decide) ?_
  refine go (r:=?_);and_intros<;>intros<;>try exact True.intro
  all_goals rfl
 ·refine go (r:=?_);and_intros<;>intros<;>try exact True.intro
  refine WpL.capNil (TabOk.slice tabOk rfl).1 rfl (by decide) ?_
  refine go (r:=?_);and_intros<;>intros<;>try exact True.intro
  refine WpL.capNil (TabOk.slice tabOk rfl).1 rfl (by decide) ?_
  refine WpL.subNil tabOk rfl rfl rfl (by decide) ?_
  refine WpL.move rfl (by decide) ?_
  refine WpL.appZeros (p:=n) tabOk rfl rfl rfl (show AV.sc (Value.int .i64 ((n:Int)-(0-0)))=_ by congr 2) (by omega) (by omega) rfl (by decide) ?_
  refine go (r:=?_);and_intros<;>intros<;>try exact True.intro
  refine WpL.subOwn0 tabOk rfl rfl rfl rfl rfl (by decide) ?_
  refine go (r:=?_);and_intros<;>intros<;>try exact True.intro
  all_goals rfl⟩
theorem flat_snoc (M:List (List Int)) (k:Nat) (h:k<M.length):(M.take (k+1)).flatten=(M.take k).flatten++M.getD k default:=by
 rw [take_snoc M k h,List.flatten_append];simp
@[irreducible] def SmL (c:Nat) (M:List (List Int)):Prop:=∀r∈M,r.length≤c
theorem smL_get {c:Nat} {M:List (List Int)} (h:SmL c M) {k:Nat} (hk:k<M.length):(M.getD k default).length≤c:=by
 unfold SmL at h;exact h _ (by simp [hk])
theorem smL_bd {c:Nat} {M:List (List Int)} (h:SmL c M):∀k,k≤M.length→(M.take k).flatten.length≤k*c
 |0,_=>by simp
 |k+1,hk=>by
  have h1:=smL_bd h k (by omega)
  have h2:=smL_get h (k:=k) (by omega)
  rw [flat_snoc M k (by omega),List.length_append,Nat.add_mul,Nat.one_mul];omega
theorem smL_nil (c:Nat):SmL c []:=by unfold SmL;intro r hr;cases hr
theorem smL_cons {c:Nat} {a:List Int} {M:List (List Int)} (h:a.length≤c) (r:SmL c M):SmL c (a::M):=by
 unfold SmL at *;intro x hx
 rcases List.mem_cons.1 hx with rfl|hx
 ·exact h
 ·exact r x hx
instance Concat_c:Con 222 (∀ M:List (List Int),M.length≤1024∧SmL 1048576 M→Fn 222 [LL M] [XI M.flatten] (.own 0 0 0 M.flatten.length)):=⟨fun M hM=>by
 refine FnC.of_body tabOk Tryz.func222 Tryz.ntmps222 rfl (by decide +kernel) (by simp) fun G=>?_
 refine go (r:=?_);and_intros<;>intros<;>try exact True.intro
 refine WpA.loop (fun k:Nat=>⟨[(0,LL M),(3,I (M.take k).flatten.length),(9,LL M),(10,I M.length),(11,I k)],[]⟩) (fun k=>k≤M.length) (fun k=>M.length-k) 0 (by omega) (go (r:=?_)) (fun k hk=>?_)
 ·simp
 have hb:=smL_bd hM.2 k hk
 have hg:=fun h=>smL_get hM.2 (k:=k) h
 have hs:=fun h=>flat_snoc M k h
 refine go (r:=?_);and_intros<;>intros<;>try exact True.intro
 ·rw [hs (by omega),List.length_append];omega
 have e:k=M.length:=by omega
 subst e
 rw [List.take_length] at*
 refine go (r:=?_);and_intros<;>intros<;>try exact True.intro
 refine WpA.loop (fun k:Nat=>⟨[(6,.own 0 0 0 (M.take k).flatten.length),(25,LL M),(26,I M.length),(27,I k)],[XI (M.take k).flatten]⟩) (fun k=>k≤M.length) (fun k=>M.length-k) 0 (by omega) (go (r:=?_)) (fun k hk=>?_)
 ·simp
 have hb2:=smL_bd hM.2 k hk
 have hg2:=fun h=>smL_get hM.2 (k:=k) h
 have hs2:=fun h=>flat_snoc M k h
 have hln:k<M.length→(M.take (k+1)).flatten.length=(M.take k).flatten.length+(M.getD k default).length:=fun h=>by rw [hs2 h,List.length_append]
 refine go (r:=?_);and_intros<;>intros<;>try exact True.intro
 ·rw [hs2 (by omega)]
 all_goals have e:k=M.length:=by omega
 all_goals subst e
 all_goals rw [List.take_length]⟩
end Go.Proofs.YtainhhfnnclfiaaGreat


namespace Go.Proofs.YtainhhfnnclfiaaGreat
open Go Go.Abs
attribute [local irreducible] WpA WpL Rnd Blk Abs.Seq Abs.Fin Abs.FinG FnC FnG Only
instance bitOf_c:Con 225 (∀ b:Bool,Fn 225 [B b] [] (I (bif b then 1 else 0))):=⟨fun b=>by
 cases b
 ·refine FnC.of_body tabOk Tryz.func225 Tryz.ntmps225 rfl (by decide +kernel) (by simp) fun G=>?_
  refine go (r:=?_);and_intros<;>intros<;>try exact True.intro
  all_goals rfl
 ·refine FnC.of_body tabOk Tryz.func225 Tryz.ntmps225 rfl (by decide +kernel) (by simp) fun G=>?_
  refine go (r:=?_);and_intros<;>intros<;>try exact True.intro
  all_goals rfl⟩
def nolL (v:Int):Int:=if v>0 then 2*v-2 else if v<0 then -2*v-1 else -1
instance NumOfLevel_c:Con 273 (∀ v:Int,-1000000≤v∧v≤1000000→Fn 273 [I v] [] (I (nolL v))):=⟨fun v hv=>by
 unfold nolL
 refine FnC.of_body tabOk Tryz.func273 Tryz.ntmps273 rfl (by decide +kernel) (by simp) fun G=>?_
 refine go (r:=?_);and_intros<;>intros<;>try exact True.intro
 all_goals (repeat' split)<;>omega⟩
theorem lg_lo (x:Nat) (h:0<x):2 ^ Nat.log2 x≤x:=Nat.log2_self_le (by omega)
theorem lg_hi (x:Nat):x<2 ^ (Nat.log2 x+1):=Nat.lt_log2_self
theorem lg_16 {x:Nat} (h0:0<x) (h:x≤65535):Nat.log2 x≤15:=by
 rcases Nat.lt_or_ge (Nat.log2 x) 16 with h1|h1
 ·omega
 ·have:=lg_lo x h0
  have:2 ^ 16≤2 ^ Nat.log2 x:=Nat.pow_le_pow_right (by decide) h1
  omega
def ueL (n:Int):List Int:=if 0≤n∧n≤65534 then List.replicate (Nat.log2 (n.toNat+1)) 0++bitsL (n+1) (Nat.log2 (n.toNat+1)+1) else []
theorem ueL_len (n:Int):(ueL n).length≤64:=by
 unfold ueL;split
 ·rename_i h
  have h1:=lg_16 (x:=n.toNat+1) (by omega) (by omega)
  have h2:=bitsL_len (n+1) ((Nat.log2 (n.toNat+1):Nat)+1)
  simp only [List.length_append,List.length_replicate];omega
 ·simp
theorem bitOk_ue {n:Nat} (w:Nat) (h:n≤65534) (hw:Nat.log2 (n+1)+1≤w) (hw2:w≤48):bitOk ((n:Int)+1) w:=by
 refine ⟨by omega,by omega,?_⟩
 have h1:=lg_hi (n+1)
 have h2:2 ^ (Nat.log2 (n+1)+1)≤2 ^ w:=Nat.pow_le_pow_right (by decide) hw
 have h3:(n+1)/2 ^ w=0:=Nat.div_eq_of_lt (by omega)
 have h4:(((n+1)/2 ^ w:Nat):Int)=0:=by rw [h3];rfl
 rw [Int.toNat_natCast];push_cast at h4;exact h4
theorem bits_wide {n:Nat} {z:Nat} (h:n≤65534) (hz:z=Nat.log2 (n+1)):bitsL ((n:Int)+1) ((2*z+1:Nat):Int)=List.replicate z 0++bitsL ((n:Int)+1) ((z+1:Nat):Int):=by
 have h16:=lg_16 (x:=n+1) (by omega) (by omega)
 have o1:=bitOk_ue (n:=n) (2*z+1) h (by omega) (by omega)
 have o2:=bitOk_ue (n:=n) (z+1) h (by omega) (by omega)
 rw [bitsL,if_pos o1,bitsL,if_pos o2,Int.toNat_natCast,Int.toNat_natCast]
 apply List.ext_getElem?
 intro q
 rcases Nat.lt_or_ge q z with hq|hq
 ·rw [List.getElem?_append_left (by simpa using hq),List.getElem?_replicate,if_pos hq]
  unfold bitsR
  rw [List.getElem?_map,List.getElem?_range (by omega)]
  simp only [Option.map_some]
  congr 1
  have h5:(n+1)/2 ^ (2*z+1-1-q)=0:=Nat.div_eq_of_lt (by
   have h1:=lg_hi (n+1)
   have h2:2 ^ (Nat.log2 (n+1)+1)≤2 ^ (2*z+1-1-q):=Nat.pow_le_pow_right (by decide) (by omega)
   omega)
  have h6:(((n+1)/2 ^ (2*z+1-1-q):Nat):Int)=0:=by rw [h5];rfl
  have h7:((n:Int)+1)/2 ^ (2*z+1-1-q)=0:=by
   have e:(((n+1)/2 ^ (2*z+1-1-q):Nat):Int)=((n:Int)+1)/2 ^ (2*z+1-1-q):=by rw [Int.natCast_ediv,Int.natCast_add,Int.natCast_pow];rfl
   rw [←e];exact h6
  rw [h7];rfl
 ·rw [List.getElem?_append_right (by simpa using hq),List.length_replicate]
  unfold bitsR
  rcases Nat.lt_or_ge q (2*z+1) with hq2|hq2
  ·rw [List.getElem?_map,List.getElem?_range (by omega),List.getElem?_map,List.getElem?_range (by omega)]
   simp only [Option.map_some]
   congr 4;omega
  ·rw [List.getElem?_eq_none (by simpa using hq2),List.getElem?_eq_none (by simp;omega)]
theorem ueL_wide {n:Nat} (h:n≤65534):bitsL ((n:Int)+1) ((2*Nat.log2 (n+1)+1:Nat):Int)=ueL n:=by
 rw [bits_wide h rfl,ueL,if_pos ⟨by omega,by omega⟩]
 simp
def lenL (x:Int):Int:=if x=0 then 0 else (Nat.log2 x.toNat:Int)+1
theorem lenL_bd {x:Int} (h:0≤x∧x≤65535):0≤lenL x∧lenL x≤16:=by
 unfold lenL;split
 ·omega
 ·have:=lg_16 (x:=x.toNat) (by omega) (by omega);omega
theorem u64_in {x:Int} (h:0≤x∧x≤65535):IntKind.u64.wrap x=x:=by
 have key:IntKind.u64.wrap x=x%18446744073709551616:=rfl
 rw [key];omega
theorem u8_in {x:Int} (h:0≤x∧x≤255):IntKind.u8.wrap x=x:=by
 have key:IntKind.u8.wrap x=x%256:=rfl
 rw [key];omega
def lenT:List UInt8:=(List.range 256).map fun i=>UInt8.ofNat (if i=0 then 0 else Nat.log2 i+1)
theorem lenT_len:lenT.length=256:=by simp [lenT]
theorem lenT_at {x:Int} (h:0≤x∧x≤255):((lenT.getD x.toNat 0).toNat:Int)=lenL x:=by
 have key:∀k:Fin 256,((lenT.getD (k.val:Int).toNat 0).toNat:Int)=lenL k.val:=by decide +kernel
 obtain ⟨k,rfl⟩:∃k:Nat,x=k:=⟨x.toNat,by omega⟩
 exact key ⟨k,by omega⟩
theorem lenL_hi {x:Int} (h:256≤x∧x≤65535):lenL x=8+lenL (x/256):=by
 unfold lenL
 rw [if_neg (by omega),if_neg (by omega)]
 obtain ⟨k,rfl⟩:∃k:Nat,x=k:=⟨x.toNat,by omega⟩
 have e:((k:Int)/256).toNat=k/256:=by omega
 rw [e,Int.toNat_natCast]
 have h1:Nat.log2 k=Nat.log2 (k/2)+1:=by rw [Nat.log2_def,if_pos (by omega)]
 have e2:∀j n:Nat,256≤j*n→1<n→n≤256→True:=fun _ _ _ _ _=>trivial
 have st:∀n:Nat,2≤n→Nat.log2 n=Nat.log2 (n/2)+1:=fun n hn=>by rw [Nat.log2_def,if_pos hn]
 rw [st k (by omega),st (k/2) (by omega),st (k/2/2) (by omega),st (k/2/2/2) (by omega),st (k/2/2/2/2) (by omega),st (k/2/2/2/2/2) (by omega),st (k/2/2/2/2/2/2) (by omega),st (k/2/2/2/2/2/2/2) (by omega)]
 have e3:k/2/2/2/2/2/2/2/2=k/256:=by omega
 rw [e3];omega
instance Len64_c:Con 302 (∀ x:Int,0≤x∧x≤65535→Fn 302 [.sc (.int .u64 x)] [] (I (lenL x))):=⟨fun x hx=>by
 have e8:x/2 ^ Int.toNat 8=x/256:=rfl
 have hb:=lenL_bd hx
 refine FnC.of_body tabOk Tryz.func302 Tryz.ntmps302 rfl (by decide +kernel) (by simp) fun G=>?_
 by_cases h:256≤x
 ·have h2:IntKind.u8.wrap (x/2 ^ Int.toNat 8)=x/256:=by rw [e8];exact u8_in (by omega)
  have hb2:=lenL_bd (x:=x/256) (by omega)
  have hh:=lenL_hi (x:=x) (by omega)
  refine go (r:=?_);and_intros<;>intros<;>try exact True.intro
  refine WpL.idxStrB (p:=lenT) tabOk rfl (by kernel_rfl) rfl (by rw [h2,lenT_len];omega) (by decide) (fun hgo=>?_)
  rw [h2,lenT_at (by omega)]
  refine go (r:=?_);and_intros<;>intros<;>try exact True.intro
 ·have h2:IntKind.u8.wrap x=x:=u8_in (by omega)
  refine go (r:=?_);and_intros<;>intros<;>try exact True.intro
  refine WpL.idxStrB (p:=lenT) tabOk rfl (by kernel_rfl) rfl (by rw [h2,lenT_len];omega) (by decide) (fun hgo=>?_)
  rw [h2,lenT_at (by omega)]
  refine go (r:=?_);and_intros<;>intros<;>try exact True.intro⟩
instance Len_c:Con 296 (∀ x:Int,0≤x∧x≤65535→Fn 296 [.sc (.int .u64 x)] [] (I (lenL x))):=⟨fun x hx=>by
 refine FnC.of_body tabOk Tryz.func296 Tryz.ntmps296 rfl (by decide +kernel) (by simp) fun G=>?_
 refine go (r:=?_);and_intros<;>intros<;>try exact True.intro⟩
instance UeSize_c:Con 271 (∀ n:Nat,n≤65534→Fn 271 [I n] [] (I ((2*Nat.log2 (n+1)+1:Nat):Int))):=⟨fun n hn=>by
 have hw:=u64_in (x:=(n:Int)+1) (by omega)
 have hb:=lenL_bd (x:=(n:Int)+1) (by omega)
 have he:lenL ((n:Int)+1)=(Nat.log2 (n+1):Int)+1:=by
  unfold lenL;rw [if_neg (by omega),show ((n:Int)+1).toNat=n+1 by omega]
 have he2:lenL (IntKind.u64.wrap ((n:Int)+1))=(Nat.log2 (n+1):Int)+1:=by rw [hw];exact he
 have h16:=lg_16 (x:=n+1) (by omega) (by omega)
 refine FnC.of_body tabOk Tryz.func271 Tryz.ntmps271 rfl (by decide +kernel) (by simp) fun G=>?_
 refine go (r:=?_);and_intros<;>intros<;>try exact True.intro
 all_goals trace_state⟩
instance UeBits_c:Con 224 (∀ n:Int,0≤n∧n≤65534→Fn 224 [I n] [XI (ueL n)] (.own 0 0 0 (ueL n).length)):=⟨fun n hn=>by
 obtain ⟨N,rfl⟩:∃N:Nat,n=N:=⟨n.toNat,by omega⟩
 have he:=ueL_wide (n:=N) (by omega)
 have hel:(bitsL ((N:Int)+1) ((2*Nat.log2 (N+1)+1:Nat):Int)).length=(ueL N).length:=by rw [he]
 refine FnC.of_body tabOk Tryz.func224 Tryz.ntmps224 rfl (by decide +kernel) (by simp) fun G=>?_
 refine go (r:=?_);and_intros<;>intros<;>try exact True.intro
 all_goals trace_state⟩
end Go.Proofs.YtainhhfnnclfiaaGreat
