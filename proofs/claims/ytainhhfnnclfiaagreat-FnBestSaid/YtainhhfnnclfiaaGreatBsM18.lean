/- Proved in this text: lemmas and contracts of functions that the claim uses (parts: ScrB, Back2, LosP, EncX, Edg2, Edg3, EdgH, AbsHh, DebS, Nbs, PutR, Spt, EncZ, BmS, BstX, Bridge, Read, Read2, Read3). No condition. -/
import Derived.Test.YtainhhfnnclfiaaGreatBsM16
import Derived.Test.YtainhhfnnclfiaaGreatBsM15
import Derived.Test.YtainhhfnnclfiaaGreatBsM14
import Derived.Test.YtainhhfnnclfiaaGreatBsM17
import Derived.Test.YtainhhfnnclfiaaGreatBsM13
import Derived.Test.YtainhhfnnclfiaaGreatBsM12
import Derived.Test.YtainhhfnnclfiaaGreatBsM7
import Derived.Test.YtainhhfnnclfiaaGreatBsM4
import Derived.Test.YtainhhfnnclfiaaGreatBsM2
import Derived.Below
import Derived.ChangeArms
import Derived.Test.YtainhhfnnclfiaaGreatBsM3
import Derived.Test.YtainhhfnnclfiaaGreatBsM9
set_option linter.unusedVariables false
set_option linter.unusedSimpArgs false
set_option maxRecDepth 100000
set_option maxHeartbeats 16000000


namespace Go.Proofs.YtainhhfnnclfiaaGreat
open Go Go.Abs
attribute [local irreducible] WpA WpL Rnd Blk Abs.Seq Abs.Fin Abs.FinG FnC FnG FnX FnP FinX Only
instance big_c:Con 10 (∀ l:List Int,l.length≤9223372036854775807→Fn 10 [CodA l] [] (B (decide ((l.length:Int)>1048576)))):=⟨fun l hl=>by
 refine FnC.of_body tabOk Tryz.func10 Tryz.ntmps10 rfl (by decide +kernel) (by simp) fun G=>?_
 refine go (r:=?_);and_intros<;>intros<;>try exact True.intro⟩
end Go.Proofs.YtainhhfnnclfiaaGreat


namespace Go.Proofs.YtainhhfnnclfiaaGreat
open Go Go.Abs
end Go.Proofs.YtainhhfnnclfiaaGreat


namespace Go.Proofs.YtainhhfnnclfiaaGreat
open Go Go.Abs
end Go.Proofs.YtainhhfnnclfiaaGreat


namespace Go.Proofs.YtainhhfnnclfiaaGreat
open Go Go.Abs
attribute [local irreducible] WpA WpL Rnd Blk Abs.Seq Abs.Fin Abs.FinG FnC FnG FnX FnP FinX Only
section
attribute [local irreducible] belowD onceD pickD modeD l8D l8AnyD modesD onesD
theorem optD_es {l:List Int} {c:Cr} (h:CrOk l c):(optD l c).2.es.length≤3:=by
 have hq:=pickD_ok (xs:=quant7) h (by decide)
 have hb:=onceD_ok 4 hq.1
 have hd:=onceD_ok 2 hb
 have h8:=l8D_ok hd
 have hn:=belowD_ok 5 h8.1
 have hn0:=hn.2.1
 have hn1:=hn.2.2.1 (by decide)
 have hm:=modesD_ok (l:=l) (belowD l (l8D l (onceD l (onceD l (pickD l c quant7).1 4).1 2).1).1 5).2.toNat ((belowD l (l8D l (onceD l (onceD l (pickD l c quant7).1 4).1 2).1).1 5).1,[]) hn.1
 have hk:=belowD_ok 4 hm.1
 have hs:=onesD_ok (l:=l) (belowD l (modesD l (belowD l (l8D l (onceD l (onceD l (pickD l c quant7).1 4).1 2).1).1 5).2.toNat ((belowD l (l8D l (onceD l (onceD l (pickD l c quant7).1 4).1 2).1).1 5).1,[])).1 4).2.toNat ((belowD l (modesD l (belowD l (l8D l (onceD l (onceD l (pickD l c quant7).1 4).1 2).1).1 5).2.toNat ((belowD l (l8D l (onceD l (onceD l (pickD l c quant7).1 4).1 2).1).1 5).1,[])).1 4).1,[]) hk.1
 have hk0:=hk.2.1
 have hk1:=hk.2.2.1 (by decide)
 unfold optD
 exact Nat.le_trans (Nat.le_of_eq hs.2) (by simp only [List.length_nil];omega)
theorem anyD_es {l:List Int} {c:Cr} (h:CrOk l c):(anyD l c).2.es.length≤3:=by
 have e:(anyD l c).2.es=(optD l c).2.es:=by
  unfold anyD;simp only
  split
  ·rfl
  ·split<;>rfl
 rw [e];exact optD_es h
end
section
attribute [local irreducible] encT refL unpS prS decF
end
end Go.Proofs.YtainhhfnnclfiaaGreat


namespace Go.Proofs.YtainhhfnnclfiaaGreat
open Go Go.Abs
attribute [local irreducible] WpA WpL Rnd Blk Abs.Seq Abs.Fin Abs.FinG FnC FnG Only
attribute [local irreducible] runF vx vy
end Go.Proofs.YtainhhfnnclfiaaGreat


namespace Go.Proofs.YtainhhfnnclfiaaGreat
open Go Go.Abs
attribute [local irreducible] WpA WpL Rnd Blk Abs.Seq Abs.Fin Abs.FinG FnC FnG Only
attribute [local irreducible] runF hx
end Go.Proofs.YtainhhfnnclfiaaGreat


namespace Go.Proofs.YtainhhfnnclfiaaGreat
open Go Go.Abs
attribute [local irreducible] WpA WpL Rnd Blk Abs.Seq Abs.Fin Abs.FinG FnC FnG Only
attribute [local irreducible] runF vx vy hx
end Go.Proofs.YtainhhfnnclfiaaGreat


namespace Go.Abs
open Go
section
variable {P:Program} {n m:Nat} {G:Ctx} {T:List (Nat×AV)} {O:List AObj} {Q:Exit→St→Prop} {ops:Array Oper} {l:List Oper} {tt:TypeId} {pos:String} {after:Array Edge} {tab:List (Nat×Ty)}
section
variable {S S3:Nat→Prop} {w:World} {ι ι3:Nat→Spot} {O3:List AObj} {i:Nat} {mb ob:AObj}
end
end
end Go.Abs


namespace Go.Proofs.YtainhhfnnclfiaaGreat
open Go Go.Abs
attribute [local irreducible] WpA WpL Rnd Blk Abs.Seq Abs.Fin Abs.FinG FnC FnG Only
section
attribute [local irreducible] run runF vx vy hx hy edg
end
end Go.Proofs.YtainhhfnnclfiaaGreat


namespace Go.Proofs.YtainhhfnnclfiaaGreat
open Go Go.Abs
attribute [local irreducible] WpA WpL Rnd Blk Abs.Seq Abs.Fin Abs.FinG FnC FnG Only
attribute [local irreducible] topF lefF
attribute [local simp] Abs.setL
end Go.Proofs.YtainhhfnnclfiaaGreat


namespace Go.Proofs.YtainhhfnnclfiaaGreat
open Go Go.Abs
attribute [local irreducible] WpA WpL Rnd Blk Abs.Seq Abs.Fin Abs.FinG FnC FnG Only
section
end
end Go.Proofs.YtainhhfnnclfiaaGreat


namespace Go.Proofs.YtainhhfnnclfiaaGreat
open Go Go.Abs
attribute [local irreducible] WpA WpL Rnd Blk Abs.Seq Abs.Fin Abs.FinG FnC FnG Only
end Go.Proofs.YtainhhfnnclfiaaGreat


namespace Go.Proofs.YtainhhfnnclfiaaGreat
open Go Go.Abs
attribute [local irreducible] WpA WpL Rnd Blk Abs.Seq Abs.Fin Abs.FinG FnC FnG Only
section
open Go.Abs
variable {P:Program} {n m:Nat} {G:Ctx} {ops:Array Oper} {T0:List (Nat×AV)}
end
section
attribute [-instance] FrameNew_s Pred_s Residual_s
attribute [local irreducible] encB encM putL blkL topL lefL corL predS resS levL dbL modeF
end
end Go.Proofs.YtainhhfnnclfiaaGreat


namespace Go.Proofs.YtainhhfnnclfiaaGreat
open Go Go.Abs
attribute [local irreducible] WpA WpL Rnd Blk Abs.Seq Abs.Fin Abs.FinG FnC FnG Only
def bmL (w h q:Int) (b:Bool) (L F:List Int) (es:List Bool):List Int:=if FrameOk w h F∧OptOk q L then msO (encM ⟨w,h,q,b,L,F,chB L⟩ (eiF es) (zerP w h) (cntM w h).toNat).1 else []
section
attribute [local irreducible] encM msO
theorem BestModes_1 (w h q:Int) (b d:Bool) (L ms F:List Int) (es:List Bool) (hF:FrameOk w h F) (ho:OptOk q L) (hl:ms.length≤1099511627776∧es.length≤1099511627776):
 Fn 52 [FrA w h F,OpA q b d L ms es] [XI (msO (encM ⟨w,h,q,b,L,F,chB L⟩ (eiF es) (zerP w h) (cntM w h).toNat).1)] (.own 0 0 0 (msO (encM ⟨w,h,q,b,L,F,chB L⟩ (eiF es) (zerP w h) (cntM w h).toNat).1).length):=by
 have hfo:=decide_eq_true hF
 have hoo:=decide_eq_true ho
 have hL6:L.length=6:=ho.2.2.1
 have hFl:F.length≤1024:=by
  have h2:w*h≤32*32:=Int.mul_le_mul hF.1.2.1 hF.1.2.2.2.1 (by have:=hF.1.2.2.1;omega) (by have:=hF.1.1;omega)
  have:=hF.2.1
  omega
 have hz:=encode_h w h q b d L ms F es hF ho hl
 generalize msO (encM ⟨w,h,q,b,L,F,chB L⟩ (eiF es) (zerP w h) (cntM w h).toNat).1=X at*
 refine FnC.of_bodyM tabOk Tryz.func52 Tryz.ntmps52 rfl (by decide +kernel) (by simp) fun G hM=>?_
 refine WpA.seq ?_
 refine WpA.cut (σ1:=⟨[(3,.ptr 1 0 0),(2,.ptr 0 0 0)],[FrO w h F,OpO q b d L ms es]⟩) ?_ ?_
 ·refine goR (r:=?_);and_intros<;>intros<;>try exact True.intro
  all_goals first|contradiction|omega
 refine Abs.Seq.n ?_
 refine WpA.freezeP hM rfl (Nat.zero_le _) rfl rfl rfl rfl ?_
 refine goR (r:=?_);and_intros<;>intros<;>try exact True.intro
 all_goals first|contradiction|omega|skip
 refine K.call ?_
 refine WpL.callHX (hs:=[3,2]) (base:=4) hz (HandX.cons (Hand.x (.agg (.keep rfl rfl (.keep rfl rfl (.keep rfl rfl .nil))) .nil)) (HandX.cons (Hand.x (.agg (.keep rfl rfl (.keep rfl rfl (.keep rfl rfl (.keep rfl rfl (.keep rfl rfl (.keep rfl rfl .nil)))))) .nil)) (HandX.fn (.keep rfl rfl (.ptr (j:=0) rfl rfl rfl .nil))))) (.hand rfl (.own (j:=1) rfl rfl rfl rfl .nil) rfl rfl rfl (.inl rfl) (.still rfl rfl (still_ints _) rfl rfl (.inr rfl) .nil)) rfl (fun _ _ _ _=>Nat.zero_le _) rfl (.keep rfl (.keep rfl (.dead rfl (by decide) (.turn rfl (by decide) rfl rfl (.new (by decide) rfl .nil) .nil)))) (.cons (Back.all rfl (still_ints _) (Loc.ints _)) (.cons (Back.all rfl rfl (.any (.any (.any .nil)))) (.cons (Back.all rfl rfl (.any (.any (.any (.any (.any (.any .nil))))))) (.cons (Back.all rfl rfl (.any (.any (.any (.any (.any (.any (.any .nil)))))))) (.cons (Back.all rfl rfl (.any (.any (.any .nil)))) .nil))))) (.tup (.agg (Back.all rfl rfl (.any (.any (.any (.any (.any (.any (.any .nil)))))))) (.agg (Back.all rfl rfl (.any (.any (.any .nil)))) .nil)) .nil) rfl (by decide) ?_
 refine goR (r:=?_);and_intros<;>intros<;>try exact True.intro
 all_goals first|contradiction|omega
theorem BestModes_0 (w h q:Int) (b d:Bool) (L ms F:List Int) (es:List Bool) (hl:F.length≤1099511627776∧L.length≤1099511627776) (hn:¬(FrameOk w h F∧OptOk q L)):
 Fn 52 [FrA w h F,OpA q b d L ms es] [XI []] (.own 0 0 0 0):=by
 by_cases hF:FrameOk w h F
 ·have ho:¬OptOk q L:=fun ho=>hn ⟨hF,ho⟩
  have hfo:=decide_eq_true hF
  have hoo:=decide_eq_false ho
  refine FnC.of_body tabOk Tryz.func52 Tryz.ntmps52 rfl (by decide +kernel) (by simp) fun G=>?_
  refine go (r:=?_);and_intros<;>intros<;>try exact True.intro
  all_goals first|contradiction|omega
 ·have hfo:=decide_eq_false hF
  refine FnC.of_body tabOk Tryz.func52 Tryz.ntmps52 rfl (by decide +kernel) (by simp) fun G=>?_
  refine go (r:=?_);and_intros<;>intros<;>try exact True.intro
  all_goals first|contradiction|omega
instance BestModes_c:Con 52 (∀ (w h q:Int) (b d:Bool) (L ms F:List Int) (es:List Bool),F.length≤1099511627776∧L.length≤1099511627776∧ms.length≤1099511627776∧es.length≤1099511627776→
 Fn 52 [FrA w h F,OpA q b d L ms es] [XI (bmL w h q b L F es)] (.own 0 0 0 (bmL w h q b L F es).length)):=⟨fun w h q b d L ms F es hl=>by
 unfold bmL
 by_cases hok:FrameOk w h F∧OptOk q L
 ·rw [if_pos hok];exact BestModes_1 w h q b d L ms F es hok.1 hok.2 ⟨hl.2.2.1,hl.2.2.2⟩
 ·rw [if_neg hok];exact BestModes_0 w h q b d L ms F es ⟨hl.1,hl.2.1⟩ hok⟩
end
section
attribute [-instance] FrameNew_s Pred_s Residual_s BestMode_s
attribute [local irreducible] encB encM putL blkL topL lefL corL predS resS levL bestM msO
end
end Go.Proofs.YtainhhfnnclfiaaGreat


namespace Go.Proofs.YtainhhfnnclfiaaGreat
open Go Go.Abs
attribute [local irreducible] WpA WpL Rnd Blk Abs.Seq Abs.Fin Abs.FinG FnC FnG FnX FnP FinX Only
theorem predS_le {m:Int} {t le:List Int} {c n:Int} {a b:Bool} (h:0≤n∧n≤8):(predS m t le c a b n).length≤64:=by
 rw [predS_len]
 split
 ·obtain ⟨k,rfl⟩:∃k:Nat,n=k:=⟨n.toNat,by omega⟩
  simp only [Int.toNat_natCast]
  exact Nat.mul_le_mul (show k≤8 by omega) (show k≤8 by omega)
 ·exact Nat.zero_le _
theorem resS_le {f p:List Int}:(resS f p).length≤f.length:=by
 rw [resS_len];split<;>omega
theorem bmL_len9 (w h q:Int) (b:Bool) (L F:List Int) (es:List Bool):(bmL w h q b L F es).length≤64:=by
 unfold bmL;split
 ·rename_i hok
  rw [encM_ms]
  have:=encM_cnt ⟨w,h,q,b,L,F,chB L⟩ (eiF es) (zerP w h) (cntM w h).toNat
  have:=cntM_bd hok.1.1
  omega
 ·exact Nat.zero_le _
theorem msO_at2:∀(M:List Mbk) {k:Nat},k<M.length→(msO (M.take (k+1))).length=(msO (M.take k)).length+(M.getD k default).2.length
 |[],k,hk=>absurd hk (Nat.not_lt_zero _)
 |(e,bs)::M,0,_=>by simp [msO]
 |(e,bs)::M,k+1,hk=>by
  have h3:=msO_at2 M (k:=k) (by simpa using hk)
  have e1:∀N,msO ((e,bs)::N)=bs.map (·.1)++msO N:=fun N=>by simp [msO]
  simp only [List.take_succ_cons,e1,List.length_append,List.length_map,List.getD_cons_succ]
  omega
theorem bmL_0 {w h q:Int} {b:Bool} {L F:List Int} {es:List Bool} (hn:¬(FrameOk w h F∧OptOk q L)):bmL w h q b L F es=[]:=if_neg hn
theorem bmL_scr {w h q:Int} {b:Bool} {L F:List Int} {es:List Bool} (hF:FrameOk w h F) (ho:OptOk q L):msO (encT w h q b L (bmL w h q b L F es) F es)=bmL w h q b L F es:=by
 have hc:=cntM_bd hF.1
 have e:bmL w h q b L F es=msO (encM ⟨w,h,q,b,L,F,chB L⟩ (eiF es) (zerP w h) (cntM w h).toNat).1:=if_pos ⟨hF,ho⟩
 rw [e]
 unfold encT encS
 show msO (encM ⟨w,h,q,b,L,F,chO q L (msO (encM ⟨w,h,q,b,L,F,chB L⟩ (eiF es) (zerP w h) (cntM w h).toNat).1)⟩ (eiF es) (zerP w h) (cntM w h).toNat).1=_
 rw [encM_scr ho hF (zer_ok hF.1) (by omega) _ (Nat.le_refl _)]
theorem refL_okE {w h q:Int} {b d:Bool} {L ms F:List Int} {es:List Bool} (hF:FrameOk w h F):FrameOk w h (refL w h q b d (encT w h q b L ms F es)):=by
 have e:refL w h q b d (encT w h q b L ms F es)=endL w h q d (encM (enA w h q b L ms F) (eiF es) (zerP w h) (cntM w h).toNat).2.1:=encS_ref (enA w h q b L ms F) (eiF es) d
 rw [e]
 exact endL_ok (encM_ok (a:=enA w h q b L ms F) (zer_ok hF.1) _)
section
attribute [local simp] Abs.setL
attribute [-instance] BestModes_c
attribute [local irreducible] encT refL unpS belowD onceD pickD modeD l8D l8AnyD optD anyD seedD lineD nbD drwD predS bestM resS bmL
theorem FnBest_p (v:Value) (l:List Int) (hl:l.length≤9223372036854775807):FnP Tryz.prog 8 [.sc v] [] [v] [CodA l] [] [] (B true):=by
 by_cases hb:(l.length:Int)>1048576
 ·refine FnP.of_body tabOk Tryz.func8 Tryz.ntmps8 rfl (by decide +kernel) (by simp) rfl rfl rfl fun G hp=>?_
  refine goR (r:=?_);and_intros<;>intros<;>try exact True.intro
  refine WpL.pin (d:=18) hp rfl ?_
  refine go (r:=?_);and_intros<;>intros<;>try exact True.intro
  exact FinG.oI [] rfl (ResV.tmp rfl) (.keep rfl rfl rfl .nil) .nil rfl rfl
 ·have hl2:l.length≤1048576:=by omega
  have hqz:=DrawBestMode_z l hl2
  have hqb:=qd_bd hl2
  have hdz:=DrawBestModes_z l hl2
  have hs:=smallD_ok (newD_ok hl2)
  have ha:=anyD_ok hs.1
  have hae:=anyD_es hs.1
  have hpl:(dsP l).length≤384:=by have h1:=hs.2.1;show (List.drop (smallD l (newD l)).2.o (smallD l (newD l)).2.p).length≤384;rw [List.length_drop];omega
  obtain ⟨-,ha1,ha2⟩:=ha
  generalize dsP l=F at*
  generalize (dsF l).w=w at*
  generalize (dsF l).h=h at*
  change (dsO l).lens.length≤6 at ha1
  change (dsO l).ms.length≤4 at ha2
  change (dsO l).es.length≤3 at hae
  generalize (dsO l).lens=L at*
  generalize (dsO l).ms=ms at*
  generalize (dsO l).es=es at*
  generalize (dsO l).q=q at*
  generalize (dsO l).b=b at*
  generalize (dsO l).d=d at*
  clear hs
  generalize qL l=bl at*
  generalize (dr2 l (newD l)).2.t=bt at*
  generalize (dr2 l (newD l)).2.e.drop (dr2 l (newD l)).2.o=be at*
  generalize (dr2 l (newD l)).2.c=bc at*
  generalize (dr2 l (newD l)).2.a=ba at*
  generalize (dr2 l (newD l)).2.b=bb at*
  generalize qn l=bn at*
  generalize (l8AnyD l (qc l)).2=bL at*
  by_cases hok:FrameOk w h F∧OptOk q L
  ·obtain ⟨hF,ho⟩:=hok
   have hz:=EncodeStream_1 w h q b d L (bmL w h q b L F es) F es hF ho ⟨by have:=bmL_len9 w h q b L F es;omega,by omega⟩
   have hbl:=bmL_len9 w h q b L F es
   have hms:=bmL_scr (b:=b) (es:=es) hF ho
   have hst:=encT_ok (b:=b) (ms:=bmL w h q b L F es) (es:=es) hF ho
   have hrf:=refL_okE (b:=b) (d:=d) (ms:=bmL w h q b L F es) (es:=es) (q:=q) (L:=L) hF
   have hmw:=st_mw hst
   have hsb:=decide_eq_true hst
   have hfo:=decide_eq_true hF
   have hoo:=decide_eq_true ho
   have hrb:=decide_eq_true hrf
   have hrl:(refL w h q b d (encT w h q b L (bmL w h q b L F es) F es)).length≤1024:=by
    have hsd:=hrf.1
    have h2:w*h≤32*32:=Int.mul_le_mul hsd.2.1 hsd.2.2.2.1 (by have:=hsd.2.2.1;omega) (by have:=hsd.1;omega)
    have:=hrf.2.1
    omega
   generalize encT w h q b L (bmL w h q b L F es) F es=M at*
   generalize refL w h q b d M=P at*
   have hxk:∃X,bmL w h q b L F es=X:=⟨_,rfl⟩
   obtain ⟨X,hX⟩:=hxk
   have hbk:=FnC.still (BestModes_c.ok w h q b d L ms F es ⟨by omega,by omega,by omega,by omega⟩) (r':=IL (bmL w h q b L F es)) (.own rfl rfl rfl (by simp) rfl (Snap.same rfl (still_ints _) (nofre_ints _)) .nil)
   rw [hX] at hz hbl hms hbk
   by_cases hbm:0≤bestM bl bt be bc ba bb bn bL
   ·have hbh:=best_has hbm
    have hbs:=fun (j:Nat) hj hp=>best_lst hbm (j:=j) hj hp
    have hb6:bL.length=6:=hbh.1.2.1
    refine FnP.of_body tabOk Tryz.func8 Tryz.ntmps8 rfl (by decide +kernel) (by simp) rfl rfl rfl fun G hp=>?_
    refine goR (r:=?_);and_intros<;>intros<;>try exact True.intro
    refine WpL.pin (d:=18) hp rfl ?_
    refine goR (r:=?_);and_intros<;>intros<;>try exact True.intro
    all_goals first|contradiction|omega|skip
    refine WpL.pin (d:=21) hp rfl ?_
    refine K.call ?_
    apply WpL.callK hqz
    ·exact .keep rfl rfl .nil
    ·decide
    refine goR (r:=?_);and_intros<;>intros<;>try exact True.intro
    all_goals first|contradiction|omega|skip
    all_goals first|(have hx:=predS_le (m:=bestM bl bt be bc ba bb bn bL) (t:=bt) (le:=be) (c:=bc) (a:=ba) (b:=bb) hqb.2.2.2.1;omega)|(have hx:=resS_le (f:=bl) (p:=predS (bestM bl bt be bc ba bb bn bL) bt be bc ba bb bn);omega)|skip
    generalize bestM bl bt be bc ba bb bn bL=B9 at*
    obtain ⟨C9,hC9⟩:∃c,costs (resS bl (predS B9 bt be bc ba bb bn))=c:=⟨_,rfl⟩
    simp only [hC9] at hbs ⊢
    refine WpA.loop (fun k:Nat=>⟨[(0,.sc v),(3,IL bl),(4,.ptr 0 0 0),(5,I bn),(6,IL bL),(7,I B9),(8,I C9),(9,I k)],[NbO bt be bc ba bb]⟩) (fun k=>k≤6) (fun k=>6-k) 0 (by omega) (go (r:=?_)) (fun k hk=>?_)
    ·and_intros<;>first|exact True.intro|rfl
    have hbsk:=hbs k
    have hpk:=predS_le (m:=k) (t:=bt) (le:=be) (c:=bc) (a:=ba) (b:=bb) hqb.2.2.2.1
    have hrk:=resS_le (f:=bl) (p:=predS k bt be bc ba bb bn)
    have hkk:cstK bl bt be bc ba bb bn k=costs (resS bl (predS k bt be bc ba bb bn)):=rfl
    rw [hkk] at hbsk
    by_cases hk6:k<6
    ·have hbsk:=hbsk hk6
     have hv1:bL.getD k 0>0→¬costs (resS bl (predS k bt be bc ba bb bn))<C9:=fun h=>(hbsk h).1
     have hv2:bL.getD k 0>0→(k:Int)<B9→¬costs (resS bl (predS k bt be bc ba bb bn))=C9:=fun h=>(hbsk h).2
     refine goR (r:=?_);and_intros<;>intros<;>try exact True.intro
     all_goals first|contradiction|omega|skip
     all_goals
      refine WpL.openAny (t:=68) rfl (fun v0=>?_)
      by_cases hv:v0=.bool false
      ·subst hv
       refine goR (r:=?_);and_intros<;>intros<;>try exact True.intro
       all_goals first|contradiction|omega|skip
       all_goals
        refine WpL.openAny (t:=72) rfl (fun v1=>?_)
        by_cases hv1:v1=.bool true
        ·subst hv1
         refine goR (r:=?_);and_intros<;>intros<;>try exact True.intro
         all_goals first|contradiction|omega
        ·repeat (refine WpL.guardV (σ:=⟨_,_⟩) rfl rfl (by decide) rfl hv1 rfl ?_)
         refine goR (r:=?_);and_intros<;>intros<;>try exact True.intro
         all_goals first|contradiction|omega
      ·repeat (refine WpL.guardV (σ:=⟨_,_⟩) rfl rfl (by decide) rfl hv rfl ?_)
       refine WpL.openAny (t:=72) rfl (fun v1=>?_)
       by_cases hv1:v1=.bool true
       ·subst hv1
        refine goR (r:=?_);and_intros<;>intros<;>try exact True.intro
        all_goals first|contradiction|omega|skip
        all_goals
         refine WpL.guardV (σ:=⟨_,_⟩) rfl rfl (by decide) rfl hv rfl ?_
         refine goR (r:=?_);and_intros<;>intros<;>try exact True.intro
         all_goals first|contradiction|omega
       ·repeat (refine WpL.guardV (σ:=⟨_,_⟩) rfl rfl (by decide) rfl hv1 rfl ?_)
        refine WpL.guardV (σ:=⟨_,_⟩) rfl rfl (by decide) rfl hv rfl ?_
        refine goR (r:=?_);and_intros<;>intros<;>try exact True.intro
        all_goals first|contradiction|omega
    ·obtain rfl:k=6:=by omega
     refine goR (r:=?_);and_intros<;>intros<;>try exact True.intro
     all_goals first|contradiction|omega|skip
     refine WpL.pin (d:=80) hp rfl ?_
     refine K.call ?_
     apply WpL.callK hdz
     ·exact .keep rfl rfl .nil
     ·decide
     refine goR (r:=?_);and_intros<;>intros<;>try exact True.intro
     all_goals first|contradiction|omega|exact Nat.le_of_ble_eq_true rfl|skip
     refine K.call ?_
     apply WpL.callK hbk
     ·exact .agg (.keep rfl rfl (.keep rfl rfl (.keep rfl rfl .nil))) (.agg (.keep rfl rfl (.keep rfl rfl (.keep rfl rfl (.keep rfl rfl (.keep rfl rfl (.keep rfl rfl .nil)))))) .nil)
     ·decide
     refine goR (r:=?_);and_intros<;>intros<;>try exact True.intro
     all_goals first|contradiction|omega|exact Nat.le_of_ble_eq_true rfl|skip
     refine K.call ?_
     apply WpL.callK hz
     ·exact .agg (.keep rfl rfl (.keep rfl rfl (.keep rfl rfl .nil))) (.agg (.keep rfl rfl (.keep rfl rfl (.keep rfl rfl (.keep rfl rfl (.keep rfl rfl (.keep rfl rfl .nil)))))) .nil)
     ·decide
     refine goR (r:=?_);and_intros<;>intros<;>try exact True.intro
     all_goals first|contradiction|omega|exact absurd ⟨‹FrameOk w h F›,‹OptOk q L›⟩ hok|skip
     refine WpA.loop (fun k:Nat=>⟨[(12,.ptr 2 0 0),(13,.ptr 3 0 0),(14,.ptr 4 0 0),(15,I (msO (M.take k)).length),(16,I k)],[NbO bt be bc ba bb,FrO w h F,OpO q b d L X es,⟨StC w h q b d L M,0,0,none⟩,FrO w h P]⟩) (fun k=>k≤M.length) (fun k=>M.length-k) 0 (Nat.zero_le _) (go (r:=?_)) (fun k hk=>?_)
     ·and_intros<;>first|exact True.intro|rfl
     by_cases hlt:k<M.length
     ·have hat:=fun (i:Nat) hi=>msO_at M (k:=k) (i:=i) hlt hi
      have hat2:=msO_at2 M hlt
      have hsm:=(smM_get hmw.2.2.2 hlt)
      have hsm1:=hsm.1
      refine goR (r:=?_);and_intros<;>intros<;>try exact True.intro
      all_goals first|contradiction|omega|skip
      refine WpA.loop (fun i:Nat=>⟨[(12,.ptr 2 0 0),(13,.ptr 3 0 0),(14,.ptr 4 0 0),(15,I ((msO (M.take k)).length+i)),(16,I k),(17,I i)],[NbO bt be bc ba bb,FrO w h F,OpO q b d L X es,⟨StC w h q b d L M,0,0,none⟩,FrO w h P]⟩) (fun i=>i≤(M.getD k default).2.length) (fun i=>(M.getD k default).2.length-i) 0 (Nat.zero_le _) (go (r:=?_)) (fun i hi=>?_)
      ·and_intros<;>first|exact True.intro|rfl
      by_cases hlt2:i<(M.getD k default).2.length
      ·have hat:=hat i hlt2
       rw [hms] at hat
       obtain ⟨hat1,hatv,-⟩:=hat
       refine goR (r:=?_);and_intros<;>intros<;>try exact True.intro
       all_goals first|contradiction|omega|skip
       try dsimp only [List.append,List.cons_append,List.nil_append]
       apply WpA.regionMG 22 mixed (by decide +kernel)
       ·exact rfl
       ·apply HeadJ.consF rfl
        ·exact rfl
        ·exact in1
        ·exact rfl
        apply HeadJ.consF rfl
        ·exact rfl
        ·exact in1
        ·exact rfl
        apply HeadJ.consF rfl
        ·exact rfl
        ·exact in1
        ·exact rfl
        apply HeadJ.consF rfl
        ·exact rfl
        ·exact in1
        ·exact rfl
        apply HeadJ.consB0 rfl
        ·exact rfl
        ·exact in1
        ·exact decide_eq_false (by omega)
        ·exact rfl
        apply HeadJ.consF rfl
        ·exact rfl
        ·exact in1
        ·exact rfl
        apply HeadJ.consF rfl
        ·exact rfl
        ·(intro Tv;refine K.L ?_;refine K.gd ?_;refine K.gT rfl (by decide) rfl ?_;exact inG)
        ·exact rfl
        apply HeadJ.consF rfl
        ·exact rfl
        ·(intro Tv;refine K.L ?_;refine K.gd ?_;refine K.gT rfl (by decide) rfl ?_;exact inG)
        ·exact rfl
        apply HeadJ.consF rfl
        ·exact rfl
        ·(intro Tv;refine K.L ?_;refine K.gd ?_;refine K.gT rfl (by decide) rfl ?_;exact inG)
        ·exact rfl
        apply HeadJ.consF rfl
        ·exact rfl
        ·(intro Tv;refine K.L ?_;refine K.gd ?_;refine K.gT rfl (by decide) rfl ?_;exact inG)
        ·exact rfl
        apply HeadJ.consF rfl
        ·exact rfl
        ·(intro Tv;refine K.L ?_;refine K.gd ?_;refine K.gT rfl (by decide) rfl ?_;exact inG)
        ·exact rfl
        apply HeadJ.consF rfl
        ·exact rfl
        ·(intro Tv;refine K.L ?_;refine K.gd ?_;refine K.gT rfl (by decide) rfl ?_;exact inG)
        ·exact rfl
        apply HeadJ.consF rfl
        ·exact rfl
        ·(intro Tv;refine K.L ?_;refine K.gd ?_;refine K.gT rfl (by decide) rfl ?_;exact inG)
        ·exact rfl
        apply HeadJ.consF rfl
        ·exact rfl
        ·(intro Tv;refine K.L ?_;refine K.gd ?_;refine K.gT rfl (by decide) rfl ?_;exact inG)
        ·exact rfl
        apply HeadJ.consF rfl
        ·exact rfl
        ·(intro Tv;refine K.L ?_;refine K.gd ?_;refine K.gT rfl (by decide) rfl ?_;exact inG)
        ·exact rfl
        apply HeadJ.consF rfl
        ·exact rfl
        ·(intro Tv;refine K.L ?_;refine K.gd ?_;refine K.gT rfl (by decide) rfl ?_;exact inG)
        ·exact rfl
        apply HeadJ.consF rfl
        ·exact rfl
        ·(intro Tv;refine K.L ?_;refine K.gd ?_;refine K.gT rfl (by decide) rfl ?_;exact inG)
        ·exact rfl
        apply HeadJ.consF rfl
        ·exact rfl
        ·(intro Tv;refine K.L ?_;refine K.gd ?_;refine K.gT rfl (by decide) rfl ?_;exact inG)
        ·exact rfl
        apply HeadJ.consF rfl
        ·exact rfl
        ·(intro Tv;refine K.L ?_;refine K.gd ?_;refine K.gT rfl (by decide) rfl ?_;exact inG)
        ·exact rfl
        apply HeadJ.consF rfl
        ·exact rfl
        ·(intro Tv;refine K.L ?_;refine K.gd ?_;refine K.gT rfl (by decide) rfl ?_;exact inG)
        ·exact rfl
        apply HeadJ.consF rfl
        ·exact rfl
        ·(intro Tv;refine K.L ?_;refine K.gd ?_;refine K.gT rfl (by decide) rfl ?_;exact inG)
        ·exact rfl
        apply HeadJ.consF rfl
        ·exact rfl
        ·(intro Tv;refine K.L ?_;refine K.gd ?_;refine K.gT rfl (by decide) rfl ?_;exact inG)
        ·exact rfl
        exact Abs.HeadJ.nil
       ·exact trueA
       ·exact trueA
       ·exact rfl
       ·exact rfl
       have hatn:((((msO (M.take k)).length:Int)+(i:Int)).toNat)=(msO (M.take k)).length+i:=by omega
       refine goR (r:=?_);and_intros<;>intros<;>try exact True.intro
       all_goals first|contradiction|omega|(exfalso;rename_i hg;refine hg ?_;rw [hatn,hatv];done)
      ·obtain hie:i=(M.getD k default).2.length:=by omega
       refine goR (r:=?_);and_intros<;>intros<;>try exact True.intro
       all_goals first|contradiction|omega|(rw [hat2,hie];exact Int.natCast_add ..)|(rw [hat2,hie];push_cast;rfl)
     ·obtain rfl:k=M.length:=by omega
      rw [List.take_length,hms]
      refine goR (r:=?_);and_intros<;>intros<;>try exact True.intro
      all_goals first|contradiction|omega|exact hmw.2.2.2|(rw [hrb];exact FinG.oI [] rfl (ResV.tmp rfl) (.keep rfl rfl rfl .nil) .nil rfl rfl)
   ·refine FnP.of_body tabOk Tryz.func8 Tryz.ntmps8 rfl (by decide +kernel) (by simp) rfl rfl rfl fun G hp=>?_
    refine goR (r:=?_);and_intros<;>intros<;>try exact True.intro
    refine WpL.pin (d:=18) hp rfl ?_
    refine goR (r:=?_);and_intros<;>intros<;>try exact True.intro
    all_goals first|contradiction|omega|skip
    refine WpL.pin (d:=21) hp rfl ?_
    refine K.call ?_
    apply WpL.callK hqz
    ·exact .keep rfl rfl .nil
    ·decide
    refine goR (r:=?_);and_intros<;>intros<;>try exact True.intro
    all_goals first|contradiction|omega|skip
    refine WpL.pin (d:=80) hp rfl ?_
    refine K.call ?_
    apply WpL.callK hdz
    ·exact .keep rfl rfl .nil
    ·decide
    refine goR (r:=?_);and_intros<;>intros<;>try exact True.intro
    all_goals first|contradiction|omega|exact Nat.le_of_ble_eq_true rfl|skip
    refine K.call ?_
    apply WpL.callK hbk
    ·exact .agg (.keep rfl rfl (.keep rfl rfl (.keep rfl rfl .nil))) (.agg (.keep rfl rfl (.keep rfl rfl (.keep rfl rfl (.keep rfl rfl (.keep rfl rfl (.keep rfl rfl .nil)))))) .nil)
    ·decide
    refine goR (r:=?_);and_intros<;>intros<;>try exact True.intro
    all_goals first|contradiction|omega|exact Nat.le_of_ble_eq_true rfl|skip
    refine K.call ?_
    apply WpL.callK hz
    ·exact .agg (.keep rfl rfl (.keep rfl rfl (.keep rfl rfl .nil))) (.agg (.keep rfl rfl (.keep rfl rfl (.keep rfl rfl (.keep rfl rfl (.keep rfl rfl (.keep rfl rfl .nil)))))) .nil)
    ·decide
    refine goR (r:=?_);and_intros<;>intros<;>try exact True.intro
    all_goals first|contradiction|omega|exact absurd ⟨‹FrameOk w h F›,‹OptOk q L›⟩ hok|skip
    refine WpA.loop (fun k:Nat=>⟨[(12,.ptr 2 0 0),(13,.ptr 3 0 0),(14,.ptr 4 0 0),(15,I (msO (M.take k)).length),(16,I k)],[NbO bt be bc ba bb,FrO w h F,OpO q b d L X es,⟨StC w h q b d L M,0,0,none⟩,FrO w h P]⟩) (fun k=>k≤M.length) (fun k=>M.length-k) 0 (Nat.zero_le _) (go (r:=?_)) (fun k hk=>?_)
    ·and_intros<;>first|exact True.intro|rfl
    by_cases hlt:k<M.length
    ·have hat:=fun (i:Nat) hi=>msO_at M (k:=k) (i:=i) hlt hi
     have hat2:=msO_at2 M hlt
     have hsm:=(smM_get hmw.2.2.2 hlt)
     have hsm1:=hsm.1
     refine goR (r:=?_);and_intros<;>intros<;>try exact True.intro
     all_goals first|contradiction|omega|skip
     refine WpA.loop (fun i:Nat=>⟨[(12,.ptr 2 0 0),(13,.ptr 3 0 0),(14,.ptr 4 0 0),(15,I ((msO (M.take k)).length+i)),(16,I k),(17,I i)],[NbO bt be bc ba bb,FrO w h F,OpO q b d L X es,⟨StC w h q b d L M,0,0,none⟩,FrO w h P]⟩) (fun i=>i≤(M.getD k default).2.length) (fun i=>(M.getD k default).2.length-i) 0 (Nat.zero_le _) (go (r:=?_)) (fun i hi=>?_)
     ·and_intros<;>first|exact True.intro|rfl
     by_cases hlt2:i<(M.getD k default).2.length
     ·have hat:=hat i hlt2
      rw [hms] at hat
      obtain ⟨hat1,hatv,-⟩:=hat
      refine goR (r:=?_);and_intros<;>intros<;>try exact True.intro
      all_goals first|contradiction|omega|skip
      try dsimp only [List.append,List.cons_append,List.nil_append]
      apply WpA.regionMG 22 mixed (by decide +kernel)
      ·exact rfl
      ·apply HeadJ.consF rfl
       ·exact rfl
       ·exact in1
       ·exact rfl
       apply HeadJ.consF rfl
       ·exact rfl
       ·exact in1
       ·exact rfl
       apply HeadJ.consF rfl
       ·exact rfl
       ·exact in1
       ·exact rfl
       apply HeadJ.consF rfl
       ·exact rfl
       ·exact in1
       ·exact rfl
       apply HeadJ.consB0 rfl
       ·exact rfl
       ·exact in1
       ·exact decide_eq_false (by omega)
       ·exact rfl
       apply HeadJ.consF rfl
       ·exact rfl
       ·exact in1
       ·exact rfl
       apply HeadJ.consF rfl
       ·exact rfl
       ·(intro Tv;refine K.L ?_;refine K.gd ?_;refine K.gT rfl (by decide) rfl ?_;exact inG)
       ·exact rfl
       apply HeadJ.consF rfl
       ·exact rfl
       ·(intro Tv;refine K.L ?_;refine K.gd ?_;refine K.gT rfl (by decide) rfl ?_;exact inG)
       ·exact rfl
       apply HeadJ.consF rfl
       ·exact rfl
       ·(intro Tv;refine K.L ?_;refine K.gd ?_;refine K.gT rfl (by decide) rfl ?_;exact inG)
       ·exact rfl
       apply HeadJ.consF rfl
       ·exact rfl
       ·(intro Tv;refine K.L ?_;refine K.gd ?_;refine K.gT rfl (by decide) rfl ?_;exact inG)
       ·exact rfl
       apply HeadJ.consF rfl
       ·exact rfl
       ·(intro Tv;refine K.L ?_;refine K.gd ?_;refine K.gT rfl (by decide) rfl ?_;exact inG)
       ·exact rfl
       apply HeadJ.consF rfl
       ·exact rfl
       ·(intro Tv;refine K.L ?_;refine K.gd ?_;refine K.gT rfl (by decide) rfl ?_;exact inG)
       ·exact rfl
       apply HeadJ.consF rfl
       ·exact rfl
       ·(intro Tv;refine K.L ?_;refine K.gd ?_;refine K.gT rfl (by decide) rfl ?_;exact inG)
       ·exact rfl
       apply HeadJ.consF rfl
       ·exact rfl
       ·(intro Tv;refine K.L ?_;refine K.gd ?_;refine K.gT rfl (by decide) rfl ?_;exact inG)
       ·exact rfl
       apply HeadJ.consF rfl
       ·exact rfl
       ·(intro Tv;refine K.L ?_;refine K.gd ?_;refine K.gT rfl (by decide) rfl ?_;exact inG)
       ·exact rfl
       apply HeadJ.consF rfl
       ·exact rfl
       ·(intro Tv;refine K.L ?_;refine K.gd ?_;refine K.gT rfl (by decide) rfl ?_;exact inG)
       ·exact rfl
       apply HeadJ.consF rfl
       ·exact rfl
       ·(intro Tv;refine K.L ?_;refine K.gd ?_;refine K.gT rfl (by decide) rfl ?_;exact inG)
       ·exact rfl
       apply HeadJ.consF rfl
       ·exact rfl
       ·(intro Tv;refine K.L ?_;refine K.gd ?_;refine K.gT rfl (by decide) rfl ?_;exact inG)
       ·exact rfl
       apply HeadJ.consF rfl
       ·exact rfl
       ·(intro Tv;refine K.L ?_;refine K.gd ?_;refine K.gT rfl (by decide) rfl ?_;exact inG)
       ·exact rfl
       apply HeadJ.consF rfl
       ·exact rfl
       ·(intro Tv;refine K.L ?_;refine K.gd ?_;refine K.gT rfl (by decide) rfl ?_;exact inG)
       ·exact rfl
       apply HeadJ.consF rfl
       ·exact rfl
       ·(intro Tv;refine K.L ?_;refine K.gd ?_;refine K.gT rfl (by decide) rfl ?_;exact inG)
       ·exact rfl
       apply HeadJ.consF rfl
       ·exact rfl
       ·(intro Tv;refine K.L ?_;refine K.gd ?_;refine K.gT rfl (by decide) rfl ?_;exact inG)
       ·exact rfl
       exact Abs.HeadJ.nil
      ·exact trueA
      ·exact trueA
      ·exact rfl
      ·exact rfl
      have hatn:((((msO (M.take k)).length:Int)+(i:Int)).toNat)=(msO (M.take k)).length+i:=by omega
      refine goR (r:=?_);and_intros<;>intros<;>try exact True.intro
      all_goals first|contradiction|omega|(exfalso;rename_i hg;refine hg ?_;rw [hatn,hatv];done)
     ·obtain hie:i=(M.getD k default).2.length:=by omega
      refine goR (r:=?_);and_intros<;>intros<;>try exact True.intro
      all_goals first|contradiction|omega|(rw [hat2,hie];exact Int.natCast_add ..)|(rw [hat2,hie];push_cast;rfl)
    ·obtain rfl:k=M.length:=by omega
     rw [List.take_length,hms]
     refine goR (r:=?_);and_intros<;>intros<;>try exact True.intro
     all_goals first|contradiction|omega|exact hmw.2.2.2|(rw [hrb];exact FinG.oI [] rfl (ResV.tmp rfl) (.keep rfl rfl rfl .nil) .nil rfl rfl)
  ·have hz:=EncodeStream_0 w h q b d L (bmL w h q b L F es) F es ⟨by omega,by omega⟩ hok
   have hX:bmL w h q b L F es=[]:=bmL_0 hok
   have hbk:=FnC.still (BestModes_c.ok w h q b d L ms F es ⟨by omega,by omega,by omega,by omega⟩) (r':=IL (bmL w h q b L F es)) (.own rfl rfl rfl (by simp) rfl (Snap.same rfl (still_ints _) (nofre_ints _)) .nil)
   rw [hX] at hz hbk
   by_cases hbm:0≤bestM bl bt be bc ba bb bn bL
   ·have hbh:=best_has hbm
    have hbs:=fun (j:Nat) hj hp=>best_lst hbm (j:=j) hj hp
    have hb6:bL.length=6:=hbh.1.2.1
    refine FnP.of_body tabOk Tryz.func8 Tryz.ntmps8 rfl (by decide +kernel) (by simp) rfl rfl rfl fun G hp=>?_
    refine goR (r:=?_);and_intros<;>intros<;>try exact True.intro
    refine WpL.pin (d:=18) hp rfl ?_
    refine goR (r:=?_);and_intros<;>intros<;>try exact True.intro
    all_goals first|contradiction|omega|skip
    refine WpL.pin (d:=21) hp rfl ?_
    refine K.call ?_
    apply WpL.callK hqz
    ·exact .keep rfl rfl .nil
    ·decide
    refine goR (r:=?_);and_intros<;>intros<;>try exact True.intro
    all_goals first|contradiction|omega|skip
    all_goals first|(have hx:=predS_le (m:=bestM bl bt be bc ba bb bn bL) (t:=bt) (le:=be) (c:=bc) (a:=ba) (b:=bb) hqb.2.2.2.1;omega)|(have hx:=resS_le (f:=bl) (p:=predS (bestM bl bt be bc ba bb bn bL) bt be bc ba bb bn);omega)|skip
    generalize bestM bl bt be bc ba bb bn bL=B9 at*
    obtain ⟨C9,hC9⟩:∃c,costs (resS bl (predS B9 bt be bc ba bb bn))=c:=⟨_,rfl⟩
    simp only [hC9] at hbs ⊢
    refine WpA.loop (fun k:Nat=>⟨[(0,.sc v),(3,IL bl),(4,.ptr 0 0 0),(5,I bn),(6,IL bL),(7,I B9),(8,I C9),(9,I k)],[NbO bt be bc ba bb]⟩) (fun k=>k≤6) (fun k=>6-k) 0 (by omega) (go (r:=?_)) (fun k hk=>?_)
    ·and_intros<;>first|exact True.intro|rfl
    have hbsk:=hbs k
    have hpk:=predS_le (m:=k) (t:=bt) (le:=be) (c:=bc) (a:=ba) (b:=bb) hqb.2.2.2.1
    have hrk:=resS_le (f:=bl) (p:=predS k bt be bc ba bb bn)
    have hkk:cstK bl bt be bc ba bb bn k=costs (resS bl (predS k bt be bc ba bb bn)):=rfl
    rw [hkk] at hbsk
    by_cases hk6:k<6
    ·have hbsk:=hbsk hk6
     have hv1:bL.getD k 0>0→¬costs (resS bl (predS k bt be bc ba bb bn))<C9:=fun h=>(hbsk h).1
     have hv2:bL.getD k 0>0→(k:Int)<B9→¬costs (resS bl (predS k bt be bc ba bb bn))=C9:=fun h=>(hbsk h).2
     refine goR (r:=?_);and_intros<;>intros<;>try exact True.intro
     all_goals first|contradiction|omega|skip
     all_goals
      refine WpL.openAny (t:=68) rfl (fun v0=>?_)
      by_cases hv:v0=.bool false
      ·subst hv
       refine goR (r:=?_);and_intros<;>intros<;>try exact True.intro
       all_goals first|contradiction|omega|skip
       all_goals
        refine WpL.openAny (t:=72) rfl (fun v1=>?_)
        by_cases hv1:v1=.bool true
        ·subst hv1
         refine goR (r:=?_);and_intros<;>intros<;>try exact True.intro
         all_goals first|contradiction|omega
        ·repeat (refine WpL.guardV (σ:=⟨_,_⟩) rfl rfl (by decide) rfl hv1 rfl ?_)
         refine goR (r:=?_);and_intros<;>intros<;>try exact True.intro
         all_goals first|contradiction|omega
      ·repeat (refine WpL.guardV (σ:=⟨_,_⟩) rfl rfl (by decide) rfl hv rfl ?_)
       refine WpL.openAny (t:=72) rfl (fun v1=>?_)
       by_cases hv1:v1=.bool true
       ·subst hv1
        refine goR (r:=?_);and_intros<;>intros<;>try exact True.intro
        all_goals first|contradiction|omega|skip
        all_goals
         refine WpL.guardV (σ:=⟨_,_⟩) rfl rfl (by decide) rfl hv rfl ?_
         refine goR (r:=?_);and_intros<;>intros<;>try exact True.intro
         all_goals first|contradiction|omega
       ·repeat (refine WpL.guardV (σ:=⟨_,_⟩) rfl rfl (by decide) rfl hv1 rfl ?_)
        refine WpL.guardV (σ:=⟨_,_⟩) rfl rfl (by decide) rfl hv rfl ?_
        refine goR (r:=?_);and_intros<;>intros<;>try exact True.intro
        all_goals first|contradiction|omega
    ·obtain rfl:k=6:=by omega
     refine goR (r:=?_);and_intros<;>intros<;>try exact True.intro
     all_goals first|contradiction|omega|skip
     refine WpL.pin (d:=80) hp rfl ?_
     refine K.call ?_
     apply WpL.callK hdz
     ·exact .keep rfl rfl .nil
     ·decide
     refine goR (r:=?_);and_intros<;>intros<;>try exact True.intro
     all_goals first|contradiction|omega|exact Nat.le_of_ble_eq_true rfl|skip
     refine K.call ?_
     apply WpL.callK hbk
     ·exact .agg (.keep rfl rfl (.keep rfl rfl (.keep rfl rfl .nil))) (.agg (.keep rfl rfl (.keep rfl rfl (.keep rfl rfl (.keep rfl rfl (.keep rfl rfl (.keep rfl rfl .nil)))))) .nil)
     ·decide
     refine goR (r:=?_);and_intros<;>intros<;>try exact True.intro
     all_goals first|contradiction|omega|exact Nat.le_of_ble_eq_true rfl|skip
     refine K.call ?_
     apply WpL.callK hz
     ·exact .agg (.keep rfl rfl (.keep rfl rfl (.keep rfl rfl .nil))) (.agg (.keep rfl rfl (.keep rfl rfl (.keep rfl rfl (.keep rfl rfl (.keep rfl rfl (.keep rfl rfl .nil)))))) .nil)
     ·decide
     refine goR (r:=?_);and_intros<;>intros<;>try exact True.intro
     all_goals first|contradiction|omega|exact absurd ⟨‹FrameOk w h F›,‹OptOk q L›⟩ hok|skip
     all_goals first|(exact FinG.oI [] rfl (ResV.tmp rfl) (.keep rfl rfl rfl .nil) .nil rfl rfl)|(simp only [List.length_nil,Int.ofNat_zero,decide_true,eq_self_iff_true];exact FinG.oI [] rfl (ResV.tmp rfl) (.keep rfl rfl rfl .nil) .nil rfl rfl)
   ·refine FnP.of_body tabOk Tryz.func8 Tryz.ntmps8 rfl (by decide +kernel) (by simp) rfl rfl rfl fun G hp=>?_
    refine goR (r:=?_);and_intros<;>intros<;>try exact True.intro
    refine WpL.pin (d:=18) hp rfl ?_
    refine goR (r:=?_);and_intros<;>intros<;>try exact True.intro
    all_goals first|contradiction|omega|skip
    refine WpL.pin (d:=21) hp rfl ?_
    refine K.call ?_
    apply WpL.callK hqz
    ·exact .keep rfl rfl .nil
    ·decide
    refine goR (r:=?_);and_intros<;>intros<;>try exact True.intro
    all_goals first|contradiction|omega|skip
    refine WpL.pin (d:=80) hp rfl ?_
    refine K.call ?_
    apply WpL.callK hdz
    ·exact .keep rfl rfl .nil
    ·decide
    refine goR (r:=?_);and_intros<;>intros<;>try exact True.intro
    all_goals first|contradiction|omega|exact Nat.le_of_ble_eq_true rfl|skip
    refine K.call ?_
    apply WpL.callK hbk
    ·exact .agg (.keep rfl rfl (.keep rfl rfl (.keep rfl rfl .nil))) (.agg (.keep rfl rfl (.keep rfl rfl (.keep rfl rfl (.keep rfl rfl (.keep rfl rfl (.keep rfl rfl .nil)))))) .nil)
    ·decide
    refine goR (r:=?_);and_intros<;>intros<;>try exact True.intro
    all_goals first|contradiction|omega|exact Nat.le_of_ble_eq_true rfl|skip
    refine K.call ?_
    apply WpL.callK hz
    ·exact .agg (.keep rfl rfl (.keep rfl rfl (.keep rfl rfl .nil))) (.agg (.keep rfl rfl (.keep rfl rfl (.keep rfl rfl (.keep rfl rfl (.keep rfl rfl (.keep rfl rfl .nil)))))) .nil)
    ·decide
    refine goR (r:=?_);and_intros<;>intros<;>try exact True.intro
    all_goals first|contradiction|omega|exact absurd ⟨‹FrameOk w h F›,‹OptOk q L›⟩ hok|skip
    all_goals first|(exact FinG.oI [] rfl (ResV.tmp rfl) (.keep rfl rfl rfl .nil) .nil rfl rfl)|(simp only [List.length_nil,Int.ofNat_zero,decide_true,eq_self_iff_true];exact FinG.oI [] rfl (ResV.tmp rfl) (.keep rfl rfl rfl .nil) .nil rfl rfl)
theorem FnBest_c (l:List Int) (hl:l.length≤9223372036854775807):Fn 8 [CodA l] [] (B true):=FnC.of_pin fun v=>FnBest_p v l hl
end
end Go.Proofs.YtainhhfnnclfiaaGreat


namespace Go.Abs
open Go Go.RowKit
theorem FnC.walk {P:Program} {f:FuncId} {args:List AV} {N:List AObj} {x:Value} (hc:FnC P f args N (.sc x)) {w:World} {S:Nat→Prop} {vs:List Value} (hS:∀b,S b→b<w.heap.size)
 (hl:LRel S w (fun _=>none) [] args vs []):Calls P f vs.toArray w fun e w'=>e=.returned x∧Below w.heap.size w w':=by
 refine (hc.2 w S vs hS hl).mono fun e w' h=>?_
 obtain ⟨v,S',ι,F,rfl,_,_,_,_,_,hv,hk⟩:=h
 cases hv with
 |sc r=>exact ⟨rfl,hk.os,hk.tape,hk.output,hk.size,fun b hb=>hk.block b hb (fun h=>h)⟩
theorem spot_none {w:World} {x:Addr} {n:Nat} (h:0<n) (hc:∀i,i<n→∃v,w.cell? (x.add i)=some v):x.spot=none:=by
 obtain ⟨v,hv⟩:=hc 0 h
 simpa [Addr.add] using World.cell?_spot hv
end Go.Abs


namespace Go.Abs
open Go Go.RowKit
inductive Sp where
 |int (k:IntKind)|bool|str|struct (fs:List Sp)|slice (k:Nat) (e:Sp)
mutual
inductive SpOk (P:Program):TypeId→Sp→Prop
 |int {t k}:P.underlying t=some (.int k)→SpOk P t (.int k)
 |bool {t}:P.underlying t=some .bool→SpOk P t .bool
 |str {t}:P.underlying t=some .string→SpOk P t .str
 |struct {t fs sps n}:P.underlying t=some (.struct fs)→P.cellsOf t=n→SpF P 0 fs.toList sps n→SpOk P t (.struct sps)
 |slice {t e k sp}:P.underlying t=some (.slice e)→P.cellsOf e=k→0<k→SpOk P e sp→SpOk P t (.slice k sp)
inductive SpF (P:Program):Nat→List Field→List Sp→Nat→Prop
 |nil {k}:SpF P k [] [] k
 |cons {k c f fs sp sps n}:f.offset=k→P.cellsOf f.type=c→SpOk P f.type sp→SpF P (k+c) fs sps n→SpF P k (f::fs) (sp::sps) n
end
mutual
inductive Rd:Sp→List AV→Prop
 |int {k n}:(Lit.int k n).wf=true→Rd (.int k) [.sc (.int k n)]
 |bool {b}:Rd .bool [.sc (.bool b)]
 |str {p:List UInt8}:p.length≤maxLen→Rd .str [.sc (.string ⟨p.toArray⟩)]
 |struct {sps cs}:RdF sps cs→Rd (.struct sps) cs
 |slice {sp len k cs}:len≤maxLen→RdN sp len k cs→Rd (.slice k sp) [.imm k len cs]
inductive RdF:List Sp→List AV→Prop
 |nil:RdF [] []
 |cons {sp sps a b}:Rd sp a→RdF sps b→RdF (sp::sps) (a++b)
inductive RdN:Sp→Nat→Nat→List AV→Prop
 |nil {sp k}:RdN sp 0 k []
 |snoc {sp n k a b}:RdN sp n k a→Rd sp b→b.length=k→RdN sp (n+1) k (a++b)
end
theorem RdN.len {sp n k cs} (h:RdN sp n k cs):cs.length=n*k:=by
 induction n generalizing cs with
 |zero=>cases h;simp
 |succ n ih=>cases h with|snoc h1 h2 h3=>rw [List.length_append,ih h1,h3,Nat.add_mul];omega
section
variable {H:Type} {enc:TypeId×Value→H} {P:Program} {w:World} {base:Nat} {spare:Nat→Bool} {held:Bool}
theorem read {S:Nat→Prop} {ι:Nat→Spot} (hS:∀b,b<w.heap.size→S b):∀(fuel:Nat) (t:TypeId) (sp:Sp) (cs:List Value) (x:DataW H×List MemPlace),SpOk P t sp→
 DataW.trod enc P w base spare held fuel t cs=some x→∃ds,Rd sp ds∧∀O,LRel S w ι O ds cs []:=by
 intro fuel
 induction fuel with
 |zero=>intro t sp cs x _ h;simp [DataW.trod] at h
 |succ fuel ih=>
  intro t sp cs x hsp h
  cases hsp with
  |int ht=>
   obtain ⟨n,rfl,_,hw⟩:=DataW.trod_int ht h
   exact ⟨_,.int hw,fun O=>.sc .nil⟩
  |bool ht=>
   obtain ⟨b,rfl,_⟩:=DataW.trod_bool ht h
   exact ⟨_,.bool,fun O=>.sc .nil⟩
  |str ht=>
   obtain ⟨s,rfl,_,hs⟩:=DataW.trod_string ht h
   exact ⟨[.sc (.string ⟨s.data.toList.toArray⟩)],.str (by have:s.data.toList.length=s.size:=rfl;omega),fun O=>.sc .nil⟩
  |@struct _ fs sps n ht hn hf=>
   obtain ⟨xs,m,hm,_,hlen,hxl,hel⟩:=DataW.trod_struct ht h
   obtain rfl:fuel=m:=by omega
   have key:∀(fl:List Field) (k:Nat) (sps:List Sp),SpF P k fl sps n→(∀ f∈fl,∃x,DataW.trod enc P w base spare held fuel f.type ((cs.drop f.offset).take (P.cellsOf f.type))=some x)→
    k≤n→∃ds,RdF sps ds∧∀O,LRel S w ι O ds (cs.drop k) []:=by
    intro fl
    induction fl with
    |nil=>
     intro k sps hF _ _
     cases hF
     exact ⟨[],.nil,fun O=>by rw [List.drop_eq_nil_of_le (by omega)];exact .nil⟩
    |cons f fl ihf=>
     intro k sps hF hx hk
     cases hF with
     |cons h1 h2 h3 h4=>
      obtain ⟨y,hy⟩:=hx f (by simp)
      obtain ⟨d1,r1,l1⟩:=ih _ _ _ _ h3 hy
      have hkn:∀{k fl sps},SpF P k fl sps n→k≤n:=by
       intro k fl
       induction fl generalizing k with
       |nil=>intro sps h;cases h;exact Nat.le_refl _
       |cons f fl ih2=>intro sps h;cases h with|cons _ _ _ h=>have:=ih2 h;omega
      obtain ⟨d2,r2,l2⟩:=ihf _ _ h4 (fun g hg=>hx g (by simp [hg])) (hkn h4)
      refine ⟨d1++d2,.cons r1 r2,fun O=>?_⟩
      have e:cs.drop k=(cs.drop f.offset).take (P.cellsOf f.type)++cs.drop (k+P.cellsOf f.type):=by
       rw [h1,←List.drop_drop,List.take_append_drop]
      rw [e,h2]
      rw [h2] at l1
      simpa using (l1 O).append (l2 O)
   obtain ⟨ds,r,l⟩:=key fs.toList 0 sps hf (fun f hf'=>by
    obtain ⟨i,hi⟩:=List.getElem?_of_mem hf'
    have hi':fs[i]?=some f:=by simpa using hi
    have:=hel i f hi'
    have hlt:i<xs.length:=by have:=(Array.getElem?_eq_some_iff.1 hi').1;omega
    exact ⟨xs[i],by rw [this];simp [hlt]⟩) (Nat.zero_le _)
   exact ⟨ds,.struct r,fun O=>by simpa using l O⟩
  |@slice _ e k sp ht hk hk0 he=>
   rcases DataW.trod_slice ht h with ⟨rfl,_⟩|⟨a,len,cap,elems,rest,m,hm,rfl,_,hb,hl,hc,hlen,hel,_,_⟩
   ·exact ⟨[.imm k 0 []],.slice (by simp) .nil,fun O=>.imm0 (by simp) .nil⟩
   obtain rfl:fuel=m:=by omega
   have cells:∀j,j≤len→∃ds us,RdN sp j k ds∧us.length=j*k∧(∀ i,i<us.length→w.cell? (a.add i)=us[i]?)∧LRel S w ι [] ds us []:=by
    intro j
    induction j with
    |zero=>intro _;exact ⟨[],[],.nil,by simp,by simp,.nil⟩
    |succ j ihj=>
     intro hj
     obtain ⟨ds,us,h1,h2,h3,h4⟩:=ihj (by omega)
     have hx:=hel j (by omega)
     have hlt:j<elems.length:=by omega
     rw [List.getElem?_eq_getElem hlt,Option.bind_eq_some_iff,hk] at hx
     obtain ⟨us2,hu,ht2⟩:=hx
     obtain ⟨d2,r2,l2⟩:=ih _ _ _ _ he ht2
     obtain ⟨_,c2,c3⟩:=World.cells?_some hu
     have l2':=l2 []
     have hd2:d2.length=k:=by rw [l2'.len,c2]
     refine ⟨ds++d2,us++us2,.snoc h1 r2 hd2,by rw [List.length_append,h2,c2,Nat.add_mul];omega,fun i hi=>?_,by simpa using h4.append l2'⟩
     rw [List.length_append] at hi
     by_cases hlt2:i<us.length
     ·rw [h3 i hlt2,List.getElem?_append_left hlt2]
     ·have hadd:a.add i=(a.add (j*k)).add (i-j*k):=by
       unfold Addr.add
       by_cases hz:j*k=0
       ·simp [hz]
       ·by_cases hz2:i-j*k=0
        ·have:i=j*k:=by omega
         simp [this]
        ·rw [if_neg (by omega),if_neg hz,if_neg hz2]
         simp only [Addr.mk.injEq,true_and,and_true]
         omega
      rw [hadd,c3 (i-j*k) (by omega),List.getElem?_append_right (by omega),h2]
   obtain ⟨ds,us,h1,h2,h3,h4⟩:=cells len (Nat.le_refl _)
   refine ⟨[.imm k len ds],.slice (by omega) h1,fun O=>?_⟩
   by_cases h0:len=0
   ·subst h0
    cases h1
    exact .imm0 ⟨by simp,hc⟩ .nil
   ·have hul:0<us.length:=by rw [h2];exact Nat.mul_pos (by omega) hk0
    have hsp:=spot_none (w:=w) (x:=a) (n:=us.length) hul fun i hi=>⟨us[i],by rw [h3 i hi];simp [hi]⟩
    obtain ⟨b,o,q⟩:=a
    simp only at hsp
    subst hsp
    have hcell:∀i,i<us.length→w.cell? ⟨b,o+i,none⟩=us[i]?:=fun i hi=>by have:=h3 i hi;rwa [addr_add] at this
    refine .imm (us:=us) (hS _ ?_) hcell h4 (by rw [h1.len]) hl hc .nil
    by_cases hb':b<w.heap.size
    ·exact hb'
    ·have:=hcell 0 hul
     simp [World.cell?,Array.getElem?_eq_none (Nat.le_of_not_lt hb'),hul] at this
end
end Go.Abs


namespace Go.Abs
open Go Go.RowKit
abbrev i64 (n:Int):Prop:=-9223372036854775808≤n∧n≤9223372036854775807
theorem lrel_cons0 {S:Nat→Prop} {w:World} {ι:Nat→Spot} {O:List AObj} {V:AV} {v:Value} {cs:List AV} {vs:List Value} (h1:VRel S w ι O V v []) (h2:LRel S w ι O cs vs []):LRel S w ι O (V::cs) (v::vs) []:=LRel.cons h1 h2
end Go.Abs


namespace Go.Proofs.YtainhhfnnclfiaaGreat
open Go Go.Abs Go.RowKit
theorem rdN_u8s {n:Nat} {cs:List AV} (h:RdN (.int .u8) n 1 cs):∃xs:List Int,cs=u8s xs∧xs.length=n∧∀x∈xs,0≤x∧x≤255:=by
 induction n generalizing cs with
 |zero=>cases h;exact ⟨[],rfl,rfl,by simp⟩
 |succ n ih=>
  cases h with
  |snoc h1 h2 h3=>
   obtain ⟨xs,rfl,h5,h6⟩:=ih h1
   cases h2 with
   |@int k m hw=>
    refine ⟨xs++[m],by simp [u8s],by simp [h5],fun x hx=>?_⟩
    rcases List.mem_append.1 hx with hx|hx
    ·exact h6 x hx
    ·have:x=m:=by simpa using hx
     subst this
     simpa [Lit.wf,show IntKind.u8.min=0 from rfl,show IntKind.u8.max=255 from rfl] using hw
theorem rd_u8s {ds:List AV} (h:Rd (.slice 1 (.int .u8)) ds):∃xs:List Int,ds=[.imm 1 xs.length (u8s xs)]∧xs.length≤9223372036854775807∧∀x∈xs,0≤x∧x≤255:=by
 cases h with
 |slice hl hn=>
  obtain ⟨xs,rfl,h1,h2⟩:=rdN_u8s hn
  subst h1
  exact ⟨xs,rfl,by simp only [maxLen] at hl;omega,h2⟩
end Go.Proofs.YtainhhfnnclfiaaGreat
