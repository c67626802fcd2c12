/- Proved in this text: lemmas and contracts of functions that the claim uses (parts: BstP, FrN, Cur, CurP, Draw, Draw2, Draw3, AbsXn, Draw4, Draw5, DrP, DbP, FrP, DrR, DrS, Db). No condition. -/
import Derived.Test.YtainhhfnnclfiaaGreatBsM15
import Derived.Test.YtainhhfnnclfiaaGreatBsM12
import Derived.Test.YtainhhfnnclfiaaGreatBsM7
import Derived.Test.YtainhhfnnclfiaaGreatBsM9
import Derived.Test.YtainhhfnnclfiaaGreatBsM14
import Derived.Test.YtainhhfnnclfiaaGreatBsM10
import Derived.Test.YtainhhfnnclfiaaGreatBsM13
set_option linter.unusedVariables false
set_option linter.unusedSimpArgs false
set_option maxRecDepth 100000
set_option maxHeartbeats 16000000


namespace Go.Proofs.YtainhhfnnclfiaaGreat
open Go Go.Abs
abbrev cstK (l t le:List Int) (c:Int) (a b:Bool) (n:Int) (j:Int):Int:=costs (resS l (predS j t le c a b n))
theorem bmS_lst (l t le:List Int) (c:Int) (a b:Bool) (n:Int) (L:List Int):∀m:Nat,
 ((bmS l t le c a b n L m).1<0→∀j:Nat,j<m→¬HasC L j)∧
 (0≤(bmS l t le c a b n L m).1→HasC L (bmS l t le c a b n L m).1∧(bmS l t le c a b n L m).2=cstK l t le c a b n (bmS l t le c a b n L m).1∧
  ∀j:Nat,j<m→HasC L j→(bmS l t le c a b n L m).2≤cstK l t le c a b n j∧((j:Int)<(bmS l t le c a b n L m).1→(bmS l t le c a b n L m).2<cstK l t le c a b n j))
 |0=>⟨fun _ j h=>absurd h (Nat.not_lt_zero _),fun h=>by simp [bmS] at h⟩
 |m+1=>by
  obtain ⟨i1,i2⟩:=bmS_lst l t le c a b n L m
  have hbd:=(bm_bd l t le c a b n L m)
  rw [bmS]
  generalize bmS l t le c a b n L m=r at*
  by_cases hh:HasC L m
  ·rw [if_pos hh]
   by_cases hc:r.1<0∨costs (resS l (predS m t le c a b n))<r.2
   ·rw [if_pos hc]
    refine ⟨fun h=>?_,fun _=>⟨hh,rfl,fun j hj hj2=>?_⟩⟩
    ·exfalso;have h:(m:Int)<0:=h;omega
    ·show costs (resS l (predS m t le c a b n))≤cstK l t le c a b n j∧((j:Int)<(m:Int)→costs (resS l (predS m t le c a b n))<cstK l t le c a b n j)
     by_cases e:j=m
     ·subst e;exact ⟨Int.le_refl _,fun h=>absurd h (Int.lt_irrefl _)⟩
     ·have hjm:j<m:=by omega
      rcases hc with hc|hc
      ·exact absurd hj2 (i1 hc j hjm)
      ·by_cases hr:r.1<0
       ·exact absurd hj2 (i1 hr j hjm)
       ·have:=((i2 (by omega)).2.2 j hjm hj2).1
        exact ⟨by omega,fun _=>by omega⟩
   ·rw [if_neg hc]
    refine ⟨fun h=>absurd (Or.inl h) hc,fun h=>⟨(i2 h).1,(i2 h).2.1,fun j hj hj2=>?_⟩⟩
    by_cases e:j=m
    ·subst e;exact ⟨by show r.2≤costs (resS l (predS j t le c a b n));omega,fun h2=>by omega⟩
    ·exact (i2 h).2.2 j (by omega) hj2
  ·rw [if_neg hh]
   refine ⟨fun h j hj=>?_,fun h=>⟨(i2 h).1,(i2 h).2.1,fun j hj hj2=>?_⟩⟩
   ·by_cases e:j=m
    ·subst e;exact hh
    ·exact i1 h j (by omega)
   ·by_cases e:j=m
    ·subst e;exact absurd hj2 hh
    ·exact (i2 h).2.2 j (by omega) hj2
theorem best_has {l t le:List Int} {c n:Int} {a b:Bool} {L:List Int} (h:0≤bestM l t le c a b n L):HasC L (bestM l t le c a b n L):=by
 unfold bestM at h ⊢
 split
 ·rename_i hk;rw [if_pos hk] at h;exact ((bmS_lst l t le c a b n L 6).2 h).1
 ·rename_i hk;rw [if_neg hk] at h;exact absurd h (by decide)
theorem best_lst {l t le:List Int} {c n:Int} {a b:Bool} {L:List Int} (h:0≤bestM l t le c a b n L) {j:Nat} (hj:j<6) (hp:L.getD j 0>0):
 ¬cstK l t le c a b n j<cstK l t le c a b n (bestM l t le c a b n L)∧((j:Int)<bestM l t le c a b n L→cstK l t le c a b n j≠cstK l t le c a b n (bestM l t le c a b n L)):=by
 have hc:=best_has h
 have hj2:HasC L j:=(has_code hc.1 hj).2 (by omega)
 unfold bestM at h ⊢
 split
 ·rename_i hk
  rw [if_pos hk] at h
  obtain ⟨-,h2,h3⟩:=(bmS_lst l t le c a b n L 6).2 h
  have h4:=h3 j hj hj2
  rw [h2] at h4
  exact ⟨by have:=h4.1;omega,fun hh=>by have:=h4.2 hh;omega⟩
 ·rename_i hk;rw [if_neg hk] at h;exact absurd h (by decide)
theorem chB_ok {w h q:Int} {b:Bool} {L F:List Int} (ho:OptOk q L) (hF:FrameOk w h F):ChOk ⟨w,h,q,b,L,F,chB L⟩:=fun c x y n P hP=>by
 have hf:Fits w h F x y n:=⟨hF,hP.2⟩
 have hb:(blkL w h F x y n).length=(n*n).toNat:=by unfold blkL;rw [if_pos hf];exact tabL_len ..
 have hk:BmOk (blkL w h F x y n) (topL w h P x y n) (lefL w h P x y n) (corL w h P x y n) n:=⟨nb_ok hP,by rw [hb];rcases hP.2.1 with rfl|rfl<;>decide,blk_in hF.2.2 _ _ _⟩
 show HasC L (bestM (blkL w h F x y n) (topL w h P x y n) (lefL w h P x y n) (corL w h P x y n) (hasT w h P x y n) (hasE w h P x y n) n L)
 refine best_has ?_
 unfold bestM
 rw [if_pos hk]
 refine Decidable.byContradiction fun hn=>?_
 have hno:=(bmS_lst (blkL w h F x y n) (topL w h P x y n) (lefL w h P x y n) (corL w h P x y n) (hasT w h P x y n) (hasE w h P x y n) n L 6).1 (by omega)
 obtain ⟨m,h6,h0⟩:=code_some ho.2
 exact hno m h6 ((has_code ho.2 h6).2 h0)
theorem encB_pre (a:EncA) (e:Bool) (k c:Nat) (P:List Int) (i:Nat):∀n,i≤n→∃R,(encB a e k c P n).1=(encB a e k c P i).1++R
 |0,h=>⟨[],by obtain rfl:i=0:=by omega
              simp⟩
 |n+1,h=>by
  by_cases hn:i=n+1
  ·subst hn;exact ⟨[],by simp⟩
  ·obtain ⟨R,hR⟩:=encB_pre a e k c P i n (by omega)
   exact ⟨R++[_],by rw [encB];simp only;rw [hR,List.append_assoc]⟩
theorem encM_pre (a:EncA) (E:Nat→Bool) (P:List Int) (i:Nat):∀n,i≤n→∃R,(encM a E P n).1=(encM a E P i).1++R
 |0,h=>⟨[],by obtain rfl:i=0:=by omega
              simp⟩
 |n+1,h=>by
  by_cases hn:i=n+1
  ·subst hn;exact ⟨[],by simp⟩
  ·obtain ⟨R,hR⟩:=encM_pre a E P i n (by omega)
   exact ⟨R++[_],by rw [encM];simp only;rw [hR,List.append_assoc]⟩
theorem msO_app (M N:List Mbk):msO (M++N)=msO M++msO N:=by simp [msO]
theorem ms_at (a:EncA) (E:Nat→Bool) (P:List Int) {N k i:Nat} (hk:k<N) (hi:i<manyE (E k)):
 (encM a E P k).2.2+i<(msO (encM a E P N).1).length∧(msO (encM a E P N).1).getD ((encM a E P k).2.2+i) 0=chM a.W a.H a.F a.ch ((encM a E P k).2.2+i) (encB a (E k) k (encM a E P k).2.2 (encM a E P k).2.1 i).2 (plc1 a.W (sz8 (E k)) k i).1 (plc1 a.W (sz8 (E k)) k i).2.1 (sz8 (E k)):=by
 obtain ⟨R,hR⟩:=encM_pre a E P (k+1) N hk
 obtain ⟨S,hS⟩:=encB_pre a (E k) k (encM a E P k).2.2 (encM a E P k).2.1 (i+1) (manyE (E k)) hi
 have hl:=encM_ms a E P k
 have hb:=encB_len a (E k) k (encM a E P k).2.2 (encM a E P k).2.1 i
 have e:msO (encM a E P N).1=msO (encM a E P k).1++((encB a (E k) k (encM a E P k).2.2 (encM a E P k).2.1 i).1.map (·.1)++(chM a.W a.H a.F a.ch ((encM a E P k).2.2+i) (encB a (E k) k (encM a E P k).2.2 (encM a E P k).2.1 i).2 (plc1 a.W (sz8 (E k)) k i).1 (plc1 a.W (sz8 (E k)) k i).2.1 (sz8 (E k))::(S.map (·.1)++msO R))):=by
  rw [hR,msO_app,encM]
  simp only
  rw [msO_snoc,hS,encB]
  simp only [List.map_append,List.map_cons,List.map_nil,List.append_assoc,List.cons_append,List.nil_append]
 rw [e]
 refine ⟨by simp only [List.length_append,List.length_cons,List.length_map,hl,hb];omega,?_⟩
 rw [List.getD_eq_getElem?_getD,List.getElem?_append_right (by omega),List.getElem?_append_right (by simp only [List.length_map,hb,hl];omega)]
 simp only [List.length_map,hb,hl]
 rw [show (encM a E P k).2.2+i-(encM a E P k).2.2-i=0 by omega];rfl
theorem encB_scr {w h q:Int} {b:Bool} {L F P:List Int} {E:Nat→Bool} (ho:OptOk q L) (hF:FrameOk w h F) (hP:FrameOk w h P) {N k:Nat} (hN:(N:Int)≤cntM w h) (hk:k<N):∀i,i≤manyE (E k)→
 encB ⟨w,h,q,b,L,F,chO q L (msO (encM ⟨w,h,q,b,L,F,chB L⟩ E P N).1)⟩ (E k) k (encM ⟨w,h,q,b,L,F,chB L⟩ E P k).2.2 (encM ⟨w,h,q,b,L,F,chB L⟩ E P k).2.1 i=encB ⟨w,h,q,b,L,F,chB L⟩ (E k) k (encM ⟨w,h,q,b,L,F,chB L⟩ E P k).2.2 (encM ⟨w,h,q,b,L,F,chB L⟩ E P k).2.1 i
 |0,_=>rfl
 |i+1,hi=>by
  have ih:=encB_scr (b:=b) (E:=E) ho hF hP hN hk i (by omega)
  have hm:=ms_at ⟨w,h,q,b,L,F,chB L⟩ E P hk (show i<manyE (E k) by omega)
  have hok:=encB_ok (a:=⟨w,h,q,b,L,F,chB L⟩) (e:=E k) (k:=k) (c:=(encM ⟨w,h,q,b,L,F,chB L⟩ E P k).2.2) (encM_ok (a:=⟨w,h,q,b,L,F,chB L⟩) (E:=E) hP k) i
  have hft:=plc_fits hok (e:=E k) (k:=k) (i:=i) (by show (k:Int)<cntM w h;omega) (by omega)
  have hc:=chB_ok (b:=b) ho hF ((encM ⟨w,h,q,b,L,F,chB L⟩ E P k).2.2+i) _ _ _ _ hft
  simp only at hm hc
  have key:chO q L (msO (encM ⟨w,h,q,b,L,F,chB L⟩ E P N).1) ((encM ⟨w,h,q,b,L,F,chB L⟩ E P k).2.2+i)=fun k' t' l' co' a' b' n'=>chM w h F (chB L) ((encM ⟨w,h,q,b,L,F,chB L⟩ E P k).2.2+i) (encB ⟨w,h,q,b,L,F,chB L⟩ (E k) k (encM ⟨w,h,q,b,L,F,chB L⟩ E P k).2.2 (encM ⟨w,h,q,b,L,F,chB L⟩ E P k).2.1 i).2 (plc1 w (sz8 (E k)) k i).1 (plc1 w (sz8 (E k)) k i).2.1 (sz8 (E k)):=by
   funext k' t' l' co' a' b' n'
   unfold chO
   have hmod:(((((encM ⟨w,h,q,b,L,F,chB L⟩ E P k).2.2+i:Nat):Int))%((msO (encM ⟨w,h,q,b,L,F,chB L⟩ E P N).1).length:Int)).toNat=(encM ⟨w,h,q,b,L,F,chB L⟩ E P k).2.2+i:=by
    rw [Int.emod_eq_of_lt (by omega) (by have:=hm.1;omega)];omega
   rw [modeF,if_pos ⟨ho,by omega⟩,hmod,hm.2,if_pos ⟨fun he=>by rw [he] at hm;exact absurd hm.1 (by simp),hc⟩]
  rw [encB,encB,ih]
  simp only [chM]
  simp only [chM] at key
  rw [key]
theorem encM_scr {w h q:Int} {b:Bool} {L F P:List Int} {E:Nat→Bool} (ho:OptOk q L) (hF:FrameOk w h F) (hP:FrameOk w h P) {N:Nat} (hN:(N:Int)≤cntM w h):∀k,k≤N→
 encM ⟨w,h,q,b,L,F,chO q L (msO (encM ⟨w,h,q,b,L,F,chB L⟩ E P N).1)⟩ E P k=encM ⟨w,h,q,b,L,F,chB L⟩ E P k
 |0,_=>rfl
 |k+1,hk=>by
  rw [encM,encM,encM_scr ho hF hP hN k (by omega),encB_scr (b:=b) (E:=E) ho hF hP hN (by omega) _ (Nat.le_refl _)]
theorem msO_at:∀(M:List Mbk) {k i:Nat},k<M.length→i<(M.getD k default).2.length→(msO (M.take k)).length+i<(msO M).length∧(msO M).getD ((msO (M.take k)).length+i) 0=((M.getD k default).2.getD i default).1∧(msO (M.take (k+1))).length=(msO (M.take k)).length+(M.getD k default).2.length
 |[],k,i,hk,_=>absurd hk (Nat.not_lt_zero _)
 |(e,bs)::M,0,i,_,hi=>by
  have hi:i<bs.length:=hi
  have e1:msO ((e,bs)::M)=bs.map (·.1)++msO M:=by simp [msO]
  refine ⟨by simp [msO];omega,?_,by simp [msO]⟩
  rw [e1]
  simp only [List.take_zero,msO_nil,List.length_nil,Nat.zero_add,List.getD_cons_zero]
  rw [List.getD_eq_getElem?_getD,List.getElem?_append_left (by simpa using hi),List.getElem?_map,List.getD_eq_getElem?_getD,List.getElem?_eq_getElem hi];rfl
 |(e,bs)::M,k+1,i,hk,hi=>by
  obtain ⟨h1,h2,h3⟩:=msO_at M (k:=k) (i:=i) (by simpa using hk) (by simpa using hi)
  have e1:∀N,msO ((e,bs)::N)=bs.map (·.1)++msO N:=fun N=>by simp [msO]
  simp only [List.take_succ_cons,e1,List.length_append,List.length_map,List.getD_cons_succ]
  refine ⟨by omega,?_,by omega⟩
  rw [←h2,List.getD_eq_getElem?_getD,List.getElem?_append_right (by simp only [List.length_map];omega),List.getD_eq_getElem?_getD]
  simp only [List.length_map]
  congr 2;omega
end Go.Proofs.YtainhhfnnclfiaaGreat


namespace Go.Proofs.YtainhhfnnclfiaaGreat
open Go Go.Abs
attribute [local irreducible] WpA WpL Rnd Blk Abs.Seq Abs.Fin Abs.FinG FnC FnG Only
theorem wh_in {W H:Int} (h:SidesOk W H):64≤W*H∧W*H≤1024:=by
 have h1:8*8≤W*H:=Int.mul_le_mul h.1 h.2.2.1 (by omega) (by have:=h.1;omega)
 have h2:W*H≤32*32:=Int.mul_le_mul h.2.1 h.2.2.2.1 (by have:=h.2.2.1;omega) (by omega)
 omega
instance FrameNew_s:Con 85 (∀ W H:Int,SidesOk W H→Fn 85 [I W,I H] [XI (List.replicate (W*H).toNat 0)] (FrOwn 0 W H (W*H).toNat)):=⟨fun W H h=>by
 have hm:=wh_in h
 refine FnC.of_body tabOk Tryz.func85 Tryz.ntmps85 rfl (by decide +kernel) (by simp) fun G=>?_
 refine go (r:=?_);and_intros<;>intros<;>try exact True.intro
 all_goals first|contradiction⟩
end Go.Proofs.YtainhhfnnclfiaaGreat


namespace Go.Proofs.YtainhhfnnclfiaaGreat
open Go Go.Abs
attribute [local irreducible] WpA WpL Rnd Blk Abs.Seq Abs.Fin Abs.FinG FnC FnG FnX FinX Only
abbrev CurO (v:Value) (c:Int×Int):AObj:=⟨[.sc v,I c.1,I c.2],0,0,none⟩
abbrev CurOk (l:List Int) (c:Int×Int):Prop:=0≤c.1∧c.1≤l.length
abbrev CodA (l:List Int):AV:=.imm 1 l.length (u8s l)
theorem and255 (y:Int):0≤IntKind.i64.wrap ((BitVec.ofInt IntKind.i64.bits y &&& BitVec.ofInt IntKind.i64.bits 255).toNat:Nat)∧IntKind.i64.wrap ((BitVec.ofInt IntKind.i64.bits y &&& BitVec.ofInt IntKind.i64.bits 255).toNat:Nat)≤255:=by
 have h:(BitVec.ofInt IntKind.i64.bits y &&& BitVec.ofInt IntKind.i64.bits 255).toNat≤255:=by
  rw [BitVec.toNat_and]
  exact Nat.le_trans Nat.and_le_right (by decide)
 rw [IntWalk.i64_in _ (by omega)]
 omega
section
attribute [local irreducible] IntKind.wrap
end
end Go.Proofs.YtainhhfnnclfiaaGreat


namespace Go.Proofs.YtainhhfnnclfiaaGreat
open Go Go.Abs
attribute [local irreducible] WpA WpL Rnd Blk Abs.Seq Abs.Fin Abs.FinG FnC FnG FnX FnP FinX Only
abbrev Cr:=Int×Int
abbrev Pn (f:Nat) (v:Value) (l:List Int) (c:Cr) (args:List AV) (c':Cr) (N:List AObj) (r:AV):Prop:=FnP Tryz.prog f (.ptr 0 0 0::args) [CurO v c] [v] [CodA l] [CurO v c'] N r
abbrev CrOk (l:List Int) (c:Cr):Prop:=l.length≤1048576∧CurOk l c
def hD (h:Int):Int:=IntKind.i64.wrap (IntKind.i64.wrap (h*6364136223846793005)+1442695040888963407)
def mixD (y:Int):Int:=IntKind.i64.wrap ((BitVec.ofInt IntKind.i64.bits (IntKind.i64.wrap ((BitVec.ofInt IntKind.i64.bits (y/2 ^ Int.toNat 33) ^^^ BitVec.ofInt IntKind.i64.bits (y/2 ^ Int.toNat 45)).toNat:Nat)) &&& BitVec.ofInt IntKind.i64.bits 255).toNat:Nat)
def byD (l:List Int) (c:Cr):Cr×Int:=
 if c.1<l.length then ((c.1+1,hD c.2),IntKind.i64.wrap ((BitVec.ofInt IntKind.i64.bits (IntKind.i64.wrap (mixD (hD c.2)+IntKind.i64.wrap (l.getD c.1.toNat 0))) &&& BitVec.ofInt IntKind.i64.bits 255).toNat:Nat))
 else ((c.1,hD c.2),mixD (hD c.2))
theorem byD_ok {l:List Int} {c:Cr} (h:CrOk l c):CrOk l (byD l c).1∧0≤(byD l c).2∧(byD l c).2≤255:=by
 have h1:=h.2.1
 have h2:=h.2.2
 unfold byD;split
 ·exact ⟨⟨h.1,by show 0≤c.1+1;omega,by show c.1+1≤_;omega⟩,and255 _⟩
 ·exact ⟨⟨h.1,h1,h2⟩,and255 _⟩
section
attribute [local irreducible] IntKind.wrap
instance l1Byte_p:ConP 125 (∀ (v:Value) (l:List Int) (c:Cr),CrOk l c→Pn 125 v l c [] (byD l c).1 [] (I (byD l c).2)):=⟨fun v l c h=>by
 have hl:=h.1
 have hc1:=h.2.1
 have hc2:=h.2.2
 by_cases hlt:c.1<l.length
 ·rw [byD,if_pos hlt]
  refine FnP.of_body tabOk Tryz.func125 Tryz.ntmps125 rfl (by decide +kernel) (by simp) rfl rfl rfl fun G hp=>?_
  refine go (r:=?_);and_intros<;>intros<;>try exact True.intro
  refine WpL.pin (d:=32) hp rfl ?_
  refine go (r:=?_);and_intros<;>intros<;>try exact True.intro
  all_goals first|contradiction|omega|skip
  refine WpL.pin (d:=39) hp rfl ?_
  refine go (r:=?_);and_intros<;>intros<;>try exact True.intro
 ·rw [byD,if_neg hlt]
  refine FnP.of_body tabOk Tryz.func125 Tryz.ntmps125 rfl (by decide +kernel) (by simp) rfl rfl rfl fun G hp=>?_
  refine go (r:=?_);and_intros<;>intros<;>try exact True.intro
  refine WpL.pin (d:=32) hp rfl ?_
  refine go (r:=?_);and_intros<;>intros<;>try exact True.intro
  all_goals first|contradiction|omega|skip⟩
end
def belowD (l:List Int) (c:Cr) (n:Int):Cr×Int:=
 if n≤0 then (c,0) else if n≤256 then ((byD l c).1,(byD l c).2%n) else
  ((byD l (byD l (byD l (byD l c).1).1).1).1,((byD l c).2*16777216+(byD l (byD l c).1).2*65536+(byD l (byD l (byD l c).1).1).2*256+(byD l (byD l (byD l (byD l c).1).1).1).2)%n)
theorem belowD_ok {l:List Int} {c:Cr} (n:Int) (h:CrOk l c):CrOk l (belowD l c n).1∧0≤(belowD l c n).2∧(0<n→(belowD l c n).2<n)∧(n≤0→(belowD l c n).2=0):=by
 have h1:=byD_ok h
 have h2:=byD_ok h1.1
 have h3:=byD_ok h2.1
 have h4:=byD_ok h3.1
 unfold belowD
 split
 ·exact ⟨h,Int.le_refl 0,fun h=>by omega,fun _=>rfl⟩
 ·split
  ·exact ⟨h1.1,Int.emod_nonneg _ (by omega),fun h=>Int.emod_lt_of_pos _ h,fun h=>by omega⟩
  ·exact ⟨h4.1,Int.emod_nonneg _ (by omega),fun h=>Int.emod_lt_of_pos _ h,fun h=>by omega⟩
instance l1Below_p:ConP 62 (∀ (v:Value) (l:List Int) (c:Cr) (n:Int),CrOk l c→Pn 62 v l c [I n] (belowD l c n).1 [] (I (belowD l c n).2)):=⟨fun v l c n h=>by
 have h1:=byD_ok h
 have h2:=byD_ok h1.1
 have h3:=byD_ok h2.1
 have h4:=byD_ok h3.1
 unfold belowD
 by_cases h0:n≤0
 ·rw [if_pos h0]
  refine FnP.of_body tabOk Tryz.func62 Tryz.ntmps62 rfl (by decide +kernel) (by simp) rfl rfl rfl fun G hp=>?_
  refine go (r:=?_);and_intros<;>intros<;>try exact True.intro
  all_goals trace_state
 ·rw [if_neg h0]
  by_cases h256:n≤256
  ·rw [if_pos h256]
   refine FnP.of_body tabOk Tryz.func62 Tryz.ntmps62 rfl (by decide +kernel) (by simp) rfl rfl rfl fun G hp=>?_
   refine go (r:=?_);and_intros<;>intros<;>try exact True.intro
   all_goals trace_state
  ·rw [if_neg h256]
   refine FnP.of_body tabOk Tryz.func62 Tryz.ntmps62 rfl (by decide +kernel) (by simp) rfl rfl rfl fun G hp=>?_
   refine go (r:=?_);and_intros<;>intros<;>try exact True.intro
   all_goals trace_state⟩
end Go.Proofs.YtainhhfnnclfiaaGreat


namespace Go.Proofs.YtainhhfnnclfiaaGreat
open Go Go.Abs
attribute [local irreducible] WpA WpL Rnd Blk Abs.Seq Abs.Fin Abs.FinG FnC FnG FnX FnP FinX Only
def onceD (l:List Int) (c:Cr) (n:Int):Cr×Bool:=((belowD l c n).1,decide ((belowD l c n).2=0))
theorem onceD_ok {l:List Int} {c:Cr} (n:Int) (h:CrOk l c):CrOk l (onceD l c n).1:=(belowD_ok n h).1
def pickD (l:List Int) (c:Cr) (xs:List Int):Cr×Int:=((belowD l c xs.length).1,xs.getD (belowD l c xs.length).2.toNat 0)
theorem pickD_ok {l:List Int} {c:Cr} {xs:List Int} (h:CrOk l c) (hx:0<xs.length):CrOk l (pickD l c xs).1∧(pickD l c xs).2∈xs:=by
 have hb:=belowD_ok (xs.length:Int) h
 refine ⟨hb.1,?_⟩
 have h1:=hb.2.2.1 (by omega)
 have h2:=hb.2.1
 have:(belowD l c xs.length).2.toNat<xs.length:=by omega
 simp [pickD,this]
attribute [local irreducible] belowD
instance l1Once_p:ConP 107 (∀ (v:Value) (l:List Int) (c:Cr) (n:Int),CrOk l c→Pn 107 v l c [I n] (onceD l c n).1 [] (B (onceD l c n).2)):=⟨fun v l c n h=>by
 unfold onceD
 refine FnP.of_body tabOk Tryz.func107 Tryz.ntmps107 rfl (by decide +kernel) (by simp) rfl rfl rfl fun G hp=>?_
 refine go (r:=?_);and_intros<;>intros<;>try exact True.intro⟩
instance l1PickInt_p:ConP 172 (∀ (v:Value) (l:List Int) (c:Cr) (xs:List Int),CrOk l c∧0<xs.length∧xs.length≤1048576→Pn 172 v l c [IL xs] (pickD l c xs).1 [] (I (pickD l c xs).2)):=⟨fun v l c xs h=>by
 have hc:=h.1
 have hb:=belowD_ok (xs.length:Int) hc
 have h1:=hb.2.1
 have h2:=hb.2.2.1 (by omega)
 unfold pickD
 refine FnP.of_body tabOk Tryz.func172 Tryz.ntmps172 rfl (by decide +kernel) (by simp) rfl rfl rfl fun G hp=>?_
 refine go (r:=?_);and_intros<;>intros<;>try exact True.intro
 all_goals trace_state⟩
attribute [local irreducible] onceD pickD
abbrev mode14:List Int:=[0,1,2,3,4,5,0,1,2,3,4,5,-1,6]
def modeD (l:List Int) (c:Cr):Cr×Int:=pickD l c mode14
instance l15Mode_p:ConP 249 (∀ (v:Value) (l:List Int) (c:Cr),CrOk l c→Pn 249 v l c [] (modeD l c).1 [] (I (modeD l c).2)):=⟨fun v l c h=>by
 unfold modeD
 refine FnP.of_body tabOk Tryz.func249 Tryz.ntmps249 rfl (by decide +kernel) (by simp) rfl rfl rfl fun G hp=>?_
 refine go (r:=?_);and_intros<;>intros<;>try exact True.intro
 all_goals first|exact h|decide⟩
def lens7:List (List Int):=[[1,2,3,4,5,5],[3,3,3,3,2,2],[2,2,2,3,4,4],[1,1,0,0,0,0],[0,2,2,2,2,0],[5,5,4,3,2,1],[4,4,4,4,2,1]]
def l8D (l:List Int) (c:Cr):Cr×List Int:=
 let y:=belowD l c 7
 let b:=lens7.getD y.2.toNat []
 let o:=onceD l y.1 2
 if o.2=true then
  let i:=belowD l o.1 6
  let k:=belowD l i.1 6
  (k.1,(b.set i.2.toNat (b.getD k.2.toNat 0)).set k.2.toNat (b.getD i.2.toNat 0))
 else (o.1,b)
theorem lens7_6:∀k,k<7→(lens7.getD k []).length=6:=by decide
theorem l8D_yes {l:List Int} {c:Cr} (h:(onceD l (belowD l c 7).1 2).2=true):l8D l c=((belowD l (belowD l (onceD l (belowD l c 7).1 2).1 6).1 6).1,((lens7.getD (belowD l c 7).2.toNat []).set (belowD l (onceD l (belowD l c 7).1 2).1 6).2.toNat ((lens7.getD (belowD l c 7).2.toNat []).getD (belowD l (belowD l (onceD l (belowD l c 7).1 2).1 6).1 6).2.toNat 0)).set (belowD l (belowD l (onceD l (belowD l c 7).1 2).1 6).1 6).2.toNat ((lens7.getD (belowD l c 7).2.toNat []).getD (belowD l (onceD l (belowD l c 7).1 2).1 6).2.toNat 0)):=by
 unfold l8D;simp only;rw [if_pos h]
theorem l8D_no {l:List Int} {c:Cr} (h:¬(onceD l (belowD l c 7).1 2).2=true):l8D l c=((onceD l (belowD l c 7).1 2).1,lens7.getD (belowD l c 7).2.toNat []):=by
 unfold l8D;simp only;rw [if_neg h]
theorem l8D_ok {l:List Int} {c:Cr} (h:CrOk l c):CrOk l (l8D l c).1∧(l8D l c).2.length=6:=by
 have hb:=belowD_ok 7 h
 have ho:=onceD_ok 2 hb.1
 have h6:=lens7_6 (belowD l c 7).2.toNat (by have:=hb.2.1;have:=hb.2.2.1 (by decide);omega)
 by_cases hc:(onceD l (belowD l c 7).1 2).2=true
 ·rw [l8D_yes hc]
  exact ⟨(belowD_ok 6 (belowD_ok 6 ho).1).1,by simp only [List.length_set];exact h6⟩
 ·rw [l8D_no hc];exact ⟨ho,h6⟩
instance l8Lens_p:ConP 174 (∀ (v:Value) (l:List Int) (c:Cr),CrOk l c→Pn 174 v l c [] (l8D l c).1 [XI (l8D l c).2] (.own 1 0 0 (l8D l c).2.length)):=⟨fun v l c h=>by
 have hb:=belowD_ok 7 h
 have h70:=hb.2.1
 have h71:=hb.2.2.1 (by decide)
 have hlt:(belowD l c 7).2.toNat<lens7.length:=by show _<7;omega
 have h6:=lens7_6 (belowD l c 7).2.toNat (by omega)
 have h6':(lens7.getD (belowD l c 7).2.toNat default).length=6:=h6
 have ho:=onceD_ok 2 hb.1
 have hi:=belowD_ok 6 ho
 have hk:=belowD_ok 6 hi.1
 have hi1:=hi.2.2.1 (by decide)
 have hk1:=hk.2.2.1 (by decide)
 by_cases hc:(onceD l (belowD l c 7).1 2).2=true
 ·rw [l8D_yes hc]
  refine FnP.of_body tabOk Tryz.func174 Tryz.ntmps174 rfl (by decide +kernel) (by simp) rfl rfl rfl fun G hp=>?_
  refine go (r:=?_);and_intros<;>intros<;>try exact True.intro
  refine K.ld ?_
  refine WpL.loadOwnLi (M:=lens7) tabOk rfl rfl rfl rfl hlt (by decide) rfl ?_
  refine WpL.appInts tabOk rfl rfl rfl (Nat.le_refl 1) rfl rfl rfl rfl (by omega) (by decide) ?_
  rw [List.nil_append]
  refine WpL.weak (σ':=⟨[(0,.ptr 0 0 0),(20,.own 1 0 0 6)],[CurO v (belowD l c 7).1,XI (lens7.getD (belowD l c 7).2.toNat [])]⟩) (Weak.mk (.cons (.ptr rfl rfl rfl rfl .nil) (.cons (.own rfl rfl rfl rfl rfl (by omega) .nil) .nil)) (.cons (Re.same rfl rfl) (.inr rfl) (.cons (Re.same rfl (still_ints _)) (.inr rfl) .nil)) (Nat.le_of_ble_eq_true rfl)) ?_
  generalize lens7.getD (belowD l c 7).2.toNat []=b at h6 ⊢
  refine go (r:=?_);and_intros<;>intros<;>try exact True.intro
  all_goals first|(rename_i hg;rw [hc] at hg;cases hg;done)
 ·rw [l8D_no hc]
  refine FnP.of_body tabOk Tryz.func174 Tryz.ntmps174 rfl (by decide +kernel) (by simp) rfl rfl rfl fun G hp=>?_
  refine go (r:=?_);and_intros<;>intros<;>try exact True.intro
  refine K.ld ?_
  refine WpL.loadOwnLi (M:=lens7) tabOk rfl rfl rfl rfl hlt (by decide) rfl ?_
  refine WpL.appInts tabOk rfl rfl rfl (Nat.le_refl 1) rfl rfl rfl rfl (by omega) (by decide) ?_
  rw [List.nil_append]
  refine WpL.weak (σ':=⟨[(0,.ptr 0 0 0),(20,.own 1 0 0 6)],[CurO v (belowD l c 7).1,XI (lens7.getD (belowD l c 7).2.toNat [])]⟩) (Weak.mk (.cons (.ptr rfl rfl rfl rfl .nil) (.cons (.own rfl rfl rfl rfl rfl (by omega) .nil) .nil)) (.cons (Re.same rfl rfl) (.inr rfl) (.cons (Re.same rfl (still_ints _)) (.inr rfl) .nil)) (Nat.le_of_ble_eq_true rfl)) ?_
  generalize lens7.getD (belowD l c 7).2.toNat []=b at h6 ⊢
  refine go (r:=?_);and_intros<;>intros<;>try exact True.intro
  all_goals first|(rename_i hg;exact absurd hg hc)⟩
end Go.Proofs.YtainhhfnnclfiaaGreat


namespace Go.Proofs.YtainhhfnnclfiaaGreat
open Go Go.Abs
attribute [local irreducible] WpA WpL Rnd Blk Abs.Seq Abs.Fin Abs.FinG FnC FnG FnX FnP FinX Only
attribute [local irreducible] belowD onceD pickD modeD
abbrev any5:List Int:=[0,1,8,-1,7]
def l8AnyD (l:List Int) (c:Cr):Cr×List Int:=
 let y:=l8D l c
 let s:=belowD l y.1 12
 if s.2=0 then
  let i:=belowD l s.1 6
  let p:=pickD l i.1 any5
  (p.1,y.2.set i.2.toNat p.2)
 else if s.2=1 then (s.1,y.2.take 5) else (s.1,y.2)
theorem l8AnyD_0 {l:List Int} {c:Cr} (h:(belowD l (l8D l c).1 12).2=0):l8AnyD l c=((pickD l (belowD l (belowD l (l8D l c).1 12).1 6).1 any5).1,(l8D l c).2.set (belowD l (belowD l (l8D l c).1 12).1 6).2.toNat (pickD l (belowD l (belowD l (l8D l c).1 12).1 6).1 any5).2):=by
 unfold l8AnyD;simp only;rw [if_pos h]
theorem l8AnyD_1 {l:List Int} {c:Cr} (h:(belowD l (l8D l c).1 12).2=1):l8AnyD l c=((belowD l (l8D l c).1 12).1,(l8D l c).2.take 5):=by
 unfold l8AnyD;simp only;rw [if_neg (by omega),if_pos h]
theorem l8AnyD_2 {l:List Int} {c:Cr} (h:(belowD l (l8D l c).1 12).2≠0) (h1:(belowD l (l8D l c).1 12).2≠1):l8AnyD l c=((belowD l (l8D l c).1 12).1,(l8D l c).2):=by
 unfold l8AnyD;simp only;rw [if_neg h,if_neg h1]
theorem l8AnyD_ok {l:List Int} {c:Cr} (h:CrOk l c):CrOk l (l8AnyD l c).1∧(l8AnyD l c).2.length≤6:=by
 have h8:=l8D_ok h
 have hs:=belowD_ok 12 h8.1
 by_cases h0:(belowD l (l8D l c).1 12).2=0
 ·rw [l8AnyD_0 h0]
  exact ⟨(pickD_ok (belowD_ok 6 hs.1).1 (by decide)).1,by simp only [List.length_set];omega⟩
 ·by_cases h1:(belowD l (l8D l c).1 12).2=1
  ·rw [l8AnyD_1 h1];exact ⟨hs.1,by simp only [List.length_take];omega⟩
  ·rw [l8AnyD_2 h0 h1];exact ⟨hs.1,by simp only;omega⟩
instance l8Any_p:ConP 108 (∀ (v:Value) (l:List Int) (c:Cr),CrOk l c→Pn 108 v l c [] (l8AnyD l c).1 [XI (l8AnyD l c).2] (.own 1 0 0 (l8AnyD l c).2.length)):=⟨fun v l c h=>by
 have h8:=l8D_ok h
 have hs:=belowD_ok 12 h8.1
 have hi:=belowD_ok 6 hs.1
 have hi1:=hi.2.2.1 (by decide)
 have hi0:=hi.2.1
 by_cases h0:(belowD l (l8D l c).1 12).2=0
 ·rw [l8AnyD_0 h0]
  refine FnP.of_body tabOk Tryz.func108 Tryz.ntmps108 rfl (by decide +kernel) (by simp) rfl rfl rfl fun G hp=>?_
  refine go (r:=?_);and_intros<;>intros<;>try exact True.intro
  all_goals first|exact hi.1|exact hs.1|decide
 ·by_cases h1:(belowD l (l8D l c).1 12).2=1
  ·have e5:((l8D l c).2.take 5).length=5:=by rw [List.length_take,h8.2];rfl
   rw [l8AnyD_1 h1]
   simp only [e5]
   refine FnP.of_body tabOk Tryz.func108 Tryz.ntmps108 rfl (by decide +kernel) (by simp) rfl rfl rfl fun G hp=>?_
   refine go (r:=?_);and_intros<;>intros<;>try exact True.intro
   refine K.sl ?_
   refine WpL.subOwn (j:=5) tabOk rfl rfl rfl rfl rfl (by omega) (by decide) ?_
   refine WpL.weak (Weak.pre (id:=1) (j:=5) rfl) ?_
   refine go (r:=?_);and_intros<;>intros<;>try exact True.intro
   all_goals trace_state
  ·rw [l8AnyD_2 h0 h1]
   refine FnP.of_body tabOk Tryz.func108 Tryz.ntmps108 rfl (by decide +kernel) (by simp) rfl rfl rfl fun G hp=>?_
   refine go (r:=?_);and_intros<;>intros<;>try exact True.intro
   all_goals trace_state⟩
end Go.Proofs.YtainhhfnnclfiaaGreat


namespace Go.Proofs.YtainhhfnnclfiaaGreat
open Go Go.Abs
attribute [local irreducible] WpA WpL Rnd Blk Abs.Seq Abs.Fin Abs.FinG FnC FnG FnX FnP FinX Only
attribute [local irreducible] belowD onceD pickD modeD l8D l8AnyD
def modesD (l:List Int):Nat→Cr×List Int→Cr×List Int
 |0,s=>s
 |n+1,s=>modesD l n ((modeD l s.1).1,s.2++[(modeD l s.1).2])
def onesD (l:List Int):Nat→Cr×List Bool→Cr×List Bool
 |0,s=>s
 |n+1,s=>onesD l n ((onceD l s.1 2).1,s.2++[(onceD l s.1 2).2])
theorem modeD_ok {l:List Int} {c:Cr} (h:CrOk l c):CrOk l (modeD l c).1:=by
 unfold modeD;exact (pickD_ok h (by decide)).1
theorem modesD_ok {l:List Int}:∀(n:Nat) (s:Cr×List Int),CrOk l s.1→CrOk l (modesD l n s).1∧(modesD l n s).2.length=s.2.length+n
 |0,s,h=>⟨h,rfl⟩
 |n+1,s,h=>by
  have:=modesD_ok n ((modeD l s.1).1,s.2++[(modeD l s.1).2]) (modeD_ok h)
  exact ⟨this.1,by rw [modesD,this.2];simp;omega⟩
theorem onesD_ok {l:List Int}:∀(n:Nat) (s:Cr×List Bool),CrOk l s.1→CrOk l (onesD l n s).1∧(onesD l n s).2.length=s.2.length+n
 |0,s,h=>⟨h,rfl⟩
 |n+1,s,h=>by
  have:=onesD_ok n ((onceD l s.1 2).1,s.2++[(onceD l s.1 2).2]) (onceD_ok 2 h)
  exact ⟨this.1,by rw [onesD,this.2];simp;omega⟩
structure Op6 where
 q:Int
 b:Bool
 d:Bool
 lens:List Int
 ms:List Int
 es:List Bool
abbrev quant7:List Int:=[0,0,6,12,24,36,51]
def optD (l:List Int) (c:Cr):Cr×Op6:=
 let q:=pickD l c quant7
 let b:=onceD l q.1 4
 let d:=onceD l b.1 2
 let e:=l8D l d.1
 let n:=belowD l e.1 5
 let m:=modesD l n.2.toNat (n.1,[])
 let k:=belowD l m.1 4
 let s:=onesD l k.2.toNat (k.1,[])
 (s.1,⟨q.2,b.2,d.2,e.2,m.2,s.2⟩)
abbrev OpOwn (o:Op6):AV:=.agg [I o.q,B o.b,B o.d,.own 1 0 0 o.lens.length,.own 2 0 0 o.ms.length,.own 3 0 0 o.es.length]
instance l27Options_p:ConP 191 (∀ (v:Value) (l:List Int) (c:Cr),CrOk l c→Pn 191 v l c [] (optD l c).1 [XI (optD l c).2.lens,XI (optD l c).2.ms,⟨bools (optD l c).2.es,0,1,some 4⟩] (OpOwn (optD l c).2)):=⟨fun v l c h=>by
 have hq:=pickD_ok (xs:=quant7) h (by decide)
 have hb:=onceD_ok 4 hq.1
 have hd:=onceD_ok 2 hb
 have h8:=l8D_ok hd
 have hn:=belowD_ok 5 h8.1
 have hn0:=hn.2.1
 have hn1:=hn.2.2.1 (by decide)
 have hm:=modesD_ok (l:=l) (belowD l (l8D l (onceD l (onceD l (pickD l c quant7).1 4).1 2).1).1 5).2.toNat ((belowD l (l8D l (onceD l (onceD l (pickD l c quant7).1 4).1 2).1).1 5).1,[]) hn.1
 have hm0:=hm.1
 have hm1:=hm.2
 have hk:=belowD_ok 4 hm0
 have hk0:=hk.2.1
 have hk1:=hk.2.2.1 (by decide)
 have hs:=onesD_ok (l:=l) (belowD l (modesD l (belowD l (l8D l (onceD l (onceD l (pickD l c quant7).1 4).1 2).1).1 5).2.toNat ((belowD l (l8D l (onceD l (onceD l (pickD l c quant7).1 4).1 2).1).1 5).1,[])).1 4).2.toNat ((belowD l (modesD l (belowD l (l8D l (onceD l (onceD l (pickD l c quant7).1 4).1 2).1).1 5).2.toNat ((belowD l (l8D l (onceD l (onceD l (pickD l c quant7).1 4).1 2).1).1 5).1,[])).1 4).1,[]) hk.1
 show Pn _ v l c [] _ [XI _,XI _,⟨bools _,0,1,_⟩] (OpOwn _)
 unfold optD
 simp only
 generalize hS:onesD l _ _=S at hs ⊢
 refine FnP.of_body tabOk Tryz.func191 Tryz.ntmps191 rfl (by decide +kernel) (by simp) rfl rfl rfl fun G hp=>?_
 refine go (r:=?_);and_intros<;>intros<;>try exact True.intro
 all_goals first|exact h.1|exact h.2.1|exact h.2.2|exact hq.1.2.1|exact hq.1.2.2|exact hb.2.1|exact hb.2.2|exact hd.2.1|exact hd.2.2|exact h8.1.2.1|exact h8.1.2.2|decide|skip
 generalize hM:modesD l _ _=M at*
 generalize (pickD l c quant7).2=q0
 generalize (onceD l (onceD l (pickD l c quant7).1 4).1 2).2=d0
 generalize (onceD l (pickD l c quant7).1 4).2=b0
 generalize (l8D l (onceD l (onceD l (pickD l c quant7).1 4).1 2).1).2=L0
 generalize belowD l (l8D l (onceD l (onceD l (pickD l c quant7).1 4).1 2).1).1 5=n0 at*
 refine WpA.loop (fun x:Nat×Cr×List Int=>⟨[(0,.ptr 0 0 0),(2,.ptr 1 0 0),(3,.ptr 4 0 0),(4,I x.1)],[CurO v x.2.1,⟨[I 0,B false,B false,.nilS,.nilS,.nilS],0,0,none⟩,XI quant7,XI L0,⟨[I q0,B b0,B d0,.own 3 0 0 L0.length,.own 5 0 0 x.2.2.length,.nilS],0,0,none⟩,XI x.2.2]⟩) (fun x=>CrOk l x.2.1∧modesD l x.1 x.2=M∧x.1+x.2.2.length≤5) (fun x=>x.1) (n0.2.toNat,n0.1,[]) ?_ ?_ ?_
 ·exact ⟨hn.1,hM,by show _+0≤_;omega⟩
 ·have ez:((n0.2.toNat:Nat):Int)=n0.2:=by omega
  simp only [ez]
  exact Weak.nil1 (by first|(show 0≤_;exact Nat.zero_le _)|(repeat' (first|exact RzT.nil|refine RzT.cons ?_ ?_|exact Rz.nil|refine Rz.keep rfl rfl ?_|refine Rz.own rfl rfl rfl rfl rfl (by first|rfl|omega|(simp;done)) ?_|refine Rz.ptr rfl rfl rfl rfl ?_|refine Rz.nilO rfl rfl rfl (by first|rfl|omega|(simp;done)) ?_|refine Rz.agg ?_ ?_|exact RzO.last rfl|(refine RzO.cons ?_ (.inr rfl) ?_)|exact Rz.same rfl (still_ints _)|exact Rz.same rfl (still_rows (fun _=>rfl) _)))) (by first|(show 0≤_;exact Nat.zero_le _)|(repeat' (first|exact RzT.nil|refine RzT.cons ?_ ?_|exact Rz.nil|refine Rz.keep rfl rfl ?_|refine Rz.own rfl rfl rfl rfl rfl (by first|rfl|omega|(simp;done)) ?_|refine Rz.ptr rfl rfl rfl rfl ?_|refine Rz.nilO rfl rfl rfl (by first|rfl|omega|(simp;done)) ?_|refine Rz.agg ?_ ?_|exact RzO.last rfl|(refine RzO.cons ?_ (.inr rfl) ?_)|exact Rz.same rfl (still_ints _)|exact Rz.same rfl (still_rows (fun _=>rfl) _)))) (Nat.le_of_ble_eq_true rfl)
 ·rintro ⟨k,c1,ms⟩ ⟨hc1,hM1,hlen⟩
  simp only at hc1 hM1 hlen ⊢
  have hmk:=modeD_ok hc1
  by_cases hkz:k=0
  ·subst hkz
   have hMe:(c1,ms)=M:=hM1
   subst hMe
   refine go (r:=?_);and_intros<;>intros<;>try exact True.intro
   all_goals first|exact hc1.2.1|exact hc1.2.2|skip
   generalize belowD l c1 4=n1 at*
   refine WpA.loop (fun x:Nat×Cr×List Bool=>⟨[(0,.ptr 0 0 0),(2,.ptr 1 0 0),(3,.ptr 4 0 0),(5,I x.1)],[CurO v x.2.1,⟨[I 0,B false,B false,.nilS,.nilS,.nilS],0,0,none⟩,XI quant7,XI L0,⟨[I q0,B b0,B d0,.own 3 0 0 L0.length,.own 5 0 0 ms.length,.own 6 0 0 x.2.2.length],0,0,none⟩,XI ms,⟨bools x.2.2,0,1,some 4⟩]⟩) (fun x=>CrOk l x.2.1∧onesD l x.1 x.2=S∧x.1+x.2.2.length≤4) (fun x=>x.1) (n1.2.toNat,n1.1,[]) ?_ ?_ ?_
   ·exact ⟨hk.1,hS,by show _+0≤_;omega⟩
   ·have ez:((n1.2.toNat:Nat):Int)=n1.2:=by omega
    simp only [ez]
    exact Weak.nil1 (by first|(show 0≤_;exact Nat.zero_le _)|(repeat' (first|exact RzT.nil|refine RzT.cons ?_ ?_|exact Rz.nil|refine Rz.keep rfl rfl ?_|refine Rz.own rfl rfl rfl rfl rfl (by first|rfl|omega|(simp;done)) ?_|refine Rz.ptr rfl rfl rfl rfl ?_|refine Rz.nilO rfl rfl rfl (by first|rfl|omega|(simp;done)) ?_|refine Rz.agg ?_ ?_|exact RzO.last rfl|(refine RzO.cons ?_ (.inr rfl) ?_)|exact Rz.same rfl (still_ints _)|exact Rz.same rfl (still_rows (fun _=>rfl) _)))) (by first|(show 0≤_;exact Nat.zero_le _)|(repeat' (first|exact RzT.nil|refine RzT.cons ?_ ?_|exact Rz.nil|refine Rz.keep rfl rfl ?_|refine Rz.own rfl rfl rfl rfl rfl (by first|rfl|omega|(simp;done)) ?_|refine Rz.ptr rfl rfl rfl rfl ?_|refine Rz.nilO rfl rfl rfl (by first|rfl|omega|(simp;done)) ?_|refine Rz.agg ?_ ?_|exact RzO.last rfl|(refine RzO.cons ?_ (.inr rfl) ?_)|exact Rz.same rfl (still_ints _)|exact Rz.same rfl (still_rows (fun _=>rfl) _)))) (Nat.le_of_ble_eq_true rfl)
   ·rintro ⟨k,c2,es⟩ ⟨hc2,hS1,hlen2⟩
    simp only at hc2 hS1 hlen2 ⊢
    have hok:=onceD_ok 2 hc2
    by_cases hkz:k=0
    ·subst hkz
     have hSe:(c2,es)=S:=hS1
     subst hSe
     refine go (r:=?_);and_intros<;>intros<;>try exact True.intro
     exact FinG.oI [some 0,some 3,some 5,some 6] rfl (ResV.cell (ds:=[_,_,_,_,_,_]) rfl rfl rfl rfl rfl) (.agg (.keep rfl rfl rfl (.keep rfl rfl rfl (.keep rfl rfl rfl (.own rfl rfl rfl rfl (.own rfl rfl rfl rfl (.own rfl rfl rfl rfl .nil)))))) .nil) (.obj rfl rfl rfl rfl rfl (.inr rfl) (.obj rfl rfl (still_ints _) rfl rfl (.inr rfl) (.obj rfl rfl (still_ints _) rfl rfl (.inr rfl) (.obj rfl rfl (still_bools _) rfl rfl (.inr rfl) .nil)))) rfl rfl
    ·have hE:onesD l (k-1) ((onceD l c2 2).1,es++[(onceD l c2 2).2])=S:=by
      obtain ⟨j,rfl⟩:∃j,k=j+1:=⟨k-1,by omega⟩
      exact hS1
     refine goR (r:=?_);and_intros<;>intros<;>try exact True.intro
     ·apply WpA.regionQF (O:=[]) (Or:=[CurO v c2,⟨[I 0,B false,B false,.nilS,.nilS,.nilS],0,0,none⟩,XI quant7,XI L0,⟨[I q0,B b0,B d0,.own 3 0 0 L0.length,.own 5 0 0 ms.length,.own 6 0 0 es.length],0,0,none⟩,XI ms,⟨bools es,0,1,some 4⟩]) (O1:=[CurO v (onceD l c2 2).1,⟨[I 0,B false,B false,.nilS,.nilS,.nilS],0,0,none⟩,XI quant7,XI L0,⟨[I q0,B b0,B d0,.own 3 0 0 L0.length,.own 5 0 0 ms.length,.own 6 0 0 es.length],0,0,none⟩,XI ms,⟨bools (es++[(onceD l c2 2).2]),1,1,some 4⟩,⟨bools [(onceD l c2 2).2],1,1,some 4⟩,deadO]) 7 1 [4] rfl mixed (by decide +kernel)
      ·exact rfl
      ·apply HeadQ.consF .none rfl
       ·exact rfl
       ·intro Tv Ov hc hp hd hk
        obtain ⟨x0,x1,x2,x3,R,rfl⟩:=split5 (hk 4 rfl)
        exact in1
       ·exact rfl
       ·exact rfl
       apply HeadQ.consF .none rfl
       ·exact rfl
       ·intro Tv Ov hc hp hd hk
        obtain ⟨x0,x1,x2,x3,R,rfl⟩:=split5 (hk 4 rfl)
        exact in1
       ·exact rfl
       ·exact rfl
       apply HeadQ.consF .none rfl
       ·exact rfl
       ·exact in1
       ·exact rfl
       ·exact rfl
       apply HeadQ.consF (V:=B (onceD l c2 2).2) (.step 0 (CurO v (onceD l c2 2).1)) rfl
       ·exact rfl
       ·intro Tv Ov hc hp' hd hk
        obtain ⟨R,rfl⟩:=split1 (hp' 0 _ rfl)
        refine K.call ?_
        refine K.conP (fun hcon=>?_)
        refine WpL.callP1 (hcon v l c2 2 hc2) hp handA handOA rfl (.cons rfl (.sc (.sc (.sc .nil))) .nil) (by decide) ?_
        exact WpL.nil (Only.mk rfl)
       ·exact rfl
       ·exact rfl
       apply HeadQ.consF (V:=.own 7 1 0 1) (.put 7 (⟨bools [(onceD l c2 2).2],1,1,some 4⟩)) rfl
       ·exact rfl
       ·intro Tv Ov hc hp hd hk
        refine WpL.litF (cs:=bools [(onceD l c2 2).2]) tabOk rfl rfl rfl rfl (by decide) (by rw [nid_len,Nat.zero_add]) (by decide) ?_
        apply WpL.putNil (p:=7)
        ·exact hp 7 _ rfl
        ·exact Nat.le_of_ble_eq_true rfl
        ·exact rfl
        ·first|exact still_ints _|exact still_rows (fun _=>rfl) _|rfl
       ·exact rfl
       ·exact rfl
       apply HeadQ.consF (V:=.own 6 1 0 (es.length+1)) (.step 6 ⟨bools (es++[(onceD l c2 2).2]),1,1,some 4⟩) rfl
       ·exact rfl
       ·intro Tv Ov hc hp hd hk
        refine WpL.appBools tabOk rfl rfl (fill_at (O:=[]) (hp 6 _ rfl)) (Nat.le_of_ble_eq_true rfl) rfl (srcB_own (fill_at (O:=[]) (hd 4 _ 7 _ (by decide) rfl rfl)) rfl) rfl rfl (by omega) (by decide) ?_
        exact WpL.nil (Only.mk (congrArg (St.mk _) (step_eq (O:=[]) Ov (p:=6) _)))
       ·exact rfl
       ·exact rfl
       apply HeadQ.consF .none rfl
       ·exact rfl
       ·intro Tv Ov hc hp hd hk
        obtain ⟨x0,x1,x2,x3,R,rfl⟩:=split5 (hk 4 rfl)
        exact in1
       ·exact rfl
       ·exact rfl
       exact HeadQ.nil
      ·exact rfl
      ·exact rfl
      ·exact rfl
      ·exact rfl
      ·exact rfl
      ·exact rfl
      ·exact rfl
      refine go (r:=?_);and_intros<;>intros<;>try exact True.intro
      have e1:((k-1:Nat):Int)=(k:Int)-1:=by omega
      have e2:(es++[(onceD l c2 2).2]).length=es.length+1:=by simp
      refine Rnd.go (k-1,(onceD l c2 2).1,es++[(onceD l c2 2).2]) ?_ ?_ ?_
      ·exact ⟨hok,hE,by simp only [e2];omega⟩
      ·show k-1<k;omega
      ·simp only [e1,e2]
       exact Weak.mk (.cons (.ptr rfl rfl rfl rfl .nil) (.cons (.ptr rfl rfl rfl rfl .nil) (.cons (.ptr rfl rfl rfl rfl .nil) (.cons (.keep rfl rfl .nil) .nil)))) (.cons (Re.same rfl rfl) (.inr rfl) (.cons (Re.same rfl rfl) (.inr rfl) (.cons (Re.same rfl rfl) (.inr rfl) (.cons (Re.same rfl (still_ints _)) (.inr rfl) (.cons (.keep rfl rfl (.keep rfl rfl (.keep rfl rfl (.own rfl rfl rfl rfl rfl rfl (.own rfl rfl rfl rfl rfl rfl (.own rfl rfl rfl rfl rfl rfl .nil)))))) (.inr rfl) (.cons (Re.same rfl (still_ints _)) (.inr rfl) (.cons (Re.same rfl (still_bools _)) (.inr rfl) .nil))))))) (Nat.le_of_ble_eq_true rfl)
  ·have hE:modesD l (k-1) ((modeD l c1).1,ms++[(modeD l c1).2])=M:=by
    obtain ⟨j,rfl⟩:∃j,k=j+1:=⟨k-1,by omega⟩
    exact hM1
   refine goR (r:=?_);and_intros<;>intros<;>try exact True.intro
   ·apply WpA.regionQF (O:=[]) (Or:=[CurO v c1,⟨[I 0,B false,B false,.nilS,.nilS,.nilS],0,0,none⟩,XI quant7,XI L0,⟨[I q0,B b0,B d0,.own 3 0 0 L0.length,.own 5 0 0 ms.length,.nilS],0,0,none⟩,XI ms]) (O1:=[CurO v (modeD l c1).1,⟨[I 0,B false,B false,.nilS,.nilS,.nilS],0,0,none⟩,XI quant7,XI L0,⟨[I q0,B b0,B d0,.own 3 0 0 L0.length,.own 5 0 0 ms.length,.nilS],0,0,none⟩,⟨ints (ms++[(modeD l c1).2]),1,1,some 3⟩,⟨ints [(modeD l c1).2],1,1,some 3⟩,deadO]) 7 1 [4] rfl mixed (by decide +kernel)
    ·exact rfl
    ·apply HeadQ.consF .none rfl
     ·exact rfl
     ·intro Tv Ov hc hp hd hk
      obtain ⟨x0,x1,x2,x3,R,rfl⟩:=split5 (hk 4 rfl)
      exact in1
     ·exact rfl
     ·exact rfl
     apply HeadQ.consF .none rfl
     ·exact rfl
     ·intro Tv Ov hc hp hd hk
      obtain ⟨x0,x1,x2,x3,R,rfl⟩:=split5 (hk 4 rfl)
      exact in1
     ·exact rfl
     ·exact rfl
     apply HeadQ.consF .none rfl
     ·exact rfl
     ·exact in1
     ·exact rfl
     ·exact rfl
     apply HeadQ.consF (V:=I (modeD l c1).2) (.step 0 (CurO v (modeD l c1).1)) rfl
     ·exact rfl
     ·intro Tv Ov hc hp' hd hk
      obtain ⟨R,rfl⟩:=split1 (hp' 0 _ rfl)
      refine K.call ?_
      refine K.conP (fun hcon=>?_)
      refine WpL.callP1 (hcon v l c1 hc1) hp handA handOA rfl (.cons rfl (.sc (.sc (.sc .nil))) .nil) (by decide) ?_
      exact WpL.nil (Only.mk rfl)
     ·exact rfl
     ·exact rfl
     apply HeadQ.consF (V:=.own 6 1 0 1) (.put 6 (⟨ints [(modeD l c1).2],1,1,some 3⟩)) rfl
     ·exact rfl
     ·intro Tv Ov hc hp hd hk
      refine WpL.litInts tabOk rfl rfl rfl rfl rfl (by decide) (by rw [nid_len,Nat.zero_add]) (by decide) ?_
      apply WpL.putNil (p:=6)
      ·exact hp 6 _ rfl
      ·exact Nat.le_of_ble_eq_true rfl
      ·exact rfl
      ·first|exact still_ints _|exact still_rows (fun _=>rfl) _|rfl
     ·exact rfl
     ·exact rfl
     apply HeadQ.consF (V:=.own 5 1 0 (ms.length+1)) (.step 5 ⟨ints (ms++[(modeD l c1).2]),1,1,some 3⟩) rfl
     ·exact rfl
     ·intro Tv Ov hc hp hd hk
      refine WpL.appInts tabOk rfl rfl (fill_at (O:=[]) (hp 5 _ rfl)) (Nat.le_of_ble_eq_true rfl) rfl (srcB_own (fill_at (O:=[]) (hd 4 _ 6 _ (by decide) rfl rfl)) rfl) rfl rfl (by omega) (by decide) ?_
      exact WpL.nil (Only.mk (congrArg (St.mk _) (step_eq (O:=[]) Ov (p:=5) _)))
     ·exact rfl
     ·exact rfl
     apply HeadQ.consF .none rfl
     ·exact rfl
     ·intro Tv Ov hc hp hd hk
      obtain ⟨x0,x1,x2,x3,R,rfl⟩:=split5 (hk 4 rfl)
      exact in1
     ·exact rfl
     ·exact rfl
     exact HeadQ.nil
    ·exact rfl
    ·exact rfl
    ·exact rfl
    ·exact rfl
    ·exact rfl
    ·exact rfl
    ·exact rfl
    refine go (r:=?_);and_intros<;>intros<;>try exact True.intro
    have e1:((k-1:Nat):Int)=(k:Int)-1:=by omega
    have e2:(ms++[(modeD l c1).2]).length=ms.length+1:=by simp
    refine Rnd.go (k-1,(modeD l c1).1,ms++[(modeD l c1).2]) ?_ ?_ ?_
    ·exact ⟨hmk,hE,by simp only [e2];omega⟩
    ·show k-1<k;omega
    ·simp only [e1,e2]
     exact Weak.mk (.cons (.ptr rfl rfl rfl rfl .nil) (.cons (.ptr rfl rfl rfl rfl .nil) (.cons (.ptr rfl rfl rfl rfl .nil) (.cons (.keep rfl rfl .nil) .nil)))) (.cons (Re.same rfl rfl) (.inr rfl) (.cons (Re.same rfl rfl) (.inr rfl) (.cons (Re.same rfl rfl) (.inr rfl) (.cons (Re.same rfl (still_ints _)) (.inr rfl) (.cons (.keep rfl rfl (.keep rfl rfl (.keep rfl rfl (.own rfl rfl rfl rfl rfl rfl (.own rfl rfl rfl rfl rfl rfl (.keep rfl rfl .nil)))))) (.inr rfl) (.cons (Re.same rfl (still_ints _)) (.inr rfl) .nil)))))) (Nat.le_of_ble_eq_true rfl)⟩
end Go.Proofs.YtainhhfnnclfiaaGreat


namespace Go.Abs
open Go
structure Moves (k base:Nat) (V W:AV):Prop where
 rel:∀{S S3:Nat→Prop} {w:World} {ι ι3:Nat→Spot} {O O3:List AObj} {x:Value},(∀ id,k≤id→ι3 (id-k+base)=ι id)→(∀ id ob,k≤id→O[id]?=some ob→O3[id-k+base]?=some ob)→VRel S w ι O V x []→VRel S3 w ι3 O3 W x []
theorem Moves.ptr {k base id ep off:Nat} (h:k≤id):Moves k base (.ptr id ep off) (.ptr (id-k+base) ep off):=by
 refine ⟨fun h1 h2 hv=>?_⟩
 cases hv with
 |ptr a b c r=>cases r;exact .ptr (h2 _ _ h a) b (fun e=>by rw [h1 _ h];exact c e) .nil
section
variable {P:Program} {n m:Nat} {G:Ctx} {T:List (Nat×AV)} {O:List AObj} {Q:Exit→St→Prop} {ops:Array Oper} {l:List Oper} {tt:TypeId} {pos:String} {after:Array Edge} {tab:List (Nat×Ty)}
theorem callXm_rel {β:Type} {f:FuncId} {xs:List Operand} {As:List AV} {M:List AObj} {MX NX:β→List AObj} {rX rX':β→AV} {C:β→Prop} {hs:List Nat} {pv:List Value} {pa:List AV} (hc:FnX P f As M pv pa β C MX NX rX) (hp:Pin G pv pa) (hh:Hand O hs (xs.map (av T)) As) (hM:HandO O hs M) (hnd:hs.Nodup) (hlenX:∀y,(MX y).length=M.length)
 (hszX:∀(y:β) (j:Nat) (a b:AObj),M[j]?=some a→(MX y)[j]?=some b→b.size=a.size) (hMX':∀y,Out (MX y)) (hNX:∀y,Out (NX y)) (hreX:∀y,Moves M.length O.length (rX y) (rX' y)) {a:Act} {w:World} (hr:Rel n m G ⟨T,O⟩ a w):
 Calls P f (xs.map a.eval).toArray w fun e w'=>∃y,C y∧∃v,e=.returned v∧∃S ι F,RelAt n m G S ι F ⟨T,newO hs (MX y) 0 O++NX y⟩ a w'∧VRel S w' ι (newO hs (MX y) 0 O++NX y) (rX' y) v []:=by
 obtain ⟨S,ι,F,hr⟩:=hr
 obtain ⟨⟨fn,hf,hb,hnm⟩,hcall⟩:=hc
 obtain ⟨hlM,hatM⟩:=hM.at
 let S2:Nat→Prop:=fun b=>b<w.heap.size∧∀id∈hs,b ∉ F id
 let ιM:Nat→Spot:=fun j=>match hs[j]? with|some id=>ι id|none=>none
 let FM:Nat→List Nat:=fun j=>match hs[j]? with|some id=>F id|none=>[]
 have hιM:∀(j id:Nat),hs[j]?=some id→ιM j=ι id:=fun j id h=>by show (match hs[j]? with|some id=>ι id|none=>none)=_;rw [h]
 have hFM:∀(j id:Nat),hs[j]?=some id→FM j=F id:=fun j id h=>by show (match hs[j]? with|some id=>F id|none=>[])=_;rw [h]
 have hidl:∀(j id:Nat),hs[j]?=some id→id<O.length:=fun j id h=>by
  have hj:j<M.length:=by rw [←hlM];exact (List.getElem?_eq_some_iff.1 h).1
  obtain ⟨id',ob,e1,e2,_⟩:=hatM j _ (List.getElem?_eq_getElem hj)
  rw [h] at e1;cases e1;exact (List.getElem?_eq_some_iff.1 e2).1
 have hmem:∀id∈hs,∃j,j<M.length∧hs[j]?=some id:=fun id h=>by
  obtain ⟨j,hj,e⟩:=List.getElem_of_mem h
  exact ⟨j,by omega,by rw [List.getElem?_eq_getElem hj,e]⟩
 have hex:∀j,j<M.length→∃id,hs[j]?=some id:=fun j hj=>⟨hs[j],List.getElem?_eq_getElem (by omega)⟩
 have hSS:∀b,S b→S2 b:=fun b hb=>⟨hr.stable b hb,fun id hid hbf=>by
  obtain ⟨j,hj,e⟩:=hmem id hid
  exact (hr.foot id (hidl j id e) b hbf).2.1 hb⟩
 have hOM:ORel S2 w ιM M FM:=by
  refine ⟨fun j mb hj=>?_,fun j hj=>?_,fun i j hi hj hij b hb=>?_⟩
  ·obtain ⟨id,ob,e1,e2,e3,e4,e5,e6,e7⟩:=hatM j mb hj
   rw [hιM j id e1,hFM j id e1]
   have ho:=hr.objs.obj id ob e2
   unfold ObjAt at ho ⊢
   cases hs':ι id with
   |none=>rw [hs'] at ho;rw [←e3];exact ho
   |some p=>
    obtain ⟨b,k⟩:=p
    rw [hs'] at ho
    obtain ⟨cur',t',fz',f2,q1,q2,q3,q4,q5,q6,q7⟩:=ho
    refine ⟨cur',t',fz',f2,q1,q2,q3,by rw [←e3];exact q4,q5,fun e he=>?_,?_⟩
    ·rcases e7 with e7|e7
     ·rw [e7] at he;cases he
     ·exact q6 e (by rw [←e7];exact he)
    ·rw [←e3]
     exact still_all (by rw [e3];exact e4) q7 hSS (fun _ _=>rfl) (fun _ _=>rfl)
  ·obtain ⟨id,e⟩:=hex j hj
   rw [hFM j id e];exact hr.objs.nodup id (hidl j id e)
  ·obtain ⟨id1,e1⟩:=hex i hi
   obtain ⟨id2,e2⟩:=hex j hj
   rw [hFM i id1 e1] at hb;rw [hFM j id2 e2]
   exact hr.objs.apart id1 id2 (hidl i id1 e1) (hidl j id2 e2) (fun e=>hij (nodup_get hnd e1 (e▸e2))) b hb
 have hl:=hr.evals xs
 obtain ⟨f',hl2,hf'⟩:=hh.rel (S2:=S2) (ιM:=ιM) hM hιM hSS hr.objs (fun b h1 h2=>⟨h1,h2⟩) (fun id hid=>by obtain ⟨j,hj,e⟩:=hmem id hid;exact hidl j id e) hl (by simp)
 have hf0:f'=[]:=List.eq_nil_iff_forall_not_mem.2 fun b hb=>by simpa using hf' b hb
 subst hf0
 refine (hcall w S2 ιM FM (xs.map a.eval) (fun b h=>h.1) hOM (fun j hj b hb=>?_) hl2 (hp.at hr hSS [] (fun _=>none))).mono fun e w' he=>?_
 ·obtain ⟨id,e⟩:=hex j hj
  rw [hFM j id e] at hb
  exact ⟨fun h=>h.2 id (List.mem_of_getElem? e) hb,(hr.foot id (hidl j id e) b hb).2.2⟩
 obtain ⟨y,hy,v,S',ι',F',rfl,hS1,hS2,hS3,hι',hO',hF',hv,hk⟩:=he
 refine ⟨y,hy,v,rfl,?_⟩
 have hlen:=hlenX y
 have hsz:=hszX y
 have hM':=hMX' y
 have hN:=hNX y
 have hre:=hreX y
 generalize MX y=M' at hlen hsz hM' hO' hF' hv ⊢
 generalize NX y=N at hN hO' hF' hv ⊢
 generalize rX y=r at hre hv
 generalize rX' y=r' at hre ⊢
 have hold:∀b,b<w.heap.size→(∀ id∈hs,b ∉ F id)→w'.heap[b]?=w.heap[b]?:=fun b hb hn=>hk.block b hb (by
  rintro ⟨i,hi,hbf⟩
  obtain ⟨id,e⟩:=hex i hi
  rw [hFM i id e] at hbf
  exact hn id (List.mem_of_getElem? e) hbf)
 let S3:Nat→Prop:=fun b=>S b∨(S' b∧w.heap.size≤b)
 let ι3:Nat→Spot:=fun i=>if i<O.length then ι i else ι' (M.length+(i-O.length))
 let F3:Nat→List Nat:=fun i=>if i<O.length then (match findN hs i 0 with|some j=>F' j|none=>F i) else F' (M.length+(i-O.length))
 let O3:=newO hs M' 0 O++N
 have hl3:(newO hs M' 0 O).length=O.length:=newO_len hs M' 0 O
 have hO3lt:∀i,i<O.length→O3[i]?=(O[i]?).map (newOb hs M' i):=fun i hi=>by
  show (newO hs M' 0 O++N)[i]?=_
  rw [List.getElem?_append_left (by omega),newO_at,Nat.zero_add]
 have hO3ge:∀i,O.length≤i→O3[i]?=N[i-O.length]?:=fun i hi=>by
  show (newO hs M' 0 O++N)[i]?=_
  rw [List.getElem?_append_right (by omega),hl3]
 have hob:∀i ob,O[i]?=some ob→(newOb hs M' i ob).ep=ob.ep∧(newOb hs M' i ob).size=ob.size:=fun i ob h=>by
  unfold newOb
  cases hfd:findN hs i 0 with
  |none=>exact ⟨rfl,rfl⟩
  |some j=>
   cases hmj:M'[j]? with
   |none=>exact ⟨by simp [hmj],by simp [hmj]⟩
   |some mb=>
    obtain ⟨q,rfl,hq⟩:=findN_some hfd
    rw [Nat.zero_add] at hmj
    have hqm:q<M.length:=by rw [←hlM];exact (List.getElem?_eq_some_iff.1 hq).1
    obtain ⟨id',ob',e1,e2,_,_,_,e6,_⟩:=hatM q _ (List.getElem?_eq_getElem hqm)
    rw [hq] at e1;cases e1
    rw [h] at e2;cases e2
    simp only [Nat.zero_add,hmj,true_and]
    exact (hsz q _ _ (List.getElem?_eq_getElem hqm) hmj).trans e6
 have hlat:Later S w ι O S3 w' ι3 O3:=by
  refine ⟨fun b h=>.inl h,fun b hb=>hold b (hr.stable b hb) (hSS b hb).2,fun id ob h=>?_⟩
  have hlt:id<O.length:=(List.getElem?_eq_some_iff.1 h).1
  obtain ⟨h1,h2⟩:=hob id ob h
  exact ⟨newOb hs M' id ob,by rw [hO3lt id hlt,h];rfl,.inr ⟨h1,h2,by show (if _ then _ else _)=_;rw [if_pos hlt]⟩⟩
 have hF3f:∀(i j:Nat),i<O.length→findN hs i 0=some j→F3 i=F' j:=fun i j hi h=>by show (if _ then _ else _)=_;rw [if_pos hi,h]
 have hF3n:∀(i:Nat),i<O.length→findN hs i 0=none→F3 i=F i:=fun i hi h=>by show (if _ then _ else _)=_;rw [if_pos hi,h]
 have hF3g:∀(i:Nat),O.length≤i→F3 i=F' (M.length+(i-O.length)):=fun i hi=>by show (if _ then _ else _)=_;rw [if_neg (by omega)]
 have hlMN:(M'++N).length=M.length+N.length:=by rw [List.length_append,hlen]
 have hfind:∀(i j:Nat),findN hs i 0=some j→j<M.length∧hs[j]?=some i:=fun i j h=>by
  obtain ⟨q,rfl,hq⟩:=findN_some h
  rw [Nat.zero_add]
  exact ⟨by rw [←hlM];exact (List.getElem?_eq_some_iff.1 hq).1,hq⟩
 have hl3':O3.length=O.length+N.length:=by show (newO hs M' 0 O++N).length=_;rw [List.length_append,hl3]
 have hsrc:∀k,k<(M'++N).length→∀b∈F' k,((∃ id,id∈hs∧id<O.length∧b∈F id)∨w.heap.size≤b)∧¬S' b∧b<w'.heap.size:=fun k hk' b hb=>by
  obtain ⟨q1,q2,q3⟩:=hF' k hk' b hb
  refine ⟨?_,q2,q3⟩
  rcases q1 with ⟨i,hi,hbf⟩|q1
  ·obtain ⟨id,e⟩:=hex i hi
   rw [hFM i id e] at hbf
   exact .inl ⟨id,List.mem_of_getElem? e,hidl i id e,hbf⟩
  ·exact .inr q1
 have hnoS:∀k,k<(M'++N).length→∀b∈F' k,(G.M0 b∨G.w0.heap.size≤b)∧¬S3 b∧b<w'.heap.size:=fun k hk' b hb=>by
  obtain ⟨q1,q2,q3⟩:=hsrc k hk' b hb
  rcases q1 with ⟨id,hid,hlt,hbf⟩|q1
  ·obtain ⟨p1,p2,p3⟩:=hr.foot id hlt b hbf
   refine ⟨p1,?_,q3⟩
   rintro (h|⟨h,_⟩)
   ·exact p2 h
   ·exact q2 h
  ·refine ⟨.inr (by have:=hr.keeps.size;omega),?_,q3⟩
   rintro (h|⟨h,_⟩)
   ·have:=hr.stable b h;omega
   ·exact q2 h
 have hnotin:∀i,i<O.length→findN hs i 0=none→∀b∈F i,w'.heap[b]?=w.heap[b]?:=fun i hi h b hb=>hold b (hr.foot i hi b hb).2.2 fun id hid hbf=>by
  obtain ⟨j,hj,e⟩:=hmem id hid
  have hne:i≠id:=by rintro rfl;exact findN_none h hid
  exact hr.objs.apart i id hi (hidl j id e) hne b hb hbf
 have hcells:∀{cs:List AV} {us g},cs.all AV.still=true→Loc cs→LRel S' w' ι' (M'++N) cs us g→LRel S3 w' ι3 O3 cs us g:=fun h1 h2 hl=>
  Loc.rel h2 (still_all (S':=S') h1 hl (fun _ h=>h) (fun _ _=>rfl) (fun _ _=>rfl))
 refine ⟨S3,ι3,F3,⟨hr.defers,hr.size,fun t=>(hr.tmps t).mono hlat (by simp),⟨fun i ob h=>?_,fun i h=>?_,fun i j hi hj hij b hb=>?_⟩,fun i h b hb=>?_,⟨fun b hb=>.inl (hr.base.1 b hb),?_⟩,?_,?_,fun i h=>?_,?_⟩,?_⟩
 ·have h:O3[i]?=some ob:=h
  by_cases hlt:i<O.length
  ·rw [hO3lt i hlt,List.getElem?_eq_getElem hlt] at h
   simp only [Option.map_some,Option.some.injEq] at h
   rw [show ι3 i=ι i from if_pos hlt]
   cases hfd:findN hs i 0 with
   |some j=>
    obtain ⟨hjm,hji⟩:=hfind i j hfd
    rw [hF3f i j hlt hfd]
    have hjM':j<M'.length:=by omega
    have hmb:M'[j]?=some M'[j]:=List.getElem?_eq_getElem hjM'
    have h':ob=⟨M'[j].cells,(O[i]).ep,M'[j].size,M'[j].ty⟩:=by
     rw [←h];unfold newOb;rw [hfd];simp only [hmb]
    have ho:=hO'.obj j M'[j] (by rw [List.getElem?_append_left hjM'];exact hmb)
    rw [hι' j hjm,hιM j i hji] at ho
    have hout:=hM'.at hmb
    rw [h']
    unfold ObjAt at ho ⊢
    cases hs':ι i with
    |none=>rw [hs'] at ho;exact ho
    |some p=>
     obtain ⟨b,k⟩:=p
     rw [hs'] at ho
     obtain ⟨cur',t',fz',f2,q1,q2,q3,q4,q5,q6,q7⟩:=ho
     exact ⟨cur',t',fz',f2,q1,q2,q3,q4,q5,q6,hcells hout.1 hout.2 q7⟩
   |none=>
    rw [hF3n i hlt hfd]
    have h':ob=O[i]:=by rw [←h];unfold newOb;rw [hfd]
    subst h'
    have ho:=hr.objs.obj i O[i] (List.getElem?_eq_getElem hlt)
    have key:=hnotin i hlt hfd
    unfold ObjAt at ho ⊢
    cases hs':ι i with
    |none=>rw [hs'] at ho;exact ho
    |some p=>
     obtain ⟨b,k⟩:=p
     rw [hs'] at ho
     obtain ⟨cur',t',fz',f2,q1,q2,q3,q4,q5,q6,q7⟩:=ho
     exact ⟨cur',t',fz',f2,q1,by rw [key b (by rw [q1];simp)];exact q2,q3,q4,q5,q6,q7.mono hlat fun b' hb'=>key b' (by rw [q1];simp [hb'])⟩
  ·rw [hO3ge i (by omega)] at h
   rw [show ι3 i=ι' (M.length+(i-O.length)) from if_neg hlt,hF3g i (by omega)]
   have ho:=hO'.obj (M.length+(i-O.length)) ob (by rw [List.getElem?_append_right (by omega),hlen,Nat.add_sub_cancel_left];exact h)
   have hout:=hN.at h
   unfold ObjAt at ho ⊢
   cases hs':ι' (M.length+(i-O.length)) with
   |none=>rw [hs'] at ho;exact ho
   |some p=>
    obtain ⟨b,k⟩:=p
    rw [hs'] at ho
    obtain ⟨cur',t',fz',f2,q1,q2,q3,q4,q5,q6,q7⟩:=ho
    exact ⟨cur',t',fz',f2,q1,q2,q3,q4,q5,q6,hcells hout.1 hout.2 q7⟩
 ·have h:i<O3.length:=h
  by_cases hlt:i<O.length
  ·cases hfd:findN hs i 0 with
   |some j=>rw [hF3f i j hlt hfd];exact hO'.nodup j (by have:=(hfind i j hfd).1;omega)
   |none=>rw [hF3n i hlt hfd];exact hr.objs.nodup i hlt
  ·rw [hF3g i (by omega)];exact hO'.nodup _ (by omega)
 ·have hi:i<O3.length:=hi
  have hj:j<O3.length:=hj
  have hpl:∀k,k<O3.length→(∃ q,q<(M'++N).length∧F3 k=F' q∧((q<M.length∧hs[q]?=some k)∨(O.length≤k∧q=M.length+(k-O.length))))∨(k<O.length∧findN hs k 0=none∧F3 k=F k):=fun k hk'=>by
   by_cases hlt:k<O.length
   ·cases hfd:findN hs k 0 with
    |some q=>obtain ⟨h1,h2⟩:=hfind k q hfd;exact .inl ⟨q,by omega,hF3f k q hlt hfd,.inl ⟨h1,h2⟩⟩
    |none=>exact .inr ⟨hlt,rfl,hF3n k hlt hfd⟩
   ·exact .inl ⟨_,by omega,hF3g k (by omega),.inr ⟨by omega,rfl⟩⟩
  have hcross:∀k q,k<O.length→findN hs k 0=none→q<(M'++N).length→∀b∈F k,b ∉ F' q:=fun k q hk' hn hq b hb hb'=>by
   rcases (hsrc q hq b hb').1 with ⟨id,hid,hlt,hbf⟩|h
   ·have hne:k≠id:=by rintro rfl;exact findN_none hn hid
    exact hr.objs.apart k id hk' hlt hne b hb hbf
   ·have:=(hr.foot k hk' b hb).2.2;omega
  rcases hpl i hi with ⟨q1,p1,p2,p3⟩|⟨p1,p2,p3⟩<;>rcases hpl j hj with ⟨q2,r1,r2,r3⟩|⟨r1,r2,r3⟩
  ·rw [p2] at hb;rw [r2]
   refine hO'.apart q1 q2 p1 r1 (fun e=>?_) b hb
   subst e
   rcases p3 with ⟨a1,a2⟩|⟨a1,a2⟩<;>rcases r3 with ⟨b1,b2⟩|⟨b1,b2⟩
   ·rw [a2] at b2;cases b2;exact hij rfl
   ·omega
   ·omega
   ·omega
  ·rw [p2] at hb;rw [r3];intro hb';exact hcross j q1 r1 r2 p1 b hb' hb
  ·rw [p3] at hb;rw [r2];exact hcross i q2 p1 p2 r1 b hb
  ·rw [p3] at hb;rw [r3];exact hr.objs.apart i j p1 r1 hij b hb
 ·have h:i<O3.length:=h
  by_cases hlt:i<O.length
  ·cases hfd:findN hs i 0 with
   |some j=>rw [hF3f i j hlt hfd] at hb;exact hnoS j (by have:=(hfind i j hfd).1;omega) b hb
   |none=>
    rw [hF3n i hlt hfd] at hb
    obtain ⟨q1,q2,q3⟩:=hr.foot i hlt b hb
    refine ⟨q1,?_,by have:=hk.size;omega⟩
    rintro (h'|⟨_,h'⟩)
    ·exact q2 h'
    ·omega
  ·rw [hF3g i (by omega)] at hb;exact hnoS _ (by omega) b hb
 ·rintro b (h'|⟨_,h'⟩)
  ·exact hr.base.2 b h'
  ·exact .inr (by have:=hr.keeps.size;omega)
 ·rintro b (h'|⟨h',_⟩)
  ·have:=hr.stable b h';have:=hk.size;omega
  ·exact hS3 b h'
 ·refine ⟨hk.os.trans hr.keeps.os,hk.tape.trans hr.keeps.tape,hk.output.trans hr.keeps.output,by have:=hr.keeps.size;have:=hk.size;omega,fun b hb hM0=>?_⟩
  rw [hold b (by have:=hr.keeps.size;omega) fun id hid hbf=>?_]
  ·exact hr.keeps.block b hb hM0
  ·obtain ⟨j,hj,e⟩:=hmem id hid
   rcases (hr.foot id (hidl j id e) b hbf).1 with h|h
   ·exact hM0 h
   ·omega
 ·have hm:m≤O.length:=hr.mle
  rw [show ι3 i=ι i from if_pos (by omega)];exact hr.spots i h
 ·have hm:m≤O.length:=hr.mle
  show m≤O3.length
  omega
 ·refine hre.rel (S:=S') (ι:=ι') (O:=M'++N) (fun id hid=>?_) (fun id ob hid h=>?_) hv
  ·show (if _ then _ else _)=_
   rw [if_neg (by omega)];congr 1;omega
  ·show O3[id-M.length+O.length]?=some ob
   rw [hO3ge _ (by omega),Nat.add_sub_cancel]
   rw [List.getElem?_append_right (by omega),hlen] at h
   exact h
theorem FnP.of_new (hP:TabOk P tab) {f:FuncId} {fn:Func} {c:Code} {args:List AV} {pv:List Value} {pa:List AV} {k t sz:Nat} {cells:List AV} {ty:Option TypeId} (hf:P.funcs[f]?=some fn) (hnt:fn.ntmps=k) (hb:fn.body=some c) (hnm:(fn.name== "runtime.NumGoroutine")=false)
 (hal:args.length≤k) (hres:fn.results=#[.tmp t]) (hps:pa.all AV.still=true) (hst:cells.all AV.still=true) (h:∀G,Pin G pv pa→WpA P k 0 G c ⟨enumT 0 args,[]⟩ (fun e σ=>endB e=true∧∃id ep ob,look σ.T t=.ptr id ep 0∧σ.O[id]?=some ob∧ob.ep=ep∧ob.cells=cells∧ob.size=sz∧(ty=none∨ty=ob.ty))):
 FnP P f args [] pv pa [] [⟨cells,0,sz,ty⟩] (.ptr 0 0 0):=by
 refine ⟨⟨fn,hf,by rw [hb];rfl,hnm⟩,fun w S ι F vs hS hO hF hl hpin=>?_⟩
 have hvl:vs.length=args.length:=hl.len.symm
 refine calls_of_wp hf hb ?_
 have hrel:Rel k 0 ⟨w,S,fun b=>∃i,i<([]:List AObj).length∧b∈F i,ι⟩ ⟨enumT 0 args,[]⟩ {tmps:=vs.toArray++Array.replicate (fn.ntmps-vs.toArray.size) undef,defers:=[]} w:=by
  refine ⟨S,ι,F,rfl,?_,fun t=>?_,hO,fun id hid b hb=>⟨.inl ⟨id,hid,hb⟩,hF id hid b hb⟩,⟨fun _ h=>h,fun _ h=>.inl h⟩,hS,Keeps.refl _ _,fun _ _=>rfl,Nat.zero_le _⟩
  ·simp [hnt];omega
  ·show VRel S w ι [] (look (enumT 0 args) t) _ []
   rw [look_enumT]
   simp only [Nat.zero_le,if_true,Nat.sub_zero]
   by_cases ht:t<args.length
   ·obtain ⟨x,g,hx,hV,hg⟩:=hl.get (List.getElem?_eq_getElem ht)
    have hg0:g=[]:=List.eq_nil_iff_forall_not_mem.2 fun b hb=>by simpa using hg b hb
    subst hg0
    have e1:args.getD t .any=args[t]:=by simp [ht]
    have e2:(vs.toArray++Array.replicate (fn.ntmps-vs.toArray.size) undef).getD t undef=x:=by
     have:t<vs.length:=by omega
     rw [List.getElem?_eq_getElem this] at hx
     simp only [Option.some.injEq] at hx
     simp [Array.getD_eq_getD_getElem?,Array.getElem?_append,this,hx]
    rw [e1,e2];exact hV
   ·have e1:args.getD t .any=.any:=by simp [List.getElem?_eq_none (Nat.le_of_not_lt ht)]
    rw [e1];exact .any .nil
 refine wp_mono (h ⟨w,S,fun b=>∃i,i<([]:List AObj).length∧b∈F i,ι⟩ ⟨hpin,hps,fun b hb=>⟨fun ⟨i,hi,hbf⟩=>(hF i hi b hbf).1 hb,hS b hb⟩⟩ _ _ hrel) fun e a' w' ⟨σ',hq,hr'⟩=>?_
 obtain ⟨he,id,ep,ob,h1,h2,h3,h4,h5,h6⟩:=hq
 obtain ⟨S2,ι2,F2,hr⟩:=hr'
 have hrun:(results fn a'.tmps).run P w'=.ok (a'.tmps.getD t undef) w':=run_results1 hres (by simp [resSem])
 have ht:=hr.tmps t
 rw [h1] at ht
 have hid:id<σ'.O.length:=(List.getElem?_eq_some_iff.1 h2).1
 have hobj:=hr.objs.obj id ob h2
 have hfin:∃v S' ι' F',a'.tmps.getD t undef=v∧(∀ b,S b→S' b)∧(∀ b,S' b→S b∨w.heap.size≤b)∧(∀ b,S' b→b<w'.heap.size)∧(∀ id,id<([]:List AObj).length→ι' id=ι id)∧ORel S' w' ι' ([]++[⟨cells,0,sz,ty⟩]) F'∧
  (∀ id,id<([]++[(⟨cells,0,sz,ty⟩:AObj)]).length→∀b∈F' id,((∃ i,i<([]:List AObj).length∧b∈F i)∨w.heap.size≤b)∧¬S' b∧b<w'.heap.size)∧VRel S' w' ι' ([]++[⟨cells,0,sz,ty⟩]) (.ptr 0 0 0) v []∧Keeps w (fun b=>∃i,i<([]:List AObj).length∧b∈F i) w':=by
  refine ⟨_,S2,fun j=>if j=0 then ι2 id else none,fun j=>if j=0 then F2 id else [],rfl,hr.base.1,hr.base.2,hr.stable,fun i hi=>by simp at hi,⟨fun i ob' hi=>?_,fun i hi=>?_,fun i j hi hj hij=>?_⟩,fun i hi b hb=>?_,?_,hr.keeps⟩
  ·cases i with
   |succ i=>simp at hi
   |zero=>
    simp at hi;subst hi
    simp only [if_true]
    unfold ObjAt at hobj ⊢
    cases hs:ι2 id with
    |none=>rw [hs,h4] at hobj;exact hobj
    |some p=>
     obtain ⟨b,kk⟩:=p
     rw [hs,h4] at hobj
     obtain ⟨cur',t',fz',f2,q1,q2,q3,q4,q5,q6,q7⟩:=hobj
     refine ⟨cur',t',fz',f2,q1,q2,q3,q4,q5,fun e he=>?_,still_all hst q7 (fun _ h=>h) (fun _ _=>rfl) (fun _ _=>rfl)⟩
     rcases h6 with h6|h6
     ·rw [h6] at he;cases he
     ·exact q6 e (by rw [←h6];exact he)
  ·have:i=0:=by simpa using hi
   subst this;simpa using hr.objs.nodup id hid
  ·have e1:i=0:=by simpa using hi
   have e2:j=0:=by simpa using hj
   omega
  ·have e1:i=0:=by simpa using hi
   subst e1
   obtain ⟨q1,q2,q3⟩:=hr.foot id hid b (by simpa using hb)
   exact ⟨q1,q2,q3⟩
  ·cases ht with
   |ptr a b c r=>rw [h2] at a;cases a;exact .ptr (ob:=⟨cells,0,sz,ty⟩) rfl (Nat.le_refl _) (fun _=>by simpa using c h3.symm) .nil
 obtain ⟨v,S',ι',F',hv,q⟩:=hfin
 cases e with
 |normal=>exact ⟨hr.defers,_,hrun,(),trivial,_,S',ι',F',rfl,hv▸q⟩
 |ret=>exact ⟨hr.defers,_,hrun,(),trivial,_,S',ι',F',rfl,hv▸q⟩
 |_=>cases he
theorem WpL.callN {f:FuncId} {xs:List Operand} {ats:Array TypeId} {As:List AV} {ob:AObj} {O2:List AObj} {pv:List Value} {pa:List AV} {base d:Nat} (hc:FnP P f As [] pv pa [] [ob] (.ptr 0 0 0)) (hp:Pin G pv pa) (hh:HandM O [] [] (xs.map (av T)) As) (hN:Out [ob]) (hb:cnt O.length 0=some base) (hO2:newF [] [] 0 O [ob]=some O2) (hn:d<n)
 (h:WpL P n m G false ops l ⟨(d,.ptr base 0 0)::T,O2⟩ Q):
 WpL P n m G false ops ({dst:=some d,op:=.call {callee:=.value (.func f),args:=xs.toArray,argTypes:=ats},type:=tt,pos:=pos,after:=after,guard:=none}::l) ⟨T,O⟩ Q:=by
 refine WpL.opX (β:=Unit) (C:=fun _=>True) (σX:=fun _=>⟨(d,.ptr base 0 0)::T,O2⟩) rfl (fun a w hr=>?_) (fun _ _=>h)
 have e2:=cnt_eq hb;rw [Nat.add_zero] at e2;subst e2
 have hcl:=callXm_rel hc hp hh .nil (by simp) (fun _=>rfl) (fun _ j x y hx hy=>by simp at hx) (fun _=>.nil) (fun _=>hN) (rX':=fun _=>.ptr O.length 0 0) (fun _=>by have:=Moves.ptr (k:=0) (base:=O.length) (id:=0) (ep:=0) (off:=0) (Nat.le_refl 0);rw [Nat.sub_zero,Nat.zero_add] at this;exact this) hr
 obtain ⟨⟨fn,hf,hbd,hnm⟩,_⟩:=hc
 have hex:(execOp a.eval {dst:=some d,op:=.call {callee:=.value (.func f),args:=xs.toArray,argTypes:=ats},type:=tt,pos:=pos,after:=after,guard:=none}).run P w=.ok (.enter f (xs.map a.eval).toArray) w:=by
  simp only [execOp,resolve,Act.eval,Deferred.ofValue,invoke,callFunc,Sem.run_bind,Sem.run_pure,Result.andThen_ok,program,Sem.run,hf,hnm,hbd,Bool.false_eq_true,if_false]
  simp
 unfold Oper.wp
 rw [hex]
 refine hcl.mono fun e' w' ⟨y,hy,v',he,S,ι,F,hr',hv⟩=>?_
 subst he
 rw [newF_eq hO2] at hr' hv
 exact ⟨y,hy,S,ι,F,hr'.put hn hv⟩
theorem FnC.of_pin {f:FuncId} {A:AV} {args:List AV} {N:List AObj} {r:AV} (h:∀v,FnP P f (.sc v::args) [] [v] [A] [] N r):FnC P f (A::args) N r:=by
 refine ⟨(h undef).1,fun w S vs hS hl=>?_⟩
 obtain ⟨v,vs',f1,f2,e,hv,hr,hf⟩:=hl.uncons
 obtain ⟨rfl,rfl⟩:f1=[]∧f2=[]:=by simpa using hf
 subst e
 refine ((h v).2 w S (fun _=>none) (fun _=>[]) (v::vs') hS ⟨fun id ob h=>by simp at h,fun id h=>by simp at h,fun i j h=>by simp at h⟩ (fun id h=>by simp at h) (.sc hr) (by simpa using LRel.cons hv .nil)).mono fun e w' ⟨y,_,v2,S',ι',F',h1,h2,h3,h4,h5,h6,h7,h8,h9⟩=>?_
 refine ⟨v2,S',ι',F',h1,h2,h3,h4,by simpa using h6,fun id hid b hb=>?_,by simpa using h8,?_⟩
 ·obtain ⟨q1,q2,q3⟩:=h7 id (by simpa using hid) b hb
  refine ⟨?_,q2,q3⟩
  rcases q1 with ⟨i,hi,_⟩|q1
  ·simp at hi
  ·exact q1
 ·have:(fun b=>∃i,i<([]:List AObj).length∧b∈((fun _=>[]):Nat→List Nat) i)=fun _=>False:=by
   funext b;simp
  rw [this] at h9;exact h9
end
end Go.Abs


namespace Go.Proofs.YtainhhfnnclfiaaGreat
open Go Go.Abs
attribute [local irreducible] WpA WpL Rnd Blk Abs.Seq Abs.Fin Abs.FinG FnC FnG FnX FnP FinX Only
attribute [local irreducible] belowD onceD pickD modeD l8D l8AnyD optD
def seedS (k x:Int):Int:=IntKind.i64.wrap ((BitVec.ofInt IntKind.i64.bits (IntKind.i64.wrap (IntKind.i64.wrap (k*131+IntKind.i64.wrap x)+7)) &&& BitVec.ofInt IntKind.i64.bits 1073741823).toNat:Nat)
def seedD (l:List Int) (i:Nat):Int:=(l.take i).foldl seedS (10101+l.length)
theorem and30 (y:Int):0≤IntKind.i64.wrap ((BitVec.ofInt IntKind.i64.bits y &&& BitVec.ofInt IntKind.i64.bits 1073741823).toNat:Nat)∧IntKind.i64.wrap ((BitVec.ofInt IntKind.i64.bits y &&& BitVec.ofInt IntKind.i64.bits 1073741823).toNat:Nat)≤1073741823:=by
 have h:(BitVec.ofInt IntKind.i64.bits y &&& BitVec.ofInt IntKind.i64.bits 1073741823).toNat≤1073741823:=by
  rw [BitVec.toNat_and]
  exact Nat.le_trans Nat.and_le_right (by decide)
 rw [IntWalk.i64_in _ (by omega)]
 omega
theorem seedD_succ {l:List Int} {i:Nat} (h:i<l.length):seedD l (i+1)=seedS (seedD l i) (l.getD i 0):=by
 unfold seedD;rw [List.take_succ_eq_append_getElem h,List.foldl_append];simp [h]
theorem seedD_bd {l:List Int} (hl:l.length≤1048576):∀i,0≤seedD l i∧seedD l i≤1073741823
 |0=>by simp [seedD];omega
 |i+1=>by
  by_cases h:i<l.length
  ·rw [seedD_succ h];exact and30 _
  ·have e:seedD l (i+1)=seedD l i:=by unfold seedD;rw [List.take_of_length_le (by omega),List.take_of_length_le (by omega)]
   rw [e];exact seedD_bd hl i
abbrev newD (l:List Int):Cr:=(0,seedD l (min l.length 4000))
theorem pin_slice {G:Ctx} {v:Value} {l:List Int} (hp:Pin G [v] [CodA l]):∃p q r,v=.slice p q r:=by
 obtain ⟨a,c,e⟩:=(LRel.slice_len hp.rel).2.1 _ _ _ rfl
 exact ⟨_,_,_,e⟩
section
attribute [local irreducible] IntKind.wrap
theorem l1New_p (v:Value) (l:List Int) (hl:l.length≤1048576):FnP Tryz.prog 58 [.sc v] [] [v] [CodA l] [] [CurO v (newD l)] (.ptr 0 0 0):=by
 refine FnP.of_new (t:=2) tabOk Tryz.func58 Tryz.ntmps58 rfl (by decide +kernel) (by simp) rfl rfl rfl fun G hp=>?_
 refine go (r:=?_);and_intros<;>intros<;>try exact True.intro
 refine WpL.pin (d:=5) hp rfl ?_
 refine go (r:=?_);and_intros<;>intros<;>try exact True.intro
 refine WpA.loop (fun i:Nat=>⟨[(0,.sc v),(3,I (seedD l i)),(4,I i)],[]⟩) (fun i=>i≤min l.length 4000) (fun i=>min l.length 4000-i) 0 (Nat.zero_le _) (go (r:=?_)) (fun i hi=>?_)
 ·exact trivial
 ·have hb:=seedD_bd hl i
  have hs:=fun h=>seedD_succ (l:=l) (i:=i) h
  unfold seedS at hs
  refine go (r:=?_);and_intros<;>intros<;>try exact True.intro
  refine WpL.pin (d:=9) hp rfl ?_
  refine go (r:=?_);and_intros<;>intros<;>try exact True.intro
  ·refine WpL.pin (d:=20) hp rfl ?_
   have hs:=hs (by omega)
   refine go (r:=?_);and_intros<;>intros<;>try exact True.intro
   all_goals first|exact hs.symm
  all_goals obtain ⟨p,q,r,rfl⟩:=pin_slice hp
  ·have e:i=min l.length 4000:=by omega
   subst e
   refine go (r:=?_);and_intros<;>intros<;>try exact True.intro
   exact ⟨_,_,_,rfl,rfl,rfl,rfl,rfl,.inl rfl⟩
  ·have e:i=min l.length 4000:=by omega
   subst e
   refine go (r:=?_);and_intros<;>intros<;>try exact True.intro
   exact ⟨_,_,_,rfl,rfl,rfl,rfl,rfl,.inl rfl⟩
end
def anyD (l:List Int) (c:Cr):Cr×Op6:=
 let o:=optD l c
 let s:=belowD l o.1 14
 if s.2=0 then
  let p:=pickD l s.1 [-1,52]
  (p.1,{o.2 with q:=p.2})
 else if s.2=1 then
  let y:=l8AnyD l s.1
  (y.1,{o.2 with lens:=y.2})
 else (s.1,o.2)
theorem anyD_0 {l:List Int} {c:Cr} (h:(belowD l (optD l c).1 14).2=0):anyD l c=((pickD l (belowD l (optD l c).1 14).1 [-1,52]).1,{(optD l c).2 with q:=(pickD l (belowD l (optD l c).1 14).1 [-1,52]).2}):=by
 unfold anyD;simp only;rw [if_pos h]
theorem anyD_1 {l:List Int} {c:Cr} (h:(belowD l (optD l c).1 14).2=1):anyD l c=((l8AnyD l (belowD l (optD l c).1 14).1).1,{(optD l c).2 with lens:=(l8AnyD l (belowD l (optD l c).1 14).1).2}):=by
 unfold anyD;simp only;rw [if_neg (by omega),if_pos h]
theorem anyD_2 {l:List Int} {c:Cr} (h:(belowD l (optD l c).1 14).2≠0) (h1:(belowD l (optD l c).1 14).2≠1):anyD l c=((belowD l (optD l c).1 14).1,(optD l c).2):=by
 unfold anyD;simp only;rw [if_neg h,if_neg h1]
theorem optD_ok {l:List Int} {c:Cr} (h:CrOk l c):CrOk l (optD l c).1∧(optD l c).2.lens.length=6∧(optD l c).2.ms.length≤4:=by
 have hq:=pickD_ok (xs:=quant7) h (by decide)
 have hb:=onceD_ok 4 hq.1
 have hd:=onceD_ok 2 hb
 have h8:=l8D_ok hd
 have hn:=belowD_ok 5 h8.1
 have hn0:=hn.2.1
 have hn1:=hn.2.2.1 (by decide)
 have hm:=modesD_ok (l:=l) (belowD l (l8D l (onceD l (onceD l (pickD l c quant7).1 4).1 2).1).1 5).2.toNat ((belowD l (l8D l (onceD l (onceD l (pickD l c quant7).1 4).1 2).1).1 5).1,[]) hn.1
 have hk:=belowD_ok 4 hm.1
 have hs:=onesD_ok (l:=l) (belowD l (modesD l (belowD l (l8D l (onceD l (onceD l (pickD l c quant7).1 4).1 2).1).1 5).2.toNat ((belowD l (l8D l (onceD l (onceD l (pickD l c quant7).1 4).1 2).1).1 5).1,[])).1 4).2.toNat ((belowD l (modesD l (belowD l (l8D l (onceD l (onceD l (pickD l c quant7).1 4).1 2).1).1 5).2.toNat ((belowD l (l8D l (onceD l (onceD l (pickD l c quant7).1 4).1 2).1).1 5).1,[])).1 4).1,[]) hk.1
 unfold optD
 exact ⟨hs.1,h8.2,Nat.le_trans (Nat.le_of_eq hm.2) (by simp only [List.length_nil];omega)⟩
theorem anyD_ok {l:List Int} {c:Cr} (h:CrOk l c):CrOk l (anyD l c).1∧(anyD l c).2.lens.length≤6∧(anyD l c).2.ms.length≤4:=by
 have ho:=optD_ok h
 have hs:=belowD_ok 14 ho.1
 by_cases h0:(belowD l (optD l c).1 14).2=0
 ·rw [anyD_0 h0];exact ⟨(pickD_ok hs.1 (by decide)).1,Nat.le_of_eq ho.2.1,ho.2.2⟩
 ·by_cases h1:(belowD l (optD l c).1 14).2=1
  ·rw [anyD_1 h1];exact ⟨(l8AnyD_ok hs.1).1,(l8AnyD_ok hs.1).2,ho.2.2⟩
  ·rw [anyD_2 h0 h1];exact ⟨hs.1,Nat.le_of_eq ho.2.1,ho.2.2⟩
instance l27Any_p:ConP 128 (∀ (v:Value) (l:List Int) (c:Cr),CrOk l c→Pn 128 v l c [] (anyD l c).1 [XI (anyD l c).2.lens,XI (anyD l c).2.ms,⟨bools (anyD l c).2.es,0,1,some 4⟩] (OpOwn (anyD l c).2)):=⟨fun v l c h=>by
 have ho:=optD_ok h
 have hs:=belowD_ok 14 ho.1
 by_cases h0:(belowD l (optD l c).1 14).2=0
 ·rw [anyD_0 h0]
  refine FnP.of_body tabOk Tryz.func128 Tryz.ntmps128 rfl (by decide +kernel) (by simp) rfl rfl rfl fun G hp=>?_
  refine go (r:=?_);and_intros<;>intros<;>try exact True.intro
  all_goals first|exact hs.1|exact hs.1.2.1|exact hs.1.2.2|exact ho.1.2.1|exact ho.1.2.2|exact h|exact h.2.1|exact h.2.2|decide|skip
  refine FinG.oI [some 0,some 2,some 3,some 4] rfl (ResV.cell (ds:=[_,_,_,_,_,_]) rfl rfl rfl rfl rfl) (.agg (.keep rfl rfl rfl (.keep rfl rfl rfl (.keep rfl rfl rfl (.own rfl rfl rfl rfl (.own rfl rfl rfl rfl (.own rfl rfl rfl rfl .nil)))))) .nil) (.obj rfl rfl rfl rfl rfl (.inr rfl) (.obj rfl rfl (still_ints _) rfl rfl (.inr rfl) (.obj rfl rfl (still_ints _) rfl rfl (.inr rfl) (.obj rfl rfl (still_bools _) rfl rfl (.inr rfl) .nil)))) rfl rfl
 ·by_cases h1:(belowD l (optD l c).1 14).2=1
  ·rw [anyD_1 h1]
   refine FnP.of_body tabOk Tryz.func128 Tryz.ntmps128 rfl (by decide +kernel) (by simp) rfl rfl rfl fun G hp=>?_
   refine go (r:=?_);and_intros<;>intros<;>try exact True.intro
   all_goals first|exact hs.1|exact hs.1.2.1|exact hs.1.2.2|exact ho.1.2.1|exact ho.1.2.2|exact h|exact h.2.1|exact h.2.2|decide|skip
   refine FinG.oI [some 0,some 6,some 3,some 4] rfl (ResV.cell (ds:=[_,_,_,_,_,_]) rfl rfl rfl rfl rfl) (.agg (.keep rfl rfl rfl (.keep rfl rfl rfl (.keep rfl rfl rfl (.own rfl rfl rfl rfl (.own rfl rfl rfl rfl (.own rfl rfl rfl rfl .nil)))))) .nil) (.obj rfl rfl rfl rfl rfl (.inr rfl) (.obj rfl rfl (still_ints _) rfl rfl (.inr rfl) (.obj rfl rfl (still_ints _) rfl rfl (.inr rfl) (.obj rfl rfl (still_bools _) rfl rfl (.inr rfl) .nil)))) rfl rfl
  ·rw [anyD_2 h0 h1]
   refine FnP.of_body tabOk Tryz.func128 Tryz.ntmps128 rfl (by decide +kernel) (by simp) rfl rfl rfl fun G hp=>?_
   refine go (r:=?_);and_intros<;>intros<;>try exact True.intro
   all_goals first|exact hs.1|exact hs.1.2.1|exact hs.1.2.2|exact ho.1.2.1|exact ho.1.2.2|exact h|exact h.2.1|exact h.2.2|decide|skip
   refine FinG.oI [some 0,some 2,some 3,some 4] rfl (ResV.cell (ds:=[_,_,_,_,_,_]) rfl rfl rfl rfl rfl) (.agg (.keep rfl rfl rfl (.keep rfl rfl rfl (.keep rfl rfl rfl (.own rfl rfl rfl rfl (.own rfl rfl rfl rfl (.own rfl rfl rfl rfl .nil)))))) .nil) (.obj rfl rfl rfl rfl rfl (.inr rfl) (.obj rfl rfl (still_ints _) rfl rfl (.inr rfl) (.obj rfl rfl (still_ints _) rfl rfl (.inr rfl) (.obj rfl rfl (still_bools _) rfl rfl (.inr rfl) .nil)))) rfl rfl⟩
end Go.Proofs.YtainhhfnnclfiaaGreat


namespace Go.Proofs.YtainhhfnnclfiaaGreat
open Go Go.Abs
attribute [local irreducible] WpA WpL Rnd Blk Abs.Seq Abs.Fin Abs.FinG FnC FnG FnX FnP FinX Only
attribute [local irreducible] belowD onceD pickD modeD l8D l8AnyD optD anyD seedD
theorem newD_ok {l:List Int} (hl:l.length≤1048576):CrOk l (newD l):=⟨hl,Int.le_refl 0,by show (0:Int)≤_;omega⟩
end Go.Proofs.YtainhhfnnclfiaaGreat


namespace Go.Proofs.YtainhhfnnclfiaaGreat
open Go Go.Abs
attribute [local irreducible] belowD onceD pickD modeD l8D l8AnyD optD anyD seedD
structure Hd6 where
 w:Int
 h:Int
 q:Int
 b:Bool
 d:Bool
 lens:List Int
abbrev quant6:List Int:=[0,6,12,20,36,51]
def headD (l:List Int) (c:Cr):Cr×Hd6:=
 let w:=belowD l c 2
 let h:=belowD l w.1 2
 let q:=pickD l h.1 quant6
 let b:=onceD l q.1 4
 let d:=onceD l b.1 2
 let e:=l8D l d.1
 (e.1,⟨8*(1+w.2),8*(1+h.2),q.2,b.2,d.2,e.2⟩)
def headAnyD (l:List Int) (c:Cr):Cr×Hd6:=
 let x:=headD l c
 let s:=belowD l x.1 12
 if s.2=0 then
  let p:=pickD l s.1 [0,40,12,32]
  (p.1,{x.2 with w:=p.2})
 else if s.2=1 then
  let p:=pickD l s.1 [-1,52,51]
  (p.1,{x.2 with q:=p.2})
 else if s.2=2 then
  let y:=l8AnyD l s.1
  (y.1,{x.2 with lens:=y.2})
 else (s.1,x.2)
def sqS (l:List Int) (most:Int) (s:Cr×List Int):Cr×List Int:=
 if (onceD l s.1 2).2=true then ((belowD l (onceD l s.1 2).1 (2*most+1)).1,s.2++[(belowD l (onceD l s.1 2).1 (2*most+1)).2-most]) else ((onceD l s.1 2).1,s.2++[0])
def sqK (l:List Int) (most:Int):Nat→Cr×List Int→Cr×List Int
 |0,s=>s
 |n+1,s=>sqK l most n (sqS l most s)
abbrev odd3:List Int:=[0,15,63]
def sqN0 (l:List Int) (c:Cr):Int:=if (onceD l c 3).2=true then 64 else 16
def sqN (l:List Int) (c:Cr):Cr×Int:=if (onceD l (onceD l c 3).1 14).2=true then pickD l (onceD l (onceD l c 3).1 14).1 odd3 else ((onceD l (onceD l c 3).1 14).1,sqN0 l c)
def squareD (l:List Int) (c:Cr) (most:Int):Cr×List Int:=sqK l most (sqN l c).2.toNat ((sqN l c).1,[])
abbrev big4:List Int:=[16383,-16383,16384,5000]
def lvA (l:List Int) (s:Cr×List Int):Cr×List Int:=
 if (onceD l s.1 6).2=true then ((pickD l (belowD l (onceD l s.1 6).1 s.2.length).1 big4).1,s.2.set (belowD l (onceD l s.1 6).1 s.2.length).2.toNat (pickD l (belowD l (onceD l s.1 6).1 s.2.length).1 big4).2) else ((onceD l s.1 6).1,s.2)
def lvB (l:List Int) (s:Cr×List Int):Cr×List Int:=if s.2.length=0 then s else lvA l s
def tail3 (x:List Int):List Int:=x.take 3++List.replicate (x.length-3) 0
def lev10D (l:List Int) (c:Cr):Cr×List Int:=
 ((onceD l (lvB l (squareD l c 30)).1 4).1,if (onceD l (lvB l (squareD l c 30)).1 4).2=true then tail3 (lvB l (squareD l c 30)).2 else (lvB l (squareD l c 30)).2)
def lim3 (v:Int):Int:=max (-300) (min 300 v)
def lev25D (l:List Int) (c:Cr):Cr×List Int:=((onceD l (lev10D l c).1 2).1,if (onceD l (lev10D l c).1 2).2=true then (lev10D l c).2.map lim3 else (lev10D l c).2)
end Go.Proofs.YtainhhfnnclfiaaGreat


namespace Go.Proofs.YtainhhfnnclfiaaGreat
open Go Go.Abs
attribute [local irreducible] belowD onceD pickD modeD l8D l8AnyD optD anyD seedD headD headAnyD
def bmA (l lens:List Int):Nat→Bool→Cr×Int→Cr×Int
 |0,_,s=>s
 |n+1,f,s=>if f=true∨¬HasC lens s.2 then bmA l lens n false (belowD l s.1 6) else s
def bmB (lens:List Int):Nat→Int→Int
 |0,m=>m
 |n+1,m=>if ¬HasC lens m then bmB lens n (m+1) else m
def bmC (lens:List Int) (m:Int):Int:=if HasC lens m then m else 1
def blkM (l lens:List Int) (c:Cr):Cr×Int:=((bmA l lens 8 true (c,0)).1,bmC lens (bmB lens (6-(bmA l lens 8 true (c,0)).2).toNat (bmA l lens 8 true (c,0)).2))
abbrev ixs (n:Int) (x:Int):List Int:=[0,0,1,2,n*n-1,x]
abbrev lvs (x:Int):List Int:=[1,-1,3,-20,90,x-200]
def dvS (l:List Int) (n:Int) (s:Cr×List Int):Cr×List Int:=
 ((pickD l (belowD l (pickD l (belowD l s.1 (n*n)).1 (ixs n (belowD l s.1 (n*n)).2)).1 400).1 (lvs (belowD l (pickD l (belowD l s.1 (n*n)).1 (ixs n (belowD l s.1 (n*n)).2)).1 400).2)).1,
  s.2.set (pickD l (belowD l s.1 (n*n)).1 (ixs n (belowD l s.1 (n*n)).2)).2.toNat (pickD l (belowD l (pickD l (belowD l s.1 (n*n)).1 (ixs n (belowD l s.1 (n*n)).2)).1 400).1 (lvs (belowD l (pickD l (belowD l s.1 (n*n)).1 (ixs n (belowD l s.1 (n*n)).2)).1 400).2)).2)
def dvK (l:List Int) (n:Int):Nat→Cr×List Int→Cr×List Int
 |0,s=>s
 |k+1,s=>dvK l n k (dvS l n s)
def blkD (l lens:List Int) (n:Int) (c:Cr):Cr×Blok:=
 ((dvK l n (belowD l (blkM l lens c).1 5).2.toNat ((belowD l (blkM l lens c).1 5).1,List.replicate (n*n).toNat 0)).1,
  ((blkM l lens c).2,(dvK l n (belowD l (blkM l lens c).1 5).2.toNat ((belowD l (blkM l lens c).1 5).1,List.replicate (n*n).toNat 0)).2))
end Go.Proofs.YtainhhfnnclfiaaGreat


namespace Go.Proofs.YtainhhfnnclfiaaGreat
open Go Go.Abs
attribute [local irreducible] belowD onceD pickD modeD l8D l8AnyD optD anyD seedD headD headAnyD symL HasC blkD lev25D
structure Fr3 where
 w:Int
 h:Int
 p:List Int
 o:Nat
abbrev noise5:List Int:=[1,1,3,40,256]
def frS (l:List Int) (w b dx dy nz:Int) (i:Nat) (s:Cr×List Int):Cr×List Int:=
 ((belowD l s.1 nz).1,s.2.set i (max 0 (min 255 (b+dx*((i:Int)%w)+dy*((i:Int)/w)+(belowD l s.1 nz).2))))
def frK (l:List Int) (w b dx dy nz:Int):Nat→Nat→Cr×List Int→Cr×List Int
 |0,_,s=>s
 |n+1,i,s=>frK l w b dx dy nz n (i+1) (frS l w b dx dy nz i s)
theorem frK_succ (l:List Int) (w b dx dy nz:Int) (n i:Nat) (s:Cr×List Int):frK l w b dx dy nz (n+1) i s=frK l w b dx dy nz n (i+1) (frS l w b dx dy nz i s):=rfl
theorem frK_zero (l:List Int) (w b dx dy nz:Int) (i:Nat) (s:Cr×List Int):frK l w b dx dy nz 0 i s=s:=rfl
theorem noise_in {x:Int} (h:x∈noise5):1≤x∧x≤256:=by
 simp only [List.mem_cons,List.not_mem_nil,or_false] at h
 omega
theorem frS_ok {l:List Int} {w b dx dy nz:Int} {i:Nat} {s:Cr×List Int} (h:CrOk l s.1):CrOk l (frS l w b dx dy nz i s).1∧(frS l w b dx dy nz i s).2.length=s.2.length:=by
 refine ⟨(belowD_ok nz h).1,?_⟩
 unfold frS;simp
theorem frK_ok {l:List Int} {w b dx dy nz:Int}:∀(n i:Nat) {s:Cr×List Int},CrOk l s.1→CrOk l (frK l w b dx dy nz n i s).1∧(frK l w b dx dy nz n i s).2.length=s.2.length
 |0,i,s,h=>⟨h,rfl⟩
 |n+1,i,s,h=>by
  have h1:=frS_ok (w:=w) (b:=b) (dx:=dx) (dy:=dy) (nz:=nz) (i:=i) h
  have h2:=frK_ok (w:=w) (b:=b) (dx:=dx) (dy:=dy) (nz:=nz) n (i+1) h1.1
  exact ⟨h2.1,by rw [frK,h2.2,h1.2]⟩
abbrev fW (l:List Int) (c:Cr):Cr×Int:=belowD l c 3
abbrev fH (l:List Int) (c:Cr):Cr×Int:=belowD l (fW l c).1 2
abbrev fBr (l:List Int) (c:Cr):Cr×Int:=belowD l (fH l c).1 256
abbrev fX (l:List Int) (c:Cr):Cr×Int:=belowD l (fBr l c).1 9
abbrev fY (l:List Int) (c:Cr):Cr×Int:=belowD l (fX l c).1 9
abbrev fN (l:List Int) (c:Cr):Cr×Int:=pickD l (fY l c).1 noise5
abbrev frW (l:List Int) (c:Cr):Int:=8*(1+(fW l c).2)
abbrev frH (l:List Int) (c:Cr):Int:=8*(1+(fH l c).2)
def frD (l:List Int) (c:Cr):Cr×Fr3:=
 let r:=frK l (frW l c) (fBr l c).2 ((fX l c).2-4) ((fY l c).2-4) (fN l c).2 (frW l c*frH l c).toNat 0 ((fN l c).1,List.replicate (frW l c*frH l c).toNat 0)
 (r.1,⟨frW l c,frH l c,r.2,0⟩)
theorem frD_ok {l:List Int} {c:Cr} (h:CrOk l c):CrOk l (frD l c).1∧(8≤(frD l c).2.w∧(frD l c).2.w≤24)∧(8≤(frD l c).2.h∧(frD l c).2.h≤16)∧64≤(frD l c).2.p.length∧(frD l c).2.p.length≤384∧(frD l c).2.o=0:=by
 have h1:=belowD_ok 3 h
 have h2:=belowD_ok 2 h1.1
 have h3:=belowD_ok 256 h2.1
 have h4:=belowD_ok 9 h3.1
 have h5:=belowD_ok 9 h4.1
 have h6:=pickD_ok (xs:=noise5) h5.1 (by decide)
 have a1:=h1.2.1
 have a2:=h1.2.2.1 (by decide)
 have b1:=h2.2.1
 have b2:=h2.2.2.1 (by decide)
 have hk:=frK_ok (w:=frW l c) (b:=(fBr l c).2) (dx:=(fX l c).2-4) (dy:=(fY l c).2-4) (nz:=(fN l c).2) (frW l c*frH l c).toNat 0 (s:=((fN l c).1,List.replicate (frW l c*frH l c).toNat 0)) h6.1
 have hm:64≤frW l c*frH l c∧frW l c*frH l c≤384:=by
  have e1:(fW l c).2=0∨(fW l c).2=1∨(fW l c).2=2:=by show (belowD l c 3).2=0∨(belowD l c 3).2=1∨(belowD l c 3).2=2;omega
  have e2:(fH l c).2=0∨(fH l c).2=1:=by show (belowD l (belowD l c 3).1 2).2=0∨(belowD l (belowD l c 3).1 2).2=1;omega
  unfold frW frH
  rcases e1 with e1|e1|e1<;>rcases e2 with e2|e2<;>rw [e1,e2]<;>decide
 refine ⟨hk.1,?_,?_,?_⟩
 ·show 8≤8*(1+(belowD l c 3).2)∧8*(1+(belowD l c 3).2)≤24;omega
 ·show 8≤8*(1+(belowD l (belowD l c 3).1 2).2)∧8*(1+(belowD l (belowD l c 3).1 2).2)≤16;omega
 ·have e:(frD l c).2.p.length=(frW l c*frH l c).toNat:=by
   show (frK l _ _ _ _ _ _ 0 _).2.length=_
   rw [hk.2,List.length_replicate]
  rw [e];exact ⟨by omega,by omega,rfl⟩
def frAnyD (l:List Int) (c:Cr):Cr×Fr3:=
 let x:=frD l c
 let s:=belowD l x.1 16
 if s.2=0 then
  let i:=belowD l s.1 x.2.p.length
  let v:=pickD l i.1 [-1,256]
  (v.1,{x.2 with p:=x.2.p.set i.2.toNat v.2})
 else if s.2=1 then
  let v:=pickD l s.1 [0,7,40,x.2.w+8]
  (v.1,{x.2 with w:=v.2})
 else if s.2=2 then (s.1,{x.2 with o:=1})
 else (s.1,x.2)
theorem frAnyD_0 {l:List Int} {c:Cr} (h:(belowD l (frD l c).1 16).2=0):frAnyD l c=((pickD l (belowD l (belowD l (frD l c).1 16).1 (frD l c).2.p.length).1 [-1,256]).1,⟨(frD l c).2.w,(frD l c).2.h,(frD l c).2.p.set (belowD l (belowD l (frD l c).1 16).1 (frD l c).2.p.length).2.toNat (pickD l (belowD l (belowD l (frD l c).1 16).1 (frD l c).2.p.length).1 [-1,256]).2,(frD l c).2.o⟩):=by
 unfold frAnyD;simp only;rw [if_pos h]
theorem frAnyD_1 {l:List Int} {c:Cr} (h:(belowD l (frD l c).1 16).2=1):frAnyD l c=((pickD l (belowD l (frD l c).1 16).1 [0,7,40,(frD l c).2.w+8]).1,⟨(pickD l (belowD l (frD l c).1 16).1 [0,7,40,(frD l c).2.w+8]).2,(frD l c).2.h,(frD l c).2.p,(frD l c).2.o⟩):=by
 unfold frAnyD;simp only;rw [if_neg (by omega),if_pos h]
theorem frAnyD_2 {l:List Int} {c:Cr} (h:(belowD l (frD l c).1 16).2=2):frAnyD l c=((belowD l (frD l c).1 16).1,⟨(frD l c).2.w,(frD l c).2.h,(frD l c).2.p,1⟩):=by
 unfold frAnyD;simp only;rw [if_neg (by omega),if_neg (by omega),if_pos h]
theorem frAnyD_3 {l:List Int} {c:Cr} (h:(belowD l (frD l c).1 16).2≠0) (h1:(belowD l (frD l c).1 16).2≠1) (h2:(belowD l (frD l c).1 16).2≠2):frAnyD l c=((belowD l (frD l c).1 16).1,(frD l c).2):=by
 unfold frAnyD;simp only;rw [if_neg h,if_neg h1,if_neg h2]
theorem frAnyD_ok {l:List Int} {c:Cr} (h:CrOk l c):CrOk l (frAnyD l c).1∧(0≤(frAnyD l c).2.w∧(frAnyD l c).2.w≤40)∧(8≤(frAnyD l c).2.h∧(frAnyD l c).2.h≤16)∧(frAnyD l c).2.p.length≤384∧(frAnyD l c).2.o≤(frAnyD l c).2.p.length:=by
 have ho:=frD_ok h
 have hs:=belowD_ok 16 ho.1
 obtain ⟨hp64,hp384,hoo⟩:=ho.2.2.2
 by_cases h0:(belowD l (frD l c).1 16).2=0
 ·rw [frAnyD_0 h0]
  have hi:=belowD_ok (frD l c).2.p.length hs.1
  refine ⟨(pickD_ok hi.1 (by decide)).1,?_,ho.2.2.1,?_,?_⟩
  ·show 0≤(frD l c).2.w∧(frD l c).2.w≤40;omega
  ·show ((frD l c).2.p.set _ _).length≤384;rw [List.length_set];omega
  ·show (frD l c).2.o≤((frD l c).2.p.set _ _).length;rw [List.length_set];omega
 ·by_cases h1:(belowD l (frD l c).1 16).2=1
  ·rw [frAnyD_1 h1]
   have hp:=pickD_ok (xs:=[0,7,40,(frD l c).2.w+8]) hs.1 (by simp)
   have hm:=hp.2
   simp only [List.mem_cons,List.not_mem_nil,or_false] at hm
   refine ⟨hp.1,?_,ho.2.2.1,hp384,by show (frD l c).2.o≤(frD l c).2.p.length;omega⟩
   show 0≤(pickD l _ _).2∧(pickD l _ _).2≤40
   omega
  ·by_cases h2:(belowD l (frD l c).1 16).2=2
   ·rw [frAnyD_2 h2]
    refine ⟨hs.1,?_,ho.2.2.1,hp384,by show 1≤(frD l c).2.p.length;omega⟩
    show 0≤(frD l c).2.w∧(frD l c).2.w≤40;omega
   ·rw [frAnyD_3 h0 h1 h2]
    refine ⟨hs.1,?_,ho.2.2.1,hp384,by show (frD l c).2.o≤(frD l c).2.p.length;omega⟩
    show 0≤(frD l c).2.w∧(frD l c).2.w≤40
    omega
end Go.Proofs.YtainhhfnnclfiaaGreat


namespace Go.Proofs.YtainhhfnnclfiaaGreat
open Go Go.Abs
attribute [local irreducible] WpA WpL Rnd Blk Abs.Seq Abs.Fin Abs.FinG FnC FnG FnX FnP FinX Only
attribute [local irreducible] belowD onceD pickD modeD l8D l8AnyD optD anyD seedD
end Go.Proofs.YtainhhfnnclfiaaGreat


namespace Go.Proofs.YtainhhfnnclfiaaGreat
open Go Go.Abs
attribute [local irreducible] WpA WpL Rnd Blk Abs.Seq Abs.Fin Abs.FinG FnC FnG FnX FnP FinX Only
attribute [local irreducible] belowD onceD pickD modeD l8D l8AnyD optD anyD seedD squareD headD headAnyD
section
attribute [local irreducible] lev10D
end
section
attribute [local irreducible] lev25D
end
end Go.Proofs.YtainhhfnnclfiaaGreat


namespace Go.Proofs.YtainhhfnnclfiaaGreat
open Go Go.Abs
attribute [local irreducible] WpA WpL Rnd Blk Abs.Seq Abs.Fin Abs.FinG FnC FnG FnX FnP FinX Only
attribute [local irreducible] belowD onceD pickD modeD l8D l8AnyD optD anyD seedD headD headAnyD symL HasC
theorem split04 {Ov:List AObj} {x y:AObj} (h0:Ov[0]?=some x) (h:Ov[4]?=some y):∃a b c R,Ov=x::a::b::c::y::R:=by
 match Ov,h0,h with
 |x'::a::b::c::y'::R,h0,h=>simp at h0 h;exact ⟨a,b,c,R,by rw [h0,h]⟩
 |[],h0,h=>simp at h
 |[_],h0,h=>simp at h
 |[_,_],h0,h=>simp at h
 |[_,_,_],h0,h=>simp at h
 |[_,_,_,_],h0,h=>simp at h
theorem split05 {Ov:List AObj} {x y:AObj} (h0:Ov[0]?=some x) (h:Ov[5]?=some y):∃a b c d R,Ov=x::a::b::c::d::y::R:=by
 match Ov,h0,h with
 |x'::a::b::c::d::y'::R,h0,h=>simp at h0 h;exact ⟨a,b,c,d,R,by rw [h0,h]⟩
 |[],h0,h=>simp at h
 |[_],h0,h=>simp at h
 |[_,_],h0,h=>simp at h
 |[_,_,_],h0,h=>simp at h
 |[_,_,_,_],h0,h=>simp at h
 |[_,_,_,_,_],h0,h=>simp at h
abbrev eB (l:List Int) (n:Int) (c:Cr):Cr×Int:=belowD l c (n*n)
end Go.Proofs.YtainhhfnnclfiaaGreat
