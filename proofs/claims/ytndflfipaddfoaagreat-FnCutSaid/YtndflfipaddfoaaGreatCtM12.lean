/- Proved in this text: lemmas and contracts of functions that the claim uses (parts: RdK, Cnv, CutP, MatL, Mat, Mat2, Mat3, Mat4, Scan, Quant, Scn, Lev, ResL, EdgL, Nb, PredAt, PredL). No condition. -/
import Derived.Test.YtndflfipaddfoaaGreatCtM11
import Derived.Test.YtndflfipaddfoaaGreatCtM10
import Derived.Test.YtndflfipaddfoaaGreatCtM9
import Derived.Test.YtndflfipaddfoaaGreatCtM6
set_option linter.unusedVariables false
set_option linter.unusedSimpArgs false
set_option maxRecDepth 100000
set_option maxHeartbeats 16000000


namespace Go.Proofs.YtndflfipaddfoaaGreat
open Go Go.Abs
end Go.Proofs.YtndflfipaddfoaaGreat


namespace Go.Proofs.YtndflfipaddfoaaGreat
open Go Go.Abs
def lvBt (l:List Int):List Int:=if (prsL l).length=0 then [0] else [1]++ueL ((prsL l).length-1)++(prsL l).flatMap prB
theorem bkL_eq {m n:Int} {lv lens:List Int} (h:BlkOk m lv lens n):bkL m lv lens n=symL lens m++lvBt lv:=by
 unfold bkL lvBt
 rw [if_pos h]
 split
 ·rfl
 ·unfold bkK;rw [List.take_length];simp only [List.append_assoc]
end Go.Proofs.YtndflfipaddfoaaGreat


namespace Go.Proofs.YtndflfipaddfoaaGreat
open Go Go.Abs
structure Beg (t p:List UInt8):Prop where
 le:t.length≤p.length
 bt:∀i:Int,i<8*(t.length:Int)→btA t i=btA p i
theorem beg_take (p:List UInt8) {n:Nat} (h:n≤p.length):Beg (p.take n) p:=by
 have hl:(p.take n).length=n:=by rw [List.length_take];omega
 refine ⟨by omega,fun i hi=>?_⟩
 rw [hl] at hi
 unfold btA
 by_cases h0:i<0
 ·rw [if_pos (.inl h0),if_pos (.inl h0)]
 ·rw [if_neg (by omega),if_neg (by omega)]
  have:(p.take n).getD (i/8).toNat 0=p.getD (i/8).toNat 0:=by
   rw [List.getD_eq_getElem?_getD,List.getD_eq_getElem?_getD,List.getElem?_take,if_pos (by omega)]
  rw [this]
theorem Beg.fit {t p:List UInt8} {s:Int} {b:List Int} (h:Beg t p) (hh:Holds p s b) (hl:s+b.length≤8*(t.length:Int)):Holds t s b:=
 ⟨hh.1,hl,fun k hk=>by rw [h.bt _ (by omega)];exact hh.2.2 k hk⟩
theorem Beg.num {t p:List UInt8} {s:Int} (h:Beg t p):∀k:Nat,s+k≤8*(t.length:Int)→numB t s k=numB p s k
 |0,_=>rfl
 |k+1,hl=>by rw [numB,numB,h.num k (by omega),bv,bv,h.bt _ (by omega)]
theorem fb_short {p:List UInt8} {s n:Int} {k:Int→Int} (h:¬RbOk p s n):fbC p s 0 n k=1:=by rw [fbC,if_pos rfl,if_neg h]
theorem fbC_keep {p:List UInt8} {s c n:Int} {k:Int→Int} (h:c≠0):fbC p s c n k=c:=by rw [fbC,if_neg h]
theorem fu_short {p:List UInt8} {s:Int} {k:Int→Int} (h:ueC p s=1):fuC p s 0 k=1:=by rw [fuC,if_pos rfl,if_neg (by omega),h]
theorem cut_rb {t:List UInt8} {s w:Int} (h0:0≤s) (h1:s≤8*(t.length:Int)) (h2:8*(t.length:Int)<s+w):¬RbOk t s w:=by
 intro h
 have:=lft_ok h.1
 have:=h.2.2
 omega
theorem cut_ue {t p:List UInt8} {s n:Int} (hB:Beg t p) (hn:0≤n∧n≤65534) (h:Holds p s (ueL n)) (h1:s≤8*(t.length:Int)) (h2:8*(t.length:Int)<s+(ueL n).length):ueC t s=1:=by
 obtain ⟨m,rfl⟩:∃m:Nat,n=m:=⟨n.toNat,by omega⟩
 have hm:m≤65534:=by omega
 have hz:=lg_16 (x:=m+1) (by omega) (by omega)
 have hw:=ueL_wide hm
 have hb:=bitOk_ue (n:=m) (2*Nat.log2 (m+1)+1) hm (by omega) (by omega)
 have hlen:=bits_len hb
 rw [hw] at hlen
 have hsh:ueL (m:Int)=List.replicate (Nat.log2 (m+1)) 0++bitsL ((m:Int)+1) ((Nat.log2 (m+1)+1:Nat):Int):=by
  rw [ueL,if_pos hn];simp
 have hl:=lft_ok (p:=t) (s:=s) ⟨h.1,h1⟩
 have hz0:∀j<Nat.log2 (m+1),s+(j:Nat)<8*(t.length:Int)→btA t (s+(j:Nat))=0:=fun j hj hlt=>by
  rw [hB.bt _ hlt]
  have h3:=holds_left (hsh▸h)
  rw [h3.2.2 j (by simpa using hj)]
  simp [List.getD_eq_getElem?_getD,List.getElem?_replicate,hj]
 have key:zrs t s≤15∧lft t s<2*(zrs t s:Int)+1:=by
  rcases Int.lt_or_le (Nat.log2 (m+1):Int) (lft t s) with hc|hc
  ·have e:zrs t s=zrs p s:=by
    have hzp:zrs p s=Nat.log2 (m+1):=by
     have hu:=holds_ue (n:=(m:Int)) hn h
     have hv:=hu.2.2
     refine zrs_eq (by have:=holds_lft h;omega) (fun j hj=>?_) (.inr ?_)
     ·have h3:=holds_left (hsh▸h)
      rw [h3.2.2 j (by simpa using hj)]
      simp [List.getD_eq_getElem?_getD,List.getElem?_replicate,hj]
     ·have h3:=holds_right (hsh▸h)
      have hb2:=bitOk_ue (n:=m) (Nat.log2 (m+1)+1) hm (by omega) (by omega)
      have h4:=h3.2.2 0 (by have:=bits_len hb2;omega)
      rw [List.length_replicate] at h4
      rw [show s+((Nat.log2 (m+1):Nat):Int)=s+((Nat.log2 (m+1):Nat):Int)+((0:Nat):Int) by omega,h4]
      unfold bitsL
      rw [if_pos hb2]
      have e1:(((Nat.log2 (m+1)+1:Nat):Int)).toNat=Nat.log2 (m+1)+1:=by omega
      rw [e1]
      have e2:(bitsR ((m:Int)+1) (Nat.log2 (m+1)+1) (Nat.log2 (m+1)+1)).getD 0 0=((m:Int)+1)/2 ^ Nat.log2 (m+1)%2:=by
       simp [bitsR,List.getD_eq_getElem?_getD]
      rw [e2]
      have hlo:=lg_lo (m+1) (by omega)
      have hhi:=lg_hi (m+1)
      have e3:((m:Int)+1)/2 ^ Nat.log2 (m+1)=1:=by
       have:(m+1)/2 ^ Nat.log2 (m+1)=1:=by
        rw [Nat.pow_succ] at hhi
        exact Nat.div_eq_of_lt_le (by omega) (by omega)
       exact_mod_cast this
      rw [e3];decide
    rw [hzp]
    have hst:=zrs_stop p s
    rw [hzp] at hst
    have hlp:=holds_lft h
    refine zrs_eq (by omega) (fun j hj=>hz0 j hj (by omega)) (.inr ?_)
    rw [hB.bt _ (by omega)]
    rcases hst with hst|hst
    ·omega
    ·exact hst
   have hzp2:zrs t s=Nat.log2 (m+1):=by
    have hle:=zrs_le t s
    refine Nat.le_antisymm ?_ ?_
    ·refine Nat.le_of_not_lt fun hlt=>?_
     have hz1:=zrs_zero hlt
     rw [e] at hlt
     have hu:=holds_ue (n:=(m:Int)) hn h
     have h15:zrs p s≤15:=by
      refine Decidable.byContradiction fun hn2=>?_
      have:=(ue_code hn2).2.1
      rw [hu.1] at this;cases this
     have hok:RbOk p s (2*(zrs p s:Int)+1):=by
      refine Decidable.byContradiction fun hn2=>?_
      have:=(ue_short h15 hn2).2.1
      rw [hu.1] at this;cases this
     have:=(ue_yes h15 hok).1
     rw [hu.2.1] at this
     omega
    ·refine Nat.le_of_not_lt fun hlt=>?_
     have hst:=zrs_stop t s
     rcases hst with hst|hst
     ·omega
     ·exact hst (hz0 _ hlt (by omega))
   rw [hzp2];omega
  ·have e:(zrs t s:Int)=lft t s:=by
    have h0:=lft_bd t s
    have:=zrs_eq (p:=t) (s:=s) (k:=(lft t s).toNat) (by omega) (fun j hj=>hz0 j (by omega) (by omega)) (.inl (by omega))
    omega
   constructor<;>omega
 refine (ue_short key.1 fun hk=>?_).2.1
 have:=hk.2.2
 omega
theorem cut_sym {t p:List UInt8} {s m:Int} {l:List Int} (hB:Beg t p) (hc:HasC l m) (h:Holds p s (symL l m)) (h1:s≤8*(t.length:Int)) (h2:8*(t.length:Int)<s+(symL l m).length):smC t s l=1:=by
 have hf:=sym_fit hc
 have hlen:=symL_len l m
 rw [if_pos hc] at hlen
 have hm:=hc.2.1
 have ha:SymAt p s l m.toNat:=by
  have h':=h
  unfold symL at h'
  rw [if_pos hc] at h'
  have hb:=holds_bits hf.2.2.2 (by omega) h'
  exact ⟨by omega,hb.1,holds_num hf.2.2.2 h'⟩
 refine (sm_none hc.1 fun k hk hs=>?_).2.2
 have hl:=lft_ok (p:=t) (s:=s) ⟨h.1,h1⟩
 have hk2:=hs.2.1.2.2
 have hk1:=hs.1
 have hkp:SymAt p s l k:=by
  refine ⟨hs.1,⟨holds_rd h,hs.2.1.2.1,?_⟩,?_⟩
  ·have:=holds_lft h;omega
  ·rw [←hB.num _ (by omega)];exact hs.2.2
 have:=sym_uni hc.1 hk (by omega) hkp ha
 subst this
 omega
theorem pv_short1 {p:List UInt8} {s room:Int} (h:ueC p s=1):pvC p s room=1:=by
 unfold pvC
 rw [fuC_keep (by rw [fu_short h];decide),fu_short h]
theorem pv_short2 {p:List UInt8} {s room:Int} (h:ueC p s=0) (h2:ueV p s<room) (h3:ueC p (ueA p s)=1):pvC p s room=1:=by
 have e:=fu_yes (k:=kR room) h (ifE_yes h2)
 unfold pvC
 rw [e.1,e.2.1,fu_short h3]
theorem cut_pair {t p:List UInt8} {s room r v:Int} (hB:Beg t p) (hr:0≤r∧r<room) (hr2:r≤65534) (hv:v≠0∧-16383≤v∧v≤16383) (h:Holds p s (prB (r,v))) (h1:s≤8*(t.length:Int)) (h2:8*(t.length:Int)<s+(prB (r,v)).length):pvC t s room=1:=by
 have ha:=holds_left h
 have hb:=holds_right h
 have hn:=nolL_in hv
 unfold prB at h2
 simp only [List.length_append] at h2 ha hb
 by_cases hf:s+((ueL r).length:Int)≤8*(t.length:Int)
 ·have hu:=holds_ue ⟨hr.1,hr2⟩ (hB.fit ha hf)
  refine pv_short2 hu.1 (by omega) ?_
  rw [hu.2.1]
  exact cut_ue hB hn hb hf (by omega)
 ·exact pv_short1 (cut_ue hB ⟨hr.1,hr2⟩ ha h1 (by omega))
theorem cut_run {t p:List UInt8} {s:Int} {l:List Int} (hB:Beg t p) (hl:LvOk l) (h1:s≤8*(t.length:Int)):∀k,k≤l.length→Holds p s ((pk l k).1.flatMap prB)→8*(t.length:Int)<s+((pk l k).1.flatMap prB).length→
 (lvRun t l.length ⟨s,0,0,List.replicate l.length 0⟩ (pk l k).1.length).c=1
 |0,_,_,h2=>by simp [pk] at h2;omega
 |k+1,hk,h,h2=>by
  have hb:=pk_bd l k
  have h64:l.length≤64:=by have:=hl.2;omega
  rw [pk] at h h2 ⊢
  split at h
  ·rename_i h0
   rw [if_pos h0] at h2 ⊢
   exact cut_run hB hl h1 k (by omega) h h2
  ·rename_i h0
   rw [if_neg h0] at h2 ⊢
   simp only [List.flatMap_append,List.flatMap_cons,List.flatMap_nil,List.append_nil,List.length_append,List.length_singleton] at h h2 ⊢
   rw [lvRun]
   by_cases hf:s+(((pk l k).1.flatMap prB).length:Int)≤8*(t.length:Int)
   ·rw [holds_run hl k (by omega) (hB.fit (holds_left h) hf)]
    have hin:=in_get hl.1 (k:=k) (by omega)
    have hp:=cut_pair (room:=l.length-(k-(pk l k).2)) hB (by omega) (by omega) ⟨h0,hin⟩ (holds_right h) hf (by omega)
    rw [(lvStep_pv1 rfl (by rw [hp];decide)).2.1,hp]
   ·have ih:=cut_run hB hl h1 k (by omega) (holds_left h) (by omega)
    rw [lvStep_no (by rw [ih];decide),ih]
theorem cut_lv {t p:List UInt8} {s n:Int} {l:List Int} (hB:Beg t p) (hl:LvOk l) (hn:(l.length:Int)=n*n) (h:Holds p s (lvBt l)) (h1:s≤8*(t.length:Int)) (h2:8*(t.length:Int)<s+(lvBt l).length):(lvS t s n).c=1:=by
 have e:prsL l=(pk l l.length).1:=by unfold prsL;rw [if_pos hl]
 have hpb:=(pk_bd l l.length).1
 rw [←e] at hpb
 have h64:l.length≤64:=by have:=hl.2;omega
 unfold lvBt at h h2
 by_cases h0:(prsL l).length=0
 ·rw [if_pos h0] at h2
  simp only [List.length_singleton] at h2
  rw [lv_1 (cut_rb h.1 h1 (by omega))]
 ·rw [if_neg h0] at h h2
  simp only [List.length_append,List.length_singleton] at h2
  by_cases hf:s+1≤8*(t.length:Int)
  ·have b1:=one_bit (.inr rfl) (hB.fit (holds_left (holds_left h)) hf)
   have p1:=holds_right (holds_left h)
   rw [List.length_singleton] at p1
   by_cases hf2:s+1+((ueL ((prsL l).length-1)).length:Int)≤8*(t.length:Int)
   ·have b2:=holds_ue (n:=((prsL l).length:Int)-1) (by omega) (hB.fit p1 hf2)
    rw [show s+((1:Nat):Int)=rbA t s 1 by rw [b1.2.1];rfl] at b2
    rw [lv_5 b1.1 (by rw [b1.2.2];decide) b2.1 (by rw [b2.2.2];omega),b2.2.2,nn_len hn,←hn,show (1+(((prsL l).length:Int)-1)).toNat=(prsL l).length by omega]
    have p2:=holds_right h
    simp only [List.length_append,List.length_singleton] at p2
    have ea:ueA t (rbA t s 1)=s+((1+(ueL ((prsL l).length-1)).length:Nat):Int):=by rw [b2.2.1,b1.2.1];omega
    rw [ea]
    rw [e] at p2 h2 ⊢
    exact cut_run hB hl (by rw [←e];omega) l.length (Nat.le_refl _) p2 (by omega)
   ·have hu:=cut_ue hB (n:=((prsL l).length:Int)-1) (by omega) p1 hf (by omega)
    rw [show s+((1:Nat):Int)=rbA t s 1 by rw [b1.2.1];rfl] at hu
    rw [lv_3 b1.1 (by rw [b1.2.2];decide) (by rw [hu];decide)]
    exact hu
  ·rw [lv_1 (cut_rb h.1 h1 (by omega))]
theorem cut_blk {t p:List UInt8} {s m n:Int} {lv lens:List Int} (hB:Beg t p) (hk:BlkOk m lv lens n) (h:Holds p s (bkL m lv lens n)) (h1:s≤8*(t.length:Int)) (h2:8*(t.length:Int)<s+(bkL m lv lens n).length):(blS t s lens n).c=1:=by
 rw [bkL_eq hk] at h h2
 obtain ⟨hn,hc,hl,hv⟩:=hk
 rw [List.length_append] at h2
 unfold blS
 rw [if_pos hn]
 by_cases hf:s+((symL lens m).length:Int)≤8*(t.length:Int)
 ·have b1:=holds_sym hc (hB.fit (holds_left h) hf)
  rw [if_pos b1.1]
  have hx:=cut_lv (n:=n) hB hv hl (holds_right h) hf (by omega)
  rw [←b1.2.1] at hx
  simp only
  rw [if_neg (by rw [hx];decide)]
  exact hx
 ·have hx:=cut_sym hB hc (holds_left h) h1 (by omega)
  rw [if_neg (by rw [hx];decide)]
  exact hx
theorem mbRun_1 {p:List UInt8} {s:Int} {lens:List Int} {n:Int} {k:Nat} (h:(mbRun p s lens n k).c=0) (hb:(blS p (mbRun p s lens n k).a lens n).c=1):(mbRun p s lens n (k+1)).c=1:=by
 rw [mbRun];simp only;rw [if_pos h,if_neg (by rw [hb];decide)];exact hb
theorem mbRun_2 {p:List UInt8} {s:Int} {lens:List Int} {n:Int} {k:Nat} (h:(mbRun p s lens n k).c=1):(mbRun p s lens n (k+1)).c=1:=by
 rw [mbRun];simp only;rw [if_neg (by rw [h];decide)];exact h
theorem cut_mbr {t p:List UInt8} {s:Int} {lens:List Int} {e:Bool} {bs:List Blok} (hB:Beg t p) (hm:MbkOk e bs lens) (h1:s≤8*(t.length:Int)):∀k,k≤bs.length→Holds p s ((bs.take k).flatMap fun b=>bkL b.1 b.2 lens (sz8 e))→8*(t.length:Int)<s+((bs.take k).flatMap fun b=>bkL b.1 b.2 lens (sz8 e)).length→
 (mbRun t s lens (sz8 e) k).c=1
 |0,_,_,h2=>by simp at h2;omega
 |k+1,hk,h,h2=>by
  have ht:=holds_take _ bs (by omega) h
  rw [fm_snoc _ bs k (by omega),List.length_append] at h2
  by_cases hf:s+(((bs.take k).flatMap fun b=>bkL b.1 b.2 lens (sz8 e)).length:Int)≤8*(t.length:Int)
  ·have ih:=holds_mbr hm k (by omega) (hB.fit ht.1 hf)
   have hx:=cut_blk hB (ok_lv hm (k:=k) (by omega)) ht.2 hf (by omega)
   refine mbRun_1 (by rw [ih]) ?_
   rw [ih]
   exact hx
  ·exact mbRun_2 (cut_mbr hB hm h1 k (by omega) ht.1 (by omega))
theorem cut_mb {t p:List UInt8} {s:Int} {lens:List Int} {e:Bool} {bs:List Blok} (hB:Beg t p) (hm:MbkOk e bs lens) (h:Holds p s (mbbL e bs lens)) (h1:s≤8*(t.length:Int)) (h2:8*(t.length:Int)<s+(mbbL e bs lens).length):(mbS t s lens).1.c=1:=by
 unfold mbbL at h h2
 rw [if_pos hm] at h h2
 unfold mbK at h h2
 rw [List.length_append,List.length_singleton] at h2
 by_cases hf:s+1≤8*(t.length:Int)
 ·have b1:=one_bit (by cases e<;>simp) (hB.fit (holds_left h) hf)
  have p1:=holds_right h
  rw [mbS_yes (E:=e) b1.1 (by rw [b1.2.2];cases e<;>rfl)]
  have hl:(nm8 e).toNat=bs.length:=by have:=hm.1;omega
  rw [hl]
  exact cut_mbr hB hm hf bs.length (Nat.le_refl _) p1 (by omega)
 ·unfold mbS
  rw [if_neg (cut_rb h.1 h1 (by omega))]
theorem cut_mbs {t p:List UInt8} {s w h q:Int} {l:List Int} {M:List Mbk} (hB:Beg t p) (hs:StOk w h q l M) (h1:s≤8*(t.length:Int)):∀k,k≤M.length→Holds p s ((M.take k).flatMap (mbF l))→8*(t.length:Int)<s+((M.take k).flatMap (mbF l)).length→
 (stRun t s l k).c=1
 |0,_,_,h2=>by simp at h2;omega
 |k+1,hk,hh,h2=>by
  have ht:=holds_take _ M (by omega) hh
  rw [fm_snoc _ M k (by omega),List.length_append] at h2
  have hlm:(mbF l (M.getD k default)).length=(mbbL (M.getD k default).1 (M.getD k default).2 l).length:=rfl
  rw [stRun];simp only
  by_cases hf:s+(((M.take k).flatMap (mbF l)).length:Int)≤8*(t.length:Int)
  ·have ih:=holds_mbs hs k (by omega) (hB.fit ht.1 hf)
   rw [ih]
   simp only
   have hx:=cut_mb hB (ok_blk hs (i:=k) (by omega)) ht.2 hf (by omega)
   rw [if_pos trivial,if_neg (by rw [hx];decide)]
   exact hx
  ·have ih:=cut_mbs hB hs h1 k (by omega) ht.1 (by omega)
   rw [if_neg (by rw [ih];decide)]
   exact ih
theorem cut_hd {t p:List UInt8} {w h q:Int} {b d:Bool} {l:List Int} (hB:Beg t p) (hh:HdOk w h q l) (hp:Holds p 0 (hdL w h q b d l)) (h2:8*(t.length:Int)<(hdL w h q b d l).length):(hdS t 0).c=1:=by
 have hw:=hd_ws hh.1
 have hs:=hh.1
 have hq:=hh.2.1
 have hlb:=lens_bits hh.2.2
 have b6:bitOk q 6:=⟨by decide,hq.1,by show q/64=0;omega⟩
 have b18:bitOk (lnum l) 18:=⟨by decide,hlb.1.1,by show lnum l/262144=0;omega⟩
 rw [hdL_parts hh] at hp h2
 simp only [List.length_append] at h2
 have l1:=bits_len (n:=183) (w:=8) (by decide)
 have l4:=bits_len b6
 have l5:=bits_len (two_bits b d).2
 have l6:=bits_len b18
 have q1:=holds_left hp
 have p1:=holds_right hp
 have q2:=holds_left p1
 have p2:=holds_right p1
 have q3:=holds_left p2
 have p3:=holds_right p2
 have q4:=holds_left p3
 have p4:=holds_right p3
 have q5:=holds_left p4
 have q6:=holds_right p4
 unfold hdS
 simp only
 by_cases f1:8≤8*(t.length:Int)
 ·have h1:=holds_bits (by decide) (by decide) (hB.fit q1 (by omega))
  have e1:=fb_yes (k:=hk1) h1.1 (ifE_yes h1.2.2)
  have hA1:(0:Int)+((bitsL 183 8).length:Int)=rbA t 0 8:=by rw [h1.2.1,l1]
  rw [hA1] at q2 q3 q4 q5 q6
  rw [e1.1,e1.2.1]
  generalize ha1:rbA t 0 8=a1 at*
  by_cases f2:a1+((ueL (w/8-1)).length:Int)≤8*(t.length:Int)
  ·have h2':=holds_ue hw.1 (hB.fit q2 f2)
   have e2:=fu_yes (k:=hk2) h2'.1 (ifE_yes (by rw [h2'.2.2];omega))
   rw [e2.1,e2.2.1]
   have hA2:=h2'.2.1.symm
   rw [hA2] at q3 q4 q5 q6
   generalize ha2:ueA t a1=a2 at*
   by_cases f3:a2+((ueL (h/8-1)).length:Int)≤8*(t.length:Int)
   ·have h3:=holds_ue hw.2 (hB.fit q3 f3)
    have e3:=fu_yes (k:=hk2) h3.1 (ifE_yes (by rw [h3.2.2];omega))
    rw [e3.1,e3.2.1]
    have hA3:=h3.2.1.symm
    rw [hA3] at q4 q5 q6
    generalize ha3:ueA t a2=a3 at*
    rw [l4] at q5 q6
    by_cases f4:a3+6≤8*(t.length:Int)
    ·have h4:=holds_bits b6 (by decide) (hB.fit q4 (by rw [l4];exact f4))
     have e4:=fb_yes (k:=hk3) h4.1 (ifE_yes (by rw [h4.2.2];omega))
     rw [e4.1,e4.2.1]
     have hA4:=h4.2.1.symm
     rw [hA4] at q5 q6
     generalize ha4:rbA t a3 6=a4 at*
     rw [l5] at q6
     by_cases f5:a4+2≤8*(t.length:Int)
     ·have h5:=holds_bits (two_bits b d).2 (by decide) (hB.fit q5 (by rw [l5];exact f5))
      have e5:=fb_yes (k:=hk4) h5.1 rfl
      rw [e5.1,e5.2.1]
      have hA5:=h5.2.1.symm
      rw [hA5] at q6
      generalize ha5:rbA t a4 2=a5 at*
      exact fb_short (cut_rb q6.1 (by omega) (by omega))
     ·rw [fb_short (cut_rb q5.1 (by omega) (by omega)),fbC_keep (c:=1) (by decide)]
    ·rw [fb_short (cut_rb q4.1 (by omega) (by omega)),fbC_keep (c:=1) (by decide),fbC_keep (c:=1) (by decide)]
   ·rw [fu_short (cut_ue hB hw.2 q3 (by omega) (by omega)),fbC_keep (c:=1) (by decide),fbC_keep (c:=1) (by decide),fbC_keep (c:=1) (by decide)]
  ·rw [fu_short (cut_ue hB hw.1 q2 (by omega) (by omega)),fuC_keep (c:=1) (by decide),fbC_keep (c:=1) (by decide),fbC_keep (c:=1) (by decide),fbC_keep (c:=1) (by decide)]
 ·rw [fb_short (cut_rb (by decide) (by omega) (by omega)),fuC_keep (c:=1) (by decide),fuC_keep (c:=1) (by decide),fbC_keep (c:=1) (by decide),fbC_keep (c:=1) (by decide),fbC_keep (c:=1) (by decide)]
theorem cut_unp {w h q:Int} {b d:Bool} {l:List Int} {M:List Mbk} {n:Nat} (hs:StOk w h q l M) (hn:n<(unpS w h q b d l M).length):(prS ((unpS w h q b d l M).take n)).c=1:=by
 have hB:=beg_take (unpS w h q b d l M) (Nat.le_of_lt hn)
 have htl:((unpS w h q b d l M).take n).length=n:=by rw [List.length_take];omega
 generalize (unpS w h q b d l M).take n=t at*
 unfold unpS at hn hB
 rw [if_pos hs] at hn hB
 have hb:=b01_st w h q b d l M M.length
 have hh:=stop_holds hb
 have hsl:=stopS_len (stK w h q b d l M M.length)
 unfold padL at hh
 have h0:=holds_left (holds_left hh)
 clear hh
 generalize hp:stopS (stK w h q b d l M M.length)=p at*
 generalize hk:stK w h q b d l M M.length=x at*
 have e:x=hdL w h q b d l++M.flatMap (mbF l):=by rw [←hk];unfold stK;rw [List.take_length]
 have el:x.length=(hdL w h q b d l).length+(M.flatMap (mbF l)).length:=by rw [e,List.length_append]
 rw [e] at h0
 have hx:8*(t.length:Int)≤x.length:=by omega
 by_cases f1:((hdL w h q b d l).length:Int)≤8*(t.length:Int)
 ·have h1:=holds_hd hs.1 (hB.fit (holds_left h0) (by omega))
  have h2:=holds_right h0
  rw [Int.zero_add] at h1 h2
  have hcm:(cntM w h).toNat=M.length:=by have:=hs.2.1;omega
  by_cases f2:((hdL w h q b d l).length:Int)+(M.flatMap (mbF l)).length≤8*(t.length:Int)
  ·have h3:=holds_mbs hs M.length (Nat.le_refl _) (by rw [List.take_length];exact hB.fit h2 f2)
   rw [List.take_length] at h3
   unfold prS
   simp only
   rw [if_pos h1.2.1,h1.1,h1.2.2.1,h1.2.2.2.1,h1.2.2.2.2.2.2.2,hcm,h3]
   simp only [if_true]
   have hz:endC t ((hdL w h q b d l).length+(M.flatMap (mbF l)).length)=1:=by
    unfold endC
    rw [if_pos]
    rw [lft_ok ⟨by omega,by omega⟩];omega
   rw [if_neg (by rw [hz];decide)]
   exact hz
  ·have h3:=cut_mbs hB hs (s:=(hdL w h q b d l).length) f1 M.length (Nat.le_refl _) (by rw [List.take_length];exact h2) (by rw [List.take_length];omega)
   unfold prS
   simp only
   rw [if_pos h1.2.1,h1.1,h1.2.2.1,h1.2.2.2.1,h1.2.2.2.2.2.2.2,hcm,if_neg (by rw [h3];decide)]
   exact h3
 ·have h1:=cut_hd hB hs.1 (holds_left h0) (by omega)
  unfold prS
  simp only
  rw [if_neg (by rw [h1];decide)]
  exact h1
end Go.Proofs.YtndflfipaddfoaaGreat


namespace Go.Proofs.YtndflfipaddfoaaGreat
open Go Go.Abs
def part (f:Nat→Int) (N j:Nat) (v:Int):List Int:=(List.range N).map fun q=>if q<j then f q else if q=j then v else 0
def tabL (f:Nat→Int) (N:Nat):List Int:=(List.range N).map f
theorem part_len (f:Nat→Int) (N j:Nat) (v:Int):(part f N j v).length=N:=by simp [part]
theorem tabL_len (f:Nat→Int) (N:Nat):(tabL f N).length=N:=by simp [tabL]
theorem map_getD {f:Nat→Int} {N j:Nat} (h:j<N):((List.range N).map f).getD j 0=f j:=by
 simp only [List.getD_eq_getElem?_getD,List.getElem?_map,List.getElem?_range h,Option.map_some,Option.getD_some]
theorem part_get {f:Nat→Int} {N j:Nat} {v:Int} (h:j<N):(part f N j v).getD j 0=v:=by
 unfold part;rw [map_getD h,if_neg (by omega),if_pos rfl]
theorem tabL_get {f:Nat→Int} {N j:Nat} (h:j<N):(tabL f N).getD j 0=f j:=map_getD h
theorem list_ext {xs ys:List Int} {N:Nat} (h1:xs.length=N) (h2:ys.length=N) (h:∀j,j<N→xs.getD j 0=ys.getD j 0):xs=ys:=
 eq_all 0 (by omega) (fun j hj=>h j (by omega))
theorem getD_set2 {c:List Int} {i j:Nat} {v:Int} (h:i<c.length):(c.set i v).getD j 0=if j=i then v else c.getD j 0:=by
 rw [List.getD_eq_getElem?_getD,List.getElem?_set]
 by_cases e:i=j
 ·subst e;simp [h]
 ·have:¬j=i:=fun h=>e h.symm
  simp [e,this]
theorem part_set {f:Nat→Int} {N j:Nat} {v u:Int} (h:j<N):(part f N j v).set j u=part f N j u:=by
 refine list_ext (N:=N) (by simp [part]) (part_len _ _ _ _) fun q hq=>?_
 rw [getD_set2 (by rw [part_len];exact h)]
 unfold part
 rw [map_getD hq,map_getD hq]
 by_cases e:q=j
 ·rw [if_pos e,if_neg (by omega),if_pos e]
 ·rw [if_neg e,if_neg e,if_neg e]
theorem part_next {f:Nat→Int} {N j:Nat} {v:Int} (h:v=f j):part f N j v=part f N (j+1) 0:=by
 refine list_ext (N:=N) (part_len _ _ _ _) (part_len _ _ _ _) fun q hq=>?_
 unfold part
 rw [map_getD hq,map_getD hq]
 by_cases e:q<j
 ·rw [if_pos e,if_pos (by omega)]
 ·by_cases e2:q=j
  ·rw [if_neg e,if_pos e2,if_pos (by omega),h,e2]
  ·rw [if_neg e,if_neg e2,if_neg (by omega)];split<;>rfl
theorem part_zero (f:Nat→Int) (N:Nat):part f N 0 0=List.replicate N 0:=by
 refine list_ext (N:=N) (part_len _ _ _ _) (by simp) fun q hq=>?_
 unfold part
 rw [map_getD hq,if_neg (by omega)]
 simp [hq]
theorem part_all (f:Nat→Int) (N:Nat) (v:Int):part f N N v=tabL f N:=by
 refine list_ext (N:=N) (part_len _ _ _ _) (tabL_len _ _) fun q hq=>?_
 unfold part
 rw [map_getD hq,tabL_get hq,if_pos hq]
def sumF (f:Nat→Int):Nat→Int
 |0=>0
 |k+1=>sumF f k+f k
theorem sumF_bd {f:Nat→Int} {c:Int} (hc:0≤c):∀k,(∀ i,i<k→-c≤f i∧f i≤c)→-(k*c)≤sumF f k∧sumF f k≤k*c
 |0,h=>by simp [sumF]
 |k+1,h=>by
  have h1:=sumF_bd hc k (fun i hi=>h i (by omega))
  have h2:=h k (by omega)
  have e:((k+1:Nat):Int)*c=k*c+c:=by rw [Int.natCast_add,Int.add_mul];simp
  rw [sumF,e];omega
theorem mul2 {a b c:Int} (ha:a=-2∨a=-1∨a=0∨a=1∨a=2) (hb:-c≤b∧b≤c) (hc:0≤c):-(2*c)≤a*b∧a*b≤2*c:=by
 rcases ha with rfl|rfl|rfl|rfl|rfl<;>omega
def A4:List (List Int):=[[1,1,1,1],[2,1,-1,-2],[1,-1,-1,1],[1,-2,2,-1]]
def par (b:Nat):Int:=if (b%2+b/2%2+b/4%2)%2=0 then 1 else -1
def mx (n r i:Nat):Int:=if n=4 then (A4.getD r []).getD i 0 else par (r &&& i)
theorem mx_val (n r i:Nat):mx n r i=-2∨mx n r i=-1∨mx n r i=0∨mx n r i=1∨mx n r i=2:=by
 unfold mx
 split
 ·rcases Nat.lt_or_ge r 4 with h|h
  ·rcases Nat.lt_or_ge i 4 with h2|h2
   ·have key:∀r i:Fin 4,(A4.getD r.val []).getD i.val 0=-2∨(A4.getD r.val []).getD i.val 0=-1∨(A4.getD r.val []).getD i.val 0=0∨(A4.getD r.val []).getD i.val 0=1∨(A4.getD r.val []).getD i.val 0=2:=by decide
    exact key ⟨r,h⟩ ⟨i,h2⟩
   ·have key:∀r:Fin 4,(A4.getD r.val []).length=4:=by decide
    have:=key ⟨r,h⟩
    right;right;left
    rw [List.getD_eq_getElem?_getD,List.getElem?_eq_none (by simp only at this;omega)];rfl
  ·right;right;left
   have:A4.getD r []=[]:=by rw [List.getD_eq_getElem?_getD,List.getElem?_eq_none (by show 4≤r;exact h)];rfl
   rw [this];rfl
 ·unfold par;split<;>omega
theorem andw (p q:Nat) (h:p<2 ^ 62) (h2:q<2 ^ 62):IntKind.i64.wrap ((BitVec.ofInt IntKind.i64.bits (p:Int) &&& BitVec.ofInt IntKind.i64.bits (q:Int)).toNat:Nat)=((p &&& q:Nat):Int):=by
 have e1:(BitVec.ofInt IntKind.i64.bits (p:Int)).toNat=p:=by simp only [IntKind.bits,BitVec.toNat_ofInt];omega
 have e2:(BitVec.ofInt IntKind.i64.bits (q:Int)).toNat=q:=by simp only [IntKind.bits,BitVec.toNat_ofInt];omega
 rw [BitVec.toNat_and,e1,e2]
 have:=Nat.and_le_left (n:=p) (m:=q)
 exact wrap64 _ (by omega)
def mg (n:Nat) (back:Bool) (r i:Nat):Int:=if back then mx n i r else mx n r i
def halfM (n:Nat) (g:Nat→Nat→Int) (l:List Int) (r k:Nat):Int:=sumF (fun i=>g r i*l.getD (i*n+k) 0) n
def fullM (n:Nat) (g:Nat→Nat→Int) (l:List Int) (r k:Nat):Int:=sumF (fun i=>halfM n g l r i*g k i) n
def mulM (n:Nat) (g:Nat→Nat→Int) (l:List Int):List Int:=tabL (fun q=>fullM n g l (q/n) (q%n)) (n*n)
theorem in_getZ {l:List Int} {c:Int} (h:In l (-c) c) (hc:0≤c) (k:Nat):-c≤l.getD k 0∧l.getD k 0≤c:=by
 rcases Nat.lt_or_ge k l.length with h1|h1
 ·exact in_get h h1
 ·rw [List.getD_eq_getElem?_getD,List.getElem?_eq_none h1,Option.getD_none];omega
theorem half_bd {n:Nat} {g:Nat→Nat→Int} {l:List Int} {c:Int} (hg:∀r i,g r i=-2∨g r i=-1∨g r i=0∨g r i=1∨g r i=2) (h:In l (-c) c) (hc:0≤c) (r k i:Nat):
 -(i*(2*c))≤sumF (fun i=>g r i*l.getD (i*n+k) 0) i∧sumF (fun i=>g r i*l.getD (i*n+k) 0) i≤i*(2*c):=
 sumF_bd (by omega) i fun j _=>mul2 (hg r j) (in_getZ h hc _) hc
end Go.Proofs.YtndflfipaddfoaaGreat


namespace Go.Proofs.YtndflfipaddfoaaGreat
open Go Go.Abs
attribute [local irreducible] WpA WpL Rnd Blk Abs.Seq Abs.Fin Abs.FinG FnC FnG Only
theorem tabL_snoc (f:Nat→Int) (k:Nat):tabL f (k+1)=tabL f k++[f k]:=by simp [tabL,List.range_succ]
def H8:List (List Int):=(List.range 8).map fun r=>tabL (mx 8 r) 8
instance matrixA_c:Con 288 (Fn 288 [] [⟨rows liF A4,0,1,some 22⟩] (.own 0 0 0 4)):=⟨by
 refine FnC.of_body tabOk Tryz.func288 Tryz.ntmps288 rfl (by decide +kernel) (by simp) fun G=>?_
 refine go (r:=?_);and_intros<;>intros<;>try exact True.intro
 all_goals rfl⟩
end Go.Proofs.YtndflfipaddfoaaGreat


namespace Go.Proofs.YtndflfipaddfoaaGreat
open Go Go.Abs
attribute [local irreducible] WpA WpL Rnd Blk Abs.Seq Abs.Fin Abs.FinG FnC FnG Only
abbrev fh (n:Nat) (g:Nat→Nat→Int) (l:List Int) (q:Nat):Int:=halfM n g l (q/n) (q%n)
abbrev fo (n:Nat) (g:Nat→Nat→Int) (l:List Int) (q:Nat):Int:=fullM n g l (q/n) (q%n)
abbrev sh (n:Nat) (g:Nat→Nat→Int) (l:List Int) (r k i:Nat):Int:=sumF (fun i=>g r i*l.getD (i*n+k) 0) i
abbrev so (n:Nat) (g:Nat→Nat→Int) (l:List Int) (r k i:Nat):Int:=sumF (fun i=>halfM n g l r i*g k i) i
theorem divmod {n r k:Nat} (h:k<n):(r*n+k)/n=r∧(r*n+k)%n=k:=by
 have hn:0<n:=by omega
 constructor
 ·rw [Nat.mul_comm,Nat.mul_add_div hn,Nat.div_eq_of_lt h,Nat.add_zero]
 ·rw [Nat.mul_comm,Nat.mul_add_mod,Nat.mod_eq_of_lt h]
theorem mul_huge {a b:Int} (h:-17000000000≤a∧a≤17000000000) (h2:b=-2∨b=-1∨b=0∨b=1∨b=2):-34000000000≤a*b∧a*b≤34000000000:=by
 rcases h2 with rfl|rfl|rfl|rfl|rfl<;>omega
abbrev Sgn (g:Nat→Nat→Int):Prop:=∀r i,g r i=-2∨g r i=-1∨g r i=0∨g r i=1∨g r i=2
theorem half_in {n:Nat} {g:Nat→Nat→Int} {l:List Int} (hg:Sgn g) (hl:In l (-1000000000) 1000000000) (hn:n≤8) (r k:Nat):-17000000000≤halfM n g l r k∧halfM n g l r k≤17000000000:=by
 have:=half_bd (n:=n) (g:=g) (l:=l) (c:=1000000000) hg hl (by omega) r k n
 unfold halfM;omega
theorem so_bd {n:Nat} {g:Nat→Nat→Int} {l:List Int} (hg:Sgn g) (hl:In l (-1000000000) 1000000000) (hn:n≤8) (r k i:Nat):-(i*34000000000)≤so n g l r k i∧so n g l r k i≤i*34000000000:=
 sumF_bd (by omega) i fun j _=>mul_huge (half_in hg hl hn r j) (hg k j)
abbrev RowsOk (n:Nat) (g:Nat→Nat→Int) (M:List (List Int)):Prop:=M.length=n∧(∀ r,r<n→(M.getD r default).length=n)∧∀r i,r<n→i<n→(M.getD r default).getD i 0=g r i
def prodL (n:Nat) (g:Nat→Nat→Int) (l:List Int):List Int:=if l.length=n*n∧In l (-1000000000) 1000000000 then mulM n g l else []
theorem prodL_len (n:Nat) (g:Nat→Nat→Int) (l:List Int):(prodL n g l).length=if l.length=n*n∧In l (-1000000000) 1000000000 then n*n else 0:=by
 unfold prodL;split
 ·exact tabL_len _ _
 ·rfl
abbrev LLn (n:Nat) (M:List (List Int)):AV:=.imm 1 n (rows liI M)
theorem product_4 (g:Nat→Nat→Int) (M:List (List Int)) (l:List Int) (hg:Sgn g) (hM:RowsOk 4 g M) (hl:l.length≤1099511627776):Fn 286 [LLn 4 M,IL l] [XI (prodL 4 g l)] (.own 0 0 0 (prodL 4 g l).length):=by
 obtain ⟨hM1,hM2,hM3⟩:=hM
 have hpl:=prodL_len 4 g l
 by_cases h:l.length=16∧In l (-1000000000) 1000000000
 ·obtain ⟨h1,h2⟩:=id h
  have e:prodL 4 g l=tabL (fo 4 g l) 16:=by rw [prodL,if_pos h];rfl
  refine FnC.of_body tabOk Tryz.func286 Tryz.ntmps286 rfl (by decide +kernel) (by simp) fun G=>?_
  refine goR (r:=?_);and_intros<;>intros<;>try exact True.intro
  all_goals first|(exfalso;omega)|(exact absurd h2 (by assumption))|skip
  apply WpA.regionQ0 (O1:=[XD (List.replicate 16 0),XD (List.replicate 16 0),deadO,deadO]) 9 2 mixed (by decide +kernel)
  ·exact rfl
  ·apply HeadQ.consF .none rfl
   ·exact rfl
   ·exact in1
   ·exact rfl
   ·exact rfl
   apply HeadQ.consF .none rfl
   ·exact rfl
   ·exact in1
   ·exact rfl
   ·exact rfl
   apply HeadQ.consF .none rfl
   ·exact rfl
   ·exact in1
   ·exact rfl
   ·exact rfl
   apply HeadQ.consF (V:=.own 0 1 0 16) (.put 0 (XD (List.replicate 16 0))) rfl
   ·exact rfl
   ·intro Tv Ov hc hp hd hk
    refine WpL.makeInts tabOk rfl rfl rfl (by decide) (by decide) (by rw [nid_len,Nat.zero_add]) (by decide) ?_
    apply WpL.putNil (p:=0)
    ·exact hp 0 _ rfl
    ·exact Nat.zero_le _
    ·exact rfl
    ·first|exact still_ints _|exact still_rows (fun _=>rfl) _|rfl
   ·exact rfl
   ·exact rfl
   apply HeadQ.consF .none rfl
   ·exact rfl
   ·exact in1
   ·exact rfl
   ·exact rfl
   apply HeadQ.consF .none rfl
   ·exact rfl
   ·exact in1
   ·exact rfl
   ·exact rfl
   apply HeadQ.consF .none rfl
   ·exact rfl
   ·exact in1
   ·exact rfl
   ·exact rfl
   apply HeadQ.consF (V:=.own 1 1 0 16) (.put 1 (XD (List.replicate 16 0))) rfl
   ·exact rfl
   ·intro Tv Ov hc hp hd hk
    refine WpL.makeInts tabOk rfl rfl rfl (by decide) (by decide) (by rw [nid_len,Nat.zero_add]) (by decide) ?_
    apply WpL.putNil (p:=1)
    ·exact hp 1 _ rfl
    ·exact Nat.zero_le _
    ·exact rfl
    ·first|exact still_ints _|exact still_rows (fun _=>rfl) _|rfl
   ·exact rfl
   ·exact rfl
   apply HeadQ.consF .none rfl
   ·exact rfl
   ·exact in1
   ·exact rfl
   ·exact rfl
   exact HeadQ.nil
  ·exact rfl
  ·exact rfl
  ·exact rfl
  ·exact rfl
  ·exact rfl
  ·exact rfl
  refine go (r:=?_);and_intros<;>intros<;>try exact True.intro
  refine WpA.loop (fun r:Nat=>⟨[(0,LLn 4 M),(1,IL l),(5,I 4),(6,.own 0 1 0 16),(7,.own 1 1 0 16),(35,I 4),(36,I r)],[XD (part (fh 4 g l) 16 (r*4) 0),XD (List.replicate 16 0)]⟩) (fun r=>r≤4) (fun r=>4-r) 0 (by omega) (go (r:=?_)) (fun r hr=>?_)
  ·simp [part_zero]
  have hpl1:=part_len (fh 4 g l) 16 (r*4) 0
  refine go (r:=?_);and_intros<;>intros<;>try exact True.intro
  ·refine WpA.loop (fun k:Nat=>⟨[(0,LLn 4 M),(1,IL l),(5,I 4),(6,.own 0 1 0 16),(7,.own 1 1 0 16),(8,I r),(35,I 4),(36,I r),(39,I 4),(40,I k)],[XD (part (fh 4 g l) 16 (r*4+k) 0),XD (List.replicate 16 0)]⟩) (fun k=>k≤4) (fun k=>4-k) 0 (by omega) (go (r:=?_)) (fun k hk=>?_)
   ·trivial
   have hpl2:=part_len (fh 4 g l) 16 (r*4+k) 0
   refine go (r:=?_);and_intros<;>intros<;>try exact True.intro
   ·refine WpA.loop (fun i:Nat=>⟨[(0,LLn 4 M),(1,IL l),(5,I 4),(6,.own 0 1 0 16),(7,.own 1 1 0 16),(8,I r),(9,I k),(35,I 4),(36,I r),(39,I 4),(40,I k),(43,I 4),(44,I i)],[XD (part (fh 4 g l) 16 (r*4+k) (sh 4 g l r k i)),XD (List.replicate 16 0)]⟩) (fun i=>i≤4) (fun i=>4-i) 0 (by omega) (go (r:=?_)) (fun i hi=>?_)
    ·simp [sumF]
    have hpl3:=part_len (fh 4 g l) 16 (r*4+k) (sh 4 g l r k i)
    have hM2r:=hM2 r
    have hsb:-((i:Int)*(2*1000000000))≤sh 4 g l r k i∧sh 4 g l r k i≤(i:Int)*(2*1000000000):=half_bd (n:=4) (g:=g) (l:=l) (c:=1000000000) hg h2 (by omega) r k i
    have hdm:=divmod (n:=4) (r:=r) (k:=k)
    have hgl:=in_getZ h2 (by decide) (i*4+k)
    have hgg:=mul2 (hg r i) hgl (by decide)
    have hst:sh 4 g l r k (i+1)=sh 4 g l r k i+g r i*l.getD (i*4+k) 0:=rfl
    refine go (r:=?_);and_intros<;>intros<;>try exact True.intro
    ·rename_i hi1
     have hr1:r<4:=by omega
     have hk1:k<4:=by omega
     have e1:((r:Int)*4+k).toNat=r*4+k:=by omega
     have e2:((i:Int)*4+k).toNat=i*4+k:=by omega
     have e3:(M.getD r default).getD i 0=g r i:=hM3 r i hr1 (by omega)
     rw [e1,e2,e3,part_get (by omega),part_set (by omega),wrap64 (g r i*l.getD (i*4+k) 0) (by omega),wrap64 _ (by omega),hst]
    ·have hi1:i=4:=by omega
     subst hi1
     rw [←Nat.add_assoc];exact part_next (by show sh 4 g l r k 4=halfM 4 g l ((r*4+k)/4) ((r*4+k)%4);rw [(hdm (by omega)).1,(hdm (by omega)).2];rfl)
   ·have hk1:k=4:=by omega
    rw [hk1,Nat.succ_mul]
  have hr1:r=4:=by omega
  subst hr1
  have ep:part (fh 4 g l) 16 (4*4) 0=tabL (fh 4 g l) 16:=part_all _ _ _
  rw [ep]
  have hplh:=tabL_len (fh 4 g l) 16
  refine WpA.loop (fun r:Nat=>⟨[(0,LLn 4 M),(5,I 4),(6,.own 0 1 0 16),(7,.own 1 1 0 16),(76,I 4),(77,I r)],[XD (tabL (fh 4 g l) 16),XD (part (fo 4 g l) 16 (r*4) 0)]⟩) (fun r=>r≤4) (fun r=>4-r) 0 (by omega) (go (r:=?_)) (fun r hr=>?_)
  ·simp [part_zero]
  have hpl1:=part_len (fo 4 g l) 16 (r*4) 0
  refine go (r:=?_);and_intros<;>intros<;>try exact True.intro
  ·refine WpA.loop (fun k:Nat=>⟨[(0,LLn 4 M),(5,I 4),(6,.own 0 1 0 16),(7,.own 1 1 0 16),(11,I r),(76,I 4),(77,I r),(80,I 4),(81,I k)],[XD (tabL (fh 4 g l) 16),XD (part (fo 4 g l) 16 (r*4+k) 0)]⟩) (fun k=>k≤4) (fun k=>4-k) 0 (by omega) (go (r:=?_)) (fun k hk=>?_)
   ·trivial
   have hpl2:=part_len (fo 4 g l) 16 (r*4+k) 0
   refine go (r:=?_);and_intros<;>intros<;>try exact True.intro
   ·refine WpA.loop (fun i:Nat=>⟨[(0,LLn 4 M),(5,I 4),(6,.own 0 1 0 16),(7,.own 1 1 0 16),(11,I r),(12,I k),(76,I 4),(77,I r),(80,I 4),(81,I k),(84,I 4),(85,I i)],[XD (tabL (fh 4 g l) 16),XD (part (fo 4 g l) 16 (r*4+k) (so 4 g l r k i))]⟩) (fun i=>i≤4) (fun i=>4-i) 0 (by omega) (go (r:=?_)) (fun i hi=>?_)
    ·simp [sumF]
    have hpl3:=part_len (fo 4 g l) 16 (r*4+k) (so 4 g l r k i)
    have hM2r:=hM2 k
    have hsb:=so_bd (n:=4) hg h2 (by omega) r k i
    have hdm:=divmod (n:=4) (r:=r) (k:=k)
    have hdi:=divmod (n:=4) (r:=r) (k:=i)
    have hgl:=half_in (n:=4) hg h2 (by omega) r i
    have hgg:=mul_huge hgl (hg k i)
    have hst:so 4 g l r k (i+1)=so 4 g l r k i+halfM 4 g l r i*g k i:=rfl
    refine go (r:=?_);and_intros<;>intros<;>try exact True.intro
    ·rename_i hi1
     have hr1:r<4:=by omega
     have hk1:k<4:=by omega
     have e1:((r:Int)*4+k).toNat=r*4+k:=by omega
     have e2:((r:Int)*4+i).toNat=r*4+i:=by omega
     have e3:(M.getD k default).getD i 0=g k i:=hM3 k i hk1 (by omega)
     have e4:(tabL (fh 4 g l) 16).getD (r*4+i) 0=halfM 4 g l r i:=by rw [tabL_get (by omega)];show halfM 4 g l ((r*4+i)/4) ((r*4+i)%4)=_;rw [(hdi (by omega)).1,(hdi (by omega)).2]
     rw [e1,e2,e3,e4,part_get (by omega),part_set (by omega),wrap64 (halfM 4 g l r i*g k i) (by omega),wrap64 _ (by omega),hst]
    ·have hi1:i=4:=by omega
     subst hi1
     rw [←Nat.add_assoc];exact part_next (by show so 4 g l r k 4=fullM 4 g l ((r*4+k)/4) ((r*4+k)%4);rw [(hdm (by omega)).1,(hdm (by omega)).2];rfl)
   ·have hk1:k=4:=by omega
    rw [hk1,Nat.succ_mul]
  all_goals have hr1:r=4:=by omega
  all_goals subst hr1
  all_goals first|(rw [e,tabL_len];done)|(rw [e];exact congrArg _ (part_all _ _ _))|(rw [e];exact part_all _ _ _)
 ·have e:prodL 4 g l=[]:=by rw [prodL,if_neg h]
  refine FnC.of_body tabOk Tryz.func286 Tryz.ntmps286 rfl (by decide +kernel) (by simp) fun G=>?_
  refine goR (r:=?_);and_intros<;>intros<;>try exact True.intro
  all_goals first|(rw [e];done)|(rw [e];rfl)|(exact absurd ⟨by omega,by assumption⟩ h)
theorem product_8 (g:Nat→Nat→Int) (M:List (List Int)) (l:List Int) (hg:Sgn g) (hM:RowsOk 8 g M) (hl:l.length≤1099511627776):Fn 286 [LLn 8 M,IL l] [XI (prodL 8 g l)] (.own 0 0 0 (prodL 8 g l).length):=by
 obtain ⟨hM1,hM2,hM3⟩:=hM
 have hpl:=prodL_len 8 g l
 by_cases h:l.length=64∧In l (-1000000000) 1000000000
 ·obtain ⟨h1,h2⟩:=id h
  have e:prodL 8 g l=tabL (fo 8 g l) 64:=by rw [prodL,if_pos h];rfl
  refine FnC.of_body tabOk Tryz.func286 Tryz.ntmps286 rfl (by decide +kernel) (by simp) fun G=>?_
  refine goR (r:=?_);and_intros<;>intros<;>try exact True.intro
  all_goals first|(exfalso;omega)|(exact absurd h2 (by assumption))|skip
  apply WpA.regionQ0 (O1:=[XD (List.replicate 64 0),XD (List.replicate 64 0),deadO,deadO]) 9 2 mixed (by decide +kernel)
  ·exact rfl
  ·apply HeadQ.consF .none rfl
   ·exact rfl
   ·exact in1
   ·exact rfl
   ·exact rfl
   apply HeadQ.consF .none rfl
   ·exact rfl
   ·exact in1
   ·exact rfl
   ·exact rfl
   apply HeadQ.consF .none rfl
   ·exact rfl
   ·exact in1
   ·exact rfl
   ·exact rfl
   apply HeadQ.consF (V:=.own 0 1 0 64) (.put 0 (XD (List.replicate 64 0))) rfl
   ·exact rfl
   ·intro Tv Ov hc hp hd hk
    refine WpL.makeInts tabOk rfl rfl rfl (by decide) (by decide) (by rw [nid_len,Nat.zero_add]) (by decide) ?_
    apply WpL.putNil (p:=0)
    ·exact hp 0 _ rfl
    ·exact Nat.zero_le _
    ·exact rfl
    ·first|exact still_ints _|exact still_rows (fun _=>rfl) _|rfl
   ·exact rfl
   ·exact rfl
   apply HeadQ.consF .none rfl
   ·exact rfl
   ·exact in1
   ·exact rfl
   ·exact rfl
   apply HeadQ.consF .none rfl
   ·exact rfl
   ·exact in1
   ·exact rfl
   ·exact rfl
   apply HeadQ.consF .none rfl
   ·exact rfl
   ·exact in1
   ·exact rfl
   ·exact rfl
   apply HeadQ.consF (V:=.own 1 1 0 64) (.put 1 (XD (List.replicate 64 0))) rfl
   ·exact rfl
   ·intro Tv Ov hc hp hd hk
    refine WpL.makeInts tabOk rfl rfl rfl (by decide) (by decide) (by rw [nid_len,Nat.zero_add]) (by decide) ?_
    apply WpL.putNil (p:=1)
    ·exact hp 1 _ rfl
    ·exact Nat.zero_le _
    ·exact rfl
    ·first|exact still_ints _|exact still_rows (fun _=>rfl) _|rfl
   ·exact rfl
   ·exact rfl
   apply HeadQ.consF .none rfl
   ·exact rfl
   ·exact in1
   ·exact rfl
   ·exact rfl
   exact HeadQ.nil
  ·exact rfl
  ·exact rfl
  ·exact rfl
  ·exact rfl
  ·exact rfl
  ·exact rfl
  refine go (r:=?_);and_intros<;>intros<;>try exact True.intro
  refine WpA.loop (fun r:Nat=>⟨[(0,LLn 8 M),(1,IL l),(5,I 8),(6,.own 0 1 0 64),(7,.own 1 1 0 64),(35,I 8),(36,I r)],[XD (part (fh 8 g l) 64 (r*8) 0),XD (List.replicate 64 0)]⟩) (fun r=>r≤8) (fun r=>8-r) 0 (by omega) (go (r:=?_)) (fun r hr=>?_)
  ·simp [part_zero]
  have hpl1:=part_len (fh 8 g l) 64 (r*8) 0
  refine go (r:=?_);and_intros<;>intros<;>try exact True.intro
  ·refine WpA.loop (fun k:Nat=>⟨[(0,LLn 8 M),(1,IL l),(5,I 8),(6,.own 0 1 0 64),(7,.own 1 1 0 64),(8,I r),(35,I 8),(36,I r),(39,I 8),(40,I k)],[XD (part (fh 8 g l) 64 (r*8+k) 0),XD (List.replicate 64 0)]⟩) (fun k=>k≤8) (fun k=>8-k) 0 (by omega) (go (r:=?_)) (fun k hk=>?_)
   ·trivial
   have hpl2:=part_len (fh 8 g l) 64 (r*8+k) 0
   refine go (r:=?_);and_intros<;>intros<;>try exact True.intro
   ·refine WpA.loop (fun i:Nat=>⟨[(0,LLn 8 M),(1,IL l),(5,I 8),(6,.own 0 1 0 64),(7,.own 1 1 0 64),(8,I r),(9,I k),(35,I 8),(36,I r),(39,I 8),(40,I k),(43,I 8),(44,I i)],[XD (part (fh 8 g l) 64 (r*8+k) (sh 8 g l r k i)),XD (List.replicate 64 0)]⟩) (fun i=>i≤8) (fun i=>8-i) 0 (by omega) (go (r:=?_)) (fun i hi=>?_)
    ·simp [sumF]
    have hpl3:=part_len (fh 8 g l) 64 (r*8+k) (sh 8 g l r k i)
    have hM2r:=hM2 r
    have hsb:-((i:Int)*(2*1000000000))≤sh 8 g l r k i∧sh 8 g l r k i≤(i:Int)*(2*1000000000):=half_bd (n:=8) (g:=g) (l:=l) (c:=1000000000) hg h2 (by omega) r k i
    have hdm:=divmod (n:=8) (r:=r) (k:=k)
    have hgl:=in_getZ h2 (by decide) (i*8+k)
    have hgg:=mul2 (hg r i) hgl (by decide)
    have hst:sh 8 g l r k (i+1)=sh 8 g l r k i+g r i*l.getD (i*8+k) 0:=rfl
    refine go (r:=?_);and_intros<;>intros<;>try exact True.intro
    ·rename_i hi1
     have hr1:r<8:=by omega
     have hk1:k<8:=by omega
     have e1:((r:Int)*8+k).toNat=r*8+k:=by omega
     have e2:((i:Int)*8+k).toNat=i*8+k:=by omega
     have e3:(M.getD r default).getD i 0=g r i:=hM3 r i hr1 (by omega)
     rw [e1,e2,e3,part_get (by omega),part_set (by omega),wrap64 (g r i*l.getD (i*8+k) 0) (by omega),wrap64 _ (by omega),hst]
    ·have hi1:i=8:=by omega
     subst hi1
     rw [←Nat.add_assoc];exact part_next (by show sh 8 g l r k 8=halfM 8 g l ((r*8+k)/8) ((r*8+k)%8);rw [(hdm (by omega)).1,(hdm (by omega)).2];rfl)
   ·have hk1:k=8:=by omega
    rw [hk1,Nat.succ_mul]
  have hr1:r=8:=by omega
  subst hr1
  have ep:part (fh 8 g l) 64 (8*8) 0=tabL (fh 8 g l) 64:=part_all _ _ _
  rw [ep]
  have hplh:=tabL_len (fh 8 g l) 64
  refine WpA.loop (fun r:Nat=>⟨[(0,LLn 8 M),(5,I 8),(6,.own 0 1 0 64),(7,.own 1 1 0 64),(76,I 8),(77,I r)],[XD (tabL (fh 8 g l) 64),XD (part (fo 8 g l) 64 (r*8) 0)]⟩) (fun r=>r≤8) (fun r=>8-r) 0 (by omega) (go (r:=?_)) (fun r hr=>?_)
  ·simp [part_zero]
  have hpl1:=part_len (fo 8 g l) 64 (r*8) 0
  refine go (r:=?_);and_intros<;>intros<;>try exact True.intro
  ·refine WpA.loop (fun k:Nat=>⟨[(0,LLn 8 M),(5,I 8),(6,.own 0 1 0 64),(7,.own 1 1 0 64),(11,I r),(76,I 8),(77,I r),(80,I 8),(81,I k)],[XD (tabL (fh 8 g l) 64),XD (part (fo 8 g l) 64 (r*8+k) 0)]⟩) (fun k=>k≤8) (fun k=>8-k) 0 (by omega) (go (r:=?_)) (fun k hk=>?_)
   ·trivial
   have hpl2:=part_len (fo 8 g l) 64 (r*8+k) 0
   refine go (r:=?_);and_intros<;>intros<;>try exact True.intro
   ·refine WpA.loop (fun i:Nat=>⟨[(0,LLn 8 M),(5,I 8),(6,.own 0 1 0 64),(7,.own 1 1 0 64),(11,I r),(12,I k),(76,I 8),(77,I r),(80,I 8),(81,I k),(84,I 8),(85,I i)],[XD (tabL (fh 8 g l) 64),XD (part (fo 8 g l) 64 (r*8+k) (so 8 g l r k i))]⟩) (fun i=>i≤8) (fun i=>8-i) 0 (by omega) (go (r:=?_)) (fun i hi=>?_)
    ·simp [sumF]
    have hpl3:=part_len (fo 8 g l) 64 (r*8+k) (so 8 g l r k i)
    have hM2r:=hM2 k
    have hsb:=so_bd (n:=8) hg h2 (by omega) r k i
    have hdm:=divmod (n:=8) (r:=r) (k:=k)
    have hdi:=divmod (n:=8) (r:=r) (k:=i)
    have hgl:=half_in (n:=8) hg h2 (by omega) r i
    have hgg:=mul_huge hgl (hg k i)
    have hst:so 8 g l r k (i+1)=so 8 g l r k i+halfM 8 g l r i*g k i:=rfl
    refine go (r:=?_);and_intros<;>intros<;>try exact True.intro
    ·rename_i hi1
     have hr1:r<8:=by omega
     have hk1:k<8:=by omega
     have e1:((r:Int)*8+k).toNat=r*8+k:=by omega
     have e2:((r:Int)*8+i).toNat=r*8+i:=by omega
     have e3:(M.getD k default).getD i 0=g k i:=hM3 k i hk1 (by omega)
     have e4:(tabL (fh 8 g l) 64).getD (r*8+i) 0=halfM 8 g l r i:=by rw [tabL_get (by omega)];show halfM 8 g l ((r*8+i)/8) ((r*8+i)%8)=_;rw [(hdi (by omega)).1,(hdi (by omega)).2]
     rw [e1,e2,e3,e4,part_get (by omega),part_set (by omega),wrap64 (halfM 8 g l r i*g k i) (by omega),wrap64 _ (by omega),hst]
    ·have hi1:i=8:=by omega
     subst hi1
     rw [←Nat.add_assoc];exact part_next (by show so 8 g l r k 8=fullM 8 g l ((r*8+k)/8) ((r*8+k)%8);rw [(hdm (by omega)).1,(hdm (by omega)).2];rfl)
   ·have hk1:k=8:=by omega
    rw [hk1,Nat.succ_mul]
  all_goals have hr1:r=8:=by omega
  all_goals subst hr1
  all_goals first|(rw [e,tabL_len];done)|(rw [e];exact congrArg _ (part_all _ _ _))|(rw [e];exact part_all _ _ _)
 ·have e:prodL 8 g l=[]:=by rw [prodL,if_neg h]
  refine FnC.of_body tabOk Tryz.func286 Tryz.ntmps286 rfl (by decide +kernel) (by simp) fun G=>?_
  refine goR (r:=?_);and_intros<;>intros<;>try exact True.intro
  all_goals first|(rw [e];done)|(rw [e];rfl)|(exact absurd ⟨by omega,by assumption⟩ h)
end Go.Proofs.YtndflfipaddfoaaGreat


namespace Go.Proofs.YtndflfipaddfoaaGreat
open Go Go.Abs
attribute [local irreducible] WpA WpL Rnd Blk Abs.Seq Abs.Fin Abs.FinG FnC FnG Only RollN
def ocF (x:Int):Int:=if x=1∨x=2∨x=4 then 1 else if x=3∨x=5∨x=6 then 2 else if x=7 then 3 else 0
instance OnesCount64_c:Con 316 (∀ x:Int,0≤x∧x<8→Fn 316 [.sc (.int .u64 x)] [] (I (ocF x))):=⟨fun x hx=>by
 rcases (by omega:x=0∨x=1∨x=2∨x=3∨x=4∨x=5∨x=6∨x=7) with rfl|rfl|rfl|rfl|rfl|rfl|rfl|rfl
 all_goals refine FnC.of_body tabOk Tryz.func316 Tryz.ntmps316 rfl (by decide +kernel) (by simp) fun G=>?_
 all_goals refine go (r:=?_);and_intros<;>intros<;>try exact True.intro
 all_goals first|(decide +kernel)|rfl|(apply Re.setA (c:=cellsH r) (V:=.own 2 _ 0 _) (V':=.own 2 _ 0 _);(· apply Re.own (id:=2)<;>first|exact rfl|exact .nil);exact hst)⟩
instance OnesCount_c:Con 308 (∀ x:Int,0≤x∧x<8→Fn 308 [.sc (.int .u64 x)] [] (I (ocF x))):=⟨fun x hx=>by
 refine FnC.of_body tabOk Tryz.func308 Tryz.ntmps308 rfl (by decide +kernel) (by simp) fun G=>?_
 refine go (r:=?_);and_intros<;>intros<;>try exact True.intro⟩
theorem ocF_bd (x:Int):0≤ocF x∧ocF x≤3:=by unfold ocF;split<;>(try split)<;>(try split)<;>omega
theorem ocF_par (b:Nat) (h:b<8):1-2*(ocF b%2)=par b:=by
 rcases (by omega:b=0∨b=1∨b=2∨b=3∨b=4∨b=5∨b=6∨b=7) with rfl|rfl|rfl|rfl|rfl|rfl|rfl|rfl<;>rfl
def cellsH (r:Nat):List AV:=(List.range 8).map fun q=>if q<r then .fre 1 8 (ints (tabL (mx 8 q) 8)) else .nilS
theorem andu (r k:Nat) (h:r<8) (h2:k<8):IntKind.u64.wrap (IntKind.i64.wrap ((BitVec.ofInt IntKind.i64.bits (r:Int) &&& BitVec.ofInt IntKind.i64.bits (k:Int)).toNat:Nat))=((r &&& k:Nat):Int)∧r &&& k<8:=by
 have:=Nat.and_le_left (n:=r) (m:=k)
 rw [andw r k (by omega) (by omega)]
 refine ⟨?_,by omega⟩
 generalize r &&& k=b at this
 have hb:b<8:=by omega
 rcases (by omega:b=0∨b=1∨b=2∨b=3∨b=4∨b=5∨b=6∨b=7) with rfl|rfl|rfl|rfl|rfl|rfl|rfl|rfl<;>rfl
def invH (r:Nat):Nat→List AObj
 |0=>[⟨(cellsH r).set r .nilS,0,1,some 22⟩]
 |k+1=>[⟨(cellsH r).set r (.own 2 0 0 (k+1)),0,1,some 22⟩,⟨[.any],0,1,none⟩,XI (tabL (mx 8 r) (k+1))]
theorem cellsH_nil {r:Nat} (h:r<8):cellsH r=(cellsH r).set r .nilS:=by
 rcases (by omega:r=0∨r=1∨r=2∨r=3∨r=4∨r=5∨r=6∨r=7) with rfl|rfl|rfl|rfl|rfl|rfl|rfl|rfl<;>rfl
theorem cellsH_succ {r:Nat} (h:r<8) (X:AV):((cellsH r).set r X).set r (.fre 1 8 (ints (tabL (mx 8 r) 8)))=cellsH (r+1):=by
 rcases (by omega:r=0∨r=1∨r=2∨r=3∨r=4∨r=5∨r=6∨r=7) with rfl|rfl|rfl|rfl|rfl|rfl|rfl|rfl<;>rfl
theorem hnest {r:Nat} (h:r<8):flatO [⟨((cellsH r).set r (.own 2 0 0 8)).set r (.fre 1 8 (ints (tabL (mx 8 r) 8))),0,1,some 22⟩,⟨[.any],0,1,none⟩,⟨[],1,0,none⟩]=some [⟨cellsH (r+1),0,1,some 22⟩,⟨[.any],0,1,none⟩,⟨[],1,0,none⟩]:=by
 rw [cellsH_succ h];rfl
theorem Re.consA {O O':List AObj} {V V':AV} {vs us:List AV} (h:Re O O' [V] [V']) (r:Re O O' vs us):Re O O' (V::vs) (V'::us):=by
 cases h with
 |any _=>exact .any r
 |keep a b _=>exact .keep a b r
 |fn a _=>exact .fn a r
 |own a b c d e f _=>exact .own a b c d e f r
 |ptr a b c d _=>exact .ptr a b c d r
 |agg a _=>exact .agg a r
 |tup a _=>exact .tup a r
theorem Re.setA {O O':List AObj} {V V':AV} (h:Re O O' [V] [V']):∀{c:List AV} {i:Nat},c.all AV.still=true→Re O O' (c.set i V) (c.set i V')
 |[],i,_=>.nil
 |a::c,0,hs=>Re.consA h (Re.same rfl (by rw [List.all_cons,Bool.and_eq_true] at hs;exact hs.2))
 |a::c,i+1,hs=>by
  rw [List.all_cons,Bool.and_eq_true] at hs
  exact Re.keep rfl hs.1 (Re.setA h hs.2)
theorem cellsH_still (r:Nat):(cellsH r).all AV.still=true:=by
 rw [List.all_eq_true];intro V hV;simp only [cellsH,List.mem_map] at hV;obtain ⟨q,_,rfl⟩:=hV
 split<;>rfl
theorem cellsH_len (r:Nat):(cellsH r).length=8:=by simp [cellsH]
theorem cellsH_8:cellsH 8=rows liF H8:=rfl
theorem cellsH_0:cellsH 0=[.nilS,.nilS,.nilS,.nilS,.nilS,.nilS,.nilS,.nilS]:=rfl
attribute [local irreducible] cellsH
instance matrixH_c:Con 289 (Fn 289 [] [⟨rows liF H8,0,1,some 22⟩] (.own 0 0 0 8)):=⟨by
 refine FnC.of_body tabOk Tryz.func289 Tryz.ntmps289 rfl (by decide +kernel) (by simp) fun G=>?_
 refine K.A ?_
 refine WpA.seq ?_
 refine WpA.regionF rfl ?_
 refine WpL.assign rfl (by decide) ?_
 refine WpL.nil ?_
 refine Abs.Seq.n ?_
 refine WpA.seq ?_
 refine WpA.regionF rfl ?_
 refine WpL.make tabOk rfl rfl rfl (by decide) (by decide) rfl (by decide) ?_
 refine go (r:=?_);and_intros<;>intros<;>try exact True.intro
 refine WpA.loop (fun r:Nat=>⟨[(1,.own 0 0 0 8),(5,I r)],[⟨cellsH r,0,1,some 22⟩]⟩) (fun r=>r≤8) (fun r=>8-r) 0 (by omega) (go (r:=?_)) (fun r hr=>?_)
 ·and_intros<;>first|trivial|rfl|exact .nil|exact .inr rfl|exact Re.same cellsH_0.symm (cellsH_still 0)
 by_cases h8:r=8
 ·subst h8
  refine go (r:=?_);and_intros<;>intros<;>try exact True.intro
  all_goals first|exact cellsH_8
 have hr8:r<8:=by omega
 have hcl:=cellsH_len r
 have hst:=cellsH_still r
 have hc0:=cellsH_nil hr8
 refine go (r:=?_);and_intros<;>intros<;>try exact True.intro
 refine WpA.loop (fun k:Nat=>⟨[(1,.own 0 0 0 8),(2,I r),(5,I r),(8,I k)],invH r k⟩) (fun k=>k≤8) (fun k=>8-k) 0 (by omega) (go (r:=?_)) (fun k hk=>?_)
 ·and_intros<;>first|trivial|rfl|exact .nil|exact .inr rfl|(exact hc0)|exact Re.same hc0 (by rw [←hc0];exact hst)
 by_cases hk8:k=8
 ·subst hk8
  refine WpA.weak (NestC.weak (id:=0) (offs:=[r]) (O2:=[⟨cellsH (r+1),0,1,some 22⟩,⟨[.any],0,1,none⟩,⟨[],1,0,none⟩]) ?_) ?_
  ·apply NestC.cons (off:=r) (j:=2) (O1:=[⟨cellsH (r+1),0,1,some 22⟩,⟨[.any],0,1,none⟩,⟨[],1,0,none⟩])
   ·exact rfl
   ·exact List.getElem?_set_self (by omega)
   ·exact rfl
   ·exact rfl
   ·decide
   ·exact rfl
   ·exact still_ints _
   ·exact rfl
   ·exact hnest hr8
   ·exact .nil
  have hst1:=cellsH_still (r+1)
  refine go (r:=?_);and_intros<;>intros<;>try exact True.intro
  all_goals first|exact Re.same rfl hst1
 obtain ⟨hau,hal⟩:=andu r k (by omega) (by omega)
 have hob:=ocF_bd (IntKind.u64.wrap (IntKind.i64.wrap ((BitVec.ofInt IntKind.i64.bits ((r:Nat):Int) &&& BitVec.ofInt IntKind.i64.bits (k:Int)).toNat:Nat)))
 have hop:=ocF_par (r &&& k) hal
 have hkl:=tabL_len (mx 8 r) k
 have hval:1-2*(ocF (IntKind.u64.wrap (IntKind.i64.wrap ((BitVec.ofInt IntKind.i64.bits ((r:Nat):Int) &&& BitVec.ofInt IntKind.i64.bits (k:Int)).toNat:Nat)))%2)=mx 8 r k:=by rw [hau];exact hop
 rcases k with _|k
 ·refine go (r:=?_);and_intros<;>intros<;>try exact True.intro
  all_goals first|exact Re.any Re.nil|exact .inl rfl|(rw [hval];rfl)|(apply Re.setA (c:=cellsH r) (V:=.own 2 _ 0 _) (V':=.own 2 _ 0 _);(· apply Re.own (id:=2)<;>first|exact rfl|exact .nil);exact hst)|exact Re.same rfl hst
 ·refine go (r:=?_);and_intros<;>intros<;>try exact True.intro
  all_goals first|(rw [tabL_snoc _ (k+1),hval];done)|exact Re.any Re.nil|(apply Re.setA (c:=cellsH r) (V:=.own 2 _ 0 _) (V':=.own 2 _ 0 _);(· apply Re.own (id:=2)<;>first|exact rfl|exact .nil);exact hst)|(apply Re.setA (c:=cellsH r) (V:=.own 2 _ 0 _) (V':=.own 2 _ 0 _);(· apply Re.own (id:=2)<;>first|exact rfl|exact .nil);exact hst)⟩
end Go.Proofs.YtndflfipaddfoaaGreat


namespace Go.Proofs.YtndflfipaddfoaaGreat
open Go Go.Abs
attribute [local irreducible] WpA WpL Rnd Blk Abs.Seq Abs.Fin Abs.FinG FnC FnG Only
end Go.Proofs.YtndflfipaddfoaaGreat


namespace Go.Proofs.YtndflfipaddfoaaGreat
open Go Go.Abs
attribute [local irreducible] WpA WpL Rnd Blk Abs.Seq Abs.Fin Abs.FinG FnC FnG Only
def scX (d k:Nat):Int:=if (d:Int)%2=0 then (d:Int)-k else k
def scIn (n:Int) (d:Nat):Nat→List Int→List Int
 |0,o=>o
 |k+1,o=>if scX d k<n∧(d:Int)-scX d k<n then scIn n d k o++[((d:Int)-scX d k)*n+scX d k] else scIn n d k o
def scOut (n:Int):Nat→List Int
 |0=>[]
 |d+1=>scIn n d (d+1) (scOut n d)
def scanL (n:Int):List Int:=if n=4∨n=8 then scOut n (2*n-1).toNat else []
theorem scIn_yes {n:Int} {d k:Nat} {o:List Int} {x v:Int} (hx:scX d k=x) (h1:x<n) (h2:(d:Int)-x<n) (hv:v=((d:Int)-x)*n+x):scIn n d k o++[v]=scIn n d (k+1) o:=by
 rw [scIn,hx,if_pos ⟨h1,h2⟩,hv]
theorem scIn_no {n:Int} {d k:Nat} {o:List Int} {x:Int} (hx:scX d k=x) (h:¬(x<n∧(d:Int)-x<n)):scIn n d k o=scIn n d (k+1) o:=by
 rw [scIn,hx,if_neg h]
theorem scIn_len (n:Int) (d:Nat) (o:List Int):∀k,(scIn n d k o).length≤o.length+k
 |0=>by simp [scIn]
 |k+1=>by rw [scIn];have:=scIn_len n d o k;split<;>(try rw [List.length_append,List.length_singleton])<;>omega
theorem scOut_len (n:Int):∀d,d≤16→(scOut n d).length≤16*d
 |0,_=>by simp [scOut]
 |d+1,h=>by rw [scOut];have:=scIn_len n d (scOut n d) (d+1);have:=scOut_len n d (by omega);omega
theorem scX_even {d k:Nat} (h:(d:Int)%2=0):scX d k=d-k:=by rw [scX,if_pos h]
theorem scX_odd {d k:Nat} (h:¬(d:Int)%2=0):scX d k=k:=by rw [scX,if_neg h]
theorem scIn_l1 {n:Int} {d k:Nat} {o:List Int} (h:scX d k<n∧(d:Int)-scX d k<n):(scIn n d (k+1) o).length=(scIn n d k o).length+1:=by rw [scIn,if_pos h,List.length_append,List.length_singleton]
theorem scIn_l0 {n:Int} {d k:Nat} {o:List Int} (h:¬(scX d k<n∧(d:Int)-scX d k<n)):(scIn n d (k+1) o).length=(scIn n d k o).length:=by rw [scIn,if_neg h]
instance ScanOrder_c:Con 282 (∀ n:Int,n=0∨n=4∨n=8→Fn 282 [I n] [XI (scanL n)] (.own 0 0 0 (scanL n).length)):=⟨fun n hn=>by
 refine FnC.of_body tabOk Tryz.func282 Tryz.ntmps282 rfl (by decide +kernel) (by simp) fun G=>?_
 have k4:n=4→scanL n=scOut 4 7:=by rintro rfl;rfl
 have k8:n=8→scanL n=scOut 8 15:=by rintro rfl;rfl
 rcases hn with rfl|rfl|rfl
 ·refine go (r:=?_);and_intros<;>intros<;>try exact True.intro
  all_goals rfl
 ·refine go (r:=?_);and_intros<;>intros<;>try exact True.intro
  refine WpA.loop (fun d:Nat=>⟨[(0,I 4),(3,.own 0 0 0 (scOut 4 d).length),(14,I 7),(15,I d)],[XI (scOut 4 d)]⟩) (fun d=>d≤7) (fun d=>7-d) 0 (by simp) (go (r:=?_)) (fun d hd=>?_)
  ·simp [scOut]
  have hol:=scOut_len 4 d (by omega)
  have hso:(scOut 4 (d+1))=scIn 4 d (d+1) (scOut 4 d):=rfl
  refine go (r:=?_);and_intros<;>intros<;>try exact True.intro
  ·refine WpA.loop (fun k:Nat=>⟨[(0,I 4),(3,.own 0 0 0 (scIn 4 d k (scOut 4 d)).length),(4,I d),(14,I 7),(15,I d),(19,I ((d:Int)+1)),(20,I k)],[XI (scIn 4 d k (scOut 4 d))]⟩) (fun k=>k≤d+1) (fun k=>d+1-k) 0 (by omega) (go (r:=?_)) (fun k hk=>?_)
   ·simp [scIn]
   have hil:=scIn_len 4 d (scOut 4 d) k
   have he:=scX_even (d:=d) (k:=k)
   have hod:=scX_odd (d:=d) (k:=k)
   have hl1:=scIn_l1 (n:=4) (d:=d) (k:=k) (o:=scOut 4 d)
   have hl0:=scIn_l0 (n:=4) (d:=d) (k:=k) (o:=scOut 4 d)
   have hso2:k=d+1→(scOut 4 (d+1)).length=(scIn 4 d k (scOut 4 d)).length:=by rintro rfl;rfl
   refine go (r:=?_);and_intros<;>intros<;>try exact True.intro
   all_goals first
    |(exact scIn_yes (he ‹_›) (by omega) (by omega) (by omega))
    |(exact scIn_yes (hod ‹_›) (by omega) (by omega) (by omega))
    |(exact scIn_no (he ‹_›) (by omega))
    |(exact scIn_no (hod ‹_›) (by omega))
    |skip
   all_goals have e:k=d+1:=by omega
   all_goals subst e
   all_goals rw [hso]
  all_goals have e:d=7:=by omega
  all_goals subst e
  all_goals first|rfl|(rw [k4 rfl])
 ·refine go (r:=?_);and_intros<;>intros<;>try exact True.intro
  refine WpA.loop (fun d:Nat=>⟨[(0,I 8),(3,.own 0 0 0 (scOut 8 d).length),(14,I 15),(15,I d)],[XI (scOut 8 d)]⟩) (fun d=>d≤15) (fun d=>15-d) 0 (by simp) (go (r:=?_)) (fun d hd=>?_)
  ·simp [scOut]
  have hol:=scOut_len 8 d (by omega)
  have hso:(scOut 8 (d+1))=scIn 8 d (d+1) (scOut 8 d):=rfl
  refine go (r:=?_);and_intros<;>intros<;>try exact True.intro
  ·refine WpA.loop (fun k:Nat=>⟨[(0,I 8),(3,.own 0 0 0 (scIn 8 d k (scOut 8 d)).length),(4,I d),(14,I 15),(15,I d),(19,I ((d:Int)+1)),(20,I k)],[XI (scIn 8 d k (scOut 8 d))]⟩) (fun k=>k≤d+1) (fun k=>d+1-k) 0 (by omega) (go (r:=?_)) (fun k hk=>?_)
   ·simp [scIn]
   have hil:=scIn_len 8 d (scOut 8 d) k
   have he:=scX_even (d:=d) (k:=k)
   have hod:=scX_odd (d:=d) (k:=k)
   have hl1:=scIn_l1 (n:=8) (d:=d) (k:=k) (o:=scOut 8 d)
   have hl0:=scIn_l0 (n:=8) (d:=d) (k:=k) (o:=scOut 8 d)
   have hso2:k=d+1→(scOut 8 (d+1)).length=(scIn 8 d k (scOut 8 d)).length:=by rintro rfl;rfl
   refine go (r:=?_);and_intros<;>intros<;>try exact True.intro
   all_goals first
    |(exact scIn_yes (he ‹_›) (by omega) (by omega) (by omega))
    |(exact scIn_yes (hod ‹_›) (by omega) (by omega) (by omega))
    |(exact scIn_no (he ‹_›) (by omega))
    |(exact scIn_no (hod ‹_›) (by omega))
    |skip
   all_goals have e:k=d+1:=by omega
   all_goals subst e
   all_goals rw [hso]
  all_goals have e:d=15:=by omega
  all_goals subst e
  all_goals first|rfl|(rw [k8 rfl])⟩
theorem scan_rg (n:Int) (h:n=0∨n=4∨n=8):In (scanL n) 0 (n*n-1)∧((scanL n).length:Int)=n*n:=by
 rcases h with rfl|rfl|rfl<;>decide +kernel
end Go.Proofs.YtndflfipaddfoaaGreat


namespace Go.Proofs.YtndflfipaddfoaaGreat
open Go Go.Abs
attribute [local irreducible] WpA WpL Rnd Blk Abs.Seq Abs.Fin Abs.FinG FnC FnG Only
theorem qz_snoc (f:Int→Int) (l:List Int) (k:Nat) (h:k<l.length):(l.take k).map f++[f (l.getD k 0)]=(l.take (k+1)).map f:=by
 rw [take_snoc l k h,List.map_append];rfl
end Go.Proofs.YtndflfipaddfoaaGreat


namespace Go.Proofs.YtndflfipaddfoaaGreat
open Go Go.Abs
attribute [local irreducible] WpA WpL Rnd Blk Abs.Seq Abs.Fin Abs.FinG FnC FnG Only
theorem scan_fit (l:List Int):In (scanL (side l.length)) 0 (l.length-1)∧(scanL (side l.length)).length≤64:=by
 rcases side_cases l.length with ⟨h,e⟩|⟨h,e⟩|⟨_,_,e⟩
 ·have h2:=(scan_rg 4 (by omega)).2
  have h1:=(scan_rg 4 (by omega)).1
  rw [e,h];exact ⟨h1,by omega⟩
 ·have h2:=(scan_rg 8 (by omega)).2
  have h1:=(scan_rg 8 (by omega)).1
  rw [e,h];exact ⟨h1,by omega⟩
 ·rw [e]
  have h0:scanL 0=[]:=rfl
  rw [h0]
  refine ⟨?_,by simp⟩
  unfold In;intro x hx;cases hx
end Go.Proofs.YtndflfipaddfoaaGreat


namespace Go.Proofs.YtndflfipaddfoaaGreat
open Go Go.Abs
attribute [local irreducible] WpA WpL Rnd Blk Abs.Seq Abs.Fin Abs.FinG FnC FnG Only
abbrev FitM (l:List Int):Prop:=In l (-1000000000) 1000000000
theorem prodL_le {n:Nat} {g:Nat→Nat→Int} {l:List Int} (h:n≤8):(prodL n g l).length≤64:=by
 have:=prodL_len n g l
 have h2:n*n≤8*8:=Nat.mul_le_mul h h
 split at this<;>omega
def trL (n:Int) (b:Bool) (l:List Int):List Int:=prodL n.toNat (mg n.toNat b) l
theorem trL_le {n:Int} {b:Bool} {l:List Int} (h:n≤8):(trL n b l).length≤64:=prodL_le (by omega)
def gOf (M:List (List Int)) (r i:Nat):Int:=(M.getD r default).getD i 0
def MatOk (n:Nat) (M:List (List Int)):Prop:=M.length=n∧(∀ r,r<n→(M.getD r default).length=n)∧Sgn (gOf M)
instance product_c:Con 286 (∀ (n:Nat) (M:List (List Int)) (l:List Int),(n=4∨n=8)∧MatOk n M∧l.length≤1099511627776→Fn 286 [LLn n M,IL l] [XI (prodL n (gOf M) l)] (.own 0 0 0 (prodL n (gOf M) l).length)):=⟨fun n M l h=>by
 obtain ⟨rfl|rfl,h1,h2⟩:=h
 ·exact product_4 (gOf M) M l h1.2.2 ⟨h1.1,h1.2.1,fun _ _ _ _=>rfl⟩ h2
 ·exact product_8 (gOf M) M l h1.2.2 ⟨h1.1,h1.2.1,fun _ _ _ _=>rfl⟩ h2⟩
theorem sumF_congr {f g:Nat→Int}:∀k,(∀ i,i<k→f i=g i)→sumF f k=sumF g k
 |0,_=>rfl
 |k+1,h=>by rw [sumF,sumF,sumF_congr k (fun i hi=>h i (by omega)),h k (by omega)]
theorem prodL_congr {n:Nat} {f g:Nat→Nat→Int} {l:List Int} (hn:0<n) (h:∀r i,r<n→i<n→f r i=g r i):prodL n f l=prodL n g l:=by
 have hm:mulM n f l=mulM n g l:=by
  refine list_ext (N:=n*n) (tabL_len _ _) (tabL_len _ _) fun q hq=>?_
  unfold mulM
  rw [tabL_get hq,tabL_get hq]
  have h1:q/n<n:=Nat.div_lt_of_lt_mul hq
  have h2:q%n<n:=Nat.mod_lt _ hn
  refine sumF_congr n fun i hi=>?_
  rw [h _ _ h2 hi]
  congr 1
  exact sumF_congr n fun j hj=>by rw [h _ _ h1 hj]
 unfold prodL;rw [hm]
theorem A4_ok:MatOk 4 A4:=by
 refine ⟨rfl,?_,fun r i=>mx_val 4 r i⟩
 intro r hr
 rcases (by omega:r=0∨r=1∨r=2∨r=3) with rfl|rfl|rfl|rfl<;>rfl
theorem H8_row {r:Nat} (h:r<8):H8.getD r default=tabL (mx 8 r) 8:=by
 simp [H8,h]
theorem gOf_H8 {r i:Nat} (h:r<8) (h2:i<8):gOf H8 r i=mx 8 r i:=by
 rw [gOf,H8_row h,tabL_get h2]
theorem H8_ok:MatOk 8 H8:=by
 refine ⟨by simp [H8],fun r hr=>by rw [H8_row hr,tabL_len],fun r i=>?_⟩
 by_cases h:r<8
 ·by_cases h2:i<8
  ·rw [gOf_H8 h h2];exact mx_val 8 r i
  ·right;right;left
   rw [gOf,H8_row h,List.getD_eq_getElem?_getD,List.getElem?_eq_none (by rw [tabL_len];omega)];rfl
 ·right;right;left
  have:H8.getD r default=[]:=by rw [List.getD_eq_getElem?_getD,List.getElem?_eq_none (by simp [H8];omega)];rfl
  rw [gOf,this];rfl
end Go.Proofs.YtndflfipaddfoaaGreat


namespace Go.Proofs.YtndflfipaddfoaaGreat
open Go Go.Abs
def plcK (o l:List Int):Nat→List Int
 |0=>List.replicate o.length 0
 |k+1=>(plcK o l k).set (o.getD k 0).toNat (l.getD k 0)
def plcL (l:List Int):List Int:=plcK (scanL (side l.length)) l (scanL (side l.length)).length
theorem plcK_len (o l:List Int):∀k,(plcK o l k).length=o.length
 |0=>by simp [plcK]
 |k+1=>by rw [plcK,List.length_set];exact plcK_len o l k
theorem plcL_len (l:List Int):(plcL l).length=(scanL (side l.length)).length:=plcK_len _ _ _
theorem plcK_in {o l:List Int} {c:Int} (hc:0≤c) (h:In l (-c) c):∀k,In (plcK o l k) (-c) c
 |0=>in_all fun j hj=>by
  rw [plcK,List.getD_eq_getElem?_getD,List.getElem?_replicate]
  split<;>simp<;>omega
 |k+1=>in_all fun j hj=>by
  rw [plcK,List.getD_eq_getElem?_getD,List.getElem?_set]
  split
  ·split
   ·exact in_getZ h hc k
   ·simp;omega
  ·have:=in_getZ (plcK_in (o:=o) hc h k) hc j
   rw [List.getD_eq_getElem?_getD] at this;exact this
theorem plcL_ok {l:List Int} (h:LvOk l):LvOk (plcL l):=by
 refine ⟨plcK_in (by decide) h.1 _,?_⟩
 rw [plcL_len]
 rcases h.2 with e|e
 ·rw [e];exact .inl (by have:=(scan_rg 4 (by omega)).2;show (scanL 4).length=16;omega)
 ·rw [e];exact .inr (by have:=(scan_rg 8 (by omega)).2;show (scanL 8).length=64;omega)
theorem plcL_len2 {l:List Int} (h:l.length=16∨l.length=64):(plcL l).length=l.length:=by
 rw [plcL_len]
 rcases h with e|e
 ·rw [e];have:=(scan_rg 4 (by omega)).2;show (scanL 4).length=16;omega
 ·rw [e];have:=(scan_rg 8 (by omega)).2;show (scanL 8).length=64;omega
def normL (n i:Int):Int:=if (n=4∨n=8)∧0≤i∧i≤n*n-1 then (if n=8 then 1 else if i/4%2+i%4%2=0 then 100 else if i/4%2+i%4%2=2 then 16 else 40) else 0
theorem normL_bd (n i:Int):0≤normL n i∧normL n i≤100:=by unfold normL;split<;>(try split)<;>(try split)<;>(try split)<;>omega
def scaF (l:List Int) (q:Int) (i:Nat):Int:=l.getD i 0*stepL q*normL (side l.length) i
def scaL (l:List Int) (q:Int):List Int:=if LvOk l∧0<stepL q then tabL (scaF l q) l.length else []
theorem stepL_bd (q:Int):0≤stepL q∧stepL q≤500:=by
 by_cases h:0≤q∧q≤51
 ·have:=stepL_in q h;omega
 ·unfold stepL;rw [if_neg h];omega
theorem mul_bds {a b A B:Int} (ha:-A≤a∧a≤A) (hb:0≤b∧b≤B) (hA:0≤A):-(A*B)≤a*b∧a*b≤A*B:=by
 have h1:a*b≤A*b:=Int.mul_le_mul_of_nonneg_right ha.2 hb.1
 have h2:A*b≤A*B:=Int.mul_le_mul_of_nonneg_left hb.2 hA
 have h3:-A*b≤a*b:=Int.mul_le_mul_of_nonneg_right ha.1 hb.1
 rw [Int.neg_mul] at h3
 omega
theorem sca1_bd {l:List Int} (h:In l (-16383) 16383) (q:Int) (i:Nat):-8191500≤l.getD i 0*stepL q∧l.getD i 0*stepL q≤8191500:=by
 have:=mul_bds (in_getZ (c:=16383) h (by decide) i) (stepL_bd q) (by decide)
 omega
theorem scaF_bd {l:List Int} (h:In l (-16383) 16383) (q:Int) (i:Nat):-819150000≤scaF l q i∧scaF l q i≤819150000:=by
 have:=mul_bds (sca1_bd h q i) (normL_bd (side l.length) i) (by decide)
 unfold scaF;omega
theorem scaL_len (l:List Int) (q:Int):(scaL l q).length=if LvOk l∧0<stepL q then l.length else 0:=by
 unfold scaL;split<;>simp [tabL_len]
theorem scaL_fit (l:List Int) (q:Int):FitM (scaL l q):=by
 unfold FitM In
 intro x hx
 unfold scaL at hx
 split at hx
 ·rename_i h
  unfold tabL at hx
  obtain ⟨i,_,rfl⟩:=List.mem_map.1 hx
  have:=scaF_bd h.1.1 q i
  omega
 ·cases hx
def rnd1 (k:Nat) (v:Int):Int:=if k=16 then (max (-1000000000000) (min 1000000000000 v)+800)/1600 else (max (-1000000000000) (min 1000000000000 v)+32)/64
def rndL (l:List Int):List Int:=if 0<side l.length then l.map (rnd1 l.length) else []
theorem rndL_le (l:List Int):(rndL l).length≤64:=by
 unfold rndL;split
 ·rename_i h;rw [List.length_map];have:=(side_pos l.length).1 h;omega
 ·simp
theorem floor_t {a b:Int} (hb:0<b):(if a.tmod b<0 then a.tdiv b-1 else a.tdiv b)=a/b:=by
 have h1:=Int.mul_ediv_add_emod a b
 have h2:=Int.emod_nonneg a (by omega:b≠0)
 have h3:=Int.emod_lt_of_pos a hb
 have h4:=Int.mul_tdiv_add_tmod a b
 rcases Int.lt_or_le a 0 with h|h
 ·have h0:(-a).tmod b=-(a.tmod b):=Int.neg_tmod ..
  have h5:=Int.tmod_nonneg b (show 0≤-a by omega)
  have h6:=Int.tmod_lt_of_pos (-a) hb
  rw [h0] at h5 h6
  split
  ·rename_i h7
   have:b*(a.tdiv b-1-a/b)=-(a.tmod b+b)+a%b:=by rw [Int.mul_sub,Int.mul_sub];omega
   have h8:a.tdiv b-1-a/b=0:=by
    rcases Int.lt_trichotomy (a.tdiv b-1-a/b) 0 with h9|h9|h9
    ·have:=Int.mul_le_mul_of_nonneg_left (show a.tdiv b-1-a/b≤-1 by omega) (Int.le_of_lt hb);omega
    ·exact h9
    ·have:=Int.mul_le_mul_of_nonneg_left (show 1≤a.tdiv b-1-a/b by omega) (Int.le_of_lt hb);omega
   omega
  ·have:b*(a.tdiv b-a/b)=a%b-a.tmod b:=by rw [Int.mul_sub];omega
   have h8:a.tdiv b-a/b=0:=by
    rcases Int.lt_trichotomy (a.tdiv b-a/b) 0 with h9|h9|h9
    ·have:=Int.mul_le_mul_of_nonneg_left (show a.tdiv b-a/b≤-1 by omega) (Int.le_of_lt hb);omega
    ·exact h9
    ·have:=Int.mul_le_mul_of_nonneg_left (show 1≤a.tdiv b-a/b by omega) (Int.le_of_lt hb);omega
   omega
 ·rw [Int.tdiv_eq_ediv_of_nonneg h,Int.tmod_eq_emod_of_nonneg h]
  rw [if_neg (by omega)]
def resL (b:Bool) (q:Int) (l:List Int):List Int:=if LvOk l∧0<stepL q then (if b=true then plcL l else rndL (trL (side l.length) true (scaL (plcL l) q))) else []
theorem resL_le (b:Bool) (q:Int) (l:List Int):(resL b q l).length≤64:=by
 unfold resL;split
 ·rename_i h
  split
  ·rw [plcL_len];exact (scan_fit l).2
  ·exact rndL_le _
 ·simp
theorem scan4_all (p:Nat) (hp:p<16):∃k,k<16∧(scanL 4).getD k 0=(p:Int):=by
 have key:∀p:Fin 16,∃k:Fin 16,(scanL 4).getD k.val 0=((p.val:Nat):Int):=by decide +kernel
 obtain ⟨k,hk⟩:=key ⟨p,hp⟩
 exact ⟨k.val,k.isLt,hk⟩
theorem scan8_all (p:Nat) (hp:p<64):∃k,k<64∧(scanL 8).getD k 0=(p:Int):=by
 have key:∀p:Fin 64,∃k:Fin 64,(scanL 8).getD k.val 0=((p.val:Nat):Int):=by decide +kernel
 obtain ⟨k,hk⟩:=key ⟨p,hp⟩
 exact ⟨k.val,k.isLt,hk⟩
theorem scan4_inj (i:Nat) (hi:i<16) (j:Nat) (hj:j<16) (h:(scanL 4).getD i 0=(scanL 4).getD j 0):i=j:=by
 have key:∀i j:Fin 16,(scanL 4).getD i.val 0=(scanL 4).getD j.val 0→i=j:=by decide +kernel
 exact congrArg Fin.val (key ⟨i,hi⟩ ⟨j,hj⟩ h)
theorem scan8_inj (i:Nat) (hi:i<64) (j:Nat) (hj:j<64) (h:(scanL 8).getD i 0=(scanL 8).getD j 0):i=j:=by
 have key:∀i j:Fin 64,(scanL 8).getD i.val 0=(scanL 8).getD j.val 0→i=j:=by decide +kernel
 exact congrArg Fin.val (key ⟨i,hi⟩ ⟨j,hj⟩ h)
theorem scan_facts {l:List Int} (h:l.length=16∨l.length=64):(scanL (side l.length)).length=l.length∧In (scanL (side l.length)) 0 (l.length-1)∧(∀ i,i<l.length→∀j,j<l.length→(scanL (side l.length)).getD i 0=(scanL (side l.length)).getD j 0→i=j)∧∀p,p<l.length→∃k,k<l.length∧(scanL (side l.length)).getD k 0=(p:Int):=by
 rcases h with e|e
 ·rw [e]
  have h1:=scan_rg 4 (by omega)
  exact ⟨by show (scanL 4).length=16;omega,h1.1,scan4_inj,scan4_all⟩
 ·rw [e]
  have h1:=scan_rg 8 (by omega)
  exact ⟨by show (scanL 8).length=64;omega,h1.1,scan8_inj,scan8_all⟩
end Go.Proofs.YtndflfipaddfoaaGreat


namespace Go.Proofs.YtndflfipaddfoaaGreat
open Go Go.Abs
def alphaL (q:Int):Int:=if 0≤q∧q≤51 then q+4 else 0
def betaL (q:Int):Int:=if 0≤q∧q≤51 then q/3+2 else 0
abbrev EdOk (a b c d q:Int):Prop:=In [a,b,c,d] 0 255∧max (b-c) (c-b)<alphaL q∧max (a-b) (b-a)<betaL q∧max (c-d) (d-c)<betaL q
def edD (a b c d q:Int):Int:=max (-(q/4+1)) (min (q/4+1) ((4*(c-b)+(a-d)+4)/8))
def edP (a b c d q:Int):Int×Int:=if EdOk a b c d q then (max 0 (min 255 (b+edD a b c d q)),max 0 (min 255 (c-edD a b c d q))) else (b,c)
def edg (q:Int) (e s:Nat) (f l:List Int):List Int:=(l.set (e-s) (edP (f.getD (e-2*s) 0) (f.getD (e-s) 0) (f.getD e 0) (f.getD (e+s) 0) q).1).set e (edP (f.getD (e-2*s) 0) (f.getD (e-s) 0) (f.getD e 0) (f.getD (e+s) 0) q).2
def run (q:Int):List (Nat×Nat)→List Int→List Int
 |[],l=>l
 |x::E,l=>run q E (edg q x.1 x.2 l l)
theorem edg_len (q:Int) (e s:Nat) (f l:List Int):(edg q e s f l).length=l.length:=by simp [edg]
theorem run_len (q:Int):∀(E:List (Nat×Nat)) (l:List Int),(run q E l).length=l.length
 |[],_=>rfl
 |x::E,l=>by rw [run,run_len q E,edg_len]
theorem run_app (q:Int):∀(E D:List (Nat×Nat)) (l:List Int),run q (E++D) l=run q D (run q E l)
 |[],_,_=>rfl
 |x::E,D,l=>by rw [List.cons_append,run,run,run_app q E D]
def vx (w y j:Nat):List (Nat×Nat):=(List.range j).map fun i=>(y*w+(8*i+8),1)
def vy (w a k:Nat):List (Nat×Nat):=(List.range k).flatMap fun i=>vx w (a+i) (w/8-1)
def hx (w y k:Nat):List (Nat×Nat):=(List.range k).map fun i=>(y*w+i,w)
def hy (w k:Nat):List (Nat×Nat):=(List.range k).flatMap fun i=>hx w (8*i+8) w
theorem vx_succ (w y j:Nat):vx w y (j+1)=vx w y j++[(y*w+(8*j+8),1)]:=by simp [vx,List.range_succ]
theorem vy_succ (w a k:Nat):vy w a (k+1)=vy w a k++vx w (a+k) (w/8-1):=by simp [vy,List.range_succ]
theorem hx_succ (w y k:Nat):hx w y (k+1)=hx w y k++[(y*w+k,w)]:=by simp [hx,List.range_succ]
theorem hy_succ (w k:Nat):hy w (k+1)=hy w k++hx w (8*k+8) w:=by simp [hy,List.range_succ]
def debL (q:Int) (w h:Nat) (p:List Int):List Int:=run q (hy w (h/8-1)) (run q (vy w 0 h) p)
theorem debL_len (q:Int) (w h:Nat) (p:List Int):(debL q w h p).length=p.length:=by rw [debL,run_len,run_len]
theorem edP_in {a b c d q:Int} (hb:0≤b∧b≤255) (hc:0≤c∧c≤255):(0≤(edP a b c d q).1∧(edP a b c d q).1≤255)∧0≤(edP a b c d q).2∧(edP a b c d q).2≤255:=by
 unfold edP;split<;>simp only<;>omega
theorem in_setV {l:List Int} {lo hi v:Int} (h:In l lo hi) (hv:lo≤v∧v≤hi) (i:Nat):In (l.set i v) lo hi:=by
 unfold In at*
 intro x hx
 rcases List.mem_or_eq_of_mem_set hx with h1|h1
 ·exact h x h1
 ·rw [h1];exact hv
theorem in_getZ255 {l:List Int} (h:In l 0 255) (k:Nat):0≤l.getD k 0∧l.getD k 0≤255:=by
 by_cases hk:k<l.length
 ·exact in_get h hk
 ·rw [List.getD_eq_getElem?_getD,List.getElem?_eq_none (by omega)];simp
theorem edg_in {q:Int} {e s:Nat} {f l:List Int} (hf:In f 0 255) (hl:In l 0 255):In (edg q e s f l) 0 255:=by
 have h:=edP_in (a:=f.getD (e-2*s) 0) (d:=f.getD (e+s) 0) (q:=q) (in_getZ255 hf (e-s)) (in_getZ255 hf e)
 exact in_setV (in_setV hl h.1 _) h.2 _
theorem run_rg {q:Int}:∀{E:List (Nat×Nat)} {l:List Int},In l 0 255→In (run q E l) 0 255
 |[],_,h=>h
 |x::E,l,h=>by rw [run];exact run_rg (E:=E) (edg_in h h)
end Go.Proofs.YtndflfipaddfoaaGreat


namespace Go.Proofs.YtndflfipaddfoaaGreat
open Go Go.Abs
attribute [local irreducible] WpA WpL Rnd Blk Abs.Seq Abs.Fin Abs.FinG FnC FnG Only
abbrev NbA (t l:List Int) (c:Int) (a b:Bool):AV:=.agg [IL t,IL l,I c,B a,B b]
abbrev NbO (t l:List Int) (c:Int) (a b:Bool):AObj:=⟨[IL t,IL l,I c,B a,B b],0,0,none⟩
abbrev NbOk (t l:List Int) (c n:Int):Prop:=(n=4∨n=8)∧(t.length:Int)=2*n∧(l.length:Int)=n∧In t 0 255∧In l 0 255∧0≤c∧c≤255
instance NbOk_c:Con 250 (∀ (t l:List Int) (c:Int) (a b:Bool) (n:Int),t.length≤1099511627776∧l.length≤1099511627776→Fn 250 [NbA t l c a b,I n] [] (B (decide (NbOk t l c n)))):=⟨fun t l c a b n hl=>by
 refine FnC.of_body tabOk Tryz.func250 Tryz.ntmps250 rfl (by decide +kernel) (by simp) fun G=>?_
 refine go (r:=?_);and_intros<;>intros<;>try exact True.intro
 all_goals simp_all⟩
def bordL (t l:List Int) (c n:Int):List Int:=if NbOk t l c n then l.reverse++[c]++t.take n.toNat else []
theorem bord_len {t l:List Int} {c n:Int} (h:NbOk t l c n):((bordL t l c n).length:Int)=2*n+1:=by
 rw [bordL,if_pos h];obtain ⟨h1,h2,h3,_⟩:=h;simp;omega
instance Border_c:Con 292 (∀ (t l:List Int) (c:Int) (a b:Bool) (n:Int),t.length≤1099511627776∧l.length≤1099511627776→Fn 292 [NbA t l c a b,I n] [XI (bordL t l c n)] (.own 0 0 0 (bordL t l c n).length)):=⟨fun t l c a b n hl=>by
 by_cases h:NbOk t l c n
 ·have hbl:=bord_len h
  obtain ⟨h1,h2,h3,h4,h5,h6⟩:=id h
  have htk:(t.take n.toNat).length=n.toNat:=by simp;omega
  have hlr:l.reverse.length=l.length:=List.length_reverse
  refine FnC.of_body tabOk Tryz.func292 Tryz.ntmps292 rfl (by decide +kernel) (by simp) fun G=>?_
  refine go (r:=?_);and_intros<;>intros<;>try exact True.intro
  all_goals first|(exact absurd h ‹¬ NbOk t l c n›)|skip
  rw [bordL,if_pos h]
 ·refine FnC.of_body tabOk Tryz.func292 Tryz.ntmps292 rfl (by decide +kernel) (by simp) fun G=>?_
  refine go (r:=?_);and_intros<;>intros<;>try exact True.intro
  all_goals first|(exact absurd ‹NbOk t l c n› h)|skip
  ·rw [bordL,if_neg h];rfl
  ·rw [bordL,if_neg h]⟩
def meanL (t l:List Int) (c:Int) (a b:Bool) (n:Int):Int:=if NbOk t l c n then (match a,b with
 |true,true=>((t.take n.toNat).sum+l.sum+n)/(2*n)
 |true,false=>((t.take n.toNat).sum+n/2)/n
 |false,true=>(l.sum+n/2)/n
 |false,false=>128) else 0
theorem sum_bd255 {l:List Int} (h:In l 0 255):0≤l.sum∧l.sum≤255*l.length:=by
 have:=psum_bd h l.length (Nat.le_refl _)
 rw [psum_all] at this;exact this
theorem mean_in {t l:List Int} {c n:Int} (a b:Bool) (h:NbOk t l c n):0≤meanL t l c a b n∧meanL t l c a b n≤255:=by
 unfold meanL
 rw [if_pos h]
 obtain ⟨h1,h2,h3,h4,h5,h6⟩:=h
 have htk:(t.take n.toNat).length=n.toNat:=by simp;omega
 have s1:=sum_bd255 (in_take h4 n.toNat)
 have s2:=sum_bd255 h5
 rw [htk] at s1
 rcases h1 with rfl|rfl<;>cases a<;>cases b<;>simp only<;>omega
instance Mean_c:Con 290 (∀ (t l:List Int) (c:Int) (a b:Bool) (n:Int),t.length≤1099511627776∧l.length≤1099511627776→Fn 290 [NbA t l c a b,I n] [] (I (meanL t l c a b n))):=⟨fun t l c a b n hl=>by
 by_cases h:NbOk t l c n
 ·obtain ⟨h1,h2,h3,h4,h5,h6⟩:=id h
  have htk:(t.take n.toNat).length=n.toNat:=by simp;omega
  have s0:=in_take h4 n.toNat
  have s1:=sum_bd255 s0
  have s2:=sum_bd255 h5
  rw [htk] at s1
  cases a<;>cases b
  ·refine FnC.of_body tabOk Tryz.func290 Tryz.ntmps290 rfl (by decide +kernel) (by simp) fun G=>?_
   refine go (r:=?_);and_intros<;>intros<;>try exact True.intro
   all_goals first|(exact absurd h ‹¬ NbOk t l c n›)|skip
   unfold meanL;rw [if_pos h]
  ·refine FnC.of_body tabOk Tryz.func290 Tryz.ntmps290 rfl (by decide +kernel) (by simp) fun G=>?_
   refine go (r:=?_);and_intros<;>intros<;>try exact True.intro
   all_goals first|(exact absurd h ‹¬ NbOk t l c n›)|skip
   refine WpA.loop (fun k:Nat=>⟨[(1,I n),(5,I (psum l k)),(6,I 0),(36,IL l),(37,I l.length),(38,I k)],[NbO t l c false true]⟩) (fun k=>k≤l.length) (fun k=>l.length-k) 0 (by omega) (go (r:=?_)) (fun k hk=>?_)
   ·simp [psum_zero]
   have hb:=psum_bd h5 k hk
   have hg:=fun h=>in_get h5 (k:=k) h
   have hs:=fun h=>psum_succ l k h
   refine go (r:=?_);and_intros<;>intros<;>try exact True.intro
   all_goals have e:k=l.length:=by omega
   all_goals subst e
   all_goals rw [psum_all]
   unfold meanL;rw [if_pos h];rcases h1 with rfl|rfl<;>simp<;>omega
  ·refine FnC.of_body tabOk Tryz.func290 Tryz.ntmps290 rfl (by decide +kernel) (by simp) fun G=>?_
   refine go (r:=?_);and_intros<;>intros<;>try exact True.intro
   all_goals first|(exact absurd h ‹¬ NbOk t l c n›)|skip
   refine WpA.loop (fun k:Nat=>⟨[(1,I n),(2,.ptr 0 0 0),(5,I (psum (t.take n.toNat) k)),(6,I 0),(20,IL (t.take n.toNat)),(21,I (t.take n.toNat).length),(22,I k)],[NbO t l c true false]⟩) (fun k=>k≤(t.take n.toNat).length) (fun k=>(t.take n.toNat).length-k) 0 (by omega) (go (r:=?_)) (fun k hk=>?_)
   ·simp [psum_zero]
   have hb:=psum_bd s0 k hk
   have hg:=fun h=>in_get s0 (k:=k) h
   have hs:=fun h=>psum_succ (t.take n.toNat) k h
   refine go (r:=?_);and_intros<;>intros<;>try exact True.intro
   all_goals have e:k=(t.take n.toNat).length:=by omega
   all_goals subst e
   all_goals rw [psum_all]
   unfold meanL;rw [if_pos h];rcases h1 with rfl|rfl<;>simp<;>omega
  ·refine FnC.of_body tabOk Tryz.func290 Tryz.ntmps290 rfl (by decide +kernel) (by simp) fun G=>?_
   refine go (r:=?_);and_intros<;>intros<;>try exact True.intro
   all_goals first|(exact absurd h ‹¬ NbOk t l c n›)|skip
   refine WpA.loop (fun k:Nat=>⟨[(1,I n),(2,.ptr 0 0 0),(5,I (psum (t.take n.toNat) k)),(6,I 0),(20,IL (t.take n.toNat)),(21,I (t.take n.toNat).length),(22,I k)],[NbO t l c true true]⟩) (fun k=>k≤(t.take n.toNat).length) (fun k=>(t.take n.toNat).length-k) 0 (by omega) (go (r:=?_)) (fun k hk=>?_)
   ·simp [psum_zero]
   have hb:=psum_bd s0 k hk
   have hg:=fun h=>in_get s0 (k:=k) h
   have hs:=fun h=>psum_succ (t.take n.toNat) k h
   refine go (r:=?_);and_intros<;>intros<;>try exact True.intro
   have e:k=(t.take n.toNat).length:=by omega
   subst e
   refine WpA.loop (fun k:Nat=>⟨[(1,I n),(5,I ((t.take n.toNat).sum+psum l k)),(6,I n),(36,IL l),(37,I l.length),(38,I k)],[NbO t l c true true]⟩) (fun k=>k≤l.length) (fun k=>l.length-k) 0 (by omega) (go (r:=?_)) (fun k hk=>?_)
   ·refine ⟨?_,trivial⟩;rw [psum_all,psum_zero];omega
   have hb:=psum_bd h5 k hk
   have hg:=fun h=>in_get h5 (k:=k) h
   have hs:=fun h=>psum_succ l k h
   refine go (r:=?_);and_intros<;>intros<;>try exact True.intro
   all_goals have e:k=l.length:=by omega
   all_goals subst e
   all_goals rw [psum_all]
   unfold meanL;rw [if_pos h];rcases h1 with rfl|rfl<;>simp<;>omega
 ·refine FnC.of_body tabOk Tryz.func290 Tryz.ntmps290 rfl (by decide +kernel) (by simp) fun G=>?_
  refine go (r:=?_);and_intros<;>intros<;>try exact True.intro
  all_goals first|(exact absurd ‹NbOk t l c n› h)|skip
  all_goals (unfold meanL;rw [if_neg h])⟩
end Go.Proofs.YtndflfipaddfoaaGreat


namespace Go.Proofs.YtndflfipaddfoaaGreat
open Go Go.Abs
attribute [local irreducible] WpA WpL Rnd Blk Abs.Seq Abs.Fin Abs.FinG FnC FnG Only
theorem in_append {l m:List Int} {lo hi:Int} (h1:In l lo hi) (h2:In m lo hi):In (l++m) lo hi:=by
 unfold In at *;intro v hv
 rcases List.mem_append.1 hv with h|h
 ·exact h1 v h
 ·exact h2 v h
theorem in_one {v lo hi:Int} (h:lo≤v∧v≤hi):In [v] lo hi:=by unfold In;intro x hx;have:x=v:=by simpa using hx
                                                            subst this;exact h
theorem in_rev {l:List Int} {lo hi:Int} (h:In l lo hi):In l.reverse lo hi:=by unfold In at *;intro v hv;exact h v (by simpa using hv)
theorem bord_in {t l:List Int} {c n:Int} (h:NbOk t l c n):In (bordL t l c n) 0 255:=by
 rw [bordL,if_pos h]
 obtain ⟨h1,h2,h3,h4,h5,h6⟩:=h
 exact in_append (in_append (in_rev h5) (in_one h6)) (in_take h4 _)
def soft (a b c:Int):Int:=(a+2*b+c+2)/4
instance smoothed_c:Con 291 (∀ a b c:Int,(0≤a∧a≤255)∧(0≤b∧b≤255)∧0≤c∧c≤255→Fn 291 [I a,I b,I c] [] (I (soft a b c))):=⟨fun a b c h=>by
 refine FnC.of_body tabOk Tryz.func291 Tryz.ntmps291 rfl (by decide +kernel) (by simp) fun G=>?_
 refine go (r:=?_);and_intros<;>intros<;>try exact True.intro
 all_goals rfl⟩
theorem soft_in {a b c:Int} (h:(0≤a∧a≤255)∧(0≤b∧b≤255)∧0≤c∧c≤255):0≤soft a b c∧soft a b c≤255:=by unfold soft;omega
def predL (m:Int) (t l:List Int) (c:Int) (a b:Bool) (n x y:Int):Int:=if NbOk t l c n∧(0≤x∧x≤n-1)∧0≤y∧y≤n-1 then
 (if m=0 then meanL t l c a b n else if m=1 then t.getD x.toNat 0 else if m=2 then l.getD y.toNat 0 else if m=3 then max 0 (min 255 (l.getD y.toNat 0+t.getD x.toNat 0-c))
  else if m=4 then soft (t.getD (x+y).toNat 0) (t.getD (min (2*n-1) (x+y+1)).toNat 0) (t.getD (min (2*n-1) (x+y+2)).toNat 0)
  else if m=5 then soft ((bordL t l c n).getD (x-y+n-1).toNat 0) ((bordL t l c n).getD (x-y+n).toNat 0) ((bordL t l c n).getD (x-y+n+1).toNat 0) else -1) else -1
theorem predL_no {m:Int} {t l:List Int} {c:Int} {a b:Bool} {n x y:Int} (h:¬(NbOk t l c n∧(0≤x∧x≤n-1)∧0≤y∧y≤n-1)):-1=predL m t l c a b n x y:=by unfold predL;rw [if_neg h]
instance PredAt_c:Con 251 (∀ (m:Int) (t l:List Int) (c:Int) (a b:Bool) (n x y:Int),t.length≤1099511627776∧l.length≤1099511627776∧-9223372036854775807≤n→Fn 251 [I m,NbA t l c a b,I n,I x,I y] [] (I (predL m t l c a b n x y))):=⟨fun m t l c a b n x y hl=>by
 by_cases h:NbOk t l c n∧(0≤x∧x≤n-1)∧0≤y∧y≤n-1
 ·obtain ⟨h0,hx,hy⟩:=id h
  obtain ⟨h1,h2,h3,h4,h5,h6⟩:=id h0
  have hbl:=bord_len h0
  have hbi:=bord_in h0
  have g1:=in_get h4 (k:=x.toNat) (by omega)
  have g2:=in_get h5 (k:=y.toNat) (by omega)
  have g3:=in_get h4 (k:=(x+y).toNat) (by omega)
  have g4:=in_get h4 (k:=(min (x+y+1) (2*n-1)).toNat) (by omega)
  have g5:=in_get h4 (k:=(min (x+y+2) (2*n-1)).toNat) (by omega)
  have g6:=in_get hbi (k:=(x-y+n-1).toNat) (by omega)
  have g7:=in_get hbi (k:=(x-y+n).toNat) (by omega)
  have g8:=in_get hbi (k:=(x-y+n+1).toNat) (by omega)
  refine FnC.of_body tabOk Tryz.func251 Tryz.ntmps251 rfl (by decide +kernel) (by simp) fun G=>?_
  refine go (r:=?_);and_intros<;>intros<;>try exact True.intro
  all_goals (unfold predL;rw [if_pos h];first|(subst_vars;rfl)|(simp_all [Int.min_comm];done))
 ·by_cases h0:NbOk t l c n
  ·by_cases hx:0≤x∧x≤n-1
   ·have hy:¬(0≤y∧y≤n-1):=fun hh=>h ⟨h0,hx,hh⟩
    refine FnC.of_body tabOk Tryz.func251 Tryz.ntmps251 rfl (by decide +kernel) (by simp) fun G=>?_
    refine go (r:=?_);and_intros<;>intros<;>try exact True.intro
    all_goals exact predL_no h
   ·refine FnC.of_body tabOk Tryz.func251 Tryz.ntmps251 rfl (by decide +kernel) (by simp) fun G=>?_
    refine go (r:=?_);and_intros<;>intros<;>try exact True.intro
    all_goals exact predL_no h
  ·refine FnC.of_body tabOk Tryz.func251 Tryz.ntmps251 rfl (by decide +kernel) (by simp) fun G=>?_
   refine go (r:=?_);and_intros<;>intros<;>try exact True.intro
   all_goals exact predL_no h⟩
end Go.Proofs.YtndflfipaddfoaaGreat


namespace Go.Proofs.YtndflfipaddfoaaGreat
open Go Go.Abs
abbrev PF (m:Int) (t l:List Int) (c:Int) (a b:Bool) (n:Nat) (i:Nat):Int:=predL m t l c a b n ((i%n:Nat):Int) ((i/n:Nat):Int)
def prK (m:Int) (t l:List Int) (c:Int) (a b:Bool) (n k:Nat):List Int:=(List.range k).map (PF m t l c a b n)
theorem prK_len (m:Int) (t l:List Int) (c:Int) (a b:Bool) (n k:Nat):(prK m t l c a b n k).length=k:=by simp [prK]
theorem prK_snoc (m:Int) (t l:List Int) (c:Int) (a b:Bool) (n k:Nat):prK m t l c a b n (k+1)=prK m t l c a b n k++[PF m t l c a b n k]:=by simp [prK,List.range_succ]
def predS (m:Int) (t l:List Int) (c:Int) (a b:Bool) (n:Int):List Int:=if NbOk t l c n∧0≤m∧m≤5 then prK m t l c a b n.toNat (n.toNat*n.toNat) else []
theorem mod_div_in {n i:Nat} (h:i<n*n):i%n<n∧i/n<n:=by
 have hn:0<n:=by rcases Nat.eq_zero_or_pos n with rfl|h0
                 ·simp at h
                 ·exact h0
 exact ⟨Nat.mod_lt _ hn,Nat.div_lt_of_lt_mul h⟩
theorem pred_in {m:Int} {t l:List Int} {c:Int} (a b:Bool) {n x y:Int} (h:NbOk t l c n) (hm:0≤m∧m≤5) (hx:0≤x∧x≤n-1) (hy:0≤y∧y≤n-1):0≤predL m t l c a b n x y∧predL m t l c a b n x y≤255:=by
 unfold predL
 rw [if_pos ⟨h,hx,hy⟩]
 have hme:=mean_in a b h
 have hbl:=bord_len h
 have hbi:=bord_in h
 obtain ⟨h1,h2,h3,h4,h5,h6⟩:=h
 have g1:=in_get h4 (k:=x.toNat) (by omega)
 have g2:=in_get h5 (k:=y.toNat) (by omega)
 have g3:=in_get h4 (k:=(x+y).toNat) (by omega)
 have g4:=in_get h4 (k:=(min (2*n-1) (x+y+1)).toNat) (by omega)
 have g5:=in_get h4 (k:=(min (2*n-1) (x+y+2)).toNat) (by omega)
 have g6:=in_get hbi (k:=(x-y+n-1).toNat) (by omega)
 have g7:=in_get hbi (k:=(x-y+n).toNat) (by omega)
 have g8:=in_get hbi (k:=(x-y+n+1).toNat) (by omega)
 have s1:=soft_in ⟨g3,g4,g5⟩
 have s2:=soft_in ⟨g6,g7,g8⟩
 repeat' split
 all_goals omega
theorem predS_len (m:Int) (t l:List Int) (c:Int) (a b:Bool) (n:Int):(predS m t l c a b n).length=if NbOk t l c n∧0≤m∧m≤5 then n.toNat*n.toNat else 0:=by
 unfold predS;split
 ·rw [prK_len]
 ·rfl
theorem predS_in (m:Int) (t l:List Int) (c:Int) (a b:Bool) (n:Int):In (predS m t l c a b n) 0 255:=by
 unfold predS;split
 ·rename_i h
  have h1:=h.1.1
  unfold In prK
  intro v hv
  obtain ⟨i,hi,rfl⟩:=List.mem_map.1 hv
  have hi:=List.mem_range.1 hi
  have hmd:=mod_div_in hi
  have e:((n.toNat:Nat):Int)=n:=by omega
  have hx1:((i%n.toNat:Nat):Int)≤n-1:=by have:=Int.ofNat_lt.2 hmd.1;rw [e] at this;exact Int.le_sub_one_of_lt this
  have hy1:((i/n.toNat:Nat):Int)≤n-1:=by have:=Int.ofNat_lt.2 hmd.2;rw [e] at this;exact Int.le_sub_one_of_lt this
  have:=pred_in a b (x:=((i%n.toNat:Nat):Int)) (y:=((i/n.toNat:Nat):Int)) h.1 h.2 ⟨Int.natCast_nonneg _,hx1⟩ ⟨Int.natCast_nonneg _,hy1⟩
  unfold PF;rw [e];exact this
 ·unfold In;intro v hv;cases hv
def ResOk (f p:List Int):Prop:=(f.length=16∨f.length=64)∧p.length=f.length∧In f 0 255∧In p 0 255
instance (f p:List Int):Decidable (ResOk f p):=by unfold ResOk;infer_instance
def BmOk (l t le:List Int) (c n:Int):Prop:=NbOk t le c n∧(l.length:Int)=n*n∧In l 0 255
instance (l t le:List Int) (c n:Int):Decidable (BmOk l t le c n):=by unfold BmOk;infer_instance
end Go.Proofs.YtndflfipaddfoaaGreat
