/- Proved in this text: lemmas and contracts of functions that the claim uses (parts: RdW, RdHs, RdP, Ln, ParL, Dec, Nbs). No condition. -/
import Derived.Test.YtndflfipaddfoaaGreatFdM15
import Derived.Test.YtndflfipaddfoaaGreatFdM10
import Derived.Test.YtndflfipaddfoaaGreatFdM14
set_option linter.unusedVariables false
set_option linter.unusedSimpArgs false
set_option maxRecDepth 100000
set_option maxHeartbeats 16000000


namespace Go.Proofs.YtndflfipaddfoaaGreat
open Go Go.Abs
attribute [local irreducible] WpA WpL Rnd Blk Abs.Seq Abs.Fin Abs.FinG FnC FnG Only
def pvC (p:List UInt8) (s room:Int):Int:=fuC p (fuA p s 0 (kR room)) (fuC p s 0 (kR room)) kL
def pvA (p:List UInt8) (s room:Int):Int:=fuA p (fuA p s 0 (kR room)) (fuC p s 0 (kR room)) kL
def pvR (p:List UInt8) (s room:Int):Int:=if pvC p s room=0 then fuV p s 0 (kR room) else 0
def pvL (p:List UInt8) (s room:Int):Int:=if pvC p s room=0 then lvOf (fuV p (fuA p s 0 (kR room)) (fuC p s 0 (kR room)) kL) else 0
theorem fu_bad {p:List UInt8} {s:Int} {k:Int→Int} (h:ueC p s≠0):fuC p s 0 k=ueC p s∧fuA p s 0 k=s:=by
 have e:fuC p s 0 k=ueC p s:=by rw [fuC,if_pos rfl,if_neg h]
 exact ⟨e,by rw [fuA,if_neg (by rw [e];exact h)]⟩
theorem fu_chk {p:List UInt8} {s c:Int} {k:Int→Int} (h:ueC p s=0) (hk:k (ueV p s)=c) (hc:c≠0):fuC p s 0 k=c∧fuA p s 0 k=s:=by
 have e:fuC p s 0 k=c:=by rw [fuC,if_pos rfl,if_pos h,hk]
 exact ⟨e,by rw [fuA,if_neg (by rw [e];exact hc)]⟩
theorem fu_yes {p:List UInt8} {s:Int} {k:Int→Int} (h:ueC p s=0) (hk:k (ueV p s)=0):fuC p s 0 k=0∧fuA p s 0 k=ueA p s∧fuV p s 0 k=ueV p s:=by
 have e:fuC p s 0 k=0:=by rw [fuC,if_pos rfl,if_pos h,hk]
 exact ⟨e,by rw [fuA,if_pos e],by rw [fuV,if_pos e]⟩
theorem fu_off {p:List UInt8} {s c:Int} {k:Int→Int} (h:c≠0):fuC p s c k=c∧fuA p s c k=s:=by
 have e:fuC p s c k=c:=by rw [fuC,if_neg h]
 exact ⟨e,by rw [fuA,if_neg (by rw [e];exact h)]⟩
theorem pv_1 {p:List UInt8} {s room:Int} (h:ueC p s≠0):pvA p s room=s∧pvC p s room=ueC p s∧pvR p s room=0∧pvL p s room=0:=by
 have e:=fu_bad (k:=kR room) h
 have e2:pvC p s room=ueC p s:=by rw [pvC,e.1,e.2,(fu_off h).1]
 exact ⟨by rw [pvA,e.1,e.2,(fu_off h).2],e2,by rw [pvR,if_neg (by rw [e2];exact h)],by rw [pvL,if_neg (by rw [e2];exact h)]⟩
theorem pv_2 {p:List UInt8} {s room:Int} (h:ueC p s=0) (h2:¬ueV p s<room):pvA p s room=s∧pvC p s room=5∧pvR p s room=0∧pvL p s room=0:=by
 have e:=fu_chk (k:=kR room) h (ifE_no h2) (by decide)
 have e2:pvC p s room=5:=by rw [pvC,e.1,e.2,(fu_off (by decide)).1]
 exact ⟨by rw [pvA,e.1,e.2,(fu_off (by decide)).2],e2,by rw [pvR,if_neg (by rw [e2];decide)],by rw [pvL,if_neg (by rw [e2];decide)]⟩
theorem pv_3 {p:List UInt8} {s room:Int} (h:ueC p s=0) (h2:ueV p s<room) (h3:ueC p (ueA p s)≠0):pvA p s room=ueA p s∧pvC p s room=ueC p (ueA p s)∧pvR p s room=0∧pvL p s room=0:=by
 have e:=fu_yes (k:=kR room) h (ifE_yes h2)
 have f:=fu_bad (k:=kL) h3
 have e2:pvC p s room=ueC p (ueA p s):=by rw [pvC,e.1,e.2.1,f.1]
 exact ⟨by rw [pvA,e.1,e.2.1,f.2],e2,by rw [pvR,if_neg (by rw [e2];exact h3)],by rw [pvL,if_neg (by rw [e2];exact h3)]⟩
theorem pv_4 {p:List UInt8} {s room:Int} (h:ueC p s=0) (h2:ueV p s<room) (h3:ueC p (ueA p s)=0) (h4:¬(-16383≤lvOf (ueV p (ueA p s))∧lvOf (ueV p (ueA p s))≤16383)):pvA p s room=ueA p s∧pvC p s room=5∧pvR p s room=0∧pvL p s room=0:=by
 have e:=fu_yes (k:=kR room) h (ifE_yes h2)
 have f:=fu_chk (k:=kL) h3 (ifE_no h4) (by decide)
 have e2:pvC p s room=5:=by rw [pvC,e.1,e.2.1,f.1]
 exact ⟨by rw [pvA,e.1,e.2.1,f.2],e2,by rw [pvR,if_neg (by rw [e2];decide)],by rw [pvL,if_neg (by rw [e2];decide)]⟩
theorem pv_5 {p:List UInt8} {s room:Int} (h:ueC p s=0) (h2:ueV p s<room) (h3:ueC p (ueA p s)=0) (h4:-16383≤lvOf (ueV p (ueA p s))∧lvOf (ueV p (ueA p s))≤16383):pvA p s room=ueA p (ueA p s)∧pvC p s room=0∧pvR p s room=ueV p s∧pvL p s room=lvOf (ueV p (ueA p s)):=by
 have e:=fu_yes (k:=kR room) h (ifE_yes h2)
 have f:=fu_yes (k:=kL) h3 (ifE_yes h4)
 have e2:pvC p s room=0:=by rw [pvC,e.1,e.2.1,f.1]
 exact ⟨by rw [pvA,e.1,e.2.1,f.2.1],e2,by rw [pvR,if_pos e2,e.2.2],by rw [pvL,if_pos e2,e.1,e.2.1,f.2.2]⟩
theorem lvStep_pv0 {p:List UInt8} {nn:Int} {x:LvS} (hc:x.c=0) (h:pvC p x.a (nn-x.at_)=0):lvStep p nn x=⟨pvA p x.a (nn-x.at_),0,x.at_+pvR p x.a (nn-x.at_)+1,x.out.set (x.at_+pvR p x.a (nn-x.at_)).toNat (pvL p x.a (nn-x.at_))⟩:=by
 have h':=h
 rw [pvC] at h'
 have e3:pvR p x.a (nn-x.at_)=fuV p x.a 0 (kR (nn-x.at_)):=by rw [pvR,if_pos h]
 have e4:pvL p x.a (nn-x.at_)=lvOf (fuV p (fuA p x.a 0 (kR (nn-x.at_))) (fuC p x.a 0 (kR (nn-x.at_))) kL):=by rw [pvL,if_pos h]
 rw [lvStep_yes hc,if_pos h',e3,e4,h'];rfl
theorem lvStep_pv1 {p:List UInt8} {nn:Int} {x:LvS} (hc:x.c=0) (h:pvC p x.a (nn-x.at_)≠0):(lvStep p nn x).a=pvA p x.a (nn-x.at_)∧(lvStep p nn x).c=pvC p x.a (nn-x.at_)∧(lvStep p nn x).out=x.out:=by
 have h':=h
 rw [pvC] at h'
 rw [lvStep_yes hc,if_neg h'];exact ⟨rfl,rfl,rfl⟩
theorem pvR_bd {p:List UInt8} {s room:Int} (h:pvC p s room=0):0≤pvR p s room∧pvR p s room<room:=by
 have h1:fuC p s 0 (kR room)=0:=by
  by_cases h0:fuC p s 0 (kR room)=0
  ·exact h0
  ·rw [pvC,fuC_keep h0] at h;exact absurd h h0
 rw [pvR,if_pos h]
 refine ⟨fuV_nn _ _ _ _,?_⟩
 have hu:=ueV_nn p s
 rw [fuV,if_pos h1]
 rw [fuC,if_pos rfl] at h1
 split at h1
 ·by_cases hlt:ueV p s<room
  ·exact hlt
  ·have h1:ifE (ueV p s<room) 5=0:=h1
   rw [ifE_no hlt] at h1;cases h1
 ·rename_i hh;exact absurd h1 hh
section
attribute [local irreducible] ueA ueV ueC pvC pvA pvR pvL lvOf
instance l23Pair_s:Con 219 (∀ (p:List UInt8) (s room:Int),p.length≤1099511627776→Fn 219 [RA p s,I room] [] (.tup [RA p (pvA p s room),.agg [I (pvR p s room),I (pvL p s room)],I (pvC p s room)])):=⟨fun p s room hl=>by
 have hb:=ueV_bd p s
 have hb2:=ueV_bd p (ueA p s)
 refine FnC.of_body tabOk Tryz.func219 Tryz.ntmps219 rfl (by decide +kernel) (by simp) fun G=>?_
 by_cases h1:ueC p s=0
 rotate_left
 ·obtain ⟨e1,e2,e3,e4⟩:=pv_1 (room:=room) h1
  rw [e1,e2,e3,e4]
  refine go (r:=?_);and_intros<;>intros<;>try exact True.intro
  all_goals first|contradiction
 by_cases h2:ueV p s<room
 rotate_left
 ·obtain ⟨e1,e2,e3,e4⟩:=pv_2 (room:=room) h1 h2
  rw [e1,e2,e3,e4]
  refine go (r:=?_);and_intros<;>intros<;>try exact True.intro
  all_goals first|contradiction|omega
 by_cases h3:ueC p (ueA p s)=0
 rotate_left
 ·obtain ⟨e1,e2,e3,e4⟩:=pv_3 (room:=room) h1 h2 h3
  rw [e1,e2,e3,e4]
  refine go (r:=?_);and_intros<;>intros<;>try exact True.intro
  all_goals first|contradiction|omega
 by_cases h4:-16383≤lvOf (ueV p (ueA p s))∧lvOf (ueV p (ueA p s))≤16383
 rotate_left
 ·obtain ⟨e1,e2,e3,e4⟩:=pv_4 (room:=room) h1 h2 h3 h4
  rw [e1,e2,e3,e4]
  refine go (r:=?_);and_intros<;>intros<;>try exact True.intro
  all_goals first|contradiction|omega
 obtain ⟨e1,e2,e3,e4⟩:=pv_5 (room:=room) h1 h2 h3 h4
 rw [e1,e2,e3,e4]
 refine go (r:=?_);and_intros<;>intros<;>try exact True.intro
 all_goals first|contradiction|omega⟩
end
theorem lv_1 {p:List UInt8} {s n:Int} (h:¬RbOk p s 1):lvS p s n=⟨s,1,0,List.replicate (n*n).toNat 0⟩:=by
 have e1:fbC p s 0 1 k0C=1:=by rw [fbC,if_pos rfl,if_neg h]
 have e2:fbA p s 0 1 k0C=s:=by rw [fbA,if_neg (by rw [e1];decide)]
 rw [lvS_no (by rw [fbV,if_neg (by rw [e1];decide)]),e1,e2]
theorem k0_ok {p:List UInt8} {s:Int} (h:RbOk p s 1):fbC p s 0 1 k0C=0∧fbA p s 0 1 k0C=rbA p s 1∧fbV p s 0 1 k0C=rbV p s 1:=by
 have e1:fbC p s 0 1 k0C=0:=by rw [fbC,if_pos rfl,if_pos h]
 exact ⟨e1,by rw [fbA,if_pos ⟨rfl,e1⟩],by rw [fbV,if_pos e1]⟩
theorem lv_2 {p:List UInt8} {s n:Int} (h:RbOk p s 1) (hv:rbV p s 1=0):lvS p s n=⟨rbA p s 1,0,0,List.replicate (n*n).toNat 0⟩:=by
 obtain ⟨e1,e2,e3⟩:=k0_ok h
 rw [lvS_no (by rw [e3];exact hv),e1,e2]
theorem lvRun_c {p:List UInt8} {nn:Int} {x:LvS} (h:x.c≠0) (j:Nat):lvRun p nn x j=x:=lvRun_stop (k:=0) h j (Nat.zero_le _)
theorem lv_3 {p:List UInt8} {s n:Int} (h:RbOk p s 1) (hv:rbV p s 1≠0) (hu:ueC p (rbA p s 1)≠0):lvS p s n=⟨rbA p s 1,ueC p (rbA p s 1),0,List.replicate (n*n).toNat 0⟩:=by
 obtain ⟨e1,e2,e3⟩:=k0_ok h
 have f:=fu_bad (k:=kR (n*n)) hu
 rw [lvS_yes (by rw [e3];exact hv),e1,e2,f.1,f.2,lvRun_c hu]
theorem lv_4 {p:List UInt8} {s n:Int} (h:RbOk p s 1) (hv:rbV p s 1≠0) (hu:ueC p (rbA p s 1)=0) (h2:¬ueV p (rbA p s 1)<n*n):lvS p s n=⟨rbA p s 1,5,0,List.replicate (n*n).toNat 0⟩:=by
 obtain ⟨e1,e2,e3⟩:=k0_ok h
 have f:=fu_chk (k:=kR (n*n)) hu (ifE_no h2) (by decide)
 rw [lvS_yes (by rw [e3];exact hv),e1,e2,f.1,f.2,lvRun_c (show (5:Int)≠0 by decide)]
theorem lv_5 {p:List UInt8} {s n:Int} (h:RbOk p s 1) (hv:rbV p s 1≠0) (hu:ueC p (rbA p s 1)=0) (h2:ueV p (rbA p s 1)<n*n):lvS p s n=lvRun p (n*n) ⟨ueA p (rbA p s 1),0,0,List.replicate (n*n).toNat 0⟩ (1+ueV p (rbA p s 1)).toNat:=by
 obtain ⟨e1,e2,e3⟩:=k0_ok h
 have f:=fu_yes (k:=kR (n*n)) hu (ifE_yes h2)
 rw [lvS_yes (by rw [e3];exact hv),e1,e2,f.1,f.2.1,f.2.2]
section
attribute [local irreducible] rbA rbV ueA ueV ueC pvC pvA pvR pvL lvOf lvS lvRun
instance l23Levels_s:Con 135 (∀ (p:List UInt8) (s n:Int),p.length≤1099511627776∧(n=4∨n=8)→Fn 135 [RA p s,I n] [XI (lvS p s n).out] (.tup [RA p (lvS p s n).a,.own 0 0 0 (lvS p s n).out.length,I (lvS p s n).c])):=⟨fun p s n hl=>by
 obtain ⟨hl,hn⟩:=hl
 have hnn:16≤n*n∧n*n≤64:=by rcases hn with rfl|rfl<;>decide
 have hn2:=mul_in (a:=n) (b:=n) (by omega) (by omega)
 refine FnC.of_body tabOk Tryz.func135 Tryz.ntmps135 rfl (by decide +kernel) (by simp) fun G=>?_
 by_cases h1:RbOk p s 1
 rotate_left
 ·rw [lv_1 h1]
  refine go (r:=?_);and_intros<;>intros<;>try exact True.intro
  all_goals first|contradiction
 by_cases h2:rbV p s 1=0
 ·rw [lv_2 h1 h2]
  refine go (r:=?_);and_intros<;>intros<;>try exact True.intro
  all_goals first|contradiction
 have hb:=ueV_bd p (rbA p s 1)
 have hb2:=ueV_nn p (rbA p s 1)
 by_cases h3:ueC p (rbA p s 1)=0
 rotate_left
 ·rw [lv_3 h1 h2 h3]
  refine go (r:=?_);and_intros<;>intros<;>try exact True.intro
  all_goals first|contradiction
 by_cases h4:ueV p (rbA p s 1)<n*n
 rotate_left
 ·rw [lv_4 h1 h2 h3 h4]
  refine go (r:=?_);and_intros<;>intros<;>try exact True.intro
  all_goals first|contradiction|omega
 rw [lv_5 h1 h2 h3 h4]
 have hr0:=lvRun_at (p:=p) (nn:=n*n) (x:=⟨ueA p (rbA p s 1),0,0,List.replicate (n*n).toNat 0⟩) (show (0:Int)≤0∧(0:Int)≤n*n by omega)
 have hln:=lvRun_len p (n*n) ⟨ueA p (rbA p s 1),0,0,List.replicate (n*n).toNat 0⟩
 have hst:∀k,lvRun p (n*n) ⟨ueA p (rbA p s 1),0,0,List.replicate (n*n).toNat 0⟩ (k+1)=lvStep p (n*n) (lvRun p (n*n) ⟨ueA p (rbA p s 1),0,0,List.replicate (n*n).toNat 0⟩ k):=fun _=>by rw [lvRun]
 have hsp:=fun k=>lvRun_stop (p:=p) (nn:=n*n) (x:=⟨ueA p (rbA p s 1),0,0,List.replicate (n*n).toNat 0⟩) (k:=k)
 have hz:lvRun p (n*n) ⟨ueA p (rbA p s 1),0,0,List.replicate (n*n).toNat 0⟩ 0=⟨ueA p (rbA p s 1),0,0,List.replicate (n*n).toNat 0⟩:=by rw [lvRun]
 generalize lvRun p (n*n) ⟨ueA p (rbA p s 1),0,0,List.replicate (n*n).toNat 0⟩=X at hr0 hln hst hsp hz ⊢
 have hz2:(X (1+ueV p (rbA p s 1)).toNat).out.length=(n*n).toNat:=by rw [hln];simp
 refine go (r:=?_);and_intros<;>intros<;>try exact True.intro
 all_goals first|contradiction|omega|skip
 generalize ueV p (rbA p s 1)=u at hb hb2 h4 hz2 ⊢
 refine WpA.loop (fun k:Nat=>⟨[(1,I n),(4,.ptr 1 0 0),(7,.own 2 0 0 (n*n).toNat),(11,.ptr 4 0 0),(12,I u),(14,I (X k).at_),(15,I k)],[BoxR p s,R0,XI (X k).out,⟨[Z p,I (rbA p s 1)],0,0,none⟩,⟨[Z p,I (X k).a],0,0,none⟩]⟩) (fun k=>(k:Int)≤1+u∧(X k).c=0) (fun k=>(1+u).toNat-k) 0 (by rw [hz];exact ⟨by omega,rfl⟩) (go (r:=?_)) (fun k hk=>?_)
 ·rw [hz];and_intros<;>first|exact True.intro|rfl
 have hr0:=hr0 k
 have hln:=hln k
 have hst:=hst k
 have hsp1:=fun h=>hsp (k+1) h (1+u).toNat
 have hfin:¬(k:Int)≤u→X (1+u).toNat=X k:=fun h=>by rw [show (1+u).toNat=k by omega]
 generalize hy:X k=y at hr0 hln hst hsp1 hk hfin ⊢
 have hln:y.out.length=(n*n).toNat:=by simpa using hln
 have hrm:=pvR_bd (p:=p) (s:=y.a) (room:=n*n-y.at_)
 by_cases hp:pvC p y.a (n*n-y.at_)=0
 ·have hrm:=hrm hp
  rw [lvStep_pv0 hk.2 hp] at hst
  clear hsp1
  refine go (r:=?_);and_intros<;>intros<;>try exact True.intro
  all_goals first|contradiction|(rw [hst];done)|(rw [hfin (by assumption)];first|done|exact hk.2.symm)
 ·have e:=lvStep_pv1 (p:=p) (nn:=n*n) hk.2 hp
  rw [←hst] at e
  have hNk:=hsp1 (by rw [e.2.1];exact hp)
  clear hst hrm
  refine go (r:=?_);and_intros<;>intros<;>try exact True.intro
  all_goals first|contradiction|(rw [hfin (by assumption)];first|done|exact hk.2.symm)|(rw [hNk (by omega)];first|exact e.1.symm|exact e.2.1.symm|exact e.1|exact e.2.1|rw [e.1]|rw [e.2.1]|rw [e.2.2])⟩
end
section
attribute [local irreducible] lvS smA smV smC blS
instance ReadBlock_s:Con 116 (∀ (p:List UInt8) (s:Int) (lens:List Int) (n:Int),p.length≤1099511627776∧lens.length≤1099511627776→Fn 116 [RA p s,IL lens,I n] [XI (blS p s lens n).l] (.tup [RA p (blS p s lens n).a,BkV (blS p s lens n).m (blS p s lens n).l,I (blS p s lens n).c])):=⟨fun p s lens n hl=>by
 refine FnC.of_body tabOk Tryz.func116 Tryz.ntmps116 rfl (by decide +kernel) (by simp) fun G=>?_
 by_cases hn:n=4∨n=8
 rotate_left
 ·rw [blS_4 hn]
  refine go (r:=?_);and_intros<;>intros<;>try exact True.intro
  all_goals first|contradiction
 by_cases hs:smC p s lens=0
 rotate_left
 ·rw [blS_3 hn hs]
  have ea:=smA_bad hs
  refine go (r:=?_);and_intros<;>intros<;>try exact True.intro
  all_goals first|contradiction
 by_cases hy:(lvS p (smA p s lens) n).c=0
 ·rw [blS_1 hn hs hy]
  refine go (r:=?_);and_intros<;>intros<;>try exact True.intro
  all_goals first|contradiction
 ·rw [blS_2 hn hs hy]
  refine go (r:=?_);and_intros<;>intros<;>try exact True.intro
  all_goals first|contradiction⟩
end
section
attribute [local irreducible] rbA rbV blS mbS mbRun sz8 nm8
instance ReadMb_s:Con 51 (∀ (p:List UInt8) (s:Int) (lens:List Int),p.length≤1099511627776∧lens.length≤1099511627776→Fn 51 [RA p s,IL lens] [BkO (mbS p s lens).1.bs] (.tup [RA p (mbS p s lens).1.a,MbV (mbS p s lens).2 (mbS p s lens).1.bs.length,I (mbS p s lens).1.c])):=⟨fun p s lens hl=>by
 refine FnC.of_body tabOk Tryz.func51 Tryz.ntmps51 rfl (by decide +kernel) (by simp) fun G=>?_
 by_cases ho:RbOk p s 1
 rotate_left
 ·rw [mbS_no ho]
  refine go (r:=?_);and_intros<;>intros<;>try exact True.intro
  all_goals first|contradiction
 have ea:=(rb_yes ho).1
 generalize hE:decide (rbV p s 1=1)=E
 rw [mbS_yes ho hE]
 have hc8:=sz8_cases E
 have hnn:sz8 E*sz8 E=16∨sz8 E*sz8 E=64:=by rcases hc8 with ⟨h,_⟩|⟨h,_⟩<;>rw [h]<;>decide
 have hq:64/(sz8 E*sz8 E)=nm8 E:=by rcases hc8 with ⟨h,h2⟩|⟨h,h2⟩<;>rw [h,h2]<;>decide
 refine go (r:=?_);and_intros<;>intros<;>try exact True.intro
 all_goals first|contradiction|skip
 rw [hE,ea]
 have hz:(mbRun p (s+1) lens (sz8 E) 0)=⟨s+1,0,[]⟩:=by rw [mbRun]
 have hln:=fun k h=>mbRun_len p (s+1) lens (sz8 E) k h
 have hnx:=fun k h hb=>mbRun_next (p:=p) (s:=s+1) (lens:=lens) (n:=sz8 E) (k:=k) h hb
 have hbd:=fun k h hb j hj=>mbRun_bad (p:=p) (s:=s+1) (lens:=lens) (n:=sz8 E) (k:=k) h hb j hj
 generalize mbRun p (s+1) lens (sz8 E)=X at hz hln hnx hbd ⊢
 refine WpA.loop (fun k:Nat=>⟨[(1,IL lens),(4,.ptr 1 0 0),(5,.ptr 2 0 0),(7,.ptr 3 0 0),(10,.ptr 4 0 0),(11,I (sz8 E)),(12,I k)],[BoxR p s,R0,⟨[B false,.nilS],0,0,none⟩,⟨[Z p,I (X k).a],0,0,none⟩,⟨[B E,.own 5 0 0 k],0,0,none⟩,BkO (X k).bs]⟩) (fun k=>(k:Int)≤nm8 E∧(X k).c=0) (fun k=>(nm8 E).toNat-k) 0 (by rw [hz];exact ⟨by omega,rfl⟩) ?_ (fun k hk=>?_)
 ·rw [hz];exact Weak.nil1 (by first|(show 0≤_;exact Nat.zero_le _)|(repeat' (first|exact RzT.nil|refine RzT.cons ?_ ?_|exact Rz.nil|refine Rz.keep rfl rfl ?_|refine Rz.own rfl rfl rfl rfl rfl (by first|rfl|omega|(simp;done)) ?_|refine Rz.ptr rfl rfl rfl rfl ?_|refine Rz.nilO rfl rfl rfl (by first|rfl|omega|(simp;done)) ?_|refine Rz.agg ?_ ?_|exact RzO.last rfl|(refine RzO.cons ?_ (.inr rfl) ?_)|exact Rz.same rfl (still_ints _)|exact Rz.same rfl (still_rows (fun _=>rfl) _)))) (by first|(show 0≤_;exact Nat.zero_le _)|(repeat' (first|exact RzT.nil|refine RzT.cons ?_ ?_|exact Rz.nil|refine Rz.keep rfl rfl ?_|refine Rz.own rfl rfl rfl rfl rfl (by first|rfl|omega|(simp;done)) ?_|refine Rz.ptr rfl rfl rfl rfl ?_|refine Rz.nilO rfl rfl rfl (by first|rfl|omega|(simp;done)) ?_|refine Rz.agg ?_ ?_|exact RzO.last rfl|(refine RzO.cons ?_ (.inr rfl) ?_)|exact Rz.same rfl (still_ints _)|exact Rz.same rfl (still_rows (fun _=>rfl) _)))) (Nat.zero_le _)
 have hln:=hln k hk.2
 have hnx:=hnx k hk.2
 have hbd:=hbd k hk.2
 have hfin:¬(k:Int)<nm8 E→X (nm8 E).toNat=X k:=fun h=>by rw [show (nm8 E).toNat=k by omega]
 generalize hy:X k=y at hk hln hnx hbd hfin ⊢
 have hln:y.bs.length=k:=hln
 by_cases hb:(blS p y.a lens (sz8 E)).c=0
 ·have hnx:=hnx hb
  clear hbd
  refine go (r:=?_);and_intros<;>intros<;>try exact True.intro
  all_goals rw [hq] at*
  all_goals first|contradiction|omega|(rw [hnx];done)|(rw [hfin (by assumption)];first|done|omega|(simp [hk.2];done)|(simp only;omega))
 ·have hbd:=hbd hb
  clear hnx
  refine go (r:=?_);and_intros<;>intros<;>try exact True.intro
  all_goals rw [hq] at*
  all_goals first|contradiction|omega|(rw [hbd _ (by omega)];first|done|(simp [hb];done))|(rw [hfin (by assumption)];first|done|omega|(simp [hk.2];done)|(simp only;omega))⟩
end
end Go.Proofs.YtndflfipaddfoaaGreat


namespace Go.Proofs.YtndflfipaddfoaaGreat
open Go Go.Abs
attribute [local irreducible] WpA WpL Rnd Blk Abs.Seq Abs.Fin Abs.FinG FnC FnG Only
theorem ueA_badH {p:List UInt8} {s:Int} (h:ueC p s≠0):ueA p s=s:=by
 by_cases h15:zrs p s≤15
 ·by_cases hok:RbOk p s (2*(zrs p s:Int)+1)
  ·exact absurd (ue_yes h15 hok).2.1 h
  ·exact (ue_short h15 hok).1
 ·exact (ue_code (s:=s) (p:=p) h15).1
theorem fuC_k {p:List UInt8} {s c:Int} {k:Int→Int} (h:c≠0):fuC p s c k=c:=by rw [fuC,if_neg h]
theorem fuA_k {p:List UInt8} {s c:Int} {k:Int→Int} (h:c≠0):fuA p s c k=s:=by rw [fuA,if_neg (by rw [fuC_k h];exact h)]
theorem fbC_k {p:List UInt8} {s c n:Int} {k:Int→Int} (h:c≠0):fbC p s c n k=c:=by rw [fbC,if_neg h]
theorem fbA_k {p:List UInt8} {s c n:Int} {k:Int→Int} (h:c≠0):fbA p s c n k=s:=by rw [fbA,if_neg (fun hh=>h hh.1)]
theorem fbA_b {p:List UInt8} {s n:Int} {k:Int→Int} (h:fbC p s 0 n k≠0):fbA p s 0 n k=s:=by rw [fbA,if_neg (fun hh=>h hh.2)]
theorem fuA_b {p:List UInt8} {s:Int} {k:Int→Int} (h:fuC p s 0 k≠0):fuA p s 0 k=s:=by rw [fuA,if_neg h]
theorem hd_f1 {p:List UInt8} {s:Int} (h:fbC p s 0 8 hk1≠0):(hdS p s).a=s∧(hdS p s).c=fbC p s 0 8 hk1:=by
 constructor
 ·simp only [hdS,fuA_k h,fuC_k h,fbA_k h,fbC_k h];exact fbA_b h
 ·simp only [hdS,fuA_k h,fuC_k h,fbA_k h,fbC_k h]
theorem hd_f2 {p:List UInt8} {s A1:Int} (h1:fbC p s 0 8 hk1=0) (e1:fbA p s 0 8 hk1=A1) (h:fuC p A1 0 hk2≠0):(hdS p s).a=A1∧(hdS p s).c=fuC p A1 0 hk2:=by
 constructor
 ·simp only [hdS,h1,e1,fuA_k h,fuC_k h,fbA_k h,fbC_k h];exact fuA_b h
 ·simp only [hdS,h1,e1,fuA_k h,fuC_k h,fbA_k h,fbC_k h]
theorem hd_f3 {p:List UInt8} {s A1 A2:Int} (h1:fbC p s 0 8 hk1=0) (e1:fbA p s 0 8 hk1=A1) (h2:fuC p A1 0 hk2=0) (e2:fuA p A1 0 hk2=A2) (h:fuC p A2 0 hk2≠0):(hdS p s).a=A2∧(hdS p s).c=fuC p A2 0 hk2:=by
 constructor
 ·simp only [hdS,h1,e1,h2,e2,fuA_k h,fuC_k h,fbA_k h,fbC_k h];exact fuA_b h
 ·simp only [hdS,h1,e1,h2,e2,fuA_k h,fuC_k h,fbA_k h,fbC_k h]
theorem hd_f4 {p:List UInt8} {s A1 A2 A3:Int} (h1:fbC p s 0 8 hk1=0) (e1:fbA p s 0 8 hk1=A1) (h2:fuC p A1 0 hk2=0) (e2:fuA p A1 0 hk2=A2) (h3:fuC p A2 0 hk2=0) (e3:fuA p A2 0 hk2=A3) (h:fbC p A3 0 6 hk3≠0):(hdS p s).a=A3∧(hdS p s).c=fbC p A3 0 6 hk3:=by
 constructor
 ·simp only [hdS,h1,e1,h2,e2,h3,e3,fuA_k h,fuC_k h,fbA_k h,fbC_k h];exact fbA_b h
 ·simp only [hdS,h1,e1,h2,e2,h3,e3,fuA_k h,fuC_k h,fbA_k h,fbC_k h]
theorem hd_f5 {p:List UInt8} {s A1 A2 A3 A4:Int} (h1:fbC p s 0 8 hk1=0) (e1:fbA p s 0 8 hk1=A1) (h2:fuC p A1 0 hk2=0) (e2:fuA p A1 0 hk2=A2) (h3:fuC p A2 0 hk2=0) (e3:fuA p A2 0 hk2=A3) (h4:fbC p A3 0 6 hk3=0) (e4:fbA p A3 0 6 hk3=A4) (h:fbC p A4 0 2 hk4≠0):(hdS p s).a=A4∧(hdS p s).c=fbC p A4 0 2 hk4:=by
 constructor
 ·simp only [hdS,h1,e1,h2,e2,h3,e3,h4,e4,fuA_k h,fuC_k h,fbA_k h,fbC_k h];exact fbA_b h
 ·simp only [hdS,h1,e1,h2,e2,h3,e3,h4,e4,fuA_k h,fuC_k h,fbA_k h,fbC_k h]
theorem hd_f6 {p:List UInt8} {s A1 A2 A3 A4 A5:Int} (h1:fbC p s 0 8 hk1=0) (e1:fbA p s 0 8 hk1=A1) (h2:fuC p A1 0 hk2=0) (e2:fuA p A1 0 hk2=A2) (h3:fuC p A2 0 hk2=0) (e3:fuA p A2 0 hk2=A3) (h4:fbC p A3 0 6 hk3=0) (e4:fbA p A3 0 6 hk3=A4) (h5:fbC p A4 0 2 hk4=0) (e5:fbA p A4 0 2 hk4=A5):
 hdS p s=⟨fbA p A5 0 18 hk5,fbC p A5 0 18 hk5,fuV p A1 0 hk2,fuV p A2 0 hk2,fbV p A3 0 6 hk3,fbV p A4 0 2 hk4,fbV p A5 0 18 hk5⟩:=by
 simp only [hdS,h1,e1,h2,e2,h3,e3,h4,e4,h5,e5]
def sdV (p:List UInt8) (s:Int):Int:=if ueC p s=0∧ueV p s>3 then 0 else 8*ueV p s+8
instance l22Side_s:Con 268 (∀ (p:List UInt8) (s:Int),p.length≤1099511627776→Fn 268 [RA p s] [] (.tup [RA p (fuA p s 0 hk2),I (sdV p s),I (fuC p s 0 hk2)])):=⟨fun p s hl=>by
 have hb:=ueV_bd p s
 refine FnC.of_body tabOk Tryz.func268 Tryz.ntmps268 rfl (by decide +kernel) (by simp) fun G=>?_
 by_cases hc:ueC p s=0
 ·by_cases hv:ueV p s≤3
  ·have e1:fuC p s 0 hk2=0:=by rw [fuC,if_pos rfl,if_pos hc];exact ifE_yes hv
   have e2:fuA p s 0 hk2=ueA p s:=by rw [fuA,if_pos e1]
   have e3:sdV p s=8*ueV p s+8:=by rw [sdV,if_neg (by omega)]
   rw [e1,e2,e3]
   refine go (r:=?_);and_intros<;>intros<;>try exact True.intro
   all_goals first|(exact absurd hc (by assumption))|omega
  ·have e1:fuC p s 0 hk2=3:=by rw [fuC,if_pos rfl,if_pos hc];exact ifE_no hv
   have e2:fuA p s 0 hk2=s:=by rw [fuA,if_neg (by omega)]
   have e3:sdV p s=0:=by rw [sdV,if_pos (by omega)]
   rw [e1,e2,e3]
   refine go (r:=?_);and_intros<;>intros<;>try exact True.intro
   all_goals first|(exact absurd hc (by assumption))|omega
 ·have e1:fuC p s 0 hk2=ueC p s:=by rw [fuC,if_pos rfl,if_neg hc]
  have e2:fuA p s 0 hk2=ueA p s:=by rw [fuA,if_neg (by omega),ueA_badH hc]
  have e3:sdV p s=8*ueV p s+8:=by rw [sdV,if_neg (by omega)]
  rw [e1,e2,e3]
  refine go (r:=?_);and_intros<;>intros<;>try exact True.intro
  all_goals first|(exact absurd (by assumption) hc)|omega⟩
def lnL (p:List UInt8) (s:Int):List Int:=if RbOk p s 18 then lensV (rbV p s 18) else []
instance l22Lens_s:Con 269 (∀ (p:List UInt8) (s:Int),p.length≤1099511627776→Fn 269 [RA p s] [XI (lnL p s)] (.tup [RA p (fbA p s 0 18 hk5),.own 0 0 0 (lnL p s).length,I (fbC p s 0 18 hk5)])):=⟨fun p s hl=>by
 have hb:=rbV_bd p s 18
 refine FnC.of_body tabOk Tryz.func269 Tryz.ntmps269 rfl (by decide +kernel) (by simp) fun G=>?_
 by_cases hok:RbOk p s 18
 ·have eL:lnL p s=lensV (rbV p s 18):=if_pos hok
  have e1:fbC p s 0 18 hk5=ifE (CodeOk (lensV (rbV p s 18))) 4:=by rw [fbC,if_pos rfl,if_pos hok]
  have e2:fbA p s 0 18 hk5=if CodeOk (lensV (rbV p s 18)) then rbA p s 18 else s:=by
   rw [fbA,e1]
   by_cases h:CodeOk (lensV (rbV p s 18))
   ·rw [if_pos ⟨rfl,ifE_yes h⟩,if_pos h]
   ·rw [if_neg (by rw [ifE_no h];decide),if_neg h]
  rw [eL,e1,e2]
  refine go (r:=?_);and_intros<;>intros<;>try exact True.intro
  refine WpA.loop (fun k:Nat=>⟨[(1,.ptr 0 0 0),(2,.ptr 1 0 0),(5,.own 2 0 0 k),(6,.ptr 3 0 0),(7,I (rbV p s 18)),(9,I (5-(k:Int)))],[⟨[Z p,I s],0,0,none⟩,⟨[Z [],I 0],0,0,none⟩,XI (lensK (rbV p s 18) k),⟨[Z p,I (rbA p s 18)],0,0,none⟩]⟩) (fun k=>k≤6) (fun k=>6-k) 0 (by omega) (go (r:=?_)) (fun k hk=>?_)
  ·simp [lensK]
  have hkl:=lensK_len (rbV p s 18) k
  have hks:=lensK_succ (rbV p s 18) k
  have hd0:=Int.ediv_nonneg (a:=rbV p s 18) (b:=2 ^ (3*(5-(k:Int))).toNat) hb.1 (Int.pow_nonneg (by decide))
  have hd1:=Int.ediv_le_self (a:=rbV p s 18) (2 ^ (3*(5-(k:Int))).toNat) hb.1
  have hla:lenAt (rbV p s 18) (5-k)=rbV p s 18/2 ^ (3*(5-k))%8:=rfl
  refine go (r:=?_);and_intros<;>intros<;>try exact True.intro
  all_goals first|((have ek:k=6:=by omega);subst ek;exact lensK_6 _)|(rw [hks,and7 _ ⟨hd0,by omega⟩,hla,show (3*(5-(k:Int))).toNat=3*(5-k) by omega];done)|((have ek:k=6:=by omega);subst ek;rw [lensK_6] at *;first|rfl|(simp_all [ifE];done))
 ·have eL:lnL p s=[]:=if_neg hok
  have e1:fbC p s 0 18 hk5=1:=by rw [fbC,if_pos rfl,if_neg hok]
  have e2:fbA p s 0 18 hk5=s:=by rw [fbA,if_neg (by rw [e1];decide)]
  rw [eL,e1,e2]
  refine go (r:=?_);and_intros<;>intros<;>try exact True.intro
  all_goals first|(exact absurd (by assumption) hok)⟩
theorem fb_yes {p:List UInt8} {s n:Int} {k:Int→Int} (h:RbOk p s n) (hv:k (rbV p s n)=0):fbC p s 0 n k=0∧fbA p s 0 n k=rbA p s n∧fbV p s 0 n k=rbV p s n:=by
 have e:fbC p s 0 n k=0:=by rw [fbC,if_pos rfl,if_pos h,hv]
 exact ⟨e,by rw [fbA,if_pos ⟨rfl,e⟩],by rw [fbV,if_pos e]⟩
theorem fb_no1 {p:List UInt8} {s n:Int} {k:Int→Int} (h:¬RbOk p s n):fbC p s 0 n k=1:=by rw [fbC,if_pos rfl,if_neg h]
theorem fb_no2 {p:List UInt8} {s n:Int} {k:Int→Int} (h:RbOk p s n) {c:Int} (hv:k (rbV p s n)=c):fbC p s 0 n k=c:=by rw [fbC,if_pos rfl,if_pos h,hv]
theorem sdV_ok {p:List UInt8} {s:Int} (h:fuC p s 0 hk2=0):sdV p s=8*(fuV p s 0 hk2+1):=by
 have hu:ueC p s=0:=by
  by_cases hu:ueC p s=0
  ·exact hu
  ·rw [fuC,if_pos rfl,if_neg hu] at h;exact h
 have hv:ueV p s≤3:=by
  by_cases hv:ueV p s≤3
  ·exact hv
  ·rw [fuC,if_pos rfl,if_pos hu] at h
   have h:ifE (ueV p s≤3) 3=0:=h
   rw [ifE_no hv] at h;exact absurd h (by decide)
 rw [fuV,if_pos h,sdV,if_neg (by omega)];omega
attribute [local irreducible] rbA rbV ueA ueV ueC fuA fuC fuV fbA fbC fbV sdV lnL zrs numB lft hdS lensV
theorem WpA.hide {P:Program} {n m:Nat} {G:Ctx} {c:Code} {σ:St} {Q:Exit→St→Prop} (h:∀Q',Q'=Q→WpA P n m G c σ Q'):WpA P n m G c σ Q:=h Q rfl
theorem bad_all {x:HdS} (h:x.c≠0):x.W=0∧x.H=0∧x.Q=0∧x.B=false∧x.D=false∧x.L=[]:=
 ⟨if_neg h,if_neg h,if_neg h,by unfold HdS.B;simp [h],by unfold HdS.D;simp [h],if_neg h⟩
instance ReadHeader_s:Con 222 (∀ (p:List UInt8) (s:Int),p.length≤1099511627776→Fn 222 [RA p s] [XI (hdS p s).L] (.tup [RA p (hdS p s).a,HdV (hdS p s),I (hdS p s).c])):=⟨fun p s hl=>by
 have eV:∀y:HdS,HdV y=.agg [I y.W,I y.H,I y.Q,B y.B,B y.D,.own 0 0 0 y.L.length]:=fun _=>rfl
 rw [eV]
 have b5:=rbV_bd p (rbA p (fuA p (fuA p (rbA p s 8) 0 hk2) 0 hk2) 6) 2
 generalize hx:hdS p s=x
 refine FnC.of_body tabOk Tryz.func222 Tryz.ntmps222 rfl (by decide +kernel) (by simp) fun G=>?_
 refine WpA.hide fun Q' hQ'=>?_
 refine go (r:=?_);and_intros<;>intros<;>try exact True.intro
 ·rename_i o1
  have f:=fb_no1 (k:=hk1) o1
  have e:x.a=s∧x.c=1:=by have:=hd_f1 (p:=p) (s:=s) (by rw [f];decide);rw [f,hx] at this;exact this
  have hc0:x.c≠0:=by rw [e.2];first|decide|assumption
  obtain ⟨q1,q2,q3,q4,q5,q6⟩:=bad_all hc0
  subst hQ'
  rw [q1,q2,q3,q4,q5,q6,e.1,e.2]
  refine go (r:=?_);and_intros<;>intros<;>try exact True.intro
  all_goals first|rfl|exact fuA_b (by assumption)
 ·rename_i o1 v1
  have f:=fb_no2 (k:=hk1) o1 (c:=2) (ifE_no v1)
  have e:x.a=s∧x.c=2:=by have:=hd_f1 (p:=p) (s:=s) (by rw [f];decide);rw [f,hx] at this;exact this
  have hc0:x.c≠0:=by rw [e.2];first|decide|assumption
  obtain ⟨q1,q2,q3,q4,q5,q6⟩:=bad_all hc0
  subst hQ'
  rw [q1,q2,q3,q4,q5,q6,e.1,e.2]
  refine go (r:=?_);and_intros<;>intros<;>try exact True.intro
  all_goals first|rfl|exact fuA_b (by assumption)
 ·rename_i o1 v1 c2
  obtain ⟨c1,e1,-⟩:=fb_yes (k:=hk1) o1 (ifE_yes v1)
  have e:x.a=rbA p s 8∧x.c=fuC p (rbA p s 8) 0 hk2:=by have:=hd_f2 c1 e1 c2;rw [hx] at this;exact this
  have hc0:x.c≠0:=by rw [e.2];first|decide|assumption
  obtain ⟨q1,q2,q3,q4,q5,q6⟩:=bad_all hc0
  subst hQ'
  rw [q1,q2,q3,q4,q5,q6,e.1,e.2]
  refine go (r:=?_);and_intros<;>intros<;>try exact True.intro
  all_goals first|rfl|exact fuA_b (by assumption)
 ·rename_i o1 v1 c2 c3
  obtain ⟨c1,e1,-⟩:=fb_yes (k:=hk1) o1 (ifE_yes v1)
  have e:x.a=(fuA p (rbA p s 8) 0 hk2)∧x.c=fuC p (fuA p (rbA p s 8) 0 hk2) 0 hk2:=by have:=hd_f3 c1 e1 c2 rfl c3;rw [hx] at this;exact this
  have hc0:x.c≠0:=by rw [e.2];first|decide|assumption
  obtain ⟨q1,q2,q3,q4,q5,q6⟩:=bad_all hc0
  subst hQ'
  rw [q1,q2,q3,q4,q5,q6,e.1,e.2]
  refine go (r:=?_);and_intros<;>intros<;>try exact True.intro
  all_goals first|rfl|exact fuA_b (by assumption)
 ·rename_i o1 v1 c2 c3 o4
  obtain ⟨c1,e1,-⟩:=fb_yes (k:=hk1) o1 (ifE_yes v1)
  have f:=fb_no1 (k:=hk3) o4
  have e:x.a=(fuA p (fuA p (rbA p s 8) 0 hk2) 0 hk2)∧x.c=1:=by have:=hd_f4 c1 e1 c2 rfl c3 rfl (by rw [f];decide);rw [f,hx] at this;exact this
  have hc0:x.c≠0:=by rw [e.2];first|decide|assumption
  obtain ⟨q1,q2,q3,q4,q5,q6⟩:=bad_all hc0
  subst hQ'
  rw [q1,q2,q3,q4,q5,q6,e.1,e.2]
  refine go (r:=?_);and_intros<;>intros<;>try exact True.intro
  all_goals first|rfl|exact fuA_b (by assumption)
 ·rename_i o1 v1 c2 c3 o4 v4
  obtain ⟨c1,e1,-⟩:=fb_yes (k:=hk1) o1 (ifE_yes v1)
  have f:=fb_no2 (k:=hk3) o4 (c:=3) (ifE_no (by omega))
  have e:x.a=(fuA p (fuA p (rbA p s 8) 0 hk2) 0 hk2)∧x.c=3:=by have:=hd_f4 c1 e1 c2 rfl c3 rfl (by rw [f];decide);rw [f,hx] at this;exact this
  have hc0:x.c≠0:=by rw [e.2];first|decide|assumption
  obtain ⟨q1,q2,q3,q4,q5,q6⟩:=bad_all hc0
  subst hQ'
  rw [q1,q2,q3,q4,q5,q6,e.1,e.2]
  refine go (r:=?_);and_intros<;>intros<;>try exact True.intro
  all_goals first|rfl|exact fuA_b (by assumption)
 ·rename_i o1 v1 c2 c3 o4 v4 o5
  obtain ⟨c1,e1,-⟩:=fb_yes (k:=hk1) o1 (ifE_yes v1)
  obtain ⟨c4,e4,g4⟩:=fb_yes (k:=hk3) o4 (ifE_yes (by omega))
  have f:=fb_no1 (k:=hk4) o5
  have e:x.a=(rbA p (fuA p (fuA p (rbA p s 8) 0 hk2) 0 hk2) 6)∧x.c=1:=by have:=hd_f5 c1 e1 c2 rfl c3 rfl c4 e4 (by rw [f];decide);rw [f,hx] at this;exact this
  have hc0:x.c≠0:=by rw [e.2];first|decide|assumption
  obtain ⟨q1,q2,q3,q4,q5,q6⟩:=bad_all hc0
  subst hQ'
  rw [q1,q2,q3,q4,q5,q6,e.1,e.2]
  refine go (r:=?_);and_intros<;>intros<;>try exact True.intro
  all_goals first|rfl|exact fuA_b (by assumption)
 ·rename_i o1 v1 c2 c3 o4 v4 o5 c6
  obtain ⟨c1,e1,-⟩:=fb_yes (k:=hk1) o1 (ifE_yes v1)
  obtain ⟨c4,e4,g4⟩:=fb_yes (k:=hk3) o4 (ifE_yes (by omega))
  obtain ⟨c5,e5,g5⟩:=fb_yes (k:=hk4) o5 (show hk4 (rbV p (rbA p (fuA p (fuA p (rbA p s 8) 0 hk2) 0 hk2) 6) 2)=0 from rfl)
  have hS:=hd_f6 c1 e1 c2 rfl c3 rfl c4 e4 c5 e5
  rw [g4,g5,hx] at hS
  have e:x.a=fbA p (rbA p (rbA p (fuA p (fuA p (rbA p s 8) 0 hk2) 0 hk2) 6) 2) 0 18 hk5∧x.c=fbC p (rbA p (rbA p (fuA p (fuA p (rbA p s 8) 0 hk2) 0 hk2) 6) 2) 0 18 hk5:=⟨by rw [hS],by rw [hS]⟩
  have hc0:x.c≠0:=by rw [e.2];first|decide|assumption
  obtain ⟨q1,q2,q3,q4,q5,q6⟩:=bad_all hc0
  subst hQ'
  rw [q1,q2,q3,q4,q5,q6,e.1,e.2]
  refine go (r:=?_);and_intros<;>intros<;>try exact True.intro
  all_goals first|rfl|exact fuA_b (by assumption)
 ·rename_i o1 v1 c2 c3 o4 v4 o5 c6
  obtain ⟨c1,e1,-⟩:=fb_yes (k:=hk1) o1 (ifE_yes v1)
  obtain ⟨c4,e4,g4⟩:=fb_yes (k:=hk3) o4 (ifE_yes (by omega))
  obtain ⟨c5,e5,g5⟩:=fb_yes (k:=hk4) o5 (show hk4 (rbV p (rbA p (fuA p (fuA p (rbA p s 8) 0 hk2) 0 hk2) 6) 2)=0 from rfl)
  have hS:=hd_f6 c1 e1 c2 rfl c3 rfl c4 e4 c5 e5
  rw [g4,g5,hx] at hS
  have s2:=sdV_ok c2
  have s3:=sdV_ok c3
  have o6:RbOk p (rbA p (rbA p (fuA p (fuA p (rbA p s 8) 0 hk2) 0 hk2) 6) 2) 18:=by
   by_cases o6:RbOk p (rbA p (rbA p (fuA p (fuA p (rbA p s 8) 0 hk2) 0 hk2) 6) 2) 18
   ·exact o6
   ·rw [fb_no1 o6] at c6;exact absurd c6 (by decide)
  have g6:fbV p (rbA p (rbA p (fuA p (fuA p (rbA p s 8) 0 hk2) 0 hk2) 6) 2) 0 18 hk5=rbV p (rbA p (rbA p (fuA p (fuA p (rbA p s 8) 0 hk2) 0 hk2) 6) 2) 18:=by rw [fbV,if_pos c6]
  have eL:lnL p (rbA p (rbA p (fuA p (fuA p (rbA p s 8) 0 hk2) 0 hk2) 6) 2)=lensV (rbV p (rbA p (rbA p (fuA p (fuA p (rbA p s 8) 0 hk2) 0 hk2) 6) 2) 18):=by rw [lnL,if_pos o6]
  rw [g6] at hS
  have h0:x.c=0:=by rw [hS];exact c6
  have q1:x.W=sdV p (rbA p s 8):=by rw [s2,HdS.W,if_pos h0,hS]
  have q2:x.H=sdV p (fuA p (rbA p s 8) 0 hk2):=by rw [s3,HdS.H,if_pos h0,hS]
  have q3:x.Q=rbV p (fuA p (fuA p (rbA p s 8) 0 hk2) 0 hk2) 6:=by rw [HdS.Q,if_pos h0,hS]
  have q6:x.L=lnL p (rbA p (rbA p (fuA p (fuA p (rbA p s 8) 0 hk2) 0 hk2) 6) 2):=by rw [eL,HdS.L,if_pos h0,hS]
  have q4:x.B=decide (rbV p (rbA p (fuA p (fuA p (rbA p s 8) 0 hk2) 0 hk2) 6) 2>1):=by unfold HdS.B;rw [hS];simp [c6];omega
  have q5:x.D=decide (rbV p (rbA p (fuA p (fuA p (rbA p s 8) 0 hk2) 0 hk2) 6) 2%2=1):=by unfold HdS.D;rw [hS];simp [c6]
  have ea:x.a=fbA p (rbA p (rbA p (fuA p (fuA p (rbA p s 8) 0 hk2) 0 hk2) 6) 2) 0 18 hk5:=by rw [hS]
  subst hQ'
  rw [q1,q2,q3,q4,q5,q6,ea,h0]
  refine go (r:=?_);and_intros<;>intros<;>try exact True.intro
  all_goals first|rfl⟩
end Go.Proofs.YtndflfipaddfoaaGreat


namespace Go.Proofs.YtndflfipaddfoaaGreat
open Go Go.Abs
attribute [local irreducible] WpA WpL Rnd Blk Abs.Seq Abs.Fin Abs.FinG FnC FnG Only
theorem hdSL_len (x:HdS):x.L.length≤6:=by
 unfold HdS.L;split
 ·exact Nat.le_refl 6
 ·exact Nat.zero_le _
abbrev StV (x:PrS):AV:=.agg [I x.W,I x.H,I x.Q,B x.B,B x.D,.own 0 0 0 x.L.length,.own 1 0 0 x.ms.length]
def PrN (a c:Int):PrS:=⟨0,0,0,false,false,[],[],a,c⟩
theorem prS_1 {p:List UInt8} (h:(hdS p 0).c≠0):prS p=PrN (hdS p 0).a (hdS p 0).c:=by unfold prS;simp only;rw [if_neg h];rfl
theorem prS_2 {p:List UInt8} (h:(hdS p 0).c=0) (h2:(stRun p (hdS p 0).a (hdS p 0).L (cntM (hdS p 0).W (hdS p 0).H).toNat).c≠0):prS p=PrN (stRun p (hdS p 0).a (hdS p 0).L (cntM (hdS p 0).W (hdS p 0).H).toNat).a (stRun p (hdS p 0).a (hdS p 0).L (cntM (hdS p 0).W (hdS p 0).H).toNat).c:=by
 unfold prS;simp only;rw [if_pos h,if_neg h2];rfl
theorem prS_3 {p:List UInt8} (h:(hdS p 0).c=0) (h2:(stRun p (hdS p 0).a (hdS p 0).L (cntM (hdS p 0).W (hdS p 0).H).toNat).c=0) (h3:endC p (stRun p (hdS p 0).a (hdS p 0).L (cntM (hdS p 0).W (hdS p 0).H).toNat).a≠0):prS p=PrN (stRun p (hdS p 0).a (hdS p 0).L (cntM (hdS p 0).W (hdS p 0).H).toNat).a (endC p (stRun p (hdS p 0).a (hdS p 0).L (cntM (hdS p 0).W (hdS p 0).H).toNat).a):=by
 unfold prS;simp only;rw [if_pos h,if_pos h2,if_neg h3];rfl
theorem prS_4 {p:List UInt8} (h:(hdS p 0).c=0) (h2:(stRun p (hdS p 0).a (hdS p 0).L (cntM (hdS p 0).W (hdS p 0).H).toNat).c=0) (h3:endC p (stRun p (hdS p 0).a (hdS p 0).L (cntM (hdS p 0).W (hdS p 0).H).toNat).a=0):prS p=⟨(hdS p 0).W,(hdS p 0).H,(hdS p 0).Q,(hdS p 0).B,(hdS p 0).D,(hdS p 0).L,(stRun p (hdS p 0).a (hdS p 0).L (cntM (hdS p 0).W (hdS p 0).H).toNat).ms,(stRun p (hdS p 0).a (hdS p 0).L (cntM (hdS p 0).W (hdS p 0).H).toNat).a,0⟩:=by
 unfold prS;simp only;rw [if_pos h,if_pos h2,if_pos h3]
theorem stRun_next {p:List UInt8} {s:Int} {lens:List Int} {k:Nat} (h:(stRun p s lens k).c=0) (hb:(mbS p (stRun p s lens k).a lens).1.c=0):stRun p s lens (k+1)=⟨(mbS p (stRun p s lens k).a lens).1.a,0,(stRun p s lens k).ms++[((mbS p (stRun p s lens k).a lens).2,(mbS p (stRun p s lens k).a lens).1.bs)]⟩:=by
 rw [stRun];simp only;rw [if_pos h,if_pos hb]
theorem stRun_bad {p:List UInt8} {s:Int} {lens:List Int} {k:Nat} (h:(stRun p s lens k).c=0) (hb:(mbS p (stRun p s lens k).a lens).1.c≠0):∀j,k<j→stRun p s lens j=⟨(mbS p (stRun p s lens k).a lens).1.a,(mbS p (stRun p s lens k).a lens).1.c,[]⟩:=by
 intro j hj
 have e:stRun p s lens (k+1)=⟨(mbS p (stRun p s lens k).a lens).1.a,(mbS p (stRun p s lens k).a lens).1.c,[]⟩:=by
  rw [stRun];simp only;rw [if_pos h,if_neg hb]
 rw [stRun_stop (k:=k+1) (by rw [e];exact hb) j hj,e]
section
attribute [local irreducible] hdS stRun mbS endC cntM
instance Parse_c:Con 35 (∀ (p:List UInt8),p.length≤1099511627776→Fn 35 [Z p] [XI (prS p).L,MbO (prS p).ms] (.tup [StV (prS p),I (prS p).a,I (prS p).c])):=⟨fun p hl=>by
 have hr0:RdOk p 0:=⟨by omega,by omega⟩
 have hok:=hdS_ok hr0
 refine FnC.of_body tabOk Tryz.func35 Tryz.ntmps35 rfl (by decide +kernel) (by simp) fun G=>?_
 by_cases hc:(hdS p 0).c=0
 ·have hs:=hdS_sides hc
  have hL:=hdSL_len (hdS p 0)
  have e2:=prS_2 hc
  have e3:=prS_3 hc
  have e4:=prS_4 hc
  have hbd:=cntM_bd hs
  refine go (r:=?_);and_intros<;>intros<;>try exact True.intro
  all_goals first|contradiction|skip
  generalize hx:hdS p 0=x at hc hs hL e2 e3 e4 hbd hok ⊢
  have hz:stRun p x.a x.L 0=⟨x.a,0,[]⟩:=by rw [stRun]
  have hln:=fun k h=>stRun_len p x.a x.L k h
  have hok:=fun k=>stRun_ok (lens:=x.L) hok k
  have hnx:=fun k h hb=>stRun_next (p:=p) (s:=x.a) (lens:=x.L) (k:=k) h hb
  have hbd2:=fun k h hb j hj=>stRun_bad (p:=p) (s:=x.a) (lens:=x.L) (k:=k) h hb j hj
  generalize hN:cntM x.W x.H=N at hbd e2 e3 e4 ⊢
  generalize stRun p x.a x.L=X at hz hln hnx hbd2 hok e2 e3 e4 ⊢
  refine WpA.loop (fun k:Nat=>⟨[(2,.ptr 0 0 0),(5,.ptr 2 0 0),(6,.ptr 3 0 0),(8,.ptr 4 0 0),(29,I N),(30,I k)],[⟨[I 0,I 0,I 0,B false,B false,.nilS,.nilS],0,0,none⟩,XI x.L,⟨[Z p,I (X k).a],0,0,none⟩,⟨[I x.W,I x.H,I x.Q,B x.B,B x.D,.own 1 0 0 x.L.length],0,0,none⟩,⟨[I x.W,I x.H,I x.Q,B x.B,B x.D,.own 1 0 0 x.L.length,.own 5 0 0 k],0,0,none⟩,MbO (X k).ms]⟩) (fun k=>(k:Int)≤N∧(X k).c=0) (fun k=>N.toNat-k) 0 (by rw [hz];exact ⟨by omega,rfl⟩) ?_ (fun k hk=>?_)
  ·rw [hz];exact Weak.nil1 (by first|(show 0≤_;exact Nat.zero_le _)|(repeat' (first|exact RzT.nil|refine RzT.cons ?_ ?_|exact Rz.nil|refine Rz.keep rfl rfl ?_|refine Rz.own rfl rfl rfl rfl rfl (by first|rfl|omega|(simp;done)) ?_|refine Rz.ptr rfl rfl rfl rfl ?_|refine Rz.nilO rfl rfl rfl (by first|rfl|omega|(simp;done)) ?_|refine Rz.agg ?_ ?_|exact RzO.last rfl|(refine RzO.cons ?_ (.inr rfl) ?_)|exact Rz.same rfl (still_ints _)|exact Rz.same rfl (still_rows (fun _=>rfl) _)))) (by first|(show 0≤_;exact Nat.zero_le _)|(repeat' (first|exact RzT.nil|refine RzT.cons ?_ ?_|exact Rz.nil|refine Rz.keep rfl rfl ?_|refine Rz.own rfl rfl rfl rfl rfl (by first|rfl|omega|(simp;done)) ?_|refine Rz.ptr rfl rfl rfl rfl ?_|refine Rz.nilO rfl rfl rfl (by first|rfl|omega|(simp;done)) ?_|refine Rz.agg ?_ ?_|exact RzO.last rfl|(refine RzO.cons ?_ (.inr rfl) ?_)|exact Rz.same rfl (still_ints _)|exact Rz.same rfl (still_rows (fun _=>rfl) _)))) (Nat.zero_le _)
  have hln:=hln k hk.2
  have hnx:=hnx k hk.2
  have hbd2:=hbd2 k hk.2
  have hok:=hok k
  have hfin:¬(k:Int)<N→X N.toNat=X k:=fun h=>by rw [show N.toNat=k by omega]
  generalize hy:X k=y at hk hln hnx hbd2 hfin hok ⊢
  have hln:y.ms.length=k:=hln
  by_cases hlt:(k:Int)<N
  ·by_cases hb:(mbS p y.a x.L).1.c=0
   ·have hnx:=hnx hb
    clear hbd2 e2 e3 e4
    refine go (r:=?_);and_intros<;>intros<;>try exact True.intro
    all_goals first|contradiction|(rw [hnx];done)
   ·have hbd2:=hbd2 hb
    have e:=hbd2 N.toNat (by omega)
    rw [e2 (by rw [e];exact hb),e]
    clear hnx hbd2 e2 e3 e4
    refine go (r:=?_);and_intros<;>intros<;>try exact True.intro
    all_goals first|contradiction
  ·have hfin:=hfin hlt
   have hc2:(X N.toNat).c=0:=by rw [hfin];exact hk.2
   by_cases he:endC p y.a=0
   ·rw [e4 hc2 (by rw [hfin];exact he),hfin]
    clear e2 e3 e4 hnx hbd2
    refine go (r:=?_);and_intros<;>intros<;>try exact True.intro
    all_goals first|contradiction|exact hok
   ·rw [e3 hc2 (by rw [hfin];exact he),hfin]
    clear e2 e3 e4 hnx hbd2
    refine go (r:=?_);and_intros<;>intros<;>try exact True.intro
    all_goals first|contradiction|exact hok
 ·rw [prS_1 hc]
  refine goR (r:=?_);and_intros<;>intros<;>try exact True.intro
  refine WpA.weak (σ':=⟨[(2,.ptr 0 0 0),(5,.ptr 2 0 0),(7,I (hdS p 0).c)],[⟨[I 0,I 0,I 0,B false,B false,.nilS,.nilS],0,0,none⟩,XI (hdS p 0).L,⟨[Z p,I (hdS p 0).a],0,0,none⟩]⟩) (Weak.mk (by repeat (first|exact ReT.nil|refine ReT.cons (.keep rfl rfl .nil) ?_|refine ReT.cons (.own rfl rfl rfl rfl rfl rfl .nil) ?_|refine ReT.cons (.ptr rfl rfl rfl rfl .nil) ?_|refine ReT.cons (.keep (congrArg (fun z=>AV.sc (Value.int .i64 z)) (by first|omega|(skip))) rfl .nil) ?_|refine ReT.cons (.keep (congrArg (fun z:List UInt8=>AV.sc (Value.string ⟨z.toArray⟩)) (by skip)) rfl .nil) ?_|refine ReT.cons (.own rfl rfl rfl rfl rfl (by first|omega|(simp;done)|(simp;omega)) .nil) ?_)) (by repeat (first|exact ReO.nil|refine ReO.cons (Re.same rfl (still_ints _)) (by simp) ?_|refine ReO.cons (Re.same rfl rfl) (by simp) ?_)) (Nat.zero_le _)) ?_
  refine go (r:=?_);and_intros<;>intros<;>try exact True.intro
  all_goals first|contradiction⟩
instance Parse_s:Con 138 (∀ (p:List UInt8),p.length≤1099511627776→Fn 138 [Z p] [XI (prS p).L,MbO (prS p).ms] (.tup [StV (prS p),I (prS p).a,I (prS p).c])):=⟨fun p hl=>by
 have hr0:RdOk p 0:=⟨by omega,by omega⟩
 have hok:=hdS_ok hr0
 refine FnC.of_body tabOk Tryz.func138 Tryz.ntmps138 rfl (by decide +kernel) (by simp) fun G=>?_
 by_cases hc:(hdS p 0).c=0
 ·have hs:=hdS_sides hc
  have hL:=hdSL_len (hdS p 0)
  have e2:=prS_2 hc
  have e3:=prS_3 hc
  have e4:=prS_4 hc
  have hbd:=cntM_bd hs
  refine go (r:=?_);and_intros<;>intros<;>try exact True.intro
  all_goals first|contradiction|skip
  generalize hx:hdS p 0=x at hc hs hL e2 e3 e4 hbd hok ⊢
  have hz:stRun p x.a x.L 0=⟨x.a,0,[]⟩:=by rw [stRun]
  have hln:=fun k h=>stRun_len p x.a x.L k h
  have hok:=fun k=>stRun_ok (lens:=x.L) hok k
  have hnx:=fun k h hb=>stRun_next (p:=p) (s:=x.a) (lens:=x.L) (k:=k) h hb
  have hbd2:=fun k h hb j hj=>stRun_bad (p:=p) (s:=x.a) (lens:=x.L) (k:=k) h hb j hj
  generalize hN:cntM x.W x.H=N at hbd e2 e3 e4 ⊢
  generalize stRun p x.a x.L=X at hz hln hnx hbd2 hok e2 e3 e4 ⊢
  refine WpA.loop (fun k:Nat=>⟨[(2,.ptr 0 0 0),(5,.ptr 2 0 0),(6,.ptr 3 0 0),(8,.ptr 4 0 0),(9,I k)],[⟨[I 0,I 0,I 0,B false,B false,.nilS,.nilS],0,0,none⟩,XI x.L,⟨[Z p,I (X k).a],0,0,none⟩,⟨[I x.W,I x.H,I x.Q,B x.B,B x.D,.own 1 0 0 x.L.length],0,0,none⟩,⟨[I x.W,I x.H,I x.Q,B x.B,B x.D,.own 1 0 0 x.L.length,.own 5 0 0 k],0,0,none⟩,MbO (X k).ms]⟩) (fun k=>(k:Int)≤N∧(X k).c=0) (fun k=>N.toNat-k) 0 (by rw [hz];exact ⟨by omega,rfl⟩) ?_ (fun k hk=>?_)
  ·rw [hz];exact Weak.nil1 (by first|(show 0≤_;exact Nat.zero_le _)|(repeat' (first|exact RzT.nil|refine RzT.cons ?_ ?_|exact Rz.nil|refine Rz.keep rfl rfl ?_|refine Rz.own rfl rfl rfl rfl rfl (by first|rfl|omega|(simp;done)) ?_|refine Rz.ptr rfl rfl rfl rfl ?_|refine Rz.nilO rfl rfl rfl (by first|rfl|omega|(simp;done)) ?_|refine Rz.agg ?_ ?_|exact RzO.last rfl|(refine RzO.cons ?_ (.inr rfl) ?_)|exact Rz.same rfl (still_ints _)|exact Rz.same rfl (still_rows (fun _=>rfl) _)))) (by first|(show 0≤_;exact Nat.zero_le _)|(repeat' (first|exact RzT.nil|refine RzT.cons ?_ ?_|exact Rz.nil|refine Rz.keep rfl rfl ?_|refine Rz.own rfl rfl rfl rfl rfl (by first|rfl|omega|(simp;done)) ?_|refine Rz.ptr rfl rfl rfl rfl ?_|refine Rz.nilO rfl rfl rfl (by first|rfl|omega|(simp;done)) ?_|refine Rz.agg ?_ ?_|exact RzO.last rfl|(refine RzO.cons ?_ (.inr rfl) ?_)|exact Rz.same rfl (still_ints _)|exact Rz.same rfl (still_rows (fun _=>rfl) _)))) (Nat.zero_le _)
  have hln:=hln k hk.2
  have hnx:=hnx k hk.2
  have hbd2:=hbd2 k hk.2
  have hok:=hok k
  have hfin:¬(k:Int)<N→X N.toNat=X k:=fun h=>by rw [show N.toNat=k by omega]
  generalize hy:X k=y at hk hln hnx hbd2 hfin hok ⊢
  have hln:y.ms.length=k:=hln
  by_cases hlt:(k:Int)<N
  ·by_cases hb:(mbS p y.a x.L).1.c=0
   ·have hnx:=hnx hb
    clear hbd2 e2 e3 e4
    refine go (r:=?_);and_intros<;>intros<;>try exact True.intro
    all_goals first|contradiction|(rw [hnx];done)
   ·have hbd2:=hbd2 hb
    have e:=hbd2 N.toNat (by omega)
    rw [e2 (by rw [e];exact hb),e]
    clear hnx hbd2 e2 e3 e4
    refine go (r:=?_);and_intros<;>intros<;>try exact True.intro
    all_goals first|contradiction
  ·have hfin:=hfin hlt
   have hc2:(X N.toNat).c=0:=by rw [hfin];exact hk.2
   by_cases he:endC p y.a=0
   ·rw [e4 hc2 (by rw [hfin];exact he),hfin]
    clear e2 e3 e4 hnx hbd2
    refine go (r:=?_);and_intros<;>intros<;>try exact True.intro
    all_goals first|contradiction|exact hok
   ·rw [e3 hc2 (by rw [hfin];exact he),hfin]
    clear e2 e3 e4 hnx hbd2
    refine go (r:=?_);and_intros<;>intros<;>try exact True.intro
    all_goals first|contradiction|exact hok
 ·rw [prS_1 hc]
  refine goR (r:=?_);and_intros<;>intros<;>try exact True.intro
  refine WpA.weak (σ':=⟨[(2,.ptr 0 0 0),(5,.ptr 2 0 0),(7,I (hdS p 0).c)],[⟨[I 0,I 0,I 0,B false,B false,.nilS,.nilS],0,0,none⟩,XI (hdS p 0).L,⟨[Z p,I (hdS p 0).a],0,0,none⟩]⟩) (Weak.mk (by repeat (first|exact ReT.nil|refine ReT.cons (.keep rfl rfl .nil) ?_|refine ReT.cons (.own rfl rfl rfl rfl rfl rfl .nil) ?_|refine ReT.cons (.ptr rfl rfl rfl rfl .nil) ?_|refine ReT.cons (.keep (congrArg (fun z=>AV.sc (Value.int .i64 z)) (by first|omega|(skip))) rfl .nil) ?_|refine ReT.cons (.keep (congrArg (fun z:List UInt8=>AV.sc (Value.string ⟨z.toArray⟩)) (by skip)) rfl .nil) ?_|refine ReT.cons (.own rfl rfl rfl rfl rfl (by first|omega|(simp;done)|(simp;omega)) .nil) ?_)) (by repeat (first|exact ReO.nil|refine ReO.cons (Re.same rfl (still_ints _)) (by simp) ?_|refine ReO.cons (Re.same rfl rfl) (by simp) ?_)) (Nat.zero_le _)) ?_
  refine go (r:=?_);and_intros<;>intros<;>try exact True.intro
  all_goals first|contradiction⟩
end
end Go.Proofs.YtndflfipaddfoaaGreat


namespace Go.Proofs.YtndflfipaddfoaaGreat
open Go Go.Abs
attribute [local irreducible] WpA WpL Rnd Blk Abs.Seq Abs.Fin Abs.FinG FnC FnG Only
attribute [local simp] Abs.setL
def endB (k:Int) (l:List Blok):Int:=k+bw l
def markB:Int→List Blok→List Blok
 |_,[]=>[]
 |k,b::l=>(k,marksI (k+1) b.2.length)::markB (k+1+b.2.length) l
theorem bw_nil:bw []=0:=rfl
theorem bw_cons (b:Blok) (l:List Blok):bw (b::l)=bw l+1+b.2.length:=by unfold bw;rw [List.map_cons,List.sum_cons,List.length_cons];unfold bn;omega
@[simp] theorem markB_len:∀(l:List Blok) (k:Int),(markB k l).length=l.length
 |[],k=>rfl
 |b::l,k=>by rw [markB,List.length_cons,List.length_cons,markB_len l]
def markM:Int→List Mbk→List Mbk
 |_,[]=>[]
 |k,m::l=>(decide (k%3=0),markB (k+1) m.2)::markM (k+1+bw m.2) l
theorem mw_nil:mw []=0:=rfl
theorem mw_cons (b:Mbk) (l:List Mbk):mw (b::l)=mw l+1+bw b.2:=by unfold mw;rw [List.map_cons,List.sum_cons,List.length_cons];unfold mn;omega
@[simp] theorem markM_len:∀(l:List Mbk) (k:Int),(markM k l).length=l.length
 |[],k=>rfl
 |b::l,k=>by rw [markM,List.length_cons,List.length_cons,markM_len l]
end Go.Proofs.YtndflfipaddfoaaGreat


namespace Go.Proofs.YtndflfipaddfoaaGreat
open Go Go.Abs
attribute [local irreducible] WpA WpL Rnd Blk Abs.Seq Abs.Fin Abs.FinG FnC FnG Only
theorem bw_small {l:List Blok} (h:∀b∈l,b.2.length≤64):bw l≤65*l.length:=by
 induction l with
 |nil=>simp [bw_nil]
 |cons b l ih=>
  have h1:=h b (by simp)
  have h2:=ih fun x hx=>h x (by simp [hx])
  rw [bw_cons,List.length_cons];omega
theorem mw_small {l:List Mbk} (h:∀m∈l,m.2.length≤4∧∀b∈m.2,b.2.length≤64):mw l≤261*l.length:=by
 induction l with
 |nil=>simp [mw_nil]
 |cons m l ih=>
  have h1:=h m (by simp)
  have h2:=ih fun x hx=>h x (by simp [hx])
  have h3:=bw_small h1.2
  rw [mw_cons,List.length_cons];omega
theorem prS_sz (p:List UInt8):(prS p).L.length≤6∧(prS p).ms.length≤16∧mw (prS p).ms≤4176∧SmM 1099511627776 (prS p).ms:=by
 have h:(prS p).L.length≤6∧(prS p).ms.length≤16∧mw (prS p).ms≤4176:=by
  by_cases h1:(hdS p 0).c=0
  ·by_cases h2:(stRun p (hdS p 0).a (hdS p 0).L (cntM (hdS p 0).W (hdS p 0).H).toNat).c=0
   ·by_cases h3:endC p (stRun p (hdS p 0).a (hdS p 0).L (cntM (hdS p 0).W (hdS p 0).H).toNat).a=0
    ·rw [prS_4 h1 h2 h3]
     have hb:=cntM_bd (hdS_sides h1)
     have hs:=stRun_sm (p:=p) (s:=(hdS p 0).a) (lens:=(hdS p 0).L) (cntM (hdS p 0).W (hdS p 0).H).toNat
     have hm:=mw_small hs.2
     have hL:=hdSL_len (hdS p 0)
     refine ⟨hL,?_,?_⟩
     ·show (stRun _ _ _ _).ms.length≤16
      omega
     ·show mw (stRun _ _ _ _).ms≤4176
      omega
    ·rw [prS_3 h1 h2 h3];exact ⟨Nat.zero_le _,Nat.zero_le _,Nat.zero_le _⟩
   ·rw [prS_2 h1 h2];exact ⟨Nat.zero_le _,Nat.zero_le _,Nat.zero_le _⟩
  ·rw [prS_1 h1];exact ⟨Nat.zero_le _,Nat.zero_le _,Nat.zero_le _⟩
 exact ⟨h.1,h.2.1,h.2.2,smM_of (by omega)⟩
section
attribute [local irreducible] prS
instance FastParse_s:Con 63 (∀ (p:List UInt8),p.length≤1099511627776→Fn 63 [Z p] [XI (prS p).L,MbO (prS p).ms] (.tup [StV (prS p),I (prS p).a,I (prS p).c])):=⟨fun p hl=>by
 refine FnC.of_body tabOk Tryz.func63 Tryz.ntmps63 rfl (by decide +kernel) (by simp) fun G=>?_
 refine go (r:=?_);and_intros<;>intros<;>try exact True.intro⟩
end
end Go.Proofs.YtndflfipaddfoaaGreat


namespace Go.Proofs.YtndflfipaddfoaaGreat
open Go Go.Abs
attribute [local irreducible] WpA WpL Rnd Blk Abs.Seq Abs.Fin Abs.FinG FnC FnG Only
attribute [local irreducible] prS refL
structure Frm where
 W:Int
 H:Int
 P:List Int
def bldF (w h q:Int) (b d:Bool) (L:List Int) (M:List Mbk):Frm:=if StOk w h q L M then ⟨w,h,refL w h q b d M⟩ else ⟨0,0,[]⟩
section
attribute [-instance] Parse_c
attribute [local irreducible] bldF
theorem RefDecode_1 (p:List UInt8) (hl:p.length≤1048576) (h0:(prS p).c≠0):Fn 29 [Z p] [] (.tup [.agg [I 0,I 0,.nilS],I (prS p).c]):=by
 have hz:=prS_sz p
 have hlen:(prS p).ms.length*2=(rows Abs.mbF (prS p).ms).length:=(rows_len (f:=Abs.mbF) (k:=2) (fun _=>rfl) (prS p).ms).symm
 refine FnC.of_body tabOk Tryz.func29 Tryz.ntmps29 rfl (by decide +kernel) (by simp) fun G=>?_
 refine goR (r:=?_);and_intros<;>intros<;>try exact True.intro
 refine K.call ?_
 apply WpL.callI (Parse_c.ok p (by omega))
 ·exact snapA
 ·exact locA
 ·exact outA
 ·exact FrzR.tup (.agg (.keep rfl rfl (.keep rfl rfl (.keep rfl rfl (.keep rfl rfl (.keep rfl rfl (.own rfl rfl rfl (by simp) rfl (Snap.same rfl (still_ints _) (nofre_ints _)) (.own rfl rfl rfl hlen rfl (Snap.rows snap_mb _) .nil))))))) (.keep rfl rfl (.keep rfl rfl .nil)))
 ·decide
 refine goR (r:=?_);and_intros<;>intros<;>try exact True.intro
 all_goals first|contradiction|omega
end
end Go.Proofs.YtndflfipaddfoaaGreat


namespace Go.Proofs.YtndflfipaddfoaaGreat
open Go Go.Abs
attribute [local irreducible] WpA WpL Rnd Blk Abs.Seq Abs.Fin Abs.FinG FnC FnG Only
attribute [local irreducible] topF lefF
attribute [local simp] Abs.setL
instance NbAt_s:Con 147 (∀ (W H:Int) (p:List Int) (x y n:Int),p.length≤1099511627776→Fn 147 [FrA W H p,I x,I y,I n] [XI (topL W H p x y n),XI (lefL W H p x y n)] (NbOwn W H p x y n)):=⟨fun W H p x y n hl=>by
 by_cases h:Fits W H p x y n
 ·have ht:topL W H p x y n=tabL (topF W p x y n) (2*n).toNat:=by unfold topL;rw [if_pos h]
  have hle:lefL W H p x y n=tabL (lefF W p x y) n.toNat:=by unfold lefL;rw [if_pos h]
  have hco:corL W H p x y n=if 0<x∧0<y then p.getD ((y-1)*W+x-1).toNat 0 else 128:=by unfold corL;rw [if_pos h]
  have hhT:hasT W H p x y n=decide (0<y):=by unfold hasT;rw [Bool.eq_iff_iff];simp only [decide_eq_true_eq];exact ⟨fun hh=>hh.2,fun hh=>⟨h,hh⟩⟩
  have hhE:hasE W H p x y n=decide (0<x):=by unfold hasE;rw [Bool.eq_iff_iff];simp only [decide_eq_true_eq];exact ⟨fun hh=>hh.2,fun hh=>⟨h,hh⟩⟩
  unfold NbOwn
  rw [ht,hle,hco,hhT,hhE,tabL_len,tabL_len]
  have hd:=decide_eq_true h
  obtain ⟨h0,h1,hx,hy,_⟩:=id h
  by_cases hx0:0<x
  ·by_cases hy0:0<y
   ·obtain ⟨b1,b2,b3⟩:=nb_cx h hx0 hy0
    rw [if_pos ⟨hx0,hy0⟩]
    refine FnC.of_body tabOk Tryz.func147 Tryz.ntmps147 rfl (by decide +kernel) (by simp) fun G=>?_
    refine go (r:=?_);and_intros<;>intros<;>try exact True.intro
    all_goals first|contradiction|(exact absurd h (by assumption))|omega|skip
    refine WpA.loop (fun k:Nat=>⟨[(1,I x),(2,I y),(3,I n),(4,.ptr 0 0 0),(8,.ptr 1 0 0),(9,.ptr 2 0 0),(10,I k)],[FrO W H p,Nb0,⟨[.nilS,.own 3 0 0 k,I (p.getD ((y-1)*W+x-1).toNat 0),B (decide (0<y)),B (decide (0<x))],0,0,none⟩,XI (tabL (lefF W p x y) k)]⟩) (fun k=>(k:Int)≤n) (fun k=>n.toNat-k) 0 (by omega) ?_ ?_
    ·exact Weak.nil1 (by first|(show 0≤_;exact Nat.zero_le _)|(repeat' (first|exact RzT.nil|refine RzT.cons ?_ ?_|exact Rz.nil|refine Rz.keep rfl rfl ?_|refine Rz.own rfl rfl rfl rfl rfl (by first|rfl|omega|(simp;done)) ?_|refine Rz.ptr rfl rfl rfl rfl ?_|refine Rz.nilO rfl rfl rfl (by first|rfl|omega|(simp;done)) ?_|refine Rz.agg ?_ ?_|exact RzO.last rfl|(refine RzO.cons ?_ (.inr rfl) ?_)|exact Rz.same rfl (still_ints _)|exact Rz.same rfl (still_rows (fun _=>rfl) _)))) (by first|(show 0≤_;exact Nat.zero_le _)|(repeat' (first|exact RzT.nil|refine RzT.cons ?_ ?_|exact Rz.nil|refine Rz.keep rfl rfl ?_|refine Rz.own rfl rfl rfl rfl rfl (by first|rfl|omega|(simp;done)) ?_|refine Rz.ptr rfl rfl rfl rfl ?_|refine Rz.nilO rfl rfl rfl (by first|rfl|omega|(simp;done)) ?_|refine Rz.agg ?_ ?_|exact RzO.last rfl|(refine RzO.cons ?_ (.inr rfl) ?_)|exact Rz.same rfl (still_ints _)|exact Rz.same rfl (still_rows (fun _=>rfl) _)))) (Nat.le_of_ble_eq_true rfl)
    intro k hk
    try simp only at hk ⊢
    have hkl2:=tabL_len (lefF W p x y) k
    by_cases hlt2:(k:Int)<n
    ·have hsn:=tabL_snoc (lefF W p x y) k
     by_cases hx0:0<x
     ·obtain ⟨b1,b2,b3⟩:=nb_lx h hlt2 hx0
      have hq:lefF W p x y k=p.getD ((y+k)*W+x-1).toNat 0:=by unfold lefF;rw [if_pos hx0]
      rw [hq] at hsn
      refine go (r:=?_);and_intros<;>intros<;>try exact True.intro
      all_goals first|contradiction|omega|exact hsn.symm
     ·have hq:lefF W p x y k=128:=by unfold lefF;rw [if_neg hx0]
      rw [hq] at hsn
      refine go (r:=?_);and_intros<;>intros<;>try exact True.intro
      all_goals first|contradiction|omega|exact hsn.symm
    have hke:k=n.toNat:=by omega
    subst hke
    refine go (r:=?_);and_intros<;>intros<;>try exact True.intro
    all_goals first|contradiction|omega|skip
    refine WpA.loop (fun k:Nat=>⟨[(1,I x),(2,I y),(3,I n),(4,.ptr 0 0 0),(8,.ptr 1 0 0),(9,.ptr 2 0 0),(12,I k)],[FrO W H p,Nb0,⟨[.own 4 0 0 k,.own 3 0 0 n.toNat,I (p.getD ((y-1)*W+x-1).toNat 0),B (decide (0<y)),B (decide (0<x))],0,0,none⟩,XI (tabL (lefF W p x y) n.toNat),XI (tabL (topF W p x y n) k)]⟩) (fun k=>(k:Int)≤2*n) (fun k=>(2*n).toNat-k) 0 (by omega) ?_ ?_
    ·exact Weak.nil1 (by first|(show 0≤_;exact Nat.zero_le _)|(repeat' (first|exact RzT.nil|refine RzT.cons ?_ ?_|exact Rz.nil|refine Rz.keep rfl rfl ?_|refine Rz.own rfl rfl rfl rfl rfl (by first|rfl|omega|(simp;done)) ?_|refine Rz.ptr rfl rfl rfl rfl ?_|refine Rz.nilO rfl rfl rfl (by first|rfl|omega|(simp;done)) ?_|refine Rz.agg ?_ ?_|exact RzO.last rfl|(refine RzO.cons ?_ (.inr rfl) ?_)|exact Rz.same rfl (still_ints _)|exact Rz.same rfl (still_rows (fun _=>rfl) _)))) (by first|(show 0≤_;exact Nat.zero_le _)|(repeat' (first|exact RzT.nil|refine RzT.cons ?_ ?_|exact Rz.nil|refine Rz.keep rfl rfl ?_|refine Rz.own rfl rfl rfl rfl rfl (by first|rfl|omega|(simp;done)) ?_|refine Rz.ptr rfl rfl rfl rfl ?_|refine Rz.nilO rfl rfl rfl (by first|rfl|omega|(simp;done)) ?_|refine Rz.agg ?_ ?_|exact RzO.last rfl|(refine RzO.cons ?_ (.inr rfl) ?_)|exact Rz.same rfl (still_ints _)|exact Rz.same rfl (still_rows (fun _=>rfl) _)))) (Nat.le_of_ble_eq_true rfl)
    intro k hk
    try simp only at hk ⊢
    have hkl:=tabL_len (topF W p x y n) k
    by_cases hlt:(k:Int)<2*n
    ·have hq:=topF_eq W p x y n (by omega) k
     have hsn:=tabL_snoc (topF W p x y n) k
     by_cases hy0:y=0
     ·rw [if_pos hy0] at hq
      rw [hq] at hsn
      refine go (r:=?_);and_intros<;>intros<;>try exact True.intro
      all_goals first|contradiction|omega|skip
      all_goals
       refine WpL.openAny (t:=83) rfl (fun v0=>?_)
       by_cases hv:v0=.bool false
       ·subst hv
        refine go (r:=?_);and_intros<;>intros<;>try exact True.intro
        all_goals first|contradiction|omega|exact hsn.symm
       ·repeat (refine WpL.guardV (σ:=⟨_,_⟩) rfl rfl (by decide) rfl hv rfl ?_)
        refine WpL.openAny (t:=87) rfl (fun v1=>?_)
        by_cases hv1:v1=.bool true
        ·subst hv1
         refine go (r:=?_);and_intros<;>intros<;>try exact True.intro
         all_goals first|contradiction|omega|skip
         all_goals
          refine WpL.guardV (σ:=⟨_,_⟩) rfl rfl (by decide) rfl hv rfl ?_
          refine go (r:=?_);and_intros<;>intros<;>try exact True.intro
          all_goals first|contradiction|omega|exact hsn.symm
        ·repeat (refine WpL.guardV (σ:=⟨_,_⟩) rfl rfl (by decide) rfl hv1 rfl ?_)
         refine WpL.guardV (σ:=⟨_,_⟩) rfl rfl (by decide) rfl hv rfl ?_
         refine go (r:=?_);and_intros<;>intros<;>try exact True.intro
         all_goals first|contradiction|omega|exact hsn.symm
     ·rw [if_neg hy0] at hq
      by_cases hc:(k:Int)<n∨(y%8=0∧x+k<W)
      ·rw [if_pos hc] at hq
       rw [hq] at hsn
       obtain ⟨b1,b2,b3⟩:=nb_ix h hlt hy0 hc
       by_cases hc0:(k:Int)<n
       ·refine go (r:=?_);and_intros<;>intros<;>try exact True.intro
        all_goals first|contradiction|omega|skip
        all_goals
         refine WpL.openAny (t:=87) rfl (fun v0=>?_)
         by_cases hv:v0=.bool true
         ·subst hv
          refine go (r:=?_);and_intros<;>intros<;>try exact True.intro
          all_goals first|contradiction|omega|exact hsn.symm
         ·repeat (refine WpL.guardV (σ:=⟨_,_⟩) rfl rfl (by decide) rfl hv rfl ?_)
          refine go (r:=?_);and_intros<;>intros<;>try exact True.intro
          all_goals first|contradiction|omega|exact hsn.symm
       ·obtain ⟨hc1,hc2⟩:y%8=0∧x+k<W:=hc.resolve_left hc0
        refine go (r:=?_);and_intros<;>intros<;>try exact True.intro
        all_goals first|contradiction|omega|exact hsn.symm
      ·rw [if_neg hc] at hq
       rw [hq] at hsn
       have hk0:0<k:=by omega
       have ek:((k:Int)-1).toNat=k-1:=by omega
       have hge:(tabL (topF W p x y n) k).getD (k-1) 0=topF W p x y n (k-1):=tabL_get (by omega)
       by_cases hc0:(k:Int)<n
       ·exact absurd (.inl hc0) hc
       by_cases hc1:y%8=0
       ·have hc2:¬x+k<W:=fun hh=>hc (.inr ⟨hc1,hh⟩)
        refine go (r:=?_);and_intros<;>intros<;>try exact True.intro
        all_goals first|contradiction|omega|(rw [ek,hge];exact hsn.symm)
       ·refine go (r:=?_);and_intros<;>intros<;>try exact True.intro
        all_goals first|contradiction|omega|(rw [ek,hge];exact hsn.symm)
    have hke:k=(2*n).toNat:=by omega
    subst hke
    refine go (r:=?_);and_intros<;>intros<;>try exact True.intro
    all_goals first|contradiction|omega
   ·rw [if_neg (fun hh=>hy0 hh.2)]
    refine FnC.of_body tabOk Tryz.func147 Tryz.ntmps147 rfl (by decide +kernel) (by simp) fun G=>?_
    refine go (r:=?_);and_intros<;>intros<;>try exact True.intro
    all_goals first|contradiction|(exact absurd h (by assumption))|omega|skip
    refine WpA.loop (fun k:Nat=>⟨[(1,I x),(2,I y),(3,I n),(4,.ptr 0 0 0),(8,.ptr 1 0 0),(9,.ptr 2 0 0),(10,I k)],[FrO W H p,Nb0,⟨[.nilS,.own 3 0 0 k,I (128),B (decide (0<y)),B (decide (0<x))],0,0,none⟩,XI (tabL (lefF W p x y) k)]⟩) (fun k=>(k:Int)≤n) (fun k=>n.toNat-k) 0 (by omega) ?_ ?_
    ·exact Weak.nil1 (by first|(show 0≤_;exact Nat.zero_le _)|(repeat' (first|exact RzT.nil|refine RzT.cons ?_ ?_|exact Rz.nil|refine Rz.keep rfl rfl ?_|refine Rz.own rfl rfl rfl rfl rfl (by first|rfl|omega|(simp;done)) ?_|refine Rz.ptr rfl rfl rfl rfl ?_|refine Rz.nilO rfl rfl rfl (by first|rfl|omega|(simp;done)) ?_|refine Rz.agg ?_ ?_|exact RzO.last rfl|(refine RzO.cons ?_ (.inr rfl) ?_)|exact Rz.same rfl (still_ints _)|exact Rz.same rfl (still_rows (fun _=>rfl) _)))) (by first|(show 0≤_;exact Nat.zero_le _)|(repeat' (first|exact RzT.nil|refine RzT.cons ?_ ?_|exact Rz.nil|refine Rz.keep rfl rfl ?_|refine Rz.own rfl rfl rfl rfl rfl (by first|rfl|omega|(simp;done)) ?_|refine Rz.ptr rfl rfl rfl rfl ?_|refine Rz.nilO rfl rfl rfl (by first|rfl|omega|(simp;done)) ?_|refine Rz.agg ?_ ?_|exact RzO.last rfl|(refine RzO.cons ?_ (.inr rfl) ?_)|exact Rz.same rfl (still_ints _)|exact Rz.same rfl (still_rows (fun _=>rfl) _)))) (Nat.le_of_ble_eq_true rfl)
    intro k hk
    try simp only at hk ⊢
    have hkl2:=tabL_len (lefF W p x y) k
    by_cases hlt2:(k:Int)<n
    ·have hsn:=tabL_snoc (lefF W p x y) k
     by_cases hx0:0<x
     ·obtain ⟨b1,b2,b3⟩:=nb_lx h hlt2 hx0
      have hq:lefF W p x y k=p.getD ((y+k)*W+x-1).toNat 0:=by unfold lefF;rw [if_pos hx0]
      rw [hq] at hsn
      refine go (r:=?_);and_intros<;>intros<;>try exact True.intro
      all_goals first|contradiction|omega|exact hsn.symm
     ·have hq:lefF W p x y k=128:=by unfold lefF;rw [if_neg hx0]
      rw [hq] at hsn
      refine go (r:=?_);and_intros<;>intros<;>try exact True.intro
      all_goals first|contradiction|omega|exact hsn.symm
    have hke:k=n.toNat:=by omega
    subst hke
    refine go (r:=?_);and_intros<;>intros<;>try exact True.intro
    all_goals first|contradiction|omega|skip
    refine WpA.loop (fun k:Nat=>⟨[(1,I x),(2,I y),(3,I n),(4,.ptr 0 0 0),(8,.ptr 1 0 0),(9,.ptr 2 0 0),(12,I k)],[FrO W H p,Nb0,⟨[.own 4 0 0 k,.own 3 0 0 n.toNat,I (128),B (decide (0<y)),B (decide (0<x))],0,0,none⟩,XI (tabL (lefF W p x y) n.toNat),XI (tabL (topF W p x y n) k)]⟩) (fun k=>(k:Int)≤2*n) (fun k=>(2*n).toNat-k) 0 (by omega) ?_ ?_
    ·exact Weak.nil1 (by first|(show 0≤_;exact Nat.zero_le _)|(repeat' (first|exact RzT.nil|refine RzT.cons ?_ ?_|exact Rz.nil|refine Rz.keep rfl rfl ?_|refine Rz.own rfl rfl rfl rfl rfl (by first|rfl|omega|(simp;done)) ?_|refine Rz.ptr rfl rfl rfl rfl ?_|refine Rz.nilO rfl rfl rfl (by first|rfl|omega|(simp;done)) ?_|refine Rz.agg ?_ ?_|exact RzO.last rfl|(refine RzO.cons ?_ (.inr rfl) ?_)|exact Rz.same rfl (still_ints _)|exact Rz.same rfl (still_rows (fun _=>rfl) _)))) (by first|(show 0≤_;exact Nat.zero_le _)|(repeat' (first|exact RzT.nil|refine RzT.cons ?_ ?_|exact Rz.nil|refine Rz.keep rfl rfl ?_|refine Rz.own rfl rfl rfl rfl rfl (by first|rfl|omega|(simp;done)) ?_|refine Rz.ptr rfl rfl rfl rfl ?_|refine Rz.nilO rfl rfl rfl (by first|rfl|omega|(simp;done)) ?_|refine Rz.agg ?_ ?_|exact RzO.last rfl|(refine RzO.cons ?_ (.inr rfl) ?_)|exact Rz.same rfl (still_ints _)|exact Rz.same rfl (still_rows (fun _=>rfl) _)))) (Nat.le_of_ble_eq_true rfl)
    intro k hk
    try simp only at hk ⊢
    have hkl:=tabL_len (topF W p x y n) k
    by_cases hlt:(k:Int)<2*n
    ·have hq:=topF_eq W p x y n (by omega) k
     have hsn:=tabL_snoc (topF W p x y n) k
     by_cases hy0:y=0
     ·rw [if_pos hy0] at hq
      rw [hq] at hsn
      refine go (r:=?_);and_intros<;>intros<;>try exact True.intro
      all_goals first|contradiction|omega|skip
      all_goals
       refine WpL.openAny (t:=83) rfl (fun v0=>?_)
       by_cases hv:v0=.bool false
       ·subst hv
        refine go (r:=?_);and_intros<;>intros<;>try exact True.intro
        all_goals first|contradiction|omega|exact hsn.symm
       ·repeat (refine WpL.guardV (σ:=⟨_,_⟩) rfl rfl (by decide) rfl hv rfl ?_)
        refine WpL.openAny (t:=87) rfl (fun v1=>?_)
        by_cases hv1:v1=.bool true
        ·subst hv1
         refine go (r:=?_);and_intros<;>intros<;>try exact True.intro
         all_goals first|contradiction|omega|skip
         all_goals
          refine WpL.guardV (σ:=⟨_,_⟩) rfl rfl (by decide) rfl hv rfl ?_
          refine go (r:=?_);and_intros<;>intros<;>try exact True.intro
          all_goals first|contradiction|omega|exact hsn.symm
        ·repeat (refine WpL.guardV (σ:=⟨_,_⟩) rfl rfl (by decide) rfl hv1 rfl ?_)
         refine WpL.guardV (σ:=⟨_,_⟩) rfl rfl (by decide) rfl hv rfl ?_
         refine go (r:=?_);and_intros<;>intros<;>try exact True.intro
         all_goals first|contradiction|omega|exact hsn.symm
     ·rw [if_neg hy0] at hq
      by_cases hc:(k:Int)<n∨(y%8=0∧x+k<W)
      ·rw [if_pos hc] at hq
       rw [hq] at hsn
       obtain ⟨b1,b2,b3⟩:=nb_ix h hlt hy0 hc
       by_cases hc0:(k:Int)<n
       ·refine go (r:=?_);and_intros<;>intros<;>try exact True.intro
        all_goals first|contradiction|omega|skip
        all_goals
         refine WpL.openAny (t:=87) rfl (fun v0=>?_)
         by_cases hv:v0=.bool true
         ·subst hv
          refine go (r:=?_);and_intros<;>intros<;>try exact True.intro
          all_goals first|contradiction|omega|exact hsn.symm
         ·repeat (refine WpL.guardV (σ:=⟨_,_⟩) rfl rfl (by decide) rfl hv rfl ?_)
          refine go (r:=?_);and_intros<;>intros<;>try exact True.intro
          all_goals first|contradiction|omega|exact hsn.symm
       ·obtain ⟨hc1,hc2⟩:y%8=0∧x+k<W:=hc.resolve_left hc0
        refine go (r:=?_);and_intros<;>intros<;>try exact True.intro
        all_goals first|contradiction|omega|exact hsn.symm
      ·rw [if_neg hc] at hq
       rw [hq] at hsn
       have hk0:0<k:=by omega
       have ek:((k:Int)-1).toNat=k-1:=by omega
       have hge:(tabL (topF W p x y n) k).getD (k-1) 0=topF W p x y n (k-1):=tabL_get (by omega)
       by_cases hc0:(k:Int)<n
       ·exact absurd (.inl hc0) hc
       by_cases hc1:y%8=0
       ·have hc2:¬x+k<W:=fun hh=>hc (.inr ⟨hc1,hh⟩)
        refine go (r:=?_);and_intros<;>intros<;>try exact True.intro
        all_goals first|contradiction|omega|(rw [ek,hge];exact hsn.symm)
       ·refine go (r:=?_);and_intros<;>intros<;>try exact True.intro
        all_goals first|contradiction|omega|(rw [ek,hge];exact hsn.symm)
    have hke:k=(2*n).toNat:=by omega
    subst hke
    refine go (r:=?_);and_intros<;>intros<;>try exact True.intro
    all_goals first|contradiction|omega
  ·rw [if_neg (fun hh=>hx0 hh.1)]
   refine FnC.of_body tabOk Tryz.func147 Tryz.ntmps147 rfl (by decide +kernel) (by simp) fun G=>?_
   refine go (r:=?_);and_intros<;>intros<;>try exact True.intro
   all_goals first|contradiction|(exact absurd h (by assumption))|omega|skip
   refine WpA.loop (fun k:Nat=>⟨[(1,I x),(2,I y),(3,I n),(4,.ptr 0 0 0),(8,.ptr 1 0 0),(9,.ptr 2 0 0),(10,I k)],[FrO W H p,Nb0,⟨[.nilS,.own 3 0 0 k,I (128),B (decide (0<y)),B (decide (0<x))],0,0,none⟩,XI (tabL (lefF W p x y) k)]⟩) (fun k=>(k:Int)≤n) (fun k=>n.toNat-k) 0 (by omega) ?_ ?_
   ·exact Weak.nil1 (by first|(show 0≤_;exact Nat.zero_le _)|(repeat' (first|exact RzT.nil|refine RzT.cons ?_ ?_|exact Rz.nil|refine Rz.keep rfl rfl ?_|refine Rz.own rfl rfl rfl rfl rfl (by first|rfl|omega|(simp;done)) ?_|refine Rz.ptr rfl rfl rfl rfl ?_|refine Rz.nilO rfl rfl rfl (by first|rfl|omega|(simp;done)) ?_|refine Rz.agg ?_ ?_|exact RzO.last rfl|(refine RzO.cons ?_ (.inr rfl) ?_)|exact Rz.same rfl (still_ints _)|exact Rz.same rfl (still_rows (fun _=>rfl) _)))) (by first|(show 0≤_;exact Nat.zero_le _)|(repeat' (first|exact RzT.nil|refine RzT.cons ?_ ?_|exact Rz.nil|refine Rz.keep rfl rfl ?_|refine Rz.own rfl rfl rfl rfl rfl (by first|rfl|omega|(simp;done)) ?_|refine Rz.ptr rfl rfl rfl rfl ?_|refine Rz.nilO rfl rfl rfl (by first|rfl|omega|(simp;done)) ?_|refine Rz.agg ?_ ?_|exact RzO.last rfl|(refine RzO.cons ?_ (.inr rfl) ?_)|exact Rz.same rfl (still_ints _)|exact Rz.same rfl (still_rows (fun _=>rfl) _)))) (Nat.le_of_ble_eq_true rfl)
   intro k hk
   try simp only at hk ⊢
   have hkl2:=tabL_len (lefF W p x y) k
   by_cases hlt2:(k:Int)<n
   ·have hsn:=tabL_snoc (lefF W p x y) k
    by_cases hx0:0<x
    ·obtain ⟨b1,b2,b3⟩:=nb_lx h hlt2 hx0
     have hq:lefF W p x y k=p.getD ((y+k)*W+x-1).toNat 0:=by unfold lefF;rw [if_pos hx0]
     rw [hq] at hsn
     refine go (r:=?_);and_intros<;>intros<;>try exact True.intro
     all_goals first|contradiction|omega|exact hsn.symm
    ·have hq:lefF W p x y k=128:=by unfold lefF;rw [if_neg hx0]
     rw [hq] at hsn
     refine go (r:=?_);and_intros<;>intros<;>try exact True.intro
     all_goals first|contradiction|omega|exact hsn.symm
   have hke:k=n.toNat:=by omega
   subst hke
   refine go (r:=?_);and_intros<;>intros<;>try exact True.intro
   all_goals first|contradiction|omega|skip
   refine WpA.loop (fun k:Nat=>⟨[(1,I x),(2,I y),(3,I n),(4,.ptr 0 0 0),(8,.ptr 1 0 0),(9,.ptr 2 0 0),(12,I k)],[FrO W H p,Nb0,⟨[.own 4 0 0 k,.own 3 0 0 n.toNat,I (128),B (decide (0<y)),B (decide (0<x))],0,0,none⟩,XI (tabL (lefF W p x y) n.toNat),XI (tabL (topF W p x y n) k)]⟩) (fun k=>(k:Int)≤2*n) (fun k=>(2*n).toNat-k) 0 (by omega) ?_ ?_
   ·exact Weak.nil1 (by first|(show 0≤_;exact Nat.zero_le _)|(repeat' (first|exact RzT.nil|refine RzT.cons ?_ ?_|exact Rz.nil|refine Rz.keep rfl rfl ?_|refine Rz.own rfl rfl rfl rfl rfl (by first|rfl|omega|(simp;done)) ?_|refine Rz.ptr rfl rfl rfl rfl ?_|refine Rz.nilO rfl rfl rfl (by first|rfl|omega|(simp;done)) ?_|refine Rz.agg ?_ ?_|exact RzO.last rfl|(refine RzO.cons ?_ (.inr rfl) ?_)|exact Rz.same rfl (still_ints _)|exact Rz.same rfl (still_rows (fun _=>rfl) _)))) (by first|(show 0≤_;exact Nat.zero_le _)|(repeat' (first|exact RzT.nil|refine RzT.cons ?_ ?_|exact Rz.nil|refine Rz.keep rfl rfl ?_|refine Rz.own rfl rfl rfl rfl rfl (by first|rfl|omega|(simp;done)) ?_|refine Rz.ptr rfl rfl rfl rfl ?_|refine Rz.nilO rfl rfl rfl (by first|rfl|omega|(simp;done)) ?_|refine Rz.agg ?_ ?_|exact RzO.last rfl|(refine RzO.cons ?_ (.inr rfl) ?_)|exact Rz.same rfl (still_ints _)|exact Rz.same rfl (still_rows (fun _=>rfl) _)))) (Nat.le_of_ble_eq_true rfl)
   intro k hk
   try simp only at hk ⊢
   have hkl:=tabL_len (topF W p x y n) k
   by_cases hlt:(k:Int)<2*n
   ·have hq:=topF_eq W p x y n (by omega) k
    have hsn:=tabL_snoc (topF W p x y n) k
    by_cases hy0:y=0
    ·rw [if_pos hy0] at hq
     rw [hq] at hsn
     refine go (r:=?_);and_intros<;>intros<;>try exact True.intro
     all_goals first|contradiction|omega|skip
     all_goals
      refine WpL.openAny (t:=83) rfl (fun v0=>?_)
      by_cases hv:v0=.bool false
      ·subst hv
       refine go (r:=?_);and_intros<;>intros<;>try exact True.intro
       all_goals first|contradiction|omega|exact hsn.symm
      ·repeat (refine WpL.guardV (σ:=⟨_,_⟩) rfl rfl (by decide) rfl hv rfl ?_)
       refine WpL.openAny (t:=87) rfl (fun v1=>?_)
       by_cases hv1:v1=.bool true
       ·subst hv1
        refine go (r:=?_);and_intros<;>intros<;>try exact True.intro
        all_goals first|contradiction|omega|skip
        all_goals
         refine WpL.guardV (σ:=⟨_,_⟩) rfl rfl (by decide) rfl hv rfl ?_
         refine go (r:=?_);and_intros<;>intros<;>try exact True.intro
         all_goals first|contradiction|omega|exact hsn.symm
       ·repeat (refine WpL.guardV (σ:=⟨_,_⟩) rfl rfl (by decide) rfl hv1 rfl ?_)
        refine WpL.guardV (σ:=⟨_,_⟩) rfl rfl (by decide) rfl hv rfl ?_
        refine go (r:=?_);and_intros<;>intros<;>try exact True.intro
        all_goals first|contradiction|omega|exact hsn.symm
    ·rw [if_neg hy0] at hq
     by_cases hc:(k:Int)<n∨(y%8=0∧x+k<W)
     ·rw [if_pos hc] at hq
      rw [hq] at hsn
      obtain ⟨b1,b2,b3⟩:=nb_ix h hlt hy0 hc
      by_cases hc0:(k:Int)<n
      ·refine go (r:=?_);and_intros<;>intros<;>try exact True.intro
       all_goals first|contradiction|omega|skip
       all_goals
        refine WpL.openAny (t:=87) rfl (fun v0=>?_)
        by_cases hv:v0=.bool true
        ·subst hv
         refine go (r:=?_);and_intros<;>intros<;>try exact True.intro
         all_goals first|contradiction|omega|exact hsn.symm
        ·repeat (refine WpL.guardV (σ:=⟨_,_⟩) rfl rfl (by decide) rfl hv rfl ?_)
         refine go (r:=?_);and_intros<;>intros<;>try exact True.intro
         all_goals first|contradiction|omega|exact hsn.symm
      ·obtain ⟨hc1,hc2⟩:y%8=0∧x+k<W:=hc.resolve_left hc0
       refine go (r:=?_);and_intros<;>intros<;>try exact True.intro
       all_goals first|contradiction|omega|exact hsn.symm
     ·rw [if_neg hc] at hq
      rw [hq] at hsn
      have hk0:0<k:=by omega
      have ek:((k:Int)-1).toNat=k-1:=by omega
      have hge:(tabL (topF W p x y n) k).getD (k-1) 0=topF W p x y n (k-1):=tabL_get (by omega)
      by_cases hc0:(k:Int)<n
      ·exact absurd (.inl hc0) hc
      by_cases hc1:y%8=0
      ·have hc2:¬x+k<W:=fun hh=>hc (.inr ⟨hc1,hh⟩)
       refine go (r:=?_);and_intros<;>intros<;>try exact True.intro
       all_goals first|contradiction|omega|(rw [ek,hge];exact hsn.symm)
      ·refine go (r:=?_);and_intros<;>intros<;>try exact True.intro
       all_goals first|contradiction|omega|(rw [ek,hge];exact hsn.symm)
   have hke:k=(2*n).toNat:=by omega
   subst hke
   refine go (r:=?_);and_intros<;>intros<;>try exact True.intro
   all_goals first|contradiction|omega
 ·have ht:topL W H p x y n=[]:=by unfold topL;rw [if_neg h]
  have hle:lefL W H p x y n=[]:=by unfold lefL;rw [if_neg h]
  have hco:corL W H p x y n=0:=by unfold corL;rw [if_neg h]
  have hhT:hasT W H p x y n=false:=by unfold hasT;rw [decide_eq_false_iff_not];exact fun hh=>h hh.1
  have hhE:hasE W H p x y n=false:=by unfold hasE;rw [decide_eq_false_iff_not];exact fun hh=>h hh.1
  unfold NbOwn
  rw [ht,hle,hco,hhT,hhE]
  have hd:=decide_eq_false h
  refine FnC.of_body tabOk Tryz.func147 Tryz.ntmps147 rfl (by decide +kernel) (by simp) fun G=>?_
  refine go (r:=?_);and_intros<;>intros<;>try exact True.intro
  all_goals first|contradiction|omega⟩
end Go.Proofs.YtndflfipaddfoaaGreat
