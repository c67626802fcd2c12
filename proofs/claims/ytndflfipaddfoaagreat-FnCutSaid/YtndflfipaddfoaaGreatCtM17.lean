/- Proved in this text: lemmas and contracts of functions that the claim uses (parts: DrR, Dst, AbsSl, Da3, Da2, WkP, WorkL, StatL, ScrB, WkX, CutX, Bridge, Read, Read2, Read3). No condition. -/
import Derived.Test.YtndflfipaddfoaaGreatCtM15
import Derived.Test.YtndflfipaddfoaaGreatCtM16
import Derived.Test.YtndflfipaddfoaaGreatCtM6
import Derived.Test.YtndflfipaddfoaaGreatCtM13
import Derived.Test.YtndflfipaddfoaaGreatCtM10
import Derived.Test.YtndflfipaddfoaaGreatCtM9
import Derived.Test.YtndflfipaddfoaaGreatCtM14
import Derived.Test.YtndflfipaddfoaaGreatCtM12
import Derived.Test.YtndflfipaddfoaaGreatCtM2
import Derived.Below
import Derived.ChangeArms
import Derived.Test.YtndflfipaddfoaaGreatCtM3
set_option linter.unusedVariables false
set_option linter.unusedSimpArgs false
set_option maxRecDepth 100000
set_option maxHeartbeats 16000000


namespace Go.Proofs.YtndflfipaddfoaaGreat
open Go Go.Abs
attribute [local irreducible] WpA WpL Rnd Blk Abs.Seq Abs.Fin Abs.FinG FnC FnG FnX FnP FinX Only
attribute [local irreducible] belowD onceD pickD modeD l8D l8AnyD optD anyD seedD
abbrev HdOwn (k:Nat) (x:Hd6):AV:=.agg [I x.w,I x.h,I x.q,B x.b,B x.d,.own k 0 0 x.lens.length]
instance l22Header_p:ConP 185 (∀ (v:Value) (l:List Int) (c:Cr),CrOk l c→Pn 185 v l c [] (headD l c).1 [XI (headD l c).2.lens] (HdOwn 1 (headD l c).2)):=⟨fun v l c h=>by
 have h1:=belowD_ok 2 h
 have h2:=belowD_ok 2 h1.1
 have h3:=pickD_ok (xs:=quant6) h2.1 (by decide)
 have h4:=onceD_ok 4 h3.1
 have h5:=onceD_ok 2 h4
 have h6:=l8D_ok h5
 have a1:=h1.2.1
 have a2:=h1.2.2.1 (by decide)
 have a3:=h2.2.1
 have a4:=h2.2.2.1 (by decide)
 unfold headD
 simp only
 refine FnP.of_body tabOk Tryz.func185 Tryz.ntmps185 rfl (by decide +kernel) (by simp) rfl rfl rfl fun G hp=>?_
 refine go (r:=?_);and_intros<;>intros<;>try exact True.intro
 all_goals first|exact h|exact h.1|exact h.2.1|exact h.2.2|exact h1.1.2.1|exact h1.1.2.2|exact h2.1.2.1|exact h2.1.2.2|exact h3.1.2.1|exact h3.1.2.2|exact h4.2.1|exact h4.2.2|exact h5.2.1|exact h5.2.2|decide|skip⟩
instance l22Any_p:ConP 154 (∀ (v:Value) (l:List Int) (c:Cr),CrOk l c→Pn 154 v l c [] (headAnyD l c).1 [XI (headAnyD l c).2.lens] (HdOwn 1 (headAnyD l c).2)):=⟨fun v l c h=>by
 have ho:=headD_ok h
 have hs:=belowD_ok 12 ho.1
 by_cases h0:(belowD l (headD l c).1 12).2=0
 ·rw [headAnyD_0 h0]
  refine FnP.of_body tabOk Tryz.func154 Tryz.ntmps154 rfl (by decide +kernel) (by simp) rfl rfl rfl fun G hp=>?_
  refine go (r:=?_);and_intros<;>intros<;>try exact True.intro
  all_goals first|exact hs.1|exact hs.1.2.1|exact hs.1.2.2|exact ho.1.2.1|exact ho.1.2.2|exact h|exact h.2.1|exact h.2.2|decide|skip
 ·by_cases h1:(belowD l (headD l c).1 12).2=1
  ·rw [headAnyD_1 h1]
   refine FnP.of_body tabOk Tryz.func154 Tryz.ntmps154 rfl (by decide +kernel) (by simp) rfl rfl rfl fun G hp=>?_
   refine go (r:=?_);and_intros<;>intros<;>try exact True.intro
   all_goals first|exact hs.1|exact hs.1.2.1|exact hs.1.2.2|exact ho.1.2.1|exact ho.1.2.2|exact h|exact h.2.1|exact h.2.2|decide|skip
  ·by_cases h2:(belowD l (headD l c).1 12).2=2
   ·rw [headAnyD_2 h2]
    refine FnP.of_body tabOk Tryz.func154 Tryz.ntmps154 rfl (by decide +kernel) (by simp) rfl rfl rfl fun G hp=>?_
    refine go (r:=?_);and_intros<;>intros<;>try exact True.intro
    all_goals first|exact hs.1|exact hs.1.2.1|exact hs.1.2.2|exact ho.1.2.1|exact ho.1.2.2|exact h|exact h.2.1|exact h.2.2|decide|skip
   ·rw [headAnyD_3 h0 h1 h2]
    refine FnP.of_body tabOk Tryz.func154 Tryz.ntmps154 rfl (by decide +kernel) (by simp) rfl rfl rfl fun G hp=>?_
    refine go (r:=?_);and_intros<;>intros<;>try exact True.intro
    all_goals first|exact hs.1|exact hs.1.2.1|exact hs.1.2.2|exact ho.1.2.1|exact ho.1.2.2|exact h|exact h.2.1|exact h.2.2|decide|skip⟩
end Go.Proofs.YtndflfipaddfoaaGreat


namespace Go.Proofs.YtndflfipaddfoaaGreat
open Go Go.Abs
attribute [local irreducible] WpA WpL Rnd Blk Abs.Seq Abs.Fin Abs.FinG FnC FnG FnX FnP FinX Only
attribute [local irreducible] belowD onceD pickD modeD l8D l8AnyD optD anyD seedD headD headAnyD symL HasC blkD mbD
theorem split02 {Ov:List AObj} {x y:AObj} (h0:Ov[0]?=some x) (h:Ov[2]?=some y):∃a R,Ov=x::a::y::R:=by
 match Ov,h0,h with
 |x'::a::y'::R,h0,h=>simp at h0 h;exact ⟨a,R,by rw [h0,h]⟩
 |[],h0,h=>simp at h
 |[_],h0,h=>simp at h
 |[_,_],h0,h=>simp at h
theorem split456 {Ov:List AObj} {x y z:AObj} (h4:Ov[4]?=some x) (h5:Ov[5]?=some y) (h6:Ov[6]?=some z):∃a b c d R,Ov=a::b::c::d::x::y::z::R:=by
 match Ov,h4,h5,h6 with
 |a::b::c::d::x'::y'::z'::R,h4,h5,h6=>simp at h4 h5 h6;exact ⟨a,b,c,d,R,by rw [h4,h5,h6]⟩
 |[],h4,h5,h6=>simp at h6
 |[_],h4,h5,h6=>simp at h6
 |[_,_],h4,h5,h6=>simp at h6
 |[_,_,_],h4,h5,h6=>simp at h6
 |[_,_,_,_],h4,h5,h6=>simp at h6
 |[_,_,_,_,_],h4,h5,h6=>simp at h6
 |[_,_,_,_,_,_],h4,h5,h6=>simp at h6
abbrev StOwn (s:Str8):AV:=.agg [I s.hd.w,I s.hd.h,I s.hd.q,B s.hd.b,B s.hd.d,.own 1 0 0 s.hd.lens.length,.own 2 0 0 s.ms.length]
abbrev Z7:AObj:=⟨[I 0,I 0,I 0,B false,B false,.nilS,.nilS],0,0,none⟩
instance l24Stream_p:ConP 92 (∀ (v:Value) (l:List Int) (c:Cr),CrOk l c→Pn 92 v l c [] (strD l c).1 [XI (strD l c).2.hd.lens,MbO (strD l c).2.ms] (StOwn (strD l c).2)):=⟨fun v l c h=>by
 have hx:=headD_ok h
 have hx1:=hx.1
 have hx2:=hx.2.1
 have hx3:=hx.2.2
 have hcm:=cntM_bd hx3
 have hcm1:=hcm.2.2.1
 have hcm2:=hcm.2.2.2
 unfold strD
 generalize hS:strK l _ _ _=S
 generalize hX:(headD l c).2=X at*
 generalize hC:(headD l c).1=c0 at*
 obtain ⟨w0,h0,q0,b0,d0,lens⟩:=X
 simp only at hx2 hx3 hcm hcm1 hcm2 hS
 refine FnP.of_body tabOk Tryz.func92 Tryz.ntmps92 rfl (by decide +kernel) (by simp) rfl rfl rfl fun G hp=>?_
 refine goR (r:=?_);and_intros<;>intros<;>try exact True.intro
 all_goals first|contradiction|omega|exact h.2.1|exact h.2.2|skip
 rw [hX,hC]
 refine WpA.loop (fun x:Nat×Cr×List Mbk=>⟨[(0,.ptr 0 0 0),(2,.ptr 1 0 0),(3,.ptr 3 0 0),(4,I (cntM w0 h0-x.1))],[CurO v x.2.1,Z7,XI lens,⟨[I w0,I h0,I q0,B b0,B d0,.own 2 0 0 lens.length,.own 4 0 0 x.2.2.length],0,0,none⟩,MbO x.2.2]⟩) (fun x=>CrOk l x.2.1∧(x.1:Int)≤cntM w0 h0∧x.1+x.2.2.length≤16∧strK l lens x.1 x.2=S) (fun x=>x.1) ((cntM w0 h0).toNat,c0,[]) ⟨hx1,by simp only;omega,by simp only [List.length_nil];omega,hS⟩ ?_ ?_
 ·have ez:cntM w0 h0-((cntM w0 h0).toNat:Nat)=0:=by omega
  simp only [ez]
  exact Weak.nil1 (by first|(show 0≤_;exact Nat.zero_le _)|(repeat' (first|exact RzT.nil|refine RzT.cons ?_ ?_|exact Rz.nil|refine Rz.keep rfl rfl ?_|refine Rz.own rfl rfl rfl rfl rfl (by first|rfl|omega|(simp;done)) ?_|refine Rz.ptr rfl rfl rfl rfl ?_|refine Rz.nilO rfl rfl rfl (by first|rfl|omega|(simp;done)) ?_|refine Rz.agg ?_ ?_|exact RzO.last rfl|(refine RzO.cons ?_ (.inr rfl) ?_)|exact Rz.same rfl (still_ints _)|exact Rz.same rfl (still_rows (fun _=>rfl) _)))) (by first|(show 0≤_;exact Nat.zero_le _)|(repeat' (first|exact RzT.nil|refine RzT.cons ?_ ?_|exact Rz.nil|refine Rz.keep rfl rfl ?_|refine Rz.own rfl rfl rfl rfl rfl (by first|rfl|omega|(simp;done)) ?_|refine Rz.ptr rfl rfl rfl rfl ?_|refine Rz.nilO rfl rfl rfl (by first|rfl|omega|(simp;done)) ?_|refine Rz.agg ?_ ?_|exact RzO.last rfl|(refine RzO.cons ?_ (.inr rfl) ?_)|exact Rz.same rfl (still_ints _)|exact Rz.same rfl (still_rows (fun _=>rfl) _)))) (Nat.le_of_ble_eq_true rfl)
 rintro ⟨k,c1,ms⟩ ⟨hc1,hk,hkl,hK⟩
 try simp only at hc1 hk hkl hK ⊢
 by_cases hk0:k=0
 ·subst hk0
  have hSe:(c1,ms)=S:=hK
  subst hSe
  refine go (r:=?_);and_intros<;>intros<;>try exact True.intro
  all_goals first|exact hx3|skip
  exact FinG.oI [some 0,some 2,some 4] rfl (ResV.cell (ds:=[_,_,_,_,_,_,_]) rfl rfl rfl rfl rfl) (.agg (.keep rfl rfl rfl (.keep rfl rfl rfl (.keep rfl rfl rfl (.keep rfl rfl rfl (.keep rfl rfl rfl (.own rfl rfl rfl rfl (.own rfl rfl rfl rfl .nil))))))) .nil) (.obj rfl rfl rfl rfl rfl (.inr rfl) (.obj rfl rfl (still_ints _) rfl rfl (.inr rfl) (.obj rfl rfl (still_rows (fun _=>rfl) _) rfl rfl (.inr rfl) .nil))) rfl rfl
 ·have hE:strK l lens (k-1) ((mbD l lens c1).1,ms++[(mbD l lens c1).2])=S:=by
   obtain ⟨j,rfl⟩:∃j,k=j+1:=⟨k-1,by omega⟩
   exact hK
  have hb:=mbD_ok (lens:=lens) hc1
  refine goR (r:=?_);and_intros<;>intros<;>try exact True.intro
  all_goals first|contradiction|omega|exact hx3|skip
  apply WpA.regionSF (O:=[]) (Or:=[CurO v c1,Z7,XI lens,⟨[I w0,I h0,I q0,B b0,B d0,.own 2 0 0 lens.length,.own 4 0 0 ms.length],0,0,none⟩,MbO ms]) (O1:=[CurO v (mbD l lens c1).1,Z7,XI lens,⟨[I w0,I h0,I q0,B b0,B d0,.own 2 0 0 lens.length,.own 4 0 0 ms.length],0,0,none⟩,⟨rows Go.Abs.mbF (ms++[(mbD l lens c1).2]),1,2,some 67⟩,⟨[],2,0,none⟩,⟨[B (mbD l lens c1).2.1,.own 5 1 0 (mbD l lens c1).2.2.length],1,2,some 67⟩,deadO,deadO]) 9 2 [2,3] [5] rfl mixed (by decide +kernel)
  ·exact rfl
  ·apply HeadS.consF .none rfl
   ·exact rfl
   ·exact rfl
   ·intro Tv Ov hc hp' hd hk
    obtain ⟨x0,x1,x2,R,rfl⟩:=Abs.split4 (hk 3 rfl)
    exact in1
   ·exact rfl
   ·exact rfl
   apply HeadS.consF .none rfl
   ·exact rfl
   ·exact rfl
   ·intro Tv Ov hc hp' hd hk
    obtain ⟨x0,x1,x2,R,rfl⟩:=Abs.split4 (hk 3 rfl)
    exact in1
   ·exact rfl
   ·exact rfl
   apply HeadS.consF .none rfl
   ·exact rfl
   ·exact rfl
   ·exact in1
   ·exact rfl
   ·exact rfl
   apply HeadS.consF .none rfl
   ·exact rfl
   ·exact rfl
   ·intro Tv Ov hc hp' hd hk
    obtain ⟨x0,x1,x2,R,rfl⟩:=Abs.split4 (hk 3 rfl)
    exact in1
   ·exact rfl
   ·exact rfl
   apply HeadS.consF .none rfl
   ·exact rfl
   ·exact rfl
   ·intro Tv Ov hc hp' hd hk
    obtain ⟨x0,x1,x2,R,rfl⟩:=Abs.split4 (hk 3 rfl)
    exact in1
   ·exact rfl
   ·exact rfl
   apply HeadS.consF .none rfl
   ·exact rfl
   ·exact rfl
   ·intro Tv Ov hc hp' hd hk
    obtain ⟨x0,x1,x2,R,rfl⟩:=Abs.split4 (hk 3 rfl)
    exact in1
   ·exact rfl
   ·exact rfl
   apply HeadS.consF (V:=.agg [B (mbD l lens c1).2.1,.own 5 1 0 (mbD l lens c1).2.2.length]) (.both 0 (CurO v (mbD l lens c1).1) 5 ⟨rows blkF (mbD l lens c1).2.2,1,2,some 92⟩) rfl
   ·exact rfl
   ·exact rfl
   ·intro Tv Ov hc hp' hd hk
    have h3:=hp' 5 _ rfl
    obtain ⟨a0,R,rfl⟩:=split02 (hp' 0 _ rfl) (hk 2 rfl)
    refine K.call ?_
    refine K.conP (fun hcon=>?_)
    refine WpL.callP1N (A:=[]) (hcon v l c1 lens ⟨hc1,by omega⟩) hp rfl handA handOA rfl (.cons rfl (.sc (.sc (.sc .nil))) .nil) outA rfl (by decide) ?_
    apply WpL.putV (O:=[]) (p:=5) (Ov:=CurO v (mbD l lens c1).1::a0::XI lens::R)
    ·exact .agg (.keep rfl rfl (.own (by first|rfl|simp) .nil)) .nil
    ·exact h3
    ·exact Nat.le_of_ble_eq_true rfl
    ·exact rfl
    ·exact still_rows (fun _=>rfl) _
   ·exact rfl
   ·exact rfl
   apply HeadS.consF (V:=.own 6 1 0 1) (.put 6 (⟨[B (mbD l lens c1).2.1,.own 5 1 0 (mbD l lens c1).2.2.length],1,2,some 67⟩)) rfl
   ·exact rfl
   ·exact rfl
   ·intro Tv Ov hc hp' hd hk
    refine WpL.litF (cs:=[B (mbD l lens c1).2.1,.own 5 1 0 (mbD l lens c1).2.2.length]) tabOk rfl rfl rfl rfl (by decide) (by rw [nid_len,Nat.zero_add]) (by decide) ?_
    apply WpL.putA (p:=6)
    ·exact .own rfl .nil
    ·exact hp' 6 _ rfl
    ·exact Nat.le_of_ble_eq_true rfl
    ·exact rfl
   ·exact rfl
   ·exact rfl
   apply HeadS.consF (V:=.own 4 1 0 (ms.length+1)) (⟨[(5,⟨[],2,0,none⟩),(4,⟨rows Go.Abs.mbF (ms++[(mbD l lens c1).2]),1,2,some 67⟩)],false⟩) rfl
   ·exact rfl
   ·exact rfl
   ·intro Tv Ov hc hp' hd hk
    obtain ⟨a0,a1,a2,a3,R,rfl⟩:=split456 (hp' 4 _ rfl) (hp' 5 _ rfl) (hd 7 _ 6 _ (by decide) rfl rfl rfl)
    refine K.bi ?_
    refine WpL.appMb (j:=5) (c:=(mbD l lens c1).2.1) (lv:=(mbD l lens c1).2.2) tabOk rfl rfl rfl (Nat.le_of_ble_eq_true rfl) rfl rfl rfl rfl rfl (Nat.le_of_ble_eq_true rfl) rfl rfl (by omega) (by decide) ?_
    exact WpL.nil (Only.mk rfl)
   ·exact rfl
   ·exact rfl
   exact HeadS.nil
  ·exact rfl
  ·exact rfl
  ·exact rfl
  ·exact rfl
  ·exact rfl
  ·exact rfl
  ·exact rfl
  refine go (r:=?_);and_intros<;>intros<;>try exact True.intro
  all_goals first|contradiction|omega|exact hx3|skip
  have e1:cntM w0 h0-((k-1:Nat):Int)=cntM w0 h0-k+1:=by omega
  refine Rnd.go (k-1,(mbD l lens c1).1,ms++[(mbD l lens c1).2]) ⟨hb.1,by simp only;omega,by simp only [List.length_append,List.length_singleton];omega,hE⟩ ?_ ?_
  ·show k-1<k;omega
  ·simp only [e1,List.length_append,List.length_singleton]
   exact Weak.mk (by repeat (first|exact ReT.nil|refine ReT.cons (.keep rfl rfl .nil) ?_|refine ReT.cons (.own rfl rfl rfl rfl rfl rfl .nil) ?_|refine ReT.cons (.ptr rfl rfl rfl rfl .nil) ?_|refine ReT.cons (.keep (congrArg (fun z=>AV.sc (Value.int .i64 z)) (by first|omega|(skip))) rfl .nil) ?_|refine ReT.cons (.keep (congrArg (fun z:List UInt8=>AV.sc (Value.string ⟨z.toArray⟩)) (by skip)) rfl .nil) ?_|refine ReT.cons (.own rfl rfl rfl rfl rfl (by first|omega|(simp;done)|(simp;omega)) .nil) ?_)) (by repeat (first
    |exact ReO.nil
    |refine ReO.cons (Re.same rfl rfl) (.inr rfl) ?_
    |refine ReO.cons (Re.same rfl (still_ints _)) (.inr rfl) ?_
    |refine ReO.cons (Re.same rfl (still_rows (fun _=>rfl) _)) (.inr rfl) ?_
    |refine ReO.cons (.keep rfl rfl (.keep rfl rfl (.keep rfl rfl (.keep rfl rfl (.keep rfl rfl (.own rfl rfl rfl rfl rfl rfl (.own rfl rfl rfl rfl rfl rfl .nil))))))) (.inr rfl) ?_)) (Nat.le_of_ble_eq_true rfl)⟩
end Go.Proofs.YtndflfipaddfoaaGreat


namespace Go.Proofs.YtndflfipaddfoaaGreat
open Go Go.Abs
theorem subOwnLo {P:Program} {n m:Nat} {G:Ctx} {T:List (Nat×AV)} {O:List AObj} {Q:Exit→St→Prop} {ops:Array Oper} {l:List Oper} {d:Nat} {md:Bool} {tt:TypeId} {pos:String} {after:Array Edge} {tab:List (Nat×Ty)} (hP:TabOk P tab) {t e k b:Nat} {zs:List AV} {x y:Operand} {kk:IntKind} {id ep len j off:Nat} {ob:AObj} (ht:tlook tab t=some (.slice e k b zs)) (hx:av T x=.own id ep 0 len) (ho:O[id]?=some ob) (he:ob.ep=ep) (hsz:ob.size=k) (hy:av T y=.sc (.int kk j)) (hj:j<len) (hoff:off=j*k) (hn:d<n)
 (h:WpL P n m G md ops l ⟨(d,.own id ep off (len-j))::T,O⟩ Q):
 WpL P n m G md ops ({dst:=some d,op:=.slice t x (some y) none none,type:=tt,pos:=pos,after:=after,guard:=none}::l) ⟨T,O⟩ Q:=by
 subst hoff
 exact WpL.pure rfl rfl hn (fun S ι F a w hr=>by
  obtain ⟨hu,inf,z,hinf,_,hk,_,_,hk0,_⟩:=hP.slice ht
  have hv:=hr.eval x
  rw [show av (St.mk T O).T x=_ from hx] at hv
  have hye:=hr.sc hy
  have hown:OwnAt (ι id) ob.size 0 len (a.eval x):=by
   cases hv with
   |own q1 q2 q3 r=>
    rw [show (St.mk T O).O[id]?=some ob from ho] at q1
    cases q1
    exact q3 he.symm
  cases hs:ι id with
  |none=>
   rw [hs] at hown
   obtain ⟨_,_,hl⟩:=hown
   omega
  |some p=>
   obtain ⟨bb,kb⟩:=p
   rw [hs] at hown
   obtain ⟨cap,hxe,h1,h2,h3⟩:=hown
   have hrun:=run_sliceSl hu hinf hk ⟨bb,0,none⟩ len cap (some (.int kk j)) none j len (.inr ⟨kk,rfl⟩) (.inl ⟨rfl,rfl⟩) (by omega) w
   have e1:(if cap=j then (⟨bb,0,none⟩:Addr) else (⟨bb,0,none⟩:Addr).add (j*k))=⟨bb,j*k,none⟩:=by
    rw [if_neg (by omega),addr_add];simp
   rw [e1] at hrun
   refine ⟨.slice (some ⟨bb,j*k,none⟩) (len-j) (cap-j),by simp [execOp,hxe,hye,hrun,Sem.run_bind],.own ho (by omega) (fun _=>by
    rw [hs]
    refine ⟨cap-j,rfl,?_,by omega,by omega⟩
    rw [hsz] at h1 ⊢
    rw [Nat.sub_mul]
    have:=Nat.mul_le_mul_right k (show j≤cap by omega)
    omega) .nil⟩) h
theorem subOwnEnd {P:Program} {n m:Nat} {G:Ctx} {T:List (Nat×AV)} {O:List AObj} {Q:Exit→St→Prop} {ops:Array Oper} {l:List Oper} {d:Nat} {md:Bool} {tt:TypeId} {pos:String} {after:Array Edge} {tab:List (Nat×Ty)} (hP:TabOk P tab) {t e k b:Nat} {zs:List AV} {x y:Operand} {kk:IntKind} {id ep len:Nat} {ob:AObj} (ht:tlook tab t=some (.slice e k b zs)) (hx:av T x=.own id ep 0 len) (ho:O[id]?=some ob) (he:ob.ep=ep) {j:Int} (hy:av T y=.sc (.int kk j)) (hjl:j=len) (h0:0<len) (hn:d<n)
 (h:WpL P n m G md ops l ⟨(d,.imm k 0 [])::T,O⟩ Q):
 WpL P n m G md ops ({dst:=some d,op:=.slice t x (some y) none none,type:=tt,pos:=pos,after:=after,guard:=none}::l) ⟨T,O⟩ Q:=by
 subst hjl
 exact WpL.pure rfl rfl hn (fun S ι F a w hr=>by
  obtain ⟨hu,inf,z,hinf,_,hk,_,_,hk0,_⟩:=hP.slice ht
  have hv:=hr.eval x
  rw [show av (St.mk T O).T x=_ from hx] at hv
  have hye:=hr.sc hy
  have hown:OwnAt (ι id) ob.size 0 len (a.eval x):=by
   cases hv with
   |own q1 q2 q3 r=>
    rw [show (St.mk T O).O[id]?=some ob from ho] at q1
    cases q1
    exact q3 he.symm
  cases hs:ι id with
  |none=>
   rw [hs] at hown
   obtain ⟨_,_,hl⟩:=hown
   omega
  |some p=>
   obtain ⟨bb,kb⟩:=p
   rw [hs] at hown
   obtain ⟨cap,hxe,h1,h2,h3⟩:=hown
   have hrun:=run_sliceSl hu hinf hk ⟨bb,0,none⟩ len cap (some (.int kk len)) none len len (.inr ⟨kk,rfl⟩) (.inl ⟨rfl,rfl⟩) (by omega) w
   rw [Nat.sub_self] at hrun
   exact ⟨.slice (some (if cap=len then (⟨bb,0,none⟩:Addr) else (⟨bb,0,none⟩:Addr).add (len*k))) 0 (cap-len),by simp [execOp,hxe,hye,hrun,Sem.run_bind],.imm0 ⟨by simp,by omega⟩ .nil⟩) h
end Go.Proofs.YtndflfipaddfoaaGreat


namespace Go.Proofs.YtndflfipaddfoaaGreat
open Go Go.Abs
attribute [local irreducible] WpA WpL Rnd Blk Abs.Seq Abs.Fin Abs.FinG FnC FnG FnX FnP FinX Only
attribute [local irreducible] belowD onceD pickD modeD l8D l8AnyD optD anyD seedD headD headAnyD symL HasC blkD mbD mbAnyD strD
def anySD (l:List Int) (c:Cr):Cr×Str8×Bool:=
 if (belowD l (strD l c).1 14).2=0 then ((headAnyD l (belowD l (strD l c).1 14).1).1,⟨(headAnyD l (belowD l (strD l c).1 14).1).2,(strD l c).2.ms⟩,false)
 else if (belowD l (strD l c).1 14).2=1 then ((mbAnyD l (strD l c).2.hd.lens (belowD l (strD l c).1 14).1).1,⟨(strD l c).2.hd,(strD l c).2.ms.set 0 (mbAnyD l (strD l c).2.hd.lens (belowD l (strD l c).1 14).1).2⟩,false)
 else if (belowD l (strD l c).1 14).2=2 then ((belowD l (strD l c).1 14).1,(strD l c).2,true)
 else ((belowD l (strD l c).1 14).1,(strD l c).2,false)
def drV (k:Nat) (o:Bool) (len:Nat):AV:=bif o then (if len≤1 then .imm 2 ([]:List Mbk).length (rows mbI []) else .own k 0 2 (len-1)) else .own k 0 0 len
theorem drV_0 (k len:Nat):drV k false len=.own k 0 0 len:=rfl
theorem drV_1 {k len:Nat} (h:len≤1):drV k true len=.imm 2 ([]:List Mbk).length (rows mbI []):=by unfold drV;rw [if_pos h];rfl
theorem drV_2 {k len:Nat} (h:¬len≤1):drV k true len=.own k 0 2 (len-1):=by unfold drV;rw [if_neg h];rfl
abbrev StO (s:Str8) (o:Bool):AV:=.agg [I s.hd.w,I s.hd.h,I s.hd.q,B s.hd.b,B s.hd.d,.own 1 0 0 s.hd.lens.length,drV 2 o s.ms.length]
abbrev StS8 (i j k:Nat) (s:Str8):AObj:=⟨[I s.hd.w,I s.hd.h,I s.hd.q,B s.hd.b,B s.hd.d,.own i 0 0 s.hd.lens.length,.own j 0 0 k],0,0,none⟩
instance l24Any_p:ConP 72 (∀ (v:Value) (l:List Int) (c:Cr),CrOk l c→Pn 72 v l c [] (anySD l c).1 [XI (anySD l c).2.1.hd.lens,MbO (anySD l c).2.1.ms] (StO (anySD l c).2.1 (anySD l c).2.2)):=⟨fun v l c h=>by
 have hs:=strD_ok h
 have hs1:=hs.1
 have hs2:=hs.2.1
 have hcm:=cntM_bd hs.2.2.1
 have hln:=hs.2.2.2.1
 have hpos:0<(strD l c).2.ms.length:=by
  have h8:=hs.2.2.1
  have h9:=Int.mul_pos (show 0<(strD l c).2.hd.w/8 by omega) (show 0<(strD l c).2.hd.h/8 by omega)
  unfold cntM at hln
  omega
 have hk:=belowD_ok 14 hs1
 have hk0:=hk.2.1
 have hk1:=hk.2.2.1 (by decide)
 have hkc:=hk.1
 unfold anySD
 by_cases h0:(belowD l (strD l c).1 14).2=0
 ·rw [if_pos h0]
  simp only [StO,drV_0]
  refine FnP.of_body tabOk Tryz.func72 Tryz.ntmps72 rfl (by decide +kernel) (by simp) rfl rfl rfl fun G hp=>?_
  refine goR (r:=?_);and_intros<;>intros<;>try exact True.intro
  all_goals first|contradiction|omega|exact h.2.1|exact h.2.2|exact hs1.2.1|exact hs1.2.2|exact hkc.2.1|exact hkc.2.2|skip
  exact FinG.oI [some 0,some 5,some 3] rfl (ResV.cell (ds:=[_,_,_,_,_,_,_]) rfl rfl rfl rfl rfl) (.agg (.keep rfl rfl rfl (.keep rfl rfl rfl (.keep rfl rfl rfl (.keep rfl rfl rfl (.keep rfl rfl rfl (.own rfl rfl rfl rfl (.own rfl rfl rfl rfl .nil))))))) .nil) (.obj rfl rfl rfl rfl rfl (.inr rfl) (.obj rfl rfl (still_ints _) rfl rfl (.inr rfl) (.obj rfl rfl (still_rows (fun _=>rfl) _) rfl rfl (.inr rfl) .nil))) rfl rfl
 by_cases h1:(belowD l (strD l c).1 14).2=1
 ·rw [if_neg h0,if_pos h1]
  simp only [StO,drV_0,List.length_set]
  refine FnP.of_body tabOk Tryz.func72 Tryz.ntmps72 rfl (by decide +kernel) (by simp) rfl rfl rfl fun G hp=>?_
  refine goR (r:=?_);and_intros<;>intros<;>try exact True.intro
  all_goals first|contradiction|omega|exact h.2.1|exact h.2.2|exact hs1.2.1|exact hs1.2.2|exact hkc.2.1|exact hkc.2.2|skip
  apply WpA.regionSF (O:=[]) (Or:=[CurO v (belowD l (strD l c).1 14).1,Z7,XI (strD l c).2.hd.lens,MbO (strD l c).2.ms,StS8 2 3 (strD l c).2.ms.length (strD l c).2]) (O1:=[CurO v (mbAnyD l (strD l c).2.hd.lens (belowD l (strD l c).1 14).1).1,Z7,XI (strD l c).2.hd.lens,MbO (strD l c).2.ms,StS8 2 3 (strD l c).2.ms.length (strD l c).2,⟨rows blkF (mbAnyD l (strD l c).2.hd.lens (belowD l (strD l c).1 14).1).2.2,1,2,some 92⟩,deadO]) 7 1 [2,4] [] rfl mixed (by decide +kernel)
  ·exact rfl
  ·apply HeadS.consF .none rfl
   ·exact rfl
   ·exact rfl
   ·intro Tv Ov hc hp' hd hk
    obtain ⟨x0,x1,x2,x3,R,rfl⟩:=split5 (hk 4 rfl)
    exact in1
   ·exact rfl
   ·exact rfl
   apply HeadS.consF .none rfl
   ·exact rfl
   ·exact rfl
   ·intro Tv Ov hc hp' hd hk
    obtain ⟨x0,x1,x2,x3,R,rfl⟩:=split5 (hk 4 rfl)
    exact in1
   ·exact rfl
   ·exact rfl
   apply HeadS.consF .none rfl
   ·exact rfl
   ·exact rfl
   ·exact in1
   ·exact rfl
   ·exact rfl
   apply HeadS.consF .none rfl
   ·exact rfl
   ·exact rfl
   ·intro Tv Ov hc hp' hd hk
    obtain ⟨x0,x1,x2,x3,R,rfl⟩:=split5 (hk 4 rfl)
    exact in1
   ·exact rfl
   ·exact rfl
   apply HeadS.consF .none rfl
   ·exact rfl
   ·exact rfl
   ·intro Tv Ov hc hp' hd hk
    obtain ⟨x0,x1,x2,x3,R,rfl⟩:=split5 (hk 4 rfl)
    exact in1
   ·exact rfl
   ·exact rfl
   apply HeadS.consF .none rfl
   ·exact rfl
   ·exact rfl
   ·intro Tv Ov hc hp' hd hk
    obtain ⟨x0,x1,x2,x3,R,rfl⟩:=split5 (hk 4 rfl)
    exact in1
   ·exact rfl
   ·exact rfl
   apply HeadS.consF (V:=.agg [B (mbAnyD l (strD l c).2.hd.lens (belowD l (strD l c).1 14).1).2.1,.own 5 1 0 (mbAnyD l (strD l c).2.hd.lens (belowD l (strD l c).1 14).1).2.2.length]) (.both 0 (CurO v (mbAnyD l (strD l c).2.hd.lens (belowD l (strD l c).1 14).1).1) 5 ⟨rows blkF (mbAnyD l (strD l c).2.hd.lens (belowD l (strD l c).1 14).1).2.2,1,2,some 92⟩) rfl
   ·exact rfl
   ·exact rfl
   ·intro Tv Ov hc hp' hd hk
    have h3:=hp' 5 _ rfl
    obtain ⟨a0,R,rfl⟩:=split02 (hp' 0 _ rfl) (hk 2 rfl)
    refine K.call ?_
    refine K.conP (fun hcon=>?_)
    refine WpL.callP1N (A:=[]) (hcon v l (belowD l (strD l c).1 14).1 (strD l c).2.hd.lens ⟨hkc,by omega⟩) hp rfl handA handOA rfl (.cons rfl (.sc (.sc (.sc .nil))) .nil) outA rfl (by decide) ?_
    apply WpL.putV (O:=[]) (p:=5) (Ov:=CurO v (mbAnyD l (strD l c).2.hd.lens (belowD l (strD l c).1 14).1).1::a0::XI (strD l c).2.hd.lens::R)
    ·exact .agg (.keep rfl rfl (.own (by first|rfl|simp) .nil)) .nil
    ·exact h3
    ·exact Nat.le_of_ble_eq_true rfl
    ·exact rfl
    ·exact still_rows (fun _=>rfl) _
   ·exact rfl
   ·exact rfl
   exact HeadS.nil
  ·exact rfl
  ·exact rfl
  ·exact rfl
  ·exact rfl
  ·exact rfl
  ·exact rfl
  ·exact rfl
  refine go (r:=?_);and_intros<;>intros<;>try exact True.intro
  all_goals first|contradiction|omega|skip
  exact FinG.oI [some 0,some 2,some 3] rfl (ResV.cell (ds:=[_,_,_,_,_,_,_]) rfl rfl rfl rfl rfl) (.agg (.keep rfl rfl rfl (.keep rfl rfl rfl (.keep rfl rfl rfl (.keep rfl rfl rfl (.keep rfl rfl rfl (.own rfl rfl rfl rfl (.own rfl rfl rfl rfl .nil))))))) .nil) (.obj rfl rfl rfl rfl rfl (.inr rfl) (.obj rfl rfl (still_ints _) rfl rfl (.inr rfl) (.obj rfl rfl (still_rows (fun _=>rfl) _) rfl rfl (.inr rfl) .nil))) rfl rfl
 by_cases h2:(belowD l (strD l c).1 14).2=2
 ·rw [if_neg h0,if_neg h1,if_pos h2]
  by_cases hle:(strD l c).2.ms.length≤1
  ·simp only [StO,drV_1 hle]
   refine FnP.of_body tabOk Tryz.func72 Tryz.ntmps72 rfl (by decide +kernel) (by simp) rfl rfl rfl fun G hp=>?_
   refine goR (r:=?_);and_intros<;>intros<;>try exact True.intro
   all_goals first|contradiction|omega|exact h.2.1|exact h.2.2|exact hs1.2.1|exact hs1.2.2|exact hkc.2.1|exact hkc.2.2|skip
   refine K.sl ?_
   refine subOwnEnd (len:=(strD l c).2.ms.length) tabOk rfl rfl rfl rfl rfl (by omega) hpos (by decide) ?_
   refine go (r:=?_);and_intros<;>intros<;>try exact True.intro
   all_goals first|contradiction|omega|skip
   exact FinG.oI [some 0,some 2,some 3] rfl (ResV.cell (ds:=[_,_,_,_,_,_,_]) rfl rfl rfl rfl rfl) (.agg (.keep rfl rfl rfl (.keep rfl rfl rfl (.keep rfl rfl rfl (.keep rfl rfl rfl (.keep rfl rfl rfl (.own rfl rfl rfl rfl (.keep rfl rfl rfl .nil))))))) .nil) (.obj rfl rfl rfl rfl rfl (.inr rfl) (.obj rfl rfl (still_ints _) rfl rfl (.inr rfl) (.obj rfl rfl (still_rows (fun _=>rfl) _) rfl rfl (.inr rfl) .nil))) rfl rfl
  ·simp only [StO,drV_2 hle]
   refine FnP.of_body tabOk Tryz.func72 Tryz.ntmps72 rfl (by decide +kernel) (by simp) rfl rfl rfl fun G hp=>?_
   refine goR (r:=?_);and_intros<;>intros<;>try exact True.intro
   all_goals first|contradiction|omega|exact h.2.1|exact h.2.2|exact hs1.2.1|exact hs1.2.2|exact hkc.2.1|exact hkc.2.2|skip
   refine K.sl ?_
   refine subOwnLo (j:=1) (off:=2) tabOk rfl rfl rfl rfl rfl rfl (by omega) rfl (by decide) ?_
   refine go (r:=?_);and_intros<;>intros<;>try exact True.intro
   all_goals first|contradiction|omega|skip
   exact FinG.oI [some 0,some 2,some 3] rfl (ResV.cell (ds:=[_,_,_,_,_,_,_]) rfl rfl rfl rfl rfl) (.agg (.keep rfl rfl rfl (.keep rfl rfl rfl (.keep rfl rfl rfl (.keep rfl rfl rfl (.keep rfl rfl rfl (.own rfl rfl rfl rfl (.own rfl rfl rfl rfl .nil))))))) .nil) (.obj rfl rfl rfl rfl rfl (.inr rfl) (.obj rfl rfl (still_ints _) rfl rfl (.inr rfl) (.obj rfl rfl (still_rows (fun _=>rfl) _) rfl rfl (.inr rfl) .nil))) rfl rfl
 rw [if_neg h0,if_neg h1,if_neg h2]
 simp only [StO,drV_0]
 refine FnP.of_body tabOk Tryz.func72 Tryz.ntmps72 rfl (by decide +kernel) (by simp) rfl rfl rfl fun G hp=>?_
 refine goR (r:=?_);and_intros<;>intros<;>try exact True.intro
 all_goals first|contradiction|omega|exact h.2.1|exact h.2.2|exact hs1.2.1|exact hs1.2.2|exact hkc.2.1|exact hkc.2.2|skip
 exact FinG.oI [some 0,some 2,some 3] rfl (ResV.cell (ds:=[_,_,_,_,_,_,_]) rfl rfl rfl rfl rfl) (.agg (.keep rfl rfl rfl (.keep rfl rfl rfl (.keep rfl rfl rfl (.keep rfl rfl rfl (.keep rfl rfl rfl (.own rfl rfl rfl rfl (.own rfl rfl rfl rfl .nil))))))) .nil) (.obj rfl rfl rfl rfl rfl (.inr rfl) (.obj rfl rfl (still_ints _) rfl rfl (.inr rfl) (.obj rfl rfl (still_rows (fun _=>rfl) _) rfl rfl (.inr rfl) .nil))) rfl rfl⟩
end Go.Proofs.YtndflfipaddfoaaGreat


namespace Go.Proofs.YtndflfipaddfoaaGreat
open Go Go.Abs
attribute [local irreducible] WpA WpL Rnd Blk Abs.Seq Abs.Fin Abs.FinG FnC FnG FnX FnP FinX Only
attribute [local irreducible] belowD onceD pickD modeD l8D l8AnyD optD anyD seedD headD headAnyD symL HasC blkD mbD mbAnyD
theorem mbAnyD_ok {l lens:List Int} {c:Cr} (h:CrOk l c):CrOk l (mbAnyD l lens c).1∧(mbAnyD l lens c).2.2.length≤4∧∀b∈(mbAnyD l lens c).2.2,b.2.length≤64:=by
 obtain ⟨hm1,hm2,hm3⟩:=mbD_ok (lens:=lens) h
 have hb:=(belowD_ok ((mbD l lens c).2.2.length:Int) hm1).1
 have hs:=(belowD_ok 14 hb).1
 have hp0:=(pickD_ok (xs:=anyM) hs (by decide)).1
 have hp1:=(pickD_ok (xs:=anyL) hs (by decide)).1
 have h4:(mbD l lens c).2.2.length≤4:=by cases hx:(mbD l lens c).2.1<;>rw [hx] at hm2<;>simp [nm8] at hm2<;>omega
 have h64:∀b∈(mbD l lens c).2.2,b.2.length≤64:=fun b hb=>by
  have:=hm3 b hb
  rcases sz8_48 (mbD l lens c).2.1 with e|e<;>rw [e] at this<;>omega
 have hd:∀i:Nat,((mbD l lens c).2.2.getD i default).2.length≤64:=fun i=>by
  rcases Nat.lt_or_ge i (mbD l lens c).2.2.length with hi|hi
  ·exact h64 _ (by rw [List.getD_eq_getElem?_getD,List.getElem?_eq_getElem hi];exact List.getElem_mem _)
  ·rw [List.getD_eq_getElem?_getD,List.getElem?_eq_none hi];exact Nat.zero_le _
 unfold mbAnyD
 split
 ·refine ⟨hp0,by simp only [List.length_set];exact h4,fun b hb=>?_⟩
  rcases List.mem_or_eq_of_mem_set hb with hb|hb
  ·exact h64 b hb
  ·rw [hb];exact hd _
 split
 ·refine ⟨hp1,by simp only [List.length_set];exact h4,fun b hb=>?_⟩
  rcases List.mem_or_eq_of_mem_set hb with hb|hb
  ·exact h64 b hb
  ·rw [hb];simp only [List.length_set];exact hd _
 split
 ·exact ⟨hs,h4,h64⟩
 split
 ·exact ⟨hs,by simp only [List.length_take];omega,fun b hb=>h64 b (List.mem_of_mem_take hb)⟩
 ·exact ⟨hs,h4,h64⟩
end Go.Proofs.YtndflfipaddfoaaGreat


namespace Go.Proofs.YtndflfipaddfoaaGreat
open Go Go.Abs
end Go.Proofs.YtndflfipaddfoaaGreat


namespace Go.Proofs.YtndflfipaddfoaaGreat
open Go Go.Abs
attribute [local irreducible] WpA WpL Rnd Blk Abs.Seq Abs.Fin Abs.FinG FnC FnG Only
end Go.Proofs.YtndflfipaddfoaaGreat


namespace Go.Proofs.YtndflfipaddfoaaGreat
open Go Go.Abs
attribute [local irreducible] WpA WpL Rnd Blk Abs.Seq Abs.Fin Abs.FinG FnC FnG Only
end Go.Proofs.YtndflfipaddfoaaGreat


namespace Go.Proofs.YtndflfipaddfoaaGreat
open Go Go.Abs
attribute [local irreducible] WpA WpL Rnd Blk Abs.Seq Abs.Fin Abs.FinG FnC FnG FnX FnP FinX Only
instance big_c:Con 24 (∀ l:List Int,l.length≤9223372036854775807→Fn 24 [CodA l] [] (B (decide ((l.length:Int)>1048576)))):=⟨fun l hl=>by
 refine FnC.of_body tabOk Tryz.func24 Tryz.ntmps24 rfl (by decide +kernel) (by simp) fun G=>?_
 refine go (r:=?_);and_intros<;>intros<;>try exact True.intro⟩
end Go.Proofs.YtndflfipaddfoaaGreat


namespace Go.Proofs.YtndflfipaddfoaaGreat
open Go Go.Abs
attribute [local irreducible] WpA WpL Rnd Blk Abs.Seq Abs.Fin Abs.FinG FnC FnG FnX FnP FinX Only
attribute [local irreducible] belowD onceD pickD modeD l8D l8AnyD optD anyD seedD headD headAnyD symL HasC blkD mbD mbAnyD strD anySD
abbrev StOz (s:Str8) (o:Bool):AV:=.agg [I s.hd.w,I s.hd.h,I s.hd.q,B s.hd.b,B s.hd.d,.own 0 0 0 s.hd.lens.length,drV 1 o s.ms.length]
def visM (x:Str8×Bool):List Mbk:=bif x.2 then x.1.ms.drop 1 else x.1.ms
theorem bw_sml {l:List Blok} (h:∀b∈l,b.2.length≤64):bw l≤65*l.length:=by
 induction l with
 |nil=>simp [bw_nil]
 |cons b l ih=>
  have h1:=h b (by simp)
  have h2:=ih fun x hx=>h x (by simp [hx])
  rw [bw_cons,List.length_cons];omega
theorem mw_sml {l:List Mbk} (h:∀m∈l,MbG m):mw l≤261*l.length:=by
 induction l with
 |nil=>simp [mw_nil]
 |cons m l ih=>
  have h1:=h m (by simp)
  have h2:=ih fun x hx=>h x (by simp [hx])
  have h3:=bw_sml h1.2
  have h4:=h1.1
  rw [mw_cons,List.length_cons];omega
theorem mw_seen {M:List Mbk} (h:∀m∈M,MbG m) (hl:M.length≤16):mw M≤1048576:=by
 have:=mw_sml h;omega
theorem anySD_ok {l:List Int} {c:Cr} (h:CrOk l c):CrOk l (anySD l c).1∧(anySD l c).2.1.hd.lens.length≤6∧(anySD l c).2.1.ms.length≤16∧(∀ m∈(anySD l c).2.1.ms,MbG m)∧
 ((anySD l c).2.2=true→0<(anySD l c).2.1.ms.length∧¬StOk (anySD l c).2.1.hd.w (anySD l c).2.1.hd.h (anySD l c).2.1.hd.q (anySD l c).2.1.hd.lens ((anySD l c).2.1.ms.drop 1)):=by
 have hs:=strD_ok h
 have hk:=belowD_ok 14 hs.1
 have hcm:=cntM_bd hs.2.2.1
 have h16:(strD l c).2.ms.length≤16:=by have:=hs.2.2.2.1;omega
 have h6:(strD l c).2.hd.lens.length≤6:=by have:=hs.2.1;omega
 have hpos:0<(strD l c).2.ms.length:=by
  have h8:=hs.2.2.1
  have hln:=hs.2.2.2.1
  have h9:=Int.mul_pos (show 0<(strD l c).2.hd.w/8 by omega) (show 0<(strD l c).2.hd.h/8 by omega)
  unfold cntM at hln
  omega
 unfold anySD
 split
 ·have ha:=headAnyD_ok hk.1
  exact ⟨ha.1,ha.2,h16,hs.2.2.2.2,fun hh=>by cases hh⟩
 split
 ·have hm:=mbAnyD_ok (lens:=(strD l c).2.hd.lens) hk.1
  refine ⟨hm.1,h6,by simp only [List.length_set];exact h16,fun m hm2=>?_,fun hh=>by cases hh⟩
  rcases List.mem_or_eq_of_mem_set hm2 with h1|h1
  ·exact hs.2.2.2.2 m h1
  ·rw [h1];exact hm.2
 split
 ·refine ⟨hk.1,h6,h16,hs.2.2.2.2,fun _=>⟨hpos,fun ho=>?_⟩⟩
  have h1:(((strD l c).2.ms.drop 1).length:Int)=cntM (strD l c).2.hd.w (strD l c).2.hd.h:=ho.2.1
  have h2:=hs.2.2.2.1
  simp only [List.length_drop] at h1
  omega
 ·exact ⟨hk.1,h6,h16,hs.2.2.2.2,fun hh=>by cases hh⟩
theorem any_i {f:Nat} {l:List Int} {s:Str8} {o:Bool} (hc:Fn f [CodA l] [XI s.hd.lens,MbO s.ms] (StOz s o)):Fn f [CodA l] [] (StA s.hd.w s.hd.h s.hd.q s.hd.b s.hd.d s.hd.lens (visM (s,o))):=by
 have hlen:∀m:List Mbk,m.length*2=(rows Abs.mbF m).length:=fun m=>(rows_len (f:=Abs.mbF) (k:=2) (fun _=>rfl) m).symm
 refine FnC.still hc (.agg (.keep rfl rfl (.keep rfl rfl (.keep rfl rfl (.keep rfl rfl (.keep rfl rfl (.own rfl rfl rfl (by simp) rfl (Snap.same rfl (still_ints _) (nofre_ints _)) ?_)))))) .nil)
 cases o with
 |false=>exact .own rfl rfl rfl (hlen _) rfl (Snap.rows snap_mb _) .nil
 |true=>
  by_cases hle:s.ms.length≤1
  ·rw [drV_1 hle]
   have e:s.ms.drop 1=[]:=List.drop_eq_nil_of_le hle
   show Snap _ _ [.imm 2 (s.ms.drop 1).length (rows mbI (s.ms.drop 1))]
   rw [e]
   exact .keep rfl rfl .nil
  ·rw [drV_2 hle]
   exact Snap.ownR1 rfl (fun _=>rfl) snap_mb (by simp) (by show _=(s.ms.drop 1).length;simp) .nil
theorem vis_ok {s:Str8} {o:Bool} (h16:s.ms.length≤16) (hmg:∀m∈s.ms,MbG m):(visM (s,o)).length≤16∧(∀ m∈visM (s,o),MbG m)∧mw (visM (s,o))≤1048576∧SmM 1099511627776 (visM (s,o)):=by
 have h1:(visM (s,o)).length≤16:=by
  cases o with
  |false=>exact h16
  |true=>show (s.ms.drop 1).length≤16;simp;omega
 have h2:∀m∈visM (s,o),MbG m:=by
  cases o with
  |false=>exact hmg
  |true=>exact fun m hm=>hmg m (List.mem_of_mem_drop hm)
 have h3:=mw_seen h2 h1
 exact ⟨h1,h2,h3,smM_of (by omega)⟩
end Go.Proofs.YtndflfipaddfoaaGreat


namespace Go.Proofs.YtndflfipaddfoaaGreat
open Go Go.Abs
attribute [local irreducible] WpA WpL Rnd Blk Abs.Seq Abs.Fin Abs.FinG FnC FnG FnX FnP FinX Only
attribute [local irreducible] belowD onceD pickD modeD l8D l8AnyD optD anyD seedD headD headAnyD symL HasC blkD mbD mbAnyD strD anySD
def atL (l:List Int) (i:Int):Int:=if i<l.length then l.getD i.toNat 0 else (i*37+l.length*11)%256
theorem atL_bd {l:List Int} (h:In l 0 255) (i:Int) (hi:0≤i):0≤atL l i∧atL l i≤255:=by
 unfold atL;split
 ·exact in_get h (k:=i.toNat) (by omega)
 ·omega
instance at_q:Con 98 (∀ (l:List Int) (i:Int),In l 0 255∧(0≤i∧i≤1048576)∧l.length≤1048576→Fn 98 [CodA l,I i] [] (I (atL l i))):=⟨fun l i hl=>by
 obtain ⟨h0,h1,h2⟩:=hl
 unfold atL
 by_cases hlt:i<l.length
 ·rw [if_pos hlt]
  have hg:=in_get h0 (k:=i.toNat) (by omega)
  have hw:IntKind.i64.wrap (l.getD i.toNat 0)=l.getD i.toNat 0:=wrap64 _ (by omega)
  refine FnC.of_body tabOk Tryz.func98 Tryz.ntmps98 rfl (by decide +kernel) (by simp) fun G=>?_
  refine go (r:=?_);and_intros<;>intros<;>try exact True.intro
  all_goals first|contradiction|omega|(rw [hw];done)
 ·rw [if_neg hlt]
  refine FnC.of_body tabOk Tryz.func98 Tryz.ntmps98 rfl (by decide +kernel) (by simp) fun G=>?_
  refine go (r:=?_);and_intros<;>intros<;>try exact True.intro
  all_goals first|contradiction|omega⟩
instance cutAt_q:Con 41 (∀ (l:List Int) (i n:Int),In l 0 255∧(0≤i∧i≤1048576)∧l.length≤1048576∧(0≤n∧n≤1048576)→Fn 41 [CodA l,I i,I n] [] (I (atL l i*(n+1)/256))):=⟨fun l i n hl=>by
 obtain ⟨h0,h1,h2,h3⟩:=hl
 have hb:=atL_bd h0 i h1.1
 have hm:0≤atL l i*(n+1)∧atL l i*(n+1)≤255*1048577:=⟨Int.mul_nonneg hb.1 (by omega),Int.mul_le_mul hb.2 (by omega) (by omega) (by omega)⟩
 have hq:=Int.tdiv_eq_ediv_of_nonneg (a:=atL l i*(n+1)) (b:=256) hm.1
 have hw:IntKind.i64.wrap (atL l i*(n+1))=atL l i*(n+1):=wrap64 _ (by omega)
 refine FnC.of_body tabOk Tryz.func41 Tryz.ntmps41 rfl (by decide +kernel) (by simp) fun G=>?_
 refine go (r:=?_);and_intros<;>intros<;>try exact True.intro⟩
theorem cut_bd {a n:Int} (h:0≤a∧a≤255) (hn:0≤n):0≤a*(n+1)/256∧a*(n+1)/256≤n:=by
 have h1:0≤a*(n+1):=Int.mul_nonneg h.1 (by omega)
 have h2:a*(n+1)≤255*(n+1):=Int.mul_le_mul_of_nonneg_right h.2 (by omega)
 omega
instance CutTo_c:Con 42 (∀ (p:List UInt8) (n:Int),p.length≤1099511627776∧(0≤n∧n≤p.length)→Fn 42 [Z p,I n] [] (.tup [Z (p.take n.toNat),B true])):=⟨fun p n hl=>by
 refine FnC.of_body tabOk Tryz.func42 Tryz.ntmps42 rfl (by decide +kernel) (by simp) fun G=>?_
 refine go (r:=?_);and_intros<;>intros<;>try exact True.intro
 all_goals first|contradiction|omega⟩
theorem DrawStreamOk_p (v:Value) (l:List Int) (hl:l.length≤1048576):FnP Tryz.prog 40 [.sc v] [] [v] [CodA l] [] [XI (anySD l (newD l)).2.1.hd.lens,MbO (anySD l (newD l)).2.1.ms] (StOz (anySD l (newD l)).2.1 (anySD l (newD l)).2.2):=by
 have hn:=newD_ok hl
 have hany:=l24Any_p.ok v l (newD l) hn
 generalize anySD l (newD l)=A at*
 obtain ⟨c0,s,o⟩:=A
 unfold Pn StO at hany
 unfold StOz
 dsimp only at hany ⊢
 have key:∀V2 V1,drV 2 o s.ms.length=V2→drV 1 o s.ms.length=V1→((V2=.own 2 0 0 s.ms.length∧V1=.own 1 0 0 s.ms.length)∨(V2=.own 2 0 2 (s.ms.length-1)∧V1=.own 1 0 2 (s.ms.length-1))∨(V2=.imm 2 ([]:List Mbk).length (rows mbI [])∧V1=.imm 2 ([]:List Mbk).length (rows mbI []))):=by
  rintro V2 V1 rfl rfl
  cases o with
  |false=>exact .inl ⟨rfl,rfl⟩
  |true=>
   by_cases hle:s.ms.length≤1
   ·rw [drV_1 hle,drV_1 hle];exact .inr (.inr ⟨rfl,rfl⟩)
   ·rw [drV_2 hle,drV_2 hle];exact .inr (.inl ⟨rfl,rfl⟩)
 generalize h2:drV 2 o s.ms.length=V2 at hany
 generalize h1:drV 1 o s.ms.length=V1
 have hk:=key V2 V1 h2 h1
 clear key h1 h2
 rcases hk with ⟨rfl,rfl⟩|⟨rfl,rfl⟩|⟨rfl,rfl⟩
 all_goals refine FnP.of_body tabOk Tryz.func40 Tryz.ntmps40 rfl (by decide +kernel) (by simp) rfl rfl rfl fun G hp=>?_
 all_goals refine goR (r:=?_);and_intros<;>intros<;>try exact True.intro
 all_goals
  refine K.call ?_
  refine WpL.callN (l1New_p v l hl) hp handA (.cons rfl (.sc (.sc (.sc .nil))) .nil) rfl rfl (by decide) ?_
  refine goR (r:=?_);and_intros<;>intros<;>try exact True.intro
  refine K.call ?_
  refine WpL.callP (hs:=[1]) hany (by assumption) handA handOA rfl rfl (.cons rfl (.sc (.sc (.sc .nil))) .nil) outA rfl rfl rfl rfl (by decide) ?_
  refine goR (r:=?_);and_intros<;>intros<;>try exact True.intro
  all_goals first|contradiction|omega|exact hn.2.1|exact hn.2.2|skip
  first
   |exact FinG.oI [some 2,some 3] rfl (ResV.cell (ds:=[_,_,_,_,_,_,_]) rfl rfl rfl rfl rfl) (.agg (.keep rfl rfl rfl (.keep rfl rfl rfl (.keep rfl rfl rfl (.keep rfl rfl rfl (.keep rfl rfl rfl (.own rfl rfl rfl rfl (.own rfl rfl rfl rfl .nil))))))) .nil) (.obj rfl rfl (still_ints _) rfl rfl (.inr rfl) (.obj rfl rfl (still_rows (fun _=>rfl) _) rfl rfl (.inr rfl) .nil)) rfl rfl
   |exact FinG.oI [some 2,some 3] rfl (ResV.cell (ds:=[_,_,_,_,_,_,_]) rfl rfl rfl rfl rfl) (.agg (.keep rfl rfl rfl (.keep rfl rfl rfl (.keep rfl rfl rfl (.keep rfl rfl rfl (.keep rfl rfl rfl (.own rfl rfl rfl rfl (.keep rfl rfl rfl .nil))))))) .nil) (.obj rfl rfl (still_ints _) rfl rfl (.inr rfl) (.obj rfl rfl (still_rows (fun _=>rfl) _) rfl rfl (.inr rfl) .nil)) rfl rfl
instance DrawStreamOk_c:Con 40 (∀ l:List Int,l.length≤1048576→Fn 40 [CodA l] [XI (anySD l (newD l)).2.1.hd.lens,MbO (anySD l (newD l)).2.1.ms] (StOz (anySD l (newD l)).2.1 (anySD l (newD l)).2.2)):=⟨fun l hl=>FnC.of_pin fun v=>DrawStreamOk_p v l hl⟩
theorem rows_mbC (M:List Mbk):M.length*2=(rows Abs.mbF M).length:=(rows_len (f:=Abs.mbF) (k:=2) (fun _=>rfl) M).symm
attribute [-instance] DrawStreamOk_c Parse_c
attribute [local irreducible] unpS prS decF atL
theorem FnCut_c (l:List Int) (hl:l.length≤9223372036854775807∧∀x∈l,0≤x∧x≤255):Fn 8 [CodA l] [] (B true):=by
 obtain ⟨hl,hin⟩:=hl
 have hin:In l 0 255:=by unfold In;exact hin
 by_cases hb:(l.length:Int)>1048576
 ·refine FnC.of_body tabOk Tryz.func8 Tryz.ntmps8 rfl (by decide +kernel) (by simp) fun G=>?_
  refine go (r:=?_);and_intros<;>intros<;>try exact True.intro
 ·have hl2:l.length≤1048576:=by omega
  obtain ⟨_,h6,h16,hmg,hdr⟩:=anySD_ok (newD_ok hl2)
  have hdc:=any_i (DrawStreamOk_c.ok l hl2)
  have hv:=vis_ok (o:=(anySD l (newD l)).2.2) h16 hmg
  refine FnC.of_body tabOk Tryz.func8 Tryz.ntmps8 rfl (by decide +kernel) (by simp) fun G=>?_
  generalize anySD l (newD l)=A at*
  obtain ⟨c0,⟨⟨w,h,q,b,d,L⟩,M0⟩,o⟩:=A
  simp only at h6 hdc hv
  clear h16 hmg hdr
  generalize visM ({hd:={w:=w,h:=h,q:=q,b:=b,d:=d,lens:=L},ms:=M0},o)=M at*
  obtain ⟨h16,hmg,hmw,hsm⟩:=hv
  have hu:=unpS_len w h q b d L M
  by_cases hok:StOk w h q L M
  ·have hd:=decide_eq_true hok
   by_cases hne:unpS w h q b d L M=[]
   ·refine goR (r:=?_);and_intros<;>intros<;>try exact True.intro
    all_goals first|contradiction|omega|skip
    refine K.call ?_
    apply WpL.callK hdc
    ·exact .keep rfl rfl .nil
    ·decide
    refine goR (r:=?_);and_intros<;>intros<;>try exact True.intro
    all_goals first|contradiction|omega|exact hsm|exact hin|skip
   ·have hpos:0<(unpS w h q b d L M).length:=List.length_pos_iff.2 hne
    have hbd:=cut_bd (atL_bd hin 0 (by decide)) (n:=((unpS w h q b d L M).length:Int)-1) (by omega)
    have hcu:=cut_unp (b:=b) (d:=d) (n:=(atL l 0*(((unpS w h q b d L M).length:Int)-1+1)/256).toNat) hok (by omega)
    have htl:((unpS w h q b d L M).take (atL l 0*(((unpS w h q b d L M).length:Int)-1+1)/256).toNat).length=(atL l 0*(((unpS w h q b d L M).length:Int)-1+1)/256).toNat:=by rw [List.length_take];omega
    have hpc:=Parse_c.ok ((unpS w h q b d L M).take (atL l 0*(((unpS w h q b d L M).length:Int)-1+1)/256).toNat) (by omega)
    have hfd:=FastDecode_c ((unpS w h q b d L M).take (atL l 0*(((unpS w h q b d L M).length:Int)-1+1)/256).toNat) (by omega)
    have hra:=(prS_cd ((unpS w h q b d L M).take (atL l 0*(((unpS w h q b d L M).length:Int)-1+1)/256).toNat)).2.1
    rw [decF_1 (by rw [hcu];decide),hcu] at hfd
    rw [hcu] at hpc
    refine goR (r:=?_);and_intros<;>intros<;>try exact True.intro
    all_goals first|contradiction|omega|skip
    refine K.call ?_
    apply WpL.callK hdc
    ·exact .keep rfl rfl .nil
    ·decide
    refine goR (r:=?_);and_intros<;>intros<;>try exact True.intro
    all_goals first|contradiction|omega|exact hsm|exact hin|skip
    refine K.call ?_
    apply WpL.callI hpc
    ·exact snapA
    ·exact locA
    ·exact outA
    ·exact FrzR.tup (.agg (.keep rfl rfl (.keep rfl rfl (.keep rfl rfl (.keep rfl rfl (.keep rfl rfl (.own rfl rfl rfl (by simp) rfl (Snap.same rfl (still_ints _) (nofre_ints _)) (.own rfl rfl rfl (rows_mbC _) rfl (Snap.rows snap_mb _) .nil))))))) (.keep rfl rfl (.keep rfl rfl .nil)))
    ·decide
    refine goR (r:=?_);and_intros<;>intros<;>try exact True.intro
    all_goals first|contradiction|omega|exact hsm|exact hin|skip
    refine K.call ?_
    apply WpL.callK hfd
    ·exact .keep rfl rfl .nil
    ·decide
    refine goR (r:=?_);and_intros<;>intros<;>try exact True.intro
    all_goals first|contradiction|omega|exact decide_eq_true (by omega)
  ·have hd:=decide_eq_false hok
   have hu0:unpS w h q b d L M=[]:=by unfold unpS;rw [if_neg hok]
   refine goR (r:=?_);and_intros<;>intros<;>try exact True.intro
   all_goals first|contradiction|omega|skip
   refine K.call ?_
   apply WpL.callK hdc
   ·exact .keep rfl rfl .nil
   ·decide
   refine goR (r:=?_);and_intros<;>intros<;>try exact True.intro
   all_goals first|contradiction|omega|exact hsm|exact hin|skip
end Go.Proofs.YtndflfipaddfoaaGreat


namespace Go.Abs
open Go Go.RowKit
theorem FnC.walk {P:Program} {f:FuncId} {args:List AV} {N:List AObj} {x:Value} (hc:FnC P f args N (.sc x)) {w:World} {S:Nat→Prop} {vs:List Value} (hS:∀b,S b→b<w.heap.size)
 (hl:LRel S w (fun _=>none) [] args vs []):Calls P f vs.toArray w fun e w'=>e=.returned x∧Below w.heap.size w w':=by
 refine (hc.2 w S vs hS hl).mono fun e w' h=>?_
 obtain ⟨v,S',ι,F,rfl,_,_,_,_,_,hv,hk⟩:=h
 cases hv with
 |sc r=>exact ⟨rfl,hk.os,hk.tape,hk.output,hk.size,fun b hb=>hk.block b hb (fun h=>h)⟩
theorem spot_none {w:World} {x:Addr} {n:Nat} (h:0<n) (hc:∀i,i<n→∃v,w.cell? (x.add i)=some v):x.spot=none:=by
 obtain ⟨v,hv⟩:=hc 0 h
 simpa [Addr.add] using World.cell?_spot hv
end Go.Abs


namespace Go.Abs
open Go Go.RowKit
inductive Sp where
 |int (k:IntKind)|bool|str|struct (fs:List Sp)|slice (k:Nat) (e:Sp)
mutual
inductive SpOk (P:Program):TypeId→Sp→Prop
 |int {t k}:P.underlying t=some (.int k)→SpOk P t (.int k)
 |bool {t}:P.underlying t=some .bool→SpOk P t .bool
 |str {t}:P.underlying t=some .string→SpOk P t .str
 |struct {t fs sps n}:P.underlying t=some (.struct fs)→P.cellsOf t=n→SpF P 0 fs.toList sps n→SpOk P t (.struct sps)
 |slice {t e k sp}:P.underlying t=some (.slice e)→P.cellsOf e=k→0<k→SpOk P e sp→SpOk P t (.slice k sp)
inductive SpF (P:Program):Nat→List Field→List Sp→Nat→Prop
 |nil {k}:SpF P k [] [] k
 |cons {k c f fs sp sps n}:f.offset=k→P.cellsOf f.type=c→SpOk P f.type sp→SpF P (k+c) fs sps n→SpF P k (f::fs) (sp::sps) n
end
mutual
inductive Rd:Sp→List AV→Prop
 |int {k n}:(Lit.int k n).wf=true→Rd (.int k) [.sc (.int k n)]
 |bool {b}:Rd .bool [.sc (.bool b)]
 |str {p:List UInt8}:p.length≤maxLen→Rd .str [.sc (.string ⟨p.toArray⟩)]
 |struct {sps cs}:RdF sps cs→Rd (.struct sps) cs
 |slice {sp len k cs}:len≤maxLen→RdN sp len k cs→Rd (.slice k sp) [.imm k len cs]
inductive RdF:List Sp→List AV→Prop
 |nil:RdF [] []
 |cons {sp sps a b}:Rd sp a→RdF sps b→RdF (sp::sps) (a++b)
inductive RdN:Sp→Nat→Nat→List AV→Prop
 |nil {sp k}:RdN sp 0 k []
 |snoc {sp n k a b}:RdN sp n k a→Rd sp b→b.length=k→RdN sp (n+1) k (a++b)
end
theorem RdN.len {sp n k cs} (h:RdN sp n k cs):cs.length=n*k:=by
 induction n generalizing cs with
 |zero=>cases h;simp
 |succ n ih=>cases h with|snoc h1 h2 h3=>rw [List.length_append,ih h1,h3,Nat.add_mul];omega
section
variable {H:Type} {enc:TypeId×Value→H} {P:Program} {w:World} {base:Nat} {spare:Nat→Bool} {held:Bool}
theorem read {S:Nat→Prop} {ι:Nat→Spot} (hS:∀b,b<w.heap.size→S b):∀(fuel:Nat) (t:TypeId) (sp:Sp) (cs:List Value) (x:DataW H×List MemPlace),SpOk P t sp→
 DataW.trod enc P w base spare held fuel t cs=some x→∃ds,Rd sp ds∧∀O,LRel S w ι O ds cs []:=by
 intro fuel
 induction fuel with
 |zero=>intro t sp cs x _ h;simp [DataW.trod] at h
 |succ fuel ih=>
  intro t sp cs x hsp h
  cases hsp with
  |int ht=>
   obtain ⟨n,rfl,_,hw⟩:=DataW.trod_int ht h
   exact ⟨_,.int hw,fun O=>.sc .nil⟩
  |bool ht=>
   obtain ⟨b,rfl,_⟩:=DataW.trod_bool ht h
   exact ⟨_,.bool,fun O=>.sc .nil⟩
  |str ht=>
   obtain ⟨s,rfl,_,hs⟩:=DataW.trod_string ht h
   exact ⟨[.sc (.string ⟨s.data.toList.toArray⟩)],.str (by have:s.data.toList.length=s.size:=rfl;omega),fun O=>.sc .nil⟩
  |@struct _ fs sps n ht hn hf=>
   obtain ⟨xs,m,hm,_,hlen,hxl,hel⟩:=DataW.trod_struct ht h
   obtain rfl:fuel=m:=by omega
   have key:∀(fl:List Field) (k:Nat) (sps:List Sp),SpF P k fl sps n→(∀ f∈fl,∃x,DataW.trod enc P w base spare held fuel f.type ((cs.drop f.offset).take (P.cellsOf f.type))=some x)→
    k≤n→∃ds,RdF sps ds∧∀O,LRel S w ι O ds (cs.drop k) []:=by
    intro fl
    induction fl with
    |nil=>
     intro k sps hF _ _
     cases hF
     exact ⟨[],.nil,fun O=>by rw [List.drop_eq_nil_of_le (by omega)];exact .nil⟩
    |cons f fl ihf=>
     intro k sps hF hx hk
     cases hF with
     |cons h1 h2 h3 h4=>
      obtain ⟨y,hy⟩:=hx f (by simp)
      obtain ⟨d1,r1,l1⟩:=ih _ _ _ _ h3 hy
      have hkn:∀{k fl sps},SpF P k fl sps n→k≤n:=by
       intro k fl
       induction fl generalizing k with
       |nil=>intro sps h;cases h;exact Nat.le_refl _
       |cons f fl ih2=>intro sps h;cases h with|cons _ _ _ h=>have:=ih2 h;omega
      obtain ⟨d2,r2,l2⟩:=ihf _ _ h4 (fun g hg=>hx g (by simp [hg])) (hkn h4)
      refine ⟨d1++d2,.cons r1 r2,fun O=>?_⟩
      have e:cs.drop k=(cs.drop f.offset).take (P.cellsOf f.type)++cs.drop (k+P.cellsOf f.type):=by
       rw [h1,←List.drop_drop,List.take_append_drop]
      rw [e,h2]
      rw [h2] at l1
      simpa using (l1 O).append (l2 O)
   obtain ⟨ds,r,l⟩:=key fs.toList 0 sps hf (fun f hf'=>by
    obtain ⟨i,hi⟩:=List.getElem?_of_mem hf'
    have hi':fs[i]?=some f:=by simpa using hi
    have:=hel i f hi'
    have hlt:i<xs.length:=by have:=(Array.getElem?_eq_some_iff.1 hi').1;omega
    exact ⟨xs[i],by rw [this];simp [hlt]⟩) (Nat.zero_le _)
   exact ⟨ds,.struct r,fun O=>by simpa using l O⟩
  |@slice _ e k sp ht hk hk0 he=>
   rcases DataW.trod_slice ht h with ⟨rfl,_⟩|⟨a,len,cap,elems,rest,m,hm,rfl,_,hb,hl,hc,hlen,hel,_,_⟩
   ·exact ⟨[.imm k 0 []],.slice (by simp) .nil,fun O=>.imm0 (by simp) .nil⟩
   obtain rfl:fuel=m:=by omega
   have cells:∀j,j≤len→∃ds us,RdN sp j k ds∧us.length=j*k∧(∀ i,i<us.length→w.cell? (a.add i)=us[i]?)∧LRel S w ι [] ds us []:=by
    intro j
    induction j with
    |zero=>intro _;exact ⟨[],[],.nil,by simp,by simp,.nil⟩
    |succ j ihj=>
     intro hj
     obtain ⟨ds,us,h1,h2,h3,h4⟩:=ihj (by omega)
     have hx:=hel j (by omega)
     have hlt:j<elems.length:=by omega
     rw [List.getElem?_eq_getElem hlt,Option.bind_eq_some_iff,hk] at hx
     obtain ⟨us2,hu,ht2⟩:=hx
     obtain ⟨d2,r2,l2⟩:=ih _ _ _ _ he ht2
     obtain ⟨_,c2,c3⟩:=World.cells?_some hu
     have l2':=l2 []
     have hd2:d2.length=k:=by rw [l2'.len,c2]
     refine ⟨ds++d2,us++us2,.snoc h1 r2 hd2,by rw [List.length_append,h2,c2,Nat.add_mul];omega,fun i hi=>?_,by simpa using h4.append l2'⟩
     rw [List.length_append] at hi
     by_cases hlt2:i<us.length
     ·rw [h3 i hlt2,List.getElem?_append_left hlt2]
     ·have hadd:a.add i=(a.add (j*k)).add (i-j*k):=by
       unfold Addr.add
       by_cases hz:j*k=0
       ·simp [hz]
       ·by_cases hz2:i-j*k=0
        ·have:i=j*k:=by omega
         simp [this]
        ·rw [if_neg (by omega),if_neg hz,if_neg hz2]
         simp only [Addr.mk.injEq,true_and,and_true]
         omega
      rw [hadd,c3 (i-j*k) (by omega),List.getElem?_append_right (by omega),h2]
   obtain ⟨ds,us,h1,h2,h3,h4⟩:=cells len (Nat.le_refl _)
   refine ⟨[.imm k len ds],.slice (by omega) h1,fun O=>?_⟩
   by_cases h0:len=0
   ·subst h0
    cases h1
    exact .imm0 ⟨by simp,hc⟩ .nil
   ·have hul:0<us.length:=by rw [h2];exact Nat.mul_pos (by omega) hk0
    have hsp:=spot_none (w:=w) (x:=a) (n:=us.length) hul fun i hi=>⟨us[i],by rw [h3 i hi];simp [hi]⟩
    obtain ⟨b,o,q⟩:=a
    simp only at hsp
    subst hsp
    have hcell:∀i,i<us.length→w.cell? ⟨b,o+i,none⟩=us[i]?:=fun i hi=>by have:=h3 i hi;rwa [addr_add] at this
    refine .imm (us:=us) (hS _ ?_) hcell h4 (by rw [h1.len]) hl hc .nil
    by_cases hb':b<w.heap.size
    ·exact hb'
    ·have:=hcell 0 hul
     simp [World.cell?,Array.getElem?_eq_none (Nat.le_of_not_lt hb'),hul] at this
end
end Go.Abs


namespace Go.Abs
open Go Go.RowKit
abbrev i64 (n:Int):Prop:=-9223372036854775808≤n∧n≤9223372036854775807
theorem lrel_cons0 {S:Nat→Prop} {w:World} {ι:Nat→Spot} {O:List AObj} {V:AV} {v:Value} {cs:List AV} {vs:List Value} (h1:VRel S w ι O V v []) (h2:LRel S w ι O cs vs []):LRel S w ι O (V::cs) (v::vs) []:=LRel.cons h1 h2
end Go.Abs


namespace Go.Proofs.YtndflfipaddfoaaGreat
open Go Go.Abs Go.RowKit
theorem rdN_u8s {n:Nat} {cs:List AV} (h:RdN (.int .u8) n 1 cs):∃xs:List Int,cs=u8s xs∧xs.length=n∧∀x∈xs,0≤x∧x≤255:=by
 induction n generalizing cs with
 |zero=>cases h;exact ⟨[],rfl,rfl,by simp⟩
 |succ n ih=>
  cases h with
  |snoc h1 h2 h3=>
   obtain ⟨xs,rfl,h5,h6⟩:=ih h1
   cases h2 with
   |@int k m hw=>
    refine ⟨xs++[m],by simp [u8s],by simp [h5],fun x hx=>?_⟩
    rcases List.mem_append.1 hx with hx|hx
    ·exact h6 x hx
    ·have:x=m:=by simpa using hx
     subst this
     simpa [Lit.wf,show IntKind.u8.min=0 from rfl,show IntKind.u8.max=255 from rfl] using hw
theorem rd_u8s {ds:List AV} (h:Rd (.slice 1 (.int .u8)) ds):∃xs:List Int,ds=[.imm 1 xs.length (u8s xs)]∧xs.length≤9223372036854775807∧∀x∈xs,0≤x∧x≤255:=by
 cases h with
 |slice hl hn=>
  obtain ⟨xs,rfl,h1,h2⟩:=rdN_u8s hn
  subst h1
  exact ⟨xs,rfl,by simp only [maxLen] at hl;omega,h2⟩
end Go.Proofs.YtndflfipaddfoaaGreat
