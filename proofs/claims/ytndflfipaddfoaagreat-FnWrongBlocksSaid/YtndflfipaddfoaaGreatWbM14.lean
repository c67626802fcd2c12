/- Proved in this text: lemmas and contracts of functions that the claim uses (parts: RdT, Cache, WbC, AbsAz, Ent, UeT, UeT2, DrR, Dst, RdB, RdW, RdHs, RdP, ParL, Dtx, AbsPc). No condition. -/
import Derived.Test.YtndflfipaddfoaaGreatWbM13
import Derived.Test.YtndflfipaddfoaaGreatWbM10
import Derived.Lib.AppendZeros
import Derived.Test.YtndflfipaddfoaaGreatWbM11
import Derived.Test.YtndflfipaddfoaaGreatWbM12
import Derived.Test.YtndflfipaddfoaaGreatWbM6
import Derived.Test.YtndflfipaddfoaaGreatWbM9
import Derived.Test.YtndflfipaddfoaaGreatWbM5
set_option linter.unusedVariables false
set_option linter.unusedSimpArgs false
set_option maxRecDepth 100000
set_option maxHeartbeats 4000000


namespace Go.Proofs.YtndflfipaddfoaaGreat
open Go Go.Abs
theorem rbA_ok {p:List UInt8} {s n:Int} (h:RdOk p s):RdOk p (rbA p s n):=by
 by_cases ho:RbOk p s n
 ·rw [(rb_yes ho).1]
  have h1:=lft_ok h
  have h2:=ho.2.2
  have h3:=ho.2.1
  have h4:=h.1
  constructor<;>omega
 ·rw [(rb_no ho).1];exact h
theorem ueA_ok {p:List UInt8} {s:Int} (h:RdOk p s):RdOk p (ueA p s):=by
 unfold ueA;split
 ·exact rbA_ok h
 ·exact h
theorem fuA_ok {p:List UInt8} {s c:Int} {k:Int→Int} (h:RdOk p s):RdOk p (fuA p s c k):=by
 unfold fuA;split
 ·exact ueA_ok h
 ·exact h
theorem fbA_ok {p:List UInt8} {s c n:Int} {k:Int→Int} (h:RdOk p s):RdOk p (fbA p s c n k):=by
 unfold fbA;split
 ·exact rbA_ok h
 ·exact h
theorem smA_ok {p:List UInt8} {s:Int} {l:List Int} (h:RdOk p s):RdOk p (smA p s l):=by
 by_cases hc:smC p s l=0
 ·rw [smA,if_pos hc]
  have hm:symM p s l<6:=by
   unfold smC at hc
   split at hc
   ·split at hc
    ·assumption
    ·exact absurd hc (by decide)
   ·exact absurd hc (by decide)
  have h0:=symM_lt hm
  have h1:=lft_ok h
  have h2:=h0.2.1.2.2
  have h3:=h0.1
  have h4:=h.1
  constructor<;>omega
 ·rw [smA,if_neg hc];exact h
theorem lvStep_ok {p:List UInt8} {nn:Int} {x:LvS} (h:RdOk p x.a):RdOk p (lvStep p nn x).a:=by
 unfold lvStep;split
 ·simp only;split<;>exact fuA_ok (fuA_ok h)
 ·exact h
theorem lvRun_ok {p:List UInt8} {nn:Int} {x:LvS} (h:RdOk p x.a):∀k,RdOk p (lvRun p nn x k).a
 |0=>h
 |k+1=>by rw [lvRun];exact lvStep_ok (lvRun_ok h k)
theorem lvS_ok {p:List UInt8} {s n:Int} (h:RdOk p s):RdOk p (lvS p s n).a:=by
 unfold lvS;simp only;split
 ·exact fbA_ok h
 ·exact lvRun_ok (x:=⟨_,_,_,_⟩) (fuA_ok (fbA_ok h)) _
theorem blS_ok {p:List UInt8} {s:Int} {lens:List Int} {n:Int} (h:RdOk p s):RdOk p (blS p s lens n).a:=by
 unfold blS;split
 ·split
  ·simp only;split<;>exact lvS_ok (smA_ok h)
  ·exact h
 ·exact h
theorem mbRun_ok {p:List UInt8} {s:Int} {lens:List Int} {n:Int} (h:RdOk p s):∀k,RdOk p (mbRun p s lens n k).a
 |0=>h
 |k+1=>by
  have ih:=mbRun_ok (lens:=lens) (n:=n) h k
  rw [mbRun];simp only;split
  ·split<;>exact blS_ok ih
  ·exact ih
theorem mbS_ok {p:List UInt8} {s:Int} {lens:List Int} (h:RdOk p s):RdOk p (mbS p s lens).1.a:=by
 unfold mbS;split
 ·rename_i ho
  have:RdOk p (s+1):=by have:=rbA_ok (n:=1) h;rwa [(rb_yes ho).1] at this
  exact mbRun_ok this _
 ·exact h
theorem mbRun_sm {p:List UInt8} {s:Int} {lens:List Int} {n:Int}:∀k,∀b∈(mbRun p s lens n k).bs,b.2.length≤64
 |0,b,hb=>by simp [mbRun] at hb
 |k+1,b,hb=>by
  have ih:=mbRun_sm (p:=p) (s:=s) (lens:=lens) (n:=n) k
  rw [mbRun] at hb;simp only at hb
  split at hb
  ·split at hb
   ·simp at hb
    rcases hb with hb|hb
    ·exact ih b hb
    ·rw [hb];exact blS_len _ _ _ _
   ·simp at hb
  ·exact ih b hb
theorem mbRun_le {p:List UInt8} {s:Int} {lens:List Int} {n:Int}:∀k,(mbRun p s lens n k).bs.length≤k
 |0=>by simp [mbRun]
 |k+1=>by
  have ih:=mbRun_le (p:=p) (s:=s) (lens:=lens) (n:=n) k
  rw [mbRun];simp only
  split
  ·split
   ·simp;exact ih
   ·simp
  ·omega
theorem mbS_sm {p:List UInt8} {s:Int} {lens:List Int}:(mbS p s lens).1.bs.length≤4∧∀b∈(mbS p s lens).1.bs,b.2.length≤64:=by
 unfold mbS;split
 ·refine ⟨Nat.le_trans (mbRun_le _) ?_,mbRun_sm _⟩
  cases decide (rbV p s 1=1)<;>decide
 ·simp
structure PrS where
 W:Int
 H:Int
 Q:Int
 B:Bool
 D:Bool
 L:List Int
 ms:List Mbk
 a:Int
 c:Int
def prS (p:List UInt8):PrS:=
 let x:=hdS p 0
 if x.c=0 then
  let y:=stRun p x.a x.L (cntM x.W x.H).toNat
  if y.c=0 then
   if endC p y.a=0 then ⟨x.W,x.H,x.Q,x.B,x.D,x.L,y.ms,y.a,0⟩ else ⟨0,0,0,false,false,[],[],y.a,endC p y.a⟩
  else ⟨0,0,0,false,false,[],[],y.a,y.c⟩
 else ⟨0,0,0,false,false,[],[],x.a,x.c⟩
end Go.Proofs.YtndflfipaddfoaaGreat


namespace Go.Proofs.YtndflfipaddfoaaGreat
open Go Go.Abs
attribute [local irreducible] WpA WpL Rnd Blk Abs.Seq Abs.Fin Abs.FinG FnC FnG Only
abbrev CA (p:List UInt8) (s w h:Int):AV:=.agg [Z p,I s,I w,I h]
theorem numB_suc (p:List UInt8) (s:Int) (k:Nat):numB p s (k+1)=numB p s k*2+bv p (s+k):=rfl
abbrev CaOk (p:List UInt8) (s w h:Int):Prop:=(0≤s∧s≤p.length)∧(0≤h∧h≤56∧h≤8*s)∧w=numB p (8*s-h) h.toNat
instance CacheOk_c:Con 119 (∀ (p:List UInt8) (s w h:Int),p.length≤1099511627776→Fn 119 [CA p s w h] [] (B (decide (CaOk p s w h)))):=⟨fun p s w h hl=>by
 refine FnC.of_body tabOk Tryz.func119 Tryz.ntmps119 rfl (by decide +kernel) (by simp) fun G=>?_
 refine go (r:=?_);and_intros<;>intros<;>try exact True.intro
 all_goals first|(simp_all;done)|(rw [Bool.eq_iff_iff];simp;omega)⟩
instance CacheOk_s:Con 132 (∀ (p:List UInt8) (s w h:Int),p.length≤1099511627776→Fn 132 [CA p s w h] [] (B (decide (CaOk p s w h)))):=⟨fun p s w h hl=>by
 refine FnC.of_body tabOk Tryz.func132 Tryz.ntmps132 rfl (by decide +kernel) (by simp) fun G=>?_
 refine go (r:=?_);and_intros<;>intros<;>try exact True.intro
 ·refine WpA.loop (fun k:Nat=>⟨[(1,.ptr 0 0 0),(3,I (numB p (8*s-h) k)),(4,I (8*s-h+k))],[⟨[Z p,I s,I w,I h],0,0,none⟩]⟩) (fun k=>(k:Int)≤h) (fun k=>h.toNat-k) 0 (by omega) (go (r:=?_)) (fun k hk=>?_)
  ·and_intros<;>first|exact True.intro|rfl|simp
  have hb:=numB_bd p (8*s-h) k
  have hb2:=numB_le p (8*s-h) (k:=k) (j:=56) (by omega)
  have hst:=numB_suc p (8*s-h) k
  have hbt:=btA_out p (8*s-h+k)
  have hbd:=btA_bd p (8*s-h+k)
  have hbv:(k:Int)<h→bv p (8*s-h+k)=btA p (8*s-h+k):=fun h1=>by unfold bv;omega
  refine go (r:=?_);and_intros<;>intros<;>try exact True.intro
  all_goals first|omega|(rw [hst,hbv (by omega)];done)|((have e:h.toNat=k:=by omega);rw [Bool.eq_iff_iff,decide_eq_true_eq,decide_eq_true_eq,CaOk,e];constructor;(intro hh;exact ⟨by omega,by omega,hh⟩);(intro hh;exact hh.2.2))
 all_goals first|(simp_all;done)|(symm;rw [decide_eq_false_iff_not];omega)⟩
def plA (p:List UInt8) (s w h:Int):Int:=if CaOk p s w h then 8*s-h else -1
instance PlaceIn_c:Con 61 (∀ (p:List UInt8) (s w h:Int),p.length≤1099511627776→Fn 61 [CA p s w h] [] (I (plA p s w h))):=⟨fun p s w h hl=>by
 unfold plA
 refine FnC.of_body tabOk Tryz.func61 Tryz.ntmps61 rfl (by decide +kernel) (by simp) fun G=>?_
 by_cases hc:CaOk p s w h
 ·rw [if_pos hc]
  refine go (r:=?_);and_intros<;>intros<;>try exact True.intro
  all_goals first|contradiction|omega
 ·rw [if_neg hc]
  refine go (r:=?_);and_intros<;>intros<;>try exact True.intro
  all_goals first|contradiction|omega⟩
instance PlaceIn_s:Con 220 (∀ (p:List UInt8) (s w h:Int),p.length≤1099511627776→Fn 220 [CA p s w h] [] (I (plA p s w h))):=⟨fun p s w h hl=>by
 unfold plA
 refine FnC.of_body tabOk Tryz.func220 Tryz.ntmps220 rfl (by decide +kernel) (by simp) fun G=>?_
 by_cases hc:CaOk p s w h
 ·rw [if_pos hc]
  refine go (r:=?_);and_intros<;>intros<;>try exact True.intro
  all_goals first|contradiction|omega
 ·rw [if_neg hc]
  refine go (r:=?_);and_intros<;>intros<;>try exact True.intro
  all_goals first|contradiction|omega⟩
abbrev SetV (p:List UInt8) (s:Int):AV:=CA p ((s+7)/8) (numB p s (8*((s+7)/8)-s).toNat) (8*((s+7)/8)-s)
instance settledAt_c:Con 121 (∀ (p:List UInt8) (s:Int),p.length≤1099511627776∧RdOk p s→Fn 121 [Z p,I s] [] (SetV p s)):=⟨fun p s hl=>by
 refine FnC.of_body tabOk Tryz.func121 Tryz.ntmps121 rfl (by decide +kernel) (by simp) fun G=>?_
 refine go (r:=?_);and_intros<;>intros<;>try exact True.intro
 all_goals first|omega⟩
instance l7At_s:Con 221 (∀ (p:List UInt8) (s:Int),p.length≤1099511627776∧RdOk p s→Fn 221 [Z p,I s] [] (SetV p s)):=⟨fun p s hl=>by
 have h0:=hl.2.1
 have h1:=hl.2.2
 refine FnC.of_body tabOk Tryz.func221 Tryz.ntmps221 rfl (by decide +kernel) (by simp) fun G=>?_
 refine go (r:=?_);and_intros<;>intros<;>try exact True.intro
 refine WpA.loop (fun k:Nat=>⟨[(0,Z p),(4,.ptr 0 0 0),(5,.ptr 1 0 0),(6,I (s+k))],[⟨[Z [],I 0,I 0,I 0],0,0,none⟩,⟨[Z p,I ((s+7)/8),I (numB p s k),I (8*((s+7)/8)-s)],0,0,none⟩]⟩) (fun k=>(k:Int)≤8*((s+7)/8)-s) (fun k=>(8*((s+7)/8)-s).toNat-k) 0 (by omega) (go (r:=?_)) (fun k hk=>?_)
 ·and_intros<;>first|exact True.intro|rfl|simp
 have hb:=numB_bd p s k
 have hb2:=numB_le p s (k:=k) (j:=56) (by omega)
 have hst:=numB_suc p s k
 have hbt:=btA_out p (s+k)
 have hbd:=btA_bd p (s+k)
 have hbv:(k:Int)<8*((s+7)/8)-s→bv p (s+k)=btA p (s+k):=fun h1=>by unfold bv;omega
 refine go (r:=?_);and_intros<;>intros<;>try exact True.intro
 all_goals first|omega|(rw [hst,hbv (by omega)];done)|((have e:(8*((s+7)/8)-s).toNat=k:=by omega);rw [e])⟩
instance l26Back_s:Con 137 (∀ (p:List UInt8) (s:Int),p.length≤1099511627776∧RdOk p s→Fn 137 [RA p s] [] (SetV p s)):=⟨fun p s hl=>by
 refine FnC.of_body tabOk Tryz.func137 Tryz.ntmps137 rfl (by decide +kernel) (by simp) fun G=>?_
 refine go (r:=?_);and_intros<;>intros<;>try exact True.intro
 all_goals first|exact hl.2|omega⟩
instance l7Reader_s:Con 136 (∀ (p:List UInt8) (s w h:Int),p.length≤1099511627776→Fn 136 [CA p s w h] [] (RA p (plA p s w h))):=⟨fun p s w h hl=>by
 refine FnC.of_body tabOk Tryz.func136 Tryz.ntmps136 rfl (by decide +kernel) (by simp) fun G=>?_
 refine go (r:=?_);and_intros<;>intros<;>try exact True.intro
 all_goals first|omega⟩
end Go.Proofs.YtndflfipaddfoaaGreat


namespace Go.Proofs.YtndflfipaddfoaaGreat
open Go Go.Abs
attribute [local irreducible] WpA WpL Rnd Blk Abs.Seq Abs.Fin Abs.FinG FnC FnG Only
def wN (p:List UInt8) (w s:Int):Nat→Int
 |0=>w
 |k+1=>wN p w s k*256+((p.getD (s+k).toNat 0).toNat:Int)
theorem wN_bd (p:List UInt8) (w s:Int) (h:Nat) (hw:0≤w∧w<2 ^ h):∀k,0≤wN p w s k∧wN p w s k<2 ^ (h+8*k)
 |0=>hw
 |k+1=>by
  have ih:=wN_bd p w s h hw k
  have hb:=(p.getD (s+k).toNat 0).toNat_lt
  have e:(2:Int) ^ (h+8*(k+1))=2 ^ (h+8*k)*256:=by rw [show h+8*(k+1)=(h+8*k)+8 by omega,Int.pow_add];rfl
  rw [e,wN]
  omega
theorem wN_0 (p:List UInt8) (w s:Int):wN p w s 0=w:=rfl
theorem wN_s (p:List UInt8) (w s:Int) (k:Nat):wN p w s (k+1)=wN p w s k*256+((p.getD (s+k).toNat 0).toNat:Int):=rfl
def rfK (p:List UInt8) (s h:Int):Nat:=min ((56-h)/8).toNat (p.length-s.toNat)
structure Ca3 where
 s:Int
 w:Int
 h:Int
def rfS (p:List UInt8) (s w h:Int):Ca3:=if CaOk p s w h then ⟨s+rfK p s h,wN p w s (rfK p s h),h+8*rfK p s h⟩ else ⟨s,w,h⟩
theorem rfS_no {p:List UInt8} {s w h:Int} (hf:¬CaOk p s w h):rfS p s w h=⟨s,w,h⟩:=if_neg hf
theorem rfS_yes {p:List UInt8} {s w h:Int} (hf:CaOk p s w h):rfS p s w h=⟨s+rfK p s h,wN p w s (rfK p s h),h+8*rfK p s h⟩:=if_pos hf
theorem rf_end {p:List UInt8} {s h:Int} {k:Nat} (hs:0≤s∧s≤p.length) (hh:0≤h∧h≤56) (h1:s+k≤p.length∧h+8*k≤56) (he:48<h+8*k∨(p.length:Int)≤s+k):rfK p s h=k:=by
 unfold rfK;omega
theorem pow_bd (a:Int) (h:Int) (k:Nat) (hw:0≤a∧a<2 ^ (h.toNat+8*k)) (hh:0≤h) (h8:h+8*k≤48):a<281474976710656:=by
 have:(2:Int) ^ (h.toNat+8*k)≤2 ^ 48:=by
  have:=Nat.pow_le_pow_right (n:=2) (by decide) (show h.toNat+8*k≤48 by omega)
  exact_mod_cast this
 omega
instance CacheNew_s:Con 210 (∀ p:List UInt8,p.length≤1099511627776→Fn 210 [Z p] [] (CA p 0 0 0)):=⟨fun p hl=>by
 refine FnC.of_body tabOk Tryz.func210 Tryz.ntmps210 rfl (by decide +kernel) (by simp) fun G=>?_
 refine go (r:=?_);and_intros<;>intros<;>try exact True.intro
 all_goals trace_state⟩
section
attribute [local irreducible] wN numB
instance Refill_s:Con 212 (∀ (p:List UInt8) (s w h:Int),p.length≤1099511627776→Fn 212 [CA p s w h] [] (CA p (rfS p s w h).s (rfS p s w h).w (rfS p s w h).h)):=⟨fun p s w h hl=>by
 by_cases hf:CaOk p s w h
 ·rw [rfS_yes hf]
  have hd:=decide_eq_true hf
  have hs:=hf.1
  have hh:=hf.2.1
  have hw:0≤w∧w<2 ^ h.toNat:=by rw [hf.2.2];exact numB_bd p _ _
  have hbd:=wN_bd p w s h.toNat hw
  have hst:∀k,wN p w s (k+1)=wN p w s k*256+((p.getD (s+k).toNat 0).toNat:Int):=fun k=>wN_s p w s k
  have h0:=wN_0 p w s
  have hen:=fun k=>rf_end (p:=p) (s:=s) (h:=h) (k:=k) hs ⟨hh.1,hh.2.1⟩
  generalize rfK p s h=kk at*
  refine FnC.of_body tabOk Tryz.func212 Tryz.ntmps212 rfl (by decide +kernel) (by simp) fun G=>?_
  refine go (r:=?_);and_intros<;>intros<;>try exact True.intro
  all_goals first|contradiction|skip
  refine WpA.loop (fun k:Nat=>⟨[(1,.ptr 0 0 0),(2,.ptr 1 0 0)],[⟨[Z p,I (s+k),I (wN p w s k),I (h+8*k)],0,0,none⟩,⟨[Z [],I 0,I 0,I 0],0,0,none⟩]⟩) (fun k=>s+k≤p.length∧h+8*k≤56) (fun k=>8-k) 0 (by omega) (go (r:=?_)) (fun k hk=>?_)
  ·and_intros<;>first|exact True.intro|rfl|exact h0|(rw [h0];done)|(simp;done)
  have hbk:=hbd k
  have hsk:=hst k
  have hub:=(p.getD (s+k).toNat 0).toNat_lt
  have hp48:=pow_bd (wN p w s k) h k hbk hh.1
  refine go (r:=?_);and_intros<;>intros<;>try exact True.intro
  all_goals first|contradiction|omega|(have e:=hen k hk (by omega);rw [e];done)
 ·rw [rfS_no hf]
  have hd:=decide_eq_false hf
  refine FnC.of_body tabOk Tryz.func212 Tryz.ntmps212 rfl (by decide +kernel) (by simp) fun G=>?_
  refine go (r:=?_);and_intros<;>intros<;>try exact True.intro
  all_goals first|contradiction⟩
theorem rf_ok {p:List UInt8} {s w h:Int} (hf:CaOk p s w h):0≤(rfS p s w h).h∧(rfS p s w h).h≤56:=by
 rw [rfS_yes hf]
 have:=hf.2.1
 have:=hf.1
 show 0≤h+8*(rfK p s h:Int)∧h+8*(rfK p s h:Int)≤56
 unfold rfK
 omega
def cutW (w h:Int):Int:=IntKind.i64.wrap (BitVec.ofInt IntKind.i64.bits w &&& BitVec.ofInt IntKind.i64.bits (IntKind.i64.wrap (IntKind.i64.wrap (1*2 ^ h.toNat)-1))).toNat
structure Ca4 where
 s:Int
 w:Int
 h:Int
 b:Bool
def skS (p:List UInt8) (s w h n:Int):Ca4:=
 if CaOk p s w h∧0≤n∧n≤16 then
  if h<n then
   if (rfS p s w h).h<n then ⟨(rfS p s w h).s,(rfS p s w h).w,(rfS p s w h).h,false⟩ else ⟨(rfS p s w h).s,cutW (rfS p s w h).w ((rfS p s w h).h-n),(rfS p s w h).h-n,true⟩
  else ⟨s,cutW w (h-n),h-n,true⟩
 else ⟨s,w,h,false⟩
theorem pow_h {h:Int} (h0:0≤h∧h≤56):1≤(2:Int) ^ h.toNat∧(2:Int) ^ h.toNat≤72057594037927936:=by
 have h1:=Nat.pow_le_pow_right (n:=2) (by decide) (show h.toNat≤56 by omega)
 have h2:=Nat.pow_pos (a:=2) (n:=h.toNat) (by decide)
 constructor
 ·exact_mod_cast h2
 ·rw [show (72057594037927936:Int)=2 ^ 56 by decide];exact_mod_cast h1
section
attribute [local irreducible] rfS
instance Skip_s:Con 211 (∀ (p:List UInt8) (s w h n:Int),p.length≤1099511627776→Fn 211 [CA p s w h,I n] [] (.tup [CA p (skS p s w h n).s (skS p s w h n).w (skS p s w h n).h,B (skS p s w h n).b])):=⟨fun p s w h n hl=>by
 by_cases hf:CaOk p s w h∧0≤n∧n≤16
 ·have e0:skS p s w h n=if h<n then
   if (rfS p s w h).h<n then ⟨(rfS p s w h).s,(rfS p s w h).w,(rfS p s w h).h,false⟩ else ⟨(rfS p s w h).s,cutW (rfS p s w h).w ((rfS p s w h).h-n),(rfS p s w h).h-n,true⟩
   else ⟨s,cutW w (h-n),h-n,true⟩:=if_pos hf
  have hd:=decide_eq_true hf.1
  have hr:=rf_ok hf.1
  have hh:=hf.1.2.1
  by_cases h1:h<n
  ·rw [if_pos h1] at e0
   by_cases h2:(rfS p s w h).h<n
   ·rw [if_pos h2] at e0
    rw [e0]
    refine FnC.of_body tabOk Tryz.func211 Tryz.ntmps211 rfl (by decide +kernel) (by simp) fun G=>?_
    refine go (r:=?_);and_intros<;>intros<;>try exact True.intro
    all_goals first|contradiction
   ·rw [if_neg h2] at e0
    rw [e0]
    have hp:=pow_h (h:=(rfS p s w h).h-n) (by omega)
    refine FnC.of_body tabOk Tryz.func211 Tryz.ntmps211 rfl (by decide +kernel) (by simp) fun G=>?_
    refine go (r:=?_);and_intros<;>intros<;>try exact True.intro
    all_goals first|contradiction|omega|rfl
  ·rw [if_neg h1] at e0
   rw [e0]
   have hp:=pow_h (h:=h-n) (by omega)
   refine FnC.of_body tabOk Tryz.func211 Tryz.ntmps211 rfl (by decide +kernel) (by simp) fun G=>?_
   refine go (r:=?_);and_intros<;>intros<;>try exact True.intro
   all_goals first|contradiction|omega|rfl
 ·have e0:skS p s w h n=⟨s,w,h,false⟩:=if_neg hf
  rw [e0]
  refine FnC.of_body tabOk Tryz.func211 Tryz.ntmps211 rfl (by decide +kernel) (by simp) fun G=>?_
  refine go (r:=?_);and_intros<;>intros<;>try exact True.intro
  all_goals first|contradiction|(exact absurd ⟨by assumption,by omega,by omega⟩ hf)⟩
end
end
end Go.Proofs.YtndflfipaddfoaaGreat


namespace Go.Abs
open Go
theorem zav_one {z:Value} (h:[I 0]=z.cells.toList.map zav):z.cells=#[.int .i64 0]:=by
 have hl:z.cells.toList.length=1:=by have:=congrArg List.length h;simpa using this.symm
 match hz:z.cells.toList,hl with
 |[v],_=>
  rw [hz] at h
  simp only [List.map_cons,List.map_nil,List.cons.injEq,and_true] at h
  have hv:v=.int .i64 0:=by
   unfold zav at h
   split at h
   ·cases h
   ·simpa using h.symm
  apply Array.ext'
  rw [hz,hv]
theorem zero_cells {z:Value} (h:z.cells=#[.int .i64 0]) (c:Nat):Builtin.zeroCells z.cells c=(List.replicate c (Value.int .i64 0)).toArray:=by
 rw [h]
 apply Array.ext
 ·simp [Builtin.zeroCells]
 ·intro i h1 h2
  simp [Builtin.zeroCells,Nat.mod_one]
theorem lrel_zeros {S w ι O}:∀c,LRel S w ι O (ints (List.replicate c 0)) (List.replicate c (Value.int .i64 0)) []
 |0=>.nil
 |c+1=>.sc (lrel_zeros c)
section
variable {P:Program} (w:World)
theorem run_append_room_zeros (t u ty e:TypeId) (i:TypeInfo) (z:Value) (kn:IntKind) (ht:P.underlying t=some (.slice e)) (hu:P.underlying u=some (.int kn)) (hi:P.info? e=some i) (hz:i.zero=some z) (hzc:z.cells=#[.int .i64 0]) (hs1:i.size=1)
 (g sLen sCap c:Nat) (cur:Array Value) (hg:w.heap[g]?=some (.cells cur e (0,0))) (h0:0<c) (h63:(c:Int)*(i.bytes:Int)≤281474976710656∧(c:Int)≤9223372036854775807)
 (hroom:sLen+c≤sCap) (hfit:sLen*i.size+c≤cur.size):
 (Builtin.append_ #[t,u] ty #[.slice (some ⟨g,0,none⟩) sLen sCap,.int .i64 c]).run P w=
  .ok (.slice (some ⟨g,0,none⟩) (sLen+c) sCap) (w.setRow g (cur.toList.take (sLen*i.size)++List.replicate c (Value.int .i64 0)++cur.toList.drop (sLen*i.size+(List.replicate c (Value.int .i64 0)).length)).toArray):=by
 have hn:c≠0:=by omega
 have hw:IntKind.i64.wrap (c:Int)=c:=by rw [IntKind.wrap_i64];omega
 have hneg:¬((c:Int)<0):=by omega
 have h48i:¬(281474976710656<(c:Int)*(i.bytes:Int)):=by omega
 have hns:¬(c*i.size=0):=by rw [hs1];omega
 have hst:=run_storeCells_at P g (sLen*i.size) e (List.replicate c (Value.int .i64 0)) 0 cur w hg (by simpa using hfit) (by intro v hv;rw [List.eq_of_mem_replicate hv];rfl)
 simp only [Nat.add_zero] at hst
 simp [Builtin.append_,run_underlying ht,run_underlying hu,sizeOf,typeInfo,zeroValue,hi,hz,asInt,asIntOf,hw,hn,hneg,hns,h48i,hroom,Addr.add_lit,zero_cells hzc,hst]
theorem run_append_grow_zeros (t u ty e:TypeId) (i:TypeInfo) (z:Value) (kn:IntKind) (ht:P.underlying t=some (.slice e)) (hu:P.underlying u=some (.int kn)) (hi:P.info? e=some i) (hz:i.zero=some z) (hzc:z.cells=#[.int .i64 0]) (hs1:i.size=1)
 (b:Addr) (sLen sCap c:Nat) (olds:List Value) (hlo:olds.length=sLen*i.size) (holds:∀j v,olds[j]?=some v→w.cell? (b.add j)=some v) (h0:0<c) (h48:(c:Int)*(i.bytes:Int)≤281474976710656∧(c:Int)≤9223372036854775807)
 (hg:sCap<sLen+c) (h63:sLen+c≤9223372036854775807) (hfit:Builtin.nextslicecap (sLen+c) sCap*i.bytes≤281474976710656):
 (Builtin.append_ #[t,u] ty #[.slice (some b) sLen sCap,.int .i64 c]).run P w=
  .ok (.slice (some ⟨w.heap.size,0,none⟩) (sLen+c) (grownCap w (sLen+c) sCap e))
   (w.drew.alloc (.cells (olds.toArray++(List.replicate c (Value.int .i64 0)).toArray++Builtin.zeroCells z.cells (grownCap w (sLen+c) sCap e-(sLen+c))) e)):=by
 have hn:c≠0:=by omega
 have hw:IntKind.i64.wrap (c:Int)=c:=by rw [IntKind.wrap_i64];omega
 have hneg:¬((c:Int)<0):=by omega
 have h48i:¬(281474976710656<(c:Int)*(i.bytes:Int)):=by omega
 have hns:¬(c*i.size=0):=by rw [hs1];omega
 have hno:¬(sLen+c≤sCap):=by omega
 have h48':¬(281474976710656<Builtin.nextslicecap (sLen+c) sCap*i.bytes):=by omega
 have h63':¬(9223372036854775807<((sLen:Int)+(c:Int))):=by omega
 have hfo:=run_firstCells_some (P:=P) w.drew i.size sLen b sLen sCap olds hlo (by simpa using holds)
 simp [Builtin.append_,run_underlying ht,run_underlying hu,sizeOf,typeInfo,zeroValue,hi,hz,asInt,asIntOf,hw,hn,hneg,hns,h48i,hno,h63',h48',Question.forced,hfo,newRow,grownCap]
 rw [zero_cells hzc c];simp
end
section
variable {P:Program} {n m:Nat} {G:Ctx} {T:List (Nat×AV)} {O:List AObj} {Q:Exit→St→Prop} {ops:Array Oper} {l:List Oper} {d:Nat} {tt:TypeId} {pos:String} {after:Array Edge} {tab:List (Nat×Ty)}
theorem WpL.appOwnZ (hP:TabOk P tab) {t u e b c:Nat} {kn:IntKind} {x y:Operand} {id ep len:Nat} {ob:AObj} (ht:tlook tab t=some (.slice e 1 b [I 0])) (hut:tlook tab u=some (.int kn)) (hx:av T x=.own id ep 0 len)
 (ho:O[id]?=some ob) (he:ob.ep=ep) (hty:ob.ty=some e) (hsz:ob.size=1) (hol:ob.cells.length=len*1) (hm:m≤id) (hy:av T y=.sc (.int .i64 c)) (hc0:0<c)
 (hb:(len+c)*b≤140737488355328∧len+c≤9223372036854775807) (hn:d<n)
 (h:WpL P n m G false ops l ⟨(d,.own id (ep+1) 0 (len+c))::T,O.set id ⟨ob.cells++ints (List.replicate c 0),ep+1,1,some e⟩⟩ Q):
 WpL P n m G false ops ({dst:=some d,op:=.call {callee:=.builtin .append,args:=#[x,y],argTypes:=#[t,u]},type:=tt,pos:=pos,after:=after,guard:=none}::l) ⟨T,O⟩ Q:=
 WpL.value rfl (fun a w hr=>by
  obtain ⟨S,ι,F,hr⟩:=hr
  obtain ⟨hu,i,z,hi,hz,hk,hby,hzk,hk0,hzs⟩:=hP.slice ht
  have htu:=(hP.ty hut).1
  have hzc:=zav_one hzs
  have hcb:(c:Int)*(i.bytes:Int)≤281474976710656:=by
   have h1:=Nat.mul_le_mul_right b (show c≤len+c by omega)
   rw [hby,←Int.natCast_mul];omega
  have hid:id<O.length:=(List.getElem?_eq_some_iff.1 ho).1
  have hye:=hr.sc hy
  have huslen:(List.replicate c (Value.int .i64 0)).length=c*1:=by simp
  have hl:LRel S w ι O (ints (List.replicate c 0)) (List.replicate c (Value.int .i64 0)) []:=lrel_zeros c
  have hv:=hr.eval x
  rw [show av (St.mk T O).T x=_ from hx] at hv
  have hob:=hr.objs.obj id ob ho
  unfold ObjAt at hob
  have hown:OwnAt (ι id) ob.size 0 len (a.eval x):=by
   cases hv with
   |own q1 q2 q3 r=>
    rw [show (St.mk T O).O[id]?=some ob from ho] at q1
    cases q1
    exact q3 he.symm
  have hlenA:(ob.cells++ints (List.replicate c 0)).length=(len+c)*1:=by rw [List.length_append,hol,show (ints (List.replicate c 0)).length=c*1 by simp [ints],Nat.add_mul]
  have finish:∀(w':World) (s':Spot) (f':List Nat) (v:Value),(Builtin.append_ #[t,u] tt #[a.eval x,a.eval y]).run P w=.ok v w'→
   Later S w ι O S w' (upd ι id s') (O.set id ⟨ob.cells++ints (List.replicate c 0),ep+1,1,some e⟩)∧RelAt n m G S (upd ι id s') (upd F id f') ⟨T,O.set id ⟨ob.cells++ints (List.replicate c 0),ep+1,1,some e⟩⟩ a w'→OwnAt s' 1 0 (len+c) v→
   ∃v w',(execOp a.eval {dst:=some d,op:=.call {callee:=.builtin .append,args:=#[x,y],argTypes:=#[t,u]},type:=tt,pos:=pos,after:=after,guard:=none}).run P w=.ok (.value v) w'∧
    Rel n m G ⟨(d,.own id (ep+1) 0 (len+c))::T,O.set id ⟨ob.cells++ints (List.replicate c 0),ep+1,1,some e⟩⟩ (a.put (some d) v) w':=by
   intro w' s' f' v hrun hr' hoa
   refine ⟨v,w',by simp only [execOp,resolve,invoke,builtin,Sem.run_bind,Sem.run_pure,Result.andThen_ok,List.map_toArray,List.map_cons,List.map_nil,hrun],_,_,_,hr'.2.put hn ?_⟩
   exact .own (ob:=⟨ob.cells++ints (List.replicate c 0),ep+1,1,some e⟩) (by rw [List.getElem?_set_self hid]) (Nat.le_refl _) (fun _=>by rw [upd_same];exact hoa) .nil
  have fresh:∀(oldc:Nat) (olds:List Value) (f0:List Nat),LRel S w ι O ob.cells olds f0→f0.Nodup→(∀ b,b∈f0→b∈F id)→(∀ b0 k0,ι id=some (b0,k0)→b0 ∉ f0)→len+c≤grownCap w (len+c) oldc e→
   (Builtin.append_ #[t,u] tt #[a.eval x,a.eval y]).run P w=.ok (.slice (some ⟨w.heap.size,0,none⟩) (len+c) (grownCap w (len+c) oldc e)) (w.drew.alloc (.cells (olds.toArray++(List.replicate c (Value.int .i64 0)).toArray++Builtin.zeroCells z.cells (grownCap w (len+c) oldc e-(len+c))) e))→
   ∃v w',(execOp a.eval {dst:=some d,op:=.call {callee:=.builtin .append,args:=#[x,y],argTypes:=#[t,u]},type:=tt,pos:=pos,after:=after,guard:=none}).run P w=.ok (.value v) w'∧
    Rel n m G ⟨(d,.own id (ep+1) 0 (len+c))::T,O.set id ⟨ob.cells++ints (List.replicate c 0),ep+1,1,some e⟩⟩ (a.put (some d) v) w':=by
   intro oldc olds f0 hlo hnd0 hsub hnb hge hrun
   have hcm:=grownCap_le_maxLen w (len+c) oldc e (by simp only [maxLen];omega)
   have hA:=adds_drew_alloc w (.cells (olds.toArray++(List.replicate c (Value.int .i64 0)).toArray++Builtin.zeroCells z.cells (grownCap w (len+c) oldc e-(len+c))) e)
   have holds:olds.length=len*1:=by rw [←hlo.len];exact hol
   have hszc:(olds.toArray++(List.replicate c (Value.int .i64 0)).toArray++Builtin.zeroCells z.cells (grownCap w (len+c) oldc e-(len+c))).size=grownCap w (len+c) oldc e*1:=by
    simp only [Array.size_append,List.size_toArray,zeroCells_size,hzk,huslen,holds,←Nat.add_mul]
    congr 1;omega
   refine finish _ (some (w.heap.size,grownCap w (len+c) oldc e*1)) (w.heap.size::f0) _ hrun (hr.renew (ob:=ob) ho hm (by simp [he]) rfl rfl rfl (by rw [hA.size];omega) (fun b' hb' _=>hA.old hb') ?_ ?_ ?_) ⟨_,rfl,by omega,hge,hcm⟩
   ·intro hlat
    refine ⟨_,e,(0,0),f0,rfl,hA.new,hszc,by rw [hlenA];exact Nat.mul_le_mul_right _ hge,by simp,by simp,?_⟩
    have htk:(olds.toArray++(List.replicate c (Value.int .i64 0)).toArray++Builtin.zeroCells z.cells (grownCap w (len+c) oldc e-(len+c))).toList.take (ob.cells++ints (List.replicate c 0)).length=olds++List.replicate c (Value.int .i64 0):=by
     rw [Array.toList_append,Array.toList_append]
     exact List.take_left' (by rw [hlenA,Nat.add_mul];simp [holds,huslen])
    show LRel S _ _ _ (ob.cells++ints (List.replicate c 0)) _ f0
    rw [htk]
    have h1:=hlo.mono hlat (fun b' hb'=>hA.old (hr.foot id hid b' (hsub b' hb')).2.2)
    have h2:=hl.mono hlat (by simp)
    simpa using h1.append h2
   ·refine List.nodup_cons.2 ⟨fun hb=>?_,hnd0⟩
    have:=(hr.foot id hid _ (hsub _ hb)).2.2
    omega
   ·intro b' hb'
    rcases List.mem_cons.1 hb' with rfl|hb'
    ·exact .inr ⟨Nat.le_refl _,by rw [hA.size];omega⟩
    ·exact .inl (hsub b' hb')
  cases hspot:ι id with
  |none=>
   rw [hspot] at hown hob
   obtain ⟨hxe,_,hlen0⟩:=hown
   subst hlen0
   obtain ⟨hcells,hFid⟩:=hob
   have hrun:=Lib.run_append_nil_zeros (P:=P) w t u tt e i z .i64 kn hu htu hi hz c hc0 (by omega) (by omega) (by rw [hby];have:=hb.1;simp only [Nat.zero_add] at this;omega)
   refine fresh 0 [] [] (by rw [hcells];exact .nil) (by simp) (by simp) (by simp) (grownCap_ge _ _ _ _) ?_
   simp only [Nat.zero_add] at hrun ⊢
   rw [hxe,hye,hrun,zero_cells hzc];simp
  |some p=>
   obtain ⟨b0,k0⟩:=p
   rw [hspot] at hown hob
   obtain ⟨cap,hxe,hcap0,hlc,hcm⟩:=hown
   obtain ⟨cur,t',fz,f',hF,hh,hcur,hle,hfz,htyp,hlo⟩:=hob
   obtain ⟨rfl,rfl⟩:=htyp e hty
   have hcurs:cur.size=cap*1:=by rw [hcur,←hcap0,hsz];omega
   have hndF:(b0::f').Nodup:=by rw [←hF];exact hr.objs.nodup id hid
   have holdsl:(cur.toList.take ob.cells.length).length=len*1:=by rw [←hlo.len];exact hol
   by_cases hroom:len+c≤cap
   ·
    have hfit:len*i.size+(List.replicate c (Value.int .i64 0)).length≤cur.size:=by rw [hk,huslen,hcurs,←Nat.add_mul];exact Nat.mul_le_mul_right _ hroom
    have hrun:(Builtin.append_ #[t,u] tt #[a.eval x,a.eval y]).run P w=
     .ok (.slice (some ⟨b0,0,none⟩) (len+c) cap) (w.setRow b0 (cur.toList.take (len*i.size)++List.replicate c (Value.int .i64 0)++cur.toList.drop (len*i.size+(List.replicate c (Value.int .i64 0)).length)).toArray):=by
     rw [hxe,hye]
     exact run_append_room_zeros (P:=P) w t u tt t' i z kn hu htu hi hz hzc (by omega) b0 len cap c cur hh hc0 (by omega) hroom (by simpa using hfit)
    have hsr:=setRow_heap w b0 cur (cur.toList.take (len*i.size)++List.replicate c (Value.int .i64 0)++cur.toList.drop (len*i.size+(List.replicate c (Value.int .i64 0)).length)).toArray t' (0,0) hh
    have hso:∀b',b'≠b0→(w.setRow b0 (cur.toList.take (len*i.size)++List.replicate c (Value.int .i64 0)++cur.toList.drop (len*i.size+(List.replicate c (Value.int .i64 0)).length)).toArray).heap[b']?=w.heap[b']?:=fun b' hb'=>setRow_other w b0 b' _ hb'
    refine finish _ (some (b0,k0)) (b0::f') _ hrun (hr.renew (ob:=ob) ho hm (by simp [he]) rfl rfl rfl (by simp) ?_ ?_ hndF ?_) ⟨cap,rfl,by rw [←hcap0,hsz],hroom,hcm⟩
    ·intro b' _ hb'
     refine hso b' ?_
     rintro rfl
     rcases hb' with hb'|⟨_,hb'⟩
     ·exact hb' (by rw [hF];simp)
     ·exact hb' k0 rfl
    ·intro hlat
     have hlenk:ob.cells.length=len*i.size:=by rw [hol,hk]
     refine ⟨_,t',(0,0),f',rfl,hsr,?_,?_,by simp,by simp,?_⟩
     ·rw [←hcur];simp;omega
     ·show (ob.cells++ints (List.replicate c 0)).length≤k0
      rw [hlenA,←hcur,hcurs];exact Nat.mul_le_mul_right _ hroom
     ·show LRel S _ _ _ (ob.cells++ints (List.replicate c 0)) _ f'
      have htk:(cur.toList.take (len*i.size)++List.replicate c (Value.int .i64 0)++cur.toList.drop (len*i.size+(List.replicate c (Value.int .i64 0)).length)).take (ob.cells++ints (List.replicate c 0)).length=cur.toList.take (len*i.size)++List.replicate c (Value.int .i64 0):=by
       refine List.take_left' ?_
       rw [List.length_append,List.length_append,←hl.len,←hlenk,←hlo.len]
      show LRel S _ _ _ (ob.cells++ints (List.replicate c 0)) ((cur.toList.take (len*i.size)++List.replicate c (Value.int .i64 0)++cur.toList.drop (len*i.size+(List.replicate c (Value.int .i64 0)).length)).toArray.toList.take (ob.cells++ints (List.replicate c 0)).length) f'
      rw [show (cur.toList.take (len*i.size)++List.replicate c (Value.int .i64 0)++cur.toList.drop (len*i.size+(List.replicate c (Value.int .i64 0)).length)).toArray.toList=cur.toList.take (len*i.size)++List.replicate c (Value.int .i64 0)++cur.toList.drop (len*i.size+(List.replicate c (Value.int .i64 0)).length) from by simp,htk]
      have h1:=hlo.mono hlat (fun b' hb'=>hso b' (by rintro rfl;exact (List.nodup_cons.1 hndF).1 hb'))
      have h2:=hl.mono hlat (by simp)
      rw [hlenk] at h1
      simpa using h1.append h2
    ·intro b' hb';exact .inl (by rw [hF];exact hb')
   ·
    have hrun:=run_append_grow_zeros (P:=P) w t u tt t' i z kn hu htu hi hz hzc (by omega) ⟨b0,0,none⟩ len cap c (cur.toList.take ob.cells.length) (by rw [hk];exact holdsl) (by
     intro j v hj
     have hlt:=(List.getElem?_eq_some_iff.1 hj).1
     rw [addr_add,Nat.zero_add,cell_of_row w b0 j cur _ _ hh]
     rw [List.getElem?_take] at hj
     split at hj
     ·simpa using hj
     ·simp at hj) hc0 (by omega) (by omega) hb.2 (by rw [hby];exact growslice_fits (by omega) hb.1)
    refine fresh cap _ f' hlo (List.nodup_cons.1 hndF).2 (fun b hb=>by rw [hF];simp [hb]) (fun b1 k1 hb1=>by rw [hspot] at hb1;cases hb1;exact (List.nodup_cons.1 hndF).1) (grownCap_ge _ _ _ _) ?_
    rw [hxe,hye];exact hrun) h
end
end Go.Abs


namespace Go.Proofs.YtndflfipaddfoaaGreat
open Go Go.Abs
attribute [local irreducible] WpA WpL Rnd Blk Abs.Seq Abs.Fin Abs.FinG FnC FnG Only
abbrev Ent:=Int×Int
abbrev XE (l:List Ent):AObj:=⟨rows prF l,0,2,some 141⟩
abbrev EnL (l:List Ent):AV:=.imm 2 l.length (rows prF l)
instance eqEnt:EqPr Tryz.prog 141:=⟨run_eq_pr Tryz.underlying141 (by decide) (by decide) rfl rfl Tryz.underlying3 Tryz.underlying3 Tryz.stoodInHeld141,Tryz.eqGuardType141⟩
end Go.Proofs.YtndflfipaddfoaaGreat


namespace Go.Proofs.YtndflfipaddfoaaGreat
open Go Go.Abs
attribute [local irreducible] WpA WpL Rnd Blk Abs.Seq Abs.Fin Abs.FinG FnC FnG Only
def Bits (l:List Int):Prop:=∀x∈l,x=0∨x=1
instance areBits_c:Con 255 (∀ l:List Int,l.length≤1099511627776∧Bits l→Fn 255 [IL l] [] (B true)):=⟨fun l hl=>by
 refine FnC.of_body tabOk Tryz.func255 Tryz.ntmps255 rfl (by decide +kernel) (by simp) fun G=>?_
 refine go (r:=?_);and_intros<;>intros<;>try exact True.intro
 refine WpA.loop (fun k:Nat=>⟨[(5,IL l),(6,I l.length),(7,I k)],[]⟩) (fun k=>k≤l.length) (fun k=>l.length-k) 0 (by omega) (go (r:=?_)) (fun k hk=>?_)
 ·trivial
 have hb:k<l.length→l.getD k 0=0∨l.getD k 0=1:=fun h=>hl.2 _ (by simp [h])
 refine go (r:=?_);and_intros<;>intros<;>try exact True.intro
 all_goals first|(have:=hb (by omega);omega)⟩
instance EqualE_c:Con 203 (∀ xs ys:List Ent,xs.length≤1099511627776∧ys.length≤1099511627776→Fn 203 [EnL xs,EnL ys] [] (B (decide (xs=ys)))):=⟨fun xs ys hl=>by
 refine FnC.of_body tabOk Tryz.func203 Tryz.ntmps203 rfl (by decide +kernel) (by simp) fun G=>?_
 refine go (r:=?_);and_intros<;>intros<;>try exact True.intro
 ·simp;intro h;subst h;simp_all
 ·refine WpA.loop (fun k:Nat=>⟨[(0,EnL xs),(1,EnL ys),(12,I xs.length),(13,I k)],[]⟩) (fun k=>k≤xs.length∧∀j<k,xs.getD j default=ys.getD j default) (fun k=>xs.length-k) 0 (by simp) (go (r:=trivial)) (fun k hk=>?_)
  refine go (r:=?_);and_intros<;>intros<;>try exact True.intro
  ·refine WpL.prNe rfl rfl (by decide) ?_
   refine go (r:=?_);and_intros<;>intros<;>try exact True.intro
   ·simp;rintro rfl;simp_all
   ·rename_i j hj;by_cases h:j=k
    ·subst h;apply Prod.ext<;>simp_all
    ·exact hk.2 j (by omega)
  ·have:=eq_all default (xs:=xs) (ys:=ys) (by omega) (fun j hj=>hk.2 j (by omega))
   simp [this]⟩
def byB (l:List Int):Nat→List Int
 |0=>List.replicate (l.length/8) 0
 |k+1=>(byB l k).set (k/8) (IntKind.u8.wrap ((BitVec.ofInt IntKind.u8.bits ((byB l k).getD (k/8) 0) ||| BitVec.ofInt IntKind.u8.bits (IntKind.u8.wrap (IntKind.i64.wrap (l.getD k 0*2 ^ (7-k%8))))).toNat:Nat))
theorem byB_len (l:List Int):∀k,(byB l k).length=l.length/8
 |0=>by simp [byB]
 |k+1=>by rw [byB,List.length_set,byB_len l k]
def strB (l:List Int):List UInt8:=(byB l l.length).map fun n:Int=>UInt8.ofNat n.toNat
instance BytesOf_c:Con 168 (∀ l:List Int,l.length≤1099511627776∧Bits l∧l.length%8=0→Fn 168 [IL l] [] (.tup [Z (strB l),B true])):=⟨fun l hl=>by
 refine FnC.of_body tabOk Tryz.func168 Tryz.ntmps168 rfl (by decide +kernel) (by simp) fun G=>?_
 refine go (r:=?_);and_intros<;>intros<;>try exact True.intro
 all_goals first|exact hl.2.1|exact hl.2.1 _ (by assumption)|omega|skip
 refine WpA.loop (fun k:Nat=>⟨[(4,.own 0 0 0 (l.length/8)),(20,IL l),(21,I l.length),(22,I k)],[⟨u8s (byB l k),0,1,some 5⟩]⟩) (fun k=>k≤l.length) (fun k=>l.length-k) 0 (by omega) (go (r:=?_)) (fun k hk=>?_)
 ·and_intros<;>first|exact True.intro|rfl
 have hb:k<l.length→l.getD k 0=0∨l.getD k 0=1:=fun h=>hl.2.1 _ (by simp [h])
 have hln:=byB_len l k
 refine go (r:=?_);and_intros<;>intros<;>try exact True.intro
 ·rw [show ((k:Int)/8).toNat=k/8 by omega,show (7-(k:Int)%8).toNat=7-k%8 by omega];rfl
 ·obtain rfl:k=l.length:=by omega
  refine K.cv ?_
  refine WpL.ofBytes tabOk rfl rfl rfl rfl rfl (by simp [u8s,hln]) (by decide) ?_
  refine go (r:=?_);and_intros<;>intros<;>try exact True.intro
  all_goals trace_state⟩
end Go.Proofs.YtndflfipaddfoaaGreat


namespace Go.Abs
open Go
section
variable {P:Program} {n m:Nat} {G:Ctx} {T:List (Nat×AV)} {O:List AObj} {Q:Exit→St→Prop} {ops:Array Oper} {l:List Oper} {d:Nat} {tt:TypeId} {pos:String} {after:Array Edge} {tab:List (Nat×Ty)}
theorem WpL.appIntsZ (hP:TabOk P tab) {t u e b c:Nat} {kn:IntKind} {x y:Operand} {id ep len:Nat} {xs:List Int} (ht:tlook tab t=some (.slice e 1 b [I 0])) (hut:tlook tab u=some (.int kn)) (hx:av T x=.own id ep 0 len)
 (ho:O[id]?=some ⟨ints xs,ep,1,some e⟩) (hlen:xs.length=len) (hm:m≤id) (hy:av T y=.sc (.int .i64 c)) (hc0:0<c)
 (hb:(len+c)*b≤140737488355328∧len+c≤9223372036854775807) (hn:d<n)
 (h:WpL P n m G false ops l ⟨(d,.own id (ep+1) 0 (len+c))::T,O.set id ⟨ints (xs++List.replicate c 0),ep+1,1,some e⟩⟩ Q):
 WpL P n m G false ops ({dst:=some d,op:=.call {callee:=.builtin .append,args:=#[x,y],argTypes:=#[t,u]},type:=tt,pos:=pos,after:=after,guard:=none}::l) ⟨T,O⟩ Q:=
 WpL.appOwnZ hP ht hut hx ho rfl rfl rfl (by simp [ints,hlen]) hm hy hc0 hb hn (by
  rw [show ints xs++ints (List.replicate c 0)=ints (xs++List.replicate c 0) from by simp [ints]];exact h)
end
end Go.Abs
namespace Go.Proofs.YtndflfipaddfoaaGreat
open Go Go.Abs
attribute [local irreducible] WpA WpL Rnd Blk Abs.Seq Abs.Fin Abs.FinG FnC FnG Only
def ueStr (i:Nat):List UInt8:=strB (bitsL i 9++List.replicate 7 0)
def ueE (i:Nat):Ent:=if ueC (ueStr i) 0=0∧ueA (ueStr i) 0≤9 then (ueA (ueStr i) 0,ueV (ueStr i) 0) else (0,0)
def ueTab:List Ent:=(List.range 512).map ueE
def usz (n:Nat):Nat:=2*Nat.log2 (n+1)+1
def fillI (n:Nat) (t:List Ent):Nat→List Ent
 |0=>t
 |k+1=>(fillI n t k).set ((n+1)*2 ^ (9-usz n)+k) ((usz n:Nat),n)
def tabS:Nat→List Ent
 |0=>List.replicate 512 (0,0)
 |n+1=>fillI n (tabS n) (2 ^ (9-usz n))
theorem tab_eq:tabS 31=ueTab:=by decide +kernel
theorem ueTab_len:ueTab.length=512:=by simp [ueTab]
theorem bit16 {i:Nat} (h:i<512):Bits (bitsL i 9++List.replicate 7 0)∧(bitsL i 9).length=9:=by
 have hq:(i:Int)/2 ^ (9:Int).toNat=0:=Int.ediv_eq_zero_of_lt (by omega) (show (i:Int)<512 by omega)
 have e:bitsL i 9=bitsR i 9 9:=by rw [bitsL,if_pos ⟨by decide,by omega,hq⟩];rfl
 rw [e]
 refine ⟨fun x hx=>?_,bitsR_len _ _ _⟩
 rcases List.mem_append.1 hx with hx|hx
 ·obtain ⟨j,_,rfl⟩:=List.mem_map.1 hx;omega
 ·rw [List.eq_of_mem_replicate hx];exact .inl rfl
theorem strB_len (l:List Int):(strB l).length=l.length/8:=by rw [strB,List.length_map,byB_len]
theorem fillT {k:Nat} (h:k<512) {v:Ent} (hv:v=ueE k):((List.range k).map ueE++List.replicate (512-k) (0,0)).set k v=(List.range (k+1)).map ueE++List.replicate (512-(k+1)) (0,0):=by
 subst hv
 obtain ⟨r,hr⟩:∃r,512-k=r+1:=⟨511-k,by omega⟩
 rw [hr,show 512-(k+1)=r by omega,List.replicate_succ,List.set_append_right _ _ (by simp),List.length_map,List.length_range,Nat.sub_self,List.set_cons_zero,List.range_succ,List.map_append]
 simp
theorem fillN {k:Nat} (h:k<512) (hv:ueE k=(0,0)):(List.range k).map ueE++List.replicate (512-k) (0,0)=(List.range (k+1)).map ueE++List.replicate (512-(k+1)) (0,0):=by
 obtain ⟨r,hr⟩:∃r,512-k=r+1:=⟨511-k,by omega⟩
 rw [hr,show 512-(k+1)=r by omega,List.replicate_succ,List.range_succ,List.map_append]
 simp [hv]
section
attribute [local irreducible] ueC ueA ueV strB bitsL
instance UeTable_c:Con 205 (Fn 205 [] [XE ueTab] (.own 0 0 0 512)):=⟨by
 refine FnC.of_body tabOk Tryz.func205 Tryz.ntmps205 rfl (by decide +kernel) (by simp) fun G=>?_
 refine go (r:=?_);and_intros<;>intros<;>try exact True.intro
 refine WpA.loop (fun k:Nat=>⟨[(1,.own 0 0 0 512),(10,I 512),(11,I k)],[XE ((List.range k).map ueE++List.replicate (512-k) (0,0))]⟩) (fun k=>k≤512) (fun k=>512-k) 0 (by omega) (go (r:=?_)) (fun k hk=>?_)
 ·and_intros<;>first|exact True.intro|rfl
 have hb:=fun h=>bit16 (i:=k) h
 refine go (r:=?_);and_intros<;>intros<;>try exact True.intro
 ·have hb:=hb (by omega)
  refine K.bi ?_
  refine WpL.appIntsZ (c:=7) tabOk rfl rfl rfl rfl rfl (Nat.zero_le _) rfl (by decide) (by omega) (by decide) ?_
  have hlen:(bitsL k 9++List.replicate 7 0).length=16:=by rw [List.length_append,hb.2];rfl
  have hsl:=strB_len (bitsL k 9++List.replicate 7 0)
  have hln:((List.range k).map ueE++List.replicate (512-k) (0,0)).length=512:=by simp;omega
  refine go (r:=?_);and_intros<;>intros<;>try exact True.intro
  all_goals first|exact hb.1 _ (by assumption)|omega|(rw [hsl,hlen];decide)|(refine fillT (by omega) ?_;rw [ueE,ueStr,if_pos ⟨by assumption,by assumption⟩];done)|(refine fillN (by omega) ?_;rw [ueE,ueStr,if_neg (fun hh=>absurd hh.2 (by assumption))];done)|(refine fillN (by omega) ?_;rw [ueE,ueStr,if_neg (fun hh=>absurd hh.1 (by assumption))];done)
 ·obtain rfl:k=512:=by omega
  rw [Nat.sub_self,List.replicate_zero,List.append_nil];rfl⟩
instance UeSize_s:Con 123 (∀ n:Nat,n≤65534→Fn 123 [I n] [] (I (usz n:Nat))):=⟨fun n hn=>by
 have h16:=lg_16 (x:=n+1) (by omega) (by omega)
 unfold usz
 refine FnC.of_body tabOk Tryz.func123 Tryz.ntmps123 rfl (by decide +kernel) (by simp) fun G=>?_
 refine go (r:=?_);and_intros<;>intros<;>try exact True.intro
 all_goals first|omega⟩
theorem usz_tab:∀n<31,usz n≤9∧(n+2)*2 ^ (9-usz n)≤512:=by decide +kernel
theorem usz_31:usz 31=11:=by decide +kernel
theorem fillI_len (n:Nat) (t:List Ent):∀k,(fillI n t k).length=t.length
 |0=>rfl
 |k+1=>by rw [fillI,List.length_set,fillI_len n t k]
theorem tabS_len:∀n,(tabS n).length=512
 |0=>by simp [tabS]
 |n+1=>by rw [tabS,fillI_len,tabS_len n]
attribute [local irreducible] usz
instance UeTable_s:Con 57 (Fn 57 [] [XE ueTab] (.own 0 0 0 512)):=⟨by
 refine FnC.of_body tabOk Tryz.func57 Tryz.ntmps57 rfl (by decide +kernel) (by simp) fun G=>?_
 refine go (r:=?_);and_intros<;>intros<;>try exact True.intro
 refine WpA.loop (fun n:Nat=>⟨[(1,.own 0 0 0 512),(2,I n)],[XE (tabS n)]⟩) (fun n=>n≤31) (fun n=>31-n) 0 (by omega) (go (r:=?_)) (fun n hn=>?_)
 ·and_intros<;>first|exact True.intro|rfl
 by_cases h31:n<31
 ·have ht:=usz_tab n h31
  have hl:=tabS_len n
  have hl2:=fillI_len n (tabS n)
  obtain ⟨X,hX⟩:∃X,X=2 ^ (9-usz n):=⟨_,rfl⟩
  obtain ⟨A,hA⟩:∃A,A=(n+1)*2 ^ (9-usz n):=⟨_,rfl⟩
  have hAX:A+X≤512:=by
   have e:(n+2)*2 ^ (9-usz n)=(n+1)*2 ^ (9-usz n)+2 ^ (9-usz n):=Nat.succ_mul (n+1) _
   omega
  have eA:IntKind.i64.wrap (((n:Int)+1)*2 ^ (9-(usz n:Int)).toNat)=(A:Int):=by
   rw [show (9-(usz n:Int)).toNat=9-usz n by omega,show ((n:Int)+1)*2 ^ (9-usz n)=(((n+1)*2 ^ (9-usz n):Nat):Int) by push_cast;rfl,←hA]
   exact wrap64 _ (by omega)
  have eX:IntKind.i64.wrap (1*2 ^ (9-(usz n:Int)).toNat)=(X:Int):=by
   rw [show (9-(usz n:Int)).toNat=9-usz n by omega,show (1:Int)*2 ^ (9-usz n)=((2 ^ (9-usz n):Nat):Int) by push_cast;omega,←hX]
   exact wrap64 _ (by omega)
  have hts:tabS (n+1)=fillI n (tabS n) X:=by rw [tabS,←hX]
  have hfs:∀k,fillI n (tabS n) (k+1)=(fillI n (tabS n) k).set (A+k) ((usz n:Nat),n):=fun k=>by rw [fillI,←hA]
  refine go (r:=?_);and_intros<;>intros<;>try exact True.intro
  rw [eA]
  refine WpA.loop (fun k:Nat=>⟨[(1,.own 0 0 0 512),(2,I n),(3,I (9-(usz n:Int))),(4,I A),(5,I k)],[XE (fillI n (tabS n) k)]⟩) (fun k=>k≤X) (fun k=>X-k) 0 (by omega) (go (r:=?_)) (fun k hk=>?_)
  ·and_intros<;>first|exact True.intro|rfl
  have hfs:=hfs k
  have hl2:=hl2 k
  refine go (r:=?_);and_intros<;>intros<;>try exact True.intro
  all_goals first|(rw [hfs];done)|(rename_i hg;rw [eX] at hg;rw [hts,show k=X by omega];done)
 ·obtain rfl:n=31:=by omega
  have h31':=usz_31
  refine go (r:=?_);and_intros<;>intros<;>try exact True.intro
  exact tab_eq⟩
end
end Go.Proofs.YtndflfipaddfoaaGreat


namespace Go.Proofs.YtndflfipaddfoaaGreat
open Go Go.Abs
attribute [local irreducible] WpA WpL Rnd Blk Abs.Seq Abs.Fin Abs.FinG FnC FnG FnX FnP FinX Only
attribute [local irreducible] belowD onceD pickD modeD l8D l8AnyD optD anyD seedD
end Go.Proofs.YtndflfipaddfoaaGreat


namespace Go.Proofs.YtndflfipaddfoaaGreat
open Go Go.Abs
attribute [local irreducible] WpA WpL Rnd Blk Abs.Seq Abs.Fin Abs.FinG FnC FnG FnX FnP FinX Only
attribute [local irreducible] belowD onceD pickD modeD l8D l8AnyD optD anyD seedD headD headAnyD symL HasC blkD mbD
end Go.Proofs.YtndflfipaddfoaaGreat


namespace Go.Proofs.YtndflfipaddfoaaGreat
open Go Go.Abs
attribute [local irreducible] WpA WpL Rnd Blk Abs.Seq Abs.Fin Abs.FinG FnC FnG Only
abbrev BkV (m:Int) (l:List Int):AV:=.agg [I m,.own 0 0 0 l.length]
theorem blS_1 {p:List UInt8} {s:Int} {lens:List Int} {n:Int} (hn:n=4∨n=8) (hs:smC p s lens=0) (hc:(lvS p (smA p s lens) n).c=0):blS p s lens n=⟨(lvS p (smA p s lens) n).a,0,smV p s lens,(lvS p (smA p s lens) n).out⟩:=by
 unfold blS;rw [if_pos hn,if_pos hs];simp only;rw [if_pos hc]
theorem blS_2 {p:List UInt8} {s:Int} {lens:List Int} {n:Int} (hn:n=4∨n=8) (hs:smC p s lens=0) (hc:(lvS p (smA p s lens) n).c≠0):blS p s lens n=⟨(lvS p (smA p s lens) n).a,(lvS p (smA p s lens) n).c,0,[]⟩:=by
 unfold blS;rw [if_pos hn,if_pos hs];simp only;rw [if_neg hc]
theorem blS_3 {p:List UInt8} {s:Int} {lens:List Int} {n:Int} (hn:n=4∨n=8) (hs:smC p s lens≠0):blS p s lens n=⟨s,smC p s lens,0,[]⟩:=by
 unfold blS;rw [if_pos hn,if_neg hs]
theorem blS_4 {p:List UInt8} {s:Int} {lens:List Int} {n:Int} (hn:¬(n=4∨n=8)):blS p s lens n=⟨s,5,0,[]⟩:=by
 unfold blS;rw [if_neg hn]
theorem smA_bad {p:List UInt8} {s:Int} {l:List Int} (h:smC p s l≠0):smA p s l=s:=by rw [smA,if_neg h]
instance ReadBlock_c:Con 114 (∀ (p:List UInt8) (s:Int) (lens:List Int) (n:Int),p.length≤1099511627776∧lens.length≤1099511627776→Fn 114 [RA p s,IL lens,I n] [XI (blS p s lens n).l] (.tup [RA p (blS p s lens n).a,BkV (blS p s lens n).m (blS p s lens n).l,I (blS p s lens n).c])):=⟨fun p s lens n hl=>by
 refine FnC.of_body tabOk Tryz.func114 Tryz.ntmps114 rfl (by decide +kernel) (by simp) fun G=>?_
 by_cases hn:n=4∨n=8
 ·by_cases hs:smC p s lens=0
  ·refine go (r:=?_);and_intros<;>intros<;>try exact True.intro
   all_goals first|(exact absurd hs (by assumption))|(exact absurd hn (by assumption))|skip
   refine K.call ?_
   refine WpL.callM (hs:=[3]) (flv_c p (smA p s lens) n hl.1 hn) handA handOA rfl rfl (.cons rfl (.sc (.sc (.sc .nil))) .nil) outA rfl rfl rfl rfl (by decide) ?_
   have e1:=blS_1 (p:=p) (s:=s) (lens:=lens) hn hs
   have e2:=blS_2 (p:=p) (s:=s) (lens:=lens) hn hs
   generalize lvS p (smA p s lens) n=y at e1 e2 ⊢
   by_cases hy:y.c=0
   ·rw [e1 hy]
    refine go (r:=?_);and_intros<;>intros<;>try exact True.intro
   ·rw [e2 hy]
    refine go (r:=?_);and_intros<;>intros<;>try exact True.intro
  ·rw [blS_3 hn hs]
   have ea:=smA_bad hs
   refine go (r:=?_);and_intros<;>intros<;>try exact True.intro
 ·rw [blS_4 hn]
  refine go (r:=?_);and_intros<;>intros<;>try exact True.intro⟩
theorem mbRun_len (p:List UInt8) (s:Int) (lens:List Int) (n:Int):∀k,(mbRun p s lens n k).c=0→(mbRun p s lens n k).bs.length=k
 |0,_=>rfl
 |k+1,h=>by
  have ih:=mbRun_len p s lens n k
  rw [mbRun] at h ⊢
  simp only at h ⊢
  split at h
  ·rename_i hx
   rw [if_pos hx]
   split at h
   ·rename_i hb;rw [if_pos hb];simp [ih hx]
   ·rename_i hb;exact absurd h hb
  ·rename_i hx;exact absurd h hx
theorem mbRun_stop {p:List UInt8} {s:Int} {lens:List Int} {n:Int} {k:Nat} (h:(mbRun p s lens n k).c≠0):∀j,k≤j→mbRun p s lens n j=mbRun p s lens n k
 |0,hj=>by have:k=0:=by omega
           subst this;rfl
 |j+1,hj=>by
  rcases Nat.lt_or_ge j k with h2|h2
  ·have:k=j+1:=by omega
   subst this;rfl
  ·have e:=mbRun_stop h j h2
   rw [mbRun];simp only;rw [e,if_neg h]
theorem mbS_no {p:List UInt8} {s:Int} {lens:List Int} (h:¬RbOk p s 1):mbS p s lens=(⟨s,1,[]⟩,false):=by unfold mbS;rw [if_neg h]
theorem nm8_nat (e:Bool):(bif e then 1 else 4:Nat)=(nm8 e).toNat:=by cases e<;>rfl
theorem mbS_yes {p:List UInt8} {s:Int} {lens:List Int} {E:Bool} (h:RbOk p s 1) (hE:decide (rbV p s 1=1)=E):mbS p s lens=(mbRun p (s+1) lens (sz8 E) (nm8 E).toNat,bif decide ((mbRun p (s+1) lens (sz8 E) (nm8 E).toNat).c=0) then E else false):=by
 unfold mbS;rw [if_pos h,hE];simp only;rw [nm8_nat];rfl
theorem mbRun_bad {p:List UInt8} {s:Int} {lens:List Int} {n:Int} {k:Nat} (h:(mbRun p s lens n k).c=0) (hb:(blS p (mbRun p s lens n k).a lens n).c≠0):∀j,k<j→mbRun p s lens n j=⟨(blS p (mbRun p s lens n k).a lens n).a,(blS p (mbRun p s lens n k).a lens n).c,[]⟩:=by
 intro j hj
 have e:mbRun p s lens n (k+1)=⟨(blS p (mbRun p s lens n k).a lens n).a,(blS p (mbRun p s lens n k).a lens n).c,[]⟩:=by
  rw [mbRun];simp only;rw [if_pos h,if_neg hb]
 rw [mbRun_stop (k:=k+1) (by rw [e];exact hb) j hj,e]
theorem mbRun_next {p:List UInt8} {s:Int} {lens:List Int} {n:Int} {k:Nat} (h:(mbRun p s lens n k).c=0) (hb:(blS p (mbRun p s lens n k).a lens n).c=0):mbRun p s lens n (k+1)=⟨(blS p (mbRun p s lens n k).a lens n).a,0,(mbRun p s lens n k).bs++[((blS p (mbRun p s lens n k).a lens n).m,(blS p (mbRun p s lens n k).a lens n).l)]⟩:=by
 rw [mbRun];simp only;rw [if_pos h,if_pos hb]
abbrev MbV (e:Bool) (n:Nat):AV:=.agg [B e,.own 0 0 0 n]
instance ReadMb_c:Con 50 (∀ (p:List UInt8) (s:Int) (lens:List Int),p.length≤1099511627776∧lens.length≤1099511627776→Fn 50 [RA p s,IL lens] [BkO (mbS p s lens).1.bs] (.tup [RA p (mbS p s lens).1.a,MbV (mbS p s lens).2 (mbS p s lens).1.bs.length,I (mbS p s lens).1.c])):=⟨fun p s lens hl=>by
 refine FnC.of_body tabOk Tryz.func50 Tryz.ntmps50 rfl (by decide +kernel) (by simp) fun G=>?_
 by_cases ho:RbOk p s 1
 ·have ea:=(rb_yes ho).1
  generalize hE:decide (rbV p s 1=1)=E
  rw [mbS_yes ho hE]
  have hc8:=sz8_cases E
  refine go (r:=?_);and_intros<;>intros<;>try exact True.intro
  all_goals first|contradiction|skip
  rw [hE,ea]
  have hz:(mbRun p (s+1) lens (sz8 E) 0)=⟨s+1,0,[]⟩:=rfl
  have hln:=fun k h=>mbRun_len p (s+1) lens (sz8 E) k h
  have hnx:=fun k h hb=>mbRun_next (p:=p) (s:=s+1) (lens:=lens) (n:=sz8 E) (k:=k) h hb
  have hbd:=fun k h hb j hj=>mbRun_bad (p:=p) (s:=s+1) (lens:=lens) (n:=sz8 E) (k:=k) h hb j hj
  generalize mbRun p (s+1) lens (sz8 E)=X at hz hln hnx hbd ⊢
  refine WpA.loop (fun k:Nat=>⟨[(1,IL lens),(2,.ptr 0 0 0),(4,.ptr 1 0 0),(5,.ptr 2 0 0),(9,.ptr 3 0 0),(11,I (sz8 E)),(34,I (nm8 E)),(35,I k)],[⟨[Z p,I (X k).a],0,0,none⟩,R0,⟨[B false,.nilS],0,0,none⟩,⟨[B E,.own 4 0 0 k],0,0,none⟩,BkO (X k).bs]⟩) (fun k=>(k:Int)≤nm8 E∧(X k).c=0) (fun k=>(nm8 E).toNat-k) 0 (by rw [hz];exact ⟨by omega,rfl⟩) ?_ (fun k hk=>?_)
  ·rw [hz];exact Weak.nil1 (by first|(show 0≤_;exact Nat.zero_le _)|(repeat' (first|exact RzT.nil|refine RzT.cons ?_ ?_|exact Rz.nil|refine Rz.keep rfl rfl ?_|refine Rz.own rfl rfl rfl rfl rfl (by first|rfl|omega|(simp;done)) ?_|refine Rz.ptr rfl rfl rfl rfl ?_|refine Rz.nilO rfl rfl rfl (by first|rfl|omega|(simp;done)) ?_|refine Rz.agg ?_ ?_|exact RzO.last rfl|(refine RzO.cons ?_ (.inr rfl) ?_)|exact Rz.same rfl (still_ints _)|exact Rz.same rfl (still_rows (fun _=>rfl) _)))) (by first|(show 0≤_;exact Nat.zero_le _)|(repeat' (first|exact RzT.nil|refine RzT.cons ?_ ?_|exact Rz.nil|refine Rz.keep rfl rfl ?_|refine Rz.own rfl rfl rfl rfl rfl (by first|rfl|omega|(simp;done)) ?_|refine Rz.ptr rfl rfl rfl rfl ?_|refine Rz.nilO rfl rfl rfl (by first|rfl|omega|(simp;done)) ?_|refine Rz.agg ?_ ?_|exact RzO.last rfl|(refine RzO.cons ?_ (.inr rfl) ?_)|exact Rz.same rfl (still_ints _)|exact Rz.same rfl (still_rows (fun _=>rfl) _)))) (Nat.zero_le _)
  have hln:=hln k hk.2
  have hnx:=hnx k hk.2
  have hbd:=hbd k hk.2
  have hfin:¬(k:Int)<nm8 E→X (nm8 E).toNat=X k:=fun h=>by rw [show (nm8 E).toNat=k by omega]
  generalize hy:X k=y at hk hln hnx hbd hfin ⊢
  have hln:y.bs.length=k:=hln
  by_cases hb:(blS p y.a lens (sz8 E)).c=0
  ·have hnx:=hnx hb
   clear hbd
   refine go (r:=?_);and_intros<;>intros<;>try exact True.intro
   all_goals first|contradiction|(rw [hnx];done)|(rw [hfin (by assumption)];first|done|omega|(simp [hk.2];done)|(simp only;omega))
  ·have hbd:=hbd hb
   clear hnx
   refine go (r:=?_);and_intros<;>intros<;>try exact True.intro
   all_goals first|contradiction|(rw [hbd _ (by omega)];first|done|(simp [hb];done))|(rw [hfin (by assumption)];first|done|omega|(simp [hk.2];done)|(simp only;omega))
 ·rw [mbS_no ho]
  have ea:=(rb_no ho).1
  refine go (r:=?_);and_intros<;>intros<;>try exact True.intro
  all_goals first|contradiction⟩
end Go.Proofs.YtndflfipaddfoaaGreat


namespace Go.Proofs.YtndflfipaddfoaaGreat
open Go Go.Abs
attribute [local irreducible] WpA WpL Rnd Blk Abs.Seq Abs.Fin Abs.FinG FnC FnG Only
def pvC (p:List UInt8) (s room:Int):Int:=fuC p (fuA p s 0 (kR room)) (fuC p s 0 (kR room)) kL
def pvA (p:List UInt8) (s room:Int):Int:=fuA p (fuA p s 0 (kR room)) (fuC p s 0 (kR room)) kL
def pvR (p:List UInt8) (s room:Int):Int:=if pvC p s room=0 then fuV p s 0 (kR room) else 0
def pvL (p:List UInt8) (s room:Int):Int:=if pvC p s room=0 then lvOf (fuV p (fuA p s 0 (kR room)) (fuC p s 0 (kR room)) kL) else 0
theorem fu_bad {p:List UInt8} {s:Int} {k:Int→Int} (h:ueC p s≠0):fuC p s 0 k=ueC p s∧fuA p s 0 k=s:=by
 have e:fuC p s 0 k=ueC p s:=by rw [fuC,if_pos rfl,if_neg h]
 exact ⟨e,by rw [fuA,if_neg (by rw [e];exact h)]⟩
theorem fu_chk {p:List UInt8} {s c:Int} {k:Int→Int} (h:ueC p s=0) (hk:k (ueV p s)=c) (hc:c≠0):fuC p s 0 k=c∧fuA p s 0 k=s:=by
 have e:fuC p s 0 k=c:=by rw [fuC,if_pos rfl,if_pos h,hk]
 exact ⟨e,by rw [fuA,if_neg (by rw [e];exact hc)]⟩
theorem fu_yes {p:List UInt8} {s:Int} {k:Int→Int} (h:ueC p s=0) (hk:k (ueV p s)=0):fuC p s 0 k=0∧fuA p s 0 k=ueA p s∧fuV p s 0 k=ueV p s:=by
 have e:fuC p s 0 k=0:=by rw [fuC,if_pos rfl,if_pos h,hk]
 exact ⟨e,by rw [fuA,if_pos e],by rw [fuV,if_pos e]⟩
theorem fu_off {p:List UInt8} {s c:Int} {k:Int→Int} (h:c≠0):fuC p s c k=c∧fuA p s c k=s:=by
 have e:fuC p s c k=c:=by rw [fuC,if_neg h]
 exact ⟨e,by rw [fuA,if_neg (by rw [e];exact h)]⟩
theorem pv_1 {p:List UInt8} {s room:Int} (h:ueC p s≠0):pvA p s room=s∧pvC p s room=ueC p s∧pvR p s room=0∧pvL p s room=0:=by
 have e:=fu_bad (k:=kR room) h
 have e2:pvC p s room=ueC p s:=by rw [pvC,e.1,e.2,(fu_off h).1]
 exact ⟨by rw [pvA,e.1,e.2,(fu_off h).2],e2,by rw [pvR,if_neg (by rw [e2];exact h)],by rw [pvL,if_neg (by rw [e2];exact h)]⟩
theorem pv_2 {p:List UInt8} {s room:Int} (h:ueC p s=0) (h2:¬ueV p s<room):pvA p s room=s∧pvC p s room=5∧pvR p s room=0∧pvL p s room=0:=by
 have e:=fu_chk (k:=kR room) h (ifE_no h2) (by decide)
 have e2:pvC p s room=5:=by rw [pvC,e.1,e.2,(fu_off (by decide)).1]
 exact ⟨by rw [pvA,e.1,e.2,(fu_off (by decide)).2],e2,by rw [pvR,if_neg (by rw [e2];decide)],by rw [pvL,if_neg (by rw [e2];decide)]⟩
theorem pv_3 {p:List UInt8} {s room:Int} (h:ueC p s=0) (h2:ueV p s<room) (h3:ueC p (ueA p s)≠0):pvA p s room=ueA p s∧pvC p s room=ueC p (ueA p s)∧pvR p s room=0∧pvL p s room=0:=by
 have e:=fu_yes (k:=kR room) h (ifE_yes h2)
 have f:=fu_bad (k:=kL) h3
 have e2:pvC p s room=ueC p (ueA p s):=by rw [pvC,e.1,e.2.1,f.1]
 exact ⟨by rw [pvA,e.1,e.2.1,f.2],e2,by rw [pvR,if_neg (by rw [e2];exact h3)],by rw [pvL,if_neg (by rw [e2];exact h3)]⟩
theorem pv_4 {p:List UInt8} {s room:Int} (h:ueC p s=0) (h2:ueV p s<room) (h3:ueC p (ueA p s)=0) (h4:¬(-16383≤lvOf (ueV p (ueA p s))∧lvOf (ueV p (ueA p s))≤16383)):pvA p s room=ueA p s∧pvC p s room=5∧pvR p s room=0∧pvL p s room=0:=by
 have e:=fu_yes (k:=kR room) h (ifE_yes h2)
 have f:=fu_chk (k:=kL) h3 (ifE_no h4) (by decide)
 have e2:pvC p s room=5:=by rw [pvC,e.1,e.2.1,f.1]
 exact ⟨by rw [pvA,e.1,e.2.1,f.2],e2,by rw [pvR,if_neg (by rw [e2];decide)],by rw [pvL,if_neg (by rw [e2];decide)]⟩
theorem pv_5 {p:List UInt8} {s room:Int} (h:ueC p s=0) (h2:ueV p s<room) (h3:ueC p (ueA p s)=0) (h4:-16383≤lvOf (ueV p (ueA p s))∧lvOf (ueV p (ueA p s))≤16383):pvA p s room=ueA p (ueA p s)∧pvC p s room=0∧pvR p s room=ueV p s∧pvL p s room=lvOf (ueV p (ueA p s)):=by
 have e:=fu_yes (k:=kR room) h (ifE_yes h2)
 have f:=fu_yes (k:=kL) h3 (ifE_yes h4)
 have e2:pvC p s room=0:=by rw [pvC,e.1,e.2.1,f.1]
 exact ⟨by rw [pvA,e.1,e.2.1,f.2.1],e2,by rw [pvR,if_pos e2,e.2.2],by rw [pvL,if_pos e2,e.1,e.2.1,f.2.2]⟩
theorem lvStep_pv0 {p:List UInt8} {nn:Int} {x:LvS} (hc:x.c=0) (h:pvC p x.a (nn-x.at_)=0):lvStep p nn x=⟨pvA p x.a (nn-x.at_),0,x.at_+pvR p x.a (nn-x.at_)+1,x.out.set (x.at_+pvR p x.a (nn-x.at_)).toNat (pvL p x.a (nn-x.at_))⟩:=by
 have h':=h
 rw [pvC] at h'
 have e3:pvR p x.a (nn-x.at_)=fuV p x.a 0 (kR (nn-x.at_)):=by rw [pvR,if_pos h]
 have e4:pvL p x.a (nn-x.at_)=lvOf (fuV p (fuA p x.a 0 (kR (nn-x.at_))) (fuC p x.a 0 (kR (nn-x.at_))) kL):=by rw [pvL,if_pos h]
 rw [lvStep_yes hc,if_pos h',e3,e4,h'];rfl
theorem lvStep_pv1 {p:List UInt8} {nn:Int} {x:LvS} (hc:x.c=0) (h:pvC p x.a (nn-x.at_)≠0):(lvStep p nn x).a=pvA p x.a (nn-x.at_)∧(lvStep p nn x).c=pvC p x.a (nn-x.at_)∧(lvStep p nn x).out=x.out:=by
 have h':=h
 rw [pvC] at h'
 rw [lvStep_yes hc,if_neg h'];exact ⟨rfl,rfl,rfl⟩
theorem pvR_bd {p:List UInt8} {s room:Int} (h:pvC p s room=0):0≤pvR p s room∧pvR p s room<room:=by
 have h1:fuC p s 0 (kR room)=0:=by
  by_cases h0:fuC p s 0 (kR room)=0
  ·exact h0
  ·rw [pvC,fuC_keep h0] at h;exact absurd h h0
 rw [pvR,if_pos h]
 refine ⟨fuV_nn _ _ _ _,?_⟩
 have hu:=ueV_nn p s
 rw [fuV,if_pos h1]
 rw [fuC,if_pos rfl] at h1
 split at h1
 ·by_cases hlt:ueV p s<room
  ·exact hlt
  ·have h1:ifE (ueV p s<room) 5=0:=h1
   rw [ifE_no hlt] at h1;cases h1
 ·rename_i hh;exact absurd h1 hh
section
attribute [local irreducible] ueA ueV ueC pvC pvA pvR pvL lvOf
instance l23Pair_s:Con 219 (∀ (p:List UInt8) (s room:Int),p.length≤1099511627776→Fn 219 [RA p s,I room] [] (.tup [RA p (pvA p s room),.agg [I (pvR p s room),I (pvL p s room)],I (pvC p s room)])):=⟨fun p s room hl=>by
 have hb:=ueV_bd p s
 have hb2:=ueV_bd p (ueA p s)
 refine FnC.of_body tabOk Tryz.func219 Tryz.ntmps219 rfl (by decide +kernel) (by simp) fun G=>?_
 by_cases h1:ueC p s=0
 rotate_left
 ·obtain ⟨e1,e2,e3,e4⟩:=pv_1 (room:=room) h1
  rw [e1,e2,e3,e4]
  refine go (r:=?_);and_intros<;>intros<;>try exact True.intro
  all_goals first|contradiction
 by_cases h2:ueV p s<room
 rotate_left
 ·obtain ⟨e1,e2,e3,e4⟩:=pv_2 (room:=room) h1 h2
  rw [e1,e2,e3,e4]
  refine go (r:=?_);and_intros<;>intros<;>try exact True.intro
  all_goals first|contradiction|omega
 by_cases h3:ueC p (ueA p s)=0
 rotate_left
 ·obtain ⟨e1,e2,e3,e4⟩:=pv_3 (room:=room) h1 h2 h3
  rw [e1,e2,e3,e4]
  refine go (r:=?_);and_intros<;>intros<;>try exact True.intro
  all_goals first|contradiction|omega
 by_cases h4:-16383≤lvOf (ueV p (ueA p s))∧lvOf (ueV p (ueA p s))≤16383
 rotate_left
 ·obtain ⟨e1,e2,e3,e4⟩:=pv_4 (room:=room) h1 h2 h3 h4
  rw [e1,e2,e3,e4]
  refine go (r:=?_);and_intros<;>intros<;>try exact True.intro
  all_goals first|contradiction|omega
 obtain ⟨e1,e2,e3,e4⟩:=pv_5 (room:=room) h1 h2 h3 h4
 rw [e1,e2,e3,e4]
 refine go (r:=?_);and_intros<;>intros<;>try exact True.intro
 all_goals first|contradiction|omega⟩
end
theorem lv_1 {p:List UInt8} {s n:Int} (h:¬RbOk p s 1):lvS p s n=⟨s,1,0,List.replicate (n*n).toNat 0⟩:=by
 have e1:fbC p s 0 1 k0C=1:=by rw [fbC,if_pos rfl,if_neg h]
 have e2:fbA p s 0 1 k0C=s:=by rw [fbA,if_neg (by rw [e1];decide)]
 rw [lvS_no (by rw [fbV,if_neg (by rw [e1];decide)]),e1,e2]
theorem k0_ok {p:List UInt8} {s:Int} (h:RbOk p s 1):fbC p s 0 1 k0C=0∧fbA p s 0 1 k0C=rbA p s 1∧fbV p s 0 1 k0C=rbV p s 1:=by
 have e1:fbC p s 0 1 k0C=0:=by rw [fbC,if_pos rfl,if_pos h]
 exact ⟨e1,by rw [fbA,if_pos ⟨rfl,e1⟩],by rw [fbV,if_pos e1]⟩
theorem lv_2 {p:List UInt8} {s n:Int} (h:RbOk p s 1) (hv:rbV p s 1=0):lvS p s n=⟨rbA p s 1,0,0,List.replicate (n*n).toNat 0⟩:=by
 obtain ⟨e1,e2,e3⟩:=k0_ok h
 rw [lvS_no (by rw [e3];exact hv),e1,e2]
theorem lvRun_c {p:List UInt8} {nn:Int} {x:LvS} (h:x.c≠0) (j:Nat):lvRun p nn x j=x:=lvRun_stop (k:=0) h j (Nat.zero_le _)
theorem lv_3 {p:List UInt8} {s n:Int} (h:RbOk p s 1) (hv:rbV p s 1≠0) (hu:ueC p (rbA p s 1)≠0):lvS p s n=⟨rbA p s 1,ueC p (rbA p s 1),0,List.replicate (n*n).toNat 0⟩:=by
 obtain ⟨e1,e2,e3⟩:=k0_ok h
 have f:=fu_bad (k:=kR (n*n)) hu
 rw [lvS_yes (by rw [e3];exact hv),e1,e2,f.1,f.2,lvRun_c hu]
theorem lv_4 {p:List UInt8} {s n:Int} (h:RbOk p s 1) (hv:rbV p s 1≠0) (hu:ueC p (rbA p s 1)=0) (h2:¬ueV p (rbA p s 1)<n*n):lvS p s n=⟨rbA p s 1,5,0,List.replicate (n*n).toNat 0⟩:=by
 obtain ⟨e1,e2,e3⟩:=k0_ok h
 have f:=fu_chk (k:=kR (n*n)) hu (ifE_no h2) (by decide)
 rw [lvS_yes (by rw [e3];exact hv),e1,e2,f.1,f.2,lvRun_c (show (5:Int)≠0 by decide)]
theorem lv_5 {p:List UInt8} {s n:Int} (h:RbOk p s 1) (hv:rbV p s 1≠0) (hu:ueC p (rbA p s 1)=0) (h2:ueV p (rbA p s 1)<n*n):lvS p s n=lvRun p (n*n) ⟨ueA p (rbA p s 1),0,0,List.replicate (n*n).toNat 0⟩ (1+ueV p (rbA p s 1)).toNat:=by
 obtain ⟨e1,e2,e3⟩:=k0_ok h
 have f:=fu_yes (k:=kR (n*n)) hu (ifE_yes h2)
 rw [lvS_yes (by rw [e3];exact hv),e1,e2,f.1,f.2.1,f.2.2]
section
attribute [local irreducible] rbA rbV ueA ueV ueC pvC pvA pvR pvL lvOf lvS lvRun
instance l23Levels_s:Con 135 (∀ (p:List UInt8) (s n:Int),p.length≤1099511627776∧(n=4∨n=8)→Fn 135 [RA p s,I n] [XI (lvS p s n).out] (.tup [RA p (lvS p s n).a,.own 0 0 0 (lvS p s n).out.length,I (lvS p s n).c])):=⟨fun p s n hl=>by
 obtain ⟨hl,hn⟩:=hl
 have hnn:16≤n*n∧n*n≤64:=by rcases hn with rfl|rfl<;>decide
 have hn2:=mul_in (a:=n) (b:=n) (by omega) (by omega)
 refine FnC.of_body tabOk Tryz.func135 Tryz.ntmps135 rfl (by decide +kernel) (by simp) fun G=>?_
 by_cases h1:RbOk p s 1
 rotate_left
 ·rw [lv_1 h1]
  refine go (r:=?_);and_intros<;>intros<;>try exact True.intro
  all_goals first|contradiction
 by_cases h2:rbV p s 1=0
 ·rw [lv_2 h1 h2]
  refine go (r:=?_);and_intros<;>intros<;>try exact True.intro
  all_goals first|contradiction
 have hb:=ueV_bd p (rbA p s 1)
 have hb2:=ueV_nn p (rbA p s 1)
 by_cases h3:ueC p (rbA p s 1)=0
 rotate_left
 ·rw [lv_3 h1 h2 h3]
  refine go (r:=?_);and_intros<;>intros<;>try exact True.intro
  all_goals first|contradiction
 by_cases h4:ueV p (rbA p s 1)<n*n
 rotate_left
 ·rw [lv_4 h1 h2 h3 h4]
  refine go (r:=?_);and_intros<;>intros<;>try exact True.intro
  all_goals first|contradiction|omega
 rw [lv_5 h1 h2 h3 h4]
 have hr0:=lvRun_at (p:=p) (nn:=n*n) (x:=⟨ueA p (rbA p s 1),0,0,List.replicate (n*n).toNat 0⟩) (show (0:Int)≤0∧(0:Int)≤n*n by omega)
 have hln:=lvRun_len p (n*n) ⟨ueA p (rbA p s 1),0,0,List.replicate (n*n).toNat 0⟩
 have hst:∀k,lvRun p (n*n) ⟨ueA p (rbA p s 1),0,0,List.replicate (n*n).toNat 0⟩ (k+1)=lvStep p (n*n) (lvRun p (n*n) ⟨ueA p (rbA p s 1),0,0,List.replicate (n*n).toNat 0⟩ k):=fun _=>by rw [lvRun]
 have hsp:=fun k=>lvRun_stop (p:=p) (nn:=n*n) (x:=⟨ueA p (rbA p s 1),0,0,List.replicate (n*n).toNat 0⟩) (k:=k)
 have hz:lvRun p (n*n) ⟨ueA p (rbA p s 1),0,0,List.replicate (n*n).toNat 0⟩ 0=⟨ueA p (rbA p s 1),0,0,List.replicate (n*n).toNat 0⟩:=by rw [lvRun]
 generalize lvRun p (n*n) ⟨ueA p (rbA p s 1),0,0,List.replicate (n*n).toNat 0⟩=X at hr0 hln hst hsp hz ⊢
 have hz2:(X (1+ueV p (rbA p s 1)).toNat).out.length=(n*n).toNat:=by rw [hln];simp
 refine go (r:=?_);and_intros<;>intros<;>try exact True.intro
 all_goals first|contradiction|omega|skip
 generalize ueV p (rbA p s 1)=u at hb hb2 h4 hz2 ⊢
 refine WpA.loop (fun k:Nat=>⟨[(1,I n),(4,.ptr 1 0 0),(7,.own 2 0 0 (n*n).toNat),(11,.ptr 4 0 0),(12,I u),(14,I (X k).at_),(15,I k)],[BoxR p s,R0,XI (X k).out,⟨[Z p,I (rbA p s 1)],0,0,none⟩,⟨[Z p,I (X k).a],0,0,none⟩]⟩) (fun k=>(k:Int)≤1+u∧(X k).c=0) (fun k=>(1+u).toNat-k) 0 (by rw [hz];exact ⟨by omega,rfl⟩) (go (r:=?_)) (fun k hk=>?_)
 ·rw [hz];and_intros<;>first|exact True.intro|rfl
 have hr0:=hr0 k
 have hln:=hln k
 have hst:=hst k
 have hsp1:=fun h=>hsp (k+1) h (1+u).toNat
 have hfin:¬(k:Int)≤u→X (1+u).toNat=X k:=fun h=>by rw [show (1+u).toNat=k by omega]
 generalize hy:X k=y at hr0 hln hst hsp1 hk hfin ⊢
 have hln:y.out.length=(n*n).toNat:=by simpa using hln
 have hrm:=pvR_bd (p:=p) (s:=y.a) (room:=n*n-y.at_)
 by_cases hp:pvC p y.a (n*n-y.at_)=0
 ·have hrm:=hrm hp
  rw [lvStep_pv0 hk.2 hp] at hst
  clear hsp1
  refine go (r:=?_);and_intros<;>intros<;>try exact True.intro
  all_goals first|contradiction|(rw [hst];done)|(rw [hfin (by assumption)];first|done|exact hk.2.symm)
 ·have e:=lvStep_pv1 (p:=p) (nn:=n*n) hk.2 hp
  rw [←hst] at e
  have hNk:=hsp1 (by rw [e.2.1];exact hp)
  clear hst hrm
  refine go (r:=?_);and_intros<;>intros<;>try exact True.intro
  all_goals first|contradiction|(rw [hfin (by assumption)];first|done|exact hk.2.symm)|(rw [hNk (by omega)];first|exact e.1.symm|exact e.2.1.symm|exact e.1|exact e.2.1|rw [e.1]|rw [e.2.1]|rw [e.2.2])⟩
end
section
attribute [local irreducible] lvS smA smV smC blS
instance ReadBlock_s:Con 116 (∀ (p:List UInt8) (s:Int) (lens:List Int) (n:Int),p.length≤1099511627776∧lens.length≤1099511627776→Fn 116 [RA p s,IL lens,I n] [XI (blS p s lens n).l] (.tup [RA p (blS p s lens n).a,BkV (blS p s lens n).m (blS p s lens n).l,I (blS p s lens n).c])):=⟨fun p s lens n hl=>by
 refine FnC.of_body tabOk Tryz.func116 Tryz.ntmps116 rfl (by decide +kernel) (by simp) fun G=>?_
 by_cases hn:n=4∨n=8
 rotate_left
 ·rw [blS_4 hn]
  refine go (r:=?_);and_intros<;>intros<;>try exact True.intro
  all_goals first|contradiction
 by_cases hs:smC p s lens=0
 rotate_left
 ·rw [blS_3 hn hs]
  have ea:=smA_bad hs
  refine go (r:=?_);and_intros<;>intros<;>try exact True.intro
  all_goals first|contradiction
 by_cases hy:(lvS p (smA p s lens) n).c=0
 ·rw [blS_1 hn hs hy]
  refine go (r:=?_);and_intros<;>intros<;>try exact True.intro
  all_goals first|contradiction
 ·rw [blS_2 hn hs hy]
  refine go (r:=?_);and_intros<;>intros<;>try exact True.intro
  all_goals first|contradiction⟩
end
section
attribute [local irreducible] rbA rbV blS mbS mbRun sz8 nm8
instance ReadMb_s:Con 51 (∀ (p:List UInt8) (s:Int) (lens:List Int),p.length≤1099511627776∧lens.length≤1099511627776→Fn 51 [RA p s,IL lens] [BkO (mbS p s lens).1.bs] (.tup [RA p (mbS p s lens).1.a,MbV (mbS p s lens).2 (mbS p s lens).1.bs.length,I (mbS p s lens).1.c])):=⟨fun p s lens hl=>by
 refine FnC.of_body tabOk Tryz.func51 Tryz.ntmps51 rfl (by decide +kernel) (by simp) fun G=>?_
 by_cases ho:RbOk p s 1
 rotate_left
 ·rw [mbS_no ho]
  refine go (r:=?_);and_intros<;>intros<;>try exact True.intro
  all_goals first|contradiction
 have ea:=(rb_yes ho).1
 generalize hE:decide (rbV p s 1=1)=E
 rw [mbS_yes ho hE]
 have hc8:=sz8_cases E
 have hnn:sz8 E*sz8 E=16∨sz8 E*sz8 E=64:=by rcases hc8 with ⟨h,_⟩|⟨h,_⟩<;>rw [h]<;>decide
 have hq:64/(sz8 E*sz8 E)=nm8 E:=by rcases hc8 with ⟨h,h2⟩|⟨h,h2⟩<;>rw [h,h2]<;>decide
 refine go (r:=?_);and_intros<;>intros<;>try exact True.intro
 all_goals first|contradiction|skip
 rw [hE,ea]
 have hz:(mbRun p (s+1) lens (sz8 E) 0)=⟨s+1,0,[]⟩:=by rw [mbRun]
 have hln:=fun k h=>mbRun_len p (s+1) lens (sz8 E) k h
 have hnx:=fun k h hb=>mbRun_next (p:=p) (s:=s+1) (lens:=lens) (n:=sz8 E) (k:=k) h hb
 have hbd:=fun k h hb j hj=>mbRun_bad (p:=p) (s:=s+1) (lens:=lens) (n:=sz8 E) (k:=k) h hb j hj
 generalize mbRun p (s+1) lens (sz8 E)=X at hz hln hnx hbd ⊢
 refine WpA.loop (fun k:Nat=>⟨[(1,IL lens),(4,.ptr 1 0 0),(5,.ptr 2 0 0),(7,.ptr 3 0 0),(10,.ptr 4 0 0),(11,I (sz8 E)),(12,I k)],[BoxR p s,R0,⟨[B false,.nilS],0,0,none⟩,⟨[Z p,I (X k).a],0,0,none⟩,⟨[B E,.own 5 0 0 k],0,0,none⟩,BkO (X k).bs]⟩) (fun k=>(k:Int)≤nm8 E∧(X k).c=0) (fun k=>(nm8 E).toNat-k) 0 (by rw [hz];exact ⟨by omega,rfl⟩) ?_ (fun k hk=>?_)
 ·rw [hz];exact Weak.nil1 (by first|(show 0≤_;exact Nat.zero_le _)|(repeat' (first|exact RzT.nil|refine RzT.cons ?_ ?_|exact Rz.nil|refine Rz.keep rfl rfl ?_|refine Rz.own rfl rfl rfl rfl rfl (by first|rfl|omega|(simp;done)) ?_|refine Rz.ptr rfl rfl rfl rfl ?_|refine Rz.nilO rfl rfl rfl (by first|rfl|omega|(simp;done)) ?_|refine Rz.agg ?_ ?_|exact RzO.last rfl|(refine RzO.cons ?_ (.inr rfl) ?_)|exact Rz.same rfl (still_ints _)|exact Rz.same rfl (still_rows (fun _=>rfl) _)))) (by first|(show 0≤_;exact Nat.zero_le _)|(repeat' (first|exact RzT.nil|refine RzT.cons ?_ ?_|exact Rz.nil|refine Rz.keep rfl rfl ?_|refine Rz.own rfl rfl rfl rfl rfl (by first|rfl|omega|(simp;done)) ?_|refine Rz.ptr rfl rfl rfl rfl ?_|refine Rz.nilO rfl rfl rfl (by first|rfl|omega|(simp;done)) ?_|refine Rz.agg ?_ ?_|exact RzO.last rfl|(refine RzO.cons ?_ (.inr rfl) ?_)|exact Rz.same rfl (still_ints _)|exact Rz.same rfl (still_rows (fun _=>rfl) _)))) (Nat.zero_le _)
 have hln:=hln k hk.2
 have hnx:=hnx k hk.2
 have hbd:=hbd k hk.2
 have hfin:¬(k:Int)<nm8 E→X (nm8 E).toNat=X k:=fun h=>by rw [show (nm8 E).toNat=k by omega]
 generalize hy:X k=y at hk hln hnx hbd hfin ⊢
 have hln:y.bs.length=k:=hln
 by_cases hb:(blS p y.a lens (sz8 E)).c=0
 ·have hnx:=hnx hb
  clear hbd
  refine go (r:=?_);and_intros<;>intros<;>try exact True.intro
  all_goals rw [hq] at*
  all_goals first|contradiction|omega|(rw [hnx];done)|(rw [hfin (by assumption)];first|done|omega|(simp [hk.2];done)|(simp only;omega))
 ·have hbd:=hbd hb
  clear hnx
  refine go (r:=?_);and_intros<;>intros<;>try exact True.intro
  all_goals rw [hq] at*
  all_goals first|contradiction|omega|(rw [hbd _ (by omega)];first|done|(simp [hb];done))|(rw [hfin (by assumption)];first|done|omega|(simp [hk.2];done)|(simp only;omega))⟩
end
end Go.Proofs.YtndflfipaddfoaaGreat


namespace Go.Proofs.YtndflfipaddfoaaGreat
open Go Go.Abs
attribute [local irreducible] WpA WpL Rnd Blk Abs.Seq Abs.Fin Abs.FinG FnC FnG Only
def sdV (p:List UInt8) (s:Int):Int:=if ueC p s=0∧ueV p s>3 then 0 else 8*ueV p s+8
def lnL (p:List UInt8) (s:Int):List Int:=if RbOk p s 18 then lensV (rbV p s 18) else []
attribute [local irreducible] rbA rbV ueA ueV ueC fuA fuC fuV fbA fbC fbV sdV lnL zrs numB lft hdS lensV
end Go.Proofs.YtndflfipaddfoaaGreat


namespace Go.Proofs.YtndflfipaddfoaaGreat
open Go Go.Abs
attribute [local irreducible] WpA WpL Rnd Blk Abs.Seq Abs.Fin Abs.FinG FnC FnG Only
section
attribute [local irreducible] hdS stRun mbS endC cntM
end
end Go.Proofs.YtndflfipaddfoaaGreat


namespace Go.Proofs.YtndflfipaddfoaaGreat
open Go Go.Abs
attribute [local irreducible] WpA WpL Rnd Blk Abs.Seq Abs.Fin Abs.FinG FnC FnG Only
section
attribute [local irreducible] prS
end
end Go.Proofs.YtndflfipaddfoaaGreat


namespace Go.Proofs.YtndflfipaddfoaaGreat
open Go Go.Abs
attribute [local irreducible] WpA WpL Rnd Blk Abs.Seq Abs.Fin Abs.FinG FnC FnG FnX FnP FinX Only
attribute [local irreducible] belowD onceD pickD modeD l8D l8AnyD optD anyD seedD headD headAnyD symL HasC blkD mbD strD unpS
theorem l3Reader_x (v:Value) (l:List Int) (c:Cr) (h:CrOk l c):FnX Tryz.prog 172 [.ptr 0 0 0] [CurO v c] [v] [CodA l] (Cr×List UInt8×Int) (fun y=>CrOk l y.1∧y.2.1.length≤8) (fun y=>[CurO v y.1]) (fun _=>[]) (fun y=>.agg [Z y.2.1,I y.2.2]):=by
 have hb:=belowD_ok 9 h
 have hb0:=hb.2.1
 have hb1:=hb.2.2.1 (by decide)
 refine FnX.of_body tabOk Tryz.func172 Tryz.ntmps172 rfl (by decide +kernel) (by simp) rfl rfl fun G hp=>?_
 refine go (r:=?_);and_intros<;>intros<;>try exact True.intro
 all_goals first|exact h.2.1|exact h.2.2|skip
 refine WpA.loop (fun x:Nat×Cr×List UInt8=>⟨[(0,.ptr 0 0 0),(2,.ptr 1 0 0),(3,Z x.2.2),(4,I x.1)],[CurO v x.2.1,⟨[Z [],I 0],0,0,none⟩]⟩) (fun x=>CrOk l x.2.1∧x.2.2.length+x.1≤8) (fun x=>x.1) ((belowD l c 9).2.toNat,(belowD l c 9).1,[]) ⟨hb.1,by simp only [List.length_nil];omega⟩ ?_ ?_
 ·have ez:(((belowD l c 9).2.toNat:Nat):Int)=(belowD l c 9).2:=by omega
  simp only [ez]
  exact zk0
 rintro ⟨k,c1,s⟩ ⟨hc1,hlen⟩
 try simp only at hc1 hlen ⊢
 by_cases hk0:k=0
 ·subst hk0
  have hb2:=belowD_ok (8*(s.length:Int)+1) hc1
  have ho:=onceD_ok 14 hb2.1
  have hp1:=pickD_ok (xs:=[-1,8*(s.length:Int)+1]) ho (by simp)
  refine go (r:=?_);and_intros<;>intros<;>try exact True.intro
  all_goals first|exact hc1.2.1|exact hc1.2.2|exact hb2.1.2.1|exact hb2.1.2.2|exact ho.2.1|exact ho.2.2|(simp;done)|omega|skip
  all_goals
   refine FinX.fin (y:=((_,_),_,_)) (FinG.oI [some 0] rfl (ResV.cell (ds:=[_,_]) rfl rfl rfl rfl rfl) (.agg (.keep rfl rfl rfl (.keep rfl rfl rfl .nil)) .nil) (.obj rfl rfl rfl rfl rfl (.inr rfl) .nil) rfl rfl) ⟨?_,?_⟩
  all_goals first|exact hp1.1|exact ho|(simp only;omega)
 ·have hb2:=belowD_ok 256 hc1
  have hp1:=pickD_ok (xs:=[0,1,255,128,(belowD l c1 256).2]) hb2.1 (by simp)
  refine go (r:=?_);and_intros<;>intros<;>try exact True.intro
  all_goals first|exact hc1.2.1|exact hc1.2.2|exact hb2.1.2.1|exact hb2.1.2.2|(simp;done)|omega|skip
  refine Rnd.go (k-1,(pickD l (belowD l c1 256).1 [0,1,255,128,(belowD l c1 256).2]).1,s++List.map (fun n:Int=>UInt8.ofNat n.toNat) [IntKind.u8.wrap (pickD l (belowD l c1 256).1 [0,1,255,128,(belowD l c1 256).2]).2]) ⟨hp1.1,by simp only [List.length_append,List.length_map,List.length_singleton];omega⟩ ?_ ?_
  ·show k-1<k;omega
  ·exact zk0
end Go.Proofs.YtndflfipaddfoaaGreat


namespace Go.Abs
open Go
theorem RelAt.preC {n m G S ι F T O a w} (hr:RelAt n m G S ι F ⟨T,O⟩ a w) {id:Nat} (j:Nat) {ob:AObj} (ho:O[id]?=some ob):∃F',RelAt n m G S ι F' ⟨T,O.set id ⟨ob.cells.take j,ob.ep,ob.size,ob.ty⟩⟩ a w:=by
 have hid:id<O.length:=(List.getElem?_eq_some_iff.1 ho).1
 have hlat:Later S w ι O S w ι (O.set id ⟨ob.cells.take j,ob.ep,ob.size,ob.ty⟩):=⟨fun _ h=>h,fun _ _=>rfl,fun i oi hi=>by
  by_cases e:i=id
  ·subst e;rw [ho] at hi;cases hi
   exact ⟨⟨ob.cells.take j,ob.ep,ob.size,ob.ty⟩,by rw [List.getElem?_set_self hid],.inr ⟨rfl,rfl,rfl⟩⟩
  ·exact ⟨oi,by rw [List.getElem?_set,if_neg (fun h=>e h.symm)];exact hi,.inr ⟨rfl,rfl,rfl⟩⟩⟩
 obtain ⟨g,hg,hsub,hnd⟩:∃g,ObjAt S w ι (O.set id ⟨ob.cells.take j,ob.ep,ob.size,ob.ty⟩) ⟨ob.cells.take j,ob.ep,ob.size,ob.ty⟩ (ι id) g∧(∀ b∈g,b∈F id)∧g.Nodup:=by
  have h:=hr.objs.obj id _ ho
  have hn:=hr.objs.nodup id hid
  unfold ObjAt at h ⊢
  cases hs:ι id with
  |none=>rw [hs] at h;exact ⟨[],⟨by simp [h.1],rfl⟩,by simp,by simp⟩
  |some p=>
   obtain ⟨b,k⟩:=p
   rw [hs] at h
   obtain ⟨cur,t,fz,f',h1,h2,h3,h4,h5,h6,h7⟩:=h
   obtain ⟨g,g1,g2,g3⟩:=h7.take j
   rw [h1] at hn ⊢
   obtain ⟨n1,n2⟩:=List.nodup_cons.1 hn
   have hle:(ob.cells.take j).length≤ob.cells.length:=List.length_take_le' _ _
   refine ⟨b::g,⟨cur,t,fz,g,rfl,h2,h3,by show (ob.cells.take j).length≤k;omega,h5,h6,?_⟩,fun c hc=>?_,List.nodup_cons.2 ⟨fun hc=>n1 (g2 _ hc),g3 n2⟩⟩
   ·have e2:cur.toList.take (ob.cells.take j).length=(cur.toList.take ob.cells.length).take j:=by
     rw [List.take_take,List.length_take]
    show LRel S w ι _ (ob.cells.take j) (cur.toList.take (ob.cells.take j).length) g
    rw [e2];exact g1.mono hlat (fun _ _=>rfl)
   ·rcases List.mem_cons.1 hc with hc|hc
    ·exact hc▸List.mem_cons_self
    ·exact List.mem_cons_of_mem _ (g2 _ hc)
 have hF:∀i b,b∈upd F id g i→b∈F i:=fun i b hb=>by
  by_cases e:i=id
  ·subst e;rw [upd_same] at hb;exact hsub b hb
  ·rw [upd_other _ _ e] at hb;exact hb
 refine ⟨upd F id g,hr.defers,hr.size,fun t=>(hr.tmps t).mono hlat (by simp),⟨fun i oi hi=>?_,fun i hi=>?_,fun i j' hi hj hij b hb hb'=>hr.objs.apart i j' (by simpa using hi) (by simpa using hj) hij b (hF i b hb) (hF j' b hb')⟩,fun i hi b hb=>hr.foot i (by simpa using hi) b (hF i b hb),hr.base,hr.stable,hr.keeps,hr.spots,by have:=hr.mle;simpa using this⟩
 ·have hi:(O.set id ⟨ob.cells.take j,ob.ep,ob.size,ob.ty⟩)[i]?=some oi:=hi
  by_cases e:i=id
  ·subst e
   rw [List.getElem?_set_self hid] at hi;cases hi
   rw [upd_same];exact hg
  ·rw [upd_other _ _ e]
   rw [List.getElem?_set,if_neg (fun h=>e h.symm)] at hi
   have h:=hr.objs.obj i oi hi
   unfold ObjAt at h ⊢
   cases hs:ι i with
   |none=>rw [hs] at h;exact h
   |some p=>
    obtain ⟨b,k⟩:=p
    rw [hs] at h
    obtain ⟨cur,t,fz,f',h1,h2,h3,h4,h5,h6,h7⟩:=h
    exact ⟨cur,t,fz,f',h1,h2,h3,h4,h5,h6,h7.mono hlat (fun _ _=>rfl)⟩
 ·by_cases e:i=id
  ·subst e;rw [upd_same];exact hnd
  ·rw [upd_other _ _ e];exact hr.objs.nodup i (by simpa using hi)
theorem Weak.preC {m id:Nat} {T:List (Nat×AV)} {O:List AObj} {ob:AObj} (j:Nat) (ho:O[id]?=some ob):Weak m ⟨T,O⟩ ⟨T,O.set id ⟨ob.cells.take j,ob.ep,ob.size,ob.ty⟩⟩:=by
 rintro n G a w ⟨S,ι,F,hr⟩
 obtain ⟨F',h⟩:=hr.preC j ho
 exact ⟨S,ι,F',h⟩
theorem rows_take {α:Type} {f:α→List AV} {k:Nat} (hk:∀a,(f a).length=k):∀(xs:List α) (j:Nat),(rows f xs).take (j*k)=rows f (xs.take j)
 |[],j=>by simp [rows]
 |x::xs,0=>by simp [rows]
 |x::xs,j+1=>by
  have ih:=rows_take hk xs j
  have e:(j+1)*k=(f x).length+j*k:=by rw [hk,Nat.add_mul,Nat.one_mul,Nat.add_comm]
  rw [e]
  simp only [rows,List.flatMap_cons,List.take_succ_cons] at ih ⊢
  rw [List.take_append,Nat.add_sub_cancel_left,List.take_of_length_le (by omega),ih]
theorem Weak.preRows {m id k ep sz:Nat} {te:Option TypeId} {T:List (Nat×AV)} {O:List AObj} {α:Type} {f:α→List AV} {xs:List α} (j:Nat) (hk:∀a,(f a).length=k) (ho:O[id]?=some ⟨rows f xs,ep,sz,te⟩):Weak m ⟨T,O⟩ ⟨T,O.set id ⟨rows f (xs.take j),ep,sz,te⟩⟩:=by
 have:=Weak.preC (m:=m) (T:=T) (j*k) ho
 rw [rows_take hk] at this
 exact this
end Go.Abs
