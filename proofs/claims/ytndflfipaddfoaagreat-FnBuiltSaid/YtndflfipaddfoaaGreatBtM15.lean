/- Proved in this text: lemmas and contracts of functions that the claim uses (parts: Fld, RdH, RdV, RdB, RdT, RdW, RdHs, RdP, Ln, ParL, Dec, Bits, BitsM). No condition. -/
import Derived.Test.YtndflfipaddfoaaGreatBtM14
import Derived.Test.YtndflfipaddfoaaGreatBtM7
import Derived.Test.YtndflfipaddfoaaGreatBtM10
import Derived.Test.YtndflfipaddfoaaGreatBtM11
set_option linter.unusedVariables false
set_option linter.unusedSimpArgs false
set_option maxRecDepth 100000
set_option maxHeartbeats 16000000


namespace Go.Proofs.YtndflfipaddfoaaGreat
open Go Go.Abs
attribute [local irreducible] WpA WpL Rnd Blk Abs.Seq Abs.Fin Abs.FinG FnC FnG Only
instance unless_c:Con 175 (∀ (b:Bool) (c:Int),Fn 175 [B b,I c] [] (I (bif b then 0 else c))):=⟨fun b c=>by
 cases b
 ·refine FnC.of_body tabOk Tryz.func175 Tryz.ntmps175 rfl (by decide +kernel) (by simp) fun G=>?_
  refine go (r:=?_);and_intros<;>intros<;>try exact True.intro
  all_goals rfl
 ·refine FnC.of_body tabOk Tryz.func175 Tryz.ntmps175 rfl (by decide +kernel) (by simp) fun G=>?_
  refine go (r:=?_);and_intros<;>intros<;>try exact True.intro
  all_goals rfl⟩
instance levels1_c:Con 213 (∀ x:Int,Fn 213 [I x] [] (I 0)):=⟨fun x=>by
 refine FnC.of_body tabOk Tryz.func213 Tryz.ntmps213 rfl (by decide +kernel) (by simp) fun G=>?_
 refine go (r:=?_);and_intros<;>intros<;>try exact True.intro⟩
instance levels2_c:Con 214 (∀ x n:Int,0≤n∧n≤8→Fn 214 [I x,.iptr [I n] 0] [] (I (ifE (x<n*n) 5))):=⟨fun x n h=>by
 have hnn:=mul_in (a:=n) (b:=n) (by omega) (by omega)
 refine FnC.of_body tabOk Tryz.func214 Tryz.ntmps214 rfl (by decide +kernel) (by simp) fun G=>?_
 refine go (r:=?_);and_intros<;>intros<;>try exact True.intro⟩
instance levels3_c:Con 215 (∀ x n t:Int,(0≤n∧n≤8)∧0≤t∧t≤1099511627776→Fn 215 [I x,.iptr [I n] 0,.iptr [I t] 0] [] (I (ifE (x<n*n-t) 5))):=⟨fun x n t h=>by
 have hnn:0≤n*n∧n*n≤64:=⟨Int.mul_nonneg h.1.1 h.1.1,by have:=Int.mul_le_mul h.1.2 h.1.2 h.1.1 (by decide);omega⟩
 have hn2:=mul_in (a:=n) (b:=n) (by omega) (by omega)
 refine FnC.of_body tabOk Tryz.func215 Tryz.ntmps215 rfl (by decide +kernel) (by simp) fun G=>?_
 refine go (r:=?_);and_intros<;>intros<;>try exact True.intro⟩
instance levels4_c:Con 217 (∀ x:Int,-4611686018427387904≤x∧x≤4611686018427387904→Fn 217 [I x] [] (I (ifE (-16383≤lvOf x∧lvOf x≤16383) 5))):=⟨fun x h=>by
 refine FnC.of_body tabOk Tryz.func217 Tryz.ntmps217 rfl (by decide +kernel) (by simp) fun G=>?_
 refine go (r:=?_);and_intros<;>intros<;>try exact True.intro⟩
abbrev FldO (p:List UInt8) (s c:Int):AObj:=⟨[Z p,I s,I c],0,0,none⟩
abbrev Chk (g:Nat) (caps:List AV) (k:Int→Int):Prop:=caps.all AV.still=true∧caps.all AV.nofre=true∧∀x:Int,-1≤x∧x≤4294967296→Fn g (I x::caps) [] (I (k x))
abbrev ChkB (g:Nat) (caps:List AV) (k:Int→Int):Prop:=caps.all AV.still=true∧caps.all AV.nofre=true∧∀x:Int,0≤x∧x≤4294967296→Fn g (I x::caps) [] (I (k x))
theorem fbits_c (p:List UInt8) (s c n:Int) (g:Nat) (caps:List AV) (k:Int→Int) (hl:p.length≤1099511627776) (hk:ChkB g caps k):Gn 177 [.ptr 0 0 0,I n,.fn g caps] [FldO p s c] [FldO p (fbA p s c n k) (fbC p s c n k)] [] (I (fbV p s c n k)):=by
 obtain ⟨hc1,hc2,hg⟩:=hk
 have hv:=rbV_bd p s n
 refine FnG.of_bodyF tabOk Tryz.func177 Tryz.ntmps177 rfl (by decide +kernel) (by simp) rfl rfl fun G=>?_
 by_cases hc:c=0
 ·by_cases hok:RbOk p s n
  ·have e1:fbC p s c n k=k (rbV p s n):=by rw [fbC,if_pos hc,if_pos hok]
   refine go (r:=?_);and_intros<;>intros<;>try exact True.intro
   refine K.callT ?_
   refine WpL.callV0 rfl (hg (rbV p s n) ⟨by omega,by omega⟩) rfl (.keep rfl rfl (Snap.same rfl hc1 hc2)) (.sc .nil) rfl rfl (by decide) ?_
   by_cases hk0:k (rbV p s n)=0
   ·have e2:fbA p s c n k=rbA p s n:=by rw [fbA,if_pos ⟨hc,by rw [e1,hk0]⟩]
    have e3:fbV p s c n k=rbV p s n:=by rw [fbV,if_pos (by rw [e1,hk0])]
    refine go (r:=?_);and_intros<;>intros<;>try exact True.intro
    all_goals first|(exact absurd hk0 (by assumption))|(rw [e1];done)|(rw [e2];done)|(rw [e3];done)
   ·have e2:fbA p s c n k=s:=by rw [fbA,if_neg (by rw [e1];exact fun h=>hk0 h.2)]
    have e3:fbV p s c n k=0:=by rw [fbV,if_neg (by rw [e1];exact hk0)]
    refine go (r:=?_);and_intros<;>intros<;>try exact True.intro
    all_goals first|(exact absurd (by assumption) hk0)|(rw [e1];done)|(rw [e2];done)|(rw [e3];done)
  ·have e1:fbC p s c n k=1:=by rw [fbC,if_pos hc,if_neg hok]
   have e2:fbA p s c n k=s:=by rw [fbA,if_neg (by rw [e1];omega)]
   have e3:fbV p s c n k=0:=by rw [fbV,if_neg (by rw [e1];omega)]
   refine go (r:=?_);and_intros<;>intros<;>try exact True.intro
   all_goals first|(exact absurd (by assumption) hok)|(rw [e1];done)|(rw [e2];done)|(rw [e3];done)
 ·have e1:fbC p s c n k=c:=by rw [fbC,if_neg hc]
  have e2:fbA p s c n k=s:=by rw [fbA,if_neg (by omega)]
  have e3:fbV p s c n k=0:=by rw [fbV,if_neg (by rw [e1];omega)]
  refine go (r:=?_);and_intros<;>intros<;>try exact True.intro
  all_goals first|(exact absurd (by assumption) hc)|(rw [e1];done)|(rw [e2];done)|(rw [e3];done)
theorem ueV_bd (p:List UInt8) (s:Int):-1≤ueV p s∧ueV p s≤4294967296:=by
 have h:=rbV_bd p s (2*(zrs p s:Int)+1)
 unfold ueV;split<;>omega
theorem fue_c (p:List UInt8) (s c:Int) (g:Nat) (caps:List AV) (k:Int→Int) (hl:p.length≤1099511627776) (hk:Chk g caps k):Gn 179 [.ptr 0 0 0,.fn g caps] [FldO p s c] [FldO p (fuA p s c k) (fuC p s c k)] [] (I (fuV p s c k)):=by
 obtain ⟨hc1,hc2,hg⟩:=hk
 have hv:=ueV_bd p s
 refine FnG.of_bodyF tabOk Tryz.func179 Tryz.ntmps179 rfl (by decide +kernel) (by simp) rfl rfl fun G=>?_
 by_cases hc:c=0
 ·by_cases hok:ueC p s=0
  ·have e1:fuC p s c k=k (ueV p s):=by rw [fuC,if_pos hc,if_pos hok]
   refine go (r:=?_);and_intros<;>intros<;>try exact True.intro
   all_goals first|(exact absurd hok (by assumption))|skip
   refine K.callT ?_
   refine WpL.callV0 rfl (hg (ueV p s) hv) rfl (.keep rfl rfl (Snap.same rfl hc1 hc2)) (.sc .nil) rfl rfl (by decide) ?_
   by_cases hk0:k (ueV p s)=0
   ·have e2:fuA p s c k=ueA p s:=by rw [fuA,if_pos (by rw [e1,hk0])]
    have e3:fuV p s c k=ueV p s:=by rw [fuV,if_pos (by rw [e1,hk0])]
    refine go (r:=?_);and_intros<;>intros<;>try exact True.intro
    all_goals first|(exact absurd hk0 (by assumption))|(rw [e1];done)|(rw [e2];done)|(rw [e3];done)
   ·have e2:fuA p s c k=s:=by rw [fuA,if_neg (by rw [e1];exact hk0)]
    have e3:fuV p s c k=0:=by rw [fuV,if_neg (by rw [e1];exact hk0)]
    refine go (r:=?_);and_intros<;>intros<;>try exact True.intro
    all_goals first|(exact absurd (by assumption) hk0)|(rw [e1];done)|(rw [e2];done)|(rw [e3];done)
  ·have e1:fuC p s c k=ueC p s:=by rw [fuC,if_pos hc,if_neg hok]
   have e2:fuA p s c k=s:=by rw [fuA,if_neg (by rw [e1];exact hok)]
   have e3:fuV p s c k=0:=by rw [fuV,if_neg (by rw [e1];exact hok)]
   refine go (r:=?_);and_intros<;>intros<;>try exact True.intro
   all_goals first|(exact absurd (by assumption) hok)|(rw [e1];done)|(rw [e2];done)|(rw [e3];done)
 ·have e1:fuC p s c k=c:=by rw [fuC,if_neg hc]
  have e2:fuA p s c k=s:=by rw [fuA,if_neg (by rw [e1];exact hc)]
  have e3:fuV p s c k=0:=by rw [fuV,if_neg (by rw [e1];exact hc)]
  refine go (r:=?_);and_intros<;>intros<;>try exact True.intro
  all_goals first|(exact absurd (by assumption) hc)|(rw [e1];done)|(rw [e2];done)|(rw [e3];done)
instance rh1_c:Con 173 (∀ x:Int,Fn 173 [I x] [] (I 0)):=⟨fun x=>by
 refine FnC.of_body tabOk Tryz.func173 Tryz.ntmps173 rfl (by decide +kernel) (by simp) fun G=>?_
 refine go (r:=?_);and_intros<;>intros<;>try exact True.intro⟩
instance rh2_c:Con 174 (∀ x:Int,Fn 174 [I x] [] (I (ifE (x≤3) 3))):=⟨fun x=>by
 refine FnC.of_body tabOk Tryz.func174 Tryz.ntmps174 rfl (by decide +kernel) (by simp) fun G=>?_
 refine go (r:=?_);and_intros<;>intros<;>try exact True.intro⟩
instance rh4_c:Con 178 (∀ x:Int,Fn 178 [I x] [] (I (ifE (x=183) 2))):=⟨fun x=>by
 refine FnC.of_body tabOk Tryz.func178 Tryz.ntmps178 rfl (by decide +kernel) (by simp) fun G=>?_
 refine go (r:=?_);and_intros<;>intros<;>try exact True.intro⟩
instance rh5_c:Con 180 (∀ x:Int,Fn 180 [I x] [] (I (ifE (x≤51) 3))):=⟨fun x=>by
 refine FnC.of_body tabOk Tryz.func180 Tryz.ntmps180 rfl (by decide +kernel) (by simp) fun G=>?_
 refine go (r:=?_);and_intros<;>intros<;>try exact True.intro⟩
theorem and7 (a:Int) (h:0≤a∧a≤4611686018427387904):IntKind.i64.wrap ((BitVec.ofInt IntKind.i64.bits a &&& BitVec.ofInt IntKind.i64.bits 7).toNat:Nat)=a%8:=by
 obtain ⟨x,rfl⟩:∃x:Nat,a=x:=⟨a.toNat,by omega⟩
 have h1:(BitVec.ofInt IntKind.i64.bits (x:Int)).toNat=x:=by simp only [IntKind.bits,BitVec.toNat_ofInt];omega
 have h2:(BitVec.ofInt IntKind.i64.bits (7:Int)).toNat=2 ^ 3-1:=by decide
 rw [BitVec.toNat_and,h1,h2,Nat.and_two_pow_sub_one_eq_mod,wrap64 _ (by omega)]
 omega
def lensK (v:Int) (k:Nat):List Int:=(List.range k).map fun j=>lenAt v (5-j)
theorem lensK_6 (v:Int):lensK v 6=lensV v:=rfl
theorem lensK_succ (v:Int) (k:Nat):lensK v (k+1)=lensK v k++[lenAt v (5-k)]:=by simp [lensK,List.range_succ]
theorem lensK_len (v:Int) (k:Nat):(lensK v k).length=k:=by simp [lensK]
instance rh3_c:Con 176 (∀ x:Int,0≤x∧x≤4294967296→Fn 176 [I x] [XI (lensV x)] (.own 0 0 0 6)):=⟨fun x hx=>by
 refine FnC.of_body tabOk Tryz.func176 Tryz.ntmps176 rfl (by decide +kernel) (by simp) fun G=>?_
 refine go (r:=?_);and_intros<;>intros<;>try exact True.intro
 refine WpA.loop (fun k:Nat=>⟨[(0,I x),(3,.own 0 0 0 k),(4,I (5-(k:Int)))],[XI (lensK x k)]⟩) (fun k=>k≤6) (fun k=>6-k) 0 (by omega) (go (r:=?_)) (fun k hk=>?_)
 ·simp [lensK]
 have hkl:=lensK_len x k
 have hks:=lensK_succ x k
 have hd0:=Int.ediv_nonneg (a:=x) (b:=2 ^ (3*(5-(k:Int))).toNat) hx.1 (Int.pow_nonneg (by decide))
 have hd1:=Int.ediv_le_self (a:=x) (2 ^ (3*(5-(k:Int))).toNat) hx.1
 have hla:lenAt x (5-k)=x/2 ^ (3*(5-k))%8:=rfl
 refine go (r:=?_);and_intros<;>intros<;>try exact True.intro
 ·rw [hks,and7 _ ⟨hd0,by omega⟩,hla,show (3*(5-(k:Int))).toNat=3*(5-k) by omega]
 ·rw [show k=6 by omega,lensK_6]⟩
instance rh6_c:Con 181 (∀ x:Int,0≤x∧x≤4294967296→Fn 181 [I x,.iptr [.fn 176 []] 0] [] (I (ifE (CodeOk (lensV x)) 4))):=⟨fun x hx=>by
 have hll:(lensV x).length=6:=rfl
 refine FnC.of_body tabOk Tryz.func181 Tryz.ntmps181 rfl (by decide +kernel) (by simp) fun G=>?_
 refine go (r:=?_);and_intros<;>intros<;>try exact True.intro⟩
end Go.Proofs.YtndflfipaddfoaaGreat


namespace Go.Proofs.YtndflfipaddfoaaGreat
open Go Go.Abs
attribute [local irreducible] WpA WpL Rnd Blk Abs.Seq Abs.Fin Abs.FinG FnC FnG Only
theorem fuV_bd (p:List UInt8) (s c:Int) (k:Int→Int):-1≤fuV p s c k∧fuV p s c k≤4294967296:=by
 have:=ueV_bd p s
 unfold fuV;split<;>omega
theorem fbV_bd (p:List UInt8) (s c n:Int) (k:Int→Int):0≤fbV p s c n k∧fbV p s c n k≤4294967296:=by
 have:=rbV_bd p s n
 unfold fbV;split<;>omega
abbrev HdV (x:HdS):AV:=.agg [I x.W,I x.H,I x.Q,B x.B,B x.D,.own 0 0 0 x.L.length]
instance ReadHeader_c:Con 89 (∀ (p:List UInt8) (s:Int),p.length≤1099511627776→Fn 89 [RA p s] [XI (hdS p s).L] (.tup [RA p (hdS p s).a,HdV (hdS p s),I (hdS p s).c])):=⟨fun p s hl=>by
 refine FnC.of_body tabOk Tryz.func89 Tryz.ntmps89 rfl (by decide +kernel) (by simp) fun G=>?_
 refine go (r:=?_);and_intros<;>intros<;>try exact True.intro
 refine K.call ?_
 refine WpL.callM (hs:=[3]) (fbits_c p s 0 8 178 [] hk1 hl ⟨rfl,rfl,fun x _=>rh4_c.ok x⟩) handA handOA rfl rfl (.cons rfl (.sc (.sc (.sc .nil))) .nil) outA rfl rfl rfl rfl (by decide) ?_
 have b1:=fbV_bd p s 0 8 hk1
 generalize hv1:fbV p s 0 8 hk1=v1 at b1 ⊢
 generalize ha1:fbA p s 0 8 hk1=a1
 generalize hc1:fbC p s 0 8 hk1=c1
 refine go (r:=?_);and_intros<;>intros<;>try exact True.intro
 refine K.call ?_
 refine WpL.callM (hs:=[3]) (fue_c p a1 c1 174 [] hk2 hl ⟨rfl,rfl,fun x _=>rh2_c.ok x⟩) handA handOA rfl rfl (.cons rfl (.sc (.sc (.sc .nil))) .nil) outA rfl rfl rfl rfl (by decide) ?_
 have b2:=fuV_bd p a1 c1 hk2
 generalize hv2:fuV p a1 c1 hk2=v2 at b2 ⊢
 generalize ha2:fuA p a1 c1 hk2=a2
 generalize hc2:fuC p a1 c1 hk2=c2
 refine go (r:=?_);and_intros<;>intros<;>try exact True.intro
 refine K.call ?_
 refine WpL.callM (hs:=[3]) (fue_c p a2 c2 174 [] hk2 hl ⟨rfl,rfl,fun x _=>rh2_c.ok x⟩) handA handOA rfl rfl (.cons rfl (.sc (.sc (.sc .nil))) .nil) outA rfl rfl rfl rfl (by decide) ?_
 have b3:=fuV_bd p a2 c2 hk2
 generalize hv3:fuV p a2 c2 hk2=v3 at b3 ⊢
 generalize ha3:fuA p a2 c2 hk2=a3
 generalize hc3:fuC p a2 c2 hk2=c3
 refine go (r:=?_);and_intros<;>intros<;>try exact True.intro
 refine K.call ?_
 refine WpL.callM (hs:=[3]) (fbits_c p a3 c3 6 180 [] hk3 hl ⟨rfl,rfl,fun x _=>rh5_c.ok x⟩) handA handOA rfl rfl (.cons rfl (.sc (.sc (.sc .nil))) .nil) outA rfl rfl rfl rfl (by decide) ?_
 have b4:=fbV_bd p a3 c3 6 hk3
 generalize hv4:fbV p a3 c3 6 hk3=v4 at b4 ⊢
 generalize ha4:fbA p a3 c3 6 hk3=a4
 generalize hc4:fbC p a3 c3 6 hk3=c4
 refine go (r:=?_);and_intros<;>intros<;>try exact True.intro
 refine K.call ?_
 refine WpL.callM (hs:=[3]) (fbits_c p a4 c4 2 173 [] hk4 hl ⟨rfl,rfl,fun x _=>rh1_c.ok x⟩) handA handOA rfl rfl (.cons rfl (.sc (.sc (.sc .nil))) .nil) outA rfl rfl rfl rfl (by decide) ?_
 have b5:=fbV_bd p a4 c4 2 hk4
 generalize hv5:fbV p a4 c4 2 hk4=v5 at b5 ⊢
 generalize ha5:fbA p a4 c4 2 hk4=a5
 generalize hc5:fbC p a4 c4 2 hk4=c5
 refine go (r:=?_);and_intros<;>intros<;>try exact True.intro
 refine K.call ?_
 refine WpL.callM (hs:=[3]) (fbits_c p a5 c5 18 181 [.iptr [.fn 176 []] 0] hk5 hl ⟨rfl,rfl,fun x h=>rh6_c.ok x h⟩) handA handOA rfl rfl (.cons rfl (.sc (.sc (.sc .nil))) .nil) outA rfl rfl rfl rfl (by decide) ?_
 have b6:=fbV_bd p a5 c5 18 hk5
 generalize hv6:fbV p a5 c5 18 hk5=v6 at b6 ⊢
 generalize ha6:fbA p a5 c5 18 hk5=a6
 generalize hc6:fbC p a5 c5 18 hk5=c6
 have hS:hdS p s=⟨a6,c6,v2,v3,v4,v5,v6⟩:=by simp only [hdS,ha1,hc1,ha2,hc2,ha3,hc3,ha4,hc4,ha5,hc5,ha6,hc6,hv2,hv3,hv4,hv5,hv6]
 rw [hS]
 clear hS ha1 hc1 ha2 hc2 ha3 hc3 ha4 hc4 ha5 hc5 ha6 hc6 hv1 hv2 hv3 hv4 hv5 hv6
 have hll:(lensV v6).length=6:=rfl
 by_cases h0:c6=0
 ·have eW:HdS.W ⟨a6,c6,v2,v3,v4,v5,v6⟩=8*(v2+1):=if_pos h0
  have eH:HdS.H ⟨a6,c6,v2,v3,v4,v5,v6⟩=8*(v3+1):=if_pos h0
  have eQ:HdS.Q ⟨a6,c6,v2,v3,v4,v5,v6⟩=v4:=if_pos h0
  have eL:HdS.L ⟨a6,c6,v2,v3,v4,v5,v6⟩=lensV v6:=if_pos h0
  have eB:HdS.B ⟨a6,c6,v2,v3,v4,v5,v6⟩=decide (v5≥2):=by unfold HdS.B;simp [h0]
  have eD:HdS.D ⟨a6,c6,v2,v3,v4,v5,v6⟩=decide (v5%2=1):=by unfold HdS.D;simp [h0]
  have eV:∀y:HdS,HdV y=.agg [I y.W,I y.H,I y.Q,B y.B,B y.D,.own 0 0 0 y.L.length]:=fun _=>rfl
  rw [eV,eL,eW,eH,eQ,eB,eD]
  refine go (r:=?_);and_intros<;>intros<;>try exact True.intro
 ·have eW:HdS.W ⟨a6,c6,v2,v3,v4,v5,v6⟩=0:=if_neg h0
  have eH:HdS.H ⟨a6,c6,v2,v3,v4,v5,v6⟩=0:=if_neg h0
  have eQ:HdS.Q ⟨a6,c6,v2,v3,v4,v5,v6⟩=0:=if_neg h0
  have eL:HdS.L ⟨a6,c6,v2,v3,v4,v5,v6⟩=[]:=if_neg h0
  have eB:HdS.B ⟨a6,c6,v2,v3,v4,v5,v6⟩=false:=by unfold HdS.B;simp [h0]
  have eD:HdS.D ⟨a6,c6,v2,v3,v4,v5,v6⟩=false:=by unfold HdS.D;simp [h0]
  have eV:∀y:HdS,HdV y=.agg [I y.W,I y.H,I y.Q,B y.B,B y.D,.own 0 0 0 y.L.length]:=fun _=>rfl
  rw [eV,eL,eW,eH,eQ,eB,eD]
  refine go (r:=?_);and_intros<;>intros<;>try exact True.intro⟩
end Go.Proofs.YtndflfipaddfoaaGreat


namespace Go.Proofs.YtndflfipaddfoaaGreat
open Go Go.Abs
theorem zrW_stop (p:List UInt8) (s:Int):∀(f n:Nat),zrW p s f n=n+f∨btA p (s+(zrW p s f n:Nat))≠0
 |0,n=>.inl rfl
 |f+1,n=>by
  rw [zrW];split
  ·rcases zrW_stop p s f (n+1) with h|h
   ·exact .inl (by omega)
   ·exact .inr h
  ·rename_i h;exact .inr h
theorem zrs_stop (p:List UInt8) (s:Int):(zrs p s:Int)=lft p s∨btA p (s+(zrs p s:Nat))≠0:=by
 have hb:=lft_bd p s
 rcases zrW_stop p s (lft p s).toNat 0 with h|h
 ·exact .inl (by unfold zrs;omega)
 ·exact .inr h
theorem ueV_nn (p:List UInt8) (s:Int):0≤ueV p s:=by
 unfold ueV;split
 ·rename_i h
  by_cases h15:zrs p s≤15
  ·by_cases hok:RbOk p s (2*(zrs p s:Int)+1)
   ·rw [(rb_yes hok).2]
    have hlo:=lft_ok hok.1
    have hst:=zrs_stop p s
    have hbo:=btA_out p (s+(zrs p s:Nat))
    have hbd:=btA_bd p (s+(zrs p s:Nat))
    have hb1:btA p (s+(zrs p s:Nat))=1:=by
     rcases hst with h|h
     ·omega
     ·omega
    have e:=numB_add p s (zrs p s+1) (zrs p s)
    have h1:=numB_bd p (s+((zrs p s+1:Nat):Int)) (zrs p s)
    have h2:=numB_bd p s (zrs p s)
    have h3:numB p s (zrs p s+1)=numB p s (zrs p s)*2+bv p (s+(zrs p s:Nat)):=rfl
    have h4:bv p (s+(zrs p s:Nat))=1:=by unfold bv;omega
    have hp:(0:Int)<2 ^ zrs p s:=by exact_mod_cast Nat.pow_pos (by decide)
    have h5:1*2 ^ zrs p s≤numB p s (zrs p s+1)*2 ^ zrs p s:=Int.mul_le_mul_of_nonneg_right (by omega) (by omega)
    rw [show (2*(zrs p s:Int)+1).toNat=zrs p s+1+zrs p s by omega,e]
    omega
   ·rw [(ue_short h15 hok).2.1] at h;omega
  ·rw [(ue_code (s:=s) (p:=p) h15).2.1] at h;omega
 ·omega
theorem fuV_nn (p:List UInt8) (s c:Int) (k:Int→Int):0≤fuV p s c k:=by
 have:=ueV_nn p s
 unfold fuV;split<;>omega
theorem fuV_lt {p:List UInt8} {s c b e:Int} (he:e≠0) (h:0<b):fuV p s c (fun y=>ifE (y<b) e)<b:=by
 unfold fuV;split
 ·rename_i h1
  unfold fuC at h1
  split at h1
  ·split at h1
   ·by_cases hlt:ueV p s<b
    ·exact hlt
    ·have h1:ifE (ueV p s<b) e=0:=h1
     rw [ifE_no hlt] at h1;exact absurd h1 he
   ·omega
  ·omega
 ·omega
theorem fuV_zero {p:List UInt8} {s c:Int} {k:Int→Int} (h:fuC p s c k≠0):fuV p s c k=0:=by rw [fuV,if_neg h]
abbrev kR (b:Int):Int→Int:=fun y=>ifE (y<b) 5
abbrev kL:Int→Int:=fun y=>ifE (-16383≤lvOf y∧lvOf y≤16383) 5
theorem lvStep_yes {p:List UInt8} {nn:Int} {x:LvS} (hc:x.c=0):lvStep p nn x=
 (if fuC p (fuA p x.a 0 (kR (nn-x.at_))) (fuC p x.a 0 (kR (nn-x.at_))) kL=0 then
  ⟨fuA p (fuA p x.a 0 (kR (nn-x.at_))) (fuC p x.a 0 (kR (nn-x.at_))) kL,fuC p (fuA p x.a 0 (kR (nn-x.at_))) (fuC p x.a 0 (kR (nn-x.at_))) kL,x.at_+fuV p x.a 0 (kR (nn-x.at_))+1,
   x.out.set (x.at_+fuV p x.a 0 (kR (nn-x.at_))).toNat (lvOf (fuV p (fuA p x.a 0 (kR (nn-x.at_))) (fuC p x.a 0 (kR (nn-x.at_))) kL))⟩
 else ⟨fuA p (fuA p x.a 0 (kR (nn-x.at_))) (fuC p x.a 0 (kR (nn-x.at_))) kL,fuC p (fuA p x.a 0 (kR (nn-x.at_))) (fuC p x.a 0 (kR (nn-x.at_))) kL,x.at_+fuV p x.a 0 (kR (nn-x.at_)),x.out⟩):=by
 rw [lvStep,if_pos hc]
theorem lvStep_no {p:List UInt8} {nn:Int} {x:LvS} (hc:x.c≠0):lvStep p nn x=x:=by rw [lvStep,if_neg hc]
theorem fuC_keep {p:List UInt8} {s c:Int} {k:Int→Int} (h:c≠0):fuC p s c k=c:=by rw [fuC,if_neg h]
theorem lvStep_at {p:List UInt8} {nn:Int} {x:LvS} (h:0≤x.at_∧x.at_≤nn):0≤(lvStep p nn x).at_∧(lvStep p nn x).at_≤nn:=by
 by_cases hc:x.c=0
 ·rw [lvStep_yes hc]
  have h1:=fuV_nn p x.a 0 (kR (nn-x.at_))
  by_cases hr:fuC p x.a 0 (kR (nn-x.at_))=0
  ·have h2:fuV p x.a 0 (kR (nn-x.at_))<nn-x.at_:=by
    rcases Int.lt_or_le 0 (nn-x.at_) with hp|hp
    ·exact fuV_lt (by decide) hp
    ·exfalso
     have hv:=ueV_nn p x.a
     unfold fuC at hr
     simp only [if_true] at hr
     split at hr
     ·have hr:ifE (ueV p x.a<nn-x.at_) 5=0:=hr
      rw [ifE_no (by omega)] at hr;cases hr
     ·rename_i hh;exact hh hr
   split
   ·show 0≤x.at_+_+1∧x.at_+_+1≤nn;omega
   ·show 0≤x.at_+_∧x.at_+_≤nn;omega
  ·rw [if_neg (by rw [fuC_keep hr];exact hr)]
   show 0≤x.at_+_∧x.at_+_≤nn
   rw [fuV_zero hr];omega
 ·rw [lvStep_no hc];exact h
theorem lvRun_at {p:List UInt8} {nn:Int} {x:LvS} (h:0≤x.at_∧x.at_≤nn):∀k,0≤(lvRun p nn x k).at_∧(lvRun p nn x k).at_≤nn
 |0=>h
 |k+1=>by rw [lvRun];exact lvStep_at (lvRun_at h k)
theorem lvRun_stop {p:List UInt8} {nn:Int} {x:LvS} {k:Nat} (h:(lvRun p nn x k).c≠0):∀j,k≤j→lvRun p nn x j=lvRun p nn x k
 |0,hj=>by have:k=0:=by omega
           subst this;rfl
 |j+1,hj=>by
  rcases Nat.lt_or_ge j k with h2|h2
  ·have:k=j+1:=by omega
   subst this;rfl
  ·have e:=lvRun_stop h j h2
   rw [lvRun,e,lvStep_no h]
theorem newO_tail (mb:AObj):∀(k:Nat) (R:List AObj),0<k→newO [0] [mb] k R=R
 |_,[],_=>rfl
 |k,ob::R,hk=>by
  rw [newO,newO_tail mb (k+1) R (by omega)]
  have:findN [0] k 0=none:=by
   rw [findN]
   have:Nat.beq 0 k=false:=by cases k with|zero=>omega|succ k=>rfl
   rw [this];rfl
  unfold newOb;rw [this]
theorem split4 {Ov:List AObj} {a b c d:AObj} (h0:Ov[0]?=some a) (h1:Ov[1]?=some b) (h2:Ov[2]?=some c) (h3:Ov[3]?=some d):∃R,Ov=a::b::c::d::R:=by
 match Ov,h3 with
 |a'::b'::c'::d'::R,h3=>simp at h0 h1 h2 h3;exact ⟨R,by rw [h0,h1,h2,h3]⟩
 |[],h=>simp at h
 |[_],h=>simp at h
 |[_,_],h=>simp at h
 |[_,_,_],h=>simp at h
theorem split3 {Ov:List AObj} {b c d:AObj} (hc:4≤Ov.length) (h1:Ov[1]?=some b) (h2:Ov[2]?=some c) (h3:Ov[3]?=some d):∃x R,Ov=x::b::c::d::R:=by
 match Ov,h3 with
 |a'::b'::c'::d'::R,h3=>simp at h1 h2 h3;exact ⟨a',R,by rw [h1,h2,h3]⟩
 |[],h=>simp at h
 |[_],h=>simp at h
 |[_,_],h=>simp at h
 |[_,_,_],h=>simp at h
section
variable {P:Program} {n m:Nat} {G:Ctx} {T:List (Nat×AV)} {R:List AObj} {Q:Exit→St→Prop} {ops:Array Oper} {l:List Oper} {tt:TypeId} {pos:String} {after:Array Edge}
theorem callM1 {f:FuncId} {xs:List Operand} {ats:Array TypeId} {As:List AV} {ob mb0 mb:AObj} {v:Int} {d:Nat} (hc:FnG P f As [mb0] [mb] [] (I v)) (hh:HandM (ob::R) [0] [mb0] (xs.map (av T)) As) (hM:HandO (ob::R) [0] [mb0]) (hsz:mb.size=mb0.size) (hM':Out [mb]) (hn:d<n)
 (h:WpL P n m G false ops l ⟨(d,I v)::T,⟨mb.cells,ob.ep,mb.size,mb.ty⟩::R⟩ Q):
 WpL P n m G false ops ({dst:=some d,op:=.call {callee:=.value (.func f),args:=xs.toArray,argTypes:=ats},type:=tt,pos:=pos,after:=after,guard:=none}::l) ⟨T,ob::R⟩ Q:=by
 refine WpL.op rfl (fun a w hr=>?_) h
 have hcl:=callG_rel hc hh hM (by simp) rfl (fun j x y hx hy=>by
  cases j with
  |zero=>simp at hx hy;subst hx hy;exact hsz
  |succ j=>simp at hx) hM' .nil (r':=I v) rfl hr
 have e:newO [0] [mb] 0 (ob::R)++[]=⟨mb.cells,ob.ep,mb.size,mb.ty⟩::R:=by
  rw [List.append_nil,newO,newO_tail mb 1 R (by omega)];rfl
 rw [e] at hcl
 obtain ⟨⟨fn,hf,hbd,hnm⟩,_⟩:=hc
 have hex:(execOp a.eval {dst:=some d,op:=.call {callee:=.value (.func f),args:=xs.toArray,argTypes:=ats},type:=tt,pos:=pos,after:=after,guard:=none}).run P w=.ok (.enter f (xs.map a.eval).toArray) w:=by
  simp only [execOp,resolve,Act.eval,Deferred.ofValue,invoke,callFunc,Sem.run_bind,Sem.run_pure,Result.andThen_ok,program,Sem.run,hf,hnm,hbd,Bool.false_eq_true,if_false]
  simp
 unfold Oper.wp
 rw [hex]
 refine hcl.mono fun e w' ⟨v,he,S,ι,F,hr',hv⟩=>?_
 subst he
 exact ⟨S,ι,F,hr'.put hn hv⟩
end
attribute [local irreducible] WpA WpL Rnd Blk Abs.Seq Abs.Fin Abs.FinG FnC FnG Only
abbrev k0C:Int→Int:=fun _=>0
theorem lvS_no {p:List UInt8} {s n:Int} (h:fbV p s 0 1 k0C=0):lvS p s n=⟨fbA p s 0 1 k0C,fbC p s 0 1 k0C,0,List.replicate (n*n).toNat 0⟩:=by
 unfold lvS;simp only;rw [if_pos h]
theorem lvS_yes {p:List UInt8} {s n:Int} (h:fbV p s 0 1 k0C≠0):lvS p s n=lvRun p (n*n) ⟨fuA p (fbA p s 0 1 k0C) (fbC p s 0 1 k0C) (kR (n*n)),fuC p (fbA p s 0 1 k0C) (fbC p s 0 1 k0C) (kR (n*n)),0,List.replicate (n*n).toNat 0⟩ (1+fuV p (fbA p s 0 1 k0C) (fbC p s 0 1 k0C) (kR (n*n))).toNat:=by
 unfold lvS;simp only;rw [if_neg h]
theorem lv_room {p:List UInt8} {s nn t:Int} (ht:0≤t∧t≤nn) (h:fuC p s 0 (kR (nn-t))=0):t+fuV p s 0 (kR (nn-t))<nn:=by
 have h2:fuV p s 0 (kR (nn-t))<nn-t:=by
  rcases Int.lt_or_le 0 (nn-t) with hp|hp
  ·exact fuV_lt (by decide) hp
  ·exfalso
   have hv:=ueV_nn p s
   unfold fuC at h
   simp only [if_true] at h
   split at h
   ·have h:ifE (ueV p s<nn-t) 5=0:=h
    rw [ifE_no (by omega)] at h;cases h
   ·rename_i hh;exact hh h
 omega
theorem flv_c (p:List UInt8) (s n:Int) (hl:p.length≤1099511627776) (hn:n=4∨n=8):Gn 131 [.ptr 0 0 0,I n] [FldO p s 0] [FldO p (lvS p s n).a (lvS p s n).c] [XI (lvS p s n).out] (.own 1 0 0 (lvS p s n).out.length):=by
 have hnn:16≤n*n∧n*n≤64:=by rcases hn with rfl|rfl<;>decide
 have hn2:=mul_in (a:=n) (b:=n) (by omega) (by omega)
 generalize hx:lvS p s n=x
 refine FnG.of_bodyF tabOk Tryz.func131 Tryz.ntmps131 rfl (by decide +kernel) (by simp) rfl rfl fun G=>?_
 refine go (r:=?_);and_intros<;>intros<;>try exact True.intro
 refine K.call ?_
 refine WpL.callM (hs:=[0]) (fbits_c p s 0 1 213 [] k0C hl ⟨rfl,rfl,fun x _=>levels1_c.ok x⟩) handA handOA rfl rfl (.cons rfl (.sc (.sc (.sc .nil))) .nil) outA rfl rfl rfl rfl (by decide) ?_
 have b1:=fbV_bd p s 0 1 k0C
 by_cases hv:fbV p s 0 1 k0C=0
 ·rw [lvS_no hv] at hx
  subst hx
  refine go (r:=?_);and_intros<;>intros<;>try exact True.intro
  all_goals first|(exact absurd hv (by assumption))
 ·rw [lvS_yes hv] at hx
  generalize hv1:fbV p s 0 1 k0C=v1 at b1 hv ⊢
  generalize ha1:fbA p s 0 1 k0C=a1 at hx
  generalize hc1:fbC p s 0 1 k0C=c1 at hx
  refine go (r:=?_);and_intros<;>intros<;>try exact True.intro
  all_goals first|(exact absurd (by assumption) hv)|skip
  refine K.call ?_
  refine WpL.callM (hs:=[0]) (fue_c p a1 c1 214 [.iptr [I n] 0] (kR (n*n)) hl ⟨rfl,rfl,fun x _=>levels2_c.ok x n (by omega)⟩) handA handOA rfl rfl (.cons rfl (.sc (.sc (.sc .nil))) .nil) outA rfl rfl rfl rfl (by decide) ?_
  have b2:=fuV_bd p a1 c1 (kR (n*n))
  have b3:=fuV_nn p a1 c1 (kR (n*n))
  generalize hv2:fuV p a1 c1 (kR (n*n))=v2 at b2 b3 hx ⊢
  generalize ha2:fuA p a1 c1 (kR (n*n))=a2 at hx ⊢
  generalize hc2:fuC p a1 c1 (kR (n*n))=c2 at hx ⊢
  have hr0:=lvRun_at (p:=p) (nn:=n*n) (x:=⟨a2,c2,0,List.replicate (n*n).toNat 0⟩) (show (0:Int)≤0∧(0:Int)≤n*n by omega)
  have hln:=lvRun_len p (n*n) ⟨a2,c2,0,List.replicate (n*n).toNat 0⟩
  have hst:∀k,lvRun p (n*n) ⟨a2,c2,0,List.replicate (n*n).toNat 0⟩ (k+1)=lvStep p (n*n) (lvRun p (n*n) ⟨a2,c2,0,List.replicate (n*n).toNat 0⟩ k):=fun _=>rfl
  have hsp:=fun k=>lvRun_stop (p:=p) (nn:=n*n) (x:=⟨a2,c2,0,List.replicate (n*n).toNat 0⟩) (k:=k)
  have hz:lvRun p (n*n) ⟨a2,c2,0,List.replicate (n*n).toNat 0⟩ 0=⟨a2,c2,0,List.replicate (n*n).toNat 0⟩:=rfl
  generalize lvRun p (n*n) ⟨a2,c2,0,List.replicate (n*n).toNat 0⟩=X at hr0 hln hst hsp hz hx
  refine goR (r:=?_);and_intros<;>intros<;>try exact True.intro
  refine WpA.loop (fun k:Nat=>⟨[(0,.ptr 0 0 0),(3,.ptr 1 0 0),(5,.own 2 0 0 (n*n).toNat),(6,.ptr 3 0 0),(7,I (1+v2)),(8,I k)],[FldO p (X k).a (X k).c,⟨[I n],0,0,none⟩,XI (X k).out,⟨[I (X k).at_],0,0,none⟩]⟩) (fun k=>(k:Int)≤1+v2) (fun k=>(1+v2).toNat-k) 0 (by omega) (go (r:=?_)) (fun k hk=>?_)
  ·rw [hz];and_intros<;>first|exact True.intro|rfl
  have hr0:=hr0 k
  have hln:=hln k
  have hst:=hst k
  have hsp:=hsp k
  generalize hy:X k=y at hr0 hln hst hsp ⊢
  have hln:y.out.length=(n*n).toNat:=by simpa using hln
  have hfin:(y.c≠0∨¬(k:Int)<1+v2)→y=x:=by
   rintro (h|h)
   ·rw [←hx,hsp h (1+v2).toNat (by omega)]
   ·have:k=(1+v2).toNat:=by omega
    rw [←hx,←this,hy]
  refine goR (r:=?_);and_intros<;>intros<;>try exact True.intro
  ·have hyc:y.c=0:=by assumption
   have b4:=fuV_bd p y.a y.c (kR (n*n-y.at_))
   have b5:=fuV_nn p y.a y.c (kR (n*n-y.at_))
   have hkb:∀x:Int,-1≤x∧x≤4294967296→Fn 215 (I x::[.iptr [I n] 0,.iptr [I y.at_] 0]) [] (I (kR (n*n-y.at_) x)):=fun x _=>levels3_c.ok x n y.at_ (by omega)
   apply WpA.regionQF (O:=[]) (Or:=[FldO p y.a y.c,⟨[I n],0,0,none⟩,XI y.out,⟨[I y.at_],0,0,none⟩]) (O1:=[FldO p (fuA p y.a y.c (kR (n*n-y.at_))) (fuC p y.a y.c (kR (n*n-y.at_))),⟨[I n],0,0,none⟩,XI y.out,⟨[I y.at_],0,0,none⟩]) 5 0 [1,2,3] rfl mixed (by decide +kernel)
   ·exact rfl
   ·apply HeadQ.consF (V:=I y.at_) .none rfl
    ·exact rfl
    ·intro Tv Ov hc hp hd hk
     obtain ⟨x0,R,rfl⟩:=split3 hc (hk 1 rfl) (hk 2 rfl) (hk 3 rfl)
     exact in0
    ·exact rfl
    ·exact rfl
    apply HeadQ.consF .none rfl
    ·exact rfl
    ·exact in1
    ·exact rfl
    ·exact rfl
    apply HeadQ.consF (V:=.fn 215 [.ptr 1 0 0,.ptr 3 0 0]) .none rfl
    ·exact rfl
    ·exact in1
    ·exact rfl
    ·exact rfl
    apply HeadQ.consF (V:=I (fuV p y.a y.c (kR (n*n-y.at_)))) (.step 0 (FldO p (fuA p y.a y.c (kR (n*n-y.at_))) (fuC p y.a y.c (kR (n*n-y.at_))))) rfl
    ·exact rfl
    ·intro Tv Ov hc hp hd hk
     obtain ⟨R,rfl⟩:=split4 (hp 0 _ rfl) (hk 1 rfl) (hk 2 rfl) (hk 3 rfl)
     refine K.call ?_
     refine callM1 (fue_c p y.a y.c 215 [.iptr [I n] 0,.iptr [I y.at_] 0] (kR (n*n-y.at_)) hl ⟨rfl,rfl,hkb⟩) handA handOA rfl (.cons rfl (.sc (.sc (.sc .nil))) .nil) (by decide) ?_
     exact WpL.nil (Only.mk rfl)
    ·exact rfl
    ·exact rfl
    apply HeadQ.consF .none rfl
    ·exact rfl
    ·exact in1
    ·exact rfl
    ·exact rfl
    exact HeadQ.nil
   ·exact rfl
   ·exact rfl
   ·exact rfl
   ·exact rfl
   ·exact rfl
   ·exact rfl
   ·exact rfl
   generalize hA1:fuA p y.a y.c (kR (n*n-y.at_))=A1
   generalize hC1:fuC p y.a y.c (kR (n*n-y.at_))=C1
   generalize hV1:fuV p y.a y.c (kR (n*n-y.at_))=w1 at b4 b5 ⊢
   rw [hyc] at hA1 hC1 hV1
   have hroom:=lv_room (p:=p) (s:=y.a) hr0
   rw [hC1,hV1] at hroom
   rw [lvStep_yes hyc,hA1,hC1,hV1] at hst
   have hkeep:=fun h=>fuC_keep (p:=p) (s:=A1) (c:=C1) (k:=kL) h
   refine go (r:=?_);and_intros<;>intros<;>try exact True.intro
   refine K.call ?_
   refine WpL.callM (hs:=[0]) (fue_c p A1 C1 217 [] kL hl ⟨rfl,rfl,fun x h=>levels4_c.ok x (by omega)⟩) handA handOA rfl rfl (.cons rfl (.sc (.sc (.sc .nil))) .nil) outA rfl rfl rfl rfl (by decide) ?_
   have b6:=fuV_bd p A1 C1 kL
   by_cases hc2:fuC p A1 C1 kL=0
   ·have h10:C1=0:=by
     by_cases h:C1=0
     ·exact h
     ·exact absurd (hkeep h▸hc2) h
    have hroom:=hroom h10
    rw [if_pos hc2] at hst
    refine go (r:=?_);and_intros<;>intros<;>try exact True.intro
    all_goals first|(exact absurd hc2 (by assumption))|(rw [hst];done)|(rw [hst];rfl)|(rw [hst];simp only;omega)
   ·rw [if_neg hc2] at hst
    refine go (r:=?_);and_intros<;>intros<;>try exact True.intro
    all_goals first|(exact absurd (by assumption) hc2)|(rw [hst];done)|(rw [hst];rfl)
  all_goals first|(obtain rfl:=hfin (by first|exact .inl (by assumption)|exact .inr (by assumption));first|rfl|exact hln.symm)
end Go.Proofs.YtndflfipaddfoaaGreat


namespace Go.Proofs.YtndflfipaddfoaaGreat
open Go Go.Abs
attribute [local irreducible] WpA WpL Rnd Blk Abs.Seq Abs.Fin Abs.FinG FnC FnG Only
abbrev BkV (m:Int) (l:List Int):AV:=.agg [I m,.own 0 0 0 l.length]
theorem blS_1 {p:List UInt8} {s:Int} {lens:List Int} {n:Int} (hn:n=4∨n=8) (hs:smC p s lens=0) (hc:(lvS p (smA p s lens) n).c=0):blS p s lens n=⟨(lvS p (smA p s lens) n).a,0,smV p s lens,(lvS p (smA p s lens) n).out⟩:=by
 unfold blS;rw [if_pos hn,if_pos hs];simp only;rw [if_pos hc]
theorem blS_2 {p:List UInt8} {s:Int} {lens:List Int} {n:Int} (hn:n=4∨n=8) (hs:smC p s lens=0) (hc:(lvS p (smA p s lens) n).c≠0):blS p s lens n=⟨(lvS p (smA p s lens) n).a,(lvS p (smA p s lens) n).c,0,[]⟩:=by
 unfold blS;rw [if_pos hn,if_pos hs];simp only;rw [if_neg hc]
theorem blS_3 {p:List UInt8} {s:Int} {lens:List Int} {n:Int} (hn:n=4∨n=8) (hs:smC p s lens≠0):blS p s lens n=⟨s,smC p s lens,0,[]⟩:=by
 unfold blS;rw [if_pos hn,if_neg hs]
theorem blS_4 {p:List UInt8} {s:Int} {lens:List Int} {n:Int} (hn:¬(n=4∨n=8)):blS p s lens n=⟨s,5,0,[]⟩:=by
 unfold blS;rw [if_neg hn]
theorem smA_bad {p:List UInt8} {s:Int} {l:List Int} (h:smC p s l≠0):smA p s l=s:=by rw [smA,if_neg h]
instance ReadBlock_c:Con 114 (∀ (p:List UInt8) (s:Int) (lens:List Int) (n:Int),p.length≤1099511627776∧lens.length≤1099511627776→Fn 114 [RA p s,IL lens,I n] [XI (blS p s lens n).l] (.tup [RA p (blS p s lens n).a,BkV (blS p s lens n).m (blS p s lens n).l,I (blS p s lens n).c])):=⟨fun p s lens n hl=>by
 refine FnC.of_body tabOk Tryz.func114 Tryz.ntmps114 rfl (by decide +kernel) (by simp) fun G=>?_
 by_cases hn:n=4∨n=8
 ·by_cases hs:smC p s lens=0
  ·refine go (r:=?_);and_intros<;>intros<;>try exact True.intro
   all_goals first|(exact absurd hs (by assumption))|(exact absurd hn (by assumption))|skip
   refine K.call ?_
   refine WpL.callM (hs:=[3]) (flv_c p (smA p s lens) n hl.1 hn) handA handOA rfl rfl (.cons rfl (.sc (.sc (.sc .nil))) .nil) outA rfl rfl rfl rfl (by decide) ?_
   have e1:=blS_1 (p:=p) (s:=s) (lens:=lens) hn hs
   have e2:=blS_2 (p:=p) (s:=s) (lens:=lens) hn hs
   generalize lvS p (smA p s lens) n=y at e1 e2 ⊢
   by_cases hy:y.c=0
   ·rw [e1 hy]
    refine go (r:=?_);and_intros<;>intros<;>try exact True.intro
   ·rw [e2 hy]
    refine go (r:=?_);and_intros<;>intros<;>try exact True.intro
  ·rw [blS_3 hn hs]
   have ea:=smA_bad hs
   refine go (r:=?_);and_intros<;>intros<;>try exact True.intro
 ·rw [blS_4 hn]
  refine go (r:=?_);and_intros<;>intros<;>try exact True.intro⟩
theorem mbRun_len (p:List UInt8) (s:Int) (lens:List Int) (n:Int):∀k,(mbRun p s lens n k).c=0→(mbRun p s lens n k).bs.length=k
 |0,_=>rfl
 |k+1,h=>by
  have ih:=mbRun_len p s lens n k
  rw [mbRun] at h ⊢
  simp only at h ⊢
  split at h
  ·rename_i hx
   rw [if_pos hx]
   split at h
   ·rename_i hb;rw [if_pos hb];simp [ih hx]
   ·rename_i hb;exact absurd h hb
  ·rename_i hx;exact absurd h hx
theorem mbRun_stop {p:List UInt8} {s:Int} {lens:List Int} {n:Int} {k:Nat} (h:(mbRun p s lens n k).c≠0):∀j,k≤j→mbRun p s lens n j=mbRun p s lens n k
 |0,hj=>by have:k=0:=by omega
           subst this;rfl
 |j+1,hj=>by
  rcases Nat.lt_or_ge j k with h2|h2
  ·have:k=j+1:=by omega
   subst this;rfl
  ·have e:=mbRun_stop h j h2
   rw [mbRun];simp only;rw [e,if_neg h]
theorem mbS_no {p:List UInt8} {s:Int} {lens:List Int} (h:¬RbOk p s 1):mbS p s lens=(⟨s,1,[]⟩,false):=by unfold mbS;rw [if_neg h]
theorem nm8_nat (e:Bool):(bif e then 1 else 4:Nat)=(nm8 e).toNat:=by cases e<;>rfl
theorem mbS_yes {p:List UInt8} {s:Int} {lens:List Int} {E:Bool} (h:RbOk p s 1) (hE:decide (rbV p s 1=1)=E):mbS p s lens=(mbRun p (s+1) lens (sz8 E) (nm8 E).toNat,bif decide ((mbRun p (s+1) lens (sz8 E) (nm8 E).toNat).c=0) then E else false):=by
 unfold mbS;rw [if_pos h,hE];simp only;rw [nm8_nat];rfl
theorem mbRun_bad {p:List UInt8} {s:Int} {lens:List Int} {n:Int} {k:Nat} (h:(mbRun p s lens n k).c=0) (hb:(blS p (mbRun p s lens n k).a lens n).c≠0):∀j,k<j→mbRun p s lens n j=⟨(blS p (mbRun p s lens n k).a lens n).a,(blS p (mbRun p s lens n k).a lens n).c,[]⟩:=by
 intro j hj
 have e:mbRun p s lens n (k+1)=⟨(blS p (mbRun p s lens n k).a lens n).a,(blS p (mbRun p s lens n k).a lens n).c,[]⟩:=by
  rw [mbRun];simp only;rw [if_pos h,if_neg hb]
 rw [mbRun_stop (k:=k+1) (by rw [e];exact hb) j hj,e]
theorem mbRun_next {p:List UInt8} {s:Int} {lens:List Int} {n:Int} {k:Nat} (h:(mbRun p s lens n k).c=0) (hb:(blS p (mbRun p s lens n k).a lens n).c=0):mbRun p s lens n (k+1)=⟨(blS p (mbRun p s lens n k).a lens n).a,0,(mbRun p s lens n k).bs++[((blS p (mbRun p s lens n k).a lens n).m,(blS p (mbRun p s lens n k).a lens n).l)]⟩:=by
 rw [mbRun];simp only;rw [if_pos h,if_pos hb]
abbrev MbV (e:Bool) (n:Nat):AV:=.agg [B e,.own 0 0 0 n]
instance ReadMb_c:Con 50 (∀ (p:List UInt8) (s:Int) (lens:List Int),p.length≤1099511627776∧lens.length≤1099511627776→Fn 50 [RA p s,IL lens] [BkO (mbS p s lens).1.bs] (.tup [RA p (mbS p s lens).1.a,MbV (mbS p s lens).2 (mbS p s lens).1.bs.length,I (mbS p s lens).1.c])):=⟨fun p s lens hl=>by
 refine FnC.of_body tabOk Tryz.func50 Tryz.ntmps50 rfl (by decide +kernel) (by simp) fun G=>?_
 by_cases ho:RbOk p s 1
 ·have ea:=(rb_yes ho).1
  generalize hE:decide (rbV p s 1=1)=E
  rw [mbS_yes ho hE]
  have hc8:=sz8_cases E
  refine go (r:=?_);and_intros<;>intros<;>try exact True.intro
  all_goals first|contradiction|skip
  rw [hE,ea]
  have hz:(mbRun p (s+1) lens (sz8 E) 0)=⟨s+1,0,[]⟩:=rfl
  have hln:=fun k h=>mbRun_len p (s+1) lens (sz8 E) k h
  have hnx:=fun k h hb=>mbRun_next (p:=p) (s:=s+1) (lens:=lens) (n:=sz8 E) (k:=k) h hb
  have hbd:=fun k h hb j hj=>mbRun_bad (p:=p) (s:=s+1) (lens:=lens) (n:=sz8 E) (k:=k) h hb j hj
  generalize mbRun p (s+1) lens (sz8 E)=X at hz hln hnx hbd ⊢
  refine WpA.loop (fun k:Nat=>⟨[(1,IL lens),(2,.ptr 0 0 0),(4,.ptr 1 0 0),(5,.ptr 2 0 0),(9,.ptr 3 0 0),(11,I (sz8 E)),(34,I (nm8 E)),(35,I k)],[⟨[Z p,I (X k).a],0,0,none⟩,R0,⟨[B false,.nilS],0,0,none⟩,⟨[B E,.own 4 0 0 k],0,0,none⟩,BkO (X k).bs]⟩) (fun k=>(k:Int)≤nm8 E∧(X k).c=0) (fun k=>(nm8 E).toNat-k) 0 (by rw [hz];exact ⟨by omega,rfl⟩) ?_ (fun k hk=>?_)
  ·rw [hz];exact Weak.nil1 (by first|(show 0≤_;exact Nat.zero_le _)|(repeat' (first|exact RzT.nil|refine RzT.cons ?_ ?_|exact Rz.nil|refine Rz.keep rfl rfl ?_|refine Rz.own rfl rfl rfl rfl rfl (by first|rfl|omega|(simp;done)) ?_|refine Rz.ptr rfl rfl rfl rfl ?_|refine Rz.nilO rfl rfl rfl (by first|rfl|omega|(simp;done)) ?_|refine Rz.agg ?_ ?_|exact RzO.last rfl|(refine RzO.cons ?_ (.inr rfl) ?_)|exact Rz.same rfl (still_ints _)|exact Rz.same rfl (still_rows (fun _=>rfl) _)))) (by first|(show 0≤_;exact Nat.zero_le _)|(repeat' (first|exact RzT.nil|refine RzT.cons ?_ ?_|exact Rz.nil|refine Rz.keep rfl rfl ?_|refine Rz.own rfl rfl rfl rfl rfl (by first|rfl|omega|(simp;done)) ?_|refine Rz.ptr rfl rfl rfl rfl ?_|refine Rz.nilO rfl rfl rfl (by first|rfl|omega|(simp;done)) ?_|refine Rz.agg ?_ ?_|exact RzO.last rfl|(refine RzO.cons ?_ (.inr rfl) ?_)|exact Rz.same rfl (still_ints _)|exact Rz.same rfl (still_rows (fun _=>rfl) _)))) (Nat.zero_le _)
  have hln:=hln k hk.2
  have hnx:=hnx k hk.2
  have hbd:=hbd k hk.2
  have hfin:¬(k:Int)<nm8 E→X (nm8 E).toNat=X k:=fun h=>by rw [show (nm8 E).toNat=k by omega]
  generalize hy:X k=y at hk hln hnx hbd hfin ⊢
  have hln:y.bs.length=k:=hln
  by_cases hb:(blS p y.a lens (sz8 E)).c=0
  ·have hnx:=hnx hb
   clear hbd
   refine go (r:=?_);and_intros<;>intros<;>try exact True.intro
   all_goals first|contradiction|(rw [hnx];done)|(rw [hfin (by assumption)];first|done|omega|(simp [hk.2];done)|(simp only;omega))
  ·have hbd:=hbd hb
   clear hnx
   refine go (r:=?_);and_intros<;>intros<;>try exact True.intro
   all_goals first|contradiction|(rw [hbd _ (by omega)];first|done|(simp [hb];done))|(rw [hfin (by assumption)];first|done|omega|(simp [hk.2];done)|(simp only;omega))
 ·rw [mbS_no ho]
  have ea:=(rb_no ho).1
  refine go (r:=?_);and_intros<;>intros<;>try exact True.intro
  all_goals first|contradiction⟩
end Go.Proofs.YtndflfipaddfoaaGreat


namespace Go.Proofs.YtndflfipaddfoaaGreat
open Go Go.Abs
theorem rbA_ok {p:List UInt8} {s n:Int} (h:RdOk p s):RdOk p (rbA p s n):=by
 by_cases ho:RbOk p s n
 ·rw [(rb_yes ho).1]
  have h1:=lft_ok h
  have h2:=ho.2.2
  have h3:=ho.2.1
  have h4:=h.1
  constructor<;>omega
 ·rw [(rb_no ho).1];exact h
theorem ueA_ok {p:List UInt8} {s:Int} (h:RdOk p s):RdOk p (ueA p s):=by
 unfold ueA;split
 ·exact rbA_ok h
 ·exact h
theorem fuA_ok {p:List UInt8} {s c:Int} {k:Int→Int} (h:RdOk p s):RdOk p (fuA p s c k):=by
 unfold fuA;split
 ·exact ueA_ok h
 ·exact h
theorem fbA_ok {p:List UInt8} {s c n:Int} {k:Int→Int} (h:RdOk p s):RdOk p (fbA p s c n k):=by
 unfold fbA;split
 ·exact rbA_ok h
 ·exact h
theorem smA_ok {p:List UInt8} {s:Int} {l:List Int} (h:RdOk p s):RdOk p (smA p s l):=by
 by_cases hc:smC p s l=0
 ·rw [smA,if_pos hc]
  have hm:symM p s l<6:=by
   unfold smC at hc
   split at hc
   ·split at hc
    ·assumption
    ·exact absurd hc (by decide)
   ·exact absurd hc (by decide)
  have h0:=symM_lt hm
  have h1:=lft_ok h
  have h2:=h0.2.1.2.2
  have h3:=h0.1
  have h4:=h.1
  constructor<;>omega
 ·rw [smA,if_neg hc];exact h
theorem lvStep_ok {p:List UInt8} {nn:Int} {x:LvS} (h:RdOk p x.a):RdOk p (lvStep p nn x).a:=by
 unfold lvStep;split
 ·simp only;split<;>exact fuA_ok (fuA_ok h)
 ·exact h
theorem lvRun_ok {p:List UInt8} {nn:Int} {x:LvS} (h:RdOk p x.a):∀k,RdOk p (lvRun p nn x k).a
 |0=>h
 |k+1=>by rw [lvRun];exact lvStep_ok (lvRun_ok h k)
theorem lvS_ok {p:List UInt8} {s n:Int} (h:RdOk p s):RdOk p (lvS p s n).a:=by
 unfold lvS;simp only;split
 ·exact fbA_ok h
 ·exact lvRun_ok (x:=⟨_,_,_,_⟩) (fuA_ok (fbA_ok h)) _
theorem blS_ok {p:List UInt8} {s:Int} {lens:List Int} {n:Int} (h:RdOk p s):RdOk p (blS p s lens n).a:=by
 unfold blS;split
 ·split
  ·simp only;split<;>exact lvS_ok (smA_ok h)
  ·exact h
 ·exact h
theorem mbRun_ok {p:List UInt8} {s:Int} {lens:List Int} {n:Int} (h:RdOk p s):∀k,RdOk p (mbRun p s lens n k).a
 |0=>h
 |k+1=>by
  have ih:=mbRun_ok (lens:=lens) (n:=n) h k
  rw [mbRun];simp only;split
  ·split<;>exact blS_ok ih
  ·exact ih
theorem mbS_ok {p:List UInt8} {s:Int} {lens:List Int} (h:RdOk p s):RdOk p (mbS p s lens).1.a:=by
 unfold mbS;split
 ·rename_i ho
  have:RdOk p (s+1):=by have:=rbA_ok (n:=1) h;rwa [(rb_yes ho).1] at this
  exact mbRun_ok this _
 ·exact h
theorem stRun_ok {p:List UInt8} {s:Int} {lens:List Int} (h:RdOk p s):∀k,RdOk p (stRun p s lens k).a
 |0=>h
 |k+1=>by
  have ih:=stRun_ok (lens:=lens) h k
  rw [stRun];simp only;split
  ·split<;>exact mbS_ok ih
  ·exact ih
theorem hdS_ok {p:List UInt8} {s:Int} (h:RdOk p s):RdOk p (hdS p s).a:=by
 unfold hdS;simp only;exact fbA_ok (fbA_ok (fbA_ok (fuA_ok (fuA_ok (fbA_ok h)))))
theorem mbRun_sm {p:List UInt8} {s:Int} {lens:List Int} {n:Int}:∀k,∀b∈(mbRun p s lens n k).bs,b.2.length≤64
 |0,b,hb=>by simp [mbRun] at hb
 |k+1,b,hb=>by
  have ih:=mbRun_sm (p:=p) (s:=s) (lens:=lens) (n:=n) k
  rw [mbRun] at hb;simp only at hb
  split at hb
  ·split at hb
   ·simp at hb
    rcases hb with hb|hb
    ·exact ih b hb
    ·rw [hb];exact blS_len _ _ _ _
   ·simp at hb
  ·exact ih b hb
theorem mbRun_le {p:List UInt8} {s:Int} {lens:List Int} {n:Int}:∀k,(mbRun p s lens n k).bs.length≤k
 |0=>by simp [mbRun]
 |k+1=>by
  have ih:=mbRun_le (p:=p) (s:=s) (lens:=lens) (n:=n) k
  rw [mbRun];simp only
  split
  ·split
   ·simp;exact ih
   ·simp
  ·omega
theorem mbS_sm {p:List UInt8} {s:Int} {lens:List Int}:(mbS p s lens).1.bs.length≤4∧∀b∈(mbS p s lens).1.bs,b.2.length≤64:=by
 unfold mbS;split
 ·refine ⟨Nat.le_trans (mbRun_le _) ?_,mbRun_sm _⟩
  cases decide (rbV p s 1=1)<;>decide
 ·simp
theorem stRun_sm {p:List UInt8} {s:Int} {lens:List Int}:∀k,(stRun p s lens k).ms.length≤k∧∀m∈(stRun p s lens k).ms,m.2.length≤4∧∀b∈m.2,b.2.length≤64
 |0=>by simp [stRun]
 |k+1=>by
  have ih:=stRun_sm (p:=p) (s:=s) (lens:=lens) k
  rw [stRun];simp only
  split
  ·split
   ·simp only [List.length_append,List.length_singleton,List.mem_append,List.mem_singleton]
    refine ⟨by have:=ih.1;omega,fun m hm=>?_⟩
    rcases hm with hm|hm
    ·exact ih.2 m hm
    ·rw [hm];exact mbS_sm
   ·simp
  ·exact ⟨by have:=ih.1;omega,ih.2⟩
theorem stRun_stop {p:List UInt8} {s:Int} {lens:List Int} {k:Nat} (h:(stRun p s lens k).c≠0):∀j,k≤j→stRun p s lens j=stRun p s lens k
 |0,hj=>by have:k=0:=by omega
           subst this;rfl
 |j+1,hj=>by
  rcases Nat.lt_or_ge j k with h2|h2
  ·have:k=j+1:=by omega
   subst this;rfl
  ·have e:=stRun_stop h j h2
   rw [stRun];simp only;rw [e,if_neg h]
theorem stRun_len (p:List UInt8) (s:Int) (lens:List Int):∀k,(stRun p s lens k).c=0→(stRun p s lens k).ms.length=k
 |0,_=>rfl
 |k+1,h=>by
  have ih:=stRun_len p s lens k
  rw [stRun] at h ⊢
  simp only at h ⊢
  split at h
  ·rename_i hx
   rw [if_pos hx]
   split at h
   ·rename_i hb;rw [if_pos hb];simp [ih hx]
   ·rename_i hb;exact absurd h hb
  ·rename_i hx;exact absurd h hx
structure PrS where
 W:Int
 H:Int
 Q:Int
 B:Bool
 D:Bool
 L:List Int
 ms:List Mbk
 a:Int
 c:Int
def prS (p:List UInt8):PrS:=
 let x:=hdS p 0
 if x.c=0 then
  let y:=stRun p x.a x.L (cntM x.W x.H).toNat
  if y.c=0 then
   if endC p y.a=0 then ⟨x.W,x.H,x.Q,x.B,x.D,x.L,y.ms,y.a,0⟩ else ⟨0,0,0,false,false,[],[],y.a,endC p y.a⟩
  else ⟨0,0,0,false,false,[],[],y.a,y.c⟩
 else ⟨0,0,0,false,false,[],[],x.a,x.c⟩
theorem fuV_max {p:List UInt8} {s c:Int}:0≤fuV p s c hk2∧fuV p s c hk2≤3:=by
 refine ⟨fuV_nn _ _ _ _,?_⟩
 unfold fuV;split
 ·rename_i h
  unfold fuC at h
  split at h
  ·split at h
   ·by_cases hlt:ueV p s≤3
    ·exact hlt
    ·have h:ifE (ueV p s≤3) 3=0:=h
     rw [ifE_no hlt] at h;exact absurd h (by decide)
   ·rename_i hu;exact absurd h hu
  ·rename_i hc;exact absurd h hc
 ·omega
theorem hdS_sides {p:List UInt8} {s:Int} (h:(hdS p s).c=0):SidesOk (hdS p s).W (hdS p s).H:=by
 have hw:0≤(hdS p s).w∧(hdS p s).w≤3:=by unfold hdS;exact fuV_max
 have hh:0≤(hdS p s).h∧(hdS p s).h≤3:=by unfold hdS;exact fuV_max
 rw [HdS.W,if_pos h,HdS.H,if_pos h]
 omega
end Go.Proofs.YtndflfipaddfoaaGreat


namespace Go.Proofs.YtndflfipaddfoaaGreat
open Go Go.Abs
attribute [local irreducible] WpA WpL Rnd Blk Abs.Seq Abs.Fin Abs.FinG FnC FnG Only
def pvC (p:List UInt8) (s room:Int):Int:=fuC p (fuA p s 0 (kR room)) (fuC p s 0 (kR room)) kL
def pvA (p:List UInt8) (s room:Int):Int:=fuA p (fuA p s 0 (kR room)) (fuC p s 0 (kR room)) kL
def pvR (p:List UInt8) (s room:Int):Int:=if pvC p s room=0 then fuV p s 0 (kR room) else 0
def pvL (p:List UInt8) (s room:Int):Int:=if pvC p s room=0 then lvOf (fuV p (fuA p s 0 (kR room)) (fuC p s 0 (kR room)) kL) else 0
theorem fu_yes {p:List UInt8} {s:Int} {k:Int→Int} (h:ueC p s=0) (hk:k (ueV p s)=0):fuC p s 0 k=0∧fuA p s 0 k=ueA p s∧fuV p s 0 k=ueV p s:=by
 have e:fuC p s 0 k=0:=by rw [fuC,if_pos rfl,if_pos h,hk]
 exact ⟨e,by rw [fuA,if_pos e],by rw [fuV,if_pos e]⟩
theorem pv_5 {p:List UInt8} {s room:Int} (h:ueC p s=0) (h2:ueV p s<room) (h3:ueC p (ueA p s)=0) (h4:-16383≤lvOf (ueV p (ueA p s))∧lvOf (ueV p (ueA p s))≤16383):pvA p s room=ueA p (ueA p s)∧pvC p s room=0∧pvR p s room=ueV p s∧pvL p s room=lvOf (ueV p (ueA p s)):=by
 have e:=fu_yes (k:=kR room) h (ifE_yes h2)
 have f:=fu_yes (k:=kL) h3 (ifE_yes h4)
 have e2:pvC p s room=0:=by rw [pvC,e.1,e.2.1,f.1]
 exact ⟨by rw [pvA,e.1,e.2.1,f.2.1],e2,by rw [pvR,if_pos e2,e.2.2],by rw [pvL,if_pos e2,e.1,e.2.1,f.2.2]⟩
theorem lvStep_pv0 {p:List UInt8} {nn:Int} {x:LvS} (hc:x.c=0) (h:pvC p x.a (nn-x.at_)=0):lvStep p nn x=⟨pvA p x.a (nn-x.at_),0,x.at_+pvR p x.a (nn-x.at_)+1,x.out.set (x.at_+pvR p x.a (nn-x.at_)).toNat (pvL p x.a (nn-x.at_))⟩:=by
 have h':=h
 rw [pvC] at h'
 have e3:pvR p x.a (nn-x.at_)=fuV p x.a 0 (kR (nn-x.at_)):=by rw [pvR,if_pos h]
 have e4:pvL p x.a (nn-x.at_)=lvOf (fuV p (fuA p x.a 0 (kR (nn-x.at_))) (fuC p x.a 0 (kR (nn-x.at_))) kL):=by rw [pvL,if_pos h]
 rw [lvStep_yes hc,if_pos h',e3,e4,h'];rfl
section
attribute [local irreducible] ueA ueV ueC pvC pvA pvR pvL lvOf
end
theorem k0_ok {p:List UInt8} {s:Int} (h:RbOk p s 1):fbC p s 0 1 k0C=0∧fbA p s 0 1 k0C=rbA p s 1∧fbV p s 0 1 k0C=rbV p s 1:=by
 have e1:fbC p s 0 1 k0C=0:=by rw [fbC,if_pos rfl,if_pos h]
 exact ⟨e1,by rw [fbA,if_pos ⟨rfl,e1⟩],by rw [fbV,if_pos e1]⟩
theorem lv_2 {p:List UInt8} {s n:Int} (h:RbOk p s 1) (hv:rbV p s 1=0):lvS p s n=⟨rbA p s 1,0,0,List.replicate (n*n).toNat 0⟩:=by
 obtain ⟨e1,e2,e3⟩:=k0_ok h
 rw [lvS_no (by rw [e3];exact hv),e1,e2]
theorem lv_5 {p:List UInt8} {s n:Int} (h:RbOk p s 1) (hv:rbV p s 1≠0) (hu:ueC p (rbA p s 1)=0) (h2:ueV p (rbA p s 1)<n*n):lvS p s n=lvRun p (n*n) ⟨ueA p (rbA p s 1),0,0,List.replicate (n*n).toNat 0⟩ (1+ueV p (rbA p s 1)).toNat:=by
 obtain ⟨e1,e2,e3⟩:=k0_ok h
 have f:=fu_yes (k:=kR (n*n)) hu (ifE_yes h2)
 rw [lvS_yes (by rw [e3];exact hv),e1,e2,f.1,f.2.1,f.2.2]
section
attribute [local irreducible] rbA rbV ueA ueV ueC pvC pvA pvR pvL lvOf lvS lvRun
end
section
attribute [local irreducible] lvS smA smV smC blS
end
section
attribute [local irreducible] rbA rbV blS mbS mbRun sz8 nm8
end
end Go.Proofs.YtndflfipaddfoaaGreat


namespace Go.Proofs.YtndflfipaddfoaaGreat
open Go Go.Abs
attribute [local irreducible] WpA WpL Rnd Blk Abs.Seq Abs.Fin Abs.FinG FnC FnG Only
def sdV (p:List UInt8) (s:Int):Int:=if ueC p s=0∧ueV p s>3 then 0 else 8*ueV p s+8
def lnL (p:List UInt8) (s:Int):List Int:=if RbOk p s 18 then lensV (rbV p s 18) else []
theorem fb_yes {p:List UInt8} {s n:Int} {k:Int→Int} (h:RbOk p s n) (hv:k (rbV p s n)=0):fbC p s 0 n k=0∧fbA p s 0 n k=rbA p s n∧fbV p s 0 n k=rbV p s n:=by
 have e:fbC p s 0 n k=0:=by rw [fbC,if_pos rfl,if_pos h,hv]
 exact ⟨e,by rw [fbA,if_pos ⟨rfl,e⟩],by rw [fbV,if_pos e]⟩
attribute [local irreducible] rbA rbV ueA ueV ueC fuA fuC fuV fbA fbC fbV sdV lnL zrs numB lft hdS lensV
end Go.Proofs.YtndflfipaddfoaaGreat


namespace Go.Proofs.YtndflfipaddfoaaGreat
open Go Go.Abs
attribute [local irreducible] WpA WpL Rnd Blk Abs.Seq Abs.Fin Abs.FinG FnC FnG Only
theorem hdSL_len (x:HdS):x.L.length≤6:=by
 unfold HdS.L;split
 ·exact Nat.le_refl 6
 ·exact Nat.zero_le _
abbrev StV (x:PrS):AV:=.agg [I x.W,I x.H,I x.Q,B x.B,B x.D,.own 0 0 0 x.L.length,.own 1 0 0 x.ms.length]
def PrN (a c:Int):PrS:=⟨0,0,0,false,false,[],[],a,c⟩
theorem prS_1 {p:List UInt8} (h:(hdS p 0).c≠0):prS p=PrN (hdS p 0).a (hdS p 0).c:=by unfold prS;simp only;rw [if_neg h];rfl
theorem prS_2 {p:List UInt8} (h:(hdS p 0).c=0) (h2:(stRun p (hdS p 0).a (hdS p 0).L (cntM (hdS p 0).W (hdS p 0).H).toNat).c≠0):prS p=PrN (stRun p (hdS p 0).a (hdS p 0).L (cntM (hdS p 0).W (hdS p 0).H).toNat).a (stRun p (hdS p 0).a (hdS p 0).L (cntM (hdS p 0).W (hdS p 0).H).toNat).c:=by
 unfold prS;simp only;rw [if_pos h,if_neg h2];rfl
theorem prS_3 {p:List UInt8} (h:(hdS p 0).c=0) (h2:(stRun p (hdS p 0).a (hdS p 0).L (cntM (hdS p 0).W (hdS p 0).H).toNat).c=0) (h3:endC p (stRun p (hdS p 0).a (hdS p 0).L (cntM (hdS p 0).W (hdS p 0).H).toNat).a≠0):prS p=PrN (stRun p (hdS p 0).a (hdS p 0).L (cntM (hdS p 0).W (hdS p 0).H).toNat).a (endC p (stRun p (hdS p 0).a (hdS p 0).L (cntM (hdS p 0).W (hdS p 0).H).toNat).a):=by
 unfold prS;simp only;rw [if_pos h,if_pos h2,if_neg h3];rfl
theorem prS_4 {p:List UInt8} (h:(hdS p 0).c=0) (h2:(stRun p (hdS p 0).a (hdS p 0).L (cntM (hdS p 0).W (hdS p 0).H).toNat).c=0) (h3:endC p (stRun p (hdS p 0).a (hdS p 0).L (cntM (hdS p 0).W (hdS p 0).H).toNat).a=0):prS p=⟨(hdS p 0).W,(hdS p 0).H,(hdS p 0).Q,(hdS p 0).B,(hdS p 0).D,(hdS p 0).L,(stRun p (hdS p 0).a (hdS p 0).L (cntM (hdS p 0).W (hdS p 0).H).toNat).ms,(stRun p (hdS p 0).a (hdS p 0).L (cntM (hdS p 0).W (hdS p 0).H).toNat).a,0⟩:=by
 unfold prS;simp only;rw [if_pos h,if_pos h2,if_pos h3]
theorem stRun_next {p:List UInt8} {s:Int} {lens:List Int} {k:Nat} (h:(stRun p s lens k).c=0) (hb:(mbS p (stRun p s lens k).a lens).1.c=0):stRun p s lens (k+1)=⟨(mbS p (stRun p s lens k).a lens).1.a,0,(stRun p s lens k).ms++[((mbS p (stRun p s lens k).a lens).2,(mbS p (stRun p s lens k).a lens).1.bs)]⟩:=by
 rw [stRun];simp only;rw [if_pos h,if_pos hb]
theorem stRun_bad {p:List UInt8} {s:Int} {lens:List Int} {k:Nat} (h:(stRun p s lens k).c=0) (hb:(mbS p (stRun p s lens k).a lens).1.c≠0):∀j,k<j→stRun p s lens j=⟨(mbS p (stRun p s lens k).a lens).1.a,(mbS p (stRun p s lens k).a lens).1.c,[]⟩:=by
 intro j hj
 have e:stRun p s lens (k+1)=⟨(mbS p (stRun p s lens k).a lens).1.a,(mbS p (stRun p s lens k).a lens).1.c,[]⟩:=by
  rw [stRun];simp only;rw [if_pos h,if_neg hb]
 rw [stRun_stop (k:=k+1) (by rw [e];exact hb) j hj,e]
section
attribute [local irreducible] hdS stRun mbS endC cntM
instance Parse_c:Con 35 (∀ (p:List UInt8),p.length≤1099511627776→Fn 35 [Z p] [XI (prS p).L,MbO (prS p).ms] (.tup [StV (prS p),I (prS p).a,I (prS p).c])):=⟨fun p hl=>by
 have hr0:RdOk p 0:=⟨by omega,by omega⟩
 have hok:=hdS_ok hr0
 refine FnC.of_body tabOk Tryz.func35 Tryz.ntmps35 rfl (by decide +kernel) (by simp) fun G=>?_
 by_cases hc:(hdS p 0).c=0
 ·have hs:=hdS_sides hc
  have hL:=hdSL_len (hdS p 0)
  have e2:=prS_2 hc
  have e3:=prS_3 hc
  have e4:=prS_4 hc
  have hbd:=cntM_bd hs
  refine go (r:=?_);and_intros<;>intros<;>try exact True.intro
  all_goals first|contradiction|skip
  generalize hx:hdS p 0=x at hc hs hL e2 e3 e4 hbd hok ⊢
  have hz:stRun p x.a x.L 0=⟨x.a,0,[]⟩:=by rw [stRun]
  have hln:=fun k h=>stRun_len p x.a x.L k h
  have hok:=fun k=>stRun_ok (lens:=x.L) hok k
  have hnx:=fun k h hb=>stRun_next (p:=p) (s:=x.a) (lens:=x.L) (k:=k) h hb
  have hbd2:=fun k h hb j hj=>stRun_bad (p:=p) (s:=x.a) (lens:=x.L) (k:=k) h hb j hj
  generalize hN:cntM x.W x.H=N at hbd e2 e3 e4 ⊢
  generalize stRun p x.a x.L=X at hz hln hnx hbd2 hok e2 e3 e4 ⊢
  refine WpA.loop (fun k:Nat=>⟨[(2,.ptr 0 0 0),(5,.ptr 2 0 0),(6,.ptr 3 0 0),(8,.ptr 4 0 0),(29,I N),(30,I k)],[⟨[I 0,I 0,I 0,B false,B false,.nilS,.nilS],0,0,none⟩,XI x.L,⟨[Z p,I (X k).a],0,0,none⟩,⟨[I x.W,I x.H,I x.Q,B x.B,B x.D,.own 1 0 0 x.L.length],0,0,none⟩,⟨[I x.W,I x.H,I x.Q,B x.B,B x.D,.own 1 0 0 x.L.length,.own 5 0 0 k],0,0,none⟩,MbO (X k).ms]⟩) (fun k=>(k:Int)≤N∧(X k).c=0) (fun k=>N.toNat-k) 0 (by rw [hz];exact ⟨by omega,rfl⟩) ?_ (fun k hk=>?_)
  ·rw [hz];exact Weak.nil1 (by first|(show 0≤_;exact Nat.zero_le _)|(repeat' (first|exact RzT.nil|refine RzT.cons ?_ ?_|exact Rz.nil|refine Rz.keep rfl rfl ?_|refine Rz.own rfl rfl rfl rfl rfl (by first|rfl|omega|(simp;done)) ?_|refine Rz.ptr rfl rfl rfl rfl ?_|refine Rz.nilO rfl rfl rfl (by first|rfl|omega|(simp;done)) ?_|refine Rz.agg ?_ ?_|exact RzO.last rfl|(refine RzO.cons ?_ (.inr rfl) ?_)|exact Rz.same rfl (still_ints _)|exact Rz.same rfl (still_rows (fun _=>rfl) _)))) (by first|(show 0≤_;exact Nat.zero_le _)|(repeat' (first|exact RzT.nil|refine RzT.cons ?_ ?_|exact Rz.nil|refine Rz.keep rfl rfl ?_|refine Rz.own rfl rfl rfl rfl rfl (by first|rfl|omega|(simp;done)) ?_|refine Rz.ptr rfl rfl rfl rfl ?_|refine Rz.nilO rfl rfl rfl (by first|rfl|omega|(simp;done)) ?_|refine Rz.agg ?_ ?_|exact RzO.last rfl|(refine RzO.cons ?_ (.inr rfl) ?_)|exact Rz.same rfl (still_ints _)|exact Rz.same rfl (still_rows (fun _=>rfl) _)))) (Nat.zero_le _)
  have hln:=hln k hk.2
  have hnx:=hnx k hk.2
  have hbd2:=hbd2 k hk.2
  have hok:=hok k
  have hfin:¬(k:Int)<N→X N.toNat=X k:=fun h=>by rw [show N.toNat=k by omega]
  generalize hy:X k=y at hk hln hnx hbd2 hfin hok ⊢
  have hln:y.ms.length=k:=hln
  by_cases hlt:(k:Int)<N
  ·by_cases hb:(mbS p y.a x.L).1.c=0
   ·have hnx:=hnx hb
    clear hbd2 e2 e3 e4
    refine go (r:=?_);and_intros<;>intros<;>try exact True.intro
    all_goals first|contradiction|(rw [hnx];done)
   ·have hbd2:=hbd2 hb
    have e:=hbd2 N.toNat (by omega)
    rw [e2 (by rw [e];exact hb),e]
    clear hnx hbd2 e2 e3 e4
    refine go (r:=?_);and_intros<;>intros<;>try exact True.intro
    all_goals first|contradiction
  ·have hfin:=hfin hlt
   have hc2:(X N.toNat).c=0:=by rw [hfin];exact hk.2
   by_cases he:endC p y.a=0
   ·rw [e4 hc2 (by rw [hfin];exact he),hfin]
    clear e2 e3 e4 hnx hbd2
    refine go (r:=?_);and_intros<;>intros<;>try exact True.intro
    all_goals first|contradiction|exact hok
   ·rw [e3 hc2 (by rw [hfin];exact he),hfin]
    clear e2 e3 e4 hnx hbd2
    refine go (r:=?_);and_intros<;>intros<;>try exact True.intro
    all_goals first|contradiction|exact hok
 ·rw [prS_1 hc]
  refine goR (r:=?_);and_intros<;>intros<;>try exact True.intro
  refine WpA.weak (σ':=⟨[(2,.ptr 0 0 0),(5,.ptr 2 0 0),(7,I (hdS p 0).c)],[⟨[I 0,I 0,I 0,B false,B false,.nilS,.nilS],0,0,none⟩,XI (hdS p 0).L,⟨[Z p,I (hdS p 0).a],0,0,none⟩]⟩) (Weak.mk (by repeat (first|exact ReT.nil|refine ReT.cons (.keep rfl rfl .nil) ?_|refine ReT.cons (.own rfl rfl rfl rfl rfl rfl .nil) ?_|refine ReT.cons (.ptr rfl rfl rfl rfl .nil) ?_|refine ReT.cons (.keep (congrArg (fun z=>AV.sc (Value.int .i64 z)) (by first|omega|(skip))) rfl .nil) ?_|refine ReT.cons (.keep (congrArg (fun z:List UInt8=>AV.sc (Value.string ⟨z.toArray⟩)) (by skip)) rfl .nil) ?_|refine ReT.cons (.own rfl rfl rfl rfl rfl (by first|omega|(simp;done)|(simp;omega)) .nil) ?_)) (by repeat (first|exact ReO.nil|refine ReO.cons (Re.same rfl (still_ints _)) (by simp) ?_|refine ReO.cons (Re.same rfl rfl) (by simp) ?_)) (Nat.zero_le _)) ?_
  refine go (r:=?_);and_intros<;>intros<;>try exact True.intro
  all_goals first|contradiction⟩
end
end Go.Proofs.YtndflfipaddfoaaGreat


namespace Go.Proofs.YtndflfipaddfoaaGreat
open Go Go.Abs
attribute [local irreducible] WpA WpL Rnd Blk Abs.Seq Abs.Fin Abs.FinG FnC FnG Only
attribute [local simp] Abs.setL
def endB (k:Int) (l:List Blok):Int:=k+bw l
def markB:Int→List Blok→List Blok
 |_,[]=>[]
 |k,b::l=>(k,marksI (k+1) b.2.length)::markB (k+1+b.2.length) l
theorem bw_nil:bw []=0:=rfl
theorem bw_cons (b:Blok) (l:List Blok):bw (b::l)=bw l+1+b.2.length:=by unfold bw;rw [List.map_cons,List.sum_cons,List.length_cons];unfold bn;omega
@[simp] theorem markB_len:∀(l:List Blok) (k:Int),(markB k l).length=l.length
 |[],k=>rfl
 |b::l,k=>by rw [markB,List.length_cons,List.length_cons,markB_len l]
def markM:Int→List Mbk→List Mbk
 |_,[]=>[]
 |k,m::l=>(decide (k%3=0),markB (k+1) m.2)::markM (k+1+bw m.2) l
theorem mw_nil:mw []=0:=rfl
theorem mw_cons (b:Mbk) (l:List Mbk):mw (b::l)=mw l+1+bw b.2:=by unfold mw;rw [List.map_cons,List.sum_cons,List.length_cons];unfold mn;omega
@[simp] theorem markM_len:∀(l:List Mbk) (k:Int),(markM k l).length=l.length
 |[],k=>rfl
 |b::l,k=>by rw [markM,List.length_cons,List.length_cons,markM_len l]
end Go.Proofs.YtndflfipaddfoaaGreat


namespace Go.Proofs.YtndflfipaddfoaaGreat
open Go Go.Abs
attribute [local irreducible] WpA WpL Rnd Blk Abs.Seq Abs.Fin Abs.FinG FnC FnG Only
theorem bw_small {l:List Blok} (h:∀b∈l,b.2.length≤64):bw l≤65*l.length:=by
 induction l with
 |nil=>simp [bw_nil]
 |cons b l ih=>
  have h1:=h b (by simp)
  have h2:=ih fun x hx=>h x (by simp [hx])
  rw [bw_cons,List.length_cons];omega
theorem mw_small {l:List Mbk} (h:∀m∈l,m.2.length≤4∧∀b∈m.2,b.2.length≤64):mw l≤261*l.length:=by
 induction l with
 |nil=>simp [mw_nil]
 |cons m l ih=>
  have h1:=h m (by simp)
  have h2:=ih fun x hx=>h x (by simp [hx])
  have h3:=bw_small h1.2
  rw [mw_cons,List.length_cons];omega
theorem prS_sz (p:List UInt8):(prS p).L.length≤6∧(prS p).ms.length≤16∧mw (prS p).ms≤4176∧SmM 1099511627776 (prS p).ms:=by
 have h:(prS p).L.length≤6∧(prS p).ms.length≤16∧mw (prS p).ms≤4176:=by
  by_cases h1:(hdS p 0).c=0
  ·by_cases h2:(stRun p (hdS p 0).a (hdS p 0).L (cntM (hdS p 0).W (hdS p 0).H).toNat).c=0
   ·by_cases h3:endC p (stRun p (hdS p 0).a (hdS p 0).L (cntM (hdS p 0).W (hdS p 0).H).toNat).a=0
    ·rw [prS_4 h1 h2 h3]
     have hb:=cntM_bd (hdS_sides h1)
     have hs:=stRun_sm (p:=p) (s:=(hdS p 0).a) (lens:=(hdS p 0).L) (cntM (hdS p 0).W (hdS p 0).H).toNat
     have hm:=mw_small hs.2
     have hL:=hdSL_len (hdS p 0)
     refine ⟨hL,?_,?_⟩
     ·show (stRun _ _ _ _).ms.length≤16
      omega
     ·show mw (stRun _ _ _ _).ms≤4176
      omega
    ·rw [prS_3 h1 h2 h3];exact ⟨Nat.zero_le _,Nat.zero_le _,Nat.zero_le _⟩
   ·rw [prS_2 h1 h2];exact ⟨Nat.zero_le _,Nat.zero_le _,Nat.zero_le _⟩
  ·rw [prS_1 h1];exact ⟨Nat.zero_le _,Nat.zero_le _,Nat.zero_le _⟩
 exact ⟨h.1,h.2.1,h.2.2,smM_of (by omega)⟩
section
attribute [local irreducible] prS
end
end Go.Proofs.YtndflfipaddfoaaGreat


namespace Go.Proofs.YtndflfipaddfoaaGreat
open Go Go.Abs
attribute [local irreducible] WpA WpL Rnd Blk Abs.Seq Abs.Fin Abs.FinG FnC FnG Only
attribute [local irreducible] prS refL
theorem BuildRef_nil (w h q:Int) (b d:Bool) (L:List Int) (M:List Mbk) (hl:L.length≤1099511627776∧M.length≤1099511627776∧SmM 1099511627776 M) (hok:¬StOk w h q L M):Fn 26 [StA w h q b d L M] [] (.agg [I 0,I 0,.nilS]):=by
 have hd:=decide_eq_false hok
 refine FnC.of_body tabOk Tryz.func26 Tryz.ntmps26 rfl (by decide +kernel) (by simp) fun G=>?_
 refine goR (r:=?_);and_intros<;>intros<;>try exact True.intro
 all_goals first|contradiction|omega|exact hl.2.2
structure Frm where
 W:Int
 H:Int
 P:List Int
def bldF (w h q:Int) (b d:Bool) (L:List Int) (M:List Mbk):Frm:=if StOk w h q L M then ⟨w,h,refL w h q b d M⟩ else ⟨0,0,[]⟩
abbrev FrF (f:Frm):AV:=FrA f.W f.H f.P
theorem BuildRef_c (w h q:Int) (b d:Bool) (L:List Int) (M:List Mbk) (hl:L.length≤1099511627776∧M.length≤1099511627776∧SmM 1099511627776 M):Fn 26 [StA w h q b d L M] [] (FrF (bldF w h q b d L M)):=by
 unfold bldF
 by_cases hok:StOk w h q L M
 ·rw [if_pos hok];exact BuildRef_ok w h q b d L M hl hok
 ·rw [if_neg hok]
  exact FnC.still (BuildRef_nil w h q b d L M hl hok) (.agg (.keep rfl rfl (.keep rfl rfl (.nilI .nil))) .nil)
def decF (p:List UInt8):Frm:=if (prS p).c=0 then bldF (prS p).W (prS p).H (prS p).Q (prS p).B (prS p).D (prS p).L (prS p).ms else ⟨0,0,[]⟩
section
attribute [-instance] Parse_c
attribute [local irreducible] bldF
theorem RefDecode_0 (p:List UInt8) (hl:p.length≤1048576) (h0:(prS p).c=0):Fn 29 [Z p] [] (.tup [FrF (bldF (prS p).W (prS p).H (prS p).Q (prS p).B (prS p).D (prS p).L (prS p).ms),I 0]):=by
 have hz:=prS_sz p
 have hlen:(prS p).ms.length*2=(rows Abs.mbF (prS p).ms).length:=(rows_len (f:=Abs.mbF) (k:=2) (fun _=>rfl) (prS p).ms).symm
 refine FnC.of_body tabOk Tryz.func29 Tryz.ntmps29 rfl (by decide +kernel) (by simp) fun G=>?_
 refine goR (r:=?_);and_intros<;>intros<;>try exact True.intro
 refine K.call ?_
 apply WpL.callI (Parse_c.ok p (by omega))
 ·exact snapA
 ·exact locA
 ·exact outA
 ·exact FrzR.tup (.agg (.keep rfl rfl (.keep rfl rfl (.keep rfl rfl (.keep rfl rfl (.keep rfl rfl (.own rfl rfl rfl (by simp) rfl (Snap.same rfl (still_ints _) (nofre_ints _)) (.own rfl rfl rfl hlen rfl (Snap.rows snap_mb _) .nil))))))) (.keep rfl rfl (.keep rfl rfl .nil)))
 ·decide
 refine goR (r:=?_);and_intros<;>intros<;>try exact True.intro
 all_goals first|contradiction|omega|skip
 refine K.call ?_
 apply WpL.callK (BuildRef_c (prS p).W (prS p).H (prS p).Q (prS p).B (prS p).D (prS p).L (prS p).ms ⟨by omega,by omega,hz.2.2.2⟩)
 ·exact .agg (.keep rfl rfl (.keep rfl rfl (.keep rfl rfl (.keep rfl rfl (.keep rfl rfl (.keep rfl rfl (.keep rfl rfl .nil))))))) .nil
 ·decide
 refine goR (r:=?_);and_intros<;>intros<;>try exact True.intro
 all_goals first|contradiction|omega
theorem RefDecode_1 (p:List UInt8) (hl:p.length≤1048576) (h0:(prS p).c≠0):Fn 29 [Z p] [] (.tup [.agg [I 0,I 0,.nilS],I (prS p).c]):=by
 have hz:=prS_sz p
 have hlen:(prS p).ms.length*2=(rows Abs.mbF (prS p).ms).length:=(rows_len (f:=Abs.mbF) (k:=2) (fun _=>rfl) (prS p).ms).symm
 refine FnC.of_body tabOk Tryz.func29 Tryz.ntmps29 rfl (by decide +kernel) (by simp) fun G=>?_
 refine goR (r:=?_);and_intros<;>intros<;>try exact True.intro
 refine K.call ?_
 apply WpL.callI (Parse_c.ok p (by omega))
 ·exact snapA
 ·exact locA
 ·exact outA
 ·exact FrzR.tup (.agg (.keep rfl rfl (.keep rfl rfl (.keep rfl rfl (.keep rfl rfl (.keep rfl rfl (.own rfl rfl rfl (by simp) rfl (Snap.same rfl (still_ints _) (nofre_ints _)) (.own rfl rfl rfl hlen rfl (Snap.rows snap_mb _) .nil))))))) (.keep rfl rfl (.keep rfl rfl .nil)))
 ·decide
 refine goR (r:=?_);and_intros<;>intros<;>try exact True.intro
 all_goals first|contradiction|omega
end
theorem RefDecode_c (p:List UInt8) (hl:p.length≤1048576):Fn 29 [Z p] [] (.tup [FrF (decF p),I (prS p).c]):=by
 unfold decF
 by_cases h0:(prS p).c=0
 ·rw [if_pos h0,h0];exact RefDecode_0 p hl h0
 ·rw [if_neg h0]
  exact FnC.stillT (RefDecode_1 p hl h0) (.agg (.keep rfl rfl (.keep rfl rfl (.nilI .nil))) (.keep rfl rfl .nil))
theorem FastDecode_c (p:List UInt8) (hl:p.length≤1048576):Fn 12 [Z p] [] (.tup [FrF (decF p),I (prS p).c]):=by
 have hc:=RefDecode_c p hl
 generalize decF p=F at*
 refine FnC.of_body tabOk Tryz.func12 Tryz.ntmps12 rfl (by decide +kernel) (by simp) fun G=>?_
 refine goR (r:=?_);and_intros<;>intros<;>try exact True.intro
 refine K.call ?_
 apply WpL.callK hc
 ·exact .keep rfl rfl .nil
 ·decide
 refine goR (r:=?_);and_intros<;>intros<;>try exact True.intro
 all_goals first|contradiction|omega
end Go.Proofs.YtndflfipaddfoaaGreat


namespace Go.Proofs.YtndflfipaddfoaaGreat
open Go Go.Abs
attribute [local irreducible] WpA WpL Rnd Blk Abs.Seq Abs.Fin Abs.FinG FnC FnG Only
theorem fm_snoc {α β:Type} [Inhabited α] (f:α→List β) (l:List α) (k:Nat) (h:k<l.length):(l.take (k+1)).flatMap f=(l.take k).flatMap f++f (l.getD k default):=by
 rw [take_snoc l k h,List.flatMap_append];simp
theorem fm_bd {α β:Type} (f:α→List β) (c:Nat) (h:∀a,(f a).length≤c):∀l:List α,(l.flatMap f).length≤c*l.length
 |[]=>by simp
 |a::l=>by
  have:=fm_bd f c h l
  have h1:=h a
  rw [List.flatMap_cons,List.length_append,List.length_cons,Nat.mul_add];omega
theorem pk_in (l:List Int):∀k,k≤l.length→∀p∈(pk l k).1,(0≤p.1∧p.1≤k)∧p.2≠0∧p.2∈l
 |0,_,p,hp=>by simp [pk] at hp
 |k+1,hk,p,hp=>by
  have ih:=pk_in l k (by omega)
  have hb:=pk_bd l k
  rw [pk] at hp
  split at hp
  ·obtain ⟨a,b,c⟩:=ih p hp;exact ⟨by omega,b,c⟩
  ·rename_i hz
   rcases List.mem_append.1 hp with hp|hp
   ·obtain ⟨a,b,c⟩:=ih p hp;exact ⟨by omega,b,c⟩
   ·simp only [List.mem_singleton] at hp
    subst hp
    refine ⟨by omega,hz,?_⟩
    have e:l.getD k 0=l[k]'(by omega):=by simp [show k<l.length by omega]
    simp only [e];exact List.getElem_mem _
theorem in_mem {l:List Int} {lo hi:Int} (h:In l lo hi) {x:Int} (hx:x∈l):lo≤x∧x≤hi:=by
 unfold In at h;exact h x hx
theorem prs_in {l:List Int} (h:LvOk l) {k:Nat} (hk:k<(prsL l).length):(0≤((prsL l).getD k default).1∧((prsL l).getD k default).1≤64)∧((prsL l).getD k default).2≠0∧-16383≤((prsL l).getD k default).2∧((prsL l).getD k default).2≤16383:=by
 have hm:(prsL l).getD k default∈(prsL l):=by simp [hk]
 generalize (prsL l).getD k default=p at hm
 rw [prsL,if_pos h] at hm
 obtain ⟨h1,h2,h3⟩:=pk_in l l.length (Nat.le_refl _) p hm
 have h4:=in_mem h.1 h3
 have h5:l.length≤64:=by rcases h.2 with h|h<;>omega
 refine ⟨by omega,h2,h4⟩
theorem prs_len (l:List Int):(prsL l).length≤64:=by
 unfold prsL;split
 ·rename_i h
  have:=(pk_bd l l.length).1
  rcases h.2 with h|h<;>omega
 ·simp
theorem nolL_in {v:Int} (h:v≠0∧-16383≤v∧v≤16383):0≤nolL v∧nolL v≤65534:=by unfold nolL;split<;>(try split)<;>omega
instance PairsOf_c:Con 296 (∀ l:List Int,LvOk l→Fn 296 [IL l] [XP (prsL l)] (.own 0 0 0 (prsL l).length)):=⟨fun l h=>by
 have hl:l.length≤64:=by rcases h.2 with h|h<;>omega
 refine FnC.of_body tabOk Tryz.func296 Tryz.ntmps296 rfl (by decide +kernel) (by simp) fun G=>?_
 refine go (r:=?_);and_intros<;>intros<;>try exact True.intro
 all_goals first|(exact absurd h (by assumption))|skip
 refine WpA.loop (fun k:Nat=>⟨[(3,.own 0 0 0 (pk l k).1.length),(4,I (pk l k).2),(11,IL l),(12,I l.length),(13,I k)],[XP (pk l k).1]⟩) (fun k=>k≤l.length) (fun k=>l.length-k) 0 (by simp) (go (r:=?_)) (fun k hk=>?_)
 ·simp [pk]
 have hb:=pk_bd l k
 have hend:k=l.length→(pk l k).1=prsL l:=by rintro rfl;rw [prsL,if_pos h]
 by_cases hz:l.getD k 0=0
 ·have e1:pk l (k+1)=((pk l k).1,(pk l k).2+1):=by rw [pk,if_pos hz]
  have e2:(pk l (k+1)).1.length=(pk l k).1.length:=by rw [e1]
  refine go (r:=?_);and_intros<;>intros<;>try exact True.intro
  all_goals first|(rw [e1];done)|(rw [hend (by omega)];done)
 ·have e1:pk l (k+1)=((pk l k).1++[((pk l k).2,l.getD k 0)],0):=by rw [pk,if_neg hz]
  have e2:(pk l (k+1)).1.length=(pk l k).1.length+1:=by rw [e1,List.length_append,List.length_singleton]
  refine go (r:=?_);and_intros<;>intros<;>try exact True.intro
  all_goals first|(rw [e1];done)|(rw [e1];rfl)|(rw [hend (by omega)];done)⟩
def prB (p:Int×Int):List Int:=ueL p.1++ueL (nolL p.2)
theorem prB_len (p:Int×Int):(prB p).length≤128:=by
 have h1:=ueL_len p.1
 have h2:=ueL_len (nolL p.2)
 unfold prB;rw [List.length_append];omega
def bkK (m:Int) (lv lens:List Int) (k:Nat):List Int:=(symL lens m++[1]++ueL ((prsL lv).length-1))++((prsL lv).take k).flatMap prB
def bkL (m:Int) (lv lens:List Int) (n:Int):List Int:=if BlkOk m lv lens n then (if (prsL lv).length=0 then symL lens m++[0] else bkK m lv lens (prsL lv).length) else []
theorem symL_len7 (l:List Int) (m:Int):(symL l m).length≤48:=by
 unfold symL;split
 ·exact bitsL_len _ _
 ·simp
theorem bkK_len (m:Int) (lv lens:List Int) (k:Nat):(bkK m lv lens k).length≤113+128*k:=by
 have h1:=symL_len7 lens m
 have h2:=ueL_len ((prsL lv).length-1)
 have h3:=fm_bd prB 128 prB_len ((prsL lv).take k)
 have h4:((prsL lv).take k).length≤k:=by simp;omega
 unfold bkK;simp only [List.length_append,List.length_cons,List.length_nil];omega
theorem bkK_zero (m:Int) (lv lens:List Int):bkK m lv lens 0=symL lens m++[1]++ueL ((prsL lv).length-1):=by simp [bkK]
theorem bkK_succ (m:Int) (lv lens:List Int) (k:Nat) (h:k<(prsL lv).length):bkK m lv lens (k+1)=bkK m lv lens k++ueL ((prsL lv).getD k default).1++ueL (nolL ((prsL lv).getD k default).2):=by
 unfold bkK;rw [fm_snoc prB _ k h,←List.append_assoc,prB,←List.append_assoc]
theorem bkL_len (m:Int) (lv lens:List Int) (n:Int):(bkL m lv lens n).length≤8400:=by
 have h1:=symL_len7 lens m
 have h2:=bkK_len m lv lens (prsL lv).length
 have h3:=prs_len lv
 unfold bkL;split
 ·split
  ·simp;omega
  ·omega
 ·simp
abbrev BoxB (m:Int) (lv:List Int):AObj:=⟨[I m,IL lv],0,0,none⟩
instance BlockBits_c:Con 260 (∀ (m:Int) (lv lens:List Int) (n:Int),lv.length≤1099511627776∧lens.length≤1099511627776∧BlkOk m lv lens n→Fn 260 [.agg [I m,IL lv],IL lens,I n] [XI (bkL m lv lens n)] (.own 0 0 0 (bkL m lv lens n).length)):=⟨fun m lv lens n hl=>by
 have hs:=symL_len7 lens m
 have hu:=ueL_len ((prsL lv).length-1)
 have hp:=prs_len lv
 have h:=hl.2.2
 refine FnC.of_body tabOk Tryz.func260 Tryz.ntmps260 rfl (by decide +kernel) (by simp) fun G=>?_
 refine goR (r:=?_);and_intros<;>intros<;>try exact True.intro
 all_goals first|(exact absurd h (by assumption))|skip
 apply WpA.regionQF (O:=[BoxB m lv]) (Or:=[]) (O1:=[BoxB m lv,XD (symL lens m),XQ (prsL lv),deadO,deadO]) 7 2 [] rfl mixed (by decide +kernel)
 ·exact rfl
 ·apply HeadQ.consF .none rfl
  ·exact rfl
  ·exact in1
  ·exact rfl
  ·exact rfl
  apply HeadQ.consF .none rfl
  ·exact rfl
  ·exact in1
  ·exact rfl
  ·exact rfl
  apply HeadQ.consF .none rfl
  ·exact rfl
  ·exact in1
  ·exact rfl
  ·exact rfl
  apply HeadQ.consF (V:=.own 1 1 0 (symL lens m).length) (.put 0 (XD (symL lens m))) rfl
  ·exact rfl
  ·intro Tv Ov hc hp hd hk
   refine K.call ?_
   refine K.con (fun hcon=>?_)
   refine WpL.callF (hcon _ _ hl.2.1) snapA locA outA (cnt_some _ 0) rfl rfl (by decide) ?_
   rw [Nat.zero_add]
   apply WpL.putNil (p:=0)
   ·exact hp 0 _ rfl
   ·exact Nat.zero_le _
   ·exact rfl
   ·first|exact still_ints _|exact still_rows (fun _=>rfl) _|rfl
  ·exact rfl
  ·exact rfl
  apply HeadQ.consF .none rfl
  ·exact rfl
  ·exact in1
  ·exact rfl
  ·exact rfl
  apply HeadQ.consF .none rfl
  ·exact rfl
  ·exact in1
  ·exact rfl
  ·exact rfl
  apply HeadQ.consF (V:=.own 2 1 0 (prsL lv).length) (.put 1 (XQ (prsL lv))) rfl
  ·exact rfl
  ·intro Tv Ov hc hp hd hk
   refine K.call ?_
   refine K.con (fun hcon=>?_)
   refine WpL.callF (hcon _ h.2.2.2) snapA locA outA (cnt_some _ 0) rfl rfl (by decide) ?_
   rw [Nat.zero_add]
   apply WpL.putNil (p:=1)
   ·exact hp 1 _ rfl
   ·exact Nat.zero_le _
   ·exact rfl
   ·first|exact still_ints _|exact still_rows (fun _=>rfl) _|rfl
  ·exact rfl
  ·exact rfl
  exact HeadQ.nil
 ·exact rfl
 ·exact rfl
 ·exact rfl
 ·exact rfl
 ·exact rfl
 ·exact rfl
 ·exact rfl
 by_cases h0:(prsL lv).length=0
 ·have e:bkL m lv lens n=symL lens m++[0]:=by rw [bkL,if_pos h,if_pos h0]
  refine go (r:=?_);and_intros<;>intros<;>try exact True.intro
  all_goals first|(rw [e];done)|(rw [e];simp;done)
 ·have e:bkL m lv lens n=bkK m lv lens (prsL lv).length:=by rw [bkL,if_pos h,if_neg h0]
  have e0:=bkK_zero m lv lens
  have el0:(symL lens m).length+1+(ueL ((prsL lv).length-1)).length=(bkK m lv lens 0).length:=by rw [e0];simp;omega
  refine goR (r:=?_);and_intros<;>intros<;>try exact True.intro
  (apply WpL.nestLis (id:=7) (cs2:=[.fre 1 _ _,.fre 1 _ _,.fre 1 _ _]) [0,1,2]
   ·repeat' (first
     |exact NestC.nil
     |(apply NestC.consF
       ·exact rfl
       ·exact rfl
       ·exact rfl
       ·exact rfl
       ·first|exact Nat.zero_le _|exact Nat.le_of_ble_eq_true rfl
       ·exact still_ints _
       ·first|(simp;done)|rfl
       ·exact rfl
       ·exact rfl))
   ·exact rfl
   ·repeat' (first
     |exact ToLis.nil
     |(apply ToLis.cons
       ·exact rfl
       ·first|rfl|(simp;done)))
   ·exact rfl)
  refine go (r:=?_);and_intros<;>intros<;>try exact True.intro
  ·simp
  ·exact smL_cons (by omega) (smL_cons (by decide) (smL_cons (by omega) (smL_nil _)))
  have ef:[symL lens m,[1],ueL ((prsL lv).length-1)].flatten=bkK m lv lens 0:=by rw [e0];simp
  refine WpA.loop (fun k:Nat=>⟨[(7,.own 8 0 0 (bkK m lv lens k).length),(37,.own 2 1 0 (prsL lv).length),(38,I (prsL lv).length),(39,I k)],[BoxB m lv,⟨[],2,0,none⟩,XQ (prsL lv),deadO,deadO,deadO,deadO,⟨rows liF [symL lens m,[1],ueL ((prsL lv).length-1)],0,1,some 22⟩,XI (bkK m lv lens k)]⟩) (fun k=>k≤(prsL lv).length) (fun k=>(prsL lv).length-k) 0 (by omega) (go (r:=?_)) (fun k hk=>?_)
  ·trivial
  have hb:=bkK_len m lv lens k
  have hsc:=fun h=>bkK_succ m lv lens k h
  refine goR (r:=?_);and_intros<;>intros<;>try exact True.intro
  ·have hk2:k<(prsL lv).length:=by omega
   have hpi:=prs_in h.2.2.2 hk2
   have hni:=nolL_in (v:=((prsL lv).getD k default).2) (by omega)
   have hsc:=hsc hk2
   have ha:=ueL_len ((prsL lv).getD k default).1
   have hbb:=ueL_len (nolL ((prsL lv).getD k default).2)
   have hfl:[bkK m lv lens k,ueL ((prsL lv).getD k default).1,ueL (nolL ((prsL lv).getD k default).2)].flatten=bkK m lv lens (k+1):=by rw [hsc];simp
   have hsm:[bkK m lv lens k,ueL ((prsL lv).getD k default).1,ueL (nolL ((prsL lv).getD k default).2)].length≤1024∧SmL 1048576 [bkK m lv lens k,ueL ((prsL lv).getD k default).1,ueL (nolL ((prsL lv).getD k default).2)]:=⟨by simp,smL_cons (by omega) (smL_cons (by omega) (smL_cons (by omega) (smL_nil _)))⟩
   apply WpA.regionQ0 8 2 mixed (by decide +kernel)
   ·exact rfl
   ·apply HeadQ.consF .none rfl
    ·exact rfl
    ·exact in1
    ·exact rfl
    ·exact rfl
    apply HeadQ.consF .none rfl
    ·exact rfl
    ·exact in1
    ·exact rfl
    ·exact rfl
    apply HeadQ.consF .none rfl
    ·exact rfl
    ·exact in1
    ·exact rfl
    ·exact rfl
    apply HeadQ.consF (V:=.own 10 1 0 (ueL ((prsL lv).getD k default).1).length) (.put 0 (XD (ueL ((prsL lv).getD k default).1))) rfl
    ·exact rfl
    ·intro Tv Ov hc hp hd hk
     refine K.call ?_
     refine K.con (fun hcon=>?_)
     refine WpL.callF (hcon ((prsL lv).getD k default).1 (by omega)) snapA locA outA (cnt_some _ 0) rfl rfl (by decide) ?_
     rw [Nat.zero_add]
     apply WpL.putNil (p:=0)
     ·exact hp 0 _ rfl
     ·exact Nat.zero_le _
     ·exact rfl
     ·first|exact still_ints _|exact still_rows (fun _=>rfl) _|rfl
    ·exact rfl
    ·exact rfl
    apply HeadQ.consF .none rfl
    ·exact rfl
    ·exact in1
    ·exact rfl
    ·exact rfl
    apply HeadQ.consF .none rfl
    ·exact rfl
    ·exact in1
    ·exact rfl
    ·exact rfl
    apply HeadQ.consF .none rfl
    ·exact rfl
    ·exact in0
    ·exact rfl
    ·exact rfl
    apply HeadQ.consF (V:=.own 11 1 0 (ueL (nolL ((prsL lv).getD k default).2)).length) (.put 1 (XD (ueL (nolL ((prsL lv).getD k default).2)))) rfl
    ·exact rfl
    ·intro Tv Ov hc hp hd hk
     refine K.call ?_
     refine K.con (fun hcon=>?_)
     refine WpL.callF (hcon (nolL ((prsL lv).getD k default).2) hni) snapA locA outA (cnt_some _ 0) rfl rfl (by decide) ?_
     rw [Nat.zero_add]
     apply WpL.putNil (p:=1)
     ·exact hp 1 _ rfl
     ·exact Nat.zero_le _
     ·exact rfl
     ·first|exact still_ints _|exact still_rows (fun _=>rfl) _|rfl
    ·exact rfl
    ·exact rfl
    exact HeadQ.nil
   ·exact rfl
   ·exact rfl
   ·exact rfl
   ·exact rfl
   ·exact rfl
   ·exact rfl
   refine goR (r:=?_);and_intros<;>intros<;>try exact True.intro
   (apply WpL.nestLis (id:=14) (cs2:=[.fre 1 _ _,.fre 1 _ _,.fre 1 _ _]) [0,1,2]
    ·repeat' (first
      |exact NestC.nil
      |(apply NestC.consF
        ·exact rfl
        ·exact rfl
        ·exact rfl
        ·exact rfl
        ·first|exact Nat.zero_le _|exact Nat.le_of_ble_eq_true rfl
        ·exact still_ints _
        ·first|(simp;done)|rfl
        ·exact rfl
        ·exact rfl))
    ·exact rfl
    ·repeat' (first
      |exact ToLis.nil
      |(apply ToLis.cons
        ·exact rfl
        ·first|rfl|(simp;done)))
    ·exact rfl)
   refine K.call ?_
   refine K.con (fun hcon=>?_)
   refine WpL.callF (hcon [bkK m lv lens k,ueL ((prsL lv).getD k default).1,ueL (nolL ((prsL lv).getD k default).2)] hsm) snapA locA outA rfl rfl rfl (by decide) ?_
   clear hcon
   refine WpL.weak (Weak.fillF (j:=8) rfl rfl rfl (Nat.zero_le _) rfl (still_ints _) rfl rfl) ?_
   rw [hfl]
   refine go (r:=?_);and_intros<;>intros<;>try exact True.intro
   all_goals trace_state
  all_goals have ek:k=(prsL lv).length:=by omega
  all_goals subst ek
  all_goals rw [e]⟩
end Go.Proofs.YtndflfipaddfoaaGreat


namespace Go.Proofs.YtndflfipaddfoaaGreat
open Go Go.Abs
attribute [local irreducible] WpA WpL Rnd Blk Abs.Seq Abs.Fin Abs.FinG FnC FnG Only
def mbK (e:Bool) (bs:List Blok) (lens:List Int) (k:Nat):List Int:=[bif e then 1 else 0]++(bs.take k).flatMap fun b=>bkL b.1 b.2 lens (sz8 e)
def mbbL (e:Bool) (bs:List Blok) (lens:List Int):List Int:=if MbkOk e bs lens then mbK e bs lens bs.length else []
theorem mbK_len (e:Bool) (bs:List Blok) (lens:List Int) (k:Nat):(mbK e bs lens k).length≤1+8400*k:=by
 have h3:=fm_bd (fun b:Blok=>bkL b.1 b.2 lens (sz8 e)) 8400 (fun b=>bkL_len _ _ _ _) (bs.take k)
 have h4:(bs.take k).length≤k:=by simp;omega
 unfold mbK;simp only [List.length_append,List.length_cons,List.length_nil];omega
theorem mbK_succ (e:Bool) (bs:List Blok) (lens:List Int) (k:Nat) (h:k<bs.length):mbK e bs lens (k+1)=mbK e bs lens k++bkL (bs.getD k default).1 (bs.getD k default).2 lens (sz8 e):=by
 unfold mbK;rw [fm_snoc _ _ k h,←List.append_assoc]
theorem mbbL_len (e:Bool) (bs:List Blok) (lens:List Int):(mbbL e bs lens).length≤33601:=by
 unfold mbbL;split
 ·rename_i h
  have h1:=mbK_len e bs lens bs.length
  have h2:=sz8_cases e
  have h3:=h.1
  omega
 ·simp
abbrev BoxM (e:Bool) (bs:List Blok):AObj:=⟨[B e,BkL bs],0,0,none⟩
instance MbBits_c:Con 170 (∀ (e:Bool) (bs:List Blok) (lens:List Int),SmB 1099511627776 bs∧lens.length≤1099511627776∧MbkOk e bs lens→Fn 170 [.agg [B e,BkL bs],IL lens] [XI (mbbL e bs lens)] (.own 0 0 0 (mbbL e bs lens).length)):=⟨fun e bs lens hl=>by
 have hc:=sz8_cases e
 have h:=hl.2.2
 have he:mbbL e bs lens=mbK e bs lens bs.length:=by rw [mbbL,if_pos h]
 have hz:[bif e then (1:Int) else 0]=mbK e bs lens 0:=by simp [mbK]
 have hn:=h.1
 refine FnC.of_body tabOk Tryz.func170 Tryz.ntmps170 rfl (by decide +kernel) (by simp) fun G=>?_
 refine go (r:=?_);and_intros<;>intros<;>try exact True.intro
 all_goals first|exact hl.1|(exact absurd h (by assumption))|skip
 refine WpA.loop (fun k:Nat=>⟨[(1,IL lens),(6,I (sz8 e)),(7,.own 1 0 0 (mbK e bs lens k).length),(25,BkL bs),(26,I bs.length),(27,I k)],[BoxM e bs,XI (mbK e bs lens k)]⟩) (fun k=>k≤bs.length) (fun k=>bs.length-k) 0 (by omega) (go (r:=?_)) (fun k hk=>?_)
 ·trivial
 have hb:=mbK_len e bs lens k
 have hsc:=fun h=>mbK_succ e bs lens k h
 have hbl:=bkL_len (bs.getD k default).1 (bs.getD k default).2 lens (sz8 e)
 have hsl:k<bs.length→(mbK e bs lens (k+1)).length=(mbK e bs lens k).length+(bkL (bs.getD k default).1 (bs.getD k default).2 lens (sz8 e)).length:=fun h=>by rw [hsc h];simp only [List.length_append]
 have hg:=fun h=>smB_get hl.1 (k:=k) h
 have hok:=fun hk=>ok_lv h (k:=k) hk
 refine go (r:=?_);and_intros<;>intros<;>try exact True.intro
 all_goals first|(rw [hsc (by omega)];done)|skip
 all_goals first|(have hk2:k<bs.length:=by omega
                  obtain ⟨a1,⟨⟨a2,a3,a4⟩,a5,a6⟩,a7,a8,a9⟩:=hok hk2
                  first|assumption|omega|exact a6 ‹_›)|skip
 all_goals have ek:k=bs.length:=by omega
 all_goals subst ek
 all_goals rw [he]⟩
def hdB (w h q:Int) (b d:Bool):List Int:=bitsL 183 8++ueL (w/8-1)++ueL (h/8-1)++bitsL q 6++[bif b then 1 else 0,bif d then 1 else 0]
def hdK (w h q:Int) (b d:Bool) (l:List Int) (k:Nat):List Int:=hdB w h q b d++(l.take k).flatMap fun n=>bitsL n 3
def hdL (w h q:Int) (b d:Bool) (l:List Int):List Int:=if HdOk w h q l then hdK w h q b d l l.length else []
theorem hdB_len (w h q:Int) (b d:Bool):(hdB w h q b d).length≤226:=by
 have h1:=bitsL_len 183 8
 have h2:=ueL_len (w/8-1)
 have h3:=ueL_len (h/8-1)
 have h4:=bitsL_len q 6
 unfold hdB;simp only [List.length_append,List.length_cons,List.length_nil];omega
theorem hdK_len (w h q:Int) (b d:Bool) (l:List Int) (k:Nat):(hdK w h q b d l k).length≤226+48*k:=by
 have h1:=hdB_len w h q b d
 have h3:=fm_bd (fun n:Int=>bitsL n 3) 48 (fun n=>bitsL_len _ _) (l.take k)
 have h4:(l.take k).length≤k:=by simp;omega
 unfold hdK;simp only [List.length_append];omega
theorem hdK_succ (w h q:Int) (b d:Bool) (l:List Int) (k:Nat) (hk:k<l.length):hdK w h q b d l (k+1)=hdK w h q b d l k++bitsL (l.getD k 0) 3:=by
 unfold hdK;rw [fm_snoc _ _ k hk,←List.append_assoc];rfl
theorem hdL_len (w h q:Int) (b d:Bool) (l:List Int):(hdL w h q b d l).length≤600:=by
 unfold hdL;split
 ·rename_i hh
  have h1:=hdK_len w h q b d l l.length
  have h6:=hh.2.2.2.1
  omega
 ·simp
theorem in_getH {l:List Int} {lo hi:Int} (h:In l lo hi) {k:Nat} (hk:k<l.length):lo≤l.getD k 0∧l.getD k 0≤hi:=by
 have e:l.getD k 0=l[k]:=by simp [hk]
 rw [e];exact in_mem h (List.getElem_mem _)
abbrev BoxH (w h q:Int) (b d:Bool) (l:List Int):AObj:=⟨[I w,I h,I q,B b,B d,IL l],0,0,none⟩
end Go.Proofs.YtndflfipaddfoaaGreat
