/- Proved in this text: lemmas and contracts of functions that the claim uses (parts: RdS, Fld, RdH, RdV, RdB, RdT, RdW, Back, Back2, RdHs, RdP). No condition. -/
import Derived.Test.YtndflfipaddfoaaGreatCtM10
import Derived.Test.YtndflfipaddfoaaGreatCtM9
import Derived.Test.YtndflfipaddfoaaGreatCtM7
set_option linter.unusedVariables false
set_option linter.unusedSimpArgs false
set_option maxRecDepth 100000
set_option maxHeartbeats 16000000


namespace Go.Proofs.YtndflfipaddfoaaGreat
open Go Go.Abs
attribute [local irreducible] WpA WpL Rnd Blk Abs.Seq Abs.Fin Abs.FinG FnC FnG Only
abbrev R0:AObj:=⟨[Z [],I 0],0,0,none⟩
instance ReadSym_c:Con 198 (∀ (p:List UInt8) (s:Int) (l:List Int),p.length≤1099511627776∧l.length≤1099511627776→Fn 198 [RA p s,IL l] [] (.tup [RA p (smA p s l),I (smV p s l),I (smC p s l)])):=⟨fun p s l hl=>by
 have hb:=lft_bd p s
 refine FnC.of_body tabOk Tryz.func198 Tryz.ntmps198 rfl (by decide +kernel) (by simp) fun G=>?_
 by_cases hok:CodeOk l
 ·have h6:=hok.2.1
  have hcr:=codesR_ok l hok
  have hcl:=codes_len l
  have hcn:=codesR_len l hok
  refine go (r:=?_);and_intros<;>intros<;>try exact True.intro
  all_goals first|(exact absurd hok (by assumption))|skip
  refine WpA.loop (fun k:Nat=>⟨[(2,.ptr 0 0 0),(4,.ptr 1 0 0),(7,.own 2 0 0 6),(18,IL l),(19,I l.length),(20,I k)],[BoxR p s,R0,XI (codes l)]⟩) (fun k=>k≤6∧∀m<k,¬SymAt p s l m) (fun k=>6-k) 0 ⟨by omega,fun j hj=>by omega⟩ (go (r:=?_)) (fun k hk=>?_)
  ·trivial
  have hcb:=code_in hok (m:=k)
  have hy:=fun h=>rb_yes (p:=p) (s:=s) (n:=l.getD k 0) h
  refine go (r:=?_);and_intros<;>intros<;>try exact True.intro
  all_goals first
   |(have hsy:SymAt p s l k:=⟨by omega,by assumption,by rw [←(hy (by assumption)).2];simpa using ‹rbV p s (l.getD k 0)=_›⟩
     obtain ⟨e1,e2,e3⟩:=sm_yes hok (by omega) hsy
     first|(rw [e1,(hy hsy.2.1).1];done)|(rw [e2];done)|(rw [e3];done))
   |(rename_i j hj hs
     rcases Nat.lt_succ_iff_lt_or_eq.1 hj with h|h
     ·exact hk.2 j h hs
     ·subst h
      obtain ⟨a,b,c⟩:=hs
      first|omega|exact absurd b (by assumption)|(have hv:=(hy b).2;rw [c] at hv;rw [Int.toNat_natCast] at *;exact absurd hv (by assumption)))
   |(obtain ⟨e1,e2,e3⟩:=sm_none hok (fun m hm=>hk.2 m (by omega))
     first|(rw [e1];done)|(rw [e2];done)|(rw [e3];done))
 ·obtain ⟨e1,e2,e3⟩:=sm_bad (p:=p) (s:=s) hok
  have hcr:=codesR_no l hok
  refine go (r:=?_);and_intros<;>intros<;>try exact True.intro
  all_goals first|(exact absurd (by assumption) hok)|(rw [e1];done)|(rw [e2];done)|(rw [e3];done)⟩
theorem _root_.Go.Abs.WpA.regionMB0 {P:Program} {n m:Nat} {G:Ctx} {T0:List (Nat×AV)} {O:List AObj} {l l1 l2:List Oper} {id:Nat} {out T1:List (Nat×AV)} {Q:Exit→St→Prop} (k:Nat) (hm:P.follows .mixedOrders=true) (hB:mixB l.toArray k=true)
 (hl:takeF k l=some l1) (hJ:HeadJ P n m G l.toArray T0 O [] l1 out) (hnd:TrueB (nodupB (out.map (·.1)))) (hfr:TrueB (out.all fun p=>!has T0 p.1))
 (hT1:catF out T0=some T1) (h2:l.drop k=l2) (h:WpL P n m G false l.toArray l2 ⟨T1,O⟩ Q):WpA P n m G (.region id l.toArray true) ⟨T0,O⟩ Q:=by
 have:=takeF_eq hl;subst this;subst h2
 exact WpA.regionM k hm hB hJ hnd.e hfr.e (catF_eq hT1) h
theorem end0 {p:List UInt8} {s:Int} (h:lft p s=0):endC p s=1:=by rw [endC,if_pos h]
instance StopOk_c:Con 91 (∀ (p:List UInt8) (s:Int),p.length≤1099511627776∧RdOk p s→Fn 91 [RA p s] [] (I (endC p s))):=⟨fun p s hl=>by
 have hb:=lft_bd p s
 obtain ⟨hl,h1,h2⟩:=hl
 refine FnC.of_body tabOk Tryz.func91 Tryz.ntmps91 rfl (by decide +kernel) (by simp) fun G=>?_
 refine goR (r:=?_);and_intros<;>intros<;>try exact True.intro
 ·rw [end0 (by assumption)]
 rename_i h0
 by_cases h8:lft p s≤8
 ·apply WpA.regionMB0 14 mixed (by decide +kernel)
  ·exact rfl
  ·skip
   apply HeadJ.consF rfl
   ·exact rfl
   ·exact in0
   ·exact rfl
   apply HeadJ.consF (V:=B true) rfl
   ·exact rfl
   ·intro Tv
    refine K.L ?_
    refine K.bin ?_
    refine WpL.bin rfl rfl rfl (by decide) ?_
    exact WpL.nil (Only.mk (by rw [decide_eq_true h8]))
   ·exact rfl
   apply HeadJ.consF rfl
   ·exact rfl
   ·exact in0
   ·exact rfl
   apply HeadJ.consF rfl
   ·exact rfl
   ·(intro Tv;refine K.L ?_;refine K.gd ?_;refine K.gT rfl (by decide) rfl ?_;exact in0)
   ·exact rfl
   apply HeadJ.consF rfl
   ·exact rfl
   ·(intro Tv;refine K.L ?_;refine K.gd ?_;refine K.gT rfl (by decide) rfl ?_;exact in0)
   ·exact rfl
   apply HeadJ.consF rfl
   ·exact rfl
   ·(intro Tv;refine K.L ?_;refine K.gd ?_;refine K.gT rfl (by decide) rfl ?_;exact in0)
   ·exact rfl
   apply HeadJ.consF rfl
   ·exact rfl
   ·(intro Tv;refine K.L ?_;refine K.gd ?_;refine K.gT rfl (by decide) rfl ?_;exact in0)
   ·exact rfl
   apply HeadJ.consF rfl
   ·exact rfl
   ·(intro Tv;refine K.L ?_;refine K.gd ?_;refine K.gT rfl (by decide) rfl ?_;exact in0)
   ·exact rfl
   apply HeadJ.consF rfl
   ·exact rfl
   ·(intro Tv;refine K.L ?_;refine K.gd ?_;refine K.gT rfl (by decide) rfl ?_;exact in0)
   ·exact rfl
   apply HeadJ.consF rfl
   ·exact rfl
   ·(intro Tv;refine K.L ?_;refine K.gd ?_;refine K.gT rfl (by decide) rfl ?_;exact in0)
   ·exact rfl
   apply HeadJ.consF rfl
   ·exact rfl
   ·(intro Tv;refine K.L ?_;refine K.gd ?_;refine K.gT rfl (by decide) rfl ?_;exact in0)
   ·exact rfl
   apply HeadJ.consF rfl
   ·exact rfl
   ·(intro Tv;refine K.L ?_;refine K.gd ?_;refine K.gT rfl (by decide) rfl ?_;exact in0)
   ·exact rfl
   apply HeadJ.consF rfl
   ·exact rfl
   ·(intro Tv;refine K.L ?_;refine K.gd ?_;refine K.gT rfl (by decide) rfl ?_;exact in0)
   ·exact rfl
   apply HeadJ.consF rfl
   ·exact rfl
   ·exact in0
   ·exact rfl
   exact HeadJ.nil
  ·exact trueA
  ·exact trueA
  ·exact rfl
  ·exact rfl
  have hw1:IntKind.i64.wrap (1*2 ^ (lft p s-1).toNat)=2 ^ (lft p s-1).toNat:=by
   have e:((1:Int)*2 ^ (lft p s-1).toNat)=2 ^ (lft p s-1).toNat:=Int.one_mul _
   have h4:(2:Int) ^ (lft p s-1).toNat≤2 ^ 8:=by exact_mod_cast Nat.pow_le_pow_right (by decide) (by omega)
   have h5:(0:Int)<2 ^ (lft p s-1).toNat:=by exact_mod_cast Nat.pow_pos (by decide)
   rw [e];exact wrap64 _ (by omega)
  refine go (r:=?_);and_intros<;>intros<;>try exact True.intro
  ·rename_i hn
   rw [hw1] at hn
   rw [endC,if_neg h0,if_pos ⟨h8,hn⟩]
  ·rename_i hn
   rw [hw1] at hn
   rw [endC,if_neg h0,if_neg fun h=>hn h.2]
 ·apply WpA.regionMB0 14 mixed (by decide +kernel)
  ·exact rfl
  ·skip
   apply HeadJ.consF rfl
   ·exact rfl
   ·exact in0
   ·exact rfl
   apply HeadJ.consF (V:=B false) rfl
   ·exact rfl
   ·intro Tv
    refine K.L ?_
    refine K.bin ?_
    refine WpL.bin rfl rfl rfl (by decide) ?_
    exact WpL.nil (Only.mk (by rw [decide_eq_false h8]))
   ·exact rfl
   apply HeadJ.consF rfl
   ·exact rfl
   ·exact in0
   ·exact rfl
   apply HeadJ.consF rfl
   ·exact rfl
   ·(intro Tv;refine K.L ?_;refine K.gd ?_;refine K.gF rfl (by decide) rfl ?_;exact WpL.nil (Only.mk rfl))
   ·exact rfl
   apply HeadJ.consF rfl
   ·exact rfl
   ·(intro Tv;refine K.L ?_;refine K.gd ?_;refine K.gF rfl (by decide) rfl ?_;exact WpL.nil (Only.mk rfl))
   ·exact rfl
   apply HeadJ.consF rfl
   ·exact rfl
   ·(intro Tv;refine K.L ?_;refine K.gd ?_;refine K.gF rfl (by decide) rfl ?_;exact WpL.nil (Only.mk rfl))
   ·exact rfl
   apply HeadJ.consF rfl
   ·exact rfl
   ·(intro Tv;refine K.L ?_;refine K.gd ?_;refine K.gF rfl (by decide) rfl ?_;exact WpL.nil (Only.mk rfl))
   ·exact rfl
   apply HeadJ.consF rfl
   ·exact rfl
   ·(intro Tv;refine K.L ?_;refine K.gd ?_;refine K.gF rfl (by decide) rfl ?_;exact WpL.nil (Only.mk rfl))
   ·exact rfl
   apply HeadJ.consF rfl
   ·exact rfl
   ·(intro Tv;refine K.L ?_;refine K.gd ?_;refine K.gF rfl (by decide) rfl ?_;exact WpL.nil (Only.mk rfl))
   ·exact rfl
   apply HeadJ.consF rfl
   ·exact rfl
   ·(intro Tv;refine K.L ?_;refine K.gd ?_;refine K.gF rfl (by decide) rfl ?_;exact WpL.nil (Only.mk rfl))
   ·exact rfl
   apply HeadJ.consF rfl
   ·exact rfl
   ·(intro Tv;refine K.L ?_;refine K.gd ?_;refine K.gF rfl (by decide) rfl ?_;exact WpL.nil (Only.mk rfl))
   ·exact rfl
   apply HeadJ.consF rfl
   ·exact rfl
   ·(intro Tv;refine K.L ?_;refine K.gd ?_;refine K.gF rfl (by decide) rfl ?_;exact WpL.nil (Only.mk rfl))
   ·exact rfl
   apply HeadJ.consF rfl
   ·exact rfl
   ·(intro Tv;refine K.L ?_;refine K.gd ?_;refine K.gF rfl (by decide) rfl ?_;exact WpL.nil (Only.mk rfl))
   ·exact rfl
   apply HeadJ.consF rfl
   ·exact rfl
   ·exact in0
   ·exact rfl
   exact HeadJ.nil
  ·exact trueA
  ·exact trueA
  ·exact rfl
  ·exact rfl
  refine go (r:=?_);and_intros<;>intros<;>try exact True.intro
  rw [endC,if_neg h0,if_neg fun h=>h8 h.1]⟩
end Go.Proofs.YtndflfipaddfoaaGreat


namespace Go.Proofs.YtndflfipaddfoaaGreat
open Go Go.Abs
attribute [local irreducible] WpA WpL Rnd Blk Abs.Seq Abs.Fin Abs.FinG FnC FnG Only
instance unless_c:Con 175 (∀ (b:Bool) (c:Int),Fn 175 [B b,I c] [] (I (bif b then 0 else c))):=⟨fun b c=>by
 cases b
 ·refine FnC.of_body tabOk Tryz.func175 Tryz.ntmps175 rfl (by decide +kernel) (by simp) fun G=>?_
  refine go (r:=?_);and_intros<;>intros<;>try exact True.intro
  all_goals rfl
 ·refine FnC.of_body tabOk Tryz.func175 Tryz.ntmps175 rfl (by decide +kernel) (by simp) fun G=>?_
  refine go (r:=?_);and_intros<;>intros<;>try exact True.intro
  all_goals rfl⟩
instance levels1_c:Con 213 (∀ x:Int,Fn 213 [I x] [] (I 0)):=⟨fun x=>by
 refine FnC.of_body tabOk Tryz.func213 Tryz.ntmps213 rfl (by decide +kernel) (by simp) fun G=>?_
 refine go (r:=?_);and_intros<;>intros<;>try exact True.intro⟩
instance levels2_c:Con 214 (∀ x n:Int,0≤n∧n≤8→Fn 214 [I x,.iptr [I n] 0] [] (I (ifE (x<n*n) 5))):=⟨fun x n h=>by
 have hnn:=mul_in (a:=n) (b:=n) (by omega) (by omega)
 refine FnC.of_body tabOk Tryz.func214 Tryz.ntmps214 rfl (by decide +kernel) (by simp) fun G=>?_
 refine go (r:=?_);and_intros<;>intros<;>try exact True.intro⟩
instance levels3_c:Con 215 (∀ x n t:Int,(0≤n∧n≤8)∧0≤t∧t≤1099511627776→Fn 215 [I x,.iptr [I n] 0,.iptr [I t] 0] [] (I (ifE (x<n*n-t) 5))):=⟨fun x n t h=>by
 have hnn:0≤n*n∧n*n≤64:=⟨Int.mul_nonneg h.1.1 h.1.1,by have:=Int.mul_le_mul h.1.2 h.1.2 h.1.1 (by decide);omega⟩
 have hn2:=mul_in (a:=n) (b:=n) (by omega) (by omega)
 refine FnC.of_body tabOk Tryz.func215 Tryz.ntmps215 rfl (by decide +kernel) (by simp) fun G=>?_
 refine go (r:=?_);and_intros<;>intros<;>try exact True.intro⟩
instance levels4_c:Con 217 (∀ x:Int,-4611686018427387904≤x∧x≤4611686018427387904→Fn 217 [I x] [] (I (ifE (-16383≤lvOf x∧lvOf x≤16383) 5))):=⟨fun x h=>by
 refine FnC.of_body tabOk Tryz.func217 Tryz.ntmps217 rfl (by decide +kernel) (by simp) fun G=>?_
 refine go (r:=?_);and_intros<;>intros<;>try exact True.intro⟩
abbrev FldO (p:List UInt8) (s c:Int):AObj:=⟨[Z p,I s,I c],0,0,none⟩
abbrev Chk (g:Nat) (caps:List AV) (k:Int→Int):Prop:=caps.all AV.still=true∧caps.all AV.nofre=true∧∀x:Int,-1≤x∧x≤4294967296→Fn g (I x::caps) [] (I (k x))
abbrev ChkB (g:Nat) (caps:List AV) (k:Int→Int):Prop:=caps.all AV.still=true∧caps.all AV.nofre=true∧∀x:Int,0≤x∧x≤4294967296→Fn g (I x::caps) [] (I (k x))
theorem fbits_c (p:List UInt8) (s c n:Int) (g:Nat) (caps:List AV) (k:Int→Int) (hl:p.length≤1099511627776) (hk:ChkB g caps k):Gn 177 [.ptr 0 0 0,I n,.fn g caps] [FldO p s c] [FldO p (fbA p s c n k) (fbC p s c n k)] [] (I (fbV p s c n k)):=by
 obtain ⟨hc1,hc2,hg⟩:=hk
 have hv:=rbV_bd p s n
 refine FnG.of_bodyF tabOk Tryz.func177 Tryz.ntmps177 rfl (by decide +kernel) (by simp) rfl rfl fun G=>?_
 by_cases hc:c=0
 ·by_cases hok:RbOk p s n
  ·have e1:fbC p s c n k=k (rbV p s n):=by rw [fbC,if_pos hc,if_pos hok]
   refine go (r:=?_);and_intros<;>intros<;>try exact True.intro
   refine K.callT ?_
   refine WpL.callV0 rfl (hg (rbV p s n) ⟨by omega,by omega⟩) rfl (.keep rfl rfl (Snap.same rfl hc1 hc2)) (.sc .nil) rfl rfl (by decide) ?_
   by_cases hk0:k (rbV p s n)=0
   ·have e2:fbA p s c n k=rbA p s n:=by rw [fbA,if_pos ⟨hc,by rw [e1,hk0]⟩]
    have e3:fbV p s c n k=rbV p s n:=by rw [fbV,if_pos (by rw [e1,hk0])]
    refine go (r:=?_);and_intros<;>intros<;>try exact True.intro
    all_goals first|(exact absurd hk0 (by assumption))|(rw [e1];done)|(rw [e2];done)|(rw [e3];done)
   ·have e2:fbA p s c n k=s:=by rw [fbA,if_neg (by rw [e1];exact fun h=>hk0 h.2)]
    have e3:fbV p s c n k=0:=by rw [fbV,if_neg (by rw [e1];exact hk0)]
    refine go (r:=?_);and_intros<;>intros<;>try exact True.intro
    all_goals first|(exact absurd (by assumption) hk0)|(rw [e1];done)|(rw [e2];done)|(rw [e3];done)
  ·have e1:fbC p s c n k=1:=by rw [fbC,if_pos hc,if_neg hok]
   have e2:fbA p s c n k=s:=by rw [fbA,if_neg (by rw [e1];omega)]
   have e3:fbV p s c n k=0:=by rw [fbV,if_neg (by rw [e1];omega)]
   refine go (r:=?_);and_intros<;>intros<;>try exact True.intro
   all_goals first|(exact absurd (by assumption) hok)|(rw [e1];done)|(rw [e2];done)|(rw [e3];done)
 ·have e1:fbC p s c n k=c:=by rw [fbC,if_neg hc]
  have e2:fbA p s c n k=s:=by rw [fbA,if_neg (by omega)]
  have e3:fbV p s c n k=0:=by rw [fbV,if_neg (by rw [e1];omega)]
  refine go (r:=?_);and_intros<;>intros<;>try exact True.intro
  all_goals first|(exact absurd (by assumption) hc)|(rw [e1];done)|(rw [e2];done)|(rw [e3];done)
theorem ueV_bd (p:List UInt8) (s:Int):-1≤ueV p s∧ueV p s≤4294967296:=by
 have h:=rbV_bd p s (2*(zrs p s:Int)+1)
 unfold ueV;split<;>omega
theorem fue_c (p:List UInt8) (s c:Int) (g:Nat) (caps:List AV) (k:Int→Int) (hl:p.length≤1099511627776) (hk:Chk g caps k):Gn 179 [.ptr 0 0 0,.fn g caps] [FldO p s c] [FldO p (fuA p s c k) (fuC p s c k)] [] (I (fuV p s c k)):=by
 obtain ⟨hc1,hc2,hg⟩:=hk
 have hv:=ueV_bd p s
 refine FnG.of_bodyF tabOk Tryz.func179 Tryz.ntmps179 rfl (by decide +kernel) (by simp) rfl rfl fun G=>?_
 by_cases hc:c=0
 ·by_cases hok:ueC p s=0
  ·have e1:fuC p s c k=k (ueV p s):=by rw [fuC,if_pos hc,if_pos hok]
   refine go (r:=?_);and_intros<;>intros<;>try exact True.intro
   all_goals first|(exact absurd hok (by assumption))|skip
   refine K.callT ?_
   refine WpL.callV0 rfl (hg (ueV p s) hv) rfl (.keep rfl rfl (Snap.same rfl hc1 hc2)) (.sc .nil) rfl rfl (by decide) ?_
   by_cases hk0:k (ueV p s)=0
   ·have e2:fuA p s c k=ueA p s:=by rw [fuA,if_pos (by rw [e1,hk0])]
    have e3:fuV p s c k=ueV p s:=by rw [fuV,if_pos (by rw [e1,hk0])]
    refine go (r:=?_);and_intros<;>intros<;>try exact True.intro
    all_goals first|(exact absurd hk0 (by assumption))|(rw [e1];done)|(rw [e2];done)|(rw [e3];done)
   ·have e2:fuA p s c k=s:=by rw [fuA,if_neg (by rw [e1];exact hk0)]
    have e3:fuV p s c k=0:=by rw [fuV,if_neg (by rw [e1];exact hk0)]
    refine go (r:=?_);and_intros<;>intros<;>try exact True.intro
    all_goals first|(exact absurd (by assumption) hk0)|(rw [e1];done)|(rw [e2];done)|(rw [e3];done)
  ·have e1:fuC p s c k=ueC p s:=by rw [fuC,if_pos hc,if_neg hok]
   have e2:fuA p s c k=s:=by rw [fuA,if_neg (by rw [e1];exact hok)]
   have e3:fuV p s c k=0:=by rw [fuV,if_neg (by rw [e1];exact hok)]
   refine go (r:=?_);and_intros<;>intros<;>try exact True.intro
   all_goals first|(exact absurd (by assumption) hok)|(rw [e1];done)|(rw [e2];done)|(rw [e3];done)
 ·have e1:fuC p s c k=c:=by rw [fuC,if_neg hc]
  have e2:fuA p s c k=s:=by rw [fuA,if_neg (by rw [e1];exact hc)]
  have e3:fuV p s c k=0:=by rw [fuV,if_neg (by rw [e1];exact hc)]
  refine go (r:=?_);and_intros<;>intros<;>try exact True.intro
  all_goals first|(exact absurd (by assumption) hc)|(rw [e1];done)|(rw [e2];done)|(rw [e3];done)
instance rh1_c:Con 173 (∀ x:Int,Fn 173 [I x] [] (I 0)):=⟨fun x=>by
 refine FnC.of_body tabOk Tryz.func173 Tryz.ntmps173 rfl (by decide +kernel) (by simp) fun G=>?_
 refine go (r:=?_);and_intros<;>intros<;>try exact True.intro⟩
instance rh2_c:Con 174 (∀ x:Int,Fn 174 [I x] [] (I (ifE (x≤3) 3))):=⟨fun x=>by
 refine FnC.of_body tabOk Tryz.func174 Tryz.ntmps174 rfl (by decide +kernel) (by simp) fun G=>?_
 refine go (r:=?_);and_intros<;>intros<;>try exact True.intro⟩
instance rh4_c:Con 178 (∀ x:Int,Fn 178 [I x] [] (I (ifE (x=183) 2))):=⟨fun x=>by
 refine FnC.of_body tabOk Tryz.func178 Tryz.ntmps178 rfl (by decide +kernel) (by simp) fun G=>?_
 refine go (r:=?_);and_intros<;>intros<;>try exact True.intro⟩
instance rh5_c:Con 180 (∀ x:Int,Fn 180 [I x] [] (I (ifE (x≤51) 3))):=⟨fun x=>by
 refine FnC.of_body tabOk Tryz.func180 Tryz.ntmps180 rfl (by decide +kernel) (by simp) fun G=>?_
 refine go (r:=?_);and_intros<;>intros<;>try exact True.intro⟩
theorem and7 (a:Int) (h:0≤a∧a≤4611686018427387904):IntKind.i64.wrap ((BitVec.ofInt IntKind.i64.bits a &&& BitVec.ofInt IntKind.i64.bits 7).toNat:Nat)=a%8:=by
 obtain ⟨x,rfl⟩:∃x:Nat,a=x:=⟨a.toNat,by omega⟩
 have h1:(BitVec.ofInt IntKind.i64.bits (x:Int)).toNat=x:=by simp only [IntKind.bits,BitVec.toNat_ofInt];omega
 have h2:(BitVec.ofInt IntKind.i64.bits (7:Int)).toNat=2 ^ 3-1:=by decide
 rw [BitVec.toNat_and,h1,h2,Nat.and_two_pow_sub_one_eq_mod,wrap64 _ (by omega)]
 omega
def lensK (v:Int) (k:Nat):List Int:=(List.range k).map fun j=>lenAt v (5-j)
theorem lensK_6 (v:Int):lensK v 6=lensV v:=rfl
theorem lensK_succ (v:Int) (k:Nat):lensK v (k+1)=lensK v k++[lenAt v (5-k)]:=by simp [lensK,List.range_succ]
theorem lensK_len (v:Int) (k:Nat):(lensK v k).length=k:=by simp [lensK]
instance rh3_c:Con 176 (∀ x:Int,0≤x∧x≤4294967296→Fn 176 [I x] [XI (lensV x)] (.own 0 0 0 6)):=⟨fun x hx=>by
 refine FnC.of_body tabOk Tryz.func176 Tryz.ntmps176 rfl (by decide +kernel) (by simp) fun G=>?_
 refine go (r:=?_);and_intros<;>intros<;>try exact True.intro
 refine WpA.loop (fun k:Nat=>⟨[(0,I x),(3,.own 0 0 0 k),(4,I (5-(k:Int)))],[XI (lensK x k)]⟩) (fun k=>k≤6) (fun k=>6-k) 0 (by omega) (go (r:=?_)) (fun k hk=>?_)
 ·simp [lensK]
 have hkl:=lensK_len x k
 have hks:=lensK_succ x k
 have hd0:=Int.ediv_nonneg (a:=x) (b:=2 ^ (3*(5-(k:Int))).toNat) hx.1 (Int.pow_nonneg (by decide))
 have hd1:=Int.ediv_le_self (a:=x) (2 ^ (3*(5-(k:Int))).toNat) hx.1
 have hla:lenAt x (5-k)=x/2 ^ (3*(5-k))%8:=rfl
 refine go (r:=?_);and_intros<;>intros<;>try exact True.intro
 ·rw [hks,and7 _ ⟨hd0,by omega⟩,hla,show (3*(5-(k:Int))).toNat=3*(5-k) by omega]
 ·rw [show k=6 by omega,lensK_6]⟩
instance rh6_c:Con 181 (∀ x:Int,0≤x∧x≤4294967296→Fn 181 [I x,.iptr [.fn 176 []] 0] [] (I (ifE (CodeOk (lensV x)) 4))):=⟨fun x hx=>by
 have hll:(lensV x).length=6:=rfl
 refine FnC.of_body tabOk Tryz.func181 Tryz.ntmps181 rfl (by decide +kernel) (by simp) fun G=>?_
 refine go (r:=?_);and_intros<;>intros<;>try exact True.intro⟩
end Go.Proofs.YtndflfipaddfoaaGreat


namespace Go.Proofs.YtndflfipaddfoaaGreat
open Go Go.Abs
attribute [local irreducible] WpA WpL Rnd Blk Abs.Seq Abs.Fin Abs.FinG FnC FnG Only
theorem fuV_bd (p:List UInt8) (s c:Int) (k:Int→Int):-1≤fuV p s c k∧fuV p s c k≤4294967296:=by
 have:=ueV_bd p s
 unfold fuV;split<;>omega
theorem fbV_bd (p:List UInt8) (s c n:Int) (k:Int→Int):0≤fbV p s c n k∧fbV p s c n k≤4294967296:=by
 have:=rbV_bd p s n
 unfold fbV;split<;>omega
abbrev HdV (x:HdS):AV:=.agg [I x.W,I x.H,I x.Q,B x.B,B x.D,.own 0 0 0 x.L.length]
instance ReadHeader_c:Con 89 (∀ (p:List UInt8) (s:Int),p.length≤1099511627776→Fn 89 [RA p s] [XI (hdS p s).L] (.tup [RA p (hdS p s).a,HdV (hdS p s),I (hdS p s).c])):=⟨fun p s hl=>by
 refine FnC.of_body tabOk Tryz.func89 Tryz.ntmps89 rfl (by decide +kernel) (by simp) fun G=>?_
 refine go (r:=?_);and_intros<;>intros<;>try exact True.intro
 refine K.call ?_
 refine WpL.callM (hs:=[3]) (fbits_c p s 0 8 178 [] hk1 hl ⟨rfl,rfl,fun x _=>rh4_c.ok x⟩) handA handOA rfl rfl (.cons rfl (.sc (.sc (.sc .nil))) .nil) outA rfl rfl rfl rfl (by decide) ?_
 have b1:=fbV_bd p s 0 8 hk1
 generalize hv1:fbV p s 0 8 hk1=v1 at b1 ⊢
 generalize ha1:fbA p s 0 8 hk1=a1
 generalize hc1:fbC p s 0 8 hk1=c1
 refine go (r:=?_);and_intros<;>intros<;>try exact True.intro
 refine K.call ?_
 refine WpL.callM (hs:=[3]) (fue_c p a1 c1 174 [] hk2 hl ⟨rfl,rfl,fun x _=>rh2_c.ok x⟩) handA handOA rfl rfl (.cons rfl (.sc (.sc (.sc .nil))) .nil) outA rfl rfl rfl rfl (by decide) ?_
 have b2:=fuV_bd p a1 c1 hk2
 generalize hv2:fuV p a1 c1 hk2=v2 at b2 ⊢
 generalize ha2:fuA p a1 c1 hk2=a2
 generalize hc2:fuC p a1 c1 hk2=c2
 refine go (r:=?_);and_intros<;>intros<;>try exact True.intro
 refine K.call ?_
 refine WpL.callM (hs:=[3]) (fue_c p a2 c2 174 [] hk2 hl ⟨rfl,rfl,fun x _=>rh2_c.ok x⟩) handA handOA rfl rfl (.cons rfl (.sc (.sc (.sc .nil))) .nil) outA rfl rfl rfl rfl (by decide) ?_
 have b3:=fuV_bd p a2 c2 hk2
 generalize hv3:fuV p a2 c2 hk2=v3 at b3 ⊢
 generalize ha3:fuA p a2 c2 hk2=a3
 generalize hc3:fuC p a2 c2 hk2=c3
 refine go (r:=?_);and_intros<;>intros<;>try exact True.intro
 refine K.call ?_
 refine WpL.callM (hs:=[3]) (fbits_c p a3 c3 6 180 [] hk3 hl ⟨rfl,rfl,fun x _=>rh5_c.ok x⟩) handA handOA rfl rfl (.cons rfl (.sc (.sc (.sc .nil))) .nil) outA rfl rfl rfl rfl (by decide) ?_
 have b4:=fbV_bd p a3 c3 6 hk3
 generalize hv4:fbV p a3 c3 6 hk3=v4 at b4 ⊢
 generalize ha4:fbA p a3 c3 6 hk3=a4
 generalize hc4:fbC p a3 c3 6 hk3=c4
 refine go (r:=?_);and_intros<;>intros<;>try exact True.intro
 refine K.call ?_
 refine WpL.callM (hs:=[3]) (fbits_c p a4 c4 2 173 [] hk4 hl ⟨rfl,rfl,fun x _=>rh1_c.ok x⟩) handA handOA rfl rfl (.cons rfl (.sc (.sc (.sc .nil))) .nil) outA rfl rfl rfl rfl (by decide) ?_
 have b5:=fbV_bd p a4 c4 2 hk4
 generalize hv5:fbV p a4 c4 2 hk4=v5 at b5 ⊢
 generalize ha5:fbA p a4 c4 2 hk4=a5
 generalize hc5:fbC p a4 c4 2 hk4=c5
 refine go (r:=?_);and_intros<;>intros<;>try exact True.intro
 refine K.call ?_
 refine WpL.callM (hs:=[3]) (fbits_c p a5 c5 18 181 [.iptr [.fn 176 []] 0] hk5 hl ⟨rfl,rfl,fun x h=>rh6_c.ok x h⟩) handA handOA rfl rfl (.cons rfl (.sc (.sc (.sc .nil))) .nil) outA rfl rfl rfl rfl (by decide) ?_
 have b6:=fbV_bd p a5 c5 18 hk5
 generalize hv6:fbV p a5 c5 18 hk5=v6 at b6 ⊢
 generalize ha6:fbA p a5 c5 18 hk5=a6
 generalize hc6:fbC p a5 c5 18 hk5=c6
 have hS:hdS p s=⟨a6,c6,v2,v3,v4,v5,v6⟩:=by simp only [hdS,ha1,hc1,ha2,hc2,ha3,hc3,ha4,hc4,ha5,hc5,ha6,hc6,hv2,hv3,hv4,hv5,hv6]
 rw [hS]
 clear hS ha1 hc1 ha2 hc2 ha3 hc3 ha4 hc4 ha5 hc5 ha6 hc6 hv1 hv2 hv3 hv4 hv5 hv6
 have hll:(lensV v6).length=6:=rfl
 by_cases h0:c6=0
 ·have eW:HdS.W ⟨a6,c6,v2,v3,v4,v5,v6⟩=8*(v2+1):=if_pos h0
  have eH:HdS.H ⟨a6,c6,v2,v3,v4,v5,v6⟩=8*(v3+1):=if_pos h0
  have eQ:HdS.Q ⟨a6,c6,v2,v3,v4,v5,v6⟩=v4:=if_pos h0
  have eL:HdS.L ⟨a6,c6,v2,v3,v4,v5,v6⟩=lensV v6:=if_pos h0
  have eB:HdS.B ⟨a6,c6,v2,v3,v4,v5,v6⟩=decide (v5≥2):=by unfold HdS.B;simp [h0]
  have eD:HdS.D ⟨a6,c6,v2,v3,v4,v5,v6⟩=decide (v5%2=1):=by unfold HdS.D;simp [h0]
  have eV:∀y:HdS,HdV y=.agg [I y.W,I y.H,I y.Q,B y.B,B y.D,.own 0 0 0 y.L.length]:=fun _=>rfl
  rw [eV,eL,eW,eH,eQ,eB,eD]
  refine go (r:=?_);and_intros<;>intros<;>try exact True.intro
 ·have eW:HdS.W ⟨a6,c6,v2,v3,v4,v5,v6⟩=0:=if_neg h0
  have eH:HdS.H ⟨a6,c6,v2,v3,v4,v5,v6⟩=0:=if_neg h0
  have eQ:HdS.Q ⟨a6,c6,v2,v3,v4,v5,v6⟩=0:=if_neg h0
  have eL:HdS.L ⟨a6,c6,v2,v3,v4,v5,v6⟩=[]:=if_neg h0
  have eB:HdS.B ⟨a6,c6,v2,v3,v4,v5,v6⟩=false:=by unfold HdS.B;simp [h0]
  have eD:HdS.D ⟨a6,c6,v2,v3,v4,v5,v6⟩=false:=by unfold HdS.D;simp [h0]
  have eV:∀y:HdS,HdV y=.agg [I y.W,I y.H,I y.Q,B y.B,B y.D,.own 0 0 0 y.L.length]:=fun _=>rfl
  rw [eV,eL,eW,eH,eQ,eB,eD]
  refine go (r:=?_);and_intros<;>intros<;>try exact True.intro⟩
end Go.Proofs.YtndflfipaddfoaaGreat


namespace Go.Proofs.YtndflfipaddfoaaGreat
open Go Go.Abs
theorem zrW_stop (p:List UInt8) (s:Int):∀(f n:Nat),zrW p s f n=n+f∨btA p (s+(zrW p s f n:Nat))≠0
 |0,n=>.inl rfl
 |f+1,n=>by
  rw [zrW];split
  ·rcases zrW_stop p s f (n+1) with h|h
   ·exact .inl (by omega)
   ·exact .inr h
  ·rename_i h;exact .inr h
theorem zrs_stop (p:List UInt8) (s:Int):(zrs p s:Int)=lft p s∨btA p (s+(zrs p s:Nat))≠0:=by
 have hb:=lft_bd p s
 rcases zrW_stop p s (lft p s).toNat 0 with h|h
 ·exact .inl (by unfold zrs;omega)
 ·exact .inr h
theorem ueV_nn (p:List UInt8) (s:Int):0≤ueV p s:=by
 unfold ueV;split
 ·rename_i h
  by_cases h15:zrs p s≤15
  ·by_cases hok:RbOk p s (2*(zrs p s:Int)+1)
   ·rw [(rb_yes hok).2]
    have hlo:=lft_ok hok.1
    have hst:=zrs_stop p s
    have hbo:=btA_out p (s+(zrs p s:Nat))
    have hbd:=btA_bd p (s+(zrs p s:Nat))
    have hb1:btA p (s+(zrs p s:Nat))=1:=by
     rcases hst with h|h
     ·omega
     ·omega
    have e:=numB_add p s (zrs p s+1) (zrs p s)
    have h1:=numB_bd p (s+((zrs p s+1:Nat):Int)) (zrs p s)
    have h2:=numB_bd p s (zrs p s)
    have h3:numB p s (zrs p s+1)=numB p s (zrs p s)*2+bv p (s+(zrs p s:Nat)):=rfl
    have h4:bv p (s+(zrs p s:Nat))=1:=by unfold bv;omega
    have hp:(0:Int)<2 ^ zrs p s:=by exact_mod_cast Nat.pow_pos (by decide)
    have h5:1*2 ^ zrs p s≤numB p s (zrs p s+1)*2 ^ zrs p s:=Int.mul_le_mul_of_nonneg_right (by omega) (by omega)
    rw [show (2*(zrs p s:Int)+1).toNat=zrs p s+1+zrs p s by omega,e]
    omega
   ·rw [(ue_short h15 hok).2.1] at h;omega
  ·rw [(ue_code (s:=s) (p:=p) h15).2.1] at h;omega
 ·omega
theorem fuV_nn (p:List UInt8) (s c:Int) (k:Int→Int):0≤fuV p s c k:=by
 have:=ueV_nn p s
 unfold fuV;split<;>omega
theorem fuV_lt {p:List UInt8} {s c b e:Int} (he:e≠0) (h:0<b):fuV p s c (fun y=>ifE (y<b) e)<b:=by
 unfold fuV;split
 ·rename_i h1
  unfold fuC at h1
  split at h1
  ·split at h1
   ·by_cases hlt:ueV p s<b
    ·exact hlt
    ·have h1:ifE (ueV p s<b) e=0:=h1
     rw [ifE_no hlt] at h1;exact absurd h1 he
   ·omega
  ·omega
 ·omega
theorem fuV_zero {p:List UInt8} {s c:Int} {k:Int→Int} (h:fuC p s c k≠0):fuV p s c k=0:=by rw [fuV,if_neg h]
abbrev kR (b:Int):Int→Int:=fun y=>ifE (y<b) 5
abbrev kL:Int→Int:=fun y=>ifE (-16383≤lvOf y∧lvOf y≤16383) 5
theorem lvStep_yes {p:List UInt8} {nn:Int} {x:LvS} (hc:x.c=0):lvStep p nn x=
 (if fuC p (fuA p x.a 0 (kR (nn-x.at_))) (fuC p x.a 0 (kR (nn-x.at_))) kL=0 then
  ⟨fuA p (fuA p x.a 0 (kR (nn-x.at_))) (fuC p x.a 0 (kR (nn-x.at_))) kL,fuC p (fuA p x.a 0 (kR (nn-x.at_))) (fuC p x.a 0 (kR (nn-x.at_))) kL,x.at_+fuV p x.a 0 (kR (nn-x.at_))+1,
   x.out.set (x.at_+fuV p x.a 0 (kR (nn-x.at_))).toNat (lvOf (fuV p (fuA p x.a 0 (kR (nn-x.at_))) (fuC p x.a 0 (kR (nn-x.at_))) kL))⟩
 else ⟨fuA p (fuA p x.a 0 (kR (nn-x.at_))) (fuC p x.a 0 (kR (nn-x.at_))) kL,fuC p (fuA p x.a 0 (kR (nn-x.at_))) (fuC p x.a 0 (kR (nn-x.at_))) kL,x.at_+fuV p x.a 0 (kR (nn-x.at_)),x.out⟩):=by
 rw [lvStep,if_pos hc]
theorem lvStep_no {p:List UInt8} {nn:Int} {x:LvS} (hc:x.c≠0):lvStep p nn x=x:=by rw [lvStep,if_neg hc]
theorem fuC_keep {p:List UInt8} {s c:Int} {k:Int→Int} (h:c≠0):fuC p s c k=c:=by rw [fuC,if_neg h]
theorem lvStep_at {p:List UInt8} {nn:Int} {x:LvS} (h:0≤x.at_∧x.at_≤nn):0≤(lvStep p nn x).at_∧(lvStep p nn x).at_≤nn:=by
 by_cases hc:x.c=0
 ·rw [lvStep_yes hc]
  have h1:=fuV_nn p x.a 0 (kR (nn-x.at_))
  by_cases hr:fuC p x.a 0 (kR (nn-x.at_))=0
  ·have h2:fuV p x.a 0 (kR (nn-x.at_))<nn-x.at_:=by
    rcases Int.lt_or_le 0 (nn-x.at_) with hp|hp
    ·exact fuV_lt (by decide) hp
    ·exfalso
     have hv:=ueV_nn p x.a
     unfold fuC at hr
     simp only [if_true] at hr
     split at hr
     ·have hr:ifE (ueV p x.a<nn-x.at_) 5=0:=hr
      rw [ifE_no (by omega)] at hr;cases hr
     ·rename_i hh;exact hh hr
   split
   ·show 0≤x.at_+_+1∧x.at_+_+1≤nn;omega
   ·show 0≤x.at_+_∧x.at_+_≤nn;omega
  ·rw [if_neg (by rw [fuC_keep hr];exact hr)]
   show 0≤x.at_+_∧x.at_+_≤nn
   rw [fuV_zero hr];omega
 ·rw [lvStep_no hc];exact h
theorem lvRun_at {p:List UInt8} {nn:Int} {x:LvS} (h:0≤x.at_∧x.at_≤nn):∀k,0≤(lvRun p nn x k).at_∧(lvRun p nn x k).at_≤nn
 |0=>h
 |k+1=>by rw [lvRun];exact lvStep_at (lvRun_at h k)
theorem lvRun_stop {p:List UInt8} {nn:Int} {x:LvS} {k:Nat} (h:(lvRun p nn x k).c≠0):∀j,k≤j→lvRun p nn x j=lvRun p nn x k
 |0,hj=>by have:k=0:=by omega
           subst this;rfl
 |j+1,hj=>by
  rcases Nat.lt_or_ge j k with h2|h2
  ·have:k=j+1:=by omega
   subst this;rfl
  ·have e:=lvRun_stop h j h2
   rw [lvRun,e,lvStep_no h]
theorem newO_tail (mb:AObj):∀(k:Nat) (R:List AObj),0<k→newO [0] [mb] k R=R
 |_,[],_=>rfl
 |k,ob::R,hk=>by
  rw [newO,newO_tail mb (k+1) R (by omega)]
  have:findN [0] k 0=none:=by
   rw [findN]
   have:Nat.beq 0 k=false:=by cases k with|zero=>omega|succ k=>rfl
   rw [this];rfl
  unfold newOb;rw [this]
theorem split4 {Ov:List AObj} {a b c d:AObj} (h0:Ov[0]?=some a) (h1:Ov[1]?=some b) (h2:Ov[2]?=some c) (h3:Ov[3]?=some d):∃R,Ov=a::b::c::d::R:=by
 match Ov,h3 with
 |a'::b'::c'::d'::R,h3=>simp at h0 h1 h2 h3;exact ⟨R,by rw [h0,h1,h2,h3]⟩
 |[],h=>simp at h
 |[_],h=>simp at h
 |[_,_],h=>simp at h
 |[_,_,_],h=>simp at h
theorem split3 {Ov:List AObj} {b c d:AObj} (hc:4≤Ov.length) (h1:Ov[1]?=some b) (h2:Ov[2]?=some c) (h3:Ov[3]?=some d):∃x R,Ov=x::b::c::d::R:=by
 match Ov,h3 with
 |a'::b'::c'::d'::R,h3=>simp at h1 h2 h3;exact ⟨a',R,by rw [h1,h2,h3]⟩
 |[],h=>simp at h
 |[_],h=>simp at h
 |[_,_],h=>simp at h
 |[_,_,_],h=>simp at h
section
variable {P:Program} {n m:Nat} {G:Ctx} {T:List (Nat×AV)} {R:List AObj} {Q:Exit→St→Prop} {ops:Array Oper} {l:List Oper} {tt:TypeId} {pos:String} {after:Array Edge}
theorem callM1 {f:FuncId} {xs:List Operand} {ats:Array TypeId} {As:List AV} {ob mb0 mb:AObj} {v:Int} {d:Nat} (hc:FnG P f As [mb0] [mb] [] (I v)) (hh:HandM (ob::R) [0] [mb0] (xs.map (av T)) As) (hM:HandO (ob::R) [0] [mb0]) (hsz:mb.size=mb0.size) (hM':Out [mb]) (hn:d<n)
 (h:WpL P n m G false ops l ⟨(d,I v)::T,⟨mb.cells,ob.ep,mb.size,mb.ty⟩::R⟩ Q):
 WpL P n m G false ops ({dst:=some d,op:=.call {callee:=.value (.func f),args:=xs.toArray,argTypes:=ats},type:=tt,pos:=pos,after:=after,guard:=none}::l) ⟨T,ob::R⟩ Q:=by
 refine WpL.op rfl (fun a w hr=>?_) h
 have hcl:=callG_rel hc hh hM (by simp) rfl (fun j x y hx hy=>by
  cases j with
  |zero=>simp at hx hy;subst hx hy;exact hsz
  |succ j=>simp at hx) hM' .nil (r':=I v) rfl hr
 have e:newO [0] [mb] 0 (ob::R)++[]=⟨mb.cells,ob.ep,mb.size,mb.ty⟩::R:=by
  rw [List.append_nil,newO,newO_tail mb 1 R (by omega)];rfl
 rw [e] at hcl
 obtain ⟨⟨fn,hf,hbd,hnm⟩,_⟩:=hc
 have hex:(execOp a.eval {dst:=some d,op:=.call {callee:=.value (.func f),args:=xs.toArray,argTypes:=ats},type:=tt,pos:=pos,after:=after,guard:=none}).run P w=.ok (.enter f (xs.map a.eval).toArray) w:=by
  simp only [execOp,resolve,Act.eval,Deferred.ofValue,invoke,callFunc,Sem.run_bind,Sem.run_pure,Result.andThen_ok,program,Sem.run,hf,hnm,hbd,Bool.false_eq_true,if_false]
  simp
 unfold Oper.wp
 rw [hex]
 refine hcl.mono fun e w' ⟨v,he,S,ι,F,hr',hv⟩=>?_
 subst he
 exact ⟨S,ι,F,hr'.put hn hv⟩
end
attribute [local irreducible] WpA WpL Rnd Blk Abs.Seq Abs.Fin Abs.FinG FnC FnG Only
abbrev k0C:Int→Int:=fun _=>0
theorem lvS_no {p:List UInt8} {s n:Int} (h:fbV p s 0 1 k0C=0):lvS p s n=⟨fbA p s 0 1 k0C,fbC p s 0 1 k0C,0,List.replicate (n*n).toNat 0⟩:=by
 unfold lvS;simp only;rw [if_pos h]
theorem lvS_yes {p:List UInt8} {s n:Int} (h:fbV p s 0 1 k0C≠0):lvS p s n=lvRun p (n*n) ⟨fuA p (fbA p s 0 1 k0C) (fbC p s 0 1 k0C) (kR (n*n)),fuC p (fbA p s 0 1 k0C) (fbC p s 0 1 k0C) (kR (n*n)),0,List.replicate (n*n).toNat 0⟩ (1+fuV p (fbA p s 0 1 k0C) (fbC p s 0 1 k0C) (kR (n*n))).toNat:=by
 unfold lvS;simp only;rw [if_neg h]
theorem lv_room {p:List UInt8} {s nn t:Int} (ht:0≤t∧t≤nn) (h:fuC p s 0 (kR (nn-t))=0):t+fuV p s 0 (kR (nn-t))<nn:=by
 have h2:fuV p s 0 (kR (nn-t))<nn-t:=by
  rcases Int.lt_or_le 0 (nn-t) with hp|hp
  ·exact fuV_lt (by decide) hp
  ·exfalso
   have hv:=ueV_nn p s
   unfold fuC at h
   simp only [if_true] at h
   split at h
   ·have h:ifE (ueV p s<nn-t) 5=0:=h
    rw [ifE_no (by omega)] at h;cases h
   ·rename_i hh;exact hh h
 omega
theorem flv_c (p:List UInt8) (s n:Int) (hl:p.length≤1099511627776) (hn:n=4∨n=8):Gn 131 [.ptr 0 0 0,I n] [FldO p s 0] [FldO p (lvS p s n).a (lvS p s n).c] [XI (lvS p s n).out] (.own 1 0 0 (lvS p s n).out.length):=by
 have hnn:16≤n*n∧n*n≤64:=by rcases hn with rfl|rfl<;>decide
 have hn2:=mul_in (a:=n) (b:=n) (by omega) (by omega)
 generalize hx:lvS p s n=x
 refine FnG.of_bodyF tabOk Tryz.func131 Tryz.ntmps131 rfl (by decide +kernel) (by simp) rfl rfl fun G=>?_
 refine go (r:=?_);and_intros<;>intros<;>try exact True.intro
 refine K.call ?_
 refine WpL.callM (hs:=[0]) (fbits_c p s 0 1 213 [] k0C hl ⟨rfl,rfl,fun x _=>levels1_c.ok x⟩) handA handOA rfl rfl (.cons rfl (.sc (.sc (.sc .nil))) .nil) outA rfl rfl rfl rfl (by decide) ?_
 have b1:=fbV_bd p s 0 1 k0C
 by_cases hv:fbV p s 0 1 k0C=0
 ·rw [lvS_no hv] at hx
  subst hx
  refine go (r:=?_);and_intros<;>intros<;>try exact True.intro
  all_goals first|(exact absurd hv (by assumption))
 ·rw [lvS_yes hv] at hx
  generalize hv1:fbV p s 0 1 k0C=v1 at b1 hv ⊢
  generalize ha1:fbA p s 0 1 k0C=a1 at hx
  generalize hc1:fbC p s 0 1 k0C=c1 at hx
  refine go (r:=?_);and_intros<;>intros<;>try exact True.intro
  all_goals first|(exact absurd (by assumption) hv)|skip
  refine K.call ?_
  refine WpL.callM (hs:=[0]) (fue_c p a1 c1 214 [.iptr [I n] 0] (kR (n*n)) hl ⟨rfl,rfl,fun x _=>levels2_c.ok x n (by omega)⟩) handA handOA rfl rfl (.cons rfl (.sc (.sc (.sc .nil))) .nil) outA rfl rfl rfl rfl (by decide) ?_
  have b2:=fuV_bd p a1 c1 (kR (n*n))
  have b3:=fuV_nn p a1 c1 (kR (n*n))
  generalize hv2:fuV p a1 c1 (kR (n*n))=v2 at b2 b3 hx ⊢
  generalize ha2:fuA p a1 c1 (kR (n*n))=a2 at hx ⊢
  generalize hc2:fuC p a1 c1 (kR (n*n))=c2 at hx ⊢
  have hr0:=lvRun_at (p:=p) (nn:=n*n) (x:=⟨a2,c2,0,List.replicate (n*n).toNat 0⟩) (show (0:Int)≤0∧(0:Int)≤n*n by omega)
  have hln:=lvRun_len p (n*n) ⟨a2,c2,0,List.replicate (n*n).toNat 0⟩
  have hst:∀k,lvRun p (n*n) ⟨a2,c2,0,List.replicate (n*n).toNat 0⟩ (k+1)=lvStep p (n*n) (lvRun p (n*n) ⟨a2,c2,0,List.replicate (n*n).toNat 0⟩ k):=fun _=>rfl
  have hsp:=fun k=>lvRun_stop (p:=p) (nn:=n*n) (x:=⟨a2,c2,0,List.replicate (n*n).toNat 0⟩) (k:=k)
  have hz:lvRun p (n*n) ⟨a2,c2,0,List.replicate (n*n).toNat 0⟩ 0=⟨a2,c2,0,List.replicate (n*n).toNat 0⟩:=rfl
  generalize lvRun p (n*n) ⟨a2,c2,0,List.replicate (n*n).toNat 0⟩=X at hr0 hln hst hsp hz hx
  refine goR (r:=?_);and_intros<;>intros<;>try exact True.intro
  refine WpA.loop (fun k:Nat=>⟨[(0,.ptr 0 0 0),(3,.ptr 1 0 0),(5,.own 2 0 0 (n*n).toNat),(6,.ptr 3 0 0),(7,I (1+v2)),(8,I k)],[FldO p (X k).a (X k).c,⟨[I n],0,0,none⟩,XI (X k).out,⟨[I (X k).at_],0,0,none⟩]⟩) (fun k=>(k:Int)≤1+v2) (fun k=>(1+v2).toNat-k) 0 (by omega) (go (r:=?_)) (fun k hk=>?_)
  ·rw [hz];and_intros<;>first|exact True.intro|rfl
  have hr0:=hr0 k
  have hln:=hln k
  have hst:=hst k
  have hsp:=hsp k
  generalize hy:X k=y at hr0 hln hst hsp ⊢
  have hln:y.out.length=(n*n).toNat:=by simpa using hln
  have hfin:(y.c≠0∨¬(k:Int)<1+v2)→y=x:=by
   rintro (h|h)
   ·rw [←hx,hsp h (1+v2).toNat (by omega)]
   ·have:k=(1+v2).toNat:=by omega
    rw [←hx,←this,hy]
  refine goR (r:=?_);and_intros<;>intros<;>try exact True.intro
  ·have hyc:y.c=0:=by assumption
   have b4:=fuV_bd p y.a y.c (kR (n*n-y.at_))
   have b5:=fuV_nn p y.a y.c (kR (n*n-y.at_))
   have hkb:∀x:Int,-1≤x∧x≤4294967296→Fn 215 (I x::[.iptr [I n] 0,.iptr [I y.at_] 0]) [] (I (kR (n*n-y.at_) x)):=fun x _=>levels3_c.ok x n y.at_ (by omega)
   apply WpA.regionQF (O:=[]) (Or:=[FldO p y.a y.c,⟨[I n],0,0,none⟩,XI y.out,⟨[I y.at_],0,0,none⟩]) (O1:=[FldO p (fuA p y.a y.c (kR (n*n-y.at_))) (fuC p y.a y.c (kR (n*n-y.at_))),⟨[I n],0,0,none⟩,XI y.out,⟨[I y.at_],0,0,none⟩]) 5 0 [1,2,3] rfl mixed (by decide +kernel)
   ·exact rfl
   ·apply HeadQ.consF (V:=I y.at_) .none rfl
    ·exact rfl
    ·intro Tv Ov hc hp hd hk
     obtain ⟨x0,R,rfl⟩:=split3 hc (hk 1 rfl) (hk 2 rfl) (hk 3 rfl)
     exact in0
    ·exact rfl
    ·exact rfl
    apply HeadQ.consF .none rfl
    ·exact rfl
    ·exact in1
    ·exact rfl
    ·exact rfl
    apply HeadQ.consF (V:=.fn 215 [.ptr 1 0 0,.ptr 3 0 0]) .none rfl
    ·exact rfl
    ·exact in1
    ·exact rfl
    ·exact rfl
    apply HeadQ.consF (V:=I (fuV p y.a y.c (kR (n*n-y.at_)))) (.step 0 (FldO p (fuA p y.a y.c (kR (n*n-y.at_))) (fuC p y.a y.c (kR (n*n-y.at_))))) rfl
    ·exact rfl
    ·intro Tv Ov hc hp hd hk
     obtain ⟨R,rfl⟩:=split4 (hp 0 _ rfl) (hk 1 rfl) (hk 2 rfl) (hk 3 rfl)
     refine K.call ?_
     refine callM1 (fue_c p y.a y.c 215 [.iptr [I n] 0,.iptr [I y.at_] 0] (kR (n*n-y.at_)) hl ⟨rfl,rfl,hkb⟩) handA handOA rfl (.cons rfl (.sc (.sc (.sc .nil))) .nil) (by decide) ?_
     exact WpL.nil (Only.mk rfl)
    ·exact rfl
    ·exact rfl
    apply HeadQ.consF .none rfl
    ·exact rfl
    ·exact in1
    ·exact rfl
    ·exact rfl
    exact HeadQ.nil
   ·exact rfl
   ·exact rfl
   ·exact rfl
   ·exact rfl
   ·exact rfl
   ·exact rfl
   ·exact rfl
   generalize hA1:fuA p y.a y.c (kR (n*n-y.at_))=A1
   generalize hC1:fuC p y.a y.c (kR (n*n-y.at_))=C1
   generalize hV1:fuV p y.a y.c (kR (n*n-y.at_))=w1 at b4 b5 ⊢
   rw [hyc] at hA1 hC1 hV1
   have hroom:=lv_room (p:=p) (s:=y.a) hr0
   rw [hC1,hV1] at hroom
   rw [lvStep_yes hyc,hA1,hC1,hV1] at hst
   have hkeep:=fun h=>fuC_keep (p:=p) (s:=A1) (c:=C1) (k:=kL) h
   refine go (r:=?_);and_intros<;>intros<;>try exact True.intro
   refine K.call ?_
   refine WpL.callM (hs:=[0]) (fue_c p A1 C1 217 [] kL hl ⟨rfl,rfl,fun x h=>levels4_c.ok x (by omega)⟩) handA handOA rfl rfl (.cons rfl (.sc (.sc (.sc .nil))) .nil) outA rfl rfl rfl rfl (by decide) ?_
   have b6:=fuV_bd p A1 C1 kL
   by_cases hc2:fuC p A1 C1 kL=0
   ·have h10:C1=0:=by
     by_cases h:C1=0
     ·exact h
     ·exact absurd (hkeep h▸hc2) h
    have hroom:=hroom h10
    rw [if_pos hc2] at hst
    refine go (r:=?_);and_intros<;>intros<;>try exact True.intro
    all_goals first|(exact absurd hc2 (by assumption))|(rw [hst];done)|(rw [hst];rfl)|(rw [hst];simp only;omega)
   ·rw [if_neg hc2] at hst
    refine go (r:=?_);and_intros<;>intros<;>try exact True.intro
    all_goals first|(exact absurd (by assumption) hc2)|(rw [hst];done)|(rw [hst];rfl)
  all_goals first|(obtain rfl:=hfin (by first|exact .inl (by assumption)|exact .inr (by assumption));first|rfl|exact hln.symm)
end Go.Proofs.YtndflfipaddfoaaGreat


namespace Go.Proofs.YtndflfipaddfoaaGreat
open Go Go.Abs
attribute [local irreducible] WpA WpL Rnd Blk Abs.Seq Abs.Fin Abs.FinG FnC FnG Only
abbrev BkV (m:Int) (l:List Int):AV:=.agg [I m,.own 0 0 0 l.length]
theorem blS_1 {p:List UInt8} {s:Int} {lens:List Int} {n:Int} (hn:n=4∨n=8) (hs:smC p s lens=0) (hc:(lvS p (smA p s lens) n).c=0):blS p s lens n=⟨(lvS p (smA p s lens) n).a,0,smV p s lens,(lvS p (smA p s lens) n).out⟩:=by
 unfold blS;rw [if_pos hn,if_pos hs];simp only;rw [if_pos hc]
theorem blS_2 {p:List UInt8} {s:Int} {lens:List Int} {n:Int} (hn:n=4∨n=8) (hs:smC p s lens=0) (hc:(lvS p (smA p s lens) n).c≠0):blS p s lens n=⟨(lvS p (smA p s lens) n).a,(lvS p (smA p s lens) n).c,0,[]⟩:=by
 unfold blS;rw [if_pos hn,if_pos hs];simp only;rw [if_neg hc]
theorem blS_3 {p:List UInt8} {s:Int} {lens:List Int} {n:Int} (hn:n=4∨n=8) (hs:smC p s lens≠0):blS p s lens n=⟨s,smC p s lens,0,[]⟩:=by
 unfold blS;rw [if_pos hn,if_neg hs]
theorem blS_4 {p:List UInt8} {s:Int} {lens:List Int} {n:Int} (hn:¬(n=4∨n=8)):blS p s lens n=⟨s,5,0,[]⟩:=by
 unfold blS;rw [if_neg hn]
theorem smA_bad {p:List UInt8} {s:Int} {l:List Int} (h:smC p s l≠0):smA p s l=s:=by rw [smA,if_neg h]
instance ReadBlock_c:Con 114 (∀ (p:List UInt8) (s:Int) (lens:List Int) (n:Int),p.length≤1099511627776∧lens.length≤1099511627776→Fn 114 [RA p s,IL lens,I n] [XI (blS p s lens n).l] (.tup [RA p (blS p s lens n).a,BkV (blS p s lens n).m (blS p s lens n).l,I (blS p s lens n).c])):=⟨fun p s lens n hl=>by
 refine FnC.of_body tabOk Tryz.func114 Tryz.ntmps114 rfl (by decide +kernel) (by simp) fun G=>?_
 by_cases hn:n=4∨n=8
 ·by_cases hs:smC p s lens=0
  ·refine go (r:=?_);and_intros<;>intros<;>try exact True.intro
   all_goals first|(exact absurd hs (by assumption))|(exact absurd hn (by assumption))|skip
   refine K.call ?_
   refine WpL.callM (hs:=[3]) (flv_c p (smA p s lens) n hl.1 hn) handA handOA rfl rfl (.cons rfl (.sc (.sc (.sc .nil))) .nil) outA rfl rfl rfl rfl (by decide) ?_
   have e1:=blS_1 (p:=p) (s:=s) (lens:=lens) hn hs
   have e2:=blS_2 (p:=p) (s:=s) (lens:=lens) hn hs
   generalize lvS p (smA p s lens) n=y at e1 e2 ⊢
   by_cases hy:y.c=0
   ·rw [e1 hy]
    refine go (r:=?_);and_intros<;>intros<;>try exact True.intro
   ·rw [e2 hy]
    refine go (r:=?_);and_intros<;>intros<;>try exact True.intro
  ·rw [blS_3 hn hs]
   have ea:=smA_bad hs
   refine go (r:=?_);and_intros<;>intros<;>try exact True.intro
 ·rw [blS_4 hn]
  refine go (r:=?_);and_intros<;>intros<;>try exact True.intro⟩
theorem mbRun_len (p:List UInt8) (s:Int) (lens:List Int) (n:Int):∀k,(mbRun p s lens n k).c=0→(mbRun p s lens n k).bs.length=k
 |0,_=>rfl
 |k+1,h=>by
  have ih:=mbRun_len p s lens n k
  rw [mbRun] at h ⊢
  simp only at h ⊢
  split at h
  ·rename_i hx
   rw [if_pos hx]
   split at h
   ·rename_i hb;rw [if_pos hb];simp [ih hx]
   ·rename_i hb;exact absurd h hb
  ·rename_i hx;exact absurd h hx
theorem mbRun_stop {p:List UInt8} {s:Int} {lens:List Int} {n:Int} {k:Nat} (h:(mbRun p s lens n k).c≠0):∀j,k≤j→mbRun p s lens n j=mbRun p s lens n k
 |0,hj=>by have:k=0:=by omega
           subst this;rfl
 |j+1,hj=>by
  rcases Nat.lt_or_ge j k with h2|h2
  ·have:k=j+1:=by omega
   subst this;rfl
  ·have e:=mbRun_stop h j h2
   rw [mbRun];simp only;rw [e,if_neg h]
theorem mbS_no {p:List UInt8} {s:Int} {lens:List Int} (h:¬RbOk p s 1):mbS p s lens=(⟨s,1,[]⟩,false):=by unfold mbS;rw [if_neg h]
theorem nm8_nat (e:Bool):(bif e then 1 else 4:Nat)=(nm8 e).toNat:=by cases e<;>rfl
theorem mbS_yes {p:List UInt8} {s:Int} {lens:List Int} {E:Bool} (h:RbOk p s 1) (hE:decide (rbV p s 1=1)=E):mbS p s lens=(mbRun p (s+1) lens (sz8 E) (nm8 E).toNat,bif decide ((mbRun p (s+1) lens (sz8 E) (nm8 E).toNat).c=0) then E else false):=by
 unfold mbS;rw [if_pos h,hE];simp only;rw [nm8_nat];rfl
theorem mbRun_bad {p:List UInt8} {s:Int} {lens:List Int} {n:Int} {k:Nat} (h:(mbRun p s lens n k).c=0) (hb:(blS p (mbRun p s lens n k).a lens n).c≠0):∀j,k<j→mbRun p s lens n j=⟨(blS p (mbRun p s lens n k).a lens n).a,(blS p (mbRun p s lens n k).a lens n).c,[]⟩:=by
 intro j hj
 have e:mbRun p s lens n (k+1)=⟨(blS p (mbRun p s lens n k).a lens n).a,(blS p (mbRun p s lens n k).a lens n).c,[]⟩:=by
  rw [mbRun];simp only;rw [if_pos h,if_neg hb]
 rw [mbRun_stop (k:=k+1) (by rw [e];exact hb) j hj,e]
theorem mbRun_next {p:List UInt8} {s:Int} {lens:List Int} {n:Int} {k:Nat} (h:(mbRun p s lens n k).c=0) (hb:(blS p (mbRun p s lens n k).a lens n).c=0):mbRun p s lens n (k+1)=⟨(blS p (mbRun p s lens n k).a lens n).a,0,(mbRun p s lens n k).bs++[((blS p (mbRun p s lens n k).a lens n).m,(blS p (mbRun p s lens n k).a lens n).l)]⟩:=by
 rw [mbRun];simp only;rw [if_pos h,if_pos hb]
abbrev MbV (e:Bool) (n:Nat):AV:=.agg [B e,.own 0 0 0 n]
instance ReadMb_c:Con 50 (∀ (p:List UInt8) (s:Int) (lens:List Int),p.length≤1099511627776∧lens.length≤1099511627776→Fn 50 [RA p s,IL lens] [BkO (mbS p s lens).1.bs] (.tup [RA p (mbS p s lens).1.a,MbV (mbS p s lens).2 (mbS p s lens).1.bs.length,I (mbS p s lens).1.c])):=⟨fun p s lens hl=>by
 refine FnC.of_body tabOk Tryz.func50 Tryz.ntmps50 rfl (by decide +kernel) (by simp) fun G=>?_
 by_cases ho:RbOk p s 1
 ·have ea:=(rb_yes ho).1
  generalize hE:decide (rbV p s 1=1)=E
  rw [mbS_yes ho hE]
  have hc8:=sz8_cases E
  refine go (r:=?_);and_intros<;>intros<;>try exact True.intro
  all_goals first|contradiction|skip
  rw [hE,ea]
  have hz:(mbRun p (s+1) lens (sz8 E) 0)=⟨s+1,0,[]⟩:=rfl
  have hln:=fun k h=>mbRun_len p (s+1) lens (sz8 E) k h
  have hnx:=fun k h hb=>mbRun_next (p:=p) (s:=s+1) (lens:=lens) (n:=sz8 E) (k:=k) h hb
  have hbd:=fun k h hb j hj=>mbRun_bad (p:=p) (s:=s+1) (lens:=lens) (n:=sz8 E) (k:=k) h hb j hj
  generalize mbRun p (s+1) lens (sz8 E)=X at hz hln hnx hbd ⊢
  refine WpA.loop (fun k:Nat=>⟨[(1,IL lens),(2,.ptr 0 0 0),(4,.ptr 1 0 0),(5,.ptr 2 0 0),(9,.ptr 3 0 0),(11,I (sz8 E)),(34,I (nm8 E)),(35,I k)],[⟨[Z p,I (X k).a],0,0,none⟩,R0,⟨[B false,.nilS],0,0,none⟩,⟨[B E,.own 4 0 0 k],0,0,none⟩,BkO (X k).bs]⟩) (fun k=>(k:Int)≤nm8 E∧(X k).c=0) (fun k=>(nm8 E).toNat-k) 0 (by rw [hz];exact ⟨by omega,rfl⟩) ?_ (fun k hk=>?_)
  ·rw [hz];exact Weak.nil1 (by first|(show 0≤_;exact Nat.zero_le _)|(repeat' (first|exact RzT.nil|refine RzT.cons ?_ ?_|exact Rz.nil|refine Rz.keep rfl rfl ?_|refine Rz.own rfl rfl rfl rfl rfl (by first|rfl|omega|(simp;done)) ?_|refine Rz.ptr rfl rfl rfl rfl ?_|refine Rz.nilO rfl rfl rfl (by first|rfl|omega|(simp;done)) ?_|refine Rz.agg ?_ ?_|exact RzO.last rfl|(refine RzO.cons ?_ (.inr rfl) ?_)|exact Rz.same rfl (still_ints _)|exact Rz.same rfl (still_rows (fun _=>rfl) _)))) (by first|(show 0≤_;exact Nat.zero_le _)|(repeat' (first|exact RzT.nil|refine RzT.cons ?_ ?_|exact Rz.nil|refine Rz.keep rfl rfl ?_|refine Rz.own rfl rfl rfl rfl rfl (by first|rfl|omega|(simp;done)) ?_|refine Rz.ptr rfl rfl rfl rfl ?_|refine Rz.nilO rfl rfl rfl (by first|rfl|omega|(simp;done)) ?_|refine Rz.agg ?_ ?_|exact RzO.last rfl|(refine RzO.cons ?_ (.inr rfl) ?_)|exact Rz.same rfl (still_ints _)|exact Rz.same rfl (still_rows (fun _=>rfl) _)))) (Nat.zero_le _)
  have hln:=hln k hk.2
  have hnx:=hnx k hk.2
  have hbd:=hbd k hk.2
  have hfin:¬(k:Int)<nm8 E→X (nm8 E).toNat=X k:=fun h=>by rw [show (nm8 E).toNat=k by omega]
  generalize hy:X k=y at hk hln hnx hbd hfin ⊢
  have hln:y.bs.length=k:=hln
  by_cases hb:(blS p y.a lens (sz8 E)).c=0
  ·have hnx:=hnx hb
   clear hbd
   refine go (r:=?_);and_intros<;>intros<;>try exact True.intro
   all_goals first|contradiction|(rw [hnx];done)|(rw [hfin (by assumption)];first|done|omega|(simp [hk.2];done)|(simp only;omega))
  ·have hbd:=hbd hb
   clear hnx
   refine go (r:=?_);and_intros<;>intros<;>try exact True.intro
   all_goals first|contradiction|(rw [hbd _ (by omega)];first|done|(simp [hb];done))|(rw [hfin (by assumption)];first|done|omega|(simp [hk.2];done)|(simp only;omega))
 ·rw [mbS_no ho]
  have ea:=(rb_no ho).1
  refine go (r:=?_);and_intros<;>intros<;>try exact True.intro
  all_goals first|contradiction⟩
end Go.Proofs.YtndflfipaddfoaaGreat


namespace Go.Proofs.YtndflfipaddfoaaGreat
open Go Go.Abs
theorem rbA_ok {p:List UInt8} {s n:Int} (h:RdOk p s):RdOk p (rbA p s n):=by
 by_cases ho:RbOk p s n
 ·rw [(rb_yes ho).1]
  have h1:=lft_ok h
  have h2:=ho.2.2
  have h3:=ho.2.1
  have h4:=h.1
  constructor<;>omega
 ·rw [(rb_no ho).1];exact h
theorem ueA_ok {p:List UInt8} {s:Int} (h:RdOk p s):RdOk p (ueA p s):=by
 unfold ueA;split
 ·exact rbA_ok h
 ·exact h
theorem fuA_ok {p:List UInt8} {s c:Int} {k:Int→Int} (h:RdOk p s):RdOk p (fuA p s c k):=by
 unfold fuA;split
 ·exact ueA_ok h
 ·exact h
theorem fbA_ok {p:List UInt8} {s c n:Int} {k:Int→Int} (h:RdOk p s):RdOk p (fbA p s c n k):=by
 unfold fbA;split
 ·exact rbA_ok h
 ·exact h
theorem smA_ok {p:List UInt8} {s:Int} {l:List Int} (h:RdOk p s):RdOk p (smA p s l):=by
 by_cases hc:smC p s l=0
 ·rw [smA,if_pos hc]
  have hm:symM p s l<6:=by
   unfold smC at hc
   split at hc
   ·split at hc
    ·assumption
    ·exact absurd hc (by decide)
   ·exact absurd hc (by decide)
  have h0:=symM_lt hm
  have h1:=lft_ok h
  have h2:=h0.2.1.2.2
  have h3:=h0.1
  have h4:=h.1
  constructor<;>omega
 ·rw [smA,if_neg hc];exact h
theorem lvStep_ok {p:List UInt8} {nn:Int} {x:LvS} (h:RdOk p x.a):RdOk p (lvStep p nn x).a:=by
 unfold lvStep;split
 ·simp only;split<;>exact fuA_ok (fuA_ok h)
 ·exact h
theorem lvRun_ok {p:List UInt8} {nn:Int} {x:LvS} (h:RdOk p x.a):∀k,RdOk p (lvRun p nn x k).a
 |0=>h
 |k+1=>by rw [lvRun];exact lvStep_ok (lvRun_ok h k)
theorem lvS_ok {p:List UInt8} {s n:Int} (h:RdOk p s):RdOk p (lvS p s n).a:=by
 unfold lvS;simp only;split
 ·exact fbA_ok h
 ·exact lvRun_ok (x:=⟨_,_,_,_⟩) (fuA_ok (fbA_ok h)) _
theorem blS_ok {p:List UInt8} {s:Int} {lens:List Int} {n:Int} (h:RdOk p s):RdOk p (blS p s lens n).a:=by
 unfold blS;split
 ·split
  ·simp only;split<;>exact lvS_ok (smA_ok h)
  ·exact h
 ·exact h
theorem mbRun_ok {p:List UInt8} {s:Int} {lens:List Int} {n:Int} (h:RdOk p s):∀k,RdOk p (mbRun p s lens n k).a
 |0=>h
 |k+1=>by
  have ih:=mbRun_ok (lens:=lens) (n:=n) h k
  rw [mbRun];simp only;split
  ·split<;>exact blS_ok ih
  ·exact ih
theorem mbS_ok {p:List UInt8} {s:Int} {lens:List Int} (h:RdOk p s):RdOk p (mbS p s lens).1.a:=by
 unfold mbS;split
 ·rename_i ho
  have:RdOk p (s+1):=by have:=rbA_ok (n:=1) h;rwa [(rb_yes ho).1] at this
  exact mbRun_ok this _
 ·exact h
theorem stRun_ok {p:List UInt8} {s:Int} {lens:List Int} (h:RdOk p s):∀k,RdOk p (stRun p s lens k).a
 |0=>h
 |k+1=>by
  have ih:=stRun_ok (lens:=lens) h k
  rw [stRun];simp only;split
  ·split<;>exact mbS_ok ih
  ·exact ih
theorem hdS_ok {p:List UInt8} {s:Int} (h:RdOk p s):RdOk p (hdS p s).a:=by
 unfold hdS;simp only;exact fbA_ok (fbA_ok (fbA_ok (fuA_ok (fuA_ok (fbA_ok h)))))
theorem mbRun_sm {p:List UInt8} {s:Int} {lens:List Int} {n:Int}:∀k,∀b∈(mbRun p s lens n k).bs,b.2.length≤64
 |0,b,hb=>by simp [mbRun] at hb
 |k+1,b,hb=>by
  have ih:=mbRun_sm (p:=p) (s:=s) (lens:=lens) (n:=n) k
  rw [mbRun] at hb;simp only at hb
  split at hb
  ·split at hb
   ·simp at hb
    rcases hb with hb|hb
    ·exact ih b hb
    ·rw [hb];exact blS_len _ _ _ _
   ·simp at hb
  ·exact ih b hb
theorem mbRun_le {p:List UInt8} {s:Int} {lens:List Int} {n:Int}:∀k,(mbRun p s lens n k).bs.length≤k
 |0=>by simp [mbRun]
 |k+1=>by
  have ih:=mbRun_le (p:=p) (s:=s) (lens:=lens) (n:=n) k
  rw [mbRun];simp only
  split
  ·split
   ·simp;exact ih
   ·simp
  ·omega
theorem mbS_sm {p:List UInt8} {s:Int} {lens:List Int}:(mbS p s lens).1.bs.length≤4∧∀b∈(mbS p s lens).1.bs,b.2.length≤64:=by
 unfold mbS;split
 ·refine ⟨Nat.le_trans (mbRun_le _) ?_,mbRun_sm _⟩
  cases decide (rbV p s 1=1)<;>decide
 ·simp
theorem stRun_sm {p:List UInt8} {s:Int} {lens:List Int}:∀k,(stRun p s lens k).ms.length≤k∧∀m∈(stRun p s lens k).ms,m.2.length≤4∧∀b∈m.2,b.2.length≤64
 |0=>by simp [stRun]
 |k+1=>by
  have ih:=stRun_sm (p:=p) (s:=s) (lens:=lens) k
  rw [stRun];simp only
  split
  ·split
   ·simp only [List.length_append,List.length_singleton,List.mem_append,List.mem_singleton]
    refine ⟨by have:=ih.1;omega,fun m hm=>?_⟩
    rcases hm with hm|hm
    ·exact ih.2 m hm
    ·rw [hm];exact mbS_sm
   ·simp
  ·exact ⟨by have:=ih.1;omega,ih.2⟩
theorem stRun_stop {p:List UInt8} {s:Int} {lens:List Int} {k:Nat} (h:(stRun p s lens k).c≠0):∀j,k≤j→stRun p s lens j=stRun p s lens k
 |0,hj=>by have:k=0:=by omega
           subst this;rfl
 |j+1,hj=>by
  rcases Nat.lt_or_ge j k with h2|h2
  ·have:k=j+1:=by omega
   subst this;rfl
  ·have e:=stRun_stop h j h2
   rw [stRun];simp only;rw [e,if_neg h]
theorem stRun_len (p:List UInt8) (s:Int) (lens:List Int):∀k,(stRun p s lens k).c=0→(stRun p s lens k).ms.length=k
 |0,_=>rfl
 |k+1,h=>by
  have ih:=stRun_len p s lens k
  rw [stRun] at h ⊢
  simp only at h ⊢
  split at h
  ·rename_i hx
   rw [if_pos hx]
   split at h
   ·rename_i hb;rw [if_pos hb];simp [ih hx]
   ·rename_i hb;exact absurd h hb
  ·rename_i hx;exact absurd h hx
structure PrS where
 W:Int
 H:Int
 Q:Int
 B:Bool
 D:Bool
 L:List Int
 ms:List Mbk
 a:Int
 c:Int
def prS (p:List UInt8):PrS:=
 let x:=hdS p 0
 if x.c=0 then
  let y:=stRun p x.a x.L (cntM x.W x.H).toNat
  if y.c=0 then
   if endC p y.a=0 then ⟨x.W,x.H,x.Q,x.B,x.D,x.L,y.ms,y.a,0⟩ else ⟨0,0,0,false,false,[],[],y.a,endC p y.a⟩
  else ⟨0,0,0,false,false,[],[],y.a,y.c⟩
 else ⟨0,0,0,false,false,[],[],x.a,x.c⟩
theorem fuV_max {p:List UInt8} {s c:Int}:0≤fuV p s c hk2∧fuV p s c hk2≤3:=by
 refine ⟨fuV_nn _ _ _ _,?_⟩
 unfold fuV;split
 ·rename_i h
  unfold fuC at h
  split at h
  ·split at h
   ·by_cases hlt:ueV p s≤3
    ·exact hlt
    ·have h:ifE (ueV p s≤3) 3=0:=h
     rw [ifE_no hlt] at h;exact absurd h (by decide)
   ·rename_i hu;exact absurd h hu
  ·rename_i hc;exact absurd h hc
 ·omega
theorem hdS_sides {p:List UInt8} {s:Int} (h:(hdS p s).c=0):SidesOk (hdS p s).W (hdS p s).H:=by
 have hw:0≤(hdS p s).w∧(hdS p s).w≤3:=by unfold hdS;exact fuV_max
 have hh:0≤(hdS p s).h∧(hdS p s).h≤3:=by unfold hdS;exact fuV_max
 rw [HdS.W,if_pos h,HdS.H,if_pos h]
 omega
end Go.Proofs.YtndflfipaddfoaaGreat


namespace Go.Proofs.YtndflfipaddfoaaGreat
open Go Go.Abs
attribute [local irreducible] WpA WpL Rnd Blk Abs.Seq Abs.Fin Abs.FinG FnC FnG Only
def pvC (p:List UInt8) (s room:Int):Int:=fuC p (fuA p s 0 (kR room)) (fuC p s 0 (kR room)) kL
def pvA (p:List UInt8) (s room:Int):Int:=fuA p (fuA p s 0 (kR room)) (fuC p s 0 (kR room)) kL
def pvR (p:List UInt8) (s room:Int):Int:=if pvC p s room=0 then fuV p s 0 (kR room) else 0
def pvL (p:List UInt8) (s room:Int):Int:=if pvC p s room=0 then lvOf (fuV p (fuA p s 0 (kR room)) (fuC p s 0 (kR room)) kL) else 0
theorem fu_bad {p:List UInt8} {s:Int} {k:Int→Int} (h:ueC p s≠0):fuC p s 0 k=ueC p s∧fuA p s 0 k=s:=by
 have e:fuC p s 0 k=ueC p s:=by rw [fuC,if_pos rfl,if_neg h]
 exact ⟨e,by rw [fuA,if_neg (by rw [e];exact h)]⟩
theorem fu_yes {p:List UInt8} {s:Int} {k:Int→Int} (h:ueC p s=0) (hk:k (ueV p s)=0):fuC p s 0 k=0∧fuA p s 0 k=ueA p s∧fuV p s 0 k=ueV p s:=by
 have e:fuC p s 0 k=0:=by rw [fuC,if_pos rfl,if_pos h,hk]
 exact ⟨e,by rw [fuA,if_pos e],by rw [fuV,if_pos e]⟩
theorem pv_5 {p:List UInt8} {s room:Int} (h:ueC p s=0) (h2:ueV p s<room) (h3:ueC p (ueA p s)=0) (h4:-16383≤lvOf (ueV p (ueA p s))∧lvOf (ueV p (ueA p s))≤16383):pvA p s room=ueA p (ueA p s)∧pvC p s room=0∧pvR p s room=ueV p s∧pvL p s room=lvOf (ueV p (ueA p s)):=by
 have e:=fu_yes (k:=kR room) h (ifE_yes h2)
 have f:=fu_yes (k:=kL) h3 (ifE_yes h4)
 have e2:pvC p s room=0:=by rw [pvC,e.1,e.2.1,f.1]
 exact ⟨by rw [pvA,e.1,e.2.1,f.2.1],e2,by rw [pvR,if_pos e2,e.2.2],by rw [pvL,if_pos e2,e.1,e.2.1,f.2.2]⟩
theorem lvStep_pv0 {p:List UInt8} {nn:Int} {x:LvS} (hc:x.c=0) (h:pvC p x.a (nn-x.at_)=0):lvStep p nn x=⟨pvA p x.a (nn-x.at_),0,x.at_+pvR p x.a (nn-x.at_)+1,x.out.set (x.at_+pvR p x.a (nn-x.at_)).toNat (pvL p x.a (nn-x.at_))⟩:=by
 have h':=h
 rw [pvC] at h'
 have e3:pvR p x.a (nn-x.at_)=fuV p x.a 0 (kR (nn-x.at_)):=by rw [pvR,if_pos h]
 have e4:pvL p x.a (nn-x.at_)=lvOf (fuV p (fuA p x.a 0 (kR (nn-x.at_))) (fuC p x.a 0 (kR (nn-x.at_))) kL):=by rw [pvL,if_pos h]
 rw [lvStep_yes hc,if_pos h',e3,e4,h'];rfl
theorem lvStep_pv1 {p:List UInt8} {nn:Int} {x:LvS} (hc:x.c=0) (h:pvC p x.a (nn-x.at_)≠0):(lvStep p nn x).a=pvA p x.a (nn-x.at_)∧(lvStep p nn x).c=pvC p x.a (nn-x.at_)∧(lvStep p nn x).out=x.out:=by
 have h':=h
 rw [pvC] at h'
 rw [lvStep_yes hc,if_neg h'];exact ⟨rfl,rfl,rfl⟩
section
attribute [local irreducible] ueA ueV ueC pvC pvA pvR pvL lvOf
end
theorem lv_1 {p:List UInt8} {s n:Int} (h:¬RbOk p s 1):lvS p s n=⟨s,1,0,List.replicate (n*n).toNat 0⟩:=by
 have e1:fbC p s 0 1 k0C=1:=by rw [fbC,if_pos rfl,if_neg h]
 have e2:fbA p s 0 1 k0C=s:=by rw [fbA,if_neg (by rw [e1];decide)]
 rw [lvS_no (by rw [fbV,if_neg (by rw [e1];decide)]),e1,e2]
theorem k0_ok {p:List UInt8} {s:Int} (h:RbOk p s 1):fbC p s 0 1 k0C=0∧fbA p s 0 1 k0C=rbA p s 1∧fbV p s 0 1 k0C=rbV p s 1:=by
 have e1:fbC p s 0 1 k0C=0:=by rw [fbC,if_pos rfl,if_pos h]
 exact ⟨e1,by rw [fbA,if_pos ⟨rfl,e1⟩],by rw [fbV,if_pos e1]⟩
theorem lv_2 {p:List UInt8} {s n:Int} (h:RbOk p s 1) (hv:rbV p s 1=0):lvS p s n=⟨rbA p s 1,0,0,List.replicate (n*n).toNat 0⟩:=by
 obtain ⟨e1,e2,e3⟩:=k0_ok h
 rw [lvS_no (by rw [e3];exact hv),e1,e2]
theorem lvRun_c {p:List UInt8} {nn:Int} {x:LvS} (h:x.c≠0) (j:Nat):lvRun p nn x j=x:=lvRun_stop (k:=0) h j (Nat.zero_le _)
theorem lv_3 {p:List UInt8} {s n:Int} (h:RbOk p s 1) (hv:rbV p s 1≠0) (hu:ueC p (rbA p s 1)≠0):lvS p s n=⟨rbA p s 1,ueC p (rbA p s 1),0,List.replicate (n*n).toNat 0⟩:=by
 obtain ⟨e1,e2,e3⟩:=k0_ok h
 have f:=fu_bad (k:=kR (n*n)) hu
 rw [lvS_yes (by rw [e3];exact hv),e1,e2,f.1,f.2,lvRun_c hu]
theorem lv_5 {p:List UInt8} {s n:Int} (h:RbOk p s 1) (hv:rbV p s 1≠0) (hu:ueC p (rbA p s 1)=0) (h2:ueV p (rbA p s 1)<n*n):lvS p s n=lvRun p (n*n) ⟨ueA p (rbA p s 1),0,0,List.replicate (n*n).toNat 0⟩ (1+ueV p (rbA p s 1)).toNat:=by
 obtain ⟨e1,e2,e3⟩:=k0_ok h
 have f:=fu_yes (k:=kR (n*n)) hu (ifE_yes h2)
 rw [lvS_yes (by rw [e3];exact hv),e1,e2,f.1,f.2.1,f.2.2]
section
attribute [local irreducible] rbA rbV ueA ueV ueC pvC pvA pvR pvL lvOf lvS lvRun
end
section
attribute [local irreducible] lvS smA smV smC blS
end
section
attribute [local irreducible] rbA rbV blS mbS mbRun sz8 nm8
end
end Go.Proofs.YtndflfipaddfoaaGreat


namespace Go.Proofs.YtndflfipaddfoaaGreat
open Go Go.Abs
def Holds (p:List UInt8) (s:Int) (b:List Int):Prop:=0≤s∧s+b.length≤8*(p.length:Int)∧∀k<b.length,btA p (s+(k:Nat))=b.getD k 0
theorem holds_left {p:List UInt8} {s:Int} {a b:List Int} (h:Holds p s (a++b)):Holds p s a:=by
 obtain ⟨h0,h1,h2⟩:=h
 rw [List.length_append] at h1
 refine ⟨h0,by omega,fun k hk=>?_⟩
 rw [h2 k (by rw [List.length_append];omega)]
 simp [List.getD_eq_getElem?_getD,List.getElem?_append_left hk]
theorem holds_right {p:List UInt8} {s:Int} {a b:List Int} (h:Holds p s (a++b)):Holds p (s+a.length) b:=by
 obtain ⟨h0,h1,h2⟩:=h
 rw [List.length_append] at h1
 refine ⟨by omega,by omega,fun k hk=>?_⟩
 have:=h2 (a.length+k) (by rw [List.length_append];omega)
 rw [show s+(a.length:Int)+(k:Nat)=s+((a.length+k:Nat):Int) by omega,this]
 simp [List.getD_eq_getElem?_getD,List.getElem?_append_right]
theorem holds_rd {p:List UInt8} {s:Int} {b:List Int} (h:Holds p s b):RdOk p s:=⟨h.1,by have:=h.2.1;omega⟩
theorem holds_lft {p:List UInt8} {s:Int} {b:List Int} (h:Holds p s b):(b.length:Int)≤lft p s:=by
 rw [lft_ok (holds_rd h)];have:=h.2.1;omega
theorem holds_rb {p:List UInt8} {s:Int} {b:List Int} (h:Holds p s b) {n:Int} (h0:0≤n) (h1:n≤b.length) (h2:n≤32):RbOk p s n:=⟨holds_rd h,⟨h0,h2⟩,by have:=holds_lft h;omega⟩
theorem numS_bit {l:List Int} (h:Bit01 l) (hl:l.length=8) (j:Nat) (hj:j<8):numS l 8/2 ^ (7-j)%2=l.getD j 0:=by
 match l,hl with
 |[a,b,c,d,e,f,g,i],_=>
  have ha:0≤a∧a≤1:=by rcases h a (by simp) with e|e<;>omega
  have hb:0≤b∧b≤1:=by rcases h b (by simp) with e|e<;>omega
  have hc:0≤c∧c≤1:=by rcases h c (by simp) with e|e<;>omega
  have hd:0≤d∧d≤1:=by rcases h d (by simp) with e|e<;>omega
  have he:0≤e∧e≤1:=by rcases h e (by simp) with e|e<;>omega
  have hf:0≤f∧f≤1:=by rcases h f (by simp) with e|e<;>omega
  have hg:0≤g∧g≤1:=by rcases h g (by simp) with e|e<;>omega
  have hi:0≤i∧i≤1:=by rcases h i (by simp) with e|e<;>omega
  have hj2:j=0∨j=1∨j=2∨j=3∨j=4∨j=5∨j=6∨j=7:=by omega
  have e8:numS [a,b,c,d,e,f,g,i] 8=((((((((0*2+a)*2+b)*2+c)*2+d)*2+e)*2+f)*2+g)*2+i):=rfl
  rw [e8]
  rcases hj2 with rfl|rfl|rfl|rfl|rfl|rfl|rfl|rfl
  ·show _/(128:Int)%2=a;omega
  ·show _/(64:Int)%2=b;omega
  ·show _/(32:Int)%2=c;omega
  ·show _/(16:Int)%2=d;omega
  ·show _/(8:Int)%2=e;omega
  ·show _/(4:Int)%2=f;omega
  ·show _/(2:Int)%2=g;omega
  ·show _/(1:Int)%2=i;omega
theorem bit1_eq {y:Int} (h:0≤y∧y≤255):bit1 y=y%2:=low1 y ⟨h.1,by omega⟩
theorem str_bit {x:List Int} (h:Bit01 x) (i:Nat) (hi:i<8*(x.length/8)):btA (strS x) (i:Nat)=x.getD i 0:=by
 have hl:=strS_len x
 unfold btA
 rw [if_neg (by omega)]
 have e1:((i:Int)/8).toNat=i/8:=by omega
 have e2:((7:Int)-(i:Int)%8).toNat=7-i%8:=by omega
 have hb:=numS_256 (b01_mid h (8*(i/8))) (Nat.le_refl 8)
 have e3:((strS x).getD (i/8) 0).toNat=(numS ((x.drop (8*(i/8))).take 8) 8).toNat:=by
  unfold strS byI
  have hlt:i/8<x.length/8:=by omega
  simp only [List.getD_eq_getElem?_getD,List.getElem?_map,List.getElem?_range hlt,Option.map_some,Option.getD_some]
  rw [UInt8.toNat_ofNat']
  omega
 rw [e1,e2,e3]
 have e4:(((numS ((x.drop (8*(i/8))).take 8) 8).toNat:Nat):Int)=numS ((x.drop (8*(i/8))).take 8) 8:=by omega
 rw [e4]
 have hq:=shr_bd (numS ((x.drop (8*(i/8))).take 8) 8) (7-i%8) hb.1
 rw [bit1_eq ⟨hq.1,by omega⟩,numS_bit (b01_mid h _) (by rw [List.length_take,List.length_drop];omega) (i%8) (by omega)]
 simp only [List.getD_eq_getElem?_getD,List.getElem?_take,List.getElem?_drop]
 rw [if_pos (by omega),show 8*(i/8)+i%8=i by omega]
theorem pad_mult (n:Nat):(n+1+padN n)%8=0:=by unfold padN;omega
theorem stop_holds {b:List Int} (h:Bit01 b):Holds (stopS b) 0 (padL b (padN b.length)):=by
 have hl:=padL_len b (padN b.length)
 have hm:=pad_mult b.length
 have hs:=strS_len (padL b (padN b.length))
 refine ⟨by omega,by unfold stopS;omega,fun k hk=>?_⟩
 rw [Int.zero_add]
 exact str_bit (b01_pad h _) k (by omega)
theorem num_of {p:List UInt8} {s n:Int} {w:Nat} (hn:0≤n) (h:∀j<w,btA p (s+(j:Nat))=n/2 ^ (w-1-j)%2):∀k,k≤w→numB p s k=n/2 ^ (w-k)%2 ^ k
 |0,_=>by simp [numB]
 |k+1,hk=>by
  rw [numB,num_of hn h k (by omega),bv,h k (by omega)]
  have e1:w-k=(w-(k+1))+1:=by omega
  have e2:w-1-k=w-(k+1):=by omega
  rw [e2,e1]
  have e3:(2:Int) ^ (w-(k+1)+1)=2 ^ (w-(k+1))*2:=Int.pow_succ ..
  have e4:(2:Int) ^ (k+1)=2*2 ^ k:=by rw [Int.pow_succ,Int.mul_comm]
  rw [e3,←Int.ediv_ediv_of_nonneg (Int.le_of_lt (Int.pow_pos (by decide))),e4]
  generalize n/2 ^ (w-(k+1))=y
  have e5:y%(2*2 ^ k)=y%2+2*(y/2%2 ^ k):=by
   have:=Int.emod_emod_of_dvd y (Int.dvd_mul_right 2 (2 ^ k))
   have h1:=Int.mul_ediv_add_emod y 2
   have h2:=Int.mul_ediv_add_emod (y/2) (2 ^ k)
   have hp:(0:Int)<2 ^ k:=Int.pow_pos (by decide)
   have h3:=Int.emod_nonneg (y/2) (Int.ne_of_gt hp)
   have h4:=Int.emod_lt_of_pos (y/2) hp
   have e6:y=(2*2 ^ k)*(y/2/2 ^ k)+(y%2+2*(y/2%2 ^ k)):=by
    have:(2:Int)*2 ^ k*(y/2/2 ^ k)=2*(2 ^ k*(y/2/2 ^ k)):=by rw [Int.mul_assoc]
    omega
   conv=>lhs;rw [e6]
   rw [Int.mul_add_emod_self_left,Int.emod_eq_of_lt (by omega) (by omega)]
  omega
theorem holds_num {p:List UInt8} {s n w:Int} (hb:bitOk n w) (h:Holds p s (bitsL n w)):numB p s w.toNat=n:=by
 unfold bitsL at h
 rw [if_pos hb] at h
 obtain ⟨⟨hw0,hw1⟩,hn,hz⟩:=hb
 obtain ⟨h0,h1,h2⟩:=h
 rw [bitsR_len] at h2
 rw [num_of (w:=w.toNat) hn (fun j hj=>by
  rw [h2 j hj]
  simp [bitsR,List.getD_eq_getElem?_getD,hj]) w.toNat (Nat.le_refl _)]
 rw [Nat.sub_self,Int.pow_zero,Int.ediv_one]
 have hp:(0:Int)<2 ^ w.toNat:=Int.pow_pos (by decide)
 have:=Int.mul_ediv_add_emod n (2 ^ w.toNat)
 rw [hz] at this
 omega
theorem bits_len {n w:Int} (hb:bitOk n w):((bitsL n w).length:Int)=w:=by
 unfold bitsL
 rw [if_pos hb,bitsR_len]
 have:=hb.1.1
 omega
theorem holds_bits {p:List UInt8} {s n w:Int} (hb:bitOk n w) (hw:w≤32) (h:Holds p s (bitsL n w)):RbOk p s w∧rbA p s w=s+w∧rbV p s w=n:=by
 have hr:=holds_rb h hb.1.1 (by rw [bits_len hb];omega) hw
 have:=rb_yes hr
 exact ⟨hr,this.1,this.2.trans (holds_num hb h)⟩
theorem holds_ue {p:List UInt8} {s n:Int} (hn:0≤n∧n≤65534) (h:Holds p s (ueL n)):ueC p s=0∧ueA p s=s+(ueL n).length∧ueV p s=n:=by
 obtain ⟨m,rfl⟩:∃m:Nat,n=m:=⟨n.toNat,by omega⟩
 have hm:m≤65534:=by omega
 have hz:=lg_16 (x:=m+1) (by omega) (by omega)
 have hw:=ueL_wide hm
 have hb:=bitOk_ue (n:=m) (2*Nat.log2 (m+1)+1) hm (by omega) (by omega)
 have hlen:=bits_len hb
 rw [hw] at hlen
 have hsh:ueL (m:Int)=List.replicate (Nat.log2 (m+1)) 0++bitsL ((m:Int)+1) ((Nat.log2 (m+1)+1:Nat):Int):=by
  rw [ueL,if_pos hn];simp
 have hzr:zrs p s=Nat.log2 (m+1):=by
  refine zrs_eq (by have:=holds_lft h;omega) (fun j hj=>?_) (.inr ?_)
  ·have h1:=holds_left (hsh▸h)
   rw [h1.2.2 j (by simpa using hj)]
   simp [List.getD_eq_getElem?_getD,List.getElem?_replicate,hj]
  ·have h1:=holds_right (hsh▸h)
   have hb2:=bitOk_ue (n:=m) (Nat.log2 (m+1)+1) hm (by omega) (by omega)
   have h2:=h1.2.2 0 (by have:=bits_len hb2;omega)
   rw [List.length_replicate] at h2
   rw [show s+((Nat.log2 (m+1):Nat):Int)=s+((Nat.log2 (m+1):Nat):Int)+((0:Nat):Int) by omega,h2]
   unfold bitsL
   rw [if_pos hb2]
   have e1:(((Nat.log2 (m+1)+1:Nat):Int)).toNat=Nat.log2 (m+1)+1:=by omega
   rw [e1]
   have e2:(bitsR ((m:Int)+1) (Nat.log2 (m+1)+1) (Nat.log2 (m+1)+1)).getD 0 0=((m:Int)+1)/2 ^ Nat.log2 (m+1)%2:=by
    simp [bitsR,List.getD_eq_getElem?_getD]
   rw [e2]
   have hlo:=lg_lo (m+1) (by omega)
   have hhi:=lg_hi (m+1)
   have e3:((m:Int)+1)/2 ^ Nat.log2 (m+1)=1:=by
    have:(m+1)/2 ^ Nat.log2 (m+1)=1:=by
     rw [Nat.pow_succ] at hhi
     exact Nat.div_eq_of_lt_le (by omega) (by omega)
    exact_mod_cast this
   rw [e3];decide
 have hrb:RbOk p s (2*(zrs p s:Int)+1):=holds_rb h (by omega) (by omega) (by omega)
 have hy:=ue_yes (p:=p) (s:=s) (by omega) hrb
 refine ⟨hy.2.1,by rw [hy.1,hzr];omega,?_⟩
 rw [hy.2.2,hzr]
 have:=holds_num hb (hw.symm▸h)
 rw [show ((2*Nat.log2 (m+1)+1:Nat):Int).toNat=(2*((Nat.log2 (m+1):Nat):Int)+1).toNat by omega] at this
 omega
theorem holds_sym {p:List UInt8} {s m:Int} {l:List Int} (hc:HasC l m) (h:Holds p s (symL l m)):smC p s l=0∧smA p s l=s+(symL l m).length∧smV p s l=m:=by
 have hf:=sym_fit hc
 have hlen:=symL_len l m
 rw [if_pos hc] at hlen
 unfold symL at h
 rw [if_pos hc] at h
 have hb:=holds_bits hf.2.2.2 (by omega) h
 have hm:=hc.2.1
 have ha:SymAt p s l m.toNat:=⟨by omega,hb.1,holds_num hf.2.2.2 h⟩
 have hy:=sm_yes hc.1 (by omega) ha
 exact ⟨hy.2.2,by omega,by omega⟩
theorem lv_nol {v:Int} (h:v≠0):lvOf (nolL v)=v:=by unfold lvOf nolL;split<;>(try split)<;>(try split)<;>omega
theorem holds_pair {p:List UInt8} {s room r v:Int} (hr:0≤r∧r<room) (hr2:r≤65534) (hv:v≠0∧-16383≤v∧v≤16383) (h:Holds p s (prB (r,v))):pvC p s room=0∧pvA p s room=s+(prB (r,v)).length∧pvR p s room=r∧pvL p s room=v:=by
 have h1:=holds_ue ⟨hr.1,hr2⟩ (holds_left h)
 have hn:=nolL_in hv
 have h2:=holds_ue hn (holds_right h)
 have e:=lv_nol hv.1
 simp only at h1 h2
 rw [←h1.2.1] at h2
 have h5:=pv_5 (p:=p) (s:=s) (room:=room) h1.1 (by omega) h2.1 (by rw [h2.2.2,e];omega)
 refine ⟨h5.2.1,?_,by rw [h5.2.2.1];exact h1.2.2,by rw [h5.2.2.2,h2.2.2,e]⟩
 rw [h5.1,h2.2.1,h1.2.1]
 unfold prB
 simp only [List.length_append]
 omega
theorem set_next (l:List Int) (k:Nat) (h:k<l.length) (n:Nat) (hn:n=l.length):(l.take k++List.replicate (n-k) 0).set k (l.getD k 0)=l.take (k+1)++List.replicate (n-(k+1)) 0:=by
 subst hn
 have e1:(l.take k).length=k:=by simp;omega
 have e2:l.length-k=(l.length-(k+1))+1:=by omega
 rw [List.set_append,if_neg (by omega),e1,Nat.sub_self,e2,List.replicate_succ,List.set_cons_zero,List.take_succ_eq_append_getElem h,List.append_assoc]
 simp [h]
theorem keep_next (l:List Int) (k:Nat) (h:k<l.length) (h0:l.getD k 0=0):l.take k++List.replicate (l.length-k) 0=l.take (k+1)++List.replicate (l.length-(k+1)) 0:=by
 rw [←set_next l k h _ rfl,h0]
 have e1:(l.take k).length=k:=by simp;omega
 have e2:l.length-k=(l.length-(k+1))+1:=by omega
 rw [List.set_append,if_neg (by omega),e1,Nat.sub_self,e2,List.replicate_succ,List.set_cons_zero]
theorem holds_run {p:List UInt8} {s:Int} {l:List Int} (hl:LvOk l):∀k,k≤l.length→Holds p s ((pk l k).1.flatMap prB)→
 lvRun p l.length ⟨s,0,0,List.replicate l.length 0⟩ (pk l k).1.length=⟨s+((pk l k).1.flatMap prB).length,0,k-(pk l k).2,l.take k++List.replicate (l.length-k) 0⟩
 |0,_,_=>by simp [pk,lvRun]
 |k+1,hk,h=>by
  have hb:=pk_bd l k
  have h64:l.length≤64:=by have:=hl.2;omega
  rw [pk] at h ⊢
  split at h
  ·rename_i h0
   rw [if_pos h0]
   have ih:=holds_run hl k (by omega) h
   simp only
   rw [ih,keep_next l k (by omega) h0]
   congr 1
   omega
  ·rename_i h0
   rw [if_neg h0]
   simp only [List.flatMap_append,List.flatMap_cons,List.flatMap_nil,List.append_nil,List.length_append,List.length_singleton] at h ⊢
   have ih:=holds_run hl k (by omega) (holds_left h)
   have hin:=in_get hl.1 (k:=k) (by omega)
   have hp:=holds_pair (room:=l.length-(k-(pk l k).2)) (by omega) (by omega) ⟨h0,hin⟩ (holds_right h)
   rw [lvRun,ih,lvStep_pv0 rfl hp.1]
   simp only
   rw [hp.2.1,hp.2.2.1,hp.2.2.2,show ((k:Int)-(pk l k).2+(pk l k).2).toNat=k by omega,set_next l k (by omega) _ rfl]
   congr 1<;>omega
end Go.Proofs.YtndflfipaddfoaaGreat


namespace Go.Proofs.YtndflfipaddfoaaGreat
open Go Go.Abs
theorem one_bit {p:List UInt8} {s x:Int} (hx:x=0∨x=1) (h:Holds p s [x]):RbOk p s 1∧rbA p s 1=s+1∧rbV p s 1=x:=by
 rcases hx with rfl|rfl
 ·exact holds_bits (n:=0) (w:=1) (by decide) (by decide) h
 ·exact holds_bits (n:=1) (w:=1) (by decide) (by decide) h
theorem nn_len {l:List Int} {n:Int} (hn:(l.length:Int)=n*n):(n*n).toNat=l.length:=by omega
theorem holds_lv0 {p:List UInt8} {s n:Int} {l:List Int} (hl:LvOk l) (hn:(l.length:Int)=n*n) (h0:(prsL l).length=0) (h:Holds p s [0]):(lvS p s n).a=s+1∧(lvS p s n).c=0∧(lvS p s n).out=l:=by
 have h1:=one_bit (.inl rfl) h
 rw [lv_2 h1.1 h1.2.2,nn_len hn]
 refine ⟨h1.2.1,rfl,?_⟩
 have e:(pk l l.length).1=[]:=by
  unfold prsL at h0;rw [if_pos hl] at h0;exact List.length_eq_zero_iff.1 h0
 have hh:Holds [] 0 ((pk l l.length).1.flatMap prB):=by rw [e];exact ⟨by decide,by decide,fun k hk=>by cases hk⟩
 have hr:=holds_run hl l.length (Nat.le_refl _) hh
 rw [e] at hr
 have:=congrArg LvS.out hr
 simpa [lvRun] using this
theorem holds_lv1 {p:List UInt8} {s n:Int} {l:List Int} (hl:LvOk l) (hn:(l.length:Int)=n*n) (h0:(prsL l).length≠0) (h:Holds p s ([1]++ueL ((prsL l).length-1)++(prsL l).flatMap prB)):(lvS p s n).a=s+([1]++ueL ((prsL l).length-1)++(prsL l).flatMap prB).length∧(lvS p s n).c=0∧(lvS p s n).out=l:=by
 have e:prsL l=(pk l l.length).1:=by unfold prsL;rw [if_pos hl]
 have hb:=(pk_bd l l.length).1
 rw [←e] at hb
 have h64:l.length≤64:=by have:=hl.2;omega
 have h1:=one_bit (.inr rfl) (holds_left (holds_left h))
 have h2:=holds_ue (n:=((prsL l).length:Int)-1) (by omega) (holds_right (holds_left h))
 rw [show s+(([1]:List Int).length:Int)=rbA p s 1 by rw [h1.2.1];rfl] at h2
 have h3:=holds_right h
 rw [lv_5 h1.1 (by rw [h1.2.2];decide) h2.1 (by rw [h2.2.2];omega),h2.2.2,nn_len hn,←hn,show (1+(((prsL l).length:Int)-1)).toNat=(prsL l).length by omega]
 rw [List.length_append,show s+((([1]:List Int).length+(ueL ((prsL l).length-1)).length:Nat):Int)=ueA p (rbA p s 1) by rw [h2.2.1,h1.2.1,Int.natCast_add];simp only [List.length_singleton];omega] at h3
 rw [e] at h3 ⊢
 rw [holds_run hl l.length (Nat.le_refl _) h3]
 refine ⟨?_,rfl,by simp⟩
 simp only [List.length_append,List.length_singleton]
 rw [←e,h2.2.1,h1.2.1]
 omega
theorem holds_blk {p:List UInt8} {s m n:Int} {lv lens:List Int} (hk:BlkOk m lv lens n) (h:Holds p s (bkL m lv lens n)):blS p s lens n=⟨s+(bkL m lv lens n).length,0,m,lv⟩:=by
 have hk2:=hk
 obtain ⟨hn,hc,hl,hv⟩:=hk
 unfold bkL at h ⊢
 rw [if_pos hk2] at h ⊢
 split at h
 ·rename_i h0
  rw [if_pos h0]
  have h1:=holds_sym hc (holds_left h)
  have h2:=holds_right h
  rw [←h1.2.1] at h2
  have h3:=holds_lv0 (n:=n) hv hl h0 h2
  rw [blS_1 hn h1.1 h3.2.1,h3.1,h3.2.2,h1.2.2,h1.2.1,List.length_append,List.length_singleton]
  congr 1
  omega
 ·rename_i h0
  rw [if_neg h0]
  have e:bkK m lv lens (prsL lv).length=symL lens m++([1]++ueL ((prsL lv).length-1)++(prsL lv).flatMap prB):=by
   unfold bkK;rw [List.take_length];simp only [List.append_assoc]
  rw [e] at h ⊢
  have h1:=holds_sym hc (holds_left h)
  have h2:=holds_right h
  rw [←h1.2.1] at h2
  have h3:=holds_lv1 (n:=n) hv hl h0 h2
  rw [blS_1 hn h1.1 h3.2.1,h3.1,h3.2.2,h1.2.2,h1.2.1]
  simp only [List.length_append]
  congr 1
  omega
theorem holds_take {α:Type} [Inhabited α] {p:List UInt8} {s:Int} (f:α→List Int) (l:List α) {k:Nat} (hk:k<l.length) (h:Holds p s ((l.take (k+1)).flatMap f)):Holds p s ((l.take k).flatMap f)∧Holds p (s+((l.take k).flatMap f).length) (f (l.getD k default)):=by
 rw [fm_snoc f l k hk] at h
 exact ⟨holds_left h,holds_right h⟩
theorem take_d {α:Type} [Inhabited α] (l:List α) {k:Nat} (hk:k<l.length):l.take (k+1)=l.take k++[l.getD k default]:=by
 rw [List.take_succ_eq_append_getElem hk];simp [hk]
theorem holds_mbr {p:List UInt8} {s:Int} {lens:List Int} {e:Bool} {bs:List Blok} (hm:MbkOk e bs lens):∀k,k≤bs.length→Holds p s ((bs.take k).flatMap fun b=>bkL b.1 b.2 lens (sz8 e))→
 mbRun p s lens (sz8 e) k=⟨s+((bs.take k).flatMap fun b=>bkL b.1 b.2 lens (sz8 e)).length,0,bs.take k⟩
 |0,_,_=>by simp [mbRun]
 |k+1,hk,h=>by
  have ht:=holds_take _ bs (by omega) h
  have ih:=holds_mbr hm k (by omega) ht.1
  have hb:=holds_blk (ok_lv hm (k:=k) (by omega)) ht.2
  have e1:=congrArg MbS.a ih
  simp only at e1
  rw [mbRun_next (by rw [ih]) (by rw [e1,hb]),e1,hb,ih]
  simp only
  rw [fm_snoc _ bs k (by omega),take_d bs (by omega),List.length_append]
  congr 1
  omega
theorem holds_mb {p:List UInt8} {s:Int} {lens:List Int} {e:Bool} {bs:List Blok} (hm:MbkOk e bs lens) (h:Holds p s (mbbL e bs lens)):mbS p s lens=(⟨s+(mbbL e bs lens).length,0,bs⟩,e):=by
 unfold mbbL at h ⊢
 rw [if_pos hm] at h ⊢
 unfold mbK at h ⊢
 have h1:=one_bit (by cases e<;>simp) (holds_left h)
 have h2:=holds_right h
 rw [mbS_yes (E:=e) h1.1 (by rw [h1.2.2];cases e<;>rfl)]
 have hl:(nm8 e).toNat=bs.length:=by have:=hm.1;omega
 rw [hl,show s+1=s+(([bif e then (1:Int) else 0]:List Int).length:Int) by simp,holds_mbr hm bs.length (Nat.le_refl _) h2]
 simp only [List.take_length,List.length_append,List.length_singleton,decide_true,cond_true]
 congr 2
 omega
theorem holds_mbs {p:List UInt8} {s w h q:Int} {l:List Int} {M:List Mbk} (hs:StOk w h q l M):∀k,k≤M.length→Holds p s ((M.take k).flatMap (mbF l))→
 stRun p s l k=⟨s+((M.take k).flatMap (mbF l)).length,0,M.take k⟩
 |0,_,_=>by simp [stRun]
 |k+1,hk,hh=>by
  have ht:=holds_take _ M (by omega) hh
  have ih:=holds_mbs hs k (by omega) ht.1
  have hb:=holds_mb (ok_blk hs (i:=k) (by omega)) ht.2
  rw [stRun,ih]
  simp only [if_true]
  rw [hb]
  simp only [if_true]
  rw [fm_snoc _ M k (by omega),take_d M (by omega),List.length_append]
  have:(mbF l (M.getD k default)).length=(mbbL (M.getD k default).1 (M.getD k default).2 l).length:=rfl
  congr 1
  omega
def lnum (l:List Int):Int:=((((l.getD 0 0*8+l.getD 1 0)*8+l.getD 2 0)*8+l.getD 3 0)*8+l.getD 4 0)*8+l.getD 5 0
theorem six_of {l:List Int} (h:CodeOk l):∃a b c d e f,l=[a,b,c,d,e,f]∧(0≤a∧a≤7)∧(0≤b∧b≤7)∧(0≤c∧c≤7)∧(0≤d∧d≤7)∧(0≤e∧e≤7)∧(0≤f∧f≤7):=by
 have h0:=code_in h (m:=0) (by decide)
 have h1:=code_in h (m:=1) (by decide)
 have h2:=code_in h (m:=2) (by decide)
 have h3:=code_in h (m:=3) (by decide)
 have h4:=code_in h (m:=4) (by decide)
 have h5:=code_in h (m:=5) (by decide)
 match l,h.2.1 with
 |[a,b,c,d,e,f],_=>exact ⟨a,b,c,d,e,f,rfl,h0,h1,h2,h3,h4,h5⟩
theorem bits3 {n:Int} (h:0≤n∧n≤7):bitsL n 3=[n/4%2,n/2%2,n/1%2]:=by
 have hb:bitOk n 3:=⟨by decide,h.1,by show n/8=0;omega⟩
 unfold bitsL
 rw [if_pos hb]
 rfl
theorem bits18 {n:Int} (h:0≤n∧n≤262143):bitsL n 18=[n/131072%2,n/65536%2,n/32768%2,n/16384%2,n/8192%2,n/4096%2,n/2048%2,n/1024%2,n/512%2,n/256%2,n/128%2,n/64%2,n/32%2,n/16%2,n/8%2,n/4%2,n/2%2,n/1%2]:=by
 have hb:bitOk n 18:=⟨by decide,h.1,by show n/262144=0;omega⟩
 unfold bitsL
 rw [if_pos hb]
 rfl
theorem lens_bits {l:List Int} (h:CodeOk l):(0≤lnum l∧lnum l≤262143)∧l.flatMap (fun n=>bitsL n 3)=bitsL (lnum l) 18∧lensV (lnum l)=l:=by
 obtain ⟨a,b,c,d,e,f,rfl,ha,hb,hc,hd,he,hf⟩:=six_of h
 have en:lnum [a,b,c,d,e,f]=((((a*8+b)*8+c)*8+d)*8+e)*8+f:=rfl
 rw [en]
 refine ⟨by omega,?_,?_⟩
 ·rw [bits18 (by omega)]
  simp only [List.flatMap_cons,List.flatMap_nil,bits3 ha,bits3 hb,bits3 hc,bits3 hd,bits3 he,bits3 hf,List.cons_append,List.nil_append]
  simp only [List.cons.injEq,and_true]
  and_intros<;>omega
 ·show [_/(32768:Int)%8,_/(4096:Int)%8,_/(512:Int)%8,_/(64:Int)%8,_/(8:Int)%8,_/(1:Int)%8]=_
  simp only [List.cons.injEq,and_true]
  and_intros<;>omega
theorem two_bits (b d:Bool):[bif b then (1:Int) else 0,bif d then 1 else 0]=bitsL (2*(bif b then 1 else 0)+(bif d then 1 else 0)) 2∧bitOk (2*(bif b then 1 else 0)+(bif d then 1 else 0)) 2:=by cases b<;>cases d<;>decide
theorem fb_yes {p:List UInt8} {s n:Int} {k:Int→Int} (h:RbOk p s n) (hk:k (rbV p s n)=0):fbC p s 0 n k=0∧fbA p s 0 n k=rbA p s n∧fbV p s 0 n k=rbV p s n:=by
 have e1:fbC p s 0 n k=0:=by rw [fbC,if_pos rfl,if_pos h,hk]
 exact ⟨e1,by rw [fbA,if_pos ⟨rfl,e1⟩],by rw [fbV,if_pos e1]⟩
theorem hdL_parts {w h q:Int} {b d:Bool} {l:List Int} (hh:HdOk w h q l):hdL w h q b d l=bitsL 183 8++(ueL (w/8-1)++(ueL (h/8-1)++(bitsL q 6++(bitsL (2*(bif b then 1 else 0)+(bif d then 1 else 0)) 2++bitsL (lnum l) 18)))):=by
 unfold hdL
 rw [if_pos hh]
 unfold hdK hdB
 rw [List.take_length,(lens_bits hh.2.2).2.1,(two_bits b d).1]
 simp only [List.append_assoc]
theorem holds_hd {p:List UInt8} {s w h q:Int} {b d:Bool} {l:List Int} (hh:HdOk w h q l) (hp:Holds p s (hdL w h q b d l)):(hdS p s).a=s+(hdL w h q b d l).length∧(hdS p s).c=0∧(hdS p s).W=w∧(hdS p s).H=h∧(hdS p s).Q=q∧(hdS p s).B=b∧(hdS p s).D=d∧(hdS p s).L=l:=by
 have hw:=hd_ws hh.1
 have hs:=hh.1
 have hq:=hh.2.1
 have hlb:=lens_bits hh.2.2
 have hc:=hh.2.2
 have b6:bitOk q 6:=⟨by decide,hq.1,by show q/64=0;omega⟩
 have b18:bitOk (lnum l) 18:=⟨by decide,hlb.1.1,by show lnum l/262144=0;omega⟩
 rw [hdL_parts hh] at hp ⊢
 have h1:=holds_bits (by decide) (by decide) (holds_left hp)
 have p1:=holds_right hp
 rw [bits_len (by decide),←h1.2.1] at p1
 have h2:=holds_ue hw.1 (holds_left p1)
 have p2:=holds_right p1
 rw [←h2.2.1] at p2
 have h3:=holds_ue hw.2 (holds_left p2)
 have p3:=holds_right p2
 rw [←h3.2.1] at p3
 have h4:=holds_bits b6 (by decide) (holds_left p3)
 have p4:=holds_right p3
 rw [bits_len b6,←h4.2.1] at p4
 have h5:=holds_bits (two_bits b d).2 (by decide) (holds_left p4)
 have p5:=holds_right p4
 rw [bits_len (two_bits b d).2,←h5.2.1] at p5
 have h6:=holds_bits b18 (by decide) p5
 have f1:=fb_yes (k:=hk1) h1.1 (ifE_yes h1.2.2)
 have f2:=fu_yes (k:=hk2) h2.1 (ifE_yes (by rw [h2.2.2];omega))
 have f3:=fu_yes (k:=hk2) h3.1 (ifE_yes (by rw [h3.2.2];omega))
 have f4:=fb_yes (k:=hk3) h4.1 (ifE_yes (by rw [h4.2.2];omega))
 have f5:=fb_yes (k:=hk4) h5.1 rfl
 have f6:=fb_yes (k:=hk5) h6.1 (ifE_yes (by rw [h6.2.2,hlb.2.2];exact hc))
 have e:hdS p s=⟨rbA p (rbA p (rbA p (ueA p (ueA p (rbA p s 8))) 6) 2) 18,0,w/8-1,h/8-1,q,2*(bif b then 1 else 0)+(bif d then 1 else 0),lnum l⟩:=by
  unfold hdS
  simp only
  rw [f1.1,f1.2.1,f2.1,f2.2.1,f3.1,f3.2.1,f4.1,f4.2.1,f5.1,f5.2.1,f6.1,f6.2.1,f2.2.2,f3.2.2,f4.2.2,f5.2.2,f6.2.2,h2.2.2,h3.2.2,h4.2.2,h5.2.2,h6.2.2]
 rw [e]
 refine ⟨?_,rfl,?_,?_,?_,?_,?_,?_⟩
 ·simp only [List.length_append]
  have l1:=bits_len (n:=183) (w:=8) (by decide)
  have l2:=bits_len b6
  have l3:=bits_len (two_bits b d).2
  have l4:=bits_len b18
  omega
 ·show (if (0:Int)=0 then 8*(w/8-1+1) else 0)=w
  rw [if_pos rfl];omega
 ·show (if (0:Int)=0 then 8*(h/8-1+1) else 0)=h
  rw [if_pos rfl];omega
 ·rfl
 ·cases b<;>cases d<;>rfl
 ·cases b<;>cases d<;>rfl
 ·show (if (0:Int)=0 then lensV (lnum l) else [])=l
  rw [if_pos rfl,hlb.2.2]
end Go.Proofs.YtndflfipaddfoaaGreat


namespace Go.Proofs.YtndflfipaddfoaaGreat
open Go Go.Abs
attribute [local irreducible] WpA WpL Rnd Blk Abs.Seq Abs.Fin Abs.FinG FnC FnG Only
def sdV (p:List UInt8) (s:Int):Int:=if ueC p s=0∧ueV p s>3 then 0 else 8*ueV p s+8
def lnL (p:List UInt8) (s:Int):List Int:=if RbOk p s 18 then lensV (rbV p s 18) else []
attribute [local irreducible] rbA rbV ueA ueV ueC fuA fuC fuV fbA fbC fbV sdV lnL zrs numB lft hdS lensV
end Go.Proofs.YtndflfipaddfoaaGreat


namespace Go.Proofs.YtndflfipaddfoaaGreat
open Go Go.Abs
attribute [local irreducible] WpA WpL Rnd Blk Abs.Seq Abs.Fin Abs.FinG FnC FnG Only
theorem hdSL_len (x:HdS):x.L.length≤6:=by
 unfold HdS.L;split
 ·exact Nat.le_refl 6
 ·exact Nat.zero_le _
abbrev StV (x:PrS):AV:=.agg [I x.W,I x.H,I x.Q,B x.B,B x.D,.own 0 0 0 x.L.length,.own 1 0 0 x.ms.length]
def PrN (a c:Int):PrS:=⟨0,0,0,false,false,[],[],a,c⟩
theorem prS_1 {p:List UInt8} (h:(hdS p 0).c≠0):prS p=PrN (hdS p 0).a (hdS p 0).c:=by unfold prS;simp only;rw [if_neg h];rfl
theorem prS_2 {p:List UInt8} (h:(hdS p 0).c=0) (h2:(stRun p (hdS p 0).a (hdS p 0).L (cntM (hdS p 0).W (hdS p 0).H).toNat).c≠0):prS p=PrN (stRun p (hdS p 0).a (hdS p 0).L (cntM (hdS p 0).W (hdS p 0).H).toNat).a (stRun p (hdS p 0).a (hdS p 0).L (cntM (hdS p 0).W (hdS p 0).H).toNat).c:=by
 unfold prS;simp only;rw [if_pos h,if_neg h2];rfl
theorem prS_3 {p:List UInt8} (h:(hdS p 0).c=0) (h2:(stRun p (hdS p 0).a (hdS p 0).L (cntM (hdS p 0).W (hdS p 0).H).toNat).c=0) (h3:endC p (stRun p (hdS p 0).a (hdS p 0).L (cntM (hdS p 0).W (hdS p 0).H).toNat).a≠0):prS p=PrN (stRun p (hdS p 0).a (hdS p 0).L (cntM (hdS p 0).W (hdS p 0).H).toNat).a (endC p (stRun p (hdS p 0).a (hdS p 0).L (cntM (hdS p 0).W (hdS p 0).H).toNat).a):=by
 unfold prS;simp only;rw [if_pos h,if_pos h2,if_neg h3];rfl
theorem prS_4 {p:List UInt8} (h:(hdS p 0).c=0) (h2:(stRun p (hdS p 0).a (hdS p 0).L (cntM (hdS p 0).W (hdS p 0).H).toNat).c=0) (h3:endC p (stRun p (hdS p 0).a (hdS p 0).L (cntM (hdS p 0).W (hdS p 0).H).toNat).a=0):prS p=⟨(hdS p 0).W,(hdS p 0).H,(hdS p 0).Q,(hdS p 0).B,(hdS p 0).D,(hdS p 0).L,(stRun p (hdS p 0).a (hdS p 0).L (cntM (hdS p 0).W (hdS p 0).H).toNat).ms,(stRun p (hdS p 0).a (hdS p 0).L (cntM (hdS p 0).W (hdS p 0).H).toNat).a,0⟩:=by
 unfold prS;simp only;rw [if_pos h,if_pos h2,if_pos h3]
theorem stRun_next {p:List UInt8} {s:Int} {lens:List Int} {k:Nat} (h:(stRun p s lens k).c=0) (hb:(mbS p (stRun p s lens k).a lens).1.c=0):stRun p s lens (k+1)=⟨(mbS p (stRun p s lens k).a lens).1.a,0,(stRun p s lens k).ms++[((mbS p (stRun p s lens k).a lens).2,(mbS p (stRun p s lens k).a lens).1.bs)]⟩:=by
 rw [stRun];simp only;rw [if_pos h,if_pos hb]
theorem stRun_bad {p:List UInt8} {s:Int} {lens:List Int} {k:Nat} (h:(stRun p s lens k).c=0) (hb:(mbS p (stRun p s lens k).a lens).1.c≠0):∀j,k<j→stRun p s lens j=⟨(mbS p (stRun p s lens k).a lens).1.a,(mbS p (stRun p s lens k).a lens).1.c,[]⟩:=by
 intro j hj
 have e:stRun p s lens (k+1)=⟨(mbS p (stRun p s lens k).a lens).1.a,(mbS p (stRun p s lens k).a lens).1.c,[]⟩:=by
  rw [stRun];simp only;rw [if_pos h,if_neg hb]
 rw [stRun_stop (k:=k+1) (by rw [e];exact hb) j hj,e]
section
attribute [local irreducible] hdS stRun mbS endC cntM
instance Parse_c:Con 35 (∀ (p:List UInt8),p.length≤1099511627776→Fn 35 [Z p] [XI (prS p).L,MbO (prS p).ms] (.tup [StV (prS p),I (prS p).a,I (prS p).c])):=⟨fun p hl=>by
 have hr0:RdOk p 0:=⟨by omega,by omega⟩
 have hok:=hdS_ok hr0
 refine FnC.of_body tabOk Tryz.func35 Tryz.ntmps35 rfl (by decide +kernel) (by simp) fun G=>?_
 by_cases hc:(hdS p 0).c=0
 ·have hs:=hdS_sides hc
  have hL:=hdSL_len (hdS p 0)
  have e2:=prS_2 hc
  have e3:=prS_3 hc
  have e4:=prS_4 hc
  have hbd:=cntM_bd hs
  refine go (r:=?_);and_intros<;>intros<;>try exact True.intro
  all_goals first|contradiction|skip
  generalize hx:hdS p 0=x at hc hs hL e2 e3 e4 hbd hok ⊢
  have hz:stRun p x.a x.L 0=⟨x.a,0,[]⟩:=by rw [stRun]
  have hln:=fun k h=>stRun_len p x.a x.L k h
  have hok:=fun k=>stRun_ok (lens:=x.L) hok k
  have hnx:=fun k h hb=>stRun_next (p:=p) (s:=x.a) (lens:=x.L) (k:=k) h hb
  have hbd2:=fun k h hb j hj=>stRun_bad (p:=p) (s:=x.a) (lens:=x.L) (k:=k) h hb j hj
  generalize hN:cntM x.W x.H=N at hbd e2 e3 e4 ⊢
  generalize stRun p x.a x.L=X at hz hln hnx hbd2 hok e2 e3 e4 ⊢
  refine WpA.loop (fun k:Nat=>⟨[(2,.ptr 0 0 0),(5,.ptr 2 0 0),(6,.ptr 3 0 0),(8,.ptr 4 0 0),(29,I N),(30,I k)],[⟨[I 0,I 0,I 0,B false,B false,.nilS,.nilS],0,0,none⟩,XI x.L,⟨[Z p,I (X k).a],0,0,none⟩,⟨[I x.W,I x.H,I x.Q,B x.B,B x.D,.own 1 0 0 x.L.length],0,0,none⟩,⟨[I x.W,I x.H,I x.Q,B x.B,B x.D,.own 1 0 0 x.L.length,.own 5 0 0 k],0,0,none⟩,MbO (X k).ms]⟩) (fun k=>(k:Int)≤N∧(X k).c=0) (fun k=>N.toNat-k) 0 (by rw [hz];exact ⟨by omega,rfl⟩) ?_ (fun k hk=>?_)
  ·rw [hz];exact Weak.nil1 (by first|(show 0≤_;exact Nat.zero_le _)|(repeat' (first|exact RzT.nil|refine RzT.cons ?_ ?_|exact Rz.nil|refine Rz.keep rfl rfl ?_|refine Rz.own rfl rfl rfl rfl rfl (by first|rfl|omega|(simp;done)) ?_|refine Rz.ptr rfl rfl rfl rfl ?_|refine Rz.nilO rfl rfl rfl (by first|rfl|omega|(simp;done)) ?_|refine Rz.agg ?_ ?_|exact RzO.last rfl|(refine RzO.cons ?_ (.inr rfl) ?_)|exact Rz.same rfl (still_ints _)|exact Rz.same rfl (still_rows (fun _=>rfl) _)))) (by first|(show 0≤_;exact Nat.zero_le _)|(repeat' (first|exact RzT.nil|refine RzT.cons ?_ ?_|exact Rz.nil|refine Rz.keep rfl rfl ?_|refine Rz.own rfl rfl rfl rfl rfl (by first|rfl|omega|(simp;done)) ?_|refine Rz.ptr rfl rfl rfl rfl ?_|refine Rz.nilO rfl rfl rfl (by first|rfl|omega|(simp;done)) ?_|refine Rz.agg ?_ ?_|exact RzO.last rfl|(refine RzO.cons ?_ (.inr rfl) ?_)|exact Rz.same rfl (still_ints _)|exact Rz.same rfl (still_rows (fun _=>rfl) _)))) (Nat.zero_le _)
  have hln:=hln k hk.2
  have hnx:=hnx k hk.2
  have hbd2:=hbd2 k hk.2
  have hok:=hok k
  have hfin:¬(k:Int)<N→X N.toNat=X k:=fun h=>by rw [show N.toNat=k by omega]
  generalize hy:X k=y at hk hln hnx hbd2 hfin hok ⊢
  have hln:y.ms.length=k:=hln
  by_cases hlt:(k:Int)<N
  ·by_cases hb:(mbS p y.a x.L).1.c=0
   ·have hnx:=hnx hb
    clear hbd2 e2 e3 e4
    refine go (r:=?_);and_intros<;>intros<;>try exact True.intro
    all_goals first|contradiction|(rw [hnx];done)
   ·have hbd2:=hbd2 hb
    have e:=hbd2 N.toNat (by omega)
    rw [e2 (by rw [e];exact hb),e]
    clear hnx hbd2 e2 e3 e4
    refine go (r:=?_);and_intros<;>intros<;>try exact True.intro
    all_goals first|contradiction
  ·have hfin:=hfin hlt
   have hc2:(X N.toNat).c=0:=by rw [hfin];exact hk.2
   by_cases he:endC p y.a=0
   ·rw [e4 hc2 (by rw [hfin];exact he),hfin]
    clear e2 e3 e4 hnx hbd2
    refine go (r:=?_);and_intros<;>intros<;>try exact True.intro
    all_goals first|contradiction|exact hok
   ·rw [e3 hc2 (by rw [hfin];exact he),hfin]
    clear e2 e3 e4 hnx hbd2
    refine go (r:=?_);and_intros<;>intros<;>try exact True.intro
    all_goals first|contradiction|exact hok
 ·rw [prS_1 hc]
  refine goR (r:=?_);and_intros<;>intros<;>try exact True.intro
  refine WpA.weak (σ':=⟨[(2,.ptr 0 0 0),(5,.ptr 2 0 0),(7,I (hdS p 0).c)],[⟨[I 0,I 0,I 0,B false,B false,.nilS,.nilS],0,0,none⟩,XI (hdS p 0).L,⟨[Z p,I (hdS p 0).a],0,0,none⟩]⟩) (Weak.mk (by repeat (first|exact ReT.nil|refine ReT.cons (.keep rfl rfl .nil) ?_|refine ReT.cons (.own rfl rfl rfl rfl rfl rfl .nil) ?_|refine ReT.cons (.ptr rfl rfl rfl rfl .nil) ?_|refine ReT.cons (.keep (congrArg (fun z=>AV.sc (Value.int .i64 z)) (by first|omega|(skip))) rfl .nil) ?_|refine ReT.cons (.keep (congrArg (fun z:List UInt8=>AV.sc (Value.string ⟨z.toArray⟩)) (by skip)) rfl .nil) ?_|refine ReT.cons (.own rfl rfl rfl rfl rfl (by first|omega|(simp;done)|(simp;omega)) .nil) ?_)) (by repeat (first|exact ReO.nil|refine ReO.cons (Re.same rfl (still_ints _)) (by simp) ?_|refine ReO.cons (Re.same rfl rfl) (by simp) ?_)) (Nat.zero_le _)) ?_
  refine go (r:=?_);and_intros<;>intros<;>try exact True.intro
  all_goals first|contradiction⟩
end
end Go.Proofs.YtndflfipaddfoaaGreat
