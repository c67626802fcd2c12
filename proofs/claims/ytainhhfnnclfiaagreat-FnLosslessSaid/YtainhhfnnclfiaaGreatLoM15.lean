/- Proved in this text: lemmas and contracts of functions that the claim uses (parts: Rd, RdS, Fld, RdH, RdHs, Enc, AbsFz, Bits, BitsM). No condition. -/
import Derived.Test.YtainhhfnnclfiaaGreatLoM14
import Derived.Test.YtainhhfnnclfiaaGreatLoM9
import Derived.Test.YtainhhfnnclfiaaGreatLoM11
import Derived.Test.YtainhhfnnclfiaaGreatLoM13
set_option linter.unusedVariables false
set_option linter.unusedSimpArgs false
set_option maxRecDepth 100000
set_option maxHeartbeats 16000000


namespace Go.Proofs.YtainhhfnnclfiaaGreat
open Go Go.Abs
attribute [local irreducible] WpA WpL Rnd Blk Abs.Seq Abs.Fin Abs.FinG FnC FnG Only
theorem shr8_in (x:UInt8) (k:Nat):IntKind.i64.wrap ((x.toNat:Int)/2 ^ k)=(x.toNat:Int)/2 ^ k:=by
 have h1:(x.toNat:Int)/2 ^ k≤x.toNat:=Int.ediv_le_self _ (by omega)
 have h2:0≤(x.toNat:Int)/2 ^ k:=Int.ediv_nonneg (by omega) (Int.pow_nonneg (by decide))
 have:=x.toNat_lt
 exact wrap64 _ (by omega)
instance BitAt_c:Con 268 (∀ (p:List UInt8) (i:Int),p.length≤1099511627776→Fn 268 [Z p,I i] [] (I (btA p i))):=⟨fun p i hl=>by
 refine FnC.of_body tabOk Tryz.func268 Tryz.ntmps268 rfl (by decide +kernel) (by simp) fun G=>?_
 refine go (r:=?_);and_intros<;>intros<;>try exact True.intro
 ·rw [btA,if_pos (by omega)]
 ·rw [btA,if_pos (by omega)]
 ·rw [btA,if_neg (by omega),bit1,shr8_in]⟩
abbrev RA (p:List UInt8) (s:Int):AV:=.agg [Z p,I s]
theorem or1 (x b:Int) (h:0≤x∧x<2 ^ 61) (hb:0≤b∧b≤1):IntKind.i64.wrap ((BitVec.ofInt IntKind.i64.bits (IntKind.i64.wrap (x*2 ^ Int.toNat 1)) ||| BitVec.ofInt IntKind.i64.bits b).toNat:Nat)=x*2+b:=by
 have e0:x*2 ^ Int.toNat 1=x*2:=rfl
 rw [e0,wrap64 (x*2) (by omega)]
 obtain ⟨a,rfl⟩:∃a:Nat,x=a:=⟨x.toNat,by omega⟩
 obtain ⟨c,rfl⟩:∃c:Nat,b=c:=⟨b.toNat,by omega⟩
 have h1:(BitVec.ofInt IntKind.i64.bits ((a:Int)*2)).toNat=2*a:=by simp only [IntKind.bits,BitVec.toNat_ofInt];omega
 have h2:(BitVec.ofInt IntKind.i64.bits (c:Int)).toNat=c:=by simp only [IntKind.bits,BitVec.toNat_ofInt];omega
 rw [BitVec.toNat_or,h1,h2]
 have h3:=Nat.two_pow_add_eq_or_of_lt (i:=1) (b:=c) (by omega) a
 rw [show 2*a=2 ^ 1*a by omega,←h3,wrap64 _ (by omega)]
 omega
instance bits_c:Con 215 (∀ (p:List UInt8) (s n:Int),p.length≤1099511627776∧(-1125899906842624≤s∧s≤1125899906842624)∧0≤n∧n≤56→Fn 215 [Z p,I s,I n] [] (I (numB p s n.toNat))):=⟨fun p s n hl=>by
 obtain ⟨N,rfl⟩:∃N:Nat,n=N:=⟨n.toNat,by omega⟩
 refine FnC.of_body tabOk Tryz.func215 Tryz.ntmps215 rfl (by decide +kernel) (by simp) fun G=>?_
 refine go (r:=?_);and_intros<;>intros<;>try exact True.intro
 refine WpA.loop (fun k:Nat=>⟨[(0,Z p),(1,I s),(7,I (numB p s k)),(9,I N),(10,I k)],[]⟩) (fun k=>k≤N) (fun k=>N-k) 0 (by omega) (go (r:=?_)) (fun k hk=>?_)
 ·trivial
 have hb:=numB_bd p s k
 have hb2:=numB_le p s (k:=k) (j:=60) (by omega)
 have h1:=or1 (numB p s k) (max (btA p (s+k)) 0) (by omega) (bv_bd p (s+k))
 have h2:numB p s (k+1)=numB p s k*2+max (btA p (s+k)) 0:=rfl
 refine go (r:=?_);and_intros<;>intros<;>try exact True.intro
 all_goals first|(rw [h2,←h1];done)|(have e:k=N:=by omega);(first|(rw [e,Int.toNat_natCast];done)|(subst e;rfl))⟩
abbrev BoxR (p:List UInt8) (s:Int):AObj:=⟨[Z p,I s],0,0,none⟩
instance ReaderOk_c:Con 265 (∀ (p:List UInt8) (s:Int),p.length≤1099511627776→Fn 265 [RA p s] [] (B (decide (RdOk p s)))):=⟨fun p s hl=>by
 refine FnC.of_body tabOk Tryz.func265 Tryz.ntmps265 rfl (by decide +kernel) (by simp) fun G=>?_
 refine go (r:=?_);and_intros<;>intros<;>try exact True.intro⟩
instance Left_c:Con 214 (∀ (p:List UInt8) (s:Int),p.length≤1099511627776→Fn 214 [RA p s] [] (I (lft p s))):=⟨fun p s hl=>by
 refine FnC.of_body tabOk Tryz.func214 Tryz.ntmps214 rfl (by decide +kernel) (by simp) fun G=>?_
 refine go (r:=?_);and_intros<;>intros<;>try exact True.intro
 all_goals first|(rw [lft_no (by assumption)];done)|(rw [lft_ok (by assumption)];done)⟩
instance ReadBits_c:Con 212 (∀ (p:List UInt8) (s n:Int),p.length≤1099511627776→Fn 212 [RA p s,I n] [] (.tup [RA p (rbA p s n),I (rbV p s n),B (decide (RbOk p s n))])):=⟨fun p s n hl=>by
 have hb:=lft_bd p s
 refine FnC.of_body tabOk Tryz.func212 Tryz.ntmps212 rfl (by decide +kernel) (by simp) fun G=>?_
 by_cases hok:RbOk p s n
 ·obtain ⟨e1,e2⟩:=rb_yes hok
  obtain ⟨h1,h2,h3⟩:=id hok
  refine go (r:=?_);and_intros<;>intros<;>try exact True.intro
  all_goals first|(exact absurd (by assumption) (by assumption))|(rw [e1];done)|(rw [e2];done)|(simp [hok];done)|(exfalso;omega)
 ·obtain ⟨e1,e2⟩:=rb_no hok
  refine go (r:=?_);and_intros<;>intros<;>try exact True.intro
  all_goals first|(exact absurd ⟨by assumption,by assumption,by omega⟩ hok)|(rw [e1];done)|(rw [e2];done)|(simp [hok];done)⟩
instance ZerosAhead_c:Con 290 (∀ (p:List UInt8) (s:Int),p.length≤1099511627776→Fn 290 [RA p s] [] (I (zrs p s))):=⟨fun p s hl=>by
 have hb:=lft_bd p s
 refine FnC.of_body tabOk Tryz.func290 Tryz.ntmps290 rfl (by decide +kernel) (by simp) fun G=>?_
 by_cases hok:RdOk p s
 ·have hlo:=lft_ok hok
  refine go (r:=?_);and_intros<;>intros<;>try exact True.intro
  all_goals first|(exact absurd hok (by assumption))|skip
  refine WpA.loop (fun k:Nat=>⟨[(1,.ptr 0 0 0),(3,I k)],[BoxR p s]⟩) (fun k=>(k:Int)≤lft p s∧∀j<k,btA p (s+(j:Nat))=0) (fun k=>(lft p s).toNat-k) 0 ⟨by omega,fun j hj=>by omega⟩ (go (r:=?_)) (fun k hk=>?_)
  ·trivial
  have hbo:=btA_out p (s+k)
  have hz:=fun h3=>zrs_eq hk.1 hk.2 h3
  refine go (r:=?_);and_intros<;>intros<;>try exact True.intro
  all_goals first|(rename_i h1 j hj;rcases Nat.lt_succ_iff_lt_or_eq.1 hj with h|h;(exact hk.2 j h);(subst h;assumption))|(rw [hz (.inr (by assumption))];done)
 ·have hz:zrs p s=0:=by have:=zrs_le p s;rw [lft_no hok] at this;omega
  refine go (r:=?_);and_intros<;>intros<;>try exact True.intro
  all_goals first|(exact absurd (by assumption) hok)|(rw [hz];done)|(rw [hz];rfl)⟩
instance ReadUe_c:Con 264 (∀ (p:List UInt8) (s:Int),p.length≤1099511627776→Fn 264 [RA p s] [] (.tup [RA p (ueA p s),I (ueV p s),I (ueC p s)])):=⟨fun p s hl=>by
 have hb:=lft_bd p s
 have hz:=zrs_le p s
 have hv:=rbV_bd p s (2*(zrs p s:Int)+1)
 refine FnC.of_body tabOk Tryz.func264 Tryz.ntmps264 rfl (by decide +kernel) (by simp) fun G=>?_
 by_cases h15:zrs p s≤15
 ·by_cases hok:RbOk p s (2*(zrs p s:Int)+1)
  ·obtain ⟨e1,e2,e3⟩:=ue_yes h15 hok
   obtain ⟨e4,e5⟩:=rb_yes hok
   refine go (r:=?_);and_intros<;>intros<;>try exact True.intro
   all_goals first|(exact absurd hok (by assumption))|(exfalso;omega)|(rw [e1,e4];done)|(rw [e3,e5];done)|(rw [e2];done)
  ·obtain ⟨e1,e2,e3⟩:=ue_short h15 hok
   refine go (r:=?_);and_intros<;>intros<;>try exact True.intro
   all_goals first|(exact absurd (by assumption) hok)|(exfalso;omega)|(rw [e1];done)|(rw [e3];done)|(rw [e2];done)
 ·obtain ⟨e1,e2,e3⟩:=ue_code (s:=s) (p:=p) h15
  refine go (r:=?_);and_intros<;>intros<;>try exact True.intro
  all_goals first|(exfalso;omega)|(rw [e1];done)|(rw [e3];done)|(rw [e2];done)⟩
instance LevelOf_c:Con 294 (∀ n:Int,-4611686018427387904≤n∧n≤4611686018427387904→Fn 294 [I n] [] (I (lvOf n))):=⟨fun n h=>by
 refine FnC.of_body tabOk Tryz.func294 Tryz.ntmps294 rfl (by decide +kernel) (by simp) fun G=>?_
 refine go (r:=?_);and_intros<;>intros<;>try exact True.intro
 ·rw [lvOf,if_pos (by assumption)]
 ·rw [lvOf,if_neg (by omega),if_pos (by assumption)]
 ·rw [lvOf,if_neg (by omega),if_neg (by assumption)];omega⟩
end Go.Proofs.YtainhhfnnclfiaaGreat


namespace Go.Proofs.YtainhhfnnclfiaaGreat
open Go Go.Abs
attribute [local irreducible] WpA WpL Rnd Blk Abs.Seq Abs.Fin Abs.FinG FnC FnG Only
abbrev R0:AObj:=⟨[Z [],I 0],0,0,none⟩
instance ReadSym_c:Con 266 (∀ (p:List UInt8) (s:Int) (l:List Int),p.length≤1099511627776∧l.length≤1099511627776→Fn 266 [RA p s,IL l] [] (.tup [RA p (smA p s l),I (smV p s l),I (smC p s l)])):=⟨fun p s l hl=>by
 have hb:=lft_bd p s
 refine FnC.of_body tabOk Tryz.func266 Tryz.ntmps266 rfl (by decide +kernel) (by simp) fun G=>?_
 by_cases hok:CodeOk l
 ·have h6:=hok.2.1
  have hcr:=codesR_ok l hok
  have hcl:=codes_len l
  have hcn:=codesR_len l hok
  refine go (r:=?_);and_intros<;>intros<;>try exact True.intro
  all_goals first|(exact absurd hok (by assumption))|skip
  refine WpA.loop (fun k:Nat=>⟨[(2,.ptr 0 0 0),(4,.ptr 1 0 0),(7,.own 2 0 0 6),(18,IL l),(19,I l.length),(20,I k)],[BoxR p s,R0,XI (codes l)]⟩) (fun k=>k≤6∧∀m<k,¬SymAt p s l m) (fun k=>6-k) 0 ⟨by omega,fun j hj=>by omega⟩ (go (r:=?_)) (fun k hk=>?_)
  ·trivial
  have hcb:=code_in hok (m:=k)
  have hy:=fun h=>rb_yes (p:=p) (s:=s) (n:=l.getD k 0) h
  refine go (r:=?_);and_intros<;>intros<;>try exact True.intro
  all_goals first
   |(have hsy:SymAt p s l k:=⟨by omega,by assumption,by rw [←(hy (by assumption)).2];simpa using ‹rbV p s (l.getD k 0)=_›⟩
     obtain ⟨e1,e2,e3⟩:=sm_yes hok (by omega) hsy
     first|(rw [e1,(hy hsy.2.1).1];done)|(rw [e2];done)|(rw [e3];done))
   |(rename_i j hj hs
     rcases Nat.lt_succ_iff_lt_or_eq.1 hj with h|h
     ·exact hk.2 j h hs
     ·subst h
      obtain ⟨a,b,c⟩:=hs
      first|omega|exact absurd b (by assumption)|(have hv:=(hy b).2;rw [c] at hv;rw [Int.toNat_natCast] at *;exact absurd hv (by assumption)))
   |(obtain ⟨e1,e2,e3⟩:=sm_none hok (fun m hm=>hk.2 m (by omega))
     first|(rw [e1];done)|(rw [e2];done)|(rw [e3];done))
 ·obtain ⟨e1,e2,e3⟩:=sm_bad (p:=p) (s:=s) hok
  have hcr:=codesR_no l hok
  refine go (r:=?_);and_intros<;>intros<;>try exact True.intro
  all_goals first|(exact absurd (by assumption) hok)|(rw [e1];done)|(rw [e2];done)|(rw [e3];done)⟩
theorem _root_.Go.Abs.WpA.regionMB0 {P:Program} {n m:Nat} {G:Ctx} {T0:List (Nat×AV)} {O:List AObj} {l l1 l2:List Oper} {id:Nat} {out T1:List (Nat×AV)} {Q:Exit→St→Prop} (k:Nat) (hm:P.follows .mixedOrders=true) (hB:mixB l.toArray k=true)
 (hl:takeF k l=some l1) (hJ:HeadJ P n m G l.toArray T0 O [] l1 out) (hnd:TrueB (nodupB (out.map (·.1)))) (hfr:TrueB (out.all fun p=>!has T0 p.1))
 (hT1:catF out T0=some T1) (h2:l.drop k=l2) (h:WpL P n m G false l.toArray l2 ⟨T1,O⟩ Q):WpA P n m G (.region id l.toArray true) ⟨T0,O⟩ Q:=by
 have:=takeF_eq hl;subst this;subst h2
 exact WpA.regionM k hm hB hJ hnd.e hfr.e (catF_eq hT1) h
theorem end0 {p:List UInt8} {s:Int} (h:lft p s=0):endC p s=1:=by rw [endC,if_pos h]
instance StopOk_c:Con 143 (∀ (p:List UInt8) (s:Int),p.length≤1099511627776∧RdOk p s→Fn 143 [RA p s] [] (I (endC p s))):=⟨fun p s hl=>by
 have hb:=lft_bd p s
 obtain ⟨hl,h1,h2⟩:=hl
 refine FnC.of_body tabOk Tryz.func143 Tryz.ntmps143 rfl (by decide +kernel) (by simp) fun G=>?_
 refine goR (r:=?_);and_intros<;>intros<;>try exact True.intro
 ·rw [end0 (by assumption)]
 rename_i h0
 by_cases h8:lft p s≤8
 ·apply WpA.regionMB0 14 mixed (by decide +kernel)
  ·exact rfl
  ·skip
   apply HeadJ.consF rfl
   ·exact rfl
   ·exact in0
   ·exact rfl
   apply HeadJ.consF (V:=B true) rfl
   ·exact rfl
   ·intro Tv
    refine K.L ?_
    refine K.bin ?_
    refine WpL.bin rfl rfl rfl (by decide) ?_
    exact WpL.nil (Only.mk (by rw [decide_eq_true h8]))
   ·exact rfl
   apply HeadJ.consF rfl
   ·exact rfl
   ·exact in0
   ·exact rfl
   apply HeadJ.consF rfl
   ·exact rfl
   ·(intro Tv;refine K.L ?_;refine K.gd ?_;refine K.gT rfl (by decide) rfl ?_;exact in0)
   ·exact rfl
   apply HeadJ.consF rfl
   ·exact rfl
   ·(intro Tv;refine K.L ?_;refine K.gd ?_;refine K.gT rfl (by decide) rfl ?_;exact in0)
   ·exact rfl
   apply HeadJ.consF rfl
   ·exact rfl
   ·(intro Tv;refine K.L ?_;refine K.gd ?_;refine K.gT rfl (by decide) rfl ?_;exact in0)
   ·exact rfl
   apply HeadJ.consF rfl
   ·exact rfl
   ·(intro Tv;refine K.L ?_;refine K.gd ?_;refine K.gT rfl (by decide) rfl ?_;exact in0)
   ·exact rfl
   apply HeadJ.consF rfl
   ·exact rfl
   ·(intro Tv;refine K.L ?_;refine K.gd ?_;refine K.gT rfl (by decide) rfl ?_;exact in0)
   ·exact rfl
   apply HeadJ.consF rfl
   ·exact rfl
   ·(intro Tv;refine K.L ?_;refine K.gd ?_;refine K.gT rfl (by decide) rfl ?_;exact in0)
   ·exact rfl
   apply HeadJ.consF rfl
   ·exact rfl
   ·(intro Tv;refine K.L ?_;refine K.gd ?_;refine K.gT rfl (by decide) rfl ?_;exact in0)
   ·exact rfl
   apply HeadJ.consF rfl
   ·exact rfl
   ·(intro Tv;refine K.L ?_;refine K.gd ?_;refine K.gT rfl (by decide) rfl ?_;exact in0)
   ·exact rfl
   apply HeadJ.consF rfl
   ·exact rfl
   ·(intro Tv;refine K.L ?_;refine K.gd ?_;refine K.gT rfl (by decide) rfl ?_;exact in0)
   ·exact rfl
   apply HeadJ.consF rfl
   ·exact rfl
   ·(intro Tv;refine K.L ?_;refine K.gd ?_;refine K.gT rfl (by decide) rfl ?_;exact in0)
   ·exact rfl
   apply HeadJ.consF rfl
   ·exact rfl
   ·exact in0
   ·exact rfl
   exact HeadJ.nil
  ·exact trueA
  ·exact trueA
  ·exact rfl
  ·exact rfl
  have hw1:IntKind.i64.wrap (1*2 ^ (lft p s-1).toNat)=2 ^ (lft p s-1).toNat:=by
   have e:((1:Int)*2 ^ (lft p s-1).toNat)=2 ^ (lft p s-1).toNat:=Int.one_mul _
   have h4:(2:Int) ^ (lft p s-1).toNat≤2 ^ 8:=by exact_mod_cast Nat.pow_le_pow_right (by decide) (by omega)
   have h5:(0:Int)<2 ^ (lft p s-1).toNat:=by exact_mod_cast Nat.pow_pos (by decide)
   rw [e];exact wrap64 _ (by omega)
  refine go (r:=?_);and_intros<;>intros<;>try exact True.intro
  ·rename_i hn
   rw [hw1] at hn
   rw [endC,if_neg h0,if_pos ⟨h8,hn⟩]
  ·rename_i hn
   rw [hw1] at hn
   rw [endC,if_neg h0,if_neg fun h=>hn h.2]
 ·apply WpA.regionMB0 14 mixed (by decide +kernel)
  ·exact rfl
  ·skip
   apply HeadJ.consF rfl
   ·exact rfl
   ·exact in0
   ·exact rfl
   apply HeadJ.consF (V:=B false) rfl
   ·exact rfl
   ·intro Tv
    refine K.L ?_
    refine K.bin ?_
    refine WpL.bin rfl rfl rfl (by decide) ?_
    exact WpL.nil (Only.mk (by rw [decide_eq_false h8]))
   ·exact rfl
   apply HeadJ.consF rfl
   ·exact rfl
   ·exact in0
   ·exact rfl
   apply HeadJ.consF rfl
   ·exact rfl
   ·(intro Tv;refine K.L ?_;refine K.gd ?_;refine K.gF rfl (by decide) rfl ?_;exact WpL.nil (Only.mk rfl))
   ·exact rfl
   apply HeadJ.consF rfl
   ·exact rfl
   ·(intro Tv;refine K.L ?_;refine K.gd ?_;refine K.gF rfl (by decide) rfl ?_;exact WpL.nil (Only.mk rfl))
   ·exact rfl
   apply HeadJ.consF rfl
   ·exact rfl
   ·(intro Tv;refine K.L ?_;refine K.gd ?_;refine K.gF rfl (by decide) rfl ?_;exact WpL.nil (Only.mk rfl))
   ·exact rfl
   apply HeadJ.consF rfl
   ·exact rfl
   ·(intro Tv;refine K.L ?_;refine K.gd ?_;refine K.gF rfl (by decide) rfl ?_;exact WpL.nil (Only.mk rfl))
   ·exact rfl
   apply HeadJ.consF rfl
   ·exact rfl
   ·(intro Tv;refine K.L ?_;refine K.gd ?_;refine K.gF rfl (by decide) rfl ?_;exact WpL.nil (Only.mk rfl))
   ·exact rfl
   apply HeadJ.consF rfl
   ·exact rfl
   ·(intro Tv;refine K.L ?_;refine K.gd ?_;refine K.gF rfl (by decide) rfl ?_;exact WpL.nil (Only.mk rfl))
   ·exact rfl
   apply HeadJ.consF rfl
   ·exact rfl
   ·(intro Tv;refine K.L ?_;refine K.gd ?_;refine K.gF rfl (by decide) rfl ?_;exact WpL.nil (Only.mk rfl))
   ·exact rfl
   apply HeadJ.consF rfl
   ·exact rfl
   ·(intro Tv;refine K.L ?_;refine K.gd ?_;refine K.gF rfl (by decide) rfl ?_;exact WpL.nil (Only.mk rfl))
   ·exact rfl
   apply HeadJ.consF rfl
   ·exact rfl
   ·(intro Tv;refine K.L ?_;refine K.gd ?_;refine K.gF rfl (by decide) rfl ?_;exact WpL.nil (Only.mk rfl))
   ·exact rfl
   apply HeadJ.consF rfl
   ·exact rfl
   ·(intro Tv;refine K.L ?_;refine K.gd ?_;refine K.gF rfl (by decide) rfl ?_;exact WpL.nil (Only.mk rfl))
   ·exact rfl
   apply HeadJ.consF rfl
   ·exact rfl
   ·exact in0
   ·exact rfl
   exact HeadJ.nil
  ·exact trueA
  ·exact trueA
  ·exact rfl
  ·exact rfl
  refine go (r:=?_);and_intros<;>intros<;>try exact True.intro
  rw [endC,if_neg h0,if_neg fun h=>h8 h.1]⟩
end Go.Proofs.YtainhhfnnclfiaaGreat


namespace Go.Proofs.YtainhhfnnclfiaaGreat
open Go Go.Abs
attribute [local irreducible] WpA WpL Rnd Blk Abs.Seq Abs.Fin Abs.FinG FnC FnG Only
instance unless_c:Con 205 (∀ (b:Bool) (c:Int),Fn 205 [B b,I c] [] (I (bif b then 0 else c))):=⟨fun b c=>by
 cases b
 ·refine FnC.of_body tabOk Tryz.func205 Tryz.ntmps205 rfl (by decide +kernel) (by simp) fun G=>?_
  refine go (r:=?_);and_intros<;>intros<;>try exact True.intro
  all_goals rfl
 ·refine FnC.of_body tabOk Tryz.func205 Tryz.ntmps205 rfl (by decide +kernel) (by simp) fun G=>?_
  refine go (r:=?_);and_intros<;>intros<;>try exact True.intro
  all_goals rfl⟩
instance levels1_c:Con 291 (∀ x:Int,Fn 291 [I x] [] (I 0)):=⟨fun x=>by
 refine FnC.of_body tabOk Tryz.func291 Tryz.ntmps291 rfl (by decide +kernel) (by simp) fun G=>?_
 refine go (r:=?_);and_intros<;>intros<;>try exact True.intro⟩
instance levels2_c:Con 292 (∀ x n:Int,0≤n∧n≤8→Fn 292 [I x,.iptr [I n] 0] [] (I (ifE (x<n*n) 5))):=⟨fun x n h=>by
 have hnn:=mul_in (a:=n) (b:=n) (by omega) (by omega)
 refine FnC.of_body tabOk Tryz.func292 Tryz.ntmps292 rfl (by decide +kernel) (by simp) fun G=>?_
 refine go (r:=?_);and_intros<;>intros<;>try exact True.intro⟩
instance levels3_c:Con 293 (∀ x n t:Int,(0≤n∧n≤8)∧0≤t∧t≤1099511627776→Fn 293 [I x,.iptr [I n] 0,.iptr [I t] 0] [] (I (ifE (x<n*n-t) 5))):=⟨fun x n t h=>by
 have hnn:0≤n*n∧n*n≤64:=⟨Int.mul_nonneg h.1.1 h.1.1,by have:=Int.mul_le_mul h.1.2 h.1.2 h.1.1 (by decide);omega⟩
 have hn2:=mul_in (a:=n) (b:=n) (by omega) (by omega)
 refine FnC.of_body tabOk Tryz.func293 Tryz.ntmps293 rfl (by decide +kernel) (by simp) fun G=>?_
 refine go (r:=?_);and_intros<;>intros<;>try exact True.intro⟩
instance levels4_c:Con 295 (∀ x:Int,-4611686018427387904≤x∧x≤4611686018427387904→Fn 295 [I x] [] (I (ifE (-16383≤lvOf x∧lvOf x≤16383) 5))):=⟨fun x h=>by
 refine FnC.of_body tabOk Tryz.func295 Tryz.ntmps295 rfl (by decide +kernel) (by simp) fun G=>?_
 refine go (r:=?_);and_intros<;>intros<;>try exact True.intro⟩
abbrev FldO (p:List UInt8) (s c:Int):AObj:=⟨[Z p,I s,I c],0,0,none⟩
abbrev Chk (g:Nat) (caps:List AV) (k:Int→Int):Prop:=caps.all AV.still=true∧caps.all AV.nofre=true∧∀x:Int,-1≤x∧x≤4294967296→Fn g (I x::caps) [] (I (k x))
abbrev ChkB (g:Nat) (caps:List AV) (k:Int→Int):Prop:=caps.all AV.still=true∧caps.all AV.nofre=true∧∀x:Int,0≤x∧x≤4294967296→Fn g (I x::caps) [] (I (k x))
theorem fbits_c (p:List UInt8) (s c n:Int) (g:Nat) (caps:List AV) (k:Int→Int) (hl:p.length≤1099511627776) (hk:ChkB g caps k):Gn 207 [.ptr 0 0 0,I n,.fn g caps] [FldO p s c] [FldO p (fbA p s c n k) (fbC p s c n k)] [] (I (fbV p s c n k)):=by
 obtain ⟨hc1,hc2,hg⟩:=hk
 have hv:=rbV_bd p s n
 refine FnG.of_bodyF tabOk Tryz.func207 Tryz.ntmps207 rfl (by decide +kernel) (by simp) rfl rfl fun G=>?_
 by_cases hc:c=0
 ·by_cases hok:RbOk p s n
  ·have e1:fbC p s c n k=k (rbV p s n):=by rw [fbC,if_pos hc,if_pos hok]
   refine go (r:=?_);and_intros<;>intros<;>try exact True.intro
   refine K.callT ?_
   refine WpL.callV0 rfl (hg (rbV p s n) ⟨by omega,by omega⟩) rfl (.keep rfl rfl (Snap.same rfl hc1 hc2)) (.sc .nil) rfl rfl (by decide) ?_
   by_cases hk0:k (rbV p s n)=0
   ·have e2:fbA p s c n k=rbA p s n:=by rw [fbA,if_pos ⟨hc,by rw [e1,hk0]⟩]
    have e3:fbV p s c n k=rbV p s n:=by rw [fbV,if_pos (by rw [e1,hk0])]
    refine go (r:=?_);and_intros<;>intros<;>try exact True.intro
    all_goals first|(exact absurd hk0 (by assumption))|(rw [e1];done)|(rw [e2];done)|(rw [e3];done)
   ·have e2:fbA p s c n k=s:=by rw [fbA,if_neg (by rw [e1];exact fun h=>hk0 h.2)]
    have e3:fbV p s c n k=0:=by rw [fbV,if_neg (by rw [e1];exact hk0)]
    refine go (r:=?_);and_intros<;>intros<;>try exact True.intro
    all_goals first|(exact absurd (by assumption) hk0)|(rw [e1];done)|(rw [e2];done)|(rw [e3];done)
  ·have e1:fbC p s c n k=1:=by rw [fbC,if_pos hc,if_neg hok]
   have e2:fbA p s c n k=s:=by rw [fbA,if_neg (by rw [e1];omega)]
   have e3:fbV p s c n k=0:=by rw [fbV,if_neg (by rw [e1];omega)]
   refine go (r:=?_);and_intros<;>intros<;>try exact True.intro
   all_goals first|(exact absurd (by assumption) hok)|(rw [e1];done)|(rw [e2];done)|(rw [e3];done)
 ·have e1:fbC p s c n k=c:=by rw [fbC,if_neg hc]
  have e2:fbA p s c n k=s:=by rw [fbA,if_neg (by omega)]
  have e3:fbV p s c n k=0:=by rw [fbV,if_neg (by rw [e1];omega)]
  refine go (r:=?_);and_intros<;>intros<;>try exact True.intro
  all_goals first|(exact absurd (by assumption) hc)|(rw [e1];done)|(rw [e2];done)|(rw [e3];done)
theorem ueV_bd (p:List UInt8) (s:Int):-1≤ueV p s∧ueV p s≤4294967296:=by
 have h:=rbV_bd p s (2*(zrs p s:Int)+1)
 unfold ueV;split<;>omega
theorem fue_c (p:List UInt8) (s c:Int) (g:Nat) (caps:List AV) (k:Int→Int) (hl:p.length≤1099511627776) (hk:Chk g caps k):Gn 209 [.ptr 0 0 0,.fn g caps] [FldO p s c] [FldO p (fuA p s c k) (fuC p s c k)] [] (I (fuV p s c k)):=by
 obtain ⟨hc1,hc2,hg⟩:=hk
 have hv:=ueV_bd p s
 refine FnG.of_bodyF tabOk Tryz.func209 Tryz.ntmps209 rfl (by decide +kernel) (by simp) rfl rfl fun G=>?_
 by_cases hc:c=0
 ·by_cases hok:ueC p s=0
  ·have e1:fuC p s c k=k (ueV p s):=by rw [fuC,if_pos hc,if_pos hok]
   refine go (r:=?_);and_intros<;>intros<;>try exact True.intro
   all_goals first|(exact absurd hok (by assumption))|skip
   refine K.callT ?_
   refine WpL.callV0 rfl (hg (ueV p s) hv) rfl (.keep rfl rfl (Snap.same rfl hc1 hc2)) (.sc .nil) rfl rfl (by decide) ?_
   by_cases hk0:k (ueV p s)=0
   ·have e2:fuA p s c k=ueA p s:=by rw [fuA,if_pos (by rw [e1,hk0])]
    have e3:fuV p s c k=ueV p s:=by rw [fuV,if_pos (by rw [e1,hk0])]
    refine go (r:=?_);and_intros<;>intros<;>try exact True.intro
    all_goals first|(exact absurd hk0 (by assumption))|(rw [e1];done)|(rw [e2];done)|(rw [e3];done)
   ·have e2:fuA p s c k=s:=by rw [fuA,if_neg (by rw [e1];exact hk0)]
    have e3:fuV p s c k=0:=by rw [fuV,if_neg (by rw [e1];exact hk0)]
    refine go (r:=?_);and_intros<;>intros<;>try exact True.intro
    all_goals first|(exact absurd (by assumption) hk0)|(rw [e1];done)|(rw [e2];done)|(rw [e3];done)
  ·have e1:fuC p s c k=ueC p s:=by rw [fuC,if_pos hc,if_neg hok]
   have e2:fuA p s c k=s:=by rw [fuA,if_neg (by rw [e1];exact hok)]
   have e3:fuV p s c k=0:=by rw [fuV,if_neg (by rw [e1];exact hok)]
   refine go (r:=?_);and_intros<;>intros<;>try exact True.intro
   all_goals first|(exact absurd (by assumption) hok)|(rw [e1];done)|(rw [e2];done)|(rw [e3];done)
 ·have e1:fuC p s c k=c:=by rw [fuC,if_neg hc]
  have e2:fuA p s c k=s:=by rw [fuA,if_neg (by rw [e1];exact hc)]
  have e3:fuV p s c k=0:=by rw [fuV,if_neg (by rw [e1];exact hc)]
  refine go (r:=?_);and_intros<;>intros<;>try exact True.intro
  all_goals first|(exact absurd (by assumption) hc)|(rw [e1];done)|(rw [e2];done)|(rw [e3];done)
instance rh1_c:Con 203 (∀ x:Int,Fn 203 [I x] [] (I 0)):=⟨fun x=>by
 refine FnC.of_body tabOk Tryz.func203 Tryz.ntmps203 rfl (by decide +kernel) (by simp) fun G=>?_
 refine go (r:=?_);and_intros<;>intros<;>try exact True.intro⟩
instance rh2_c:Con 204 (∀ x:Int,Fn 204 [I x] [] (I (ifE (x≤3) 3))):=⟨fun x=>by
 refine FnC.of_body tabOk Tryz.func204 Tryz.ntmps204 rfl (by decide +kernel) (by simp) fun G=>?_
 refine go (r:=?_);and_intros<;>intros<;>try exact True.intro⟩
instance rh4_c:Con 208 (∀ x:Int,Fn 208 [I x] [] (I (ifE (x=183) 2))):=⟨fun x=>by
 refine FnC.of_body tabOk Tryz.func208 Tryz.ntmps208 rfl (by decide +kernel) (by simp) fun G=>?_
 refine go (r:=?_);and_intros<;>intros<;>try exact True.intro⟩
instance rh5_c:Con 210 (∀ x:Int,Fn 210 [I x] [] (I (ifE (x≤51) 3))):=⟨fun x=>by
 refine FnC.of_body tabOk Tryz.func210 Tryz.ntmps210 rfl (by decide +kernel) (by simp) fun G=>?_
 refine go (r:=?_);and_intros<;>intros<;>try exact True.intro⟩
theorem and7 (a:Int) (h:0≤a∧a≤4611686018427387904):IntKind.i64.wrap ((BitVec.ofInt IntKind.i64.bits a &&& BitVec.ofInt IntKind.i64.bits 7).toNat:Nat)=a%8:=by
 obtain ⟨x,rfl⟩:∃x:Nat,a=x:=⟨a.toNat,by omega⟩
 have h1:(BitVec.ofInt IntKind.i64.bits (x:Int)).toNat=x:=by simp only [IntKind.bits,BitVec.toNat_ofInt];omega
 have h2:(BitVec.ofInt IntKind.i64.bits (7:Int)).toNat=2 ^ 3-1:=by decide
 rw [BitVec.toNat_and,h1,h2,Nat.and_two_pow_sub_one_eq_mod,wrap64 _ (by omega)]
 omega
def lensK (v:Int) (k:Nat):List Int:=(List.range k).map fun j=>lenAt v (5-j)
theorem lensK_6 (v:Int):lensK v 6=lensV v:=rfl
theorem lensK_succ (v:Int) (k:Nat):lensK v (k+1)=lensK v k++[lenAt v (5-k)]:=by simp [lensK,List.range_succ]
theorem lensK_len (v:Int) (k:Nat):(lensK v k).length=k:=by simp [lensK]
instance rh3_c:Con 206 (∀ x:Int,0≤x∧x≤4294967296→Fn 206 [I x] [XI (lensV x)] (.own 0 0 0 6)):=⟨fun x hx=>by
 refine FnC.of_body tabOk Tryz.func206 Tryz.ntmps206 rfl (by decide +kernel) (by simp) fun G=>?_
 refine go (r:=?_);and_intros<;>intros<;>try exact True.intro
 refine WpA.loop (fun k:Nat=>⟨[(0,I x),(3,.own 0 0 0 k),(4,I (5-(k:Int)))],[XI (lensK x k)]⟩) (fun k=>k≤6) (fun k=>6-k) 0 (by omega) (go (r:=?_)) (fun k hk=>?_)
 ·simp [lensK]
 have hkl:=lensK_len x k
 have hks:=lensK_succ x k
 have hd0:=Int.ediv_nonneg (a:=x) (b:=2 ^ (3*(5-(k:Int))).toNat) hx.1 (Int.pow_nonneg (by decide))
 have hd1:=Int.ediv_le_self (a:=x) (2 ^ (3*(5-(k:Int))).toNat) hx.1
 have hla:lenAt x (5-k)=x/2 ^ (3*(5-k))%8:=rfl
 refine go (r:=?_);and_intros<;>intros<;>try exact True.intro
 ·rw [hks,and7 _ ⟨hd0,by omega⟩,hla,show (3*(5-(k:Int))).toNat=3*(5-k) by omega]
 ·rw [show k=6 by omega,lensK_6]⟩
instance rh6_c:Con 211 (∀ x:Int,0≤x∧x≤4294967296→Fn 211 [I x,.iptr [.fn 206 []] 0] [] (I (ifE (CodeOk (lensV x)) 4))):=⟨fun x hx=>by
 have hll:(lensV x).length=6:=rfl
 refine FnC.of_body tabOk Tryz.func211 Tryz.ntmps211 rfl (by decide +kernel) (by simp) fun G=>?_
 refine go (r:=?_);and_intros<;>intros<;>try exact True.intro⟩
end Go.Proofs.YtainhhfnnclfiaaGreat


namespace Go.Proofs.YtainhhfnnclfiaaGreat
open Go Go.Abs
attribute [local irreducible] WpA WpL Rnd Blk Abs.Seq Abs.Fin Abs.FinG FnC FnG Only
theorem fuV_bd (p:List UInt8) (s c:Int) (k:Int→Int):-1≤fuV p s c k∧fuV p s c k≤4294967296:=by
 have:=ueV_bd p s
 unfold fuV;split<;>omega
theorem fbV_bd (p:List UInt8) (s c n:Int) (k:Int→Int):0≤fbV p s c n k∧fbV p s c n k≤4294967296:=by
 have:=rbV_bd p s n
 unfold fbV;split<;>omega
abbrev HdV (x:HdS):AV:=.agg [I x.W,I x.H,I x.Q,B x.B,B x.D,.own 0 0 0 x.L.length]
instance ReadHeader_c:Con 141 (∀ (p:List UInt8) (s:Int),p.length≤1099511627776→Fn 141 [RA p s] [XI (hdS p s).L] (.tup [RA p (hdS p s).a,HdV (hdS p s),I (hdS p s).c])):=⟨fun p s hl=>by
 refine FnC.of_body tabOk Tryz.func141 Tryz.ntmps141 rfl (by decide +kernel) (by simp) fun G=>?_
 refine go (r:=?_);and_intros<;>intros<;>try exact True.intro
 refine K.call ?_
 refine WpL.callM (hs:=[3]) (fbits_c p s 0 8 208 [] hk1 hl ⟨rfl,rfl,fun x _=>rh4_c.ok x⟩) handA handOA rfl rfl (.cons rfl (.sc (.sc (.sc .nil))) .nil) outA rfl rfl rfl rfl (by decide) ?_
 have b1:=fbV_bd p s 0 8 hk1
 generalize hv1:fbV p s 0 8 hk1=v1 at b1 ⊢
 generalize ha1:fbA p s 0 8 hk1=a1
 generalize hc1:fbC p s 0 8 hk1=c1
 refine go (r:=?_);and_intros<;>intros<;>try exact True.intro
 refine K.call ?_
 refine WpL.callM (hs:=[3]) (fue_c p a1 c1 204 [] hk2 hl ⟨rfl,rfl,fun x _=>rh2_c.ok x⟩) handA handOA rfl rfl (.cons rfl (.sc (.sc (.sc .nil))) .nil) outA rfl rfl rfl rfl (by decide) ?_
 have b2:=fuV_bd p a1 c1 hk2
 generalize hv2:fuV p a1 c1 hk2=v2 at b2 ⊢
 generalize ha2:fuA p a1 c1 hk2=a2
 generalize hc2:fuC p a1 c1 hk2=c2
 refine go (r:=?_);and_intros<;>intros<;>try exact True.intro
 refine K.call ?_
 refine WpL.callM (hs:=[3]) (fue_c p a2 c2 204 [] hk2 hl ⟨rfl,rfl,fun x _=>rh2_c.ok x⟩) handA handOA rfl rfl (.cons rfl (.sc (.sc (.sc .nil))) .nil) outA rfl rfl rfl rfl (by decide) ?_
 have b3:=fuV_bd p a2 c2 hk2
 generalize hv3:fuV p a2 c2 hk2=v3 at b3 ⊢
 generalize ha3:fuA p a2 c2 hk2=a3
 generalize hc3:fuC p a2 c2 hk2=c3
 refine go (r:=?_);and_intros<;>intros<;>try exact True.intro
 refine K.call ?_
 refine WpL.callM (hs:=[3]) (fbits_c p a3 c3 6 210 [] hk3 hl ⟨rfl,rfl,fun x _=>rh5_c.ok x⟩) handA handOA rfl rfl (.cons rfl (.sc (.sc (.sc .nil))) .nil) outA rfl rfl rfl rfl (by decide) ?_
 have b4:=fbV_bd p a3 c3 6 hk3
 generalize hv4:fbV p a3 c3 6 hk3=v4 at b4 ⊢
 generalize ha4:fbA p a3 c3 6 hk3=a4
 generalize hc4:fbC p a3 c3 6 hk3=c4
 refine go (r:=?_);and_intros<;>intros<;>try exact True.intro
 refine K.call ?_
 refine WpL.callM (hs:=[3]) (fbits_c p a4 c4 2 203 [] hk4 hl ⟨rfl,rfl,fun x _=>rh1_c.ok x⟩) handA handOA rfl rfl (.cons rfl (.sc (.sc (.sc .nil))) .nil) outA rfl rfl rfl rfl (by decide) ?_
 have b5:=fbV_bd p a4 c4 2 hk4
 generalize hv5:fbV p a4 c4 2 hk4=v5 at b5 ⊢
 generalize ha5:fbA p a4 c4 2 hk4=a5
 generalize hc5:fbC p a4 c4 2 hk4=c5
 refine go (r:=?_);and_intros<;>intros<;>try exact True.intro
 refine K.call ?_
 refine WpL.callM (hs:=[3]) (fbits_c p a5 c5 18 211 [.iptr [.fn 206 []] 0] hk5 hl ⟨rfl,rfl,fun x h=>rh6_c.ok x h⟩) handA handOA rfl rfl (.cons rfl (.sc (.sc (.sc .nil))) .nil) outA rfl rfl rfl rfl (by decide) ?_
 have b6:=fbV_bd p a5 c5 18 hk5
 generalize hv6:fbV p a5 c5 18 hk5=v6 at b6 ⊢
 generalize ha6:fbA p a5 c5 18 hk5=a6
 generalize hc6:fbC p a5 c5 18 hk5=c6
 have hS:hdS p s=⟨a6,c6,v2,v3,v4,v5,v6⟩:=by simp only [hdS,ha1,hc1,ha2,hc2,ha3,hc3,ha4,hc4,ha5,hc5,ha6,hc6,hv2,hv3,hv4,hv5,hv6]
 rw [hS]
 clear hS ha1 hc1 ha2 hc2 ha3 hc3 ha4 hc4 ha5 hc5 ha6 hc6 hv1 hv2 hv3 hv4 hv5 hv6
 have hll:(lensV v6).length=6:=rfl
 by_cases h0:c6=0
 ·have eW:HdS.W ⟨a6,c6,v2,v3,v4,v5,v6⟩=8*(v2+1):=if_pos h0
  have eH:HdS.H ⟨a6,c6,v2,v3,v4,v5,v6⟩=8*(v3+1):=if_pos h0
  have eQ:HdS.Q ⟨a6,c6,v2,v3,v4,v5,v6⟩=v4:=if_pos h0
  have eL:HdS.L ⟨a6,c6,v2,v3,v4,v5,v6⟩=lensV v6:=if_pos h0
  have eB:HdS.B ⟨a6,c6,v2,v3,v4,v5,v6⟩=decide (v5≥2):=by unfold HdS.B;simp [h0]
  have eD:HdS.D ⟨a6,c6,v2,v3,v4,v5,v6⟩=decide (v5%2=1):=by unfold HdS.D;simp [h0]
  have eV:∀y:HdS,HdV y=.agg [I y.W,I y.H,I y.Q,B y.B,B y.D,.own 0 0 0 y.L.length]:=fun _=>rfl
  rw [eV,eL,eW,eH,eQ,eB,eD]
  refine go (r:=?_);and_intros<;>intros<;>try exact True.intro
 ·have eW:HdS.W ⟨a6,c6,v2,v3,v4,v5,v6⟩=0:=if_neg h0
  have eH:HdS.H ⟨a6,c6,v2,v3,v4,v5,v6⟩=0:=if_neg h0
  have eQ:HdS.Q ⟨a6,c6,v2,v3,v4,v5,v6⟩=0:=if_neg h0
  have eL:HdS.L ⟨a6,c6,v2,v3,v4,v5,v6⟩=[]:=if_neg h0
  have eB:HdS.B ⟨a6,c6,v2,v3,v4,v5,v6⟩=false:=by unfold HdS.B;simp [h0]
  have eD:HdS.D ⟨a6,c6,v2,v3,v4,v5,v6⟩=false:=by unfold HdS.D;simp [h0]
  have eV:∀y:HdS,HdV y=.agg [I y.W,I y.H,I y.Q,B y.B,B y.D,.own 0 0 0 y.L.length]:=fun _=>rfl
  rw [eV,eL,eW,eH,eQ,eB,eD]
  refine go (r:=?_);and_intros<;>intros<;>try exact True.intro⟩
end Go.Proofs.YtainhhfnnclfiaaGreat


namespace Go.Proofs.YtainhhfnnclfiaaGreat
open Go Go.Abs
attribute [local irreducible] WpA WpL Rnd Blk Abs.Seq Abs.Fin Abs.FinG FnC FnG Only
def sdV (p:List UInt8) (s:Int):Int:=if ueC p s=0∧ueV p s>3 then 0 else 8*ueV p s+8
def lnL (p:List UInt8) (s:Int):List Int:=if RbOk p s 18 then lensV (rbV p s 18) else []
theorem fb_yes {p:List UInt8} {s n:Int} {k:Int→Int} (h:RbOk p s n) (hv:k (rbV p s n)=0):fbC p s 0 n k=0∧fbA p s 0 n k=rbA p s n∧fbV p s 0 n k=rbV p s n:=by
 have e:fbC p s 0 n k=0:=by rw [fbC,if_pos rfl,if_pos h,hv]
 exact ⟨e,by rw [fbA,if_pos ⟨rfl,e⟩],by rw [fbV,if_pos e]⟩
attribute [local irreducible] rbA rbV ueA ueV ueC fuA fuC fuV fbA fbC fbV sdV lnL zrs numB lft hdS lensV
theorem WpA.hide {P:Program} {n m:Nat} {G:Ctx} {c:Code} {σ:St} {Q:Exit→St→Prop} (h:∀Q',Q'=Q→WpA P n m G c σ Q'):WpA P n m G c σ Q:=h Q rfl
end Go.Proofs.YtainhhfnnclfiaaGreat


namespace Go.Proofs.YtainhhfnnclfiaaGreat
open Go Go.Abs
attribute [local irreducible] WpA WpL Rnd Blk Abs.Seq Abs.Fin Abs.FinG FnC FnG Only
def mbG (b:Mbk):List AV:=[B b.1,.fre 2 b.2.length (rows blkI b.2)]
@[simp] theorem len_mG (l:List Mbk):(rows mbG l).length=l.length*2:=rows_len (f:=mbG) (fun _=>rfl) l
theorem snap_mG {O:List AObj} (b:Mbk):Snap O (mbG b) (mbI b):=.keep rfl rfl (.fre (Snap.same rfl (still_rows (fun _=>rfl) _) (nofre_rows (fun _=>rfl) _)) .nil)
theorem mG_at (M:List Mbk) (x y:AV):(rows mbG M++[x,y])[M.length*2+1]?=some y:=by
 rw [List.getElem?_append_right (by rw [len_mG];omega),len_mG,Nat.add_sub_cancel_left];rfl
theorem mG_set (M:List Mbk) (e:Bool) (y:AV) (bs:List Blok) {n:Nat} (h:bs.length=n):(rows mbG M++[B e,y]).set (M.length*2+1) (.fre 2 n (rows blkI bs))=rows mbG (M++[(e,bs)]):=by
 subst h
 rw [List.set_append_right _ _ (by rw [len_mG];omega),len_mG,Nat.add_sub_cancel_left,rows_append,rows_one];rfl
abbrev ChG (g:Nat) (cs:List AV) (ch:Chs):Prop:=∀(c:Nat) (k t l:List Int) (co:Int) (a b:Bool) (n:Int),c≤1048576∧k.length≤1024∧t.length≤1024∧l.length≤1024→Fn g [I c,IL k,NbA t l co a b,I n,.iptr cs 0] [] (I (ch c k t l co a b n))
def eiF (es:List Bool) (k:Nat):Bool:=if 0<es.length then es.getD (k%es.length) false else false
theorem eiF_1 {es:List Bool} (h:0<es.length) (k:Nat):eiF es k=es.getD (k%es.length) false:=if_pos h
theorem encB_snoc (a:EncA) (e:Bool) (k c:Nat) (P:List Int) (i:Nat):(encB a e k c P (i+1))=((encB a e k c P i).1++[(chM a.W a.H a.F a.ch (c+i) (encB a e k c P i).2 (plc1 a.W (sz8 e) k i).1 (plc1 a.W (sz8 e) k i).2.1 (sz8 e),
        chV a.W a.H a.F a.q a.b a.L (encB a e k c P i).2 (plc1 a.W (sz8 e) k i).1 (plc1 a.W (sz8 e) k i).2.1 (sz8 e) (chM a.W a.H a.F a.ch (c+i) (encB a e k c P i).2 (plc1 a.W (sz8 e) k i).1 (plc1 a.W (sz8 e) k i).2.1 (sz8 e)))],
 putL a.W a.H (encB a e k c P i).2 a.q a.b (plc1 a.W (sz8 e) k i).1 (plc1 a.W (sz8 e) k i).2.1 (chM a.W a.H a.F a.ch (c+i) (encB a e k c P i).2 (plc1 a.W (sz8 e) k i).1 (plc1 a.W (sz8 e) k i).2.1 (sz8 e))
  (chV a.W a.H a.F a.q a.b a.L (encB a e k c P i).2 (plc1 a.W (sz8 e) k i).1 (plc1 a.W (sz8 e) k i).2.1 (sz8 e) (chM a.W a.H a.F a.ch (c+i) (encB a e k c P i).2 (plc1 a.W (sz8 e) k i).1 (plc1 a.W (sz8 e) k i).2.1 (sz8 e)))):=rfl
theorem encB_zero (a:EncA) (e:Bool) (k c:Nat) (P:List Int):encB a e k c P 0=([],P):=rfl
theorem encM_zero (a:EncA) (E:Nat→Bool) (P:List Int):encM a E P 0=([],P,0):=rfl
theorem encM_snoc (a:EncA) (E:Nat→Bool) (P:List Int) (k:Nat):encM a E P (k+1)=((encM a E P k).1++[(E k,(encB a (E k) k (encM a E P k).2.2 (encM a E P k).2.1 (manyE (E k))).1)],
 (encB a (E k) k (encM a E P k).2.2 (encM a E P k).2.1 (manyE (E k))).2,(encM a E P k).2.2+manyE (E k)):=rfl
section
attribute [-instance] Clone_c FrameNew_c placesOf_c BlockAt_c NbAt_c Pred_c Residual_c LevelsFor_c PutRef_c
attribute [local irreducible] encB encM putL endL blkL topL lefL corL predS resS levL
theorem encode_o (w h q:Int) (b d:Bool) (L ms F:List Int) (es:List Bool) (g:Nat) (cs:List AV) (ch:Chs) (hF:FrameOk w h F) (ho:OptOk q L) (hl:ms.length≤1099511627776∧es.length≤1099511627776) (hg:ChG g cs ch):
 Fn 68 [FrA w h F,OpA q b d L ms es,.fn g [.iptr cs 0]] [⟨rows mbG (encM ⟨w,h,q,b,L,F,ch⟩ (eiF es) (zerP w h) (cntM w h).toNat).1,0,2,some 82⟩]
  (.tup [.agg [I w,I h,I q,B b,B d,IL L,.own 0 0 0 (cntM w h).toNat],FrA w h (endL w h q d (encM ⟨w,h,q,b,L,F,ch⟩ (eiF es) (zerP w h) (cntM w h).toNat).2.1)]):=by
 have hsd:=hF.1
 have hcm:=cntM_bd hsd
 have hL6:L.length=6:=ho.2.2.1
 have hz:(zerP w h).length≤1024:=by
  unfold zerP
  rw [List.length_replicate]
  have h2:w*h≤32*32:=Int.mul_le_mul hsd.2.1 hsd.2.2.2.1 (by have:=hsd.2.2.1;omega) (by omega)
  omega
 refine FnC.of_body tabOk Tryz.func68 Tryz.ntmps68 rfl (by decide +kernel) (by simp) fun G=>?_
 refine goR (r:=?_);and_intros<;>intros<;>try exact True.intro
 all_goals first|contradiction|omega|skip
 try dsimp only [List.append,List.cons_append,List.nil_append]
 apply WpA.regionGB 17 mixed (by decide +kernel)
 ·exact rfl
 ·apply HeadG.preF 2 rfl rfl rfl
  ·exact rfl
  ·exact in0
  ·exact rfl
  apply HeadG.preF 2 rfl rfl rfl
  ·exact rfl
  ·exact in0
  ·exact rfl
  apply HeadG.preF 2 rfl rfl rfl
  ·exact rfl
  ·exact in0
  ·exact rfl
  apply HeadG.preF 2 rfl rfl rfl
  ·exact rfl
  ·exact in0
  ·exact rfl
  apply HeadG.preF 2 rfl rfl rfl
  ·exact rfl
  ·exact in0
  ·exact rfl
  apply HeadG.preF 2 rfl rfl rfl
  ·exact rfl
  ·exact in0
  ·exact rfl
  apply HeadG.preF 2 rfl rfl rfl
  ·exact rfl
  ·exact in0
  ·exact rfl
  apply HeadG.preF 2 rfl rfl rfl
  ·exact rfl
  ·exact in0
  ·exact rfl
  apply HeadG.preF 2 rfl rfl rfl
  ·exact rfl
  ·exact in0
  ·exact rfl
  apply HeadG.preF 2 rfl rfl rfl
  ·exact rfl
  ·exact in0
  ·exact rfl
  apply HeadG.preF 2 rfl rfl rfl
  ·exact rfl
  ·exact in0
  ·exact rfl
  apply HeadG.preF 2 rfl rfl rfl
  ·exact rfl
  ·exact in0
  ·exact rfl
  apply HeadG.precF 0 rfl rfl
  ·exact rfl
  ·intro Tv Ov
   refine K.call ?_
   apply WpL.callI (Clone_c.ok L (by omega))
   ·exact snapA
   ·exact locA
   ·exact outA
   ·exact FrzR.one (.own rfl rfl rfl (by simp) rfl (Snap.same rfl (still_ints _) (nofre_ints _)) .nil)
   ·decide
   ·exact WpL.nil (Only.mk rfl)
  ·exact rfl
  apply HeadG.preF 0 rfl rfl rfl
  ·exact rfl
  ·exact in0
  ·exact rfl
  apply HeadG.preF 0 rfl rfl rfl
  ·exact rfl
  ·exact in0
  ·exact rfl
  apply HeadG.stepF rfl rfl
  ·exact rfl
  ·exact in1
  ·exact rfl
  apply HeadG.stepNF rfl
  ·exact rfl
  ·exact in1
  ·exact rfl
  exact Abs.HeadG.nil
 ·exact trueA
 ·exact trueA
 ·exact trueA
 ·exact demA
 ·exact rfl
 ·exact rfl
 refine goR (r:=?_);and_intros<;>intros<;>try exact True.intro
 all_goals first|contradiction|omega|skip
 refine K.call ?_
 apply WpL.callI (FrameNew_c.ok w h hsd)
 ·exact snapA
 ·exact locA
 ·exact outA
 ·exact frzA
 ·decide
 refine goR (r:=?_);and_intros<;>intros<;>try exact True.intro
 all_goals first|contradiction|omega|skip
 have hzl:(w*h).toNat=(zerP w h).length:=by simp [zerP]
 rw [show (List.replicate (w*h).toNat (0:Int))=zerP w h from rfl,hzl]
 have hP0:=zer_ok hsd
 generalize zerP w h=P0 at*
 have hmk:=fun k=>encM_ok (a:=⟨w,h,q,b,L,F,ch⟩) (E:=eiF es) hP0 k
 have hml:=encM_len ⟨w,h,q,b,L,F,ch⟩ (eiF es) P0
 have hmp:=encM_plen ⟨w,h,q,b,L,F,ch⟩ (eiF es) P0
 have hmc:=encM_cnt ⟨w,h,q,b,L,F,ch⟩ (eiF es) P0
 have hms:=encM_snoc ⟨w,h,q,b,L,F,ch⟩ (eiF es) P0
 have hm0:encM ⟨w,h,q,b,L,F,ch⟩ (eiF es) P0 0=([],P0,0):=encM_zero ..
 refine WpA.loop (fun k:Nat=>⟨[(2,.fn g [.iptr cs 0]),(3,.ptr 0 0 0),(4,.ptr 1 0 0),(6,.ptr 2 0 0),(7,.ptr 3 0 0),(8,.ptr 4 0 0),(9,.ptr 5 0 0),(10,I (encM ⟨w,h,q,b,L,F,ch⟩ (eiF es) P0 k).2.2),(41,I (cntM w h)),(42,I k)],[FrO w h F,OpO q b d L ms es,⟨[I 0,I 0,I 0,B false,B false,.nilS,.nilS],0,0,none⟩,⟨[I 0,I 0,.nilS],0,0,none⟩,⟨[I w,I h,I q,B b,B d,IL L,.own 6 0 0 k],0,0,none⟩,FrO w h (encM ⟨w,h,q,b,L,F,ch⟩ (eiF es) P0 k).2.1,⟨rows mbG (encM ⟨w,h,q,b,L,F,ch⟩ (eiF es) P0 k).1,0,2,some 82⟩]⟩) (fun k=>(k:Int)≤cntM w h) (fun k=>(cntM w h).toNat-k) 0 (by omega) ?_ (fun k hk=>?_)
 ·rw [hm0];exact Weak.nil1f (by first|(show 0≤_;exact Nat.zero_le _)|(repeat' (first|exact RyT.nil|refine RyT.cons ?_ ?_|exact Ry.nil|refine Ry.keep rfl rfl ?_|refine Ry.own rfl rfl rfl rfl rfl (by first|rfl|omega|(simp;done)) ?_|refine Ry.ptr rfl rfl rfl rfl ?_|refine Ry.nilO rfl rfl rfl (by first|rfl|omega|(simp;done)) ?_|refine Ry.fn rfl ?_|refine Ry.agg ?_ ?_|exact RyO.last rfl|(refine RyO.cons ?_ (.inr rfl) ?_)|exact Ry.same rfl (still_ints _)|exact Ry.same rfl (still_rows (fun _=>rfl) _)))) (by first|(show 0≤_;exact Nat.zero_le _)|(repeat' (first|exact RyT.nil|refine RyT.cons ?_ ?_|exact Ry.nil|refine Ry.keep rfl rfl ?_|refine Ry.own rfl rfl rfl rfl rfl (by first|rfl|omega|(simp;done)) ?_|refine Ry.ptr rfl rfl rfl rfl ?_|refine Ry.nilO rfl rfl rfl (by first|rfl|omega|(simp;done)) ?_|refine Ry.fn rfl ?_|refine Ry.agg ?_ ?_|exact RyO.last rfl|(refine RyO.cons ?_ (.inr rfl) ?_)|exact Ry.same rfl (still_ints _)|exact Ry.same rfl (still_rows (fun _=>rfl) _)))) (Nat.zero_le _)
 have hmk:=hmk k
 have hml:=hml k
 have hmp:=hmp k
 have hmc:=hmc k
 have hms:=hms k
 by_cases hlt:(k:Int)<cntM w h
 ·refine WpA.hide fun Q' hQ'=>?_
  have hm4:manyE (eiF es k)≤4:=by cases eiF es k<;>decide
  have hei:=fun hh=>eiF_1 (es:=es) hh k
  generalize he:eiF es k=e at*
  generalize encM ⟨w,h,q,b,L,F,ch⟩ (eiF es) P0 k=X at*
  obtain ⟨M,P,c⟩:=X
  dsimp only at hmk hml hmp hmc hms ⊢
  subst hml
  refine goR (r:=?_);and_intros<;>intros<;>try exact True.intro
  all_goals first|contradiction|omega|skip
  have hr1:=fun hh:0<es.length=>Int.emod_lt_of_pos (M.length:Int) (show (0:Int)<(es.length:Int) by omega)
  have hr0:=fun hh:0<es.length=>Int.emod_nonneg (M.length:Int) (show (es.length:Int)≠0 by omega)
  refine WpA.cut (σ1:=⟨[(2,.fn g [.iptr cs 0]),(3,.ptr 0 0 0),(4,.ptr 1 0 0),(6,.ptr 2 0 0),(7,.ptr 3 0 0),(8,.ptr 4 0 0),(9,.ptr 5 0 0),(10,I c),(11,I M.length),(12,.ptr 7 0 0),(41,I (cntM w h)),(42,I M.length)],[FrO w h F,OpO q b d L ms es,⟨[I 0,I 0,I 0,B false,B false,.nilS,.nilS],0,0,none⟩,⟨[I 0,I 0,.nilS],0,0,none⟩,⟨[I w,I h,I q,B b,B d,IL L,.own 6 0 0 M.length],0,0,none⟩,FrO w h P,⟨rows mbG M,0,2,some 82⟩,⟨[B e,.nilS],0,0,none⟩]⟩) ?_ ?_
  ·obtain ⟨g0,hg0⟩:∃g0,decide ((es.length:Int)>0)=g0:=⟨_,rfl⟩
   have hpos:g0=true→0<es.length:=fun hh=>by
    rw [hh] at hg0;have:=of_decide_eq_true hg0;omega
   have hev:g0=true→es.getD ((M.length:Int)%(es.length:Int)).toNat false=e:=fun hh=>by
    rw [hei (hpos hh)];congr 1
   have hef:g0=false→e=false:=fun hh=>by
    rw [←he];unfold eiF;rw [if_neg (fun h0=>by rw [hh] at hg0;have:=of_decide_eq_false hg0;omega)]
   have hr1:=fun hh=>hr1 (hpos hh)
   have hr0:=fun hh=>hr0 (hpos hh)
   clear hei he
   cases g0
   all_goals
    try (have hr1:=hr1 rfl)
    try (have hr0:=hr0 rfl)
    try (have hpos:=hpos rfl)
    try dsimp only [List.append,List.cons_append,List.nil_append]
    apply WpA.regionRF (O:=[FrO w h F,OpO q b d L ms es,⟨[I 0,I 0,I 0,B false,B false,.nilS,.nilS],0,0,none⟩,⟨[I 0,I 0,.nilS],0,0,none⟩,⟨[I w,I h,I q,B b,B d,IL L,.own 6 0 0 M.length],0,0,none⟩,FrO w h P,⟨rows mbG M,0,2,some 82⟩]) (Or:=[]) (O1:=[FrO w h F,OpO q b d L ms es,⟨[I 0,I 0,I 0,B false,B false,.nilS,.nilS],0,0,none⟩,⟨[I 0,I 0,.nilS],0,0,none⟩,⟨[I w,I h,I q,B b,B d,IL L,.own 6 0 0 M.length],0,0,none⟩,FrO w h P,⟨rows mbG M,0,2,some 82⟩,⟨[B e,.nilS],1,0,none⟩,deadO]) 18 1 [] [0] rfl mixed (by decide +kernel)
    ·exact rfl
    ·apply HeadR.consF .none rfl
     ·exact rfl
     ·exact rfl
     ·exact in1
     ·exact rfl
     ·exact rfl
     apply HeadR.consF .none rfl
     ·exact rfl
     ·exact rfl
     ·exact in1
     ·exact rfl
     ·exact rfl
     apply HeadR.consF .none rfl
     ·exact rfl
     ·exact rfl
     ·exact in1
     ·exact rfl
     ·exact rfl
     apply HeadR.consV .none rfl
     ·exact rfl
     ·exact rfl
     ·exact in1
     ·exact hg0
     ·exact rfl
     ·exact rfl
     apply HeadR.consF .none rfl
     ·exact rfl
     ·exact rfl
     ·exact in1
     ·exact rfl
     ·exact rfl
     apply HeadR.consF .none rfl
     ·exact rfl
     ·exact rfl
     ·(intro Tv Ov hc2 hp9 hd9 hk9;refine K.L ?_;refine K.gd ?_;first|(refine K.gT rfl (by decide) rfl ?_;exact in0)|(refine K.gF rfl (by decide) rfl ?_;exact WpL.nil (Only.mk rfl)))
     ·exact rfl
     ·exact rfl
     apply HeadR.consF .none rfl
     ·exact rfl
     ·exact rfl
     ·(intro Tv Ov hc2 hp9 hd9 hk9;refine K.L ?_;refine K.gd ?_;first|(refine K.gT rfl (by decide) rfl ?_;exact in0)|(refine K.gF rfl (by decide) rfl ?_;exact WpL.nil (Only.mk rfl)))
     ·exact rfl
     ·exact rfl
     apply HeadR.consF .none rfl
     ·exact rfl
     ·exact rfl
     ·(intro Tv Ov hc2 hp9 hd9 hk9;refine K.L ?_;refine K.gd ?_;first|(refine K.gT rfl (by decide) rfl ?_;exact in0)|(refine K.gF rfl (by decide) rfl ?_;exact WpL.nil (Only.mk rfl)))
     ·exact rfl
     ·exact rfl
     apply HeadR.consF .none rfl
     ·exact rfl
     ·exact rfl
     ·(intro Tv Ov hc2 hp9 hd9 hk9;refine K.L ?_;refine K.gd ?_;first|(refine K.gT rfl (by decide) rfl ?_;exact in0)|(refine K.gF rfl (by decide) rfl ?_;exact WpL.nil (Only.mk rfl)))
     ·exact rfl
     ·exact rfl
     apply HeadR.consF .none rfl
     ·exact rfl
     ·exact rfl
     ·(intro Tv Ov hc2 hp9 hd9 hk9;refine K.L ?_;refine K.gd ?_;first|(refine K.gT rfl (by decide) rfl ?_;exact in0)|(refine K.gF rfl (by decide) rfl ?_;exact WpL.nil (Only.mk rfl)))
     ·exact rfl
     ·exact rfl
     apply HeadR.consF .none rfl
     ·exact rfl
     ·exact rfl
     ·(intro Tv Ov hc2 hp9 hd9 hk9;refine K.L ?_;refine K.gd ?_;first|(refine K.gT rfl (by decide) rfl ?_;exact in0)|(refine K.gF rfl (by decide) rfl ?_;exact WpL.nil (Only.mk rfl)))
     ·exact rfl
     ·exact rfl
     apply HeadR.consF .none rfl
     ·exact rfl
     ·exact rfl
     ·(intro Tv Ov hc2 hp9 hd9 hk9;refine K.L ?_;refine K.gd ?_;first|(refine K.gT rfl (by decide) rfl ?_;exact in0)|(refine K.gF rfl (by decide) rfl ?_;exact WpL.nil (Only.mk rfl)))
     ·exact rfl
     ·exact rfl
     apply HeadR.consF .none rfl
     ·exact rfl
     ·exact rfl
     ·(intro Tv Ov hc2 hp9 hd9 hk9;refine K.L ?_;refine K.gd ?_;first|(refine K.gT rfl (by decide) rfl ?_;exact in0)|(refine K.gF rfl (by decide) rfl ?_;exact WpL.nil (Only.mk rfl)))
     ·exact rfl
     ·exact rfl
     apply HeadR.consF .none rfl
     ·exact rfl
     ·exact rfl
     ·(intro Tv Ov hc2 hp9 hd9 hk9;refine K.L ?_;refine K.gd ?_;first|(refine K.gT rfl (by decide) rfl ?_;exact in0)|(refine K.gF rfl (by decide) rfl ?_;exact WpL.nil (Only.mk rfl)))
     ·exact rfl
     ·exact rfl
     apply HeadR.consF (V:=B e) .none rfl
     ·exact rfl
     ·exact rfl
     ·first|(rw [←hev rfl];exact in1)|(rw [hef rfl];exact in1)
     ·exact rfl
     ·exact rfl
     apply HeadR.consF .none rfl
     ·exact rfl
     ·exact rfl
     ·exact in1
     ·exact rfl
     ·exact rfl
     apply HeadR.consF (V:=.ptr 7 1 0) (.put 0 ⟨[B false,.nilS],1,0,none⟩) rfl
     ·exact rfl
     ·exact rfl
     ·intro Tv Ov hc2 hp9 hd9 hk9
      refine WpL.allocStruct tabOk rfl (nid_len _ 0) (by decide) ?_
      apply WpL.putV (p:=0)
      ·exact .ptr (by first|rfl|exact Nat.zero_add _) .nil
      ·exact hp9 0 _ rfl
      ·exact Nat.zero_le _
      ·exact rfl
      ·exact rfl
     ·exact rfl
     ·exact rfl
     apply HeadR.consN (.step 0 ⟨[B e,.nilS],1,0,none⟩) 1000
     ·exact rfl
     ·exact rfl
     ·intro Tv Ov hc2 hp9 hd9 hk9
      obtain ⟨R0,rfl⟩:=split1 (hp9 0 _ rfl)
      refine K.st ?_
      refine WpL.store tabOk rfl rfl rfl rfl rfl rfl rfl rfl (Nat.le_of_ble_eq_true rfl) ?_
      refine WpL.weak (Weak.any1 (d:=1000)) ?_
      exact WpL.nil (Only.mk rfl)
     ·exact rfl
     ·exact rfl
     exact HeadR.nil
    ·exact rfl
    ·exact rfl
    ·exact rfl
    ·exact rfl
    ·exact rfl
    ·exact rfl
    ·exact rfl
    refine WpL.nil ⟨rfl,Weak.mk ?_ ?_ (Nat.zero_le _)⟩
    ·repeat (first
      |exact ReT.nil
      |refine ReT.cons (.keep rfl rfl .nil) ?_
      |refine ReT.cons (.fn rfl .nil) ?_
      |refine ReT.cons (.own rfl rfl rfl rfl rfl rfl .nil) ?_
      |refine ReT.cons (.ptr rfl rfl rfl rfl .nil) ?_
      |refine ReT.cons (.keep (congrArg (fun z=>AV.sc (Value.int .i64 z)) (by first|omega|(skip))) rfl .nil) ?_
      |refine ReT.cons (.keep (congrArg (fun z:List UInt8=>AV.sc (Value.string ⟨z.toArray⟩)) (by skip)) rfl .nil) ?_
      |refine ReT.cons (.own rfl rfl rfl rfl rfl (by first|omega|(simp;done)|(simp;omega)) .nil) ?_)
    ·repeat (first
      |exact ReO.nil
      |refine ReO.cons (Re.same rfl rfl) (.inr rfl) ?_
      |refine ReO.cons (Re.same rfl (still_rows (fun _=>rfl) _)) (.inr rfl) ?_
      |refine ReO.cons (.keep rfl rfl (.keep rfl rfl (.keep rfl rfl (.keep rfl rfl (.keep rfl rfl (.keep rfl rfl (.own rfl rfl rfl rfl rfl rfl .nil))))))) (.inr rfl) ?_)
  clear hei hr0 hr1
  refine goR (r:=?_);and_intros<;>intros<;>try exact True.intro
  all_goals first|contradiction|omega|skip
  refine K.call ?_
  apply WpL.callI (placesOf_c.ok w h q b d L M.length e ⟨by omega,by omega,by omega⟩)
  ·exact snapA
  ·exact locA
  ·exact outA
  ·exact FrzR.one (.own rfl rfl rfl (by rw [rows_len (k:=3) (fun _=>rfl),plsL_len]) rfl (Snap.same rfl (still_rows (fun _=>rfl) _) (nofre_rows (fun _=>rfl) _)) .nil)
  ·decide
  refine goR (r:=?_);and_intros<;>intros<;>try exact True.intro
  all_goals first|contradiction|omega|skip
  have hbl:=encB_len ⟨w,h,q,b,L,F,ch⟩ e M.length c P
  have hbp:=encB_plen ⟨w,h,q,b,L,F,ch⟩ e M.length c P
  have hbs:=encB_snoc ⟨w,h,q,b,L,F,ch⟩ e M.length c P
  have hb0:encB ⟨w,h,q,b,L,F,ch⟩ e M.length c P 0=([],P):=encB_zero ..
  refine WpA.loop (fun i:Nat=>⟨[(2,.fn g [.iptr cs 0]),(3,.ptr 0 0 0),(4,.ptr 1 0 0),(6,.ptr 2 0 0),(7,.ptr 3 0 0),(8,.ptr 4 0 0),(9,.ptr 5 0 0),(10,I ((c+i:Nat):Int)),(12,.ptr 7 0 0),(41,I (cntM w h)),(42,I M.length),(66,.imm 3 (manyE e) (rows plF (plsL w (sz8 e) M.length (manyE e)))),(67,I (manyE e)),(68,I i)],[FrO w h F,OpO q b d L ms es,⟨[I 0,I 0,I 0,B false,B false,.nilS,.nilS],0,0,none⟩,⟨[I 0,I 0,.nilS],0,0,none⟩,⟨[I w,I h,I q,B b,B d,IL L,.own 6 0 0 M.length],0,0,none⟩,FrO w h (encB ⟨w,h,q,b,L,F,ch⟩ e M.length c P i).2,⟨rows mbG M,0,2,some 82⟩,⟨[B e,.own 8 0 0 i],0,0,none⟩,⟨rows blkI (encB ⟨w,h,q,b,L,F,ch⟩ e M.length c P i).1,0,2,some 84⟩]⟩) (fun i=>i≤manyE e) (fun i=>manyE e-i) 0 (Nat.zero_le _) ?_ (fun i hi=>?_)
  ·rw [hb0];exact Weak.nil1f (by first|(show 0≤_;exact Nat.zero_le _)|(repeat' (first|exact RyT.nil|refine RyT.cons ?_ ?_|exact Ry.nil|refine Ry.keep rfl rfl ?_|refine Ry.own rfl rfl rfl rfl rfl (by first|rfl|omega|(simp;done)) ?_|refine Ry.ptr rfl rfl rfl rfl ?_|refine Ry.nilO rfl rfl rfl (by first|rfl|omega|(simp;done)) ?_|refine Ry.fn rfl ?_|refine Ry.agg ?_ ?_|exact RyO.last rfl|(refine RyO.cons ?_ (.inr rfl) ?_)|exact Ry.same rfl (still_ints _)|exact Ry.same rfl (still_rows (fun _=>rfl) _)))) (by first|(show 0≤_;exact Nat.zero_le _)|(repeat' (first|exact RyT.nil|refine RyT.cons ?_ ?_|exact Ry.nil|refine Ry.keep rfl rfl ?_|refine Ry.own rfl rfl rfl rfl rfl (by first|rfl|omega|(simp;done)) ?_|refine Ry.ptr rfl rfl rfl rfl ?_|refine Ry.nilO rfl rfl rfl (by first|rfl|omega|(simp;done)) ?_|refine Ry.fn rfl ?_|refine Ry.agg ?_ ?_|exact RyO.last rfl|(refine RyO.cons ?_ (.inr rfl) ?_)|exact Ry.same rfl (still_ints _)|exact Ry.same rfl (still_rows (fun _=>rfl) _)))) (Nat.zero_le _)
  have hbl:=hbl i
  have hbp:=hbp i
  have hbs:=hbs i
  by_cases hlt2:i<manyE e
  ·have hpl:=plsL_len w (sz8 e) M.length (manyE e)
   have hpg:(plsL w (sz8 e) M.length (manyE e)).getD i default=plc1 w (sz8 e) M.length i:=by
    unfold plsL
    simp [hlt2]
   obtain ⟨x,y,hxy⟩:∃x y,plc1 w (sz8 e) M.length i=(x,y,sz8 e):=⟨_,_,rfl⟩
   rw [hxy] at hpg hbs
   simp only [chM,chV,nbP] at hbs
   generalize encB ⟨w,h,q,b,L,F,ch⟩ e M.length c P i=Y at*
   obtain ⟨bs,Pi⟩:=Y
   dsimp only at hbl hbp hbs ⊢
   subst hbl
   have hn8:sz8 e=4∨sz8 e=8:=by cases e<;>simp [sz8]
   generalize hsz:sz8 e=n at*
   have hkB:=BlockAt_c.ok w h F x y n (by have:=hF.2.1;omega)
   have hkN:Fn 136 [FrA w h Pi,I x,I y,I n] [XI (topL w h Pi x y n),XI (lefL w h Pi x y n)] (.agg [.own 0 0 0 (topL w h Pi x y n).length,.own 1 0 0 (lefL w h Pi x y n).length,I (corL w h Pi x y n),B (hasT w h Pi x y n),B (hasE w h Pi x y n)]):=NbAt_c.ok w h Pi x y n (by omega)
   have hkb:=blkL_le w h F x y n
   have hkn:=nb_le w h Pi x y n
   generalize blkL w h F x y n=bk at*
   generalize topL w h Pi x y n=tp at*
   generalize lefL w h Pi x y n=lf at*
   generalize corL w h Pi x y n=co at*
   generalize hasT w h Pi x y n=hT at*
   generalize hasE w h Pi x y n=hE at*
   have hgc:=hg (c+bs.length) bk tp lf co hT hE n ⟨by omega,by omega,by omega,by omega⟩
   generalize ch (c+bs.length) bk tp lf co hT hE n=md at*
   refine goR (r:=?_);and_intros<;>intros<;>try exact True.intro
   all_goals first|contradiction|omega|skip
   rw [hpg]
   dsimp only
   try dsimp only [List.append,List.cons_append,List.nil_append]
   apply WpA.regionGB 19 mixed (by decide +kernel)
   ·exact rfl
   ·apply HeadG.preF 10 rfl rfl rfl
    ·exact rfl
    ·exact in0
    ·exact rfl
    apply HeadG.preF 10 rfl rfl rfl
    ·exact rfl
    ·exact in0
    ·exact rfl
    apply HeadG.preF 10 rfl rfl rfl
    ·exact rfl
    ·exact in0
    ·exact rfl
    apply HeadG.preF 10 rfl rfl rfl
    ·exact rfl
    ·exact in0
    ·exact rfl
    apply HeadG.preF 10 rfl rfl rfl
    ·exact rfl
    ·exact in0
    ·exact rfl
    apply HeadG.preF 10 rfl rfl rfl
    ·exact rfl
    ·exact in0
    ·exact rfl
    apply HeadG.preF 10 rfl rfl rfl
    ·exact rfl
    ·exact in0
    ·exact rfl
    apply HeadG.precF 0 rfl rfl
    ·exact rfl
    ·intro Tv Ov
     refine K.call ?_
     apply WpL.callI (hkB)
     ·exact snapA
     ·exact locA
     ·exact outA
     ·exact frzA
     ·decide
     ·exact WpL.nil (Only.mk rfl)
    ·exact rfl
    apply HeadG.preF 10 rfl rfl rfl
    ·exact rfl
    ·exact in0
    ·exact rfl
    apply HeadG.preF 10 rfl rfl rfl
    ·exact rfl
    ·exact in0
    ·exact rfl
    apply HeadG.preF 10 rfl rfl rfl
    ·exact rfl
    ·exact in0
    ·exact rfl
    apply HeadG.preF 10 rfl rfl rfl
    ·exact rfl
    ·exact in0
    ·exact rfl
    apply HeadG.preF 10 rfl rfl rfl
    ·exact rfl
    ·exact in0
    ·exact rfl
    apply HeadG.preF 10 rfl rfl rfl
    ·exact rfl
    ·exact in0
    ·exact rfl
    apply HeadG.preF 10 rfl rfl rfl
    ·exact rfl
    ·exact in0
    ·exact rfl
    apply HeadG.precF 0 rfl rfl
    ·exact rfl
    ·intro Tv Ov
     refine K.call ?_
     apply WpL.callI (hkN)
     ·exact snapA
     ·exact locA
     ·exact outA
     ·exact frzA
     ·decide
     ·exact WpL.nil (Only.mk rfl)
    ·exact rfl
    apply HeadG.stepF rfl rfl
    ·exact rfl
    ·exact in1
    ·exact rfl
    apply HeadG.preF 10 rfl rfl rfl
    ·exact rfl
    ·exact in0
    ·exact rfl
    apply HeadG.stepNF rfl
    ·exact rfl
    ·exact in1
    ·exact rfl
    exact Abs.HeadG.nil
   ·exact trueA
   ·exact trueA
   ·exact trueA
   ·exact demA
   ·exact rfl
   ·exact rfl
   refine goR (r:=?_);and_intros<;>intros<;>try exact True.intro
   all_goals first|contradiction|omega|skip
   refine K.callT ?_
   refine WpL.callV0 rfl hgc rfl snapA (.sc .nil) rfl rfl (by decide) ?_
   refine goR (r:=?_);and_intros<;>intros<;>try exact True.intro
   all_goals first|contradiction|omega|skip
   have hkP:=Pred_c.ok md tp lf co hT hE n ⟨by omega,by omega,by omega⟩
   have hpl:=predS_len md tp lf co hT hE n
   have hpl:(predS md tp lf co hT hE n).length≤64:=by
    rw [hpl];split
    ·rcases hn8 with rfl|rfl<;>decide
    ·decide
   generalize predS md tp lf co hT hE n=pr at*
   have hkR:=Residual_c.ok bk pr ⟨by omega,by omega⟩
   have hrl:(resS bk pr).length≤64:=by
    rw [resS_len];split<;>omega
   generalize resS bk pr=rs at*
   have hkL:=LevelsFor_c.ok q b d L ms es rs ⟨by omega,by omega⟩
   have hll:=levL_le b q L rs
   generalize levL b q L rs=lv at*
   have hkU:=PutRef_c.ok w h Pi w h q b d L x y md lv ⟨by omega,by omega⟩
   have hul:=putL_len w h Pi q b x y md lv
   generalize putL w h Pi q b x y md lv=Pu at*
   try dsimp only [List.append,List.cons_append,List.nil_append]
   apply WpA.regionGB 13 mixed (by decide +kernel)
   ·exact rfl
   ·apply HeadG.preF 11 rfl rfl rfl
    ·exact rfl
    ·exact in0
    ·exact rfl
    apply HeadG.preF 11 rfl rfl rfl
    ·exact rfl
    ·exact in0
    ·exact rfl
    apply HeadG.preF 11 rfl rfl rfl
    ·exact rfl
    ·exact in0
    ·exact rfl
    apply HeadG.preF 11 rfl rfl rfl
    ·exact rfl
    ·exact in0
    ·exact rfl
    apply HeadG.preF 11 rfl rfl rfl
    ·exact rfl
    ·exact in0
    ·exact rfl
    apply HeadG.preF 11 rfl rfl rfl
    ·exact rfl
    ·exact in0
    ·exact rfl
    apply HeadG.preF 11 rfl rfl rfl
    ·exact rfl
    ·exact in0
    ·exact rfl
    apply HeadG.precF 0 rfl rfl
    ·exact rfl
    ·intro Tv Ov
     refine K.call ?_
     apply WpL.callI (hkP)
     ·exact snapA
     ·exact locA
     ·exact outA
     ·exact frzA
     ·decide
     ·exact WpL.nil (Only.mk rfl)
    ·exact rfl
    apply HeadG.precF 0 rfl rfl
    ·exact rfl
    ·intro Tv Ov
     refine K.call ?_
     apply WpL.callI (hkR)
     ·exact snapA
     ·exact locA
     ·exact outA
     ·exact frzA
     ·decide
     ·exact WpL.nil (Only.mk rfl)
    ·exact rfl
    apply HeadG.precF 0 rfl rfl
    ·exact rfl
    ·intro Tv Ov
     refine K.call ?_
     apply WpL.callI (hkL)
     ·exact snapA
     ·exact locA
     ·exact outA
     ·exact frzA
     ·decide
     ·exact WpL.nil (Only.mk rfl)
    ·exact rfl
    apply HeadG.preF 11 rfl rfl rfl
    ·exact rfl
    ·exact in0
    ·exact rfl
    apply HeadG.stepF rfl rfl
    ·exact rfl
    ·exact in1
    ·exact rfl
    apply HeadG.stepNF rfl
    ·exact rfl
    ·exact in1
    ·exact rfl
    exact Abs.HeadG.nil
   ·exact trueA
   ·exact trueA
   ·exact trueA
   ·exact demA
   ·exact rfl
   ·exact rfl
   refine goR (r:=?_);and_intros<;>intros<;>try exact True.intro
   all_goals first|contradiction|omega|skip
   refine K.call ?_
   apply WpL.callI hkU
   ·exact snapA
   ·exact locA
   ·exact outA
   ·exact FrzR.tup (.agg (.keep rfl rfl (.keep rfl rfl (.own rfl rfl rfl (by show Pi.length*1=(List.map _ _).length;rw [Nat.mul_one,List.length_map];exact hul.symm) hul.symm (Snap.same rfl (still_ints _) (nofre_ints _)) .nil))) (.keep rfl rfl .nil))
   ·decide
   refine goR (r:=?_);and_intros<;>intros<;>try exact True.intro
   all_goals first|contradiction|omega|(rw [hbs];exact .keep rfl rfl .nil)|(rw [hbs];refine Re.same ?_ (still_rows (fun _=>rfl) _);show rows blkI bs++_=rows blkI (bs++[(md,lv)]);rw [rows_append,rows_one];rfl)
  ·obtain rfl:i=manyE e:=by omega
   refine goR (r:=?_);and_intros<;>intros<;>try exact True.intro
   all_goals first|contradiction|omega|skip
   subst hQ'
   refine Rnd.go (M.length+1) (by omega) (by omega) ?_
   rw [hms]
   generalize encB ⟨w,h,q,b,L,F,ch⟩ e M.length c P (manyE e)=Y at*
   obtain ⟨bs,Pi⟩:=Y
   dsimp only at hbl hbp ⊢
   refine Weak.trans (Weak.nest (id:=6) (j:=8) (off:=M.length*2+1) (ob:=⟨rows mbG M++[B e,.own 8 0 0 (manyE e)],1,2,some 82⟩) (oj:=⟨rows blkI bs,0,2,some 84⟩) rfl rfl rfl (Nat.zero_le _) (mG_at M _ _) rfl (still_rows (fun _=>rfl) _) ?_) ?_
   ·show manyE e*2=(rows blkI bs).length
    rw [len_bI];omega
   ·refine Weak.mk ?_ ?_ (Nat.zero_le _)
    ·repeat (first
      |exact ReT.nil
      |refine ReT.cons (.keep rfl rfl .nil) ?_
      |refine ReT.cons (.fn rfl .nil) ?_
      |refine ReT.cons (.own rfl rfl rfl rfl rfl rfl .nil) ?_
      |refine ReT.cons (.ptr rfl rfl rfl rfl .nil) ?_
      |refine ReT.cons (.keep (congrArg (fun z=>AV.sc (Value.int .i64 z)) (by first|omega|(skip))) rfl .nil) ?_
      |refine ReT.cons (.keep (congrArg (fun z:List UInt8=>AV.sc (Value.string ⟨z.toArray⟩)) (by skip)) rfl .nil) ?_
      |refine ReT.cons (.own rfl rfl rfl rfl rfl (by first|omega|(simp;done)|(simp;omega)) .nil) ?_)
    ·repeat (first
      |exact ReO.nil
      |refine ReO.cons (Re.same rfl rfl) (.inr rfl) ?_
      |refine ReO.cons (Re.same (mG_set M e _ bs hbl) (still_rows (fun _=>rfl) _)) (.inr rfl) ?_
      |refine ReO.cons (.keep rfl rfl (.keep rfl rfl (.keep rfl rfl (.keep rfl rfl (.keep rfl rfl (.keep rfl rfl (.own rfl rfl rfl rfl rfl rfl .nil))))))) (.inr rfl) ?_)
 ·obtain ek:(cntM w h).toNat=k:=by omega
  rw [ek]
  have hmk:=(hmk).2.1
  generalize encM ⟨w,h,q,b,L,F,ch⟩ (eiF es) P0 k=X at*
  obtain ⟨M,P,c⟩:=X
  dsimp only at hmk hml hmp hmc ⊢
  subst hml
  have hkE:=ended_c w h w h q b d L P (by omega)
  generalize endL w h q d P=Pe at*
  refine goR (r:=?_);and_intros<;>intros<;>try exact True.intro
  all_goals first|contradiction|omega|skip
  try dsimp only [List.append,List.cons_append,List.nil_append]
  apply WpA.regionGB 7 mixed (by decide +kernel)
  ·exact rfl
  ·apply HeadG.hole4 rfl rfl rfl
   ·exact rfl
   ·exact in0
   ·exact rfl
   apply HeadG.hole4 rfl rfl rfl
   ·exact rfl
   ·exact in0
   ·exact rfl
   apply HeadG.hole4 rfl rfl rfl
   ·exact rfl
   ·exact in0
   ·exact rfl
   apply HeadG.hole5 rfl rfl rfl
   ·exact rfl
   ·exact in0
   ·exact rfl
   apply HeadG.precF 0 rfl rfl
   ·exact rfl
   ·intro Tv Ov
    refine K.call ?_
    apply WpL.callK (hkE)
    ·exact .agg (.keep rfl rfl (.keep rfl rfl (.keep rfl rfl (.keep rfl rfl (.keep rfl rfl (.keep rfl rfl .nil)))))) (.agg (.keep rfl rfl (.keep rfl rfl (.keep rfl rfl .nil))) .nil)
    ·decide
    ·exact WpL.nil (Only.mk rfl)
   ·exact rfl
   apply HeadG.stepNF rfl
   ·exact rfl
   ·exact in1
   ·exact rfl
   apply HeadG.stepNF rfl
   ·exact rfl
   ·exact in1
   ·exact rfl
   exact Abs.HeadG.nil
  ·exact trueA
  ·exact trueA
  ·exact trueA
  ·exact demA
  ·exact rfl
  ·exact rfl
  refine goR (r:=?_);and_intros<;>intros<;>try exact True.intro
  all_goals first|contradiction|omega
end
end Go.Proofs.YtainhhfnnclfiaaGreat


namespace Go.Abs
open Go
section
variable {P:Program} {n m:Nat} {G:Ctx} {T:List (Nat×AV)} {O:List AObj} {Q:Exit→St→Prop} {ops:Array Oper} {l:List Oper} {d:Nat} {tt:TypeId} {pos:String} {after:Array Edge}
theorem Rel.freezeP {a:Act} {w:World} {id ep off:Nat} {ob:AObj} {cs:List AV} (ho:O[id]?=some ob) (hm:m≤id) (hep:ob.ep=ep) (hcs:ob.cells=cs) (hst:cs.all AV.still=true) (hnf:cs.all AV.nofre=true) (hM:∀b,¬G.M0 b)
 (hr:Rel n m G ⟨(d,.ptr id ep off)::T,O⟩ a w):Rel n m G ⟨(d,.iptr cs off)::T,O.set id ⟨[],ep+1,0,none⟩⟩ a w:=by
 subst hcs hep
 obtain ⟨S,ι,F,hr⟩:=hr
 have hidl:id<O.length:=(List.getElem?_eq_some_iff.1 ho).1
 have hset:∀i:Nat,(O.set id ⟨[],ob.ep+1,0,none⟩)[i]?=if i=id then some ⟨[],ob.ep+1,0,none⟩ else O[i]?:=by
  intro i
  rw [List.getElem?_set]
  by_cases e:id=i
  ·subst e;rw [if_pos rfl,if_pos rfl,if_pos hidl]
  ·rw [if_neg e,if_neg (fun h=>e h.symm)]
 have hob:=hr.objs.obj id ob ho
 let S2:Nat→Prop:=fun b=>S b∨∃k,ι id=some (b,k)
 let ι2:Nat→Spot:=fun i=>if i=id then none else ι i
 let F2:Nat→List Nat:=fun i=>if i=id then [] else F i
 have hblk:∀b k,ι id=some (b,k)→b∈F id:=by
  intro b k hs
  unfold ObjAt at hob
  rw [hs] at hob
  obtain ⟨cur,t,fz,f',h1,_⟩:=hob
  rw [h1];simp
 have hlat:Later S w ι O S2 w ι2 (O.set id ⟨[],ob.ep+1,0,none⟩):=by
  refine ⟨fun b h=>.inl h,fun b _=>rfl,fun i obi hi=>?_⟩
  by_cases e:i=id
  ·subst e
   rw [ho] at hi;cases hi
   exact ⟨⟨[],ob.ep+1,0,none⟩,by rw [hset,if_pos rfl],.inl (Nat.lt_succ_self _)⟩
  ·exact ⟨obi,by rw [hset,if_neg e];exact hi,.inr ⟨rfl,rfl,if_neg e⟩⟩
 have hlen:(O.set id ⟨[],ob.ep+1,0,none⟩).length=O.length:=List.length_set
 refine ⟨S2,ι2,F2,hr.defers,hr.size,fun t=>?_,⟨fun i obi hi=>?_,fun i hi=>?_,fun i j hi hj hij b hb=>?_⟩,fun i hi b hb=>?_,⟨fun b hb=>.inl (hr.base.1 b hb),?_⟩,?_,hr.keeps,fun i hi=>?_,?_⟩
 ·have ht:=hr.tmps t
  by_cases e:d=t
  ·subst e
   have ht:VRel S w ι O (look ((d,.ptr id ob.ep off)::T) d) (a.tmps.getD d undef) []:=ht
   show VRel S2 w ι2 _ (look ((d,.iptr ob.cells off)::T) d) _ _
   rw [look_cons_same] at ht ⊢
   generalize a.tmps.getD d undef=x at ht
   cases ht with
   |ptr q1 q2 q3 r=>
    cases r
    rw [ho] at q1;cases q1
    have hc:=q3 rfl
    unfold ObjAt at hob
    cases hs:ι id with
    |none=>
     rw [hs] at hc
     exact hc.elim
    |some p=>
     obtain ⟨b,k⟩:=p
     rw [hs] at hc hob
     obtain ⟨cur,t,fz,f',hF,hh,_,_,_,_,hl'⟩:=hob
     have hf':=nofre_all hl' hnf
     subst hf'
     have hc:x=.pointer (some ⟨b,0+off,none⟩):=by rw [Nat.zero_add];exact hc
     subst hc
     refine .iptr (us:=cur.toList.take ob.cells.length) (.inr ⟨k,hs⟩) (fun i hi=>cell_of_heap hh _ i hi) ?_ .nil
     exact still_all hst hl' (fun b h=>.inl h) (fun _ _=>rfl) (fun _ _=>rfl)
  ·have ht:VRel S w ι O (look ((d,.ptr id ob.ep off)::T) t) (a.tmps.getD t undef) []:=ht
   show VRel S2 w ι2 _ (look ((d,.iptr ob.cells off)::T) t) _ _
   rw [look_cons_other _ _ _ _ e] at ht ⊢
   exact ht.mono hlat (fun _ _=>rfl)
 ·have hi:(O.set id ⟨[],ob.ep+1,0,none⟩)[i]?=some obi:=hi
  rw [hset] at hi
  by_cases e:i=id
  ·subst e
   rw [if_pos rfl] at hi;cases hi
   show ObjAt S2 w ι2 _ _ (if i=i then none else ι i) (if i=i then [] else F i)
   rw [if_pos rfl,if_pos rfl]
   exact ⟨rfl,rfl⟩
  ·rw [if_neg e] at hi
   have h0:=hr.objs.obj i obi hi
   show ObjAt S2 w ι2 _ obi (if i=id then none else ι i) (if i=id then [] else F i)
   rw [if_neg e,if_neg e]
   unfold ObjAt at h0 ⊢
   cases hs:ι i with
   |none=>rw [hs] at h0;exact h0
   |some p=>
    obtain ⟨b,k⟩:=p
    rw [hs] at h0
    obtain ⟨cur',t',fz',f2,h1,h2,h3,h4,h5,h6,h7⟩:=h0
    exact ⟨cur',t',fz',f2,h1,h2,h3,h4,h5,h6,h7.mono hlat (fun _ _=>rfl)⟩
 ·have hi:i<(O.set id ⟨[],ob.ep+1,0,none⟩).length:=hi
  show (if i=id then [] else F i).Nodup
  split
  ·exact List.nodup_nil
  ·exact hr.objs.nodup i (by rw [hlen] at hi;exact hi)
 ·have hi:i<(O.set id ⟨[],ob.ep+1,0,none⟩).length:=hi
  have hj:j<(O.set id ⟨[],ob.ep+1,0,none⟩).length:=hj
  rw [hlen] at hi hj
  have hb:b∈(if i=id then [] else F i):=hb
  show b ∉ (if j=id then [] else F j)
  split at hb
  ·cases hb
  ·split
   ·simp
   ·exact hr.objs.apart i j hi hj hij b hb
 ·have hi:i<(O.set id ⟨[],ob.ep+1,0,none⟩).length:=hi
  rw [hlen] at hi
  have hb:b∈(if i=id then [] else F i):=hb
  split at hb
  ·cases hb
  ·rename_i e
   obtain ⟨q1,q2,q3⟩:=hr.foot i hi b hb
   refine ⟨q1,?_,q3⟩
   rintro (h'|⟨k,h'⟩)
   ·exact q2 h'
   ·exact hr.objs.apart i id hi hidl e b hb (hblk b k h')
 ·rintro b (h'|⟨k,h'⟩)
  ·exact hr.base.2 b h'
  ·have hf:=hr.foot id hidl b (hblk b k h')
   rcases hf.1 with h1|h1
   ·exact absurd h1 (hM b)
   ·exact .inr h1
 ·rintro b (h'|⟨k,h'⟩)
  ·exact hr.stable b h'
  ·exact (hr.foot id hidl b (hblk b k h')).2.2
 ·show (if i=id then none else ι i)=_
  rw [if_neg (by omega)];exact hr.spots i hi
 ·show m≤(O.set id ⟨[],ob.ep+1,0,none⟩).length
  rw [hlen];exact hr.mle
theorem WpA.freezeP {c:Code} {id ep off:Nat} {ob:AObj} {cs:List AV} (hM:∀b,¬G.M0 b) (ho:O[id]?=some ob) (hm:m≤id) (hep:ob.ep=ep) (hcs:ob.cells=cs) (hst:cs.all AV.still=true) (hnf:cs.all AV.nofre=true)
 (h:WpA P n m G c ⟨(d,.iptr cs off)::T,O.set id ⟨[],ep+1,0,none⟩⟩ Q):WpA P n m G c ⟨(d,.ptr id ep off)::T,O⟩ Q:=
 fun a w hr=>h a w (Rel.freezeP ho hm hep hcs hst hnf hM hr)
theorem KeepL.fnEnd {S:Nat→Prop} {w:World} {ι ι':Nat→Spot} {vs us:List AV} {g:Nat} {cs:List AV} (h:KeepL vs us):∀{xs f},LRel S w ι O (vs++[.fn g [.iptr cs 0]]) xs f→LRel S w ι' [] (us++[.fn g [.iptr cs 0]]) xs []:=by
 induction h with
 |nil=>
  intro xs f hl
  cases hl with
  |fn a r=>cases r;exact .fn (simple_allI a rfl) .nil
 |any _ ih=>
  intro xs f hl
  obtain ⟨v,vs',f1,f2,rfl,hv,hr,rfl⟩:=hl.uncons
  exact .any (ih hr)
 |keep hs hn _ ih=>
  intro xs f hl
  obtain ⟨v,vs',f1,f2,rfl,hv,hr,rfl⟩:=hl.uncons
  have:=nofre_nil hv hn
  subst this
  have:=LRel.cons (still_any hv hs [] (fun _ h=>h) (fun _ _=>rfl) (by simp)) (ih hr)
  simpa using this
 |@agg ds es vs us h1 _ _ ih2=>
  intro xs f hl
  obtain ⟨v,vs',f1,f2,rfl,hv,hr,rfl⟩:=hl.uncons
  obtain ⟨us',rfl,ha⟩:=LRel.agg_inv hv
  have:=LRel.agg (h1.rel ha) (ih2 hr)
  simpa using this
theorem WpL.callKF {f:FuncId} {xs:List Operand} {ats:Array TypeId} {As:List AV} {r:AV} (hc:FnC P f As [] r) (hs:∀{S:Nat→Prop} {w:World} {ι:Nat→Spot} {us:List Value} {f:List Nat},LRel S w ι O (xs.map (av T)) us f→LRel S w (fun _=>none) [] As us []) (hn:d<n) (h:WpL P n m G false ops l ⟨(d,r)::T,O⟩ Q):
 WpL P n m G false ops ({dst:=some d,op:=.call {callee:=.value (.func f),args:=xs.toArray,argTypes:=ats},type:=tt,pos:=pos,after:=after,guard:=none}::l) ⟨T,O⟩ Q:=
 WpL.op rfl (fun a w hr=>by
  obtain ⟨S,ι,F,hr⟩:=hr
  obtain ⟨⟨fn,hf,hb,hnm⟩,hcall⟩:=hc
  have hl:LRel S w (fun _=>none) [] As (xs.map a.eval) []:=hs (hr.evals xs)
  have hex:(execOp a.eval {dst:=some d,op:=.call {callee:=.value (.func f),args:=xs.toArray,argTypes:=ats},type:=tt,pos:=pos,after:=after,guard:=none}).run P w=.ok (.enter f (xs.map a.eval).toArray) w:=by
   simp only [execOp,resolve,Act.eval,Deferred.ofValue,invoke,callFunc,Sem.run_bind,Sem.run_pure,Result.andThen_ok,program,Sem.run,hf,hnm,hb,Bool.false_eq_true,if_false]
   simp
  unfold Oper.wp
  rw [hex]
  refine (hcall w S (xs.map a.eval) hr.stable hl).mono fun e w' he=>?_
  obtain ⟨v,S',ι',F',rfl,hS1,hS2,hS3,hO',hF',hv,hk⟩:=he
  show Rel n m G ⟨(d,r)::T,O⟩ (a.put (some d) v) w'
  have hold:∀b,b<w.heap.size→w'.heap[b]?=w.heap[b]?:=fun b hb=>hk.block b hb (fun h=>h)
  have hlat:Later S w ι O S' w' ι O:=⟨hS1,fun b hb=>hold b (hr.stable b hb),fun id ob h=>⟨ob,h,.inr ⟨rfl,rfl,rfl⟩⟩⟩
  have hrel:RelAt n m G S' ι F ⟨T,O⟩ a w':=by
   refine ⟨hr.defers,hr.size,fun t=>(hr.tmps t).mono hlat (by simp),⟨fun id ob h=>?_,hr.objs.nodup,hr.objs.apart⟩,fun id h b hb=>?_,⟨fun b hb=>hS1 b (hr.base.1 b hb),fun b hb=>?_⟩,hS3,?_,hr.spots,hr.mle⟩
   ·have h:O[id]?=some ob:=h
    have hlt:id<O.length:=(List.getElem?_eq_some_iff.1 h).1
    have ho:=hr.objs.obj id ob h
    unfold ObjAt at ho ⊢
    cases hs:ι id with
    |none=>rw [hs] at ho;exact ho
    |some p=>
     obtain ⟨b,k⟩:=p
     rw [hs] at ho
     obtain ⟨cur',t',fz',f2,h1,h2,h3,h4,h5,h6,h7⟩:=ho
     have key:∀b',b'∈F id→w'.heap[b']?=w.heap[b']?:=fun b' hb'=>hold b' (hr.foot id hlt b' hb').2.2
     exact ⟨cur',t',fz',f2,h1,by rw [key b (by rw [h1];simp)];exact h2,h3,h4,h5,h6,h7.mono hlat fun b' hb'=>key b' (by rw [h1];simp [hb'])⟩
   ·obtain ⟨q1,q2,q3⟩:=hr.foot id h b hb
    refine ⟨q1,fun h'=>?_,by have:=hk.size;omega⟩
    rcases hS2 b h' with h2|h2
    ·exact q2 h2
    ·omega
   ·rcases hS2 b hb with h2|h2
    ·exact hr.base.2 b h2
    ·exact .inr (by have:=hr.keeps.size;omega)
   ·exact ⟨hk.os.trans hr.keeps.os,hk.tape.trans hr.keeps.tape,hk.output.trans hr.keeps.output,by have:=hr.keeps.size;have:=hk.size;omega,fun b hb hM=>by
     rw [hold b (by have:=hr.keeps.size;omega)];exact hr.keeps.block b hb hM⟩
  exact ⟨S',ι,F,hrel.put hn (hv.mono (Later.none O (fun _ h=>h) (fun _ _=>rfl)) (by simp))⟩) h
end
end Go.Abs


namespace Go.Proofs.YtainhhfnnclfiaaGreat
open Go Go.Abs
attribute [local irreducible] WpA WpL Rnd Blk Abs.Seq Abs.Fin Abs.FinG FnC FnG Only
theorem fm_snoc {α β:Type} [Inhabited α] (f:α→List β) (l:List α) (k:Nat) (h:k<l.length):(l.take (k+1)).flatMap f=(l.take k).flatMap f++f (l.getD k default):=by
 rw [take_snoc l k h,List.flatMap_append];simp
theorem fm_bd {α β:Type} (f:α→List β) (c:Nat) (h:∀a,(f a).length≤c):∀l:List α,(l.flatMap f).length≤c*l.length
 |[]=>by simp
 |a::l=>by
  have:=fm_bd f c h l
  have h1:=h a
  rw [List.flatMap_cons,List.length_append,List.length_cons,Nat.mul_add];omega
theorem pk_in (l:List Int):∀k,k≤l.length→∀p∈(pk l k).1,(0≤p.1∧p.1≤k)∧p.2≠0∧p.2∈l
 |0,_,p,hp=>by simp [pk] at hp
 |k+1,hk,p,hp=>by
  have ih:=pk_in l k (by omega)
  have hb:=pk_bd l k
  rw [pk] at hp
  split at hp
  ·obtain ⟨a,b,c⟩:=ih p hp;exact ⟨by omega,b,c⟩
  ·rename_i hz
   rcases List.mem_append.1 hp with hp|hp
   ·obtain ⟨a,b,c⟩:=ih p hp;exact ⟨by omega,b,c⟩
   ·simp only [List.mem_singleton] at hp
    subst hp
    refine ⟨by omega,hz,?_⟩
    have e:l.getD k 0=l[k]'(by omega):=by simp [show k<l.length by omega]
    simp only [e];exact List.getElem_mem _
theorem in_mem {l:List Int} {lo hi:Int} (h:In l lo hi) {x:Int} (hx:x∈l):lo≤x∧x≤hi:=by
 unfold In at h;exact h x hx
theorem prs_in {l:List Int} (h:LvOk l) {k:Nat} (hk:k<(prsL l).length):(0≤((prsL l).getD k default).1∧((prsL l).getD k default).1≤64)∧((prsL l).getD k default).2≠0∧-16383≤((prsL l).getD k default).2∧((prsL l).getD k default).2≤16383:=by
 have hm:(prsL l).getD k default∈(prsL l):=by simp [hk]
 generalize (prsL l).getD k default=p at hm
 rw [prsL,if_pos h] at hm
 obtain ⟨h1,h2,h3⟩:=pk_in l l.length (Nat.le_refl _) p hm
 have h4:=in_mem h.1 h3
 have h5:l.length≤64:=by rcases h.2 with h|h<;>omega
 refine ⟨by omega,h2,h4⟩
theorem prs_len (l:List Int):(prsL l).length≤64:=by
 unfold prsL;split
 ·rename_i h
  have:=(pk_bd l l.length).1
  rcases h.2 with h|h<;>omega
 ·simp
theorem nolL_in {v:Int} (h:v≠0∧-16383≤v∧v≤16383):0≤nolL v∧nolL v≤65534:=by unfold nolL;split<;>(try split)<;>omega
instance PairsOf_c:Con 272 (∀ l:List Int,LvOk l→Fn 272 [IL l] [XP (prsL l)] (.own 0 0 0 (prsL l).length)):=⟨fun l h=>by
 have hl:l.length≤64:=by rcases h.2 with h|h<;>omega
 refine FnC.of_body tabOk Tryz.func272 Tryz.ntmps272 rfl (by decide +kernel) (by simp) fun G=>?_
 refine go (r:=?_);and_intros<;>intros<;>try exact True.intro
 all_goals first|(exact absurd h (by assumption))|skip
 refine WpA.loop (fun k:Nat=>⟨[(3,.own 0 0 0 (pk l k).1.length),(4,I (pk l k).2),(11,IL l),(12,I l.length),(13,I k)],[XP (pk l k).1]⟩) (fun k=>k≤l.length) (fun k=>l.length-k) 0 (by simp) (go (r:=?_)) (fun k hk=>?_)
 ·simp [pk]
 have hb:=pk_bd l k
 have hend:k=l.length→(pk l k).1=prsL l:=by rintro rfl;rw [prsL,if_pos h]
 by_cases hz:l.getD k 0=0
 ·have e1:pk l (k+1)=((pk l k).1,(pk l k).2+1):=by rw [pk,if_pos hz]
  have e2:(pk l (k+1)).1.length=(pk l k).1.length:=by rw [e1]
  refine go (r:=?_);and_intros<;>intros<;>try exact True.intro
  all_goals first|(rw [e1];done)|(rw [hend (by omega)];done)
 ·have e1:pk l (k+1)=((pk l k).1++[((pk l k).2,l.getD k 0)],0):=by rw [pk,if_neg hz]
  have e2:(pk l (k+1)).1.length=(pk l k).1.length+1:=by rw [e1,List.length_append,List.length_singleton]
  refine go (r:=?_);and_intros<;>intros<;>try exact True.intro
  all_goals first|(rw [e1];done)|(rw [e1];rfl)|(rw [hend (by omega)];done)⟩
def prB (p:Int×Int):List Int:=ueL p.1++ueL (nolL p.2)
theorem prB_len (p:Int×Int):(prB p).length≤128:=by
 have h1:=ueL_len p.1
 have h2:=ueL_len (nolL p.2)
 unfold prB;rw [List.length_append];omega
def bkK (m:Int) (lv lens:List Int) (k:Nat):List Int:=(symL lens m++[1]++ueL ((prsL lv).length-1))++((prsL lv).take k).flatMap prB
def bkL (m:Int) (lv lens:List Int) (n:Int):List Int:=if BlkOk m lv lens n then (if (prsL lv).length=0 then symL lens m++[0] else bkK m lv lens (prsL lv).length) else []
theorem symL_len7 (l:List Int) (m:Int):(symL l m).length≤48:=by
 unfold symL;split
 ·exact bitsL_len _ _
 ·simp
theorem bkK_len (m:Int) (lv lens:List Int) (k:Nat):(bkK m lv lens k).length≤113+128*k:=by
 have h1:=symL_len7 lens m
 have h2:=ueL_len ((prsL lv).length-1)
 have h3:=fm_bd prB 128 prB_len ((prsL lv).take k)
 have h4:((prsL lv).take k).length≤k:=by simp;omega
 unfold bkK;simp only [List.length_append,List.length_cons,List.length_nil];omega
theorem bkK_zero (m:Int) (lv lens:List Int):bkK m lv lens 0=symL lens m++[1]++ueL ((prsL lv).length-1):=by simp [bkK]
theorem bkK_succ (m:Int) (lv lens:List Int) (k:Nat) (h:k<(prsL lv).length):bkK m lv lens (k+1)=bkK m lv lens k++ueL ((prsL lv).getD k default).1++ueL (nolL ((prsL lv).getD k default).2):=by
 unfold bkK;rw [fm_snoc prB _ k h,←List.append_assoc,prB,←List.append_assoc]
theorem bkL_len (m:Int) (lv lens:List Int) (n:Int):(bkL m lv lens n).length≤8400:=by
 have h1:=symL_len7 lens m
 have h2:=bkK_len m lv lens (prsL lv).length
 have h3:=prs_len lv
 unfold bkL;split
 ·split
  ·simp;omega
  ·omega
 ·simp
abbrev BoxB (m:Int) (lv:List Int):AObj:=⟨[I m,IL lv],0,0,none⟩
instance BlockBits_c:Con 226 (∀ (m:Int) (lv lens:List Int) (n:Int),lv.length≤1099511627776∧lens.length≤1099511627776∧BlkOk m lv lens n→Fn 226 [.agg [I m,IL lv],IL lens,I n] [XI (bkL m lv lens n)] (.own 0 0 0 (bkL m lv lens n).length)):=⟨fun m lv lens n hl=>by
 have hs:=symL_len7 lens m
 have hu:=ueL_len ((prsL lv).length-1)
 have hp:=prs_len lv
 have h:=hl.2.2
 refine FnC.of_body tabOk Tryz.func226 Tryz.ntmps226 rfl (by decide +kernel) (by simp) fun G=>?_
 refine goR (r:=?_);and_intros<;>intros<;>try exact True.intro
 all_goals first|(exact absurd h (by assumption))|skip
 apply WpA.regionQF (O:=[BoxB m lv]) (Or:=[]) (O1:=[BoxB m lv,XD (symL lens m),XQ (prsL lv),deadO,deadO]) 7 2 [] rfl mixed (by decide +kernel)
 ·exact rfl
 ·apply HeadQ.consF .none rfl
  ·exact rfl
  ·exact in1
  ·exact rfl
  ·exact rfl
  apply HeadQ.consF .none rfl
  ·exact rfl
  ·exact in1
  ·exact rfl
  ·exact rfl
  apply HeadQ.consF .none rfl
  ·exact rfl
  ·exact in1
  ·exact rfl
  ·exact rfl
  apply HeadQ.consF (V:=.own 1 1 0 (symL lens m).length) (.put 0 (XD (symL lens m))) rfl
  ·exact rfl
  ·intro Tv Ov hc hp hd hk
   refine K.call ?_
   refine K.con (fun hcon=>?_)
   refine WpL.callF (hcon _ _ hl.2.1) snapA locA outA (cnt_some _ 0) rfl rfl (by decide) ?_
   rw [Nat.zero_add]
   apply WpL.putNil (p:=0)
   ·exact hp 0 _ rfl
   ·exact Nat.zero_le _
   ·exact rfl
   ·first|exact still_ints _|exact still_rows (fun _=>rfl) _|rfl
  ·exact rfl
  ·exact rfl
  apply HeadQ.consF .none rfl
  ·exact rfl
  ·exact in1
  ·exact rfl
  ·exact rfl
  apply HeadQ.consF .none rfl
  ·exact rfl
  ·exact in1
  ·exact rfl
  ·exact rfl
  apply HeadQ.consF (V:=.own 2 1 0 (prsL lv).length) (.put 1 (XQ (prsL lv))) rfl
  ·exact rfl
  ·intro Tv Ov hc hp hd hk
   refine K.call ?_
   refine K.con (fun hcon=>?_)
   refine WpL.callF (hcon _ h.2.2.2) snapA locA outA (cnt_some _ 0) rfl rfl (by decide) ?_
   rw [Nat.zero_add]
   apply WpL.putNil (p:=1)
   ·exact hp 1 _ rfl
   ·exact Nat.zero_le _
   ·exact rfl
   ·first|exact still_ints _|exact still_rows (fun _=>rfl) _|rfl
  ·exact rfl
  ·exact rfl
  exact HeadQ.nil
 ·exact rfl
 ·exact rfl
 ·exact rfl
 ·exact rfl
 ·exact rfl
 ·exact rfl
 ·exact rfl
 by_cases h0:(prsL lv).length=0
 ·have e:bkL m lv lens n=symL lens m++[0]:=by rw [bkL,if_pos h,if_pos h0]
  refine go (r:=?_);and_intros<;>intros<;>try exact True.intro
  all_goals first|(rw [e];done)|(rw [e];simp;done)
 ·have e:bkL m lv lens n=bkK m lv lens (prsL lv).length:=by rw [bkL,if_pos h,if_neg h0]
  have e0:=bkK_zero m lv lens
  have el0:(symL lens m).length+1+(ueL ((prsL lv).length-1)).length=(bkK m lv lens 0).length:=by rw [e0];simp;omega
  refine goR (r:=?_);and_intros<;>intros<;>try exact True.intro
  (apply WpL.nestLis (id:=7) (cs2:=[.fre 1 _ _,.fre 1 _ _,.fre 1 _ _]) [0,1,2]
   ·repeat' (first
     |exact NestC.nil
     |(apply NestC.consF
       ·exact rfl
       ·exact rfl
       ·exact rfl
       ·exact rfl
       ·first|exact Nat.zero_le _|exact Nat.le_of_ble_eq_true rfl
       ·exact still_ints _
       ·first|(simp;done)|rfl
       ·exact rfl
       ·exact rfl))
   ·exact rfl
   ·repeat' (first
     |exact ToLis.nil
     |(apply ToLis.cons
       ·exact rfl
       ·first|rfl|(simp;done)))
   ·exact rfl)
  refine go (r:=?_);and_intros<;>intros<;>try exact True.intro
  ·simp
  ·exact smL_cons (by omega) (smL_cons (by decide) (smL_cons (by omega) (smL_nil _)))
  have ef:[symL lens m,[1],ueL ((prsL lv).length-1)].flatten=bkK m lv lens 0:=by rw [e0];simp
  refine WpA.loop (fun k:Nat=>⟨[(7,.own 8 0 0 (bkK m lv lens k).length),(37,.own 2 1 0 (prsL lv).length),(38,I (prsL lv).length),(39,I k)],[BoxB m lv,⟨[],2,0,none⟩,XQ (prsL lv),deadO,deadO,deadO,deadO,⟨rows liF [symL lens m,[1],ueL ((prsL lv).length-1)],0,1,some 32⟩,XI (bkK m lv lens k)]⟩) (fun k=>k≤(prsL lv).length) (fun k=>(prsL lv).length-k) 0 (by omega) (go (r:=?_)) (fun k hk=>?_)
  ·trivial
  have hb:=bkK_len m lv lens k
  have hsc:=fun h=>bkK_succ m lv lens k h
  refine goR (r:=?_);and_intros<;>intros<;>try exact True.intro
  ·have hk2:k<(prsL lv).length:=by omega
   have hpi:=prs_in h.2.2.2 hk2
   have hni:=nolL_in (v:=((prsL lv).getD k default).2) (by omega)
   have hsc:=hsc hk2
   have ha:=ueL_len ((prsL lv).getD k default).1
   have hbb:=ueL_len (nolL ((prsL lv).getD k default).2)
   have hfl:[bkK m lv lens k,ueL ((prsL lv).getD k default).1,ueL (nolL ((prsL lv).getD k default).2)].flatten=bkK m lv lens (k+1):=by rw [hsc];simp
   have hsm:[bkK m lv lens k,ueL ((prsL lv).getD k default).1,ueL (nolL ((prsL lv).getD k default).2)].length≤1024∧SmL 1048576 [bkK m lv lens k,ueL ((prsL lv).getD k default).1,ueL (nolL ((prsL lv).getD k default).2)]:=⟨by simp,smL_cons (by omega) (smL_cons (by omega) (smL_cons (by omega) (smL_nil _)))⟩
   apply WpA.regionQ0 8 2 mixed (by decide +kernel)
   ·exact rfl
   ·apply HeadQ.consF .none rfl
    ·exact rfl
    ·exact in1
    ·exact rfl
    ·exact rfl
    apply HeadQ.consF .none rfl
    ·exact rfl
    ·exact in1
    ·exact rfl
    ·exact rfl
    apply HeadQ.consF .none rfl
    ·exact rfl
    ·exact in1
    ·exact rfl
    ·exact rfl
    apply HeadQ.consF (V:=.own 10 1 0 (ueL ((prsL lv).getD k default).1).length) (.put 0 (XD (ueL ((prsL lv).getD k default).1))) rfl
    ·exact rfl
    ·intro Tv Ov hc hp hd hk
     refine K.call ?_
     refine K.con (fun hcon=>?_)
     refine WpL.callF (hcon ((prsL lv).getD k default).1 (by omega)) snapA locA outA (cnt_some _ 0) rfl rfl (by decide) ?_
     rw [Nat.zero_add]
     apply WpL.putNil (p:=0)
     ·exact hp 0 _ rfl
     ·exact Nat.zero_le _
     ·exact rfl
     ·first|exact still_ints _|exact still_rows (fun _=>rfl) _|rfl
    ·exact rfl
    ·exact rfl
    apply HeadQ.consF .none rfl
    ·exact rfl
    ·exact in1
    ·exact rfl
    ·exact rfl
    apply HeadQ.consF .none rfl
    ·exact rfl
    ·exact in1
    ·exact rfl
    ·exact rfl
    apply HeadQ.consF .none rfl
    ·exact rfl
    ·exact in0
    ·exact rfl
    ·exact rfl
    apply HeadQ.consF (V:=.own 11 1 0 (ueL (nolL ((prsL lv).getD k default).2)).length) (.put 1 (XD (ueL (nolL ((prsL lv).getD k default).2)))) rfl
    ·exact rfl
    ·intro Tv Ov hc hp hd hk
     refine K.call ?_
     refine K.con (fun hcon=>?_)
     refine WpL.callF (hcon (nolL ((prsL lv).getD k default).2) hni) snapA locA outA (cnt_some _ 0) rfl rfl (by decide) ?_
     rw [Nat.zero_add]
     apply WpL.putNil (p:=1)
     ·exact hp 1 _ rfl
     ·exact Nat.zero_le _
     ·exact rfl
     ·first|exact still_ints _|exact still_rows (fun _=>rfl) _|rfl
    ·exact rfl
    ·exact rfl
    exact HeadQ.nil
   ·exact rfl
   ·exact rfl
   ·exact rfl
   ·exact rfl
   ·exact rfl
   ·exact rfl
   refine goR (r:=?_);and_intros<;>intros<;>try exact True.intro
   (apply WpL.nestLis (id:=14) (cs2:=[.fre 1 _ _,.fre 1 _ _,.fre 1 _ _]) [0,1,2]
    ·repeat' (first
      |exact NestC.nil
      |(apply NestC.consF
        ·exact rfl
        ·exact rfl
        ·exact rfl
        ·exact rfl
        ·first|exact Nat.zero_le _|exact Nat.le_of_ble_eq_true rfl
        ·exact still_ints _
        ·first|(simp;done)|rfl
        ·exact rfl
        ·exact rfl))
    ·exact rfl
    ·repeat' (first
      |exact ToLis.nil
      |(apply ToLis.cons
        ·exact rfl
        ·first|rfl|(simp;done)))
    ·exact rfl)
   refine K.call ?_
   refine K.con (fun hcon=>?_)
   refine WpL.callF (hcon [bkK m lv lens k,ueL ((prsL lv).getD k default).1,ueL (nolL ((prsL lv).getD k default).2)] hsm) snapA locA outA rfl rfl rfl (by decide) ?_
   clear hcon
   refine WpL.weak (Weak.fillF (j:=8) rfl rfl rfl (Nat.zero_le _) rfl (still_ints _) rfl rfl) ?_
   rw [hfl]
   refine go (r:=?_);and_intros<;>intros<;>try exact True.intro
   all_goals trace_state
  all_goals have ek:k=(prsL lv).length:=by omega
  all_goals subst ek
  all_goals rw [e]⟩
end Go.Proofs.YtainhhfnnclfiaaGreat


namespace Go.Proofs.YtainhhfnnclfiaaGreat
open Go Go.Abs
attribute [local irreducible] WpA WpL Rnd Blk Abs.Seq Abs.Fin Abs.FinG FnC FnG Only
def mbK (e:Bool) (bs:List Blok) (lens:List Int) (k:Nat):List Int:=[bif e then 1 else 0]++(bs.take k).flatMap fun b=>bkL b.1 b.2 lens (sz8 e)
def mbbL (e:Bool) (bs:List Blok) (lens:List Int):List Int:=if MbkOk e bs lens then mbK e bs lens bs.length else []
theorem mbK_len (e:Bool) (bs:List Blok) (lens:List Int) (k:Nat):(mbK e bs lens k).length≤1+8400*k:=by
 have h3:=fm_bd (fun b:Blok=>bkL b.1 b.2 lens (sz8 e)) 8400 (fun b=>bkL_len _ _ _ _) (bs.take k)
 have h4:(bs.take k).length≤k:=by simp;omega
 unfold mbK;simp only [List.length_append,List.length_cons,List.length_nil];omega
theorem mbK_succ (e:Bool) (bs:List Blok) (lens:List Int) (k:Nat) (h:k<bs.length):mbK e bs lens (k+1)=mbK e bs lens k++bkL (bs.getD k default).1 (bs.getD k default).2 lens (sz8 e):=by
 unfold mbK;rw [fm_snoc _ _ k h,←List.append_assoc]
theorem mbbL_len (e:Bool) (bs:List Blok) (lens:List Int):(mbbL e bs lens).length≤33601:=by
 unfold mbbL;split
 ·rename_i h
  have h1:=mbK_len e bs lens bs.length
  have h2:=sz8_cases e
  have h3:=h.1
  omega
 ·simp
abbrev BoxM (e:Bool) (bs:List Blok):AObj:=⟨[B e,BkL bs],0,0,none⟩
instance MbBits_c:Con 151 (∀ (e:Bool) (bs:List Blok) (lens:List Int),SmB 1099511627776 bs∧lens.length≤1099511627776∧MbkOk e bs lens→Fn 151 [.agg [B e,BkL bs],IL lens] [XI (mbbL e bs lens)] (.own 0 0 0 (mbbL e bs lens).length)):=⟨fun e bs lens hl=>by
 have hc:=sz8_cases e
 have h:=hl.2.2
 have he:mbbL e bs lens=mbK e bs lens bs.length:=by rw [mbbL,if_pos h]
 have hz:[bif e then (1:Int) else 0]=mbK e bs lens 0:=by simp [mbK]
 have hn:=h.1
 refine FnC.of_body tabOk Tryz.func151 Tryz.ntmps151 rfl (by decide +kernel) (by simp) fun G=>?_
 refine go (r:=?_);and_intros<;>intros<;>try exact True.intro
 all_goals first|exact hl.1|(exact absurd h (by assumption))|skip
 refine WpA.loop (fun k:Nat=>⟨[(1,IL lens),(6,I (sz8 e)),(7,.own 1 0 0 (mbK e bs lens k).length),(25,BkL bs),(26,I bs.length),(27,I k)],[BoxM e bs,XI (mbK e bs lens k)]⟩) (fun k=>k≤bs.length) (fun k=>bs.length-k) 0 (by omega) (go (r:=?_)) (fun k hk=>?_)
 ·trivial
 have hb:=mbK_len e bs lens k
 have hsc:=fun h=>mbK_succ e bs lens k h
 have hbl:=bkL_len (bs.getD k default).1 (bs.getD k default).2 lens (sz8 e)
 have hsl:k<bs.length→(mbK e bs lens (k+1)).length=(mbK e bs lens k).length+(bkL (bs.getD k default).1 (bs.getD k default).2 lens (sz8 e)).length:=fun h=>by rw [hsc h];simp only [List.length_append]
 have hg:=fun h=>smB_get hl.1 (k:=k) h
 have hok:=fun hk=>ok_lv h (k:=k) hk
 refine go (r:=?_);and_intros<;>intros<;>try exact True.intro
 all_goals first|(rw [hsc (by omega)];done)|skip
 all_goals first|(have hk2:k<bs.length:=by omega
                  obtain ⟨a1,⟨⟨a2,a3,a4⟩,a5,a6⟩,a7,a8,a9⟩:=hok hk2
                  first|assumption|omega|exact a6 ‹_›)|skip
 all_goals have ek:k=bs.length:=by omega
 all_goals subst ek
 all_goals rw [he]⟩
def hdB (w h q:Int) (b d:Bool):List Int:=bitsL 183 8++ueL (w/8-1)++ueL (h/8-1)++bitsL q 6++[bif b then 1 else 0,bif d then 1 else 0]
def hdK (w h q:Int) (b d:Bool) (l:List Int) (k:Nat):List Int:=hdB w h q b d++(l.take k).flatMap fun n=>bitsL n 3
def hdL (w h q:Int) (b d:Bool) (l:List Int):List Int:=if HdOk w h q l then hdK w h q b d l l.length else []
theorem hdB_len (w h q:Int) (b d:Bool):(hdB w h q b d).length≤226:=by
 have h1:=bitsL_len 183 8
 have h2:=ueL_len (w/8-1)
 have h3:=ueL_len (h/8-1)
 have h4:=bitsL_len q 6
 unfold hdB;simp only [List.length_append,List.length_cons,List.length_nil];omega
theorem hdK_len (w h q:Int) (b d:Bool) (l:List Int) (k:Nat):(hdK w h q b d l k).length≤226+48*k:=by
 have h1:=hdB_len w h q b d
 have h3:=fm_bd (fun n:Int=>bitsL n 3) 48 (fun n=>bitsL_len _ _) (l.take k)
 have h4:(l.take k).length≤k:=by simp;omega
 unfold hdK;simp only [List.length_append];omega
theorem hdK_succ (w h q:Int) (b d:Bool) (l:List Int) (k:Nat) (hk:k<l.length):hdK w h q b d l (k+1)=hdK w h q b d l k++bitsL (l.getD k 0) 3:=by
 unfold hdK;rw [fm_snoc _ _ k hk,←List.append_assoc];rfl
theorem hdL_len (w h q:Int) (b d:Bool) (l:List Int):(hdL w h q b d l).length≤600:=by
 unfold hdL;split
 ·rename_i hh
  have h1:=hdK_len w h q b d l l.length
  have h6:=hh.2.2.2.1
  omega
 ·simp
theorem in_getH {l:List Int} {lo hi:Int} (h:In l lo hi) {k:Nat} (hk:k<l.length):lo≤l.getD k 0∧l.getD k 0≤hi:=by
 have e:l.getD k 0=l[k]:=by simp [hk]
 rw [e];exact in_mem h (List.getElem_mem _)
abbrev BoxH (w h q:Int) (b d:Bool) (l:List Int):AObj:=⟨[I w,I h,I q,B b,B d,IL l],0,0,none⟩
end Go.Proofs.YtainhhfnnclfiaaGreat
