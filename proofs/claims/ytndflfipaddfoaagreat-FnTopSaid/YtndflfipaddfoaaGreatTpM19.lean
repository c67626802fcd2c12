/- Proved in this text: lemmas and contracts of functions that the claim uses (parts: Dtx, ScrB, TopX, Bridge, Read, Read2, Read3). No condition. -/
import Derived.Test.YtndflfipaddfoaaGreatTpM18
import Derived.Test.YtndflfipaddfoaaGreatTpM12
import Derived.Test.YtndflfipaddfoaaGreatTpM16
import Derived.Test.YtndflfipaddfoaaGreatTpM17
import Derived.Test.YtndflfipaddfoaaGreatTpM2
import Derived.Below
import Derived.ChangeArms
import Derived.Test.YtndflfipaddfoaaGreatTpM3
import Derived.Test.YtndflfipaddfoaaGreatTpM10
set_option linter.unusedVariables false
set_option linter.unusedSimpArgs false
set_option maxRecDepth 100000
set_option maxHeartbeats 16000000


namespace Go.Proofs.YtndflfipaddfoaaGreat
open Go Go.Abs
attribute [local irreducible] WpA WpL Rnd Blk Abs.Seq Abs.Fin Abs.FinG FnC FnG FnX FnP FinX Only
attribute [local irreducible] belowD onceD pickD modeD l8D l8AnyD optD anyD seedD headD headAnyD symL HasC blkD mbD strD unpS
theorem fieldRd {n m:Nat} {G:Ctx} {T:List (Nat×AV)} {O:List AObj} {Q:Exit→St→Prop} {ops:Array Oper} {l:List Oper} {tt:TypeId} {pos:String} {after:Array Edge} {d:Nat} {md:Bool} {x:Operand} {u:Value} {V2:AV} (hx:av T x=.agg [.sc u,V2]) (hn:d<n) (h:WpL Tryz.prog n m G md ops l ⟨(d,.sc u)::T,O⟩ Q):
 WpL Tryz.prog n m G md ops ({dst:=some d,op:=.field 62 x 0,type:=tt,pos:=pos,after:=after,guard:=none}::l) ⟨T,O⟩ Q:=
 WpL.pure rfl rfl hn (fun S ι F a w hr=>by
  have hv:=hr.eval x
  rw [show av (St.mk T O).T x=_ from hx] at hv
  obtain ⟨us,hus,hl⟩:=LRel.agg_inv hv
  obtain ⟨v1,vs,f1,f2,rfl,h1,hr2,hf⟩:=hl.uncons
  have e1:=h1.sc_eq
  subst e1
  have hp:(Go.part 9 (v1::vs).toArray 0).run Tryz.prog w=.ok v1 w:=by simp [Go.part,isAgg,Sem.run_bind,run_underlying Tryz.underlying9]
  refine ⟨v1,?_,.sc .nil⟩
  simp [execOp,Instr.field,hus,run_underlying Tryz.underlying62,asAgg,hp,Sem.run_bind]) h
instance l1Pick_p:ConP 171 (∀ (v:Value) (l:List Int) (c:Cr) (xs:List (List UInt8)),CrOk l c∧0<xs.length∧xs.length≤1048576→Pn 171 v l c [.imm 1 xs.length (strs xs)] (belowD l c xs.length).1 [] (Z (xs.getD (belowD l c xs.length).2.toNat []))):=⟨fun v l c xs h=>by
 have hc:=h.1
 have hb:=belowD_ok (xs.length:Int) hc
 have h1:=hb.2.1
 have h2:=hb.2.2.1 (by omega)
 refine FnP.of_body tabOk Tryz.func171 Tryz.ntmps171 rfl (by decide +kernel) (by simp) rfl rfl rfl fun G hp=>?_
 refine go (r:=?_);and_intros<;>intros<;>try exact True.intro
 all_goals first|exact hc.2.1|exact hc.2.2⟩
theorem l3Reader_x (v:Value) (l:List Int) (c:Cr) (h:CrOk l c):FnX Tryz.prog 172 [.ptr 0 0 0] [CurO v c] [v] [CodA l] (Cr×List UInt8×Int) (fun y=>CrOk l y.1∧y.2.1.length≤8) (fun y=>[CurO v y.1]) (fun _=>[]) (fun y=>.agg [Z y.2.1,I y.2.2]):=by
 have hb:=belowD_ok 9 h
 have hb0:=hb.2.1
 have hb1:=hb.2.2.1 (by decide)
 refine FnX.of_body tabOk Tryz.func172 Tryz.ntmps172 rfl (by decide +kernel) (by simp) rfl rfl fun G hp=>?_
 refine go (r:=?_);and_intros<;>intros<;>try exact True.intro
 all_goals first|exact h.2.1|exact h.2.2|skip
 refine WpA.loop (fun x:Nat×Cr×List UInt8=>⟨[(0,.ptr 0 0 0),(2,.ptr 1 0 0),(3,Z x.2.2),(4,I x.1)],[CurO v x.2.1,⟨[Z [],I 0],0,0,none⟩]⟩) (fun x=>CrOk l x.2.1∧x.2.2.length+x.1≤8) (fun x=>x.1) ((belowD l c 9).2.toNat,(belowD l c 9).1,[]) ⟨hb.1,by simp only [List.length_nil];omega⟩ ?_ ?_
 ·have ez:(((belowD l c 9).2.toNat:Nat):Int)=(belowD l c 9).2:=by omega
  simp only [ez]
  exact zk0
 rintro ⟨k,c1,s⟩ ⟨hc1,hlen⟩
 try simp only at hc1 hlen ⊢
 by_cases hk0:k=0
 ·subst hk0
  have hb2:=belowD_ok (8*(s.length:Int)+1) hc1
  have ho:=onceD_ok 14 hb2.1
  have hp1:=pickD_ok (xs:=[-1,8*(s.length:Int)+1]) ho (by simp)
  refine go (r:=?_);and_intros<;>intros<;>try exact True.intro
  all_goals first|exact hc1.2.1|exact hc1.2.2|exact hb2.1.2.1|exact hb2.1.2.2|exact ho.2.1|exact ho.2.2|(simp;done)|omega|skip
  all_goals
   refine FinX.fin (y:=((_,_),_,_)) (FinG.oI [some 0] rfl (ResV.cell (ds:=[_,_]) rfl rfl rfl rfl rfl) (.agg (.keep rfl rfl rfl (.keep rfl rfl rfl .nil)) .nil) (.obj rfl rfl rfl rfl rfl (.inr rfl) .nil) rfl rfl) ⟨?_,?_⟩
  all_goals first|exact hp1.1|exact ho|(simp only;omega)
 ·have hb2:=belowD_ok 256 hc1
  have hp1:=pickD_ok (xs:=[0,1,255,128,(belowD l c1 256).2]) hb2.1 (by simp)
  refine go (r:=?_);and_intros<;>intros<;>try exact True.intro
  all_goals first|exact hc1.2.1|exact hc1.2.2|exact hb2.1.2.1|exact hb2.1.2.2|(simp;done)|omega|skip
  refine Rnd.go (k-1,(pickD l (belowD l c1 256).1 [0,1,255,128,(belowD l c1 256).2]).1,s++List.map (fun n:Int=>UInt8.ofNat n.toNat) [IntKind.u8.wrap (pickD l (belowD l c1 256).1 [0,1,255,128,(belowD l c1 256).2]).2]) ⟨hp1.1,by simp only [List.length_append,List.length_map,List.length_singleton];omega⟩ ?_ ?_
  ·show k-1<k;omega
  ·exact zk0
theorem get3 (i:Nat):(([[0],[128],[120]]:List (List UInt8)).getD i []).length≤1:=by
 match i with
 |0=>decide
 |1=>decide
 |2=>decide
 |i+3=>simp
abbrev TxX (f:Nat) (v:Value) (l:List Int) (c:Cr):Prop:=FnX Tryz.prog f [.ptr 0 0 0] [CurO v c] [v] [CodA l] (Cr×List UInt8) (fun y=>CrOk l y.1∧y.2.length≤200000) (fun y=>[CurO v y.1]) (fun _=>[]) (fun y=>Z y.2)
theorem l24Text_x (v:Value) (l:List Int) (c:Cr) (h:CrOk l c):TxX 87 v l c:=by
 have hs:=strD_ok h
 have hs1:=hs.1
 have hs2:=hs.2.1
 have hmw:=mw_small hs.2.2.2.2
 have hln:=hs.2.2.2.1
 have hcm:=cntM_bd hs.2.2.1
 have hcm2:=hcm.2.2.2
 have hmw2:mw (strD l c).2.ms≤1048576:=by omega
 have hb:=belowD_ok 9 hs1
 have hu:=unpS_len (strD l c).2.hd.w (strD l c).2.hd.h (strD l c).2.hd.q (strD l c).2.hd.b (strD l c).2.hd.d (strD l c).2.hd.lens (strD l c).2.ms
 have hb8:CrOk l (belowD l (strD l c).1 9).1:=hb.1
 have hc21:=hb8.2.1
 have hc22:=hb8.2.2
 have hk:=belowD_ok ((unpS (strD l c).2.hd.w (strD l c).2.hd.h (strD l c).2.hd.q (strD l c).2.hd.b (strD l c).2.hd.d (strD l c).2.hd.lens (strD l c).2.ms).length:Int) hb8
 have hk0:=hk.2.1
 have hk1:=hk.2.2.1
 have hk2:=hk.1.2.1
 have hkc:=hk.1
 have hk3:=hk.1.2.2
 have hj:=belowD_ok 8 hk.1
 have hj0:=hj.2.1
 have hj1:=hj.2.2.1 (by decide)
 have hm:=belowD_ok (((unpS (strD l c).2.hd.w (strD l c).2.hd.h (strD l c).2.hd.q (strD l c).2.hd.b (strD l c).2.hd.d (strD l c).2.hd.lens (strD l c).2.ms).length:Int)+1) hb8
 have hm0:=hm.2.1
 have hm1:=hm.2.2.1 (by omega)
 have hp3:=get3 (belowD l (belowD l (strD l c).1 9).1 ((([[0],[128],[120]]:List (List UInt8)).length:Nat):Int)).2.toNat
 refine FnX.of_body tabOk Tryz.func87 Tryz.ntmps87 rfl (by decide +kernel) (by simp) rfl rfl fun G hp=>?_
 refine goR (r:=?_);and_intros<;>intros<;>try exact True.intro
 all_goals first|exact h.2.1|exact h.2.2|exact hs1.2.1|exact hs1.2.2|omega|skip
 all_goals first
  |(refine FinX.fin (y:=((_,_),_)) (FinG.oI [some 0] rfl (ResV.tmp rfl) (.keep rfl rfl rfl .nil) (.obj rfl rfl rfl rfl rfl (.inr rfl) .nil) rfl rfl) ⟨?_,?_⟩<;>first|exact hb8|exact (belowD_ok _ hb8).1|exact (belowD_ok _ (belowD_ok _ hb8).1).1|(simp only;omega)|(simp;omega)|(simp only [List.length_append];omega))
  |(simp;done)
  |(show (3:Nat)≤1048576;omega)
  |skip
 ·have hpos:0<((unpS (strD l c).2.hd.w (strD l c).2.hd.h (strD l c).2.hd.q (strD l c).2.hd.b (strD l c).2.hd.d (strD l c).2.hd.lens (strD l c).2.ms).length:Int):=by omega
  have hk1:=hk1 hpos
  have hbl:(List.map (fun b:UInt8=>(b.toNat:Int)) (unpS (strD l c).2.hd.w (strD l c).2.hd.h (strD l c).2.hd.q (strD l c).2.hd.b (strD l c).2.hd.d (strD l c).2.hd.lens (strD l c).2.ms)).length=(unpS (strD l c).2.hd.w (strD l c).2.hd.h (strD l c).2.hd.q (strD l c).2.hd.b (strD l c).2.hd.d (strD l c).2.hd.lens (strD l c).2.ms).length:=by simp
  refine goR (r:=?_);and_intros<;>intros<;>try exact True.intro
  apply WpA.regionSF (O:=[]) (Or:=[CurO v (belowD l (belowD l (strD l c).1 9).1 (unpS (strD l c).2.hd.w (strD l c).2.hd.h (strD l c).2.hd.q (strD l c).2.hd.b (strD l c).2.hd.d (strD l c).2.hd.lens (strD l c).2.ms).length).1,XI (strD l c).2.hd.lens,MbO (strD l c).2.ms,⟨u8s (List.map (fun b:UInt8=>(b.toNat:Int)) (unpS (strD l c).2.hd.w (strD l c).2.hd.h (strD l c).2.hd.q (strD l c).2.hd.b (strD l c).2.hd.d (strD l c).2.hd.lens (strD l c).2.ms)),0,1,none⟩]) (O1:=[CurO v (belowD l (belowD l (belowD l (strD l c).1 9).1 (unpS (strD l c).2.hd.w (strD l c).2.hd.h (strD l c).2.hd.q (strD l c).2.hd.b (strD l c).2.hd.d (strD l c).2.hd.lens (strD l c).2.ms).length).1 8).1,XI (strD l c).2.hd.lens,MbO (strD l c).2.ms,⟨u8s (List.map (fun b:UInt8=>(b.toNat:Int)) (unpS (strD l c).2.hd.w (strD l c).2.hd.h (strD l c).2.hd.q (strD l c).2.hd.b (strD l c).2.hd.d (strD l c).2.hd.lens (strD l c).2.ms)),0,1,none⟩]) 10 0 [3] [] rfl mixed (by decide +kernel)
  ·exact rfl
  ·apply HeadS.consF .none rfl
   ·exact rfl
   ·exact rfl
   ·exact in1
   ·exact rfl
   ·exact rfl
   apply HeadS.consF .none rfl
   ·exact rfl
   ·exact rfl
   ·exact in1
   ·exact rfl
   ·exact rfl
   apply HeadS.consF .none rfl
   ·exact rfl
   ·exact rfl
   ·exact in1
   ·exact rfl
   ·exact rfl
   apply HeadS.consF .none rfl
   ·exact rfl
   ·exact rfl
   ·exact in1
   ·exact rfl
   ·exact rfl
   apply HeadS.consF .none rfl
   ·exact rfl
   ·exact rfl
   ·intro Tv Ov hc hp' hd hk
    obtain ⟨x0,x1,x2,R,rfl⟩:=Abs.split4 (hk 3 rfl)
    exact in1
   ·exact rfl
   ·exact rfl
   apply HeadS.consF .none rfl
   ·exact rfl
   ·exact rfl
   ·intro Tv Ov hc hp' hd hk
    obtain ⟨x0,x1,x2,R,rfl⟩:=Abs.split4 (hk 3 rfl)
    exact in1
   ·exact rfl
   ·exact rfl
   apply HeadS.consF .none rfl
   ·exact rfl
   ·exact rfl
   ·exact in1
   ·exact rfl
   ·exact rfl
   apply HeadS.consF (V:=I (belowD l (belowD l (belowD l (strD l c).1 9).1 (unpS (strD l c).2.hd.w (strD l c).2.hd.h (strD l c).2.hd.q (strD l c).2.hd.b (strD l c).2.hd.d (strD l c).2.hd.lens (strD l c).2.ms).length).1 8).2) (.step 0 (CurO v (belowD l (belowD l (belowD l (strD l c).1 9).1 (unpS (strD l c).2.hd.w (strD l c).2.hd.h (strD l c).2.hd.q (strD l c).2.hd.b (strD l c).2.hd.d (strD l c).2.hd.lens (strD l c).2.ms).length).1 8).1)) rfl
   ·exact rfl
   ·exact rfl
   ·intro Tv Ov hc hp' hd hk
    obtain ⟨R,rfl⟩:=split1 (hp' 0 _ rfl)
    refine K.call ?_
    refine K.conP (fun hcon=>?_)
    refine WpL.callP1 (hcon v l (belowD l (belowD l (strD l c).1 9).1 (unpS (strD l c).2.hd.w (strD l c).2.hd.h (strD l c).2.hd.q (strD l c).2.hd.b (strD l c).2.hd.d (strD l c).2.hd.lens (strD l c).2.ms).length).1 8 hkc) hp handA handOA rfl (.cons rfl (.sc (.sc (.sc .nil))) .nil) (by decide) ?_
    exact WpL.nil (Only.mk rfl)
   ·exact rfl
   ·exact rfl
   apply HeadS.consF .none rfl
   ·exact rfl
   ·exact rfl
   ·exact in1
   ·exact rfl
   ·exact rfl
   apply HeadS.consF .none rfl
   ·exact rfl
   ·exact rfl
   ·exact in1
   ·exact rfl
   ·exact rfl
   exact HeadS.nil
  ·exact rfl
  ·exact rfl
  ·exact rfl
  ·exact rfl
  ·exact rfl
  ·exact rfl
  ·exact rfl
  refine go (r:=?_);and_intros<;>intros<;>try exact True.intro
  all_goals first|(refine FinX.fin (y:=((_,_),_)) (FinG.oI [some 0] rfl (ResV.tmp rfl) (.keep rfl rfl rfl .nil) (.obj rfl rfl rfl rfl rfl (.inr rfl) .nil) rfl rfl) ⟨?_,?_⟩<;>first|exact hb8|exact (belowD_ok _ hb8).1|exact (belowD_ok _ (belowD_ok _ hb8).1).1|(simp only;omega)|(simp;omega)|(simp only [List.length_append];omega))
 ·have hpos:0<((unpS (strD l c).2.hd.w (strD l c).2.hd.h (strD l c).2.hd.q (strD l c).2.hd.b (strD l c).2.hd.d (strD l c).2.hd.lens (strD l c).2.ms).length:Int):=by omega
  have hk1:=hk1 hpos
  have hbl:(List.map (fun b:UInt8=>(b.toNat:Int)) (unpS (strD l c).2.hd.w (strD l c).2.hd.h (strD l c).2.hd.q (strD l c).2.hd.b (strD l c).2.hd.d (strD l c).2.hd.lens (strD l c).2.ms)).length=(unpS (strD l c).2.hd.w (strD l c).2.hd.h (strD l c).2.hd.q (strD l c).2.hd.b (strD l c).2.hd.d (strD l c).2.hd.lens (strD l c).2.ms).length:=by simp
  refine goR (r:=?_);and_intros<;>intros<;>try exact True.intro
  apply WpA.regionSF (O:=[]) (Or:=[CurO v (belowD l (belowD l (strD l c).1 9).1 (unpS (strD l c).2.hd.w (strD l c).2.hd.h (strD l c).2.hd.q (strD l c).2.hd.b (strD l c).2.hd.d (strD l c).2.hd.lens (strD l c).2.ms).length).1,XI (strD l c).2.hd.lens,MbO (strD l c).2.ms,⟨u8s (List.map (fun b:UInt8=>(b.toNat:Int)) (unpS (strD l c).2.hd.w (strD l c).2.hd.h (strD l c).2.hd.q (strD l c).2.hd.b (strD l c).2.hd.d (strD l c).2.hd.lens (strD l c).2.ms)),0,1,none⟩]) (O1:=[CurO v (belowD l (belowD l (belowD l (strD l c).1 9).1 (unpS (strD l c).2.hd.w (strD l c).2.hd.h (strD l c).2.hd.q (strD l c).2.hd.b (strD l c).2.hd.d (strD l c).2.hd.lens (strD l c).2.ms).length).1 8).1,XI (strD l c).2.hd.lens,MbO (strD l c).2.ms,⟨u8s (List.map (fun b:UInt8=>(b.toNat:Int)) (unpS (strD l c).2.hd.w (strD l c).2.hd.h (strD l c).2.hd.q (strD l c).2.hd.b (strD l c).2.hd.d (strD l c).2.hd.lens (strD l c).2.ms)),0,1,none⟩]) 10 0 [3] [] rfl mixed (by decide +kernel)
  ·exact rfl
  ·apply HeadS.consF .none rfl
   ·exact rfl
   ·exact rfl
   ·exact in1
   ·exact rfl
   ·exact rfl
   apply HeadS.consF .none rfl
   ·exact rfl
   ·exact rfl
   ·exact in1
   ·exact rfl
   ·exact rfl
   apply HeadS.consF .none rfl
   ·exact rfl
   ·exact rfl
   ·exact in1
   ·exact rfl
   ·exact rfl
   apply HeadS.consF .none rfl
   ·exact rfl
   ·exact rfl
   ·exact in1
   ·exact rfl
   ·exact rfl
   apply HeadS.consF .none rfl
   ·exact rfl
   ·exact rfl
   ·intro Tv Ov hc hp' hd hk
    obtain ⟨x0,x1,x2,R,rfl⟩:=Abs.split4 (hk 3 rfl)
    exact in1
   ·exact rfl
   ·exact rfl
   apply HeadS.consF .none rfl
   ·exact rfl
   ·exact rfl
   ·intro Tv Ov hc hp' hd hk
    obtain ⟨x0,x1,x2,R,rfl⟩:=Abs.split4 (hk 3 rfl)
    exact in1
   ·exact rfl
   ·exact rfl
   apply HeadS.consF .none rfl
   ·exact rfl
   ·exact rfl
   ·exact in1
   ·exact rfl
   ·exact rfl
   apply HeadS.consF (V:=I (belowD l (belowD l (belowD l (strD l c).1 9).1 (unpS (strD l c).2.hd.w (strD l c).2.hd.h (strD l c).2.hd.q (strD l c).2.hd.b (strD l c).2.hd.d (strD l c).2.hd.lens (strD l c).2.ms).length).1 8).2) (.step 0 (CurO v (belowD l (belowD l (belowD l (strD l c).1 9).1 (unpS (strD l c).2.hd.w (strD l c).2.hd.h (strD l c).2.hd.q (strD l c).2.hd.b (strD l c).2.hd.d (strD l c).2.hd.lens (strD l c).2.ms).length).1 8).1)) rfl
   ·exact rfl
   ·exact rfl
   ·intro Tv Ov hc hp' hd hk
    obtain ⟨R,rfl⟩:=split1 (hp' 0 _ rfl)
    refine K.call ?_
    refine K.conP (fun hcon=>?_)
    refine WpL.callP1 (hcon v l (belowD l (belowD l (strD l c).1 9).1 (unpS (strD l c).2.hd.w (strD l c).2.hd.h (strD l c).2.hd.q (strD l c).2.hd.b (strD l c).2.hd.d (strD l c).2.hd.lens (strD l c).2.ms).length).1 8 hkc) hp handA handOA rfl (.cons rfl (.sc (.sc (.sc .nil))) .nil) (by decide) ?_
    exact WpL.nil (Only.mk rfl)
   ·exact rfl
   ·exact rfl
   apply HeadS.consF .none rfl
   ·exact rfl
   ·exact rfl
   ·exact in1
   ·exact rfl
   ·exact rfl
   apply HeadS.consF .none rfl
   ·exact rfl
   ·exact rfl
   ·exact in1
   ·exact rfl
   ·exact rfl
   exact HeadS.nil
  ·exact rfl
  ·exact rfl
  ·exact rfl
  ·exact rfl
  ·exact rfl
  ·exact rfl
  ·exact rfl
  refine go (r:=?_);and_intros<;>intros<;>try exact True.intro
  all_goals first|(refine FinX.fin (y:=((_,_),_)) (FinG.oI [some 0] rfl (ResV.tmp rfl) (.keep rfl rfl rfl .nil) (.obj rfl rfl rfl rfl rfl (.inr rfl) .nil) rfl rfl) ⟨?_,?_⟩<;>first|exact hb8|exact (belowD_ok _ hb8).1|exact (belowD_ok _ (belowD_ok _ hb8).1).1|(simp only;omega)|(simp;omega)|(simp only [List.length_append];omega))
 ·refine K.call ?_
  refine WpL.callE (hs:=[0]) (l3Reader_x v l (belowD l (strD l c).1 9).1 hb8) hp handA handOA rfl (fun _=>rfl) (fun _=>.cons rfl (.sc (.sc (.sc .nil))) .nil) (fun _=>outA) rfl rfl (fun _=>rfl) (fun _=>rfl) (by decide) (fun y hy=>?_)
  refine fieldRd rfl (by decide) ?_
  refine go (r:=?_);and_intros<;>intros<;>try exact True.intro
  all_goals exact FinX.fin (y:=(y.1,y.2.1)) (FinG.oI [some 0] rfl (ResV.tmp rfl) (.keep rfl rfl rfl .nil) (.obj rfl rfl rfl rfl rfl (.inr rfl) .nil) rfl rfl) ⟨hy.1,by have:=hy.2;simp only;omega⟩
end Go.Proofs.YtndflfipaddfoaaGreat


namespace Go.Proofs.YtndflfipaddfoaaGreat
open Go Go.Abs
attribute [local irreducible] WpA WpL Rnd Blk Abs.Seq Abs.Fin Abs.FinG FnC FnG FnX FnP FinX Only
instance big_c:Con 24 (∀ l:List Int,l.length≤9223372036854775807→Fn 24 [CodA l] [] (B (decide ((l.length:Int)>1048576)))):=⟨fun l hl=>by
 refine FnC.of_body tabOk Tryz.func24 Tryz.ntmps24 rfl (by decide +kernel) (by simp) fun G=>?_
 refine go (r:=?_);and_intros<;>intros<;>try exact True.intro⟩
end Go.Proofs.YtndflfipaddfoaaGreat


namespace Go.Proofs.YtndflfipaddfoaaGreat
open Go Go.Abs
attribute [local irreducible] WpA WpL Rnd Blk Abs.Seq Abs.Fin Abs.FinG FnC FnG FnX FnP FinX Only
attribute [local irreducible] seedD prS decF unpS
def erT:List (List UInt8):=[[110,111,110,101],[115,104,111,114,116],[104,101,97,100,101,114],[108,105,109,105,116],[99,111,100,101],[99,111,101,102],[116,97,105,108]]
theorem erT_ne {c:Int} (h:0≤c∧c≤6):erT.getD c.toNat []≠[]:=by
 rcases (by omega:c=0∨c=1∨c=2∨c=3∨c=4∨c=5∨c=6) with rfl|rfl|rfl|rfl|rfl|rfl|rfl<;>decide
instance ErWord_c:Con 34 (∀ c:Int,0≤c∧c≤6→Fn 34 [I c] [] (Z (erT.getD c.toNat []))):=⟨fun c hc=>by
 unfold erT
 refine FnC.of_body tabOk Tryz.func34 Tryz.ntmps34 rfl (by decide +kernel) (by simp) fun G=>?_
 refine go (r:=?_);and_intros<;>intros<;>try exact True.intro
 all_goals first|contradiction|omega⟩
theorem DrawRefDecode_x (v:Value) (l:List Int) (hl:l.length≤1048576):FnX Tryz.prog 33 [.sc v] [] [v] [CodA l] (List UInt8) (fun y=>y.length≤200000) (fun _=>[]) (fun _=>[]) (fun y=>Z y):=by
 have hn:=newD_ok hl
 refine FnX.of_body tabOk Tryz.func33 Tryz.ntmps33 rfl (by decide +kernel) (by simp) rfl rfl fun G hp=>?_
 refine goR (r:=?_);and_intros<;>intros<;>try exact True.intro
 refine K.call ?_
 refine WpL.callN (l1New_p v l hl) hp handA (.cons rfl (.sc (.sc (.sc .nil))) .nil) rfl rfl (by decide) ?_
 refine K.call ?_
 refine WpL.callE (hs:=[0]) (l24Text_x v l (newD l) hn) hp handA handOA rfl (fun _=>rfl) (fun _=>.cons rfl (.sc (.sc (.sc .nil))) .nil) (fun _=>outA) rfl rfl (fun _=>rfl) (fun _=>rfl) (by decide) (fun y hy=>?_)
 refine go (r:=?_);and_intros<;>intros<;>try exact True.intro
 exact FinX.fin (y:=y.2) (FinG.oI [] rfl (ResV.tmp rfl) (.keep rfl rfl rfl .nil) .nil rfl rfl) hy.2
section
attribute [-instance] Parse_c
theorem FnTop_p (v:Value) (l:List Int) (hl:l.length≤9223372036854775807):FnP Tryz.prog 6 [.sc v] [] [v] [CodA l] [] [] (B true):=by
 by_cases hb:(l.length:Int)>1048576
 ·refine FnP.of_body tabOk Tryz.func6 Tryz.ntmps6 rfl (by decide +kernel) (by simp) rfl rfl rfl fun G hp=>?_
  refine goR (r:=?_);and_intros<;>intros<;>try exact True.intro
  refine WpL.pin (d:=11) hp rfl ?_
  refine go (r:=?_);and_intros<;>intros<;>try exact True.intro
  exact FinG.oI [] rfl (ResV.tmp rfl) (.keep rfl rfl rfl .nil) .nil rfl rfl
 ·have hl2:l.length≤1048576:=by omega
  refine FnP.of_body tabOk Tryz.func6 Tryz.ntmps6 rfl (by decide +kernel) (by simp) rfl rfl rfl fun G hp=>?_
  refine goR (r:=?_);and_intros<;>intros<;>try exact True.intro
  refine WpL.pin (d:=11) hp rfl ?_
  refine goR (r:=?_);and_intros<;>intros<;>try exact True.intro
  all_goals first|contradiction|omega|skip
  refine K.call ?_
  refine WpL.callE (hs:=[]) (DrawRefDecode_x v l hl2) hp handA handOA rfl (fun _=>rfl) (fun _=>.nil) (fun _=>outA) rfl rfl (fun _=>rfl) (fun _=>rfl) (by decide) (fun p hy=>?_)
  have hz:=prS_sz p
  have hlen:(prS p).ms.length*2=(rows Abs.mbF (prS p).ms).length:=(rows_len (f:=Abs.mbF) (k:=2) (fun _=>rfl) (prS p).ms).symm
  have hrd:=RefDecode_c p (by omega)
  have hfd:=FastDecode_c p (by omega)
  obtain ⟨hcd,hra,hms⟩:=prS_cd p
  have her:=erT_ne hcd
  by_cases h0:(prS p).c=0
  ·obtain ⟨P,hdf,hfo,hpl⟩:=decF_0 h0
   have hgd:=prS_good h0
   have hgb:=decide_eq_true hgd
   have hfb:=decide_eq_true hfo
   have hu:=prS_unp h0
   rw [hdf] at hrd hfd
   rw [h0] at hrd hfd her hcd
   refine goR (r:=?_);and_intros<;>intros<;>try exact True.intro
   refine K.call ?_
   apply WpL.callK hrd
   ·exact .keep rfl rfl .nil
   ·decide
   refine goR (r:=?_);and_intros<;>intros<;>try exact True.intro
   all_goals first|contradiction|omega|skip
   refine K.call ?_
   apply WpL.callK hfd
   ·exact .keep rfl rfl .nil
   ·decide
   refine goR (r:=?_);and_intros<;>intros<;>try exact True.intro
   all_goals first|contradiction|omega|(simp;done)|(exfalso;rename_i hg;revert hg;simp;done)|skip
   refine K.call ?_
   apply WpL.callI (Parse_c.ok p (by omega))
   ·exact snapA
   ·exact locA
   ·exact outA
   ·exact FrzR.tup (.agg (.keep rfl rfl (.keep rfl rfl (.keep rfl rfl (.keep rfl rfl (.keep rfl rfl (.own rfl rfl rfl (by simp) rfl (Snap.same rfl (still_ints _) (nofre_ints _)) (.own rfl rfl rfl hlen rfl (Snap.rows snap_mb _) .nil))))))) (.keep rfl rfl (.keep rfl rfl .nil)))
   ·decide
   refine goR (r:=?_);and_intros<;>intros<;>try exact True.intro
   all_goals first|contradiction|omega|exact hz.2.2.2|(simp only [eq_self_iff_true,decide_true,Int.natCast_zero];exact FinG.oI [] rfl (ResV.tmp rfl) (.keep rfl rfl rfl .nil) .nil rfl rfl)
  ·have hms:=hms h0
   rw [decF_1 h0] at hrd hfd
   refine goR (r:=?_);and_intros<;>intros<;>try exact True.intro
   refine K.call ?_
   apply WpL.callK hrd
   ·exact .keep rfl rfl .nil
   ·decide
   refine goR (r:=?_);and_intros<;>intros<;>try exact True.intro
   all_goals first|contradiction|omega|skip
   refine K.call ?_
   apply WpL.callK hfd
   ·exact .keep rfl rfl .nil
   ·decide
   refine goR (r:=?_);and_intros<;>intros<;>try exact True.intro
   all_goals first|contradiction|omega|(simp;done)|(exfalso;rename_i hg;revert hg;simp;done)|skip
   refine K.call ?_
   apply WpL.callI (Parse_c.ok p (by omega))
   ·exact snapA
   ·exact locA
   ·exact outA
   ·exact FrzR.tup (.agg (.keep rfl rfl (.keep rfl rfl (.keep rfl rfl (.keep rfl rfl (.keep rfl rfl (.own rfl rfl rfl (by simp) rfl (Snap.same rfl (still_ints _) (nofre_ints _)) (.own rfl rfl rfl hlen rfl (Snap.rows snap_mb _) .nil))))))) (.keep rfl rfl (.keep rfl rfl .nil)))
   ·decide
   refine goR (r:=?_);and_intros<;>intros<;>try exact True.intro
   rw [hms]
   simp only [List.length_nil,Int.natCast_zero,decide_true,eq_self_iff_true]
   exact FinG.oI [] rfl (ResV.tmp rfl) (.keep rfl rfl rfl .nil) .nil rfl rfl
theorem FnTop_c (l:List Int) (hl:l.length≤9223372036854775807):Fn 6 [CodA l] [] (B true):=FnC.of_pin fun v=>FnTop_p v l hl
end
end Go.Proofs.YtndflfipaddfoaaGreat


namespace Go.Abs
open Go Go.RowKit
theorem FnC.walk {P:Program} {f:FuncId} {args:List AV} {N:List AObj} {x:Value} (hc:FnC P f args N (.sc x)) {w:World} {S:Nat→Prop} {vs:List Value} (hS:∀b,S b→b<w.heap.size)
 (hl:LRel S w (fun _=>none) [] args vs []):Calls P f vs.toArray w fun e w'=>e=.returned x∧Below w.heap.size w w':=by
 refine (hc.2 w S vs hS hl).mono fun e w' h=>?_
 obtain ⟨v,S',ι,F,rfl,_,_,_,_,_,hv,hk⟩:=h
 cases hv with
 |sc r=>exact ⟨rfl,hk.os,hk.tape,hk.output,hk.size,fun b hb=>hk.block b hb (fun h=>h)⟩
theorem spot_none {w:World} {x:Addr} {n:Nat} (h:0<n) (hc:∀i,i<n→∃v,w.cell? (x.add i)=some v):x.spot=none:=by
 obtain ⟨v,hv⟩:=hc 0 h
 simpa [Addr.add] using World.cell?_spot hv
end Go.Abs


namespace Go.Abs
open Go Go.RowKit
inductive Sp where
 |int (k:IntKind)|bool|str|struct (fs:List Sp)|slice (k:Nat) (e:Sp)
mutual
inductive SpOk (P:Program):TypeId→Sp→Prop
 |int {t k}:P.underlying t=some (.int k)→SpOk P t (.int k)
 |bool {t}:P.underlying t=some .bool→SpOk P t .bool
 |str {t}:P.underlying t=some .string→SpOk P t .str
 |struct {t fs sps n}:P.underlying t=some (.struct fs)→P.cellsOf t=n→SpF P 0 fs.toList sps n→SpOk P t (.struct sps)
 |slice {t e k sp}:P.underlying t=some (.slice e)→P.cellsOf e=k→0<k→SpOk P e sp→SpOk P t (.slice k sp)
inductive SpF (P:Program):Nat→List Field→List Sp→Nat→Prop
 |nil {k}:SpF P k [] [] k
 |cons {k c f fs sp sps n}:f.offset=k→P.cellsOf f.type=c→SpOk P f.type sp→SpF P (k+c) fs sps n→SpF P k (f::fs) (sp::sps) n
end
mutual
inductive Rd:Sp→List AV→Prop
 |int {k n}:(Lit.int k n).wf=true→Rd (.int k) [.sc (.int k n)]
 |bool {b}:Rd .bool [.sc (.bool b)]
 |str {p:List UInt8}:p.length≤maxLen→Rd .str [.sc (.string ⟨p.toArray⟩)]
 |struct {sps cs}:RdF sps cs→Rd (.struct sps) cs
 |slice {sp len k cs}:len≤maxLen→RdN sp len k cs→Rd (.slice k sp) [.imm k len cs]
inductive RdF:List Sp→List AV→Prop
 |nil:RdF [] []
 |cons {sp sps a b}:Rd sp a→RdF sps b→RdF (sp::sps) (a++b)
inductive RdN:Sp→Nat→Nat→List AV→Prop
 |nil {sp k}:RdN sp 0 k []
 |snoc {sp n k a b}:RdN sp n k a→Rd sp b→b.length=k→RdN sp (n+1) k (a++b)
end
theorem RdN.len {sp n k cs} (h:RdN sp n k cs):cs.length=n*k:=by
 induction n generalizing cs with
 |zero=>cases h;simp
 |succ n ih=>cases h with|snoc h1 h2 h3=>rw [List.length_append,ih h1,h3,Nat.add_mul];omega
section
variable {H:Type} {enc:TypeId×Value→H} {P:Program} {w:World} {base:Nat} {spare:Nat→Bool} {held:Bool}
theorem read {S:Nat→Prop} {ι:Nat→Spot} (hS:∀b,b<w.heap.size→S b):∀(fuel:Nat) (t:TypeId) (sp:Sp) (cs:List Value) (x:DataW H×List MemPlace),SpOk P t sp→
 DataW.trod enc P w base spare held fuel t cs=some x→∃ds,Rd sp ds∧∀O,LRel S w ι O ds cs []:=by
 intro fuel
 induction fuel with
 |zero=>intro t sp cs x _ h;simp [DataW.trod] at h
 |succ fuel ih=>
  intro t sp cs x hsp h
  cases hsp with
  |int ht=>
   obtain ⟨n,rfl,_,hw⟩:=DataW.trod_int ht h
   exact ⟨_,.int hw,fun O=>.sc .nil⟩
  |bool ht=>
   obtain ⟨b,rfl,_⟩:=DataW.trod_bool ht h
   exact ⟨_,.bool,fun O=>.sc .nil⟩
  |str ht=>
   obtain ⟨s,rfl,_,hs⟩:=DataW.trod_string ht h
   exact ⟨[.sc (.string ⟨s.data.toList.toArray⟩)],.str (by have:s.data.toList.length=s.size:=rfl;omega),fun O=>.sc .nil⟩
  |@struct _ fs sps n ht hn hf=>
   obtain ⟨xs,m,hm,_,hlen,hxl,hel⟩:=DataW.trod_struct ht h
   obtain rfl:fuel=m:=by omega
   have key:∀(fl:List Field) (k:Nat) (sps:List Sp),SpF P k fl sps n→(∀ f∈fl,∃x,DataW.trod enc P w base spare held fuel f.type ((cs.drop f.offset).take (P.cellsOf f.type))=some x)→
    k≤n→∃ds,RdF sps ds∧∀O,LRel S w ι O ds (cs.drop k) []:=by
    intro fl
    induction fl with
    |nil=>
     intro k sps hF _ _
     cases hF
     exact ⟨[],.nil,fun O=>by rw [List.drop_eq_nil_of_le (by omega)];exact .nil⟩
    |cons f fl ihf=>
     intro k sps hF hx hk
     cases hF with
     |cons h1 h2 h3 h4=>
      obtain ⟨y,hy⟩:=hx f (by simp)
      obtain ⟨d1,r1,l1⟩:=ih _ _ _ _ h3 hy
      have hkn:∀{k fl sps},SpF P k fl sps n→k≤n:=by
       intro k fl
       induction fl generalizing k with
       |nil=>intro sps h;cases h;exact Nat.le_refl _
       |cons f fl ih2=>intro sps h;cases h with|cons _ _ _ h=>have:=ih2 h;omega
      obtain ⟨d2,r2,l2⟩:=ihf _ _ h4 (fun g hg=>hx g (by simp [hg])) (hkn h4)
      refine ⟨d1++d2,.cons r1 r2,fun O=>?_⟩
      have e:cs.drop k=(cs.drop f.offset).take (P.cellsOf f.type)++cs.drop (k+P.cellsOf f.type):=by
       rw [h1,←List.drop_drop,List.take_append_drop]
      rw [e,h2]
      rw [h2] at l1
      simpa using (l1 O).append (l2 O)
   obtain ⟨ds,r,l⟩:=key fs.toList 0 sps hf (fun f hf'=>by
    obtain ⟨i,hi⟩:=List.getElem?_of_mem hf'
    have hi':fs[i]?=some f:=by simpa using hi
    have:=hel i f hi'
    have hlt:i<xs.length:=by have:=(Array.getElem?_eq_some_iff.1 hi').1;omega
    exact ⟨xs[i],by rw [this];simp [hlt]⟩) (Nat.zero_le _)
   exact ⟨ds,.struct r,fun O=>by simpa using l O⟩
  |@slice _ e k sp ht hk hk0 he=>
   rcases DataW.trod_slice ht h with ⟨rfl,_⟩|⟨a,len,cap,elems,rest,m,hm,rfl,_,hb,hl,hc,hlen,hel,_,_⟩
   ·exact ⟨[.imm k 0 []],.slice (by simp) .nil,fun O=>.imm0 (by simp) .nil⟩
   obtain rfl:fuel=m:=by omega
   have cells:∀j,j≤len→∃ds us,RdN sp j k ds∧us.length=j*k∧(∀ i,i<us.length→w.cell? (a.add i)=us[i]?)∧LRel S w ι [] ds us []:=by
    intro j
    induction j with
    |zero=>intro _;exact ⟨[],[],.nil,by simp,by simp,.nil⟩
    |succ j ihj=>
     intro hj
     obtain ⟨ds,us,h1,h2,h3,h4⟩:=ihj (by omega)
     have hx:=hel j (by omega)
     have hlt:j<elems.length:=by omega
     rw [List.getElem?_eq_getElem hlt,Option.bind_eq_some_iff,hk] at hx
     obtain ⟨us2,hu,ht2⟩:=hx
     obtain ⟨d2,r2,l2⟩:=ih _ _ _ _ he ht2
     obtain ⟨_,c2,c3⟩:=World.cells?_some hu
     have l2':=l2 []
     have hd2:d2.length=k:=by rw [l2'.len,c2]
     refine ⟨ds++d2,us++us2,.snoc h1 r2 hd2,by rw [List.length_append,h2,c2,Nat.add_mul];omega,fun i hi=>?_,by simpa using h4.append l2'⟩
     rw [List.length_append] at hi
     by_cases hlt2:i<us.length
     ·rw [h3 i hlt2,List.getElem?_append_left hlt2]
     ·have hadd:a.add i=(a.add (j*k)).add (i-j*k):=by
       unfold Addr.add
       by_cases hz:j*k=0
       ·simp [hz]
       ·by_cases hz2:i-j*k=0
        ·have:i=j*k:=by omega
         simp [this]
        ·rw [if_neg (by omega),if_neg hz,if_neg hz2]
         simp only [Addr.mk.injEq,true_and,and_true]
         omega
      rw [hadd,c3 (i-j*k) (by omega),List.getElem?_append_right (by omega),h2]
   obtain ⟨ds,us,h1,h2,h3,h4⟩:=cells len (Nat.le_refl _)
   refine ⟨[.imm k len ds],.slice (by omega) h1,fun O=>?_⟩
   by_cases h0:len=0
   ·subst h0
    cases h1
    exact .imm0 ⟨by simp,hc⟩ .nil
   ·have hul:0<us.length:=by rw [h2];exact Nat.mul_pos (by omega) hk0
    have hsp:=spot_none (w:=w) (x:=a) (n:=us.length) hul fun i hi=>⟨us[i],by rw [h3 i hi];simp [hi]⟩
    obtain ⟨b,o,q⟩:=a
    simp only at hsp
    subst hsp
    have hcell:∀i,i<us.length→w.cell? ⟨b,o+i,none⟩=us[i]?:=fun i hi=>by have:=h3 i hi;rwa [addr_add] at this
    refine .imm (us:=us) (hS _ ?_) hcell h4 (by rw [h1.len]) hl hc .nil
    by_cases hb':b<w.heap.size
    ·exact hb'
    ·have:=hcell 0 hul
     simp [World.cell?,Array.getElem?_eq_none (Nat.le_of_not_lt hb'),hul] at this
end
end Go.Abs


namespace Go.Abs
open Go Go.RowKit
abbrev i64 (n:Int):Prop:=-9223372036854775808≤n∧n≤9223372036854775807
theorem lrel_cons0 {S:Nat→Prop} {w:World} {ι:Nat→Spot} {O:List AObj} {V:AV} {v:Value} {cs:List AV} {vs:List Value} (h1:VRel S w ι O V v []) (h2:LRel S w ι O cs vs []):LRel S w ι O (V::cs) (v::vs) []:=LRel.cons h1 h2
end Go.Abs


namespace Go.Proofs.YtndflfipaddfoaaGreat
open Go Go.Abs Go.RowKit
theorem rdN_u8s {n:Nat} {cs:List AV} (h:RdN (.int .u8) n 1 cs):∃xs:List Int,cs=u8s xs∧xs.length=n∧∀x∈xs,0≤x∧x≤255:=by
 induction n generalizing cs with
 |zero=>cases h;exact ⟨[],rfl,rfl,by simp⟩
 |succ n ih=>
  cases h with
  |snoc h1 h2 h3=>
   obtain ⟨xs,rfl,h5,h6⟩:=ih h1
   cases h2 with
   |@int k m hw=>
    refine ⟨xs++[m],by simp [u8s],by simp [h5],fun x hx=>?_⟩
    rcases List.mem_append.1 hx with hx|hx
    ·exact h6 x hx
    ·have:x=m:=by simpa using hx
     subst this
     simpa [Lit.wf,show IntKind.u8.min=0 from rfl,show IntKind.u8.max=255 from rfl] using hw
theorem rd_u8s {ds:List AV} (h:Rd (.slice 1 (.int .u8)) ds):∃xs:List Int,ds=[.imm 1 xs.length (u8s xs)]∧xs.length≤9223372036854775807∧∀x∈xs,0≤x∧x≤255:=by
 cases h with
 |slice hl hn=>
  obtain ⟨xs,rfl,h1,h2⟩:=rdN_u8s hn
  subst h1
  exact ⟨xs,rfl,by simp only [maxLen] at hl;omega,h2⟩
end Go.Proofs.YtndflfipaddfoaaGreat
