/- Proved in this text: lemmas and contracts of functions that the claim uses (parts: RdP, ParL, Dtx, ScrB, ReD, EdgL, Nb, PredAt, PredL, RecL, Best, AbsXk). No condition. -/
import Derived.Test.YtainhhfnnclfiaaGreatRlM14
import Derived.Test.YtainhhfnnclfiaaGreatRlM13
import Derived.Test.YtainhhfnnclfiaaGreatRlM10
import Derived.Test.YtainhhfnnclfiaaGreatRlM9
import Derived.Test.YtainhhfnnclfiaaGreatRlM11
import Derived.Test.YtainhhfnnclfiaaGreatRlM7
set_option linter.unusedVariables false
set_option linter.unusedSimpArgs false
set_option maxRecDepth 100000
set_option maxHeartbeats 16000000


namespace Go.Proofs.YtainhhfnnclfiaaGreat
open Go Go.Abs
attribute [local irreducible] WpA WpL Rnd Blk Abs.Seq Abs.Fin Abs.FinG FnC FnG Only
theorem hdSL_len (x:HdS):x.L.length≤6:=by
 unfold HdS.L;split
 ·exact Nat.le_refl 6
 ·exact Nat.zero_le _
abbrev StV (x:PrS):AV:=.agg [I x.W,I x.H,I x.Q,B x.B,B x.D,.own 0 0 0 x.L.length,.own 1 0 0 x.ms.length]
def PrN (a c:Int):PrS:=⟨0,0,0,false,false,[],[],a,c⟩
theorem prS_1 {p:List UInt8} (h:(hdS p 0).c≠0):prS p=PrN (hdS p 0).a (hdS p 0).c:=by unfold prS;simp only;rw [if_neg h];rfl
theorem prS_2 {p:List UInt8} (h:(hdS p 0).c=0) (h2:(stRun p (hdS p 0).a (hdS p 0).L (cntM (hdS p 0).W (hdS p 0).H).toNat).c≠0):prS p=PrN (stRun p (hdS p 0).a (hdS p 0).L (cntM (hdS p 0).W (hdS p 0).H).toNat).a (stRun p (hdS p 0).a (hdS p 0).L (cntM (hdS p 0).W (hdS p 0).H).toNat).c:=by
 unfold prS;simp only;rw [if_pos h,if_neg h2];rfl
theorem prS_3 {p:List UInt8} (h:(hdS p 0).c=0) (h2:(stRun p (hdS p 0).a (hdS p 0).L (cntM (hdS p 0).W (hdS p 0).H).toNat).c=0) (h3:endC p (stRun p (hdS p 0).a (hdS p 0).L (cntM (hdS p 0).W (hdS p 0).H).toNat).a≠0):prS p=PrN (stRun p (hdS p 0).a (hdS p 0).L (cntM (hdS p 0).W (hdS p 0).H).toNat).a (endC p (stRun p (hdS p 0).a (hdS p 0).L (cntM (hdS p 0).W (hdS p 0).H).toNat).a):=by
 unfold prS;simp only;rw [if_pos h,if_pos h2,if_neg h3];rfl
theorem prS_4 {p:List UInt8} (h:(hdS p 0).c=0) (h2:(stRun p (hdS p 0).a (hdS p 0).L (cntM (hdS p 0).W (hdS p 0).H).toNat).c=0) (h3:endC p (stRun p (hdS p 0).a (hdS p 0).L (cntM (hdS p 0).W (hdS p 0).H).toNat).a=0):prS p=⟨(hdS p 0).W,(hdS p 0).H,(hdS p 0).Q,(hdS p 0).B,(hdS p 0).D,(hdS p 0).L,(stRun p (hdS p 0).a (hdS p 0).L (cntM (hdS p 0).W (hdS p 0).H).toNat).ms,(stRun p (hdS p 0).a (hdS p 0).L (cntM (hdS p 0).W (hdS p 0).H).toNat).a,0⟩:=by
 unfold prS;simp only;rw [if_pos h,if_pos h2,if_pos h3]
theorem stRun_next {p:List UInt8} {s:Int} {lens:List Int} {k:Nat} (h:(stRun p s lens k).c=0) (hb:(mbS p (stRun p s lens k).a lens).1.c=0):stRun p s lens (k+1)=⟨(mbS p (stRun p s lens k).a lens).1.a,0,(stRun p s lens k).ms++[((mbS p (stRun p s lens k).a lens).2,(mbS p (stRun p s lens k).a lens).1.bs)]⟩:=by
 rw [stRun];simp only;rw [if_pos h,if_pos hb]
theorem stRun_bad {p:List UInt8} {s:Int} {lens:List Int} {k:Nat} (h:(stRun p s lens k).c=0) (hb:(mbS p (stRun p s lens k).a lens).1.c≠0):∀j,k<j→stRun p s lens j=⟨(mbS p (stRun p s lens k).a lens).1.a,(mbS p (stRun p s lens k).a lens).1.c,[]⟩:=by
 intro j hj
 have e:stRun p s lens (k+1)=⟨(mbS p (stRun p s lens k).a lens).1.a,(mbS p (stRun p s lens k).a lens).1.c,[]⟩:=by
  rw [stRun];simp only;rw [if_pos h,if_neg hb]
 rw [stRun_stop (k:=k+1) (by rw [e];exact hb) j hj,e]
section
attribute [local irreducible] hdS stRun mbS endC cntM
instance Parse_c:Con 75 (∀ (p:List UInt8),p.length≤1099511627776→Fn 75 [Z p] [XI (prS p).L,MbO (prS p).ms] (.tup [StV (prS p),I (prS p).a,I (prS p).c])):=⟨fun p hl=>by
 have hr0:RdOk p 0:=⟨by omega,by omega⟩
 have hok:=hdS_ok hr0
 refine FnC.of_body tabOk Tryz.func75 Tryz.ntmps75 rfl (by decide +kernel) (by simp) fun G=>?_
 by_cases hc:(hdS p 0).c=0
 ·have hs:=hdS_sides hc
  have hL:=hdSL_len (hdS p 0)
  have e2:=prS_2 hc
  have e3:=prS_3 hc
  have e4:=prS_4 hc
  have hbd:=cntM_bd hs
  refine go (r:=?_);and_intros<;>intros<;>try exact True.intro
  all_goals first|contradiction|skip
  generalize hx:hdS p 0=x at hc hs hL e2 e3 e4 hbd hok ⊢
  have hz:stRun p x.a x.L 0=⟨x.a,0,[]⟩:=by rw [stRun]
  have hln:=fun k h=>stRun_len p x.a x.L k h
  have hok:=fun k=>stRun_ok (lens:=x.L) hok k
  have hnx:=fun k h hb=>stRun_next (p:=p) (s:=x.a) (lens:=x.L) (k:=k) h hb
  have hbd2:=fun k h hb j hj=>stRun_bad (p:=p) (s:=x.a) (lens:=x.L) (k:=k) h hb j hj
  generalize hN:cntM x.W x.H=N at hbd e2 e3 e4 ⊢
  generalize stRun p x.a x.L=X at hz hln hnx hbd2 hok e2 e3 e4 ⊢
  refine WpA.loop (fun k:Nat=>⟨[(2,.ptr 0 0 0),(5,.ptr 2 0 0),(6,.ptr 3 0 0),(8,.ptr 4 0 0),(29,I N),(30,I k)],[⟨[I 0,I 0,I 0,B false,B false,.nilS,.nilS],0,0,none⟩,XI x.L,⟨[Z p,I (X k).a],0,0,none⟩,⟨[I x.W,I x.H,I x.Q,B x.B,B x.D,.own 1 0 0 x.L.length],0,0,none⟩,⟨[I x.W,I x.H,I x.Q,B x.B,B x.D,.own 1 0 0 x.L.length,.own 5 0 0 k],0,0,none⟩,MbO (X k).ms]⟩) (fun k=>(k:Int)≤N∧(X k).c=0) (fun k=>N.toNat-k) 0 (by rw [hz];exact ⟨by omega,rfl⟩) ?_ (fun k hk=>?_)
  ·rw [hz];exact Weak.nil1 (by first|(show 0≤_;exact Nat.zero_le _)|(repeat' (first|exact RzT.nil|refine RzT.cons ?_ ?_|exact Rz.nil|refine Rz.keep rfl rfl ?_|refine Rz.own rfl rfl rfl rfl rfl (by first|rfl|omega|(simp;done)) ?_|refine Rz.ptr rfl rfl rfl rfl ?_|refine Rz.nilO rfl rfl rfl (by first|rfl|omega|(simp;done)) ?_|refine Rz.agg ?_ ?_|exact RzO.last rfl|(refine RzO.cons ?_ (.inr rfl) ?_)|exact Rz.same rfl (still_ints _)|exact Rz.same rfl (still_rows (fun _=>rfl) _)))) (by first|(show 0≤_;exact Nat.zero_le _)|(repeat' (first|exact RzT.nil|refine RzT.cons ?_ ?_|exact Rz.nil|refine Rz.keep rfl rfl ?_|refine Rz.own rfl rfl rfl rfl rfl (by first|rfl|omega|(simp;done)) ?_|refine Rz.ptr rfl rfl rfl rfl ?_|refine Rz.nilO rfl rfl rfl (by first|rfl|omega|(simp;done)) ?_|refine Rz.agg ?_ ?_|exact RzO.last rfl|(refine RzO.cons ?_ (.inr rfl) ?_)|exact Rz.same rfl (still_ints _)|exact Rz.same rfl (still_rows (fun _=>rfl) _)))) (Nat.zero_le _)
  have hln:=hln k hk.2
  have hnx:=hnx k hk.2
  have hbd2:=hbd2 k hk.2
  have hok:=hok k
  have hfin:¬(k:Int)<N→X N.toNat=X k:=fun h=>by rw [show N.toNat=k by omega]
  generalize hy:X k=y at hk hln hnx hbd2 hfin hok ⊢
  have hln:y.ms.length=k:=hln
  by_cases hlt:(k:Int)<N
  ·by_cases hb:(mbS p y.a x.L).1.c=0
   ·have hnx:=hnx hb
    clear hbd2 e2 e3 e4
    refine go (r:=?_);and_intros<;>intros<;>try exact True.intro
    all_goals first|contradiction|(rw [hnx];done)
   ·have hbd2:=hbd2 hb
    have e:=hbd2 N.toNat (by omega)
    rw [e2 (by rw [e];exact hb),e]
    clear hnx hbd2 e2 e3 e4
    refine go (r:=?_);and_intros<;>intros<;>try exact True.intro
    all_goals first|contradiction
  ·have hfin:=hfin hlt
   have hc2:(X N.toNat).c=0:=by rw [hfin];exact hk.2
   by_cases he:endC p y.a=0
   ·rw [e4 hc2 (by rw [hfin];exact he),hfin]
    clear e2 e3 e4 hnx hbd2
    refine go (r:=?_);and_intros<;>intros<;>try exact True.intro
    all_goals first|contradiction|exact hok
   ·rw [e3 hc2 (by rw [hfin];exact he),hfin]
    clear e2 e3 e4 hnx hbd2
    refine go (r:=?_);and_intros<;>intros<;>try exact True.intro
    all_goals first|contradiction|exact hok
 ·rw [prS_1 hc]
  refine goR (r:=?_);and_intros<;>intros<;>try exact True.intro
  refine WpA.weak (σ':=⟨[(2,.ptr 0 0 0),(5,.ptr 2 0 0),(7,I (hdS p 0).c)],[⟨[I 0,I 0,I 0,B false,B false,.nilS,.nilS],0,0,none⟩,XI (hdS p 0).L,⟨[Z p,I (hdS p 0).a],0,0,none⟩]⟩) (Weak.mk (by repeat (first|exact ReT.nil|refine ReT.cons (.keep rfl rfl .nil) ?_|refine ReT.cons (.own rfl rfl rfl rfl rfl rfl .nil) ?_|refine ReT.cons (.ptr rfl rfl rfl rfl .nil) ?_|refine ReT.cons (.keep (congrArg (fun z=>AV.sc (Value.int .i64 z)) (by first|omega|(skip))) rfl .nil) ?_|refine ReT.cons (.keep (congrArg (fun z:List UInt8=>AV.sc (Value.string ⟨z.toArray⟩)) (by skip)) rfl .nil) ?_|refine ReT.cons (.own rfl rfl rfl rfl rfl (by first|omega|(simp;done)|(simp;omega)) .nil) ?_)) (by repeat (first|exact ReO.nil|refine ReO.cons (Re.same rfl (still_ints _)) (by simp) ?_|refine ReO.cons (Re.same rfl rfl) (by simp) ?_)) (Nat.zero_le _)) ?_
  refine go (r:=?_);and_intros<;>intros<;>try exact True.intro
  all_goals first|contradiction⟩
end
end Go.Proofs.YtainhhfnnclfiaaGreat


namespace Go.Proofs.YtainhhfnnclfiaaGreat
open Go Go.Abs
attribute [local irreducible] WpA WpL Rnd Blk Abs.Seq Abs.Fin Abs.FinG FnC FnG Only
theorem bw_small {l:List Blok} (h:∀b∈l,b.2.length≤64):bw l≤65*l.length:=by
 induction l with
 |nil=>simp [bw_nil]
 |cons b l ih=>
  have h1:=h b (by simp)
  have h2:=ih fun x hx=>h x (by simp [hx])
  rw [bw_cons,List.length_cons];omega
theorem mw_small {l:List Mbk} (h:∀m∈l,m.2.length≤4∧∀b∈m.2,b.2.length≤64):mw l≤261*l.length:=by
 induction l with
 |nil=>simp [mw_nil]
 |cons m l ih=>
  have h1:=h m (by simp)
  have h2:=ih fun x hx=>h x (by simp [hx])
  have h3:=bw_small h1.2
  rw [mw_cons,List.length_cons];omega
theorem prS_sz (p:List UInt8):(prS p).L.length≤6∧(prS p).ms.length≤16∧mw (prS p).ms≤4176∧SmM 1099511627776 (prS p).ms:=by
 have h:(prS p).L.length≤6∧(prS p).ms.length≤16∧mw (prS p).ms≤4176:=by
  by_cases h1:(hdS p 0).c=0
  ·by_cases h2:(stRun p (hdS p 0).a (hdS p 0).L (cntM (hdS p 0).W (hdS p 0).H).toNat).c=0
   ·by_cases h3:endC p (stRun p (hdS p 0).a (hdS p 0).L (cntM (hdS p 0).W (hdS p 0).H).toNat).a=0
    ·rw [prS_4 h1 h2 h3]
     have hb:=cntM_bd (hdS_sides h1)
     have hs:=stRun_sm (p:=p) (s:=(hdS p 0).a) (lens:=(hdS p 0).L) (cntM (hdS p 0).W (hdS p 0).H).toNat
     have hm:=mw_small hs.2
     have hL:=hdSL_len (hdS p 0)
     refine ⟨hL,?_,?_⟩
     ·show (stRun _ _ _ _).ms.length≤16
      omega
     ·show mw (stRun _ _ _ _).ms≤4176
      omega
    ·rw [prS_3 h1 h2 h3];exact ⟨Nat.zero_le _,Nat.zero_le _,Nat.zero_le _⟩
   ·rw [prS_2 h1 h2];exact ⟨Nat.zero_le _,Nat.zero_le _,Nat.zero_le _⟩
  ·rw [prS_1 h1];exact ⟨Nat.zero_le _,Nat.zero_le _,Nat.zero_le _⟩
 exact ⟨h.1,h.2.1,h.2.2,smM_of (by omega)⟩
section
attribute [local irreducible] prS
end
end Go.Proofs.YtainhhfnnclfiaaGreat


namespace Go.Proofs.YtainhhfnnclfiaaGreat
open Go Go.Abs
attribute [local irreducible] WpA WpL Rnd Blk Abs.Seq Abs.Fin Abs.FinG FnC FnG FnX FnP FinX Only
attribute [local irreducible] belowD onceD pickD modeD l8D l8AnyD optD anyD seedD headD headAnyD symL HasC blkD mbD strD unpS
theorem fieldRd {n m:Nat} {G:Ctx} {T:List (Nat×AV)} {O:List AObj} {Q:Exit→St→Prop} {ops:Array Oper} {l:List Oper} {tt:TypeId} {pos:String} {after:Array Edge} {d:Nat} {md:Bool} {x:Operand} {u:Value} {V2:AV} (hx:av T x=.agg [.sc u,V2]) (hn:d<n) (h:WpL Tryz.prog n m G md ops l ⟨(d,.sc u)::T,O⟩ Q):
 WpL Tryz.prog n m G md ops ({dst:=some d,op:=.field 152 x 0,type:=tt,pos:=pos,after:=after,guard:=none}::l) ⟨T,O⟩ Q:=
 WpL.pure rfl rfl hn (fun S ι F a w hr=>by
  have hv:=hr.eval x
  rw [show av (St.mk T O).T x=_ from hx] at hv
  obtain ⟨us,hus,hl⟩:=LRel.agg_inv hv
  obtain ⟨v1,vs,f1,f2,rfl,h1,hr2,hf⟩:=hl.uncons
  have e1:=h1.sc_eq
  subst e1
  have hp:(Go.part 9 (v1::vs).toArray 0).run Tryz.prog w=.ok v1 w:=by simp [Go.part,isAgg,Sem.run_bind,run_underlying Tryz.underlying9]
  refine ⟨v1,?_,.sc .nil⟩
  simp [execOp,Instr.field,hus,run_underlying Tryz.underlying152,asAgg,hp,Sem.run_bind]) h
instance l1Pick_p:ConP 188 (∀ (v:Value) (l:List Int) (c:Cr) (xs:List (List UInt8)),CrOk l c∧0<xs.length∧xs.length≤1048576→Pn 188 v l c [.imm 1 xs.length (strs xs)] (belowD l c xs.length).1 [] (Z (xs.getD (belowD l c xs.length).2.toNat []))):=⟨fun v l c xs h=>by
 have hc:=h.1
 have hb:=belowD_ok (xs.length:Int) hc
 have h1:=hb.2.1
 have h2:=hb.2.2.1 (by omega)
 refine FnP.of_body tabOk Tryz.func188 Tryz.ntmps188 rfl (by decide +kernel) (by simp) rfl rfl rfl fun G hp=>?_
 refine go (r:=?_);and_intros<;>intros<;>try exact True.intro
 all_goals first|exact hc.2.1|exact hc.2.2⟩
theorem l3Reader_x (v:Value) (l:List Int) (c:Cr) (h:CrOk l c):FnX Tryz.prog 189 [.ptr 0 0 0] [CurO v c] [v] [CodA l] (Cr×List UInt8×Int) (fun y=>CrOk l y.1∧y.2.1.length≤8) (fun y=>[CurO v y.1]) (fun _=>[]) (fun y=>.agg [Z y.2.1,I y.2.2]):=by
 have hb:=belowD_ok 9 h
 have hb0:=hb.2.1
 have hb1:=hb.2.2.1 (by decide)
 refine FnX.of_body tabOk Tryz.func189 Tryz.ntmps189 rfl (by decide +kernel) (by simp) rfl rfl fun G hp=>?_
 refine go (r:=?_);and_intros<;>intros<;>try exact True.intro
 all_goals first|exact h.2.1|exact h.2.2|skip
 refine WpA.loop (fun x:Nat×Cr×List UInt8=>⟨[(0,.ptr 0 0 0),(2,.ptr 1 0 0),(3,Z x.2.2),(4,I x.1)],[CurO v x.2.1,⟨[Z [],I 0],0,0,none⟩]⟩) (fun x=>CrOk l x.2.1∧x.2.2.length+x.1≤8) (fun x=>x.1) ((belowD l c 9).2.toNat,(belowD l c 9).1,[]) ⟨hb.1,by simp only [List.length_nil];omega⟩ ?_ ?_
 ·have ez:(((belowD l c 9).2.toNat:Nat):Int)=(belowD l c 9).2:=by omega
  simp only [ez]
  exact zk0
 rintro ⟨k,c1,s⟩ ⟨hc1,hlen⟩
 try simp only at hc1 hlen ⊢
 by_cases hk0:k=0
 ·subst hk0
  have hb2:=belowD_ok (8*(s.length:Int)+1) hc1
  have ho:=onceD_ok 14 hb2.1
  have hp1:=pickD_ok (xs:=[-1,8*(s.length:Int)+1]) ho (by simp)
  refine go (r:=?_);and_intros<;>intros<;>try exact True.intro
  all_goals first|exact hc1.2.1|exact hc1.2.2|exact hb2.1.2.1|exact hb2.1.2.2|exact ho.2.1|exact ho.2.2|(simp;done)|omega|skip
  all_goals
   refine FinX.fin (y:=((_,_),_,_)) (FinG.oI [some 0] rfl (ResV.cell (ds:=[_,_]) rfl rfl rfl rfl rfl) (.agg (.keep rfl rfl rfl (.keep rfl rfl rfl .nil)) .nil) (.obj rfl rfl rfl rfl rfl (.inr rfl) .nil) rfl rfl) ⟨?_,?_⟩
  all_goals first|exact hp1.1|exact ho|(simp only;omega)
 ·have hb2:=belowD_ok 256 hc1
  have hp1:=pickD_ok (xs:=[0,1,255,128,(belowD l c1 256).2]) hb2.1 (by simp)
  refine go (r:=?_);and_intros<;>intros<;>try exact True.intro
  all_goals first|exact hc1.2.1|exact hc1.2.2|exact hb2.1.2.1|exact hb2.1.2.2|(simp;done)|omega|skip
  refine Rnd.go (k-1,(pickD l (belowD l c1 256).1 [0,1,255,128,(belowD l c1 256).2]).1,s++List.map (fun n:Int=>UInt8.ofNat n.toNat) [IntKind.u8.wrap (pickD l (belowD l c1 256).1 [0,1,255,128,(belowD l c1 256).2]).2]) ⟨hp1.1,by simp only [List.length_append,List.length_map,List.length_singleton];omega⟩ ?_ ?_
  ·show k-1<k;omega
  ·exact zk0
theorem get3 (i:Nat):(([[0],[128],[120]]:List (List UInt8)).getD i []).length≤1:=by
 match i with
 |0=>decide
 |1=>decide
 |2=>decide
 |i+3=>simp
abbrev TxX (f:Nat) (v:Value) (l:List Int) (c:Cr):Prop:=FnX Tryz.prog f [.ptr 0 0 0] [CurO v c] [v] [CodA l] (Cr×List UInt8) (fun y=>CrOk l y.1∧y.2.length≤200000) (fun y=>[CurO v y.1]) (fun _=>[]) (fun y=>Z y.2)
theorem l24Text_x (v:Value) (l:List Int) (c:Cr) (h:CrOk l c):TxX 122 v l c:=by
 have hs:=strD_ok h
 have hs1:=hs.1
 have hs2:=hs.2.1
 have hmw:=mw_small hs.2.2.2.2
 have hln:=hs.2.2.2.1
 have hcm:=cntM_bd hs.2.2.1
 have hcm2:=hcm.2.2.2
 have hmw2:mw (strD l c).2.ms≤1048576:=by omega
 have hb:=belowD_ok 9 hs1
 have hu:=unpS_len (strD l c).2.hd.w (strD l c).2.hd.h (strD l c).2.hd.q (strD l c).2.hd.b (strD l c).2.hd.d (strD l c).2.hd.lens (strD l c).2.ms
 have hb8:CrOk l (belowD l (strD l c).1 9).1:=hb.1
 have hc21:=hb8.2.1
 have hc22:=hb8.2.2
 have hk:=belowD_ok ((unpS (strD l c).2.hd.w (strD l c).2.hd.h (strD l c).2.hd.q (strD l c).2.hd.b (strD l c).2.hd.d (strD l c).2.hd.lens (strD l c).2.ms).length:Int) hb8
 have hk0:=hk.2.1
 have hk1:=hk.2.2.1
 have hk2:=hk.1.2.1
 have hkc:=hk.1
 have hk3:=hk.1.2.2
 have hj:=belowD_ok 8 hk.1
 have hj0:=hj.2.1
 have hj1:=hj.2.2.1 (by decide)
 have hm:=belowD_ok (((unpS (strD l c).2.hd.w (strD l c).2.hd.h (strD l c).2.hd.q (strD l c).2.hd.b (strD l c).2.hd.d (strD l c).2.hd.lens (strD l c).2.ms).length:Int)+1) hb8
 have hm0:=hm.2.1
 have hm1:=hm.2.2.1 (by omega)
 have hp3:=get3 (belowD l (belowD l (strD l c).1 9).1 ((([[0],[128],[120]]:List (List UInt8)).length:Nat):Int)).2.toNat
 refine FnX.of_body tabOk Tryz.func122 Tryz.ntmps122 rfl (by decide +kernel) (by simp) rfl rfl fun G hp=>?_
 refine goR (r:=?_);and_intros<;>intros<;>try exact True.intro
 all_goals first|exact h.2.1|exact h.2.2|exact hs1.2.1|exact hs1.2.2|omega|skip
 all_goals first
  |(refine FinX.fin (y:=((_,_),_)) (FinG.oI [some 0] rfl (ResV.tmp rfl) (.keep rfl rfl rfl .nil) (.obj rfl rfl rfl rfl rfl (.inr rfl) .nil) rfl rfl) ⟨?_,?_⟩<;>first|exact hb8|exact (belowD_ok _ hb8).1|exact (belowD_ok _ (belowD_ok _ hb8).1).1|(simp only;omega)|(simp;omega)|(simp only [List.length_append];omega))
  |(simp;done)
  |(show (3:Nat)≤1048576;omega)
  |skip
 ·have hpos:0<((unpS (strD l c).2.hd.w (strD l c).2.hd.h (strD l c).2.hd.q (strD l c).2.hd.b (strD l c).2.hd.d (strD l c).2.hd.lens (strD l c).2.ms).length:Int):=by omega
  have hk1:=hk1 hpos
  have hbl:(List.map (fun b:UInt8=>(b.toNat:Int)) (unpS (strD l c).2.hd.w (strD l c).2.hd.h (strD l c).2.hd.q (strD l c).2.hd.b (strD l c).2.hd.d (strD l c).2.hd.lens (strD l c).2.ms)).length=(unpS (strD l c).2.hd.w (strD l c).2.hd.h (strD l c).2.hd.q (strD l c).2.hd.b (strD l c).2.hd.d (strD l c).2.hd.lens (strD l c).2.ms).length:=by simp
  refine goR (r:=?_);and_intros<;>intros<;>try exact True.intro
  apply WpA.regionSF (O:=[]) (Or:=[CurO v (belowD l (belowD l (strD l c).1 9).1 (unpS (strD l c).2.hd.w (strD l c).2.hd.h (strD l c).2.hd.q (strD l c).2.hd.b (strD l c).2.hd.d (strD l c).2.hd.lens (strD l c).2.ms).length).1,XI (strD l c).2.hd.lens,MbO (strD l c).2.ms,⟨u8s (List.map (fun b:UInt8=>(b.toNat:Int)) (unpS (strD l c).2.hd.w (strD l c).2.hd.h (strD l c).2.hd.q (strD l c).2.hd.b (strD l c).2.hd.d (strD l c).2.hd.lens (strD l c).2.ms)),0,1,none⟩]) (O1:=[CurO v (belowD l (belowD l (belowD l (strD l c).1 9).1 (unpS (strD l c).2.hd.w (strD l c).2.hd.h (strD l c).2.hd.q (strD l c).2.hd.b (strD l c).2.hd.d (strD l c).2.hd.lens (strD l c).2.ms).length).1 8).1,XI (strD l c).2.hd.lens,MbO (strD l c).2.ms,⟨u8s (List.map (fun b:UInt8=>(b.toNat:Int)) (unpS (strD l c).2.hd.w (strD l c).2.hd.h (strD l c).2.hd.q (strD l c).2.hd.b (strD l c).2.hd.d (strD l c).2.hd.lens (strD l c).2.ms)),0,1,none⟩]) 10 0 [3] [] rfl mixed (by decide +kernel)
  ·exact rfl
  ·apply HeadS.consF .none rfl
   ·exact rfl
   ·exact rfl
   ·exact in1
   ·exact rfl
   ·exact rfl
   apply HeadS.consF .none rfl
   ·exact rfl
   ·exact rfl
   ·exact in1
   ·exact rfl
   ·exact rfl
   apply HeadS.consF .none rfl
   ·exact rfl
   ·exact rfl
   ·exact in1
   ·exact rfl
   ·exact rfl
   apply HeadS.consF .none rfl
   ·exact rfl
   ·exact rfl
   ·exact in1
   ·exact rfl
   ·exact rfl
   apply HeadS.consF .none rfl
   ·exact rfl
   ·exact rfl
   ·intro Tv Ov hc hp' hd hk
    obtain ⟨x0,x1,x2,R,rfl⟩:=Abs.split4 (hk 3 rfl)
    exact in1
   ·exact rfl
   ·exact rfl
   apply HeadS.consF .none rfl
   ·exact rfl
   ·exact rfl
   ·intro Tv Ov hc hp' hd hk
    obtain ⟨x0,x1,x2,R,rfl⟩:=Abs.split4 (hk 3 rfl)
    exact in1
   ·exact rfl
   ·exact rfl
   apply HeadS.consF .none rfl
   ·exact rfl
   ·exact rfl
   ·exact in1
   ·exact rfl
   ·exact rfl
   apply HeadS.consF (V:=I (belowD l (belowD l (belowD l (strD l c).1 9).1 (unpS (strD l c).2.hd.w (strD l c).2.hd.h (strD l c).2.hd.q (strD l c).2.hd.b (strD l c).2.hd.d (strD l c).2.hd.lens (strD l c).2.ms).length).1 8).2) (.step 0 (CurO v (belowD l (belowD l (belowD l (strD l c).1 9).1 (unpS (strD l c).2.hd.w (strD l c).2.hd.h (strD l c).2.hd.q (strD l c).2.hd.b (strD l c).2.hd.d (strD l c).2.hd.lens (strD l c).2.ms).length).1 8).1)) rfl
   ·exact rfl
   ·exact rfl
   ·intro Tv Ov hc hp' hd hk
    obtain ⟨R,rfl⟩:=split1 (hp' 0 _ rfl)
    refine K.call ?_
    refine K.conP (fun hcon=>?_)
    refine WpL.callP1 (hcon v l (belowD l (belowD l (strD l c).1 9).1 (unpS (strD l c).2.hd.w (strD l c).2.hd.h (strD l c).2.hd.q (strD l c).2.hd.b (strD l c).2.hd.d (strD l c).2.hd.lens (strD l c).2.ms).length).1 8 hkc) hp handA handOA rfl (.cons rfl (.sc (.sc (.sc .nil))) .nil) (by decide) ?_
    exact WpL.nil (Only.mk rfl)
   ·exact rfl
   ·exact rfl
   apply HeadS.consF .none rfl
   ·exact rfl
   ·exact rfl
   ·exact in1
   ·exact rfl
   ·exact rfl
   apply HeadS.consF .none rfl
   ·exact rfl
   ·exact rfl
   ·exact in1
   ·exact rfl
   ·exact rfl
   exact HeadS.nil
  ·exact rfl
  ·exact rfl
  ·exact rfl
  ·exact rfl
  ·exact rfl
  ·exact rfl
  ·exact rfl
  refine go (r:=?_);and_intros<;>intros<;>try exact True.intro
  all_goals first|(refine FinX.fin (y:=((_,_),_)) (FinG.oI [some 0] rfl (ResV.tmp rfl) (.keep rfl rfl rfl .nil) (.obj rfl rfl rfl rfl rfl (.inr rfl) .nil) rfl rfl) ⟨?_,?_⟩<;>first|exact hb8|exact (belowD_ok _ hb8).1|exact (belowD_ok _ (belowD_ok _ hb8).1).1|(simp only;omega)|(simp;omega)|(simp only [List.length_append];omega))
 ·have hpos:0<((unpS (strD l c).2.hd.w (strD l c).2.hd.h (strD l c).2.hd.q (strD l c).2.hd.b (strD l c).2.hd.d (strD l c).2.hd.lens (strD l c).2.ms).length:Int):=by omega
  have hk1:=hk1 hpos
  have hbl:(List.map (fun b:UInt8=>(b.toNat:Int)) (unpS (strD l c).2.hd.w (strD l c).2.hd.h (strD l c).2.hd.q (strD l c).2.hd.b (strD l c).2.hd.d (strD l c).2.hd.lens (strD l c).2.ms)).length=(unpS (strD l c).2.hd.w (strD l c).2.hd.h (strD l c).2.hd.q (strD l c).2.hd.b (strD l c).2.hd.d (strD l c).2.hd.lens (strD l c).2.ms).length:=by simp
  refine goR (r:=?_);and_intros<;>intros<;>try exact True.intro
  apply WpA.regionSF (O:=[]) (Or:=[CurO v (belowD l (belowD l (strD l c).1 9).1 (unpS (strD l c).2.hd.w (strD l c).2.hd.h (strD l c).2.hd.q (strD l c).2.hd.b (strD l c).2.hd.d (strD l c).2.hd.lens (strD l c).2.ms).length).1,XI (strD l c).2.hd.lens,MbO (strD l c).2.ms,⟨u8s (List.map (fun b:UInt8=>(b.toNat:Int)) (unpS (strD l c).2.hd.w (strD l c).2.hd.h (strD l c).2.hd.q (strD l c).2.hd.b (strD l c).2.hd.d (strD l c).2.hd.lens (strD l c).2.ms)),0,1,none⟩]) (O1:=[CurO v (belowD l (belowD l (belowD l (strD l c).1 9).1 (unpS (strD l c).2.hd.w (strD l c).2.hd.h (strD l c).2.hd.q (strD l c).2.hd.b (strD l c).2.hd.d (strD l c).2.hd.lens (strD l c).2.ms).length).1 8).1,XI (strD l c).2.hd.lens,MbO (strD l c).2.ms,⟨u8s (List.map (fun b:UInt8=>(b.toNat:Int)) (unpS (strD l c).2.hd.w (strD l c).2.hd.h (strD l c).2.hd.q (strD l c).2.hd.b (strD l c).2.hd.d (strD l c).2.hd.lens (strD l c).2.ms)),0,1,none⟩]) 10 0 [3] [] rfl mixed (by decide +kernel)
  ·exact rfl
  ·apply HeadS.consF .none rfl
   ·exact rfl
   ·exact rfl
   ·exact in1
   ·exact rfl
   ·exact rfl
   apply HeadS.consF .none rfl
   ·exact rfl
   ·exact rfl
   ·exact in1
   ·exact rfl
   ·exact rfl
   apply HeadS.consF .none rfl
   ·exact rfl
   ·exact rfl
   ·exact in1
   ·exact rfl
   ·exact rfl
   apply HeadS.consF .none rfl
   ·exact rfl
   ·exact rfl
   ·exact in1
   ·exact rfl
   ·exact rfl
   apply HeadS.consF .none rfl
   ·exact rfl
   ·exact rfl
   ·intro Tv Ov hc hp' hd hk
    obtain ⟨x0,x1,x2,R,rfl⟩:=Abs.split4 (hk 3 rfl)
    exact in1
   ·exact rfl
   ·exact rfl
   apply HeadS.consF .none rfl
   ·exact rfl
   ·exact rfl
   ·intro Tv Ov hc hp' hd hk
    obtain ⟨x0,x1,x2,R,rfl⟩:=Abs.split4 (hk 3 rfl)
    exact in1
   ·exact rfl
   ·exact rfl
   apply HeadS.consF .none rfl
   ·exact rfl
   ·exact rfl
   ·exact in1
   ·exact rfl
   ·exact rfl
   apply HeadS.consF (V:=I (belowD l (belowD l (belowD l (strD l c).1 9).1 (unpS (strD l c).2.hd.w (strD l c).2.hd.h (strD l c).2.hd.q (strD l c).2.hd.b (strD l c).2.hd.d (strD l c).2.hd.lens (strD l c).2.ms).length).1 8).2) (.step 0 (CurO v (belowD l (belowD l (belowD l (strD l c).1 9).1 (unpS (strD l c).2.hd.w (strD l c).2.hd.h (strD l c).2.hd.q (strD l c).2.hd.b (strD l c).2.hd.d (strD l c).2.hd.lens (strD l c).2.ms).length).1 8).1)) rfl
   ·exact rfl
   ·exact rfl
   ·intro Tv Ov hc hp' hd hk
    obtain ⟨R,rfl⟩:=split1 (hp' 0 _ rfl)
    refine K.call ?_
    refine K.conP (fun hcon=>?_)
    refine WpL.callP1 (hcon v l (belowD l (belowD l (strD l c).1 9).1 (unpS (strD l c).2.hd.w (strD l c).2.hd.h (strD l c).2.hd.q (strD l c).2.hd.b (strD l c).2.hd.d (strD l c).2.hd.lens (strD l c).2.ms).length).1 8 hkc) hp handA handOA rfl (.cons rfl (.sc (.sc (.sc .nil))) .nil) (by decide) ?_
    exact WpL.nil (Only.mk rfl)
   ·exact rfl
   ·exact rfl
   apply HeadS.consF .none rfl
   ·exact rfl
   ·exact rfl
   ·exact in1
   ·exact rfl
   ·exact rfl
   apply HeadS.consF .none rfl
   ·exact rfl
   ·exact rfl
   ·exact in1
   ·exact rfl
   ·exact rfl
   exact HeadS.nil
  ·exact rfl
  ·exact rfl
  ·exact rfl
  ·exact rfl
  ·exact rfl
  ·exact rfl
  ·exact rfl
  refine go (r:=?_);and_intros<;>intros<;>try exact True.intro
  all_goals first|(refine FinX.fin (y:=((_,_),_)) (FinG.oI [some 0] rfl (ResV.tmp rfl) (.keep rfl rfl rfl .nil) (.obj rfl rfl rfl rfl rfl (.inr rfl) .nil) rfl rfl) ⟨?_,?_⟩<;>first|exact hb8|exact (belowD_ok _ hb8).1|exact (belowD_ok _ (belowD_ok _ hb8).1).1|(simp only;omega)|(simp;omega)|(simp only [List.length_append];omega))
 ·refine K.call ?_
  refine WpL.callE (hs:=[0]) (l3Reader_x v l (belowD l (strD l c).1 9).1 hb8) hp handA handOA rfl (fun _=>rfl) (fun _=>.cons rfl (.sc (.sc (.sc .nil))) .nil) (fun _=>outA) rfl rfl (fun _=>rfl) (fun _=>rfl) (by decide) (fun y hy=>?_)
  refine fieldRd rfl (by decide) ?_
  refine go (r:=?_);and_intros<;>intros<;>try exact True.intro
  all_goals exact FinX.fin (y:=(y.1,y.2.1)) (FinG.oI [some 0] rfl (ResV.tmp rfl) (.keep rfl rfl rfl .nil) (.obj rfl rfl rfl rfl rfl (.inr rfl) .nil) rfl rfl) ⟨hy.1,by have:=hy.2;simp only;omega⟩
end Go.Proofs.YtainhhfnnclfiaaGreat


namespace Go.Proofs.YtainhhfnnclfiaaGreat
open Go Go.Abs
attribute [local irreducible] WpA WpL Rnd Blk Abs.Seq Abs.Fin Abs.FinG FnC FnG FnX FnP FinX Only
instance big_c:Con 10 (∀ l:List Int,l.length≤9223372036854775807→Fn 10 [CodA l] [] (B (decide ((l.length:Int)>1048576)))):=⟨fun l hl=>by
 refine FnC.of_body tabOk Tryz.func10 Tryz.ntmps10 rfl (by decide +kernel) (by simp) fun G=>?_
 refine go (r:=?_);and_intros<;>intros<;>try exact True.intro⟩
end Go.Proofs.YtainhhfnnclfiaaGreat


namespace Go.Proofs.YtainhhfnnclfiaaGreat
open Go Go.Abs
attribute [local irreducible] WpA WpL Rnd Blk Abs.Seq Abs.Fin Abs.FinG FnC FnG FnX FnP FinX Only
attribute [local irreducible] byD belowD onceD pickD seedD
theorem zk1 {X:Prop} (h:X:=by exact Weak.mk (by repeat (first|exact ReT.nil|refine ReT.cons (.keep rfl rfl .nil) ?_|refine ReT.cons (.own rfl rfl rfl rfl rfl rfl .nil) ?_|refine ReT.cons (.ptr rfl rfl rfl rfl .nil) ?_|refine ReT.cons (.keep (congrArg (fun z=>AV.sc (Value.int .i64 z)) (by first|omega|(skip))) rfl .nil) ?_|refine ReT.cons (.keep (congrArg (fun z:List UInt8=>AV.sc (Value.string ⟨z.toArray⟩)) (by skip)) rfl .nil) ?_|refine ReT.cons (.own rfl rfl rfl rfl rfl (by first|omega|(simp;done)|(simp;omega)) .nil) ?_)) (by repeat (first|exact ReO.nil|refine ReO.cons (Re.same rfl rfl) (.inr rfl) ?_|refine ReO.cons (Re.same rfl (still_ints _)) (.inr rfl) ?_|refine ReO.cons (Re.same rfl (still_u8s _)) (.inr rfl) ?_|refine ReO.cons (Re.same rfl (still_strs _)) (.inr rfl) ?_|refine ReO.cons (.keep rfl rfl (.own rfl rfl rfl rfl rfl rfl .nil)) (.inr rfl) ?_)) (Nat.le_of_ble_eq_true rfl)):X:=h
theorem l1Text_x (v:Value) (l:List Int) (c:Cr) (most:Nat) (h:CrOk l c) (hm:most≤100):FnX Tryz.prog 126 [.ptr 0 0 0,I most] [CurO v c] [v] [CodA l] (Cr×List UInt8) (fun y=>CrOk l y.1∧y.2.length≤most) (fun y=>[CurO v y.1]) (fun _=>[]) (fun y=>Z y.2):=by
 have hb:=belowD_ok 4 h
 have hb2:=belowD_ok ((most:Int)+1) hb.1
 have hb3:=hb2.2.2.1 (by omega)
 have hb0:=hb2.2.1
 have hc0:=hb2.1
 refine FnX.of_body tabOk Tryz.func126 Tryz.ntmps126 rfl (by decide +kernel) (by simp) rfl rfl fun G hp=>?_
 refine go (r:=?_);and_intros<;>intros<;>try exact True.intro
 all_goals first|exact h.2.1|exact h.2.2|exact hb.1.2.1|exact hb.1.2.2|skip
 generalize (belowD l c 4).2=st at*
 refine WpA.loop (fun x:Nat×Cr×List Int=>⟨[(0,.ptr 0 0 0),(5,.own 1 0 0 x.2.2.length),(6,I st),(7,I x.1)],[CurO v x.2.1,⟨u8s x.2.2,0,1,some 5⟩]⟩) (fun x=>CrOk l x.2.1∧x.2.2.length+x.1≤most) (fun x=>x.1) ((belowD l (belowD l c 4).1 ((most:Int)+1)).2.toNat,(belowD l (belowD l c 4).1 ((most:Int)+1)).1,[]) ⟨hc0,by simp only [List.length_nil];omega⟩ ?_ ?_
 ·have ez:(((belowD l (belowD l c 4).1 ((most:Int)+1)).2.toNat:Nat):Int)=(belowD l (belowD l c 4).1 ((most:Int)+1)).2:=by omega
  simp only [ez]
  exact zk0
 rintro ⟨k,c1,s⟩ ⟨hc1,hlen⟩
 try simp only at hc1 hlen ⊢
 have hy:=byD_ok hc1
 refine go (r:=?_);and_intros<;>intros<;>try exact True.intro
 all_goals first|exact hc1.2.1|exact hc1.2.2|skip
 ·refine Rnd.go (k-1,(byD l c1).1,s++[IntKind.u8.wrap ((byD l c1).2%2)]) ⟨hy.1,by simp only [List.length_append,List.length_singleton];omega⟩ ?_ ?_
  ·show k-1<k;omega
  ·exact zk1
 ·refine Rnd.go (k-1,(byD l c1).1,s++[IntKind.u8.wrap (97+(byD l c1).2%4)]) ⟨hy.1,by simp only [List.length_append,List.length_singleton];omega⟩ ?_ ?_
  ·show k-1<k;omega
  ·exact zk1
 ·refine Rnd.go (k-1,(byD l c1).1,s++[IntKind.u8.wrap (byD l c1).2]) ⟨hy.1,by simp only [List.length_append,List.length_singleton];omega⟩ ?_ ?_
  ·show k-1<k;omega
  ·exact zk1
 ·exact FinX.fin (y:=(c1,s.map (fun n:Int=>UInt8.ofNat n.toNat))) (FinG.oI [some 0] rfl (ResV.tmp rfl) (.keep rfl rfl rfl .nil) (.obj rfl rfl rfl rfl rfl (.inr rfl) .nil) rfl rfl) ⟨hc1,by simp only [List.length_map];omega⟩
theorem l1Spoil_x (v:Value) (l:List Int) (c:Cr) (s:List UInt8) (h:CrOk l c) (hl:s.length≤1048000):FnX Tryz.prog 63 [.ptr 0 0 0,Z s] [CurO v c] [v] [CodA l] (Cr×List UInt8) (fun y=>CrOk l y.1∧y.2.length≤s.length+3) (fun y=>[CurO v y.1]) (fun _=>[]) (fun y=>Z y.2):=by
 by_cases hs:s.length=0
 ·refine FnX.of_body tabOk Tryz.func63 Tryz.ntmps63 rfl (by decide +kernel) (by simp) rfl rfl fun G hp=>?_
  refine goR (r:=?_);and_intros<;>intros<;>try exact True.intro
  all_goals first|contradiction|omega|skip
  refine K.call ?_
  refine WpL.callE (hs:=[0]) (l1Text_x v l c 3 h (by decide)) hp handA handOA rfl (fun _=>rfl) (fun _=>.cons rfl (.sc (.sc (.sc .nil))) .nil) (fun _=>outA) rfl rfl (fun _=>rfl) (fun _=>rfl) (by decide) (fun y hy=>?_)
  refine goR (r:=?_);and_intros<;>intros<;>try exact True.intro
  all_goals first|exact FinX.fin (y:=(y.1,y.2)) (FinG.oI [some 0] rfl (ResV.tmp rfl) (.keep rfl rfl rfl .nil) (.obj rfl rfl rfl rfl rfl (.inr rfl) .nil) rfl rfl) ⟨hy.1,by have:=hy.2;simp only;omega⟩
 ·have hb:=belowD_ok (s.length:Int) h
  have hb1:=hb.2.2.1 (by omega)
  have hb0:=hb.2.1
  have hc0:=hb.1
  have hb4:=belowD_ok 4 hb.1
  have hb41:=hb4.2.2.1 (by omega)
  have hb40:=hb4.2.1
  have hb5:=belowD_ok 255 hb4.1
  have hb51:=hb5.2.2.1 (by omega)
  have hb50:=hb5.2.1
  have hy:=byD_ok hb4.1
  refine FnX.of_body tabOk Tryz.func63 Tryz.ntmps63 rfl (by decide +kernel) (by simp) rfl rfl fun G hp=>?_
  refine goR (r:=?_);and_intros<;>intros<;>try exact True.intro
  all_goals first|exact h.2.1|exact h.2.2|exact hb.1.2.1|exact hb.1.2.2|exact hb4.1.2.1|exact hb4.1.2.2|contradiction|omega|skip
  ·refine go (r:=?_);and_intros<;>intros<;>try exact True.intro
   all_goals (refine FinX.fin (y:=((_,_),_)) (FinG.oI [some 0] rfl (ResV.tmp rfl) (.keep rfl rfl rfl .nil) (.obj rfl rfl rfl rfl rfl (.inr rfl) .nil) rfl rfl) ⟨?_,?_⟩<;>first|exact hb4.1|(simp;omega))
  ·
   try dsimp only [List.append,List.cons_append,List.nil_append]
   apply WpA.regionSF (O:=[]) (Or:=[CurO v (belowD l (belowD l c (s.length:Int)).1 4).1]) (O1:=[CurO v (byD l (belowD l (belowD l c (s.length:Int)).1 4).1).1,⟨u8s [IntKind.u8.wrap (byD l (belowD l (belowD l c (s.length:Int)).1 4).1).2],1,1,some 5⟩,deadO]) 13 1 [] [] rfl mixed (by decide +kernel)
   ·exact rfl
   ·apply HeadS.consF .none rfl
    ·exact rfl
    ·exact rfl
    ·exact in1
    ·exact rfl
    ·exact rfl
    apply HeadS.consF .none rfl
    ·exact rfl
    ·exact rfl
    ·exact in1
    ·exact rfl
    ·exact rfl
    apply HeadS.consF .none rfl
    ·exact rfl
    ·exact rfl
    ·exact in1
    ·exact rfl
    ·exact rfl
    apply HeadS.consF .none rfl
    ·exact rfl
    ·exact rfl
    ·exact in1
    ·exact rfl
    ·exact rfl
    apply HeadS.consF (V:=I (byD l (belowD l (belowD l c (s.length:Int)).1 4).1).2) (.step 0 (CurO v (byD l (belowD l (belowD l c (s.length:Int)).1 4).1).1)) rfl
    ·exact rfl
    ·exact rfl
    ·intro Tv Ov hc hp' hd hk
     obtain ⟨R,rfl⟩:=split1 (hp' 0 _ rfl)
     refine K.call ?_
     refine K.conP (fun hcon=>?_)
     refine WpL.callP1 (hcon v l (belowD l (belowD l c (s.length:Int)).1 4).1 hb4.1) hp handA handOA rfl (.cons rfl (.sc (.sc (.sc .nil))) .nil) (by decide) ?_
     exact WpL.nil (Only.mk rfl)
    ·exact rfl
    ·exact rfl
    apply HeadS.consF .none rfl
    ·exact rfl
    ·exact rfl
    ·exact in1
    ·exact rfl
    ·exact rfl
    apply HeadS.consF (V:=.own 1 1 0 1) (.put 1 (⟨u8s [IntKind.u8.wrap (byD l (belowD l (belowD l c (s.length:Int)).1 4).1).2],1,1,some 5⟩)) rfl
    ·exact rfl
    ·exact rfl
    ·intro Tv Ov hc hp' hd hk
     refine WpL.litU8s tabOk rfl rfl rfl rfl rfl (by decide) (by rw [nid_len,Nat.zero_add]) (by decide) ?_
     apply WpL.putNil (p:=1)
     ·exact hp' 1 _ rfl
     ·exact Nat.le_of_ble_eq_true rfl
     ·exact rfl
     ·first|exact still_ints _|exact still_rows (fun _=>rfl) _|rfl
    ·exact rfl
    ·exact rfl
    apply HeadS.consF .none rfl
    ·exact rfl
    ·exact rfl
    ·intro Tv Ov hc hp' hd hk
     obtain ⟨a0,R,rfl⟩:=split2 (hd 6 _ 1 _ (by decide) rfl rfl rfl)
     exact in1
    ·exact rfl
    ·exact rfl
    apply HeadS.consF .none rfl
    ·exact rfl
    ·exact rfl
    ·exact in1
    ·exact rfl
    ·exact rfl
    apply HeadS.consF .none rfl
    ·exact rfl
    ·exact rfl
    ·exact in1
    ·exact rfl
    ·exact rfl
    apply HeadS.consF .none rfl
    ·exact rfl
    ·exact rfl
    ·exact in1
    ·exact rfl
    ·exact rfl
    apply HeadS.consF .none rfl
    ·exact rfl
    ·exact rfl
    ·exact in1
    ·exact rfl
    ·exact rfl
    apply HeadS.consF .none rfl
    ·exact rfl
    ·exact rfl
    ·exact in1
    ·exact rfl
    ·exact rfl
    exact HeadS.nil
   ·exact rfl
   ·exact rfl
   ·exact rfl
   ·exact rfl
   ·exact rfl
   ·exact rfl
   ·exact rfl
   refine go (r:=?_);and_intros<;>intros<;>try exact True.intro
   all_goals (refine FinX.fin (y:=((_,_),_)) (FinG.oI [some 0] rfl (ResV.tmp rfl) (.keep rfl rfl rfl .nil) (.obj rfl rfl rfl rfl rfl (.inr rfl) .nil) rfl rfl) ⟨?_,?_⟩<;>first|exact hy.1|(simp;omega))
  ·refine FinX.fin (y:=((_,_),_)) (FinG.oI [some 0] rfl (ResV.tmp rfl) (.keep rfl rfl rfl .nil) (.obj rfl rfl rfl rfl rfl (.inr rfl) .nil) rfl rfl) ⟨?_,?_⟩<;>first|exact hb4.1|(simp;omega)
  ·
   try dsimp only [List.append,List.cons_append,List.nil_append]
   apply WpA.regionSF (O:=[]) (Or:=[CurO v (belowD l (belowD l c (s.length:Int)).1 4).1]) (O1:=[CurO v (belowD l (belowD l (belowD l c (s.length:Int)).1 4).1 255).1,⟨u8s [IntKind.u8.wrap (IntKind.i64.wrap ((BitVec.ofInt IntKind.i64.bits (IntKind.i64.wrap ((s.getD (belowD l c (s.length:Int)).2.toNat 0).toNat:Int)) ^^^ BitVec.ofInt IntKind.i64.bits (1+(belowD l (belowD l (belowD l c (s.length:Int)).1 4).1 255).2)).toNat:Nat))],1,1,some 5⟩,deadO]) 20 1 [] [] rfl mixed (by decide +kernel)
   ·exact rfl
   ·apply HeadS.consF .none rfl
    ·exact rfl
    ·exact rfl
    ·exact in1
    ·exact rfl
    ·exact rfl
    apply HeadS.consF .none rfl
    ·exact rfl
    ·exact rfl
    ·exact in1
    ·exact rfl
    ·exact rfl
    apply HeadS.consF .none rfl
    ·exact rfl
    ·exact rfl
    ·exact in1
    ·exact rfl
    ·exact rfl
    apply HeadS.consF .none rfl
    ·exact rfl
    ·exact rfl
    ·exact in1
    ·exact rfl
    ·exact rfl
    apply HeadS.consF .none rfl
    ·exact rfl
    ·exact rfl
    ·exact in1
    ·exact rfl
    ·exact rfl
    apply HeadS.consF .none rfl
    ·exact rfl
    ·exact rfl
    ·exact in1
    ·exact rfl
    ·exact rfl
    apply HeadS.consF .none rfl
    ·exact rfl
    ·exact rfl
    ·exact in1
    ·exact rfl
    ·exact rfl
    apply HeadS.consF .none rfl
    ·exact rfl
    ·exact rfl
    ·exact in1
    ·exact rfl
    ·exact rfl
    apply HeadS.consF (V:=I (belowD l (belowD l (belowD l c (s.length:Int)).1 4).1 255).2) (.step 0 (CurO v (belowD l (belowD l (belowD l c (s.length:Int)).1 4).1 255).1)) rfl
    ·exact rfl
    ·exact rfl
    ·intro Tv Ov hc hp' hd hk
     obtain ⟨R,rfl⟩:=split1 (hp' 0 _ rfl)
     refine K.call ?_
     refine K.conP (fun hcon=>?_)
     refine WpL.callP1 (hcon v l (belowD l (belowD l c (s.length:Int)).1 4).1 255 hb4.1) hp handA handOA rfl (.cons rfl (.sc (.sc (.sc .nil))) .nil) (by decide) ?_
     exact WpL.nil (Only.mk rfl)
    ·exact rfl
    ·exact rfl
    apply HeadS.consF .none rfl
    ·exact rfl
    ·exact rfl
    ·exact in1
    ·exact rfl
    ·exact rfl
    apply HeadS.consF .none rfl
    ·exact rfl
    ·exact rfl
    ·exact in1
    ·exact rfl
    ·exact rfl
    apply HeadS.consF .none rfl
    ·exact rfl
    ·exact rfl
    ·exact in1
    ·exact rfl
    ·exact rfl
    apply HeadS.consF (V:=.own 1 1 0 1) (.put 1 (⟨u8s [IntKind.u8.wrap (IntKind.i64.wrap ((BitVec.ofInt IntKind.i64.bits (IntKind.i64.wrap ((s.getD (belowD l c (s.length:Int)).2.toNat 0).toNat:Int)) ^^^ BitVec.ofInt IntKind.i64.bits (1+(belowD l (belowD l (belowD l c (s.length:Int)).1 4).1 255).2)).toNat:Nat))],1,1,some 5⟩)) rfl
    ·exact rfl
    ·exact rfl
    ·intro Tv Ov hc hp' hd hk
     refine WpL.litU8s tabOk rfl rfl rfl rfl rfl (by decide) (by rw [nid_len,Nat.zero_add]) (by decide) ?_
     apply WpL.putNil (p:=1)
     ·exact hp' 1 _ rfl
     ·exact Nat.le_of_ble_eq_true rfl
     ·exact rfl
     ·first|exact still_ints _|exact still_rows (fun _=>rfl) _|rfl
    ·exact rfl
    ·exact rfl
    apply HeadS.consF .none rfl
    ·exact rfl
    ·exact rfl
    ·intro Tv Ov hc hp' hd hk
     obtain ⟨a0,R,rfl⟩:=split2 (hd 12 _ 1 _ (by decide) rfl rfl rfl)
     exact in1
    ·exact rfl
    ·exact rfl
    apply HeadS.consF .none rfl
    ·exact rfl
    ·exact rfl
    ·exact in1
    ·exact rfl
    ·exact rfl
    apply HeadS.consF .none rfl
    ·exact rfl
    ·exact rfl
    ·exact in1
    ·exact rfl
    ·exact rfl
    apply HeadS.consF .none rfl
    ·exact rfl
    ·exact rfl
    ·exact in1
    ·exact rfl
    ·exact rfl
    apply HeadS.consF .none rfl
    ·exact rfl
    ·exact rfl
    ·exact in1
    ·exact rfl
    ·exact rfl
    apply HeadS.consF .none rfl
    ·exact rfl
    ·exact rfl
    ·exact in1
    ·exact rfl
    ·exact rfl
    apply HeadS.consF .none rfl
    ·exact rfl
    ·exact rfl
    ·exact in1
    ·exact rfl
    ·exact rfl
    exact HeadS.nil
   ·exact rfl
   ·exact rfl
   ·exact rfl
   ·exact rfl
   ·exact rfl
   ·exact rfl
   ·exact rfl
   refine go (r:=?_);and_intros<;>intros<;>try exact True.intro
   all_goals (refine FinX.fin (y:=((_,_),_)) (FinG.oI [some 0] rfl (ResV.tmp rfl) (.keep rfl rfl rfl .nil) (.obj rfl rfl rfl rfl rfl (.inr rfl) .nil) rfl rfl) ⟨?_,?_⟩<;>first|exact hb5.1|(simp;omega))
theorem totR_app (s:List (List UInt8)) (x:List UInt8):totR (s++[x])=totR s+x.length:=by unfold totR;rw [List.map_append,List.sum_append];simp
theorem l32Texts_x (v:Value) (l:List Int) (c:Cr) (h:CrOk l c):FnX Tryz.prog 57 [.ptr 0 0 0] [CurO v c] [v] [CodA l] (Cr×List (List UInt8)) (fun y=>CrOk l y.1∧y.2.length≤9∧totR y.2≤600000) (fun y=>[CurO v y.1]) (fun y=>[SO y.2]) (fun y=>.own 1 0 0 y.2.length):=by
 have hb:=belowD_ok 4 h
 have hb1:=hb.2.2.1 (by omega)
 have hb0:=hb.2.1
 have hc0:=hb.1
 refine FnX.of_body tabOk Tryz.func57 Tryz.ntmps57 rfl (by decide +kernel) (by simp) rfl rfl fun G hp=>?_
 refine go (r:=?_);and_intros<;>intros<;>try exact True.intro
 all_goals first|exact h.2.1|exact h.2.2|exact hb.1.2.1|exact hb.1.2.2|skip
 refine WpA.loop (fun x:Nat×Cr×List (List UInt8)=>⟨[(0,.ptr 0 0 0),(3,.own 1 0 0 x.2.2.length),(4,I x.1)],[CurO v x.2.1,SO x.2.2]⟩) (fun x=>CrOk l x.2.1∧x.2.2.length+x.1≤3∧totR x.2.2+200000*x.1≤600000) (fun x=>x.1) ((belowD l c 4).2.toNat,(belowD l c 4).1,[]) ⟨hc0,by simp only [List.length_nil];omega,by simp only [totR,List.map_nil,List.sum_nil];omega⟩ ?_ ?_
 ·have ez:(((belowD l c 4).2.toNat:Nat):Int)=(belowD l c 4).2:=by omega
  simp only [ez]
  exact zk0
 rintro ⟨k,c1,s⟩ ⟨hc1,hlen,htot⟩
 try simp only at hc1 hlen htot ⊢
 by_cases hk0:k=0
 ·subst hk0
  have ho:=onceD_ok 14 hc1
  refine go (r:=?_);and_intros<;>intros<;>try exact True.intro
  all_goals first|exact hc1.2.1|exact hc1.2.2|skip
  ·refine WpA.loop (fun x:Cr×List (List UInt8)=>⟨[(0,.ptr 0 0 0),(3,.own 1 0 0 x.2.length)],[CurO v x.1,SO x.2]⟩) (fun x=>CrOk l x.1∧x.2.length≤9∧totR x.2≤600000) (fun x=>10-x.2.length) ((onceD l c1 14).1,s) ⟨ho,by simp only;omega,by simp only;omega⟩ ?_ ?_
   ·exact zk1
   rintro ⟨c2,s2⟩ ⟨hc2,hl2,ht2⟩
   try simp only at hc2 hl2 ht2 ⊢
   have hb2:=belowD_ok 2 hc2
   have hb21:=hb2.2.2.1 (by decide)
   have hb20:=hb2.2.1
   refine go (r:=?_);and_intros<;>intros<;>try exact True.intro
   all_goals first|exact hc2.2.1|exact hc2.2.2|exact hb2.1.2.1|exact hb2.1.2.2|skip
   ·refine Rnd.go ((belowD l c2 2).1,s2++[[]]) ⟨hb2.1,by simp only [List.length_append,List.length_singleton];omega,by rw [totR_app];simp only [List.length_nil];omega⟩ ?_ ?_
    ·simp only [List.length_append,List.length_singleton];omega
    ·exact zk1
   ·exact FinX.fin (y:=((belowD l c2 2).1,s2)) (FinG.oI [some 0,some 1] rfl (ResV.tmp rfl) (.own rfl rfl rfl rfl .nil) (.obj rfl rfl rfl rfl rfl (.inr rfl) (.obj rfl rfl (still_strs _) rfl rfl (.inr rfl) .nil)) rfl rfl) ⟨hb2.1,hl2,ht2⟩
  ·exact FinX.fin (y:=((onceD l c1 14).1,s)) (FinG.oI [some 0,some 1] rfl (ResV.tmp rfl) (.own rfl rfl rfl rfl .nil) (.obj rfl rfl rfl rfl rfl (.inr rfl) (.obj rfl rfl (still_strs _) rfl rfl (.inr rfl) .nil)) rfl rfl) ⟨ho,by simp only;omega,by simp only;omega⟩
 ·refine goR (r:=?_);and_intros<;>intros<;>try exact True.intro
  all_goals first|contradiction|omega|skip
  refine K.call ?_
  refine WpL.callE (hs:=[0]) (l24Text_x v l c1 hc1) hp handA handOA rfl (fun _=>rfl) (fun _=>.cons rfl (.sc (.sc (.sc .nil))) .nil) (fun _=>outA) rfl rfl (fun _=>rfl) (fun _=>rfl) (by decide) (fun y hy=>?_)
  refine go (r:=?_);and_intros<;>intros<;>try exact True.intro
  have hy2:=hy.2
  refine Rnd.go (k-1,y.1,s++[y.2]) ⟨hy.1,by simp only [List.length_append,List.length_singleton];omega,by rw [totR_app];simp only;omega⟩ ?_ ?_
  ·show k-1<k;omega
  ·exact zk1
end Go.Proofs.YtainhhfnnclfiaaGreat


namespace Go.Proofs.YtainhhfnnclfiaaGreat
open Go Go.Abs
def alphaL (q:Int):Int:=if 0≤q∧q≤51 then q+4 else 0
def betaL (q:Int):Int:=if 0≤q∧q≤51 then q/3+2 else 0
abbrev EdOk (a b c d q:Int):Prop:=In [a,b,c,d] 0 255∧max (b-c) (c-b)<alphaL q∧max (a-b) (b-a)<betaL q∧max (c-d) (d-c)<betaL q
def edD (a b c d q:Int):Int:=max (-(q/4+1)) (min (q/4+1) ((4*(c-b)+(a-d)+4)/8))
def edP (a b c d q:Int):Int×Int:=if EdOk a b c d q then (max 0 (min 255 (b+edD a b c d q)),max 0 (min 255 (c-edD a b c d q))) else (b,c)
def edg (q:Int) (e s:Nat) (f l:List Int):List Int:=(l.set (e-s) (edP (f.getD (e-2*s) 0) (f.getD (e-s) 0) (f.getD e 0) (f.getD (e+s) 0) q).1).set e (edP (f.getD (e-2*s) 0) (f.getD (e-s) 0) (f.getD e 0) (f.getD (e+s) 0) q).2
def run (q:Int):List (Nat×Nat)→List Int→List Int
 |[],l=>l
 |x::E,l=>run q E (edg q x.1 x.2 l l)
theorem edg_len (q:Int) (e s:Nat) (f l:List Int):(edg q e s f l).length=l.length:=by simp [edg]
theorem run_len (q:Int):∀(E:List (Nat×Nat)) (l:List Int),(run q E l).length=l.length
 |[],_=>rfl
 |x::E,l=>by rw [run,run_len q E,edg_len]
theorem run_app (q:Int):∀(E D:List (Nat×Nat)) (l:List Int),run q (E++D) l=run q D (run q E l)
 |[],_,_=>rfl
 |x::E,D,l=>by rw [List.cons_append,run,run,run_app q E D]
def vx (w y j:Nat):List (Nat×Nat):=(List.range j).map fun i=>(y*w+(8*i+8),1)
def vy (w a k:Nat):List (Nat×Nat):=(List.range k).flatMap fun i=>vx w (a+i) (w/8-1)
def hx (w y k:Nat):List (Nat×Nat):=(List.range k).map fun i=>(y*w+i,w)
def hy (w k:Nat):List (Nat×Nat):=(List.range k).flatMap fun i=>hx w (8*i+8) w
theorem vx_succ (w y j:Nat):vx w y (j+1)=vx w y j++[(y*w+(8*j+8),1)]:=by simp [vx,List.range_succ]
theorem vy_succ (w a k:Nat):vy w a (k+1)=vy w a k++vx w (a+k) (w/8-1):=by simp [vy,List.range_succ]
theorem hx_succ (w y k:Nat):hx w y (k+1)=hx w y k++[(y*w+k,w)]:=by simp [hx,List.range_succ]
theorem hy_succ (w k:Nat):hy w (k+1)=hy w k++hx w (8*k+8) w:=by simp [hy,List.range_succ]
def debL (q:Int) (w h:Nat) (p:List Int):List Int:=run q (hy w (h/8-1)) (run q (vy w 0 h) p)
theorem debL_len (q:Int) (w h:Nat) (p:List Int):(debL q w h p).length=p.length:=by rw [debL,run_len,run_len]
theorem edP_in {a b c d q:Int} (hb:0≤b∧b≤255) (hc:0≤c∧c≤255):(0≤(edP a b c d q).1∧(edP a b c d q).1≤255)∧0≤(edP a b c d q).2∧(edP a b c d q).2≤255:=by
 unfold edP;split<;>simp only<;>omega
theorem in_setV {l:List Int} {lo hi v:Int} (h:In l lo hi) (hv:lo≤v∧v≤hi) (i:Nat):In (l.set i v) lo hi:=by
 unfold In at*
 intro x hx
 rcases List.mem_or_eq_of_mem_set hx with h1|h1
 ·exact h x h1
 ·rw [h1];exact hv
theorem in_getZ255 {l:List Int} (h:In l 0 255) (k:Nat):0≤l.getD k 0∧l.getD k 0≤255:=by
 by_cases hk:k<l.length
 ·exact in_get h hk
 ·rw [List.getD_eq_getElem?_getD,List.getElem?_eq_none (by omega)];simp
theorem edg_in {q:Int} {e s:Nat} {f l:List Int} (hf:In f 0 255) (hl:In l 0 255):In (edg q e s f l) 0 255:=by
 have h:=edP_in (a:=f.getD (e-2*s) 0) (d:=f.getD (e+s) 0) (q:=q) (in_getZ255 hf (e-s)) (in_getZ255 hf e)
 exact in_setV (in_setV hl h.1 _) h.2 _
theorem run_rg {q:Int}:∀{E:List (Nat×Nat)} {l:List Int},In l 0 255→In (run q E l) 0 255
 |[],_,h=>h
 |x::E,l,h=>by rw [run];exact run_rg (E:=E) (edg_in h h)
end Go.Proofs.YtainhhfnnclfiaaGreat


namespace Go.Proofs.YtainhhfnnclfiaaGreat
open Go Go.Abs
attribute [local irreducible] WpA WpL Rnd Blk Abs.Seq Abs.Fin Abs.FinG FnC FnG Only
abbrev NbA (t l:List Int) (c:Int) (a b:Bool):AV:=.agg [IL t,IL l,I c,B a,B b]
abbrev NbO (t l:List Int) (c:Int) (a b:Bool):AObj:=⟨[IL t,IL l,I c,B a,B b],0,0,none⟩
abbrev NbOk (t l:List Int) (c n:Int):Prop:=(n=4∨n=8)∧(t.length:Int)=2*n∧(l.length:Int)=n∧In t 0 255∧In l 0 255∧0≤c∧c≤255
instance NbOk_c:Con 109 (∀ (t l:List Int) (c:Int) (a b:Bool) (n:Int),t.length≤1099511627776∧l.length≤1099511627776→Fn 109 [NbA t l c a b,I n] [] (B (decide (NbOk t l c n)))):=⟨fun t l c a b n hl=>by
 refine FnC.of_body tabOk Tryz.func109 Tryz.ntmps109 rfl (by decide +kernel) (by simp) fun G=>?_
 refine go (r:=?_);and_intros<;>intros<;>try exact True.intro
 all_goals simp_all⟩
def bordL (t l:List Int) (c n:Int):List Int:=if NbOk t l c n then l.reverse++[c]++t.take n.toNat else []
theorem bord_len {t l:List Int} {c n:Int} (h:NbOk t l c n):((bordL t l c n).length:Int)=2*n+1:=by
 rw [bordL,if_pos h];obtain ⟨h1,h2,h3,_⟩:=h;simp;omega
instance Border_c:Con 244 (∀ (t l:List Int) (c:Int) (a b:Bool) (n:Int),t.length≤1099511627776∧l.length≤1099511627776→Fn 244 [NbA t l c a b,I n] [XI (bordL t l c n)] (.own 0 0 0 (bordL t l c n).length)):=⟨fun t l c a b n hl=>by
 by_cases h:NbOk t l c n
 ·have hbl:=bord_len h
  obtain ⟨h1,h2,h3,h4,h5,h6⟩:=id h
  have htk:(t.take n.toNat).length=n.toNat:=by simp;omega
  have hlr:l.reverse.length=l.length:=List.length_reverse
  refine FnC.of_body tabOk Tryz.func244 Tryz.ntmps244 rfl (by decide +kernel) (by simp) fun G=>?_
  refine go (r:=?_);and_intros<;>intros<;>try exact True.intro
  all_goals first|(exact absurd h ‹¬ NbOk t l c n›)|skip
  rw [bordL,if_pos h]
 ·refine FnC.of_body tabOk Tryz.func244 Tryz.ntmps244 rfl (by decide +kernel) (by simp) fun G=>?_
  refine go (r:=?_);and_intros<;>intros<;>try exact True.intro
  all_goals first|(exact absurd ‹NbOk t l c n› h)|skip
  ·rw [bordL,if_neg h];rfl
  ·rw [bordL,if_neg h]⟩
def meanL (t l:List Int) (c:Int) (a b:Bool) (n:Int):Int:=if NbOk t l c n then (match a,b with
 |true,true=>((t.take n.toNat).sum+l.sum+n)/(2*n)
 |true,false=>((t.take n.toNat).sum+n/2)/n
 |false,true=>(l.sum+n/2)/n
 |false,false=>128) else 0
theorem sum_bd255 {l:List Int} (h:In l 0 255):0≤l.sum∧l.sum≤255*l.length:=by
 have:=psum_bd h l.length (Nat.le_refl _)
 rw [psum_all] at this;exact this
theorem mean_in {t l:List Int} {c n:Int} (a b:Bool) (h:NbOk t l c n):0≤meanL t l c a b n∧meanL t l c a b n≤255:=by
 unfold meanL
 rw [if_pos h]
 obtain ⟨h1,h2,h3,h4,h5,h6⟩:=h
 have htk:(t.take n.toNat).length=n.toNat:=by simp;omega
 have s1:=sum_bd255 (in_take h4 n.toNat)
 have s2:=sum_bd255 h5
 rw [htk] at s1
 rcases h1 with rfl|rfl<;>cases a<;>cases b<;>simp only<;>omega
instance Mean_c:Con 242 (∀ (t l:List Int) (c:Int) (a b:Bool) (n:Int),t.length≤1099511627776∧l.length≤1099511627776→Fn 242 [NbA t l c a b,I n] [] (I (meanL t l c a b n))):=⟨fun t l c a b n hl=>by
 by_cases h:NbOk t l c n
 ·obtain ⟨h1,h2,h3,h4,h5,h6⟩:=id h
  have htk:(t.take n.toNat).length=n.toNat:=by simp;omega
  have s0:=in_take h4 n.toNat
  have s1:=sum_bd255 s0
  have s2:=sum_bd255 h5
  rw [htk] at s1
  cases a<;>cases b
  ·refine FnC.of_body tabOk Tryz.func242 Tryz.ntmps242 rfl (by decide +kernel) (by simp) fun G=>?_
   refine go (r:=?_);and_intros<;>intros<;>try exact True.intro
   all_goals first|(exact absurd h ‹¬ NbOk t l c n›)|skip
   unfold meanL;rw [if_pos h]
  ·refine FnC.of_body tabOk Tryz.func242 Tryz.ntmps242 rfl (by decide +kernel) (by simp) fun G=>?_
   refine go (r:=?_);and_intros<;>intros<;>try exact True.intro
   all_goals first|(exact absurd h ‹¬ NbOk t l c n›)|skip
   refine WpA.loop (fun k:Nat=>⟨[(1,I n),(5,I (psum l k)),(6,I 0),(36,IL l),(37,I l.length),(38,I k)],[NbO t l c false true]⟩) (fun k=>k≤l.length) (fun k=>l.length-k) 0 (by omega) (go (r:=?_)) (fun k hk=>?_)
   ·simp [psum_zero]
   have hb:=psum_bd h5 k hk
   have hg:=fun h=>in_get h5 (k:=k) h
   have hs:=fun h=>psum_succ l k h
   refine go (r:=?_);and_intros<;>intros<;>try exact True.intro
   all_goals have e:k=l.length:=by omega
   all_goals subst e
   all_goals rw [psum_all]
   unfold meanL;rw [if_pos h];rcases h1 with rfl|rfl<;>simp<;>omega
  ·refine FnC.of_body tabOk Tryz.func242 Tryz.ntmps242 rfl (by decide +kernel) (by simp) fun G=>?_
   refine go (r:=?_);and_intros<;>intros<;>try exact True.intro
   all_goals first|(exact absurd h ‹¬ NbOk t l c n›)|skip
   refine WpA.loop (fun k:Nat=>⟨[(1,I n),(2,.ptr 0 0 0),(5,I (psum (t.take n.toNat) k)),(6,I 0),(20,IL (t.take n.toNat)),(21,I (t.take n.toNat).length),(22,I k)],[NbO t l c true false]⟩) (fun k=>k≤(t.take n.toNat).length) (fun k=>(t.take n.toNat).length-k) 0 (by omega) (go (r:=?_)) (fun k hk=>?_)
   ·simp [psum_zero]
   have hb:=psum_bd s0 k hk
   have hg:=fun h=>in_get s0 (k:=k) h
   have hs:=fun h=>psum_succ (t.take n.toNat) k h
   refine go (r:=?_);and_intros<;>intros<;>try exact True.intro
   all_goals have e:k=(t.take n.toNat).length:=by omega
   all_goals subst e
   all_goals rw [psum_all]
   unfold meanL;rw [if_pos h];rcases h1 with rfl|rfl<;>simp<;>omega
  ·refine FnC.of_body tabOk Tryz.func242 Tryz.ntmps242 rfl (by decide +kernel) (by simp) fun G=>?_
   refine go (r:=?_);and_intros<;>intros<;>try exact True.intro
   all_goals first|(exact absurd h ‹¬ NbOk t l c n›)|skip
   refine WpA.loop (fun k:Nat=>⟨[(1,I n),(2,.ptr 0 0 0),(5,I (psum (t.take n.toNat) k)),(6,I 0),(20,IL (t.take n.toNat)),(21,I (t.take n.toNat).length),(22,I k)],[NbO t l c true true]⟩) (fun k=>k≤(t.take n.toNat).length) (fun k=>(t.take n.toNat).length-k) 0 (by omega) (go (r:=?_)) (fun k hk=>?_)
   ·simp [psum_zero]
   have hb:=psum_bd s0 k hk
   have hg:=fun h=>in_get s0 (k:=k) h
   have hs:=fun h=>psum_succ (t.take n.toNat) k h
   refine go (r:=?_);and_intros<;>intros<;>try exact True.intro
   have e:k=(t.take n.toNat).length:=by omega
   subst e
   refine WpA.loop (fun k:Nat=>⟨[(1,I n),(5,I ((t.take n.toNat).sum+psum l k)),(6,I n),(36,IL l),(37,I l.length),(38,I k)],[NbO t l c true true]⟩) (fun k=>k≤l.length) (fun k=>l.length-k) 0 (by omega) (go (r:=?_)) (fun k hk=>?_)
   ·refine ⟨?_,trivial⟩;rw [psum_all,psum_zero];omega
   have hb:=psum_bd h5 k hk
   have hg:=fun h=>in_get h5 (k:=k) h
   have hs:=fun h=>psum_succ l k h
   refine go (r:=?_);and_intros<;>intros<;>try exact True.intro
   all_goals have e:k=l.length:=by omega
   all_goals subst e
   all_goals rw [psum_all]
   unfold meanL;rw [if_pos h];rcases h1 with rfl|rfl<;>simp<;>omega
 ·refine FnC.of_body tabOk Tryz.func242 Tryz.ntmps242 rfl (by decide +kernel) (by simp) fun G=>?_
  refine go (r:=?_);and_intros<;>intros<;>try exact True.intro
  all_goals first|(exact absurd ‹NbOk t l c n› h)|skip
  all_goals (unfold meanL;rw [if_neg h])⟩
end Go.Proofs.YtainhhfnnclfiaaGreat


namespace Go.Proofs.YtainhhfnnclfiaaGreat
open Go Go.Abs
attribute [local irreducible] WpA WpL Rnd Blk Abs.Seq Abs.Fin Abs.FinG FnC FnG Only
theorem in_append {l m:List Int} {lo hi:Int} (h1:In l lo hi) (h2:In m lo hi):In (l++m) lo hi:=by
 unfold In at *;intro v hv
 rcases List.mem_append.1 hv with h|h
 ·exact h1 v h
 ·exact h2 v h
theorem in_one {v lo hi:Int} (h:lo≤v∧v≤hi):In [v] lo hi:=by unfold In;intro x hx;have:x=v:=by simpa using hx
                                                            subst this;exact h
theorem in_rev {l:List Int} {lo hi:Int} (h:In l lo hi):In l.reverse lo hi:=by unfold In at *;intro v hv;exact h v (by simpa using hv)
theorem bord_in {t l:List Int} {c n:Int} (h:NbOk t l c n):In (bordL t l c n) 0 255:=by
 rw [bordL,if_pos h]
 obtain ⟨h1,h2,h3,h4,h5,h6⟩:=h
 exact in_append (in_append (in_rev h5) (in_one h6)) (in_take h4 _)
def soft (a b c:Int):Int:=(a+2*b+c+2)/4
instance smoothed_c:Con 243 (∀ a b c:Int,(0≤a∧a≤255)∧(0≤b∧b≤255)∧0≤c∧c≤255→Fn 243 [I a,I b,I c] [] (I (soft a b c))):=⟨fun a b c h=>by
 refine FnC.of_body tabOk Tryz.func243 Tryz.ntmps243 rfl (by decide +kernel) (by simp) fun G=>?_
 refine go (r:=?_);and_intros<;>intros<;>try exact True.intro
 all_goals rfl⟩
theorem soft_in {a b c:Int} (h:(0≤a∧a≤255)∧(0≤b∧b≤255)∧0≤c∧c≤255):0≤soft a b c∧soft a b c≤255:=by unfold soft;omega
def predL (m:Int) (t l:List Int) (c:Int) (a b:Bool) (n x y:Int):Int:=if NbOk t l c n∧(0≤x∧x≤n-1)∧0≤y∧y≤n-1 then
 (if m=0 then meanL t l c a b n else if m=1 then t.getD x.toNat 0 else if m=2 then l.getD y.toNat 0 else if m=3 then max 0 (min 255 (l.getD y.toNat 0+t.getD x.toNat 0-c))
  else if m=4 then soft (t.getD (x+y).toNat 0) (t.getD (min (2*n-1) (x+y+1)).toNat 0) (t.getD (min (2*n-1) (x+y+2)).toNat 0)
  else if m=5 then soft ((bordL t l c n).getD (x-y+n-1).toNat 0) ((bordL t l c n).getD (x-y+n).toNat 0) ((bordL t l c n).getD (x-y+n+1).toNat 0) else -1) else -1
theorem predL_no {m:Int} {t l:List Int} {c:Int} {a b:Bool} {n x y:Int} (h:¬(NbOk t l c n∧(0≤x∧x≤n-1)∧0≤y∧y≤n-1)):-1=predL m t l c a b n x y:=by unfold predL;rw [if_neg h]
instance PredAt_c:Con 178 (∀ (m:Int) (t l:List Int) (c:Int) (a b:Bool) (n x y:Int),t.length≤1099511627776∧l.length≤1099511627776∧-9223372036854775807≤n→Fn 178 [I m,NbA t l c a b,I n,I x,I y] [] (I (predL m t l c a b n x y))):=⟨fun m t l c a b n x y hl=>by
 by_cases h:NbOk t l c n∧(0≤x∧x≤n-1)∧0≤y∧y≤n-1
 ·obtain ⟨h0,hx,hy⟩:=id h
  obtain ⟨h1,h2,h3,h4,h5,h6⟩:=id h0
  have hbl:=bord_len h0
  have hbi:=bord_in h0
  have g1:=in_get h4 (k:=x.toNat) (by omega)
  have g2:=in_get h5 (k:=y.toNat) (by omega)
  have g3:=in_get h4 (k:=(x+y).toNat) (by omega)
  have g4:=in_get h4 (k:=(min (x+y+1) (2*n-1)).toNat) (by omega)
  have g5:=in_get h4 (k:=(min (x+y+2) (2*n-1)).toNat) (by omega)
  have g6:=in_get hbi (k:=(x-y+n-1).toNat) (by omega)
  have g7:=in_get hbi (k:=(x-y+n).toNat) (by omega)
  have g8:=in_get hbi (k:=(x-y+n+1).toNat) (by omega)
  refine FnC.of_body tabOk Tryz.func178 Tryz.ntmps178 rfl (by decide +kernel) (by simp) fun G=>?_
  refine go (r:=?_);and_intros<;>intros<;>try exact True.intro
  all_goals (unfold predL;rw [if_pos h];first|(subst_vars;rfl)|(simp_all [Int.min_comm];done))
 ·by_cases h0:NbOk t l c n
  ·by_cases hx:0≤x∧x≤n-1
   ·have hy:¬(0≤y∧y≤n-1):=fun hh=>h ⟨h0,hx,hh⟩
    refine FnC.of_body tabOk Tryz.func178 Tryz.ntmps178 rfl (by decide +kernel) (by simp) fun G=>?_
    refine go (r:=?_);and_intros<;>intros<;>try exact True.intro
    all_goals exact predL_no h
   ·refine FnC.of_body tabOk Tryz.func178 Tryz.ntmps178 rfl (by decide +kernel) (by simp) fun G=>?_
    refine go (r:=?_);and_intros<;>intros<;>try exact True.intro
    all_goals exact predL_no h
  ·refine FnC.of_body tabOk Tryz.func178 Tryz.ntmps178 rfl (by decide +kernel) (by simp) fun G=>?_
   refine go (r:=?_);and_intros<;>intros<;>try exact True.intro
   all_goals exact predL_no h⟩
end Go.Proofs.YtainhhfnnclfiaaGreat


namespace Go.Proofs.YtainhhfnnclfiaaGreat
open Go Go.Abs
abbrev PF (m:Int) (t l:List Int) (c:Int) (a b:Bool) (n:Nat) (i:Nat):Int:=predL m t l c a b n ((i%n:Nat):Int) ((i/n:Nat):Int)
def prK (m:Int) (t l:List Int) (c:Int) (a b:Bool) (n k:Nat):List Int:=(List.range k).map (PF m t l c a b n)
theorem prK_len (m:Int) (t l:List Int) (c:Int) (a b:Bool) (n k:Nat):(prK m t l c a b n k).length=k:=by simp [prK]
theorem prK_snoc (m:Int) (t l:List Int) (c:Int) (a b:Bool) (n k:Nat):prK m t l c a b n (k+1)=prK m t l c a b n k++[PF m t l c a b n k]:=by simp [prK,List.range_succ]
def predS (m:Int) (t l:List Int) (c:Int) (a b:Bool) (n:Int):List Int:=if NbOk t l c n∧0≤m∧m≤5 then prK m t l c a b n.toNat (n.toNat*n.toNat) else []
theorem mod_div_in {n i:Nat} (h:i<n*n):i%n<n∧i/n<n:=by
 have hn:0<n:=by rcases Nat.eq_zero_or_pos n with rfl|h0
                 ·simp at h
                 ·exact h0
 exact ⟨Nat.mod_lt _ hn,Nat.div_lt_of_lt_mul h⟩
theorem pred_in {m:Int} {t l:List Int} {c:Int} (a b:Bool) {n x y:Int} (h:NbOk t l c n) (hm:0≤m∧m≤5) (hx:0≤x∧x≤n-1) (hy:0≤y∧y≤n-1):0≤predL m t l c a b n x y∧predL m t l c a b n x y≤255:=by
 unfold predL
 rw [if_pos ⟨h,hx,hy⟩]
 have hme:=mean_in a b h
 have hbl:=bord_len h
 have hbi:=bord_in h
 obtain ⟨h1,h2,h3,h4,h5,h6⟩:=h
 have g1:=in_get h4 (k:=x.toNat) (by omega)
 have g2:=in_get h5 (k:=y.toNat) (by omega)
 have g3:=in_get h4 (k:=(x+y).toNat) (by omega)
 have g4:=in_get h4 (k:=(min (2*n-1) (x+y+1)).toNat) (by omega)
 have g5:=in_get h4 (k:=(min (2*n-1) (x+y+2)).toNat) (by omega)
 have g6:=in_get hbi (k:=(x-y+n-1).toNat) (by omega)
 have g7:=in_get hbi (k:=(x-y+n).toNat) (by omega)
 have g8:=in_get hbi (k:=(x-y+n+1).toNat) (by omega)
 have s1:=soft_in ⟨g3,g4,g5⟩
 have s2:=soft_in ⟨g6,g7,g8⟩
 repeat' split
 all_goals omega
theorem predS_len (m:Int) (t l:List Int) (c:Int) (a b:Bool) (n:Int):(predS m t l c a b n).length=if NbOk t l c n∧0≤m∧m≤5 then n.toNat*n.toNat else 0:=by
 unfold predS;split
 ·rw [prK_len]
 ·rfl
theorem predS_in (m:Int) (t l:List Int) (c:Int) (a b:Bool) (n:Int):In (predS m t l c a b n) 0 255:=by
 unfold predS;split
 ·rename_i h
  have h1:=h.1.1
  unfold In prK
  intro v hv
  obtain ⟨i,hi,rfl⟩:=List.mem_map.1 hv
  have hi:=List.mem_range.1 hi
  have hmd:=mod_div_in hi
  have e:((n.toNat:Nat):Int)=n:=by omega
  have hx1:((i%n.toNat:Nat):Int)≤n-1:=by have:=Int.ofNat_lt.2 hmd.1;rw [e] at this;exact Int.le_sub_one_of_lt this
  have hy1:((i/n.toNat:Nat):Int)≤n-1:=by have:=Int.ofNat_lt.2 hmd.2;rw [e] at this;exact Int.le_sub_one_of_lt this
  have:=pred_in a b (x:=((i%n.toNat:Nat):Int)) (y:=((i/n.toNat:Nat):Int)) h.1 h.2 ⟨Int.natCast_nonneg _,hx1⟩ ⟨Int.natCast_nonneg _,hy1⟩
  unfold PF;rw [e];exact this
 ·unfold In;intro v hv;cases hv
def ResOk (f p:List Int):Prop:=(f.length=16∨f.length=64)∧p.length=f.length∧In f 0 255∧In p 0 255
instance (f p:List Int):Decidable (ResOk f p):=by unfold ResOk;infer_instance
def BmOk (l t le:List Int) (c n:Int):Prop:=NbOk t le c n∧(l.length:Int)=n*n∧In l 0 255
instance (l t le:List Int) (c n:Int):Decidable (BmOk l t le c n):=by unfold BmOk;infer_instance
end Go.Proofs.YtainhhfnnclfiaaGreat


namespace Go.Proofs.YtainhhfnnclfiaaGreat
open Go Go.Abs
theorem tab_in {f:Nat→Int} {lo hi:Int} {N:Nat} (h:∀i,i<N→lo≤f i∧f i≤hi):In (tabL f N) lo hi:=by
 unfold In tabL
 intro v hv
 obtain ⟨i,hi,rfl⟩:=List.mem_map.1 hv
 exact h i (by simpa using hi)
abbrev Fits (W H:Int) (p:List Int) (x y n:Int):Prop:=FrameOk W H p∧(n=4∨n=8)∧(0≤x∧x≤W-n)∧(0≤y∧y≤H-n)∧x%n=0∧y%n=0
theorem ix_in {W H:Int} {p:List Int} (h:FrameOk W H p) {a b:Int} (ha:0≤a∧a≤H-1) (hb:0≤b∧b≤W-1):0≤a*W∧a*W+b<p.length∧a*W≤1024:=by
 obtain ⟨⟨h1,h2,h3,h4,_⟩,h5,_⟩:=h
 have e1:0≤a*W:=Int.mul_nonneg ha.1 (by omega)
 have e2:a*W≤(H-1)*W:=Int.mul_le_mul_of_nonneg_right ha.2 (by omega)
 have e3:(H-1)*W=W*H-W:=by rw [Int.sub_mul,Int.one_mul,Int.mul_comm]
 have e4:W*H≤32*32:=Int.mul_le_mul h2 h4 (by omega) (by omega)
 omega
abbrev pxI (W x y n:Int) (i:Nat):Int:=(y+(i:Int)/n)*W+x+(i:Int)%n
theorem px_in {W H:Int} {p:List Int} {x y n:Int} (h:Fits W H p x y n) {i:Nat} (hi:(i:Int)<n*n):(0≤(i:Int)/n∧(i:Int)/n≤n-1∧0≤(i:Int)%n∧(i:Int)%n≤n-1)∧0≤(y+(i:Int)/n)*W∧(y+(i:Int)/n)*W≤1024∧0≤pxI W x y n i∧pxI W x y n i<p.length:=by
 obtain ⟨h0,h1,hx,hy,_⟩:=h
 have e:0≤(i:Int)/n∧(i:Int)/n≤n-1∧0≤(i:Int)%n∧(i:Int)%n≤n-1:=by rcases h1 with rfl|rfl<;>omega
 have:=ix_in h0 (a:=y+(i:Int)/n) (b:=x+(i:Int)%n) (by omega) (by omega)
 unfold pxI
 omega
def setK (W x y n:Int) (l p:List Int):Nat→List Int
 |0=>p
 |k+1=>(setK W x y n l p k).set (pxI W x y n k).toNat (l.getD k 0)
theorem setK_len (W x y n:Int) (l p:List Int):∀k,(setK W x y n l p k).length=p.length
 |0=>rfl
 |k+1=>by rw [setK,List.length_set];exact setK_len W x y n l p k
abbrev SetOk (W H:Int) (p:List Int) (x y:Int) (l:List Int):Prop:=Fits W H p x y (side l.length)∧In l 0 255
def setL (W H:Int) (p:List Int) (x y:Int) (l:List Int):List Int:=if SetOk W H p x y l then setK W x y (side l.length) l p l.length else p
theorem setL_len (W H:Int) (p:List Int) (x y:Int) (l:List Int):(setL W H p x y l).length=p.length:=by
 unfold setL;split
 ·exact setK_len ..
 ·rfl
def topF (W:Int) (p:List Int) (x y n:Int):Nat→Int
 |0=>if y=0 then 128 else p.getD ((y-1)*W+x+(0:Nat)).toNat 0
 |i+1=>if y=0 then 128 else if ((i+1:Nat):Int)<n∨(y%8=0∧x+(i+1:Nat)<W) then p.getD ((y-1)*W+x+(i+1:Nat)).toNat 0 else topF W p x y n i
def lefF (W:Int) (p:List Int) (x y:Int) (i:Nat):Int:=if 0<x then p.getD ((y+(i:Int))*W+x-1).toNat 0 else 128
def topL (W H:Int) (p:List Int) (x y n:Int):List Int:=if Fits W H p x y n then tabL (topF W p x y n) (2*n).toNat else []
def lefL (W H:Int) (p:List Int) (x y n:Int):List Int:=if Fits W H p x y n then tabL (lefF W p x y) n.toNat else []
def corL (W H:Int) (p:List Int) (x y n:Int):Int:=if Fits W H p x y n then (if 0<x∧0<y then p.getD ((y-1)*W+x-1).toNat 0 else 128) else 0
def hasT (W H:Int) (p:List Int) (x y n:Int):Bool:=decide (Fits W H p x y n∧0<y)
def hasE (W H:Int) (p:List Int) (x y n:Int):Bool:=decide (Fits W H p x y n∧0<x)
theorem topF_in {W:Int} {p:List Int} (hp:In p 0 255) (x y n:Int):∀i,0≤topF W p x y n i∧topF W p x y n i≤255
 |0=>by
  rw [topF];split
  ·omega
  ·exact in_getZ255 hp _
 |i+1=>by
  rw [topF];split
  ·omega
  ·split
   ·exact in_getZ255 hp _
   ·exact topF_in hp x y n i
theorem lefF_in {W:Int} {p:List Int} (hp:In p 0 255) (x y:Int) (i:Nat):0≤lefF W p x y i∧lefF W p x y i≤255:=by
 unfold lefF;split
 ·exact in_getZ255 hp _
 ·omega
theorem nb_ok {W H:Int} {p:List Int} {x y n:Int} (h:Fits W H p x y n):NbOk (topL W H p x y n) (lefL W H p x y n) (corL W H p x y n) n:=by
 have hp:=h.1.2.2
 unfold topL lefL corL
 rw [if_pos h,if_pos h,if_pos h]
 refine ⟨h.2.1,by rw [tabL_len];rcases h.2.1 with rfl|rfl<;>decide,by rw [tabL_len];rcases h.2.1 with rfl|rfl<;>decide,tab_in fun i _=>topF_in hp x y n i,tab_in fun i _=>lefF_in hp x y i,?_⟩
 split
 ·exact in_getZ255 hp _
 ·omega
abbrev TwoOk (p r:List Int):Prop:=0<side p.length∧p.length=r.length∧In p 0 255
def recF (p r:List Int) (i:Nat):Int:=max 0 (min 255 (p.getD i 0+max (-1000000) (min 1000000 (r.getD i 0))))
def recL (p r:List Int):List Int:=if TwoOk p r then tabL (recF p r) p.length else []
theorem recL_in (p r:List Int):In (recL p r) 0 255:=by
 unfold recL;split
 ·exact tab_in fun i _=>by unfold recF;omega
 ·exact in_nil 0 255
theorem recL_len (p r:List Int):(recL p r).length=if TwoOk p r then p.length else 0:=by
 unfold recL;split
 ·exact tabL_len ..
 ·rfl
abbrev PutOk (W H:Int) (p:List Int) (q x y m:Int) (lv:List Int):Prop:=Fits W H p x y (side lv.length)∧(LvOk lv∧0<stepL q)∧0≤m∧m≤5
def nbP (W H:Int) (p:List Int) (x y n m:Int):List Int:=predS m (topL W H p x y n) (lefL W H p x y n) (corL W H p x y n) (hasT W H p x y n) (hasE W H p x y n) n
def putL (W H:Int) (p:List Int) (q:Int) (b:Bool) (x y m:Int) (lv:List Int):List Int:=if PutOk W H p q x y m lv then setL W H p x y (recL (nbP W H p x y (side lv.length) m) (resL b q lv)) else p
theorem putL_len (W H:Int) (p:List Int) (q:Int) (b:Bool) (x y m:Int) (lv:List Int):(putL W H p q b x y m lv).length=p.length:=by
 unfold putL;split
 ·exact setL_len ..
 ·rfl
theorem resL_len {b:Bool} {q:Int} {l:List Int} (h:LvOk l∧0<stepL q):(resL b q l).length=l.length:=by
 have h1:=plcL_len2 h.1.2
 unfold resL
 rw [if_pos h]
 split
 ·exact h1
 ·have hs:scaL (plcL l) q=tabL (scaF (plcL l) q) (plcL l).length:=by unfold scaL;rw [if_pos ⟨plcL_ok h.1,h.2⟩]
  have hl:(scaL (plcL l) q).length=l.length:=by rw [hs,tabL_len,h1]
  have hsq:(side l.length).toNat*(side l.length).toNat=l.length:=by
   rcases h.1.2 with e|e
   ·have e4:side l.length=4:=by rw [e];rfl
    rw [e4,e];rfl
   ·have e8:side l.length=8:=by rw [e];rfl
    rw [e8,e];rfl
  have ht:(trL (side l.length) true (scaL (plcL l) q)).length=l.length:=by
   unfold trL
   rw [prodL_len,if_pos ⟨by rw [hl,hsq],scaL_fit _ _⟩,hsq]
  unfold rndL
  rw [if_pos (by rw [ht];exact (side_pos _).2 h.1.2),List.length_map,ht]
theorem put_two {W H:Int} {p:List Int} {q x y m:Int} {b:Bool} {lv:List Int} (h:PutOk W H p q x y m lv):TwoOk (nbP W H p x y (side lv.length) m) (resL b q lv)∧(nbP W H p x y (side lv.length) m).length=lv.length:=by
 obtain ⟨h1,h2,h3⟩:=h
 have hn:=nb_ok h1
 have hl:(nbP W H p x y (side lv.length) m).length=lv.length:=by
  unfold nbP
  rw [predS_len,if_pos ⟨hn,h3⟩]
  rcases h2.1.2 with e|e<;>rw [e]<;>rfl
 refine ⟨⟨?_,?_,?_⟩,hl⟩
 ·rw [hl];exact (side_pos _).2 h2.1.2
 ·rw [hl,resL_len h2]
 ·exact predS_in _ _ _ _ _ _ _
theorem put_set {W H:Int} {p:List Int} {q x y m:Int} {b:Bool} {lv:List Int} (h:PutOk W H p q x y m lv):SetOk W H p x y (recL (nbP W H p x y (side lv.length) m) (resL b q lv)):=by
 have ht:=put_two (b:=b) h
 refine ⟨?_,recL_in _ _⟩
 rw [recL_len,if_pos ht.1,ht.2];exact h.1
end Go.Proofs.YtainhhfnnclfiaaGreat


namespace Go.Proofs.YtainhhfnnclfiaaGreat
open Go Go.Abs
attribute [local irreducible] WpA WpL Rnd Blk Abs.Seq Abs.Fin Abs.FinG FnC FnG Only
instance Pred_c:Con 113 (∀ (m:Int) (t l:List Int) (c:Int) (a b:Bool) (n:Int),t.length≤1099511627776∧l.length≤1099511627776∧-9223372036854775807≤n→Fn 113 [I m,NbA t l c a b,I n] [XI (predS m t l c a b n)] (.own 0 0 0 (predS m t l c a b n).length)):=⟨fun m t l c a b n hl=>by
 by_cases h:NbOk t l c n∧0≤m∧m≤5
 ·obtain ⟨h0,hm⟩:=id h
  have h1:=h0.1
  rcases h1 with rfl|rfl
  ·have e:predS m t l c a b 4=prK m t l c a b 4 16:=by rw [predS,if_pos h];rfl
   refine FnC.of_body tabOk Tryz.func113 Tryz.ntmps113 rfl (by decide +kernel) (by simp) fun G=>?_
   refine go (r:=?_);and_intros<;>intros<;>try exact True.intro
   refine WpA.loop (fun k:Nat=>⟨[(0,I m),(2,I 4),(4,.ptr 0 0 0),(7,.own 1 0 0 k),(21,I 16),(22,I k)],[NbO t l c a b,XI (prK m t l c a b 4 k)]⟩) (fun k=>k≤16) (fun k=>16-k) 0 (by omega) (go (r:=?_)) (fun k hk=>?_)
   ·simp [prK]
   have hkl:=prK_len m t l c a b 4 k
   refine go (r:=?_);and_intros<;>intros<;>try exact True.intro
   ·rw [prK_snoc];rfl
   all_goals have ey:k=16:=by omega
   all_goals subst ey
   all_goals rw [e]
   rw [prK_len]
  ·have e:predS m t l c a b 8=prK m t l c a b 8 64:=by rw [predS,if_pos h];rfl
   refine FnC.of_body tabOk Tryz.func113 Tryz.ntmps113 rfl (by decide +kernel) (by simp) fun G=>?_
   refine go (r:=?_);and_intros<;>intros<;>try exact True.intro
   refine WpA.loop (fun k:Nat=>⟨[(0,I m),(2,I 8),(4,.ptr 0 0 0),(7,.own 1 0 0 k),(21,I 64),(22,I k)],[NbO t l c a b,XI (prK m t l c a b 8 k)]⟩) (fun k=>k≤64) (fun k=>64-k) 0 (by omega) (go (r:=?_)) (fun k hk=>?_)
   ·simp [prK]
   have hkl:=prK_len m t l c a b 8 k
   refine go (r:=?_);and_intros<;>intros<;>try exact True.intro
   ·rw [prK_snoc];rfl
   all_goals have ey:k=64:=by omega
   all_goals subst ey
   all_goals rw [e]
   rw [prK_len]
 ·have e:predS m t l c a b n=[]:=by rw [predS,if_neg h]
  refine FnC.of_body tabOk Tryz.func113 Tryz.ntmps113 rfl (by decide +kernel) (by simp) fun G=>?_
  refine go (r:=?_);and_intros<;>intros<;>try exact True.intro
  all_goals first|(exact absurd ⟨‹_›,‹_›⟩ h)|(rw [e];done)|(rw [e];rfl)⟩
end Go.Proofs.YtainhhfnnclfiaaGreat


namespace Go.Abs
open Go
section
variable {P:Program} {n m:Nat} {G:Ctx} {T:List (Nat×AV)} {O:List AObj} {Q:Exit→St→Prop} {ops:Array Oper} {l:List Oper} {d:Nat} {tt:TypeId} {pos:String} {after:Array Edge}
inductive KeepL:List AV→List AV→Prop
 |nil:KeepL [] []
 |any {V vs us}:KeepL vs us→KeepL (V::vs) (.any::us)
 |keep {V vs us}:V.still=true→V.nofre=true→KeepL vs us→KeepL (V::vs) (V::us)
 |agg {ds es vs us}:KeepL ds es→KeepL vs us→KeepL (.agg ds::vs) (.agg es::us)
theorem KeepL.rel {S:Nat→Prop} {w:World} {ι ι':Nat→Spot} {vs us:List AV} (h:KeepL vs us):∀{xs f},LRel S w ι O vs xs f→LRel S w ι' [] us xs []:=by
 induction h with
 |nil=>intro xs f hl;cases hl;exact .nil
 |any _ ih=>
  intro xs f hl
  obtain ⟨v,vs',f1,f2,rfl,hv,hr,rfl⟩:=hl.uncons
  exact .any (ih hr)
 |keep hs hn _ ih=>
  intro xs f hl
  obtain ⟨v,vs',f1,f2,rfl,hv,hr,rfl⟩:=hl.uncons
  have:=nofre_nil hv hn
  subst this
  have:=LRel.cons (still_any hv hs [] (fun _ h=>h) (fun _ _=>rfl) (by simp)) (ih hr)
  simpa using this
 |agg _ _ ih1 ih2=>
  intro xs f hl
  obtain ⟨v,vs',f1,f2,rfl,hv,hr,rfl⟩:=hl.uncons
  obtain ⟨us',rfl,ha⟩:=LRel.agg_inv hv
  have:=LRel.agg (ih1 ha) (ih2 hr)
  simpa using this
theorem WpL.callK {f:FuncId} {xs:List Operand} {ats:Array TypeId} {As:List AV} {r:AV} (hc:FnC P f As [] r) (hs:KeepL (xs.map (av T)) As) (hn:d<n) (h:WpL P n m G false ops l ⟨(d,r)::T,O⟩ Q):
 WpL P n m G false ops ({dst:=some d,op:=.call {callee:=.value (.func f),args:=xs.toArray,argTypes:=ats},type:=tt,pos:=pos,after:=after,guard:=none}::l) ⟨T,O⟩ Q:=
 WpL.op rfl (fun a w hr=>by
  obtain ⟨S,ι,F,hr⟩:=hr
  obtain ⟨⟨fn,hf,hb,hnm⟩,hcall⟩:=hc
  have hl:LRel S w (fun _=>none) [] As (xs.map a.eval) []:=hs.rel (hr.evals xs)
  have hex:(execOp a.eval {dst:=some d,op:=.call {callee:=.value (.func f),args:=xs.toArray,argTypes:=ats},type:=tt,pos:=pos,after:=after,guard:=none}).run P w=.ok (.enter f (xs.map a.eval).toArray) w:=by
   simp only [execOp,resolve,Act.eval,Deferred.ofValue,invoke,callFunc,Sem.run_bind,Sem.run_pure,Result.andThen_ok,program,Sem.run,hf,hnm,hb,Bool.false_eq_true,if_false]
   simp
  unfold Oper.wp
  rw [hex]
  refine (hcall w S (xs.map a.eval) hr.stable hl).mono fun e w' he=>?_
  obtain ⟨v,S',ι',F',rfl,hS1,hS2,hS3,hO',hF',hv,hk⟩:=he
  show Rel n m G ⟨(d,r)::T,O⟩ (a.put (some d) v) w'
  have hold:∀b,b<w.heap.size→w'.heap[b]?=w.heap[b]?:=fun b hb=>hk.block b hb (fun h=>h)
  have hlat:Later S w ι O S' w' ι O:=⟨hS1,fun b hb=>hold b (hr.stable b hb),fun id ob h=>⟨ob,h,.inr ⟨rfl,rfl,rfl⟩⟩⟩
  have hrel:RelAt n m G S' ι F ⟨T,O⟩ a w':=by
   refine ⟨hr.defers,hr.size,fun t=>(hr.tmps t).mono hlat (by simp),⟨fun id ob h=>?_,hr.objs.nodup,hr.objs.apart⟩,fun id h b hb=>?_,⟨fun b hb=>hS1 b (hr.base.1 b hb),fun b hb=>?_⟩,hS3,?_,hr.spots,hr.mle⟩
   ·have h:O[id]?=some ob:=h
    have hlt:id<O.length:=(List.getElem?_eq_some_iff.1 h).1
    have ho:=hr.objs.obj id ob h
    unfold ObjAt at ho ⊢
    cases hs:ι id with
    |none=>rw [hs] at ho;exact ho
    |some p=>
     obtain ⟨b,k⟩:=p
     rw [hs] at ho
     obtain ⟨cur',t',fz',f2,h1,h2,h3,h4,h5,h6,h7⟩:=ho
     have key:∀b',b'∈F id→w'.heap[b']?=w.heap[b']?:=fun b' hb'=>hold b' (hr.foot id hlt b' hb').2.2
     exact ⟨cur',t',fz',f2,h1,by rw [key b (by rw [h1];simp)];exact h2,h3,h4,h5,h6,h7.mono hlat fun b' hb'=>key b' (by rw [h1];simp [hb'])⟩
   ·obtain ⟨q1,q2,q3⟩:=hr.foot id h b hb
    refine ⟨q1,fun h'=>?_,by have:=hk.size;omega⟩
    rcases hS2 b h' with h2|h2
    ·exact q2 h2
    ·omega
   ·rcases hS2 b hb with h2|h2
    ·exact hr.base.2 b h2
    ·exact .inr (by have:=hr.keeps.size;omega)
   ·exact ⟨hk.os.trans hr.keeps.os,hk.tape.trans hr.keeps.tape,hk.output.trans hr.keeps.output,by have:=hr.keeps.size;have:=hk.size;omega,fun b hb hM=>by
     rw [hold b (by have:=hr.keeps.size;omega)];exact hr.keeps.block b hb hM⟩
  exact ⟨S',ι,F,hrel.put hn (hv.mono (Later.none O (fun _ h=>h) (fun _ _=>rfl)) (by simp))⟩) h
end
theorem Snap.relG {O:List AObj} {S S2:Nat→Prop} {w:World} {ι ι':Nat→Spot} {vs us:List AV} (h:Snap O vs us):∀{F xs f},ORel S w ι O F→(∀ b,S b→S2 b)→(∀ id,id<O.length→∀b∈F id,S2 b)→(∀ b∈f,S2 b)→LRel S w ι O vs xs f→LRel S2 w ι' [] us xs []:=by
 induction h with
 |nil=>intro F xs f _ _ _ _ hl;cases hl;exact .nil
 |any _ ih=>
  intro F xs f ho hS hF hf hl
  obtain ⟨v,vs',f1,f2,rfl,hv,hr,rfl⟩:=hl.uncons
  exact .any (ih ho hS hF (fun b hb=>hf b (List.mem_append_right _ hb)) hr)
 |keep hs hn _ ih=>
  intro F xs f ho hS hF hf hl
  obtain ⟨v,vs',f1,f2,rfl,hv,hr,rfl⟩:=hl.uncons
  have:=nofre_nil hv hn
  subst this
  have:=LRel.cons (still_any hv hs [] hS (fun _ _=>rfl) (by simp)) (ih ho hS hF (fun b hb=>hf b (List.mem_append_right _ hb)) hr)
  simpa using this
 |fn _ _ ih1 ih2=>
  intro F xs f ho hS hF hf hl
  obtain ⟨v,vs',f1,f2,rfl,hv,hr,rfl⟩:=hl.uncons
  cases hv with|fn a r=>cases r;exact .fn (ih1 ho hS hF (by simp) a) (ih2 ho hS hF (fun b hb=>hf b (List.mem_append_right _ hb)) hr)
 |nilI _ ih=>
  intro F xs f ho hS hF hf hl
  obtain ⟨v,vs',f1,f2,rfl,hv,hr,rfl⟩:=hl.uncons
  have:=(LRel.slice_len hv).2.2 rfl
  subst this
  exact .imm0 (by simp) (ih ho hS hF (fun b hb=>hf b (List.mem_append_right _ hb)) hr)
 |@own id ep len len' sz ob es vs us hob hep hsz hlen hll _ _ ih1 ih2=>
  intro F xs f ho hS hF hf hl
  subst hll hsz
  obtain ⟨v,vs',f1,f2,rfl,hv,hr,rfl⟩:=hl.uncons
  have hr2:=ih2 ho hS hF (fun b hb=>hf b (List.mem_append_right _ hb)) hr
  have hidl:=(List.getElem?_eq_some_iff.1 hob).1
  have hoa:=ho.obj id ob hob
  unfold ObjAt at hoa
  cases hv with
  |own q1 q2 q3 r=>
   rw [hob] at q1;cases q1
   have hc:=q3 hep.symm
   cases hs:ι id with
   |none=>
    rw [hs] at hc hoa
    obtain ⟨h1,_,h3⟩:=hc
    subst h1;subst h3
    have:es=[]:=by
     have:=ih1 (xs:=[]) (f:=[]) ho hS hF (by simp) (by rw [hoa.1];exact .nil)
     cases this;rfl
    subst this
    exact .imm0 (by simp) hr2
   |some p=>
    obtain ⟨b,k⟩:=p
    rw [hs] at hc hoa
    obtain ⟨cap,h1,_,h3,h4⟩:=hc
    obtain ⟨cur,t,fz,f',hFe,hh,_,_,_,_,hl'⟩:=hoa
    subst h1
    have hi:=ih1 ho hS hF (fun b' hb'=>hF id hidl b' (by rw [hFe];simp [hb'])) hl'
    refine .imm (us:=cur.toList.take ob.cells.length) (hF id hidl b (by rw [hFe];simp)) (fun i hi=>cell_of_heap hh _ i hi) hi ?_ h3 h4 hr2
    rw [hlen,hl'.len,hi.len]
 |@ownO id ep off len len' sz ob ds es vs us hob hep hsz hds hlen hll _ _ ih1 ih2=>
  intro F xs f ho hS hF hf hl
  subst hll hsz hds
  obtain ⟨v,vs',f1,f2,rfl,hv,hr,rfl⟩:=hl.uncons
  have hr2:=ih2 ho hS hF (fun b hb=>hf b (List.mem_append_right _ hb)) hr
  have hidl:=(List.getElem?_eq_some_iff.1 hob).1
  have hoa:=ho.obj id ob hob
  unfold ObjAt at hoa
  cases hv with
  |own q1 q2 q3 r=>
   rw [hob] at q1;cases q1
   have hc:=q3 hep.symm
   cases hs:ι id with
   |none=>
    rw [hs] at hc hoa
    obtain ⟨h1,h2,h3⟩:=hc
    subst h1;subst h3
    have:es=[]:=by
     have:=ih1 (xs:=[]) (f:=[]) ho hS hF (by simp) (by rw [hoa.1];simpa using .nil)
     cases this;rfl
    subst this
    exact .imm0 (by simp) hr2
   |some p=>
    obtain ⟨b,k⟩:=p
    rw [hs] at hc hoa
    obtain ⟨cap,h1,_,h3,h4⟩:=hc
    obtain ⟨cur,t,fz,f',hFe,hh,_,_,_,_,hl'⟩:=hoa
    subst h1
    obtain ⟨g,hld,hgm,_⟩:=hl'.drop off
    have hi:=ih1 ho hS hF (fun b' hb'=>hF id hidl b' (by rw [hFe];simp [hgm b' hb'])) hld
    refine .imm (us:=(cur.toList.take ob.cells.length).drop off) (hF id hidl b (by rw [hFe];simp)) (fun i hi=>?_) hi ?_ h3 h4 hr2
    ·have:=cell_of_heap hh ob.cells.length (off+i) (by simp only [List.length_drop] at hi;omega)
     rw [Nat.zero_add] at this
     rw [this,List.getElem?_drop]
    ·rw [hlen,hld.len,hi.len]
 |@fre s l ds es vs us _ _ ih1 ih2=>
  intro F xs f ho hS hF hf hl
  obtain ⟨v,vs',f1,f2,rfl,hv,hr,rfl⟩:=hl.uncons
  have hr2:=ih2 ho hS hF (fun b hb=>hf b (List.mem_append_right _ hb)) hr
  cases hv with
  |fre0 r=>
   have:=ih1 (xs:=[]) (f:=[]) ho hS hF (by simp) .nil
   cases this
   exact .imm0 (by simp) hr2
  |@fre _ _ b _ cap cur t fz _ us' f' _ _ _ hh0 hsz hu hl' h1 h2 h3 r=>
   have hh:=hh0.1
   cases r
   have hi:=ih1 ho hS hF (fun b' hb'=>hf b' (by simp [hb'])) hl'.lift
   subst hu
   refine .imm (us:=cur.toList.take ds.length) (hf b (by simp)) (fun i hi=>cell_of_heap hh _ i hi) hi ?_ h2 h3 hr2
   rw [h1,hl'.len,hi.len]
 |@ptr id ep off ob es vs us hob hep _ _ ih1 ih2=>
  intro F xs f ho hS hF hf hl
  obtain ⟨v,vs',f1,f2,rfl,hv,hr,rfl⟩:=hl.uncons
  have hr2:=ih2 ho hS hF (fun b hb=>hf b (List.mem_append_right _ hb)) hr
  have hidl:=(List.getElem?_eq_some_iff.1 hob).1
  have hoa:=ho.obj id ob hob
  unfold ObjAt at hoa
  cases hv with
  |ptr q1 q2 q3 r=>
   rw [hob] at q1;cases q1
   have hc:=q3 hep.symm
   cases hs:ι id with
   |none=>rw [hs] at hc;exact hc.elim
   |some p=>
    obtain ⟨b,k⟩:=p
    rw [hs] at hc hoa
    obtain ⟨cur,t,fz,f',hFe,hh,_,_,_,_,hl'⟩:=hoa
    have h1:_=Value.pointer (some ⟨b,off,none⟩):=hc
    subst h1
    have:=LRel.iptr (O:=[]) (ι:=ι') (off:=off) (S:=S2) (us:=cur.toList.take ob.cells.length) (hF id hidl b (by rw [hFe];simp)) (fun i hi=>cell_of_heap hh _ i hi) (ih1 ho hS hF (fun b' hb'=>hF id hidl b' (by rw [hFe];simp [hb'])) hl') hr2
    rwa [Nat.zero_add] at this
 |agg _ _ ih1 ih2=>
  intro F xs f ho hS hF hf hl
  obtain ⟨v,vs',f1,f2,rfl,hv,hr,rfl⟩:=hl.uncons
  obtain ⟨us',rfl,ha⟩:=LRel.agg_inv hv
  have:=LRel.agg (ih1 ho hS hF (fun b hb=>hf b (List.mem_append_left _ hb)) ha) (ih2 ho hS hF (fun b hb=>hf b (List.mem_append_right _ hb)) hr)
  simpa using this
theorem FnC.still {P:Program} {f:FuncId} {args:List AV} {N:List AObj} {r r':AV} (hc:FnC P f args N r) (hs:Snap N [r] [r']):FnC P f args [] r':=by
 refine ⟨hc.1,fun w S vs hS hl=>(hc.2 w S vs hS hl).mono fun e w' he=>?_⟩
 obtain ⟨v,S',ι,F,rfl,h1,h2,h3,ho,hF,hv,hk⟩:=he
 refine ⟨v,fun b=>S' b∨∃id,id<N.length∧b∈F id,fun _=>none,fun _=>[],rfl,fun b hb=>.inl (h1 b hb),?_,?_,⟨by simp,by simp,by simp⟩,by simp,?_,hk⟩
 ·rintro b (hb|⟨id,hid,hb⟩)
  ·exact h2 b hb
  ·exact .inr (hF id hid b hb).1
 ·rintro b (hb|⟨id,hid,hb⟩)
  ·exact h3 b hb
  ·exact (hF id hid b hb).2.2
 ·exact hs.relG ho (fun b hb=>.inl hb) (fun id hid b hb=>.inr ⟨id,hid,hb⟩) (by simp) hv
theorem FnC.stillT {P:Program} {f:FuncId} {args:List AV} {N:List AObj} {rs rs':List AV} (hc:FnC P f args N (.tup rs)) (hs:Snap N rs rs'):FnC P f args [] (.tup rs'):=by
 refine ⟨hc.1,fun w S vs hS hl=>(hc.2 w S vs hS hl).mono fun e w' he=>?_⟩
 obtain ⟨v,S',ι,F,rfl,h1,h2,h3,ho,hF,hv,hk⟩:=he
 refine ⟨v,fun b=>S' b∨∃id,id<N.length∧b∈F id,fun _=>none,fun _=>[],rfl,fun b hb=>.inl (h1 b hb),?_,?_,⟨by simp,by simp,by simp⟩,by simp,?_,hk⟩
 ·rintro b (hb|⟨id,hid,hb⟩)
  ·exact h2 b hb
  ·exact .inr (hF id hid b hb).1
 ·rintro b (hb|⟨id,hid,hb⟩)
  ·exact h3 b hb
  ·exact (hF id hid b hb).2.2
 ·obtain ⟨us,rfl,hl'⟩:=LRel.tup_inv hv
  have h9:LRel (fun b=>S' b∨∃id,id<N.length∧b∈F id) w' (fun _=>none) [] rs' us []:=hs.relG ho (fun b hb=>.inl hb) (fun id hid b hb=>.inr ⟨id,hid,hb⟩) (by simp) hl'
  have:=LRel.tup h9 .nil
  simpa using this
theorem ORel.bare {S':Nat→Prop} {w':World} {ι':Nat→Spot} {N:List AObj} {F':Nat→List Nat} (hO:ORel S' w' ι' N F') (hN:Out N):ORel (fun _=>False) w' ι' N F':=by
 refine ⟨fun id ob h=>?_,hO.nodup,hO.apart⟩
 have ho:=hO.obj id ob h
 unfold ObjAt at ho ⊢
 cases hs:ι' id with
 |none=>rw [hs] at ho;exact ho
 |some p=>
  obtain ⟨b,k⟩:=p
  rw [hs] at ho
  obtain ⟨cur',t',fz',f2,h1,h2,h3,h4,h5,h6,h7⟩:=ho
  exact ⟨cur',t',fz',f2,h1,h2,h3,h4,h5,h6,Loc.rel (hN.at h).2 h7⟩
inductive FrzR (N:List AObj):AV→AV→Prop
 |tup {rs rs':List AV}:Snap N rs rs'→FrzR N (.tup rs) (.tup rs')
 |one {r r':AV}:Snap N [r] [r']→FrzR N r r'
theorem FrzR.rel {O:List AObj} {S S2:Nat→Prop} {w:World} {ι ι':Nat→Spot} {F:Nat→List Nat} {r r':AV} {v:Value} (h:FrzR O r r') (ho:ORel S w ι O F) (hS:∀b,S b→S2 b) (hF:∀id,id<O.length→∀b∈F id,S2 b) (hl:VRel S w ι O r v []):VRel S2 w ι' [] r' v []:=by
 cases h with
 |tup hs=>
  obtain ⟨us,rfl,hl'⟩:=LRel.tup_inv hl
  have h9:LRel S2 w ι' [] _ us []:=hs.relG ho hS hF (by simp) hl'
  have:=LRel.tup h9 .nil
  simpa using this
 |one hs=>exact hs.relG ho hS hF (by simp) hl
section
variable {P:Program} {n m:Nat} {G:Ctx} {T:List (Nat×AV)} {O:List AObj} {Q:Exit→St→Prop} {ops:Array Oper} {l:List Oper} {d:Nat} {tt:TypeId} {pos:String} {after:Array Edge}
theorem WpL.callI {f:FuncId} {xs:List Operand} {ats:Array TypeId} {As:List AV} {N:List AObj} {r r':AV} (hc:FnC P f As N r) (hs:Snap O (xs.map (av T)) As) (hloc:Loc [r]) (hN:Out N) (hfz:FrzR N r r') (hn:d<n) (h:WpL P n m G false ops l ⟨(d,r')::T,O⟩ Q):
 WpL P n m G false ops ({dst:=some d,op:=.call {callee:=.value (.func f),args:=xs.toArray,argTypes:=ats},type:=tt,pos:=pos,after:=after,guard:=none}::l) ⟨T,O⟩ Q:=
 WpL.op rfl (fun a w hr=>by
  obtain ⟨S,ι,F,hr⟩:=hr
  obtain ⟨⟨fn,hf,hb,hnm⟩,hcall⟩:=hc
  have hsn:=hs.rel (ι':=fun _=>none) hr.objs hr.stable (hr.evals xs)
  have hex:(execOp a.eval {dst:=some d,op:=.call {callee:=.value (.func f),args:=xs.toArray,argTypes:=ats},type:=tt,pos:=pos,after:=after,guard:=none}).run P w=.ok (.enter f (xs.map a.eval).toArray) w:=by
   simp only [execOp,resolve,Act.eval,Deferred.ofValue,invoke,callFunc,Sem.run_bind,Sem.run_pure,Result.andThen_ok,program,Sem.run,hf,hnm,hb,Bool.false_eq_true,if_false]
   simp
  unfold Oper.wp
  rw [hex]
  refine (hcall w (fun b=>b<w.heap.size) (xs.map a.eval) (fun _ h=>h) hsn).mono fun e w' he=>?_
  obtain ⟨v,S',ι',F',rfl,hS1,hS2,hS3,hO',hF',hv,hk⟩:=he
  show Rel n m G ⟨(d,r')::T,O⟩ (a.put (some d) v) w'
  have hold:∀b,b<w.heap.size→w'.heap[b]?=w.heap[b]?:=fun b hb=>hk.block b hb (fun h=>h)
  let S2:Nat→Prop:=fun b=>S b∨∃id,id<N.length∧b∈F' id
  have hvr:VRel S2 w' (fun _=>none) [] r' v []:=
   hfz.rel (hO'.bare hN) (fun _ h=>h.elim) (fun id hid b hb=>.inr ⟨id,hid,hb⟩) (Loc.rel hloc hv)
  have hlat:Later S w ι O S2 w' ι O:=⟨fun b h=>.inl h,fun b hb=>hold b (hr.stable b hb),fun id ob h=>⟨ob,h,.inr ⟨rfl,rfl,rfl⟩⟩⟩
  have hrel:RelAt n m G S2 ι F ⟨T,O⟩ a w':=by
   refine ⟨hr.defers,hr.size,fun t=>(hr.tmps t).mono hlat (by simp),⟨fun id ob h=>?_,hr.objs.nodup,hr.objs.apart⟩,fun id h b hb=>?_,⟨fun b hb=>.inl (hr.base.1 b hb),fun b hb=>?_⟩,fun b hb=>?_,?_,hr.spots,hr.mle⟩
   ·have h:O[id]?=some ob:=h
    have hlt:id<O.length:=(List.getElem?_eq_some_iff.1 h).1
    have ho:=hr.objs.obj id ob h
    unfold ObjAt at ho ⊢
    cases hs:ι id with
    |none=>rw [hs] at ho;exact ho
    |some p=>
     obtain ⟨b,k⟩:=p
     rw [hs] at ho
     obtain ⟨cur',t',fz',f2,h1,h2,h3,h4,h5,h6,h7⟩:=ho
     have key:∀b',b'∈F id→w'.heap[b']?=w.heap[b']?:=fun b' hb'=>hold b' (hr.foot id hlt b' hb').2.2
     exact ⟨cur',t',fz',f2,h1,by rw [key b (by rw [h1];simp)];exact h2,h3,h4,h5,h6,h7.mono hlat fun b' hb'=>key b' (by rw [h1];simp [hb'])⟩
   ·obtain ⟨q1,q2,q3⟩:=hr.foot id h b hb
    refine ⟨q1,?_,by have:=hk.size;omega⟩
    rintro (h2|⟨i2,hi2,h2⟩)
    ·exact q2 h2
    ·have:=(hF' i2 hi2 b h2).1;omega
   ·rcases hb with h2|⟨i2,hi2,h2⟩
    ·exact hr.base.2 b h2
    ·have:=(hF' i2 hi2 b h2).1
     exact .inr (by have:=hr.keeps.size;omega)
   ·rcases hb with h2|⟨i2,hi2,h2⟩
    ·have:=hr.stable b h2;have:=hk.size;omega
    ·exact (hF' i2 hi2 b h2).2.2
   ·exact ⟨hk.os.trans hr.keeps.os,hk.tape.trans hr.keeps.tape,hk.output.trans hr.keeps.output,by have:=hr.keeps.size;have:=hk.size;omega,fun b hb hM=>by
     rw [hold b (by have:=hr.keeps.size;omega)];exact hr.keeps.block b hb hM⟩
  exact ⟨S2,ι,F,hrel.put hn (hvr.mono (Later.none O (fun _ h=>h) (fun _ _=>rfl)) (by simp))⟩) h
end
end Go.Abs
