/- Proved in this text: lemmas and contracts of functions that the claim uses (parts: WbE, FLev, SyT, FMb, Back, Back2, LnS, Same, Stop, SameI, Da, Da2, FMbL, FMbX, ScrB, DrS, Res, Res2, Res3, ResX, Br0, BrX, AbsXg). No condition. -/
import Derived.Test.YtndflfipaddfoaaGreatWbM13
import Derived.Test.YtndflfipaddfoaaGreatWbM14
import Derived.Test.YtndflfipaddfoaaGreatWbM12
import Derived.Test.YtndflfipaddfoaaGreatWbM10
import Derived.Test.YtndflfipaddfoaaGreatWbM11
import Derived.Test.YtndflfipaddfoaaGreatWbM6
set_option linter.unusedVariables false
set_option linter.unusedSimpArgs false
set_option maxRecDepth 100000
set_option maxHeartbeats 4000000


namespace Go.Proofs.YtndflfipaddfoaaGreat
open Go Go.Abs
attribute [local irreducible] WpA WpL Rnd Blk Abs.Seq Abs.Fin Abs.FinG FnC FnG FnX FnP FinX FinXW Only
attribute [local irreducible] belowD onceD pickD modeD l8D l8AnyD seedD mbD blkD stopS rfS skS ueTab
theorem subOwnEndZ {P:Program} {n m:Nat} {G:Ctx} {T:List (Nat×AV)} {O:List AObj} {Q:Exit→St→Prop} {ops:Array Oper} {l:List Oper} {d:Nat} {md:Bool} {tt:TypeId} {pos:String} {after:Array Edge} {tab:List (Nat×Ty)} (hP:TabOk P tab) {t e k b:Nat} {zs:List AV} {x y:Operand} {kk:IntKind} {id ep len:Nat} {ob:AObj} (ht:tlook tab t=some (.slice e k b zs)) (hx:av T x=.own id ep 0 len) (ho:O[id]?=some ob) (he:ob.ep=ep) {j:Int} (hy:av T y=.sc (.int kk j)) (hjl:j=len) (hn:d<n)
 (h:WpL P n m G md ops l ⟨(d,.imm k 0 [])::T,O⟩ Q):
 WpL P n m G md ops ({dst:=some d,op:=.slice t x (some y) none none,type:=tt,pos:=pos,after:=after,guard:=none}::l) ⟨T,O⟩ Q:=by
 subst hjl
 exact WpL.pure rfl rfl hn (fun S ι F a w hr=>by
  obtain ⟨hu,inf,z,hinf,_,hk,_,_,hk0,_⟩:=hP.slice ht
  have hv:=hr.eval x
  rw [show av (St.mk T O).T x=_ from hx] at hv
  have hye:=hr.sc hy
  have hown:OwnAt (ι id) ob.size 0 len (a.eval x):=by
   cases hv with
   |own q1 q2 q3 r=>
    rw [show (St.mk T O).O[id]?=some ob from ho] at q1
    cases q1
    exact q3 he.symm
  cases hs:ι id with
  |none=>
   rw [hs] at hown
   obtain ⟨hxe,_,hl⟩:=hown
   subst hl
   have hrun:(Instr.sliceAt t (.slice none 0 0) (some (.int kk 0)) none none).run P w=.ok (.slice none 0 0) w:=by
    simp [Instr.sliceAt,Instr.slice,run_underlying hu,Instr.sliceBounds,Instr.sliceBound,asIntOf,Abs.run_sizeOf hinf hk,Sem.run_bind]
   exact ⟨.slice none 0 0,by simp [execOp,hxe,hye,hrun,Sem.run_bind],.imm0 ⟨fun _=>rfl,by decide⟩ .nil⟩
  |some p=>
   obtain ⟨bb,kb⟩:=p
   rw [hs] at hown
   obtain ⟨cap,hxe,h1,h2,h3⟩:=hown
   have hrun:=run_sliceSl hu hinf hk ⟨bb,0,none⟩ len cap (some (.int kk len)) none len len (.inr ⟨kk,rfl⟩) (.inl ⟨rfl,rfl⟩) (by omega) w
   rw [Nat.sub_self] at hrun
   exact ⟨.slice (some (if cap=len then (⟨bb,0,none⟩:Addr) else (⟨bb,0,none⟩:Addr).add (len*k))) 0 (cap-len),by simp [execOp,hxe,hye,hrun,Sem.run_bind],.imm0 ⟨by simp,by omega⟩ .nil⟩) h
def c26D (l:List Int) (c:Cr) (p:List UInt8):Ca3:=if (onceD l c 2).2=true then rfS p 0 0 0 else ⟨0,0,0⟩
instance l26Cache_p:ConP 129 (∀ (v:Value) (l:List Int) (c:Cr) (p:List UInt8) (s:Int),CrOk l c∧p.length≤1099511627776→Pn 129 v l c [.agg [Z p,I s]] (onceD l c 2).1 [] (CA p (c26D l c p).s (c26D l c p).w (c26D l c p).h)):=⟨fun v l c p s h=>by
 have h1:=onceD_ok 2 h.1
 by_cases hb:(onceD l c 2).2=true
 ·rw [show c26D l c p=rfS p 0 0 0 from if_pos hb]
  refine FnP.of_body tabOk Tryz.func129 Tryz.ntmps129 rfl (by decide +kernel) (by simp) rfl rfl rfl fun G hp=>?_
  refine go (r:=?_);and_intros<;>intros<;>try exact True.intro
  all_goals first|contradiction|exact h.1.2.1|exact h.1.2.2|omega|(simp_all;done)
 ·rw [show c26D l c p=⟨0,0,0⟩ from if_neg hb]
  refine FnP.of_body tabOk Tryz.func129 Tryz.ntmps129 rfl (by decide +kernel) (by simp) rfl rfl rfl fun G hp=>?_
  refine go (r:=?_);and_intros<;>intros<;>try exact True.intro
  all_goals first|contradiction|exact h.1.2.1|exact h.1.2.2|omega|(simp_all;done)⟩
theorem set_prE (t:List Ent) (i:Nat) (a b:Int) (h:i<t.length):((rows prF t).set (i*2) (I a)).set (i*2+1) (I b)=rows prF (t.set i (a,b)):=by
 have h1:=rows_set (f:=prF) (k:=2) (o:=0) (V:=I a) (b:=(a,(t.getD i default).2)) (fun _=>rfl) h (by decide) rfl
 have h2:=rows_set (f:=prF) (k:=2) (l:=t.set i (a,(t.getD i default).2)) (i:=i) (o:=1) (V:=I b) (b:=(a,b)) (fun _=>rfl) (by rw [List.length_set];exact h) (by decide) (by rw [List.getD_eq_getElem?_getD,List.getElem?_set_self h];rfl)
 rw [List.set_set] at h2
 rw [←h2,←h1];rfl
theorem l7Table_x (v:Value) (l:List Int) (c:Cr) (h:CrOk l c):FnX Tryz.prog 128 [.ptr 0 0 0] [CurO v c] [v] [CodA l] (Cr×List Ent×Nat) (fun y=>CrOk l y.1∧y.2.1.length≤512∧y.2.2=y.2.1.length) (fun y=>[CurO v y.1]) (fun y=>[XE y.2.1]) (fun y=>.own 1 0 0 y.2.2):=by
 have h5:=ueTab_len
 have hb:=belowD_ok 8 h
 have hb2:=belowD_ok ((512:Nat):Int) hb.1
 have hb21:=hb2.2.2.1 (by decide)
 have hb22:(belowD l (belowD l c 8).1 512).2<512:=hb21
 have hb23:0≤(belowD l (belowD l c 8).1 512).2:=hb2.2.1
 have hb3:=belowD_ok 11 hb2.1
 refine FnX.of_body tabOk Tryz.func128 Tryz.ntmps128 rfl (by decide +kernel) (by simp) rfl rfl fun G hp=>?_
 refine go (r:=?_);and_intros<;>intros<;>try exact True.intro
 all_goals first|contradiction|exact h.2.1|exact h.2.2|exact hb.1.2.1|exact hb.1.2.2|exact hb2.1.2.1|exact hb2.1.2.2|omega|skip
 ·refine FinX.fin (y:=((belowD l (belowD l (belowD l c 8).1 512).1 11).1,ueTab.set (belowD l (belowD l c 8).1 512).2.toNat ((belowD l (belowD l (belowD l c 8).1 512).1 11).2,5),512)) (FinG.oI [some 0,some 1] rfl (ResV.tmp rfl) (.own rfl rfl rfl rfl .nil) (.obj rfl rfl rfl rfl rfl (.inr rfl) (.obj rfl (set_prE ueTab _ _ _ (by omega)) (still_rows (fun _=>rfl) _) rfl rfl (.inr rfl) .nil)) rfl rfl) ⟨?_,?_,?_⟩
  ·exact hb3.1
  ·simp only [List.length_set];omega
  ·simp only [List.length_set];omega
 ·have e1:(ueTab.take 100).length=100:=by rw [List.length_take,h5];rfl
  refine K.sl ?_
  refine WpL.subOwn (j:=100) tabOk rfl rfl rfl rfl rfl (by omega) (by decide) ?_
  refine WpL.weak (Weak.preRows (k:=2) (f:=prF) (id:=1) 100 (fun _=>rfl) rfl) ?_
  refine go (r:=?_);and_intros<;>intros<;>try exact True.intro
  refine FinX.fin (y:=((belowD l c 8).1,ueTab.take 100,100)) (FinG.oI [some 0,some 1] rfl (ResV.tmp rfl) (.own rfl rfl rfl rfl .nil) (.obj rfl rfl rfl rfl rfl (.inr rfl) (.obj rfl rfl (still_rows (fun _=>rfl) _) rfl rfl (.inr rfl) .nil)) rfl rfl) ⟨?_,?_,?_⟩
  ·exact hb.1
  ·simp only;omega
  ·exact e1.symm
 ·refine FinX.fin (y:=((belowD l c 8).1,ueTab,512)) (FinG.oI [some 0,some 1] rfl (ResV.tmp rfl) (.own rfl rfl rfl rfl .nil) (.obj rfl rfl rfl rfl rfl (.inr rfl) (.obj rfl rfl (still_rows (fun _=>rfl) _) rfl rfl (.inr rfl) .nil)) rfl rfl) ⟨?_,?_,?_⟩
  ·exact hb.1
  ·exact Nat.le_of_eq h5
  ·exact h5.symm
theorem l4Cache_x (v:Value) (l:List Int) (c:Cr) (h:CrOk l c):FnX Tryz.prog 126 [.ptr 0 0 0] [CurO v c] [v] [CodA l] (Cr×List UInt8×Int×Int×Int) (fun y=>CrOk l y.1∧y.2.1.length≤8) (fun y=>[CurO v y.1]) (fun _=>[]) (fun y=>CA y.2.1 y.2.2.1 y.2.2.2.1 y.2.2.2.2):=by
 refine FnX.of_body tabOk Tryz.func126 Tryz.ntmps126 rfl (by decide +kernel) (by simp) rfl rfl fun G hp=>?_
 refine goR (r:=?_);and_intros<;>intros<;>try exact True.intro
 refine K.call ?_
 refine WpL.callE (hs:=[0]) (l3Reader_x v l c h) hp handA handOA rfl (fun _=>rfl) (fun _=>.cons rfl (.sc (.sc (.sc .nil))) .nil) (fun _=>outA) rfl rfl (fun _=>rfl) (fun _=>rfl) (by decide) (fun y hy=>?_)
 obtain ⟨c1,p,s⟩:=y
 have hc1:=hy.1
 have hlp:=hy.2
 clear hy
 simp only at hc1 hlp
 have hb:=belowD_ok 5 hc1
 have hb1:=hb.2.2.1 (by decide)
 refine goR (r:=?_);and_intros<;>intros<;>try exact True.intro
 all_goals first|contradiction|exact hc1.2.1|exact hc1.2.2|omega|skip
 refine WpA.loop (fun x:Nat×Cr×Ca3=>⟨[(0,.ptr 0 0 0),(2,.ptr 1 0 0),(4,.ptr 3 0 0),(5,I x.1)],[CurO v x.2.1,⟨[Z [],I 0,I 0,I 0],0,0,none⟩,⟨[Z p,I s],0,0,none⟩,⟨[Z p,I x.2.2.s,I x.2.2.w,I x.2.2.h],0,0,none⟩]⟩) (fun x=>CrOk l x.2.1∧x.1≤5) (fun x=>x.1) ((belowD l c1 5).2.toNat,(belowD l c1 5).1,⟨0,0,0⟩) ⟨hb.1,by show (belowD l c1 5).2.toNat≤5;omega⟩ ?_ ?_
 ·have ez:(((belowD l c1 5).2.toNat:Nat):Int)=(belowD l c1 5).2:=by omega
  simp only [ez]
  exact zk0
 rintro ⟨k,c2,s2,w2,h2⟩ ⟨hc2,hk5⟩
 try simp only at hc2 hk5 ⊢
 by_cases hk0:k=0
 ·subst hk0
  have ho:=onceD_ok 3 hc2
  have hb3:=belowD_ok 16 ho
  refine goR (r:=?_);and_intros<;>intros<;>try exact True.intro
  all_goals first|contradiction|exact hc2.2.1|exact hc2.2.2|exact ho.2.1|exact ho.2.2|exact ho|exact hb3.1|omega|(simp;done)|skip
  all_goals
   refine FinX.fin (y:=(_,p,_,_,_)) (FinG.oI [some 0] rfl (ResV.cell (ds:=[_,_,_,_]) rfl rfl rfl rfl rfl) (.agg (.keep rfl rfl rfl (.keep rfl rfl rfl (.keep rfl rfl rfl (.keep rfl rfl rfl .nil)))) .nil) (.obj rfl rfl rfl rfl rfl (.inr rfl) .nil) rfl rfl) ⟨?_,?_⟩
  all_goals first|exact hlp|exact hb3.1|exact (pickD_ok hb3.1 (by simp)).1
 ·have hb2:=belowD_ok 12 hc2
  refine goR (r:=?_);and_intros<;>intros<;>try exact True.intro
  all_goals first|contradiction|exact hc2.2.1|exact hc2.2.2|exact hb2.1|omega|skip
  try dsimp only [List.append,List.cons_append,List.nil_append]
  apply WpA.regionGB 8 mixed (by decide +kernel)
  ·exact rfl
  ·apply HeadG.hole3 rfl rfl rfl
   ·exact rfl
   ·exact in0
   ·exact rfl
   apply HeadG.preF 0 rfl rfl rfl
   ·exact rfl
   ·exact in0
   ·exact rfl
   apply HeadG.stepF rfl rfl
   ·exact rfl
   ·intro Tv
    refine K.call ?_
    refine K.conP (fun hcon=>?_)
    refine WpL.callP (hs:=[0]) (hcon v l c2 12 hc2) hp handA handOA rfl rfl (.cons rfl (.sc (.sc (.sc .nil))) .nil) outA rfl rfl rfl rfl (by decide) ?_
    exact WpL.nil (Only.mk rfl)
   ·exact rfl
   apply HeadG.stepF rfl rfl
   ·exact rfl
   ·exact in1
   ·exact rfl
   apply HeadG.preF 0 rfl rfl rfl
   ·exact rfl
   ·exact in0
   ·exact rfl
   apply HeadG.preF 0 rfl rfl rfl
   ·exact rfl
   ·exact in0
   ·exact rfl
   apply HeadG.preF 0 rfl rfl rfl
   ·exact rfl
   ·exact in0
   ·exact rfl
   apply HeadG.stepNF rfl
   ·exact rfl
   ·exact in1
   ·exact rfl
   exact Abs.HeadG.nil
  ·exact trueA
  ·exact trueA
  ·exact trueA
  ·exact demA
  ·exact rfl
  ·exact rfl
  refine goR (r:=?_);and_intros<;>intros<;>try exact True.intro
  all_goals first|contradiction|exact hb2.1|omega|skip
  refine Rnd.go (k-1,(belowD l c2 12).1,⟨(skS p s2 w2 h2 (belowD l c2 12).2).s,(skS p s2 w2 h2 (belowD l c2 12).2).w,(skS p s2 w2 h2 (belowD l c2 12).2).h⟩) ⟨hb2.1,by show k-1≤5;omega⟩ ?_ ?_
  ·show k-1<k;omega
  ·have ek:(k:Int)-1=((k-1:Nat):Int):=by omega
   rw [ek]
   exact zk0
theorem DrawFastLevels_x (v:Value) (l:List Int) (hl:l.length≤1048576):FnX Tryz.prog 58 [.sc v] [] [v] [CodA l] (List UInt8×Int×Int×Int×Int×List Ent×Nat) (fun y=>y.1.length≤100000∧y.2.2.2.2.2.1.length≤512∧y.2.2.2.2.2.2=y.2.2.2.2.2.1.length) (fun _=>[]) (fun y=>[XE y.2.2.2.2.2.1]) (fun y=>.tup [CA y.1 y.2.1 y.2.2.1 y.2.2.2.1,I y.2.2.2.2.1,.own 0 0 0 y.2.2.2.2.2.2]):=by
 have hn:=newD_ok hl
 have h5:=ueTab_len
 have hb:=belowD_ok 2 hn
 have hb1:=hb.2.2.1 (by decide)
 have hbo:=blkD_ok (lens:=[3,3,3,3,2,2]) (n:=4+4*(belowD l (newD l) 2).2) (by omega) hb.1
 have h01:=b01_bk (blkD l [3,3,3,3,2,2] (4+4*(belowD l (newD l) 2).2) (belowD l (newD l) 2).1).2.1 (blkD l [3,3,3,3,2,2] (4+4*(belowD l (newD l) 2).2) (belowD l (newD l) 2).1).2.2 [3,3,3,3,2,2] (4+4*(belowD l (newD l) 2).2)
 have hkl:=bkL_len (blkD l [3,3,3,3,2,2] (4+4*(belowD l (newD l) 2).2) (belowD l (newD l) 2).1).2.1 (blkD l [3,3,3,3,2,2] (4+4*(belowD l (newD l) 2).2) (belowD l (newD l) 2).1).2.2 [3,3,3,3,2,2] (4+4*(belowD l (newD l) 2).2)
 have hlv:(blkD l [3,3,3,3,2,2] (4+4*(belowD l (newD l) 2).2) (belowD l (newD l) 2).1).2.2.length≤1099511627776:=by
  have h1:=hbo.2
  have h2:(belowD l (newD l) 2).2=0∨(belowD l (newD l) 2).2=1:=by omega
  rcases h2 with h2|h2<;>rw [h2] at h1 ⊢<;>omega
 have hc1:=hbo.1
 refine FnX.of_bodyW tabOk (by decide) Tryz.func58 Tryz.ntmps58 rfl (by decide +kernel) (by simp) rfl rfl fun G hp=>?_
 refine goR (r:=?_);and_intros<;>intros<;>try exact True.intro
 refine K.call ?_
 refine WpL.callN (l1New_p v l hl) hp handA (.cons rfl (.sc (.sc (.sc .nil))) .nil) rfl rfl (by decide) ?_
 refine goR (r:=?_);and_intros<;>intros<;>try exact True.intro
 all_goals first|contradiction|exact hn.2.1|exact hn.2.2|exact hlv|(simp;done)|omega|skip
 generalize bkL (blkD l [3,3,3,3,2,2] (4+4*(belowD l (newD l) 2).2) (belowD l (newD l) 2).1).2.1 (blkD l [3,3,3,3,2,2] (4+4*(belowD l (newD l) 2).2) (belowD l (newD l) 2).1).2.2 [3,3,3,3,2,2] (4+4*(belowD l (newD l) 2).2)=bits at*
 by_cases hb2:bits.length≤2
 ·have hj:min (bits.length:Int) 2=(bits.length:Int):=by omega
  rw [hj]
  refine K.sl ?_
  refine subOwnEndZ (len:=bits.length) tabOk rfl rfl rfl rfl rfl rfl (by decide) ?_
  refine K.call ?_
  refine WpL.callE (hs:=[1]) (l23Spoilt_e v l _ hc1) hp handA handOA rfl (fun _=>rfl) (fun _=>.cons rfl (.sc (.sc (.sc .nil))) .nil) (fun _=>outA) rfl rfl (fun _=>rfl) (fun _=>rfl) (by decide) (fun y hy=>?_)
  obtain ⟨hy1,hy2⟩:=hy
  have h12:=onceD_ok 12 hy1
  refine goR (r:=?_);and_intros<;>intros<;>try exact True.intro
  all_goals first|contradiction|exact hy1.2.1|exact hy1.2.2|exact ⟨h12,by omega⟩|omega|skip
  all_goals try refine K.call ?_
  ·refine WpL.callE (hs:=[1]) (l4Cache_x v l _ h12) hp handA handOA rfl (fun _=>rfl) (fun _=>.cons rfl (.sc (.sc (.sc .nil))) .nil) (fun _=>outA) rfl rfl (fun _=>rfl) (fun _=>rfl) (by decide) (fun z hz=>?_)
   obtain ⟨hz1,hz2⟩:=hz
   have hpk:=pickD_ok (xs:=[4,5]) hz1 (by simp)
   refine goR (r:=?_);and_intros<;>intros<;>try exact True.intro
   all_goals first|contradiction|exact hz1.2.1|exact hz1.2.2|exact hz1|(simp;done)|omega|skip
   refine K.call ?_
   refine WpL.callE (hs:=[1]) (l7Table_x v l _ hpk.1) hp handA handOA rfl (fun _=>rfl) (fun _=>.cons rfl (.sc (.sc (.sc .nil))) .nil) (fun _=>outA) rfl rfl (fun _=>rfl) (fun _=>rfl) (by decide) (fun u hu=>?_)
   obtain ⟨hu1,hu2,hu3⟩:=hu
   refine goR (r:=?_);and_intros<;>intros<;>try exact True.intro
   all_goals first|contradiction|omega|skip
   refine FinXW.fin (y:=(_,_,_,_,_,_,_)) (FinW.mk (rs:=[_,_,_]) [some 7] rfl (by decide) (.cons (ResV.cell (ds:=[_,_,_,_]) rfl rfl rfl rfl rfl) (.cons (ResV.tmp rfl) (.cons (ResV.tmp rfl) .nil))) (.tup (.agg (.keep rfl rfl rfl (.keep rfl rfl rfl (.keep rfl rfl rfl (.keep rfl rfl rfl .nil)))) (.keep rfl rfl rfl (.own rfl rfl rfl rfl .nil))) .nil) (.obj rfl rfl (still_rows (fun _=>rfl) _) rfl rfl (.inr rfl) .nil) rfl rfl) ⟨?_,?_,?_⟩
   ·exact Nat.le_trans hz2 (by decide)
   ·exact hu2
   ·exact hu3
  ·refine FinXW.fin (y:=(_,_,_,_,_,_,_)) (FinW.mk (rs:=[_,_,_]) [some 6] rfl (by decide) (.cons (ResV.cell (ds:=[_,_,_,_]) rfl rfl rfl rfl rfl) (.cons (ResV.tmp rfl) (.cons (ResV.tmp rfl) .nil))) (.tup (.agg (.keep rfl rfl rfl (.keep rfl rfl rfl (.keep rfl rfl rfl (.keep rfl rfl rfl .nil)))) (.keep rfl rfl rfl (.own rfl rfl rfl rfl .nil))) .nil) (.obj rfl rfl (still_rows (fun _=>rfl) _) rfl rfl (.inr rfl) .nil) rfl rfl) ⟨?_,?_,?_⟩
   ·first|exact Nat.le_trans hy2 (by decide)|exact Nat.le_trans hy3 (by omega)
   ·exact Nat.le_of_eq h5
   ·exact h5.symm
 ·have hj:min (bits.length:Int) 2=((2:Nat):Int):=by omega
  rw [hj]
  refine K.sl ?_
  refine subOwnLo (j:=2) (off:=2) tabOk rfl rfl rfl rfl rfl rfl (by omega) rfl (by decide) ?_
  refine K.call ?_
  refine WpL.callE (hs:=[1,4]) (l23Spoilt_x v l _ bits 2 hc1 ⟨h01,by omega,by omega⟩) hp handA handOA rfl (fun _=>rfl) (fun _=>.cons rfl (.sc (.sc (.sc .nil))) (.cons (still_ints _) (Loc.ints _) .nil)) (fun _=>outA) rfl rfl (fun _=>rfl) (fun _=>rfl) (by decide) (fun y hy=>?_)
  obtain ⟨hy1,hy2,hy3⟩:=hy
  have h12:=onceD_ok 12 hy1
  refine goR (r:=?_);and_intros<;>intros<;>try exact True.intro
  all_goals first|contradiction|exact hy1.2.1|exact hy1.2.2|exact ⟨h12,by omega⟩|omega|skip
  all_goals try refine K.call ?_
  ·refine WpL.callE (hs:=[1]) (l4Cache_x v l _ h12) hp handA handOA rfl (fun _=>rfl) (fun _=>.cons rfl (.sc (.sc (.sc .nil))) .nil) (fun _=>outA) rfl rfl (fun _=>rfl) (fun _=>rfl) (by decide) (fun z hz=>?_)
   obtain ⟨hz1,hz2⟩:=hz
   have hpk:=pickD_ok (xs:=[4,5]) hz1 (by simp)
   refine goR (r:=?_);and_intros<;>intros<;>try exact True.intro
   all_goals first|contradiction|exact hz1.2.1|exact hz1.2.2|exact hz1|(simp;done)|omega|skip
   refine K.call ?_
   refine WpL.callE (hs:=[1]) (l7Table_x v l _ hpk.1) hp handA handOA rfl (fun _=>rfl) (fun _=>.cons rfl (.sc (.sc (.sc .nil))) .nil) (fun _=>outA) rfl rfl (fun _=>rfl) (fun _=>rfl) (by decide) (fun u hu=>?_)
   obtain ⟨hu1,hu2,hu3⟩:=hu
   refine goR (r:=?_);and_intros<;>intros<;>try exact True.intro
   all_goals first|contradiction|omega|skip
   refine FinXW.fin (y:=(_,_,_,_,_,_,_)) (FinW.mk (rs:=[_,_,_]) [some 7] rfl (by decide) (.cons (ResV.cell (ds:=[_,_,_,_]) rfl rfl rfl rfl rfl) (.cons (ResV.tmp rfl) (.cons (ResV.tmp rfl) .nil))) (.tup (.agg (.keep rfl rfl rfl (.keep rfl rfl rfl (.keep rfl rfl rfl (.keep rfl rfl rfl .nil)))) (.keep rfl rfl rfl (.own rfl rfl rfl rfl .nil))) .nil) (.obj rfl rfl (still_rows (fun _=>rfl) _) rfl rfl (.inr rfl) .nil) rfl rfl) ⟨?_,?_,?_⟩
   ·exact Nat.le_trans hz2 (by decide)
   ·exact hu2
   ·exact hu3
  ·refine FinXW.fin (y:=(_,_,_,_,_,_,_)) (FinW.mk (rs:=[_,_,_]) [some 6] rfl (by decide) (.cons (ResV.cell (ds:=[_,_,_,_]) rfl rfl rfl rfl rfl) (.cons (ResV.tmp rfl) (.cons (ResV.tmp rfl) .nil))) (.tup (.agg (.keep rfl rfl rfl (.keep rfl rfl rfl (.keep rfl rfl rfl (.keep rfl rfl rfl .nil)))) (.keep rfl rfl rfl (.own rfl rfl rfl rfl .nil))) .nil) (.obj rfl rfl (still_rows (fun _=>rfl) _) rfl rfl (.inr rfl) .nil) rfl rfl) ⟨?_,?_,?_⟩
   ·first|exact Nat.le_trans hy2 (by decide)|exact Nat.le_trans hy3 (by omega)
   ·exact Nat.le_of_eq h5
   ·exact h5.symm
end Go.Proofs.YtndflfipaddfoaaGreat


namespace Go.Proofs.YtndflfipaddfoaaGreat
open Go Go.Abs
attribute [local irreducible] WpA WpL Rnd Blk Abs.Seq Abs.Fin Abs.FinG FnC FnG Only
attribute [local irreducible] ueTab
instance TableOk_c:Con 120 (∀ t:List Ent,t.length≤1099511627776→Fn 120 [EnL t] [] (B (decide (t=ueTab)))):=⟨fun t hl=>by
 have h5:=ueTab_len
 refine FnC.of_body tabOk Tryz.func120 Tryz.ntmps120 rfl (by decide +kernel) (by simp) fun G=>?_
 refine go (r:=?_);and_intros<;>intros<;>try exact True.intro
 all_goals first|omega⟩
instance TableOk_s:Con 133 (∀ t:List Ent,t.length≤1099511627776→Fn 133 [EnL t] [] (B (decide (t=ueTab)))):=⟨fun t hl=>by
 have h5:=ueTab_len
 refine FnC.of_body tabOk Tryz.func133 Tryz.ntmps133 rfl (by decide +kernel) (by simp) fun G=>?_
 refine go (r:=?_);and_intros<;>intros<;>try exact True.intro
 refine WpA.loop (fun k:Nat=>⟨[(0,EnL t),(3,.own 0 0 0 512),(4,I k)],[XE ueTab]⟩) (fun k=>k≤t.length∧k≤512∧∀j<k,t.getD j default=ueTab.getD j default) (fun k=>t.length-k) 0 (by simp) (go (r:=?_)) (fun k hk=>?_)
 ·trivial
 have hend:(k=t.length∨k=512)→decide ((t.length:Int)=(512:Nat))=decide (t=ueTab):=by
  intro h
  by_cases hlen:t.length=512
  ·have e:=eq_all default (xs:=t) (ys:=ueTab) (by omega) (fun j hj=>hk.2.2 j (by omega))
   simp [e,h5]
  ·have e:t≠ueTab:=by rintro rfl;exact hlen h5
   rw [decide_eq_false e,decide_eq_false (by omega)]
 refine go (r:=?_);and_intros<;>intros<;>try exact True.intro
 ·refine WpL.prNe rfl rfl (by decide) ?_
  refine go (r:=?_);and_intros<;>intros<;>try exact True.intro
  ·simp;rintro rfl;simp_all
  ·rename_i j hj;by_cases h:j=k
   ·subst h;apply Prod.ext<;>simp_all
   ·exact hk.2.2 j (by omega)
 all_goals exact hend (by omega)⟩
abbrev FlOk (p:List UInt8) (s w h n:Int) (t:List Ent):Prop:=CaOk p s w h∧t=ueTab∧(n=4∨n=8)
structure FlS where
 s:Int
 w:Int
 h:Int
 l:List Int
 c:Int
def flS (p:List UInt8) (s w h n:Int) (t:List Ent):FlS:=
 if FlOk p s w h n t then
  let x:=lvS p (plA p s w h) n
  let y:Int:=(x.a+7)/8
  ⟨y,numB p x.a (8*y-x.a).toNat,8*y-x.a,if x.c=0 then x.out else [],x.c⟩
 else ⟨s,w,h,[],5⟩
theorem flS_no {p:List UInt8} {s w h n:Int} {t:List Ent} (hf:¬FlOk p s w h n t):flS p s w h n t=⟨s,w,h,[],5⟩:=if_neg hf
theorem flS_yes {p:List UInt8} {s w h n:Int} {t:List Ent} (hf:FlOk p s w h n t):flS p s w h n t=⟨((lvS p (plA p s w h) n).a+7)/8,numB p (lvS p (plA p s w h) n).a (8*(((lvS p (plA p s w h) n).a+7)/8)-(lvS p (plA p s w h) n).a).toNat,8*(((lvS p (plA p s w h) n).a+7)/8)-(lvS p (plA p s w h) n).a,if (lvS p (plA p s w h) n).c=0 then (lvS p (plA p s w h) n).out else [],(lvS p (plA p s w h) n).c⟩:=if_pos hf
theorem ca_rd {p:List UInt8} {s w h:Int} (hc:CaOk p s w h):RdOk p (8*s-h):=by have:=hc.1;have:=hc.2.1;constructor<;>omega
theorem plA_yes {p:List UInt8} {s w h:Int} (hc:CaOk p s w h):plA p s w h=8*s-h:=if_pos hc
abbrev FlV (x:FlS) (p:List UInt8):AV:=.tup [CA p x.s x.w x.h,.own 0 0 0 x.l.length,I x.c]
section
attribute [local irreducible] lvS numB
instance FastLevels_s:Con 60 (∀ (p:List UInt8) (s w h n:Int) (t:List Ent),p.length≤1099511627776∧t.length≤1099511627776→Fn 60 [CA p s w h,I n,EnL t] [XI (flS p s w h n t).l] (FlV (flS p s w h n t) p)):=⟨fun p s w h n t hl=>by
 refine FnC.of_body tabOk Tryz.func60 Tryz.ntmps60 rfl (by decide +kernel) (by simp) fun G=>?_
 by_cases hf:FlOk p s w h n t
 ·have hc:=hf.1
  have h2:=hf.2.1
  have h3:=hf.2.2
  have hr:RdOk p (plA p s w h):=by rw [plA_yes hc];exact ca_rd hc
  have hok:=lvS_ok (n:=n) hr
  rw [flS_yes hf]
  by_cases h0:(lvS p (plA p s w h) n).c=0
  ·rw [if_pos h0]
   refine go (r:=?_);and_intros<;>intros<;>try exact True.intro
   all_goals first|contradiction|exact hok.1|exact hok.2
  ·rw [if_neg h0]
   refine go (r:=?_);and_intros<;>intros<;>try exact True.intro
   all_goals first|contradiction|exact hok.1|exact hok.2
 ·rw [flS_no hf]
  refine go (r:=?_);and_intros<;>intros<;>try exact True.intro
  all_goals first|contradiction|(exact absurd ⟨by assumption,by assumption,by assumption⟩ hf)⟩
instance FastLevels_c:Con 59 (∀ (p:List UInt8) (s w h n:Int) (t:List Ent),p.length≤1099511627776∧t.length≤1099511627776→Fn 59 [CA p s w h,I n,EnL t] [XI (flS p s w h n t).l] (FlV (flS p s w h n t) p)):=⟨fun p s w h n t hl=>by
 refine FnC.of_body tabOk Tryz.func59 Tryz.ntmps59 rfl (by decide +kernel) (by simp) fun G=>?_
 by_cases hf:FlOk p s w h n t
 ·have hc:=hf.1
  have h2:=hf.2.1
  have h3:=hf.2.2
  have hr:RdOk p (plA p s w h):=by rw [plA_yes hc];exact ca_rd hc
  have hok:=lvS_ok (n:=n) hr
  rw [flS_yes hf]
  refine go (r:=?_);and_intros<;>intros<;>try exact True.intro
  refine K.call ?_
  refine WpL.callM (hs:=[2]) (flv_c p (plA p s w h) n hl.1 h3) handA handOA rfl rfl (.cons rfl (.sc (.sc (.sc .nil))) .nil) outA rfl rfl rfl rfl (by decide) ?_
  refine WpL.weak (σ':=⟨[(3,.ptr 0 0 0),(6,.ptr 1 0 0),(9,.ptr 2 0 0),(34,.own 3 0 0 (lvS p (plA p s w h) n).out.length)],[⟨[Z p,I s,I w,I h],0,0,none⟩,⟨[Z [],I 0,I 0,I 0],0,0,none⟩,FldO p (lvS p (plA p s w h) n).a (lvS p (plA p s w h) n).c,XI (lvS p (plA p s w h) n).out]⟩) (Weak.mk (by repeat (first|exact ReT.nil|refine ReT.cons (.keep rfl rfl .nil) ?_|refine ReT.cons (.own rfl rfl rfl rfl rfl rfl .nil) ?_|refine ReT.cons (.ptr rfl rfl rfl rfl .nil) ?_|refine ReT.cons (.keep (congrArg (fun z=>AV.sc (Value.int .i64 z)) (by first|omega|(skip))) rfl .nil) ?_|refine ReT.cons (.keep (congrArg (fun z:List UInt8=>AV.sc (Value.string ⟨z.toArray⟩)) (by skip)) rfl .nil) ?_|refine ReT.cons (.own rfl rfl rfl rfl rfl (by first|omega|(simp;done)|(simp;omega)) .nil) ?_)) (by repeat (first|exact ReO.nil|refine ReO.cons (Re.same rfl (still_ints _)) (by simp) ?_|refine ReO.cons (Re.same rfl rfl) (by simp) ?_)) (Nat.zero_le _)) ?_
  by_cases h0:(lvS p (plA p s w h) n).c=0
  ·rw [if_pos h0]
   refine go (r:=?_);and_intros<;>intros<;>try exact True.intro
   all_goals first|contradiction|exact hok.1|exact hok.2
  ·rw [if_neg h0]
   refine go (r:=?_);and_intros<;>intros<;>try exact True.intro
   all_goals first|contradiction|exact hok.1|exact hok.2
 ·rw [flS_no hf]
  refine go (r:=?_);and_intros<;>intros<;>try exact True.intro
  all_goals first|contradiction|(exact absurd ⟨by assumption,by assumption,by assumption⟩ hf)⟩
end
section
attribute [local irreducible] flS
theorem flS_len (p:List UInt8) (s w h n:Int) (t:List Ent):(flS p s w h n t).l.length≤64:=by
 by_cases hf:FlOk p s w h n t
 ·rw [flS_yes hf]
  have h2:=lvS_len p (plA p s w h) n
  show (if _ then _ else ([]:List Int)).length≤64
  split
  ·rw [h2];rcases hf.2.2 with rfl|rfl<;>decide
  ·exact Nat.zero_le _
 ·rw [flS_no hf];exact Nat.zero_le _
end
end Go.Proofs.YtndflfipaddfoaaGreat


namespace Go.Proofs.YtndflfipaddfoaaGreat
open Go Go.Abs
attribute [local irreducible] WpA WpL Rnd Blk Abs.Seq Abs.Fin Abs.FinG FnC FnG Only
def byT (i:Nat):List UInt8:=[UInt8.ofNat (2*i)]
theorem byT_num:∀i<128,numB (byT i) 0 7=i:=by decide +kernel
theorem byT_eq:∀i:Nat,i<128→List.map (fun n:Int=>UInt8.ofNat n.toNat) [IntKind.u8.wrap (IntKind.i64.wrap ((i:Int)*2 ^ Int.toNat 1))]=byT i:=by decide +kernel
theorem byT_eq' (i:Nat) (h:i<128):List.map (fun n:Int=>UInt8.ofNat n.toNat) [IntKind.u8.wrap (IntKind.i64.wrap ((i:Int)*2 ^ Int.toNat 1))]=byT i:=byT_eq i h
theorem byT_rb {i:Nat} {n:Int} (h:0≤n∧n≤7):RbOk (byT i) 0 n:=by
 have hl:(byT i).length=1:=rfl
 refine ⟨⟨by omega,by rw [hl];omega⟩,⟨h.1,by omega⟩,?_⟩
 rw [lft_ok ⟨by omega,by rw [hl];omega⟩,hl];omega
def syE (l:List Int) (i:Nat):Ent:=(smA (byT i) 0 l,smV (byT i) 0 l)
def syTab (l:List Int):List Ent:=(List.range 128).map (syE l)
theorem syTab_len (l:List Int):(syTab l).length=128:=by simp [syTab]
instance (l:List Int) (m:Nat) (v:Int):Decidable (hit (codes l) l m v):=by unfold hit;infer_instance
abbrev hitI (l:List Int) (m i:Nat):Prop:=l.getD m 0≠0∧hit (codes l) l m i
def pickE (l:List Int) (m i:Nat):Ent:=match (List.range m).find? (fun q=>decide (hitI l q i)) with
 |some q=>(l.getD q 0,q)
 |none=>(0,0)
theorem pickE_none {l:List Int} {m i:Nat} (h:∀q<m,¬hitI l q i):pickE l m i=(0,0):=by
 unfold pickE
 have:(List.range m).find? (fun q=>decide (hitI l q i))=none:=by
  rw [List.find?_eq_none];intro q hq;simpa using h q (by simpa using hq)
 rw [this]
theorem pickE_some {l:List Int} (hl:CodeOk l) {m i q:Nat} (hm:m≤6) (hq:q<m) (h:hitI l q i):pickE l m i=(l.getD q 0,(q:Int)):=by
 unfold pickE
 cases hf:(List.range m).find? (fun q=>decide (hitI l q i)) with
 |none=>
  rw [List.find?_eq_none] at hf
  exact absurd (decide_eq_true h) (hf q (List.mem_range.2 hq))
 |some r=>
  have h1:=List.find?_some hf
  have h2:=List.mem_of_find?_eq_some hf
  have hr:hitI l r i:=of_decide_eq_true h1
  have hrm:r<m:=by simpa using h2
  have:r=q:=code_uni hl (by omega) (by omega) hr.1 h.1 hr.2 h.2
  rw [this]
theorem pick_sy {l:List Int} (hl:CodeOk l) {i:Nat} (hi:i<128):pickE l 6 i=syE l i:=by
 obtain ⟨m,hm,hs⟩:=sym_cov (p:=byT i) (s:=0) hl (byT_rb (by omega))
 have hh:=sym_hit hl hm hs
 rw [byT_num i hi] at hh
 obtain ⟨e1,e2,_⟩:=sm_yes hl hm hs
 rw [pickE_some hl (Nat.le_refl 6) hm ⟨by omega,hh⟩,syE,e1,e2,Int.zero_add]
def bsI (l:List Int) (m:Nat):Int:=(codes l).getD m 0*cw (l.getD m 0)
def entS (l:List Int) (m:Nat) (k:Int) (i:Nat):Ent:=if l.getD m 0≠0∧bsI l m≤i∧(i:Int)<bsI l m+k then (l.getD m 0,(m:Int)) else pickE l m i
def tabM (l:List Int) (m:Nat) (k:Int):List Ent:=(List.range 128).map (entS l m k)
theorem tabM_len (l:List Int) (m:Nat) (k:Int):(tabM l m k).length=128:=by simp [tabM]
theorem tabM_0 (l:List Int) (m:Nat):tabM l m 0=(List.range 128).map (pickE l m):=by
 unfold tabM;refine List.map_congr_left fun i _=>?_
 unfold entS;rw [if_neg (by omega)]
theorem tabM_set {l:List Int} {m:Nat} {k:Int} (h0:l.getD m 0≠0) {j:Nat} (hj:(j:Int)=bsI l m+k) (hk:0≤k):(tabM l m k).set j (l.getD m 0,(m:Int))=tabM l m (k+1):=by
 refine List.ext_getElem (by simp [tabM]) fun i h1 h2=>?_
 simp only [tabM,List.getElem_set,List.getElem_map,List.getElem_range]
 by_cases e:j=i
 ·subst e;rw [if_pos rfl,entS,if_pos ⟨h0,by omega,by omega⟩]
 ·rw [if_neg e]
  unfold entS
  by_cases c:l.getD m 0≠0∧bsI l m≤i∧(i:Int)<bsI l m+k
  ·rw [if_pos c,if_pos ⟨c.1,c.2.1,by omega⟩]
  ·rw [if_neg c,if_neg (fun hh=>c ⟨hh.1,hh.2.1,by omega⟩)]
theorem tabM_end {l:List Int} (hl:CodeOk l) {m:Nat} (hm:m<6):tabM l m (cw (l.getD m 0))=tabM l (m+1) 0:=by
 rw [tabM_0]
 unfold tabM;refine List.map_congr_left fun i hi=>?_
 unfold entS
 by_cases c:l.getD m 0≠0∧bsI l m≤i∧(i:Int)<bsI l m+cw (l.getD m 0)
 ·rw [if_pos c,pickE_some hl (by omega) (Nat.lt_succ_self m) ⟨c.1,by unfold hit;unfold bsI at c;rw [Int.add_mul,Int.one_mul];exact c.2⟩]
 ·rw [if_neg c]
  have hn:¬hitI l m i:=fun hh=>c ⟨hh.1,by have:=hh.2;unfold hit at this;unfold bsI;rw [Int.add_mul,Int.one_mul] at this;exact this⟩
  by_cases hx:∃q,q<m∧hitI l q i
  ·obtain ⟨q,hq,hh⟩:=hx
   rw [pickE_some hl (by omega) hq hh,pickE_some hl (by omega) (show q<m+1 by omega) hh]
  ·rw [pickE_none (fun q hq hh=>hx ⟨q,hq,hh⟩),pickE_none]
   intro q hq hh
   rcases Nat.lt_or_ge q m with h|h
   ·exact hx ⟨q,h,hh⟩
   ·obtain rfl:q=m:=by omega
    exact hn hh
theorem tabM_start (l:List Int):tabM l 0 0=List.replicate 128 (0,0):=by
 rw [tabM_0]
 refine List.ext_getElem (by simp) fun i h1 h2=>?_
 simp only [List.getElem_map,List.getElem_range,List.getElem_replicate]
 exact pickE_none (fun q hq=>by omega)
theorem tabM_6 {l:List Int} (hl:CodeOk l):tabM l 6 0=syTab l:=by
 rw [tabM_0,syTab];refine List.map_congr_left fun i hi=>?_
 exact pick_sy hl (by simpa using hi)
def syTR (l:List Int):List Ent:=if CodeOk l then syTab l else []
theorem shl_bs {n c:Int} (hn:0≤n∧n≤7) (h0:n>0) (hf:0≤c∧(c+1)*cw n≤128):IntKind.i64.wrap (c*2 ^ (7-n).toNat)=c*cw n:=by
 have e:cw n=2 ^ (7-n).toNat:=by unfold cw;rw [if_pos h0]
 have hp:=(cw_wrap n hn h0).2
 rw [←e]
 have h1:0≤c*cw n:=Int.mul_nonneg hf.1 (by omega)
 have h2:=hf.2
 rw [Int.add_mul,Int.one_mul] at h2
 exact wrap64 _ (by omega)
attribute [local irreducible] syE tabM codes cw smA smV smC
instance SymTable_c:Con 204 (∀ l:List Int,l.length≤1099511627776→Fn 204 [IL l] [XE (syTR l)] (.own 0 0 0 (syTR l).length)):=⟨fun l hl=>by
 refine FnC.of_body tabOk Tryz.func204 Tryz.ntmps204 rfl (by decide +kernel) (by simp) fun G=>?_
 by_cases hc:CodeOk l
 ·have e:syTR l=syTab l:=if_pos hc
  rw [e]
  refine go (r:=?_);and_intros<;>intros<;>try exact True.intro
  all_goals first|contradiction|skip
  refine WpA.loop (fun k:Nat=>⟨[(0,IL l),(3,.own 0 0 0 k),(12,I k)],[XE ((List.range k).map (syE l))]⟩) (fun k=>k≤128) (fun k=>128-k) 0 (by omega) (go (r:=?_)) (fun k hk=>?_)
  ·and_intros<;>first|exact True.intro|rfl
  have hln:((List.range k).map (syE l)).length=k:=by simp
  refine go (r:=?_);and_intros<;>intros<;>try exact True.intro
  ·exact Nat.le_of_ble_eq_true rfl
  ·rw [byT_eq' k (by omega),List.range_succ,List.map_append,List.map_singleton,syE]
  all_goals obtain rfl:k=128:=by omega
  ·exact (syTab_len l).symm
  ·rfl
 ·have e:syTR l=[]:=if_neg hc
  rw [e]
  refine go (r:=?_);and_intros<;>intros<;>try exact True.intro
  all_goals first|contradiction⟩
instance SymTable_s:Con 56 (∀ l:List Int,l.length≤1099511627776→Fn 56 [IL l] [XE (syTR l)] (.own 0 0 0 (syTR l).length)):=⟨fun l hl=>by
 refine FnC.of_body tabOk Tryz.func56 Tryz.ntmps56 rfl (by decide +kernel) (by simp) fun G=>?_
 by_cases hc:CodeOk l
 ·have e:syTR l=syTab l:=if_pos hc
  have ec:codesR l=codes l:=if_pos hc
  have ecl:(codesR l).length=6:=codesR_len l hc
  have h6:=hc.2.1
  rw [e]
  refine go (r:=?_);and_intros<;>intros<;>try exact True.intro
  all_goals first|contradiction|omega|skip
  rw [ec]
  refine WpA.loop (fun m:Nat=>⟨[(0,IL l),(3,.own 0 0 0 (codes l).length),(4,.own 2 0 0 128),(5,I m)],[XI (codes l),⟨ints [],0,2,some 141⟩,XE (tabM l m 0)]⟩) (fun m=>m≤6) (fun m=>6-m) 0 (by omega) (go (r:=?_)) (fun m hm=>?_)
  ·and_intros<;>first|exact True.intro|(rw [tabM_start];rfl)|(rw [tabM_start];done)|rfl
  have hcl:(codes l).length=6:=by rw [codes_len,h6]
  by_cases hm6:m<6
  ·have hb:=code_in hc hm6
   have hend:=tabM_end hc hm6
   have hfit:=fun h=>code_fit hc hm6 h
   have hlen:=tabM_len l m
   have hcw0:l.getD m 0=0→cw (l.getD m 0)=0:=fun h=>by rw [h];unfold cw;rfl
   have hcw:=fun h=>cw_wrap (l.getD m 0) hb h
   have hbs:=fun h=>shl_bs (c:=(codes l).getD m 0) hb h
   have hset:=fun (h0:l.getD m 0≠0) (k:Nat) (j:Nat) (hj:(j:Int)=bsI l m+k)=>tabM_set h0 hj (by omega)
   have hbI:bsI l m=(codes l).getD m 0*cw (l.getD m 0):=rfl
   refine go (r:=?_);and_intros<;>intros<;>try exact True.intro
   refine WpA.loop (fun k:Nat=>⟨[(0,IL l),(3,.own 0 0 0 (codes l).length),(4,.own 2 0 0 128),(5,I m),(6,I k)],[XI (codes l),⟨ints [],0,2,some 141⟩,XE (tabM l m k)]⟩) (fun k=>(k:Int)≤cw (l.getD m 0)) (fun k=>(cw (l.getD m 0)).toNat-k) 0 (by have:=cw_bd (l.getD m 0);omega) (go (r:=?_)) (fun k hk=>?_)
   ·and_intros<;>first|exact True.intro|rfl
   have hlen:=hlen k
   by_cases hz:l.getD m 0=0
   ·have hcw0:=hcw0 hz
    clear hcw hfit hbs hset
    refine go (r:=?_);and_intros<;>intros<;>try exact True.intro
    all_goals first|contradiction|omega|(rw [show (k:Int)=cw (l.getD m 0) by omega,hend];done)
   ·have hcw:=hcw (by omega)
    have hfit:=hfit hz
    have hbs:=hbs (by omega) hfit
    have hset:=hset hz k
    rw [Int.add_mul,Int.one_mul,←hbI] at hfit
    rw [←hbI] at hbs
    have hb0:0≤bsI l m:=by rw [hbI];exact Int.mul_nonneg (code_fit hc hm6 hz).1 (by omega)
    refine go (r:=?_);and_intros<;>intros<;>try exact True.intro
    ·have hJ:IntKind.i64.wrap (IntKind.i64.wrap ((codes l).getD (m:Int).toNat 0*2 ^ (7-l.getD m 0).toNat)+(k:Int))=(((bsI l m).toNat+k:Nat):Int):=by rw [Int.toNat_natCast,hbs,wrap64 _ (by omega)];omega
     rw [hJ]
     have hlt:(bsI l m).toNat+k<128:=by omega
     refine K.ixa ?_
     refine WpL.idxON (i:=(bsI l m).toNat+k) tabOk rfl rfl rfl rfl rfl hlt (by decide) ?_
     refine go (r:=?_);and_intros<;>intros<;>try exact True.intro
     exact hset ((bsI l m).toNat+k) (by omega)
    all_goals first|contradiction|omega|(rw [show (k:Int)=cw (l.getD m 0) by omega,hend];done)
  ·obtain rfl:m=6:=by omega
   refine go (r:=?_);and_intros<;>intros<;>try exact True.intro
   all_goals first|exact (syTab_len l).symm|exact tabM_6 hc
 ·have e:syTR l=[]:=if_neg hc
  have ec:(codesR l).length=0:=by rw [codesR,if_neg hc];rfl
  rw [e]
  refine go (r:=?_);and_intros<;>intros<;>try exact True.intro
  all_goals first|contradiction⟩
end Go.Proofs.YtndflfipaddfoaaGreat


namespace Go.Proofs.YtndflfipaddfoaaGreat
open Go Go.Abs
attribute [local irreducible] WpA WpL Rnd Blk Abs.Seq Abs.Fin Abs.FinG FnC FnG Only
def lnS (t:List Ent):Nat→List Int
 |0=>List.replicate 6 0
 |k+1=>(lnS t k).set (t.getD k default).2.toNat (t.getD k default).1
theorem lnS_len (t:List Ent):∀k,(lnS t k).length=6
 |0=>rfl
 |k+1=>by rw [lnS,List.length_set,lnS_len t k]
abbrev VlOk (e:Ent):Prop:=0≤e.2∧e.2≤5
abbrev VlsOk (t:List Ent):Prop:=∀e∈t,VlOk e
abbrev LfOk (t:List Ent):Prop:=VlsOk t∧CodeOk (lnS t t.length)∧syTab (lnS t t.length)=t
def lnR (t:List Ent):List Int:=if LfOk t then lnS t t.length else []
theorem vls_of {t:List Ent} (h:∀j<t.length,VlOk (t.getD j default)):VlsOk t:=by
 intro e he
 obtain ⟨j,hj,rfl⟩:=List.getElem_of_mem he
 have:=h j hj
 simpa [hj] using this
theorem vls_at {t:List Ent} (h:VlsOk t) {j:Nat} (hj:j<t.length):VlOk (t.getD j default):=h _ (by simp [hj])
theorem lfOk_no1 {t:List Ent} (h:¬VlsOk t):¬LfOk t:=fun hh=>h hh.1
theorem syTR_len (l:List Int):(syTR l).length≤128:=by
 unfold syTR;split
 ·rw [syTab_len];exact Nat.le_refl _
 ·exact Nat.zero_le _
attribute [local irreducible] syTab CodeOk lnS syTR
instance lensFor_c:Con 118 (∀ t:List Ent,t.length≤1099511627776→Fn 118 [EnL t] [XI (if VlsOk t then lnS t t.length else [])] (.tup [.own 0 0 0 (if VlsOk t then lnS t t.length else []).length,B (decide (LfOk t))])):=⟨fun t hl=>by
 have hll:=lnS_len t
 have hst:∀k,lnS t (k+1)=(lnS t k).set (t.getD k default).2.toNat (t.getD k default).1:=fun k=>by rw [lnS]
 have hz:lnS t 0=List.replicate 6 0:=by rw [lnS]
 refine FnC.of_body tabOk Tryz.func118 Tryz.ntmps118 rfl (by decide +kernel) (by simp) fun G=>?_
 refine go (r:=?_);and_intros<;>intros<;>try exact True.intro
 refine WpA.loop (fun k:Nat=>⟨[(0,EnL t),(4,.own 0 0 0 6),(8,EnL t),(9,I t.length),(10,I k)],[XI (lnS t k)]⟩) (fun k=>k≤t.length∧∀j<k,VlOk (t.getD j default)) (fun k=>t.length-k) 0 (by simp) (go (r:=?_)) (fun k hk=>?_)
 ·rw [hz];and_intros<;>first|exact True.intro|rfl
 have hll:=hll k
 have hst:=hst k
 have hex:¬VlOk (t.getD k default)→k<t.length→¬VlsOk t:=fun h h2 hh=>h (vls_at hh h2)
 have hfin:k=t.length→VlsOk t:=fun h=>vls_of fun j hj=>hk.2 j (by omega)
 by_cases hkl:k<t.length
 ·by_cases hv:VlOk (t.getD k default)
  ·refine go (r:=?_);and_intros<;>intros<;>try exact True.intro
   all_goals first|contradiction|(rw [hst];done)|(rename_i j hj;by_cases h:j=k;(subst h;omega);(have:=hk.2 j (by omega);omega))
  ·have hn:=hex hv hkl
   rw [if_neg hn,decide_eq_false (lfOk_no1 hn)]
   refine go (r:=?_);and_intros<;>intros<;>try exact True.intro
   all_goals first|contradiction
 ·obtain rfl:k=t.length:=by omega
  have hv:=hfin rfl
  rw [if_pos hv]
  have h128:=syTR_len (lnS t t.length)
  refine go (r:=?_);and_intros<;>intros<;>try exact True.intro
  ·rename_i hc
   have e:syTR (lnS t t.length)=syTab (lnS t t.length):=by unfold syTR;rw [if_pos hc]
   rw [e,Bool.eq_iff_iff,decide_eq_true_eq,decide_eq_true_eq]
   exact ⟨fun h=>⟨hv,hc,h⟩,fun h=>h.2.2⟩
  ·rename_i hc
   exact (decide_eq_false (fun h:LfOk t=>hc h.2.1)).symm⟩
abbrev FmOk (p:List UInt8) (s w h:Int) (y t:List Ent):Prop:=LfOk y∧CaOk p s w h∧t=ueTab
structure FmS where
 s:Int
 w:Int
 h:Int
 e:Bool
 bs:List Blok
 c:Int
def fmS (p:List UInt8) (s w h:Int) (y t:List Ent):FmS:=
 if FmOk p s w h y t then
  let x:=mbS p (plA p s w h) (lnS y y.length)
  let u:Int:=(x.1.a+7)/8
  ⟨u,numB p x.1.a (8*u-x.1.a).toNat,8*u-x.1.a,x.2,x.1.bs,x.1.c⟩
 else ⟨s,w,h,false,[],4⟩
theorem fmS_no {p:List UInt8} {s w h:Int} {y t:List Ent} (hf:¬FmOk p s w h y t):fmS p s w h y t=⟨s,w,h,false,[],4⟩:=if_neg hf
theorem fmS_yes {p:List UInt8} {s w h:Int} {y t:List Ent} (hf:FmOk p s w h y t):fmS p s w h y t=⟨((mbS p (plA p s w h) (lnS y y.length)).1.a+7)/8,numB p (mbS p (plA p s w h) (lnS y y.length)).1.a (8*(((mbS p (plA p s w h) (lnS y y.length)).1.a+7)/8)-(mbS p (plA p s w h) (lnS y y.length)).1.a).toNat,8*(((mbS p (plA p s w h) (lnS y y.length)).1.a+7)/8)-(mbS p (plA p s w h) (lnS y y.length)).1.a,(mbS p (plA p s w h) (lnS y y.length)).2,(mbS p (plA p s w h) (lnS y y.length)).1.bs,(mbS p (plA p s w h) (lnS y y.length)).1.c⟩:=if_pos hf
abbrev FmV (x:FmS) (p:List UInt8):AV:=.tup [CA p x.s x.w x.h,MbV x.e x.bs.length,I x.c]
attribute [local irreducible] mbS numB lnR ueTab
end Go.Proofs.YtndflfipaddfoaaGreat


namespace Go.Proofs.YtndflfipaddfoaaGreat
open Go Go.Abs
end Go.Proofs.YtndflfipaddfoaaGreat


namespace Go.Proofs.YtndflfipaddfoaaGreat
open Go Go.Abs
end Go.Proofs.YtndflfipaddfoaaGreat


namespace Go.Proofs.YtndflfipaddfoaaGreat
open Go Go.Abs
theorem syE_of {l:List Int} (hl:CodeOk l) {i:Nat} (hi:i<128):∃q,q<6∧hitI l q i∧syE l i=(l.getD q 0,(q:Int)):=by
 obtain ⟨m,h1,h2,h3⟩:=code_cov hl (v:=(i:Int)) (by omega) (by omega)
 exact ⟨m,h1,⟨h2,h3⟩,by rw [←pick_sy hl hi];exact pickE_some hl (Nat.le_refl 6) h1 ⟨h2,h3⟩⟩
theorem lnS_inv {l:List Int} (hl:CodeOk l):∀k,k≤128→∀m,m<6→(lnS (syTab l) k).getD m 0=l.getD m 0∨((lnS (syTab l) k).getD m 0=0∧∀i<k,¬hitI l m i)
 |0,_,m,hm=>.inr ⟨by
  have:m=0∨m=1∨m=2∨m=3∨m=4∨m=5:=by omega
  rcases this with rfl|rfl|rfl|rfl|rfl|rfl<;>rfl,fun i hi=>by omega⟩
 |k+1,hk,m,hm=>by
  have ih:=lnS_inv hl k (by omega) m hm
  obtain ⟨q,hq,hh,he⟩:=syE_of hl (i:=k) (by omega)
  have hg:(syTab l).getD k default=syE l k:=by
   simp [syTab,List.getD_eq_getElem?_getD,List.getElem?_range (show k<128 by omega)]
  have hlen:=lnS_len (syTab l) k
  rw [lnS,hg,he]
  simp only [Int.toNat_natCast]
  by_cases e:q=m
  ·subst e
   left
   rw [List.getD_eq_getElem?_getD,List.getElem?_set_self (by omega)];rfl
  ·have e2:((lnS (syTab l) k).set q (l.getD q 0)).getD m 0=(lnS (syTab l) k).getD m 0:=by
    rw [List.getD_eq_getElem?_getD,List.getElem?_set_ne e,←List.getD_eq_getElem?_getD]
   rw [e2]
   rcases ih with h|⟨h,h2⟩
   ·exact .inl h
   ·refine .inr ⟨h,fun i hi=>?_⟩
    rcases Nat.lt_or_ge i k with h3|h3
    ·exact h2 i h3
    ·obtain rfl:i=k:=by omega
     exact fun h4=>e (code_uni hl hq hm hh.1 h4.1 hh.2 h4.2)
section
attribute [local irreducible] lnS syTab cw codes
theorem lnS_sy {l:List Int} (hl:CodeOk l):lnS (syTab l) (syTab l).length=l:=by
 have h6:=hl.2.1
 have hlen:=lnS_len (syTab l) (syTab l).length
 apply List.ext_getElem
 ·omega
 ·intro m h1 h2
  have hm:m<6:=by omega
  have hi:=lnS_inv hl (syTab l).length (by rw [syTab_len];exact Nat.le_refl _) m hm
  have e1:(lnS (syTab l) (syTab l).length)[m]=(lnS (syTab l) (syTab l).length).getD m 0:=by simp [h1]
  have e2:l[m]=l.getD m 0:=by simp [h2]
  rw [e1,e2]
  rcases hi with h|⟨h,hn⟩
  ·exact h
  ·rw [h]
   by_cases h0:l.getD m 0=0
   ·exact h0.symm
   ·exfalso
    have hc:=code_in hl hm
    have hcw:=(cw_wrap (l.getD m 0) hc (by omega)).2
    have hf:=code_fit hl hm h0
    have hb:0≤(codes l).getD m 0*cw (l.getD m 0):=Int.mul_nonneg hf.1 (by omega)
    have hx:((codes l).getD m 0+1)*cw (l.getD m 0)=(codes l).getD m 0*cw (l.getD m 0)+cw (l.getD m 0):=by rw [Int.add_mul,Int.one_mul]
    have hi2:(((codes l).getD m 0*cw (l.getD m 0)).toNat:Int)=(codes l).getD m 0*cw (l.getD m 0):=by omega
    refine hn ((codes l).getD m 0*cw (l.getD m 0)).toNat (by rw [syTab_len];omega) ⟨h0,?_,?_⟩<;>rw [hi2]<;>omega
end
theorem lf_sy {l:List Int} (hl:CodeOk l):LfOk (syTab l):=by
 refine ⟨vls_of fun j hj=>?_,by rw [lnS_sy hl];exact hl,by rw [lnS_sy hl]⟩
 rw [syTab_len] at hj
 obtain ⟨q,hq,hh,he⟩:=syE_of hl (i:=j) hj
 have hg:(syTab l).getD j default=syE l j:=by
  simp [syTab,List.getD_eq_getElem?_getD,List.getElem?_range hj]
 rw [hg,he]
 exact ⟨by simp,by simp only;omega⟩
end Go.Proofs.YtndflfipaddfoaaGreat


namespace Go.Proofs.YtndflfipaddfoaaGreat
open Go Go.Abs
attribute [local irreducible] WpA WpL Rnd Blk Abs.Seq Abs.Fin Abs.FinG FnC FnG Only
instance l23SameInts_s:Con 99 (∀ a:List Int,a.length≤1099511627776→Fn 99 [IL a,IL a] [] (B true)):=⟨fun a hl=>by
 refine FnC.of_body tabOk Tryz.func99 Tryz.ntmps99 rfl (by decide +kernel) (by simp) fun G=>?_
 refine go (r:=?_);and_intros<;>intros<;>try exact True.intro
 refine WpA.loop (fun k:Nat=>⟨[(0,IL a),(1,IL a),(5,I k)],[]⟩) (fun k=>k≤a.length) (fun k=>a.length-k) 0 (by simp) (go (r:=trivial)) (fun k hk=>?_)
 refine go (r:=?_);and_intros<;>intros<;>try exact True.intro
 all_goals first|contradiction|omega⟩
instance SameMb_s:Con 52 (∀ (e:Bool) (bs:List Blok),bs.length≤1099511627776∧SmB 1099511627776 bs→Fn 52 [.agg [B e,BkL bs],.agg [B e,BkL bs]] [] (B true)):=⟨fun e bs hl=>by
 refine FnC.of_body tabOk Tryz.func52 Tryz.ntmps52 rfl (by decide +kernel) (by simp) fun G=>?_
 refine go (r:=?_);and_intros<;>intros<;>try exact True.intro
 all_goals first|contradiction|(simp_all;done)|skip
 refine WpA.loop (fun k:Nat=>⟨[(2,.ptr 0 0 0),(3,.ptr 1 0 0),(5,I k)],[⟨[B e,BkL bs],0,0,none⟩,⟨[B e,BkL bs],0,0,none⟩]⟩) (fun k=>k≤bs.length) (fun k=>bs.length-k) 0 (by simp) (go (r:=?_)) (fun k hk=>?_)
 ·and_intros<;>first|exact True.intro
 have hg:=fun h=>smB_get hl.2 (k:=k) h
 refine go (r:=?_);and_intros<;>intros<;>try exact True.intro
 all_goals first|contradiction|omega|(simp_all;done)⟩
end Go.Proofs.YtndflfipaddfoaaGreat


namespace Go.Proofs.YtndflfipaddfoaaGreat
open Go Go.Abs
attribute [local irreducible] WpA WpL Rnd Blk Abs.Seq Abs.Fin Abs.FinG FnC FnG Only
end Go.Proofs.YtndflfipaddfoaaGreat


namespace Go.Proofs.YtndflfipaddfoaaGreat
open Go Go.Abs
attribute [local irreducible] WpA WpL Rnd Blk Abs.Seq Abs.Fin Abs.FinG FnC FnG Only
end Go.Proofs.YtndflfipaddfoaaGreat


namespace Go.Proofs.YtndflfipaddfoaaGreat
open Go Go.Abs
attribute [local irreducible] WpA WpL Rnd Blk Abs.Seq Abs.Fin Abs.FinG FnC FnG FnX FnP FinX Only
attribute [local irreducible] belowD onceD pickD modeD l8D l8AnyD optD anyD seedD headD headAnyD symL HasC blkD mbD
abbrev anyM:List Int:=[-1,6,2]
abbrev anyL:List Int:=[16383,16384,-16384]
def mbAnyD (l lens:List Int) (c:Cr):Cr×Mbk:=
 if (belowD l (belowD l (mbD l lens c).1 (mbD l lens c).2.2.length).1 14).2=0 then ((pickD l (belowD l (belowD l (mbD l lens c).1 (mbD l lens c).2.2.length).1 14).1 anyM).1,((mbD l lens c).2.1,(mbD l lens c).2.2.set (belowD l (mbD l lens c).1 (mbD l lens c).2.2.length).2.toNat ((pickD l (belowD l (belowD l (mbD l lens c).1 (mbD l lens c).2.2.length).1 14).1 anyM).2,((mbD l lens c).2.2.getD (belowD l (mbD l lens c).1 (mbD l lens c).2.2.length).2.toNat default).2)))
 else if (belowD l (belowD l (mbD l lens c).1 (mbD l lens c).2.2.length).1 14).2=1 then ((pickD l (belowD l (belowD l (mbD l lens c).1 (mbD l lens c).2.2.length).1 14).1 anyL).1,((mbD l lens c).2.1,(mbD l lens c).2.2.set (belowD l (mbD l lens c).1 (mbD l lens c).2.2.length).2.toNat (((mbD l lens c).2.2.getD (belowD l (mbD l lens c).1 (mbD l lens c).2.2.length).2.toNat default).1,((mbD l lens c).2.2.getD (belowD l (mbD l lens c).1 (mbD l lens c).2.2.length).2.toNat default).2.set 0 (pickD l (belowD l (belowD l (mbD l lens c).1 (mbD l lens c).2.2.length).1 14).1 anyL).2)))
 else if (belowD l (belowD l (mbD l lens c).1 (mbD l lens c).2.2.length).1 14).2=2 then ((belowD l (belowD l (mbD l lens c).1 (mbD l lens c).2.2.length).1 14).1,(!(mbD l lens c).2.1,(mbD l lens c).2.2))
 else if (belowD l (belowD l (mbD l lens c).1 (mbD l lens c).2.2.length).1 14).2=3 then ((belowD l (belowD l (mbD l lens c).1 (mbD l lens c).2.2.length).1 14).1,((mbD l lens c).2.1,(mbD l lens c).2.2.take (belowD l (mbD l lens c).1 (mbD l lens c).2.2.length).2.toNat))
 else ((belowD l (belowD l (mbD l lens c).1 (mbD l lens c).2.2.length).1 14).1,((mbD l lens c).2.1,(mbD l lens c).2.2))
end Go.Proofs.YtndflfipaddfoaaGreat


namespace Go.Proofs.YtndflfipaddfoaaGreat
open Go Go.Abs
attribute [local irreducible] WpA WpL Rnd Blk Abs.Seq Abs.Fin Abs.FinG FnC FnG FnX FnP FinX Only
attribute [local irreducible] belowD onceD pickD modeD l8D l8AnyD optD anyD seedD headD headAnyD symL HasC blkD mbD mbAnyD
def mbOkD (l:List Int):List Int×Mbk:=((l8AnyD l (newD l)).2,(mbAnyD l (l8AnyD l (newD l)).2 (l8AnyD l (newD l)).1).2)
end Go.Proofs.YtndflfipaddfoaaGreat


namespace Go.Proofs.YtndflfipaddfoaaGreat
open Go Go.Abs
attribute [local irreducible] WpA WpL Rnd Blk Abs.Seq Abs.Fin Abs.FinG FnC FnG Only
attribute [local irreducible] mbS numB lnR ueTab syTab CodeOk lnS syTR
abbrev BkD (l:List Blok):AObj:=⟨rows blkF l,1,2,some 92⟩
theorem splitC {Ov:List AObj} {e:AObj} (h:Ov[2]?=some e):∃a b R,Ov=a::b::e::R:=by
 match Ov,h with
 |a::b::e'::R,h=>simp at h;exact ⟨a,b,R,by rw [h]⟩
 |[],h=>simp at h
 |[_],h=>simp at h
 |[_,_],h=>simp at h
instance FastMb_c:Con 54 (∀ (p:List UInt8) (s w h:Int) (y t:List Ent),p.length≤1099511627776∧y.length≤1099511627776∧t.length≤1099511627776→Fn 54 [CA p s w h,EnL y,EnL t] [BkO (fmS p s w h y t).bs] (FmV (fmS p s w h y t) p)):=⟨fun p s w h y t hl=>by
 have h6:=lnS_len y y.length
 refine FnC.of_body tabOk Tryz.func54 Tryz.ntmps54 rfl (by decide +kernel) (by simp) fun G=>?_
 by_cases hf:FmOk p s w h y t
 ·have hy:=hf.1
  have hc:=hf.2.1
  have ht:=hf.2.2
  have hv:=hy.1
  have hr:RdOk p (plA p s w h):=by rw [plA_yes hc];exact ca_rd hc
  have hok:=mbS_ok (lens:=lnS y y.length) hr
  have e:(if VlsOk y then lnS y y.length else [])=lnS y y.length:=if_pos hv
  have e6:(if VlsOk y then lnS y y.length else []).length=6:=by rw [e];exact h6
  rw [fmS_yes hf]
  have hlm:p.length≤1099511627776∧(lnS y y.length).length≤1099511627776:=⟨hl.1,by rw [h6];decide⟩
  refine goR (r:=?_);and_intros<;>intros<;>try exact True.intro
  rw [e]
  generalize hX:mbS p (plA p s w h) (lnS y y.length)=x at hok ⊢
  apply WpA.regionRF (O:=[⟨[Z p,I s,I w,I h],0,0,none⟩,⟨[Z [],I 0,I 0,I 0],0,0,none⟩,⟨[B false,.nilS],0,0,none⟩,XI (lnS y y.length)]) (Or:=[]) (O1:=[⟨[Z p,I s,I w,I h],0,0,none⟩,⟨[Z [],I 0,I 0,I 0],0,0,none⟩,⟨[B false,.nilS],0,0,none⟩,XI (lnS y y.length),BkD x.1.bs,⟨[Z p,I x.1.a],1,0,none⟩,⟨[B x.2,.own 4 1 0 x.1.bs.length],1,0,none⟩,deadO,deadO,deadO]) 15 3 [] [1,2] rfl mixed (by decide +kernel)
  ·exact rfl
  ·apply HeadR.consF .none rfl
   ·exact rfl
   ·exact rfl
   ·exact in1
   ·exact rfl
   ·exact rfl
   apply HeadR.consF .none rfl
   ·exact rfl
   ·exact rfl
   ·exact in1
   ·exact rfl
   ·exact rfl
   apply HeadR.consF .none rfl
   ·exact rfl
   ·exact rfl
   ·exact in1
   ·exact rfl
   ·exact rfl
   apply HeadR.consF .none rfl
   ·exact rfl
   ·exact rfl
   ·exact in0
   ·exact rfl
   ·exact rfl
   apply HeadR.consF .none rfl
   ·exact rfl
   ·exact rfl
   ·exact in1
   ·exact rfl
   ·exact rfl
   apply HeadR.consF .none rfl
   ·exact rfl
   ·exact rfl
   ·exact in1
   ·exact rfl
   ·exact rfl
   apply HeadR.consF (V:=.tup [RA p x.1.a,.agg [B x.2,.own 4 1 0 x.1.bs.length],I x.1.c]) (.put 0 (BkD x.1.bs)) rfl
   ·exact rfl
   ·exact rfl
   ·intro Tv Ov hc2 hp hd hk
    subst hX
    refine K.call ?_
    refine K.con (fun hcon=>?_)
    refine WpL.callF (hcon p (plA p s w h) (lnS y y.length) hlm) snapA locA outA (cnt_some _ 0) rfl rfl (by decide) ?_
    rw [Nat.zero_add]
    apply WpL.putV (p:=0)
    ·exact .tup (.agg (.keep rfl rfl (.keep rfl rfl .nil)) (.agg (.keep rfl rfl (.own (by first|rfl|exact Nat.zero_add _) .nil)) (.keep rfl rfl .nil))) .nil
    ·exact hp 0 _ rfl
    ·exact Nat.zero_le _
    ·exact rfl
    ·exact still_rows (fun _=>rfl) _
   ·exact rfl
   ·exact rfl
   apply HeadR.consF .none rfl
   ·exact rfl
   ·exact rfl
   ·exact in1
   ·exact rfl
   ·exact rfl
   apply HeadR.consF .none rfl
   ·exact rfl
   ·exact rfl
   ·exact in1
   ·exact rfl
   ·exact rfl
   apply HeadR.consF .none rfl
   ·exact rfl
   ·exact rfl
   ·exact in1
   ·exact rfl
   ·exact rfl
   apply HeadR.consF .none rfl
   ·exact rfl
   ·exact rfl
   ·exact in1
   ·exact rfl
   ·exact rfl
   apply HeadR.consF (V:=.ptr 5 1 0) (.put 1 ⟨[Z [],I 0],1,0,none⟩) rfl
   ·exact rfl
   ·exact rfl
   ·intro Tv Ov hc2 hp hd hk
    refine WpL.allocStruct tabOk rfl (nid_len _ 0) (by decide) ?_
    apply WpL.putV (p:=1)
    ·exact .ptr (by first|rfl|exact Nat.zero_add _) .nil
    ·exact hp 1 _ rfl
    ·exact Nat.zero_le _
    ·exact rfl
    ·exact rfl
   ·exact rfl
   ·exact rfl
   apply HeadR.consF (V:=.ptr 6 1 0) (.put 2 ⟨[B false,.nilS],1,0,none⟩) rfl
   ·exact rfl
   ·exact rfl
   ·intro Tv Ov hc2 hp hd hk
    refine WpL.allocStruct tabOk rfl (nid_len _ 0) (by decide) ?_
    apply WpL.putV (p:=2)
    ·exact .ptr (by first|rfl|exact Nat.zero_add _) .nil
    ·exact hp 2 _ rfl
    ·exact Nat.zero_le _
    ·exact rfl
    ·exact rfl
   ·exact rfl
   ·exact rfl
   apply HeadR.consN (.step 1 ⟨[Z p,I x.1.a],1,0,none⟩) 1000
   ·exact rfl
   ·exact rfl
   ·intro Tv Ov hc2 hp hd hk
    obtain ⟨A0,R0,rfl⟩:=split2 (hp 1 _ rfl)
    refine K.st ?_
    refine WpL.store tabOk rfl rfl rfl rfl rfl rfl rfl rfl (Nat.le_of_ble_eq_true rfl) ?_
    refine WpL.weak (Weak.any1 (d:=1000)) ?_
    exact WpL.nil (Only.mk rfl)
   ·exact rfl
   ·exact rfl
   apply HeadR.consN (.step 2 ⟨[B x.2,.own 4 1 0 x.1.bs.length],1,0,none⟩) 1001
   ·exact rfl
   ·exact rfl
   ·intro Tv Ov hc2 hp hd hk
    obtain ⟨A0,A1,R0,rfl⟩:=splitC (hp 2 _ rfl)
    have h0:=hd 6 _ 0 _ (by decide) rfl rfl rfl
    simp only [List.getElem?_cons_zero,Option.some.injEq] at h0
    subst h0
    refine K.st ?_
    refine WpL.store tabOk rfl rfl rfl rfl rfl rfl rfl rfl (Nat.le_of_ble_eq_true rfl) ?_
    refine WpL.weak (Weak.any1 (d:=1001)) ?_
    exact WpL.nil (Only.mk rfl)
   ·exact rfl
   ·exact rfl
   exact HeadR.nil
  ·exact rfl
  ·exact rfl
  ·exact rfl
  ·exact rfl
  ·exact rfl
  ·exact rfl
  ·exact rfl
  refine go (r:=?_);and_intros<;>intros<;>try exact True.intro
  all_goals first|contradiction|exact hok.1|exact hok.2
 ·rw [fmS_no hf]
  have e:¬LfOk y∨¬CaOk p s w h∨t≠ueTab:=by
   by_cases hy:LfOk y
   ·by_cases hc:CaOk p s w h
    ·exact .inr (.inr fun ht=>hf ⟨hy,hc,ht⟩)
    ·exact .inr (.inl hc)
   ·exact .inl hy
  rcases e with e|e|e
  all_goals
   refine go (r:=?_);and_intros<;>intros<;>try exact True.intro
  all_goals first|contradiction|omega⟩
end Go.Proofs.YtndflfipaddfoaaGreat


namespace Go.Proofs.YtndflfipaddfoaaGreat
open Go Go.Abs
attribute [local irreducible] WpA WpL Rnd Blk Abs.Seq Abs.Fin Abs.FinG FnC FnG Only
section
attribute [local irreducible] fmS
end
end Go.Proofs.YtndflfipaddfoaaGreat


namespace Go.Proofs.YtndflfipaddfoaaGreat
open Go Go.Abs
attribute [local irreducible] WpA WpL Rnd Blk Abs.Seq Abs.Fin Abs.FinG FnC FnG FnX FnP FinX Only
instance big_c:Con 24 (∀ l:List Int,l.length≤9223372036854775807→Fn 24 [CodA l] [] (B (decide ((l.length:Int)>1048576)))):=⟨fun l hl=>by
 refine FnC.of_body tabOk Tryz.func24 Tryz.ntmps24 rfl (by decide +kernel) (by simp) fun G=>?_
 refine go (r:=?_);and_intros<;>intros<;>try exact True.intro⟩
end Go.Proofs.YtndflfipaddfoaaGreat


namespace Go.Proofs.YtndflfipaddfoaaGreat
open Go Go.Abs
attribute [local irreducible] WpA WpL Rnd Blk Abs.Seq Abs.Fin Abs.FinG FnC FnG FnX FnP FinX Only
attribute [local irreducible] belowD onceD pickD modeD l8D l8AnyD optD anyD seedD squareD headD headAnyD
section
attribute [local irreducible] lev10D
end
section
attribute [local irreducible] lev25D
end
end Go.Proofs.YtndflfipaddfoaaGreat


namespace Go.Proofs.YtndflfipaddfoaaGreat
open Go Go.Abs
attribute [local irreducible] WpA WpL Rnd Blk Abs.Seq Abs.Fin Abs.FinG FnC FnG Only
end Go.Proofs.YtndflfipaddfoaaGreat


namespace Go.Proofs.YtndflfipaddfoaaGreat
open Go Go.Abs
attribute [local irreducible] WpA WpL Rnd Blk Abs.Seq Abs.Fin Abs.FinG FnC FnG Only
def tA (r k:Nat):Int:=mx 4 k r
def cellsT (r:Nat):List AV:=(List.range 4).map fun q=>if q<r then .fre 1 4 (ints (tabL (tA q) 4)) else .nilS
section
attribute [local irreducible] cellsT
end
end Go.Proofs.YtndflfipaddfoaaGreat


namespace Go.Proofs.YtndflfipaddfoaaGreat
open Go Go.Abs
attribute [local irreducible] WpA WpL Rnd Blk Abs.Seq Abs.Fin Abs.FinG FnC FnG Only
end Go.Proofs.YtndflfipaddfoaaGreat


namespace Go.Proofs.YtndflfipaddfoaaGreat
open Go Go.Abs
attribute [local irreducible] WpA WpL Rnd Blk Abs.Seq Abs.Fin Abs.FinG FnC FnG FnX FnP FinX Only
attribute [local irreducible] belowD onceD pickD modeD l8D l8AnyD optD anyD seedD squareD headD headAnyD lev10D lev25D
instance sameInts_c:Con 62 (∀ a b:List Int,a.length≤1099511627776∧b.length≤1099511627776→Fn 62 [IL a,IL b] [] (B (decide (a=b)))):=⟨fun a b hl=>by
 refine FnC.of_body tabOk Tryz.func62 Tryz.ntmps62 rfl (by decide +kernel) (by simp) fun G=>?_
 refine go (r:=?_);and_intros<;>intros<;>try exact True.intro
 ·symm;rw [decide_eq_false_iff_not];rintro rfl;omega
 ·refine WpA.loop (fun k:Nat=>⟨[(0,IL a),(1,IL b),(5,I k)],[]⟩) (fun k=>k≤a.length∧∀j<k,a.getD j 0=b.getD j 0) (fun k=>a.length-k) 0 (by simp) (go (r:=trivial)) (fun k hk=>?_)
  refine go (r:=?_);and_intros<;>intros<;>try exact True.intro
  ·symm;rw [decide_eq_false_iff_not];rintro rfl;simp_all
  ·rename_i j hj;by_cases h:j=k
   ·subst h;simp_all
   ·exact hk.2 j (by omega)
  ·have:=eq_all 0 (xs:=a) (ys:=b) (by omega) (fun j hj=>hk.2 j (by omega))
   simp [this]⟩
section
attribute [local irreducible] resD resL scnL plcL levL lvlD
end
end Go.Proofs.YtndflfipaddfoaaGreat


namespace Go.Proofs.YtndflfipaddfoaaGreat
open Go Go.Abs
attribute [local irreducible] WpA WpL Rnd Blk Abs.Seq Abs.Fin Abs.FinG FnC FnG Only
attribute [local irreducible] mbOkD mbbL mbS fmS stopS syTR ueTab
end Go.Proofs.YtndflfipaddfoaaGreat


namespace Go.Proofs.YtndflfipaddfoaaGreat
open Go Go.Abs
attribute [local irreducible] WpA WpL Rnd Blk Abs.Seq Abs.Fin Abs.FinG FnC FnG Only
attribute [local irreducible] mbOkD mbbL mbS fmS stopS syTR ueTab blS
instance CacheNew_c:Con 55 (∀ p:List UInt8,p.length≤1099511627776→Fn 55 [Z p] [] (CA p 0 0 0)):=⟨fun p hl=>by
 refine FnC.of_body tabOk Tryz.func55 Tryz.ntmps55 rfl (by decide +kernel) (by simp) fun G=>?_
 refine go (r:=?_);and_intros<;>intros<;>try exact True.intro
 all_goals trace_state⟩
end Go.Proofs.YtndflfipaddfoaaGreat


namespace Go.Abs
open Go
section
variable {P:Program} {n m:Nat} {G:Ctx} {ops:Array Oper} {T0:List (Nat×AV)} {O:List AObj} {fs fs2 out:List (Nat×AV)} {o:Oper} {l:List Oper} {d:Nat} {F:List (Nat×AV)}
theorem HeadJ.consB {b:Bool} (hd:o.dst=some d) (hF:depsF fs o.after.toList=some F)
 (h:∀Tv,WpL P n m G false ops [o] ⟨F++(T0++Tv),O⟩ (Only ⟨(d,.sc (.bool b))::(F++(T0++Tv)),O⟩)) (hb:b=true) (hs:catF fs [(d,.sc (.bool true))]=some fs2) (r:HeadJ P n m G ops T0 O fs2 l out):HeadJ P n m G ops T0 O fs (o::l) out:=by
 subst hb
 exact HeadJ.consF hd hF h hs r
theorem WpA.regionMG {l l1 l2:List Oper} {id:Nat} {T1:List (Nat×AV)} {Q:Exit→St→Prop} (k:Nat) (hm:P.follows .mixedOrders=true) (hB:mixB l.toArray k=true)
 (hl:takeF k l=some l1) (hJ:HeadJ P n m G l.toArray T0 O [] l1 out) (hnd:TrueB (nodupB (out.map (·.1)))) (hfr:TrueB (out.all fun p=>!has T0 p.1))
 (hT1:catF out T0=some T1) (h2:l.drop k=l2) (h:WpL P n m G false l.toArray l2 ⟨T1,O⟩ Q):WpA P n m G (.region id l.toArray true) ⟨T0,O⟩ Q:=by
 have:=takeF_eq hl;subst this;subst h2
 exact WpA.regionM k hm hB hJ hnd.e hfr.e (catF_eq hT1) h
end
end Go.Abs
namespace Go.Abs.K
open Go Go.Abs
section
variable {P:Program} {n m:Nat} {G:Ctx} {ops:Array Oper} {T0:List (Nat×AV)} {O:List AObj} {fs out:List (Nat×AV)} {l:List Oper} {dd:Option Nat} {tt:TypeId} {pos:String} {after:Array Edge} {gd:Option (Nat×Bool)}
theorem jbin {b:BinOp} {t u:TypeId} {x y:Operand} (h:HeadJ P n m G ops T0 O fs ({dst:=dd,op:=.binOp b t x y u,type:=tt,pos:=pos,after:=after,guard:=gd}::l) out):HeadJ P n m G ops T0 O fs ({dst:=dd,op:=.binOp b t x y u,type:=tt,pos:=pos,after:=after,guard:=gd}::l) out:=h
theorem jun {b:UnOp} {t:TypeId} {x:Operand} (h:HeadJ P n m G ops T0 O fs ({dst:=dd,op:=.unOp b t x,type:=tt,pos:=pos,after:=after,guard:=gd}::l) out):HeadJ P n m G ops T0 O fs ({dst:=dd,op:=.unOp b t x,type:=tt,pos:=pos,after:=after,guard:=gd}::l) out:=h
theorem jcall {f:FuncId} {xs:Array Operand} {ats:Array TypeId} (h:HeadJ P n m G ops T0 O fs ({dst:=dd,op:=.call {callee:=.value (.func f),args:=xs,argTypes:=ats},type:=tt,pos:=pos,after:=after,guard:=gd}::l) out):HeadJ P n m G ops T0 O fs ({dst:=dd,op:=.call {callee:=.value (.func f),args:=xs,argTypes:=ats},type:=tt,pos:=pos,after:=after,guard:=gd}::l) out:=h
end
end Go.Abs.K
