/- Proved in this text: lemmas and contracts of functions that the claim uses (parts: Fr, AbsSl, AbsR5, Fr2, EncD, BstD, NbD, NbE, NbF, AbsPs, NbG, EncC, RdP, ParL, Dec, SmF). No condition. -/
import Derived.Test.YtainhhfnnclfiaaGreatBsM16
import Derived.Test.YtainhhfnnclfiaaGreatBsM12
import Derived.Test.YtainhhfnnclfiaaGreatBsM6
import Derived.Test.YtainhhfnnclfiaaGreatBsM14
import Derived.Test.YtainhhfnnclfiaaGreatBsM7
import Derived.Test.YtainhhfnnclfiaaGreatBsM10
import Derived.Test.YtainhhfnnclfiaaGreatBsM11
import Derived.Test.YtainhhfnnclfiaaGreatBsM15
import Derived.Test.YtainhhfnnclfiaaGreatBsM13
set_option linter.unusedVariables false
set_option linter.unusedSimpArgs false
set_option maxRecDepth 100000
set_option maxHeartbeats 16000000


namespace Go.Proofs.YtainhhfnnclfiaaGreat
open Go Go.Abs
attribute [local irreducible] WpA WpL Rnd Blk Abs.Seq Abs.Fin Abs.FinG FnC FnG FnX FnP FinX Only
attribute [local irreducible] belowD onceD pickD modeD l8D l8AnyD optD anyD seedD headD headAnyD symL HasC blkD lev25D frK
theorem mul_sm {a b:Int} (ha:-4≤a∧a≤4) (hb:0≤b∧b≤1024):-4096≤a*b∧a*b≤4096:=by
 have:a=-4∨a=-3∨a=-2∨a=-1∨a=0∨a=1∨a=2∨a=3∨a=4:=by omega
 rcases this with rfl|rfl|rfl|rfl|rfl|rfl|rfl|rfl|rfl<;>omega
instance l18Frame_p:ConP 248 (∀ (v:Value) (l:List Int) (c:Cr),CrOk l c→Pn 248 v l c [] (frD l c).1 [XI (frD l c).2.p] (FrOwn 1 (frD l c).2.w (frD l c).2.h (frD l c).2.p.length)):=⟨fun v l c h=>by
 have h1:=belowD_ok 3 h
 have h2:=belowD_ok 2 h1.1
 have h3:=belowD_ok 256 h2.1
 have h4:=belowD_ok 9 h3.1
 have h5:=belowD_ok 9 h4.1
 have h6:=pickD_ok (xs:=noise5) h5.1 (by decide)
 have a1:=h1.2.1
 have a2:=h1.2.2.1 (by decide)
 have b1:=h2.2.1
 have b2:=h2.2.2.1 (by decide)
 have c1:0≤(fBr l c).2:=h3.2.1
 have c2:(fBr l c).2<256:=h3.2.2.1 (by decide)
 have d1:0≤(fX l c).2:=h4.2.1
 have d2:(fX l c).2<9:=h4.2.2.1 (by decide)
 have e1:0≤(fY l c).2:=h5.2.1
 have e2:(fY l c).2<9:=h5.2.2.1 (by decide)
 have n1:1≤(fN l c).2∧(fN l c).2≤256:=noise_in h6.2
 have hsd:SidesOk (frW l c) (frH l c):=by
  show SidesOk (8*(1+(belowD l c 3).2)) (8*(1+(belowD l (belowD l c 3).1 2).2))
  refine ⟨?_,?_,?_,?_,?_,?_⟩<;>omega
 have hwh:=wh_in hsd
 have hok:=frD_ok h
 unfold frD at hok ⊢
 simp only at hok ⊢
 generalize hS:frK l (frW l c) (fBr l c).2 ((fX l c).2-4) ((fY l c).2-4) (fN l c).2 (frW l c*frH l c).toNat 0 ((fN l c).1,List.replicate (frW l c*frH l c).toNat 0)=S at hok ⊢
 refine FnP.of_body tabOk Tryz.func248 Tryz.ntmps248 rfl (by decide +kernel) (by simp) rfl rfl rfl fun G hp=>?_
 refine go (r:=?_);and_intros<;>intros<;>try exact True.intro
 all_goals first|exact h.2.1|exact h.2.2|exact hsd|exact h5.1.2.1|exact h5.1.2.2|(simp;done)|skip
 generalize hN:(frW l c*frH l c).toNat=N at*
 have hN2:(frW l c*frH l c).toNat=N:=hN
 have hwN:frW l c*frH l c=(N:Int):=by omega
 refine WpA.loop (fun x:Nat×Cr×List Int=>⟨[(0,.ptr 0 0 0),(2,.ptr 1 0 0),(3,I (frW l c)),(4,I (frH l c)),(5,.ptr 3 0 0),(6,I (fBr l c).2),(7,I ((fX l c).2-4)),(8,I ((fY l c).2-4)),(9,I (fN l c).2),(10,I x.1)],[CurO v x.2.1,⟨[I 0,I 0,.nilS],0,0,none⟩,XI x.2.2,⟨[I (frW l c),I (frH l c),.own 2 0 0 N],0,0,none⟩]⟩) (fun x=>x.1≤N∧CrOk l x.2.1∧x.2.2.length=N∧frK l (frW l c) (fBr l c).2 ((fX l c).2-4) ((fY l c).2-4) (fN l c).2 (N-x.1) x.1 x.2=S) (fun x=>N-x.1) (0,(fN l c).1,List.replicate N 0) ⟨Nat.zero_le _,h6.1,by simp,hS⟩ ?_ ?_
 ·exact Weak.mk (by repeat (first|exact ReT.nil|refine ReT.cons (.keep rfl rfl .nil) ?_|refine ReT.cons (.own rfl rfl rfl rfl rfl rfl .nil) ?_|refine ReT.cons (.ptr rfl rfl rfl rfl .nil) ?_|refine ReT.cons (.keep (congrArg (fun z=>AV.sc (Value.int .i64 z)) (by first|omega|(skip))) rfl .nil) ?_|refine ReT.cons (.keep (congrArg (fun z:List UInt8=>AV.sc (Value.string ⟨z.toArray⟩)) (by skip)) rfl .nil) ?_|refine ReT.cons (.own rfl rfl rfl rfl rfl (by first|omega|(simp;done)|(simp;omega)) .nil) ?_)) (by repeat (first|exact ReO.nil|refine ReO.cons (Re.same rfl rfl) (.inr rfl) ?_|refine ReO.cons (Re.same rfl (still_ints _)) (.inr rfl) ?_|refine ReO.cons (.keep rfl rfl (.keep rfl rfl (.own rfl rfl rfl rfl rfl rfl .nil))) (.inr rfl) ?_|refine ReO.cons (.keep rfl rfl (.keep rfl rfl (.own rfl rfl rfl rfl rfl (by first|omega|(simp;done)) .nil))) (.inr rfl) ?_)) (Nat.le_of_ble_eq_true rfl)
 rintro ⟨k,c1,xs⟩ ⟨hk,hc1,hxl,hK⟩
 try simp only at hk hc1 hxl hK ⊢
 by_cases hlt:k<N
 ·have hE:frK l (frW l c) (fBr l c).2 ((fX l c).2-4) ((fY l c).2-4) (fN l c).2 (N-(k+1)) (k+1) (frS l (frW l c) (fBr l c).2 ((fX l c).2-4) ((fY l c).2-4) (fN l c).2 k (c1,xs))=S:=by
   rw [show N-k=(N-(k+1))+1 by omega,frK_succ] at hK;exact hK
  have hb:=belowD_ok (fN l c).2 hc1
  have hb0:=hb.2.1
  have hb1:=hb.2.2.1 (by omega)
  have hr0:0≤(k:Int)%frW l c∧(k:Int)%frW l c≤1024:=⟨Int.emod_nonneg _ (by omega),by have:=Int.emod_lt_of_pos (k:Int) (show 0<frW l c by omega);omega⟩
  have hq0:0≤(k:Int)/frW l c∧(k:Int)/frW l c≤1024:=⟨Int.ediv_nonneg (by omega) (by omega),by have:=Int.ediv_le_self (frW l c) (show 0≤(k:Int) by omega);omega⟩
  have hm1:=mul_sm (a:=(fX l c).2-4) (b:=(k:Int)%frW l c) (by omega) hr0
  have hm2:=mul_sm (a:=(fY l c).2-4) (b:=(k:Int)/frW l c) (by omega) hq0
  refine goR (r:=?_);and_intros<;>intros<;>try exact True.intro
  all_goals first|contradiction|omega|skip
  apply WpA.regionSF (O:=[]) (Or:=[CurO v c1,⟨[I 0,I 0,.nilS],0,0,none⟩,XI xs,⟨[I (frW l c),I (frH l c),.own 2 0 0 N],0,0,none⟩]) (O1:=[CurO v (belowD l c1 (fN l c).2).1,⟨[I 0,I 0,.nilS],0,0,none⟩,XI xs,⟨[I (frW l c),I (frH l c),.own 2 0 0 N],0,0,none⟩]) 21 0 [3] [] rfl mixed (by decide +kernel)
  ·exact rfl
  ·apply HeadS.consF .none rfl
   ·exact rfl
   ·exact rfl
   ·intro Tv Ov hc hp' hd hk
    obtain ⟨x0,x1,x2,R,rfl⟩:=Abs.split4 (hk 3 rfl)
    exact in1
   ·exact rfl
   ·exact rfl
   apply HeadS.consF .none rfl
   ·exact rfl
   ·exact rfl
   ·intro Tv Ov hc hp' hd hk
    obtain ⟨x0,x1,x2,R,rfl⟩:=Abs.split4 (hk 3 rfl)
    exact in1
   ·exact rfl
   ·exact rfl
   apply HeadS.consF .none rfl
   ·exact rfl
   ·exact rfl
   ·exact in1
   ·exact rfl
   ·exact rfl
   apply HeadS.consF .none rfl
   ·exact rfl
   ·exact rfl
   ·exact in1
   ·exact rfl
   ·exact rfl
   apply HeadS.consF .none rfl
   ·exact rfl
   ·exact rfl
   ·exact in1
   ·exact rfl
   ·exact rfl
   apply HeadS.consF .none rfl
   ·exact rfl
   ·exact rfl
   ·exact in1
   ·exact rfl
   ·exact rfl
   apply HeadS.consF .none rfl
   ·exact rfl
   ·exact rfl
   ·exact in1
   ·exact rfl
   ·exact rfl
   apply HeadS.consF .none rfl
   ·exact rfl
   ·exact rfl
   ·exact in1
   ·exact rfl
   ·exact rfl
   apply HeadS.consF .none rfl
   ·exact rfl
   ·exact rfl
   ·exact in1
   ·exact rfl
   ·exact rfl
   apply HeadS.consF .none rfl
   ·exact rfl
   ·exact rfl
   ·exact in1
   ·exact rfl
   ·exact rfl
   apply HeadS.consF .none rfl
   ·exact rfl
   ·exact rfl
   ·exact in1
   ·exact rfl
   ·exact rfl
   apply HeadS.consF .none rfl
   ·exact rfl
   ·exact rfl
   ·exact in1
   ·exact rfl
   ·exact rfl
   apply HeadS.consF .none rfl
   ·exact rfl
   ·exact rfl
   ·exact in1
   ·exact rfl
   ·exact rfl
   apply HeadS.consF .none rfl
   ·exact rfl
   ·exact rfl
   ·exact in1
   ·exact rfl
   ·exact rfl
   apply HeadS.consF .none rfl
   ·exact rfl
   ·exact rfl
   ·exact in1
   ·exact rfl
   ·exact rfl
   apply HeadS.consF .none rfl
   ·exact rfl
   ·exact rfl
   ·exact in1
   ·exact rfl
   ·exact rfl
   apply HeadS.consF .none rfl
   ·exact rfl
   ·exact rfl
   ·exact in1
   ·exact rfl
   ·exact rfl
   apply HeadS.consF .none rfl
   ·exact rfl
   ·exact rfl
   ·exact in1
   ·exact rfl
   ·exact rfl
   apply HeadS.consF (V:=I (belowD l c1 (fN l c).2).2) (.step 0 (CurO v (belowD l c1 (fN l c).2).1)) rfl
   ·exact rfl
   ·exact rfl
   ·intro Tv Ov hc hp' hd hk
    obtain ⟨R,rfl⟩:=split1 (hp' 0 _ rfl)
    refine K.call ?_
    refine K.conP (fun hcon=>?_)
    refine WpL.callP1 (hcon v l c1 (fN l c).2 hc1) hp handA handOA rfl (.cons rfl (.sc (.sc (.sc .nil))) .nil) (by decide) ?_
    exact WpL.nil (Only.mk rfl)
   ·exact rfl
   ·exact rfl
   apply HeadS.consF .none rfl
   ·exact rfl
   ·exact rfl
   ·exact in1
   ·exact rfl
   ·exact rfl
   apply HeadS.consF (V:=I (max 0 (min 255 ((fBr l c).2+((fX l c).2-4)*((k:Int)%frW l c)+((fY l c).2-4)*((k:Int)/frW l c)+(belowD l c1 (fN l c).2).2)))) .none rfl
   ·exact rfl
   ·exact rfl
   ·intro Tv Ov hc hp' hd hk
    refine K.call ?_
    refine K.con (fun hcon=>?_)
    refine WpL.callF (hcon _) snapA locA outA (cnt_some _ 0) rfl rfl (by decide) ?_
    rw [List.append_nil]
    exact WpL.nil (Only.mk rfl)
   ·exact rfl
   ·exact rfl
   exact HeadS.nil
  ·exact rfl
  ·exact rfl
  ·exact rfl
  ·exact rfl
  ·exact rfl
  ·exact rfl
  ·exact rfl
  refine go (r:=?_);and_intros<;>intros<;>try exact True.intro
  all_goals first|contradiction|omega|skip
  refine Rnd.go (k+1,frS l (frW l c) (fBr l c).2 ((fX l c).2-4) ((fY l c).2-4) (fN l c).2 k (c1,xs)) ⟨by simp only;omega,hb.1,by unfold frS;simp only [List.length_set];exact hxl,hE⟩ ?_ ?_
  ·show N-(k+1)<N-k;omega
  ·unfold frS
   exact Weak.mk (by repeat (first|exact ReT.nil|refine ReT.cons (.keep rfl rfl .nil) ?_|refine ReT.cons (.own rfl rfl rfl rfl rfl rfl .nil) ?_|refine ReT.cons (.ptr rfl rfl rfl rfl .nil) ?_|refine ReT.cons (.keep (congrArg (fun z=>AV.sc (Value.int .i64 z)) (by first|omega|(skip))) rfl .nil) ?_|refine ReT.cons (.keep (congrArg (fun z:List UInt8=>AV.sc (Value.string ⟨z.toArray⟩)) (by skip)) rfl .nil) ?_|refine ReT.cons (.own rfl rfl rfl rfl rfl (by first|omega|(simp;done)|(simp;omega)) .nil) ?_)) (by repeat (first|exact ReO.nil|refine ReO.cons (Re.same rfl rfl) (.inr rfl) ?_|refine ReO.cons (Re.same rfl (still_ints _)) (.inr rfl) ?_|refine ReO.cons (.keep rfl rfl (.keep rfl rfl (.own rfl rfl rfl rfl rfl rfl .nil))) (.inr rfl) ?_|refine ReO.cons (.keep rfl rfl (.keep rfl rfl (.own rfl rfl rfl rfl rfl (by first|omega|(simp;done)) .nil))) (.inr rfl) ?_)) (Nat.le_of_ble_eq_true rfl)
 ·obtain rfl:k=N:=by omega
  rw [Nat.sub_self,frK_zero] at hK
  subst hK
  refine go (r:=?_);and_intros<;>intros<;>try exact True.intro
  all_goals first|contradiction|omega|exact hxl
 ⟩
end Go.Proofs.YtainhhfnnclfiaaGreat


namespace Go.Proofs.YtainhhfnnclfiaaGreat
open Go Go.Abs
theorem subOwnLo {P:Program} {n m:Nat} {G:Ctx} {T:List (Nat×AV)} {O:List AObj} {Q:Exit→St→Prop} {ops:Array Oper} {l:List Oper} {d:Nat} {md:Bool} {tt:TypeId} {pos:String} {after:Array Edge} {tab:List (Nat×Ty)} (hP:TabOk P tab) {t e k b:Nat} {zs:List AV} {x y:Operand} {kk:IntKind} {id ep len j off:Nat} {ob:AObj} (ht:tlook tab t=some (.slice e k b zs)) (hx:av T x=.own id ep 0 len) (ho:O[id]?=some ob) (he:ob.ep=ep) (hsz:ob.size=k) (hy:av T y=.sc (.int kk j)) (hj:j<len) (hoff:off=j*k) (hn:d<n)
 (h:WpL P n m G md ops l ⟨(d,.own id ep off (len-j))::T,O⟩ Q):
 WpL P n m G md ops ({dst:=some d,op:=.slice t x (some y) none none,type:=tt,pos:=pos,after:=after,guard:=none}::l) ⟨T,O⟩ Q:=by
 subst hoff
 exact WpL.pure rfl rfl hn (fun S ι F a w hr=>by
  obtain ⟨hu,inf,z,hinf,_,hk,_,_,hk0,_⟩:=hP.slice ht
  have hv:=hr.eval x
  rw [show av (St.mk T O).T x=_ from hx] at hv
  have hye:=hr.sc hy
  have hown:OwnAt (ι id) ob.size 0 len (a.eval x):=by
   cases hv with
   |own q1 q2 q3 r=>
    rw [show (St.mk T O).O[id]?=some ob from ho] at q1
    cases q1
    exact q3 he.symm
  cases hs:ι id with
  |none=>
   rw [hs] at hown
   obtain ⟨_,_,hl⟩:=hown
   omega
  |some p=>
   obtain ⟨bb,kb⟩:=p
   rw [hs] at hown
   obtain ⟨cap,hxe,h1,h2,h3⟩:=hown
   have hrun:=run_sliceSl hu hinf hk ⟨bb,0,none⟩ len cap (some (.int kk j)) none j len (.inr ⟨kk,rfl⟩) (.inl ⟨rfl,rfl⟩) (by omega) w
   have e1:(if cap=j then (⟨bb,0,none⟩:Addr) else (⟨bb,0,none⟩:Addr).add (j*k))=⟨bb,j*k,none⟩:=by
    rw [if_neg (by omega),addr_add];simp
   rw [e1] at hrun
   refine ⟨.slice (some ⟨bb,j*k,none⟩) (len-j) (cap-j),by simp [execOp,hxe,hye,hrun,Sem.run_bind],.own ho (by omega) (fun _=>by
    rw [hs]
    refine ⟨cap-j,rfl,?_,by omega,by omega⟩
    rw [hsz] at h1 ⊢
    rw [Nat.sub_mul]
    have:=Nat.mul_le_mul_right k (show j≤cap by omega)
    omega) .nil⟩) h
end Go.Proofs.YtainhhfnnclfiaaGreat


namespace Go.Abs
open Go
inductive AllV (tab:List (Nat×Ty)) (T:List (Nat×AV)) (O:List AObj):List ResultVar→List AV→Prop
 |nil:AllV tab T O [] []
 |cons {r V rs Vs}:ResV tab T O r V→AllV tab T O rs Vs→AllV tab T O (r::rs) (V::Vs)
inductive ResW (tab:List (Nat×Ty)) (m:Nat) (N:List AObj) (r:AV):Array ResultVar→St→Prop
 |mk {rs Vs T O ids}:2≤rs.length→AllV tab T O rs Vs→NEx O ids N→(ids.filterMap id).Nodup→preB ids m 0=true→Ex O ids [.tup Vs] [r]→ResW tab m N r rs.toArray ⟨T,O⟩
def FinW (tab:List (Nat×Ty)) (m:Nat) (rs:Array ResultVar) (N:List AObj) (r:AV):Exit→St→Prop
 |.ret,σ=>ResW tab m N r rs σ
 |.normal,σ=>ResW tab m N r rs σ
 |_,_=>False
section
variable {P:Program} {n m:Nat} {G:Ctx} {T:List (Nat×AV)} {O:List AObj} {tab:List (Nat×Ty)}
theorem AllV.rel (hP:TabOk P tab) {S ι F a w} (hr:RelAt n m G S ι F ⟨T,O⟩ a w) {rs:List ResultVar} {Vs:List AV} (h:AllV tab T O rs Vs):∃vs:List Value,vs.length=rs.length∧(rs.mapM (resSem a.tmps)).run P w=.ok vs w∧LRel S w ι O Vs vs []:=by
 induction h with
 |nil=>exact ⟨[],rfl,rfl,.nil⟩
 |cons h1 _ ih=>
  obtain ⟨v,hv,hV⟩:=ResV.rel hP hr h1
  obtain ⟨vs,hl,hm,hV2⟩:=ih
  refine ⟨v::vs,by simp [hl],?_,by simpa using LRel.cons hV hV2⟩
  rw [List.mapM_cons]
  simp only [Sem.run_bind,hv,hm,Result.andThen_ok,Sem.run_pure]
theorem run_resultsW {fn:Func} {tmps:Array Value} {rs:List ResultVar} {vs:List Value} {w:World} (h:fn.results=rs.toArray) (h2:2≤vs.length) (hm:(rs.mapM (resSem tmps)).run P w=.ok vs w):(results fn tmps).run P w=.ok (.tuple vs.toArray) w:=by
 rw [results_eq,h]
 have e:(Array.mapM (resSem tmps) rs.toArray)=(do let l ←rs.mapM (resSem tmps);pure l.toArray):=by
  rw [List.mapM_toArray]
  try rfl
 rw [e]
 simp only [Sem.run_bind,hm,Result.andThen_ok,Sem.run_pure]
 have:¬vs.toArray.size=1:=by simp;omega
 rw [dif_neg this]
theorem ResW.out (hP:TabOk P tab) {rs:Array ResultVar} {N:List AObj} {r:AV} {σ:St} {a:Act} {w:World} {fn:Func} (hn:0<n) (hfr:fn.results=rs) (h:ResW tab m N r rs σ) (hr:Rel n m G σ a w):
 ∃v,(results fn a.tmps).run P w=.ok v w∧∃S' ι F,(∀ b,G.S0 b→S' b)∧(∀ b,S' b→G.S0 b∨G.w0.heap.size≤b)∧(∀ b,S' b→b<w.heap.size)∧(∀ id,id<m→ι id=G.ι0 id)∧ORel S' w ι N F∧
  (∀ id,id<N.length→∀b∈F id,(G.M0 b∨G.w0.heap.size≤b)∧¬S' b∧b<w.heap.size)∧VRel S' w ι N r v []∧Keeps G.w0 G.M0 w:=by
 cases h with
 |@mk rs Vs T O ids h2 hv hN hnd hpre hex=>
  obtain ⟨S,ι,F,hr⟩:=hr
  obtain ⟨vs,hl,hm,hV⟩:=hv.rel hP hr
  have hT:VRel S w ι O (.tup Vs) (.tuple vs.toArray) []:=by simpa using LRel.tup hV .nil
  refine ⟨.tuple vs.toArray,run_resultsW hfr (by omega) hm,?_⟩
  have hr2:Rel n m G ⟨(0,.tup Vs)::T,O⟩ _ w:=⟨S,ι,F,hr.put hn hT⟩
  let fn2:Func:={fn with results:=#[.tmp 0]}
  obtain ⟨v2,hv2,h3⟩:=ResG.out (fn:=fn2) hP rfl (ResG.one (ids:=ids) (ResV.tmp (t:=0) rfl) hN hnd hpre hex) hr2
  have e:v2=.tuple vs.toArray:=by
   have hs:0<a.tmps.size:=by rw [hr.size];exact hn
   have hg:(resSem (a.put (some 0) (.tuple vs.toArray)).tmps (.tmp 0)).run P w=.ok (.tuple vs.toArray) w:=by
    simp [resSem,Act.put,hs]
   have:=run_results1 (P:=P) (fn:=fn2) (r1:=.tmp 0) (w:=w) rfl hg
   rw [this] at hv2
   cases hv2;rfl
  rw [e] at h3
  exact h3
def FinXW (tab:List (Nat×Ty)) (m:Nat) (rs:Array ResultVar) (β:Type) (C:β→Prop) (MN:β→List AObj) (r:β→AV):Exit→St→Prop
 |.ret,σ=>∃y,C y∧ResW tab m (MN y) (r y) rs σ
 |.normal,σ=>∃y,C y∧ResW tab m (MN y) (r y) rs σ
 |_,_=>False
theorem FnX.of_bodyW {pv:List Value} {pa:List AV} {β:Type} {C:β→Prop} {MX NX:β→List AObj} {rX:β→AV} (hP:TabOk P tab) {f:FuncId} {fn:Func} {c:Code} {args:List AV} {M:List AObj} {k:Nat} (hk0:0<k) (hf:P.funcs[f]?=some fn) (hnt:fn.ntmps=k) (hb:fn.body=some c) (hnm:(fn.name== "runtime.NumGoroutine")=false)
 (hal:args.length≤k) (hml:M.length=m) (hps:pa.all AV.still=true) (h:∀G,Pin G pv pa→WpA P k m G c ⟨enumT 0 args,M⟩ (FinXW tab m fn.results β C (fun y=>MX y++NX y) rX)):FnX P f args M pv pa β C MX NX rX:=by
 refine ⟨⟨fn,hf,by rw [hb];rfl,hnm⟩,fun w S ι F vs hS hO hF hl hpin=>?_⟩
 have hvl:vs.length=args.length:=hl.len.symm
 refine calls_of_wp hf hb ?_
 have hrel:Rel k m ⟨w,S,fun b=>∃i,i<M.length∧b∈F i,ι⟩ ⟨enumT 0 args,M⟩ {tmps:=vs.toArray++Array.replicate (fn.ntmps-vs.toArray.size) undef,defers:=[]} w:=by
  refine ⟨S,ι,F,rfl,?_,fun t=>?_,hO,fun id hid b hb=>⟨.inl ⟨id,hid,hb⟩,hF id hid b hb⟩,⟨fun _ h=>h,fun _ h=>.inl h⟩,hS,Keeps.refl _ _,fun _ _=>rfl,by show m≤M.length;omega⟩
  ·simp [hnt];omega
  ·show VRel S w ι M (look (enumT 0 args) t) _ []
   rw [look_enumT]
   simp only [Nat.zero_le,if_true,Nat.sub_zero]
   by_cases ht:t<args.length
   ·obtain ⟨x,g,hx,hV,hg⟩:=hl.get (List.getElem?_eq_getElem ht)
    have hg0:g=[]:=List.eq_nil_iff_forall_not_mem.2 fun b hb=>by simpa using hg b hb
    subst hg0
    have e1:args.getD t .any=args[t]:=by simp [ht]
    have e2:(vs.toArray++Array.replicate (fn.ntmps-vs.toArray.size) undef).getD t undef=x:=by
     have:t<vs.length:=by omega
     rw [List.getElem?_eq_getElem this] at hx
     simp only [Option.some.injEq] at hx
     simp [Array.getD_eq_getD_getElem?,Array.getElem?_append,this,hx]
    rw [e1,e2];exact hV
   ·have e1:args.getD t .any=.any:=by simp [List.getElem?_eq_none (Nat.le_of_not_lt ht)]
    rw [e1];exact .any .nil
 refine wp_mono (h ⟨w,S,fun b=>∃i,i<M.length∧b∈F i,ι⟩ ⟨hpin,hps,fun b hb=>⟨fun ⟨i,hi,hbf⟩=>(hF i hi b hbf).1 hb,hS b hb⟩⟩ _ _ hrel) fun e a' w' ⟨σ',hq,hr'⟩=>?_
 have hdef:a'.defers=[]:=by obtain ⟨_,_,_,h⟩:=hr';exact h.defers
 have key:∀(y:β),C y→∀v S' ι' F',((∀ b,S b→S' b)∧(∀ b,S' b→S b∨w.heap.size≤b)∧(∀ b,S' b→b<w'.heap.size)∧(∀ id,id<m→ι' id=ι id)∧ORel S' w' ι' (MX y++NX y) F'∧
  (∀ id,id<(MX y++NX y).length→∀b∈F' id,((∃ i,i<M.length∧b∈F i)∨w.heap.size≤b)∧¬S' b∧b<w'.heap.size)∧VRel S' w' ι' (MX y++NX y) (rX y) v []∧Keeps w (fun b=>∃i,i<M.length∧b∈F i) w')→
  ∃y,C y∧∃v' S' ι' F',Ending.returned v=.returned v'∧(∀ b,S b→S' b)∧(∀ b,S' b→S b∨w.heap.size≤b)∧(∀ b,S' b→b<w'.heap.size)∧(∀ id,id<M.length→ι' id=ι id)∧ORel S' w' ι' (MX y++NX y) F'∧
  (∀ id,id<(MX y++NX y).length→∀b∈F' id,((∃ i,i<M.length∧b∈F i)∨w.heap.size≤b)∧¬S' b∧b<w'.heap.size)∧VRel S' w' ι' (MX y++NX y) (rX y) v' []∧Keeps w (fun b=>∃i,i<M.length∧b∈F i) w':=
  fun y hy v S' ι' F' ⟨q1,q2,q3,q4,q5⟩=>⟨y,hy,v,S',ι',F',rfl,q1,q2,q3,by rw [hml];exact q4,q5⟩
 cases e with
 |normal=>
  obtain ⟨y,hy,hq⟩:=hq
  obtain ⟨v,hv,S',ι',F',q⟩:=ResW.out hP hk0 rfl hq hr'
  exact ⟨hdef,v,hv,key y hy v S' ι' F' q⟩
 |ret=>
  obtain ⟨y,hy,hq⟩:=hq
  obtain ⟨v,hv,S',ι',F',q⟩:=ResW.out hP hk0 rfl hq hr'
  exact ⟨hdef,v,hv,key y hy v S' ι' F' q⟩
 |_=>exact hq.elim
theorem FnP.of_bodyW (hP:TabOk P tab) {f:FuncId} {fn:Func} {c:Code} {args:List AV} {M M' N MN:List AObj} {pv:List Value} {pa:List AV} {r:AV} {k:Nat} (hk0:0<k) (hf:P.funcs[f]?=some fn) (hnt:fn.ntmps=k) (hb:fn.body=some c) (hnm:(fn.name== "runtime.NumGoroutine")=false)
 (hal:args.length≤k) (hml:cnt M.length 0=some m) (hMN:catF M' N=some MN) (hps:pa.all AV.still=true) (h:∀G,Pin G pv pa→WpA P k m G c ⟨enumT 0 args,M⟩ (FinW tab m fn.results MN r)):FnP P f args M pv pa M' N r:=by
 have:=catF_eq hMN;subst this
 refine FnX.of_bodyW hP hk0 hf hnt hb hnm hal (cnt_eq hml) hps fun G hp=>(h G hp).mono fun e σ hq=>?_
 cases e<;>first|exact ⟨(),trivial,hq⟩|exact hq.elim
theorem FinW.mk {rs:List ResultVar} {Vs:List AV} {N:List AObj} {r:AV} {e:Exit} (ids:List (Option Nat)) (he:endB e=true) (h2:2≤rs.length) (hv:AllV tab T O rs Vs) (hx:Ex O ids [.tup Vs] [r]) (hN:NEx O ids N) (hd:nodupB (ids.filterMap id)=true) (hp:preB ids m 0=true):FinW tab m rs.toArray N r e ⟨T,O⟩:=by
 have h:ResW tab m N r rs.toArray ⟨T,O⟩:=.mk h2 hv hN (nodupB_spec hd) hp hx
 cases e<;>first|exact h|cases he
theorem look_filter (ds:List Nat) (t:Nat):∀T:List (Nat×AV),look (T.filter fun x=>!memB x.1 ds) t=look T t∨look (T.filter fun x=>!memB x.1 ds) t=.any
 |[]=>.inl rfl
 |(k,V)::T=>by
  have ih:=look_filter ds t T
  by_cases hm:memB k ds=true
  ·rw [List.filter_cons_of_neg (by simp [hm])]
   by_cases e:k=t
   ·subst e
    refine .inr ?_
    clear ih
    induction T with
    |nil=>rfl
    |cons y T ih2=>
     obtain ⟨k2,V2⟩:=y
     by_cases hm2:memB k2 ds=true
     ·rw [List.filter_cons_of_neg (by simp [hm2])];exact ih2
     ·rw [List.filter_cons_of_pos (by simp [hm2])]
      have hne:k2≠k:=by rintro rfl;exact hm2 hm
      rw [look_cons_other _ _ _ _ hne]
      exact ih2
   ·rw [look_cons_other _ _ _ _ e];exact ih
  ·rw [List.filter_cons_of_pos (by simp [hm])]
   by_cases e:k=t
   ·subst e;exact .inl (by rw [look_cons_same,look_cons_same])
   ·rw [look_cons_other _ _ _ _ e,look_cons_other _ _ _ _ e];exact ih
theorem Weak.drop {T T':List (Nat×AV)} {O:List AObj} (ds:List Nat) (h:(T.filter fun x=>!memB x.1 ds)=T'):Weak m ⟨T,O⟩ ⟨T',O⟩:=by
 subst h
 rintro n G a w ⟨S,ι,F,hr⟩
 refine ⟨S,ι,F,hr.defers,hr.size,fun t=>?_,hr.objs,hr.foot,hr.base,hr.stable,hr.keeps,hr.spots,hr.mle⟩
 have h1:=hr.tmps t
 rcases look_filter ds t T with e|e
 ·show VRel S w ι O (look _ t) _ [];rw [e];exact h1
 ·show VRel S w ι O (look _ t) _ [];rw [e];exact .any .nil
def dropF (ds:List Nat):List (Nat×AV)→Option (List (Nat×AV))
 |[]=>some []
 |(k,V)::T=>match dropF ds T with
  |some T'=>(match memB k ds with|true=>some T'|false=>some ((k,V)::T'))
  |none=>none
theorem dropF_eq (ds:List Nat):∀{T T':List (Nat×AV)},dropF ds T=some T'→(T.filter fun x=>!memB x.1 ds)=T'
 |[],T',h=>by cases h;rfl
 |(k,V)::T,T',h=>by
  unfold dropF at h
  cases h1:dropF ds T with
  |none=>rw [h1] at h;cases h
  |some T1=>
   have ih:=dropF_eq ds h1
   rw [h1] at h
   cases hm:memB k ds with
   |true=>simp only [hm,Option.some.injEq] at h;rw [List.filter_cons_of_neg (by simp [hm]),ih,h]
   |false=>simp only [hm,Option.some.injEq] at h;rw [List.filter_cons_of_pos (by simp [hm]),ih,h]
theorem Weak.dropS {T T':List (Nat×AV)} {O:List AObj} (ds:List Nat) (h:dropF ds T=some T'):Weak m ⟨T,O⟩ ⟨T',O⟩:=Weak.drop ds (dropF_eq ds h)
end
section
variable {P:Program} {n m:Nat} {G:Ctx} {ops:Array Oper} {T0:List (Nat×AV)}
end
end Go.Abs


namespace Go.Proofs.YtainhhfnnclfiaaGreat
open Go Go.Abs
attribute [local irreducible] WpA WpL Rnd Blk Abs.Seq Abs.Fin Abs.FinG FnC FnG FnX FnP FinX Only
attribute [local irreducible] belowD onceD pickD modeD l8D l8AnyD optD anyD seedD headD headAnyD symL HasC blkD lev25D frK frD
attribute [local simp] Abs.setL
abbrev FrSub (k:Nat) (f:Fr3):AV:=.agg [I f.w,I f.h,.own k 0 f.o (f.p.length-f.o)]
instance l18Any_p:ConP 190 (∀ (v:Value) (l:List Int) (c:Cr),CrOk l c→Pn 190 v l c [] (frAnyD l c).1 [XI (frAnyD l c).2.p] (FrSub 1 (frAnyD l c).2)):=⟨fun v l c h=>by
 have ho:=frD_ok h
 have ho1:=ho.1
 have hp1:=ho.2.2.2.1
 have hp2:=ho.2.2.2.2.1
 have hoo:=ho.2.2.2.2.2
 unfold FrSub
 have hs:=belowD_ok 16 ho1
 have hsc:=hs.1
 have hs0:=hs.2.1
 have hs1:=hs.2.2.1 (by decide)
 by_cases h0:(belowD l (frD l c).1 16).2=0
 ·rw [frAnyD_0 h0]
  have hi:=belowD_ok ((frD l c).2.p.length:Int) hsc
  have hi0:=hi.2.1
  have hi1:=hi.2.2.1 (by omega)
  have hic:=hi.1
  rw [List.length_set,hoo,Nat.sub_zero]
  refine FnP.of_body tabOk Tryz.func190 Tryz.ntmps190 rfl (by decide +kernel) (by simp) rfl rfl rfl fun G hp=>?_
  refine goR (r:=?_);and_intros<;>intros<;>try exact True.intro
  all_goals first|contradiction|exact h.2.1|exact h.2.2|exact ho1.2.1|exact ho1.2.2|omega|skip
  apply WpA.regionSF (O:=[]) (Or:=[CurO v (belowD l (frD l c).1 16).1,⟨[I 0,I 0,.nilS],0,0,none⟩,XI (frD l c).2.p,⟨[I (frD l c).2.w,I (frD l c).2.h,.own 2 0 0 (frD l c).2.p.length],0,0,none⟩]) (O1:=[CurO v (pickD l (belowD l (belowD l (frD l c).1 16).1 (frD l c).2.p.length).1 [-1,256]).1,⟨[I 0,I 0,.nilS],0,0,none⟩,XI (frD l c).2.p,⟨[I (frD l c).2.w,I (frD l c).2.h,.own 2 0 0 (frD l c).2.p.length],0,0,none⟩,⟨ints [-1,256],1,1,some 3⟩,deadO]) 10 1 [2,3] [0] rfl mixed (by decide +kernel)
  ·exact rfl
  ·apply HeadS.consF .none rfl
   ·exact rfl
   ·exact rfl
   ·intro Tv Ov hc hp' hd hk
    obtain ⟨x0,x1,x2,R,rfl⟩:=Abs.split4 (hk 3 rfl)
    exact in1
   ·exact rfl
   ·exact rfl
   apply HeadS.consF .none rfl
   ·exact rfl
   ·exact rfl
   ·intro Tv Ov hc hp' hd hk
    obtain ⟨x0,x1,x2,R,rfl⟩:=Abs.split4 (hk 3 rfl)
    exact in1
   ·exact rfl
   ·exact rfl
   apply HeadS.consF .none rfl
   ·exact rfl
   ·exact rfl
   ·exact in1
   ·exact rfl
   ·exact rfl
   apply HeadS.consF .none rfl
   ·exact rfl
   ·exact rfl
   ·intro Tv Ov hc hp' hd hk
    obtain ⟨x0,x1,x2,R,rfl⟩:=Abs.split4 (hk 3 rfl)
    exact in1
   ·exact rfl
   ·exact rfl
   apply HeadS.consF .none rfl
   ·exact rfl
   ·exact rfl
   ·intro Tv Ov hc hp' hd hk
    obtain ⟨x0,x1,x2,R,rfl⟩:=Abs.split4 (hk 3 rfl)
    exact in1
   ·exact rfl
   ·exact rfl
   apply HeadS.consF .none rfl
   ·exact rfl
   ·exact rfl
   ·intro Tv Ov hc hp' hd hk
    obtain ⟨A0,A1,R0,rfl⟩:=Abs.split3 (hk 2 rfl)
    exact in1
   ·exact rfl
   ·exact rfl
   apply HeadS.consF (V:=I (belowD l (belowD l (frD l c).1 16).1 (frD l c).2.p.length).2) (.step 0 (CurO v (belowD l (belowD l (frD l c).1 16).1 (frD l c).2.p.length).1)) rfl
   ·exact rfl
   ·exact rfl
   ·intro Tv Ov hc hp' hd hk
    obtain ⟨R,rfl⟩:=split1 (hp' 0 _ rfl)
    refine K.call ?_
    refine K.conP (fun hcon=>?_)
    refine WpL.callP1 (hcon v l (belowD l (frD l c).1 16).1 (frD l c).2.p.length hsc) hp handA handOA rfl (.cons rfl (.sc (.sc (.sc .nil))) .nil) (by decide) ?_
    exact WpL.nil (Only.mk rfl)
   ·exact rfl
   ·exact rfl
   apply HeadS.consF .none rfl
   ·exact rfl
   ·exact rfl
   ·exact in1
   ·exact rfl
   ·exact rfl
   apply HeadS.consF (V:=.own 4 1 0 2) (.put 4 (⟨ints [-1,256],1,1,some 3⟩)) rfl
   ·exact rfl
   ·exact rfl
   ·intro Tv Ov hc hp' hd hk
    refine WpL.litInts tabOk rfl rfl rfl rfl rfl (by decide) (by rw [nid_len,Nat.zero_add]) (by decide) ?_
    apply WpL.putNil (p:=4)
    ·exact hp' 4 _ rfl
    ·exact Nat.le_of_ble_eq_true rfl
    ·exact rfl
    ·first|exact still_ints _|exact still_rows (fun _=>rfl) _|rfl
   ·exact rfl
   ·exact rfl
   apply HeadS.consF (V:=I (pickD l (belowD l (belowD l (frD l c).1 16).1 (frD l c).2.p.length).1 [-1,256]).2) (.step 0 (CurO v (pickD l (belowD l (belowD l (frD l c).1 16).1 (frD l c).2.p.length).1 [-1,256]).1)) rfl
   ·exact rfl
   ·exact rfl
   ·intro Tv Ov hc hp' hd hk
    obtain ⟨a1,a2,a3,R,rfl⟩:=split04 (hp' 0 _ rfl) (hd 8 _ 4 _ (by decide) rfl rfl rfl)
    refine K.call ?_
    refine K.conP (fun hcon=>?_)
    refine WpL.callP1 (hcon v l (belowD l (belowD l (frD l c).1 16).1 (frD l c).2.p.length).1 [-1,256] ⟨hic,by decide,by decide⟩) hp handA handOA rfl (.cons rfl (.sc (.sc (.sc .nil))) .nil) (by decide) ?_
    exact WpL.nil (Only.mk rfl)
   ·exact rfl
   ·exact rfl
   exact HeadS.nil
  ·exact rfl
  ·exact rfl
  ·exact rfl
  ·exact rfl
  ·exact rfl
  ·exact rfl
  ·exact rfl
  refine go (r:=?_);and_intros<;>intros<;>try exact True.intro
  all_goals first|contradiction|omega
 by_cases h1:(belowD l (frD l c).1 16).2=1
 ·rw [frAnyD_1 h1,hoo,Nat.sub_zero]
  have hw:=ho.2.1
  refine FnP.of_body tabOk Tryz.func190 Tryz.ntmps190 rfl (by decide +kernel) (by simp) rfl rfl rfl fun G hp=>?_
  refine go (r:=?_);and_intros<;>intros<;>try exact True.intro
  all_goals first|contradiction|exact h.2.1|exact h.2.2|exact ho1.2.1|exact ho1.2.2|exact hsc.2.1|exact hsc.2.2|omega|(simp [Abs.setL];done)|(simp;done)
 by_cases h2:(belowD l (frD l c).1 16).2=2
 ·rw [frAnyD_2 h2]
  refine FnP.of_body tabOk Tryz.func190 Tryz.ntmps190 rfl (by decide +kernel) (by simp) rfl rfl rfl fun G hp=>?_
  refine go (r:=?_);and_intros<;>intros<;>try exact True.intro
  all_goals first|contradiction|exact h.2.1|exact h.2.2|exact ho1.2.1|exact ho1.2.2|omega|skip
  refine K.sl ?_
  refine subOwnLo (j:=1) (off:=1) tabOk rfl rfl rfl rfl rfl rfl (by omega) rfl (by decide) ?_
  refine go (r:=?_);and_intros<;>intros<;>try exact True.intro
  all_goals first|contradiction|omega
 ·rw [frAnyD_3 h0 h1 h2,hoo,Nat.sub_zero]
  refine FnP.of_body tabOk Tryz.func190 Tryz.ntmps190 rfl (by decide +kernel) (by simp) rfl rfl rfl fun G hp=>?_
  refine go (r:=?_);and_intros<;>intros<;>try exact True.intro
  all_goals first|contradiction|exact h.2.1|exact h.2.2|exact ho1.2.1|exact ho1.2.2|omega⟩
section
attribute [local irreducible] frAnyD
end
end Go.Proofs.YtainhhfnnclfiaaGreat


namespace Go.Proofs.YtainhhfnnclfiaaGreat
open Go Go.Abs
attribute [local irreducible] WpA WpL Rnd Blk Abs.Seq Abs.Fin Abs.FinG FnC FnG FnX FnP FinX Only
attribute [local irreducible] belowD onceD pickD modeD l8D l8AnyD optD anyD seedD frD frAnyD
def clipK (p:List Int):Nat→List Int
 |0=>List.replicate 128 0
 |k+1=>(clipK p k).set k (max 0 (min 255 (p.getD k 0)))
theorem clipK_len (p:List Int):∀k,(clipK p k).length=128
 |0=>by simp [clipK]
 |k+1=>by rw [clipK,List.length_set];exact clipK_len p k
theorem clipK_0 (p:List Int):clipK p 0=List.replicate 128 0:=rfl
theorem clipK_s (p:List Int) (k:Nat):clipK p (k+1)=(clipK p k).set k (max 0 (min 255 (p.getD k 0))):=rfl
def smallD (l:List Int) (c:Cr):Cr×Fr3:=
 if (frAnyD l c).2.w*(frAnyD l c).2.h>256 then ((frAnyD l c).1,⟨16,8,clipK ((frAnyD l c).2.p.drop (frAnyD l c).2.o) (min 128 ((frAnyD l c).2.p.length-(frAnyD l c).2.o)),0⟩) else frAnyD l c
theorem smallD_1 {l:List Int} {c:Cr} (h:(frAnyD l c).2.w*(frAnyD l c).2.h>256):smallD l c=((frAnyD l c).1,⟨16,8,clipK ((frAnyD l c).2.p.drop (frAnyD l c).2.o) (min 128 ((frAnyD l c).2.p.length-(frAnyD l c).2.o)),0⟩):=if_pos h
theorem smallD_0 {l:List Int} {c:Cr} (h:¬(frAnyD l c).2.w*(frAnyD l c).2.h>256):smallD l c=frAnyD l c:=if_neg h
theorem smallD_ok {l:List Int} {c:Cr} (h:CrOk l c):CrOk l (smallD l c).1∧(smallD l c).2.p.length≤384∧(smallD l c).2.o≤(smallD l c).2.p.length:=by
 have hf:=frAnyD_ok h
 by_cases hc:(frAnyD l c).2.w*(frAnyD l c).2.h>256
 ·rw [smallD_1 hc]
  exact ⟨hf.1,by show (clipK _ _).length≤384;rw [clipK_len];decide,Nat.zero_le _⟩
 ·rw [smallD_0 hc];exact ⟨hf.1,hf.2.2.2.1,hf.2.2.2.2⟩
attribute [local irreducible] clipK
instance l27Small_p:ConP 127 (∀ (v:Value) (l:List Int) (c:Cr),CrOk l c→Pn 127 v l c [] (smallD l c).1 [XI (smallD l c).2.p] (FrSub 1 (smallD l c).2)):=⟨fun v l c h=>by
 have hf:=frAnyD_ok h
 by_cases hc:(frAnyD l c).2.w*(frAnyD l c).2.h>256
 ·rw [smallD_1 hc]
  have hc1:=hf.1
  have hm:-9223372036854775808≤(frAnyD l c).2.w*(frAnyD l c).2.h∧(frAnyD l c).2.w*(frAnyD l c).2.h≤9223372036854775807:=mul_in (by omega) (by omega)
  have hkl:=clipK_len ((frAnyD l c).2.p.drop (frAnyD l c).2.o)
  have hk0:=clipK_0 ((frAnyD l c).2.p.drop (frAnyD l c).2.o)
  have hks:=clipK_s ((frAnyD l c).2.p.drop (frAnyD l c).2.o)
  generalize clipK ((frAnyD l c).2.p.drop (frAnyD l c).2.o)=cl at*
  have h128:=hkl (min 128 ((frAnyD l c).2.p.length-(frAnyD l c).2.o))
  refine FnP.of_body tabOk Tryz.func127 Tryz.ntmps127 rfl (by decide +kernel) (by simp) rfl rfl rfl fun G hp=>?_
  refine goR (r:=?_);and_intros<;>intros<;>try exact True.intro
  all_goals first|contradiction|exact h.2.1|exact h.2.2|exact hc1.2.1|exact hc1.2.2|omega|skip
  have hgd:∀k,(((frAnyD l c).2.p.drop (frAnyD l c).2.o).getD k 0)=(frAnyD l c).2.p.getD ((frAnyD l c).2.o+k) 0:=fun k=>by
   rw [List.getD_eq_getElem?_getD,List.getElem?_drop,←List.getD_eq_getElem?_getD]
  generalize (frAnyD l c).2.p=fp at*
  generalize (frAnyD l c).2.o=fo at*
  generalize (frAnyD l c).2.w=fw at*
  generalize (frAnyD l c).2.h=fh at*
  generalize (frAnyD l c).1=c1 at*
  clear hp
  refine WpA.loop (fun k:Nat=>⟨[(2,.ptr 1 0 0),(3,.ptr 3 0 0),(4,.ptr 5 0 0),(5,I k)],[CurO v c1,⟨[I 0,I 0,.nilS],0,0,none⟩,XI fp,⟨[I fw,I fh,.own 2 0 fo (fp.length-fo)],0,0,none⟩,XI (cl k),⟨[I 16,I 8,.own 4 0 0 128],0,0,none⟩]⟩) (fun k=>k≤128∧k≤fp.length-fo) (fun k=>128-k) 0 ⟨by omega,by omega⟩ (go (r:=?_)) (fun k hk=>?_)
  ·rw [hk0];and_intros<;>first|exact True.intro|rfl
  have hlk:=hkl k
  have hsk:=hks k
  have hgk:=hgd k
  by_cases h1:k<128
  ·by_cases h2:k<fp.length-fo
   ·refine goR (r:=?_);and_intros<;>intros<;>try exact True.intro
    all_goals first|contradiction|omega|skip
    try dsimp only [List.append,List.cons_append,List.nil_append]
    apply WpA.regionMG 9 mixed (by decide +kernel)
    ·exact rfl
    ·exact headG
    ·exact trueA
    ·exact trueA
    ·exact rfl
    ·exact rfl
    refine goR (r:=?_);and_intros<;>intros<;>try exact True.intro
    all_goals first|contradiction|omega|(rw [hsk,hgk];simp only [Int.toNat_natCast,Nat.mul_one];done)
   ·have e:min 128 (fp.length-fo)=k:=by omega
    rw [e]
    refine goR (r:=?_);and_intros<;>intros<;>try exact True.intro
    all_goals first|contradiction|omega
  ·have e:min 128 (fp.length-fo)=k:=by omega
   rw [e]
   refine goR (r:=?_);and_intros<;>intros<;>try exact True.intro
   all_goals first|contradiction|omega
 ·rw [smallD_0 hc]
  have hc1:=hf.1
  have hm:-9223372036854775808≤(frAnyD l c).2.w*(frAnyD l c).2.h∧(frAnyD l c).2.w*(frAnyD l c).2.h≤9223372036854775807:=mul_in (by omega) (by omega)
  refine FnP.of_body tabOk Tryz.func127 Tryz.ntmps127 rfl (by decide +kernel) (by simp) rfl rfl rfl fun G hp=>?_
  refine go (r:=?_);and_intros<;>intros<;>try exact True.intro
  all_goals first|contradiction|exact h.2.1|exact h.2.2|exact hc1.2.1|exact hc1.2.2|omega⟩
theorem DrawEncodeStream_p (v:Value) (l:List Int) (hl:l.length≤1048576):FnP Tryz.prog 65 [.sc v] [] [v] [CodA l] [] [XI (smallD l (newD l)).2.p,XI (anyD l (smallD l (newD l)).1).2.lens,XI (anyD l (smallD l (newD l)).1).2.ms,⟨bools (anyD l (smallD l (newD l)).1).2.es,0,1,some 4⟩] (.tup [FrSub 0 (smallD l (newD l)).2,OpOwn (anyD l (smallD l (newD l)).1).2]):=by
 have hn:=newD_ok hl
 have hs:=smallD_ok hn
 have ha:=anyD_ok hs.1
 refine FnP.of_bodyW tabOk (by decide) Tryz.func65 Tryz.ntmps65 rfl (by decide +kernel) (by simp) rfl rfl rfl fun G hp=>?_
 refine goR (r:=?_);and_intros<;>intros<;>try exact True.intro
 refine K.call ?_
 refine WpL.callN (l1New_p v l hl) hp handA (.cons rfl (.sc (.sc (.sc .nil))) .nil) rfl rfl (by decide) ?_
 refine goR (r:=?_);and_intros<;>intros<;>try exact True.intro
 all_goals first|contradiction|exact hn.2.1|exact hn.2.2|omega|skip
 try dsimp only [List.append,List.cons_append,List.nil_append]
 apply WpA.regionGB 5 mixed (by decide +kernel)
 ·exact rfl
 ·apply HeadG.hole4 rfl rfl rfl
  ·exact rfl
  ·exact in0
  ·exact rfl
  apply HeadG.preF 0 rfl rfl rfl
  ·exact rfl
  ·exact in0
  ·exact rfl
  apply HeadG.stepF rfl rfl
  ·exact rfl
  ·intro Tv
   refine K.call ?_
   refine K.conP (fun hcon=>?_)
   refine WpL.callP (hs:=[2]) (hcon v l (smallD l (newD l)).1 hs.1) (by assumption) handA handOA rfl rfl (.cons rfl (.sc (.sc (.sc .nil))) .nil) outA rfl rfl rfl rfl (by decide) ?_
   exact WpL.nil (Only.mk rfl)
  ·exact rfl
  apply HeadG.stepNF rfl
  ·exact rfl
  ·exact in1
  ·exact rfl
  apply HeadG.stepNF rfl
  ·exact rfl
  ·exact in1
  ·exact rfl
  exact Abs.HeadG.nil
 ·exact trueA
 ·exact trueA
 ·exact trueA
 ·exact demA
 ·exact rfl
 ·exact rfl
 refine goR (r:=?_);and_intros<;>intros<;>try exact True.intro
 all_goals first|contradiction|exact hn.2.1|exact hn.2.2|omega|skip
 exact FinW.mk (rs:=[_,_]) [some 3,some 5,some 6,some 7] rfl (by decide) (.cons (ResV.cell (ds:=[_,_,_]) rfl rfl rfl rfl rfl) (.cons (ResV.cell (ds:=[_,_,_,_,_,_]) rfl rfl rfl rfl rfl) .nil)) (.tup (.agg (.keep rfl rfl rfl (.keep rfl rfl rfl (.own rfl rfl rfl rfl .nil))) (.agg (.keep rfl rfl rfl (.keep rfl rfl rfl (.keep rfl rfl rfl (.own rfl rfl rfl rfl (.own rfl rfl rfl rfl (.own rfl rfl rfl rfl .nil)))))) .nil)) .nil) (.obj rfl rfl (still_ints _) rfl rfl (.inr rfl) (.obj rfl rfl (still_ints _) rfl rfl (.inr rfl) (.obj rfl rfl (still_ints _) rfl rfl (.inr rfl) (.obj rfl rfl (still_bools _) rfl rfl (.inr rfl) .nil)))) rfl rfl
abbrev dsF (l:List Int):Fr3:=(smallD l (newD l)).2
abbrev dsP (l:List Int):List Int:=(dsF l).p.drop (dsF l).o
abbrev dsO (l:List Int):Op6:=(anyD l (smallD l (newD l)).1).2
end Go.Proofs.YtainhhfnnclfiaaGreat


namespace Go.Proofs.YtainhhfnnclfiaaGreat
open Go Go.Abs
attribute [local irreducible] WpA WpL Rnd Blk Abs.Seq Abs.Fin Abs.FinG FnC FnG FnX FnP FinX Only
attribute [local irreducible] belowD onceD pickD modeD l8D l8AnyD optD anyD seedD frD frAnyD
theorem DrawBestModes_p (v:Value) (l:List Int) (hl:l.length≤1048576):FnP Tryz.prog 51 [.sc v] [] [v] [CodA l] [] [XI (smallD l (newD l)).2.p,XI (anyD l (smallD l (newD l)).1).2.lens,XI (anyD l (smallD l (newD l)).1).2.ms,⟨bools (anyD l (smallD l (newD l)).1).2.es,0,1,some 4⟩] (.tup [FrSub 0 (smallD l (newD l)).2,OpOwn (anyD l (smallD l (newD l)).1).2]):=by
 have hd:=DrawEncodeStream_p v l hl
 refine FnP.of_bodyW tabOk (by decide) Tryz.func51 Tryz.ntmps51 rfl (by decide +kernel) (by simp) rfl rfl rfl fun G hp=>?_
 refine goR (r:=?_);and_intros<;>intros<;>try exact True.intro
 refine K.call ?_
 refine WpL.callP (hs:=[]) hd (by assumption) handA handOA rfl rfl .nil outA rfl rfl rfl rfl (by decide) ?_
 refine goR (r:=?_);and_intros<;>intros<;>try exact True.intro
 all_goals first|contradiction|omega|skip
 exact FinW.mk (rs:=[_,_]) [some 2,some 3,some 4,some 5] rfl (by decide) (.cons (ResV.cell (ds:=[_,_,_]) rfl rfl rfl rfl rfl) (.cons (ResV.cell (ds:=[_,_,_,_,_,_]) rfl rfl rfl rfl rfl) .nil)) (.tup (.agg (.keep rfl rfl rfl (.keep rfl rfl rfl (.own rfl rfl rfl rfl .nil))) (.agg (.keep rfl rfl rfl (.keep rfl rfl rfl (.keep rfl rfl rfl (.own rfl rfl rfl rfl (.own rfl rfl rfl rfl (.own rfl rfl rfl rfl .nil)))))) .nil)) .nil) (.obj rfl rfl (still_ints _) rfl rfl (.inr rfl) (.obj rfl rfl (still_ints _) rfl rfl (.inr rfl) (.obj rfl rfl (still_ints _) rfl rfl (.inr rfl) (.obj rfl rfl (still_bools _) rfl rfl (.inr rfl) .nil)))) rfl rfl
theorem DrawBestModes_z (l:List Int) (hl:l.length≤1048576):Fn 51 [CodA l] [] (.tup [FrA (dsF l).w (dsF l).h (dsP l),OpA (dsO l).q (dsO l).b (dsO l).d (dsO l).lens (dsO l).ms (dsO l).es]):=
 FnC.stillT (FnC.of_pin fun v=>DrawBestModes_p v l hl) (.agg (.keep rfl rfl (.keep rfl rfl (.ownO rfl rfl rfl (ds:=ints (dsP l)) (by simp [ints,List.map_drop]) (by simp) (by simp) (Snap.same rfl (still_ints _) (nofre_ints _)) .nil))) (.agg (.keep rfl rfl (.keep rfl rfl (.keep rfl rfl (.own rfl rfl rfl (by simp) rfl (Snap.same rfl (still_ints _) (nofre_ints _)) (.own rfl rfl rfl (by simp) rfl (Snap.same rfl (still_ints _) (nofre_ints _)) (.own rfl rfl rfl (by simp) rfl (Snap.same rfl (still_bools _) (nofre_bools _)) .nil)))))) .nil))
end Go.Proofs.YtainhhfnnclfiaaGreat


namespace Go.Proofs.YtainhhfnnclfiaaGreat
open Go Go.Abs
attribute [local irreducible] WpA WpL Rnd Blk Abs.Seq Abs.Fin Abs.FinG FnC FnG FnX FnP FinX Only
attribute [local irreducible] belowD onceD pickD modeD l8D l8AnyD optD anyD seedD
abbrev pk4 (l:List Int) (s:Cr×Int×List Int):List Int:=[0,255,(belowD l (onceD l s.1 2).1 256).2,min 255 (s.2.1+1)]
def lineS (l:List Int) (s:Cr×Int×List Int):Cr×Int×List Int:=
 if (onceD l s.1 2).2=true then ((pickD l (belowD l (onceD l s.1 2).1 256).1 (pk4 l s)).1,(pickD l (belowD l (onceD l s.1 2).1 256).1 (pk4 l s)).2,s.2.2++[(pickD l (belowD l (onceD l s.1 2).1 256).1 (pk4 l s)).2]) else ((onceD l s.1 2).1,s.2.1,s.2.2++[s.2.1])
def lineN (l:List Int):Nat→Cr×Int×List Int→Cr×Int×List Int
 |0,s=>s
 |k+1,s=>lineS l (lineN l k s)
def lineD (l:List Int) (c:Cr) (n:Nat):Cr×List Int:=((lineN l n ((belowD l c 256).1,(belowD l c 256).2,[])).1,(lineN l n ((belowD l c 256).1,(belowD l c 256).2,[])).2.2)
abbrev LnOk (l:List Int) (s:Cr×Int×List Int):Prop:=CrOk l s.1∧0≤s.2.1∧s.2.1≤255
theorem lineS_ok {l:List Int} {s:Cr×Int×List Int} (h:LnOk l s):LnOk l (lineS l s)∧(lineS l s).2.2.length=s.2.2.length+1:=by
 have ho:=onceD_ok 2 h.1
 unfold lineS
 split
 ·have hb:=belowD_ok 256 ho
  have hp:=pickD_ok (xs:=pk4 l s) hb.1 (by simp)
  have hb1:=hb.2.1
  have hb2:=hb.2.2.1 (by decide)
  have h1:=h.2.1
  have h2:=h.2.2
  refine ⟨⟨hp.1,?_⟩,by simp⟩
  have hm:=hp.2
  simp only
  generalize (pickD l (belowD l (onceD l s.1 2).1 256).1 (pk4 l s)).2=z at*
  simp only [pk4,List.mem_cons,List.not_mem_nil,or_false] at hm
  omega
 ·exact ⟨⟨ho,h.2⟩,by simp⟩
theorem lineN_ok {l:List Int} {s:Cr×Int×List Int} (h:LnOk l s):∀k,LnOk l (lineN l k s)∧(lineN l k s).2.2.length=s.2.2.length+k
 |0=>⟨h,rfl⟩
 |k+1=>by
  have ih:=lineN_ok h k
  have hs:=lineS_ok ih.1
  exact ⟨hs.1,by rw [lineN,hs.2,ih.2];omega⟩
theorem line0_ok {l:List Int} {c:Cr} (h:CrOk l c):LnOk l ((belowD l c 256).1,(belowD l c 256).2,[]):=by
 have hb:=belowD_ok 256 h
 have:=hb.2.2.1 (by decide)
 exact ⟨hb.1,hb.2.1,by show (belowD l c 256).2≤255;omega⟩
theorem lineD_ok {l:List Int} {c:Cr} (h:CrOk l c) (n:Nat):CrOk l (lineD l c n).1∧(lineD l c n).2.length=n:=by
 have hn:=lineN_ok (line0_ok h) n
 exact ⟨hn.1.1,by show (lineN l n _).2.2.length=n;rw [hn.2];simp⟩
section
attribute [local irreducible] lineS
instance l14Line_p:ConP 106 (∀ (v:Value) (l:List Int) (c:Cr) (n:Int),CrOk l c∧0≤n∧n≤1024→Pn 106 v l c [I n] (lineD l c n.toNat).1 [XI (lineD l c n.toNat).2] (.own 1 0 0 (lineD l c n.toNat).2.length)):=⟨fun v l c n hh=>by
 obtain ⟨h,hn0,hn1⟩:=hh
 have hd:=lineD_ok h n.toNat
 have hb:=belowD_ok 256 h
 have hl0:=line0_ok h
 rw [hd.2]
 unfold lineD
 refine FnP.of_body tabOk Tryz.func106 Tryz.ntmps106 rfl (by decide +kernel) (by simp) rfl rfl rfl fun G hp=>?_
 refine goR (r:=?_);and_intros<;>intros<;>try exact True.intro
 all_goals first|contradiction|exact h.1|exact h.2.1|exact h.2.2|omega|skip
 generalize hs0:((belowD l c 256).1,(belowD l c 256).2,([]:List Int))=s0 at*
 have e1:(belowD l c 256).1=s0.1:=by rw [←hs0]
 have e2:(belowD l c 256).2=s0.2.1:=by rw [←hs0]
 have e3:s0.2.2=[]:=by rw [←hs0]
 rw [e1,e2]
 have hN:=lineN_ok hl0
 refine WpA.loop (fun k:Nat=>⟨[(0,.ptr 0 0 0),(1,I n),(5,.own 1 0 0 k),(6,I (lineN l k s0).2.1)],[CurO v (lineN l k s0).1,XI (lineN l k s0).2.2]⟩) (fun k=>k≤n.toNat) (fun k=>n.toNat-k) 0 (Nat.zero_le _) (go (r:=?_)) (fun k hk=>?_)
 ·and_intros<;>first|exact True.intro|rfl|(rw [show lineN l 0 s0=s0 from rfl,e3];done)|exact e3
 have hk1:=hN k
 have hst:lineN l (k+1) s0=lineS l (lineN l k s0):=rfl
 rw [e3,List.length_nil,Nat.zero_add] at hk1
 generalize hgs:lineN l k s0=s at*
 obtain ⟨c1,u,xs⟩:=s
 obtain ⟨⟨hc1,hu0,hu1⟩,hxl⟩:=hk1
 simp only at hc1 hu0 hu1 hxl ⊢
 subst hxl
 by_cases hlt:(xs.length:Int)<n
 ·have ho:=onceD_ok 2 hc1
  have hbb:=belowD_ok 256 ho
  have hb0:=hbb.2.1
  have hb1:=hbb.2.2.1 (by decide)
  have hpk:=pickD_ok (xs:=pk4 l (c1,u,xs)) hbb.1 (by simp)
  unfold lineS at hst
  by_cases hbit:(onceD l c1 2).2=true
  ·rw [if_pos hbit] at hst
   refine goR (r:=?_);and_intros<;>intros<;>try exact True.intro
   all_goals first|contradiction|exact hc1.1|exact hc1.2.1|exact hc1.2.2|exact ho.1|exact ho.2.1|exact ho.2.2|exact hbb.1.1|exact hbb.1.2.1|exact hbb.1.2.2|decide|omega|(simp;done)|(exfalso;rename_i hg;rw [hbit] at hg;cases hg;done)|(rw [hst];done)
  ·have hbf:(onceD l c1 2).2=false:=by simpa using hbit
   rw [if_neg hbit] at hst
   refine goR (r:=?_);and_intros<;>intros<;>try exact True.intro
   all_goals first|contradiction|exact hc1.1|exact hc1.2.1|exact hc1.2.2|exact ho.1|exact ho.2.1|exact ho.2.2|decide|omega|(exfalso;rename_i hg;rw [hbf] at hg;cases hg;done)|(rw [hst];done)
 ·obtain ek:n.toNat=xs.length:=by omega
  rw [ek,hgs]
  refine goR (r:=?_);and_intros<;>intros<;>try exact True.intro
  all_goals first|contradiction|omega⟩
end
end Go.Proofs.YtainhhfnnclfiaaGreat


namespace Go.Proofs.YtainhhfnnclfiaaGreat
open Go Go.Abs
attribute [local irreducible] WpA WpL Rnd Blk Abs.Seq Abs.Fin Abs.FinG FnC FnG FnX FnP FinX Only
attribute [local irreducible] belowD onceD pickD modeD l8D l8AnyD optD anyD seedD lineD
structure NbR where
 t:List Int
 e:List Int
 o:Nat
 c:Int
 a:Bool
 b:Bool
abbrev nb1 (l:List Int) (c:Cr) (n:Int):Cr×List Int:=lineD l c (2*n).toNat
abbrev nb2 (l:List Int) (c:Cr) (n:Int):Cr×List Int:=lineD l (nb1 l c n).1 n.toNat
abbrev nb3 (l:List Int) (c:Cr) (n:Int):Cr×Int:=belowD l (nb2 l c n).1 256
abbrev nb4 (l:List Int) (c:Cr) (n:Int):Cr×Bool:=onceD l (nb3 l c n).1 4
abbrev nb5 (l:List Int) (c:Cr) (n:Int):Cr×Bool:=onceD l (nb4 l c n).1 4
abbrev nbR (l:List Int) (c:Cr) (n:Int):NbR:=⟨(nb1 l c n).2,(nb2 l c n).2,0,(nb3 l c n).2,!(nb4 l c n).2,!(nb5 l c n).2⟩
def nbT (l:List Int) (n:Int) (c:Cr) (r:NbR):Cr×NbR:=
 if (belowD l c 18).2=0 then ((pickD l (belowD l (belowD l c 18).1 n).1 [-1,256]).1,⟨r.t.set (belowD l (belowD l c 18).1 n).2.toNat (pickD l (belowD l (belowD l c 18).1 n).1 [-1,256]).2,r.e,r.o,r.c,r.a,r.b⟩)
 else if (belowD l c 18).2=1 then ((belowD l c 18).1,⟨r.t,r.e,1,r.c,r.a,r.b⟩)
 else if (belowD l c 18).2=2 then ((pickD l (belowD l c 18).1 [-1,256]).1,⟨r.t,r.e,r.o,(pickD l (belowD l c 18).1 [-1,256]).2,r.a,r.b⟩)
 else ((belowD l c 18).1,r)
def nbD (l:List Int) (c:Cr) (n:Int):Cr×NbR:=nbT l n (nb5 l c n).1 (nbR l c n)
theorem nbT_ok {l:List Int} {n:Int} {c:Cr} {r:NbR} (h:CrOk l c):CrOk l (nbT l n c r).1∧(nbT l n c r).2.t.length=r.t.length∧(nbT l n c r).2.e=r.e∧((nbT l n c r).2.o=r.o∨(nbT l n c r).2.o=1):=by
 have hb:=belowD_ok 18 h
 unfold nbT
 split
 ·have h2:=belowD_ok n hb.1
  exact ⟨(pickD_ok h2.1 (by decide)).1,by simp,rfl,.inl rfl⟩
 split
 ·exact ⟨hb.1,rfl,rfl,.inr rfl⟩
 split
 ·exact ⟨(pickD_ok hb.1 (by decide)).1,rfl,rfl,.inl rfl⟩
 ·exact ⟨hb.1,rfl,rfl,.inl rfl⟩
theorem nbD_ok {l:List Int} {c:Cr} {n:Int} (h:CrOk l c) (hn:n=4∨n=8):CrOk l (nbD l c n).1∧(nbD l c n).2.t.length=(2*n).toNat∧(nbD l c n).2.e.length=n.toNat∧(nbD l c n).2.o≤1:=by
 have h1:=lineD_ok h (2*n).toNat
 have h2:=lineD_ok h1.1 n.toNat
 have h3:=belowD_ok 256 h2.1
 have h4:=onceD_ok 4 h3.1
 have h5:=onceD_ok 4 h4
 have ht:=nbT_ok (n:=n) (r:=nbR l c n) h5
 refine ⟨ht.1,ht.2.1.trans h1.2,by rw [nbD,ht.2.2.1];exact h2.2,?_⟩
 rcases ht.2.2.2 with h|h
 ·rw [nbD,h];exact Nat.zero_le _
 ·rw [nbD,h];exact Nat.le_refl _
abbrev NbSub (k:Nat) (r:NbR):AV:=.agg [.own k 0 0 r.t.length,.own (k+1) 0 r.o (r.e.length-r.o),I r.c,B r.a,B r.b]
instance l14Nb_p:ConP 173 (∀ (v:Value) (l:List Int) (c:Cr) (n:Int),CrOk l c∧(n=4∨n=8)→Pn 173 v l c [I n] (nbD l c n).1 [XI (nbD l c n).2.t,XI (nbD l c n).2.e] (NbSub 1 (nbD l c n).2)):=⟨fun v l c n hh=>by
 obtain ⟨h,hn⟩:=hh
 have h1:=lineD_ok h (2*n).toNat
 have h2:=lineD_ok h1.1 n.toNat
 have h3:=belowD_ok 256 h2.1
 have h4:=onceD_ok 4 h3.1
 have h5:=onceD_ok 4 h4
 have hs:=belowD_ok 18 h5
 have hs0:=hs.2.1
 have hs1:=hs.2.2.1 (by decide)
 have hsc:=hs.1
 have hi:=belowD_ok n hsc
 have hi0:=hi.2.1
 have hi1:=hi.2.2.1 (by omega)
 have hic:=hi.1
 have hz1:(nb1 l c n).2.length=(2*n).toNat:=h1.2
 have hz2:0≤(belowD l (belowD l (nb5 l c n).1 18).1 n).2:=hi0
 have hz3:(belowD l (belowD l (nb5 l c n).1 18).1 n).2<n:=hi1
 have hnt:n.toNat=4∨n.toNat=8:=by omega
 unfold nbD nbT NbSub
 by_cases c0:(belowD l (nb5 l c n).1 18).2=0
 ·rw [if_pos c0]
  dsimp only
  rw [List.length_set]
  refine FnP.of_body tabOk Tryz.func173 Tryz.ntmps173 rfl (by decide +kernel) (by simp) rfl rfl rfl fun G hp=>?_
  refine goR (r:=?_);and_intros<;>intros<;>try exact True.intro
  all_goals first|contradiction|exact h.1|exact h.2.1|exact h.2.2|exact h1.1.1|exact h1.1.2.1|exact h1.1.2.2|exact h2.1.1|exact h2.1.2.1|exact h2.1.2.2|exact h3.1.1|exact h3.1.2.1|exact h3.1.2.2|exact h4.1|exact h4.2.1|exact h4.2.2|exact h5.1|exact h5.2.1|exact h5.2.2|omega|skip
  try dsimp only [List.append,List.cons_append,List.nil_append]
  apply WpA.regionSF (O:=[]) (Or:=[CurO v (belowD l (nb5 l c n).1 18).1,⟨[.nilS,.nilS,I 0,B false,B false],0,0,none⟩,XI (nb1 l c n).2,XI (nb2 l c n).2,⟨[.own 2 0 0 (nb1 l c n).2.length,.own 3 0 0 (nb2 l c n).2.length,I (nb3 l c n).2,B (!(nb4 l c n).2),B (!(nb5 l c n).2)],0,0,none⟩]) (O1:=[CurO v (pickD l (belowD l (belowD l (nb5 l c n).1 18).1 n).1 [-1,256]).1,⟨[.nilS,.nilS,I 0,B false,B false],0,0,none⟩,XI (nb1 l c n).2,XI (nb2 l c n).2,⟨[.own 2 0 0 (nb1 l c n).2.length,.own 3 0 0 (nb2 l c n).2.length,I (nb3 l c n).2,B (!(nb4 l c n).2),B (!(nb5 l c n).2)],0,0,none⟩,⟨ints [-1,256],1,1,some 3⟩,deadO]) 8 1 [2,3,4] [0] rfl mixed (by decide +kernel)
  ·exact rfl
  ·apply HeadS.consF .none rfl
   ·exact rfl
   ·exact rfl
   ·intro Tv Ov hc hp' hd hk
    obtain ⟨x0,x1,x2,x3,R,rfl⟩:=split5 (hk 4 rfl)
    exact in1
   ·exact rfl
   ·exact rfl
   apply HeadS.consF .none rfl
   ·exact rfl
   ·exact rfl
   ·intro Tv Ov hc hp' hd hk
    obtain ⟨x0,x1,x2,x3,R,rfl⟩:=split5 (hk 4 rfl)
    exact in1
   ·exact rfl
   ·exact rfl
   apply HeadS.consF .none rfl
   ·exact rfl
   ·exact rfl
   ·exact in1
   ·exact rfl
   ·exact rfl
   apply HeadS.consF .none rfl
   ·exact rfl
   ·exact rfl
   ·exact in1
   ·exact rfl
   ·exact rfl
   apply HeadS.consF (V:=I (belowD l (belowD l (nb5 l c n).1 18).1 n).2) (.step 0 (CurO v (belowD l (belowD l (nb5 l c n).1 18).1 n).1)) rfl
   ·exact rfl
   ·exact rfl
   ·intro Tv Ov hc hp' hd hk
    obtain ⟨R,rfl⟩:=split1 (hp' 0 _ rfl)
    refine K.call ?_
    refine K.conP (fun hcon=>?_)
    refine WpL.callP1 (hcon v l (belowD l (nb5 l c n).1 18).1 n hsc) hp handA handOA rfl (.cons rfl (.sc (.sc (.sc .nil))) .nil) (by decide) ?_
    exact WpL.nil (Only.mk rfl)
   ·exact rfl
   ·exact rfl
   apply HeadS.consF .none rfl
   ·exact rfl
   ·exact rfl
   ·exact in1
   ·exact rfl
   ·exact rfl
   apply HeadS.consF (V:=.own 5 1 0 2) (.put 5 (⟨ints [-1,256],1,1,some 3⟩)) rfl
   ·exact rfl
   ·exact rfl
   ·intro Tv Ov hc hp' hd hk
    refine WpL.litInts tabOk rfl rfl rfl rfl rfl (by decide) (by rw [nid_len,Nat.zero_add]) (by decide) ?_
    apply WpL.putNil (p:=5)
    ·exact hp' 5 _ rfl
    ·exact Nat.le_of_ble_eq_true rfl
    ·exact rfl
    ·first|exact still_ints _|exact still_rows (fun _=>rfl) _|rfl
   ·exact rfl
   ·exact rfl
   apply HeadS.consF (V:=I (pickD l (belowD l (belowD l (nb5 l c n).1 18).1 n).1 [-1,256]).2) (.step 0 (CurO v (pickD l (belowD l (belowD l (nb5 l c n).1 18).1 n).1 [-1,256]).1)) rfl
   ·exact rfl
   ·exact rfl
   ·intro Tv Ov hc hp' hd hk
    obtain ⟨a1,a2,a3,a4,R,rfl⟩:=split05 (hp' 0 _ rfl) (hd 6 _ 5 _ (by decide) rfl rfl rfl)
    refine K.call ?_
    refine K.conP (fun hcon=>?_)
    refine WpL.callP1 (hcon v l (belowD l (belowD l (nb5 l c n).1 18).1 n).1 [-1,256] ⟨hic,by decide,by decide⟩) hp handA handOA rfl (.cons rfl (.sc (.sc (.sc .nil))) .nil) (by decide) ?_
    exact WpL.nil (Only.mk rfl)
   ·exact rfl
   ·exact rfl
   exact HeadS.nil
  ·exact rfl
  ·exact rfl
  ·exact rfl
  ·exact rfl
  ·exact rfl
  ·exact rfl
  ·exact rfl
  refine go (r:=?_);and_intros<;>intros<;>try exact True.intro
  all_goals first|contradiction|omega|(exact FinG.oI [some 0,some 2,some 3] rfl (ResV.cell (ds:=[_,_,_,_,_]) rfl rfl rfl rfl rfl) (.agg (.own rfl rfl rfl rfl (.own rfl rfl rfl rfl (.keep rfl rfl rfl (.keep rfl rfl rfl (.keep rfl rfl rfl .nil))))) .nil) (.obj rfl rfl rfl rfl rfl (.inr rfl) (.obj rfl rfl (still_ints _) rfl rfl (.inr rfl) (.obj rfl rfl (still_ints _) rfl rfl (.inr rfl) .nil))) rfl rfl)
 rw [if_neg c0]
 by_cases c1:(belowD l (nb5 l c n).1 18).2=1
 ·rw [if_pos c1]
  refine FnP.of_body tabOk Tryz.func173 Tryz.ntmps173 rfl (by decide +kernel) (by simp) rfl rfl rfl fun G hp=>?_
  refine goR (r:=?_);and_intros<;>intros<;>try exact True.intro
  all_goals first|contradiction|exact h.1|exact h.2.1|exact h.2.2|exact h1.1.1|exact h1.1.2.1|exact h1.1.2.2|exact h2.1.1|exact h2.1.2.1|exact h2.1.2.2|exact h3.1.1|exact h3.1.2.1|exact h3.1.2.2|exact h4.1|exact h4.2.1|exact h4.2.2|exact h5.1|exact h5.2.1|exact h5.2.2|omega|skip
  refine K.sl ?_
  refine subOwnLo (j:=1) (off:=1) tabOk rfl rfl rfl rfl rfl rfl (by omega) rfl (by decide) ?_
  refine go (r:=?_);and_intros<;>intros<;>try exact True.intro
  all_goals first|contradiction|omega|(exact FinG.oI [some 0,some 2,some 3] rfl (ResV.cell (ds:=[_,_,_,_,_]) rfl rfl rfl rfl rfl) (.agg (.own rfl rfl rfl rfl (.own rfl rfl rfl rfl (.keep rfl rfl rfl (.keep rfl rfl rfl (.keep rfl rfl rfl .nil))))) .nil) (.obj rfl rfl rfl rfl rfl (.inr rfl) (.obj rfl rfl (still_ints _) rfl rfl (.inr rfl) (.obj rfl rfl (still_ints _) rfl rfl (.inr rfl) .nil))) rfl rfl)
 rw [if_neg c1]
 by_cases c2:(belowD l (nb5 l c n).1 18).2=2
 ·rw [if_pos c2]
  refine FnP.of_body tabOk Tryz.func173 Tryz.ntmps173 rfl (by decide +kernel) (by simp) rfl rfl rfl fun G hp=>?_
  refine go (r:=?_);and_intros<;>intros<;>try exact True.intro
  all_goals first|contradiction|exact h.1|exact h.2.1|exact h.2.2|exact h1.1.1|exact h1.1.2.1|exact h1.1.2.2|exact h2.1.1|exact h2.1.2.1|exact h2.1.2.2|exact h3.1.1|exact h3.1.2.1|exact h3.1.2.2|exact h4.1|exact h4.2.1|exact h4.2.2|exact h5.1|exact h5.2.1|exact h5.2.2|exact hsc.1|exact hsc.2.1|exact hsc.2.2|decide|omega|(exact FinG.oI [some 0,some 2,some 3] rfl (ResV.cell (ds:=[_,_,_,_,_]) rfl rfl rfl rfl rfl) (.agg (.own rfl rfl rfl rfl (.own rfl rfl rfl rfl (.keep rfl rfl rfl (.keep rfl rfl rfl (.keep rfl rfl rfl .nil))))) .nil) (.obj rfl rfl rfl rfl rfl (.inr rfl) (.obj rfl rfl (still_ints _) rfl rfl (.inr rfl) (.obj rfl rfl (still_ints _) rfl rfl (.inr rfl) .nil))) rfl rfl)
 ·rw [if_neg c2]
  refine FnP.of_body tabOk Tryz.func173 Tryz.ntmps173 rfl (by decide +kernel) (by simp) rfl rfl rfl fun G hp=>?_
  refine go (r:=?_);and_intros<;>intros<;>try exact True.intro
  all_goals first|contradiction|exact h.1|exact h.2.1|exact h.2.2|exact h1.1.1|exact h1.1.2.1|exact h1.1.2.2|exact h2.1.1|exact h2.1.2.1|exact h2.1.2.2|exact h3.1.1|exact h3.1.2.1|exact h3.1.2.2|exact h4.1|exact h4.2.1|exact h4.2.2|exact h5.1|exact h5.2.1|exact h5.2.2|omega|(exact FinG.oI [some 0,some 2,some 3] rfl (ResV.cell (ds:=[_,_,_,_,_]) rfl rfl rfl rfl rfl) (.agg (.own rfl rfl rfl rfl (.own rfl rfl rfl rfl (.keep rfl rfl rfl (.keep rfl rfl rfl (.keep rfl rfl rfl .nil))))) .nil) (.obj rfl rfl rfl rfl rfl (.inr rfl) (.obj rfl rfl (still_ints _) rfl rfl (.inr rfl) (.obj rfl rfl (still_ints _) rfl rfl (.inr rfl) .nil))) rfl rfl)⟩
end Go.Proofs.YtainhhfnnclfiaaGreat


namespace Go.Proofs.YtainhhfnnclfiaaGreat
open Go Go.Abs
attribute [local irreducible] WpA WpL Rnd Blk Abs.Seq Abs.Fin Abs.FinG FnC FnG FnX FnP FinX Only
attribute [local irreducible] belowD onceD pickD modeD l8D l8AnyD optD anyD seedD lineD nbD
abbrev sd3:List Int:=[4,4,8]
abbrev sd4:List Int:=[4,8,5,0]
abbrev dr1 (l:List Int) (c:Cr):Cr×Int:=pickD l c sd3
abbrev dr2 (l:List Int) (c:Cr):Cr×NbR:=nbD l (dr1 l c).1 (dr1 l c).2
abbrev dr3 (l:List Int) (c:Cr):Cr×Bool:=onceD l (dr2 l c).1 14
def drwD (l:List Int) (c:Cr):Cr×Int:=if (dr3 l c).2=true then pickD l (dr3 l c).1 sd4 else ((dr3 l c).1,(dr1 l c).2)
theorem dr1_ok {l:List Int} {c:Cr} (h:CrOk l c):CrOk l (dr1 l c).1∧((dr1 l c).2=4∨(dr1 l c).2=8):=by
 have hp:=pickD_ok (xs:=sd3) h (by decide)
 refine ⟨hp.1,?_⟩
 have hm:=hp.2
 simp only [sd3,List.mem_cons,List.not_mem_nil,or_false] at hm
 show (pickD l c sd3).2=4∨(pickD l c sd3).2=8
 generalize (pickD l c sd3).2=z at*
 omega
theorem drwD_ok {l:List Int} {c:Cr} (h:CrOk l c):CrOk l (drwD l c).1∧(0≤(drwD l c).2∧(drwD l c).2≤8):=by
 have h1:=dr1_ok h
 have h2:=nbD_ok h1.1 h1.2
 have h3:=onceD_ok 14 h2.1
 unfold drwD
 split
 ·have hp:=pickD_ok (xs:=sd4) h3 (by decide)
  refine ⟨hp.1,?_⟩
  have hm:=hp.2
  generalize (pickD l (dr3 l c).1 sd4).2=z at*
  simp only [sd4,List.mem_cons,List.not_mem_nil,or_false] at hm
  omega
 ·exact ⟨h3,by have:=h1.2;show 0≤(dr1 l c).2∧(dr1 l c).2≤8;omega⟩
theorem ovd7 {Ov:List AObj} (h:7≤Ov.length):∃a0 a1 a2 a3 a4 a5 a6 R,Ov=a0::a1::a2::a3::a4::a5::a6::R:=by
 match Ov,h with
 |a0::a1::a2::a3::a4::a5::a6::R,_=>exact ⟨a0,a1,a2,a3,a4,a5,a6,R,rfl⟩
 |[],h=>simp at h
 |[_],h=>simp at h
 |[_,_],h=>simp at h
 |[_,_,_],h=>simp at h
 |[_,_,_,_],h=>simp at h
 |[_,_,_,_,_],h=>simp at h
 |[_,_,_,_,_,_],h=>simp at h
instance l14Draw_p:ConP 105 (∀ (v:Value) (l:List Int) (c:Cr),CrOk l c→Pn 105 v l c [] (drwD l c).1 [XI (dr2 l c).2.t,XI (dr2 l c).2.e] (.tup [NbSub 1 (dr2 l c).2,I (drwD l c).2])):=⟨fun v l c h=>by
 have h1:=dr1_ok h
 have h1c:=h1.1
 have h1n:=h1.2
 have h2:=nbD_ok h1c h1n
 have h2c:=h2.1
 have h3:=onceD_ok 14 h2c
 unfold drwD
 by_cases c0:(dr3 l c).2=true
 ·rw [if_pos c0]
  refine FnP.of_bodyW tabOk (by decide) Tryz.func105 Tryz.ntmps105 rfl (by decide +kernel) (by simp) rfl rfl rfl fun G hp=>?_
  refine goR (r:=?_);and_intros<;>intros<;>try exact True.intro
  all_goals first|contradiction|exact h.1|exact h.2.1|exact h.2.2|exact h1c.1|exact h1c.2.1|exact h1c.2.2|exact h1n|exact h2c.1|exact h2c.2.1|exact h2c.2.2|exact h3.1|exact h3.2.1|exact h3.2.2|decide|omega|(exfalso;rename_i hg;rw [c0] at hg;cases hg;done)|skip
  try dsimp only [List.append,List.cons_append,List.nil_append]
  refine WpA.weak (Weak.dropS [3] rfl) ?_
  apply WpA.regionRF (O:=[]) (Or:=[CurO v (dr3 l c).1,⟨[.nilS,.nilS,I 0,B false,B false],0,0,none⟩,XI sd3,XI (dr2 l c).2.t,XI (dr2 l c).2.e,⟨[.own 3 0 0 (dr2 l c).2.t.length,.own 4 0 (dr2 l c).2.o ((dr2 l c).2.e.length-(dr2 l c).2.o),I (dr2 l c).2.c,B (dr2 l c).2.a,B (dr2 l c).2.b],0,0,none⟩]) (O1:=[CurO v (pickD l (dr3 l c).1 sd4).1,⟨[.own 3 0 0 (dr2 l c).2.t.length,.own 4 0 (dr2 l c).2.o ((dr2 l c).2.e.length-(dr2 l c).2.o),I (dr2 l c).2.c,B (dr2 l c).2.a,B (dr2 l c).2.b],0,0,none⟩,XI sd3,XI (dr2 l c).2.t,XI (dr2 l c).2.e,⟨[.own 3 0 0 (dr2 l c).2.t.length,.own 4 0 (dr2 l c).2.o ((dr2 l c).2.e.length-(dr2 l c).2.o),I (dr2 l c).2.c,B (dr2 l c).2.a,B (dr2 l c).2.b],0,0,none⟩,⟨ints sd4,1,1,some 3⟩,deadO]) 6 1 [2,3,4,5] [] rfl mixed (by decide +kernel)
  ·exact rfl
  ·apply HeadR.consF (V:=.agg [.own 3 0 0 (dr2 l c).2.t.length,.own 4 0 (dr2 l c).2.o ((dr2 l c).2.e.length-(dr2 l c).2.o),I (dr2 l c).2.c,B (dr2 l c).2.a,B (dr2 l c).2.b]) .none rfl
   ·exact rfl
   ·exact rfl
   ·intro Tv Ov hc2 hp9 hd9 hk9
    obtain ⟨a0,a1,a2,a3,a4,a5,a6,R,rfl⟩:=ovd7 (by simpa using hc2)
    have k2:a2=(XI sd3:AObj):=Option.some.inj (hk9 2 rfl)
    have k3:a3=(XI (dr2 l c).2.t:AObj):=Option.some.inj (hk9 3 rfl)
    have k4:a4=(XI (dr2 l c).2.e:AObj):=Option.some.inj (hk9 4 rfl)
    have k5:a5=(⟨[.own 3 0 0 (dr2 l c).2.t.length,.own 4 0 (dr2 l c).2.o ((dr2 l c).2.e.length-(dr2 l c).2.o),I (dr2 l c).2.c,B (dr2 l c).2.a,B (dr2 l c).2.b],0,0,none⟩:AObj):=Option.some.inj (hk9 5 rfl)
    subst k2 k3 k4 k5
    exact in1
   ·exact rfl
   ·exact rfl
   apply HeadR.consF .none rfl
   ·exact rfl
   ·exact rfl
   ·exact in1
   ·exact rfl
   ·exact rfl
   apply HeadR.consF (V:=.own 6 1 0 4) (.put 6 ⟨ints sd4,1,1,some 3⟩) rfl
   ·exact rfl
   ·exact rfl
   ·intro Tv Ov hc2 hp9 hd9 hk9
    refine WpL.litInts tabOk rfl rfl rfl rfl rfl (by decide) (by rw [nid_len,Nat.zero_add]) (by decide) ?_
    apply WpL.putV (p:=6)
    ·exact .own (by first|rfl|exact Nat.zero_add _) .nil
    ·exact hp9 6 _ rfl
    ·exact Nat.le_of_ble_eq_true rfl
    ·exact rfl
    ·exact still_ints _
   ·exact rfl
   ·exact rfl
   apply HeadR.consF (V:=I (pickD l (dr3 l c).1 sd4).2) (.step 0 (CurO v (pickD l (dr3 l c).1 sd4).1)) rfl
   ·exact rfl
   ·exact rfl
   ·intro Tv Ov hc2 hp9 hd9 hk9
    obtain ⟨a0,a1,a2,a3,a4,a5,a6,R,rfl⟩:=ovd7 (by simpa using hc2)
    have k0:a0=(CurO v (dr3 l c).1:AObj):=Option.some.inj (hp9 0 _ rfl)
    have k6:a6=(⟨ints sd4,1,1,some 3⟩:AObj):=Option.some.inj (hd9 2 _ 6 _ (by decide) rfl rfl rfl)
    subst k0 k6
    refine K.call ?_
    refine K.conP (fun hcon=>?_)
    refine WpL.callP1 (hcon v l (dr3 l c).1 sd4 ⟨h3,by decide,by decide⟩) hp handA handOA rfl (.cons rfl (.sc (.sc (.sc .nil))) .nil) (by decide) ?_
    exact WpL.nil (Only.mk rfl)
   ·exact rfl
   ·exact rfl
   apply HeadR.consN (.step 1 ⟨[.own 3 0 0 (dr2 l c).2.t.length,.own 4 0 (dr2 l c).2.o ((dr2 l c).2.e.length-(dr2 l c).2.o),I (dr2 l c).2.c,B (dr2 l c).2.a,B (dr2 l c).2.b],0,0,none⟩) 1000
   ·exact rfl
   ·exact rfl
   ·intro Tv Ov hc2 hp9 hd9 hk9
    obtain ⟨a0,a1,a2,a3,a4,a5,a6,R,rfl⟩:=ovd7 (by simpa using hc2)
    have k2:a2=(XI sd3:AObj):=Option.some.inj (hk9 2 rfl)
    have k3:a3=(XI (dr2 l c).2.t:AObj):=Option.some.inj (hk9 3 rfl)
    have k4:a4=(XI (dr2 l c).2.e:AObj):=Option.some.inj (hk9 4 rfl)
    have k5:a5=(⟨[.own 3 0 0 (dr2 l c).2.t.length,.own 4 0 (dr2 l c).2.o ((dr2 l c).2.e.length-(dr2 l c).2.o),I (dr2 l c).2.c,B (dr2 l c).2.a,B (dr2 l c).2.b],0,0,none⟩:AObj):=Option.some.inj (hk9 5 rfl)
    subst k2 k3 k4 k5
    have k1:a1=(⟨[.nilS,.nilS,I 0,B false,B false],0,0,none⟩:AObj):=Option.some.inj (hp9 1 _ rfl)
    subst k1
    refine K.st ?_
    refine WpL.store tabOk rfl rfl rfl rfl rfl rfl rfl rfl (Nat.le_of_ble_eq_true rfl) ?_
    refine WpL.weak (Weak.any1 (d:=1000)) ?_
    exact WpL.nil (Only.mk rfl)
   ·exact rfl
   ·exact rfl
   apply HeadR.consF .none rfl
   ·exact rfl
   ·exact rfl
   ·exact in1
   ·exact rfl
   ·exact rfl
   exact HeadR.nil
  ·exact rfl
  ·exact rfl
  ·exact rfl
  ·exact rfl
  ·exact rfl
  ·exact rfl
  ·exact rfl
  refine goR (r:=?_);and_intros<;>intros<;>try exact True.intro
  all_goals first|contradiction|omega|(exact FinW.mk (rs:=[_,_]) [some 0,some 3,some 4] rfl (by decide) (.cons (ResV.cell (ds:=[_,_,_,_,_]) rfl rfl rfl rfl rfl) (.cons (ResV.tmp rfl) .nil)) (.tup (.agg (.own rfl rfl rfl rfl (.own rfl rfl rfl rfl (.keep rfl rfl rfl (.keep rfl rfl rfl (.keep rfl rfl rfl .nil))))) (.keep rfl rfl rfl .nil)) .nil) (.obj rfl rfl rfl rfl rfl (.inr rfl) (.obj rfl rfl (still_ints _) rfl rfl (.inr rfl) (.obj rfl rfl (still_ints _) rfl rfl (.inr rfl) .nil))) rfl rfl)
 ·have c1:(dr3 l c).2=false:=by simpa using c0
  rw [if_neg c0]
  refine FnP.of_bodyW tabOk (by decide) Tryz.func105 Tryz.ntmps105 rfl (by decide +kernel) (by simp) rfl rfl rfl fun G hp=>?_
  refine goR (r:=?_);and_intros<;>intros<;>try exact True.intro
  all_goals first|contradiction|exact h.1|exact h.2.1|exact h.2.2|exact h1c.1|exact h1c.2.1|exact h1c.2.2|exact h1n|exact h2c.1|exact h2c.2.1|exact h2c.2.2|exact h3.1|exact h3.2.1|exact h3.2.2|decide|omega|(exfalso;rename_i hg;rw [c1] at hg;cases hg;done)|(exact FinW.mk (rs:=[_,_]) [some 0,some 3,some 4] rfl (by decide) (.cons (ResV.cell (ds:=[_,_,_,_,_]) rfl rfl rfl rfl rfl) (.cons (ResV.tmp rfl) .nil)) (.tup (.agg (.own rfl rfl rfl rfl (.own rfl rfl rfl rfl (.keep rfl rfl rfl (.keep rfl rfl rfl (.keep rfl rfl rfl .nil))))) (.keep rfl rfl rfl .nil)) .nil) (.obj rfl rfl rfl rfl rfl (.inr rfl) (.obj rfl rfl (still_ints _) rfl rfl (.inr rfl) (.obj rfl rfl (still_ints _) rfl rfl (.inr rfl) .nil))) rfl rfl)⟩
end Go.Proofs.YtainhhfnnclfiaaGreat


namespace Go.Abs
open Go
end Go.Abs


namespace Go.Proofs.YtainhhfnnclfiaaGreat
open Go Go.Abs
attribute [local irreducible] WpA WpL Rnd Blk Abs.Seq Abs.Fin Abs.FinG FnC FnG FnX FnP FinX Only
attribute [local irreducible] belowD onceD pickD modeD l8D l8AnyD optD anyD seedD lineD nbD drwD predS
abbrev q1 (l:List Int):Cr:=(drwD l (newD l)).1
abbrev qn (l:List Int):Int:=(drwD l (newD l)).2
abbrev ql (l:List Int):Cr×List Int:=lineD l (q1 l) (qn l*qn l).toNat
abbrev qb (l:List Int):Cr×Int:=belowD l (ql l).1 6
abbrev qp (l:List Int):List Int:=predS (qb l).2 (dr2 l (newD l)).2.t ((dr2 l (newD l)).2.e.drop (dr2 l (newD l)).2.o) (dr2 l (newD l)).2.c (dr2 l (newD l)).2.a (dr2 l (newD l)).2.b (qn l)
abbrev qo (l:List Int):Cr×Bool:=onceD l (qb l).1 2
def qc (l:List Int):Cr:=if (qp l).length=(ql l).2.length then (qo l).1 else (qb l).1
def qL (l:List Int):List Int:=if (qp l).length=(ql l).2.length∧(qo l).2=true then qp l else (ql l).2
section
attribute [-instance] l8Any_p Pred_s
theorem DrawBestMode_p (v:Value) (l:List Int) (hl:l.length≤1048576) (hc:¬((qp l).length=(ql l).2.length∧(qo l).2=true)):FnP Tryz.prog 45 [.sc v] [] [v] [CodA l] [] [XI (ql l).2,XI (dr2 l (newD l)).2.t,XI (dr2 l (newD l)).2.e,XI (l8AnyD l (qc l)).2] (.tup [.own 0 0 0 (ql l).2.length,.agg [.own 1 0 0 (dr2 l (newD l)).2.t.length,.own 2 0 (dr2 l (newD l)).2.o ((dr2 l (newD l)).2.e.length-(dr2 l (newD l)).2.o),I (dr2 l (newD l)).2.c,B (dr2 l (newD l)).2.a,B (dr2 l (newD l)).2.b],I (qn l),.own 3 0 0 (l8AnyD l (qc l)).2.length]):=by
 have hn:=newD_ok hl
 have h1:=dr1_ok hn
 have h2:=nbD_ok h1.1 h1.2
 have hd:=drwD_ok hn
 have hd1:=hd.1
 have hq0:0≤qn l∧qn l≤8:=hd.2
 have hqq:0≤qn l*qn l∧qn l*qn l≤64:=by
  obtain ⟨a,b⟩:=hq0
  generalize qn l=z at*
  exact ⟨Int.mul_nonneg a a,Int.mul_le_mul b b a (by decide)⟩
 have hl1:=lineD_ok hd1 (qn l*qn l).toNat
 have hb:=belowD_ok 6 hl1.1
 have hb1:=hb.1
 have ho:=onceD_ok 2 hb1
 have hkP:=Pred_s.ok (qb l).2 (dr2 l (newD l)).2.t ((dr2 l (newD l)).2.e.drop (dr2 l (newD l)).2.o) (dr2 l (newD l)).2.c (dr2 l (newD l)).2.a (dr2 l (newD l)).2.b (qn l) ⟨by have:=h2.2.1;show (nbD l (dr1 l (newD l)).1 (dr1 l (newD l)).2).2.t.length≤_;omega,by have:=h2.2.2.1;rw [List.length_drop];show (nbD l (dr1 l (newD l)).1 (dr1 l (newD l)).2).2.e.length-_≤_;omega,by omega⟩
 refine FnP.of_bodyW tabOk (by decide) Tryz.func45 Tryz.ntmps45 rfl (by decide +kernel) (by simp) rfl rfl rfl fun G hp=>?_
 refine goR (r:=?_);and_intros<;>intros<;>try exact True.intro
 refine K.call ?_
 refine WpL.callN (l1New_p v l hl) hp handA (.cons rfl (.sc (.sc (.sc .nil))) .nil) rfl rfl (by decide) ?_
 refine goR (r:=?_);and_intros<;>intros<;>try exact True.intro
 all_goals first|contradiction|exact hd1.1|exact hd1.2.1|exact hd1.2.2|exact hl1.1.1|exact hl1.1.2.1|exact hl1.1.2.2|exact hb1.1|exact hb1.2.1|exact hb1.2.2|omega|exact hn.1|exact hn.2.1|exact hn.2.2|exact hqq.1|exact Int.le_trans hqq.2 (by decide)|skip
 try dsimp only [List.append,List.cons_append,List.nil_append]
 apply WpA.regionGB 6 mixed (by decide +kernel)
 ·exact rfl
 ·apply HeadG.preF 0 rfl rfl rfl
  ·exact rfl
  ·exact in0
  ·exact rfl
  apply HeadG.stepF rfl rfl
  ·exact rfl
  ·intro Tv
   refine K.call ?_
   refine K.conP (fun hcon=>?_)
   refine WpL.callP (hs:=[1]) (hcon v l (ql l).1 6 hl1.1) (by assumption) handA handOA rfl rfl (.cons rfl (.sc (.sc (.sc .nil))) .nil) outA rfl rfl rfl rfl (by decide) ?_
   exact WpL.nil (Only.mk rfl)
  ·exact rfl
  apply HeadG.hole4 rfl rfl rfl
  ·exact rfl
  ·exact in0
  ·exact rfl
  apply HeadG.preF 0 rfl rfl rfl
  ·exact rfl
  ·exact in0
  ·exact rfl
  apply HeadG.precF 4 rfl rfl
  ·exact rfl
  ·intro Tv Ov
   refine K.call ?_
   apply WpL.callI hkP
   ·exact (.keep rfl rfl (.agg (.own rfl rfl rfl (by simp) rfl (Snap.same rfl (still_ints _) (nofre_ints _)) (.ownO rfl rfl rfl (ds:=ints ((dr2 l (newD l)).2.e.drop (dr2 l (newD l)).2.o)) (by simp [ints,List.map_drop]) (by simp) (by simp) (Snap.same rfl (still_ints _) (nofre_ints _)) (.keep rfl rfl (.keep rfl rfl (.keep rfl rfl .nil))))) (.keep rfl rfl .nil)))
   ·exact locA
   ·exact outA
   ·exact frzA
   ·decide
   ·exact WpL.nil (Only.mk rfl)
  ·exact rfl
  apply HeadG.preF 0 rfl rfl rfl
  ·exact rfl
  ·exact in0
  ·exact rfl
  exact Abs.HeadG.nil
 ·exact trueA
 ·exact trueA
 ·exact trueA
 ·exact demA
 ·exact rfl
 ·exact rfl
 have hE0:predS (qb l).2 (dr2 l (newD l)).2.t ((dr2 l (newD l)).2.e.drop (dr2 l (newD l)).2.o) (dr2 l (newD l)).2.c (dr2 l (newD l)).2.a (dr2 l (newD l)).2.b (qn l)=qp l:=rfl
 by_cases hE:(qp l).length=(ql l).2.length
 ·have ec:qc l=(qo l).1:=by unfold qc;rw [if_pos hE]
  have hE2:((predS (qb l).2 (dr2 l (newD l)).2.t ((dr2 l (newD l)).2.e.drop (dr2 l (newD l)).2.o) (dr2 l (newD l)).2.c (dr2 l (newD l)).2.a (dr2 l (newD l)).2.b (qn l)).length:Int)=((lineD l (drwD l (newD l)).1 ((drwD l (newD l)).2*(drwD l (newD l)).2).toNat).2.length:Int):=congrArg Nat.cast hE
  have hBx:(onceD l (belowD l (ql l).1 6).1 2).2=(qo l).2:=rfl
  have hB:(qo l).2=false:=by
   cases hx:(qo l).2 with
   |false=>rfl
   |true=>exact absurd ⟨hE,hx⟩ hc
  rw [ec]
  refine goR (r:=?_);and_intros<;>intros<;>try exact True.intro
  all_goals first|contradiction|exact hd1.1|exact hd1.2.1|exact hd1.2.2|exact hl1.1.1|exact hl1.1.2.1|exact hl1.1.2.2|exact hb1.1|exact hb1.2.1|exact hb1.2.2|omega|exact ho.1|exact ho.2.1|exact ho.2.2|(exfalso;rename_i hg;exact absurd hE2 hg)|(exfalso;rename_i hg;exact absurd (hg.symm.trans hB) (by decide))|(exfalso;rename_i hg _;exact absurd hg hE2)|skip
  refine WpA.weak (Weak.dropS [2,4,5] rfl) ?_
  try dsimp only [List.append,List.cons_append,List.nil_append]
  apply WpA.regionGB 9 mixed (by decide +kernel)
  ·exact rfl
  ·apply HeadG.preF 0 rfl rfl rfl
   ·exact rfl
   ·exact in0
   ·exact rfl
   apply HeadG.hole4 rfl rfl rfl
   ·exact rfl
   ·exact in0
   ·exact rfl
   apply HeadG.preF 0 rfl rfl rfl
   ·exact rfl
   ·exact in0
   ·exact rfl
   apply HeadG.preF 0 rfl rfl rfl
   ·exact rfl
   ·exact in0
   ·exact rfl
   apply HeadG.stepF rfl rfl
   ·exact rfl
   ·intro Tv
    refine K.call ?_
    refine WpL.callP (hs:=[1]) (l8Any_p.ok v l (qo l).1 (by assumption)) (by assumption) handA handOA rfl rfl (.cons rfl (.sc (.sc (.sc .nil))) .nil) outA rfl rfl rfl rfl (by decide) ?_
    exact WpL.nil (Only.mk rfl)
   ·exact rfl
   apply HeadG.preF 0 rfl rfl rfl
   ·exact rfl
   ·exact in0
   ·exact rfl
   apply HeadG.stepNF rfl
   ·exact rfl
   ·exact in1
   ·exact rfl
   apply HeadG.preF 0 rfl rfl rfl
   ·exact rfl
   ·exact in0
   ·exact rfl
   apply HeadG.preF 0 rfl rfl rfl
   ·exact rfl
   ·exact in0
   ·exact rfl
   exact Abs.HeadG.nil
  ·exact trueA
  ·exact trueA
  ·exact trueA
  ·exact demA
  ·exact rfl
  ·exact rfl
  refine goR (r:=?_);and_intros<;>intros<;>try exact True.intro
  all_goals first|contradiction|omega|(exact FinW.mk (rs:=[_,_,_,_]) [some 5,some 2,some 3,some 6] rfl (by decide) (.cons (ResV.tmp rfl) (.cons (ResV.cell (ds:=[_,_,_,_,_]) rfl rfl rfl rfl rfl) (.cons (ResV.tmp rfl) (.cons (ResV.tmp rfl) .nil)))) (.tup (.own rfl rfl rfl rfl (.agg (.own rfl rfl rfl rfl (.own rfl rfl rfl rfl (.keep rfl rfl rfl (.keep rfl rfl rfl (.keep rfl rfl rfl .nil))))) (.keep rfl rfl rfl (.own rfl rfl rfl rfl .nil)))) .nil) (.obj rfl rfl (still_ints _) rfl rfl (.inr rfl) (.obj rfl rfl (still_ints _) rfl rfl (.inr rfl) (.obj rfl rfl (still_ints _) rfl rfl (.inr rfl) (.obj rfl rfl (still_ints _) rfl rfl (.inr rfl) .nil)))) rfl rfl)
 ·have ec:qc l=(qb l).1:=by unfold qc;rw [if_neg hE]
  have hE2:¬((predS (qb l).2 (dr2 l (newD l)).2.t ((dr2 l (newD l)).2.e.drop (dr2 l (newD l)).2.o) (dr2 l (newD l)).2.c (dr2 l (newD l)).2.a (dr2 l (newD l)).2.b (qn l)).length:Int)=((lineD l (drwD l (newD l)).1 ((drwD l (newD l)).2*(drwD l (newD l)).2).toNat).2.length:Int):=fun h=>hE (Int.ofNat_inj.mp h)
  rw [ec]
  refine goR (r:=?_);and_intros<;>intros<;>try exact True.intro
  all_goals first|contradiction|exact hd1.1|exact hd1.2.1|exact hd1.2.2|exact hl1.1.1|exact hl1.1.2.1|exact hl1.1.2.2|exact hb1.1|exact hb1.2.1|exact hb1.2.2|omega|exact ho.1|exact ho.2.1|exact ho.2.2|(exfalso;rename_i hg;exact absurd hE2 hg)|(exfalso;rename_i hg;exact absurd (hg.symm.trans hB) (by decide))|(exfalso;rename_i hg _;exact absurd hg hE2)|skip
  refine WpA.weak (Weak.dropS [2,4,5] rfl) ?_
  try dsimp only [List.append,List.cons_append,List.nil_append]
  apply WpA.regionGB 9 mixed (by decide +kernel)
  ·exact rfl
  ·apply HeadG.preF 0 rfl rfl rfl
   ·exact rfl
   ·exact in0
   ·exact rfl
   apply HeadG.hole4 rfl rfl rfl
   ·exact rfl
   ·exact in0
   ·exact rfl
   apply HeadG.preF 0 rfl rfl rfl
   ·exact rfl
   ·exact in0
   ·exact rfl
   apply HeadG.preF 0 rfl rfl rfl
   ·exact rfl
   ·exact in0
   ·exact rfl
   apply HeadG.stepF rfl rfl
   ·exact rfl
   ·intro Tv
    refine K.call ?_
    refine WpL.callP (hs:=[1]) (l8Any_p.ok v l (qb l).1 (by assumption)) (by assumption) handA handOA rfl rfl (.cons rfl (.sc (.sc (.sc .nil))) .nil) outA rfl rfl rfl rfl (by decide) ?_
    exact WpL.nil (Only.mk rfl)
   ·exact rfl
   apply HeadG.preF 0 rfl rfl rfl
   ·exact rfl
   ·exact in0
   ·exact rfl
   apply HeadG.stepNF rfl
   ·exact rfl
   ·exact in1
   ·exact rfl
   apply HeadG.preF 0 rfl rfl rfl
   ·exact rfl
   ·exact in0
   ·exact rfl
   apply HeadG.preF 0 rfl rfl rfl
   ·exact rfl
   ·exact in0
   ·exact rfl
   exact Abs.HeadG.nil
  ·exact trueA
  ·exact trueA
  ·exact trueA
  ·exact demA
  ·exact rfl
  ·exact rfl
  refine goR (r:=?_);and_intros<;>intros<;>try exact True.intro
  all_goals first|contradiction|omega|(exact FinW.mk (rs:=[_,_,_,_]) [some 5,some 2,some 3,some 6] rfl (by decide) (.cons (ResV.tmp rfl) (.cons (ResV.cell (ds:=[_,_,_,_,_]) rfl rfl rfl rfl rfl) (.cons (ResV.tmp rfl) (.cons (ResV.tmp rfl) .nil)))) (.tup (.own rfl rfl rfl rfl (.agg (.own rfl rfl rfl rfl (.own rfl rfl rfl rfl (.keep rfl rfl rfl (.keep rfl rfl rfl (.keep rfl rfl rfl .nil))))) (.keep rfl rfl rfl (.own rfl rfl rfl rfl .nil)))) .nil) (.obj rfl rfl (still_ints _) rfl rfl (.inr rfl) (.obj rfl rfl (still_ints _) rfl rfl (.inr rfl) (.obj rfl rfl (still_ints _) rfl rfl (.inr rfl) (.obj rfl rfl (still_ints _) rfl rfl (.inr rfl) .nil)))) rfl rfl)
theorem DrawBestMode_q (v:Value) (l:List Int) (hl:l.length≤1048576) (hE:(qp l).length=(ql l).2.length) (hB:(qo l).2=true):FnP Tryz.prog 45 [.sc v] [] [v] [CodA l] [] [XI (dr2 l (newD l)).2.t,XI (dr2 l (newD l)).2.e,XI (l8AnyD l (qc l)).2] (.tup [IL (qp l),.agg [.own 0 0 0 (dr2 l (newD l)).2.t.length,.own 1 0 (dr2 l (newD l)).2.o ((dr2 l (newD l)).2.e.length-(dr2 l (newD l)).2.o),I (dr2 l (newD l)).2.c,B (dr2 l (newD l)).2.a,B (dr2 l (newD l)).2.b],I (qn l),.own 2 0 0 (l8AnyD l (qc l)).2.length]):=by
 have hn:=newD_ok hl
 have h1:=dr1_ok hn
 have h2:=nbD_ok h1.1 h1.2
 have hd:=drwD_ok hn
 have hd1:=hd.1
 have hq0:0≤qn l∧qn l≤8:=hd.2
 have hqq:0≤qn l*qn l∧qn l*qn l≤64:=by
  obtain ⟨a,b⟩:=hq0
  generalize qn l=z at*
  exact ⟨Int.mul_nonneg a a,Int.mul_le_mul b b a (by decide)⟩
 have hl1:=lineD_ok hd1 (qn l*qn l).toNat
 have hb:=belowD_ok 6 hl1.1
 have hb1:=hb.1
 have ho:=onceD_ok 2 hb1
 have hkP:=Pred_s.ok (qb l).2 (dr2 l (newD l)).2.t ((dr2 l (newD l)).2.e.drop (dr2 l (newD l)).2.o) (dr2 l (newD l)).2.c (dr2 l (newD l)).2.a (dr2 l (newD l)).2.b (qn l) ⟨by have:=h2.2.1;show (nbD l (dr1 l (newD l)).1 (dr1 l (newD l)).2).2.t.length≤_;omega,by have:=h2.2.2.1;rw [List.length_drop];show (nbD l (dr1 l (newD l)).1 (dr1 l (newD l)).2).2.e.length-_≤_;omega,by omega⟩
 refine FnP.of_bodyW tabOk (by decide) Tryz.func45 Tryz.ntmps45 rfl (by decide +kernel) (by simp) rfl rfl rfl fun G hp=>?_
 refine goR (r:=?_);and_intros<;>intros<;>try exact True.intro
 refine K.call ?_
 refine WpL.callN (l1New_p v l hl) hp handA (.cons rfl (.sc (.sc (.sc .nil))) .nil) rfl rfl (by decide) ?_
 refine goR (r:=?_);and_intros<;>intros<;>try exact True.intro
 all_goals first|contradiction|exact hd1.1|exact hd1.2.1|exact hd1.2.2|exact hl1.1.1|exact hl1.1.2.1|exact hl1.1.2.2|exact hb1.1|exact hb1.2.1|exact hb1.2.2|omega|exact hn.1|exact hn.2.1|exact hn.2.2|exact hqq.1|exact Int.le_trans hqq.2 (by decide)|skip
 try dsimp only [List.append,List.cons_append,List.nil_append]
 apply WpA.regionGB 6 mixed (by decide +kernel)
 ·exact rfl
 ·apply HeadG.preF 0 rfl rfl rfl
  ·exact rfl
  ·exact in0
  ·exact rfl
  apply HeadG.stepF rfl rfl
  ·exact rfl
  ·intro Tv
   refine K.call ?_
   refine K.conP (fun hcon=>?_)
   refine WpL.callP (hs:=[1]) (hcon v l (ql l).1 6 hl1.1) (by assumption) handA handOA rfl rfl (.cons rfl (.sc (.sc (.sc .nil))) .nil) outA rfl rfl rfl rfl (by decide) ?_
   exact WpL.nil (Only.mk rfl)
  ·exact rfl
  apply HeadG.hole4 rfl rfl rfl
  ·exact rfl
  ·exact in0
  ·exact rfl
  apply HeadG.preF 0 rfl rfl rfl
  ·exact rfl
  ·exact in0
  ·exact rfl
  apply HeadG.precF 4 rfl rfl
  ·exact rfl
  ·intro Tv Ov
   refine K.call ?_
   apply WpL.callI hkP
   ·exact (.keep rfl rfl (.agg (.own rfl rfl rfl (by simp) rfl (Snap.same rfl (still_ints _) (nofre_ints _)) (.ownO rfl rfl rfl (ds:=ints ((dr2 l (newD l)).2.e.drop (dr2 l (newD l)).2.o)) (by simp [ints,List.map_drop]) (by simp) (by simp) (Snap.same rfl (still_ints _) (nofre_ints _)) (.keep rfl rfl (.keep rfl rfl (.keep rfl rfl .nil))))) (.keep rfl rfl .nil)))
   ·exact locA
   ·exact outA
   ·exact frzA
   ·decide
   ·exact WpL.nil (Only.mk rfl)
  ·exact rfl
  apply HeadG.preF 0 rfl rfl rfl
  ·exact rfl
  ·exact in0
  ·exact rfl
  exact Abs.HeadG.nil
 ·exact trueA
 ·exact trueA
 ·exact trueA
 ·exact demA
 ·exact rfl
 ·exact rfl
 have hE0:predS (qb l).2 (dr2 l (newD l)).2.t ((dr2 l (newD l)).2.e.drop (dr2 l (newD l)).2.o) (dr2 l (newD l)).2.c (dr2 l (newD l)).2.a (dr2 l (newD l)).2.b (qn l)=qp l:=rfl
 have ec:qc l=(qo l).1:=by unfold qc;rw [if_pos hE]
 have hE2:((predS (qb l).2 (dr2 l (newD l)).2.t ((dr2 l (newD l)).2.e.drop (dr2 l (newD l)).2.o) (dr2 l (newD l)).2.c (dr2 l (newD l)).2.a (dr2 l (newD l)).2.b (qn l)).length:Int)=((lineD l (drwD l (newD l)).1 ((drwD l (newD l)).2*(drwD l (newD l)).2).toNat).2.length:Int):=congrArg Nat.cast hE
 have hBx:(onceD l (belowD l (ql l).1 6).1 2).2=(qo l).2:=rfl
 rw [ec]
 refine goR (r:=?_);and_intros<;>intros<;>try exact True.intro
 all_goals first|contradiction|exact hd1.1|exact hd1.2.1|exact hd1.2.2|exact hl1.1.1|exact hl1.1.2.1|exact hl1.1.2.2|exact hb1.1|exact hb1.2.1|exact hb1.2.2|omega|exact ho.1|exact ho.2.1|exact ho.2.2|(exfalso;rename_i hg;exact absurd hE2 hg)|(exfalso;rename_i hg;exact absurd (hg.symm.trans hB) (by decide))|(exfalso;rename_i hg _;exact absurd hg hE2)|skip
 refine WpA.weak (Weak.dropS [2,4,5] rfl) ?_
 try dsimp only [List.append,List.cons_append,List.nil_append]
 apply WpA.regionGB 9 mixed (by decide +kernel)
 ·exact rfl
 ·apply HeadG.preF 0 rfl rfl rfl
  ·exact rfl
  ·exact in0
  ·exact rfl
  apply HeadG.hole4 rfl rfl rfl
  ·exact rfl
  ·exact in0
  ·exact rfl
  apply HeadG.preF 0 rfl rfl rfl
  ·exact rfl
  ·exact in0
  ·exact rfl
  apply HeadG.preF 0 rfl rfl rfl
  ·exact rfl
  ·exact in0
  ·exact rfl
  apply HeadG.stepF rfl rfl
  ·exact rfl
  ·intro Tv
   refine K.call ?_
   refine WpL.callP (hs:=[1]) (l8Any_p.ok v l (qo l).1 (by assumption)) (by assumption) handA handOA rfl rfl (.cons rfl (.sc (.sc (.sc .nil))) .nil) outA rfl rfl rfl rfl (by decide) ?_
   exact WpL.nil (Only.mk rfl)
  ·exact rfl
  apply HeadG.preF 0 rfl rfl rfl
  ·exact rfl
  ·exact in0
  ·exact rfl
  apply HeadG.stepNF rfl
  ·exact rfl
  ·exact in1
  ·exact rfl
  apply HeadG.preF 0 rfl rfl rfl
  ·exact rfl
  ·exact in0
  ·exact rfl
  apply HeadG.preF 0 rfl rfl rfl
  ·exact rfl
  ·exact in0
  ·exact rfl
  exact Abs.HeadG.nil
 ·exact trueA
 ·exact trueA
 ·exact trueA
 ·exact demA
 ·exact rfl
 ·exact rfl
 refine goR (r:=?_);and_intros<;>intros<;>try exact True.intro
 all_goals first|contradiction|omega|(exact FinW.mk (rs:=[_,_,_,_]) [some 2,some 3,some 6] rfl (by decide) (.cons (ResV.tmp rfl) (.cons (ResV.cell (ds:=[_,_,_,_,_]) rfl rfl rfl rfl rfl) (.cons (ResV.tmp rfl) (.cons (ResV.tmp rfl) .nil)))) (.tup (.keep rfl rfl rfl (.agg (.own rfl rfl rfl rfl (.own rfl rfl rfl rfl (.keep rfl rfl rfl (.keep rfl rfl rfl (.keep rfl rfl rfl .nil))))) (.keep rfl rfl rfl (.own rfl rfl rfl rfl .nil)))) .nil) (.obj rfl rfl (still_ints _) rfl rfl (.inr rfl) (.obj rfl rfl (still_ints _) rfl rfl (.inr rfl) (.obj rfl rfl (still_ints _) rfl rfl (.inr rfl) .nil))) rfl rfl)
end
theorem DrawBestMode_z (l:List Int) (hl:l.length≤1048576):Fn 45 [CodA l] [] (.tup [IL (qL l),NbA (dr2 l (newD l)).2.t ((dr2 l (newD l)).2.e.drop (dr2 l (newD l)).2.o) (dr2 l (newD l)).2.c (dr2 l (newD l)).2.a (dr2 l (newD l)).2.b,I (qn l),IL (l8AnyD l (qc l)).2]):=by
 by_cases hc:(qp l).length=(ql l).2.length∧(qo l).2=true
 ·have e:qL l=qp l:=by unfold qL;rw [if_pos hc]
  rw [e]
  exact FnC.stillT (FnC.of_pin fun v=>DrawBestMode_q v l hl hc.1 hc.2) (.keep rfl rfl (.agg (.own rfl rfl rfl (by simp) rfl (Snap.same rfl (still_ints _) (nofre_ints _)) (.ownO rfl rfl rfl (ds:=ints ((dr2 l (newD l)).2.e.drop (dr2 l (newD l)).2.o)) (by simp [ints,List.map_drop]) (by simp) (by simp) (Snap.same rfl (still_ints _) (nofre_ints _)) (.keep rfl rfl (.keep rfl rfl (.keep rfl rfl .nil))))) (.keep rfl rfl (.own rfl rfl rfl (by simp) rfl (Snap.same rfl (still_ints _) (nofre_ints _)) .nil))))
 ·have e:qL l=(ql l).2:=by unfold qL;rw [if_neg hc]
  rw [e]
  exact FnC.stillT (FnC.of_pin fun v=>DrawBestMode_p v l hl hc) (.own rfl rfl rfl (by simp) rfl (Snap.same rfl (still_ints _) (nofre_ints _)) (.agg (.own rfl rfl rfl (by simp) rfl (Snap.same rfl (still_ints _) (nofre_ints _)) (.ownO rfl rfl rfl (ds:=ints ((dr2 l (newD l)).2.e.drop (dr2 l (newD l)).2.o)) (by simp [ints,List.map_drop]) (by simp) (by simp) (Snap.same rfl (still_ints _) (nofre_ints _)) (.keep rfl rfl (.keep rfl rfl (.keep rfl rfl .nil))))) (.keep rfl rfl (.own rfl rfl rfl (by simp) rfl (Snap.same rfl (still_ints _) (nofre_ints _)) .nil))))
theorem qd_bd {l:List Int} (hl:l.length≤1048576):(qL l).length≤64∧(dr2 l (newD l)).2.t.length≤16∧((dr2 l (newD l)).2.e.drop (dr2 l (newD l)).2.o).length≤8∧(0≤qn l∧qn l≤8)∧(l8AnyD l (qc l)).2.length≤6:=by
 have hn:=newD_ok hl
 have h1:=dr1_ok hn
 have h2:=nbD_ok h1.1 h1.2
 have hd:=drwD_ok hn
 have hq0:0≤qn l∧qn l≤8:=hd.2
 have hqq:0≤qn l*qn l∧qn l*qn l≤64:=by
  obtain ⟨a,b⟩:=hq0
  generalize qn l=z at*
  exact ⟨Int.mul_nonneg a a,Int.mul_le_mul b b a (by decide)⟩
 have hl1:=lineD_ok hd.1 (qn l*qn l).toNat
 have hb:=belowD_ok 6 hl1.1
 have ho:=onceD_ok 2 hb.1
 have hll:(ql l).2.length≤64:=by rw [show (ql l).2.length=(qn l*qn l).toNat from hl1.2];omega
 have hcr:CrOk l (qc l):=by unfold qc;split;exact ho;exact hb.1
 refine ⟨?_,?_,?_,hq0,(l8AnyD_ok hcr).2⟩
 ·unfold qL;split
  ·rename_i h;rw [h.1];exact hll
  ·exact hll
 ·have:=h2.2.1;have:=h1.2;show (nbD l (dr1 l (newD l)).1 (dr1 l (newD l)).2).2.t.length≤16;omega
 ·have:=h2.2.2.1;have:=h1.2;rw [List.length_drop];show (nbD l (dr1 l (newD l)).1 (dr1 l (newD l)).2).2.e.length-_≤8;omega
end Go.Proofs.YtainhhfnnclfiaaGreat


namespace Go.Proofs.YtainhhfnnclfiaaGreat
open Go Go.Abs
attribute [local irreducible] WpA WpL Rnd Blk Abs.Seq Abs.Fin Abs.FinG FnC FnG FnX FnP FinX Only
theorem bwSmall {l:List Blok} (h:∀b∈l,b.2.length≤64):bw l≤65*l.length:=by
 induction l with
 |nil=>simp [bw_nil]
 |cons b l ih=>
  have h1:=h b (by simp)
  have h2:=ih fun x hx=>h x (by simp [hx])
  rw [bw_cons,List.length_cons];omega
theorem mwSmall {l:List Mbk} (h:∀m∈l,m.2.length≤4∧∀b∈m.2,b.2.length≤64):mw l≤261*l.length:=by
 induction l with
 |nil=>simp [mw_nil]
 |cons m l ih=>
  have h1:=h m (by simp)
  have h2:=ih fun x hx=>h x (by simp [hx])
  have h3:=bwSmall h1.2
  rw [mw_cons,List.length_cons];omega
theorem st_mw {w h q:Int} {L:List Int} {M:List Mbk} (hs:StOk w h q L M):mw M≤4176∧M.length≤16∧L.length=6∧SmM 1099511627776 M:=by
 have hcm:=cntM_bd hs.1.1
 have hlen:=hs.2.1
 have hm:=mwSmall (l:=M) (fun m hm=>by
  have hb:=List.any_eq_false.1 hs.2.2 m hm
  have hk:MbkOk m.1 m.2 L:=by
   refine Decidable.byContradiction fun hn=>hb ?_
   unfold badM;exact decide_eq_true hn
  obtain ⟨e,bs⟩:=m
  have hk1:(bs.length:Int)=nm8 e:=hk.1
  refine ⟨by show bs.length≤4;cases e<;>simp [nm8] at hk1<;>omega,fun b hbm=>?_⟩
  have hb2:=List.any_eq_false.1 hk.2 b hbm
  have hk2:BlkOk b.1 b.2 L (sz8 e):=by
   refine Decidable.byContradiction fun hn=>hb2 ?_
   unfold badB;exact decide_eq_true hn
  have hk3:=hk2.2.2.1
  cases e<;>simp [sz8] at hk3<;>omega)
 have h2:mw M≤4176:=by omega
 exact ⟨h2,by omega,hs.1.2.2.2.1,smM_of (by omega)⟩
section
attribute [local irreducible] encT refL unpS
theorem EncodeStream_0 (w h q:Int) (b d:Bool) (L ms F:List Int) (es:List Bool) (hl:F.length≤1099511627776∧L.length≤1099511627776) (hn:¬(FrameOk w h F∧OptOk q L)):
 Fn 22 [FrA w h F,OpA q b d L ms es] [] (.tup [.agg [I 0,I 0,I 0,B false,B false,.nilS,.nilS],.agg [I 0,I 0,.nilS]]):=by
 by_cases hF:FrameOk w h F
 ·have ho:¬OptOk q L:=fun ho=>hn ⟨hF,ho⟩
  have hfo:=decide_eq_true hF
  have hoo:=decide_eq_false ho
  refine FnC.of_body tabOk Tryz.func22 Tryz.ntmps22 rfl (by decide +kernel) (by simp) fun G=>?_
  refine go (r:=?_);and_intros<;>intros<;>try exact True.intro
  all_goals first|contradiction|omega
 ·have hfo:=decide_eq_false hF
  refine FnC.of_body tabOk Tryz.func22 Tryz.ntmps22 rfl (by decide +kernel) (by simp) fun G=>?_
  refine go (r:=?_);and_intros<;>intros<;>try exact True.intro
  all_goals first|contradiction|omega
end
end Go.Proofs.YtainhhfnnclfiaaGreat


namespace Go.Proofs.YtainhhfnnclfiaaGreat
open Go Go.Abs
attribute [local irreducible] WpA WpL Rnd Blk Abs.Seq Abs.Fin Abs.FinG FnC FnG Only
section
attribute [local irreducible] hdS stRun mbS endC cntM
end
end Go.Proofs.YtainhhfnnclfiaaGreat


namespace Go.Proofs.YtainhhfnnclfiaaGreat
open Go Go.Abs
attribute [local irreducible] WpA WpL Rnd Blk Abs.Seq Abs.Fin Abs.FinG FnC FnG Only
section
attribute [local irreducible] prS
end
end Go.Proofs.YtainhhfnnclfiaaGreat


namespace Go.Proofs.YtainhhfnnclfiaaGreat
open Go Go.Abs
attribute [local irreducible] WpA WpL Rnd Blk Abs.Seq Abs.Fin Abs.FinG FnC FnG Only
attribute [local irreducible] prS refL
structure Frm where
 W:Int
 H:Int
 P:List Int
def bldF (w h q:Int) (b d:Bool) (L:List Int) (M:List Mbk):Frm:=if StOk w h q L M then ⟨w,h,refL w h q b d M⟩ else ⟨0,0,[]⟩
def decF (p:List UInt8):Frm:=if (prS p).c=0 then bldF (prS p).W (prS p).H (prS p).Q (prS p).B (prS p).D (prS p).L (prS p).ms else ⟨0,0,[]⟩
section
attribute [local irreducible] bldF
end
end Go.Proofs.YtainhhfnnclfiaaGreat


namespace Go.Proofs.YtainhhfnnclfiaaGreat
open Go Go.Abs
attribute [local irreducible] WpA WpL Rnd Blk Abs.Seq Abs.Fin Abs.FinG FnC FnG Only
end Go.Proofs.YtainhhfnnclfiaaGreat
