/- Proved in this text: lemmas and contracts of functions that the claim uses (parts: BitsH, SizeL, Unp, Cache, AbsAz, Ent, UeT, Back, Stop, UnpI, Back2, Cur, CurP, Draw, AbsPre, Draw2, Draw3). No condition. -/
import Derived.Test.YtndflfipaddfoaaGreatBtM15
import Derived.Test.YtndflfipaddfoaaGreatBtM11
import Derived.Test.YtndflfipaddfoaaGreatBtM12
import Derived.Lib.AppendZeros
import Derived.Test.YtndflfipaddfoaaGreatBtM14
import Derived.Test.YtndflfipaddfoaaGreatBtM8
import Derived.Test.YtndflfipaddfoaaGreatBtM10
import Derived.Test.YtndflfipaddfoaaGreatBtM6
import Derived.Test.YtndflfipaddfoaaGreatBtM7
set_option linter.unusedVariables false
set_option linter.unusedSimpArgs false
set_option maxRecDepth 100000
set_option maxHeartbeats 16000000


namespace Go.Proofs.YtndflfipaddfoaaGreat
open Go Go.Abs
attribute [local irreducible] WpA WpL Rnd Blk Abs.Seq Abs.Fin Abs.FinG FnC FnG Only
attribute [local irreducible] bitsL ueL
theorem hd_ws {w h:Int} (hs:SidesOk w h):(0≤w/8-1∧w/8-1≤65534)∧(0≤h/8-1∧h/8-1≤65534):=by
 have:=hs;unfold SidesOk at this;omega
instance HeaderBits_c:Con 169 (∀ (w h q:Int) (b d:Bool) (l:List Int),l.length≤1099511627776∧HdOk w h q l→Fn 169 [HdA w h q b d l] [XI (hdL w h q b d l)] (.own 0 0 0 (hdL w h q b d l).length)):=⟨fun w h q b d l hl=>by
 have h1:=bitsL_len 183 8
 have h2:=ueL_len (w/8-1)
 have h3:=ueL_len (h/8-1)
 have h4:=bitsL_len q 6
 have h0:=hl.2
 have he:hdL w h q b d l=hdK w h q b d l l.length:=by rw [hdL,if_pos h0]
 have h6:=h0.2.2.2.1
 have hs:=h0.1
 have hq:=h0.2.1
 have hws:=hd_ws hs
 have hfl:[bitsL 183 8,ueL (w/8-1),ueL (h/8-1),bitsL q 6,[bif b then 1 else 0,bif d then 1 else 0]].flatten=hdK w h q b d l 0:=by simp [hdK,hdB]
 have hsm:[bitsL 183 8,ueL (w/8-1),ueL (h/8-1),bitsL q 6,[bif b then (1:Int) else 0,bif d then 1 else 0]].length≤1024∧SmL 1048576 [bitsL 183 8,ueL (w/8-1),ueL (h/8-1),bitsL q 6,[bif b then (1:Int) else 0,bif d then 1 else 0]]:=⟨by simp,smL_cons (by omega) (smL_cons (by omega) (smL_cons (by omega) (smL_cons (by omega) (smL_cons (by simp) (smL_nil _)))))⟩
 refine FnC.of_body tabOk Tryz.func169 Tryz.ntmps169 rfl (by decide +kernel) (by simp) fun G=>?_
 refine goR (r:=?_);and_intros<;>intros<;>try exact True.intro
 all_goals first|(exact absurd h0 (by assumption))|skip
 apply WpA.regionQ1 21 5 mixed (by decide +kernel)
 ·exact rfl
 ·apply HeadQ.consF (V:=.own 1 1 0 (bitsL 183 8).length) (.put 0 (XD (bitsL 183 8))) rfl
  ·exact rfl
  ·intro Tv Ov hc hp hd hk
   refine K.call ?_
   refine K.con (fun hcon=>?_)
   refine WpL.callF (hcon 183 8 (by decide)) snapA locA outA (cnt_some _ 0) rfl rfl (by decide) ?_
   rw [Nat.zero_add]
   apply WpL.putNil (p:=0)
   ·exact hp 0 _ rfl
   ·exact Nat.zero_le _
   ·exact rfl
   ·first|exact still_ints _|exact still_rows (fun _=>rfl) _|rfl
  ·exact rfl
  ·exact rfl
  apply HeadQ.consF .none rfl
  ·exact rfl
  ·exact in1
  ·exact rfl
  ·exact rfl
  apply HeadQ.consF .none rfl
  ·exact rfl
  ·exact in1
  ·exact rfl
  ·exact rfl
  apply HeadQ.consF .none rfl
  ·exact rfl
  ·exact in1
  ·exact rfl
  ·exact rfl
  apply HeadQ.consF .none rfl
  ·exact rfl
  ·exact in1
  ·exact rfl
  ·exact rfl
  apply HeadQ.consF (V:=.own 2 1 0 (ueL (w/8-1)).length) (.put 1 (XD (ueL (w/8-1)))) rfl
  ·exact rfl
  ·intro Tv Ov hc hp hd hk
   refine K.call ?_
   refine K.con (fun hcon=>?_)
   refine WpL.callF (hcon (w/8-1) hws.1) snapA locA outA (cnt_some _ 0) rfl rfl (by decide) ?_
   rw [Nat.zero_add]
   apply WpL.putNil (p:=1)
   ·exact hp 1 _ rfl
   ·exact Nat.zero_le _
   ·exact rfl
   ·first|exact still_ints _|exact still_rows (fun _=>rfl) _|rfl
  ·exact rfl
  ·exact rfl
  apply HeadQ.consF .none rfl
  ·exact rfl
  ·exact in1
  ·exact rfl
  ·exact rfl
  apply HeadQ.consF .none rfl
  ·exact rfl
  ·exact in1
  ·exact rfl
  ·exact rfl
  apply HeadQ.consF .none rfl
  ·exact rfl
  ·exact in1
  ·exact rfl
  ·exact rfl
  apply HeadQ.consF .none rfl
  ·exact rfl
  ·exact in1
  ·exact rfl
  ·exact rfl
  apply HeadQ.consF (V:=.own 3 1 0 (ueL (h/8-1)).length) (.put 2 (XD (ueL (h/8-1)))) rfl
  ·exact rfl
  ·intro Tv Ov hc hp hd hk
   refine K.call ?_
   refine K.con (fun hcon=>?_)
   refine WpL.callF (hcon (h/8-1) hws.2) snapA locA outA (cnt_some _ 0) rfl rfl (by decide) ?_
   rw [Nat.zero_add]
   apply WpL.putNil (p:=2)
   ·exact hp 2 _ rfl
   ·exact Nat.zero_le _
   ·exact rfl
   ·first|exact still_ints _|exact still_rows (fun _=>rfl) _|rfl
  ·exact rfl
  ·exact rfl
  apply HeadQ.consF .none rfl
  ·exact rfl
  ·exact in1
  ·exact rfl
  ·exact rfl
  apply HeadQ.consF .none rfl
  ·exact rfl
  ·exact in1
  ·exact rfl
  ·exact rfl
  apply HeadQ.consF (V:=.own 4 1 0 (bitsL q 6).length) (.put 3 (XD (bitsL q 6))) rfl
  ·exact rfl
  ·intro Tv Ov hc hp hd hk
   refine K.call ?_
   refine K.con (fun hcon=>?_)
   refine WpL.callF (hcon q 6 (by omega)) snapA locA outA (cnt_some _ 0) rfl rfl (by decide) ?_
   rw [Nat.zero_add]
   apply WpL.putNil (p:=3)
   ·exact hp 3 _ rfl
   ·exact Nat.zero_le _
   ·exact rfl
   ·first|exact still_ints _|exact still_rows (fun _=>rfl) _|rfl
  ·exact rfl
  ·exact rfl
  apply HeadQ.consF .none rfl
  ·exact rfl
  ·exact in1
  ·exact rfl
  ·exact rfl
  apply HeadQ.consF .none rfl
  ·exact rfl
  ·exact in1
  ·exact rfl
  ·exact rfl
  apply HeadQ.consF .none rfl
  ·exact rfl
  ·exact in0
  ·exact rfl
  ·exact rfl
  apply HeadQ.consF .none rfl
  ·exact rfl
  ·exact in1
  ·exact rfl
  ·exact rfl
  apply HeadQ.consF .none rfl
  ·exact rfl
  ·exact in1
  ·exact rfl
  ·exact rfl
  apply HeadQ.consF .none rfl
  ·exact rfl
  ·exact in0
  ·exact rfl
  ·exact rfl
  apply HeadQ.consF (V:=.own 5 1 0 2) (.put 4 (XD [bif b then 1 else 0,bif d then 1 else 0])) rfl
  ·exact rfl
  ·intro Tv Ov hc hp hd hk
   refine WpL.litInts tabOk rfl rfl rfl rfl rfl (by decide) (by rw [nid_len,Nat.zero_add]) (by decide) ?_
   apply WpL.putNil (p:=4)
   ·exact hp 4 _ rfl
   ·exact Nat.zero_le _
   ·exact rfl
   ·first|exact still_ints _|exact still_rows (fun _=>rfl) _|rfl
  ·exact rfl
  ·exact rfl
  exact HeadQ.nil
 ·exact rfl
 ·exact rfl
 ·exact rfl
 ·exact rfl
 ·exact rfl
 ·exact rfl
 ·exact rfl
 ·exact rfl
 generalize bitsL 183 8=L1 at*
 generalize ueL (w/8-1)=L2 at*
 generalize ueL (h/8-1)=L3 at*
 generalize bitsL q 6=L4 at*
 refine goR (r:=?_);and_intros<;>intros<;>try exact True.intro
 (apply WpL.nestLis (id:=11) (cs2:=[.fre 1 _ _,.fre 1 _ _,.fre 1 _ _,.fre 1 _ _,.fre 1 _ _]) (O3:=[BoxH w h q b d l,DD,DD,DD,DD,DD,deadO,deadO,deadO,deadO,deadO,⟨rows liF [L1,L2,L3,L4,[bif b then 1 else 0,bif d then 1 else 0]],0,1,some 22⟩]) [0,1,2,3,4]
  ·repeat' (first
    |exact NestC.nil
    |(apply NestC.consF
      ·exact rfl
      ·exact rfl
      ·exact rfl
      ·exact rfl
      ·first|exact Nat.zero_le _|exact Nat.le_of_ble_eq_true rfl
      ·exact still_ints _
      ·first|(simp;done)|rfl
      ·exact rfl
      ·exact rfl))
  ·exact rfl
  ·repeat' (first
    |exact ToLis.nil
    |(apply ToLis.cons
      ·exact rfl
      ·first|rfl|(simp;done)))
  ·exact rfl)
 refine K.call ?_
 refine K.con (fun hcon=>?_)
 refine WpL.callF (hcon [L1,L2,L3,L4,[bif b then 1 else 0,bif d then 1 else 0]] hsm) snapA locA outA rfl rfl rfl (by decide) ?_
 clear hcon
 refine WpL.weak (Weak.fillF (j:=1) (O3:=[BoxH w h q b d l,⟨ints [L1,L2,L3,L4,[bif b then 1 else 0,bif d then 1 else 0]].flatten,3,1,some 3⟩,DD,DD,DD,DD,deadO,deadO,deadO,deadO,deadO,⟨rows liF [L1,L2,L3,L4,[bif b then 1 else 0,bif d then 1 else 0]],0,1,some 22⟩,deadO]) rfl rfl rfl (Nat.zero_le _) rfl (still_ints _) rfl rfl) ?_
 rw [hfl]
 refine go (r:=?_);and_intros<;>intros<;>try exact True.intro
 refine WpA.loop (fun k:Nat=>⟨[(3,.own 1 0 0 (hdK w h q b d l k).length),(33,IL l),(34,I l.length),(35,I k)],[BoxH w h q b d l,XI (hdK w h q b d l k)]⟩) (fun k=>k≤l.length) (fun k=>l.length-k) 0 (by omega) (go (r:=?_)) (fun k hk=>?_)
 ·trivial
 have hb:=hdK_len w h q b d l k
 have hsc:=fun hk=>hdK_succ w h q b d l k hk
 have hbl:=bitsL_len (l.getD k 0) 3
 have hin:=fun hk=>in_getH h0.2.2.1 (k:=k) hk
 have hsl:k<l.length→(hdK w h q b d l (k+1)).length=(hdK w h q b d l k).length+(bitsL (l.getD k 0) 3).length:=fun hk=>by rw [hsc hk];simp only [List.length_append]
 refine go (r:=?_);and_intros<;>intros<;>try exact True.intro
 all_goals first|(rw [hsc (by omega)];done)|skip
 all_goals have ek:k=l.length:=by omega
 all_goals subst ek
 all_goals rw [he]⟩
end Go.Proofs.YtndflfipaddfoaaGreat


namespace Go.Proofs.YtndflfipaddfoaaGreat
open Go Go.Abs
attribute [local irreducible] WpA WpL Rnd Blk Abs.Seq Abs.Fin Abs.FinG FnC FnG Only
def mbF (l:List Int) (m:Mbk):List Int:=mbbL m.1 m.2 l
def stK (w h q:Int) (b d:Bool) (l:List Int) (M:List Mbk) (k:Nat):List Int:=hdL w h q b d l++(M.take k).flatMap (mbF l)
theorem stK_len (w h q:Int) (b d:Bool) (l:List Int) (M:List Mbk) (k:Nat):(stK w h q b d l M k).length≤600+33601*k:=by
 have h1:=hdL_len w h q b d l
 have h3:=fm_bd (mbF l) 33601 (fun m=>mbbL_len _ _ _) (M.take k)
 have h4:(M.take k).length≤k:=by simp;omega
 unfold stK;simp only [List.length_append];omega
theorem stK_succ (w h q:Int) (b d:Bool) (l:List Int) (M:List Mbk) (k:Nat) (hk:k<M.length):stK w h q b d l M (k+1)=stK w h q b d l M k++mbF l (M.getD k default):=by
 unfold stK;rw [fm_snoc _ _ k hk,←List.append_assoc]
end Go.Proofs.YtndflfipaddfoaaGreat


namespace Go.Proofs.YtndflfipaddfoaaGreat
open Go Go.Abs
attribute [local irreducible] WpA WpL Rnd Blk Abs.Seq Abs.Fin Abs.FinG FnC FnG Only
def Bit01 (l:List Int):Prop:=∀x∈l,x=0∨x=1
theorem b01_app {a b:List Int} (h1:Bit01 a) (h2:Bit01 b):Bit01 (a++b):=fun x hx=>(List.mem_append.1 hx).elim (h1 x) (h2 x)
theorem b01_nil:Bit01 []:=fun x hx=>by cases hx
theorem b01_rep (n:Nat):Bit01 (List.replicate n 0):=fun x hx=>.inl (List.mem_replicate.1 hx).2
theorem b01_bits (n w:Int):Bit01 (bitsL n w):=by
 unfold bitsL;split
 ·intro x hx
  unfold bitsR at hx
  obtain ⟨k,_,rfl⟩:=List.mem_map.1 hx
  omega
 ·exact b01_nil
theorem b01_ue (n:Int):Bit01 (ueL n):=by
 unfold ueL;split
 ·exact b01_app (b01_rep _) (b01_bits _ _)
 ·exact b01_nil
theorem b01_sym (l:List Int) (m:Int):Bit01 (symL l m):=by
 unfold symL;split
 ·exact b01_bits _ _
 ·exact b01_nil
theorem b01_one (b:Bool):(bif b then (1:Int) else 0)=0∨(bif b then (1:Int) else 0)=1:=by cases b<;>simp
theorem b01_fm {α:Type} (f:α→List Int) (h:∀a,Bit01 (f a)):∀l:List α,Bit01 (l.flatMap f):=fun l x hx=>by
 obtain ⟨a,_,hx⟩:=List.mem_flatMap.1 hx
 exact h a x hx
theorem b01_prB (p:Int×Int):Bit01 (prB p):=b01_app (b01_ue _) (b01_ue _)
theorem b01_bk (m:Int) (lv lens:List Int) (n:Int):Bit01 (bkL m lv lens n):=by
 unfold bkL;split
 ·split
  ·exact b01_app (b01_sym _ _) (fun x hx=>by simp at hx;exact .inl hx)
  ·unfold bkK
   exact b01_app (b01_app (b01_app (b01_sym _ _) (fun x hx=>by simp at hx;exact .inr hx)) (b01_ue _)) (b01_fm _ b01_prB _)
 ·exact b01_nil
theorem b01_mb (e:Bool) (bs:List Blok) (lens:List Int):Bit01 (mbbL e bs lens):=by
 unfold mbbL;split
 ·unfold mbK
  exact b01_app (fun x hx=>by simp only [List.mem_singleton] at hx;rw [hx];exact b01_one e) (b01_fm _ (fun b=>b01_bk _ _ _ _) _)
 ·exact b01_nil
theorem b01_hd (w h q:Int) (b d:Bool) (l:List Int):Bit01 (hdL w h q b d l):=by
 unfold hdL;split
 ·unfold hdK hdB
  refine b01_app (b01_app (b01_app (b01_app (b01_app (b01_bits _ _) (b01_ue _)) (b01_ue _)) (b01_bits _ _)) ?_) (b01_fm _ (fun n=>b01_bits _ _) _)
  intro x hx
  simp only [List.mem_cons,List.not_mem_nil,or_false] at hx
  rcases hx with rfl|rfl
  ·exact b01_one b
  ·exact b01_one d
 ·exact b01_nil
theorem b01_st (w h q:Int) (b d:Bool) (l:List Int) (M:List Mbk) (k:Nat):Bit01 (stK w h q b d l M k):=by
 unfold stK
 exact b01_app (b01_hd _ _ _ _ _ _) (b01_fm _ (fun m=>b01_mb _ _ _) _)
def numS (l:List Int) (k:Nat):Int:=(l.take k).foldl (fun n b=>n*2+b) 0
theorem numS_succ {l:List Int} {k:Nat} (h:k<l.length):numS l (k+1)=numS l k*2+l.getD k 0:=by
 unfold numS;rw [List.take_succ_eq_append_getElem h,List.foldl_append];simp [h]
theorem b01_get {l:List Int} (h:Bit01 l) (k:Nat):l.getD k 0=0∨l.getD k 0=1:=by
 rcases Nat.lt_or_ge k l.length with h1|h1
 ·exact h _ (by simp [h1])
 ·left;rw [List.getD_eq_getElem?_getD,List.getElem?_eq_none h1];rfl
theorem numS_bd {l:List Int} (h:Bit01 l):∀k,k≤8→0≤numS l k∧numS l k<2 ^ k
 |0,_=>by simp [numS]
 |k+1,hk=>by
  have ih:=numS_bd h k (by omega)
  rcases Nat.lt_or_ge k l.length with h1|h1
  ·rw [numS_succ h1]
   have:=b01_get h k
   have e:(2:Int) ^ (k+1)=2 ^ k*2:=by rw [Int.pow_succ]
   omega
  ·have e:numS l (k+1)=numS l k:=by unfold numS;rw [List.take_of_length_le (by omega),List.take_of_length_le (by omega)]
   have e2:(2:Int) ^ (k+1)=2 ^ k*2:=by rw [Int.pow_succ]
   omega
theorem numS_256 {l:List Int} (h:Bit01 l) {k:Nat} (hk:k≤8):0≤numS l k∧numS l k<256:=by
 have h1:=numS_bd h k hk
 have h2:(2:Int) ^ k≤2 ^ 8:=by
  have:=Nat.pow_le_pow_right (n:=2) (by decide) hk
  exact_mod_cast this
 have h3:(2:Int) ^ 8=256:=by decide
 omega
def byI (x:List Int) (k:Nat):List Int:=(List.range k).map fun i=>numS ((x.drop (8*i)).take 8) 8
def strS (x:List Int):List UInt8:=(byI x (x.length/8)).map fun n:Int=>UInt8.ofNat n.toNat
theorem byI_len (x:List Int) (k:Nat):(byI x k).length=k:=by simp [byI]
theorem strS_len (x:List Int):(strS x).length=x.length/8:=by unfold strS;rw [List.length_map,byI_len]
theorem b01_mid {x:List Int} (h:Bit01 x) (i:Nat):Bit01 ((x.drop i).take 8):=fun y hy=>h y (List.mem_of_mem_drop (List.mem_of_mem_take hy))
def padN (n:Nat):Nat:=(8-(n+1)%8)%8
def padL (b:List Int) (j:Nat):List Int:=b++[1]++List.replicate j 0
theorem padL_len (b:List Int) (j:Nat):(padL b j).length=b.length+1+j:=by simp [padL];omega
theorem padL_succ (b:List Int) (j:Nat):padL b (j+1)=padL b j++[0]:=by unfold padL;rw [List.replicate_succ',←List.append_assoc]
theorem b01_pad {b:List Int} (h:Bit01 b) (j:Nat):Bit01 (padL b j):=b01_app (b01_app h (fun x hx=>by simp at hx;exact .inr hx)) (b01_rep j)
def stopS (b:List Int):List UInt8:=strS (padL b (padN b.length))
theorem stopS_len (b:List Int):(stopS b).length=(b.length+8)/8:=by
 unfold stopS;rw [strS_len,padL_len];unfold padN;omega
def unpS (w h q:Int) (b d:Bool) (l:List Int) (M:List Mbk):List UInt8:=if StOk w h q l M then stopS (stK w h q b d l M M.length) else []
theorem stK_small {w h q:Int} {b d:Bool} {l:List Int} {M:List Mbk} (h0:StOk w h q l M):(stK w h q b d l M M.length).length≤600000:=by
 have h1:=stK_len w h q b d l M M.length
 have h2:=cntM_bd h0.1.1
 have h3:=h0.2.1
 omega
theorem unpS_len (w h q:Int) (b d:Bool) (l:List Int) (M:List Mbk):(unpS w h q b d l M).length≤100000:=by
 unfold unpS;split
 ·rename_i h0
  rw [stopS_len]
  have:=stK_small (b:=b) (d:=d) h0
  omega
 ·simp
end Go.Proofs.YtndflfipaddfoaaGreat


namespace Go.Proofs.YtndflfipaddfoaaGreat
open Go Go.Abs
attribute [local irreducible] WpA WpL Rnd Blk Abs.Seq Abs.Fin Abs.FinG FnC FnG Only
end Go.Proofs.YtndflfipaddfoaaGreat


namespace Go.Abs
open Go
section
variable {P:Program} (w:World)
end
section
variable {P:Program} {n m:Nat} {G:Ctx} {T:List (Nat×AV)} {O:List AObj} {Q:Exit→St→Prop} {ops:Array Oper} {l:List Oper} {d:Nat} {tt:TypeId} {pos:String} {after:Array Edge} {tab:List (Nat×Ty)}
end
end Go.Abs


namespace Go.Proofs.YtndflfipaddfoaaGreat
open Go Go.Abs
attribute [local irreducible] WpA WpL Rnd Blk Abs.Seq Abs.Fin Abs.FinG FnC FnG Only
instance eqEnt:EqPr Tryz.prog 141:=⟨run_eq_pr Tryz.underlying141 (by decide) (by decide) rfl rfl Tryz.underlying3 Tryz.underlying3 Tryz.stoodInHeld141,Tryz.eqGuardType141⟩
end Go.Proofs.YtndflfipaddfoaaGreat


namespace Go.Proofs.YtndflfipaddfoaaGreat
open Go Go.Abs
attribute [local irreducible] WpA WpL Rnd Blk Abs.Seq Abs.Fin Abs.FinG FnC FnG Only
def Bits (l:List Int):Prop:=∀x∈l,x=0∨x=1
instance areBits_c:Con 255 (∀ l:List Int,l.length≤1099511627776∧Bits l→Fn 255 [IL l] [] (B true)):=⟨fun l hl=>by
 refine FnC.of_body tabOk Tryz.func255 Tryz.ntmps255 rfl (by decide +kernel) (by simp) fun G=>?_
 refine go (r:=?_);and_intros<;>intros<;>try exact True.intro
 refine WpA.loop (fun k:Nat=>⟨[(5,IL l),(6,I l.length),(7,I k)],[]⟩) (fun k=>k≤l.length) (fun k=>l.length-k) 0 (by omega) (go (r:=?_)) (fun k hk=>?_)
 ·trivial
 have hb:k<l.length→l.getD k 0=0∨l.getD k 0=1:=fun h=>hl.2 _ (by simp [h])
 refine go (r:=?_);and_intros<;>intros<;>try exact True.intro
 all_goals first|(have:=hb (by omega);omega)⟩
def byB (l:List Int):Nat→List Int
 |0=>List.replicate (l.length/8) 0
 |k+1=>(byB l k).set (k/8) (IntKind.u8.wrap ((BitVec.ofInt IntKind.u8.bits ((byB l k).getD (k/8) 0) ||| BitVec.ofInt IntKind.u8.bits (IntKind.u8.wrap (IntKind.i64.wrap (l.getD k 0*2 ^ (7-k%8))))).toNat:Nat))
theorem byB_len (l:List Int):∀k,(byB l k).length=l.length/8
 |0=>by simp [byB]
 |k+1=>by rw [byB,List.length_set,byB_len l k]
def strB (l:List Int):List UInt8:=(byB l l.length).map fun n:Int=>UInt8.ofNat n.toNat
instance BytesOf_c:Con 168 (∀ l:List Int,l.length≤1099511627776∧Bits l∧l.length%8=0→Fn 168 [IL l] [] (.tup [Z (strB l),B true])):=⟨fun l hl=>by
 refine FnC.of_body tabOk Tryz.func168 Tryz.ntmps168 rfl (by decide +kernel) (by simp) fun G=>?_
 refine go (r:=?_);and_intros<;>intros<;>try exact True.intro
 all_goals first|exact hl.2.1|exact hl.2.1 _ (by assumption)|omega|skip
 refine WpA.loop (fun k:Nat=>⟨[(4,.own 0 0 0 (l.length/8)),(20,IL l),(21,I l.length),(22,I k)],[⟨u8s (byB l k),0,1,some 5⟩]⟩) (fun k=>k≤l.length) (fun k=>l.length-k) 0 (by omega) (go (r:=?_)) (fun k hk=>?_)
 ·and_intros<;>first|exact True.intro|rfl
 have hb:k<l.length→l.getD k 0=0∨l.getD k 0=1:=fun h=>hl.2.1 _ (by simp [h])
 have hln:=byB_len l k
 refine go (r:=?_);and_intros<;>intros<;>try exact True.intro
 ·rw [show ((k:Int)/8).toNat=k/8 by omega,show (7-(k:Int)%8).toNat=7-k%8 by omega];rfl
 ·obtain rfl:k=l.length:=by omega
  refine K.cv ?_
  refine WpL.ofBytes tabOk rfl rfl rfl rfl rfl (by simp [u8s,hln]) (by decide) ?_
  refine go (r:=?_);and_intros<;>intros<;>try exact True.intro
  all_goals trace_state⟩
end Go.Proofs.YtndflfipaddfoaaGreat


namespace Go.Proofs.YtndflfipaddfoaaGreat
open Go Go.Abs
def Holds (p:List UInt8) (s:Int) (b:List Int):Prop:=0≤s∧s+b.length≤8*(p.length:Int)∧∀k<b.length,btA p (s+(k:Nat))=b.getD k 0
theorem holds_left {p:List UInt8} {s:Int} {a b:List Int} (h:Holds p s (a++b)):Holds p s a:=by
 obtain ⟨h0,h1,h2⟩:=h
 rw [List.length_append] at h1
 refine ⟨h0,by omega,fun k hk=>?_⟩
 rw [h2 k (by rw [List.length_append];omega)]
 simp [List.getD_eq_getElem?_getD,List.getElem?_append_left hk]
theorem holds_right {p:List UInt8} {s:Int} {a b:List Int} (h:Holds p s (a++b)):Holds p (s+a.length) b:=by
 obtain ⟨h0,h1,h2⟩:=h
 rw [List.length_append] at h1
 refine ⟨by omega,by omega,fun k hk=>?_⟩
 have:=h2 (a.length+k) (by rw [List.length_append];omega)
 rw [show s+(a.length:Int)+(k:Nat)=s+((a.length+k:Nat):Int) by omega,this]
 simp [List.getD_eq_getElem?_getD,List.getElem?_append_right]
theorem holds_rd {p:List UInt8} {s:Int} {b:List Int} (h:Holds p s b):RdOk p s:=⟨h.1,by have:=h.2.1;omega⟩
theorem holds_lft {p:List UInt8} {s:Int} {b:List Int} (h:Holds p s b):(b.length:Int)≤lft p s:=by
 rw [lft_ok (holds_rd h)];have:=h.2.1;omega
theorem holds_rb {p:List UInt8} {s:Int} {b:List Int} (h:Holds p s b) {n:Int} (h0:0≤n) (h1:n≤b.length) (h2:n≤32):RbOk p s n:=⟨holds_rd h,⟨h0,h2⟩,by have:=holds_lft h;omega⟩
theorem numS_bit {l:List Int} (h:Bit01 l) (hl:l.length=8) (j:Nat) (hj:j<8):numS l 8/2 ^ (7-j)%2=l.getD j 0:=by
 match l,hl with
 |[a,b,c,d,e,f,g,i],_=>
  have ha:0≤a∧a≤1:=by rcases h a (by simp) with e|e<;>omega
  have hb:0≤b∧b≤1:=by rcases h b (by simp) with e|e<;>omega
  have hc:0≤c∧c≤1:=by rcases h c (by simp) with e|e<;>omega
  have hd:0≤d∧d≤1:=by rcases h d (by simp) with e|e<;>omega
  have he:0≤e∧e≤1:=by rcases h e (by simp) with e|e<;>omega
  have hf:0≤f∧f≤1:=by rcases h f (by simp) with e|e<;>omega
  have hg:0≤g∧g≤1:=by rcases h g (by simp) with e|e<;>omega
  have hi:0≤i∧i≤1:=by rcases h i (by simp) with e|e<;>omega
  have hj2:j=0∨j=1∨j=2∨j=3∨j=4∨j=5∨j=6∨j=7:=by omega
  have e8:numS [a,b,c,d,e,f,g,i] 8=((((((((0*2+a)*2+b)*2+c)*2+d)*2+e)*2+f)*2+g)*2+i):=rfl
  rw [e8]
  rcases hj2 with rfl|rfl|rfl|rfl|rfl|rfl|rfl|rfl
  ·show _/(128:Int)%2=a;omega
  ·show _/(64:Int)%2=b;omega
  ·show _/(32:Int)%2=c;omega
  ·show _/(16:Int)%2=d;omega
  ·show _/(8:Int)%2=e;omega
  ·show _/(4:Int)%2=f;omega
  ·show _/(2:Int)%2=g;omega
  ·show _/(1:Int)%2=i;omega
theorem bit1_eq {y:Int} (h:0≤y∧y≤255):bit1 y=y%2:=low1 y ⟨h.1,by omega⟩
theorem str_bit {x:List Int} (h:Bit01 x) (i:Nat) (hi:i<8*(x.length/8)):btA (strS x) (i:Nat)=x.getD i 0:=by
 have hl:=strS_len x
 unfold btA
 rw [if_neg (by omega)]
 have e1:((i:Int)/8).toNat=i/8:=by omega
 have e2:((7:Int)-(i:Int)%8).toNat=7-i%8:=by omega
 have hb:=numS_256 (b01_mid h (8*(i/8))) (Nat.le_refl 8)
 have e3:((strS x).getD (i/8) 0).toNat=(numS ((x.drop (8*(i/8))).take 8) 8).toNat:=by
  unfold strS byI
  have hlt:i/8<x.length/8:=by omega
  simp only [List.getD_eq_getElem?_getD,List.getElem?_map,List.getElem?_range hlt,Option.map_some,Option.getD_some]
  rw [UInt8.toNat_ofNat']
  omega
 rw [e1,e2,e3]
 have e4:(((numS ((x.drop (8*(i/8))).take 8) 8).toNat:Nat):Int)=numS ((x.drop (8*(i/8))).take 8) 8:=by omega
 rw [e4]
 have hq:=shr_bd (numS ((x.drop (8*(i/8))).take 8) 8) (7-i%8) hb.1
 rw [bit1_eq ⟨hq.1,by omega⟩,numS_bit (b01_mid h _) (by rw [List.length_take,List.length_drop];omega) (i%8) (by omega)]
 simp only [List.getD_eq_getElem?_getD,List.getElem?_take,List.getElem?_drop]
 rw [if_pos (by omega),show 8*(i/8)+i%8=i by omega]
theorem pad_mult (n:Nat):(n+1+padN n)%8=0:=by unfold padN;omega
theorem stop_holds {b:List Int} (h:Bit01 b):Holds (stopS b) 0 (padL b (padN b.length)):=by
 have hl:=padL_len b (padN b.length)
 have hm:=pad_mult b.length
 have hs:=strS_len (padL b (padN b.length))
 refine ⟨by omega,by unfold stopS;omega,fun k hk=>?_⟩
 rw [Int.zero_add]
 exact str_bit (b01_pad h _) k (by omega)
theorem num_of {p:List UInt8} {s n:Int} {w:Nat} (hn:0≤n) (h:∀j<w,btA p (s+(j:Nat))=n/2 ^ (w-1-j)%2):∀k,k≤w→numB p s k=n/2 ^ (w-k)%2 ^ k
 |0,_=>by simp [numB]
 |k+1,hk=>by
  rw [numB,num_of hn h k (by omega),bv,h k (by omega)]
  have e1:w-k=(w-(k+1))+1:=by omega
  have e2:w-1-k=w-(k+1):=by omega
  rw [e2,e1]
  have e3:(2:Int) ^ (w-(k+1)+1)=2 ^ (w-(k+1))*2:=Int.pow_succ ..
  have e4:(2:Int) ^ (k+1)=2*2 ^ k:=by rw [Int.pow_succ,Int.mul_comm]
  rw [e3,←Int.ediv_ediv_of_nonneg (Int.le_of_lt (Int.pow_pos (by decide))),e4]
  generalize n/2 ^ (w-(k+1))=y
  have e5:y%(2*2 ^ k)=y%2+2*(y/2%2 ^ k):=by
   have:=Int.emod_emod_of_dvd y (Int.dvd_mul_right 2 (2 ^ k))
   have h1:=Int.mul_ediv_add_emod y 2
   have h2:=Int.mul_ediv_add_emod (y/2) (2 ^ k)
   have hp:(0:Int)<2 ^ k:=Int.pow_pos (by decide)
   have h3:=Int.emod_nonneg (y/2) (Int.ne_of_gt hp)
   have h4:=Int.emod_lt_of_pos (y/2) hp
   have e6:y=(2*2 ^ k)*(y/2/2 ^ k)+(y%2+2*(y/2%2 ^ k)):=by
    have:(2:Int)*2 ^ k*(y/2/2 ^ k)=2*(2 ^ k*(y/2/2 ^ k)):=by rw [Int.mul_assoc]
    omega
   conv=>lhs;rw [e6]
   rw [Int.mul_add_emod_self_left,Int.emod_eq_of_lt (by omega) (by omega)]
  omega
theorem holds_num {p:List UInt8} {s n w:Int} (hb:bitOk n w) (h:Holds p s (bitsL n w)):numB p s w.toNat=n:=by
 unfold bitsL at h
 rw [if_pos hb] at h
 obtain ⟨⟨hw0,hw1⟩,hn,hz⟩:=hb
 obtain ⟨h0,h1,h2⟩:=h
 rw [bitsR_len] at h2
 rw [num_of (w:=w.toNat) hn (fun j hj=>by
  rw [h2 j hj]
  simp [bitsR,List.getD_eq_getElem?_getD,hj]) w.toNat (Nat.le_refl _)]
 rw [Nat.sub_self,Int.pow_zero,Int.ediv_one]
 have hp:(0:Int)<2 ^ w.toNat:=Int.pow_pos (by decide)
 have:=Int.mul_ediv_add_emod n (2 ^ w.toNat)
 rw [hz] at this
 omega
theorem bits_len {n w:Int} (hb:bitOk n w):((bitsL n w).length:Int)=w:=by
 unfold bitsL
 rw [if_pos hb,bitsR_len]
 have:=hb.1.1
 omega
theorem holds_bits {p:List UInt8} {s n w:Int} (hb:bitOk n w) (hw:w≤32) (h:Holds p s (bitsL n w)):RbOk p s w∧rbA p s w=s+w∧rbV p s w=n:=by
 have hr:=holds_rb h hb.1.1 (by rw [bits_len hb];omega) hw
 have:=rb_yes hr
 exact ⟨hr,this.1,this.2.trans (holds_num hb h)⟩
theorem holds_ue {p:List UInt8} {s n:Int} (hn:0≤n∧n≤65534) (h:Holds p s (ueL n)):ueC p s=0∧ueA p s=s+(ueL n).length∧ueV p s=n:=by
 obtain ⟨m,rfl⟩:∃m:Nat,n=m:=⟨n.toNat,by omega⟩
 have hm:m≤65534:=by omega
 have hz:=lg_16 (x:=m+1) (by omega) (by omega)
 have hw:=ueL_wide hm
 have hb:=bitOk_ue (n:=m) (2*Nat.log2 (m+1)+1) hm (by omega) (by omega)
 have hlen:=bits_len hb
 rw [hw] at hlen
 have hsh:ueL (m:Int)=List.replicate (Nat.log2 (m+1)) 0++bitsL ((m:Int)+1) ((Nat.log2 (m+1)+1:Nat):Int):=by
  rw [ueL,if_pos hn];simp
 have hzr:zrs p s=Nat.log2 (m+1):=by
  refine zrs_eq (by have:=holds_lft h;omega) (fun j hj=>?_) (.inr ?_)
  ·have h1:=holds_left (hsh▸h)
   rw [h1.2.2 j (by simpa using hj)]
   simp [List.getD_eq_getElem?_getD,List.getElem?_replicate,hj]
  ·have h1:=holds_right (hsh▸h)
   have hb2:=bitOk_ue (n:=m) (Nat.log2 (m+1)+1) hm (by omega) (by omega)
   have h2:=h1.2.2 0 (by have:=bits_len hb2;omega)
   rw [List.length_replicate] at h2
   rw [show s+((Nat.log2 (m+1):Nat):Int)=s+((Nat.log2 (m+1):Nat):Int)+((0:Nat):Int) by omega,h2]
   unfold bitsL
   rw [if_pos hb2]
   have e1:(((Nat.log2 (m+1)+1:Nat):Int)).toNat=Nat.log2 (m+1)+1:=by omega
   rw [e1]
   have e2:(bitsR ((m:Int)+1) (Nat.log2 (m+1)+1) (Nat.log2 (m+1)+1)).getD 0 0=((m:Int)+1)/2 ^ Nat.log2 (m+1)%2:=by
    simp [bitsR,List.getD_eq_getElem?_getD]
   rw [e2]
   have hlo:=lg_lo (m+1) (by omega)
   have hhi:=lg_hi (m+1)
   have e3:((m:Int)+1)/2 ^ Nat.log2 (m+1)=1:=by
    have:(m+1)/2 ^ Nat.log2 (m+1)=1:=by
     rw [Nat.pow_succ] at hhi
     exact Nat.div_eq_of_lt_le (by omega) (by omega)
    exact_mod_cast this
   rw [e3];decide
 have hrb:RbOk p s (2*(zrs p s:Int)+1):=holds_rb h (by omega) (by omega) (by omega)
 have hy:=ue_yes (p:=p) (s:=s) (by omega) hrb
 refine ⟨hy.2.1,by rw [hy.1,hzr];omega,?_⟩
 rw [hy.2.2,hzr]
 have:=holds_num hb (hw.symm▸h)
 rw [show ((2*Nat.log2 (m+1)+1:Nat):Int).toNat=(2*((Nat.log2 (m+1):Nat):Int)+1).toNat by omega] at this
 omega
theorem holds_sym {p:List UInt8} {s m:Int} {l:List Int} (hc:HasC l m) (h:Holds p s (symL l m)):smC p s l=0∧smA p s l=s+(symL l m).length∧smV p s l=m:=by
 have hf:=sym_fit hc
 have hlen:=symL_len l m
 rw [if_pos hc] at hlen
 unfold symL at h
 rw [if_pos hc] at h
 have hb:=holds_bits hf.2.2.2 (by omega) h
 have hm:=hc.2.1
 have ha:SymAt p s l m.toNat:=⟨by omega,hb.1,holds_num hf.2.2.2 h⟩
 have hy:=sm_yes hc.1 (by omega) ha
 exact ⟨hy.2.2,by omega,by omega⟩
theorem lv_nol {v:Int} (h:v≠0):lvOf (nolL v)=v:=by unfold lvOf nolL;split<;>(try split)<;>(try split)<;>omega
theorem holds_pair {p:List UInt8} {s room r v:Int} (hr:0≤r∧r<room) (hr2:r≤65534) (hv:v≠0∧-16383≤v∧v≤16383) (h:Holds p s (prB (r,v))):pvC p s room=0∧pvA p s room=s+(prB (r,v)).length∧pvR p s room=r∧pvL p s room=v:=by
 have h1:=holds_ue ⟨hr.1,hr2⟩ (holds_left h)
 have hn:=nolL_in hv
 have h2:=holds_ue hn (holds_right h)
 have e:=lv_nol hv.1
 simp only at h1 h2
 rw [←h1.2.1] at h2
 have h5:=pv_5 (p:=p) (s:=s) (room:=room) h1.1 (by omega) h2.1 (by rw [h2.2.2,e];omega)
 refine ⟨h5.2.1,?_,by rw [h5.2.2.1];exact h1.2.2,by rw [h5.2.2.2,h2.2.2,e]⟩
 rw [h5.1,h2.2.1,h1.2.1]
 unfold prB
 simp only [List.length_append]
 omega
theorem set_next (l:List Int) (k:Nat) (h:k<l.length) (n:Nat) (hn:n=l.length):(l.take k++List.replicate (n-k) 0).set k (l.getD k 0)=l.take (k+1)++List.replicate (n-(k+1)) 0:=by
 subst hn
 have e1:(l.take k).length=k:=by simp;omega
 have e2:l.length-k=(l.length-(k+1))+1:=by omega
 rw [List.set_append,if_neg (by omega),e1,Nat.sub_self,e2,List.replicate_succ,List.set_cons_zero,List.take_succ_eq_append_getElem h,List.append_assoc]
 simp [h]
theorem keep_next (l:List Int) (k:Nat) (h:k<l.length) (h0:l.getD k 0=0):l.take k++List.replicate (l.length-k) 0=l.take (k+1)++List.replicate (l.length-(k+1)) 0:=by
 rw [←set_next l k h _ rfl,h0]
 have e1:(l.take k).length=k:=by simp;omega
 have e2:l.length-k=(l.length-(k+1))+1:=by omega
 rw [List.set_append,if_neg (by omega),e1,Nat.sub_self,e2,List.replicate_succ,List.set_cons_zero]
theorem holds_run {p:List UInt8} {s:Int} {l:List Int} (hl:LvOk l):∀k,k≤l.length→Holds p s ((pk l k).1.flatMap prB)→
 lvRun p l.length ⟨s,0,0,List.replicate l.length 0⟩ (pk l k).1.length=⟨s+((pk l k).1.flatMap prB).length,0,k-(pk l k).2,l.take k++List.replicate (l.length-k) 0⟩
 |0,_,_=>by simp [pk,lvRun]
 |k+1,hk,h=>by
  have hb:=pk_bd l k
  have h64:l.length≤64:=by have:=hl.2;omega
  rw [pk] at h ⊢
  split at h
  ·rename_i h0
   rw [if_pos h0]
   have ih:=holds_run hl k (by omega) h
   simp only
   rw [ih,keep_next l k (by omega) h0]
   congr 1
   omega
  ·rename_i h0
   rw [if_neg h0]
   simp only [List.flatMap_append,List.flatMap_cons,List.flatMap_nil,List.append_nil,List.length_append,List.length_singleton] at h ⊢
   have ih:=holds_run hl k (by omega) (holds_left h)
   have hin:=in_get hl.1 (k:=k) (by omega)
   have hp:=holds_pair (room:=l.length-(k-(pk l k).2)) (by omega) (by omega) ⟨h0,hin⟩ (holds_right h)
   rw [lvRun,ih,lvStep_pv0 rfl hp.1]
   simp only
   rw [hp.2.1,hp.2.2.1,hp.2.2.2,show ((k:Int)-(pk l k).2+(pk l k).2).toNat=k by omega,set_next l k (by omega) _ rfl]
   congr 1<;>omega
end Go.Proofs.YtndflfipaddfoaaGreat


namespace Go.Proofs.YtndflfipaddfoaaGreat
open Go Go.Abs
attribute [local irreducible] WpA WpL Rnd Blk Abs.Seq Abs.Fin Abs.FinG FnC FnG Only
theorem orb:∀a:Fin 256,∀j:Fin 8,∀x:Fin 2,((a.val:Int)/2 ^ (7-j.val)%2=0)→IntKind.u8.wrap ((BitVec.ofInt IntKind.u8.bits (a.val:Int) ||| BitVec.ofInt IntKind.u8.bits (IntKind.u8.wrap (IntKind.i64.wrap ((x.val:Int)*2 ^ (7-j.val))))).toNat:Nat)=(a.val:Int)+(x.val:Int)*2 ^ (7-j.val):=by decide +kernel
theorem orb' {a x:Int} {j:Nat} (ha:0≤a∧a<256) (hj:j<8) (hx:x=0∨x=1) (h:a/2 ^ (7-j)%2=0):IntKind.u8.wrap ((BitVec.ofInt IntKind.u8.bits a ||| BitVec.ofInt IntKind.u8.bits (IntKind.u8.wrap (IntKind.i64.wrap (x*2 ^ (7-j))))).toNat:Nat)=a+x*2 ^ (7-j):=by
 obtain ⟨n,rfl⟩:∃n:Nat,a=n:=⟨a.toNat,by omega⟩
 obtain ⟨m,rfl⟩:∃m:Nat,x=m:=⟨x.toNat,by omega⟩
 exact orb ⟨n,by omega⟩ ⟨j,hj⟩ ⟨m,by omega⟩ h
theorem numS_set {l:List Int} (hl:l.length=8) (j:Nat) (hj:j<8) (x:Int) (h0:l.getD j 0=0):numS (l.set j x) 8=numS l 8+x*2 ^ (7-j):=by
 match l,hl with
 |[a,b,c,d,e,f,g,i],_=>
  have e8:∀a b c d e f g i:Int,numS [a,b,c,d,e,f,g,i] 8=((((((((0*2+a)*2+b)*2+c)*2+d)*2+e)*2+f)*2+g)*2+i):=fun _ _ _ _ _ _ _ _=>rfl
  have hj2:j=0∨j=1∨j=2∨j=3∨j=4∨j=5∨j=6∨j=7:=by omega
  rcases hj2 with rfl|rfl|rfl|rfl|rfl|rfl|rfl|rfl
  ·have h0:a=0:=h0
   show numS [x,b,c,d,e,f,g,i] 8=_+x*(128:Int);rw [e8,e8];omega
  ·have h0:b=0:=h0
   show numS [a,x,c,d,e,f,g,i] 8=_+x*(64:Int);rw [e8,e8];omega
  ·have h0:c=0:=h0
   show numS [a,b,x,d,e,f,g,i] 8=_+x*(32:Int);rw [e8,e8];omega
  ·have h0:d=0:=h0
   show numS [a,b,c,x,e,f,g,i] 8=_+x*(16:Int);rw [e8,e8];omega
  ·have h0:e=0:=h0
   show numS [a,b,c,d,x,f,g,i] 8=_+x*(8:Int);rw [e8,e8];omega
  ·have h0:f=0:=h0
   show numS [a,b,c,d,e,x,g,i] 8=_+x*(4:Int);rw [e8,e8];omega
  ·have h0:g=0:=h0
   show numS [a,b,c,d,e,f,x,i] 8=_+x*(2:Int);rw [e8,e8];omega
  ·have h0:i=0:=h0
   show numS [a,b,c,d,e,f,g,x] 8=_+x*(1:Int);rw [e8,e8];omega
def cutB (l:List Int) (k:Nat):List Int:=l.take k++List.replicate (l.length-k) 0
theorem cutB_len (l:List Int) (k:Nat) (h:k≤l.length):(cutB l k).length=l.length:=by simp [cutB];omega
theorem cutB_01 {l:List Int} (h:Bit01 l) (k:Nat):Bit01 (cutB l k):=b01_app (fun x hx=>h x (List.mem_of_mem_take hx)) (b01_rep _)
theorem cutB_succ (l:List Int) (k:Nat) (h:k<l.length):cutB l (k+1)=(cutB l k).set k (l.getD k 0):=(set_next l k h _ rfl).symm
theorem byB_eq {l:List Int} (h:Bit01 l) (h8:l.length%8=0):∀k,k≤l.length→byB l k=byI (cutB l k) (l.length/8)
 |0,_=>by
  apply List.ext_getElem
  ·rw [byB_len,byI_len]
  ·intro i h1 h2
   have hz:((cutB l 0).drop (8*i)).take 8=List.replicate (min 8 (l.length-8*i)) 0:=by simp [cutB]
   rw [byI_len] at h2
   simp only [byI,List.getElem_map,List.getElem_range,hz]
   have hm:min 8 (l.length-8*i)=8:=by omega
   rw [hm]
   simp [byB,numS]
 |k+1,hk=>by
  have ih:=byB_eq h h8 k (by omega)
  have hlen:=cutB_len l k (by omega)
  have hw:(((cutB l k).drop (8*(k/8))).take 8).length=8:=by rw [List.length_take,List.length_drop];omega
  have hgk:(cutB l k).getD k 0=0:=by
   unfold cutB
   rw [List.getD_eq_getElem?_getD,List.getElem?_append_right (by simp;omega)]
   simp only [List.length_take]
   rw [List.getElem?_replicate]
   split<;>rfl
  have hwj:(((cutB l k).drop (8*(k/8))).take 8).getD (k%8) 0=0:=by
   simp only [List.getD_eq_getElem?_getD,List.getElem?_take,List.getElem?_drop] at hgk ⊢
   rw [if_pos (by omega),show 8*(k/8)+k%8=k by omega,hgk]
  have hb:=numS_256 (b01_mid (cutB_01 h k) (8*(k/8))) (Nat.le_refl 8)
  have hbit:=numS_bit (b01_mid (cutB_01 h k) (8*(k/8))) hw (k%8) (by omega)
  rw [hwj] at hbit
  have hd:(byI (cutB l k) (l.length/8)).getD (k/8) 0=numS (((cutB l k).drop (8*(k/8))).take 8) 8:=by
   have hlt:k/8<l.length/8:=by omega
   simp [byI,List.getD_eq_getElem?_getD,List.getElem?_range hlt]
  rw [byB,ih,hd,orb' hb (by omega) (b01_get h k) hbit,←numS_set hw (k%8) (by omega) _ hwj]
  apply List.ext_getElem
  ·rw [List.length_set,byI_len,byI_len]
  ·intro i h1 h2
   rw [byI_len] at h2
   rw [List.getElem_set]
   have hget:∀x,(byI x (l.length/8))[i]'(by rw [byI_len];exact h2)=numS ((x.drop (8*i)).take 8) 8:=fun x=>by simp [byI]
   rw [hget,hget,cutB_succ l k (by omega)]
   split
   ·rename_i e
    subst e
    congr 1
    apply List.ext_getElem?
    intro q
    simp only [List.getElem?_set,List.getElem?_take,List.getElem?_drop]
    rw [hw]
    by_cases hq:k%8=q
    ·subst hq
     rw [if_pos rfl,if_pos (by omega),if_pos (by omega),if_pos (by omega),if_pos (by omega)]
    ·rw [if_neg hq]
     by_cases hq8:q<8
     ·rw [if_pos hq8,if_pos hq8,if_neg (by omega)]
     ·rw [if_neg hq8,if_neg hq8]
   ·rename_i e
    congr 1
    apply List.ext_getElem?
    intro q
    simp only [List.getElem?_set,List.getElem?_take,List.getElem?_drop]
    by_cases hq:q<8
    ·rw [if_pos hq,if_pos hq,if_neg (by omega)]
    ·rw [if_neg hq,if_neg hq]
theorem strB_eq {l:List Int} (h:Bit01 l) (h8:l.length%8=0):strB l=strS l:=by
 unfold strB strS
 rw [byB_eq h h8 l.length (Nat.le_refl _)]
 simp [cutB]
instance Stopped_c:Con 81 (∀ b:List Int,b.length≤1073741824∧Bit01 b→Fn 81 [IL b] [] (Z (stopS b))):=⟨fun b hl=>by
 have h0:=hl.1
 refine FnC.of_body tabOk Tryz.func81 Tryz.ntmps81 rfl (by decide +kernel) (by simp) fun G=>?_
 refine go (r:=?_);and_intros<;>intros<;>try exact True.intro
 all_goals first|contradiction|omega|skip
 refine WpA.loop (fun j:Nat=>⟨[(3,.own 0 0 0 (b.length+1+j))],[XI (padL b j)]⟩) (fun j=>j≤padN b.length) (fun j=>padN b.length-j) 0 (Nat.zero_le _) ?_ (fun j hj=>?_)
 ·exact Weak.mk (by repeat (first|exact ReT.nil|refine ReT.cons (.keep rfl rfl .nil) ?_|refine ReT.cons (.own rfl rfl rfl rfl rfl rfl .nil) ?_|refine ReT.cons (.ptr rfl rfl rfl rfl .nil) ?_|refine ReT.cons (.keep (congrArg (fun z=>AV.sc (Value.int .i64 z)) (by first|omega|(skip))) rfl .nil) ?_|refine ReT.cons (.keep (congrArg (fun z:List UInt8=>AV.sc (Value.string ⟨z.toArray⟩)) (by skip)) rfl .nil) ?_|refine ReT.cons (.own rfl rfl rfl rfl rfl (by first|omega|(simp;done)|(simp;omega)) .nil) ?_)) (by exact ReO.cons (Re.same (by simp [padL]) (still_ints _)) (.inr rfl) .nil) (Nat.zero_le _)
 have hpl:=padL_len b j
 have hps:=padL_succ b j
 have hcond:j<padN b.length↔(b.length+1+j)%8≠0:=by unfold padN at hj ⊢;omega
 have hp8:padN b.length≤7:=by unfold padN;omega
 by_cases hlt:j<padN b.length
 ·have hc:=hcond.1 hlt
  refine go (r:=?_);and_intros<;>intros<;>try exact True.intro
  all_goals first|contradiction|omega|exact hps.symm
 ·obtain rfl:j=padN b.length:=by omega
  have hc:(b.length+1+padN b.length)%8=0:=Decidable.byContradiction fun h=>hlt (hcond.2 h)
  have hb:=b01_pad hl.2 (padN b.length)
  have hse:=strB_eq hb (by omega)
  unfold stopS
  rw [←hse]
  refine go (r:=?_);and_intros<;>intros<;>try exact True.intro
  all_goals first|contradiction|omega|exact hb|exact hb _ (by assumption)⟩
end Go.Proofs.YtndflfipaddfoaaGreat


namespace Go.Proofs.YtndflfipaddfoaaGreat
open Go Go.Abs
attribute [local irreducible] WpA WpL Rnd Blk Abs.Seq Abs.Fin Abs.FinG FnC FnG Only
instance strBits_c:Con 82 (∀ (w h q:Int) (b d:Bool) (l:List Int) (M:List Mbk),StOk w h q l M∧l.length≤1099511627776∧mw M≤1048576→Fn 82 [StA w h q b d l M] [XI (stK w h q b d l M M.length)] (.own 0 0 0 (stK w h q b d l M M.length).length)):=⟨fun w h q b d l M hM=>by
 obtain ⟨h0,hll,hmw1⟩:=hM
 have hmw:mw M=M.length+(M.map mn).sum:=rfl
 have hsm:SmM 1099511627776 M:=smM_of (by omega)
 have hhl:=hdL_len w h q b d l
 have hz:(hdL w h q b d l).length=(stK w h q b d l M 0).length:=by simp [stK]
 have hz0:hdL w h q b d l=stK w h q b d l M 0:=by simp [stK]
 have hhd:=h0.1
 refine FnC.of_body tabOk Tryz.func82 Tryz.ntmps82 rfl (by decide +kernel) (by simp) fun G=>?_
 refine go (r:=?_);and_intros<;>intros<;>try exact True.intro
 all_goals first|exact hsm|exact hhd|exact h0.1.2.2.1|exact h0.1.2.2.2.1|exact h0.1.2.2.2.2|(exact absurd h0 (by assumption))|skip
 refine WpA.loop (fun i:Nat=>⟨[(1,.ptr 0 0 0),(3,.own 1 0 0 (stK w h q b d l M i).length),(10,MbL M),(11,I M.length),(12,I i)],[⟨StC w h q b d l M,0,0,none⟩,XI (stK w h q b d l M i)]⟩) (fun i=>i≤M.length) (fun i=>M.length-i) 0 (by omega) (go (r:=?_)) (fun i hi=>?_)
 ·and_intros<;>first|exact True.intro|exact hz|exact hz0|exact hz.symm
 have hb:=stK_len w h q b d l M i
 have hsc:=fun hk=>stK_succ w h q b d l M i hk
 have hbl:=mbbL_len (M.getD i default).1 (M.getD i default).2 l
 have hsl:i<M.length→(stK w h q b d l M (i+1)).length=(stK w h q b d l M i).length+(mbbL (M.getD i default).1 (M.getD i default).2 l).length:=fun hk=>by rw [hsc hk,List.length_append];rfl
 by_cases hi2:i<M.length
 ·obtain ⟨hg1,hg2⟩:=smM_get hsm hi2
  have hmk:=ok_blk h0 hi2
  have hsl:=hsl hi2
  refine go (r:=?_);and_intros<;>intros<;>try exact True.intro
  all_goals first|contradiction|omega|exact hg2|exact hmk|exact hmk.2|(rw [hsc hi2];rfl)
 ·have ek:i=M.length:=by omega
  subst ek
  refine go (r:=?_);and_intros<;>intros<;>try exact True.intro
  all_goals first|contradiction|omega⟩
instance Unparse_c:Con 28 (∀ (w h q:Int) (b d:Bool) (l:List Int) (M:List Mbk),l.length≤1099511627776∧mw M≤1048576→Fn 28 [StA w h q b d l M] [] (Z (unpS w h q b d l M))):=⟨fun w h q b d l M hM=>by
 have hmw:mw M=M.length+(M.map mn).sum:=rfl
 have hsm:SmM 1099511627776 M:=smM_of (by omega)
 by_cases h0:StOk w h q l M
 ·have hd:=decide_eq_true h0
  have hres:unpS w h q b d l M=stopS (stK w h q b d l M M.length):=by rw [unpS,if_pos h0]
  have hst:=stK_small (b:=b) (d:=d) h0
  have h01:=b01_st w h q b d l M M.length
  rw [hres]
  refine FnC.of_body tabOk Tryz.func28 Tryz.ntmps28 rfl (by decide +kernel) (by simp) fun G=>?_
  refine go (r:=?_);and_intros<;>intros<;>try exact True.intro
  all_goals first|contradiction|omega|exact hsm|exact h01|exact h01 _ (by assumption)|exact h0.2.2|exact h0.1.2.2.1|exact h0.1.2.2.2.1|exact h0.1.2.2.2.2|exact h0
 ·have hd:=decide_eq_false h0
  have hres:unpS w h q b d l M=[]:=by rw [unpS,if_neg h0]
  rw [hres]
  refine FnC.of_body tabOk Tryz.func28 Tryz.ntmps28 rfl (by decide +kernel) (by simp) fun G=>?_
  refine go (r:=?_);and_intros<;>intros<;>try exact True.intro
  all_goals first|contradiction|omega|exact hsm⟩
end Go.Proofs.YtndflfipaddfoaaGreat


namespace Go.Proofs.YtndflfipaddfoaaGreat
open Go Go.Abs
theorem one_bit {p:List UInt8} {s x:Int} (hx:x=0∨x=1) (h:Holds p s [x]):RbOk p s 1∧rbA p s 1=s+1∧rbV p s 1=x:=by
 rcases hx with rfl|rfl
 ·exact holds_bits (n:=0) (w:=1) (by decide) (by decide) h
 ·exact holds_bits (n:=1) (w:=1) (by decide) (by decide) h
theorem nn_len {l:List Int} {n:Int} (hn:(l.length:Int)=n*n):(n*n).toNat=l.length:=by omega
theorem holds_lv0 {p:List UInt8} {s n:Int} {l:List Int} (hl:LvOk l) (hn:(l.length:Int)=n*n) (h0:(prsL l).length=0) (h:Holds p s [0]):(lvS p s n).a=s+1∧(lvS p s n).c=0∧(lvS p s n).out=l:=by
 have h1:=one_bit (.inl rfl) h
 rw [lv_2 h1.1 h1.2.2,nn_len hn]
 refine ⟨h1.2.1,rfl,?_⟩
 have e:(pk l l.length).1=[]:=by
  unfold prsL at h0;rw [if_pos hl] at h0;exact List.length_eq_zero_iff.1 h0
 have hh:Holds [] 0 ((pk l l.length).1.flatMap prB):=by rw [e];exact ⟨by decide,by decide,fun k hk=>by cases hk⟩
 have hr:=holds_run hl l.length (Nat.le_refl _) hh
 rw [e] at hr
 have:=congrArg LvS.out hr
 simpa [lvRun] using this
theorem holds_lv1 {p:List UInt8} {s n:Int} {l:List Int} (hl:LvOk l) (hn:(l.length:Int)=n*n) (h0:(prsL l).length≠0) (h:Holds p s ([1]++ueL ((prsL l).length-1)++(prsL l).flatMap prB)):(lvS p s n).a=s+([1]++ueL ((prsL l).length-1)++(prsL l).flatMap prB).length∧(lvS p s n).c=0∧(lvS p s n).out=l:=by
 have e:prsL l=(pk l l.length).1:=by unfold prsL;rw [if_pos hl]
 have hb:=(pk_bd l l.length).1
 rw [←e] at hb
 have h64:l.length≤64:=by have:=hl.2;omega
 have h1:=one_bit (.inr rfl) (holds_left (holds_left h))
 have h2:=holds_ue (n:=((prsL l).length:Int)-1) (by omega) (holds_right (holds_left h))
 rw [show s+(([1]:List Int).length:Int)=rbA p s 1 by rw [h1.2.1];rfl] at h2
 have h3:=holds_right h
 rw [lv_5 h1.1 (by rw [h1.2.2];decide) h2.1 (by rw [h2.2.2];omega),h2.2.2,nn_len hn,←hn,show (1+(((prsL l).length:Int)-1)).toNat=(prsL l).length by omega]
 rw [List.length_append,show s+((([1]:List Int).length+(ueL ((prsL l).length-1)).length:Nat):Int)=ueA p (rbA p s 1) by rw [h2.2.1,h1.2.1,Int.natCast_add];simp only [List.length_singleton];omega] at h3
 rw [e] at h3 ⊢
 rw [holds_run hl l.length (Nat.le_refl _) h3]
 refine ⟨?_,rfl,by simp⟩
 simp only [List.length_append,List.length_singleton]
 rw [←e,h2.2.1,h1.2.1]
 omega
theorem holds_blk {p:List UInt8} {s m n:Int} {lv lens:List Int} (hk:BlkOk m lv lens n) (h:Holds p s (bkL m lv lens n)):blS p s lens n=⟨s+(bkL m lv lens n).length,0,m,lv⟩:=by
 have hk2:=hk
 obtain ⟨hn,hc,hl,hv⟩:=hk
 unfold bkL at h ⊢
 rw [if_pos hk2] at h ⊢
 split at h
 ·rename_i h0
  rw [if_pos h0]
  have h1:=holds_sym hc (holds_left h)
  have h2:=holds_right h
  rw [←h1.2.1] at h2
  have h3:=holds_lv0 (n:=n) hv hl h0 h2
  rw [blS_1 hn h1.1 h3.2.1,h3.1,h3.2.2,h1.2.2,h1.2.1,List.length_append,List.length_singleton]
  congr 1
  omega
 ·rename_i h0
  rw [if_neg h0]
  have e:bkK m lv lens (prsL lv).length=symL lens m++([1]++ueL ((prsL lv).length-1)++(prsL lv).flatMap prB):=by
   unfold bkK;rw [List.take_length];simp only [List.append_assoc]
  rw [e] at h ⊢
  have h1:=holds_sym hc (holds_left h)
  have h2:=holds_right h
  rw [←h1.2.1] at h2
  have h3:=holds_lv1 (n:=n) hv hl h0 h2
  rw [blS_1 hn h1.1 h3.2.1,h3.1,h3.2.2,h1.2.2,h1.2.1]
  simp only [List.length_append]
  congr 1
  omega
theorem holds_take {α:Type} [Inhabited α] {p:List UInt8} {s:Int} (f:α→List Int) (l:List α) {k:Nat} (hk:k<l.length) (h:Holds p s ((l.take (k+1)).flatMap f)):Holds p s ((l.take k).flatMap f)∧Holds p (s+((l.take k).flatMap f).length) (f (l.getD k default)):=by
 rw [fm_snoc f l k hk] at h
 exact ⟨holds_left h,holds_right h⟩
theorem take_d {α:Type} [Inhabited α] (l:List α) {k:Nat} (hk:k<l.length):l.take (k+1)=l.take k++[l.getD k default]:=by
 rw [List.take_succ_eq_append_getElem hk];simp [hk]
theorem holds_mbr {p:List UInt8} {s:Int} {lens:List Int} {e:Bool} {bs:List Blok} (hm:MbkOk e bs lens):∀k,k≤bs.length→Holds p s ((bs.take k).flatMap fun b=>bkL b.1 b.2 lens (sz8 e))→
 mbRun p s lens (sz8 e) k=⟨s+((bs.take k).flatMap fun b=>bkL b.1 b.2 lens (sz8 e)).length,0,bs.take k⟩
 |0,_,_=>by simp [mbRun]
 |k+1,hk,h=>by
  have ht:=holds_take _ bs (by omega) h
  have ih:=holds_mbr hm k (by omega) ht.1
  have hb:=holds_blk (ok_lv hm (k:=k) (by omega)) ht.2
  have e1:=congrArg MbS.a ih
  simp only at e1
  rw [mbRun_next (by rw [ih]) (by rw [e1,hb]),e1,hb,ih]
  simp only
  rw [fm_snoc _ bs k (by omega),take_d bs (by omega),List.length_append]
  congr 1
  omega
theorem holds_mb {p:List UInt8} {s:Int} {lens:List Int} {e:Bool} {bs:List Blok} (hm:MbkOk e bs lens) (h:Holds p s (mbbL e bs lens)):mbS p s lens=(⟨s+(mbbL e bs lens).length,0,bs⟩,e):=by
 unfold mbbL at h ⊢
 rw [if_pos hm] at h ⊢
 unfold mbK at h ⊢
 have h1:=one_bit (by cases e<;>simp) (holds_left h)
 have h2:=holds_right h
 rw [mbS_yes (E:=e) h1.1 (by rw [h1.2.2];cases e<;>rfl)]
 have hl:(nm8 e).toNat=bs.length:=by have:=hm.1;omega
 rw [hl,show s+1=s+(([bif e then (1:Int) else 0]:List Int).length:Int) by simp,holds_mbr hm bs.length (Nat.le_refl _) h2]
 simp only [List.take_length,List.length_append,List.length_singleton,decide_true,cond_true]
 congr 2
 omega
theorem holds_mbs {p:List UInt8} {s w h q:Int} {l:List Int} {M:List Mbk} (hs:StOk w h q l M):∀k,k≤M.length→Holds p s ((M.take k).flatMap (mbF l))→
 stRun p s l k=⟨s+((M.take k).flatMap (mbF l)).length,0,M.take k⟩
 |0,_,_=>by simp [stRun]
 |k+1,hk,hh=>by
  have ht:=holds_take _ M (by omega) hh
  have ih:=holds_mbs hs k (by omega) ht.1
  have hb:=holds_mb (ok_blk hs (i:=k) (by omega)) ht.2
  rw [stRun,ih]
  simp only [if_true]
  rw [hb]
  simp only [if_true]
  rw [fm_snoc _ M k (by omega),take_d M (by omega),List.length_append]
  have:(mbF l (M.getD k default)).length=(mbbL (M.getD k default).1 (M.getD k default).2 l).length:=rfl
  congr 1
  omega
def lnum (l:List Int):Int:=((((l.getD 0 0*8+l.getD 1 0)*8+l.getD 2 0)*8+l.getD 3 0)*8+l.getD 4 0)*8+l.getD 5 0
theorem six_of {l:List Int} (h:CodeOk l):∃a b c d e f,l=[a,b,c,d,e,f]∧(0≤a∧a≤7)∧(0≤b∧b≤7)∧(0≤c∧c≤7)∧(0≤d∧d≤7)∧(0≤e∧e≤7)∧(0≤f∧f≤7):=by
 have h0:=code_in h (m:=0) (by decide)
 have h1:=code_in h (m:=1) (by decide)
 have h2:=code_in h (m:=2) (by decide)
 have h3:=code_in h (m:=3) (by decide)
 have h4:=code_in h (m:=4) (by decide)
 have h5:=code_in h (m:=5) (by decide)
 match l,h.2.1 with
 |[a,b,c,d,e,f],_=>exact ⟨a,b,c,d,e,f,rfl,h0,h1,h2,h3,h4,h5⟩
theorem bits3 {n:Int} (h:0≤n∧n≤7):bitsL n 3=[n/4%2,n/2%2,n/1%2]:=by
 have hb:bitOk n 3:=⟨by decide,h.1,by show n/8=0;omega⟩
 unfold bitsL
 rw [if_pos hb]
 rfl
theorem bits18 {n:Int} (h:0≤n∧n≤262143):bitsL n 18=[n/131072%2,n/65536%2,n/32768%2,n/16384%2,n/8192%2,n/4096%2,n/2048%2,n/1024%2,n/512%2,n/256%2,n/128%2,n/64%2,n/32%2,n/16%2,n/8%2,n/4%2,n/2%2,n/1%2]:=by
 have hb:bitOk n 18:=⟨by decide,h.1,by show n/262144=0;omega⟩
 unfold bitsL
 rw [if_pos hb]
 rfl
theorem lens_bits {l:List Int} (h:CodeOk l):(0≤lnum l∧lnum l≤262143)∧l.flatMap (fun n=>bitsL n 3)=bitsL (lnum l) 18∧lensV (lnum l)=l:=by
 obtain ⟨a,b,c,d,e,f,rfl,ha,hb,hc,hd,he,hf⟩:=six_of h
 have en:lnum [a,b,c,d,e,f]=((((a*8+b)*8+c)*8+d)*8+e)*8+f:=rfl
 rw [en]
 refine ⟨by omega,?_,?_⟩
 ·rw [bits18 (by omega)]
  simp only [List.flatMap_cons,List.flatMap_nil,bits3 ha,bits3 hb,bits3 hc,bits3 hd,bits3 he,bits3 hf,List.cons_append,List.nil_append]
  simp only [List.cons.injEq,and_true]
  and_intros<;>omega
 ·show [_/(32768:Int)%8,_/(4096:Int)%8,_/(512:Int)%8,_/(64:Int)%8,_/(8:Int)%8,_/(1:Int)%8]=_
  simp only [List.cons.injEq,and_true]
  and_intros<;>omega
theorem two_bits (b d:Bool):[bif b then (1:Int) else 0,bif d then 1 else 0]=bitsL (2*(bif b then 1 else 0)+(bif d then 1 else 0)) 2∧bitOk (2*(bif b then 1 else 0)+(bif d then 1 else 0)) 2:=by cases b<;>cases d<;>decide
theorem hdL_parts {w h q:Int} {b d:Bool} {l:List Int} (hh:HdOk w h q l):hdL w h q b d l=bitsL 183 8++(ueL (w/8-1)++(ueL (h/8-1)++(bitsL q 6++(bitsL (2*(bif b then 1 else 0)+(bif d then 1 else 0)) 2++bitsL (lnum l) 18)))):=by
 unfold hdL
 rw [if_pos hh]
 unfold hdK hdB
 rw [List.take_length,(lens_bits hh.2.2).2.1,(two_bits b d).1]
 simp only [List.append_assoc]
theorem holds_hd {p:List UInt8} {s w h q:Int} {b d:Bool} {l:List Int} (hh:HdOk w h q l) (hp:Holds p s (hdL w h q b d l)):(hdS p s).a=s+(hdL w h q b d l).length∧(hdS p s).c=0∧(hdS p s).W=w∧(hdS p s).H=h∧(hdS p s).Q=q∧(hdS p s).B=b∧(hdS p s).D=d∧(hdS p s).L=l:=by
 have hw:=hd_ws hh.1
 have hs:=hh.1
 have hq:=hh.2.1
 have hlb:=lens_bits hh.2.2
 have hc:=hh.2.2
 have b6:bitOk q 6:=⟨by decide,hq.1,by show q/64=0;omega⟩
 have b18:bitOk (lnum l) 18:=⟨by decide,hlb.1.1,by show lnum l/262144=0;omega⟩
 rw [hdL_parts hh] at hp ⊢
 have h1:=holds_bits (by decide) (by decide) (holds_left hp)
 have p1:=holds_right hp
 rw [bits_len (by decide),←h1.2.1] at p1
 have h2:=holds_ue hw.1 (holds_left p1)
 have p2:=holds_right p1
 rw [←h2.2.1] at p2
 have h3:=holds_ue hw.2 (holds_left p2)
 have p3:=holds_right p2
 rw [←h3.2.1] at p3
 have h4:=holds_bits b6 (by decide) (holds_left p3)
 have p4:=holds_right p3
 rw [bits_len b6,←h4.2.1] at p4
 have h5:=holds_bits (two_bits b d).2 (by decide) (holds_left p4)
 have p5:=holds_right p4
 rw [bits_len (two_bits b d).2,←h5.2.1] at p5
 have h6:=holds_bits b18 (by decide) p5
 have f1:=fb_yes (k:=hk1) h1.1 (ifE_yes h1.2.2)
 have f2:=fu_yes (k:=hk2) h2.1 (ifE_yes (by rw [h2.2.2];omega))
 have f3:=fu_yes (k:=hk2) h3.1 (ifE_yes (by rw [h3.2.2];omega))
 have f4:=fb_yes (k:=hk3) h4.1 (ifE_yes (by rw [h4.2.2];omega))
 have f5:=fb_yes (k:=hk4) h5.1 rfl
 have f6:=fb_yes (k:=hk5) h6.1 (ifE_yes (by rw [h6.2.2,hlb.2.2];exact hc))
 have e:hdS p s=⟨rbA p (rbA p (rbA p (ueA p (ueA p (rbA p s 8))) 6) 2) 18,0,w/8-1,h/8-1,q,2*(bif b then 1 else 0)+(bif d then 1 else 0),lnum l⟩:=by
  unfold hdS
  simp only
  rw [f1.1,f1.2.1,f2.1,f2.2.1,f3.1,f3.2.1,f4.1,f4.2.1,f5.1,f5.2.1,f6.1,f6.2.1,f2.2.2,f3.2.2,f4.2.2,f5.2.2,f6.2.2,h2.2.2,h3.2.2,h4.2.2,h5.2.2,h6.2.2]
 rw [e]
 refine ⟨?_,rfl,?_,?_,?_,?_,?_,?_⟩
 ·simp only [List.length_append]
  have l1:=bits_len (n:=183) (w:=8) (by decide)
  have l2:=bits_len b6
  have l3:=bits_len (two_bits b d).2
  have l4:=bits_len b18
  omega
 ·show (if (0:Int)=0 then 8*(w/8-1+1) else 0)=w
  rw [if_pos rfl];omega
 ·show (if (0:Int)=0 then 8*(h/8-1+1) else 0)=h
  rw [if_pos rfl];omega
 ·rfl
 ·cases b<;>cases d<;>rfl
 ·cases b<;>cases d<;>rfl
 ·show (if (0:Int)=0 then lensV (lnum l) else [])=l
  rw [if_pos rfl,hlb.2.2]
theorem pad_end {b:List Int} (h:Bit01 b):endC (stopS b) b.length=0:=by
 have hh:=stop_holds h
 have hl:=padL_len b (padN b.length)
 have hm:=pad_mult b.length
 have hs:(stopS b).length=(padL b (padN b.length)).length/8:=strS_len _
 have h7:padN b.length≤7:=by unfold padN;omega
 have e:padL b (padN b.length)=b++([1]++List.replicate (padN b.length) 0):=by unfold padL;rw [List.append_assoc]
 have hr:=holds_right (e▸hh)
 rw [Int.zero_add] at hr
 have h1:=holds_left hr
 have h2:Holds (stopS b) ((b.length:Int)+1) (List.replicate (padN b.length) 0):=holds_right hr
 have hlf:=lft_ok (holds_rd h1)
 have hlf2:=lft_ok (holds_rd h2)
 unfold endC
 rw [if_neg (by omega),if_pos]
 refine ⟨by omega,(end_iff (holds_rd h1) (by omega)).2 ⟨?_,?_⟩⟩
 ·have:=h1.2.2 0 (by decide)
  simpa using this
 ·rw [zrs_eq (k:=padN b.length) (by omega) (fun j hj=>?_) (.inl (by omega))]
  ·omega
  ·have:=h2.2.2 j (by simpa using hj)
   rw [this]
   simp [List.getD_eq_getElem?_getD,List.getElem?_replicate,hj]
theorem parse_unp {w h q:Int} {b d:Bool} {l:List Int} {M:List Mbk} (hs:StOk w h q l M):prS (unpS w h q b d l M)=⟨w,h,q,b,d,l,M,(stK w h q b d l M M.length).length,0⟩:=by
 unfold unpS
 rw [if_pos hs]
 have hb:=b01_st w h q b d l M M.length
 have hh:=stop_holds hb
 unfold padL at hh
 have h0:=holds_left (holds_left hh)
 have he:=pad_end hb
 generalize hk:stK w h q b d l M M.length=x at*
 generalize hp:stopS x=p at*
 have e:x=hdL w h q b d l++M.flatMap (mbF l):=by rw [←hk];unfold stK;rw [List.take_length]
 rw [e] at h0
 have h1:=holds_hd hs.1 (holds_left h0)
 have h2:=holds_right h0
 have h3:=holds_mbs hs M.length (Nat.le_refl _) (by rw [List.take_length];exact h2)
 rw [List.take_length] at h3
 unfold prS
 simp only
 rw [if_pos h1.2.1,h1.1,h1.2.2.1,h1.2.2.2.1,h1.2.2.2.2.1,h1.2.2.2.2.2.1,h1.2.2.2.2.2.2.1,h1.2.2.2.2.2.2.2,show (cntM w h).toNat=M.length by have:=hs.2.1;omega,h3]
 simp only [if_true]
 have e2:(0:Int)+(hdL w h q b d l).length+(M.flatMap (mbF l)).length=x.length:=by rw [e,List.length_append];omega
 rw [e2,if_pos he]
end Go.Proofs.YtndflfipaddfoaaGreat


namespace Go.Proofs.YtndflfipaddfoaaGreat
open Go Go.Abs
attribute [local irreducible] WpA WpL Rnd Blk Abs.Seq Abs.Fin Abs.FinG FnC FnG FnX FinX Only
abbrev CurO (v:Value) (c:Int×Int):AObj:=⟨[.sc v,I c.1,I c.2],0,0,none⟩
abbrev CurOk (l:List Int) (c:Int×Int):Prop:=0≤c.1∧c.1≤l.length
abbrev CodA (l:List Int):AV:=.imm 1 l.length (u8s l)
theorem and255 (y:Int):0≤IntKind.i64.wrap ((BitVec.ofInt IntKind.i64.bits y &&& BitVec.ofInt IntKind.i64.bits 255).toNat:Nat)∧IntKind.i64.wrap ((BitVec.ofInt IntKind.i64.bits y &&& BitVec.ofInt IntKind.i64.bits 255).toNat:Nat)≤255:=by
 have h:(BitVec.ofInt IntKind.i64.bits y &&& BitVec.ofInt IntKind.i64.bits 255).toNat≤255:=by
  rw [BitVec.toNat_and]
  exact Nat.le_trans Nat.and_le_right (by decide)
 rw [IntWalk.i64_in _ (by omega)]
 omega
section
attribute [local irreducible] IntKind.wrap
end
end Go.Proofs.YtndflfipaddfoaaGreat


namespace Go.Proofs.YtndflfipaddfoaaGreat
open Go Go.Abs
attribute [local irreducible] WpA WpL Rnd Blk Abs.Seq Abs.Fin Abs.FinG FnC FnG FnX FnP FinX Only
abbrev Cr:=Int×Int
abbrev Pn (f:Nat) (v:Value) (l:List Int) (c:Cr) (args:List AV) (c':Cr) (N:List AObj) (r:AV):Prop:=FnP Tryz.prog f (.ptr 0 0 0::args) [CurO v c] [v] [CodA l] [CurO v c'] N r
abbrev CrOk (l:List Int) (c:Cr):Prop:=l.length≤1048576∧CurOk l c
def hD (h:Int):Int:=IntKind.i64.wrap (IntKind.i64.wrap (h*6364136223846793005)+1442695040888963407)
def mixD (y:Int):Int:=IntKind.i64.wrap ((BitVec.ofInt IntKind.i64.bits (IntKind.i64.wrap ((BitVec.ofInt IntKind.i64.bits (y/2 ^ Int.toNat 33) ^^^ BitVec.ofInt IntKind.i64.bits (y/2 ^ Int.toNat 45)).toNat:Nat)) &&& BitVec.ofInt IntKind.i64.bits 255).toNat:Nat)
def byD (l:List Int) (c:Cr):Cr×Int:=
 if c.1<l.length then ((c.1+1,hD c.2),IntKind.i64.wrap ((BitVec.ofInt IntKind.i64.bits (IntKind.i64.wrap (mixD (hD c.2)+IntKind.i64.wrap (l.getD c.1.toNat 0))) &&& BitVec.ofInt IntKind.i64.bits 255).toNat:Nat))
 else ((c.1,hD c.2),mixD (hD c.2))
theorem byD_ok {l:List Int} {c:Cr} (h:CrOk l c):CrOk l (byD l c).1∧0≤(byD l c).2∧(byD l c).2≤255:=by
 have h1:=h.2.1
 have h2:=h.2.2
 unfold byD;split
 ·exact ⟨⟨h.1,by show 0≤c.1+1;omega,by show c.1+1≤_;omega⟩,and255 _⟩
 ·exact ⟨⟨h.1,h1,h2⟩,and255 _⟩
section
attribute [local irreducible] IntKind.wrap
instance l1Byte_p:ConP 186 (∀ (v:Value) (l:List Int) (c:Cr),CrOk l c→Pn 186 v l c [] (byD l c).1 [] (I (byD l c).2)):=⟨fun v l c h=>by
 have hl:=h.1
 have hc1:=h.2.1
 have hc2:=h.2.2
 by_cases hlt:c.1<l.length
 ·rw [byD,if_pos hlt]
  refine FnP.of_body tabOk Tryz.func186 Tryz.ntmps186 rfl (by decide +kernel) (by simp) rfl rfl rfl fun G hp=>?_
  refine go (r:=?_);and_intros<;>intros<;>try exact True.intro
  refine WpL.pin (d:=32) hp rfl ?_
  refine go (r:=?_);and_intros<;>intros<;>try exact True.intro
  all_goals first|contradiction|omega|skip
  refine WpL.pin (d:=39) hp rfl ?_
  refine go (r:=?_);and_intros<;>intros<;>try exact True.intro
 ·rw [byD,if_neg hlt]
  refine FnP.of_body tabOk Tryz.func186 Tryz.ntmps186 rfl (by decide +kernel) (by simp) rfl rfl rfl fun G hp=>?_
  refine go (r:=?_);and_intros<;>intros<;>try exact True.intro
  refine WpL.pin (d:=32) hp rfl ?_
  refine go (r:=?_);and_intros<;>intros<;>try exact True.intro
  all_goals first|contradiction|omega|skip⟩
end
def belowD (l:List Int) (c:Cr) (n:Int):Cr×Int:=
 if n≤0 then (c,0) else if n≤256 then ((byD l c).1,(byD l c).2%n) else
  ((byD l (byD l (byD l (byD l c).1).1).1).1,((byD l c).2*16777216+(byD l (byD l c).1).2*65536+(byD l (byD l (byD l c).1).1).2*256+(byD l (byD l (byD l (byD l c).1).1).1).2)%n)
theorem belowD_ok {l:List Int} {c:Cr} (n:Int) (h:CrOk l c):CrOk l (belowD l c n).1∧0≤(belowD l c n).2∧(0<n→(belowD l c n).2<n)∧(n≤0→(belowD l c n).2=0):=by
 have h1:=byD_ok h
 have h2:=byD_ok h1.1
 have h3:=byD_ok h2.1
 have h4:=byD_ok h3.1
 unfold belowD
 split
 ·exact ⟨h,Int.le_refl 0,fun h=>by omega,fun _=>rfl⟩
 ·split
  ·exact ⟨h1.1,Int.emod_nonneg _ (by omega),fun h=>Int.emod_lt_of_pos _ h,fun h=>by omega⟩
  ·exact ⟨h4.1,Int.emod_nonneg _ (by omega),fun h=>Int.emod_lt_of_pos _ h,fun h=>by omega⟩
instance l1Below_p:ConP 93 (∀ (v:Value) (l:List Int) (c:Cr) (n:Int),CrOk l c→Pn 93 v l c [I n] (belowD l c n).1 [] (I (belowD l c n).2)):=⟨fun v l c n h=>by
 have h1:=byD_ok h
 have h2:=byD_ok h1.1
 have h3:=byD_ok h2.1
 have h4:=byD_ok h3.1
 unfold belowD
 by_cases h0:n≤0
 ·rw [if_pos h0]
  refine FnP.of_body tabOk Tryz.func93 Tryz.ntmps93 rfl (by decide +kernel) (by simp) rfl rfl rfl fun G hp=>?_
  refine go (r:=?_);and_intros<;>intros<;>try exact True.intro
  all_goals trace_state
 ·rw [if_neg h0]
  by_cases h256:n≤256
  ·rw [if_pos h256]
   refine FnP.of_body tabOk Tryz.func93 Tryz.ntmps93 rfl (by decide +kernel) (by simp) rfl rfl rfl fun G hp=>?_
   refine go (r:=?_);and_intros<;>intros<;>try exact True.intro
   all_goals trace_state
  ·rw [if_neg h256]
   refine FnP.of_body tabOk Tryz.func93 Tryz.ntmps93 rfl (by decide +kernel) (by simp) rfl rfl rfl fun G hp=>?_
   refine go (r:=?_);and_intros<;>intros<;>try exact True.intro
   all_goals trace_state⟩
end Go.Proofs.YtndflfipaddfoaaGreat


namespace Go.Proofs.YtndflfipaddfoaaGreat
open Go Go.Abs
attribute [local irreducible] WpA WpL Rnd Blk Abs.Seq Abs.Fin Abs.FinG FnC FnG FnX FnP FinX Only
def onceD (l:List Int) (c:Cr) (n:Int):Cr×Bool:=((belowD l c n).1,decide ((belowD l c n).2=0))
theorem onceD_ok {l:List Int} {c:Cr} (n:Int) (h:CrOk l c):CrOk l (onceD l c n).1:=(belowD_ok n h).1
def pickD (l:List Int) (c:Cr) (xs:List Int):Cr×Int:=((belowD l c xs.length).1,xs.getD (belowD l c xs.length).2.toNat 0)
theorem pickD_ok {l:List Int} {c:Cr} {xs:List Int} (h:CrOk l c) (hx:0<xs.length):CrOk l (pickD l c xs).1∧(pickD l c xs).2∈xs:=by
 have hb:=belowD_ok (xs.length:Int) h
 refine ⟨hb.1,?_⟩
 have h1:=hb.2.2.1 (by omega)
 have h2:=hb.2.1
 have:(belowD l c xs.length).2.toNat<xs.length:=by omega
 simp [pickD,this]
attribute [local irreducible] belowD
instance l1Once_p:ConP 110 (∀ (v:Value) (l:List Int) (c:Cr) (n:Int),CrOk l c→Pn 110 v l c [I n] (onceD l c n).1 [] (B (onceD l c n).2)):=⟨fun v l c n h=>by
 unfold onceD
 refine FnP.of_body tabOk Tryz.func110 Tryz.ntmps110 rfl (by decide +kernel) (by simp) rfl rfl rfl fun G hp=>?_
 refine go (r:=?_);and_intros<;>intros<;>try exact True.intro⟩
instance l1PickInt_p:ConP 127 (∀ (v:Value) (l:List Int) (c:Cr) (xs:List Int),CrOk l c∧0<xs.length∧xs.length≤1048576→Pn 127 v l c [IL xs] (pickD l c xs).1 [] (I (pickD l c xs).2)):=⟨fun v l c xs h=>by
 have hc:=h.1
 have hb:=belowD_ok (xs.length:Int) hc
 have h1:=hb.2.1
 have h2:=hb.2.2.1 (by omega)
 unfold pickD
 refine FnP.of_body tabOk Tryz.func127 Tryz.ntmps127 rfl (by decide +kernel) (by simp) rfl rfl rfl fun G hp=>?_
 refine go (r:=?_);and_intros<;>intros<;>try exact True.intro
 all_goals trace_state⟩
attribute [local irreducible] onceD pickD
abbrev mode14:List Int:=[0,1,2,3,4,5,0,1,2,3,4,5,-1,6]
def modeD (l:List Int) (c:Cr):Cr×Int:=pickD l c mode14
def lens7:List (List Int):=[[1,2,3,4,5,5],[3,3,3,3,2,2],[2,2,2,3,4,4],[1,1,0,0,0,0],[0,2,2,2,2,0],[5,5,4,3,2,1],[4,4,4,4,2,1]]
def l8D (l:List Int) (c:Cr):Cr×List Int:=
 let y:=belowD l c 7
 let b:=lens7.getD y.2.toNat []
 let o:=onceD l y.1 2
 if o.2=true then
  let i:=belowD l o.1 6
  let k:=belowD l i.1 6
  (k.1,(b.set i.2.toNat (b.getD k.2.toNat 0)).set k.2.toNat (b.getD i.2.toNat 0))
 else (o.1,b)
theorem lens7_6:∀k,k<7→(lens7.getD k []).length=6:=by decide
theorem l8D_yes {l:List Int} {c:Cr} (h:(onceD l (belowD l c 7).1 2).2=true):l8D l c=((belowD l (belowD l (onceD l (belowD l c 7).1 2).1 6).1 6).1,((lens7.getD (belowD l c 7).2.toNat []).set (belowD l (onceD l (belowD l c 7).1 2).1 6).2.toNat ((lens7.getD (belowD l c 7).2.toNat []).getD (belowD l (belowD l (onceD l (belowD l c 7).1 2).1 6).1 6).2.toNat 0)).set (belowD l (belowD l (onceD l (belowD l c 7).1 2).1 6).1 6).2.toNat ((lens7.getD (belowD l c 7).2.toNat []).getD (belowD l (onceD l (belowD l c 7).1 2).1 6).2.toNat 0)):=by
 unfold l8D;simp only;rw [if_pos h]
theorem l8D_no {l:List Int} {c:Cr} (h:¬(onceD l (belowD l c 7).1 2).2=true):l8D l c=((onceD l (belowD l c 7).1 2).1,lens7.getD (belowD l c 7).2.toNat []):=by
 unfold l8D;simp only;rw [if_neg h]
theorem l8D_ok {l:List Int} {c:Cr} (h:CrOk l c):CrOk l (l8D l c).1∧(l8D l c).2.length=6:=by
 have hb:=belowD_ok 7 h
 have ho:=onceD_ok 2 hb.1
 have h6:=lens7_6 (belowD l c 7).2.toNat (by have:=hb.2.1;have:=hb.2.2.1 (by decide);omega)
 by_cases hc:(onceD l (belowD l c 7).1 2).2=true
 ·rw [l8D_yes hc]
  exact ⟨(belowD_ok 6 (belowD_ok 6 ho).1).1,by simp only [List.length_set];exact h6⟩
 ·rw [l8D_no hc];exact ⟨ho,h6⟩
instance l8Lens_p:ConP 107 (∀ (v:Value) (l:List Int) (c:Cr),CrOk l c→Pn 107 v l c [] (l8D l c).1 [XI (l8D l c).2] (.own 1 0 0 (l8D l c).2.length)):=⟨fun v l c h=>by
 have hb:=belowD_ok 7 h
 have h70:=hb.2.1
 have h71:=hb.2.2.1 (by decide)
 have hlt:(belowD l c 7).2.toNat<lens7.length:=by show _<7;omega
 have h6:=lens7_6 (belowD l c 7).2.toNat (by omega)
 have h6':(lens7.getD (belowD l c 7).2.toNat default).length=6:=h6
 have ho:=onceD_ok 2 hb.1
 have hi:=belowD_ok 6 ho
 have hk:=belowD_ok 6 hi.1
 have hi1:=hi.2.2.1 (by decide)
 have hk1:=hk.2.2.1 (by decide)
 by_cases hc:(onceD l (belowD l c 7).1 2).2=true
 ·rw [l8D_yes hc]
  refine FnP.of_body tabOk Tryz.func107 Tryz.ntmps107 rfl (by decide +kernel) (by simp) rfl rfl rfl fun G hp=>?_
  refine go (r:=?_);and_intros<;>intros<;>try exact True.intro
  refine K.ld ?_
  refine WpL.loadOwnLi (M:=lens7) tabOk rfl rfl rfl rfl hlt (by decide) rfl ?_
  refine WpL.appInts tabOk rfl rfl rfl (Nat.le_refl 1) rfl rfl rfl rfl (by omega) (by decide) ?_
  rw [List.nil_append]
  refine WpL.weak (σ':=⟨[(0,.ptr 0 0 0),(20,.own 1 0 0 6)],[CurO v (belowD l c 7).1,XI (lens7.getD (belowD l c 7).2.toNat [])]⟩) (Weak.mk (.cons (.ptr rfl rfl rfl rfl .nil) (.cons (.own rfl rfl rfl rfl rfl (by omega) .nil) .nil)) (.cons (Re.same rfl rfl) (.inr rfl) (.cons (Re.same rfl (still_ints _)) (.inr rfl) .nil)) (Nat.le_of_ble_eq_true rfl)) ?_
  generalize lens7.getD (belowD l c 7).2.toNat []=b at h6 ⊢
  refine go (r:=?_);and_intros<;>intros<;>try exact True.intro
  all_goals first|(rename_i hg;rw [hc] at hg;cases hg;done)
 ·rw [l8D_no hc]
  refine FnP.of_body tabOk Tryz.func107 Tryz.ntmps107 rfl (by decide +kernel) (by simp) rfl rfl rfl fun G hp=>?_
  refine go (r:=?_);and_intros<;>intros<;>try exact True.intro
  refine K.ld ?_
  refine WpL.loadOwnLi (M:=lens7) tabOk rfl rfl rfl rfl hlt (by decide) rfl ?_
  refine WpL.appInts tabOk rfl rfl rfl (Nat.le_refl 1) rfl rfl rfl rfl (by omega) (by decide) ?_
  rw [List.nil_append]
  refine WpL.weak (σ':=⟨[(0,.ptr 0 0 0),(20,.own 1 0 0 6)],[CurO v (belowD l c 7).1,XI (lens7.getD (belowD l c 7).2.toNat [])]⟩) (Weak.mk (.cons (.ptr rfl rfl rfl rfl .nil) (.cons (.own rfl rfl rfl rfl rfl (by omega) .nil) .nil)) (.cons (Re.same rfl rfl) (.inr rfl) (.cons (Re.same rfl (still_ints _)) (.inr rfl) .nil)) (Nat.le_of_ble_eq_true rfl)) ?_
  generalize lens7.getD (belowD l c 7).2.toNat []=b at h6 ⊢
  refine go (r:=?_);and_intros<;>intros<;>try exact True.intro
  all_goals first|(rename_i hg;exact absurd hg hc)⟩
end Go.Proofs.YtndflfipaddfoaaGreat


namespace Go.Abs
open Go
theorem lrel_ints2 {S w ι O}:∀{xs:List Int} {us f},LRel S w ι O (ints xs) us f→us=xs.map (Value.int .i64)∧f=[]
 |[],us,f,h=>by cases h;exact ⟨rfl,rfl⟩
 |x::xs,us,f,h=>by
  cases h with
  |sc h=>obtain ⟨h1,h2⟩:=lrel_ints2 h;subst h1 h2;exact ⟨rfl,rfl⟩
theorem lrel_ints3 {S w ι O}:∀(xs:List Int),LRel S w ι O (ints xs) (xs.map (Value.int .i64)) []
 |[]=>.nil
 |x::xs=>.sc (lrel_ints3 xs)
theorem RelAt.pre {n m G S ι F T O a w} (hr:RelAt n m G S ι F ⟨T,O⟩ a w) {id j ep sz:Nat} {te:Option TypeId} {xs:List Int} (ho:O[id]?=some ⟨ints xs,ep,sz,te⟩):RelAt n m G S ι F ⟨T,O.set id ⟨ints (xs.take j),ep,sz,te⟩⟩ a w:=by
 have hid:id<O.length:=(List.getElem?_eq_some_iff.1 ho).1
 have hlat:Later S w ι O S w ι (O.set id ⟨ints (xs.take j),ep,sz,te⟩):=⟨fun _ h=>h,fun _ _=>rfl,fun i ob hi=>by
  by_cases e:i=id
  ·subst e;rw [ho] at hi;cases hi
   exact ⟨⟨ints (xs.take j),ep,sz,te⟩,by rw [List.getElem?_set_self hid],.inr ⟨rfl,rfl,rfl⟩⟩
  ·exact ⟨ob,by rw [List.getElem?_set,if_neg (fun h=>e h.symm)];exact hi,.inr ⟨rfl,rfl,rfl⟩⟩⟩
 refine ⟨hr.defers,hr.size,fun t=>(hr.tmps t).mono hlat (by simp),⟨fun i ob hi=>?_,fun i hi=>hr.objs.nodup i (by simpa using hi),fun i j' hi hj=>hr.objs.apart i j' (by simpa using hi) (by simpa using hj)⟩,fun i hi=>hr.foot i (by simpa using hi),hr.base,hr.stable,hr.keeps,hr.spots,by have:=hr.mle;simpa using this⟩
 have hi:(O.set id ⟨ints (xs.take j),ep,sz,te⟩)[i]?=some ob:=hi
 by_cases e:i=id
 ·subst e
  rw [List.getElem?_set_self hid] at hi;cases hi
  have h:=hr.objs.obj i _ ho
  unfold ObjAt at h ⊢
  cases hs:ι i with
  |none=>
   rw [hs] at h
   have h1:ints xs=[]:=h.1
   have:xs=[]:=by cases xs with|nil=>rfl|cons x xs=>cases h1
   subst this
   exact ⟨by simp [ints],h.2⟩
  |some p=>
   obtain ⟨b,k⟩:=p
   rw [hs] at h
   obtain ⟨cur,t,fz,f',h1,h2,h3,h4,h5,h6,h7⟩:=h
   obtain ⟨h8,h9⟩:=lrel_ints2 h7
   subst h9
   have hle:(xs.take j).length≤xs.length:=List.length_take_le' _ _
   have h4':xs.length≤k:=by simpa [ints] using h4
   refine ⟨cur,t,fz,[],h1,h2,h3,by show (ints (xs.take j)).length≤k;simp [ints];omega,h5,h6,?_⟩
   have e2:cur.toList.take (ints (xs.take j)).length=(xs.take j).map (Value.int .i64):=by
    have e3:(ints (xs.take j)).length=min j xs.length:=by simp [ints]
    have e4:cur.toList.take xs.length=xs.map (Value.int .i64):=by simpa [ints] using h8
    rw [e3,←List.take_take,e4,List.map_take]
   show LRel S w ι _ (ints (xs.take j)) (cur.toList.take (ints (xs.take j)).length) []
   rw [e2];exact lrel_ints3 _
 ·rw [List.getElem?_set,if_neg (fun h=>e h.symm)] at hi
  have h:=hr.objs.obj i ob hi
  unfold ObjAt at h ⊢
  cases hs:ι i with
  |none=>rw [hs] at h;exact h
  |some p=>
   obtain ⟨b,k⟩:=p
   rw [hs] at h
   obtain ⟨cur,t,fz,f',h1,h2,h3,h4,h5,h6,h7⟩:=h
   exact ⟨cur,t,fz,f',h1,h2,h3,h4,h5,h6,h7.mono hlat (fun _ _=>rfl)⟩
theorem Weak.pre {m id j ep sz:Nat} {T:List (Nat×AV)} {O:List AObj} {te:Option TypeId} {xs:List Int} (ho:O[id]?=some ⟨ints xs,ep,sz,te⟩):Weak m ⟨T,O⟩ ⟨T,O.set id ⟨ints (xs.take j),ep,sz,te⟩⟩:=by
 rintro n G a w ⟨S,ι,F,hr⟩
 exact ⟨S,ι,F,hr.pre ho⟩
section
variable {P:Program} {n m:Nat} {G:Ctx} {T:List (Nat×AV)} {O:List AObj} {Q:Exit→St→Prop} {ops:Array Oper} {l:List Oper} {d:Nat} {md:Bool} {tt:TypeId} {pos:String} {after:Array Edge} {tab:List (Nat×Ty)}
theorem WpL.subOwn (hP:TabOk P tab) {t e k b:Nat} {zs:List AV} {x y:Operand} {kk:IntKind} {id ep len j:Nat} {ob:AObj} (ht:tlook tab t=some (.slice e k b zs)) (hx:av T x=.own id ep 0 len) (ho:O[id]?=some ob) (he:ob.ep=ep) (hy:av T y=.sc (.int kk j)) (hj:j≤len) (hn:d<n)
 (h:WpL P n m G md ops l ⟨(d,.own id ep 0 j)::T,O⟩ Q):
 WpL P n m G md ops ({dst:=some d,op:=.slice t x none (some y) none,type:=tt,pos:=pos,after:=after,guard:=none}::l) ⟨T,O⟩ Q:=
 WpL.pure rfl rfl hn (fun S ι F a w hr=>by
  obtain ⟨hu,inf,z,hinf,_,hk,_,_,hk0,_⟩:=hP.slice ht
  have hv:=hr.eval x
  rw [show av (St.mk T O).T x=_ from hx] at hv
  have hye:=hr.sc hy
  have hown:OwnAt (ι id) ob.size 0 len (a.eval x):=by
   cases hv with
   |own q1 q2 q3 r=>
    rw [show (St.mk T O).O[id]?=some ob from ho] at q1
    cases q1
    exact q3 he.symm
  cases hs:ι id with
  |none=>
   rw [hs] at hown
   obtain ⟨hxe,h0,hl⟩:=hown
   have hj0:j=0:=by omega
   subst hj0
   refine ⟨.slice none 0 0,?_,.own ho (by omega) (fun _=>by rw [hs];exact ⟨rfl,rfl,rfl⟩) .nil⟩
   have hrun:(Instr.sliceAt t (.slice none 0 0) none (some (.int kk 0)) none).run P w=.ok (.slice none 0 0) w:=by
    simp [Instr.sliceAt,Instr.slice,run_underlying hu,Instr.sliceBounds,Instr.sliceBound,asIntOf,run_sizeOf hinf hk,Sem.run_bind]
   have hye':a.eval y=.int kk 0:=by rw [hye];rfl
   simp [execOp,hxe,hye',hrun,Sem.run_bind]
  |some p=>
   obtain ⟨bb,kb⟩:=p
   rw [hs] at hown
   obtain ⟨cap,hxe,h1,h2,h3⟩:=hown
   have hrun:=run_sliceSl hu hinf hk ⟨bb,0,none⟩ len cap none (some (.int kk j)) 0 j (.inl ⟨rfl,rfl⟩) (.inr ⟨kk,rfl⟩) (by omega) w
   have e1:(if cap=0 then (⟨bb,0,none⟩:Addr) else (⟨bb,0,none⟩:Addr).add (0*k))=⟨bb,0,none⟩:=by
    split
    ·rfl
    ·rw [addr_add];simp
   rw [e1,Nat.sub_zero,Nat.sub_zero] at hrun
   refine ⟨.slice (some ⟨bb,0,none⟩) j cap,by simp [execOp,hxe,hye,hrun,Sem.run_bind],.own ho (by omega) (fun _=>by rw [hs];exact ⟨cap,rfl,h1,by omega,h3⟩) .nil⟩) h
end
theorem split1 {Ov:List AObj} {a:AObj} (h0:Ov[0]?=some a):∃R,Ov=a::R:=by
 match Ov,h0 with
 |a'::R,h0=>simp at h0;exact ⟨R,by rw [h0]⟩
 |[],h=>simp at h
theorem split5 {Ov:List AObj} {e:AObj} (h:Ov[4]?=some e):∃a b c d R,Ov=a::b::c::d::e::R:=by
 match Ov,h with
 |a::b::c::d::e'::R,h=>simp at h;exact ⟨a,b,c,d,R,by rw [h]⟩
 |[],h=>simp at h
 |[_],h=>simp at h
 |[_,_],h=>simp at h
 |[_,_,_],h=>simp at h
 |[_,_,_,_],h=>simp at h
section
variable {m:Nat} {T:List (Nat×AV)} {O:List AObj} {tab:List (Nat×Ty)} {e':Exit} {r1 r2:ResultVar} {r1v r2v r:AV} {N:List AObj}
theorem FinG.oI (ids:List (Option Nat)) (he:endB e'=true) (hv:ResV tab T O r1 r1v) (hx:Ex O ids [r1v] [r]) (hN:NEx O ids N) (hd:nodupB (ids.filterMap id)=true) (hp:preB ids m 0=true):FinG tab m #[r1] N r e' ⟨T,O⟩:=FinG.e he (.one hv hN (nodupB_spec hd) hp hx)
end
end Go.Abs


namespace Go.Proofs.YtndflfipaddfoaaGreat
open Go Go.Abs
attribute [local irreducible] WpA WpL Rnd Blk Abs.Seq Abs.Fin Abs.FinG FnC FnG FnX FnP FinX Only
attribute [local irreducible] belowD onceD pickD modeD
abbrev any5:List Int:=[0,1,8,-1,7]
def l8AnyD (l:List Int) (c:Cr):Cr×List Int:=
 let y:=l8D l c
 let s:=belowD l y.1 12
 if s.2=0 then
  let i:=belowD l s.1 6
  let p:=pickD l i.1 any5
  (p.1,y.2.set i.2.toNat p.2)
 else if s.2=1 then (s.1,y.2.take 5) else (s.1,y.2)
theorem l8AnyD_0 {l:List Int} {c:Cr} (h:(belowD l (l8D l c).1 12).2=0):l8AnyD l c=((pickD l (belowD l (belowD l (l8D l c).1 12).1 6).1 any5).1,(l8D l c).2.set (belowD l (belowD l (l8D l c).1 12).1 6).2.toNat (pickD l (belowD l (belowD l (l8D l c).1 12).1 6).1 any5).2):=by
 unfold l8AnyD;simp only;rw [if_pos h]
theorem l8AnyD_1 {l:List Int} {c:Cr} (h:(belowD l (l8D l c).1 12).2=1):l8AnyD l c=((belowD l (l8D l c).1 12).1,(l8D l c).2.take 5):=by
 unfold l8AnyD;simp only;rw [if_neg (by omega),if_pos h]
theorem l8AnyD_2 {l:List Int} {c:Cr} (h:(belowD l (l8D l c).1 12).2≠0) (h1:(belowD l (l8D l c).1 12).2≠1):l8AnyD l c=((belowD l (l8D l c).1 12).1,(l8D l c).2):=by
 unfold l8AnyD;simp only;rw [if_neg h,if_neg h1]
theorem l8AnyD_ok {l:List Int} {c:Cr} (h:CrOk l c):CrOk l (l8AnyD l c).1∧(l8AnyD l c).2.length≤6:=by
 have h8:=l8D_ok h
 have hs:=belowD_ok 12 h8.1
 by_cases h0:(belowD l (l8D l c).1 12).2=0
 ·rw [l8AnyD_0 h0]
  exact ⟨(pickD_ok (belowD_ok 6 hs.1).1 (by decide)).1,by simp only [List.length_set];omega⟩
 ·by_cases h1:(belowD l (l8D l c).1 12).2=1
  ·rw [l8AnyD_1 h1];exact ⟨hs.1,by simp only [List.length_take];omega⟩
  ·rw [l8AnyD_2 h0 h1];exact ⟨hs.1,by simp only;omega⟩
instance l8Any_p:ConP 111 (∀ (v:Value) (l:List Int) (c:Cr),CrOk l c→Pn 111 v l c [] (l8AnyD l c).1 [XI (l8AnyD l c).2] (.own 1 0 0 (l8AnyD l c).2.length)):=⟨fun v l c h=>by
 have h8:=l8D_ok h
 have hs:=belowD_ok 12 h8.1
 have hi:=belowD_ok 6 hs.1
 have hi1:=hi.2.2.1 (by decide)
 have hi0:=hi.2.1
 by_cases h0:(belowD l (l8D l c).1 12).2=0
 ·rw [l8AnyD_0 h0]
  refine FnP.of_body tabOk Tryz.func111 Tryz.ntmps111 rfl (by decide +kernel) (by simp) rfl rfl rfl fun G hp=>?_
  refine go (r:=?_);and_intros<;>intros<;>try exact True.intro
  all_goals first|exact hi.1|exact hs.1|decide
 ·by_cases h1:(belowD l (l8D l c).1 12).2=1
  ·have e5:((l8D l c).2.take 5).length=5:=by rw [List.length_take,h8.2];rfl
   rw [l8AnyD_1 h1]
   simp only [e5]
   refine FnP.of_body tabOk Tryz.func111 Tryz.ntmps111 rfl (by decide +kernel) (by simp) rfl rfl rfl fun G hp=>?_
   refine go (r:=?_);and_intros<;>intros<;>try exact True.intro
   refine K.sl ?_
   refine WpL.subOwn (j:=5) tabOk rfl rfl rfl rfl rfl (by omega) (by decide) ?_
   refine WpL.weak (Weak.pre (id:=1) (j:=5) rfl) ?_
   refine go (r:=?_);and_intros<;>intros<;>try exact True.intro
   all_goals trace_state
  ·rw [l8AnyD_2 h0 h1]
   refine FnP.of_body tabOk Tryz.func111 Tryz.ntmps111 rfl (by decide +kernel) (by simp) rfl rfl rfl fun G hp=>?_
   refine go (r:=?_);and_intros<;>intros<;>try exact True.intro
   all_goals trace_state⟩
end Go.Proofs.YtndflfipaddfoaaGreat


namespace Go.Proofs.YtndflfipaddfoaaGreat
open Go Go.Abs
attribute [local irreducible] WpA WpL Rnd Blk Abs.Seq Abs.Fin Abs.FinG FnC FnG FnX FnP FinX Only
attribute [local irreducible] belowD onceD pickD modeD l8D l8AnyD
def modesD (l:List Int):Nat→Cr×List Int→Cr×List Int
 |0,s=>s
 |n+1,s=>modesD l n ((modeD l s.1).1,s.2++[(modeD l s.1).2])
def onesD (l:List Int):Nat→Cr×List Bool→Cr×List Bool
 |0,s=>s
 |n+1,s=>onesD l n ((onceD l s.1 2).1,s.2++[(onceD l s.1 2).2])
structure Op6 where
 q:Int
 b:Bool
 d:Bool
 lens:List Int
 ms:List Int
 es:List Bool
abbrev quant7:List Int:=[0,0,6,12,24,36,51]
def optD (l:List Int) (c:Cr):Cr×Op6:=
 let q:=pickD l c quant7
 let b:=onceD l q.1 4
 let d:=onceD l b.1 2
 let e:=l8D l d.1
 let n:=belowD l e.1 5
 let m:=modesD l n.2.toNat (n.1,[])
 let k:=belowD l m.1 4
 let s:=onesD l k.2.toNat (k.1,[])
 (s.1,⟨q.2,b.2,d.2,e.2,m.2,s.2⟩)
end Go.Proofs.YtndflfipaddfoaaGreat
