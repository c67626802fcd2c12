/- Proved in this text: lemmas and contracts of functions that the claim uses (parts: BitsH, Ln, SizeL, Unp, RdV, RdT, Cache, AbsAz, Ent, UeT, RdB, RdW, Back, Stop, UnpI, EncS, FrN, Cur, CurP). No condition. -/
import Derived.Test.YtainhhfnnclfiaaGreatLoM15
import Derived.Test.YtainhhfnnclfiaaGreatLoM10
import Derived.Test.YtainhhfnnclfiaaGreatLoM7
import Derived.Test.YtainhhfnnclfiaaGreatLoM9
import Derived.Test.YtainhhfnnclfiaaGreatLoM11
import Derived.Lib.AppendZeros
import Derived.Test.YtainhhfnnclfiaaGreatLoM14
import Derived.Test.YtainhhfnnclfiaaGreatLoM13
import Derived.Test.YtainhhfnnclfiaaGreatLoM12
set_option linter.unusedVariables false
set_option linter.unusedSimpArgs false
set_option maxRecDepth 100000
set_option maxHeartbeats 16000000


namespace Go.Proofs.YtainhhfnnclfiaaGreat
open Go Go.Abs
attribute [local irreducible] WpA WpL Rnd Blk Abs.Seq Abs.Fin Abs.FinG FnC FnG Only
attribute [local irreducible] bitsL ueL
theorem hd_ws {w h:Int} (hs:SidesOk w h):(0≤w/8-1∧w/8-1≤65534)∧(0≤h/8-1∧h/8-1≤65534):=by
 have:=hs;unfold SidesOk at this;omega
instance HeaderBits_c:Con 150 (∀ (w h q:Int) (b d:Bool) (l:List Int),l.length≤1099511627776∧HdOk w h q l→Fn 150 [HdA w h q b d l] [XI (hdL w h q b d l)] (.own 0 0 0 (hdL w h q b d l).length)):=⟨fun w h q b d l hl=>by
 have h1:=bitsL_len 183 8
 have h2:=ueL_len (w/8-1)
 have h3:=ueL_len (h/8-1)
 have h4:=bitsL_len q 6
 have h0:=hl.2
 have he:hdL w h q b d l=hdK w h q b d l l.length:=by rw [hdL,if_pos h0]
 have h6:=h0.2.2.2.1
 have hs:=h0.1
 have hq:=h0.2.1
 have hws:=hd_ws hs
 have hfl:[bitsL 183 8,ueL (w/8-1),ueL (h/8-1),bitsL q 6,[bif b then 1 else 0,bif d then 1 else 0]].flatten=hdK w h q b d l 0:=by simp [hdK,hdB]
 have hsm:[bitsL 183 8,ueL (w/8-1),ueL (h/8-1),bitsL q 6,[bif b then (1:Int) else 0,bif d then 1 else 0]].length≤1024∧SmL 1048576 [bitsL 183 8,ueL (w/8-1),ueL (h/8-1),bitsL q 6,[bif b then (1:Int) else 0,bif d then 1 else 0]]:=⟨by simp,smL_cons (by omega) (smL_cons (by omega) (smL_cons (by omega) (smL_cons (by omega) (smL_cons (by simp) (smL_nil _)))))⟩
 refine FnC.of_body tabOk Tryz.func150 Tryz.ntmps150 rfl (by decide +kernel) (by simp) fun G=>?_
 refine goR (r:=?_);and_intros<;>intros<;>try exact True.intro
 all_goals first|(exact absurd h0 (by assumption))|skip
 apply WpA.regionQ1 21 5 mixed (by decide +kernel)
 ·exact rfl
 ·apply HeadQ.consF (V:=.own 1 1 0 (bitsL 183 8).length) (.put 0 (XD (bitsL 183 8))) rfl
  ·exact rfl
  ·intro Tv Ov hc hp hd hk
   refine K.call ?_
   refine K.con (fun hcon=>?_)
   refine WpL.callF (hcon 183 8 (by decide)) snapA locA outA (cnt_some _ 0) rfl rfl (by decide) ?_
   rw [Nat.zero_add]
   apply WpL.putNil (p:=0)
   ·exact hp 0 _ rfl
   ·exact Nat.zero_le _
   ·exact rfl
   ·first|exact still_ints _|exact still_rows (fun _=>rfl) _|rfl
  ·exact rfl
  ·exact rfl
  apply HeadQ.consF .none rfl
  ·exact rfl
  ·exact in1
  ·exact rfl
  ·exact rfl
  apply HeadQ.consF .none rfl
  ·exact rfl
  ·exact in1
  ·exact rfl
  ·exact rfl
  apply HeadQ.consF .none rfl
  ·exact rfl
  ·exact in1
  ·exact rfl
  ·exact rfl
  apply HeadQ.consF .none rfl
  ·exact rfl
  ·exact in1
  ·exact rfl
  ·exact rfl
  apply HeadQ.consF (V:=.own 2 1 0 (ueL (w/8-1)).length) (.put 1 (XD (ueL (w/8-1)))) rfl
  ·exact rfl
  ·intro Tv Ov hc hp hd hk
   refine K.call ?_
   refine K.con (fun hcon=>?_)
   refine WpL.callF (hcon (w/8-1) hws.1) snapA locA outA (cnt_some _ 0) rfl rfl (by decide) ?_
   rw [Nat.zero_add]
   apply WpL.putNil (p:=1)
   ·exact hp 1 _ rfl
   ·exact Nat.zero_le _
   ·exact rfl
   ·first|exact still_ints _|exact still_rows (fun _=>rfl) _|rfl
  ·exact rfl
  ·exact rfl
  apply HeadQ.consF .none rfl
  ·exact rfl
  ·exact in1
  ·exact rfl
  ·exact rfl
  apply HeadQ.consF .none rfl
  ·exact rfl
  ·exact in1
  ·exact rfl
  ·exact rfl
  apply HeadQ.consF .none rfl
  ·exact rfl
  ·exact in1
  ·exact rfl
  ·exact rfl
  apply HeadQ.consF .none rfl
  ·exact rfl
  ·exact in1
  ·exact rfl
  ·exact rfl
  apply HeadQ.consF (V:=.own 3 1 0 (ueL (h/8-1)).length) (.put 2 (XD (ueL (h/8-1)))) rfl
  ·exact rfl
  ·intro Tv Ov hc hp hd hk
   refine K.call ?_
   refine K.con (fun hcon=>?_)
   refine WpL.callF (hcon (h/8-1) hws.2) snapA locA outA (cnt_some _ 0) rfl rfl (by decide) ?_
   rw [Nat.zero_add]
   apply WpL.putNil (p:=2)
   ·exact hp 2 _ rfl
   ·exact Nat.zero_le _
   ·exact rfl
   ·first|exact still_ints _|exact still_rows (fun _=>rfl) _|rfl
  ·exact rfl
  ·exact rfl
  apply HeadQ.consF .none rfl
  ·exact rfl
  ·exact in1
  ·exact rfl
  ·exact rfl
  apply HeadQ.consF .none rfl
  ·exact rfl
  ·exact in1
  ·exact rfl
  ·exact rfl
  apply HeadQ.consF (V:=.own 4 1 0 (bitsL q 6).length) (.put 3 (XD (bitsL q 6))) rfl
  ·exact rfl
  ·intro Tv Ov hc hp hd hk
   refine K.call ?_
   refine K.con (fun hcon=>?_)
   refine WpL.callF (hcon q 6 (by omega)) snapA locA outA (cnt_some _ 0) rfl rfl (by decide) ?_
   rw [Nat.zero_add]
   apply WpL.putNil (p:=3)
   ·exact hp 3 _ rfl
   ·exact Nat.zero_le _
   ·exact rfl
   ·first|exact still_ints _|exact still_rows (fun _=>rfl) _|rfl
  ·exact rfl
  ·exact rfl
  apply HeadQ.consF .none rfl
  ·exact rfl
  ·exact in1
  ·exact rfl
  ·exact rfl
  apply HeadQ.consF .none rfl
  ·exact rfl
  ·exact in1
  ·exact rfl
  ·exact rfl
  apply HeadQ.consF .none rfl
  ·exact rfl
  ·exact in0
  ·exact rfl
  ·exact rfl
  apply HeadQ.consF .none rfl
  ·exact rfl
  ·exact in1
  ·exact rfl
  ·exact rfl
  apply HeadQ.consF .none rfl
  ·exact rfl
  ·exact in1
  ·exact rfl
  ·exact rfl
  apply HeadQ.consF .none rfl
  ·exact rfl
  ·exact in0
  ·exact rfl
  ·exact rfl
  apply HeadQ.consF (V:=.own 5 1 0 2) (.put 4 (XD [bif b then 1 else 0,bif d then 1 else 0])) rfl
  ·exact rfl
  ·intro Tv Ov hc hp hd hk
   refine WpL.litInts tabOk rfl rfl rfl rfl rfl (by decide) (by rw [nid_len,Nat.zero_add]) (by decide) ?_
   apply WpL.putNil (p:=4)
   ·exact hp 4 _ rfl
   ·exact Nat.zero_le _
   ·exact rfl
   ·first|exact still_ints _|exact still_rows (fun _=>rfl) _|rfl
  ·exact rfl
  ·exact rfl
  exact HeadQ.nil
 ·exact rfl
 ·exact rfl
 ·exact rfl
 ·exact rfl
 ·exact rfl
 ·exact rfl
 ·exact rfl
 ·exact rfl
 generalize bitsL 183 8=L1 at*
 generalize ueL (w/8-1)=L2 at*
 generalize ueL (h/8-1)=L3 at*
 generalize bitsL q 6=L4 at*
 refine goR (r:=?_);and_intros<;>intros<;>try exact True.intro
 (apply WpL.nestLis (id:=11) (cs2:=[.fre 1 _ _,.fre 1 _ _,.fre 1 _ _,.fre 1 _ _,.fre 1 _ _]) (O3:=[BoxH w h q b d l,DD,DD,DD,DD,DD,deadO,deadO,deadO,deadO,deadO,⟨rows liF [L1,L2,L3,L4,[bif b then 1 else 0,bif d then 1 else 0]],0,1,some 32⟩]) [0,1,2,3,4]
  ·repeat' (first
    |exact NestC.nil
    |(apply NestC.consF
      ·exact rfl
      ·exact rfl
      ·exact rfl
      ·exact rfl
      ·first|exact Nat.zero_le _|exact Nat.le_of_ble_eq_true rfl
      ·exact still_ints _
      ·first|(simp;done)|rfl
      ·exact rfl
      ·exact rfl))
  ·exact rfl
  ·repeat' (first
    |exact ToLis.nil
    |(apply ToLis.cons
      ·exact rfl
      ·first|rfl|(simp;done)))
  ·exact rfl)
 refine K.call ?_
 refine K.con (fun hcon=>?_)
 refine WpL.callF (hcon [L1,L2,L3,L4,[bif b then 1 else 0,bif d then 1 else 0]] hsm) snapA locA outA rfl rfl rfl (by decide) ?_
 clear hcon
 refine WpL.weak (Weak.fillF (j:=1) (O3:=[BoxH w h q b d l,⟨ints [L1,L2,L3,L4,[bif b then 1 else 0,bif d then 1 else 0]].flatten,3,1,some 3⟩,DD,DD,DD,DD,deadO,deadO,deadO,deadO,deadO,⟨rows liF [L1,L2,L3,L4,[bif b then 1 else 0,bif d then 1 else 0]],0,1,some 32⟩,deadO]) rfl rfl rfl (Nat.zero_le _) rfl (still_ints _) rfl rfl) ?_
 rw [hfl]
 refine go (r:=?_);and_intros<;>intros<;>try exact True.intro
 refine WpA.loop (fun k:Nat=>⟨[(3,.own 1 0 0 (hdK w h q b d l k).length),(33,IL l),(34,I l.length),(35,I k)],[BoxH w h q b d l,XI (hdK w h q b d l k)]⟩) (fun k=>k≤l.length) (fun k=>l.length-k) 0 (by omega) (go (r:=?_)) (fun k hk=>?_)
 ·trivial
 have hb:=hdK_len w h q b d l k
 have hsc:=fun hk=>hdK_succ w h q b d l k hk
 have hbl:=bitsL_len (l.getD k 0) 3
 have hin:=fun hk=>in_getH h0.2.2.1 (k:=k) hk
 have hsl:k<l.length→(hdK w h q b d l (k+1)).length=(hdK w h q b d l k).length+(bitsL (l.getD k 0) 3).length:=fun hk=>by rw [hsc hk];simp only [List.length_append]
 refine go (r:=?_);and_intros<;>intros<;>try exact True.intro
 all_goals first|(rw [hsc (by omega)];done)|skip
 all_goals have ek:k=l.length:=by omega
 all_goals subst ek
 all_goals rw [he]⟩
end Go.Proofs.YtainhhfnnclfiaaGreat


namespace Go.Proofs.YtainhhfnnclfiaaGreat
open Go Go.Abs
attribute [local irreducible] WpA WpL Rnd Blk Abs.Seq Abs.Fin Abs.FinG FnC FnG Only
attribute [local simp] Abs.setL
def endB (k:Int) (l:List Blok):Int:=k+bw l
def markB:Int→List Blok→List Blok
 |_,[]=>[]
 |k,b::l=>(k,marksI (k+1) b.2.length)::markB (k+1+b.2.length) l
theorem bw_nil:bw []=0:=rfl
theorem bw_cons (b:Blok) (l:List Blok):bw (b::l)=bw l+1+b.2.length:=by unfold bw;rw [List.map_cons,List.sum_cons,List.length_cons];unfold bn;omega
@[simp] theorem markB_len:∀(l:List Blok) (k:Int),(markB k l).length=l.length
 |[],k=>rfl
 |b::l,k=>by rw [markB,List.length_cons,List.length_cons,markB_len l]
def markM:Int→List Mbk→List Mbk
 |_,[]=>[]
 |k,m::l=>(decide (k%3=0),markB (k+1) m.2)::markM (k+1+bw m.2) l
theorem mw_nil:mw []=0:=rfl
theorem mw_cons (b:Mbk) (l:List Mbk):mw (b::l)=mw l+1+bw b.2:=by unfold mw;rw [List.map_cons,List.sum_cons,List.length_cons];unfold mn;omega
@[simp] theorem markM_len:∀(l:List Mbk) (k:Int),(markM k l).length=l.length
 |[],k=>rfl
 |b::l,k=>by rw [markM,List.length_cons,List.length_cons,markM_len l]
end Go.Proofs.YtainhhfnnclfiaaGreat


namespace Go.Proofs.YtainhhfnnclfiaaGreat
open Go Go.Abs
attribute [local irreducible] WpA WpL Rnd Blk Abs.Seq Abs.Fin Abs.FinG FnC FnG Only
def mbF (l:List Int) (m:Mbk):List Int:=mbbL m.1 m.2 l
def stK (w h q:Int) (b d:Bool) (l:List Int) (M:List Mbk) (k:Nat):List Int:=hdL w h q b d l++(M.take k).flatMap (mbF l)
theorem stK_len (w h q:Int) (b d:Bool) (l:List Int) (M:List Mbk) (k:Nat):(stK w h q b d l M k).length≤600+33601*k:=by
 have h1:=hdL_len w h q b d l
 have h3:=fm_bd (mbF l) 33601 (fun m=>mbbL_len _ _ _) (M.take k)
 have h4:(M.take k).length≤k:=by simp;omega
 unfold stK;simp only [List.length_append];omega
theorem stK_succ (w h q:Int) (b d:Bool) (l:List Int) (M:List Mbk) (k:Nat) (hk:k<M.length):stK w h q b d l M (k+1)=stK w h q b d l M k++mbF l (M.getD k default):=by
 unfold stK;rw [fm_snoc _ _ k hk,←List.append_assoc]
end Go.Proofs.YtainhhfnnclfiaaGreat


namespace Go.Proofs.YtainhhfnnclfiaaGreat
open Go Go.Abs
attribute [local irreducible] WpA WpL Rnd Blk Abs.Seq Abs.Fin Abs.FinG FnC FnG Only
def Bit01 (l:List Int):Prop:=∀x∈l,x=0∨x=1
theorem b01_app {a b:List Int} (h1:Bit01 a) (h2:Bit01 b):Bit01 (a++b):=fun x hx=>(List.mem_append.1 hx).elim (h1 x) (h2 x)
theorem b01_nil:Bit01 []:=fun x hx=>by cases hx
theorem b01_rep (n:Nat):Bit01 (List.replicate n 0):=fun x hx=>.inl (List.mem_replicate.1 hx).2
theorem b01_bits (n w:Int):Bit01 (bitsL n w):=by
 unfold bitsL;split
 ·intro x hx
  unfold bitsR at hx
  obtain ⟨k,_,rfl⟩:=List.mem_map.1 hx
  omega
 ·exact b01_nil
theorem b01_ue (n:Int):Bit01 (ueL n):=by
 unfold ueL;split
 ·exact b01_app (b01_rep _) (b01_bits _ _)
 ·exact b01_nil
theorem b01_sym (l:List Int) (m:Int):Bit01 (symL l m):=by
 unfold symL;split
 ·exact b01_bits _ _
 ·exact b01_nil
theorem b01_one (b:Bool):(bif b then (1:Int) else 0)=0∨(bif b then (1:Int) else 0)=1:=by cases b<;>simp
theorem b01_fm {α:Type} (f:α→List Int) (h:∀a,Bit01 (f a)):∀l:List α,Bit01 (l.flatMap f):=fun l x hx=>by
 obtain ⟨a,_,hx⟩:=List.mem_flatMap.1 hx
 exact h a x hx
theorem b01_prB (p:Int×Int):Bit01 (prB p):=b01_app (b01_ue _) (b01_ue _)
theorem b01_bk (m:Int) (lv lens:List Int) (n:Int):Bit01 (bkL m lv lens n):=by
 unfold bkL;split
 ·split
  ·exact b01_app (b01_sym _ _) (fun x hx=>by simp at hx;exact .inl hx)
  ·unfold bkK
   exact b01_app (b01_app (b01_app (b01_sym _ _) (fun x hx=>by simp at hx;exact .inr hx)) (b01_ue _)) (b01_fm _ b01_prB _)
 ·exact b01_nil
theorem b01_mb (e:Bool) (bs:List Blok) (lens:List Int):Bit01 (mbbL e bs lens):=by
 unfold mbbL;split
 ·unfold mbK
  exact b01_app (fun x hx=>by simp only [List.mem_singleton] at hx;rw [hx];exact b01_one e) (b01_fm _ (fun b=>b01_bk _ _ _ _) _)
 ·exact b01_nil
theorem b01_hd (w h q:Int) (b d:Bool) (l:List Int):Bit01 (hdL w h q b d l):=by
 unfold hdL;split
 ·unfold hdK hdB
  refine b01_app (b01_app (b01_app (b01_app (b01_app (b01_bits _ _) (b01_ue _)) (b01_ue _)) (b01_bits _ _)) ?_) (b01_fm _ (fun n=>b01_bits _ _) _)
  intro x hx
  simp only [List.mem_cons,List.not_mem_nil,or_false] at hx
  rcases hx with rfl|rfl
  ·exact b01_one b
  ·exact b01_one d
 ·exact b01_nil
theorem b01_st (w h q:Int) (b d:Bool) (l:List Int) (M:List Mbk) (k:Nat):Bit01 (stK w h q b d l M k):=by
 unfold stK
 exact b01_app (b01_hd _ _ _ _ _ _) (b01_fm _ (fun m=>b01_mb _ _ _) _)
def numS (l:List Int) (k:Nat):Int:=(l.take k).foldl (fun n b=>n*2+b) 0
theorem numS_succ {l:List Int} {k:Nat} (h:k<l.length):numS l (k+1)=numS l k*2+l.getD k 0:=by
 unfold numS;rw [List.take_succ_eq_append_getElem h,List.foldl_append];simp [h]
theorem b01_get {l:List Int} (h:Bit01 l) (k:Nat):l.getD k 0=0∨l.getD k 0=1:=by
 rcases Nat.lt_or_ge k l.length with h1|h1
 ·exact h _ (by simp [h1])
 ·left;rw [List.getD_eq_getElem?_getD,List.getElem?_eq_none h1];rfl
theorem numS_bd {l:List Int} (h:Bit01 l):∀k,k≤8→0≤numS l k∧numS l k<2 ^ k
 |0,_=>by simp [numS]
 |k+1,hk=>by
  have ih:=numS_bd h k (by omega)
  rcases Nat.lt_or_ge k l.length with h1|h1
  ·rw [numS_succ h1]
   have:=b01_get h k
   have e:(2:Int) ^ (k+1)=2 ^ k*2:=by rw [Int.pow_succ]
   omega
  ·have e:numS l (k+1)=numS l k:=by unfold numS;rw [List.take_of_length_le (by omega),List.take_of_length_le (by omega)]
   have e2:(2:Int) ^ (k+1)=2 ^ k*2:=by rw [Int.pow_succ]
   omega
theorem numS_256 {l:List Int} (h:Bit01 l) {k:Nat} (hk:k≤8):0≤numS l k∧numS l k<256:=by
 have h1:=numS_bd h k hk
 have h2:(2:Int) ^ k≤2 ^ 8:=by
  have:=Nat.pow_le_pow_right (n:=2) (by decide) hk
  exact_mod_cast this
 have h3:(2:Int) ^ 8=256:=by decide
 omega
def byI (x:List Int) (k:Nat):List Int:=(List.range k).map fun i=>numS ((x.drop (8*i)).take 8) 8
def strS (x:List Int):List UInt8:=(byI x (x.length/8)).map fun n:Int=>UInt8.ofNat n.toNat
theorem byI_len (x:List Int) (k:Nat):(byI x k).length=k:=by simp [byI]
theorem strS_len (x:List Int):(strS x).length=x.length/8:=by unfold strS;rw [List.length_map,byI_len]
theorem b01_mid {x:List Int} (h:Bit01 x) (i:Nat):Bit01 ((x.drop i).take 8):=fun y hy=>h y (List.mem_of_mem_drop (List.mem_of_mem_take hy))
def padN (n:Nat):Nat:=(8-(n+1)%8)%8
def padL (b:List Int) (j:Nat):List Int:=b++[1]++List.replicate j 0
theorem padL_len (b:List Int) (j:Nat):(padL b j).length=b.length+1+j:=by simp [padL];omega
theorem padL_succ (b:List Int) (j:Nat):padL b (j+1)=padL b j++[0]:=by unfold padL;rw [List.replicate_succ',←List.append_assoc]
theorem b01_pad {b:List Int} (h:Bit01 b) (j:Nat):Bit01 (padL b j):=b01_app (b01_app h (fun x hx=>by simp at hx;exact .inr hx)) (b01_rep j)
def stopS (b:List Int):List UInt8:=strS (padL b (padN b.length))
theorem stopS_len (b:List Int):(stopS b).length=(b.length+8)/8:=by
 unfold stopS;rw [strS_len,padL_len];unfold padN;omega
def unpS (w h q:Int) (b d:Bool) (l:List Int) (M:List Mbk):List UInt8:=if StOk w h q l M then stopS (stK w h q b d l M M.length) else []
theorem stK_small {w h q:Int} {b d:Bool} {l:List Int} {M:List Mbk} (h0:StOk w h q l M):(stK w h q b d l M M.length).length≤600000:=by
 have h1:=stK_len w h q b d l M M.length
 have h2:=cntM_bd h0.1.1
 have h3:=h0.2.1
 omega
theorem unpS_len (w h q:Int) (b d:Bool) (l:List Int) (M:List Mbk):(unpS w h q b d l M).length≤100000:=by
 unfold unpS;split
 ·rename_i h0
  rw [stopS_len]
  have:=stK_small (b:=b) (d:=d) h0
  omega
 ·simp
end Go.Proofs.YtainhhfnnclfiaaGreat


namespace Go.Proofs.YtainhhfnnclfiaaGreat
open Go Go.Abs
theorem zrW_stop (p:List UInt8) (s:Int):∀(f n:Nat),zrW p s f n=n+f∨btA p (s+(zrW p s f n:Nat))≠0
 |0,n=>.inl rfl
 |f+1,n=>by
  rw [zrW];split
  ·rcases zrW_stop p s f (n+1) with h|h
   ·exact .inl (by omega)
   ·exact .inr h
  ·rename_i h;exact .inr h
theorem zrs_stop (p:List UInt8) (s:Int):(zrs p s:Int)=lft p s∨btA p (s+(zrs p s:Nat))≠0:=by
 have hb:=lft_bd p s
 rcases zrW_stop p s (lft p s).toNat 0 with h|h
 ·exact .inl (by unfold zrs;omega)
 ·exact .inr h
theorem ueV_nn (p:List UInt8) (s:Int):0≤ueV p s:=by
 unfold ueV;split
 ·rename_i h
  by_cases h15:zrs p s≤15
  ·by_cases hok:RbOk p s (2*(zrs p s:Int)+1)
   ·rw [(rb_yes hok).2]
    have hlo:=lft_ok hok.1
    have hst:=zrs_stop p s
    have hbo:=btA_out p (s+(zrs p s:Nat))
    have hbd:=btA_bd p (s+(zrs p s:Nat))
    have hb1:btA p (s+(zrs p s:Nat))=1:=by
     rcases hst with h|h
     ·omega
     ·omega
    have e:=numB_add p s (zrs p s+1) (zrs p s)
    have h1:=numB_bd p (s+((zrs p s+1:Nat):Int)) (zrs p s)
    have h2:=numB_bd p s (zrs p s)
    have h3:numB p s (zrs p s+1)=numB p s (zrs p s)*2+bv p (s+(zrs p s:Nat)):=rfl
    have h4:bv p (s+(zrs p s:Nat))=1:=by unfold bv;omega
    have hp:(0:Int)<2 ^ zrs p s:=by exact_mod_cast Nat.pow_pos (by decide)
    have h5:1*2 ^ zrs p s≤numB p s (zrs p s+1)*2 ^ zrs p s:=Int.mul_le_mul_of_nonneg_right (by omega) (by omega)
    rw [show (2*(zrs p s:Int)+1).toNat=zrs p s+1+zrs p s by omega,e]
    omega
   ·rw [(ue_short h15 hok).2.1] at h;omega
  ·rw [(ue_code (s:=s) (p:=p) h15).2.1] at h;omega
 ·omega
theorem fuV_nn (p:List UInt8) (s c:Int) (k:Int→Int):0≤fuV p s c k:=by
 have:=ueV_nn p s
 unfold fuV;split<;>omega
theorem fuV_lt {p:List UInt8} {s c b e:Int} (he:e≠0) (h:0<b):fuV p s c (fun y=>ifE (y<b) e)<b:=by
 unfold fuV;split
 ·rename_i h1
  unfold fuC at h1
  split at h1
  ·split at h1
   ·by_cases hlt:ueV p s<b
    ·exact hlt
    ·have h1:ifE (ueV p s<b) e=0:=h1
     rw [ifE_no hlt] at h1;exact absurd h1 he
   ·omega
  ·omega
 ·omega
theorem fuV_zero {p:List UInt8} {s c:Int} {k:Int→Int} (h:fuC p s c k≠0):fuV p s c k=0:=by rw [fuV,if_neg h]
abbrev kR (b:Int):Int→Int:=fun y=>ifE (y<b) 5
abbrev kL:Int→Int:=fun y=>ifE (-16383≤lvOf y∧lvOf y≤16383) 5
theorem lvStep_yes {p:List UInt8} {nn:Int} {x:LvS} (hc:x.c=0):lvStep p nn x=
 (if fuC p (fuA p x.a 0 (kR (nn-x.at_))) (fuC p x.a 0 (kR (nn-x.at_))) kL=0 then
  ⟨fuA p (fuA p x.a 0 (kR (nn-x.at_))) (fuC p x.a 0 (kR (nn-x.at_))) kL,fuC p (fuA p x.a 0 (kR (nn-x.at_))) (fuC p x.a 0 (kR (nn-x.at_))) kL,x.at_+fuV p x.a 0 (kR (nn-x.at_))+1,
   x.out.set (x.at_+fuV p x.a 0 (kR (nn-x.at_))).toNat (lvOf (fuV p (fuA p x.a 0 (kR (nn-x.at_))) (fuC p x.a 0 (kR (nn-x.at_))) kL))⟩
 else ⟨fuA p (fuA p x.a 0 (kR (nn-x.at_))) (fuC p x.a 0 (kR (nn-x.at_))) kL,fuC p (fuA p x.a 0 (kR (nn-x.at_))) (fuC p x.a 0 (kR (nn-x.at_))) kL,x.at_+fuV p x.a 0 (kR (nn-x.at_)),x.out⟩):=by
 rw [lvStep,if_pos hc]
theorem lvStep_no {p:List UInt8} {nn:Int} {x:LvS} (hc:x.c≠0):lvStep p nn x=x:=by rw [lvStep,if_neg hc]
theorem fuC_keep {p:List UInt8} {s c:Int} {k:Int→Int} (h:c≠0):fuC p s c k=c:=by rw [fuC,if_neg h]
theorem lvStep_at {p:List UInt8} {nn:Int} {x:LvS} (h:0≤x.at_∧x.at_≤nn):0≤(lvStep p nn x).at_∧(lvStep p nn x).at_≤nn:=by
 by_cases hc:x.c=0
 ·rw [lvStep_yes hc]
  have h1:=fuV_nn p x.a 0 (kR (nn-x.at_))
  by_cases hr:fuC p x.a 0 (kR (nn-x.at_))=0
  ·have h2:fuV p x.a 0 (kR (nn-x.at_))<nn-x.at_:=by
    rcases Int.lt_or_le 0 (nn-x.at_) with hp|hp
    ·exact fuV_lt (by decide) hp
    ·exfalso
     have hv:=ueV_nn p x.a
     unfold fuC at hr
     simp only [if_true] at hr
     split at hr
     ·have hr:ifE (ueV p x.a<nn-x.at_) 5=0:=hr
      rw [ifE_no (by omega)] at hr;cases hr
     ·rename_i hh;exact hh hr
   split
   ·show 0≤x.at_+_+1∧x.at_+_+1≤nn;omega
   ·show 0≤x.at_+_∧x.at_+_≤nn;omega
  ·rw [if_neg (by rw [fuC_keep hr];exact hr)]
   show 0≤x.at_+_∧x.at_+_≤nn
   rw [fuV_zero hr];omega
 ·rw [lvStep_no hc];exact h
theorem lvRun_at {p:List UInt8} {nn:Int} {x:LvS} (h:0≤x.at_∧x.at_≤nn):∀k,0≤(lvRun p nn x k).at_∧(lvRun p nn x k).at_≤nn
 |0=>h
 |k+1=>by rw [lvRun];exact lvStep_at (lvRun_at h k)
theorem lvRun_stop {p:List UInt8} {nn:Int} {x:LvS} {k:Nat} (h:(lvRun p nn x k).c≠0):∀j,k≤j→lvRun p nn x j=lvRun p nn x k
 |0,hj=>by have:k=0:=by omega
           subst this;rfl
 |j+1,hj=>by
  rcases Nat.lt_or_ge j k with h2|h2
  ·have:k=j+1:=by omega
   subst this;rfl
  ·have e:=lvRun_stop h j h2
   rw [lvRun,e,lvStep_no h]
theorem newO_tail (mb:AObj):∀(k:Nat) (R:List AObj),0<k→newO [0] [mb] k R=R
 |_,[],_=>rfl
 |k,ob::R,hk=>by
  rw [newO,newO_tail mb (k+1) R (by omega)]
  have:findN [0] k 0=none:=by
   rw [findN]
   have:Nat.beq 0 k=false:=by cases k with|zero=>omega|succ k=>rfl
   rw [this];rfl
  unfold newOb;rw [this]
theorem split4 {Ov:List AObj} {a b c d:AObj} (h0:Ov[0]?=some a) (h1:Ov[1]?=some b) (h2:Ov[2]?=some c) (h3:Ov[3]?=some d):∃R,Ov=a::b::c::d::R:=by
 match Ov,h3 with
 |a'::b'::c'::d'::R,h3=>simp at h0 h1 h2 h3;exact ⟨R,by rw [h0,h1,h2,h3]⟩
 |[],h=>simp at h
 |[_],h=>simp at h
 |[_,_],h=>simp at h
 |[_,_,_],h=>simp at h
theorem split3 {Ov:List AObj} {b c d:AObj} (hc:4≤Ov.length) (h1:Ov[1]?=some b) (h2:Ov[2]?=some c) (h3:Ov[3]?=some d):∃x R,Ov=x::b::c::d::R:=by
 match Ov,h3 with
 |a'::b'::c'::d'::R,h3=>simp at h1 h2 h3;exact ⟨a',R,by rw [h1,h2,h3]⟩
 |[],h=>simp at h
 |[_],h=>simp at h
 |[_,_],h=>simp at h
 |[_,_,_],h=>simp at h
section
variable {P:Program} {n m:Nat} {G:Ctx} {T:List (Nat×AV)} {R:List AObj} {Q:Exit→St→Prop} {ops:Array Oper} {l:List Oper} {tt:TypeId} {pos:String} {after:Array Edge}
theorem callM1 {f:FuncId} {xs:List Operand} {ats:Array TypeId} {As:List AV} {ob mb0 mb:AObj} {v:Int} {d:Nat} (hc:FnG P f As [mb0] [mb] [] (I v)) (hh:HandM (ob::R) [0] [mb0] (xs.map (av T)) As) (hM:HandO (ob::R) [0] [mb0]) (hsz:mb.size=mb0.size) (hM':Out [mb]) (hn:d<n)
 (h:WpL P n m G false ops l ⟨(d,I v)::T,⟨mb.cells,ob.ep,mb.size,mb.ty⟩::R⟩ Q):
 WpL P n m G false ops ({dst:=some d,op:=.call {callee:=.value (.func f),args:=xs.toArray,argTypes:=ats},type:=tt,pos:=pos,after:=after,guard:=none}::l) ⟨T,ob::R⟩ Q:=by
 refine WpL.op rfl (fun a w hr=>?_) h
 have hcl:=callG_rel hc hh hM (by simp) rfl (fun j x y hx hy=>by
  cases j with
  |zero=>simp at hx hy;subst hx hy;exact hsz
  |succ j=>simp at hx) hM' .nil (r':=I v) rfl hr
 have e:newO [0] [mb] 0 (ob::R)++[]=⟨mb.cells,ob.ep,mb.size,mb.ty⟩::R:=by
  rw [List.append_nil,newO,newO_tail mb 1 R (by omega)];rfl
 rw [e] at hcl
 obtain ⟨⟨fn,hf,hbd,hnm⟩,_⟩:=hc
 have hex:(execOp a.eval {dst:=some d,op:=.call {callee:=.value (.func f),args:=xs.toArray,argTypes:=ats},type:=tt,pos:=pos,after:=after,guard:=none}).run P w=.ok (.enter f (xs.map a.eval).toArray) w:=by
  simp only [execOp,resolve,Act.eval,Deferred.ofValue,invoke,callFunc,Sem.run_bind,Sem.run_pure,Result.andThen_ok,program,Sem.run,hf,hnm,hbd,Bool.false_eq_true,if_false]
  simp
 unfold Oper.wp
 rw [hex]
 refine hcl.mono fun e w' ⟨v,he,S,ι,F,hr',hv⟩=>?_
 subst he
 exact ⟨S,ι,F,hr'.put hn hv⟩
end
attribute [local irreducible] WpA WpL Rnd Blk Abs.Seq Abs.Fin Abs.FinG FnC FnG Only
abbrev k0C:Int→Int:=fun _=>0
theorem lvS_no {p:List UInt8} {s n:Int} (h:fbV p s 0 1 k0C=0):lvS p s n=⟨fbA p s 0 1 k0C,fbC p s 0 1 k0C,0,List.replicate (n*n).toNat 0⟩:=by
 unfold lvS;simp only;rw [if_pos h]
theorem lvS_yes {p:List UInt8} {s n:Int} (h:fbV p s 0 1 k0C≠0):lvS p s n=lvRun p (n*n) ⟨fuA p (fbA p s 0 1 k0C) (fbC p s 0 1 k0C) (kR (n*n)),fuC p (fbA p s 0 1 k0C) (fbC p s 0 1 k0C) (kR (n*n)),0,List.replicate (n*n).toNat 0⟩ (1+fuV p (fbA p s 0 1 k0C) (fbC p s 0 1 k0C) (kR (n*n))).toNat:=by
 unfold lvS;simp only;rw [if_neg h]
theorem lv_room {p:List UInt8} {s nn t:Int} (ht:0≤t∧t≤nn) (h:fuC p s 0 (kR (nn-t))=0):t+fuV p s 0 (kR (nn-t))<nn:=by
 have h2:fuV p s 0 (kR (nn-t))<nn-t:=by
  rcases Int.lt_or_le 0 (nn-t) with hp|hp
  ·exact fuV_lt (by decide) hp
  ·exfalso
   have hv:=ueV_nn p s
   unfold fuC at h
   simp only [if_true] at h
   split at h
   ·have h:ifE (ueV p s<nn-t) 5=0:=h
    rw [ifE_no (by omega)] at h;cases h
   ·rename_i hh;exact hh h
 omega
theorem flv_c (p:List UInt8) (s n:Int) (hl:p.length≤1099511627776) (hn:n=4∨n=8):Gn 267 [.ptr 0 0 0,I n] [FldO p s 0] [FldO p (lvS p s n).a (lvS p s n).c] [XI (lvS p s n).out] (.own 1 0 0 (lvS p s n).out.length):=by
 have hnn:16≤n*n∧n*n≤64:=by rcases hn with rfl|rfl<;>decide
 have hn2:=mul_in (a:=n) (b:=n) (by omega) (by omega)
 generalize hx:lvS p s n=x
 refine FnG.of_bodyF tabOk Tryz.func267 Tryz.ntmps267 rfl (by decide +kernel) (by simp) rfl rfl fun G=>?_
 refine go (r:=?_);and_intros<;>intros<;>try exact True.intro
 refine K.call ?_
 refine WpL.callM (hs:=[0]) (fbits_c p s 0 1 291 [] k0C hl ⟨rfl,rfl,fun x _=>levels1_c.ok x⟩) handA handOA rfl rfl (.cons rfl (.sc (.sc (.sc .nil))) .nil) outA rfl rfl rfl rfl (by decide) ?_
 have b1:=fbV_bd p s 0 1 k0C
 by_cases hv:fbV p s 0 1 k0C=0
 ·rw [lvS_no hv] at hx
  subst hx
  refine go (r:=?_);and_intros<;>intros<;>try exact True.intro
  all_goals first|(exact absurd hv (by assumption))
 ·rw [lvS_yes hv] at hx
  generalize hv1:fbV p s 0 1 k0C=v1 at b1 hv ⊢
  generalize ha1:fbA p s 0 1 k0C=a1 at hx
  generalize hc1:fbC p s 0 1 k0C=c1 at hx
  refine go (r:=?_);and_intros<;>intros<;>try exact True.intro
  all_goals first|(exact absurd (by assumption) hv)|skip
  refine K.call ?_
  refine WpL.callM (hs:=[0]) (fue_c p a1 c1 292 [.iptr [I n] 0] (kR (n*n)) hl ⟨rfl,rfl,fun x _=>levels2_c.ok x n (by omega)⟩) handA handOA rfl rfl (.cons rfl (.sc (.sc (.sc .nil))) .nil) outA rfl rfl rfl rfl (by decide) ?_
  have b2:=fuV_bd p a1 c1 (kR (n*n))
  have b3:=fuV_nn p a1 c1 (kR (n*n))
  generalize hv2:fuV p a1 c1 (kR (n*n))=v2 at b2 b3 hx ⊢
  generalize ha2:fuA p a1 c1 (kR (n*n))=a2 at hx ⊢
  generalize hc2:fuC p a1 c1 (kR (n*n))=c2 at hx ⊢
  have hr0:=lvRun_at (p:=p) (nn:=n*n) (x:=⟨a2,c2,0,List.replicate (n*n).toNat 0⟩) (show (0:Int)≤0∧(0:Int)≤n*n by omega)
  have hln:=lvRun_len p (n*n) ⟨a2,c2,0,List.replicate (n*n).toNat 0⟩
  have hst:∀k,lvRun p (n*n) ⟨a2,c2,0,List.replicate (n*n).toNat 0⟩ (k+1)=lvStep p (n*n) (lvRun p (n*n) ⟨a2,c2,0,List.replicate (n*n).toNat 0⟩ k):=fun _=>rfl
  have hsp:=fun k=>lvRun_stop (p:=p) (nn:=n*n) (x:=⟨a2,c2,0,List.replicate (n*n).toNat 0⟩) (k:=k)
  have hz:lvRun p (n*n) ⟨a2,c2,0,List.replicate (n*n).toNat 0⟩ 0=⟨a2,c2,0,List.replicate (n*n).toNat 0⟩:=rfl
  generalize lvRun p (n*n) ⟨a2,c2,0,List.replicate (n*n).toNat 0⟩=X at hr0 hln hst hsp hz hx
  refine goR (r:=?_);and_intros<;>intros<;>try exact True.intro
  refine WpA.loop (fun k:Nat=>⟨[(0,.ptr 0 0 0),(3,.ptr 1 0 0),(5,.own 2 0 0 (n*n).toNat),(6,.ptr 3 0 0),(7,I (1+v2)),(8,I k)],[FldO p (X k).a (X k).c,⟨[I n],0,0,none⟩,XI (X k).out,⟨[I (X k).at_],0,0,none⟩]⟩) (fun k=>(k:Int)≤1+v2) (fun k=>(1+v2).toNat-k) 0 (by omega) (go (r:=?_)) (fun k hk=>?_)
  ·rw [hz];and_intros<;>first|exact True.intro|rfl
  have hr0:=hr0 k
  have hln:=hln k
  have hst:=hst k
  have hsp:=hsp k
  generalize hy:X k=y at hr0 hln hst hsp ⊢
  have hln:y.out.length=(n*n).toNat:=by simpa using hln
  have hfin:(y.c≠0∨¬(k:Int)<1+v2)→y=x:=by
   rintro (h|h)
   ·rw [←hx,hsp h (1+v2).toNat (by omega)]
   ·have:k=(1+v2).toNat:=by omega
    rw [←hx,←this,hy]
  refine goR (r:=?_);and_intros<;>intros<;>try exact True.intro
  ·have hyc:y.c=0:=by assumption
   have b4:=fuV_bd p y.a y.c (kR (n*n-y.at_))
   have b5:=fuV_nn p y.a y.c (kR (n*n-y.at_))
   have hkb:∀x:Int,-1≤x∧x≤4294967296→Fn 293 (I x::[.iptr [I n] 0,.iptr [I y.at_] 0]) [] (I (kR (n*n-y.at_) x)):=fun x _=>levels3_c.ok x n y.at_ (by omega)
   apply WpA.regionQF (O:=[]) (Or:=[FldO p y.a y.c,⟨[I n],0,0,none⟩,XI y.out,⟨[I y.at_],0,0,none⟩]) (O1:=[FldO p (fuA p y.a y.c (kR (n*n-y.at_))) (fuC p y.a y.c (kR (n*n-y.at_))),⟨[I n],0,0,none⟩,XI y.out,⟨[I y.at_],0,0,none⟩]) 5 0 [1,2,3] rfl mixed (by decide +kernel)
   ·exact rfl
   ·apply HeadQ.consF (V:=I y.at_) .none rfl
    ·exact rfl
    ·intro Tv Ov hc hp hd hk
     obtain ⟨x0,R,rfl⟩:=split3 hc (hk 1 rfl) (hk 2 rfl) (hk 3 rfl)
     exact in0
    ·exact rfl
    ·exact rfl
    apply HeadQ.consF .none rfl
    ·exact rfl
    ·exact in1
    ·exact rfl
    ·exact rfl
    apply HeadQ.consF (V:=.fn 293 [.ptr 1 0 0,.ptr 3 0 0]) .none rfl
    ·exact rfl
    ·exact in1
    ·exact rfl
    ·exact rfl
    apply HeadQ.consF (V:=I (fuV p y.a y.c (kR (n*n-y.at_)))) (.step 0 (FldO p (fuA p y.a y.c (kR (n*n-y.at_))) (fuC p y.a y.c (kR (n*n-y.at_))))) rfl
    ·exact rfl
    ·intro Tv Ov hc hp hd hk
     obtain ⟨R,rfl⟩:=split4 (hp 0 _ rfl) (hk 1 rfl) (hk 2 rfl) (hk 3 rfl)
     refine K.call ?_
     refine callM1 (fue_c p y.a y.c 293 [.iptr [I n] 0,.iptr [I y.at_] 0] (kR (n*n-y.at_)) hl ⟨rfl,rfl,hkb⟩) handA handOA rfl (.cons rfl (.sc (.sc (.sc .nil))) .nil) (by decide) ?_
     exact WpL.nil (Only.mk rfl)
    ·exact rfl
    ·exact rfl
    apply HeadQ.consF .none rfl
    ·exact rfl
    ·exact in1
    ·exact rfl
    ·exact rfl
    exact HeadQ.nil
   ·exact rfl
   ·exact rfl
   ·exact rfl
   ·exact rfl
   ·exact rfl
   ·exact rfl
   ·exact rfl
   generalize hA1:fuA p y.a y.c (kR (n*n-y.at_))=A1
   generalize hC1:fuC p y.a y.c (kR (n*n-y.at_))=C1
   generalize hV1:fuV p y.a y.c (kR (n*n-y.at_))=w1 at b4 b5 ⊢
   rw [hyc] at hA1 hC1 hV1
   have hroom:=lv_room (p:=p) (s:=y.a) hr0
   rw [hC1,hV1] at hroom
   rw [lvStep_yes hyc,hA1,hC1,hV1] at hst
   have hkeep:=fun h=>fuC_keep (p:=p) (s:=A1) (c:=C1) (k:=kL) h
   refine go (r:=?_);and_intros<;>intros<;>try exact True.intro
   refine K.call ?_
   refine WpL.callM (hs:=[0]) (fue_c p A1 C1 295 [] kL hl ⟨rfl,rfl,fun x h=>levels4_c.ok x (by omega)⟩) handA handOA rfl rfl (.cons rfl (.sc (.sc (.sc .nil))) .nil) outA rfl rfl rfl rfl (by decide) ?_
   have b6:=fuV_bd p A1 C1 kL
   by_cases hc2:fuC p A1 C1 kL=0
   ·have h10:C1=0:=by
     by_cases h:C1=0
     ·exact h
     ·exact absurd (hkeep h▸hc2) h
    have hroom:=hroom h10
    rw [if_pos hc2] at hst
    refine go (r:=?_);and_intros<;>intros<;>try exact True.intro
    all_goals first|(exact absurd hc2 (by assumption))|(rw [hst];done)|(rw [hst];rfl)|(rw [hst];simp only;omega)
   ·rw [if_neg hc2] at hst
    refine go (r:=?_);and_intros<;>intros<;>try exact True.intro
    all_goals first|(exact absurd (by assumption) hc2)|(rw [hst];done)|(rw [hst];rfl)
  all_goals first|(obtain rfl:=hfin (by first|exact .inl (by assumption)|exact .inr (by assumption));first|rfl|exact hln.symm)
end Go.Proofs.YtainhhfnnclfiaaGreat


namespace Go.Proofs.YtainhhfnnclfiaaGreat
open Go Go.Abs
theorem rbA_ok {p:List UInt8} {s n:Int} (h:RdOk p s):RdOk p (rbA p s n):=by
 by_cases ho:RbOk p s n
 ·rw [(rb_yes ho).1]
  have h1:=lft_ok h
  have h2:=ho.2.2
  have h3:=ho.2.1
  have h4:=h.1
  constructor<;>omega
 ·rw [(rb_no ho).1];exact h
theorem ueA_ok {p:List UInt8} {s:Int} (h:RdOk p s):RdOk p (ueA p s):=by
 unfold ueA;split
 ·exact rbA_ok h
 ·exact h
theorem fuA_ok {p:List UInt8} {s c:Int} {k:Int→Int} (h:RdOk p s):RdOk p (fuA p s c k):=by
 unfold fuA;split
 ·exact ueA_ok h
 ·exact h
theorem fbA_ok {p:List UInt8} {s c n:Int} {k:Int→Int} (h:RdOk p s):RdOk p (fbA p s c n k):=by
 unfold fbA;split
 ·exact rbA_ok h
 ·exact h
theorem smA_ok {p:List UInt8} {s:Int} {l:List Int} (h:RdOk p s):RdOk p (smA p s l):=by
 by_cases hc:smC p s l=0
 ·rw [smA,if_pos hc]
  have hm:symM p s l<6:=by
   unfold smC at hc
   split at hc
   ·split at hc
    ·assumption
    ·exact absurd hc (by decide)
   ·exact absurd hc (by decide)
  have h0:=symM_lt hm
  have h1:=lft_ok h
  have h2:=h0.2.1.2.2
  have h3:=h0.1
  have h4:=h.1
  constructor<;>omega
 ·rw [smA,if_neg hc];exact h
theorem lvStep_ok {p:List UInt8} {nn:Int} {x:LvS} (h:RdOk p x.a):RdOk p (lvStep p nn x).a:=by
 unfold lvStep;split
 ·simp only;split<;>exact fuA_ok (fuA_ok h)
 ·exact h
theorem lvRun_ok {p:List UInt8} {nn:Int} {x:LvS} (h:RdOk p x.a):∀k,RdOk p (lvRun p nn x k).a
 |0=>h
 |k+1=>by rw [lvRun];exact lvStep_ok (lvRun_ok h k)
theorem lvS_ok {p:List UInt8} {s n:Int} (h:RdOk p s):RdOk p (lvS p s n).a:=by
 unfold lvS;simp only;split
 ·exact fbA_ok h
 ·exact lvRun_ok (x:=⟨_,_,_,_⟩) (fuA_ok (fbA_ok h)) _
theorem blS_ok {p:List UInt8} {s:Int} {lens:List Int} {n:Int} (h:RdOk p s):RdOk p (blS p s lens n).a:=by
 unfold blS;split
 ·split
  ·simp only;split<;>exact lvS_ok (smA_ok h)
  ·exact h
 ·exact h
theorem mbRun_ok {p:List UInt8} {s:Int} {lens:List Int} {n:Int} (h:RdOk p s):∀k,RdOk p (mbRun p s lens n k).a
 |0=>h
 |k+1=>by
  have ih:=mbRun_ok (lens:=lens) (n:=n) h k
  rw [mbRun];simp only;split
  ·split<;>exact blS_ok ih
  ·exact ih
theorem mbS_ok {p:List UInt8} {s:Int} {lens:List Int} (h:RdOk p s):RdOk p (mbS p s lens).1.a:=by
 unfold mbS;split
 ·rename_i ho
  have:RdOk p (s+1):=by have:=rbA_ok (n:=1) h;rwa [(rb_yes ho).1] at this
  exact mbRun_ok this _
 ·exact h
theorem stRun_ok {p:List UInt8} {s:Int} {lens:List Int} (h:RdOk p s):∀k,RdOk p (stRun p s lens k).a
 |0=>h
 |k+1=>by
  have ih:=stRun_ok (lens:=lens) h k
  rw [stRun];simp only;split
  ·split<;>exact mbS_ok ih
  ·exact ih
theorem hdS_ok {p:List UInt8} {s:Int} (h:RdOk p s):RdOk p (hdS p s).a:=by
 unfold hdS;simp only;exact fbA_ok (fbA_ok (fbA_ok (fuA_ok (fuA_ok (fbA_ok h)))))
theorem mbRun_sm {p:List UInt8} {s:Int} {lens:List Int} {n:Int}:∀k,∀b∈(mbRun p s lens n k).bs,b.2.length≤64
 |0,b,hb=>by simp [mbRun] at hb
 |k+1,b,hb=>by
  have ih:=mbRun_sm (p:=p) (s:=s) (lens:=lens) (n:=n) k
  rw [mbRun] at hb;simp only at hb
  split at hb
  ·split at hb
   ·simp at hb
    rcases hb with hb|hb
    ·exact ih b hb
    ·rw [hb];exact blS_len _ _ _ _
   ·simp at hb
  ·exact ih b hb
theorem mbRun_le {p:List UInt8} {s:Int} {lens:List Int} {n:Int}:∀k,(mbRun p s lens n k).bs.length≤k
 |0=>by simp [mbRun]
 |k+1=>by
  have ih:=mbRun_le (p:=p) (s:=s) (lens:=lens) (n:=n) k
  rw [mbRun];simp only
  split
  ·split
   ·simp;exact ih
   ·simp
  ·omega
theorem mbS_sm {p:List UInt8} {s:Int} {lens:List Int}:(mbS p s lens).1.bs.length≤4∧∀b∈(mbS p s lens).1.bs,b.2.length≤64:=by
 unfold mbS;split
 ·refine ⟨Nat.le_trans (mbRun_le _) ?_,mbRun_sm _⟩
  cases decide (rbV p s 1=1)<;>decide
 ·simp
theorem stRun_sm {p:List UInt8} {s:Int} {lens:List Int}:∀k,(stRun p s lens k).ms.length≤k∧∀m∈(stRun p s lens k).ms,m.2.length≤4∧∀b∈m.2,b.2.length≤64
 |0=>by simp [stRun]
 |k+1=>by
  have ih:=stRun_sm (p:=p) (s:=s) (lens:=lens) k
  rw [stRun];simp only
  split
  ·split
   ·simp only [List.length_append,List.length_singleton,List.mem_append,List.mem_singleton]
    refine ⟨by have:=ih.1;omega,fun m hm=>?_⟩
    rcases hm with hm|hm
    ·exact ih.2 m hm
    ·rw [hm];exact mbS_sm
   ·simp
  ·exact ⟨by have:=ih.1;omega,ih.2⟩
theorem stRun_stop {p:List UInt8} {s:Int} {lens:List Int} {k:Nat} (h:(stRun p s lens k).c≠0):∀j,k≤j→stRun p s lens j=stRun p s lens k
 |0,hj=>by have:k=0:=by omega
           subst this;rfl
 |j+1,hj=>by
  rcases Nat.lt_or_ge j k with h2|h2
  ·have:k=j+1:=by omega
   subst this;rfl
  ·have e:=stRun_stop h j h2
   rw [stRun];simp only;rw [e,if_neg h]
theorem stRun_len (p:List UInt8) (s:Int) (lens:List Int):∀k,(stRun p s lens k).c=0→(stRun p s lens k).ms.length=k
 |0,_=>rfl
 |k+1,h=>by
  have ih:=stRun_len p s lens k
  rw [stRun] at h ⊢
  simp only at h ⊢
  split at h
  ·rename_i hx
   rw [if_pos hx]
   split at h
   ·rename_i hb;rw [if_pos hb];simp [ih hx]
   ·rename_i hb;exact absurd h hb
  ·rename_i hx;exact absurd h hx
structure PrS where
 W:Int
 H:Int
 Q:Int
 B:Bool
 D:Bool
 L:List Int
 ms:List Mbk
 a:Int
 c:Int
def prS (p:List UInt8):PrS:=
 let x:=hdS p 0
 if x.c=0 then
  let y:=stRun p x.a x.L (cntM x.W x.H).toNat
  if y.c=0 then
   if endC p y.a=0 then ⟨x.W,x.H,x.Q,x.B,x.D,x.L,y.ms,y.a,0⟩ else ⟨0,0,0,false,false,[],[],y.a,endC p y.a⟩
  else ⟨0,0,0,false,false,[],[],y.a,y.c⟩
 else ⟨0,0,0,false,false,[],[],x.a,x.c⟩
theorem fuV_max {p:List UInt8} {s c:Int}:0≤fuV p s c hk2∧fuV p s c hk2≤3:=by
 refine ⟨fuV_nn _ _ _ _,?_⟩
 unfold fuV;split
 ·rename_i h
  unfold fuC at h
  split at h
  ·split at h
   ·by_cases hlt:ueV p s≤3
    ·exact hlt
    ·have h:ifE (ueV p s≤3) 3=0:=h
     rw [ifE_no hlt] at h;exact absurd h (by decide)
   ·rename_i hu;exact absurd h hu
  ·rename_i hc;exact absurd h hc
 ·omega
theorem hdS_sides {p:List UInt8} {s:Int} (h:(hdS p s).c=0):SidesOk (hdS p s).W (hdS p s).H:=by
 have hw:0≤(hdS p s).w∧(hdS p s).w≤3:=by unfold hdS;exact fuV_max
 have hh:0≤(hdS p s).h∧(hdS p s).h≤3:=by unfold hdS;exact fuV_max
 rw [HdS.W,if_pos h,HdS.H,if_pos h]
 omega
end Go.Proofs.YtainhhfnnclfiaaGreat


namespace Go.Proofs.YtainhhfnnclfiaaGreat
open Go Go.Abs
attribute [local irreducible] WpA WpL Rnd Blk Abs.Seq Abs.Fin Abs.FinG FnC FnG Only
end Go.Proofs.YtainhhfnnclfiaaGreat


namespace Go.Abs
open Go
section
variable {P:Program} (w:World)
end
section
variable {P:Program} {n m:Nat} {G:Ctx} {T:List (Nat×AV)} {O:List AObj} {Q:Exit→St→Prop} {ops:Array Oper} {l:List Oper} {d:Nat} {tt:TypeId} {pos:String} {after:Array Edge} {tab:List (Nat×Ty)}
end
end Go.Abs


namespace Go.Proofs.YtainhhfnnclfiaaGreat
open Go Go.Abs
attribute [local irreducible] WpA WpL Rnd Blk Abs.Seq Abs.Fin Abs.FinG FnC FnG Only
end Go.Proofs.YtainhhfnnclfiaaGreat


namespace Go.Proofs.YtainhhfnnclfiaaGreat
open Go Go.Abs
attribute [local irreducible] WpA WpL Rnd Blk Abs.Seq Abs.Fin Abs.FinG FnC FnG Only
def Bits (l:List Int):Prop:=∀x∈l,x=0∨x=1
instance areBits_c:Con 221 (∀ l:List Int,l.length≤1099511627776∧Bits l→Fn 221 [IL l] [] (B true)):=⟨fun l hl=>by
 refine FnC.of_body tabOk Tryz.func221 Tryz.ntmps221 rfl (by decide +kernel) (by simp) fun G=>?_
 refine go (r:=?_);and_intros<;>intros<;>try exact True.intro
 refine WpA.loop (fun k:Nat=>⟨[(5,IL l),(6,I l.length),(7,I k)],[]⟩) (fun k=>k≤l.length) (fun k=>l.length-k) 0 (by omega) (go (r:=?_)) (fun k hk=>?_)
 ·trivial
 have hb:k<l.length→l.getD k 0=0∨l.getD k 0=1:=fun h=>hl.2 _ (by simp [h])
 refine go (r:=?_);and_intros<;>intros<;>try exact True.intro
 all_goals first|(have:=hb (by omega);omega)⟩
def byB (l:List Int):Nat→List Int
 |0=>List.replicate (l.length/8) 0
 |k+1=>(byB l k).set (k/8) (IntKind.u8.wrap ((BitVec.ofInt IntKind.u8.bits ((byB l k).getD (k/8) 0) ||| BitVec.ofInt IntKind.u8.bits (IntKind.u8.wrap (IntKind.i64.wrap (l.getD k 0*2 ^ (7-k%8))))).toNat:Nat))
theorem byB_len (l:List Int):∀k,(byB l k).length=l.length/8
 |0=>by simp [byB]
 |k+1=>by rw [byB,List.length_set,byB_len l k]
def strB (l:List Int):List UInt8:=(byB l l.length).map fun n:Int=>UInt8.ofNat n.toNat
instance BytesOf_c:Con 149 (∀ l:List Int,l.length≤1099511627776∧Bits l∧l.length%8=0→Fn 149 [IL l] [] (.tup [Z (strB l),B true])):=⟨fun l hl=>by
 refine FnC.of_body tabOk Tryz.func149 Tryz.ntmps149 rfl (by decide +kernel) (by simp) fun G=>?_
 refine go (r:=?_);and_intros<;>intros<;>try exact True.intro
 all_goals first|exact hl.2.1|exact hl.2.1 _ (by assumption)|omega|skip
 refine WpA.loop (fun k:Nat=>⟨[(4,.own 0 0 0 (l.length/8)),(20,IL l),(21,I l.length),(22,I k)],[⟨u8s (byB l k),0,1,some 5⟩]⟩) (fun k=>k≤l.length) (fun k=>l.length-k) 0 (by omega) (go (r:=?_)) (fun k hk=>?_)
 ·and_intros<;>first|exact True.intro|rfl
 have hb:k<l.length→l.getD k 0=0∨l.getD k 0=1:=fun h=>hl.2.1 _ (by simp [h])
 have hln:=byB_len l k
 refine go (r:=?_);and_intros<;>intros<;>try exact True.intro
 ·rw [show ((k:Int)/8).toNat=k/8 by omega,show (7-(k:Int)%8).toNat=7-k%8 by omega];rfl
 ·obtain rfl:k=l.length:=by omega
  refine K.cv ?_
  refine WpL.ofBytes tabOk rfl rfl rfl rfl rfl (by simp [u8s,hln]) (by decide) ?_
  refine go (r:=?_);and_intros<;>intros<;>try exact True.intro
  all_goals trace_state⟩
end Go.Proofs.YtainhhfnnclfiaaGreat


namespace Go.Proofs.YtainhhfnnclfiaaGreat
open Go Go.Abs
attribute [local irreducible] WpA WpL Rnd Blk Abs.Seq Abs.Fin Abs.FinG FnC FnG Only
abbrev BkV (m:Int) (l:List Int):AV:=.agg [I m,.own 0 0 0 l.length]
theorem blS_1 {p:List UInt8} {s:Int} {lens:List Int} {n:Int} (hn:n=4∨n=8) (hs:smC p s lens=0) (hc:(lvS p (smA p s lens) n).c=0):blS p s lens n=⟨(lvS p (smA p s lens) n).a,0,smV p s lens,(lvS p (smA p s lens) n).out⟩:=by
 unfold blS;rw [if_pos hn,if_pos hs];simp only;rw [if_pos hc]
theorem blS_2 {p:List UInt8} {s:Int} {lens:List Int} {n:Int} (hn:n=4∨n=8) (hs:smC p s lens=0) (hc:(lvS p (smA p s lens) n).c≠0):blS p s lens n=⟨(lvS p (smA p s lens) n).a,(lvS p (smA p s lens) n).c,0,[]⟩:=by
 unfold blS;rw [if_pos hn,if_pos hs];simp only;rw [if_neg hc]
theorem blS_3 {p:List UInt8} {s:Int} {lens:List Int} {n:Int} (hn:n=4∨n=8) (hs:smC p s lens≠0):blS p s lens n=⟨s,smC p s lens,0,[]⟩:=by
 unfold blS;rw [if_pos hn,if_neg hs]
theorem blS_4 {p:List UInt8} {s:Int} {lens:List Int} {n:Int} (hn:¬(n=4∨n=8)):blS p s lens n=⟨s,5,0,[]⟩:=by
 unfold blS;rw [if_neg hn]
theorem smA_bad {p:List UInt8} {s:Int} {l:List Int} (h:smC p s l≠0):smA p s l=s:=by rw [smA,if_neg h]
instance ReadBlock_c:Con 213 (∀ (p:List UInt8) (s:Int) (lens:List Int) (n:Int),p.length≤1099511627776∧lens.length≤1099511627776→Fn 213 [RA p s,IL lens,I n] [XI (blS p s lens n).l] (.tup [RA p (blS p s lens n).a,BkV (blS p s lens n).m (blS p s lens n).l,I (blS p s lens n).c])):=⟨fun p s lens n hl=>by
 refine FnC.of_body tabOk Tryz.func213 Tryz.ntmps213 rfl (by decide +kernel) (by simp) fun G=>?_
 by_cases hn:n=4∨n=8
 ·by_cases hs:smC p s lens=0
  ·refine go (r:=?_);and_intros<;>intros<;>try exact True.intro
   all_goals first|(exact absurd hs (by assumption))|(exact absurd hn (by assumption))|skip
   refine K.call ?_
   refine WpL.callM (hs:=[3]) (flv_c p (smA p s lens) n hl.1 hn) handA handOA rfl rfl (.cons rfl (.sc (.sc (.sc .nil))) .nil) outA rfl rfl rfl rfl (by decide) ?_
   have e1:=blS_1 (p:=p) (s:=s) (lens:=lens) hn hs
   have e2:=blS_2 (p:=p) (s:=s) (lens:=lens) hn hs
   generalize lvS p (smA p s lens) n=y at e1 e2 ⊢
   by_cases hy:y.c=0
   ·rw [e1 hy]
    refine go (r:=?_);and_intros<;>intros<;>try exact True.intro
   ·rw [e2 hy]
    refine go (r:=?_);and_intros<;>intros<;>try exact True.intro
  ·rw [blS_3 hn hs]
   have ea:=smA_bad hs
   refine go (r:=?_);and_intros<;>intros<;>try exact True.intro
 ·rw [blS_4 hn]
  refine go (r:=?_);and_intros<;>intros<;>try exact True.intro⟩
theorem mbRun_len (p:List UInt8) (s:Int) (lens:List Int) (n:Int):∀k,(mbRun p s lens n k).c=0→(mbRun p s lens n k).bs.length=k
 |0,_=>rfl
 |k+1,h=>by
  have ih:=mbRun_len p s lens n k
  rw [mbRun] at h ⊢
  simp only at h ⊢
  split at h
  ·rename_i hx
   rw [if_pos hx]
   split at h
   ·rename_i hb;rw [if_pos hb];simp [ih hx]
   ·rename_i hb;exact absurd h hb
  ·rename_i hx;exact absurd h hx
theorem mbRun_stop {p:List UInt8} {s:Int} {lens:List Int} {n:Int} {k:Nat} (h:(mbRun p s lens n k).c≠0):∀j,k≤j→mbRun p s lens n j=mbRun p s lens n k
 |0,hj=>by have:k=0:=by omega
           subst this;rfl
 |j+1,hj=>by
  rcases Nat.lt_or_ge j k with h2|h2
  ·have:k=j+1:=by omega
   subst this;rfl
  ·have e:=mbRun_stop h j h2
   rw [mbRun];simp only;rw [e,if_neg h]
theorem mbS_no {p:List UInt8} {s:Int} {lens:List Int} (h:¬RbOk p s 1):mbS p s lens=(⟨s,1,[]⟩,false):=by unfold mbS;rw [if_neg h]
theorem nm8_nat (e:Bool):(bif e then 1 else 4:Nat)=(nm8 e).toNat:=by cases e<;>rfl
theorem mbS_yes {p:List UInt8} {s:Int} {lens:List Int} {E:Bool} (h:RbOk p s 1) (hE:decide (rbV p s 1=1)=E):mbS p s lens=(mbRun p (s+1) lens (sz8 E) (nm8 E).toNat,bif decide ((mbRun p (s+1) lens (sz8 E) (nm8 E).toNat).c=0) then E else false):=by
 unfold mbS;rw [if_pos h,hE];simp only;rw [nm8_nat];rfl
theorem mbRun_bad {p:List UInt8} {s:Int} {lens:List Int} {n:Int} {k:Nat} (h:(mbRun p s lens n k).c=0) (hb:(blS p (mbRun p s lens n k).a lens n).c≠0):∀j,k<j→mbRun p s lens n j=⟨(blS p (mbRun p s lens n k).a lens n).a,(blS p (mbRun p s lens n k).a lens n).c,[]⟩:=by
 intro j hj
 have e:mbRun p s lens n (k+1)=⟨(blS p (mbRun p s lens n k).a lens n).a,(blS p (mbRun p s lens n k).a lens n).c,[]⟩:=by
  rw [mbRun];simp only;rw [if_pos h,if_neg hb]
 rw [mbRun_stop (k:=k+1) (by rw [e];exact hb) j hj,e]
theorem mbRun_next {p:List UInt8} {s:Int} {lens:List Int} {n:Int} {k:Nat} (h:(mbRun p s lens n k).c=0) (hb:(blS p (mbRun p s lens n k).a lens n).c=0):mbRun p s lens n (k+1)=⟨(blS p (mbRun p s lens n k).a lens n).a,0,(mbRun p s lens n k).bs++[((blS p (mbRun p s lens n k).a lens n).m,(blS p (mbRun p s lens n k).a lens n).l)]⟩:=by
 rw [mbRun];simp only;rw [if_pos h,if_pos hb]
abbrev MbV (e:Bool) (n:Nat):AV:=.agg [B e,.own 0 0 0 n]
instance ReadMb_c:Con 142 (∀ (p:List UInt8) (s:Int) (lens:List Int),p.length≤1099511627776∧lens.length≤1099511627776→Fn 142 [RA p s,IL lens] [BkO (mbS p s lens).1.bs] (.tup [RA p (mbS p s lens).1.a,MbV (mbS p s lens).2 (mbS p s lens).1.bs.length,I (mbS p s lens).1.c])):=⟨fun p s lens hl=>by
 refine FnC.of_body tabOk Tryz.func142 Tryz.ntmps142 rfl (by decide +kernel) (by simp) fun G=>?_
 by_cases ho:RbOk p s 1
 ·have ea:=(rb_yes ho).1
  generalize hE:decide (rbV p s 1=1)=E
  rw [mbS_yes ho hE]
  have hc8:=sz8_cases E
  refine go (r:=?_);and_intros<;>intros<;>try exact True.intro
  all_goals first|contradiction|skip
  rw [hE,ea]
  have hz:(mbRun p (s+1) lens (sz8 E) 0)=⟨s+1,0,[]⟩:=rfl
  have hln:=fun k h=>mbRun_len p (s+1) lens (sz8 E) k h
  have hnx:=fun k h hb=>mbRun_next (p:=p) (s:=s+1) (lens:=lens) (n:=sz8 E) (k:=k) h hb
  have hbd:=fun k h hb j hj=>mbRun_bad (p:=p) (s:=s+1) (lens:=lens) (n:=sz8 E) (k:=k) h hb j hj
  generalize mbRun p (s+1) lens (sz8 E)=X at hz hln hnx hbd ⊢
  refine WpA.loop (fun k:Nat=>⟨[(1,IL lens),(2,.ptr 0 0 0),(4,.ptr 1 0 0),(5,.ptr 2 0 0),(9,.ptr 3 0 0),(11,I (sz8 E)),(34,I (nm8 E)),(35,I k)],[⟨[Z p,I (X k).a],0,0,none⟩,R0,⟨[B false,.nilS],0,0,none⟩,⟨[B E,.own 4 0 0 k],0,0,none⟩,BkO (X k).bs]⟩) (fun k=>(k:Int)≤nm8 E∧(X k).c=0) (fun k=>(nm8 E).toNat-k) 0 (by rw [hz];exact ⟨by omega,rfl⟩) ?_ (fun k hk=>?_)
  ·rw [hz];exact Weak.nil1 (by first|(show 0≤_;exact Nat.zero_le _)|(repeat' (first|exact RzT.nil|refine RzT.cons ?_ ?_|exact Rz.nil|refine Rz.keep rfl rfl ?_|refine Rz.own rfl rfl rfl rfl rfl (by first|rfl|omega|(simp;done)) ?_|refine Rz.ptr rfl rfl rfl rfl ?_|refine Rz.nilO rfl rfl rfl (by first|rfl|omega|(simp;done)) ?_|refine Rz.agg ?_ ?_|exact RzO.last rfl|(refine RzO.cons ?_ (.inr rfl) ?_)|exact Rz.same rfl (still_ints _)|exact Rz.same rfl (still_rows (fun _=>rfl) _)))) (by first|(show 0≤_;exact Nat.zero_le _)|(repeat' (first|exact RzT.nil|refine RzT.cons ?_ ?_|exact Rz.nil|refine Rz.keep rfl rfl ?_|refine Rz.own rfl rfl rfl rfl rfl (by first|rfl|omega|(simp;done)) ?_|refine Rz.ptr rfl rfl rfl rfl ?_|refine Rz.nilO rfl rfl rfl (by first|rfl|omega|(simp;done)) ?_|refine Rz.agg ?_ ?_|exact RzO.last rfl|(refine RzO.cons ?_ (.inr rfl) ?_)|exact Rz.same rfl (still_ints _)|exact Rz.same rfl (still_rows (fun _=>rfl) _)))) (Nat.zero_le _)
  have hln:=hln k hk.2
  have hnx:=hnx k hk.2
  have hbd:=hbd k hk.2
  have hfin:¬(k:Int)<nm8 E→X (nm8 E).toNat=X k:=fun h=>by rw [show (nm8 E).toNat=k by omega]
  generalize hy:X k=y at hk hln hnx hbd hfin ⊢
  have hln:y.bs.length=k:=hln
  by_cases hb:(blS p y.a lens (sz8 E)).c=0
  ·have hnx:=hnx hb
   clear hbd
   refine go (r:=?_);and_intros<;>intros<;>try exact True.intro
   all_goals first|contradiction|(rw [hnx];done)|(rw [hfin (by assumption)];first|done|omega|(simp [hk.2];done)|(simp only;omega))
  ·have hbd:=hbd hb
   clear hnx
   refine go (r:=?_);and_intros<;>intros<;>try exact True.intro
   all_goals first|contradiction|(rw [hbd _ (by omega)];first|done|(simp [hb];done))|(rw [hfin (by assumption)];first|done|omega|(simp [hk.2];done)|(simp only;omega))
 ·rw [mbS_no ho]
  have ea:=(rb_no ho).1
  refine go (r:=?_);and_intros<;>intros<;>try exact True.intro
  all_goals first|contradiction⟩
end Go.Proofs.YtainhhfnnclfiaaGreat


namespace Go.Proofs.YtainhhfnnclfiaaGreat
open Go Go.Abs
attribute [local irreducible] WpA WpL Rnd Blk Abs.Seq Abs.Fin Abs.FinG FnC FnG Only
def pvC (p:List UInt8) (s room:Int):Int:=fuC p (fuA p s 0 (kR room)) (fuC p s 0 (kR room)) kL
def pvA (p:List UInt8) (s room:Int):Int:=fuA p (fuA p s 0 (kR room)) (fuC p s 0 (kR room)) kL
def pvR (p:List UInt8) (s room:Int):Int:=if pvC p s room=0 then fuV p s 0 (kR room) else 0
def pvL (p:List UInt8) (s room:Int):Int:=if pvC p s room=0 then lvOf (fuV p (fuA p s 0 (kR room)) (fuC p s 0 (kR room)) kL) else 0
theorem fu_yes {p:List UInt8} {s:Int} {k:Int→Int} (h:ueC p s=0) (hk:k (ueV p s)=0):fuC p s 0 k=0∧fuA p s 0 k=ueA p s∧fuV p s 0 k=ueV p s:=by
 have e:fuC p s 0 k=0:=by rw [fuC,if_pos rfl,if_pos h,hk]
 exact ⟨e,by rw [fuA,if_pos e],by rw [fuV,if_pos e]⟩
theorem pv_5 {p:List UInt8} {s room:Int} (h:ueC p s=0) (h2:ueV p s<room) (h3:ueC p (ueA p s)=0) (h4:-16383≤lvOf (ueV p (ueA p s))∧lvOf (ueV p (ueA p s))≤16383):pvA p s room=ueA p (ueA p s)∧pvC p s room=0∧pvR p s room=ueV p s∧pvL p s room=lvOf (ueV p (ueA p s)):=by
 have e:=fu_yes (k:=kR room) h (ifE_yes h2)
 have f:=fu_yes (k:=kL) h3 (ifE_yes h4)
 have e2:pvC p s room=0:=by rw [pvC,e.1,e.2.1,f.1]
 exact ⟨by rw [pvA,e.1,e.2.1,f.2.1],e2,by rw [pvR,if_pos e2,e.2.2],by rw [pvL,if_pos e2,e.1,e.2.1,f.2.2]⟩
theorem lvStep_pv0 {p:List UInt8} {nn:Int} {x:LvS} (hc:x.c=0) (h:pvC p x.a (nn-x.at_)=0):lvStep p nn x=⟨pvA p x.a (nn-x.at_),0,x.at_+pvR p x.a (nn-x.at_)+1,x.out.set (x.at_+pvR p x.a (nn-x.at_)).toNat (pvL p x.a (nn-x.at_))⟩:=by
 have h':=h
 rw [pvC] at h'
 have e3:pvR p x.a (nn-x.at_)=fuV p x.a 0 (kR (nn-x.at_)):=by rw [pvR,if_pos h]
 have e4:pvL p x.a (nn-x.at_)=lvOf (fuV p (fuA p x.a 0 (kR (nn-x.at_))) (fuC p x.a 0 (kR (nn-x.at_))) kL):=by rw [pvL,if_pos h]
 rw [lvStep_yes hc,if_pos h',e3,e4,h'];rfl
section
attribute [local irreducible] ueA ueV ueC pvC pvA pvR pvL lvOf
end
theorem k0_ok {p:List UInt8} {s:Int} (h:RbOk p s 1):fbC p s 0 1 k0C=0∧fbA p s 0 1 k0C=rbA p s 1∧fbV p s 0 1 k0C=rbV p s 1:=by
 have e1:fbC p s 0 1 k0C=0:=by rw [fbC,if_pos rfl,if_pos h]
 exact ⟨e1,by rw [fbA,if_pos ⟨rfl,e1⟩],by rw [fbV,if_pos e1]⟩
theorem lv_2 {p:List UInt8} {s n:Int} (h:RbOk p s 1) (hv:rbV p s 1=0):lvS p s n=⟨rbA p s 1,0,0,List.replicate (n*n).toNat 0⟩:=by
 obtain ⟨e1,e2,e3⟩:=k0_ok h
 rw [lvS_no (by rw [e3];exact hv),e1,e2]
theorem lv_5 {p:List UInt8} {s n:Int} (h:RbOk p s 1) (hv:rbV p s 1≠0) (hu:ueC p (rbA p s 1)=0) (h2:ueV p (rbA p s 1)<n*n):lvS p s n=lvRun p (n*n) ⟨ueA p (rbA p s 1),0,0,List.replicate (n*n).toNat 0⟩ (1+ueV p (rbA p s 1)).toNat:=by
 obtain ⟨e1,e2,e3⟩:=k0_ok h
 have f:=fu_yes (k:=kR (n*n)) hu (ifE_yes h2)
 rw [lvS_yes (by rw [e3];exact hv),e1,e2,f.1,f.2.1,f.2.2]
section
attribute [local irreducible] rbA rbV ueA ueV ueC pvC pvA pvR pvL lvOf lvS lvRun
end
section
attribute [local irreducible] lvS smA smV smC blS
end
section
attribute [local irreducible] rbA rbV blS mbS mbRun sz8 nm8
end
end Go.Proofs.YtainhhfnnclfiaaGreat


namespace Go.Proofs.YtainhhfnnclfiaaGreat
open Go Go.Abs
def Holds (p:List UInt8) (s:Int) (b:List Int):Prop:=0≤s∧s+b.length≤8*(p.length:Int)∧∀k<b.length,btA p (s+(k:Nat))=b.getD k 0
theorem holds_left {p:List UInt8} {s:Int} {a b:List Int} (h:Holds p s (a++b)):Holds p s a:=by
 obtain ⟨h0,h1,h2⟩:=h
 rw [List.length_append] at h1
 refine ⟨h0,by omega,fun k hk=>?_⟩
 rw [h2 k (by rw [List.length_append];omega)]
 simp [List.getD_eq_getElem?_getD,List.getElem?_append_left hk]
theorem holds_right {p:List UInt8} {s:Int} {a b:List Int} (h:Holds p s (a++b)):Holds p (s+a.length) b:=by
 obtain ⟨h0,h1,h2⟩:=h
 rw [List.length_append] at h1
 refine ⟨by omega,by omega,fun k hk=>?_⟩
 have:=h2 (a.length+k) (by rw [List.length_append];omega)
 rw [show s+(a.length:Int)+(k:Nat)=s+((a.length+k:Nat):Int) by omega,this]
 simp [List.getD_eq_getElem?_getD,List.getElem?_append_right]
theorem holds_rd {p:List UInt8} {s:Int} {b:List Int} (h:Holds p s b):RdOk p s:=⟨h.1,by have:=h.2.1;omega⟩
theorem holds_lft {p:List UInt8} {s:Int} {b:List Int} (h:Holds p s b):(b.length:Int)≤lft p s:=by
 rw [lft_ok (holds_rd h)];have:=h.2.1;omega
theorem holds_rb {p:List UInt8} {s:Int} {b:List Int} (h:Holds p s b) {n:Int} (h0:0≤n) (h1:n≤b.length) (h2:n≤32):RbOk p s n:=⟨holds_rd h,⟨h0,h2⟩,by have:=holds_lft h;omega⟩
theorem numS_bit {l:List Int} (h:Bit01 l) (hl:l.length=8) (j:Nat) (hj:j<8):numS l 8/2 ^ (7-j)%2=l.getD j 0:=by
 match l,hl with
 |[a,b,c,d,e,f,g,i],_=>
  have ha:0≤a∧a≤1:=by rcases h a (by simp) with e|e<;>omega
  have hb:0≤b∧b≤1:=by rcases h b (by simp) with e|e<;>omega
  have hc:0≤c∧c≤1:=by rcases h c (by simp) with e|e<;>omega
  have hd:0≤d∧d≤1:=by rcases h d (by simp) with e|e<;>omega
  have he:0≤e∧e≤1:=by rcases h e (by simp) with e|e<;>omega
  have hf:0≤f∧f≤1:=by rcases h f (by simp) with e|e<;>omega
  have hg:0≤g∧g≤1:=by rcases h g (by simp) with e|e<;>omega
  have hi:0≤i∧i≤1:=by rcases h i (by simp) with e|e<;>omega
  have hj2:j=0∨j=1∨j=2∨j=3∨j=4∨j=5∨j=6∨j=7:=by omega
  have e8:numS [a,b,c,d,e,f,g,i] 8=((((((((0*2+a)*2+b)*2+c)*2+d)*2+e)*2+f)*2+g)*2+i):=rfl
  rw [e8]
  rcases hj2 with rfl|rfl|rfl|rfl|rfl|rfl|rfl|rfl
  ·show _/(128:Int)%2=a;omega
  ·show _/(64:Int)%2=b;omega
  ·show _/(32:Int)%2=c;omega
  ·show _/(16:Int)%2=d;omega
  ·show _/(8:Int)%2=e;omega
  ·show _/(4:Int)%2=f;omega
  ·show _/(2:Int)%2=g;omega
  ·show _/(1:Int)%2=i;omega
theorem bit1_eq {y:Int} (h:0≤y∧y≤255):bit1 y=y%2:=low1 y ⟨h.1,by omega⟩
theorem str_bit {x:List Int} (h:Bit01 x) (i:Nat) (hi:i<8*(x.length/8)):btA (strS x) (i:Nat)=x.getD i 0:=by
 have hl:=strS_len x
 unfold btA
 rw [if_neg (by omega)]
 have e1:((i:Int)/8).toNat=i/8:=by omega
 have e2:((7:Int)-(i:Int)%8).toNat=7-i%8:=by omega
 have hb:=numS_256 (b01_mid h (8*(i/8))) (Nat.le_refl 8)
 have e3:((strS x).getD (i/8) 0).toNat=(numS ((x.drop (8*(i/8))).take 8) 8).toNat:=by
  unfold strS byI
  have hlt:i/8<x.length/8:=by omega
  simp only [List.getD_eq_getElem?_getD,List.getElem?_map,List.getElem?_range hlt,Option.map_some,Option.getD_some]
  rw [UInt8.toNat_ofNat']
  omega
 rw [e1,e2,e3]
 have e4:(((numS ((x.drop (8*(i/8))).take 8) 8).toNat:Nat):Int)=numS ((x.drop (8*(i/8))).take 8) 8:=by omega
 rw [e4]
 have hq:=shr_bd (numS ((x.drop (8*(i/8))).take 8) 8) (7-i%8) hb.1
 rw [bit1_eq ⟨hq.1,by omega⟩,numS_bit (b01_mid h _) (by rw [List.length_take,List.length_drop];omega) (i%8) (by omega)]
 simp only [List.getD_eq_getElem?_getD,List.getElem?_take,List.getElem?_drop]
 rw [if_pos (by omega),show 8*(i/8)+i%8=i by omega]
theorem pad_mult (n:Nat):(n+1+padN n)%8=0:=by unfold padN;omega
theorem stop_holds {b:List Int} (h:Bit01 b):Holds (stopS b) 0 (padL b (padN b.length)):=by
 have hl:=padL_len b (padN b.length)
 have hm:=pad_mult b.length
 have hs:=strS_len (padL b (padN b.length))
 refine ⟨by omega,by unfold stopS;omega,fun k hk=>?_⟩
 rw [Int.zero_add]
 exact str_bit (b01_pad h _) k (by omega)
theorem num_of {p:List UInt8} {s n:Int} {w:Nat} (hn:0≤n) (h:∀j<w,btA p (s+(j:Nat))=n/2 ^ (w-1-j)%2):∀k,k≤w→numB p s k=n/2 ^ (w-k)%2 ^ k
 |0,_=>by simp [numB]
 |k+1,hk=>by
  rw [numB,num_of hn h k (by omega),bv,h k (by omega)]
  have e1:w-k=(w-(k+1))+1:=by omega
  have e2:w-1-k=w-(k+1):=by omega
  rw [e2,e1]
  have e3:(2:Int) ^ (w-(k+1)+1)=2 ^ (w-(k+1))*2:=Int.pow_succ ..
  have e4:(2:Int) ^ (k+1)=2*2 ^ k:=by rw [Int.pow_succ,Int.mul_comm]
  rw [e3,←Int.ediv_ediv_of_nonneg (Int.le_of_lt (Int.pow_pos (by decide))),e4]
  generalize n/2 ^ (w-(k+1))=y
  have e5:y%(2*2 ^ k)=y%2+2*(y/2%2 ^ k):=by
   have:=Int.emod_emod_of_dvd y (Int.dvd_mul_right 2 (2 ^ k))
   have h1:=Int.mul_ediv_add_emod y 2
   have h2:=Int.mul_ediv_add_emod (y/2) (2 ^ k)
   have hp:(0:Int)<2 ^ k:=Int.pow_pos (by decide)
   have h3:=Int.emod_nonneg (y/2) (Int.ne_of_gt hp)
   have h4:=Int.emod_lt_of_pos (y/2) hp
   have e6:y=(2*2 ^ k)*(y/2/2 ^ k)+(y%2+2*(y/2%2 ^ k)):=by
    have:(2:Int)*2 ^ k*(y/2/2 ^ k)=2*(2 ^ k*(y/2/2 ^ k)):=by rw [Int.mul_assoc]
    omega
   conv=>lhs;rw [e6]
   rw [Int.mul_add_emod_self_left,Int.emod_eq_of_lt (by omega) (by omega)]
  omega
theorem holds_num {p:List UInt8} {s n w:Int} (hb:bitOk n w) (h:Holds p s (bitsL n w)):numB p s w.toNat=n:=by
 unfold bitsL at h
 rw [if_pos hb] at h
 obtain ⟨⟨hw0,hw1⟩,hn,hz⟩:=hb
 obtain ⟨h0,h1,h2⟩:=h
 rw [bitsR_len] at h2
 rw [num_of (w:=w.toNat) hn (fun j hj=>by
  rw [h2 j hj]
  simp [bitsR,List.getD_eq_getElem?_getD,hj]) w.toNat (Nat.le_refl _)]
 rw [Nat.sub_self,Int.pow_zero,Int.ediv_one]
 have hp:(0:Int)<2 ^ w.toNat:=Int.pow_pos (by decide)
 have:=Int.mul_ediv_add_emod n (2 ^ w.toNat)
 rw [hz] at this
 omega
theorem bits_len {n w:Int} (hb:bitOk n w):((bitsL n w).length:Int)=w:=by
 unfold bitsL
 rw [if_pos hb,bitsR_len]
 have:=hb.1.1
 omega
theorem holds_bits {p:List UInt8} {s n w:Int} (hb:bitOk n w) (hw:w≤32) (h:Holds p s (bitsL n w)):RbOk p s w∧rbA p s w=s+w∧rbV p s w=n:=by
 have hr:=holds_rb h hb.1.1 (by rw [bits_len hb];omega) hw
 have:=rb_yes hr
 exact ⟨hr,this.1,this.2.trans (holds_num hb h)⟩
theorem holds_ue {p:List UInt8} {s n:Int} (hn:0≤n∧n≤65534) (h:Holds p s (ueL n)):ueC p s=0∧ueA p s=s+(ueL n).length∧ueV p s=n:=by
 obtain ⟨m,rfl⟩:∃m:Nat,n=m:=⟨n.toNat,by omega⟩
 have hm:m≤65534:=by omega
 have hz:=lg_16 (x:=m+1) (by omega) (by omega)
 have hw:=ueL_wide hm
 have hb:=bitOk_ue (n:=m) (2*Nat.log2 (m+1)+1) hm (by omega) (by omega)
 have hlen:=bits_len hb
 rw [hw] at hlen
 have hsh:ueL (m:Int)=List.replicate (Nat.log2 (m+1)) 0++bitsL ((m:Int)+1) ((Nat.log2 (m+1)+1:Nat):Int):=by
  rw [ueL,if_pos hn];simp
 have hzr:zrs p s=Nat.log2 (m+1):=by
  refine zrs_eq (by have:=holds_lft h;omega) (fun j hj=>?_) (.inr ?_)
  ·have h1:=holds_left (hsh▸h)
   rw [h1.2.2 j (by simpa using hj)]
   simp [List.getD_eq_getElem?_getD,List.getElem?_replicate,hj]
  ·have h1:=holds_right (hsh▸h)
   have hb2:=bitOk_ue (n:=m) (Nat.log2 (m+1)+1) hm (by omega) (by omega)
   have h2:=h1.2.2 0 (by have:=bits_len hb2;omega)
   rw [List.length_replicate] at h2
   rw [show s+((Nat.log2 (m+1):Nat):Int)=s+((Nat.log2 (m+1):Nat):Int)+((0:Nat):Int) by omega,h2]
   unfold bitsL
   rw [if_pos hb2]
   have e1:(((Nat.log2 (m+1)+1:Nat):Int)).toNat=Nat.log2 (m+1)+1:=by omega
   rw [e1]
   have e2:(bitsR ((m:Int)+1) (Nat.log2 (m+1)+1) (Nat.log2 (m+1)+1)).getD 0 0=((m:Int)+1)/2 ^ Nat.log2 (m+1)%2:=by
    simp [bitsR,List.getD_eq_getElem?_getD]
   rw [e2]
   have hlo:=lg_lo (m+1) (by omega)
   have hhi:=lg_hi (m+1)
   have e3:((m:Int)+1)/2 ^ Nat.log2 (m+1)=1:=by
    have:(m+1)/2 ^ Nat.log2 (m+1)=1:=by
     rw [Nat.pow_succ] at hhi
     exact Nat.div_eq_of_lt_le (by omega) (by omega)
    exact_mod_cast this
   rw [e3];decide
 have hrb:RbOk p s (2*(zrs p s:Int)+1):=holds_rb h (by omega) (by omega) (by omega)
 have hy:=ue_yes (p:=p) (s:=s) (by omega) hrb
 refine ⟨hy.2.1,by rw [hy.1,hzr];omega,?_⟩
 rw [hy.2.2,hzr]
 have:=holds_num hb (hw.symm▸h)
 rw [show ((2*Nat.log2 (m+1)+1:Nat):Int).toNat=(2*((Nat.log2 (m+1):Nat):Int)+1).toNat by omega] at this
 omega
theorem holds_sym {p:List UInt8} {s m:Int} {l:List Int} (hc:HasC l m) (h:Holds p s (symL l m)):smC p s l=0∧smA p s l=s+(symL l m).length∧smV p s l=m:=by
 have hf:=sym_fit hc
 have hlen:=symL_len l m
 rw [if_pos hc] at hlen
 unfold symL at h
 rw [if_pos hc] at h
 have hb:=holds_bits hf.2.2.2 (by omega) h
 have hm:=hc.2.1
 have ha:SymAt p s l m.toNat:=⟨by omega,hb.1,holds_num hf.2.2.2 h⟩
 have hy:=sm_yes hc.1 (by omega) ha
 exact ⟨hy.2.2,by omega,by omega⟩
theorem lv_nol {v:Int} (h:v≠0):lvOf (nolL v)=v:=by unfold lvOf nolL;split<;>(try split)<;>(try split)<;>omega
theorem holds_pair {p:List UInt8} {s room r v:Int} (hr:0≤r∧r<room) (hr2:r≤65534) (hv:v≠0∧-16383≤v∧v≤16383) (h:Holds p s (prB (r,v))):pvC p s room=0∧pvA p s room=s+(prB (r,v)).length∧pvR p s room=r∧pvL p s room=v:=by
 have h1:=holds_ue ⟨hr.1,hr2⟩ (holds_left h)
 have hn:=nolL_in hv
 have h2:=holds_ue hn (holds_right h)
 have e:=lv_nol hv.1
 simp only at h1 h2
 rw [←h1.2.1] at h2
 have h5:=pv_5 (p:=p) (s:=s) (room:=room) h1.1 (by omega) h2.1 (by rw [h2.2.2,e];omega)
 refine ⟨h5.2.1,?_,by rw [h5.2.2.1];exact h1.2.2,by rw [h5.2.2.2,h2.2.2,e]⟩
 rw [h5.1,h2.2.1,h1.2.1]
 unfold prB
 simp only [List.length_append]
 omega
theorem set_next (l:List Int) (k:Nat) (h:k<l.length) (n:Nat) (hn:n=l.length):(l.take k++List.replicate (n-k) 0).set k (l.getD k 0)=l.take (k+1)++List.replicate (n-(k+1)) 0:=by
 subst hn
 have e1:(l.take k).length=k:=by simp;omega
 have e2:l.length-k=(l.length-(k+1))+1:=by omega
 rw [List.set_append,if_neg (by omega),e1,Nat.sub_self,e2,List.replicate_succ,List.set_cons_zero,List.take_succ_eq_append_getElem h,List.append_assoc]
 simp [h]
theorem keep_next (l:List Int) (k:Nat) (h:k<l.length) (h0:l.getD k 0=0):l.take k++List.replicate (l.length-k) 0=l.take (k+1)++List.replicate (l.length-(k+1)) 0:=by
 rw [←set_next l k h _ rfl,h0]
 have e1:(l.take k).length=k:=by simp;omega
 have e2:l.length-k=(l.length-(k+1))+1:=by omega
 rw [List.set_append,if_neg (by omega),e1,Nat.sub_self,e2,List.replicate_succ,List.set_cons_zero]
theorem holds_run {p:List UInt8} {s:Int} {l:List Int} (hl:LvOk l):∀k,k≤l.length→Holds p s ((pk l k).1.flatMap prB)→
 lvRun p l.length ⟨s,0,0,List.replicate l.length 0⟩ (pk l k).1.length=⟨s+((pk l k).1.flatMap prB).length,0,k-(pk l k).2,l.take k++List.replicate (l.length-k) 0⟩
 |0,_,_=>by simp [pk,lvRun]
 |k+1,hk,h=>by
  have hb:=pk_bd l k
  have h64:l.length≤64:=by have:=hl.2;omega
  rw [pk] at h ⊢
  split at h
  ·rename_i h0
   rw [if_pos h0]
   have ih:=holds_run hl k (by omega) h
   simp only
   rw [ih,keep_next l k (by omega) h0]
   congr 1
   omega
  ·rename_i h0
   rw [if_neg h0]
   simp only [List.flatMap_append,List.flatMap_cons,List.flatMap_nil,List.append_nil,List.length_append,List.length_singleton] at h ⊢
   have ih:=holds_run hl k (by omega) (holds_left h)
   have hin:=in_get hl.1 (k:=k) (by omega)
   have hp:=holds_pair (room:=l.length-(k-(pk l k).2)) (by omega) (by omega) ⟨h0,hin⟩ (holds_right h)
   rw [lvRun,ih,lvStep_pv0 rfl hp.1]
   simp only
   rw [hp.2.1,hp.2.2.1,hp.2.2.2,show ((k:Int)-(pk l k).2+(pk l k).2).toNat=k by omega,set_next l k (by omega) _ rfl]
   congr 1<;>omega
end Go.Proofs.YtainhhfnnclfiaaGreat


namespace Go.Proofs.YtainhhfnnclfiaaGreat
open Go Go.Abs
attribute [local irreducible] WpA WpL Rnd Blk Abs.Seq Abs.Fin Abs.FinG FnC FnG Only
theorem orb:∀a:Fin 256,∀j:Fin 8,∀x:Fin 2,((a.val:Int)/2 ^ (7-j.val)%2=0)→IntKind.u8.wrap ((BitVec.ofInt IntKind.u8.bits (a.val:Int) ||| BitVec.ofInt IntKind.u8.bits (IntKind.u8.wrap (IntKind.i64.wrap ((x.val:Int)*2 ^ (7-j.val))))).toNat:Nat)=(a.val:Int)+(x.val:Int)*2 ^ (7-j.val):=by decide +kernel
theorem orb' {a x:Int} {j:Nat} (ha:0≤a∧a<256) (hj:j<8) (hx:x=0∨x=1) (h:a/2 ^ (7-j)%2=0):IntKind.u8.wrap ((BitVec.ofInt IntKind.u8.bits a ||| BitVec.ofInt IntKind.u8.bits (IntKind.u8.wrap (IntKind.i64.wrap (x*2 ^ (7-j))))).toNat:Nat)=a+x*2 ^ (7-j):=by
 obtain ⟨n,rfl⟩:∃n:Nat,a=n:=⟨a.toNat,by omega⟩
 obtain ⟨m,rfl⟩:∃m:Nat,x=m:=⟨x.toNat,by omega⟩
 exact orb ⟨n,by omega⟩ ⟨j,hj⟩ ⟨m,by omega⟩ h
theorem numS_set {l:List Int} (hl:l.length=8) (j:Nat) (hj:j<8) (x:Int) (h0:l.getD j 0=0):numS (l.set j x) 8=numS l 8+x*2 ^ (7-j):=by
 match l,hl with
 |[a,b,c,d,e,f,g,i],_=>
  have e8:∀a b c d e f g i:Int,numS [a,b,c,d,e,f,g,i] 8=((((((((0*2+a)*2+b)*2+c)*2+d)*2+e)*2+f)*2+g)*2+i):=fun _ _ _ _ _ _ _ _=>rfl
  have hj2:j=0∨j=1∨j=2∨j=3∨j=4∨j=5∨j=6∨j=7:=by omega
  rcases hj2 with rfl|rfl|rfl|rfl|rfl|rfl|rfl|rfl
  ·have h0:a=0:=h0
   show numS [x,b,c,d,e,f,g,i] 8=_+x*(128:Int);rw [e8,e8];omega
  ·have h0:b=0:=h0
   show numS [a,x,c,d,e,f,g,i] 8=_+x*(64:Int);rw [e8,e8];omega
  ·have h0:c=0:=h0
   show numS [a,b,x,d,e,f,g,i] 8=_+x*(32:Int);rw [e8,e8];omega
  ·have h0:d=0:=h0
   show numS [a,b,c,x,e,f,g,i] 8=_+x*(16:Int);rw [e8,e8];omega
  ·have h0:e=0:=h0
   show numS [a,b,c,d,x,f,g,i] 8=_+x*(8:Int);rw [e8,e8];omega
  ·have h0:f=0:=h0
   show numS [a,b,c,d,e,x,g,i] 8=_+x*(4:Int);rw [e8,e8];omega
  ·have h0:g=0:=h0
   show numS [a,b,c,d,e,f,x,i] 8=_+x*(2:Int);rw [e8,e8];omega
  ·have h0:i=0:=h0
   show numS [a,b,c,d,e,f,g,x] 8=_+x*(1:Int);rw [e8,e8];omega
def cutB (l:List Int) (k:Nat):List Int:=l.take k++List.replicate (l.length-k) 0
theorem cutB_len (l:List Int) (k:Nat) (h:k≤l.length):(cutB l k).length=l.length:=by simp [cutB];omega
theorem cutB_01 {l:List Int} (h:Bit01 l) (k:Nat):Bit01 (cutB l k):=b01_app (fun x hx=>h x (List.mem_of_mem_take hx)) (b01_rep _)
theorem cutB_succ (l:List Int) (k:Nat) (h:k<l.length):cutB l (k+1)=(cutB l k).set k (l.getD k 0):=(set_next l k h _ rfl).symm
theorem byB_eq {l:List Int} (h:Bit01 l) (h8:l.length%8=0):∀k,k≤l.length→byB l k=byI (cutB l k) (l.length/8)
 |0,_=>by
  apply List.ext_getElem
  ·rw [byB_len,byI_len]
  ·intro i h1 h2
   have hz:((cutB l 0).drop (8*i)).take 8=List.replicate (min 8 (l.length-8*i)) 0:=by simp [cutB]
   rw [byI_len] at h2
   simp only [byI,List.getElem_map,List.getElem_range,hz]
   have hm:min 8 (l.length-8*i)=8:=by omega
   rw [hm]
   simp [byB,numS]
 |k+1,hk=>by
  have ih:=byB_eq h h8 k (by omega)
  have hlen:=cutB_len l k (by omega)
  have hw:(((cutB l k).drop (8*(k/8))).take 8).length=8:=by rw [List.length_take,List.length_drop];omega
  have hgk:(cutB l k).getD k 0=0:=by
   unfold cutB
   rw [List.getD_eq_getElem?_getD,List.getElem?_append_right (by simp;omega)]
   simp only [List.length_take]
   rw [List.getElem?_replicate]
   split<;>rfl
  have hwj:(((cutB l k).drop (8*(k/8))).take 8).getD (k%8) 0=0:=by
   simp only [List.getD_eq_getElem?_getD,List.getElem?_take,List.getElem?_drop] at hgk ⊢
   rw [if_pos (by omega),show 8*(k/8)+k%8=k by omega,hgk]
  have hb:=numS_256 (b01_mid (cutB_01 h k) (8*(k/8))) (Nat.le_refl 8)
  have hbit:=numS_bit (b01_mid (cutB_01 h k) (8*(k/8))) hw (k%8) (by omega)
  rw [hwj] at hbit
  have hd:(byI (cutB l k) (l.length/8)).getD (k/8) 0=numS (((cutB l k).drop (8*(k/8))).take 8) 8:=by
   have hlt:k/8<l.length/8:=by omega
   simp [byI,List.getD_eq_getElem?_getD,List.getElem?_range hlt]
  rw [byB,ih,hd,orb' hb (by omega) (b01_get h k) hbit,←numS_set hw (k%8) (by omega) _ hwj]
  apply List.ext_getElem
  ·rw [List.length_set,byI_len,byI_len]
  ·intro i h1 h2
   rw [byI_len] at h2
   rw [List.getElem_set]
   have hget:∀x,(byI x (l.length/8))[i]'(by rw [byI_len];exact h2)=numS ((x.drop (8*i)).take 8) 8:=fun x=>by simp [byI]
   rw [hget,hget,cutB_succ l k (by omega)]
   split
   ·rename_i e
    subst e
    congr 1
    apply List.ext_getElem?
    intro q
    simp only [List.getElem?_set,List.getElem?_take,List.getElem?_drop]
    rw [hw]
    by_cases hq:k%8=q
    ·subst hq
     rw [if_pos rfl,if_pos (by omega),if_pos (by omega),if_pos (by omega),if_pos (by omega)]
    ·rw [if_neg hq]
     by_cases hq8:q<8
     ·rw [if_pos hq8,if_pos hq8,if_neg (by omega)]
     ·rw [if_neg hq8,if_neg hq8]
   ·rename_i e
    congr 1
    apply List.ext_getElem?
    intro q
    simp only [List.getElem?_set,List.getElem?_take,List.getElem?_drop]
    by_cases hq:q<8
    ·rw [if_pos hq,if_pos hq,if_neg (by omega)]
    ·rw [if_neg hq,if_neg hq]
theorem strB_eq {l:List Int} (h:Bit01 l) (h8:l.length%8=0):strB l=strS l:=by
 unfold strB strS
 rw [byB_eq h h8 l.length (Nat.le_refl _)]
 simp [cutB]
instance Stopped_c:Con 81 (∀ b:List Int,b.length≤1073741824∧Bit01 b→Fn 81 [IL b] [] (Z (stopS b))):=⟨fun b hl=>by
 have h0:=hl.1
 refine FnC.of_body tabOk Tryz.func81 Tryz.ntmps81 rfl (by decide +kernel) (by simp) fun G=>?_
 refine go (r:=?_);and_intros<;>intros<;>try exact True.intro
 all_goals first|contradiction|omega|skip
 refine WpA.loop (fun j:Nat=>⟨[(3,.own 0 0 0 (b.length+1+j))],[XI (padL b j)]⟩) (fun j=>j≤padN b.length) (fun j=>padN b.length-j) 0 (Nat.zero_le _) ?_ (fun j hj=>?_)
 ·exact Weak.mk (by repeat (first|exact ReT.nil|refine ReT.cons (.keep rfl rfl .nil) ?_|refine ReT.cons (.own rfl rfl rfl rfl rfl rfl .nil) ?_|refine ReT.cons (.ptr rfl rfl rfl rfl .nil) ?_|refine ReT.cons (.keep (congrArg (fun z=>AV.sc (Value.int .i64 z)) (by first|omega|(skip))) rfl .nil) ?_|refine ReT.cons (.keep (congrArg (fun z:List UInt8=>AV.sc (Value.string ⟨z.toArray⟩)) (by skip)) rfl .nil) ?_|refine ReT.cons (.own rfl rfl rfl rfl rfl (by first|omega|(simp;done)|(simp;omega)) .nil) ?_)) (by exact ReO.cons (Re.same (by simp [padL]) (still_ints _)) (.inr rfl) .nil) (Nat.zero_le _)
 have hpl:=padL_len b j
 have hps:=padL_succ b j
 have hcond:j<padN b.length↔(b.length+1+j)%8≠0:=by unfold padN at hj ⊢;omega
 have hp8:padN b.length≤7:=by unfold padN;omega
 by_cases hlt:j<padN b.length
 ·have hc:=hcond.1 hlt
  refine go (r:=?_);and_intros<;>intros<;>try exact True.intro
  all_goals first|contradiction|omega|exact hps.symm
 ·obtain rfl:j=padN b.length:=by omega
  have hc:(b.length+1+padN b.length)%8=0:=Decidable.byContradiction fun h=>hlt (hcond.2 h)
  have hb:=b01_pad hl.2 (padN b.length)
  have hse:=strB_eq hb (by omega)
  unfold stopS
  rw [←hse]
  refine go (r:=?_);and_intros<;>intros<;>try exact True.intro
  all_goals first|contradiction|omega|exact hb|exact hb _ (by assumption)⟩
end Go.Proofs.YtainhhfnnclfiaaGreat


namespace Go.Proofs.YtainhhfnnclfiaaGreat
open Go Go.Abs
attribute [local irreducible] WpA WpL Rnd Blk Abs.Seq Abs.Fin Abs.FinG FnC FnG Only
instance strBits_c:Con 82 (∀ (w h q:Int) (b d:Bool) (l:List Int) (M:List Mbk),StOk w h q l M∧l.length≤1099511627776∧mw M≤1048576→Fn 82 [StA w h q b d l M] [XI (stK w h q b d l M M.length)] (.own 0 0 0 (stK w h q b d l M M.length).length)):=⟨fun w h q b d l M hM=>by
 obtain ⟨h0,hll,hmw1⟩:=hM
 have hmw:mw M=M.length+(M.map mn).sum:=rfl
 have hsm:SmM 1099511627776 M:=smM_of (by omega)
 have hhl:=hdL_len w h q b d l
 have hz:(hdL w h q b d l).length=(stK w h q b d l M 0).length:=by simp [stK]
 have hz0:hdL w h q b d l=stK w h q b d l M 0:=by simp [stK]
 have hhd:=h0.1
 refine FnC.of_body tabOk Tryz.func82 Tryz.ntmps82 rfl (by decide +kernel) (by simp) fun G=>?_
 refine go (r:=?_);and_intros<;>intros<;>try exact True.intro
 all_goals first|exact hsm|exact hhd|exact h0.1.2.2.1|exact h0.1.2.2.2.1|exact h0.1.2.2.2.2|(exact absurd h0 (by assumption))|skip
 refine WpA.loop (fun i:Nat=>⟨[(1,.ptr 0 0 0),(3,.own 1 0 0 (stK w h q b d l M i).length),(10,MbL M),(11,I M.length),(12,I i)],[⟨StC w h q b d l M,0,0,none⟩,XI (stK w h q b d l M i)]⟩) (fun i=>i≤M.length) (fun i=>M.length-i) 0 (by omega) (go (r:=?_)) (fun i hi=>?_)
 ·and_intros<;>first|exact True.intro|exact hz|exact hz0|exact hz.symm
 have hb:=stK_len w h q b d l M i
 have hsc:=fun hk=>stK_succ w h q b d l M i hk
 have hbl:=mbbL_len (M.getD i default).1 (M.getD i default).2 l
 have hsl:i<M.length→(stK w h q b d l M (i+1)).length=(stK w h q b d l M i).length+(mbbL (M.getD i default).1 (M.getD i default).2 l).length:=fun hk=>by rw [hsc hk,List.length_append];rfl
 by_cases hi2:i<M.length
 ·obtain ⟨hg1,hg2⟩:=smM_get hsm hi2
  have hmk:=ok_blk h0 hi2
  have hsl:=hsl hi2
  refine go (r:=?_);and_intros<;>intros<;>try exact True.intro
  all_goals first|contradiction|omega|exact hg2|exact hmk|exact hmk.2|(rw [hsc hi2];rfl)
 ·have ek:i=M.length:=by omega
  subst ek
  refine go (r:=?_);and_intros<;>intros<;>try exact True.intro
  all_goals first|contradiction|omega⟩
instance Unparse_c:Con 28 (∀ (w h q:Int) (b d:Bool) (l:List Int) (M:List Mbk),l.length≤1099511627776∧mw M≤1048576→Fn 28 [StA w h q b d l M] [] (Z (unpS w h q b d l M))):=⟨fun w h q b d l M hM=>by
 have hmw:mw M=M.length+(M.map mn).sum:=rfl
 have hsm:SmM 1099511627776 M:=smM_of (by omega)
 by_cases h0:StOk w h q l M
 ·have hd:=decide_eq_true h0
  have hres:unpS w h q b d l M=stopS (stK w h q b d l M M.length):=by rw [unpS,if_pos h0]
  have hst:=stK_small (b:=b) (d:=d) h0
  have h01:=b01_st w h q b d l M M.length
  rw [hres]
  refine FnC.of_body tabOk Tryz.func28 Tryz.ntmps28 rfl (by decide +kernel) (by simp) fun G=>?_
  refine go (r:=?_);and_intros<;>intros<;>try exact True.intro
  all_goals first|contradiction|omega|exact hsm|exact h01|exact h01 _ (by assumption)|exact h0.2.2|exact h0.1.2.2.1|exact h0.1.2.2.2.1|exact h0.1.2.2.2.2|exact h0
 ·have hd:=decide_eq_false h0
  have hres:unpS w h q b d l M=[]:=by rw [unpS,if_neg h0]
  rw [hres]
  refine FnC.of_body tabOk Tryz.func28 Tryz.ntmps28 rfl (by decide +kernel) (by simp) fun G=>?_
  refine go (r:=?_);and_intros<;>intros<;>try exact True.intro
  all_goals first|contradiction|omega|exact hsm⟩
end Go.Proofs.YtainhhfnnclfiaaGreat


namespace Go.Proofs.YtainhhfnnclfiaaGreat
open Go Go.Abs
attribute [local irreducible] WpA WpL Rnd Blk Abs.Seq Abs.Fin Abs.FinG FnC FnG Only
def chO (q:Int) (L ms:List Int):Chs:=fun c _ _ _ _ _ _ _=>modeF q L ms c
theorem modeF_has {q:Int} {L ms:List Int} {k:Int} (h:OptOk q L) (hk:0≤k):HasC L (modeF q L ms k):=by
 have hf:=firstM_has h.2
 rw [modeF,if_pos ⟨h,hk⟩]
 split
 ·rename_i hh;exact hh.2
 ·exact (has_code h.2 hf.1).2 hf.2
theorem choose_c (q:Int) (b d:Bool) (L ms:List Int) (es:List Bool) (hl:L.length≤1099511627776∧ms.length≤1099511627776):ChG 69 [I q,B b,B d,IL L,IL ms,BL es] (chO q L ms):=fun c k t l co a bb n hc=>by
 unfold chO
 refine FnC.of_body tabOk Tryz.func69 Tryz.ntmps69 rfl (by decide +kernel) (by simp) fun G=>?_
 refine go (r:=?_);and_intros<;>intros<;>try exact True.intro
 all_goals first|contradiction|omega
abbrev enA (w h q:Int) (b:Bool) (L ms F:List Int):EncA:=⟨w,h,q,b,L,F,chO q L ms⟩
def encT (w h q:Int) (b:Bool) (L ms F:List Int) (es:List Bool):List Mbk:=encS (enA w h q b L ms F) (eiF es)
theorem encT_ok {w h q:Int} {b:Bool} {L ms F:List Int} {es:List Bool} (hF:FrameOk w h F) (ho:OptOk q L):StOk w h q L (encT w h q b L ms F es):=
 encS_ok (a:=enA w h q b L ms F) ho hF (fun c P x y n hf=>modeF_has ho (Int.natCast_nonneg _)) (eiF es)
section
attribute [local irreducible] encM encS refL
theorem EncodeStream_1 (w h q:Int) (b d:Bool) (L ms F:List Int) (es:List Bool) (hF:FrameOk w h F) (ho:OptOk q L) (hl:ms.length≤1099511627776∧es.length≤1099511627776):
 Fn 22 [FrA w h F,OpA q b d L ms es] [] (.tup [StA w h q b d L (encT w h q b L ms F es),FrA w h (refL w h q b d (encT w h q b L ms F es))]):=by
 have hfo:=decide_eq_true hF
 have hoo:=decide_eq_true ho
 have hL6:L.length=6:=ho.2.2.1
 have hFl:F.length≤1024:=by
  have h2:w*h≤32*32:=Int.mul_le_mul hF.1.2.1 hF.1.2.2.2.1 (by have:=hF.1.2.2.1;omega) (by have:=hF.1.1;omega)
  have:=hF.2.1
  omega
 have hel:(encT w h q b L ms F es).length=(cntM w h).toNat:=by have:=(encT_ok (b:=b) (ms:=ms) (es:=es) hF ho).2.1;omega
 have hz:=encode_o w h q b d L ms F es 69 [I q,B b,B d,IL L,IL ms,BL es] (chO q L ms) hF ho hl (choose_c q b d L ms es ⟨by omega,hl.1⟩)
 have hM2:(encM (enA w h q b L ms F) (eiF es) (zerP w h) (cntM w h).toNat).1=encT w h q b L ms F es:=by unfold encT encS;rfl
 have hP2:endL w h q d (encM (enA w h q b L ms F) (eiF es) (zerP w h) (cntM w h).toNat).2.1=refL w h q b d (encT w h q b L ms F es):=(encS_ref (enA w h q b L ms F) (eiF es) d).symm
 rw [hM2,hP2] at hz
 have hzz:=FnC.stillT hz (rs':=[StA w h q b d L (encT w h q b L ms F es),FrA w h (refL w h q b d (encT w h q b L ms F es))]) (.agg (.keep rfl rfl (.keep rfl rfl (.keep rfl rfl (.keep rfl rfl (.keep rfl rfl (.keep rfl rfl (.own rfl rfl rfl (by show (cntM w h).toNat*2=_;rw [len_mG,hel]) hel.symm (Snap.rows snap_mG _) .nil))))))) (.agg (.keep rfl rfl (.keep rfl rfl (.keep rfl rfl .nil))) .nil))
 generalize encT w h q b L ms F es=M at*
 generalize refL w h q b d M=P at*
 refine FnC.of_bodyM tabOk Tryz.func22 Tryz.ntmps22 rfl (by decide +kernel) (by simp) fun G hM=>?_
 refine WpA.seq ?_
 refine WpA.cut (σ1:=⟨[(3,.ptr 1 0 0),(2,.ptr 0 0 0),(4,.ptr 2 0 0),(5,.ptr 3 0 0)],[FrO w h F,OpO q b d L ms es,⟨[I 0,I 0,I 0,B false,B false,.nilS,.nilS],0,0,none⟩,⟨[I 0,I 0,.nilS],0,0,none⟩]⟩) ?_ ?_
 ·refine goR (r:=?_);and_intros<;>intros<;>try exact True.intro
  all_goals first|contradiction|omega
 refine Abs.Seq.n ?_
 refine WpA.freezeP hM rfl (Nat.zero_le _) rfl rfl rfl rfl ?_
 refine goR (r:=?_);and_intros<;>intros<;>try exact True.intro
 all_goals first|contradiction|omega|skip
 refine K.call ?_
 refine WpL.callKF hzz (fun hh=>KeepL.fnEnd (vs:=[_,_]) (us:=[_,_]) (.agg (.keep rfl rfl (.keep rfl rfl (.keep rfl rfl .nil))) (.agg (.keep rfl rfl (.keep rfl rfl (.keep rfl rfl (.keep rfl rfl (.keep rfl rfl (.keep rfl rfl .nil)))))) .nil)) hh) (by decide) ?_
 refine goR (r:=?_);and_intros<;>intros<;>try exact True.intro
 all_goals first|contradiction|omega
end
end Go.Proofs.YtainhhfnnclfiaaGreat


namespace Go.Proofs.YtainhhfnnclfiaaGreat
open Go Go.Abs
attribute [local irreducible] WpA WpL Rnd Blk Abs.Seq Abs.Fin Abs.FinG FnC FnG Only
theorem wh_in {W H:Int} (h:SidesOk W H):64≤W*H∧W*H≤1024:=by
 have h1:8*8≤W*H:=Int.mul_le_mul h.1 h.2.2.1 (by omega) (by have:=h.1;omega)
 have h2:W*H≤32*32:=Int.mul_le_mul h.2.1 h.2.2.2.1 (by have:=h.2.2.1;omega) (by omega)
 omega
instance FrameNew_s:Con 85 (∀ W H:Int,SidesOk W H→Fn 85 [I W,I H] [XI (List.replicate (W*H).toNat 0)] (FrOwn 0 W H (W*H).toNat)):=⟨fun W H h=>by
 have hm:=wh_in h
 refine FnC.of_body tabOk Tryz.func85 Tryz.ntmps85 rfl (by decide +kernel) (by simp) fun G=>?_
 refine go (r:=?_);and_intros<;>intros<;>try exact True.intro
 all_goals first|contradiction⟩
end Go.Proofs.YtainhhfnnclfiaaGreat


namespace Go.Proofs.YtainhhfnnclfiaaGreat
open Go Go.Abs
attribute [local irreducible] WpA WpL Rnd Blk Abs.Seq Abs.Fin Abs.FinG FnC FnG FnX FinX Only
abbrev CurO (v:Value) (c:Int×Int):AObj:=⟨[.sc v,I c.1,I c.2],0,0,none⟩
abbrev CurOk (l:List Int) (c:Int×Int):Prop:=0≤c.1∧c.1≤l.length
abbrev CodA (l:List Int):AV:=.imm 1 l.length (u8s l)
theorem and255 (y:Int):0≤IntKind.i64.wrap ((BitVec.ofInt IntKind.i64.bits y &&& BitVec.ofInt IntKind.i64.bits 255).toNat:Nat)∧IntKind.i64.wrap ((BitVec.ofInt IntKind.i64.bits y &&& BitVec.ofInt IntKind.i64.bits 255).toNat:Nat)≤255:=by
 have h:(BitVec.ofInt IntKind.i64.bits y &&& BitVec.ofInt IntKind.i64.bits 255).toNat≤255:=by
  rw [BitVec.toNat_and]
  exact Nat.le_trans Nat.and_le_right (by decide)
 rw [IntWalk.i64_in _ (by omega)]
 omega
section
attribute [local irreducible] IntKind.wrap
end
end Go.Proofs.YtainhhfnnclfiaaGreat


namespace Go.Proofs.YtainhhfnnclfiaaGreat
open Go Go.Abs
attribute [local irreducible] WpA WpL Rnd Blk Abs.Seq Abs.Fin Abs.FinG FnC FnG FnX FnP FinX Only
abbrev Cr:=Int×Int
abbrev Pn (f:Nat) (v:Value) (l:List Int) (c:Cr) (args:List AV) (c':Cr) (N:List AObj) (r:AV):Prop:=FnP Tryz.prog f (.ptr 0 0 0::args) [CurO v c] [v] [CodA l] [CurO v c'] N r
abbrev CrOk (l:List Int) (c:Cr):Prop:=l.length≤1048576∧CurOk l c
def hD (h:Int):Int:=IntKind.i64.wrap (IntKind.i64.wrap (h*6364136223846793005)+1442695040888963407)
def mixD (y:Int):Int:=IntKind.i64.wrap ((BitVec.ofInt IntKind.i64.bits (IntKind.i64.wrap ((BitVec.ofInt IntKind.i64.bits (y/2 ^ Int.toNat 33) ^^^ BitVec.ofInt IntKind.i64.bits (y/2 ^ Int.toNat 45)).toNat:Nat)) &&& BitVec.ofInt IntKind.i64.bits 255).toNat:Nat)
def byD (l:List Int) (c:Cr):Cr×Int:=
 if c.1<l.length then ((c.1+1,hD c.2),IntKind.i64.wrap ((BitVec.ofInt IntKind.i64.bits (IntKind.i64.wrap (mixD (hD c.2)+IntKind.i64.wrap (l.getD c.1.toNat 0))) &&& BitVec.ofInt IntKind.i64.bits 255).toNat:Nat))
 else ((c.1,hD c.2),mixD (hD c.2))
theorem byD_ok {l:List Int} {c:Cr} (h:CrOk l c):CrOk l (byD l c).1∧0≤(byD l c).2∧(byD l c).2≤255:=by
 have h1:=h.2.1
 have h2:=h.2.2
 unfold byD;split
 ·exact ⟨⟨h.1,by show 0≤c.1+1;omega,by show c.1+1≤_;omega⟩,and255 _⟩
 ·exact ⟨⟨h.1,h1,h2⟩,and255 _⟩
section
attribute [local irreducible] IntKind.wrap
instance l1Byte_p:ConP 125 (∀ (v:Value) (l:List Int) (c:Cr),CrOk l c→Pn 125 v l c [] (byD l c).1 [] (I (byD l c).2)):=⟨fun v l c h=>by
 have hl:=h.1
 have hc1:=h.2.1
 have hc2:=h.2.2
 by_cases hlt:c.1<l.length
 ·rw [byD,if_pos hlt]
  refine FnP.of_body tabOk Tryz.func125 Tryz.ntmps125 rfl (by decide +kernel) (by simp) rfl rfl rfl fun G hp=>?_
  refine go (r:=?_);and_intros<;>intros<;>try exact True.intro
  refine WpL.pin (d:=32) hp rfl ?_
  refine go (r:=?_);and_intros<;>intros<;>try exact True.intro
  all_goals first|contradiction|omega|skip
  refine WpL.pin (d:=39) hp rfl ?_
  refine go (r:=?_);and_intros<;>intros<;>try exact True.intro
 ·rw [byD,if_neg hlt]
  refine FnP.of_body tabOk Tryz.func125 Tryz.ntmps125 rfl (by decide +kernel) (by simp) rfl rfl rfl fun G hp=>?_
  refine go (r:=?_);and_intros<;>intros<;>try exact True.intro
  refine WpL.pin (d:=32) hp rfl ?_
  refine go (r:=?_);and_intros<;>intros<;>try exact True.intro
  all_goals first|contradiction|omega|skip⟩
end
def belowD (l:List Int) (c:Cr) (n:Int):Cr×Int:=
 if n≤0 then (c,0) else if n≤256 then ((byD l c).1,(byD l c).2%n) else
  ((byD l (byD l (byD l (byD l c).1).1).1).1,((byD l c).2*16777216+(byD l (byD l c).1).2*65536+(byD l (byD l (byD l c).1).1).2*256+(byD l (byD l (byD l (byD l c).1).1).1).2)%n)
theorem belowD_ok {l:List Int} {c:Cr} (n:Int) (h:CrOk l c):CrOk l (belowD l c n).1∧0≤(belowD l c n).2∧(0<n→(belowD l c n).2<n)∧(n≤0→(belowD l c n).2=0):=by
 have h1:=byD_ok h
 have h2:=byD_ok h1.1
 have h3:=byD_ok h2.1
 have h4:=byD_ok h3.1
 unfold belowD
 split
 ·exact ⟨h,Int.le_refl 0,fun h=>by omega,fun _=>rfl⟩
 ·split
  ·exact ⟨h1.1,Int.emod_nonneg _ (by omega),fun h=>Int.emod_lt_of_pos _ h,fun h=>by omega⟩
  ·exact ⟨h4.1,Int.emod_nonneg _ (by omega),fun h=>Int.emod_lt_of_pos _ h,fun h=>by omega⟩
instance l1Below_p:ConP 62 (∀ (v:Value) (l:List Int) (c:Cr) (n:Int),CrOk l c→Pn 62 v l c [I n] (belowD l c n).1 [] (I (belowD l c n).2)):=⟨fun v l c n h=>by
 have h1:=byD_ok h
 have h2:=byD_ok h1.1
 have h3:=byD_ok h2.1
 have h4:=byD_ok h3.1
 unfold belowD
 by_cases h0:n≤0
 ·rw [if_pos h0]
  refine FnP.of_body tabOk Tryz.func62 Tryz.ntmps62 rfl (by decide +kernel) (by simp) rfl rfl rfl fun G hp=>?_
  refine go (r:=?_);and_intros<;>intros<;>try exact True.intro
  all_goals trace_state
 ·rw [if_neg h0]
  by_cases h256:n≤256
  ·rw [if_pos h256]
   refine FnP.of_body tabOk Tryz.func62 Tryz.ntmps62 rfl (by decide +kernel) (by simp) rfl rfl rfl fun G hp=>?_
   refine go (r:=?_);and_intros<;>intros<;>try exact True.intro
   all_goals trace_state
  ·rw [if_neg h256]
   refine FnP.of_body tabOk Tryz.func62 Tryz.ntmps62 rfl (by decide +kernel) (by simp) rfl rfl rfl fun G hp=>?_
   refine go (r:=?_);and_intros<;>intros<;>try exact True.intro
   all_goals trace_state⟩
end Go.Proofs.YtainhhfnnclfiaaGreat
