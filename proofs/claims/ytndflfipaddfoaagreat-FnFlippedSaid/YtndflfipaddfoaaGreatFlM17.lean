/- Proved in this text: lemmas and contracts of functions that the claim uses (parts: Unp, Dtx, ScrB, FlpX, Bridge, Read, Read2, Read3). No condition. -/
import Derived.Test.YtndflfipaddfoaaGreatFlM16
import Derived.Test.YtndflfipaddfoaaGreatFlM14
import Derived.Test.YtndflfipaddfoaaGreatFlM15
import Derived.Test.YtndflfipaddfoaaGreatFlM2
import Derived.Below
import Derived.ChangeArms
import Derived.Test.YtndflfipaddfoaaGreatFlM3
import Derived.Test.YtndflfipaddfoaaGreatFlM9
set_option linter.unusedVariables false
set_option linter.unusedSimpArgs false
set_option maxRecDepth 100000
set_option maxHeartbeats 16000000


namespace Go.Proofs.YtndflfipaddfoaaGreat
open Go Go.Abs
attribute [local irreducible] WpA WpL Rnd Blk Abs.Seq Abs.Fin Abs.FinG FnC FnG Only
def Bit01 (l:List Int):Prop:=∀x∈l,x=0∨x=1
theorem b01_app {a b:List Int} (h1:Bit01 a) (h2:Bit01 b):Bit01 (a++b):=fun x hx=>(List.mem_append.1 hx).elim (h1 x) (h2 x)
theorem b01_nil:Bit01 []:=fun x hx=>by cases hx
theorem b01_rep (n:Nat):Bit01 (List.replicate n 0):=fun x hx=>.inl (List.mem_replicate.1 hx).2
theorem b01_bits (n w:Int):Bit01 (bitsL n w):=by
 unfold bitsL;split
 ·intro x hx
  unfold bitsR at hx
  obtain ⟨k,_,rfl⟩:=List.mem_map.1 hx
  omega
 ·exact b01_nil
theorem b01_ue (n:Int):Bit01 (ueL n):=by
 unfold ueL;split
 ·exact b01_app (b01_rep _) (b01_bits _ _)
 ·exact b01_nil
theorem b01_sym (l:List Int) (m:Int):Bit01 (symL l m):=by
 unfold symL;split
 ·exact b01_bits _ _
 ·exact b01_nil
theorem b01_one (b:Bool):(bif b then (1:Int) else 0)=0∨(bif b then (1:Int) else 0)=1:=by cases b<;>simp
theorem b01_fm {α:Type} (f:α→List Int) (h:∀a,Bit01 (f a)):∀l:List α,Bit01 (l.flatMap f):=fun l x hx=>by
 obtain ⟨a,_,hx⟩:=List.mem_flatMap.1 hx
 exact h a x hx
theorem b01_prB (p:Int×Int):Bit01 (prB p):=b01_app (b01_ue _) (b01_ue _)
theorem b01_bk (m:Int) (lv lens:List Int) (n:Int):Bit01 (bkL m lv lens n):=by
 unfold bkL;split
 ·split
  ·exact b01_app (b01_sym _ _) (fun x hx=>by simp at hx;exact .inl hx)
  ·unfold bkK
   exact b01_app (b01_app (b01_app (b01_sym _ _) (fun x hx=>by simp at hx;exact .inr hx)) (b01_ue _)) (b01_fm _ b01_prB _)
 ·exact b01_nil
theorem b01_mb (e:Bool) (bs:List Blok) (lens:List Int):Bit01 (mbbL e bs lens):=by
 unfold mbbL;split
 ·unfold mbK
  exact b01_app (fun x hx=>by simp only [List.mem_singleton] at hx;rw [hx];exact b01_one e) (b01_fm _ (fun b=>b01_bk _ _ _ _) _)
 ·exact b01_nil
theorem b01_hd (w h q:Int) (b d:Bool) (l:List Int):Bit01 (hdL w h q b d l):=by
 unfold hdL;split
 ·unfold hdK hdB
  refine b01_app (b01_app (b01_app (b01_app (b01_app (b01_bits _ _) (b01_ue _)) (b01_ue _)) (b01_bits _ _)) ?_) (b01_fm _ (fun n=>b01_bits _ _) _)
  intro x hx
  simp only [List.mem_cons,List.not_mem_nil,or_false] at hx
  rcases hx with rfl|rfl
  ·exact b01_one b
  ·exact b01_one d
 ·exact b01_nil
theorem b01_st (w h q:Int) (b d:Bool) (l:List Int) (M:List Mbk) (k:Nat):Bit01 (stK w h q b d l M k):=by
 unfold stK
 exact b01_app (b01_hd _ _ _ _ _ _) (b01_fm _ (fun m=>b01_mb _ _ _) _)
def numS (l:List Int) (k:Nat):Int:=(l.take k).foldl (fun n b=>n*2+b) 0
theorem numS_succ {l:List Int} {k:Nat} (h:k<l.length):numS l (k+1)=numS l k*2+l.getD k 0:=by
 unfold numS;rw [List.take_succ_eq_append_getElem h,List.foldl_append];simp [h]
theorem b01_get {l:List Int} (h:Bit01 l) (k:Nat):l.getD k 0=0∨l.getD k 0=1:=by
 rcases Nat.lt_or_ge k l.length with h1|h1
 ·exact h _ (by simp [h1])
 ·left;rw [List.getD_eq_getElem?_getD,List.getElem?_eq_none h1];rfl
theorem numS_bd {l:List Int} (h:Bit01 l):∀k,k≤8→0≤numS l k∧numS l k<2 ^ k
 |0,_=>by simp [numS]
 |k+1,hk=>by
  have ih:=numS_bd h k (by omega)
  rcases Nat.lt_or_ge k l.length with h1|h1
  ·rw [numS_succ h1]
   have:=b01_get h k
   have e:(2:Int) ^ (k+1)=2 ^ k*2:=by rw [Int.pow_succ]
   omega
  ·have e:numS l (k+1)=numS l k:=by unfold numS;rw [List.take_of_length_le (by omega),List.take_of_length_le (by omega)]
   have e2:(2:Int) ^ (k+1)=2 ^ k*2:=by rw [Int.pow_succ]
   omega
theorem numS_256 {l:List Int} (h:Bit01 l) {k:Nat} (hk:k≤8):0≤numS l k∧numS l k<256:=by
 have h1:=numS_bd h k hk
 have h2:(2:Int) ^ k≤2 ^ 8:=by
  have:=Nat.pow_le_pow_right (n:=2) (by decide) hk
  exact_mod_cast this
 have h3:(2:Int) ^ 8=256:=by decide
 omega
instance NumOf_s:Con 262 (∀ l:List Int,l.length=8∧Bit01 l→Fn 262 [IL l] [] (.tup [I (numS l 8),B true])):=⟨fun l hl=>by
 have h8:=hl.1
 refine FnC.of_body tabOk Tryz.func262 Tryz.ntmps262 rfl (by decide +kernel) (by simp) fun G=>?_
 refine go (r:=?_);and_intros<;>intros<;>try exact True.intro
 refine WpA.loop (fun k:Nat=>⟨[(0,IL l),(4,I (numS l k)),(5,I k)],[]⟩) (fun k=>k≤8) (fun k=>8-k) 0 (by omega) (go (r:=?_)) (fun k hk=>?_)
 ·simp [numS]
 have hb:=b01_get hl.2 k
 have hn:=numS_256 hl.2 hk
 have hs:=fun h=>numS_succ (l:=l) (k:=k) h
 refine go (r:=?_);and_intros<;>intros<;>try exact True.intro
 all_goals first|(exact (hs (by omega)).symm)|(rw [show k=8 by omega];done)⟩
def byI (x:List Int) (k:Nat):List Int:=(List.range k).map fun i=>numS ((x.drop (8*i)).take 8) 8
def strS (x:List Int):List UInt8:=(byI x (x.length/8)).map fun n:Int=>UInt8.ofNat n.toNat
theorem byI_len (x:List Int) (k:Nat):(byI x k).length=k:=by simp [byI]
theorem byI_succ (x:List Int) (k:Nat):byI x (k+1)=byI x k++[numS ((x.drop (8*k)).take 8) 8]:=by simp [byI,List.range_succ]
theorem strS_len (x:List Int):(strS x).length=x.length/8:=by unfold strS;rw [List.length_map,byI_len]
theorem b01_mid {x:List Int} (h:Bit01 x) (i:Nat):Bit01 ((x.drop i).take 8):=fun y hy=>h y (List.mem_of_mem_drop (List.mem_of_mem_take hy))
instance BytesOf_s:Con 190 (∀ l:List Int,l.length≤1099511627776∧l.length%8=0∧Bit01 l→Fn 190 [IL l] [] (.tup [Z (strS l),B true])):=⟨fun l hl=>by
 have h8:=hl.2.1
 refine FnC.of_body tabOk Tryz.func190 Tryz.ntmps190 rfl (by decide +kernel) (by simp) fun G=>?_
 refine go (r:=?_);and_intros<;>intros<;>try exact True.intro
 all_goals first|contradiction|omega|skip
 refine WpA.loop (fun k:Nat=>⟨[(0,IL l),(4,.own 0 0 0 k),(5,I (8*(k:Int)))],[⟨u8s (byI l k),0,1,some 5⟩]⟩) (fun k=>k≤l.length/8) (fun k=>l.length/8-k) 0 (by omega) (go (r:=?_)) (fun k hk=>?_)
 ·and_intros<;>first|exact True.intro|rfl
 have hln:=byI_len l k
 have hs:=byI_succ l k
 have hm:=b01_mid hl.2.2 (8*k)
 have hn:=numS_256 hm (k:=8) (by omega)
 by_cases hlt:k<l.length/8
 ·have hml:((l.drop (8*k)).take 8).length=8:=by simp;omega
  have e1:(8*(k:Int)+8).toNat-(8*(k:Int)).toNat=8:=by omega
  have e2:(8*(k:Int)).toNat=8*k:=by omega
  refine go (r:=?_);and_intros<;>intros<;>try exact True.intro
  all_goals first|contradiction|omega|skip
  ·rename_i y hy
   rw [e1,e2] at hy;exact hm y hy
  ·rw [e1,e2,u8_in (by omega),hs]
 ·obtain rfl:k=l.length/8:=by omega
  refine go (r:=?_);and_intros<;>intros<;>try exact True.intro
  refine K.cv ?_
  refine WpL.ofBytes tabOk rfl rfl rfl rfl rfl (by simp [u8s,hln]) (by decide) ?_
  refine go (r:=?_);and_intros<;>intros<;>try exact True.intro
  all_goals trace_state⟩
def padN (n:Nat):Nat:=(8-(n+1)%8)%8
def padL (b:List Int) (j:Nat):List Int:=b++[1]++List.replicate j 0
theorem padL_len (b:List Int) (j:Nat):(padL b j).length=b.length+1+j:=by simp [padL];omega
theorem padL_succ (b:List Int) (j:Nat):padL b (j+1)=padL b j++[0]:=by unfold padL;rw [List.replicate_succ',←List.append_assoc]
theorem b01_pad {b:List Int} (h:Bit01 b) (j:Nat):Bit01 (padL b j):=b01_app (b01_app h (fun x hx=>by simp at hx;exact .inr hx)) (b01_rep j)
def stopS (b:List Int):List UInt8:=strS (padL b (padN b.length))
theorem stopS_len (b:List Int):(stopS b).length=(b.length+8)/8:=by
 unfold stopS;rw [strS_len,padL_len];unfold padN;omega
instance Stopped_s:Con 97 (∀ b:List Int,b.length≤1073741824∧Bit01 b→Fn 97 [IL b] [] (Z (stopS b))):=⟨fun b hl=>by
 have h0:=hl.1
 refine FnC.of_body tabOk Tryz.func97 Tryz.ntmps97 rfl (by decide +kernel) (by simp) fun G=>?_
 refine go (r:=?_);and_intros<;>intros<;>try exact True.intro
 all_goals first|contradiction|omega|skip
 refine WpA.loop (fun j:Nat=>⟨[(3,.own 0 0 0 (b.length+1+j))],[XI (padL b j)]⟩) (fun j=>j≤padN b.length) (fun j=>padN b.length-j) 0 (Nat.zero_le _) ?_ (fun j hj=>?_)
 ·exact Weak.mk (by repeat (first|exact ReT.nil|refine ReT.cons (.keep rfl rfl .nil) ?_|refine ReT.cons (.own rfl rfl rfl rfl rfl rfl .nil) ?_|refine ReT.cons (.ptr rfl rfl rfl rfl .nil) ?_|refine ReT.cons (.keep (congrArg (fun z=>AV.sc (Value.int .i64 z)) (by first|omega|(skip))) rfl .nil) ?_|refine ReT.cons (.keep (congrArg (fun z:List UInt8=>AV.sc (Value.string ⟨z.toArray⟩)) (by skip)) rfl .nil) ?_|refine ReT.cons (.own rfl rfl rfl rfl rfl (by first|omega|(simp;done)|(simp;omega)) .nil) ?_)) (by exact ReO.cons (Re.same (by simp [padL]) (still_ints _)) (.inr rfl) .nil) (Nat.zero_le _)
 have hpl:=padL_len b j
 have hps:=padL_succ b j
 have hcond:j<padN b.length↔(b.length+1+j)%8≠0:=by unfold padN at hj ⊢;omega
 have hp8:padN b.length≤7:=by unfold padN;omega
 by_cases hlt:j<padN b.length
 ·have hc:=hcond.1 hlt
  refine go (r:=?_);and_intros<;>intros<;>try exact True.intro
  all_goals first|contradiction|omega|exact hps.symm
 ·obtain rfl:j=padN b.length:=by omega
  have hc:(b.length+1+padN b.length)%8=0:=Decidable.byContradiction fun h=>hlt (hcond.2 h)
  have hb:=b01_pad hl.2 (padN b.length)
  refine go (r:=?_);and_intros<;>intros<;>try exact True.intro
  all_goals first|contradiction|omega|exact hb|exact hb _ (by assumption)⟩
def unpS (w h q:Int) (b d:Bool) (l:List Int) (M:List Mbk):List UInt8:=if StOk w h q l M then stopS (stK w h q b d l M M.length) else []
theorem stK_small {w h q:Int} {b d:Bool} {l:List Int} {M:List Mbk} (h0:StOk w h q l M):(stK w h q b d l M M.length).length≤600000:=by
 have h1:=stK_len w h q b d l M M.length
 have h2:=cntM_bd h0.1.1
 have h3:=h0.2.1
 omega
theorem unpS_len (w h q:Int) (b d:Bool) (l:List Int) (M:List Mbk):(unpS w h q b d l M).length≤100000:=by
 unfold unpS;split
 ·rename_i h0
  rw [stopS_len]
  have:=stK_small (b:=b) (d:=d) h0
  omega
 ·simp
instance Unparse_s:Con 39 (∀ (w h q:Int) (b d:Bool) (l:List Int) (M:List Mbk),l.length≤1099511627776∧mw M≤1048576→Fn 39 [StA w h q b d l M] [] (Z (unpS w h q b d l M))):=⟨fun w h q b d l M hM=>by
 have hmw:mw M=M.length+(M.map mn).sum:=rfl
 have hsm:SmM 1099511627776 M:=smM_of (by omega)
 have hhl:=hdL_len w h q b d l
 refine FnC.of_body tabOk Tryz.func39 Tryz.ntmps39 rfl (by decide +kernel) (by simp) fun G=>?_
 by_cases h0:StOk w h q l M
 ·have hres:unpS w h q b d l M=stopS (stK w h q b d l M M.length):=by rw [unpS,if_pos h0]
  have hz:(hdL w h q b d l).length=(stK w h q b d l M 0).length:=by simp [stK]
  have hz0:hdL w h q b d l=stK w h q b d l M 0:=by simp [stK]
  refine go (r:=?_);and_intros<;>intros<;>try exact True.intro
  all_goals first|exact hsm|(exact absurd h0 (by assumption))|skip
  refine WpA.loop (fun i:Nat=>⟨[(1,.ptr 0 0 0),(3,.own 1 0 0 (stK w h q b d l M i).length),(4,I i)],[⟨StC w h q b d l M,0,0,none⟩,XI (stK w h q b d l M i)]⟩) (fun i=>i≤M.length) (fun i=>M.length-i) 0 (by omega) (go (r:=?_)) (fun i hi=>?_)
  ·and_intros<;>first|exact True.intro|exact hz|exact hz0|exact hz.symm
  have hb:=stK_len w h q b d l M i
  have hsc:=fun hk=>stK_succ w h q b d l M i hk
  have hbl:=mbbL_len (M.getD i default).1 (M.getD i default).2 l
  have hsl:i<M.length→(stK w h q b d l M (i+1)).length=(stK w h q b d l M i).length+(mbbL (M.getD i default).1 (M.getD i default).2 l).length:=fun hk=>by rw [hsc hk,List.length_append];rfl
  by_cases hi2:i<M.length
  ·obtain ⟨hg1,hg2⟩:=smM_get hsm hi2
   have hsl:=hsl hi2
   refine go (r:=?_);and_intros<;>intros<;>try exact True.intro
   all_goals first|(rw [hsc hi2];rfl)
  ·have ek:i=M.length:=by omega
   subst ek
   have hst:=stK_small (b:=b) (d:=d) h0
   have h01:=b01_st w h q b d l M M.length
   refine go (r:=?_);and_intros<;>intros<;>try exact True.intro
   all_goals first|exact h01|exact h01 _ (by assumption)|(rw [hres];done)
 ·have hres:unpS w h q b d l M=[]:=by rw [unpS,if_neg h0]
  refine go (r:=?_);and_intros<;>intros<;>try exact True.intro
  all_goals first|exact hsm|(exact absurd (by assumption) h0)|(rw [hres];done)⟩
end Go.Proofs.YtndflfipaddfoaaGreat


namespace Go.Proofs.YtndflfipaddfoaaGreat
open Go Go.Abs
attribute [local irreducible] WpA WpL Rnd Blk Abs.Seq Abs.Fin Abs.FinG FnC FnG FnX FnP FinX Only
attribute [local irreducible] belowD onceD pickD modeD l8D l8AnyD optD anyD seedD headD headAnyD symL HasC blkD mbD strD unpS
end Go.Proofs.YtndflfipaddfoaaGreat


namespace Go.Proofs.YtndflfipaddfoaaGreat
open Go Go.Abs
attribute [local irreducible] WpA WpL Rnd Blk Abs.Seq Abs.Fin Abs.FinG FnC FnG FnX FnP FinX Only
instance big_c:Con 24 (∀ l:List Int,l.length≤9223372036854775807→Fn 24 [CodA l] [] (B (decide ((l.length:Int)>1048576)))):=⟨fun l hl=>by
 refine FnC.of_body tabOk Tryz.func24 Tryz.ntmps24 rfl (by decide +kernel) (by simp) fun G=>?_
 refine go (r:=?_);and_intros<;>intros<;>try exact True.intro⟩
end Go.Proofs.YtndflfipaddfoaaGreat


namespace Go.Proofs.YtndflfipaddfoaaGreat
open Go Go.Abs
attribute [local irreducible] WpA WpL Rnd Blk Abs.Seq Abs.Fin Abs.FinG FnC FnG FnX FnP FinX Only
attribute [local irreducible] belowD onceD pickD modeD l8D l8AnyD optD anyD seedD headD headAnyD symL HasC blkD mbD strD unpS
theorem refL_len (W H q:Int) (b d:Bool) (M:List Mbk):(refL W H q b d M).length=(W*H).toNat:=by unfold refL;rw [endL_len,bldM_len];simp [zerP]
theorem bldF_len (w h q:Int) (b d:Bool) (L:List Int) (M:List Mbk):(bldF w h q b d L M).P.length≤1024:=by
 unfold bldF;split
 ·rename_i hok
  have hs:=hok.1.1
  have h2:w*h≤32*32:=Int.mul_le_mul hs.2.1 hs.2.2.2.1 (by have:=hs.2.2.1;omega) (by omega)
  show (refL w h q b d M).length≤1024
  rw [refL_len];omega
 ·simp
theorem decF_len (p:List UInt8):(decF p).P.length≤1024:=by
 unfold decF;split
 ·exact bldF_len ..
 ·simp
abbrev fpS (l:List Int):Cr×Str8:=strD l (newD l)
abbrev fpT (l:List Int):List UInt8:=unpS (fpS l).2.hd.w (fpS l).2.hd.h (fpS l).2.hd.q (fpS l).2.hd.b (fpS l).2.hd.d (fpS l).2.hd.lens (fpS l).2.ms
abbrev fpI (l:List Int):Int:=(belowD l (fpS l).1 (8*((fpT l).length:Int)+2)).2-1
theorem DrawSurvives_p (v:Value) (l:List Int) (hl:l.length≤1048576):FnP Tryz.prog 36 [.sc v] [] [v] [CodA l] [] [] (.tup [Z (fpT l),I (fpI l)]):=by
 have hn:=newD_ok hl
 have hs:=strD_ok hn
 have hs1:=hs.1
 have hs2:=hs.2.1
 have hmw:=mw_small hs.2.2.2.2
 have hln:=hs.2.2.2.1
 have hcm:=cntM_bd hs.2.2.1
 have hcm2:=hcm.2.2.2
 have hmw2:mw (strD l (newD l)).2.ms≤1048576:=by omega
 have hu:=unpS_len (strD l (newD l)).2.hd.w (strD l (newD l)).2.hd.h (strD l (newD l)).2.hd.q (strD l (newD l)).2.hd.b (strD l (newD l)).2.hd.d (strD l (newD l)).2.hd.lens (strD l (newD l)).2.ms
 have hb:=belowD_ok (8*((unpS (strD l (newD l)).2.hd.w (strD l (newD l)).2.hd.h (strD l (newD l)).2.hd.q (strD l (newD l)).2.hd.b (strD l (newD l)).2.hd.d (strD l (newD l)).2.hd.lens (strD l (newD l)).2.ms).length:Int)+2) hs1
 have hb0:=hb.2.1
 have hb1:=hb.2.2.1 (by omega)
 refine FnP.of_body tabOk Tryz.func36 Tryz.ntmps36 rfl (by decide +kernel) (by simp) rfl rfl rfl fun G hp=>?_
 refine goR (r:=?_);and_intros<;>intros<;>try exact True.intro
 refine K.call ?_
 refine WpL.callN (l1New_p v l hl) hp handA (.cons rfl (.sc (.sc (.sc .nil))) .nil) rfl rfl (by decide) ?_
 refine go (r:=?_);and_intros<;>intros<;>try exact True.intro
 all_goals first|exact hl|exact hn.2.1|exact hn.2.2|exact hs1.2.1|exact hs1.2.2|contradiction|omega|exact FinG.tI [] rfl (ResV.tmp rfl) (ResV.tmp rfl) (.tup (.keep rfl rfl rfl (.keep rfl rfl rfl .nil)) .nil) .nil rfl rfl
instance DrawSurvives_c:Con 36 (∀ l:List Int,l.length≤1048576→Fn 36 [CodA l] [] (.tup [Z (fpT l),I (fpI l)])):=⟨fun l hl=>FnC.of_pin fun v=>DrawSurvives_p v l hl⟩
attribute [-instance] DrawSurvives_c
theorem FnFlipped_c (l:List Int) (hl:l.length≤9223372036854775807):Fn 7 [CodA l] [] (B true):=by
 by_cases hb:(l.length:Int)>1048576
 ·refine FnC.of_body tabOk Tryz.func7 Tryz.ntmps7 rfl (by decide +kernel) (by simp) fun G=>?_
  refine go (r:=?_);and_intros<;>intros<;>try exact True.intro
 ·have hl2:l.length≤1048576:=by omega
  have hdc:=DrawSurvives_c.ok l hl2
  have hu:(fpT l).length≤100000:=unpS_len _ _ _ _ _ _ _
  generalize fpT l=T at*
  generalize fpI l=i at*
  have hfl:=flipS_len T i
  have hbo:=btA_out T i
  have hbo2:=btA_out (flipS T i) i
  by_cases hbt:btA T i<0
  ·have hf:flipS T i=T:=by unfold flipS;rw [if_pos hbt]
   have hsv:survS T i=-1:=by unfold survS;rw [if_pos hbt]
   refine FnC.of_body tabOk Tryz.func7 Tryz.ntmps7 rfl (by decide +kernel) (by simp) fun G=>?_
   refine goR (r:=?_);and_intros<;>intros<;>try exact True.intro
   all_goals first|contradiction|omega|skip
   refine K.call ?_
   apply WpL.callK hdc
   ·exact .keep rfl rfl .nil
   ·decide
   refine goR (r:=?_);and_intros<;>intros<;>try exact True.intro
   all_goals first|contradiction|omega|exact absurd ‹(!!_)=false› (by simp [hbt])|exact decide_eq_true hsv
  ·have hin:0≤i∧i<8*T.length:=by omega
   have hbt2:¬btA (flipS T i) i<0:=by omega
   have hfb:=flip_back hin hbt hbt2
   have hsv:survS T i=(prS (flipS T i)).c:=by unfold survS;rw [if_neg hbt]
   have hdl:=decF_len (flipS T i)
   have hrd:=RefDecode_c (flipS T i) (by omega)
   have hfd:=FastDecode_c (flipS T i) (by omega)
   refine FnC.of_body tabOk Tryz.func7 Tryz.ntmps7 rfl (by decide +kernel) (by simp) fun G=>?_
   refine goR (r:=?_);and_intros<;>intros<;>try exact True.intro
   all_goals first|contradiction|omega|skip
   refine K.call ?_
   apply WpL.callK hdc
   ·exact .keep rfl rfl .nil
   ·decide
   refine goR (r:=?_);and_intros<;>intros<;>try exact True.intro
   all_goals first|contradiction|omega|exact absurd ‹(!!_)=true› (by simp [hbt])|skip
   refine K.call ?_
   apply WpL.callK hrd
   ·exact .keep rfl rfl .nil
   ·decide
   refine goR (r:=?_);and_intros<;>intros<;>try exact True.intro
   all_goals first|contradiction|omega|skip
   refine K.call ?_
   apply WpL.callK hfd
   ·exact .keep rfl rfl .nil
   ·decide
   refine goR (r:=?_);and_intros<;>intros<;>try exact True.intro
   all_goals first|contradiction|omega|exact absurd ‹flipS T i=T› hfb.2|exact absurd hfb.1 ‹¬ flipS (flipS T i) i=T›|(rename_i hg;exact absurd hsv.symm hg)|(simp;done)
end Go.Proofs.YtndflfipaddfoaaGreat


namespace Go.Abs
open Go Go.RowKit
theorem FnC.walk {P:Program} {f:FuncId} {args:List AV} {N:List AObj} {x:Value} (hc:FnC P f args N (.sc x)) {w:World} {S:Nat→Prop} {vs:List Value} (hS:∀b,S b→b<w.heap.size)
 (hl:LRel S w (fun _=>none) [] args vs []):Calls P f vs.toArray w fun e w'=>e=.returned x∧Below w.heap.size w w':=by
 refine (hc.2 w S vs hS hl).mono fun e w' h=>?_
 obtain ⟨v,S',ι,F,rfl,_,_,_,_,_,hv,hk⟩:=h
 cases hv with
 |sc r=>exact ⟨rfl,hk.os,hk.tape,hk.output,hk.size,fun b hb=>hk.block b hb (fun h=>h)⟩
theorem spot_none {w:World} {x:Addr} {n:Nat} (h:0<n) (hc:∀i,i<n→∃v,w.cell? (x.add i)=some v):x.spot=none:=by
 obtain ⟨v,hv⟩:=hc 0 h
 simpa [Addr.add] using World.cell?_spot hv
end Go.Abs


namespace Go.Abs
open Go Go.RowKit
inductive Sp where
 |int (k:IntKind)|bool|str|struct (fs:List Sp)|slice (k:Nat) (e:Sp)
mutual
inductive SpOk (P:Program):TypeId→Sp→Prop
 |int {t k}:P.underlying t=some (.int k)→SpOk P t (.int k)
 |bool {t}:P.underlying t=some .bool→SpOk P t .bool
 |str {t}:P.underlying t=some .string→SpOk P t .str
 |struct {t fs sps n}:P.underlying t=some (.struct fs)→P.cellsOf t=n→SpF P 0 fs.toList sps n→SpOk P t (.struct sps)
 |slice {t e k sp}:P.underlying t=some (.slice e)→P.cellsOf e=k→0<k→SpOk P e sp→SpOk P t (.slice k sp)
inductive SpF (P:Program):Nat→List Field→List Sp→Nat→Prop
 |nil {k}:SpF P k [] [] k
 |cons {k c f fs sp sps n}:f.offset=k→P.cellsOf f.type=c→SpOk P f.type sp→SpF P (k+c) fs sps n→SpF P k (f::fs) (sp::sps) n
end
mutual
inductive Rd:Sp→List AV→Prop
 |int {k n}:(Lit.int k n).wf=true→Rd (.int k) [.sc (.int k n)]
 |bool {b}:Rd .bool [.sc (.bool b)]
 |str {p:List UInt8}:p.length≤maxLen→Rd .str [.sc (.string ⟨p.toArray⟩)]
 |struct {sps cs}:RdF sps cs→Rd (.struct sps) cs
 |slice {sp len k cs}:len≤maxLen→RdN sp len k cs→Rd (.slice k sp) [.imm k len cs]
inductive RdF:List Sp→List AV→Prop
 |nil:RdF [] []
 |cons {sp sps a b}:Rd sp a→RdF sps b→RdF (sp::sps) (a++b)
inductive RdN:Sp→Nat→Nat→List AV→Prop
 |nil {sp k}:RdN sp 0 k []
 |snoc {sp n k a b}:RdN sp n k a→Rd sp b→b.length=k→RdN sp (n+1) k (a++b)
end
theorem RdN.len {sp n k cs} (h:RdN sp n k cs):cs.length=n*k:=by
 induction n generalizing cs with
 |zero=>cases h;simp
 |succ n ih=>cases h with|snoc h1 h2 h3=>rw [List.length_append,ih h1,h3,Nat.add_mul];omega
section
variable {H:Type} {enc:TypeId×Value→H} {P:Program} {w:World} {base:Nat} {spare:Nat→Bool} {held:Bool}
theorem read {S:Nat→Prop} {ι:Nat→Spot} (hS:∀b,b<w.heap.size→S b):∀(fuel:Nat) (t:TypeId) (sp:Sp) (cs:List Value) (x:DataW H×List MemPlace),SpOk P t sp→
 DataW.trod enc P w base spare held fuel t cs=some x→∃ds,Rd sp ds∧∀O,LRel S w ι O ds cs []:=by
 intro fuel
 induction fuel with
 |zero=>intro t sp cs x _ h;simp [DataW.trod] at h
 |succ fuel ih=>
  intro t sp cs x hsp h
  cases hsp with
  |int ht=>
   obtain ⟨n,rfl,_,hw⟩:=DataW.trod_int ht h
   exact ⟨_,.int hw,fun O=>.sc .nil⟩
  |bool ht=>
   obtain ⟨b,rfl,_⟩:=DataW.trod_bool ht h
   exact ⟨_,.bool,fun O=>.sc .nil⟩
  |str ht=>
   obtain ⟨s,rfl,_,hs⟩:=DataW.trod_string ht h
   exact ⟨[.sc (.string ⟨s.data.toList.toArray⟩)],.str (by have:s.data.toList.length=s.size:=rfl;omega),fun O=>.sc .nil⟩
  |@struct _ fs sps n ht hn hf=>
   obtain ⟨xs,m,hm,_,hlen,hxl,hel⟩:=DataW.trod_struct ht h
   obtain rfl:fuel=m:=by omega
   have key:∀(fl:List Field) (k:Nat) (sps:List Sp),SpF P k fl sps n→(∀ f∈fl,∃x,DataW.trod enc P w base spare held fuel f.type ((cs.drop f.offset).take (P.cellsOf f.type))=some x)→
    k≤n→∃ds,RdF sps ds∧∀O,LRel S w ι O ds (cs.drop k) []:=by
    intro fl
    induction fl with
    |nil=>
     intro k sps hF _ _
     cases hF
     exact ⟨[],.nil,fun O=>by rw [List.drop_eq_nil_of_le (by omega)];exact .nil⟩
    |cons f fl ihf=>
     intro k sps hF hx hk
     cases hF with
     |cons h1 h2 h3 h4=>
      obtain ⟨y,hy⟩:=hx f (by simp)
      obtain ⟨d1,r1,l1⟩:=ih _ _ _ _ h3 hy
      have hkn:∀{k fl sps},SpF P k fl sps n→k≤n:=by
       intro k fl
       induction fl generalizing k with
       |nil=>intro sps h;cases h;exact Nat.le_refl _
       |cons f fl ih2=>intro sps h;cases h with|cons _ _ _ h=>have:=ih2 h;omega
      obtain ⟨d2,r2,l2⟩:=ihf _ _ h4 (fun g hg=>hx g (by simp [hg])) (hkn h4)
      refine ⟨d1++d2,.cons r1 r2,fun O=>?_⟩
      have e:cs.drop k=(cs.drop f.offset).take (P.cellsOf f.type)++cs.drop (k+P.cellsOf f.type):=by
       rw [h1,←List.drop_drop,List.take_append_drop]
      rw [e,h2]
      rw [h2] at l1
      simpa using (l1 O).append (l2 O)
   obtain ⟨ds,r,l⟩:=key fs.toList 0 sps hf (fun f hf'=>by
    obtain ⟨i,hi⟩:=List.getElem?_of_mem hf'
    have hi':fs[i]?=some f:=by simpa using hi
    have:=hel i f hi'
    have hlt:i<xs.length:=by have:=(Array.getElem?_eq_some_iff.1 hi').1;omega
    exact ⟨xs[i],by rw [this];simp [hlt]⟩) (Nat.zero_le _)
   exact ⟨ds,.struct r,fun O=>by simpa using l O⟩
  |@slice _ e k sp ht hk hk0 he=>
   rcases DataW.trod_slice ht h with ⟨rfl,_⟩|⟨a,len,cap,elems,rest,m,hm,rfl,_,hb,hl,hc,hlen,hel,_,_⟩
   ·exact ⟨[.imm k 0 []],.slice (by simp) .nil,fun O=>.imm0 (by simp) .nil⟩
   obtain rfl:fuel=m:=by omega
   have cells:∀j,j≤len→∃ds us,RdN sp j k ds∧us.length=j*k∧(∀ i,i<us.length→w.cell? (a.add i)=us[i]?)∧LRel S w ι [] ds us []:=by
    intro j
    induction j with
    |zero=>intro _;exact ⟨[],[],.nil,by simp,by simp,.nil⟩
    |succ j ihj=>
     intro hj
     obtain ⟨ds,us,h1,h2,h3,h4⟩:=ihj (by omega)
     have hx:=hel j (by omega)
     have hlt:j<elems.length:=by omega
     rw [List.getElem?_eq_getElem hlt,Option.bind_eq_some_iff,hk] at hx
     obtain ⟨us2,hu,ht2⟩:=hx
     obtain ⟨d2,r2,l2⟩:=ih _ _ _ _ he ht2
     obtain ⟨_,c2,c3⟩:=World.cells?_some hu
     have l2':=l2 []
     have hd2:d2.length=k:=by rw [l2'.len,c2]
     refine ⟨ds++d2,us++us2,.snoc h1 r2 hd2,by rw [List.length_append,h2,c2,Nat.add_mul];omega,fun i hi=>?_,by simpa using h4.append l2'⟩
     rw [List.length_append] at hi
     by_cases hlt2:i<us.length
     ·rw [h3 i hlt2,List.getElem?_append_left hlt2]
     ·have hadd:a.add i=(a.add (j*k)).add (i-j*k):=by
       unfold Addr.add
       by_cases hz:j*k=0
       ·simp [hz]
       ·by_cases hz2:i-j*k=0
        ·have:i=j*k:=by omega
         simp [this]
        ·rw [if_neg (by omega),if_neg hz,if_neg hz2]
         simp only [Addr.mk.injEq,true_and,and_true]
         omega
      rw [hadd,c3 (i-j*k) (by omega),List.getElem?_append_right (by omega),h2]
   obtain ⟨ds,us,h1,h2,h3,h4⟩:=cells len (Nat.le_refl _)
   refine ⟨[.imm k len ds],.slice (by omega) h1,fun O=>?_⟩
   by_cases h0:len=0
   ·subst h0
    cases h1
    exact .imm0 ⟨by simp,hc⟩ .nil
   ·have hul:0<us.length:=by rw [h2];exact Nat.mul_pos (by omega) hk0
    have hsp:=spot_none (w:=w) (x:=a) (n:=us.length) hul fun i hi=>⟨us[i],by rw [h3 i hi];simp [hi]⟩
    obtain ⟨b,o,q⟩:=a
    simp only at hsp
    subst hsp
    have hcell:∀i,i<us.length→w.cell? ⟨b,o+i,none⟩=us[i]?:=fun i hi=>by have:=h3 i hi;rwa [addr_add] at this
    refine .imm (us:=us) (hS _ ?_) hcell h4 (by rw [h1.len]) hl hc .nil
    by_cases hb':b<w.heap.size
    ·exact hb'
    ·have:=hcell 0 hul
     simp [World.cell?,Array.getElem?_eq_none (Nat.le_of_not_lt hb'),hul] at this
end
end Go.Abs


namespace Go.Abs
open Go Go.RowKit
abbrev i64 (n:Int):Prop:=-9223372036854775808≤n∧n≤9223372036854775807
theorem lrel_cons0 {S:Nat→Prop} {w:World} {ι:Nat→Spot} {O:List AObj} {V:AV} {v:Value} {cs:List AV} {vs:List Value} (h1:VRel S w ι O V v []) (h2:LRel S w ι O cs vs []):LRel S w ι O (V::cs) (v::vs) []:=LRel.cons h1 h2
end Go.Abs


namespace Go.Proofs.YtndflfipaddfoaaGreat
open Go Go.Abs Go.RowKit
theorem rdN_u8s {n:Nat} {cs:List AV} (h:RdN (.int .u8) n 1 cs):∃xs:List Int,cs=u8s xs∧xs.length=n∧∀x∈xs,0≤x∧x≤255:=by
 induction n generalizing cs with
 |zero=>cases h;exact ⟨[],rfl,rfl,by simp⟩
 |succ n ih=>
  cases h with
  |snoc h1 h2 h3=>
   obtain ⟨xs,rfl,h5,h6⟩:=ih h1
   cases h2 with
   |@int k m hw=>
    refine ⟨xs++[m],by simp [u8s],by simp [h5],fun x hx=>?_⟩
    rcases List.mem_append.1 hx with hx|hx
    ·exact h6 x hx
    ·have:x=m:=by simpa using hx
     subst this
     simpa [Lit.wf,show IntKind.u8.min=0 from rfl,show IntKind.u8.max=255 from rfl] using hw
theorem rd_u8s {ds:List AV} (h:Rd (.slice 1 (.int .u8)) ds):∃xs:List Int,ds=[.imm 1 xs.length (u8s xs)]∧xs.length≤9223372036854775807∧∀x∈xs,0≤x∧x≤255:=by
 cases h with
 |slice hl hn=>
  obtain ⟨xs,rfl,h1,h2⟩:=rdN_u8s hn
  subst h1
  exact ⟨xs,rfl,by simp only [maxLen] at hl;omega,h2⟩
end Go.Proofs.YtndflfipaddfoaaGreat
