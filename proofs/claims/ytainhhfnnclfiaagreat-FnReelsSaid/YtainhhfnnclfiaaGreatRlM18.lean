/- Proved in this text: lemmas and contracts of functions that the claim uses (parts: ReX, Bridge, Read, Read2, Read3). No condition. -/
import Derived.Test.YtainhhfnnclfiaaGreatRlM15
import Derived.Test.YtainhhfnnclfiaaGreatRlM17
import Derived.Test.YtainhhfnnclfiaaGreatRlM16
import Derived.Test.YtainhhfnnclfiaaGreatRlM2
import Derived.Below
import Derived.ChangeArms
import Derived.Test.YtainhhfnnclfiaaGreatRlM3
import Derived.Test.YtainhhfnnclfiaaGreatRlM9
set_option linter.unusedVariables false
set_option linter.unusedSimpArgs false
set_option maxRecDepth 100000
set_option maxHeartbeats 16000000


namespace Go.Proofs.YtainhhfnnclfiaaGreat
open Go Go.Abs
attribute [local irreducible] WpA WpL Rnd Blk Abs.Seq Abs.Fin Abs.FinG FnC FnG FnX FnP FinX Only
attribute [local irreducible] seedD prS decF unL unOk packs
theorem DrawPackReel_x (v:Value) (l:List Int) (hl:l.length≤1048576):FnX Tryz.prog 11 [.sc v] [] [v] [CodA l] (List (List UInt8)) (fun y=>y.length≤9∧totR y≤600000) (fun _=>[]) (fun y=>[SO y]) (fun y=>.own 0 0 0 y.length):=by
 have hn:=newD_ok hl
 refine FnX.of_body tabOk Tryz.func11 Tryz.ntmps11 rfl (by decide +kernel) (by simp) rfl rfl fun G hp=>?_
 refine goR (r:=?_);and_intros<;>intros<;>try exact True.intro
 refine K.call ?_
 refine WpL.callN (l1New_p v l hl) hp handA (.cons rfl (.sc (.sc (.sc .nil))) .nil) rfl rfl (by decide) ?_
 refine K.call ?_
 refine WpL.callE (hs:=[0]) (l32Texts_x v l (newD l) hn) hp handA handOA rfl (fun _=>rfl) (fun _=>.cons rfl (.sc (.sc (.sc .nil))) .nil) (fun _=>outA) rfl rfl (fun _=>rfl) (fun _=>rfl) (by decide) (fun y hy=>?_)
 refine go (r:=?_);and_intros<;>intros<;>try exact True.intro
 all_goals first|exact FinX.fin (y:=y.2) (FinG.oI [some 1] rfl (ResV.tmp rfl) (.own rfl rfl rfl rfl .nil) (.obj rfl rfl (still_strs _) rfl rfl (.inr rfl) .nil) rfl rfl) hy.2
theorem DrawUnpackReel_x (v:Value) (l:List Int) (hl:l.length≤1048576):FnX Tryz.prog 15 [.sc v] [] [v] [CodA l] (List UInt8) (fun y=>y.length≤1000000) (fun _=>[]) (fun _=>[]) (fun y=>Z y):=by
 have hn:=newD_ok hl
 refine FnX.of_body tabOk Tryz.func15 Tryz.ntmps15 rfl (by decide +kernel) (by simp) rfl rfl fun G hp=>?_
 refine goR (r:=?_);and_intros<;>intros<;>try exact True.intro
 refine K.call ?_
 refine WpL.callN (l1New_p v l hl) hp handA (.cons rfl (.sc (.sc (.sc .nil))) .nil) rfl rfl (by decide) ?_
 refine goR (r:=?_);and_intros<;>intros<;>try exact True.intro
 refine K.call ?_
 refine WpL.callE (hs:=[0]) (l32Texts_x v l (newD l) hn) hp handA handOA rfl (fun _=>rfl) (fun _=>.cons rfl (.sc (.sc (.sc .nil))) .nil) (fun _=>outA) rfl rfl (fun _=>rfl) (fun _=>rfl) (by decide) (fun y hy=>?_)
 obtain ⟨hc,h9,ht⟩:=hy
 have hpk:=packs_len y.2
 have hb:=belowD_ok 5 hc
 refine goR (r:=?_);and_intros<;>intros<;>try exact True.intro
 all_goals first|exact hc.2.1|exact hc.2.2|contradiction|omega|skip
 ·refine K.call ?_
  refine WpL.callE (hs:=[0]) (l1Spoil_x v l (belowD l y.1 5).1 (packs y.2) hb.1 (by omega)) hp handA handOA rfl (fun _=>rfl) (fun _=>.cons rfl (.sc (.sc (.sc .nil))) .nil) (fun _=>outA) rfl rfl (fun _=>rfl) (fun _=>rfl) (by decide) (fun z hz=>?_)
  refine go (r:=?_);and_intros<;>intros<;>try exact True.intro
  all_goals first|exact FinX.fin (y:=z.2) (FinG.oI [] rfl (ResV.tmp rfl) (.keep rfl rfl rfl .nil) .nil rfl rfl) (show z.2.length≤1000000 by have:=hz.2;omega)
 ·exact FinX.fin (y:=packs y.2++[5,97,98]) (FinG.oI [] rfl (ResV.tmp rfl) (.keep rfl rfl rfl .nil) .nil rfl rfl) (by simp only [List.length_append];show _+3≤_;omega)
 ·exact FinX.fin (y:=packs y.2) (FinG.oI [] rfl (ResV.tmp rfl) (.keep rfl rfl rfl .nil) .nil rfl rfl) (show (packs y.2).length≤1000000 by omega)
theorem DrawPlayReel_x (v:Value) (l:List Int) (hl:l.length≤1048576):FnX Tryz.prog 17 [.sc v] [] [v] [CodA l] (List (List UInt8)) (fun y=>y.length≤2∧totR y≤600000) (fun _=>[]) (fun _=>[]) (fun y=>Z (packs y)):=by
 have hn:=newD_ok hl
 refine FnX.of_body tabOk Tryz.func17 Tryz.ntmps17 rfl (by decide +kernel) (by simp) rfl rfl fun G hp=>?_
 refine goR (r:=?_);and_intros<;>intros<;>try exact True.intro
 refine K.call ?_
 refine WpL.callN (l1New_p v l hl) hp handA (.cons rfl (.sc (.sc (.sc .nil))) .nil) rfl rfl (by decide) ?_
 refine goR (r:=?_);and_intros<;>intros<;>try exact True.intro
 refine K.call ?_
 refine WpL.callE (hs:=[0]) (l32Texts_x v l (newD l) hn) hp handA handOA rfl (fun _=>rfl) (fun _=>.cons rfl (.sc (.sc (.sc .nil))) .nil) (fun _=>outA) rfl rfl (fun _=>rfl) (fun _=>rfl) (by decide) (fun y hy=>?_)
 obtain ⟨hc,h9,ht⟩:=hy
 have ht2:=totR_take y.2 2
 have e2:(strs y.2).take 2=strs (y.2.take 2):=by simp [strs]
 refine goR (r:=?_);and_intros<;>intros<;>try exact True.intro
 all_goals first|contradiction|omega|skip
 ·have hl2:(y.2.take 2).length=2:=by rw [List.length_take];omega
  refine K.sl ?_
  generalize y.2.take 2=xs at*
  refine WpL.subOwn (j:=xs.length) tabOk rfl rfl rfl rfl (by rw [hl2];rfl) (by omega) (by decide) ?_
  refine WpL.weak (Weak.preC 2 (id:=1) rfl) ?_
  simp only [List.set,e2]
  refine goR (r:=?_);and_intros<;>intros<;>try exact True.intro
  all_goals first|contradiction|omega|skip
  all_goals exact FinX.fin (y:=xs) (FinG.oI [] rfl (ResV.tmp rfl) (.keep rfl rfl rfl .nil) .nil rfl rfl) ⟨by omega,by omega⟩
 ·exact FinX.fin (y:=y.2) (FinG.oI [] rfl (ResV.tmp rfl) (.keep rfl rfl rfl .nil) .nil rfl rfl) ⟨by omega,ht⟩
instance sameTexts_c:Con 14 (∀ xs ys:List (List UInt8),xs.length≤1048576∧ys.length≤1048576→Fn 14 [.imm 1 xs.length (strs xs),.imm 1 ys.length (strs ys)] [] (B (decide (xs=ys)))):=⟨fun xs ys hl=>by
 by_cases he:xs.length=ys.length
 ·refine FnC.of_body tabOk Tryz.func14 Tryz.ntmps14 rfl (by decide +kernel) (by simp) fun G=>?_
  refine go (r:=?_);and_intros<;>intros<;>try exact True.intro
  all_goals first|contradiction|omega|skip
  refine WpA.loop (fun k:Nat=>⟨[(0,.imm 1 xs.length (strs xs)),(1,.imm 1 ys.length (strs ys)),(5,I k)],[]⟩) (fun k=>k≤xs.length∧∀i,i<k→xs.getD i []=ys.getD i []) (fun k=>xs.length-k) 0 ⟨Nat.zero_le _,fun i hi=>absurd hi (Nat.not_lt_zero _)⟩ (go (r:=?_)) (fun k hk=>?_)
  ·and_intros<;>first|exact True.intro|rfl
  have hstep:xs.getD k []=ys.getD k []→∀i,i<k+1→xs.getD i []=ys.getD i []:=fun h i hi=>by
   rcases Nat.lt_or_ge i k with h'|h'
   ·exact hk.2 i h'
   ·have:i=k:=by omega
    subst this;exact h
  have hend:k=xs.length→decide (xs=ys)=true:=fun h=>decide_eq_true (List.ext_getElem he fun i h1 h2=>by
   have:=hk.2 i (by omega)
   rw [List.getD_eq_getElem?_getD,List.getD_eq_getElem?_getD,List.getElem?_eq_getElem h1,List.getElem?_eq_getElem h2] at this
   exact this)
  have hno:xs.getD k []≠ys.getD k []→decide (xs=ys)=false:=fun h=>decide_eq_false fun e=>h (by rw [e])
  have hk1:=hk.1
  refine go (r:=?_);and_intros<;>intros<;>try exact True.intro
  all_goals first|contradiction|omega|exact hstep (by assumption) _ (by assumption)|exact (hno (by assumption)).symm|exact (hend (by omega)).symm
 ·have hd:decide (xs=ys)=false:=decide_eq_false fun e=>he (by rw [e])
  rw [hd]
  refine FnC.of_body tabOk Tryz.func14 Tryz.ntmps14 rfl (by decide +kernel) (by simp) fun G=>?_
  refine go (r:=?_);and_intros<;>intros<;>try exact True.intro
  all_goals first|contradiction|omega⟩
theorem decF_lenR (p:List UInt8):(decF p).P.length≤1024:=by
 unfold decF;split
 ·unfold bldF;split
  ·rename_i hok
   have hs:=hok.1.1
   have h2:(prS p).W*(prS p).H≤32*32:=Int.mul_le_mul hs.2.1 hs.2.2.2.1 (by have:=hs.2.2.1;omega) (by omega)
   show (refL _ _ _ _ _ _).length≤1024
   unfold refL zerP
   rw [endL_len,bldM_len,List.length_replicate];omega
  ·simp
 ·simp
instance:Inhabited Frm:=⟨⟨0,0,[]⟩⟩
theorem mz_get {α:Type} (f:List UInt8→α) (L:List (List UInt8)) (d:α) {n k:Nat} (h:k<n):(mz f L n).getD k d=f (L.getD k []):=by
 unfold mz
 rw [List.getD_eq_getElem?_getD,List.getElem?_map,List.getElem?_range h];rfl
theorem totR_mem {x:List UInt8}:∀{xs:List (List UInt8)},x∈xs→x.length≤totR xs
 |a::xs,h=>by
  have e:totR (a::xs)=a.length+totR xs:=by simp [totR]
  rcases List.mem_cons.1 h with rfl|h
  ·omega
  ·have:=totR_mem h;omega
section
attribute [-instance] UnpackReel_c UnpackReel_s
theorem FnReels_p (v:Value) (l:List Int) (hl:l.length≤9223372036854775807):FnP Tryz.prog 3 [.sc v] [] [v] [CodA l] [] [] (B true):=by
 by_cases hb:(l.length:Int)>1048576
 ·refine FnP.of_body tabOk Tryz.func3 Tryz.ntmps3 rfl (by decide +kernel) (by simp) rfl rfl rfl fun G hp=>?_
  refine goR (r:=?_);and_intros<;>intros<;>try exact True.intro
  refine WpL.pin (d:=20) hp rfl ?_
  refine go (r:=?_);and_intros<;>intros<;>try exact True.intro
  exact FinG.oI [] rfl (ResV.tmp rfl) (.keep rfl rfl rfl .nil) .nil rfl rfl
 ·have hl2:l.length≤1048576:=by omega
  refine FnP.of_body tabOk Tryz.func3 Tryz.ntmps3 rfl (by decide +kernel) (by simp) rfl rfl rfl fun G hp=>?_
  refine goR (r:=?_);and_intros<;>intros<;>try exact True.intro
  refine WpL.pin (d:=20) hp rfl ?_
  refine goR (r:=?_);and_intros<;>intros<;>try exact True.intro
  all_goals first|contradiction|omega|skip
  refine K.call ?_
  refine WpL.callE (hs:=[]) (DrawPackReel_x v l hl2) hp handA handOA rfl (fun _=>rfl) (fun _=>.nil) (fun _=>outA) rfl rfl (fun _=>rfl) (fun _=>rfl) (by decide) (fun xs hxs=>?_)
  obtain ⟨hx9,hxt⟩:=hxs
  have hpk:=packs_len xs
  by_cases h8:xs.length≤8
  ·have hun:=un_packs h8 (fun x hx=>by have:=totR_mem hx;omega)
   have huc:=UnpackReel_c.ok (packs xs) (by omega)
   rw [hun.1,hun.2] at huc
   refine goR (r:=?_);and_intros<;>intros<;>try exact True.intro
   all_goals first|contradiction|omega|skip
   refine K.call ?_
   refine WpL.callF huc snapA locA outA rfl rfl rfl (by decide) ?_
   refine goR (r:=?_);and_intros<;>intros<;>try exact True.intro
   all_goals first|contradiction|omega|(exfalso;rename_i hg;revert hg;simp;done)|skip
   refine K.call ?_
   refine WpL.callE (hs:=[]) (DrawUnpackReel_x v l hl2) hp handA handOA rfl (fun _=>rfl) (fun _=>.nil) (fun _=>outA) rfl rfl (fun _=>rfl) (fun _=>rfl) (by decide) (fun s hs=>?_)
   have hs:s.length≤1000000:=hs
   have hu2:=UnpackReel_c.ok s (by omega)
   have hu3:=UnpackReel_s.ok s (by omega)
   have hut:=unL_tot s
   have hul:=unL_len s
   have hpu:unOk s=true→packs (unL s)=s:=fun h=>(packs_un h).1
   obtain ⟨bo,hbo⟩:∃bo,unOk s=bo:=⟨_,rfl⟩
   rw [hbo] at hu2 hu3 hpu
   clear hbo
   generalize unL s=us at*
   cases bo
   all_goals
    refine goR (r:=?_);and_intros<;>intros<;>try exact True.intro
    all_goals first|contradiction|omega|skip
    refine K.call ?_
    refine WpL.callF hu2 snapA locA outA rfl rfl rfl (by decide) ?_
    refine goR (r:=?_);and_intros<;>intros<;>try exact True.intro
    all_goals first|contradiction|omega|skip
    refine K.call ?_
    refine WpL.callF hu3 snapA locA outA rfl rfl rfl (by decide) ?_
    refine goR (r:=?_);and_intros<;>intros<;>try exact True.intro
    all_goals first|contradiction|omega|(exfalso;rename_i hg;revert hg;simp;done)|(exact absurd (hpu rfl) (by assumption))|skip
    refine K.call ?_
    refine WpL.callE (hs:=[]) (DrawPlayReel_x v l hl2) hp handA handOA rfl (fun _=>rfl) (fun _=>.nil) (fun _=>outA) rfl rfl (fun _=>rfl) (fun _=>rfl) (by decide) (fun ys hys=>?_)
    obtain ⟨hy2,hyt⟩:=hys
    have hpy:=packs_len ys
    have hvn:=un_packs (xs:=ys) (by omega) (fun x hx=>by have:=totR_mem hx;omega)
    have hpl0:=PlayReel_z (packs ys) (by omega) hvn.2
    rw [hvn.1] at hpl0
    have hpl:=FnC.stillT hpl0 (rs':=[.imm 3 ys.length (rows fzF (mz dcF ys ys.length)),.imm 1 ys.length (ints (mz dcC ys ys.length))]) (.own rfl rfl rfl (by simp) rfl (Snap.same rfl (still_rows (fun _=>rfl) _) (nofre_rows (fun _=>rfl) _)) (.own rfl rfl rfl (by simp) rfl (Snap.same rfl (still_ints _) (nofre_ints _)) .nil))
    have huy:=UnpackReel_s.ok (packs ys) (by omega)
    rw [hvn.1,hvn.2] at huy
    refine goR (r:=?_);and_intros<;>intros<;>try exact True.intro
    all_goals first|contradiction|omega|skip
    refine K.call ?_
    apply WpL.callK hpl
    ·exact .keep rfl rfl .nil
    ·decide
    refine goR (r:=?_);and_intros<;>intros<;>try exact True.intro
    all_goals first|contradiction|omega|skip
    refine K.call ?_
    refine WpL.callF huy snapA locA outA rfl rfl rfl (by decide) ?_
    refine goR (r:=?_);and_intros<;>intros<;>try exact True.intro
    all_goals first|contradiction|omega|(exfalso;rename_i hg;revert hg;simp;done)|skip
    refine WpA.loop (fun k:Nat=>⟨[(13,.imm 3 ys.length (rows fzF (mz dcF ys ys.length))),(14,.imm 1 ys.length (ints (mz dcC ys ys.length))),(15,.own 4 0 0 ys.length),(17,I k)],[SO xs,SO xs,SO us,SO us,SO ys]⟩) (fun k=>k≤ys.length) (fun k=>ys.length-k) 0 (Nat.zero_le _) (go (r:=?_)) (fun k hk=>?_)
    ·and_intros<;>first|exact True.intro|rfl
    by_cases hlt:k<ys.length
    ·have hmc:=mz_get dcC ys (0:Int) hlt
     have hmf:=mz_get dcF ys (default:Frm) hlt
     have hgk:=totR_get ys k
     have hfd:=FastDecode_c (ys.getD k []) (by omega)
     have hdl:=decF_lenR (ys.getD k [])
     have hdc:dcC (ys.getD k [])=(prS (ys.getD k [])).c:=rfl
     have hdf:dcF (ys.getD k [])=decF (ys.getD k []):=rfl
     refine goR (r:=?_);and_intros<;>intros<;>try exact True.intro
     all_goals first|contradiction|omega|skip
     try rw [Int.toNat_natCast]
     refine K.call ?_
     apply WpL.callK hfd
     ·exact .keep rfl rfl .nil
     ·decide
     have hdl2:((mz dcF ys ys.length).getD k default).P.length≤1024:=by rw [hmf];exact hdl
     have hbn:(!decide ((prS (ys.getD k [])).c=(mz dcC ys ys.length).getD k 0))=false:=by rw [hmc];simp
     have hsm:decide (((mz dcF ys ys.length).getD k default).W=(decF (ys.getD k [])).W∧((mz dcF ys ys.length).getD k default).H=(decF (ys.getD k [])).H∧((mz dcF ys ys.length).getD k default).P=(decF (ys.getD k [])).P)=true:=by rw [hmf];simp
     refine goR (r:=?_);and_intros<;>intros<;>try exact True.intro
     all_goals first|contradiction|omega|skip
     try dsimp only [List.append,List.cons_append,List.nil_append]
     apply WpA.regionMG 15 mixed (by decide +kernel)
     ·exact rfl
     ·apply HeadJ.consF rfl
      ·exact rfl
      ·exact in1
      ·exact rfl
      apply HeadJ.consF rfl
      ·exact rfl
      ·exact in1
      ·exact rfl
      apply HeadJ.consF rfl
      ·exact rfl
      ·exact in1
      ·exact rfl
      apply HeadJ.consF rfl
      ·exact rfl
      ·exact in1
      ·exact rfl
      apply HeadJ.consF rfl
      ·exact rfl
      ·exact in1
      ·exact rfl
      apply HeadJ.consB0 rfl
      ·exact rfl
      ·exact in1
      ·exact hbn
      ·exact rfl
      apply HeadJ.consF rfl
      ·exact rfl
      ·exact in1
      ·exact rfl
      apply HeadJ.consF rfl
      ·exact rfl
      ·(intro Tv;refine K.L ?_;refine K.gd ?_;refine K.gT rfl (by decide) rfl ?_;exact inG)
      ·exact rfl
      apply HeadJ.consF rfl
      ·exact rfl
      ·(intro Tv;refine K.L ?_;refine K.gd ?_;refine K.gT rfl (by decide) rfl ?_;exact inG)
      ·exact rfl
      apply HeadJ.consF rfl
      ·exact rfl
      ·(intro Tv;refine K.L ?_;refine K.gd ?_;refine K.gT rfl (by decide) rfl ?_;exact inG)
      ·exact rfl
      apply HeadJ.consF rfl
      ·exact rfl
      ·(intro Tv;refine K.L ?_;refine K.gd ?_;refine K.gT rfl (by decide) rfl ?_;exact inG)
      ·exact rfl
      apply HeadJ.consF rfl
      ·exact rfl
      ·(intro Tv;refine K.L ?_;refine K.gd ?_;refine K.gT rfl (by decide) rfl ?_;exact inG)
      ·exact rfl
      apply HeadJ.consF rfl
      ·exact rfl
      ·(intro Tv;refine K.L ?_;refine K.gd ?_;refine K.gT rfl (by decide) rfl ?_;exact inG)
      ·exact rfl
      apply HeadJ.consF rfl
      ·exact rfl
      ·(intro Tv;refine K.L ?_;refine K.gd ?_;refine K.gT rfl (by decide) rfl ?_;exact inG)
      ·exact rfl
      apply HeadJ.consF rfl
      ·exact rfl
      ·exact in1
      ·exact rfl
      exact Abs.HeadJ.nil
     ·exact trueA
     ·exact trueA
     ·exact rfl
     ·exact rfl
     refine goR (r:=?_);and_intros<;>intros<;>try exact True.intro
     all_goals first|contradiction|omega|(exact absurd (of_decide_eq_true hsm) (by assumption))
    ·refine goR (r:=?_);and_intros<;>intros<;>try exact True.intro
     all_goals first|contradiction|omega|(exact FinG.oI [] rfl (ResV.tmp rfl) (.keep rfl rfl rfl .nil) .nil rfl rfl)
  ·have hpe:packs xs=[]:=by unfold packs;rw [if_neg h8]
   have huc:=UnpackReel_c.ok [] (by decide)
   have hut:=unL_len []
   refine goR (r:=?_);and_intros<;>intros<;>try exact True.intro
   all_goals first|contradiction|omega|skip
   rw [hpe]
   refine K.call ?_
   refine WpL.callF huc snapA locA outA rfl rfl rfl (by decide) ?_
   refine goR (r:=?_);and_intros<;>intros<;>try exact True.intro
   all_goals first|contradiction|omega|(exact FinG.oI [] rfl (ResV.tmp rfl) (.keep rfl rfl rfl .nil) .nil rfl rfl)
end
theorem FnReels_c (l:List Int) (hl:l.length≤9223372036854775807):Fn 3 [CodA l] [] (B true):=FnC.of_pin fun v=>FnReels_p v l hl
end Go.Proofs.YtainhhfnnclfiaaGreat


namespace Go.Abs
open Go Go.RowKit
theorem FnC.walk {P:Program} {f:FuncId} {args:List AV} {N:List AObj} {x:Value} (hc:FnC P f args N (.sc x)) {w:World} {S:Nat→Prop} {vs:List Value} (hS:∀b,S b→b<w.heap.size)
 (hl:LRel S w (fun _=>none) [] args vs []):Calls P f vs.toArray w fun e w'=>e=.returned x∧Below w.heap.size w w':=by
 refine (hc.2 w S vs hS hl).mono fun e w' h=>?_
 obtain ⟨v,S',ι,F,rfl,_,_,_,_,_,hv,hk⟩:=h
 cases hv with
 |sc r=>exact ⟨rfl,hk.os,hk.tape,hk.output,hk.size,fun b hb=>hk.block b hb (fun h=>h)⟩
theorem spot_none {w:World} {x:Addr} {n:Nat} (h:0<n) (hc:∀i,i<n→∃v,w.cell? (x.add i)=some v):x.spot=none:=by
 obtain ⟨v,hv⟩:=hc 0 h
 simpa [Addr.add] using World.cell?_spot hv
end Go.Abs


namespace Go.Abs
open Go Go.RowKit
inductive Sp where
 |int (k:IntKind)|bool|str|struct (fs:List Sp)|slice (k:Nat) (e:Sp)
mutual
inductive SpOk (P:Program):TypeId→Sp→Prop
 |int {t k}:P.underlying t=some (.int k)→SpOk P t (.int k)
 |bool {t}:P.underlying t=some .bool→SpOk P t .bool
 |str {t}:P.underlying t=some .string→SpOk P t .str
 |struct {t fs sps n}:P.underlying t=some (.struct fs)→P.cellsOf t=n→SpF P 0 fs.toList sps n→SpOk P t (.struct sps)
 |slice {t e k sp}:P.underlying t=some (.slice e)→P.cellsOf e=k→0<k→SpOk P e sp→SpOk P t (.slice k sp)
inductive SpF (P:Program):Nat→List Field→List Sp→Nat→Prop
 |nil {k}:SpF P k [] [] k
 |cons {k c f fs sp sps n}:f.offset=k→P.cellsOf f.type=c→SpOk P f.type sp→SpF P (k+c) fs sps n→SpF P k (f::fs) (sp::sps) n
end
mutual
inductive Rd:Sp→List AV→Prop
 |int {k n}:(Lit.int k n).wf=true→Rd (.int k) [.sc (.int k n)]
 |bool {b}:Rd .bool [.sc (.bool b)]
 |str {p:List UInt8}:p.length≤maxLen→Rd .str [.sc (.string ⟨p.toArray⟩)]
 |struct {sps cs}:RdF sps cs→Rd (.struct sps) cs
 |slice {sp len k cs}:len≤maxLen→RdN sp len k cs→Rd (.slice k sp) [.imm k len cs]
inductive RdF:List Sp→List AV→Prop
 |nil:RdF [] []
 |cons {sp sps a b}:Rd sp a→RdF sps b→RdF (sp::sps) (a++b)
inductive RdN:Sp→Nat→Nat→List AV→Prop
 |nil {sp k}:RdN sp 0 k []
 |snoc {sp n k a b}:RdN sp n k a→Rd sp b→b.length=k→RdN sp (n+1) k (a++b)
end
theorem RdN.len {sp n k cs} (h:RdN sp n k cs):cs.length=n*k:=by
 induction n generalizing cs with
 |zero=>cases h;simp
 |succ n ih=>cases h with|snoc h1 h2 h3=>rw [List.length_append,ih h1,h3,Nat.add_mul];omega
section
variable {H:Type} {enc:TypeId×Value→H} {P:Program} {w:World} {base:Nat} {spare:Nat→Bool} {held:Bool}
theorem read {S:Nat→Prop} {ι:Nat→Spot} (hS:∀b,b<w.heap.size→S b):∀(fuel:Nat) (t:TypeId) (sp:Sp) (cs:List Value) (x:DataW H×List MemPlace),SpOk P t sp→
 DataW.trod enc P w base spare held fuel t cs=some x→∃ds,Rd sp ds∧∀O,LRel S w ι O ds cs []:=by
 intro fuel
 induction fuel with
 |zero=>intro t sp cs x _ h;simp [DataW.trod] at h
 |succ fuel ih=>
  intro t sp cs x hsp h
  cases hsp with
  |int ht=>
   obtain ⟨n,rfl,_,hw⟩:=DataW.trod_int ht h
   exact ⟨_,.int hw,fun O=>.sc .nil⟩
  |bool ht=>
   obtain ⟨b,rfl,_⟩:=DataW.trod_bool ht h
   exact ⟨_,.bool,fun O=>.sc .nil⟩
  |str ht=>
   obtain ⟨s,rfl,_,hs⟩:=DataW.trod_string ht h
   exact ⟨[.sc (.string ⟨s.data.toList.toArray⟩)],.str (by have:s.data.toList.length=s.size:=rfl;omega),fun O=>.sc .nil⟩
  |@struct _ fs sps n ht hn hf=>
   obtain ⟨xs,m,hm,_,hlen,hxl,hel⟩:=DataW.trod_struct ht h
   obtain rfl:fuel=m:=by omega
   have key:∀(fl:List Field) (k:Nat) (sps:List Sp),SpF P k fl sps n→(∀ f∈fl,∃x,DataW.trod enc P w base spare held fuel f.type ((cs.drop f.offset).take (P.cellsOf f.type))=some x)→
    k≤n→∃ds,RdF sps ds∧∀O,LRel S w ι O ds (cs.drop k) []:=by
    intro fl
    induction fl with
    |nil=>
     intro k sps hF _ _
     cases hF
     exact ⟨[],.nil,fun O=>by rw [List.drop_eq_nil_of_le (by omega)];exact .nil⟩
    |cons f fl ihf=>
     intro k sps hF hx hk
     cases hF with
     |cons h1 h2 h3 h4=>
      obtain ⟨y,hy⟩:=hx f (by simp)
      obtain ⟨d1,r1,l1⟩:=ih _ _ _ _ h3 hy
      have hkn:∀{k fl sps},SpF P k fl sps n→k≤n:=by
       intro k fl
       induction fl generalizing k with
       |nil=>intro sps h;cases h;exact Nat.le_refl _
       |cons f fl ih2=>intro sps h;cases h with|cons _ _ _ h=>have:=ih2 h;omega
      obtain ⟨d2,r2,l2⟩:=ihf _ _ h4 (fun g hg=>hx g (by simp [hg])) (hkn h4)
      refine ⟨d1++d2,.cons r1 r2,fun O=>?_⟩
      have e:cs.drop k=(cs.drop f.offset).take (P.cellsOf f.type)++cs.drop (k+P.cellsOf f.type):=by
       rw [h1,←List.drop_drop,List.take_append_drop]
      rw [e,h2]
      rw [h2] at l1
      simpa using (l1 O).append (l2 O)
   obtain ⟨ds,r,l⟩:=key fs.toList 0 sps hf (fun f hf'=>by
    obtain ⟨i,hi⟩:=List.getElem?_of_mem hf'
    have hi':fs[i]?=some f:=by simpa using hi
    have:=hel i f hi'
    have hlt:i<xs.length:=by have:=(Array.getElem?_eq_some_iff.1 hi').1;omega
    exact ⟨xs[i],by rw [this];simp [hlt]⟩) (Nat.zero_le _)
   exact ⟨ds,.struct r,fun O=>by simpa using l O⟩
  |@slice _ e k sp ht hk hk0 he=>
   rcases DataW.trod_slice ht h with ⟨rfl,_⟩|⟨a,len,cap,elems,rest,m,hm,rfl,_,hb,hl,hc,hlen,hel,_,_⟩
   ·exact ⟨[.imm k 0 []],.slice (by simp) .nil,fun O=>.imm0 (by simp) .nil⟩
   obtain rfl:fuel=m:=by omega
   have cells:∀j,j≤len→∃ds us,RdN sp j k ds∧us.length=j*k∧(∀ i,i<us.length→w.cell? (a.add i)=us[i]?)∧LRel S w ι [] ds us []:=by
    intro j
    induction j with
    |zero=>intro _;exact ⟨[],[],.nil,by simp,by simp,.nil⟩
    |succ j ihj=>
     intro hj
     obtain ⟨ds,us,h1,h2,h3,h4⟩:=ihj (by omega)
     have hx:=hel j (by omega)
     have hlt:j<elems.length:=by omega
     rw [List.getElem?_eq_getElem hlt,Option.bind_eq_some_iff,hk] at hx
     obtain ⟨us2,hu,ht2⟩:=hx
     obtain ⟨d2,r2,l2⟩:=ih _ _ _ _ he ht2
     obtain ⟨_,c2,c3⟩:=World.cells?_some hu
     have l2':=l2 []
     have hd2:d2.length=k:=by rw [l2'.len,c2]
     refine ⟨ds++d2,us++us2,.snoc h1 r2 hd2,by rw [List.length_append,h2,c2,Nat.add_mul];omega,fun i hi=>?_,by simpa using h4.append l2'⟩
     rw [List.length_append] at hi
     by_cases hlt2:i<us.length
     ·rw [h3 i hlt2,List.getElem?_append_left hlt2]
     ·have hadd:a.add i=(a.add (j*k)).add (i-j*k):=by
       unfold Addr.add
       by_cases hz:j*k=0
       ·simp [hz]
       ·by_cases hz2:i-j*k=0
        ·have:i=j*k:=by omega
         simp [this]
        ·rw [if_neg (by omega),if_neg hz,if_neg hz2]
         simp only [Addr.mk.injEq,true_and,and_true]
         omega
      rw [hadd,c3 (i-j*k) (by omega),List.getElem?_append_right (by omega),h2]
   obtain ⟨ds,us,h1,h2,h3,h4⟩:=cells len (Nat.le_refl _)
   refine ⟨[.imm k len ds],.slice (by omega) h1,fun O=>?_⟩
   by_cases h0:len=0
   ·subst h0
    cases h1
    exact .imm0 ⟨by simp,hc⟩ .nil
   ·have hul:0<us.length:=by rw [h2];exact Nat.mul_pos (by omega) hk0
    have hsp:=spot_none (w:=w) (x:=a) (n:=us.length) hul fun i hi=>⟨us[i],by rw [h3 i hi];simp [hi]⟩
    obtain ⟨b,o,q⟩:=a
    simp only at hsp
    subst hsp
    have hcell:∀i,i<us.length→w.cell? ⟨b,o+i,none⟩=us[i]?:=fun i hi=>by have:=h3 i hi;rwa [addr_add] at this
    refine .imm (us:=us) (hS _ ?_) hcell h4 (by rw [h1.len]) hl hc .nil
    by_cases hb':b<w.heap.size
    ·exact hb'
    ·have:=hcell 0 hul
     simp [World.cell?,Array.getElem?_eq_none (Nat.le_of_not_lt hb'),hul] at this
end
end Go.Abs


namespace Go.Abs
open Go Go.RowKit
abbrev i64 (n:Int):Prop:=-9223372036854775808≤n∧n≤9223372036854775807
theorem lrel_cons0 {S:Nat→Prop} {w:World} {ι:Nat→Spot} {O:List AObj} {V:AV} {v:Value} {cs:List AV} {vs:List Value} (h1:VRel S w ι O V v []) (h2:LRel S w ι O cs vs []):LRel S w ι O (V::cs) (v::vs) []:=LRel.cons h1 h2
end Go.Abs


namespace Go.Proofs.YtainhhfnnclfiaaGreat
open Go Go.Abs Go.RowKit
theorem rdN_u8s {n:Nat} {cs:List AV} (h:RdN (.int .u8) n 1 cs):∃xs:List Int,cs=u8s xs∧xs.length=n∧∀x∈xs,0≤x∧x≤255:=by
 induction n generalizing cs with
 |zero=>cases h;exact ⟨[],rfl,rfl,by simp⟩
 |succ n ih=>
  cases h with
  |snoc h1 h2 h3=>
   obtain ⟨xs,rfl,h5,h6⟩:=ih h1
   cases h2 with
   |@int k m hw=>
    refine ⟨xs++[m],by simp [u8s],by simp [h5],fun x hx=>?_⟩
    rcases List.mem_append.1 hx with hx|hx
    ·exact h6 x hx
    ·have:x=m:=by simpa using hx
     subst this
     simpa [Lit.wf,show IntKind.u8.min=0 from rfl,show IntKind.u8.max=255 from rfl] using hw
theorem rd_u8s {ds:List AV} (h:Rd (.slice 1 (.int .u8)) ds):∃xs:List Int,ds=[.imm 1 xs.length (u8s xs)]∧xs.length≤9223372036854775807∧∀x∈xs,0≤x∧x≤255:=by
 cases h with
 |slice hl hn=>
  obtain ⟨xs,rfl,h1,h2⟩:=rdN_u8s hn
  subst h1
  exact ⟨xs,rfl,by simp only [maxLen] at hl;omega,h2⟩
end Go.Proofs.YtainhhfnnclfiaaGreat
